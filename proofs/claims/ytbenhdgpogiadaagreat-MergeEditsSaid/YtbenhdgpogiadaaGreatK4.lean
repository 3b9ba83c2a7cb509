/- Contracts and laws. Conditions: those of each. -/
import Derived.Test.YtbenhdgpogiadaaGreatK3
import Derived.Test.YtbenhdgpogiadaaGreatK1
import Derived.WalkKit
import Derived.Shelf.RegionOpenPlain
import Derived.Shelf.SlSortCmp.QuietGrown
import Derived.StillTailTactics
import Derived.Handy
import Derived.Below
import Derived.Shelf.SlSortCmp.NoneTotal
import Derived.Ground.SlsfProg
set_option linter.unusedSimpArgs false
set_option linter.unusedVariables false
open List renaming length_map -> waa, length_append -> wab, map_nil -> wac, length_cons -> wad, map_cons -> wae, map_append -> waf, length_nil -> wag, take_succ_eq_append_getElem -> wah, mem_map -> wai, length_take -> waj, append_assoc -> wak, flatMap_cons -> wal, cons_append -> wam, getElem?_eq_getElem -> wan, map_map -> wao
open ByteArray renaming empty -> wap
open Int renaming toNat_natCast -> waq
open Nat renaming lt_or_ge -> war, le_trans -> was, le_refl -> wat
open Bool renaming and_eq_true -> wau, eq_iff_iff -> wav
namespace Go.Proofs.YtbenhdgpogiadaaGreat
open Go.Aw
open Tryz
set_option maxRecDepth 100000
set_option maxHeartbeats 1000000
def iK(l:List Nat):List D:=l.map fun(n:Nat)=>D.lit (.int .i64 (n:Int))
def iV(l:List Nat):List D:=l.map fun _=>D.lit (.bool true)
theorem iK_ok(l:List Nat)(h: ∀n∈l,n<=9223372036854775807): ∀y∈iK l,zd3 prog 3 y:=by
 intro y hy;obtain⟨n,hn,rfl⟩:=List.mem_map.1 hy;have:=h n hn;refine ziP ?_;simp only[Lit.wf,wau,decide_eq_true_eq];have h1:IntKind.i64.min= -9223372036854775808:=by decide
 have h2:IntKind.i64.max=9223372036854775807:=by decide
 rw[h1,h2];omega
def hasI(l:List Nat)(z:Int):Bool:=l.any fun n=>(n:Int)==z
theorem zlj(l:List Nat)(n:Nat):hasI l n=l.contains n:=by
 rw[wav];simp only[hasI,List.any_eq_true,beq_iff_eq,List.contains_eq_mem,decide_eq_true_eq];constructor
 ·rintro⟨x,h1,h2⟩; have:x=n:=by omega
  subst this; exact h1
 ·intro h; exact⟨n,h,rfl⟩
theorem ziT: ∀(l:List Nat) (z:Int),(zjZ (iK l) (iV l) (.lit (.int .i64 z))).getD (.lit (.bool false))= .lit (.bool (hasI l z))
 | [],z=>by simp[iK,iV,zjz,hasI]
 | a::l,z=>by
  have ih:=ziT l z;simp only[iK,iV,wae,zhM,hasI,List.any_cons]at ih ⊢;by_cases h:(a:Int)=z
  ·subst h; simp
  ·have h': ¬(D.lit (.int .i64 a)=D.lit (.int .i64 z)):=by simp; exact h
   rw[if_neg h',ih];simp[h]
theorem put_i{l:List Nat}{n:Nat}(h:l.contains n=false):AO.map (zgQ (iK l) (.lit (.int .i64 n))) (zjk (iK l) (iV l) (.lit (.int .i64 n)) (.lit (.bool true))) (zjs (iK l) (List.range l.length) l.length (.lit (.int .i64 n))) (zjT (iK l) l.length (.lit (.int .i64 n)))=
  AO.map (iK (l++[n])) (iV (l++[n])) (List.range (l++[n]).length) (l++[n]).length :=by
 have hn:(D.lit (.int .i64 n))∉iK l:=by
  intro hm;obtain⟨a,ha,e⟩:=List.mem_map.1 hm;simp only[D.lit.injEq,Value.int.injEq,true_and]at e;have:a=n:=by omega
  subst this;simp at h; exact h ha
 have hk: ¬zeN (iK l) (.lit (.int .i64 n))<(iK l).length :=fun h'=>hn (zcO.1 h');rw[zdt hn,zdu hn,zjs,zjT,if_neg hk,if_neg hk];simp only[iK,iV,waf,wae,wac,wab,wad,wag,Nat.zero_add,List.range_succ]
def zbE(l:List Module)(x:Item):Option Nat:=if x.kind.1=9 then(zcA l x.of).map Int.toNat else none
def zbH(l:List Module)(rec:Nat->List Nat->Bool×List Nat)(to:Nat):List Item->List Nat->Bool×List Nat
 | [],s=>(false,s)
 | x::r,s=>match zbE l x with
  | none=>zbH l rec to r s
  | some i=>if s.contains i=true then zbH l rec to r s else if i=to then(true,s++[i])else
   match rec i (s++[i])with
   | (true,s')=>(true,s')
   | (false,s')=>zbH l rec to r s'
def zc1(l:List Module)(to:Nat):Nat->Nat->List Nat->Bool×List Nat
 | 0,_,s=>(false,s)
 | n+1,i,s=>zbH l (zc1 l to n) to (l.getD i ⟨emp,emp,[],[]⟩).items s
def zev(l:List Module)(s:List Nat):Nat:=(List.range l.length).countP fun k=> !s.contains k
theorem ziN{l:List Module}{x:Item}{i:Nat}(h:zbE l x=some i):i<l.length/\zcA l x.of=some (i:Int):=by
 unfold zbE at h;split at h
 ·rw[Option.map_eq_some_iff]at h;obtain⟨z,h1,h2⟩:=h;obtain⟨k,hk,rfl,_⟩:=zfB h1;simp only[waq]at h2;subst h2;exact⟨hk,h1⟩
 ·cases h
def sup(l:List Module)(a b:List Nat):Prop:=(∀k∈a,k∈b)/\((∀k∈a,k<l.length)-> ∀k∈b,k<l.length)
theorem zlO(l:List Module)(a:List Nat):sup l a a:=⟨fun _ h=>h,fun h=>h⟩
theorem zfq{l:List Module}{a b c:List Nat}(h:sup l a b)(h':sup l b c):sup l a c:=⟨fun k hk=>h'.1 k (h.1 k hk),fun ha=>h'.2 (h.2 ha)⟩
theorem zlN{l:List Module}{a:List Nat}{i:Nat}(hi:i<l.length):sup l a (a++[i]):=⟨fun k hk=>by simp[hk],fun ha k hk=>by
 rcases List.mem_append.1 hk with hk | hk
 ·exact ha k hk
 ·simp at hk; subst hk; exact hi⟩
theorem zfG{l:List Module}{rec:Nat->List Nat->Bool×List Nat}{to:Nat}(hr: ∀i s,sup l s (rec i s).2): ∀(r:List Item) (s:List Nat),sup l s (zbH l rec to r s).2
 | [],s=>zlO l s
 | x::r,s=>by
  unfold zbH;split
  ·exact zfG hr r s
  ·rename_i i hi;have hi':=(ziN hi).1;split
   ·exact zfG hr r s
   ·split
    ·exact zlN hi'
    ·have h1:=hr i (s++[i]);split
     ·rename_i s' e; rw[e]at h1; exact zfq (zlN hi') h1
     ·rename_i s' e; rw[e]at h1; exact zfq (zlN hi') (zfq h1 (zfG hr r s'))
theorem zi3(l:List Module)(to:Nat): ∀(n i:Nat) (s:List Nat),sup l s (zc1 l to n i s).2
 | 0,_,s=>zlO l s
 | n+1,_,s=>zfG (fun i s=>zi3 l to n i s) _ s
theorem znf{l:List Module}{a b:List Nat}(h: ∀k∈a,k∈b):zev l b<=zev l a:=by
 unfold zev;refine List.countP_mono_left fun k _ hk=> ?_;simp only[Bool.not_eq_true',List.contains_eq_mem,decide_eq_false_iff_not]at hk ⊢;exact fun h'=>hk (h k h')
theorem zng{l:List Module}{a:List Nat}{i:Nat}(hi:i<l.length)(ha:a.contains i=false):zev l (a++[i])<zev l a:=by
 have: ∀n,i<n->(List.range n).countP (fun k=> !(a++[i]).contains k)<(List.range n).countP (fun k=> !a.contains k):=by
  intro n
  induction n with
  | zero=>intro h; omega
  | succ n ih=>
   intro h;have hle:(List.range n).countP (fun k=> !(a++[i]).contains k)<=(List.range n).countP (fun k=> !a.contains k):=List.countP_mono_left fun k _ hk=>by
    simp only[Bool.not_eq_true',List.contains_eq_mem,decide_eq_false_iff_not,List.mem_append]at hk ⊢;exact fun h'=>hk (.inl h')
   simp only[List.range_succ,List.countP_append,List.countP_cons,List.countP_nil,Nat.zero_add];by_cases hn:n=i
   ·subst hn;have e1:(!(a++[n]).contains n)=false:=(by simp);have e2:(!a.contains n)=true:=(by rw[ha]; rfl);rw[e1,e2];simp only[Bool.false_eq_true,if_false,if_true,Nat.add_zero];omega
   ·have:=ih (by omega);have e1:(!(a++[i]).contains n)=(!a.contains n):=(by simp[hn]);rw[e1];omega
 exact this _ hi
theorem reach_c(l:List Module)(ks vs:List D)(bs:List Nat)(cl:Nat)(to:Nat)(hok:D.ok (zab l))(n:Nat): ∀(i:Nat) (s:List Nat) (hi:i<l.length) (hs: ∀k∈s,k<l.length) (hn:zev l s<n),
  FnL prog 199 [.agg [.d (zab l),.d (zaF l),.mo 1],.d (eI i),.d (eI to),.mo 0] [(0,.map (iK s) (iV s) (List.range s.length) s.length),(1,.map ks vs bs cl)]
   (fun V ol new=>V= .d (eB (zc1 l to n i s).1)/\ol=[(0,.map (iK (zc1 l to n i s).2) (iV (zc1 l to n i s).2) (List.range (zc1 l to n i s).2.length) (zc1 l to n i s).2.length),(1,.map ks vs bs cl)]/\new=[]):=by
 induction n with
 | zero=>intro _ _ _ _ hn; omega
 | succ n ih=>
  intro i s hi hs hn;obtain⟨m,hm⟩:=zX (l[i]);have hR:zc1 l to (n+1) i s=zbH l (zc1 l to n) to m.items s:=by
   have:l.getD i ⟨emp,emp,[],[]⟩=m:=by simp[List.getD,hi,hm]
   rw[zc1,this]
  rw[hR];have hll:l.length<=9223372036854775807:=(za9 hok).1;have hml:m.items.length<=9223372036854775807:=by
   have h2:=(za9 hok).2 m (hm▸List.getElem_mem hi);simp only[zaf,D.okL]at h2;exact(za9 h2.2.2.2.1).1
  obtain⟨R,hR'⟩:=zX (zbH l (zc1 l to n) to m.items s);rw[hR'];refine FnL.of_eC (own:=[]) (fun i=>if i=2007 then []else chL i) [0,3] zat func199 rfl call199 ntmps199 (zle rfl) results199 ?_;simp only[ZE,seval,zFI,zai hi,zaa hi,hm,zN];refine zgR (X:=List Nat) (fun _ i=>if i=2007 then []else chL i) zat m.items.length (fun j s'=>zbH l (zc1 l to n) to (m.items.drop j) s'=R/\sup l s s') (fun j s'=>([(0,.agg [.d (zab l),.d (zaF l),.mo 1]),(1,.d (eI i)),(2,.d (eI to)),(3,.mo 0),(4,.bp 4 0),(19,.d (zbR m.items)),(20,.d (eI m.items.length)),(21,.d (eI j))],
   [(4,.box [.d (zab l),.d (zaF l),.mo 1]),(0,.map (iK s') (iV s') (List.range s'.length) s'.length),(1,.map ks vs bs cl)])) s ⟨by rw[List.drop_zero]; exact hR',zlO l s⟩ ?_ ?_ (fun j s' hj hI=> ?_)
  ·simp only[ZE,seval,zFI]
  ·simp only[ZE,seval,zFI]
  obtain⟨hI1,hI2⟩:=hI;have hs':=hI2.2 hs;rcases war j m.items.length with h | h
  ·have hw:=zaq (show j<9223372036854775807 by omega);rw[List.drop_eq_getElem_cons h,zbH]at hI1;obtain⟨x,hx⟩:=zX (m.items[j]);rw[hx]at hI1;by_cases k9:x.kind.1=9
   ·cases hf:get (znH l) x.of with
    | none=>
     have hin:zbE l x=none:=(by unfold zbE; rw[if_pos k9]; simp[zcA,hf]);rw[hin]at hI1;simp only[ZE,seval,zaw h,zaa h,zai h,hx,zN,hw,k9,hf,zFI,zep,ziT];exact⟨fun y hy=>zcr _ y hy,h,s',⟨hI1,hI2⟩,rfl⟩
    | some z=>
     obtain⟨k,hk,rfl,_⟩:=zfB (l:=l) (n:=x.of) hf;have hin:zbE l x=some k:=(by unfold zbE; rw[if_pos k9]; simp[zcA,hf]);rw[hin]at hI1;simp only at hI1;have hkok:=iK_ok s' (fun n hn=>was (Nat.le_of_lt (hs' n hn)) hll);have hk1:=iK_ok [k] (fun n hn=>by simp at hn; subst hn; exact was (Nat.le_of_lt hk) hll) (.lit (.int .i64 k)) (by simp[iK]);cases hc:s'.contains k with
     | true=>
      rw[hc]at hI1;simp only[ZE,seval,zaw h,zaa h,zai h,hx,zN,hw,k9,hf,zFI,zep,ziT,zlj,hc,zph,hk1,hkok];exact⟨fun y hy=>zcr _ y hy,hkok,h,s',⟨hI1,hI2⟩,rfl⟩
     | false=>
      rw[hc]at hI1;simp only[Bool.false_eq_true,if_false]at hI1;have hput:=put_i hc;by_cases hto:k=to
      ·rw[if_pos hto]at hI1;have hto':((k:Int)==(to:Int))=true:=(by simp[hto]);simp only[ZE,seval,zaw h,zaa h,zai h,hx,zN,hw,k9,hf,zFI,zep,ziT,zlj,hc,hput,hto',zph,hk1,hkok];refine⟨fun y hy=>zcr _ y hy,hkok,hkok,[4,10],[],?_⟩;simp only[ZE,seval,<-hI1]
      ·rw[if_neg hto]at hI1;have hto':((k:Int)==(to:Int))=false:=(by simp; omega);simp only[ZE,seval,zaw h,zaa h,zai h,hx,zN,hw,k9,hf,zFI,zep,ziT,zlj,hc,hput,hto',zph,hk1,hkok];refine⟨fun y hy=>zcr _ y hy,hkok,hkok,?_⟩;have hsup:sup l s' (s'++[k]):=zlN hk;have hun:=zng hk hc;have hle:=znf (l:=l) hI2.1;have hcc:=ih k (s'++[k]) hk (hsup.2 hs') (by omega);have hsr:=zi3 l to n k (s'++[k]);obtain⟨⟨b,s2⟩,hr⟩: ∃r,zc1 l to n k (s'++[k])=r:=⟨_,rfl⟩;rw[hr]at hcc hI1 hsr;simp only[ZE,seval,zFI]at hcc;refine EFn.g ⟨[(0,0),(1,1)],_,_,_,hcc,?_⟩;simp only[ZE,seval,zFI];rintro V ol new ⟨rfl,rfl,rfl⟩;cases b with
       | true=>
        simp only[ZE,seval,zFI];refine⟨[4,10],[],?_⟩;simp only at hI1;simp only[ZE,seval,<-hI1]
       | false=>
        simp only[ZE,seval,zFI,hw,zep];exact⟨h,s2,⟨hI1,zfq hI2 (zfq hsup hsr)⟩,rfl⟩
   ·have hin:zbE l x=none:=(by unfold zbE; rw[if_neg k9]);have k9':(x.kind.1 !=9)=true:=(by simpa using k9);rw[hin]at hI1;have hkok:=iK_ok s' (fun n hn=>was (Nat.le_of_lt (hs' n hn)) hll);cases hf:get (znH l) x.of with
    | none=>
     simp only[ZE,seval,zaw h,zaa h,zai h,hx,zN,hw,k9',hf,zFI,zep,ziT];exact⟨fun y hy=>zcr _ y hy,h,s',⟨hI1,hI2⟩,rfl⟩
    | some z=>
     obtain⟨k,hk,rfl,_⟩:=zfB (l:=l) (n:=x.of) hf;simp only[ZE,seval,zaw h,zaa h,zai h,hx,zN,hw,k9',hf,zFI,zep,ziT];exact⟨fun y hy=>zcr _ y hy,h,s',⟨hI1,hI2⟩,rfl⟩
  ·have:j=m.items.length:=by omega
   subst this;rw[List.drop_length,zbH]at hI1;simp only[ZE,seval,zaI h,zFI];refine⟨[4],[],?_⟩;simp only[ZE,seval,<-hI1]
theorem keyedP:zj0 prog 221:=Go.Maps.Keyed.of_law (deep_law_laid (P:=prog) (by kernel_rfl) (m:=3) (by omega) (Nat.le_of_ble_eq_true (by kernel_rfl)) (by kernel_rfl) (by kernel_rfl))
def zb7(p:Problem):Prop:=(Lit.int .i64 p.code).wf =true/\(Lit.int .i64 p.module).wf =true/\(Lit.int .i64 p.item).wf =true
def fsOf(P:Program)(t:TypeId):Option (List (TypeId×Nat)×Bool):=match P.underlying t with
 | some (.struct fs) => some (fs.toList.map fun f => (f.type,f.offset),fs.all (·.name != "_"))
 | _=>none
theorem fsP:fsOf prog 221=some ([(3,0),(3,1),(3,2)],true):=by kernel_rfl
theorem keyP:prog.keyType 221=true:=by kernel_rfl
theorem cellsP:prog.cellsOf 221=3:=by kernel_rfl
theorem cellsI:prog.cellsOf 3=1:=by kernel_rfl
theorem sizeT: ∃n,prog.types.size=n+1:=⟨_,(by kernel_rfl:prog.types.size=(prog.types.size-1)+1)⟩
def zcU(p:Problem):D:=.agg (zbW p)
theorem zki{p:Problem}(h:zb7 p):zd3 prog 221 (zcU p):=by
 have hf:=fsP;unfold fsOf at hf;split at hf
 ·rename_i fs hu;simp only[Option.some.injEq,Prod.mk.injEq]at hf;obtain⟨h1,h2⟩:=hf;obtain⟨n,hn⟩:=sizeT;have hmap: ∀(g:TypeId×Nat->Option (List Lit)),fs.toList.mapM (fun f=>g (f.type,f.offset))=List.mapM g [(3,0),(3,1),(3,2)]:=by
   intro g;rw[<-h1,List.mapM_map];rfl
  have one: ∀x,(Lit.int .i64 x).wf =true->prog.keyLits (n+1) 3 [Value.int .i64 x]=some [Lit.int .i64 x]:=by
   intro x hx;simp[Program.keyLits,tU3,hx]
  have:prog.keyLits (prog.types.size+1) 221 [Value.int .i64 p.code,.int .i64 p.module,.int .i64 p.item]=some [.int .i64 p.code,.int .i64 p.module,.int .i64 p.item]:=by
   rw[hn];unfold Program.keyLits;rw[hu];simp only[wad,wag,cellsP,h2,and_self,if_true];have:=hmap (fun x=>Program.keyLits prog (n+1) x.1 ((List.drop x.2 [Value.int .i64 p.code,.int .i64 p.module,.int .i64 p.item]).take (prog.cellsOf x.1)));simp only at this;rw[this];simp[cellsI,one _ h.1,one _ h.2.1,one _ h.2.2]
  refine⟨.agg #[.int .i64 p.code,.int .i64 p.module,.int .i64 p.item],.string (keyBytes [.int .i64 p.code,.int .i64 p.module,.int .i64 p.item]),rfl,?_⟩;have hform:Value.formed prog 221 (.agg #[.int .i64 p.code,.int .i64 p.module,.int .i64 p.item])=true:=by
   simp[Value.formed,hu,cellsP]
  unfold keyOf;rw[hu];simp only[keyP,hform,Bool.and_self,if_true];have hc:(Value.agg #[.int .i64 p.code,.int .i64 p.module,.int .i64 p.item]).cells.toList =[Value.int .i64 p.code,.int .i64 p.module,.int .i64 p.item]:=rfl;rw[hc,this];rfl
 ·cases hf
theorem zhk{p q:Problem}(h:zcU p=zcU q):p=q:=by
 obtain⟨a,b,c⟩:=p;obtain⟨a',b',c'⟩:=q;simp[zcU,zbW,eI]at h;simp[h]
def pK(l:List Problem):List D:=l.map zcU
def pV(l:List Problem):List D:=l.map fun _=>D.lit (.bool true)
def zaS(l:List Problem):AO:=.map (pK l) (pV l) (List.range l.length) l.length
def zuN(l:List Problem)(p:Problem):List Problem:=if p∈l then l else l++[p]
def zaO(l:List Problem)(b:Bool)(p:Problem):List Problem:=if b=true then zuN l p else l
theorem addP_in{l:List Problem}{p:Problem}(h: ∀q∈l,zb7 q)(hp:zb7 p): ∀q∈zuN l p,zb7 q:=by
 intro q hq;unfold zuN at hq;split at hq
 ·exact h q hq
 ·rcases List.mem_append.1 hq with hq | hq
  ·exact h q hq
  ·simp at hq; subst hq; exact hp
theorem za8{l:List Problem}{b:Bool}{p:Problem}(h: ∀q∈l,zb7 q)(hp:zb7 p): ∀q∈zaO l b p,zb7 q:=by
 unfold zaO;split
 ·exact addP_in h hp
 ·exact h
theorem pK_ok{l:List Problem}(h: ∀q∈l,zb7 q): ∀y∈pK l,zd3 prog 221 y:=by
 intro y hy;obtain⟨q,hq,rfl⟩:=List.mem_map.1 hy;exact zki (h q hq)
theorem put_p(l:List Problem)(p:Problem):AO.map (zgQ (pK l) (zcU p)) (zjk (pK l) (pV l) (zcU p) (.lit (.bool true))) (zjs (pK l) (List.range l.length) l.length (zcU p)) (zjT (pK l) l.length (zcU p))=zaS (zuN l p):=by
 have hmem:zcU p∈pK l↔p∈l:=by
  constructor
  ·intro h;obtain⟨q,hq,e⟩:=List.mem_map.1 h;rw[<-zhk e]; exact hq
  ·intro h; exact List.mem_map_of_mem h
 unfold zuN;by_cases h:p∈l
 ·rw[if_pos h];have hlt:=zcO.2 (hmem.2 h);have hset:(pV l).set (zeN (pK l) (zcU p)) (D.lit (.bool true))=pV l:=by
   apply List.ext_getElem (by simp);intro i h1 h2;rw[List.getElem_set];split
   ·simp[pV]
   ·rfl
  simp only[zgQ,zjk,zjs,zjT,if_pos hlt,hset,zaS]
 ·rw[if_neg h];have hn:zcU p∉pK l:=fun h'=>h (hmem.1 h');have hk: ¬zeN (pK l) (zcU p)<(pK l).length :=fun h'=>hn (zcO.1 h');rw[zdt hn,zdu hn,zjs,zjT,if_neg hk,if_neg hk];simp only[zaS,pK,pV,waf,wae,wac,wab,wad,wag,Nat.zero_add,List.range_succ]
theorem za5(l:List Module)(F:List Problem)(hF: ∀q∈F,zb7 q)(b:Bool)(p:Problem)(hp:zb7 p):
  FnL prog 198 [.agg [.d (zab l),.d (zaF l),.mo 1],.d (eI p.code),.d (eI p.module),.d (eI p.item),.d (eB b)] [(1,zaS F)] (fun V ol new=>V= .tup []/\ol=[(1,zaS (zaO F b p))]/\new=[]):=by
 have hput:=put_p F p;have hk:=zki hp;simp only[zcU,ZE,seval,zaS]at hput hk;refine FnL.of_eC (own:=[]) (fun _=>[]) [0] zat func198 rfl call198 ntmps198 (zle rfl) results198 ?_;cases b with
 | true=>
  simp only[ZE,seval,zaS,keyedP,hk,hput,zFI];refine⟨pK_ok hF,[5],[],?_⟩;simp only[ZE,seval,zaO,zFI]
 | false=>
  simp only[ZE,seval,zaS,zFI];refine⟨[5],[],?_⟩;simp only[ZE,seval,zaO,zFI]
def ziA(ps:List Str)(k:Nat):Bool:= !zcX (ps.getD k emp).1 ||has (ps.take k) (ps.getD k emp)
def zjn(l:List Module)(i:Nat)(m:Module):Bool:= !zcX m.name.1|| !zcX m.clock.1||decide ((zcA l m.name).getD 0<(i:Int))
def zbX(l:List Module)(i:Nat)(m:Module):Bool:=zjn l i m||(List.range m.params.length).any (ziA m.params)
def loops(l:List Module)(i:Nat):Bool:=(zc1 l i (l.length+1) i []).1
def zhG(l:List Module)(i:Nat)(m:Module)(F:List Problem):List Problem:=zaO (zaO F (zbX l i m) ⟨1,i,-1⟩) (loops l i) ⟨7,i,-1⟩
theorem head_c(l:List Module)(i:Nat)(m:Module)(hok:D.ok (zab l))(hm:D.okL (zaC m))(hi:i<l.length)(F:List Problem)(hF: ∀q∈F,zb7 q):
  FnL prog 149 [.agg [.d (zab l),.d (zaF l),.mo 1],.d (eI i),.d (.agg (zaC m))] [(1,zaS F)] (fun V ol new=>V= .tup []/\ol=[(1,zaS (zhG l i m F))]/\new=[]):=by
 have hll:l.length<=9223372036854775807:=(za9 hok).1;have hpl:m.params.length<=9223372036854775807:=by
  simp only[zaC,D.okL]at hm;exact(za9 hm.2.2.1).1
 refine FnL.of_eC (own:=[]) (fun i=>if i=2007 then []else if i=2008 then [.ord ⟨[(0,none),(1,none),(2,none),(3,none),(4,none),(5,some [0,1,2,3,4]),(6,some [0,1]),(7,some [])]⟩]else chL i) [0] zat func149 rfl call149 ntmps149 (zle rfl) results149 ?_;have n1:=zdd m.name.1;have n2:=zdd m.clock.1;simp only[ZE,seval]at n1 n2;simp only[ZE,seval,zFI,zN,zaS];refine EFn.p ?_;simp only[ZE,seval,zFI,zN];refine zar.i n1 ?_;simp only[ZE,seval,zFI,zN];refine za3.i (fun _=>n2) ?_;simp only[ZE,seval,zFI,zN,zoh];refine⟨fun _ y hy=>zcr _ y hy,?_⟩;refine za1 (fun i=>if i=2007 then []else if i=2008 then [.ord ⟨[(0,none),(1,none),(2,none),(3,none),(4,none),(5,some [0,1,2,3,4]),(6,some [0,1]),(7,some [])]⟩]else chL i) zat m.params.length (fun _=>True) (fun j=>([(0,.agg [.d (zab l),.d (zaF l),.mo 1]),(1,.d (eI i)),(3,.bp 3 0),(5,.bp 5 0),(6,.d (eB (zjn l i m||(List.range j).any (ziA m.params)))),(29,.d (zd5 m.params)),(30,.d (eI m.params.length)),(31,.d (eI j))],
  [(5,.box ((zaC m).map .d)),(3,.box [.d (zab l),.d (zaF l),.mo 1]),(1,zaS F)])) trivial ?_ ?_ (fun j hj _=> ?_)
 ·simp only[ZE,seval,zFI,zjn,List.range_zero,List.any_nil,zcA];rfl
 ·simp only[ZE,seval,zFI,zaS]
 rcases war j m.params.length with h | h
 ·have hw:=zaq (show j<9223372036854775807 by omega);have hg:m.params.getD j emp=m.params[j]:=by simp[List.getD,h]
  have n3:=zdd m.params[j].1;have c3:=zcd (m.params.take j) m.params[j];simp only[ZE,seval]at n3 c3;obtain⟨B,hB⟩:=zX ((zjn l i m||(List.range j).any (ziA m.params)));have hs:(zjn l i m||(List.range (j+1)).any (ziA m.params))=(B|| !zcX m.params[j].1 ||has (m.params.take j) m.params[j]):=by
   rw[List.range_succ,List.any_append,<-Bool.or_assoc,hB];simp only[List.any_cons,List.any_nil,Bool.or_false,ziA,hg,Bool.or_assoc]
  rw[hB,hs];simp only[ZE,seval,zaw h,zaa h,zai h,hw,zN,zFI,zaS];refine za3.i (fun _=>n3) ?_;simp only[ZE,seval,zFI,zN,<-List.map_take,Nat.sub_zero];refine⟨fun _=>⟨fun e he=> ?_,by omega,by omega,by omega⟩,za3.i (fun _=>c3) ?_⟩
  ·obtain⟨q,_,rfl⟩:=List.mem_map.1 he; rfl
  simp only[ZE,seval,zFI,zN];exact h
 ·have:j=m.params.length:=by omega
  subst this;have hbad:(zjn l i m||(List.range m.params.length).any (ziA m.params))=zbX l i m:=rfl;rw[hbad];have r1:=za5 l F hF (zbX l i m) ⟨1,i,-1⟩ ⟨rfl,zdi (by omega),rfl⟩;have r2:=za5 l (zaO F (zbX l i m) ⟨1,i,-1⟩) (za8 hF ⟨rfl,zdi (by omega),rfl⟩) (loops l i) ⟨7,i,-1⟩ ⟨rfl,zdi (by omega),rfl⟩;simp only[ZE,seval,zFI,zaS,loops]at r1 r2;simp only[ZE,seval,zaI h,zFI,zaS];refine EFn.g ⟨[(1,1)],_,_,_,r1,?_⟩;simp only[ZE,seval,zFI];rintro V ol new ⟨rfl,rfl,rfl⟩;have rc:=reach_c l (pK (zaO F (zbX l i m) ⟨1,i,-1⟩)) (pV (zaO F (zbX l i m) ⟨1,i,-1⟩)) (List.range (zaO F (zbX l i m) ⟨1,i,-1⟩).length) (zaO F (zbX l i m) ⟨1,i,-1⟩).length i hok (l.length+1) i [] hi (by simp) (Nat.lt_succ_of_le (by
   simp[zev]))
  have e0:iK []=[]:=rfl;have e1:iV []=[]:=rfl;simp only[ZE,seval,zFI,e0,e1,wag,List.range_zero]at rc;simp only[ZE,seval,zFI];refine⟨by kernel_rfl,EFn.g ⟨[(0,60),(1,1)],_,_,_,rc,?_⟩⟩;simp only[ZE,seval,zFI];rintro V ol new ⟨rfl,rfl,rfl⟩;simp only[ZE,seval,zFI];refine EFn.g ⟨[(1,1)],_,_,_,r2,?_⟩;simp only[ZE,seval,zFI];rintro V ol new ⟨rfl,rfl,rfl⟩;simp only[ZE,seval,zFI];refine⟨[3,5,60],[],?_⟩;simp only[ZE,seval,zhG,loops]
section
open Go.Aw Go.Sort Go.RowKit
def zbn(a b:Problem):Int:=orI [zh1 a.module b.module,zh1 a.item b.item,zh1 a.code b.code]
theorem nan_w(x:Int)(w:World):Calls prog 210 #[.int .i64 x] w fun e w'=>e= .returned (.bool false)/\w'=w:=by
 go_enter func210,ntmps210
 go_wp2;go_ret;exact⟨by simp,rfl⟩
set_option maxHeartbeats 1000000 in
theorem zsj(x y:Int)(w:World):Calls prog 155 #[.int .i64 x,.int .i64 y] w fun e w'=>e= .returned (.int .i64 (zh1 x y))/\w'=w:=by
 go_enter func155,ntmps155
 go_wp2_with (go_at_call 210; refine(nan_w _ _).mono ?_; rintro e w' ⟨rfl,hw⟩; rw[hw])
 all_goals (go_ret; refine⟨?_,rfl⟩; unfold zh1; (repeat' split) <;> first | rfl | (exfalso; omega))
set_option maxHeartbeats 2000000 in
theorem or_w(x y z:Int)(b cap:Nat)(w:World)(h0:w.cell? ⟨b,0,none⟩=some (.int .i64 x))(h1:w.cell? ⟨b,1,none⟩=some (.int .i64 y))(h2:w.cell? ⟨b,2,none⟩=some (.int .i64 z)):
  Calls prog 154 #[.slice (some ⟨b,0,none⟩) 3 cap] w fun e w'=>e= .returned (.int .i64 (orI [x,y,z]))/\w'=w:=by
 go_enter func154,ntmps154
 go_wp2
 go_rounds 4
 all_goals go_ret
 all_goals refine⟨?_,rfl⟩
 all_goals simp_all [orI]
set_option maxHeartbeats 4000000 in
theorem zmi(a b:Problem)(w:World):Calls prog 153 #[.agg #[.int .i64 a.code,.int .i64 a.module,.int .i64 a.item],.agg #[.int .i64 b.code,.int .i64 b.module,.int .i64 b.item]] w fun e w'=>
  e= .returned (.int .i64 (zbn a b))/\ ∃q os',w'=grow (w.drewN q) os':=by
 unfold zbn
 go_enter func153,ntmps153
 go_wp2;refine wp_region_still_tail 15 zat (by kernel_rfl) ?_;obtain⟨W,hW⟩: ∃W:World,W={((w.alloc (.cells #[.int .i64 a.code,.int .i64 a.module,.int .i64 a.item] 221)).alloc (.cells #[.int .i64 b.code,.int .i64 b.module,.int .i64 b.item] 221))with drawn:=((w.alloc (.cells #[.int .i64 a.code,.int .i64 a.module,.int .i64 a.item] 221)).alloc (.cells #[.int .i64 b.code,.int .i64 b.module,.int .i64 b.item] 221)).drawn +1}:=⟨_,rfl⟩;rw[<-hW];obtain⟨c0,c1,hG⟩:=two_w w _ _ W hW;have a0:W.cell? ⟨w.heap.size,0,none⟩=some (.int .i64 a.code):=by simp[World.cell?,c0]
 have a1:W.cell? ⟨w.heap.size,1,none⟩=some (.int .i64 a.module):=by simp[World.cell?,c0]
 have a2:W.cell? ⟨w.heap.size,2,none⟩=some (.int .i64 a.item):=by simp[World.cell?,c0]
 have b0:W.cell? ⟨w.heap.size+1,0,none⟩=some (.int .i64 b.code):=by simp[World.cell?,c1]
 have b1:W.cell? ⟨w.heap.size+1,1,none⟩=some (.int .i64 b.module):=by simp[World.cell?,c1]
 have b2:W.cell? ⟨w.heap.size+1,2,none⟩=some (.int .i64 b.item):=by simp[World.cell?,c1]
 clear hW c0 c1;simp only[List.take_succ_cons,List.take_zero,List.drop_succ_cons,List.drop_zero]
 repeat still_step
 still_call (zsj _ _ _)
 repeat still_step
 still_call (zsj _ _ _)
 repeat still_step
 still_call (zsj _ _ _)
 repeat still_step
 try refine wpStill_nil ?_
 generalize hx:zh1 a.module b.module=x at*;generalize hy:zh1 a.item b.item=y at*;generalize hz:zh1 a.code b.code=z at*;clear a0 a1 a2 b0 b1 b2;obtain⟨q,os',rfl⟩:=hG;generalize hWW:grow (w.drewN q) os'=W;have hor: ∀W',W'=W.alloc (.cells #[.int .i64 x,.int .i64 y,.int .i64 z] 3)->Calls prog 154 #[.slice (some ⟨W.heap.size,0,none⟩) 3 3] W' fun e w'=>e= .returned (.int .i64 (orI [x,y,z]))/\w'=W':=by
  rintro W' rfl;have hh:=World.alloc_heap_new W (.cells #[.int .i64 x,.int .i64 y,.int .i64 z] 3);exact or_w x y z _ _ _ (by simp only[World.cell?,hh]; rfl) (by simp only[World.cell?,hh]; rfl) (by simp only[World.cell?,hh]; rfl)
 generalize hr:orI [x,y,z]=r at*
 go_wp2_with (go_at_call 154; refine(hor _ rfl).mono ?_; rintro e w' ⟨rfl,rfl⟩)
 go_ret;refine⟨by rw[hx,hy,hz,hr]; rfl,q,os'++#[.cells #[.int .i64 x,.int .i64 y,.int .i64 z] 3],?_⟩;rw[alloc_eq_grow,<-hWW,grow_grow]
end
section
open Go.Aw Go.Sort Go.RowKit Go.Shelf
instance:Inhabited Problem:=⟨⟨0,0,0⟩⟩
def zgl(p:Problem):List Value:=[.int .i64 p.code,.int .i64 p.module,.int .i64 p.item]
def zds(a b:Problem):Prop:=a.module<b.module\/(a.module=b.module/\(a.item<b.item\/(a.item=b.item/\a.code<b.code)))
theorem ziD(a b:Problem):zbn a b<0↔zds a b:=by
 unfold zbn orI zh1 zds
 repeat' split
 all_goals simp_all
 all_goals omega
theorem zfW(a b:Problem):ltOf zbn a b=true↔zds a b:=by unfold ltOf; rw[decide_eq_true_eq]; exact ziD a b
theorem zbO(a b:Problem):ltOf zbn a b=false↔ ¬zds a b:=by rw[<-zfW]; simp
theorem zne:SWO (ltOf zbn):={
 irrefl:=fun x=>by rw[zbO]; unfold zds; omega
 trans:=fun x y z h1 h2=>by rw[zfW]at*; unfold zds at*; omega
 ntrans:=fun x y z h1 h2=>by rw[zbO]at*; unfold zds at*; omega}
theorem zhr(x y:Problem)(h1:ltOf zbn x y=false)(h2:ltOf zbn y x=false):x=y:=by
 rw[zbO]at*;obtain⟨a,b,c⟩:=x;obtain⟨a',b',c'⟩:=y;unfold zds at*;simp only[Problem.mk.injEq]at*;omega
noncomputable def zcl(l:List Problem):List Problem:=l.mergeSort fun x y=> !(ltOf zbn) y x
theorem zgv(enc:Problem->List Value)(h: ∀x,(enc x).length =3): ∀(l:List Problem) (t:Nat),(l.flatMap enc)[t]? =(l[t / 3]?).bind fun x=>(enc x)[t % 3]?
 | [],t=>by simp
 | x::l,t=>by
  rw[wal];rcases war t 3 with ht | ht
  ·rw[List.getElem?_append_left (by rw[h]; exact ht),Nat.div_eq_of_lt ht,Nat.mod_eq_of_lt ht];simp
  ·obtain⟨s,rfl⟩: ∃s,t=s+3:=⟨t-3,by omega⟩;rw[List.getElem?_append_right (by rw[h]; omega),h,Nat.add_sub_cancel,zgv enc h l s,Nat.add_mod_right];rw[show(s+3) / 3=s / 3+1 by omega];simp
theorem zfC(l:List Problem):(flatK zgl 3 l.toArray).toList =l.flatMap zgl:=by
 apply List.ext_getElem?;intro t;rw[zgv zgl (fun _=>rfl)];by_cases ht:t<l.length*3
 ·have h3:t / 3<l.length:=by omega
  have h4:t % 3<3:=Nat.mod_lt _ (by omega);have h5:t % 3<(zgl l[t / 3]).length :=h4;rw[wan h3];simp only[Option.bind_some];rw[wan h5];simp[flatK,ht,h3,getElem!_pos,h5]
 ·rw[List.getElem?_eq_none (by simp; omega),List.getElem?_eq_none (show l.length<=t / 3 by omega)];rfl
def sortPos_ren:Go.Shelf.Ren:=⟨fun | 6=>208 | 15=>171 | 14=>256 | 28=>223 | 29=>224 | 20=>281 | 21=>282 | 22=>283 | 23=>284 | 24=>285 | 25=>286 | 26=>287 | 27=>288 | 46=>297 | 47=>260 | 48=>261 | 49=>298 | 50=>299 | 57=>301 | n=>n,fun | 22=>162 | 24=>221 | 25=>243 | 3=>3 | 39=>253 | 0=>0 | 53=>307 | 55=>309 | 4=>4 | 46=>301 | 45=>300 | 50=>234 | 5=>5 | 9=>9 | 66=>337 | 70=>341 | 76=>362 | 77=>289 | n=>n,fun | n=>n⟩
theorem sortPos:Go.Proofs.SlLaysF0.n6 prog sortPos_ren:={
 mixed:=by kernel_rfl
 f6:=⟨f208.name,by decide,func208.trans (congrArg some (by kernel_rfl))⟩
 f14:=⟨f256.name,by decide,func256.trans (congrArg some (by kernel_rfl))⟩
 f15:=func171.trans (congrArg some (by kernel_rfl))
 f20:=⟨f281.name,by decide,func281.trans (congrArg some (by kernel_rfl))⟩
 f21:=⟨f282.name,by decide,func282.trans (congrArg some (by kernel_rfl))⟩
 f22:=⟨f283.name,by decide,func283.trans (congrArg some (by kernel_rfl))⟩
 f23:=⟨f284.name,by decide,func284.trans (congrArg some (by kernel_rfl))⟩
 f24:=⟨f285.name,by decide,func285.trans (congrArg some (by kernel_rfl))⟩
 f25:=⟨f286.name,by decide,func286.trans (congrArg some (by kernel_rfl))⟩
 f26:=⟨f287.name,by decide,func287.trans (congrArg some (by kernel_rfl))⟩
 f27:=⟨f288.name,by decide,func288.trans (congrArg some (by kernel_rfl))⟩
 f28:=func223.trans (congrArg some (by kernel_rfl))
 f29:=func224.trans (congrArg some (by kernel_rfl))
 f46:=⟨f297.name,by decide,func297.trans (congrArg some (by kernel_rfl))⟩
 f47:=func260.trans (congrArg some (by kernel_rfl))
 f48:=func261.trans (congrArg some (by kernel_rfl))
 f49:=⟨f298.name,by decide,func298.trans (congrArg some (by kernel_rfl))⟩
 f50:=⟨f299.name,by decide,func299.trans (congrArg some (by kernel_rfl))⟩
 f57:=⟨f301.name,by decide,func301.trans (congrArg some (by kernel_rfl))⟩
 t0:=underlying0
 a0:=isAgg0
 z0:=sizeOf0
 v0:=zeroValue0
 t3:=underlying3
 a3:=isAgg3
 z3:=sizeOf3
 v3:=zeroValue3
 t4:=underlying4
 a4:=isAgg4
 z4:=sizeOf4
 v4:=zeroValue4
 t5:=underlying5
 a5:=isAgg5
 z5:=sizeOf5
 v5:=zeroValue5
 t9:=underlying9
 a9:=isAgg9
 z9:=sizeOf9
 v9:=zeroValue9
 t22:=underlying162
 a22:=isAgg162
 z22:=sizeOf162
 v22:=zeroValue162
 t25:=underlying243
 a25:=isAgg243
 z25:=sizeOf243
 v25:=zeroValue243
 t39:=underlying253
 a39:=isAgg253
 z39:=sizeOf253
 v39:=zeroValue253
 t45:=underlying300
 a45:=isAgg300
 z45:=sizeOf300
 v45:=zeroValue300
 t46:=underlying301
 a46:=isAgg301
 z46:=sizeOf301
 v46:=zeroValue301
 t50:=underlying234
 a50:=isAgg234
 z50:=sizeOf234
 v50:=zeroValue234
 t53:=underlying307
 a53:=isAgg307
 z53:=sizeOf307
 v53:=zeroValue307
 t55:=underlying309
 a55:=isAgg309
 z55:=sizeOf309
 v55:=zeroValue309
 t66:=underlying337
 a66:=isAgg337
 z66:=sizeOf337
 v66:=zeroValue337
 t70:=underlying341
 a70:=isAgg341
 z70:=sizeOf341
 v70:=zeroValue341
 t76:=underlying362
 a76:=isAgg362
 z76:=sizeOf362
 v76:=zeroValue362
 t77:=underlying289
 a77:=isAgg289
 z77:=sizeOf289
 v77:=zeroValue289}
theorem zgD(F cur:Array Value)(h:F.size<=cur.size):(putCells id 0 F cur).toList.take F.size=F.toList:=by
 apply List.ext_getElem?;intro t;rw[List.getElem?_take];split
 ·rename_i ht;have h2:t<cur.size:=by omega
  simp[putCells,ht,h2,getElem!_pos]
 ·rename_i ht;rw[List.getElem?_eq_none (by simpa using ht)]
theorem zgC(F cur:Array Value):(putCells id 0 F cur).size =cur.size:=by simp[putCells]
theorem zkR{enc:Problem->List Value}{k m g:Nat}{d:Array Problem}{os:Array Obj}{W:World}{cur:Array Value}{e:TypeId}(hg:W.heap[g]? =some (.cells cur e (0,0))):
  (∀b,b<W.heap.size->b≠g->(sortWorldK enc k W g 0 m d os).heap[b]? =W.heap[b]?)/\(sortWorldK enc k W g 0 m d os).heap[g]? =some (.cells (putCells id 0 (flatK enc k d) cur) e (0,0))/\
   W.heap.size<=(sortWorldK enc k W g 0 m d os).heap.size :=by
 have hlt:g<W.heap.size:=(Array.getElem?_eq_some_iff.1 hg).1;have hh:(sortWorldK enc k W g 0 m d os).heap =W.heap.modify g (onCells (putCells id 0 (flatK enc k d)))++os:=rfl;rw[hh];refine⟨fun b hb hne=> ?_,?_,by simp⟩
 ·rw[Array.getElem?_append_left (by simpa using hb),Array.getElem?_modify,if_neg (Ne.symm hne)]
 ·rw[Array.getElem?_append_left (by simpa using hlt),Array.getElem?_modify,if_pos rfl,hg];rfl
theorem ztX{W:World}{F:Nat->Prop}: ∀(l:List Problem) (vs:List Value),zav W F (l.map zbW).flatten vs↔vs=l.flatMap zgl
 | [],vs=>by simp[zav]
 | p::l,vs=>by
  have ih:=ztX (W:=W) (F:=F) l;simp only[wae,List.flatten_cons,zbW,eI,wam,List.nil_append,zav,Aw.Rd,wal,zgl];constructor
  ·rintro⟨v,r,rfl,rfl,v2,r2,rfl,rfl,v3,r3,rfl,rfl,h⟩;rw[(ih r3).1 (by simpa [zbW,eI]using h)]
  ·rintro rfl;refine⟨_,_,rfl,rfl,_,_,rfl,rfl,_,_,rfl,rfl,?_⟩;have:=(ih (l.flatMap zgl)).2 rfl;simpa [zbW,eI]using this
theorem zba(l:List Problem):(zcl l).length =l.length:=by simp[zcl]
theorem sort_c(l:List Problem)(hl:l.length<4611686018427387904):FnL prog 208 [.ar 0 l.length,.d (.clo (.func 153) [] [])] [(0,.arr 221 3 .flat (l.map zbW))] (fun V ol new=>V= .tup []/\ol=[(0,.arr 221 3 .flat ((zcl l).map zbW))]/\new=[]):=by
 refine⟨fun W bs=>call208 bs W,?_⟩;intro W F O0 η S vs hm hO hr;simp only[zaN,zaL]at hr;obtain⟨v0,r0,rfl,hv0,v1,r1,rfl,hv1,rfl⟩:=hr;have hobj:=hm.obj 0 _ (by simp only[om,if_true]; rfl);have e0:v0=η 0:=(hv0 221 3 .flat (l.map zbW) (by simp[om])).2 (by simp);have fin: ∀(W':World) (F':Nat->Prop),Mem ⟨prog,N0,W,F,O0,[],[],fun _=>undef⟩ (om [(0,.arr 221 3 .flat ((zcl l).map zbW))]) W' F' η S->
   ∃v' V Oo new F' η' S',Ending.returned (.tuple #[])= .returned v'/\(∃ol,Oo=om ol/\(V=AV.tup []/\ol=[(0,AO.arr 221 3 .flat ((zcl l).map zbW))]/\new=[]))/\(∀i∈new,∀lim fam stop l rest,Oo i≠some (.ext lim fam stop l rest))/\
    Mem ⟨prog,N0,W,F,O0,[],[],fun _=>undef⟩ Oo W' F' η' S'/\zaL Oo W' F' η' V v'/\za7 (om [(0,.arr 221 3 .flat (l.map zbW))]) Oo η η' new:=by
  intro W' F' m1;refine⟨_,.tup [],_,[],F',η,S,rfl,⟨_,rfl,rfl,rfl,rfl⟩,by simp,m1,by simp[zaL,zaN],?_⟩;intro id o' ho;simp only[om]at ho;split at ho
  ·rename_i h0;subst h0;cases ho;exact .inr ⟨_,by simp only[om,if_true]; rfl,by simp[zba]⟩
  ·cases ho
 have e1:v1= .func (.func 153) #[] #[]:=by
  simp only[Aw.Rd,zav]at hv1;obtain⟨a,b,rfl,rfl,rfl⟩:=hv1;rfl
 subst e0 e1;obtain⟨_,hk,hcase⟩:=hobj;rcases hcase with⟨hn,hes,hs⟩ | ⟨g,cap,cur,s1,hv,hg,hle,hcap,hcur,hs,hC⟩
 ·have:l=[]:=by simpa using hes
  subst this;obtain⟨ad,hn⟩:=hn;rw[hn];refine(AnyF.slices_SortFunc_none sortPos ad 0 _ W).mono ?_;rintro e W' ⟨rfl,hW⟩;subst hW;exact fin _ F (by simpa [zcl]using hm)
 ·obtain⟨hC2,rfl⟩:=(zuK _ _ _).1 hC;have hcells:=(ztX l _).1 hC2;rw[waa]at hv hcells;rw[hv];have hsz:(flatK zgl 3 l.toArray).size =l.length*3:=by simp
  have hH:HoldsK zgl 3 W g 0 l.toArray:=by
   intro j hj;rw[hsz]at hj;have hjc:j<cur.size:=by rw[hcur,waa]at*; omega
   have e2:cur[j]? =(flatK zgl 3 l.toArray)[j]? :=by
    have h1:=congrArg (fun x=>x[j]?) hcells;rw[<-zfC]at h1;simp only[List.getElem?_take,hj,if_true,Array.getElem?_toList]at h1;exact h1
   refine⟨?_,by simp[World.frozen?,hg]⟩;simp only[World.cell?,hg,Nat.zero_add];have:(flatK zgl 3 l.toArray)[j]! =(flatK zgl 3 l.toArray)[j]'(by rw[hsz]; exact hj):=getElem!_pos _ j (by rw[hsz]; exact hj);simp only[id,this];rw[show(({block:=g,off:=j,spot:=none}:Addr).spot.isSome)=false from rfl];simp only[Bool.false_eq_true,if_false,e2];rw[Array.getElem?_eq_getElem]
  have hsort:=AnyQ.slices_SortFunc_total sortPos 3 isAgg221 sizeOf221 zgl (fun _=>rfl) (fun x v hv=>by simp[zgl]at hv; rcases hv with rfl | rfl | rfl <;> rfl) zbn zne 153 #[] g 0 cap l.toArray W (fun bs w=>call153 bs w) (fun m os dk _ x y=>by simpa [zgl]using zmi x y _) hH (Array.getElem?_eq_some_iff.1 hg).1 (by simpa using hl) zhr;change Calls prog 208 _ _ _ at hsort;refine hsort.mono ?_;rintro e W' ⟨rfl,n,os,hW⟩;obtain⟨b1,b2,b3⟩:=zkR (enc:=zgl) (k:=3) (m:=n) (d:=(l.toArray.toList.mergeSort fun x y=> !(ltOf zbn) y x).toArray) (os:=os) hg;have f1:W'.os=W.os:=by rw[hW]; rfl
  have f2:W'.tape=W.tape:=by rw[hW]; rfl
  have f3:W'.output=W.output:=by rw[hW]; rfl
  rw[<-hW]at b1 b2 b3;clear hW hsort;have hk2:za7 (om [(0,.arr 221 3 .flat (l.map zbW))]) (upd (om [(0,.arr 221 3 .flat (l.map zbW))]) 0 (some (.arr 221 3 .flat ((zcl l).map zbW)))) η (upd η 0 (η 0)) []:=by
   intro id o' ho;simp only[upd,om]at ho;split at ho
   ·rename_i h0;subst h0;cases ho;exact .inr ⟨_,by simp only[om,if_true]; rfl,by simp[zba,upd]⟩
   ·rename_i h0;cases ho
  obtain⟨m1,m2⟩:=hm.change (W':=W') (F':=F) 0 (some (.arr 221 3 .flat ((zcl l).map zbW))) (η 0) (S 0) [] f1 f2 f3 b3
   (fun b hb hne=>b1 b hb (fun e=>hne (by rw[hs,e]; simp))) (fun _ h=>h) (fun _ h=>.inl h) (fun b hb=>(hm.apart 0 b hb).1) (hm.nd 0) (fun b hb=>.inl hb) (fun h=>by cases h) hk2 (fun id o ho hne=>by simp[om]at ho; exact absurd ho.1 hne) (fun o ho hF=>by
    cases ho;refine⟨by simp[zba]; simpa using was hle hcap,fun x hx=> ?_,.inr ⟨g,cap,_,[],?_,b2,?_,hcap,?_,hs,?_⟩⟩
    ·obtain⟨p,_,rfl⟩:=List.mem_map.1 hx; rfl
    ·rw[hv,waa,zba]
    ·simpa [zba]using hle
    ·rw[zgC,hcur]
    ·refine(zuK _ _ _).2 ⟨(ztX _ _).2 ?_,rfl⟩;have hsz2:(flatK zgl 3 (zcl l).toArray).size =l.length*3:=(by simp[zba]);have hle2:(flatK zgl 3 (zcl l).toArray).size <=cur.size:=(by rw[hsz2,hcur]; exact Nat.mul_le_mul_right _ (by simpa using hle));have:=zgD _ cur hle2;rw[zfC,hsz2]at this;rw[waa,zba];exact this)
  have u1:upd (om [(0,.arr 221 3 .flat (l.map zbW))]) 0 (some (.arr 221 3 .flat ((zcl l).map zbW)))=om [(0,.arr 221 3 .flat ((zcl l).map zbW))]:=by
   funext id;simp only[upd,om];split
   ·rfl
   ·rfl
  have u2:upd η 0 (η 0)=η:=by funext id; simp only[upd]; split <;> simp_all
  have u3:upd S 0 (S 0)=S:=by funext id; simp only[upd]; split <;> simp_all
  rw[u1,u2,u3]at m1;exact fin _ F m1
end
theorem ziu{n:Nat}{js:List Nat}(hn:js.Nodup)(h: ∀j∈js,j<n)(ha: ∀j,j<n->j∈js):js.Perm (List.range n):=
 (List.perm_ext_iff_of_nodup hn List.nodup_range).2 fun j=>by rw[List.mem_range]; exact⟨h j,ha j⟩
theorem zgf{α:Type}(l:List α)(d:α):(List.range l.length).map (fun j=>l.getD j d)=l:=by
 apply List.ext_getElem (by simp);intro i h1 h2;simp[List.getD,h2]
def zet(l:List Problem)(js:List Nat):List Problem:=js.map fun j=>l.getD j default
def eYk(p:Problem):List D:=[zcU p]
theorem ztd(l:List Problem)(vs:List D)(bs:List Nat)(clock:Nat):zoR prog 209 [.ptr [.mp (l.map zcU) vs bs clock]] (fun pre=> ∃js:List Nat,js.Nodup/\(∀j∈js,j<l.length)/\pre=(zet l js).map eYk) (fun xs=> ∃js:List Nat,js.Nodup/\(∀j∈js,j<l.length)/\(∀j,j<l.length->j∈js)/\xs=(zet l js).map eYk):=by
 intro lim fam stop lp hY;have:=FnL.of_eC (P:=prog) (args:=[.yv 0,.d (.ptr [.mp (l.map zcU) vs bs clock])]) (os:=[(0,.ext lim fam stop lp [])]) (PL:=fun _ ol new=>(∃xs,(∃js:List Nat,js.Nodup/\(∀j∈js,j<l.length)/\(∀j,j<l.length->j∈js)/\xs=(zet l js).map eYk)/\ol=[(0,.ext lim fam stop lp xs)]/\new=[])\/(ol=[(0,.ext lim (fun _=>stop) stop lp [])]/\new=[])) (own:=[]) (fun _=>[]) [0] zat func209 rfl call209 ntmps209 (zle rfl) results209 ?_
 ·refine this.mono ?_;rintro V Oo new ⟨ol,rfl,⟨xs,h1,rfl,h2⟩ | ⟨rfl,h2⟩⟩
  ·exact .inl ⟨xs,h1,rfl,h2⟩
  ·exact .inr ⟨rfl,h2⟩
 simp only[ZE,seval];refine zgR (fun _ _=>[]) zat l.length (fun i (js:List Nat)=>js.length=i/\js.Nodup/\ ∀j∈js,j<l.length) (fun i js=>([(0,.yv 0),(5,.mo 5)],[(0,.ext lim fam stop lp ((zet l js).map eYk)),(5,.it (l.map zcU) vs bs clock js)])) [] ?_ ?_ ?_ (fun i js hi hI=> ?_)
 ·simp
 ·simp only[ZE,seval]
 ·simp only[ZE,seval,zet,wac]
 obtain⟨h1,h2,h3⟩:=hI;simp only[ZE,seval];refine⟨by simp only[ZE,seval],fun j hj hjs=> ?_,fun hall=> ?_⟩
 ·have hj':j<l.length:=by simpa using hj
  have hD:l.getD j default=l[j]:=by simp[List.getD,hj']
  have hkj:(l.map zcU).getD j default=D.agg [.lit (.int .i64 l[j].code),.lit (.int .i64 l[j].module),.lit (.int .i64 l[j].item)]:=by
   simp[List.getD,hj',zcU,zbW,eI]
  have hlen:i<l.length:=by
   have:=zdr l.length (j::js) (List.nodup_cons.2 ⟨hjs,h2⟩) (fun k hk=>by
    rcases List.mem_cons.1 hk with rfl | hk
    ·exact hj'
    ·exact h3 k hk)
   simp at this; omega
  have hnew:(js++[j]).Nodup /\ ∀k∈js++[j],k<l.length:=by
   refine⟨List.nodup_append.2 ⟨h2,by simp,fun a ha b hb e=> ?_⟩,fun k hk=> ?_⟩
   ·simp at hb; subst hb; subst e; exact hjs ha
   ·rcases List.mem_append.1 hk with hk | hk
    ·exact h3 k hk
    ·simp at hk; subst hk; exact hj'
  have hpick:(zet l js).map eYk++[[D.agg [.lit (.int .i64 l[j].code),.lit (.int .i64 l[j].module),.lit (.int .i64 l[j].item)]]]=(zet l (js++[j])).map eYk:=by
   simp only[zet,waf,wae,wac,hD];rfl
  simp only[ZE,seval,hkj,List.getLast?_singleton,Option.some_or];refine⟨_,hY,?_,?_,?_⟩
  ·exact⟨js++[j],hnew.1,hnew.2,hpick⟩
  ·simp only[ZE,seval,zep,hpick];refine⟨hlen,js++[j],⟨by simp[h1],hnew⟩,?_⟩;simp only[ZE,seval]
  ·simp only[ZE,seval];refine⟨[3,5],[],?_⟩;simp only[ZE,seval]
 ·simp only[ZE,seval];refine⟨[5],[],?_⟩;simp only[ZE,seval];exact .inl ⟨_,⟨js,h2,h3,fun j hj=>hall j (by simpa using hj),rfl⟩,rfl⟩
theorem keys_c(l:List Problem)(vs:List D)(bs:List Nat)(clock:Nat):FnP prog 152 [.mp (l.map zcU) vs bs clock] (.d (.clo (.func 209) [] [.ptr [.mp (l.map zcU) vs bs clock]])) []:=by
 refine FnP.of_eC (own:=[]) (fun _=>[]) zat func152 rfl call152 ntmps152 (zle rfl) results152 (fun hok=> ?_);simp only[ZE,seval]
def rowOf:List D->List D
 | [.agg cs]=>cs
 | _=>[]
theorem zkJ(l:List Problem)(js:List Nat):((zet l js).map eYk).map rowOf=(zet l js).map zbW:=by
 rw[wao]; rfl
theorem ziz(l:List Problem)(vs:List D)(bs:List Nat)(clock:Nat)(hl:l.length<=4000000):FnL prog 255 [.nils,.d (.clo (.func 209) [] [.ptr [.mp (l.map zcU) vs bs clock]])] [] (fun V ol new=> ∃l':List Problem,l'.Perm l/\V= .ar 90 l'.length/\ol=[(90,.arr 221 3 .flat (l'.map zbW))]/\new=[90]):=by
 refine FnL.of_eC (own:=[]) (fun id=>if id=0 then [.adB 2 0 90 221 3]else []) [] zat func255 rfl call255 ntmps255 (zle rfl) results255 ?_;simp only[ZE,seval];refine zq4 zat (fun _=>[]) rfl (by simp only[ZE,seval]) (ztd l vs bs clock) (fun pre=>[(2,.box [.ar 90 pre.length]),(90,.arr 221 3 .flat (pre.map rowOf))]) ?_ ?_ ?_ ?_ ?_
 ·simp only[ZE,seval]
 ·intro pre; simp[zdU,zie]
 ·simp only[ZE,seval,psOk,zeQ]
 ·rintro pre x ⟨js,h1,h2,h3⟩;have hlen:(pre++[x]).length =js.length:=by rw[h3]; simp[zet]
  have hjl:=zdr l.length js h1 h2;simp only[wab,wad,wag]at hlen;obtain⟨p,rfl⟩: ∃p,x=eYk p:=by
   have:x∈(zet l js).map eYk:=by rw[<-h3]; simp
   obtain⟨p,_,rfl⟩:=List.mem_map.1 this;exact⟨p,rfl⟩
  simp only[eYk,zcU,ZE,seval,zve,zl0,zdU,zie,zrn,zeQ];refine⟨⟨by omega,by omega⟩,by simp,by simp,?_⟩;rw[waf]; rfl
 ·rintro xs ⟨js,h1,h2,h3,rfl⟩;simp only[ZE,seval];refine⟨[2],[90],?_⟩;simp only[ZE,seval];refine⟨zet l js,?_,rfl,by rw[zkJ]⟩;have:=(ziu h1 h2 h3).map fun j=>l.getD j default;rw[zgf]at this;exact this
theorem zmg(l:List Problem)(vs:List D)(bs:List Nat)(clock:Nat)(hl:l.length<=4000000):FnL prog 207 [.d (.clo (.func 209) [] [.ptr [.mp (l.map zcU) vs bs clock]])] [] (fun V ol new=> ∃l':List Problem,l'.Perm l/\V= .ar 90 l'.length/\ol=[(90,.arr 221 3 .flat (l'.map zbW))]/\new=[90]):=by
 refine FnL.of_eC (own:=[]) (fun id=>[]) [] zat func207 rfl call207 ntmps207 (zle rfl) results207 ?_;simp only[ZE,seval];refine EFn.g ⟨[(90,90)],[.nils,.d (.clo (.func 209) [] [.ptr [.mp (l.map zcU) vs bs clock]])],_,_,ziz l vs bs clock hl,?_⟩;simp only[ZE,seval];rintro V ol new ⟨l',hp,rfl,rfl,rfl⟩;simp only[ZE,seval];refine⟨[],[90],?_⟩;simp only[ZE,seval];exact⟨l',hp,rfl,rfl⟩
theorem zkQ{l l':List Problem}(h:l.Perm l'):zcl l=zcl l':=by
 unfold zcl;have tr: ∀a b c:Problem,(!(ltOf zbn) b a)=true->(!(ltOf zbn) c b)=true->(!(ltOf zbn) c a)=true:=by
  intro a b c h1 h2;simp only[Bool.not_eq_true']at*;exact zne.ntrans _ _ _ h2 h1
 have to: ∀a b:Problem,((!(ltOf zbn) b a)||(!(ltOf zbn) a b))=true:=by
  intro a b;simp only[Bool.or_eq_true,Bool.not_eq_true'];rw[zbO,zbO];unfold zds;omega
 refine List.Perm.eq_of_pairwise (le:=fun a b=> !(ltOf zbn) b a) ?_ ?_ ?_ ?_
 ·intro a b _ _ h1 h2;simp only[Bool.not_eq_true']at h1 h2;exact zhr a b h2 h1
 ·exact List.pairwise_mergeSort tr to l
 ·exact List.pairwise_mergeSort tr to l'
 ·exact(List.mergeSort_perm l _).trans (h.trans (List.mergeSort_perm l' _).symm)
theorem zpI(l:List Problem)(vs:List D)(bs:List Nat)(clock:Nat)(hl:l.length<=4000000):FnP prog 151 [.clo (.func 209) [] [.ptr [.mp (l.map zcU) vs bs clock]],.clo (.func 153) [] []] (.d (.sl ((zcl l).map zbW))) []:=by
 refine FnP.of_eC (own:=[]) (fun id=>[]) zat func151 rfl call151 ntmps151 (zle rfl) results151 (fun hok=> ?_);simp only[ZE,seval];refine EFn.g ⟨[(90,90)],[.d (.clo (.func 209) [] [.ptr [.mp (l.map zcU) vs bs clock]])],_,_,zmg l vs bs clock hl,?_⟩;simp only[ZE,seval];rintro V ol new ⟨l',hp,rfl,rfl,rfl⟩;simp only[ZE,seval];refine EFn.g ⟨[(0,90)],[.ar 0 l'.length,.d (.clo (.func 153) [] [])],_,_,sort_c l' (by have:=hp.length_eq; omega),?_⟩;simp only[ZE,seval];rintro V ol new ⟨rfl,rfl,rfl⟩;simp only[ZE,seval];exact⟨(zba l').symm,by rw[zkQ hp]⟩
structure Place where
 module:Str
 part:Part
 deriving DecidableEq
def ltQ(a b:Place):Bool:=ltS a.module b.module||(decide (a.module=b.module)&&ltP a.part b.part)
theorem zlZ:TOrd ltQ:={
 irr:=fun a=>by simp[ltQ,zrt.irr,zuJ.irr]
 tr:=fun a b c h1 h2=>by
  simp only[ltQ,Bool.or_eq_true,decide_eq_true_eq,wau]at h1 h2 ⊢;rcases h1 with h1 | ⟨e1,h1⟩
  ·rcases h2 with h2 | ⟨e2,h2⟩
   ·exact .inl (zrt.tr _ _ _ h1 h2)
   simp_all
  ·rcases h2 with h2 | ⟨e2,h2⟩
   ·simp_all
   ·exact .inr ⟨e1.trans e2,zuJ.tr _ _ _ h1 h2⟩
 conn:=fun a b h1 h2=>by
  simp only[ltQ,Bool.or_eq_false_iff,decide_eq_false_iff_not,Bool.and_eq_false_iff]at h1 h2;obtain⟨a1,a2⟩:=a;obtain⟨b1,b2⟩:=b;simp only at h1 h2;have e:=zrt.conn a1 b1 h1.1 h2.1;subst e;have:=zuJ.conn a2 b2 (h1.2.resolve_left (fun h=>h rfl)) (h2.2.resolve_left (fun h=>h rfl));rw[this]}
instance:DecidableEq Module:=fun m n=>decidable_of_iff (zm4 m n=true) (zuh m n)
section
variable {κ α:Type} [DecidableEq κ] {lt:κ->κ->Bool} {key:α->κ}
theorem zvI: ∀ {l:List α},(l.map key).Nodup -> ∀ {x:α},x∈l->lkp key l (key x)=some x
 | [],_,_,hx=>by cases hx
 | y::l,h,x,hx=>by
  rw[wae,List.nodup_cons]at h;rw[zeH];rcases List.mem_cons.1 hx with rfl | hx
  ·grind
  ·rw[if_neg (fun e=>h.1 (List.mem_map.2 ⟨x,hx,e.symm⟩)),zvI h.2 hx]
theorem lkp_id(l:List κ)(k:κ):lkp id l k=if k∈l then some k else none:=by
 cases h:lkp id l k with
 | none=>
  grind [zlr]
 | some x=>
  obtain⟨h1,h2⟩:=zeI h;simp_all
theorem zxI(o:TOrd lt){l l':List κ}(h:Srt lt id l)(h':Srt lt id l')(e: ∀k,k∈l↔k∈l'):l=l':=by
 grind [Srt.ext,lkp_id]
theorem mem_put(o:TOrd lt){l:List κ}(h:Srt lt id l)(x k:κ):k∈zpT lt id l x↔k=x\/k∈l:=by
 have h1:=zym o x k h;grind [lkp_id]
def setS(lt:κ->κ->Bool)(l:List κ):List κ:=l.foldl (zpT lt id) []
theorem zui(o:TOrd lt): ∀(l s:List κ),Srt lt id s->Srt lt id (l.foldl (zpT lt id) s)/\ ∀k,k∈l.foldl (zpT lt id) s↔k∈l\/k∈s
 | [],s,h=>⟨h,fun k=>by simp⟩
 | x::l,s,h=>by
  obtain⟨h1,h2⟩:=zui o l (zpT lt id s x) (h.ins o x);grind [mem_put]
theorem zjG(o:TOrd lt)(l:List κ):Srt lt id (setS lt l):=(zui o l [] List.Pairwise.nil).1
theorem zgy(o:TOrd lt){l:List κ}{k:κ}:k∈setS lt l↔k∈l:=by
 unfold setS;rw[(zui o l [] List.Pairwise.nil).2 k];simp
theorem setS_eq(o:TOrd lt){l s:List κ}(h:Srt lt id s)(e: ∀k,k∈s↔k∈l):s=setS lt l:=zxI o h (zjG o l) fun k=>(e k).trans (zgy o).symm
end
def zbB(n:Str):Place:=⟨n,zc7⟩
def plI(n:Str)(x:Item):Place:=⟨n,zbg x⟩
def itM(x:Item):Module:={zdP with items:=[x]}
def hdM(m:Module):Module:={m with items:=[]}
def zmp(m:Module):List (Place×Module):=(zbB m.name,hdM m)::m.items.map fun x=>(plI m.name x,itM x)
def ent(l:List Module):List (Place×Module):=l.flatMap zmp
abbrev zrY:=Place->Option Module
def zbc(l:List Module):zrY:=fun p=>(lkp Module.name l p.module).bind fun m=>if p.part=zc7 then some (hdM m)else(lkp zbg m.items p.part).map itM
theorem zz7{x y:Item}(h:itM x=itM y):x=y:=by
 grind [itM]
def IsEnt(l:List Module)(p:Place)(c:Module):Prop:= ∃m∈l,(p=zbB m.name/\c=hdM m)\/ ∃x∈m.items,p=plI m.name x/\c=itM x
theorem zjS{l:List Module}{p:Place}{c:Module}:(p,c)∈ent l↔IsEnt l p c:=by
 grind [ent,IsEnt,zmp]
theorem zek{l:List Module}{p:Place}{c:Module}(h:zbc l p=some c):IsEnt l p c:=by
 unfold zbc at h;rw[Option.bind_eq_some_iff]at h;obtain⟨m,hm,h⟩:=h;obtain⟨h1,h2⟩:=zeI hm;obtain⟨pm,pp⟩:=p;simp only at h2 h;subst h2;refine⟨m,h1,?_⟩;by_cases hp:pp=zc7
 ·rw[if_pos hp]at h;cases h;exact .inl ⟨by rw[hp]; rfl,rfl⟩
 ·rw[if_neg hp,Option.map_eq_some_iff]at h;obtain⟨x,hx,rfl⟩:=h;obtain⟨h3,h4⟩:=zeI hx;exact .inr ⟨x,h3,by rw[<-h4]; rfl,rfl⟩
theorem zjN{l:List Module}(h:Parted l){p:Place}{c:Module}(he:IsEnt l p c):zbc l p=some c:=by
 obtain⟨m,hm,⟨rfl,rfl⟩ | ⟨x,hx,rfl,rfl⟩⟩:=he
 ·unfold zbc zbB;simp only[zvI h.names hm,Option.bind_some,if_true]
 ·unfold zbc plI;simp only[zvI h.names hm,Option.bind_some,if_neg (zlW (h.kinds m hm x hx)),zvI (h.parts m hm) hx,Option.map_some]
theorem cont_iff{l:List Module}(h:Parted l){p:Place}{c:Module}:zbc l p=some c↔IsEnt l p c:=⟨zek,zjN h⟩
def zey(l:List Module):List Place:=(ent l).map Prod.fst
theorem zq8{l:List Module}(h:Parted l){p:Place}:p∈zey l↔zbc l p≠none:=by
 unfold zey;rw[wai];constructor
 ·rintro⟨⟨q,c⟩,hq,rfl⟩;rw[zjN h (zjS.1 hq)];simp
 ·intro hc;obtain⟨c,hc⟩:=Option.ne_none_iff_exists'.1 hc;exact⟨(p,c),zjS.2 (zek hc),rfl⟩
theorem keysM_nodup{m:Module}(h:(m.items.map zbg).Nodup)(hk: ∀x∈m.items,x.kind.1≠0):((zmp m).map Prod.fst).Nodup :=by
 unfold zmp;rw[wae,wao,List.nodup_cons];refine⟨?_,?_⟩
 ·rw[wai];rintro⟨x,hx,e⟩;have:=congrArg Place.part e;exact zlW (hk x hx) this
 grind [plI]
theorem zvE{m:Module}{p:Place}(h:p∈(zmp m).map Prod.fst):p.module=m.name:=by
 unfold zmp at h;rw[wae,wao,List.mem_cons,wai]at h;rcases h with rfl | ⟨x,_,rfl⟩ <;> rfl
theorem zqs: ∀ {l:List Module},Parted l->(zey l).Nodup
 | [],_=>List.nodup_nil
 | m::r,h=>by
  have hr:Parted r:=⟨(List.nodup_cons.1 (wae▸h.names)).2,fun q hq=>h.parts q (List.mem_cons_of_mem _ hq),fun q hq=>h.kinds q (List.mem_cons_of_mem _ hq)⟩;unfold zey ent;rw[wal,waf,List.nodup_append];refine⟨keysM_nodup (h.parts m (by simp)) (h.kinds m (by simp)),zqs hr,?_⟩;intro a ha b hb e;subst e;have h1:=zvE ha;rw[wai]at hb;obtain⟨q,hq,rfl⟩:=hb;rw[List.mem_flatMap]at hq;obtain⟨z,hz,hq⟩:=hq;have h2:=zvE (List.mem_map.2 ⟨q,hq,rfl⟩);have hn:=(List.nodup_cons.1 (wae▸h.names)).1;simp_all
theorem lkp_ent{l:List Module}(h:Parted l)(p:Place):lkp Prod.fst (ent l) p=(zbc l p).map fun c=>(p,c):=by
 cases hc:zbc l p with
 | some c=>exact zvI (x:=(p,c)) (zqs h) (zjS.2 (zek hc))
 | none=>
  refine zlr.2 fun x hx e=> ?_;subst e;rw[zjN h (zjS.1 hx)]at hc;cases hc
structure PK (l:List Module):Prop where
 kinds: ∀m∈l,∀x∈m.items,0<x.kind.1
theorem zzc{x:Item}(h:0<x.kind.1):ltP zc7 (zbg x)=true:=by
 unfold ltP;have:zc7.kind.1<(zbg x).kind.1 :=h;simp[this]
theorem Parted.of_good{l:List Module}(h:Good l)(hk:Kinds l):Parted l:=⟨h.srt.nodup zrt,fun m hm=>(h.parts m hm).nodup zuJ,hk.kinds⟩
theorem PK.kd{l:List Module}(h:PK l):Kinds l:=⟨fun m hm x hx e=>by have:=h.kinds m hm x hx; omega⟩
theorem ltQ_head{n k:Str}(h:ltQ (zbB n) (zbB k)=true):ltS n k=true:=by
 simp only[ltQ,zbB,Bool.or_eq_true,wau,zuJ.irr]at h;simp_all
theorem ltQ_part{n:Str}{a b:Part}(h:ltQ ⟨n,a⟩ ⟨n,b⟩=true):ltP a b=true:=by
 simp only[ltQ,Bool.or_eq_true,wau,zrt.irr]at h;simp_all
theorem zsQ: ∀ {l:List Module},Srt ltQ Prod.fst (ent l)->Good l
 | [],_=>⟨List.Pairwise.nil,fun m hm=>by cases hm⟩
 | m::r,h=>by
  unfold ent Srt at h;rw[wal,List.pairwise_append]at h;obtain⟨h1,h2,h3⟩:=h;have hr:Good r:=zsQ h2;refine⟨List.pairwise_cons.2 ⟨fun z hz=> ?_,hr.srt⟩,fun z hz=> ?_⟩
  ·have ha:(zbB m.name,hdM m)∈zmp m:=by unfold zmp; simp
   have hb:(zbB z.name,hdM z)∈r.flatMap zmp:=List.mem_flatMap.2 ⟨z,hz,by unfold zmp; simp⟩;exact ltQ_head (h3 _ ha _ hb)
  ·rcases List.mem_cons.1 hz with rfl | hz
   ·unfold zmp at h1;have h4:=(List.pairwise_cons.1 h1).2;rw[List.pairwise_map]at h4;exact h4.imp fun{a b} hab=>ltQ_part hab
   ·exact hr.parts z hz
theorem zwK{a b:List Module}(ha:Good a)(hb:Good b)(ka:Kinds a)(kb:Kinds b)(h: ∀p,zbc a p=zbc b p):a=b:=by
 refine ha.ext hb fun k=> ?_;have key: ∀ {a b:List Module},Good a->Good b->Kinds a->Kinds b->(∀p,zbc a p=zbc b p)-> ∀m,lkp Module.name a k=some m->lkp Module.name b k=some m:=by
  intro a b ha hb ka kb h m hm;have h1:=h (zbB k);have e1:zbc a (zbB k)=some (hdM m):=by grind [zbc,zbB]
  rw[e1]at h1;cases hn:lkp Module.name b k with
  | none=>
   grind [zbc,zbB]
  | some m'=>
   have e2:zbc b (zbB k)=some (hdM m'):=by grind [zbc,zbB]
   rw[e2,Option.some.injEq]at h1;have hi:m.items=m'.items:=by
    refine Srt.ext zuJ (ha.at hm).1 (hb.at hn).1 fun q=> ?_;by_cases hq:q=zc7
    ·subst hq;rw[zlr.2 fun x hx=>zlW (ka.kinds m (zeI hm).1 x hx),zlr.2 fun x hx=>zlW (kb.kinds m' (zeI hn).1 x hx)]
    ·have h2:=h ⟨k,q⟩;unfold zbc at h2;simp only[hm,hn,Option.bind_some,if_neg hq]at h2;cases e3:lkp zbg m.items q with
     | none=>
      rw[e3,Option.map_none]at h2;cases e4:lkp zbg m'.items q with
      | none=>rfl
      | some y=>simp_all
     | some x=>
      rw[e3,Option.map_some]at h2;cases e4:lkp zbg m'.items q with
      | none=>simp_all
      | some y=>
       grind [zz7]
   obtain⟨n1,c1,p1,i1⟩:=m;obtain⟨n2,c2,p2,i2⟩:=m';grind [hdM]
 cases hm:lkp Module.name a k with
 | some m=>grind
 | none=>
  cases hn:lkp Module.name b k with
  | none=>rfl
  | some m=>grind
theorem zvB{l:List Module}{p:Place}{c:Module}:IsEnt (zcC l) p c↔IsEnt l p c:=by
 unfold IsEnt zcC;constructor
 ·rintro⟨m,hm,h⟩;obtain⟨q,hq,rfl⟩:=List.mem_map.1 hm;refine⟨q,(zcn l).mem_iff.1 hq,?_⟩;rcases h with h | ⟨x,hx,h⟩
  ·exact .inl h
  ·exact .inr ⟨x,(zcn q.items).mem_iff.1 hx,h⟩
 ·rintro⟨m,hm,h⟩;refine⟨zl5 m,List.mem_map.2 ⟨m,(zcn l).mem_iff.2 hm,rfl⟩,?_⟩;rcases h with h | ⟨x,hx,h⟩
  ·exact .inl h
  ·exact .inr ⟨x,(zcn m.items).mem_iff.2 hx,h⟩
theorem zzX{l:List Module}(h:Parted l)(p:Place):zbc (zcC l) p=zbc l p:=by
 have hp:=Parted.of_good (ziv h) (zlv h);cases hc:zbc l p with
 | some c=>grind [cont_iff,zvB]
 | none=>
  cases hd:zbc (zcC l) p with
  | none=>rfl
  | some c=>grind [zjN,zvB,zek]
theorem norm_pk{l:List Module}(h:PK l):PK (zcC l):=by
 refine⟨fun m hm x hx=> ?_⟩;unfold zcC at hm;obtain⟨q,hq,rfl⟩:=List.mem_map.1 hm;exact h.kinds q ((zcn l).mem_iff.1 hq) x ((zcn q.items).mem_iff.1 hx)
def zfo(b x y:zrY)(p:Place):Nat:=if b p=x p then(if b p=y p then 0 else 2)else if b p=y p then 1 else if x p=y p then 3 else 4
def zfF(b x y:zrY):zrY:=fun p=>if zfo b x y p=2 then y p else x p
def zop(b x y:zrY)(p:Place):Prop:=p≠zbB p.module/\zfF b x y (zbB p.module)=none/\zfo b x y (zbB p.module)≠4/\(zfF b x y p≠none\/zfo b x y p=4)
instance (b x y:zrY) (p:Place):Decidable (zop b x y p):=by unfold zop; infer_instance
def zee(b x y:zrY)(p:Place):List Place:=(if zfo b x y p=4 then [p]else [])++(if zop b x y p then [zbB p.module]else [])
def confP(b x y:zrY)(ps:List Place):List Place:=setS ltQ (ps.flatMap (zee b x y))
theorem mem_step{b x y:zrY}{p q:Place}:q∈zee b x y p↔(q=p/\zfo b x y p=4)\/(q=zbB p.module/\zop b x y p):=by
 grind [zee]
theorem mem_conf{b x y:zrY}{ps:List Place}{q:Place}:q∈confP b x y ps↔ ∃p∈ps,(q=p/\zfo b x y p=4)\/(q=zbB p.module/\zop b x y p):=by
 grind [confP,zgy,zlZ,mem_step]
def addL:List Module->List Item->List Module
 | [],_=>[]
 | [m],its=>[{m with items:=m.items++its}]
 | m::n::r,its=>m::addL (n::r) its
theorem zr3: ∀(A:List Module) (w:Module) (its:List Item),addL (A++[w]) its=A++[{w with items:=w.items++its}]
 | [],w,its=>rfl
 | [a],w,its=>rfl
 | a::b::A,w,its=>by
  have:=zr3 (b::A) w its;grind [addL]
def zrm(g:zrY)(acc:List Module)(p:Place):List Module:=match g p with
 | none=>acc
 | some m=>if p.part=zc7 then acc++[m]else addL acc m.items
def build(g:zrY)(ps:List Place):List Module:=ps.foldl (zrm g) []
def entG(g:zrY)(p:Place):Option (Place×Module):=(g p).map fun c=>(p,c)
structure Shape (g:zrY):Prop where
 hd: ∀p m,g p=some m->p.part=zc7->m.name=p.module/\m.items=[]
 it: ∀p m,g p=some m->p.part≠zc7-> ∃x,m=itM x/\zbg x=p.part/\0<x.kind.1
 head: ∀p m,g p=some m->g (zbB p.module)≠none
theorem zgY(a b:List Module):ent (a++b)=ent a++ent b:=List.flatMap_append
theorem zqb(m:Module):ent [m]=zmp m:=by simp[ent]
theorem zoU{g:zrY}{ps:List Place}(hs:Srt ltQ id ps)(hg:Shape g)(hc: ∀p,g p≠none->p∈ps): ∀n,n<=ps.length->ent (build g (ps.take n))=(ps.take n).filterMap (entG g)
 | 0,_=>rfl
 | n+1,h=>by
  have ih:=zoU hs hg hc n (by omega);have hn:n<ps.length:=by omega
  rw[wah hn,List.filterMap_append];unfold build at ih ⊢;rw[List.foldl_append];obtain⟨M,hM⟩:=zX ((ps.take n).foldl (zrm g) []);obtain⟨p,hp⟩:=zX (ps[n]);rw[hM]at ih ⊢;rw[hp];show ent (zrm g M p)=_++[p].filterMap (entG g);have hlt: ∀q∈ps,ltQ q p=true->q∈ps.take n:=by
   intro q hq hl;obtain⟨j,hj,rfl⟩:=List.getElem_of_mem hq;rcases war j n with hjn | hjn
   ·grind [List.mem_take_iff_getElem]
   ·rcases Nat.eq_or_lt_of_le hjn with e | hjn
    ·subst e; rw[hp,zlZ.irr]at hl; cases hl
    ·have:=(List.pairwise_iff_getElem.1 hs) n j hn hj hjn;simp only[id,hp]at this;rw[zlZ.asymm this]at hl; cases hl
  have hpre: ∀q∈ps.take n,ltQ q p=true:=by
   intro q hq;rw[List.mem_take_iff_getElem]at hq;obtain⟨j,hj,rfl⟩:=hq;have:=(List.pairwise_iff_getElem.1 hs) j n (by omega) hn (by omega);simp_all
  cases hgp:g p with
  | none=>simp[zrm,hgp,entG,ih]
  | some m=>
   have e1:[p].filterMap (entG g)=[(p,m)]:=by simp[entG,hgp]
   rw[e1];by_cases hz:p.part=zc7
   ·obtain⟨h1,h2⟩:=hg.hd p m hgp hz;have e2:zrm g M p=M++[m]:=(by simp[zrm,hgp,hz]);have e3:hdM m=m:=(by unfold hdM; rw[<-h2]);have e4:zbB m.name=p:=(by rw[h1]; unfold zbB; rw[<-hz]);grind [zgY,zqb,zmp]
   ·obtain⟨x,rfl,h2,h3⟩:=hg.it p m hgp hz;have hh:=hg.head p _ hgp;have hlh:ltQ (zbB p.module) p=true:=by
     grind [ltQ,zbB,zzc]
    have hin:=hlt _ (hc _ hh) hlh;obtain⟨c,hcc⟩:=Option.ne_none_iff_exists'.1 hh;have hE:(zbB p.module,c)∈ent M:=by
     grind [entG]
    have hsE:Srt ltQ Prod.fst (ent M):=by
     grind [Srt,List.take_sublist,entG,Option.map_eq_some_iff]
    rcases List.eq_nil_or_concat M with hnil | ⟨A,w,hw⟩
    ·rw[hnil]at hE; cases hE
    ·rw[List.concat_eq_append]at hw;subst hw;have e2:zrm g (A++[w]) p=A++[{w with items:=w.items++[x]}]:=by
      simp only[zrm,hgp,if_neg hz];exact zr3 _ _ _
     have hwn:w.name=p.module:=by
      have hwE:(zbB w.name,hdM w)∈ent (A++[w]):=zjS.2 ⟨w,by simp,.inl ⟨rfl,rfl⟩⟩;have hwp:ltQ (zbB w.name) p=true:=by
       grind [entG,Option.map_eq_some_iff]
      obtain⟨z,hz',hcase⟩:=zjS.1 hE;have hzn:z.name=p.module:=by
       rcases hcase with⟨e,_⟩ | ⟨_,_,e,_⟩
       ·exact(congrArg Place.module e).symm
       ·exact(congrArg Place.module e).symm
      rcases List.mem_append.1 hz' with hzA | hzw
      ·rw[zgY,zqb]at hsE;have h4:=(List.pairwise_append.1 hsE).2.2 (zbB z.name,hdM z) (zjS.2 ⟨z,hzA,.inl ⟨rfl,rfl⟩⟩) (zbB w.name,hdM w) (by unfold zmp; simp);have h5:=ltQ_head h4;rw[hzn]at h5;simp only[ltQ,zbB,Bool.or_eq_true,wau,decide_eq_true_eq]at hwp;rcases hwp with h6 | ⟨h6,_⟩
       ·rw[zrt.asymm h5]at h6; cases h6
       grind
      simp_all
     rw[e2,zgY,zqb,<-ih,zgY,zqb,wak];congr 1;unfold zmp;simp only[waf,wae,wac,wam,List.cons.injEq];refine⟨rfl,?_⟩;congr 2;have:plI w.name x=p:=(by unfold plI; rw[hwn,h2]);rw[this]
theorem build_law{g:zrY}{ps:List Place}(hs:Srt ltQ id ps)(hg:Shape g)(hc: ∀p,g p≠none->p∈ps):Good (build g ps)/\PK (build g ps)/\ ∀p,zbc (build g ps) p=g p:=by
 have h:=zoU hs hg hc ps.length (wat _);rw[List.take_length]at h;have hsE:Srt ltQ Prod.fst (ent (build g ps)):=by
  grind [Srt,entG,Option.map_eq_some_iff]
 have hG:=zsQ hsE;have hmem: ∀p c,(p,c)∈ent (build g ps)↔g p=some c:=by
  grind [entG,Option.map_eq_some_iff]
 have hK:PK (build g ps):=by
  refine⟨fun m hm x hx=> ?_⟩;have h1:=(hmem _ _).1 (zjS.2 ⟨m,hm,.inr ⟨x,hx,rfl,rfl⟩⟩);by_cases hz:(plI m.name x).part =zc7
  ·have:=(hg.hd _ _ h1 hz).2;simp[itM]at this
  ·obtain⟨y,h2,_,h3⟩:=hg.it _ _ h1 hz;rw[zz7 h2]; exact h3
 have hP:=Parted.of_good hG hK.kd;refine⟨hG,hK,fun p=> ?_⟩;cases hgp:g p with
 | some c=>exact zjN hP (zjS.1 ((hmem p c).2 hgp))
 | none=>
  cases hd:zbc (build g ps) p with
  | none=>rfl
  | some c=>
   have:=(hmem p c).1 (zjS.2 (zek hd));simp_all
section
open Go.Aw Go.Sort Go.RowKit Go.Shelf
def sortPlace_ren:Go.Shelf.Ren:=⟨fun | 6=>182 | 15=>171 | 14=>236 | 28=>223 | 29=>224 | 20=>268 | 21=>269 | 22=>270 | 23=>271 | 24=>272 | 25=>273 | 26=>274 | 27=>275 | 46=>293 | 47=>260 | 48=>261 | 49=>294 | 50=>295 | 57=>300 | n=>n,fun | 22=>147 | 24=>166 | 25=>270 | 3=>3 | 39=>253 | 0=>0 | 53=>307 | 55=>309 | 4=>4 | 46=>301 | 45=>300 | 50=>234 | 5=>5 | 9=>9 | 66=>337 | 70=>341 | 76=>362 | 77=>289 | n=>n,fun | n=>n⟩
theorem sortPlace:Go.Proofs.SlLaysF0.n6 prog sortPlace_ren:={
 mixed:=by kernel_rfl
 f6:=⟨f182.name,by decide,func182.trans (congrArg some (by kernel_rfl))⟩
 f14:=⟨f236.name,by decide,func236.trans (congrArg some (by kernel_rfl))⟩
 f15:=func171.trans (congrArg some (by kernel_rfl))
 f20:=⟨f268.name,by decide,func268.trans (congrArg some (by kernel_rfl))⟩
 f21:=⟨f269.name,by decide,func269.trans (congrArg some (by kernel_rfl))⟩
 f22:=⟨f270.name,by decide,func270.trans (congrArg some (by kernel_rfl))⟩
 f23:=⟨f271.name,by decide,func271.trans (congrArg some (by kernel_rfl))⟩
 f24:=⟨f272.name,by decide,func272.trans (congrArg some (by kernel_rfl))⟩
 f25:=⟨f273.name,by decide,func273.trans (congrArg some (by kernel_rfl))⟩
 f26:=⟨f274.name,by decide,func274.trans (congrArg some (by kernel_rfl))⟩
 f27:=⟨f275.name,by decide,func275.trans (congrArg some (by kernel_rfl))⟩
 f28:=func223.trans (congrArg some (by kernel_rfl))
 f29:=func224.trans (congrArg some (by kernel_rfl))
 f46:=⟨f293.name,by decide,func293.trans (congrArg some (by kernel_rfl))⟩
 f47:=func260.trans (congrArg some (by kernel_rfl))
 f48:=func261.trans (congrArg some (by kernel_rfl))
 f49:=⟨f294.name,by decide,func294.trans (congrArg some (by kernel_rfl))⟩
 f50:=⟨f295.name,by decide,func295.trans (congrArg some (by kernel_rfl))⟩
 f57:=⟨f300.name,by decide,func300.trans (congrArg some (by kernel_rfl))⟩
 t0:=underlying0
 a0:=isAgg0
 z0:=sizeOf0
 v0:=zeroValue0
 t3:=underlying3
 a3:=isAgg3
 z3:=sizeOf3
 v3:=zeroValue3
 t4:=underlying4
 a4:=isAgg4
 z4:=sizeOf4
 v4:=zeroValue4
 t5:=underlying5
 a5:=isAgg5
 z5:=sizeOf5
 v5:=zeroValue5
 t9:=underlying9
 a9:=isAgg9
 z9:=sizeOf9
 v9:=zeroValue9
 t22:=underlying147
 a22:=isAgg147
 z22:=sizeOf147
 v22:=zeroValue147
 t25:=underlying270
 a25:=isAgg270
 z25:=sizeOf270
 v25:=zeroValue270
 t39:=underlying253
 a39:=isAgg253
 z39:=sizeOf253
 v39:=zeroValue253
 t45:=underlying300
 a45:=isAgg300
 z45:=sizeOf300
 v45:=zeroValue300
 t46:=underlying301
 a46:=isAgg301
 z46:=sizeOf301
 v46:=zeroValue301
 t50:=underlying234
 a50:=isAgg234
 z50:=sizeOf234
 v50:=zeroValue234
 t53:=underlying307
 a53:=isAgg307
 z53:=sizeOf307
 v53:=zeroValue307
 t55:=underlying309
 a55:=isAgg309
 z55:=sizeOf309
 v55:=zeroValue309
 t66:=underlying337
 a66:=isAgg337
 z66:=sizeOf337
 v66:=zeroValue337
 t70:=underlying341
 a70:=isAgg341
 z70:=sizeOf341
 v70:=zeroValue341
 t76:=underlying362
 a76:=isAgg362
 z76:=sizeOf362
 v76:=zeroValue362
 t77:=underlying289
 a77:=isAgg289
 z77:=sizeOf289
 v77:=zeroValue289}
def zaE(p:Place):List D:=[eS p.module,eI p.part.kind.1,eS p.part.name]
set_option maxHeartbeats 4000000 in
theorem place_w(am:ByteArray)(ak:Int)(an:ByteArray)(bm:ByteArray)(bk:Int)(bn:ByteArray)(w:World):Calls prog 180 #[.agg #[.string am,.int .i64 ak,.string an],.agg #[.string bm,.int .i64 bk,.string bn]] w fun e w'=>
  e= .returned (.int .i64 (orI [zsi am bm,zh1 ak bk,zsi an bn]))/\ ∃q os',w'=grow (w.drewN q) os':=by
 go_enter func180,ntmps180
 go_wp2;refine wp_region_still_tail 19 zat (by kernel_rfl) ?_;obtain⟨W,hW⟩: ∃W:World,W={((w.alloc (.cells #[.string am,.int .i64 ak,.string an] 166)).alloc (.cells #[.string bm,.int .i64 bk,.string bn] 166))with drawn:=((w.alloc (.cells #[.string am,.int .i64 ak,.string an] 166)).alloc (.cells #[.string bm,.int .i64 bk,.string bn] 166)).drawn +1}:=⟨_,rfl⟩;rw[<-hW];obtain⟨c0,c1,hG⟩:=two_w w _ _ W hW;have a0:W.cell? ⟨w.heap.size,0,none⟩=some (.string am):=by simp[World.cell?,c0]
 have a1:W.cell? ⟨w.heap.size,1,none⟩=some (.int .i64 ak):=by simp[World.cell?,c0]
 have a2:W.cell? ⟨w.heap.size,2,none⟩=some (.string an):=by simp[World.cell?,c0]
 have b0:W.cell? ⟨w.heap.size+1,0,none⟩=some (.string bm):=by simp[World.cell?,c1]
 have b1:W.cell? ⟨w.heap.size+1,1,none⟩=some (.int .i64 bk):=by simp[World.cell?,c1]
 have b2:W.cell? ⟨w.heap.size+1,2,none⟩=some (.string bn):=by simp[World.cell?,c1]
 clear hW c0 c1;simp only[List.take_succ_cons,List.take_zero,List.drop_succ_cons,List.drop_zero]
 repeat still_step
 still_call (cmpS_w _ _ _)
 repeat still_step
 still_call (cmpI_w _ _ _)
 repeat still_step
 still_call (cmpS_w _ _ _)
 repeat still_step
 try refine wpStill_nil ?_
 generalize hx:zsi am bm=x at*;generalize hy:zh1 ak bk=y at*;generalize hz:zsi an bn=z at*;clear a0 a1 a2 b0 b1 b2;obtain⟨q,os',rfl⟩:=hG;generalize hWW:grow (w.drewN q) os'=W;have hor: ∀W',W'=W.alloc (.cells #[.int .i64 x,.int .i64 y,.int .i64 z] 3)->Calls prog 154 #[.slice (some ⟨W.heap.size,0,none⟩) 3 3] W' fun e w'=>e= .returned (.int .i64 (orI [x,y,z]))/\w'=W':=by
  rintro W' rfl;have hh:=World.alloc_heap_new W (.cells #[.int .i64 x,.int .i64 y,.int .i64 z] 3);exact or_w x y z _ _ _ (by simp only[World.cell?,hh]; rfl) (by simp only[World.cell?,hh]; rfl) (by simp only[World.cell?,hh]; rfl)
 generalize hr:orI [x,y,z]=r at*
 go_wp2_with (go_at_call 154; refine(hor _ rfl).mono ?_; rintro e w' ⟨rfl,rfl⟩)
 go_ret;refine⟨by rw[hx,hy,hz,hr]; rfl,q,os'++#[.cells #[.int .i64 x,.int .i64 y,.int .i64 z] 3],?_⟩;rw[alloc_eq_grow,<-hWW,grow_grow]
def cmpQ(a b:Place):Int:=orI [zsi a.module.1 b.module.1,zh1 a.part.kind.1 b.part.kind.1,zsi a.part.name.1 b.part.name.1]
theorem orI_cons(x:Int)(l:List Int):orI (x::l)=if x=0 then orI l else x:=by
 unfold orI;rw[List.find?_cons];by_cases h:x=0
 ·simp[h]
 ·have hx:(x !=0)=true:=by simpa using h
  rw[if_neg h,hx];rfl
theorem cmpQ_eq(a b:Place):cmpQ a b=if zsi a.module.1 b.module.1=0 then zyB a.part b.part else zsi a.module.1 b.module.1:=by
 unfold cmpQ zyB;rw[orI_cons]
theorem zwG(a b:Place):cmpQ a b<0↔ltQ a b=true:=by
 rw[cmpQ_eq];have h0:=zoY a.module b.module;have h1:=zwE a.module b.module;have h2:=zwF a.part b.part;unfold ltQ;rw[Bool.or_eq_true,wau,decide_eq_true_eq,<-h1,<-h2,<-h0];by_cases h:zsi a.module.1 b.module.1=0
 ·rw[if_pos h];simp[h]
 ·rw[if_neg h];simp[h]
theorem swoQ{α:Type}(f:α->Place):SWO (ltOf fun a b=>cmpQ (f a) (f b)):=by
 have e: ∀a b,ltOf (fun a b=>cmpQ (f a) (f b)) a b=ltQ (f a) (f b):=fun a b=>by
  unfold ltOf;rw[wav,decide_eq_true_eq]; exact zwG _ _
 refine{irrefl:=fun a=>by rw[e]; exact zlZ.irr _,trans:=fun a b c h1 h2=>by rw[e]at*; exact zlZ.tr _ _ _ h1 h2,ntrans:=fun a b c h1 h2=> ?_};rw[e]at*;cases h:ltQ (f a) (f c)with
 | false=>rfl
 | true=>
  cases hb:ltQ (f b) (f a)with
  | true=>rw[zlZ.tr _ _ _ hb h]at h2; cases h2
  | false=>have:=zlZ.conn _ _ h1 hb; rw[this,h2]at h; cases h
theorem sortQ_c(l:List Place)(hl:l.length<4611686018427387904):FnL prog 182 [.ar 0 l.length,.d (.clo (.func 180) [] [])] [(0,.arr 166 3 .flat (l.map zaE))]
  (fun V ol new=>V= .tup []/\(∃l':List Place,l.Perm l'/\(l'.Pairwise fun x y=> ¬cmpQ y x<0)/\ol=[(0,.arr 166 3 .flat (l'.map zaE))])/\new=[]):=by
 refine zxH sortPlace zaE id cmpQ 3 (by omega) (fun x=>rfl) (fun x d hd=> ?_) isAgg166 sizeOf166 swoQ 180 (fun bs w=>call180 bs w) (fun bs w=>call182 bs w) (fun W F x y ra rb h1 h2 w=> ?_) l hl
 ·simp only[zaE,eS,eI,List.mem_cons,List.not_mem_nil,or_false]at hd;rcases hd with rfl | rfl | rfl
  all_goals simp[D.one,Value.oneCell']
 ·simp only[zaE,eI,eS,zav,Aw.Rd]at h1 h2;obtain⟨_,_,rfl,rfl,_,_,rfl,rfl,_,_,rfl,rfl,rfl⟩:=h1;obtain⟨_,_,rfl,rfl,_,_,rfl,rfl,_,_,rfl,rfl,rfl⟩:=h2;exact place_w x.module.1 x.part.kind.1 x.part.name.1 y.module.1 y.part.kind.1 y.part.name.1 w
theorem not_cmpQ{l:List Place}(h:l.Pairwise fun x y=> ¬cmpQ y x<0)(hn:l.Nodup):Srt ltQ id l:=by
 unfold Srt;refine(List.Pairwise.and h hn).imp ?_;rintro a b ⟨h1,h2⟩;rw[zwG]at h1;cases hab:ltQ a b with
 | true=>exact hab
 | false=>exact absurd (zlZ.conn a b hab (by simpa using h1)) h2
end
set_option maxHeartbeats 4000000
theorem zpi:zj0 prog 166:=Go.Maps.Keyed.of_law (deep_law_laid (P:=prog) (by kernel_rfl) (m:=3) (by omega) (Nat.le_of_ble_eq_true (by kernel_rfl)) (by kernel_rfl) (by kernel_rfl))
theorem fsQ:fsOf prog 166=some ([(9,0),(66,1)],true):=by kernel_rfl
theorem fsPt:fsOf prog 66=some ([(3,0),(9,1)],true):=by kernel_rfl
theorem keyQ:prog.keyType 166=true:=by kernel_rfl
theorem cellsQ:prog.cellsOf 166=3:=by kernel_rfl
theorem cellsPt:prog.cellsOf 66=2:=by kernel_rfl
theorem cellsS:prog.cellsOf 9=1:=by kernel_rfl
theorem zvD{n:Nat}{t:TypeId}{fs:List (TypeId×Nat)}{a b:Value}{r:List Value}(hf:fsOf prog t=some (fs,true))(hc:(a::b::r).length =prog.cellsOf t):
  prog.keyLits (n+1) t (a::b::r)=(fs.mapM fun x=>prog.keyLits n x.1 (((a::b::r).drop x.2).take (prog.cellsOf x.1))).map List.flatten:=by
 unfold fsOf at hf;split at hf
 ·rename_i fs' hu;simp only[Option.some.injEq,Prod.mk.injEq]at hf;obtain⟨h1,h2⟩:=hf
  conv=>lhs; unfold Program.keyLits
  rw[hu];simp only[hc,h2,and_self,if_true];rw[<-h1,List.mapM_map];rfl
 ·cases hf
def zcM(p:Place):D:=.agg (zaE p)
theorem lits_part(n:Nat)(p:Part):prog.keyLits (n+2) 66 [.int .i64 p.kind.1,.string p.name.1]=some [.int .i64 p.kind.1,.string p.name.1.data.toList]:=by
 rw[zvD fsPt (by rw[cellsPt]; rfl)];have h1:prog.keyLits (n+1) 3 [Value.int .i64 p.kind.1]=some [Lit.int .i64 p.kind.1]:=by simp[Program.keyLits,tU3,p.kind.2]
 have h2:prog.keyLits (n+1) 9 [Value.string p.name.1]=some [Lit.string p.name.1.data.toList]:=by simp[Program.keyLits,tU9,p.name.2]
 simp[cellsI,cellsS,h1,h2]
theorem lits_place(n:Nat)(p:Place):prog.keyLits (n+3) 166 [.string p.module.1,.int .i64 p.part.kind.1,.string p.part.name.1]=some [.string p.module.1.data.toList,.int .i64 p.part.kind.1,.string p.part.name.1.data.toList]:=by
 rw[zvD fsQ (by rw[cellsQ]; rfl)];have h1:prog.keyLits (n+2) 9 [Value.string p.module.1]=some [Lit.string p.module.1.data.toList]:=by simp[Program.keyLits,tU9,p.module.2]
 have h2:=lits_part n p.part;simp[cellsPt,cellsS,h1,h2]
theorem sizeT2: ∃n,prog.types.size=n+2:=⟨_,(by kernel_rfl:prog.types.size=(prog.types.size-2)+2)⟩
theorem ztc(p:Place):zd3 prog 166 (.agg [.lit (.string p.module.1),.lit (.int .i64 p.part.kind.1),.lit (.string p.part.name.1)]):=by
 obtain⟨n,hn⟩:=sizeT2;have hl:=lits_place n p;refine⟨.agg #[.string p.module.1,.int .i64 p.part.kind.1,.string p.part.name.1],.string (keyBytes [.string p.module.1.data.toList,.int .i64 p.part.kind.1,.string p.part.name.1.data.toList]),rfl,?_⟩;have hf:=fsQ;unfold fsOf at hf;split at hf
 ·rename_i fs hu;have hform:Value.formed prog 166 (.agg #[.string p.module.1,.int .i64 p.part.kind.1,.string p.part.name.1])=true:=by
   simp[Value.formed,hu,cellsQ]
  unfold keyOf;rw[hu];simp only[keyQ,hform,Bool.and_self,if_true];have hc:(Value.agg #[.string p.module.1,.int .i64 p.part.kind.1,.string p.part.name.1]).cells.toList =[.string p.module.1,.int .i64 p.part.kind.1,.string p.part.name.1]:=rfl;rw[hc,hn,show n+2+1=n+3 from rfl,hl];rfl
 ·cases hf
theorem zsz{p q:Place}(h:zcM p=zcM q):p=q:=by
 obtain⟨⟨m,hm⟩,⟨⟨k,hk⟩,⟨n,hn⟩⟩⟩:=p;obtain⟨⟨m',hm'⟩,⟨⟨k',hk'⟩,⟨n',hn'⟩⟩⟩:=q;simp only[zcM,zaE,eS,eI,D.agg.injEq,List.cons.injEq,D.lit.injEq,Value.string.injEq,Value.int.injEq,true_and,and_true]at h;obtain⟨rfl,rfl,rfl⟩:=h;rfl
section
variable {α:Type}
def qK(l:List (Place×α)):List D:=l.map fun e=>zcM e.1
def qV(f:α->D)(l:List (Place×α)):List D:=l.map fun e=>f e.2
theorem zrw(l:List (Place×α)): ∀y∈qK l,zd3 prog 166 y:=fun y hy=>by
 obtain⟨e,_,rfl⟩:=List.mem_map.1 hy;exact ztc e.1
theorem mem_qK{l:List (Place×α)}{p:Place}:zcM p∈qK l↔p∈l.map Prod.fst:=by
 unfold qK;rw[wai,wai];exact⟨fun⟨e,h1,h2⟩=>⟨e,h1,zsz h2⟩,fun⟨e,h1,h2⟩=>⟨e,h1,by rw[h2]⟩⟩
theorem mget_q(f:α->D): ∀(l:List (Place×α)) (p:Place),zjZ (qK l) (qV f l) (zcM p)=(lkp Prod.fst l p).map fun e=>f e.2
 | [],p=>by simp[qK,qV,zjz,zxa]
 | e::l,p=>by
  have ih:=mget_q f l p;unfold qK qV at ih ⊢;rw[wae,wae,zhM,zeH,ih];by_cases h:e.1=p
  ·rw[if_pos (by rw[h]),if_pos h]; rfl
  ·rw[if_neg (fun h'=>h (zsz h')),if_neg h]
theorem put_q(f:α->D){l:List (Place×α)}{p:Place}{x:α}(h:p∉l.map Prod.fst):zgQ (qK l) (zcM p)=qK (l++[(p,x)])/\zjk (qK l) (qV f l) (zcM p) (f x)=qV f (l++[(p,x)])/\
  zjs (qK l) (List.range l.length) l.length (zcM p)=List.range (l++[(p,x)]).length /\zjT (qK l) l.length (zcM p)=(l++[(p,x)]).length :=by
 have hn:zcM p∉qK l:=fun h'=>h (mem_qK.1 h');have: ¬zeN (qK l) (zcM p)<(qK l).length :=fun h'=>hn (zcO.1 h');refine⟨by rw[zdt hn]; simp[qK],by rw[zdu hn]; simp[qV],?_,?_⟩
 ·simp only[zjs,if_neg this,wab,wad,wag,Nat.zero_add,List.range_succ]
 ·simp only[zjT,if_neg this,wab,wad,wag,Nat.zero_add]
end
def ztw:D:=.lit (.slice none 0 0)
def cM(m:Module):List D:=if m.items.isEmpty=true then [eS m.name,eS m.clock,zd5 m.params,ztw]else [eS m.name,eS m.clock,ztw,zbR m.items]
def eM(m:Module):D:=.agg (cM m)
theorem eM_hd(m:Module):eM (hdM m)= .agg [eS m.name,eS m.clock,zd5 m.params,ztw]:=rfl
theorem eM_it(x:Item):eM (itM x)= .agg [.lit (.string wap),.lit (.string wap),ztw,.sl [zaK x]]:=rfl
def wkD(a b:D):Prop:= ∀W F v,Rd W F a v->Rd W F b v
theorem wk_nil:wkD ztw (.sl []):=fun W F v h=>by
 simp only[ztw,Rd]at h;subst h;simp only[Rd];exact⟨⟨none,0,rfl,wat _,fun h=>absurd rfl h⟩,by simp⟩
theorem zjX(a:D):wkD a a:=fun _ _ _ h=>h
theorem wk_row{a b:D}{n m:D}{p q:D}{i j:D}(h1:wkD a b)(h2:wkD n m)(h3:wkD p q)(h4:wkD i j):wkD (.sl [[a,n,p,i]]) (.sl [[b,m,q,j]]):=fun W F v h=>by
 simp only[Rd,wad,wag]at h ⊢;obtain⟨⟨ad,cap,e1,e2,e3⟩,e4⟩:=h;refine⟨⟨ad,cap,e1,e2,fun hn=> ?_⟩,e4⟩;obtain⟨bb,off,k,f1,f2,f3⟩:=e3 hn;refine⟨bb,off,k,f1,f2,?_⟩;simp only[zbJ,zbd,wad,wag,and_true]at f3 ⊢;obtain⟨g0,⟨v1,c1,r1⟩,⟨v2,c2,r2⟩,⟨v3,c3,r3⟩,⟨v4,c4,r4⟩⟩:=f3;exact⟨g0,⟨v1,c1,h1 _ _ _ r1⟩,⟨v2,c2,h2 _ _ _ r2⟩,⟨v3,c3,h3 _ _ _ r3⟩,⟨v4,c4,h4 _ _ _ r4⟩⟩
theorem cM_row{m:Module}(h:m.items=[]\/m.params=[]): ∃a n p i:D,cM m=[a,n,p,i]/\(a.one/\n.one/\p.one/\i.one)/\wkD (.sl [[a,n,p,i]]) (.sl [zaC m]):=by
 obtain⟨nm,ck,ps,its⟩:=m;simp only at h;cases its with
 | nil=>exact⟨_,_,_,_,rfl,⟨rfl,rfl,trivial,rfl⟩,wk_row (zjX _) (zjX _) (zjX _) wk_nil⟩
 | cons x r=>
  have hp:ps=[]:=h.resolve_left (by simp);subst hp;exact⟨_,_,_,_,rfl,⟨rfl,rfl,rfl,trivial⟩,wk_row (zjX _) (zjX _) wk_nil (zjX _)⟩
theorem zss{l:List Module}{p:Place}{m:Module}(h:zbc l p=some m):m.items=[]\/m.params=[]:=by
 obtain⟨q,_,⟨_,rfl⟩ | ⟨x,_,_,rfl⟩⟩:=zek h
 ·exact .inl rfl
 ·exact .inr rfl
def mapQ(l:List (Place×Module)):AO:=.map (qK l) (qV eM l) (List.range l.length) l.length
def zdl(f:List Module):D:=.mp (qK (ent f)) (qV eM (ent f)) (List.range (ent f).length) (ent f).length
theorem zpq{f:List Module}(h:Parted f)(p:Place):zjZ (qK (ent f)) (qV eM (ent f)) (zcM p)=(zbc f p).map eM:=by
 rw[mget_q,lkp_ent h];cases zbc f p <;> rfl
theorem fresh_q{f:List Module}(h:Parted f){A B:List (Place×Module)}{p:Place}{c:Module}(e:ent f=A++(p,c)::B):p∉A.map Prod.fst:=by
 have hn:=zqs h;unfold zey at hn;rw[e,waf,wae,List.nodup_append]at hn;intro hp;exact hn.2.2 p hp p (by simp) rfl
theorem ent_split{f:List Module}{i:Nat}(h:i<f.length):ent f=ent (f.take i)++(zmp f[i]++ent (f.drop (i+1))):=by
 rw[<-zqb f[i],<-zgY,<-zgY];congr 1;rw[List.singleton_append,List.getElem_cons_drop,List.take_append_drop]
theorem ent_take{f:List Module}{i:Nat}(h:i<f.length):ent (f.take (i+1))=ent (f.take i)++zmp f[i]:=by
 rw[wah h,zgY,zqb]
theorem entM_take{m:Module}{k:Nat}(h:k<m.items.length):(zmp m).take (k+2)=(zmp m).take (k+1)++[(plI m.name m.items[k],itM m.items[k])]:=by
 unfold zmp;rw[List.take_succ_cons,List.take_succ_cons,wam,wah (by simpa using h),List.getElem_map]
theorem entM_split{m:Module}{k:Nat}(h:k<m.items.length):zmp m=(zmp m).take (k+1)++(plI m.name m.items[k],itM m.items[k])::(zmp m).drop (k+2):=by
 conv=>lhs; rw[<-List.take_append_drop (k+2) (zmp m),entM_take h]
 simp
theorem contentsOf_c(f:List Module)(hp:Parted f):FnP prog 176 [.agg [zax f]] (.d (zdl f)) []:=by
 refine FnP.of_eC (own:=[]) (fun i=>[]) zat func176 rfl call176 ntmps176 (zle rfl) results176 (fun hok=> ?_);have hl:f.length<=9223372036854775807/\ ∀m∈f,m.items.length<=9223372036854775807:=by
  have h1:=(zaM hok).1;simp only[D.ok,D.okL]at h1;have hm:=(za9 h1.1);refine⟨hm.1,fun m hm'=> ?_⟩;have h2:=hm.2 m hm';have h3:=(zaM (zaM (zaM (zaM h2).2).2).2).1;exact(za9 h3).1
 simp only[ZE,seval,zN];refine za1 (fun _=>[]) zat f.length (fun _=>True) (fun i=>([(1,.bp 1 0),(3,.mo 8),(10,.d (zax f)),(11,.d (eI f.length)),(12,.d (eI i))],
  [(1,.box [.d (zax f)]),(8,mapQ (ent (f.take i)))])) trivial ?_ ?_ (fun i hi _=> ?_)
 ·simp only[ZE,seval]
 ·have e:ent []=[]:=rfl;simp only[ZE,seval,List.take_zero,e,mapQ,qK,qV,wac,wag,List.range_zero]
 rcases war i f.length with h | h
 ·have hw:=zaq (show i<9223372036854775807 by omega);obtain⟨m,hm⟩:=zX (f[i]);have hs:=ent_split h;have ht:=ent_take h;rw[hm]at hs ht;have hml:m.items.length<=9223372036854775807:=hl.2 m (hm▸List.getElem_mem h);obtain⟨E,hE⟩:=zX (ent (f.take i));rw[hE]at hs ht;rw[hE,ht];have hk0:=ztc (zbB m.name);have hf0:zbB m.name∉E.map Prod.fst:=fresh_q hp (A:=E) (B:=m.items.map (fun x=>(plI m.name x,itM x))++ent (f.drop (i+1))) hs;have hp0:=zkl (put_q eM (x:=hdM m) hf0);have e0:(zmp m).take 1=[(zbB m.name,hdM m)]:=rfl;rw[<-e0,eM_hd]at hp0;simp only[ZE,seval,zcM,zaE,zbB,zc7,emp,ztw,wac]at hp0;simp only[ZE,seval,zbB,zc7,emp]at hk0;simp only[ZE,seval,zaw h,zaa h,zai h,hm,zN,mapQ,zpi,hk0,hp0];refine⟨fun y hy=>zrw _ y hy,?_⟩;refine za1 (fun _=>[]) zat m.items.length (fun _=>True) (fun k=>([(1,.bp 1 0),(3,.mo 8),(5,.bp 5 0),(10,.d (zax f)),(11,.d (eI f.length)),(12,.d (eI i)),(28,.d (zbR m.items)),(29,.d (eI m.items.length)),(30,.d (eI k))],
   [(1,.box [.d (zax f)]),(5,.box [.d (eS m.name),.d (eS m.clock),.d (zd5 m.params),.d (zbR m.items)]),(8,mapQ (E++(zmp m).take (k+1)))])) trivial ?_ ?_ (fun k hk _=> ?_)
  ·simp only[ZE,seval,waa]
  ·simp only[ZE,seval,mapQ]
  rcases war k m.items.length with h' | h'
  ·have hw':=zaq (show k<9223372036854775807 by omega);have ht':=entM_take h';have hs':=entM_split h';obtain⟨x,hx⟩:=zX (m.items[k]);rw[hx]at ht' hs';obtain⟨G,hG⟩:=zX ((zmp m).take (k+1));rw[hG]at ht' hs';rw[hG,show k+1+1=k+2 from rfl,ht',<-wak];have hk1:=ztc (plI m.name x);have hsp:ent f=(E++G)++(plI m.name x,itM x)::((zmp m).drop (k+2)++ent (f.drop (i+1))):=by
    rw[hs]
    conv=>lhs; rw[hs']
    simp only[wak,wam]
   have hf1:plI m.name x∉(E++G).map Prod.fst:=fresh_q hp hsp;have hp1:=zkl (put_q eM (x:=itM x) hf1);obtain⟨z,hz⟩:=zX ((plI m.name x,itM x));rw[hz,eM_it]at hp1;rw[hz];simp only[ZE,seval,zcM,zaE,plI,zbg,ztw]at hp1;simp only[ZE,seval,plI,zbg]at hk1;simp only[ZE,seval,zaw h',zaa h',zai h',hx,zN,mapQ,zpi,hk1,hp1,hw'];exact⟨fun y hy=>zrw _ y hy,h'⟩
  ·have:k=m.items.length:=by omega
   subst this;have hfull:(zmp m).take (m.items.length+1)=zmp m:=List.take_of_length_le (by simp[zmp]);simp only[ZE,seval,zaI h',zN,hw,mapQ,hfull];exact h
 ·have:i=f.length:=by omega
  subst this;simp only[ZE,seval,zaI h,zN,mapQ,List.take_length,zdl]
set_option maxHeartbeats 1000000
instance:Inhabited Place:=⟨⟨emp,zc7⟩⟩
def zqF(l:List Place)(js:List Nat):List Place:=js.map fun j=>l.getD j default
def eYq(p:Place):List D:=[zcM p]
theorem keysQ_it(l:List Place)(vs:List D)(bs:List Nat)(clock:Nat):zoR prog 235 [.ptr [.mp (l.map zcM) vs bs clock]] (fun pre=> ∃js:List Nat,js.Nodup/\(∀j∈js,j<l.length)/\pre=(zqF l js).map eYq) (fun xs=> ∃js:List Nat,js.Nodup/\(∀j∈js,j<l.length)/\(∀j,j<l.length->j∈js)/\xs=(zqF l js).map eYq):=by
 intro lim fam stop lp hY;have:=FnL.of_eC (P:=prog) (args:=[.yv 0,.d (.ptr [.mp (l.map zcM) vs bs clock])]) (os:=[(0,.ext lim fam stop lp [])]) (PL:=fun _ ol new=>(∃xs,(∃js:List Nat,js.Nodup/\(∀j∈js,j<l.length)/\(∀j,j<l.length->j∈js)/\xs=(zqF l js).map eYq)/\ol=[(0,.ext lim fam stop lp xs)]/\new=[])\/(ol=[(0,.ext lim (fun _=>stop) stop lp [])]/\new=[])) (own:=[]) (fun _=>[]) [0] zat func235 rfl call235 ntmps235 (zle rfl) results235 ?_
 ·refine this.mono ?_;rintro V Oo new ⟨ol,rfl,⟨xs,h1,rfl,h2⟩ | ⟨rfl,h2⟩⟩
  ·exact .inl ⟨xs,h1,rfl,h2⟩
  ·exact .inr ⟨rfl,h2⟩
 simp only[ZE,seval];refine zgR (fun _ _=>[]) zat l.length (fun i (js:List Nat)=>js.length=i/\js.Nodup/\ ∀j∈js,j<l.length) (fun i js=>([(0,.yv 0),(5,.mo 5)],[(0,.ext lim fam stop lp ((zqF l js).map eYq)),(5,.it (l.map zcM) vs bs clock js)])) [] ?_ ?_ ?_ (fun i js hi hI=> ?_)
 ·simp
 ·simp only[ZE,seval]
 ·simp only[ZE,seval,zqF,wac]
 obtain⟨h1,h2,h3⟩:=hI;simp only[ZE,seval];refine⟨by simp only[ZE,seval],fun j hj hjs=> ?_,fun hall=> ?_⟩
 ·have hj':j<l.length:=by simpa using hj
  have hD:l.getD j default=l[j]:=by simp[List.getD,hj']
  have hkj:(l.map zcM).getD j default=D.agg [.lit (.string l[j].module.1),.lit (.int .i64 l[j].part.kind.1),.lit (.string l[j].part.name.1)]:=by
   simp[List.getD,hj',zcM,zaE,eI,eS]
  have hlen:i<l.length:=by
   have:=zdr l.length (j::js) (List.nodup_cons.2 ⟨hjs,h2⟩) (fun k hk=>by
    rcases List.mem_cons.1 hk with rfl | hk
    ·exact hj'
    ·exact h3 k hk)
   simp at this; omega
  have hnew:(js++[j]).Nodup /\ ∀k∈js++[j],k<l.length:=by
   refine⟨List.nodup_append.2 ⟨h2,by simp,fun a ha b hb e=> ?_⟩,fun k hk=> ?_⟩
   ·simp at hb; subst hb; subst e; exact hjs ha
   ·rcases List.mem_append.1 hk with hk | hk
    ·exact h3 k hk
    ·simp at hk; subst hk; exact hj'
  have hpick:(zqF l js).map eYq++[[D.agg [.lit (.string l[j].module.1),.lit (.int .i64 l[j].part.kind.1),.lit (.string l[j].part.name.1)]]]=(zqF l (js++[j])).map eYq:=by
   simp only[zqF,waf,wae,wac,hD];rfl
  simp only[ZE,seval,hkj,List.getLast?_singleton,Option.some_or];refine⟨_,hY,?_,?_,?_⟩
  ·exact⟨js++[j],hnew.1,hnew.2,hpick⟩
  ·simp only[ZE,seval,zep,hpick];refine⟨hlen,js++[j],⟨by simp[h1],hnew⟩,?_⟩;simp only[ZE,seval]
  ·simp only[ZE,seval];refine⟨[3,5],[],?_⟩;simp only[ZE,seval]
 ·simp only[ZE,seval];refine⟨[5],[],?_⟩;simp only[ZE,seval];exact .inl ⟨_,⟨js,h2,h3,fun j hj=>hall j (by simpa using hj),rfl⟩,rfl⟩
theorem keysQ_c(l:List Place)(vs:List D)(bs:List Nat)(clock:Nat):FnP prog 179 [.mp (l.map zcM) vs bs clock] (.d (.clo (.func 235) [] [.ptr [.mp (l.map zcM) vs bs clock]])) []:=by
 refine FnP.of_eC (own:=[]) (fun _=>[]) zat func179 rfl call179 ntmps179 (zle rfl) results179 (fun hok=> ?_);simp only[ZE,seval]
def rowQ:List D->List D
 | [.agg cs]=>cs
 | _=>[]
theorem rowQ_pick(l:List Place)(js:List Nat):((zqF l js).map eYq).map rowQ=(zqF l js).map zaE:=by
 rw[wao]; rfl
theorem appendSeqQ_c(l:List Place)(vs:List D)(bs:List Nat)(clock:Nat)(hl:l.length<=4000000):FnL prog 267 [.nils,.d (.clo (.func 235) [] [.ptr [.mp (l.map zcM) vs bs clock]])] [] (fun V ol new=> ∃l':List Place,l'.Perm l/\V= .ar 90 l'.length/\ol=[(90,.arr 166 3 .flat (l'.map zaE))]/\new=[90]):=by
 refine FnL.of_eC (own:=[]) (fun id=>if id=0 then [.adB 2 0 90 166 3]else []) [] zat func267 rfl call267 ntmps267 (zle rfl) results267 ?_;simp only[ZE,seval];refine zq4 zat (fun _=>[]) rfl (by simp only[ZE,seval]) (keysQ_it l vs bs clock) (fun pre=>[(2,.box [.ar 90 pre.length]),(90,.arr 166 3 .flat (pre.map rowQ))]) ?_ ?_ ?_ ?_ ?_
 ·simp only[ZE,seval]
 ·intro pre; simp[zdU,zie]
 ·simp only[ZE,seval,psOk,zeQ]
 ·rintro pre x ⟨js,h1,h2,h3⟩;have hlen:(pre++[x]).length =js.length:=by rw[h3]; simp[zqF]
  have hjl:=zdr l.length js h1 h2;simp only[wab,wad,wag]at hlen;obtain⟨p,rfl⟩: ∃p,x=eYq p:=by
   have:x∈(zqF l js).map eYq:=by rw[<-h3]; simp
   obtain⟨p,_,rfl⟩:=List.mem_map.1 this;exact⟨p,rfl⟩
  simp only[eYq,zcM,zaE,ZE,seval,zve,zl0,zdU,zie,zrn,zeQ];refine⟨⟨by omega,by omega⟩,by simp,by simp,?_⟩;rw[waf]; rfl
 ·rintro xs ⟨js,h1,h2,h3,rfl⟩;simp only[ZE,seval];refine⟨[2],[90],?_⟩;simp only[ZE,seval];refine⟨zqF l js,?_,rfl,by rw[rowQ_pick]⟩;have:=(ziu h1 h2 h3).map fun j=>l.getD j default;rw[zgf]at this;exact this
theorem collectQ_c(l:List Place)(vs:List D)(bs:List Nat)(clock:Nat)(hl:l.length<=4000000):FnL prog 234 [.d (.clo (.func 235) [] [.ptr [.mp (l.map zcM) vs bs clock]])] [] (fun V ol new=> ∃l':List Place,l'.Perm l/\V= .ar 90 l'.length/\ol=[(90,.arr 166 3 .flat (l'.map zaE))]/\new=[90]):=by
 refine FnL.of_eC (own:=[]) (fun id=>[]) [] zat func234 rfl call234 ntmps234 (zle rfl) results234 ?_;simp only[ZE,seval];refine EFn.g ⟨[(90,90)],[.nils,.d (.clo (.func 235) [] [.ptr [.mp (l.map zcM) vs bs clock]])],_,_,appendSeqQ_c l vs bs clock hl,?_⟩;simp only[ZE,seval];rintro V ol new ⟨l',hp,rfl,rfl,rfl⟩;simp only[ZE,seval];refine⟨[],[90],?_⟩;simp only[ZE,seval];exact⟨l',hp,rfl,rfl⟩
theorem sortedQ_o(l:List Place)(hn:l.Nodup)(vs:List D)(bs:List Nat)(clock:Nat)(hl:l.length<=4000000):FnL prog 178 [.d (.clo (.func 235) [] [.ptr [.mp (l.map zcM) vs bs clock]]),.d (.clo (.func 180) [] [])] [] (fun V ol new=>V= .ar 90 (setS ltQ l).length /\ol=[(90,.arr 166 3 .flat ((setS ltQ l).map zaE))]/\new=[90]):=by
 refine FnL.of_eC (own:=[]) (fun id=>[]) [] zat func178 rfl call178 ntmps178 (zle rfl) results178 ?_;simp only[ZE,seval];refine EFn.g ⟨[(90,90)],[.d (.clo (.func 235) [] [.ptr [.mp (l.map zcM) vs bs clock]])],_,_,collectQ_c l vs bs clock hl,?_⟩;simp only[ZE,seval];rintro V ol new ⟨l',hp,rfl,rfl,rfl⟩;simp only[ZE,seval];refine EFn.g ⟨[(0,90)],[.ar 0 l'.length,.d (.clo (.func 180) [] [])],_,_,sortQ_c l' (by have:=hp.length_eq; omega),?_⟩;simp only[ZE,seval];rintro V ol new ⟨rfl,⟨r,h1,h2,rfl⟩,rfl⟩;have hr:r=setS ltQ l:=setS_eq zlZ (not_cmpQ h2 (h1.nodup_iff.1 (hp.nodup_iff.2 hn))) fun k=>(h1.mem_iff.symm.trans hp.mem_iff);subst hr;rw[h1.length_eq];simp only[ZE,seval];refine⟨[],[90],?_⟩;simp only[ZE,seval]
set_option maxHeartbeats 4000000
def zuQ(acc:List Place)(x:Place):List Place:=if acc.getLast?=some x then acc else acc++[x]
def dd(l:List Place):List Place:=l.foldl zuQ []
theorem zwM(l:List Place)(x:Place):dd (l++[x])=zuQ (dd l) x:=by unfold dd; rw[List.foldl_append]; rfl
theorem dd_last(l:List Place)(x:Place):(dd (l++[x])).getLast? =some x:=by
 rw[zwM];unfold zuQ;split
 ·assumption
 ·simp
theorem dd_take{l:List Place}{k:Nat}(h:k+1<l.length):dd (l.take (k+2))=if l[k+1]=l[k]then dd (l.take (k+1))else dd (l.take (k+1))++[l[k+1]]:=by
 rw[wah h,zwM];have hl:(dd (l.take (k+1))).getLast? =some l[k]:=by
  rw[wah (show k<l.length by omega)];exact dd_last _ _
 unfold zuQ;rw[hl];by_cases e:l[k+1]=l[k]
 ·rw[if_pos e,if_pos (by rw[e])]
 ·rw[if_neg e,if_neg (fun h=>e (Option.some.inj h).symm)]
theorem dd_len(l:List Place):(dd l).length <=l.length:=by
 have key: ∀n,n<=l.length->(dd (l.take n)).length <=n:=by
  intro n
  induction n with
  | zero=>intro _; simp[dd]
  | succ n ih=>
   intro h;have:=ih (by omega);rw[wah (by omega),zwM];unfold zuQ;split
   ·omega
   ·rw[wab]; simp only[wad,wag]; omega
 have:=key l.length (wat _);rwa [List.take_length]at this
theorem dd_mem(l:List Place)(p:Place):p∈dd l↔p∈l:=by
 have key: ∀(l acc:List Place),p∈l.foldl zuQ acc↔p∈acc\/p∈l:=by
  intro l
  induction l with
  | nil=>intro acc; simp
  | cons x l ih=>
   intro acc;rw[List.foldl_cons,ih,List.mem_cons];unfold zuQ;split
   ·rename_i h;have:=List.mem_of_getLast? h;constructor
    ·rintro(h | h)
     ·exact .inl h
     ·exact .inr (.inr h)
    ·rintro(h | rfl | h)
     ·exact .inl h
     ·exact .inl this
     ·exact .inr h
   ·rw[List.mem_append,List.mem_singleton,or_assoc]
 unfold dd;rw[key];simp
theorem dd_srt{l:List Place}(h:l.Pairwise fun x y=> ¬cmpQ y x<0):Srt ltQ id (dd l):=by
 have key: ∀n,n<=l.length->Srt ltQ id (dd (l.take n)):=by
  intro n
  induction n with
  | zero=>intro _; exact List.Pairwise.nil
  | succ n ih=>
   intro hn;have h1:=ih (by omega);rw[wah (by omega),zwM];unfold zuQ;split
   ·exact h1
   ·rename_i hne;unfold Srt;rw[List.pairwise_append];refine⟨h1,List.pairwise_singleton _ _,fun a ha b hb=> ?_⟩;simp only[List.mem_singleton]at hb;subst hb;have ha':=(dd_mem _ _).1 ha;rw[List.mem_take_iff_getElem]at ha';obtain⟨j,hj,rfl⟩:=ha';have h2:=(List.pairwise_iff_getElem.1 h) j n (by omega) (by omega) (by omega);rw[zwG]at h2;have h2':ltQ l[n] l[j]=false:=(by simpa using h2);show ltQ l[j] l[n]=true;cases hlt:ltQ l[j] l[n]with
    | true=>rfl
    | false=>
     have e:=zlZ.conn _ _ hlt h2';exfalso
     -- then l[j] = l[n] is the last one
     have hn0:0<n:=(by omega);obtain⟨m,rfl⟩: ∃m,n=m+1:=⟨n-1,by omega⟩;have hl:(dd (l.take (m+1))).getLast? =some l[m]:=by
      rw[wah (show m<l.length by omega)];exact dd_last _ _
     have hm:l[m]=l[m+1]:=by
      by_cases hjm:j=m
      ·subst hjm; exact e
      ·have h3:=(List.pairwise_iff_getElem.1 h) j m (by omega) (by omega) (by omega);have h4:=(List.pairwise_iff_getElem.1 h) m (m+1) (by omega) (by omega) (by omega);rw[zwG]at h3 h4;rw[e]at h3;have h3':ltQ l[m] l[m+1]=false:=(by simpa using h3);have h4':ltQ l[m+1] l[m]=false:=(by simpa using h4);exact zlZ.conn _ _ h3' h4'
     exact hne (by rw[hl,hm])
 have:=key l.length (wat _);rwa [List.take_length]at this
theorem dd_set{l:List Place}(h:l.Pairwise fun x y=> ¬cmpQ y x<0):dd l=setS ltQ l:=setS_eq zlZ (dd_srt h) fun k=>dd_mem l k
theorem zhN(p q:Place):(decide (p.module=q.module)&&(p.part.kind.val==q.part.kind.val&&decide (p.part.name=q.part.name)))=decide (p=q):=by
 rw[wav];simp only[wau,decide_eq_true_eq,beq_iff_eq];obtain⟨m,⟨⟨k,hk⟩,n⟩⟩:=p;obtain⟨m',⟨⟨k',hk'⟩,n'⟩⟩:=q;simp only[Place.mk.injEq,Part.mk.injEq,Subtype.mk.injEq]
theorem compactQ_c(l:List Place)(hl:l.length<=4000000):FnL prog 183 [.ar 0 l.length] [(0,.arr 166 3 .flat (l.map zaE))] (fun V ol new=>V= .d (.sl ((dd l).map zaE))/\ol=[]/\new=[]):=by
 refine FnL.of_eC (own:=[]) (fun i=>[]) [] zat func183 rfl call183 ntmps183 (zle rfl) results183 ?_;rcases war l.length 2 with h2 | h2
 ·have d2:decide ((l.length:Int)<2)=true:=decide_eq_true (by omega);have e:dd l=l:=by
   match l,h2 with
   | [],_=>rfl
   | [a],_=>simp[dd,zuQ]
   | a::b::r,h=>simp only[wad]at h; omega
  rw[e];simp only[ZE,seval,zN,waa,d2];refine⟨[0],[],?_⟩;simp only[ZE,seval]
 ·have d2:decide ((l.length:Int)<2)=false:=decide_eq_false (by omega);simp only[ZE,seval,zN,waa,d2];refine za1 (fun _=>[]) zat (l.length-1) (fun i=>dd (l.take (i+1))=l.take (i+1)) (fun i=>([(0,.ar 0 l.length),(3,.d (eI ((i+1:Nat):Int)))],[(0,.arr 166 3 .flat (l.map zaE))])) ?_ ?_ ?_ (fun i hi hI=> ?_)
  ·rw[wah (show 0<l.length by omega)];simp[dd,zuQ]
  ·simp only[ZE,seval]
  ·simp only[ZE,seval]
  rcases war i (l.length-1)with h | h
  ·have hk1:i+1<l.length:=by omega
   have hk0:i<l.length:=by omega
   have hw1:IntKind.i64.wrap (((i+1:Nat):Int)-1)=(i:Int):=by rw[show((i+1:Nat):Int)-1=(i:Int) by omega]; exact zaQ (by omega) (by omega)
   have hw2:IntKind.i64.wrap (((i+1:Nat):Int)+1)=((i+1+1:Nat):Int):=zaq (by omega);obtain⟨p,hp⟩:=zX (l[i+1]);obtain⟨q,hq⟩:=zX (l[i]);have ht:=dd_take hk1;rw[hp,hq,hI]at ht;by_cases e:p=q
   ·rw[if_pos e]at ht;have hpq:=zhN p q;rw[decide_eq_true e]at hpq;have hc1:(0<=((i+1:Nat):Int)):=(by omega);simp(maxSteps:=4000000) only[ZE,seval,zN,waa,zaw hk1,zai hk1,zaa hk1,zai hk0,zaa hk0,hp,hq,hw1,zaE,hpq,waq];refine⟨by kernel_rfl,hk1,hk0,⟨by omega,by omega,by omega,by omega⟩,?_⟩;refine zgR (X:=List Place) (fun _ _=>[]) zat (l.length-(i+1)-1) (fun j (A:List Place)=>A.length=l.length/\A.take (dd (l.take (i+1+j+1))).length =dd (l.take (i+1+j+1))/\(dd (l.take (i+1+j+1))).length <=i+1+j/\ ∀r,i+1+j<=r->A[r]? =l[r]?)
     (fun j A=>([(0,.ar 0 l.length),(3,.d (eI ((dd (l.take (i+1+j+1))).length :Nat))),(4,.sub 0 l.length (i+1) l.length),(5,.d (eI ((j+1:Nat):Int)))],[(0,.arr 166 3 .flat (A.map zaE))])) l ?_ ?_ ?_ (fun j A hj hJ=> ?_)
    ·have e2:(dd (l.take (i+1+0+1))).length =i+1:=by
      rw[show i+1+0+1=i+2 from rfl,ht,waj,Nat.min_eq_left (by omega)]
     refine⟨rfl,?_,by omega,fun _ _=>rfl⟩;rw[e2,show i+1+0+1=i+2 from rfl,ht]
    ·rw[show i+1+0+1=i+2 from rfl,ht,waj,Nat.min_eq_left (by omega)];simp only[ZE,seval,Int.natCast_zero,Nat.zero_add]
    ·simp only[ZE,seval]
    obtain⟨hA1,hA2,hK1,hA3⟩:=hJ;rcases war j (l.length-(i+1)-1)with hjl | hjl
    ·have hr1:i+1+(j+1)<l.length:=(by omega);have hr0:i+1+j<l.length:=(by omega);have hlt:decide (((j+1:Nat):Int)<((l.length-(i+1):Nat):Int))=true:=decide_eq_true (by omega);have hw3:IntKind.i64.wrap (((j+1:Nat):Int)-1)=(j:Int):=(by rw[show((j+1:Nat):Int)-1=(j:Int) by omega]; exact zaQ (by omega) (by omega));have hw4:IntKind.i64.wrap (((j+1:Nat):Int)+1)=((j+1+1:Nat):Int):=zaq (by omega);obtain⟨p1,hp1⟩:=zX (l[i+1+(j+1)]);obtain⟨p0,hp0⟩:=zX (l[i+1+j]);have hB1:i+1+(j+1)<A.length:=(by omega);have hB0:i+1+j<A.length:=(by omega);have hq1:A[i+1+(j+1)]=p1:=by
      have:=hA3 (i+1+(j+1)) (by omega);rw[wan hB1,wan hr1,hp1]at this;exact Option.some.inj this
     have hq0:A[i+1+j]=p0:=by
      have:=hA3 (i+1+j) (wat _);rw[wan hB0,wan hr0,hp0]at this;exact Option.some.inj this
     have ht1:dd (l.take (i+1+(j+1)+1))=if p1=p0 then dd (l.take (i+1+j+1))else dd (l.take (i+1+j+1))++[p1]:=by
      have:=dd_take (l:=l) (k:=i+1+j) (by omega);rw[show i+1+j+2=i+1+(j+1)+1 by omega]at this;rw[this,<-hp1,<-hp0];rfl
     have hKle:=dd_len (l.take (i+1+j+1));rw[waj,Nat.min_eq_left (by omega)]at hKle;obtain⟨K,hK⟩:=zX (dd (l.take (i+1+j+1)));rw[hK]at hA2 hKle hK1 ht1;have hpq1:=zhN p1 p0;by_cases e1:p1=p0
     ·rw[if_pos e1]at ht1;rw[decide_eq_true e1]at hpq1;simp(maxSteps:=4000000) only[ZE,seval,zN,waa,hlt,hA1,zai hB1,zaa hB1,zai hB0,zaa hB0,hq1,hq0,hw3,hw4,hK,zaE,hpq1,waq];refine⟨by kernel_rfl,⟨⟨by omega,by omega⟩,wat _⟩,hr1,⟨⟨by omega,by omega⟩,wat _⟩,hr0,?_⟩;simp only[zep];refine⟨hjl,A,⟨hA1,by rw[ht1]; exact hA2,by rw[ht1]; omega,fun r hr=>hA3 r (by omega)⟩,?_⟩;rw[ht1];simp only[ZE,seval]
     ·rw[if_neg e1]at ht1;rw[decide_eq_false e1]at hpq1;have hKA:K.length<A.length:=(by omega);have hKl:K.length<l.length:=(by omega);have hw5:IntKind.i64.wrap ((K.length:Int)+1)=((K.length+1:Nat):Int):=zaq (by omega);have hset:(A.map zaE).set K.length (zaE p1)=(A.set K.length p1).map zaE:=(by rw[List.map_set]);simp only[ZE,seval,zaE]at hset;have hlen2:(K++[p1]).length =K.length+1:=(by simp);simp(maxSteps:=4000000) only[ZE,seval,zN,waa,hlt,hA1,zai hB1,zaa hB1,zai hB0,zaa hB0,hq1,hq0,hw3,hw4,hK,zaE,hpq1,waq,zai hKl,hw5,zaa hKA,hset,Nat.zero_add];refine⟨by kernel_rfl,⟨⟨by omega,by omega⟩,wat _⟩,hr1,⟨⟨by omega,by omega⟩,wat _⟩,hr0,⟨⟨by omega,by omega⟩,wat _⟩,hr1,hKl,?_⟩;simp only[zep];refine⟨hjl,A.set K.length p1,⟨by rw[List.length_set]; exact hA1,?_,by rw[ht1,hlen2]; omega,fun r hr=> ?_⟩,?_⟩
      ·rw[ht1,hlen2,List.set_eq_take_append_cons_drop,if_pos hKA,hA2];rw[show K++p1::List.drop (K.length+1) A=(K++[p1])++List.drop (K.length+1) A by simp];exact List.take_left' hlen2
      ·rw[List.getElem?_set_ne (by omega)];exact hA3 r (by omega)
      ·rw[ht1,hlen2];simp only[ZE,seval]
    ·have hj2:i+1+j+1=l.length:=(by omega);rw[hj2,List.take_length]at hA2 hK1;have hlt:decide (((j+1:Nat):Int)<((l.length-(i+1):Nat):Int))=false:=decide_eq_false (by omega);rw[hj2,List.take_length];obtain⟨K,hK⟩:=zX (dd l);rw[hK]at hA2 hK1 ⊢;simp(maxSteps:=4000000) only[ZE,seval,zN,waa,hlt,hA1,waq];have hz:(A.map zaE).take K.length=K.map zaE:=(by rw[<-List.map_take,hA2]);have hd:(A.map zaE).drop l.length=[]:=List.drop_eq_nil_of_le (by rw[waa]; omega);have hKA:K.length<=l.length:=(by omega);rw[hz,hd,List.append_nil];have hl3:(K.map zaE++List.replicate (l.length-K.length) [D.lit (Value.string wap),D.lit (Value.int IntKind.i64 0),D.lit (Value.string wap)]).length =l.length:=by
      rw[wab,waa,List.length_replicate]; omega
     obtain⟨R,hR⟩:=zX (K.map zaE++List.replicate (l.length-K.length) [D.lit (Value.string wap),D.lit (Value.int IntKind.i64 0),D.lit (Value.string wap)]);rw[hR]at hl3 ⊢;have hRt:R.take K.length=K.map zaE:=(by rw[<-hR]; exact List.take_left' (by rw[waa]));rw[hl3];refine⟨⟨by omega,by omega,by omega,by omega⟩,⟨hKA,wat _⟩,⟨⟨rfl,by omega⟩,by omega,by omega⟩,?_⟩;refine⟨[0],[],?_⟩;simp only[ZE,seval,hl3,List.drop_zero,Nat.sub_zero,hRt];exact⟨Nat.zero_le _,hKA⟩
   ·rw[if_neg e]at ht;have hpq:=zhN p q;rw[decide_eq_false e]at hpq;simp(maxSteps:=4000000) only[ZE,seval,zN,waa,zaw hk1,zai hk1,zaa hk1,zai hk0,zaa hk0,hp,hq,hw1,hw2,zaE,hpq,waq];refine⟨by kernel_rfl,hk1,hk0,h,?_⟩;rw[ht,wah hk1,hp]
  ·have hi1:i+1=l.length:=by omega
   rw[hi1,List.take_length]at hI;rw[hi1];have hge:decide ((l.length:Int)<(l.length:Int))=false:=decide_eq_false (by omega);simp only[ZE,seval,hge,zN,waa];refine⟨[0],[],?_⟩;simp only[ZE,seval,hI]
end Go.Proofs.YtbenhdgpogiadaaGreat
