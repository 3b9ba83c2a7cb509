/-
 CONTRACTS and plain laws. Conditions: those of each law.
-/
import Derived.Test.YtbenhdgpogiadaaGreatNK1
set_option linter.unusedSimpArgs false
set_option linter.unusedVariables false
namespace Go.Proofs.YtbenhdgpogiadaaGreat
open Go.Aw
open Nat renaming reduceEqDiff->pE,reduceLT->pL,reduceAdd->pA,reduceSub->pS,reduceMul->pM,reduceLeDiff->pD
open Int renaming reduceToNat->qT,reduceGT->qG,reduceLT->qL,reduceGE->qH,reduceBNe->qN,reduceBEq->qB,reduceLE->qE,reduceNe->qO,reduceAdd->qA,reduceNeg->qM
set_option maxRecDepth 100000
set_option maxHeartbeats 1000000
/-- The first item that zaW a name; its kind. -/
def zce(m:Module)(n:Str):Item:=(get (zbG m.items) n).getD zaU
def zbu(m:Module)(n:Str):Int:=(zce m n).kind.1
theorem zs2(m:Module)(n:Str)(ks:List Int):FnP Tryz.prog 250 [.agg (zaf m),eS n,zfA ks] (.d (eB (has ks (zbu m n)))) []:=by
 refine FnP.of_eC (own:=[]) chL zat Tryz.func250 rfl Tryz.call250 Tryz.ntmps250 (Nat.le_of_ble_eq_true rfl) Tryz.results250 (fun hok=> ?_);simp only[ZE,↓reduceIte,pE,pL,pA,pS,pM,pD,zN,qT,qG,qL,qH,qN,qB,qE,qO,qA,qM,zaf,sMp,zak,zal,zaj,zfu,zfg];refine⟨fun y hy=>zcr _ y hy,?_⟩;have hc:=zn5 ks (zbu m n);simp only[ZE,↓reduceIte,pE,pL,pA,pS,pM,pD]at hc;refine EFn.p ?_;simp only[ZE,↓reduceIte,pE,pL,pA,pS,pM,pD];refine zar.i hc ?_;simp only[ZE,↓reduceIte,pE,pL,pA,pS,pM,pD]
theorem zsW(l:List Bind)(g:Nat)(c:D)(p:Bind->Bool)(hf: ∀b∈l,FnP Tryz.prog g [.agg (zjO b),c] (.d (eB (p b))) []):FnP Tryz.prog 280 [zel l,.clo (.func g) [] [c]] (.d (eI (zgM p l))) []:=by
 refine FnP.of_eC (own:=[]) chL zat Tryz.func280 rfl Tryz.call280 Tryz.ntmps280 (Nat.le_of_ble_eq_true rfl) Tryz.results280 (fun hok=> ?_);obtain⟨hl,_⟩:=za9 (zaM hok).1;simp only[ZE,↓reduceIte,pE,pL,pA,pS,pM,pD,zN,qT,qG,qL,qH,qN,qB,qE,qO,qA,qM];refine za1 chL zat l.length (fun i=> ∀j (_:j<i) (hj:j<l.length),p l[j]=false) (fun i=>([(0,.d (zel l)),(1,.d (.clo (.func g) [] [c])),(7,.d (eI l.length)),(8,.d (eI i))],[])) (by simp) (by simp only[ZE,↓reduceIte,pE,pL,pA,pS,pM,pD,zN,qT,qG,qL,qH,qN,qB,qE,qO,qA,qM]) (by simp only[ZE,↓reduceIte,pE,pL,pA,pS,pM,pD]) (fun i hi hI=> ?_);rcases Nat.lt_or_ge i l.length with h | h
 ·have hw:=zaq (show i<9223372036854775807 by omega);simp only[ZE,↓reduceIte,pE,pL,pA,pS,pM,pD,zaw h,zaa h,zai h];have hc:=hf l[i] (List.getElem_mem h);simp only[ZE,↓reduceIte,pE,pL,pA,pS,pM,pD]at hc;refine EFn.p ?_;simp only[ZE,↓reduceIte,pE,pL,pA,pS,pM,pD];refine zar.i hc ?_;simp only[ZE,↓reduceIte,pE,pL,pA,pS,pM,pD,hw];refine zd8 (fun h3=> ?_) (fun h3=>⟨h,fun j hj hj'=> ?_⟩)
  ·rw[zeP h h3 hI]
  ·rcases Nat.lt_succ_iff_lt_or_eq.1 hj with hj | rfl
   ·exact hI j hj hj'
   ·exact h3
 ·simp only[ZE,↓reduceIte,pE,pL,pA,pS,pM,pD,zaI h];rw[zeO (fun j hj=>hI j (by omega) hj)]
theorem zml(l:List Bind)(g:Nat)(c:D)(p:Bind->Bool)(hf: ∀b∈l,FnP Tryz.prog g [.agg (zjO b),c] (.d (eB (p b))) []):FnP Tryz.prog 251 [zel l,.clo (.func g) [] [c]] (.d (eB (l.any p))) []:=by
 refine FnP.of_eC (own:=[]) chL zat Tryz.func251 rfl Tryz.call251 Tryz.ntmps251 (Nat.le_of_ble_eq_true rfl) Tryz.results251 (fun hok=> ?_);simp only[ZE,↓reduceIte,pE,pL,pA,pS,pM,pD,zN,qT,qG,qL,qH,qN,qB,qE,qO,qA,qM];refine EFn.p ?_;simp(maxSteps:=4000000) only[ZE,↓reduceIte,pE,pL,pA,pS,pM,pD];have hc:=zsW l g c p hf;simp(maxSteps:=4000000) only[ZE,↓reduceIte,pE,pL,pA,pS,pM,pD]at hc;refine zar.i hc ?_;clear hc;simp only[ZE,↓reduceIte,pE,pL,pA,pS,pM,pD,zN,qT,qG,qL,qH,qN,qB,qE,qO,qA,qM,zf0]
theorem zsX(l:List Item)(g:Nat)(c:D)(p:Item->Bool)(hf: ∀b∈l,FnP Tryz.prog g [.agg (zaK b),c] (.d (eB (p b))) []):FnP Tryz.prog 112 [zbR l,.clo (.func g) [] [c]] (.d (eI (zgM p l))) []:=by
 refine FnP.of_eC (own:=[]) chL zat Tryz.func112 rfl Tryz.call112 Tryz.ntmps112 (Nat.le_of_ble_eq_true rfl) Tryz.results112 (fun hok=> ?_);obtain⟨hl,_⟩:=za9 (zaM hok).1;simp only[ZE,↓reduceIte,pE,pL,pA,pS,pM,pD,zN,qT,qG,qL,qH,qN,qB,qE,qO,qA,qM];refine za1 chL zat l.length (fun i=> ∀j (_:j<i) (hj:j<l.length),p l[j]=false) (fun i=>([(0,.d (zbR l)),(1,.d (.clo (.func g) [] [c])),(7,.d (eI l.length)),(8,.d (eI i))],[])) (by simp) (by simp only[ZE,↓reduceIte,pE,pL,pA,pS,pM,pD,zN,qT,qG,qL,qH,qN,qB,qE,qO,qA,qM]) (by simp only[ZE,↓reduceIte,pE,pL,pA,pS,pM,pD]) (fun i hi hI=> ?_);rcases Nat.lt_or_ge i l.length with h | h
 ·have hw:=zaq (show i<9223372036854775807 by omega);simp only[ZE,↓reduceIte,pE,pL,pA,pS,pM,pD,zaw h,zaa h,zai h];have hc:=hf l[i] (List.getElem_mem h);simp only[ZE,↓reduceIte,pE,pL,pA,pS,pM,pD]at hc;refine EFn.p ?_;simp only[ZE,↓reduceIte,pE,pL,pA,pS,pM,pD];refine zar.i hc ?_;simp only[ZE,↓reduceIte,pE,pL,pA,pS,pM,pD,hw];refine zd8 (fun h3=> ?_) (fun h3=>⟨h,fun j hj hj'=> ?_⟩)
  ·rw[zeP h h3 hI]
  ·rcases Nat.lt_succ_iff_lt_or_eq.1 hj with hj | rfl
   ·exact hI j hj hj'
   ·exact h3
 ·simp only[ZE,↓reduceIte,pE,pL,pA,pS,pM,pD,zaI h];rw[zeO (fun j hj=>hI j (by omega) hj)]
theorem zcI(l:List Item)(g:Nat)(c:D)(p:Item->Bool)(hf: ∀b∈l,FnP Tryz.prog g [.agg (zaK b),c] (.d (eB (p b))) []):FnP Tryz.prog 54 [zbR l,.clo (.func g) [] [c]] (.d (eB (l.any p))) []:=by
 refine FnP.of_eC (own:=[]) chL zat Tryz.func54 rfl Tryz.call54 Tryz.ntmps54 (Nat.le_of_ble_eq_true rfl) Tryz.results54 (fun hok=> ?_);simp only[ZE,↓reduceIte,pE,pL,pA,pS,pM,pD,zN,qT,qG,qL,qH,qN,qB,qE,qO,qA,qM];refine EFn.p ?_;simp(maxSteps:=4000000) only[ZE,↓reduceIte,pE,pL,pA,pS,pM,pD];have hc:=zsX l g c p hf;simp(maxSteps:=4000000) only[ZE,↓reduceIte,pE,pL,pA,pS,pM,pD]at hc;refine zar.i hc ?_;clear hc;simp only[ZE,↓reduceIte,pE,pL,pA,pS,pM,pD,zN,qT,qG,qL,qH,qN,qB,qE,qO,qA,qM,zf0]
/-- What a file is while it is checked,but for what was zcV: the scopes,the first module of each name. -/
def zc4(acc:List (Str×Int))(p:Module×Nat):List (Str×Int):=if (get acc p.1.name).isNone =true then acc++[(p.1.name,(p.2:Int))]else acc
def znH(l:List Module):List (Str×Int):=l.zipIdx.foldl zc4 []
def zab(l:List Module):D:=.sl (l.map zaf)
def zaF(l:List Module):D:=sMp eI (znH l)
/-- The first module of a name. -/
def zcA(l:List Module)(n:Str):Option Int:=get (znH l) n
def zap(l:List Module)(ks vs:List D)(bs:List Nat)(cl:Nat):List D:=[zab l,zaF l,.mp ks vs bs cl]
theorem zfB{l:List Module}{n:Str}{i:Int}(h:zcA l n=some i): ∃(k:Nat) (hk:k<l.length),i=k/\l[k].name =n:=by
 have key: ∀(r:List (Module×Nat)) (acc:List (Str×Int)),(∀p∈r,∃hk:p.2<l.length,l[p.2]=p.1)->(∀e∈acc,∃(k:Nat) (hk:k<l.length),e.2=k/\l[k].name =e.1)-> ∀e∈r.foldl zc4 acc,∃(k:Nat) (hk:k<l.length),e.2=k/\l[k].name =e.1:=by
  intro r
  induction r with
  | nil=>intro acc _ h e he; exact h e he
  | cons p r ih=>
   intro acc hr ha e he;rw[List.foldl_cons]at he;refine ih _ (fun q hq=>hr q (List.mem_cons_of_mem _ hq)) (fun e he=> ?_) e he;unfold zc4 at he;split at he
   ·rcases List.mem_append.1 he with he | he
    ·exact ha e he
    ·simp only[List.mem_singleton]at he;subst he;obtain⟨hk,e1⟩:=hr p List.mem_cons_self;exact⟨p.2,hk,rfl,by rw[e1]⟩
   ·exact ha e he
 unfold zcA get at h;rw[Option.map_eq_some_iff]at h;obtain⟨e,he,rfl⟩:=h;obtain⟨k,hk,h1,h2⟩:=key l.zipIdx [] (fun p hp=>by
  obtain⟨q,i⟩:=p;rw[List.mem_zipIdx_iff_getElem?]at hp;obtain⟨h3,h4⟩:=List.getElem?_eq_some_iff.1 hp;exact⟨h3,h4⟩) (by simp) e (List.mem_of_find?_eq_some he)
 have h5:=List.find?_some he;exact⟨k,hk,h1,by rw[h2]; exact of_decide_eq_true h5⟩
/-- The kind of a port of the module of an instance,or 0. -/
def zbS(l:List Module)(x:Item)(n:Str):Int:=
 match zcA l x.of with
 | some i=>if (x.kind.1==9&&has [1,2] (zbu (l.getD i.toNat ⟨emp,emp,[],[]⟩) n))=true then zbu (l.getD i.toNat ⟨emp,emp,[],[]⟩) n else 0
 | none=>0
theorem ztR(l:List Module)(ks vs:List D)(bs:List Nat)(cl:Nat)(x:Item)(n:Str):FnP Tryz.prog 253 [.agg (zap l ks vs bs cl),.agg (zaK x),eS n] (.d (eI (zbS l x n))) []:=by
 cases hf:get (znH l) x.of with
 | none=>
  refine FnP.of_eC (own:=[]) (fun _=>[]) zat Tryz.func253 rfl Tryz.call253 Tryz.ntmps253 (Nat.le_of_ble_eq_true rfl) Tryz.results253 (fun hok=> ?_);simp(maxSteps:=4000000) only[ZE,↓reduceIte,pE,pL,pA,pS,pM,pD,zN,qT,qG,qL,qH,qN,qB,qE,qO,qA,qM,zap,zab,zaF,sMp,zak,zal,zaj,hf];refine⟨fun y hy=>zcr _ y hy,?_⟩;have:zcA l x.of=none:=hf;simp only[zbS,this]
 | some i=>
  obtain⟨k,hk,rfl,hn⟩:=zfB hf;have hp:zbS l x n=if (x.kind.1==9&&has [1,2] (zbu l[k] n))=true then zbu l[k] n else 0:=by
   have:zcA l x.of=some (k:Int):=hf;have e:l.getD k ⟨emp,emp,[],[]⟩=l[k]:=by simp[List.getD,hk]
   simp only[zbS,this,Int.toNat_natCast,e]
  refine FnP.of_eC (own:=[]) chL zat Tryz.func253 rfl Tryz.call253 Tryz.ntmps253 (Nat.le_of_ble_eq_true rfl) Tryz.results253 (fun hok=> ?_);have hc:=zs2 l[k] n [1,2];simp only[ZE,↓reduceIte,pE,pL,pA,pS,pM,pD,zaf,sMp]at hc;simp(maxSteps:=4000000) only[ZE,↓reduceIte,pE,pL,pA,pS,pM,pD,zN,qT,qG,qL,qH,qN,qB,qE,qO,qA,qM,zap,zab,zaF,sMp,zak,zal,zaj,hf,zai hk,zaa hk,zaf,zfu,zfg];refine⟨fun y hy=>zcr _ y hy,za3.i (fun _=>hc) ?_⟩;simp only[ZE,↓reduceIte,pE,pL,pA,pS,pM,pD];refine zd8 (fun h=>⟨fun y hy=>zcr _ y hy,?_⟩) (fun h=> ?_)
  ·rw[hp,if_pos h]; rfl
  ·rw[hp,if_neg (by rw[h]; simp)]
def inc(n:Int):Int:=IntKind.i64.wrap (n+1)
def endI(n:Str)(acc:Int×Int)(x:Item):Int×Int:=if (x.kind.1==7&&decide (x.name=n))=true then(inc acc.1,acc.2)else if (x.kind.1==8&&decide (x.name=n))=true then(acc.1,inc acc.2)else acc
def zgX(l:List Module)(x:Item)(n:Str)(acc:Int×Int)(b:Bind):Int×Int:=if (decide (b.chan=n)&&zbS l x b.port==1)=true then(inc acc.1,acc.2)else if (decide (b.chan=n)&&zbS l x b.port==2)=true then(acc.1,inc acc.2)else acc
def zrr(l:List Module)(n:Str)(acc:Int×Int)(x:Item):Int×Int:=x.ports.foldl (zgX l x n) (endI n acc x)
def zeZ(l:List Module)(m:Module)(n:Str):Int×Int:=m.items.foldl (zrr l n) (0,0)
theorem zc3{α β:Type}(f:β->α->β)(b:β)(l:List α)(i:Nat)(h:i<l.length):(l.take (i+1)).foldl f b=f ((l.take i).foldl f b) l[i]:=by
 rw[List.take_succ_eq_append_getElem h,List.foldl_append]; rfl
theorem zhD(l:List Module)(ks vs:List D)(bs:List Nat)(cl:Nat)(m:Module)(n:Str):FnP Tryz.prog 203 [.agg (zap l ks vs bs cl),.agg (zaf m),eS n] (.tup [.d (eI (zeZ l m n).1),.d (eI (zeZ l m n).2)]) []:=by
 refine FnP.of_eC (own:=[]) chL zat Tryz.func203 rfl Tryz.call203 Tryz.ntmps203 (Nat.le_of_ble_eq_true rfl) Tryz.results203 (fun hok=> ?_);have hm:m.items.length<=9223372036854775807/\ ∀x∈m.items,D.okL (zaK x):=by
  have:=(zaM (zaM hok).2).1;simp only[D.ok,zaf,D.okL]at this;exact za9 this.2.2.2.1
 simp(maxSteps:=4000000) only[ZE,↓reduceIte,pE,pL,pA,pS,pM,pD,zN,qT,qG,qL,qH,qN,qB,qE,qO,qA,qM,zaf,sMp,zap,zab,zaF];refine za1 chL zat m.items.length (fun i=>True) (fun i=>([(2,.d (eS n)),(3,.bp 3 0),(6,.d (eI ((m.items.take i).foldl (zrr l n) (0,0)).1)),(7,.d (eI ((m.items.take i).foldl (zrr l n) (0,0)).2)),(15,.d (zbR m.items)),(16,.d (eI m.items.length)),(17,.d (eI i))],
  [(3,.box ((zap l ks vs bs cl).map .d))])) trivial ?_ ?_ (fun i hi _=> ?_)
 ·simp only[ZE,↓reduceIte,pE,pL,pA,pS,pM,pD,List.take_zero,List.foldl_nil]
 ·simp only[ZE,↓reduceIte,pE,pL,pA,pS,pM,pD,zap,zab,zaF,sMp]
 obtain⟨acc,hacc⟩:=zX ((m.items.take i).foldl (zrr l n) (0,0));rcases Nat.lt_or_ge i m.items.length with h | h
 ·have hw:=zaq (show i<9223372036854775807 by omega);have hs:=zc3 (zrr l n) (0,0) m.items i h;rw[hacc]at hs;simp(maxSteps:=4000000) only[ZE,↓reduceIte,pE,pL,pA,pS,pM,pD,zaw h,zaa h,zai h,hacc,hs,zap,zab,zaF,sMp];have hbok:m.items[i].ports.length <=9223372036854775807:=by
   have:=hm.2 m.items[i] (List.getElem_mem h);simp only[zaK,D.okL]at this;have h1:=(zbK (zbK (zbK (zbK (zbK (zbK (zbK this.2.2).2).2).2).2).2).2).2;simp only[D.okL]at h1;exact(za9 h1.2.2.1).1
  obtain⟨e0,he0⟩:=zX (endI n acc m.items[i]);have he:=he0;unfold endI inc at he;have hx:zrr l n acc m.items[i]=m.items[i].ports.foldl (zgX l m.items[i] n) e0:=by rw[<-he0]; rfl
  refine zd8 (fun h7=> ?_) (fun h7=>zd8 (fun h8=> ?_) (fun h8=> ?_))
  ·rw[if_pos h7]at he;subst he;refine za1 chL zat m.items[i].ports.length (fun j=>True) (fun j=>([(2,.d (eS n)),(3,.bp 3 0),(6,.d (eI ((m.items[i].ports.take j).foldl (zgX l m.items[i] n) (IntKind.i64.wrap (acc.1+1),acc.2)).1)),(7,.d (eI ((m.items[i].ports.take j).foldl (zgX l m.items[i] n) (IntKind.i64.wrap (acc.1+1),acc.2)).2)),(9,.bp 9 0),(15,.d (zbR m.items)),(16,.d (eI m.items.length)),(17,.d (eI i)),(46,.d (zel m.items[i].ports)),(47,.d (eI m.items[i].ports.length)),(48,.d (eI j))],
    [(9,.box ((zaK m.items[i]).map .d)),(3,.box ((zap l ks vs bs cl).map .d))])) trivial ?_ ?_ (fun j hj _=> ?_)
   ·simp only[ZE,↓reduceIte,pE,pL,pA,pS,pM,pD,List.take_zero,List.foldl_nil]
   ·simp only[ZE,↓reduceIte,pE,pL,pA,pS,pM,pD,zap,zab,zaF,sMp]
   rcases Nat.lt_or_ge j m.items[i].ports.length with h' | h'
   ·have hw':=zaq (show j<9223372036854775807 by omega);obtain⟨a2,ha2⟩:=zX ((m.items[i].ports.take j).foldl (zgX l m.items[i] n) (IntKind.i64.wrap (acc.1+1),acc.2));have hs2:=zc3 (zgX l m.items[i] n) (IntKind.i64.wrap (acc.1+1),acc.2) m.items[i].ports j h';rw[ha2]at hs2;have hc:=ztR l ks vs bs cl m.items[i] m.items[i].ports[j].port;simp only[ZE,↓reduceIte,pE,pL,pA,pS,pM,pD,zap,zab,zaF,sMp]at hc;simp(maxSteps:=4000000) only[ZE,↓reduceIte,pE,pL,pA,pS,pM,pD,zaw h',zaa h',zai h',ha2,hs2,zap,zab,zaF,sMp];refine EFn.p ?_;simp only[ZE,↓reduceIte,pE,pL,pA,pS,pM,pD];refine zar.i hc ?_;simp only[ZE,↓reduceIte,pE,pL,pA,pS,pM,pD,hw',zgX,inc];refine zd8 (fun g1=> ?_) (fun g1=>zd8 (fun g2=> ?_) (fun g2=> ?_))
    ·simp only[g1,if_true]; exact⟨h',trivial,trivial⟩
    ·simp only[g1,g2,if_true,Bool.false_eq_true,if_false]; exact⟨h',trivial,trivial⟩
    ·simp only[g1,g2,Bool.false_eq_true,if_false]; exact⟨h',trivial,trivial⟩
   ·have:j=m.items[i].ports.length :=(by omega);subst this;simp only[ZE,↓reduceIte,pE,pL,pA,pS,pM,pD,zaI h',List.take_length,hw,hx,zap,zab,zaF,sMp];exact h
  ·rw[if_neg (by rw[h7]; simp),if_pos h8]at he;subst he;refine za1 chL zat m.items[i].ports.length (fun j=>True) (fun j=>([(2,.d (eS n)),(3,.bp 3 0),(6,.d (eI ((m.items[i].ports.take j).foldl (zgX l m.items[i] n) (acc.1,IntKind.i64.wrap (acc.2+1))).1)),(7,.d (eI ((m.items[i].ports.take j).foldl (zgX l m.items[i] n) (acc.1,IntKind.i64.wrap (acc.2+1))).2)),(9,.bp 9 0),(15,.d (zbR m.items)),(16,.d (eI m.items.length)),(17,.d (eI i)),(46,.d (zel m.items[i].ports)),(47,.d (eI m.items[i].ports.length)),(48,.d (eI j))],
    [(9,.box ((zaK m.items[i]).map .d)),(3,.box ((zap l ks vs bs cl).map .d))])) trivial ?_ ?_ (fun j hj _=> ?_)
   ·simp only[ZE,↓reduceIte,pE,pL,pA,pS,pM,pD,List.take_zero,List.foldl_nil]
   ·simp only[ZE,↓reduceIte,pE,pL,pA,pS,pM,pD,zap,zab,zaF,sMp]
   rcases Nat.lt_or_ge j m.items[i].ports.length with h' | h'
   ·have hw':=zaq (show j<9223372036854775807 by omega);obtain⟨a2,ha2⟩:=zX ((m.items[i].ports.take j).foldl (zgX l m.items[i] n) (acc.1,IntKind.i64.wrap (acc.2+1)));have hs2:=zc3 (zgX l m.items[i] n) (acc.1,IntKind.i64.wrap (acc.2+1)) m.items[i].ports j h';rw[ha2]at hs2;have hc:=ztR l ks vs bs cl m.items[i] m.items[i].ports[j].port;simp only[ZE,↓reduceIte,pE,pL,pA,pS,pM,pD,zap,zab,zaF,sMp]at hc;simp(maxSteps:=4000000) only[ZE,↓reduceIte,pE,pL,pA,pS,pM,pD,zaw h',zaa h',zai h',ha2,hs2,zap,zab,zaF,sMp];refine EFn.p ?_;simp only[ZE,↓reduceIte,pE,pL,pA,pS,pM,pD];refine zar.i hc ?_;simp only[ZE,↓reduceIte,pE,pL,pA,pS,pM,pD,hw',zgX,inc];refine zd8 (fun g1=> ?_) (fun g1=>zd8 (fun g2=> ?_) (fun g2=> ?_))
    ·simp only[g1,if_true]; exact⟨h',trivial,trivial⟩
    ·simp only[g1,g2,if_true,Bool.false_eq_true,if_false]; exact⟨h',trivial,trivial⟩
    ·simp only[g1,g2,Bool.false_eq_true,if_false]; exact⟨h',trivial,trivial⟩
   ·have:j=m.items[i].ports.length :=(by omega);subst this;simp only[ZE,↓reduceIte,pE,pL,pA,pS,pM,pD,zaI h',List.take_length,hw,hx,zap,zab,zaF,sMp];exact h
  ·rw[if_neg (by rw[h7]; simp),if_neg (by rw[h8]; simp)]at he;subst he;refine za1 chL zat m.items[i].ports.length (fun j=>True) (fun j=>([(2,.d (eS n)),(3,.bp 3 0),(6,.d (eI ((m.items[i].ports.take j).foldl (zgX l m.items[i] n) acc).1)),(7,.d (eI ((m.items[i].ports.take j).foldl (zgX l m.items[i] n) acc).2)),(9,.bp 9 0),(15,.d (zbR m.items)),(16,.d (eI m.items.length)),(17,.d (eI i)),(46,.d (zel m.items[i].ports)),(47,.d (eI m.items[i].ports.length)),(48,.d (eI j))],
    [(9,.box ((zaK m.items[i]).map .d)),(3,.box ((zap l ks vs bs cl).map .d))])) trivial ?_ ?_ (fun j hj _=> ?_)
   ·simp only[ZE,↓reduceIte,pE,pL,pA,pS,pM,pD,List.take_zero,List.foldl_nil]
   ·simp only[ZE,↓reduceIte,pE,pL,pA,pS,pM,pD,zap,zab,zaF,sMp]
   rcases Nat.lt_or_ge j m.items[i].ports.length with h' | h'
   ·have hw':=zaq (show j<9223372036854775807 by omega);obtain⟨a2,ha2⟩:=zX ((m.items[i].ports.take j).foldl (zgX l m.items[i] n) acc);have hs2:=zc3 (zgX l m.items[i] n) acc m.items[i].ports j h';rw[ha2]at hs2;have hc:=ztR l ks vs bs cl m.items[i] m.items[i].ports[j].port;simp only[ZE,↓reduceIte,pE,pL,pA,pS,pM,pD,zap,zab,zaF,sMp]at hc;simp(maxSteps:=4000000) only[ZE,↓reduceIte,pE,pL,pA,pS,pM,pD,zaw h',zaa h',zai h',ha2,hs2,zap,zab,zaF,sMp];refine EFn.p ?_;simp only[ZE,↓reduceIte,pE,pL,pA,pS,pM,pD];refine zar.i hc ?_;simp only[ZE,↓reduceIte,pE,pL,pA,pS,pM,pD,hw',zgX,inc];refine zd8 (fun g1=> ?_) (fun g1=>zd8 (fun g2=> ?_) (fun g2=> ?_))
    ·simp only[g1,if_true]; exact⟨h',trivial,trivial⟩
    ·simp only[g1,g2,if_true,Bool.false_eq_true,if_false]; exact⟨h',trivial,trivial⟩
    ·simp only[g1,g2,Bool.false_eq_true,if_false]; exact⟨h',trivial,trivial⟩
   ·have:j=m.items[i].ports.length :=(by omega);subst this;simp only[ZE,↓reduceIte,pE,pL,pA,pS,pM,pD,zaI h',List.take_length,hw,hx,zap,zab,zaF,sMp];exact h
 ·have:i=m.items.length:=by omega
  subst this;simp(maxSteps:=4000000) only[ZE,↓reduceIte,pE,pL,pA,pS,pM,pD,zaI h,List.take_length,zeZ]
theorem zcj(l:List Num):zcY 2 (l.map zgL):=by
 intro y hy;obtain⟨q,_,rfl⟩:=List.mem_map.1 hy;simp[zgL,eI,eS,D.one,Value.oneCell']
theorem zsh(l:List Num)(hl:l.length<=2000000):FnP Tryz.prog 278 [ziG l] (.d (ziG l)) []:=by
 refine FnP.of_eC (own:=[]) (fun _=>[]) zat Tryz.func278 rfl Tryz.call278 Tryz.ntmps278 (Nat.le_of_ble_eq_true rfl) Tryz.results278 (fun hok=> ?_);simp(maxSteps:=4000000) only[ZE,↓reduceIte,pE,pL,pA,pS,pM,pD];refine⟨by simp[zdc],fun b hb=> ?_⟩;cases b with
 | true=>
  have:=hb rfl;simp(maxSteps:=4000000) only[ZE,↓reduceIte,pE,pL,pA,pS,pM,pD,this]
 | false=>
  simp(maxSteps:=4000000) only[ZE,↓reduceIte,pE,pL,pA,pS,pM,pD];exact⟨⟨zcj l,by omega,by omega⟩,by omega⟩
def zaZ(e:Expr):List Num:=if (e.op==1)=true then [e.k,e.w]else if (e.op==12)=true then [e.k,e.w]else if (e.op==13)=true then [e.w]else []
def zbh(x:Item):List Num:=if x.kind.1=1\/x.kind.1=2\/x.kind.1=5 then [x.width]else if x.kind.1=3\/x.kind.1=6 then [x.width,x.depth]else if x.kind.1=4 then [x.width,x.init]else if x.kind.1=9 then x.args else []
def zaX(x:Item):List Num:=zbh x++(Expr.allL (zbo x)).flatMap zaZ
theorem ztB(x:Item)(hl:(zaX x).length <=2000000):FnP Tryz.prog 249 [.agg (zaK x)] (.d (ziG (zaX x))) []:=by
 have uc:=zuB x;simp only[ZE,↓reduceIte,pE,pL,pA,pS,pM,pD]at uc;by_cases e:x.kind.1=1
 ·refine FnP.of_eC (own:=[]) (fun i=>if i=6 then [.rnm [(1,1),(3,3),(13,100)]]else if i=9 then [.rnm [(1,1),(3,3),(21,100)]]else if i=11 then [.rnm [(1,1),(3,3),(28,100)]]else if i=14 then [.keep [36,3,1]]else []) zat Tryz.func249 rfl Tryz.call249 Tryz.ntmps249 (Nat.le_of_ble_eq_true rfl) Tryz.results249 (fun hok=> ?_);have hx:D.okL (zaK x):=by simpa only[D.okL,D.ok,and_true]using hok
  simp only[e]at uc;simp(maxSteps:=4000000) only[ZE,↓reduceIte,pE,pL,pA,pS,pM,pD,e,zN,qT,qG,qL,qH,qN,qB,qE,qO,qA,qM];refine EFn.p ?_;simp only[ZE,↓reduceIte,pE,pL,pA,pS,pM,pD];refine zar.i uc ?_;simp only[ZE,↓reduceIte,pE,pL,pA,pS,pM,pD];refine EFn.p ?_;simp(maxSteps:=4000000) only[ZE,↓reduceIte,pE,pL,pA,pS,pM,pD];have hc:=zeg (zbo x);simp(maxSteps:=4000000) only[ZE,↓reduceIte,pE,pL,pA,pS,pM,pD]at hc;refine zar.i hc ?_;clear hc;simp only[ZE,↓reduceIte,pE,pL,pA,pS,pM,pD];obtain⟨r,hr⟩: ∃r:Nat->List Num,∀k,r k=zbh x++((Expr.allL (zbo x)).take k).flatMap zaZ:=⟨fun k=>zbh x++((Expr.allL (zbo x)).take k).flatMap zaZ,fun _=>rfl⟩;have hr0:r 0=[x.width]:=by rw[hr]; simp[zbh,e]
  have hlen: ∀k,(r k).length <=2000000:=fun k=>by
   refine Nat.le_trans ?_ hl;rw[hr,zaX,List.length_append,List.length_append];refine Nat.add_le_add_left ?_ _
   conv=>rhs; rw[<-List.take_append_drop k (Expr.allL (zbo x)),List.flatMap_append,List.length_append]
   exact Nat.le_add_right _ _
  refine zrq (fun _ _=>[]) (zbo x) (zea hx) rfl (by simp only[ZE,↓reduceIte,pE,pL,pA,pS,pM,pD]) (fun k=>[(3,.box [.ar 100 (r k).length]),(1,.box ((zaK x).map .d)),(100,.arr 55 2 .flat ((r k).map zgL))]) (fun _=>True) trivial ?_ ?_ rfl (fun k hk _=> ?_) (fun _=> ?_)
  ·simp(maxSteps:=4000000) only[ZE,↓reduceIte,pE,pL,pA,pS,pM,pD,hr0,e]
  ·simp only[ZE,↓reduceIte,pE,pL,pA,pS,pM,pD]
  ·have hs:r (k+1)=r k++zaZ (Expr.allL (zbo x))[k]:=by rw[hr,hr,List.take_succ_eq_append_getElem hk,List.flatMap_append]; simp only[List.flatMap_cons,List.flatMap_nil,List.append_nil,List.append_assoc]
   have h1:=hlen (k+1);rw[hs,List.length_append]at h1;have hrw:=zcj (r k);by_cases o1:((Expr.allL (zbo x))[k].op ==1)=true
   ·simp only[zaZ,o1,if_true,List.length_cons,List.length_nil]at h1;simp only[ZE,↓reduceIte,pE,pL,pA,pS,pM,pD,eA,zN,qT,qG,qL,qH,qN,qB,qE,qO,qA,qM,hs,e,o1,zaZ,List.map_append,List.length_append,hrw,true_and];omega
   replace o1:=Bool.eq_false_iff.2 o1
   by_cases o2:((Expr.allL (zbo x))[k].op ==12)=true
   ·simp only[zaZ,o1,o2,if_true,List.length_cons,List.length_nil]at h1;simp only[ZE,↓reduceIte,pE,pL,pA,pS,pM,pD,eA,zN,qT,qG,qL,qH,qN,qB,qE,qO,qA,qM,hs,e,o1,o2,zaZ,List.map_append,List.length_append,hrw,true_and];omega
   replace o2:=Bool.eq_false_iff.2 o2
   by_cases o3:((Expr.allL (zbo x))[k].op ==13)=true
   ·simp only[zaZ,o1,o2,o3,if_true,List.length_cons,List.length_nil]at h1;simp only[ZE,↓reduceIte,pE,pL,pA,pS,pM,pD,eA,zN,qT,qG,qL,qH,qN,qB,qE,qO,qA,qM,hs,e,o1,o2,o3,zaZ,List.map_append,List.length_append,hrw,true_and];omega
   replace o3:=Bool.eq_false_iff.2 o3
   simp only[ZE,↓reduceIte,pE,pL,pA,pS,pM,pD,eA,zN,qT,qG,qL,qH,qN,qB,qE,qO,qA,qM,hs,e,o1,o2,o3,zaZ]
  ·simp only[ZE,↓reduceIte,pE,pL,pA,pS,pM,pD,zN,qT,qG,qL,qH,qN,qB,qE,qO,qA,qM,e];rw[hr,List.take_length,zaX]
 by_cases e:x.kind.1=2
 ·refine FnP.of_eC (own:=[]) (fun i=>if i=6 then [.rnm [(1,1),(3,3),(13,100)]]else if i=9 then [.rnm [(1,1),(3,3),(21,100)]]else if i=11 then [.rnm [(1,1),(3,3),(28,100)]]else if i=14 then [.keep [36,3,1]]else []) zat Tryz.func249 rfl Tryz.call249 Tryz.ntmps249 (Nat.le_of_ble_eq_true rfl) Tryz.results249 (fun hok=> ?_);have hx:D.okL (zaK x):=by simpa only[D.okL,D.ok,and_true]using hok
  simp only[e]at uc;simp(maxSteps:=4000000) only[ZE,↓reduceIte,pE,pL,pA,pS,pM,pD,e,zN,qT,qG,qL,qH,qN,qB,qE,qO,qA,qM];refine EFn.p ?_;simp only[ZE,↓reduceIte,pE,pL,pA,pS,pM,pD];refine zar.i uc ?_;simp only[ZE,↓reduceIte,pE,pL,pA,pS,pM,pD];refine EFn.p ?_;simp(maxSteps:=4000000) only[ZE,↓reduceIte,pE,pL,pA,pS,pM,pD];have hc:=zeg (zbo x);simp(maxSteps:=4000000) only[ZE,↓reduceIte,pE,pL,pA,pS,pM,pD]at hc;refine zar.i hc ?_;clear hc;simp only[ZE,↓reduceIte,pE,pL,pA,pS,pM,pD];obtain⟨r,hr⟩: ∃r:Nat->List Num,∀k,r k=zbh x++((Expr.allL (zbo x)).take k).flatMap zaZ:=⟨fun k=>zbh x++((Expr.allL (zbo x)).take k).flatMap zaZ,fun _=>rfl⟩;have hr0:r 0=[x.width]:=by rw[hr]; simp[zbh,e]
  have hlen: ∀k,(r k).length <=2000000:=fun k=>by
   refine Nat.le_trans ?_ hl;rw[hr,zaX,List.length_append,List.length_append];refine Nat.add_le_add_left ?_ _
   conv=>rhs; rw[<-List.take_append_drop k (Expr.allL (zbo x)),List.flatMap_append,List.length_append]
   exact Nat.le_add_right _ _
  refine zrq (fun _ _=>[]) (zbo x) (zea hx) rfl (by simp only[ZE,↓reduceIte,pE,pL,pA,pS,pM,pD]) (fun k=>[(3,.box [.ar 100 (r k).length]),(1,.box ((zaK x).map .d)),(100,.arr 55 2 .flat ((r k).map zgL))]) (fun _=>True) trivial ?_ ?_ rfl (fun k hk _=> ?_) (fun _=> ?_)
  ·simp(maxSteps:=4000000) only[ZE,↓reduceIte,pE,pL,pA,pS,pM,pD,hr0,e]
  ·simp only[ZE,↓reduceIte,pE,pL,pA,pS,pM,pD]
  ·have hs:r (k+1)=r k++zaZ (Expr.allL (zbo x))[k]:=by rw[hr,hr,List.take_succ_eq_append_getElem hk,List.flatMap_append]; simp only[List.flatMap_cons,List.flatMap_nil,List.append_nil,List.append_assoc]
   have h1:=hlen (k+1);rw[hs,List.length_append]at h1;have hrw:=zcj (r k);by_cases o1:((Expr.allL (zbo x))[k].op ==1)=true
   ·simp only[zaZ,o1,if_true,List.length_cons,List.length_nil]at h1;simp only[ZE,↓reduceIte,pE,pL,pA,pS,pM,pD,eA,zN,qT,qG,qL,qH,qN,qB,qE,qO,qA,qM,hs,e,o1,zaZ,List.map_append,List.length_append,hrw,true_and];omega
   replace o1:=Bool.eq_false_iff.2 o1
   by_cases o2:((Expr.allL (zbo x))[k].op ==12)=true
   ·simp only[zaZ,o1,o2,if_true,List.length_cons,List.length_nil]at h1;simp only[ZE,↓reduceIte,pE,pL,pA,pS,pM,pD,eA,zN,qT,qG,qL,qH,qN,qB,qE,qO,qA,qM,hs,e,o1,o2,zaZ,List.map_append,List.length_append,hrw,true_and];omega
   replace o2:=Bool.eq_false_iff.2 o2
   by_cases o3:((Expr.allL (zbo x))[k].op ==13)=true
   ·simp only[zaZ,o1,o2,o3,if_true,List.length_cons,List.length_nil]at h1;simp only[ZE,↓reduceIte,pE,pL,pA,pS,pM,pD,eA,zN,qT,qG,qL,qH,qN,qB,qE,qO,qA,qM,hs,e,o1,o2,o3,zaZ,List.map_append,List.length_append,hrw,true_and];omega
   replace o3:=Bool.eq_false_iff.2 o3
   simp only[ZE,↓reduceIte,pE,pL,pA,pS,pM,pD,eA,zN,qT,qG,qL,qH,qN,qB,qE,qO,qA,qM,hs,e,o1,o2,o3,zaZ]
  ·simp only[ZE,↓reduceIte,pE,pL,pA,pS,pM,pD,zN,qT,qG,qL,qH,qN,qB,qE,qO,qA,qM,e];rw[hr,List.take_length,zaX]
 by_cases e:x.kind.1=5
 ·refine FnP.of_eC (own:=[]) (fun i=>if i=6 then [.rnm [(1,1),(3,3),(13,100)]]else if i=9 then [.rnm [(1,1),(3,3),(21,100)]]else if i=11 then [.rnm [(1,1),(3,3),(28,100)]]else if i=14 then [.keep [36,3,1]]else []) zat Tryz.func249 rfl Tryz.call249 Tryz.ntmps249 (Nat.le_of_ble_eq_true rfl) Tryz.results249 (fun hok=> ?_);have hx:D.okL (zaK x):=by simpa only[D.okL,D.ok,and_true]using hok
  simp only[e]at uc;simp(maxSteps:=4000000) only[ZE,↓reduceIte,pE,pL,pA,pS,pM,pD,e,zN,qT,qG,qL,qH,qN,qB,qE,qO,qA,qM];refine EFn.p ?_;simp only[ZE,↓reduceIte,pE,pL,pA,pS,pM,pD];refine zar.i uc ?_;simp only[ZE,↓reduceIte,pE,pL,pA,pS,pM,pD];refine EFn.p ?_;simp(maxSteps:=4000000) only[ZE,↓reduceIte,pE,pL,pA,pS,pM,pD];have hc:=zeg (zbo x);simp(maxSteps:=4000000) only[ZE,↓reduceIte,pE,pL,pA,pS,pM,pD]at hc;refine zar.i hc ?_;clear hc;simp only[ZE,↓reduceIte,pE,pL,pA,pS,pM,pD];obtain⟨r,hr⟩: ∃r:Nat->List Num,∀k,r k=zbh x++((Expr.allL (zbo x)).take k).flatMap zaZ:=⟨fun k=>zbh x++((Expr.allL (zbo x)).take k).flatMap zaZ,fun _=>rfl⟩;have hr0:r 0=[x.width]:=by rw[hr]; simp[zbh,e]
  have hlen: ∀k,(r k).length <=2000000:=fun k=>by
   refine Nat.le_trans ?_ hl;rw[hr,zaX,List.length_append,List.length_append];refine Nat.add_le_add_left ?_ _
   conv=>rhs; rw[<-List.take_append_drop k (Expr.allL (zbo x)),List.flatMap_append,List.length_append]
   exact Nat.le_add_right _ _
  refine zrq (fun _ _=>[]) (zbo x) (zea hx) rfl (by simp only[ZE,↓reduceIte,pE,pL,pA,pS,pM,pD]) (fun k=>[(3,.box [.ar 100 (r k).length]),(1,.box ((zaK x).map .d)),(100,.arr 55 2 .flat ((r k).map zgL))]) (fun _=>True) trivial ?_ ?_ rfl (fun k hk _=> ?_) (fun _=> ?_)
  ·simp(maxSteps:=4000000) only[ZE,↓reduceIte,pE,pL,pA,pS,pM,pD,hr0,e]
  ·simp only[ZE,↓reduceIte,pE,pL,pA,pS,pM,pD]
  ·have hs:r (k+1)=r k++zaZ (Expr.allL (zbo x))[k]:=by rw[hr,hr,List.take_succ_eq_append_getElem hk,List.flatMap_append]; simp only[List.flatMap_cons,List.flatMap_nil,List.append_nil,List.append_assoc]
   have h1:=hlen (k+1);rw[hs,List.length_append]at h1;have hrw:=zcj (r k);by_cases o1:((Expr.allL (zbo x))[k].op ==1)=true
   ·simp only[zaZ,o1,if_true,List.length_cons,List.length_nil]at h1;simp only[ZE,↓reduceIte,pE,pL,pA,pS,pM,pD,eA,zN,qT,qG,qL,qH,qN,qB,qE,qO,qA,qM,hs,e,o1,zaZ,List.map_append,List.length_append,hrw,true_and];omega
   replace o1:=Bool.eq_false_iff.2 o1
   by_cases o2:((Expr.allL (zbo x))[k].op ==12)=true
   ·simp only[zaZ,o1,o2,if_true,List.length_cons,List.length_nil]at h1;simp only[ZE,↓reduceIte,pE,pL,pA,pS,pM,pD,eA,zN,qT,qG,qL,qH,qN,qB,qE,qO,qA,qM,hs,e,o1,o2,zaZ,List.map_append,List.length_append,hrw,true_and];omega
   replace o2:=Bool.eq_false_iff.2 o2
   by_cases o3:((Expr.allL (zbo x))[k].op ==13)=true
   ·simp only[zaZ,o1,o2,o3,if_true,List.length_cons,List.length_nil]at h1;simp only[ZE,↓reduceIte,pE,pL,pA,pS,pM,pD,eA,zN,qT,qG,qL,qH,qN,qB,qE,qO,qA,qM,hs,e,o1,o2,o3,zaZ,List.map_append,List.length_append,hrw,true_and];omega
   replace o3:=Bool.eq_false_iff.2 o3
   simp only[ZE,↓reduceIte,pE,pL,pA,pS,pM,pD,eA,zN,qT,qG,qL,qH,qN,qB,qE,qO,qA,qM,hs,e,o1,o2,o3,zaZ]
  ·simp only[ZE,↓reduceIte,pE,pL,pA,pS,pM,pD,zN,qT,qG,qL,qH,qN,qB,qE,qO,qA,qM,e];rw[hr,List.take_length,zaX]
 by_cases e:x.kind.1=3
 ·refine FnP.of_eC (own:=[]) (fun i=>if i=6 then [.rnm [(1,1),(3,3),(13,100)]]else if i=9 then [.rnm [(1,1),(3,3),(21,100)]]else if i=11 then [.rnm [(1,1),(3,3),(28,100)]]else if i=14 then [.keep [36,3,1]]else []) zat Tryz.func249 rfl Tryz.call249 Tryz.ntmps249 (Nat.le_of_ble_eq_true rfl) Tryz.results249 (fun hok=> ?_);have hx:D.okL (zaK x):=by simpa only[D.okL,D.ok,and_true]using hok
  simp only[e]at uc;simp(maxSteps:=4000000) only[ZE,↓reduceIte,pE,pL,pA,pS,pM,pD,e,zN,qT,qG,qL,qH,qN,qB,qE,qO,qA,qM];refine EFn.p ?_;simp only[ZE,↓reduceIte,pE,pL,pA,pS,pM,pD];refine zar.i uc ?_;simp only[ZE,↓reduceIte,pE,pL,pA,pS,pM,pD];refine EFn.p ?_;simp(maxSteps:=4000000) only[ZE,↓reduceIte,pE,pL,pA,pS,pM,pD];have hc:=zeg (zbo x);simp(maxSteps:=4000000) only[ZE,↓reduceIte,pE,pL,pA,pS,pM,pD]at hc;refine zar.i hc ?_;clear hc;simp only[ZE,↓reduceIte,pE,pL,pA,pS,pM,pD];obtain⟨r,hr⟩: ∃r:Nat->List Num,∀k,r k=zbh x++((Expr.allL (zbo x)).take k).flatMap zaZ:=⟨fun k=>zbh x++((Expr.allL (zbo x)).take k).flatMap zaZ,fun _=>rfl⟩;have hr0:r 0=[x.width,x.depth]:=by rw[hr]; simp[zbh,e]
  have hlen: ∀k,(r k).length <=2000000:=fun k=>by
   refine Nat.le_trans ?_ hl;rw[hr,zaX,List.length_append,List.length_append];refine Nat.add_le_add_left ?_ _
   conv=>rhs; rw[<-List.take_append_drop k (Expr.allL (zbo x)),List.flatMap_append,List.length_append]
   exact Nat.le_add_right _ _
  refine zrq (fun _ _=>[]) (zbo x) (zea hx) rfl (by simp only[ZE,↓reduceIte,pE,pL,pA,pS,pM,pD]) (fun k=>[(3,.box [.ar 100 (r k).length]),(1,.box ((zaK x).map .d)),(100,.arr 55 2 .flat ((r k).map zgL))]) (fun _=>True) trivial ?_ ?_ rfl (fun k hk _=> ?_) (fun _=> ?_)
  ·simp(maxSteps:=4000000) only[ZE,↓reduceIte,pE,pL,pA,pS,pM,pD,hr0,e]
  ·simp only[ZE,↓reduceIte,pE,pL,pA,pS,pM,pD]
  ·have hs:r (k+1)=r k++zaZ (Expr.allL (zbo x))[k]:=by rw[hr,hr,List.take_succ_eq_append_getElem hk,List.flatMap_append]; simp only[List.flatMap_cons,List.flatMap_nil,List.append_nil,List.append_assoc]
   have h1:=hlen (k+1);rw[hs,List.length_append]at h1;have hrw:=zcj (r k);by_cases o1:((Expr.allL (zbo x))[k].op ==1)=true
   ·simp only[zaZ,o1,if_true,List.length_cons,List.length_nil]at h1;simp only[ZE,↓reduceIte,pE,pL,pA,pS,pM,pD,eA,zN,qT,qG,qL,qH,qN,qB,qE,qO,qA,qM,hs,e,o1,zaZ,List.map_append,List.length_append,hrw,true_and];omega
   replace o1:=Bool.eq_false_iff.2 o1
   by_cases o2:((Expr.allL (zbo x))[k].op ==12)=true
   ·simp only[zaZ,o1,o2,if_true,List.length_cons,List.length_nil]at h1;simp only[ZE,↓reduceIte,pE,pL,pA,pS,pM,pD,eA,zN,qT,qG,qL,qH,qN,qB,qE,qO,qA,qM,hs,e,o1,o2,zaZ,List.map_append,List.length_append,hrw,true_and];omega
   replace o2:=Bool.eq_false_iff.2 o2
   by_cases o3:((Expr.allL (zbo x))[k].op ==13)=true
   ·simp only[zaZ,o1,o2,o3,if_true,List.length_cons,List.length_nil]at h1;simp only[ZE,↓reduceIte,pE,pL,pA,pS,pM,pD,eA,zN,qT,qG,qL,qH,qN,qB,qE,qO,qA,qM,hs,e,o1,o2,o3,zaZ,List.map_append,List.length_append,hrw,true_and];omega
   replace o3:=Bool.eq_false_iff.2 o3
   simp only[ZE,↓reduceIte,pE,pL,pA,pS,pM,pD,eA,zN,qT,qG,qL,qH,qN,qB,qE,qO,qA,qM,hs,e,o1,o2,o3,zaZ]
  ·simp only[ZE,↓reduceIte,pE,pL,pA,pS,pM,pD,zN,qT,qG,qL,qH,qN,qB,qE,qO,qA,qM,e];rw[hr,List.take_length,zaX]
 by_cases e:x.kind.1=6
 ·refine FnP.of_eC (own:=[]) (fun i=>if i=6 then [.rnm [(1,1),(3,3),(13,100)]]else if i=9 then [.rnm [(1,1),(3,3),(21,100)]]else if i=11 then [.rnm [(1,1),(3,3),(28,100)]]else if i=14 then [.keep [36,3,1]]else []) zat Tryz.func249 rfl Tryz.call249 Tryz.ntmps249 (Nat.le_of_ble_eq_true rfl) Tryz.results249 (fun hok=> ?_);have hx:D.okL (zaK x):=by simpa only[D.okL,D.ok,and_true]using hok
  simp only[e]at uc;simp(maxSteps:=4000000) only[ZE,↓reduceIte,pE,pL,pA,pS,pM,pD,e,zN,qT,qG,qL,qH,qN,qB,qE,qO,qA,qM];refine EFn.p ?_;simp only[ZE,↓reduceIte,pE,pL,pA,pS,pM,pD];refine zar.i uc ?_;simp only[ZE,↓reduceIte,pE,pL,pA,pS,pM,pD];refine EFn.p ?_;simp(maxSteps:=4000000) only[ZE,↓reduceIte,pE,pL,pA,pS,pM,pD];have hc:=zeg (zbo x);simp(maxSteps:=4000000) only[ZE,↓reduceIte,pE,pL,pA,pS,pM,pD]at hc;refine zar.i hc ?_;clear hc;simp only[ZE,↓reduceIte,pE,pL,pA,pS,pM,pD];obtain⟨r,hr⟩: ∃r:Nat->List Num,∀k,r k=zbh x++((Expr.allL (zbo x)).take k).flatMap zaZ:=⟨fun k=>zbh x++((Expr.allL (zbo x)).take k).flatMap zaZ,fun _=>rfl⟩;have hr0:r 0=[x.width,x.depth]:=by rw[hr]; simp[zbh,e]
  have hlen: ∀k,(r k).length <=2000000:=fun k=>by
   refine Nat.le_trans ?_ hl;rw[hr,zaX,List.length_append,List.length_append];refine Nat.add_le_add_left ?_ _
   conv=>rhs; rw[<-List.take_append_drop k (Expr.allL (zbo x)),List.flatMap_append,List.length_append]
   exact Nat.le_add_right _ _
  refine zrq (fun _ _=>[]) (zbo x) (zea hx) rfl (by simp only[ZE,↓reduceIte,pE,pL,pA,pS,pM,pD]) (fun k=>[(3,.box [.ar 100 (r k).length]),(1,.box ((zaK x).map .d)),(100,.arr 55 2 .flat ((r k).map zgL))]) (fun _=>True) trivial ?_ ?_ rfl (fun k hk _=> ?_) (fun _=> ?_)
  ·simp(maxSteps:=4000000) only[ZE,↓reduceIte,pE,pL,pA,pS,pM,pD,hr0,e]
  ·simp only[ZE,↓reduceIte,pE,pL,pA,pS,pM,pD]
  ·have hs:r (k+1)=r k++zaZ (Expr.allL (zbo x))[k]:=by rw[hr,hr,List.take_succ_eq_append_getElem hk,List.flatMap_append]; simp only[List.flatMap_cons,List.flatMap_nil,List.append_nil,List.append_assoc]
   have h1:=hlen (k+1);rw[hs,List.length_append]at h1;have hrw:=zcj (r k);by_cases o1:((Expr.allL (zbo x))[k].op ==1)=true
   ·simp only[zaZ,o1,if_true,List.length_cons,List.length_nil]at h1;simp only[ZE,↓reduceIte,pE,pL,pA,pS,pM,pD,eA,zN,qT,qG,qL,qH,qN,qB,qE,qO,qA,qM,hs,e,o1,zaZ,List.map_append,List.length_append,hrw,true_and];omega
   replace o1:=Bool.eq_false_iff.2 o1
   by_cases o2:((Expr.allL (zbo x))[k].op ==12)=true
   ·simp only[zaZ,o1,o2,if_true,List.length_cons,List.length_nil]at h1;simp only[ZE,↓reduceIte,pE,pL,pA,pS,pM,pD,eA,zN,qT,qG,qL,qH,qN,qB,qE,qO,qA,qM,hs,e,o1,o2,zaZ,List.map_append,List.length_append,hrw,true_and];omega
   replace o2:=Bool.eq_false_iff.2 o2
   by_cases o3:((Expr.allL (zbo x))[k].op ==13)=true
   ·simp only[zaZ,o1,o2,o3,if_true,List.length_cons,List.length_nil]at h1;simp only[ZE,↓reduceIte,pE,pL,pA,pS,pM,pD,eA,zN,qT,qG,qL,qH,qN,qB,qE,qO,qA,qM,hs,e,o1,o2,o3,zaZ,List.map_append,List.length_append,hrw,true_and];omega
   replace o3:=Bool.eq_false_iff.2 o3
   simp only[ZE,↓reduceIte,pE,pL,pA,pS,pM,pD,eA,zN,qT,qG,qL,qH,qN,qB,qE,qO,qA,qM,hs,e,o1,o2,o3,zaZ]
  ·simp only[ZE,↓reduceIte,pE,pL,pA,pS,pM,pD,zN,qT,qG,qL,qH,qN,qB,qE,qO,qA,qM,e];rw[hr,List.take_length,zaX]
 by_cases e:x.kind.1=4
 ·refine FnP.of_eC (own:=[]) (fun i=>if i=6 then [.rnm [(1,1),(3,3),(13,100)]]else if i=9 then [.rnm [(1,1),(3,3),(21,100)]]else if i=11 then [.rnm [(1,1),(3,3),(28,100)]]else if i=14 then [.keep [36,3,1]]else []) zat Tryz.func249 rfl Tryz.call249 Tryz.ntmps249 (Nat.le_of_ble_eq_true rfl) Tryz.results249 (fun hok=> ?_);have hx:D.okL (zaK x):=by simpa only[D.okL,D.ok,and_true]using hok
  simp only[e]at uc;simp(maxSteps:=4000000) only[ZE,↓reduceIte,pE,pL,pA,pS,pM,pD,e,zN,qT,qG,qL,qH,qN,qB,qE,qO,qA,qM];refine EFn.p ?_;simp only[ZE,↓reduceIte,pE,pL,pA,pS,pM,pD];refine zar.i uc ?_;simp only[ZE,↓reduceIte,pE,pL,pA,pS,pM,pD];refine EFn.p ?_;simp(maxSteps:=4000000) only[ZE,↓reduceIte,pE,pL,pA,pS,pM,pD];have hc:=zeg (zbo x);simp(maxSteps:=4000000) only[ZE,↓reduceIte,pE,pL,pA,pS,pM,pD]at hc;refine zar.i hc ?_;clear hc;simp only[ZE,↓reduceIte,pE,pL,pA,pS,pM,pD];obtain⟨r,hr⟩: ∃r:Nat->List Num,∀k,r k=zbh x++((Expr.allL (zbo x)).take k).flatMap zaZ:=⟨fun k=>zbh x++((Expr.allL (zbo x)).take k).flatMap zaZ,fun _=>rfl⟩;have hr0:r 0=[x.width,x.init]:=by rw[hr]; simp[zbh,e]
  have hlen: ∀k,(r k).length <=2000000:=fun k=>by
   refine Nat.le_trans ?_ hl;rw[hr,zaX,List.length_append,List.length_append];refine Nat.add_le_add_left ?_ _
   conv=>rhs; rw[<-List.take_append_drop k (Expr.allL (zbo x)),List.flatMap_append,List.length_append]
   exact Nat.le_add_right _ _
  refine zrq (fun _ _=>[]) (zbo x) (zea hx) rfl (by simp only[ZE,↓reduceIte,pE,pL,pA,pS,pM,pD]) (fun k=>[(3,.box [.ar 100 (r k).length]),(1,.box ((zaK x).map .d)),(100,.arr 55 2 .flat ((r k).map zgL))]) (fun _=>True) trivial ?_ ?_ rfl (fun k hk _=> ?_) (fun _=> ?_)
  ·simp(maxSteps:=4000000) only[ZE,↓reduceIte,pE,pL,pA,pS,pM,pD,hr0,e]
  ·simp only[ZE,↓reduceIte,pE,pL,pA,pS,pM,pD]
  ·have hs:r (k+1)=r k++zaZ (Expr.allL (zbo x))[k]:=by rw[hr,hr,List.take_succ_eq_append_getElem hk,List.flatMap_append]; simp only[List.flatMap_cons,List.flatMap_nil,List.append_nil,List.append_assoc]
   have h1:=hlen (k+1);rw[hs,List.length_append]at h1;have hrw:=zcj (r k);by_cases o1:((Expr.allL (zbo x))[k].op ==1)=true
   ·simp only[zaZ,o1,if_true,List.length_cons,List.length_nil]at h1;simp only[ZE,↓reduceIte,pE,pL,pA,pS,pM,pD,eA,zN,qT,qG,qL,qH,qN,qB,qE,qO,qA,qM,hs,e,o1,zaZ,List.map_append,List.length_append,hrw,true_and];omega
   replace o1:=Bool.eq_false_iff.2 o1
   by_cases o2:((Expr.allL (zbo x))[k].op ==12)=true
   ·simp only[zaZ,o1,o2,if_true,List.length_cons,List.length_nil]at h1;simp only[ZE,↓reduceIte,pE,pL,pA,pS,pM,pD,eA,zN,qT,qG,qL,qH,qN,qB,qE,qO,qA,qM,hs,e,o1,o2,zaZ,List.map_append,List.length_append,hrw,true_and];omega
   replace o2:=Bool.eq_false_iff.2 o2
   by_cases o3:((Expr.allL (zbo x))[k].op ==13)=true
   ·simp only[zaZ,o1,o2,o3,if_true,List.length_cons,List.length_nil]at h1;simp only[ZE,↓reduceIte,pE,pL,pA,pS,pM,pD,eA,zN,qT,qG,qL,qH,qN,qB,qE,qO,qA,qM,hs,e,o1,o2,o3,zaZ,List.map_append,List.length_append,hrw,true_and];omega
   replace o3:=Bool.eq_false_iff.2 o3
   simp only[ZE,↓reduceIte,pE,pL,pA,pS,pM,pD,eA,zN,qT,qG,qL,qH,qN,qB,qE,qO,qA,qM,hs,e,o1,o2,o3,zaZ]
  ·simp only[ZE,↓reduceIte,pE,pL,pA,pS,pM,pD,zN,qT,qG,qL,qH,qN,qB,qE,qO,qA,qM,e];rw[hr,List.take_length,zaX]
 have e1:(x.kind.1==1)=false:=by simpa using ‹¬x.kind.1=1›
 have e2:(x.kind.1==2)=false:=by simpa using ‹¬x.kind.1=2›
 have e3:(x.kind.1==3)=false:=by simpa using ‹¬x.kind.1=3›
 have e4:(x.kind.1==4)=false:=by simpa using ‹¬x.kind.1=4›
 have e5:(x.kind.1==5)=false:=by simpa using ‹¬x.kind.1=5›
 have e6:(x.kind.1==6)=false:=by simpa using ‹¬x.kind.1=6›
 by_cases e:x.kind.1=9
 ·refine FnP.of_eC (own:=[]) (fun i=>if i=14 then [.keep [36,3,1]]else []) zat Tryz.func249 rfl Tryz.call249 Tryz.ntmps249 (Nat.le_of_ble_eq_true rfl) Tryz.results249 (fun hok=> ?_);have hx:D.okL (zaK x):=by simpa only[D.okL,D.ok,and_true]using hok
  have hu:Expr.allL (zbo x)=[]:=by simp[zbo,zhe,e,Expr.allL]
  have hn:zaX x=x.args:=by rw[zaX,hu]; simp[zbh,e]
  rw[hn]at hl;simp only[e]at uc;simp(maxSteps:=4000000) only[ZE,↓reduceIte,pE,pL,pA,pS,pM,pD,e,zN,qT,qG,qL,qH,qN,qB,qE,qO,qA,qM];refine EFn.p ?_;simp only[ZE,↓reduceIte,pE,pL,pA,pS,pM,pD];have cc:=zsh x.args hl;simp only[ZE,↓reduceIte,pE,pL,pA,pS,pM,pD]at cc;refine zar.i cc ?_;simp only[ZE,↓reduceIte,pE,pL,pA,pS,pM,pD];refine EFn.p ?_;simp only[ZE,↓reduceIte,pE,pL,pA,pS,pM,pD,e];refine zar.i uc ?_;simp only[ZE,↓reduceIte,pE,pL,pA,pS,pM,pD];refine EFn.p ?_;simp(maxSteps:=4000000) only[ZE,↓reduceIte,pE,pL,pA,pS,pM,pD];have hc:=zeg (zbo x);simp(maxSteps:=4000000) only[ZE,↓reduceIte,pE,pL,pA,pS,pM,pD]at hc;refine zar.i hc ?_;clear hc;simp only[ZE,↓reduceIte,pE,pL,pA,pS,pM,pD];refine zrq (fun _ _=>[]) (zbo x) (zea hx) rfl (by simp only[ZE,↓reduceIte,pE,pL,pA,pS,pM,pD]) (fun k=>[(3,.box [.d (ziG x.args)]),(1,.box ((zaK x).map .d))]) (fun _=>True) trivial ?_ ?_ rfl (fun k hk _=> ?_) (fun _=> ?_)
  ·simp(maxSteps:=4000000) only[ZE,↓reduceIte,pE,pL,pA,pS,pM,pD,e]
  ·simp only[ZE,↓reduceIte,pE,pL,pA,pS,pM,pD]
  ·rw[hu]at hk; cases hk
  ·simp only[ZE,↓reduceIte,pE,pL,pA,pS,pM,pD,zN,qT,qG,qL,qH,qN,qB,qE,qO,qA,qM,hn]
 have e9:(x.kind.1==9)=false:=by simpa using e
 refine FnP.of_eC (own:=[]) (fun i=>if i=1014 then [.adB 3 0 100 55 2]else if i=14 then [.keep [36,3,1]]else []) zat Tryz.func249 rfl Tryz.call249 Tryz.ntmps249 (Nat.le_of_ble_eq_true rfl) Tryz.results249 (fun hok=> ?_);have hx:D.okL (zaK x):=by simpa only[D.okL,D.ok,and_true]using hok
 simp(maxSteps:=4000000) only[ZE,↓reduceIte,pE,pL,pA,pS,pM,pD,e1,e2,e3,e4,e5,e6,e9,zN,qT,qG,qL,qH,qN,qB,qE,qO,qA,qM];refine EFn.p ?_;simp only[ZE,↓reduceIte,pE,pL,pA,pS,pM,pD];refine zar.i uc ?_;simp only[ZE,↓reduceIte,pE,pL,pA,pS,pM,pD];refine EFn.p ?_;simp(maxSteps:=4000000) only[ZE,↓reduceIte,pE,pL,pA,pS,pM,pD];have hc:=zeg (zbo x);simp(maxSteps:=4000000) only[ZE,↓reduceIte,pE,pL,pA,pS,pM,pD]at hc;refine zar.i hc ?_;clear hc;simp only[ZE,↓reduceIte,pE,pL,pA,pS,pM,pD];have n1:=beq_eq_false_iff_ne.1 e1;have n2:=beq_eq_false_iff_ne.1 e2;have n3:=beq_eq_false_iff_ne.1 e3;have n4:=beq_eq_false_iff_ne.1 e4;have n5:=beq_eq_false_iff_ne.1 e5;have n6:=beq_eq_false_iff_ne.1 e6;obtain⟨r,hr⟩: ∃r:Nat->List Num,∀k,r k=zbh x++((Expr.allL (zbo x)).take k).flatMap zaZ:=⟨fun k=>zbh x++((Expr.allL (zbo x)).take k).flatMap zaZ,fun _=>rfl⟩;have hr0:r 0=[]:=by rw[hr]; simp[zbh,n1,n2,n3,n4,n5,n6,e]
 have hlen: ∀k,(r k).length <=2000000:=fun k=>by
  refine Nat.le_trans ?_ hl;rw[hr,zaX,List.length_append,List.length_append];refine Nat.add_le_add_left ?_ _
  conv=>rhs; rw[<-List.take_append_drop k (Expr.allL (zbo x)),List.flatMap_append,List.length_append]
  exact Nat.le_add_right _ _
 refine zrq (fun _ _=>[]) (zbo x) (zea hx) rfl (by simp only[ZE,↓reduceIte,pE,pL,pA,pS,pM,pD]) (fun k=>[(3,.box [.ar 100 (r k).length]),(1,.box ((zaK x).map .d)),(100,.arr 55 2 .flat ((r k).map zgL))]) (fun _=>True) trivial ?_ ?_ rfl (fun k hk _=> ?_) (fun _=> ?_)
 ·simp(maxSteps:=4000000) only[ZE,↓reduceIte,pE,pL,pA,pS,pM,pD,hr0,n1,n2,n3,n4,n5,n6,e]
 ·simp only[ZE,↓reduceIte,pE,pL,pA,pS,pM,pD]
 ·have hs:r (k+1)=r k++zaZ (Expr.allL (zbo x))[k]:=by rw[hr,hr,List.take_succ_eq_append_getElem hk,List.flatMap_append]; simp only[List.flatMap_cons,List.flatMap_nil,List.append_nil,List.append_assoc]
  have h1:=hlen (k+1);rw[hs,List.length_append]at h1;have hrw:=zcj (r k);by_cases o1:((Expr.allL (zbo x))[k].op ==1)=true
  ·simp only[zaZ,o1,if_true,List.length_cons,List.length_nil]at h1;simp only[ZE,↓reduceIte,pE,pL,pA,pS,pM,pD,eA,zN,qT,qG,qL,qH,qN,qB,qE,qO,qA,qM,hs,n1,n2,n3,n4,n5,n6,e,o1,zaZ,List.map_append,List.length_append,hrw,true_and];omega
  replace o1:=Bool.eq_false_iff.2 o1
  by_cases o2:((Expr.allL (zbo x))[k].op ==12)=true
  ·simp only[zaZ,o1,o2,if_true,List.length_cons,List.length_nil]at h1;simp only[ZE,↓reduceIte,pE,pL,pA,pS,pM,pD,eA,zN,qT,qG,qL,qH,qN,qB,qE,qO,qA,qM,hs,n1,n2,n3,n4,n5,n6,e,o1,o2,zaZ,List.map_append,List.length_append,hrw,true_and];omega
  replace o2:=Bool.eq_false_iff.2 o2
  by_cases o3:((Expr.allL (zbo x))[k].op ==13)=true
  ·simp only[zaZ,o1,o2,o3,if_true,List.length_cons,List.length_nil]at h1;simp only[ZE,↓reduceIte,pE,pL,pA,pS,pM,pD,eA,zN,qT,qG,qL,qH,qN,qB,qE,qO,qA,qM,hs,n1,n2,n3,n4,n5,n6,e,o1,o2,o3,zaZ,List.map_append,List.length_append,hrw,true_and];omega
  replace o3:=Bool.eq_false_iff.2 o3
  simp only[ZE,↓reduceIte,pE,pL,pA,pS,pM,pD,eA,zN,qT,qG,qL,qH,qN,qB,qE,qO,qA,qM,hs,n1,n2,n3,n4,n5,n6,e,o1,o2,o3,zaZ]
 ·simp only[ZE,↓reduceIte,pE,pL,pA,pS,pM,pD,zN,qT,qG,qL,qH,qN,qB,qE,qO,qA,qM,n1,n2,n3,n4,n5,n6,e];rw[hr,List.take_length,zaX]
theorem zlf(l:List Str)(s:Str):((get (tk l) s).map eB).getD (.lit (.bool false))= .lit (.bool (has l s)):=by
 rw[zo9];cases h:has l s <;> simp[eB]
def zjq(m:Module)(e:Expr):Bool:=(e.op==14&& !(has (zbz m.items) e.name&&has [1,3] (zbu m e.name))&& !has [4,5] (zbu m e.name))||(e.op==15&& !has [6] (zbu m e.name))
def zpn(m:Module)(b:Bind):Bool:= !has [1,2,3] (zbu m b.chan)
theorem lost1_c(m:Module)(b:Bind):FnP Tryz.prog 252 [.agg (zjO b),.ptr (zaf m)] (.d (eB (zpn m b))) []:=by
 refine FnP.of_eC (own:=[]) chL zat Tryz.func252 rfl Tryz.call252 Tryz.ntmps252 (Nat.le_of_ble_eq_true rfl) Tryz.results252 (fun hok=> ?_);have hc:=zs2 m b.chan [1,2,3];simp only[ZE,↓reduceIte,pE,pL,pA,pS,pM,pD,zaf,sMp]at hc;simp(maxSteps:=4000000) only[ZE,↓reduceIte,pE,pL,pA,pS,pM,pD,zaf,sMp];refine EFn.p ?_;simp only[ZE,↓reduceIte,pE,pL,pA,pS,pM,pD];refine zar.i hc ?_;simp only[ZE,↓reduceIte,pE,pL,pA,pS,pM,pD,zpn]
def zfj(l:List Module)(m:Module)(x:Item):Bool:=
 if x.kind.1=7 then !has [1,3] (zbu m x.name)else if x.kind.1=8 then !has [2,3] (zbu m x.name)
 else if x.kind.1=9 then !(zcA l x.of).isSome ||x.ports.any (zpn m)else if x.kind.1=4\/x.kind.1=6 then(x.rule.kind==2||x.rule.kind==3)&& !zcX x.rule.from'.1 else false
def zjr(m:Module)(n:Num):Bool:=(!decide (n.p.1={data:=#[]}))&& !has m.params n.p
def zdp(l:List Module)(m:Module)(x:Item):Bool:=(zaX x).any (zjr m)||(Expr.allL (zbo x)).any (zjq m)||zfj l m x
theorem zhI(l:List Module)(ks vs:List D)(bs:List Nat)(cl:Nat)(m:Module)(x:Item)(hl:(zaX x).length <=2000000):FnP Tryz.prog 202 [.agg (zap l ks vs bs cl),.agg (zaf m),.agg (zaK x)] (.d (eB (zdp l m x))) []:=by
 refine FnP.of_eC (own:=[]) chL zat Tryz.func202 rfl Tryz.call202 Tryz.ntmps202 (Nat.le_of_ble_eq_true rfl) Tryz.results202 (fun hok=> ?_);have hx:D.okL (zaK x):=by
  have:=(zaM (zaM (zaM hok).2).2).1;simpa only[D.ok]using this
 have uc:=zuB x;have nc:=ztB x hl;simp only[ZE,↓reduceIte,pE,pL,pA,pS,pM,pD]at uc nc;simp(maxSteps:=4000000) only[ZE,↓reduceIte,pE,pL,pA,pS,pM,pD,zN,qT,qG,qL,qH,qN,qB,qE,qO,qA,qM,zaf,sMp,zap,zab,zaF];refine EFn.p ?_;simp only[ZE,↓reduceIte,pE,pL,pA,pS,pM,pD];refine zar.i nc ?_;simp only[ZE,↓reduceIte,pE,pL,pA,pS,pM,pD];refine za1 chL zat (zaX x).length (fun i=> ∀n∈(zaX x).take i,zjr m n=false) (fun i=>([(3,.bp 3 0),(4,.bp 4 0),(5,.bp 5 0),(6,.bp 6 0),(14,.d (ziG (zaX x))),(15,.d (eI (zaX x).length)),(16,.d (eI i))],
  [(6,.box [.d (eB false)]),(5,.box ((zaK x).map .d)),(4,.box ((zaf m).map .d)),(3,.box ((zap l ks vs bs cl).map .d))])) (by simp) ?_ ?_ (fun i hi hI=> ?_)
 ·simp only[ZE,↓reduceIte,pE,pL,pA,pS,pM,pD]
 ·simp only[ZE,↓reduceIte,pE,pL,pA,pS,pM,pD,zap,zab,zaF,sMp,zaf]
 rcases Nat.lt_or_ge i (zaX x).length with h | h
 ·have hw:=zaq (show i<9223372036854775807 by omega);have hc:=zcd m.params (zaX x)[i].p;simp only[ZE,↓reduceIte,pE,pL,pA,pS,pM,pD]at hc;simp(maxSteps:=4000000) only[ZE,↓reduceIte,pE,pL,pA,pS,pM,pD,zaw h,zaa h,zai h,zN,qT,qG,qL,qH,qN,qB,qE,qO,qA,qM,zap,zab,zaF,sMp,zaf];refine za3.i (fun _=>hc) ?_;simp only[ZE,↓reduceIte,pE,pL,pA,pS,pM,pD,hw];refine zd8 (fun hb=> ?_) (fun hb=>⟨h,fun n hn=> ?_⟩)
  ·have:(zaX x).any (zjr m)=true:=List.any_eq_true.2 ⟨_,List.getElem_mem h,by simpa only[zjr]using hb⟩;simp only[zdp,this,Bool.true_or]
  ·rw[List.take_succ_eq_append_getElem h,List.mem_append,List.mem_singleton]at hn;rcases hn with hn | rfl
   ·exact hI n hn
   ·simpa only[zjr]using hb
 ·have:i=(zaX x).length :=by omega
  subst this;have hN:(zaX x).any (zjr m)=false:=List.any_eq_false.2 fun n hn=>by
   rw[hI n (by rw[List.take_length]; exact hn)]; simp
  simp(maxSteps:=4000000) only[ZE,↓reduceIte,pE,pL,pA,pS,pM,pD,zaI h,zN,qT,qG,qL,qH,qN,qB,qE,qO,qA,qM];refine EFn.p ?_;simp only[ZE,↓reduceIte,pE,pL,pA,pS,pM,pD];refine zar.i uc ?_;simp only[ZE,↓reduceIte,pE,pL,pA,pS,pM,pD];refine EFn.p ?_;simp(maxSteps:=4000000) only[ZE,↓reduceIte,pE,pL,pA,pS,pM,pD];have hc:=zeg (zbo x);simp(maxSteps:=4000000) only[ZE,↓reduceIte,pE,pL,pA,pS,pM,pD]at hc;refine zar.i hc ?_;clear hc;simp only[ZE,↓reduceIte,pE,pL,pA,pS,pM,pD];refine zrq (fun _=>chL) (zbo x) (zea hx) rfl (by simp only[ZE,↓reduceIte,pE,pL,pA,pS,pM,pD]) (fun _=>[(6,.box [.d (eB false)]),(5,.box ((zaK x).map .d)),(4,.box ((zaf m).map .d)),(3,.box ((zap l ks vs bs cl).map .d))]) (fun k=> ∀e∈(Expr.allL (zbo x)).take k,zjq m e=false) (by simp) ?_ ?_ rfl (fun k hk hI=> ?_) (fun hI=> ?_)
  ·simp only[ZE,↓reduceIte,pE,pL,pA,pS,pM,pD,zap,zab,zaF,sMp,zaf]
  ·simp only[ZE,↓reduceIte,pE,pL,pA,pS,pM,pD]
  ·obtain⟨e,he⟩:=zX ((Expr.allL (zbo x))[k]);have c1:=zs2 m e.name [1,3];have c2:=zs2 m e.name [4,5];have c3:=zs2 m e.name [6];simp only[ZE,↓reduceIte,pE,pL,pA,pS,pM,pD,zaf,sMp]at c1 c2 c3;rw[he];simp only[ZE,↓reduceIte,pE,pL,pA,pS,pM,pD,eA,zN,qT,qG,qL,qH,qN,qB,qE,qO,qA,qM,zap,zab,zaF,sMp,zaf,zak,zal,zaj,zlf];refine⟨fun y hy=>zcr _ y hy,za3.i (fun _=>c1) ?_⟩;simp only[ZE,↓reduceIte,pE,pL,pA,pS,pM,pD,zN,qT,qG,qL,qH,qN,qB,qE,qO,qA,qM];refine za3.i (fun _=>c2) ?_;simp only[ZE,↓reduceIte,pE,pL,pA,pS,pM,pD,zN,qT,qG,qL,qH,qN,qB,qE,qO,qA,qM];refine za3.i (fun _=>c3) ?_;simp only[ZE,↓reduceIte,pE,pL,pA,pS,pM,pD,zN,qT,qG,qL,qH,qN,qB,qE,qO,qA,qM];refine zd8 (fun hb=> ?_) (fun hb n hn=> ?_)
   ·have:(Expr.allL (zbo x)).any (zjq m)=true:=List.any_eq_true.2 ⟨e,he▸List.getElem_mem hk,by
     rw[<-hb]; simp only[zjq]⟩
    simp only[zdp,this,Bool.true_or,Bool.or_true]
   ·rw[List.take_succ_eq_append_getElem hk,List.mem_append,List.mem_singleton,he]at hn;rcases hn with hn | rfl
    ·exact hI n hn
    ·rw[<-hb]; simp only[zjq]
  ·have hE:(Expr.allL (zbo x)).any (zjq m)=false:=List.any_eq_false.2 fun e he=>by
    rw[hI e (by rw[List.take_length]; exact he)]; simp
   have hT:zdp l m x=zfj l m x:=by simp only[zdp,hN,hE,Bool.false_or]
   rw[hT];have c7:=zs2 m x.name [1,3];have c8:=zs2 m x.name [2,3];have c9:=zml x.ports 252 (.ptr (zaf m)) (zpn m) (fun b _=>lost1_c m b);have c4:=zdd x.rule.from'.1;simp only[ZE,↓reduceIte,pE,pL,pA,pS,pM,pD,zaf,sMp]at c7 c8 c9 c4;by_cases k7:x.kind.1=7
   ·simp(maxSteps:=4000000) only[ZE,↓reduceIte,pE,pL,pA,pS,pM,pD,k7,zN,qT,qG,qL,qH,qN,qB,qE,qO,qA,qM,zap,zab,zaF,sMp,zaf,zak,zal,zaj];refine EFn.p ?_;simp only[ZE,↓reduceIte,pE,pL,pA,pS,pM,pD];refine zar.i c7 ?_;simp only[ZE,↓reduceIte,pE,pL,pA,pS,pM,pD,zfj,k7]
   by_cases k8:x.kind.1=8
   ·simp(maxSteps:=4000000) only[ZE,↓reduceIte,pE,pL,pA,pS,pM,pD,k8,zN,qT,qG,qL,qH,qN,qB,qE,qO,qA,qM,zap,zab,zaF,sMp,zaf,zak,zal,zaj];refine EFn.p ?_;simp only[ZE,↓reduceIte,pE,pL,pA,pS,pM,pD];refine zar.i c8 ?_;simp only[ZE,↓reduceIte,pE,pL,pA,pS,pM,pD,zfj,k8,zN,qT,qG,qL,qH,qN,qB,qE,qO,qA,qM,Int.reduceEq]
   by_cases k9:x.kind.1=9
   ·simp(maxSteps:=4000000) only[ZE,↓reduceIte,pE,pL,pA,pS,pM,pD,k9,zN,qT,qG,qL,qH,qN,qB,qE,qO,qA,qM,zap,zab,zaF,sMp,zaf,zak,zal,zaj];refine⟨fun y hy=>zcr _ y hy,za3.i (fun _=>c9) ?_⟩;simp(maxSteps:=4000000) only[ZE,↓reduceIte,pE,pL,pA,pS,pM,pD,zfj,k9,zN,qT,qG,qL,qH,qN,qB,qE,qO,qA,qM,Int.reduceEq,zcA,Option.isSome_map]
   by_cases k4:x.kind.1=4
   ·simp(maxSteps:=4000000) only[ZE,↓reduceIte,pE,pL,pA,pS,pM,pD,k4,zN,qT,qG,qL,qH,qN,qB,qE,qO,qA,qM,zap,zab,zaF,sMp,zaf];refine za3.i (fun _=>c4) ?_;simp(maxSteps:=4000000) only[ZE,↓reduceIte,pE,pL,pA,pS,pM,pD,zfj,k4,zN,qT,qG,qL,qH,qN,qB,qE,qO,qA,qM,or_true,true_or,Int.reduceEq]
   by_cases k6:x.kind.1=6
   ·simp(maxSteps:=4000000) only[ZE,↓reduceIte,pE,pL,pA,pS,pM,pD,k6,zN,qT,qG,qL,qH,qN,qB,qE,qO,qA,qM,zap,zab,zaF,sMp,zaf];refine za3.i (fun _=>c4) ?_;simp(maxSteps:=4000000) only[ZE,↓reduceIte,pE,pL,pA,pS,pM,pD,zfj,k6,zN,qT,qG,qL,qH,qN,qB,qE,qO,qA,qM,or_true,true_or,Int.reduceEq]
   have e7:(x.kind.1==7)=false:=by simpa using k7
   have e8:(x.kind.1==8)=false:=by simpa using k8
   have e9:(x.kind.1==9)=false:=by simpa using k9
   have e4:(x.kind.1==4)=false:=by simpa using k4
   have e6:(x.kind.1==6)=false:=by simpa using k6
   simp(maxSteps:=4000000) only[ZE,↓reduceIte,pE,pL,pA,pS,pM,pD,e7,e8,e9,e4,e6,zN,qT,qG,qL,qH,qN,qB,qE,qO,qA,qM,zfj,k7,k8,k9,k4,k6,or_self]
/-- An entry of a map written anew,or one more. -/
def znE{α:Type}(l:List (Str×α))(s:Str)(x:α):List (Str×α):=
 match l with
 | []=>[(s,x)]
 | p::r=>if p.1=s then(s,x)::r else p::znE r s x
theorem zqk{α:Type}(s:Str):get ([]:List (Str×α)) s=none:=rfl
theorem zho{α:Type}(p:Str×α)(l:List (Str×α))(s:Str):get (p::l) s=if p.1=s then some p.2 else get l s:=by
 simp only[get,List.find?_cons];by_cases h:p.1=s <;> simp[h]
theorem zr8{α:Type}{l:List (Str×α)}{s:Str}{x:α}(h:get l s=none):znE l s x=l++[(s,x)]:=by
 induction l with
 | nil=>rfl
 | cons p r ih=>
  rw[zho]at h;split at h
  ·cases h
  ·rename_i h1;simp only[znE,if_neg h1,ih h,List.cons_append]
theorem zr9{α:Type}(f:α->D){l:List (Str×α)}{s:Str}{x:α}(h:get l s≠none):sK (znE l s x)=sK l/\sV f (znE l s x)=(sV f l).set (zeN (sK l) (.lit (.string s.1))) (f x)/\(znE l s x).length =l.length:=by
 induction l with
 | nil=>exact absurd rfl h
 | cons p r ih=>
  rw[zho]at h;simp only[znE];by_cases h1:p.1=s
  ·simp only[h1,if_true,sK,sV,List.map_cons,ziQ,List.set_cons_zero,List.length_cons,and_self]
  ·simp only[if_neg h1]at h ⊢;obtain⟨a1,a2,a3⟩:=ih h;simp only[sK,sV,List.map_cons,ziQ,if_neg (str_ne h1),List.set_cons_succ,List.length_cons]at a1 a2 ⊢;exact⟨by rw[a1],by rw[a2],by rw[a3]⟩
theorem put_a{α:Type}(f:α->D)(l:List (Str×α))(s:Str)(x:α):zgQ (sK l) (.lit (.string s.1))=sK (znE l s x)/\zjk (sK l) (sV f l) (.lit (.string s.1)) (f x)=sV f (znE l s x)/\
  zjs (sK l) (List.range l.length) l.length (.lit (.string s.1))=List.range (znE l s x).length /\zjT (sK l) l.length (.lit (.string s.1))=(znE l s x).length :=by
 by_cases h:get l s=none
 ·rw[zr8 h]; exact zqH f h
 ·have hm:(D.lit (.string s.1))∈sK l:=by
   by_cases hm:(D.lit (.string s.1))∈sK l
   ·exact hm
   ·exact absurd (zlg.2 hm) h
  have hlt:=zcO.2 hm;obtain⟨a1,a2,a3⟩:=zr9 f (x:=x) h;refine⟨by simp only[zgQ,if_pos hlt,a1],by simp only[zjk,if_pos hlt,a2],by simp only[zjs,if_pos hlt,a3],by simp only[zjT,if_pos hlt,a3]⟩
theorem zkl{a a':List D}{b b':List D}{c c':List Nat}{d d':Nat}(h:a=a'/\b=b'/\c=c'/\d=d'):AO.map a b c d=AO.map a' b' c' d':=by
 obtain⟨h1,h2,h3,h4⟩:=h; rw[h1,h2,h3,h4]
theorem zoh(o:Option Int):(o.map eI).getD (.lit (.int .i64 0))=eI (o.getD 0):=by cases o <;> rfl
/-- How often each port is bound. -/
def zeY(acc:List (Str×Int))(b:Bind):List (Str×Int):=znE acc b.port (inc ((get acc b.port).getD 0))
def znP(l:List Bind):List (Str×Int):=l.foldl zeY []
def zlX(x:Item):Bool:=x.kind.1==1||x.kind.1==2
def zcs(acc:List (Str×Bool))(x:Item):List (Str×Bool):=if zlX x=true then znE acc x.name true else acc
def zch(m:Module):List (Str×Bool):=m.items.foldl zcs []
def zeR(l:List Module)(x:Item):Bool:=
 match zcA l x.of with
 | none=>false
 | some i=>(zch (l.getD i.toNat ⟨emp,emp,[],[]⟩)).any (fun p=>(get (znP x.ports) p.1).getD 0 !=1)||
   ((x.args.length:Int) !=((l.getD i.toNat ⟨emp,emp,[],[]⟩).params.length :Int)||(x.ports.length:Int) !=((zch (l.getD i.toNat ⟨emp,emp,[],[]⟩)).length :Int))
theorem zdr: ∀(n:Nat) (js:List Nat),js.Nodup->(∀j∈js,j<n)->js.length<=n
 | 0,js,_,h=>by
  cases js with
  | nil=>simp
  | cons j r=>exact absurd (h j (by simp)) (by omega)
 | n+1,js,hn,h=>by
  have h1:=zdr n (js.erase n) (hn.erase n) (fun j hj=>by
   have h2:=(List.Nodup.mem_erase_iff hn).1 hj;have:=h j h2.2;omega)
  rw[List.length_erase]at h1;split at h1 <;> omega
/-- One entry more of a map has come. -/
def zhR{α:Type}(l:List α)(p:α->Bool)(i:Nat)(js:List Nat):Prop:=js.length=i/\js.Nodup/\(∀j∈js,j<l.length)/\ ∀j∈js,∀h:j<l.length,p l[j]=false
theorem zg9{α:Type}(l:List α)(p:α->Bool):zhR l p 0 []:=⟨rfl,List.nodup_nil,by simp,by simp⟩
theorem zi9{α:Type}{l:List α}{p:α->Bool}{i j:Nat}{js:List Nat}(h:zhR l p i js)(hj:j<l.length)(hjs:j∉js):i<l.length:=by
 obtain⟨h1,h2,h3,_⟩:=h;have:=zdr l.length (j::js) (List.nodup_cons.2 ⟨hjs,h2⟩) (fun k hk=>by
  rcases List.mem_cons.1 hk with rfl | hk
  ·exact hj
  ·exact h3 k hk)
 simp at this; omega
theorem zf8{α:Type}{l:List α}{p:α->Bool}{i j:Nat}{js:List Nat}(h:zhR l p i js)(hj:j<l.length)(hjs:j∉js)(hp:p l[j]=false):zhR l p (i+1) (js++[j]):=by
 obtain⟨h1,h2,h3,h4⟩:=h;refine⟨by simp[h1],List.nodup_append.2 ⟨h2,by simp,fun a ha b hb e=> ?_⟩,fun k hk=> ?_,fun k hk hk'=> ?_⟩
 ·simp at hb; subst hb; subst e; exact hjs ha
 ·rcases List.mem_append.1 hk with hk | hk
  ·exact h3 k hk
  ·simp at hk; subst hk; exact hj
 ·rcases List.mem_append.1 hk with hk | hk
  ·exact h4 k hk hk'
  ·simp at hk; subst hk; exact hp
theorem zg8{α:Type}{l:List α}{p:α->Bool}{i:Nat}{js:List Nat}(h:zhR l p i js)(ha: ∀j,j<l.length->j∈js):l.any p=false:=by
 rw[List.any_eq_false];intro x hx;obtain⟨j,hj,rfl⟩:=List.getElem_of_mem hx;rw[h.2.2.2 j (ha j hj) hj]; simp
theorem zoJ{α:Type}(l:List (Str×α))(j:Nat)(h:j<l.length):(sK l).getD j default= .lit (.string l[j].1.1):=by simp[sK,List.getD,h]
theorem zdK{α:Type}(l:List (Str×α)):(sK l).length =l.length:=by simp[sK]
theorem zuf{α:Type}(f:α->D)(l:List (Str×α)):(sV f l).length =l.length:=by simp[sV]
theorem zxk(l:List Module)(ks vs:List D)(bs:List Nat)(cl:Nat)(x:Item):FnP Tryz.prog 205 [.agg (zap l ks vs bs cl),.agg (zaK x)] (.d (eB (zeR l x))) []:=by
 cases hf:get (znH l) x.of with
 | none=>
  refine FnP.of_eC (own:=[]) (fun _=>[]) zat Tryz.func205 rfl Tryz.call205 Tryz.ntmps205 (Nat.le_of_ble_eq_true rfl) Tryz.results205 (fun hok=> ?_);simp(maxSteps:=4000000) only[ZE,↓reduceIte,pE,pL,pA,pS,pM,pD,zN,qT,qG,qL,qH,qN,qB,qE,qO,qA,qM,zap,zab,zaF,sMp,zak,zal,zaj,hf];refine⟨fun y hy=>zcr _ y hy,?_⟩;have:zcA l x.of=none:=hf;simp only[zeR,this]
 | some i=>
  obtain⟨k,hk,rfl,hn⟩:=zfB hf;obtain⟨m,hm⟩:=zX (l[k]);have hp:zeR l x=((zch m).any (fun p=>(get (znP x.ports) p.1).getD 0 !=1)||((x.args.length:Int) !=(m.params.length:Int)||(x.ports.length:Int) !=((zch m).length :Int))):=by
   have:zcA l x.of=some (k:Int):=hf;have e:l.getD k ⟨emp,emp,[],[]⟩=m:=by simp[List.getD,hk,hm]
   simp only[zeR,this,Int.toNat_natCast,e]
  rw[hp];refine FnP.of_eC (own:=[]) (fun i=>if i=2022 then [.chn,.ord ⟨[(0,none),(1,none),(2,none),(3,none),(4,none),(5,none),(6,none),(7,none),(8,none),(9,none),(10,none),(11,none),(12,none),(13,none),(14,none),(15,none),(16,none),(17,none),(18,none),(19,none),(20,none)]⟩]else if i=1017 then [.frz 38]else chL i) zat Tryz.func205 rfl Tryz.call205 Tryz.ntmps205 (Nat.le_of_ble_eq_true rfl) Tryz.results205 (fun hok=> ?_);have hx:D.okL (zaK x):=by
   have:=(zaM (zaM hok).2).1;simpa only[D.ok]using this
  have hpl:x.ports.length<=9223372036854775807:=by
   simp only[zaK,D.okL]at hx;have h1:=(zbK (zbK (zbK (zbK (zbK (zbK (zbK hx.2.2).2).2).2).2).2).2).2;simp only[D.okL]at h1;exact(za9 h1.2.2.1).1
  simp(maxSteps:=4000000) only[ZE,↓reduceIte,pE,pL,pA,pS,pM,pD,zN,qT,qG,qL,qH,qN,qB,qE,qO,qA,qM,zap,zab,zaF,sMp,zak,zal,zaj,hf];refine⟨fun y hy=>zcr _ y hy,?_⟩;refine za1 chL zat x.ports.length (fun _=>True) (fun i=>([(2,.bp 2 0),(3,.bp 3 0),(5,.d (eI k)),(7,.mo 24),(26,.d (zel x.ports)),(27,.d (eI x.ports.length)),(28,.d (eI i))],
   [(24,.map (sK ((x.ports.take i).foldl zeY [])) (sV eI ((x.ports.take i).foldl zeY [])) (List.range ((x.ports.take i).foldl zeY []).length) ((x.ports.take i).foldl zeY []).length),(3,.box ((zaK x).map .d)),(2,.box ((zap l ks vs bs cl).map .d))])) trivial ?_ ?_ (fun i hi _=> ?_)
  ·simp only[ZE,↓reduceIte,pE,pL,pA,pS,pM,pD]
  ·simp only[ZE,↓reduceIte,pE,pL,pA,pS,pM,pD,zap,zab,zaF,sMp,zaf,zak,zal,zaj,List.take_zero,List.foldl_nil];rfl
  rcases Nat.lt_or_ge i x.ports.length with h | h
  ·have hw:=zaq (show i<9223372036854775807 by omega);obtain⟨acc,hacc⟩:=zX ((x.ports.take i).foldl zeY []);have hs:=zc3 zeY [] x.ports i h;rw[hacc]at hs;rw[hacc,hs];simp(maxSteps:=4000000) only[ZE,↓reduceIte,pE,pL,pA,pS,pM,pD,zaw h,zaa h,zai h,zoh,hw,zap,zab,zaF,sMp,zaf,zak,zal,zaj];exact⟨fun y hy=>zcr _ y hy,fun y hy=>zcr _ y hy,h,zkl (put_a eI _ _ _)⟩
  ·have:i=x.ports.length:=by omega
   subst this;have hmi:m.items.length<=9223372036854775807:=by
    have:=(zaM hok).1;simp only[zap,D.ok,D.okL,zab]at this;have h2:=(za9 this.1).2 m (hm▸List.getElem_mem hk);simp only[zaf,D.okL]at h2;exact(za9 h2.2.2.2.1).1
   simp(maxSteps:=4000000) only[ZE,↓reduceIte,pE,pL,pA,pS,pM,pD,zaI h,List.take_length,zai hk,zaa hk,hm,zap,zab,zaF,sMp,zaf,zak,zal,zaj];refine za1 chL zat m.items.length (fun _=>True) (fun i=>([(2,.bp 2 0),(3,.bp 3 0),(5,.d (eI k)),(7,.mo 24),(10,.mo 38),(45,.d (zbR m.items)),(46,.d (eI m.items.length)),(47,.d (eI i))],
    [(38,.map (sK ((m.items.take i).foldl zcs [])) (sV eB ((m.items.take i).foldl zcs [])) (List.range ((m.items.take i).foldl zcs []).length) ((m.items.take i).foldl zcs []).length),
     (24,.map (sK (znP x.ports)) (sV eI (znP x.ports)) (List.range (znP x.ports).length) (znP x.ports).length),(3,.box ((zaK x).map .d)),(2,.box ((zap l ks vs bs cl).map .d))])) trivial ?_ ?_ (fun i hi _=> ?_)
   ·simp only[ZE,↓reduceIte,pE,pL,pA,pS,pM,pD]
   ·simp only[ZE,↓reduceIte,pE,pL,pA,pS,pM,pD,zap,zab,zaF,sMp,zaf,zak,zal,zaj,List.take_zero,List.foldl_nil,znP];rfl
   rcases Nat.lt_or_ge i m.items.length with h' | h'
   ·have hw:=zaq (show i<9223372036854775807 by omega);obtain⟨acc,hacc⟩:=zX ((m.items.take i).foldl zcs []);have hs:=zc3 zcs [] m.items i h';rw[hacc]at hs;rw[hacc,hs];obtain⟨b,hb⟩:=zX ((m.items[i].kind.1 ==1||m.items[i].kind.1 ==2));have hb':zlX m.items[i]=b:=hb;simp(maxSteps:=4000000) only[ZE,↓reduceIte,pE,pL,pA,pS,pM,pD,zaw h',zaa h',zai h',hw,zN,qT,qG,qL,qH,qN,qB,qE,qO,qA,qM,hb,zap,zab,zaF,sMp,zaf,zak,zal,zaj,zcs,hb'];refine zd8 (fun hb1=> ?_) (fun hb1=> ?_)
    ·rw[if_pos hb1];exact⟨fun y hy=>zcr _ y hy,h',zkl (put_a eB _ _ _)⟩
    ·rw[if_neg (by rw[hb1]; simp)];exact⟨h',rfl⟩
   ·have:i=m.items.length:=(by omega);subst this;simp(maxSteps:=4000000) only[ZE,↓reduceIte,pE,pL,pA,pS,pM,pD,zaI h',List.take_length,zai hk,zaa hk,hm,zap,zab,zaF,sMp,zaf,zak,zal,zaj];have hP:m.items.foldl zcs []=zch m:=rfl;rw[hP];refine zgR (fun _ i=>if i=2022 then [.chn,.ord ⟨[(0,none),(1,none),(2,none),(3,none),(4,none),(5,none),(6,none),(7,none),(8,none),(9,none),(10,none),(11,none),(12,none),(13,none),(14,none),(15,none),(16,none),(17,none),(18,none),(19,none),(20,none)]⟩]else if i=1017 then [.frz 38]else chL i) zat (zch m).length (zhR (zch m) (fun p=>(get (znP x.ports) p.1).getD 0 !=1)) (fun i js=>([(2,.bp 2 0),(3,.bp 3 0),(5,.d (eI k)),(7,.mo 24),(10,.d (sMp eB (zch m))),(64,.mo 64)],
     [(64,.it (sK (zch m)) (sV eB (zch m)) (List.range (zch m).length) (zch m).length js),(24,.map (sK (znP x.ports)) (sV eI (znP x.ports)) (List.range (znP x.ports).length) (znP x.ports).length),(3,.box ((zaK x).map .d)),(2,.box ((zap l ks vs bs cl).map .d))])) [] (zg9 _ _) ?_ ?_ (fun i js hi hI=> ?_)
    ·simp only[ZE,↓reduceIte,pE,pL,pA,pS,pM,pD,zap,zab,zaF,sMp,zaf,zak,zal,zaj]
    ·simp only[ZE,↓reduceIte,pE,pL,pA,pS,pM,pD,zap,zab,zaF,sMp,zaf,zak,zal,zaj]
    simp only[ZE,↓reduceIte,pE,pL,pA,pS,pM,pD];refine⟨by simp only[ZE,↓reduceIte,pE,pL,pA,pS,pM,pD],fun j hj hjs=> ?_,fun hall=> ?_⟩
    ·have hj':j<(zch m).length :=(by simpa [zdK]using hj);have hlt:=zi9 hI hj' hjs;have hk':=zoJ (zch m) j hj';simp(maxSteps:=4000000) only[ZE,↓reduceIte,pE,pL,pA,pS,pM,pD,hk',List.getLast?_singleton,Option.some_or,zap,zab,zaF,sMp,zaf,zak,zal,zaj,zoh,zep];refine⟨fun y hy=>zcr _ y hy,zd8 (fun hb=> ?_) (fun hb=>⟨hlt,_,zf8 hI hj' hjs hb,rfl⟩)⟩;have:(zch m).any (fun p=>(get (znP x.ports) p.1).getD 0 !=1)=true:=List.any_eq_true.2 ⟨_,List.getElem_mem hj',hb⟩;rw[this,Bool.true_or]
    ·have hany:=zg8 hI (fun j hj=>hall j (by simpa [zdK]using hj));simp(maxSteps:=4000000) only[ZE,↓reduceIte,pE,pL,pA,pS,pM,pD,zap,zab,zaF,sMp,zaf,zak,zal,zaj,zai hk,zaa hk,hm,zuf,zdK,zN,qT,qG,qL,qH,qN,qB,qE,qO,qA,qM];refine⟨by kernel_rfl,?_⟩;rw[hany,Bool.false_or]
/-! ### Sets of zaX -/
def iK(l:List Nat):List D:=l.map fun(n:Nat)=>D.lit (.int .i64 (n:Int))
def iV(l:List Nat):List D:=l.map fun _=>D.lit (.bool true)
theorem iK_ok(l:List Nat)(h: ∀n∈l,n<=9223372036854775807): ∀y∈iK l,zd3 Tryz.prog 3 y:=by
 intro y hy;obtain⟨n,hn,rfl⟩:=List.mem_map.1 hy;have:=h n hn;refine ziP ?_;simp only[Lit.wf,Bool.and_eq_true,decide_eq_true_eq];have h1:IntKind.i64.min= -9223372036854775808:=by decide
 have h2:IntKind.i64.max=9223372036854775807:=by decide
 rw[h1,h2];omega
def hasI(l:List Nat)(z:Int):Bool:=l.any fun n=>(n:Int)==z
theorem zlj(l:List Nat)(n:Nat):hasI l n=l.contains n:=by
 rw[Bool.eq_iff_iff];simp only[hasI,List.any_eq_true,beq_iff_eq,List.contains_eq_mem,decide_eq_true_eq];constructor
 ·rintro⟨x,h1,h2⟩; have:x=n:=by omega
  subst this; exact h1
 ·intro h; exact⟨n,h,rfl⟩
theorem ziT: ∀(l:List Nat) (z:Int),(zjZ (iK l) (iV l) (.lit (.int .i64 z))).getD (.lit (.bool false))= .lit (.bool (hasI l z))
 | [],z=>by simp[iK,iV,zjz,hasI]
 | a::l,z=>by
  have ih:=ziT l z;simp only[iK,iV,List.map_cons,zhM,hasI,List.any_cons]at ih ⊢;by_cases h:(a:Int)=z
  ·subst h; simp
  ·have h': ¬(D.lit (.int .i64 a)=D.lit (.int .i64 z)):=by simp; exact h
   rw[if_neg h',ih];simp[h]
theorem put_i{l:List Nat}{n:Nat}(h:l.contains n=false):AO.map (zgQ (iK l) (.lit (.int .i64 n))) (zjk (iK l) (iV l) (.lit (.int .i64 n)) (.lit (.bool true))) (zjs (iK l) (List.range l.length) l.length (.lit (.int .i64 n))) (zjT (iK l) l.length (.lit (.int .i64 n)))=
  AO.map (iK (l++[n])) (iV (l++[n])) (List.range (l++[n]).length) (l++[n]).length :=by
 have hn:(D.lit (.int .i64 n))∉iK l:=by
  intro hm;obtain⟨a,ha,e⟩:=List.mem_map.1 hm;simp only[D.lit.injEq,Value.int.injEq,true_and]at e;have:a=n:=by omega
  subst this;simp at h; exact h ha
 have hk: ¬zeN (iK l) (.lit (.int .i64 n))<(iK l).length :=fun h'=>hn (zcO.1 h');rw[zdt hn,zdu hn,zjs,zjT,if_neg hk,if_neg hk];simp only[iK,iV,List.map_append,List.map_cons,List.map_nil,List.length_append,List.length_cons,List.length_nil,Nat.zero_add,List.range_succ]
/-! ### Which modules a module reaches -/
def zbE(l:List Module)(x:Item):Option Nat:=if x.kind.1=9 then(zcA l x.of).map Int.toNat else none
def zbH(l:List Module)(rec:Nat->List Nat->Bool×List Nat)(to:Nat):List Item->List Nat->Bool×List Nat
 | [],s=>(false,s)
 | x::r,s=>match zbE l x with
  | none=>zbH l rec to r s
  | some i=>if s.contains i=true then zbH l rec to r s else if i=to then(true,s++[i])else
   match rec i (s++[i])with
   | (true,s')=>(true,s')
   | (false,s')=>zbH l rec to r s'
def zc1(l:List Module)(to:Nat):Nat->Nat->List Nat->Bool×List Nat
 | 0,_,s=>(false,s)
 | n+1,i,s=>zbH l (zc1 l to n) to (l.getD i ⟨emp,emp,[],[]⟩).items s
def zev(l:List Module)(s:List Nat):Nat:=(List.range l.length).countP fun k=> !s.contains k
theorem ziN{l:List Module}{x:Item}{i:Nat}(h:zbE l x=some i):i<l.length/\zcA l x.of=some (i:Int):=by
 unfold zbE at h;split at h
 ·rw[Option.map_eq_some_iff]at h;obtain⟨z,h1,h2⟩:=h;obtain⟨k,hk,rfl,_⟩:=zfB h1;simp only[Int.toNat_natCast]at h2;subst h2;exact⟨hk,h1⟩
 ·cases h
/-- Later ones have more of them,and only modules. -/
def sup(l:List Module)(a b:List Nat):Prop:=(∀k∈a,k∈b)/\((∀k∈a,k<l.length)-> ∀k∈b,k<l.length)
theorem zlO(l:List Module)(a:List Nat):sup l a a:=⟨fun _ h=>h,fun h=>h⟩
theorem zfq{l:List Module}{a b c:List Nat}(h:sup l a b)(h':sup l b c):sup l a c:=⟨fun k hk=>h'.1 k (h.1 k hk),fun ha=>h'.2 (h.2 ha)⟩
theorem zlN{l:List Module}{a:List Nat}{i:Nat}(hi:i<l.length):sup l a (a++[i]):=⟨fun k hk=>by simp[hk],fun ha k hk=>by
 rcases List.mem_append.1 hk with hk | hk
 ·exact ha k hk
 ·simp at hk; subst hk; exact hi⟩
theorem zfG{l:List Module}{rec:Nat->List Nat->Bool×List Nat}{to:Nat}(hr: ∀i s,sup l s (rec i s).2): ∀(r:List Item) (s:List Nat),sup l s (zbH l rec to r s).2
 | [],s=>zlO l s
 | x::r,s=>by
  unfold zbH;split
  ·exact zfG hr r s
  ·rename_i i hi;have hi':=(ziN hi).1;split
   ·exact zfG hr r s
   ·split
    ·exact zlN hi'
    ·have h1:=hr i (s++[i]);split
     ·rename_i s' e; rw[e]at h1; exact zfq (zlN hi') h1
     ·rename_i s' e; rw[e]at h1; exact zfq (zlN hi') (zfq h1 (zfG hr r s'))
theorem zi3(l:List Module)(to:Nat): ∀(n i:Nat) (s:List Nat),sup l s (zc1 l to n i s).2
 | 0,_,s=>zlO l s
 | n+1,_,s=>zfG (fun i s=>zi3 l to n i s) _ s
theorem znf{l:List Module}{a b:List Nat}(h: ∀k∈a,k∈b):zev l b<=zev l a:=by
 unfold zev;refine List.countP_mono_left fun k _ hk=> ?_;simp only[Bool.not_eq_true',List.contains_eq_mem,decide_eq_false_iff_not]at hk ⊢;exact fun h'=>hk (h k h')
theorem zng{l:List Module}{a:List Nat}{i:Nat}(hi:i<l.length)(ha:a.contains i=false):zev l (a++[i])<zev l a:=by
 have: ∀n,i<n->(List.range n).countP (fun k=> !(a++[i]).contains k)<(List.range n).countP (fun k=> !a.contains k):=by
  intro n
  induction n with
  | zero=>intro h; omega
  | succ n ih=>
   intro h;have hle:(List.range n).countP (fun k=> !(a++[i]).contains k)<=(List.range n).countP (fun k=> !a.contains k):=List.countP_mono_left fun k _ hk=>by
    simp only[Bool.not_eq_true',List.contains_eq_mem,decide_eq_false_iff_not,List.mem_append]at hk ⊢;exact fun h'=>hk (.inl h')
   simp only[List.range_succ,List.countP_append,List.countP_cons,List.countP_nil,Nat.zero_add];by_cases hn:n=i
   ·subst hn;have e1:(!(a++[n]).contains n)=false:=(by simp);have e2:(!a.contains n)=true:=(by rw[ha]; rfl);rw[e1,e2];simp only[Bool.false_eq_true,if_false,if_true,Nat.add_zero];omega
   ·have:=ih (by omega);have e1:(!(a++[i]).contains n)=(!a.contains n):=(by simp[hn]);rw[e1];omega
 exact this _ hi
theorem reach_c(l:List Module)(ks vs:List D)(bs:List Nat)(cl:Nat)(to:Nat)(hok:D.ok (zab l))(n:Nat): ∀(i:Nat) (s:List Nat) (hi:i<l.length) (hs: ∀k∈s,k<l.length) (hn:zev l s<n),
  FnL Tryz.prog 199 [.agg [.d (zab l),.d (zaF l),.mo 1],.d (eI i),.d (eI to),.mo 0] [(0,.map (iK s) (iV s) (List.range s.length) s.length),(1,.map ks vs bs cl)]
   (fun V ol new=>V= .d (eB (zc1 l to n i s).1)/\ol=[(0,.map (iK (zc1 l to n i s).2) (iV (zc1 l to n i s).2) (List.range (zc1 l to n i s).2.length) (zc1 l to n i s).2.length),(1,.map ks vs bs cl)]/\new=[]):=by
 induction n with
 | zero=>intro _ _ _ _ hn; omega
 | succ n ih=>
  intro i s hi hs hn;obtain⟨m,hm⟩:=zX (l[i]);have hR:zc1 l to (n+1) i s=zbH l (zc1 l to n) to m.items s:=by
   have:l.getD i ⟨emp,emp,[],[]⟩=m:=by simp[List.getD,hi,hm]
   rw[zc1,this]
  rw[hR];have hll:l.length<=9223372036854775807:=(za9 hok).1;have hml:m.items.length<=9223372036854775807:=by
   have h2:=(za9 hok).2 m (hm▸List.getElem_mem hi);simp only[zaf,D.okL]at h2;exact(za9 h2.2.2.2.1).1
  obtain⟨R,hR'⟩:=zX (zbH l (zc1 l to n) to m.items s);rw[hR'];refine FnL.of_eC (own:=[]) (fun i=>if i=2007 then []else chL i) [0,3] zat Tryz.func199 rfl Tryz.call199 Tryz.ntmps199 (Nat.le_of_ble_eq_true rfl) Tryz.results199 ?_;simp(maxSteps:=4000000) only[ZE,↓reduceIte,pE,pL,pA,pS,pM,pD,zap,zab,zaF,sMp,zaf,zak,zal,zaj,zai hi,zaa hi,hm,zN,qT,qG,qL,qH,qN,qB,qE,qO,qA,qM];refine zgR (X:=List Nat) (fun _ i=>if i=2007 then []else chL i) zat m.items.length (fun j s'=>zbH l (zc1 l to n) to (m.items.drop j) s'=R/\sup l s s') (fun j s'=>([(0,.agg [.d (zab l),.d (zaF l),.mo 1]),(1,.d (eI i)),(2,.d (eI to)),(3,.mo 0),(4,.bp 4 0),(19,.d (zbR m.items)),(20,.d (eI m.items.length)),(21,.d (eI j))],
   [(4,.box [.d (zab l),.d (zaF l),.mo 1]),(0,.map (iK s') (iV s') (List.range s'.length) s'.length),(1,.map ks vs bs cl)])) s ⟨by rw[List.drop_zero]; exact hR',zlO l s⟩ ?_ ?_ (fun j s' hj hI=> ?_)
  ·simp only[ZE,↓reduceIte,pE,pL,pA,pS,pM,pD,zap,zab,zaF,sMp,zaf,zak,zal,zaj]
  ·simp only[ZE,↓reduceIte,pE,pL,pA,pS,pM,pD,zap,zab,zaF,sMp,zaf,zak,zal,zaj]
  obtain⟨hI1,hI2⟩:=hI;have hs':=hI2.2 hs;rcases Nat.lt_or_ge j m.items.length with h | h
  ·have hw:=zaq (show j<9223372036854775807 by omega);rw[List.drop_eq_getElem_cons h,zbH]at hI1;obtain⟨x,hx⟩:=zX (m.items[j]);rw[hx]at hI1;by_cases k9:x.kind.1=9
   ·cases hf:get (znH l) x.of with
    | none=>
     have hin:zbE l x=none:=(by unfold zbE; rw[if_pos k9]; simp[zcA,hf]);rw[hin]at hI1;simp(maxSteps:=4000000) only[ZE,↓reduceIte,pE,pL,pA,pS,pM,pD,zaw h,zaa h,zai h,hx,zN,qT,qG,qL,qH,qN,qB,qE,qO,qA,qM,hw,k9,hf,zap,zab,zaF,sMp,zaf,zak,zal,zaj,zep,ziT];exact⟨fun y hy=>zcr _ y hy,h,s',⟨hI1,hI2⟩,rfl⟩
    | some z=>
     obtain⟨k,hk,rfl,_⟩:=zfB (l:=l) (n:=x.of) hf;have hin:zbE l x=some k:=(by unfold zbE; rw[if_pos k9]; simp[zcA,hf]);rw[hin]at hI1;simp only at hI1;have hkok:=iK_ok s' (fun n hn=>Nat.le_trans (Nat.le_of_lt (hs' n hn)) hll);have hk1:=iK_ok [k] (fun n hn=>by simp at hn; subst hn; exact Nat.le_trans (Nat.le_of_lt hk) hll) (.lit (.int .i64 k)) (by simp[iK]);cases hc:s'.contains k with
     | true=>
      rw[hc]at hI1;simp(maxSteps:=4000000) only[ZE,↓reduceIte,pE,pL,pA,pS,pM,pD,zaw h,zaa h,zai h,hx,zN,qT,qG,qL,qH,qN,qB,qE,qO,qA,qM,hw,k9,hf,zap,zab,zaF,sMp,zaf,zak,zal,zaj,zep,ziT,zlj,hc,zph,hk1,hkok];exact⟨fun y hy=>zcr _ y hy,hkok,h,s',⟨hI1,hI2⟩,rfl⟩
     | false=>
      rw[hc]at hI1;simp only[Bool.false_eq_true,if_false]at hI1;have hput:=put_i hc;by_cases hto:k=to
      ·rw[if_pos hto]at hI1;have hto':((k:Int)==(to:Int))=true:=(by simp[hto]);simp(maxSteps:=4000000) only[ZE,↓reduceIte,pE,pL,pA,pS,pM,pD,zaw h,zaa h,zai h,hx,zN,qT,qG,qL,qH,qN,qB,qE,qO,qA,qM,hw,k9,hf,zap,zab,zaF,sMp,zaf,zak,zal,zaj,zep,ziT,zlj,hc,hput,hto',zph,hk1,hkok];refine⟨fun y hy=>zcr _ y hy,hkok,hkok,[4,10],[],?_⟩;simp only[ZE,↓reduceIte,pE,pL,pA,pS,pM,pD,<-hI1]
      ·rw[if_neg hto]at hI1;have hto':((k:Int)==(to:Int))=false:=(by simp; omega);simp(maxSteps:=4000000) only[ZE,↓reduceIte,pE,pL,pA,pS,pM,pD,zaw h,zaa h,zai h,hx,zN,qT,qG,qL,qH,qN,qB,qE,qO,qA,qM,hw,k9,hf,zap,zab,zaF,sMp,zaf,zak,zal,zaj,zep,ziT,zlj,hc,hput,hto',zph,hk1,hkok];refine⟨fun y hy=>zcr _ y hy,hkok,hkok,?_⟩;have hsup:sup l s' (s'++[k]):=zlN hk;have hun:=zng hk hc;have hle:=znf (l:=l) hI2.1;have hcc:=ih k (s'++[k]) hk (hsup.2 hs') (by omega);have hsr:=zi3 l to n k (s'++[k]);obtain⟨⟨b,s2⟩,hr⟩: ∃r,zc1 l to n k (s'++[k])=r:=⟨_,rfl⟩;rw[hr]at hcc hI1 hsr;simp only[ZE,↓reduceIte,pE,pL,pA,pS,pM,pD,zap,zab,zaF,sMp,zaf,zak,zal,zaj]at hcc;refine EFn.g ⟨[(0,0),(1,1)],_,_,_,hcc,?_⟩;simp only[ZE,↓reduceIte,pE,pL,pA,pS,pM,pD,zap,zab,zaF,sMp,zaf,zak,zal,zaj];rintro V ol new ⟨rfl,rfl,rfl⟩;cases b with
       | true=>
        simp only[ZE,↓reduceIte,pE,pL,pA,pS,pM,pD,zap,zab,zaF,sMp,zaf,zak,zal,zaj];refine⟨[4,10],[],?_⟩;simp only at hI1;simp only[ZE,↓reduceIte,pE,pL,pA,pS,pM,pD,<-hI1]
       | false=>
        simp only[ZE,↓reduceIte,pE,pL,pA,pS,pM,pD,zap,zab,zaF,sMp,zaf,zak,zal,zaj,hw,zep];exact⟨h,s2,⟨hI1,zfq hI2 (zfq hsup hsr)⟩,rfl⟩
   ·have hin:zbE l x=none:=(by unfold zbE; rw[if_neg k9]);have k9':(x.kind.1 !=9)=true:=(by simpa using k9);rw[hin]at hI1;have hkok:=iK_ok s' (fun n hn=>Nat.le_trans (Nat.le_of_lt (hs' n hn)) hll);cases hf:get (znH l) x.of with
    | none=>
     simp(maxSteps:=4000000) only[ZE,↓reduceIte,pE,pL,pA,pS,pM,pD,zaw h,zaa h,zai h,hx,zN,qT,qG,qL,qH,qN,qB,qE,qO,qA,qM,hw,k9',hf,zap,zab,zaF,sMp,zaf,zak,zal,zaj,zep,ziT];exact⟨fun y hy=>zcr _ y hy,h,s',⟨hI1,hI2⟩,rfl⟩
    | some z=>
     obtain⟨k,hk,rfl,_⟩:=zfB (l:=l) (n:=x.of) hf;simp(maxSteps:=4000000) only[ZE,↓reduceIte,pE,pL,pA,pS,pM,pD,zaw h,zaa h,zai h,hx,zN,qT,qG,qL,qH,qN,qB,qE,qO,qA,qM,hw,k9',hf,zap,zab,zaF,sMp,zaf,zak,zal,zaj,zep,ziT];exact⟨fun y hy=>zcr _ y hy,h,s',⟨hI1,hI2⟩,rfl⟩
  ·have:j=m.items.length:=by omega
   subst this;rw[List.drop_length,zbH]at hI1;simp(maxSteps:=4000000) only[ZE,↓reduceIte,pE,pL,pA,pS,pM,pD,zaI h,zap,zab,zaF,sMp,zaf,zak,zal,zaj];refine⟨[4],[],?_⟩;simp only[ZE,↓reduceIte,pE,pL,pA,pS,pM,pD,<-hI1]
def zjW(ready:List Bool->Nat->Bool)(d:List Bool)(i:Nat):List Bool:=d.set i (d.getD i false||ready d i)
def znV(n:Nat)(ready:List Bool->Nat->Bool)(d:List Bool):List Bool:=(List.range n).foldl (zjW ready) d
def zcq(n:Nat)(ready:List Bool->Nat->Bool)(k:Nat):List Bool:=(List.range k).foldl (fun d _=>znV n ready d) (List.replicate n false)
def zh4(l:List Module)(d:List Bool)(acc:Bool)(x:Item):Bool:=
 if x.kind.1=9 then(acc&&decide (zgM (fun m:Module=>decide (m.name=x.of)) l>=0)&&d.getD (zgM (fun m:Module=>decide (m.name=x.of)) l).toNat false)else acc
def zgE(l:List Module)(d:List Bool)(i:Nat):Bool:=(l.getD i zdP).items.foldl (zh4 l d) true
def znA(l:List Module):Bool:=(zcq l.length (zgE l) l.length).all id
def zpy(d:List Bool)(e:Expr)(acc:Bool)(p:Item×Nat):Bool:=if (e.op==14&&p.1.kind.1==5&&decide (p.1.name=e.name))=true then(acc&&d.getD p.2 false)else acc
def zm1(m:Module)(d:List Bool)(acc:Bool)(e:Expr):Bool:=m.items.zipIdx.foldl (zpy d e) acc
def zgg(m:Module)(d:List Bool)(i:Nat):Bool:=if (m.items.getD i zaU).kind.1 =5 then(Expr.allL [(m.items.getD i zaU).a]).foldl (zm1 m d) true else true
def zjt(m:Module):Bool:=(zcq m.items.length (zgg m) (m.items.length+1)).all id
def eBs(d:List Bool):List (List D):=d.map fun b=>[D.lit (.bool b)]
set_option maxHeartbeats 4000000
/-! ### Shuffled -/
def zri(l:List Nat)(i:Nat):Nat:=if i<l.length then l.getD i 0 % (i+1)else 0
def zcD(l:List Nat)(acc:List Int)(i:Nat):List Int:=acc.take (zri l i)++[(i:Int)]++acc.drop (zri l i)
def zhu(n:Nat)(l:List Nat):List Int:=(List.range n).foldl (zcD l) []
theorem zjc(l:List Nat)(i:Nat):zri l i<=i:=by
 unfold zri;split
 ·have:=Nat.mod_lt (l.getD i 0) (show i+1>0 by omega);omega
 ·omega
theorem zm8(l:List Nat)(acc:List Int)(i:Nat)(h:zri l i<=acc.length):(zcD l acc i).length =acc.length+1:=by
 simp only[zcD,List.length_append,List.length_take,List.length_cons,List.length_nil,List.length_drop];omega
theorem zhv(l:List Nat): ∀n,((List.range n).foldl (zcD l) []).length =n
 | 0=>rfl
 | n+1=>by
  rw[List.range_succ,List.foldl_append];simp only[List.foldl_cons,List.foldl_nil];have:=zhv l n;rw[zm8 _ _ _ (by rw[this]; exact zjc l n),this]
theorem zf5(l:List Int):zcY 1 (l.map fun s=>[D.lit (.int .i64 s)]):=by
 intro y hy;obtain⟨q,_,rfl⟩:=List.mem_map.1 hy;simp[D.one,Value.oneCell']
theorem shuf_c(n:Nat)(l:List Nat)(hn:n<=1000000)(hb: ∀b∈l,b<256):FnP Tryz.prog 99 [eI n,zau l] (.d (zfA (zhu n l))) []:=by
 refine FnP.of_eC (own:=[]) (fun i=>if i=1 then [.frz 8]else []) zat Tryz.func99 rfl Tryz.call99 Tryz.ntmps99 (Nat.le_of_ble_eq_true rfl) Tryz.results99 (fun hok=> ?_);simp(maxSteps:=4000000) only[ZE,↓reduceIte,pE,pL,pA,pS,pM,pD,zN,qT,qG,qL,qH,qN,qB,qE,qO,qA,qM];refine za1 (fun i=>if i=2008 then [.ord ⟨[(1,none),(2,none),(3,none),(5,none),(6,none),(8,none),(9,none),(10,none),(0,some [1,2,3,5,6,8,9,10]),(4,some [5,6,8,9,10]),(7,some [8,9,10]),(11,some []),(12,some [])]⟩]else if i=8 then [.frz 26]else []) zat n (fun _=>True) (fun i=>([(0,.d (eI n)),(1,.d (zau l)),(5,.d (zfA ((List.range i).foldl (zcD l) []))),(6,.d (eI i))],[])) trivial ?_ ?_ (fun i hi _=> ?_)
 ·simp only[ZE,↓reduceIte,pE,pL,pA,pS,pM,pD,List.range_zero,List.foldl_nil,List.map_nil]
 ·simp only[ZE,↓reduceIte,pE,pL,pA,pS,pM,pD]
 obtain⟨acc,hacc⟩:=zX ((List.range i).foldl (zcD l) []);have hlen:acc.length=i:=hacc▸zhv l i;have hs:(List.range (i+1)).foldl (zcD l) []=zcD l acc i:=by rw[List.range_succ,List.foldl_append,hacc]; rfl
 rw[hacc,hs];rcases Nat.lt_or_ge i n with h | h
 ·have hw:=zaq (show i<9223372036854775807 by omega);have hsl:=zjc l i;obtain⟨k,hk⟩:=zX (zri l i);rw[hk]at hsl;rw[zcD,hk];rcases Nat.lt_or_ge i l.length with h1 | h1
  ·have hk1:k=l[i] % (i+1):=by rw[<-hk,zri,if_pos h1]; simp[List.getD,h1]
   have hlt:=hb _ (List.getElem_mem h1);have hwb:IntKind.i64.wrap (l[i]:Int)=(l[i]:Int):=zaQ (by omega) (by omega);have hm:(l[i]:Int).tmod ((i+1:Nat):Int)=(k:Int):=by rw[hk1]; exact(Int.ofNat_tmod _ _).symm
   have hne: ¬((i+1:Nat):Int)=0:=by omega
   simp(maxSteps:=4000000) only[ZE,↓reduceIte,pE,pL,pA,pS,pM,pD,zaw h,zaw h1,zaa h1,zai h1,hw,hwb,hm,hne,zN,qT,qG,qL,qH,qN,qB,qE,qO,qA,qM,Int.toNat_natCast];refine⟨by kernel_rfl,?_⟩;have hk':k<=acc.length:=by omega
   have hv: ∀e∈acc.map (fun s=>[D.lit (.int .i64 s)]),e.length=1:=fun e he=>by obtain⟨q,_,rfl⟩:=List.mem_map.1 he; rfl
   have htd:(acc.drop k).take (acc.length-k)=acc.drop k:=List.take_of_length_le (by rw[List.length_drop]; omega);have hV:(∀e∈acc.map (fun s=>[D.lit (.int .i64 s)]),e.length=1)/\0<=(k:Int)/\(k:Int)<=(acc.length:Int)/\(acc.length:Int)<=(acc.length:Int):=⟨hv,by omega,by omega,by omega⟩;simp only[Nat.sub_zero,<-List.map_take,<-List.map_drop,htd,List.length_append,List.length_map,List.length_cons,List.length_nil,List.length_take,List.length_drop,Nat.min_eq_left hk',if_true,List.map_append,List.map_cons,List.map_nil];refine⟨hV,hV,hV,⟨zf5 _,by omega,by omega⟩,hV,⟨by omega,by omega⟩,hV,⟨zf5 _,by omega,by omega⟩,h,trivial⟩
  ·have hk0:k=0:=by rw[<-hk,zri,if_neg (by omega)]
   subst hk0;simp(maxSteps:=4000000) only[ZE,↓reduceIte,pE,pL,pA,pS,pM,pD,zaw h,zaI h1,hw,zN,qT,qG,qL,qH,qN,qB,qE,qO,qA,qM];refine⟨by kernel_rfl,?_⟩;have hv: ∀e∈acc.map (fun s=>[D.lit (.int .i64 s)]),e.length=1:=fun e he=>by obtain⟨q,_,rfl⟩:=List.mem_map.1 he; rfl
   have hV:(∀e∈acc.map (fun s=>[D.lit (.int .i64 s)]),e.length=1)/\0<=(acc.length:Int)/\(acc.length:Int)<=(acc.length:Int):=⟨hv,by omega,by omega⟩;have htd:acc.take acc.length=acc:=List.take_length;have hc:1+acc.length=acc.length+1:=by omega
   simp only[Nat.sub_zero,<-List.map_take,htd,List.length_map,hc,if_true];refine⟨hV,hV,hV,hV,hV,⟨zf5 _,by omega,by omega⟩,h,trivial⟩
 ·have:i=n:=by omega
  subst this;simp(maxSteps:=4000000) only[ZE,↓reduceIte,pE,pL,pA,pS,pM,pD,zaI h,zN,qT,qG,qL,qH,qN,qB,qE,qO,qA,qM,zhu,hacc]
end Go.Proofs.YtbenhdgpogiadaaGreat
