/-
 CONTRACTS and plain laws. Conditions: those of each law.
-/
import Derived.Test.YtbenhdgpogiadaaGreatNK7
import Derived.Test.YtbenhdgpogiadaaGreatNK1
import Derived.Test.YtbenhdgpogiadaaGreatNK4
import Derived.WalkKit
import Derived.Shelf.RegionOpenPlain
import Derived.Shelf.SlSortCmp.QuietGrown
import Derived.StillTailTactics
import Derived.Handy
import Derived.Below
import Derived.Shelf.SlSortCmp.NoneTotal
import Derived.Ground.SlsfProg
import Derived.Test.YtbenhdgpogiadaaGreatNK2
set_option linter.unusedSimpArgs false
set_option linter.unusedVariables false
namespace Go.Proofs.YtbenhdgpogiadaaGreat
open Go.Aw
open Nat renaming reduceEqDiff->pE,reduceLT->pL,reduceAdd->pA,reduceSub->pS,reduceMul->pM,reduceLeDiff->pD
open Int renaming reduceToNat->qT,reduceGT->qG,reduceLT->qL,reduceGE->qH,reduceBNe->qN,reduceBEq->qB,reduceLE->qE,reduceNe->qO,reduceAdd->qA,reduceNeg->qM
set_option maxRecDepth 100000
set_option maxHeartbeats 1000000
/-- One expression more is looked at. -/
def zca(m:Module)(rec:List Str->List Expr->List Str)(acc:List Str)(e:Expr):List Str:=
 if ((e.op !=14&&e.op !=15)||has acc e.name)=true then acc else if has [5] (zbu m e.name)=true then rec (acc++[e.name]) [(zce m e.name).a]else acc++[e.name]
def zdv(m:Module):Nat->List Str->List Expr->List Str
 | 0,acc,_=>acc
 | n+1,acc,l=>(Expr.allL l).foldl (zca m (zdv m n)) acc
/-- How many declared names are not yet among them. -/
def left(m:Module)(acc:List Str):Nat:=(zbG m.items).countP fun p=> !has acc p.1
def mo(id:Nat)(acc:List Str):Nat×AO:=(id,.map (sK (tk acc)) (sV eB (tk acc)) (List.range (tk acc).length) (tk acc).length)
theorem zdQ(a b:List Str)(s:Str):has (a++b) s=(has a s||has b s):=by simp[has]
theorem zth(m:Module){a b:List Str}(h: ∀s,has a s=true->has b s=true):left m b<=left m a:=by
 unfold left;refine List.countP_mono_left fun p _ hp=> ?_;simp only[Bool.not_eq_true']at hp ⊢;cases ha:has a p.1 with
 | false=>rfl
 | true=>rw[h _ ha]at hp; cases hp
theorem zti(m:Module){a:List Str}{s:Str}(hg:get (zbG m.items) s≠none)(ha:has a s=false):left m (a++[s])<left m a:=by
 unfold left;have: ∀l:List (Str×Item),get l s≠none->l.countP (fun p=> !has (a++[s]) p.1)<l.countP (fun p=> !has a p.1):=by
  intro l
  induction l with
  | nil=>intro h; exact absurd rfl h
  | cons p r ih=>
   intro h;rw[zho]at h;have hle:r.countP (fun p=> !has (a++[s]) p.1)<=r.countP (fun p=> !has a p.1):=List.countP_mono_left fun p _ hp=>by
    simp only[Bool.not_eq_true',zdQ,Bool.or_eq_false_iff]at hp ⊢;exact hp.1
   simp only[List.countP_cons];by_cases h1:p.1=s
   ·have e1:(!has (a++[s]) p.1)=false:=(by simp[zdQ,h1,has]);have e2:(!has a p.1)=true:=(by rw[h1,ha]; rfl);rw[e1,e2];simp only[Bool.false_eq_true,if_false,if_true,Nat.add_zero];omega
   ·rw[if_neg h1]at h;have:=ih h;have e1:(!has (a++[s]) p.1)=(!has a p.1):=by
     have: ¬p.1=s:=h1;simp[zdQ,has,this]
    rw[e1];omega
 exact this _ hg
theorem zkW{m:Module}{rec:List Str->List Expr->List Str}(hr: ∀a l s,has a s=true->has (rec a l) s=true)(a:List Str)(e:Expr)(s:Str)(h:has a s=true):has (zca m rec a e) s=true:=by
 unfold zca;split
 ·exact h
 ·split
  ·exact hr _ _ _ (by rw[zdQ,h,Bool.true_or])
  ·rw[zdQ,h,Bool.true_or]
theorem zmv{m:Module}{rec:List Str->List Expr->List Str}(hr: ∀a l s,has a s=true->has (rec a l) s=true): ∀(l:List Expr) (a:List Str) (s:Str),has a s=true->has (l.foldl (zca m rec) a) s=true
 | [],_,_,h=>h
 | e::l,a,s,h=>by rw[List.foldl_cons]; exact zmv hr l _ s (zkW hr a e s h)
theorem znh(m:Module): ∀(n:Nat) (a:List Str) (l:List Expr) (s:Str),has a s=true->has (zdv m n a l) s=true
 | 0,_,_,_,h=>h
 | n+1,a,l,s,h=>zmv (znh m n) (Expr.allL l) a s h
theorem ziR{m:Module}{s:Str}(h:has [5] (zbu m s)=true):get (zbG m.items) s≠none:=by
 intro hg;simp[zbu,zce,hg,zaU,has]at h
theorem zkf(l:List Item): ∀p∈zbG l,p.2∈l:=by
 have: ∀(r:List Item) (acc:List (Str×Item)),(∀p∈acc,p.2∈l)->(∀x∈r,x∈l)-> ∀p∈r.foldl zcf acc,p.2∈l:=by
  intro r
  induction r with
  | nil=>intro acc h _; exact h
  | cons x r ih=>
   intro acc h hr;rw[List.foldl_cons];refine ih _ (fun p hp=> ?_) (fun y hy=>hr y (List.mem_cons_of_mem _ hy));unfold zcf at hp;split at hp
   ·rcases List.mem_append.1 hp with hp | hp
    ·exact h p hp
    ·simp at hp; subst hp; exact hr x (by simp)
   ·exact h p hp
 exact this l [] (by simp) (fun _ h=>h)
theorem zmA{α:Type}{l:List (Str×α)}{s:Str}{x:α}(h:get l s=some x):(s,x)∈l:=by
 unfold get at h;rw[Option.map_eq_some_iff]at h;obtain⟨p,h1,rfl⟩:=h;have:=List.find?_some h1;have e:p.1=s:=of_decide_eq_true this;rw[<-e];exact List.mem_of_find?_eq_some h1
theorem decl_ok{m:Module}(hm:D.okL (zaf m))(s:Str)(h:get (zbG m.items) s≠none):D.okL (zaK (zce m s)):=by
 cases hg:get (zbG m.items) s with
 | none=>exact absurd hg h
 | some x=>
  have:zce m s=x:=by rw[zce,hg]; rfl
  rw[this];simp only[zaf,D.okL]at hm;exact(za9 hm.2.2.2.1).2 x (zkf _ _ (zmA hg))
theorem zmr{e:Expr}(h:D.okL (zbx e)):(zbF [e]).ok :=by
 simp only[zbF,D.ok,List.map_cons,List.map_nil,List.length_cons,List.length_nil];exact⟨by unfold maxLen; omega,zov fun y hy=>by simp at hy; subst hy; exact h⟩
theorem dep1_c(m:Module): ∀(n:Nat) (l:List Expr) (acc:List Str) (hok:(zbF l).ok) (hm:D.okL (zaf m)) (hn:left m acc<n),
  FnL Tryz.prog 254 [.d (zbF l),.bp 1 0,.bp 2 0,.bp 3 0] [(1,.box [.mo 5]),(2,.box ((zaf m).map .d)),(3,.box [.clo (.func 254) [] [.bp 1 0,.bp 2 0,.bp 3 0]]),mo 5 acc]
   (fun V ol new=>V= .tup []/\ol=[(1,.box [.mo 6]),(2,.box ((zaf m).map .d)),(3,.box [.clo (.func 254) [] [.bp 1 0,.bp 2 0,.bp 3 0]]),mo 6 (zdv m n acc l)]/\new=[6])
 | 0,_,_,_,_,hn=>by omega
 | n+1,l,acc,hok,hm,hn=>by
  refine FnL.of_eC (own:=[]) (fun i=>if i=0 then [.rnm [(1,1),(2,2),(3,3),(5,6)]]else chL i) [1,2,3] zat Tryz.func254 rfl Tryz.call254 Tryz.ntmps254 (Nat.le_of_ble_eq_true rfl) Tryz.results254 ?_;simp(maxSteps:=4000000) only[ZE,↓reduceIte,pE,pL,pA,pS,pM,pD,mo];refine EFn.p ?_;simp(maxSteps:=4000000) only[ZE,↓reduceIte,pE,pL,pA,pS,pM,pD];have hc:=zeg l;simp(maxSteps:=4000000) only[ZE,↓reduceIte,pE,pL,pA,pS,pM,pD]at hc;refine zar.i hc ?_;clear hc;simp only[ZE,↓reduceIte,pE,pL,pA,pS,pM,pD];refine zrq (fun _ i=>if i=5 then [.rnm [(1,1),(2,2),(3,3),(7,6),(5,5)]]else chL i) l hok rfl (by simp only[ZE,↓reduceIte,pE,pL,pA,pS,pM,pD]) (fun k=>[(1,.box [.mo 6]),(2,.box ((zaf m).map .d)),(3,.box [.clo (.func 254) [] [.bp 1 0,.bp 2 0,.bp 3 0]]),mo 6 (((Expr.allL l).take k).foldl (zca m (zdv m n)) acc)]) (fun k=> ∀s,has acc s=true->has (((Expr.allL l).take k).foldl (zca m (zdv m n)) acc) s=true) (fun s hs=>hs) ?_ ?_ rfl (fun k hk hI=> ?_) (fun hI=> ?_)
  ·simp only[ZE,↓reduceIte,pE,pL,pA,pS,pM,pD,mo,zap,zab,zaF,sMp,zaf,zak,zal,zaj,List.take_zero,List.foldl_nil]
  ·simp only[ZE,↓reduceIte,pE,pL,pA,pS,pM,pD]
  ·obtain⟨e,he⟩:=zX ((Expr.allL l)[k]);obtain⟨a,ha⟩:=zX (((Expr.allL l).take k).foldl (zca m (zdv m n)) acc);have hs:=zc3 (zca m (zdv m n)) acc (Expr.allL l) k hk;rw[ha,he]at hs;rw[ha]at hI;have hI': ∀s,has acc s=true->has (zca m (zdv m n) a e) s=true:=fun s h=>zkW (znh m n) a e s (hI s h);rw[ha,hs,he];have c1:=zs2 m e.name [5];simp only[ZE,↓reduceIte,pE,pL,pA,pS,pM,pD,zap,zab,zaF,sMp,zaf,zak,zal,zaj]at c1;by_cases g:((e.op !=14&&e.op !=15)||has a e.name)=true
   ·have hv:zca m (zdv m n) a e=a:=(by unfold zca; rw[if_pos g]);rw[hv]at hI' ⊢;simp only[ZE,↓reduceIte,pE,pL,pA,pS,pM,pD,eA,mo,zN,qT,qG,qL,qH,qN,qB,qE,qO,qA,qM,zap,zab,zaF,sMp,zaf,zak,zal,zaj,zlf,g];exact⟨fun _ y hy=>zcr _ y hy,hI⟩
   replace g:=Bool.eq_false_iff.2 g
   have g2:has a e.name=false:=(Bool.or_eq_false_iff.1 g).2;have hgn:get (tk a) e.name=none:=by rw[zo9,if_neg (by rw[g2]; simp)]
   have hput:AO.map (zgQ (sK (tk a)) (.lit (.string e.name.1))) (zjk (sK (tk a)) (sV eB (tk a)) (.lit (.string e.name.1)) (.lit (.bool true))) (zjs (sK (tk a)) (List.range (tk a).length) (tk a).length (.lit (.string e.name.1))) (zjT (sK (tk a)) (tk a).length (.lit (.string e.name.1)))=
     AO.map (sK (tk (a++[e.name]))) (sV eB (tk (a++[e.name]))) (List.range (tk (a++[e.name])).length) (tk (a++[e.name])).length :=by
    have:=zkl (zqH eB (x:=true) hgn);simpa only[tk,List.map_append,List.map_cons,List.map_nil,eB]using this
   simp only[ZE,↓reduceIte,pE,pL,pA,pS,pM,pD,eA,mo,zN,qT,qG,qL,qH,qN,qB,qE,qO,qA,qM,zap,zab,zaF,sMp,zaf,zak,zal,zaj,zlf,g,hput];refine⟨fun _ y hy=>zcr _ y hy,fun y hy=>zcr _ y hy,?_⟩;refine EFn.p ?_;simp only[ZE,↓reduceIte,pE,pL,pA,pS,pM,pD,zap,zab,zaF,sMp,zaf,zak,zal,zaj];refine zar.i c1 ?_;simp only[ZE,↓reduceIte,pE,pL,pA,pS,pM,pD,zap,zab,zaF,sMp,zaf,zak,zal,zaj,zfu,zfg];refine zd8 (fun hb=> ?_) (fun hb=> ?_)
   ·have hv:zca m (zdv m n) a e=zdv m n (a++[e.name]) [(zce m e.name).a]:=(by unfold zca; rw[if_neg (by rw[g]; simp),if_pos hb]);rw[hv]at hI' ⊢;have hlt:=zti m (ziR hb) g2;have hle:=zth m (a:=acc) (b:=a) hI;have hc:=dep1_c m n [(zce m e.name).a] (a++[e.name]) (zmr (zom (decl_ok hm e.name (ziR hb))).1) hm (by omega);simp only[ZE,↓reduceIte,pE,pL,pA,pS,pM,pD,zap,zab,zaF,sMp,zaf,zak,zal,zaj,mo,zce]at hc;refine⟨fun y hy=>zcr _ y hy,?_⟩;refine EFn.g ⟨[(1,1),(2,2),(3,3),(5,6),(6,7)],_,_,_,hc,?_⟩;simp only[ZE,↓reduceIte,pE,pL,pA,pS,pM,pD,zap,zab,zaF,sMp,zaf,zak,zal,zaj];rintro V ol new ⟨rfl,rfl,rfl⟩;simp only[ZE,↓reduceIte,pE,pL,pA,pS,pM,pD,zap,zab,zaF,sMp,zaf,zak,zal,zaj,zce];simp only[zce]at hI';exact hI'
   ·have hv:zca m (zdv m n) a e=a++[e.name]:=(by unfold zca; rw[if_neg (by rw[g]; simp),if_neg (by rw[hb]; simp)]);rw[hv]at hI' ⊢;exact⟨rfl,hI'⟩
  ·simp only[ZE,↓reduceIte,pE,pL,pA,pS,pM,pD,mo];refine⟨[],[6],?_⟩;simp only[ZE,↓reduceIte,pE,pL,pA,pS,pM,pD,mo,List.take_length];rfl
def zbN(m:Module)(l:List Expr):List Str:=zdv m ((zbG m.items).length +1) [] l
theorem zmm(m:Module)(l:List Expr):FnP Tryz.prog 204 [.agg (zaf m),zbF l] (.d (sMp eB (tk (zbN m l)))) []:=by
 refine FnP.of_eC (own:=[]) (fun _=>[]) zat Tryz.func204 rfl Tryz.call204 Tryz.ntmps204 (Nat.le_of_ble_eq_true rfl) Tryz.results204 (fun hok=> ?_);have hm:D.okL (zaf m):=by simpa only[D.ok]using(zaM hok).1
 have hl:=(zaM (zaM hok).2).1;have hc:=dep1_c m ((zbG m.items).length +1) l [] hl hm (Nat.lt_succ_of_le List.countP_le_length);have e0:tk []=[]:=rfl;have e1:sK ([]:List (Str×Bool))=[]:=rfl;have e2:sV eB ([]:List (Str×Bool))=[]:=rfl;simp only[ZE,↓reduceIte,pE,pL,pA,pS,pM,pD,zap,zab,zaF,sMp,zaf,zak,zal,zaj,mo,e0,e1,e2,List.length_nil,List.range_zero]at hc;simp(maxSteps:=4000000) only[ZE,↓reduceIte,pE,pL,pA,pS,pM,pD,zap,zab,zaF,sMp,zaf,zak,zal,zaj];refine EFn.g ⟨[(1,5),(2,2),(3,6),(5,7),(6,20)],_,_,_,hc,?_⟩;simp only[ZE,↓reduceIte,pE,pL,pA,pS,pM,pD,zap,zab,zaF,sMp,zaf,zak,zal,zaj];rintro V ol new ⟨rfl,rfl,rfl⟩;simp only[ZE,↓reduceIte,pE,pL,pA,pS,pM,pD,zap,zab,zaF,sMp,zaf,zak,zal,zaj,zbN]
def zjI(m:Module)(e:Expr):List Str:=if has [5] (zbu m e.name)=true then zbN m [(zce m e.name).a]else [e.name]
def zkY(m:Module)(n:Str):Bool:=has [1,3] (zbu m n)
def zdO(m:Module)(e:Expr):Bool:=e.op==14&&(zjI m e).any (zkY m)
def zic(m:Module)(x:Item):Bool:=(Expr.allL [x.a]).any (zdO m)
theorem early_c(m:Module)(x:Item):FnP Tryz.prog 206 [.agg (zaf m),.agg (zaK x)] (.d (eB (zic m x))) []:=by
 refine FnP.of_eC (own:=[]) (fun i=>if i=1007 then [.frz 16]else if i=1 then [.keep [11,4,3,2]]else chL i) zat Tryz.func206 rfl Tryz.call206 Tryz.ntmps206 (Nat.le_of_ble_eq_true rfl) Tryz.results206 (fun hok=> ?_);have hx:D.okL (zaK x):=by simpa only[D.ok]using(zaM (zaM hok).2).1
 have hxa:=zmr (zom hx).1;simp(maxSteps:=4000000) only[ZE,↓reduceIte,pE,pL,pA,pS,pM,pD,zap,zab,zaF,sMp,zaf,zak,zal,zaj];have ac:=zeg [x.a];simp only[ZE,↓reduceIte,pE,pL,pA,pS,pM,pD,List.map_cons,List.map_nil]at ac;refine EFn.p ?_;simp only[ZE,↓reduceIte,pE,pL,pA,pS,pM,pD,zap,zab,zaF,sMp,zaf,zak,zal,zaj];refine zar.i ac ?_;simp only[ZE,↓reduceIte,pE,pL,pA,pS,pM,pD,zap,zab,zaF,sMp,zaf,zak,zal,zaj];refine zrq (fun _ i=>if i=1007 then [.frz 16]else chL i) [x.a] hxa rfl (by simp only[ZE,↓reduceIte,pE,pL,pA,pS,pM,pD]) (fun _=>[(4,.box [.d (eB false)]),(3,.box ((zaK x).map .d)),(2,.box ((zaf m).map .d))]) (fun k=> ∀e∈(Expr.allL [x.a]).take k,zdO m e=false) (by simp) ?_ ?_ rfl (fun k hk hI=> ?_) (fun hI=> ?_)
 ·simp only[ZE,↓reduceIte,pE,pL,pA,pS,pM,pD,zap,zab,zaF,sMp,zaf,zak,zal,zaj]
 ·simp only[ZE,↓reduceIte,pE,pL,pA,pS,pM,pD]
 ·obtain⟨e,he⟩:=zX ((Expr.allL [x.a])[k]);have hI':zdO m e=false-> ∀y∈(Expr.allL [x.a]).take (k+1),zdO m y=false:=fun h y hy=>by
   rw[List.take_succ_eq_append_getElem hk,List.mem_append,List.mem_singleton,he]at hy;rcases hy with hy | rfl
   ·exact hI y hy
   ·exact h
  have hT:zdO m e=true->zic m x=true:=fun h=>List.any_eq_true.2 ⟨e,he▸List.getElem_mem hk,h⟩;rw[he];by_cases g:(e.op !=14)=true
  ·simp only[ZE,↓reduceIte,pE,pL,pA,pS,pM,pD,eA,zN,qT,qG,qL,qH,qN,qB,qE,qO,qA,qM,zap,zab,zaF,sMp,zaf,zak,zal,zaj,g];exact hI' (by simp only[zdO,bne,Bool.not_eq_true']at g ⊢; rw[g]; rfl)
  replace g:=Bool.eq_false_iff.2 g
  have ge:(e.op==14)=true:=by simpa only[bne,Bool.not_eq_false']using g
  have c1:=zs2 m e.name [5];simp only[ZE,↓reduceIte,pE,pL,pA,pS,pM,pD,zap,zab,zaF,sMp,zaf,zak,zal,zaj]at c1;simp only[ZE,↓reduceIte,pE,pL,pA,pS,pM,pD,eA,zN,qT,qG,qL,qH,qN,qB,qE,qO,qA,qM,zap,zab,zaF,sMp,zaf,zak,zal,zaj,g];obtain⟨p1,p2,p3,p4⟩:zgQ [] (.lit (.string e.name.1))=sK (tk [e.name])/\zjk [] [] (.lit (.string e.name.1)) (.lit (.bool true))=sV eB (tk [e.name])/\zjs [] [] 0 (.lit (.string e.name.1))=List.range (tk [e.name]).length /\zjT [] 0 (.lit (.string e.name.1))=(tk [e.name]).length :=zqH eB (l:=[]) (x:=true) rfl;refine EFn.p ?_;simp only[ZE,↓reduceIte,pE,pL,pA,pS,pM,pD,zap,zab,zaF,sMp,zaf,zak,zal,zaj,p1,p2,p3,p4];refine zar.i c1 ?_;simp only[ZE,↓reduceIte,pE,pL,pA,pS,pM,pD,zap,zab,zaF,sMp,zaf,zak,zal,zaj,zfu,zfg];refine zd8 (fun hb=> ?_) (fun hb=> ?_)
  ·have hst:zjI m e=zbN m [(zce m e.name).a]:=if_pos hb;have dc:=zmm m [(zce m e.name).a];simp only[ZE,↓reduceIte,pE,pL,pA,pS,pM,pD,zap,zab,zaF,sMp,zaf,zak,zal,zaj,List.map_cons,List.map_nil,zce]at dc;refine⟨fun y hy=>zcr _ y hy,?_⟩;refine EFn.p ?_;simp only[ZE,↓reduceIte,pE,pL,pA,pS,pM,pD,zap,zab,zaF,sMp,zaf,zak,zal,zaj];refine zar.i dc ?_;simp only[ZE,↓reduceIte,pE,pL,pA,pS,pM,pD,zap,zab,zaF,sMp,zaf,zak,zal,zaj];obtain⟨L,hL⟩:=zX (zbN m [((get (zbG m.items) e.name).getD zaU).a]);have hst':zjI m e=L:=hst.trans hL;rw[hL];refine zgR (fun _ i=>if i=1007 then [.frz 16]else chL i) zat (tk (L)).length (zhR (tk (L)) (fun p=>zkY m p.1)) (fun i js=>([(2,.bp 2 0),(3,.bp 3 0),(4,.bp 4 0),(11,.d (.clo (.func 277) [] [.ptr [zbF [x.a]]])),(35,.mo 35)],
    [(35,.it (sK (tk (L))) (sV eB (tk (L))) (List.range (tk (L)).length) (tk (L)).length js),(4,.box [.d (eB false)]),(3,.box ((zaK x).map .d)),(2,.box ((zaf m).map .d))])) [] (zg9 _ _) ?_ ?_ (fun i js hi hI2=> ?_)
   ·simp only[ZE,↓reduceIte,pE,pL,pA,pS,pM,pD,zap,zab,zaF,sMp,zaf,zak,zal,zaj]
   ·simp only[ZE,↓reduceIte,pE,pL,pA,pS,pM,pD,zap,zab,zaF,sMp,zaf,zak,zal,zaj]
   simp only[ZE,↓reduceIte,pE,pL,pA,pS,pM,pD];refine⟨by simp only[ZE,↓reduceIte,pE,pL,pA,pS,pM,pD],fun j hj hjs=> ?_,fun hall=> ?_⟩
   ·have hj':j<(tk (L)).length :=(by simpa [zdK]using hj);have hlt:=zi9 hI2 hj' hjs;have hk':=zoJ (tk (L)) j hj';have c2:=zs2 m (tk (L))[j].1 [1,3];simp only[ZE,↓reduceIte,pE,pL,pA,pS,pM,pD,zap,zab,zaF,sMp,zaf,zak,zal,zaj]at c2;simp(maxSteps:=4000000) only[ZE,↓reduceIte,pE,pL,pA,pS,pM,pD,hk',List.getLast?_singleton,Option.some_or,zap,zab,zaF,sMp,zaf,zak,zal,zaj,zep];refine EFn.p ?_;simp only[ZE,↓reduceIte,pE,pL,pA,pS,pM,pD,zap,zab,zaF,sMp,zaf,zak,zal,zaj];refine zar.i c2 ?_;simp only[ZE,↓reduceIte,pE,pL,pA,pS,pM,pD,zap,zab,zaF,sMp,zaf,zak,zal,zaj,zep];refine zd8 (fun hw=> ?_) (fun hw=>⟨hlt,_,zf8 hI2 hj' hjs hw,rfl⟩);have h1:(tk (L)).any (fun p=>zkY m p.1)=true:=List.any_eq_true.2 ⟨_,List.getElem_mem hj',hw⟩;have h2:zdO m e=true:=by
     simp only[zdO,ge,hst',Bool.true_and];simpa only[tk,List.any_map,Function.comp_def]using h1
    rw[hT h2]
   ·have hany:=zg8 hI2 (fun j hj=>hall j (by simpa [zdK]using hj));simp(maxSteps:=4000000) only[ZE,↓reduceIte,pE,pL,pA,pS,pM,pD,zap,zab,zaF,sMp,zaf,zak,zal,zaj];refine hI' ?_;simp only[zdO,ge,hst',Bool.true_and];simpa only[tk,List.any_map,Function.comp_def]using hany
  ·have hst':zjI m e=[e.name]:=if_neg (by rw[hb]; simp);obtain⟨L,hL⟩:=zX ([e.name]);rw[hL]at hst' ⊢;refine zgR (fun _ i=>if i=1007 then [.frz 16]else chL i) zat (tk (L)).length (zhR (tk (L)) (fun p=>zkY m p.1)) (fun i js=>([(2,.bp 2 0),(3,.bp 3 0),(4,.bp 4 0),(11,.d (.clo (.func 277) [] [.ptr [zbF [x.a]]])),(35,.mo 35)],
    [(35,.it (sK (tk (L))) (sV eB (tk (L))) (List.range (tk (L)).length) (tk (L)).length js),(4,.box [.d (eB false)]),(3,.box ((zaK x).map .d)),(2,.box ((zaf m).map .d))])) [] (zg9 _ _) ?_ ?_ (fun i js hi hI2=> ?_)
   ·simp only[ZE,↓reduceIte,pE,pL,pA,pS,pM,pD,zap,zab,zaF,sMp,zaf,zak,zal,zaj]
   ·simp only[ZE,↓reduceIte,pE,pL,pA,pS,pM,pD,zap,zab,zaF,sMp,zaf,zak,zal,zaj]
   simp only[ZE,↓reduceIte,pE,pL,pA,pS,pM,pD];refine⟨by simp only[ZE,↓reduceIte,pE,pL,pA,pS,pM,pD],fun j hj hjs=> ?_,fun hall=> ?_⟩
   ·have hj':j<(tk (L)).length :=(by simpa [zdK]using hj);have hlt:=zi9 hI2 hj' hjs;have hk':=zoJ (tk (L)) j hj';have c2:=zs2 m (tk (L))[j].1 [1,3];simp only[ZE,↓reduceIte,pE,pL,pA,pS,pM,pD,zap,zab,zaF,sMp,zaf,zak,zal,zaj]at c2;simp(maxSteps:=4000000) only[ZE,↓reduceIte,pE,pL,pA,pS,pM,pD,hk',List.getLast?_singleton,Option.some_or,zap,zab,zaF,sMp,zaf,zak,zal,zaj,zep];refine EFn.p ?_;simp only[ZE,↓reduceIte,pE,pL,pA,pS,pM,pD,zap,zab,zaF,sMp,zaf,zak,zal,zaj];refine zar.i c2 ?_;simp only[ZE,↓reduceIte,pE,pL,pA,pS,pM,pD,zap,zab,zaF,sMp,zaf,zak,zal,zaj,zep];refine zd8 (fun hw=> ?_) (fun hw=>⟨hlt,_,zf8 hI2 hj' hjs hw,rfl⟩);have h1:(tk (L)).any (fun p=>zkY m p.1)=true:=List.any_eq_true.2 ⟨_,List.getElem_mem hj',hw⟩;have h2:zdO m e=true:=by
     simp only[zdO,ge,hst',Bool.true_and];simpa only[tk,List.any_map,Function.comp_def]using h1
    rw[hT h2]
   ·have hany:=zg8 hI2 (fun j hj=>hall j (by simpa [zdK]using hj));simp(maxSteps:=4000000) only[ZE,↓reduceIte,pE,pL,pA,pS,pM,pD,zap,zab,zaF,sMp,zaf,zak,zal,zaj];refine hI' ?_;simp only[zdO,ge,hst',Bool.true_and];simpa only[tk,List.any_map,Function.comp_def]using hany
 ·simp only[ZE,↓reduceIte,pE,pL,pA,pS,pM,pD,zN,qT,qG,qL,qH,qN,qB,qE,qO,qA,qM,zap,zab,zaF,sMp,zaf,zak,zal,zaj];have:zic m x=false:=List.any_eq_false.2 fun e he=>by
   rw[hI e (by rw[List.take_length]; exact he)]; simp
  rw[this]
/-! ### Maps whose keys are problems -/
theorem keyedP:zj0 Tryz.prog 221:=Go.Maps.Keyed.of_law (deep_law_laid (P:=Tryz.prog) (by kernel_rfl) (m:=3) (by omega) (Nat.le_of_ble_eq_true (by kernel_rfl)) (by kernel_rfl) (by kernel_rfl))
def zb7(p:Problem):Prop:=(Lit.int .i64 p.code).wf =true/\(Lit.int .i64 p.module).wf =true/\(Lit.int .i64 p.item).wf =true
def fsOf(P:Program)(t:TypeId):Option (List (TypeId×Nat)×Bool):=match P.underlying t with
 | some (.struct fs) => some (fs.toList.map fun f => (f.type,f.offset),fs.all (·.name != "_"))
 | _=>none
theorem fsP:fsOf Tryz.prog 221=some ([(3,0),(3,1),(3,2)],true):=by kernel_rfl
theorem keyP:Tryz.prog.keyType 221=true:=by kernel_rfl
theorem cellsP:Tryz.prog.cellsOf 221=3:=by kernel_rfl
theorem cellsI:Tryz.prog.cellsOf 3=1:=by kernel_rfl
theorem sizeT: ∃n,Tryz.prog.types.size=n+1:=⟨_,(by kernel_rfl:Tryz.prog.types.size=(Tryz.prog.types.size-1)+1)⟩
def zcU(p:Problem):D:=.agg (zbW p)
theorem zki{p:Problem}(h:zb7 p):zd3 Tryz.prog 221 (zcU p):=by
 have hf:=fsP;unfold fsOf at hf;split at hf
 ·rename_i fs hu;simp only[Option.some.injEq,Prod.mk.injEq]at hf;obtain⟨h1,h2⟩:=hf;obtain⟨n,hn⟩:=sizeT;have hmap: ∀(g:TypeId×Nat->Option (List Lit)),fs.toList.mapM (fun f=>g (f.type,f.offset))=List.mapM g [(3,0),(3,1),(3,2)]:=by
   intro g;rw[<-h1,List.mapM_map];rfl
  have one: ∀x,(Lit.int .i64 x).wf =true->Tryz.prog.keyLits (n+1) 3 [Value.int .i64 x]=some [Lit.int .i64 x]:=by
   intro x hx;simp[Program.keyLits,tU3,hx]
  have:Tryz.prog.keyLits (Tryz.prog.types.size+1) 221 [Value.int .i64 p.code,.int .i64 p.module,.int .i64 p.item]=some [.int .i64 p.code,.int .i64 p.module,.int .i64 p.item]:=by
   rw[hn];unfold Program.keyLits;rw[hu];simp only[List.length_cons,List.length_nil,cellsP,h2,and_self,if_true];have:=hmap (fun x=>Program.keyLits Tryz.prog (n+1) x.1 ((List.drop x.2 [Value.int .i64 p.code,.int .i64 p.module,.int .i64 p.item]).take (Tryz.prog.cellsOf x.1)));simp only at this;rw[this];simp[cellsI,one _ h.1,one _ h.2.1,one _ h.2.2]
  refine⟨.agg #[.int .i64 p.code,.int .i64 p.module,.int .i64 p.item],.string (keyBytes [.int .i64 p.code,.int .i64 p.module,.int .i64 p.item]),rfl,?_⟩;have hform:Value.formed Tryz.prog 221 (.agg #[.int .i64 p.code,.int .i64 p.module,.int .i64 p.item])=true:=by
   simp[Value.formed,hu,cellsP]
  unfold keyOf;rw[hu];simp only[keyP,hform,Bool.and_self,if_true];have hc:(Value.agg #[.int .i64 p.code,.int .i64 p.module,.int .i64 p.item]).cells.toList =[Value.int .i64 p.code,.int .i64 p.module,.int .i64 p.item]:=rfl;rw[hc,this];rfl
 ·cases hf
theorem zhk{p q:Problem}(h:zcU p=zcU q):p=q:=by
 obtain⟨a,b,c⟩:=p;obtain⟨a',b',c'⟩:=q;simp[zcU,zbW,eI]at h;simp[h]
def pK(l:List Problem):List D:=l.map zcU
def pV(l:List Problem):List D:=l.map fun _=>D.lit (.bool true)
def zaS(l:List Problem):AO:=.map (pK l) (pV l) (List.range l.length) l.length
def zuN(l:List Problem)(p:Problem):List Problem:=if p∈l then l else l++[p]
def zaO(l:List Problem)(b:Bool)(p:Problem):List Problem:=if b=true then zuN l p else l
theorem addP_in{l:List Problem}{p:Problem}(h: ∀q∈l,zb7 q)(hp:zb7 p): ∀q∈zuN l p,zb7 q:=by
 intro q hq;unfold zuN at hq;split at hq
 ·exact h q hq
 ·rcases List.mem_append.1 hq with hq | hq
  ·exact h q hq
  ·simp at hq; subst hq; exact hp
theorem za8{l:List Problem}{b:Bool}{p:Problem}(h: ∀q∈l,zb7 q)(hp:zb7 p): ∀q∈zaO l b p,zb7 q:=by
 unfold zaO;split
 ·exact addP_in h hp
 ·exact h
theorem pK_ok{l:List Problem}(h: ∀q∈l,zb7 q): ∀y∈pK l,zd3 Tryz.prog 221 y:=by
 intro y hy;obtain⟨q,hq,rfl⟩:=List.mem_map.1 hy;exact zki (h q hq)
theorem put_p(l:List Problem)(p:Problem):AO.map (zgQ (pK l) (zcU p)) (zjk (pK l) (pV l) (zcU p) (.lit (.bool true))) (zjs (pK l) (List.range l.length) l.length (zcU p)) (zjT (pK l) l.length (zcU p))=zaS (zuN l p):=by
 have hmem:zcU p∈pK l↔p∈l:=by
  constructor
  ·intro h;obtain⟨q,hq,e⟩:=List.mem_map.1 h;rw[<-zhk e]; exact hq
  ·intro h; exact List.mem_map_of_mem h
 unfold zuN;by_cases h:p∈l
 ·rw[if_pos h];have hlt:=zcO.2 (hmem.2 h);have hset:(pV l).set (zeN (pK l) (zcU p)) (D.lit (.bool true))=pV l:=by
   apply List.ext_getElem (by simp);intro i h1 h2;rw[List.getElem_set];split
   ·simp[pV]
   ·rfl
  simp only[zgQ,zjk,zjs,zjT,if_pos hlt,hset,zaS]
 ·rw[if_neg h];have hn:zcU p∉pK l:=fun h'=>h (hmem.1 h');have hk: ¬zeN (pK l) (zcU p)<(pK l).length :=fun h'=>hn (zcO.1 h');rw[zdt hn,zdu hn,zjs,zjT,if_neg hk,if_neg hk];simp only[zaS,pK,pV,List.map_append,List.map_cons,List.map_nil,List.length_append,List.length_cons,List.length_nil,Nat.zero_add,List.range_succ]
theorem za5(l:List Module)(F:List Problem)(hF: ∀q∈F,zb7 q)(b:Bool)(p:Problem)(hp:zb7 p):
  FnL Tryz.prog 198 [.agg [.d (zab l),.d (zaF l),.mo 1],.d (eI p.code),.d (eI p.module),.d (eI p.item),.d (eB b)] [(1,zaS F)] (fun V ol new=>V= .tup []/\ol=[(1,zaS (zaO F b p))]/\new=[]):=by
 have hput:=put_p F p;have hk:=zki hp;simp only[zcU,ZE,↓reduceIte,pE,pL,pA,pS,pM,pD,zaS]at hput hk;refine FnL.of_eC (own:=[]) (fun _=>[]) [0] zat Tryz.func198 rfl Tryz.call198 Tryz.ntmps198 (Nat.le_of_ble_eq_true rfl) Tryz.results198 ?_;cases b with
 | true=>
  simp(maxSteps:=4000000) only[ZE,↓reduceIte,pE,pL,pA,pS,pM,pD,zaS,keyedP,hk,hput,zap,zab,zaF,sMp,zaf,zak,zal,zaj];refine⟨pK_ok hF,[5],[],?_⟩;simp only[ZE,↓reduceIte,pE,pL,pA,pS,pM,pD,zaO,zap,zab,zaF,sMp,zaf,zak,zal,zaj]
 | false=>
  simp(maxSteps:=4000000) only[ZE,↓reduceIte,pE,pL,pA,pS,pM,pD,zaS,zap,zab,zaF,sMp,zaf,zak,zal,zaj];refine⟨[5],[],?_⟩;simp only[ZE,↓reduceIte,pE,pL,pA,pS,pM,pD,zaO,zap,zab,zaF,sMp,zaf,zak,zal,zaj]
/-! ### Heads -/
def ziA(ps:List Str)(k:Nat):Bool:= !zcX (ps.getD k emp).1 ||has (ps.take k) (ps.getD k emp)
def zjn(l:List Module)(i:Nat)(m:Module):Bool:= !zcX m.name.1|| !zcX m.clock.1||decide ((zcA l m.name).getD 0<(i:Int))
def zbX(l:List Module)(i:Nat)(m:Module):Bool:=zjn l i m||(List.range m.params.length).any (ziA m.params)
def loops(l:List Module)(i:Nat):Bool:=(zc1 l i (l.length+1) i []).1
def zhG(l:List Module)(i:Nat)(m:Module)(F:List Problem):List Problem:=zaO (zaO F (zbX l i m) ⟨1,i,-1⟩) (loops l i) ⟨7,i,-1⟩
theorem head_c(l:List Module)(i:Nat)(m:Module)(hok:D.ok (zab l))(hm:D.okL (zaC m))(hi:i<l.length)(F:List Problem)(hF: ∀q∈F,zb7 q):
  FnL Tryz.prog 149 [.agg [.d (zab l),.d (zaF l),.mo 1],.d (eI i),.d (.agg (zaC m))] [(1,zaS F)] (fun V ol new=>V= .tup []/\ol=[(1,zaS (zhG l i m F))]/\new=[]):=by
 have hll:l.length<=9223372036854775807:=(za9 hok).1;have hpl:m.params.length<=9223372036854775807:=by
  simp only[zaC,D.okL]at hm;exact(za9 hm.2.2.1).1
 refine FnL.of_eC (own:=[]) (fun i=>if i=2007 then []else if i=2008 then [.ord ⟨[(0,none),(1,none),(2,none),(3,none),(4,none),(5,some [0,1,2,3,4]),(6,some [0,1]),(7,some [])]⟩]else chL i) [0] zat Tryz.func149 rfl Tryz.call149 Tryz.ntmps149 (Nat.le_of_ble_eq_true rfl) Tryz.results149 ?_;have n1:=zdd m.name.1;have n2:=zdd m.clock.1;simp only[ZE,↓reduceIte,pE,pL,pA,pS,pM,pD]at n1 n2;simp(maxSteps:=4000000) only[ZE,↓reduceIte,pE,pL,pA,pS,pM,pD,zap,zab,zaF,sMp,zaf,zak,zal,zaj,zN,qT,qG,qL,qH,qN,qB,qE,qO,qA,qM,zaS];refine EFn.p ?_;simp only[ZE,↓reduceIte,pE,pL,pA,pS,pM,pD,zap,zab,zaF,sMp,zaf,zak,zal,zaj,zN,qT,qG,qL,qH,qN,qB,qE,qO,qA,qM];refine zar.i n1 ?_;simp only[ZE,↓reduceIte,pE,pL,pA,pS,pM,pD,zap,zab,zaF,sMp,zaf,zak,zal,zaj,zN,qT,qG,qL,qH,qN,qB,qE,qO,qA,qM];refine za3.i (fun _=>n2) ?_;simp only[ZE,↓reduceIte,pE,pL,pA,pS,pM,pD,zap,zab,zaF,sMp,zaf,zak,zal,zaj,zN,qT,qG,qL,qH,qN,qB,qE,qO,qA,qM,zoh];refine⟨fun _ y hy=>zcr _ y hy,?_⟩;refine za1 (fun i=>if i=2007 then []else if i=2008 then [.ord ⟨[(0,none),(1,none),(2,none),(3,none),(4,none),(5,some [0,1,2,3,4]),(6,some [0,1]),(7,some [])]⟩]else chL i) zat m.params.length (fun _=>True) (fun j=>([(0,.agg [.d (zab l),.d (zaF l),.mo 1]),(1,.d (eI i)),(3,.bp 3 0),(5,.bp 5 0),(6,.d (eB (zjn l i m||(List.range j).any (ziA m.params)))),(29,.d (zd5 m.params)),(30,.d (eI m.params.length)),(31,.d (eI j))],
  [(5,.box ((zaC m).map .d)),(3,.box [.d (zab l),.d (zaF l),.mo 1]),(1,zaS F)])) trivial ?_ ?_ (fun j hj _=> ?_)
 ·simp only[ZE,↓reduceIte,pE,pL,pA,pS,pM,pD,zap,zab,zaF,sMp,zaf,zak,zal,zaj,zjn,List.range_zero,List.any_nil,zcA];rfl
 ·simp only[ZE,↓reduceIte,pE,pL,pA,pS,pM,pD,zap,zab,zaF,sMp,zaf,zak,zal,zaj,zaS]
 rcases Nat.lt_or_ge j m.params.length with h | h
 ·have hw:=zaq (show j<9223372036854775807 by omega);have hg:m.params.getD j emp=m.params[j]:=by simp[List.getD,h]
  have n3:=zdd m.params[j].1;have c3:=zcd (m.params.take j) m.params[j];simp only[ZE,↓reduceIte,pE,pL,pA,pS,pM,pD]at n3 c3;obtain⟨B,hB⟩:=zX ((zjn l i m||(List.range j).any (ziA m.params)));have hs:(zjn l i m||(List.range (j+1)).any (ziA m.params))=(B|| !zcX m.params[j].1 ||has (m.params.take j) m.params[j]):=by
   rw[List.range_succ,List.any_append,<-Bool.or_assoc,hB];simp only[List.any_cons,List.any_nil,Bool.or_false,ziA,hg,Bool.or_assoc]
  rw[hB,hs];simp(maxSteps:=4000000) only[ZE,↓reduceIte,pE,pL,pA,pS,pM,pD,zaw h,zaa h,zai h,hw,zN,qT,qG,qL,qH,qN,qB,qE,qO,qA,qM,zap,zab,zaF,sMp,zaf,zak,zal,zaj,zaS];refine za3.i (fun _=>n3) ?_;simp only[ZE,↓reduceIte,pE,pL,pA,pS,pM,pD,zap,zab,zaF,sMp,zaf,zak,zal,zaj,zN,qT,qG,qL,qH,qN,qB,qE,qO,qA,qM,<-List.map_take,Nat.sub_zero];refine⟨fun _=>⟨fun e he=> ?_,by omega,by omega,by omega⟩,za3.i (fun _=>c3) ?_⟩
  ·obtain⟨q,_,rfl⟩:=List.mem_map.1 he; rfl
  simp only[ZE,↓reduceIte,pE,pL,pA,pS,pM,pD,zap,zab,zaF,sMp,zaf,zak,zal,zaj,zN,qT,qG,qL,qH,qN,qB,qE,qO,qA,qM];exact h
 ·have:j=m.params.length:=by omega
  subst this;have hbad:(zjn l i m||(List.range m.params.length).any (ziA m.params))=zbX l i m:=rfl;rw[hbad];have r1:=za5 l F hF (zbX l i m) ⟨1,i,-1⟩ ⟨rfl,zdi (by omega),rfl⟩;have r2:=za5 l (zaO F (zbX l i m) ⟨1,i,-1⟩) (za8 hF ⟨rfl,zdi (by omega),rfl⟩) (loops l i) ⟨7,i,-1⟩ ⟨rfl,zdi (by omega),rfl⟩;simp only[ZE,↓reduceIte,pE,pL,pA,pS,pM,pD,zap,zab,zaF,sMp,zaf,zak,zal,zaj,zaS,loops]at r1 r2;simp(maxSteps:=4000000) only[ZE,↓reduceIte,pE,pL,pA,pS,pM,pD,zaI h,zap,zab,zaF,sMp,zaf,zak,zal,zaj,zaS];refine EFn.g ⟨[(1,1)],_,_,_,r1,?_⟩;simp only[ZE,↓reduceIte,pE,pL,pA,pS,pM,pD,zap,zab,zaF,sMp,zaf,zak,zal,zaj];rintro V ol new ⟨rfl,rfl,rfl⟩;have rc:=reach_c l (pK (zaO F (zbX l i m) ⟨1,i,-1⟩)) (pV (zaO F (zbX l i m) ⟨1,i,-1⟩)) (List.range (zaO F (zbX l i m) ⟨1,i,-1⟩).length) (zaO F (zbX l i m) ⟨1,i,-1⟩).length i hok (l.length+1) i [] hi (by simp) (Nat.lt_succ_of_le (by
   simp[zev]))
  have e0:iK []=[]:=rfl;have e1:iV []=[]:=rfl;simp only[ZE,↓reduceIte,pE,pL,pA,pS,pM,pD,zap,zab,zaF,sMp,zaf,zak,zal,zaj,e0,e1,List.length_nil,List.range_zero]at rc;simp(maxSteps:=4000000) only[ZE,↓reduceIte,pE,pL,pA,pS,pM,pD,zap,zab,zaF,sMp,zaf,zak,zal,zaj];refine⟨by kernel_rfl,EFn.g ⟨[(0,60),(1,1)],_,_,_,rc,?_⟩⟩;simp only[ZE,↓reduceIte,pE,pL,pA,pS,pM,pD,zap,zab,zaF,sMp,zaf,zak,zal,zaj];rintro V ol new ⟨rfl,rfl,rfl⟩;simp only[ZE,↓reduceIte,pE,pL,pA,pS,pM,pD,zap,zab,zaF,sMp,zaf,zak,zal,zaj];refine EFn.g ⟨[(1,1)],_,_,_,r2,?_⟩;simp only[ZE,↓reduceIte,pE,pL,pA,pS,pM,pD,zap,zab,zaF,sMp,zaf,zak,zal,zaj];rintro V ol new ⟨rfl,rfl,rfl⟩;simp only[ZE,↓reduceIte,pE,pL,pA,pS,pM,pD,zap,zab,zaF,sMp,zaf,zak,zal,zaj];refine⟨[3,5,60],[],?_⟩;simp only[ZE,↓reduceIte,pE,pL,pA,pS,pM,pD,zhG,loops]
set_option maxHeartbeats 20000000
def zb8(x y:Item):Bool:=zaW y.kind.1&&decide (y.name=x.name)
theorem zg1(x y:Item):FnP Tryz.prog 200 [.agg (zaK y),.ptr (zaK x)] (.d (eB (zb8 x y))) []:=by
 refine FnP.of_eC (own:=[]) chL zat Tryz.func200 rfl Tryz.call200 Tryz.ntmps200 (Nat.le_of_ble_eq_true rfl) Tryz.results200 (fun hok=> ?_);have dc:=zgV y.kind.1;simp only[ZE,↓reduceIte,pE,pL,pA,pS,pM,pD]at dc;simp(maxSteps:=4000000) only[ZE,↓reduceIte,pE,pL,pA,pS,pM,pD,zap,zab,zaF,sMp,zaf,zak,zal,zaj];refine EFn.p ?_;simp only[ZE,↓reduceIte,pE,pL,pA,pS,pM,pD];refine zar.i dc ?_;simp only[ZE,↓reduceIte,pE,pL,pA,pS,pM,pD,zb8]
def zaT(m:Module)(k:Nat)(x:Item):Bool:=(m.items.take k).any (zb8 x)|| !zcX x.name.1||has m.params x.name
def zex(i k:Nat)(m:Module)(x:Item)(F:List Problem):List Problem:=if zaW x.kind.1=true then zaO F (zaT m k x) ⟨1,i,k⟩else F
def zgm(l:List Module)(i k:Nat)(m:Module)(x:Item)(F:List Problem):List Problem:=
 if x.kind.1=5 then zaO F (has (zbN m [x.a]) x.name) ⟨4,i,k⟩
 else if x.kind.1=1 then zaO F ((zeZ l m x.name).1 !=1||(zeZ l m x.name).2 !=0) ⟨5,i,k⟩
 else if x.kind.1=2 then zaO F ((zeZ l m x.name).1 !=0||(zeZ l m x.name).2 !=1) ⟨5,i,k⟩
 else if x.kind.1=3 then zaO F ((zeZ l m x.name).1 !=1||(zeZ l m x.name).2 !=1) ⟨5,i,k⟩
 else if x.kind.1=9 then zaO F (zeR l x) ⟨6,i,k⟩
 else if x.kind.1=7 then zaO F (zic m x) ⟨8,i,k⟩else F
def zdo(l:List Module)(i k:Nat)(m:Module)(x:Item)(F:List Problem):List Problem:=zgm l i k m x (zaO (zaO (zex i k m x F) (zay x) ⟨2,i,k⟩) (zdp l m x) ⟨3,i,k⟩)
theorem zdD(x:Item):(zaK x).length =35:=by simp[zaK,zgL,zb6,zib]
def itL(i:Nat):List Gh:=if i=2005 then [.chn,.ord ⟨[(0,none),(1,none),(2,none),(3,none),(4,none),(5,none),(6,none),(7,none),(8,none),(9,none),(10,none),(11,none),(12,none),(13,none),(14,none),(15,none),(16,none),(17,none),(18,some [])]⟩]else if i=2006 then [.chn,.ord ⟨[(0,none),(1,none),(2,none),(3,none),(4,none),(5,some [])]⟩]else if i=2007 then [.chn,.ord ⟨[(0,none),(1,none),(2,none),(3,none),(4,none),(5,none),(6,none),(7,some [])]⟩]else if i=2011 then [.chn,.ord ⟨[(0,none),(1,none),(2,none),(3,none),(4,none),(5,none),(6,none),(7,none),(8,none),(9,none),(10,none),(11,some [])]⟩]else if i=2019 then [.chn,.ord ⟨[(0,none),(1,none),(2,none),(3,none),(4,none),(5,none),(6,some [])]⟩]else if i=2021 then [.chn,.ord ⟨[(0,none),(1,none),(2,none),(3,none),(4,none),(5,none),(6,some [])]⟩]else chL i
theorem item_c(l:List Module)(i k:Nat)(m:Module)(x:Item)(hok:D.ok (zab l))(hi:i<l.length)(hm:l[i]=m)(hk:k<m.items.length)(hx:m.items[k]=x)(hn:(zaX x).length <=2000000)(F:List Problem)(hF: ∀q∈F,zb7 q):
  FnL Tryz.prog 150 [.agg [.d (zab l),.d (zaF l),.mo 1],.d (eI i),.d (eI k)] [(1,zaS F)] (fun V ol new=>V= .tup []/\ol=[(1,zaS (zdo l i k m x F))]/\new=[]):=by
 have hll:l.length<=9223372036854775807:=(za9 hok).1;have hml:m.items.length<=9223372036854775807:=by
  have h2:=(za9 hok).2 m (hm▸List.getElem_mem hi);simp only[zaf,D.okL]at h2;exact(za9 h2.2.2.2.1).1
 have wi:=zdi (show i<=9223372036854775807 by omega);have wk:=zdi (show k<=9223372036854775807 by omega);have dc:=zgV x.kind.1;have mc:=zor x;have hin: ∀c:Int,(Lit.int .i64 c).wf =true->zb7 ⟨c,i,k⟩:=fun c hc=>⟨hc,wi,wk⟩;by_cases e:x.kind.1=5
 ·have hd:zaW x.kind.1=true:=by rw[e]; rfl
  have hd':zaW 5=true:=rfl;have hD:zex i k m x F=zaO F (zaT m k x) ⟨1,i,k⟩:=if_pos hd;have hI:zdo l i k m x F=zaO (zaO (zaO (zaO F (zaT m k x) ⟨1,i,k⟩) (zay x) ⟨2,i,k⟩) (zdp l m x) ⟨3,i,k⟩) (has (zbN m [x.a]) x.name) ⟨4,i,k⟩:=by rw[zdo,hD,zgm]; simp[e]
  rw[hI];refine FnL.of_eC (own:=[]) itL [0] zat Tryz.func150 rfl Tryz.call150 Tryz.ntmps150 (Nat.le_of_ble_eq_true rfl) Tryz.results150 ?_;simp only[ZE,↓reduceIte,pE,pL,pA,pS,pM,pD,hd,e]at dc;simp(maxSteps:=4000000) only[ZE,↓reduceIte,pE,pL,pA,pS,pM,pD,zap,zab,zaF,sMp,zaf,zak,zal,zaj,zN,qT,qG,qL,qH,qN,qB,qE,qO,qA,qM,zaS,itL.eq_1,zai hi,zaa hi,hm,zai hk,zaa hk,hx,e];refine EFn.p ?_;simp only[ZE,↓reduceIte,pE,pL,pA,pS,pM,pD,zap,zab,zaF,sMp,zaf,zak,zal,zaj,zN,qT,qG,qL,qH,qN,qB,qE,qO,qA,qM,zaS,itL.eq_1];refine zar.i dc ?_;simp only[ZE,↓reduceIte,pE,pL,pA,pS,pM,pD,zap,zab,zaF,sMp,zaf,zak,zal,zaj,zN,qT,qG,qL,qH,qN,qB,qE,qO,qA,qM,zaS,itL.eq_1,<-List.map_take,Nat.sub_zero,hd'];have tc:=zcI (m.items.take k) 200 (.ptr (zaK x)) (zb8 x) (fun y _=>zg1 x y);have n1:=zdd x.name.1;have c1:=zcd m.params x.name;have r1:=za5 l F hF (zaT m k x) ⟨1,i,k⟩ (hin 1 rfl);have G1:=za8 (b:=zaT m k x) hF (hin 1 rfl);obtain⟨F1,hF1⟩:=zX (zaO F (zaT m k x) ⟨1,i,k⟩);rw[hF1]at r1 G1 ⊢;simp only[ZE,↓reduceIte,pE,pL,pA,pS,pM,pD,e]at tc n1 c1;simp only[ZE,↓reduceIte,pE,pL,pA,pS,pM,pD,zap,zab,zaF,sMp,zaf,zak,zal,zaj,zN,qT,qG,qL,qH,qN,qB,qE,qO,qA,qM,zaS,itL.eq_1,zaT]at r1;refine⟨⟨fun y hy=>(by obtain⟨q,_,rfl⟩:=List.mem_map.1 hy; exact zdD q),by omega,by omega,by omega⟩,EFn.p ?_⟩;simp only[ZE,↓reduceIte,pE,pL,pA,pS,pM,pD,zap,zab,zaF,sMp,zaf,zak,zal,zaj,zN,qT,qG,qL,qH,qN,qB,qE,qO,qA,qM,zaS,itL.eq_1,e];refine zar.i tc ?_;simp only[ZE,↓reduceIte,pE,pL,pA,pS,pM,pD,zap,zab,zaF,sMp,zaf,zak,zal,zaj,zN,qT,qG,qL,qH,qN,qB,qE,qO,qA,qM,zaS,itL.eq_1,e];refine⟨by kernel_rfl,?_⟩;refine za3.i (fun _=>n1) ?_;simp only[ZE,↓reduceIte,pE,pL,pA,pS,pM,pD,zap,zab,zaF,sMp,zaf,zak,zal,zaj,zN,qT,qG,qL,qH,qN,qB,qE,qO,qA,qM,zaS,itL.eq_1,e];refine za3.i (fun _=>c1) ?_;simp only[ZE,↓reduceIte,pE,pL,pA,pS,pM,pD,zap,zab,zaF,sMp,zaf,zak,zal,zaj,zN,qT,qG,qL,qH,qN,qB,qE,qO,qA,qM,zaS,itL.eq_1,e];refine EFn.g ⟨[(1,1)],_,_,_,r1,?_⟩;simp only[ZE,↓reduceIte,pE,pL,pA,pS,pM,pD,zap,zab,zaF,sMp,zaf,zak,zal,zaj,zN,qT,qG,qL,qH,qN,qB,qE,qO,qA,qM,zaS,itL.eq_1];rintro V ol new ⟨rfl,rfl,rfl⟩;have r2:=za5 l F1 G1 (zay x) ⟨2,i,k⟩ (hin 2 rfl);have G2:=za8 (b:=zay x) G1 (hin 2 rfl);have lc:=zhI l (pK (zaO F1 (zay x) ⟨2,i,k⟩)) (pV (zaO F1 (zay x) ⟨2,i,k⟩)) (List.range (zaO F1 (zay x) ⟨2,i,k⟩).length) (zaO F1 (zay x) ⟨2,i,k⟩).length m x hn;have r3:=za5 l _ G2 (zdp l m x) ⟨3,i,k⟩ (hin 3 rfl);have G3:=za8 (b:=zdp l m x) G2 (hin 3 rfl);obtain⟨F3,hF3⟩:=zX (zaO (zaO F1 (zay x) ⟨2,i,k⟩) (zdp l m x) ⟨3,i,k⟩);rw[hF3]at r3 G3 ⊢;have ec:=zhD l (pK F3) (pV F3) (List.range F3.length) F3.length m x.name;simp only[ZE,↓reduceIte,pE,pL,pA,pS,pM,pD,zap,zab,zaF,sMp,zaf,zak,zal,zaj,zN,qT,qG,qL,qH,qN,qB,qE,qO,qA,qM,zaS,itL.eq_1,e]at r2 lc r3 ec mc
  try simp only[ZE,↓reduceIte,pE,pL,pA,pS,pM,pD,zap,zab,zaF,sMp,zaf,zak,zal,zaj,zN,qT,qG,qL,qH,qN,qB,qE,qO,qA,qM,zaS,itL.eq_1,e]
  refine⟨by kernel_rfl,?_⟩;refine za3.i (fun _=>mc) ?_;simp only[ZE,↓reduceIte,pE,pL,pA,pS,pM,pD,zap,zab,zaF,sMp,zaf,zak,zal,zaj,zN,qT,qG,qL,qH,qN,qB,qE,qO,qA,qM,zaS,itL.eq_1,e];refine EFn.g ⟨[(1,1)],_,_,_,r2,?_⟩;simp only[ZE,↓reduceIte,pE,pL,pA,pS,pM,pD,zap,zab,zaF,sMp,zaf,zak,zal,zaj,zN,qT,qG,qL,qH,qN,qB,qE,qO,qA,qM,zaS,itL.eq_1];rintro V ol new ⟨rfl,rfl,rfl⟩;simp only[ZE,↓reduceIte,pE,pL,pA,pS,pM,pD,zap,zab,zaF,sMp,zaf,zak,zal,zaj,zN,qT,qG,qL,qH,qN,qB,qE,qO,qA,qM,zaS,itL.eq_1,e];refine⟨by kernel_rfl,?_⟩;refine za3.i (fun _=>lc) ?_;simp only[ZE,↓reduceIte,pE,pL,pA,pS,pM,pD,zap,zab,zaF,sMp,zaf,zak,zal,zaj,zN,qT,qG,qL,qH,qN,qB,qE,qO,qA,qM,zaS,itL.eq_1,e];refine EFn.g ⟨[(1,1)],_,_,_,r3,?_⟩;simp only[ZE,↓reduceIte,pE,pL,pA,pS,pM,pD,zap,zab,zaF,sMp,zaf,zak,zal,zaj,zN,qT,qG,qL,qH,qN,qB,qE,qO,qA,qM,zaS,itL.eq_1];rintro V ol new ⟨rfl,rfl,rfl⟩;simp only[ZE,↓reduceIte,pE,pL,pA,pS,pM,pD,zap,zab,zaF,sMp,zaf,zak,zal,zaj,zN,qT,qG,qL,qH,qN,qB,qE,qO,qA,qM,zaS,itL.eq_1,e];refine EFn.p ?_;simp only[ZE,↓reduceIte,pE,pL,pA,pS,pM,pD,zap,zab,zaF,sMp,zaf,zak,zal,zaj,zN,qT,qG,qL,qH,qN,qB,qE,qO,qA,qM,zaS,itL.eq_1,e];refine zar.i ec ?_;simp only[ZE,↓reduceIte,pE,pL,pA,pS,pM,pD,zap,zab,zaF,sMp,zaf,zak,zal,zaj,zN,qT,qG,qL,qH,qN,qB,qE,qO,qA,qM,zaS,itL.eq_1,e];have r4:=za5 l F3 G3 (has (zbN m [x.a]) x.name) ⟨4,i,k⟩ (hin 4 rfl);simp only[ZE,↓reduceIte,pE,pL,pA,pS,pM,pD,zap,zab,zaF,sMp,zaf,zak,zal,zaj,zN,qT,qG,qL,qH,qN,qB,qE,qO,qA,qM,zaS,itL.eq_1]at r4;have pc:=zmm m [x.a];simp only[ZE,↓reduceIte,pE,pL,pA,pS,pM,pD,zap,zab,zaF,sMp,zaf,zak,zal,zaj,zN,qT,qG,qL,qH,qN,qB,qE,qO,qA,qM,zaS,itL.eq_1,List.map_cons,List.map_nil]at pc;refine⟨by kernel_rfl,za3.i (fun _=>pc) ?_⟩;simp only[ZE,↓reduceIte,pE,pL,pA,pS,pM,pD,zap,zab,zaF,sMp,zaf,zak,zal,zaj,zN,qT,qG,qL,qH,qN,qB,qE,qO,qA,qM,zaS,itL.eq_1,zlf];refine⟨fun y hy=>zcr _ y hy,?_⟩;refine EFn.g ⟨[(1,1)],_,_,_,r4,?_⟩;simp only[ZE,↓reduceIte,pE,pL,pA,pS,pM,pD,zap,zab,zaF,sMp,zaf,zak,zal,zaj,zN,qT,qG,qL,qH,qN,qB,qE,qO,qA,qM,zaS,itL.eq_1];rintro V ol new ⟨rfl,rfl,rfl⟩;simp only[ZE,↓reduceIte,pE,pL,pA,pS,pM,pD,zap,zab,zaF,sMp,zaf,zak,zal,zaj,zN,qT,qG,qL,qH,qN,qB,qE,qO,qA,qM,zaS,itL.eq_1];refine⟨[3,6,7],[],?_⟩;simp only[ZE,↓reduceIte,pE,pL,pA,pS,pM,pD]
 have n5:=e;by_cases e:x.kind.1=1
 ·have hd:zaW x.kind.1=true:=by rw[e]; rfl
  have hd':zaW 1=true:=rfl;have hD:zex i k m x F=zaO F (zaT m k x) ⟨1,i,k⟩:=if_pos hd;have hI:zdo l i k m x F=zaO (zaO (zaO (zaO F (zaT m k x) ⟨1,i,k⟩) (zay x) ⟨2,i,k⟩) (zdp l m x) ⟨3,i,k⟩) ((zeZ l m x.name).1 !=1||(zeZ l m x.name).2 !=0) ⟨5,i,k⟩:=by rw[zdo,hD,zgm]; simp[e]
  rw[hI];refine FnL.of_eC (own:=[]) itL [0] zat Tryz.func150 rfl Tryz.call150 Tryz.ntmps150 (Nat.le_of_ble_eq_true rfl) Tryz.results150 ?_;simp only[ZE,↓reduceIte,pE,pL,pA,pS,pM,pD,hd,e]at dc;simp(maxSteps:=4000000) only[ZE,↓reduceIte,pE,pL,pA,pS,pM,pD,zap,zab,zaF,sMp,zaf,zak,zal,zaj,zN,qT,qG,qL,qH,qN,qB,qE,qO,qA,qM,zaS,itL.eq_1,zai hi,zaa hi,hm,zai hk,zaa hk,hx,e];refine EFn.p ?_;simp only[ZE,↓reduceIte,pE,pL,pA,pS,pM,pD,zap,zab,zaF,sMp,zaf,zak,zal,zaj,zN,qT,qG,qL,qH,qN,qB,qE,qO,qA,qM,zaS,itL.eq_1];refine zar.i dc ?_;simp only[ZE,↓reduceIte,pE,pL,pA,pS,pM,pD,zap,zab,zaF,sMp,zaf,zak,zal,zaj,zN,qT,qG,qL,qH,qN,qB,qE,qO,qA,qM,zaS,itL.eq_1,<-List.map_take,Nat.sub_zero,hd'];have tc:=zcI (m.items.take k) 200 (.ptr (zaK x)) (zb8 x) (fun y _=>zg1 x y);have n1:=zdd x.name.1;have c1:=zcd m.params x.name;have r1:=za5 l F hF (zaT m k x) ⟨1,i,k⟩ (hin 1 rfl);have G1:=za8 (b:=zaT m k x) hF (hin 1 rfl);obtain⟨F1,hF1⟩:=zX (zaO F (zaT m k x) ⟨1,i,k⟩);rw[hF1]at r1 G1 ⊢;simp only[ZE,↓reduceIte,pE,pL,pA,pS,pM,pD,e]at tc n1 c1;simp only[ZE,↓reduceIte,pE,pL,pA,pS,pM,pD,zap,zab,zaF,sMp,zaf,zak,zal,zaj,zN,qT,qG,qL,qH,qN,qB,qE,qO,qA,qM,zaS,itL.eq_1,zaT]at r1;refine⟨⟨fun y hy=>(by obtain⟨q,_,rfl⟩:=List.mem_map.1 hy; exact zdD q),by omega,by omega,by omega⟩,EFn.p ?_⟩;simp only[ZE,↓reduceIte,pE,pL,pA,pS,pM,pD,zap,zab,zaF,sMp,zaf,zak,zal,zaj,zN,qT,qG,qL,qH,qN,qB,qE,qO,qA,qM,zaS,itL.eq_1,e];refine zar.i tc ?_;simp only[ZE,↓reduceIte,pE,pL,pA,pS,pM,pD,zap,zab,zaF,sMp,zaf,zak,zal,zaj,zN,qT,qG,qL,qH,qN,qB,qE,qO,qA,qM,zaS,itL.eq_1,e];refine⟨by kernel_rfl,?_⟩;refine za3.i (fun _=>n1) ?_;simp only[ZE,↓reduceIte,pE,pL,pA,pS,pM,pD,zap,zab,zaF,sMp,zaf,zak,zal,zaj,zN,qT,qG,qL,qH,qN,qB,qE,qO,qA,qM,zaS,itL.eq_1,e];refine za3.i (fun _=>c1) ?_;simp only[ZE,↓reduceIte,pE,pL,pA,pS,pM,pD,zap,zab,zaF,sMp,zaf,zak,zal,zaj,zN,qT,qG,qL,qH,qN,qB,qE,qO,qA,qM,zaS,itL.eq_1,e];refine EFn.g ⟨[(1,1)],_,_,_,r1,?_⟩;simp only[ZE,↓reduceIte,pE,pL,pA,pS,pM,pD,zap,zab,zaF,sMp,zaf,zak,zal,zaj,zN,qT,qG,qL,qH,qN,qB,qE,qO,qA,qM,zaS,itL.eq_1];rintro V ol new ⟨rfl,rfl,rfl⟩;have r2:=za5 l F1 G1 (zay x) ⟨2,i,k⟩ (hin 2 rfl);have G2:=za8 (b:=zay x) G1 (hin 2 rfl);have lc:=zhI l (pK (zaO F1 (zay x) ⟨2,i,k⟩)) (pV (zaO F1 (zay x) ⟨2,i,k⟩)) (List.range (zaO F1 (zay x) ⟨2,i,k⟩).length) (zaO F1 (zay x) ⟨2,i,k⟩).length m x hn;have r3:=za5 l _ G2 (zdp l m x) ⟨3,i,k⟩ (hin 3 rfl);have G3:=za8 (b:=zdp l m x) G2 (hin 3 rfl);obtain⟨F3,hF3⟩:=zX (zaO (zaO F1 (zay x) ⟨2,i,k⟩) (zdp l m x) ⟨3,i,k⟩);rw[hF3]at r3 G3 ⊢;have ec:=zhD l (pK F3) (pV F3) (List.range F3.length) F3.length m x.name;simp only[ZE,↓reduceIte,pE,pL,pA,pS,pM,pD,zap,zab,zaF,sMp,zaf,zak,zal,zaj,zN,qT,qG,qL,qH,qN,qB,qE,qO,qA,qM,zaS,itL.eq_1,e]at r2 lc r3 ec mc
  try simp only[ZE,↓reduceIte,pE,pL,pA,pS,pM,pD,zap,zab,zaF,sMp,zaf,zak,zal,zaj,zN,qT,qG,qL,qH,qN,qB,qE,qO,qA,qM,zaS,itL.eq_1,e]
  refine⟨by kernel_rfl,?_⟩;refine za3.i (fun _=>mc) ?_;simp only[ZE,↓reduceIte,pE,pL,pA,pS,pM,pD,zap,zab,zaF,sMp,zaf,zak,zal,zaj,zN,qT,qG,qL,qH,qN,qB,qE,qO,qA,qM,zaS,itL.eq_1,e];refine EFn.g ⟨[(1,1)],_,_,_,r2,?_⟩;simp only[ZE,↓reduceIte,pE,pL,pA,pS,pM,pD,zap,zab,zaF,sMp,zaf,zak,zal,zaj,zN,qT,qG,qL,qH,qN,qB,qE,qO,qA,qM,zaS,itL.eq_1];rintro V ol new ⟨rfl,rfl,rfl⟩;simp only[ZE,↓reduceIte,pE,pL,pA,pS,pM,pD,zap,zab,zaF,sMp,zaf,zak,zal,zaj,zN,qT,qG,qL,qH,qN,qB,qE,qO,qA,qM,zaS,itL.eq_1,e];refine⟨by kernel_rfl,?_⟩;refine za3.i (fun _=>lc) ?_;simp only[ZE,↓reduceIte,pE,pL,pA,pS,pM,pD,zap,zab,zaF,sMp,zaf,zak,zal,zaj,zN,qT,qG,qL,qH,qN,qB,qE,qO,qA,qM,zaS,itL.eq_1,e];refine EFn.g ⟨[(1,1)],_,_,_,r3,?_⟩;simp only[ZE,↓reduceIte,pE,pL,pA,pS,pM,pD,zap,zab,zaF,sMp,zaf,zak,zal,zaj,zN,qT,qG,qL,qH,qN,qB,qE,qO,qA,qM,zaS,itL.eq_1];rintro V ol new ⟨rfl,rfl,rfl⟩;simp only[ZE,↓reduceIte,pE,pL,pA,pS,pM,pD,zap,zab,zaF,sMp,zaf,zak,zal,zaj,zN,qT,qG,qL,qH,qN,qB,qE,qO,qA,qM,zaS,itL.eq_1,e];refine EFn.p ?_;simp only[ZE,↓reduceIte,pE,pL,pA,pS,pM,pD,zap,zab,zaF,sMp,zaf,zak,zal,zaj,zN,qT,qG,qL,qH,qN,qB,qE,qO,qA,qM,zaS,itL.eq_1,e];refine zar.i ec ?_;simp only[ZE,↓reduceIte,pE,pL,pA,pS,pM,pD,zap,zab,zaF,sMp,zaf,zak,zal,zaj,zN,qT,qG,qL,qH,qN,qB,qE,qO,qA,qM,zaS,itL.eq_1,e];have r4:=za5 l F3 G3 ((zeZ l m x.name).1 !=1||(zeZ l m x.name).2 !=0) ⟨5,i,k⟩ (hin 5 rfl);simp only[ZE,↓reduceIte,pE,pL,pA,pS,pM,pD,zap,zab,zaF,sMp,zaf,zak,zal,zaj,zN,qT,qG,qL,qH,qN,qB,qE,qO,qA,qM,zaS,itL.eq_1]at r4;refine EFn.g ⟨[(1,1)],_,_,_,r4,?_⟩;simp only[ZE,↓reduceIte,pE,pL,pA,pS,pM,pD,zap,zab,zaF,sMp,zaf,zak,zal,zaj,zN,qT,qG,qL,qH,qN,qB,qE,qO,qA,qM,zaS,itL.eq_1];rintro V ol new ⟨rfl,rfl,rfl⟩;simp only[ZE,↓reduceIte,pE,pL,pA,pS,pM,pD,zap,zab,zaF,sMp,zaf,zak,zal,zaj,zN,qT,qG,qL,qH,qN,qB,qE,qO,qA,qM,zaS,itL.eq_1];refine⟨[3,6,7],[],?_⟩;simp only[ZE,↓reduceIte,pE,pL,pA,pS,pM,pD]
 have n1:=e;by_cases e:x.kind.1=2
 ·have hd:zaW x.kind.1=true:=by rw[e]; rfl
  have hd':zaW 2=true:=rfl;have hD:zex i k m x F=zaO F (zaT m k x) ⟨1,i,k⟩:=if_pos hd;have hI:zdo l i k m x F=zaO (zaO (zaO (zaO F (zaT m k x) ⟨1,i,k⟩) (zay x) ⟨2,i,k⟩) (zdp l m x) ⟨3,i,k⟩) ((zeZ l m x.name).1 !=0||(zeZ l m x.name).2 !=1) ⟨5,i,k⟩:=by rw[zdo,hD,zgm]; simp[e]
  rw[hI];refine FnL.of_eC (own:=[]) itL [0] zat Tryz.func150 rfl Tryz.call150 Tryz.ntmps150 (Nat.le_of_ble_eq_true rfl) Tryz.results150 ?_;simp only[ZE,↓reduceIte,pE,pL,pA,pS,pM,pD,hd,e]at dc;simp(maxSteps:=4000000) only[ZE,↓reduceIte,pE,pL,pA,pS,pM,pD,zap,zab,zaF,sMp,zaf,zak,zal,zaj,zN,qT,qG,qL,qH,qN,qB,qE,qO,qA,qM,zaS,itL.eq_1,zai hi,zaa hi,hm,zai hk,zaa hk,hx,e];refine EFn.p ?_;simp only[ZE,↓reduceIte,pE,pL,pA,pS,pM,pD,zap,zab,zaF,sMp,zaf,zak,zal,zaj,zN,qT,qG,qL,qH,qN,qB,qE,qO,qA,qM,zaS,itL.eq_1];refine zar.i dc ?_;simp only[ZE,↓reduceIte,pE,pL,pA,pS,pM,pD,zap,zab,zaF,sMp,zaf,zak,zal,zaj,zN,qT,qG,qL,qH,qN,qB,qE,qO,qA,qM,zaS,itL.eq_1,<-List.map_take,Nat.sub_zero,hd'];have tc:=zcI (m.items.take k) 200 (.ptr (zaK x)) (zb8 x) (fun y _=>zg1 x y);have n1:=zdd x.name.1;have c1:=zcd m.params x.name;have r1:=za5 l F hF (zaT m k x) ⟨1,i,k⟩ (hin 1 rfl);have G1:=za8 (b:=zaT m k x) hF (hin 1 rfl);obtain⟨F1,hF1⟩:=zX (zaO F (zaT m k x) ⟨1,i,k⟩);rw[hF1]at r1 G1 ⊢;simp only[ZE,↓reduceIte,pE,pL,pA,pS,pM,pD,e]at tc n1 c1;simp only[ZE,↓reduceIte,pE,pL,pA,pS,pM,pD,zap,zab,zaF,sMp,zaf,zak,zal,zaj,zN,qT,qG,qL,qH,qN,qB,qE,qO,qA,qM,zaS,itL.eq_1,zaT]at r1;refine⟨⟨fun y hy=>(by obtain⟨q,_,rfl⟩:=List.mem_map.1 hy; exact zdD q),by omega,by omega,by omega⟩,EFn.p ?_⟩;simp only[ZE,↓reduceIte,pE,pL,pA,pS,pM,pD,zap,zab,zaF,sMp,zaf,zak,zal,zaj,zN,qT,qG,qL,qH,qN,qB,qE,qO,qA,qM,zaS,itL.eq_1,e];refine zar.i tc ?_;simp only[ZE,↓reduceIte,pE,pL,pA,pS,pM,pD,zap,zab,zaF,sMp,zaf,zak,zal,zaj,zN,qT,qG,qL,qH,qN,qB,qE,qO,qA,qM,zaS,itL.eq_1,e];refine⟨by kernel_rfl,?_⟩;refine za3.i (fun _=>n1) ?_;simp only[ZE,↓reduceIte,pE,pL,pA,pS,pM,pD,zap,zab,zaF,sMp,zaf,zak,zal,zaj,zN,qT,qG,qL,qH,qN,qB,qE,qO,qA,qM,zaS,itL.eq_1,e];refine za3.i (fun _=>c1) ?_;simp only[ZE,↓reduceIte,pE,pL,pA,pS,pM,pD,zap,zab,zaF,sMp,zaf,zak,zal,zaj,zN,qT,qG,qL,qH,qN,qB,qE,qO,qA,qM,zaS,itL.eq_1,e];refine EFn.g ⟨[(1,1)],_,_,_,r1,?_⟩;simp only[ZE,↓reduceIte,pE,pL,pA,pS,pM,pD,zap,zab,zaF,sMp,zaf,zak,zal,zaj,zN,qT,qG,qL,qH,qN,qB,qE,qO,qA,qM,zaS,itL.eq_1];rintro V ol new ⟨rfl,rfl,rfl⟩;have r2:=za5 l F1 G1 (zay x) ⟨2,i,k⟩ (hin 2 rfl);have G2:=za8 (b:=zay x) G1 (hin 2 rfl);have lc:=zhI l (pK (zaO F1 (zay x) ⟨2,i,k⟩)) (pV (zaO F1 (zay x) ⟨2,i,k⟩)) (List.range (zaO F1 (zay x) ⟨2,i,k⟩).length) (zaO F1 (zay x) ⟨2,i,k⟩).length m x hn;have r3:=za5 l _ G2 (zdp l m x) ⟨3,i,k⟩ (hin 3 rfl);have G3:=za8 (b:=zdp l m x) G2 (hin 3 rfl);obtain⟨F3,hF3⟩:=zX (zaO (zaO F1 (zay x) ⟨2,i,k⟩) (zdp l m x) ⟨3,i,k⟩);rw[hF3]at r3 G3 ⊢;have ec:=zhD l (pK F3) (pV F3) (List.range F3.length) F3.length m x.name;simp only[ZE,↓reduceIte,pE,pL,pA,pS,pM,pD,zap,zab,zaF,sMp,zaf,zak,zal,zaj,zN,qT,qG,qL,qH,qN,qB,qE,qO,qA,qM,zaS,itL.eq_1,e]at r2 lc r3 ec mc
  try simp only[ZE,↓reduceIte,pE,pL,pA,pS,pM,pD,zap,zab,zaF,sMp,zaf,zak,zal,zaj,zN,qT,qG,qL,qH,qN,qB,qE,qO,qA,qM,zaS,itL.eq_1,e]
  refine⟨by kernel_rfl,?_⟩;refine za3.i (fun _=>mc) ?_;simp only[ZE,↓reduceIte,pE,pL,pA,pS,pM,pD,zap,zab,zaF,sMp,zaf,zak,zal,zaj,zN,qT,qG,qL,qH,qN,qB,qE,qO,qA,qM,zaS,itL.eq_1,e];refine EFn.g ⟨[(1,1)],_,_,_,r2,?_⟩;simp only[ZE,↓reduceIte,pE,pL,pA,pS,pM,pD,zap,zab,zaF,sMp,zaf,zak,zal,zaj,zN,qT,qG,qL,qH,qN,qB,qE,qO,qA,qM,zaS,itL.eq_1];rintro V ol new ⟨rfl,rfl,rfl⟩;simp only[ZE,↓reduceIte,pE,pL,pA,pS,pM,pD,zap,zab,zaF,sMp,zaf,zak,zal,zaj,zN,qT,qG,qL,qH,qN,qB,qE,qO,qA,qM,zaS,itL.eq_1,e];refine⟨by kernel_rfl,?_⟩;refine za3.i (fun _=>lc) ?_;simp only[ZE,↓reduceIte,pE,pL,pA,pS,pM,pD,zap,zab,zaF,sMp,zaf,zak,zal,zaj,zN,qT,qG,qL,qH,qN,qB,qE,qO,qA,qM,zaS,itL.eq_1,e];refine EFn.g ⟨[(1,1)],_,_,_,r3,?_⟩;simp only[ZE,↓reduceIte,pE,pL,pA,pS,pM,pD,zap,zab,zaF,sMp,zaf,zak,zal,zaj,zN,qT,qG,qL,qH,qN,qB,qE,qO,qA,qM,zaS,itL.eq_1];rintro V ol new ⟨rfl,rfl,rfl⟩;simp only[ZE,↓reduceIte,pE,pL,pA,pS,pM,pD,zap,zab,zaF,sMp,zaf,zak,zal,zaj,zN,qT,qG,qL,qH,qN,qB,qE,qO,qA,qM,zaS,itL.eq_1,e];refine EFn.p ?_;simp only[ZE,↓reduceIte,pE,pL,pA,pS,pM,pD,zap,zab,zaF,sMp,zaf,zak,zal,zaj,zN,qT,qG,qL,qH,qN,qB,qE,qO,qA,qM,zaS,itL.eq_1,e];refine zar.i ec ?_;simp only[ZE,↓reduceIte,pE,pL,pA,pS,pM,pD,zap,zab,zaF,sMp,zaf,zak,zal,zaj,zN,qT,qG,qL,qH,qN,qB,qE,qO,qA,qM,zaS,itL.eq_1,e];have r4:=za5 l F3 G3 ((zeZ l m x.name).1 !=0||(zeZ l m x.name).2 !=1) ⟨5,i,k⟩ (hin 5 rfl);simp only[ZE,↓reduceIte,pE,pL,pA,pS,pM,pD,zap,zab,zaF,sMp,zaf,zak,zal,zaj,zN,qT,qG,qL,qH,qN,qB,qE,qO,qA,qM,zaS,itL.eq_1]at r4;refine EFn.g ⟨[(1,1)],_,_,_,r4,?_⟩;simp only[ZE,↓reduceIte,pE,pL,pA,pS,pM,pD,zap,zab,zaF,sMp,zaf,zak,zal,zaj,zN,qT,qG,qL,qH,qN,qB,qE,qO,qA,qM,zaS,itL.eq_1];rintro V ol new ⟨rfl,rfl,rfl⟩;simp only[ZE,↓reduceIte,pE,pL,pA,pS,pM,pD,zap,zab,zaF,sMp,zaf,zak,zal,zaj,zN,qT,qG,qL,qH,qN,qB,qE,qO,qA,qM,zaS,itL.eq_1];refine⟨[3,6,7],[],?_⟩;simp only[ZE,↓reduceIte,pE,pL,pA,pS,pM,pD]
 have n2:=e;by_cases e:x.kind.1=3
 ·have hd:zaW x.kind.1=true:=by rw[e]; rfl
  have hd':zaW 3=true:=rfl;have hD:zex i k m x F=zaO F (zaT m k x) ⟨1,i,k⟩:=if_pos hd;have hI:zdo l i k m x F=zaO (zaO (zaO (zaO F (zaT m k x) ⟨1,i,k⟩) (zay x) ⟨2,i,k⟩) (zdp l m x) ⟨3,i,k⟩) ((zeZ l m x.name).1 !=1||(zeZ l m x.name).2 !=1) ⟨5,i,k⟩:=by rw[zdo,hD,zgm]; simp[e]
  rw[hI];refine FnL.of_eC (own:=[]) itL [0] zat Tryz.func150 rfl Tryz.call150 Tryz.ntmps150 (Nat.le_of_ble_eq_true rfl) Tryz.results150 ?_;simp only[ZE,↓reduceIte,pE,pL,pA,pS,pM,pD,hd,e]at dc;simp(maxSteps:=4000000) only[ZE,↓reduceIte,pE,pL,pA,pS,pM,pD,zap,zab,zaF,sMp,zaf,zak,zal,zaj,zN,qT,qG,qL,qH,qN,qB,qE,qO,qA,qM,zaS,itL.eq_1,zai hi,zaa hi,hm,zai hk,zaa hk,hx,e];refine EFn.p ?_;simp only[ZE,↓reduceIte,pE,pL,pA,pS,pM,pD,zap,zab,zaF,sMp,zaf,zak,zal,zaj,zN,qT,qG,qL,qH,qN,qB,qE,qO,qA,qM,zaS,itL.eq_1];refine zar.i dc ?_;simp only[ZE,↓reduceIte,pE,pL,pA,pS,pM,pD,zap,zab,zaF,sMp,zaf,zak,zal,zaj,zN,qT,qG,qL,qH,qN,qB,qE,qO,qA,qM,zaS,itL.eq_1,<-List.map_take,Nat.sub_zero,hd'];have tc:=zcI (m.items.take k) 200 (.ptr (zaK x)) (zb8 x) (fun y _=>zg1 x y);have n1:=zdd x.name.1;have c1:=zcd m.params x.name;have r1:=za5 l F hF (zaT m k x) ⟨1,i,k⟩ (hin 1 rfl);have G1:=za8 (b:=zaT m k x) hF (hin 1 rfl);obtain⟨F1,hF1⟩:=zX (zaO F (zaT m k x) ⟨1,i,k⟩);rw[hF1]at r1 G1 ⊢;simp only[ZE,↓reduceIte,pE,pL,pA,pS,pM,pD,e]at tc n1 c1;simp only[ZE,↓reduceIte,pE,pL,pA,pS,pM,pD,zap,zab,zaF,sMp,zaf,zak,zal,zaj,zN,qT,qG,qL,qH,qN,qB,qE,qO,qA,qM,zaS,itL.eq_1,zaT]at r1;refine⟨⟨fun y hy=>(by obtain⟨q,_,rfl⟩:=List.mem_map.1 hy; exact zdD q),by omega,by omega,by omega⟩,EFn.p ?_⟩;simp only[ZE,↓reduceIte,pE,pL,pA,pS,pM,pD,zap,zab,zaF,sMp,zaf,zak,zal,zaj,zN,qT,qG,qL,qH,qN,qB,qE,qO,qA,qM,zaS,itL.eq_1,e];refine zar.i tc ?_;simp only[ZE,↓reduceIte,pE,pL,pA,pS,pM,pD,zap,zab,zaF,sMp,zaf,zak,zal,zaj,zN,qT,qG,qL,qH,qN,qB,qE,qO,qA,qM,zaS,itL.eq_1,e];refine⟨by kernel_rfl,?_⟩;refine za3.i (fun _=>n1) ?_;simp only[ZE,↓reduceIte,pE,pL,pA,pS,pM,pD,zap,zab,zaF,sMp,zaf,zak,zal,zaj,zN,qT,qG,qL,qH,qN,qB,qE,qO,qA,qM,zaS,itL.eq_1,e];refine za3.i (fun _=>c1) ?_;simp only[ZE,↓reduceIte,pE,pL,pA,pS,pM,pD,zap,zab,zaF,sMp,zaf,zak,zal,zaj,zN,qT,qG,qL,qH,qN,qB,qE,qO,qA,qM,zaS,itL.eq_1,e];refine EFn.g ⟨[(1,1)],_,_,_,r1,?_⟩;simp only[ZE,↓reduceIte,pE,pL,pA,pS,pM,pD,zap,zab,zaF,sMp,zaf,zak,zal,zaj,zN,qT,qG,qL,qH,qN,qB,qE,qO,qA,qM,zaS,itL.eq_1];rintro V ol new ⟨rfl,rfl,rfl⟩;have r2:=za5 l F1 G1 (zay x) ⟨2,i,k⟩ (hin 2 rfl);have G2:=za8 (b:=zay x) G1 (hin 2 rfl);have lc:=zhI l (pK (zaO F1 (zay x) ⟨2,i,k⟩)) (pV (zaO F1 (zay x) ⟨2,i,k⟩)) (List.range (zaO F1 (zay x) ⟨2,i,k⟩).length) (zaO F1 (zay x) ⟨2,i,k⟩).length m x hn;have r3:=za5 l _ G2 (zdp l m x) ⟨3,i,k⟩ (hin 3 rfl);have G3:=za8 (b:=zdp l m x) G2 (hin 3 rfl);obtain⟨F3,hF3⟩:=zX (zaO (zaO F1 (zay x) ⟨2,i,k⟩) (zdp l m x) ⟨3,i,k⟩);rw[hF3]at r3 G3 ⊢;have ec:=zhD l (pK F3) (pV F3) (List.range F3.length) F3.length m x.name;simp only[ZE,↓reduceIte,pE,pL,pA,pS,pM,pD,zap,zab,zaF,sMp,zaf,zak,zal,zaj,zN,qT,qG,qL,qH,qN,qB,qE,qO,qA,qM,zaS,itL.eq_1,e]at r2 lc r3 ec mc
  try simp only[ZE,↓reduceIte,pE,pL,pA,pS,pM,pD,zap,zab,zaF,sMp,zaf,zak,zal,zaj,zN,qT,qG,qL,qH,qN,qB,qE,qO,qA,qM,zaS,itL.eq_1,e]
  refine⟨by kernel_rfl,?_⟩;refine za3.i (fun _=>mc) ?_;simp only[ZE,↓reduceIte,pE,pL,pA,pS,pM,pD,zap,zab,zaF,sMp,zaf,zak,zal,zaj,zN,qT,qG,qL,qH,qN,qB,qE,qO,qA,qM,zaS,itL.eq_1,e];refine EFn.g ⟨[(1,1)],_,_,_,r2,?_⟩;simp only[ZE,↓reduceIte,pE,pL,pA,pS,pM,pD,zap,zab,zaF,sMp,zaf,zak,zal,zaj,zN,qT,qG,qL,qH,qN,qB,qE,qO,qA,qM,zaS,itL.eq_1];rintro V ol new ⟨rfl,rfl,rfl⟩;simp only[ZE,↓reduceIte,pE,pL,pA,pS,pM,pD,zap,zab,zaF,sMp,zaf,zak,zal,zaj,zN,qT,qG,qL,qH,qN,qB,qE,qO,qA,qM,zaS,itL.eq_1,e];refine⟨by kernel_rfl,?_⟩;refine za3.i (fun _=>lc) ?_;simp only[ZE,↓reduceIte,pE,pL,pA,pS,pM,pD,zap,zab,zaF,sMp,zaf,zak,zal,zaj,zN,qT,qG,qL,qH,qN,qB,qE,qO,qA,qM,zaS,itL.eq_1,e];refine EFn.g ⟨[(1,1)],_,_,_,r3,?_⟩;simp only[ZE,↓reduceIte,pE,pL,pA,pS,pM,pD,zap,zab,zaF,sMp,zaf,zak,zal,zaj,zN,qT,qG,qL,qH,qN,qB,qE,qO,qA,qM,zaS,itL.eq_1];rintro V ol new ⟨rfl,rfl,rfl⟩;simp only[ZE,↓reduceIte,pE,pL,pA,pS,pM,pD,zap,zab,zaF,sMp,zaf,zak,zal,zaj,zN,qT,qG,qL,qH,qN,qB,qE,qO,qA,qM,zaS,itL.eq_1,e];refine EFn.p ?_;simp only[ZE,↓reduceIte,pE,pL,pA,pS,pM,pD,zap,zab,zaF,sMp,zaf,zak,zal,zaj,zN,qT,qG,qL,qH,qN,qB,qE,qO,qA,qM,zaS,itL.eq_1,e];refine zar.i ec ?_;simp only[ZE,↓reduceIte,pE,pL,pA,pS,pM,pD,zap,zab,zaF,sMp,zaf,zak,zal,zaj,zN,qT,qG,qL,qH,qN,qB,qE,qO,qA,qM,zaS,itL.eq_1,e];have r4:=za5 l F3 G3 ((zeZ l m x.name).1 !=1||(zeZ l m x.name).2 !=1) ⟨5,i,k⟩ (hin 5 rfl);simp only[ZE,↓reduceIte,pE,pL,pA,pS,pM,pD,zap,zab,zaF,sMp,zaf,zak,zal,zaj,zN,qT,qG,qL,qH,qN,qB,qE,qO,qA,qM,zaS,itL.eq_1]at r4;refine EFn.g ⟨[(1,1)],_,_,_,r4,?_⟩;simp only[ZE,↓reduceIte,pE,pL,pA,pS,pM,pD,zap,zab,zaF,sMp,zaf,zak,zal,zaj,zN,qT,qG,qL,qH,qN,qB,qE,qO,qA,qM,zaS,itL.eq_1];rintro V ol new ⟨rfl,rfl,rfl⟩;simp only[ZE,↓reduceIte,pE,pL,pA,pS,pM,pD,zap,zab,zaF,sMp,zaf,zak,zal,zaj,zN,qT,qG,qL,qH,qN,qB,qE,qO,qA,qM,zaS,itL.eq_1];refine⟨[3,6,7],[],?_⟩;simp only[ZE,↓reduceIte,pE,pL,pA,pS,pM,pD]
 have n3:=e;by_cases e:x.kind.1=9
 ·have hd:zaW x.kind.1=true:=by rw[e]; rfl
  have hd':zaW 9=true:=rfl;have hD:zex i k m x F=zaO F (zaT m k x) ⟨1,i,k⟩:=if_pos hd;have hI:zdo l i k m x F=zaO (zaO (zaO (zaO F (zaT m k x) ⟨1,i,k⟩) (zay x) ⟨2,i,k⟩) (zdp l m x) ⟨3,i,k⟩) (zeR l x) ⟨6,i,k⟩:=by rw[zdo,hD,zgm]; simp[e]
  rw[hI];refine FnL.of_eC (own:=[]) itL [0] zat Tryz.func150 rfl Tryz.call150 Tryz.ntmps150 (Nat.le_of_ble_eq_true rfl) Tryz.results150 ?_;simp only[ZE,↓reduceIte,pE,pL,pA,pS,pM,pD,hd,e]at dc;simp(maxSteps:=4000000) only[ZE,↓reduceIte,pE,pL,pA,pS,pM,pD,zap,zab,zaF,sMp,zaf,zak,zal,zaj,zN,qT,qG,qL,qH,qN,qB,qE,qO,qA,qM,zaS,itL.eq_1,zai hi,zaa hi,hm,zai hk,zaa hk,hx,e];refine EFn.p ?_;simp only[ZE,↓reduceIte,pE,pL,pA,pS,pM,pD,zap,zab,zaF,sMp,zaf,zak,zal,zaj,zN,qT,qG,qL,qH,qN,qB,qE,qO,qA,qM,zaS,itL.eq_1];refine zar.i dc ?_;simp only[ZE,↓reduceIte,pE,pL,pA,pS,pM,pD,zap,zab,zaF,sMp,zaf,zak,zal,zaj,zN,qT,qG,qL,qH,qN,qB,qE,qO,qA,qM,zaS,itL.eq_1,<-List.map_take,Nat.sub_zero,hd'];have tc:=zcI (m.items.take k) 200 (.ptr (zaK x)) (zb8 x) (fun y _=>zg1 x y);have n1:=zdd x.name.1;have c1:=zcd m.params x.name;have r1:=za5 l F hF (zaT m k x) ⟨1,i,k⟩ (hin 1 rfl);have G1:=za8 (b:=zaT m k x) hF (hin 1 rfl);obtain⟨F1,hF1⟩:=zX (zaO F (zaT m k x) ⟨1,i,k⟩);rw[hF1]at r1 G1 ⊢;simp only[ZE,↓reduceIte,pE,pL,pA,pS,pM,pD,e]at tc n1 c1;simp only[ZE,↓reduceIte,pE,pL,pA,pS,pM,pD,zap,zab,zaF,sMp,zaf,zak,zal,zaj,zN,qT,qG,qL,qH,qN,qB,qE,qO,qA,qM,zaS,itL.eq_1,zaT]at r1;refine⟨⟨fun y hy=>(by obtain⟨q,_,rfl⟩:=List.mem_map.1 hy; exact zdD q),by omega,by omega,by omega⟩,EFn.p ?_⟩;simp only[ZE,↓reduceIte,pE,pL,pA,pS,pM,pD,zap,zab,zaF,sMp,zaf,zak,zal,zaj,zN,qT,qG,qL,qH,qN,qB,qE,qO,qA,qM,zaS,itL.eq_1,e];refine zar.i tc ?_;simp only[ZE,↓reduceIte,pE,pL,pA,pS,pM,pD,zap,zab,zaF,sMp,zaf,zak,zal,zaj,zN,qT,qG,qL,qH,qN,qB,qE,qO,qA,qM,zaS,itL.eq_1,e];refine⟨by kernel_rfl,?_⟩;refine za3.i (fun _=>n1) ?_;simp only[ZE,↓reduceIte,pE,pL,pA,pS,pM,pD,zap,zab,zaF,sMp,zaf,zak,zal,zaj,zN,qT,qG,qL,qH,qN,qB,qE,qO,qA,qM,zaS,itL.eq_1,e];refine za3.i (fun _=>c1) ?_;simp only[ZE,↓reduceIte,pE,pL,pA,pS,pM,pD,zap,zab,zaF,sMp,zaf,zak,zal,zaj,zN,qT,qG,qL,qH,qN,qB,qE,qO,qA,qM,zaS,itL.eq_1,e];refine EFn.g ⟨[(1,1)],_,_,_,r1,?_⟩;simp only[ZE,↓reduceIte,pE,pL,pA,pS,pM,pD,zap,zab,zaF,sMp,zaf,zak,zal,zaj,zN,qT,qG,qL,qH,qN,qB,qE,qO,qA,qM,zaS,itL.eq_1];rintro V ol new ⟨rfl,rfl,rfl⟩;have r2:=za5 l F1 G1 (zay x) ⟨2,i,k⟩ (hin 2 rfl);have G2:=za8 (b:=zay x) G1 (hin 2 rfl);have lc:=zhI l (pK (zaO F1 (zay x) ⟨2,i,k⟩)) (pV (zaO F1 (zay x) ⟨2,i,k⟩)) (List.range (zaO F1 (zay x) ⟨2,i,k⟩).length) (zaO F1 (zay x) ⟨2,i,k⟩).length m x hn;have r3:=za5 l _ G2 (zdp l m x) ⟨3,i,k⟩ (hin 3 rfl);have G3:=za8 (b:=zdp l m x) G2 (hin 3 rfl);obtain⟨F3,hF3⟩:=zX (zaO (zaO F1 (zay x) ⟨2,i,k⟩) (zdp l m x) ⟨3,i,k⟩);rw[hF3]at r3 G3 ⊢;have ec:=zhD l (pK F3) (pV F3) (List.range F3.length) F3.length m x.name;simp only[ZE,↓reduceIte,pE,pL,pA,pS,pM,pD,zap,zab,zaF,sMp,zaf,zak,zal,zaj,zN,qT,qG,qL,qH,qN,qB,qE,qO,qA,qM,zaS,itL.eq_1,e]at r2 lc r3 ec mc
  try simp only[ZE,↓reduceIte,pE,pL,pA,pS,pM,pD,zap,zab,zaF,sMp,zaf,zak,zal,zaj,zN,qT,qG,qL,qH,qN,qB,qE,qO,qA,qM,zaS,itL.eq_1,e]
  refine⟨by kernel_rfl,?_⟩;refine za3.i (fun _=>mc) ?_;simp only[ZE,↓reduceIte,pE,pL,pA,pS,pM,pD,zap,zab,zaF,sMp,zaf,zak,zal,zaj,zN,qT,qG,qL,qH,qN,qB,qE,qO,qA,qM,zaS,itL.eq_1,e];refine EFn.g ⟨[(1,1)],_,_,_,r2,?_⟩;simp only[ZE,↓reduceIte,pE,pL,pA,pS,pM,pD,zap,zab,zaF,sMp,zaf,zak,zal,zaj,zN,qT,qG,qL,qH,qN,qB,qE,qO,qA,qM,zaS,itL.eq_1];rintro V ol new ⟨rfl,rfl,rfl⟩;simp only[ZE,↓reduceIte,pE,pL,pA,pS,pM,pD,zap,zab,zaF,sMp,zaf,zak,zal,zaj,zN,qT,qG,qL,qH,qN,qB,qE,qO,qA,qM,zaS,itL.eq_1,e];refine⟨by kernel_rfl,?_⟩;refine za3.i (fun _=>lc) ?_;simp only[ZE,↓reduceIte,pE,pL,pA,pS,pM,pD,zap,zab,zaF,sMp,zaf,zak,zal,zaj,zN,qT,qG,qL,qH,qN,qB,qE,qO,qA,qM,zaS,itL.eq_1,e];refine EFn.g ⟨[(1,1)],_,_,_,r3,?_⟩;simp only[ZE,↓reduceIte,pE,pL,pA,pS,pM,pD,zap,zab,zaF,sMp,zaf,zak,zal,zaj,zN,qT,qG,qL,qH,qN,qB,qE,qO,qA,qM,zaS,itL.eq_1];rintro V ol new ⟨rfl,rfl,rfl⟩;simp only[ZE,↓reduceIte,pE,pL,pA,pS,pM,pD,zap,zab,zaF,sMp,zaf,zak,zal,zaj,zN,qT,qG,qL,qH,qN,qB,qE,qO,qA,qM,zaS,itL.eq_1,e];refine EFn.p ?_;simp only[ZE,↓reduceIte,pE,pL,pA,pS,pM,pD,zap,zab,zaF,sMp,zaf,zak,zal,zaj,zN,qT,qG,qL,qH,qN,qB,qE,qO,qA,qM,zaS,itL.eq_1,e];refine zar.i ec ?_;simp only[ZE,↓reduceIte,pE,pL,pA,pS,pM,pD,zap,zab,zaF,sMp,zaf,zak,zal,zaj,zN,qT,qG,qL,qH,qN,qB,qE,qO,qA,qM,zaS,itL.eq_1,e];have r4:=za5 l F3 G3 (zeR l x) ⟨6,i,k⟩ (hin 6 rfl);simp only[ZE,↓reduceIte,pE,pL,pA,pS,pM,pD,zap,zab,zaF,sMp,zaf,zak,zal,zaj,zN,qT,qG,qL,qH,qN,qB,qE,qO,qA,qM,zaS,itL.eq_1]at r4;have pc:=zxk l (pK F3) (pV F3) (List.range F3.length) F3.length x;simp only[ZE,↓reduceIte,pE,pL,pA,pS,pM,pD,zap,zab,zaF,sMp,zaf,zak,zal,zaj,zN,qT,qG,qL,qH,qN,qB,qE,qO,qA,qM,zaS,itL.eq_1,e]at pc;refine⟨by kernel_rfl,za3.i (fun _=>pc) ?_⟩;simp only[ZE,↓reduceIte,pE,pL,pA,pS,pM,pD,zap,zab,zaF,sMp,zaf,zak,zal,zaj,zN,qT,qG,qL,qH,qN,qB,qE,qO,qA,qM,zaS,itL.eq_1];refine EFn.g ⟨[(1,1)],_,_,_,r4,?_⟩;simp only[ZE,↓reduceIte,pE,pL,pA,pS,pM,pD,zap,zab,zaF,sMp,zaf,zak,zal,zaj,zN,qT,qG,qL,qH,qN,qB,qE,qO,qA,qM,zaS,itL.eq_1];rintro V ol new ⟨rfl,rfl,rfl⟩;simp only[ZE,↓reduceIte,pE,pL,pA,pS,pM,pD,zap,zab,zaF,sMp,zaf,zak,zal,zaj,zN,qT,qG,qL,qH,qN,qB,qE,qO,qA,qM,zaS,itL.eq_1];refine⟨[3,6,7],[],?_⟩;simp only[ZE,↓reduceIte,pE,pL,pA,pS,pM,pD]
 have n9:=e;by_cases e:x.kind.1=7
 ·have hd:zaW x.kind.1=false:=by rw[e]; rfl
  have hd':zaW 7=false:=rfl;have hD:zex i k m x F=F:=if_neg (by rw[hd]; simp);have hI:zdo l i k m x F=zaO (zaO (zaO F (zay x) ⟨2,i,k⟩) (zdp l m x) ⟨3,i,k⟩) (zic m x) ⟨8,i,k⟩:=by rw[zdo,hD,zgm]; simp[e]
  rw[hI];refine FnL.of_eC (own:=[]) itL [0] zat Tryz.func150 rfl Tryz.call150 Tryz.ntmps150 (Nat.le_of_ble_eq_true rfl) Tryz.results150 ?_;simp only[ZE,↓reduceIte,pE,pL,pA,pS,pM,pD,hd,e]at dc;simp(maxSteps:=4000000) only[ZE,↓reduceIte,pE,pL,pA,pS,pM,pD,zap,zab,zaF,sMp,zaf,zak,zal,zaj,zN,qT,qG,qL,qH,qN,qB,qE,qO,qA,qM,zaS,itL.eq_1,zai hi,zaa hi,hm,zai hk,zaa hk,hx,e];refine EFn.p ?_;simp only[ZE,↓reduceIte,pE,pL,pA,pS,pM,pD,zap,zab,zaF,sMp,zaf,zak,zal,zaj,zN,qT,qG,qL,qH,qN,qB,qE,qO,qA,qM,zaS,itL.eq_1];refine zar.i dc ?_;simp only[ZE,↓reduceIte,pE,pL,pA,pS,pM,pD,zap,zab,zaF,sMp,zaf,zak,zal,zaj,zN,qT,qG,qL,qH,qN,qB,qE,qO,qA,qM,zaS,itL.eq_1,hd'];obtain⟨F1,hF1⟩:=zX (F);have G1:=hF;rw[hF1]at G1 ⊢;have r2:=za5 l F1 G1 (zay x) ⟨2,i,k⟩ (hin 2 rfl);have G2:=za8 (b:=zay x) G1 (hin 2 rfl);have lc:=zhI l (pK (zaO F1 (zay x) ⟨2,i,k⟩)) (pV (zaO F1 (zay x) ⟨2,i,k⟩)) (List.range (zaO F1 (zay x) ⟨2,i,k⟩).length) (zaO F1 (zay x) ⟨2,i,k⟩).length m x hn;have r3:=za5 l _ G2 (zdp l m x) ⟨3,i,k⟩ (hin 3 rfl);have G3:=za8 (b:=zdp l m x) G2 (hin 3 rfl);obtain⟨F3,hF3⟩:=zX (zaO (zaO F1 (zay x) ⟨2,i,k⟩) (zdp l m x) ⟨3,i,k⟩);rw[hF3]at r3 G3 ⊢;have ec:=zhD l (pK F3) (pV F3) (List.range F3.length) F3.length m x.name;simp only[ZE,↓reduceIte,pE,pL,pA,pS,pM,pD,zap,zab,zaF,sMp,zaf,zak,zal,zaj,zN,qT,qG,qL,qH,qN,qB,qE,qO,qA,qM,zaS,itL.eq_1,e]at r2 lc r3 ec mc
  try simp only[ZE,↓reduceIte,pE,pL,pA,pS,pM,pD,zap,zab,zaF,sMp,zaf,zak,zal,zaj,zN,qT,qG,qL,qH,qN,qB,qE,qO,qA,qM,zaS,itL.eq_1,e]
  refine⟨by kernel_rfl,?_⟩;refine za3.i (fun _=>mc) ?_;simp only[ZE,↓reduceIte,pE,pL,pA,pS,pM,pD,zap,zab,zaF,sMp,zaf,zak,zal,zaj,zN,qT,qG,qL,qH,qN,qB,qE,qO,qA,qM,zaS,itL.eq_1,e];refine EFn.g ⟨[(1,1)],_,_,_,r2,?_⟩;simp only[ZE,↓reduceIte,pE,pL,pA,pS,pM,pD,zap,zab,zaF,sMp,zaf,zak,zal,zaj,zN,qT,qG,qL,qH,qN,qB,qE,qO,qA,qM,zaS,itL.eq_1];rintro V ol new ⟨rfl,rfl,rfl⟩;simp only[ZE,↓reduceIte,pE,pL,pA,pS,pM,pD,zap,zab,zaF,sMp,zaf,zak,zal,zaj,zN,qT,qG,qL,qH,qN,qB,qE,qO,qA,qM,zaS,itL.eq_1,e];refine⟨by kernel_rfl,?_⟩;refine za3.i (fun _=>lc) ?_;simp only[ZE,↓reduceIte,pE,pL,pA,pS,pM,pD,zap,zab,zaF,sMp,zaf,zak,zal,zaj,zN,qT,qG,qL,qH,qN,qB,qE,qO,qA,qM,zaS,itL.eq_1,e];refine EFn.g ⟨[(1,1)],_,_,_,r3,?_⟩;simp only[ZE,↓reduceIte,pE,pL,pA,pS,pM,pD,zap,zab,zaF,sMp,zaf,zak,zal,zaj,zN,qT,qG,qL,qH,qN,qB,qE,qO,qA,qM,zaS,itL.eq_1];rintro V ol new ⟨rfl,rfl,rfl⟩;simp only[ZE,↓reduceIte,pE,pL,pA,pS,pM,pD,zap,zab,zaF,sMp,zaf,zak,zal,zaj,zN,qT,qG,qL,qH,qN,qB,qE,qO,qA,qM,zaS,itL.eq_1,e];refine EFn.p ?_;simp only[ZE,↓reduceIte,pE,pL,pA,pS,pM,pD,zap,zab,zaF,sMp,zaf,zak,zal,zaj,zN,qT,qG,qL,qH,qN,qB,qE,qO,qA,qM,zaS,itL.eq_1,e];refine zar.i ec ?_;simp only[ZE,↓reduceIte,pE,pL,pA,pS,pM,pD,zap,zab,zaF,sMp,zaf,zak,zal,zaj,zN,qT,qG,qL,qH,qN,qB,qE,qO,qA,qM,zaS,itL.eq_1,e];have r4:=za5 l F3 G3 (zic m x) ⟨8,i,k⟩ (hin 8 rfl);simp only[ZE,↓reduceIte,pE,pL,pA,pS,pM,pD,zap,zab,zaF,sMp,zaf,zak,zal,zaj,zN,qT,qG,qL,qH,qN,qB,qE,qO,qA,qM,zaS,itL.eq_1]at r4;have pc:=early_c m x;simp only[ZE,↓reduceIte,pE,pL,pA,pS,pM,pD,zap,zab,zaF,sMp,zaf,zak,zal,zaj,zN,qT,qG,qL,qH,qN,qB,qE,qO,qA,qM,zaS,itL.eq_1,e]at pc;refine⟨by kernel_rfl,za3.i (fun _=>pc) ?_⟩;simp only[ZE,↓reduceIte,pE,pL,pA,pS,pM,pD,zap,zab,zaF,sMp,zaf,zak,zal,zaj,zN,qT,qG,qL,qH,qN,qB,qE,qO,qA,qM,zaS,itL.eq_1];refine EFn.g ⟨[(1,1)],_,_,_,r4,?_⟩;simp only[ZE,↓reduceIte,pE,pL,pA,pS,pM,pD,zap,zab,zaF,sMp,zaf,zak,zal,zaj,zN,qT,qG,qL,qH,qN,qB,qE,qO,qA,qM,zaS,itL.eq_1];rintro V ol new ⟨rfl,rfl,rfl⟩;simp only[ZE,↓reduceIte,pE,pL,pA,pS,pM,pD,zap,zab,zaF,sMp,zaf,zak,zal,zaj,zN,qT,qG,qL,qH,qN,qB,qE,qO,qA,qM,zaS,itL.eq_1];refine⟨[3,6,7],[],?_⟩;simp only[ZE,↓reduceIte,pE,pL,pA,pS,pM,pD]
 have n7:=e;have e5:(x.kind.1==5)=false:=by simpa using n5
 have e1:(x.kind.1==1)=false:=by simpa using n1
 have e2:(x.kind.1==2)=false:=by simpa using n2
 have e3:(x.kind.1==3)=false:=by simpa using n3
 have e9:(x.kind.1==9)=false:=by simpa using n9
 have e7:(x.kind.1==7)=false:=by simpa using n7
 have hK: ∀F,zgm l i k m x F=F:=fun F=>by rw[zgm]; simp[n5,n1,n2,n3,n9,n7]
 cases hd:zaW x.kind.1 with
 | true=>
  have hD:zex i k m x F=zaO F (zaT m k x) ⟨1,i,k⟩:=if_pos hd;rw[zdo,hK,hD];refine FnL.of_eC (own:=[]) itL [0] zat Tryz.func150 rfl Tryz.call150 Tryz.ntmps150 (Nat.le_of_ble_eq_true rfl) Tryz.results150 ?_;simp only[ZE,↓reduceIte,pE,pL,pA,pS,pM,pD,hd]at dc;simp(maxSteps:=4000000) only[ZE,↓reduceIte,pE,pL,pA,pS,pM,pD,zap,zab,zaF,sMp,zaf,zak,zal,zaj,zN,qT,qG,qL,qH,qN,qB,qE,qO,qA,qM,zaS,itL.eq_1,zai hi,zaa hi,hm,zai hk,zaa hk,hx];refine EFn.p ?_;simp only[ZE,↓reduceIte,pE,pL,pA,pS,pM,pD,zap,zab,zaF,sMp,zaf,zak,zal,zaj,zN,qT,qG,qL,qH,qN,qB,qE,qO,qA,qM,zaS,itL.eq_1];refine zar.i dc ?_;simp only[ZE,↓reduceIte,pE,pL,pA,pS,pM,pD,zap,zab,zaF,sMp,zaf,zak,zal,zaj,zN,qT,qG,qL,qH,qN,qB,qE,qO,qA,qM,zaS,itL.eq_1,<-List.map_take,Nat.sub_zero];have tc:=zcI (m.items.take k) 200 (.ptr (zaK x)) (zb8 x) (fun y _=>zg1 x y);have n1:=zdd x.name.1;have c1:=zcd m.params x.name;have r1:=za5 l F hF (zaT m k x) ⟨1,i,k⟩ (hin 1 rfl);have G1:=za8 (b:=zaT m k x) hF (hin 1 rfl);obtain⟨F1,hF1⟩:=zX (zaO F (zaT m k x) ⟨1,i,k⟩);rw[hF1]at r1 G1 ⊢;simp only[ZE,↓reduceIte,pE,pL,pA,pS,pM,pD,hd]at tc n1 c1;simp only[ZE,↓reduceIte,pE,pL,pA,pS,pM,pD,zap,zab,zaF,sMp,zaf,zak,zal,zaj,zN,qT,qG,qL,qH,qN,qB,qE,qO,qA,qM,zaS,itL.eq_1,zaT]at r1;refine⟨⟨fun y hy=>(by obtain⟨q,_,rfl⟩:=List.mem_map.1 hy; exact zdD q),by omega,by omega,by omega⟩,EFn.p ?_⟩;simp only[ZE,↓reduceIte,pE,pL,pA,pS,pM,pD,zap,zab,zaF,sMp,zaf,zak,zal,zaj,zN,qT,qG,qL,qH,qN,qB,qE,qO,qA,qM,zaS,itL.eq_1,hd];refine zar.i tc ?_;simp only[ZE,↓reduceIte,pE,pL,pA,pS,pM,pD,zap,zab,zaF,sMp,zaf,zak,zal,zaj,zN,qT,qG,qL,qH,qN,qB,qE,qO,qA,qM,zaS,itL.eq_1,hd];refine⟨by kernel_rfl,?_⟩;refine za3.i (fun _=>n1) ?_;simp only[ZE,↓reduceIte,pE,pL,pA,pS,pM,pD,zap,zab,zaF,sMp,zaf,zak,zal,zaj,zN,qT,qG,qL,qH,qN,qB,qE,qO,qA,qM,zaS,itL.eq_1,hd];refine za3.i (fun _=>c1) ?_;simp only[ZE,↓reduceIte,pE,pL,pA,pS,pM,pD,zap,zab,zaF,sMp,zaf,zak,zal,zaj,zN,qT,qG,qL,qH,qN,qB,qE,qO,qA,qM,zaS,itL.eq_1,hd];refine EFn.g ⟨[(1,1)],_,_,_,r1,?_⟩;simp only[ZE,↓reduceIte,pE,pL,pA,pS,pM,pD,zap,zab,zaF,sMp,zaf,zak,zal,zaj,zN,qT,qG,qL,qH,qN,qB,qE,qO,qA,qM,zaS,itL.eq_1];rintro V ol new ⟨rfl,rfl,rfl⟩;have r2:=za5 l F1 G1 (zay x) ⟨2,i,k⟩ (hin 2 rfl);have G2:=za8 (b:=zay x) G1 (hin 2 rfl);have lc:=zhI l (pK (zaO F1 (zay x) ⟨2,i,k⟩)) (pV (zaO F1 (zay x) ⟨2,i,k⟩)) (List.range (zaO F1 (zay x) ⟨2,i,k⟩).length) (zaO F1 (zay x) ⟨2,i,k⟩).length m x hn;have r3:=za5 l _ G2 (zdp l m x) ⟨3,i,k⟩ (hin 3 rfl);have G3:=za8 (b:=zdp l m x) G2 (hin 3 rfl);obtain⟨F3,hF3⟩:=zX (zaO (zaO F1 (zay x) ⟨2,i,k⟩) (zdp l m x) ⟨3,i,k⟩);rw[hF3]at r3 G3 ⊢;have ec:=zhD l (pK F3) (pV F3) (List.range F3.length) F3.length m x.name;simp only[ZE,↓reduceIte,pE,pL,pA,pS,pM,pD,zap,zab,zaF,sMp,zaf,zak,zal,zaj,zN,qT,qG,qL,qH,qN,qB,qE,qO,qA,qM,zaS,itL.eq_1,e5,e1,e2,e3,e9,e7]at r2 lc r3 ec mc
  try simp only[ZE,↓reduceIte,pE,pL,pA,pS,pM,pD,zap,zab,zaF,sMp,zaf,zak,zal,zaj,zN,qT,qG,qL,qH,qN,qB,qE,qO,qA,qM,zaS,itL.eq_1,e5,e1,e2,e3,e9,e7]
  refine⟨by kernel_rfl,?_⟩;refine za3.i (fun _=>mc) ?_;simp only[ZE,↓reduceIte,pE,pL,pA,pS,pM,pD,zap,zab,zaF,sMp,zaf,zak,zal,zaj,zN,qT,qG,qL,qH,qN,qB,qE,qO,qA,qM,zaS,itL.eq_1,e5,e1,e2,e3,e9,e7];refine EFn.g ⟨[(1,1)],_,_,_,r2,?_⟩;simp only[ZE,↓reduceIte,pE,pL,pA,pS,pM,pD,zap,zab,zaF,sMp,zaf,zak,zal,zaj,zN,qT,qG,qL,qH,qN,qB,qE,qO,qA,qM,zaS,itL.eq_1];rintro V ol new ⟨rfl,rfl,rfl⟩;simp only[ZE,↓reduceIte,pE,pL,pA,pS,pM,pD,zap,zab,zaF,sMp,zaf,zak,zal,zaj,zN,qT,qG,qL,qH,qN,qB,qE,qO,qA,qM,zaS,itL.eq_1,e5,e1,e2,e3,e9,e7];refine⟨by kernel_rfl,?_⟩;refine za3.i (fun _=>lc) ?_;simp only[ZE,↓reduceIte,pE,pL,pA,pS,pM,pD,zap,zab,zaF,sMp,zaf,zak,zal,zaj,zN,qT,qG,qL,qH,qN,qB,qE,qO,qA,qM,zaS,itL.eq_1,e5,e1,e2,e3,e9,e7];refine EFn.g ⟨[(1,1)],_,_,_,r3,?_⟩;simp only[ZE,↓reduceIte,pE,pL,pA,pS,pM,pD,zap,zab,zaF,sMp,zaf,zak,zal,zaj,zN,qT,qG,qL,qH,qN,qB,qE,qO,qA,qM,zaS,itL.eq_1];rintro V ol new ⟨rfl,rfl,rfl⟩;simp only[ZE,↓reduceIte,pE,pL,pA,pS,pM,pD,zap,zab,zaF,sMp,zaf,zak,zal,zaj,zN,qT,qG,qL,qH,qN,qB,qE,qO,qA,qM,zaS,itL.eq_1,e5,e1,e2,e3,e9,e7];refine EFn.p ?_;simp only[ZE,↓reduceIte,pE,pL,pA,pS,pM,pD,zap,zab,zaF,sMp,zaf,zak,zal,zaj,zN,qT,qG,qL,qH,qN,qB,qE,qO,qA,qM,zaS,itL.eq_1,e5,e1,e2,e3,e9,e7];refine zar.i ec ?_;simp only[ZE,↓reduceIte,pE,pL,pA,pS,pM,pD,zap,zab,zaF,sMp,zaf,zak,zal,zaj,zN,qT,qG,qL,qH,qN,qB,qE,qO,qA,qM,zaS,itL.eq_1,e5,e1,e2,e3,e9,e7];refine⟨[3,6,7],[],?_⟩;simp only[ZE,↓reduceIte,pE,pL,pA,pS,pM,pD]
 | false=>
  have hD:zex i k m x F=F:=if_neg (by rw[hd]; simp);rw[zdo,hK,hD];refine FnL.of_eC (own:=[]) itL [0] zat Tryz.func150 rfl Tryz.call150 Tryz.ntmps150 (Nat.le_of_ble_eq_true rfl) Tryz.results150 ?_;simp only[ZE,↓reduceIte,pE,pL,pA,pS,pM,pD,hd]at dc;simp(maxSteps:=4000000) only[ZE,↓reduceIte,pE,pL,pA,pS,pM,pD,zap,zab,zaF,sMp,zaf,zak,zal,zaj,zN,qT,qG,qL,qH,qN,qB,qE,qO,qA,qM,zaS,itL.eq_1,zai hi,zaa hi,hm,zai hk,zaa hk,hx];refine EFn.p ?_;simp only[ZE,↓reduceIte,pE,pL,pA,pS,pM,pD,zap,zab,zaF,sMp,zaf,zak,zal,zaj,zN,qT,qG,qL,qH,qN,qB,qE,qO,qA,qM,zaS,itL.eq_1];refine zar.i dc ?_;simp only[ZE,↓reduceIte,pE,pL,pA,pS,pM,pD,zap,zab,zaF,sMp,zaf,zak,zal,zaj,zN,qT,qG,qL,qH,qN,qB,qE,qO,qA,qM,zaS,itL.eq_1];obtain⟨F1,hF1⟩:=zX (F);have G1:=hF;rw[hF1]at G1 ⊢;have r2:=za5 l F1 G1 (zay x) ⟨2,i,k⟩ (hin 2 rfl);have G2:=za8 (b:=zay x) G1 (hin 2 rfl);have lc:=zhI l (pK (zaO F1 (zay x) ⟨2,i,k⟩)) (pV (zaO F1 (zay x) ⟨2,i,k⟩)) (List.range (zaO F1 (zay x) ⟨2,i,k⟩).length) (zaO F1 (zay x) ⟨2,i,k⟩).length m x hn;have r3:=za5 l _ G2 (zdp l m x) ⟨3,i,k⟩ (hin 3 rfl);have G3:=za8 (b:=zdp l m x) G2 (hin 3 rfl);obtain⟨F3,hF3⟩:=zX (zaO (zaO F1 (zay x) ⟨2,i,k⟩) (zdp l m x) ⟨3,i,k⟩);rw[hF3]at r3 G3 ⊢;have ec:=zhD l (pK F3) (pV F3) (List.range F3.length) F3.length m x.name;simp only[ZE,↓reduceIte,pE,pL,pA,pS,pM,pD,zap,zab,zaF,sMp,zaf,zak,zal,zaj,zN,qT,qG,qL,qH,qN,qB,qE,qO,qA,qM,zaS,itL.eq_1,e5,e1,e2,e3,e9,e7]at r2 lc r3 ec mc
  try simp only[ZE,↓reduceIte,pE,pL,pA,pS,pM,pD,zap,zab,zaF,sMp,zaf,zak,zal,zaj,zN,qT,qG,qL,qH,qN,qB,qE,qO,qA,qM,zaS,itL.eq_1,e5,e1,e2,e3,e9,e7]
  refine⟨by kernel_rfl,?_⟩;refine za3.i (fun _=>mc) ?_;simp only[ZE,↓reduceIte,pE,pL,pA,pS,pM,pD,zap,zab,zaF,sMp,zaf,zak,zal,zaj,zN,qT,qG,qL,qH,qN,qB,qE,qO,qA,qM,zaS,itL.eq_1,e5,e1,e2,e3,e9,e7];refine EFn.g ⟨[(1,1)],_,_,_,r2,?_⟩;simp only[ZE,↓reduceIte,pE,pL,pA,pS,pM,pD,zap,zab,zaF,sMp,zaf,zak,zal,zaj,zN,qT,qG,qL,qH,qN,qB,qE,qO,qA,qM,zaS,itL.eq_1];rintro V ol new ⟨rfl,rfl,rfl⟩;simp only[ZE,↓reduceIte,pE,pL,pA,pS,pM,pD,zap,zab,zaF,sMp,zaf,zak,zal,zaj,zN,qT,qG,qL,qH,qN,qB,qE,qO,qA,qM,zaS,itL.eq_1,e5,e1,e2,e3,e9,e7];refine⟨by kernel_rfl,?_⟩;refine za3.i (fun _=>lc) ?_;simp only[ZE,↓reduceIte,pE,pL,pA,pS,pM,pD,zap,zab,zaF,sMp,zaf,zak,zal,zaj,zN,qT,qG,qL,qH,qN,qB,qE,qO,qA,qM,zaS,itL.eq_1,e5,e1,e2,e3,e9,e7];refine EFn.g ⟨[(1,1)],_,_,_,r3,?_⟩;simp only[ZE,↓reduceIte,pE,pL,pA,pS,pM,pD,zap,zab,zaF,sMp,zaf,zak,zal,zaj,zN,qT,qG,qL,qH,qN,qB,qE,qO,qA,qM,zaS,itL.eq_1];rintro V ol new ⟨rfl,rfl,rfl⟩;simp only[ZE,↓reduceIte,pE,pL,pA,pS,pM,pD,zap,zab,zaF,sMp,zaf,zak,zal,zaj,zN,qT,qG,qL,qH,qN,qB,qE,qO,qA,qM,zaS,itL.eq_1,e5,e1,e2,e3,e9,e7];refine EFn.p ?_;simp only[ZE,↓reduceIte,pE,pL,pA,pS,pM,pD,zap,zab,zaF,sMp,zaf,zak,zal,zaj,zN,qT,qG,qL,qH,qN,qB,qE,qO,qA,qM,zaS,itL.eq_1,e5,e1,e2,e3,e9,e7];refine zar.i ec ?_;simp only[ZE,↓reduceIte,pE,pL,pA,pS,pM,pD,zap,zab,zaF,sMp,zaf,zak,zal,zaj,zN,qT,qG,qL,qH,qN,qB,qE,qO,qA,qM,zaS,itL.eq_1,e5,e1,e2,e3,e9,e7];refine⟨[3,6,7],[],?_⟩;simp only[ZE,↓reduceIte,pE,pL,pA,pS,pM,pD]
section
open Go.Aw Go.Sort Go.RowKit
def zbn(a b:Problem):Int:=orI [zh1 a.module b.module,zh1 a.item b.item,zh1 a.code b.code]
theorem nan_w(x:Int)(w:World):Calls Tryz.prog 210 #[.int .i64 x] w fun e w'=>e= .returned (.bool false)/\w'=w:=by
 go_enter Tryz.func210,Tryz.ntmps210
 go_wp2;go_ret;exact⟨by simp,rfl⟩
set_option maxHeartbeats 1000000 in
theorem zsj(x y:Int)(w:World):Calls Tryz.prog 155 #[.int .i64 x,.int .i64 y] w fun e w'=>e= .returned (.int .i64 (zh1 x y))/\w'=w:=by
 go_enter Tryz.func155,Tryz.ntmps155
 go_wp2_with (go_at_call 210; refine(nan_w _ _).mono ?_; rintro e w' ⟨rfl,hw⟩; rw[hw])
 all_goals (go_ret; refine⟨?_,rfl⟩; unfold zh1; (repeat' split) <;> first | rfl | (exfalso; omega))
set_option maxHeartbeats 2000000 in
theorem or_w(x y z:Int)(b cap:Nat)(w:World)(h0:w.cell? ⟨b,0,none⟩=some (.int .i64 x))(h1:w.cell? ⟨b,1,none⟩=some (.int .i64 y))(h2:w.cell? ⟨b,2,none⟩=some (.int .i64 z)):
  Calls Tryz.prog 154 #[.slice (some ⟨b,0,none⟩) 3 cap] w fun e w'=>e= .returned (.int .i64 (orI [x,y,z]))/\w'=w:=by
 go_enter Tryz.func154,Tryz.ntmps154
 go_wp2
 go_rounds 4
 all_goals go_ret
 all_goals refine⟨?_,rfl⟩
 all_goals simp_all [orI]
set_option maxHeartbeats 4000000 in
theorem zmi(a b:Problem)(w:World):Calls Tryz.prog 153 #[.agg #[.int .i64 a.code,.int .i64 a.module,.int .i64 a.item],.agg #[.int .i64 b.code,.int .i64 b.module,.int .i64 b.item]] w fun e w'=>
  e= .returned (.int .i64 (zbn a b))/\ ∃q os',w'=grow (w.drewN q) os':=by
 unfold zbn
 go_enter Tryz.func153,Tryz.ntmps153
 go_wp2;refine wp_region_still_tail 15 zat (by kernel_rfl) ?_;obtain⟨W,hW⟩: ∃W:World,W={((w.alloc (.cells #[.int .i64 a.code,.int .i64 a.module,.int .i64 a.item] 221)).alloc (.cells #[.int .i64 b.code,.int .i64 b.module,.int .i64 b.item] 221))with drawn:=((w.alloc (.cells #[.int .i64 a.code,.int .i64 a.module,.int .i64 a.item] 221)).alloc (.cells #[.int .i64 b.code,.int .i64 b.module,.int .i64 b.item] 221)).drawn +1}:=⟨_,rfl⟩;rw[<-hW];obtain⟨c0,c1,hG⟩:=two_w w _ _ W hW;have a0:W.cell? ⟨w.heap.size,0,none⟩=some (.int .i64 a.code):=by simp[World.cell?,c0]
 have a1:W.cell? ⟨w.heap.size,1,none⟩=some (.int .i64 a.module):=by simp[World.cell?,c0]
 have a2:W.cell? ⟨w.heap.size,2,none⟩=some (.int .i64 a.item):=by simp[World.cell?,c0]
 have b0:W.cell? ⟨w.heap.size+1,0,none⟩=some (.int .i64 b.code):=by simp[World.cell?,c1]
 have b1:W.cell? ⟨w.heap.size+1,1,none⟩=some (.int .i64 b.module):=by simp[World.cell?,c1]
 have b2:W.cell? ⟨w.heap.size+1,2,none⟩=some (.int .i64 b.item):=by simp[World.cell?,c1]
 clear hW c0 c1;simp only[List.take_succ_cons,List.take_zero,List.drop_succ_cons,List.drop_zero]
 repeat still_step
 still_call (zsj _ _ _)
 repeat still_step
 still_call (zsj _ _ _)
 repeat still_step
 still_call (zsj _ _ _)
 repeat still_step
 try refine wpStill_nil ?_
 generalize hx:zh1 a.module b.module=x at*;generalize hy:zh1 a.item b.item=y at*;generalize hz:zh1 a.code b.code=z at*;clear a0 a1 a2 b0 b1 b2;obtain⟨q,os',rfl⟩:=hG;generalize hWW:grow (w.drewN q) os'=W;have hor: ∀W',W'=W.alloc (.cells #[.int .i64 x,.int .i64 y,.int .i64 z] 3)->Calls Tryz.prog 154 #[.slice (some ⟨W.heap.size,0,none⟩) 3 3] W' fun e w'=>e= .returned (.int .i64 (orI [x,y,z]))/\w'=W':=by
  rintro W' rfl;have hh:=World.alloc_heap_new W (.cells #[.int .i64 x,.int .i64 y,.int .i64 z] 3);exact or_w x y z _ _ _ (by simp only[World.cell?,hh]; rfl) (by simp only[World.cell?,hh]; rfl) (by simp only[World.cell?,hh]; rfl)
 generalize hr:orI [x,y,z]=r at*
 go_wp2_with (go_at_call 154; refine(hor _ rfl).mono ?_; rintro e w' ⟨rfl,rfl⟩)
 go_ret;refine⟨by rw[hx,hy,hz,hr]; rfl,q,os'++#[.cells #[.int .i64 x,.int .i64 y,.int .i64 z] 3],?_⟩;rw[alloc_eq_grow,<-hWW,grow_grow]
end
section
open Go.Aw Go.Sort Go.RowKit Go.Shelf
instance:Inhabited Problem:=⟨⟨0,0,0⟩⟩
def zgl(p:Problem):List Value:=[.int .i64 p.code,.int .i64 p.module,.int .i64 p.item]
def zds(a b:Problem):Prop:=a.module<b.module\/(a.module=b.module/\(a.item<b.item\/(a.item=b.item/\a.code<b.code)))
theorem ziD(a b:Problem):zbn a b<0↔zds a b:=by
 unfold zbn orI zh1 zds
 repeat' split
 all_goals simp_all
 all_goals omega
theorem zfW(a b:Problem):ltOf zbn a b=true↔zds a b:=by unfold ltOf; rw[decide_eq_true_eq]; exact ziD a b
theorem zbO(a b:Problem):ltOf zbn a b=false↔ ¬zds a b:=by rw[<-zfW]; simp
theorem zne:SWO (ltOf zbn):={
 irrefl:=fun x=>by rw[zbO]; unfold zds; omega
 trans:=fun x y z h1 h2=>by rw[zfW]at*; unfold zds at*; omega
 ntrans:=fun x y z h1 h2=>by rw[zbO]at*; unfold zds at*; omega}
theorem zhr(x y:Problem)(h1:ltOf zbn x y=false)(h2:ltOf zbn y x=false):x=y:=by
 rw[zbO]at*;obtain⟨a,b,c⟩:=x;obtain⟨a',b',c'⟩:=y;unfold zds at*;simp only[Problem.mk.injEq]at*;omega
noncomputable def zcl(l:List Problem):List Problem:=l.mergeSort fun x y=> !(ltOf zbn) y x
theorem zgv(enc:Problem->List Value)(h: ∀x,(enc x).length =3): ∀(l:List Problem) (t:Nat),(l.flatMap enc)[t]? =(l[t / 3]?).bind fun x=>(enc x)[t % 3]?
 | [],t=>by simp
 | x::l,t=>by
  rw[List.flatMap_cons];rcases Nat.lt_or_ge t 3 with ht | ht
  ·rw[List.getElem?_append_left (by rw[h]; exact ht),Nat.div_eq_of_lt ht,Nat.mod_eq_of_lt ht];simp
  ·obtain⟨s,rfl⟩: ∃s,t=s+3:=⟨t-3,by omega⟩;rw[List.getElem?_append_right (by rw[h]; omega),h,Nat.add_sub_cancel,zgv enc h l s,Nat.add_mod_right];rw[show(s+3) / 3=s / 3+1 by omega];simp
theorem zfC(l:List Problem):(flatK zgl 3 l.toArray).toList =l.flatMap zgl:=by
 apply List.ext_getElem?;intro t;rw[zgv zgl (fun _=>rfl)];by_cases ht:t<l.length*3
 ·have h3:t / 3<l.length:=by omega
  have h4:t % 3<3:=Nat.mod_lt _ (by omega);have h5:t % 3<(zgl l[t / 3]).length :=h4;rw[List.getElem?_eq_getElem h3];simp only[Option.bind_some];rw[List.getElem?_eq_getElem h5];simp[flatK,ht,h3,getElem!_pos,h5]
 ·rw[List.getElem?_eq_none (by simp; omega),List.getElem?_eq_none (show l.length<=t / 3 by omega)];rfl
def Tryz.sortPos_ren:Go.Shelf.Ren:=⟨fun | 6=>208 | 15=>171 | 14=>256 | 28=>223 | 29=>224 | 20=>281 | 21=>282 | 22=>283 | 23=>284 | 24=>285 | 25=>286 | 26=>287 | 27=>288 | 46=>297 | 47=>260 | 48=>261 | 49=>298 | 50=>299 | 57=>301 | n=>n,fun | 22=>162 | 24=>221 | 25=>243 | 3=>3 | 39=>253 | 0=>0 | 53=>307 | 55=>309 | 4=>4 | 46=>301 | 45=>300 | 50=>234 | 5=>5 | 9=>9 | 66=>337 | 70=>341 | 76=>362 | 77=>289 | n=>n,fun | n=>n⟩
theorem Tryz.sortPos:Go.Proofs.SlLaysF0.n6 Tryz.prog Tryz.sortPos_ren:={
 mixed:=by kernel_rfl
 f6:=⟨Tryz.f208.name,by decide,Tryz.func208.trans (congrArg some (by kernel_rfl))⟩
 f14:=⟨Tryz.f256.name,by decide,Tryz.func256.trans (congrArg some (by kernel_rfl))⟩
 f15:=Tryz.func171.trans (congrArg some (by kernel_rfl))
 f20:=⟨Tryz.f281.name,by decide,Tryz.func281.trans (congrArg some (by kernel_rfl))⟩
 f21:=⟨Tryz.f282.name,by decide,Tryz.func282.trans (congrArg some (by kernel_rfl))⟩
 f22:=⟨Tryz.f283.name,by decide,Tryz.func283.trans (congrArg some (by kernel_rfl))⟩
 f23:=⟨Tryz.f284.name,by decide,Tryz.func284.trans (congrArg some (by kernel_rfl))⟩
 f24:=⟨Tryz.f285.name,by decide,Tryz.func285.trans (congrArg some (by kernel_rfl))⟩
 f25:=⟨Tryz.f286.name,by decide,Tryz.func286.trans (congrArg some (by kernel_rfl))⟩
 f26:=⟨Tryz.f287.name,by decide,Tryz.func287.trans (congrArg some (by kernel_rfl))⟩
 f27:=⟨Tryz.f288.name,by decide,Tryz.func288.trans (congrArg some (by kernel_rfl))⟩
 f28:=Tryz.func223.trans (congrArg some (by kernel_rfl))
 f29:=Tryz.func224.trans (congrArg some (by kernel_rfl))
 f46:=⟨Tryz.f297.name,by decide,Tryz.func297.trans (congrArg some (by kernel_rfl))⟩
 f47:=Tryz.func260.trans (congrArg some (by kernel_rfl))
 f48:=Tryz.func261.trans (congrArg some (by kernel_rfl))
 f49:=⟨Tryz.f298.name,by decide,Tryz.func298.trans (congrArg some (by kernel_rfl))⟩
 f50:=⟨Tryz.f299.name,by decide,Tryz.func299.trans (congrArg some (by kernel_rfl))⟩
 f57:=⟨Tryz.f301.name,by decide,Tryz.func301.trans (congrArg some (by kernel_rfl))⟩
 t0:=Tryz.underlying0
 a0:=Tryz.isAgg0
 z0:=Tryz.sizeOf0
 v0:=Tryz.zeroValue0
 t3:=Tryz.underlying3
 a3:=Tryz.isAgg3
 z3:=Tryz.sizeOf3
 v3:=Tryz.zeroValue3
 t4:=Tryz.underlying4
 a4:=Tryz.isAgg4
 z4:=Tryz.sizeOf4
 v4:=Tryz.zeroValue4
 t5:=Tryz.underlying5
 a5:=Tryz.isAgg5
 z5:=Tryz.sizeOf5
 v5:=Tryz.zeroValue5
 t9:=Tryz.underlying9
 a9:=Tryz.isAgg9
 z9:=Tryz.sizeOf9
 v9:=Tryz.zeroValue9
 t22:=Tryz.underlying162
 a22:=Tryz.isAgg162
 z22:=Tryz.sizeOf162
 v22:=Tryz.zeroValue162
 t25:=Tryz.underlying243
 a25:=Tryz.isAgg243
 z25:=Tryz.sizeOf243
 v25:=Tryz.zeroValue243
 t39:=Tryz.underlying253
 a39:=Tryz.isAgg253
 z39:=Tryz.sizeOf253
 v39:=Tryz.zeroValue253
 t45:=Tryz.underlying300
 a45:=Tryz.isAgg300
 z45:=Tryz.sizeOf300
 v45:=Tryz.zeroValue300
 t46:=Tryz.underlying301
 a46:=Tryz.isAgg301
 z46:=Tryz.sizeOf301
 v46:=Tryz.zeroValue301
 t50:=Tryz.underlying234
 a50:=Tryz.isAgg234
 z50:=Tryz.sizeOf234
 v50:=Tryz.zeroValue234
 t53:=Tryz.underlying307
 a53:=Tryz.isAgg307
 z53:=Tryz.sizeOf307
 v53:=Tryz.zeroValue307
 t55:=Tryz.underlying309
 a55:=Tryz.isAgg309
 z55:=Tryz.sizeOf309
 v55:=Tryz.zeroValue309
 t66:=Tryz.underlying337
 a66:=Tryz.isAgg337
 z66:=Tryz.sizeOf337
 v66:=Tryz.zeroValue337
 t70:=Tryz.underlying341
 a70:=Tryz.isAgg341
 z70:=Tryz.sizeOf341
 v70:=Tryz.zeroValue341
 t76:=Tryz.underlying362
 a76:=Tryz.isAgg362
 z76:=Tryz.sizeOf362
 v76:=Tryz.zeroValue362
 t77:=Tryz.underlying289
 a77:=Tryz.isAgg289
 z77:=Tryz.sizeOf289
 v77:=Tryz.zeroValue289}
theorem zgD(F cur:Array Value)(h:F.size<=cur.size):(putCells id 0 F cur).toList.take F.size=F.toList:=by
 apply List.ext_getElem?;intro t;rw[List.getElem?_take];split
 ·rename_i ht;have h2:t<cur.size:=by omega
  simp[putCells,ht,h2,getElem!_pos]
 ·rename_i ht;rw[List.getElem?_eq_none (by simpa using ht)]
theorem zgC(F cur:Array Value):(putCells id 0 F cur).size =cur.size:=by simp[putCells]
/-- The world behind the sorting. -/
theorem zkR{enc:Problem->List Value}{k m g:Nat}{d:Array Problem}{os:Array Obj}{W:World}{cur:Array Value}{e:TypeId}(hg:W.heap[g]? =some (.cells cur e (0,0))):
  (∀b,b<W.heap.size->b≠g->(sortWorldK enc k W g 0 m d os).heap[b]? =W.heap[b]?)/\(sortWorldK enc k W g 0 m d os).heap[g]? =some (.cells (putCells id 0 (flatK enc k d) cur) e (0,0))/\
   W.heap.size<=(sortWorldK enc k W g 0 m d os).heap.size :=by
 have hlt:g<W.heap.size:=(Array.getElem?_eq_some_iff.1 hg).1;have hh:(sortWorldK enc k W g 0 m d os).heap =W.heap.modify g (onCells (putCells id 0 (flatK enc k d)))++os:=rfl;rw[hh];refine⟨fun b hb hne=> ?_,?_,by simp⟩
 ·rw[Array.getElem?_append_left (by simpa using hb),Array.getElem?_modify,if_neg (Ne.symm hne)]
 ·rw[Array.getElem?_append_left (by simpa using hlt),Array.getElem?_modify,if_pos rfl,hg];rfl
theorem ztX{W:World}{F:Nat->Prop}: ∀(l:List Problem) (vs:List Value),zav W F (l.map zbW).flatten vs↔vs=l.flatMap zgl
 | [],vs=>by simp[zav]
 | p::l,vs=>by
  have ih:=ztX (W:=W) (F:=F) l;simp only[List.map_cons,List.flatten_cons,zbW,eI,List.cons_append,List.nil_append,zav,Aw.Rd,List.flatMap_cons,zgl];constructor
  ·rintro⟨v,r,rfl,rfl,v2,r2,rfl,rfl,v3,r3,rfl,rfl,h⟩;rw[(ih r3).1 (by simpa [zbW,eI]using h)]
  ·rintro rfl;refine⟨_,_,rfl,rfl,_,_,rfl,rfl,_,_,rfl,rfl,?_⟩;have:=(ih (l.flatMap zgl)).2 rfl;simpa [zbW,eI]using this
theorem zba(l:List Problem):(zcl l).length =l.length:=by simp[zcl]
theorem sort_c(l:List Problem)(hl:l.length<4611686018427387904):FnL Tryz.prog 208 [.ar 0 l.length,.d (.clo (.func 153) [] [])] [(0,.arr 221 3 .flat (l.map zbW))] (fun V ol new=>V= .tup []/\ol=[(0,.arr 221 3 .flat ((zcl l).map zbW))]/\new=[]):=by
 refine⟨fun W bs=>Tryz.call208 bs W,?_⟩;intro W F O0 η S vs hm hO hr;simp only[zaN,zaL]at hr;obtain⟨v0,r0,rfl,hv0,v1,r1,rfl,hv1,rfl⟩:=hr;have hobj:=hm.obj 0 _ (by simp only[om,if_true]; rfl);have e0:v0=η 0:=(hv0 221 3 .flat (l.map zbW) (by simp[om])).2 (by simp);have fin: ∀(W':World) (F':Nat->Prop),Mem ⟨Tryz.prog,N0,W,F,O0,[],[],fun _=>undef⟩ (om [(0,.arr 221 3 .flat ((zcl l).map zbW))]) W' F' η S->
   ∃v' V Oo new F' η' S',Ending.returned (.tuple #[])= .returned v'/\(∃ol,Oo=om ol/\(V=AV.tup []/\ol=[(0,AO.arr 221 3 .flat ((zcl l).map zbW))]/\new=[]))/\(∀i∈new,∀lim fam stop l rest,Oo i≠some (.ext lim fam stop l rest))/\
    Mem ⟨Tryz.prog,N0,W,F,O0,[],[],fun _=>undef⟩ Oo W' F' η' S'/\zaL Oo W' F' η' V v'/\za7 (om [(0,.arr 221 3 .flat (l.map zbW))]) Oo η η' new:=by
  intro W' F' m1;refine⟨_,.tup [],_,[],F',η,S,rfl,⟨_,rfl,rfl,rfl,rfl⟩,by simp,m1,by simp[zaL,zaN],?_⟩;intro id o' ho;simp only[om]at ho;split at ho
  ·rename_i h0;subst h0;cases ho;exact .inr ⟨_,by simp only[om,if_true]; rfl,by simp[zba]⟩
  ·cases ho
 have e1:v1= .func (.func 153) #[] #[]:=by
  simp only[Aw.Rd,zav]at hv1;obtain⟨a,b,rfl,rfl,rfl⟩:=hv1;rfl
 subst e0 e1;obtain⟨_,hk,hcase⟩:=hobj;rcases hcase with⟨hn,hes,hs⟩ | ⟨g,cap,cur,s1,hv,hg,hle,hcap,hcur,hs,hC⟩
 ·have:l=[]:=by simpa using hes
  subst this;obtain⟨ad,hn⟩:=hn;rw[hn];refine(AnyF.slices_SortFunc_none Tryz.sortPos ad 0 _ W).mono ?_;rintro e W' ⟨rfl,hW⟩;subst hW;exact fin _ F (by simpa [zcl]using hm)
 ·obtain⟨hC2,rfl⟩:=(zuK _ _ _).1 hC;have hcells:=(ztX l _).1 hC2;rw[List.length_map]at hv hcells;rw[hv];have hsz:(flatK zgl 3 l.toArray).size =l.length*3:=by simp
  have hH:HoldsK zgl 3 W g 0 l.toArray:=by
   intro j hj;rw[hsz]at hj;have hjc:j<cur.size:=by rw[hcur,List.length_map]at*; omega
   have e2:cur[j]? =(flatK zgl 3 l.toArray)[j]? :=by
    have h1:=congrArg (fun x=>x[j]?) hcells;rw[<-zfC]at h1;simp only[List.getElem?_take,hj,if_true,Array.getElem?_toList]at h1;exact h1
   refine⟨?_,by simp[World.frozen?,hg]⟩;simp only[World.cell?,hg,Nat.zero_add];have:(flatK zgl 3 l.toArray)[j]! =(flatK zgl 3 l.toArray)[j]'(by rw[hsz]; exact hj):=getElem!_pos _ j (by rw[hsz]; exact hj);simp only[id,this];rw[show(({block:=g,off:=j,spot:=none}:Addr).spot.isSome)=false from rfl];simp only[Bool.false_eq_true,if_false,e2];rw[Array.getElem?_eq_getElem]
  have hsort:=AnyQ.slices_SortFunc_total Tryz.sortPos 3 Tryz.isAgg221 Tryz.sizeOf221 zgl (fun _=>rfl) (fun x v hv=>by simp[zgl]at hv; rcases hv with rfl | rfl | rfl <;> rfl) zbn zne 153 #[] g 0 cap l.toArray W (fun bs w=>Tryz.call153 bs w) (fun m os dk _ x y=>by simpa [zgl]using zmi x y _) hH (Array.getElem?_eq_some_iff.1 hg).1 (by simpa using hl) zhr;change Calls Tryz.prog 208 _ _ _ at hsort;refine hsort.mono ?_;rintro e W' ⟨rfl,n,os,hW⟩;obtain⟨b1,b2,b3⟩:=zkR (enc:=zgl) (k:=3) (m:=n) (d:=(l.toArray.toList.mergeSort fun x y=> !(ltOf zbn) y x).toArray) (os:=os) hg;have f1:W'.os=W.os:=by rw[hW]; rfl
  have f2:W'.tape=W.tape:=by rw[hW]; rfl
  have f3:W'.output=W.output:=by rw[hW]; rfl
  rw[<-hW]at b1 b2 b3;clear hW hsort;have hk2:za7 (om [(0,.arr 221 3 .flat (l.map zbW))]) (upd (om [(0,.arr 221 3 .flat (l.map zbW))]) 0 (some (.arr 221 3 .flat ((zcl l).map zbW)))) η (upd η 0 (η 0)) []:=by
   intro id o' ho;simp only[upd,om]at ho;split at ho
   ·rename_i h0;subst h0;cases ho;exact .inr ⟨_,by simp only[om,if_true]; rfl,by simp[zba,upd]⟩
   ·rename_i h0;cases ho
  obtain⟨m1,m2⟩:=hm.change (W':=W') (F':=F) 0 (some (.arr 221 3 .flat ((zcl l).map zbW))) (η 0) (S 0) [] f1 f2 f3 b3
   (fun b hb hne=>b1 b hb (fun e=>hne (by rw[hs,e]; simp))) (fun _ h=>h) (fun _ h=>.inl h) (fun b hb=>(hm.apart 0 b hb).1) (hm.nd 0) (fun b hb=>.inl hb) (fun h=>by cases h) hk2 (fun id o ho hne=>by simp[om]at ho; exact absurd ho.1 hne) (fun o ho hF=>by
    cases ho;refine⟨by simp[zba]; simpa using Nat.le_trans hle hcap,fun x hx=> ?_,.inr ⟨g,cap,_,[],?_,b2,?_,hcap,?_,hs,?_⟩⟩
    ·obtain⟨p,_,rfl⟩:=List.mem_map.1 hx; rfl
    ·rw[hv,List.length_map,zba]
    ·simpa [zba]using hle
    ·rw[zgC,hcur]
    ·refine(zuK _ _ _).2 ⟨(ztX _ _).2 ?_,rfl⟩;have hsz2:(flatK zgl 3 (zcl l).toArray).size =l.length*3:=(by simp[zba]);have hle2:(flatK zgl 3 (zcl l).toArray).size <=cur.size:=(by rw[hsz2,hcur]; exact Nat.mul_le_mul_right _ (by simpa using hle));have:=zgD _ cur hle2;rw[zfC,hsz2]at this;rw[List.length_map,zba];exact this)
  have u1:upd (om [(0,.arr 221 3 .flat (l.map zbW))]) 0 (some (.arr 221 3 .flat ((zcl l).map zbW)))=om [(0,.arr 221 3 .flat ((zcl l).map zbW))]:=by
   funext id;simp only[upd,om];split
   ·rfl
   ·rfl
  have u2:upd η 0 (η 0)=η:=by funext id; simp only[upd]; split <;> simp_all
  have u3:upd S 0 (S 0)=S:=by funext id; simp only[upd]; split <;> simp_all
  rw[u1,u2,u3]at m1;exact fin _ F m1
end
set_option maxHeartbeats 1000000
theorem ziu{n:Nat}{js:List Nat}(hn:js.Nodup)(h: ∀j∈js,j<n)(ha: ∀j,j<n->j∈js):js.Perm (List.range n):=
 (List.perm_ext_iff_of_nodup hn List.nodup_range).2 fun j=>by rw[List.mem_range]; exact⟨h j,ha j⟩
theorem zgf{α:Type}(l:List α)(d:α):(List.range l.length).map (fun j=>l.getD j d)=l:=by
 apply List.ext_getElem (by simp);intro i h1 h2;simp[List.getD,h2]
def zet(l:List Problem)(js:List Nat):List Problem:=js.map fun j=>l.getD j default
def eYk(p:Problem):List D:=[zcU p]
theorem ztd(l:List Problem)(vs:List D)(bs:List Nat)(clock:Nat):zoR Tryz.prog 209 [.ptr [.mp (l.map zcU) vs bs clock]] (fun pre=> ∃js:List Nat,js.Nodup/\(∀j∈js,j<l.length)/\pre=(zet l js).map eYk) (fun xs=> ∃js:List Nat,js.Nodup/\(∀j∈js,j<l.length)/\(∀j,j<l.length->j∈js)/\xs=(zet l js).map eYk):=by
 intro lim fam stop lp hY;have:=FnL.of_eC (P:=Tryz.prog) (args:=[.yv 0,.d (.ptr [.mp (l.map zcU) vs bs clock])]) (os:=[(0,.ext lim fam stop lp [])]) (PL:=fun _ ol new=>(∃xs,(∃js:List Nat,js.Nodup/\(∀j∈js,j<l.length)/\(∀j,j<l.length->j∈js)/\xs=(zet l js).map eYk)/\ol=[(0,.ext lim fam stop lp xs)]/\new=[])\/(ol=[(0,.ext lim (fun _=>stop) stop lp [])]/\new=[])) (own:=[]) (fun _=>[]) [0] zat Tryz.func209 rfl Tryz.call209 Tryz.ntmps209 (Nat.le_of_ble_eq_true rfl) Tryz.results209 ?_
 ·refine this.mono ?_;rintro V Oo new ⟨ol,rfl,⟨xs,h1,rfl,h2⟩ | ⟨rfl,h2⟩⟩
  ·exact .inl ⟨xs,h1,rfl,h2⟩
  ·exact .inr ⟨rfl,h2⟩
 simp only[ZE,↓reduceIte,pE,pL,pA,pS,pM,pD];refine zgR (fun _ _=>[]) zat l.length (fun i (js:List Nat)=>js.length=i/\js.Nodup/\ ∀j∈js,j<l.length) (fun i js=>([(0,.yv 0),(5,.mo 5)],[(0,.ext lim fam stop lp ((zet l js).map eYk)),(5,.it (l.map zcU) vs bs clock js)])) [] ?_ ?_ ?_ (fun i js hi hI=> ?_)
 ·simp
 ·simp only[ZE,↓reduceIte,pE,pL,pA,pS,pM,pD]
 ·simp only[ZE,↓reduceIte,pE,pL,pA,pS,pM,pD,zet,List.map_nil]
 obtain⟨h1,h2,h3⟩:=hI;simp only[ZE,↓reduceIte,pE,pL,pA,pS,pM,pD];refine⟨by simp only[ZE,↓reduceIte,pE,pL,pA,pS,pM,pD],fun j hj hjs=> ?_,fun hall=> ?_⟩
 ·have hj':j<l.length:=by simpa using hj
  have hD:l.getD j default=l[j]:=by simp[List.getD,hj']
  have hkj:(l.map zcU).getD j default=D.agg [.lit (.int .i64 l[j].code),.lit (.int .i64 l[j].module),.lit (.int .i64 l[j].item)]:=by
   simp[List.getD,hj',zcU,zbW,eI]
  have hlen:i<l.length:=by
   have:=zdr l.length (j::js) (List.nodup_cons.2 ⟨hjs,h2⟩) (fun k hk=>by
    rcases List.mem_cons.1 hk with rfl | hk
    ·exact hj'
    ·exact h3 k hk)
   simp at this; omega
  have hnew:(js++[j]).Nodup /\ ∀k∈js++[j],k<l.length:=by
   refine⟨List.nodup_append.2 ⟨h2,by simp,fun a ha b hb e=> ?_⟩,fun k hk=> ?_⟩
   ·simp at hb; subst hb; subst e; exact hjs ha
   ·rcases List.mem_append.1 hk with hk | hk
    ·exact h3 k hk
    ·simp at hk; subst hk; exact hj'
  have hpick:(zet l js).map eYk++[[D.agg [.lit (.int .i64 l[j].code),.lit (.int .i64 l[j].module),.lit (.int .i64 l[j].item)]]]=(zet l (js++[j])).map eYk:=by
   simp only[zet,List.map_append,List.map_cons,List.map_nil,hD];rfl
  simp only[ZE,↓reduceIte,pE,pL,pA,pS,pM,pD,hkj,List.getLast?_singleton,Option.some_or];refine⟨_,hY,?_,?_,?_⟩
  ·exact⟨js++[j],hnew.1,hnew.2,hpick⟩
  ·simp only[ZE,↓reduceIte,pE,pL,pA,pS,pM,pD,zep,hpick];refine⟨hlen,js++[j],⟨by simp[h1],hnew⟩,?_⟩;simp only[ZE,↓reduceIte,pE,pL,pA,pS,pM,pD]
  ·simp only[ZE,↓reduceIte,pE,pL,pA,pS,pM,pD];refine⟨[3,5],[],?_⟩;simp only[ZE,↓reduceIte,pE,pL,pA,pS,pM,pD]
 ·simp only[ZE,↓reduceIte,pE,pL,pA,pS,pM,pD];refine⟨[5],[],?_⟩;simp only[ZE,↓reduceIte,pE,pL,pA,pS,pM,pD];exact .inl ⟨_,⟨js,h2,h3,fun j hj=>hall j (by simpa using hj),rfl⟩,rfl⟩
theorem keys_c(l:List Problem)(vs:List D)(bs:List Nat)(clock:Nat):FnP Tryz.prog 152 [.mp (l.map zcU) vs bs clock] (.d (.clo (.func 209) [] [.ptr [.mp (l.map zcU) vs bs clock]])) []:=by
 refine FnP.of_eC (own:=[]) (fun _=>[]) zat Tryz.func152 rfl Tryz.call152 Tryz.ntmps152 (Nat.le_of_ble_eq_true rfl) Tryz.results152 (fun hok=> ?_);simp only[ZE,↓reduceIte,pE,pL,pA,pS,pM,pD]
def rowOf:List D->List D
 | [.agg cs]=>cs
 | _=>[]
theorem zkJ(l:List Problem)(js:List Nat):((zet l js).map eYk).map rowOf=(zet l js).map zbW:=by
 rw[List.map_map]; rfl
theorem ziz(l:List Problem)(vs:List D)(bs:List Nat)(clock:Nat)(hl:l.length<=4000000):FnL Tryz.prog 255 [.nils,.d (.clo (.func 209) [] [.ptr [.mp (l.map zcU) vs bs clock]])] [] (fun V ol new=> ∃l':List Problem,l'.Perm l/\V= .ar 90 l'.length/\ol=[(90,.arr 221 3 .flat (l'.map zbW))]/\new=[90]):=by
 refine FnL.of_eC (own:=[]) (fun id=>if id=0 then [.adB 2 0 90 221 3]else []) [] zat Tryz.func255 rfl Tryz.call255 Tryz.ntmps255 (Nat.le_of_ble_eq_true rfl) Tryz.results255 ?_;simp only[ZE,↓reduceIte,pE,pL,pA,pS,pM,pD];refine zq4 zat (fun _=>[]) rfl (by simp only[ZE,↓reduceIte,pE,pL,pA,pS,pM,pD]) (ztd l vs bs clock) (fun pre=>[(2,.box [.ar 90 pre.length]),(90,.arr 221 3 .flat (pre.map rowOf))]) ?_ ?_ ?_ ?_ ?_
 ·simp only[ZE,↓reduceIte,pE,pL,pA,pS,pM,pD]
 ·intro pre; simp[zdU,zie]
 ·simp only[ZE,↓reduceIte,pE,pL,pA,pS,pM,pD,psOk,zeQ]
 ·rintro pre x ⟨js,h1,h2,h3⟩;have hlen:(pre++[x]).length =js.length:=by rw[h3]; simp[zet]
  have hjl:=zdr l.length js h1 h2;simp only[List.length_append,List.length_cons,List.length_nil]at hlen;obtain⟨p,rfl⟩: ∃p,x=eYk p:=by
   have:x∈(zet l js).map eYk:=by rw[<-h3]; simp
   obtain⟨p,_,rfl⟩:=List.mem_map.1 this;exact⟨p,rfl⟩
  simp only[eYk,zcU,ZE,↓reduceIte,pE,pL,pA,pS,pM,pD,zve,zl0,zdU,zie,zrn,zeQ];refine⟨⟨by omega,by omega⟩,by simp,by simp,?_⟩;rw[List.map_append]; rfl
 ·rintro xs ⟨js,h1,h2,h3,rfl⟩;simp only[ZE,↓reduceIte,pE,pL,pA,pS,pM,pD];refine⟨[2],[90],?_⟩;simp only[ZE,↓reduceIte,pE,pL,pA,pS,pM,pD];refine⟨zet l js,?_,rfl,by rw[zkJ]⟩;have:=(ziu h1 h2 h3).map fun j=>l.getD j default;rw[zgf]at this;exact this
theorem zmg(l:List Problem)(vs:List D)(bs:List Nat)(clock:Nat)(hl:l.length<=4000000):FnL Tryz.prog 207 [.d (.clo (.func 209) [] [.ptr [.mp (l.map zcU) vs bs clock]])] [] (fun V ol new=> ∃l':List Problem,l'.Perm l/\V= .ar 90 l'.length/\ol=[(90,.arr 221 3 .flat (l'.map zbW))]/\new=[90]):=by
 refine FnL.of_eC (own:=[]) (fun id=>[]) [] zat Tryz.func207 rfl Tryz.call207 Tryz.ntmps207 (Nat.le_of_ble_eq_true rfl) Tryz.results207 ?_;simp only[ZE,↓reduceIte,pE,pL,pA,pS,pM,pD];refine EFn.g ⟨[(90,90)],[.nils,.d (.clo (.func 209) [] [.ptr [.mp (l.map zcU) vs bs clock]])],_,_,ziz l vs bs clock hl,?_⟩;simp only[ZE,↓reduceIte,pE,pL,pA,pS,pM,pD];rintro V ol new ⟨l',hp,rfl,rfl,rfl⟩;simp only[ZE,↓reduceIte,pE,pL,pA,pS,pM,pD];refine⟨[],[90],?_⟩;simp only[ZE,↓reduceIte,pE,pL,pA,pS,pM,pD];exact⟨l',hp,rfl,rfl⟩
theorem zkQ{l l':List Problem}(h:l.Perm l'):zcl l=zcl l':=by
 unfold zcl;have tr: ∀a b c:Problem,(!(ltOf zbn) b a)=true->(!(ltOf zbn) c b)=true->(!(ltOf zbn) c a)=true:=by
  intro a b c h1 h2;simp only[Bool.not_eq_true']at*;exact zne.ntrans _ _ _ h2 h1
 have to: ∀a b:Problem,((!(ltOf zbn) b a)||(!(ltOf zbn) a b))=true:=by
  intro a b;simp only[Bool.or_eq_true,Bool.not_eq_true'];rw[zbO,zbO];unfold zds;omega
 refine List.Perm.eq_of_pairwise (le:=fun a b=> !(ltOf zbn) b a) ?_ ?_ ?_ ?_
 ·intro a b _ _ h1 h2;simp only[Bool.not_eq_true']at h1 h2;exact zhr a b h2 h1
 ·exact List.pairwise_mergeSort tr to l
 ·exact List.pairwise_mergeSort tr to l'
 ·exact(List.mergeSort_perm l _).trans (h.trans (List.mergeSort_perm l' _).symm)
theorem zpI(l:List Problem)(vs:List D)(bs:List Nat)(clock:Nat)(hl:l.length<=4000000):FnP Tryz.prog 151 [.clo (.func 209) [] [.ptr [.mp (l.map zcU) vs bs clock]],.clo (.func 153) [] []] (.d (.sl ((zcl l).map zbW))) []:=by
 refine FnP.of_eC (own:=[]) (fun id=>[]) zat Tryz.func151 rfl Tryz.call151 Tryz.ntmps151 (Nat.le_of_ble_eq_true rfl) Tryz.results151 (fun hok=> ?_);simp only[ZE,↓reduceIte,pE,pL,pA,pS,pM,pD];refine EFn.g ⟨[(90,90)],[.d (.clo (.func 209) [] [.ptr [.mp (l.map zcU) vs bs clock]])],_,_,zmg l vs bs clock hl,?_⟩;simp only[ZE,↓reduceIte,pE,pL,pA,pS,pM,pD];rintro V ol new ⟨l',hp,rfl,rfl,rfl⟩;simp only[ZE,↓reduceIte,pE,pL,pA,pS,pM,pD];refine EFn.g ⟨[(0,90)],[.ar 0 l'.length,.d (.clo (.func 153) [] [])],_,_,sort_c l' (by have:=hp.length_eq; omega),?_⟩;simp only[ZE,↓reduceIte,pE,pL,pA,pS,pM,pD];rintro V ol new ⟨rfl,rfl,rfl⟩;simp only[ZE,↓reduceIte,pE,pL,pA,pS,pM,pD];exact⟨(zba l').symm,by rw[zkQ hp]⟩
set_option maxHeartbeats 2000000
/-- What is zcV in a module; in all. -/
def zeo(l:List Module)(i:Nat)(m:Module)(F:List Problem)(k:Nat):List Problem:=(m.items.take k).zipIdx.foldl (fun F p=>zdo l i p.2 m p.1 F) F
def zlY(l:List Module)(F:List Problem)(p:Module×Nat):List Problem:=zeo l p.2 p.1 (zhG l p.2 p.1 F) p.1.items.length
def zcV(l:List Module):List Problem:=l.zipIdx.foldl (zlY l) []
noncomputable def check(l:List Module):List Problem:=zcl (zcV l)
theorem zeL{α β:Type}(f:β->α×Nat->β)(b:β)(l:List α)(i:Nat)(h:i<l.length):(l.take (i+1)).zipIdx.foldl f b=f ((l.take i).zipIdx.foldl f b) (l[i],i):=by
 rw[List.take_succ_eq_append_getElem h,List.zipIdx_append,List.foldl_append,List.length_take,Nat.min_eq_left (Nat.le_of_lt h)];simp
theorem zef(F:List Problem)(b:Bool)(p:Problem):(zaO F b p).length <=F.length+1:=by
 unfold zaO zuN;split
 ·split <;> simp
 ·omega
theorem zw4{l:List Module}{i k:Nat}{m:Module}{x:Item}{F:List Problem}(hi:i<=9223372036854775807)(hk:k<=9223372036854775807)(h: ∀q∈F,zb7 q): ∀q∈zdo l i k m x F,zb7 q:=by
 have hin: ∀c:Int,(Lit.int .i64 c).wf =true->zb7 ⟨c,i,k⟩:=fun c hc=>⟨hc,zdi hi,zdi hk⟩;have h1: ∀q∈zex i k m x F,zb7 q:=by
  unfold zex;split
  ·exact za8 h (hin 1 rfl)
  ·exact h
 have h3:=za8 (b:=zdp l m x) (za8 (b:=zay x) h1 (hin 2 rfl)) (hin 3 rfl);unfold zdo zgm
 (repeat' split) <;> first | exact za8 h3 (hin _ rfl) | exact h3
theorem zs4(l:List Module)(i k:Nat)(m:Module)(x:Item)(F:List Problem):(zdo l i k m x F).length <=F.length+4:=by
 have h1:(zex i k m x F).length <=F.length+1:=by
  unfold zex;split
  ·exact zef _ _ _
  ·omega
 have h2:=zef (zex i k m x F) (zay x) ⟨2,i,k⟩;have h3:=zef (zaO (zex i k m x F) (zay x) ⟨2,i,k⟩) (zdp l m x) ⟨3,i,k⟩;have h4:=fun b p=>zef (zaO (zaO (zex i k m x F) (zay x) ⟨2,i,k⟩) (zdp l m x) ⟨3,i,k⟩) b p;unfold zdo zgm
 (repeat' split) <;> first | omega | exact Nat.le_trans (h4 _ _) (by omega)
theorem zpb{l:List Module}{i:Nat}{m:Module}{F:List Problem}(hi:i<=9223372036854775807)(h: ∀q∈F,zb7 q): ∀q∈zhG l i m F,zb7 q:=
 za8 (za8 h ⟨rfl,zdi hi,rfl⟩) ⟨rfl,zdi hi,rfl⟩
theorem zsT(l:List Module)(i:Nat)(m:Module)(F:List Problem):(zhG l i m F).length <=F.length+2:=by
 have h1:=zef F (zbX l i m) ⟨1,i,-1⟩;have h2:=zef (zaO F (zbX l i m) ⟨1,i,-1⟩) (loops l i) ⟨7,i,-1⟩;unfold zhG; omega
theorem zf1(l:List Module)(i:Nat)(m:Module)(F:List Problem)(k:Nat)(hk:k<m.items.length):zeo l i m F (k+1)=zdo l i k m m.items[k] (zeo l i m F k):=by
 unfold zeo;rw[zeL _ _ _ _ hk]
theorem zmG{l:List Module}{i:Nat}{m:Module}{F:List Problem}(hi:i<=9223372036854775807)(hm:m.items.length<=9223372036854775807)(h: ∀q∈F,zb7 q)(k:Nat):k<=m.items.length-> ∀q∈zeo l i m F k,zb7 q:=by
 induction k with
 | zero=>intro _; exact h
 | succ k ih=>
  intro hk;rw[zf1 _ _ _ _ _ (by omega)];exact zw4 hi (by omega) (ih (by omega))
theorem zqp(l:List Module)(i:Nat)(m:Module)(F:List Problem)(k:Nat):k<=m.items.length->(zeo l i m F k).length <=F.length+4*k:=by
 induction k with
 | zero=>intro _; exact Nat.le_refl _
 | succ k ih=>
  intro hk;rw[zf1 _ _ _ _ _ (by omega)];have:=ih (by omega);have h2:=zs4 l i k m m.items[k] (zeo l i m F k);omega
/-- Files ze1 enough that all fits. -/
structure Small (l:List Module):Prop where
 len:l.length<=1000
 items: ∀m∈l,m.items.length<=900
 nums: ∀m∈l,∀x∈m.items,(zaX x).length <=2000000
theorem zsV(l:List Module)(i:Nat)(h:i<l.length):znH (l.take (i+1))=zc4 (znH (l.take i)) (l[i],i):=by
 unfold znH;exact zeL zc4 [] l i h
theorem modF_in{l:List Module}{F:List Problem}{i:Nat}{m:Module}(hi:i<=9223372036854775807)(hm:m.items.length<=9223372036854775807)(h: ∀q∈F,zb7 q): ∀q∈zlY l F (m,i),zb7 q:=zmG hi hm (zpb hi h) _ (Nat.le_refl _)
theorem zlc{l:List Module}(hS:Small l)(i:Nat):i<=l.length->(∀q∈(l.take i).zipIdx.foldl (zlY l) [],zb7 q)/\((l.take i).zipIdx.foldl (zlY l) []).length <=3602*i:=by
 induction i with
 | zero=>intro _; simp
 | succ i ih=>
  intro hi;obtain⟨h1,h2⟩:=ih (by omega);have hi':i<l.length:=by omega
  rw[zeL _ _ _ _ hi'];have hl:=hS.len;have hm:=hS.items l[i] (List.getElem_mem hi');refine⟨modF_in (by omega) (by omega) h1,?_⟩;have h3:=zsT l i l[i] ((l.take i).zipIdx.foldl (zlY l) []);have h4:=zqp l i l[i] (zhG l i l[i] ((l.take i).zipIdx.foldl (zlY l) [])) l[i].items.length (Nat.le_refl _);have e:zlY l ((l.take i).zipIdx.foldl (zlY l) []) (l[i],i)=zeo l i l[i] (zhG l i l[i] ((l.take i).zipIdx.foldl (zlY l) [])) l[i].items.length :=rfl;rw[e];omega
theorem zkt: ∀ {l:List D},(∀y∈l,y.ok)->D.okL l
 | [],_=>by simp only[D.okL]
 | y::l,h=>by simp only[D.okL]; exact⟨h y (by simp),zkt fun z hz=>h z (by simp[hz])⟩
theorem zp9{m:Module}(h:D.okL (zaC m)):D.okL (zaf m):=by
 simp only[zaC,D.okL]at h;obtain⟨h1,h2,h3,h4,_⟩:=h;have hi:=(za9 h4).2;refine zkt fun y hy=> ?_;simp only[zaf,List.mem_cons,List.not_mem_nil,or_false]at hy;rcases hy with rfl | rfl | rfl | rfl | rfl | rfl
 ·exact h1
 ·exact h2
 ·exact h3
 ·exact h4
 ·simp only[sMp,D.ok];refine⟨zkt fun y hy=> ?_,zkt fun y hy=> ?_⟩
  ·obtain⟨p,_,rfl⟩:=List.mem_map.1 hy; simp only[D.ok]
  ·obtain⟨p,hp,rfl⟩:=List.mem_map.1 hy;simp only[eIt,D.ok];exact hi p.2 (zkf _ p hp)
 ·simp only[sMp,D.ok];refine⟨zkt fun y hy=> ?_,zkt fun y hy=> ?_⟩
  ·obtain⟨p,_,rfl⟩:=List.mem_map.1 hy; simp only[D.ok]
  ·obtain⟨p,_,rfl⟩:=List.mem_map.1 hy; simp only[eB,D.ok]
theorem zqa{l:List Module}(h:(zax l).ok):(zab l).ok :=by
 have h1:l.length<=maxLen:=by simp only[zax,D.ok,List.length_map]at h; exact h.1
 have h2:=(za9 h).2;simp only[zab,D.ok,List.length_map];exact⟨h1,zov fun y hy=>by
  obtain⟨m,hm,rfl⟩:=List.mem_map.1 hy;exact zp9 (h2 m hm)⟩
theorem zk6(l:List Module)(hS:Small l):FnP Tryz.prog 98 [.agg [zax l]] (.d (ze3 (check l))) []:=by
 refine FnP.of_eC (own:=[]) (fun i=>if i=1 then [.adB 3 0 100 232 6]else if i=2005 then [.ord ⟨[(0,none),(1,none),(2,none),(3,none),(4,none),(5,some []),(6,some []),(7,some [])]⟩]else if i=1010 then [.frz 100,.frz 11]else chL i) zat Tryz.func98 rfl Tryz.call98 Tryz.ntmps98 (Nat.le_of_ble_eq_true rfl) Tryz.results98 (fun hok=> ?_);have hlen:=hS.len;have e0:sK ([]:List (Str×Int))=[]:=rfl;have e1:sV eI ([]:List (Str×Int))=[]:=rfl;have e2:znH []=[]:=rfl;simp(maxSteps:=4000000) only[ZE,↓reduceIte,pE,pL,pA,pS,pM,pD,zap,zab,zaF,sMp,zaf,zak,zal,zaj,zN,qT,qG,qL,qH,qN,qB,qE,qO,qA,qM];refine za1 (fun i=>if i=2005 then [.ord ⟨[(0,none),(1,none),(2,none),(3,none),(4,none),(5,some []),(6,some []),(7,some [])]⟩]else chL i) zat l.length (fun _=>True) (fun i=>([(1,.bp 1 0),(3,.bp 3 0),(15,.d (zax l)),(16,.d (eI l.length)),(17,.d (eI i))],
  [(1,.box [.d (zax l)]),(3,.box [.ar 100 i,.mo 11,.mo 12]),(100,.arr 232 6 .flat ((l.take i).map zaf)),(11,.map (sK (znH (l.take i))) (sV eI (znH (l.take i))) (List.range (znH (l.take i)).length) (znH (l.take i)).length),(12,zaS [])])) trivial ?_ ?_ (fun i hi _=> ?_)
 ·simp only[ZE,↓reduceIte,pE,pL,pA,pS,pM,pD]
 ·simp only[ZE,↓reduceIte,pE,pL,pA,pS,pM,pD,zap,zab,zaF,sMp,zaf,zak,zal,zaj,List.take_zero,e0,e1,e2,List.length_nil,List.range_zero,List.map_nil,zaS,pK,pV]
 rcases Nat.lt_or_ge i l.length with h | h
 ·have hw:=zaq (show i<9223372036854775807 by omega);have sc:=zxG l[i];simp only[ZE,↓reduceIte,pE,pL,pA,pS,pM,pD,zap,zab,zaF,sMp,zaf,zak,zal,zaj]at sc;have hst:=zsV l i h;obtain⟨acc,hacc⟩:=zX (znH (l.take i));rw[hacc]at hst;rw[hacc,hst,List.take_succ_eq_append_getElem h,List.map_append];simp only[List.map_cons,List.map_nil];simp(maxSteps:=4000000) only[ZE,↓reduceIte,pE,pL,pA,pS,pM,pD,zaw h,zaa h,zai h,hw,zN,qT,qG,qL,qH,qN,qB,qE,qO,qA,qM,zap,zab,zaF,sMp,zaf,zak,zal,zaj,zaS];refine⟨by kernel_rfl,zaz.i sc ?_⟩;cases hg:get acc l[i].name with
  | none=>
   have e:zc4 acc (l[i],i)=acc++[(l[i].name,(i:Int))]:=by unfold zc4; rw[if_pos (by rw[hg]; rfl)]
   rw[e];have hput:=zkl (zqH eI (x:=(i:Int)) hg);simp only[eI]at hput;simp(maxSteps:=4000000) only[ZE,↓reduceIte,pE,pL,pA,pS,pM,pD,hw,zN,qT,qG,qL,qH,qN,qB,qE,qO,qA,qM,zap,zab,zaF,sMp,zaf,zak,zal,zaj,zaS,hg,hput,List.length_take,Nat.min_eq_left (Nat.le_of_lt h)];exact⟨⟨by omega,by omega⟩,by simp; omega,fun y hy=>zcr _ y hy,fun y hy=>zcr _ y hy,h⟩
  | some z=>
   have e:zc4 acc (l[i],i)=acc:=by unfold zc4; rw[if_neg (by rw[hg]; simp)]
   rw[e];simp(maxSteps:=4000000) only[ZE,↓reduceIte,pE,pL,pA,pS,pM,pD,hw,zN,qT,qG,qL,qH,qN,qB,qE,qO,qA,qM,zap,zab,zaF,sMp,zaf,zak,zal,zaj,zaS,hg,List.length_take,Nat.min_eq_left (Nat.le_of_lt h)];exact⟨⟨by omega,by omega⟩,by simp; omega,fun y hy=>zcr _ y hy,h⟩
 ·have:i=l.length:=by omega
  subst this;have hml:(zax l).ok :=by
   have:=(zaM hok).1;simp only[D.ok,D.okL]at this;exact this.1
  have hsok:=zqa hml;have hm2:=(za9 hml).2;simp(maxSteps:=4000000) only[ZE,↓reduceIte,pE,pL,pA,pS,pM,pD,zaI h,List.take_length,zN,qT,qG,qL,qH,qN,qB,qE,qO,qA,qM,zap,zab,zaF,sMp,zaf,zak,zal,zaj,zaS];refine za1 chL zat l.length (fun _=>True) (fun i=>([(1,.bp 1 0),(3,.bp 3 0),(46,.d (zax l)),(47,.d (eI l.length)),(48,.d (eI i))],
   [(1,.box [.d (zax l)]),(3,.box [.d (zab l),.d (zaF l),.mo 12]),(12,zaS ((l.take i).zipIdx.foldl (zlY l) []))])) trivial ?_ ?_ (fun i hi _=> ?_)
  ·simp only[ZE,↓reduceIte,pE,pL,pA,pS,pM,pD]
  ·simp only[ZE,↓reduceIte,pE,pL,pA,pS,pM,pD,zap,zab,zaF,sMp,zaf,zak,zal,zaj,List.take_zero,List.zipIdx_nil,List.foldl_nil,zaS,pK,pV,List.map_nil,List.length_nil,List.range_zero]
  rcases Nat.lt_or_ge i l.length with h | h
  ·have hw:=zaq (show i<9223372036854775807 by omega);obtain⟨hF1,hF2⟩:=zlc hS i (Nat.le_of_lt h);have hst:=zeL (zlY l) [] l i h;obtain⟨F,hF⟩:=zX ((l.take i).zipIdx.foldl (zlY l) []);rw[hF]at hst hF1 hF2;rw[hF,hst];have hmo:=hm2 l[i] (List.getElem_mem h);have hil:=hS.items l[i] (List.getElem_mem h);have hc:=head_c l i l[i] hsok hmo h F hF1;have hG:=zpb (l:=l) (m:=l[i]) (show i<=9223372036854775807 by omega) hF1;have hlast:zlY l F (l[i],i)=zeo l i l[i] (zhG l i l[i] F) l[i].items.length :=rfl;rw[hlast];obtain⟨G,hGe⟩:=zX (zhG l i l[i] F);rw[hGe]at hc hG ⊢;simp only[ZE,↓reduceIte,pE,pL,pA,pS,pM,pD,zap,zab,zaF,sMp,zaf,zak,zal,zaj,zaS]at hc;simp(maxSteps:=4000000) only[ZE,↓reduceIte,pE,pL,pA,pS,pM,pD,zaw h,zaa h,zai h,zN,qT,qG,qL,qH,qN,qB,qE,qO,qA,qM,zap,zab,zaF,sMp,zaf,zak,zal,zaj,zaS];refine EFn.g ⟨[(1,12)],_,_,_,hc,?_⟩;simp only[ZE,↓reduceIte,pE,pL,pA,pS,pM,pD,zap,zab,zaF,sMp,zaf,zak,zal,zaj];rintro V ol new ⟨rfl,rfl,rfl⟩;simp only[ZE,↓reduceIte,pE,pL,pA,pS,pM,pD,zap,zab,zaF,sMp,zaf,zak,zal,zaj];refine za1 chL zat l[i].items.length (fun _=>True) (fun k=>([(1,.bp 1 0),(3,.bp 3 0),(8,.d (eI i)),(46,.d (zax l)),(47,.d (eI l.length)),(48,.d (eI i)),(59,.d (eI l[i].items.length)),(60,.d (eI k))],
    [(1,.box [.d (zax l)]),(3,.box [.d (zab l),.d (zaF l),.mo 12]),(12,zaS (zeo l i l[i] G k))])) trivial ?_ ?_ (fun k hk _=> ?_)
   ·simp only[ZE,↓reduceIte,pE,pL,pA,pS,pM,pD]
   ·have e:zeo l i l[i] G 0=G:=rfl;simp only[ZE,↓reduceIte,pE,pL,pA,pS,pM,pD,zap,zab,zaF,sMp,zaf,zak,zal,zaj,zaS,e]
   rcases Nat.lt_or_ge k l[i].items.length with h' | h'
   ·have hw':=zaq (show k<9223372036854775807 by omega);have hI:=zmG (l:=l) (show i<=9223372036854775807 by omega) (show l[i].items.length <=9223372036854775807 by omega) hG k (Nat.le_of_lt h');have ic:=item_c l i k l[i] l[i].items[k] hsok h rfl h' rfl (hS.nums _ (List.getElem_mem h) _ (List.getElem_mem h')) _ hI;rw[zf1 _ _ _ _ _ h'];simp only[ZE,↓reduceIte,pE,pL,pA,pS,pM,pD,zap,zab,zaF,sMp,zaf,zak,zal,zaj,zaS]at ic;simp(maxSteps:=4000000) only[ZE,↓reduceIte,pE,pL,pA,pS,pM,pD,zaw h',zN,qT,qG,qL,qH,qN,qB,qE,qO,qA,qM,zap,zab,zaF,sMp,zaf,zak,zal,zaj,zaS,hw'];refine EFn.g ⟨[(1,12)],_,_,_,ic,?_⟩;simp only[ZE,↓reduceIte,pE,pL,pA,pS,pM,pD,zap,zab,zaF,sMp,zaf,zak,zal,zaj];rintro V ol new ⟨rfl,rfl,rfl⟩;simp only[ZE,↓reduceIte,pE,pL,pA,pS,pM,pD,zap,zab,zaF,sMp,zaf,zak,zal,zaj,hw'];exact h'
   ·have:k=l[i].items.length :=(by omega);subst this;simp(maxSteps:=4000000) only[ZE,↓reduceIte,pE,pL,pA,pS,pM,pD,zaI h',zN,qT,qG,qL,qH,qN,qB,qE,qO,qA,qM,zap,zab,zaF,sMp,zaf,zak,zal,zaj,zaS,hw];exact h
  ·have:i=l.length:=by omega
   subst this;have hfd:=zlc hS l.length (Nat.le_refl _);rw[List.take_length]at hfd;have kc:=keys_c (zcV l) (pV (zcV l)) (List.range (zcV l).length) (zcV l).length;have so:=zpI (zcV l) (pV (zcV l)) (List.range (zcV l).length) (zcV l).length (by unfold zcV; omega);have hfe:l.zipIdx.foldl (zlY l) []=zcV l:=rfl;simp(maxSteps:=4000000) only[ZE,↓reduceIte,pE,pL,pA,pS,pM,pD,zaI h,List.take_length,zN,qT,qG,qL,qH,qN,qB,qE,qO,qA,qM,zap,zab,zaF,sMp,zaf,zak,zal,zaj,zaS,hfe];refine EFn.p ?_;simp only[ZE,↓reduceIte,pE,pL,pA,pS,pM,pD,pK];refine zar.i kc ?_;simp only[ZE,↓reduceIte,pE,pL,pA,pS,pM,pD];refine EFn.p ?_;simp only[ZE,↓reduceIte,pE,pL,pA,pS,pM,pD];refine zar.i so ?_;simp only[ZE,↓reduceIte,pE,pL,pA,pS,pM,pD,check]
def zbi(l:List Module):Bool:=(zcV l).length ==0
theorem zhC(l:List Module):(check l).length =(zcV l).length :=zba _
theorem zfs(l:List Module)(hS:Small l):FnP Tryz.prog 44 [.agg [zax l]] (.d (eB (zbi l))) []:=by
 refine FnP.of_eC (own:=[]) (fun _=>[]) zat Tryz.func44 rfl Tryz.call44 Tryz.ntmps44 (Nat.le_of_ble_eq_true rfl) Tryz.results44 (fun hok=> ?_);have cc:=zk6 l hS;simp only[ZE,↓reduceIte,pE,pL,pA,pS,pM,pD]at cc;have h0:(((zcV l).length :Int)==0)=zbi l:=by
  rw[zbi,Bool.eq_iff_iff]; simp
 simp(maxSteps:=4000000) only[ZE,↓reduceIte,pE,pL,pA,pS,pM,pD];refine EFn.p ?_;simp only[ZE,↓reduceIte,pE,pL,pA,pS,pM,pD];refine zar.i cc ?_;simp only[ZE,↓reduceIte,pE,pL,pA,pS,pM,pD,zhC,h0]
theorem addP_ne(F:List Problem)(p:Problem):zuN F p≠[]:=by
 unfold zuN;split
 ·rename_i h;intro h';rw[h']at h;exact absurd h (by simp)
 ·simp
theorem zcc(F:List Problem)(b:Bool)(p:Problem):zaO F b p=[]↔F=[]/\b=false:=by
 unfold zaO;cases b
 ·simp
 ·simp[addP_ne]
theorem foldl_nil{α β:Type}(f:List β->α->List β)(g:α->Bool)(h: ∀F x,f F x=[]↔F=[]/\g x=false): ∀(l:List α) (F:List β),l.foldl f F=[]↔F=[]/\ ∀x∈l,g x=false
 | [],F=>by simp
 | a::r,F=>by
  rw[List.foldl_cons,foldl_nil f g h r,h];simp[and_assoc]
def zcK(l:List Module)(m:Module)(x:Item):Bool:=
 if x.kind.1=5 then has (zbN m [x.a]) x.name
 else if x.kind.1=1 then(zeZ l m x.name).1 !=1||(zeZ l m x.name).2 !=0
 else if x.kind.1=2 then(zeZ l m x.name).1 !=0||(zeZ l m x.name).2 !=1
 else if x.kind.1=3 then(zeZ l m x.name).1 !=1||(zeZ l m x.name).2 !=1
 else if x.kind.1=9 then zeR l x
 else if x.kind.1=7 then zic m x else false
def zaV(l:List Module)(m:Module)(k:Nat)(x:Item):Bool:=(zaW x.kind.1&&zaT m k x)||zay x||zdp l m x||zcK l m x
theorem zs6(l:List Module)(i k:Nat)(m:Module)(x:Item)(F:List Problem):zgm l i k m x F=[]↔F=[]/\zcK l m x=false:=by
 unfold zgm zcK;split
 ·exact zcc _ _ _
 split
 ·exact zcc _ _ _
 split
 ·exact zcc _ _ _
 split
 ·exact zcc _ _ _
 split
 ·exact zcc _ _ _
 split
 ·exact zcc _ _ _
 ·simp
theorem zs3(i k:Nat)(m:Module)(x:Item)(F:List Problem):zex i k m x F=[]↔F=[]/\(zaW x.kind.1&&zaT m k x)=false:=by
 unfold zex;cases zaW x.kind.1
 ·simp
 ·simp[zcc]
theorem zs5(l:List Module)(i k:Nat)(m:Module)(x:Item)(F:List Problem):zdo l i k m x F=[]↔F=[]/\zaV l m k x=false:=by
 rw[zdo,zs6,zcc,zcc,zs3,zaV];simp only[Bool.or_eq_false_iff,and_assoc]
def zcx(l:List Module)(i:Nat)(m:Module):Bool:=zbX l i m||loops l i
def zdH(l:List Module)(p:Module×Nat):Bool:=zcx l p.2 p.1||p.1.items.zipIdx.any fun q=>zaV l p.1 q.2 q.1
theorem zxl(l:List Module)(F:List Problem)(p:Module×Nat):zlY l F p=[]↔F=[]/\zdH l p=false:=by
 rw[zlY,zeo,List.take_length,foldl_nil _ (fun q:Item×Nat=>zaV l p.1 q.2 q.1) (fun F x=>zs5 l p.2 x.2 p.1 x.1 F),zhG,zcc,zcc,zdH,zcx];simp only[Bool.or_eq_false_iff,and_assoc,List.any_eq_false,Bool.not_eq_true]
theorem zir(l:List Module):zbi l= !(l.zipIdx.any (zdH l)):=by
 rw[zbi,Bool.eq_iff_iff];simp only[beq_iff_eq,List.length_eq_zero_iff,Bool.not_eq_true',List.any_eq_false,Bool.not_eq_true,zcV];rw[foldl_nil _ (zdH l) (zxl l)];simp
/-- A zbi file,part by part. -/
theorem zhU(l:List Module):zbi l=true↔ ∀(i:Nat) (h:i<l.length),zcx l i l[i]=false/\ ∀(k:Nat) (hk:k<l[i].items.length),zaV l l[i] k l[i].items[k]=false:=by
 rw[zir];simp only[Bool.not_eq_true',List.any_eq_false,Bool.not_eq_true,zdH,Bool.or_eq_false_iff];constructor
 ·intro h i hi;have h1:=h (l[i],i) (by rw[List.mem_zipIdx_iff_getElem?]; simp[hi]);refine⟨h1.1,fun k hk=>h1.2 (l[i].items[k],k) ?_⟩;rw[List.mem_zipIdx_iff_getElem?];simp[hk]
 ·intro h p hp;rw[List.mem_zipIdx_iff_getElem?]at hp;obtain⟨hi,hp⟩:=List.getElem?_eq_some_iff.1 hp;have h1:=h p.2 hi;rw[hp]at h1;refine⟨h1.1,fun q hq=> ?_⟩;rw[List.mem_zipIdx_iff_getElem?]at hq;obtain⟨hk,hq⟩:=List.getElem?_eq_some_iff.1 hq;have h2:=h1.2 q.2 hk;rw[hq]at h2;exact h2
theorem zfD{α:Type}(a b:List (Str×α))(s:Str):get (a++b) s=(get a s).or (get b s):=by
 unfold get;rw[List.find?_append];cases a.find? _ <;> simp
theorem zlh{α:Type}(s n:Str)(x:α):get [(s,x)] n=if s=n then some x else none:=by
 unfold get;by_cases h:s=n
 ·rw[if_pos h,List.find?_cons_of_pos (by simpa using h)]; rfl
 ·rw[if_neg h,List.find?_cons_of_neg (by simpa using h)]; rfl
/-- Does an item declare a name? -/
def decl(n:Str)(x:Item):Bool:=zaW x.kind.1&&decide (x.name=n)
theorem ziK(n:Str): ∀(l:List Item) (acc:List (Str×Item)),get (l.foldl zcf acc) n=(get acc n).or (l.find? (decl n))
 | [],acc=>by simp
 | x::r,acc=>by
  rw[List.foldl_cons,ziK n r];unfold zcf;by_cases hn:x.name=n
  ·by_cases hd:zaW x.kind.1=true
   ·have hp:decl n x=true:=(by simp[decl,hd,hn]);rw[List.find?_cons_of_pos hp,hd,hn];cases hg:get acc n with
    | none=>simp[zfD,hg,zlh,hn]
    | some y=>simp[hg]
   ·have hp: ¬decl n x=true:=(by simp[decl,hd]);rw[List.find?_cons_of_neg hp];simp[hd]
  ·have hp: ¬decl n x=true:=by simp[decl,hn]
   rw[List.find?_cons_of_neg hp];split
   ·rw[zfD,zlh,if_neg hn]; simp
   ·rfl
theorem zke(n:Str)(l:List Item):get (zbG l) n=l.find? (decl n):=by
 rw[zbG,ziK]; rfl
theorem zj5(m:Module)(n:Str):zce m n=(m.items.find? (decl n)).getD zaU:=by rw[zce,zke]
theorem zmD(n:Str): ∀(l:List Module) (j:Nat) (acc:List (Str×Int)),get ((l.zipIdx j).foldl zc4 acc) n=(get acc n).or ((l.findIdx? (fun m=>decide (m.name=n))).map fun(i:Nat)=>((i+j:Nat):Int))
 | [],j,acc=>by simp
 | m::r,j,acc=>by
  rw[List.zipIdx_cons,List.foldl_cons,zmD n r];have e: ∀i:Nat,((i+(j+1):Nat):Int)=((i+1+j:Nat):Int):=fun i=>by omega
  by_cases hn:m.name=n
  ·have hf:(m::r).findIdx? (fun m=>decide (m.name=n))=some 0:=by rw[List.findIdx?_cons]; simp[hn]
   rw[hf];unfold zc4;cases hg:get acc n with
   | none=>rw[if_pos (by simp[hn,hg]),zfD,hg,hn,zlh]; simp
   | some y=>rw[if_neg (by simp[hn,hg]),hg]; simp
  ·have hf:(m::r).findIdx? (fun m=>decide (m.name=n))=(r.findIdx? (fun m=>decide (m.name=n))).map (· +1):=by rw[List.findIdx?_cons]; simp[hn]
   rw[hf];have hs:get (zc4 acc (m,j)) n=get acc n:=by
    unfold zc4;split
    ·rw[zfD,zlh,if_neg hn]; simp
    ·rfl
   rw[hs,Option.map_map];simp only[Function.comp_def,e]
theorem zhl(l:List Module)(n:Str):zcA l n=(l.findIdx? (fun m=>decide (m.name=n))).map fun(i:Nat)=>(i:Int):=by
 rw[zcA,znH,zmD]; simp[get]
/-! ### Ends as sums -/
def c1B(l:List Module)(x:Item)(n:Str)(b:Bind):Bool:=decide (b.chan=n)&&zbS l x b.port==1
def c2B(l:List Module)(x:Item)(n:Str)(b:Bind):Bool:=decide (b.chan=n)&&zbS l x b.port==2
def c1(l:List Module)(n:Str)(x:Item):Nat:=(if (x.kind.1==7&&decide (x.name=n))=true then 1 else 0)+x.ports.countP (c1B l x n)
def c2(l:List Module)(n:Str)(x:Item):Nat:=(if (x.kind.1==8&&decide (x.name=n))=true then 1 else 0)+x.ports.countP (c2B l x n)
def wt(x:Item):Nat:=1+x.ports.length
def c1s(l:List Module)(n:Str)(r:List Item):Nat:=(r.map (c1 l n)).sum
def c2s(l:List Module)(n:Str)(r:List Item):Nat:=(r.map (c2 l n)).sum
def wts(r:List Item):Nat:=(r.map wt).sum
def zeT(l:List Module)(i:Nat)(m:Module)(r:List Item):List Module:=l.set i {m with items:=r}
theorem zif{l:List Module}(hv:zbi l=true){i:Nat}(hi:i<l.length){A B:List Item}{x:Item}(hm:l[i].items =A++x::B):zaV l l[i] A.length x=false:=by
 have h:=((zhU l).1 hv i hi).2 A.length (by rw[hm]; simp);have e:l[i].items[A.length]'(by rw[hm]; simp)=x:=by
  simp only[hm]; simp
 rwa [e]at h
theorem zen{l:List Module}{m:Module}{k:Nat}{x:Item}(h:zaV l m k x=false):(zaW x.kind.1=true->zaT m k x=false)/\zay x=false/\zdp l m x=false/\zcK l m x=false:=by
 unfold zaV at h;simp only[Bool.or_eq_false_iff]at h;obtain⟨⟨⟨h1,h2⟩,h3⟩,h4⟩:=h;exact⟨fun hd=>by rwa [hd,Bool.true_and]at h1,h2,h3,h4⟩
theorem uniq{l:List Module}(hv:zbi l=true){i:Nat}(hi:i<l.length){A B:List Item}{y:Item}(hm:l[i].items =A++y::B){n:Str}(hy:decl n y=true): ∀x∈A++B,decl n x=false:=by
 intro x hx;unfold decl at hy;simp only[Bool.and_eq_true,decide_eq_true_eq]at hy;rw[<-Bool.not_eq_true];intro hd;unfold decl at hd;simp only[Bool.and_eq_true,decide_eq_true_eq]at hd;rcases List.mem_append.1 hx with hx | hx
 ·have h:=(zen (zif hv hi hm)).1 hy.1;unfold zaT at h;simp only[Bool.or_eq_false_iff]at h;have h1:=h.1.1;rw[hm,List.take_left,List.any_eq_false]at h1;apply h1 x hx;simp[zb8,hd,hy]
 ·obtain⟨B1,B2,rfl⟩:=List.append_of_mem hx;have hm':l[i].items =(A++y::B1)++x::B2:=by rw[hm]; simp
  have h:=(zen (zif hv hi hm')).1 hd.1;unfold zaT at h;simp only[Bool.or_eq_false_iff]at h;have h1:=h.1.1;rw[hm',List.take_left,List.any_eq_false]at h1;apply h1 y (by simp);simp[zb8,hd,hy]
/-! ### Ports of modules -/
def pk(m:Module)(n:Str):Int:=if has [1,2] (zbu m n)=true then zbu m n else 0
theorem zkw(l:List Module)(x:Item)(n:Str):zbS l x n=match zcA l x.of with | some i=>if (x.kind.1==9)=true then pk (l.getD i.toNat zdP) n else 0 | none=>0:=by
 unfold zbS pk;cases zcA l x.of with
 | none=>rfl
 | some i=>
  simp only[zdP];by_cases h9:(x.kind.1==9)=true
  ·simp only[h9,Bool.true_and,if_true];rfl
  ·simp[h9]
/-- The module of a name. -/
def zc9(l:List Module)(n:Str):Option Module:=(zcA l n).map fun i=>l.getD i.toNat zdP
def zpw(x:Item)(a:Option Module)(n:Str):Int:=match a with | some a=>if (x.kind.1==9)=true then pk a n else 0 | none=>0
theorem zkv(l:List Module)(x:Item)(n:Str):zbS l x n=zpw x (zc9 l x.of) n:=by
 rw[zkw]; unfold zc9 zpw; cases zcA l x.of <;> rfl
def ztu(x:Item)(a:Option Module):Bool:=match a with
 | none=>false
 | some a=>(zch a).any (fun p=>(get (znP x.ports) p.1).getD 0 !=1)||((x.args.length:Int) !=(a.params.length:Int)||(x.ports.length:Int) !=((zch a).length :Int))
theorem zkn(l:List Module)(x:Item):zeR l x=ztu x (zc9 l x.of):=by
 unfold zeR ztu zc9; cases zcA l x.of <;> rfl
/-- Two modules with the same ports and as many parameters. -/
structure PE (a b:Module):Prop where
 pk: ∀n,pk a n=pk b n
 ports:zch a=zch b
 params:a.params.length=b.params.length
def OR:Option Module->Option Module->Prop
 | none,none=>True
 | some a,some b=>PE a b
 | _,_=>False
theorem zkd(l:List Module)(n:Str):(zcA l n).isSome =(zc9 l n).isSome :=by unfold zc9; cases zcA l n <;> rfl
/-- Files in which names lead to modules with the same ports. -/
def zpU(l l':List Module):Prop:= ∀n,OR (zc9 l n) (zc9 l' n)
def kcode(x:Item):Int:=if x.kind.1=5 then 4 else if x.kind.1=1 then 5 else if x.kind.1=2 then 5 else if x.kind.1=3 then 5 else if x.kind.1=9 then 6 else 8
/-- An item's code of a problem. -/
def zmF(l:List Module)(m:Module)(k:Nat)(x:Item)(c:Int):Prop:=
 ((zaW x.kind.1&&zaT m k x)=true/\c=1)\/(zay x=true/\c=2)\/(zdp l m x=true/\c=3)\/(zcK l m x=true/\c=kcode x)
/-- A head's code of a problem. -/
def zem(l:List Module)(i:Nat)(m:Module)(c:Int):Prop:=(zbX l i m=true/\c=1)\/(loops l i=true/\c=7)
/-- Has a module this problem? -/
def zko(l:List Module)(i:Nat)(m:Module)(q:Problem):Prop:=
 q.module=i/\((zem l i m q.code/\q.item= -1)\/ ∃(k:Nat) (hk:k<m.items.length),zmF l m k m.items[k] q.code/\q.item=k)
/-! ### Lists in order -/
def ziS(a b:Problem):Prop:=(!(ltOf zbn) b a)=true
theorem znt(x:Item)(ha:sz x.a+sz x.b+sz x.c<=1000)(hr:x.args.length<=1000):(zaX x).length <=2000000:=by
 unfold zaX;rw[List.length_append];have h1:(zbh x).length <=1000:=by
  unfold zbh;split
  ·simp
  split
  ·simp
  split
  ·simp
  split
  ·exact hr
  ·simp
 have h2:(Expr.allL (zbo x)).length <=1000:=by
  have:=(zhj [x.a,x.b,x.c] (zhe x.kind.1)).length_le;rw[zeB [x.a,x.b,x.c]]at this;simp only[List.map_cons,List.map_nil,List.sum_cons,List.sum_nil]at this;unfold zbo;omega
 have h3: ∀r:List Expr,(r.flatMap zaZ).length <=2*r.length:=by
  intro r
  induction r with
  | nil=>simp
  | cons q r ih=>
   rw[List.flatMap_cons,List.length_append,List.length_cons];have:(zaZ q).length <=2:=by
    unfold zaZ;split
    ·simp
    split
    ·simp
    split
    ·simp
    ·simp
   omega
 have:=h3 (Expr.allL (zbo x));omega
theorem zeX{n:Nat}(hn:n<=900){l:List Module}(hl:l.length<=1000)(h: ∀m∈l,Fine n m):Small l:=
 {len:=hl,items:=fun m hm=>Nat.le_trans (h m hm).items hn,nums:=fun m hm x hx=>znt x (by have:=(h m hm).sizes x hx; omega) (by have:=(h m hm).args x hx; omega)}
end Go.Proofs.YtbenhdgpogiadaaGreat
