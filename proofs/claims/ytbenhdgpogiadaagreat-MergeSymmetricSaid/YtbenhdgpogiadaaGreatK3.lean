/-
 CONTRACTS and plain laws. Conditions: those of each law.
-/
import Derived.Test.YtbenhdgpogiadaaGreatK2
import Derived.Test.YtbenhdgpogiadaaGreatK1
import Derived.WalkKit
import Derived.Shelf.SlSortCmp.QuietGrown
import Derived.StillTailTactics
import Derived.Below
import Derived.Shelf.RegionOpenPlain
import Derived.Handy
import Derived.Shelf.SlSortCmp.NoneTotal
import Derived.Ground.SlsfProg
set_option linter.unusedSimpArgs false
set_option linter.unusedVariables false
namespace Go.Proofs.YtbenhdgpogiadaaGreat
open Go.Aw
open Nat renaming reduceEqDiff->pE,reduceLT->pL,reduceAdd->pA,reduceSub->pS,reduceMul->pM,reduceLeDiff->pD
open Int renaming reduceToNat->qT,reduceGT->qG,reduceLT->qL,reduceGE->qH,reduceBNe->qN,reduceBEq->qB,reduceLE->qE,reduceNe->qO,reduceAdd->qA,reduceNeg->qM
set_option maxRecDepth 100000
set_option maxHeartbeats 20000000
def zb8(x y:Item):Bool:=zaW y.kind.1&&decide (y.name=x.name)
theorem zg1(x y:Item):FnP Tryz.prog 200 [.agg (zaK y),.ptr (zaK x)] (.d (eB (zb8 x y))) []:=by
 refine FnP.of_eC (own:=[]) chL zat Tryz.func200 rfl Tryz.call200 Tryz.ntmps200 (Nat.le_of_ble_eq_true rfl) Tryz.results200 (fun hok=> ?_);have dc:=zgV y.kind.1;simp only[ZE,↓reduceIte,pE,pL,pA,pS,pM,pD]at dc;simp(maxSteps:=4000000) only[ZE,↓reduceIte,pE,pL,pA,pS,pM,pD,zap,zab,zaF,sMp,zaf,zak,zal,zaj];refine EFn.p ?_;simp only[ZE,↓reduceIte,pE,pL,pA,pS,pM,pD];refine zar.i dc ?_;simp only[ZE,↓reduceIte,pE,pL,pA,pS,pM,pD,zb8]
def zaT(m:Module)(k:Nat)(x:Item):Bool:=(m.items.take k).any (zb8 x)|| !zcX x.name.1||has m.params x.name
def zex(i k:Nat)(m:Module)(x:Item)(F:List Problem):List Problem:=if zaW x.kind.1=true then zaO F (zaT m k x) ⟨1,i,k⟩else F
def zgm(l:List Module)(i k:Nat)(m:Module)(x:Item)(F:List Problem):List Problem:=
 if x.kind.1=5 then zaO F (has (zbN m [x.a]) x.name) ⟨4,i,k⟩
 else if x.kind.1=1 then zaO F ((zeZ l m x.name).1 !=1||(zeZ l m x.name).2 !=0) ⟨5,i,k⟩
 else if x.kind.1=2 then zaO F ((zeZ l m x.name).1 !=0||(zeZ l m x.name).2 !=1) ⟨5,i,k⟩
 else if x.kind.1=3 then zaO F ((zeZ l m x.name).1 !=1||(zeZ l m x.name).2 !=1) ⟨5,i,k⟩
 else if x.kind.1=9 then zaO F (zeR l x) ⟨6,i,k⟩
 else if x.kind.1=7 then zaO F (zic m x) ⟨8,i,k⟩else F
def zdo(l:List Module)(i k:Nat)(m:Module)(x:Item)(F:List Problem):List Problem:=zgm l i k m x (zaO (zaO (zex i k m x F) (zay x) ⟨2,i,k⟩) (zdp l m x) ⟨3,i,k⟩)
theorem zdD(x:Item):(zaK x).length =35:=by simp[zaK,zgL,zb6,zib]
def itL(i:Nat):List Gh:=if i=2005 then [.chn,.ord ⟨[(0,none),(1,none),(2,none),(3,none),(4,none),(5,none),(6,none),(7,none),(8,none),(9,none),(10,none),(11,none),(12,none),(13,none),(14,none),(15,none),(16,none),(17,none),(18,some [])]⟩]else if i=2006 then [.chn,.ord ⟨[(0,none),(1,none),(2,none),(3,none),(4,none),(5,some [])]⟩]else if i=2007 then [.chn,.ord ⟨[(0,none),(1,none),(2,none),(3,none),(4,none),(5,none),(6,none),(7,some [])]⟩]else if i=2011 then [.chn,.ord ⟨[(0,none),(1,none),(2,none),(3,none),(4,none),(5,none),(6,none),(7,none),(8,none),(9,none),(10,none),(11,some [])]⟩]else if i=2019 then [.chn,.ord ⟨[(0,none),(1,none),(2,none),(3,none),(4,none),(5,none),(6,some [])]⟩]else if i=2021 then [.chn,.ord ⟨[(0,none),(1,none),(2,none),(3,none),(4,none),(5,none),(6,some [])]⟩]else chL i
theorem item_c(l:List Module)(i k:Nat)(m:Module)(x:Item)(hok:D.ok (zab l))(hi:i<l.length)(hm:l[i]=m)(hk:k<m.items.length)(hx:m.items[k]=x)(hn:(zaX x).length <=2000000)(F:List Problem)(hF: ∀q∈F,zb7 q):
  FnL Tryz.prog 150 [.agg [.d (zab l),.d (zaF l),.mo 1],.d (eI i),.d (eI k)] [(1,zaS F)] (fun V ol new=>V= .tup []/\ol=[(1,zaS (zdo l i k m x F))]/\new=[]):=by
 have hll:l.length<=9223372036854775807:=(za9 hok).1;have hml:m.items.length<=9223372036854775807:=by
  have h2:=(za9 hok).2 m (hm▸List.getElem_mem hi);simp only[zaf,D.okL]at h2;exact(za9 h2.2.2.2.1).1
 have wi:=zdi (show i<=9223372036854775807 by omega);have wk:=zdi (show k<=9223372036854775807 by omega);have dc:=zgV x.kind.1;have mc:=zor x;have hin: ∀c:Int,(Lit.int .i64 c).wf =true->zb7 ⟨c,i,k⟩:=fun c hc=>⟨hc,wi,wk⟩;by_cases e:x.kind.1=5
 ·have hd:zaW x.kind.1=true:=by rw[e]; rfl
  have hd':zaW 5=true:=rfl;have hD:zex i k m x F=zaO F (zaT m k x) ⟨1,i,k⟩:=if_pos hd;have hI:zdo l i k m x F=zaO (zaO (zaO (zaO F (zaT m k x) ⟨1,i,k⟩) (zay x) ⟨2,i,k⟩) (zdp l m x) ⟨3,i,k⟩) (has (zbN m [x.a]) x.name) ⟨4,i,k⟩:=by rw[zdo,hD,zgm]; simp[e]
  rw[hI];refine FnL.of_eC (own:=[]) itL [0] zat Tryz.func150 rfl Tryz.call150 Tryz.ntmps150 (Nat.le_of_ble_eq_true rfl) Tryz.results150 ?_;simp only[ZE,↓reduceIte,pE,pL,pA,pS,pM,pD,hd,e]at dc;simp(maxSteps:=4000000) only[ZE,↓reduceIte,pE,pL,pA,pS,pM,pD,zap,zab,zaF,sMp,zaf,zak,zal,zaj,zN,qT,qG,qL,qH,qN,qB,qE,qO,qA,qM,zaS,itL.eq_1,zai hi,zaa hi,hm,zai hk,zaa hk,hx,e];refine EFn.p ?_;simp only[ZE,↓reduceIte,pE,pL,pA,pS,pM,pD,zap,zab,zaF,sMp,zaf,zak,zal,zaj,zN,qT,qG,qL,qH,qN,qB,qE,qO,qA,qM,zaS,itL.eq_1];refine zar.i dc ?_;simp only[ZE,↓reduceIte,pE,pL,pA,pS,pM,pD,zap,zab,zaF,sMp,zaf,zak,zal,zaj,zN,qT,qG,qL,qH,qN,qB,qE,qO,qA,qM,zaS,itL.eq_1,<-List.map_take,Nat.sub_zero,hd'];have tc:=zcI (m.items.take k) 200 (.ptr (zaK x)) (zb8 x) (fun y _=>zg1 x y);have n1:=zdd x.name.1;have c1:=zcd m.params x.name;have r1:=za5 l F hF (zaT m k x) ⟨1,i,k⟩ (hin 1 rfl);have G1:=za8 (b:=zaT m k x) hF (hin 1 rfl);obtain⟨F1,hF1⟩:=zX (zaO F (zaT m k x) ⟨1,i,k⟩);rw[hF1]at r1 G1 ⊢;simp only[ZE,↓reduceIte,pE,pL,pA,pS,pM,pD,e]at tc n1 c1;simp only[ZE,↓reduceIte,pE,pL,pA,pS,pM,pD,zap,zab,zaF,sMp,zaf,zak,zal,zaj,zN,qT,qG,qL,qH,qN,qB,qE,qO,qA,qM,zaS,itL.eq_1,zaT]at r1;refine⟨⟨fun y hy=>(by obtain⟨q,_,rfl⟩:=List.mem_map.1 hy; exact zdD q),by omega,by omega,by omega⟩,EFn.p ?_⟩;simp only[ZE,↓reduceIte,pE,pL,pA,pS,pM,pD,zap,zab,zaF,sMp,zaf,zak,zal,zaj,zN,qT,qG,qL,qH,qN,qB,qE,qO,qA,qM,zaS,itL.eq_1,e];refine zar.i tc ?_;simp only[ZE,↓reduceIte,pE,pL,pA,pS,pM,pD,zap,zab,zaF,sMp,zaf,zak,zal,zaj,zN,qT,qG,qL,qH,qN,qB,qE,qO,qA,qM,zaS,itL.eq_1,e];refine⟨by kernel_rfl,?_⟩;refine za3.i (fun _=>n1) ?_;simp only[ZE,↓reduceIte,pE,pL,pA,pS,pM,pD,zap,zab,zaF,sMp,zaf,zak,zal,zaj,zN,qT,qG,qL,qH,qN,qB,qE,qO,qA,qM,zaS,itL.eq_1,e];refine za3.i (fun _=>c1) ?_;simp only[ZE,↓reduceIte,pE,pL,pA,pS,pM,pD,zap,zab,zaF,sMp,zaf,zak,zal,zaj,zN,qT,qG,qL,qH,qN,qB,qE,qO,qA,qM,zaS,itL.eq_1,e];refine EFn.g ⟨[(1,1)],_,_,_,r1,?_⟩;simp only[ZE,↓reduceIte,pE,pL,pA,pS,pM,pD,zap,zab,zaF,sMp,zaf,zak,zal,zaj,zN,qT,qG,qL,qH,qN,qB,qE,qO,qA,qM,zaS,itL.eq_1];rintro V ol new ⟨rfl,rfl,rfl⟩;have r2:=za5 l F1 G1 (zay x) ⟨2,i,k⟩ (hin 2 rfl);have G2:=za8 (b:=zay x) G1 (hin 2 rfl);have lc:=zhI l (pK (zaO F1 (zay x) ⟨2,i,k⟩)) (pV (zaO F1 (zay x) ⟨2,i,k⟩)) (List.range (zaO F1 (zay x) ⟨2,i,k⟩).length) (zaO F1 (zay x) ⟨2,i,k⟩).length m x hn;have r3:=za5 l _ G2 (zdp l m x) ⟨3,i,k⟩ (hin 3 rfl);have G3:=za8 (b:=zdp l m x) G2 (hin 3 rfl);obtain⟨F3,hF3⟩:=zX (zaO (zaO F1 (zay x) ⟨2,i,k⟩) (zdp l m x) ⟨3,i,k⟩);rw[hF3]at r3 G3 ⊢;have ec:=zhD l (pK F3) (pV F3) (List.range F3.length) F3.length m x.name;simp only[ZE,↓reduceIte,pE,pL,pA,pS,pM,pD,zap,zab,zaF,sMp,zaf,zak,zal,zaj,zN,qT,qG,qL,qH,qN,qB,qE,qO,qA,qM,zaS,itL.eq_1,e]at r2 lc r3 ec mc
  try simp only[ZE,↓reduceIte,pE,pL,pA,pS,pM,pD,zap,zab,zaF,sMp,zaf,zak,zal,zaj,zN,qT,qG,qL,qH,qN,qB,qE,qO,qA,qM,zaS,itL.eq_1,e]
  refine⟨by kernel_rfl,?_⟩;refine za3.i (fun _=>mc) ?_;simp only[ZE,↓reduceIte,pE,pL,pA,pS,pM,pD,zap,zab,zaF,sMp,zaf,zak,zal,zaj,zN,qT,qG,qL,qH,qN,qB,qE,qO,qA,qM,zaS,itL.eq_1,e];refine EFn.g ⟨[(1,1)],_,_,_,r2,?_⟩;simp only[ZE,↓reduceIte,pE,pL,pA,pS,pM,pD,zap,zab,zaF,sMp,zaf,zak,zal,zaj,zN,qT,qG,qL,qH,qN,qB,qE,qO,qA,qM,zaS,itL.eq_1];rintro V ol new ⟨rfl,rfl,rfl⟩;simp only[ZE,↓reduceIte,pE,pL,pA,pS,pM,pD,zap,zab,zaF,sMp,zaf,zak,zal,zaj,zN,qT,qG,qL,qH,qN,qB,qE,qO,qA,qM,zaS,itL.eq_1,e];refine⟨by kernel_rfl,?_⟩;refine za3.i (fun _=>lc) ?_;simp only[ZE,↓reduceIte,pE,pL,pA,pS,pM,pD,zap,zab,zaF,sMp,zaf,zak,zal,zaj,zN,qT,qG,qL,qH,qN,qB,qE,qO,qA,qM,zaS,itL.eq_1,e];refine EFn.g ⟨[(1,1)],_,_,_,r3,?_⟩;simp only[ZE,↓reduceIte,pE,pL,pA,pS,pM,pD,zap,zab,zaF,sMp,zaf,zak,zal,zaj,zN,qT,qG,qL,qH,qN,qB,qE,qO,qA,qM,zaS,itL.eq_1];rintro V ol new ⟨rfl,rfl,rfl⟩;simp only[ZE,↓reduceIte,pE,pL,pA,pS,pM,pD,zap,zab,zaF,sMp,zaf,zak,zal,zaj,zN,qT,qG,qL,qH,qN,qB,qE,qO,qA,qM,zaS,itL.eq_1,e];refine EFn.p ?_;simp only[ZE,↓reduceIte,pE,pL,pA,pS,pM,pD,zap,zab,zaF,sMp,zaf,zak,zal,zaj,zN,qT,qG,qL,qH,qN,qB,qE,qO,qA,qM,zaS,itL.eq_1,e];refine zar.i ec ?_;simp only[ZE,↓reduceIte,pE,pL,pA,pS,pM,pD,zap,zab,zaF,sMp,zaf,zak,zal,zaj,zN,qT,qG,qL,qH,qN,qB,qE,qO,qA,qM,zaS,itL.eq_1,e];have r4:=za5 l F3 G3 (has (zbN m [x.a]) x.name) ⟨4,i,k⟩ (hin 4 rfl);simp only[ZE,↓reduceIte,pE,pL,pA,pS,pM,pD,zap,zab,zaF,sMp,zaf,zak,zal,zaj,zN,qT,qG,qL,qH,qN,qB,qE,qO,qA,qM,zaS,itL.eq_1]at r4;have pc:=zmm m [x.a];simp only[ZE,↓reduceIte,pE,pL,pA,pS,pM,pD,zap,zab,zaF,sMp,zaf,zak,zal,zaj,zN,qT,qG,qL,qH,qN,qB,qE,qO,qA,qM,zaS,itL.eq_1,List.map_cons,List.map_nil]at pc;refine⟨by kernel_rfl,za3.i (fun _=>pc) ?_⟩;simp only[ZE,↓reduceIte,pE,pL,pA,pS,pM,pD,zap,zab,zaF,sMp,zaf,zak,zal,zaj,zN,qT,qG,qL,qH,qN,qB,qE,qO,qA,qM,zaS,itL.eq_1,zlf];refine⟨fun y hy=>zcr _ y hy,?_⟩;refine EFn.g ⟨[(1,1)],_,_,_,r4,?_⟩;simp only[ZE,↓reduceIte,pE,pL,pA,pS,pM,pD,zap,zab,zaF,sMp,zaf,zak,zal,zaj,zN,qT,qG,qL,qH,qN,qB,qE,qO,qA,qM,zaS,itL.eq_1];rintro V ol new ⟨rfl,rfl,rfl⟩;simp only[ZE,↓reduceIte,pE,pL,pA,pS,pM,pD,zap,zab,zaF,sMp,zaf,zak,zal,zaj,zN,qT,qG,qL,qH,qN,qB,qE,qO,qA,qM,zaS,itL.eq_1];refine⟨[3,6,7],[],?_⟩;simp only[ZE,↓reduceIte,pE,pL,pA,pS,pM,pD]
 have n5:=e;by_cases e:x.kind.1=1
 ·have hd:zaW x.kind.1=true:=by rw[e]; rfl
  have hd':zaW 1=true:=rfl;have hD:zex i k m x F=zaO F (zaT m k x) ⟨1,i,k⟩:=if_pos hd;have hI:zdo l i k m x F=zaO (zaO (zaO (zaO F (zaT m k x) ⟨1,i,k⟩) (zay x) ⟨2,i,k⟩) (zdp l m x) ⟨3,i,k⟩) ((zeZ l m x.name).1 !=1||(zeZ l m x.name).2 !=0) ⟨5,i,k⟩:=by rw[zdo,hD,zgm]; simp[e]
  rw[hI];refine FnL.of_eC (own:=[]) itL [0] zat Tryz.func150 rfl Tryz.call150 Tryz.ntmps150 (Nat.le_of_ble_eq_true rfl) Tryz.results150 ?_;simp only[ZE,↓reduceIte,pE,pL,pA,pS,pM,pD,hd,e]at dc;simp(maxSteps:=4000000) only[ZE,↓reduceIte,pE,pL,pA,pS,pM,pD,zap,zab,zaF,sMp,zaf,zak,zal,zaj,zN,qT,qG,qL,qH,qN,qB,qE,qO,qA,qM,zaS,itL.eq_1,zai hi,zaa hi,hm,zai hk,zaa hk,hx,e];refine EFn.p ?_;simp only[ZE,↓reduceIte,pE,pL,pA,pS,pM,pD,zap,zab,zaF,sMp,zaf,zak,zal,zaj,zN,qT,qG,qL,qH,qN,qB,qE,qO,qA,qM,zaS,itL.eq_1];refine zar.i dc ?_;simp only[ZE,↓reduceIte,pE,pL,pA,pS,pM,pD,zap,zab,zaF,sMp,zaf,zak,zal,zaj,zN,qT,qG,qL,qH,qN,qB,qE,qO,qA,qM,zaS,itL.eq_1,<-List.map_take,Nat.sub_zero,hd'];have tc:=zcI (m.items.take k) 200 (.ptr (zaK x)) (zb8 x) (fun y _=>zg1 x y);have n1:=zdd x.name.1;have c1:=zcd m.params x.name;have r1:=za5 l F hF (zaT m k x) ⟨1,i,k⟩ (hin 1 rfl);have G1:=za8 (b:=zaT m k x) hF (hin 1 rfl);obtain⟨F1,hF1⟩:=zX (zaO F (zaT m k x) ⟨1,i,k⟩);rw[hF1]at r1 G1 ⊢;simp only[ZE,↓reduceIte,pE,pL,pA,pS,pM,pD,e]at tc n1 c1;simp only[ZE,↓reduceIte,pE,pL,pA,pS,pM,pD,zap,zab,zaF,sMp,zaf,zak,zal,zaj,zN,qT,qG,qL,qH,qN,qB,qE,qO,qA,qM,zaS,itL.eq_1,zaT]at r1;refine⟨⟨fun y hy=>(by obtain⟨q,_,rfl⟩:=List.mem_map.1 hy; exact zdD q),by omega,by omega,by omega⟩,EFn.p ?_⟩;simp only[ZE,↓reduceIte,pE,pL,pA,pS,pM,pD,zap,zab,zaF,sMp,zaf,zak,zal,zaj,zN,qT,qG,qL,qH,qN,qB,qE,qO,qA,qM,zaS,itL.eq_1,e];refine zar.i tc ?_;simp only[ZE,↓reduceIte,pE,pL,pA,pS,pM,pD,zap,zab,zaF,sMp,zaf,zak,zal,zaj,zN,qT,qG,qL,qH,qN,qB,qE,qO,qA,qM,zaS,itL.eq_1,e];refine⟨by kernel_rfl,?_⟩;refine za3.i (fun _=>n1) ?_;simp only[ZE,↓reduceIte,pE,pL,pA,pS,pM,pD,zap,zab,zaF,sMp,zaf,zak,zal,zaj,zN,qT,qG,qL,qH,qN,qB,qE,qO,qA,qM,zaS,itL.eq_1,e];refine za3.i (fun _=>c1) ?_;simp only[ZE,↓reduceIte,pE,pL,pA,pS,pM,pD,zap,zab,zaF,sMp,zaf,zak,zal,zaj,zN,qT,qG,qL,qH,qN,qB,qE,qO,qA,qM,zaS,itL.eq_1,e];refine EFn.g ⟨[(1,1)],_,_,_,r1,?_⟩;simp only[ZE,↓reduceIte,pE,pL,pA,pS,pM,pD,zap,zab,zaF,sMp,zaf,zak,zal,zaj,zN,qT,qG,qL,qH,qN,qB,qE,qO,qA,qM,zaS,itL.eq_1];rintro V ol new ⟨rfl,rfl,rfl⟩;have r2:=za5 l F1 G1 (zay x) ⟨2,i,k⟩ (hin 2 rfl);have G2:=za8 (b:=zay x) G1 (hin 2 rfl);have lc:=zhI l (pK (zaO F1 (zay x) ⟨2,i,k⟩)) (pV (zaO F1 (zay x) ⟨2,i,k⟩)) (List.range (zaO F1 (zay x) ⟨2,i,k⟩).length) (zaO F1 (zay x) ⟨2,i,k⟩).length m x hn;have r3:=za5 l _ G2 (zdp l m x) ⟨3,i,k⟩ (hin 3 rfl);have G3:=za8 (b:=zdp l m x) G2 (hin 3 rfl);obtain⟨F3,hF3⟩:=zX (zaO (zaO F1 (zay x) ⟨2,i,k⟩) (zdp l m x) ⟨3,i,k⟩);rw[hF3]at r3 G3 ⊢;have ec:=zhD l (pK F3) (pV F3) (List.range F3.length) F3.length m x.name;simp only[ZE,↓reduceIte,pE,pL,pA,pS,pM,pD,zap,zab,zaF,sMp,zaf,zak,zal,zaj,zN,qT,qG,qL,qH,qN,qB,qE,qO,qA,qM,zaS,itL.eq_1,e]at r2 lc r3 ec mc
  try simp only[ZE,↓reduceIte,pE,pL,pA,pS,pM,pD,zap,zab,zaF,sMp,zaf,zak,zal,zaj,zN,qT,qG,qL,qH,qN,qB,qE,qO,qA,qM,zaS,itL.eq_1,e]
  refine⟨by kernel_rfl,?_⟩;refine za3.i (fun _=>mc) ?_;simp only[ZE,↓reduceIte,pE,pL,pA,pS,pM,pD,zap,zab,zaF,sMp,zaf,zak,zal,zaj,zN,qT,qG,qL,qH,qN,qB,qE,qO,qA,qM,zaS,itL.eq_1,e];refine EFn.g ⟨[(1,1)],_,_,_,r2,?_⟩;simp only[ZE,↓reduceIte,pE,pL,pA,pS,pM,pD,zap,zab,zaF,sMp,zaf,zak,zal,zaj,zN,qT,qG,qL,qH,qN,qB,qE,qO,qA,qM,zaS,itL.eq_1];rintro V ol new ⟨rfl,rfl,rfl⟩;simp only[ZE,↓reduceIte,pE,pL,pA,pS,pM,pD,zap,zab,zaF,sMp,zaf,zak,zal,zaj,zN,qT,qG,qL,qH,qN,qB,qE,qO,qA,qM,zaS,itL.eq_1,e];refine⟨by kernel_rfl,?_⟩;refine za3.i (fun _=>lc) ?_;simp only[ZE,↓reduceIte,pE,pL,pA,pS,pM,pD,zap,zab,zaF,sMp,zaf,zak,zal,zaj,zN,qT,qG,qL,qH,qN,qB,qE,qO,qA,qM,zaS,itL.eq_1,e];refine EFn.g ⟨[(1,1)],_,_,_,r3,?_⟩;simp only[ZE,↓reduceIte,pE,pL,pA,pS,pM,pD,zap,zab,zaF,sMp,zaf,zak,zal,zaj,zN,qT,qG,qL,qH,qN,qB,qE,qO,qA,qM,zaS,itL.eq_1];rintro V ol new ⟨rfl,rfl,rfl⟩;simp only[ZE,↓reduceIte,pE,pL,pA,pS,pM,pD,zap,zab,zaF,sMp,zaf,zak,zal,zaj,zN,qT,qG,qL,qH,qN,qB,qE,qO,qA,qM,zaS,itL.eq_1,e];refine EFn.p ?_;simp only[ZE,↓reduceIte,pE,pL,pA,pS,pM,pD,zap,zab,zaF,sMp,zaf,zak,zal,zaj,zN,qT,qG,qL,qH,qN,qB,qE,qO,qA,qM,zaS,itL.eq_1,e];refine zar.i ec ?_;simp only[ZE,↓reduceIte,pE,pL,pA,pS,pM,pD,zap,zab,zaF,sMp,zaf,zak,zal,zaj,zN,qT,qG,qL,qH,qN,qB,qE,qO,qA,qM,zaS,itL.eq_1,e];have r4:=za5 l F3 G3 ((zeZ l m x.name).1 !=1||(zeZ l m x.name).2 !=0) ⟨5,i,k⟩ (hin 5 rfl);simp only[ZE,↓reduceIte,pE,pL,pA,pS,pM,pD,zap,zab,zaF,sMp,zaf,zak,zal,zaj,zN,qT,qG,qL,qH,qN,qB,qE,qO,qA,qM,zaS,itL.eq_1]at r4;refine EFn.g ⟨[(1,1)],_,_,_,r4,?_⟩;simp only[ZE,↓reduceIte,pE,pL,pA,pS,pM,pD,zap,zab,zaF,sMp,zaf,zak,zal,zaj,zN,qT,qG,qL,qH,qN,qB,qE,qO,qA,qM,zaS,itL.eq_1];rintro V ol new ⟨rfl,rfl,rfl⟩;simp only[ZE,↓reduceIte,pE,pL,pA,pS,pM,pD,zap,zab,zaF,sMp,zaf,zak,zal,zaj,zN,qT,qG,qL,qH,qN,qB,qE,qO,qA,qM,zaS,itL.eq_1];refine⟨[3,6,7],[],?_⟩;simp only[ZE,↓reduceIte,pE,pL,pA,pS,pM,pD]
 have n1:=e;by_cases e:x.kind.1=2
 ·have hd:zaW x.kind.1=true:=by rw[e]; rfl
  have hd':zaW 2=true:=rfl;have hD:zex i k m x F=zaO F (zaT m k x) ⟨1,i,k⟩:=if_pos hd;have hI:zdo l i k m x F=zaO (zaO (zaO (zaO F (zaT m k x) ⟨1,i,k⟩) (zay x) ⟨2,i,k⟩) (zdp l m x) ⟨3,i,k⟩) ((zeZ l m x.name).1 !=0||(zeZ l m x.name).2 !=1) ⟨5,i,k⟩:=by rw[zdo,hD,zgm]; simp[e]
  rw[hI];refine FnL.of_eC (own:=[]) itL [0] zat Tryz.func150 rfl Tryz.call150 Tryz.ntmps150 (Nat.le_of_ble_eq_true rfl) Tryz.results150 ?_;simp only[ZE,↓reduceIte,pE,pL,pA,pS,pM,pD,hd,e]at dc;simp(maxSteps:=4000000) only[ZE,↓reduceIte,pE,pL,pA,pS,pM,pD,zap,zab,zaF,sMp,zaf,zak,zal,zaj,zN,qT,qG,qL,qH,qN,qB,qE,qO,qA,qM,zaS,itL.eq_1,zai hi,zaa hi,hm,zai hk,zaa hk,hx,e];refine EFn.p ?_;simp only[ZE,↓reduceIte,pE,pL,pA,pS,pM,pD,zap,zab,zaF,sMp,zaf,zak,zal,zaj,zN,qT,qG,qL,qH,qN,qB,qE,qO,qA,qM,zaS,itL.eq_1];refine zar.i dc ?_;simp only[ZE,↓reduceIte,pE,pL,pA,pS,pM,pD,zap,zab,zaF,sMp,zaf,zak,zal,zaj,zN,qT,qG,qL,qH,qN,qB,qE,qO,qA,qM,zaS,itL.eq_1,<-List.map_take,Nat.sub_zero,hd'];have tc:=zcI (m.items.take k) 200 (.ptr (zaK x)) (zb8 x) (fun y _=>zg1 x y);have n1:=zdd x.name.1;have c1:=zcd m.params x.name;have r1:=za5 l F hF (zaT m k x) ⟨1,i,k⟩ (hin 1 rfl);have G1:=za8 (b:=zaT m k x) hF (hin 1 rfl);obtain⟨F1,hF1⟩:=zX (zaO F (zaT m k x) ⟨1,i,k⟩);rw[hF1]at r1 G1 ⊢;simp only[ZE,↓reduceIte,pE,pL,pA,pS,pM,pD,e]at tc n1 c1;simp only[ZE,↓reduceIte,pE,pL,pA,pS,pM,pD,zap,zab,zaF,sMp,zaf,zak,zal,zaj,zN,qT,qG,qL,qH,qN,qB,qE,qO,qA,qM,zaS,itL.eq_1,zaT]at r1;refine⟨⟨fun y hy=>(by obtain⟨q,_,rfl⟩:=List.mem_map.1 hy; exact zdD q),by omega,by omega,by omega⟩,EFn.p ?_⟩;simp only[ZE,↓reduceIte,pE,pL,pA,pS,pM,pD,zap,zab,zaF,sMp,zaf,zak,zal,zaj,zN,qT,qG,qL,qH,qN,qB,qE,qO,qA,qM,zaS,itL.eq_1,e];refine zar.i tc ?_;simp only[ZE,↓reduceIte,pE,pL,pA,pS,pM,pD,zap,zab,zaF,sMp,zaf,zak,zal,zaj,zN,qT,qG,qL,qH,qN,qB,qE,qO,qA,qM,zaS,itL.eq_1,e];refine⟨by kernel_rfl,?_⟩;refine za3.i (fun _=>n1) ?_;simp only[ZE,↓reduceIte,pE,pL,pA,pS,pM,pD,zap,zab,zaF,sMp,zaf,zak,zal,zaj,zN,qT,qG,qL,qH,qN,qB,qE,qO,qA,qM,zaS,itL.eq_1,e];refine za3.i (fun _=>c1) ?_;simp only[ZE,↓reduceIte,pE,pL,pA,pS,pM,pD,zap,zab,zaF,sMp,zaf,zak,zal,zaj,zN,qT,qG,qL,qH,qN,qB,qE,qO,qA,qM,zaS,itL.eq_1,e];refine EFn.g ⟨[(1,1)],_,_,_,r1,?_⟩;simp only[ZE,↓reduceIte,pE,pL,pA,pS,pM,pD,zap,zab,zaF,sMp,zaf,zak,zal,zaj,zN,qT,qG,qL,qH,qN,qB,qE,qO,qA,qM,zaS,itL.eq_1];rintro V ol new ⟨rfl,rfl,rfl⟩;have r2:=za5 l F1 G1 (zay x) ⟨2,i,k⟩ (hin 2 rfl);have G2:=za8 (b:=zay x) G1 (hin 2 rfl);have lc:=zhI l (pK (zaO F1 (zay x) ⟨2,i,k⟩)) (pV (zaO F1 (zay x) ⟨2,i,k⟩)) (List.range (zaO F1 (zay x) ⟨2,i,k⟩).length) (zaO F1 (zay x) ⟨2,i,k⟩).length m x hn;have r3:=za5 l _ G2 (zdp l m x) ⟨3,i,k⟩ (hin 3 rfl);have G3:=za8 (b:=zdp l m x) G2 (hin 3 rfl);obtain⟨F3,hF3⟩:=zX (zaO (zaO F1 (zay x) ⟨2,i,k⟩) (zdp l m x) ⟨3,i,k⟩);rw[hF3]at r3 G3 ⊢;have ec:=zhD l (pK F3) (pV F3) (List.range F3.length) F3.length m x.name;simp only[ZE,↓reduceIte,pE,pL,pA,pS,pM,pD,zap,zab,zaF,sMp,zaf,zak,zal,zaj,zN,qT,qG,qL,qH,qN,qB,qE,qO,qA,qM,zaS,itL.eq_1,e]at r2 lc r3 ec mc
  try simp only[ZE,↓reduceIte,pE,pL,pA,pS,pM,pD,zap,zab,zaF,sMp,zaf,zak,zal,zaj,zN,qT,qG,qL,qH,qN,qB,qE,qO,qA,qM,zaS,itL.eq_1,e]
  refine⟨by kernel_rfl,?_⟩;refine za3.i (fun _=>mc) ?_;simp only[ZE,↓reduceIte,pE,pL,pA,pS,pM,pD,zap,zab,zaF,sMp,zaf,zak,zal,zaj,zN,qT,qG,qL,qH,qN,qB,qE,qO,qA,qM,zaS,itL.eq_1,e];refine EFn.g ⟨[(1,1)],_,_,_,r2,?_⟩;simp only[ZE,↓reduceIte,pE,pL,pA,pS,pM,pD,zap,zab,zaF,sMp,zaf,zak,zal,zaj,zN,qT,qG,qL,qH,qN,qB,qE,qO,qA,qM,zaS,itL.eq_1];rintro V ol new ⟨rfl,rfl,rfl⟩;simp only[ZE,↓reduceIte,pE,pL,pA,pS,pM,pD,zap,zab,zaF,sMp,zaf,zak,zal,zaj,zN,qT,qG,qL,qH,qN,qB,qE,qO,qA,qM,zaS,itL.eq_1,e];refine⟨by kernel_rfl,?_⟩;refine za3.i (fun _=>lc) ?_;simp only[ZE,↓reduceIte,pE,pL,pA,pS,pM,pD,zap,zab,zaF,sMp,zaf,zak,zal,zaj,zN,qT,qG,qL,qH,qN,qB,qE,qO,qA,qM,zaS,itL.eq_1,e];refine EFn.g ⟨[(1,1)],_,_,_,r3,?_⟩;simp only[ZE,↓reduceIte,pE,pL,pA,pS,pM,pD,zap,zab,zaF,sMp,zaf,zak,zal,zaj,zN,qT,qG,qL,qH,qN,qB,qE,qO,qA,qM,zaS,itL.eq_1];rintro V ol new ⟨rfl,rfl,rfl⟩;simp only[ZE,↓reduceIte,pE,pL,pA,pS,pM,pD,zap,zab,zaF,sMp,zaf,zak,zal,zaj,zN,qT,qG,qL,qH,qN,qB,qE,qO,qA,qM,zaS,itL.eq_1,e];refine EFn.p ?_;simp only[ZE,↓reduceIte,pE,pL,pA,pS,pM,pD,zap,zab,zaF,sMp,zaf,zak,zal,zaj,zN,qT,qG,qL,qH,qN,qB,qE,qO,qA,qM,zaS,itL.eq_1,e];refine zar.i ec ?_;simp only[ZE,↓reduceIte,pE,pL,pA,pS,pM,pD,zap,zab,zaF,sMp,zaf,zak,zal,zaj,zN,qT,qG,qL,qH,qN,qB,qE,qO,qA,qM,zaS,itL.eq_1,e];have r4:=za5 l F3 G3 ((zeZ l m x.name).1 !=0||(zeZ l m x.name).2 !=1) ⟨5,i,k⟩ (hin 5 rfl);simp only[ZE,↓reduceIte,pE,pL,pA,pS,pM,pD,zap,zab,zaF,sMp,zaf,zak,zal,zaj,zN,qT,qG,qL,qH,qN,qB,qE,qO,qA,qM,zaS,itL.eq_1]at r4;refine EFn.g ⟨[(1,1)],_,_,_,r4,?_⟩;simp only[ZE,↓reduceIte,pE,pL,pA,pS,pM,pD,zap,zab,zaF,sMp,zaf,zak,zal,zaj,zN,qT,qG,qL,qH,qN,qB,qE,qO,qA,qM,zaS,itL.eq_1];rintro V ol new ⟨rfl,rfl,rfl⟩;simp only[ZE,↓reduceIte,pE,pL,pA,pS,pM,pD,zap,zab,zaF,sMp,zaf,zak,zal,zaj,zN,qT,qG,qL,qH,qN,qB,qE,qO,qA,qM,zaS,itL.eq_1];refine⟨[3,6,7],[],?_⟩;simp only[ZE,↓reduceIte,pE,pL,pA,pS,pM,pD]
 have n2:=e;by_cases e:x.kind.1=3
 ·have hd:zaW x.kind.1=true:=by rw[e]; rfl
  have hd':zaW 3=true:=rfl;have hD:zex i k m x F=zaO F (zaT m k x) ⟨1,i,k⟩:=if_pos hd;have hI:zdo l i k m x F=zaO (zaO (zaO (zaO F (zaT m k x) ⟨1,i,k⟩) (zay x) ⟨2,i,k⟩) (zdp l m x) ⟨3,i,k⟩) ((zeZ l m x.name).1 !=1||(zeZ l m x.name).2 !=1) ⟨5,i,k⟩:=by rw[zdo,hD,zgm]; simp[e]
  rw[hI];refine FnL.of_eC (own:=[]) itL [0] zat Tryz.func150 rfl Tryz.call150 Tryz.ntmps150 (Nat.le_of_ble_eq_true rfl) Tryz.results150 ?_;simp only[ZE,↓reduceIte,pE,pL,pA,pS,pM,pD,hd,e]at dc;simp(maxSteps:=4000000) only[ZE,↓reduceIte,pE,pL,pA,pS,pM,pD,zap,zab,zaF,sMp,zaf,zak,zal,zaj,zN,qT,qG,qL,qH,qN,qB,qE,qO,qA,qM,zaS,itL.eq_1,zai hi,zaa hi,hm,zai hk,zaa hk,hx,e];refine EFn.p ?_;simp only[ZE,↓reduceIte,pE,pL,pA,pS,pM,pD,zap,zab,zaF,sMp,zaf,zak,zal,zaj,zN,qT,qG,qL,qH,qN,qB,qE,qO,qA,qM,zaS,itL.eq_1];refine zar.i dc ?_;simp only[ZE,↓reduceIte,pE,pL,pA,pS,pM,pD,zap,zab,zaF,sMp,zaf,zak,zal,zaj,zN,qT,qG,qL,qH,qN,qB,qE,qO,qA,qM,zaS,itL.eq_1,<-List.map_take,Nat.sub_zero,hd'];have tc:=zcI (m.items.take k) 200 (.ptr (zaK x)) (zb8 x) (fun y _=>zg1 x y);have n1:=zdd x.name.1;have c1:=zcd m.params x.name;have r1:=za5 l F hF (zaT m k x) ⟨1,i,k⟩ (hin 1 rfl);have G1:=za8 (b:=zaT m k x) hF (hin 1 rfl);obtain⟨F1,hF1⟩:=zX (zaO F (zaT m k x) ⟨1,i,k⟩);rw[hF1]at r1 G1 ⊢;simp only[ZE,↓reduceIte,pE,pL,pA,pS,pM,pD,e]at tc n1 c1;simp only[ZE,↓reduceIte,pE,pL,pA,pS,pM,pD,zap,zab,zaF,sMp,zaf,zak,zal,zaj,zN,qT,qG,qL,qH,qN,qB,qE,qO,qA,qM,zaS,itL.eq_1,zaT]at r1;refine⟨⟨fun y hy=>(by obtain⟨q,_,rfl⟩:=List.mem_map.1 hy; exact zdD q),by omega,by omega,by omega⟩,EFn.p ?_⟩;simp only[ZE,↓reduceIte,pE,pL,pA,pS,pM,pD,zap,zab,zaF,sMp,zaf,zak,zal,zaj,zN,qT,qG,qL,qH,qN,qB,qE,qO,qA,qM,zaS,itL.eq_1,e];refine zar.i tc ?_;simp only[ZE,↓reduceIte,pE,pL,pA,pS,pM,pD,zap,zab,zaF,sMp,zaf,zak,zal,zaj,zN,qT,qG,qL,qH,qN,qB,qE,qO,qA,qM,zaS,itL.eq_1,e];refine⟨by kernel_rfl,?_⟩;refine za3.i (fun _=>n1) ?_;simp only[ZE,↓reduceIte,pE,pL,pA,pS,pM,pD,zap,zab,zaF,sMp,zaf,zak,zal,zaj,zN,qT,qG,qL,qH,qN,qB,qE,qO,qA,qM,zaS,itL.eq_1,e];refine za3.i (fun _=>c1) ?_;simp only[ZE,↓reduceIte,pE,pL,pA,pS,pM,pD,zap,zab,zaF,sMp,zaf,zak,zal,zaj,zN,qT,qG,qL,qH,qN,qB,qE,qO,qA,qM,zaS,itL.eq_1,e];refine EFn.g ⟨[(1,1)],_,_,_,r1,?_⟩;simp only[ZE,↓reduceIte,pE,pL,pA,pS,pM,pD,zap,zab,zaF,sMp,zaf,zak,zal,zaj,zN,qT,qG,qL,qH,qN,qB,qE,qO,qA,qM,zaS,itL.eq_1];rintro V ol new ⟨rfl,rfl,rfl⟩;have r2:=za5 l F1 G1 (zay x) ⟨2,i,k⟩ (hin 2 rfl);have G2:=za8 (b:=zay x) G1 (hin 2 rfl);have lc:=zhI l (pK (zaO F1 (zay x) ⟨2,i,k⟩)) (pV (zaO F1 (zay x) ⟨2,i,k⟩)) (List.range (zaO F1 (zay x) ⟨2,i,k⟩).length) (zaO F1 (zay x) ⟨2,i,k⟩).length m x hn;have r3:=za5 l _ G2 (zdp l m x) ⟨3,i,k⟩ (hin 3 rfl);have G3:=za8 (b:=zdp l m x) G2 (hin 3 rfl);obtain⟨F3,hF3⟩:=zX (zaO (zaO F1 (zay x) ⟨2,i,k⟩) (zdp l m x) ⟨3,i,k⟩);rw[hF3]at r3 G3 ⊢;have ec:=zhD l (pK F3) (pV F3) (List.range F3.length) F3.length m x.name;simp only[ZE,↓reduceIte,pE,pL,pA,pS,pM,pD,zap,zab,zaF,sMp,zaf,zak,zal,zaj,zN,qT,qG,qL,qH,qN,qB,qE,qO,qA,qM,zaS,itL.eq_1,e]at r2 lc r3 ec mc
  try simp only[ZE,↓reduceIte,pE,pL,pA,pS,pM,pD,zap,zab,zaF,sMp,zaf,zak,zal,zaj,zN,qT,qG,qL,qH,qN,qB,qE,qO,qA,qM,zaS,itL.eq_1,e]
  refine⟨by kernel_rfl,?_⟩;refine za3.i (fun _=>mc) ?_;simp only[ZE,↓reduceIte,pE,pL,pA,pS,pM,pD,zap,zab,zaF,sMp,zaf,zak,zal,zaj,zN,qT,qG,qL,qH,qN,qB,qE,qO,qA,qM,zaS,itL.eq_1,e];refine EFn.g ⟨[(1,1)],_,_,_,r2,?_⟩;simp only[ZE,↓reduceIte,pE,pL,pA,pS,pM,pD,zap,zab,zaF,sMp,zaf,zak,zal,zaj,zN,qT,qG,qL,qH,qN,qB,qE,qO,qA,qM,zaS,itL.eq_1];rintro V ol new ⟨rfl,rfl,rfl⟩;simp only[ZE,↓reduceIte,pE,pL,pA,pS,pM,pD,zap,zab,zaF,sMp,zaf,zak,zal,zaj,zN,qT,qG,qL,qH,qN,qB,qE,qO,qA,qM,zaS,itL.eq_1,e];refine⟨by kernel_rfl,?_⟩;refine za3.i (fun _=>lc) ?_;simp only[ZE,↓reduceIte,pE,pL,pA,pS,pM,pD,zap,zab,zaF,sMp,zaf,zak,zal,zaj,zN,qT,qG,qL,qH,qN,qB,qE,qO,qA,qM,zaS,itL.eq_1,e];refine EFn.g ⟨[(1,1)],_,_,_,r3,?_⟩;simp only[ZE,↓reduceIte,pE,pL,pA,pS,pM,pD,zap,zab,zaF,sMp,zaf,zak,zal,zaj,zN,qT,qG,qL,qH,qN,qB,qE,qO,qA,qM,zaS,itL.eq_1];rintro V ol new ⟨rfl,rfl,rfl⟩;simp only[ZE,↓reduceIte,pE,pL,pA,pS,pM,pD,zap,zab,zaF,sMp,zaf,zak,zal,zaj,zN,qT,qG,qL,qH,qN,qB,qE,qO,qA,qM,zaS,itL.eq_1,e];refine EFn.p ?_;simp only[ZE,↓reduceIte,pE,pL,pA,pS,pM,pD,zap,zab,zaF,sMp,zaf,zak,zal,zaj,zN,qT,qG,qL,qH,qN,qB,qE,qO,qA,qM,zaS,itL.eq_1,e];refine zar.i ec ?_;simp only[ZE,↓reduceIte,pE,pL,pA,pS,pM,pD,zap,zab,zaF,sMp,zaf,zak,zal,zaj,zN,qT,qG,qL,qH,qN,qB,qE,qO,qA,qM,zaS,itL.eq_1,e];have r4:=za5 l F3 G3 ((zeZ l m x.name).1 !=1||(zeZ l m x.name).2 !=1) ⟨5,i,k⟩ (hin 5 rfl);simp only[ZE,↓reduceIte,pE,pL,pA,pS,pM,pD,zap,zab,zaF,sMp,zaf,zak,zal,zaj,zN,qT,qG,qL,qH,qN,qB,qE,qO,qA,qM,zaS,itL.eq_1]at r4;refine EFn.g ⟨[(1,1)],_,_,_,r4,?_⟩;simp only[ZE,↓reduceIte,pE,pL,pA,pS,pM,pD,zap,zab,zaF,sMp,zaf,zak,zal,zaj,zN,qT,qG,qL,qH,qN,qB,qE,qO,qA,qM,zaS,itL.eq_1];rintro V ol new ⟨rfl,rfl,rfl⟩;simp only[ZE,↓reduceIte,pE,pL,pA,pS,pM,pD,zap,zab,zaF,sMp,zaf,zak,zal,zaj,zN,qT,qG,qL,qH,qN,qB,qE,qO,qA,qM,zaS,itL.eq_1];refine⟨[3,6,7],[],?_⟩;simp only[ZE,↓reduceIte,pE,pL,pA,pS,pM,pD]
 have n3:=e;by_cases e:x.kind.1=9
 ·have hd:zaW x.kind.1=true:=by rw[e]; rfl
  have hd':zaW 9=true:=rfl;have hD:zex i k m x F=zaO F (zaT m k x) ⟨1,i,k⟩:=if_pos hd;have hI:zdo l i k m x F=zaO (zaO (zaO (zaO F (zaT m k x) ⟨1,i,k⟩) (zay x) ⟨2,i,k⟩) (zdp l m x) ⟨3,i,k⟩) (zeR l x) ⟨6,i,k⟩:=by rw[zdo,hD,zgm]; simp[e]
  rw[hI];refine FnL.of_eC (own:=[]) itL [0] zat Tryz.func150 rfl Tryz.call150 Tryz.ntmps150 (Nat.le_of_ble_eq_true rfl) Tryz.results150 ?_;simp only[ZE,↓reduceIte,pE,pL,pA,pS,pM,pD,hd,e]at dc;simp(maxSteps:=4000000) only[ZE,↓reduceIte,pE,pL,pA,pS,pM,pD,zap,zab,zaF,sMp,zaf,zak,zal,zaj,zN,qT,qG,qL,qH,qN,qB,qE,qO,qA,qM,zaS,itL.eq_1,zai hi,zaa hi,hm,zai hk,zaa hk,hx,e];refine EFn.p ?_;simp only[ZE,↓reduceIte,pE,pL,pA,pS,pM,pD,zap,zab,zaF,sMp,zaf,zak,zal,zaj,zN,qT,qG,qL,qH,qN,qB,qE,qO,qA,qM,zaS,itL.eq_1];refine zar.i dc ?_;simp only[ZE,↓reduceIte,pE,pL,pA,pS,pM,pD,zap,zab,zaF,sMp,zaf,zak,zal,zaj,zN,qT,qG,qL,qH,qN,qB,qE,qO,qA,qM,zaS,itL.eq_1,<-List.map_take,Nat.sub_zero,hd'];have tc:=zcI (m.items.take k) 200 (.ptr (zaK x)) (zb8 x) (fun y _=>zg1 x y);have n1:=zdd x.name.1;have c1:=zcd m.params x.name;have r1:=za5 l F hF (zaT m k x) ⟨1,i,k⟩ (hin 1 rfl);have G1:=za8 (b:=zaT m k x) hF (hin 1 rfl);obtain⟨F1,hF1⟩:=zX (zaO F (zaT m k x) ⟨1,i,k⟩);rw[hF1]at r1 G1 ⊢;simp only[ZE,↓reduceIte,pE,pL,pA,pS,pM,pD,e]at tc n1 c1;simp only[ZE,↓reduceIte,pE,pL,pA,pS,pM,pD,zap,zab,zaF,sMp,zaf,zak,zal,zaj,zN,qT,qG,qL,qH,qN,qB,qE,qO,qA,qM,zaS,itL.eq_1,zaT]at r1;refine⟨⟨fun y hy=>(by obtain⟨q,_,rfl⟩:=List.mem_map.1 hy; exact zdD q),by omega,by omega,by omega⟩,EFn.p ?_⟩;simp only[ZE,↓reduceIte,pE,pL,pA,pS,pM,pD,zap,zab,zaF,sMp,zaf,zak,zal,zaj,zN,qT,qG,qL,qH,qN,qB,qE,qO,qA,qM,zaS,itL.eq_1,e];refine zar.i tc ?_;simp only[ZE,↓reduceIte,pE,pL,pA,pS,pM,pD,zap,zab,zaF,sMp,zaf,zak,zal,zaj,zN,qT,qG,qL,qH,qN,qB,qE,qO,qA,qM,zaS,itL.eq_1,e];refine⟨by kernel_rfl,?_⟩;refine za3.i (fun _=>n1) ?_;simp only[ZE,↓reduceIte,pE,pL,pA,pS,pM,pD,zap,zab,zaF,sMp,zaf,zak,zal,zaj,zN,qT,qG,qL,qH,qN,qB,qE,qO,qA,qM,zaS,itL.eq_1,e];refine za3.i (fun _=>c1) ?_;simp only[ZE,↓reduceIte,pE,pL,pA,pS,pM,pD,zap,zab,zaF,sMp,zaf,zak,zal,zaj,zN,qT,qG,qL,qH,qN,qB,qE,qO,qA,qM,zaS,itL.eq_1,e];refine EFn.g ⟨[(1,1)],_,_,_,r1,?_⟩;simp only[ZE,↓reduceIte,pE,pL,pA,pS,pM,pD,zap,zab,zaF,sMp,zaf,zak,zal,zaj,zN,qT,qG,qL,qH,qN,qB,qE,qO,qA,qM,zaS,itL.eq_1];rintro V ol new ⟨rfl,rfl,rfl⟩;have r2:=za5 l F1 G1 (zay x) ⟨2,i,k⟩ (hin 2 rfl);have G2:=za8 (b:=zay x) G1 (hin 2 rfl);have lc:=zhI l (pK (zaO F1 (zay x) ⟨2,i,k⟩)) (pV (zaO F1 (zay x) ⟨2,i,k⟩)) (List.range (zaO F1 (zay x) ⟨2,i,k⟩).length) (zaO F1 (zay x) ⟨2,i,k⟩).length m x hn;have r3:=za5 l _ G2 (zdp l m x) ⟨3,i,k⟩ (hin 3 rfl);have G3:=za8 (b:=zdp l m x) G2 (hin 3 rfl);obtain⟨F3,hF3⟩:=zX (zaO (zaO F1 (zay x) ⟨2,i,k⟩) (zdp l m x) ⟨3,i,k⟩);rw[hF3]at r3 G3 ⊢;have ec:=zhD l (pK F3) (pV F3) (List.range F3.length) F3.length m x.name;simp only[ZE,↓reduceIte,pE,pL,pA,pS,pM,pD,zap,zab,zaF,sMp,zaf,zak,zal,zaj,zN,qT,qG,qL,qH,qN,qB,qE,qO,qA,qM,zaS,itL.eq_1,e]at r2 lc r3 ec mc
  try simp only[ZE,↓reduceIte,pE,pL,pA,pS,pM,pD,zap,zab,zaF,sMp,zaf,zak,zal,zaj,zN,qT,qG,qL,qH,qN,qB,qE,qO,qA,qM,zaS,itL.eq_1,e]
  refine⟨by kernel_rfl,?_⟩;refine za3.i (fun _=>mc) ?_;simp only[ZE,↓reduceIte,pE,pL,pA,pS,pM,pD,zap,zab,zaF,sMp,zaf,zak,zal,zaj,zN,qT,qG,qL,qH,qN,qB,qE,qO,qA,qM,zaS,itL.eq_1,e];refine EFn.g ⟨[(1,1)],_,_,_,r2,?_⟩;simp only[ZE,↓reduceIte,pE,pL,pA,pS,pM,pD,zap,zab,zaF,sMp,zaf,zak,zal,zaj,zN,qT,qG,qL,qH,qN,qB,qE,qO,qA,qM,zaS,itL.eq_1];rintro V ol new ⟨rfl,rfl,rfl⟩;simp only[ZE,↓reduceIte,pE,pL,pA,pS,pM,pD,zap,zab,zaF,sMp,zaf,zak,zal,zaj,zN,qT,qG,qL,qH,qN,qB,qE,qO,qA,qM,zaS,itL.eq_1,e];refine⟨by kernel_rfl,?_⟩;refine za3.i (fun _=>lc) ?_;simp only[ZE,↓reduceIte,pE,pL,pA,pS,pM,pD,zap,zab,zaF,sMp,zaf,zak,zal,zaj,zN,qT,qG,qL,qH,qN,qB,qE,qO,qA,qM,zaS,itL.eq_1,e];refine EFn.g ⟨[(1,1)],_,_,_,r3,?_⟩;simp only[ZE,↓reduceIte,pE,pL,pA,pS,pM,pD,zap,zab,zaF,sMp,zaf,zak,zal,zaj,zN,qT,qG,qL,qH,qN,qB,qE,qO,qA,qM,zaS,itL.eq_1];rintro V ol new ⟨rfl,rfl,rfl⟩;simp only[ZE,↓reduceIte,pE,pL,pA,pS,pM,pD,zap,zab,zaF,sMp,zaf,zak,zal,zaj,zN,qT,qG,qL,qH,qN,qB,qE,qO,qA,qM,zaS,itL.eq_1,e];refine EFn.p ?_;simp only[ZE,↓reduceIte,pE,pL,pA,pS,pM,pD,zap,zab,zaF,sMp,zaf,zak,zal,zaj,zN,qT,qG,qL,qH,qN,qB,qE,qO,qA,qM,zaS,itL.eq_1,e];refine zar.i ec ?_;simp only[ZE,↓reduceIte,pE,pL,pA,pS,pM,pD,zap,zab,zaF,sMp,zaf,zak,zal,zaj,zN,qT,qG,qL,qH,qN,qB,qE,qO,qA,qM,zaS,itL.eq_1,e];have r4:=za5 l F3 G3 (zeR l x) ⟨6,i,k⟩ (hin 6 rfl);simp only[ZE,↓reduceIte,pE,pL,pA,pS,pM,pD,zap,zab,zaF,sMp,zaf,zak,zal,zaj,zN,qT,qG,qL,qH,qN,qB,qE,qO,qA,qM,zaS,itL.eq_1]at r4;have pc:=zxk l (pK F3) (pV F3) (List.range F3.length) F3.length x;simp only[ZE,↓reduceIte,pE,pL,pA,pS,pM,pD,zap,zab,zaF,sMp,zaf,zak,zal,zaj,zN,qT,qG,qL,qH,qN,qB,qE,qO,qA,qM,zaS,itL.eq_1,e]at pc;refine⟨by kernel_rfl,za3.i (fun _=>pc) ?_⟩;simp only[ZE,↓reduceIte,pE,pL,pA,pS,pM,pD,zap,zab,zaF,sMp,zaf,zak,zal,zaj,zN,qT,qG,qL,qH,qN,qB,qE,qO,qA,qM,zaS,itL.eq_1];refine EFn.g ⟨[(1,1)],_,_,_,r4,?_⟩;simp only[ZE,↓reduceIte,pE,pL,pA,pS,pM,pD,zap,zab,zaF,sMp,zaf,zak,zal,zaj,zN,qT,qG,qL,qH,qN,qB,qE,qO,qA,qM,zaS,itL.eq_1];rintro V ol new ⟨rfl,rfl,rfl⟩;simp only[ZE,↓reduceIte,pE,pL,pA,pS,pM,pD,zap,zab,zaF,sMp,zaf,zak,zal,zaj,zN,qT,qG,qL,qH,qN,qB,qE,qO,qA,qM,zaS,itL.eq_1];refine⟨[3,6,7],[],?_⟩;simp only[ZE,↓reduceIte,pE,pL,pA,pS,pM,pD]
 have n9:=e;by_cases e:x.kind.1=7
 ·have hd:zaW x.kind.1=false:=by rw[e]; rfl
  have hd':zaW 7=false:=rfl;have hD:zex i k m x F=F:=if_neg (by rw[hd]; simp);have hI:zdo l i k m x F=zaO (zaO (zaO F (zay x) ⟨2,i,k⟩) (zdp l m x) ⟨3,i,k⟩) (zic m x) ⟨8,i,k⟩:=by rw[zdo,hD,zgm]; simp[e]
  rw[hI];refine FnL.of_eC (own:=[]) itL [0] zat Tryz.func150 rfl Tryz.call150 Tryz.ntmps150 (Nat.le_of_ble_eq_true rfl) Tryz.results150 ?_;simp only[ZE,↓reduceIte,pE,pL,pA,pS,pM,pD,hd,e]at dc;simp(maxSteps:=4000000) only[ZE,↓reduceIte,pE,pL,pA,pS,pM,pD,zap,zab,zaF,sMp,zaf,zak,zal,zaj,zN,qT,qG,qL,qH,qN,qB,qE,qO,qA,qM,zaS,itL.eq_1,zai hi,zaa hi,hm,zai hk,zaa hk,hx,e];refine EFn.p ?_;simp only[ZE,↓reduceIte,pE,pL,pA,pS,pM,pD,zap,zab,zaF,sMp,zaf,zak,zal,zaj,zN,qT,qG,qL,qH,qN,qB,qE,qO,qA,qM,zaS,itL.eq_1];refine zar.i dc ?_;simp only[ZE,↓reduceIte,pE,pL,pA,pS,pM,pD,zap,zab,zaF,sMp,zaf,zak,zal,zaj,zN,qT,qG,qL,qH,qN,qB,qE,qO,qA,qM,zaS,itL.eq_1,hd'];obtain⟨F1,hF1⟩:=zX (F);have G1:=hF;rw[hF1]at G1 ⊢;have r2:=za5 l F1 G1 (zay x) ⟨2,i,k⟩ (hin 2 rfl);have G2:=za8 (b:=zay x) G1 (hin 2 rfl);have lc:=zhI l (pK (zaO F1 (zay x) ⟨2,i,k⟩)) (pV (zaO F1 (zay x) ⟨2,i,k⟩)) (List.range (zaO F1 (zay x) ⟨2,i,k⟩).length) (zaO F1 (zay x) ⟨2,i,k⟩).length m x hn;have r3:=za5 l _ G2 (zdp l m x) ⟨3,i,k⟩ (hin 3 rfl);have G3:=za8 (b:=zdp l m x) G2 (hin 3 rfl);obtain⟨F3,hF3⟩:=zX (zaO (zaO F1 (zay x) ⟨2,i,k⟩) (zdp l m x) ⟨3,i,k⟩);rw[hF3]at r3 G3 ⊢;have ec:=zhD l (pK F3) (pV F3) (List.range F3.length) F3.length m x.name;simp only[ZE,↓reduceIte,pE,pL,pA,pS,pM,pD,zap,zab,zaF,sMp,zaf,zak,zal,zaj,zN,qT,qG,qL,qH,qN,qB,qE,qO,qA,qM,zaS,itL.eq_1,e]at r2 lc r3 ec mc
  try simp only[ZE,↓reduceIte,pE,pL,pA,pS,pM,pD,zap,zab,zaF,sMp,zaf,zak,zal,zaj,zN,qT,qG,qL,qH,qN,qB,qE,qO,qA,qM,zaS,itL.eq_1,e]
  refine⟨by kernel_rfl,?_⟩;refine za3.i (fun _=>mc) ?_;simp only[ZE,↓reduceIte,pE,pL,pA,pS,pM,pD,zap,zab,zaF,sMp,zaf,zak,zal,zaj,zN,qT,qG,qL,qH,qN,qB,qE,qO,qA,qM,zaS,itL.eq_1,e];refine EFn.g ⟨[(1,1)],_,_,_,r2,?_⟩;simp only[ZE,↓reduceIte,pE,pL,pA,pS,pM,pD,zap,zab,zaF,sMp,zaf,zak,zal,zaj,zN,qT,qG,qL,qH,qN,qB,qE,qO,qA,qM,zaS,itL.eq_1];rintro V ol new ⟨rfl,rfl,rfl⟩;simp only[ZE,↓reduceIte,pE,pL,pA,pS,pM,pD,zap,zab,zaF,sMp,zaf,zak,zal,zaj,zN,qT,qG,qL,qH,qN,qB,qE,qO,qA,qM,zaS,itL.eq_1,e];refine⟨by kernel_rfl,?_⟩;refine za3.i (fun _=>lc) ?_;simp only[ZE,↓reduceIte,pE,pL,pA,pS,pM,pD,zap,zab,zaF,sMp,zaf,zak,zal,zaj,zN,qT,qG,qL,qH,qN,qB,qE,qO,qA,qM,zaS,itL.eq_1,e];refine EFn.g ⟨[(1,1)],_,_,_,r3,?_⟩;simp only[ZE,↓reduceIte,pE,pL,pA,pS,pM,pD,zap,zab,zaF,sMp,zaf,zak,zal,zaj,zN,qT,qG,qL,qH,qN,qB,qE,qO,qA,qM,zaS,itL.eq_1];rintro V ol new ⟨rfl,rfl,rfl⟩;simp only[ZE,↓reduceIte,pE,pL,pA,pS,pM,pD,zap,zab,zaF,sMp,zaf,zak,zal,zaj,zN,qT,qG,qL,qH,qN,qB,qE,qO,qA,qM,zaS,itL.eq_1,e];refine EFn.p ?_;simp only[ZE,↓reduceIte,pE,pL,pA,pS,pM,pD,zap,zab,zaF,sMp,zaf,zak,zal,zaj,zN,qT,qG,qL,qH,qN,qB,qE,qO,qA,qM,zaS,itL.eq_1,e];refine zar.i ec ?_;simp only[ZE,↓reduceIte,pE,pL,pA,pS,pM,pD,zap,zab,zaF,sMp,zaf,zak,zal,zaj,zN,qT,qG,qL,qH,qN,qB,qE,qO,qA,qM,zaS,itL.eq_1,e];have r4:=za5 l F3 G3 (zic m x) ⟨8,i,k⟩ (hin 8 rfl);simp only[ZE,↓reduceIte,pE,pL,pA,pS,pM,pD,zap,zab,zaF,sMp,zaf,zak,zal,zaj,zN,qT,qG,qL,qH,qN,qB,qE,qO,qA,qM,zaS,itL.eq_1]at r4;have pc:=early_c m x;simp only[ZE,↓reduceIte,pE,pL,pA,pS,pM,pD,zap,zab,zaF,sMp,zaf,zak,zal,zaj,zN,qT,qG,qL,qH,qN,qB,qE,qO,qA,qM,zaS,itL.eq_1,e]at pc;refine⟨by kernel_rfl,za3.i (fun _=>pc) ?_⟩;simp only[ZE,↓reduceIte,pE,pL,pA,pS,pM,pD,zap,zab,zaF,sMp,zaf,zak,zal,zaj,zN,qT,qG,qL,qH,qN,qB,qE,qO,qA,qM,zaS,itL.eq_1];refine EFn.g ⟨[(1,1)],_,_,_,r4,?_⟩;simp only[ZE,↓reduceIte,pE,pL,pA,pS,pM,pD,zap,zab,zaF,sMp,zaf,zak,zal,zaj,zN,qT,qG,qL,qH,qN,qB,qE,qO,qA,qM,zaS,itL.eq_1];rintro V ol new ⟨rfl,rfl,rfl⟩;simp only[ZE,↓reduceIte,pE,pL,pA,pS,pM,pD,zap,zab,zaF,sMp,zaf,zak,zal,zaj,zN,qT,qG,qL,qH,qN,qB,qE,qO,qA,qM,zaS,itL.eq_1];refine⟨[3,6,7],[],?_⟩;simp only[ZE,↓reduceIte,pE,pL,pA,pS,pM,pD]
 have n7:=e;have e5:(x.kind.1==5)=false:=by simpa using n5
 have e1:(x.kind.1==1)=false:=by simpa using n1
 have e2:(x.kind.1==2)=false:=by simpa using n2
 have e3:(x.kind.1==3)=false:=by simpa using n3
 have e9:(x.kind.1==9)=false:=by simpa using n9
 have e7:(x.kind.1==7)=false:=by simpa using n7
 have hK: ∀F,zgm l i k m x F=F:=fun F=>by rw[zgm]; simp[n5,n1,n2,n3,n9,n7]
 cases hd:zaW x.kind.1 with
 | true=>
  have hD:zex i k m x F=zaO F (zaT m k x) ⟨1,i,k⟩:=if_pos hd;rw[zdo,hK,hD];refine FnL.of_eC (own:=[]) itL [0] zat Tryz.func150 rfl Tryz.call150 Tryz.ntmps150 (Nat.le_of_ble_eq_true rfl) Tryz.results150 ?_;simp only[ZE,↓reduceIte,pE,pL,pA,pS,pM,pD,hd]at dc;simp(maxSteps:=4000000) only[ZE,↓reduceIte,pE,pL,pA,pS,pM,pD,zap,zab,zaF,sMp,zaf,zak,zal,zaj,zN,qT,qG,qL,qH,qN,qB,qE,qO,qA,qM,zaS,itL.eq_1,zai hi,zaa hi,hm,zai hk,zaa hk,hx];refine EFn.p ?_;simp only[ZE,↓reduceIte,pE,pL,pA,pS,pM,pD,zap,zab,zaF,sMp,zaf,zak,zal,zaj,zN,qT,qG,qL,qH,qN,qB,qE,qO,qA,qM,zaS,itL.eq_1];refine zar.i dc ?_;simp only[ZE,↓reduceIte,pE,pL,pA,pS,pM,pD,zap,zab,zaF,sMp,zaf,zak,zal,zaj,zN,qT,qG,qL,qH,qN,qB,qE,qO,qA,qM,zaS,itL.eq_1,<-List.map_take,Nat.sub_zero];have tc:=zcI (m.items.take k) 200 (.ptr (zaK x)) (zb8 x) (fun y _=>zg1 x y);have n1:=zdd x.name.1;have c1:=zcd m.params x.name;have r1:=za5 l F hF (zaT m k x) ⟨1,i,k⟩ (hin 1 rfl);have G1:=za8 (b:=zaT m k x) hF (hin 1 rfl);obtain⟨F1,hF1⟩:=zX (zaO F (zaT m k x) ⟨1,i,k⟩);rw[hF1]at r1 G1 ⊢;simp only[ZE,↓reduceIte,pE,pL,pA,pS,pM,pD,hd]at tc n1 c1;simp only[ZE,↓reduceIte,pE,pL,pA,pS,pM,pD,zap,zab,zaF,sMp,zaf,zak,zal,zaj,zN,qT,qG,qL,qH,qN,qB,qE,qO,qA,qM,zaS,itL.eq_1,zaT]at r1;refine⟨⟨fun y hy=>(by obtain⟨q,_,rfl⟩:=List.mem_map.1 hy; exact zdD q),by omega,by omega,by omega⟩,EFn.p ?_⟩;simp only[ZE,↓reduceIte,pE,pL,pA,pS,pM,pD,zap,zab,zaF,sMp,zaf,zak,zal,zaj,zN,qT,qG,qL,qH,qN,qB,qE,qO,qA,qM,zaS,itL.eq_1,hd];refine zar.i tc ?_;simp only[ZE,↓reduceIte,pE,pL,pA,pS,pM,pD,zap,zab,zaF,sMp,zaf,zak,zal,zaj,zN,qT,qG,qL,qH,qN,qB,qE,qO,qA,qM,zaS,itL.eq_1,hd];refine⟨by kernel_rfl,?_⟩;refine za3.i (fun _=>n1) ?_;simp only[ZE,↓reduceIte,pE,pL,pA,pS,pM,pD,zap,zab,zaF,sMp,zaf,zak,zal,zaj,zN,qT,qG,qL,qH,qN,qB,qE,qO,qA,qM,zaS,itL.eq_1,hd];refine za3.i (fun _=>c1) ?_;simp only[ZE,↓reduceIte,pE,pL,pA,pS,pM,pD,zap,zab,zaF,sMp,zaf,zak,zal,zaj,zN,qT,qG,qL,qH,qN,qB,qE,qO,qA,qM,zaS,itL.eq_1,hd];refine EFn.g ⟨[(1,1)],_,_,_,r1,?_⟩;simp only[ZE,↓reduceIte,pE,pL,pA,pS,pM,pD,zap,zab,zaF,sMp,zaf,zak,zal,zaj,zN,qT,qG,qL,qH,qN,qB,qE,qO,qA,qM,zaS,itL.eq_1];rintro V ol new ⟨rfl,rfl,rfl⟩;have r2:=za5 l F1 G1 (zay x) ⟨2,i,k⟩ (hin 2 rfl);have G2:=za8 (b:=zay x) G1 (hin 2 rfl);have lc:=zhI l (pK (zaO F1 (zay x) ⟨2,i,k⟩)) (pV (zaO F1 (zay x) ⟨2,i,k⟩)) (List.range (zaO F1 (zay x) ⟨2,i,k⟩).length) (zaO F1 (zay x) ⟨2,i,k⟩).length m x hn;have r3:=za5 l _ G2 (zdp l m x) ⟨3,i,k⟩ (hin 3 rfl);have G3:=za8 (b:=zdp l m x) G2 (hin 3 rfl);obtain⟨F3,hF3⟩:=zX (zaO (zaO F1 (zay x) ⟨2,i,k⟩) (zdp l m x) ⟨3,i,k⟩);rw[hF3]at r3 G3 ⊢;have ec:=zhD l (pK F3) (pV F3) (List.range F3.length) F3.length m x.name;simp only[ZE,↓reduceIte,pE,pL,pA,pS,pM,pD,zap,zab,zaF,sMp,zaf,zak,zal,zaj,zN,qT,qG,qL,qH,qN,qB,qE,qO,qA,qM,zaS,itL.eq_1,e5,e1,e2,e3,e9,e7]at r2 lc r3 ec mc
  try simp only[ZE,↓reduceIte,pE,pL,pA,pS,pM,pD,zap,zab,zaF,sMp,zaf,zak,zal,zaj,zN,qT,qG,qL,qH,qN,qB,qE,qO,qA,qM,zaS,itL.eq_1,e5,e1,e2,e3,e9,e7]
  refine⟨by kernel_rfl,?_⟩;refine za3.i (fun _=>mc) ?_;simp only[ZE,↓reduceIte,pE,pL,pA,pS,pM,pD,zap,zab,zaF,sMp,zaf,zak,zal,zaj,zN,qT,qG,qL,qH,qN,qB,qE,qO,qA,qM,zaS,itL.eq_1,e5,e1,e2,e3,e9,e7];refine EFn.g ⟨[(1,1)],_,_,_,r2,?_⟩;simp only[ZE,↓reduceIte,pE,pL,pA,pS,pM,pD,zap,zab,zaF,sMp,zaf,zak,zal,zaj,zN,qT,qG,qL,qH,qN,qB,qE,qO,qA,qM,zaS,itL.eq_1];rintro V ol new ⟨rfl,rfl,rfl⟩;simp only[ZE,↓reduceIte,pE,pL,pA,pS,pM,pD,zap,zab,zaF,sMp,zaf,zak,zal,zaj,zN,qT,qG,qL,qH,qN,qB,qE,qO,qA,qM,zaS,itL.eq_1,e5,e1,e2,e3,e9,e7];refine⟨by kernel_rfl,?_⟩;refine za3.i (fun _=>lc) ?_;simp only[ZE,↓reduceIte,pE,pL,pA,pS,pM,pD,zap,zab,zaF,sMp,zaf,zak,zal,zaj,zN,qT,qG,qL,qH,qN,qB,qE,qO,qA,qM,zaS,itL.eq_1,e5,e1,e2,e3,e9,e7];refine EFn.g ⟨[(1,1)],_,_,_,r3,?_⟩;simp only[ZE,↓reduceIte,pE,pL,pA,pS,pM,pD,zap,zab,zaF,sMp,zaf,zak,zal,zaj,zN,qT,qG,qL,qH,qN,qB,qE,qO,qA,qM,zaS,itL.eq_1];rintro V ol new ⟨rfl,rfl,rfl⟩;simp only[ZE,↓reduceIte,pE,pL,pA,pS,pM,pD,zap,zab,zaF,sMp,zaf,zak,zal,zaj,zN,qT,qG,qL,qH,qN,qB,qE,qO,qA,qM,zaS,itL.eq_1,e5,e1,e2,e3,e9,e7];refine EFn.p ?_;simp only[ZE,↓reduceIte,pE,pL,pA,pS,pM,pD,zap,zab,zaF,sMp,zaf,zak,zal,zaj,zN,qT,qG,qL,qH,qN,qB,qE,qO,qA,qM,zaS,itL.eq_1,e5,e1,e2,e3,e9,e7];refine zar.i ec ?_;simp only[ZE,↓reduceIte,pE,pL,pA,pS,pM,pD,zap,zab,zaF,sMp,zaf,zak,zal,zaj,zN,qT,qG,qL,qH,qN,qB,qE,qO,qA,qM,zaS,itL.eq_1,e5,e1,e2,e3,e9,e7];refine⟨[3,6,7],[],?_⟩;simp only[ZE,↓reduceIte,pE,pL,pA,pS,pM,pD]
 | false=>
  have hD:zex i k m x F=F:=if_neg (by rw[hd]; simp);rw[zdo,hK,hD];refine FnL.of_eC (own:=[]) itL [0] zat Tryz.func150 rfl Tryz.call150 Tryz.ntmps150 (Nat.le_of_ble_eq_true rfl) Tryz.results150 ?_;simp only[ZE,↓reduceIte,pE,pL,pA,pS,pM,pD,hd]at dc;simp(maxSteps:=4000000) only[ZE,↓reduceIte,pE,pL,pA,pS,pM,pD,zap,zab,zaF,sMp,zaf,zak,zal,zaj,zN,qT,qG,qL,qH,qN,qB,qE,qO,qA,qM,zaS,itL.eq_1,zai hi,zaa hi,hm,zai hk,zaa hk,hx];refine EFn.p ?_;simp only[ZE,↓reduceIte,pE,pL,pA,pS,pM,pD,zap,zab,zaF,sMp,zaf,zak,zal,zaj,zN,qT,qG,qL,qH,qN,qB,qE,qO,qA,qM,zaS,itL.eq_1];refine zar.i dc ?_;simp only[ZE,↓reduceIte,pE,pL,pA,pS,pM,pD,zap,zab,zaF,sMp,zaf,zak,zal,zaj,zN,qT,qG,qL,qH,qN,qB,qE,qO,qA,qM,zaS,itL.eq_1];obtain⟨F1,hF1⟩:=zX (F);have G1:=hF;rw[hF1]at G1 ⊢;have r2:=za5 l F1 G1 (zay x) ⟨2,i,k⟩ (hin 2 rfl);have G2:=za8 (b:=zay x) G1 (hin 2 rfl);have lc:=zhI l (pK (zaO F1 (zay x) ⟨2,i,k⟩)) (pV (zaO F1 (zay x) ⟨2,i,k⟩)) (List.range (zaO F1 (zay x) ⟨2,i,k⟩).length) (zaO F1 (zay x) ⟨2,i,k⟩).length m x hn;have r3:=za5 l _ G2 (zdp l m x) ⟨3,i,k⟩ (hin 3 rfl);have G3:=za8 (b:=zdp l m x) G2 (hin 3 rfl);obtain⟨F3,hF3⟩:=zX (zaO (zaO F1 (zay x) ⟨2,i,k⟩) (zdp l m x) ⟨3,i,k⟩);rw[hF3]at r3 G3 ⊢;have ec:=zhD l (pK F3) (pV F3) (List.range F3.length) F3.length m x.name;simp only[ZE,↓reduceIte,pE,pL,pA,pS,pM,pD,zap,zab,zaF,sMp,zaf,zak,zal,zaj,zN,qT,qG,qL,qH,qN,qB,qE,qO,qA,qM,zaS,itL.eq_1,e5,e1,e2,e3,e9,e7]at r2 lc r3 ec mc
  try simp only[ZE,↓reduceIte,pE,pL,pA,pS,pM,pD,zap,zab,zaF,sMp,zaf,zak,zal,zaj,zN,qT,qG,qL,qH,qN,qB,qE,qO,qA,qM,zaS,itL.eq_1,e5,e1,e2,e3,e9,e7]
  refine⟨by kernel_rfl,?_⟩;refine za3.i (fun _=>mc) ?_;simp only[ZE,↓reduceIte,pE,pL,pA,pS,pM,pD,zap,zab,zaF,sMp,zaf,zak,zal,zaj,zN,qT,qG,qL,qH,qN,qB,qE,qO,qA,qM,zaS,itL.eq_1,e5,e1,e2,e3,e9,e7];refine EFn.g ⟨[(1,1)],_,_,_,r2,?_⟩;simp only[ZE,↓reduceIte,pE,pL,pA,pS,pM,pD,zap,zab,zaF,sMp,zaf,zak,zal,zaj,zN,qT,qG,qL,qH,qN,qB,qE,qO,qA,qM,zaS,itL.eq_1];rintro V ol new ⟨rfl,rfl,rfl⟩;simp only[ZE,↓reduceIte,pE,pL,pA,pS,pM,pD,zap,zab,zaF,sMp,zaf,zak,zal,zaj,zN,qT,qG,qL,qH,qN,qB,qE,qO,qA,qM,zaS,itL.eq_1,e5,e1,e2,e3,e9,e7];refine⟨by kernel_rfl,?_⟩;refine za3.i (fun _=>lc) ?_;simp only[ZE,↓reduceIte,pE,pL,pA,pS,pM,pD,zap,zab,zaF,sMp,zaf,zak,zal,zaj,zN,qT,qG,qL,qH,qN,qB,qE,qO,qA,qM,zaS,itL.eq_1,e5,e1,e2,e3,e9,e7];refine EFn.g ⟨[(1,1)],_,_,_,r3,?_⟩;simp only[ZE,↓reduceIte,pE,pL,pA,pS,pM,pD,zap,zab,zaF,sMp,zaf,zak,zal,zaj,zN,qT,qG,qL,qH,qN,qB,qE,qO,qA,qM,zaS,itL.eq_1];rintro V ol new ⟨rfl,rfl,rfl⟩;simp only[ZE,↓reduceIte,pE,pL,pA,pS,pM,pD,zap,zab,zaF,sMp,zaf,zak,zal,zaj,zN,qT,qG,qL,qH,qN,qB,qE,qO,qA,qM,zaS,itL.eq_1,e5,e1,e2,e3,e9,e7];refine EFn.p ?_;simp only[ZE,↓reduceIte,pE,pL,pA,pS,pM,pD,zap,zab,zaF,sMp,zaf,zak,zal,zaj,zN,qT,qG,qL,qH,qN,qB,qE,qO,qA,qM,zaS,itL.eq_1,e5,e1,e2,e3,e9,e7];refine zar.i ec ?_;simp only[ZE,↓reduceIte,pE,pL,pA,pS,pM,pD,zap,zab,zaF,sMp,zaf,zak,zal,zaj,zN,qT,qG,qL,qH,qN,qB,qE,qO,qA,qM,zaS,itL.eq_1,e5,e1,e2,e3,e9,e7];refine⟨[3,6,7],[],?_⟩;simp only[ZE,↓reduceIte,pE,pL,pA,pS,pM,pD]
open Go.Aw Go.Sort Go.RowKit
def zh1(x y:Int):Int:=if x<y then-1 else if y<x then 1 else 0
def orI(l:List Int):Int:=(l.find? fun x=>x !=0).getD 0
theorem two_w(w:World)(o1 o2:Obj)(W:World)(hW:W={((w.alloc o1).alloc o2)with drawn:=((w.alloc o1).alloc o2).drawn +1}):
  W.heap[w.heap.size]? =some o1/\W.heap[w.heap.size+1]? =some o2/\ ∃q os',W=grow (w.drewN q) os':=by
 subst hW;refine⟨?_,?_,1,#[o1,o2],?_⟩
 ·show((w.alloc o1).alloc o2).heap[w.heap.size]? =_;exact(Go.RowKit.Below.heap_alloc _ _ _ (by simp)).trans (World.alloc_heap_new w _)
 ·show((w.alloc o1).alloc o2).heap[w.heap.size+1]? =_;have:=World.alloc_heap_new (w.alloc o1) o2;rwa [World.size_alloc]at this
 ·rw[alloc_eq_grow,alloc_eq_grow,grow_grow]; rfl
def zbn(a b:Problem):Int:=orI [zh1 a.module b.module,zh1 a.item b.item,zh1 a.code b.code]
theorem nan_w(x:Int)(w:World):Calls Tryz.prog 210 #[.int .i64 x] w fun e w'=>e= .returned (.bool false)/\w'=w:=by
 go_enter Tryz.func210,Tryz.ntmps210
 go_wp2;go_ret;exact⟨by simp,rfl⟩
set_option maxHeartbeats 1000000 in
theorem zsj(x y:Int)(w:World):Calls Tryz.prog 155 #[.int .i64 x,.int .i64 y] w fun e w'=>e= .returned (.int .i64 (zh1 x y))/\w'=w:=by
 go_enter Tryz.func155,Tryz.ntmps155
 go_wp2_with (go_at_call 210; refine(nan_w _ _).mono ?_; rintro e w' ⟨rfl,hw⟩; rw[hw])
 all_goals (go_ret; refine⟨?_,rfl⟩; unfold zh1; (repeat' split) <;> first | rfl | (exfalso; omega))
set_option maxHeartbeats 2000000 in
theorem or_w(x y z:Int)(b cap:Nat)(w:World)(h0:w.cell? ⟨b,0,none⟩=some (.int .i64 x))(h1:w.cell? ⟨b,1,none⟩=some (.int .i64 y))(h2:w.cell? ⟨b,2,none⟩=some (.int .i64 z)):
  Calls Tryz.prog 154 #[.slice (some ⟨b,0,none⟩) 3 cap] w fun e w'=>e= .returned (.int .i64 (orI [x,y,z]))/\w'=w:=by
 go_enter Tryz.func154,Tryz.ntmps154
 go_wp2
 go_rounds 4
 all_goals go_ret
 all_goals refine⟨?_,rfl⟩
 all_goals simp_all [orI]
set_option maxHeartbeats 4000000 in
theorem zmi(a b:Problem)(w:World):Calls Tryz.prog 153 #[.agg #[.int .i64 a.code,.int .i64 a.module,.int .i64 a.item],.agg #[.int .i64 b.code,.int .i64 b.module,.int .i64 b.item]] w fun e w'=>
  e= .returned (.int .i64 (zbn a b))/\ ∃q os',w'=grow (w.drewN q) os':=by
 unfold zbn
 go_enter Tryz.func153,Tryz.ntmps153
 go_wp2;refine wp_region_still_tail 15 zat (by kernel_rfl) ?_;obtain⟨W,hW⟩: ∃W:World,W={((w.alloc (.cells #[.int .i64 a.code,.int .i64 a.module,.int .i64 a.item] 221)).alloc (.cells #[.int .i64 b.code,.int .i64 b.module,.int .i64 b.item] 221))with drawn:=((w.alloc (.cells #[.int .i64 a.code,.int .i64 a.module,.int .i64 a.item] 221)).alloc (.cells #[.int .i64 b.code,.int .i64 b.module,.int .i64 b.item] 221)).drawn +1}:=⟨_,rfl⟩;rw[<-hW];obtain⟨c0,c1,hG⟩:=two_w w _ _ W hW;have a0:W.cell? ⟨w.heap.size,0,none⟩=some (.int .i64 a.code):=by simp[World.cell?,c0]
 have a1:W.cell? ⟨w.heap.size,1,none⟩=some (.int .i64 a.module):=by simp[World.cell?,c0]
 have a2:W.cell? ⟨w.heap.size,2,none⟩=some (.int .i64 a.item):=by simp[World.cell?,c0]
 have b0:W.cell? ⟨w.heap.size+1,0,none⟩=some (.int .i64 b.code):=by simp[World.cell?,c1]
 have b1:W.cell? ⟨w.heap.size+1,1,none⟩=some (.int .i64 b.module):=by simp[World.cell?,c1]
 have b2:W.cell? ⟨w.heap.size+1,2,none⟩=some (.int .i64 b.item):=by simp[World.cell?,c1]
 clear hW c0 c1;simp only[List.take_succ_cons,List.take_zero,List.drop_succ_cons,List.drop_zero]
 repeat still_step
 still_call (zsj _ _ _)
 repeat still_step
 still_call (zsj _ _ _)
 repeat still_step
 still_call (zsj _ _ _)
 repeat still_step
 try refine wpStill_nil ?_
 generalize hx:zh1 a.module b.module=x at*;generalize hy:zh1 a.item b.item=y at*;generalize hz:zh1 a.code b.code=z at*;clear a0 a1 a2 b0 b1 b2;obtain⟨q,os',rfl⟩:=hG;generalize hWW:grow (w.drewN q) os'=W;have hor: ∀W',W'=W.alloc (.cells #[.int .i64 x,.int .i64 y,.int .i64 z] 3)->Calls Tryz.prog 154 #[.slice (some ⟨W.heap.size,0,none⟩) 3 3] W' fun e w'=>e= .returned (.int .i64 (orI [x,y,z]))/\w'=W':=by
  rintro W' rfl;have hh:=World.alloc_heap_new W (.cells #[.int .i64 x,.int .i64 y,.int .i64 z] 3);exact or_w x y z _ _ _ (by simp only[World.cell?,hh]; rfl) (by simp only[World.cell?,hh]; rfl) (by simp only[World.cell?,hh]; rfl)
 generalize hr:orI [x,y,z]=r at*
 go_wp2_with (go_at_call 154; refine(hor _ rfl).mono ?_; rintro e w' ⟨rfl,rfl⟩)
 go_ret;refine⟨by rw[hx,hy,hz,hr]; rfl,q,os'++#[.cells #[.int .i64 x,.int .i64 y,.int .i64 z] 3],?_⟩;rw[alloc_eq_grow,<-hWW,grow_grow]
open Go.Aw Go.Sort Go.RowKit Go.Shelf
instance:Inhabited Problem:=⟨⟨0,0,0⟩⟩
def zgl(p:Problem):List Value:=[.int .i64 p.code,.int .i64 p.module,.int .i64 p.item]
def zds(a b:Problem):Prop:=a.module<b.module\/(a.module=b.module/\(a.item<b.item\/(a.item=b.item/\a.code<b.code)))
theorem ziD(a b:Problem):zbn a b<0↔zds a b:=by
 unfold zbn orI zh1 zds
 repeat' split
 all_goals simp_all
 all_goals omega
theorem zfW(a b:Problem):ltOf zbn a b=true↔zds a b:=by unfold ltOf; rw[decide_eq_true_eq]; exact ziD a b
theorem zbO(a b:Problem):ltOf zbn a b=false↔ ¬zds a b:=by rw[<-zfW]; simp
theorem zne:SWO (ltOf zbn):={
 irrefl:=fun x=>by rw[zbO]; unfold zds; omega
 trans:=fun x y z h1 h2=>by rw[zfW]at*; unfold zds at*; omega
 ntrans:=fun x y z h1 h2=>by rw[zbO]at*; unfold zds at*; omega}
theorem zhr(x y:Problem)(h1:ltOf zbn x y=false)(h2:ltOf zbn y x=false):x=y:=by
 rw[zbO]at*;obtain⟨a,b,c⟩:=x;obtain⟨a',b',c'⟩:=y;unfold zds at*;simp only[Problem.mk.injEq]at*;omega
noncomputable def zcl(l:List Problem):List Problem:=l.mergeSort fun x y=> !(ltOf zbn) y x
theorem zgv(enc:Problem->List Value)(h: ∀x,(enc x).length =3): ∀(l:List Problem) (t:Nat),(l.flatMap enc)[t]? =(l[t / 3]?).bind fun x=>(enc x)[t % 3]?
 | [],t=>by simp
 | x::l,t=>by
  rw[List.flatMap_cons];rcases Nat.lt_or_ge t 3 with ht | ht
  ·rw[List.getElem?_append_left (by rw[h]; exact ht),Nat.div_eq_of_lt ht,Nat.mod_eq_of_lt ht];simp
  ·obtain⟨s,rfl⟩: ∃s,t=s+3:=⟨t-3,by omega⟩;rw[List.getElem?_append_right (by rw[h]; omega),h,Nat.add_sub_cancel,zgv enc h l s,Nat.add_mod_right];rw[show(s+3) / 3=s / 3+1 by omega];simp
theorem zfC(l:List Problem):(flatK zgl 3 l.toArray).toList =l.flatMap zgl:=by
 apply List.ext_getElem?;intro t;rw[zgv zgl (fun _=>rfl)];by_cases ht:t<l.length*3
 ·have h3:t / 3<l.length:=by omega
  have h4:t % 3<3:=Nat.mod_lt _ (by omega);have h5:t % 3<(zgl l[t / 3]).length :=h4;rw[List.getElem?_eq_getElem h3];simp only[Option.bind_some];rw[List.getElem?_eq_getElem h5];simp[flatK,ht,h3,getElem!_pos,h5]
 ·rw[List.getElem?_eq_none (by simp; omega),List.getElem?_eq_none (show l.length<=t / 3 by omega)];rfl
def Tryz.sortPos_ren:Go.Shelf.Ren:=⟨fun | 6=>208 | 15=>171 | 14=>256 | 28=>223 | 29=>224 | 20=>281 | 21=>282 | 22=>283 | 23=>284 | 24=>285 | 25=>286 | 26=>287 | 27=>288 | 46=>297 | 47=>260 | 48=>261 | 49=>298 | 50=>299 | 57=>301 | n=>n,fun | 22=>162 | 24=>221 | 25=>243 | 3=>3 | 39=>253 | 0=>0 | 53=>307 | 55=>309 | 4=>4 | 46=>301 | 45=>300 | 50=>234 | 5=>5 | 9=>9 | 66=>337 | 70=>341 | 76=>362 | 77=>289 | n=>n,fun | n=>n⟩
theorem Tryz.sortPos:Go.Proofs.SlLaysF0.n6 Tryz.prog Tryz.sortPos_ren:={
 mixed:=by kernel_rfl
 f6:=⟨Tryz.f208.name,by decide,Tryz.func208.trans (congrArg some (by kernel_rfl))⟩
 f14:=⟨Tryz.f256.name,by decide,Tryz.func256.trans (congrArg some (by kernel_rfl))⟩
 f15:=Tryz.func171.trans (congrArg some (by kernel_rfl))
 f20:=⟨Tryz.f281.name,by decide,Tryz.func281.trans (congrArg some (by kernel_rfl))⟩
 f21:=⟨Tryz.f282.name,by decide,Tryz.func282.trans (congrArg some (by kernel_rfl))⟩
 f22:=⟨Tryz.f283.name,by decide,Tryz.func283.trans (congrArg some (by kernel_rfl))⟩
 f23:=⟨Tryz.f284.name,by decide,Tryz.func284.trans (congrArg some (by kernel_rfl))⟩
 f24:=⟨Tryz.f285.name,by decide,Tryz.func285.trans (congrArg some (by kernel_rfl))⟩
 f25:=⟨Tryz.f286.name,by decide,Tryz.func286.trans (congrArg some (by kernel_rfl))⟩
 f26:=⟨Tryz.f287.name,by decide,Tryz.func287.trans (congrArg some (by kernel_rfl))⟩
 f27:=⟨Tryz.f288.name,by decide,Tryz.func288.trans (congrArg some (by kernel_rfl))⟩
 f28:=Tryz.func223.trans (congrArg some (by kernel_rfl))
 f29:=Tryz.func224.trans (congrArg some (by kernel_rfl))
 f46:=⟨Tryz.f297.name,by decide,Tryz.func297.trans (congrArg some (by kernel_rfl))⟩
 f47:=Tryz.func260.trans (congrArg some (by kernel_rfl))
 f48:=Tryz.func261.trans (congrArg some (by kernel_rfl))
 f49:=⟨Tryz.f298.name,by decide,Tryz.func298.trans (congrArg some (by kernel_rfl))⟩
 f50:=⟨Tryz.f299.name,by decide,Tryz.func299.trans (congrArg some (by kernel_rfl))⟩
 f57:=⟨Tryz.f301.name,by decide,Tryz.func301.trans (congrArg some (by kernel_rfl))⟩
 t0:=Tryz.underlying0
 a0:=Tryz.isAgg0
 z0:=Tryz.sizeOf0
 v0:=Tryz.zeroValue0
 t3:=Tryz.underlying3
 a3:=Tryz.isAgg3
 z3:=Tryz.sizeOf3
 v3:=Tryz.zeroValue3
 t4:=Tryz.underlying4
 a4:=Tryz.isAgg4
 z4:=Tryz.sizeOf4
 v4:=Tryz.zeroValue4
 t5:=Tryz.underlying5
 a5:=Tryz.isAgg5
 z5:=Tryz.sizeOf5
 v5:=Tryz.zeroValue5
 t9:=Tryz.underlying9
 a9:=Tryz.isAgg9
 z9:=Tryz.sizeOf9
 v9:=Tryz.zeroValue9
 t22:=Tryz.underlying162
 a22:=Tryz.isAgg162
 z22:=Tryz.sizeOf162
 v22:=Tryz.zeroValue162
 t25:=Tryz.underlying243
 a25:=Tryz.isAgg243
 z25:=Tryz.sizeOf243
 v25:=Tryz.zeroValue243
 t39:=Tryz.underlying253
 a39:=Tryz.isAgg253
 z39:=Tryz.sizeOf253
 v39:=Tryz.zeroValue253
 t45:=Tryz.underlying300
 a45:=Tryz.isAgg300
 z45:=Tryz.sizeOf300
 v45:=Tryz.zeroValue300
 t46:=Tryz.underlying301
 a46:=Tryz.isAgg301
 z46:=Tryz.sizeOf301
 v46:=Tryz.zeroValue301
 t50:=Tryz.underlying234
 a50:=Tryz.isAgg234
 z50:=Tryz.sizeOf234
 v50:=Tryz.zeroValue234
 t53:=Tryz.underlying307
 a53:=Tryz.isAgg307
 z53:=Tryz.sizeOf307
 v53:=Tryz.zeroValue307
 t55:=Tryz.underlying309
 a55:=Tryz.isAgg309
 z55:=Tryz.sizeOf309
 v55:=Tryz.zeroValue309
 t66:=Tryz.underlying337
 a66:=Tryz.isAgg337
 z66:=Tryz.sizeOf337
 v66:=Tryz.zeroValue337
 t70:=Tryz.underlying341
 a70:=Tryz.isAgg341
 z70:=Tryz.sizeOf341
 v70:=Tryz.zeroValue341
 t76:=Tryz.underlying362
 a76:=Tryz.isAgg362
 z76:=Tryz.sizeOf362
 v76:=Tryz.zeroValue362
 t77:=Tryz.underlying289
 a77:=Tryz.isAgg289
 z77:=Tryz.sizeOf289
 v77:=Tryz.zeroValue289}
theorem zgD(F cur:Array Value)(h:F.size<=cur.size):(putCells id 0 F cur).toList.take F.size=F.toList:=by
 apply List.ext_getElem?;intro t;rw[List.getElem?_take];split
 ·rename_i ht;have h2:t<cur.size:=by omega
  simp[putCells,ht,h2,getElem!_pos]
 ·rename_i ht;rw[List.getElem?_eq_none (by simpa using ht)]
theorem zgC(F cur:Array Value):(putCells id 0 F cur).size =cur.size:=by simp[putCells]
/-- The world behind the sorting. -/
theorem zkR{enc:Problem->List Value}{k m g:Nat}{d:Array Problem}{os:Array Obj}{W:World}{cur:Array Value}{e:TypeId}(hg:W.heap[g]? =some (.cells cur e (0,0))):
  (∀b,b<W.heap.size->b≠g->(sortWorldK enc k W g 0 m d os).heap[b]? =W.heap[b]?)/\(sortWorldK enc k W g 0 m d os).heap[g]? =some (.cells (putCells id 0 (flatK enc k d) cur) e (0,0))/\
   W.heap.size<=(sortWorldK enc k W g 0 m d os).heap.size :=by
 have hlt:g<W.heap.size:=(Array.getElem?_eq_some_iff.1 hg).1;have hh:(sortWorldK enc k W g 0 m d os).heap =W.heap.modify g (onCells (putCells id 0 (flatK enc k d)))++os:=rfl;rw[hh];refine⟨fun b hb hne=> ?_,?_,by simp⟩
 ·rw[Array.getElem?_append_left (by simpa using hb),Array.getElem?_modify,if_neg (Ne.symm hne)]
 ·rw[Array.getElem?_append_left (by simpa using hlt),Array.getElem?_modify,if_pos rfl,hg];rfl
theorem ztX{W:World}{F:Nat->Prop}: ∀(l:List Problem) (vs:List Value),zav W F (l.map zbW).flatten vs↔vs=l.flatMap zgl
 | [],vs=>by simp[zav]
 | p::l,vs=>by
  have ih:=ztX (W:=W) (F:=F) l;simp only[List.map_cons,List.flatten_cons,zbW,eI,List.cons_append,List.nil_append,zav,Aw.Rd,List.flatMap_cons,zgl];constructor
  ·rintro⟨v,r,rfl,rfl,v2,r2,rfl,rfl,v3,r3,rfl,rfl,h⟩;rw[(ih r3).1 (by simpa [zbW,eI]using h)]
  ·rintro rfl;refine⟨_,_,rfl,rfl,_,_,rfl,rfl,_,_,rfl,rfl,?_⟩;have:=(ih (l.flatMap zgl)).2 rfl;simpa [zbW,eI]using this
theorem zba(l:List Problem):(zcl l).length =l.length:=by simp[zcl]
theorem sort_c(l:List Problem)(hl:l.length<4611686018427387904):FnL Tryz.prog 208 [.ar 0 l.length,.d (.clo (.func 153) [] [])] [(0,.arr 221 3 .flat (l.map zbW))] (fun V ol new=>V= .tup []/\ol=[(0,.arr 221 3 .flat ((zcl l).map zbW))]/\new=[]):=by
 refine⟨fun W bs=>Tryz.call208 bs W,?_⟩;intro W F O0 η S vs hm hO hr;simp only[zaN,zaL]at hr;obtain⟨v0,r0,rfl,hv0,v1,r1,rfl,hv1,rfl⟩:=hr;have hobj:=hm.obj 0 _ (by simp only[om,if_true]; rfl);have e0:v0=η 0:=(hv0 221 3 .flat (l.map zbW) (by simp[om])).2 (by simp);have fin: ∀(W':World) (F':Nat->Prop),Mem ⟨Tryz.prog,N0,W,F,O0,[],[],fun _=>undef⟩ (om [(0,.arr 221 3 .flat ((zcl l).map zbW))]) W' F' η S->
   ∃v' V Oo new F' η' S',Ending.returned (.tuple #[])= .returned v'/\(∃ol,Oo=om ol/\(V=AV.tup []/\ol=[(0,AO.arr 221 3 .flat ((zcl l).map zbW))]/\new=[]))/\(∀i∈new,∀lim fam stop l rest,Oo i≠some (.ext lim fam stop l rest))/\
    Mem ⟨Tryz.prog,N0,W,F,O0,[],[],fun _=>undef⟩ Oo W' F' η' S'/\zaL Oo W' F' η' V v'/\za7 (om [(0,.arr 221 3 .flat (l.map zbW))]) Oo η η' new:=by
  intro W' F' m1;refine⟨_,.tup [],_,[],F',η,S,rfl,⟨_,rfl,rfl,rfl,rfl⟩,by simp,m1,by simp[zaL,zaN],?_⟩;intro id o' ho;simp only[om]at ho;split at ho
  ·rename_i h0;subst h0;cases ho;exact .inr ⟨_,by simp only[om,if_true]; rfl,by simp[zba]⟩
  ·cases ho
 have e1:v1= .func (.func 153) #[] #[]:=by
  simp only[Aw.Rd,zav]at hv1;obtain⟨a,b,rfl,rfl,rfl⟩:=hv1;rfl
 subst e0 e1;obtain⟨_,hk,hcase⟩:=hobj;rcases hcase with⟨hn,hes,hs⟩ | ⟨g,cap,cur,s1,hv,hg,hle,hcap,hcur,hs,hC⟩
 ·have:l=[]:=by simpa using hes
  subst this;obtain⟨ad,hn⟩:=hn;rw[hn];refine(AnyF.slices_SortFunc_none Tryz.sortPos ad 0 _ W).mono ?_;rintro e W' ⟨rfl,hW⟩;subst hW;exact fin _ F (by simpa [zcl]using hm)
 ·obtain⟨hC2,rfl⟩:=(zuK _ _ _).1 hC;have hcells:=(ztX l _).1 hC2;rw[List.length_map]at hv hcells;rw[hv];have hsz:(flatK zgl 3 l.toArray).size =l.length*3:=by simp
  have hH:HoldsK zgl 3 W g 0 l.toArray:=by
   intro j hj;rw[hsz]at hj;have hjc:j<cur.size:=by rw[hcur,List.length_map]at*; omega
   have e2:cur[j]? =(flatK zgl 3 l.toArray)[j]? :=by
    have h1:=congrArg (fun x=>x[j]?) hcells;rw[<-zfC]at h1;simp only[List.getElem?_take,hj,if_true,Array.getElem?_toList]at h1;exact h1
   refine⟨?_,by simp[World.frozen?,hg]⟩;simp only[World.cell?,hg,Nat.zero_add];have:(flatK zgl 3 l.toArray)[j]! =(flatK zgl 3 l.toArray)[j]'(by rw[hsz]; exact hj):=getElem!_pos _ j (by rw[hsz]; exact hj);simp only[id,this];rw[show(({block:=g,off:=j,spot:=none}:Addr).spot.isSome)=false from rfl];simp only[Bool.false_eq_true,if_false,e2];rw[Array.getElem?_eq_getElem]
  have hsort:=AnyQ.slices_SortFunc_total Tryz.sortPos 3 Tryz.isAgg221 Tryz.sizeOf221 zgl (fun _=>rfl) (fun x v hv=>by simp[zgl]at hv; rcases hv with rfl | rfl | rfl <;> rfl) zbn zne 153 #[] g 0 cap l.toArray W (fun bs w=>Tryz.call153 bs w) (fun m os dk _ x y=>by simpa [zgl]using zmi x y _) hH (Array.getElem?_eq_some_iff.1 hg).1 (by simpa using hl) zhr;change Calls Tryz.prog 208 _ _ _ at hsort;refine hsort.mono ?_;rintro e W' ⟨rfl,n,os,hW⟩;obtain⟨b1,b2,b3⟩:=zkR (enc:=zgl) (k:=3) (m:=n) (d:=(l.toArray.toList.mergeSort fun x y=> !(ltOf zbn) y x).toArray) (os:=os) hg;have f1:W'.os=W.os:=by rw[hW]; rfl
  have f2:W'.tape=W.tape:=by rw[hW]; rfl
  have f3:W'.output=W.output:=by rw[hW]; rfl
  rw[<-hW]at b1 b2 b3;clear hW hsort;have hk2:za7 (om [(0,.arr 221 3 .flat (l.map zbW))]) (upd (om [(0,.arr 221 3 .flat (l.map zbW))]) 0 (some (.arr 221 3 .flat ((zcl l).map zbW)))) η (upd η 0 (η 0)) []:=by
   intro id o' ho;simp only[upd,om]at ho;split at ho
   ·rename_i h0;subst h0;cases ho;exact .inr ⟨_,by simp only[om,if_true]; rfl,by simp[zba,upd]⟩
   ·rename_i h0;cases ho
  obtain⟨m1,m2⟩:=hm.change (W':=W') (F':=F) 0 (some (.arr 221 3 .flat ((zcl l).map zbW))) (η 0) (S 0) [] f1 f2 f3 b3
   (fun b hb hne=>b1 b hb (fun e=>hne (by rw[hs,e]; simp))) (fun _ h=>h) (fun _ h=>.inl h) (fun b hb=>(hm.apart 0 b hb).1) (hm.nd 0) (fun b hb=>.inl hb) (fun h=>by cases h) hk2 (fun id o ho hne=>by simp[om]at ho; exact absurd ho.1 hne) (fun o ho hF=>by
    cases ho;refine⟨by simp[zba]; simpa using Nat.le_trans hle hcap,fun x hx=> ?_,.inr ⟨g,cap,_,[],?_,b2,?_,hcap,?_,hs,?_⟩⟩
    ·obtain⟨p,_,rfl⟩:=List.mem_map.1 hx; rfl
    ·rw[hv,List.length_map,zba]
    ·simpa [zba]using hle
    ·rw[zgC,hcur]
    ·refine(zuK _ _ _).2 ⟨(ztX _ _).2 ?_,rfl⟩;have hsz2:(flatK zgl 3 (zcl l).toArray).size =l.length*3:=(by simp[zba]);have hle2:(flatK zgl 3 (zcl l).toArray).size <=cur.size:=(by rw[hsz2,hcur]; exact Nat.mul_le_mul_right _ (by simpa using hle));have:=zgD _ cur hle2;rw[zfC,hsz2]at this;rw[List.length_map,zba];exact this)
  have u1:upd (om [(0,.arr 221 3 .flat (l.map zbW))]) 0 (some (.arr 221 3 .flat ((zcl l).map zbW)))=om [(0,.arr 221 3 .flat ((zcl l).map zbW))]:=by
   funext id;simp only[upd,om];split
   ·rfl
   ·rfl
  have u2:upd η 0 (η 0)=η:=by funext id; simp only[upd]; split <;> simp_all
  have u3:upd S 0 (S 0)=S:=by funext id; simp only[upd]; split <;> simp_all
  rw[u1,u2,u3]at m1;exact fin _ F m1
set_option maxHeartbeats 1000000
theorem ziu{n:Nat}{js:List Nat}(hn:js.Nodup)(h: ∀j∈js,j<n)(ha: ∀j,j<n->j∈js):js.Perm (List.range n):=
 (List.perm_ext_iff_of_nodup hn List.nodup_range).2 fun j=>by rw[List.mem_range]; exact⟨h j,ha j⟩
theorem zgf{α:Type}(l:List α)(d:α):(List.range l.length).map (fun j=>l.getD j d)=l:=by
 apply List.ext_getElem (by simp);intro i h1 h2;simp[List.getD,h2]
def zet(l:List Problem)(js:List Nat):List Problem:=js.map fun j=>l.getD j default
def eYk(p:Problem):List D:=[zcU p]
theorem ztd(l:List Problem)(vs:List D)(bs:List Nat)(clock:Nat):zoR Tryz.prog 209 [.ptr [.mp (l.map zcU) vs bs clock]] (fun pre=> ∃js:List Nat,js.Nodup/\(∀j∈js,j<l.length)/\pre=(zet l js).map eYk) (fun xs=> ∃js:List Nat,js.Nodup/\(∀j∈js,j<l.length)/\(∀j,j<l.length->j∈js)/\xs=(zet l js).map eYk):=by
 intro lim fam stop lp hY;have:=FnL.of_eC (P:=Tryz.prog) (args:=[.yv 0,.d (.ptr [.mp (l.map zcU) vs bs clock])]) (os:=[(0,.ext lim fam stop lp [])]) (PL:=fun _ ol new=>(∃xs,(∃js:List Nat,js.Nodup/\(∀j∈js,j<l.length)/\(∀j,j<l.length->j∈js)/\xs=(zet l js).map eYk)/\ol=[(0,.ext lim fam stop lp xs)]/\new=[])\/(ol=[(0,.ext lim (fun _=>stop) stop lp [])]/\new=[])) (own:=[]) (fun _=>[]) [0] zat Tryz.func209 rfl Tryz.call209 Tryz.ntmps209 (Nat.le_of_ble_eq_true rfl) Tryz.results209 ?_
 ·refine this.mono ?_;rintro V Oo new ⟨ol,rfl,⟨xs,h1,rfl,h2⟩ | ⟨rfl,h2⟩⟩
  ·exact .inl ⟨xs,h1,rfl,h2⟩
  ·exact .inr ⟨rfl,h2⟩
 simp only[ZE,↓reduceIte,pE,pL,pA,pS,pM,pD];refine zgR (fun _ _=>[]) zat l.length (fun i (js:List Nat)=>js.length=i/\js.Nodup/\ ∀j∈js,j<l.length) (fun i js=>([(0,.yv 0),(5,.mo 5)],[(0,.ext lim fam stop lp ((zet l js).map eYk)),(5,.it (l.map zcU) vs bs clock js)])) [] ?_ ?_ ?_ (fun i js hi hI=> ?_)
 ·simp
 ·simp only[ZE,↓reduceIte,pE,pL,pA,pS,pM,pD]
 ·simp only[ZE,↓reduceIte,pE,pL,pA,pS,pM,pD,zet,List.map_nil]
 obtain⟨h1,h2,h3⟩:=hI;simp only[ZE,↓reduceIte,pE,pL,pA,pS,pM,pD];refine⟨by simp only[ZE,↓reduceIte,pE,pL,pA,pS,pM,pD],fun j hj hjs=> ?_,fun hall=> ?_⟩
 ·have hj':j<l.length:=by simpa using hj
  have hD:l.getD j default=l[j]:=by simp[List.getD,hj']
  have hkj:(l.map zcU).getD j default=D.agg [.lit (.int .i64 l[j].code),.lit (.int .i64 l[j].module),.lit (.int .i64 l[j].item)]:=by
   simp[List.getD,hj',zcU,zbW,eI]
  have hlen:i<l.length:=by
   have:=zdr l.length (j::js) (List.nodup_cons.2 ⟨hjs,h2⟩) (fun k hk=>by
    rcases List.mem_cons.1 hk with rfl | hk
    ·exact hj'
    ·exact h3 k hk)
   simp at this; omega
  have hnew:(js++[j]).Nodup /\ ∀k∈js++[j],k<l.length:=by
   refine⟨List.nodup_append.2 ⟨h2,by simp,fun a ha b hb e=> ?_⟩,fun k hk=> ?_⟩
   ·simp at hb; subst hb; subst e; exact hjs ha
   ·rcases List.mem_append.1 hk with hk | hk
    ·exact h3 k hk
    ·simp at hk; subst hk; exact hj'
  have hpick:(zet l js).map eYk++[[D.agg [.lit (.int .i64 l[j].code),.lit (.int .i64 l[j].module),.lit (.int .i64 l[j].item)]]]=(zet l (js++[j])).map eYk:=by
   simp only[zet,List.map_append,List.map_cons,List.map_nil,hD];rfl
  simp only[ZE,↓reduceIte,pE,pL,pA,pS,pM,pD,hkj,List.getLast?_singleton,Option.some_or];refine⟨_,hY,?_,?_,?_⟩
  ·exact⟨js++[j],hnew.1,hnew.2,hpick⟩
  ·simp only[ZE,↓reduceIte,pE,pL,pA,pS,pM,pD,zep,hpick];refine⟨hlen,js++[j],⟨by simp[h1],hnew⟩,?_⟩;simp only[ZE,↓reduceIte,pE,pL,pA,pS,pM,pD]
  ·simp only[ZE,↓reduceIte,pE,pL,pA,pS,pM,pD];refine⟨[3,5],[],?_⟩;simp only[ZE,↓reduceIte,pE,pL,pA,pS,pM,pD]
 ·simp only[ZE,↓reduceIte,pE,pL,pA,pS,pM,pD];refine⟨[5],[],?_⟩;simp only[ZE,↓reduceIte,pE,pL,pA,pS,pM,pD];exact .inl ⟨_,⟨js,h2,h3,fun j hj=>hall j (by simpa using hj),rfl⟩,rfl⟩
theorem keys_c(l:List Problem)(vs:List D)(bs:List Nat)(clock:Nat):FnP Tryz.prog 152 [.mp (l.map zcU) vs bs clock] (.d (.clo (.func 209) [] [.ptr [.mp (l.map zcU) vs bs clock]])) []:=by
 refine FnP.of_eC (own:=[]) (fun _=>[]) zat Tryz.func152 rfl Tryz.call152 Tryz.ntmps152 (Nat.le_of_ble_eq_true rfl) Tryz.results152 (fun hok=> ?_);simp only[ZE,↓reduceIte,pE,pL,pA,pS,pM,pD]
def rowOf:List D->List D
 | [.agg cs]=>cs
 | _=>[]
theorem zkJ(l:List Problem)(js:List Nat):((zet l js).map eYk).map rowOf=(zet l js).map zbW:=by
 rw[List.map_map]; rfl
theorem ziz(l:List Problem)(vs:List D)(bs:List Nat)(clock:Nat)(hl:l.length<=4000000):FnL Tryz.prog 255 [.nils,.d (.clo (.func 209) [] [.ptr [.mp (l.map zcU) vs bs clock]])] [] (fun V ol new=> ∃l':List Problem,l'.Perm l/\V= .ar 90 l'.length/\ol=[(90,.arr 221 3 .flat (l'.map zbW))]/\new=[90]):=by
 refine FnL.of_eC (own:=[]) (fun id=>if id=0 then [.adB 2 0 90 221 3]else []) [] zat Tryz.func255 rfl Tryz.call255 Tryz.ntmps255 (Nat.le_of_ble_eq_true rfl) Tryz.results255 ?_;simp only[ZE,↓reduceIte,pE,pL,pA,pS,pM,pD];refine zq4 zat (fun _=>[]) rfl (by simp only[ZE,↓reduceIte,pE,pL,pA,pS,pM,pD]) (ztd l vs bs clock) (fun pre=>[(2,.box [.ar 90 pre.length]),(90,.arr 221 3 .flat (pre.map rowOf))]) ?_ ?_ ?_ ?_ ?_
 ·simp only[ZE,↓reduceIte,pE,pL,pA,pS,pM,pD]
 ·intro pre; simp[zdU,zie]
 ·simp only[ZE,↓reduceIte,pE,pL,pA,pS,pM,pD,psOk,zeQ]
 ·rintro pre x ⟨js,h1,h2,h3⟩;have hlen:(pre++[x]).length =js.length:=by rw[h3]; simp[zet]
  have hjl:=zdr l.length js h1 h2;simp only[List.length_append,List.length_cons,List.length_nil]at hlen;obtain⟨p,rfl⟩: ∃p,x=eYk p:=by
   have:x∈(zet l js).map eYk:=by rw[<-h3]; simp
   obtain⟨p,_,rfl⟩:=List.mem_map.1 this;exact⟨p,rfl⟩
  simp only[eYk,zcU,ZE,↓reduceIte,pE,pL,pA,pS,pM,pD,zve,zl0,zdU,zie,zrn,zeQ];refine⟨⟨by omega,by omega⟩,by simp,by simp,?_⟩;rw[List.map_append]; rfl
 ·rintro xs ⟨js,h1,h2,h3,rfl⟩;simp only[ZE,↓reduceIte,pE,pL,pA,pS,pM,pD];refine⟨[2],[90],?_⟩;simp only[ZE,↓reduceIte,pE,pL,pA,pS,pM,pD];refine⟨zet l js,?_,rfl,by rw[zkJ]⟩;have:=(ziu h1 h2 h3).map fun j=>l.getD j default;rw[zgf]at this;exact this
theorem zmg(l:List Problem)(vs:List D)(bs:List Nat)(clock:Nat)(hl:l.length<=4000000):FnL Tryz.prog 207 [.d (.clo (.func 209) [] [.ptr [.mp (l.map zcU) vs bs clock]])] [] (fun V ol new=> ∃l':List Problem,l'.Perm l/\V= .ar 90 l'.length/\ol=[(90,.arr 221 3 .flat (l'.map zbW))]/\new=[90]):=by
 refine FnL.of_eC (own:=[]) (fun id=>[]) [] zat Tryz.func207 rfl Tryz.call207 Tryz.ntmps207 (Nat.le_of_ble_eq_true rfl) Tryz.results207 ?_;simp only[ZE,↓reduceIte,pE,pL,pA,pS,pM,pD];refine EFn.g ⟨[(90,90)],[.nils,.d (.clo (.func 209) [] [.ptr [.mp (l.map zcU) vs bs clock]])],_,_,ziz l vs bs clock hl,?_⟩;simp only[ZE,↓reduceIte,pE,pL,pA,pS,pM,pD];rintro V ol new ⟨l',hp,rfl,rfl,rfl⟩;simp only[ZE,↓reduceIte,pE,pL,pA,pS,pM,pD];refine⟨[],[90],?_⟩;simp only[ZE,↓reduceIte,pE,pL,pA,pS,pM,pD];exact⟨l',hp,rfl,rfl⟩
theorem zkQ{l l':List Problem}(h:l.Perm l'):zcl l=zcl l':=by
 unfold zcl;have tr: ∀a b c:Problem,(!(ltOf zbn) b a)=true->(!(ltOf zbn) c b)=true->(!(ltOf zbn) c a)=true:=by
  intro a b c h1 h2;simp only[Bool.not_eq_true']at*;exact zne.ntrans _ _ _ h2 h1
 have to: ∀a b:Problem,((!(ltOf zbn) b a)||(!(ltOf zbn) a b))=true:=by
  intro a b;simp only[Bool.or_eq_true,Bool.not_eq_true'];rw[zbO,zbO];unfold zds;omega
 refine List.Perm.eq_of_pairwise (le:=fun a b=> !(ltOf zbn) b a) ?_ ?_ ?_ ?_
 ·intro a b _ _ h1 h2;simp only[Bool.not_eq_true']at h1 h2;exact zhr a b h2 h1
 ·exact List.pairwise_mergeSort tr to l
 ·exact List.pairwise_mergeSort tr to l'
 ·exact(List.mergeSort_perm l _).trans (h.trans (List.mergeSort_perm l' _).symm)
theorem zpI(l:List Problem)(vs:List D)(bs:List Nat)(clock:Nat)(hl:l.length<=4000000):FnP Tryz.prog 151 [.clo (.func 209) [] [.ptr [.mp (l.map zcU) vs bs clock]],.clo (.func 153) [] []] (.d (.sl ((zcl l).map zbW))) []:=by
 refine FnP.of_eC (own:=[]) (fun id=>[]) zat Tryz.func151 rfl Tryz.call151 Tryz.ntmps151 (Nat.le_of_ble_eq_true rfl) Tryz.results151 (fun hok=> ?_);simp only[ZE,↓reduceIte,pE,pL,pA,pS,pM,pD];refine EFn.g ⟨[(90,90)],[.d (.clo (.func 209) [] [.ptr [.mp (l.map zcU) vs bs clock]])],_,_,zmg l vs bs clock hl,?_⟩;simp only[ZE,↓reduceIte,pE,pL,pA,pS,pM,pD];rintro V ol new ⟨l',hp,rfl,rfl,rfl⟩;simp only[ZE,↓reduceIte,pE,pL,pA,pS,pM,pD];refine EFn.g ⟨[(0,90)],[.ar 0 l'.length,.d (.clo (.func 153) [] [])],_,_,sort_c l' (by have:=hp.length_eq; omega),?_⟩;simp only[ZE,↓reduceIte,pE,pL,pA,pS,pM,pD];rintro V ol new ⟨rfl,rfl,rfl⟩;simp only[ZE,↓reduceIte,pE,pL,pA,pS,pM,pD];exact⟨(zba l').symm,by rw[zkQ hp]⟩
set_option maxHeartbeats 2000000
/-- What is zcV in a module; in all. -/
def zeo(l:List Module)(i:Nat)(m:Module)(F:List Problem)(k:Nat):List Problem:=(m.items.take k).zipIdx.foldl (fun F p=>zdo l i p.2 m p.1 F) F
def zlY(l:List Module)(F:List Problem)(p:Module×Nat):List Problem:=zeo l p.2 p.1 (zhG l p.2 p.1 F) p.1.items.length
def zcV(l:List Module):List Problem:=l.zipIdx.foldl (zlY l) []
noncomputable def check(l:List Module):List Problem:=zcl (zcV l)
theorem zeL{α β:Type}(f:β->α×Nat->β)(b:β)(l:List α)(i:Nat)(h:i<l.length):(l.take (i+1)).zipIdx.foldl f b=f ((l.take i).zipIdx.foldl f b) (l[i],i):=by
 rw[List.take_succ_eq_append_getElem h,List.zipIdx_append,List.foldl_append,List.length_take,Nat.min_eq_left (Nat.le_of_lt h)];simp
theorem zef(F:List Problem)(b:Bool)(p:Problem):(zaO F b p).length <=F.length+1:=by
 unfold zaO zuN;split
 ·split <;> simp
 ·omega
theorem zw4{l:List Module}{i k:Nat}{m:Module}{x:Item}{F:List Problem}(hi:i<=9223372036854775807)(hk:k<=9223372036854775807)(h: ∀q∈F,zb7 q): ∀q∈zdo l i k m x F,zb7 q:=by
 have hin: ∀c:Int,(Lit.int .i64 c).wf =true->zb7 ⟨c,i,k⟩:=fun c hc=>⟨hc,zdi hi,zdi hk⟩;have h1: ∀q∈zex i k m x F,zb7 q:=by
  unfold zex;split
  ·exact za8 h (hin 1 rfl)
  ·exact h
 have h3:=za8 (b:=zdp l m x) (za8 (b:=zay x) h1 (hin 2 rfl)) (hin 3 rfl);unfold zdo zgm
 (repeat' split) <;> first | exact za8 h3 (hin _ rfl) | exact h3
theorem zs4(l:List Module)(i k:Nat)(m:Module)(x:Item)(F:List Problem):(zdo l i k m x F).length <=F.length+4:=by
 have h1:(zex i k m x F).length <=F.length+1:=by
  unfold zex;split
  ·exact zef _ _ _
  ·omega
 have h2:=zef (zex i k m x F) (zay x) ⟨2,i,k⟩;have h3:=zef (zaO (zex i k m x F) (zay x) ⟨2,i,k⟩) (zdp l m x) ⟨3,i,k⟩;have h4:=fun b p=>zef (zaO (zaO (zex i k m x F) (zay x) ⟨2,i,k⟩) (zdp l m x) ⟨3,i,k⟩) b p;unfold zdo zgm
 (repeat' split) <;> first | omega | exact Nat.le_trans (h4 _ _) (by omega)
theorem zpb{l:List Module}{i:Nat}{m:Module}{F:List Problem}(hi:i<=9223372036854775807)(h: ∀q∈F,zb7 q): ∀q∈zhG l i m F,zb7 q:=
 za8 (za8 h ⟨rfl,zdi hi,rfl⟩) ⟨rfl,zdi hi,rfl⟩
theorem zsT(l:List Module)(i:Nat)(m:Module)(F:List Problem):(zhG l i m F).length <=F.length+2:=by
 have h1:=zef F (zbX l i m) ⟨1,i,-1⟩;have h2:=zef (zaO F (zbX l i m) ⟨1,i,-1⟩) (loops l i) ⟨7,i,-1⟩;unfold zhG; omega
theorem zf1(l:List Module)(i:Nat)(m:Module)(F:List Problem)(k:Nat)(hk:k<m.items.length):zeo l i m F (k+1)=zdo l i k m m.items[k] (zeo l i m F k):=by
 unfold zeo;rw[zeL _ _ _ _ hk]
theorem zmG{l:List Module}{i:Nat}{m:Module}{F:List Problem}(hi:i<=9223372036854775807)(hm:m.items.length<=9223372036854775807)(h: ∀q∈F,zb7 q)(k:Nat):k<=m.items.length-> ∀q∈zeo l i m F k,zb7 q:=by
 induction k with
 | zero=>intro _; exact h
 | succ k ih=>
  intro hk;rw[zf1 _ _ _ _ _ (by omega)];exact zw4 hi (by omega) (ih (by omega))
theorem zqp(l:List Module)(i:Nat)(m:Module)(F:List Problem)(k:Nat):k<=m.items.length->(zeo l i m F k).length <=F.length+4*k:=by
 induction k with
 | zero=>intro _; exact Nat.le_refl _
 | succ k ih=>
  intro hk;rw[zf1 _ _ _ _ _ (by omega)];have:=ih (by omega);have h2:=zs4 l i k m m.items[k] (zeo l i m F k);omega
/-- Files ze1 enough that all fits. -/
structure Small (l:List Module):Prop where
 len:l.length<=1000
 items: ∀m∈l,m.items.length<=900
 nums: ∀m∈l,∀x∈m.items,(zaX x).length <=2000000
theorem zsV(l:List Module)(i:Nat)(h:i<l.length):znH (l.take (i+1))=zc4 (znH (l.take i)) (l[i],i):=by
 unfold znH;exact zeL zc4 [] l i h
theorem modF_in{l:List Module}{F:List Problem}{i:Nat}{m:Module}(hi:i<=9223372036854775807)(hm:m.items.length<=9223372036854775807)(h: ∀q∈F,zb7 q): ∀q∈zlY l F (m,i),zb7 q:=zmG hi hm (zpb hi h) _ (Nat.le_refl _)
theorem zlc{l:List Module}(hS:Small l)(i:Nat):i<=l.length->(∀q∈(l.take i).zipIdx.foldl (zlY l) [],zb7 q)/\((l.take i).zipIdx.foldl (zlY l) []).length <=3602*i:=by
 induction i with
 | zero=>intro _; simp
 | succ i ih=>
  intro hi;obtain⟨h1,h2⟩:=ih (by omega);have hi':i<l.length:=by omega
  rw[zeL _ _ _ _ hi'];have hl:=hS.len;have hm:=hS.items l[i] (List.getElem_mem hi');refine⟨modF_in (by omega) (by omega) h1,?_⟩;have h3:=zsT l i l[i] ((l.take i).zipIdx.foldl (zlY l) []);have h4:=zqp l i l[i] (zhG l i l[i] ((l.take i).zipIdx.foldl (zlY l) [])) l[i].items.length (Nat.le_refl _);have e:zlY l ((l.take i).zipIdx.foldl (zlY l) []) (l[i],i)=zeo l i l[i] (zhG l i l[i] ((l.take i).zipIdx.foldl (zlY l) [])) l[i].items.length :=rfl;rw[e];omega
theorem zkt: ∀ {l:List D},(∀y∈l,y.ok)->D.okL l
 | [],_=>by simp only[D.okL]
 | y::l,h=>by simp only[D.okL]; exact⟨h y (by simp),zkt fun z hz=>h z (by simp[hz])⟩
theorem zp9{m:Module}(h:D.okL (zaC m)):D.okL (zaf m):=by
 simp only[zaC,D.okL]at h;obtain⟨h1,h2,h3,h4,_⟩:=h;have hi:=(za9 h4).2;refine zkt fun y hy=> ?_;simp only[zaf,List.mem_cons,List.not_mem_nil,or_false]at hy;rcases hy with rfl | rfl | rfl | rfl | rfl | rfl
 ·exact h1
 ·exact h2
 ·exact h3
 ·exact h4
 ·simp only[sMp,D.ok];refine⟨zkt fun y hy=> ?_,zkt fun y hy=> ?_⟩
  ·obtain⟨p,_,rfl⟩:=List.mem_map.1 hy; simp only[D.ok]
  ·obtain⟨p,hp,rfl⟩:=List.mem_map.1 hy;simp only[eIt,D.ok];exact hi p.2 (zkf _ p hp)
 ·simp only[sMp,D.ok];refine⟨zkt fun y hy=> ?_,zkt fun y hy=> ?_⟩
  ·obtain⟨p,_,rfl⟩:=List.mem_map.1 hy; simp only[D.ok]
  ·obtain⟨p,_,rfl⟩:=List.mem_map.1 hy; simp only[eB,D.ok]
theorem zqa{l:List Module}(h:(zax l).ok):(zab l).ok :=by
 have h1:l.length<=maxLen:=by simp only[zax,D.ok,List.length_map]at h; exact h.1
 have h2:=(za9 h).2;simp only[zab,D.ok,List.length_map];exact⟨h1,zov fun y hy=>by
  obtain⟨m,hm,rfl⟩:=List.mem_map.1 hy;exact zp9 (h2 m hm)⟩
theorem zk6(l:List Module)(hS:Small l):FnP Tryz.prog 98 [.agg [zax l]] (.d (ze3 (check l))) []:=by
 refine FnP.of_eC (own:=[]) (fun i=>if i=1 then [.adB 3 0 100 232 6]else if i=2005 then [.ord ⟨[(0,none),(1,none),(2,none),(3,none),(4,none),(5,some []),(6,some []),(7,some [])]⟩]else if i=1010 then [.frz 100,.frz 11]else chL i) zat Tryz.func98 rfl Tryz.call98 Tryz.ntmps98 (Nat.le_of_ble_eq_true rfl) Tryz.results98 (fun hok=> ?_);have hlen:=hS.len;have e0:sK ([]:List (Str×Int))=[]:=rfl;have e1:sV eI ([]:List (Str×Int))=[]:=rfl;have e2:znH []=[]:=rfl;simp(maxSteps:=4000000) only[ZE,↓reduceIte,pE,pL,pA,pS,pM,pD,zap,zab,zaF,sMp,zaf,zak,zal,zaj,zN,qT,qG,qL,qH,qN,qB,qE,qO,qA,qM];refine za1 (fun i=>if i=2005 then [.ord ⟨[(0,none),(1,none),(2,none),(3,none),(4,none),(5,some []),(6,some []),(7,some [])]⟩]else chL i) zat l.length (fun _=>True) (fun i=>([(1,.bp 1 0),(3,.bp 3 0),(15,.d (zax l)),(16,.d (eI l.length)),(17,.d (eI i))],
  [(1,.box [.d (zax l)]),(3,.box [.ar 100 i,.mo 11,.mo 12]),(100,.arr 232 6 .flat ((l.take i).map zaf)),(11,.map (sK (znH (l.take i))) (sV eI (znH (l.take i))) (List.range (znH (l.take i)).length) (znH (l.take i)).length),(12,zaS [])])) trivial ?_ ?_ (fun i hi _=> ?_)
 ·simp only[ZE,↓reduceIte,pE,pL,pA,pS,pM,pD]
 ·simp only[ZE,↓reduceIte,pE,pL,pA,pS,pM,pD,zap,zab,zaF,sMp,zaf,zak,zal,zaj,List.take_zero,e0,e1,e2,List.length_nil,List.range_zero,List.map_nil,zaS,pK,pV]
 rcases Nat.lt_or_ge i l.length with h | h
 ·have hw:=zaq (show i<9223372036854775807 by omega);have sc:=zxG l[i];simp only[ZE,↓reduceIte,pE,pL,pA,pS,pM,pD,zap,zab,zaF,sMp,zaf,zak,zal,zaj]at sc;have hst:=zsV l i h;obtain⟨acc,hacc⟩:=zX (znH (l.take i));rw[hacc]at hst;rw[hacc,hst,List.take_succ_eq_append_getElem h,List.map_append];simp only[List.map_cons,List.map_nil];simp(maxSteps:=4000000) only[ZE,↓reduceIte,pE,pL,pA,pS,pM,pD,zaw h,zaa h,zai h,hw,zN,qT,qG,qL,qH,qN,qB,qE,qO,qA,qM,zap,zab,zaF,sMp,zaf,zak,zal,zaj,zaS];refine⟨by kernel_rfl,zaz.i sc ?_⟩;cases hg:get acc l[i].name with
  | none=>
   have e:zc4 acc (l[i],i)=acc++[(l[i].name,(i:Int))]:=by unfold zc4; rw[if_pos (by rw[hg]; rfl)]
   rw[e];have hput:=zkl (zqH eI (x:=(i:Int)) hg);simp only[eI]at hput;simp(maxSteps:=4000000) only[ZE,↓reduceIte,pE,pL,pA,pS,pM,pD,hw,zN,qT,qG,qL,qH,qN,qB,qE,qO,qA,qM,zap,zab,zaF,sMp,zaf,zak,zal,zaj,zaS,hg,hput,List.length_take,Nat.min_eq_left (Nat.le_of_lt h)];exact⟨⟨by omega,by omega⟩,by simp; omega,fun y hy=>zcr _ y hy,fun y hy=>zcr _ y hy,h⟩
  | some z=>
   have e:zc4 acc (l[i],i)=acc:=by unfold zc4; rw[if_neg (by rw[hg]; simp)]
   rw[e];simp(maxSteps:=4000000) only[ZE,↓reduceIte,pE,pL,pA,pS,pM,pD,hw,zN,qT,qG,qL,qH,qN,qB,qE,qO,qA,qM,zap,zab,zaF,sMp,zaf,zak,zal,zaj,zaS,hg,List.length_take,Nat.min_eq_left (Nat.le_of_lt h)];exact⟨⟨by omega,by omega⟩,by simp; omega,fun y hy=>zcr _ y hy,h⟩
 ·have:i=l.length:=by omega
  subst this;have hml:(zax l).ok :=by
   have:=(zaM hok).1;simp only[D.ok,D.okL]at this;exact this.1
  have hsok:=zqa hml;have hm2:=(za9 hml).2;simp(maxSteps:=4000000) only[ZE,↓reduceIte,pE,pL,pA,pS,pM,pD,zaI h,List.take_length,zN,qT,qG,qL,qH,qN,qB,qE,qO,qA,qM,zap,zab,zaF,sMp,zaf,zak,zal,zaj,zaS];refine za1 chL zat l.length (fun _=>True) (fun i=>([(1,.bp 1 0),(3,.bp 3 0),(46,.d (zax l)),(47,.d (eI l.length)),(48,.d (eI i))],
   [(1,.box [.d (zax l)]),(3,.box [.d (zab l),.d (zaF l),.mo 12]),(12,zaS ((l.take i).zipIdx.foldl (zlY l) []))])) trivial ?_ ?_ (fun i hi _=> ?_)
  ·simp only[ZE,↓reduceIte,pE,pL,pA,pS,pM,pD]
  ·simp only[ZE,↓reduceIte,pE,pL,pA,pS,pM,pD,zap,zab,zaF,sMp,zaf,zak,zal,zaj,List.take_zero,List.zipIdx_nil,List.foldl_nil,zaS,pK,pV,List.map_nil,List.length_nil,List.range_zero]
  rcases Nat.lt_or_ge i l.length with h | h
  ·have hw:=zaq (show i<9223372036854775807 by omega);obtain⟨hF1,hF2⟩:=zlc hS i (Nat.le_of_lt h);have hst:=zeL (zlY l) [] l i h;obtain⟨F,hF⟩:=zX ((l.take i).zipIdx.foldl (zlY l) []);rw[hF]at hst hF1 hF2;rw[hF,hst];have hmo:=hm2 l[i] (List.getElem_mem h);have hil:=hS.items l[i] (List.getElem_mem h);have hc:=head_c l i l[i] hsok hmo h F hF1;have hG:=zpb (l:=l) (m:=l[i]) (show i<=9223372036854775807 by omega) hF1;have hlast:zlY l F (l[i],i)=zeo l i l[i] (zhG l i l[i] F) l[i].items.length :=rfl;rw[hlast];obtain⟨G,hGe⟩:=zX (zhG l i l[i] F);rw[hGe]at hc hG ⊢;simp only[ZE,↓reduceIte,pE,pL,pA,pS,pM,pD,zap,zab,zaF,sMp,zaf,zak,zal,zaj,zaS]at hc;simp(maxSteps:=4000000) only[ZE,↓reduceIte,pE,pL,pA,pS,pM,pD,zaw h,zaa h,zai h,zN,qT,qG,qL,qH,qN,qB,qE,qO,qA,qM,zap,zab,zaF,sMp,zaf,zak,zal,zaj,zaS];refine EFn.g ⟨[(1,12)],_,_,_,hc,?_⟩;simp only[ZE,↓reduceIte,pE,pL,pA,pS,pM,pD,zap,zab,zaF,sMp,zaf,zak,zal,zaj];rintro V ol new ⟨rfl,rfl,rfl⟩;simp only[ZE,↓reduceIte,pE,pL,pA,pS,pM,pD,zap,zab,zaF,sMp,zaf,zak,zal,zaj];refine za1 chL zat l[i].items.length (fun _=>True) (fun k=>([(1,.bp 1 0),(3,.bp 3 0),(8,.d (eI i)),(46,.d (zax l)),(47,.d (eI l.length)),(48,.d (eI i)),(59,.d (eI l[i].items.length)),(60,.d (eI k))],
    [(1,.box [.d (zax l)]),(3,.box [.d (zab l),.d (zaF l),.mo 12]),(12,zaS (zeo l i l[i] G k))])) trivial ?_ ?_ (fun k hk _=> ?_)
   ·simp only[ZE,↓reduceIte,pE,pL,pA,pS,pM,pD]
   ·have e:zeo l i l[i] G 0=G:=rfl;simp only[ZE,↓reduceIte,pE,pL,pA,pS,pM,pD,zap,zab,zaF,sMp,zaf,zak,zal,zaj,zaS,e]
   rcases Nat.lt_or_ge k l[i].items.length with h' | h'
   ·have hw':=zaq (show k<9223372036854775807 by omega);have hI:=zmG (l:=l) (show i<=9223372036854775807 by omega) (show l[i].items.length <=9223372036854775807 by omega) hG k (Nat.le_of_lt h');have ic:=item_c l i k l[i] l[i].items[k] hsok h rfl h' rfl (hS.nums _ (List.getElem_mem h) _ (List.getElem_mem h')) _ hI;rw[zf1 _ _ _ _ _ h'];simp only[ZE,↓reduceIte,pE,pL,pA,pS,pM,pD,zap,zab,zaF,sMp,zaf,zak,zal,zaj,zaS]at ic;simp(maxSteps:=4000000) only[ZE,↓reduceIte,pE,pL,pA,pS,pM,pD,zaw h',zN,qT,qG,qL,qH,qN,qB,qE,qO,qA,qM,zap,zab,zaF,sMp,zaf,zak,zal,zaj,zaS,hw'];refine EFn.g ⟨[(1,12)],_,_,_,ic,?_⟩;simp only[ZE,↓reduceIte,pE,pL,pA,pS,pM,pD,zap,zab,zaF,sMp,zaf,zak,zal,zaj];rintro V ol new ⟨rfl,rfl,rfl⟩;simp only[ZE,↓reduceIte,pE,pL,pA,pS,pM,pD,zap,zab,zaF,sMp,zaf,zak,zal,zaj,hw'];exact h'
   ·have:k=l[i].items.length :=(by omega);subst this;simp(maxSteps:=4000000) only[ZE,↓reduceIte,pE,pL,pA,pS,pM,pD,zaI h',zN,qT,qG,qL,qH,qN,qB,qE,qO,qA,qM,zap,zab,zaF,sMp,zaf,zak,zal,zaj,zaS,hw];exact h
  ·have:i=l.length:=by omega
   subst this;have hfd:=zlc hS l.length (Nat.le_refl _);rw[List.take_length]at hfd;have kc:=keys_c (zcV l) (pV (zcV l)) (List.range (zcV l).length) (zcV l).length;have so:=zpI (zcV l) (pV (zcV l)) (List.range (zcV l).length) (zcV l).length (by unfold zcV; omega);have hfe:l.zipIdx.foldl (zlY l) []=zcV l:=rfl;simp(maxSteps:=4000000) only[ZE,↓reduceIte,pE,pL,pA,pS,pM,pD,zaI h,List.take_length,zN,qT,qG,qL,qH,qN,qB,qE,qO,qA,qM,zap,zab,zaF,sMp,zaf,zak,zal,zaj,zaS,hfe];refine EFn.p ?_;simp only[ZE,↓reduceIte,pE,pL,pA,pS,pM,pD,pK];refine zar.i kc ?_;simp only[ZE,↓reduceIte,pE,pL,pA,pS,pM,pD];refine EFn.p ?_;simp only[ZE,↓reduceIte,pE,pL,pA,pS,pM,pD];refine zar.i so ?_;simp only[ZE,↓reduceIte,pE,pL,pA,pS,pM,pD,check]
set_option maxHeartbeats 1000000
/-- Short strings. -/
def st(s:List UInt8)(h:s.length<=100:=by decide):Str:=⟨⟨s.toArray⟩,by
 have:(⟨s.toArray⟩:ByteArray).size =s.length:=by simp[ByteArray.size]
 rw[this]; unfold maxLen; omega⟩
def zaR(l:List Nat)(i:Nat):Nat:=if l.length=0 then 0 else l.getD (i % l.length) 0
theorem zgo{l:List Nat}(h: ∀b∈l,b<256)(i:Nat):zaR l i<256:=by
 unfold zaR;split
 ·omega
 ·have hl:i % l.length<l.length:=Nat.mod_lt _ (by omega);have:l.getD (i % l.length) 0=l[i % l.length]:=by simp[List.getD,hl]
  rw[this];exact h _ (List.getElem_mem hl)
theorem zwB(l:List Nat)(i:Nat)(hb: ∀b∈l,b<256)(hi:i<4611686018427387904):FnP Tryz.prog 164 [zau l,eI i] (.d (eI (zaR l i))) []:=by
 refine FnP.of_eC (own:=[]) (fun _=>[]) zat Tryz.func164 rfl Tryz.call164 Tryz.ntmps164 (Nat.le_of_ble_eq_true rfl) Tryz.results164 (fun hok=> ?_);have hl:l.length<=9223372036854775807:=(za9 (zaM hok).1).1;by_cases h:l.length=0
 ·have h':((l.length:Int)==0)=true:=by simpa using h
  simp(maxSteps:=4000000) only[ZE,↓reduceIte,pE,pL,pA,pS,pM,pD,h',zN,qT,qG,qL,qH,qN,qB,qE,qO,qA,qM,zaR,if_pos h]
 ·have h':((l.length:Int)==0)=false:=by simpa using h
  have ht:(i:Int).tmod (l.length:Int)=((i % l.length:Nat):Int):=(Int.ofNat_tmod i l.length).symm;have hm:i % l.length<l.length:=Nat.mod_lt _ (by omega);have hbl:zaR l i=l[i % l.length]:=by rw[zaR,if_neg h]; simp[List.getD,hm]
  have hlt:=hb _ (List.getElem_mem hm);have hw:IntKind.i64.wrap (l[i % l.length]:Int)=(l[i % l.length]:Int):=zaQ (by omega) (by omega);have h0: ¬(l.length:Int)=0:=by omega
  simp(maxSteps:=4000000) only[ZE,↓reduceIte,pE,pL,pA,pS,pM,pD,h',zN,qT,qG,qL,qH,qN,qB,qE,qO,qA,qM,ht,Int.toNat_natCast,zaa hm,zai hm,hw,hbl,h0]
def zmH(l:List Nat)(ns:List Str)(w:Num)(a:Nat):Expr:=
 if zaR l a % 2=0 then .mk 14 (ns.getD (zaR l a / 8 % ns.length) emp) zbj zbj []else .mk 1 emp ⟨(zaR l a / 8 % 2:Nat),emp⟩ w []
def zfa(x y:Expr)(b:Nat):Expr:=
 if b % 4=0 then .mk 8 emp zbj zbj [x,y]else if b % 4=1 then .mk 9 emp zbj zbj [x,y]else if b % 4=2 then .mk 12 emp zbj ⟨1,emp⟩ [x]else .mk 1 emp ⟨1,emp⟩ ⟨1,emp⟩ []
def ziW(x y c:Expr)(b:Nat):Expr:=
 if b / 8 % 7=0 then .mk 2 emp zbj zbj [x]else if b / 8 % 7=1 then .mk 3 emp zbj zbj [x,y]else if b / 8 % 7=2 then .mk 4 emp zbj zbj [x,y]else if b / 8 % 7=3 then .mk 5 emp zbj zbj [x,y]
 else if b / 8 % 7=4 then .mk 6 emp zbj zbj [x,y]else if b / 8 % 7=5 then .mk 7 emp zbj zbj [x,y]else .mk 10 emp zbj zbj [c,x,y]
/-- An expression that bytes say,of some depth. -/
def gen(l:List Nat)(ns:List Str)(w:Num):Nat->Nat->Expr
 | 0,a=>zmH l ns w a
 | d+1,a=>if zaR l a % 8<3 then zmH l ns w a else
  ziW (gen l ns w d (3*a+1)) (gen l ns w d (3*a+2)) (zfa (gen l ns w d (3*a+4)) (zmH l ns w (3*a+5)) (zaR l (3*a+3))) (zaR l a)
def cond(l:List Nat)(ns:List Str)(w:Num)(d a:Nat):Expr:=zfa (gen l ns w d (a+1)) (zmH l ns w (a+2)) (zaR l a)
def zhW(ns:List Str)(w:Num):D:=.agg [zd5 ns,eI w.n,eS w.p]
def eAt(a d:Int):D:=.agg [eI a,eI d]
theorem ziL(l:List Nat)(ns:List Str)(w:Num)(hb: ∀b∈l,b<256)(hn:0<ns.length)(hn2:ns.length<=1000)(a:Nat)(ha:a<=1000000):FnP Tryz.prog 106 [zau l,eAt a 0,zhW ns w] (.d (.agg (zbx (gen l ns w 0 a)))) []:=by
 refine FnP.of_eC (own:=[]) (fun i=>if i=2004 then [.chn,.ord ⟨[(0,none),(1,none),(2,none),(3,none),(4,none),(5,none),(6,none),(7,none),(8,none),(9,none),(10,none),(11,some [])]⟩]else chL i) zat Tryz.func106 rfl Tryz.call106 Tryz.ntmps106 (Nat.le_of_ble_eq_true rfl) Tryz.results106 (fun hok=> ?_);have ac:=zwB l a hb (by omega);have hB:=zgo hb a;obtain⟨b,hbb⟩:=zX (zaR l a);rw[hbb]at ac hB;simp only[ZE,↓reduceIte,pE,pL,pA,pS,pM,pD]at ac;have hm:((b:Int).tmod 2==0)=decide (b % 2=0):=by
  rw[show((b:Int).tmod 2)=((b % 2:Nat):Int)from(Int.ofNat_tmod b 2).symm,Bool.eq_iff_iff]; simp; omega
 have hq:(b:Int).tdiv 8=((b / 8:Nat):Int):=(Int.ofNat_tdiv b 8).symm;have hwq:IntKind.i64.wrap ((b / 8:Nat):Int)=((b / 8:Nat):Int):=zaQ (by omega) (by omega);have hr:((b / 8:Nat):Int).tmod (ns.length:Int)=((b / 8 % ns.length:Nat):Int):=(Int.ofNat_tmod _ _).symm;have hr2:((b / 8:Nat):Int).tmod 2=((b / 8 % 2:Nat):Int):=(Int.ofNat_tmod _ _).symm;have hlt:b / 8 % ns.length<ns.length:=Nat.mod_lt _ hn;have hgt:decide ((ns.length:Int)>0)=true:=by simp; omega
 have hne: ¬(ns.length:Int)=0:=by omega
 have hL:gen l ns w 0 a=zmH l ns w a:=rfl;rw[hL,zmH,hbb];simp(maxSteps:=4000000) only[ZE,↓reduceIte,pE,pL,pA,pS,pM,pD,eAt,zhW,zN,qT,qG,qL,qH,qN,qB,qE,qO,qA,qM];refine EFn.p ?_;simp only[ZE,↓reduceIte,pE,pL,pA,pS,pM,pD];refine zar.i ac ?_;by_cases he:b % 2=0
 ·have hg:ns.getD (b / 8 % ns.length) emp=ns[b / 8 % ns.length]:=by simp[List.getD,hlt]
  rw[if_pos he,hg];simp only[ZE,↓reduceIte,pE,pL,pA,pS,pM,pD,zN,qT,qG,qL,qH,qN,qB,qE,qO,qA,qM,hm,he,decide_true,hgt,hq,hr,hne,hwq,zai hlt,zaa hlt,Int.toNat_natCast,Expr.op,Expr.name,Expr.k,Expr.w,Expr.args,zbj,emp,Int.reduceEq,not_false_eq_true];show ordB _ _ _=true;kernel_rfl
 ·rw[if_neg he];simp only[ZE,↓reduceIte,pE,pL,pA,pS,pM,pD,zN,qT,qG,qL,qH,qN,qB,qE,qO,qA,qM,hm,he,decide_false,hgt,hq,hwq,hr2,Expr.op,Expr.name,Expr.k,Expr.w,Expr.args,zbj,emp,Int.reduceEq,not_false_eq_true]
theorem cond_c(l:List Nat)(ns:List Str)(w:Num)(hb: ∀b∈l,b<256)(d a:Nat)(ha:a<=1000000)
  (i1:FnP Tryz.prog 106 [zau l,eAt ((a+1:Nat):Int) d,zhW ns w] (.d (.agg (zbx (gen l ns w d (a+1))))) [])
  (i2:FnP Tryz.prog 106 [zau l,eAt ((a+2:Nat):Int) 0,zhW ns w] (.d (.agg (zbx (gen l ns w 0 (a+2))))) []):
  FnP Tryz.prog 166 [zau l,eAt a d,zhW ns w] (.d (.agg (zbx (cond l ns w d a)))) []:=by
 refine FnP.of_eC (own:=[]) (fun i=>if i=2001 then [.flt ⟨[(0,none),(1,none),(2,none),(3,none),(4,none),(5,none),(6,none),(7,none),(8,none),(9,none),(10,none),(11,none),(12,none),(13,none),(14,none),(15,none),(18,some []),(19,some [])]⟩ ⟨[16,17],[(18,[16]),(19,[17])]⟩]else chL i) zat Tryz.func166 rfl Tryz.call166 Tryz.ntmps166 (Nat.le_of_ble_eq_true rfl) Tryz.results166 (fun hok=> ?_);have ac:=zwB l a hb (by omega);have hB:=zgo hb a;obtain⟨b,hbb⟩:=zX (zaR l a);rw[hbb]at ac hB;obtain⟨x,hx⟩:=zX (gen l ns w d (a+1));obtain⟨y,hy⟩:=zX (zmH l ns w (a+2));have hy':gen l ns w 0 (a+2)=y:=hy;rw[cond,hbb,hx,hy];rw[hx]at i1;rw[hy']at i2;have w1:IntKind.i64.wrap ((a:Int)+1)=((a+1:Nat):Int):=by rw[<-Int.natCast_succ]; exact zaQ (by omega) (by omega)
 have w2:IntKind.i64.wrap ((a:Int)+2)=((a+2:Nat):Int):=zaQ (by omega) (by omega);have hm:(b:Int).tmod 4=((b % 4:Nat):Int):=(Int.ofNat_tmod b 4).symm;simp only[ZE,↓reduceIte,pE,pL,pA,pS,pM,pD,eAt,zhW]at ac i1 i2;simp(maxSteps:=4000000) only[ZE,↓reduceIte,pE,pL,pA,pS,pM,pD,eAt,zhW,zN,qT,qG,qL,qH,qN,qB,qE,qO,qA,qM,w1,w2];refine⟨by kernel_rfl,zaz.i i1 ?_⟩;simp(maxSteps:=4000000) only[ZE,↓reduceIte,pE,pL,pA,pS,pM,pD,eAt,zhW,zN,qT,qG,qL,qH,qN,qB,qE,qO,qA,qM,w1,w2];refine zaz.i i2 ?_;simp(maxSteps:=4000000) only[ZE,↓reduceIte,pE,pL,pA,pS,pM,pD,eAt,zhW,zN,qT,qG,qL,qH,qN,qB,qE,qO,qA,qM,w1,w2];refine EFn.p ?_;simp only[ZE,↓reduceIte,pE,pL,pA,pS,pM,pD];refine zar.i ac ?_;by_cases b0:b % 4=0
 ·have h0:(((b % 4:Nat):Int)==0)=true:=by simp[b0]
  rw[zfa,if_pos b0];simp only[ZE,↓reduceIte,pE,pL,pA,pS,pM,pD,zN,qT,qG,qL,qH,qN,qB,qE,qO,qA,qM,hm,h0,Expr.op,Expr.name,Expr.k,Expr.w,Expr.args,zbj,emp,Int.reduceEq,not_false_eq_true]
 have h0:(((b % 4:Nat):Int)==0)=false:=by simp; omega
 by_cases b1:b % 4=1
 ·have h1:(((b % 4:Nat):Int)==1)=true:=by simp[b1]
  rw[zfa,if_neg b0,if_pos b1];simp only[ZE,↓reduceIte,pE,pL,pA,pS,pM,pD,zN,qT,qG,qL,qH,qN,qB,qE,qO,qA,qM,hm,h0,h1,Expr.op,Expr.name,Expr.k,Expr.w,Expr.args,zbj,emp,Int.reduceEq,not_false_eq_true]
 have h1:(((b % 4:Nat):Int)==1)=false:=by simp; omega
 by_cases b2:b % 4=2
 ·have h2:(((b % 4:Nat):Int)==2)=true:=by simp[b2]
  rw[zfa,if_neg b0,if_neg b1,if_pos b2];simp only[ZE,↓reduceIte,pE,pL,pA,pS,pM,pD,zN,qT,qG,qL,qH,qN,qB,qE,qO,qA,qM,hm,h0,h1,h2,Expr.op,Expr.name,Expr.k,Expr.w,Expr.args,zbj,emp,Int.reduceEq,not_false_eq_true]
 have h2:(((b % 4:Nat):Int)==2)=false:=by simp; omega
 rw[zfa,if_neg b0,if_neg b1,if_neg b2];simp only[ZE,↓reduceIte,pE,pL,pA,pS,pM,pD,zN,qT,qG,qL,qH,qN,qB,qE,qO,qA,qM,hm,h0,h1,h2,Expr.op,Expr.name,Expr.k,Expr.w,Expr.args,zbj,emp,Int.reduceEq,not_false_eq_true]
theorem genS_c(l:List Nat)(ns:List Str)(w:Num)(hb: ∀b∈l,b<256)(hn:0<ns.length)(hn2:ns.length<=1000)(d a:Nat)(hd:d<=100)(ha:a<=100000)
  (i1:FnP Tryz.prog 106 [zau l,eAt ((3*a+1:Nat):Int) d,zhW ns w] (.d (.agg (zbx (gen l ns w d (3*a+1))))) [])
  (i2:FnP Tryz.prog 106 [zau l,eAt ((3*a+2:Nat):Int) d,zhW ns w] (.d (.agg (zbx (gen l ns w d (3*a+2))))) [])
  (i3:FnP Tryz.prog 166 [zau l,eAt ((3*a+3:Nat):Int) d,zhW ns w] (.d (.agg (zbx (cond l ns w d (3*a+3))))) []):
  FnP Tryz.prog 106 [zau l,eAt a ((d+1:Nat):Int),zhW ns w] (.d (.agg (zbx (gen l ns w (d+1) a)))) []:=by
 refine FnP.of_eC (own:=[]) (fun i=>if i=2004 then [.chn,.ord ⟨[(0,none),(1,none),(2,none),(3,none),(4,none),(5,none),(6,none),(7,none),(8,none),(9,none),(10,none),(11,some [])]⟩]else if i=2021 then [.ord ⟨[(0,none),(1,none),(2,none),(3,none),(4,none),(5,none),(6,none),(7,none),(8,none),(9,none),(10,none),(11,none),(12,none),(13,none),(14,none),(15,some [])]⟩]else chL i) zat Tryz.func106 rfl Tryz.call106 Tryz.ntmps106 (Nat.le_of_ble_eq_true rfl) Tryz.results106 (fun hok=> ?_);have ac:=zwB l a hb (by omega);have hB:=zgo hb a;have hgen:gen l ns w (d+1) a=if zaR l a % 8<3 then zmH l ns w a else ziW (gen l ns w d (3*a+1)) (gen l ns w d (3*a+2)) (cond l ns w d (3*a+3)) (zaR l a):=rfl
 obtain⟨b,hbb⟩:=zX (zaR l a);obtain⟨x,hx⟩:=zX (gen l ns w d (3*a+1));obtain⟨y,hy⟩:=zX (gen l ns w d (3*a+2));obtain⟨z,hz⟩:=zX (cond l ns w d (3*a+3));rw[hx,hy,hz,hbb]at hgen;rw[hgen];rw[hx]at i1;rw[hy]at i2;rw[hz]at i3;rw[hbb]at ac hB;have hm:((b:Int).tmod 2==0)=decide (b % 2=0):=by
  rw[show((b:Int).tmod 2)=((b % 2:Nat):Int)from(Int.ofNat_tmod b 2).symm,Bool.eq_iff_iff]; simp; omega
 have hm8:decide ((b:Int).tmod 8<3)=decide (b % 8<3):=by
  rw[show((b:Int).tmod 8)=((b % 8:Nat):Int)from(Int.ofNat_tmod b 8).symm,Bool.eq_iff_iff]; simp; omega
 have hq:(b:Int).tdiv 8=((b / 8:Nat):Int):=(Int.ofNat_tdiv b 8).symm;have hwq:IntKind.i64.wrap ((b / 8:Nat):Int)=((b / 8:Nat):Int):=zaQ (by omega) (by omega);have hr:((b / 8:Nat):Int).tmod (ns.length:Int)=((b / 8 % ns.length:Nat):Int):=(Int.ofNat_tmod _ _).symm;have hr2:((b / 8:Nat):Int).tmod 2=((b / 8 % 2:Nat):Int):=(Int.ofNat_tmod _ _).symm;have hr7:((b / 8:Nat):Int).tmod 7=((b / 8 % 7:Nat):Int):=(Int.ofNat_tmod _ _).symm;have hlt:b / 8 % ns.length<ns.length:=Nat.mod_lt _ hn;have hgt:decide ((ns.length:Int)>0)=true:=by simp; omega
 have hne: ¬(ns.length:Int)=0:=by omega
 have w3:IntKind.i64.wrap (3*(a:Int))=((3*a:Nat):Int):=zaQ (by omega) (by omega);have w1:IntKind.i64.wrap (((3*a:Nat):Int)+1)=((3*a+1:Nat):Int):=zaQ (by omega) (by omega);have w2:IntKind.i64.wrap (((3*a:Nat):Int)+2)=((3*a+2:Nat):Int):=zaQ (by omega) (by omega);have w4:IntKind.i64.wrap (((3*a:Nat):Int)+3)=((3*a+3:Nat):Int):=zaQ (by omega) (by omega);have wd:IntKind.i64.wrap (((d+1:Nat):Int)-1)=(d:Int):=by rw[show((d+1:Nat):Int)-1=(d:Int) by omega]; exact zaQ (by omega) (by omega)
 have hd0:(((d+1:Nat):Int)==0)=false:=by simp; omega
 simp only[ZE,↓reduceIte,pE,pL,pA,pS,pM,pD,eAt,zhW]at ac i1 i2 i3;simp(maxSteps:=4000000) only[ZE,↓reduceIte,pE,pL,pA,pS,pM,pD,eAt,zhW,zN,qT,qG,qL,qH,qN,qB,qE,qO,qA,qM];refine EFn.p ?_;simp only[ZE,↓reduceIte,pE,pL,pA,pS,pM,pD];refine zar.i ac ?_;by_cases h8:b % 8<3
 ·rw[if_pos h8,zmH,hbb];by_cases he:b % 2=0
  ·have hg:ns.getD (b / 8 % ns.length) emp=ns[b / 8 % ns.length]:=by simp[List.getD,hlt]
   rw[if_pos he,hg];simp only[ZE,↓reduceIte,pE,pL,pA,pS,pM,pD,zN,qT,qG,qL,qH,qN,qB,qE,qO,qA,qM,hd0,hm8,h8,hm,he,decide_true,hgt,hq,hr,hne,hwq,zai hlt,zaa hlt,Int.toNat_natCast,Expr.op,Expr.name,Expr.k,Expr.w,Expr.args,zbj,emp,Int.reduceEq,not_false_eq_true];show ordB _ _ _=true;kernel_rfl
  ·rw[if_neg he];simp only[ZE,↓reduceIte,pE,pL,pA,pS,pM,pD,zN,qT,qG,qL,qH,qN,qB,qE,qO,qA,qM,hd0,hm8,h8,hm,he,decide_true,decide_false,hgt,hq,hwq,hr2,Expr.op,Expr.name,Expr.k,Expr.w,Expr.args,zbj,emp,Int.reduceEq,not_false_eq_true]
 ·rw[if_neg h8];simp only[ZE,↓reduceIte,pE,pL,pA,pS,pM,pD,zN,qT,qG,qL,qH,qN,qB,qE,qO,qA,qM,hd0,hm8,h8,decide_false,w3,w1,wd,Int.reduceEq,not_false_eq_true];refine EFn.p ?_;simp only[ZE,↓reduceIte,pE,pL,pA,pS,pM,pD];refine zar.i i1 ?_;simp only[ZE,↓reduceIte,pE,pL,pA,pS,pM,pD,zN,qT,qG,qL,qH,qN,qB,qE,qO,qA,qM,w3,w2,wd];refine EFn.p ?_;simp only[ZE,↓reduceIte,pE,pL,pA,pS,pM,pD];refine zar.i i2 ?_;rw[ziW];by_cases e0:b / 8 % 7=0
  ·have h0:(((b / 8 % 7:Nat):Int)==0)=true:=by simp[e0]
   rw[if_pos e0];simp only[ZE,↓reduceIte,pE,pL,pA,pS,pM,pD,zN,qT,qG,qL,qH,qN,qB,qE,qO,qA,qM,hq,hwq,hr7,hm,h0,Expr.op,Expr.name,Expr.k,Expr.w,Expr.args,zbj,emp,Int.reduceEq,not_false_eq_true]
  have h0:(((b / 8 % 7:Nat):Int)==0)=false:=by simp; omega
  rw[if_neg e0];by_cases e1:b / 8 % 7=1
  ·have h1:(((b / 8 % 7:Nat):Int)==1)=true:=by simp[e1]
   rw[if_pos e1];simp only[ZE,↓reduceIte,pE,pL,pA,pS,pM,pD,zN,qT,qG,qL,qH,qN,qB,qE,qO,qA,qM,hq,hwq,hr7,h0,h1,Expr.op,Expr.name,Expr.k,Expr.w,Expr.args,zbj,emp,Int.reduceEq,not_false_eq_true]
  have h1:(((b / 8 % 7:Nat):Int)==1)=false:=by simp; omega
  rw[if_neg e1];by_cases e2:b / 8 % 7=2
  ·have h2:(((b / 8 % 7:Nat):Int)==2)=true:=by simp[e2]
   rw[if_pos e2];simp only[ZE,↓reduceIte,pE,pL,pA,pS,pM,pD,zN,qT,qG,qL,qH,qN,qB,qE,qO,qA,qM,hq,hwq,hr7,h0,h1,h2,Expr.op,Expr.name,Expr.k,Expr.w,Expr.args,zbj,emp,Int.reduceEq,not_false_eq_true]
  have h2:(((b / 8 % 7:Nat):Int)==2)=false:=by simp; omega
  rw[if_neg e2];by_cases e3:b / 8 % 7=3
  ·have h3:(((b / 8 % 7:Nat):Int)==3)=true:=by simp[e3]
   rw[if_pos e3];simp only[ZE,↓reduceIte,pE,pL,pA,pS,pM,pD,zN,qT,qG,qL,qH,qN,qB,qE,qO,qA,qM,hq,hwq,hr7,h0,h1,h2,h3,Expr.op,Expr.name,Expr.k,Expr.w,Expr.args,zbj,emp,Int.reduceEq,not_false_eq_true]
  have h3:(((b / 8 % 7:Nat):Int)==3)=false:=by simp; omega
  rw[if_neg e3];by_cases e4:b / 8 % 7=4
  ·have h4:(((b / 8 % 7:Nat):Int)==4)=true:=by simp[e4]
   rw[if_pos e4];simp only[ZE,↓reduceIte,pE,pL,pA,pS,pM,pD,zN,qT,qG,qL,qH,qN,qB,qE,qO,qA,qM,hq,hwq,hr7,h0,h1,h2,h3,h4,Expr.op,Expr.name,Expr.k,Expr.w,Expr.args,zbj,emp,Int.reduceEq,not_false_eq_true]
  have h4:(((b / 8 % 7:Nat):Int)==4)=false:=by simp; omega
  rw[if_neg e4];by_cases e5:b / 8 % 7=5
  ·have h5:(((b / 8 % 7:Nat):Int)==5)=true:=by simp[e5]
   rw[if_pos e5];simp only[ZE,↓reduceIte,pE,pL,pA,pS,pM,pD,zN,qT,qG,qL,qH,qN,qB,qE,qO,qA,qM,hq,hwq,hr7,h0,h1,h2,h3,h4,h5,Expr.op,Expr.name,Expr.k,Expr.w,Expr.args,zbj,emp,Int.reduceEq,not_false_eq_true]
  have h5:(((b / 8 % 7:Nat):Int)==5)=false:=by simp; omega
  rw[if_neg e5];simp only[ZE,↓reduceIte,pE,pL,pA,pS,pM,pD,zN,qT,qG,qL,qH,qN,qB,qE,qO,qA,qM,hq,hwq,hr7,h0,h1,h2,h3,h4,h5,w3,w4,wd,Expr.op,Expr.name,Expr.k,Expr.w,Expr.args,zbj,emp,Int.reduceEq,not_false_eq_true];refine⟨by kernel_rfl,zaz.i i3 ?_⟩;simp only[ZE,↓reduceIte,pE,pL,pA,pS,pM,pD,zN,qT,qG,qL,qH,qN,qB,qE,qO,qA,qM,Expr.op,Expr.name,Expr.k,Expr.w,Expr.args,zbj,emp,Int.reduceEq,not_false_eq_true]
/-- Expressions of depth 1 and conditions. -/
theorem zhF(l:List Nat)(ns:List Str)(w:Num)(hb: ∀b∈l,b<256)(hn:0<ns.length)(hn2:ns.length<=1000)(a:Nat)(ha:a<=10000):FnP Tryz.prog 106 [zau l,eAt a 1,zhW ns w] (.d (.agg (zbx (gen l ns w 1 a)))) []:=
 genS_c l ns w hb hn hn2 0 a (by omega) (by omega) (ziL l ns w hb hn hn2 _ (by omega)) (ziL l ns w hb hn hn2 _ (by omega)) (cond_c l ns w hb 0 _ (by omega) (ziL l ns w hb hn hn2 _ (by omega)) (ziL l ns w hb hn hn2 _ (by omega)))
theorem zgU(l:List Nat)(ns:List Str)(w:Num)(hb: ∀b∈l,b<256)(hn:0<ns.length)(hn2:ns.length<=1000)(a:Nat)(ha:a<=1000):FnP Tryz.prog 105 [zau l,eI a,zhW ns w] (.d (.agg (zbx (cond l ns w 1 a)))) []:=by
 refine FnP.of_eC (own:=[]) (fun _=>[]) zat Tryz.func105 rfl Tryz.call105 Tryz.ntmps105 (Nat.le_of_ble_eq_true rfl) Tryz.results105 (fun hok=> ?_);have cc:=cond_c l ns w hb 1 a (by omega) (zhF l ns w hb hn hn2 _ (by omega)) (ziL l ns w hb hn hn2 _ (by omega));simp only[ZE,↓reduceIte,pE,pL,pA,pS,pM,pD,eAt,zhW,Int.natCast_one]at cc;simp(maxSteps:=4000000) only[ZE,↓reduceIte,pE,pL,pA,pS,pM,pD,zhW];refine EFn.p ?_;simp only[ZE,↓reduceIte,pE,pL,pA,pS,pM,pD];refine zar.i cc ?_;simp only[ZE,↓reduceIte,pE,pL,pA,pS,pM,pD]
set_option maxHeartbeats 2000000
def zbi(l:List Module):Bool:=(zcV l).length ==0
theorem zhC(l:List Module):(check l).length =(zcV l).length :=zba _
theorem zfs(l:List Module)(hS:Small l):FnP Tryz.prog 44 [.agg [zax l]] (.d (eB (zbi l))) []:=by
 refine FnP.of_eC (own:=[]) (fun _=>[]) zat Tryz.func44 rfl Tryz.call44 Tryz.ntmps44 (Nat.le_of_ble_eq_true rfl) Tryz.results44 (fun hok=> ?_);have cc:=zk6 l hS;simp only[ZE,↓reduceIte,pE,pL,pA,pS,pM,pD]at cc;have h0:(((zcV l).length :Int)==0)=zbi l:=by
  rw[zbi,Bool.eq_iff_iff]; simp
 simp(maxSteps:=4000000) only[ZE,↓reduceIte,pE,pL,pA,pS,pM,pD];refine EFn.p ?_;simp only[ZE,↓reduceIte,pE,pL,pA,pS,pM,pD];refine zar.i cc ?_;simp only[ZE,↓reduceIte,pE,pL,pA,pS,pM,pD,zhC,h0]
end Go.Proofs.YtbenhdgpogiadaaGreat
