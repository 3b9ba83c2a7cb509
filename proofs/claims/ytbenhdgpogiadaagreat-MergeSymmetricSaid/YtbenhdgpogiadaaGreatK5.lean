/-
 CONTRACTS and plain laws. Conditions: those of each law.
-/
import Derived.Test.YtbenhdgpogiadaaGreatK4
import Derived.Test.YtbenhdgpogiadaaGreatGIn
import Derived.Test.YtbenhdgpogiadaaGreatK1
import Derived.Shelf.RegionOpenPlain
import Derived.WalkKit
import Derived.Deep.LoopGhost
import Derived.Deep.RegionLaw
import Derived.Lib.Walk
import Derived.Lib.SliceRun
import Derived.OwnWalk
import Derived.Shelf.Spec.SlicesInsert
import Derived.Lib.AppendZerosOnto
import Derived.Laws.NewBlocks
import Derived.Test.YtbenhdgpogiadaaGreatGRb
import Derived.Test.YtbenhdgpogiadaaGreatGSr
import Derived.Shelf.SlSortCmp.InsertionK
import Derived.Test.YtbenhdgpogiadaaGreatK3
set_option linter.unusedSimpArgs false
set_option linter.unusedVariables false
namespace Go.Proofs.YtbenhdgpogiadaaGreat
open Go.Aw
open Nat renaming reduceEqDiff->pE,reduceLT->pL,reduceAdd->pA,reduceSub->pS,reduceMul->pM,reduceLeDiff->pD
open Int renaming reduceToNat->qT,reduceGT->qG,reduceLT->qL,reduceGE->qH,reduceBNe->qN,reduceBEq->qB,reduceLE->qE,reduceNe->qO,reduceAdd->qA,reduceNeg->qM
set_option maxRecDepth 100000
set_option maxHeartbeats 4000000
def rowOfD:List D->List D
 | [.agg cs]=>cs
 | _=>[]
def zre(x:Item):List D:=[.agg (zaK x)]
theorem rowItem(l:List Item):(l.map zre).map rowOfD=l.map zaK:=by rw[List.map_map]; rfl
theorem zyc(l:List Item)(hl:l.length<=4000000):zo4 Tryz.prog 131 [.ptr [.sl (l.map zaK)]] (fun pre=> ∃i,i<=l.length/\pre=(l.take i).map zre) (fun xs=>xs=l.map zre):=by
 intro lim fam stop lp hY;have:=FnL.of_eC (P:=Tryz.prog) (args:=[.yv 0,.d (.ptr [.sl (l.map zaK)])]) (os:=[(0,.ext lim fam stop lp [])]) (PL:=fun _ ol new=>(∃xs,xs=l.map zre/\ol=[(0,.ext lim fam stop lp xs)]/\new=[])\/(ol=[(0,.ext lim (fun _=>stop) stop lp [])]/\new=[])) (own:=[]) (fun _=>[]) [0] zat Tryz.func131 rfl Tryz.call131 Tryz.ntmps131 (Nat.le_of_ble_eq_true rfl) Tryz.results131 ?_
 ·refine this.mono ?_;rintro V Oo new ⟨ol,rfl,⟨xs,h1,rfl,h2⟩ | ⟨rfl,h2⟩⟩
  ·exact .inl ⟨xs,h1,rfl,h2⟩
  ·exact .inr ⟨rfl,h2⟩
 simp only[ZE,↓reduceIte,pE,pL,pA,pS,pM,pD,zN,qT,qG,qL,qH,qN,qB,qE,qO,qA,qM];refine za2 (fun _=>[]) zat l.length (fun _=>True) (fun i=>([(0,.yv 0),(5,.d (.sl (l.map zaK))),(6,.d (eI l.length)),(7,.d (eI i))],[(0,.ext lim fam stop lp ((l.take i).map zre))])) trivial ?_ ?_ (fun i hi _=> ?_)
 ·simp only[ZE,↓reduceIte,pE,pL,pA,pS,pM,pD,zN,qT,qG,qL,qH,qN,qB,qE,qO,qA,qM,List.length_map]
 ·simp only[ZE,↓reduceIte,pE,pL,pA,pS,pM,pD,List.take_zero,List.map_nil]
 rcases Nat.lt_or_ge i l.length with h | h
 ·have hw:=zas (show i<9223372036854775807 by omega);have ht:(l.take (i+1)).map zre=(l.take i).map zre++[zre l[i]]:=by rw[List.take_succ_eq_append_getElem h,List.map_append]; rfl
  rw[ht];simp(maxSteps:=4000000) only[ZE,↓reduceIte,pE,pL,pA,pS,pM,pD,zax h,zaa h,zal h,zN,qT,qG,qL,qH,qN,qB,qE,qO,qA,qM,zre,List.length_map];refine⟨_,hY,⟨i+1,h,?_⟩,?_,?_⟩
  ·rw[ht];simp only[ZE,↓reduceIte,pE,pL,pA,pS,pM,pD,zre]
  ·simp only[ZE,↓reduceIte,pE,pL,pA,pS,pM,pD,zN,qT,qG,qL,qH,qN,qB,qE,qO,qA,qM,hw];exact h
  ·simp only[ZE,↓reduceIte,pE,pL,pA,pS,pM,pD,zN,qT,qG,qL,qH,qN,qB,qE,qO,qA,qM];refine⟨[4],[],?_⟩;simp only[ZE,↓reduceIte,pE,pL,pA,pS,pM,pD]
 ·have:i=l.length:=by omega
  subst this;simp(maxSteps:=4000000) only[ZE,↓reduceIte,pE,pL,pA,pS,pM,pD,zaI h,zN,qT,qG,qL,qH,qN,qB,qE,qO,qA,qM,List.take_length];refine⟨[],[],?_⟩;simp only[ZE,↓reduceIte,pE,pL,pA,pS,pM,pD];exact .inl ⟨_,rfl,rfl⟩
theorem zsi(l:List Item)(hl:l.length<=4000000):FnL Tryz.prog 172 [.nils,.d (.clo (.func 131) [] [.ptr [.sl (l.map zaK)]])] [] (fun V ol new=>V= .ar 90 l.length/\ol=[(90,.arr 64 35 .flat (l.map zaK))]/\new=[90]):=by
 refine FnL.of_eC (own:=[]) (fun id=>if id=0 then [.adB 2 0 90 64 35]else []) [] zat Tryz.func172 rfl Tryz.call172 Tryz.ntmps172 (Nat.le_of_ble_eq_true rfl) Tryz.results172 ?_;simp only[ZE,↓reduceIte,pE,pL,pA,pS,pM,pD];refine zrk zat (fun _=>[]) rfl (by simp only[ZE,↓reduceIte,pE,pL,pA,pS,pM,pD]) (zyc l hl) (fun pre=>[(2,.box [.ar 90 pre.length]),(90,.arr 64 35 .flat (pre.map rowOfD))]) ?_ ?_ ?_ ?_ ?_
 ·simp only[ZE,↓reduceIte,pE,pL,pA,pS,pM,pD]
 ·intro pre; simp[zdV,ziq]
 ·simp only[ZE,↓reduceIte,pE,pL,pA,pS,pM,pD,psOk,zeP]
 ·rintro pre x ⟨i,hi,h3⟩;have hlen:(pre++[x]).length <=4000000:=by rw[h3,List.length_map,List.length_take]; omega
  simp only[List.length_append,List.length_cons,List.length_nil]at hlen;obtain⟨p,rfl⟩: ∃p,x=zre p:=by
   have:x∈(l.take i).map zre:=by rw[<-h3]; simp
   obtain⟨p,_,rfl⟩:=List.mem_map.1 this;exact⟨p,rfl⟩
  simp only[zre,ZE,↓reduceIte,pE,pL,pA,pS,pM,pD,zvz,zl5,zdV,ziq,zrA,zeP];refine⟨⟨by omega,by omega⟩,by simp,by simp,?_⟩;rw[List.map_append]; rfl
 ·rintro xs rfl;simp only[ZE,↓reduceIte,pE,pL,pA,pS,pM,pD];refine⟨[2],[90],?_⟩;simp only[ZE,↓reduceIte,pE,pL,pA,pS,pM,pD,List.length_map];rw[rowItem]
theorem zwZ(l:List Item)(hl:l.length<=4000000):FnL Tryz.prog 129 [.d (.clo (.func 131) [] [.ptr [.sl (l.map zaK)]])] [] (fun V ol new=>V= .ar 90 l.length/\ol=[(90,.arr 64 35 .flat (l.map zaK))]/\new=[90]):=by
 refine FnL.of_eC (own:=[]) (fun id=>[]) [] zat Tryz.func129 rfl Tryz.call129 Tryz.ntmps129 (Nat.le_of_ble_eq_true rfl) Tryz.results129 ?_;simp only[ZE,↓reduceIte,pE,pL,pA,pS,pM,pD];refine EFn.g ⟨[(90,90)],[.nils,.d (.clo (.func 131) [] [.ptr [.sl (l.map zaK)]])],_,_,zsi l hl,?_⟩;simp only[ZE,↓reduceIte,pE,pL,pA,pS,pM,pD];rintro V ol new ⟨rfl,rfl,rfl⟩;simp only[ZE,↓reduceIte,pE,pL,pA,pS,pM,pD];refine⟨[],[90],?_⟩;simp only[ZE,↓reduceIte,pE,pL,pA,pS,pM,pD]
theorem sortedItem_c(l:List Item)(hl:l.length<=4000000):FnL Tryz.prog 77 [.d (.clo (.func 131) [] [.ptr [.sl (l.map zaK)]]),.d (.clo (.func 53) [] [])] [] (fun V ol new=>V= .ar 90 l.length/\(∃l':List Item,l.Perm l'/\(l'.Pairwise fun x y=> ¬cmpP (zbo y) (zbo x)<0)/\ol=[(90,.arr 64 35 .flat (l'.map zaK))])/\new=[90]):=by
 refine FnL.of_eC (own:=[]) (fun id=>[]) [] zat Tryz.func77 rfl Tryz.call77 Tryz.ntmps77 (Nat.le_of_ble_eq_true rfl) Tryz.results77 ?_;simp only[ZE,↓reduceIte,pE,pL,pA,pS,pM,pD];refine EFn.g ⟨[(90,90)],[.d (.clo (.func 131) [] [.ptr [.sl (l.map zaK)]])],_,_,zwZ l hl,?_⟩;simp only[ZE,↓reduceIte,pE,pL,pA,pS,pM,pD];rintro V ol new ⟨rfl,rfl,rfl⟩;simp only[ZE,↓reduceIte,pE,pL,pA,pS,pM,pD];refine EFn.g ⟨[(0,90)],[.ar 0 l.length,.d (.clo (.func 53) [] [])],_,_,sortI_c l (by omega),?_⟩;simp only[ZE,↓reduceIte,pE,pL,pA,pS,pM,pD];rintro V ol new ⟨rfl,⟨l',hp,hs,rfl⟩,rfl⟩;simp only[ZE,↓reduceIte,pE,pL,pA,pS,pM,pD];refine⟨[],[90],?_⟩;simp only[ZE,↓reduceIte,pE,pL,pA,pS,pM,pD];exact⟨l',hp,hs,rfl⟩
def zhy(x:Module):List D:=[.agg (zaC x)]
theorem rowModule(l:List Module):(l.map zhy).map rowOfD=l.map zaC:=by rw[List.map_map]; rfl
theorem zuU(l:List Module)(hl:l.length<=4000000):zo4 Tryz.prog 128 [.ptr [.sl (l.map zaC)]] (fun pre=> ∃i,i<=l.length/\pre=(l.take i).map zhy) (fun xs=>xs=l.map zhy):=by
 intro lim fam stop lp hY;have:=FnL.of_eC (P:=Tryz.prog) (args:=[.yv 0,.d (.ptr [.sl (l.map zaC)])]) (os:=[(0,.ext lim fam stop lp [])]) (PL:=fun _ ol new=>(∃xs,xs=l.map zhy/\ol=[(0,.ext lim fam stop lp xs)]/\new=[])\/(ol=[(0,.ext lim (fun _=>stop) stop lp [])]/\new=[])) (own:=[]) (fun _=>[]) [0] zat Tryz.func128 rfl Tryz.call128 Tryz.ntmps128 (Nat.le_of_ble_eq_true rfl) Tryz.results128 ?_
 ·refine this.mono ?_;rintro V Oo new ⟨ol,rfl,⟨xs,h1,rfl,h2⟩ | ⟨rfl,h2⟩⟩
  ·exact .inl ⟨xs,h1,rfl,h2⟩
  ·exact .inr ⟨rfl,h2⟩
 simp only[ZE,↓reduceIte,pE,pL,pA,pS,pM,pD,zN,qT,qG,qL,qH,qN,qB,qE,qO,qA,qM];refine za2 (fun _=>[]) zat l.length (fun _=>True) (fun i=>([(0,.yv 0),(5,.d (.sl (l.map zaC))),(6,.d (eI l.length)),(7,.d (eI i))],[(0,.ext lim fam stop lp ((l.take i).map zhy))])) trivial ?_ ?_ (fun i hi _=> ?_)
 ·simp only[ZE,↓reduceIte,pE,pL,pA,pS,pM,pD,zN,qT,qG,qL,qH,qN,qB,qE,qO,qA,qM,List.length_map]
 ·simp only[ZE,↓reduceIte,pE,pL,pA,pS,pM,pD,List.take_zero,List.map_nil]
 rcases Nat.lt_or_ge i l.length with h | h
 ·have hw:=zas (show i<9223372036854775807 by omega);have ht:(l.take (i+1)).map zhy=(l.take i).map zhy++[zhy l[i]]:=by rw[List.take_succ_eq_append_getElem h,List.map_append]; rfl
  rw[ht];simp(maxSteps:=4000000) only[ZE,↓reduceIte,pE,pL,pA,pS,pM,pD,zax h,zaa h,zal h,zN,qT,qG,qL,qH,qN,qB,qE,qO,qA,qM,zhy,List.length_map];refine⟨_,hY,⟨i+1,h,?_⟩,?_,?_⟩
  ·rw[ht];simp only[ZE,↓reduceIte,pE,pL,pA,pS,pM,pD,zhy]
  ·simp only[ZE,↓reduceIte,pE,pL,pA,pS,pM,pD,zN,qT,qG,qL,qH,qN,qB,qE,qO,qA,qM,hw];exact h
  ·simp only[ZE,↓reduceIte,pE,pL,pA,pS,pM,pD,zN,qT,qG,qL,qH,qN,qB,qE,qO,qA,qM];refine⟨[4],[],?_⟩;simp only[ZE,↓reduceIte,pE,pL,pA,pS,pM,pD]
 ·have:i=l.length:=by omega
  subst this;simp(maxSteps:=4000000) only[ZE,↓reduceIte,pE,pL,pA,pS,pM,pD,zaI h,zN,qT,qG,qL,qH,qN,qB,qE,qO,qA,qM,List.take_length];refine⟨[],[],?_⟩;simp only[ZE,↓reduceIte,pE,pL,pA,pS,pM,pD];exact .inl ⟨_,rfl,rfl⟩
theorem zqe(l:List Module)(hl:l.length<=4000000):FnL Tryz.prog 169 [.nils,.d (.clo (.func 128) [] [.ptr [.sl (l.map zaC)]])] [] (fun V ol new=>V= .ar 90 l.length/\ol=[(90,.arr 53 4 .flat (l.map zaC))]/\new=[90]):=by
 refine FnL.of_eC (own:=[]) (fun id=>if id=0 then [.adB 2 0 90 53 4]else []) [] zat Tryz.func169 rfl Tryz.call169 Tryz.ntmps169 (Nat.le_of_ble_eq_true rfl) Tryz.results169 ?_;simp only[ZE,↓reduceIte,pE,pL,pA,pS,pM,pD];refine zrk zat (fun _=>[]) rfl (by simp only[ZE,↓reduceIte,pE,pL,pA,pS,pM,pD]) (zuU l hl) (fun pre=>[(2,.box [.ar 90 pre.length]),(90,.arr 53 4 .flat (pre.map rowOfD))]) ?_ ?_ ?_ ?_ ?_
 ·simp only[ZE,↓reduceIte,pE,pL,pA,pS,pM,pD]
 ·intro pre; simp[zdV,ziq]
 ·simp only[ZE,↓reduceIte,pE,pL,pA,pS,pM,pD,psOk,zeP]
 ·rintro pre x ⟨i,hi,h3⟩;have hlen:(pre++[x]).length <=4000000:=by rw[h3,List.length_map,List.length_take]; omega
  simp only[List.length_append,List.length_cons,List.length_nil]at hlen;obtain⟨p,rfl⟩: ∃p,x=zhy p:=by
   have:x∈(l.take i).map zhy:=by rw[<-h3]; simp
   obtain⟨p,_,rfl⟩:=List.mem_map.1 this;exact⟨p,rfl⟩
  simp only[zhy,ZE,↓reduceIte,pE,pL,pA,pS,pM,pD,zvz,zl5,zdV,ziq,zrA,zeP];refine⟨⟨by omega,by omega⟩,by simp,by simp,?_⟩;rw[List.map_append]; rfl
 ·rintro xs rfl;simp only[ZE,↓reduceIte,pE,pL,pA,pS,pM,pD];refine⟨[2],[90],?_⟩;simp only[ZE,↓reduceIte,pE,pL,pA,pS,pM,pD,List.length_map];rw[rowModule]
theorem zsw(l:List Module)(hl:l.length<=4000000):FnL Tryz.prog 126 [.d (.clo (.func 128) [] [.ptr [.sl (l.map zaC)]])] [] (fun V ol new=>V= .ar 90 l.length/\ol=[(90,.arr 53 4 .flat (l.map zaC))]/\new=[90]):=by
 refine FnL.of_eC (own:=[]) (fun id=>[]) [] zat Tryz.func126 rfl Tryz.call126 Tryz.ntmps126 (Nat.le_of_ble_eq_true rfl) Tryz.results126 ?_;simp only[ZE,↓reduceIte,pE,pL,pA,pS,pM,pD];refine EFn.g ⟨[(90,90)],[.nils,.d (.clo (.func 128) [] [.ptr [.sl (l.map zaC)]])],_,_,zqe l hl,?_⟩;simp only[ZE,↓reduceIte,pE,pL,pA,pS,pM,pD];rintro V ol new ⟨rfl,rfl,rfl⟩;simp only[ZE,↓reduceIte,pE,pL,pA,pS,pM,pD];refine⟨[],[90],?_⟩;simp only[ZE,↓reduceIte,pE,pL,pA,pS,pM,pD]
theorem zvw(l:List Module)(hl:l.length<=4000000):FnL Tryz.prog 75 [.d (.clo (.func 128) [] [.ptr [.sl (l.map zaC)]]),.d (.clo (.func 57) [] [])] [] (fun V ol new=>V= .ar 90 l.length/\(∃l':List Module,l.Perm l'/\(l'.Pairwise fun x y=> ¬cmpN y.name x.name<0)/\ol=[(90,.arr 53 4 .flat (l'.map zaC))])/\new=[90]):=by
 refine FnL.of_eC (own:=[]) (fun id=>[]) [] zat Tryz.func75 rfl Tryz.call75 Tryz.ntmps75 (Nat.le_of_ble_eq_true rfl) Tryz.results75 ?_;simp only[ZE,↓reduceIte,pE,pL,pA,pS,pM,pD];refine EFn.g ⟨[(90,90)],[.d (.clo (.func 128) [] [.ptr [.sl (l.map zaC)]])],_,_,zsw l hl,?_⟩;simp only[ZE,↓reduceIte,pE,pL,pA,pS,pM,pD];rintro V ol new ⟨rfl,rfl,rfl⟩;simp only[ZE,↓reduceIte,pE,pL,pA,pS,pM,pD];refine EFn.g ⟨[(0,90)],[.ar 0 l.length,.d (.clo (.func 57) [] [])],_,_,sortM_c l (by omega),?_⟩;simp only[ZE,↓reduceIte,pE,pL,pA,pS,pM,pD];rintro V ol new ⟨rfl,⟨l',hp,hs,rfl⟩,rfl⟩;simp only[ZE,↓reduceIte,pE,pL,pA,pS,pM,pD];refine⟨[],[90],?_⟩;simp only[ZE,↓reduceIte,pE,pL,pA,pS,pM,pD];exact⟨l',hp,hs,rfl⟩
set_option maxHeartbeats 20000000
theorem valuesItem_c(l:List Item):FnP Tryz.prog 78 [.sl (l.map zaK)] (.d (.clo (.func 131) [] [.ptr [.sl (l.map zaK)]])) []:=by
 refine FnP.of_eC (own:=[]) (fun _=>[]) zat Tryz.func78 rfl Tryz.call78 Tryz.ntmps78 (Nat.le_of_ble_eq_true rfl) Tryz.results78 (fun hok=> ?_);simp(maxSteps:=4000000) only[ZE,↓reduceIte,pE,pL,pA,pS,pM,pD,zN,qT,qG,qL,qH,qN,qB,qE,qO,qA,qM]
theorem zvy(l:List Module):FnP Tryz.prog 76 [.sl (l.map zaC)] (.d (.clo (.func 128) [] [.ptr [.sl (l.map zaC)]])) []:=by
 refine FnP.of_eC (own:=[]) (fun _=>[]) zat Tryz.func76 rfl Tryz.call76 Tryz.ntmps76 (Nat.le_of_ble_eq_true rfl) Tryz.results76 (fun hok=> ?_);simp(maxSteps:=4000000) only[ZE,↓reduceIte,pE,pL,pA,pS,pM,pD,zN,qT,qG,qL,qH,qN,qB,qE,qO,qA,qM]
theorem not_cmpP{x y:Part}(h: ¬cmpP x y<0):ltP x y=false:=by
 cases hq:ltP x y with
 | false=>rfl
 | true=>exact absurd ((zwW x y).2 hq) h
theorem not_cmpN{x y:Str}(h: ¬cmpN x y<0):ltS x y=false:=by
 cases hq:ltS x y with
 | false=>rfl
 | true=>exact absurd ((zwV x y).2 hq) h
/-! ### Files in normal form -/
def nrmL(L:List Module)(i:Nat):List Module:=(L.take i).map zxG++L.drop i
def zfN(e:Edit):List D:=eS e.module::(zgm e.part++(eB e.has::(zaK e.to++zaC e.head)))
/-- A collector of edits. -/
def dfO(a b:Nat)(l:List Edit):OL:=[(a,.box [.ar b l.length]),(b,.arr 69 43 .flat (l.map zfN))]
/-- A collector in a box,a name. -/
def dfN(d b n:Nat)(name:Str)(q:Nat)(l:List Edit):OL:=dfO d q l++[(b,.box [.bp d 0]),(n,.box [.d (eS name)])]
def setB(b n:Nat):AO:=.box [.clo (.func 120) [] [.bp b 0,.bp n 0]]
def bothE(n:Str)(x y:Item):List Edit:=if zlL x y=true then []else [zcs n y]
theorem sameM_c(m n:Module):FnP Tryz.prog 60 [.agg (zaC m),.agg (zaC n)] (.d (eB (znb m n))) []:=by
 refine FnP.of_eC (own:=[]) (fun i=>if i=2001 then [.chn]else []) zat Tryz.func60 rfl Tryz.call60 Tryz.ntmps60 (Nat.le_of_ble_eq_true rfl) Tryz.results60 (fun hok=> ?_);have hl:m.items.length<=9223372036854775807:=by
  have:=(zaM hok).1;simp only[zaC,zbU,D.ok,D.okL]at this;exact(za9 this.2.2.2.1).1
 have c1:=sameH_c m n;have c2:=eqfItem_c m.items n.items hl 63 zlL (fun x _ y _=>sameI_c x y);rw[eqL_I]at c2;simp only[zaC,ZE,↓reduceIte,pE,pL,pA,pS,pM,pD]at c1 c2;simp(maxSteps:=4000000) only[ZE,↓reduceIte,pE,pL,pA,pS,pM,pD,zN,qT,qG,qL,qH,qN,qB,qE,qO,qA,qM];refine EFn.p ?_;simp only[ZE,↓reduceIte,pE,pL,pA,pS,pM,pD,zN,qT,qG,qL,qH,qN,qB,qE,qO,qA,qM];refine zar.i c1 ?_;simp only[ZE,↓reduceIte,pE,pL,pA,pS,pM,pD,zN,qT,qG,qL,qH,qN,qB,qE,qO,qA,qM];refine za4.i (fun _=>c2) ?_;simp only[ZE,↓reduceIte,pE,pL,pA,pS,pM,pD,zN,qT,qG,qL,qH,qN,qB,qE,qO,qA,qM,znb]
theorem zih(f g:List Module):FnP Tryz.prog 19 [.agg [zaz f],.agg [zaz g]] (.d (eB (zmb f g))) []:=by
 refine FnP.of_eC (own:=[]) (fun _=>[]) zat Tryz.func19 rfl Tryz.call19 Tryz.ntmps19 (Nat.le_of_ble_eq_true rfl) Tryz.results19 (fun hok=> ?_);have hl:f.length<=9223372036854775807:=by
  have:=(zaM hok).1;simp only[D.ok,D.okL]at this;exact(za9 this.1).1
 have c2:=eqfModule_c f g hl 60 znb (fun x _ y _=>sameM_c x y);rw[eqL_M]at c2;simp(maxSteps:=4000000) only[ZE,↓reduceIte,pE,pL,pA,pS,pM,pD,zN,qT,qG,qL,qH,qN,qB,qE,qO,qA,qM];refine EFn.p ?_;simp only[ZE,↓reduceIte,pE,pL,pA,pS,pM,pD,zN,qT,qG,qL,qH,qN,qB,qE,qO,qA,qM];refine zar.i c2 ?_;simp only[ZE,↓reduceIte,pE,pL,pA,pS,pM,pD,zN,qT,qG,qL,qH,qN,qB,qE,qO,qA,qM]
theorem cmpP_zero(a b:Part):cmpP a b=0↔a=b:=by
 constructor
 ·intro h;refine zxL.conn _ _ ?_ ?_
  ·cases hq:ltP a b with
   | false=>rfl
   | true=>have:=(zwW a b).2 hq; omega
  ·unfold cmpP orI zid at h;obtain⟨a1,a2⟩:=a;obtain⟨b1,b2⟩:=b;simp only at h;unfold ltP;simp only[Bool.or_eq_false_iff,decide_eq_false_iff_not,Bool.and_eq_false_iff];rcases Int.lt_trichotomy a1.1 b1.1 with h1 | h1 | h1
   ·simp[h1]at h
   ·rw[h1]at h;simp only[Int.lt_irrefl,if_false]at h;by_cases h0:zsu a2.1 b2.1=0
    ·have e:=(zpd a2 b2).1 h0;subst e;exact⟨by omega,.inr (zu2.irr _)⟩
    ·simp[h0]at h
   ·have h2: ¬a1.1<b1.1:=(by omega);simp[h1,h2]at h
 ·rintro rfl;have h1:=zxL.irr a;have h0:=(zpd a.name a.name).2 rfl;simp[cmpP,orI,zid,h0]
/-- How many elements are zk7 of a key. -/
def lowN{α κ:Type}(lt:κ->κ->Bool)(key:α->κ)(l:List α)(k:κ):Nat:=l.countP fun x=>lt (key x) k
section
variable {α κ:Type} {lt:κ->κ->Bool} {key:α->κ}
end
/-- Expressions compared. -/
theorem zr2: ∀(n:Nat) (a b:Expr),sz a<n->FnP Tryz.prog 124 [.agg (zby a),.agg (zby b)] (.d (eB (ziv a b))) []
 | 0,_,_,h=>by omega
 | n+1,.mk o m k w a,.mk o' m' k' w' a',hn=>by
  refine FnP.of_eC (own:=[]) (fun i=>if i=2001 then [.chn]else []) zat Tryz.func124 rfl Tryz.call124 Tryz.ntmps124 (Nat.le_of_ble_eq_true rfl) Tryz.results124 (fun hok=> ?_);have hla:a.length<=9223372036854775807:=expr_lens (.mk o m k w a) (zaM hok).1;have hs:(a.map sz).sum <n:=by rw[zef]at hn; omega
  have ec: ∀i (h:i<a.length) (h':i<a'.length),FnP Tryz.prog 124 [.agg (zby a[i]),.agg (zby a'[i])] (.d (eB (ziv a[i] a'[i]))) []:=fun i h h'=>zr2 n a[i] a'[i] (by have:=zuM (List.getElem_mem h); omega);have hS:ziv (.mk o m k w a) (.mk o' m' k' w' a')=((o==o'&&decide (m=m')&&decide (k=k')&&decide (w=w'))&&zjT a a'):=by rw[ziv]
  rw[hS,<-eqL_E];have k1:=zh9 k k';have k2:=zh9 w w';obtain⟨c,hc⟩:=zX ((o==o'&&decide (m=m')&&decide (k=k')&&decide (w=w')));have hg:((((o !=o'|| !decide (m=m'))|| !decide (k=k'))|| !decide (w=w'))||((a.length:Int) !=(a'.length:Int)))= !(c&&((a.length:Int)==(a'.length:Int))):=by
   rw[<-hc];simp only[bne,Bool.not_and]
  rw[hc];rcases Bool.eq_false_or_eq_true (c&&((a.length:Int)==(a'.length:Int)))with hcl | hcl
  ·rw[hcl]at hg;obtain⟨hc1,hab'⟩:=Bool.and_eq_true_iff.1 hcl;have hab:a.length=a'.length:=by have:=beq_iff_eq.1 hab'; omega
   rw[hc1,Bool.true_and];simp(maxSteps:=4000000) only[ZE,↓reduceIte,pE,pL,pA,pS,pM,pD,zcX,zbj,zgZ,zg0,zbi,k1,k2,hg,List.length_map];refine za2 (fun _=>[]) zat a.length (fun i=> ∀j (h:j<a.length) (h':j<a'.length),j<i->ziv a[j] a'[j]=true) (fun i=>([(2,.bp 2 0),(3,.bp 3 0),(5,.d (eI i))],[(2,.box ((zby (.mk o m k w a)).map .d)),(3,.box ((zby (.mk o' m' k' w' a')).map .d))])) (by intro j _ _ h; omega) (by simp only[ZE,↓reduceIte,pE,pL,pA,pS,pM,pD]) (by simp only[ZE,↓reduceIte,pE,pL,pA,pS,pM,pD,zcX,zbj,zgZ,zg0,zbi]) (fun i hi hI=> ?_);rcases Nat.lt_or_ge i a.length with h | h
   ·have hw:=zas (show i<9223372036854775807 by omega);have h':i<a'.length:=(by omega);have hc:=ec i h h';obtain⟨q,hq⟩:=zX (ziv a[i] a'[i]);rw[hq]at hc;simp only[ZE,↓reduceIte,pE,pL,pA,pS,pM,pD]at hc;simp(maxSteps:=4000000) only[ZE,↓reduceIte,pE,pL,pA,pS,pM,pD,zax h,zaa h,zal h,zaa h',zal h',hw,zN,qT,qG,qL,qH,qN,qB,qE,qO,qA,qM,List.length_map,zcX,zbj,zgZ,zg0,zbi];refine⟨by kernel_rfl,zay.i hc ?_⟩;cases q with
    | true=>
     simp only[ZE,↓reduceIte,pE,pL,pA,pS,pM,pD,zN,qT,qG,qL,qH,qN,qB,qE,qO,qA,qM,hw];refine⟨h,fun j h1 h2 hj=> ?_⟩;rcases Nat.lt_succ_iff_lt_or_eq.1 hj with hj | rfl
     ·exact hI j h1 h2 hj
     ·exact hq
    | false=>
     have e:=zgv h h' hq;simp only[ZE,↓reduceIte,pE,pL,pA,pS,pM,pD,zN,qT,qG,qL,qH,qN,qB,qE,qO,qA,qM,e]
   ·have:i=a.length:=(by omega);subst this;have e:=zeA hab (fun i h1 h2=>hI i h1 h2 h1);simp(maxSteps:=4000000) only[ZE,↓reduceIte,pE,pL,pA,pS,pM,pD,zaI h,zN,qT,qG,qL,qH,qN,qB,qE,qO,qA,qM,e,List.length_map,zcX,zbj,zgZ,zg0,zbi]
  ·rw[hcl]at hg;have e:(c&&eqL ziv a a')=false:=by
    cases c with
    | false=>rfl
    | true=>
     rw[Bool.true_and]at hcl ⊢;exact zgw (fun e=>by rw[e]at hcl; simp at hcl)
   rw[e];simp(maxSteps:=4000000) only[ZE,↓reduceIte,pE,pL,pA,pS,pM,pD,zcX,zbj,zgZ,zg0,zbi,k1,k2,hg,List.length_map]
set_option maxHeartbeats 40000000
theorem rsameH_c(m n:Module):FnP Tryz.prog 74 [.agg (zaC m),.agg (zaC n)] (.d (eB (zuv m n))) []:=by
 refine FnP.of_eC (own:=[]) (fun i=>if i=2001 then [.chn]else []) zat Tryz.func74 rfl Tryz.call74 Tryz.ntmps74 (Nat.le_of_ble_eq_true rfl) Tryz.results74 (fun hok=> ?_);have hla:m.params.length<=9223372036854775807:=by
  have:=(zaM hok).1;simp only[zaC,zd7,D.ok,D.okL]at this;exact(za9 this.2.2.1).1
 have hS:zuv m n=((decide (m.name=n.name)&&decide (m.clock=n.clock))&&eqL (fun x y:Str=>decide (x=y)) m.params n.params):=by unfold zuv; rw[zoi]
 rw[hS];obtain⟨c,hc⟩:=zX ((decide (m.name=n.name)&&decide (m.clock=n.clock)));have hg:((!decide (m.name=n.name)|| !decide (m.clock=n.clock))||((m.params.length:Int) !=(n.params.length:Int)))= !(c&&((m.params.length:Int)==(n.params.length:Int))):=by
  rw[<-hc];simp only[bne,Bool.not_and]
 rw[hc];rcases Bool.eq_false_or_eq_true (c&&((m.params.length:Int)==(n.params.length:Int)))with hcl | hcl
 ·rw[hcl]at hg;obtain⟨hc1,hab'⟩:=Bool.and_eq_true_iff.1 hcl;have hab:m.params.length=n.params.length:=by have:=beq_iff_eq.1 hab'; omega
  rw[hc1,Bool.true_and];simp(maxSteps:=4000000) only[ZE,↓reduceIte,pE,pL,pA,pS,pM,pD,hg,List.length_map];refine za2 (fun _=>[]) zat m.params.length (fun i=> ∀j (h:j<m.params.length) (h':j<n.params.length),j<i->decide (m.params[j]=n.params[j])=true) (fun i=>([(2,.bp 2 0),(3,.bp 3 0),(5,.d (eI i))],[(2,.box ((zaC m).map .d)),(3,.box ((zaC n).map .d))])) (by intro j _ _ h; omega) (by simp only[ZE,↓reduceIte,pE,pL,pA,pS,pM,pD]) (by simp only[ZE,↓reduceIte,pE,pL,pA,pS,pM,pD]) (fun i hi hI=> ?_);rcases Nat.lt_or_ge i m.params.length with h | h
  ·have hw:=zas (show i<9223372036854775807 by omega);have h':i<n.params.length:=by omega
   obtain⟨q,hq⟩:=zX (decide (m.params[i]=n.params[i]));simp(maxSteps:=4000000) only[ZE,↓reduceIte,pE,pL,pA,pS,pM,pD,zax h,zaa h,zal h,zaa h',zal h',hw,zN,qT,qG,qL,qH,qN,qB,qE,qO,qA,qM,List.length_map,hq];refine⟨by kernel_rfl,?_⟩;cases q with
   | true=>
    simp only[ZE,↓reduceIte,pE,pL,pA,pS,pM,pD];refine⟨h,fun j h1 h2 hj=> ?_⟩;rcases Nat.lt_succ_iff_lt_or_eq.1 hj with hj | rfl
    ·exact hI j h1 h2 hj
    ·exact hq
   | false=>
    have e:=zgv (p:=fun x y:Str=>decide (x=y)) h h' hq;simp only[ZE,↓reduceIte,pE,pL,pA,pS,pM,pD,e]
  ·have:i=m.params.length:=by omega
   subst this;have e:=zeA (p:=fun x y:Str=>decide (x=y)) hab (fun i h1 h2=>hI i h1 h2 h1);simp(maxSteps:=4000000) only[ZE,↓reduceIte,pE,pL,pA,pS,pM,pD,zaI h,zN,qT,qG,qL,qH,qN,qB,qE,qO,qA,qM,e,List.length_map]
 ·rw[hcl]at hg;have e:(c&&eqL (fun x y:Str=>decide (x=y)) m.params n.params)=false:=by
   cases c with
   | false=>rfl
   | true=>
    rw[Bool.true_and]at hcl ⊢;exact zgw (fun e=>by rw[e]at hcl; simp at hcl)
  rw[e];simp(maxSteps:=4000000) only[ZE,↓reduceIte,pE,pL,pA,pS,pM,pD,hg,List.length_map]
def headB(x y:Item):Bool:=x.kind.1==y.kind.1&&decide (x.name=y.name)&&decide (x.width=y.width)&&decide (x.depth=y.depth)&&decide (x.init=y.init)&&decide (x.rule=y.rule)&&decide (x.of=y.of)
theorem sameI_head(x y:Item):zlL x y=(headB x y&&(eqL (fun a b:Num=>decide (a=b)) x.args y.args&&eqL (fun a b:Bind=>decide (a=b)) x.ports y.ports&&(ziv x.a y.a&&ziv x.b y.b&&ziv x.c y.c))):=by
 unfold zlL headB;rw[zoi,zoi,<-part_key];simp only[Bool.and_assoc]
theorem rsameI_c(x y:Item):FnP Tryz.prog 71 [.agg (zaK x),.agg (zaK y)] (.d (eB (zlL x y))) []:=by
 refine FnP.of_eC (own:=[]) (fun i=>if i=2001 then [.chn]else if i=2013 then [.chn]else []) zat Tryz.func71 rfl Tryz.call71 Tryz.ntmps71 (Nat.le_of_ble_eq_true rfl) Tryz.results71 (fun hok=> ?_);have hl:x.args.length<=9223372036854775807/\x.ports.length<=9223372036854775807:=by
  have:=(zaM hok).1;simp only[zaK,zgY,zca,zim,ziR,zen,List.cons_append,List.nil_append,D.ok,D.okL]at this;obtain⟨_,_,_,_,_,_,_,_,_,_,_,_,_,_,_,_,_,_,_,_,_,_,_,_,_,_,_,_,_,_,_,_,_,h1,h2,_⟩:=this;exact⟨(za9 h1).1,(za9 h2).1⟩
 have c5:=zr2 _ x.a y.a (Nat.lt_succ_self _);have c6:=zr2 _ x.b y.b (Nat.lt_succ_self _);have c7:=zr2 _ x.c y.c (Nat.lt_succ_self _);have k1:=zh9 x.width y.width;have k2:=zh9 x.depth y.depth;have k3:=zh9 x.init y.init;have k4:(x.rule.kind==y.rule.kind&&(decide (x.rule.from'=y.rule.from')&&x.rule.n==y.rule.n))=decide (x.rule=y.rule):=by
  rw[<-Bool.and_assoc]; exact key_rule x.rule y.rule
 rw[sameI_head];obtain⟨c,hc⟩:=zX (headB x y);rw[hc];simp only[ZE,↓reduceIte,pE,pL,pA,pS,pM,pD]at c5 c6 c7;simp(maxSteps:=4000000) only[ZE,↓reduceIte,pE,pL,pA,pS,pM,pD,zN,qT,qG,qL,qH,qN,qB,qE,qO,qA,qM,k1,k2,k3,k4,List.length_map,List.append_eq];have hb:(x.kind.1 !=y.kind.1|| !decide (x.name=y.name)|| !decide (x.width=y.width)|| !decide (x.depth=y.depth)|| !decide (x.init=y.init)|| !decide (x.rule=y.rule)|| !decide (x.of=y.of))= !c :=by
  rw[<-hc]; unfold headB; simp only[bne,Bool.not_and]
 refine zea (fun h3=> ?_) (fun h3=> ?_)
 ·have e:(c&&(eqL (fun a b:Num=>decide (a=b)) x.args y.args&&eqL (fun a b:Bind=>decide (a=b)) x.ports y.ports&&(ziv x.a y.a&&ziv x.b y.b&&ziv x.c y.c)))=false:=by
   rw[hb]at h3;cases c with
   | false=>rfl
   | true=>
    simp only[Bool.not_true,Bool.false_or,Bool.or_eq_true]at h3;rcases h3 with h3 | h3
    ·rw[zgw (a:=x.args) (b:=y.args) (fun e=>by rw[e]at h3; simp at h3)]; rfl
    ·rw[zgw (a:=x.ports) (b:=y.ports) (fun e=>by rw[e]at h3; simp at h3)]; simp
  rw[e]
 ·rw[hb]at h3;simp only[Bool.or_eq_false_iff,Bool.not_eq_false',bne_eq_false_iff_eq]at h3;obtain⟨⟨hc1,ha⟩,hp⟩:=h3;have hab:x.args.length=y.args.length:=by omega
  have hpb:x.ports.length=y.ports.length:=by omega
  rw[hc1,Bool.true_and];refine za2 (fun _=>[]) zat x.args.length (fun i=> ∀j (h:j<x.args.length) (h':j<y.args.length),j<i->decide (x.args[j]=y.args[j])=true) (fun i=>([(2,.bp 2 0),(3,.bp 3 0),(5,.d (eI i))],[(2,.box ((zaK x).map .d)),(3,.box ((zaK y).map .d))])) (by intro j _ _ h; omega) (by simp only[ZE,↓reduceIte,pE,pL,pA,pS,pM,pD]) (by simp only[ZE,↓reduceIte,pE,pL,pA,pS,pM,pD]) (fun i hi hI=> ?_);rcases Nat.lt_or_ge i x.args.length with h | h
  ·have hw:=zas (show i<9223372036854775807 by omega);have h':i<y.args.length:=by omega
   have key:=zh9 x.args[i] y.args[i];obtain⟨q,hq⟩:=zX (decide (x.args[i]=y.args[i]));rw[hq]at key;simp(maxSteps:=4000000) only[ZE,↓reduceIte,pE,pL,pA,pS,pM,pD,zax h,zaa h,zal h,zaa h',zal h',hw,zN,qT,qG,qL,qH,qN,qB,qE,qO,qA,qM,List.length_map,key];refine⟨by kernel_rfl,?_⟩;cases q with
   | true=>
    simp only[ZE,↓reduceIte,pE,pL,pA,pS,pM,pD];refine⟨h,fun j h1 h2 hj=> ?_⟩;rcases Nat.lt_succ_iff_lt_or_eq.1 hj with hj | rfl
    ·exact hI j h1 h2 hj
    ·exact hq
   | false=>
    have e:=zgv (p:=fun x y:Num=>decide (x=y)) h h' hq;simp only[ZE,↓reduceIte,pE,pL,pA,pS,pM,pD,e,Bool.false_and,Bool.and_false]
  have hi2:i=x.args.length:=by omega
  subst hi2;have e1:=zeA (p:=fun x y:Num=>decide (x=y)) hab (fun i h1 h2=>hI i h1 h2 h1);rw[e1,Bool.true_and];simp(maxSteps:=4000000) only[ZE,↓reduceIte,pE,pL,pA,pS,pM,pD,zaI h,zN,qT,qG,qL,qH,qN,qB,qE,qO,qA,qM,List.length_map];refine za2 (fun _=>[]) zat x.ports.length (fun i=> ∀j (h:j<x.ports.length) (h':j<y.ports.length),j<i->decide (x.ports[j]=y.ports[j])=true) (fun i=>([(2,.bp 2 0),(3,.bp 3 0),(6,.d (eI i))],[(2,.box ((zaK x).map .d)),(3,.box ((zaK y).map .d))])) (by intro j _ _ h; omega) (by simp only[ZE,↓reduceIte,pE,pL,pA,pS,pM,pD]) (by simp only[ZE,↓reduceIte,pE,pL,pA,pS,pM,pD]) (fun i hi hI=> ?_);rcases Nat.lt_or_ge i x.ports.length with h | h
  ·have hw:=zas (show i<9223372036854775807 by omega);have h':i<y.ports.length:=by omega
   have key:=key_bind x.ports[i] y.ports[i];obtain⟨q,hq⟩:=zX (decide (x.ports[i]=y.ports[i]));rw[hq]at key;simp(maxSteps:=4000000) only[ZE,↓reduceIte,pE,pL,pA,pS,pM,pD,zax h,zaa h,zal h,zaa h',zal h',hw,zN,qT,qG,qL,qH,qN,qB,qE,qO,qA,qM,List.length_map,key];refine⟨by kernel_rfl,?_⟩;cases q with
   | true=>
    simp only[ZE,↓reduceIte,pE,pL,pA,pS,pM,pD];refine⟨h,fun j h1 h2 hj=> ?_⟩;rcases Nat.lt_succ_iff_lt_or_eq.1 hj with hj | rfl
    ·exact hI j h1 h2 hj
    ·exact hq
   | false=>
    have e:=zgv (p:=fun x y:Bind=>decide (x=y)) h h' hq;simp only[ZE,↓reduceIte,pE,pL,pA,pS,pM,pD,e,Bool.false_and,Bool.and_false]
  have hi3:i=x.ports.length:=by omega
  subst hi3;have e2:=zeA (p:=fun x y:Bind=>decide (x=y)) hpb (fun i h1 h2=>hI i h1 h2 h1);rw[e2,Bool.true_and];simp(maxSteps:=4000000) only[ZE,↓reduceIte,pE,pL,pA,pS,pM,pD,zaI h,zN,qT,qG,qL,qH,qN,qB,qE,qO,qA,qM,List.length_map];refine EFn.p ?_;simp only[ZE,↓reduceIte,pE,pL,pA,pS,pM,pD,zN,qT,qG,qL,qH,qN,qB,qE,qO,qA,qM];refine zar.i c5 ?_;simp only[ZE,↓reduceIte,pE,pL,pA,pS,pM,pD,zN,qT,qG,qL,qH,qN,qB,qE,qO,qA,qM];refine za4.i (fun _=>c6) ?_;simp only[ZE,↓reduceIte,pE,pL,pA,pS,pM,pD,zN,qT,qG,qL,qH,qN,qB,qE,qO,qA,qM];refine za4.i (fun _=>c7) ?_;simp only[ZE,↓reduceIte,pE,pL,pA,pS,pM,pD,zN,qT,qG,qL,qH,qN,qB,qE,qO,qA,qM]
theorem rsameM_c(m n:Module):FnP Tryz.prog 64 [.agg (zaC m),.agg (zaC n)] (.d (eB (znb m n))) []:=by
 refine FnP.of_eC (own:=[]) (fun i=>if i=2001 then [.chn]else []) zat Tryz.func64 rfl Tryz.call64 Tryz.ntmps64 (Nat.le_of_ble_eq_true rfl) Tryz.results64 (fun hok=> ?_);have hla:m.items.length<=9223372036854775807:=by
  have:=(zaM hok).1;simp only[zaC,zbU,D.ok,D.okL]at this;exact(za9 this.2.2.2.1).1
 have hc:=rsameH_c m n;have ec: ∀i (h:i<m.items.length) (h':i<n.items.length),FnP Tryz.prog 71 [.agg (zaK m.items[i]),.agg (zaK n.items[i])] (.d (eB (zlL m.items[i] n.items[i]))) []:=fun i h h'=>rsameI_c _ _;have hS:znb m n=(zuv m n&&eqL zlL m.items n.items):=by unfold znb; rw[eqL_I]
 rw[hS];obtain⟨c,hcc⟩:=zX (zuv m n);rw[hcc]at hc ⊢;simp only[ZE,↓reduceIte,pE,pL,pA,pS,pM,pD]at hc;have hg:(!c ||((m.items.length:Int) !=(n.items.length:Int)))= !(c&&((m.items.length:Int)==(n.items.length:Int))):=by
  simp only[bne,Bool.not_and]
 rcases Bool.eq_false_or_eq_true (c&&((m.items.length:Int)==(n.items.length:Int)))with hcl | hcl
 ·rw[hcl]at hg;obtain⟨hc1,hab'⟩:=Bool.and_eq_true_iff.1 hcl;have hab:m.items.length=n.items.length:=by have:=beq_iff_eq.1 hab'; omega
  subst hc1;have hn:((m.items.length:Int) !=(n.items.length:Int))=false:=by rw[hab]; simp
  rw[Bool.true_and];simp(maxSteps:=4000000) only[ZE,↓reduceIte,pE,pL,pA,pS,pM,pD,zN,qT,qG,qL,qH,qN,qB,qE,qO,qA,qM];refine EFn.p ?_;simp only[ZE,↓reduceIte,pE,pL,pA,pS,pM,pD,zN,qT,qG,qL,qH,qN,qB,qE,qO,qA,qM];refine zar.i hc ?_;simp only[ZE,↓reduceIte,pE,pL,pA,pS,pM,pD,zN,qT,qG,qL,qH,qN,qB,qE,qO,qA,qM,hn,List.length_map];refine za2 (fun _=>[]) zat m.items.length (fun i=> ∀j (h:j<m.items.length) (h':j<n.items.length),j<i->zlL m.items[j] n.items[j]=true) (fun i=>([(2,.bp 2 0),(3,.bp 3 0),(5,.d (eI i))],[(2,.box ((zaC m).map .d)),(3,.box ((zaC n).map .d))])) (by intro j _ _ h; omega) (by simp only[ZE,↓reduceIte,pE,pL,pA,pS,pM,pD]) (by simp only[ZE,↓reduceIte,pE,pL,pA,pS,pM,pD]) (fun i hi hI=> ?_);rcases Nat.lt_or_ge i m.items.length with h | h
  ·have hw:=zas (show i<9223372036854775807 by omega);have h':i<n.items.length:=by omega
   have hc:=ec i h h';obtain⟨q,hq⟩:=zX (zlL m.items[i] n.items[i]);rw[hq]at hc;simp only[ZE,↓reduceIte,pE,pL,pA,pS,pM,pD]at hc;simp(maxSteps:=4000000) only[ZE,↓reduceIte,pE,pL,pA,pS,pM,pD,zax h,zaa h,zal h,zaa h',zal h',hw,zN,qT,qG,qL,qH,qN,qB,qE,qO,qA,qM,List.length_map,Nat.zero_add];refine⟨by kernel_rfl,zay.i hc ?_⟩;cases q with
   | true=>
    simp only[ZE,↓reduceIte,pE,pL,pA,pS,pM,pD,zN,qT,qG,qL,qH,qN,qB,qE,qO,qA,qM,hw];refine⟨h,fun j h1 h2 hj=> ?_⟩;rcases Nat.lt_succ_iff_lt_or_eq.1 hj with hj | rfl
    ·exact hI j h1 h2 hj
    ·exact hq
   | false=>
    have e:=zgv h h' hq;simp only[ZE,↓reduceIte,pE,pL,pA,pS,pM,pD,zN,qT,qG,qL,qH,qN,qB,qE,qO,qA,qM,e]
  ·have:i=m.items.length:=by omega
   subst this;have e:=zeA hab (fun i h1 h2=>hI i h1 h2 h1);simp(maxSteps:=4000000) only[ZE,↓reduceIte,pE,pL,pA,pS,pM,pD,zaI h,zN,qT,qG,qL,qH,qN,qB,qE,qO,qA,qM,e,List.length_map,Nat.zero_add]
 ·rw[hcl]at hg;have e:(c&&eqL zlL m.items n.items)=false:=by
   cases c with
   | false=>rfl
   | true=>
    rw[Bool.true_and]at hcl ⊢;exact zgw (fun e=>by rw[e]at hcl; simp at hcl)
  rw[e];simp(maxSteps:=4000000) only[ZE,↓reduceIte,pE,pL,pA,pS,pM,pD,zN,qT,qG,qL,qH,qN,qB,qE,qO,qA,qM];refine EFn.p ?_;simp only[ZE,↓reduceIte,pE,pL,pA,pS,pM,pD,zN,qT,qG,qL,qH,qN,qB,qE,qO,qA,qM];refine zar.i hc ?_;simp only[ZE,↓reduceIte,pE,pL,pA,pS,pM,pD,zN,qT,qG,qL,qH,qN,qB,qE,qO,qA,qM,hg,List.length_map]
theorem rsame_c(f g:List Module):FnP Tryz.prog 20 [.agg [zaz f],.agg [zaz g]] (.d (eB (zmb f g))) []:=by
 refine FnP.of_eC (own:=[]) (fun _=>[]) zat Tryz.func20 rfl Tryz.call20 Tryz.ntmps20 (Nat.le_of_ble_eq_true rfl) Tryz.results20 (fun hok=> ?_);have hla:f.length<=9223372036854775807:=by
  have:=(zaM hok).1;simp only[D.ok,D.okL]at this;exact(za9 this.1).1
 have ec: ∀i (h:i<f.length) (h':i<g.length),FnP Tryz.prog 64 [.agg (zaC f[i]),.agg (zaC g[i])] (.d (eB (znb f[i] g[i]))) []:=fun i h h'=>rsameM_c _ _;rw[<-eqL_M];by_cases hab:f.length=g.length
 ·have h0:((f.length:Int) !=(g.length:Int))=false:=by simp[hab]
  simp(maxSteps:=4000000) only[ZE,↓reduceIte,pE,pL,pA,pS,pM,pD,zN,qT,qG,qL,qH,qN,qB,qE,qO,qA,qM,h0,List.length_map];refine za2 (fun _=>[]) zat f.length (fun i=> ∀j (h:j<f.length) (h':j<g.length),j<i->znb f[j] g[j]=true) (fun i=>([(2,.bp 2 0),(3,.bp 3 0),(5,.d (eI i))],[(2,.box [.d (zaz f)]),(3,.box [.d (zaz g)])])) (by intro j _ _ h; omega) (by simp only[ZE,↓reduceIte,pE,pL,pA,pS,pM,pD]) (by simp only[ZE,↓reduceIte,pE,pL,pA,pS,pM,pD]) (fun i hi hI=> ?_);rcases Nat.lt_or_ge i f.length with h | h
  ·have hw:=zas (show i<9223372036854775807 by omega);have h':i<g.length:=by omega
   have hc:=ec i h h';obtain⟨q,hq⟩:=zX (znb f[i] g[i]);rw[hq]at hc;simp only[ZE,↓reduceIte,pE,pL,pA,pS,pM,pD]at hc;simp(maxSteps:=4000000) only[ZE,↓reduceIte,pE,pL,pA,pS,pM,pD,zax h,zaa h,zal h,zaa h',zal h',hw,zN,qT,qG,qL,qH,qN,qB,qE,qO,qA,qM,List.length_map,Nat.zero_add];refine⟨by kernel_rfl,zay.i hc ?_⟩;cases q with
   | true=>
    simp only[ZE,↓reduceIte,pE,pL,pA,pS,pM,pD,zN,qT,qG,qL,qH,qN,qB,qE,qO,qA,qM,hw];refine⟨h,fun j h1 h2 hj=> ?_⟩;rcases Nat.lt_succ_iff_lt_or_eq.1 hj with hj | rfl
    ·exact hI j h1 h2 hj
    ·exact hq
   | false=>
    have e:=zgv h h' hq;simp only[ZE,↓reduceIte,pE,pL,pA,pS,pM,pD,zN,qT,qG,qL,qH,qN,qB,qE,qO,qA,qM,e]
  ·have:i=f.length:=by omega
   subst this;have e:=zeA hab (fun i h1 h2=>hI i h1 h2 h1);simp(maxSteps:=4000000) only[ZE,↓reduceIte,pE,pL,pA,pS,pM,pD,zaI h,zN,qT,qG,qL,qH,qN,qB,qE,qO,qA,qM,e,List.length_map,Nat.zero_add]
 ·have h0:((f.length:Int) !=(g.length:Int))=true:=by simp; omega
  have e:=zgw (p:=znb) hab;simp(maxSteps:=4000000) only[ZE,↓reduceIte,pE,pL,pA,pS,pM,pD,zN,qT,qG,qL,qH,qN,qB,qE,qO,qA,qM,h0,e,List.length_map]
def mI(n:Str)(m:Nat)(xs ys:List Item):List Edit:=mrgF ltP zbo (fun x=>[eRem n x]) (fun y=>[zcs n y]) (fun x y=>bothE n x y) m xs ys
def pairI:List AV:=[.d (.clo (.func 53) [] []),.clo (.func 122) [] [.bp 101 0,.bp 102 0],.clo (.func 120) [] [.bp 101 0,.bp 102 0],.clo (.func 123) [] [.bp 103 0]]
def mM(m:Nat)(xs ys:List Module):List Edit:=mrgF ltS Module.name (fun m=>ztk m.name m.items []++[zva m.name]) (fun m=>eHead m::ztk m.name [] m.items) (fun m n=>headD m n++ztk n.name m.items n.items) m xs ys
def pairM:List AV:=[.d (.clo (.func 57) [] []),.clo (.func 66) [] [.bp 101 0],.clo (.func 68) [] [.bp 101 0],.clo (.func 70) [] [.bp 101 0]]
open Go.Aw Go.RowKit Go.Lib
set_option maxRecDepth 1000000
structure Hd (p:Prop):Prop where
 out:p
set_option maxRecDepth 100000
/-- Files that can be put into normal form. -/
structure NOk (l:List Module):Prop where
 names:(l.map Module.name).Nodup
 parts: ∀m∈l,(m.items.map zbo).Nodup
 len:l.length<=4000000
 items: ∀m∈l,m.items.length<=4000000
section
variable {α κ:Type} [DecidableEq κ] {lt:κ->κ->Bool} {key:α->κ}
end
theorem eItem_1(x:Item): ∀d∈zaK x,d.one:=by
 simp[zaK,zgY,zca,zim,eI,eS,ziR,zen,D.one,Value.oneCell']
theorem eModule_1(x:Module): ∀d∈zaC x,d.one:=by
 simp[zaC,eS,zd7,zbU,D.one,Value.oneCell']
def arM(l:List Module):AO:=.arr 53 4 .flat (l.map zaC)
def stepQ(r:Option (List Module))(V:AV)(ol:OL)(new:List Nat):Prop:=
 match r with
 | some s=>V= .tup [.ar 140 s.length,.d (eB true)]/\ol=[(140,.arr 53 4 .flat (s.map zaC))]/\new=[140]
 | none=>V= .tup [.d (.sl []),.d (eB false)]/\ol=[]/\new=[]
def czI(k:Int)(n:ByteArray):List AV:=
 [.d (.lit (.int .i64 k)),.d (.lit (.string n)),.d (.lit (.int .i64 0)),.d (.lit (.string ByteArray.empty)),.d (.lit (.int .i64 0)),.d (.lit (.string ByteArray.empty)),.d (.lit (.int .i64 0)),.d (.lit (.string ByteArray.empty)),
  .d (.lit (.int .i64 0)),.d (.lit (.string ByteArray.empty)),.d (.lit (.int .i64 0)),.d (.lit (.string ByteArray.empty)),.d (.lit (.int .i64 0)),.d (.lit (.string ByteArray.empty)),.nils,
  .d (.lit (.int .i64 0)),.d (.lit (.string ByteArray.empty)),.d (.lit (.int .i64 0)),.d (.lit (.string ByteArray.empty)),.d (.lit (.int .i64 0)),.d (.lit (.string ByteArray.empty)),.nils,
  .d (.lit (.int .i64 0)),.d (.lit (.string ByteArray.empty)),.d (.lit (.int .i64 0)),.d (.lit (.string ByteArray.empty)),.d (.lit (.int .i64 0)),.d (.lit (.string ByteArray.empty)),.nils,
  .d (.lit (.int .i64 0)),.d (.lit (.string ByteArray.empty)),.d (.lit (.int .i64 0)),.d (.lit (.string ByteArray.empty)),.nils,.nils]
section
variable {α κ:Type} [DecidableEq κ] {lt:κ->κ->Bool} {key:α->κ}
omit [DecidableEq κ] in
theorem putS_le: ∀(l:List α) (x:α),(zp9 lt key l x).length <=l.length+1
 | [],x=>by simp[zp9]
 | y::r,x=>by
  have:=putS_le r x;simp only[zp9];split
  ·simp
  split
  ·simp only[List.length_cons]; omega
  ·simp
theorem rmvS_le: ∀(l:List α) (k:κ),(rmvS key l k).length <=l.length
 | [],k=>by simp[rmvS]
 | y::r,k=>by
  have:=rmvS_le r k;simp only[rmvS];split
  ·simp
  ·simp only[List.length_cons]; omega
end
/-- What stays on the way. -/
structure StB (n:Nat) (s:List Module):Prop where
 good:Good s
 len:s.length<=n
 items: ∀m∈s,m.items.length<=n
theorem StB.put{n:Nat}{s:List Module}(h:StB n s){m:Module}(hm:Srt ltP zbo m.items)(hl:m.items.length<=n+1):StB (n+1) (zp9 ltS Module.name s m):=
 ⟨h.good.put hm,Nat.le_trans (putS_le _ _) (Nat.succ_le_succ h.len),fun z hz=>by
  rcases zxA hz with rfl | hz
  ·exact hl
  ·exact Nat.le_succ_of_le (h.items z hz)⟩
theorem StB.step{n:Nat}{s s':List Module}(h:StB n s){e:Edit}(hs:stepE s e=some s'):StB (n+1) s':=by
 unfold stepE at hs;split at hs
 ·unfold stepH at hs;split at hs
  ·split at hs
   ·cases hs
   ·rename_i hc;have h0:e.head.items=[]:=Classical.byContradiction fun hn=>hc (.inr hn);split at hs
    ·cases hs;exact h.put (by rw[h0]; exact List.Pairwise.nil) (by rw[h0]; exact Nat.zero_le _)
    ·rename_i m hm;cases hs;exact h.put (h.good.parts m (ze3 hm).1) (Nat.le_succ_of_le (h.items m (ze3 hm).1))
  ·split at hs
   ·cases hs
   ·split at hs
    ·cases hs
    ·cases hs;exact⟨h.good.rmv _,Nat.le_succ_of_le (Nat.le_trans (rmvS_le _ _) h.len),fun z hz=>Nat.le_succ_of_le (h.items z (zxB hz))⟩
 ·unfold zmc at hs;split at hs
  ·cases hs
  ·rename_i m hm;have hsm:=h.good.parts m (ze3 hm).1;have hlm:=h.items m (ze3 hm).1;split at hs
   ·split at hs
    ·cases hs
    ·cases hs;exact h.put (Srt.ins zxL _ hsm) (Nat.le_trans (putS_le _ _) (Nat.succ_le_succ hlm))
   ·split at hs
    ·cases hs;exact h.put (Srt.del _ hsm) (Nat.le_succ_of_le (Nat.le_trans (rmvS_le _ _) hlm))
    ·cases hs
def applyR(r:Option (List Module)):AV:=
 match r with
 | some s=>.tup [.d (.agg [zaz s]),.d (eI 0)]
 | none=>.tup [.d (.agg [.sl []]),.d (eI 160)]
def kind0(x:Item):Bool:=x.kind.1==0
theorem kind0_c(x:Item):FnP Tryz.prog 55 [.agg (zaK x)] (.d (eB (kind0 x))) []:=by
 refine FnP.of_eC (own:=[]) (fun _=>[]) zat Tryz.func55 rfl Tryz.call55 Tryz.ntmps55 (Nat.le_of_ble_eq_true rfl) Tryz.results55 (fun hok=> ?_);simp(maxSteps:=4000000) only[ZE,↓reduceIte,pE,pL,pA,pS,pM,pD,zN,qT,qG,qL,qH,qN,qB,qE,qO,qA,qM,kind0]
theorem indexK_c(l:List Item):FnP Tryz.prog 112 [.sl (l.map zaK),.clo (.func 55) [] []] (.d (eI (zhd kind0 l))) []:=by
 refine FnP.of_eC (own:=[]) chL zat Tryz.func112 rfl Tryz.call112 Tryz.ntmps112 (Nat.le_of_ble_eq_true rfl) Tryz.results112 (fun hok=> ?_);obtain⟨hl,_⟩:=za9 (zaM hok).1;simp only[ZE,↓reduceIte,pE,pL,pA,pS,pM,pD,zN,qT,qG,qL,qH,qN,qB,qE,qO,qA,qM];refine za2 chL zat l.length (fun i=> ∀j (_:j<i) (hj:j<l.length),kind0 l[j]=false) (fun i=>([(0,.d (zbU l)),(1,.d (.clo (.func 55) [] [])),(7,.d (eI l.length)),(8,.d (eI i))],[])) (by simp) (by simp only[ZE,↓reduceIte,pE,pL,pA,pS,pM,pD,zN,qT,qG,qL,qH,qN,qB,qE,qO,qA,qM,List.length_map]) (by simp only[ZE,↓reduceIte,pE,pL,pA,pS,pM,pD]) (fun i hi hI=> ?_);rcases Nat.lt_or_ge i l.length with h | h
 ·have hw:=zas (show i<9223372036854775807 by omega);simp only[ZE,↓reduceIte,pE,pL,pA,pS,pM,pD,zax h,zaa h,zal h,List.length_map];have hc:=kind0_c l[i];simp only[ZE,↓reduceIte,pE,pL,pA,pS,pM,pD]at hc;refine EFn.p ?_;simp only[ZE,↓reduceIte,pE,pL,pA,pS,pM,pD];refine zar.i hc ?_;simp only[ZE,↓reduceIte,pE,pL,pA,pS,pM,pD,hw];refine zea (fun h3=> ?_) (fun h3=>⟨h,fun j hj hj'=> ?_⟩)
  ·rw[zeO h h3 hI]
  ·rcases Nat.lt_succ_iff_lt_or_eq.1 hj with hj | rfl
   ·exact hI j hj hj'
   ·exact h3
 ·simp only[ZE,↓reduceIte,pE,pL,pA,pS,pM,pD,zaI h,List.length_map];rw[zff (fun j hj=>hI j (by omega) hj)]
theorem containsK_c(l:List Item):FnP Tryz.prog 54 [.sl (l.map zaK),.clo (.func 55) [] []] (.d (eB (l.any kind0))) []:=by
 refine FnP.of_eC (own:=[]) chL zat Tryz.func54 rfl Tryz.call54 Tryz.ntmps54 (Nat.le_of_ble_eq_true rfl) Tryz.results54 (fun hok=> ?_);simp only[ZE,↓reduceIte,pE,pL,pA,pS,pM,pD,zN,qT,qG,qL,qH,qN,qB,qE,qO,qA,qM];refine EFn.p ?_;simp(maxSteps:=4000000) only[ZE,↓reduceIte,pE,pL,pA,pS,pM,pD];have hc:=indexK_c l;simp(maxSteps:=4000000) only[ZE,↓reduceIte,pE,pL,pA,pS,pM,pD]at hc;refine zar.i hc ?_;clear hc;simp only[ZE,↓reduceIte,pE,pL,pA,pS,pM,pD,zN,qT,qG,qL,qH,qN,qB,qE,qO,qA,qM,zfZ]
open Go.Aw Go.Sort Go.RowKit Go.Lib Go.Shelf
set_option maxRecDepth 1000000
variable {α:Type} [Inhabited α]
/-- What does not change on the way: all but one block of cells. -/
structure Frm (W wr:World) (g:Nat) (e:TypeId) (sz:Nat):Prop where
 os:wr.os=W.os
 tape:wr.tape=W.tape
 output:wr.output=W.output
 size:W.heap.size<=wr.heap.size
 same: ∀b,b<W.heap.size->b≠g->wr.heap[b]? =W.heap[b]?
 cells: ∃cur,wr.heap[g]? =some (.cells cur e (0,0))/\cur.size=sz
theorem Frm.grow{W wr:World}{g:Nat}{e:TypeId}{sz:Nat}(h:Frm W wr g e sz)(hg:g<W.heap.size)(q:Nat)(os':Array Obj):Frm W (grow (wr.drewN q) os') g e sz:=by
 have hb: ∀b,b<wr.heap.size->(Go.Sort.grow (wr.drewN q) os').heap[b]? =wr.heap[b]? :=fun b hb=>by
  show(wr.heap++os')[b]? =_;rw[Array.getElem?_append_left hb]
 have hgw:g<wr.heap.size:=Nat.lt_of_lt_of_le hg h.size;refine⟨h.os,h.tape,h.output,Nat.le_trans h.size (by show wr.heap.size<=(wr.heap++os').size; simp),fun b hlt hne=> ?_,?_⟩
 ·rw[hb b (Nat.lt_of_lt_of_le hlt h.size),h.same b hlt hne]
 ·rw[hb g hgw]; exact h.cells
theorem Frm.put{W wr:World}{g:Nat}{e:TypeId}{sz:Nat}(h:Frm W wr g e sz)(o:Nat)(vs:List Value):Frm W (wr.setCells g o vs) g e sz:=by
 obtain⟨r1,r2,r3,r4⟩:=zlN g vs o wr;obtain⟨cur,h1,h2⟩:=h.cells;exact⟨r1.trans h.os,r2.trans h.tape,r3.trans h.output,by rw[r4]; exact h.size,fun b hlt hne=>by rw[zlM g vs o wr b hne]; exact h.same b hlt hne,_,zoV g vs o wr cur e (0,0) h1,by rw[zub]; exact h2⟩
theorem Frm.drew{W wr:World}{g:Nat}{e:TypeId}{sz:Nat}(h:Frm W wr g e sz):Frm W wr.drew g e sz:=⟨h.os,h.tape,h.output,h.size,h.same,h.cells⟩
theorem zb7{enc:α->List Value}{k:Nat}{wr:World}{g off:Nat}{d:Array α}(h:HoldsK enc k wr g off d)(hg:g<wr.heap.size)(q:Nat)(os':Array Obj):HoldsK enc k (grow (wr.drewN q) os') g off d:=by
 refine holdsK_grow enc k (wr.drewN q) os' g off d hg ?_;exact h
theorem setMany_set(enc:α->List Value)(k:Nat)(hk: ∀x,(enc x).length =k)(d:Array α)(i:Nat)(x:α)(hi:i<d.size):setMany (flatK enc k d) (i*k) (enc x)=flatK enc k (d.setIfInBounds i x):=by
 have hb:i*k+k<=d.size*k:=by have:=Nat.mul_le_mul_right k (show i+1<=d.size from hi); rwa [Nat.add_mul,Nat.one_mul]at this
 apply Array.ext
 ·simp
 ·intro t h1 h2;have ht:t<d.size*k:=by simpa using h1
  have hk0:0<k:=Nat.pos_of_ne_zero fun h=>by subst h; simp at ht
  rw[<-getElem!_pos _ t h1,<-getElem!_pos _ t h2,get_setMany _ _ _ t (by simpa using ht),get_flatK _ _ _ t ht,get_flatK _ _ _ t (by simpa using ht),hk];have hd:t / k<d.size:=Nat.div_lt_of_lt_mul (by rw[Nat.mul_comm]; exact ht);by_cases e:t / k=i
  ·have h3:i*k<=t/\t<i*k+k:=by
    have a1:=Nat.div_add_mod t k;have a2:=Nat.mod_lt t hk0;rw[e,Nat.mul_comm]at a1;omega
   rw[if_pos h3];have h4:t-i*k=t % k:=by
    have a1:=Nat.div_add_mod t k;rw[e,Nat.mul_comm]at a1;omega
   have hx:(d.setIfInBounds i x)[i]! =x:=by
    rw[getElem!_pos (d.setIfInBounds i x) i (by simpa using hi)];simp
   rw[h4,e,hx]
  ·have h3: ¬(i*k<=t/\t<i*k+k):=fun⟨a,b⟩=>e (by
    apply Nat.div_eq_of_lt_le
    ·exact a
    ·rw[Nat.add_mul,Nat.one_mul]; exact b)
   have hx:(d.setIfInBounds i x)[t / k]! =d[t / k]! :=by
    rw[getElem!_pos (d.setIfInBounds i x) (t / k) (by simpa using hd),getElem!_pos d (t / k) hd];exact Array.getElem_setIfInBounds_ne _ (Ne.symm e)
   rw[if_neg h3,hx]
theorem zvV{enc:α->List Value}{k:Nat}(hk: ∀x,(enc x).length =k){W:World}{g off:Nat}{d:Array α}(h:HoldsK enc k W g off d)(i:Nat)(x:α)(hi:i<d.size):HoldsK enc k (W.setCells g (off+i*k) (enc x)) g off (d.setIfInBounds i x):=by
 have hb:i*k+k<=d.size*k:=by have:=Nat.mul_le_mul_right k (show i+1<=d.size from hi); rwa [Nat.add_mul,Nat.one_mul]at this
 unfold HoldsK;rw[<-setMany_set enc k hk d i x hi];exact holds_setCells_c h (i*k) (enc x) (by rw[hk,size_flatK]; exact hb)
theorem zup{P:Program}(w:World)(t e ty:TypeId)(z:Value)(ht:P.underlying t=some (.slice e))(hv: ∀w,(zeroValue e).run P w= .ok z w)(b o n c:Nat)(hn:0<n)(h1: ∀v∈(Builtin.zeroCells z.cells n).toList,v.oneCell'=true)
  (hc: ∀j,j<(Builtin.zeroCells z.cells n).toList.length ->(w.cell? ⟨b,o+j,none⟩).isSome =true) (hf: ∀j,j<(Builtin.zeroCells z.cells n).toList.length ->w.frozen? ⟨b,o+j,none⟩=false):
  (Builtin.clear_ #[t] ty #[.slice (some ⟨b,o,none⟩) n c]).run P w= .ok (.tuple #[]) (w.setCells b o (Builtin.zeroCells z.cells n).toList):=by
 have hst:=run_storeCells_cells (P:=P) b o (Builtin.zeroCells z.cells n).toList 0 w (by simpa using hc) (by simpa using hf) h1;simp only[Nat.add_zero]at hst;obtain⟨m,rfl⟩: ∃m,n=m+1:=⟨n-1,by omega⟩;simp[Builtin.clear_,run_underlying ht,hv,hst]
theorem zp7{cells:Array Value}(h0:0<cells.size)(h: ∀v∈cells.toList,v.oneCell'=true)(n:Nat): ∀v∈(Builtin.zeroCells cells n).toList,v.oneCell'=true:=by
 intro v hv;simp only[Builtin.zeroCells,Array.toList_map,List.mem_map]at hv;obtain⟨i,_,rfl⟩:=hv;have hi:i % cells.size<cells.size:=Nat.mod_lt _ h0;rw[getElem!_pos cells _ hi];exact h _ (by simp)
structure Hc (p:Prop):Prop where
 out:p
def CompQ(d:Array α)(ef:α->α->Bool)(W:World)(g off cap:Nat)(e:TypeId)(sz:Nat)(e':Ending)(W':World):Prop:=
 ∃m:Nat,e'= .returned (.slice (some ⟨g,off,none⟩) m cap)/\Frm W W' g e sz/\((m=d.size/\ ∀j,j+1<d.size->ef d[j+1]! d[j]! =false)\/(m<d.size/\ ∃j,j+1<d.size/\ef d[j+1]! d[j]! =true))
set_option maxHeartbeats 8000000 in
theorem zw1{P:Program}(hP:Tryz.prog=P)(enc:α->List Value)(k:Nat)(hk2:k=35)(hk: ∀x,(enc x).length =k)(h1: ∀x,∀v∈enc x,v.oneCell'=true)(ef:α->α->Bool)(gf:Nat)(cb:Array Value)(g off cap sz:Nat)(d:Array α)(W:World)
  (eg: ∀args w,(callFunc gf args).run P w= .ok (.enter gf args) w)
  (hcmp: ∀wr,Frm W wr g 64 sz-> ∀x y:α,Calls P gf (#[.agg (enc x).toArray,.agg (enc y).toArray]++cb) wr fun e w'=>e= .returned (.bool (ef x y))/\ ∃q os',w'=grow (wr.drewN q) os')
  (hH:HoldsK enc k W g off d) (hg: ∃cur,W.heap[g]? =some (.cells cur 64 (0,0))/\cur.size=sz) (hcap:d.size<=cap) (hmx:cap<=9223372036854775807) (hsz:d.size<4611686018427387904):
  Calls P 108 #[.slice (some ⟨g,off,none⟩) d.size cap,.func (.func gf) #[] cb] W (CompQ d ef W g off cap 64 sz):=by
 have F:=Tryz.func108;have zat:=zat;have t0:=Tryz.underlying0; have a0:=Tryz.isAgg0; have z0:=Tryz.sizeOf0; have v0:=Tryz.zeroValue0;have t3:=Tryz.underlying3; have a3:=Tryz.isAgg3; have z3:=Tryz.sizeOf3; have v3:=Tryz.zeroValue3;have t4:=Tryz.underlying4; have a4:=Tryz.isAgg4; have z4:=Tryz.sizeOf4; have v4:=Tryz.zeroValue4;have tS:=Tryz.underlying51; have aS:=Tryz.isAgg51; have zS:=Tryz.sizeOf51; have vS:=Tryz.zeroValue51;have aE:=Tryz.isAgg64; have zE:=Tryz.sizeOf64;have uS:=run_underlying tS;obtain⟨i0,zz,_,hi0,hz0,hzc,_,_,_⟩:=zeT tA51;have hz0v: ∀w,(zeroValue 64).run Tryz.prog w= .ok zz w:=fun w=>by simp[zeroValue,typeInfo,hi0,hz0]
 have hz1: ∀v∈zz.cells.toList,v.oneCell'=true:=by
  have h0:=Tryz.zeroValue64 W;rw[hz0v W]at h0;cases h0;rw[<-List.all_eq_true];kernel_rfl
 have ZV:Hc (∀w,(zeroValue 64).run P w= .ok zz w):=⟨by rw[<-hP]; exact hz0v⟩;have ZS:Hc (zz.cells.size=k):=⟨by rw[hk2]; exact hzc⟩;have ZO:Hc (∀n,∀v∈(Builtin.zeroCells zz.cells n).toList,v.oneCell'=true):=⟨fun n=>zp7 (by rw[hzc]; omega) hz1 n⟩;clear hi0 hz0 hzc hz0v hz1;rw[<-hk2]at zE;rw[hP]at F zat t0 a0 z0 v0 t3 a3 z3 v3 t4 a4 z4 v4 tS aS zS vS aE zE uS;clear hk2;obtain⟨cur,hg1,hg2⟩:=hg;have hgW:g<W.heap.size:=(Array.getElem?_eq_some_iff.1 hg1).1;have F0:Frm W W g 64 sz:=⟨rfl,rfl,rfl,Nat.le_refl _,fun _ _ _=>rfl,cur,hg1,hg2⟩;have HC:Hc (∀wr,Frm W wr g 64 sz-> ∀x y:α,Calls P gf (#[.agg (enc x).toArray,.agg (enc y).toArray]++cb) wr fun e w'=>e= .returned (.bool (ef x y))/\ ∃q os',w'=grow (wr.drewN q) os'):=⟨hcmp⟩;have HK:Hc (∀x,(enc x).length =k):=⟨hk⟩;have H1:Hc (∀x,∀v∈enc x,v.oneCell'=true):=⟨h1⟩;have HF0:Hc (Frm W W g 64 sz):=⟨F0⟩;have HH0:Hc (HoldsK enc k W g off d):=⟨hH⟩;clear hcmp hk h1 F0 hH hg1 hg2;by_cases h2:d.size<2
 ·have h2z:(d.size:Int)<2:=by omega
  go_enter F,Tryz.ntmps108
  go_wp2;go_ret;exact⟨d.size,rfl,HF0.out,.inl ⟨rfl,fun j hj=>by omega⟩⟩
 ·have h2z: ¬(d.size:Int)<2:=by omega
  go_enter F,Tryz.ntmps108
  go_wp2
  go_loopg [5] d.size (fun g1 s5 wr=> ∃kk:Nat,1<=kk/\kk<=d.size/\d.size-kk<=g1/\s5= .int .i64 kk/\Hc (HoldsK enc k wr g off d)/\Hc (Frm W wr g 64 sz)/\Hc (∀j,j+1<kk->ef d[j+1]! d[j]! =false))
  case atStart=>exact⟨1,Nat.le_refl _,by omega,by omega,rfl,HH0,HF0,⟨fun j hj=>by omega⟩⟩
  case round=>
   obtain⟨kk,hk1,hkn,hg1,rfl,HH,HF,HA⟩:=hrel;by_cases hlt:kk<d.size
   ·obtain⟨jp,rfl⟩: ∃jp,kk=jp+1:=⟨kk-1,by omega⟩;obtain⟨xj,hxj⟩: ∃x,d[jp+1]! =x:=⟨_,rfl⟩;obtain⟨xp,hxp⟩: ∃x,d[jp]! =x:=⟨_,rfl⟩;have hwp:IntKind.i64.wrap (jp:Int)=(jp:Int):=(by rw[IntKind.wrap_i64]; omega);have jz:(jp:Int)+1<(d.size:Int):=(by omega);have jz1:(jp:Int)<(d.size:Int):=(by omega);have p0:(0:Int)<=(jp:Int)+1:=(by omega);have e0:((jp:Int)+1).toNat =jp+1:=(by omega);have hgw:g<wr.heap.size:=Nat.lt_of_lt_of_le hgW HF.out.size;have lj: ∀n' os',Sem.run P (loadCellsFrom ⟨g,off+(jp+1)*k,none⟩ 0 k #[]) (grow (wr.drewN n') os')= .ok (enc xj).toArray (grow (wr.drewN n') os'):=fun n' os'=>by
     rw[<-hxj]; exact run_loadCellsFrom_list P _ _ _ k (HK.out _) (HoldsK.cells (zb7 HH.out hgw n' os') HK.out (by omega))
    have lp: ∀n' os',Sem.run P (loadCellsFrom ⟨g,off+jp*k,none⟩ 0 k #[]) (grow (wr.drewN n') os')= .ok (enc xp).toArray (grow (wr.drewN n') os'):=fun n' os'=>by
     rw[<-hxp]; exact run_loadCellsFrom_list P _ _ _ k (HK.out _) (HoldsK.cells (zb7 HH.out hgw n' os') HK.out (by omega))
    have hcg: ∀n' os',Calls P gf (#[.agg (enc xj).toArray,.agg (enc xp).toArray]++cb) (grow (wr.drewN n') os') fun e w'=>e= .returned (.bool (ef xj xp))/\ ∃q os'',w'=grow ((grow (wr.drewN n') os').drewN q) os'':=fun n' os'=>
     HC.out _ (HF.out.grow hgW n' os') xj xp
    have HX:Hc (d[jp+1]! =xj/\d[jp]! =xp):=⟨hxj,hxp⟩;clear hxj hxp;cases hev:ef xj xp with
    | false=>
     rw[hev]at hcg
     go_wp2_with fail
     go_quiet_grown (first | (go_at_fn gf; refine Calls.grown_of (hcg _ _)))
     go_wp2
     go_roundg (d.size-(jp+1+1))
     case measure=>omega
     case rel=>
      refine⟨jp+1+1,by omega,by omega,Nat.le_refl _,by go_num,⟨zb7 HH.out hgw _ _⟩,⟨HF.out.grow hgW _ _⟩,⟨fun j hj=> ?_⟩⟩;by_cases e:j=jp
      ·subst e; rw[HX.out.1,HX.out.2]; exact hev
      ·exact HA.out j (by omega)
    | true=>
     rw[hev]at hcg;have hck: ¬(cap=jp+1):=by omega
     go_wp2_with fail
     go_quiet_grown (first | (go_at_fn gf; refine Calls.grown_of (hcg _ _)))
     go_wp2;have HD:Hc (ef d[jp+1]! d[jp]! =true):=⟨by rw[HX.out.1,HX.out.2]; exact hev⟩;have HH2:=zb7 HH.out hgw nq osq;have HF2:=HF.out.grow hgW nq osq;clear lj lp hcg hev HX HA hgw;generalize grow (wr.drewN nq) osq=wq at HH2 HF2 ⊢;have HH3:Hc (HoldsK enc k wq g off d):=⟨HH2⟩;have HF3:Hc (Frm W wq g 64 sz):=⟨HF2⟩;clear HH2 HF2 HH HF
     go_loopg [5,7] d.size (fun g2 s5 s7 wr=> ∃(k5 k7:Nat),s5= .int .i64 k5/\s7= .int .i64 k7/\1<=k5/\1<=k7/\k5<=jp+k7/\jp+1+k7<=d.size/\d.size-(jp+1+k7)<=g2/\ ∃dk:Array α,dk.size=d.size/\Hc (HoldsK enc k wr g off dk)/\Hc (Frm W wr g 64 sz))
     case atStart=>exact⟨jp+1,1,by go_num,rfl,by omega,Nat.le_refl _,by omega,by omega,by omega,d,rfl,HH3,HF3⟩
     case round=>
      obtain⟨k5,k7,rfl,rfl,h51,h71,h57,hle,hg2,dk,hdk,HH,HF⟩:=hrel;by_cases hlt2:jp+1+k7<d.size
      ·obtain⟨q,rfl⟩: ∃q,k7=q+1:=⟨k7-1,by omega⟩;obtain⟨xj,hxj⟩: ∃x,dk[jp+1+(q+1)]! =x:=⟨_,rfl⟩;obtain⟨xp,hxp⟩: ∃x,dk[jp+1+q]! =x:=⟨_,rfl⟩;have hwq:IntKind.i64.wrap (q:Int)=(q:Int):=(by rw[IntKind.wrap_i64]; omega);have qz:(q:Int)+1<((d.size-(jp+1):Nat):Int):=(by omega);have qz1:(q:Int)<((d.size-(jp+1):Nat):Int):=(by omega);have q0:(0:Int)<=(q:Int)+1:=(by omega);have qe0:((q:Int)+1).toNat =q+1:=(by omega);have hgw:g<wr.heap.size:=Nat.lt_of_lt_of_le hgW HF.out.size;have ea:off+(jp+1)*k+(q+1)*k=off+(jp+1+(q+1))*k:=(by rw[Nat.add_mul (jp+1) (q+1) k]; omega);have eb:off+(jp+1)*k+q*k=off+(jp+1+q)*k:=(by rw[Nat.add_mul (jp+1) q k]; omega);have lj: ∀n' os',Sem.run P (loadCellsFrom ⟨g,off+(jp+1)*k+(q+1)*k,none⟩ 0 k #[]) (grow (wr.drewN n') os')= .ok (enc xj).toArray (grow (wr.drewN n') os'):=fun n' os'=>by
        rw[ea,<-hxj]; exact run_loadCellsFrom_list P _ _ _ k (HK.out _) (HoldsK.cells (zb7 HH.out hgw n' os') HK.out (by omega))
       have lp: ∀n' os',Sem.run P (loadCellsFrom ⟨g,off+(jp+1)*k+q*k,none⟩ 0 k #[]) (grow (wr.drewN n') os')= .ok (enc xp).toArray (grow (wr.drewN n') os'):=fun n' os'=>by
        rw[eb,<-hxp]; exact run_loadCellsFrom_list P _ _ _ k (HK.out _) (HoldsK.cells (zb7 HH.out hgw n' os') HK.out (by omega))
       have hcg: ∀n' os',Calls P gf (#[.agg (enc xj).toArray,.agg (enc xp).toArray]++cb) (grow (wr.drewN n') os') fun e w'=>e= .returned (.bool (ef xj xp))/\ ∃q os'',w'=grow ((grow (wr.drewN n') os').drewN q) os'':=fun n' os'=>
        HC.out _ (HF.out.grow hgW n' os') xj xp
       clear ea eb;cases hev:ef xj xp with
       | true=>
        rw[hev]at hcg
        go_wp2_with fail
        go_quiet_grown (first | (go_at_fn gf; refine Calls.grown_of (hcg _ _)))
        go_wp2
        go_roundg (d.size-(jp+1+(q+1+1)))
        case measure=>omega
        case rel=>exact⟨k5,q+1+1,rfl,by go_num,h51,by omega,by omega,by omega,Nat.le_refl _,dk,hdk,⟨zb7 HH.out hgw _ _⟩,⟨HF.out.grow hgW _ _⟩⟩
       | false=>
        rw[hev]at hcg
        go_wp2_with fail
        go_quiet_grown (first | (go_at_fn gf; refine Calls.grown_of (hcg _ _)))
        have HHn:Hc (HoldsK enc k (grow (wr.drewN nq) osq) g off dk):=⟨zb7 HH.out hgw nq osq⟩;have HFn:Hc (Frm W (grow (wr.drewN nq) osq) g 64 sz):=⟨HF.out.grow hgW nq osq⟩;have l2:=lj nq osq;clear lj lp hcg;generalize grow (wr.drewN nq) osq=wq2 at HHn HFn l2 ⊢;have hb5:k5*k+k<=dk.size*k:=(by have:=Nat.mul_le_mul_right k (show k5+1<=dk.size by omega); rwa [Nat.add_mul,Nat.one_mul]at this);have s1:Sem.run P (storeCells ⟨g,off+k5*k,none⟩ (enc xj) 0) wq2= .ok () (wq2.setCells g (off+k5*k) (enc xj)):=stores_of_holds P HHn.out (k5*k) _ (by rw[HK.out,size_flatK]; exact hb5) (H1.out _);have k5z:(k5:Int)<(d.size:Int):=(by omega);have hsJ:(enc xj).length =k:=HK.out _;clear hb5;go_wp2
        go_roundg (d.size-(jp+1+(q+1+1)))
        case measure=>omega
        case rel=>exact⟨k5+1,q+1+1,by go_num,by go_num,by omega,by omega,by omega,by omega,Nat.le_refl _,dk.setIfInBounds k5 xj,by simpa using hdk,⟨zvV HK.out HHn.out k5 xj (by omega)⟩,⟨HFn.out.put _ _⟩⟩
      ·have hend:jp+1+k7=d.size:=(by omega);have k5z:(k5:Int)<=(d.size:Int):=(by omega);have hck5: ¬(cap=k5):=(by omega);have k5c:k5<=cap:=(by omega);have hz: ∀n,(Builtin.zeroCells zz.cells n).toList.length =n*k:=fun n=>by simp[Builtin.zeroCells,ZS.out]
       have hcl: ∀ty c,(Builtin.clear_ #[51] ty #[.slice (some ⟨g,off+k5*k,none⟩) (d.size-k5) c]).run P wr= .ok (.tuple #[]) (wr.setCells g (off+k5*k) (Builtin.zeroCells zz.cells (d.size-k5)).toList):=fun ty c=>by
        have hb5: ∀j,j<(d.size-k5)*k->k5*k+j<dk.size*k:=fun j hj=>by
         have:k5*k+(d.size-k5)*k=dk.size*k:=(by rw[<-Nat.add_mul]; congr 1; omega);omega
        refine zup wr _ _ ty zz tS ZV.out g _ _ c (by omega) (ZO.out _) (fun j hj=> ?_) (fun j hj=> ?_)
        ·rw[hz]at hj;rw[Nat.add_assoc,(HH.out (k5*k+j) (by rw[size_flatK]; exact hb5 j hj)).1]; rfl
        ·rw[hz]at hj;rw[Nat.add_assoc]; exact(HH.out (k5*k+j) (by rw[size_flatK]; exact hb5 j hj)).2
       obtain⟨ZL,hZL⟩: ∃ZL,(Builtin.zeroCells zz.cells (d.size-k5)).toList =ZL:=⟨_,rfl⟩;rw[hZL]at hcl;clear hz hZL;go_wp2;go_ret;exact⟨k5,rfl,HF.out.put _ _,.inr ⟨by omega,jp,by omega,HD.out⟩⟩
   ·have:kk=d.size:=(by omega);subst this;go_wp2;go_ret;exact⟨d.size,rfl,HF.out,.inl ⟨rfl,HA.out⟩⟩
set_option maxHeartbeats 8000000 in
theorem zsz{P:Program}(hP:Tryz.prog=P)(enc:α->List Value)(k:Nat)(hk2:k=4)(hk: ∀x,(enc x).length =k)(h1: ∀x,∀v∈enc x,v.oneCell'=true)(ef:α->α->Bool)(gf:Nat)(cb:Array Value)(g off cap sz:Nat)(d:Array α)(W:World)
  (eg: ∀args w,(callFunc gf args).run P w= .ok (.enter gf args) w)
  (hcmp: ∀wr,Frm W wr g 53 sz-> ∀x y:α,Calls P gf (#[.agg (enc x).toArray,.agg (enc y).toArray]++cb) wr fun e w'=>e= .returned (.bool (ef x y))/\ ∃q os',w'=grow (wr.drewN q) os')
  (hH:HoldsK enc k W g off d) (hg: ∃cur,W.heap[g]? =some (.cells cur 53 (0,0))/\cur.size=sz) (hcap:d.size<=cap) (hmx:cap<=9223372036854775807) (hsz:d.size<4611686018427387904):
  Calls P 113 #[.slice (some ⟨g,off,none⟩) d.size cap,.func (.func gf) #[] cb] W (CompQ d ef W g off cap 53 sz):=by
 have F:=Tryz.func113;have zat:=zat;have t0:=Tryz.underlying0; have a0:=Tryz.isAgg0; have z0:=Tryz.sizeOf0; have v0:=Tryz.zeroValue0;have t3:=Tryz.underlying3; have a3:=Tryz.isAgg3; have z3:=Tryz.sizeOf3; have v3:=Tryz.zeroValue3;have t4:=Tryz.underlying4; have a4:=Tryz.isAgg4; have z4:=Tryz.sizeOf4; have v4:=Tryz.zeroValue4;have tS:=Tryz.underlying28; have aS:=Tryz.isAgg28; have zS:=Tryz.sizeOf28; have vS:=Tryz.zeroValue28;have aE:=Tryz.isAgg53; have zE:=Tryz.sizeOf53;have uS:=run_underlying tS;obtain⟨i0,zz,_,hi0,hz0,hzc,_,_,_⟩:=zeT tA28;have hz0v: ∀w,(zeroValue 53).run Tryz.prog w= .ok zz w:=fun w=>by simp[zeroValue,typeInfo,hi0,hz0]
 have hz1: ∀v∈zz.cells.toList,v.oneCell'=true:=by
  have h0:=Tryz.zeroValue53 W;rw[hz0v W]at h0;cases h0;rw[<-List.all_eq_true];kernel_rfl
 have ZV:Hc (∀w,(zeroValue 53).run P w= .ok zz w):=⟨by rw[<-hP]; exact hz0v⟩;have ZS:Hc (zz.cells.size=k):=⟨by rw[hk2]; exact hzc⟩;have ZO:Hc (∀n,∀v∈(Builtin.zeroCells zz.cells n).toList,v.oneCell'=true):=⟨fun n=>zp7 (by rw[hzc]; omega) hz1 n⟩;clear hi0 hz0 hzc hz0v hz1;rw[<-hk2]at zE;rw[hP]at F zat t0 a0 z0 v0 t3 a3 z3 v3 t4 a4 z4 v4 tS aS zS vS aE zE uS;clear hk2;obtain⟨cur,hg1,hg2⟩:=hg;have hgW:g<W.heap.size:=(Array.getElem?_eq_some_iff.1 hg1).1;have F0:Frm W W g 53 sz:=⟨rfl,rfl,rfl,Nat.le_refl _,fun _ _ _=>rfl,cur,hg1,hg2⟩;have HC:Hc (∀wr,Frm W wr g 53 sz-> ∀x y:α,Calls P gf (#[.agg (enc x).toArray,.agg (enc y).toArray]++cb) wr fun e w'=>e= .returned (.bool (ef x y))/\ ∃q os',w'=grow (wr.drewN q) os'):=⟨hcmp⟩;have HK:Hc (∀x,(enc x).length =k):=⟨hk⟩;have H1:Hc (∀x,∀v∈enc x,v.oneCell'=true):=⟨h1⟩;have HF0:Hc (Frm W W g 53 sz):=⟨F0⟩;have HH0:Hc (HoldsK enc k W g off d):=⟨hH⟩;clear hcmp hk h1 F0 hH hg1 hg2;by_cases h2:d.size<2
 ·have h2z:(d.size:Int)<2:=by omega
  go_enter F,Tryz.ntmps113
  go_wp2;go_ret;exact⟨d.size,rfl,HF0.out,.inl ⟨rfl,fun j hj=>by omega⟩⟩
 ·have h2z: ¬(d.size:Int)<2:=by omega
  go_enter F,Tryz.ntmps113
  go_wp2
  go_loopg [5] d.size (fun g1 s5 wr=> ∃kk:Nat,1<=kk/\kk<=d.size/\d.size-kk<=g1/\s5= .int .i64 kk/\Hc (HoldsK enc k wr g off d)/\Hc (Frm W wr g 53 sz)/\Hc (∀j,j+1<kk->ef d[j+1]! d[j]! =false))
  case atStart=>exact⟨1,Nat.le_refl _,by omega,by omega,rfl,HH0,HF0,⟨fun j hj=>by omega⟩⟩
  case round=>
   obtain⟨kk,hk1,hkn,hg1,rfl,HH,HF,HA⟩:=hrel;by_cases hlt:kk<d.size
   ·obtain⟨jp,rfl⟩: ∃jp,kk=jp+1:=⟨kk-1,by omega⟩;obtain⟨xj,hxj⟩: ∃x,d[jp+1]! =x:=⟨_,rfl⟩;obtain⟨xp,hxp⟩: ∃x,d[jp]! =x:=⟨_,rfl⟩;have hwp:IntKind.i64.wrap (jp:Int)=(jp:Int):=(by rw[IntKind.wrap_i64]; omega);have jz:(jp:Int)+1<(d.size:Int):=(by omega);have jz1:(jp:Int)<(d.size:Int):=(by omega);have p0:(0:Int)<=(jp:Int)+1:=(by omega);have e0:((jp:Int)+1).toNat =jp+1:=(by omega);have hgw:g<wr.heap.size:=Nat.lt_of_lt_of_le hgW HF.out.size;have lj: ∀n' os',Sem.run P (loadCellsFrom ⟨g,off+(jp+1)*k,none⟩ 0 k #[]) (grow (wr.drewN n') os')= .ok (enc xj).toArray (grow (wr.drewN n') os'):=fun n' os'=>by
     rw[<-hxj]; exact run_loadCellsFrom_list P _ _ _ k (HK.out _) (HoldsK.cells (zb7 HH.out hgw n' os') HK.out (by omega))
    have lp: ∀n' os',Sem.run P (loadCellsFrom ⟨g,off+jp*k,none⟩ 0 k #[]) (grow (wr.drewN n') os')= .ok (enc xp).toArray (grow (wr.drewN n') os'):=fun n' os'=>by
     rw[<-hxp]; exact run_loadCellsFrom_list P _ _ _ k (HK.out _) (HoldsK.cells (zb7 HH.out hgw n' os') HK.out (by omega))
    have hcg: ∀n' os',Calls P gf (#[.agg (enc xj).toArray,.agg (enc xp).toArray]++cb) (grow (wr.drewN n') os') fun e w'=>e= .returned (.bool (ef xj xp))/\ ∃q os'',w'=grow ((grow (wr.drewN n') os').drewN q) os'':=fun n' os'=>
     HC.out _ (HF.out.grow hgW n' os') xj xp
    have HX:Hc (d[jp+1]! =xj/\d[jp]! =xp):=⟨hxj,hxp⟩;clear hxj hxp;cases hev:ef xj xp with
    | false=>
     rw[hev]at hcg
     go_wp2_with fail
     go_quiet_grown (first | (go_at_fn gf; refine Calls.grown_of (hcg _ _)))
     go_wp2
     go_roundg (d.size-(jp+1+1))
     case measure=>omega
     case rel=>
      refine⟨jp+1+1,by omega,by omega,Nat.le_refl _,by go_num,⟨zb7 HH.out hgw _ _⟩,⟨HF.out.grow hgW _ _⟩,⟨fun j hj=> ?_⟩⟩;by_cases e:j=jp
      ·subst e; rw[HX.out.1,HX.out.2]; exact hev
      ·exact HA.out j (by omega)
    | true=>
     rw[hev]at hcg;have hck: ¬(cap=jp+1):=by omega
     go_wp2_with fail
     go_quiet_grown (first | (go_at_fn gf; refine Calls.grown_of (hcg _ _)))
     go_wp2;have HD:Hc (ef d[jp+1]! d[jp]! =true):=⟨by rw[HX.out.1,HX.out.2]; exact hev⟩;have HH2:=zb7 HH.out hgw nq osq;have HF2:=HF.out.grow hgW nq osq;clear lj lp hcg hev HX HA hgw;generalize grow (wr.drewN nq) osq=wq at HH2 HF2 ⊢;have HH3:Hc (HoldsK enc k wq g off d):=⟨HH2⟩;have HF3:Hc (Frm W wq g 53 sz):=⟨HF2⟩;clear HH2 HF2 HH HF
     go_loopg [5,7] d.size (fun g2 s5 s7 wr=> ∃(k5 k7:Nat),s5= .int .i64 k5/\s7= .int .i64 k7/\1<=k5/\1<=k7/\k5<=jp+k7/\jp+1+k7<=d.size/\d.size-(jp+1+k7)<=g2/\ ∃dk:Array α,dk.size=d.size/\Hc (HoldsK enc k wr g off dk)/\Hc (Frm W wr g 53 sz))
     case atStart=>exact⟨jp+1,1,by go_num,rfl,by omega,Nat.le_refl _,by omega,by omega,by omega,d,rfl,HH3,HF3⟩
     case round=>
      obtain⟨k5,k7,rfl,rfl,h51,h71,h57,hle,hg2,dk,hdk,HH,HF⟩:=hrel;by_cases hlt2:jp+1+k7<d.size
      ·obtain⟨q,rfl⟩: ∃q,k7=q+1:=⟨k7-1,by omega⟩;obtain⟨xj,hxj⟩: ∃x,dk[jp+1+(q+1)]! =x:=⟨_,rfl⟩;obtain⟨xp,hxp⟩: ∃x,dk[jp+1+q]! =x:=⟨_,rfl⟩;have hwq:IntKind.i64.wrap (q:Int)=(q:Int):=(by rw[IntKind.wrap_i64]; omega);have qz:(q:Int)+1<((d.size-(jp+1):Nat):Int):=(by omega);have qz1:(q:Int)<((d.size-(jp+1):Nat):Int):=(by omega);have q0:(0:Int)<=(q:Int)+1:=(by omega);have qe0:((q:Int)+1).toNat =q+1:=(by omega);have hgw:g<wr.heap.size:=Nat.lt_of_lt_of_le hgW HF.out.size;have ea:off+(jp+1)*k+(q+1)*k=off+(jp+1+(q+1))*k:=(by rw[Nat.add_mul (jp+1) (q+1) k]; omega);have eb:off+(jp+1)*k+q*k=off+(jp+1+q)*k:=(by rw[Nat.add_mul (jp+1) q k]; omega);have lj: ∀n' os',Sem.run P (loadCellsFrom ⟨g,off+(jp+1)*k+(q+1)*k,none⟩ 0 k #[]) (grow (wr.drewN n') os')= .ok (enc xj).toArray (grow (wr.drewN n') os'):=fun n' os'=>by
        rw[ea,<-hxj]; exact run_loadCellsFrom_list P _ _ _ k (HK.out _) (HoldsK.cells (zb7 HH.out hgw n' os') HK.out (by omega))
       have lp: ∀n' os',Sem.run P (loadCellsFrom ⟨g,off+(jp+1)*k+q*k,none⟩ 0 k #[]) (grow (wr.drewN n') os')= .ok (enc xp).toArray (grow (wr.drewN n') os'):=fun n' os'=>by
        rw[eb,<-hxp]; exact run_loadCellsFrom_list P _ _ _ k (HK.out _) (HoldsK.cells (zb7 HH.out hgw n' os') HK.out (by omega))
       have hcg: ∀n' os',Calls P gf (#[.agg (enc xj).toArray,.agg (enc xp).toArray]++cb) (grow (wr.drewN n') os') fun e w'=>e= .returned (.bool (ef xj xp))/\ ∃q os'',w'=grow ((grow (wr.drewN n') os').drewN q) os'':=fun n' os'=>
        HC.out _ (HF.out.grow hgW n' os') xj xp
       clear ea eb;cases hev:ef xj xp with
       | true=>
        rw[hev]at hcg
        go_wp2_with fail
        go_quiet_grown (first | (go_at_fn gf; refine Calls.grown_of (hcg _ _)))
        go_wp2
        go_roundg (d.size-(jp+1+(q+1+1)))
        case measure=>omega
        case rel=>exact⟨k5,q+1+1,rfl,by go_num,h51,by omega,by omega,by omega,Nat.le_refl _,dk,hdk,⟨zb7 HH.out hgw _ _⟩,⟨HF.out.grow hgW _ _⟩⟩
       | false=>
        rw[hev]at hcg
        go_wp2_with fail
        go_quiet_grown (first | (go_at_fn gf; refine Calls.grown_of (hcg _ _)))
        have HHn:Hc (HoldsK enc k (grow (wr.drewN nq) osq) g off dk):=⟨zb7 HH.out hgw nq osq⟩;have HFn:Hc (Frm W (grow (wr.drewN nq) osq) g 53 sz):=⟨HF.out.grow hgW nq osq⟩;have l2:=lj nq osq;clear lj lp hcg;generalize grow (wr.drewN nq) osq=wq2 at HHn HFn l2 ⊢;have hb5:k5*k+k<=dk.size*k:=(by have:=Nat.mul_le_mul_right k (show k5+1<=dk.size by omega); rwa [Nat.add_mul,Nat.one_mul]at this);have s1:Sem.run P (storeCells ⟨g,off+k5*k,none⟩ (enc xj) 0) wq2= .ok () (wq2.setCells g (off+k5*k) (enc xj)):=stores_of_holds P HHn.out (k5*k) _ (by rw[HK.out,size_flatK]; exact hb5) (H1.out _);have k5z:(k5:Int)<(d.size:Int):=(by omega);have hsJ:(enc xj).length =k:=HK.out _;clear hb5;go_wp2
        go_roundg (d.size-(jp+1+(q+1+1)))
        case measure=>omega
        case rel=>exact⟨k5+1,q+1+1,by go_num,by go_num,by omega,by omega,by omega,by omega,Nat.le_refl _,dk.setIfInBounds k5 xj,by simpa using hdk,⟨zvV HK.out HHn.out k5 xj (by omega)⟩,⟨HFn.out.put _ _⟩⟩
      ·have hend:jp+1+k7=d.size:=(by omega);have k5z:(k5:Int)<=(d.size:Int):=(by omega);have hck5: ¬(cap=k5):=(by omega);have k5c:k5<=cap:=(by omega);have hz: ∀n,(Builtin.zeroCells zz.cells n).toList.length =n*k:=fun n=>by simp[Builtin.zeroCells,ZS.out]
       have hcl: ∀ty c,(Builtin.clear_ #[28] ty #[.slice (some ⟨g,off+k5*k,none⟩) (d.size-k5) c]).run P wr= .ok (.tuple #[]) (wr.setCells g (off+k5*k) (Builtin.zeroCells zz.cells (d.size-k5)).toList):=fun ty c=>by
        have hb5: ∀j,j<(d.size-k5)*k->k5*k+j<dk.size*k:=fun j hj=>by
         have:k5*k+(d.size-k5)*k=dk.size*k:=(by rw[<-Nat.add_mul]; congr 1; omega);omega
        refine zup wr _ _ ty zz tS ZV.out g _ _ c (by omega) (ZO.out _) (fun j hj=> ?_) (fun j hj=> ?_)
        ·rw[hz]at hj;rw[Nat.add_assoc,(HH.out (k5*k+j) (by rw[size_flatK]; exact hb5 j hj)).1]; rfl
        ·rw[hz]at hj;rw[Nat.add_assoc]; exact(HH.out (k5*k+j) (by rw[size_flatK]; exact hb5 j hj)).2
       obtain⟨ZL,hZL⟩: ∃ZL,(Builtin.zeroCells zz.cells (d.size-k5)).toList =ZL:=⟨_,rfl⟩;rw[hZL]at hcl;clear hz hZL;go_wp2;go_ret;exact⟨k5,rfl,HF.out.put _ _,.inr ⟨by omega,jp,by omega,HD.out⟩⟩
   ·have:kk=d.size:=(by omega);subst this;go_wp2;go_ret;exact⟨d.size,rfl,HF.out,.inl ⟨rfl,HA.out⟩⟩
open Go.Aw Go.Sort Go.RowKit Go.Lib
set_option maxHeartbeats 8000000
theorem zqY{W:World}{F:Nat->Prop}: ∀(m b off:Nat),zbM W F 0 (List.replicate m []) b off
 | 0,_,_=>trivial
 | m+1,b,off=>by
  rw[List.replicate_succ];exact⟨⟨rfl,trivial⟩,zqY m b (off+0)⟩
/-- The memory behind a call that gives up its array and keeps a variable. -/
theorem mem_box{P:Program}{W:World}{F O0:Nat->Prop}{Oi:zbK}{η:Nat->Value}{S:Nat->List Nat}(hm:Mem ⟨P,N0,W,F,O0,[],[],fun _=>undef⟩ Oi W F η S)(hO0: ∀b,O0 b↔ ∃id,b∈S id){W':World}{g:Nat}{e:TypeId}{sz:Nat}{cs:List AV}(h3:Oi 3=some (.box cs))(hcs: ∃ds:List D,cs=ds.map AV.d)
  (hg:g∈S 0) (hf:Frm W W' g e sz):Mem ⟨P,N0,W,F,O0,[],[],fun _=>undef⟩ (om [(3,.box cs)]) W' (fun b=>F b\/b=g) η (fun i=>if i=3 then S 3 else []):=by
 have hgO:O0 g:=(hO0 g).2 ⟨0,hg⟩;obtain⟨hgF,hgW,_⟩:=hm.apart 0 g hg;have hom: ∀id o,om [(3,AO.box cs)] id=some o->id=3/\o= .box cs:=by
  intro id o ho;simp only[om]at ho;split at ho
  ·rename_i h; exact⟨h,(Option.some.inj ho).symm⟩
  ·cases ho
 have hF: ∀b,F b->(F b\/b=g)/\W'.heap[b]? =W.heap[b]? :=fun b hb=>⟨.inl hb,hf.same b (hm.flt b hb) (fun h=>hgF (h▸hb))⟩;have h3g: ∀b∈S 3,b≠g:=fun b hb h=>by
  have:=hm.sep 3 0 b hb (by rw[h]; exact hg);cases this
 refine⟨hf.os,hf.tape,hf.output,hf.size,fun b hb hnb=>hf.same b hb (fun h=>hnb (h▸hgO)),fun b h=>.inl h,?_,?_,?_,?_,?_,?_,?_,by simp,?_,by simp⟩
 ·rintro b (h | h)
  ·exact Nat.lt_of_lt_of_le (hm.flt b h) hf.size
  ·subst h; exact Nat.lt_of_lt_of_le hgW hf.size
 ·rintro b (h | h) _
  ·exact .inl h
  ·subst h; exact .inr hgO
 ·intro id o ho;obtain⟨rfl,rfl⟩:=hom id o ho;obtain⟨b,cur,e',q1,q2,q3,q4⟩:=hm.obj 3 _ h3;obtain⟨ds,rfl⟩:=hcs;refine⟨b,cur,e',q1,by simp only[if_true]; exact q2,?_,?_⟩
  ·rw[hf.same b (Array.getElem?_eq_some_iff.1 q3).1 (h3g b (by rw[q2]; simp))]; exact q3
  ·refine zaN.pres (new:=[]) (O:=om [(3,.box (ds.map AV.d))]) (η:=η) (za7.refl _ _) hF _ _ ?_ ?_
   ·have: ∀ds:List D,AV.noRefs [] (ds.map AV.d):=by
     intro ds
     induction ds with
     | nil=>trivial
     | cons d ds ih=>exact⟨trivial,ih⟩
    exact this ds
   ·have: ∀(ds:List D) (vs:List Value),zaN Oi W F η (ds.map AV.d) vs->zaN (om [(3,.box (ds.map AV.d))]) W F η (ds.map AV.d) vs:=by
     intro ds0 vs;have key: ∀(O:zbK) (ds:List D) (vs:List Value),zaN Oi W F η (ds.map AV.d) vs->zaN O W F η (ds.map AV.d) vs:=by
      intro O ds
      induction ds with
      | nil=>intro vs h; simpa [zaN]using h
      | cons d ds ih=>
       intro vs h;simp only[List.map_cons,zaN]at h ⊢;obtain⟨v,rest,rfl,a,b⟩:=h;exact⟨v,rest,rfl,by simpa only[zaJ]using a,ih _ b⟩
     exact key _ ds0 vs
    exact this ds _ q4
 ·intro id ho;by_cases h:id=3
  ·subst h; simp[om]at ho
  ·simp[h]
 ·intro id b hb;by_cases h:id=3
  ·simp only[h,if_true]at hb;obtain⟨a1,a2,a3⟩:=hm.apart 3 b hb;exact⟨fun hc=>hc.elim a1 (h3g b hb),Nat.lt_of_lt_of_le a2 hf.size,a3⟩
  ·simp[h]at hb
 ·intro id id' b hb hb';by_cases h:id=3
  ·by_cases h':id'=3
   ·rw[h,h']
   ·simp[h']at hb'
  ·simp[h]at hb
 ·intro id;by_cases h:id=3
  ·simp only[h,if_true]; exact hm.nd 3
  ·simp[h]
 ·intro id lim fam stop l rest ho;have:=(hom id _ ho).2;cases this
theorem sameItem_w{P:Program}(hP:Tryz.prog=P)(k:Nat)(hk2:k=35)(ra rb:Array Value)(sa:ra.size=k)(sb:rb.size=k)(c:Int)(bx:Nat)(w:World)(hb:w.cell? ⟨bx,0,none⟩=some (.func (.func 53) #[] #[]))
  (hi: ∀W,Calls P 53 #[.agg ra,.agg rb] W fun e w'=>e= .returned (.int .i64 c)/\ ∃q os',w'=grow (W.drewN q) os'):
  Calls P 109 #[.agg ra,.agg rb,.pointer (some ⟨bx,0,none⟩)] w fun e w'=>e= .returned (.bool (c==0))/\ ∃q os',w'=grow (w.drewN q) os':=by
 have F:=Tryz.func109;have zat:=zat;have t0:=Tryz.underlying0; have a0:=Tryz.isAgg0; have z0:=Tryz.sizeOf0; have v0:=Tryz.zeroValue0;have t3:=Tryz.underlying3; have a3:=Tryz.isAgg3; have z3:=Tryz.sizeOf3; have v3:=Tryz.zeroValue3;have t4:=Tryz.underlying4; have a4:=Tryz.isAgg4; have z4:=Tryz.sizeOf4; have v4:=Tryz.zeroValue4;have aF:=Tryz.isAgg109; have zF:=Tryz.sizeOf109;have aE:=Tryz.isAgg64; have zE:=Tryz.sizeOf64;rw[<-hk2]at zE;have eg:=Tryz.call53;rw[hP]at F zat t0 a0 z0 v0 t3 a3 z3 v3 t4 a4 z4 v4 aE zE aF zF eg;clear hk2;have hb2:((w.alloc (.cells ra 64)).alloc (.cells rb 64)).cell? ⟨bx,0,none⟩=some (.func (.func 53) #[] #[]):=cell?_alloc_some _ (cell?_alloc_some _ hb);have la:Sem.run P (loadCellsFrom ⟨w.heap.size,0,none⟩ 0 k #[]) ((w.alloc (.cells ra 64)).alloc (.cells rb 64))= .ok ra ((w.alloc (.cells ra 64)).alloc (.cells rb 64)):=by
  have h:=run_loadCellsFrom_list P ((w.alloc (.cells ra 64)).alloc (.cells rb 64)) ⟨w.heap.size,0,none⟩ ra.toList k (by rw[Array.length_toList]; exact sa) (fun j v hj=>by
   rw[Addr.add_lit];refine cell?_alloc_some _ ?_;simp only[World.cell?,World.alloc_heap_new,Nat.zero_add];simpa using hj)
  simpa using h
 have lb:Sem.run P (loadCellsFrom ⟨w.heap.size+1,0,none⟩ 0 k #[]) ((w.alloc (.cells ra 64)).alloc (.cells rb 64))= .ok rb ((w.alloc (.cells ra 64)).alloc (.cells rb 64)):=by
  have hh:=World.alloc_heap_new (w.alloc (.cells ra 64)) (.cells rb 64);rw[World.size_alloc]at hh;have h:=run_loadCellsFrom_list P ((w.alloc (.cells ra 64)).alloc (.cells rb 64)) ⟨w.heap.size+1,0,none⟩ rb.toList k (by rw[Array.length_toList]; exact sb) (fun j v hj=>by
   rw[Addr.add_lit];simp only[World.cell?,hh,Nat.zero_add];simpa using hj)
  simpa using h
 clear hb sa sb
 go_enter F,Tryz.ntmps109
 go_wp2_with (go_at_call 53; refine(hi _).mono ?_; rintro e w' ⟨rfl,q,os',rfl⟩)
 go_ret;refine⟨rfl,q,#[.cells ra 64,.cells rb 64]++os',?_⟩;have e1:grow (grow w #[.cells ra 64]) #[.cells rb 64]=grow w #[.cells ra 64,.cells rb 64]:=by rw[grow_grow]; rfl
 rw[alloc_eq_grow,alloc_eq_grow,e1];show grow (grow (w.drewN q) #[.cells ra 64,.cells rb 64]) os'=_;rw[grow_grow]
theorem sameModule_w{P:Program}(hP:Tryz.prog=P)(k:Nat)(hk2:k=4)(ra rb:Array Value)(sa:ra.size=k)(sb:rb.size=k)(c:Int)(bx:Nat)(w:World)(hb:w.cell? ⟨bx,0,none⟩=some (.func (.func 57) #[] #[]))
  (hi: ∀W,Calls P 57 #[.agg ra,.agg rb] W fun e w'=>e= .returned (.int .i64 c)/\ ∃q os',w'=grow (W.drewN q) os'):
  Calls P 114 #[.agg ra,.agg rb,.pointer (some ⟨bx,0,none⟩)] w fun e w'=>e= .returned (.bool (c==0))/\ ∃q os',w'=grow (w.drewN q) os':=by
 have F:=Tryz.func114;have zat:=zat;have t0:=Tryz.underlying0; have a0:=Tryz.isAgg0; have z0:=Tryz.sizeOf0; have v0:=Tryz.zeroValue0;have t3:=Tryz.underlying3; have a3:=Tryz.isAgg3; have z3:=Tryz.sizeOf3; have v3:=Tryz.zeroValue3;have t4:=Tryz.underlying4; have a4:=Tryz.isAgg4; have z4:=Tryz.sizeOf4; have v4:=Tryz.zeroValue4;have aF:=Tryz.isAgg113; have zF:=Tryz.sizeOf113;have aE:=Tryz.isAgg53; have zE:=Tryz.sizeOf53;rw[<-hk2]at zE;have eg:=Tryz.call57;rw[hP]at F zat t0 a0 z0 v0 t3 a3 z3 v3 t4 a4 z4 v4 aE zE aF zF eg;clear hk2;have hb2:((w.alloc (.cells ra 53)).alloc (.cells rb 53)).cell? ⟨bx,0,none⟩=some (.func (.func 57) #[] #[]):=cell?_alloc_some _ (cell?_alloc_some _ hb);have la:Sem.run P (loadCellsFrom ⟨w.heap.size,0,none⟩ 0 k #[]) ((w.alloc (.cells ra 53)).alloc (.cells rb 53))= .ok ra ((w.alloc (.cells ra 53)).alloc (.cells rb 53)):=by
  have h:=run_loadCellsFrom_list P ((w.alloc (.cells ra 53)).alloc (.cells rb 53)) ⟨w.heap.size,0,none⟩ ra.toList k (by rw[Array.length_toList]; exact sa) (fun j v hj=>by
   rw[Addr.add_lit];refine cell?_alloc_some _ ?_;simp only[World.cell?,World.alloc_heap_new,Nat.zero_add];simpa using hj)
  simpa using h
 have lb:Sem.run P (loadCellsFrom ⟨w.heap.size+1,0,none⟩ 0 k #[]) ((w.alloc (.cells ra 53)).alloc (.cells rb 53))= .ok rb ((w.alloc (.cells ra 53)).alloc (.cells rb 53)):=by
  have hh:=World.alloc_heap_new (w.alloc (.cells ra 53)) (.cells rb 53);rw[World.size_alloc]at hh;have h:=run_loadCellsFrom_list P ((w.alloc (.cells ra 53)).alloc (.cells rb 53)) ⟨w.heap.size+1,0,none⟩ rb.toList k (by rw[Array.length_toList]; exact sb) (fun j v hj=>by
   rw[Addr.add_lit];simp only[World.cell?,hh,Nat.zero_add];simpa using hj)
  simpa using h
 clear hb sa sb
 go_enter F,Tryz.ntmps114
 go_wp2_with (go_at_call 57; refine(hi _).mono ?_; rintro e w' ⟨rfl,q,os',rfl⟩)
 go_ret;refine⟨rfl,q,#[.cells ra 53,.cells rb 53]++os',?_⟩;have e1:grow (grow w #[.cells ra 53]) #[.cells rb 53]=grow w #[.cells ra 53,.cells rb 53]:=by rw[grow_grow]; rfl
 rw[alloc_eq_grow,alloc_eq_grow,e1];show grow (grow (w.drewN q) #[.cells ra 53,.cells rb 53]) os'=_;rw[grow_grow]
def zrO(f:Nat):AO:=.box [.d (.clo (.func f) [] [])]
theorem item_x{W:World}{F:Nat->Prop}(x y:Item)(ra rb:List Value)(h1:zav W F (zaK x) ra)(h2:zav W F (zaK y) rb)(w:World):Calls Tryz.prog 53 #[.agg ra.toArray,.agg rb.toArray] w fun e w'=>e= .returned (.int .i64 (cmpP (zbo x) (zbo y)))/\ ∃q os',w'=grow (w.drewN q) os':=by
 have l1:=zav.length _ _ h1;have l2:=zav.length _ _ h2;have e35: ∀x:Item,(zaK x).length =35:=fun x=>by simp[zaK,zgY,zca,zim]
 rw[e35]at l1 l2;have g: ∀(x:Item) (r:List Value),zav W F (zaK x) r->r[0]? =some (.int .i64 x.kind.1)/\r[1]? =some (.string x.name.1):=fun x r h=>by
  unfold zaK at h;simp only[eI,eS,zav,Aw.Rd]at h;obtain⟨v,r1,rfl,rfl,v2,r2,rfl,rfl,_⟩:=h;exact⟨rfl,rfl⟩
 obtain⟨p1,p2⟩:=g x ra h1;obtain⟨q1,q2⟩:=g y rb h2;exact item_w ra.toArray rb.toArray (by simpa using l1) (by simpa using l2) x.kind.1 y.kind.1 x.name.1 y.name.1 (by simpa using p1) (by simpa using p2) (by simpa using q1) (by simpa using q2) w
theorem module_x{W:World}{F:Nat->Prop}(x y:Module)(ra rb:List Value)(h1:zav W F (zaC x) ra)(h2:zav W F (zaC y) rb)(w:World):Calls Tryz.prog 57 #[.agg ra.toArray,.agg rb.toArray] w fun e w'=>e= .returned (.int .i64 (cmpN x.name y.name))/\ ∃q os',w'=grow (w.drewN q) os':=by
 have l1:=zav.length _ _ h1;have l2:=zav.length _ _ h2;have g: ∀(x:Module) (r:List Value),zav W F (zaC x) r->r[0]? =some (.string x.name.1):=fun x r h=>by
  unfold zaC at h;simp only[eS,zav,Aw.Rd]at h;obtain⟨v,r1,rfl,rfl,_⟩:=h;rfl
 exact name_w ra.toArray rb.toArray (by simpa [zaC]using l1) (by simpa [zaC]using l2) x.name.1 y.name.1 (by simpa using g x ra h1) (by simpa using g y rb h2) w
def compQItem(l:List Item)(V:AV)(ol:OL)(new:List Nat):Prop:=
 ∃m,V= .d (.sl (List.replicate m []))/\ol=[(3,zrO 53)]/\new=[]/\((m=l.length/\ ∀i (h:i+1<l.length),zbo l[i+1]≠zbo l[i])\/(m<l.length/\ ∃i,∃h:i+1<l.length,zbo l[i+1]=zbo l[i]))
theorem zpe(ad:Option Addr)(cap:Nat)(v:Value)(W:World):Calls Tryz.prog 108 #[.slice ad 0 cap,v] W fun e w'=>e= .returned (.slice ad 0 cap)/\w'=W:=by
 go_enter Tryz.func108,Tryz.ntmps108
 go_wp2;go_ret;exact⟨rfl,rfl⟩
theorem zw0(l:List Item)(hl:l.length<4611686018427387904):FnL Tryz.prog 108 [.ar 0 l.length,.clo (.func 109) [] [.bp 3 0]] [(0,.arr 64 35 .flat (l.map zaK)),(3,zrO 53)] (compQItem l):=by
 refine⟨fun W bs=>Tryz.call108 bs W,?_⟩;intro W F O0 η S vs hm hO0 hr;simp only[zaN,zaJ]at hr;obtain⟨v0,_,rfl,hv0,v1,_,rfl,⟨fs,cbs,rfl,rfl,vb,_,rfl,hvb,rfl⟩,rfl⟩:=hr;have e0:v0=η 0:=(hv0 64 35 .flat (l.map zaK) (by simp[om])).2 (by simp);obtain⟨bx,q1,q2⟩:=hvb [.d (.clo (.func 53) [] [])] (by simp[om,zrO]);obtain⟨b',curb,eb,r1,r2,r3,r4⟩:=hm.obj 3 (zrO 53) (by simp[om]);rw[q1]at r1;simp only[Value.pointer.injEq,Option.some.injEq,Addr.mk.injEq,and_true]at r1;subst r1;have hbx:W.cell? ⟨bx,0,none⟩=some (.func (.func 53) #[] #[]):=by
  simp only[zaN,zaJ,Aw.Rd,zav]at r4;obtain⟨u,rest,e1,⟨a,b,rfl,rfl,rfl⟩,rfl⟩:=r4;simp only[World.cell?,r3];have:curb=#[.func (.func 53) #[] #[]]:=by apply Array.ext'; simpa using e1
  subst this;rfl
 have hbW:bx<W.heap.size:=(Array.getElem?_eq_some_iff.1 r3).1;obtain⟨_,hkk,hcase⟩:=hm.obj 0 (.arr 64 35 .flat (l.map zaK)) (by simp[om]);subst e0 q2;have fin: ∀(g:Nat) (hg:g∈S 0) (W':World) (sz:Nat) (m cap:Nat) (_:m<=cap) (_:cap<=maxLen),Frm W W' g 64 sz->((m=l.length/\ ∀i (h:i+1<l.length),zbo l[i+1]≠zbo l[i])\/(m<l.length/\ ∃i,∃h:i+1<l.length,zbo l[i+1]=zbo l[i]))->
   ∃v V Oo new F' η' S',Ending.returned (.slice (some ⟨g,0,none⟩) m cap)= .returned v/\(∃ol,Oo=om ol/\compQItem l V ol new)/\(∀i∈new,∀lim fam stop l rest,Oo i≠some (.ext lim fam stop l rest))/\
    Mem ⟨Tryz.prog,N0,W,F,O0,[],[],fun _=>undef⟩ Oo W' F' η' S'/\zaJ Oo W' F' η' V v/\za7 (om [(0,.arr 64 35 .flat (l.map zaK)),(3,zrO 53)]) Oo η η' new:=by
  intro g hg W' sz m cap hmc hcx hfr hd;refine⟨_,.d (.sl (List.replicate m [])),_,[],_,η,_,rfl,⟨_,rfl,m,rfl,rfl,rfl,hd⟩,by simp,mem_box (cs:=[.d (.clo (.func 53) [] [])]) hm hO0 (by simp[om,zrO]) ⟨[_],rfl⟩ hg hfr,?_,?_⟩
  ·simp only[zaJ,Aw.Rd,List.length_replicate];exact⟨⟨_,cap,rfl,hmc,fun _=>⟨g,0,0,rfl,.inr rfl,zqY m g 0⟩⟩,Nat.le_trans hmc hcx⟩
  ·intro id o' ho;simp only[om]at ho;split at ho
   ·rename_i h3;subst h3;cases ho;exact .inr ⟨_,by simp only[om,zrO]; rfl,rfl⟩
   ·cases ho
 rcases hcase with⟨⟨ad,hv⟩,hes,hS⟩ | ⟨g,cap,cur,s1,hv,hg,hle,hcap,hcur,hs,hC⟩
 ·have hl0:l=[]:=List.map_eq_nil_iff.1 hes;subst hl0;rw[hv];refine(zpe ad 0 _ W).mono ?_;rintro e W' ⟨rfl,rfl⟩;obtain⟨m1,_⟩:=hm.dropL (W':=W') (F':=fun b=>F b\/ ∃id∈[0],b∈S id) [0] (Below.refl _ _) (fun b hb=>.inl hb) (fun b hb=>by
    rcases hb with hb | hb
    ·exact .inl hb
    ·exact .inr (.inr hb))
  have hd:drop (om [(0,AO.arr 64 35 .flat ([].map zaK)),(3,zrO 53)]) [0]=om [(3,zrO 53)]:=by
   funext id;simp only[drop,om,List.mem_singleton];by_cases h0:id=0
   ·subst h0; simp
   ·simp[h0]
  rw[hd]at m1;refine⟨_,.d (.sl (List.replicate 0 [])),_,[],_,η,_,rfl,⟨_,rfl,0,rfl,rfl,rfl,.inl ⟨rfl,fun i h=>by simp at h⟩⟩,by simp,m1,?_,?_⟩
  ·simp only[zaJ,Aw.Rd,List.length_replicate];exact⟨⟨ad,0,rfl,Nat.le_refl _,fun h=>absurd rfl h⟩,Nat.zero_le _⟩
  ·intro id o' ho;simp only[om]at ho;split at ho
   ·rename_i h3;subst h3;cases ho;exact .inr ⟨_,by simp only[om,zrO]; rfl,rfl⟩
   ·cases ho
 ·obtain⟨hC2,rfl⟩:=(zu3 _ _ _).1 hC;obtain⟨rows,er,hcells,hrow⟩:=zlH zaK l _ hC2;rw[List.length_map]at hv hcells hle;rw[hv];have hgS:g∈S 0:=by rw[hs]; simp
  have hbg:bx≠g:=fun h=>by
   have:=hm.sep 3 0 bx (by rw[r2]; simp) (by rw[h]; exact hgS);cases this
  by_cases hl0:l=[]
  ·subst hl0;refine(zpe (some ⟨g,0,none⟩) cap _ W).mono ?_;rintro e W' ⟨rfl,rfl⟩;exact fin g hgS W' (cap*35) 0 cap (Nat.zero_le _) hcap ⟨rfl,rfl,rfl,Nat.le_refl _,fun _ _ _=>rfl,cur,hg,hcur⟩ (.inl ⟨rfl,fun i h=>by simp at h⟩)
  have hn:0<l.length:=List.length_pos_iff.2 hl0;have:Inhabited (Fin l.length):=⟨⟨0,hn⟩⟩;obtain⟨enc,henc⟩: ∃enc:Fin l.length->List Value,∀i,enc i=rows[i.1]'(by omega):=⟨fun i=>rows[i.1]'(by omega),fun _=>rfl⟩;have hrd: ∀i:Fin l.length,zav W F (zaK l[i.1]) (enc i):=fun i=>by rw[henc]; exact hrow i.1 i.2 (by omega)
  have hlen: ∀x:Item,(zaK x).length =35:=fun x=>by simp[zaK,zgY,zca,zim]
  have hek: ∀i,(enc i).length =35:=fun i=>by rw[zav.length _ _ (hrd i),hlen]
  have he1: ∀i,∀v∈enc i,v.oneCell'=true:=fun i=>zhm _ _ (hrd i) (eItem_1 _);obtain⟨d,hd⟩: ∃d:Array (Fin l.length),d=(List.finRange l.length).toArray :=⟨_,rfl⟩;have hdl:d.toList=List.finRange l.length:=by rw[hd]
  have hdz:d.size=l.length:=by rw[hd]; simp
  have hda: ∀j (h:j<l.length),d[j]! =⟨j,h⟩:=fun j h=>by
   rw[getElem!_pos d j (by omega)];simp[hd]
  have hfm:d.toList.flatMap enc=rows.flatten:=by
   rw[hdl,List.flatMap];congr 1;apply List.ext_getElem (by simp[er]);intro i h1 h2;simp[henc]
  have hsz:(flatK enc 35 d).size =l.length*35:=by simp[hdz]
  have hcur':l.length*35<=cur.size:=by rw[hcur]; exact Nat.mul_le_mul_right _ hle
  have hH:HoldsK enc 35 W g 0 d:=by
   intro j hj;rw[hsz]at hj;have hjc:j<cur.size:=by omega
   have e2:cur[j]? =(flatK enc 35 d)[j]? :=by
    have h1:=congrArg (fun x=>x[j]?) hcells;rw[<-hfm,<-zjI enc 35 (by omega) hek]at h1;simp only[List.getElem?_take,hj,if_true,Array.getElem?_toList]at h1;exact h1
   refine⟨?_,by simp[World.frozen?,hg]⟩;simp only[World.cell?,hg,Nat.zero_add];have:(flatK enc 35 d)[j]! =(flatK enc 35 d)[j]'(by rw[hsz]; exact hj):=getElem!_pos _ j (by rw[hsz]; exact hj);simp only[id,this];rw[show(({block:=g,off:=j,spot:=none}:Addr).spot.isSome)=false from rfl];simp only[Bool.false_eq_true,if_false,e2];rw[Array.getElem?_eq_getElem]
  have hcw:=zw1 (P:=Tryz.prog) rfl enc 35 rfl hek he1 (fun a b=>cmpP (zbo l[a.1]) (zbo l[b.1])==0) 109 #[.pointer (some ⟨bx,0,none⟩)] g 0 cap (cap*35) d W (fun bs w=>Tryz.call109 bs w)
   (fun wr hfr x y=>by
    have hb2:wr.cell? ⟨bx,0,none⟩=some (.func (.func 53) #[] #[]):=by
     rw[<-hbx];simp only[World.cell?,hfr.same bx hbW hbg]
    refine sameItem_w (P:=Tryz.prog) rfl 35 rfl (enc x).toArray (enc y).toArray (by simpa using hek x) (by simpa using hek y) _ bx wr hb2 (fun w=> ?_);exact item_x l[x.1] l[y.1] (enc x) (enc y) (hrd x) (hrd y) w) hH ⟨cur,hg,hcur⟩ (by omega) hcap (by omega)
  rw[hdz]at hcw;refine hcw.mono ?_;rintro e' W' ⟨m,rfl,hfr,hd2⟩;rw[hdz]at hd2;have hkey: ∀j (h:j+1<l.length),((fun a b:Fin l.length=>cmpP (zbo l[a.1]) (zbo l[b.1])==0) d[j+1]! d[j]! =true)↔zbo l[j+1]=zbo l[j]:=fun j h=>by
   rw[hda (j+1) h,hda j (by omega)];simp only[beq_iff_eq];exact cmpP_zero _ _
  refine fin g hgS W' _ m cap ?_ hcap hfr ?_
  ·rcases hd2 with⟨h,_⟩ | ⟨h,_⟩ <;> omega
  ·rcases hd2 with⟨h,h'⟩ | ⟨h,j,hj,h'⟩
   ·refine .inl ⟨h,fun j hj hc=> ?_⟩;have:=h' j hj;rw[(hkey j hj).2 hc]at this;cases this
   ·exact .inr ⟨h,j,hj,(hkey j hj).1 h'⟩
def zsx(l:List Module)(V:AV)(ol:OL)(new:List Nat):Prop:=
 ∃m,V= .d (.sl (List.replicate m []))/\ol=[(3,zrO 57)]/\new=[]/\((m=l.length/\ ∀i (h:i+1<l.length),Module.name l[i+1]≠Module.name l[i])\/(m<l.length/\ ∃i,∃h:i+1<l.length,Module.name l[i+1]=Module.name l[i]))
theorem zml(ad:Option Addr)(cap:Nat)(v:Value)(W:World):Calls Tryz.prog 113 #[.slice ad 0 cap,v] W fun e w'=>e= .returned (.slice ad 0 cap)/\w'=W:=by
 go_enter Tryz.func113,Tryz.ntmps113
 go_wp2;go_ret;exact⟨rfl,rfl⟩
theorem zsy(l:List Module)(hl:l.length<4611686018427387904):FnL Tryz.prog 113 [.ar 0 l.length,.clo (.func 114) [] [.bp 3 0]] [(0,.arr 53 4 .flat (l.map zaC)),(3,zrO 57)] (zsx l):=by
 refine⟨fun W bs=>Tryz.call113 bs W,?_⟩;intro W F O0 η S vs hm hO0 hr;simp only[zaN,zaJ]at hr;obtain⟨v0,_,rfl,hv0,v1,_,rfl,⟨fs,cbs,rfl,rfl,vb,_,rfl,hvb,rfl⟩,rfl⟩:=hr;have e0:v0=η 0:=(hv0 53 4 .flat (l.map zaC) (by simp[om])).2 (by simp);obtain⟨bx,q1,q2⟩:=hvb [.d (.clo (.func 57) [] [])] (by simp[om,zrO]);obtain⟨b',curb,eb,r1,r2,r3,r4⟩:=hm.obj 3 (zrO 57) (by simp[om]);rw[q1]at r1;simp only[Value.pointer.injEq,Option.some.injEq,Addr.mk.injEq,and_true]at r1;subst r1;have hbx:W.cell? ⟨bx,0,none⟩=some (.func (.func 57) #[] #[]):=by
  simp only[zaN,zaJ,Aw.Rd,zav]at r4;obtain⟨u,rest,e1,⟨a,b,rfl,rfl,rfl⟩,rfl⟩:=r4;simp only[World.cell?,r3];have:curb=#[.func (.func 57) #[] #[]]:=by apply Array.ext'; simpa using e1
  subst this;rfl
 have hbW:bx<W.heap.size:=(Array.getElem?_eq_some_iff.1 r3).1;obtain⟨_,hkk,hcase⟩:=hm.obj 0 (.arr 53 4 .flat (l.map zaC)) (by simp[om]);subst e0 q2;have fin: ∀(g:Nat) (hg:g∈S 0) (W':World) (sz:Nat) (m cap:Nat) (_:m<=cap) (_:cap<=maxLen),Frm W W' g 53 sz->((m=l.length/\ ∀i (h:i+1<l.length),Module.name l[i+1]≠Module.name l[i])\/(m<l.length/\ ∃i,∃h:i+1<l.length,Module.name l[i+1]=Module.name l[i]))->
   ∃v V Oo new F' η' S',Ending.returned (.slice (some ⟨g,0,none⟩) m cap)= .returned v/\(∃ol,Oo=om ol/\zsx l V ol new)/\(∀i∈new,∀lim fam stop l rest,Oo i≠some (.ext lim fam stop l rest))/\
    Mem ⟨Tryz.prog,N0,W,F,O0,[],[],fun _=>undef⟩ Oo W' F' η' S'/\zaJ Oo W' F' η' V v/\za7 (om [(0,.arr 53 4 .flat (l.map zaC)),(3,zrO 57)]) Oo η η' new:=by
  intro g hg W' sz m cap hmc hcx hfr hd;refine⟨_,.d (.sl (List.replicate m [])),_,[],_,η,_,rfl,⟨_,rfl,m,rfl,rfl,rfl,hd⟩,by simp,mem_box (cs:=[.d (.clo (.func 57) [] [])]) hm hO0 (by simp[om,zrO]) ⟨[_],rfl⟩ hg hfr,?_,?_⟩
  ·simp only[zaJ,Aw.Rd,List.length_replicate];exact⟨⟨_,cap,rfl,hmc,fun _=>⟨g,0,0,rfl,.inr rfl,zqY m g 0⟩⟩,Nat.le_trans hmc hcx⟩
  ·intro id o' ho;simp only[om]at ho;split at ho
   ·rename_i h3;subst h3;cases ho;exact .inr ⟨_,by simp only[om,zrO]; rfl,rfl⟩
   ·cases ho
 rcases hcase with⟨⟨ad,hv⟩,hes,hS⟩ | ⟨g,cap,cur,s1,hv,hg,hle,hcap,hcur,hs,hC⟩
 ·have hl0:l=[]:=List.map_eq_nil_iff.1 hes;subst hl0;rw[hv];refine(zml ad 0 _ W).mono ?_;rintro e W' ⟨rfl,rfl⟩;obtain⟨m1,_⟩:=hm.dropL (W':=W') (F':=fun b=>F b\/ ∃id∈[0],b∈S id) [0] (Below.refl _ _) (fun b hb=>.inl hb) (fun b hb=>by
    rcases hb with hb | hb
    ·exact .inl hb
    ·exact .inr (.inr hb))
  have hd:drop (om [(0,AO.arr 53 4 .flat ([].map zaC)),(3,zrO 57)]) [0]=om [(3,zrO 57)]:=by
   funext id;simp only[drop,om,List.mem_singleton];by_cases h0:id=0
   ·subst h0; simp
   ·simp[h0]
  rw[hd]at m1;refine⟨_,.d (.sl (List.replicate 0 [])),_,[],_,η,_,rfl,⟨_,rfl,0,rfl,rfl,rfl,.inl ⟨rfl,fun i h=>by simp at h⟩⟩,by simp,m1,?_,?_⟩
  ·simp only[zaJ,Aw.Rd,List.length_replicate];exact⟨⟨ad,0,rfl,Nat.le_refl _,fun h=>absurd rfl h⟩,Nat.zero_le _⟩
  ·intro id o' ho;simp only[om]at ho;split at ho
   ·rename_i h3;subst h3;cases ho;exact .inr ⟨_,by simp only[om,zrO]; rfl,rfl⟩
   ·cases ho
 ·obtain⟨hC2,rfl⟩:=(zu3 _ _ _).1 hC;obtain⟨rows,er,hcells,hrow⟩:=zlH zaC l _ hC2;rw[List.length_map]at hv hcells hle;rw[hv];have hgS:g∈S 0:=by rw[hs]; simp
  have hbg:bx≠g:=fun h=>by
   have:=hm.sep 3 0 bx (by rw[r2]; simp) (by rw[h]; exact hgS);cases this
  by_cases hl0:l=[]
  ·subst hl0;refine(zml (some ⟨g,0,none⟩) cap _ W).mono ?_;rintro e W' ⟨rfl,rfl⟩;exact fin g hgS W' (cap*4) 0 cap (Nat.zero_le _) hcap ⟨rfl,rfl,rfl,Nat.le_refl _,fun _ _ _=>rfl,cur,hg,hcur⟩ (.inl ⟨rfl,fun i h=>by simp at h⟩)
  have hn:0<l.length:=List.length_pos_iff.2 hl0;have:Inhabited (Fin l.length):=⟨⟨0,hn⟩⟩;obtain⟨enc,henc⟩: ∃enc:Fin l.length->List Value,∀i,enc i=rows[i.1]'(by omega):=⟨fun i=>rows[i.1]'(by omega),fun _=>rfl⟩;have hrd: ∀i:Fin l.length,zav W F (zaC l[i.1]) (enc i):=fun i=>by rw[henc]; exact hrow i.1 i.2 (by omega)
  have hlen: ∀x:Module,(zaC x).length =4:=fun x=>rfl;have hek: ∀i,(enc i).length =4:=fun i=>by rw[zav.length _ _ (hrd i),hlen]
  have he1: ∀i,∀v∈enc i,v.oneCell'=true:=fun i=>zhm _ _ (hrd i) (eModule_1 _);obtain⟨d,hd⟩: ∃d:Array (Fin l.length),d=(List.finRange l.length).toArray :=⟨_,rfl⟩;have hdl:d.toList=List.finRange l.length:=by rw[hd]
  have hdz:d.size=l.length:=by rw[hd]; simp
  have hda: ∀j (h:j<l.length),d[j]! =⟨j,h⟩:=fun j h=>by
   rw[getElem!_pos d j (by omega)];simp[hd]
  have hfm:d.toList.flatMap enc=rows.flatten:=by
   rw[hdl,List.flatMap];congr 1;apply List.ext_getElem (by simp[er]);intro i h1 h2;simp[henc]
  have hsz:(flatK enc 4 d).size =l.length*4:=by simp[hdz]
  have hcur':l.length*4<=cur.size:=by rw[hcur]; exact Nat.mul_le_mul_right _ hle
  have hH:HoldsK enc 4 W g 0 d:=by
   intro j hj;rw[hsz]at hj;have hjc:j<cur.size:=by omega
   have e2:cur[j]? =(flatK enc 4 d)[j]? :=by
    have h1:=congrArg (fun x=>x[j]?) hcells;rw[<-hfm,<-zjI enc 4 (by omega) hek]at h1;simp only[List.getElem?_take,hj,if_true,Array.getElem?_toList]at h1;exact h1
   refine⟨?_,by simp[World.frozen?,hg]⟩;simp only[World.cell?,hg,Nat.zero_add];have:(flatK enc 4 d)[j]! =(flatK enc 4 d)[j]'(by rw[hsz]; exact hj):=getElem!_pos _ j (by rw[hsz]; exact hj);simp only[id,this];rw[show(({block:=g,off:=j,spot:=none}:Addr).spot.isSome)=false from rfl];simp only[Bool.false_eq_true,if_false,e2];rw[Array.getElem?_eq_getElem]
  have hcw:=zsz (P:=Tryz.prog) rfl enc 4 rfl hek he1 (fun a b=>cmpN l[a.1].name l[b.1].name ==0) 114 #[.pointer (some ⟨bx,0,none⟩)] g 0 cap (cap*4) d W (fun bs w=>Tryz.call114 bs w)
   (fun wr hfr x y=>by
    have hb2:wr.cell? ⟨bx,0,none⟩=some (.func (.func 57) #[] #[]):=by
     rw[<-hbx];simp only[World.cell?,hfr.same bx hbW hbg]
    refine sameModule_w (P:=Tryz.prog) rfl 4 rfl (enc x).toArray (enc y).toArray (by simpa using hek x) (by simpa using hek y) _ bx wr hb2 (fun w=> ?_);exact module_x l[x.1] l[y.1] (enc x) (enc y) (hrd x) (hrd y) w) hH ⟨cur,hg,hcur⟩ (by omega) hcap (by omega)
  rw[hdz]at hcw;refine hcw.mono ?_;rintro e' W' ⟨m,rfl,hfr,hd2⟩;rw[hdz]at hd2;have hkey: ∀j (h:j+1<l.length),((fun a b:Fin l.length=>cmpN l[a.1].name l[b.1].name ==0) d[j+1]! d[j]! =true)↔Module.name l[j+1]=Module.name l[j]:=fun j h=>by
   rw[hda (j+1) h,hda j (by omega)];simp only[beq_iff_eq];exact zpd _ _
  refine fin g hgS W' _ m cap ?_ hcap hfr ?_
  ·rcases hd2 with⟨h,_⟩ | ⟨h,_⟩ <;> omega
  ·rcases hd2 with⟨h,h'⟩ | ⟨h,j,hj,h'⟩
   ·refine .inl ⟨h,fun j hj hc=> ?_⟩;have:=h' j hj;rw[(hkey j hj).2 hc]at this;cases this
   ·exact .inr ⟨h,j,hj,(hkey j hj).1 h'⟩
set_option maxRecDepth 100000
set_option maxHeartbeats 40000000
theorem adj_nodup{α κ:Type}{lt:κ->κ->Bool}{key:α->κ}(o:TOrd lt){l l':List α}(hp:l.Perm l')(hs:l'.Pairwise fun x y=>lt (key y) (key x)=false):(∀i (h:i+1<l'.length),key l'[i+1]≠key l'[i])↔(l.map key).Nodup :=by
 rw[(hp.map key).nodup_iff];constructor
 ·intro h;rw[List.nodup_iff_pairwise_ne,List.pairwise_iff_getElem];intro i j hi hj hij e;rw[List.length_map]at hi hj;simp only[List.getElem_map]at e;have hp':=List.pairwise_iff_getElem.1 hs;by_cases hj1:j=i+1
  ·subst hj1; exact h i hj e.symm
  ·have h1:=hp' i (i+1) hi (by omega) (by omega);have h2:=hp' (i+1) j (by omega) hj (by omega);rw[<-e]at h2;exact h i (by omega) (o.conn _ _ h1 h2)
 ·intro h i hi e;rw[List.nodup_iff_pairwise_ne,List.pairwise_iff_getElem]at h;have:=h i (i+1) (by rw[List.length_map]; omega) (by rw[List.length_map]; omega) (by omega);simp only[List.getElem_map]at this;exact this e.symm
theorem uniqueItem_g(l:List Item)(hl:l.length<=4000000):FnP Tryz.prog 52 [.sl (l.map zaK),.clo (.func 53) [] []] (.d (eB (decide (l.map zbo).Nodup))) []:=by
 refine FnP.of_eC (own:=[]) (fun i=>if i=2001 then [.flt ⟨[(0,none),(1,none),(2,none),(3,some []),(4,none)]⟩ ⟨[],[]⟩]else []) zat Tryz.func52 rfl Tryz.call52 Tryz.ntmps52 (Nat.le_of_ble_eq_true rfl) Tryz.results52 (fun hok=> ?_);have vc:=valuesItem_c l;simp(maxSteps:=4000000) only[ZE,↓reduceIte,pE,pL,pA,pS,pM,pD,zN,qT,qG,qL,qH,qN,qB,qE,qO,qA,qM];refine⟨by kernel_rfl,zay.i vc ?_⟩;simp(maxSteps:=4000000) only[ZE,↓reduceIte,pE,pL,pA,pS,pM,pD,zN,qT,qG,qL,qH,qN,qB,qE,qO,qA,qM];refine EFn.gV [(90,90)] (sortedItem_c l hl) ?_ ?_
 ·simp(maxSteps:=4000000) only[ZE,↓reduceIte,pE,pL,pA,pS,pM,pD]
 rintro V ol new ⟨rfl,⟨l',hp,hs,rfl⟩,rfl⟩;have hn:=adj_nodup zxL hp (hs.imp fun{a b} h=>not_cmpP h);have hll:l'.length=l.length:=hp.length_eq.symm;have cc:=zw0 l' (by omega);rw[hll]at cc;simp only[zrO]at cc;simp(maxSteps:=4000000) only[ZE,↓reduceIte,pE,pL,pA,pS,pM,pD,zN,qT,qG,qL,qH,qN,qB,qE,qO,qA,qM];refine EFn.gV [(0,90),(3,3)] cc ?_ ?_
 ·simp(maxSteps:=4000000) only[ZE,↓reduceIte,pE,pL,pA,pS,pM,pD]
 rintro V ol new ⟨m,rfl,rfl,rfl,hd⟩;have hd2:((m:Int)==(l.length:Int))=decide (l.map zbo).Nodup :=by
  rw[Bool.eq_iff_iff,beq_iff_eq,decide_eq_true_eq,<-hn];rcases hd with⟨h,h'⟩ | ⟨h,i,hi,h'⟩
  ·exact⟨fun _=>h',fun _=>by omega⟩
  ·exact⟨fun e=>by omega,fun h2=>absurd h' (h2 i hi)⟩
 simp only[zrO];simp(maxSteps:=4000000) only[ZE,↓reduceIte,pE,pL,pA,pS,pM,pD,zN,qT,qG,qL,qH,qN,qB,qE,qO,qA,qM,List.length_replicate,List.length_map,hd2]
theorem zvx(l:List Module)(hl:l.length<=4000000):FnP Tryz.prog 56 [.sl (l.map zaC),.clo (.func 57) [] []] (.d (eB (decide (l.map Module.name).Nodup))) []:=by
 refine FnP.of_eC (own:=[]) (fun i=>if i=2001 then [.flt ⟨[(0,none),(1,none),(2,none),(3,some []),(4,none)]⟩ ⟨[],[]⟩]else []) zat Tryz.func56 rfl Tryz.call56 Tryz.ntmps56 (Nat.le_of_ble_eq_true rfl) Tryz.results56 (fun hok=> ?_);have vc:=zvy l;simp(maxSteps:=4000000) only[ZE,↓reduceIte,pE,pL,pA,pS,pM,pD,zN,qT,qG,qL,qH,qN,qB,qE,qO,qA,qM];refine⟨by kernel_rfl,zay.i vc ?_⟩;simp(maxSteps:=4000000) only[ZE,↓reduceIte,pE,pL,pA,pS,pM,pD,zN,qT,qG,qL,qH,qN,qB,qE,qO,qA,qM];refine EFn.gV [(90,90)] (zvw l hl) ?_ ?_
 ·simp(maxSteps:=4000000) only[ZE,↓reduceIte,pE,pL,pA,pS,pM,pD]
 rintro V ol new ⟨rfl,⟨l',hp,hs,rfl⟩,rfl⟩;have hn:=adj_nodup zu2 hp (hs.imp fun{a b} h=>not_cmpN h);have hll:l'.length=l.length:=hp.length_eq.symm;have cc:=zsy l' (by omega);rw[hll]at cc;simp only[zrO]at cc;simp(maxSteps:=4000000) only[ZE,↓reduceIte,pE,pL,pA,pS,pM,pD,zN,qT,qG,qL,qH,qN,qB,qE,qO,qA,qM];refine EFn.gV [(0,90),(3,3)] cc ?_ ?_
 ·simp(maxSteps:=4000000) only[ZE,↓reduceIte,pE,pL,pA,pS,pM,pD]
 rintro V ol new ⟨m,rfl,rfl,rfl,hd⟩;have hd2:((m:Int)==(l.length:Int))=decide (l.map Module.name).Nodup :=by
  rw[Bool.eq_iff_iff,beq_iff_eq,decide_eq_true_eq,<-hn];rcases hd with⟨h,h'⟩ | ⟨h,i,hi,h'⟩
  ·exact⟨fun _=>h',fun _=>by omega⟩
  ·exact⟨fun e=>by omega,fun h2=>absurd h' (h2 i hi)⟩
 simp only[zrO];simp(maxSteps:=4000000) only[ZE,↓reduceIte,pE,pL,pA,pS,pM,pD,zN,qT,qG,qL,qH,qN,qB,qE,qO,qA,qM,List.length_replicate,List.length_map,hd2]
theorem zit(f:List Module)(hl:f.length<=4000000)(hi: ∀m∈f,m.items.length<=4000000):FnP Tryz.prog 17 [.agg [zaz f]] (.d (eB (zgo f))) []:=by
 refine FnP.of_eC (own:=[]) (fun _=>[]) zat Tryz.func17 rfl Tryz.call17 Tryz.ntmps17 (Nat.le_of_ble_eq_true rfl) Tryz.results17 (fun hok=> ?_);have uc:=zvx f hl;simp only[ZE,↓reduceIte,pE,pL,pA,pS,pM,pD,zN,qT,qG,qL,qH,qN,qB,qE,qO,qA,qM];refine za2 (fun _=>[]) zat f.length (fun i=> ∀j (_:j<i) (h:j<f.length),(f[j].items.map zbo).Nodup /\ ∀x∈f[j].items,x.kind.1≠0) (fun i=>([(1,.bp 1 0),(6,.d (zaz f)),(7,.d (eI f.length)),(8,.d (eI i))],[(1,.box [.d (zaz f)])])) (by omega) (by simp only[ZE,↓reduceIte,pE,pL,pA,pS,pM,pD,zN,qT,qG,qL,qH,qN,qB,qE,qO,qA,qM,List.length_map]) (by simp only[ZE,↓reduceIte,pE,pL,pA,pS,pM,pD]) (fun i hii hI=> ?_);rcases Nat.lt_or_ge i f.length with h | h
 ·have hw:=zas (show i<9223372036854775807 by omega);obtain⟨m,hm⟩:=zX (f[i]);have hmm:m∈f:=by rw[<-hm]; exact List.getElem_mem h
  have ui:=uniqueItem_g m.items (hi m hmm);have ci:=containsK_c m.items;by_cases hnd:(m.items.map zbo).Nodup
  ·rw[decide_eq_true hnd]at ui;cases ha:m.items.any kind0 with
   | false=>
    rw[ha]at ci;simp(maxSteps:=4000000) only[ZE,↓reduceIte,pE,pL,pA,pS,pM,pD]at ui ci;simp(maxSteps:=4000000) only[ZE,↓reduceIte,pE,pL,pA,pS,pM,pD,zax h,zaa h,zal h,hm,zN,qT,qG,qL,qH,qN,qB,qE,qO,qA,qM,List.length_map];refine EFn.p ?_;simp(maxSteps:=4000000) only[ZE,↓reduceIte,pE,pL,pA,pS,pM,pD,zN,qT,qG,qL,qH,qN,qB,qE,qO,qA,qM];refine zar.i ui ?_;simp(maxSteps:=4000000) only[ZE,↓reduceIte,pE,pL,pA,pS,pM,pD,zN,qT,qG,qL,qH,qN,qB,qE,qO,qA,qM];refine EFn.p ?_;simp(maxSteps:=4000000) only[ZE,↓reduceIte,pE,pL,pA,pS,pM,pD,zN,qT,qG,qL,qH,qN,qB,qE,qO,qA,qM];refine zar.i ci ?_;simp(maxSteps:=4000000) only[ZE,↓reduceIte,pE,pL,pA,pS,pM,pD,zN,qT,qG,qL,qH,qN,qB,qE,qO,qA,qM,hw];refine⟨h,fun j hj hj'=> ?_⟩;rcases Nat.lt_succ_iff_lt_or_eq.1 hj with hj | rfl
    ·exact hI j hj hj'
    ·rw[hm];refine⟨hnd,fun x hx h0=> ?_⟩;have:=List.any_eq_false.1 ha x hx;exact this (by simp[kind0,h0])
   | true=>
    have hf:zgo f=false:=by
     cases hq:zgo f with
     | false=>rfl
     | true=>
      obtain⟨x,hx,hk⟩:=List.any_eq_true.1 ha;exact absurd (by simpa [kind0]using hk) (((zbW f).1 hq).kinds m hmm x hx)
    rw[hf];rw[ha]at ci;simp(maxSteps:=4000000) only[ZE,↓reduceIte,pE,pL,pA,pS,pM,pD]at ui ci;simp(maxSteps:=4000000) only[ZE,↓reduceIte,pE,pL,pA,pS,pM,pD,zax h,zaa h,zal h,hm,zN,qT,qG,qL,qH,qN,qB,qE,qO,qA,qM,List.length_map];refine EFn.p ?_;simp(maxSteps:=4000000) only[ZE,↓reduceIte,pE,pL,pA,pS,pM,pD,zN,qT,qG,qL,qH,qN,qB,qE,qO,qA,qM];refine zar.i ui ?_;simp(maxSteps:=4000000) only[ZE,↓reduceIte,pE,pL,pA,pS,pM,pD,zN,qT,qG,qL,qH,qN,qB,qE,qO,qA,qM];refine EFn.p ?_;simp(maxSteps:=4000000) only[ZE,↓reduceIte,pE,pL,pA,pS,pM,pD,zN,qT,qG,qL,qH,qN,qB,qE,qO,qA,qM];refine zar.i ci ?_;simp(maxSteps:=4000000) only[ZE,↓reduceIte,pE,pL,pA,pS,pM,pD,zN,qT,qG,qL,qH,qN,qB,qE,qO,qA,qM,hw]
  ·have hf:zgo f=false:=by
    cases hq:zgo f with
    | false=>rfl
    | true=>exact absurd (((zbW f).1 hq).parts m hmm) hnd
   rw[hf];rw[decide_eq_false hnd]at ui;simp(maxSteps:=4000000) only[ZE,↓reduceIte,pE,pL,pA,pS,pM,pD]at ui;simp(maxSteps:=4000000) only[ZE,↓reduceIte,pE,pL,pA,pS,pM,pD,zax h,zaa h,zal h,hm,zN,qT,qG,qL,qH,qN,qB,qE,qO,qA,qM,List.length_map];refine EFn.p ?_;simp(maxSteps:=4000000) only[ZE,↓reduceIte,pE,pL,pA,pS,pM,pD,zN,qT,qG,qL,qH,qN,qB,qE,qO,qA,qM];refine zar.i ui ?_;simp(maxSteps:=4000000) only[ZE,↓reduceIte,pE,pL,pA,pS,pM,pD,zN,qT,qG,qL,qH,qN,qB,qE,qO,qA,qM]
 ·have hf:zgo f=decide (f.map Module.name).Nodup :=by
   rw[Bool.eq_iff_iff,decide_eq_true_eq,zbW];refine⟨fun hq=>hq.names,fun hq=>⟨hq,fun m hm=> ?_,fun m hm=> ?_⟩⟩
   ·obtain⟨j,hj,rfl⟩:=List.getElem_of_mem hm;exact(hI j (by omega) hj).1
   ·obtain⟨j,hj,rfl⟩:=List.getElem_of_mem hm;exact(hI j (by omega) hj).2
  rw[hf];simp(maxSteps:=4000000) only[ZE,↓reduceIte,pE,pL,pA,pS,pM,pD,zaI h,zN,qT,qG,qL,qH,qN,qB,qE,qO,qA,qM,List.length_map];refine EFn.p ?_;simp(maxSteps:=4000000) only[ZE,↓reduceIte,pE,pL,pA,pS,pM,pD,zN,qT,qG,qL,qH,qN,qB,qE,qO,qA,qM];refine zar.i uc ?_;simp(maxSteps:=4000000) only[ZE,↓reduceIte,pE,pL,pA,pS,pM,pD,zN,qT,qG,qL,qH,qN,qB,qE,qO,qA,qM]
structure Place where
 module:Str
 part:Part
 deriving DecidableEq
def ltQ(a b:Place):Bool:=ltS a.module b.module||(decide (a.module=b.module)&&ltP a.part b.part)
theorem zl3:TOrd ltQ:={
 irr:=fun a=>by simp[ltQ,zu2.irr,zxL.irr]
 tr:=fun a b c h1 h2=>by
  simp only[ltQ,Bool.or_eq_true,decide_eq_true_eq,Bool.and_eq_true]at h1 h2 ⊢;rcases h1 with h1 | ⟨e1,h1⟩
  ·rcases h2 with h2 | ⟨e2,h2⟩
   ·exact .inl (zu2.tr _ _ _ h1 h2)
   ·exact .inl (e2▸h1)
  ·rcases h2 with h2 | ⟨e2,h2⟩
   ·exact .inl (e1▸h2)
   ·exact .inr ⟨e1.trans e2,zxL.tr _ _ _ h1 h2⟩
 conn:=fun a b h1 h2=>by
  simp only[ltQ,Bool.or_eq_false_iff,decide_eq_false_iff_not,Bool.and_eq_false_iff]at h1 h2;obtain⟨a1,a2⟩:=a;obtain⟨b1,b2⟩:=b;simp only at h1 h2;have e:=zu2.conn a1 b1 h1.1 h2.1;subst e;have:=zxL.conn a2 b2 (h1.2.resolve_left (fun h=>h rfl)) (h2.2.resolve_left (fun h=>h rfl));rw[this]}
instance:DecidableEq Module:=fun m n=>decidable_of_iff (znb m n=true) (zuw m n)
/-! ### Lists with keys -/
section
variable {κ α:Type} [DecidableEq κ] {lt:κ->κ->Bool} {key:α->κ}
theorem zv2: ∀ {l:List α},(l.map key).Nodup -> ∀ {x:α},x∈l->lkp key l (key x)=some x
 | [],_,_,hx=>by cases hx
 | y::l,h,x,hx=>by
  rw[List.map_cons,List.nodup_cons]at h;rw[ze2];rcases List.mem_cons.1 hx with rfl | hx
  ·rw[if_pos rfl]
  ·rw[if_neg (fun e=>h.1 (List.mem_map.2 ⟨x,hx,e.symm⟩)),zv2 h.2 hx]
theorem lkp_id(l:List κ)(k:κ):lkp id l k=if k∈l then some k else none:=by
 cases h:lkp id l k with
 | none=>
  rw[if_neg];intro hk;exact zpA.1 h k hk rfl
 | some x=>
  obtain⟨h1,h2⟩:=ze3 h;simp only[id]at h2;subst h2;rw[if_pos h1]
theorem zx2(o:TOrd lt){l l':List κ}(h:Srt lt id l)(h':Srt lt id l')(e: ∀k,k∈l↔k∈l'):l=l':=by
 refine Srt.ext o h h' fun k=> ?_;rw[lkp_id,lkp_id];by_cases hk:k∈l
 ·rw[if_pos hk,if_pos ((e k).1 hk)]
 ·rw[if_neg hk,if_neg (fun h=>hk ((e k).2 h))]
theorem mem_put(o:TOrd lt){l:List κ}(h:Srt lt id l)(x k:κ):k∈zp9 lt id l x↔k=x\/k∈l:=by
 have h1:=lkp_ins o x k h;rw[lkp_id,lkp_id]at h1;simp only[id]at h1;by_cases hk:k=x
 ·rw[if_pos hk]at h1;by_cases hm:k∈zp9 lt id l x
  ·exact⟨fun _=>.inl hk,fun _=>hm⟩
  ·rw[if_neg hm]at h1; cases h1
 ·rw[if_neg hk]at h1;by_cases hm:k∈zp9 lt id l x
  ·rw[if_pos hm]at h1;by_cases hl:k∈l
   ·simp[hm,hl]
   ·rw[if_neg hl]at h1; cases h1
  ·rw[if_neg hm]at h1;by_cases hl:k∈l
   ·rw[if_pos hl]at h1; cases h1
   ·simp[hm,hl,hk]
/-- A list as a set in order. -/
def setS(lt:κ->κ->Bool)(l:List κ):List κ:=l.foldl (zp9 lt id) []
theorem zux(o:TOrd lt): ∀(l s:List κ),Srt lt id s->Srt lt id (l.foldl (zp9 lt id) s)/\ ∀k,k∈l.foldl (zp9 lt id) s↔k∈l\/k∈s
 | [],s,h=>⟨h,fun k=>by simp⟩
 | x::l,s,h=>by
  obtain⟨h1,h2⟩:=zux o l (zp9 lt id s x) (h.ins o x);refine⟨h1,fun k=> ?_⟩;rw[List.foldl_cons,h2 k,mem_put o h,List.mem_cons];constructor
  ·rintro(h | h | h)
   ·exact .inl (.inr h)
   ·exact .inl (.inl h)
   ·exact .inr h
  ·rintro((h | h) | h)
   ·exact .inr (.inl h)
   ·exact .inl h
   ·exact .inr (.inr h)
theorem zjU(o:TOrd lt)(l:List κ):Srt lt id (setS lt l):=(zux o l [] List.Pairwise.nil).1
theorem zgF(o:TOrd lt){l:List κ}{k:κ}:k∈setS lt l↔k∈l:=by
 unfold setS;rw[(zux o l [] List.Pairwise.nil).2 k];simp
theorem setS_eq(o:TOrd lt){l s:List κ}(h:Srt lt id s)(e: ∀k,k∈s↔k∈l):s=setS lt l:=zx2 o h (zjU o l) fun k=>(e k).trans (zgF o).symm
end
/-! ### Contents -/
def zbL(n:Str):Place:=⟨n,zdb⟩
def plI(n:Str)(x:Item):Place:=⟨n,zbo x⟩
def itM(x:Item):Module:={zdQ with items:=[x]}
def hdM(m:Module):Module:={m with items:=[]}
def zmv(m:Module):List (Place×Module):=(zbL m.name,hdM m)::m.items.map fun x=>(plI m.name x,itM x)
def ent(l:List Module):List (Place×Module):=l.flatMap zmv
abbrev zsa:=Place->Option Module
def zbu(l:List Module):zsa:=fun p=>(lkp Module.name l p.module).bind fun m=>if p.part=zdb then some (hdM m)else(lkp zbo m.items p.part).map itM
theorem itM_inj{x y:Item}(h:itM x=itM y):x=y:=by
 have:=congrArg Module.items h;simpa [itM]using this
/-- What an entry is. -/
def IsEnt(l:List Module)(p:Place)(c:Module):Prop:= ∃m∈l,(p=zbL m.name/\c=hdM m)\/ ∃x∈m.items,p=plI m.name x/\c=itM x
theorem zj8{l:List Module}{p:Place}{c:Module}:(p,c)∈ent l↔IsEnt l p c:=by
 unfold ent IsEnt zmv;simp only[List.mem_flatMap,List.mem_cons,List.mem_map,Prod.mk.injEq];constructor
 ·rintro⟨m,hm,h | ⟨x,hx,h1,h2⟩⟩
  ·exact⟨m,hm,.inl h⟩
  ·exact⟨m,hm,.inr ⟨x,hx,h1.symm,h2.symm⟩⟩
 ·rintro⟨m,hm,h | ⟨x,hx,h1,h2⟩⟩
  ·exact⟨m,hm,.inl h⟩
  ·exact⟨m,hm,.inr ⟨x,hx,h1.symm,h2.symm⟩⟩
theorem zfM{l:List Module}{p:Place}{c:Module}(h:zbu l p=some c):IsEnt l p c:=by
 unfold zbu at h;rw[Option.bind_eq_some_iff]at h;obtain⟨m,hm,h⟩:=h;obtain⟨h1,h2⟩:=ze3 hm;obtain⟨pm,pp⟩:=p;simp only at h2 h;subst h2;refine⟨m,h1,?_⟩;by_cases hp:pp=zdb
 ·rw[if_pos hp]at h;cases h;exact .inl ⟨by rw[hp]; rfl,rfl⟩
 ·rw[if_neg hp,Option.map_eq_some_iff]at h;obtain⟨x,hx,rfl⟩:=h;obtain⟨h3,h4⟩:=ze3 hx;exact .inr ⟨x,h3,by rw[<-h4]; rfl,rfl⟩
theorem zmp{l:List Module}(h:Parted l){p:Place}{c:Module}(he:IsEnt l p c):zbu l p=some c:=by
 obtain⟨m,hm,⟨rfl,rfl⟩ | ⟨x,hx,rfl,rfl⟩⟩:=he
 ·unfold zbu zbL;simp only[zv2 h.names hm,Option.bind_some,if_true]
 ·unfold zbu plI;simp only[zv2 h.names hm,Option.bind_some,if_neg (zl1 (h.kinds m hm x hx)),zv2 (h.parts m hm) hx,Option.map_some]
def zey(l:List Module):List Place:=(ent l).map Prod.fst
theorem zrm{l:List Module}(h:Parted l){p:Place}:p∈zey l↔zbu l p≠none:=by
 unfold zey;rw[List.mem_map];constructor
 ·rintro⟨⟨q,c⟩,hq,rfl⟩;rw[zmp h (zj8.1 hq)];simp
 ·intro hc;obtain⟨c,hc⟩:=Option.ne_none_iff_exists'.1 hc;exact⟨(p,c),zj8.2 (zfM hc),rfl⟩
theorem keysM_nodup{m:Module}(h:(m.items.map zbo).Nodup)(hk: ∀x∈m.items,x.kind.1≠0):((zmv m).map Prod.fst).Nodup :=by
 unfold zmv;rw[List.map_cons,List.map_map,List.nodup_cons];refine⟨?_,?_⟩
 ·rw[List.mem_map];rintro⟨x,hx,e⟩;have:=congrArg Place.part e;exact zl1 (hk x hx) this
 ·have e:m.items.map (Prod.fst∘fun x=>(plI m.name x,itM x))=(m.items.map zbo).map fun p=>(⟨m.name,p⟩:Place):=by
   rw[List.map_map]; rfl
  rw[e];refine List.Pairwise.map _ (fun a b hab e=>hab ?_) h;have:=congrArg Place.part e;exact this
theorem zvY{m:Module}{p:Place}(h:p∈(zmv m).map Prod.fst):p.module=m.name:=by
 unfold zmv at h;rw[List.map_cons,List.map_map,List.mem_cons,List.mem_map]at h;rcases h with rfl | ⟨x,_,rfl⟩ <;> rfl
theorem zqH: ∀ {l:List Module},Parted l->(zey l).Nodup
 | [],_=>List.nodup_nil
 | m::r,h=>by
  have hr:Parted r:=⟨(List.nodup_cons.1 (List.map_cons▸h.names)).2,fun q hq=>h.parts q (List.mem_cons_of_mem _ hq),fun q hq=>h.kinds q (List.mem_cons_of_mem _ hq)⟩;unfold zey ent;rw[List.flatMap_cons,List.map_append,List.nodup_append];refine⟨keysM_nodup (h.parts m (by simp)) (h.kinds m (by simp)),zqH hr,?_⟩;intro a ha b hb e;subst e;have h1:=zvY ha;rw[List.mem_map]at hb;obtain⟨q,hq,rfl⟩:=hb;rw[List.mem_flatMap]at hq;obtain⟨z,hz,hq⟩:=hq;have h2:=zvY (List.mem_map.2 ⟨q,hq,rfl⟩);have hn:=(List.nodup_cons.1 (List.map_cons▸h.names)).1;exact hn (List.mem_map.2 ⟨z,hz,by rw[<-h2,h1]⟩)
theorem lkp_ent{l:List Module}(h:Parted l)(p:Place):lkp Prod.fst (ent l) p=(zbu l p).map fun c=>(p,c):=by
 cases hc:zbu l p with
 | some c=>exact zv2 (x:=(p,c)) (zqH h) (zj8.2 (zfM hc))
 | none=>
  refine zpA.2 fun x hx e=> ?_;subst e;rw[zmp h (zj8.1 hx)]at hc;cases hc
/-! ### Kinds above 0 -/
structure PK (l:List Module):Prop where
 kinds: ∀m∈l,∀x∈m.items,0<x.kind.1
theorem zPart_lt{x:Item}(h:0<x.kind.1):ltP zdb (zbo x)=true:=by
 unfold ltP;have:zdb.kind.1<(zbo x).kind.1 :=h;simp[this]
theorem Parted.of_good{l:List Module}(h:Good l)(hk:Kinds l):Parted l:=⟨h.srt.nodup zu2,fun m hm=>(h.parts m hm).nodup zxL,hk.kinds⟩
theorem PK.kd{l:List Module}(h:PK l):Kinds l:=⟨fun m hm x hx e=>by have:=h.kinds m hm x hx; omega⟩
theorem ltQ_head{n k:Str}(h:ltQ (zbL n) (zbL k)=true):ltS n k=true:=by
 simp only[ltQ,zbL,Bool.or_eq_true,Bool.and_eq_true,zxL.irr]at h;rcases h with h | ⟨_,h⟩
 ·exact h
 ·cases h
theorem ltQ_part{n:Str}{a b:Part}(h:ltQ ⟨n,a⟩ ⟨n,b⟩=true):ltP a b=true:=by
 simp only[ltQ,Bool.or_eq_true,Bool.and_eq_true,zu2.irr]at h;rcases h with h | ⟨_,h⟩
 ·cases h
 ·exact h
theorem zs2: ∀ {l:List Module},Srt ltQ Prod.fst (ent l)->Good l
 | [],_=>⟨List.Pairwise.nil,fun m hm=>by cases hm⟩
 | m::r,h=>by
  unfold ent Srt at h;rw[List.flatMap_cons,List.pairwise_append]at h;obtain⟨h1,h2,h3⟩:=h;have hr:Good r:=zs2 h2;refine⟨List.pairwise_cons.2 ⟨fun z hz=> ?_,hr.srt⟩,fun z hz=> ?_⟩
  ·have ha:(zbL m.name,hdM m)∈zmv m:=by unfold zmv; simp
   have hb:(zbL z.name,hdM z)∈r.flatMap zmv:=List.mem_flatMap.2 ⟨z,hz,by unfold zmv; simp⟩;exact ltQ_head (h3 _ ha _ hb)
  ·rcases List.mem_cons.1 hz with rfl | hz
   ·unfold zmv at h1;have h4:=(List.pairwise_cons.1 h1).2;rw[List.pairwise_map]at h4;exact h4.imp fun{a b} hab=>ltQ_part hab
   ·exact hr.parts z hz
theorem cont_ext{a b:List Module}(ha:Good a)(hb:Good b)(ka:Kinds a)(kb:Kinds b)(h: ∀p,zbu a p=zbu b p):a=b:=by
 refine ha.ext hb fun k=> ?_;have key: ∀ {a b:List Module},Good a->Good b->Kinds a->Kinds b->(∀p,zbu a p=zbu b p)-> ∀m,lkp Module.name a k=some m->lkp Module.name b k=some m:=by
  intro a b ha hb ka kb h m hm;have h1:=h (zbL k);have e1:zbu a (zbL k)=some (hdM m):=by unfold zbu zbL; simp only[hm,Option.bind_some,if_true]
  rw[e1]at h1;cases hn:lkp Module.name b k with
  | none=>
   have e2:zbu b (zbL k)=none:=by unfold zbu zbL; simp only[hn,Option.bind_none]
   rw[e2]at h1;cases h1
  | some m'=>
   have e2:zbu b (zbL k)=some (hdM m'):=by unfold zbu zbL; simp only[hn,Option.bind_some,if_true]
   rw[e2,Option.some.injEq]at h1;have hi:m.items=m'.items:=by
    refine Srt.ext zxL (ha.at hm).1 (hb.at hn).1 fun q=> ?_;by_cases hq:q=zdb
    ·subst hq;rw[zpA.2 fun x hx=>zl1 (ka.kinds m (ze3 hm).1 x hx),zpA.2 fun x hx=>zl1 (kb.kinds m' (ze3 hn).1 x hx)]
    ·have h2:=h ⟨k,q⟩;unfold zbu at h2;simp only[hm,hn,Option.bind_some,if_neg hq]at h2;cases e3:lkp zbo m.items q with
     | none=>
      rw[e3,Option.map_none]at h2;cases e4:lkp zbo m'.items q with
      | none=>rfl
      | some y=>rw[e4]at h2; cases h2
     | some x=>
      rw[e3,Option.map_some]at h2;cases e4:lkp zbo m'.items q with
      | none=>rw[e4]at h2; cases h2
      | some y=>
       rw[e4,Option.map_some,Option.some.injEq]at h2;rw[itM_inj h2]
   obtain⟨n1,c1,p1,i1⟩:=m;obtain⟨n2,c2,p2,i2⟩:=m';simp only[hdM,Module.mk.injEq,and_true]at h1 hi;obtain⟨rfl,rfl,rfl⟩:=h1;subst hi;rfl
 cases hm:lkp Module.name a k with
 | some m=>exact(key ha hb ka kb h m hm).symm
 | none=>
  cases hn:lkp Module.name b k with
  | none=>rfl
  | some m=>rw[key hb ha kb ka (fun p=>(h p).symm) m hn]at hm; cases hm
/-! ### Sides -/
def zf9(b x y:zsa)(p:Place):Nat:=if b p=x p then(if b p=y p then 0 else 2)else if b p=y p then 1 else if x p=y p then 3 else 4
def zis(b x y:zsa):zsa:=fun p=>if zf9 b x y p=2 then y p else x p
def zox(b x y:zsa)(p:Place):Prop:=p≠zbL p.module/\zis b x y (zbL p.module)=none/\zf9 b x y (zbL p.module)≠4/\(zis b x y p≠none\/zf9 b x y p=4)
instance (b x y:zsa) (p:Place):Decidable (zox b x y p):=by unfold zox; infer_instance
def zeh(b x y:zsa)(p:Place):List Place:=(if zf9 b x y p=4 then [p]else [])++(if zox b x y p then [zbL p.module]else [])
def confP(b x y:zsa)(ps:List Place):List Place:=setS ltQ (ps.flatMap (zeh b x y))
theorem mem_step{b x y:zsa}{p q:Place}:q∈zeh b x y p↔(q=p/\zf9 b x y p=4)\/(q=zbL p.module/\zox b x y p):=by
 unfold zeh;rw[List.mem_append];by_cases h1:zf9 b x y p=4 <;> by_cases h2:zox b x y p <;> simp[h1,h2]
theorem mem_conf{b x y:zsa}{ps:List Place}{q:Place}:q∈confP b x y ps↔ ∃p∈ps,(q=p/\zf9 b x y p=4)\/(q=zbL p.module/\zox b x y p):=by
 unfold confP;rw[zgF zl3,List.mem_flatMap];constructor
 ·rintro⟨p,hp,h⟩; exact⟨p,hp,mem_step.1 h⟩
 ·rintro⟨p,hp,h⟩; exact⟨p,hp,mem_step.2 h⟩
/-! ### The merged file -/
def addL:List Module->List Item->List Module
 | [],_=>[]
 | [m],its=>[{m with items:=m.items++its}]
 | m::n::r,its=>m::addL (n::r) its
theorem zsf: ∀(A:List Module) (w:Module) (its:List Item),addL (A++[w]) its=A++[{w with items:=w.items++its}]
 | [],w,its=>rfl
 | [a],w,its=>rfl
 | a::b::A,w,its=>by
  have:=zsf (b::A) w its;simp only[List.cons_append]at this ⊢;rw[addL,this]
def zrz(g:zsa)(acc:List Module)(p:Place):List Module:=match g p with
 | none=>acc
 | some m=>if p.part=zdb then acc++[m]else addL acc m.items
def build(g:zsa)(ps:List Place):List Module:=ps.foldl (zrz g) []
def entG(g:zsa)(p:Place):Option (Place×Module):=(g p).map fun c=>(p,c)
structure Shape (g:zsa):Prop where
 hd: ∀p m,g p=some m->p.part=zdb->m.name=p.module/\m.items=[]
 it: ∀p m,g p=some m->p.part≠zdb-> ∃x,m=itM x/\zbo x=p.part/\0<x.kind.1
 head: ∀p m,g p=some m->g (zbL p.module)≠none
theorem zg9(a b:List Module):ent (a++b)=ent a++ent b:=List.flatMap_append
theorem zqo(m:Module):ent [m]=zmv m:=by simp[ent]
theorem zo7{g:zsa}{ps:List Place}(hs:Srt ltQ id ps)(hg:Shape g)(hc: ∀p,g p≠none->p∈ps): ∀n,n<=ps.length->ent (build g (ps.take n))=(ps.take n).filterMap (entG g)
 | 0,_=>rfl
 | n+1,h=>by
  have ih:=zo7 hs hg hc n (by omega);have hn:n<ps.length:=by omega
  rw[List.take_succ_eq_append_getElem hn,List.filterMap_append];unfold build at ih ⊢;rw[List.foldl_append];obtain⟨M,hM⟩:=zX ((ps.take n).foldl (zrz g) []);obtain⟨p,hp⟩:=zX (ps[n]);rw[hM]at ih ⊢;rw[hp];show ent (zrz g M p)=_++[p].filterMap (entG g);have hlt: ∀q∈ps,ltQ q p=true->q∈ps.take n:=by
   intro q hq hl;obtain⟨j,hj,rfl⟩:=List.getElem_of_mem hq;rcases Nat.lt_or_ge j n with hjn | hjn
   ·rw[List.mem_take_iff_getElem]; exact⟨j,by omega,rfl⟩
   ·rcases Nat.eq_or_lt_of_le hjn with e | hjn
    ·subst e; rw[hp,zl3.irr]at hl; cases hl
    ·have:=(List.pairwise_iff_getElem.1 hs) n j hn hj hjn;simp only[id,hp]at this;rw[zl3.asymm this]at hl; cases hl
  have hpre: ∀q∈ps.take n,ltQ q p=true:=by
   intro q hq;rw[List.mem_take_iff_getElem]at hq;obtain⟨j,hj,rfl⟩:=hq;have:=(List.pairwise_iff_getElem.1 hs) j n (by omega) hn (by omega);simpa [hp]using this
  cases hgp:g p with
  | none=>simp[zrz,hgp,entG,ih]
  | some m=>
   have e1:[p].filterMap (entG g)=[(p,m)]:=by simp[entG,hgp]
   rw[e1];by_cases hz:p.part=zdb
   ·obtain⟨h1,h2⟩:=hg.hd p m hgp hz;have e2:zrz g M p=M++[m]:=(by simp[zrz,hgp,hz]);have e3:hdM m=m:=(by unfold hdM; rw[<-h2]);have e4:zbL m.name=p:=(by rw[h1]; unfold zbL; rw[<-hz]);rw[e2,zg9,ih,zqo,zmv,h2,e3,e4];rfl
   ·obtain⟨x,rfl,h2,h3⟩:=hg.it p m hgp hz;have hh:=hg.head p _ hgp;have hlh:ltQ (zbL p.module) p=true:=by
     unfold ltQ zbL;simp only[Bool.or_eq_true,Bool.and_eq_true,decide_true,true_and];right;rw[<-h2]; exact zPart_lt h3
    have hin:=hlt _ (hc _ hh) hlh;obtain⟨c,hcc⟩:=Option.ne_none_iff_exists'.1 hh;have hE:(zbL p.module,c)∈ent M:=by
     rw[ih,List.mem_filterMap];exact⟨_,hin,by simp[entG,hcc]⟩
    have hsE:Srt ltQ Prod.fst (ent M):=by
     rw[ih];unfold Srt;rw[List.pairwise_filterMap];refine(List.Pairwise.sublist (List.take_sublist _ _) hs).imp ?_;intro a b hab a' ha b' hb;simp only[entG,Option.map_eq_some_iff]at ha hb;obtain⟨_,_,rfl⟩:=ha;obtain⟨_,_,rfl⟩:=hb;exact hab
    rcases List.eq_nil_or_concat M with hnil | ⟨A,w,hw⟩
    ·rw[hnil]at hE; cases hE
    ·rw[List.concat_eq_append]at hw;subst hw;have e2:zrz g (A++[w]) p=A++[{w with items:=w.items++[x]}]:=by
      simp only[zrz,hgp,if_neg hz];exact zsf _ _ _
     have hwn:w.name=p.module:=by
      have hwE:(zbL w.name,hdM w)∈ent (A++[w]):=zj8.2 ⟨w,by simp,.inl ⟨rfl,rfl⟩⟩;have hwp:ltQ (zbL w.name) p=true:=by
       rw[ih,List.mem_filterMap]at hwE;obtain⟨q,hq,e⟩:=hwE;simp only[entG,Option.map_eq_some_iff,Prod.mk.injEq]at e;obtain⟨_,_,e,_⟩:=e;rw[<-e]; exact hpre q hq
      obtain⟨z,hz',hcase⟩:=zj8.1 hE;have hzn:z.name=p.module:=by
       rcases hcase with⟨e,_⟩ | ⟨_,_,e,_⟩
       ·exact(congrArg Place.module e).symm
       ·exact(congrArg Place.module e).symm
      rcases List.mem_append.1 hz' with hzA | hzw
      ·rw[zg9,zqo]at hsE;have h4:=(List.pairwise_append.1 hsE).2.2 (zbL z.name,hdM z) (zj8.2 ⟨z,hzA,.inl ⟨rfl,rfl⟩⟩) (zbL w.name,hdM w) (by unfold zmv; simp);have h5:=ltQ_head h4;rw[hzn]at h5;simp only[ltQ,zbL,Bool.or_eq_true,Bool.and_eq_true,decide_eq_true_eq]at hwp;rcases hwp with h6 | ⟨h6,_⟩
       ·rw[zu2.asymm h5]at h6; cases h6
       ·exact of_decide_eq_true h6
      ·simp only[List.mem_singleton]at hzw;rw[<-hzw]; exact hzn
     rw[e2,zg9,zqo,<-ih,zg9,zqo,List.append_assoc];congr 1;unfold zmv;simp only[List.map_append,List.map_cons,List.map_nil,List.cons_append,List.cons.injEq];refine⟨rfl,?_⟩;congr 2;have:plI w.name x=p:=(by unfold plI; rw[hwn,h2]);rw[this]
theorem build_law{g:zsa}{ps:List Place}(hs:Srt ltQ id ps)(hg:Shape g)(hc: ∀p,g p≠none->p∈ps):Good (build g ps)/\PK (build g ps)/\ ∀p,zbu (build g ps) p=g p:=by
 have h:=zo7 hs hg hc ps.length (Nat.le_refl _);rw[List.take_length]at h;have hsE:Srt ltQ Prod.fst (ent (build g ps)):=by
  rw[h];unfold Srt;rw[List.pairwise_filterMap];refine List.Pairwise.imp ?_ hs;intro a b hab a' ha b' hb;simp only[entG,Option.map_eq_some_iff]at ha hb;obtain⟨_,_,rfl⟩:=ha;obtain⟨_,_,rfl⟩:=hb;exact hab
 have hG:=zs2 hsE;have hmem: ∀p c,(p,c)∈ent (build g ps)↔g p=some c:=by
  intro p c;rw[h,List.mem_filterMap];simp only[entG,Option.map_eq_some_iff,Prod.mk.injEq];constructor
  ·rintro⟨q,_,c',h1,rfl,rfl⟩; exact h1
  ·intro h1; exact⟨p,hc p (by rw[h1]; simp),c,h1,rfl,rfl⟩
 have hK:PK (build g ps):=by
  refine⟨fun m hm x hx=> ?_⟩;have h1:=(hmem _ _).1 (zj8.2 ⟨m,hm,.inr ⟨x,hx,rfl,rfl⟩⟩);by_cases hz:(plI m.name x).part =zdb
  ·have:=(hg.hd _ _ h1 hz).2;simp[itM]at this
  ·obtain⟨y,h2,_,h3⟩:=hg.it _ _ h1 hz;rw[itM_inj h2]; exact h3
 have hP:=Parted.of_good hG hK.kd;refine⟨hG,hK,fun p=> ?_⟩;cases hgp:g p with
 | some c=>exact zmp hP (zj8.1 ((hmem p c).2 hgp))
 | none=>
  cases hd:zbu (build g ps) p with
  | none=>rfl
  | some c=>
   have:=(hmem p c).1 (zj8.2 (zfM hd));rw[hgp]at this; cases this
structure Fl (l:List Module):Prop where
 part:Parted l
 pk:PK l
theorem Fl.head{l:List Module}(h:Fl l){p:Place}(hp:zbu l p≠none):zbu l (zbL p.module)≠none:=by
 obtain⟨c,hc⟩:=Option.ne_none_iff_exists'.1 hp;obtain⟨m,hm,⟨rfl,_⟩ | ⟨x,hx,rfl,_⟩⟩:=zfM hc
 ·show zbu l (zbL m.name)≠none;rw[zmp h.part ⟨m,hm,.inl ⟨rfl,rfl⟩⟩]; simp
 ·show zbu l (zbL m.name)≠none;rw[zmp h.part ⟨m,hm,.inl ⟨rfl,rfl⟩⟩]; simp
theorem Fl.hd{l:List Module}(h:Fl l){p:Place}{m:Module}(hc:zbu l p=some m)(hz:p.part=zdb):m.name=p.module/\m.items=[]:=by
 obtain⟨q,hq,⟨rfl,rfl⟩ | ⟨x,hx,rfl,_⟩⟩:=zfM hc
 ·exact⟨rfl,rfl⟩
 ·exact absurd hz (zl1 (h.part.kinds q hq x hx))
theorem Fl.it{l:List Module}(h:Fl l){p:Place}{m:Module}(hc:zbu l p=some m)(hz:p.part≠zdb): ∃x,m=itM x/\zbo x=p.part/\0<x.kind.1:=by
 obtain⟨q,hq,⟨rfl,rfl⟩ | ⟨x,hx,rfl,rfl⟩⟩:=zfM hc
 ·exact absurd rfl hz
 ·exact⟨x,rfl,rfl,h.pk.kinds q hq x hx⟩
def zo3(fs:List (List Module)):List Place:=setS ltQ (fs.flatMap zey)
theorem zn3(fs:List (List Module)):Srt ltQ id (zo3 fs):=zjU zl3 _
theorem mem_all{fs:List (List Module)}(h: ∀f∈fs,Parted f){p:Place}:p∈zo3 fs↔ ∃f∈fs,zbu f p≠none:=by
 unfold zo3;rw[zgF zl3,List.mem_flatMap];constructor
 ·rintro⟨f,hf,h1⟩; exact⟨f,hf,(zrm (h f hf)).1 h1⟩
 ·rintro⟨f,hf,h1⟩; exact⟨f,hf,(zrm (h f hf)).2 h1⟩
def zgJ(a b:List Module):List Place:=(zo3 [a,b]).filter fun p=>decide (zbu a p≠zbu b p)
/-! ### Sides -/
section
variable {b x y:zsa} {p:Place}
theorem zpU:zf9 b x y p=4↔b p≠x p/\b p≠y p/\x p≠y p:=by
 unfold zf9;split
 ·split <;> simp_all
 ·split
  ·simp_all
  ·split <;> simp_all
theorem zpT:zf9 b x y p=2↔b p=x p/\b p≠y p:=by
 unfold zf9;split
 ·split <;> simp_all
 ·split
  ·simp_all
  ·split <;> simp_all
theorem zq1:zf9 b y x p=4↔zf9 b x y p=4:=by
 rw[zpU,zpU];exact⟨fun⟨h1,h2,h3⟩=>⟨h2,h1,h3.symm⟩,fun⟨h1,h2,h3⟩=>⟨h2,h1,h3.symm⟩⟩
theorem ztE(h:zf9 b x y p≠4):zis b y x p=zis b x y p:=by
 unfold zis;rw[Ne,zpU]at h;by_cases h1:zf9 b x y p=2
 ·have h2:=zpT.1 h1;rw[if_pos h1,if_neg (fun h3=>h2.2 (zpT.1 h3).1)]
 ·rw[if_neg h1];rw[zpT]at h1;by_cases h3:zf9 b y x p=2
  ·rw[if_pos h3]
  ·rw[if_neg h3];rw[zpT]at h3;by_cases e1:b p=x p
   ·by_cases e2:b p=y p
    ·rw[<-e1,<-e2]
    ·exact absurd ⟨e1,e2⟩ h1
   ·by_cases e2:b p=y p
    ·exact absurd ⟨e2,e1⟩ h3
    ·by_cases e3:x p=y p
     ·exact e3.symm
     ·exact absurd ⟨e1,e2,e3⟩ h
theorem lost_comm:zox b y x p↔zox b x y p:=by
 have key: ∀ {x y:zsa},zox b x y p->zox b y x p:=by
  rintro x y ⟨h1,h2,h3,h4⟩;refine⟨h1,by rw[ztE h3]; exact h2,fun e=>h3 (zq1.1 e),?_⟩;by_cases h5:zf9 b x y p=4
  ·exact .inr (zq1.2 h5)
  ·rw[ztE h5];rcases h4 with h4 | h4
   ·exact .inl h4
   ·exact absurd h4 h5
 exact⟨key,key⟩
theorem zoB:zis b x y p=x p\/zis b x y p=y p:=by
 unfold zis;split
 ·exact .inr rfl
 ·exact .inl rfl
end
/-! ### Merged -/
structure Got where
 f:List Module
 l:List Place
 e:Int
section
variable (b x y:List Module)
def zeN:List Place:=confP (zbu b) (zbu x) (zbu y) (zo3 [b,x,y])
def zcQ:List Module:=build (zis (zbu b) (zbu x) (zbu y)) (zo3 [b,x,y])
def zbz:Got:=if zeN b x y≠[]then⟨[],zeN b x y,170⟩else if zbe (zcQ b x y)=true then⟨zcQ b x y,[],0⟩else⟨[],[],100⟩
end
section
variable {b x y:List Module} (hb:Fl b) (hx:Fl x) (hy:Fl y)
include hb hx hy
theorem zxw{p:Place}:p∈zo3 [b,x,y]↔zbu b p≠none\/zbu x p≠none\/zbu y p≠none:=by
 rw[mem_all (by simp[hb.part,hx.part,hy.part])];simp
theorem zpV{p:Place}(h:zf9 (zbu b) (zbu x) (zbu y) p=4):p∈zo3 [b,x,y]:=by
 rw[zxw hb hx hy];obtain⟨h1,_,_⟩:=zpU.1 h;by_cases h2:zbu b p=none
 ·rw[h2]at h1; exact .inr (.inl h1.symm)
 ·exact .inl h2
theorem zrV{p:Place}(h:zis (zbu b) (zbu x) (zbu y) p≠none):p∈zo3 [b,x,y]:=by
 rw[zxw hb hx hy];rcases zoB (b:=zbu b) (x:=zbu x) (y:=zbu y) (p:=p)with e | e
 ·rw[e]at h; exact .inr (.inl h)
 ·rw[e]at h; exact .inr (.inr h)
theorem zmS{q:Place}:q∈zeN b x y↔zf9 (zbu b) (zbu x) (zbu y) q=4\/ ∃p,q=zbL p.module/\zox (zbu b) (zbu x) (zbu y) p:=by
 unfold zeN;rw[mem_conf];constructor
 ·rintro⟨p,_,⟨rfl,h⟩ | ⟨h1,h2⟩⟩
  ·exact .inl h
  ·exact .inr ⟨p,h1,h2⟩
 ·rintro(h | ⟨p,h1,h2⟩)
  ·exact⟨q,zpV hb hx hy h,.inl ⟨rfl,h⟩⟩
  ·refine⟨p,?_,.inr ⟨h1,h2⟩⟩;rcases h2.2.2.2 with h | h
   ·exact zrV hb hx hy h
   ·exact zpV hb hx hy h
theorem no_conf(h:zeN b x y=[])(p:Place):zf9 (zbu b) (zbu x) (zbu y) p≠4/\ ¬zox (zbu b) (zbu x) (zbu y) p:=by
 constructor
 ·intro h1;have:=(zmS hb hx hy (q:=p)).2 (.inl h1);rw[h]at this; cases this
 ·intro h1;have:=(zmS hb hx hy (q:=zbL p.module)).2 (.inr ⟨p,rfl,h1⟩);rw[h]at this; cases this
theorem zv4(h:zeN b x y=[]):Shape (zis (zbu b) (zbu x) (zbu y)):=by
 refine⟨fun p m hm hz=> ?_,fun p m hm hz=> ?_,fun p m hm hn=> ?_⟩
 ·rcases zoB (b:=zbu b) (x:=zbu x) (y:=zbu y) (p:=p)with e | e
  ·exact hx.hd (e.symm.trans hm) hz
  ·exact hy.hd (e.symm.trans hm) hz
 ·rcases zoB (b:=zbu b) (x:=zbu x) (y:=zbu y) (p:=p)with e | e
  ·exact hx.it (e.symm.trans hm) hz
  ·exact hy.it (e.symm.trans hm) hz
 ·refine(no_conf hb hx hy h p).2 ⟨fun e=> ?_,hn,(no_conf hb hx hy h _).1,.inl (by rw[hm]; simp)⟩;rw[<-e]at hn;rw[hn]at hm; cases hm
theorem zhg(h:zeN b x y=[]):Good (zcQ b x y)/\PK (zcQ b x y)/\ ∀p,zbu (zcQ b x y) p=zis (zbu b) (zbu x) (zbu y) p:=
 build_law (zn3 _) (zv4 hb hx hy h) fun p hp=>zrV hb hx hy hp
theorem zmT(h:zeN b x y=[]):Fl (zcQ b x y):=by
 obtain⟨h1,h2,_⟩:=zhg hb hx hy h;exact⟨Parted.of_good h1 h2.kd,h2⟩
theorem conf_comm:zeN b y x=zeN b x y:=by
 refine zx2 zl3 (zjU zl3 _) (zjU zl3 _) fun q=> ?_;have h1:=zmS hb hx hy (q:=q);have h2:=zmS hb hy hx (q:=q);show q∈zeN b y x↔q∈zeN b x y;rw[h1,h2,zq1];exact or_congr Iff.rfl ⟨fun⟨p,a,c⟩=>⟨p,a,lost_comm.1 c⟩,fun⟨p,a,c⟩=>⟨p,a,lost_comm.2 c⟩⟩
theorem symm_law:zbz b y x=zbz b x y:=by
 unfold zbz;rw[conf_comm hb hx hy];by_cases h:zeN b x y=[]
 ·have h':zeN b y x=[]:=(conf_comm hb hx hy).trans h;have e:zcQ b y x=zcQ b x y:=by
   obtain⟨a1,a2,a3⟩:=zhg hb hx hy h;obtain⟨c1,c2,c3⟩:=zhg hb hy hx h';refine cont_ext c1 a1 c2.kd a2.kd fun p=> ?_;rw[a3,c3,ztE (no_conf hb hx hy h p).1]
  rw[e]
 ·rw[if_pos h,if_pos h]
end
/-! ### Provenance -/
section
variable {b x y:List Module} (hb:Fl b) (hx:Fl x) (hy:Fl y) (h:zeN b x y=[])
include hb hx hy h
end
/-! ### Sizes -/
theorem zgH{α:Type}[DecidableEq α]: ∀ {l l':List α},l.Nodup->(∀a∈l,a∈l')->l.length<=l'.length
 | [],_,_,_=>Nat.zero_le _
 | a::l,l',h,hs=>by
  rw[List.nodup_cons]at h;have h1:=zgH (l':=l'.erase a) h.2 fun b hb=>by
   rw[List.mem_erase_of_ne (show b≠a from fun e=>h.1 (e▸hb))];exact hs b (List.mem_cons_of_mem _ hb)
  have h2:=hs a (by simp);rw[List.length_erase_of_mem h2]at h1;have:=List.length_pos_of_mem h2;simp only[List.length_cons];omega
/-- Where the items of a merged file come from. -/
theorem ztG{b x y:List Module}(hb:Fl b)(hx:Fl x)(hy:Fl y)(h:zeN b x y=[]){m:Module}(hm:m∈zcQ b x y){i:Item}(hi:i∈m.items): ∃z,(z∈x\/z∈y)/\z.name=m.name/\i∈z.items:=by
 have hM:=zmT hb hx hy h;have h1:=zmp hM.part (p:=plI m.name i) ⟨m,hm,.inr ⟨i,hi,rfl,rfl⟩⟩;rw[(zhg hb hx hy h).2.2]at h1;have key: ∀ {l:List Module},zbu l (plI m.name i)=some (itM i)-> ∃z∈l,z.name=m.name/\i∈z.items:=by
  intro l hl;obtain⟨z,hz,⟨_,e⟩ | ⟨j,hj,e1,e2⟩⟩:=zfM hl
  ·have:=congrArg Module.items e;simp[itM,hdM]at this
  ·rw[itM_inj e2];exact⟨z,hz,(congrArg Place.module e1).symm,hj⟩
 rcases zoB (b:=zbu b) (x:=zbu x) (y:=zbu y) (p:=plI m.name i)with e | e
 ·obtain⟨z,a1,a2,a3⟩:=key (e.symm.trans h1);exact⟨z,.inl a1,a2,a3⟩
 ·obtain⟨z,a1,a2,a3⟩:=key (e.symm.trans h1);exact⟨z,.inr a1,a2,a3⟩
theorem merged_mod{b x y:List Module}(hb:Fl b)(hx:Fl x)(hy:Fl y)(h:zeN b x y=[]){m:Module}(hm:m∈zcQ b x y): ∃z,(z∈x\/z∈y)/\z.name=m.name:=by
 have hM:=zmT hb hx hy h;have h1:=zmp hM.part (p:=zbL m.name) ⟨m,hm,.inl ⟨rfl,rfl⟩⟩;rw[(zhg hb hx hy h).2.2]at h1;have key: ∀ {l:List Module},zbu l (zbL m.name)=some (hdM m)-> ∃z∈l,z.name=m.name:=by
  intro l hl;obtain⟨z,hz,⟨e,_⟩ | ⟨j,hj,e1,_⟩⟩:=zfM hl
  ·exact⟨z,hz,(congrArg Place.module e).symm⟩
  ·exact⟨z,hz,(congrArg Place.module e1).symm⟩
 rcases zoB (b:=zbu b) (x:=zbu x) (y:=zbu y) (p:=zbL m.name)with e | e
 ·obtain⟨z,a1,a2⟩:=key (e.symm.trans h1);exact⟨z,.inl a1,a2⟩
 ·obtain⟨z,a1,a2⟩:=key (e.symm.trans h1);exact⟨z,.inr a1,a2⟩
theorem merged_len{b x y:List Module}(hb:Fl b)(hx:Fl x)(hy:Fl y)(h:zeN b x y=[]):(zcQ b x y).length <=x.length+y.length:=by
 have hM:=zmT hb hx hy h;have:=zgH (l':=x.map Module.name++y.map Module.name) hM.part.names fun n hn=>by
  obtain⟨m,hm,rfl⟩:=List.mem_map.1 hn;obtain⟨z,hz,e⟩:=merged_mod hb hx hy h hm;rw[List.mem_append,<-e];exact hz.imp (fun h=>List.mem_map.2 ⟨z,h,rfl⟩) (fun h=>List.mem_map.2 ⟨z,h,rfl⟩)
 simpa using this
def zqF(l:List Module)(n:Str):List Item:=match lkp Module.name l n with | some m=>m.items | none=>[]
theorem ztn{l:List Module}(h:Parted l){z:Module}(hz:z∈l):zqF l z.name=z.items:=by unfold zqF; rw[zv2 h.names hz]
theorem ztm{l:List Module}{k:Nat}(h: ∀m∈l,m.items.length<=k)(n:Str):(zqF l n).length <=k:=by
 unfold zqF;split
 ·rename_i m hm; exact h m (ze3 hm).1
 ·exact Nat.zero_le _
theorem merged_items{b x y:List Module}(hb:Fl b)(hx:Fl x)(hy:Fl y)(h:zeN b x y=[]){k:Nat}(kx: ∀m∈x,m.items.length<=k)(ky: ∀m∈y,m.items.length<=k){m:Module}(hm:m∈zcQ b x y):m.items.length<=2*k:=by
 have hM:=zmT hb hx hy h;have:=zgH (l':=(zqF x m.name).map zbo++(zqF y m.name).map zbo) (hM.part.parts m hm) fun p hp=>by
  obtain⟨i,hi,rfl⟩:=List.mem_map.1 hp;obtain⟨z,hz,e,hi'⟩:=ztG hb hx hy h hm hi;rw[List.mem_append,<-e];refine hz.imp (fun h=> ?_) (fun h=> ?_)
  ·rw[ztn hx.part h]; exact List.mem_map.2 ⟨i,hi',rfl⟩
  ·rw[ztn hy.part h]; exact List.mem_map.2 ⟨i,hi',rfl⟩
 simp only[List.length_map,List.length_append]at this;have h1:=ztm kx m.name;have h2:=ztm ky m.name;omega
open Go.Aw Go.Sort Go.RowKit Go.Shelf
def Tryz.sortPlace_ren:Go.Shelf.Ren:=⟨fun | 6=>182 | 15=>171 | 14=>236 | 28=>223 | 29=>224 | 20=>268 | 21=>269 | 22=>270 | 23=>271 | 24=>272 | 25=>273 | 26=>274 | 27=>275 | 46=>293 | 47=>260 | 48=>261 | 49=>294 | 50=>295 | 57=>300 | n=>n,fun | 22=>147 | 24=>166 | 25=>270 | 3=>3 | 39=>253 | 0=>0 | 53=>307 | 55=>309 | 4=>4 | 46=>301 | 45=>300 | 50=>234 | 5=>5 | 9=>9 | 66=>337 | 70=>341 | 76=>362 | 77=>289 | n=>n,fun | n=>n⟩
theorem Tryz.sortPlace:Go.Proofs.SlLaysF0.n6 Tryz.prog Tryz.sortPlace_ren:={
 zat:=by kernel_rfl
 f6:=⟨Tryz.f182.name,by decide,Tryz.func182.trans (congrArg some (by kernel_rfl))⟩
 f14:=⟨Tryz.f236.name,by decide,Tryz.func236.trans (congrArg some (by kernel_rfl))⟩
 f15:=Tryz.func171.trans (congrArg some (by kernel_rfl))
 f20:=⟨Tryz.f268.name,by decide,Tryz.func268.trans (congrArg some (by kernel_rfl))⟩
 f21:=⟨Tryz.f269.name,by decide,Tryz.func269.trans (congrArg some (by kernel_rfl))⟩
 f22:=⟨Tryz.f270.name,by decide,Tryz.func270.trans (congrArg some (by kernel_rfl))⟩
 f23:=⟨Tryz.f271.name,by decide,Tryz.func271.trans (congrArg some (by kernel_rfl))⟩
 f24:=⟨Tryz.f272.name,by decide,Tryz.func272.trans (congrArg some (by kernel_rfl))⟩
 f25:=⟨Tryz.f273.name,by decide,Tryz.func273.trans (congrArg some (by kernel_rfl))⟩
 f26:=⟨Tryz.f274.name,by decide,Tryz.func274.trans (congrArg some (by kernel_rfl))⟩
 f27:=⟨Tryz.f275.name,by decide,Tryz.func275.trans (congrArg some (by kernel_rfl))⟩
 f28:=Tryz.func223.trans (congrArg some (by kernel_rfl))
 f29:=Tryz.func224.trans (congrArg some (by kernel_rfl))
 f46:=⟨Tryz.f293.name,by decide,Tryz.func293.trans (congrArg some (by kernel_rfl))⟩
 f47:=Tryz.func260.trans (congrArg some (by kernel_rfl))
 f48:=Tryz.func261.trans (congrArg some (by kernel_rfl))
 f49:=⟨Tryz.f294.name,by decide,Tryz.func294.trans (congrArg some (by kernel_rfl))⟩
 f50:=⟨Tryz.f295.name,by decide,Tryz.func295.trans (congrArg some (by kernel_rfl))⟩
 f57:=⟨Tryz.f300.name,by decide,Tryz.func300.trans (congrArg some (by kernel_rfl))⟩
 t0:=Tryz.underlying0
 a0:=Tryz.isAgg0
 z0:=Tryz.sizeOf0
 v0:=Tryz.zeroValue0
 t3:=Tryz.underlying3
 a3:=Tryz.isAgg3
 z3:=Tryz.sizeOf3
 v3:=Tryz.zeroValue3
 t4:=Tryz.underlying4
 a4:=Tryz.isAgg4
 z4:=Tryz.sizeOf4
 v4:=Tryz.zeroValue4
 t5:=Tryz.underlying5
 a5:=Tryz.isAgg5
 z5:=Tryz.sizeOf5
 v5:=Tryz.zeroValue5
 t9:=Tryz.underlying9
 a9:=Tryz.isAgg9
 z9:=Tryz.sizeOf9
 v9:=Tryz.zeroValue9
 t22:=Tryz.underlying147
 a22:=Tryz.isAgg147
 z22:=Tryz.sizeOf147
 v22:=Tryz.zeroValue147
 t25:=Tryz.underlying270
 a25:=Tryz.isAgg270
 z25:=Tryz.sizeOf270
 v25:=Tryz.zeroValue270
 t39:=Tryz.underlying253
 a39:=Tryz.isAgg253
 z39:=Tryz.sizeOf253
 v39:=Tryz.zeroValue253
 t45:=Tryz.underlying300
 a45:=Tryz.isAgg300
 z45:=Tryz.sizeOf300
 v45:=Tryz.zeroValue300
 t46:=Tryz.underlying301
 a46:=Tryz.isAgg301
 z46:=Tryz.sizeOf301
 v46:=Tryz.zeroValue301
 t50:=Tryz.underlying234
 a50:=Tryz.isAgg234
 z50:=Tryz.sizeOf234
 v50:=Tryz.zeroValue234
 t53:=Tryz.underlying307
 a53:=Tryz.isAgg307
 z53:=Tryz.sizeOf307
 v53:=Tryz.zeroValue307
 t55:=Tryz.underlying309
 a55:=Tryz.isAgg309
 z55:=Tryz.sizeOf309
 v55:=Tryz.zeroValue309
 t66:=Tryz.underlying337
 a66:=Tryz.isAgg337
 z66:=Tryz.sizeOf337
 v66:=Tryz.zeroValue337
 t70:=Tryz.underlying341
 a70:=Tryz.isAgg341
 z70:=Tryz.sizeOf341
 v70:=Tryz.zeroValue341
 t76:=Tryz.underlying362
 a76:=Tryz.isAgg362
 z76:=Tryz.sizeOf362
 v76:=Tryz.zeroValue362
 t77:=Tryz.underlying289
 a77:=Tryz.isAgg289
 z77:=Tryz.sizeOf289
 v77:=Tryz.zeroValue289}
def zaL(p:Place):List D:=[eS p.module,eI p.part.kind.1,eS p.part.name]
set_option maxHeartbeats 4000000 in
theorem place_w(am:ByteArray)(ak:Int)(an:ByteArray)(bm:ByteArray)(bk:Int)(bn:ByteArray)(w:World):Calls Tryz.prog 180 #[.agg #[.string am,.int .i64 ak,.string an],.agg #[.string bm,.int .i64 bk,.string bn]] w fun e w'=>
  e= .returned (.int .i64 (orI [zsu am bm,zid ak bk,zsu an bn]))/\ ∃q os',w'=grow (w.drewN q) os':=by
 go_enter Tryz.func180,Tryz.ntmps180
 go_wp2;refine wp_region_still_tail 19 zat (by kernel_rfl) ?_;obtain⟨W,hW⟩: ∃W:World,W={((w.alloc (.cells #[.string am,.int .i64 ak,.string an] 166)).alloc (.cells #[.string bm,.int .i64 bk,.string bn] 166))with drawn:=((w.alloc (.cells #[.string am,.int .i64 ak,.string an] 166)).alloc (.cells #[.string bm,.int .i64 bk,.string bn] 166)).drawn +1}:=⟨_,rfl⟩;rw[<-hW];obtain⟨c0,c1,hG⟩:=two_w w _ _ W hW;have a0:W.cell? ⟨w.heap.size,0,none⟩=some (.string am):=by simp[World.cell?,c0]
 have a1:W.cell? ⟨w.heap.size,1,none⟩=some (.int .i64 ak):=by simp[World.cell?,c0]
 have a2:W.cell? ⟨w.heap.size,2,none⟩=some (.string an):=by simp[World.cell?,c0]
 have b0:W.cell? ⟨w.heap.size+1,0,none⟩=some (.string bm):=by simp[World.cell?,c1]
 have b1:W.cell? ⟨w.heap.size+1,1,none⟩=some (.int .i64 bk):=by simp[World.cell?,c1]
 have b2:W.cell? ⟨w.heap.size+1,2,none⟩=some (.string bn):=by simp[World.cell?,c1]
 clear hW c0 c1;simp only[List.take_succ_cons,List.take_zero,List.drop_succ_cons,List.drop_zero]
 repeat still_step
 still_call (cmpS_w _ _ _)
 repeat still_step
 still_call (cmpI_w _ _ _)
 repeat still_step
 still_call (cmpS_w _ _ _)
 repeat still_step
 try refine wpStill_nil ?_
 generalize hx:zsu am bm=x at*;generalize hy:zid ak bk=y at*;generalize hz:zsu an bn=z at*;clear a0 a1 a2 b0 b1 b2;obtain⟨q,os',rfl⟩:=hG;generalize hWW:grow (w.drewN q) os'=W;have hor: ∀W',W'=W.alloc (.cells #[.int .i64 x,.int .i64 y,.int .i64 z] 3)->Calls Tryz.prog 154 #[.slice (some ⟨W.heap.size,0,none⟩) 3 3] W' fun e w'=>e= .returned (.int .i64 (orI [x,y,z]))/\w'=W':=by
  rintro W' rfl;have hh:=World.alloc_heap_new W (.cells #[.int .i64 x,.int .i64 y,.int .i64 z] 3);exact or_w x y z _ _ _ (by simp only[World.cell?,hh]; rfl) (by simp only[World.cell?,hh]; rfl) (by simp only[World.cell?,hh]; rfl)
 generalize hr:orI [x,y,z]=r at*
 go_wp2_with (go_at_call 154; refine(hor _ rfl).mono ?_; rintro e w' ⟨rfl,rfl⟩)
 go_ret;refine⟨by rw[hx,hy,hz,hr]; rfl,q,os'++#[.cells #[.int .i64 x,.int .i64 y,.int .i64 z] 3],?_⟩;rw[alloc_eq_grow,<-hWW,grow_grow]
def cmpQ(a b:Place):Int:=orI [zsu a.module.1 b.module.1,zid a.part.kind.1 b.part.kind.1,zsu a.part.name.1 b.part.name.1]
theorem orI_cons(x:Int)(l:List Int):orI (x::l)=if x=0 then orI l else x:=by
 unfold orI;rw[List.find?_cons];by_cases h:x=0
 ·simp[h]
 ·have hx:(x !=0)=true:=by simpa using h
  rw[if_neg h,hx];rfl
theorem cmpQ_eq(a b:Place):cmpQ a b=if zsu a.module.1 b.module.1=0 then cmpP a.part b.part else zsu a.module.1 b.module.1:=by
 unfold cmpQ cmpP;rw[orI_cons]
theorem zwX(a b:Place):cmpQ a b<0↔ltQ a b=true:=by
 rw[cmpQ_eq];have h0:=zpd a.module b.module;have h1:=zwV a.module b.module;have h2:=zwW a.part b.part;unfold ltQ;rw[Bool.or_eq_true,Bool.and_eq_true,decide_eq_true_eq,<-h1,<-h2,<-h0];by_cases h:zsu a.module.1 b.module.1=0
 ·rw[if_pos h];simp[h]
 ·rw[if_neg h];simp[h]
theorem swoQ{α:Type}(f:α->Place):SWO (ltOf fun a b=>cmpQ (f a) (f b)):=by
 have e: ∀a b,ltOf (fun a b=>cmpQ (f a) (f b)) a b=ltQ (f a) (f b):=fun a b=>by
  unfold ltOf;rw[Bool.eq_iff_iff,decide_eq_true_eq]; exact zwX _ _
 refine{irrefl:=fun a=>by rw[e]; exact zl3.irr _,trans:=fun a b c h1 h2=>by rw[e]at*; exact zl3.tr _ _ _ h1 h2,ntrans:=fun a b c h1 h2=> ?_};rw[e]at*;cases h:ltQ (f a) (f c)with
 | false=>rfl
 | true=>
  cases hb:ltQ (f b) (f a)with
  | true=>rw[zl3.tr _ _ _ hb h]at h2; cases h2
  | false=>have:=zl3.conn _ _ h1 hb; rw[this,h2]at h; cases h
theorem sortQ_c(l:List Place)(hl:l.length<4611686018427387904):FnL Tryz.prog 182 [.ar 0 l.length,.d (.clo (.func 180) [] [])] [(0,.arr 166 3 .flat (l.map zaL))]
  (fun V ol new=>V= .tup []/\(∃l':List Place,l.Perm l'/\(l'.Pairwise fun x y=> ¬cmpQ y x<0)/\ol=[(0,.arr 166 3 .flat (l'.map zaL))])/\new=[]):=by
 refine zx1 Tryz.sortPlace zaL id cmpQ 3 (by omega) (fun x=>rfl) (fun x d hd=> ?_) Tryz.isAgg166 Tryz.sizeOf166 swoQ 180 (fun bs w=>Tryz.call180 bs w) (fun bs w=>Tryz.call182 bs w) (fun W F x y ra rb h1 h2 w=> ?_) l hl
 ·simp only[zaL,eS,eI,List.mem_cons,List.not_mem_nil,or_false]at hd;rcases hd with rfl | rfl | rfl
  all_goals simp[D.one,Value.oneCell']
 ·simp only[zaL,eI,eS,zav,Aw.Rd]at h1 h2;obtain⟨_,_,rfl,rfl,_,_,rfl,rfl,_,_,rfl,rfl,rfl⟩:=h1;obtain⟨_,_,rfl,rfl,_,_,rfl,rfl,_,_,rfl,rfl,rfl⟩:=h2;exact place_w x.module.1 x.part.kind.1 x.part.name.1 y.module.1 y.part.kind.1 y.part.name.1 w
/-- A sorted list,once. -/
theorem not_cmpQ{l:List Place}(h:l.Pairwise fun x y=> ¬cmpQ y x<0)(hn:l.Nodup):Srt ltQ id l:=by
 unfold Srt;refine(List.Pairwise.and h hn).imp ?_;rintro a b ⟨h1,h2⟩;rw[zwX]at h1;cases hab:ltQ a b with
 | true=>exact hab
 | false=>exact absurd (zl3.conn a b hab (by simpa using h1)) h2
end Go.Proofs.YtbenhdgpogiadaaGreat
