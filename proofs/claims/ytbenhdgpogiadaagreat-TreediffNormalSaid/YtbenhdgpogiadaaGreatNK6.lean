/-
 CONTRACTS and plain laws. Conditions: those of each law.
-/
import Derived.Test.YtbenhdgpogiadaaGreatNK3
import Derived.Test.YtbenhdgpogiadaaGreatNK5
import Derived.Test.YtbenhdgpogiadaaGreatNGIn
set_option linter.unusedSimpArgs false
set_option linter.unusedVariables false
namespace Go.Proofs.YtbenhdgpogiadaaGreat
open Go.Aw
open Nat renaming reduceEqDiff->pE,reduceLT->pL,reduceAdd->pA,reduceSub->pS,reduceMul->pM,reduceLeDiff->pD
open Int renaming reduceToNat->qT,reduceGT->qG,reduceLT->qL,reduceGE->qH,reduceBNe->qN,reduceBEq->qB,reduceLE->qE,reduceNe->qO,reduceAdd->qA,reduceNeg->qM
set_option maxRecDepth 100000
set_option maxHeartbeats 20000000
def zyD(b n:Nat):AO:=.box [.clo (.func 120) [] [.bp b 0,.bp n 0]]
def bothE(n:Str)(x y:Item):List Edit:=if zlG x y=true then []else [zco n y]
theorem dboth_c(l:List Edit)(hl:l.length<=4000000)(n:Str)(x y:Item):FnL Tryz.prog 123 [.d (.agg (zaK x)),.d (.agg (zaK y)),.bp 103 0] (dfN 100 101 102 n 104 l++[(103,zyD 101 102)])
  (fun V ol new=>V= .tup []/\ol=dfN 100 101 102 n 114 (l++bothE n x y)++[(103,zyD 101 102)]/\new=[114]):=by
 refine FnL.of_eK 1999 [100,101,102] (own:=[]) (fun i=>if i=0 then [.rnm [(100,100),(101,101),(102,102),(104,114),(103,103),(3,3),(4,4),(1999,1999)]]else if i=2 then [.rnm [(100,100),(101,101),(102,102),(115,114),(103,103),(3,3),(4,4),(1999,1999)]]else []) [2] zat Tryz.func123 rfl Tryz.call123 Tryz.ntmps123 (Nat.le_of_ble_eq_true rfl) Tryz.results123 (by simp[dfN,dfO,zyD,zyk,AO.noRef,AV.noRefs,AV.noRef]) (fun gs=> ?_);have ic:=sameI_c x y;have sc:=dset_c l hl n y;unfold bothE;rcases Bool.eq_false_or_eq_true (zlG x y)with hs | hs
 ·rw[hs]at ic ⊢;simp only[ZE,↓reduceIte,pE,pL,pA,pS,pM,pD]at ic;simp only[ZE,↓reduceIte,pE,pL,pA,pS,pM,pD,zN,qT,qG,qL,qH,qN,qB,qE,qO,qA,qM,dfN,dfO,zyD,List.append_nil];refine EFn.p ?_;simp only[ZE,↓reduceIte,pE,pL,pA,pS,pM,pD,zN,qT,qG,qL,qH,qN,qB,qE,qO,qA,qM];refine zar.i ic ?_;simp only[ZE,↓reduceIte,pE,pL,pA,pS,pM,pD,zN,qT,qG,qL,qH,qN,qB,qE,qO,qA,qM];refine⟨[3,4,1999],[114],?_⟩;simp only[ZE,↓reduceIte,pE,pL,pA,pS,pM,pD]
 ·rw[hs]at ic ⊢;simp only[ZE,↓reduceIte,pE,pL,pA,pS,pM,pD]at ic;simp only[ZE,↓reduceIte,pE,pL,pA,pS,pM,pD,dfN,dfO]at sc;simp only[ZE,↓reduceIte,pE,pL,pA,pS,pM,pD,zN,qT,qG,qL,qH,qN,qB,qE,qO,qA,qM,dfN,dfO,zyD];refine EFn.p ?_;simp only[ZE,↓reduceIte,pE,pL,pA,pS,pM,pD,zN,qT,qG,qL,qH,qN,qB,qE,qO,qA,qM];refine zar.i ic ?_;simp only[ZE,↓reduceIte,pE,pL,pA,pS,pM,pD,zN,qT,qG,qL,qH,qN,qB,qE,qO,qA,qM];refine EFn.g ⟨[(0,100),(1,101),(2,102),(4,114),(40,115)],_,_,_,sc,?_⟩;simp only[ZE,↓reduceIte,pE,pL,pA,pS,pM,pD];rintro V ol new ⟨rfl,rfl,rfl⟩;simp only[ZE,↓reduceIte,pE,pL,pA,pS,pM,pD];refine⟨[3,4,1999],[114],?_⟩;simp only[ZE,↓reduceIte,pE,pL,pA,pS,pM,pD]
set_option maxHeartbeats 40000000
theorem zya(n:Nat):decide (((n+1:Nat):Int)>0)=true:=decide_eq_true (by omega)
theorem zx2(n:Nat):((0:Int)<((n+1:Nat):Int))=True:=eq_true (by omega)
theorem zx3(n:Nat):((1:Int)<=((n+1:Nat):Int))=True:=eq_true (by omega)
theorem zx5(n:Nat):(((n+1:Nat):Int)==0)=false:=beq_eq_false_iff_ne.2 (by omega)
theorem zyX{α β:Type}(f:α->β)(l:List α):List.take (l.length+1-1) (l.map f)=l.map f:=by
 rw[Nat.add_sub_cancel]; exact List.take_of_length_le (by rw[List.length_map]; exact Nat.le_refl _)
theorem rowI(x:Item)(l:List Item): ∀e:List D,e=zaK x\/e∈l.map zaK->e.length=35:=by
 rintro e (rfl | h)
 ·simp[zaK,zgL,zb6,zib]
 ·obtain⟨p,_,rfl⟩:=List.mem_map.1 h; simp[zaK,zgL,zb6,zib]
def mI(n:Str)(m:Nat)(xs ys:List Item):List Edit:=zyn ltP zbg (fun x=>[zyw n x]) (fun y=>[zco n y]) (fun x y=>bothE n x y) m xs ys
theorem itemsD_mI(n:Str)(a b:List Item):zs8 n a b=mI n (a.length+b.length) a b:=rfl
def zye:List AV:=[.d (.clo (.func 53) [] []),.clo (.func 122) [] [.bp 101 0,.bp 102 0],.clo (.func 120) [] [.bp 101 0,.bp 102 0],.clo (.func 123) [] [.bp 103 0]]
theorem cmpP_gt{a b:Part}:0<zyB a b↔ltP b a=true:=by
 have h1:=zwF a b;have h0:=zyI a b;constructor
 ·intro h;cases hq:ltP b a with
  | true=>rfl
  | false=>
   have:=zuJ.conn a b (by cases hr:ltP a b with | false=>rfl | true=>have:=h1.2 hr; omega) hq;have:=h0.2 this;omega
 ·intro h;have h2: ¬zyB a b<0:=fun hc=>by have:=zuJ.asymm (h1.1 hc); rw[h]at this; cases this
  have h3:zyB a b≠0:=fun hc=>by have:=h0.1 hc; subst this; rw[zuJ.irr]at h; cases h
  omega
theorem mergeI_c(l:List Edit)(n:Str)(a b:List Item)(hl:(l++zs8 n a b).length <=4000000):FnL Tryz.prog 121 [.d (.sl (a.map zaK)),.d (.sl (b.map zaK)),.agg zye] (dfN 100 101 102 n 104 l++[(103,zyD 101 102)])
  (fun V ol new=>V= .tup []/\ol=dfN 100 101 102 n 114 (l++zs8 n a b)++[(103,zyD 101 102)]/\new=[114]):=by
 refine FnL.of_eK 1999 [100,101,102,103] (own:=[]) (fun i=>if i=0 then [.rnm [(100,100),(101,101),(102,102),(104,114),(103,103),(5,5),(1999,1999)]]else []) [] zat Tryz.func121 rfl Tryz.call121 Tryz.ntmps121 (Nat.le_of_ble_eq_true rfl) Tryz.results121 (by simp[dfN,dfO,zyD,zye,zyk,AO.noRef,AV.noRefs,AV.noRef]) (fun gs=> ?_);simp only[ZE,↓reduceIte,pE,pL,pA,pS,pM,pD,zN,qT,qG,qL,qH,qN,qB,qE,qO,qA,qM,dfN,dfO,zyD,zye];refine zgR (X:=List Item×List Item×List Edit) (fun _ i=>if i=5 then [.rnm [(100,100),(101,101),(102,102),(115,114),(103,103),(5,5),(1999,1999)]]else if i=8 then [.rnm [(100,100),(101,101),(102,102),(115,114),(103,103),(5,5),(1999,1999)]]else if i=2 then [.rnm [(100,100),(101,101),(102,102),(115,114),(103,103),(5,5),(1999,1999)]]else if i=2004 then [.ord ⟨[(0,none),(1,none),(2,none),(3,none),(4,none),(5,none),(6,none),(7,none),(8,none),(9,none),(10,none),(11,none),(12,none),(13,none),(14,none),(15,none),(16,none),(17,none),(18,none),(19,none),(20,none)]⟩]else if i=2007 then [.ord ⟨[(0,none),(1,none),(2,none),(3,none),(4,none),(5,none),(6,none),(7,none),(8,none),(9,none),(10,none),(11,none),(12,none),(13,none),(14,none),(15,none)]⟩]else if i=2003 then [.ord ⟨[(0,none),(1,none),(2,none),(3,none),(4,some [2,3]),(5,some [])]⟩]else []) zat (a.length+b.length)
  (fun r X=>X.1.length+X.2.1.length+r<=a.length+b.length/\X.2.2++mI n (a.length+b.length-r) X.1 X.2.1=l++zs8 n a b)
  (fun r X=>([(0,.d (.sl (X.1.map zaK))),(1,.d (.sl (X.2.1.map zaK))),(5,.bp 5 0)],[(5,.box zye),(1999,.gh [.bp 100 0,.bp 101 0,.bp 102 0,.bp 103 0] gs),(100,.box [.ar 114 X.2.2.length]),(114,.arr 69 43 .flat (X.2.2.map zfN)),(101,.box [.bp 100 0]),(102,.box [.d (eS n)]),(103,zyD 101 102)])) (a,b,l) ?_ ?_ ?_ (fun r X hr hI=> ?_)
 ·exact⟨by simp,by rw[itemsD_mI]; rfl⟩
 ·simp only[ZE,↓reduceIte,pE,pL,pA,pS,pM,pD,zN,qT,qG,qL,qH,qN,qB,qE,qO,qA,qM,zye,zyD]
 ·simp only[ZE,↓reduceIte,pE,pL,pA,pS,pM,pD,zN,qT,qG,qL,qH,qN,qB,qE,qO,qA,qM,zye,zyD]
 obtain⟨xs,ys,es⟩:=X;obtain⟨hn,he⟩:=hI;simp only at hn he;have hes:es.length<=4000000:=by rw[<-he,List.length_append]at hl; omega
 match xs,ys with
 | [],[]=>
  have e:es=l++zs8 n a b:=by rw[<-he]; cases (a.length+b.length-r) <;> simp[mI,zyn]
  subst e;simp only[zye,zyD];simp(maxSteps:=4000000) only[ZE,↓reduceIte,pE,pL,pA,pS,pM,pD,zN,qT,qG,qL,qH,qN,qB,qE,qO,qA,qM];refine⟨[5,1999],[114],?_⟩;simp only[ZE,↓reduceIte,pE,pL,pA,pS,pM,pD]
 | x::xs,[]=>
  obtain⟨m,hm⟩: ∃m,a.length+b.length-r=m+1:=⟨a.length+b.length-r-1,by simp at hn; omega⟩;have hm':a.length+b.length-(r+1)=m:=by omega
  have hmi:mI n (m+1) (x::xs) []=[zyw n x]++mI n m xs []:=rfl;rw[hm,hmi,<-List.append_assoc]at he;have hel:(es++[zyw n x]).length =es.length+1:=by rw[List.length_append]; rfl
  have rc:=drem_c es hes n x;simp only[dfN,dfO]at rc;simp only[zye,zyD];simp(maxSteps:=4000000) only[ZE,↓reduceIte,pE,pL,pA,pS,pM,pD,zN,qT,qG,qL,qH,qN,qB,qE,qO,qA,qM,zya,zx2,List.length_map];refine⟨by kernel_rfl,by kernel_rfl,EFn.g ⟨[(0,100),(1,101),(2,102),(4,114),(40,115)],_,_,_,rc,?_⟩⟩;simp only[ZE,↓reduceIte,pE,pL,pA,pS,pM,pD];rintro V ol new ⟨rfl,rfl,rfl⟩;simp only[ZE,↓reduceIte,pE,pL,pA,pS,pM,pD,zN,qT,qG,qL,qH,qN,qB,qE,qO,qA,qM,zx3,zyX];have rx:=rowI x xs;simp only[ZE,↓reduceIte,pE,pL,pA,pS,pM,pD]at rx;refine⟨⟨rx,Int.le_refl _⟩,?_⟩;simp only[zep];refine⟨by simp at hn; omega,(xs,[],es++[zyw n x]),⟨by simp at hn ⊢; omega,by rw[hm']; exact he⟩,?_⟩;simp only[ZE,↓reduceIte,pE,pL,pA,pS,pM,pD,zye,zyD]
 | [],y::ys=>
  obtain⟨m,hm⟩: ∃m,a.length+b.length-r=m+1:=⟨a.length+b.length-r-1,by simp at hn; omega⟩;have hm':a.length+b.length-(r+1)=m:=by omega
  have hmi:mI n (m+1) [] (y::ys)=[zco n y]++mI n m [] ys:=rfl;rw[hm,hmi,<-List.append_assoc]at he;have rc:=dset_c es hes n y;simp only[dfN,dfO]at rc;simp only[zye,zyD];simp(maxSteps:=4000000) only[ZE,↓reduceIte,pE,pL,pA,pS,pM,pD,zN,qT,qG,qL,qH,qN,qB,qE,qO,qA,qM,zya,zx2,zx5,List.length_map];refine⟨by kernel_rfl,by kernel_rfl,by kernel_rfl,EFn.g ⟨[(0,100),(1,101),(2,102),(4,114),(40,115)],_,_,_,rc,?_⟩⟩;simp only[ZE,↓reduceIte,pE,pL,pA,pS,pM,pD];rintro V ol new ⟨rfl,rfl,rfl⟩;simp only[ZE,↓reduceIte,pE,pL,pA,pS,pM,pD,zN,qT,qG,qL,qH,qN,qB,qE,qO,qA,qM,zx3,zyX];have rx:=rowI y ys;simp only[ZE,↓reduceIte,pE,pL,pA,pS,pM,pD]at rx;refine⟨⟨rx,Int.le_refl _⟩,?_⟩;simp only[zep];refine⟨by simp at hn; omega,([],ys,es++[zco n y]),⟨by simp at hn ⊢; omega,by rw[hm']; exact he⟩,?_⟩;simp only[ZE,↓reduceIte,pE,pL,pA,pS,pM,pD,zye,zyD]
 | x::xs,y::ys=>
  obtain⟨m,hm⟩: ∃m,a.length+b.length-r=m+1:=⟨a.length+b.length-r-1,by simp at hn; omega⟩;have hm':a.length+b.length-(r+1)=m:=by omega
  rw[hm]at he;have ic:=zzK x y;obtain⟨c,hc⟩:=zX (zyB (zbg x) (zbg y));have hlt:c<0↔ltP (zbg x) (zbg y)=true:=by rw[<-hc]; exact zwF _ _
  have hgt:0<c↔ltP (zbg y) (zbg x)=true:=by rw[<-hc]; exact cmpP_gt
  rw[hc]at ic;simp only[ZE,↓reduceIte,pE,pL,pA,pS,pM,pD]at ic;by_cases h1:c<0
  ·have hmi:mI n (m+1) (x::xs) (y::ys)=[zyw n x]++mI n m xs (y::ys):=by simp only[mI,zyn,hlt.1 h1,if_true]
   have d1:decide (c<0)=true:=decide_eq_true h1;rw[hmi,<-List.append_assoc]at he;have rc:=drem_c es hes n x;simp only[dfN,dfO]at rc;simp only[zye,zyD];simp(maxSteps:=4000000) only[ZE,↓reduceIte,pE,pL,pA,pS,pM,pD,zN,qT,qG,qL,qH,qN,qB,qE,qO,qA,qM,zya,zx2,zx5,List.length_map];refine⟨by kernel_rfl,zaz.i ic ?_⟩;simp only[ZE,↓reduceIte,pE,pL,pA,pS,pM,pD,zN,qT,qG,qL,qH,qN,qB,qE,qO,qA,qM,d1,zx2];refine⟨by kernel_rfl,EFn.g ⟨[(0,100),(1,101),(2,102),(4,114),(40,115)],_,_,_,rc,?_⟩⟩;simp only[ZE,↓reduceIte,pE,pL,pA,pS,pM,pD];rintro V ol new ⟨rfl,rfl,rfl⟩;simp only[ZE,↓reduceIte,pE,pL,pA,pS,pM,pD,zN,qT,qG,qL,qH,qN,qB,qE,qO,qA,qM,zx3,zyX];have rx:=rowI x xs;simp only[ZE,↓reduceIte,pE,pL,pA,pS,pM,pD]at rx;refine⟨⟨rx,Int.le_refl _⟩,?_⟩;simp only[zep];refine⟨by simp at hn; omega,(xs,y::ys,es++[zyw n x]),⟨by simp at hn ⊢; omega,by rw[hm']; exact he⟩,?_⟩;simp only[ZE,↓reduceIte,pE,pL,pA,pS,pM,pD,zye,zyD]
  have d1:decide (c<0)=false:=decide_eq_false h1;have h1':ltP (zbg x) (zbg y)=false:=by
   cases hq:ltP (zbg x) (zbg y)with
   | false=>rfl
   | true=>exact absurd (hlt.2 hq) h1
  by_cases h2:0<c
  ·have hmi:mI n (m+1) (x::xs) (y::ys)=[zco n y]++mI n m (x::xs) ys:=by simp only[mI,zyn,h1',hgt.1 h2,if_true,Bool.false_eq_true,if_false]
   have d2:decide (c>0)=true:=decide_eq_true h2;rw[hmi,<-List.append_assoc]at he;have rc:=dset_c es hes n y;simp only[dfN,dfO]at rc;simp only[zye,zyD];simp(maxSteps:=4000000) only[ZE,↓reduceIte,pE,pL,pA,pS,pM,pD,zN,qT,qG,qL,qH,qN,qB,qE,qO,qA,qM,zya,zx2,zx5,List.length_map];refine⟨by kernel_rfl,zaz.i ic ?_⟩;simp only[ZE,↓reduceIte,pE,pL,pA,pS,pM,pD,zN,qT,qG,qL,qH,qN,qB,qE,qO,qA,qM,d1,zx2,zx5,List.length_map];refine⟨by kernel_rfl,zaz.i ic ?_⟩;simp only[ZE,↓reduceIte,pE,pL,pA,pS,pM,pD,zN,qT,qG,qL,qH,qN,qB,qE,qO,qA,qM,d2,zx2,zx5,List.length_map];refine⟨by kernel_rfl,EFn.g ⟨[(0,100),(1,101),(2,102),(4,114),(40,115)],_,_,_,rc,?_⟩⟩;simp only[ZE,↓reduceIte,pE,pL,pA,pS,pM,pD];rintro V ol new ⟨rfl,rfl,rfl⟩;simp only[ZE,↓reduceIte,pE,pL,pA,pS,pM,pD,zN,qT,qG,qL,qH,qN,qB,qE,qO,qA,qM,zx3,zyX];have rx:=rowI y ys;simp only[ZE,↓reduceIte,pE,pL,pA,pS,pM,pD]at rx;refine⟨⟨rx,Int.le_refl _⟩,?_⟩;simp only[zep];refine⟨by simp at hn; omega,(x::xs,ys,es++[zco n y]),⟨by simp at hn ⊢; omega,by rw[hm']; exact he⟩,?_⟩;simp only[ZE,↓reduceIte,pE,pL,pA,pS,pM,pD,zye,zyD]
  ·have h2':ltP (zbg y) (zbg x)=false:=by
    cases hq:ltP (zbg y) (zbg x)with
    | false=>rfl
    | true=>exact absurd (hgt.2 hq) h2
   have hmi:mI n (m+1) (x::xs) (y::ys)=bothE n x y++mI n m xs ys:=by simp only[mI,zyn,h1',h2',Bool.false_eq_true,if_false]
   have d2:decide (c>0)=false:=decide_eq_false h2;rw[hmi,<-List.append_assoc]at he;have rc:=dboth_c es hes n x y;simp only[dfN,dfO,zyD,List.cons_append,List.nil_append]at rc;simp only[zye,zyD];simp(maxSteps:=4000000) only[ZE,↓reduceIte,pE,pL,pA,pS,pM,pD,zN,qT,qG,qL,qH,qN,qB,qE,qO,qA,qM,zya,zx2,zx5,List.length_map];refine⟨by kernel_rfl,zaz.i ic ?_⟩;simp only[ZE,↓reduceIte,pE,pL,pA,pS,pM,pD,zN,qT,qG,qL,qH,qN,qB,qE,qO,qA,qM,d1,zx2,zx5,List.length_map];refine⟨by kernel_rfl,zaz.i ic ?_⟩;simp only[ZE,↓reduceIte,pE,pL,pA,pS,pM,pD,zN,qT,qG,qL,qH,qN,qB,qE,qO,qA,qM,d2,zx2,zx5,List.length_map];refine⟨by kernel_rfl,EFn.g ⟨[(100,100),(101,101),(102,102),(103,103),(104,114),(114,115)],_,_,_,rc,?_⟩⟩;simp only[ZE,↓reduceIte,pE,pL,pA,pS,pM,pD];rintro V ol new ⟨rfl,rfl,rfl⟩;simp only[ZE,↓reduceIte,pE,pL,pA,pS,pM,pD,zN,qT,qG,qL,qH,qN,qB,qE,qO,qA,qM,zx3,zyX];have rx:=rowI x xs;have ry:=rowI y ys;simp only[ZE,↓reduceIte,pE,pL,pA,pS,pM,pD]at rx ry;refine⟨by kernel_rfl,⟨rx,Int.le_refl _⟩,⟨ry,Int.le_refl _⟩,⟨ry,Int.le_refl _⟩,?_⟩;simp only[zep];refine⟨by simp at hn; omega,(xs,ys,es++bothE n x y),⟨by simp at hn ⊢; omega,by rw[hm']; exact he⟩,?_⟩;simp only[ZE,↓reduceIte,pE,pL,pA,pS,pM,pD,zye,zyD]
theorem zy5(l:List Edit)(n:Str)(a b:List Item)(hl:(l++zs8 n a b).length <=4000000):FnL Tryz.prog 67 [.bp 100 0,.d (eS n),.d (.sl (a.map zaK)),.d (.sl (b.map zaK))] (dfO 100 104 l)
  (fun V ol new=>V= .tup []/\ol=dfO 100 114 (l++zs8 n a b)/\new=[114]):=by
 refine FnL.of_eC (own:=[]) (fun _=>[]) [0] zat Tryz.func67 rfl Tryz.call67 Tryz.ntmps67 (Nat.le_of_ble_eq_true rfl) Tryz.results67 ?_;have mc:=mergeI_c l n a b hl;simp only[dfN,dfO,zyD,zye,List.cons_append,List.nil_append]at mc;simp only[dfO];simp(maxSteps:=4000000) only[ZE,↓reduceIte,pE,pL,pA,pS,pM,pD,zN,qT,qG,qL,qH,qN,qB,qE,qO,qA,qM];refine EFn.g ⟨[(100,100),(101,4),(102,5),(103,8),(104,104),(114,114)],_,_,_,mc,?_⟩;simp only[ZE,↓reduceIte,pE,pL,pA,pS,pM,pD];rintro V ol new ⟨rfl,rfl,rfl⟩;simp only[ZE,↓reduceIte,pE,pL,pA,pS,pM,pD];refine⟨[4,5,8],[114],?_⟩;simp only[ZE,↓reduceIte,pE,pL,pA,pS,pM,pD]
theorem items_n(l:List Edit)(n:Str)(a:List Item)(hl:(l++zs8 n a []).length <=4000000):FnL Tryz.prog 67 [.bp 100 0,.d (eS n),.d (.sl (a.map zaK)),.nils] (dfO 100 104 l)
  (fun V ol new=>V= .tup []/\ol=dfO 100 114 (l++zs8 n a [])/\new=[114]):=
 (zy5 l n a [] hl).weak fun O W F η vs h=>by
  simp only[zaN]at h ⊢;obtain⟨v0,_,rfl,h0,v1,_,rfl,h1,v2,_,rfl,h2,v3,_,rfl,h3,rfl⟩:=h;exact⟨_,_,rfl,h0,_,_,rfl,h1,_,_,rfl,h2,_,_,rfl,nils_sl h3,rfl⟩
theorem items_n'(l:List Edit)(n:Str)(b:List Item)(hl:(l++zs8 n [] b).length <=4000000):FnL Tryz.prog 67 [.bp 100 0,.d (eS n),.nils,.d (.sl (b.map zaK))] (dfO 100 104 l)
  (fun V ol new=>V= .tup []/\ol=dfO 100 114 (l++zs8 n [] b)/\new=[114]):=
 (zy5 l n [] b hl).weak fun O W F η vs h=>by
  simp only[zaN]at h ⊢;obtain⟨v0,_,rfl,h0,v1,_,rfl,h1,v2,_,rfl,h2,v3,_,rfl,h3,rfl⟩:=h;exact⟨_,_,rfl,h0,_,_,rfl,h1,_,_,rfl,nils_sl h2,_,_,rfl,h3,rfl⟩
theorem dgone_c(l:List Edit)(m:Module)(hl:(l++(zs8 m.name m.items []++[zuR m.name])).length <=4000000):FnL Tryz.prog 66 [.d (.agg (zaC m)),.bp 101 0] (dfO 100 104 l++[(101,.box [.bp 100 0])])
  (fun V ol new=>V= .tup []/\ol=dfO 100 114 (l++(zs8 m.name m.items []++[zuR m.name]))++[(101,.box [.bp 100 0])]/\new=[114]):=by
 refine FnL.of_eK 1999 [100] (own:=[]) (fun i=>if i=0 then [.rnm [(100,100),(101,101),(104,114),(2,2),(1999,1999)]]else if i=1 then [.rnm [(100,100),(101,101),(115,114),(2,2),(1999,1999)]]else if i=2002 then [.flt ⟨[(0,none),(1,none),(2,none),(3,none),(4,none),(5,none),(6,none),(7,none),(8,none),(9,some [0]),(10,none),(11,none),(12,some [])]⟩ ⟨[],[]⟩]else []) [1] zat Tryz.func66 rfl Tryz.call66 Tryz.ntmps66 (Nat.le_of_ble_eq_true rfl) Tryz.results66 (by simp[dfO,zyk,AO.noRef,AV.noRefs,AV.noRef]) (fun gs=> ?_);have hl1:(l++zs8 m.name m.items []).length +1<=4000000:=by simpa [Nat.add_assoc]using hl
 have mc:=items_n l m.name m.items (by omega);obtain⟨L,hL⟩:=zX (l++zs8 m.name m.items []);rw[<-List.append_assoc,hL,zy3];rw[hL]at mc hl1;have hz:zfN (zuR m.name)=eS m.name::(zfX zc7++(eB false::(zaK zaU++zaC zdP))):=rfl;rw[hz];simp only[dfO]at mc;simp only[ZE,↓reduceIte,pE,pL,pA,pS,pM,pD]at mc;simp only[ZE,↓reduceIte,pE,pL,pA,pS,pM,pD,zN,qT,qG,qL,qH,qN,qB,qE,qO,qA,qM,dfO,zfX,zc7,zaU,zdP,zbQ,zbj,emp,zcW,zbm,zgN,zgO,zbl,zbg,List.map_nil];refine EFn.g ⟨[(100,100),(104,114),(114,115)],_,_,_,mc,?_⟩;simp only[ZE,↓reduceIte,pE,pL,pA,pS,pM,pD];rintro V ol new ⟨rfl,rfl,rfl⟩;simp only[ZE,↓reduceIte,pE,pL,pA,pS,pM,pD,zN,qT,qG,qL,qH,qN,qB,qE,qO,qA,qM,zfX,zc7,zaU,zdP,zbQ,zbj,emp,zcW,zbm,zgN,zgO,zbl,zbg,List.map_nil];refine⟨by kernel_rfl,⟨by omega,by omega⟩,by simp,[2,1999],[114],?_⟩;simp only[ZE,↓reduceIte,pE,pL,pA,pS,pM,pD]
theorem dcome_c(l:List Edit)(m:Module)(hl:(l++(zx7 m::zs8 m.name [] m.items)).length <=4000000):FnL Tryz.prog 68 [.d (.agg (zaC m)),.bp 101 0] (dfO 100 104 l++[(101,.box [.bp 100 0])])
  (fun V ol new=>V= .tup []/\ol=dfO 100 114 (l++(zx7 m::zs8 m.name [] m.items))++[(101,.box [.bp 100 0])]/\new=[114]):=by
 refine FnL.of_eK 1999 [100] (own:=[]) (fun i=>if i=0 then [.rnm [(100,100),(101,101),(104,114),(2,2),(1999,1999)]]else if i=1 then [.rnm [(100,100),(101,101),(115,114),(2,2),(1999,1999)]]else if i=2 then [.rnm [(100,100),(101,101),(115,114),(2,2),(1999,1999)]]else []) [1] zat Tryz.func68 rfl Tryz.call68 Tryz.ntmps68 (Nat.le_of_ble_eq_true rfl) Tryz.results68 (by simp[dfO,zyk,AO.noRef,AV.noRefs,AV.noRef]) (fun gs=> ?_);have e:l++(zx7 m::zs8 m.name [] m.items)=(l++[zx7 m])++zs8 m.name [] m.items:=by simp
 rw[e]at hl ⊢;have hc:=dhead_c l (by rw[List.length_append,List.length_append]at hl; omega) m;have mc:=items_n' (l++[zx7 m]) m.name m.items hl;simp only[dfO]at mc hc;simp only[ZE,↓reduceIte,pE,pL,pA,pS,pM,pD]at mc hc;simp only[ZE,↓reduceIte,pE,pL,pA,pS,pM,pD,zN,qT,qG,qL,qH,qN,qB,qE,qO,qA,qM,dfO];refine EFn.g ⟨[(0,100),(1,114),(40,115)],_,_,_,hc,?_⟩;simp only[ZE,↓reduceIte,pE,pL,pA,pS,pM,pD];rintro V ol new ⟨rfl,rfl,rfl⟩;simp only[ZE,↓reduceIte,pE,pL,pA,pS,pM,pD,zN,qT,qG,qL,qH,qN,qB,qE,qO,qA,qM];refine EFn.g ⟨[(100,100),(104,114),(114,115)],_,_,_,mc,?_⟩;simp only[ZE,↓reduceIte,pE,pL,pA,pS,pM,pD];rintro V ol new ⟨rfl,rfl,rfl⟩;simp only[ZE,↓reduceIte,pE,pL,pA,pS,pM,pD];refine⟨[2,1999],[114],?_⟩;simp only[ZE,↓reduceIte,pE,pL,pA,pS,pM,pD]
theorem dmod_c(l:List Edit)(m n:Module)(hl:(l++(headD m n++zs8 n.name m.items n.items)).length <=4000000):FnL Tryz.prog 70 [.d (.agg (zaC m)),.d (.agg (zaC n)),.bp 101 0] (dfO 100 104 l++[(101,.box [.bp 100 0])])
  (fun V ol new=>V= .tup []/\ol=dfO 100 114 (l++(headD m n++zs8 n.name m.items n.items))++[(101,.box [.bp 100 0])]/\new=[114]):=by
 refine FnL.of_eK 1999 [100] (own:=[]) (fun i=>if i=0 then [.rnm [(100,100),(101,101),(104,114),(3,3),(4,4),(1999,1999)]]else if i=2 then [.rnm [(100,100),(101,101),(115,114),(3,3),(4,4),(1999,1999)]]else if i=3 then [.rnm [(100,100),(101,101),(115,114),(3,3),(4,4),(1999,1999)]]else []) [2] zat Tryz.func70 rfl Tryz.call70 Tryz.ntmps70 (Nat.le_of_ble_eq_true rfl) Tryz.results70 (by simp[dfO,zyk,AO.noRef,AV.noRefs,AV.noRef]) (fun gs=> ?_);have sc:=sameH_c m n;rcases Bool.eq_false_or_eq_true (zug m n)with hs | hs
 ·have e:l++(headD m n++zs8 n.name m.items n.items)=l++zs8 n.name m.items n.items:=by simp[headD,hs]
  rw[e]at hl ⊢;have mc:=zy5 l n.name m.items n.items hl;rw[hs]at sc;simp only[dfO]at mc;simp only[ZE,↓reduceIte,pE,pL,pA,pS,pM,pD]at mc sc;simp only[ZE,↓reduceIte,pE,pL,pA,pS,pM,pD,zN,qT,qG,qL,qH,qN,qB,qE,qO,qA,qM,dfO];refine EFn.p ?_;simp(maxSteps:=4000000) only[ZE,↓reduceIte,pE,pL,pA,pS,pM,pD,zN,qT,qG,qL,qH,qN,qB,qE,qO,qA,qM];refine zar.i sc ?_;simp(maxSteps:=4000000) only[ZE,↓reduceIte,pE,pL,pA,pS,pM,pD,zN,qT,qG,qL,qH,qN,qB,qE,qO,qA,qM];refine EFn.g ⟨[(100,100),(104,114),(114,115)],_,_,_,mc,?_⟩;simp(maxSteps:=4000000) only[ZE,↓reduceIte,pE,pL,pA,pS,pM,pD];rintro V ol new ⟨rfl,rfl,rfl⟩;simp(maxSteps:=4000000) only[ZE,↓reduceIte,pE,pL,pA,pS,pM,pD];refine⟨[3,4,1999],[114],?_⟩;simp(maxSteps:=4000000) only[ZE,↓reduceIte,pE,pL,pA,pS,pM,pD]
 ·have e:l++(headD m n++zs8 n.name m.items n.items)=(l++[zx7 n])++zs8 n.name m.items n.items:=by simp[headD,hs]
  rw[e]at hl ⊢;have hc:=dhead_c l (by rw[List.length_append,List.length_append]at hl; omega) n;have mc:=zy5 (l++[zx7 n]) n.name m.items n.items hl;rw[hs]at sc;simp only[dfO]at mc hc;simp only[ZE,↓reduceIte,pE,pL,pA,pS,pM,pD]at mc sc hc;simp only[ZE,↓reduceIte,pE,pL,pA,pS,pM,pD,zN,qT,qG,qL,qH,qN,qB,qE,qO,qA,qM,dfO];refine EFn.p ?_;simp(maxSteps:=4000000) only[ZE,↓reduceIte,pE,pL,pA,pS,pM,pD,zN,qT,qG,qL,qH,qN,qB,qE,qO,qA,qM];refine zar.i sc ?_;simp(maxSteps:=4000000) only[ZE,↓reduceIte,pE,pL,pA,pS,pM,pD,zN,qT,qG,qL,qH,qN,qB,qE,qO,qA,qM];refine EFn.g ⟨[(0,100),(1,114),(40,115)],_,_,_,hc,?_⟩;simp(maxSteps:=4000000) only[ZE,↓reduceIte,pE,pL,pA,pS,pM,pD];rintro V ol new ⟨rfl,rfl,rfl⟩;simp(maxSteps:=4000000) only[ZE,↓reduceIte,pE,pL,pA,pS,pM,pD,zN,qT,qG,qL,qH,qN,qB,qE,qO,qA,qM];refine EFn.g ⟨[(100,100),(104,114),(114,115)],_,_,_,mc,?_⟩;simp(maxSteps:=4000000) only[ZE,↓reduceIte,pE,pL,pA,pS,pM,pD];rintro V ol new ⟨rfl,rfl,rfl⟩;simp(maxSteps:=4000000) only[ZE,↓reduceIte,pE,pL,pA,pS,pM,pD];refine⟨[3,4,1999],[114],?_⟩;simp(maxSteps:=4000000) only[ZE,↓reduceIte,pE,pL,pA,pS,pM,pD]
def mM(m:Nat)(xs ys:List Module):List Edit:=zyn ltS Module.name (fun m=>zs8 m.name m.items []++[zuR m.name]) (fun m=>zx7 m::zs8 m.name [] m.items) (fun m n=>headD m n++zs8 n.name m.items n.items) m xs ys
theorem diffN_mM(a b:List Module):zyJ a b=mM (a.length+b.length) a b:=rfl
def zyf:List AV:=[.d (.clo (.func 57) [] []),.clo (.func 66) [] [.bp 101 0],.clo (.func 68) [] [.bp 101 0],.clo (.func 70) [] [.bp 101 0]]
theorem cmpN_gt{a b:Str}:0<zy2 a b↔ltS b a=true:=by
 have h1:zy2 a b<0↔ltS a b=true:=zwE _ _;have h0:zy2 a b=0↔a=b:=zoY _ _;constructor
 ·intro h;cases hq:ltS b a with
  | true=>rfl
  | false=>
   have:=zrt.conn a b (by cases hr:ltS a b with | false=>rfl | true=>have:=h1.2 hr; omega) hq;have:=h0.2 this;omega
 ·intro h;have h2: ¬zy2 a b<0:=fun hc=>by have:=zrt.asymm (h1.1 hc); rw[h]at this; cases this
  have h3:zy2 a b≠0:=fun hc=>by have:=h0.1 hc; subst this; rw[zrt.irr]at h; cases h
  omega
theorem rowM(x:Module)(l:List Module): ∀e:List D,e=zaC x\/e∈l.map zaC->e.length=4:=by
 rintro e (rfl | h)
 ·rfl
 ·obtain⟨p,_,rfl⟩:=List.mem_map.1 h; rfl
theorem mergeM_c(l:List Edit)(a b:List Module)(hl:(l++zyJ a b).length <=4000000):FnL Tryz.prog 65 [.d (.sl (a.map zaC)),.d (.sl (b.map zaC)),.agg zyf] (dfO 100 104 l++[(101,.box [.bp 100 0])])
  (fun V ol new=>V= .tup []/\ol=dfO 100 114 (l++zyJ a b)++[(101,.box [.bp 100 0])]/\new=[114]):=by
 refine FnL.of_eK 1999 [100,101] (own:=[]) (fun i=>if i=0 then [.rnm [(100,100),(101,101),(104,114),(5,5),(1999,1999)]]else []) [] zat Tryz.func65 rfl Tryz.call65 Tryz.ntmps65 (Nat.le_of_ble_eq_true rfl) Tryz.results65 (by simp[dfO,zyf,zyk,AO.noRef,AV.noRefs,AV.noRef]) (fun gs=> ?_);simp only[ZE,↓reduceIte,pE,pL,pA,pS,pM,pD,zN,qT,qG,qL,qH,qN,qB,qE,qO,qA,qM,dfO,zyf];refine zgR (X:=List Module×List Module×List Edit) (fun _ i=>if i=5 then [.rnm [(100,100),(101,101),(115,114),(5,5),(1999,1999)]]else if i=8 then [.rnm [(100,100),(101,101),(115,114),(5,5),(1999,1999)]]else if i=2 then [.rnm [(100,100),(101,101),(115,114),(5,5),(1999,1999)]]else if i=2004 then [.ord ⟨[(0,none),(1,none),(2,none),(3,none),(4,none),(5,none),(6,none),(7,none),(8,none),(9,none),(10,none),(11,none),(12,none),(13,none),(14,none),(15,none),(16,none),(17,none),(18,none),(19,none),(20,none)]⟩]else if i=2007 then [.ord ⟨[(0,none),(1,none),(2,none),(3,none),(4,none),(5,none),(6,none),(7,none),(8,none),(9,none),(10,none),(11,none),(12,none),(13,none),(14,none),(15,none)]⟩]else if i=2003 then [.ord ⟨[(0,none),(1,none),(2,none),(3,none),(4,some [2,3]),(5,some [])]⟩]else []) zat (a.length+b.length)
  (fun r X=>X.1.length+X.2.1.length+r<=a.length+b.length/\X.2.2++mM (a.length+b.length-r) X.1 X.2.1=l++zyJ a b)
  (fun r X=>([(0,.d (.sl (X.1.map zaC))),(1,.d (.sl (X.2.1.map zaC))),(5,.bp 5 0)],[(5,.box zyf),(1999,.gh [.bp 100 0,.bp 101 0] gs),(100,.box [.ar 114 X.2.2.length]),(114,.arr 69 43 .flat (X.2.2.map zfN)),(101,.box [.bp 100 0])])) (a,b,l) ?_ ?_ ?_ (fun r X hr hI=> ?_)
 ·exact⟨by simp,by rw[diffN_mM]; rfl⟩
 ·simp only[ZE,↓reduceIte,pE,pL,pA,pS,pM,pD,zN,qT,qG,qL,qH,qN,qB,qE,qO,qA,qM,zyf]
 ·simp only[ZE,↓reduceIte,pE,pL,pA,pS,pM,pD,zN,qT,qG,qL,qH,qN,qB,qE,qO,qA,qM,zyf]
 obtain⟨xs,ys,es⟩:=X;obtain⟨hn,he⟩:=hI;simp only at hn he;have hes:es.length<=4000000:=by rw[<-he,List.length_append]at hl; omega
 match xs,ys with
 | [],[]=>
  have e:es=l++zyJ a b:=by rw[<-he]; cases (a.length+b.length-r) <;> simp[mM,zyn]
  subst e;simp only[zyf];simp(maxSteps:=4000000) only[ZE,↓reduceIte,pE,pL,pA,pS,pM,pD,zN,qT,qG,qL,qH,qN,qB,qE,qO,qA,qM];refine⟨[5,1999],[114],?_⟩;simp only[ZE,↓reduceIte,pE,pL,pA,pS,pM,pD]
 | x::xs,[]=>
  obtain⟨m,hm⟩: ∃m,a.length+b.length-r=m+1:=⟨a.length+b.length-r-1,by simp at hn; omega⟩;have hm':a.length+b.length-(r+1)=m:=by omega
  have hmi:mM (m+1) (x::xs) []=(zs8 x.name x.items []++[zuR x.name])++mM m xs []:=rfl;rw[hm,hmi,<-List.append_assoc]at he;have rc:=dgone_c es x (by rw[<-he]at hl; rw[List.length_append]at hl; omega);simp only[dfO]at rc;simp only[zyf];simp(maxSteps:=4000000) only[ZE,↓reduceIte,pE,pL,pA,pS,pM,pD,zN,qT,qG,qL,qH,qN,qB,qE,qO,qA,qM,zya,zx2,List.length_map];refine⟨by kernel_rfl,by kernel_rfl,EFn.g ⟨[(100,100),(101,101),(104,114),(114,115)],_,_,_,rc,?_⟩⟩;simp only[ZE,↓reduceIte,pE,pL,pA,pS,pM,pD];rintro V ol new ⟨rfl,rfl,rfl⟩;simp only[ZE,↓reduceIte,pE,pL,pA,pS,pM,pD,zN,qT,qG,qL,qH,qN,qB,qE,qO,qA,qM,zx3,zyX];have rx:=rowM x xs;simp only[ZE,↓reduceIte,pE,pL,pA,pS,pM,pD]at rx;refine⟨⟨rx,Int.le_refl _⟩,?_⟩;simp only[zep];refine⟨by simp at hn; omega,(xs,[],es++(zs8 x.name x.items []++[zuR x.name])),⟨by simp at hn ⊢; omega,by rw[hm']; exact he⟩,?_⟩;simp only[ZE,↓reduceIte,pE,pL,pA,pS,pM,pD,zyf]
 | [],y::ys=>
  obtain⟨m,hm⟩: ∃m,a.length+b.length-r=m+1:=⟨a.length+b.length-r-1,by simp at hn; omega⟩;have hm':a.length+b.length-(r+1)=m:=by omega
  have hmi:mM (m+1) [] (y::ys)=(zx7 y::zs8 y.name [] y.items)++mM m [] ys:=rfl;rw[hm,hmi,<-List.append_assoc]at he;have rc:=dcome_c es y (by rw[<-he]at hl; rw[List.length_append]at hl; omega);simp only[dfO]at rc;simp only[zyf];simp(maxSteps:=4000000) only[ZE,↓reduceIte,pE,pL,pA,pS,pM,pD,zN,qT,qG,qL,qH,qN,qB,qE,qO,qA,qM,zya,zx2,zx5,List.length_map];refine⟨by kernel_rfl,by kernel_rfl,by kernel_rfl,EFn.g ⟨[(100,100),(101,101),(104,114),(114,115)],_,_,_,rc,?_⟩⟩;simp only[ZE,↓reduceIte,pE,pL,pA,pS,pM,pD];rintro V ol new ⟨rfl,rfl,rfl⟩;simp only[ZE,↓reduceIte,pE,pL,pA,pS,pM,pD,zN,qT,qG,qL,qH,qN,qB,qE,qO,qA,qM,zx3,zyX];have rx:=rowM y ys;simp only[ZE,↓reduceIte,pE,pL,pA,pS,pM,pD]at rx;refine⟨⟨rx,Int.le_refl _⟩,?_⟩;simp only[zep];refine⟨by simp at hn; omega,([],ys,es++(zx7 y::zs8 y.name [] y.items)),⟨by simp at hn ⊢; omega,by rw[hm']; exact he⟩,?_⟩;simp only[ZE,↓reduceIte,pE,pL,pA,pS,pM,pD,zyf]
 | x::xs,y::ys=>
  obtain⟨m,hm⟩: ∃m,a.length+b.length-r=m+1:=⟨a.length+b.length-r-1,by simp at hn; omega⟩;have hm':a.length+b.length-(r+1)=m:=by omega
  rw[hm]at he;have ic:=zzL x y;obtain⟨c,hc⟩:=zX (zy2 x.name y.name);have hlt:c<0↔ltS x.name y.name=true:=by rw[<-hc]; exact zwE _ _
  have hgt:0<c↔ltS y.name x.name=true:=by rw[<-hc]; exact cmpN_gt
  rw[hc]at ic;simp only[ZE,↓reduceIte,pE,pL,pA,pS,pM,pD]at ic;by_cases h1:c<0
  ·have hmi:mM (m+1) (x::xs) (y::ys)=(zs8 x.name x.items []++[zuR x.name])++mM m xs (y::ys):=by simp only[mM,zyn,hlt.1 h1,if_true]
   have d1:decide (c<0)=true:=decide_eq_true h1;rw[hmi,<-List.append_assoc]at he;have rc:=dgone_c es x (by rw[<-he]at hl; rw[List.length_append]at hl; omega);simp only[dfO]at rc;simp only[zyf];simp(maxSteps:=4000000) only[ZE,↓reduceIte,pE,pL,pA,pS,pM,pD,zN,qT,qG,qL,qH,qN,qB,qE,qO,qA,qM,zya,zx2,zx5,List.length_map];refine⟨by kernel_rfl,zaz.i ic ?_⟩;simp only[ZE,↓reduceIte,pE,pL,pA,pS,pM,pD,zN,qT,qG,qL,qH,qN,qB,qE,qO,qA,qM,d1,zx2];refine⟨by kernel_rfl,EFn.g ⟨[(100,100),(101,101),(104,114),(114,115)],_,_,_,rc,?_⟩⟩;simp only[ZE,↓reduceIte,pE,pL,pA,pS,pM,pD];rintro V ol new ⟨rfl,rfl,rfl⟩;simp only[ZE,↓reduceIte,pE,pL,pA,pS,pM,pD,zN,qT,qG,qL,qH,qN,qB,qE,qO,qA,qM,zx3,zyX];have rx:=rowM x xs;simp only[ZE,↓reduceIte,pE,pL,pA,pS,pM,pD]at rx;refine⟨⟨rx,Int.le_refl _⟩,?_⟩;simp only[zep];refine⟨by simp at hn; omega,(xs,y::ys,es++(zs8 x.name x.items []++[zuR x.name])),⟨by simp at hn ⊢; omega,by rw[hm']; exact he⟩,?_⟩;simp only[ZE,↓reduceIte,pE,pL,pA,pS,pM,pD,zyf]
  have d1:decide (c<0)=false:=decide_eq_false h1;have h1':ltS x.name y.name=false:=by
   cases hq:ltS x.name y.name with
   | false=>rfl
   | true=>exact absurd (hlt.2 hq) h1
  by_cases h2:0<c
  ·have hmi:mM (m+1) (x::xs) (y::ys)=(zx7 y::zs8 y.name [] y.items)++mM m (x::xs) ys:=by simp only[mM,zyn,h1',hgt.1 h2,if_true,Bool.false_eq_true,if_false]
   have d2:decide (c>0)=true:=decide_eq_true h2;rw[hmi,<-List.append_assoc]at he;have rc:=dcome_c es y (by rw[<-he]at hl; rw[List.length_append]at hl; omega);simp only[dfO]at rc;simp only[zyf];simp(maxSteps:=4000000) only[ZE,↓reduceIte,pE,pL,pA,pS,pM,pD,zN,qT,qG,qL,qH,qN,qB,qE,qO,qA,qM,zya,zx2,zx5,List.length_map];refine⟨by kernel_rfl,zaz.i ic ?_⟩;simp only[ZE,↓reduceIte,pE,pL,pA,pS,pM,pD,zN,qT,qG,qL,qH,qN,qB,qE,qO,qA,qM,d1,zx2,zx5,List.length_map];refine⟨by kernel_rfl,zaz.i ic ?_⟩;simp only[ZE,↓reduceIte,pE,pL,pA,pS,pM,pD,zN,qT,qG,qL,qH,qN,qB,qE,qO,qA,qM,d2,zx2,zx5,List.length_map];refine⟨by kernel_rfl,EFn.g ⟨[(100,100),(101,101),(104,114),(114,115)],_,_,_,rc,?_⟩⟩;simp only[ZE,↓reduceIte,pE,pL,pA,pS,pM,pD];rintro V ol new ⟨rfl,rfl,rfl⟩;simp only[ZE,↓reduceIte,pE,pL,pA,pS,pM,pD,zN,qT,qG,qL,qH,qN,qB,qE,qO,qA,qM,zx3,zyX];have rx:=rowM y ys;simp only[ZE,↓reduceIte,pE,pL,pA,pS,pM,pD]at rx;refine⟨⟨rx,Int.le_refl _⟩,?_⟩;simp only[zep];refine⟨by simp at hn; omega,(x::xs,ys,es++(zx7 y::zs8 y.name [] y.items)),⟨by simp at hn ⊢; omega,by rw[hm']; exact he⟩,?_⟩;simp only[ZE,↓reduceIte,pE,pL,pA,pS,pM,pD,zyf]
  ·have h2':ltS y.name x.name=false:=by
    cases hq:ltS y.name x.name with
    | false=>rfl
    | true=>exact absurd (hgt.2 hq) h2
   have hmi:mM (m+1) (x::xs) (y::ys)=(headD x y++zs8 y.name x.items y.items)++mM m xs ys:=by simp only[mM,zyn,h1',h2',Bool.false_eq_true,if_false]
   have d2:decide (c>0)=false:=decide_eq_false h2;rw[hmi,<-List.append_assoc]at he;have rc:=dmod_c es x y (by rw[<-he]at hl; rw[List.length_append]at hl; omega);simp only[dfO,List.cons_append,List.nil_append]at rc;simp only[zyf];simp(maxSteps:=4000000) only[ZE,↓reduceIte,pE,pL,pA,pS,pM,pD,zN,qT,qG,qL,qH,qN,qB,qE,qO,qA,qM,zya,zx2,zx5,List.length_map];refine⟨by kernel_rfl,zaz.i ic ?_⟩;simp only[ZE,↓reduceIte,pE,pL,pA,pS,pM,pD,zN,qT,qG,qL,qH,qN,qB,qE,qO,qA,qM,d1,zx2,zx5,List.length_map];refine⟨by kernel_rfl,zaz.i ic ?_⟩;simp only[ZE,↓reduceIte,pE,pL,pA,pS,pM,pD,zN,qT,qG,qL,qH,qN,qB,qE,qO,qA,qM,d2,zx2,zx5,List.length_map];refine⟨by kernel_rfl,EFn.g ⟨[(100,100),(101,101),(104,114),(114,115)],_,_,_,rc,?_⟩⟩;simp only[ZE,↓reduceIte,pE,pL,pA,pS,pM,pD];rintro V ol new ⟨rfl,rfl,rfl⟩;simp only[ZE,↓reduceIte,pE,pL,pA,pS,pM,pD,zN,qT,qG,qL,qH,qN,qB,qE,qO,qA,qM,zx3,zyX];have rx:=rowM x xs;have ry:=rowM y ys;simp only[ZE,↓reduceIte,pE,pL,pA,pS,pM,pD]at rx ry;refine⟨by kernel_rfl,⟨rx,Int.le_refl _⟩,⟨ry,Int.le_refl _⟩,⟨ry,Int.le_refl _⟩,?_⟩;simp only[zep];refine⟨by simp at hn; omega,(xs,ys,es++(headD x y++zs8 y.name x.items y.items)),⟨by simp at hn ⊢; omega,by rw[hm']; exact he⟩,?_⟩;simp only[ZE,↓reduceIte,pE,pL,pA,pS,pM,pD,zyf]
/-- Files that can be put into normal form. -/
structure NOk (l:List Module):Prop where
 names:(l.map Module.name).Nodup
 parts: ∀m∈l,(m.items.map zbg).Nodup
 len:l.length<=4000000
 items: ∀m∈l,m.items.length<=4000000
theorem zsv(a b:List Module)(ha:NOk a)(hb:NOk b)(hl:(zrp a b).length <=4000000):FnP Tryz.prog 21 [.agg [zax a],.agg [zax b]] (.d (.sl ((zrp a b).map zfN))) []:=by
 refine FnP.of_eC (own:=[]) (fun i=>if i=1 then [.adB 7 0 107 69 43]else if i=2002 then [.ord ⟨[(0,none),(1,none),(2,none),(3,none),(4,none),(5,none),(6,none),(7,none),(8,none),(9,none),(10,some [])]⟩]else []) zat Tryz.func21 rfl Tryz.call21 Tryz.ntmps21 (Nat.le_of_ble_eq_true rfl) Tryz.results21 (fun hok=> ?_);have na:=zih a ha.names ha.parts ha.len ha.items;have nb:=zih b hb.names hb.parts hb.len hb.items;have mc:=mergeM_c [] (zcC a) (zcC b) (by rw[List.nil_append]; exact hl);rw[List.nil_append]at mc;rw[show zyJ (zcC a) (zcC b)=zrp a b from rfl]at mc;simp only[dfO,zyf,List.cons_append,List.nil_append]at mc;simp only[ZE,↓reduceIte,pE,pL,pA,pS,pM,pD]at na nb mc;simp(maxSteps:=4000000) only[ZE,↓reduceIte,pE,pL,pA,pS,pM,pD,zN,qT,qG,qL,qH,qN,qB,qE,qO,qA,qM];refine⟨by kernel_rfl,zaz.i na ?_⟩;simp only[ZE,↓reduceIte,pE,pL,pA,pS,pM,pD,zN,qT,qG,qL,qH,qN,qB,qE,qO,qA,qM];refine zaz.i nb ?_;simp only[ZE,↓reduceIte,pE,pL,pA,pS,pM,pD,zN,qT,qG,qL,qH,qN,qB,qE,qO,qA,qM];refine EFn.g ⟨[(100,7),(101,5),(104,107),(114,114)],_,_,_,mc,?_⟩;simp only[ZE,↓reduceIte,pE,pL,pA,pS,pM,pD];rintro V ol new ⟨rfl,rfl,rfl⟩;simp only[ZE,↓reduceIte,pE,pL,pA,pS,pM,pD,zN,qT,qG,qL,qH,qN,qB,qE,qO,qA,qM]
end Go.Proofs.YtbenhdgpogiadaaGreat
