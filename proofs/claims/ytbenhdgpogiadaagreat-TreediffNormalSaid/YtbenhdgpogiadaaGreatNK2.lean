/-
 CONTRACTS and plain laws. Conditions: those of each law.
-/
import Derived.Test.YtbenhdgpogiadaaGreatNK1
import Derived.Test.YtbenhdgpogiadaaGreatNGSp
set_option linter.unusedSimpArgs false
set_option linter.unusedVariables false
namespace Go.Proofs.YtbenhdgpogiadaaGreat
open Go.Aw
open Nat renaming reduceEqDiff->pE,reduceLT->pL,reduceAdd->pA,reduceSub->pS,reduceMul->pM,reduceLeDiff->pD
open Int renaming reduceToNat->qT,reduceGT->qG,reduceLT->qL,reduceGE->qH,reduceBNe->qN,reduceBEq->qB,reduceLE->qE,reduceNe->qO,reduceAdd->qA,reduceNeg->qM
set_option maxRecDepth 100000
set_option maxHeartbeats 8000000
theorem zcW(o:Int)(n:Str)(k w:Num)(a:List Expr):(Expr.mk o n k w a).op =o:=rfl
theorem zbm(o:Int)(n:Str)(k w:Num)(a:List Expr):(Expr.mk o n k w a).name =n:=rfl
theorem zgN(o:Int)(n:Str)(k w:Num)(a:List Expr):(Expr.mk o n k w a).k =k:=rfl
theorem zgO(o:Int)(n:Str)(k w:Num)(a:List Expr):(Expr.mk o n k w a).w =w:=rfl
theorem zbl(o:Int)(n:Str)(k w:Num)(a:List Expr):(Expr.mk o n k w a).args =a:=rfl
def zeS(kind:I64)(name:Str)(w:Num):Item:={zaU with kind:=kind,name:=name,width:=w}
def zdf(name:Str)(w:Num)(e:Expr):Item:={zaU with kind:=⟨5,rfl⟩,name:=name,width:=w,a:=e}
def zde(name:Str)(e:Expr):Item:={zaU with kind:=⟨7,rfl⟩,name:=name,a:=e}
def zh3(name:Str)(e x:Expr):Item:={zaU with kind:=⟨8,rfl⟩,name:=name,a:=e,b:=x}
def wN:Num:=⟨0,sW⟩
def zbf(l:List Nat):Module:=⟨zg7,zdk (zaR l 5),[sW],[zeS ⟨1,rfl⟩ sX wN,zeS ⟨2,rfl⟩ sY wN,zk1 sR l 7 [sR,sX] wN,zdf sT wN (gen l [sR] wN 1 9),zde sX (cond l [sR,sT] wN 1 11),zh3 sY (cond l [sR,sX,sT] wN 1 13) (gen l [sR,sX,sT] wN 1 15)]⟩
theorem cell_c(l:List Nat)(hb: ∀b∈l,b<256):FnP Tryz.prog 107 [zau l] (.d (.agg (zaC (zbf l)))) []:=by
 refine FnP.of_eC (own:=[]) (fun i=>if i=2002 then [.flt ⟨[(0,none),(1,none),(2,none),(3,none),(4,none),(5,none),(8,some [3,4,5]),(9,some [])]⟩ ⟨[6,7],[(8,[6]),(9,[7])]⟩]else if i=2003 then [.ord ⟨[(0,none),(1,none),(2,none),(3,none),(4,none),(5,none),(6,none),(7,none),(8,none),(9,none),(10,none),(11,none),(12,none),(13,none),(14,none),(15,none),(16,none),(17,none),(18,none),(19,none),(20,none),(21,none),(22,none),(23,none),(24,none),(25,none),(26,none),(27,none),(28,none),(29,none),(30,none),(31,none),(32,none),(33,none),(34,none),(35,some [])]⟩]else []) zat Tryz.func107 rfl Tryz.call107 Tryz.ntmps107 (Nat.le_of_ble_eq_true rfl) Tryz.results107 (fun hok=> ?_);have a1:=zwB l 5 hb (by omega);have k1:=zsg (zaR l 5);have r1:=reg_c sR l [sR,sX] wN hb (by simp) (by simp) 7 (by omega);have g1:=zhF l [sR] wN hb (by simp) (by simp) 9 (by omega);have c1:=zgU l [sR,sT] wN hb (by simp) (by simp) 11 (by omega);have c2:=zgU l [sR,sX,sT] wN hb (by simp) (by simp) 13 (by omega);have g2:=zhF l [sR,sX,sT] wN hb (by simp) (by simp) 15 (by omega);rw[zbf];obtain⟨e1,h1⟩: ∃e,zdk (zaR l 5)=e:=⟨_,rfl⟩;obtain⟨e2,h2⟩: ∃e,zk1 sR l 7 [sR,sX] wN=e:=⟨_,rfl⟩;obtain⟨e3,h3⟩: ∃e,gen l [sR] wN 1 9=e:=⟨_,rfl⟩;obtain⟨e4,h4⟩: ∃e,cond l [sR,sT] wN 1 11=e:=⟨_,rfl⟩;obtain⟨e5,h5⟩: ∃e,cond l [sR,sX,sT] wN 1 13=e:=⟨_,rfl⟩;obtain⟨e6,h6⟩: ∃e,gen l [sR,sX,sT] wN 1 15=e:=⟨_,rfl⟩;rw[h1]at k1 ⊢;rw[h2]at r1 ⊢;rw[h3]at g1 ⊢;rw[h4]at c1 ⊢;rw[h5]at c2 ⊢;rw[h6]at g2 ⊢;clear h1 h2 h3 h4 h5 h6;simp only[ZE,↓reduceIte,pE,pL,pA,pS,pM,pD,eAt,zhW,List.map_cons,List.map_nil,sR,sX,sT,sW,wN,st,emp]at a1 k1 r1 g1 c1 c2 g2;simp(maxSteps:=4000000) only[ZE,↓reduceIte,pE,pL,pA,pS,pM,pD,zN,qT,qG,qL,qH,qN,qB,qE,qO,qA,qM];refine⟨by kernel_rfl,by kernel_rfl,zaz.i a1 ?_⟩;simp only[ZE,↓reduceIte,pE,pL,pA,pS,pM,pD,zN,qT,qG,qL,qH,qN,qB,qE,qO,qA,qM];refine zaz.i k1 ?_;simp only[ZE,↓reduceIte,pE,pL,pA,pS,pM,pD,zN,qT,qG,qL,qH,qN,qB,qE,qO,qA,qM];refine zaz.i r1 ?_;simp only[ZE,↓reduceIte,pE,pL,pA,pS,pM,pD,zN,qT,qG,qL,qH,qN,qB,qE,qO,qA,qM];refine zaz.i g1 ?_;simp only[ZE,↓reduceIte,pE,pL,pA,pS,pM,pD,zN,qT,qG,qL,qH,qN,qB,qE,qO,qA,qM];refine zaz.i c1 ?_;simp only[ZE,↓reduceIte,pE,pL,pA,pS,pM,pD,zN,qT,qG,qL,qH,qN,qB,qE,qO,qA,qM];refine zaz.i c2 ?_;simp only[ZE,↓reduceIte,pE,pL,pA,pS,pM,pD,zN,qT,qG,qL,qH,qN,qB,qE,qO,qA,qM];refine zaz.i g2 ?_;simp only[ZE,↓reduceIte,pE,pL,pA,pS,pM,pD,zN,qT,qG,qL,qH,qN,qB,qE,qO,qA,qM,zeS,zdf,zde,zh3,zaU,zbQ,zg7,wN,sW,sX,sY,sT,st,zcW,zbm,zgN,zgO,zbl,zbj,emp,Int.reduceEq,not_false_eq_true]
 trace_state
def zlx(l:List Nat)(w:Num)(c0:Str):List Item:=[zk1 sR l 2 [sR,sS,sT,c0] w,zk1 sS l 4 [sS,sR,c0] w,zdf sT w (gen l [sR,sS] w 1 6)]
def zdC(l:List Nat):Num:=⟨if zaR l 1 % 2=0 then 2 else 4,emp⟩
def memI(l:List Nat)(w:Num)(c0:Str):Item:={zaU with kind:=⟨6,rfl⟩,name:=sM,width:=w,depth:=zdC l,a:=cond l [sR,sS,sT,c0] w 1 12,b:=gen l [sR,sS,sT,c0] w 0 14,c:=gen l [sR,sS,sT,c0] w 1 16,rule:=zd0 (zaR l 3)}
def zpv(l:List Nat)(w:Num)(c0:Str):List Item:=if zaR l 0 % 2=1 then [memI l w c0]else []
def zox(l:List Nat)(w:Num)(c0:Str):Expr:=if zaR l 0 % 2=1 then .mk 5 emp zbj zbj [gen l [sR,sS,sT,c0] w 1 8,.mk 15 sM zbj zbj [gen l [sR,sS] w 0 10]]else gen l [sR,sS,sT,c0] w 1 8
def zlz(l:List Nat)(w:Num)(c0 c1:Str):List Item:=[zde c0 (cond l [sR,sS] w 1 18),zh3 c1 (cond l [sR,sS,sT,c0] w 1 20) (zox l w c0)]
def znJ(l:List Nat)(w:Num)(c0 c1:Str):List Item:=zlx l w c0++zpv l w c0++zlz l w c0 c1
theorem own_c(l:List Nat)(w:Num)(c0 c1:Str)(hb: ∀b∈l,b<256):FnP Tryz.prog 103 [zau l,.agg (zgL w),zj9 c0 c1] (.d (zbR (znJ l w c0 c1))) []:=by
 refine FnP.of_eC (own:=[]) (fun i=>if i=2001 then [.flt ⟨[(0,none),(1,none),(2,none),(3,none),(4,none),(5,none),(6,none),(7,none),(10,some [3,4,5,6,7]),(11,some [])]⟩ ⟨[8,9],[(10,[8]),(11,[9])]⟩]else if i=2002 then [.ord ⟨[(0,none),(1,none),(2,none),(3,none),(4,none),(5,none),(6,none),(7,none),(8,none),(9,none),(10,none),(11,none),(12,none),(13,none),(14,none),(15,none),(16,some []),(17,some [])]⟩]else if i=2007 then [.ord ⟨[(0,none),(1,none),(2,none),(3,none),(4,none),(5,none),(6,none),(7,none),(8,none),(9,none),(10,none),(11,none),(12,none),(13,none),(14,none),(15,none),(16,none),(17,none),(18,none),(19,none),(20,none),(21,none),(22,none),(23,none),(24,some []),(25,some [])]⟩]else if i=2008 then [.ord ⟨[(0,none),(1,none),(2,none),(3,none),(4,none),(5,none),(6,none),(7,none),(8,none),(9,none),(10,none),(11,none),(12,none),(13,none),(14,none),(15,some []),(16,some [])]⟩]else if i=2005 then [.chn]else if i=2006 then [.chn]else []) zat Tryz.func103 rfl Tryz.call103 Tryz.ntmps103 (Nat.le_of_ble_eq_true rfl) Tryz.results103 (fun hok=> ?_);have a0:=zwB l 0 hb (by omega);have a1:=zwB l 1 hb (by omega);have a3:=zwB l 3 hb (by omega);have r1:=reg_c sR l [sR,sS,sT,c0] w hb (by simp) (by simp) 2 (by omega);have r2:=reg_c sS l [sS,sR,c0] w hb (by simp) (by simp) 4 (by omega);have g6:=zhF l [sR,sS] w hb (by simp) (by simp) 6 (by omega);have g8:=zhF l [sR,sS,sT,c0] w hb (by simp) (by simp) 8 (by omega);have g10:=ziL l [sR,sS] w hb (by simp) (by simp) 10 (by omega);have c12:=zgU l [sR,sS,sT,c0] w hb (by simp) (by simp) 12 (by omega);have g14:=ziL l [sR,sS,sT,c0] w hb (by simp) (by simp) 14 (by omega);have g16:=zhF l [sR,sS,sT,c0] w hb (by simp) (by simp) 16 (by omega);have c18:=zgU l [sR,sS] w hb (by simp) (by simp) 18 (by omega);have c20:=zgU l [sR,sS,sT,c0] w hb (by simp) (by simp) 20 (by omega);have u3:=rule_c (zaR l 3) (zgo hb _);rw[znJ,zlx,zlz,zpv,zox,memI,zdC];obtain⟨x1,h1⟩: ∃e,zk1 sR l 2 [sR,sS,sT,c0] w=e:=⟨_,rfl⟩;obtain⟨x2,h2⟩: ∃e,zk1 sS l 4 [sS,sR,c0] w=e:=⟨_,rfl⟩;obtain⟨x3,h3⟩: ∃e,gen l [sR,sS] w 1 6=e:=⟨_,rfl⟩;obtain⟨x4,h4⟩: ∃e,gen l [sR,sS,sT,c0] w 1 8=e:=⟨_,rfl⟩;obtain⟨x5,h5⟩: ∃e,gen l [sR,sS] w 0 10=e:=⟨_,rfl⟩;obtain⟨x6,h6⟩: ∃e,cond l [sR,sS,sT,c0] w 1 12=e:=⟨_,rfl⟩;obtain⟨x7,h7⟩: ∃e,gen l [sR,sS,sT,c0] w 0 14=e:=⟨_,rfl⟩;obtain⟨x8,h8⟩: ∃e,gen l [sR,sS,sT,c0] w 1 16=e:=⟨_,rfl⟩;obtain⟨x9,h9⟩: ∃e,cond l [sR,sS] w 1 18=e:=⟨_,rfl⟩;obtain⟨x10,h10⟩: ∃e,cond l [sR,sS,sT,c0] w 1 20=e:=⟨_,rfl⟩;obtain⟨x11,h11⟩: ∃e,zd0 (zaR l 3)=e:=⟨_,rfl⟩;rw[h1]at r1 ⊢;rw[h2]at r2 ⊢;rw[h3]at g6 ⊢;rw[h4]at g8 ⊢;rw[h5]at g10 ⊢;rw[h6]at c12 ⊢;rw[h7]at g14 ⊢;rw[h8]at g16 ⊢;rw[h9]at c18 ⊢;rw[h10]at c20 ⊢;rw[h11]at u3 ⊢;have hm:(zaR l 0:Int).tmod 2=((zaR l 0 % 2:Nat):Int):=(Int.ofNat_tmod _ 2).symm;have hm1:(zaR l 1:Int).tmod 2=((zaR l 1 % 2:Nat):Int):=(Int.ofNat_tmod _ 2).symm;clear h1 h2 h3 h4 h5 h6 h7 h8 h9 h10 h11;simp only[ZE,↓reduceIte,pE,pL,pA,pS,pM,pD,eAt,zhW,zj9,List.map_cons,List.map_nil,sR,sS,sT,st,emp]at a0 a1 a3 r1 r2 g6 g8 g10 c12 g14 g16 c18 c20 u3;by_cases hodd:zaR l 0 % 2=1
 ·have ho:(((zaR l 0 % 2:Nat):Int)==1)=true:=by simp[hodd]
  rw[if_pos hodd,if_pos hodd];simp(maxSteps:=4000000) only[ZE,↓reduceIte,pE,pL,pA,pS,pM,pD,zN,qT,qG,qL,qH,qN,qB,qE,qO,qA,qM,zj9];refine⟨by kernel_rfl,by kernel_rfl,zaz.i r1 ?_⟩;simp only[ZE,↓reduceIte,pE,pL,pA,pS,pM,pD,zN,qT,qG,qL,qH,qN,qB,qE,qO,qA,qM];refine zaz.i r2 ?_;simp only[ZE,↓reduceIte,pE,pL,pA,pS,pM,pD,zN,qT,qG,qL,qH,qN,qB,qE,qO,qA,qM];refine zaz.i g6 ?_;simp only[ZE,↓reduceIte,pE,pL,pA,pS,pM,pD,zN,qT,qG,qL,qH,qN,qB,qE,qO,qA,qM];refine EFn.p ?_;simp only[ZE,↓reduceIte,pE,pL,pA,pS,pM,pD,zN,qT,qG,qL,qH,qN,qB,qE,qO,qA,qM];refine zar.i g8 ?_;simp only[ZE,↓reduceIte,pE,pL,pA,pS,pM,pD,zN,qT,qG,qL,qH,qN,qB,qE,qO,qA,qM];refine EFn.p ?_;simp only[ZE,↓reduceIte,pE,pL,pA,pS,pM,pD,zN,qT,qG,qL,qH,qN,qB,qE,qO,qA,qM];refine zar.i a0 ?_;simp only[ZE,↓reduceIte,pE,pL,pA,pS,pM,pD,zN,qT,qG,qL,qH,qN,qB,qE,qO,qA,qM,hm,ho,Int.reduceEq,not_false_eq_true];refine EFn.p ?_;simp only[ZE,↓reduceIte,pE,pL,pA,pS,pM,pD,zN,qT,qG,qL,qH,qN,qB,qE,qO,qA,qM];refine zar.i g10 ?_;simp only[ZE,↓reduceIte,pE,pL,pA,pS,pM,pD,zN,qT,qG,qL,qH,qN,qB,qE,qO,qA,qM,Int.reduceEq,not_false_eq_true];refine⟨by kernel_rfl,zaz.i a1 ?_⟩;by_cases hd:zaR l 1 % 2=0
  ·have hm2:(zaR l 1:Int).tmod 2=0:=by rw[hm1,hd]; rfl
   have hw1:IntKind.u64.wrap 0=0:=by decide
   have hw2:IntKind.i64.wrap (2*2 ^ (min 0 IntKind.i64.bits))=2:=by decide
   rw[if_pos hd];simp only[ZE,↓reduceIte,pE,pL,pA,pS,pM,pD,zN,qT,qG,qL,qH,qN,qB,qE,qO,qA,qM,Int.reduceEq,not_false_eq_true,hm2,hw1,hw2];refine zaz.i c12 ?_;simp only[ZE,↓reduceIte,pE,pL,pA,pS,pM,pD,zN,qT,qG,qL,qH,qN,qB,qE,qO,qA,qM];refine zaz.i g14 ?_;simp only[ZE,↓reduceIte,pE,pL,pA,pS,pM,pD,zN,qT,qG,qL,qH,qN,qB,qE,qO,qA,qM];refine zaz.i g16 ?_;simp only[ZE,↓reduceIte,pE,pL,pA,pS,pM,pD,zN,qT,qG,qL,qH,qN,qB,qE,qO,qA,qM];refine zaz.i a3 ?_;simp only[ZE,↓reduceIte,pE,pL,pA,pS,pM,pD,zN,qT,qG,qL,qH,qN,qB,qE,qO,qA,qM];refine zaz.i u3 ?_;simp only[ZE,↓reduceIte,pE,pL,pA,pS,pM,pD,zN,qT,qG,qL,qH,qN,qB,qE,qO,qA,qM];refine⟨by kernel_rfl,zaz.i c18 ?_⟩;simp only[ZE,↓reduceIte,pE,pL,pA,pS,pM,pD,zN,qT,qG,qL,qH,qN,qB,qE,qO,qA,qM];refine zaz.i c20 ?_;simp only[ZE,↓reduceIte,pE,pL,pA,pS,pM,pD,zN,qT,qG,qL,qH,qN,qB,qE,qO,qA,qM,zdf,zde,zh3,zaU,zbQ,sM,sT,st,zcW,zbm,zgN,zgO,zbl,zbj,emp,Int.reduceEq,not_false_eq_true]
  ·have hm2:(zaR l 1:Int).tmod 2=1:=by rw[hm1]; omega
   have hw1:IntKind.u64.wrap 1=1:=by decide
   have hw2:IntKind.i64.wrap (2*2 ^ (min 1 IntKind.i64.bits))=4:=by decide
   rw[if_neg hd];simp only[ZE,↓reduceIte,pE,pL,pA,pS,pM,pD,zN,qT,qG,qL,qH,qN,qB,qE,qO,qA,qM,Int.reduceEq,not_false_eq_true,hm2,hw1,hw2];refine zaz.i c12 ?_;simp only[ZE,↓reduceIte,pE,pL,pA,pS,pM,pD,zN,qT,qG,qL,qH,qN,qB,qE,qO,qA,qM];refine zaz.i g14 ?_;simp only[ZE,↓reduceIte,pE,pL,pA,pS,pM,pD,zN,qT,qG,qL,qH,qN,qB,qE,qO,qA,qM];refine zaz.i g16 ?_;simp only[ZE,↓reduceIte,pE,pL,pA,pS,pM,pD,zN,qT,qG,qL,qH,qN,qB,qE,qO,qA,qM];refine zaz.i a3 ?_;simp only[ZE,↓reduceIte,pE,pL,pA,pS,pM,pD,zN,qT,qG,qL,qH,qN,qB,qE,qO,qA,qM];refine zaz.i u3 ?_;simp only[ZE,↓reduceIte,pE,pL,pA,pS,pM,pD,zN,qT,qG,qL,qH,qN,qB,qE,qO,qA,qM];refine⟨by kernel_rfl,zaz.i c18 ?_⟩;simp only[ZE,↓reduceIte,pE,pL,pA,pS,pM,pD,zN,qT,qG,qL,qH,qN,qB,qE,qO,qA,qM];refine zaz.i c20 ?_;simp only[ZE,↓reduceIte,pE,pL,pA,pS,pM,pD,zN,qT,qG,qL,qH,qN,qB,qE,qO,qA,qM,zdf,zde,zh3,zaU,zbQ,sM,sT,st,zcW,zbm,zgN,zgO,zbl,zbj,emp,Int.reduceEq,not_false_eq_true]
 ·have ho:(((zaR l 0 % 2:Nat):Int)==1)=false:=by
   have:zaR l 0 % 2=0:=by omega
   rw[this]; rfl
  rw[if_neg hodd,if_neg hodd];simp(maxSteps:=4000000) only[ZE,↓reduceIte,pE,pL,pA,pS,pM,pD,zN,qT,qG,qL,qH,qN,qB,qE,qO,qA,qM,zj9];refine⟨by kernel_rfl,by kernel_rfl,zaz.i r1 ?_⟩;simp only[ZE,↓reduceIte,pE,pL,pA,pS,pM,pD,zN,qT,qG,qL,qH,qN,qB,qE,qO,qA,qM];refine zaz.i r2 ?_;simp only[ZE,↓reduceIte,pE,pL,pA,pS,pM,pD,zN,qT,qG,qL,qH,qN,qB,qE,qO,qA,qM];refine zaz.i g6 ?_;simp only[ZE,↓reduceIte,pE,pL,pA,pS,pM,pD,zN,qT,qG,qL,qH,qN,qB,qE,qO,qA,qM];refine EFn.p ?_;simp only[ZE,↓reduceIte,pE,pL,pA,pS,pM,pD,zN,qT,qG,qL,qH,qN,qB,qE,qO,qA,qM];refine zar.i g8 ?_;simp only[ZE,↓reduceIte,pE,pL,pA,pS,pM,pD,zN,qT,qG,qL,qH,qN,qB,qE,qO,qA,qM];refine EFn.p ?_;simp only[ZE,↓reduceIte,pE,pL,pA,pS,pM,pD,zN,qT,qG,qL,qH,qN,qB,qE,qO,qA,qM];refine zar.i a0 ?_;simp only[ZE,↓reduceIte,pE,pL,pA,pS,pM,pD,zN,qT,qG,qL,qH,qN,qB,qE,qO,qA,qM,hm,ho,Int.reduceEq,not_false_eq_true];refine⟨by kernel_rfl,zaz.i c18 ?_⟩;simp only[ZE,↓reduceIte,pE,pL,pA,pS,pM,pD,zN,qT,qG,qL,qH,qN,qB,qE,qO,qA,qM];refine zaz.i c20 ?_;simp only[ZE,↓reduceIte,pE,pL,pA,pS,pM,pD,zN,qT,qG,qL,qH,qN,qB,qE,qO,qA,qM,zdf,zde,zh3,zaU,zbQ,sM,sT,st,zcW,zbm,zgN,zgO,zbl,zbj,emp,Int.reduceEq,not_false_eq_true]
set_option maxHeartbeats 20000000
structure Raw where
 kind:Nat
 w:Nat
 l:List Nat
def Raw.ok(x:Raw):Prop:=x.kind<256/\x.w<256/\ ∀b∈x.l,b<256
def zew(x:Raw):D:=.agg [eU8 x.kind,eU8 x.w,zau x.l]
def za4(x:Raw):Num:=⟨(1+x.w % 4:Nat),emp⟩
def rawC(x:Raw):Num:=⟨(1+x.w / 4 % 4:Nat),emp⟩
def zgk(name:Str)(w d:Num):Item:={zaU with kind:=⟨3,rfl⟩,name:=name,width:=w,depth:=d}
def inA(x:Raw):Item:=zeS ⟨1,rfl⟩ sA (za4 x)
def zow(x:Raw):Item:=zeS ⟨2,rfl⟩ sB (za4 x)
def chC(x:Raw):Item:=zgk sC (za4 x) (rawC x)
def chD(x:Raw):Item:=zgk sD (za4 x) ⟨2,emp⟩
def zd2(x:Raw):List Item:=
 if x.kind % 4=0 then [inA x,zow x]++znJ x.l (za4 x) sA sB
 else if x.kind % 4=1 then [inA x,zow x,chC x,zc2 sU (za4 x) sA sC,zc2 sVV (za4 x) sC sB]
 else if x.kind % 4=2 then [inA x,zow x,chC x,zc2 sU (za4 x) sA sC]++znJ x.l (za4 x) sC sB
 else [zow x,chC x,chD x,zc2 sU (za4 x) sC sD]++znJ x.l (za4 x) sD sC++[zh3 sB (cond x.l [sR,sS] (za4 x) 1 22) (gen x.l [sR,sS] (za4 x) 1 24)]
def zl9(x:Raw):Module:=⟨zma,zdk (1+x.w / 16),[],zd2 x⟩
def zdG(x:Raw):List Module:=if x.kind % 4=0 then [zl9 x]else if x.kind / 4 % 2=1 then [zl9 x,zbf x.l]else [zbf x.l,zl9 x]
theorem zly(l:List Nat)(w:Num)(c0 c1:Str):(znJ l w c0 c1).length <=10:=by
 simp only[znJ,zlx,zlz,zpv,List.length_append,List.length_cons,List.length_nil];split <;> simp
theorem zci(l:List Item):zcY 35 (l.map zaK):=by
 intro y hy;obtain⟨q,_,rfl⟩:=List.mem_map.1 hy;simp[zaK,zgL,zb6,zib,eI,eS,ziG,zel,D.one,Value.oneCell']
theorem u8_id{n:Nat}(h:n<256):IntKind.u8.wrap (n:Int)=(n:Int):=by
 have hb:IntKind.u8.bits=8:=rfl;have hs:IntKind.u8.signed=false:=rfl;simp only[IntKind.wrap,hb,hs,Bool.false_and,Bool.false_eq_true,if_false];omega
theorem zh2(x:Raw)(hx:x.ok):FnP Tryz.prog 50 [zew x] (.d (.agg [zax (zdG x)])) []:=by
 obtain⟨hk,hw,hb⟩:=hx;refine FnP.of_eC (own:=[]) (fun i=>if i=11 then [.frz 80]else if i=16 then [.frz 112]else if i=9 then [.frz 53]else if i=2004 then [.flt ⟨[(0,none),(1,none),(2,none),(3,none),(6,some [2,3]),(7,some [])]⟩ ⟨[4,5],[(6,[4]),(7,[5])]⟩]else if i=2005 then [.flt ⟨[(0,none),(1,none),(2,none),(3,none),(4,none),(5,none),(8,some [3,4,5]),(9,some [])]⟩ ⟨[6,7],[(8,[6]),(9,[7])]⟩]else if i=2011 then [.ord ⟨[(0,none),(1,none),(3,none),(4,none),(5,none),(6,none),(7,none),(2,some [3,4,5,6,7]),(8,some []),(9,some []),(10,some [])]⟩]else if i=2014 then [.ord ⟨[(0,none),(1,none),(2,none),(3,none),(4,none),(5,none),(6,none),(7,none),(8,none),(9,none),(10,some []),(11,some [])]⟩]else if i=2016 then [.ord ⟨[(0,none),(1,none),(2,none),(3,none),(4,none),(5,none),(7,none),(8,none),(9,none),(10,none),(11,none),(6,some [7,8,9,10,11]),(12,some []),(13,some []),(14,some [])]⟩]else if i=2008 then [.ord ⟨[(0,none),(1,none),(2,none),(3,none),(4,none),(5,none),(7,none),(8,none),(9,none),(10,none),(11,none),(6,some [7,8,9,10,11]),(12,some []),(13,some []),(14,some [])]⟩]else if i=2009 then [.ord ⟨[(0,none),(1,none),(2,none),(3,none),(4,none),(5,none),(6,none),(7,none),(8,none),(9,none),(10,none),(11,none),(12,none),(13,some []),(14,some []),(15,some [])]⟩]else if i=2018 then [.ord ⟨[(0,none),(1,none),(2,none),(3,none),(4,none),(5,none),(6,some [])]⟩]else if i=2019 then [.ord ⟨[(0,none),(1,none),(2,none),(3,none),(4,none),(5,none),(6,some [])]⟩]else if i=2012 then [.chn]else if i=2007 then [.chn]else []) zat Tryz.func50 rfl Tryz.call50 Tryz.ntmps50 (Nat.le_of_ble_eq_true rfl) Tryz.results50 (fun hok=> ?_);have w4:(x.w:Int).tmod 4=((x.w % 4:Nat):Int):=(Int.ofNat_tmod _ 4).symm;have w44:(x.w:Int).tdiv 4=((x.w / 4:Nat):Int):=(Int.ofNat_tdiv _ 4).symm;have w444:((x.w / 4:Nat):Int).tmod 4=((x.w / 4 % 4:Nat):Int):=(Int.ofNat_tmod _ 4).symm;have w16:(x.w:Int).tdiv 16=((x.w / 16:Nat):Int):=(Int.ofNat_tdiv _ 16).symm;have k4:(x.kind:Int).tmod 4=((x.kind % 4:Nat):Int):=(Int.ofNat_tmod _ 4).symm;have kd:(x.kind:Int).tdiv 4=((x.kind / 4:Nat):Int):=(Int.ofNat_tdiv _ 4).symm;have kd2:((x.kind / 4:Nat):Int).tmod 2=((x.kind / 4 % 2:Nat):Int):=(Int.ofNat_tmod _ 2).symm;have v1:IntKind.i64.wrap ((x.w % 4:Nat):Int)=((x.w % 4:Nat):Int):=zaQ (by omega) (by omega);have v2:IntKind.i64.wrap (1+((x.w % 4:Nat):Int))=((1+x.w % 4:Nat):Int):=zaQ (by omega) (by omega);have v3:IntKind.i64.wrap ((x.w / 4 % 4:Nat):Int)=((x.w / 4 % 4:Nat):Int):=zaQ (by omega) (by omega);have v4:IntKind.i64.wrap (1+((x.w / 4 % 4:Nat):Int))=((1+x.w / 4 % 4:Nat):Int):=zaQ (by omega) (by omega);have v5:IntKind.i64.wrap ((x.w / 16:Nat):Int)=((x.w / 16:Nat):Int):=zaQ (by omega) (by omega);have v6:IntKind.i64.wrap (1+((x.w / 16:Nat):Int))=((1+x.w / 16:Nat):Int):=zaQ (by omega) (by omega);have u1:IntKind.u8.wrap ((x.w / 4:Nat):Int)=((x.w / 4:Nat):Int):=u8_id (by omega);have u2:IntKind.u8.wrap ((x.w / 16:Nat):Int)=((x.w / 16:Nat):Int):=u8_id (by omega);have u3:IntKind.u8.wrap ((x.kind / 4:Nat):Int)=((x.kind / 4:Nat):Int):=u8_id (by omega);have kc:=zsg (1+x.w / 16);simp only[ZE,↓reduceIte,pE,pL,pA,pS,pM,pD]at kc;have o0:=own_c x.l (za4 x) sA sB hb;have o2:=own_c x.l (za4 x) sC sB hb;have o3:=own_c x.l (za4 x) sD sC hb;have l0:=zly x.l (za4 x) sA sB;have l2:=zly x.l (za4 x) sC sB;have l3:=zly x.l (za4 x) sD sC;obtain⟨O0,q0⟩: ∃L,znJ x.l (za4 x) sA sB=L:=⟨_,rfl⟩;obtain⟨O2,q2⟩: ∃L,znJ x.l (za4 x) sC sB=L:=⟨_,rfl⟩;obtain⟨O3,q3⟩: ∃L,znJ x.l (za4 x) sD sC=L:=⟨_,rfl⟩;rw[q0]at o0 l0;rw[q2]at o2 l2;rw[q3]at o3 l3;have i1:=zsZ sU (za4 x) sA sC;have i2:=zsZ sVV (za4 x) sC sB;have i3:=zsZ sU (za4 x) sC sD;have c22:=zgU x.l [sR,sS] (za4 x) hb (by simp) (by simp) 22 (by omega);have g24:=zhF x.l [sR,sS] (za4 x) hb (by simp) (by simp) 24 (by omega);have cm:=cell_c x.l hb;obtain⟨y22,h22⟩: ∃e,cond x.l [sR,sS] (za4 x) 1 22=e:=⟨_,rfl⟩;obtain⟨y24,h24⟩: ∃e,gen x.l [sR,sS] (za4 x) 1 24=e:=⟨_,rfl⟩;rw[h22]at c22;rw[h24]at g24;simp only[ZE,↓reduceIte,pE,pL,pA,pS,pM,pD,zj9,eAt,zhW,List.map_cons,List.map_nil,za4,sA,sB,sC,sD,sU,sVV,sR,sS,st,emp]at o0 o2 o3 i1 i2 i3 c22 g24 cm;by_cases b0:x.kind % 4=0
 ·have h0:(((x.kind % 4:Nat):Int)==0)=true:=by simp[b0]
  rw[zdG,if_pos b0,zl9,zd2,if_pos b0,q0];simp(maxSteps:=4000000) only[ZE,↓reduceIte,pE,pL,pA,pS,pM,pD,zew,zN,qT,qG,qL,qH,qN,qB,qE,qO,qA,qM,Int.reduceEq,not_false_eq_true,w4,w44,w444,w16,v1,v2,v3,v4,v5,v6,u1,u2,u3,k4,kd,kd2];refine EFn.p ?_;simp only[ZE,↓reduceIte,pE,pL,pA,pS,pM,pD,zN,qT,qG,qL,qH,qN,qB,qE,qO,qA,qM];refine zar.i kc ?_;simp only[ZE,↓reduceIte,pE,pL,pA,pS,pM,pD,zN,qT,qG,qL,qH,qN,qB,qE,qO,qA,qM,Int.reduceEq,not_false_eq_true,w4,w44,w444,w16,v1,v2,v3,v4,v5,v6,u1,u2,u3,k4,kd,kd2,h0];refine⟨by kernel_rfl,by kernel_rfl,by kernel_rfl,zaz.i o0 ?_⟩;simp only[ZE,↓reduceIte,pE,pL,pA,pS,pM,pD,zN,qT,qG,qL,qH,qN,qB,qE,qO,qA,qM];refine⟨zaz.i o0 ?_,?_⟩
  ·simp only[ZE,↓reduceIte,pE,pL,pA,pS,pM,pD]
  have ro:=zci O0;have e2:2+O0.length=O0.length+1+1:=by omega
  simp only[ZE,↓reduceIte,pE,pL,pA,pS,pM,pD,zN,qT,qG,qL,qH,qN,qB,qE,qO,qA,qM,e2,zl9,za4,rawC,inA,zow,chC,chD,zeS,zgk,zc2,zh3,zaU,zbQ,sA,sB,sC,sD,sU,sVV,sX,sY,zg7,zma,st,zcW,zbm,zgN,zgO,zbl,zbj,emp,Int.reduceEq,not_false_eq_true];exact⟨ro,by omega,by omega⟩
 have h0:(((x.kind % 4:Nat):Int)==0)=false:=by simp; omega
 by_cases b9:x.kind / 4 % 2=1
 ·have h9:(((x.kind / 4 % 2:Nat):Int)==1)=true:=by simp[b9]
  rw[zdG,if_neg b0,if_pos b9,zl9,zd2,if_neg b0];by_cases b1:x.kind % 4=1
  ·have h1:(((x.kind % 4:Nat):Int)==1)=true:=by simp[b1]
   rw[if_pos b1];simp(maxSteps:=4000000) only[ZE,↓reduceIte,pE,pL,pA,pS,pM,pD,zew,zN,qT,qG,qL,qH,qN,qB,qE,qO,qA,qM,Int.reduceEq,not_false_eq_true,w4,w44,w444,w16,v1,v2,v3,v4,v5,v6,u1,u2,u3,k4,kd,kd2];refine EFn.p ?_;simp only[ZE,↓reduceIte,pE,pL,pA,pS,pM,pD,zN,qT,qG,qL,qH,qN,qB,qE,qO,qA,qM];refine zar.i kc ?_;simp only[ZE,↓reduceIte,pE,pL,pA,pS,pM,pD,zN,qT,qG,qL,qH,qN,qB,qE,qO,qA,qM,Int.reduceEq,not_false_eq_true,w4,w44,w444,w16,v1,v2,v3,v4,v5,v6,u1,u2,u3,k4,kd,kd2,h0,h1,h9];refine⟨by kernel_rfl,by kernel_rfl,by kernel_rfl,zaz.i i1 ?_⟩;simp only[ZE,↓reduceIte,pE,pL,pA,pS,pM,pD,zN,qT,qG,qL,qH,qN,qB,qE,qO,qA,qM];refine zaz.i i2 ?_;simp only[ZE,↓reduceIte,pE,pL,pA,pS,pM,pD,zN,qT,qG,qL,qH,qN,qB,qE,qO,qA,qM,w4,w44,w444,w16,v1,v2,v3,v4,v5,v6,u1,u2,u3,k4,kd,kd2,h9,Int.reduceEq,not_false_eq_true];refine⟨by kernel_rfl,zaz.i cm ?_⟩;simp only[ZE,↓reduceIte,pE,pL,pA,pS,pM,pD,zN,qT,qG,qL,qH,qN,qB,qE,qO,qA,qM,zl9,za4,rawC,inA,zow,chC,chD,zeS,zgk,zc2,zh3,zaU,zbQ,sA,sB,sC,sD,sU,sVV,sX,sY,zg7,zma,st,zcW,zbm,zgN,zgO,zbl,zbj,emp,Int.reduceEq,not_false_eq_true]
  have h1:(((x.kind % 4:Nat):Int)==1)=false:=by simp; omega
  rw[if_neg b1];by_cases b2:x.kind % 4=2
  ·have h2:(((x.kind % 4:Nat):Int)==2)=true:=by simp[b2]
   rw[if_pos b2,q2];simp(maxSteps:=4000000) only[ZE,↓reduceIte,pE,pL,pA,pS,pM,pD,zew,zN,qT,qG,qL,qH,qN,qB,qE,qO,qA,qM,Int.reduceEq,not_false_eq_true,w4,w44,w444,w16,v1,v2,v3,v4,v5,v6,u1,u2,u3,k4,kd,kd2];refine EFn.p ?_;simp only[ZE,↓reduceIte,pE,pL,pA,pS,pM,pD,zN,qT,qG,qL,qH,qN,qB,qE,qO,qA,qM];refine zar.i kc ?_;simp only[ZE,↓reduceIte,pE,pL,pA,pS,pM,pD,zN,qT,qG,qL,qH,qN,qB,qE,qO,qA,qM,Int.reduceEq,not_false_eq_true,w4,w44,w444,w16,v1,v2,v3,v4,v5,v6,u1,u2,u3,k4,kd,kd2,h0,h1,h2,h9];refine⟨by kernel_rfl,by kernel_rfl,by kernel_rfl,zaz.i i1 ?_⟩;simp only[ZE,↓reduceIte,pE,pL,pA,pS,pM,pD,zN,qT,qG,qL,qH,qN,qB,qE,qO,qA,qM];refine zaz.i o2 ?_;simp only[ZE,↓reduceIte,pE,pL,pA,pS,pM,pD,zN,qT,qG,qL,qH,qN,qB,qE,qO,qA,qM];refine⟨zaz.i o2 ?_,?_⟩
   ·simp only[ZE,↓reduceIte,pE,pL,pA,pS,pM,pD]
   have ro:=zci O2;have e4:4+O2.length=O2.length+1+1+1+1:=by omega
   try simp only[ZE,↓reduceIte,pE,pL,pA,pS,pM,pD,zN,qT,qG,qL,qH,qN,qB,qE,qO,qA,qM,w4,w44,w444,w16,v1,v2,v3,v4,v5,v6,u1,u2,u3,k4,kd,kd2,h9,e4,Int.reduceEq,not_false_eq_true]
   refine⟨⟨ro,by omega,by omega⟩,by kernel_rfl,zaz.i cm ?_⟩;simp only[ZE,↓reduceIte,pE,pL,pA,pS,pM,pD,zN,qT,qG,qL,qH,qN,qB,qE,qO,qA,qM,zl9,za4,rawC,inA,zow,chC,chD,zeS,zgk,zc2,zh3,zaU,zbQ,sA,sB,sC,sD,sU,sVV,sX,sY,zg7,zma,st,zcW,zbm,zgN,zgO,zbl,zbj,emp,Int.reduceEq,not_false_eq_true]
  have h2:(((x.kind % 4:Nat):Int)==2)=false:=by simp; omega
  rw[if_neg b2,q3,h22,h24];simp(maxSteps:=4000000) only[ZE,↓reduceIte,pE,pL,pA,pS,pM,pD,zew,zN,qT,qG,qL,qH,qN,qB,qE,qO,qA,qM,Int.reduceEq,not_false_eq_true,w4,w44,w444,w16,v1,v2,v3,v4,v5,v6,u1,u2,u3,k4,kd,kd2];refine EFn.p ?_;simp only[ZE,↓reduceIte,pE,pL,pA,pS,pM,pD,zN,qT,qG,qL,qH,qN,qB,qE,qO,qA,qM];refine zar.i kc ?_;simp only[ZE,↓reduceIte,pE,pL,pA,pS,pM,pD,zN,qT,qG,qL,qH,qN,qB,qE,qO,qA,qM,Int.reduceEq,not_false_eq_true,w4,w44,w444,w16,v1,v2,v3,v4,v5,v6,u1,u2,u3,k4,kd,kd2,h0,h1,h2,h9];refine⟨by kernel_rfl,by kernel_rfl,by kernel_rfl,zaz.i i3 ?_⟩;simp only[ZE,↓reduceIte,pE,pL,pA,pS,pM,pD,zN,qT,qG,qL,qH,qN,qB,qE,qO,qA,qM];refine zaz.i o3 ?_;simp only[ZE,↓reduceIte,pE,pL,pA,pS,pM,pD,zN,qT,qG,qL,qH,qN,qB,qE,qO,qA,qM];refine⟨zaz.i o3 ?_,?_⟩
  ·simp only[ZE,↓reduceIte,pE,pL,pA,pS,pM,pD]
  have ro:=zci O3;have e4:4+O3.length=O3.length+1+1+1+1:=by omega
  try simp only[ZE,↓reduceIte,pE,pL,pA,pS,pM,pD,zN,qT,qG,qL,qH,qN,qB,qE,qO,qA,qM,e4]
  refine⟨⟨ro,by omega,by omega⟩,by kernel_rfl,zaz.i c22 ?_⟩;simp only[ZE,↓reduceIte,pE,pL,pA,pS,pM,pD,zN,qT,qG,qL,qH,qN,qB,qE,qO,qA,qM,e4];refine zaz.i g24 ?_;simp only[ZE,↓reduceIte,pE,pL,pA,pS,pM,pD,zN,qT,qG,qL,qH,qN,qB,qE,qO,qA,qM,w4,w44,w444,w16,v1,v2,v3,v4,v5,v6,u1,u2,u3,k4,kd,kd2,h9,e4,Int.reduceEq,not_false_eq_true,List.length_append];refine⟨⟨by omega,by omega⟩,by kernel_rfl,zaz.i cm ?_⟩;simp only[ZE,↓reduceIte,pE,pL,pA,pS,pM,pD,zN,qT,qG,qL,qH,qN,qB,qE,qO,qA,qM,List.map_append,zl9,za4,rawC,inA,zow,chC,chD,zeS,zgk,zc2,zh3,zaU,zbQ,sA,sB,sC,sD,sU,sVV,sX,sY,zg7,zma,st,zcW,zbm,zgN,zgO,zbl,zbj,emp,Int.reduceEq,not_false_eq_true]
 ·have h9:(((x.kind / 4 % 2:Nat):Int)==1)=false:=by simp; omega
  rw[zdG,if_neg b0,if_neg b9,zl9,zd2,if_neg b0];by_cases b1:x.kind % 4=1
  ·have h1:(((x.kind % 4:Nat):Int)==1)=true:=by simp[b1]
   rw[if_pos b1];simp(maxSteps:=4000000) only[ZE,↓reduceIte,pE,pL,pA,pS,pM,pD,zew,zN,qT,qG,qL,qH,qN,qB,qE,qO,qA,qM,Int.reduceEq,not_false_eq_true,w4,w44,w444,w16,v1,v2,v3,v4,v5,v6,u1,u2,u3,k4,kd,kd2];refine EFn.p ?_;simp only[ZE,↓reduceIte,pE,pL,pA,pS,pM,pD,zN,qT,qG,qL,qH,qN,qB,qE,qO,qA,qM];refine zar.i kc ?_;simp only[ZE,↓reduceIte,pE,pL,pA,pS,pM,pD,zN,qT,qG,qL,qH,qN,qB,qE,qO,qA,qM,Int.reduceEq,not_false_eq_true,w4,w44,w444,w16,v1,v2,v3,v4,v5,v6,u1,u2,u3,k4,kd,kd2,h0,h1,h9];refine⟨by kernel_rfl,by kernel_rfl,by kernel_rfl,zaz.i i1 ?_⟩;simp only[ZE,↓reduceIte,pE,pL,pA,pS,pM,pD,zN,qT,qG,qL,qH,qN,qB,qE,qO,qA,qM];refine zaz.i i2 ?_;simp only[ZE,↓reduceIte,pE,pL,pA,pS,pM,pD,zN,qT,qG,qL,qH,qN,qB,qE,qO,qA,qM,w4,w44,w444,w16,v1,v2,v3,v4,v5,v6,u1,u2,u3,k4,kd,kd2,h9,Int.reduceEq,not_false_eq_true];refine⟨by kernel_rfl,zaz.i cm ?_⟩;simp only[ZE,↓reduceIte,pE,pL,pA,pS,pM,pD,zN,qT,qG,qL,qH,qN,qB,qE,qO,qA,qM,zl9,za4,rawC,inA,zow,chC,chD,zeS,zgk,zc2,zh3,zaU,zbQ,sA,sB,sC,sD,sU,sVV,sX,sY,zg7,zma,st,zcW,zbm,zgN,zgO,zbl,zbj,emp,Int.reduceEq,not_false_eq_true]
  have h1:(((x.kind % 4:Nat):Int)==1)=false:=by simp; omega
  rw[if_neg b1];by_cases b2:x.kind % 4=2
  ·have h2:(((x.kind % 4:Nat):Int)==2)=true:=by simp[b2]
   rw[if_pos b2,q2];simp(maxSteps:=4000000) only[ZE,↓reduceIte,pE,pL,pA,pS,pM,pD,zew,zN,qT,qG,qL,qH,qN,qB,qE,qO,qA,qM,Int.reduceEq,not_false_eq_true,w4,w44,w444,w16,v1,v2,v3,v4,v5,v6,u1,u2,u3,k4,kd,kd2];refine EFn.p ?_;simp only[ZE,↓reduceIte,pE,pL,pA,pS,pM,pD,zN,qT,qG,qL,qH,qN,qB,qE,qO,qA,qM];refine zar.i kc ?_;simp only[ZE,↓reduceIte,pE,pL,pA,pS,pM,pD,zN,qT,qG,qL,qH,qN,qB,qE,qO,qA,qM,Int.reduceEq,not_false_eq_true,w4,w44,w444,w16,v1,v2,v3,v4,v5,v6,u1,u2,u3,k4,kd,kd2,h0,h1,h2,h9];refine⟨by kernel_rfl,by kernel_rfl,by kernel_rfl,zaz.i i1 ?_⟩;simp only[ZE,↓reduceIte,pE,pL,pA,pS,pM,pD,zN,qT,qG,qL,qH,qN,qB,qE,qO,qA,qM];refine zaz.i o2 ?_;simp only[ZE,↓reduceIte,pE,pL,pA,pS,pM,pD,zN,qT,qG,qL,qH,qN,qB,qE,qO,qA,qM];refine⟨zaz.i o2 ?_,?_⟩
   ·simp only[ZE,↓reduceIte,pE,pL,pA,pS,pM,pD]
   have ro:=zci O2;have e4:4+O2.length=O2.length+1+1+1+1:=by omega
   try simp only[ZE,↓reduceIte,pE,pL,pA,pS,pM,pD,zN,qT,qG,qL,qH,qN,qB,qE,qO,qA,qM,w4,w44,w444,w16,v1,v2,v3,v4,v5,v6,u1,u2,u3,k4,kd,kd2,h9,e4,Int.reduceEq,not_false_eq_true]
   refine⟨⟨ro,by omega,by omega⟩,by kernel_rfl,zaz.i cm ?_⟩;simp only[ZE,↓reduceIte,pE,pL,pA,pS,pM,pD,zN,qT,qG,qL,qH,qN,qB,qE,qO,qA,qM,zl9,za4,rawC,inA,zow,chC,chD,zeS,zgk,zc2,zh3,zaU,zbQ,sA,sB,sC,sD,sU,sVV,sX,sY,zg7,zma,st,zcW,zbm,zgN,zgO,zbl,zbj,emp,Int.reduceEq,not_false_eq_true]
  have h2:(((x.kind % 4:Nat):Int)==2)=false:=by simp; omega
  rw[if_neg b2,q3,h22,h24];simp(maxSteps:=4000000) only[ZE,↓reduceIte,pE,pL,pA,pS,pM,pD,zew,zN,qT,qG,qL,qH,qN,qB,qE,qO,qA,qM,Int.reduceEq,not_false_eq_true,w4,w44,w444,w16,v1,v2,v3,v4,v5,v6,u1,u2,u3,k4,kd,kd2];refine EFn.p ?_;simp only[ZE,↓reduceIte,pE,pL,pA,pS,pM,pD,zN,qT,qG,qL,qH,qN,qB,qE,qO,qA,qM];refine zar.i kc ?_;simp only[ZE,↓reduceIte,pE,pL,pA,pS,pM,pD,zN,qT,qG,qL,qH,qN,qB,qE,qO,qA,qM,Int.reduceEq,not_false_eq_true,w4,w44,w444,w16,v1,v2,v3,v4,v5,v6,u1,u2,u3,k4,kd,kd2,h0,h1,h2,h9];refine⟨by kernel_rfl,by kernel_rfl,by kernel_rfl,zaz.i i3 ?_⟩;simp only[ZE,↓reduceIte,pE,pL,pA,pS,pM,pD,zN,qT,qG,qL,qH,qN,qB,qE,qO,qA,qM];refine zaz.i o3 ?_;simp only[ZE,↓reduceIte,pE,pL,pA,pS,pM,pD,zN,qT,qG,qL,qH,qN,qB,qE,qO,qA,qM];refine⟨zaz.i o3 ?_,?_⟩
  ·simp only[ZE,↓reduceIte,pE,pL,pA,pS,pM,pD]
  have ro:=zci O3;have e4:4+O3.length=O3.length+1+1+1+1:=by omega
  try simp only[ZE,↓reduceIte,pE,pL,pA,pS,pM,pD,zN,qT,qG,qL,qH,qN,qB,qE,qO,qA,qM,e4]
  refine⟨⟨ro,by omega,by omega⟩,by kernel_rfl,zaz.i c22 ?_⟩;simp only[ZE,↓reduceIte,pE,pL,pA,pS,pM,pD,zN,qT,qG,qL,qH,qN,qB,qE,qO,qA,qM,e4];refine zaz.i g24 ?_;simp only[ZE,↓reduceIte,pE,pL,pA,pS,pM,pD,zN,qT,qG,qL,qH,qN,qB,qE,qO,qA,qM,w4,w44,w444,w16,v1,v2,v3,v4,v5,v6,u1,u2,u3,k4,kd,kd2,h9,e4,Int.reduceEq,not_false_eq_true,List.length_append];refine⟨⟨by omega,by omega⟩,by kernel_rfl,zaz.i cm ?_⟩;simp only[ZE,↓reduceIte,pE,pL,pA,pS,pM,pD,zN,qT,qG,qL,qH,qN,qB,qE,qO,qA,qM,List.map_append,zl9,za4,rawC,inA,zow,chC,chD,zeS,zgk,zc2,zh3,zaU,zbQ,sA,sB,sC,sD,sU,sVV,sX,sY,zg7,zma,st,zcW,zbm,zgN,zgO,zbl,zbj,emp,Int.reduceEq,not_false_eq_true]
def zk7(mem:Bool)(l:List Nat)(w:Num)(c0:Str):Expr:=match mem with
 | true=>.mk 5 emp zbj zbj [gen l [sR,sS,sT,c0] w 1 8,.mk 15 sM zbj zbj [gen l [sR,sS] w 0 10]]
 | false=>gen l [sR,sS,sT,c0] w 1 8
def zqD(mem:Bool)(l:List Nat)(w:Num)(c0 c1:Str)(z:List Item):List Item:=match mem with
 | true=>zk1 sR l 2 [sR,sS,sT,c0] w::zk1 sS l 4 [sS,sR,c0] w::zdf sT w (gen l [sR,sS] w 1 6)::memI l w c0::zde c0 (cond l [sR,sS] w 1 18)::zh3 c1 (cond l [sR,sS,sT,c0] w 1 20) (zk7 true l w c0)::z
 | false=>zk1 sR l 2 [sR,sS,sT,c0] w::zk1 sS l 4 [sS,sR,c0] w::zdf sT w (gen l [sR,sS] w 1 6)::zde c0 (cond l [sR,sS] w 1 18)::zh3 c1 (cond l [sR,sS,sT,c0] w 1 20) (zk7 false l w c0)::z
theorem ztL(l:List Nat)(w:Num)(c0 c1:Str)(z:List Item): ∃mem,znJ l w c0 c1++z=zqD mem l w c0 c1 z:=by
 unfold znJ zlx zpv zlz zox;by_cases h:zaR l 0 % 2=1
 ·refine⟨true,?_⟩;simp only[if_pos h]; rfl
 ·refine⟨false,?_⟩;simp only[if_neg h]; rfl
def zjl(mem:Bool)(x:Raw):Module:=⟨zma,zdk (1+x.w / 16),[],inA x::zow x::zqD mem x.l (za4 x) sA sB []⟩
def two(o:Bool)(a b:Module):List Module:=match o with
 | true=>[a,b]
 | false=>[b,a]
def zmb(x:Raw):Module:=⟨zma,zdk (1+x.w / 16),[],[inA x,zow x,chC x,zc2 sU (za4 x) sA sC,zc2 sVV (za4 x) sC sB]⟩
def zjJ(mem:Bool)(x:Raw):Module:=⟨zma,zdk (1+x.w / 16),[],inA x::zow x::chC x::zc2 sU (za4 x) sA sC::zqD mem x.l (za4 x) sC sB []⟩
def zjK(mem:Bool)(x:Raw):Module:=⟨zma,zdk (1+x.w / 16),[],zow x::chC x::chD x::zc2 sU (za4 x) sC sD::zqD mem x.l (za4 x) sD sC [zh3 sB (cond x.l [sR,sS] (za4 x) 1 22) (gen x.l [sR,sS] (za4 x) 1 24)]⟩
/-- What a generated file looks like. -/
theorem zc5(x:Raw):(∃mem,zdG x=[zjl mem x])\/(∃o,zdG x=two o (zmb x) (zbf x.l))\/(∃o mem,zdG x=two o (zjJ mem x) (zbf x.l))\/(∃o mem,zdG x=two o (zjK mem x) (zbf x.l)):=by
 by_cases b0:x.kind % 4=0
 ·left;obtain⟨mem,h⟩:=ztL x.l (za4 x) sA sB [];rw[List.append_nil]at h;refine⟨mem,?_⟩;rw[zdG,if_pos b0,zl9,zd2,if_pos b0,h]; rfl
 right;have ho: ∀t:Module,zl9 x=t-> ∃o,zdG x=two o t (zbf x.l):=by
  intro t ht;by_cases b9:x.kind / 4 % 2=1
  ·exact⟨true,by rw[zdG,if_neg b0,if_pos b9,ht]; rfl⟩
  ·exact⟨false,by rw[zdG,if_neg b0,if_neg b9,ht]; rfl⟩
 by_cases b1:x.kind % 4=1
 ·left;exact ho _ (by rw[zl9,zd2,if_neg b0,if_pos b1]; rfl)
 right;by_cases b2:x.kind % 4=2
 ·left;obtain⟨mem,h⟩:=ztL x.l (za4 x) sC sB [];rw[List.append_nil]at h;obtain⟨o,h'⟩:=ho (zjJ mem x) (by rw[zl9,zd2,if_neg b0,if_neg b1,if_pos b2,h]; rfl);exact⟨o,mem,h'⟩
 ·right;obtain⟨mem,h⟩:=ztL x.l (za4 x) sD sC [zh3 sB (cond x.l [sR,sS] (za4 x) 1 22) (gen x.l [sR,sS] (za4 x) 1 24)];obtain⟨o,h'⟩:=ho (zjK mem x) (by rw[zl9,zd2,if_neg b0,if_neg b1,if_neg b2,List.append_assoc,h]; rfl);exact⟨o,mem,h'⟩
def sz(e:Expr):Nat:=e.all.length
theorem zeB: ∀r:List Expr,(Expr.allL r).length =(r.map sz).sum
 | []=>rfl
 | e::r=>by rw[Expr.allL,List.length_append,List.map_cons,List.sum_cons,zeB r]; rfl
theorem zec(o:Int)(n:Str)(k w:Num)(r:List Expr):sz (.mk o n k w r)=(r.map sz).sum +1:=by
 unfold sz;rw[Expr.all_eq,List.length_cons,Expr.args,zeB]; rfl
theorem zfh(l:List Nat)(ns:List Str)(w:Num)(a:Nat):sz (zmH l ns w a)=1:=by
 unfold zmH; split <;> rw[zec] <;> rfl
theorem zmk(x y:Expr)(k:Nat):sz (zfa x y k)<=sz x+sz y+1:=by
 unfold zfa;split
 ·rw[zec]; simp
 split
 ·rw[zec]; simp
 split
 ·rw[zec]; simp
 ·rw[zec]; simp
theorem zty(x y c:Expr)(k:Nat):sz (ziW x y c k)<=sz x+sz y+sz c+1:=by
 unfold ziW;split
 ·rw[zec]; simp only[List.map_cons,List.map_nil,List.sum_cons,List.sum_nil]; omega
 split
 ·rw[zec]; simp only[List.map_cons,List.map_nil,List.sum_cons,List.sum_nil]; omega
 split
 ·rw[zec]; simp only[List.map_cons,List.map_nil,List.sum_cons,List.sum_nil]; omega
 split
 ·rw[zec]; simp only[List.map_cons,List.map_nil,List.sum_cons,List.sum_nil]; omega
 split
 ·rw[zec]; simp only[List.map_cons,List.map_nil,List.sum_cons,List.sum_nil]; omega
 split
 ·rw[zec]; simp only[List.map_cons,List.map_nil,List.sum_cons,List.sum_nil]; omega
 ·rw[zec]; simp only[List.map_cons,List.map_nil,List.sum_cons,List.sum_nil]; omega
theorem zwW(l:List Nat)(ns:List Str)(w:Num)(a:Nat):sz (gen l ns w 0 a)<=20:=by
 have:=zfh l ns w a;show sz (zmH l ns w a)<=20;omega
theorem zld(l:List Nat)(ns:List Str)(w:Num)(a:Nat):sz (gen l ns w 1 a)<=6:=by
 unfold gen;split
 ·have:=zfh l ns w a; omega
 ·have h1:=zfh l ns w (3*a+1);have h2:=zfh l ns w (3*a+2);have h3:=zfh l ns w (3*a+4);have h4:=zfh l ns w (3*a+5);have h5:=zmk (gen l ns w 0 (3*a+4)) (zmH l ns w (3*a+5)) (zaR l (3*a+3));have h6:=zty (gen l ns w 0 (3*a+1)) (gen l ns w 0 (3*a+2)) (zfa (gen l ns w 0 (3*a+4)) (zmH l ns w (3*a+5)) (zaR l (3*a+3))) (zaR l a);simp only[gen]at h5 h6 ⊢;omega
theorem zdq(l:List Nat)(ns:List Str)(w:Num)(a:Nat):sz (gen l ns w 1 a)<=20:=Nat.le_trans (zld l ns w a) (by decide)
theorem zcz(l:List Nat)(ns:List Str)(w:Num)(a:Nat):sz (cond l ns w 1 a)<=20:=by
 have h1:=zld l ns w (a+1);have h2:=zfh l ns w (a+2);have h3:=zmk (gen l ns w 1 (a+1)) (zmH l ns w (a+2)) (zaR l a);unfold cond;omega
theorem zoa(mem:Bool)(l:List Nat)(w:Num)(c0:Str):sz (zk7 mem l w c0)<=20:=by
 cases mem
 ·exact zdq _ _ _ _
 ·have h1:=zld l [sR,sS,sT,c0] w 8;have h2:=zfh l [sR,sS] w 10;show sz (.mk 5 emp zbj zbj [gen l [sR,sS,sT,c0] w 1 8,.mk 15 sM zbj zbj [gen l [sR,sS] w 0 10]])<=20;rw[zec,List.map_cons,List.map_cons,List.map_nil,zec,List.map_cons,List.map_nil];simp only[List.sum_cons,List.sum_nil,gen]at*;omega
theorem zh9:sz zbQ<=20:=by unfold zbQ; rw[zec]; simp
theorem zuv{l:List Expr}: ∀ {x:Expr},x∈l->sz x<=(l.map sz).sum :=by
 induction l with
 | nil=>intro x h; simp at h
 | cons y r ih=>
  intro x h;rw[List.map_cons,List.sum_cons];rcases List.mem_cons.1 h with rfl | h
  ·omega
  ·have:=ih h; omega
theorem zyi(l:List Expr):zcY 7 (l.map zbx):=by
 intro y hy;obtain⟨q,_,rfl⟩:=List.mem_map.1 hy;simp[zb6,eI,eS,D.one,Value.oneCell']
def zte(n:Nat):I64:=if h:n<=9223372036854775807 then⟨(n:Int),zdi h⟩else⟨0,rfl⟩
theorem zyl{n:Nat}(h:n<=1000):(zte n).1 =(n:Int):=by unfold zte; rw[dif_pos (by omega)]
def zfp(k1 k3:Nat)(s:Str)(x:Item):Item:=
 if k1 % 12=4 then{x with name:=s}else if k1 % 12=5 then{x with kind:=zte (k3 % 11)}else if k1 % 12=6 then{x with width:=⟨x.width.n,s⟩}
 else if k1 % 12=7 then{x with a:=.mk 14 s zbj zbj []}else if k1 % 12=8 then{x with a:=.mk (k3 % 20:Nat) s zbj zbj [x.a]}
 else if k1 % 12=9 then{x with rule:=⟨(k3 % 6:Nat)-1,s,0⟩}else if k1 % 12=10 then{x with of:=s}else if k1 % 12=11 then{x with ports:=x.ports++[⟨sX,s⟩]}else x
def zeb(k1 k3:Nat)(s:Str)(l:List Item)(n:Nat)(x:Item):List Item:=(if k1 % 12<4 then l++[x]else l).set n (zfp k1 k3 s x)
def zkS(k1 k2 k3:Nat)(s:Str)(m:Module):Module:=
 if m.items.length=0\/k1 % 16<4 then
  (if k1 % 4=0 then{m with name:=s}else if k1 % 4=1 then{m with clock:=s}else if k1 % 4=2 then{m with params:=m.params++[s]}else{m with items:=m.items++[{zaU with kind:=zte (k2 % 11),name:=s}]})
 else{m with items:=zeb k1 k3 s m.items (k2 % m.items.length) (m.items.getD (k2 % m.items.length) zaU)}
theorem zt9(l:List Str):zcY 1 (l.map fun s=>[D.lit (.string s.1)]):=by
 intro y hy;obtain⟨q,_,rfl⟩:=List.mem_map.1 hy;simp[D.one,Value.oneCell']
theorem zi5(l:List Module):zcY 4 (l.map zaC):=by
 intro y hy;obtain⟨q,_,rfl⟩:=List.mem_map.1 hy;simp[zaC,eS,zd5,zbR,D.one,Value.oneCell']
theorem zyh(l:List Bind):zcY 2 (l.map zjO):=by
 intro y hy;obtain⟨q,_,rfl⟩:=List.mem_map.1 hy;simp[zjO,eS,D.one,Value.oneCell']
theorem zy9(f:List Module)(k0 k1 k2 k3:Nat)(s:Str)(h0:k0<256)(h1:k1<256)(h2:k2<256)(h3:k3<256)(hf:f.length<=1000)(i:Nat)(hi:i<f.length)(hki:k0 % f.length=i)(m:Module)(hm:f[i]=m)(hl:m.items.length<=800)(hp:m.params.length<=800)
  (hc:m.items.length=0\/k1 % 16<4):FnP Tryz.prog 33 [.agg [zax f],.agg [eU8 k0,eU8 k1,eU8 k2,eU8 k3],eS s] (.d (.agg [zax (f.set i (zkS k1 k2 k3 s m))])) []:=by
 refine FnP.of_eC (own:=[]) (fun i=>if i=1016 then [.frz 34]else if i=1039 then [.frz 34]else if i=15 then [.frz 73]else if i=37 then [.frz 157]else if i=31 then [.frz 138]else if i=29 then [.adB 11 14 99 58 7,.frz 99]else []) zat Tryz.func33 rfl Tryz.call33 Tryz.ntmps33 (Nat.le_of_ble_eq_true rfl) Tryz.results33 (fun hok=> ?_);have e1:IntKind.i64.wrap (k0:Int)=(k0:Int):=zaQ (by omega) (by omega);have e2:IntKind.i64.wrap (k2:Int)=(k2:Int):=zaQ (by omega) (by omega);have r1:(k0:Int).tmod (f.length:Int)=(i:Int):=by rw[<-hki]; exact(Int.ofNat_tmod _ _).symm
 have m16:(k1:Int).tmod 16=((k1 % 16:Nat):Int):=(Int.ofNat_tmod _ _).symm;have m4:(k1:Int).tmod 4=((k1 % 4:Nat):Int):=(Int.ofNat_tmod _ _).symm;have m12:(k1:Int).tmod 12=((k1 % 12:Nat):Int):=(Int.ofNat_tmod _ _).symm;have z1: ¬(f.length:Int)=0:=by omega
 have z2:((f.length:Int)==0)=false:=by rw[beq_eq_false_iff_ne]; omega
 have ro:=zi5 f;have ri:=zci m.items;have m11:(k2:Int).tmod 11=((k2 % 11:Nat):Int):=(Int.ofNat_tmod _ _).symm;have e11:IntKind.i64.wrap ((k2 % 11:Nat):Int)=((k2 % 11:Nat):Int):=zaQ (by omega) (by omega);rw[zkS,if_pos hc];by_cases hz:m.items.length=0
 ·have hz':((m.items.length:Int)==0)=true:=by simp[hz]
  by_cases b0:k1 % 4=0
  ·have g0:(((k1 % 4:Nat):Int)==0)=true:=by simp[b0]
   rw[if_pos b0];simp(maxSteps:=4000000) only[ZE,↓reduceIte,pE,pL,pA,pS,pM,pD,zN,qT,qG,qL,qH,qN,qB,qE,qO,qA,qM,e1,e2,r1,m16,m4,m12,z1,z2,not_false_eq_true,zaa hi,zai hi,List.length_map,hm,hz',g0,List.length_append,List.length_map,List.length_cons,List.length_nil,List.length_set,List.map_set,List.map_append,List.map_cons,List.map_nil]
   repeat' apply And.intro
   all_goals first | assumption | omega | simp only[ZE,↓reduceIte,pE,pL,pA,pS,pM,pD,List.length_append,List.length_map,List.length_cons,List.length_nil,List.length_set,List.map_set,List.map_append,List.map_cons,List.map_nil]
  have g0:(((k1 % 4:Nat):Int)==0)=false:=by simp; omega
  rw[if_neg b0];by_cases b1:k1 % 4=1
  ·have g1:(((k1 % 4:Nat):Int)==1)=true:=by simp[b1]
   rw[if_pos b1];simp(maxSteps:=4000000) only[ZE,↓reduceIte,pE,pL,pA,pS,pM,pD,zN,qT,qG,qL,qH,qN,qB,qE,qO,qA,qM,e1,e2,r1,m16,m4,m12,z1,z2,not_false_eq_true,zaa hi,zai hi,List.length_map,hm,hz',g0,g1,List.length_append,List.length_map,List.length_cons,List.length_nil,List.length_set,List.map_set,List.map_append,List.map_cons,List.map_nil]
   repeat' apply And.intro
   all_goals first | assumption | omega | simp only[ZE,↓reduceIte,pE,pL,pA,pS,pM,pD,List.length_append,List.length_map,List.length_cons,List.length_nil,List.length_set,List.map_set,List.map_append,List.map_cons,List.map_nil]
  have g1:(((k1 % 4:Nat):Int)==1)=false:=by simp; omega
  rw[if_neg b1];by_cases b2:k1 % 4=2
  ·have g2:(((k1 % 4:Nat):Int)==2)=true:=by simp[b2]
   rw[if_pos b2];have rp:=zt9 m.params;simp(maxSteps:=4000000) only[ZE,↓reduceIte,pE,pL,pA,pS,pM,pD,zN,qT,qG,qL,qH,qN,qB,qE,qO,qA,qM,e1,e2,r1,m16,m4,m12,z1,z2,not_false_eq_true,zaa hi,zai hi,List.length_map,hm,hz',g0,g1,g2,List.length_append,List.length_map,List.length_cons,List.length_nil,List.length_set,List.map_set,List.map_append,List.map_cons,List.map_nil]
   repeat' apply And.intro
   all_goals first | assumption | omega | simp only[ZE,↓reduceIte,pE,pL,pA,pS,pM,pD,List.length_append,List.length_map,List.length_cons,List.length_nil,List.length_set,List.map_set,List.map_append,List.map_cons,List.map_nil]
  have g2:(((k1 % 4:Nat):Int)==2)=false:=by simp; omega
  rw[if_neg b2];have k11:(zte (k2 % 11)).1 =((k2 % 11:Nat):Int):=zyl (by omega);simp(maxSteps:=4000000) only[ZE,↓reduceIte,pE,pL,pA,pS,pM,pD,zN,qT,qG,qL,qH,qN,qB,qE,qO,qA,qM,e1,e2,r1,m16,m4,m12,z1,z2,not_false_eq_true,zaa hi,zai hi,List.length_map,hm,hz',g0,g1,g2,m11,e11,k11,zcW,zbm,zgN,zgO,zbl,zbQ,zbj,emp,zaU,List.length_append,List.length_map,List.length_cons,List.length_nil,List.length_set,List.map_set,List.map_append,List.map_cons,List.map_nil]
  repeat' apply And.intro
  all_goals first | assumption | omega | simp only[ZE,↓reduceIte,pE,pL,pA,pS,pM,pD,List.length_append,List.length_map,List.length_cons,List.length_nil,List.length_set,List.map_set,List.map_append,List.map_cons,List.map_nil]
 ·have hz':((m.items.length:Int)==0)=false:=by rw[beq_eq_false_iff_ne]; omega
  have c1:decide (((k1 % 16:Nat):Int)<4)=true:=by
   rcases hc with h | h
   ·exact absurd h hz
   ·simp; omega
  by_cases b0:k1 % 4=0
  ·have g0:(((k1 % 4:Nat):Int)==0)=true:=by simp[b0]
   rw[if_pos b0];simp(maxSteps:=4000000) only[ZE,↓reduceIte,pE,pL,pA,pS,pM,pD,zN,qT,qG,qL,qH,qN,qB,qE,qO,qA,qM,e1,e2,r1,m16,m4,m12,z1,z2,not_false_eq_true,zaa hi,zai hi,List.length_map,hm,hz',c1,g0,List.length_append,List.length_map,List.length_cons,List.length_nil,List.length_set,List.map_set,List.map_append,List.map_cons,List.map_nil]
   repeat' apply And.intro
   all_goals first | assumption | omega | simp only[ZE,↓reduceIte,pE,pL,pA,pS,pM,pD,List.length_append,List.length_map,List.length_cons,List.length_nil,List.length_set,List.map_set,List.map_append,List.map_cons,List.map_nil]
  have g0:(((k1 % 4:Nat):Int)==0)=false:=by simp; omega
  rw[if_neg b0];by_cases b1:k1 % 4=1
  ·have g1:(((k1 % 4:Nat):Int)==1)=true:=by simp[b1]
   rw[if_pos b1];simp(maxSteps:=4000000) only[ZE,↓reduceIte,pE,pL,pA,pS,pM,pD,zN,qT,qG,qL,qH,qN,qB,qE,qO,qA,qM,e1,e2,r1,m16,m4,m12,z1,z2,not_false_eq_true,zaa hi,zai hi,List.length_map,hm,hz',c1,g0,g1,List.length_append,List.length_map,List.length_cons,List.length_nil,List.length_set,List.map_set,List.map_append,List.map_cons,List.map_nil]
   repeat' apply And.intro
   all_goals first | assumption | omega | simp only[ZE,↓reduceIte,pE,pL,pA,pS,pM,pD,List.length_append,List.length_map,List.length_cons,List.length_nil,List.length_set,List.map_set,List.map_append,List.map_cons,List.map_nil]
  have g1:(((k1 % 4:Nat):Int)==1)=false:=by simp; omega
  rw[if_neg b1];by_cases b2:k1 % 4=2
  ·have g2:(((k1 % 4:Nat):Int)==2)=true:=by simp[b2]
   rw[if_pos b2];have rp:=zt9 m.params;simp(maxSteps:=4000000) only[ZE,↓reduceIte,pE,pL,pA,pS,pM,pD,zN,qT,qG,qL,qH,qN,qB,qE,qO,qA,qM,e1,e2,r1,m16,m4,m12,z1,z2,not_false_eq_true,zaa hi,zai hi,List.length_map,hm,hz',c1,g0,g1,g2,List.length_append,List.length_map,List.length_cons,List.length_nil,List.length_set,List.map_set,List.map_append,List.map_cons,List.map_nil]
   repeat' apply And.intro
   all_goals first | assumption | omega | simp only[ZE,↓reduceIte,pE,pL,pA,pS,pM,pD,List.length_append,List.length_map,List.length_cons,List.length_nil,List.length_set,List.map_set,List.map_append,List.map_cons,List.map_nil]
  have g2:(((k1 % 4:Nat):Int)==2)=false:=by simp; omega
  rw[if_neg b2];have k11:(zte (k2 % 11)).1 =((k2 % 11:Nat):Int):=zyl (by omega);simp(maxSteps:=4000000) only[ZE,↓reduceIte,pE,pL,pA,pS,pM,pD,zN,qT,qG,qL,qH,qN,qB,qE,qO,qA,qM,e1,e2,r1,m16,m4,m12,z1,z2,not_false_eq_true,zaa hi,zai hi,List.length_map,hm,hz',c1,g0,g1,g2,m11,e11,k11,zcW,zbm,zgN,zgO,zbl,zbQ,zbj,emp,zaU,List.length_append,List.length_map,List.length_cons,List.length_nil,List.length_set,List.map_set,List.map_append,List.map_cons,List.map_nil]
  repeat' apply And.intro
  all_goals first | assumption | omega | simp only[ZE,↓reduceIte,pE,pL,pA,pS,pM,pD,List.length_append,List.length_map,List.length_cons,List.length_nil,List.length_set,List.map_set,List.map_append,List.map_cons,List.map_nil]
theorem zza(f:List Module)(k0 k1 k2 k3:Nat)(s:Str)(h0:k0<256)(h1:k1<256)(h2:k2<256)(h3:k3<256)(hf:f.length<=1000)(i:Nat)(hi:i<f.length)(hki:k0 % f.length=i)(m:Module)(hm:f[i]=m)(hl:m.items.length<=800)(n:Nat)(hn:n<m.items.length)(hkn:k2 % m.items.length=n)(x:Item)(hx:m.items[n]=x)(hp:x.ports.length<=800)
  (hc: ¬k1 % 16<4):FnP Tryz.prog 33 [.agg [zax f],.agg [eU8 k0,eU8 k1,eU8 k2,eU8 k3],eS s] (.d (.agg [zax (f.set i {m with items:=zeb k1 k3 s m.items n x})])) []:=by
 refine FnP.of_eC (own:=[]) (fun i=>if i=1016 then [.frz 34]else if i=1039 then [.frz 34]else if i=15 then [.frz 73]else if i=37 then [.frz 157]else if i=31 then [.frz 138]else if i=29 then [.adB 11 14 99 58 7,.frz 99]else []) zat Tryz.func33 rfl Tryz.call33 Tryz.ntmps33 (Nat.le_of_ble_eq_true rfl) Tryz.results33 (fun hok=> ?_);have e1:IntKind.i64.wrap (k0:Int)=(k0:Int):=zaQ (by omega) (by omega);have e2:IntKind.i64.wrap (k2:Int)=(k2:Int):=zaQ (by omega) (by omega);have r1:(k0:Int).tmod (f.length:Int)=(i:Int):=by rw[<-hki]; exact(Int.ofNat_tmod _ _).symm
 have m16:(k1:Int).tmod 16=((k1 % 16:Nat):Int):=(Int.ofNat_tmod _ _).symm;have m4:(k1:Int).tmod 4=((k1 % 4:Nat):Int):=(Int.ofNat_tmod _ _).symm;have m12:(k1:Int).tmod 12=((k1 % 12:Nat):Int):=(Int.ofNat_tmod _ _).symm;have z1: ¬(f.length:Int)=0:=by omega
 have z2:((f.length:Int)==0)=false:=by rw[beq_eq_false_iff_ne]; omega
 have ro:=zi5 f;have ri:=zci m.items;have m11:(k3:Int).tmod 11=((k3 % 11:Nat):Int):=(Int.ofNat_tmod _ _).symm;have e11:IntKind.i64.wrap ((k3 % 11:Nat):Int)=((k3 % 11:Nat):Int):=zaQ (by omega) (by omega);have k11:(zte (k3 % 11)).1 =((k3 % 11:Nat):Int):=zyl (by omega);have m20:(k3:Int).tmod 20=((k3 % 20:Nat):Int):=(Int.ofNat_tmod _ _).symm;have e20:IntKind.i64.wrap ((k3 % 20:Nat):Int)=((k3 % 20:Nat):Int):=zaQ (by omega) (by omega);have m6:(k3:Int).tmod 6=((k3 % 6:Nat):Int):=(Int.ofNat_tmod _ _).symm;have e6:IntKind.i64.wrap ((k3 % 6:Nat):Int)=((k3 % 6:Nat):Int):=zaQ (by omega) (by omega);have s6:IntKind.i64.wrap (((k3 % 6:Nat):Int)-1)=((k3 % 6:Nat):Int)-1:=zaQ (by omega) (by omega);have r2:(k2:Int).tmod (m.items.length:Int)=(n:Int):=by rw[<-hkn]; exact(Int.ofNat_tmod _ _).symm
 have z3: ¬(m.items.length:Int)=0:=by omega
 have hz':((m.items.length:Int)==0)=false:=by rw[beq_eq_false_iff_ne]; omega
 have c1:decide (((k1 % 16:Nat):Int)<4)=false:=by simp; omega
 have rp:=zyh x.ports;by_cases b4:k1 % 12=4
 ·have g4:(((k1 % 12:Nat):Int)==4)=true:=by simp[b4]
  have hI:zeb k1 k3 s m.items n x=m.items.set n ({x with name:=s}):=by
   unfold zeb zfp;simp[b4]
  rw[hI];simp(maxSteps:=4000000) only[ZE,↓reduceIte,pE,pL,pA,pS,pM,pD,zN,qT,qG,qL,qH,qN,qB,qE,qO,qA,qM,e1,e2,r1,m16,m4,m12,z1,z2,not_false_eq_true,zaa hi,zai hi,List.length_map,hm,hz',c1,r2,z3,zaa hn,zai hn,hx,Int.toNat_natCast,g4,e1,List.length_append,List.length_map,List.length_cons,List.length_nil,List.length_set,List.map_set,List.map_append,List.map_cons,List.map_nil]
  repeat' apply And.intro
  all_goals first | assumption | omega | simp only[ZE,↓reduceIte,pE,pL,pA,pS,pM,pD,List.length_append,List.length_map,List.length_cons,List.length_nil,List.length_set,List.map_set,List.map_append,List.map_cons,List.map_nil]
 have g4:(((k1 % 12:Nat):Int)==4)=false:=by simp; omega
 by_cases b5:k1 % 12=5
 ·have g5:(((k1 % 12:Nat):Int)==5)=true:=by simp[b5]
  have hI:zeb k1 k3 s m.items n x=m.items.set n ({x with kind:=zte (k3 % 11)}):=by
   unfold zeb zfp;simp[b5]
  rw[hI];simp(maxSteps:=4000000) only[ZE,↓reduceIte,pE,pL,pA,pS,pM,pD,zN,qT,qG,qL,qH,qN,qB,qE,qO,qA,qM,e1,e2,r1,m16,m4,m12,z1,z2,not_false_eq_true,zaa hi,zai hi,List.length_map,hm,hz',c1,r2,z3,zaa hn,zai hn,hx,Int.toNat_natCast,g4,g5,m11,e11,k11,List.length_append,List.length_map,List.length_cons,List.length_nil,List.length_set,List.map_set,List.map_append,List.map_cons,List.map_nil]
  repeat' apply And.intro
  all_goals first | assumption | omega | simp only[ZE,↓reduceIte,pE,pL,pA,pS,pM,pD,List.length_append,List.length_map,List.length_cons,List.length_nil,List.length_set,List.map_set,List.map_append,List.map_cons,List.map_nil]
 have g5:(((k1 % 12:Nat):Int)==5)=false:=by simp; omega
 by_cases b6:k1 % 12=6
 ·have g6:(((k1 % 12:Nat):Int)==6)=true:=by simp[b6]
  have hI:zeb k1 k3 s m.items n x=m.items.set n ({x with width:=⟨x.width.n,s⟩}):=by
   unfold zeb zfp;simp[b6]
  rw[hI];simp(maxSteps:=4000000) only[ZE,↓reduceIte,pE,pL,pA,pS,pM,pD,zN,qT,qG,qL,qH,qN,qB,qE,qO,qA,qM,e1,e2,r1,m16,m4,m12,z1,z2,not_false_eq_true,zaa hi,zai hi,List.length_map,hm,hz',c1,r2,z3,zaa hn,zai hn,hx,Int.toNat_natCast,g4,g5,g6,e1,List.length_append,List.length_map,List.length_cons,List.length_nil,List.length_set,List.map_set,List.map_append,List.map_cons,List.map_nil]
  repeat' apply And.intro
  all_goals first | assumption | omega | simp only[ZE,↓reduceIte,pE,pL,pA,pS,pM,pD,List.length_append,List.length_map,List.length_cons,List.length_nil,List.length_set,List.map_set,List.map_append,List.map_cons,List.map_nil]
 have g6:(((k1 % 12:Nat):Int)==6)=false:=by simp; omega
 by_cases b7:k1 % 12=7
 ·have g7:(((k1 % 12:Nat):Int)==7)=true:=by simp[b7]
  have hI:zeb k1 k3 s m.items n x=m.items.set n ({x with a:=.mk 14 s zbj zbj []}):=by
   unfold zeb zfp;simp[b7]
  rw[hI];simp(maxSteps:=4000000) only[ZE,↓reduceIte,pE,pL,pA,pS,pM,pD,zN,qT,qG,qL,qH,qN,qB,qE,qO,qA,qM,e1,e2,r1,m16,m4,m12,z1,z2,not_false_eq_true,zaa hi,zai hi,List.length_map,hm,hz',c1,r2,z3,zaa hn,zai hn,hx,Int.toNat_natCast,g4,g5,g6,g7,zcW,zbm,zgN,zgO,zbl,zbQ,zbj,emp,zaU,List.length_append,List.length_map,List.length_cons,List.length_nil,List.length_set,List.map_set,List.map_append,List.map_cons,List.map_nil]
  repeat' apply And.intro
  all_goals first | assumption | omega | simp only[ZE,↓reduceIte,pE,pL,pA,pS,pM,pD,List.length_append,List.length_map,List.length_cons,List.length_nil,List.length_set,List.map_set,List.map_append,List.map_cons,List.map_nil]
 have g7:(((k1 % 12:Nat):Int)==7)=false:=by simp; omega
 by_cases b8:k1 % 12=8
 ·have g8:(((k1 % 12:Nat):Int)==8)=true:=by simp[b8]
  have hI:zeb k1 k3 s m.items n x=m.items.set n ({x with a:=.mk (k3 % 20:Nat) s zbj zbj [x.a]}):=by
   unfold zeb zfp;simp[b8]
  rw[hI];simp(maxSteps:=4000000) only[ZE,↓reduceIte,pE,pL,pA,pS,pM,pD,zN,qT,qG,qL,qH,qN,qB,qE,qO,qA,qM,e1,e2,r1,m16,m4,m12,z1,z2,not_false_eq_true,zaa hi,zai hi,List.length_map,hm,hz',c1,r2,z3,zaa hn,zai hn,hx,Int.toNat_natCast,g4,g5,g6,g7,g8,m20,e20,zcW,zbm,zgN,zgO,zbl,zbQ,zbj,emp,zaU,List.length_append,List.length_map,List.length_cons,List.length_nil,List.length_set,List.map_set,List.map_append,List.map_cons,List.map_nil]
  repeat' apply And.intro
  all_goals first | assumption | omega | simp only[ZE,↓reduceIte,pE,pL,pA,pS,pM,pD,List.length_append,List.length_map,List.length_cons,List.length_nil,List.length_set,List.map_set,List.map_append,List.map_cons,List.map_nil]
 have g8:(((k1 % 12:Nat):Int)==8)=false:=by simp; omega
 by_cases b9:k1 % 12=9
 ·have g9:(((k1 % 12:Nat):Int)==9)=true:=by simp[b9]
  have hI:zeb k1 k3 s m.items n x=m.items.set n ({x with rule:=⟨(k3 % 6:Nat)-1,s,0⟩}):=by
   unfold zeb zfp;simp[b9]
  rw[hI];simp(maxSteps:=4000000) only[ZE,↓reduceIte,pE,pL,pA,pS,pM,pD,zN,qT,qG,qL,qH,qN,qB,qE,qO,qA,qM,e1,e2,r1,m16,m4,m12,z1,z2,not_false_eq_true,zaa hi,zai hi,List.length_map,hm,hz',c1,r2,z3,zaa hn,zai hn,hx,Int.toNat_natCast,g4,g5,g6,g7,g8,g9,m6,e6,s6,zcW,zbm,zgN,zgO,zbl,zbQ,zbj,emp,zaU,List.length_append,List.length_map,List.length_cons,List.length_nil,List.length_set,List.map_set,List.map_append,List.map_cons,List.map_nil]
  repeat' apply And.intro
  all_goals first | assumption | omega | simp only[ZE,↓reduceIte,pE,pL,pA,pS,pM,pD,List.length_append,List.length_map,List.length_cons,List.length_nil,List.length_set,List.map_set,List.map_append,List.map_cons,List.map_nil]
 have g9:(((k1 % 12:Nat):Int)==9)=false:=by simp; omega
 by_cases b10:k1 % 12=10
 ·have g10:(((k1 % 12:Nat):Int)==10)=true:=by simp[b10]
  have hI:zeb k1 k3 s m.items n x=m.items.set n ({x with of:=s}):=by
   unfold zeb zfp;simp[b10]
  rw[hI];simp(maxSteps:=4000000) only[ZE,↓reduceIte,pE,pL,pA,pS,pM,pD,zN,qT,qG,qL,qH,qN,qB,qE,qO,qA,qM,e1,e2,r1,m16,m4,m12,z1,z2,not_false_eq_true,zaa hi,zai hi,List.length_map,hm,hz',c1,r2,z3,zaa hn,zai hn,hx,Int.toNat_natCast,g4,g5,g6,g7,g8,g9,g10,e1,List.length_append,List.length_map,List.length_cons,List.length_nil,List.length_set,List.map_set,List.map_append,List.map_cons,List.map_nil]
  repeat' apply And.intro
  all_goals first | assumption | omega | simp only[ZE,↓reduceIte,pE,pL,pA,pS,pM,pD,List.length_append,List.length_map,List.length_cons,List.length_nil,List.length_set,List.map_set,List.map_append,List.map_cons,List.map_nil]
 have g10:(((k1 % 12:Nat):Int)==10)=false:=by simp; omega
 by_cases b11:k1 % 12=11
 ·have g11:(((k1 % 12:Nat):Int)==11)=true:=by simp[b11]
  have hI:zeb k1 k3 s m.items n x=m.items.set n ({x with ports:=x.ports++[⟨sX,s⟩]}):=by
   unfold zeb zfp;simp[b11]
  rw[hI];simp(maxSteps:=4000000) only[ZE,↓reduceIte,pE,pL,pA,pS,pM,pD,zN,qT,qG,qL,qH,qN,qB,qE,qO,qA,qM,e1,e2,r1,m16,m4,m12,z1,z2,not_false_eq_true,zaa hi,zai hi,List.length_map,hm,hz',c1,r2,z3,zaa hn,zai hn,hx,Int.toNat_natCast,g4,g5,g6,g7,g8,g9,g10,g11,sX,st,List.length_append,List.length_map,List.length_cons,List.length_nil,List.length_set,List.map_set,List.map_append,List.map_cons,List.map_nil]
  repeat' apply And.intro
  all_goals first | assumption | omega | simp only[ZE,↓reduceIte,pE,pL,pA,pS,pM,pD,List.length_append,List.length_map,List.length_cons,List.length_nil,List.length_set,List.map_set,List.map_append,List.map_cons,List.map_nil]
 have g11:(((k1 % 12:Nat):Int)==11)=false:=by simp; omega
 have ga: ∀r,(m.items.map zaK++r).getD n []=zaK x:=fun r=>by
  rw[List.getD_eq_getElem?_getD,List.getElem?_append_left (by simpa using hn),List.getElem?_eq_getElem (by simpa using hn),List.getElem_map,hx]; rfl
 have hI:zeb k1 k3 s m.items n x=(m.items++[x]).set n x:=by
  unfold zeb zfp;rw[if_pos (by omega),if_neg b4,if_neg b5,if_neg b6,if_neg b7,if_neg b8,if_neg b9,if_neg b10,if_neg b11]
 rw[hI];simp(maxSteps:=4000000) only[ZE,↓reduceIte,pE,pL,pA,pS,pM,pD,zN,qT,qG,qL,qH,qN,qB,qE,qO,qA,qM,e1,e2,r1,m16,m4,m12,z1,z2,not_false_eq_true,zaa hi,zai hi,List.length_map,hm,hz',c1,r2,z3,zaa hn,zai hn,hx,Int.toNat_natCast,g4,g5,g6,g7,g8,g9,g10,g11,ga,List.length_append,List.length_map,List.length_cons,List.length_nil,List.length_set,List.map_set,List.map_append,List.map_cons,List.map_nil]
 repeat' apply And.intro
 all_goals first | assumption | omega | simp only[ZE,↓reduceIte,pE,pL,pA,pS,pM,pD,List.length_append,List.length_map,List.length_cons,List.length_nil,List.length_set,List.map_set,List.map_append,List.map_cons,List.map_nil]
set_option maxHeartbeats 4000000
theorem zyg(l:List Expr)(i:Nat)(h:i<l.length):(Expr.allL (l.take i)).length +1+(Expr.allL l[i].args).length <=(Expr.allL l).length :=by
 have h1:=(zhj l (i+1)).length_le;rw[zgn l i h,List.length_append,List.length_cons]at h1;omega
theorem all_c(m:Nat): ∀l:List Expr,(Expr.allL l).length <m->m<=10000000->FnP Tryz.prog 49 [zbF l] (.d (zbF (Expr.allL l))) []:=by
 induction m with
 | zero=>intro l h; omega
 | succ m ih=>
  intro l hl hm;refine FnP.of_eC (own:=[]) (fun _=>[]) zat Tryz.func49 rfl Tryz.call49 Tryz.ntmps49 (Nat.le_of_ble_eq_true rfl) Tryz.results49 (fun hok=> ?_);have hll:=(za9 (zaM hok).1).1;simp(maxSteps:=4000000) only[ZE,↓reduceIte,pE,pL,pA,pS,pM,pD,zN,qT,qG,qL,qH,qN,qB,qE,qO,qA,qM];refine za1 (fun _=>[]) zat l.length (fun _=>True) (fun i=>([(0,.d (zbF l)),(3,.ar 5 (Expr.allL (l.take i)).length),(4,.d (eI i))],[(5,.arr 58 7 .flat ((Expr.allL (l.take i)).map zbx))])) trivial ?_ ?_ (fun i hi _=> ?_)
  ·simp only[ZE,↓reduceIte,pE,pL,pA,pS,pM,pD,List.take_zero,Expr.allL,List.length_nil]
  ·simp only[ZE,↓reduceIte,pE,pL,pA,pS,pM,pD,List.take_zero,Expr.allL]
  rcases Nat.lt_or_ge i l.length with h | h
  ·have hw:=zaq (show i<9223372036854775807 by omega);have hle:=zyg l i h;have hc:=ih l[i].args (by omega) (by omega);rw[zgn l i h];obtain⟨R,hR⟩:=zX (Expr.allL (l.take i));obtain⟨L,hL⟩:=zX (Expr.allL l[i].args);rw[hR,hL]at hle;rw[hL]at hc;rw[hR,hL];have rl:=zyi L;simp only[ZE,↓reduceIte,pE,pL,pA,pS,pM,pD]at hc;simp(maxSteps:=4000000) only[ZE,↓reduceIte,pE,pL,pA,pS,pM,pD,zaw h,zaa h,zai h,hw,zN,qT,qG,qL,qH,qN,qB,qE,qO,qA,qM];refine⟨⟨by omega,by omega⟩,EFn.p ?_⟩;simp only[ZE,↓reduceIte,pE,pL,pA,pS,pM,pD,zN,qT,qG,qL,qH,qN,qB,qE,qO,qA,qM];refine zar.i hc ?_;simp only[ZE,↓reduceIte,pE,pL,pA,pS,pM,pD,zN,qT,qG,qL,qH,qN,qB,qE,qO,qA,qM,hw,List.length_append,List.length_cons,List.map_append,List.map_cons];exact⟨⟨rl,by omega,by omega⟩,h,by rw[show R.length+1+L.length=R.length+(L.length+1) by omega],by rw[List.append_assoc]; rfl⟩
  ·have:i=l.length:=by omega
   subst this;simp(maxSteps:=4000000) only[ZE,↓reduceIte,pE,pL,pA,pS,pM,pD,zaI h,zN,qT,qG,qL,qH,qN,qB,qE,qO,qA,qM,List.take_length]
set_option maxHeartbeats 8000000
def zkN(x:Item):Nat:=(Expr.allL [x.a,x.b,x.c]).length +x.ports.length+x.args.length
def zkO(m:Module):Nat:=m.items.length+m.params.length+(m.items.map zkN).sum
def zqM(l:List Module):Nat:=(l.map zkO).sum
theorem zyt{α:Type}(f:α->Nat)(l:List α)(i:Nat)(h:i<l.length):((l.take (i+1)).map f).sum =((l.take i).map f).sum +f l[i]:=by
 rw[List.take_succ_eq_append_getElem h,List.map_append,List.sum_append]; simp
theorem zux{α:Type}(f:α->Nat)(l:List α)(i:Nat):((l.take i).map f).sum <=(l.map f).sum :=by
 conv=>rhs; rw[<-List.take_append_drop i l,List.map_append,List.sum_append]
 omega
theorem size_c(l:List Module)(hB:zqM l<=9000000)(hl:l.length<=9000000):FnP Tryz.prog 48 [.agg [zax l]] (.d (eI (zqM l))) []:=by
 refine FnP.of_eC (own:=[]) (fun _=>[]) zat Tryz.func48 rfl Tryz.call48 Tryz.ntmps48 (Nat.le_of_ble_eq_true rfl) Tryz.results48 (fun hok=> ?_);simp(maxSteps:=4000000) only[ZE,↓reduceIte,pE,pL,pA,pS,pM,pD,zN,qT,qG,qL,qH,qN,qB,qE,qO,qA,qM];refine za1 (fun _=>[]) zat l.length (fun _=>True) (fun i=>([(1,.bp 1 0),(3,.d (eI (((l.take i).map zkO).sum :Nat))),(4,.d (eI i))],[(1,.box [.d (zax l)])])) trivial ?_ ?_ (fun i hi _=> ?_)
 ·simp only[ZE,↓reduceIte,pE,pL,pA,pS,pM,pD,List.take_zero,List.map_nil,List.sum_nil,Int.natCast_zero]
 ·simp only[ZE,↓reduceIte,pE,pL,pA,pS,pM,pD]
 rcases Nat.lt_or_ge i l.length with h | h
 ·have hw:=zaq (show i<9223372036854775807 by omega);have hs:=zyt zkO l i h;have hle:=zux zkO l (i+1);obtain⟨S,hS⟩:=zX (((l.take i).map zkO).sum);obtain⟨m,hm⟩:=zX (l[i]);rw[hS,hm]at hs;rw[hs]at hle ⊢;rw[hS];have hB':S+zkO m<=9000000:=Nat.le_trans hle hB;unfold zkO at hB';have w1:IntKind.i64.wrap ((m.items.length:Int)+(m.params.length:Int))=((m.items.length+m.params.length:Nat):Int):=zaQ (by omega) (by omega);have w2:IntKind.i64.wrap ((S:Int)+((m.items.length+m.params.length:Nat):Int))=((S+(m.items.length+m.params.length):Nat):Int):=zaQ (by omega) (by omega);simp(maxSteps:=4000000) only[ZE,↓reduceIte,pE,pL,pA,pS,pM,pD,zaw h,zaa h,zai h,hm,w1,w2,zN,qT,qG,qL,qH,qN,qB,qE,qO,qA,qM];refine za1 (fun i=>if i=2010 then [.ord ⟨[(0,none),(1,none),(2,none),(3,none),(4,none),(5,none),(6,none),(7,none),(8,none),(9,none),(10,none),(11,none),(12,none),(13,none),(14,none),(15,none),(16,none),(17,none),(18,none),(19,none),(20,none),(21,none),(22,none),(23,none),(24,none),(25,none),(26,none),(27,none),(28,none),(29,none),(30,none),(31,none),(32,none),(33,none),(34,none),(35,none),(36,none),(37,none),(38,none),(39,some [])]⟩]else []) zat m.items.length (fun _=>True) (fun k=>([(1,.bp 1 0),(3,.d (eI ((S+(m.items.length+m.params.length)+((m.items.take k).map zkN).sum :Nat):Int))),(4,.d (eI i)),(5,.bp 5 0),(6,.d (eI k))],[(5,.box ((zaC m).map .d)),(1,.box [.d (zax l)])])) trivial ?_ ?_ (fun k hk _=> ?_)
  ·simp only[ZE,↓reduceIte,pE,pL,pA,pS,pM,pD,List.take_zero,List.map_nil,List.sum_nil,Nat.add_zero]
  ·simp only[ZE,↓reduceIte,pE,pL,pA,pS,pM,pD]
  rcases Nat.lt_or_ge k m.items.length with h' | h'
  ·have hw':=zaq (show k<9223372036854775807 by omega);have hs':=zyt zkN m.items k h';have hle':=zux zkN m.items (k+1);obtain⟨x,hx⟩:=zX (m.items[k]);obtain⟨T,hT⟩:=zX (((m.items.take k).map zkN).sum);rw[hT,hx]at hs';rw[hs']at hle' ⊢;rw[hT];have hTx:T+zkN x<=9000000:=by omega
   unfold zkN at hTx;have ac:=all_c 9500000 [x.a,x.b,x.c] (by omega) (by omega);have hsi:zkN x=(Expr.allL [x.a,x.b,x.c]).length +x.ports.length+x.args.length:=rfl;rw[hsi];have hbnd:S+(m.items.length+m.params.length)+T+((Expr.allL [x.a,x.b,x.c]).length +x.ports.length+x.args.length)<=30000000:=by omega
   obtain⟨L,hL⟩:=zX (Expr.allL [x.a,x.b,x.c]);rw[hL]at ac hbnd ⊢;obtain⟨N,hN⟩:=zX (S+(m.items.length+m.params.length));rw[hN]at hbnd ⊢;have v1:IntKind.i64.wrap ((L.length:Int)+(x.ports.length:Int))=((L.length+x.ports.length:Nat):Int):=zaQ (by omega) (by omega);have v2:IntKind.i64.wrap (((L.length+x.ports.length:Nat):Int)+(x.args.length:Int))=((L.length+x.ports.length+x.args.length:Nat):Int):=zaQ (by omega) (by omega);have v3:IntKind.i64.wrap (((N+T:Nat):Int)+((L.length+x.ports.length+x.args.length:Nat):Int))=((N+(T+(L.length+x.ports.length+x.args.length)):Nat):Int):=by
    rw[zaQ (by omega) (by omega)]; omega
   simp only[ZE,↓reduceIte,pE,pL,pA,pS,pM,pD,List.map_cons,List.map_nil]at ac;simp(maxSteps:=4000000) only[ZE,↓reduceIte,pE,pL,pA,pS,pM,pD,zaw h',zaa h',zai h',hx,hw',zN,qT,qG,qL,qH,qN,qB,qE,qO,qA,qM];refine⟨by kernel_rfl,zaz.i ac ?_⟩;simp(maxSteps:=4000000) only[ZE,↓reduceIte,pE,pL,pA,pS,pM,pD,zN,qT,qG,qL,qH,qN,qB,qE,qO,qA,qM,v1,v2,v3,hw',List.length_map,zaa h',zai h',hx];exact h'
  ·have:k=m.items.length:=by omega
   subst this;have e:S+(m.items.length+m.params.length)+(m.items.map zkN).sum =S+zkO m:=by unfold zkO; omega
   simp(maxSteps:=4000000) only[ZE,↓reduceIte,pE,pL,pA,pS,pM,pD,zaI h',zN,qT,qG,qL,qH,qN,qB,qE,qO,qA,qM,hw,List.take_length,e];exact h
 ·have:i=l.length:=by omega
  subst this;have e:(l.map zkO).sum =zqM l:=rfl;simp(maxSteps:=4000000) only[ZE,↓reduceIte,pE,pL,pA,pS,pM,pD,zaI h,zN,qT,qG,qL,qH,qN,qB,qE,qO,qA,qM,List.take_length,e]
/-- An item that is not large. -/
structure Tid (y:Item):Prop where
 a:sz y.a<=20
 b:sz y.b<=20
 c:sz y.c<=20
 args:y.args.length<=2
 ports:y.ports.length<=2
/-- A module that is not too large. -/
structure Fine (n:Nat) (m:Module):Prop where
 items:m.items.length<=n
 params:m.params.length<=n
 sizes: ∀x∈m.items,sz x.a+sz x.b+sz x.c<=n
 args: ∀x∈m.items,x.args.length<=n
 ports: ∀x∈m.items,x.ports.length<=n
theorem Fine.mono{n k:Nat}(h:n<=k){m:Module}(f:Fine n m):Fine k m:=
 ⟨Nat.le_trans f.items h,Nat.le_trans f.params h,fun x hx=>Nat.le_trans (f.sizes x hx) h,fun x hx=>Nat.le_trans (f.args x hx) h,fun x hx=>Nat.le_trans (f.ports x hx) h⟩
theorem zoy(x:Raw): ∀m∈zdG x,m.params.length<=60:=by
 have:((zdG x).all fun m=>decide (m.params.length<=60))=true:=by
  rcases zc5 x with⟨mem,h⟩ | ⟨q,h⟩ | ⟨q,mem,h⟩ | ⟨q,mem,h⟩
  ·rw[h]; cases mem <;> kernel_rfl
  ·rw[h]; cases q <;> kernel_rfl
  ·rw[h]; cases q <;> cases mem <;> kernel_rfl
  ·rw[h]; cases q <;> cases mem <;> kernel_rfl
 intro m hm;rw[List.all_eq_true]at this;simpa using this m hm
theorem zio(k:I64)(n:Str)(w:Num):Tid (zeS k n w):={a:=zh9,b:=zh9,c:=zh9,args:=by simp[zeS,zaU],ports:=by simp[zeS,zaU]}
theorem zrW(n:Str)(w d:Num):Tid (zgk n w d):={a:=zh9,b:=zh9,c:=zh9,args:=by simp[zgk,zaU],ports:=by simp[zgk,zaU]}
theorem zuy(n:Str)(r:List Nat)(a:Nat)(ns:List Str)(w:Num):Tid (zk1 n r a ns w):={a:=zdq _ _ _ _,b:=zh9,c:=zh9,args:=by simp[zk1,zaU],ports:=by simp[zk1,zaU]}
theorem zxQ(n:Str)(w:Num)(e:Expr)(he:sz e<=20):Tid (zdf n w e):={a:=he,b:=zh9,c:=zh9,args:=by simp[zdf,zaU],ports:=by simp[zdf,zaU]}
theorem zxP(n:Str)(e:Expr)(he:sz e<=20):Tid (zde n e):={a:=he,b:=zh9,c:=zh9,args:=by simp[zde,zaU],ports:=by simp[zde,zaU]}
theorem zxO(n:Str)(e z:Expr)(he:sz e<=20)(hz:sz z<=20):Tid (zh3 n e z):={a:=he,b:=hz,c:=zh9,args:=by simp[zh3,zaU],ports:=by simp[zh3,zaU]}
theorem tid_mem(r:List Nat)(w:Num)(c0:Str):Tid (memI r w c0):={a:=zcz _ _ _ _,b:=zwW _ _ _ _,c:=zdq _ _ _ _,args:=by simp[memI,zaU],ports:=by simp[memI,zaU]}
theorem zrX(n:Str)(w:Num)(c0 c1:Str):Tid (zc2 n w c0 c1):={a:=zh9,b:=zh9,c:=zh9,args:=by simp[zc2],ports:=by simp[zc2]}
theorem tid_own(mem:Bool)(r:List Nat)(w:Num)(c0 c1:Str)(z:List Item)(hz: ∀y∈z,Tid y): ∀y∈zqD mem r w c0 c1 z,Tid y:=by
 cases mem
 ·simp only[zqD,List.forall_mem_cons];exact⟨zuy _ _ _ _ _,zuy _ _ _ _ _,zxQ _ _ _ (zdq _ _ _ _),zxP _ _ (zcz _ _ _ _),zxO _ _ _ (zcz _ _ _ _) (zoa _ _ _ _),hz⟩
 ·simp only[zqD,List.forall_mem_cons];exact⟨zuy _ _ _ _ _,zuy _ _ _ _ _,zxQ _ _ _ (zdq _ _ _ _),tid_mem _ _ _,zxP _ _ (zcz _ _ _ _),zxO _ _ _ (zcz _ _ _ _) (zoa _ _ _ _),hz⟩
theorem zxN(b:List Nat): ∀y∈(zbf b).items,Tid y:=by
 simp only[zbf,List.forall_mem_cons];exact⟨zio _ _ _,zio _ _ _,zuy _ _ _ _ _,zxQ _ _ _ (zdq _ _ _ _),zxP _ _ (zcz _ _ _ _),zxO _ _ _ (zcz _ _ _ _) (zdq _ _ _ _),by simp⟩
theorem tid_made(x:Raw):(zdG x).length <=2/\0<(zdG x).length /\ ∀m∈zdG x,(0<m.items.length/\m.items.length<=20)/\ ∀y∈m.items,Tid y:=by
 have nil: ∀y∈([]:List Item),Tid y:=by simp
 have hm: ∀(o:Bool) (a b:Module) (P:Module->Prop),P a->P b-> ∀m∈two o a b,P m:=by
  intro o a b P ha hb m hm;cases o
  ·simp only[two,List.mem_cons,List.not_mem_nil,or_false]at hm;rcases hm with rfl | rfl
   ·exact hb
   ·exact ha
  ·simp only[two,List.mem_cons,List.not_mem_nil,or_false]at hm;rcases hm with rfl | rfl
   ·exact ha
   ·exact hb
 have hl: ∀(o:Bool) (a b:Module),(two o a b).length <=2/\0<(two o a b).length :=by
  intro o a b;cases o <;> exact⟨by simp[two],by simp[two]⟩
 rcases zc5 x with⟨mem,h⟩ | ⟨o,h⟩ | ⟨o,mem,h⟩ | ⟨o,mem,h⟩
 ·rw[h];refine⟨by simp,by simp,fun m hm=> ?_⟩;simp only[List.mem_cons,List.not_mem_nil,or_false]at hm;subst hm;refine⟨by cases mem <;> exact⟨by simp[zjl],by simp[zjl,zqD]⟩,?_⟩;simp only[zjl,List.forall_mem_cons];exact⟨zio _ _ _,zio _ _ _,tid_own _ _ _ _ _ _ nil⟩
 ·rw[h];refine⟨(hl _ _ _).1,(hl _ _ _).2,hm _ _ _ _ ⟨⟨by simp[zmb],by simp[zmb]⟩,?_⟩ ⟨⟨by simp[zbf],by simp[zbf]⟩,zxN _⟩⟩;simp only[zmb,List.forall_mem_cons];exact⟨zio _ _ _,zio _ _ _,zrW _ _ _,zrX _ _ _ _,zrX _ _ _ _,nil⟩
 ·rw[h];refine⟨(hl _ _ _).1,(hl _ _ _).2,hm _ _ _ _ ⟨by cases mem <;> exact⟨by simp[zjJ],by simp[zjJ,zqD]⟩,?_⟩ ⟨⟨by simp[zbf],by simp[zbf]⟩,zxN _⟩⟩;simp only[zjJ,List.forall_mem_cons];exact⟨zio _ _ _,zio _ _ _,zrW _ _ _,zrX _ _ _ _,tid_own _ _ _ _ _ _ nil⟩
 ·rw[h];refine⟨(hl _ _ _).1,(hl _ _ _).2,hm _ _ _ _ ⟨by cases mem <;> exact⟨by simp[zjK],by simp[zjK,zqD]⟩,?_⟩ ⟨⟨by simp[zbf],by simp[zbf]⟩,zxN _⟩⟩;simp only[zjK,List.forall_mem_cons];exact⟨zio _ _ _,zrW _ _ _,zrW _ _ _,zrX _ _ _ _,tid_own _ _ _ _ _ _ (by simp only[List.forall_mem_cons]; exact⟨zxO _ _ _ (zcz _ _ _ _) (zdq _ _ _ _),nil⟩)⟩
theorem zmu(x:Raw): ∀m∈zdG x,Fine 60 m:=fun m hm=>by
 obtain⟨_,_,h⟩:=tid_made x;obtain⟨⟨_,h1⟩,h2⟩:=h m hm;refine⟨by omega,zoy x m hm,fun y hy=> ?_,fun y hy=> ?_,fun y hy=> ?_⟩
 ·have:=(h2 y hy).a; have:=(h2 y hy).b; have:=(h2 y hy).c; omega
 ·have:=(h2 y hy).args; omega
 ·have:=(h2 y hy).ports; omega
theorem zyo(k1 k3:Nat)(s:Str)(x:Item):sz (zfp k1 k3 s x).a +sz (zfp k1 k3 s x).b +sz (zfp k1 k3 s x).c <=sz x.a+sz x.b+sz x.c+1/\(zfp k1 k3 s x).args.length =x.args.length/\(zfp k1 k3 s x).ports.length <=x.ports.length+1:=by
 unfold zfp;split
 ·exact⟨Nat.le_succ _,rfl,Nat.le_succ _⟩
 split
 ·exact⟨Nat.le_succ _,rfl,Nat.le_succ _⟩
 split
 ·exact⟨Nat.le_succ _,rfl,Nat.le_succ _⟩
 split
 ·refine⟨?_,rfl,by simp⟩;simp only[zec,List.map_nil,List.sum_nil];omega
 split
 ·refine⟨?_,rfl,by simp⟩;simp only[zec,List.map_cons,List.map_nil,List.sum_cons,List.sum_nil];omega
 split
 ·exact⟨Nat.le_succ _,rfl,by simp⟩
 split
 ·exact⟨Nat.le_succ _,rfl,by simp⟩
 split
 ·exact⟨Nat.le_succ _,rfl,by simp⟩
 ·exact⟨Nat.le_succ _,rfl,Nat.le_succ _⟩
theorem zqO{n:Nat}(hn:2<=n)(k1 k2 k3:Nat)(s:Str){m:Module}(h:Fine n m):Fine (n+1) (zkS k1 k2 k3 s m):=by
 have h':=h.mono (Nat.le_succ n);unfold zkS;split
 ·split
  ·exact⟨h'.items,h'.params,h'.sizes,h'.args,h'.ports⟩
  split
  ·exact⟨h'.items,h'.params,h'.sizes,h'.args,h'.ports⟩
  split
  ·exact⟨h'.items,by have:=h.params; simp; omega,h'.sizes,h'.args,h'.ports⟩
  ·refine⟨by have:=h.items; simp; omega,h'.params,fun x hx=> ?_,fun x hx=> ?_,fun x hx=> ?_⟩
   all_goals rcases List.mem_append.1 hx with hx | hx
   ·exact h'.sizes x hx
   ·simp only[List.mem_singleton]at hx;subst hx;show sz zbQ+sz zbQ+sz zbQ<=n+1;unfold zbQ; simp only[zec,List.map_nil,List.sum_nil]; omega
   ·exact h'.args x hx
   ·simp only[List.mem_singleton]at hx;subst hx;exact Nat.zero_le _
   ·exact h'.ports x hx
   ·simp only[List.mem_singleton]at hx;subst hx;exact Nat.zero_le _
 ·rename_i hc;have hlen:k2 % m.items.length<m.items.length:=Nat.mod_lt _ (by
   have:=(not_or.1 hc).1; omega)
  have hg:m.items.getD (k2 % m.items.length) zaU=m.items[k2 % m.items.length]:=by simp[List.getD,hlen]
  have hmem:m.items.getD (k2 % m.items.length) zaU∈m.items:=by rw[hg]; exact List.getElem_mem hlen
  obtain⟨x0,hx0⟩:=zX (m.items.getD (k2 % m.items.length) zaU);rw[hx0]at hmem ⊢;have hall: ∀x∈zeb k1 k3 s m.items (k2 % m.items.length) x0,x∈m.items\/x=zfp k1 k3 s x0:=by
   intro x hx;unfold zeb at hx;rcases List.mem_or_eq_of_mem_set hx with h1 | h1
   ·split at h1
    ·rcases List.mem_append.1 h1 with h2 | h2
     ·exact .inl h2
     ·simp only[List.mem_singleton]at h2; rw[h2]; exact .inl hmem
    ·exact .inl h1
   ·exact .inr h1
  obtain⟨s1,s2,s3⟩:=zyo k1 k3 s x0;refine⟨?_,h'.params,fun x hx=> ?_,fun x hx=> ?_,fun x hx=> ?_⟩
  ·have:=h.items;show(zeb _ _ _ _ _ _).length <=n+1;unfold zeb;rw[List.length_set];split
   ·simp; omega
   ·omega
  ·rcases hall x hx with h1 | h1
   ·exact h'.sizes x h1
   ·rw[h1]; have:=h.sizes x0 hmem; omega
  ·rcases hall x hx with h1 | h1
   ·exact h'.args x h1
   ·rw[h1]; have:=h.args x0 hmem; omega
  ·rcases hall x hx with h1 | h1
   ·exact h'.ports x h1
   ·rw[h1]; have:=h.ports x0 hmem; omega
theorem zyS(f:List Module)(k0 k1 k2 k3:Nat)(s:Str)(h0:k0<256)(h1:k1<256)(h2:k2<256)(h3:k3<256)(hf:f.length<=1000)(i:Nat)(hi:i<f.length)(hki:k0 % f.length=i)(hF:Fine 800 f[i]):
  FnP Tryz.prog 33 [.agg [zax f],.agg [eU8 k0,eU8 k1,eU8 k2,eU8 k3],eS s] (.d (.agg [zax (f.set i (zkS k1 k2 k3 s f[i]))])) []:=by
 by_cases hc:f[i].items.length =0\/k1 % 16<4
 ·exact zy9 f k0 k1 k2 k3 s h0 h1 h2 h3 hf i hi hki f[i] rfl hF.items hF.params hc
 ·have hn:k2 % f[i].items.length <f[i].items.length :=Nat.mod_lt _ (by have:=(not_or.1 hc).1; omega);have hg:f[i].items.getD (k2 % f[i].items.length) zaU=f[i].items[k2 % f[i].items.length]:=by simp[List.getD,hn]
  have e:zkS k1 k2 k3 s f[i]={f[i]with items:=zeb k1 k3 s f[i].items (k2 % f[i].items.length) f[i].items[k2 % f[i].items.length]}:=by
   unfold zkS;rw[if_neg hc,hg]
  rw[e];exact zza f k0 k1 k2 k3 s h0 h1 h2 h3 hf i hi hki f[i] rfl hF.items _ hn rfl _ rfl (hF.ports _ (List.getElem_mem hn)) (not_or.1 hc).2
def tgt(e:Edit):Str×Part:=(e.module,e.part)
/-- A module behind an edit of an item. -/
def chg(m:Module)(e:Edit):Module:={m with items:=if e.has=true then zpT ltP zbg m.items e.to else zyC zbg m.items e.part}
/-- The edit can be done. -/
def fitE(m:Module)(e:Edit):Prop:=if e.has=true then zbg e.to=e.part/\e.part.kind.1≠0 else(lkp zbg m.items e.part).isSome =true
def zfX(p:Part):List D:=[eI p.kind.1,eS p.name]
theorem zxs(a b:Part):(a.kind.1==b.kind.1&&decide (a.name=b.name))=decide (a=b):=by
 obtain⟨⟨a1,a2⟩,a3⟩:=a;obtain⟨⟨b1,b2⟩,b3⟩:=b;rw[Bool.eq_iff_iff];simp
theorem rof_c(x:Item):FnP Tryz.prog 30 [.agg (zaK x)] (.d (.agg (zfX (zbg x)))) []:=by
 refine FnP.of_eC (own:=[]) (fun _=>[]) zat Tryz.func30 rfl Tryz.call30 Tryz.ntmps30 (Nat.le_of_ble_eq_true rfl) Tryz.results30 (fun hok=> ?_);simp(maxSteps:=4000000) only[ZE,↓reduceIte,pE,pL,pA,pS,pM,pD,zfX,zbg]
theorem zxz(l:List Module)(n:Str):FnP Tryz.prog 43 [.agg [zax l],eS n] (.d (eI (zgM (fun m:Module=>decide (m.name=n)) l))) []:=by
 refine FnP.of_eC (own:=[]) (fun _=>[]) zat Tryz.func43 rfl Tryz.call43 Tryz.ntmps43 (Nat.le_of_ble_eq_true rfl) Tryz.results43 (fun hok=> ?_);have hl:l.length<=9223372036854775807:=by
  have:=(zaM hok).1;simp only[D.ok,D.okL]at this;exact(za9 this.1).1
 simp(maxSteps:=4000000) only[ZE,↓reduceIte,pE,pL,pA,pS,pM,pD,zN,qT,qG,qL,qH,qN,qB,qE,qO,qA,qM];refine za1 (fun _=>[]) zat l.length (fun i=> ∀j (_:j<i) (hj:j<l.length),decide (l[j].name =n)=false) (fun i=>([(1,.d (eS n)),(2,.bp 2 0),(5,.d (eI i))],[(2,.box [.d (zax l)])])) (by simp) (by simp only[ZE,↓reduceIte,pE,pL,pA,pS,pM,pD,zN,qT,qG,qL,qH,qN,qB,qE,qO,qA,qM]) (by simp only[ZE,↓reduceIte,pE,pL,pA,pS,pM,pD]) (fun i hi hI=> ?_);rcases Nat.lt_or_ge i l.length with h | h
 ·have hw:=zaq (show i<9223372036854775807 by omega);simp(maxSteps:=4000000) only[ZE,↓reduceIte,pE,pL,pA,pS,pM,pD,zaw h,zaa h,zai h,hw,zN,qT,qG,qL,qH,qN,qB,qE,qO,qA,qM];refine zd8 (fun h3=> ?_) (fun h3=>⟨h,fun j hj hj'=> ?_⟩)
  ·rw[zeP h h3 hI]
  ·rcases Nat.lt_succ_iff_lt_or_eq.1 hj with hj | rfl
   ·exact hI j hj hj'
   ·exact h3
 ·simp(maxSteps:=4000000) only[ZE,↓reduceIte,pE,pL,pA,pS,pM,pD,zaI h,zN,qT,qG,qL,qH,qN,qB,qE,qO,qA,qM];rw[zeO (fun j hj=>hI j (by omega) hj)]
theorem rindex_c(m:Module)(p:Part):FnP Tryz.prog 58 [.agg (zaC m),.agg (zfX p)] (.d (eI (zgM (fun x=>decide (zbg x=p)) m.items))) []:=by
 refine FnP.of_eC (own:=[]) (fun _=>[]) zat Tryz.func58 rfl Tryz.call58 Tryz.ntmps58 (Nat.le_of_ble_eq_true rfl) Tryz.results58 (fun hok=> ?_);have hl:m.items.length<=9223372036854775807:=by
  have:=(zaM hok).1;simp only[zaC,zbR,D.ok,D.okL]at this;exact(za9 this.2.2.2.1).1
 simp(maxSteps:=4000000) only[ZE,↓reduceIte,pE,pL,pA,pS,pM,pD,zfX,zN,qT,qG,qL,qH,qN,qB,qE,qO,qA,qM];refine za1 (fun _=>[]) zat m.items.length (fun i=> ∀j (_:j<i) (hj:j<m.items.length),decide (zbg m.items[j]=p)=false) (fun i=>([(2,.bp 2 0),(3,.bp 3 0),(5,.d (eI i))],[(2,.box ((zaC m).map .d)),(3,.box ((zfX p).map .d))])) (by simp) (by simp only[ZE,↓reduceIte,pE,pL,pA,pS,pM,pD,zfX,zN,qT,qG,qL,qH,qN,qB,qE,qO,qA,qM]) (by simp only[ZE,↓reduceIte,pE,pL,pA,pS,pM,pD,zfX]) (fun i hi hI=> ?_);rcases Nat.lt_or_ge i m.items.length with h | h
 ·have hw:=zaq (show i<9223372036854775807 by omega);obtain⟨x,hx⟩:=zX (m.items[i]);have oc:=rof_c x;have pe':decide (zbg x=p)=(x.kind.1==p.kind.1&&decide (x.name=p.name)):=(zxs (zbg x) p).symm;simp only[ZE,↓reduceIte,pE,pL,pA,pS,pM,pD,zfX,zbg]at oc;simp(maxSteps:=4000000) only[ZE,↓reduceIte,pE,pL,pA,pS,pM,pD,zaw h,zaa h,zai h,hx,zfX,zN,qT,qG,qL,qH,qN,qB,qE,qO,qA,qM];refine⟨by kernel_rfl,zaz.i oc ?_⟩;simp only[ZE,↓reduceIte,pE,pL,pA,pS,pM,pD,zN,qT,qG,qL,qH,qN,qB,qE,qO,qA,qM,hw];refine zd8 (fun h3=> ?_) (fun h3=>⟨h,fun j hj hj'=> ?_⟩)
  ·rw[zeP h (by rw[hx,pe']; exact h3) hI]
  ·rcases Nat.lt_succ_iff_lt_or_eq.1 hj with hj | rfl
   ·exact hI j hj hj'
   ·rw[hx,pe']; exact h3
 ·simp(maxSteps:=4000000) only[ZE,↓reduceIte,pE,pL,pA,pS,pM,pD,zaI h,zN,qT,qG,qL,qH,qN,qB,qE,qO,qA,qM];rw[zeO (fun j hj=>hI j (by omega) hj)]
/-! ### Partitioned -/
def okK(m:Module)(k:Nat):Bool:= !((m.items.getD k zaU).kind.1 ==0)&&(zgM (fun x=>decide (zbg x=zbg (m.items.getD k zaU))) m.items==(k:Int))
def zq7(m:Module):Bool:=(List.range m.items.length).all (okK m)
def okM(l:List Module)(i:Nat):Bool:=(zgM (fun m:Module=>decide (m.name=(l.getD i zdP).name)) l==(i:Int))&&zq7 (l.getD i zdP)
def ze8(l:List Module):Bool:=(List.range l.length).all (okM l)
theorem rpart_c(l:List Module):FnP Tryz.prog 18 [.agg [zax l]] (.d (eB (ze8 l))) []:=by
 refine FnP.of_eC (own:=[]) (fun _=>[]) zat Tryz.func18 rfl Tryz.call18 Tryz.ntmps18 (Nat.le_of_ble_eq_true rfl) Tryz.results18 (fun hok=> ?_);have hlb:l.length<=9223372036854775807/\ ∀m∈l,m.items.length<=9223372036854775807:=by
  have:=(zaM hok).1;simp only[D.ok,D.okL]at this;obtain⟨h1,h2⟩:=za9 this.1;refine⟨h1,fun m hm=> ?_⟩;have:=h2 m hm;simp only[zaC,zbR,D.ok,D.okL]at this;exact(za9 this.2.2.2.1).1
 simp(maxSteps:=4000000) only[ZE,↓reduceIte,pE,pL,pA,pS,pM,pD,zN,qT,qG,qL,qH,qN,qB,qE,qO,qA,qM];refine za1 (fun _=>[]) zat l.length (fun i=> ∀j<i,okM l j=true) (fun i=>([(1,.bp 1 0),(3,.d (eI i))],[(1,.box [.d (zax l)])])) (by simp) (by simp only[ZE,↓reduceIte,pE,pL,pA,pS,pM,pD,zN,qT,qG,qL,qH,qN,qB,qE,qO,qA,qM]) (by simp only[ZE,↓reduceIte,pE,pL,pA,pS,pM,pD]) (fun i hi hI=> ?_);rcases Nat.lt_or_ge i l.length with h | h
 ·have hw:=zaq (show i<9223372036854775807 by omega);have fc:=zxz l l[i].name;have hg:l.getD i zdP=l[i]:=by simp[List.getD,h]
  have hml:=hlb.2 l[i] (List.getElem_mem h);obtain⟨z,hz⟩:=zX (zgM (fun m:Module=>decide (m.name=l[i].name)) l);have hM:okM l i=((z==(i:Int))&&zq7 l[i]):=by unfold okM; rw[hg,hz]
  obtain⟨m,hm⟩:=zX (l[i]);rw[hz]at fc;rw[hm]at hml hM fc;simp only[ZE,↓reduceIte,pE,pL,pA,pS,pM,pD]at fc;have bad:okM l i=false->ze8 l=false:=fun e=>by
   unfold ze8;rw[List.all_eq_false];exact⟨i,List.mem_range.2 h,by rw[e]; simp⟩
  rcases Bool.eq_false_or_eq_true (z==(i:Int))with hzi | hzi
  ·have hzn:(z !=(i:Int))=false:=by rw[bne,hzi]; rfl
   simp(maxSteps:=4000000) only[ZE,↓reduceIte,pE,pL,pA,pS,pM,pD,zaw h,zaa h,zai h,hm,hw,zN,qT,qG,qL,qH,qN,qB,qE,qO,qA,qM];refine EFn.p ?_;simp only[ZE,↓reduceIte,pE,pL,pA,pS,pM,pD,zN,qT,qG,qL,qH,qN,qB,qE,qO,qA,qM];refine zar.i fc ?_;simp only[ZE,↓reduceIte,pE,pL,pA,pS,pM,pD,zN,qT,qG,qL,qH,qN,qB,qE,qO,qA,qM,hzn];refine za1 (fun _=>[]) zat m.items.length (fun k=> ∀j<k,okK m j=true) (fun k=>([(1,.bp 1 0),(3,.d (eI i)),(4,.bp 4 0),(5,.d (eI k))],[(1,.box [.d (zax l)]),(4,.box ((zaC m).map .d))])) (by simp) (by simp only[ZE,↓reduceIte,pE,pL,pA,pS,pM,pD,zN,qT,qG,qL,qH,qN,qB,qE,qO,qA,qM]) (by simp only[ZE,↓reduceIte,pE,pL,pA,pS,pM,pD]) (fun k hk hK=> ?_);rcases Nat.lt_or_ge k m.items.length with hkl | hkl
   ·have hw2:=zaq (show k<9223372036854775807 by omega);obtain⟨x,hx⟩:=zX (m.items[k]);have hgx:m.items.getD k zaU=x:=(by rw[<-hx]; simp[List.getD,hkl]);have oc:=rof_c x;have ic:=rindex_c m (zbg x);obtain⟨y,hy⟩:=zX (zgM (fun z=>decide (zbg z=zbg x)) m.items);have hKk:okK m k=(!(x.kind.1==0)&&(y==(k:Int))):=(by unfold okK; rw[hgx,hy]);rw[hy]at ic;simp only[ZE,↓reduceIte,pE,pL,pA,pS,pM,pD,zfX,zbg]at oc ic;have badk:okK m k=false->ze8 l=false:=fun e=>bad (by
     rw[hM];have:zq7 m=false:=by
      unfold zq7;rw[List.all_eq_false];exact⟨k,List.mem_range.2 hkl,by rw[e]; simp⟩
     rw[this,Bool.and_false])
    rcases Bool.eq_false_or_eq_true (x.kind.1==0)with h0 | h0
    ·have e:=badk (by rw[hKk,h0]; rfl);simp(maxSteps:=4000000) only[ZE,↓reduceIte,pE,pL,pA,pS,pM,pD,zaw hkl,zaa hkl,zai hkl,hx,h0,e,zN,qT,qG,qL,qH,qN,qB,qE,qO,qA,qM];show(_:Bool)=true;kernel_rfl
    ·rcases Bool.eq_false_or_eq_true (y==(k:Int))with hyk | hyk
     ·have hyn:(y !=(k:Int))=false:=(by rw[bne,hyk]; rfl);simp(maxSteps:=4000000) only[ZE,↓reduceIte,pE,pL,pA,pS,pM,pD,zaw hkl,zaa hkl,zai hkl,hx,h0,zN,qT,qG,qL,qH,qN,qB,qE,qO,qA,qM];refine⟨by kernel_rfl,zaz.i oc ?_⟩;simp only[ZE,↓reduceIte,pE,pL,pA,pS,pM,pD,zN,qT,qG,qL,qH,qN,qB,qE,qO,qA,qM];refine zaz.i ic ?_;simp only[ZE,↓reduceIte,pE,pL,pA,pS,pM,pD,zN,qT,qG,qL,qH,qN,qB,qE,qO,qA,qM,hyn,hw2];refine⟨hkl,fun j hj=> ?_⟩;rcases Nat.lt_succ_iff_lt_or_eq.1 hj with hj | rfl
      ·exact hK j hj
      ·rw[hKk,h0,hyk]; rfl
     ·have hyn:(y !=(k:Int))=true:=(by rw[bne,hyk]; rfl);have e:=badk (by rw[hKk,hyk,Bool.and_false]);simp(maxSteps:=4000000) only[ZE,↓reduceIte,pE,pL,pA,pS,pM,pD,zaw hkl,zaa hkl,zai hkl,hx,h0,zN,qT,qG,qL,qH,qN,qB,qE,qO,qA,qM];refine⟨by kernel_rfl,zaz.i oc ?_⟩;simp only[ZE,↓reduceIte,pE,pL,pA,pS,pM,pD,zN,qT,qG,qL,qH,qN,qB,qE,qO,qA,qM];refine zaz.i ic ?_;simp only[ZE,↓reduceIte,pE,pL,pA,pS,pM,pD,zN,qT,qG,qL,qH,qN,qB,qE,qO,qA,qM,hyn,e]
   ·have hke:k=m.items.length:=(by omega);subst hke;simp(maxSteps:=4000000) only[ZE,↓reduceIte,pE,pL,pA,pS,pM,pD,zaI hkl,zN,qT,qG,qL,qH,qN,qB,qE,qO,qA,qM,hw];refine⟨h,fun j hj=> ?_⟩;rcases Nat.lt_succ_iff_lt_or_eq.1 hj with hj | rfl
    ·exact hI j hj
    ·rw[hM,hzi,Bool.true_and];unfold zq7;rw[List.all_eq_true];exact fun q hq=>hK q (List.mem_range.1 hq)
  ·have hzn:(z !=(i:Int))=true:=by rw[bne,hzi]; rfl
   have e:=bad (by rw[hM,hzi]; rfl);simp(maxSteps:=4000000) only[ZE,↓reduceIte,pE,pL,pA,pS,pM,pD,zaw h,zaa h,zai h,hm,hw,zN,qT,qG,qL,qH,qN,qB,qE,qO,qA,qM];refine EFn.p ?_;simp only[ZE,↓reduceIte,pE,pL,pA,pS,pM,pD,zN,qT,qG,qL,qH,qN,qB,qE,qO,qA,qM];refine zar.i fc ?_;simp only[ZE,↓reduceIte,pE,pL,pA,pS,pM,pD,zN,qT,qG,qL,qH,qN,qB,qE,qO,qA,qM,hzn,e]
 ·simp(maxSteps:=4000000) only[ZE,↓reduceIte,pE,pL,pA,pS,pM,pD,zaI h,zN,qT,qG,qL,qH,qN,qB,qE,qO,qA,qM];have:ze8 l=true:=by
   unfold ze8;rw[List.all_eq_true];exact fun j hj=>hI j (by have:=List.mem_range.1 hj; omega)
  rw[this]
theorem zql{α:Type}{p:α->Bool}{l:List α}{k:Nat}(h:zgM p l=(k:Int)): ∃h':k<l.length,p l[k]=true/\ ∀j (hj:j<k),p (l[j]'(by omega))=false:=by
 unfold zgM at h;split at h
 ·rename_i i hi;have e:i=k:=by omega
  subst e;rw[List.findIdx?_eq_some_iff_getElem]at hi;obtain⟨h1,h2,h3⟩:=hi;exact⟨h1,h2,fun j hj=>by simpa using h3 j hj⟩
 ·omega
theorem zbU(l:List Module):ze8 l=true↔Parted l:=by
 unfold ze8;rw[List.all_eq_true];have hK: ∀m:Module,zq7 m=true↔(m.items.map zbg).Nodup /\ ∀x∈m.items,x.kind.1≠0:=by
  intro m;unfold zq7;rw[List.all_eq_true];constructor
  ·intro h;have h': ∀k (hk:k<m.items.length),m.items[k].kind.1 ≠0/\ ∀j (hj:j<k),zbg (m.items[j]'(by omega))≠zbg m.items[k]:=by
    intro k hk;have:=h k (List.mem_range.2 hk);unfold okK at this;have hg:m.items.getD k zaU=m.items[k]:=(by simp[List.getD,hk]);rw[hg,Bool.and_eq_true,beq_iff_eq]at this;obtain⟨_,_,h3⟩:=zql this.2;exact⟨by simpa using this.1,fun j hj=>by simpa using h3 j hj⟩
   refine⟨?_,fun x hx=> ?_⟩
   ·rw[List.nodup_iff_pairwise_ne,List.pairwise_map,List.pairwise_iff_getElem];intro i j hi hj hij;exact(h' j hj).2 i hij
   ·obtain⟨k,hk,rfl⟩:=List.getElem_of_mem hx;exact(h' k hk).1
  ·rintro⟨h1,h2⟩ k hk;have hk:=List.mem_range.1 hk;have hg:m.items.getD k zaU=m.items[k]:=by simp[List.getD,hk]
   unfold okK;rw[hg,Bool.and_eq_true,beq_iff_eq];refine⟨by simpa using h2 _ (List.getElem_mem hk),?_⟩;refine zeP hk (by simp) (fun j hj hj'=> ?_);rw[List.nodup_iff_pairwise_ne,List.pairwise_map,List.pairwise_iff_getElem]at h1;simpa using h1 j k hj' hk hj
 constructor
 ·intro h;have h': ∀k (hk:k<l.length),(∀j (hj:j<k),(l[j]'(by omega)).name ≠l[k].name)/\zq7 l[k]=true:=by
   intro k hk;have:=h k (List.mem_range.2 hk);unfold okM at this;have hg:l.getD k zdP=l[k]:=by simp[List.getD,hk]
   rw[hg,Bool.and_eq_true,beq_iff_eq]at this;obtain⟨_,_,h3⟩:=zql this.1;exact⟨fun j hj=>by simpa using h3 j hj,this.2⟩
  refine⟨?_,fun m hm=> ?_,fun m hm=> ?_⟩
  ·rw[List.nodup_iff_pairwise_ne,List.pairwise_map,List.pairwise_iff_getElem];intro i j hi hj hij;exact(h' j hj).1 i hij
  ·obtain⟨k,hk,rfl⟩:=List.getElem_of_mem hm;exact((hK _).1 (h' k hk).2).1
  ·obtain⟨k,hk,rfl⟩:=List.getElem_of_mem hm;exact((hK _).1 (h' k hk).2).2
 ·intro h k hk;have hk:=List.mem_range.1 hk;have hg:l.getD k zdP=l[k]:=by simp[List.getD,hk]
  unfold okM;rw[hg,Bool.and_eq_true,beq_iff_eq];refine⟨?_,(hK _).2 ⟨h.parts _ (List.getElem_mem hk),h.kinds _ (List.getElem_mem hk)⟩⟩;refine zeP hk (by simp) (fun j hj hj'=> ?_);have h1:=h.names;rw[List.nodup_iff_pairwise_ne,List.pairwise_map,List.pairwise_iff_getElem]at h1;simpa using h1 j k hj' hk hj
/-! ### Generated files are partitioned -/
theorem parted_made(x:Raw):ze8 (zdG x)=true:=by
 rcases zc5 x with⟨mem,h⟩ | ⟨q,h⟩ | ⟨q,mem,h⟩ | ⟨q,mem,h⟩
 ·rw[h]; cases mem <;> kernel_rfl
 ·rw[h]; cases q <;> kernel_rfl
 ·rw[h]; cases q <;> cases mem <;> kernel_rfl
 ·rw[h]; cases q <;> cases mem <;> kernel_rfl
set_option maxHeartbeats 20000000
/-- Lists equal,element by element. -/
def eqL{α:Type}(p:α->α->Bool):List α->List α->Bool
 | [],[]=>true
 | x::a,y::b=>p x y&&eqL p a b
 | _,_=>false
theorem zgu{α:Type}{p:α->α->Bool}: ∀ {a b:List α},a.length≠b.length->eqL p a b=false
 | [],[],h=>absurd rfl h
 | [],_::_,_=>rfl
 | _::_,[],_=>rfl
 | x::a,y::b,h=>by
  rw[eqL,zgu (a:=a) (b:=b) (by simpa using h),Bool.and_false]
theorem zgt{α:Type}{p:α->α->Bool}: ∀ {a b:List α} {i:Nat} (h:i<a.length) (h':i<b.length),p a[i] b[i]=false->eqL p a b=false
 | x::a,y::b,0,_,_,hp=>by rw[eqL]; simp only[List.getElem_cons_zero]at hp; rw[hp]; rfl
 | x::a,y::b,i+1,h,h',hp=>by
  rw[eqL,zgt (a:=a) (b:=b) (i:=i) (by simpa using h) (by simpa using h') (by simpa using hp),Bool.and_false]
theorem zeC{α:Type}{p:α->α->Bool}: ∀ {a b:List α},a.length=b.length->(∀i (h:i<a.length) (h':i<b.length),p a[i] b[i]=true)->eqL p a b=true
 | [],[],_,_=>rfl
 | [],_::_,h,_=>by simp at h
 | _::_,[],h,_=>by simp at h
 | x::a,y::b,h,hp=>by
  have h0:=hp 0 (by simp) (by simp);simp only[List.getElem_cons_zero]at h0;rw[eqL,h0,zeC (by simpa using h) (fun i h1 h2=>by
   have:=hp (i+1) (by rw[List.length_cons]; omega) (by rw[List.length_cons]; omega);simpa only[List.getElem_cons_succ]using this)]; rfl
theorem zoc{α:Type}[DecidableEq α]: ∀a b:List α,eqL (fun x y=>decide (x=y)) a b=decide (a=b)
 | [],[]=>by simp[eqL]
 | [],_::_=>by simp[eqL]
 | _::_,[]=>by simp[eqL]
 | x::a,y::b=>by rw[eqL,zoc a b,Bool.eq_iff_iff]; simp
theorem eqfExpr_c(a b:List Expr)(hla:a.length<=9223372036854775807)(g:Nat)(p:Expr->Expr->Bool)(hf: ∀x∈a,∀y∈b,FnP Tryz.prog g [.agg (zbx x),.agg (zbx y)] (.d (eB (p x y))) []):FnP Tryz.prog 168 [.sl (a.map zbx),.sl (b.map zbx),.clo (.func g) [] []] (.d (eB (eqL p a b))) []:=by
 refine FnP.of_eC (own:=[]) (fun _=>[]) zat Tryz.func168 rfl Tryz.call168 Tryz.ntmps168 (Nat.le_of_ble_eq_true rfl) Tryz.results168 (fun hok=> ?_);by_cases hab:a.length=b.length
 ·have h0:((a.length:Int) !=(b.length:Int))=false:=by simp[hab]
  simp(maxSteps:=4000000) only[ZE,↓reduceIte,pE,pL,pA,pS,pM,pD,zN,qT,qG,qL,qH,qN,qB,qE,qO,qA,qM,h0,List.length_map];refine za1 (fun _=>[]) zat a.length (fun i=> ∀j (h:j<a.length) (h':j<b.length),j<i->p a[j] b[j]=true) (fun i=>([(1,.d (.sl (b.map zbx))),(2,.d (.clo (.func g) [] [])),(15,.d (.sl (a.map zbx))),(16,.d (eI a.length)),(17,.d (eI i))],[])) (by intro j _ _ h; omega) (by simp only[ZE,↓reduceIte,pE,pL,pA,pS,pM,pD,zN,qT,qG,qL,qH,qN,qB,qE,qO,qA,qM,List.length_map]) (by simp only[ZE,↓reduceIte,pE,pL,pA,pS,pM,pD]) (fun i hi hI=> ?_);rcases Nat.lt_or_ge i a.length with h | h
  ·have hw:=zaq (show i<9223372036854775807 by omega);have h':i<b.length:=by omega
   have hc:=hf a[i] (List.getElem_mem h) b[i] (List.getElem_mem h');obtain⟨q,hq⟩:=zX (p a[i] b[i]);rw[hq]at hc;simp only[ZE,↓reduceIte,pE,pL,pA,pS,pM,pD]at hc;simp(maxSteps:=4000000) only[ZE,↓reduceIte,pE,pL,pA,pS,pM,pD,zaw h,zaa h,zai h,zaa h',zai h',hw,zN,qT,qG,qL,qH,qN,qB,qE,qO,qA,qM,List.length_map];refine EFn.p ?_;simp only[ZE,↓reduceIte,pE,pL,pA,pS,pM,pD,zN,qT,qG,qL,qH,qN,qB,qE,qO,qA,qM];refine zar.i hc ?_;cases q with
   | true=>
    simp only[ZE,↓reduceIte,pE,pL,pA,pS,pM,pD,zN,qT,qG,qL,qH,qN,qB,qE,qO,qA,qM,hw];refine⟨h,fun j h1 h2 hj=> ?_⟩;rcases Nat.lt_succ_iff_lt_or_eq.1 hj with hj | rfl
    ·exact hI j h1 h2 hj
    ·exact hq
   | false=>
    have e:=zgt h h' hq;simp only[ZE,↓reduceIte,pE,pL,pA,pS,pM,pD,zN,qT,qG,qL,qH,qN,qB,qE,qO,qA,qM,e]
  ·have:i=a.length:=by omega
   subst this;have e:=zeC hab (fun i h1 h2=>hI i h1 h2 h1);simp(maxSteps:=4000000) only[ZE,↓reduceIte,pE,pL,pA,pS,pM,pD,zaI h,zN,qT,qG,qL,qH,qN,qB,qE,qO,qA,qM,e]
 ·have h0:((a.length:Int) !=(b.length:Int))=true:=by simp; omega
  have e:=zgu (p:=p) hab;simp(maxSteps:=4000000) only[ZE,↓reduceIte,pE,pL,pA,pS,pM,pD,zN,qT,qG,qL,qH,qN,qB,qE,qO,qA,qM,h0,e,List.length_map]
theorem eqfItem_c(a b:List Item)(hla:a.length<=9223372036854775807)(g:Nat)(p:Item->Item->Bool)(hf: ∀x∈a,∀y∈b,FnP Tryz.prog g [.agg (zaK x),.agg (zaK y)] (.d (eB (p x y))) []):FnP Tryz.prog 62 [.sl (a.map zaK),.sl (b.map zaK),.clo (.func g) [] []] (.d (eB (eqL p a b))) []:=by
 refine FnP.of_eC (own:=[]) (fun _=>[]) zat Tryz.func62 rfl Tryz.call62 Tryz.ntmps62 (Nat.le_of_ble_eq_true rfl) Tryz.results62 (fun hok=> ?_);by_cases hab:a.length=b.length
 ·have h0:((a.length:Int) !=(b.length:Int))=false:=by simp[hab]
  simp(maxSteps:=4000000) only[ZE,↓reduceIte,pE,pL,pA,pS,pM,pD,zN,qT,qG,qL,qH,qN,qB,qE,qO,qA,qM,h0,List.length_map];refine za1 (fun _=>[]) zat a.length (fun i=> ∀j (h:j<a.length) (h':j<b.length),j<i->p a[j] b[j]=true) (fun i=>([(1,.d (.sl (b.map zaK))),(2,.d (.clo (.func g) [] [])),(15,.d (.sl (a.map zaK))),(16,.d (eI a.length)),(17,.d (eI i))],[])) (by intro j _ _ h; omega) (by simp only[ZE,↓reduceIte,pE,pL,pA,pS,pM,pD,zN,qT,qG,qL,qH,qN,qB,qE,qO,qA,qM,List.length_map]) (by simp only[ZE,↓reduceIte,pE,pL,pA,pS,pM,pD]) (fun i hi hI=> ?_);rcases Nat.lt_or_ge i a.length with h | h
  ·have hw:=zaq (show i<9223372036854775807 by omega);have h':i<b.length:=by omega
   have hc:=hf a[i] (List.getElem_mem h) b[i] (List.getElem_mem h');obtain⟨q,hq⟩:=zX (p a[i] b[i]);rw[hq]at hc;simp only[ZE,↓reduceIte,pE,pL,pA,pS,pM,pD]at hc;simp(maxSteps:=4000000) only[ZE,↓reduceIte,pE,pL,pA,pS,pM,pD,zaw h,zaa h,zai h,zaa h',zai h',hw,zN,qT,qG,qL,qH,qN,qB,qE,qO,qA,qM,List.length_map];refine EFn.p ?_;simp only[ZE,↓reduceIte,pE,pL,pA,pS,pM,pD,zN,qT,qG,qL,qH,qN,qB,qE,qO,qA,qM];refine zar.i hc ?_;cases q with
   | true=>
    simp only[ZE,↓reduceIte,pE,pL,pA,pS,pM,pD,zN,qT,qG,qL,qH,qN,qB,qE,qO,qA,qM,hw];refine⟨h,fun j h1 h2 hj=> ?_⟩;rcases Nat.lt_succ_iff_lt_or_eq.1 hj with hj | rfl
    ·exact hI j h1 h2 hj
    ·exact hq
   | false=>
    have e:=zgt h h' hq;simp only[ZE,↓reduceIte,pE,pL,pA,pS,pM,pD,zN,qT,qG,qL,qH,qN,qB,qE,qO,qA,qM,e]
  ·have:i=a.length:=by omega
   subst this;have e:=zeC hab (fun i h1 h2=>hI i h1 h2 h1);simp(maxSteps:=4000000) only[ZE,↓reduceIte,pE,pL,pA,pS,pM,pD,zaI h,zN,qT,qG,qL,qH,qN,qB,qE,qO,qA,qM,e]
 ·have h0:((a.length:Int) !=(b.length:Int))=true:=by simp; omega
  have e:=zgu (p:=p) hab;simp(maxSteps:=4000000) only[ZE,↓reduceIte,pE,pL,pA,pS,pM,pD,zN,qT,qG,qL,qH,qN,qB,qE,qO,qA,qM,h0,e,List.length_map]
theorem eqfModule_c(a b:List Module)(hla:a.length<=9223372036854775807)(g:Nat)(p:Module->Module->Bool)(hf: ∀x∈a,∀y∈b,FnP Tryz.prog g [.agg (zaC x),.agg (zaC y)] (.d (eB (p x y))) []):FnP Tryz.prog 59 [.sl (a.map zaC),.sl (b.map zaC),.clo (.func g) [] []] (.d (eB (eqL p a b))) []:=by
 refine FnP.of_eC (own:=[]) (fun _=>[]) zat Tryz.func59 rfl Tryz.call59 Tryz.ntmps59 (Nat.le_of_ble_eq_true rfl) Tryz.results59 (fun hok=> ?_);by_cases hab:a.length=b.length
 ·have h0:((a.length:Int) !=(b.length:Int))=false:=by simp[hab]
  simp(maxSteps:=4000000) only[ZE,↓reduceIte,pE,pL,pA,pS,pM,pD,zN,qT,qG,qL,qH,qN,qB,qE,qO,qA,qM,h0,List.length_map];refine za1 (fun _=>[]) zat a.length (fun i=> ∀j (h:j<a.length) (h':j<b.length),j<i->p a[j] b[j]=true) (fun i=>([(1,.d (.sl (b.map zaC))),(2,.d (.clo (.func g) [] [])),(15,.d (.sl (a.map zaC))),(16,.d (eI a.length)),(17,.d (eI i))],[])) (by intro j _ _ h; omega) (by simp only[ZE,↓reduceIte,pE,pL,pA,pS,pM,pD,zN,qT,qG,qL,qH,qN,qB,qE,qO,qA,qM,List.length_map]) (by simp only[ZE,↓reduceIte,pE,pL,pA,pS,pM,pD]) (fun i hi hI=> ?_);rcases Nat.lt_or_ge i a.length with h | h
  ·have hw:=zaq (show i<9223372036854775807 by omega);have h':i<b.length:=by omega
   have hc:=hf a[i] (List.getElem_mem h) b[i] (List.getElem_mem h');obtain⟨q,hq⟩:=zX (p a[i] b[i]);rw[hq]at hc;simp only[ZE,↓reduceIte,pE,pL,pA,pS,pM,pD]at hc;simp(maxSteps:=4000000) only[ZE,↓reduceIte,pE,pL,pA,pS,pM,pD,zaw h,zaa h,zai h,zaa h',zai h',hw,zN,qT,qG,qL,qH,qN,qB,qE,qO,qA,qM,List.length_map];refine EFn.p ?_;simp only[ZE,↓reduceIte,pE,pL,pA,pS,pM,pD,zN,qT,qG,qL,qH,qN,qB,qE,qO,qA,qM];refine zar.i hc ?_;cases q with
   | true=>
    simp only[ZE,↓reduceIte,pE,pL,pA,pS,pM,pD,zN,qT,qG,qL,qH,qN,qB,qE,qO,qA,qM,hw];refine⟨h,fun j h1 h2 hj=> ?_⟩;rcases Nat.lt_succ_iff_lt_or_eq.1 hj with hj | rfl
    ·exact hI j h1 h2 hj
    ·exact hq
   | false=>
    have e:=zgt h h' hq;simp only[ZE,↓reduceIte,pE,pL,pA,pS,pM,pD,zN,qT,qG,qL,qH,qN,qB,qE,qO,qA,qM,e]
  ·have:i=a.length:=by omega
   subst this;have e:=zeC hab (fun i h1 h2=>hI i h1 h2 h1);simp(maxSteps:=4000000) only[ZE,↓reduceIte,pE,pL,pA,pS,pM,pD,zaI h,zN,qT,qG,qL,qH,qN,qB,qE,qO,qA,qM,e]
 ·have h0:((a.length:Int) !=(b.length:Int))=true:=by simp; omega
  have e:=zgu (p:=p) hab;simp(maxSteps:=4000000) only[ZE,↓reduceIte,pE,pL,pA,pS,pM,pD,zN,qT,qG,qL,qH,qN,qB,qE,qO,qA,qM,h0,e,List.length_map]
theorem key_str(x y:Str):decide (x.1=y.1)=decide (x=y):=str_eq x y
theorem equalStr_c(a b:List Str)(hla:a.length<=9223372036854775807):FnP Tryz.prog 116 [.sl (a.map fun x=>[eS x]),.sl (b.map fun x=>[eS x])] (.d (eB (decide (a=b)))) []:=by
 rw[<-zoc];refine FnP.of_eC (own:=[]) (fun _=>[]) zat Tryz.func116 rfl Tryz.call116 Tryz.ntmps116 (Nat.le_of_ble_eq_true rfl) Tryz.results116 (fun hok=> ?_);by_cases hab:a.length=b.length
 ·have h0:((a.length:Int) !=(b.length:Int))=false:=by simp[hab]
  simp(maxSteps:=4000000) only[ZE,↓reduceIte,pE,pL,pA,pS,pM,pD,zN,qT,qG,qL,qH,qN,qB,qE,qO,qA,qM,h0,List.length_map];refine za1 (fun _=>[]) zat a.length (fun i=> ∀j (h:j<a.length) (h':j<b.length),j<i->decide (a[j]=b[j])=true) (fun i=>([(0,.d (.sl (a.map fun x=>[eS x]))),(1,.d (.sl (b.map fun x=>[eS x]))),(12,.d (eI a.length)),(13,.d (eI i))],[])) (by intro j _ _ h; omega) (by simp only[ZE,↓reduceIte,pE,pL,pA,pS,pM,pD,zN,qT,qG,qL,qH,qN,qB,qE,qO,qA,qM,List.length_map]) (by simp only[ZE,↓reduceIte,pE,pL,pA,pS,pM,pD]) (fun i hi hI=> ?_);rcases Nat.lt_or_ge i a.length with h | h
  ·have hw:=zaq (show i<9223372036854775807 by omega);have h':i<b.length:=by omega
   have key:=key_str a[i] b[i];obtain⟨q,hq⟩:=zX (decide (a[i]=b[i]));rw[hq]at key;simp(maxSteps:=4000000) only[ZE,↓reduceIte,pE,pL,pA,pS,pM,pD,zaw h,zaa h,zai h,zaa h',zai h',hw,zN,qT,qG,qL,qH,qN,qB,qE,qO,qA,qM,List.length_map,key];refine⟨by kernel_rfl,?_⟩;cases q with
   | true=>
    simp only[ZE,↓reduceIte,pE,pL,pA,pS,pM,pD];refine⟨h,fun j h1 h2 hj=> ?_⟩;rcases Nat.lt_succ_iff_lt_or_eq.1 hj with hj | rfl
    ·exact hI j h1 h2 hj
    ·exact hq
   | false=>
    have e:=zgt (p:=fun x y:Str=>decide (x=y)) h h' hq;simp only[ZE,↓reduceIte,pE,pL,pA,pS,pM,pD,e]
  ·have:i=a.length:=by omega
   subst this;have e:=zeC (p:=fun x y:Str=>decide (x=y)) hab (fun i h1 h2=>hI i h1 h2 h1);simp(maxSteps:=4000000) only[ZE,↓reduceIte,pE,pL,pA,pS,pM,pD,zaI h,zN,qT,qG,qL,qH,qN,qB,qE,qO,qA,qM,e]
 ·have h0:((a.length:Int) !=(b.length:Int))=true:=by simp; omega
  have e:=zgu (p:=fun x y:Str=>decide (x=y)) hab;simp(maxSteps:=4000000) only[ZE,↓reduceIte,pE,pL,pA,pS,pM,pD,zN,qT,qG,qL,qH,qN,qB,qE,qO,qA,qM,h0,e,List.length_map]
theorem zhX(x y:Num):(x.n==y.n&&decide (x.p=y.p))=decide (x=y):=by
 obtain⟨a,b⟩:=x;obtain⟨c,d⟩:=y;rw[Bool.eq_iff_iff]; simp
theorem key_bind(x y:Bind):(decide (x.port=y.port)&&decide (x.chan=y.chan))=decide (x=y):=by
 obtain⟨a,b⟩:=x;obtain⟨c,d⟩:=y;rw[Bool.eq_iff_iff]; simp
theorem equalNum_c(a b:List Num)(hla:a.length<=9223372036854775807):FnP Tryz.prog 117 [.sl (a.map fun x=>zgL x),.sl (b.map fun x=>zgL x)] (.d (eB (decide (a=b)))) []:=by
 rw[<-zoc];refine FnP.of_eC (own:=[]) (fun _=>[]) zat Tryz.func117 rfl Tryz.call117 Tryz.ntmps117 (Nat.le_of_ble_eq_true rfl) Tryz.results117 (fun hok=> ?_);by_cases hab:a.length=b.length
 ·have h0:((a.length:Int) !=(b.length:Int))=false:=by simp[hab]
  simp(maxSteps:=4000000) only[ZE,↓reduceIte,pE,pL,pA,pS,pM,pD,zN,qT,qG,qL,qH,qN,qB,qE,qO,qA,qM,h0,List.length_map];refine za1 (fun _=>[]) zat a.length (fun i=> ∀j (h:j<a.length) (h':j<b.length),j<i->decide (a[j]=b[j])=true) (fun i=>([(0,.d (.sl (a.map fun x=>zgL x))),(1,.d (.sl (b.map fun x=>zgL x))),(12,.d (eI a.length)),(13,.d (eI i))],[])) (by intro j _ _ h; omega) (by simp only[ZE,↓reduceIte,pE,pL,pA,pS,pM,pD,zN,qT,qG,qL,qH,qN,qB,qE,qO,qA,qM,List.length_map]) (by simp only[ZE,↓reduceIte,pE,pL,pA,pS,pM,pD]) (fun i hi hI=> ?_);rcases Nat.lt_or_ge i a.length with h | h
  ·have hw:=zaq (show i<9223372036854775807 by omega);have h':i<b.length:=by omega
   have key:=zhX a[i] b[i];obtain⟨q,hq⟩:=zX (decide (a[i]=b[i]));rw[hq]at key;simp(maxSteps:=4000000) only[ZE,↓reduceIte,pE,pL,pA,pS,pM,pD,zaw h,zaa h,zai h,zaa h',zai h',hw,zN,qT,qG,qL,qH,qN,qB,qE,qO,qA,qM,List.length_map,key];refine⟨by kernel_rfl,?_⟩;cases q with
   | true=>
    simp only[ZE,↓reduceIte,pE,pL,pA,pS,pM,pD];refine⟨h,fun j h1 h2 hj=> ?_⟩;rcases Nat.lt_succ_iff_lt_or_eq.1 hj with hj | rfl
    ·exact hI j h1 h2 hj
    ·exact hq
   | false=>
    have e:=zgt (p:=fun x y:Num=>decide (x=y)) h h' hq;simp only[ZE,↓reduceIte,pE,pL,pA,pS,pM,pD,e]
  ·have:i=a.length:=by omega
   subst this;have e:=zeC (p:=fun x y:Num=>decide (x=y)) hab (fun i h1 h2=>hI i h1 h2 h1);simp(maxSteps:=4000000) only[ZE,↓reduceIte,pE,pL,pA,pS,pM,pD,zaI h,zN,qT,qG,qL,qH,qN,qB,qE,qO,qA,qM,e]
 ·have h0:((a.length:Int) !=(b.length:Int))=true:=by simp; omega
  have e:=zgu (p:=fun x y:Num=>decide (x=y)) hab;simp(maxSteps:=4000000) only[ZE,↓reduceIte,pE,pL,pA,pS,pM,pD,zN,qT,qG,qL,qH,qN,qB,qE,qO,qA,qM,h0,e,List.length_map]
theorem equalBind_c(a b:List Bind)(hla:a.length<=9223372036854775807):FnP Tryz.prog 118 [.sl (a.map fun x=>zjO x),.sl (b.map fun x=>zjO x)] (.d (eB (decide (a=b)))) []:=by
 rw[<-zoc];refine FnP.of_eC (own:=[]) (fun _=>[]) zat Tryz.func118 rfl Tryz.call118 Tryz.ntmps118 (Nat.le_of_ble_eq_true rfl) Tryz.results118 (fun hok=> ?_);by_cases hab:a.length=b.length
 ·have h0:((a.length:Int) !=(b.length:Int))=false:=by simp[hab]
  simp(maxSteps:=4000000) only[ZE,↓reduceIte,pE,pL,pA,pS,pM,pD,zN,qT,qG,qL,qH,qN,qB,qE,qO,qA,qM,h0,List.length_map];refine za1 (fun _=>[]) zat a.length (fun i=> ∀j (h:j<a.length) (h':j<b.length),j<i->decide (a[j]=b[j])=true) (fun i=>([(0,.d (.sl (a.map fun x=>zjO x))),(1,.d (.sl (b.map fun x=>zjO x))),(12,.d (eI a.length)),(13,.d (eI i))],[])) (by intro j _ _ h; omega) (by simp only[ZE,↓reduceIte,pE,pL,pA,pS,pM,pD,zN,qT,qG,qL,qH,qN,qB,qE,qO,qA,qM,List.length_map]) (by simp only[ZE,↓reduceIte,pE,pL,pA,pS,pM,pD]) (fun i hi hI=> ?_);rcases Nat.lt_or_ge i a.length with h | h
  ·have hw:=zaq (show i<9223372036854775807 by omega);have h':i<b.length:=by omega
   have key:=key_bind a[i] b[i];obtain⟨q,hq⟩:=zX (decide (a[i]=b[i]));rw[hq]at key;simp(maxSteps:=4000000) only[ZE,↓reduceIte,pE,pL,pA,pS,pM,pD,zaw h,zaa h,zai h,zaa h',zai h',hw,zN,qT,qG,qL,qH,qN,qB,qE,qO,qA,qM,List.length_map,key];refine⟨by kernel_rfl,?_⟩;cases q with
   | true=>
    simp only[ZE,↓reduceIte,pE,pL,pA,pS,pM,pD];refine⟨h,fun j h1 h2 hj=> ?_⟩;rcases Nat.lt_succ_iff_lt_or_eq.1 hj with hj | rfl
    ·exact hI j h1 h2 hj
    ·exact hq
   | false=>
    have e:=zgt (p:=fun x y:Bind=>decide (x=y)) h h' hq;simp only[ZE,↓reduceIte,pE,pL,pA,pS,pM,pD,e]
  ·have:i=a.length:=by omega
   subst this;have e:=zeC (p:=fun x y:Bind=>decide (x=y)) hab (fun i h1 h2=>hI i h1 h2 h1);simp(maxSteps:=4000000) only[ZE,↓reduceIte,pE,pL,pA,pS,pM,pD,zaI h,zN,qT,qG,qL,qH,qN,qB,qE,qO,qA,qM,e]
 ·have h0:((a.length:Int) !=(b.length:Int))=true:=by simp; omega
  have e:=zgu (p:=fun x y:Bind=>decide (x=y)) hab;simp(maxSteps:=4000000) only[ZE,↓reduceIte,pE,pL,pA,pS,pM,pD,zN,qT,qG,qL,qH,qN,qB,qE,qO,qA,qM,h0,e,List.length_map]
theorem eqL_E: ∀a b:List Expr,eqL zil a b=zjF a b
 | [],[]=>by simp[eqL,zjF]
 | [],_::_=>by simp[eqL,zjF]
 | _::_,[]=>by simp[eqL,zjF]
 | x::a,y::b=>by rw[eqL,zjF,eqL_E a b]
theorem eqL_I: ∀a b:List Item,eqL zlG a b=zl1 a b
 | [],[]=>by simp[eqL,zl1]
 | [],_::_=>by simp[eqL,zl1]
 | _::_,[]=>by simp[eqL,zl1]
 | x::a,y::b=>by rw[eqL,zl1,eqL_I a b]
theorem eqL_M: ∀a b:List Module,eqL zm4 a b=zl6 a b
 | [],[]=>by simp[eqL,zl6]
 | [],_::_=>by simp[eqL,zl6]
 | _::_,[]=>by simp[eqL,zl6]
 | x::a,y::b=>by rw[eqL,zl6,eqL_M a b]
theorem expr_lens(e:Expr)(h:D.ok (.agg (zbx e))):e.args.length<=9223372036854775807:=by
 rw[zb6]at h;simp only[D.ok,D.okL]at h;exact(za9 h.2.2.2.2.2.2.1).1
/-- Expressions compared. -/
theorem zxE: ∀(n:Nat) (a b:Expr),sz a<n->FnP Tryz.prog 119 [.agg (zbx a),.agg (zbx b)] (.d (eB (zil a b))) []
 | 0,_,_,h=>by omega
 | n+1,.mk o m k w a,.mk o' m' k' w' a',hn=>by
  refine FnP.of_eC (own:=[]) (fun i=>if i=2001 then [.chn]else []) zat Tryz.func119 rfl Tryz.call119 Tryz.ntmps119 (Nat.le_of_ble_eq_true rfl) Tryz.results119 (fun hok=> ?_);have hla:a.length<=9223372036854775807:=expr_lens (.mk o m k w a) (zaM hok).1;have hs:(a.map sz).sum <n:=by rw[zec]at hn; omega
  have ec:=eqfExpr_c a a' hla 119 zil (fun x hx y hy=>zxE n x y (by have:=zuv hx; omega));rw[eqL_E]at ec;have hS:zil (.mk o m k w a) (.mk o' m' k' w' a')=((o==o'&&decide (m=m')&&decide (k=k')&&decide (w=w'))&&zjF a a'):=by rw[zil]
  rw[hS];have k1:=zhX k k';have k2:=zhX w w';simp only[ZE,↓reduceIte,pE,pL,pA,pS,pM,pD]at ec;simp(maxSteps:=4000000) only[ZE,↓reduceIte,pE,pL,pA,pS,pM,pD,zcW,zbm,zgN,zgO,zbl,k1,k2];refine za3.i (fun _=>ec) ?_;simp only[ZE,↓reduceIte,pE,pL,pA,pS,pM,pD]
theorem sameH_c(m n:Module):FnP Tryz.prog 61 [.agg (zaC m),.agg (zaC n)] (.d (eB (zug m n))) []:=by
 refine FnP.of_eC (own:=[]) (fun i=>if i=2001 then [.chn]else []) zat Tryz.func61 rfl Tryz.call61 Tryz.ntmps61 (Nat.le_of_ble_eq_true rfl) Tryz.results61 (fun hok=> ?_);have hla:m.params.length<=9223372036854775807:=by
  have:=(zaM hok).1;simp only[zaC,zd5,D.ok,D.okL]at this;exact(za9 this.2.2.1).1
 have ec:=equalStr_c m.params n.params hla;unfold zug;simp only[ZE,↓reduceIte,pE,pL,pA,pS,pM,pD]at ec;simp(maxSteps:=4000000) only[ZE,↓reduceIte,pE,pL,pA,pS,pM,pD,zN,qT,qG,qL,qH,qN,qB,qE,qO,qA,qM];refine za3.i (fun _=>ec) ?_;simp only[ZE,↓reduceIte,pE,pL,pA,pS,pM,pD]
theorem part_key(x y:Item):(x.kind.1==y.kind.1&&decide (x.name=y.name))=decide (zbg x=zbg y):=zxs (zbg x) (zbg y)
theorem tof_c(x:Item):FnP Tryz.prog 111 [.agg (zaK x)] (.d (.agg (zfX (zbg x)))) []:=by
 refine FnP.of_eC (own:=[]) (fun _=>[]) zat Tryz.func111 rfl Tryz.call111 Tryz.ntmps111 (Nat.le_of_ble_eq_true rfl) Tryz.results111 (fun hok=> ?_);simp(maxSteps:=4000000) only[ZE,↓reduceIte,pE,pL,pA,pS,pM,pD,zfX,zbg]
theorem key_rule(x y:Rule):(x.kind==y.kind&&decide (x.from'=y.from')&&(x.n==y.n))=decide (x=y):=by
 obtain⟨a,b,c⟩:=x;obtain⟨a',b',c'⟩:=y;rw[Bool.eq_iff_iff]; simp[and_assoc]
end Go.Proofs.YtbenhdgpogiadaaGreat
