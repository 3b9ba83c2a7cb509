/-
 CONTRACTS and plain laws. Conditions: those of each law.
-/
import Derived.Test.YtbenhdgpogiadaaGreatK3
import Derived.Test.YtbenhdgpogiadaaGreatK1
import Derived.Test.YtbenhdgpogiadaaGreatK2
import Derived.Test.YtbenhdgpogiadaaGreatGSo
import Derived.Sort.Walk0
import Derived.Test.YtbenhdgpogiadaaGreatGSp
import Derived.WalkKit
import Derived.Shelf.RegionOpenPlain
import Derived.Shelf.SlSortCmp.QuietGrown
import Derived.StillTailTactics
import Derived.Handy
import Derived.Laws.Cover1
import Derived.Laws.Rows
import Derived.Shelf.SlicesQ.Load
import Derived.Below
set_option linter.unusedSimpArgs false
set_option linter.unusedVariables false
namespace Go.Proofs.YtbenhdgpogiadaaGreat
open Go.Aw
open Nat renaming reduceEqDiff->pE,reduceLT->pL,reduceAdd->pA,reduceSub->pS,reduceMul->pM,reduceLeDiff->pD
open Int renaming reduceToNat->qT,reduceGT->qG,reduceLT->qL,reduceGE->qH,reduceBNe->qN,reduceBEq->qB,reduceLE->qE,reduceNe->qO,reduceAdd->qA,reduceNeg->qM
set_option maxRecDepth 100000
set_option maxHeartbeats 4000000
def sA:Str:=st [97]
def sB:Str:=st [98]
def sC:Str:=st [99]
def sD:Str:=st [100]
def sM:Str:=st [109]
def sR:Str:=st [114]
def sS:Str:=st [115]
def sT:Str:=st [116]
def sU:Str:=st [117]
def sVV:Str:=st [118]
def sW:Str:=st [119]
def sX:Str:=st [120]
def sY:Str:=st [121]
def sAux:Str:=st [97,117,120]
def zxC:Str:=st [99,108,107]
def zg7:Str:=st [99,101,108,108]
def zma:Str:=st [116,111,112]
def zd0(b:Nat):Rule:=if b % 6=0 then⟨0,emp,0⟩else if b % 6=1 then⟨2,sR,0⟩else if b % 6=2 then⟨3,sS,(b / 6 % 3:Nat)⟩else⟨1,emp,0⟩
theorem rule_c(b:Nat)(hb:b<256):FnP Tryz.prog 165 [eI b] (.d (.agg (zib (zd0 b)))) []:=by
 refine FnP.of_eC (own:=[]) (fun _=>[]) zat Tryz.func165 rfl Tryz.call165 Tryz.ntmps165 (Nat.le_of_ble_eq_true rfl) Tryz.results165 (fun hok=> ?_);have hm:(b:Int).tmod 6=((b % 6:Nat):Int):=(Int.ofNat_tmod b 6).symm;have hq:(b:Int).tdiv 6=((b / 6:Nat):Int):=(Int.ofNat_tdiv b 6).symm;have hwq:IntKind.i64.wrap ((b / 6:Nat):Int)=((b / 6:Nat):Int):=zaQ (by omega) (by omega);have hr:((b / 6:Nat):Int).tmod 3=((b / 6 % 3:Nat):Int):=(Int.ofNat_tmod _ _).symm;by_cases b0:b % 6=0
 ·have h0:(((b % 6:Nat):Int)==0)=true:=by simp[b0]
  rw[zd0,if_pos b0];simp(maxSteps:=4000000) only[ZE,↓reduceIte,pE,pL,pA,pS,pM,pD,zN,qT,qG,qL,qH,qN,qB,qE,qO,qA,qM,hm,h0,Expr.op,Expr.name,Expr.k,Expr.w,Expr.args,zbj,emp,Int.reduceEq,not_false_eq_true]
 have h0:(((b % 6:Nat):Int)==0)=false:=by simp; omega
 by_cases b1:b % 6=1
 ·have h1:(((b % 6:Nat):Int)==1)=true:=by simp[b1]
  rw[zd0,if_neg b0,if_pos b1];simp(maxSteps:=4000000) only[ZE,↓reduceIte,pE,pL,pA,pS,pM,pD,zN,qT,qG,qL,qH,qN,qB,qE,qO,qA,qM,hm,h0,h1,Expr.op,Expr.name,Expr.k,Expr.w,Expr.args,zbj,emp,Int.reduceEq,not_false_eq_true,sR,st]
 have h1:(((b % 6:Nat):Int)==1)=false:=by simp; omega
 by_cases b2:b % 6=2
 ·have h2:(((b % 6:Nat):Int)==2)=true:=by simp[b2]
  rw[zd0,if_neg b0,if_neg b1,if_pos b2];simp(maxSteps:=4000000) only[ZE,↓reduceIte,pE,pL,pA,pS,pM,pD,zN,qT,qG,qL,qH,qN,qB,qE,qO,qA,qM,hm,h0,h1,h2,hq,hwq,hr,Expr.op,Expr.name,Expr.k,Expr.w,Expr.args,zbj,emp,Int.reduceEq,not_false_eq_true,sS,st]
 have h2:(((b % 6:Nat):Int)==2)=false:=by simp; omega
 rw[zd0,if_neg b0,if_neg b1,if_neg b2];simp(maxSteps:=4000000) only[ZE,↓reduceIte,pE,pL,pA,pS,pM,pD,zN,qT,qG,qL,qH,qN,qB,qE,qO,qA,qM,hm,h0,h1,h2,Expr.op,Expr.name,Expr.k,Expr.w,Expr.args,zbj,emp,Int.reduceEq,not_false_eq_true]
def zdk(b:Nat):Str:=if b % 3=0 then sAux else zxC
theorem zsg(b:Nat):FnP Tryz.prog 102 [eI b] (.d (eS (zdk b))) []:=by
 refine FnP.of_eC (own:=[]) (fun _=>[]) zat Tryz.func102 rfl Tryz.call102 Tryz.ntmps102 (Nat.le_of_ble_eq_true rfl) Tryz.results102 (fun hok=> ?_);have hm:(b:Int).tmod 3=((b % 3:Nat):Int):=(Int.ofNat_tmod b 3).symm;by_cases b0:b % 3=0
 ·have h0:(((b % 3:Nat):Int)==0)=true:=by simp[b0]
  rw[zdk,if_pos b0];simp(maxSteps:=4000000) only[ZE,↓reduceIte,pE,pL,pA,pS,pM,pD,zN,qT,qG,qL,qH,qN,qB,qE,qO,qA,qM,hm,h0,Expr.op,Expr.name,Expr.k,Expr.w,Expr.args,zbj,emp,Int.reduceEq,not_false_eq_true,sAux,st]
 have h0:(((b % 3:Nat):Int)==0)=false:=by simp; omega
 rw[zdk,if_neg b0];simp(maxSteps:=4000000) only[ZE,↓reduceIte,pE,pL,pA,pS,pM,pD,zN,qT,qG,qL,qH,qN,qB,qE,qO,qA,qM,hm,h0,Expr.op,Expr.name,Expr.k,Expr.w,Expr.args,zbj,emp,Int.reduceEq,not_false_eq_true,zxC,st]
def zk1(name:Str)(l:List Nat)(a:Nat)(ns:List Str)(w:Num):Item:={zaU with kind:=⟨4,rfl⟩,name:=name,width:=w,init:=⟨(zaR l a % 2:Nat),emp⟩,a:=gen l ns w 1 a,rule:=zd0 (zaR l (a+1))}
theorem reg_c(name:Str)(l:List Nat)(ns:List Str)(w:Num)(hb: ∀b∈l,b<256)(hn:0<ns.length)(hn2:ns.length<=1000)(a:Nat)(ha:a<=1000):FnP Tryz.prog 163 [eS name,zau l,eI a,zhW ns w] (.d (.agg (zaK (zk1 name l a ns w)))) []:=by
 refine FnP.of_eC (own:=[]) (fun i=>if i=2001 then [.ord ⟨[(0,none),(1,none),(2,none),(3,none),(4,none),(5,none),(6,none),(7,none),(8,none),(9,none),(10,none),(11,none),(12,none),(13,none),(14,none),(15,none),(16,none),(17,none),(18,none),(19,some [])]⟩]else []) zat Tryz.func163 rfl Tryz.call163 Tryz.ntmps163 (Nat.le_of_ble_eq_true rfl) Tryz.results163 (fun hok=> ?_);have a1:=zwB l a hb (by omega);have a2:=zwB l (a+1) hb (by omega);have g1:=zhF l ns w hb hn hn2 a (by omega);have r1:=rule_c (zaR l (a+1)) (zgo hb _);have w1:IntKind.i64.wrap ((a:Int)+1)=((a+1:Nat):Int):=zaQ (by omega) (by omega);have hm:(zaR l a:Int).tmod 2=((zaR l a % 2:Nat):Int):=(Int.ofNat_tmod _ 2).symm;simp only[ZE,↓reduceIte,pE,pL,pA,pS,pM,pD,eAt,zhW]at a1 a2 g1 r1;simp(maxSteps:=4000000) only[ZE,↓reduceIte,pE,pL,pA,pS,pM,pD,zhW,zN,qT,qG,qL,qH,qN,qB,qE,qO,qA,qM,Int.reduceEq,not_false_eq_true];refine⟨by kernel_rfl,zaz.i a1 ?_⟩;simp only[ZE,↓reduceIte,pE,pL,pA,pS,pM,pD,zN,qT,qG,qL,qH,qN,qB,qE,qO,qA,qM,Int.reduceEq,not_false_eq_true,true_and];refine zaz.i g1 ?_;simp only[ZE,↓reduceIte,pE,pL,pA,pS,pM,pD,zN,qT,qG,qL,qH,qN,qB,qE,qO,qA,qM,w1];refine zaz.i a2 ?_;simp only[ZE,↓reduceIte,pE,pL,pA,pS,pM,pD,zN,qT,qG,qL,qH,qN,qB,qE,qO,qA,qM];refine zaz.i r1 ?_;simp only[ZE,↓reduceIte,pE,pL,pA,pS,pM,pD,zN,qT,qG,qL,qH,qN,qB,qE,qO,qA,qM,hm,zk1,zaU,zbQ,Expr.op,Expr.name,Expr.k,Expr.w,Expr.args,zbj,emp,Int.reduceEq,not_false_eq_true]
def zc2(name:Str)(w:Num)(c0 c1:Str):Item:={zaU with kind:=⟨9,rfl⟩,name:=name,of:=zg7,args:=[w],ports:=[⟨sX,c0⟩,⟨sY,c1⟩]}
def zj9(a b:Str):D:=.agg [eS a,eS b]
theorem zsZ(name:Str)(w:Num)(c0 c1:Str):FnP Tryz.prog 104 [eS name,.agg (zgL w),zj9 c0 c1] (.d (.agg (zaK (zc2 name w c0 c1)))) []:=by
 refine FnP.of_eC (own:=[]) chL zat Tryz.func104 rfl Tryz.call104 Tryz.ntmps104 (Nat.le_of_ble_eq_true rfl) Tryz.results104 (fun hok=> ?_);simp(maxSteps:=4000000) only[ZE,↓reduceIte,pE,pL,pA,pS,pM,pD,zj9,zN,qT,qG,qL,qH,qN,qB,qE,qO,qA,qM,zc2,zaU,zbQ,Expr.op,Expr.name,Expr.k,Expr.w,Expr.args,zbj,emp,Int.reduceEq,not_false_eq_true,sX,sY,zg7,st]
set_option maxHeartbeats 8000000
theorem zcW(o:Int)(n:Str)(k w:Num)(a:List Expr):(Expr.mk o n k w a).op =o:=rfl
theorem zbm(o:Int)(n:Str)(k w:Num)(a:List Expr):(Expr.mk o n k w a).name =n:=rfl
theorem zgN(o:Int)(n:Str)(k w:Num)(a:List Expr):(Expr.mk o n k w a).k =k:=rfl
theorem zgO(o:Int)(n:Str)(k w:Num)(a:List Expr):(Expr.mk o n k w a).w =w:=rfl
theorem zbl(o:Int)(n:Str)(k w:Num)(a:List Expr):(Expr.mk o n k w a).args =a:=rfl
def zeS(kind:I64)(name:Str)(w:Num):Item:={zaU with kind:=kind,name:=name,width:=w}
def zdf(name:Str)(w:Num)(e:Expr):Item:={zaU with kind:=⟨5,rfl⟩,name:=name,width:=w,a:=e}
def zde(name:Str)(e:Expr):Item:={zaU with kind:=⟨7,rfl⟩,name:=name,a:=e}
def zh3(name:Str)(e x:Expr):Item:={zaU with kind:=⟨8,rfl⟩,name:=name,a:=e,b:=x}
def wN:Num:=⟨0,sW⟩
def zbf(l:List Nat):Module:=⟨zg7,zdk (zaR l 5),[sW],[zeS ⟨1,rfl⟩ sX wN,zeS ⟨2,rfl⟩ sY wN,zk1 sR l 7 [sR,sX] wN,zdf sT wN (gen l [sR] wN 1 9),zde sX (cond l [sR,sT] wN 1 11),zh3 sY (cond l [sR,sX,sT] wN 1 13) (gen l [sR,sX,sT] wN 1 15)]⟩
theorem cell_c(l:List Nat)(hb: ∀b∈l,b<256):FnP Tryz.prog 107 [zau l] (.d (.agg (zaC (zbf l)))) []:=by
 refine FnP.of_eC (own:=[]) (fun i=>if i=2002 then [.flt ⟨[(0,none),(1,none),(2,none),(3,none),(4,none),(5,none),(8,some [3,4,5]),(9,some [])]⟩ ⟨[6,7],[(8,[6]),(9,[7])]⟩]else if i=2003 then [.ord ⟨[(0,none),(1,none),(2,none),(3,none),(4,none),(5,none),(6,none),(7,none),(8,none),(9,none),(10,none),(11,none),(12,none),(13,none),(14,none),(15,none),(16,none),(17,none),(18,none),(19,none),(20,none),(21,none),(22,none),(23,none),(24,none),(25,none),(26,none),(27,none),(28,none),(29,none),(30,none),(31,none),(32,none),(33,none),(34,none),(35,some [])]⟩]else []) zat Tryz.func107 rfl Tryz.call107 Tryz.ntmps107 (Nat.le_of_ble_eq_true rfl) Tryz.results107 (fun hok=> ?_);have a1:=zwB l 5 hb (by omega);have k1:=zsg (zaR l 5);have r1:=reg_c sR l [sR,sX] wN hb (by simp) (by simp) 7 (by omega);have g1:=zhF l [sR] wN hb (by simp) (by simp) 9 (by omega);have c1:=zgU l [sR,sT] wN hb (by simp) (by simp) 11 (by omega);have c2:=zgU l [sR,sX,sT] wN hb (by simp) (by simp) 13 (by omega);have g2:=zhF l [sR,sX,sT] wN hb (by simp) (by simp) 15 (by omega);rw[zbf];obtain⟨e1,h1⟩: ∃e,zdk (zaR l 5)=e:=⟨_,rfl⟩;obtain⟨e2,h2⟩: ∃e,zk1 sR l 7 [sR,sX] wN=e:=⟨_,rfl⟩;obtain⟨e3,h3⟩: ∃e,gen l [sR] wN 1 9=e:=⟨_,rfl⟩;obtain⟨e4,h4⟩: ∃e,cond l [sR,sT] wN 1 11=e:=⟨_,rfl⟩;obtain⟨e5,h5⟩: ∃e,cond l [sR,sX,sT] wN 1 13=e:=⟨_,rfl⟩;obtain⟨e6,h6⟩: ∃e,gen l [sR,sX,sT] wN 1 15=e:=⟨_,rfl⟩;rw[h1]at k1 ⊢;rw[h2]at r1 ⊢;rw[h3]at g1 ⊢;rw[h4]at c1 ⊢;rw[h5]at c2 ⊢;rw[h6]at g2 ⊢;clear h1 h2 h3 h4 h5 h6;simp only[ZE,↓reduceIte,pE,pL,pA,pS,pM,pD,eAt,zhW,List.map_cons,List.map_nil,sR,sX,sT,sW,wN,st,emp]at a1 k1 r1 g1 c1 c2 g2;simp(maxSteps:=4000000) only[ZE,↓reduceIte,pE,pL,pA,pS,pM,pD,zN,qT,qG,qL,qH,qN,qB,qE,qO,qA,qM];refine⟨by kernel_rfl,by kernel_rfl,zaz.i a1 ?_⟩;simp only[ZE,↓reduceIte,pE,pL,pA,pS,pM,pD,zN,qT,qG,qL,qH,qN,qB,qE,qO,qA,qM];refine zaz.i k1 ?_;simp only[ZE,↓reduceIte,pE,pL,pA,pS,pM,pD,zN,qT,qG,qL,qH,qN,qB,qE,qO,qA,qM];refine zaz.i r1 ?_;simp only[ZE,↓reduceIte,pE,pL,pA,pS,pM,pD,zN,qT,qG,qL,qH,qN,qB,qE,qO,qA,qM];refine zaz.i g1 ?_;simp only[ZE,↓reduceIte,pE,pL,pA,pS,pM,pD,zN,qT,qG,qL,qH,qN,qB,qE,qO,qA,qM];refine zaz.i c1 ?_;simp only[ZE,↓reduceIte,pE,pL,pA,pS,pM,pD,zN,qT,qG,qL,qH,qN,qB,qE,qO,qA,qM];refine zaz.i c2 ?_;simp only[ZE,↓reduceIte,pE,pL,pA,pS,pM,pD,zN,qT,qG,qL,qH,qN,qB,qE,qO,qA,qM];refine zaz.i g2 ?_;simp only[ZE,↓reduceIte,pE,pL,pA,pS,pM,pD,zN,qT,qG,qL,qH,qN,qB,qE,qO,qA,qM,zeS,zdf,zde,zh3,zaU,zbQ,zg7,wN,sW,sX,sY,sT,st,zcW,zbm,zgN,zgO,zbl,zbj,emp,Int.reduceEq,not_false_eq_true]
 trace_state
def zlx(l:List Nat)(w:Num)(c0:Str):List Item:=[zk1 sR l 2 [sR,sS,sT,c0] w,zk1 sS l 4 [sS,sR,c0] w,zdf sT w (gen l [sR,sS] w 1 6)]
def zdC(l:List Nat):Num:=⟨if zaR l 1 % 2=0 then 2 else 4,emp⟩
def memI(l:List Nat)(w:Num)(c0:Str):Item:={zaU with kind:=⟨6,rfl⟩,name:=sM,width:=w,depth:=zdC l,a:=cond l [sR,sS,sT,c0] w 1 12,b:=gen l [sR,sS,sT,c0] w 0 14,c:=gen l [sR,sS,sT,c0] w 1 16,rule:=zd0 (zaR l 3)}
def zpv(l:List Nat)(w:Num)(c0:Str):List Item:=if zaR l 0 % 2=1 then [memI l w c0]else []
def zox(l:List Nat)(w:Num)(c0:Str):Expr:=if zaR l 0 % 2=1 then .mk 5 emp zbj zbj [gen l [sR,sS,sT,c0] w 1 8,.mk 15 sM zbj zbj [gen l [sR,sS] w 0 10]]else gen l [sR,sS,sT,c0] w 1 8
def zlz(l:List Nat)(w:Num)(c0 c1:Str):List Item:=[zde c0 (cond l [sR,sS] w 1 18),zh3 c1 (cond l [sR,sS,sT,c0] w 1 20) (zox l w c0)]
def znJ(l:List Nat)(w:Num)(c0 c1:Str):List Item:=zlx l w c0++zpv l w c0++zlz l w c0 c1
theorem own_c(l:List Nat)(w:Num)(c0 c1:Str)(hb: ∀b∈l,b<256):FnP Tryz.prog 103 [zau l,.agg (zgL w),zj9 c0 c1] (.d (zbR (znJ l w c0 c1))) []:=by
 refine FnP.of_eC (own:=[]) (fun i=>if i=2001 then [.flt ⟨[(0,none),(1,none),(2,none),(3,none),(4,none),(5,none),(6,none),(7,none),(10,some [3,4,5,6,7]),(11,some [])]⟩ ⟨[8,9],[(10,[8]),(11,[9])]⟩]else if i=2002 then [.ord ⟨[(0,none),(1,none),(2,none),(3,none),(4,none),(5,none),(6,none),(7,none),(8,none),(9,none),(10,none),(11,none),(12,none),(13,none),(14,none),(15,none),(16,some []),(17,some [])]⟩]else if i=2007 then [.ord ⟨[(0,none),(1,none),(2,none),(3,none),(4,none),(5,none),(6,none),(7,none),(8,none),(9,none),(10,none),(11,none),(12,none),(13,none),(14,none),(15,none),(16,none),(17,none),(18,none),(19,none),(20,none),(21,none),(22,none),(23,none),(24,some []),(25,some [])]⟩]else if i=2008 then [.ord ⟨[(0,none),(1,none),(2,none),(3,none),(4,none),(5,none),(6,none),(7,none),(8,none),(9,none),(10,none),(11,none),(12,none),(13,none),(14,none),(15,some []),(16,some [])]⟩]else if i=2005 then [.chn]else if i=2006 then [.chn]else []) zat Tryz.func103 rfl Tryz.call103 Tryz.ntmps103 (Nat.le_of_ble_eq_true rfl) Tryz.results103 (fun hok=> ?_);have a0:=zwB l 0 hb (by omega);have a1:=zwB l 1 hb (by omega);have a3:=zwB l 3 hb (by omega);have r1:=reg_c sR l [sR,sS,sT,c0] w hb (by simp) (by simp) 2 (by omega);have r2:=reg_c sS l [sS,sR,c0] w hb (by simp) (by simp) 4 (by omega);have g6:=zhF l [sR,sS] w hb (by simp) (by simp) 6 (by omega);have g8:=zhF l [sR,sS,sT,c0] w hb (by simp) (by simp) 8 (by omega);have g10:=ziL l [sR,sS] w hb (by simp) (by simp) 10 (by omega);have c12:=zgU l [sR,sS,sT,c0] w hb (by simp) (by simp) 12 (by omega);have g14:=ziL l [sR,sS,sT,c0] w hb (by simp) (by simp) 14 (by omega);have g16:=zhF l [sR,sS,sT,c0] w hb (by simp) (by simp) 16 (by omega);have c18:=zgU l [sR,sS] w hb (by simp) (by simp) 18 (by omega);have c20:=zgU l [sR,sS,sT,c0] w hb (by simp) (by simp) 20 (by omega);have u3:=rule_c (zaR l 3) (zgo hb _);rw[znJ,zlx,zlz,zpv,zox,memI,zdC];obtain⟨x1,h1⟩: ∃e,zk1 sR l 2 [sR,sS,sT,c0] w=e:=⟨_,rfl⟩;obtain⟨x2,h2⟩: ∃e,zk1 sS l 4 [sS,sR,c0] w=e:=⟨_,rfl⟩;obtain⟨x3,h3⟩: ∃e,gen l [sR,sS] w 1 6=e:=⟨_,rfl⟩;obtain⟨x4,h4⟩: ∃e,gen l [sR,sS,sT,c0] w 1 8=e:=⟨_,rfl⟩;obtain⟨x5,h5⟩: ∃e,gen l [sR,sS] w 0 10=e:=⟨_,rfl⟩;obtain⟨x6,h6⟩: ∃e,cond l [sR,sS,sT,c0] w 1 12=e:=⟨_,rfl⟩;obtain⟨x7,h7⟩: ∃e,gen l [sR,sS,sT,c0] w 0 14=e:=⟨_,rfl⟩;obtain⟨x8,h8⟩: ∃e,gen l [sR,sS,sT,c0] w 1 16=e:=⟨_,rfl⟩;obtain⟨x9,h9⟩: ∃e,cond l [sR,sS] w 1 18=e:=⟨_,rfl⟩;obtain⟨x10,h10⟩: ∃e,cond l [sR,sS,sT,c0] w 1 20=e:=⟨_,rfl⟩;obtain⟨x11,h11⟩: ∃e,zd0 (zaR l 3)=e:=⟨_,rfl⟩;rw[h1]at r1 ⊢;rw[h2]at r2 ⊢;rw[h3]at g6 ⊢;rw[h4]at g8 ⊢;rw[h5]at g10 ⊢;rw[h6]at c12 ⊢;rw[h7]at g14 ⊢;rw[h8]at g16 ⊢;rw[h9]at c18 ⊢;rw[h10]at c20 ⊢;rw[h11]at u3 ⊢;have hm:(zaR l 0:Int).tmod 2=((zaR l 0 % 2:Nat):Int):=(Int.ofNat_tmod _ 2).symm;have hm1:(zaR l 1:Int).tmod 2=((zaR l 1 % 2:Nat):Int):=(Int.ofNat_tmod _ 2).symm;clear h1 h2 h3 h4 h5 h6 h7 h8 h9 h10 h11;simp only[ZE,↓reduceIte,pE,pL,pA,pS,pM,pD,eAt,zhW,zj9,List.map_cons,List.map_nil,sR,sS,sT,st,emp]at a0 a1 a3 r1 r2 g6 g8 g10 c12 g14 g16 c18 c20 u3;by_cases hodd:zaR l 0 % 2=1
 ·have ho:(((zaR l 0 % 2:Nat):Int)==1)=true:=by simp[hodd]
  rw[if_pos hodd,if_pos hodd];simp(maxSteps:=4000000) only[ZE,↓reduceIte,pE,pL,pA,pS,pM,pD,zN,qT,qG,qL,qH,qN,qB,qE,qO,qA,qM,zj9];refine⟨by kernel_rfl,by kernel_rfl,zaz.i r1 ?_⟩;simp only[ZE,↓reduceIte,pE,pL,pA,pS,pM,pD,zN,qT,qG,qL,qH,qN,qB,qE,qO,qA,qM];refine zaz.i r2 ?_;simp only[ZE,↓reduceIte,pE,pL,pA,pS,pM,pD,zN,qT,qG,qL,qH,qN,qB,qE,qO,qA,qM];refine zaz.i g6 ?_;simp only[ZE,↓reduceIte,pE,pL,pA,pS,pM,pD,zN,qT,qG,qL,qH,qN,qB,qE,qO,qA,qM];refine EFn.p ?_;simp only[ZE,↓reduceIte,pE,pL,pA,pS,pM,pD,zN,qT,qG,qL,qH,qN,qB,qE,qO,qA,qM];refine zar.i g8 ?_;simp only[ZE,↓reduceIte,pE,pL,pA,pS,pM,pD,zN,qT,qG,qL,qH,qN,qB,qE,qO,qA,qM];refine EFn.p ?_;simp only[ZE,↓reduceIte,pE,pL,pA,pS,pM,pD,zN,qT,qG,qL,qH,qN,qB,qE,qO,qA,qM];refine zar.i a0 ?_;simp only[ZE,↓reduceIte,pE,pL,pA,pS,pM,pD,zN,qT,qG,qL,qH,qN,qB,qE,qO,qA,qM,hm,ho,Int.reduceEq,not_false_eq_true];refine EFn.p ?_;simp only[ZE,↓reduceIte,pE,pL,pA,pS,pM,pD,zN,qT,qG,qL,qH,qN,qB,qE,qO,qA,qM];refine zar.i g10 ?_;simp only[ZE,↓reduceIte,pE,pL,pA,pS,pM,pD,zN,qT,qG,qL,qH,qN,qB,qE,qO,qA,qM,Int.reduceEq,not_false_eq_true];refine⟨by kernel_rfl,zaz.i a1 ?_⟩;by_cases hd:zaR l 1 % 2=0
  ·have hm2:(zaR l 1:Int).tmod 2=0:=by rw[hm1,hd]; rfl
   have hw1:IntKind.u64.wrap 0=0:=by decide
   have hw2:IntKind.i64.wrap (2*2 ^ (min 0 IntKind.i64.bits))=2:=by decide
   rw[if_pos hd];simp only[ZE,↓reduceIte,pE,pL,pA,pS,pM,pD,zN,qT,qG,qL,qH,qN,qB,qE,qO,qA,qM,Int.reduceEq,not_false_eq_true,hm2,hw1,hw2];refine zaz.i c12 ?_;simp only[ZE,↓reduceIte,pE,pL,pA,pS,pM,pD,zN,qT,qG,qL,qH,qN,qB,qE,qO,qA,qM];refine zaz.i g14 ?_;simp only[ZE,↓reduceIte,pE,pL,pA,pS,pM,pD,zN,qT,qG,qL,qH,qN,qB,qE,qO,qA,qM];refine zaz.i g16 ?_;simp only[ZE,↓reduceIte,pE,pL,pA,pS,pM,pD,zN,qT,qG,qL,qH,qN,qB,qE,qO,qA,qM];refine zaz.i a3 ?_;simp only[ZE,↓reduceIte,pE,pL,pA,pS,pM,pD,zN,qT,qG,qL,qH,qN,qB,qE,qO,qA,qM];refine zaz.i u3 ?_;simp only[ZE,↓reduceIte,pE,pL,pA,pS,pM,pD,zN,qT,qG,qL,qH,qN,qB,qE,qO,qA,qM];refine⟨by kernel_rfl,zaz.i c18 ?_⟩;simp only[ZE,↓reduceIte,pE,pL,pA,pS,pM,pD,zN,qT,qG,qL,qH,qN,qB,qE,qO,qA,qM];refine zaz.i c20 ?_;simp only[ZE,↓reduceIte,pE,pL,pA,pS,pM,pD,zN,qT,qG,qL,qH,qN,qB,qE,qO,qA,qM,zdf,zde,zh3,zaU,zbQ,sM,sT,st,zcW,zbm,zgN,zgO,zbl,zbj,emp,Int.reduceEq,not_false_eq_true]
  ·have hm2:(zaR l 1:Int).tmod 2=1:=by rw[hm1]; omega
   have hw1:IntKind.u64.wrap 1=1:=by decide
   have hw2:IntKind.i64.wrap (2*2 ^ (min 1 IntKind.i64.bits))=4:=by decide
   rw[if_neg hd];simp only[ZE,↓reduceIte,pE,pL,pA,pS,pM,pD,zN,qT,qG,qL,qH,qN,qB,qE,qO,qA,qM,Int.reduceEq,not_false_eq_true,hm2,hw1,hw2];refine zaz.i c12 ?_;simp only[ZE,↓reduceIte,pE,pL,pA,pS,pM,pD,zN,qT,qG,qL,qH,qN,qB,qE,qO,qA,qM];refine zaz.i g14 ?_;simp only[ZE,↓reduceIte,pE,pL,pA,pS,pM,pD,zN,qT,qG,qL,qH,qN,qB,qE,qO,qA,qM];refine zaz.i g16 ?_;simp only[ZE,↓reduceIte,pE,pL,pA,pS,pM,pD,zN,qT,qG,qL,qH,qN,qB,qE,qO,qA,qM];refine zaz.i a3 ?_;simp only[ZE,↓reduceIte,pE,pL,pA,pS,pM,pD,zN,qT,qG,qL,qH,qN,qB,qE,qO,qA,qM];refine zaz.i u3 ?_;simp only[ZE,↓reduceIte,pE,pL,pA,pS,pM,pD,zN,qT,qG,qL,qH,qN,qB,qE,qO,qA,qM];refine⟨by kernel_rfl,zaz.i c18 ?_⟩;simp only[ZE,↓reduceIte,pE,pL,pA,pS,pM,pD,zN,qT,qG,qL,qH,qN,qB,qE,qO,qA,qM];refine zaz.i c20 ?_;simp only[ZE,↓reduceIte,pE,pL,pA,pS,pM,pD,zN,qT,qG,qL,qH,qN,qB,qE,qO,qA,qM,zdf,zde,zh3,zaU,zbQ,sM,sT,st,zcW,zbm,zgN,zgO,zbl,zbj,emp,Int.reduceEq,not_false_eq_true]
 ·have ho:(((zaR l 0 % 2:Nat):Int)==1)=false:=by
   have:zaR l 0 % 2=0:=by omega
   rw[this]; rfl
  rw[if_neg hodd,if_neg hodd];simp(maxSteps:=4000000) only[ZE,↓reduceIte,pE,pL,pA,pS,pM,pD,zN,qT,qG,qL,qH,qN,qB,qE,qO,qA,qM,zj9];refine⟨by kernel_rfl,by kernel_rfl,zaz.i r1 ?_⟩;simp only[ZE,↓reduceIte,pE,pL,pA,pS,pM,pD,zN,qT,qG,qL,qH,qN,qB,qE,qO,qA,qM];refine zaz.i r2 ?_;simp only[ZE,↓reduceIte,pE,pL,pA,pS,pM,pD,zN,qT,qG,qL,qH,qN,qB,qE,qO,qA,qM];refine zaz.i g6 ?_;simp only[ZE,↓reduceIte,pE,pL,pA,pS,pM,pD,zN,qT,qG,qL,qH,qN,qB,qE,qO,qA,qM];refine EFn.p ?_;simp only[ZE,↓reduceIte,pE,pL,pA,pS,pM,pD,zN,qT,qG,qL,qH,qN,qB,qE,qO,qA,qM];refine zar.i g8 ?_;simp only[ZE,↓reduceIte,pE,pL,pA,pS,pM,pD,zN,qT,qG,qL,qH,qN,qB,qE,qO,qA,qM];refine EFn.p ?_;simp only[ZE,↓reduceIte,pE,pL,pA,pS,pM,pD,zN,qT,qG,qL,qH,qN,qB,qE,qO,qA,qM];refine zar.i a0 ?_;simp only[ZE,↓reduceIte,pE,pL,pA,pS,pM,pD,zN,qT,qG,qL,qH,qN,qB,qE,qO,qA,qM,hm,ho,Int.reduceEq,not_false_eq_true];refine⟨by kernel_rfl,zaz.i c18 ?_⟩;simp only[ZE,↓reduceIte,pE,pL,pA,pS,pM,pD,zN,qT,qG,qL,qH,qN,qB,qE,qO,qA,qM];refine zaz.i c20 ?_;simp only[ZE,↓reduceIte,pE,pL,pA,pS,pM,pD,zN,qT,qG,qL,qH,qN,qB,qE,qO,qA,qM,zdf,zde,zh3,zaU,zbQ,sM,sT,st,zcW,zbm,zgN,zgO,zbl,zbj,emp,Int.reduceEq,not_false_eq_true]
set_option maxHeartbeats 20000000
structure Raw where
 kind:Nat
 w:Nat
 l:List Nat
def Raw.ok(x:Raw):Prop:=x.kind<256/\x.w<256/\ ∀b∈x.l,b<256
def zew(x:Raw):D:=.agg [eU8 x.kind,eU8 x.w,zau x.l]
def za4(x:Raw):Num:=⟨(1+x.w % 4:Nat),emp⟩
def rawC(x:Raw):Num:=⟨(1+x.w / 4 % 4:Nat),emp⟩
def zgk(name:Str)(w d:Num):Item:={zaU with kind:=⟨3,rfl⟩,name:=name,width:=w,depth:=d}
def inA(x:Raw):Item:=zeS ⟨1,rfl⟩ sA (za4 x)
def zow(x:Raw):Item:=zeS ⟨2,rfl⟩ sB (za4 x)
def chC(x:Raw):Item:=zgk sC (za4 x) (rawC x)
def chD(x:Raw):Item:=zgk sD (za4 x) ⟨2,emp⟩
def zd2(x:Raw):List Item:=
 if x.kind % 4=0 then [inA x,zow x]++znJ x.l (za4 x) sA sB
 else if x.kind % 4=1 then [inA x,zow x,chC x,zc2 sU (za4 x) sA sC,zc2 sVV (za4 x) sC sB]
 else if x.kind % 4=2 then [inA x,zow x,chC x,zc2 sU (za4 x) sA sC]++znJ x.l (za4 x) sC sB
 else [zow x,chC x,chD x,zc2 sU (za4 x) sC sD]++znJ x.l (za4 x) sD sC++[zh3 sB (cond x.l [sR,sS] (za4 x) 1 22) (gen x.l [sR,sS] (za4 x) 1 24)]
def zl9(x:Raw):Module:=⟨zma,zdk (1+x.w / 16),[],zd2 x⟩
def zdG(x:Raw):List Module:=if x.kind % 4=0 then [zl9 x]else if x.kind / 4 % 2=1 then [zl9 x,zbf x.l]else [zbf x.l,zl9 x]
theorem zly(l:List Nat)(w:Num)(c0 c1:Str):(znJ l w c0 c1).length <=10:=by
 simp only[znJ,zlx,zlz,zpv,List.length_append,List.length_cons,List.length_nil];split <;> simp
theorem zci(l:List Item):zcY 35 (l.map zaK):=by
 intro y hy;obtain⟨q,_,rfl⟩:=List.mem_map.1 hy;simp[zaK,zgL,zb6,zib,eI,eS,ziG,zel,D.one,Value.oneCell']
theorem u8_id{n:Nat}(h:n<256):IntKind.u8.wrap (n:Int)=(n:Int):=by
 have hb:IntKind.u8.bits=8:=rfl;have hs:IntKind.u8.signed=false:=rfl;simp only[IntKind.wrap,hb,hs,Bool.false_and,Bool.false_eq_true,if_false];omega
theorem zh2(x:Raw)(hx:x.ok):FnP Tryz.prog 50 [zew x] (.d (.agg [zax (zdG x)])) []:=by
 obtain⟨hk,hw,hb⟩:=hx;refine FnP.of_eC (own:=[]) (fun i=>if i=11 then [.frz 80]else if i=16 then [.frz 112]else if i=9 then [.frz 53]else if i=2004 then [.flt ⟨[(0,none),(1,none),(2,none),(3,none),(6,some [2,3]),(7,some [])]⟩ ⟨[4,5],[(6,[4]),(7,[5])]⟩]else if i=2005 then [.flt ⟨[(0,none),(1,none),(2,none),(3,none),(4,none),(5,none),(8,some [3,4,5]),(9,some [])]⟩ ⟨[6,7],[(8,[6]),(9,[7])]⟩]else if i=2011 then [.ord ⟨[(0,none),(1,none),(3,none),(4,none),(5,none),(6,none),(7,none),(2,some [3,4,5,6,7]),(8,some []),(9,some []),(10,some [])]⟩]else if i=2014 then [.ord ⟨[(0,none),(1,none),(2,none),(3,none),(4,none),(5,none),(6,none),(7,none),(8,none),(9,none),(10,some []),(11,some [])]⟩]else if i=2016 then [.ord ⟨[(0,none),(1,none),(2,none),(3,none),(4,none),(5,none),(7,none),(8,none),(9,none),(10,none),(11,none),(6,some [7,8,9,10,11]),(12,some []),(13,some []),(14,some [])]⟩]else if i=2008 then [.ord ⟨[(0,none),(1,none),(2,none),(3,none),(4,none),(5,none),(7,none),(8,none),(9,none),(10,none),(11,none),(6,some [7,8,9,10,11]),(12,some []),(13,some []),(14,some [])]⟩]else if i=2009 then [.ord ⟨[(0,none),(1,none),(2,none),(3,none),(4,none),(5,none),(6,none),(7,none),(8,none),(9,none),(10,none),(11,none),(12,none),(13,some []),(14,some []),(15,some [])]⟩]else if i=2018 then [.ord ⟨[(0,none),(1,none),(2,none),(3,none),(4,none),(5,none),(6,some [])]⟩]else if i=2019 then [.ord ⟨[(0,none),(1,none),(2,none),(3,none),(4,none),(5,none),(6,some [])]⟩]else if i=2012 then [.chn]else if i=2007 then [.chn]else []) zat Tryz.func50 rfl Tryz.call50 Tryz.ntmps50 (Nat.le_of_ble_eq_true rfl) Tryz.results50 (fun hok=> ?_);have w4:(x.w:Int).tmod 4=((x.w % 4:Nat):Int):=(Int.ofNat_tmod _ 4).symm;have w44:(x.w:Int).tdiv 4=((x.w / 4:Nat):Int):=(Int.ofNat_tdiv _ 4).symm;have w444:((x.w / 4:Nat):Int).tmod 4=((x.w / 4 % 4:Nat):Int):=(Int.ofNat_tmod _ 4).symm;have w16:(x.w:Int).tdiv 16=((x.w / 16:Nat):Int):=(Int.ofNat_tdiv _ 16).symm;have k4:(x.kind:Int).tmod 4=((x.kind % 4:Nat):Int):=(Int.ofNat_tmod _ 4).symm;have kd:(x.kind:Int).tdiv 4=((x.kind / 4:Nat):Int):=(Int.ofNat_tdiv _ 4).symm;have kd2:((x.kind / 4:Nat):Int).tmod 2=((x.kind / 4 % 2:Nat):Int):=(Int.ofNat_tmod _ 2).symm;have v1:IntKind.i64.wrap ((x.w % 4:Nat):Int)=((x.w % 4:Nat):Int):=zaQ (by omega) (by omega);have v2:IntKind.i64.wrap (1+((x.w % 4:Nat):Int))=((1+x.w % 4:Nat):Int):=zaQ (by omega) (by omega);have v3:IntKind.i64.wrap ((x.w / 4 % 4:Nat):Int)=((x.w / 4 % 4:Nat):Int):=zaQ (by omega) (by omega);have v4:IntKind.i64.wrap (1+((x.w / 4 % 4:Nat):Int))=((1+x.w / 4 % 4:Nat):Int):=zaQ (by omega) (by omega);have v5:IntKind.i64.wrap ((x.w / 16:Nat):Int)=((x.w / 16:Nat):Int):=zaQ (by omega) (by omega);have v6:IntKind.i64.wrap (1+((x.w / 16:Nat):Int))=((1+x.w / 16:Nat):Int):=zaQ (by omega) (by omega);have u1:IntKind.u8.wrap ((x.w / 4:Nat):Int)=((x.w / 4:Nat):Int):=u8_id (by omega);have u2:IntKind.u8.wrap ((x.w / 16:Nat):Int)=((x.w / 16:Nat):Int):=u8_id (by omega);have u3:IntKind.u8.wrap ((x.kind / 4:Nat):Int)=((x.kind / 4:Nat):Int):=u8_id (by omega);have kc:=zsg (1+x.w / 16);simp only[ZE,↓reduceIte,pE,pL,pA,pS,pM,pD]at kc;have o0:=own_c x.l (za4 x) sA sB hb;have o2:=own_c x.l (za4 x) sC sB hb;have o3:=own_c x.l (za4 x) sD sC hb;have l0:=zly x.l (za4 x) sA sB;have l2:=zly x.l (za4 x) sC sB;have l3:=zly x.l (za4 x) sD sC;obtain⟨O0,q0⟩: ∃L,znJ x.l (za4 x) sA sB=L:=⟨_,rfl⟩;obtain⟨O2,q2⟩: ∃L,znJ x.l (za4 x) sC sB=L:=⟨_,rfl⟩;obtain⟨O3,q3⟩: ∃L,znJ x.l (za4 x) sD sC=L:=⟨_,rfl⟩;rw[q0]at o0 l0;rw[q2]at o2 l2;rw[q3]at o3 l3;have i1:=zsZ sU (za4 x) sA sC;have i2:=zsZ sVV (za4 x) sC sB;have i3:=zsZ sU (za4 x) sC sD;have c22:=zgU x.l [sR,sS] (za4 x) hb (by simp) (by simp) 22 (by omega);have g24:=zhF x.l [sR,sS] (za4 x) hb (by simp) (by simp) 24 (by omega);have cm:=cell_c x.l hb;obtain⟨y22,h22⟩: ∃e,cond x.l [sR,sS] (za4 x) 1 22=e:=⟨_,rfl⟩;obtain⟨y24,h24⟩: ∃e,gen x.l [sR,sS] (za4 x) 1 24=e:=⟨_,rfl⟩;rw[h22]at c22;rw[h24]at g24;simp only[ZE,↓reduceIte,pE,pL,pA,pS,pM,pD,zj9,eAt,zhW,List.map_cons,List.map_nil,za4,sA,sB,sC,sD,sU,sVV,sR,sS,st,emp]at o0 o2 o3 i1 i2 i3 c22 g24 cm;by_cases b0:x.kind % 4=0
 ·have h0:(((x.kind % 4:Nat):Int)==0)=true:=by simp[b0]
  rw[zdG,if_pos b0,zl9,zd2,if_pos b0,q0];simp(maxSteps:=4000000) only[ZE,↓reduceIte,pE,pL,pA,pS,pM,pD,zew,zN,qT,qG,qL,qH,qN,qB,qE,qO,qA,qM,Int.reduceEq,not_false_eq_true,w4,w44,w444,w16,v1,v2,v3,v4,v5,v6,u1,u2,u3,k4,kd,kd2];refine EFn.p ?_;simp only[ZE,↓reduceIte,pE,pL,pA,pS,pM,pD,zN,qT,qG,qL,qH,qN,qB,qE,qO,qA,qM];refine zar.i kc ?_;simp only[ZE,↓reduceIte,pE,pL,pA,pS,pM,pD,zN,qT,qG,qL,qH,qN,qB,qE,qO,qA,qM,Int.reduceEq,not_false_eq_true,w4,w44,w444,w16,v1,v2,v3,v4,v5,v6,u1,u2,u3,k4,kd,kd2,h0];refine⟨by kernel_rfl,by kernel_rfl,by kernel_rfl,zaz.i o0 ?_⟩;simp only[ZE,↓reduceIte,pE,pL,pA,pS,pM,pD,zN,qT,qG,qL,qH,qN,qB,qE,qO,qA,qM];refine⟨zaz.i o0 ?_,?_⟩
  ·simp only[ZE,↓reduceIte,pE,pL,pA,pS,pM,pD]
  have ro:=zci O0;have e2:2+O0.length=O0.length+1+1:=by omega
  simp only[ZE,↓reduceIte,pE,pL,pA,pS,pM,pD,zN,qT,qG,qL,qH,qN,qB,qE,qO,qA,qM,e2,zl9,za4,rawC,inA,zow,chC,chD,zeS,zgk,zc2,zh3,zaU,zbQ,sA,sB,sC,sD,sU,sVV,sX,sY,zg7,zma,st,zcW,zbm,zgN,zgO,zbl,zbj,emp,Int.reduceEq,not_false_eq_true];exact⟨ro,by omega,by omega⟩
 have h0:(((x.kind % 4:Nat):Int)==0)=false:=by simp; omega
 by_cases b9:x.kind / 4 % 2=1
 ·have h9:(((x.kind / 4 % 2:Nat):Int)==1)=true:=by simp[b9]
  rw[zdG,if_neg b0,if_pos b9,zl9,zd2,if_neg b0];by_cases b1:x.kind % 4=1
  ·have h1:(((x.kind % 4:Nat):Int)==1)=true:=by simp[b1]
   rw[if_pos b1];simp(maxSteps:=4000000) only[ZE,↓reduceIte,pE,pL,pA,pS,pM,pD,zew,zN,qT,qG,qL,qH,qN,qB,qE,qO,qA,qM,Int.reduceEq,not_false_eq_true,w4,w44,w444,w16,v1,v2,v3,v4,v5,v6,u1,u2,u3,k4,kd,kd2];refine EFn.p ?_;simp only[ZE,↓reduceIte,pE,pL,pA,pS,pM,pD,zN,qT,qG,qL,qH,qN,qB,qE,qO,qA,qM];refine zar.i kc ?_;simp only[ZE,↓reduceIte,pE,pL,pA,pS,pM,pD,zN,qT,qG,qL,qH,qN,qB,qE,qO,qA,qM,Int.reduceEq,not_false_eq_true,w4,w44,w444,w16,v1,v2,v3,v4,v5,v6,u1,u2,u3,k4,kd,kd2,h0,h1,h9];refine⟨by kernel_rfl,by kernel_rfl,by kernel_rfl,zaz.i i1 ?_⟩;simp only[ZE,↓reduceIte,pE,pL,pA,pS,pM,pD,zN,qT,qG,qL,qH,qN,qB,qE,qO,qA,qM];refine zaz.i i2 ?_;simp only[ZE,↓reduceIte,pE,pL,pA,pS,pM,pD,zN,qT,qG,qL,qH,qN,qB,qE,qO,qA,qM,w4,w44,w444,w16,v1,v2,v3,v4,v5,v6,u1,u2,u3,k4,kd,kd2,h9,Int.reduceEq,not_false_eq_true];refine⟨by kernel_rfl,zaz.i cm ?_⟩;simp only[ZE,↓reduceIte,pE,pL,pA,pS,pM,pD,zN,qT,qG,qL,qH,qN,qB,qE,qO,qA,qM,zl9,za4,rawC,inA,zow,chC,chD,zeS,zgk,zc2,zh3,zaU,zbQ,sA,sB,sC,sD,sU,sVV,sX,sY,zg7,zma,st,zcW,zbm,zgN,zgO,zbl,zbj,emp,Int.reduceEq,not_false_eq_true]
  have h1:(((x.kind % 4:Nat):Int)==1)=false:=by simp; omega
  rw[if_neg b1];by_cases b2:x.kind % 4=2
  ·have h2:(((x.kind % 4:Nat):Int)==2)=true:=by simp[b2]
   rw[if_pos b2,q2];simp(maxSteps:=4000000) only[ZE,↓reduceIte,pE,pL,pA,pS,pM,pD,zew,zN,qT,qG,qL,qH,qN,qB,qE,qO,qA,qM,Int.reduceEq,not_false_eq_true,w4,w44,w444,w16,v1,v2,v3,v4,v5,v6,u1,u2,u3,k4,kd,kd2];refine EFn.p ?_;simp only[ZE,↓reduceIte,pE,pL,pA,pS,pM,pD,zN,qT,qG,qL,qH,qN,qB,qE,qO,qA,qM];refine zar.i kc ?_;simp only[ZE,↓reduceIte,pE,pL,pA,pS,pM,pD,zN,qT,qG,qL,qH,qN,qB,qE,qO,qA,qM,Int.reduceEq,not_false_eq_true,w4,w44,w444,w16,v1,v2,v3,v4,v5,v6,u1,u2,u3,k4,kd,kd2,h0,h1,h2,h9];refine⟨by kernel_rfl,by kernel_rfl,by kernel_rfl,zaz.i i1 ?_⟩;simp only[ZE,↓reduceIte,pE,pL,pA,pS,pM,pD,zN,qT,qG,qL,qH,qN,qB,qE,qO,qA,qM];refine zaz.i o2 ?_;simp only[ZE,↓reduceIte,pE,pL,pA,pS,pM,pD,zN,qT,qG,qL,qH,qN,qB,qE,qO,qA,qM];refine⟨zaz.i o2 ?_,?_⟩
   ·simp only[ZE,↓reduceIte,pE,pL,pA,pS,pM,pD]
   have ro:=zci O2;have e4:4+O2.length=O2.length+1+1+1+1:=by omega
   try simp only[ZE,↓reduceIte,pE,pL,pA,pS,pM,pD,zN,qT,qG,qL,qH,qN,qB,qE,qO,qA,qM,w4,w44,w444,w16,v1,v2,v3,v4,v5,v6,u1,u2,u3,k4,kd,kd2,h9,e4,Int.reduceEq,not_false_eq_true]
   refine⟨⟨ro,by omega,by omega⟩,by kernel_rfl,zaz.i cm ?_⟩;simp only[ZE,↓reduceIte,pE,pL,pA,pS,pM,pD,zN,qT,qG,qL,qH,qN,qB,qE,qO,qA,qM,zl9,za4,rawC,inA,zow,chC,chD,zeS,zgk,zc2,zh3,zaU,zbQ,sA,sB,sC,sD,sU,sVV,sX,sY,zg7,zma,st,zcW,zbm,zgN,zgO,zbl,zbj,emp,Int.reduceEq,not_false_eq_true]
  have h2:(((x.kind % 4:Nat):Int)==2)=false:=by simp; omega
  rw[if_neg b2,q3,h22,h24];simp(maxSteps:=4000000) only[ZE,↓reduceIte,pE,pL,pA,pS,pM,pD,zew,zN,qT,qG,qL,qH,qN,qB,qE,qO,qA,qM,Int.reduceEq,not_false_eq_true,w4,w44,w444,w16,v1,v2,v3,v4,v5,v6,u1,u2,u3,k4,kd,kd2];refine EFn.p ?_;simp only[ZE,↓reduceIte,pE,pL,pA,pS,pM,pD,zN,qT,qG,qL,qH,qN,qB,qE,qO,qA,qM];refine zar.i kc ?_;simp only[ZE,↓reduceIte,pE,pL,pA,pS,pM,pD,zN,qT,qG,qL,qH,qN,qB,qE,qO,qA,qM,Int.reduceEq,not_false_eq_true,w4,w44,w444,w16,v1,v2,v3,v4,v5,v6,u1,u2,u3,k4,kd,kd2,h0,h1,h2,h9];refine⟨by kernel_rfl,by kernel_rfl,by kernel_rfl,zaz.i i3 ?_⟩;simp only[ZE,↓reduceIte,pE,pL,pA,pS,pM,pD,zN,qT,qG,qL,qH,qN,qB,qE,qO,qA,qM];refine zaz.i o3 ?_;simp only[ZE,↓reduceIte,pE,pL,pA,pS,pM,pD,zN,qT,qG,qL,qH,qN,qB,qE,qO,qA,qM];refine⟨zaz.i o3 ?_,?_⟩
  ·simp only[ZE,↓reduceIte,pE,pL,pA,pS,pM,pD]
  have ro:=zci O3;have e4:4+O3.length=O3.length+1+1+1+1:=by omega
  try simp only[ZE,↓reduceIte,pE,pL,pA,pS,pM,pD,zN,qT,qG,qL,qH,qN,qB,qE,qO,qA,qM,e4]
  refine⟨⟨ro,by omega,by omega⟩,by kernel_rfl,zaz.i c22 ?_⟩;simp only[ZE,↓reduceIte,pE,pL,pA,pS,pM,pD,zN,qT,qG,qL,qH,qN,qB,qE,qO,qA,qM,e4];refine zaz.i g24 ?_;simp only[ZE,↓reduceIte,pE,pL,pA,pS,pM,pD,zN,qT,qG,qL,qH,qN,qB,qE,qO,qA,qM,w4,w44,w444,w16,v1,v2,v3,v4,v5,v6,u1,u2,u3,k4,kd,kd2,h9,e4,Int.reduceEq,not_false_eq_true,List.length_append];refine⟨⟨by omega,by omega⟩,by kernel_rfl,zaz.i cm ?_⟩;simp only[ZE,↓reduceIte,pE,pL,pA,pS,pM,pD,zN,qT,qG,qL,qH,qN,qB,qE,qO,qA,qM,List.map_append,zl9,za4,rawC,inA,zow,chC,chD,zeS,zgk,zc2,zh3,zaU,zbQ,sA,sB,sC,sD,sU,sVV,sX,sY,zg7,zma,st,zcW,zbm,zgN,zgO,zbl,zbj,emp,Int.reduceEq,not_false_eq_true]
 ·have h9:(((x.kind / 4 % 2:Nat):Int)==1)=false:=by simp; omega
  rw[zdG,if_neg b0,if_neg b9,zl9,zd2,if_neg b0];by_cases b1:x.kind % 4=1
  ·have h1:(((x.kind % 4:Nat):Int)==1)=true:=by simp[b1]
   rw[if_pos b1];simp(maxSteps:=4000000) only[ZE,↓reduceIte,pE,pL,pA,pS,pM,pD,zew,zN,qT,qG,qL,qH,qN,qB,qE,qO,qA,qM,Int.reduceEq,not_false_eq_true,w4,w44,w444,w16,v1,v2,v3,v4,v5,v6,u1,u2,u3,k4,kd,kd2];refine EFn.p ?_;simp only[ZE,↓reduceIte,pE,pL,pA,pS,pM,pD,zN,qT,qG,qL,qH,qN,qB,qE,qO,qA,qM];refine zar.i kc ?_;simp only[ZE,↓reduceIte,pE,pL,pA,pS,pM,pD,zN,qT,qG,qL,qH,qN,qB,qE,qO,qA,qM,Int.reduceEq,not_false_eq_true,w4,w44,w444,w16,v1,v2,v3,v4,v5,v6,u1,u2,u3,k4,kd,kd2,h0,h1,h9];refine⟨by kernel_rfl,by kernel_rfl,by kernel_rfl,zaz.i i1 ?_⟩;simp only[ZE,↓reduceIte,pE,pL,pA,pS,pM,pD,zN,qT,qG,qL,qH,qN,qB,qE,qO,qA,qM];refine zaz.i i2 ?_;simp only[ZE,↓reduceIte,pE,pL,pA,pS,pM,pD,zN,qT,qG,qL,qH,qN,qB,qE,qO,qA,qM,w4,w44,w444,w16,v1,v2,v3,v4,v5,v6,u1,u2,u3,k4,kd,kd2,h9,Int.reduceEq,not_false_eq_true];refine⟨by kernel_rfl,zaz.i cm ?_⟩;simp only[ZE,↓reduceIte,pE,pL,pA,pS,pM,pD,zN,qT,qG,qL,qH,qN,qB,qE,qO,qA,qM,zl9,za4,rawC,inA,zow,chC,chD,zeS,zgk,zc2,zh3,zaU,zbQ,sA,sB,sC,sD,sU,sVV,sX,sY,zg7,zma,st,zcW,zbm,zgN,zgO,zbl,zbj,emp,Int.reduceEq,not_false_eq_true]
  have h1:(((x.kind % 4:Nat):Int)==1)=false:=by simp; omega
  rw[if_neg b1];by_cases b2:x.kind % 4=2
  ·have h2:(((x.kind % 4:Nat):Int)==2)=true:=by simp[b2]
   rw[if_pos b2,q2];simp(maxSteps:=4000000) only[ZE,↓reduceIte,pE,pL,pA,pS,pM,pD,zew,zN,qT,qG,qL,qH,qN,qB,qE,qO,qA,qM,Int.reduceEq,not_false_eq_true,w4,w44,w444,w16,v1,v2,v3,v4,v5,v6,u1,u2,u3,k4,kd,kd2];refine EFn.p ?_;simp only[ZE,↓reduceIte,pE,pL,pA,pS,pM,pD,zN,qT,qG,qL,qH,qN,qB,qE,qO,qA,qM];refine zar.i kc ?_;simp only[ZE,↓reduceIte,pE,pL,pA,pS,pM,pD,zN,qT,qG,qL,qH,qN,qB,qE,qO,qA,qM,Int.reduceEq,not_false_eq_true,w4,w44,w444,w16,v1,v2,v3,v4,v5,v6,u1,u2,u3,k4,kd,kd2,h0,h1,h2,h9];refine⟨by kernel_rfl,by kernel_rfl,by kernel_rfl,zaz.i i1 ?_⟩;simp only[ZE,↓reduceIte,pE,pL,pA,pS,pM,pD,zN,qT,qG,qL,qH,qN,qB,qE,qO,qA,qM];refine zaz.i o2 ?_;simp only[ZE,↓reduceIte,pE,pL,pA,pS,pM,pD,zN,qT,qG,qL,qH,qN,qB,qE,qO,qA,qM];refine⟨zaz.i o2 ?_,?_⟩
   ·simp only[ZE,↓reduceIte,pE,pL,pA,pS,pM,pD]
   have ro:=zci O2;have e4:4+O2.length=O2.length+1+1+1+1:=by omega
   try simp only[ZE,↓reduceIte,pE,pL,pA,pS,pM,pD,zN,qT,qG,qL,qH,qN,qB,qE,qO,qA,qM,w4,w44,w444,w16,v1,v2,v3,v4,v5,v6,u1,u2,u3,k4,kd,kd2,h9,e4,Int.reduceEq,not_false_eq_true]
   refine⟨⟨ro,by omega,by omega⟩,by kernel_rfl,zaz.i cm ?_⟩;simp only[ZE,↓reduceIte,pE,pL,pA,pS,pM,pD,zN,qT,qG,qL,qH,qN,qB,qE,qO,qA,qM,zl9,za4,rawC,inA,zow,chC,chD,zeS,zgk,zc2,zh3,zaU,zbQ,sA,sB,sC,sD,sU,sVV,sX,sY,zg7,zma,st,zcW,zbm,zgN,zgO,zbl,zbj,emp,Int.reduceEq,not_false_eq_true]
  have h2:(((x.kind % 4:Nat):Int)==2)=false:=by simp; omega
  rw[if_neg b2,q3,h22,h24];simp(maxSteps:=4000000) only[ZE,↓reduceIte,pE,pL,pA,pS,pM,pD,zew,zN,qT,qG,qL,qH,qN,qB,qE,qO,qA,qM,Int.reduceEq,not_false_eq_true,w4,w44,w444,w16,v1,v2,v3,v4,v5,v6,u1,u2,u3,k4,kd,kd2];refine EFn.p ?_;simp only[ZE,↓reduceIte,pE,pL,pA,pS,pM,pD,zN,qT,qG,qL,qH,qN,qB,qE,qO,qA,qM];refine zar.i kc ?_;simp only[ZE,↓reduceIte,pE,pL,pA,pS,pM,pD,zN,qT,qG,qL,qH,qN,qB,qE,qO,qA,qM,Int.reduceEq,not_false_eq_true,w4,w44,w444,w16,v1,v2,v3,v4,v5,v6,u1,u2,u3,k4,kd,kd2,h0,h1,h2,h9];refine⟨by kernel_rfl,by kernel_rfl,by kernel_rfl,zaz.i i3 ?_⟩;simp only[ZE,↓reduceIte,pE,pL,pA,pS,pM,pD,zN,qT,qG,qL,qH,qN,qB,qE,qO,qA,qM];refine zaz.i o3 ?_;simp only[ZE,↓reduceIte,pE,pL,pA,pS,pM,pD,zN,qT,qG,qL,qH,qN,qB,qE,qO,qA,qM];refine⟨zaz.i o3 ?_,?_⟩
  ·simp only[ZE,↓reduceIte,pE,pL,pA,pS,pM,pD]
  have ro:=zci O3;have e4:4+O3.length=O3.length+1+1+1+1:=by omega
  try simp only[ZE,↓reduceIte,pE,pL,pA,pS,pM,pD,zN,qT,qG,qL,qH,qN,qB,qE,qO,qA,qM,e4]
  refine⟨⟨ro,by omega,by omega⟩,by kernel_rfl,zaz.i c22 ?_⟩;simp only[ZE,↓reduceIte,pE,pL,pA,pS,pM,pD,zN,qT,qG,qL,qH,qN,qB,qE,qO,qA,qM,e4];refine zaz.i g24 ?_;simp only[ZE,↓reduceIte,pE,pL,pA,pS,pM,pD,zN,qT,qG,qL,qH,qN,qB,qE,qO,qA,qM,w4,w44,w444,w16,v1,v2,v3,v4,v5,v6,u1,u2,u3,k4,kd,kd2,h9,e4,Int.reduceEq,not_false_eq_true,List.length_append];refine⟨⟨by omega,by omega⟩,by kernel_rfl,zaz.i cm ?_⟩;simp only[ZE,↓reduceIte,pE,pL,pA,pS,pM,pD,zN,qT,qG,qL,qH,qN,qB,qE,qO,qA,qM,List.map_append,zl9,za4,rawC,inA,zow,chC,chD,zeS,zgk,zc2,zh3,zaU,zbQ,sA,sB,sC,sD,sU,sVV,sX,sY,zg7,zma,st,zcW,zbm,zgN,zgO,zbl,zbj,emp,Int.reduceEq,not_false_eq_true]
def zk7(mem:Bool)(l:List Nat)(w:Num)(c0:Str):Expr:=match mem with
 | true=>.mk 5 emp zbj zbj [gen l [sR,sS,sT,c0] w 1 8,.mk 15 sM zbj zbj [gen l [sR,sS] w 0 10]]
 | false=>gen l [sR,sS,sT,c0] w 1 8
def zqD(mem:Bool)(l:List Nat)(w:Num)(c0 c1:Str)(z:List Item):List Item:=match mem with
 | true=>zk1 sR l 2 [sR,sS,sT,c0] w::zk1 sS l 4 [sS,sR,c0] w::zdf sT w (gen l [sR,sS] w 1 6)::memI l w c0::zde c0 (cond l [sR,sS] w 1 18)::zh3 c1 (cond l [sR,sS,sT,c0] w 1 20) (zk7 true l w c0)::z
 | false=>zk1 sR l 2 [sR,sS,sT,c0] w::zk1 sS l 4 [sS,sR,c0] w::zdf sT w (gen l [sR,sS] w 1 6)::zde c0 (cond l [sR,sS] w 1 18)::zh3 c1 (cond l [sR,sS,sT,c0] w 1 20) (zk7 false l w c0)::z
theorem ztL(l:List Nat)(w:Num)(c0 c1:Str)(z:List Item): ∃mem,znJ l w c0 c1++z=zqD mem l w c0 c1 z:=by
 unfold znJ zlx zpv zlz zox;by_cases h:zaR l 0 % 2=1
 ·refine⟨true,?_⟩;simp only[if_pos h]; rfl
 ·refine⟨false,?_⟩;simp only[if_neg h]; rfl
def zjl(mem:Bool)(x:Raw):Module:=⟨zma,zdk (1+x.w / 16),[],inA x::zow x::zqD mem x.l (za4 x) sA sB []⟩
def two(o:Bool)(a b:Module):List Module:=match o with
 | true=>[a,b]
 | false=>[b,a]
def zmb(x:Raw):Module:=⟨zma,zdk (1+x.w / 16),[],[inA x,zow x,chC x,zc2 sU (za4 x) sA sC,zc2 sVV (za4 x) sC sB]⟩
def zjJ(mem:Bool)(x:Raw):Module:=⟨zma,zdk (1+x.w / 16),[],inA x::zow x::chC x::zc2 sU (za4 x) sA sC::zqD mem x.l (za4 x) sC sB []⟩
def zjK(mem:Bool)(x:Raw):Module:=⟨zma,zdk (1+x.w / 16),[],zow x::chC x::chD x::zc2 sU (za4 x) sC sD::zqD mem x.l (za4 x) sD sC [zh3 sB (cond x.l [sR,sS] (za4 x) 1 22) (gen x.l [sR,sS] (za4 x) 1 24)]⟩
/-- What a generated file looks like. -/
theorem zc5(x:Raw):(∃mem,zdG x=[zjl mem x])\/(∃o,zdG x=two o (zmb x) (zbf x.l))\/(∃o mem,zdG x=two o (zjJ mem x) (zbf x.l))\/(∃o mem,zdG x=two o (zjK mem x) (zbf x.l)):=by
 by_cases b0:x.kind % 4=0
 ·left;obtain⟨mem,h⟩:=ztL x.l (za4 x) sA sB [];rw[List.append_nil]at h;refine⟨mem,?_⟩;rw[zdG,if_pos b0,zl9,zd2,if_pos b0,h]; rfl
 right;have ho: ∀t:Module,zl9 x=t-> ∃o,zdG x=two o t (zbf x.l):=by
  intro t ht;by_cases b9:x.kind / 4 % 2=1
  ·exact⟨true,by rw[zdG,if_neg b0,if_pos b9,ht]; rfl⟩
  ·exact⟨false,by rw[zdG,if_neg b0,if_neg b9,ht]; rfl⟩
 by_cases b1:x.kind % 4=1
 ·left;exact ho _ (by rw[zl9,zd2,if_neg b0,if_pos b1]; rfl)
 right;by_cases b2:x.kind % 4=2
 ·left;obtain⟨mem,h⟩:=ztL x.l (za4 x) sC sB [];rw[List.append_nil]at h;obtain⟨o,h'⟩:=ho (zjJ mem x) (by rw[zl9,zd2,if_neg b0,if_neg b1,if_pos b2,h]; rfl);exact⟨o,mem,h'⟩
 ·right;obtain⟨mem,h⟩:=ztL x.l (za4 x) sD sC [zh3 sB (cond x.l [sR,sS] (za4 x) 1 22) (gen x.l [sR,sS] (za4 x) 1 24)];obtain⟨o,h'⟩:=ho (zjK mem x) (by rw[zl9,zd2,if_neg b0,if_neg b1,if_neg b2,List.append_assoc,h]; rfl);exact⟨o,mem,h'⟩
def sz(e:Expr):Nat:=e.all.length
theorem zeB: ∀r:List Expr,(Expr.allL r).length =(r.map sz).sum
 | []=>rfl
 | e::r=>by rw[Expr.allL,List.length_append,List.map_cons,List.sum_cons,zeB r]; rfl
theorem zec(o:Int)(n:Str)(k w:Num)(r:List Expr):sz (.mk o n k w r)=(r.map sz).sum +1:=by
 unfold sz;rw[Expr.all_eq,List.length_cons,Expr.args,zeB]; rfl
theorem zfh(l:List Nat)(ns:List Str)(w:Num)(a:Nat):sz (zmH l ns w a)=1:=by
 unfold zmH; split <;> rw[zec] <;> rfl
theorem zmk(x y:Expr)(k:Nat):sz (zfa x y k)<=sz x+sz y+1:=by
 unfold zfa;split
 ·rw[zec]; simp
 split
 ·rw[zec]; simp
 split
 ·rw[zec]; simp
 ·rw[zec]; simp
theorem zty(x y c:Expr)(k:Nat):sz (ziW x y c k)<=sz x+sz y+sz c+1:=by
 unfold ziW;split
 ·rw[zec]; simp only[List.map_cons,List.map_nil,List.sum_cons,List.sum_nil]; omega
 split
 ·rw[zec]; simp only[List.map_cons,List.map_nil,List.sum_cons,List.sum_nil]; omega
 split
 ·rw[zec]; simp only[List.map_cons,List.map_nil,List.sum_cons,List.sum_nil]; omega
 split
 ·rw[zec]; simp only[List.map_cons,List.map_nil,List.sum_cons,List.sum_nil]; omega
 split
 ·rw[zec]; simp only[List.map_cons,List.map_nil,List.sum_cons,List.sum_nil]; omega
 split
 ·rw[zec]; simp only[List.map_cons,List.map_nil,List.sum_cons,List.sum_nil]; omega
 ·rw[zec]; simp only[List.map_cons,List.map_nil,List.sum_cons,List.sum_nil]; omega
theorem zwW(l:List Nat)(ns:List Str)(w:Num)(a:Nat):sz (gen l ns w 0 a)<=20:=by
 have:=zfh l ns w a;show sz (zmH l ns w a)<=20;omega
theorem zld(l:List Nat)(ns:List Str)(w:Num)(a:Nat):sz (gen l ns w 1 a)<=6:=by
 unfold gen;split
 ·have:=zfh l ns w a; omega
 ·have h1:=zfh l ns w (3*a+1);have h2:=zfh l ns w (3*a+2);have h3:=zfh l ns w (3*a+4);have h4:=zfh l ns w (3*a+5);have h5:=zmk (gen l ns w 0 (3*a+4)) (zmH l ns w (3*a+5)) (zaR l (3*a+3));have h6:=zty (gen l ns w 0 (3*a+1)) (gen l ns w 0 (3*a+2)) (zfa (gen l ns w 0 (3*a+4)) (zmH l ns w (3*a+5)) (zaR l (3*a+3))) (zaR l a);simp only[gen]at h5 h6 ⊢;omega
theorem zdq(l:List Nat)(ns:List Str)(w:Num)(a:Nat):sz (gen l ns w 1 a)<=20:=Nat.le_trans (zld l ns w a) (by decide)
theorem zcz(l:List Nat)(ns:List Str)(w:Num)(a:Nat):sz (cond l ns w 1 a)<=20:=by
 have h1:=zld l ns w (a+1);have h2:=zfh l ns w (a+2);have h3:=zmk (gen l ns w 1 (a+1)) (zmH l ns w (a+2)) (zaR l a);unfold cond;omega
theorem zoa(mem:Bool)(l:List Nat)(w:Num)(c0:Str):sz (zk7 mem l w c0)<=20:=by
 cases mem
 ·exact zdq _ _ _ _
 ·have h1:=zld l [sR,sS,sT,c0] w 8;have h2:=zfh l [sR,sS] w 10;show sz (.mk 5 emp zbj zbj [gen l [sR,sS,sT,c0] w 1 8,.mk 15 sM zbj zbj [gen l [sR,sS] w 0 10]])<=20;rw[zec,List.map_cons,List.map_cons,List.map_nil,zec,List.map_cons,List.map_nil];simp only[List.sum_cons,List.sum_nil,gen]at*;omega
theorem zh9:sz zbQ<=20:=by unfold zbQ; rw[zec]; simp
theorem zuv{l:List Expr}: ∀ {x:Expr},x∈l->sz x<=(l.map sz).sum :=by
 induction l with
 | nil=>intro x h; simp at h
 | cons y r ih=>
  intro x h;rw[List.map_cons,List.sum_cons];rcases List.mem_cons.1 h with rfl | h
  ·omega
  ·have:=ih h; omega
def zte(n:Nat):I64:=if h:n<=9223372036854775807 then⟨(n:Int),zdi h⟩else⟨0,rfl⟩
def zfp(k1 k3:Nat)(s:Str)(x:Item):Item:=
 if k1 % 12=4 then{x with name:=s}else if k1 % 12=5 then{x with kind:=zte (k3 % 11)}else if k1 % 12=6 then{x with width:=⟨x.width.n,s⟩}
 else if k1 % 12=7 then{x with a:=.mk 14 s zbj zbj []}else if k1 % 12=8 then{x with a:=.mk (k3 % 20:Nat) s zbj zbj [x.a]}
 else if k1 % 12=9 then{x with rule:=⟨(k3 % 6:Nat)-1,s,0⟩}else if k1 % 12=10 then{x with of:=s}else if k1 % 12=11 then{x with ports:=x.ports++[⟨sX,s⟩]}else x
def zeb(k1 k3:Nat)(s:Str)(l:List Item)(n:Nat)(x:Item):List Item:=(if k1 % 12<4 then l++[x]else l).set n (zfp k1 k3 s x)
def zkS(k1 k2 k3:Nat)(s:Str)(m:Module):Module:=
 if m.items.length=0\/k1 % 16<4 then
  (if k1 % 4=0 then{m with name:=s}else if k1 % 4=1 then{m with clock:=s}else if k1 % 4=2 then{m with params:=m.params++[s]}else{m with items:=m.items++[{zaU with kind:=zte (k2 % 11),name:=s}]})
 else{m with items:=zeb k1 k3 s m.items (k2 % m.items.length) (m.items.getD (k2 % m.items.length) zaU)}
set_option maxHeartbeats 4000000
set_option maxHeartbeats 8000000
def zkN(x:Item):Nat:=(Expr.allL [x.a,x.b,x.c]).length +x.ports.length+x.args.length
def zkO(m:Module):Nat:=m.items.length+m.params.length+(m.items.map zkN).sum
def zqM(l:List Module):Nat:=(l.map zkO).sum
/-- An item that is not large. -/
structure Tid (y:Item):Prop where
 a:sz y.a<=20
 b:sz y.b<=20
 c:sz y.c<=20
 args:y.args.length<=2
 ports:y.ports.length<=2
/-- A module that is not too large. -/
structure Fine (n:Nat) (m:Module):Prop where
 items:m.items.length<=n
 params:m.params.length<=n
 sizes: ∀x∈m.items,sz x.a+sz x.b+sz x.c<=n
 args: ∀x∈m.items,x.args.length<=n
 ports: ∀x∈m.items,x.ports.length<=n
theorem Fine.mono{n k:Nat}(h:n<=k){m:Module}(f:Fine n m):Fine k m:=
 ⟨Nat.le_trans f.items h,Nat.le_trans f.params h,fun x hx=>Nat.le_trans (f.sizes x hx) h,fun x hx=>Nat.le_trans (f.args x hx) h,fun x hx=>Nat.le_trans (f.ports x hx) h⟩
theorem zoy(x:Raw): ∀m∈zdG x,m.params.length<=60:=by
 have:((zdG x).all fun m=>decide (m.params.length<=60))=true:=by
  rcases zc5 x with⟨mem,h⟩ | ⟨q,h⟩ | ⟨q,mem,h⟩ | ⟨q,mem,h⟩
  ·rw[h]; cases mem <;> kernel_rfl
  ·rw[h]; cases q <;> kernel_rfl
  ·rw[h]; cases q <;> cases mem <;> kernel_rfl
  ·rw[h]; cases q <;> cases mem <;> kernel_rfl
 intro m hm;rw[List.all_eq_true]at this;simpa using this m hm
theorem zio(k:I64)(n:Str)(w:Num):Tid (zeS k n w):={a:=zh9,b:=zh9,c:=zh9,args:=by simp[zeS,zaU],ports:=by simp[zeS,zaU]}
theorem zrW(n:Str)(w d:Num):Tid (zgk n w d):={a:=zh9,b:=zh9,c:=zh9,args:=by simp[zgk,zaU],ports:=by simp[zgk,zaU]}
theorem zuy(n:Str)(r:List Nat)(a:Nat)(ns:List Str)(w:Num):Tid (zk1 n r a ns w):={a:=zdq _ _ _ _,b:=zh9,c:=zh9,args:=by simp[zk1,zaU],ports:=by simp[zk1,zaU]}
theorem zxQ(n:Str)(w:Num)(e:Expr)(he:sz e<=20):Tid (zdf n w e):={a:=he,b:=zh9,c:=zh9,args:=by simp[zdf,zaU],ports:=by simp[zdf,zaU]}
theorem zxP(n:Str)(e:Expr)(he:sz e<=20):Tid (zde n e):={a:=he,b:=zh9,c:=zh9,args:=by simp[zde,zaU],ports:=by simp[zde,zaU]}
theorem zxO(n:Str)(e z:Expr)(he:sz e<=20)(hz:sz z<=20):Tid (zh3 n e z):={a:=he,b:=hz,c:=zh9,args:=by simp[zh3,zaU],ports:=by simp[zh3,zaU]}
theorem tid_mem(r:List Nat)(w:Num)(c0:Str):Tid (memI r w c0):={a:=zcz _ _ _ _,b:=zwW _ _ _ _,c:=zdq _ _ _ _,args:=by simp[memI,zaU],ports:=by simp[memI,zaU]}
theorem zrX(n:Str)(w:Num)(c0 c1:Str):Tid (zc2 n w c0 c1):={a:=zh9,b:=zh9,c:=zh9,args:=by simp[zc2],ports:=by simp[zc2]}
theorem tid_own(mem:Bool)(r:List Nat)(w:Num)(c0 c1:Str)(z:List Item)(hz: ∀y∈z,Tid y): ∀y∈zqD mem r w c0 c1 z,Tid y:=by
 cases mem
 ·simp only[zqD,List.forall_mem_cons];exact⟨zuy _ _ _ _ _,zuy _ _ _ _ _,zxQ _ _ _ (zdq _ _ _ _),zxP _ _ (zcz _ _ _ _),zxO _ _ _ (zcz _ _ _ _) (zoa _ _ _ _),hz⟩
 ·simp only[zqD,List.forall_mem_cons];exact⟨zuy _ _ _ _ _,zuy _ _ _ _ _,zxQ _ _ _ (zdq _ _ _ _),tid_mem _ _ _,zxP _ _ (zcz _ _ _ _),zxO _ _ _ (zcz _ _ _ _) (zoa _ _ _ _),hz⟩
theorem zxN(b:List Nat): ∀y∈(zbf b).items,Tid y:=by
 simp only[zbf,List.forall_mem_cons];exact⟨zio _ _ _,zio _ _ _,zuy _ _ _ _ _,zxQ _ _ _ (zdq _ _ _ _),zxP _ _ (zcz _ _ _ _),zxO _ _ _ (zcz _ _ _ _) (zdq _ _ _ _),by simp⟩
theorem tid_made(x:Raw):(zdG x).length <=2/\0<(zdG x).length /\ ∀m∈zdG x,(0<m.items.length/\m.items.length<=20)/\ ∀y∈m.items,Tid y:=by
 have nil: ∀y∈([]:List Item),Tid y:=by simp
 have hm: ∀(o:Bool) (a b:Module) (P:Module->Prop),P a->P b-> ∀m∈two o a b,P m:=by
  intro o a b P ha hb m hm;cases o
  ·simp only[two,List.mem_cons,List.not_mem_nil,or_false]at hm;rcases hm with rfl | rfl
   ·exact hb
   ·exact ha
  ·simp only[two,List.mem_cons,List.not_mem_nil,or_false]at hm;rcases hm with rfl | rfl
   ·exact ha
   ·exact hb
 have hl: ∀(o:Bool) (a b:Module),(two o a b).length <=2/\0<(two o a b).length :=by
  intro o a b;cases o <;> exact⟨by simp[two],by simp[two]⟩
 rcases zc5 x with⟨mem,h⟩ | ⟨o,h⟩ | ⟨o,mem,h⟩ | ⟨o,mem,h⟩
 ·rw[h];refine⟨by simp,by simp,fun m hm=> ?_⟩;simp only[List.mem_cons,List.not_mem_nil,or_false]at hm;subst hm;refine⟨by cases mem <;> exact⟨by simp[zjl],by simp[zjl,zqD]⟩,?_⟩;simp only[zjl,List.forall_mem_cons];exact⟨zio _ _ _,zio _ _ _,tid_own _ _ _ _ _ _ nil⟩
 ·rw[h];refine⟨(hl _ _ _).1,(hl _ _ _).2,hm _ _ _ _ ⟨⟨by simp[zmb],by simp[zmb]⟩,?_⟩ ⟨⟨by simp[zbf],by simp[zbf]⟩,zxN _⟩⟩;simp only[zmb,List.forall_mem_cons];exact⟨zio _ _ _,zio _ _ _,zrW _ _ _,zrX _ _ _ _,zrX _ _ _ _,nil⟩
 ·rw[h];refine⟨(hl _ _ _).1,(hl _ _ _).2,hm _ _ _ _ ⟨by cases mem <;> exact⟨by simp[zjJ],by simp[zjJ,zqD]⟩,?_⟩ ⟨⟨by simp[zbf],by simp[zbf]⟩,zxN _⟩⟩;simp only[zjJ,List.forall_mem_cons];exact⟨zio _ _ _,zio _ _ _,zrW _ _ _,zrX _ _ _ _,tid_own _ _ _ _ _ _ nil⟩
 ·rw[h];refine⟨(hl _ _ _).1,(hl _ _ _).2,hm _ _ _ _ ⟨by cases mem <;> exact⟨by simp[zjK],by simp[zjK,zqD]⟩,?_⟩ ⟨⟨by simp[zbf],by simp[zbf]⟩,zxN _⟩⟩;simp only[zjK,List.forall_mem_cons];exact⟨zio _ _ _,zrW _ _ _,zrW _ _ _,zrX _ _ _ _,tid_own _ _ _ _ _ _ (by simp only[List.forall_mem_cons]; exact⟨zxO _ _ _ (zcz _ _ _ _) (zdq _ _ _ _),nil⟩)⟩
theorem zmu(x:Raw): ∀m∈zdG x,Fine 60 m:=fun m hm=>by
 obtain⟨_,_,h⟩:=tid_made x;obtain⟨⟨_,h1⟩,h2⟩:=h m hm;refine⟨by omega,zoy x m hm,fun y hy=> ?_,fun y hy=> ?_,fun y hy=> ?_⟩
 ·have:=(h2 y hy).a; have:=(h2 y hy).b; have:=(h2 y hy).c; omega
 ·have:=(h2 y hy).args; omega
 ·have:=(h2 y hy).ports; omega
def zjW(ready:List Bool->Nat->Bool)(d:List Bool)(i:Nat):List Bool:=d.set i (d.getD i false||ready d i)
def znV(n:Nat)(ready:List Bool->Nat->Bool)(d:List Bool):List Bool:=(List.range n).foldl (zjW ready) d
def zcq(n:Nat)(ready:List Bool->Nat->Bool)(k:Nat):List Bool:=(List.range k).foldl (fun d _=>znV n ready d) (List.replicate n false)
def zh4(l:List Module)(d:List Bool)(acc:Bool)(x:Item):Bool:=
 if x.kind.1=9 then(acc&&decide (zgM (fun m:Module=>decide (m.name=x.of)) l>=0)&&d.getD (zgM (fun m:Module=>decide (m.name=x.of)) l).toNat false)else acc
def zgE(l:List Module)(d:List Bool)(i:Nat):Bool:=(l.getD i zdP).items.foldl (zh4 l d) true
def znA(l:List Module):Bool:=(zcq l.length (zgE l) l.length).all id
def zpy(d:List Bool)(e:Expr)(acc:Bool)(p:Item×Nat):Bool:=if (e.op==14&&p.1.kind.1==5&&decide (p.1.name=e.name))=true then(acc&&d.getD p.2 false)else acc
def zm1(m:Module)(d:List Bool)(acc:Bool)(e:Expr):Bool:=m.items.zipIdx.foldl (zpy d e) acc
def zgg(m:Module)(d:List Bool)(i:Nat):Bool:=if (m.items.getD i zaU).kind.1 =5 then(Expr.allL [(m.items.getD i zaU).a]).foldl (zm1 m d) true else true
def zjt(m:Module):Bool:=(zcq m.items.length (zgg m) (m.items.length+1)).all id
def eBs(d:List Bool):List (List D):=d.map fun b=>[D.lit (.bool b)]
theorem addP_ne(F:List Problem)(p:Problem):zuN F p≠[]:=by
 unfold zuN;split
 ·rename_i h;intro h';rw[h']at h;exact absurd h (by simp)
 ·simp
theorem zcc(F:List Problem)(b:Bool)(p:Problem):zaO F b p=[]↔F=[]/\b=false:=by
 unfold zaO;cases b
 ·simp
 ·simp[addP_ne]
theorem foldl_nil{α β:Type}(f:List β->α->List β)(g:α->Bool)(h: ∀F x,f F x=[]↔F=[]/\g x=false): ∀(l:List α) (F:List β),l.foldl f F=[]↔F=[]/\ ∀x∈l,g x=false
 | [],F=>by simp
 | a::r,F=>by
  rw[List.foldl_cons,foldl_nil f g h r,h];simp[and_assoc]
def zcK(l:List Module)(m:Module)(x:Item):Bool:=
 if x.kind.1=5 then has (zbN m [x.a]) x.name
 else if x.kind.1=1 then(zeZ l m x.name).1 !=1||(zeZ l m x.name).2 !=0
 else if x.kind.1=2 then(zeZ l m x.name).1 !=0||(zeZ l m x.name).2 !=1
 else if x.kind.1=3 then(zeZ l m x.name).1 !=1||(zeZ l m x.name).2 !=1
 else if x.kind.1=9 then zeR l x
 else if x.kind.1=7 then zic m x else false
def zaV(l:List Module)(m:Module)(k:Nat)(x:Item):Bool:=(zaW x.kind.1&&zaT m k x)||zay x||zdp l m x||zcK l m x
theorem zs6(l:List Module)(i k:Nat)(m:Module)(x:Item)(F:List Problem):zgm l i k m x F=[]↔F=[]/\zcK l m x=false:=by
 unfold zgm zcK;split
 ·exact zcc _ _ _
 split
 ·exact zcc _ _ _
 split
 ·exact zcc _ _ _
 split
 ·exact zcc _ _ _
 split
 ·exact zcc _ _ _
 split
 ·exact zcc _ _ _
 ·simp
theorem zs3(i k:Nat)(m:Module)(x:Item)(F:List Problem):zex i k m x F=[]↔F=[]/\(zaW x.kind.1&&zaT m k x)=false:=by
 unfold zex;cases zaW x.kind.1
 ·simp
 ·simp[zcc]
theorem zs5(l:List Module)(i k:Nat)(m:Module)(x:Item)(F:List Problem):zdo l i k m x F=[]↔F=[]/\zaV l m k x=false:=by
 rw[zdo,zs6,zcc,zcc,zs3,zaV];simp only[Bool.or_eq_false_iff,and_assoc]
def zcx(l:List Module)(i:Nat)(m:Module):Bool:=zbX l i m||loops l i
def zdH(l:List Module)(p:Module×Nat):Bool:=zcx l p.2 p.1||p.1.items.zipIdx.any fun q=>zaV l p.1 q.2 q.1
theorem zxl(l:List Module)(F:List Problem)(p:Module×Nat):zlY l F p=[]↔F=[]/\zdH l p=false:=by
 rw[zlY,zeo,List.take_length,foldl_nil _ (fun q:Item×Nat=>zaV l p.1 q.2 q.1) (fun F x=>zs5 l p.2 x.2 p.1 x.1 F),zhG,zcc,zcc,zdH,zcx];simp only[Bool.or_eq_false_iff,and_assoc,List.any_eq_false,Bool.not_eq_true]
theorem zir(l:List Module):zbi l= !(l.zipIdx.any (zdH l)):=by
 rw[zbi,Bool.eq_iff_iff];simp only[beq_iff_eq,List.length_eq_zero_iff,Bool.not_eq_true',List.any_eq_false,Bool.not_eq_true,zcV];rw[foldl_nil _ (zdH l) (zxl l)];simp
/-- A zbi file,part by part. -/
theorem zhU(l:List Module):zbi l=true↔ ∀(i:Nat) (h:i<l.length),zcx l i l[i]=false/\ ∀(k:Nat) (hk:k<l[i].items.length),zaV l l[i] k l[i].items[k]=false:=by
 rw[zir];simp only[Bool.not_eq_true',List.any_eq_false,Bool.not_eq_true,zdH,Bool.or_eq_false_iff];constructor
 ·intro h i hi;have h1:=h (l[i],i) (by rw[List.mem_zipIdx_iff_getElem?]; simp[hi]);refine⟨h1.1,fun k hk=>h1.2 (l[i].items[k],k) ?_⟩;rw[List.mem_zipIdx_iff_getElem?];simp[hk]
 ·intro h p hp;rw[List.mem_zipIdx_iff_getElem?]at hp;obtain⟨hi,hp⟩:=List.getElem?_eq_some_iff.1 hp;have h1:=h p.2 hi;rw[hp]at h1;refine⟨h1.1,fun q hq=> ?_⟩;rw[List.mem_zipIdx_iff_getElem?]at hq;obtain⟨hk,hq⟩:=List.getElem?_eq_some_iff.1 hq;have h2:=h1.2 q.2 hk;rw[hq]at h2;exact h2
theorem zfD{α:Type}(a b:List (Str×α))(s:Str):get (a++b) s=(get a s).or (get b s):=by
 unfold get;rw[List.find?_append];cases a.find? _ <;> simp
theorem zlh{α:Type}(s n:Str)(x:α):get [(s,x)] n=if s=n then some x else none:=by
 unfold get;by_cases h:s=n
 ·rw[if_pos h,List.find?_cons_of_pos (by simpa using h)]; rfl
 ·rw[if_neg h,List.find?_cons_of_neg (by simpa using h)]; rfl
/-- Does an item declare a name? -/
def decl(n:Str)(x:Item):Bool:=zaW x.kind.1&&decide (x.name=n)
theorem ziK(n:Str): ∀(l:List Item) (acc:List (Str×Item)),get (l.foldl zcf acc) n=(get acc n).or (l.find? (decl n))
 | [],acc=>by simp
 | x::r,acc=>by
  rw[List.foldl_cons,ziK n r];unfold zcf;by_cases hn:x.name=n
  ·by_cases hd:zaW x.kind.1=true
   ·have hp:decl n x=true:=(by simp[decl,hd,hn]);rw[List.find?_cons_of_pos hp,hd,hn];cases hg:get acc n with
    | none=>simp[zfD,hg,zlh,hn]
    | some y=>simp[hg]
   ·have hp: ¬decl n x=true:=(by simp[decl,hd]);rw[List.find?_cons_of_neg hp];simp[hd]
  ·have hp: ¬decl n x=true:=by simp[decl,hn]
   rw[List.find?_cons_of_neg hp];split
   ·rw[zfD,zlh,if_neg hn]; simp
   ·rfl
theorem zke(n:Str)(l:List Item):get (zbG l) n=l.find? (decl n):=by
 rw[zbG,ziK]; rfl
theorem zj5(m:Module)(n:Str):zce m n=(m.items.find? (decl n)).getD zaU:=by rw[zce,zke]
theorem zmD(n:Str): ∀(l:List Module) (j:Nat) (acc:List (Str×Int)),get ((l.zipIdx j).foldl zc4 acc) n=(get acc n).or ((l.findIdx? (fun m=>decide (m.name=n))).map fun(i:Nat)=>((i+j:Nat):Int))
 | [],j,acc=>by simp
 | m::r,j,acc=>by
  rw[List.zipIdx_cons,List.foldl_cons,zmD n r];have e: ∀i:Nat,((i+(j+1):Nat):Int)=((i+1+j:Nat):Int):=fun i=>by omega
  by_cases hn:m.name=n
  ·have hf:(m::r).findIdx? (fun m=>decide (m.name=n))=some 0:=by rw[List.findIdx?_cons]; simp[hn]
   rw[hf];unfold zc4;cases hg:get acc n with
   | none=>rw[if_pos (by simp[hn,hg]),zfD,hg,hn,zlh]; simp
   | some y=>rw[if_neg (by simp[hn,hg]),hg]; simp
  ·have hf:(m::r).findIdx? (fun m=>decide (m.name=n))=(r.findIdx? (fun m=>decide (m.name=n))).map (· +1):=by rw[List.findIdx?_cons]; simp[hn]
   rw[hf];have hs:get (zc4 acc (m,j)) n=get acc n:=by
    unfold zc4;split
    ·rw[zfD,zlh,if_neg hn]; simp
    ·rfl
   rw[hs,Option.map_map];simp only[Function.comp_def,e]
theorem zhl(l:List Module)(n:Str):zcA l n=(l.findIdx? (fun m=>decide (m.name=n))).map fun(i:Nat)=>(i:Int):=by
 rw[zcA,znH,zmD]; simp[get]
/-! ### Ends as sums -/
def c1B(l:List Module)(x:Item)(n:Str)(b:Bind):Bool:=decide (b.chan=n)&&zbS l x b.port==1
def c2B(l:List Module)(x:Item)(n:Str)(b:Bind):Bool:=decide (b.chan=n)&&zbS l x b.port==2
def c1(l:List Module)(n:Str)(x:Item):Nat:=(if (x.kind.1==7&&decide (x.name=n))=true then 1 else 0)+x.ports.countP (c1B l x n)
def c2(l:List Module)(n:Str)(x:Item):Nat:=(if (x.kind.1==8&&decide (x.name=n))=true then 1 else 0)+x.ports.countP (c2B l x n)
def wt(x:Item):Nat:=1+x.ports.length
def c1s(l:List Module)(n:Str)(r:List Item):Nat:=(r.map (c1 l n)).sum
def c2s(l:List Module)(n:Str)(r:List Item):Nat:=(r.map (c2 l n)).sum
def wts(r:List Item):Nat:=(r.map wt).sum
def zeT(l:List Module)(i:Nat)(m:Module)(r:List Item):List Module:=l.set i {m with items:=r}
theorem zif{l:List Module}(hv:zbi l=true){i:Nat}(hi:i<l.length){A B:List Item}{x:Item}(hm:l[i].items =A++x::B):zaV l l[i] A.length x=false:=by
 have h:=((zhU l).1 hv i hi).2 A.length (by rw[hm]; simp);have e:l[i].items[A.length]'(by rw[hm]; simp)=x:=by
  simp only[hm]; simp
 rwa [e]at h
theorem zen{l:List Module}{m:Module}{k:Nat}{x:Item}(h:zaV l m k x=false):(zaW x.kind.1=true->zaT m k x=false)/\zay x=false/\zdp l m x=false/\zcK l m x=false:=by
 unfold zaV at h;simp only[Bool.or_eq_false_iff]at h;obtain⟨⟨⟨h1,h2⟩,h3⟩,h4⟩:=h;exact⟨fun hd=>by rwa [hd,Bool.true_and]at h1,h2,h3,h4⟩
theorem uniq{l:List Module}(hv:zbi l=true){i:Nat}(hi:i<l.length){A B:List Item}{y:Item}(hm:l[i].items =A++y::B){n:Str}(hy:decl n y=true): ∀x∈A++B,decl n x=false:=by
 intro x hx;unfold decl at hy;simp only[Bool.and_eq_true,decide_eq_true_eq]at hy;rw[<-Bool.not_eq_true];intro hd;unfold decl at hd;simp only[Bool.and_eq_true,decide_eq_true_eq]at hd;rcases List.mem_append.1 hx with hx | hx
 ·have h:=(zen (zif hv hi hm)).1 hy.1;unfold zaT at h;simp only[Bool.or_eq_false_iff]at h;have h1:=h.1.1;rw[hm,List.take_left,List.any_eq_false]at h1;apply h1 x hx;simp[zb8,hd,hy]
 ·obtain⟨B1,B2,rfl⟩:=List.append_of_mem hx;have hm':l[i].items =(A++y::B1)++x::B2:=by rw[hm]; simp
  have h:=(zen (zif hv hi hm')).1 hd.1;unfold zaT at h;simp only[Bool.or_eq_false_iff]at h;have h1:=h.1.1;rw[hm',List.take_left,List.any_eq_false]at h1;apply h1 y (by simp);simp[zb8,hd,hy]
/-! ### Ports of modules -/
def pk(m:Module)(n:Str):Int:=if has [1,2] (zbu m n)=true then zbu m n else 0
theorem zkw(l:List Module)(x:Item)(n:Str):zbS l x n=match zcA l x.of with | some i=>if (x.kind.1==9)=true then pk (l.getD i.toNat zdP) n else 0 | none=>0:=by
 unfold zbS pk;cases zcA l x.of with
 | none=>rfl
 | some i=>
  simp only[zdP];by_cases h9:(x.kind.1==9)=true
  ·simp only[h9,Bool.true_and,if_true];rfl
  ·simp[h9]
/-- The module of a name. -/
def zc9(l:List Module)(n:Str):Option Module:=(zcA l n).map fun i=>l.getD i.toNat zdP
def zpw(x:Item)(a:Option Module)(n:Str):Int:=match a with | some a=>if (x.kind.1==9)=true then pk a n else 0 | none=>0
theorem zkv(l:List Module)(x:Item)(n:Str):zbS l x n=zpw x (zc9 l x.of) n:=by
 rw[zkw]; unfold zc9 zpw; cases zcA l x.of <;> rfl
def ztu(x:Item)(a:Option Module):Bool:=match a with
 | none=>false
 | some a=>(zch a).any (fun p=>(get (znP x.ports) p.1).getD 0 !=1)||((x.args.length:Int) !=(a.params.length:Int)||(x.ports.length:Int) !=((zch a).length :Int))
theorem zkn(l:List Module)(x:Item):zeR l x=ztu x (zc9 l x.of):=by
 unfold zeR ztu zc9; cases zcA l x.of <;> rfl
/-- Two modules with the same ports and as many parameters. -/
structure PE (a b:Module):Prop where
 pk: ∀n,pk a n=pk b n
 ports:zch a=zch b
 params:a.params.length=b.params.length
def OR:Option Module->Option Module->Prop
 | none,none=>True
 | some a,some b=>PE a b
 | _,_=>False
theorem zkd(l:List Module)(n:Str):(zcA l n).isSome =(zc9 l n).isSome :=by unfold zc9; cases zcA l n <;> rfl
/-- Files in which names lead to modules with the same ports. -/
def zpU(l l':List Module):Prop:= ∀n,OR (zc9 l n) (zc9 l' n)
def kcode(x:Item):Int:=if x.kind.1=5 then 4 else if x.kind.1=1 then 5 else if x.kind.1=2 then 5 else if x.kind.1=3 then 5 else if x.kind.1=9 then 6 else 8
/-- An item's code of a problem. -/
def zmF(l:List Module)(m:Module)(k:Nat)(x:Item)(c:Int):Prop:=
 ((zaW x.kind.1&&zaT m k x)=true/\c=1)\/(zay x=true/\c=2)\/(zdp l m x=true/\c=3)\/(zcK l m x=true/\c=kcode x)
/-- A head's code of a problem. -/
def zem(l:List Module)(i:Nat)(m:Module)(c:Int):Prop:=(zbX l i m=true/\c=1)\/(loops l i=true/\c=7)
/-- Has a module this problem? -/
def zko(l:List Module)(i:Nat)(m:Module)(q:Problem):Prop:=
 q.module=i/\((zem l i m q.code/\q.item= -1)\/ ∃(k:Nat) (hk:k<m.items.length),zmF l m k m.items[k] q.code/\q.item=k)
/-! ### Lists in order -/
def ziS(a b:Problem):Prop:=(!(ltOf zbn) b a)=true
theorem znt(x:Item)(ha:sz x.a+sz x.b+sz x.c<=1000)(hr:x.args.length<=1000):(zaX x).length <=2000000:=by
 unfold zaX;rw[List.length_append];have h1:(zbh x).length <=1000:=by
  unfold zbh;split
  ·simp
  split
  ·simp
  split
  ·simp
  split
  ·exact hr
  ·simp
 have h2:(Expr.allL (zbo x)).length <=1000:=by
  have:=(zhj [x.a,x.b,x.c] (zhe x.kind.1)).length_le;rw[zeB [x.a,x.b,x.c]]at this;simp only[List.map_cons,List.map_nil,List.sum_cons,List.sum_nil]at this;unfold zbo;omega
 have h3: ∀r:List Expr,(r.flatMap zaZ).length <=2*r.length:=by
  intro r
  induction r with
  | nil=>simp
  | cons q r ih=>
   rw[List.flatMap_cons,List.length_append,List.length_cons];have:(zaZ q).length <=2:=by
    unfold zaZ;split
    ·simp
    split
    ·simp
    split
    ·simp
    ·simp
   omega
 have:=h3 (Expr.allL (zbo x));omega
theorem zeX{n:Nat}(hn:n<=900){l:List Module}(hl:l.length<=1000)(h: ∀m∈l,Fine n m):Small l:=
 {len:=hl,items:=fun m hm=>Nat.le_trans (h m hm).items hn,nums:=fun m hm x hx=>znt x (by have:=(h m hm).sizes x hx; omega) (by have:=(h m hm).args x hx; omega)}
inductive Way (E:Nat->Nat->Prop):Nat->Nat->Prop where
 | one {i j:Nat}:E i j->Way E i j
 | more {i j k:Nat}:E i j->Way E j k->Way E i k
/-! ### Rounds -/
/-- At least as much is done. -/
def geD(d d':List Bool):Prop:= ∀j,d.getD j false=true->d'.getD j false=true
def undone(d:List Bool):Nat:=d.countP fun b=> !b
/-- A module has an instance of another one. -/
def zhx(l:List Module)(i j:Nat):Prop:= ∃x∈(l.getD i zdP).items,zbE l x=some j
/-- What a search that did not find its end knows. -/
structure Searched (l:List Module) (to:Nat) (es:List Nat) (s s':List Nat):Prop where
 sub: ∀k∈s,k∈s'
 es: ∀j∈es,j∈s'
 to:to∈s'->to∈s
 closed: ∀k∈s',k∉s-> ∀j,zhx l k j->j∈s'
theorem zhP{l:List Module}{to n:Nat}{rec:Nat->List Nat->Bool×List Nat}
  (hs: ∀i s,sup l s (rec i s).2)
  (hrec: ∀i s s',i<l.length->(∀k∈s,k<l.length)->zev l s<n->rec i s=(false,s')->Searched l to [] s s'/\ ∀j,zhx l i j->j∈s'):
  ∀(r:List Item) (s s':List Nat),(∀k∈s,k<l.length)->zev l s<=n->zbH l rec to r s=(false,s')->Searched l to [] s s'/\ ∀x∈r,∀j,zbE l x=some j->j∈s'
 | [],s,s',_,_,h=>by
  simp only[zbH,Prod.mk.injEq,true_and]at h;subst h;exact⟨⟨fun _ h=>h,by simp,fun h=>h,fun k h1 h2=>absurd h1 h2⟩,by simp⟩
 | x::r,s,s',hb,hu,h=>by
  have ih:=zhP hs hrec r;unfold zbH at h;cases hi:zbE l x with
  | none=>
   rw[hi]at h;obtain⟨h1,h2⟩:=ih s s' hb hu h;refine⟨h1,fun y hy j hj=> ?_⟩;rcases List.mem_cons.1 hy with rfl | hy
   ·rw[hi]at hj; cases hj
   ·exact h2 y hy j hj
  | some i=>
   rw[hi]at h;simp only at h;have hil:=(ziN hi).1;by_cases hc:s.contains i=true
   ·rw[if_pos hc]at h;obtain⟨h1,h2⟩:=ih s s' hb hu h;refine⟨h1,fun y hy j hj=> ?_⟩;rcases List.mem_cons.1 hy with rfl | hy
    ·rw[hi]at hj; cases hj;exact h1.sub _ (by simpa using hc)
    ·exact h2 y hy j hj
   ·rw[if_neg hc]at h;have hc':s.contains i=false:=(by simpa using hc);by_cases ht:i=to
    ·rw[if_pos ht]at h; simp at h
    ·rw[if_neg ht]at h;have hlt:=zng hil hc';have hb': ∀k∈s++[i],k<l.length:=fun k hk=>by
      rcases List.mem_append.1 hk with hk | hk
      ·exact hb k hk
      ·simp at hk; omega
     have hsup:=hs i (s++[i]);cases hq:rec i (s++[i])with
     | mk b s1=>
      rw[hq]at h hsup;cases b with
      | true=>simp at h
      | false=>
       simp only at h;obtain⟨g1,g2⟩:=hrec i (s++[i]) s1 hil hb' (by omega) hq;have hu1:zev l s1<=n:=by
        have:=znf (l:=l) (a:=s) (b:=s1) (fun k hk=>g1.sub k (by simp[hk]));omega
       obtain⟨h1,h2⟩:=ih s1 s' (hsup.2 hb') hu1 h;have hi1:i∈s1:=g1.sub i (by simp);refine⟨⟨fun k hk=>h1.sub k (g1.sub k (by simp[hk])),by simp,fun hto=> ?_,fun k hk hks j hj=> ?_⟩,fun y hy j hj=> ?_⟩
       ·have:=g1.to (h1.to hto);rcases List.mem_append.1 this with h3 | h3
        ·exact h3
        ·simp at h3; exact absurd h3.symm ht
       ·by_cases hk1:k∈s1
        ·by_cases hki:k=i
         ·subst hki; exact h1.sub j (g2 j hj)
         ·exact h1.sub j (g1.closed k hk1 (by simp[hks,hki]) j hj)
        ·exact h1.closed k hk hk1 j hj
       ·rcases List.mem_cons.1 hy with rfl | hy
        ·rw[hi]at hj; cases hj;exact h1.sub _ hi1
        ·exact h2 y hy j hj
theorem zi2(l:List Module)(to:Nat): ∀(n i:Nat) (s s':List Nat),i<l.length->(∀k∈s,k<l.length)->zev l s<n->zc1 l to n i s=(false,s')->Searched l to [] s s'/\ ∀j,zhx l i j->j∈s'
 | 0,_,_,_,_,_,hn,_=>by omega
 | n+1,i,s,s',hi,hb,hn,h=>by
  obtain⟨h1,h2⟩:=zhP (n:=n) (fun i s=>zi3 l to n i s) (fun i s s' a b c d=>zi2 l to n i s s' a b c d) (l.getD i zdP).items s s' hb (by omega) h;exact⟨h1,fun j ⟨x,hx,hj⟩=>h2 x hx j hj⟩
theorem zqx{l:List Module}{i:Nat}(hi:i<l.length)(h:loops l i=false): ¬Way (zhx l) i i:=by
 unfold loops at h;cases hq:zc1 l i (l.length+1) i []with
 | mk b s'=>
  rw[hq]at h;simp only at h;subst h;have hu:zev l []<l.length+1:=by
   unfold zev;have:=List.countP_le_length (l:=List.range l.length) (p:=fun k=> !([]:List Nat).contains k);rw[List.length_range]at this;omega
  obtain⟨h1,h2⟩:=zi2 l i _ i [] s' hi (by simp) hu hq;have key: ∀a b,Way (zhx l) a b->(∀j,zhx l a j->j∈s')->b∈s':=by
   intro a b hw
   induction hw with
   | one e=>intro ha; exact ha _ e
   | more e _ ih=>intro ha; exact ih (fun j hj=>h1.closed _ (ha _ e) (by simp) j hj)
  intro hw;have:=h1.to (key i i hw h2);simp at this
structure Part where
 kind:I64
 name:Str
 deriving DecidableEq
structure Edit where
 module:Str
 part:Part
 has:Bool
 to:Item
 head:Module
def zbg(x:Item):Part:=⟨x.kind,x.name⟩
def zc7:Part:=⟨⟨0,rfl⟩,emp⟩
def ltS(a b:Str):Bool:=Op.bytesLess a.1.toList b.1.toList
def ltP(a b:Part):Bool:=decide (a.kind.1<b.kind.1)||(decide (a.kind.1=b.kind.1)&&ltS a.name b.name)
/-! ### Orders -/
theorem zsd: ∀a:List UInt8,Op.bytesLess a a=false
 | []=>rfl
 | x::a=>by simp[Op.bytesLess,zsd a]
theorem bytes_tr: ∀a b c:List UInt8,Op.bytesLess a b=true->Op.bytesLess b c=true->Op.bytesLess a c=true
 | _,[],_,h,_=>by simp[Op.bytesLess]at h
 | _,_::_,[],_,h=>by simp[Op.bytesLess]at h
 | [],_::_,_::_,_,_=>rfl
 | x::a,y::b,z::c,h1,h2=>by
  simp only[Op.bytesLess,Bool.or_eq_true,decide_eq_true_eq,Bool.and_eq_true,beq_iff_eq]at h1 h2 ⊢;rcases h1 with h1 | ⟨rfl,h1⟩
  ·rcases h2 with h2 | ⟨rfl,h2⟩
   ·exact .inl (UInt8.lt_trans h1 h2)
   ·exact .inl h1
  ·rcases h2 with h2 | ⟨rfl,h2⟩
   ·exact .inl h2
   ·exact .inr ⟨rfl,bytes_tr a b c h1 h2⟩
theorem zvj: ∀a b:List UInt8,Op.bytesLess a b=false->Op.bytesLess b a=false->a=b
 | [],[],_,_=>rfl
 | [],_::_,h,_=>by simp[Op.bytesLess]at h
 | _::_,[],_,h=>by simp[Op.bytesLess]at h
 | x::a,y::b,h1,h2=>by
  simp only[Op.bytesLess,Bool.or_eq_false_iff,decide_eq_false_iff_not,Bool.and_eq_false_iff,beq_eq_false_iff_ne]at h1 h2;obtain⟨p1,p2⟩:=h1;obtain⟨q1,q2⟩:=h2;have e:x=y:=UInt8.le_antisymm (UInt8.not_lt.1 q1) (UInt8.not_lt.1 p1);subst e;rw[zvj a b (p2.resolve_left (fun h=>h rfl)) (q2.resolve_left (fun h=>h rfl))]
theorem toList_inj{a b:Str}(h:a.1.toList=b.1.toList):a=b:=by
 apply Subtype.ext;rw[Lib.toList_data,Lib.toList_data]at h;exact ByteArray.ext (Array.toList_inj.1 h)
theorem zrt:TOrd ltS:={
 irr:=fun a=>zsd _
 tr:=fun a b c=>bytes_tr _ _ _
 conn:=fun a b h1 h2=>toList_inj (zvj _ _ h1 h2)}
theorem zuJ:TOrd ltP:={
 irr:=fun a=>by simp[ltP,zrt.irr]
 tr:=fun a b c h1 h2=>by
  simp only[ltP,Bool.or_eq_true,decide_eq_true_eq,Bool.and_eq_true]at h1 h2 ⊢;rcases h1 with h1 | ⟨e1,h1⟩
  ·rcases h2 with h2 | ⟨e2,h2⟩
   ·exact .inl (by omega)
   ·exact .inl (by omega)
  ·rcases h2 with h2 | ⟨e2,h2⟩
   ·exact .inl (by omega)
   ·exact .inr ⟨by omega,zrt.tr _ _ _ h1 h2⟩
 conn:=fun a b h1 h2=>by
  simp only[ltP,Bool.or_eq_false_iff,decide_eq_false_iff_not,Bool.and_eq_false_iff]at h1 h2;obtain⟨⟨a1,a2⟩,a3⟩:=a;obtain⟨⟨b1,b2⟩,b3⟩:=b;simp only at h1 h2;have e:a1=b1:=by omega
  subst e;have:=zrt.conn a3 b3 (h1.2.resolve_left (fun h=>h rfl)) (h2.2.resolve_left (fun h=>h rfl));rw[this]}
/-! ### Equality of expressions,items,heads -/
mutual
def zil:Expr->Expr->Bool
 | .mk o n k w a,.mk o' n' k' w' a'=>(o==o'&&decide (n=n')&&decide (k=k')&&decide (w=w'))&&zjF a a'
def zjF:List Expr->List Expr->Bool
 | [],[]=>true
 | x::a,y::b=>zil x y&&zjF a b
 | _,_=>false
end
mutual
theorem sameE_iff: ∀a b:Expr,zil a b=true↔a=b
 | .mk o n k w a,.mk o' n' k' w' a'=>by
  simp only[zil,Bool.and_eq_true,beq_iff_eq,decide_eq_true_eq,zv1 a a',Expr.mk.injEq];constructor
  ·rintro⟨⟨⟨⟨h1,h2⟩,h3⟩,h4⟩,h5⟩; exact⟨h1,h2,h3,h4,h5⟩
  ·rintro⟨h1,h2,h3,h4,h5⟩; exact⟨⟨⟨⟨h1,h2⟩,h3⟩,h4⟩,h5⟩
theorem zv1: ∀a b:List Expr,zjF a b=true↔a=b
 | [],[]=>by simp[zjF]
 | [],_::_=>by simp[zjF]
 | _::_,[]=>by simp[zjF]
 | x::a,y::b=>by simp only[zjF,Bool.and_eq_true,sameE_iff x y,zv1 a b,List.cons.injEq]
end
def zlG(x y:Item):Bool:=decide (zbg x=zbg y)&&(decide (x.width=y.width)&&decide (x.depth=y.depth)&&decide (x.init=y.init))&&decide (x.rule=y.rule)&&decide (x.of=y.of)&&decide (x.args=y.args)&&decide (x.ports=y.ports)&&zil x.a y.a&&zil x.b y.b&&zil x.c y.c
theorem zyQ(x y:Item):zlG x y=true↔x=y:=by
 obtain⟨k,n,w,d,i,a,b,c,r,o,ar,po⟩:=x;obtain⟨k',n',w',d',i',a',b',c',r',o',ar',po'⟩:=y;simp only[zlG,zbg,Bool.and_eq_true,decide_eq_true_eq,sameE_iff,Item.mk.injEq,Part.mk.injEq];constructor
 ·rintro⟨⟨⟨⟨⟨⟨⟨⟨⟨h1,h2⟩,⟨h3,h4⟩,h5⟩,h6⟩,h7⟩,h8⟩,h9⟩,h10⟩,h11⟩,h12⟩;exact⟨h1,h2,h3,h4,h5,h10,h11,h12,h6,h7,h8,h9⟩
 ·rintro⟨h1,h2,h3,h4,h5,h10,h11,h12,h6,h7,h8,h9⟩;exact⟨⟨⟨⟨⟨⟨⟨⟨⟨h1,h2⟩,⟨h3,h4⟩,h5⟩,h6⟩,h7⟩,h8⟩,h9⟩,h10⟩,h11⟩,h12⟩
def zug(m n:Module):Bool:=decide (m.name=n.name)&&decide (m.clock=n.clock)&&decide (m.params=n.params)
theorem zyP(m n:Module):zug m n=true↔{n with items:=m.items}=m:=by
 obtain⟨a,b,c,d⟩:=m;obtain⟨a',b',c',d'⟩:=n;simp only[zug,Bool.and_eq_true,decide_eq_true_eq,Module.mk.injEq,and_true];constructor
 ·rintro⟨⟨h1,h2⟩,h3⟩; exact⟨h1.symm,h2.symm,h3.symm⟩
 ·rintro⟨h1,h2,h3⟩; exact⟨⟨h1.symm,h2.symm⟩,h3.symm⟩
def zl1:List Item->List Item->Bool
 | [],[]=>true
 | x::a,y::b=>zlG x y&&zl1 a b
 | _,_=>false
theorem zv3: ∀a b:List Item,zl1 a b=true↔a=b
 | [],[]=>by simp[zl1]
 | [],_::_=>by simp[zl1]
 | _::_,[]=>by simp[zl1]
 | x::a,y::b=>by simp only[zl1,Bool.and_eq_true,zyQ x y,zv3 a b,List.cons.injEq]
def zm4(m n:Module):Bool:=zug m n&&zl1 m.items n.items
theorem zuh(m n:Module):zm4 m n=true↔m=n:=by
 unfold zm4;rw[Bool.and_eq_true,zyP,zv3];obtain⟨a,b,c,d⟩:=m;obtain⟨a',b',c',d'⟩:=n;simp only[Module.mk.injEq,and_true];constructor
 ·rintro⟨⟨h1,h2,h3⟩,h4⟩; exact⟨h1.symm,h2.symm,h3.symm,h4⟩
 ·rintro⟨h1,h2,h3,h4⟩; exact⟨⟨h1.symm,h2.symm,h3.symm⟩,h4⟩
def zl6:List Module->List Module->Bool
 | [],[]=>true
 | x::a,y::b=>zm4 x y&&zl6 a b
 | _,_=>false
theorem zm3: ∀a b:List Module,zl6 a b=true↔a=b
 | [],[]=>by simp[zl6]
 | [],_::_=>by simp[zl6]
 | _::_,[]=>by simp[zl6]
 | x::a,y::b=>by simp only[zl6,Bool.and_eq_true,zuh x y,zm3 a b,List.cons.injEq]
/-! ### zbC forms,differences,edits applied -/
def zl5(m:Module):Module:={m with items:=zl7 ltP zbg m.items}
def zcC(l:List Module):List Module:=(zl7 ltS Module.name l).map zl5
/-- A file whose parts have one place each. -/
structure Parted (l:List Module):Prop where
 names:(l.map Module.name).Nodup
 parts: ∀m∈l,(m.items.map zbg).Nodup
 kinds: ∀m∈l,∀x∈m.items,x.kind.1≠0
def zyw(n:Str)(x:Item):Edit:=⟨n,zbg x,false,zaU,zdP⟩
def zco(n:Str)(x:Item):Edit:=⟨n,zbg x,true,x,zdP⟩
def zx7(m:Module):Edit:=⟨m.name,zc7,true,zaU,{m with items:=[]}⟩
def zuR(n:Str):Edit:=⟨n,zc7,false,zaU,zdP⟩
def zs8(n:Str)(a b:List Item):List Edit:=mrgM ltP zbg (fun x=>[zyw n x]) (fun y=>[zco n y]) (fun x y=>if zlG x y=true then []else [zco n y]) a b
def headD(m n:Module):List Edit:=if zug m n=true then []else [zx7 n]
def zyJ(a b:List Module):List Edit:=mrgM ltS Module.name (fun m=>zs8 m.name m.items []++[zuR m.name]) (fun m=>zx7 m::zs8 m.name [] m.items) (fun m n=>headD m n++zs8 n.name m.items n.items) a b
def zrp(a b:List Module):List Edit:=zyJ (zcC a) (zcC b)
def zl8(l:List Module)(e:Edit):Option (List Module):=
 match lkp Module.name l e.module with
 | none=>none
 | some m=>
  if e.has=true then if zbg e.to≠e.part\/e.part.kind.1=0 then none else some (zpT ltS Module.name l {m with items:=zpT ltP zbg m.items e.to})
  else if (lkp zbg m.items e.part).isSome =true then some (zpT ltS Module.name l {m with items:=zyC zbg m.items e.part})else none
def zzb(l:List Module)(e:Edit):Option (List Module):=
 if e.has=true then
  if e.head.name≠e.module\/e.head.items≠[]then none
  else match lkp Module.name l e.module with
   | none=>some (zpT ltS Module.name l e.head)
   | some m=>some (zpT ltS Module.name l {m with clock:=e.head.clock,params:=e.head.params})
 else match lkp Module.name l e.module with
  | none=>none
  | some m=>if m.items≠[]then none else some (zyC Module.name l e.module)
def zx4(l:List Module)(e:Edit):Option (List Module):=if e.part=zc7 then zzb l e else zl8 l e
def zoS(l:List Module)(es:List Edit):Option (List Module):=es.foldlM zx4 (zcC l)
/-- A file in normal form. -/
structure Good (l:List Module):Prop where
 srt:Srt ltS Module.name l
 parts: ∀m∈l,Srt ltP zbg m.items
structure Kinds (l:List Module):Prop where
 kinds: ∀m∈l,∀x∈m.items,x.kind.1≠0
theorem ziv{l:List Module}(h:Parted l):Good (zcC l):=by
 refine⟨?_,fun m hm=> ?_⟩
 ·unfold zcC Srt;rw[List.pairwise_map];exact zm9 zrt h.names
 ·unfold zcC at hm;obtain⟨n,hn,rfl⟩:=List.mem_map.1 hm;exact zm9 zuJ (h.parts n ((zcn l).mem_iff.1 hn))
theorem zlv{l:List Module}(h:Parted l):Kinds (zcC l):=by
 refine⟨fun m hm x hx=> ?_⟩;unfold zcC at hm;obtain⟨n,hn,rfl⟩:=List.mem_map.1 hm;exact h.kinds n ((zcn l).mem_iff.1 hn) x ((zcn n.items).mem_iff.1 hx)
theorem normM_self{m:Module}(h:Srt ltP zbg m.items):zl5 m=m:=by
 unfold zl5;rw[zqN zuJ h]
theorem zks{l:List Module}(h:Good l):zcC l=l:=by
 unfold zcC;rw[zqN zrt h.srt];have:l.map zl5=l.map id:=List.map_congr_left fun m hm=>normM_self (h.parts m hm);rw[this,List.map_id]
theorem Good.put{l:List Module}(h:Good l){m:Module}(hm:Srt ltP zbg m.items):Good (zpT ltS Module.name l m):=by
 refine⟨h.srt.ins zrt m,fun z hz=> ?_⟩;rcases zxh hz with rfl | hz
 ·exact hm
 ·exact h.parts z hz
theorem Good.rmv{l:List Module}(h:Good l)(n:Str):Good (zyC Module.name l n):=⟨h.srt.del n,fun z hz=>h.parts z (zxi hz)⟩
theorem Good.at{l:List Module}(h:Good l){n:Str}{m:Module}(hm:lkp Module.name l n=some m):Srt ltP zbg m.items/\m.name=n:=⟨h.parts m (zeI hm).1,(zeI hm).2⟩
theorem Good.ext{l l':List Module}(h:Good l)(h':Good l')(he: ∀k,lkp Module.name l k=lkp Module.name l' k):l=l':=Srt.ext zrt h.srt h'.srt he
/-! ### One module's items -/
theorem zlW{x:Item}(h:x.kind.1≠0):zbg x≠zc7:=fun e=>h (by have:=congrArg (fun p:Part=>p.kind.1) e; exact this)
/-- What stays while a module's items are changed. -/
structure InMod (s0:List Module) (n:Str) (m:Module) (s:List Module):Prop where
 good:Good s
 here: ∃its,lkp Module.name s n=some {m with items:=its}
 rest: ∀k,k≠n->lkp Module.name s k=lkp Module.name s0 k
def ansI(n:Str)(s:List Module)(p:Part):Option Item:=match lkp Module.name s n with | some m=>lkp zbg m.items p | none=>none
/-! ### Files -/
def mOk(m:Module):Prop:=Srt ltP zbg m.items/\ ∀x∈m.items,x.kind.1≠0
def zs0(a:List Module)(l:List Edit):Option (List Edit):=(zoS a l).map fun g=>zrp g a
def tgt(e:Edit):Str×Part:=(e.module,e.part)
/-- A module behind an edit of an item. -/
def chg(m:Module)(e:Edit):Module:={m with items:=if e.has=true then zpT ltP zbg m.items e.to else zyC zbg m.items e.part}
/-- The edit can be done. -/
def fitE(m:Module)(e:Edit):Prop:=if e.has=true then zbg e.to=e.part/\e.part.kind.1≠0 else(lkp zbg m.items e.part).isSome =true
def zfX(p:Part):List D:=[eI p.kind.1,eS p.name]
theorem zxs(a b:Part):(a.kind.1==b.kind.1&&decide (a.name=b.name))=decide (a=b):=by
 obtain⟨⟨a1,a2⟩,a3⟩:=a;obtain⟨⟨b1,b2⟩,b3⟩:=b;rw[Bool.eq_iff_iff];simp
theorem rof_c(x:Item):FnP Tryz.prog 30 [.agg (zaK x)] (.d (.agg (zfX (zbg x)))) []:=by
 refine FnP.of_eC (own:=[]) (fun _=>[]) zat Tryz.func30 rfl Tryz.call30 Tryz.ntmps30 (Nat.le_of_ble_eq_true rfl) Tryz.results30 (fun hok=> ?_);simp(maxSteps:=4000000) only[ZE,↓reduceIte,pE,pL,pA,pS,pM,pD,zfX,zbg]
theorem zxz(l:List Module)(n:Str):FnP Tryz.prog 43 [.agg [zax l],eS n] (.d (eI (zgM (fun m:Module=>decide (m.name=n)) l))) []:=by
 refine FnP.of_eC (own:=[]) (fun _=>[]) zat Tryz.func43 rfl Tryz.call43 Tryz.ntmps43 (Nat.le_of_ble_eq_true rfl) Tryz.results43 (fun hok=> ?_);have hl:l.length<=9223372036854775807:=by
  have:=(zaM hok).1;simp only[D.ok,D.okL]at this;exact(za9 this.1).1
 simp(maxSteps:=4000000) only[ZE,↓reduceIte,pE,pL,pA,pS,pM,pD,zN,qT,qG,qL,qH,qN,qB,qE,qO,qA,qM];refine za1 (fun _=>[]) zat l.length (fun i=> ∀j (_:j<i) (hj:j<l.length),decide (l[j].name =n)=false) (fun i=>([(1,.d (eS n)),(2,.bp 2 0),(5,.d (eI i))],[(2,.box [.d (zax l)])])) (by simp) (by simp only[ZE,↓reduceIte,pE,pL,pA,pS,pM,pD,zN,qT,qG,qL,qH,qN,qB,qE,qO,qA,qM]) (by simp only[ZE,↓reduceIte,pE,pL,pA,pS,pM,pD]) (fun i hi hI=> ?_);rcases Nat.lt_or_ge i l.length with h | h
 ·have hw:=zaq (show i<9223372036854775807 by omega);simp(maxSteps:=4000000) only[ZE,↓reduceIte,pE,pL,pA,pS,pM,pD,zaw h,zaa h,zai h,hw,zN,qT,qG,qL,qH,qN,qB,qE,qO,qA,qM];refine zd8 (fun h3=> ?_) (fun h3=>⟨h,fun j hj hj'=> ?_⟩)
  ·rw[zeP h h3 hI]
  ·rcases Nat.lt_succ_iff_lt_or_eq.1 hj with hj | rfl
   ·exact hI j hj hj'
   ·exact h3
 ·simp(maxSteps:=4000000) only[ZE,↓reduceIte,pE,pL,pA,pS,pM,pD,zaI h,zN,qT,qG,qL,qH,qN,qB,qE,qO,qA,qM];rw[zeO (fun j hj=>hI j (by omega) hj)]
theorem rindex_c(m:Module)(p:Part):FnP Tryz.prog 58 [.agg (zaC m),.agg (zfX p)] (.d (eI (zgM (fun x=>decide (zbg x=p)) m.items))) []:=by
 refine FnP.of_eC (own:=[]) (fun _=>[]) zat Tryz.func58 rfl Tryz.call58 Tryz.ntmps58 (Nat.le_of_ble_eq_true rfl) Tryz.results58 (fun hok=> ?_);have hl:m.items.length<=9223372036854775807:=by
  have:=(zaM hok).1;simp only[zaC,zbR,D.ok,D.okL]at this;exact(za9 this.2.2.2.1).1
 simp(maxSteps:=4000000) only[ZE,↓reduceIte,pE,pL,pA,pS,pM,pD,zfX,zN,qT,qG,qL,qH,qN,qB,qE,qO,qA,qM];refine za1 (fun _=>[]) zat m.items.length (fun i=> ∀j (_:j<i) (hj:j<m.items.length),decide (zbg m.items[j]=p)=false) (fun i=>([(2,.bp 2 0),(3,.bp 3 0),(5,.d (eI i))],[(2,.box ((zaC m).map .d)),(3,.box ((zfX p).map .d))])) (by simp) (by simp only[ZE,↓reduceIte,pE,pL,pA,pS,pM,pD,zfX,zN,qT,qG,qL,qH,qN,qB,qE,qO,qA,qM]) (by simp only[ZE,↓reduceIte,pE,pL,pA,pS,pM,pD,zfX]) (fun i hi hI=> ?_);rcases Nat.lt_or_ge i m.items.length with h | h
 ·have hw:=zaq (show i<9223372036854775807 by omega);obtain⟨x,hx⟩:=zX (m.items[i]);have oc:=rof_c x;have pe':decide (zbg x=p)=(x.kind.1==p.kind.1&&decide (x.name=p.name)):=(zxs (zbg x) p).symm;simp only[ZE,↓reduceIte,pE,pL,pA,pS,pM,pD,zfX,zbg]at oc;simp(maxSteps:=4000000) only[ZE,↓reduceIte,pE,pL,pA,pS,pM,pD,zaw h,zaa h,zai h,hx,zfX,zN,qT,qG,qL,qH,qN,qB,qE,qO,qA,qM];refine⟨by kernel_rfl,zaz.i oc ?_⟩;simp only[ZE,↓reduceIte,pE,pL,pA,pS,pM,pD,zN,qT,qG,qL,qH,qN,qB,qE,qO,qA,qM,hw];refine zd8 (fun h3=> ?_) (fun h3=>⟨h,fun j hj hj'=> ?_⟩)
  ·rw[zeP h (by rw[hx,pe']; exact h3) hI]
  ·rcases Nat.lt_succ_iff_lt_or_eq.1 hj with hj | rfl
   ·exact hI j hj hj'
   ·rw[hx,pe']; exact h3
 ·simp(maxSteps:=4000000) only[ZE,↓reduceIte,pE,pL,pA,pS,pM,pD,zaI h,zN,qT,qG,qL,qH,qN,qB,qE,qO,qA,qM];rw[zeO (fun j hj=>hI j (by omega) hj)]
/-! ### Partitioned -/
def okK(m:Module)(k:Nat):Bool:= !((m.items.getD k zaU).kind.1 ==0)&&(zgM (fun x=>decide (zbg x=zbg (m.items.getD k zaU))) m.items==(k:Int))
def zq7(m:Module):Bool:=(List.range m.items.length).all (okK m)
def okM(l:List Module)(i:Nat):Bool:=(zgM (fun m:Module=>decide (m.name=(l.getD i zdP).name)) l==(i:Int))&&zq7 (l.getD i zdP)
def ze8(l:List Module):Bool:=(List.range l.length).all (okM l)
theorem rpart_c(l:List Module):FnP Tryz.prog 18 [.agg [zax l]] (.d (eB (ze8 l))) []:=by
 refine FnP.of_eC (own:=[]) (fun _=>[]) zat Tryz.func18 rfl Tryz.call18 Tryz.ntmps18 (Nat.le_of_ble_eq_true rfl) Tryz.results18 (fun hok=> ?_);have hlb:l.length<=9223372036854775807/\ ∀m∈l,m.items.length<=9223372036854775807:=by
  have:=(zaM hok).1;simp only[D.ok,D.okL]at this;obtain⟨h1,h2⟩:=za9 this.1;refine⟨h1,fun m hm=> ?_⟩;have:=h2 m hm;simp only[zaC,zbR,D.ok,D.okL]at this;exact(za9 this.2.2.2.1).1
 simp(maxSteps:=4000000) only[ZE,↓reduceIte,pE,pL,pA,pS,pM,pD,zN,qT,qG,qL,qH,qN,qB,qE,qO,qA,qM];refine za1 (fun _=>[]) zat l.length (fun i=> ∀j<i,okM l j=true) (fun i=>([(1,.bp 1 0),(3,.d (eI i))],[(1,.box [.d (zax l)])])) (by simp) (by simp only[ZE,↓reduceIte,pE,pL,pA,pS,pM,pD,zN,qT,qG,qL,qH,qN,qB,qE,qO,qA,qM]) (by simp only[ZE,↓reduceIte,pE,pL,pA,pS,pM,pD]) (fun i hi hI=> ?_);rcases Nat.lt_or_ge i l.length with h | h
 ·have hw:=zaq (show i<9223372036854775807 by omega);have fc:=zxz l l[i].name;have hg:l.getD i zdP=l[i]:=by simp[List.getD,h]
  have hml:=hlb.2 l[i] (List.getElem_mem h);obtain⟨z,hz⟩:=zX (zgM (fun m:Module=>decide (m.name=l[i].name)) l);have hM:okM l i=((z==(i:Int))&&zq7 l[i]):=by unfold okM; rw[hg,hz]
  obtain⟨m,hm⟩:=zX (l[i]);rw[hz]at fc;rw[hm]at hml hM fc;simp only[ZE,↓reduceIte,pE,pL,pA,pS,pM,pD]at fc;have bad:okM l i=false->ze8 l=false:=fun e=>by
   unfold ze8;rw[List.all_eq_false];exact⟨i,List.mem_range.2 h,by rw[e]; simp⟩
  rcases Bool.eq_false_or_eq_true (z==(i:Int))with hzi | hzi
  ·have hzn:(z !=(i:Int))=false:=by rw[bne,hzi]; rfl
   simp(maxSteps:=4000000) only[ZE,↓reduceIte,pE,pL,pA,pS,pM,pD,zaw h,zaa h,zai h,hm,hw,zN,qT,qG,qL,qH,qN,qB,qE,qO,qA,qM];refine EFn.p ?_;simp only[ZE,↓reduceIte,pE,pL,pA,pS,pM,pD,zN,qT,qG,qL,qH,qN,qB,qE,qO,qA,qM];refine zar.i fc ?_;simp only[ZE,↓reduceIte,pE,pL,pA,pS,pM,pD,zN,qT,qG,qL,qH,qN,qB,qE,qO,qA,qM,hzn];refine za1 (fun _=>[]) zat m.items.length (fun k=> ∀j<k,okK m j=true) (fun k=>([(1,.bp 1 0),(3,.d (eI i)),(4,.bp 4 0),(5,.d (eI k))],[(1,.box [.d (zax l)]),(4,.box ((zaC m).map .d))])) (by simp) (by simp only[ZE,↓reduceIte,pE,pL,pA,pS,pM,pD,zN,qT,qG,qL,qH,qN,qB,qE,qO,qA,qM]) (by simp only[ZE,↓reduceIte,pE,pL,pA,pS,pM,pD]) (fun k hk hK=> ?_);rcases Nat.lt_or_ge k m.items.length with hkl | hkl
   ·have hw2:=zaq (show k<9223372036854775807 by omega);obtain⟨x,hx⟩:=zX (m.items[k]);have hgx:m.items.getD k zaU=x:=(by rw[<-hx]; simp[List.getD,hkl]);have oc:=rof_c x;have ic:=rindex_c m (zbg x);obtain⟨y,hy⟩:=zX (zgM (fun z=>decide (zbg z=zbg x)) m.items);have hKk:okK m k=(!(x.kind.1==0)&&(y==(k:Int))):=(by unfold okK; rw[hgx,hy]);rw[hy]at ic;simp only[ZE,↓reduceIte,pE,pL,pA,pS,pM,pD,zfX,zbg]at oc ic;have badk:okK m k=false->ze8 l=false:=fun e=>bad (by
     rw[hM];have:zq7 m=false:=by
      unfold zq7;rw[List.all_eq_false];exact⟨k,List.mem_range.2 hkl,by rw[e]; simp⟩
     rw[this,Bool.and_false])
    rcases Bool.eq_false_or_eq_true (x.kind.1==0)with h0 | h0
    ·have e:=badk (by rw[hKk,h0]; rfl);simp(maxSteps:=4000000) only[ZE,↓reduceIte,pE,pL,pA,pS,pM,pD,zaw hkl,zaa hkl,zai hkl,hx,h0,e,zN,qT,qG,qL,qH,qN,qB,qE,qO,qA,qM];show(_:Bool)=true;kernel_rfl
    ·rcases Bool.eq_false_or_eq_true (y==(k:Int))with hyk | hyk
     ·have hyn:(y !=(k:Int))=false:=(by rw[bne,hyk]; rfl);simp(maxSteps:=4000000) only[ZE,↓reduceIte,pE,pL,pA,pS,pM,pD,zaw hkl,zaa hkl,zai hkl,hx,h0,zN,qT,qG,qL,qH,qN,qB,qE,qO,qA,qM];refine⟨by kernel_rfl,zaz.i oc ?_⟩;simp only[ZE,↓reduceIte,pE,pL,pA,pS,pM,pD,zN,qT,qG,qL,qH,qN,qB,qE,qO,qA,qM];refine zaz.i ic ?_;simp only[ZE,↓reduceIte,pE,pL,pA,pS,pM,pD,zN,qT,qG,qL,qH,qN,qB,qE,qO,qA,qM,hyn,hw2];refine⟨hkl,fun j hj=> ?_⟩;rcases Nat.lt_succ_iff_lt_or_eq.1 hj with hj | rfl
      ·exact hK j hj
      ·rw[hKk,h0,hyk]; rfl
     ·have hyn:(y !=(k:Int))=true:=(by rw[bne,hyk]; rfl);have e:=badk (by rw[hKk,hyk,Bool.and_false]);simp(maxSteps:=4000000) only[ZE,↓reduceIte,pE,pL,pA,pS,pM,pD,zaw hkl,zaa hkl,zai hkl,hx,h0,zN,qT,qG,qL,qH,qN,qB,qE,qO,qA,qM];refine⟨by kernel_rfl,zaz.i oc ?_⟩;simp only[ZE,↓reduceIte,pE,pL,pA,pS,pM,pD,zN,qT,qG,qL,qH,qN,qB,qE,qO,qA,qM];refine zaz.i ic ?_;simp only[ZE,↓reduceIte,pE,pL,pA,pS,pM,pD,zN,qT,qG,qL,qH,qN,qB,qE,qO,qA,qM,hyn,e]
   ·have hke:k=m.items.length:=(by omega);subst hke;simp(maxSteps:=4000000) only[ZE,↓reduceIte,pE,pL,pA,pS,pM,pD,zaI hkl,zN,qT,qG,qL,qH,qN,qB,qE,qO,qA,qM,hw];refine⟨h,fun j hj=> ?_⟩;rcases Nat.lt_succ_iff_lt_or_eq.1 hj with hj | rfl
    ·exact hI j hj
    ·rw[hM,hzi,Bool.true_and];unfold zq7;rw[List.all_eq_true];exact fun q hq=>hK q (List.mem_range.1 hq)
  ·have hzn:(z !=(i:Int))=true:=by rw[bne,hzi]; rfl
   have e:=bad (by rw[hM,hzi]; rfl);simp(maxSteps:=4000000) only[ZE,↓reduceIte,pE,pL,pA,pS,pM,pD,zaw h,zaa h,zai h,hm,hw,zN,qT,qG,qL,qH,qN,qB,qE,qO,qA,qM];refine EFn.p ?_;simp only[ZE,↓reduceIte,pE,pL,pA,pS,pM,pD,zN,qT,qG,qL,qH,qN,qB,qE,qO,qA,qM];refine zar.i fc ?_;simp only[ZE,↓reduceIte,pE,pL,pA,pS,pM,pD,zN,qT,qG,qL,qH,qN,qB,qE,qO,qA,qM,hzn,e]
 ·simp(maxSteps:=4000000) only[ZE,↓reduceIte,pE,pL,pA,pS,pM,pD,zaI h,zN,qT,qG,qL,qH,qN,qB,qE,qO,qA,qM];have:ze8 l=true:=by
   unfold ze8;rw[List.all_eq_true];exact fun j hj=>hI j (by have:=List.mem_range.1 hj; omega)
  rw[this]
theorem zql{α:Type}{p:α->Bool}{l:List α}{k:Nat}(h:zgM p l=(k:Int)): ∃h':k<l.length,p l[k]=true/\ ∀j (hj:j<k),p (l[j]'(by omega))=false:=by
 unfold zgM at h;split at h
 ·rename_i i hi;have e:i=k:=by omega
  subst e;rw[List.findIdx?_eq_some_iff_getElem]at hi;obtain⟨h1,h2,h3⟩:=hi;exact⟨h1,h2,fun j hj=>by simpa using h3 j hj⟩
 ·omega
theorem zbU(l:List Module):ze8 l=true↔Parted l:=by
 unfold ze8;rw[List.all_eq_true];have hK: ∀m:Module,zq7 m=true↔(m.items.map zbg).Nodup /\ ∀x∈m.items,x.kind.1≠0:=by
  intro m;unfold zq7;rw[List.all_eq_true];constructor
  ·intro h;have h': ∀k (hk:k<m.items.length),m.items[k].kind.1 ≠0/\ ∀j (hj:j<k),zbg (m.items[j]'(by omega))≠zbg m.items[k]:=by
    intro k hk;have:=h k (List.mem_range.2 hk);unfold okK at this;have hg:m.items.getD k zaU=m.items[k]:=(by simp[List.getD,hk]);rw[hg,Bool.and_eq_true,beq_iff_eq]at this;obtain⟨_,_,h3⟩:=zql this.2;exact⟨by simpa using this.1,fun j hj=>by simpa using h3 j hj⟩
   refine⟨?_,fun x hx=> ?_⟩
   ·rw[List.nodup_iff_pairwise_ne,List.pairwise_map,List.pairwise_iff_getElem];intro i j hi hj hij;exact(h' j hj).2 i hij
   ·obtain⟨k,hk,rfl⟩:=List.getElem_of_mem hx;exact(h' k hk).1
  ·rintro⟨h1,h2⟩ k hk;have hk:=List.mem_range.1 hk;have hg:m.items.getD k zaU=m.items[k]:=by simp[List.getD,hk]
   unfold okK;rw[hg,Bool.and_eq_true,beq_iff_eq];refine⟨by simpa using h2 _ (List.getElem_mem hk),?_⟩;refine zeP hk (by simp) (fun j hj hj'=> ?_);rw[List.nodup_iff_pairwise_ne,List.pairwise_map,List.pairwise_iff_getElem]at h1;simpa using h1 j k hj' hk hj
 constructor
 ·intro h;have h': ∀k (hk:k<l.length),(∀j (hj:j<k),(l[j]'(by omega)).name ≠l[k].name)/\zq7 l[k]=true:=by
   intro k hk;have:=h k (List.mem_range.2 hk);unfold okM at this;have hg:l.getD k zdP=l[k]:=by simp[List.getD,hk]
   rw[hg,Bool.and_eq_true,beq_iff_eq]at this;obtain⟨_,_,h3⟩:=zql this.1;exact⟨fun j hj=>by simpa using h3 j hj,this.2⟩
  refine⟨?_,fun m hm=> ?_,fun m hm=> ?_⟩
  ·rw[List.nodup_iff_pairwise_ne,List.pairwise_map,List.pairwise_iff_getElem];intro i j hi hj hij;exact(h' j hj).1 i hij
  ·obtain⟨k,hk,rfl⟩:=List.getElem_of_mem hm;exact((hK _).1 (h' k hk).2).1
  ·obtain⟨k,hk,rfl⟩:=List.getElem_of_mem hm;exact((hK _).1 (h' k hk).2).2
 ·intro h k hk;have hk:=List.mem_range.1 hk;have hg:l.getD k zdP=l[k]:=by simp[List.getD,hk]
  unfold okM;rw[hg,Bool.and_eq_true,beq_iff_eq];refine⟨?_,(hK _).2 ⟨h.parts _ (List.getElem_mem hk),h.kinds _ (List.getElem_mem hk)⟩⟩;refine zeP hk (by simp) (fun j hj hj'=> ?_);have h1:=h.names;rw[List.nodup_iff_pairwise_ne,List.pairwise_map,List.pairwise_iff_getElem]at h1;simpa using h1 j k hj' hk hj
/-! ### Generated files are partitioned -/
theorem parted_made(x:Raw):ze8 (zdG x)=true:=by
 rcases zc5 x with⟨mem,h⟩ | ⟨q,h⟩ | ⟨q,mem,h⟩ | ⟨q,mem,h⟩
 ·rw[h]; cases mem <;> kernel_rfl
 ·rw[h]; cases q <;> kernel_rfl
 ·rw[h]; cases q <;> cases mem <;> kernel_rfl
 ·rw[h]; cases q <;> cases mem <;> kernel_rfl
set_option maxHeartbeats 40000000
def zyV(j:Nat):Str:=[sA,sB,sC,sR,sS,sT,sX,zma,zg7,st [113]].getD j emp
/-! ### Step by step -/
structure K4 where
 a:Nat
 b:Nat
 c:Nat
 d:Nat
def eK4(k:K4):List D:=[eU8 k.a,eU8 k.b,eU8 k.c,eU8 k.d]
def K4.ok(k:K4):Prop:=k.a<256/\k.b<256/\k.c<256/\k.d<256
def spG(f:List Module)(k:K4):List Module:=f.set (k.a % f.length) (zkS k.b k.c k.d (zyV (k.d / 16 % 10)) (f.getD (k.a % f.length) zdP))
def spS(f:List Module)(k:K4):List Module:=if ze8 (spG f k)=true/\zqM (spG f k)<300 then spG f k else f
def zna(x:Raw)(l:List K4):List Module:=(l.take 4).foldl spS (zdG x)
/-- What stays on the way. -/
structure SpI (n:Nat) (f:List Module):Prop where
 len:f.length<=2
 pos:0<f.length
 fine: ∀m∈f,Fine (60+n) m
 part:ze8 f=true
theorem zzR(x:Raw):SpI 0 (zdG x):=by
 obtain⟨h1,h2,_⟩:=tid_made x;exact⟨h1,h2,zmu x,parted_made x⟩
set_option maxHeartbeats 20000000
/-- Lists equal,element by element. -/
def eqL{α:Type}(p:α->α->Bool):List α->List α->Bool
 | [],[]=>true
 | x::a,y::b=>p x y&&eqL p a b
 | _,_=>false
theorem zgu{α:Type}{p:α->α->Bool}: ∀ {a b:List α},a.length≠b.length->eqL p a b=false
 | [],[],h=>absurd rfl h
 | [],_::_,_=>rfl
 | _::_,[],_=>rfl
 | x::a,y::b,h=>by
  rw[eqL,zgu (a:=a) (b:=b) (by simpa using h),Bool.and_false]
theorem zgt{α:Type}{p:α->α->Bool}: ∀ {a b:List α} {i:Nat} (h:i<a.length) (h':i<b.length),p a[i] b[i]=false->eqL p a b=false
 | x::a,y::b,0,_,_,hp=>by rw[eqL]; simp only[List.getElem_cons_zero]at hp; rw[hp]; rfl
 | x::a,y::b,i+1,h,h',hp=>by
  rw[eqL,zgt (a:=a) (b:=b) (i:=i) (by simpa using h) (by simpa using h') (by simpa using hp),Bool.and_false]
theorem zeC{α:Type}{p:α->α->Bool}: ∀ {a b:List α},a.length=b.length->(∀i (h:i<a.length) (h':i<b.length),p a[i] b[i]=true)->eqL p a b=true
 | [],[],_,_=>rfl
 | [],_::_,h,_=>by simp at h
 | _::_,[],h,_=>by simp at h
 | x::a,y::b,h,hp=>by
  have h0:=hp 0 (by simp) (by simp);simp only[List.getElem_cons_zero]at h0;rw[eqL,h0,zeC (by simpa using h) (fun i h1 h2=>by
   have:=hp (i+1) (by rw[List.length_cons]; omega) (by rw[List.length_cons]; omega);simpa only[List.getElem_cons_succ]using this)]; rfl
theorem zoc{α:Type}[DecidableEq α]: ∀a b:List α,eqL (fun x y=>decide (x=y)) a b=decide (a=b)
 | [],[]=>by simp[eqL]
 | [],_::_=>by simp[eqL]
 | _::_,[]=>by simp[eqL]
 | x::a,y::b=>by rw[eqL,zoc a b,Bool.eq_iff_iff]; simp
theorem eqfExpr_c(a b:List Expr)(hla:a.length<=9223372036854775807)(g:Nat)(p:Expr->Expr->Bool)(hf: ∀x∈a,∀y∈b,FnP Tryz.prog g [.agg (zbx x),.agg (zbx y)] (.d (eB (p x y))) []):FnP Tryz.prog 168 [.sl (a.map zbx),.sl (b.map zbx),.clo (.func g) [] []] (.d (eB (eqL p a b))) []:=by
 refine FnP.of_eC (own:=[]) (fun _=>[]) zat Tryz.func168 rfl Tryz.call168 Tryz.ntmps168 (Nat.le_of_ble_eq_true rfl) Tryz.results168 (fun hok=> ?_);by_cases hab:a.length=b.length
 ·have h0:((a.length:Int) !=(b.length:Int))=false:=by simp[hab]
  simp(maxSteps:=4000000) only[ZE,↓reduceIte,pE,pL,pA,pS,pM,pD,zN,qT,qG,qL,qH,qN,qB,qE,qO,qA,qM,h0,List.length_map];refine za1 (fun _=>[]) zat a.length (fun i=> ∀j (h:j<a.length) (h':j<b.length),j<i->p a[j] b[j]=true) (fun i=>([(1,.d (.sl (b.map zbx))),(2,.d (.clo (.func g) [] [])),(15,.d (.sl (a.map zbx))),(16,.d (eI a.length)),(17,.d (eI i))],[])) (by intro j _ _ h; omega) (by simp only[ZE,↓reduceIte,pE,pL,pA,pS,pM,pD,zN,qT,qG,qL,qH,qN,qB,qE,qO,qA,qM,List.length_map]) (by simp only[ZE,↓reduceIte,pE,pL,pA,pS,pM,pD]) (fun i hi hI=> ?_);rcases Nat.lt_or_ge i a.length with h | h
  ·have hw:=zaq (show i<9223372036854775807 by omega);have h':i<b.length:=by omega
   have hc:=hf a[i] (List.getElem_mem h) b[i] (List.getElem_mem h');obtain⟨q,hq⟩:=zX (p a[i] b[i]);rw[hq]at hc;simp only[ZE,↓reduceIte,pE,pL,pA,pS,pM,pD]at hc;simp(maxSteps:=4000000) only[ZE,↓reduceIte,pE,pL,pA,pS,pM,pD,zaw h,zaa h,zai h,zaa h',zai h',hw,zN,qT,qG,qL,qH,qN,qB,qE,qO,qA,qM,List.length_map];refine EFn.p ?_;simp only[ZE,↓reduceIte,pE,pL,pA,pS,pM,pD,zN,qT,qG,qL,qH,qN,qB,qE,qO,qA,qM];refine zar.i hc ?_;cases q with
   | true=>
    simp only[ZE,↓reduceIte,pE,pL,pA,pS,pM,pD,zN,qT,qG,qL,qH,qN,qB,qE,qO,qA,qM,hw];refine⟨h,fun j h1 h2 hj=> ?_⟩;rcases Nat.lt_succ_iff_lt_or_eq.1 hj with hj | rfl
    ·exact hI j h1 h2 hj
    ·exact hq
   | false=>
    have e:=zgt h h' hq;simp only[ZE,↓reduceIte,pE,pL,pA,pS,pM,pD,zN,qT,qG,qL,qH,qN,qB,qE,qO,qA,qM,e]
  ·have:i=a.length:=by omega
   subst this;have e:=zeC hab (fun i h1 h2=>hI i h1 h2 h1);simp(maxSteps:=4000000) only[ZE,↓reduceIte,pE,pL,pA,pS,pM,pD,zaI h,zN,qT,qG,qL,qH,qN,qB,qE,qO,qA,qM,e]
 ·have h0:((a.length:Int) !=(b.length:Int))=true:=by simp; omega
  have e:=zgu (p:=p) hab;simp(maxSteps:=4000000) only[ZE,↓reduceIte,pE,pL,pA,pS,pM,pD,zN,qT,qG,qL,qH,qN,qB,qE,qO,qA,qM,h0,e,List.length_map]
theorem eqfItem_c(a b:List Item)(hla:a.length<=9223372036854775807)(g:Nat)(p:Item->Item->Bool)(hf: ∀x∈a,∀y∈b,FnP Tryz.prog g [.agg (zaK x),.agg (zaK y)] (.d (eB (p x y))) []):FnP Tryz.prog 62 [.sl (a.map zaK),.sl (b.map zaK),.clo (.func g) [] []] (.d (eB (eqL p a b))) []:=by
 refine FnP.of_eC (own:=[]) (fun _=>[]) zat Tryz.func62 rfl Tryz.call62 Tryz.ntmps62 (Nat.le_of_ble_eq_true rfl) Tryz.results62 (fun hok=> ?_);by_cases hab:a.length=b.length
 ·have h0:((a.length:Int) !=(b.length:Int))=false:=by simp[hab]
  simp(maxSteps:=4000000) only[ZE,↓reduceIte,pE,pL,pA,pS,pM,pD,zN,qT,qG,qL,qH,qN,qB,qE,qO,qA,qM,h0,List.length_map];refine za1 (fun _=>[]) zat a.length (fun i=> ∀j (h:j<a.length) (h':j<b.length),j<i->p a[j] b[j]=true) (fun i=>([(1,.d (.sl (b.map zaK))),(2,.d (.clo (.func g) [] [])),(15,.d (.sl (a.map zaK))),(16,.d (eI a.length)),(17,.d (eI i))],[])) (by intro j _ _ h; omega) (by simp only[ZE,↓reduceIte,pE,pL,pA,pS,pM,pD,zN,qT,qG,qL,qH,qN,qB,qE,qO,qA,qM,List.length_map]) (by simp only[ZE,↓reduceIte,pE,pL,pA,pS,pM,pD]) (fun i hi hI=> ?_);rcases Nat.lt_or_ge i a.length with h | h
  ·have hw:=zaq (show i<9223372036854775807 by omega);have h':i<b.length:=by omega
   have hc:=hf a[i] (List.getElem_mem h) b[i] (List.getElem_mem h');obtain⟨q,hq⟩:=zX (p a[i] b[i]);rw[hq]at hc;simp only[ZE,↓reduceIte,pE,pL,pA,pS,pM,pD]at hc;simp(maxSteps:=4000000) only[ZE,↓reduceIte,pE,pL,pA,pS,pM,pD,zaw h,zaa h,zai h,zaa h',zai h',hw,zN,qT,qG,qL,qH,qN,qB,qE,qO,qA,qM,List.length_map];refine EFn.p ?_;simp only[ZE,↓reduceIte,pE,pL,pA,pS,pM,pD,zN,qT,qG,qL,qH,qN,qB,qE,qO,qA,qM];refine zar.i hc ?_;cases q with
   | true=>
    simp only[ZE,↓reduceIte,pE,pL,pA,pS,pM,pD,zN,qT,qG,qL,qH,qN,qB,qE,qO,qA,qM,hw];refine⟨h,fun j h1 h2 hj=> ?_⟩;rcases Nat.lt_succ_iff_lt_or_eq.1 hj with hj | rfl
    ·exact hI j h1 h2 hj
    ·exact hq
   | false=>
    have e:=zgt h h' hq;simp only[ZE,↓reduceIte,pE,pL,pA,pS,pM,pD,zN,qT,qG,qL,qH,qN,qB,qE,qO,qA,qM,e]
  ·have:i=a.length:=by omega
   subst this;have e:=zeC hab (fun i h1 h2=>hI i h1 h2 h1);simp(maxSteps:=4000000) only[ZE,↓reduceIte,pE,pL,pA,pS,pM,pD,zaI h,zN,qT,qG,qL,qH,qN,qB,qE,qO,qA,qM,e]
 ·have h0:((a.length:Int) !=(b.length:Int))=true:=by simp; omega
  have e:=zgu (p:=p) hab;simp(maxSteps:=4000000) only[ZE,↓reduceIte,pE,pL,pA,pS,pM,pD,zN,qT,qG,qL,qH,qN,qB,qE,qO,qA,qM,h0,e,List.length_map]
theorem eqfModule_c(a b:List Module)(hla:a.length<=9223372036854775807)(g:Nat)(p:Module->Module->Bool)(hf: ∀x∈a,∀y∈b,FnP Tryz.prog g [.agg (zaC x),.agg (zaC y)] (.d (eB (p x y))) []):FnP Tryz.prog 59 [.sl (a.map zaC),.sl (b.map zaC),.clo (.func g) [] []] (.d (eB (eqL p a b))) []:=by
 refine FnP.of_eC (own:=[]) (fun _=>[]) zat Tryz.func59 rfl Tryz.call59 Tryz.ntmps59 (Nat.le_of_ble_eq_true rfl) Tryz.results59 (fun hok=> ?_);by_cases hab:a.length=b.length
 ·have h0:((a.length:Int) !=(b.length:Int))=false:=by simp[hab]
  simp(maxSteps:=4000000) only[ZE,↓reduceIte,pE,pL,pA,pS,pM,pD,zN,qT,qG,qL,qH,qN,qB,qE,qO,qA,qM,h0,List.length_map];refine za1 (fun _=>[]) zat a.length (fun i=> ∀j (h:j<a.length) (h':j<b.length),j<i->p a[j] b[j]=true) (fun i=>([(1,.d (.sl (b.map zaC))),(2,.d (.clo (.func g) [] [])),(15,.d (.sl (a.map zaC))),(16,.d (eI a.length)),(17,.d (eI i))],[])) (by intro j _ _ h; omega) (by simp only[ZE,↓reduceIte,pE,pL,pA,pS,pM,pD,zN,qT,qG,qL,qH,qN,qB,qE,qO,qA,qM,List.length_map]) (by simp only[ZE,↓reduceIte,pE,pL,pA,pS,pM,pD]) (fun i hi hI=> ?_);rcases Nat.lt_or_ge i a.length with h | h
  ·have hw:=zaq (show i<9223372036854775807 by omega);have h':i<b.length:=by omega
   have hc:=hf a[i] (List.getElem_mem h) b[i] (List.getElem_mem h');obtain⟨q,hq⟩:=zX (p a[i] b[i]);rw[hq]at hc;simp only[ZE,↓reduceIte,pE,pL,pA,pS,pM,pD]at hc;simp(maxSteps:=4000000) only[ZE,↓reduceIte,pE,pL,pA,pS,pM,pD,zaw h,zaa h,zai h,zaa h',zai h',hw,zN,qT,qG,qL,qH,qN,qB,qE,qO,qA,qM,List.length_map];refine EFn.p ?_;simp only[ZE,↓reduceIte,pE,pL,pA,pS,pM,pD,zN,qT,qG,qL,qH,qN,qB,qE,qO,qA,qM];refine zar.i hc ?_;cases q with
   | true=>
    simp only[ZE,↓reduceIte,pE,pL,pA,pS,pM,pD,zN,qT,qG,qL,qH,qN,qB,qE,qO,qA,qM,hw];refine⟨h,fun j h1 h2 hj=> ?_⟩;rcases Nat.lt_succ_iff_lt_or_eq.1 hj with hj | rfl
    ·exact hI j h1 h2 hj
    ·exact hq
   | false=>
    have e:=zgt h h' hq;simp only[ZE,↓reduceIte,pE,pL,pA,pS,pM,pD,zN,qT,qG,qL,qH,qN,qB,qE,qO,qA,qM,e]
  ·have:i=a.length:=by omega
   subst this;have e:=zeC hab (fun i h1 h2=>hI i h1 h2 h1);simp(maxSteps:=4000000) only[ZE,↓reduceIte,pE,pL,pA,pS,pM,pD,zaI h,zN,qT,qG,qL,qH,qN,qB,qE,qO,qA,qM,e]
 ·have h0:((a.length:Int) !=(b.length:Int))=true:=by simp; omega
  have e:=zgu (p:=p) hab;simp(maxSteps:=4000000) only[ZE,↓reduceIte,pE,pL,pA,pS,pM,pD,zN,qT,qG,qL,qH,qN,qB,qE,qO,qA,qM,h0,e,List.length_map]
theorem key_str(x y:Str):decide (x.1=y.1)=decide (x=y):=str_eq x y
theorem equalStr_c(a b:List Str)(hla:a.length<=9223372036854775807):FnP Tryz.prog 116 [.sl (a.map fun x=>[eS x]),.sl (b.map fun x=>[eS x])] (.d (eB (decide (a=b)))) []:=by
 rw[<-zoc];refine FnP.of_eC (own:=[]) (fun _=>[]) zat Tryz.func116 rfl Tryz.call116 Tryz.ntmps116 (Nat.le_of_ble_eq_true rfl) Tryz.results116 (fun hok=> ?_);by_cases hab:a.length=b.length
 ·have h0:((a.length:Int) !=(b.length:Int))=false:=by simp[hab]
  simp(maxSteps:=4000000) only[ZE,↓reduceIte,pE,pL,pA,pS,pM,pD,zN,qT,qG,qL,qH,qN,qB,qE,qO,qA,qM,h0,List.length_map];refine za1 (fun _=>[]) zat a.length (fun i=> ∀j (h:j<a.length) (h':j<b.length),j<i->decide (a[j]=b[j])=true) (fun i=>([(0,.d (.sl (a.map fun x=>[eS x]))),(1,.d (.sl (b.map fun x=>[eS x]))),(12,.d (eI a.length)),(13,.d (eI i))],[])) (by intro j _ _ h; omega) (by simp only[ZE,↓reduceIte,pE,pL,pA,pS,pM,pD,zN,qT,qG,qL,qH,qN,qB,qE,qO,qA,qM,List.length_map]) (by simp only[ZE,↓reduceIte,pE,pL,pA,pS,pM,pD]) (fun i hi hI=> ?_);rcases Nat.lt_or_ge i a.length with h | h
  ·have hw:=zaq (show i<9223372036854775807 by omega);have h':i<b.length:=by omega
   have key:=key_str a[i] b[i];obtain⟨q,hq⟩:=zX (decide (a[i]=b[i]));rw[hq]at key;simp(maxSteps:=4000000) only[ZE,↓reduceIte,pE,pL,pA,pS,pM,pD,zaw h,zaa h,zai h,zaa h',zai h',hw,zN,qT,qG,qL,qH,qN,qB,qE,qO,qA,qM,List.length_map,key];refine⟨by kernel_rfl,?_⟩;cases q with
   | true=>
    simp only[ZE,↓reduceIte,pE,pL,pA,pS,pM,pD];refine⟨h,fun j h1 h2 hj=> ?_⟩;rcases Nat.lt_succ_iff_lt_or_eq.1 hj with hj | rfl
    ·exact hI j h1 h2 hj
    ·exact hq
   | false=>
    have e:=zgt (p:=fun x y:Str=>decide (x=y)) h h' hq;simp only[ZE,↓reduceIte,pE,pL,pA,pS,pM,pD,e]
  ·have:i=a.length:=by omega
   subst this;have e:=zeC (p:=fun x y:Str=>decide (x=y)) hab (fun i h1 h2=>hI i h1 h2 h1);simp(maxSteps:=4000000) only[ZE,↓reduceIte,pE,pL,pA,pS,pM,pD,zaI h,zN,qT,qG,qL,qH,qN,qB,qE,qO,qA,qM,e]
 ·have h0:((a.length:Int) !=(b.length:Int))=true:=by simp; omega
  have e:=zgu (p:=fun x y:Str=>decide (x=y)) hab;simp(maxSteps:=4000000) only[ZE,↓reduceIte,pE,pL,pA,pS,pM,pD,zN,qT,qG,qL,qH,qN,qB,qE,qO,qA,qM,h0,e,List.length_map]
theorem zhX(x y:Num):(x.n==y.n&&decide (x.p=y.p))=decide (x=y):=by
 obtain⟨a,b⟩:=x;obtain⟨c,d⟩:=y;rw[Bool.eq_iff_iff]; simp
theorem key_bind(x y:Bind):(decide (x.port=y.port)&&decide (x.chan=y.chan))=decide (x=y):=by
 obtain⟨a,b⟩:=x;obtain⟨c,d⟩:=y;rw[Bool.eq_iff_iff]; simp
theorem equalNum_c(a b:List Num)(hla:a.length<=9223372036854775807):FnP Tryz.prog 117 [.sl (a.map fun x=>zgL x),.sl (b.map fun x=>zgL x)] (.d (eB (decide (a=b)))) []:=by
 rw[<-zoc];refine FnP.of_eC (own:=[]) (fun _=>[]) zat Tryz.func117 rfl Tryz.call117 Tryz.ntmps117 (Nat.le_of_ble_eq_true rfl) Tryz.results117 (fun hok=> ?_);by_cases hab:a.length=b.length
 ·have h0:((a.length:Int) !=(b.length:Int))=false:=by simp[hab]
  simp(maxSteps:=4000000) only[ZE,↓reduceIte,pE,pL,pA,pS,pM,pD,zN,qT,qG,qL,qH,qN,qB,qE,qO,qA,qM,h0,List.length_map];refine za1 (fun _=>[]) zat a.length (fun i=> ∀j (h:j<a.length) (h':j<b.length),j<i->decide (a[j]=b[j])=true) (fun i=>([(0,.d (.sl (a.map fun x=>zgL x))),(1,.d (.sl (b.map fun x=>zgL x))),(12,.d (eI a.length)),(13,.d (eI i))],[])) (by intro j _ _ h; omega) (by simp only[ZE,↓reduceIte,pE,pL,pA,pS,pM,pD,zN,qT,qG,qL,qH,qN,qB,qE,qO,qA,qM,List.length_map]) (by simp only[ZE,↓reduceIte,pE,pL,pA,pS,pM,pD]) (fun i hi hI=> ?_);rcases Nat.lt_or_ge i a.length with h | h
  ·have hw:=zaq (show i<9223372036854775807 by omega);have h':i<b.length:=by omega
   have key:=zhX a[i] b[i];obtain⟨q,hq⟩:=zX (decide (a[i]=b[i]));rw[hq]at key;simp(maxSteps:=4000000) only[ZE,↓reduceIte,pE,pL,pA,pS,pM,pD,zaw h,zaa h,zai h,zaa h',zai h',hw,zN,qT,qG,qL,qH,qN,qB,qE,qO,qA,qM,List.length_map,key];refine⟨by kernel_rfl,?_⟩;cases q with
   | true=>
    simp only[ZE,↓reduceIte,pE,pL,pA,pS,pM,pD];refine⟨h,fun j h1 h2 hj=> ?_⟩;rcases Nat.lt_succ_iff_lt_or_eq.1 hj with hj | rfl
    ·exact hI j h1 h2 hj
    ·exact hq
   | false=>
    have e:=zgt (p:=fun x y:Num=>decide (x=y)) h h' hq;simp only[ZE,↓reduceIte,pE,pL,pA,pS,pM,pD,e]
  ·have:i=a.length:=by omega
   subst this;have e:=zeC (p:=fun x y:Num=>decide (x=y)) hab (fun i h1 h2=>hI i h1 h2 h1);simp(maxSteps:=4000000) only[ZE,↓reduceIte,pE,pL,pA,pS,pM,pD,zaI h,zN,qT,qG,qL,qH,qN,qB,qE,qO,qA,qM,e]
 ·have h0:((a.length:Int) !=(b.length:Int))=true:=by simp; omega
  have e:=zgu (p:=fun x y:Num=>decide (x=y)) hab;simp(maxSteps:=4000000) only[ZE,↓reduceIte,pE,pL,pA,pS,pM,pD,zN,qT,qG,qL,qH,qN,qB,qE,qO,qA,qM,h0,e,List.length_map]
theorem equalBind_c(a b:List Bind)(hla:a.length<=9223372036854775807):FnP Tryz.prog 118 [.sl (a.map fun x=>zjO x),.sl (b.map fun x=>zjO x)] (.d (eB (decide (a=b)))) []:=by
 rw[<-zoc];refine FnP.of_eC (own:=[]) (fun _=>[]) zat Tryz.func118 rfl Tryz.call118 Tryz.ntmps118 (Nat.le_of_ble_eq_true rfl) Tryz.results118 (fun hok=> ?_);by_cases hab:a.length=b.length
 ·have h0:((a.length:Int) !=(b.length:Int))=false:=by simp[hab]
  simp(maxSteps:=4000000) only[ZE,↓reduceIte,pE,pL,pA,pS,pM,pD,zN,qT,qG,qL,qH,qN,qB,qE,qO,qA,qM,h0,List.length_map];refine za1 (fun _=>[]) zat a.length (fun i=> ∀j (h:j<a.length) (h':j<b.length),j<i->decide (a[j]=b[j])=true) (fun i=>([(0,.d (.sl (a.map fun x=>zjO x))),(1,.d (.sl (b.map fun x=>zjO x))),(12,.d (eI a.length)),(13,.d (eI i))],[])) (by intro j _ _ h; omega) (by simp only[ZE,↓reduceIte,pE,pL,pA,pS,pM,pD,zN,qT,qG,qL,qH,qN,qB,qE,qO,qA,qM,List.length_map]) (by simp only[ZE,↓reduceIte,pE,pL,pA,pS,pM,pD]) (fun i hi hI=> ?_);rcases Nat.lt_or_ge i a.length with h | h
  ·have hw:=zaq (show i<9223372036854775807 by omega);have h':i<b.length:=by omega
   have key:=key_bind a[i] b[i];obtain⟨q,hq⟩:=zX (decide (a[i]=b[i]));rw[hq]at key;simp(maxSteps:=4000000) only[ZE,↓reduceIte,pE,pL,pA,pS,pM,pD,zaw h,zaa h,zai h,zaa h',zai h',hw,zN,qT,qG,qL,qH,qN,qB,qE,qO,qA,qM,List.length_map,key];refine⟨by kernel_rfl,?_⟩;cases q with
   | true=>
    simp only[ZE,↓reduceIte,pE,pL,pA,pS,pM,pD];refine⟨h,fun j h1 h2 hj=> ?_⟩;rcases Nat.lt_succ_iff_lt_or_eq.1 hj with hj | rfl
    ·exact hI j h1 h2 hj
    ·exact hq
   | false=>
    have e:=zgt (p:=fun x y:Bind=>decide (x=y)) h h' hq;simp only[ZE,↓reduceIte,pE,pL,pA,pS,pM,pD,e]
  ·have:i=a.length:=by omega
   subst this;have e:=zeC (p:=fun x y:Bind=>decide (x=y)) hab (fun i h1 h2=>hI i h1 h2 h1);simp(maxSteps:=4000000) only[ZE,↓reduceIte,pE,pL,pA,pS,pM,pD,zaI h,zN,qT,qG,qL,qH,qN,qB,qE,qO,qA,qM,e]
 ·have h0:((a.length:Int) !=(b.length:Int))=true:=by simp; omega
  have e:=zgu (p:=fun x y:Bind=>decide (x=y)) hab;simp(maxSteps:=4000000) only[ZE,↓reduceIte,pE,pL,pA,pS,pM,pD,zN,qT,qG,qL,qH,qN,qB,qE,qO,qA,qM,h0,e,List.length_map]
theorem eqL_E: ∀a b:List Expr,eqL zil a b=zjF a b
 | [],[]=>by simp[eqL,zjF]
 | [],_::_=>by simp[eqL,zjF]
 | _::_,[]=>by simp[eqL,zjF]
 | x::a,y::b=>by rw[eqL,zjF,eqL_E a b]
theorem eqL_I: ∀a b:List Item,eqL zlG a b=zl1 a b
 | [],[]=>by simp[eqL,zl1]
 | [],_::_=>by simp[eqL,zl1]
 | _::_,[]=>by simp[eqL,zl1]
 | x::a,y::b=>by rw[eqL,zl1,eqL_I a b]
theorem eqL_M: ∀a b:List Module,eqL zm4 a b=zl6 a b
 | [],[]=>by simp[eqL,zl6]
 | [],_::_=>by simp[eqL,zl6]
 | _::_,[]=>by simp[eqL,zl6]
 | x::a,y::b=>by rw[eqL,zl6,eqL_M a b]
theorem expr_lens(e:Expr)(h:D.ok (.agg (zbx e))):e.args.length<=9223372036854775807:=by
 rw[zb6]at h;simp only[D.ok,D.okL]at h;exact(za9 h.2.2.2.2.2.2.1).1
/-- Expressions compared. -/
theorem zxE: ∀(n:Nat) (a b:Expr),sz a<n->FnP Tryz.prog 119 [.agg (zbx a),.agg (zbx b)] (.d (eB (zil a b))) []
 | 0,_,_,h=>by omega
 | n+1,.mk o m k w a,.mk o' m' k' w' a',hn=>by
  refine FnP.of_eC (own:=[]) (fun i=>if i=2001 then [.chn]else []) zat Tryz.func119 rfl Tryz.call119 Tryz.ntmps119 (Nat.le_of_ble_eq_true rfl) Tryz.results119 (fun hok=> ?_);have hla:a.length<=9223372036854775807:=expr_lens (.mk o m k w a) (zaM hok).1;have hs:(a.map sz).sum <n:=by rw[zec]at hn; omega
  have ec:=eqfExpr_c a a' hla 119 zil (fun x hx y hy=>zxE n x y (by have:=zuv hx; omega));rw[eqL_E]at ec;have hS:zil (.mk o m k w a) (.mk o' m' k' w' a')=((o==o'&&decide (m=m')&&decide (k=k')&&decide (w=w'))&&zjF a a'):=by rw[zil]
  rw[hS];have k1:=zhX k k';have k2:=zhX w w';simp only[ZE,↓reduceIte,pE,pL,pA,pS,pM,pD]at ec;simp(maxSteps:=4000000) only[ZE,↓reduceIte,pE,pL,pA,pS,pM,pD,zcW,zbm,zgN,zgO,zbl,k1,k2];refine za3.i (fun _=>ec) ?_;simp only[ZE,↓reduceIte,pE,pL,pA,pS,pM,pD]
theorem sameH_c(m n:Module):FnP Tryz.prog 61 [.agg (zaC m),.agg (zaC n)] (.d (eB (zug m n))) []:=by
 refine FnP.of_eC (own:=[]) (fun i=>if i=2001 then [.chn]else []) zat Tryz.func61 rfl Tryz.call61 Tryz.ntmps61 (Nat.le_of_ble_eq_true rfl) Tryz.results61 (fun hok=> ?_);have hla:m.params.length<=9223372036854775807:=by
  have:=(zaM hok).1;simp only[zaC,zd5,D.ok,D.okL]at this;exact(za9 this.2.2.1).1
 have ec:=equalStr_c m.params n.params hla;unfold zug;simp only[ZE,↓reduceIte,pE,pL,pA,pS,pM,pD]at ec;simp(maxSteps:=4000000) only[ZE,↓reduceIte,pE,pL,pA,pS,pM,pD,zN,qT,qG,qL,qH,qN,qB,qE,qO,qA,qM];refine za3.i (fun _=>ec) ?_;simp only[ZE,↓reduceIte,pE,pL,pA,pS,pM,pD]
theorem part_key(x y:Item):(x.kind.1==y.kind.1&&decide (x.name=y.name))=decide (zbg x=zbg y):=zxs (zbg x) (zbg y)
theorem tof_c(x:Item):FnP Tryz.prog 111 [.agg (zaK x)] (.d (.agg (zfX (zbg x)))) []:=by
 refine FnP.of_eC (own:=[]) (fun _=>[]) zat Tryz.func111 rfl Tryz.call111 Tryz.ntmps111 (Nat.le_of_ble_eq_true rfl) Tryz.results111 (fun hok=> ?_);simp(maxSteps:=4000000) only[ZE,↓reduceIte,pE,pL,pA,pS,pM,pD,zfX,zbg]
theorem key_rule(x y:Rule):(x.kind==y.kind&&decide (x.from'=y.from')&&(x.n==y.n))=decide (x=y):=by
 obtain⟨a,b,c⟩:=x;obtain⟨a',b',c'⟩:=y;rw[Bool.eq_iff_iff]; simp[and_assoc]
set_option maxHeartbeats 40000000
theorem sameI_c(x y:Item):FnP Tryz.prog 63 [.agg (zaK x),.agg (zaK y)] (.d (eB (zlG x y))) []:=by
 refine FnP.of_eC (own:=[]) (fun i=>if i=2001 then [.chn]else if i=2002 then [.chn,.ord ⟨[(0,none),(1,none),(2,none),(3,none),(4,none),(5,none),(6,none),(7,none),(8,none),(9,none),(10,none),(11,none),(12,none),(13,none),(14,none),(15,none),(16,none),(17,none),(18,none),(19,none),(20,none),(21,none),(22,none),(23,none),(24,none),(25,none),(26,none),(27,none),(28,none),(29,none),(30,none),(31,none),(32,none),(33,none),(34,none),(35,none),(36,none),(37,none),(38,none),(39,none),(40,none),(41,none),(42,none),(43,none),(44,none),(45,none),(46,none),(47,none),(48,none),(49,none),(50,none),(51,none),(52,none),(53,none),(54,none),(55,none),(56,none),(57,none)]⟩]else []) zat Tryz.func63 rfl Tryz.call63 Tryz.ntmps63 (Nat.le_of_ble_eq_true rfl) Tryz.results63 (fun hok=> ?_);have hl:x.args.length<=9223372036854775807/\x.ports.length<=9223372036854775807:=by
  have:=(zaM hok).1;simp only[zaK,zgL,zb6,zib,ziG,zel,List.cons_append,List.nil_append,D.ok,D.okL]at this;obtain⟨_,_,_,_,_,_,_,_,_,_,_,_,_,_,_,_,_,_,_,_,_,_,_,_,_,_,_,_,_,_,_,_,_,h1,h2,_⟩:=this;exact⟨(za9 h1).1,(za9 h2).1⟩
 have c1:=tof_c x;have c2:=tof_c y;have c3:=equalNum_c x.args y.args hl.1;have c4:=equalBind_c x.ports y.ports hl.2;have c5:=zxE _ x.a y.a (Nat.lt_succ_self _);have c6:=zxE _ x.b y.b (Nat.lt_succ_self _);have c7:=zxE _ x.c y.c (Nat.lt_succ_self _);have k0:=part_key x y;have k1:=zhX x.width y.width;have k2:=zhX x.depth y.depth;have k3:=zhX x.init y.init;have k4:=key_rule x.rule y.rule;simp only[ZE,↓reduceIte,pE,pL,pA,pS,pM,pD,zfX,zbg]at c1 c2 c3 c4 c5 c6 c7;simp(maxSteps:=4000000) only[ZE,↓reduceIte,pE,pL,pA,pS,pM,pD,zN,qT,qG,qL,qH,qN,qB,qE,qO,qA,qM,k1,k2,k3];refine⟨by kernel_rfl,za3.i (fun _=>c1) ?_⟩;simp only[ZE,↓reduceIte,pE,pL,pA,pS,pM,pD,zN,qT,qG,qL,qH,qN,qB,qE,qO,qA,qM];refine za3.i (fun _=>c2) ?_;simp only[ZE,↓reduceIte,pE,pL,pA,pS,pM,pD,zN,qT,qG,qL,qH,qN,qB,qE,qO,qA,qM,k0,k4];refine za3.i (fun _=>c3) ?_;simp only[ZE,↓reduceIte,pE,pL,pA,pS,pM,pD,zN,qT,qG,qL,qH,qN,qB,qE,qO,qA,qM];refine za3.i (fun _=>c4) ?_;simp only[ZE,↓reduceIte,pE,pL,pA,pS,pM,pD,zN,qT,qG,qL,qH,qN,qB,qE,qO,qA,qM];refine za3.i (fun _=>c5) ?_;simp only[ZE,↓reduceIte,pE,pL,pA,pS,pM,pD,zN,qT,qG,qL,qH,qN,qB,qE,qO,qA,qM];refine za3.i (fun _=>c6) ?_;simp only[ZE,↓reduceIte,pE,pL,pA,pS,pM,pD,zN,qT,qG,qL,qH,qN,qB,qE,qO,qA,qM];refine za3.i (fun _=>c7) ?_;simp only[ZE,↓reduceIte,pE,pL,pA,pS,pM,pD,zN,qT,qG,qL,qH,qN,qB,qE,qO,qA,qM];have k4':(x.rule.kind==y.rule.kind&&(decide (x.rule.from'=y.rule.from')&&x.rule.n==y.rule.n))=decide (x.rule=y.rule):=by
  rw[<-Bool.and_assoc]; exact k4
 rw[k4'];rfl
open Go.Aw Go.Sort Go.RowKit
def zsi(x y:ByteArray):Int:=if Op.bytesLess x.toList y.toList=true then-1 else if (!(Op.bytesLess x.toList y.toList||x.toList==y.toList))=true then 1 else 0
theorem nanI_w(x:Int)(w:World):Calls Tryz.prog 210 #[.int .i64 x] w fun e w'=>e= .returned (.bool false)/\w'=w:=by
 go_enter Tryz.func210,Tryz.ntmps210
 go_wp2;go_ret;exact⟨by simp,rfl⟩
set_option maxHeartbeats 1000000 in
theorem cmpI_w(x y:Int)(w:World):Calls Tryz.prog 155 #[.int .i64 x,.int .i64 y] w fun e w'=>e= .returned (.int .i64 (zh1 x y))/\w'=w:=by
 go_enter Tryz.func155,Tryz.ntmps155
 go_wp2_with (go_at_call 210; refine(nanI_w _ _).mono ?_; rintro e w' ⟨rfl,hw⟩; rw[hw])
 all_goals (go_ret; refine⟨?_,rfl⟩; unfold zh1; (repeat' split) <;> first | rfl | (exfalso; omega))
theorem nanS_w(x:ByteArray)(w:World):Calls Tryz.prog 167 #[.string x] w fun e w'=>e= .returned (.bool false)/\w'=w:=by
 go_enter Tryz.func167,Tryz.ntmps167
 go_wp2;go_ret;exact⟨by simp,rfl⟩
set_option maxHeartbeats 1000000 in
theorem cmpS_w(x y:ByteArray)(w:World):Calls Tryz.prog 115 #[.string x,.string y] w fun e w'=>e= .returned (.int .i64 (zsi x y))/\w'=w:=by
 go_enter Tryz.func115,Tryz.ntmps115
 go_wp2_with (go_at_call 167; refine(nanS_w _ _).mono ?_; rintro e w' ⟨rfl,hw⟩; rw[hw])
 all_goals (go_ret; refine⟨?_,rfl⟩; unfold zsi; simp_all)
set_option maxHeartbeats 2000000 in
theorem or2_w(x y:Int)(b cap:Nat)(w:World)(h0:w.cell? ⟨b,0,none⟩=some (.int .i64 x))(h1:w.cell? ⟨b,1,none⟩=some (.int .i64 y)):
  Calls Tryz.prog 154 #[.slice (some ⟨b,0,none⟩) 2 cap] w fun e w'=>e= .returned (.int .i64 (orI [x,y]))/\w'=w:=by
 go_enter Tryz.func154,Tryz.ntmps154
 go_wp2
 go_rounds 3
 all_goals go_ret
 all_goals refine⟨?_,rfl⟩
 all_goals simp_all [orI]
set_option maxHeartbeats 4000000 in
theorem part_w(ak:Int)(an:ByteArray)(bk:Int)(bn:ByteArray)(w:World):Calls Tryz.prog 110 #[.agg #[.int .i64 ak,.string an],.agg #[.int .i64 bk,.string bn]] w fun e w'=>
  e= .returned (.int .i64 (orI [zh1 ak bk,zsi an bn]))/\ ∃q os',w'=grow (w.drewN q) os':=by
 go_enter Tryz.func110,Tryz.ntmps110
 go_wp2;refine wp_region_still_tail 10 zat (by kernel_rfl) ?_;obtain⟨W,hW⟩: ∃W:World,W={((w.alloc (.cells #[.int .i64 ak,.string an] 66)).alloc (.cells #[.int .i64 bk,.string bn] 66))with drawn:=((w.alloc (.cells #[.int .i64 ak,.string an] 66)).alloc (.cells #[.int .i64 bk,.string bn] 66)).drawn +1}:=⟨_,rfl⟩;rw[<-hW];obtain⟨c0,c1,hG⟩:=two_w w _ _ W hW;have a0:W.cell? ⟨w.heap.size,0,none⟩=some (.int .i64 ak):=by simp[World.cell?,c0]
 have a1:W.cell? ⟨w.heap.size,1,none⟩=some (.string an):=by simp[World.cell?,c0]
 have b0:W.cell? ⟨w.heap.size+1,0,none⟩=some (.int .i64 bk):=by simp[World.cell?,c1]
 have b1:W.cell? ⟨w.heap.size+1,1,none⟩=some (.string bn):=by simp[World.cell?,c1]
 clear hW c0 c1;simp only[List.take_succ_cons,List.take_zero,List.drop_succ_cons,List.drop_zero]
 repeat still_step
 still_call (cmpI_w _ _ _)
 repeat still_step
 still_call (cmpS_w _ _ _)
 repeat still_step
 try refine wpStill_nil ?_
 generalize hx:zh1 ak bk=x at*;generalize hy:zsi an bn=y at*;clear a0 a1 b0 b1;obtain⟨q,os',rfl⟩:=hG;generalize hWW:grow (w.drewN q) os'=W;have hor: ∀W',W'=W.alloc (.cells #[.int .i64 x,.int .i64 y] 3)->Calls Tryz.prog 154 #[.slice (some ⟨W.heap.size,0,none⟩) 2 2] W' fun e w'=>e= .returned (.int .i64 (orI [x,y]))/\w'=W':=by
  rintro W' rfl;have hh:=World.alloc_heap_new W (.cells #[.int .i64 x,.int .i64 y] 3);exact or2_w x y _ _ _ (by simp only[World.cell?,hh]; rfl) (by simp only[World.cell?,hh]; rfl)
 generalize hr:orI [x,y]=r at*
 go_wp2_with (go_at_call 154; refine(hor _ rfl).mono ?_; rintro e w' ⟨rfl,rfl⟩)
 go_ret;refine⟨by rw[hx,hy,hr]; rfl,q,os'++#[.cells #[.int .i64 x,.int .i64 y] 3],?_⟩;rw[alloc_eq_grow,<-hWW,grow_grow]
theorem of_w(row:Array Value)(hsz:row.size=35)(k:Int)(s:ByteArray)(h0:row[0]? =some (.int .i64 k))(h1:row[1]? =some (.string s))(w:World):
  Calls Tryz.prog 111 #[.agg row] w fun e w'=>e= .returned (.agg #[.int .i64 k,.string s])/\ ∃os',w'=grow w os':=by
 have g0:row[0]'(by omega)= .int .i64 k:=by simpa [hsz]using h0
 have g1:row[1]'(by omega)= .string s:=by simpa [hsz]using h1
 go_enter Tryz.func111,Tryz.ntmps111
 go_wp2;refine bodyPost_ret (v:=.agg #[.int .i64 k,.string s]) (results_cell_row rfl _ _ (w.heap.size+1) 66 #[.int .i64 k,.string s] (0,0) _ rfl (heap_alloc2_new _ _ _) Tryz.underlying66 rfl (by kernel_rfl)) rfl ⟨rfl,#[.cells row 64,.cells #[.int .i64 k,.string s] 66],?_⟩;rw[alloc_eq_grow,alloc_eq_grow,grow_grow]; rfl
theorem znU{P:Program}{o:Oper}{a:Act}{C:World->Prop}{K:Act->Prop}(ty:TypeId)(x:Operand)(ho:o.op= .load ty x)
  (g:Nat) (hx:a.eval x= .pointer (some ⟨g,0,none⟩)) (t:TypeId) (cs:Array Value) (fr:Nat×Nat) (d:TypeDesc) (hg: ∀w,C w->w.heap[g]? =some (.cells cs t fr))
  (hu:P.underlying ty=some d) (hd:(match d with | .struct _ | .array _ _=>true | _=>false)=true) (hi:(P.info? ty).map (·.size)=some cs.size)
  (h:K (a.put o.dst (.agg cs))):o.quiet P a C K:=by
 refine⟨.agg cs,fun w hw=> ?_,h⟩;unfold Oper.quietAt execOp;simp only[ho,hx,Instr.loadAt,Instr.sureAddr,Sem.run_bind,Sem.run_pure,Result.andThen_ok,run_loadVar_row w g t ty cs fr d (hg w hw) hu hd hi];exact⟨rfl,rfl⟩
theorem zvz{w:World}{g:Nat}{o:Obj}(h:w.heap[g]? =some o): ∀w',(∃p:GrownBy,w'=grow (w.drewN p.n) p.os)->w'.heap[g]? =some o:=by
 rintro w' ⟨p,rfl⟩;have hb:g<w.heap.size:=(Array.getElem?_eq_some_iff.1 h).1;show(w.heap++p.os)[g]? =some o;rw[Array.getElem?_append_left hb]; exact h
theorem item_w(ra rb:Array Value)(sa:ra.size=35)(sb:rb.size=35)(ak bk:Int)(an bn:ByteArray)(a0:ra[0]? =some (.int .i64 ak))(a1:ra[1]? =some (.string an))(b0:rb[0]? =some (.int .i64 bk))(b1:rb[1]? =some (.string bn))(w:World):
  Calls Tryz.prog 53 #[.agg ra,.agg rb] w fun e w'=>e= .returned (.int .i64 (orI [zh1 ak bk,zsi an bn]))/\ ∃q os',w'=grow (w.drewN q) os':=by
 go_enter Tryz.func53,Tryz.ntmps53
 go_wp2;obtain⟨wq,hwq⟩: ∃wq,(w.alloc (.cells ra 64)).alloc (.cells rb 64)=wq:=⟨_,rfl⟩;have l1:=zvz (w:=wq) (g:=w.heap.size) (o:=.cells ra 64 (0,0)) (by rw[<-hwq]; exact(Go.RowKit.Below.heap_alloc _ _ _ (by simp)).trans (World.alloc_heap_new w _));have l2:=zvz (w:=wq) (g:=w.heap.size+1) (o:=.cells rb 64 (0,0)) (by rw[<-hwq]; exact heap_alloc2_new _ _ _);have o1: ∀W,Calls Tryz.prog 111 #[.agg ra] W fun e w'=>e= .returned (.agg #[.int .i64 ak,.string an])/\ ∃q os',w'=grow (W.drewN q) os':=fun W=>(of_w ra sa ak an a0 a1 W).mono fun _ _ ⟨he,os',hq⟩=>⟨he,0,os',hq⟩;have o2: ∀W,Calls Tryz.prog 111 #[.agg rb] W fun e w'=>e= .returned (.agg #[.int .i64 bk,.string bn])/\ ∃q os',w'=grow (W.drewN q) os':=fun W=>(of_w rb sb bk bn b0 b1 W).mono fun _ _ ⟨he,os',hq⟩=>⟨he,0,os',hq⟩;have o3:=part_w ak an bk bn;have hm:=zat;rw[hwq];refine wp_region_quiet_grown (by assumption) (by kernel_rfl) ?_;refine wpQuiet_step (fun K hK=> ?_);refine Eq.mpr (if_pos rfl) (znU 64 _ rfl w.heap.size rfl 64 ra (0,0) _ l1 Tryz.underlying64 rfl (by rw[sa]; kernel_rfl) (hK _ ?_));clear hK K
 quiet_step ((exact Calls.grown_of (o1 _)))
 refine wpQuiet_step (fun K hK=> ?_);refine Eq.mpr (if_pos rfl) (znU 64 _ rfl (w.heap.size+1) rfl 64 rb (0,0) _ l2 Tryz.underlying64 rfl (by rw[sb]; kernel_rfl) (hK _ ?_));clear hK K
 quiet_step ((exact Calls.grown_of (o2 _)))
 quiet_step ((exact Calls.grown_of (o3 _)))
 quiet_step (skip)
 refine wpQuiet_nil ?_;rintro _ ⟨⟨nq,osq⟩,rfl⟩;go_wp2;go_ret;refine⟨rfl,nq,#[.cells ra 64,.cells rb 64]++osq,?_⟩;have e1:grow (grow w #[.cells ra 64]) #[.cells rb 64]=grow w #[.cells ra 64,.cells rb 64]:=by rw[grow_grow]; rfl
 rw[<-hwq,alloc_eq_grow,alloc_eq_grow,e1];show grow (grow (w.drewN nq) #[.cells ra 64,.cells rb 64]) osq=_;rw[grow_grow]
theorem name_w(ra rb:Array Value)(sa:ra.size=4)(sb:rb.size=4)(an bn:ByteArray)(a0:ra[0]? =some (.string an))(b0:rb[0]? =some (.string bn))(w:World):
  Calls Tryz.prog 57 #[.agg ra,.agg rb] w fun e w'=>e= .returned (.int .i64 (zsi an bn))/\ ∃q os',w'=grow (w.drewN q) os':=by
 have g0:ra[0]'(by omega)= .string an:=by simpa [sa]using a0
 have g1:rb[0]'(by omega)= .string bn:=by simpa [sb]using b0
 go_enter Tryz.func57,Tryz.ntmps57
 go_wp2_with (go_at_call 115; refine(cmpS_w _ _ _).mono ?_; rintro e w' ⟨rfl,rfl⟩)
 go_ret;refine⟨rfl,0,#[.cells ra 53,.cells rb 53],?_⟩;rw[alloc_eq_grow,alloc_eq_grow,grow_grow]; rfl
end Go.Proofs.YtbenhdgpogiadaaGreat
