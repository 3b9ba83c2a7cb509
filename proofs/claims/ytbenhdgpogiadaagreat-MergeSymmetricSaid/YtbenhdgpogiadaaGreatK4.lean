/-
 CONTRACTS and plain laws. Conditions: those of each law.
-/
import Derived.Test.YtbenhdgpogiadaaGreatK3
import Derived.Test.YtbenhdgpogiadaaGreatK1
import Derived.Test.YtbenhdgpogiadaaGreatK2
import Derived.Test.YtbenhdgpogiadaaGreatGSo
import Derived.Sort.Walk0
import Derived.Test.YtbenhdgpogiadaaGreatGSp
import Derived.WalkKit
import Derived.Shelf.RegionOpenPlain
import Derived.Shelf.SlSortCmp.QuietGrown
import Derived.StillTailTactics
import Derived.Handy
import Derived.Laws.Cover1
import Derived.Laws.Rows
import Derived.Shelf.SlicesQ.Load
import Derived.Below
import Derived.Test.YtbenhdgpogiadaaGreatGSr
import Derived.Ground.SlsfProg
set_option linter.unusedSimpArgs false
set_option linter.unusedVariables false
namespace Go.Proofs.YtbenhdgpogiadaaGreat
open Go.Aw
open Nat renaming reduceEqDiff->pE,reduceLT->pL,reduceAdd->pA,reduceSub->pS,reduceMul->pM,reduceLeDiff->pD
open Int renaming reduceToNat->qT,reduceGT->qG,reduceLT->qL,reduceGE->qH,reduceBNe->qN,reduceBEq->qB,reduceLE->qE,reduceNe->qO,reduceAdd->qA,reduceNeg->qM
set_option maxRecDepth 100000
set_option maxHeartbeats 4000000
def sA:Str:=st [97]
def sB:Str:=st [98]
def sC:Str:=st [99]
def sD:Str:=st [100]
def sM:Str:=st [109]
def sR:Str:=st [114]
def sS:Str:=st [115]
def sT:Str:=st [116]
def sU:Str:=st [117]
def sVV:Str:=st [118]
def sW:Str:=st [119]
def sX:Str:=st [120]
def sY:Str:=st [121]
def sAux:Str:=st [97,117,120]
def zxW:Str:=st [99,108,107]
def zho:Str:=st [99,101,108,108]
def zme:Str:=st [116,111,112]
def zd1(b:Nat):Rule:=if b % 6=0 then⟨0,emp,0⟩else if b % 6=1 then⟨2,sR,0⟩else if b % 6=2 then⟨3,sS,(b / 6 % 3:Nat)⟩else⟨1,emp,0⟩
theorem rule_c(b:Nat)(hb:b<256):FnP Tryz.prog 165 [eI b] (.d (.agg (zim (zd1 b)))) []:=by
 refine FnP.of_eC (own:=[]) (fun _=>[]) zat Tryz.func165 rfl Tryz.call165 Tryz.ntmps165 (Nat.le_of_ble_eq_true rfl) Tryz.results165 (fun hok=> ?_);have hm:(b:Int).tmod 6=((b % 6:Nat):Int):=(Int.ofNat_tmod b 6).symm;have hq:(b:Int).tdiv 6=((b / 6:Nat):Int):=(Int.ofNat_tdiv b 6).symm;have hwq:IntKind.i64.wrap ((b / 6:Nat):Int)=((b / 6:Nat):Int):=zaQ (by omega) (by omega);have hr:((b / 6:Nat):Int).tmod 3=((b / 6 % 3:Nat):Int):=(Int.ofNat_tmod _ _).symm;by_cases b0:b % 6=0
 ·have h0:(((b % 6:Nat):Int)==0)=true:=by simp[b0]
  rw[zd1,if_pos b0];simp(maxSteps:=4000000) only[ZE,↓reduceIte,pE,pL,pA,pS,pM,pD,zN,qT,qG,qL,qH,qN,qB,qE,qO,qA,qM,hm,h0,Expr.op,Expr.name,Expr.k,Expr.w,Expr.args,zbh,emp,Int.reduceEq,not_false_eq_true]
 have h0:(((b % 6:Nat):Int)==0)=false:=by simp; omega
 by_cases b1:b % 6=1
 ·have h1:(((b % 6:Nat):Int)==1)=true:=by simp[b1]
  rw[zd1,if_neg b0,if_pos b1];simp(maxSteps:=4000000) only[ZE,↓reduceIte,pE,pL,pA,pS,pM,pD,zN,qT,qG,qL,qH,qN,qB,qE,qO,qA,qM,hm,h0,h1,Expr.op,Expr.name,Expr.k,Expr.w,Expr.args,zbh,emp,Int.reduceEq,not_false_eq_true,sR,st]
 have h1:(((b % 6:Nat):Int)==1)=false:=by simp; omega
 by_cases b2:b % 6=2
 ·have h2:(((b % 6:Nat):Int)==2)=true:=by simp[b2]
  rw[zd1,if_neg b0,if_neg b1,if_pos b2];simp(maxSteps:=4000000) only[ZE,↓reduceIte,pE,pL,pA,pS,pM,pD,zN,qT,qG,qL,qH,qN,qB,qE,qO,qA,qM,hm,h0,h1,h2,hq,hwq,hr,Expr.op,Expr.name,Expr.k,Expr.w,Expr.args,zbh,emp,Int.reduceEq,not_false_eq_true,sS,st]
 have h2:(((b % 6:Nat):Int)==2)=false:=by simp; omega
 rw[zd1,if_neg b0,if_neg b1,if_neg b2];simp(maxSteps:=4000000) only[ZE,↓reduceIte,pE,pL,pA,pS,pM,pD,zN,qT,qG,qL,qH,qN,qB,qE,qO,qA,qM,hm,h0,h1,h2,Expr.op,Expr.name,Expr.k,Expr.w,Expr.args,zbh,emp,Int.reduceEq,not_false_eq_true]
def zdm(b:Nat):Str:=if b % 3=0 then sAux else zxW
theorem zss(b:Nat):FnP Tryz.prog 102 [eI b] (.d (eS (zdm b))) []:=by
 refine FnP.of_eC (own:=[]) (fun _=>[]) zat Tryz.func102 rfl Tryz.call102 Tryz.ntmps102 (Nat.le_of_ble_eq_true rfl) Tryz.results102 (fun hok=> ?_);have hm:(b:Int).tmod 3=((b % 3:Nat):Int):=(Int.ofNat_tmod b 3).symm;by_cases b0:b % 3=0
 ·have h0:(((b % 3:Nat):Int)==0)=true:=by simp[b0]
  rw[zdm,if_pos b0];simp(maxSteps:=4000000) only[ZE,↓reduceIte,pE,pL,pA,pS,pM,pD,zN,qT,qG,qL,qH,qN,qB,qE,qO,qA,qM,hm,h0,Expr.op,Expr.name,Expr.k,Expr.w,Expr.args,zbh,emp,Int.reduceEq,not_false_eq_true,sAux,st]
 have h0:(((b % 3:Nat):Int)==0)=false:=by simp; omega
 rw[zdm,if_neg b0];simp(maxSteps:=4000000) only[ZE,↓reduceIte,pE,pL,pA,pS,pM,pD,zN,qT,qG,qL,qH,qN,qB,qE,qO,qA,qM,hm,h0,Expr.op,Expr.name,Expr.k,Expr.w,Expr.args,zbh,emp,Int.reduceEq,not_false_eq_true,zxW,st]
def zk5(name:Str)(l:List Nat)(a:Nat)(ns:List Str)(w:Num):Item:={zaV with kind:=⟨4,rfl⟩,name:=name,width:=w,init:=⟨(zaR l a % 2:Nat),emp⟩,a:=gen l ns w 1 a,rule:=zd1 (zaR l (a+1))}
theorem reg_c(name:Str)(l:List Nat)(ns:List Str)(w:Num)(hb: ∀b∈l,b<256)(hn:0<ns.length)(hn2:ns.length<=1000)(a:Nat)(ha:a<=1000):FnP Tryz.prog 163 [eS name,zau l,eI a,zh8 ns w] (.d (.agg (zaK (zk5 name l a ns w)))) []:=by
 refine FnP.of_eC (own:=[]) (fun i=>if i=2001 then [.ord ⟨[(0,none),(1,none),(2,none),(3,none),(4,none),(5,none),(6,none),(7,none),(8,none),(9,none),(10,none),(11,none),(12,none),(13,none),(14,none),(15,none),(16,none),(17,none),(18,none),(19,some [])]⟩]else []) zat Tryz.func163 rfl Tryz.call163 Tryz.ntmps163 (Nat.le_of_ble_eq_true rfl) Tryz.results163 (fun hok=> ?_);have a1:=zwS l a hb (by omega);have a2:=zwS l (a+1) hb (by omega);have g1:=zhS l ns w hb hn hn2 a (by omega);have r1:=rule_c (zaR l (a+1)) (zgq hb _);have w1:IntKind.i64.wrap ((a:Int)+1)=((a+1:Nat):Int):=zaQ (by omega) (by omega);have hm:(zaR l a:Int).tmod 2=((zaR l a % 2:Nat):Int):=(Int.ofNat_tmod _ 2).symm;simp only[ZE,↓reduceIte,pE,pL,pA,pS,pM,pD,eAt,zh8]at a1 a2 g1 r1;simp(maxSteps:=4000000) only[ZE,↓reduceIte,pE,pL,pA,pS,pM,pD,zh8,zN,qT,qG,qL,qH,qN,qB,qE,qO,qA,qM,Int.reduceEq,not_false_eq_true];refine⟨by kernel_rfl,zay.i a1 ?_⟩;simp only[ZE,↓reduceIte,pE,pL,pA,pS,pM,pD,zN,qT,qG,qL,qH,qN,qB,qE,qO,qA,qM,Int.reduceEq,not_false_eq_true,true_and];refine zay.i g1 ?_;simp only[ZE,↓reduceIte,pE,pL,pA,pS,pM,pD,zN,qT,qG,qL,qH,qN,qB,qE,qO,qA,qM,w1];refine zay.i a2 ?_;simp only[ZE,↓reduceIte,pE,pL,pA,pS,pM,pD,zN,qT,qG,qL,qH,qN,qB,qE,qO,qA,qM];refine zay.i r1 ?_;simp only[ZE,↓reduceIte,pE,pL,pA,pS,pM,pD,zN,qT,qG,qL,qH,qN,qB,qE,qO,qA,qM,hm,zk5,zaV,zbS,Expr.op,Expr.name,Expr.k,Expr.w,Expr.args,zbh,emp,Int.reduceEq,not_false_eq_true]
def zc2(name:Str)(w:Num)(c0 c1:Str):Item:={zaV with kind:=⟨9,rfl⟩,name:=name,of:=zho,args:=[w],ports:=[⟨sX,c0⟩,⟨sY,c1⟩]}
def zkm(a b:Str):D:=.agg [eS a,eS b]
theorem zta(name:Str)(w:Num)(c0 c1:Str):FnP Tryz.prog 104 [eS name,.agg (zgY w),zkm c0 c1] (.d (.agg (zaK (zc2 name w c0 c1)))) []:=by
 refine FnP.of_eC (own:=[]) chL zat Tryz.func104 rfl Tryz.call104 Tryz.ntmps104 (Nat.le_of_ble_eq_true rfl) Tryz.results104 (fun hok=> ?_);simp(maxSteps:=4000000) only[ZE,↓reduceIte,pE,pL,pA,pS,pM,pD,zkm,zN,qT,qG,qL,qH,qN,qB,qE,qO,qA,qM,zc2,zaV,zbS,Expr.op,Expr.name,Expr.k,Expr.w,Expr.args,zbh,emp,Int.reduceEq,not_false_eq_true,sX,sY,zho,st]
set_option maxHeartbeats 8000000
theorem zcX(o:Int)(n:Str)(k w:Num)(a:List Expr):(Expr.mk o n k w a).op =o:=rfl
theorem zbj(o:Int)(n:Str)(k w:Num)(a:List Expr):(Expr.mk o n k w a).name =n:=rfl
theorem zgZ(o:Int)(n:Str)(k w:Num)(a:List Expr):(Expr.mk o n k w a).k =k:=rfl
theorem zg0(o:Int)(n:Str)(k w:Num)(a:List Expr):(Expr.mk o n k w a).w =w:=rfl
theorem zbi(o:Int)(n:Str)(k w:Num)(a:List Expr):(Expr.mk o n k w a).args =a:=rfl
def zeQ(kind:I64)(name:Str)(w:Num):Item:={zaV with kind:=kind,name:=name,width:=w}
def zdi(name:Str)(w:Num)(e:Expr):Item:={zaV with kind:=⟨5,rfl⟩,name:=name,width:=w,a:=e}
def zdh(name:Str)(e:Expr):Item:={zaV with kind:=⟨7,rfl⟩,name:=name,a:=e}
def zif(name:Str)(e x:Expr):Item:={zaV with kind:=⟨8,rfl⟩,name:=name,a:=e,b:=x}
def wN:Num:=⟨0,sW⟩
def zbf(l:List Nat):Module:=⟨zho,zdm (zaR l 5),[sW],[zeQ ⟨1,rfl⟩ sX wN,zeQ ⟨2,rfl⟩ sY wN,zk5 sR l 7 [sR,sX] wN,zdi sT wN (gen l [sR] wN 1 9),zdh sX (cond l [sR,sT] wN 1 11),zif sY (cond l [sR,sX,sT] wN 1 13) (gen l [sR,sX,sT] wN 1 15)]⟩
theorem cell_c(l:List Nat)(hb: ∀b∈l,b<256):FnP Tryz.prog 107 [zau l] (.d (.agg (zaC (zbf l)))) []:=by
 refine FnP.of_eC (own:=[]) (fun i=>if i=2002 then [.flt ⟨[(0,none),(1,none),(2,none),(3,none),(4,none),(5,none),(8,some [3,4,5]),(9,some [])]⟩ ⟨[6,7],[(8,[6]),(9,[7])]⟩]else if i=2003 then [.ord ⟨[(0,none),(1,none),(2,none),(3,none),(4,none),(5,none),(6,none),(7,none),(8,none),(9,none),(10,none),(11,none),(12,none),(13,none),(14,none),(15,none),(16,none),(17,none),(18,none),(19,none),(20,none),(21,none),(22,none),(23,none),(24,none),(25,none),(26,none),(27,none),(28,none),(29,none),(30,none),(31,none),(32,none),(33,none),(34,none),(35,some [])]⟩]else []) zat Tryz.func107 rfl Tryz.call107 Tryz.ntmps107 (Nat.le_of_ble_eq_true rfl) Tryz.results107 (fun hok=> ?_);have a1:=zwS l 5 hb (by omega);have k1:=zss (zaR l 5);have r1:=reg_c sR l [sR,sX] wN hb (by simp) (by simp) 7 (by omega);have g1:=zhS l [sR] wN hb (by simp) (by simp) 9 (by omega);have c1:=zg6 l [sR,sT] wN hb (by simp) (by simp) 11 (by omega);have c2:=zg6 l [sR,sX,sT] wN hb (by simp) (by simp) 13 (by omega);have g2:=zhS l [sR,sX,sT] wN hb (by simp) (by simp) 15 (by omega);rw[zbf];obtain⟨e1,h1⟩: ∃e,zdm (zaR l 5)=e:=⟨_,rfl⟩;obtain⟨e2,h2⟩: ∃e,zk5 sR l 7 [sR,sX] wN=e:=⟨_,rfl⟩;obtain⟨e3,h3⟩: ∃e,gen l [sR] wN 1 9=e:=⟨_,rfl⟩;obtain⟨e4,h4⟩: ∃e,cond l [sR,sT] wN 1 11=e:=⟨_,rfl⟩;obtain⟨e5,h5⟩: ∃e,cond l [sR,sX,sT] wN 1 13=e:=⟨_,rfl⟩;obtain⟨e6,h6⟩: ∃e,gen l [sR,sX,sT] wN 1 15=e:=⟨_,rfl⟩;rw[h1]at k1 ⊢;rw[h2]at r1 ⊢;rw[h3]at g1 ⊢;rw[h4]at c1 ⊢;rw[h5]at c2 ⊢;rw[h6]at g2 ⊢;clear h1 h2 h3 h4 h5 h6;simp only[ZE,↓reduceIte,pE,pL,pA,pS,pM,pD,eAt,zh8,List.map_cons,List.map_nil,sR,sX,sT,sW,wN,st,emp]at a1 k1 r1 g1 c1 c2 g2;simp(maxSteps:=4000000) only[ZE,↓reduceIte,pE,pL,pA,pS,pM,pD,zN,qT,qG,qL,qH,qN,qB,qE,qO,qA,qM];refine⟨by kernel_rfl,by kernel_rfl,zay.i a1 ?_⟩;simp only[ZE,↓reduceIte,pE,pL,pA,pS,pM,pD,zN,qT,qG,qL,qH,qN,qB,qE,qO,qA,qM];refine zay.i k1 ?_;simp only[ZE,↓reduceIte,pE,pL,pA,pS,pM,pD,zN,qT,qG,qL,qH,qN,qB,qE,qO,qA,qM];refine zay.i r1 ?_;simp only[ZE,↓reduceIte,pE,pL,pA,pS,pM,pD,zN,qT,qG,qL,qH,qN,qB,qE,qO,qA,qM];refine zay.i g1 ?_;simp only[ZE,↓reduceIte,pE,pL,pA,pS,pM,pD,zN,qT,qG,qL,qH,qN,qB,qE,qO,qA,qM];refine zay.i c1 ?_;simp only[ZE,↓reduceIte,pE,pL,pA,pS,pM,pD,zN,qT,qG,qL,qH,qN,qB,qE,qO,qA,qM];refine zay.i c2 ?_;simp only[ZE,↓reduceIte,pE,pL,pA,pS,pM,pD,zN,qT,qG,qL,qH,qN,qB,qE,qO,qA,qM];refine zay.i g2 ?_;simp only[ZE,↓reduceIte,pE,pL,pA,pS,pM,pD,zN,qT,qG,qL,qH,qN,qB,qE,qO,qA,qM,zeQ,zdi,zdh,zif,zaV,zbS,zho,wN,sW,sX,sY,sT,st,zcX,zbj,zgZ,zg0,zbi,zbh,emp,Int.reduceEq,not_false_eq_true]
 trace_state
def zlC(l:List Nat)(w:Num)(c0:Str):List Item:=[zk5 sR l 2 [sR,sS,sT,c0] w,zk5 sS l 4 [sS,sR,c0] w,zdi sT w (gen l [sR,sS] w 1 6)]
def zdB(l:List Nat):Num:=⟨if zaR l 1 % 2=0 then 2 else 4,emp⟩
def memI(l:List Nat)(w:Num)(c0:Str):Item:={zaV with kind:=⟨6,rfl⟩,name:=sM,width:=w,depth:=zdB l,a:=cond l [sR,sS,sT,c0] w 1 12,b:=gen l [sR,sS,sT,c0] w 0 14,c:=gen l [sR,sS,sT,c0] w 1 16,rule:=zd1 (zaR l 3)}
def zpJ(l:List Nat)(w:Num)(c0:Str):List Item:=if zaR l 0 % 2=1 then [memI l w c0]else []
def zoG(l:List Nat)(w:Num)(c0:Str):Expr:=if zaR l 0 % 2=1 then .mk 5 emp zbh zbh [gen l [sR,sS,sT,c0] w 1 8,.mk 15 sM zbh zbh [gen l [sR,sS] w 0 10]]else gen l [sR,sS,sT,c0] w 1 8
def zlE(l:List Nat)(w:Num)(c0 c1:Str):List Item:=[zdh c0 (cond l [sR,sS] w 1 18),zif c1 (cond l [sR,sS,sT,c0] w 1 20) (zoG l w c0)]
def znO(l:List Nat)(w:Num)(c0 c1:Str):List Item:=zlC l w c0++zpJ l w c0++zlE l w c0 c1
theorem own_c(l:List Nat)(w:Num)(c0 c1:Str)(hb: ∀b∈l,b<256):FnP Tryz.prog 103 [zau l,.agg (zgY w),zkm c0 c1] (.d (zbU (znO l w c0 c1))) []:=by
 refine FnP.of_eC (own:=[]) (fun i=>if i=2001 then [.flt ⟨[(0,none),(1,none),(2,none),(3,none),(4,none),(5,none),(6,none),(7,none),(10,some [3,4,5,6,7]),(11,some [])]⟩ ⟨[8,9],[(10,[8]),(11,[9])]⟩]else if i=2002 then [.ord ⟨[(0,none),(1,none),(2,none),(3,none),(4,none),(5,none),(6,none),(7,none),(8,none),(9,none),(10,none),(11,none),(12,none),(13,none),(14,none),(15,none),(16,some []),(17,some [])]⟩]else if i=2007 then [.ord ⟨[(0,none),(1,none),(2,none),(3,none),(4,none),(5,none),(6,none),(7,none),(8,none),(9,none),(10,none),(11,none),(12,none),(13,none),(14,none),(15,none),(16,none),(17,none),(18,none),(19,none),(20,none),(21,none),(22,none),(23,none),(24,some []),(25,some [])]⟩]else if i=2008 then [.ord ⟨[(0,none),(1,none),(2,none),(3,none),(4,none),(5,none),(6,none),(7,none),(8,none),(9,none),(10,none),(11,none),(12,none),(13,none),(14,none),(15,some []),(16,some [])]⟩]else if i=2005 then [.chn]else if i=2006 then [.chn]else []) zat Tryz.func103 rfl Tryz.call103 Tryz.ntmps103 (Nat.le_of_ble_eq_true rfl) Tryz.results103 (fun hok=> ?_);have a0:=zwS l 0 hb (by omega);have a1:=zwS l 1 hb (by omega);have a3:=zwS l 3 hb (by omega);have r1:=reg_c sR l [sR,sS,sT,c0] w hb (by simp) (by simp) 2 (by omega);have r2:=reg_c sS l [sS,sR,c0] w hb (by simp) (by simp) 4 (by omega);have g6:=zhS l [sR,sS] w hb (by simp) (by simp) 6 (by omega);have g8:=zhS l [sR,sS,sT,c0] w hb (by simp) (by simp) 8 (by omega);have g10:=ziW l [sR,sS] w hb (by simp) (by simp) 10 (by omega);have c12:=zg6 l [sR,sS,sT,c0] w hb (by simp) (by simp) 12 (by omega);have g14:=ziW l [sR,sS,sT,c0] w hb (by simp) (by simp) 14 (by omega);have g16:=zhS l [sR,sS,sT,c0] w hb (by simp) (by simp) 16 (by omega);have c18:=zg6 l [sR,sS] w hb (by simp) (by simp) 18 (by omega);have c20:=zg6 l [sR,sS,sT,c0] w hb (by simp) (by simp) 20 (by omega);have u3:=rule_c (zaR l 3) (zgq hb _);rw[znO,zlC,zlE,zpJ,zoG,memI,zdB];obtain⟨x1,h1⟩: ∃e,zk5 sR l 2 [sR,sS,sT,c0] w=e:=⟨_,rfl⟩;obtain⟨x2,h2⟩: ∃e,zk5 sS l 4 [sS,sR,c0] w=e:=⟨_,rfl⟩;obtain⟨x3,h3⟩: ∃e,gen l [sR,sS] w 1 6=e:=⟨_,rfl⟩;obtain⟨x4,h4⟩: ∃e,gen l [sR,sS,sT,c0] w 1 8=e:=⟨_,rfl⟩;obtain⟨x5,h5⟩: ∃e,gen l [sR,sS] w 0 10=e:=⟨_,rfl⟩;obtain⟨x6,h6⟩: ∃e,cond l [sR,sS,sT,c0] w 1 12=e:=⟨_,rfl⟩;obtain⟨x7,h7⟩: ∃e,gen l [sR,sS,sT,c0] w 0 14=e:=⟨_,rfl⟩;obtain⟨x8,h8⟩: ∃e,gen l [sR,sS,sT,c0] w 1 16=e:=⟨_,rfl⟩;obtain⟨x9,h9⟩: ∃e,cond l [sR,sS] w 1 18=e:=⟨_,rfl⟩;obtain⟨x10,h10⟩: ∃e,cond l [sR,sS,sT,c0] w 1 20=e:=⟨_,rfl⟩;obtain⟨x11,h11⟩: ∃e,zd1 (zaR l 3)=e:=⟨_,rfl⟩;rw[h1]at r1 ⊢;rw[h2]at r2 ⊢;rw[h3]at g6 ⊢;rw[h4]at g8 ⊢;rw[h5]at g10 ⊢;rw[h6]at c12 ⊢;rw[h7]at g14 ⊢;rw[h8]at g16 ⊢;rw[h9]at c18 ⊢;rw[h10]at c20 ⊢;rw[h11]at u3 ⊢;have hm:(zaR l 0:Int).tmod 2=((zaR l 0 % 2:Nat):Int):=(Int.ofNat_tmod _ 2).symm;have hm1:(zaR l 1:Int).tmod 2=((zaR l 1 % 2:Nat):Int):=(Int.ofNat_tmod _ 2).symm;clear h1 h2 h3 h4 h5 h6 h7 h8 h9 h10 h11;simp only[ZE,↓reduceIte,pE,pL,pA,pS,pM,pD,eAt,zh8,zkm,List.map_cons,List.map_nil,sR,sS,sT,st,emp]at a0 a1 a3 r1 r2 g6 g8 g10 c12 g14 g16 c18 c20 u3;by_cases hodd:zaR l 0 % 2=1
 ·have ho:(((zaR l 0 % 2:Nat):Int)==1)=true:=by simp[hodd]
  rw[if_pos hodd,if_pos hodd];simp(maxSteps:=4000000) only[ZE,↓reduceIte,pE,pL,pA,pS,pM,pD,zN,qT,qG,qL,qH,qN,qB,qE,qO,qA,qM,zkm];refine⟨by kernel_rfl,by kernel_rfl,zay.i r1 ?_⟩;simp only[ZE,↓reduceIte,pE,pL,pA,pS,pM,pD,zN,qT,qG,qL,qH,qN,qB,qE,qO,qA,qM];refine zay.i r2 ?_;simp only[ZE,↓reduceIte,pE,pL,pA,pS,pM,pD,zN,qT,qG,qL,qH,qN,qB,qE,qO,qA,qM];refine zay.i g6 ?_;simp only[ZE,↓reduceIte,pE,pL,pA,pS,pM,pD,zN,qT,qG,qL,qH,qN,qB,qE,qO,qA,qM];refine EFn.p ?_;simp only[ZE,↓reduceIte,pE,pL,pA,pS,pM,pD,zN,qT,qG,qL,qH,qN,qB,qE,qO,qA,qM];refine zar.i g8 ?_;simp only[ZE,↓reduceIte,pE,pL,pA,pS,pM,pD,zN,qT,qG,qL,qH,qN,qB,qE,qO,qA,qM];refine EFn.p ?_;simp only[ZE,↓reduceIte,pE,pL,pA,pS,pM,pD,zN,qT,qG,qL,qH,qN,qB,qE,qO,qA,qM];refine zar.i a0 ?_;simp only[ZE,↓reduceIte,pE,pL,pA,pS,pM,pD,zN,qT,qG,qL,qH,qN,qB,qE,qO,qA,qM,hm,ho,Int.reduceEq,not_false_eq_true];refine EFn.p ?_;simp only[ZE,↓reduceIte,pE,pL,pA,pS,pM,pD,zN,qT,qG,qL,qH,qN,qB,qE,qO,qA,qM];refine zar.i g10 ?_;simp only[ZE,↓reduceIte,pE,pL,pA,pS,pM,pD,zN,qT,qG,qL,qH,qN,qB,qE,qO,qA,qM,Int.reduceEq,not_false_eq_true];refine⟨by kernel_rfl,zay.i a1 ?_⟩;by_cases hd:zaR l 1 % 2=0
  ·have hm2:(zaR l 1:Int).tmod 2=0:=by rw[hm1,hd]; rfl
   have hw1:IntKind.u64.wrap 0=0:=by decide
   have hw2:IntKind.i64.wrap (2*2 ^ (min 0 IntKind.i64.bits))=2:=by decide
   rw[if_pos hd];simp only[ZE,↓reduceIte,pE,pL,pA,pS,pM,pD,zN,qT,qG,qL,qH,qN,qB,qE,qO,qA,qM,Int.reduceEq,not_false_eq_true,hm2,hw1,hw2];refine zay.i c12 ?_;simp only[ZE,↓reduceIte,pE,pL,pA,pS,pM,pD,zN,qT,qG,qL,qH,qN,qB,qE,qO,qA,qM];refine zay.i g14 ?_;simp only[ZE,↓reduceIte,pE,pL,pA,pS,pM,pD,zN,qT,qG,qL,qH,qN,qB,qE,qO,qA,qM];refine zay.i g16 ?_;simp only[ZE,↓reduceIte,pE,pL,pA,pS,pM,pD,zN,qT,qG,qL,qH,qN,qB,qE,qO,qA,qM];refine zay.i a3 ?_;simp only[ZE,↓reduceIte,pE,pL,pA,pS,pM,pD,zN,qT,qG,qL,qH,qN,qB,qE,qO,qA,qM];refine zay.i u3 ?_;simp only[ZE,↓reduceIte,pE,pL,pA,pS,pM,pD,zN,qT,qG,qL,qH,qN,qB,qE,qO,qA,qM];refine⟨by kernel_rfl,zay.i c18 ?_⟩;simp only[ZE,↓reduceIte,pE,pL,pA,pS,pM,pD,zN,qT,qG,qL,qH,qN,qB,qE,qO,qA,qM];refine zay.i c20 ?_;simp only[ZE,↓reduceIte,pE,pL,pA,pS,pM,pD,zN,qT,qG,qL,qH,qN,qB,qE,qO,qA,qM,zdi,zdh,zif,zaV,zbS,sM,sT,st,zcX,zbj,zgZ,zg0,zbi,zbh,emp,Int.reduceEq,not_false_eq_true]
  ·have hm2:(zaR l 1:Int).tmod 2=1:=by rw[hm1]; omega
   have hw1:IntKind.u64.wrap 1=1:=by decide
   have hw2:IntKind.i64.wrap (2*2 ^ (min 1 IntKind.i64.bits))=4:=by decide
   rw[if_neg hd];simp only[ZE,↓reduceIte,pE,pL,pA,pS,pM,pD,zN,qT,qG,qL,qH,qN,qB,qE,qO,qA,qM,Int.reduceEq,not_false_eq_true,hm2,hw1,hw2];refine zay.i c12 ?_;simp only[ZE,↓reduceIte,pE,pL,pA,pS,pM,pD,zN,qT,qG,qL,qH,qN,qB,qE,qO,qA,qM];refine zay.i g14 ?_;simp only[ZE,↓reduceIte,pE,pL,pA,pS,pM,pD,zN,qT,qG,qL,qH,qN,qB,qE,qO,qA,qM];refine zay.i g16 ?_;simp only[ZE,↓reduceIte,pE,pL,pA,pS,pM,pD,zN,qT,qG,qL,qH,qN,qB,qE,qO,qA,qM];refine zay.i a3 ?_;simp only[ZE,↓reduceIte,pE,pL,pA,pS,pM,pD,zN,qT,qG,qL,qH,qN,qB,qE,qO,qA,qM];refine zay.i u3 ?_;simp only[ZE,↓reduceIte,pE,pL,pA,pS,pM,pD,zN,qT,qG,qL,qH,qN,qB,qE,qO,qA,qM];refine⟨by kernel_rfl,zay.i c18 ?_⟩;simp only[ZE,↓reduceIte,pE,pL,pA,pS,pM,pD,zN,qT,qG,qL,qH,qN,qB,qE,qO,qA,qM];refine zay.i c20 ?_;simp only[ZE,↓reduceIte,pE,pL,pA,pS,pM,pD,zN,qT,qG,qL,qH,qN,qB,qE,qO,qA,qM,zdi,zdh,zif,zaV,zbS,sM,sT,st,zcX,zbj,zgZ,zg0,zbi,zbh,emp,Int.reduceEq,not_false_eq_true]
 ·have ho:(((zaR l 0 % 2:Nat):Int)==1)=false:=by
   have:zaR l 0 % 2=0:=by omega
   rw[this]; rfl
  rw[if_neg hodd,if_neg hodd];simp(maxSteps:=4000000) only[ZE,↓reduceIte,pE,pL,pA,pS,pM,pD,zN,qT,qG,qL,qH,qN,qB,qE,qO,qA,qM,zkm];refine⟨by kernel_rfl,by kernel_rfl,zay.i r1 ?_⟩;simp only[ZE,↓reduceIte,pE,pL,pA,pS,pM,pD,zN,qT,qG,qL,qH,qN,qB,qE,qO,qA,qM];refine zay.i r2 ?_;simp only[ZE,↓reduceIte,pE,pL,pA,pS,pM,pD,zN,qT,qG,qL,qH,qN,qB,qE,qO,qA,qM];refine zay.i g6 ?_;simp only[ZE,↓reduceIte,pE,pL,pA,pS,pM,pD,zN,qT,qG,qL,qH,qN,qB,qE,qO,qA,qM];refine EFn.p ?_;simp only[ZE,↓reduceIte,pE,pL,pA,pS,pM,pD,zN,qT,qG,qL,qH,qN,qB,qE,qO,qA,qM];refine zar.i g8 ?_;simp only[ZE,↓reduceIte,pE,pL,pA,pS,pM,pD,zN,qT,qG,qL,qH,qN,qB,qE,qO,qA,qM];refine EFn.p ?_;simp only[ZE,↓reduceIte,pE,pL,pA,pS,pM,pD,zN,qT,qG,qL,qH,qN,qB,qE,qO,qA,qM];refine zar.i a0 ?_;simp only[ZE,↓reduceIte,pE,pL,pA,pS,pM,pD,zN,qT,qG,qL,qH,qN,qB,qE,qO,qA,qM,hm,ho,Int.reduceEq,not_false_eq_true];refine⟨by kernel_rfl,zay.i c18 ?_⟩;simp only[ZE,↓reduceIte,pE,pL,pA,pS,pM,pD,zN,qT,qG,qL,qH,qN,qB,qE,qO,qA,qM];refine zay.i c20 ?_;simp only[ZE,↓reduceIte,pE,pL,pA,pS,pM,pD,zN,qT,qG,qL,qH,qN,qB,qE,qO,qA,qM,zdi,zdh,zif,zaV,zbS,sM,sT,st,zcX,zbj,zgZ,zg0,zbi,zbh,emp,Int.reduceEq,not_false_eq_true]
set_option maxHeartbeats 20000000
structure Raw where
 kind:Nat
 w:Nat
 l:List Nat
def Raw.ok(x:Raw):Prop:=x.kind<256/\x.w<256/\ ∀b∈x.l,b<256
def zeL(x:Raw):D:=.agg [eU8 x.kind,eU8 x.w,zau x.l]
def za3(x:Raw):Num:=⟨(1+x.w % 4:Nat),emp⟩
def rawC(x:Raw):Num:=⟨(1+x.w / 4 % 4:Nat),emp⟩
def zgl(name:Str)(w d:Num):Item:={zaV with kind:=⟨3,rfl⟩,name:=name,width:=w,depth:=d}
def inA(x:Raw):Item:=zeQ ⟨1,rfl⟩ sA (za3 x)
def zoF(x:Raw):Item:=zeQ ⟨2,rfl⟩ sB (za3 x)
def chC(x:Raw):Item:=zgl sC (za3 x) (rawC x)
def chD(x:Raw):Item:=zgl sD (za3 x) ⟨2,emp⟩
def zd4(x:Raw):List Item:=
 if x.kind % 4=0 then [inA x,zoF x]++znO x.l (za3 x) sA sB
 else if x.kind % 4=1 then [inA x,zoF x,chC x,zc2 sU (za3 x) sA sC,zc2 sVV (za3 x) sC sB]
 else if x.kind % 4=2 then [inA x,zoF x,chC x,zc2 sU (za3 x) sA sC]++znO x.l (za3 x) sC sB
 else [zoF x,chC x,chD x,zc2 sU (za3 x) sC sD]++znO x.l (za3 x) sD sC++[zif sB (cond x.l [sR,sS] (za3 x) 1 22) (gen x.l [sR,sS] (za3 x) 1 24)]
def zmd(x:Raw):Module:=⟨zme,zdm (1+x.w / 16),[],zd4 x⟩
def zdF(x:Raw):List Module:=if x.kind % 4=0 then [zmd x]else if x.kind / 4 % 2=1 then [zmd x,zbf x.l]else [zbf x.l,zmd x]
theorem zlD(l:List Nat)(w:Num)(c0 c1:Str):(znO l w c0 c1).length <=10:=by
 simp only[znO,zlC,zlE,zpJ,List.length_append,List.length_cons,List.length_nil];split <;> simp
theorem zcm(l:List Item):zcY 35 (l.map zaK):=by
 intro y hy;obtain⟨q,_,rfl⟩:=List.mem_map.1 hy;simp[zaK,zgY,zca,zim,eI,eS,ziR,zen,D.one,Value.oneCell']
theorem u8_id{n:Nat}(h:n<256):IntKind.u8.wrap (n:Int)=(n:Int):=by
 have hb:IntKind.u8.bits=8:=rfl;have hs:IntKind.u8.signed=false:=rfl;simp only[IntKind.wrap,hb,hs,Bool.false_and,Bool.false_eq_true,if_false];omega
theorem zie(x:Raw)(hx:x.ok):FnP Tryz.prog 50 [zeL x] (.d (.agg [zaz (zdF x)])) []:=by
 obtain⟨hk,hw,hb⟩:=hx;refine FnP.of_eC (own:=[]) (fun i=>if i=11 then [.frz 80]else if i=16 then [.frz 112]else if i=9 then [.frz 53]else if i=2004 then [.flt ⟨[(0,none),(1,none),(2,none),(3,none),(6,some [2,3]),(7,some [])]⟩ ⟨[4,5],[(6,[4]),(7,[5])]⟩]else if i=2005 then [.flt ⟨[(0,none),(1,none),(2,none),(3,none),(4,none),(5,none),(8,some [3,4,5]),(9,some [])]⟩ ⟨[6,7],[(8,[6]),(9,[7])]⟩]else if i=2011 then [.ord ⟨[(0,none),(1,none),(3,none),(4,none),(5,none),(6,none),(7,none),(2,some [3,4,5,6,7]),(8,some []),(9,some []),(10,some [])]⟩]else if i=2014 then [.ord ⟨[(0,none),(1,none),(2,none),(3,none),(4,none),(5,none),(6,none),(7,none),(8,none),(9,none),(10,some []),(11,some [])]⟩]else if i=2016 then [.ord ⟨[(0,none),(1,none),(2,none),(3,none),(4,none),(5,none),(7,none),(8,none),(9,none),(10,none),(11,none),(6,some [7,8,9,10,11]),(12,some []),(13,some []),(14,some [])]⟩]else if i=2008 then [.ord ⟨[(0,none),(1,none),(2,none),(3,none),(4,none),(5,none),(7,none),(8,none),(9,none),(10,none),(11,none),(6,some [7,8,9,10,11]),(12,some []),(13,some []),(14,some [])]⟩]else if i=2009 then [.ord ⟨[(0,none),(1,none),(2,none),(3,none),(4,none),(5,none),(6,none),(7,none),(8,none),(9,none),(10,none),(11,none),(12,none),(13,some []),(14,some []),(15,some [])]⟩]else if i=2018 then [.ord ⟨[(0,none),(1,none),(2,none),(3,none),(4,none),(5,none),(6,some [])]⟩]else if i=2019 then [.ord ⟨[(0,none),(1,none),(2,none),(3,none),(4,none),(5,none),(6,some [])]⟩]else if i=2012 then [.chn]else if i=2007 then [.chn]else []) zat Tryz.func50 rfl Tryz.call50 Tryz.ntmps50 (Nat.le_of_ble_eq_true rfl) Tryz.results50 (fun hok=> ?_);have w4:(x.w:Int).tmod 4=((x.w % 4:Nat):Int):=(Int.ofNat_tmod _ 4).symm;have w44:(x.w:Int).tdiv 4=((x.w / 4:Nat):Int):=(Int.ofNat_tdiv _ 4).symm;have w444:((x.w / 4:Nat):Int).tmod 4=((x.w / 4 % 4:Nat):Int):=(Int.ofNat_tmod _ 4).symm;have w16:(x.w:Int).tdiv 16=((x.w / 16:Nat):Int):=(Int.ofNat_tdiv _ 16).symm;have k4:(x.kind:Int).tmod 4=((x.kind % 4:Nat):Int):=(Int.ofNat_tmod _ 4).symm;have kd:(x.kind:Int).tdiv 4=((x.kind / 4:Nat):Int):=(Int.ofNat_tdiv _ 4).symm;have kd2:((x.kind / 4:Nat):Int).tmod 2=((x.kind / 4 % 2:Nat):Int):=(Int.ofNat_tmod _ 2).symm;have v1:IntKind.i64.wrap ((x.w % 4:Nat):Int)=((x.w % 4:Nat):Int):=zaQ (by omega) (by omega);have v2:IntKind.i64.wrap (1+((x.w % 4:Nat):Int))=((1+x.w % 4:Nat):Int):=zaQ (by omega) (by omega);have v3:IntKind.i64.wrap ((x.w / 4 % 4:Nat):Int)=((x.w / 4 % 4:Nat):Int):=zaQ (by omega) (by omega);have v4:IntKind.i64.wrap (1+((x.w / 4 % 4:Nat):Int))=((1+x.w / 4 % 4:Nat):Int):=zaQ (by omega) (by omega);have v5:IntKind.i64.wrap ((x.w / 16:Nat):Int)=((x.w / 16:Nat):Int):=zaQ (by omega) (by omega);have v6:IntKind.i64.wrap (1+((x.w / 16:Nat):Int))=((1+x.w / 16:Nat):Int):=zaQ (by omega) (by omega);have u1:IntKind.u8.wrap ((x.w / 4:Nat):Int)=((x.w / 4:Nat):Int):=u8_id (by omega);have u2:IntKind.u8.wrap ((x.w / 16:Nat):Int)=((x.w / 16:Nat):Int):=u8_id (by omega);have u3:IntKind.u8.wrap ((x.kind / 4:Nat):Int)=((x.kind / 4:Nat):Int):=u8_id (by omega);have kc:=zss (1+x.w / 16);simp only[ZE,↓reduceIte,pE,pL,pA,pS,pM,pD]at kc;have o0:=own_c x.l (za3 x) sA sB hb;have o2:=own_c x.l (za3 x) sC sB hb;have o3:=own_c x.l (za3 x) sD sC hb;have l0:=zlD x.l (za3 x) sA sB;have l2:=zlD x.l (za3 x) sC sB;have l3:=zlD x.l (za3 x) sD sC;obtain⟨O0,q0⟩: ∃L,znO x.l (za3 x) sA sB=L:=⟨_,rfl⟩;obtain⟨O2,q2⟩: ∃L,znO x.l (za3 x) sC sB=L:=⟨_,rfl⟩;obtain⟨O3,q3⟩: ∃L,znO x.l (za3 x) sD sC=L:=⟨_,rfl⟩;rw[q0]at o0 l0;rw[q2]at o2 l2;rw[q3]at o3 l3;have i1:=zta sU (za3 x) sA sC;have i2:=zta sVV (za3 x) sC sB;have i3:=zta sU (za3 x) sC sD;have c22:=zg6 x.l [sR,sS] (za3 x) hb (by simp) (by simp) 22 (by omega);have g24:=zhS x.l [sR,sS] (za3 x) hb (by simp) (by simp) 24 (by omega);have cm:=cell_c x.l hb;obtain⟨y22,h22⟩: ∃e,cond x.l [sR,sS] (za3 x) 1 22=e:=⟨_,rfl⟩;obtain⟨y24,h24⟩: ∃e,gen x.l [sR,sS] (za3 x) 1 24=e:=⟨_,rfl⟩;rw[h22]at c22;rw[h24]at g24;simp only[ZE,↓reduceIte,pE,pL,pA,pS,pM,pD,zkm,eAt,zh8,List.map_cons,List.map_nil,za3,sA,sB,sC,sD,sU,sVV,sR,sS,st,emp]at o0 o2 o3 i1 i2 i3 c22 g24 cm;by_cases b0:x.kind % 4=0
 ·have h0:(((x.kind % 4:Nat):Int)==0)=true:=by simp[b0]
  rw[zdF,if_pos b0,zmd,zd4,if_pos b0,q0];simp(maxSteps:=4000000) only[ZE,↓reduceIte,pE,pL,pA,pS,pM,pD,zeL,zN,qT,qG,qL,qH,qN,qB,qE,qO,qA,qM,Int.reduceEq,not_false_eq_true,w4,w44,w444,w16,v1,v2,v3,v4,v5,v6,u1,u2,u3,k4,kd,kd2];refine EFn.p ?_;simp only[ZE,↓reduceIte,pE,pL,pA,pS,pM,pD,zN,qT,qG,qL,qH,qN,qB,qE,qO,qA,qM];refine zar.i kc ?_;simp only[ZE,↓reduceIte,pE,pL,pA,pS,pM,pD,zN,qT,qG,qL,qH,qN,qB,qE,qO,qA,qM,Int.reduceEq,not_false_eq_true,w4,w44,w444,w16,v1,v2,v3,v4,v5,v6,u1,u2,u3,k4,kd,kd2,h0];refine⟨by kernel_rfl,by kernel_rfl,by kernel_rfl,zay.i o0 ?_⟩;simp only[ZE,↓reduceIte,pE,pL,pA,pS,pM,pD,zN,qT,qG,qL,qH,qN,qB,qE,qO,qA,qM];refine⟨zay.i o0 ?_,?_⟩
  ·simp only[ZE,↓reduceIte,pE,pL,pA,pS,pM,pD]
  have ro:=zcm O0;have e2:2+O0.length=O0.length+1+1:=by omega
  simp only[ZE,↓reduceIte,pE,pL,pA,pS,pM,pD,zN,qT,qG,qL,qH,qN,qB,qE,qO,qA,qM,e2,zmd,za3,rawC,inA,zoF,chC,chD,zeQ,zgl,zc2,zif,zaV,zbS,sA,sB,sC,sD,sU,sVV,sX,sY,zho,zme,st,zcX,zbj,zgZ,zg0,zbi,zbh,emp,Int.reduceEq,not_false_eq_true];exact⟨ro,by omega,by omega⟩
 have h0:(((x.kind % 4:Nat):Int)==0)=false:=by simp; omega
 by_cases b9:x.kind / 4 % 2=1
 ·have h9:(((x.kind / 4 % 2:Nat):Int)==1)=true:=by simp[b9]
  rw[zdF,if_neg b0,if_pos b9,zmd,zd4,if_neg b0];by_cases b1:x.kind % 4=1
  ·have h1:(((x.kind % 4:Nat):Int)==1)=true:=by simp[b1]
   rw[if_pos b1];simp(maxSteps:=4000000) only[ZE,↓reduceIte,pE,pL,pA,pS,pM,pD,zeL,zN,qT,qG,qL,qH,qN,qB,qE,qO,qA,qM,Int.reduceEq,not_false_eq_true,w4,w44,w444,w16,v1,v2,v3,v4,v5,v6,u1,u2,u3,k4,kd,kd2];refine EFn.p ?_;simp only[ZE,↓reduceIte,pE,pL,pA,pS,pM,pD,zN,qT,qG,qL,qH,qN,qB,qE,qO,qA,qM];refine zar.i kc ?_;simp only[ZE,↓reduceIte,pE,pL,pA,pS,pM,pD,zN,qT,qG,qL,qH,qN,qB,qE,qO,qA,qM,Int.reduceEq,not_false_eq_true,w4,w44,w444,w16,v1,v2,v3,v4,v5,v6,u1,u2,u3,k4,kd,kd2,h0,h1,h9];refine⟨by kernel_rfl,by kernel_rfl,by kernel_rfl,zay.i i1 ?_⟩;simp only[ZE,↓reduceIte,pE,pL,pA,pS,pM,pD,zN,qT,qG,qL,qH,qN,qB,qE,qO,qA,qM];refine zay.i i2 ?_;simp only[ZE,↓reduceIte,pE,pL,pA,pS,pM,pD,zN,qT,qG,qL,qH,qN,qB,qE,qO,qA,qM,w4,w44,w444,w16,v1,v2,v3,v4,v5,v6,u1,u2,u3,k4,kd,kd2,h9,Int.reduceEq,not_false_eq_true];refine⟨by kernel_rfl,zay.i cm ?_⟩;simp only[ZE,↓reduceIte,pE,pL,pA,pS,pM,pD,zN,qT,qG,qL,qH,qN,qB,qE,qO,qA,qM,zmd,za3,rawC,inA,zoF,chC,chD,zeQ,zgl,zc2,zif,zaV,zbS,sA,sB,sC,sD,sU,sVV,sX,sY,zho,zme,st,zcX,zbj,zgZ,zg0,zbi,zbh,emp,Int.reduceEq,not_false_eq_true]
  have h1:(((x.kind % 4:Nat):Int)==1)=false:=by simp; omega
  rw[if_neg b1];by_cases b2:x.kind % 4=2
  ·have h2:(((x.kind % 4:Nat):Int)==2)=true:=by simp[b2]
   rw[if_pos b2,q2];simp(maxSteps:=4000000) only[ZE,↓reduceIte,pE,pL,pA,pS,pM,pD,zeL,zN,qT,qG,qL,qH,qN,qB,qE,qO,qA,qM,Int.reduceEq,not_false_eq_true,w4,w44,w444,w16,v1,v2,v3,v4,v5,v6,u1,u2,u3,k4,kd,kd2];refine EFn.p ?_;simp only[ZE,↓reduceIte,pE,pL,pA,pS,pM,pD,zN,qT,qG,qL,qH,qN,qB,qE,qO,qA,qM];refine zar.i kc ?_;simp only[ZE,↓reduceIte,pE,pL,pA,pS,pM,pD,zN,qT,qG,qL,qH,qN,qB,qE,qO,qA,qM,Int.reduceEq,not_false_eq_true,w4,w44,w444,w16,v1,v2,v3,v4,v5,v6,u1,u2,u3,k4,kd,kd2,h0,h1,h2,h9];refine⟨by kernel_rfl,by kernel_rfl,by kernel_rfl,zay.i i1 ?_⟩;simp only[ZE,↓reduceIte,pE,pL,pA,pS,pM,pD,zN,qT,qG,qL,qH,qN,qB,qE,qO,qA,qM];refine zay.i o2 ?_;simp only[ZE,↓reduceIte,pE,pL,pA,pS,pM,pD,zN,qT,qG,qL,qH,qN,qB,qE,qO,qA,qM];refine⟨zay.i o2 ?_,?_⟩
   ·simp only[ZE,↓reduceIte,pE,pL,pA,pS,pM,pD]
   have ro:=zcm O2;have e4:4+O2.length=O2.length+1+1+1+1:=by omega
   try simp only[ZE,↓reduceIte,pE,pL,pA,pS,pM,pD,zN,qT,qG,qL,qH,qN,qB,qE,qO,qA,qM,w4,w44,w444,w16,v1,v2,v3,v4,v5,v6,u1,u2,u3,k4,kd,kd2,h9,e4,Int.reduceEq,not_false_eq_true]
   refine⟨⟨ro,by omega,by omega⟩,by kernel_rfl,zay.i cm ?_⟩;simp only[ZE,↓reduceIte,pE,pL,pA,pS,pM,pD,zN,qT,qG,qL,qH,qN,qB,qE,qO,qA,qM,zmd,za3,rawC,inA,zoF,chC,chD,zeQ,zgl,zc2,zif,zaV,zbS,sA,sB,sC,sD,sU,sVV,sX,sY,zho,zme,st,zcX,zbj,zgZ,zg0,zbi,zbh,emp,Int.reduceEq,not_false_eq_true]
  have h2:(((x.kind % 4:Nat):Int)==2)=false:=by simp; omega
  rw[if_neg b2,q3,h22,h24];simp(maxSteps:=4000000) only[ZE,↓reduceIte,pE,pL,pA,pS,pM,pD,zeL,zN,qT,qG,qL,qH,qN,qB,qE,qO,qA,qM,Int.reduceEq,not_false_eq_true,w4,w44,w444,w16,v1,v2,v3,v4,v5,v6,u1,u2,u3,k4,kd,kd2];refine EFn.p ?_;simp only[ZE,↓reduceIte,pE,pL,pA,pS,pM,pD,zN,qT,qG,qL,qH,qN,qB,qE,qO,qA,qM];refine zar.i kc ?_;simp only[ZE,↓reduceIte,pE,pL,pA,pS,pM,pD,zN,qT,qG,qL,qH,qN,qB,qE,qO,qA,qM,Int.reduceEq,not_false_eq_true,w4,w44,w444,w16,v1,v2,v3,v4,v5,v6,u1,u2,u3,k4,kd,kd2,h0,h1,h2,h9];refine⟨by kernel_rfl,by kernel_rfl,by kernel_rfl,zay.i i3 ?_⟩;simp only[ZE,↓reduceIte,pE,pL,pA,pS,pM,pD,zN,qT,qG,qL,qH,qN,qB,qE,qO,qA,qM];refine zay.i o3 ?_;simp only[ZE,↓reduceIte,pE,pL,pA,pS,pM,pD,zN,qT,qG,qL,qH,qN,qB,qE,qO,qA,qM];refine⟨zay.i o3 ?_,?_⟩
  ·simp only[ZE,↓reduceIte,pE,pL,pA,pS,pM,pD]
  have ro:=zcm O3;have e4:4+O3.length=O3.length+1+1+1+1:=by omega
  try simp only[ZE,↓reduceIte,pE,pL,pA,pS,pM,pD,zN,qT,qG,qL,qH,qN,qB,qE,qO,qA,qM,e4]
  refine⟨⟨ro,by omega,by omega⟩,by kernel_rfl,zay.i c22 ?_⟩;simp only[ZE,↓reduceIte,pE,pL,pA,pS,pM,pD,zN,qT,qG,qL,qH,qN,qB,qE,qO,qA,qM,e4];refine zay.i g24 ?_;simp only[ZE,↓reduceIte,pE,pL,pA,pS,pM,pD,zN,qT,qG,qL,qH,qN,qB,qE,qO,qA,qM,w4,w44,w444,w16,v1,v2,v3,v4,v5,v6,u1,u2,u3,k4,kd,kd2,h9,e4,Int.reduceEq,not_false_eq_true,List.length_append];refine⟨⟨by omega,by omega⟩,by kernel_rfl,zay.i cm ?_⟩;simp only[ZE,↓reduceIte,pE,pL,pA,pS,pM,pD,zN,qT,qG,qL,qH,qN,qB,qE,qO,qA,qM,List.map_append,zmd,za3,rawC,inA,zoF,chC,chD,zeQ,zgl,zc2,zif,zaV,zbS,sA,sB,sC,sD,sU,sVV,sX,sY,zho,zme,st,zcX,zbj,zgZ,zg0,zbi,zbh,emp,Int.reduceEq,not_false_eq_true]
 ·have h9:(((x.kind / 4 % 2:Nat):Int)==1)=false:=by simp; omega
  rw[zdF,if_neg b0,if_neg b9,zmd,zd4,if_neg b0];by_cases b1:x.kind % 4=1
  ·have h1:(((x.kind % 4:Nat):Int)==1)=true:=by simp[b1]
   rw[if_pos b1];simp(maxSteps:=4000000) only[ZE,↓reduceIte,pE,pL,pA,pS,pM,pD,zeL,zN,qT,qG,qL,qH,qN,qB,qE,qO,qA,qM,Int.reduceEq,not_false_eq_true,w4,w44,w444,w16,v1,v2,v3,v4,v5,v6,u1,u2,u3,k4,kd,kd2];refine EFn.p ?_;simp only[ZE,↓reduceIte,pE,pL,pA,pS,pM,pD,zN,qT,qG,qL,qH,qN,qB,qE,qO,qA,qM];refine zar.i kc ?_;simp only[ZE,↓reduceIte,pE,pL,pA,pS,pM,pD,zN,qT,qG,qL,qH,qN,qB,qE,qO,qA,qM,Int.reduceEq,not_false_eq_true,w4,w44,w444,w16,v1,v2,v3,v4,v5,v6,u1,u2,u3,k4,kd,kd2,h0,h1,h9];refine⟨by kernel_rfl,by kernel_rfl,by kernel_rfl,zay.i i1 ?_⟩;simp only[ZE,↓reduceIte,pE,pL,pA,pS,pM,pD,zN,qT,qG,qL,qH,qN,qB,qE,qO,qA,qM];refine zay.i i2 ?_;simp only[ZE,↓reduceIte,pE,pL,pA,pS,pM,pD,zN,qT,qG,qL,qH,qN,qB,qE,qO,qA,qM,w4,w44,w444,w16,v1,v2,v3,v4,v5,v6,u1,u2,u3,k4,kd,kd2,h9,Int.reduceEq,not_false_eq_true];refine⟨by kernel_rfl,zay.i cm ?_⟩;simp only[ZE,↓reduceIte,pE,pL,pA,pS,pM,pD,zN,qT,qG,qL,qH,qN,qB,qE,qO,qA,qM,zmd,za3,rawC,inA,zoF,chC,chD,zeQ,zgl,zc2,zif,zaV,zbS,sA,sB,sC,sD,sU,sVV,sX,sY,zho,zme,st,zcX,zbj,zgZ,zg0,zbi,zbh,emp,Int.reduceEq,not_false_eq_true]
  have h1:(((x.kind % 4:Nat):Int)==1)=false:=by simp; omega
  rw[if_neg b1];by_cases b2:x.kind % 4=2
  ·have h2:(((x.kind % 4:Nat):Int)==2)=true:=by simp[b2]
   rw[if_pos b2,q2];simp(maxSteps:=4000000) only[ZE,↓reduceIte,pE,pL,pA,pS,pM,pD,zeL,zN,qT,qG,qL,qH,qN,qB,qE,qO,qA,qM,Int.reduceEq,not_false_eq_true,w4,w44,w444,w16,v1,v2,v3,v4,v5,v6,u1,u2,u3,k4,kd,kd2];refine EFn.p ?_;simp only[ZE,↓reduceIte,pE,pL,pA,pS,pM,pD,zN,qT,qG,qL,qH,qN,qB,qE,qO,qA,qM];refine zar.i kc ?_;simp only[ZE,↓reduceIte,pE,pL,pA,pS,pM,pD,zN,qT,qG,qL,qH,qN,qB,qE,qO,qA,qM,Int.reduceEq,not_false_eq_true,w4,w44,w444,w16,v1,v2,v3,v4,v5,v6,u1,u2,u3,k4,kd,kd2,h0,h1,h2,h9];refine⟨by kernel_rfl,by kernel_rfl,by kernel_rfl,zay.i i1 ?_⟩;simp only[ZE,↓reduceIte,pE,pL,pA,pS,pM,pD,zN,qT,qG,qL,qH,qN,qB,qE,qO,qA,qM];refine zay.i o2 ?_;simp only[ZE,↓reduceIte,pE,pL,pA,pS,pM,pD,zN,qT,qG,qL,qH,qN,qB,qE,qO,qA,qM];refine⟨zay.i o2 ?_,?_⟩
   ·simp only[ZE,↓reduceIte,pE,pL,pA,pS,pM,pD]
   have ro:=zcm O2;have e4:4+O2.length=O2.length+1+1+1+1:=by omega
   try simp only[ZE,↓reduceIte,pE,pL,pA,pS,pM,pD,zN,qT,qG,qL,qH,qN,qB,qE,qO,qA,qM,w4,w44,w444,w16,v1,v2,v3,v4,v5,v6,u1,u2,u3,k4,kd,kd2,h9,e4,Int.reduceEq,not_false_eq_true]
   refine⟨⟨ro,by omega,by omega⟩,by kernel_rfl,zay.i cm ?_⟩;simp only[ZE,↓reduceIte,pE,pL,pA,pS,pM,pD,zN,qT,qG,qL,qH,qN,qB,qE,qO,qA,qM,zmd,za3,rawC,inA,zoF,chC,chD,zeQ,zgl,zc2,zif,zaV,zbS,sA,sB,sC,sD,sU,sVV,sX,sY,zho,zme,st,zcX,zbj,zgZ,zg0,zbi,zbh,emp,Int.reduceEq,not_false_eq_true]
  have h2:(((x.kind % 4:Nat):Int)==2)=false:=by simp; omega
  rw[if_neg b2,q3,h22,h24];simp(maxSteps:=4000000) only[ZE,↓reduceIte,pE,pL,pA,pS,pM,pD,zeL,zN,qT,qG,qL,qH,qN,qB,qE,qO,qA,qM,Int.reduceEq,not_false_eq_true,w4,w44,w444,w16,v1,v2,v3,v4,v5,v6,u1,u2,u3,k4,kd,kd2];refine EFn.p ?_;simp only[ZE,↓reduceIte,pE,pL,pA,pS,pM,pD,zN,qT,qG,qL,qH,qN,qB,qE,qO,qA,qM];refine zar.i kc ?_;simp only[ZE,↓reduceIte,pE,pL,pA,pS,pM,pD,zN,qT,qG,qL,qH,qN,qB,qE,qO,qA,qM,Int.reduceEq,not_false_eq_true,w4,w44,w444,w16,v1,v2,v3,v4,v5,v6,u1,u2,u3,k4,kd,kd2,h0,h1,h2,h9];refine⟨by kernel_rfl,by kernel_rfl,by kernel_rfl,zay.i i3 ?_⟩;simp only[ZE,↓reduceIte,pE,pL,pA,pS,pM,pD,zN,qT,qG,qL,qH,qN,qB,qE,qO,qA,qM];refine zay.i o3 ?_;simp only[ZE,↓reduceIte,pE,pL,pA,pS,pM,pD,zN,qT,qG,qL,qH,qN,qB,qE,qO,qA,qM];refine⟨zay.i o3 ?_,?_⟩
  ·simp only[ZE,↓reduceIte,pE,pL,pA,pS,pM,pD]
  have ro:=zcm O3;have e4:4+O3.length=O3.length+1+1+1+1:=by omega
  try simp only[ZE,↓reduceIte,pE,pL,pA,pS,pM,pD,zN,qT,qG,qL,qH,qN,qB,qE,qO,qA,qM,e4]
  refine⟨⟨ro,by omega,by omega⟩,by kernel_rfl,zay.i c22 ?_⟩;simp only[ZE,↓reduceIte,pE,pL,pA,pS,pM,pD,zN,qT,qG,qL,qH,qN,qB,qE,qO,qA,qM,e4];refine zay.i g24 ?_;simp only[ZE,↓reduceIte,pE,pL,pA,pS,pM,pD,zN,qT,qG,qL,qH,qN,qB,qE,qO,qA,qM,w4,w44,w444,w16,v1,v2,v3,v4,v5,v6,u1,u2,u3,k4,kd,kd2,h9,e4,Int.reduceEq,not_false_eq_true,List.length_append];refine⟨⟨by omega,by omega⟩,by kernel_rfl,zay.i cm ?_⟩;simp only[ZE,↓reduceIte,pE,pL,pA,pS,pM,pD,zN,qT,qG,qL,qH,qN,qB,qE,qO,qA,qM,List.map_append,zmd,za3,rawC,inA,zoF,chC,chD,zeQ,zgl,zc2,zif,zaV,zbS,sA,sB,sC,sD,sU,sVV,sX,sY,zho,zme,st,zcX,zbj,zgZ,zg0,zbi,zbh,emp,Int.reduceEq,not_false_eq_true]
def zlc(mem:Bool)(l:List Nat)(w:Num)(c0:Str):Expr:=match mem with
 | true=>.mk 5 emp zbh zbh [gen l [sR,sS,sT,c0] w 1 8,.mk 15 sM zbh zbh [gen l [sR,sS] w 0 10]]
 | false=>gen l [sR,sS,sT,c0] w 1 8
def zqS(mem:Bool)(l:List Nat)(w:Num)(c0 c1:Str)(z:List Item):List Item:=match mem with
 | true=>zk5 sR l 2 [sR,sS,sT,c0] w::zk5 sS l 4 [sS,sR,c0] w::zdi sT w (gen l [sR,sS] w 1 6)::memI l w c0::zdh c0 (cond l [sR,sS] w 1 18)::zif c1 (cond l [sR,sS,sT,c0] w 1 20) (zlc true l w c0)::z
 | false=>zk5 sR l 2 [sR,sS,sT,c0] w::zk5 sS l 4 [sS,sR,c0] w::zdi sT w (gen l [sR,sS] w 1 6)::zdh c0 (cond l [sR,sS] w 1 18)::zif c1 (cond l [sR,sS,sT,c0] w 1 20) (zlc false l w c0)::z
theorem ztZ(l:List Nat)(w:Num)(c0 c1:Str)(z:List Item): ∃mem,znO l w c0 c1++z=zqS mem l w c0 c1 z:=by
 unfold znO zlC zpJ zlE zoG;by_cases h:zaR l 0 % 2=1
 ·refine⟨true,?_⟩;simp only[if_pos h]; rfl
 ·refine⟨false,?_⟩;simp only[if_neg h]; rfl
def zjy(mem:Bool)(x:Raw):Module:=⟨zme,zdm (1+x.w / 16),[],inA x::zoF x::zqS mem x.l (za3 x) sA sB []⟩
def two(o:Bool)(a b:Module):List Module:=match o with
 | true=>[a,b]
 | false=>[b,a]
def zmf(x:Raw):Module:=⟨zme,zdm (1+x.w / 16),[],[inA x,zoF x,chC x,zc2 sU (za3 x) sA sC,zc2 sVV (za3 x) sC sB]⟩
def zjZ(mem:Bool)(x:Raw):Module:=⟨zme,zdm (1+x.w / 16),[],inA x::zoF x::chC x::zc2 sU (za3 x) sA sC::zqS mem x.l (za3 x) sC sB []⟩
def zj0(mem:Bool)(x:Raw):Module:=⟨zme,zdm (1+x.w / 16),[],zoF x::chC x::chD x::zc2 sU (za3 x) sC sD::zqS mem x.l (za3 x) sD sC [zif sB (cond x.l [sR,sS] (za3 x) 1 22) (gen x.l [sR,sS] (za3 x) 1 24)]⟩
/-- What a generated file looks like. -/
theorem zc6(x:Raw):(∃mem,zdF x=[zjy mem x])\/(∃o,zdF x=two o (zmf x) (zbf x.l))\/(∃o mem,zdF x=two o (zjZ mem x) (zbf x.l))\/(∃o mem,zdF x=two o (zj0 mem x) (zbf x.l)):=by
 by_cases b0:x.kind % 4=0
 ·zh7;obtain⟨mem,h⟩:=ztZ x.l (za3 x) sA sB [];rw[List.append_nil]at h;refine⟨mem,?_⟩;rw[zdF,if_pos b0,zmd,zd4,if_pos b0,h]; rfl
 right;have ho: ∀t:Module,zmd x=t-> ∃o,zdF x=two o t (zbf x.l):=by
  intro t ht;by_cases b9:x.kind / 4 % 2=1
  ·exact⟨true,by rw[zdF,if_neg b0,if_pos b9,ht]; rfl⟩
  ·exact⟨false,by rw[zdF,if_neg b0,if_neg b9,ht]; rfl⟩
 by_cases b1:x.kind % 4=1
 ·zh7;exact ho _ (by rw[zmd,zd4,if_neg b0,if_pos b1]; rfl)
 right;by_cases b2:x.kind % 4=2
 ·zh7;obtain⟨mem,h⟩:=ztZ x.l (za3 x) sC sB [];rw[List.append_nil]at h;obtain⟨o,h'⟩:=ho (zjZ mem x) (by rw[zmd,zd4,if_neg b0,if_neg b1,if_pos b2,h]; rfl);exact⟨o,mem,h'⟩
 ·right;obtain⟨mem,h⟩:=ztZ x.l (za3 x) sD sC [zif sB (cond x.l [sR,sS] (za3 x) 1 22) (gen x.l [sR,sS] (za3 x) 1 24)];obtain⟨o,h'⟩:=ho (zj0 mem x) (by rw[zmd,zd4,if_neg b0,if_neg b1,if_neg b2,List.append_assoc,h]; rfl);exact⟨o,mem,h'⟩
def sz(e:Expr):Nat:=e.all.length
theorem zez: ∀r:List Expr,(Expr.allL r).length =(r.map sz).sum
 | []=>rfl
 | e::r=>by rw[Expr.allL,List.length_append,List.map_cons,List.sum_cons,zez r]; rfl
theorem zef(o:Int)(n:Str)(k w:Num)(r:List Expr):sz (.mk o n k w r)=(r.map sz).sum +1:=by
 unfold sz;rw[Expr.all_eq,List.length_cons,Expr.args,zez]; rfl
theorem zfg(l:List Nat)(ns:List Str)(w:Num)(a:Nat):sz (zmN l ns w a)=1:=by
 unfold zmN; split <;> rw[zef] <;> rfl
theorem zmo(x y:Expr)(k:Nat):sz (ze8 x y k)<=sz x+sz y+1:=by
 unfold ze8;split
 ·rw[zef]; simp
 split
 ·rw[zef]; simp
 split
 ·rw[zef]; simp
 ·rw[zef]; simp
theorem ztM(x y c:Expr)(k:Nat):sz (zi9 x y c k)<=sz x+sz y+sz c+1:=by
 unfold zi9;split
 ·rw[zef]; simp only[List.map_cons,List.map_nil,List.sum_cons,List.sum_nil]; omega
 split
 ·rw[zef]; simp only[List.map_cons,List.map_nil,List.sum_cons,List.sum_nil]; omega
 split
 ·rw[zef]; simp only[List.map_cons,List.map_nil,List.sum_cons,List.sum_nil]; omega
 split
 ·rw[zef]; simp only[List.map_cons,List.map_nil,List.sum_cons,List.sum_nil]; omega
 split
 ·rw[zef]; simp only[List.map_cons,List.map_nil,List.sum_cons,List.sum_nil]; omega
 split
 ·rw[zef]; simp only[List.map_cons,List.map_nil,List.sum_cons,List.sum_nil]; omega
 ·rw[zef]; simp only[List.map_cons,List.map_nil,List.sum_cons,List.sum_nil]; omega
theorem zxc(l:List Nat)(ns:List Str)(w:Num)(a:Nat):sz (gen l ns w 0 a)<=20:=by
 have:=zfg l ns w a;show sz (zmN l ns w a)<=20;omega
theorem zlk(l:List Nat)(ns:List Str)(w:Num)(a:Nat):sz (gen l ns w 1 a)<=6:=by
 unfold gen;split
 ·have:=zfg l ns w a; omega
 ·have h1:=zfg l ns w (3*a+1);have h2:=zfg l ns w (3*a+2);have h3:=zfg l ns w (3*a+4);have h4:=zfg l ns w (3*a+5);have h5:=zmo (gen l ns w 0 (3*a+4)) (zmN l ns w (3*a+5)) (zaR l (3*a+3));have h6:=ztM (gen l ns w 0 (3*a+1)) (gen l ns w 0 (3*a+2)) (ze8 (gen l ns w 0 (3*a+4)) (zmN l ns w (3*a+5)) (zaR l (3*a+3))) (zaR l a);simp only[gen]at h5 h6 ⊢;omega
theorem zdr(l:List Nat)(ns:List Str)(w:Num)(a:Nat):sz (gen l ns w 1 a)<=20:=Nat.le_trans (zlk l ns w a) (by decide)
theorem zcC(l:List Nat)(ns:List Str)(w:Num)(a:Nat):sz (cond l ns w 1 a)<=20:=by
 have h1:=zlk l ns w (a+1);have h2:=zfg l ns w (a+2);have h3:=zmo (gen l ns w 1 (a+1)) (zmN l ns w (a+2)) (zaR l a);unfold cond;omega
theorem zoe(mem:Bool)(l:List Nat)(w:Num)(c0:Str):sz (zlc mem l w c0)<=20:=by
 cases mem
 ·exact zdr _ _ _ _
 ·have h1:=zlk l [sR,sS,sT,c0] w 8;have h2:=zfg l [sR,sS] w 10;show sz (.mk 5 emp zbh zbh [gen l [sR,sS,sT,c0] w 1 8,.mk 15 sM zbh zbh [gen l [sR,sS] w 0 10]])<=20;rw[zef,List.map_cons,List.map_cons,List.map_nil,zef,List.map_cons,List.map_nil];simp only[List.sum_cons,List.sum_nil,gen]at*;omega
theorem zik:sz zbS<=20:=by unfold zbS; rw[zef]; simp
theorem zuM{l:List Expr}: ∀ {x:Expr},x∈l->sz x<=(l.map sz).sum :=by
 induction l with
 | nil=>intro x h; simp at h
 | cons y r ih=>
  intro x h;rw[List.map_cons,List.sum_cons];rcases List.mem_cons.1 h with rfl | h
  ·omega
  ·have:=ih h; omega
def ztq(n:Nat):I64:=if h:n<=9223372036854775807 then⟨(n:Int),zdk h⟩else⟨0,rfl⟩
def zfk(k1 k3:Nat)(s:Str)(x:Item):Item:=
 if k1 % 12=4 then{x with name:=s}else if k1 % 12=5 then{x with kind:=ztq (k3 % 11)}else if k1 % 12=6 then{x with width:=⟨x.width.n,s⟩}
 else if k1 % 12=7 then{x with a:=.mk 14 s zbh zbh []}else if k1 % 12=8 then{x with a:=.mk (k3 % 20:Nat) s zbh zbh [x.a]}
 else if k1 % 12=9 then{x with rule:=⟨(k3 % 6:Nat)-1,s,0⟩}else if k1 % 12=10 then{x with of:=s}else if k1 % 12=11 then{x with ports:=x.ports++[⟨sX,s⟩]}else x
def zee(k1 k3:Nat)(s:Str)(l:List Item)(n:Nat)(x:Item):List Item:=(if k1 % 12<4 then l++[x]else l).set n (zfk k1 k3 s x)
def zkX(k1 k2 k3:Nat)(s:Str)(m:Module):Module:=
 if m.items.length=0\/k1 % 16<4 then
  (if k1 % 4=0 then{m with name:=s}else if k1 % 4=1 then{m with clock:=s}else if k1 % 4=2 then{m with params:=m.params++[s]}else{m with items:=m.items++[{zaV with kind:=ztq (k2 % 11),name:=s}]})
 else{m with items:=zee k1 k3 s m.items (k2 % m.items.length) (m.items.getD (k2 % m.items.length) zaV)}
set_option maxHeartbeats 4000000
set_option maxHeartbeats 8000000
def zkR(x:Item):Nat:=(Expr.allL [x.a,x.b,x.c]).length +x.ports.length+x.args.length
def zkS(m:Module):Nat:=m.items.length+m.params.length+(m.items.map zkR).sum
def zq2(l:List Module):Nat:=(l.map zkS).sum
/-- An item that is not large. -/
structure Tid (y:Item):Prop where
 a:sz y.a<=20
 b:sz y.b<=20
 c:sz y.c<=20
 args:y.args.length<=2
 ports:y.ports.length<=2
/-- A module that is not too large. -/
structure Fine (n:Nat) (m:Module):Prop where
 items:m.items.length<=n
 params:m.params.length<=n
 sizes: ∀x∈m.items,sz x.a+sz x.b+sz x.c<=n
 args: ∀x∈m.items,x.args.length<=n
 ports: ∀x∈m.items,x.ports.length<=n
theorem Fine.mono{n k:Nat}(h:n<=k){m:Module}(f:Fine n m):Fine k m:=
 ⟨Nat.le_trans f.items h,Nat.le_trans f.params h,fun x hx=>Nat.le_trans (f.sizes x hx) h,fun x hx=>Nat.le_trans (f.args x hx) h,fun x hx=>Nat.le_trans (f.ports x hx) h⟩
theorem zoH(x:Raw): ∀m∈zdF x,m.params.length<=60:=by
 have:((zdF x).all fun m=>decide (m.params.length<=60))=true:=by
  rcases zc6 x with⟨mem,h⟩ | ⟨q,h⟩ | ⟨q,mem,h⟩ | ⟨q,mem,h⟩
  ·rw[h]; cases mem <;> kernel_rfl
  ·rw[h]; cases q <;> kernel_rfl
  ·rw[h]; cases q <;> cases mem <;> kernel_rfl
  ·rw[h]; cases q <;> cases mem <;> kernel_rfl
 intro m hm;rw[List.all_eq_true]at this;simpa using this m hm
theorem ziy(k:I64)(n:Str)(w:Num):Tid (zeQ k n w):={a:=zik,b:=zik,c:=zik,args:=by simp[zeQ,zaV],ports:=by simp[zeQ,zaV]}
theorem zr7(n:Str)(w d:Num):Tid (zgl n w d):={a:=zik,b:=zik,c:=zik,args:=by simp[zgl,zaV],ports:=by simp[zgl,zaV]}
theorem zuP(n:Str)(r:List Nat)(a:Nat)(ns:List Str)(w:Num):Tid (zk5 n r a ns w):={a:=zdr _ _ _ _,b:=zik,c:=zik,args:=by simp[zk5,zaV],ports:=by simp[zk5,zaV]}
theorem zx9(n:Str)(w:Num)(e:Expr)(he:sz e<=20):Tid (zdi n w e):={a:=he,b:=zik,c:=zik,args:=by simp[zdi,zaV],ports:=by simp[zdi,zaV]}
theorem zx8(n:Str)(e:Expr)(he:sz e<=20):Tid (zdh n e):={a:=he,b:=zik,c:=zik,args:=by simp[zdh,zaV],ports:=by simp[zdh,zaV]}
theorem zx7(n:Str)(e z:Expr)(he:sz e<=20)(hz:sz z<=20):Tid (zif n e z):={a:=he,b:=hz,c:=zik,args:=by simp[zif,zaV],ports:=by simp[zif,zaV]}
theorem tid_mem(r:List Nat)(w:Num)(c0:Str):Tid (memI r w c0):={a:=zcC _ _ _ _,b:=zxc _ _ _ _,c:=zdr _ _ _ _,args:=by simp[memI,zaV],ports:=by simp[memI,zaV]}
theorem zr8(n:Str)(w:Num)(c0 c1:Str):Tid (zc2 n w c0 c1):={a:=zik,b:=zik,c:=zik,args:=by simp[zc2],ports:=by simp[zc2]}
theorem tid_own(mem:Bool)(r:List Nat)(w:Num)(c0 c1:Str)(z:List Item)(hz: ∀y∈z,Tid y): ∀y∈zqS mem r w c0 c1 z,Tid y:=by
 cases mem
 ·simp only[zqS,List.forall_mem_cons];exact⟨zuP _ _ _ _ _,zuP _ _ _ _ _,zx9 _ _ _ (zdr _ _ _ _),zx8 _ _ (zcC _ _ _ _),zx7 _ _ _ (zcC _ _ _ _) (zoe _ _ _ _),hz⟩
 ·simp only[zqS,List.forall_mem_cons];exact⟨zuP _ _ _ _ _,zuP _ _ _ _ _,zx9 _ _ _ (zdr _ _ _ _),tid_mem _ _ _,zx8 _ _ (zcC _ _ _ _),zx7 _ _ _ (zcC _ _ _ _) (zoe _ _ _ _),hz⟩
theorem zx6(b:List Nat): ∀y∈(zbf b).items,Tid y:=by
 simp only[zbf,List.forall_mem_cons];exact⟨ziy _ _ _,ziy _ _ _,zuP _ _ _ _ _,zx9 _ _ _ (zdr _ _ _ _),zx8 _ _ (zcC _ _ _ _),zx7 _ _ _ (zcC _ _ _ _) (zdr _ _ _ _),by simp⟩
theorem tid_made(x:Raw):(zdF x).length <=2/\0<(zdF x).length /\ ∀m∈zdF x,(0<m.items.length/\m.items.length<=20)/\ ∀y∈m.items,Tid y:=by
 have nil: ∀y∈([]:List Item),Tid y:=by simp
 have hm: ∀(o:Bool) (a b:Module) (P:Module->Prop),P a->P b-> ∀m∈two o a b,P m:=by
  intro o a b P ha hb m hm;cases o
  ·simp only[two,List.mem_cons,List.not_mem_nil,or_false]at hm;rcases hm with rfl | rfl
   ·exact hb
   ·exact ha
  ·simp only[two,List.mem_cons,List.not_mem_nil,or_false]at hm;rcases hm with rfl | rfl
   ·exact ha
   ·exact hb
 have hl: ∀(o:Bool) (a b:Module),(two o a b).length <=2/\0<(two o a b).length :=by
  intro o a b;cases o <;> exact⟨by simp[two],by simp[two]⟩
 rcases zc6 x with⟨mem,h⟩ | ⟨o,h⟩ | ⟨o,mem,h⟩ | ⟨o,mem,h⟩
 ·rw[h];refine⟨by simp,by simp,fun m hm=> ?_⟩;simp only[List.mem_cons,List.not_mem_nil,or_false]at hm;subst hm;refine⟨by cases mem <;> exact⟨by simp[zjy],by simp[zjy,zqS]⟩,?_⟩;simp only[zjy,List.forall_mem_cons];exact⟨ziy _ _ _,ziy _ _ _,tid_own _ _ _ _ _ _ nil⟩
 ·rw[h];refine⟨(hl _ _ _).1,(hl _ _ _).2,hm _ _ _ _ ⟨⟨by simp[zmf],by simp[zmf]⟩,?_⟩ ⟨⟨by simp[zbf],by simp[zbf]⟩,zx6 _⟩⟩;simp only[zmf,List.forall_mem_cons];exact⟨ziy _ _ _,ziy _ _ _,zr7 _ _ _,zr8 _ _ _ _,zr8 _ _ _ _,nil⟩
 ·rw[h];refine⟨(hl _ _ _).1,(hl _ _ _).2,hm _ _ _ _ ⟨by cases mem <;> exact⟨by simp[zjZ],by simp[zjZ,zqS]⟩,?_⟩ ⟨⟨by simp[zbf],by simp[zbf]⟩,zx6 _⟩⟩;simp only[zjZ,List.forall_mem_cons];exact⟨ziy _ _ _,ziy _ _ _,zr7 _ _ _,zr8 _ _ _ _,tid_own _ _ _ _ _ _ nil⟩
 ·rw[h];refine⟨(hl _ _ _).1,(hl _ _ _).2,hm _ _ _ _ ⟨by cases mem <;> exact⟨by simp[zj0],by simp[zj0,zqS]⟩,?_⟩ ⟨⟨by simp[zbf],by simp[zbf]⟩,zx6 _⟩⟩;simp only[zj0,List.forall_mem_cons];exact⟨ziy _ _ _,zr7 _ _ _,zr7 _ _ _,zr8 _ _ _ _,tid_own _ _ _ _ _ _ (by simp only[List.forall_mem_cons]; exact⟨zx7 _ _ _ (zcC _ _ _ _) (zdr _ _ _ _),nil⟩)⟩
theorem zmC(x:Raw): ∀m∈zdF x,Fine 60 m:=fun m hm=>by
 obtain⟨_,_,h⟩:=tid_made x;obtain⟨⟨_,h1⟩,h2⟩:=h m hm;refine⟨by omega,zoH x m hm,fun y hy=> ?_,fun y hy=> ?_,fun y hy=> ?_⟩
 ·have:=(h2 y hy).a; have:=(h2 y hy).b; have:=(h2 y hy).c; omega
 ·have:=(h2 y hy).args; omega
 ·have:=(h2 y hy).ports; omega
theorem znx(x:Item)(ha:sz x.a+sz x.b+sz x.c<=1000)(hr:x.args.length<=1000):(zaX x).length <=2000000:=by
 unfold zaX;rw[List.length_append];have h1:(zbg x).length <=1000:=by
  unfold zbg;split
  ·simp
  split
  ·simp
  split
  ·simp
  split
  ·exact hr
  ·simp
 have h2:(Expr.allL (zbl x)).length <=1000:=by
  have:=(zhA [x.a,x.b,x.c] (zhv x.kind.1)).length_le;rw[zez [x.a,x.b,x.c]]at this;simp only[List.map_cons,List.map_nil,List.sum_cons,List.sum_nil]at this;unfold zbl;omega
 have h3: ∀r:List Expr,(r.flatMap zaZ).length <=2*r.length:=by
  intro r
  induction r with
  | nil=>simp
  | cons q r ih=>
   rw[List.flatMap_cons,List.length_append,List.length_cons];have:(zaZ q).length <=2:=by
    unfold zaZ;split
    ·simp
    split
    ·simp
    split
    ·simp
    ·simp
   omega
 have:=h3 (Expr.allL (zbl x));omega
theorem zfC{n:Nat}(hn:n<=900){l:List Module}(hl:l.length<=1000)(h: ∀m∈l,Fine n m):Small l:=
 {len:=hl,items:=fun m hm=>Nat.le_trans (h m hm).items hn,nums:=fun m hm x hx=>znx x (by have:=(h m hm).sizes x hx; omega) (by have:=(h m hm).args x hx; omega)}
structure Part where
 kind:I64
 name:Str
 deriving DecidableEq
structure Edit where
 module:Str
 part:Part
 has:Bool
 to:Item
 head:Module
def zbo(x:Item):Part:=⟨x.kind,x.name⟩
def zdb:Part:=⟨⟨0,rfl⟩,emp⟩
def ltS(a b:Str):Bool:=Op.bytesLess a.1.toList b.1.toList
def ltP(a b:Part):Bool:=decide (a.kind.1<b.kind.1)||(decide (a.kind.1=b.kind.1)&&ltS a.name b.name)
/-! ### Orders -/
theorem zsp: ∀a:List UInt8,Op.bytesLess a a=false
 | []=>rfl
 | x::a=>by simp[Op.bytesLess,zsp a]
theorem bytes_tr: ∀a b c:List UInt8,Op.bytesLess a b=true->Op.bytesLess b c=true->Op.bytesLess a c=true
 | _,[],_,h,_=>by simp[Op.bytesLess]at h
 | _,_::_,[],_,h=>by simp[Op.bytesLess]at h
 | [],_::_,_::_,_,_=>rfl
 | x::a,y::b,z::c,h1,h2=>by
  simp only[Op.bytesLess,Bool.or_eq_true,decide_eq_true_eq,Bool.and_eq_true,beq_iff_eq]at h1 h2 ⊢;rcases h1 with h1 | ⟨rfl,h1⟩
  ·rcases h2 with h2 | ⟨rfl,h2⟩
   ·exact .inl (UInt8.lt_trans h1 h2)
   ·exact .inl h1
  ·rcases h2 with h2 | ⟨rfl,h2⟩
   ·exact .inl h2
   ·exact .inr ⟨rfl,bytes_tr a b c h1 h2⟩
theorem zvE: ∀a b:List UInt8,Op.bytesLess a b=false->Op.bytesLess b a=false->a=b
 | [],[],_,_=>rfl
 | [],_::_,h,_=>by simp[Op.bytesLess]at h
 | _::_,[],_,h=>by simp[Op.bytesLess]at h
 | x::a,y::b,h1,h2=>by
  simp only[Op.bytesLess,Bool.or_eq_false_iff,decide_eq_false_iff_not,Bool.and_eq_false_iff,beq_eq_false_iff_ne]at h1 h2;obtain⟨p1,p2⟩:=h1;obtain⟨q1,q2⟩:=h2;have e:x=y:=UInt8.le_antisymm (UInt8.not_lt.1 q1) (UInt8.not_lt.1 p1);subst e;rw[zvE a b (p2.resolve_left (fun h=>h rfl)) (q2.resolve_left (fun h=>h rfl))]
theorem toList_inj{a b:Str}(h:a.1.toList=b.1.toList):a=b:=by
 apply Subtype.ext;rw[Lib.toList_data,Lib.toList_data]at h;exact ByteArray.ext (Array.toList_inj.1 h)
theorem zu2:TOrd ltS:={
 irr:=fun a=>zsp _
 tr:=fun a b c=>bytes_tr _ _ _
 conn:=fun a b h1 h2=>toList_inj (zvE _ _ h1 h2)}
theorem zxL:TOrd ltP:={
 irr:=fun a=>by simp[ltP,zu2.irr]
 tr:=fun a b c h1 h2=>by
  simp only[ltP,Bool.or_eq_true,decide_eq_true_eq,Bool.and_eq_true]at h1 h2 ⊢;rcases h1 with h1 | ⟨e1,h1⟩
  ·rcases h2 with h2 | ⟨e2,h2⟩
   ·exact .inl (by omega)
   ·exact .inl (by omega)
  ·rcases h2 with h2 | ⟨e2,h2⟩
   ·exact .inl (by omega)
   ·exact .inr ⟨by omega,zu2.tr _ _ _ h1 h2⟩
 conn:=fun a b h1 h2=>by
  simp only[ltP,Bool.or_eq_false_iff,decide_eq_false_iff_not,Bool.and_eq_false_iff]at h1 h2;obtain⟨⟨a1,a2⟩,a3⟩:=a;obtain⟨⟨b1,b2⟩,b3⟩:=b;simp only at h1 h2;have e:a1=b1:=by omega
  subst e;have:=zu2.conn a3 b3 (h1.2.resolve_left (fun h=>h rfl)) (h2.2.resolve_left (fun h=>h rfl));rw[this]}
/-! ### Equality of expressions,items,heads -/
mutual
def ziv:Expr->Expr->Bool
 | .mk o n k w a,.mk o' n' k' w' a'=>(o==o'&&decide (n=n')&&decide (k=k')&&decide (w=w'))&&zjT a a'
def zjT:List Expr->List Expr->Bool
 | [],[]=>true
 | x::a,y::b=>ziv x y&&zjT a b
 | _,_=>false
end
mutual
theorem sameE_iff: ∀a b:Expr,ziv a b=true↔a=b
 | .mk o n k w a,.mk o' n' k' w' a'=>by
  simp only[ziv,Bool.and_eq_true,beq_iff_eq,decide_eq_true_eq,zwk a a',Expr.mk.injEq];constructor
  ·rintro⟨⟨⟨⟨h1,h2⟩,h3⟩,h4⟩,h5⟩; exact⟨h1,h2,h3,h4,h5⟩
  ·rintro⟨h1,h2,h3,h4,h5⟩; exact⟨⟨⟨⟨h1,h2⟩,h3⟩,h4⟩,h5⟩
theorem zwk: ∀a b:List Expr,zjT a b=true↔a=b
 | [],[]=>by simp[zjT]
 | [],_::_=>by simp[zjT]
 | _::_,[]=>by simp[zjT]
 | x::a,y::b=>by simp only[zjT,Bool.and_eq_true,sameE_iff x y,zwk a b,List.cons.injEq]
end
def zlL(x y:Item):Bool:=decide (zbo x=zbo y)&&(decide (x.width=y.width)&&decide (x.depth=y.depth)&&decide (x.init=y.init))&&decide (x.rule=y.rule)&&decide (x.of=y.of)&&decide (x.args=y.args)&&decide (x.ports=y.ports)&&ziv x.a y.a&&ziv x.b y.b&&ziv x.c y.c
theorem sameI_iff(x y:Item):zlL x y=true↔x=y:=by
 obtain⟨k,n,w,d,i,a,b,c,r,o,ar,po⟩:=x;obtain⟨k',n',w',d',i',a',b',c',r',o',ar',po'⟩:=y;simp only[zlL,zbo,Bool.and_eq_true,decide_eq_true_eq,sameE_iff,Item.mk.injEq,Part.mk.injEq];constructor
 ·rintro⟨⟨⟨⟨⟨⟨⟨⟨⟨h1,h2⟩,⟨h3,h4⟩,h5⟩,h6⟩,h7⟩,h8⟩,h9⟩,h10⟩,h11⟩,h12⟩;exact⟨h1,h2,h3,h4,h5,h10,h11,h12,h6,h7,h8,h9⟩
 ·rintro⟨h1,h2,h3,h4,h5,h10,h11,h12,h6,h7,h8,h9⟩;exact⟨⟨⟨⟨⟨⟨⟨⟨⟨h1,h2⟩,⟨h3,h4⟩,h5⟩,h6⟩,h7⟩,h8⟩,h9⟩,h10⟩,h11⟩,h12⟩
def zuv(m n:Module):Bool:=decide (m.name=n.name)&&decide (m.clock=n.clock)&&decide (m.params=n.params)
theorem sameH_iff(m n:Module):zuv m n=true↔{n with items:=m.items}=m:=by
 obtain⟨a,b,c,d⟩:=m;obtain⟨a',b',c',d'⟩:=n;simp only[zuv,Bool.and_eq_true,decide_eq_true_eq,Module.mk.injEq,and_true];constructor
 ·rintro⟨⟨h1,h2⟩,h3⟩; exact⟨h1.symm,h2.symm,h3.symm⟩
 ·rintro⟨h1,h2,h3⟩; exact⟨⟨h1.symm,h2.symm⟩,h3.symm⟩
def zl6:List Item->List Item->Bool
 | [],[]=>true
 | x::a,y::b=>zlL x y&&zl6 a b
 | _,_=>false
theorem zwm: ∀a b:List Item,zl6 a b=true↔a=b
 | [],[]=>by simp[zl6]
 | [],_::_=>by simp[zl6]
 | _::_,[]=>by simp[zl6]
 | x::a,y::b=>by simp only[zl6,Bool.and_eq_true,sameI_iff x y,zwm a b,List.cons.injEq]
def znb(m n:Module):Bool:=zuv m n&&zl6 m.items n.items
theorem zuw(m n:Module):znb m n=true↔m=n:=by
 unfold znb;rw[Bool.and_eq_true,sameH_iff,zwm];obtain⟨a,b,c,d⟩:=m;obtain⟨a',b',c',d'⟩:=n;simp only[Module.mk.injEq,and_true];constructor
 ·rintro⟨⟨h1,h2,h3⟩,h4⟩; exact⟨h1.symm,h2.symm,h3.symm,h4⟩
 ·rintro⟨h1,h2,h3,h4⟩; exact⟨⟨h1.symm,h2.symm,h3.symm⟩,h4⟩
def zmb:List Module->List Module->Bool
 | [],[]=>true
 | x::a,y::b=>znb x y&&zmb a b
 | _,_=>false
theorem zna: ∀a b:List Module,zmb a b=true↔a=b
 | [],[]=>by simp[zmb]
 | [],_::_=>by simp[zmb]
 | _::_,[]=>by simp[zmb]
 | x::a,y::b=>by simp only[zmb,Bool.and_eq_true,zuw x y,zna a b,List.cons.injEq]
/-! ### zbE forms,differences,edits applied -/
def zxG(m:Module):Module:={m with items:=sortK ltP zbo m.items}
def zet(l:List Module):List Module:=(sortK ltS Module.name l).map zxG
/-- A file whose parts have one place each. -/
structure Parted (l:List Module):Prop where
 names:(l.map Module.name).Nodup
 parts: ∀m∈l,(m.items.map zbo).Nodup
 kinds: ∀m∈l,∀x∈m.items,x.kind.1≠0
def eRem(n:Str)(x:Item):Edit:=⟨n,zbo x,false,zaV,zdQ⟩
def zcs(n:Str)(x:Item):Edit:=⟨n,zbo x,true,x,zdQ⟩
def eHead(m:Module):Edit:=⟨m.name,zdb,true,zaV,{m with items:=[]}⟩
def zva(n:Str):Edit:=⟨n,zdb,false,zaV,zdQ⟩
def ztk(n:Str)(a b:List Item):List Edit:=mrgM ltP zbo (fun x=>[eRem n x]) (fun y=>[zcs n y]) (fun x y=>if zlL x y=true then []else [zcs n y]) a b
def headD(m n:Module):List Edit:=if zuv m n=true then []else [eHead n]
def diffN(a b:List Module):List Edit:=mrgM ltS Module.name (fun m=>ztk m.name m.items []++[zva m.name]) (fun m=>eHead m::ztk m.name [] m.items) (fun m n=>headD m n++ztk n.name m.items n.items) a b
def zrC(a b:List Module):List Edit:=diffN (zet a) (zet b)
def zmc(l:List Module)(e:Edit):Option (List Module):=
 match lkp Module.name l e.module with
 | none=>none
 | some m=>
  if e.has=true then if zbo e.to≠e.part\/e.part.kind.1=0 then none else some (zp9 ltS Module.name l {m with items:=zp9 ltP zbo m.items e.to})
  else if (lkp zbo m.items e.part).isSome =true then some (zp9 ltS Module.name l {m with items:=rmvS zbo m.items e.part})else none
def stepH(l:List Module)(e:Edit):Option (List Module):=
 if e.has=true then
  if e.head.name≠e.module\/e.head.items≠[]then none
  else match lkp Module.name l e.module with
   | none=>some (zp9 ltS Module.name l e.head)
   | some m=>some (zp9 ltS Module.name l {m with clock:=e.head.clock,params:=e.head.params})
 else match lkp Module.name l e.module with
  | none=>none
  | some m=>if m.items≠[]then none else some (rmvS Module.name l e.module)
def stepE(l:List Module)(e:Edit):Option (List Module):=if e.part=zdb then stepH l e else zmc l e
def zo5(l:List Module)(es:List Edit):Option (List Module):=es.foldlM stepE (zet l)
/-- A file in normal form. -/
structure Good (l:List Module):Prop where
 srt:Srt ltS Module.name l
 parts: ∀m∈l,Srt ltP zbo m.items
structure Kinds (l:List Module):Prop where
 kinds: ∀m∈l,∀x∈m.items,x.kind.1≠0
theorem Good.put{l:List Module}(h:Good l){m:Module}(hm:Srt ltP zbo m.items):Good (zp9 ltS Module.name l m):=by
 refine⟨h.srt.ins zu2 m,fun z hz=> ?_⟩;rcases zxA hz with rfl | hz
 ·exact hm
 ·exact h.parts z hz
theorem Good.rmv{l:List Module}(h:Good l)(n:Str):Good (rmvS Module.name l n):=⟨h.srt.del n,fun z hz=>h.parts z (zxB hz)⟩
theorem Good.at{l:List Module}(h:Good l){n:Str}{m:Module}(hm:lkp Module.name l n=some m):Srt ltP zbo m.items/\m.name=n:=⟨h.parts m (ze3 hm).1,(ze3 hm).2⟩
theorem Good.ext{l l':List Module}(h:Good l)(h':Good l')(he: ∀k,lkp Module.name l k=lkp Module.name l' k):l=l':=Srt.ext zu2 h.srt h'.srt he
/-! ### One module's items -/
theorem zl1{x:Item}(h:x.kind.1≠0):zbo x≠zdb:=fun e=>h (by have:=congrArg (fun p:Part=>p.kind.1) e; exact this)
/-- What stays while a module's items are changed. -/
structure InMod (s0:List Module) (n:Str) (m:Module) (s:List Module):Prop where
 good:Good s
 here: ∃its,lkp Module.name s n=some {m with items:=its}
 rest: ∀k,k≠n->lkp Module.name s k=lkp Module.name s0 k
def ansI(n:Str)(s:List Module)(p:Part):Option Item:=match lkp Module.name s n with | some m=>lkp zbo m.items p | none=>none
/-! ### Files -/
def mOk(m:Module):Prop:=Srt ltP zbo m.items/\ ∀x∈m.items,x.kind.1≠0
def ztb(a:List Module)(l:List Edit):Option (List Edit):=(zo5 a l).map fun g=>zrC g a
def tgt(e:Edit):Str×Part:=(e.module,e.part)
/-- A module behind an edit of an item. -/
def chg(m:Module)(e:Edit):Module:={m with items:=if e.has=true then zp9 ltP zbo m.items e.to else rmvS zbo m.items e.part}
/-- The edit can be done. -/
def fitE(m:Module)(e:Edit):Prop:=if e.has=true then zbo e.to=e.part/\e.part.kind.1≠0 else(lkp zbo m.items e.part).isSome =true
def zgm(p:Part):List D:=[eI p.kind.1,eS p.name]
theorem zxN(a b:Part):(a.kind.1==b.kind.1&&decide (a.name=b.name))=decide (a=b):=by
 obtain⟨⟨a1,a2⟩,a3⟩:=a;obtain⟨⟨b1,b2⟩,b3⟩:=b;rw[Bool.eq_iff_iff];simp
theorem rof_c(x:Item):FnP Tryz.prog 30 [.agg (zaK x)] (.d (.agg (zgm (zbo x)))) []:=by
 refine FnP.of_eC (own:=[]) (fun _=>[]) zat Tryz.func30 rfl Tryz.call30 Tryz.ntmps30 (Nat.le_of_ble_eq_true rfl) Tryz.results30 (fun hok=> ?_);simp(maxSteps:=4000000) only[ZE,↓reduceIte,pE,pL,pA,pS,pM,pD,zgm,zbo]
theorem rfind_c(l:List Module)(n:Str):FnP Tryz.prog 43 [.agg [zaz l],eS n] (.d (eI (zhd (fun m:Module=>decide (m.name=n)) l))) []:=by
 refine FnP.of_eC (own:=[]) (fun _=>[]) zat Tryz.func43 rfl Tryz.call43 Tryz.ntmps43 (Nat.le_of_ble_eq_true rfl) Tryz.results43 (fun hok=> ?_);have hl:l.length<=9223372036854775807:=by
  have:=(zaM hok).1;simp only[D.ok,D.okL]at this;exact(za9 this.1).1
 simp(maxSteps:=4000000) only[ZE,↓reduceIte,pE,pL,pA,pS,pM,pD,zN,qT,qG,qL,qH,qN,qB,qE,qO,qA,qM];refine za2 (fun _=>[]) zat l.length (fun i=> ∀j (_:j<i) (hj:j<l.length),decide (l[j].name =n)=false) (fun i=>([(1,.d (eS n)),(2,.bp 2 0),(5,.d (eI i))],[(2,.box [.d (zaz l)])])) (by simp) (by simp only[ZE,↓reduceIte,pE,pL,pA,pS,pM,pD,zN,qT,qG,qL,qH,qN,qB,qE,qO,qA,qM]) (by simp only[ZE,↓reduceIte,pE,pL,pA,pS,pM,pD]) (fun i hi hI=> ?_);rcases Nat.lt_or_ge i l.length with h | h
 ·have hw:=zas (show i<9223372036854775807 by omega);simp(maxSteps:=4000000) only[ZE,↓reduceIte,pE,pL,pA,pS,pM,pD,zax h,zaa h,zal h,hw,zN,qT,qG,qL,qH,qN,qB,qE,qO,qA,qM];refine zea (fun h3=> ?_) (fun h3=>⟨h,fun j hj hj'=> ?_⟩)
  ·rw[zeO h h3 hI]
  ·rcases Nat.lt_succ_iff_lt_or_eq.1 hj with hj | rfl
   ·exact hI j hj hj'
   ·exact h3
 ·simp(maxSteps:=4000000) only[ZE,↓reduceIte,pE,pL,pA,pS,pM,pD,zaI h,zN,qT,qG,qL,qH,qN,qB,qE,qO,qA,qM];rw[zff (fun j hj=>hI j (by omega) hj)]
theorem rindex_c(m:Module)(p:Part):FnP Tryz.prog 58 [.agg (zaC m),.agg (zgm p)] (.d (eI (zhd (fun x=>decide (zbo x=p)) m.items))) []:=by
 refine FnP.of_eC (own:=[]) (fun _=>[]) zat Tryz.func58 rfl Tryz.call58 Tryz.ntmps58 (Nat.le_of_ble_eq_true rfl) Tryz.results58 (fun hok=> ?_);have hl:m.items.length<=9223372036854775807:=by
  have:=(zaM hok).1;simp only[zaC,zbU,D.ok,D.okL]at this;exact(za9 this.2.2.2.1).1
 simp(maxSteps:=4000000) only[ZE,↓reduceIte,pE,pL,pA,pS,pM,pD,zgm,zN,qT,qG,qL,qH,qN,qB,qE,qO,qA,qM];refine za2 (fun _=>[]) zat m.items.length (fun i=> ∀j (_:j<i) (hj:j<m.items.length),decide (zbo m.items[j]=p)=false) (fun i=>([(2,.bp 2 0),(3,.bp 3 0),(5,.d (eI i))],[(2,.box ((zaC m).map .d)),(3,.box ((zgm p).map .d))])) (by simp) (by simp only[ZE,↓reduceIte,pE,pL,pA,pS,pM,pD,zgm,zN,qT,qG,qL,qH,qN,qB,qE,qO,qA,qM]) (by simp only[ZE,↓reduceIte,pE,pL,pA,pS,pM,pD,zgm]) (fun i hi hI=> ?_);rcases Nat.lt_or_ge i m.items.length with h | h
 ·have hw:=zas (show i<9223372036854775807 by omega);obtain⟨x,hx⟩:=zX (m.items[i]);have oc:=rof_c x;have pe':decide (zbo x=p)=(x.kind.1==p.kind.1&&decide (x.name=p.name)):=(zxN (zbo x) p).symm;simp only[ZE,↓reduceIte,pE,pL,pA,pS,pM,pD,zgm,zbo]at oc;simp(maxSteps:=4000000) only[ZE,↓reduceIte,pE,pL,pA,pS,pM,pD,zax h,zaa h,zal h,hx,zgm,zN,qT,qG,qL,qH,qN,qB,qE,qO,qA,qM];refine⟨by kernel_rfl,zay.i oc ?_⟩;simp only[ZE,↓reduceIte,pE,pL,pA,pS,pM,pD,zN,qT,qG,qL,qH,qN,qB,qE,qO,qA,qM,hw];refine zea (fun h3=> ?_) (fun h3=>⟨h,fun j hj hj'=> ?_⟩)
  ·rw[zeO h (by rw[hx,pe']; exact h3) hI]
  ·rcases Nat.lt_succ_iff_lt_or_eq.1 hj with hj | rfl
   ·exact hI j hj hj'
   ·rw[hx,pe']; exact h3
 ·simp(maxSteps:=4000000) only[ZE,↓reduceIte,pE,pL,pA,pS,pM,pD,zaI h,zN,qT,qG,qL,qH,qN,qB,qE,qO,qA,qM];rw[zff (fun j hj=>hI j (by omega) hj)]
/-! ### Partitioned -/
def okK(m:Module)(k:Nat):Bool:= !((m.items.getD k zaV).kind.1 ==0)&&(zhd (fun x=>decide (zbo x=zbo (m.items.getD k zaV))) m.items==(k:Int))
def itemsB(m:Module):Bool:=(List.range m.items.length).all (okK m)
def okM(l:List Module)(i:Nat):Bool:=(zhd (fun m:Module=>decide (m.name=(l.getD i zdQ).name)) l==(i:Int))&&itemsB (l.getD i zdQ)
def zgo(l:List Module):Bool:=(List.range l.length).all (okM l)
theorem zqA{α:Type}{p:α->Bool}{l:List α}{k:Nat}(h:zhd p l=(k:Int)): ∃h':k<l.length,p l[k]=true/\ ∀j (hj:j<k),p (l[j]'(by omega))=false:=by
 unfold zhd at h;split at h
 ·rename_i i hi;have e:i=k:=by omega
  subst e;rw[List.findIdx?_eq_some_iff_getElem]at hi;obtain⟨h1,h2,h3⟩:=hi;exact⟨h1,h2,fun j hj=>by simpa using h3 j hj⟩
 ·omega
theorem zbW(l:List Module):zgo l=true↔Parted l:=by
 unfold zgo;rw[List.all_eq_true];have hK: ∀m:Module,itemsB m=true↔(m.items.map zbo).Nodup /\ ∀x∈m.items,x.kind.1≠0:=by
  intro m;unfold itemsB;rw[List.all_eq_true];constructor
  ·intro h;have h': ∀k (hk:k<m.items.length),m.items[k].kind.1 ≠0/\ ∀j (hj:j<k),zbo (m.items[j]'(by omega))≠zbo m.items[k]:=by
    intro k hk;have:=h k (List.mem_range.2 hk);unfold okK at this;have hg:m.items.getD k zaV=m.items[k]:=(by simp[List.getD,hk]);rw[hg,Bool.and_eq_true,beq_iff_eq]at this;obtain⟨_,_,h3⟩:=zqA this.2;exact⟨by simpa using this.1,fun j hj=>by simpa using h3 j hj⟩
   refine⟨?_,fun x hx=> ?_⟩
   ·rw[List.nodup_iff_pairwise_ne,List.pairwise_map,List.pairwise_iff_getElem];intro i j hi hj hij;exact(h' j hj).2 i hij
   ·obtain⟨k,hk,rfl⟩:=List.getElem_of_mem hx;exact(h' k hk).1
  ·rintro⟨h1,h2⟩ k hk;have hk:=List.mem_range.1 hk;have hg:m.items.getD k zaV=m.items[k]:=by simp[List.getD,hk]
   unfold okK;rw[hg,Bool.and_eq_true,beq_iff_eq];refine⟨by simpa using h2 _ (List.getElem_mem hk),?_⟩;refine zeO hk (by simp) (fun j hj hj'=> ?_);rw[List.nodup_iff_pairwise_ne,List.pairwise_map,List.pairwise_iff_getElem]at h1;simpa using h1 j k hj' hk hj
 constructor
 ·intro h;have h': ∀k (hk:k<l.length),(∀j (hj:j<k),(l[j]'(by omega)).name ≠l[k].name)/\itemsB l[k]=true:=by
   intro k hk;have:=h k (List.mem_range.2 hk);unfold okM at this;have hg:l.getD k zdQ=l[k]:=by simp[List.getD,hk]
   rw[hg,Bool.and_eq_true,beq_iff_eq]at this;obtain⟨_,_,h3⟩:=zqA this.1;exact⟨fun j hj=>by simpa using h3 j hj,this.2⟩
  refine⟨?_,fun m hm=> ?_,fun m hm=> ?_⟩
  ·rw[List.nodup_iff_pairwise_ne,List.pairwise_map,List.pairwise_iff_getElem];intro i j hi hj hij;exact(h' j hj).1 i hij
  ·obtain⟨k,hk,rfl⟩:=List.getElem_of_mem hm;exact((hK _).1 (h' k hk).2).1
  ·obtain⟨k,hk,rfl⟩:=List.getElem_of_mem hm;exact((hK _).1 (h' k hk).2).2
 ·intro h k hk;have hk:=List.mem_range.1 hk;have hg:l.getD k zdQ=l[k]:=by simp[List.getD,hk]
  unfold okM;rw[hg,Bool.and_eq_true,beq_iff_eq];refine⟨?_,(hK _).2 ⟨h.parts _ (List.getElem_mem hk),h.kinds _ (List.getElem_mem hk)⟩⟩;refine zeO hk (by simp) (fun j hj hj'=> ?_);have h1:=h.names;rw[List.nodup_iff_pairwise_ne,List.pairwise_map,List.pairwise_iff_getElem]at h1;simpa using h1 j k hj' hk hj
/-! ### Generated files are partitioned -/
theorem parted_made(x:Raw):zgo (zdF x)=true:=by
 rcases zc6 x with⟨mem,h⟩ | ⟨q,h⟩ | ⟨q,mem,h⟩ | ⟨q,mem,h⟩
 ·rw[h]; cases mem <;> kernel_rfl
 ·rw[h]; cases q <;> kernel_rfl
 ·rw[h]; cases q <;> cases mem <;> kernel_rfl
 ·rw[h]; cases q <;> cases mem <;> kernel_rfl
set_option maxHeartbeats 40000000
def nameT(j:Nat):Str:=[sA,sB,sC,sR,sS,sT,sX,zme,zho,st [113]].getD j emp
/-! ### Step by step -/
structure K4 where
 a:Nat
 b:Nat
 c:Nat
 d:Nat
def eK4(k:K4):List D:=[eU8 k.a,eU8 k.b,eU8 k.c,eU8 k.d]
def K4.ok(k:K4):Prop:=k.a<256/\k.b<256/\k.c<256/\k.d<256
def spG(f:List Module)(k:K4):List Module:=f.set (k.a % f.length) (zkX k.b k.c k.d (nameT (k.d / 16 % 10)) (f.getD (k.a % f.length) zdQ))
def spS(f:List Module)(k:K4):List Module:=if zgo (spG f k)=true/\zq2 (spG f k)<300 then spG f k else f
def znf(x:Raw)(l:List K4):List Module:=(l.take 4).foldl spS (zdF x)
/-- What stays on the way. -/
structure SpI (n:Nat) (f:List Module):Prop where
 len:f.length<=2
 pos:0<f.length
 fine: ∀m∈f,Fine (60+n) m
 part:zgo f=true
theorem spI_made(x:Raw):SpI 0 (zdF x):=by
 obtain⟨h1,h2,_⟩:=tid_made x;exact⟨h1,h2,zmC x,parted_made x⟩
set_option maxHeartbeats 20000000
/-- Lists equal,element by element. -/
def eqL{α:Type}(p:α->α->Bool):List α->List α->Bool
 | [],[]=>true
 | x::a,y::b=>p x y&&eqL p a b
 | _,_=>false
theorem zgw{α:Type}{p:α->α->Bool}: ∀ {a b:List α},a.length≠b.length->eqL p a b=false
 | [],[],h=>absurd rfl h
 | [],_::_,_=>rfl
 | _::_,[],_=>rfl
 | x::a,y::b,h=>by
  rw[eqL,zgw (a:=a) (b:=b) (by simpa using h),Bool.and_false]
theorem zgv{α:Type}{p:α->α->Bool}: ∀ {a b:List α} {i:Nat} (h:i<a.length) (h':i<b.length),p a[i] b[i]=false->eqL p a b=false
 | x::a,y::b,0,_,_,hp=>by rw[eqL]; simp only[List.getElem_cons_zero]at hp; rw[hp]; rfl
 | x::a,y::b,i+1,h,h',hp=>by
  rw[eqL,zgv (a:=a) (b:=b) (i:=i) (by simpa using h) (by simpa using h') (by simpa using hp),Bool.and_false]
theorem zeA{α:Type}{p:α->α->Bool}: ∀ {a b:List α},a.length=b.length->(∀i (h:i<a.length) (h':i<b.length),p a[i] b[i]=true)->eqL p a b=true
 | [],[],_,_=>rfl
 | [],_::_,h,_=>by simp at h
 | _::_,[],h,_=>by simp at h
 | x::a,y::b,h,hp=>by
  have h0:=hp 0 (by simp) (by simp);simp only[List.getElem_cons_zero]at h0;rw[eqL,h0,zeA (by simpa using h) (fun i h1 h2=>by
   have:=hp (i+1) (by rw[List.length_cons]; omega) (by rw[List.length_cons]; omega);simpa only[List.getElem_cons_succ]using this)]; rfl
theorem zoi{α:Type}[DecidableEq α]: ∀a b:List α,eqL (fun x y=>decide (x=y)) a b=decide (a=b)
 | [],[]=>by simp[eqL]
 | [],_::_=>by simp[eqL]
 | _::_,[]=>by simp[eqL]
 | x::a,y::b=>by rw[eqL,zoi a b,Bool.eq_iff_iff]; simp
theorem eqfExpr_c(a b:List Expr)(hla:a.length<=9223372036854775807)(g:Nat)(p:Expr->Expr->Bool)(hf: ∀x∈a,∀y∈b,FnP Tryz.prog g [.agg (zby x),.agg (zby y)] (.d (eB (p x y))) []):FnP Tryz.prog 168 [.sl (a.map zby),.sl (b.map zby),.clo (.func g) [] []] (.d (eB (eqL p a b))) []:=by
 refine FnP.of_eC (own:=[]) (fun _=>[]) zat Tryz.func168 rfl Tryz.call168 Tryz.ntmps168 (Nat.le_of_ble_eq_true rfl) Tryz.results168 (fun hok=> ?_);by_cases hab:a.length=b.length
 ·have h0:((a.length:Int) !=(b.length:Int))=false:=by simp[hab]
  simp(maxSteps:=4000000) only[ZE,↓reduceIte,pE,pL,pA,pS,pM,pD,zN,qT,qG,qL,qH,qN,qB,qE,qO,qA,qM,h0,List.length_map];refine za2 (fun _=>[]) zat a.length (fun i=> ∀j (h:j<a.length) (h':j<b.length),j<i->p a[j] b[j]=true) (fun i=>([(1,.d (.sl (b.map zby))),(2,.d (.clo (.func g) [] [])),(15,.d (.sl (a.map zby))),(16,.d (eI a.length)),(17,.d (eI i))],[])) (by intro j _ _ h; omega) (by simp only[ZE,↓reduceIte,pE,pL,pA,pS,pM,pD,zN,qT,qG,qL,qH,qN,qB,qE,qO,qA,qM,List.length_map]) (by simp only[ZE,↓reduceIte,pE,pL,pA,pS,pM,pD]) (fun i hi hI=> ?_);rcases Nat.lt_or_ge i a.length with h | h
  ·have hw:=zas (show i<9223372036854775807 by omega);have h':i<b.length:=by omega
   have hc:=hf a[i] (List.getElem_mem h) b[i] (List.getElem_mem h');obtain⟨q,hq⟩:=zX (p a[i] b[i]);rw[hq]at hc;simp only[ZE,↓reduceIte,pE,pL,pA,pS,pM,pD]at hc;simp(maxSteps:=4000000) only[ZE,↓reduceIte,pE,pL,pA,pS,pM,pD,zax h,zaa h,zal h,zaa h',zal h',hw,zN,qT,qG,qL,qH,qN,qB,qE,qO,qA,qM,List.length_map];refine EFn.p ?_;simp only[ZE,↓reduceIte,pE,pL,pA,pS,pM,pD,zN,qT,qG,qL,qH,qN,qB,qE,qO,qA,qM];refine zar.i hc ?_;cases q with
   | true=>
    simp only[ZE,↓reduceIte,pE,pL,pA,pS,pM,pD,zN,qT,qG,qL,qH,qN,qB,qE,qO,qA,qM,hw];refine⟨h,fun j h1 h2 hj=> ?_⟩;rcases Nat.lt_succ_iff_lt_or_eq.1 hj with hj | rfl
    ·exact hI j h1 h2 hj
    ·exact hq
   | false=>
    have e:=zgv h h' hq;simp only[ZE,↓reduceIte,pE,pL,pA,pS,pM,pD,zN,qT,qG,qL,qH,qN,qB,qE,qO,qA,qM,e]
  ·have:i=a.length:=by omega
   subst this;have e:=zeA hab (fun i h1 h2=>hI i h1 h2 h1);simp(maxSteps:=4000000) only[ZE,↓reduceIte,pE,pL,pA,pS,pM,pD,zaI h,zN,qT,qG,qL,qH,qN,qB,qE,qO,qA,qM,e]
 ·have h0:((a.length:Int) !=(b.length:Int))=true:=by simp; omega
  have e:=zgw (p:=p) hab;simp(maxSteps:=4000000) only[ZE,↓reduceIte,pE,pL,pA,pS,pM,pD,zN,qT,qG,qL,qH,qN,qB,qE,qO,qA,qM,h0,e,List.length_map]
theorem eqfItem_c(a b:List Item)(hla:a.length<=9223372036854775807)(g:Nat)(p:Item->Item->Bool)(hf: ∀x∈a,∀y∈b,FnP Tryz.prog g [.agg (zaK x),.agg (zaK y)] (.d (eB (p x y))) []):FnP Tryz.prog 62 [.sl (a.map zaK),.sl (b.map zaK),.clo (.func g) [] []] (.d (eB (eqL p a b))) []:=by
 refine FnP.of_eC (own:=[]) (fun _=>[]) zat Tryz.func62 rfl Tryz.call62 Tryz.ntmps62 (Nat.le_of_ble_eq_true rfl) Tryz.results62 (fun hok=> ?_);by_cases hab:a.length=b.length
 ·have h0:((a.length:Int) !=(b.length:Int))=false:=by simp[hab]
  simp(maxSteps:=4000000) only[ZE,↓reduceIte,pE,pL,pA,pS,pM,pD,zN,qT,qG,qL,qH,qN,qB,qE,qO,qA,qM,h0,List.length_map];refine za2 (fun _=>[]) zat a.length (fun i=> ∀j (h:j<a.length) (h':j<b.length),j<i->p a[j] b[j]=true) (fun i=>([(1,.d (.sl (b.map zaK))),(2,.d (.clo (.func g) [] [])),(15,.d (.sl (a.map zaK))),(16,.d (eI a.length)),(17,.d (eI i))],[])) (by intro j _ _ h; omega) (by simp only[ZE,↓reduceIte,pE,pL,pA,pS,pM,pD,zN,qT,qG,qL,qH,qN,qB,qE,qO,qA,qM,List.length_map]) (by simp only[ZE,↓reduceIte,pE,pL,pA,pS,pM,pD]) (fun i hi hI=> ?_);rcases Nat.lt_or_ge i a.length with h | h
  ·have hw:=zas (show i<9223372036854775807 by omega);have h':i<b.length:=by omega
   have hc:=hf a[i] (List.getElem_mem h) b[i] (List.getElem_mem h');obtain⟨q,hq⟩:=zX (p a[i] b[i]);rw[hq]at hc;simp only[ZE,↓reduceIte,pE,pL,pA,pS,pM,pD]at hc;simp(maxSteps:=4000000) only[ZE,↓reduceIte,pE,pL,pA,pS,pM,pD,zax h,zaa h,zal h,zaa h',zal h',hw,zN,qT,qG,qL,qH,qN,qB,qE,qO,qA,qM,List.length_map];refine EFn.p ?_;simp only[ZE,↓reduceIte,pE,pL,pA,pS,pM,pD,zN,qT,qG,qL,qH,qN,qB,qE,qO,qA,qM];refine zar.i hc ?_;cases q with
   | true=>
    simp only[ZE,↓reduceIte,pE,pL,pA,pS,pM,pD,zN,qT,qG,qL,qH,qN,qB,qE,qO,qA,qM,hw];refine⟨h,fun j h1 h2 hj=> ?_⟩;rcases Nat.lt_succ_iff_lt_or_eq.1 hj with hj | rfl
    ·exact hI j h1 h2 hj
    ·exact hq
   | false=>
    have e:=zgv h h' hq;simp only[ZE,↓reduceIte,pE,pL,pA,pS,pM,pD,zN,qT,qG,qL,qH,qN,qB,qE,qO,qA,qM,e]
  ·have:i=a.length:=by omega
   subst this;have e:=zeA hab (fun i h1 h2=>hI i h1 h2 h1);simp(maxSteps:=4000000) only[ZE,↓reduceIte,pE,pL,pA,pS,pM,pD,zaI h,zN,qT,qG,qL,qH,qN,qB,qE,qO,qA,qM,e]
 ·have h0:((a.length:Int) !=(b.length:Int))=true:=by simp; omega
  have e:=zgw (p:=p) hab;simp(maxSteps:=4000000) only[ZE,↓reduceIte,pE,pL,pA,pS,pM,pD,zN,qT,qG,qL,qH,qN,qB,qE,qO,qA,qM,h0,e,List.length_map]
theorem eqfModule_c(a b:List Module)(hla:a.length<=9223372036854775807)(g:Nat)(p:Module->Module->Bool)(hf: ∀x∈a,∀y∈b,FnP Tryz.prog g [.agg (zaC x),.agg (zaC y)] (.d (eB (p x y))) []):FnP Tryz.prog 59 [.sl (a.map zaC),.sl (b.map zaC),.clo (.func g) [] []] (.d (eB (eqL p a b))) []:=by
 refine FnP.of_eC (own:=[]) (fun _=>[]) zat Tryz.func59 rfl Tryz.call59 Tryz.ntmps59 (Nat.le_of_ble_eq_true rfl) Tryz.results59 (fun hok=> ?_);by_cases hab:a.length=b.length
 ·have h0:((a.length:Int) !=(b.length:Int))=false:=by simp[hab]
  simp(maxSteps:=4000000) only[ZE,↓reduceIte,pE,pL,pA,pS,pM,pD,zN,qT,qG,qL,qH,qN,qB,qE,qO,qA,qM,h0,List.length_map];refine za2 (fun _=>[]) zat a.length (fun i=> ∀j (h:j<a.length) (h':j<b.length),j<i->p a[j] b[j]=true) (fun i=>([(1,.d (.sl (b.map zaC))),(2,.d (.clo (.func g) [] [])),(15,.d (.sl (a.map zaC))),(16,.d (eI a.length)),(17,.d (eI i))],[])) (by intro j _ _ h; omega) (by simp only[ZE,↓reduceIte,pE,pL,pA,pS,pM,pD,zN,qT,qG,qL,qH,qN,qB,qE,qO,qA,qM,List.length_map]) (by simp only[ZE,↓reduceIte,pE,pL,pA,pS,pM,pD]) (fun i hi hI=> ?_);rcases Nat.lt_or_ge i a.length with h | h
  ·have hw:=zas (show i<9223372036854775807 by omega);have h':i<b.length:=by omega
   have hc:=hf a[i] (List.getElem_mem h) b[i] (List.getElem_mem h');obtain⟨q,hq⟩:=zX (p a[i] b[i]);rw[hq]at hc;simp only[ZE,↓reduceIte,pE,pL,pA,pS,pM,pD]at hc;simp(maxSteps:=4000000) only[ZE,↓reduceIte,pE,pL,pA,pS,pM,pD,zax h,zaa h,zal h,zaa h',zal h',hw,zN,qT,qG,qL,qH,qN,qB,qE,qO,qA,qM,List.length_map];refine EFn.p ?_;simp only[ZE,↓reduceIte,pE,pL,pA,pS,pM,pD,zN,qT,qG,qL,qH,qN,qB,qE,qO,qA,qM];refine zar.i hc ?_;cases q with
   | true=>
    simp only[ZE,↓reduceIte,pE,pL,pA,pS,pM,pD,zN,qT,qG,qL,qH,qN,qB,qE,qO,qA,qM,hw];refine⟨h,fun j h1 h2 hj=> ?_⟩;rcases Nat.lt_succ_iff_lt_or_eq.1 hj with hj | rfl
    ·exact hI j h1 h2 hj
    ·exact hq
   | false=>
    have e:=zgv h h' hq;simp only[ZE,↓reduceIte,pE,pL,pA,pS,pM,pD,zN,qT,qG,qL,qH,qN,qB,qE,qO,qA,qM,e]
  ·have:i=a.length:=by omega
   subst this;have e:=zeA hab (fun i h1 h2=>hI i h1 h2 h1);simp(maxSteps:=4000000) only[ZE,↓reduceIte,pE,pL,pA,pS,pM,pD,zaI h,zN,qT,qG,qL,qH,qN,qB,qE,qO,qA,qM,e]
 ·have h0:((a.length:Int) !=(b.length:Int))=true:=by simp; omega
  have e:=zgw (p:=p) hab;simp(maxSteps:=4000000) only[ZE,↓reduceIte,pE,pL,pA,pS,pM,pD,zN,qT,qG,qL,qH,qN,qB,qE,qO,qA,qM,h0,e,List.length_map]
theorem key_str(x y:Str):decide (x.1=y.1)=decide (x=y):=str_eq x y
theorem equalStr_c(a b:List Str)(hla:a.length<=9223372036854775807):FnP Tryz.prog 116 [.sl (a.map fun x=>[eS x]),.sl (b.map fun x=>[eS x])] (.d (eB (decide (a=b)))) []:=by
 rw[<-zoi];refine FnP.of_eC (own:=[]) (fun _=>[]) zat Tryz.func116 rfl Tryz.call116 Tryz.ntmps116 (Nat.le_of_ble_eq_true rfl) Tryz.results116 (fun hok=> ?_);by_cases hab:a.length=b.length
 ·have h0:((a.length:Int) !=(b.length:Int))=false:=by simp[hab]
  simp(maxSteps:=4000000) only[ZE,↓reduceIte,pE,pL,pA,pS,pM,pD,zN,qT,qG,qL,qH,qN,qB,qE,qO,qA,qM,h0,List.length_map];refine za2 (fun _=>[]) zat a.length (fun i=> ∀j (h:j<a.length) (h':j<b.length),j<i->decide (a[j]=b[j])=true) (fun i=>([(0,.d (.sl (a.map fun x=>[eS x]))),(1,.d (.sl (b.map fun x=>[eS x]))),(12,.d (eI a.length)),(13,.d (eI i))],[])) (by intro j _ _ h; omega) (by simp only[ZE,↓reduceIte,pE,pL,pA,pS,pM,pD,zN,qT,qG,qL,qH,qN,qB,qE,qO,qA,qM,List.length_map]) (by simp only[ZE,↓reduceIte,pE,pL,pA,pS,pM,pD]) (fun i hi hI=> ?_);rcases Nat.lt_or_ge i a.length with h | h
  ·have hw:=zas (show i<9223372036854775807 by omega);have h':i<b.length:=by omega
   have key:=key_str a[i] b[i];obtain⟨q,hq⟩:=zX (decide (a[i]=b[i]));rw[hq]at key;simp(maxSteps:=4000000) only[ZE,↓reduceIte,pE,pL,pA,pS,pM,pD,zax h,zaa h,zal h,zaa h',zal h',hw,zN,qT,qG,qL,qH,qN,qB,qE,qO,qA,qM,List.length_map,key];refine⟨by kernel_rfl,?_⟩;cases q with
   | true=>
    simp only[ZE,↓reduceIte,pE,pL,pA,pS,pM,pD];refine⟨h,fun j h1 h2 hj=> ?_⟩;rcases Nat.lt_succ_iff_lt_or_eq.1 hj with hj | rfl
    ·exact hI j h1 h2 hj
    ·exact hq
   | false=>
    have e:=zgv (p:=fun x y:Str=>decide (x=y)) h h' hq;simp only[ZE,↓reduceIte,pE,pL,pA,pS,pM,pD,e]
  ·have:i=a.length:=by omega
   subst this;have e:=zeA (p:=fun x y:Str=>decide (x=y)) hab (fun i h1 h2=>hI i h1 h2 h1);simp(maxSteps:=4000000) only[ZE,↓reduceIte,pE,pL,pA,pS,pM,pD,zaI h,zN,qT,qG,qL,qH,qN,qB,qE,qO,qA,qM,e]
 ·have h0:((a.length:Int) !=(b.length:Int))=true:=by simp; omega
  have e:=zgw (p:=fun x y:Str=>decide (x=y)) hab;simp(maxSteps:=4000000) only[ZE,↓reduceIte,pE,pL,pA,pS,pM,pD,zN,qT,qG,qL,qH,qN,qB,qE,qO,qA,qM,h0,e,List.length_map]
theorem zh9(x y:Num):(x.n==y.n&&decide (x.p=y.p))=decide (x=y):=by
 obtain⟨a,b⟩:=x;obtain⟨c,d⟩:=y;rw[Bool.eq_iff_iff]; simp
theorem key_bind(x y:Bind):(decide (x.port=y.port)&&decide (x.chan=y.chan))=decide (x=y):=by
 obtain⟨a,b⟩:=x;obtain⟨c,d⟩:=y;rw[Bool.eq_iff_iff]; simp
theorem equalNum_c(a b:List Num)(hla:a.length<=9223372036854775807):FnP Tryz.prog 117 [.sl (a.map fun x=>zgY x),.sl (b.map fun x=>zgY x)] (.d (eB (decide (a=b)))) []:=by
 rw[<-zoi];refine FnP.of_eC (own:=[]) (fun _=>[]) zat Tryz.func117 rfl Tryz.call117 Tryz.ntmps117 (Nat.le_of_ble_eq_true rfl) Tryz.results117 (fun hok=> ?_);by_cases hab:a.length=b.length
 ·have h0:((a.length:Int) !=(b.length:Int))=false:=by simp[hab]
  simp(maxSteps:=4000000) only[ZE,↓reduceIte,pE,pL,pA,pS,pM,pD,zN,qT,qG,qL,qH,qN,qB,qE,qO,qA,qM,h0,List.length_map];refine za2 (fun _=>[]) zat a.length (fun i=> ∀j (h:j<a.length) (h':j<b.length),j<i->decide (a[j]=b[j])=true) (fun i=>([(0,.d (.sl (a.map fun x=>zgY x))),(1,.d (.sl (b.map fun x=>zgY x))),(12,.d (eI a.length)),(13,.d (eI i))],[])) (by intro j _ _ h; omega) (by simp only[ZE,↓reduceIte,pE,pL,pA,pS,pM,pD,zN,qT,qG,qL,qH,qN,qB,qE,qO,qA,qM,List.length_map]) (by simp only[ZE,↓reduceIte,pE,pL,pA,pS,pM,pD]) (fun i hi hI=> ?_);rcases Nat.lt_or_ge i a.length with h | h
  ·have hw:=zas (show i<9223372036854775807 by omega);have h':i<b.length:=by omega
   have key:=zh9 a[i] b[i];obtain⟨q,hq⟩:=zX (decide (a[i]=b[i]));rw[hq]at key;simp(maxSteps:=4000000) only[ZE,↓reduceIte,pE,pL,pA,pS,pM,pD,zax h,zaa h,zal h,zaa h',zal h',hw,zN,qT,qG,qL,qH,qN,qB,qE,qO,qA,qM,List.length_map,key];refine⟨by kernel_rfl,?_⟩;cases q with
   | true=>
    simp only[ZE,↓reduceIte,pE,pL,pA,pS,pM,pD];refine⟨h,fun j h1 h2 hj=> ?_⟩;rcases Nat.lt_succ_iff_lt_or_eq.1 hj with hj | rfl
    ·exact hI j h1 h2 hj
    ·exact hq
   | false=>
    have e:=zgv (p:=fun x y:Num=>decide (x=y)) h h' hq;simp only[ZE,↓reduceIte,pE,pL,pA,pS,pM,pD,e]
  ·have:i=a.length:=by omega
   subst this;have e:=zeA (p:=fun x y:Num=>decide (x=y)) hab (fun i h1 h2=>hI i h1 h2 h1);simp(maxSteps:=4000000) only[ZE,↓reduceIte,pE,pL,pA,pS,pM,pD,zaI h,zN,qT,qG,qL,qH,qN,qB,qE,qO,qA,qM,e]
 ·have h0:((a.length:Int) !=(b.length:Int))=true:=by simp; omega
  have e:=zgw (p:=fun x y:Num=>decide (x=y)) hab;simp(maxSteps:=4000000) only[ZE,↓reduceIte,pE,pL,pA,pS,pM,pD,zN,qT,qG,qL,qH,qN,qB,qE,qO,qA,qM,h0,e,List.length_map]
theorem equalBind_c(a b:List Bind)(hla:a.length<=9223372036854775807):FnP Tryz.prog 118 [.sl (a.map fun x=>zj4 x),.sl (b.map fun x=>zj4 x)] (.d (eB (decide (a=b)))) []:=by
 rw[<-zoi];refine FnP.of_eC (own:=[]) (fun _=>[]) zat Tryz.func118 rfl Tryz.call118 Tryz.ntmps118 (Nat.le_of_ble_eq_true rfl) Tryz.results118 (fun hok=> ?_);by_cases hab:a.length=b.length
 ·have h0:((a.length:Int) !=(b.length:Int))=false:=by simp[hab]
  simp(maxSteps:=4000000) only[ZE,↓reduceIte,pE,pL,pA,pS,pM,pD,zN,qT,qG,qL,qH,qN,qB,qE,qO,qA,qM,h0,List.length_map];refine za2 (fun _=>[]) zat a.length (fun i=> ∀j (h:j<a.length) (h':j<b.length),j<i->decide (a[j]=b[j])=true) (fun i=>([(0,.d (.sl (a.map fun x=>zj4 x))),(1,.d (.sl (b.map fun x=>zj4 x))),(12,.d (eI a.length)),(13,.d (eI i))],[])) (by intro j _ _ h; omega) (by simp only[ZE,↓reduceIte,pE,pL,pA,pS,pM,pD,zN,qT,qG,qL,qH,qN,qB,qE,qO,qA,qM,List.length_map]) (by simp only[ZE,↓reduceIte,pE,pL,pA,pS,pM,pD]) (fun i hi hI=> ?_);rcases Nat.lt_or_ge i a.length with h | h
  ·have hw:=zas (show i<9223372036854775807 by omega);have h':i<b.length:=by omega
   have key:=key_bind a[i] b[i];obtain⟨q,hq⟩:=zX (decide (a[i]=b[i]));rw[hq]at key;simp(maxSteps:=4000000) only[ZE,↓reduceIte,pE,pL,pA,pS,pM,pD,zax h,zaa h,zal h,zaa h',zal h',hw,zN,qT,qG,qL,qH,qN,qB,qE,qO,qA,qM,List.length_map,key];refine⟨by kernel_rfl,?_⟩;cases q with
   | true=>
    simp only[ZE,↓reduceIte,pE,pL,pA,pS,pM,pD];refine⟨h,fun j h1 h2 hj=> ?_⟩;rcases Nat.lt_succ_iff_lt_or_eq.1 hj with hj | rfl
    ·exact hI j h1 h2 hj
    ·exact hq
   | false=>
    have e:=zgv (p:=fun x y:Bind=>decide (x=y)) h h' hq;simp only[ZE,↓reduceIte,pE,pL,pA,pS,pM,pD,e]
  ·have:i=a.length:=by omega
   subst this;have e:=zeA (p:=fun x y:Bind=>decide (x=y)) hab (fun i h1 h2=>hI i h1 h2 h1);simp(maxSteps:=4000000) only[ZE,↓reduceIte,pE,pL,pA,pS,pM,pD,zaI h,zN,qT,qG,qL,qH,qN,qB,qE,qO,qA,qM,e]
 ·have h0:((a.length:Int) !=(b.length:Int))=true:=by simp; omega
  have e:=zgw (p:=fun x y:Bind=>decide (x=y)) hab;simp(maxSteps:=4000000) only[ZE,↓reduceIte,pE,pL,pA,pS,pM,pD,zN,qT,qG,qL,qH,qN,qB,qE,qO,qA,qM,h0,e,List.length_map]
theorem eqL_E: ∀a b:List Expr,eqL ziv a b=zjT a b
 | [],[]=>by simp[eqL,zjT]
 | [],_::_=>by simp[eqL,zjT]
 | _::_,[]=>by simp[eqL,zjT]
 | x::a,y::b=>by rw[eqL,zjT,eqL_E a b]
theorem eqL_I: ∀a b:List Item,eqL zlL a b=zl6 a b
 | [],[]=>by simp[eqL,zl6]
 | [],_::_=>by simp[eqL,zl6]
 | _::_,[]=>by simp[eqL,zl6]
 | x::a,y::b=>by rw[eqL,zl6,eqL_I a b]
theorem eqL_M: ∀a b:List Module,eqL znb a b=zmb a b
 | [],[]=>by simp[eqL,zmb]
 | [],_::_=>by simp[eqL,zmb]
 | _::_,[]=>by simp[eqL,zmb]
 | x::a,y::b=>by rw[eqL,zmb,eqL_M a b]
theorem expr_lens(e:Expr)(h:D.ok (.agg (zby e))):e.args.length<=9223372036854775807:=by
 rw[zca]at h;simp only[D.ok,D.okL]at h;exact(za9 h.2.2.2.2.2.2.1).1
/-- Expressions compared. -/
theorem zxY: ∀(n:Nat) (a b:Expr),sz a<n->FnP Tryz.prog 119 [.agg (zby a),.agg (zby b)] (.d (eB (ziv a b))) []
 | 0,_,_,h=>by omega
 | n+1,.mk o m k w a,.mk o' m' k' w' a',hn=>by
  refine FnP.of_eC (own:=[]) (fun i=>if i=2001 then [.chn]else []) zat Tryz.func119 rfl Tryz.call119 Tryz.ntmps119 (Nat.le_of_ble_eq_true rfl) Tryz.results119 (fun hok=> ?_);have hla:a.length<=9223372036854775807:=expr_lens (.mk o m k w a) (zaM hok).1;have hs:(a.map sz).sum <n:=by rw[zef]at hn; omega
  have ec:=eqfExpr_c a a' hla 119 ziv (fun x hx y hy=>zxY n x y (by have:=zuM hx; omega));rw[eqL_E]at ec;have hS:ziv (.mk o m k w a) (.mk o' m' k' w' a')=((o==o'&&decide (m=m')&&decide (k=k')&&decide (w=w'))&&zjT a a'):=by rw[ziv]
  rw[hS];have k1:=zh9 k k';have k2:=zh9 w w';simp only[ZE,↓reduceIte,pE,pL,pA,pS,pM,pD]at ec;simp(maxSteps:=4000000) only[ZE,↓reduceIte,pE,pL,pA,pS,pM,pD,zcX,zbj,zgZ,zg0,zbi,k1,k2];refine za4.i (fun _=>ec) ?_;simp only[ZE,↓reduceIte,pE,pL,pA,pS,pM,pD]
theorem sameH_c(m n:Module):FnP Tryz.prog 61 [.agg (zaC m),.agg (zaC n)] (.d (eB (zuv m n))) []:=by
 refine FnP.of_eC (own:=[]) (fun i=>if i=2001 then [.chn]else []) zat Tryz.func61 rfl Tryz.call61 Tryz.ntmps61 (Nat.le_of_ble_eq_true rfl) Tryz.results61 (fun hok=> ?_);have hla:m.params.length<=9223372036854775807:=by
  have:=(zaM hok).1;simp only[zaC,zd7,D.ok,D.okL]at this;exact(za9 this.2.2.1).1
 have ec:=equalStr_c m.params n.params hla;unfold zuv;simp only[ZE,↓reduceIte,pE,pL,pA,pS,pM,pD]at ec;simp(maxSteps:=4000000) only[ZE,↓reduceIte,pE,pL,pA,pS,pM,pD,zN,qT,qG,qL,qH,qN,qB,qE,qO,qA,qM];refine za4.i (fun _=>ec) ?_;simp only[ZE,↓reduceIte,pE,pL,pA,pS,pM,pD]
theorem part_key(x y:Item):(x.kind.1==y.kind.1&&decide (x.name=y.name))=decide (zbo x=zbo y):=zxN (zbo x) (zbo y)
theorem tof_c(x:Item):FnP Tryz.prog 111 [.agg (zaK x)] (.d (.agg (zgm (zbo x)))) []:=by
 refine FnP.of_eC (own:=[]) (fun _=>[]) zat Tryz.func111 rfl Tryz.call111 Tryz.ntmps111 (Nat.le_of_ble_eq_true rfl) Tryz.results111 (fun hok=> ?_);simp(maxSteps:=4000000) only[ZE,↓reduceIte,pE,pL,pA,pS,pM,pD,zgm,zbo]
theorem key_rule(x y:Rule):(x.kind==y.kind&&decide (x.from'=y.from')&&(x.n==y.n))=decide (x=y):=by
 obtain⟨a,b,c⟩:=x;obtain⟨a',b',c'⟩:=y;rw[Bool.eq_iff_iff]; simp[and_assoc]
set_option maxHeartbeats 40000000
theorem sameI_c(x y:Item):FnP Tryz.prog 63 [.agg (zaK x),.agg (zaK y)] (.d (eB (zlL x y))) []:=by
 refine FnP.of_eC (own:=[]) (fun i=>if i=2001 then [.chn]else if i=2002 then [.chn,.ord ⟨[(0,none),(1,none),(2,none),(3,none),(4,none),(5,none),(6,none),(7,none),(8,none),(9,none),(10,none),(11,none),(12,none),(13,none),(14,none),(15,none),(16,none),(17,none),(18,none),(19,none),(20,none),(21,none),(22,none),(23,none),(24,none),(25,none),(26,none),(27,none),(28,none),(29,none),(30,none),(31,none),(32,none),(33,none),(34,none),(35,none),(36,none),(37,none),(38,none),(39,none),(40,none),(41,none),(42,none),(43,none),(44,none),(45,none),(46,none),(47,none),(48,none),(49,none),(50,none),(51,none),(52,none),(53,none),(54,none),(55,none),(56,none),(57,none)]⟩]else []) zat Tryz.func63 rfl Tryz.call63 Tryz.ntmps63 (Nat.le_of_ble_eq_true rfl) Tryz.results63 (fun hok=> ?_);have hl:x.args.length<=9223372036854775807/\x.ports.length<=9223372036854775807:=by
  have:=(zaM hok).1;simp only[zaK,zgY,zca,zim,ziR,zen,List.cons_append,List.nil_append,D.ok,D.okL]at this;obtain⟨_,_,_,_,_,_,_,_,_,_,_,_,_,_,_,_,_,_,_,_,_,_,_,_,_,_,_,_,_,_,_,_,_,h1,h2,_⟩:=this;exact⟨(za9 h1).1,(za9 h2).1⟩
 have c1:=tof_c x;have c2:=tof_c y;have c3:=equalNum_c x.args y.args hl.1;have c4:=equalBind_c x.ports y.ports hl.2;have c5:=zxY _ x.a y.a (Nat.lt_succ_self _);have c6:=zxY _ x.b y.b (Nat.lt_succ_self _);have c7:=zxY _ x.c y.c (Nat.lt_succ_self _);have k0:=part_key x y;have k1:=zh9 x.width y.width;have k2:=zh9 x.depth y.depth;have k3:=zh9 x.init y.init;have k4:=key_rule x.rule y.rule;simp only[ZE,↓reduceIte,pE,pL,pA,pS,pM,pD,zgm,zbo]at c1 c2 c3 c4 c5 c6 c7;simp(maxSteps:=4000000) only[ZE,↓reduceIte,pE,pL,pA,pS,pM,pD,zN,qT,qG,qL,qH,qN,qB,qE,qO,qA,qM,k1,k2,k3];refine⟨by kernel_rfl,za4.i (fun _=>c1) ?_⟩;simp only[ZE,↓reduceIte,pE,pL,pA,pS,pM,pD,zN,qT,qG,qL,qH,qN,qB,qE,qO,qA,qM];refine za4.i (fun _=>c2) ?_;simp only[ZE,↓reduceIte,pE,pL,pA,pS,pM,pD,zN,qT,qG,qL,qH,qN,qB,qE,qO,qA,qM,k0,k4];refine za4.i (fun _=>c3) ?_;simp only[ZE,↓reduceIte,pE,pL,pA,pS,pM,pD,zN,qT,qG,qL,qH,qN,qB,qE,qO,qA,qM];refine za4.i (fun _=>c4) ?_;simp only[ZE,↓reduceIte,pE,pL,pA,pS,pM,pD,zN,qT,qG,qL,qH,qN,qB,qE,qO,qA,qM];refine za4.i (fun _=>c5) ?_;simp only[ZE,↓reduceIte,pE,pL,pA,pS,pM,pD,zN,qT,qG,qL,qH,qN,qB,qE,qO,qA,qM];refine za4.i (fun _=>c6) ?_;simp only[ZE,↓reduceIte,pE,pL,pA,pS,pM,pD,zN,qT,qG,qL,qH,qN,qB,qE,qO,qA,qM];refine za4.i (fun _=>c7) ?_;simp only[ZE,↓reduceIte,pE,pL,pA,pS,pM,pD,zN,qT,qG,qL,qH,qN,qB,qE,qO,qA,qM];have k4':(x.rule.kind==y.rule.kind&&(decide (x.rule.from'=y.rule.from')&&x.rule.n==y.rule.n))=decide (x.rule=y.rule):=by
  rw[<-Bool.and_assoc]; exact k4
 rw[k4'];rfl
open Go.Aw Go.Sort Go.RowKit
def zsu(x y:ByteArray):Int:=if Op.bytesLess x.toList y.toList=true then-1 else if (!(Op.bytesLess x.toList y.toList||x.toList==y.toList))=true then 1 else 0
theorem nanI_w(x:Int)(w:World):Calls Tryz.prog 210 #[.int .i64 x] w fun e w'=>e= .returned (.bool false)/\w'=w:=by
 go_enter Tryz.func210,Tryz.ntmps210
 go_wp2;go_ret;exact⟨by simp,rfl⟩
set_option maxHeartbeats 1000000 in
theorem cmpI_w(x y:Int)(w:World):Calls Tryz.prog 155 #[.int .i64 x,.int .i64 y] w fun e w'=>e= .returned (.int .i64 (zid x y))/\w'=w:=by
 go_enter Tryz.func155,Tryz.ntmps155
 go_wp2_with (go_at_call 210; refine(nanI_w _ _).mono ?_; rintro e w' ⟨rfl,hw⟩; rw[hw])
 all_goals (go_ret; refine⟨?_,rfl⟩; unfold zid; (repeat' split) <;> first | rfl | (exfalso; omega))
theorem nanS_w(x:ByteArray)(w:World):Calls Tryz.prog 167 #[.string x] w fun e w'=>e= .returned (.bool false)/\w'=w:=by
 go_enter Tryz.func167,Tryz.ntmps167
 go_wp2;go_ret;exact⟨by simp,rfl⟩
set_option maxHeartbeats 1000000 in
theorem cmpS_w(x y:ByteArray)(w:World):Calls Tryz.prog 115 #[.string x,.string y] w fun e w'=>e= .returned (.int .i64 (zsu x y))/\w'=w:=by
 go_enter Tryz.func115,Tryz.ntmps115
 go_wp2_with (go_at_call 167; refine(nanS_w _ _).mono ?_; rintro e w' ⟨rfl,hw⟩; rw[hw])
 all_goals (go_ret; refine⟨?_,rfl⟩; unfold zsu; simp_all)
set_option maxHeartbeats 2000000 in
theorem or2_w(x y:Int)(b cap:Nat)(w:World)(h0:w.cell? ⟨b,0,none⟩=some (.int .i64 x))(h1:w.cell? ⟨b,1,none⟩=some (.int .i64 y)):
  Calls Tryz.prog 154 #[.slice (some ⟨b,0,none⟩) 2 cap] w fun e w'=>e= .returned (.int .i64 (orI [x,y]))/\w'=w:=by
 go_enter Tryz.func154,Tryz.ntmps154
 go_wp2
 go_rounds 3
 all_goals go_ret
 all_goals refine⟨?_,rfl⟩
 all_goals simp_all [orI]
set_option maxHeartbeats 4000000 in
theorem part_w(ak:Int)(an:ByteArray)(bk:Int)(bn:ByteArray)(w:World):Calls Tryz.prog 110 #[.agg #[.int .i64 ak,.string an],.agg #[.int .i64 bk,.string bn]] w fun e w'=>
  e= .returned (.int .i64 (orI [zid ak bk,zsu an bn]))/\ ∃q os',w'=grow (w.drewN q) os':=by
 go_enter Tryz.func110,Tryz.ntmps110
 go_wp2;refine wp_region_still_tail 10 zat (by kernel_rfl) ?_;obtain⟨W,hW⟩: ∃W:World,W={((w.alloc (.cells #[.int .i64 ak,.string an] 66)).alloc (.cells #[.int .i64 bk,.string bn] 66))with drawn:=((w.alloc (.cells #[.int .i64 ak,.string an] 66)).alloc (.cells #[.int .i64 bk,.string bn] 66)).drawn +1}:=⟨_,rfl⟩;rw[<-hW];obtain⟨c0,c1,hG⟩:=two_w w _ _ W hW;have a0:W.cell? ⟨w.heap.size,0,none⟩=some (.int .i64 ak):=by simp[World.cell?,c0]
 have a1:W.cell? ⟨w.heap.size,1,none⟩=some (.string an):=by simp[World.cell?,c0]
 have b0:W.cell? ⟨w.heap.size+1,0,none⟩=some (.int .i64 bk):=by simp[World.cell?,c1]
 have b1:W.cell? ⟨w.heap.size+1,1,none⟩=some (.string bn):=by simp[World.cell?,c1]
 clear hW c0 c1;simp only[List.take_succ_cons,List.take_zero,List.drop_succ_cons,List.drop_zero]
 repeat still_step
 still_call (cmpI_w _ _ _)
 repeat still_step
 still_call (cmpS_w _ _ _)
 repeat still_step
 try refine wpStill_nil ?_
 generalize hx:zid ak bk=x at*;generalize hy:zsu an bn=y at*;clear a0 a1 b0 b1;obtain⟨q,os',rfl⟩:=hG;generalize hWW:grow (w.drewN q) os'=W;have hor: ∀W',W'=W.alloc (.cells #[.int .i64 x,.int .i64 y] 3)->Calls Tryz.prog 154 #[.slice (some ⟨W.heap.size,0,none⟩) 2 2] W' fun e w'=>e= .returned (.int .i64 (orI [x,y]))/\w'=W':=by
  rintro W' rfl;have hh:=World.alloc_heap_new W (.cells #[.int .i64 x,.int .i64 y] 3);exact or2_w x y _ _ _ (by simp only[World.cell?,hh]; rfl) (by simp only[World.cell?,hh]; rfl)
 generalize hr:orI [x,y]=r at*
 go_wp2_with (go_at_call 154; refine(hor _ rfl).mono ?_; rintro e w' ⟨rfl,rfl⟩)
 go_ret;refine⟨by rw[hx,hy,hr]; rfl,q,os'++#[.cells #[.int .i64 x,.int .i64 y] 3],?_⟩;rw[alloc_eq_grow,<-hWW,grow_grow]
theorem of_w(row:Array Value)(hsz:row.size=35)(k:Int)(s:ByteArray)(h0:row[0]? =some (.int .i64 k))(h1:row[1]? =some (.string s))(w:World):
  Calls Tryz.prog 111 #[.agg row] w fun e w'=>e= .returned (.agg #[.int .i64 k,.string s])/\ ∃os',w'=grow w os':=by
 have g0:row[0]'(by omega)= .int .i64 k:=by simpa [hsz]using h0
 have g1:row[1]'(by omega)= .string s:=by simpa [hsz]using h1
 go_enter Tryz.func111,Tryz.ntmps111
 go_wp2;refine bodyPost_ret (v:=.agg #[.int .i64 k,.string s]) (results_cell_row rfl _ _ (w.heap.size+1) 66 #[.int .i64 k,.string s] (0,0) _ rfl (heap_alloc2_new _ _ _) Tryz.underlying66 rfl (by kernel_rfl)) rfl ⟨rfl,#[.cells row 64,.cells #[.int .i64 k,.string s] 66],?_⟩;rw[alloc_eq_grow,alloc_eq_grow,grow_grow]; rfl
theorem znZ{P:Program}{o:Oper}{a:Act}{C:World->Prop}{K:Act->Prop}(ty:TypeId)(x:Operand)(ho:o.op= .load ty x)
  (g:Nat) (hx:a.eval x= .pointer (some ⟨g,0,none⟩)) (t:TypeId) (cs:Array Value) (fr:Nat×Nat) (d:TypeDesc) (hg: ∀w,C w->w.heap[g]? =some (.cells cs t fr))
  (hu:P.underlying ty=some d) (hd:(match d with | .struct _ | .array _ _=>true | _=>false)=true) (hi:(P.info? ty).map (·.size)=some cs.size)
  (h:K (a.put o.dst (.agg cs))):o.quiet P a C K:=by
 refine⟨.agg cs,fun w hw=> ?_,h⟩;unfold Oper.quietAt execOp;simp only[ho,hx,Instr.loadAt,Instr.sureAddr,Sem.run_bind,Sem.run_pure,Result.andThen_ok,run_loadVar_row w g t ty cs fr d (hg w hw) hu hd hi];exact⟨rfl,rfl⟩
theorem zvU{w:World}{g:Nat}{o:Obj}(h:w.heap[g]? =some o): ∀w',(∃p:GrownBy,w'=grow (w.drewN p.n) p.os)->w'.heap[g]? =some o:=by
 rintro w' ⟨p,rfl⟩;have hb:g<w.heap.size:=(Array.getElem?_eq_some_iff.1 h).1;show(w.heap++p.os)[g]? =some o;rw[Array.getElem?_append_left hb]; exact h
theorem item_w(ra rb:Array Value)(sa:ra.size=35)(sb:rb.size=35)(ak bk:Int)(an bn:ByteArray)(a0:ra[0]? =some (.int .i64 ak))(a1:ra[1]? =some (.string an))(b0:rb[0]? =some (.int .i64 bk))(b1:rb[1]? =some (.string bn))(w:World):
  Calls Tryz.prog 53 #[.agg ra,.agg rb] w fun e w'=>e= .returned (.int .i64 (orI [zid ak bk,zsu an bn]))/\ ∃q os',w'=grow (w.drewN q) os':=by
 go_enter Tryz.func53,Tryz.ntmps53
 go_wp2;obtain⟨wq,hwq⟩: ∃wq,(w.alloc (.cells ra 64)).alloc (.cells rb 64)=wq:=⟨_,rfl⟩;have l1:=zvU (w:=wq) (g:=w.heap.size) (o:=.cells ra 64 (0,0)) (by rw[<-hwq]; exact(Go.RowKit.Below.heap_alloc _ _ _ (by simp)).trans (World.alloc_heap_new w _));have l2:=zvU (w:=wq) (g:=w.heap.size+1) (o:=.cells rb 64 (0,0)) (by rw[<-hwq]; exact heap_alloc2_new _ _ _);have o1: ∀W,Calls Tryz.prog 111 #[.agg ra] W fun e w'=>e= .returned (.agg #[.int .i64 ak,.string an])/\ ∃q os',w'=grow (W.drewN q) os':=fun W=>(of_w ra sa ak an a0 a1 W).mono fun _ _ ⟨he,os',hq⟩=>⟨he,0,os',hq⟩;have o2: ∀W,Calls Tryz.prog 111 #[.agg rb] W fun e w'=>e= .returned (.agg #[.int .i64 bk,.string bn])/\ ∃q os',w'=grow (W.drewN q) os':=fun W=>(of_w rb sb bk bn b0 b1 W).mono fun _ _ ⟨he,os',hq⟩=>⟨he,0,os',hq⟩;have o3:=part_w ak an bk bn;have hm:=zat;rw[hwq];refine wp_region_quiet_grown (by assumption) (by kernel_rfl) ?_;refine wpQuiet_step (fun K hK=> ?_);refine Eq.mpr (if_pos rfl) (znZ 64 _ rfl w.heap.size rfl 64 ra (0,0) _ l1 Tryz.underlying64 rfl (by rw[sa]; kernel_rfl) (hK _ ?_));clear hK K
 quiet_step ((exact Calls.grown_of (o1 _)))
 refine wpQuiet_step (fun K hK=> ?_);refine Eq.mpr (if_pos rfl) (znZ 64 _ rfl (w.heap.size+1) rfl 64 rb (0,0) _ l2 Tryz.underlying64 rfl (by rw[sb]; kernel_rfl) (hK _ ?_));clear hK K
 quiet_step ((exact Calls.grown_of (o2 _)))
 quiet_step ((exact Calls.grown_of (o3 _)))
 quiet_step (skip)
 refine wpQuiet_nil ?_;rintro _ ⟨⟨nq,osq⟩,rfl⟩;go_wp2;go_ret;refine⟨rfl,nq,#[.cells ra 64,.cells rb 64]++osq,?_⟩;have e1:grow (grow w #[.cells ra 64]) #[.cells rb 64]=grow w #[.cells ra 64,.cells rb 64]:=by rw[grow_grow]; rfl
 rw[<-hwq,alloc_eq_grow,alloc_eq_grow,e1];show grow (grow (w.drewN nq) #[.cells ra 64,.cells rb 64]) osq=_;rw[grow_grow]
theorem name_w(ra rb:Array Value)(sa:ra.size=4)(sb:rb.size=4)(an bn:ByteArray)(a0:ra[0]? =some (.string an))(b0:rb[0]? =some (.string bn))(w:World):
  Calls Tryz.prog 57 #[.agg ra,.agg rb] w fun e w'=>e= .returned (.int .i64 (zsu an bn))/\ ∃q os',w'=grow (w.drewN q) os':=by
 have g0:ra[0]'(by omega)= .string an:=by simpa [sa]using a0
 have g1:rb[0]'(by omega)= .string bn:=by simpa [sb]using b0
 go_enter Tryz.func57,Tryz.ntmps57
 go_wp2_with (go_at_call 115; refine(cmpS_w _ _ _).mono ?_; rintro e w' ⟨rfl,rfl⟩)
 go_ret;refine⟨rfl,0,#[.cells ra 53,.cells rb 53],?_⟩;rw[alloc_eq_grow,alloc_eq_grow,grow_grow]; rfl
open Go.Aw Go.Sort Go.RowKit Go.Shelf
def Tryz.sortItem_ren:Go.Shelf.Ren:=⟨fun | 6=>130 | 15=>171 | 14=>173 | 28=>223 | 29=>224 | 20=>225 | 21=>226 | 22=>227 | 23=>228 | 24=>229 | 25=>230 | 26=>231 | 27=>232 | 46=>264 | 47=>260 | 48=>261 | 49=>265 | 50=>266 | 57=>292 | n=>n,fun | 22=>51 | 24=>64 | 25=>109 | 3=>3 | 39=>253 | 0=>0 | 53=>307 | 55=>309 | 4=>4 | 46=>301 | 45=>300 | 50=>234 | 5=>5 | 9=>9 | 66=>337 | 70=>341 | 76=>362 | 77=>289 | n=>n,fun | n=>n⟩
theorem Tryz.sortItem:Go.Proofs.SlLaysF0.n6 Tryz.prog Tryz.sortItem_ren:={
 zat:=by kernel_rfl
 f6:=⟨Tryz.f130.name,by decide,Tryz.func130.trans (congrArg some (by kernel_rfl))⟩
 f14:=⟨Tryz.f173.name,by decide,Tryz.func173.trans (congrArg some (by kernel_rfl))⟩
 f15:=Tryz.func171.trans (congrArg some (by kernel_rfl))
 f20:=⟨Tryz.f225.name,by decide,Tryz.func225.trans (congrArg some (by kernel_rfl))⟩
 f21:=⟨Tryz.f226.name,by decide,Tryz.func226.trans (congrArg some (by kernel_rfl))⟩
 f22:=⟨Tryz.f227.name,by decide,Tryz.func227.trans (congrArg some (by kernel_rfl))⟩
 f23:=⟨Tryz.f228.name,by decide,Tryz.func228.trans (congrArg some (by kernel_rfl))⟩
 f24:=⟨Tryz.f229.name,by decide,Tryz.func229.trans (congrArg some (by kernel_rfl))⟩
 f25:=⟨Tryz.f230.name,by decide,Tryz.func230.trans (congrArg some (by kernel_rfl))⟩
 f26:=⟨Tryz.f231.name,by decide,Tryz.func231.trans (congrArg some (by kernel_rfl))⟩
 f27:=⟨Tryz.f232.name,by decide,Tryz.func232.trans (congrArg some (by kernel_rfl))⟩
 f28:=Tryz.func223.trans (congrArg some (by kernel_rfl))
 f29:=Tryz.func224.trans (congrArg some (by kernel_rfl))
 f46:=⟨Tryz.f264.name,by decide,Tryz.func264.trans (congrArg some (by kernel_rfl))⟩
 f47:=Tryz.func260.trans (congrArg some (by kernel_rfl))
 f48:=Tryz.func261.trans (congrArg some (by kernel_rfl))
 f49:=⟨Tryz.f265.name,by decide,Tryz.func265.trans (congrArg some (by kernel_rfl))⟩
 f50:=⟨Tryz.f266.name,by decide,Tryz.func266.trans (congrArg some (by kernel_rfl))⟩
 f57:=⟨Tryz.f292.name,by decide,Tryz.func292.trans (congrArg some (by kernel_rfl))⟩
 t0:=Tryz.underlying0
 a0:=Tryz.isAgg0
 z0:=Tryz.sizeOf0
 v0:=Tryz.zeroValue0
 t3:=Tryz.underlying3
 a3:=Tryz.isAgg3
 z3:=Tryz.sizeOf3
 v3:=Tryz.zeroValue3
 t4:=Tryz.underlying4
 a4:=Tryz.isAgg4
 z4:=Tryz.sizeOf4
 v4:=Tryz.zeroValue4
 t5:=Tryz.underlying5
 a5:=Tryz.isAgg5
 z5:=Tryz.sizeOf5
 v5:=Tryz.zeroValue5
 t9:=Tryz.underlying9
 a9:=Tryz.isAgg9
 z9:=Tryz.sizeOf9
 v9:=Tryz.zeroValue9
 t22:=Tryz.underlying51
 a22:=Tryz.isAgg51
 z22:=Tryz.sizeOf51
 v22:=Tryz.zeroValue51
 t25:=Tryz.underlying109
 a25:=Tryz.isAgg109
 z25:=Tryz.sizeOf109
 v25:=Tryz.zeroValue109
 t39:=Tryz.underlying253
 a39:=Tryz.isAgg253
 z39:=Tryz.sizeOf253
 v39:=Tryz.zeroValue253
 t45:=Tryz.underlying300
 a45:=Tryz.isAgg300
 z45:=Tryz.sizeOf300
 v45:=Tryz.zeroValue300
 t46:=Tryz.underlying301
 a46:=Tryz.isAgg301
 z46:=Tryz.sizeOf301
 v46:=Tryz.zeroValue301
 t50:=Tryz.underlying234
 a50:=Tryz.isAgg234
 z50:=Tryz.sizeOf234
 v50:=Tryz.zeroValue234
 t53:=Tryz.underlying307
 a53:=Tryz.isAgg307
 z53:=Tryz.sizeOf307
 v53:=Tryz.zeroValue307
 t55:=Tryz.underlying309
 a55:=Tryz.isAgg309
 z55:=Tryz.sizeOf309
 v55:=Tryz.zeroValue309
 t66:=Tryz.underlying337
 a66:=Tryz.isAgg337
 z66:=Tryz.sizeOf337
 v66:=Tryz.zeroValue337
 t70:=Tryz.underlying341
 a70:=Tryz.isAgg341
 z70:=Tryz.sizeOf341
 v70:=Tryz.zeroValue341
 t76:=Tryz.underlying362
 a76:=Tryz.isAgg362
 z76:=Tryz.sizeOf362
 v76:=Tryz.zeroValue362
 t77:=Tryz.underlying289
 a77:=Tryz.isAgg289
 z77:=Tryz.sizeOf289
 v77:=Tryz.zeroValue289}
def Tryz.sortMod_ren:Go.Shelf.Ren:=⟨fun | 6=>127 | 15=>171 | 14=>170 | 28=>223 | 29=>224 | 20=>215 | 21=>216 | 22=>217 | 23=>218 | 24=>219 | 25=>220 | 26=>221 | 27=>222 | 46=>259 | 47=>260 | 48=>261 | 49=>262 | 50=>263 | 57=>291 | n=>n,fun | 22=>28 | 24=>53 | 25=>113 | 3=>3 | 39=>253 | 0=>0 | 53=>307 | 55=>309 | 4=>4 | 46=>301 | 45=>300 | 50=>234 | 5=>5 | 9=>9 | 66=>337 | 70=>341 | 76=>362 | 77=>289 | n=>n,fun | n=>n⟩
theorem Tryz.sortMod:Go.Proofs.SlLaysF0.n6 Tryz.prog Tryz.sortMod_ren:={
 zat:=by kernel_rfl
 f6:=⟨Tryz.f127.name,by decide,Tryz.func127.trans (congrArg some (by kernel_rfl))⟩
 f14:=⟨Tryz.f170.name,by decide,Tryz.func170.trans (congrArg some (by kernel_rfl))⟩
 f15:=Tryz.func171.trans (congrArg some (by kernel_rfl))
 f20:=⟨Tryz.f215.name,by decide,Tryz.func215.trans (congrArg some (by kernel_rfl))⟩
 f21:=⟨Tryz.f216.name,by decide,Tryz.func216.trans (congrArg some (by kernel_rfl))⟩
 f22:=⟨Tryz.f217.name,by decide,Tryz.func217.trans (congrArg some (by kernel_rfl))⟩
 f23:=⟨Tryz.f218.name,by decide,Tryz.func218.trans (congrArg some (by kernel_rfl))⟩
 f24:=⟨Tryz.f219.name,by decide,Tryz.func219.trans (congrArg some (by kernel_rfl))⟩
 f25:=⟨Tryz.f220.name,by decide,Tryz.func220.trans (congrArg some (by kernel_rfl))⟩
 f26:=⟨Tryz.f221.name,by decide,Tryz.func221.trans (congrArg some (by kernel_rfl))⟩
 f27:=⟨Tryz.f222.name,by decide,Tryz.func222.trans (congrArg some (by kernel_rfl))⟩
 f28:=Tryz.func223.trans (congrArg some (by kernel_rfl))
 f29:=Tryz.func224.trans (congrArg some (by kernel_rfl))
 f46:=⟨Tryz.f259.name,by decide,Tryz.func259.trans (congrArg some (by kernel_rfl))⟩
 f47:=Tryz.func260.trans (congrArg some (by kernel_rfl))
 f48:=Tryz.func261.trans (congrArg some (by kernel_rfl))
 f49:=⟨Tryz.f262.name,by decide,Tryz.func262.trans (congrArg some (by kernel_rfl))⟩
 f50:=⟨Tryz.f263.name,by decide,Tryz.func263.trans (congrArg some (by kernel_rfl))⟩
 f57:=⟨Tryz.f291.name,by decide,Tryz.func291.trans (congrArg some (by kernel_rfl))⟩
 t0:=Tryz.underlying0
 a0:=Tryz.isAgg0
 z0:=Tryz.sizeOf0
 v0:=Tryz.zeroValue0
 t3:=Tryz.underlying3
 a3:=Tryz.isAgg3
 z3:=Tryz.sizeOf3
 v3:=Tryz.zeroValue3
 t4:=Tryz.underlying4
 a4:=Tryz.isAgg4
 z4:=Tryz.sizeOf4
 v4:=Tryz.zeroValue4
 t5:=Tryz.underlying5
 a5:=Tryz.isAgg5
 z5:=Tryz.sizeOf5
 v5:=Tryz.zeroValue5
 t9:=Tryz.underlying9
 a9:=Tryz.isAgg9
 z9:=Tryz.sizeOf9
 v9:=Tryz.zeroValue9
 t22:=Tryz.underlying28
 a22:=Tryz.isAgg28
 z22:=Tryz.sizeOf28
 v22:=Tryz.zeroValue28
 t25:=Tryz.underlying113
 a25:=Tryz.isAgg113
 z25:=Tryz.sizeOf113
 v25:=Tryz.zeroValue113
 t39:=Tryz.underlying253
 a39:=Tryz.isAgg253
 z39:=Tryz.sizeOf253
 v39:=Tryz.zeroValue253
 t45:=Tryz.underlying300
 a45:=Tryz.isAgg300
 z45:=Tryz.sizeOf300
 v45:=Tryz.zeroValue300
 t46:=Tryz.underlying301
 a46:=Tryz.isAgg301
 z46:=Tryz.sizeOf301
 v46:=Tryz.zeroValue301
 t50:=Tryz.underlying234
 a50:=Tryz.isAgg234
 z50:=Tryz.sizeOf234
 v50:=Tryz.zeroValue234
 t53:=Tryz.underlying307
 a53:=Tryz.isAgg307
 z53:=Tryz.sizeOf307
 v53:=Tryz.zeroValue307
 t55:=Tryz.underlying309
 a55:=Tryz.isAgg309
 z55:=Tryz.sizeOf309
 v55:=Tryz.zeroValue309
 t66:=Tryz.underlying337
 a66:=Tryz.isAgg337
 z66:=Tryz.sizeOf337
 v66:=Tryz.zeroValue337
 t70:=Tryz.underlying341
 a70:=Tryz.isAgg341
 z70:=Tryz.sizeOf341
 v70:=Tryz.zeroValue341
 t76:=Tryz.underlying362
 a76:=Tryz.isAgg362
 z76:=Tryz.sizeOf362
 v76:=Tryz.zeroValue362
 t77:=Tryz.underlying289
 a77:=Tryz.isAgg289
 z77:=Tryz.sizeOf289
 v77:=Tryz.zeroValue289}
def cmpP(a b:Part):Int:=orI [zid a.kind.1 b.kind.1,zsu a.name.1 b.name.1]
def cmpN(a b:Str):Int:=zsu a.1 b.1
theorem zwV(a b:Str):zsu a.1 b.1<0↔ltS a b=true:=by
 unfold zsu ltS
 repeat' split
 all_goals simp_all
theorem zpd(a b:Str):zsu a.1 b.1=0↔a=b:=by
 unfold zsu;constructor
 ·intro h;split at h
  ·cases h
  split at h
  ·cases h
  ·rename_i h1 h2;simp only[Bool.not_eq_true',Bool.not_eq_false,Bool.or_eq_true,beq_iff_eq]at h1 h2;rcases h2 with h2 | h2
   ·exact absurd h2 h1
   ·exact toList_inj h2
 ·rintro rfl;have:=zsp a.1.toList;simp[this]
theorem zwW(a b:Part):cmpP a b<0↔ltP a b=true:=by
 unfold cmpP orI zid ltP;have h1:=zwV a.name b.name;rcases Int.lt_trichotomy a.kind.1 b.kind.1 with h | h | h
 ·have:a.kind.1≠b.kind.1:=by omega
  simp[h]
 ·rw[h];simp only[Int.lt_irrefl,if_false,decide_false,Bool.false_or,decide_true,Bool.true_and];rw[<-h1];by_cases h0:zsu a.name.1 b.name.1=0
  ·simp[h0]
  ·simp[h0]
 ·have h2: ¬a.kind.1<b.kind.1:=by omega
  have h3: ¬a.kind.1=b.kind.1:=by omega
  simp[h,h2,h3]
theorem swoP{α:Type}(f:α->Part):SWO (ltOf fun a b=>cmpP (f a) (f b)):=by
 have e: ∀a b,ltOf (fun a b=>cmpP (f a) (f b)) a b=ltP (f a) (f b):=fun a b=>by
  unfold ltOf;rw[Bool.eq_iff_iff,decide_eq_true_eq]; exact zwW _ _
 refine{irrefl:=fun a=>by rw[e]; exact zxL.irr _,trans:=fun a b c h1 h2=>by rw[e]at*; exact zxL.tr _ _ _ h1 h2,ntrans:=fun a b c h1 h2=> ?_};rw[e]at*;cases h:ltP (f a) (f c)with
 | false=>rfl
 | true=>
  cases hb:ltP (f b) (f a)with
  | true=>rw[zxL.tr _ _ _ hb h]at h2; cases h2
  | false=>have:=zxL.conn _ _ h1 hb; rw[this,h2]at h; cases h
theorem swoN{α:Type}(f:α->Str):SWO (ltOf fun a b=>cmpN (f a) (f b)):=by
 have e: ∀a b,ltOf (fun a b=>cmpN (f a) (f b)) a b=ltS (f a) (f b):=fun a b=>by
  unfold ltOf;rw[Bool.eq_iff_iff,decide_eq_true_eq]; exact zwV _ _
 refine{irrefl:=fun a=>by rw[e]; exact zu2.irr _,trans:=fun a b c h1 h2=>by rw[e]at*; exact zu2.tr _ _ _ h1 h2,ntrans:=fun a b c h1 h2=> ?_};rw[e]at*;cases h:ltS (f a) (f c)with
 | false=>rfl
 | true=>
  cases hb:ltS (f b) (f a)with
  | true=>rw[zu2.tr _ _ _ hb h]at h2; cases h2
  | false=>have:=zu2.conn _ _ h1 hb; rw[this,h2]at h; cases h
theorem sortI_c(l:List Item)(hl:l.length<4611686018427387904):FnL Tryz.prog 130 [.ar 0 l.length,.d (.clo (.func 53) [] [])] [(0,.arr 64 35 .flat (l.map zaK))]
  (fun V ol new=>V= .tup []/\(∃l':List Item,l.Perm l'/\(l'.Pairwise fun x y=> ¬cmpP (zbo y) (zbo x)<0)/\ol=[(0,.arr 64 35 .flat (l'.map zaK))])/\new=[]):=by
 refine zx1 Tryz.sortItem zaK zbo cmpP 35 (by omega) (fun x=>by simp[zaK,zgY,zca,zim]) (fun x d hd=> ?_) Tryz.isAgg64 Tryz.sizeOf64 swoP 53 (fun bs w=>Tryz.call53 bs w) (fun bs w=>Tryz.call130 bs w) (fun W F x y ra rb h1 h2 w=> ?_) l hl
 ·simp only[zaK,zgY,zca,zim,eI,eS,ziR,zen,List.cons_append,List.nil_append,List.mem_cons,List.not_mem_nil,or_false]at hd
  repeat' (rcases hd with rfl | hd)
  all_goals (try subst hd)
  all_goals simp[D.one,Value.oneCell']
 ·have l1:=zav.length _ _ h1;have l2:=zav.length _ _ h2;have e35: ∀x:Item,(zaK x).length =35:=fun x=>by simp[zaK,zgY,zca,zim]
  rw[e35]at l1 l2;have g: ∀(x:Item) (r:List Value),zav W F (zaK x) r->r[0]? =some (.int .i64 x.kind.1)/\r[1]? =some (.string x.name.1):=fun x r h=>by
   unfold zaK at h;simp only[eI,eS,zav,Aw.Rd]at h;obtain⟨v,r1,rfl,rfl,v2,r2,rfl,rfl,_⟩:=h;exact⟨rfl,rfl⟩
  obtain⟨p1,p2⟩:=g x ra h1;obtain⟨q1,q2⟩:=g y rb h2;exact item_w ra.toArray rb.toArray (by simpa using l1) (by simpa using l2) x.kind.1 y.kind.1 x.name.1 y.name.1 (by simpa using p1) (by simpa using p2) (by simpa using q1) (by simpa using q2) w
theorem sortM_c(l:List Module)(hl:l.length<4611686018427387904):FnL Tryz.prog 127 [.ar 0 l.length,.d (.clo (.func 57) [] [])] [(0,.arr 53 4 .flat (l.map zaC))]
  (fun V ol new=>V= .tup []/\(∃l':List Module,l.Perm l'/\(l'.Pairwise fun x y=> ¬cmpN y.name x.name<0)/\ol=[(0,.arr 53 4 .flat (l'.map zaC))])/\new=[]):=by
 refine zx1 Tryz.sortMod zaC Module.name cmpN 4 (by omega) (fun x=>rfl) (fun x d hd=> ?_) Tryz.isAgg53 Tryz.sizeOf53 swoN 57 (fun bs w=>Tryz.call57 bs w) (fun bs w=>Tryz.call127 bs w) (fun W F x y ra rb h1 h2 w=> ?_) l hl
 ·simp only[zaC,eS,zd7,zbU,List.mem_cons,List.not_mem_nil,or_false]at hd;rcases hd with rfl | rfl | rfl | rfl
  all_goals simp[D.one,Value.oneCell']
 ·have l1:=zav.length _ _ h1;have l2:=zav.length _ _ h2;have g: ∀(x:Module) (r:List Value),zav W F (zaC x) r->r[0]? =some (.string x.name.1):=fun x r h=>by
   unfold zaC at h;simp only[eS,zav,Aw.Rd]at h;obtain⟨v,r1,rfl,rfl,_⟩:=h;rfl
  exact name_w ra.toArray rb.toArray (by simpa [zaC]using l1) (by simpa [zaC]using l2) x.name.1 y.name.1 (by simpa using g x ra h1) (by simpa using g y rb h2) w
end Go.Proofs.YtbenhdgpogiadaaGreat
