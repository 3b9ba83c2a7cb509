/- Contracts and laws. Conditions: those of each. -/
import Derived.Test.YtbenhdgpogiadaaGreatK1
set_option linter.unusedSimpArgs false
set_option linter.unusedVariables false
open List renaming length_map -> waa, length_append -> wab, map_nil -> wac, length_cons -> wad, map_cons -> wae, map_append -> waf, getElem_mem -> wag, forall_mem_cons -> wah, not_mem_nil -> wai
open Nat renaming lt_or_ge -> waj, le_trans -> wak
open Bool renaming and_eq_true -> wal, eq_iff_iff -> wam
namespace Go.Proofs.YtbenhdgpogiadaaGreat
open Go.Aw
open Tryz
set_option maxRecDepth 100000
set_option maxHeartbeats 8000000
theorem zcW(o:Int)(n:Str)(k w:Num)(a:List Expr):(Expr.mk o n k w a).op =o:=rfl
theorem zbm(o:Int)(n:Str)(k w:Num)(a:List Expr):(Expr.mk o n k w a).name =n:=rfl
theorem zgN(o:Int)(n:Str)(k w:Num)(a:List Expr):(Expr.mk o n k w a).k =k:=rfl
theorem zgO(o:Int)(n:Str)(k w:Num)(a:List Expr):(Expr.mk o n k w a).w =w:=rfl
theorem zbl(o:Int)(n:Str)(k w:Num)(a:List Expr):(Expr.mk o n k w a).args =a:=rfl
def zeS(kind:I64)(name:Str)(w:Num):Item:={zaU with kind:=kind,name:=name,width:=w}
def zdf(name:Str)(w:Num)(e:Expr):Item:={zaU with kind:=⟨5,rfl⟩,name:=name,width:=w,a:=e}
def zde(name:Str)(e:Expr):Item:={zaU with kind:=⟨7,rfl⟩,name:=name,a:=e}
def zh3(name:Str)(e x:Expr):Item:={zaU with kind:=⟨8,rfl⟩,name:=name,a:=e,b:=x}
def wN:Num:=⟨0,sW⟩
def zbf(l:List Nat):Module:=⟨zg7,zdk (zaR l 5),[sW],[zeS ⟨1,rfl⟩ sX wN,zeS ⟨2,rfl⟩ sY wN,zk1 sR l 7 [sR,sX] wN,zdf sT wN (gen l [sR] wN 1 9),zde sX (cond l [sR,sT] wN 1 11),zh3 sY (cond l [sR,sX,sT] wN 1 13) (gen l [sR,sX,sT] wN 1 15)]⟩
theorem cell_c(l:List Nat)(hb: ∀b∈l,b<256):FnP prog 107 [zau l] (.d (.agg (zaC (zbf l)))) []:=by
 refine FnP.of_eC (own:=[]) (fun i=>if i=2002 then [.flt ⟨[(0,none),(1,none),(2,none),(3,none),(4,none),(5,none),(8,some [3,4,5]),(9,some [])]⟩ ⟨[6,7],[(8,[6]),(9,[7])]⟩]else if i=2003 then [.ord ⟨[(0,none),(1,none),(2,none),(3,none),(4,none),(5,none),(6,none),(7,none),(8,none),(9,none),(10,none),(11,none),(12,none),(13,none),(14,none),(15,none),(16,none),(17,none),(18,none),(19,none),(20,none),(21,none),(22,none),(23,none),(24,none),(25,none),(26,none),(27,none),(28,none),(29,none),(30,none),(31,none),(32,none),(33,none),(34,none),(35,some [])]⟩]else []) zat func107 rfl call107 ntmps107 (zle rfl) results107 (fun hok=> ?_);have a1:=zwB l 5 hb (by omega);have k1:=zsg (zaR l 5);have r1:=reg_c sR l [sR,sX] wN hb (by simp) (by simp) 7 (by omega);have g1:=zhF l [sR] wN hb (by simp) (by simp) 9 (by omega);have c1:=zgU l [sR,sT] wN hb (by simp) (by simp) 11 (by omega);have c2:=zgU l [sR,sX,sT] wN hb (by simp) (by simp) 13 (by omega);have g2:=zhF l [sR,sX,sT] wN hb (by simp) (by simp) 15 (by omega);rw[zbf];obtain⟨e1,h1⟩: ∃e,zdk (zaR l 5)=e:=⟨_,rfl⟩;obtain⟨e2,h2⟩: ∃e,zk1 sR l 7 [sR,sX] wN=e:=⟨_,rfl⟩;obtain⟨e3,h3⟩: ∃e,gen l [sR] wN 1 9=e:=⟨_,rfl⟩;obtain⟨e4,h4⟩: ∃e,cond l [sR,sT] wN 1 11=e:=⟨_,rfl⟩;obtain⟨e5,h5⟩: ∃e,cond l [sR,sX,sT] wN 1 13=e:=⟨_,rfl⟩;obtain⟨e6,h6⟩: ∃e,gen l [sR,sX,sT] wN 1 15=e:=⟨_,rfl⟩;rw[h1]at k1 ⊢;rw[h2]at r1 ⊢;rw[h3]at g1 ⊢;rw[h4]at c1 ⊢;rw[h5]at c2 ⊢;rw[h6]at g2 ⊢;clear h1 h2 h3 h4 h5 h6;simp only[ZE,seval,eAt,zhW,wae,wac,sR,sX,sT,sW,wN,st,emp]at a1 k1 r1 g1 c1 c2 g2;simp only[ZE,seval,zN];refine⟨by kernel_rfl,by kernel_rfl,zaz.i a1 ?_⟩;simp only[ZE,seval,zN];refine zaz.i k1 ?_;simp only[ZE,seval,zN];refine zaz.i r1 ?_;simp only[ZE,seval,zN];refine zaz.i g1 ?_;simp only[ZE,seval,zN];refine zaz.i c1 ?_;simp only[ZE,seval,zN];refine zaz.i c2 ?_;simp only[ZE,seval,zN];refine zaz.i g2 ?_;simp only[ZE,seval,zN,zeS,zdf,zde,zh3,zaU,zbQ,zg7,wN,sW,sX,sY,sT,st,zcW,zbm,zgN,zgO,zbl,zbj,emp,not_false_eq_true]
 trace_state
def zlx(l:List Nat)(w:Num)(c0:Str):List Item:=[zk1 sR l 2 [sR,sS,sT,c0] w,zk1 sS l 4 [sS,sR,c0] w,zdf sT w (gen l [sR,sS] w 1 6)]
def zdC(l:List Nat):Num:=⟨if zaR l 1 % 2=0 then 2 else 4,emp⟩
def memI(l:List Nat)(w:Num)(c0:Str):Item:={zaU with kind:=⟨6,rfl⟩,name:=sM,width:=w,depth:=zdC l,a:=cond l [sR,sS,sT,c0] w 1 12,b:=gen l [sR,sS,sT,c0] w 0 14,c:=gen l [sR,sS,sT,c0] w 1 16,rule:=zd0 (zaR l 3)}
def zpv(l:List Nat)(w:Num)(c0:Str):List Item:=if zaR l 0 % 2=1 then [memI l w c0]else []
def zox(l:List Nat)(w:Num)(c0:Str):Expr:=if zaR l 0 % 2=1 then .mk 5 emp zbj zbj [gen l [sR,sS,sT,c0] w 1 8,.mk 15 sM zbj zbj [gen l [sR,sS] w 0 10]]else gen l [sR,sS,sT,c0] w 1 8
def zlz(l:List Nat)(w:Num)(c0 c1:Str):List Item:=[zde c0 (cond l [sR,sS] w 1 18),zh3 c1 (cond l [sR,sS,sT,c0] w 1 20) (zox l w c0)]
def znJ(l:List Nat)(w:Num)(c0 c1:Str):List Item:=zlx l w c0++zpv l w c0++zlz l w c0 c1
theorem own_c(l:List Nat)(w:Num)(c0 c1:Str)(hb: ∀b∈l,b<256):FnP prog 103 [zau l,.agg (zgL w),zj9 c0 c1] (.d (zbR (znJ l w c0 c1))) []:=by
 refine FnP.of_eC (own:=[]) (fun i=>if i=2001 then [.flt ⟨[(0,none),(1,none),(2,none),(3,none),(4,none),(5,none),(6,none),(7,none),(10,some [3,4,5,6,7]),(11,some [])]⟩ ⟨[8,9],[(10,[8]),(11,[9])]⟩]else if i=2002 then [.ord ⟨[(0,none),(1,none),(2,none),(3,none),(4,none),(5,none),(6,none),(7,none),(8,none),(9,none),(10,none),(11,none),(12,none),(13,none),(14,none),(15,none),(16,some []),(17,some [])]⟩]else if i=2007 then [.ord ⟨[(0,none),(1,none),(2,none),(3,none),(4,none),(5,none),(6,none),(7,none),(8,none),(9,none),(10,none),(11,none),(12,none),(13,none),(14,none),(15,none),(16,none),(17,none),(18,none),(19,none),(20,none),(21,none),(22,none),(23,none),(24,some []),(25,some [])]⟩]else if i=2008 then [.ord ⟨[(0,none),(1,none),(2,none),(3,none),(4,none),(5,none),(6,none),(7,none),(8,none),(9,none),(10,none),(11,none),(12,none),(13,none),(14,none),(15,some []),(16,some [])]⟩]else if i=2005 then [.chn]else if i=2006 then [.chn]else []) zat func103 rfl call103 ntmps103 (zle rfl) results103 (fun hok=> ?_);have a0:=zwB l 0 hb (by omega);have a1:=zwB l 1 hb (by omega);have a3:=zwB l 3 hb (by omega);have r1:=reg_c sR l [sR,sS,sT,c0] w hb (by simp) (by simp) 2 (by omega);have r2:=reg_c sS l [sS,sR,c0] w hb (by simp) (by simp) 4 (by omega);have g6:=zhF l [sR,sS] w hb (by simp) (by simp) 6 (by omega);have g8:=zhF l [sR,sS,sT,c0] w hb (by simp) (by simp) 8 (by omega);have g10:=ziL l [sR,sS] w hb (by simp) (by simp) 10 (by omega);have c12:=zgU l [sR,sS,sT,c0] w hb (by simp) (by simp) 12 (by omega);have g14:=ziL l [sR,sS,sT,c0] w hb (by simp) (by simp) 14 (by omega);have g16:=zhF l [sR,sS,sT,c0] w hb (by simp) (by simp) 16 (by omega);have c18:=zgU l [sR,sS] w hb (by simp) (by simp) 18 (by omega);have c20:=zgU l [sR,sS,sT,c0] w hb (by simp) (by simp) 20 (by omega);have u3:=rule_c (zaR l 3) (zgo hb _);rw[znJ,zlx,zlz,zpv,zox,memI,zdC];obtain⟨x1,h1⟩: ∃e,zk1 sR l 2 [sR,sS,sT,c0] w=e:=⟨_,rfl⟩;obtain⟨x2,h2⟩: ∃e,zk1 sS l 4 [sS,sR,c0] w=e:=⟨_,rfl⟩;obtain⟨x3,h3⟩: ∃e,gen l [sR,sS] w 1 6=e:=⟨_,rfl⟩;obtain⟨x4,h4⟩: ∃e,gen l [sR,sS,sT,c0] w 1 8=e:=⟨_,rfl⟩;obtain⟨x5,h5⟩: ∃e,gen l [sR,sS] w 0 10=e:=⟨_,rfl⟩;obtain⟨x6,h6⟩: ∃e,cond l [sR,sS,sT,c0] w 1 12=e:=⟨_,rfl⟩;obtain⟨x7,h7⟩: ∃e,gen l [sR,sS,sT,c0] w 0 14=e:=⟨_,rfl⟩;obtain⟨x8,h8⟩: ∃e,gen l [sR,sS,sT,c0] w 1 16=e:=⟨_,rfl⟩;obtain⟨x9,h9⟩: ∃e,cond l [sR,sS] w 1 18=e:=⟨_,rfl⟩;obtain⟨x10,h10⟩: ∃e,cond l [sR,sS,sT,c0] w 1 20=e:=⟨_,rfl⟩;obtain⟨x11,h11⟩: ∃e,zd0 (zaR l 3)=e:=⟨_,rfl⟩;rw[h1]at r1 ⊢;rw[h2]at r2 ⊢;rw[h3]at g6 ⊢;rw[h4]at g8 ⊢;rw[h5]at g10 ⊢;rw[h6]at c12 ⊢;rw[h7]at g14 ⊢;rw[h8]at g16 ⊢;rw[h9]at c18 ⊢;rw[h10]at c20 ⊢;rw[h11]at u3 ⊢;have hm:(zaR l 0:Int).tmod 2=((zaR l 0 % 2:Nat):Int):=(Int.ofNat_tmod _ 2).symm;have hm1:(zaR l 1:Int).tmod 2=((zaR l 1 % 2:Nat):Int):=(Int.ofNat_tmod _ 2).symm;clear h1 h2 h3 h4 h5 h6 h7 h8 h9 h10 h11;simp only[ZE,seval,eAt,zhW,zj9,wae,wac,sR,sS,sT,st,emp]at a0 a1 a3 r1 r2 g6 g8 g10 c12 g14 g16 c18 c20 u3;by_cases hodd:zaR l 0 % 2=1
 ·have ho:(((zaR l 0 % 2:Nat):Int)==1)=true:=by simp[hodd]
  rw[if_pos hodd,if_pos hodd];simp only[ZE,seval,zN,zj9];refine⟨by kernel_rfl,by kernel_rfl,zaz.i r1 ?_⟩;simp only[ZE,seval,zN];refine zaz.i r2 ?_;simp only[ZE,seval,zN];refine zaz.i g6 ?_;simp only[ZE,seval,zN];refine EFn.p ?_;simp only[ZE,seval,zN];refine zar.i g8 ?_;simp only[ZE,seval,zN];refine EFn.p ?_;simp only[ZE,seval,zN];refine zar.i a0 ?_;simp only[ZE,seval,zN,hm,ho,not_false_eq_true];refine EFn.p ?_;simp only[ZE,seval,zN];refine zar.i g10 ?_;simp only[ZE,seval,zN,not_false_eq_true];refine⟨by kernel_rfl,zaz.i a1 ?_⟩;by_cases hd:zaR l 1 % 2=0
  ·have hm2:(zaR l 1:Int).tmod 2=0:=by rw[hm1,hd]; rfl
   have hw1:IntKind.u64.wrap 0=0:=by decide
   have hw2:IntKind.i64.wrap (2*2 ^ (min 0 IntKind.i64.bits))=2:=by decide
   rw[if_pos hd];simp only[ZE,seval,zN,not_false_eq_true,hm2,hw1,hw2];refine zaz.i c12 ?_;simp only[ZE,seval,zN];refine zaz.i g14 ?_;simp only[ZE,seval,zN];refine zaz.i g16 ?_;simp only[ZE,seval,zN];refine zaz.i a3 ?_;simp only[ZE,seval,zN];refine zaz.i u3 ?_;simp only[ZE,seval,zN];refine⟨by kernel_rfl,zaz.i c18 ?_⟩;simp only[ZE,seval,zN];refine zaz.i c20 ?_;simp only[ZE,seval,zN,zdf,zde,zh3,zaU,zbQ,sM,sT,st,zcW,zbm,zgN,zgO,zbl,zbj,emp,not_false_eq_true]
  ·have hm2:(zaR l 1:Int).tmod 2=1:=by rw[hm1]; omega
   have hw1:IntKind.u64.wrap 1=1:=by decide
   have hw2:IntKind.i64.wrap (2*2 ^ (min 1 IntKind.i64.bits))=4:=by decide
   rw[if_neg hd];simp only[ZE,seval,zN,not_false_eq_true,hm2,hw1,hw2];refine zaz.i c12 ?_;simp only[ZE,seval,zN];refine zaz.i g14 ?_;simp only[ZE,seval,zN];refine zaz.i g16 ?_;simp only[ZE,seval,zN];refine zaz.i a3 ?_;simp only[ZE,seval,zN];refine zaz.i u3 ?_;simp only[ZE,seval,zN];refine⟨by kernel_rfl,zaz.i c18 ?_⟩;simp only[ZE,seval,zN];refine zaz.i c20 ?_;simp only[ZE,seval,zN,zdf,zde,zh3,zaU,zbQ,sM,sT,st,zcW,zbm,zgN,zgO,zbl,zbj,emp,not_false_eq_true]
 ·have ho:(((zaR l 0 % 2:Nat):Int)==1)=false:=by
   have:zaR l 0 % 2=0:=by omega
   rw[this]; rfl
  rw[if_neg hodd,if_neg hodd];simp only[ZE,seval,zN,zj9];refine⟨by kernel_rfl,by kernel_rfl,zaz.i r1 ?_⟩;simp only[ZE,seval,zN];refine zaz.i r2 ?_;simp only[ZE,seval,zN];refine zaz.i g6 ?_;simp only[ZE,seval,zN];refine EFn.p ?_;simp only[ZE,seval,zN];refine zar.i g8 ?_;simp only[ZE,seval,zN];refine EFn.p ?_;simp only[ZE,seval,zN];refine zar.i a0 ?_;simp only[ZE,seval,zN,hm,ho,not_false_eq_true];refine⟨by kernel_rfl,zaz.i c18 ?_⟩;simp only[ZE,seval,zN];refine zaz.i c20 ?_;simp only[ZE,seval,zN,zdf,zde,zh3,zaU,zbQ,sM,sT,st,zcW,zbm,zgN,zgO,zbl,zbj,emp,not_false_eq_true]
set_option maxHeartbeats 20000000
structure Raw where
 kind:Nat
 w:Nat
 l:List Nat
def Raw.ok(x:Raw):Prop:=x.kind<256/\x.w<256/\ ∀b∈x.l,b<256
def zew(x:Raw):D:=.agg [eU8 x.kind,eU8 x.w,zau x.l]
def za4(x:Raw):Num:=⟨(1+x.w % 4:Nat),emp⟩
def rawC(x:Raw):Num:=⟨(1+x.w / 4 % 4:Nat),emp⟩
def zgk(name:Str)(w d:Num):Item:={zaU with kind:=⟨3,rfl⟩,name:=name,width:=w,depth:=d}
def inA(x:Raw):Item:=zeS ⟨1,rfl⟩ sA (za4 x)
def zow(x:Raw):Item:=zeS ⟨2,rfl⟩ sB (za4 x)
def chC(x:Raw):Item:=zgk sC (za4 x) (rawC x)
def chD(x:Raw):Item:=zgk sD (za4 x) ⟨2,emp⟩
def zd2(x:Raw):List Item:=
 if x.kind % 4=0 then [inA x,zow x]++znJ x.l (za4 x) sA sB
 else if x.kind % 4=1 then [inA x,zow x,chC x,zc2 sU (za4 x) sA sC,zc2 sVV (za4 x) sC sB]
 else if x.kind % 4=2 then [inA x,zow x,chC x,zc2 sU (za4 x) sA sC]++znJ x.l (za4 x) sC sB
 else [zow x,chC x,chD x,zc2 sU (za4 x) sC sD]++znJ x.l (za4 x) sD sC++[zh3 sB (cond x.l [sR,sS] (za4 x) 1 22) (gen x.l [sR,sS] (za4 x) 1 24)]
def zl9(x:Raw):Module:=⟨zma,zdk (1+x.w / 16),[],zd2 x⟩
def zdG(x:Raw):List Module:=if x.kind % 4=0 then [zl9 x]else if x.kind / 4 % 2=1 then [zl9 x,zbf x.l]else [zbf x.l,zl9 x]
theorem zly(l:List Nat)(w:Num)(c0 c1:Str):(znJ l w c0 c1).length <=10:=by
 simp only[znJ,zlx,zlz,zpv,wab,wad,List.length_nil];split <;> simp
theorem zci(l:List Item):zcY 35 (l.map zaK):=by
 intro y hy;obtain⟨q,_,rfl⟩:=List.mem_map.1 hy;simp[zaK,zgL,zb6,zib,eI,eS,ziG,zel,D.one,Value.oneCell']
theorem u8_id{n:Nat}(h:n<256):IntKind.u8.wrap (n:Int)=(n:Int):=by
 have hb:IntKind.u8.bits=8:=rfl;have hs:IntKind.u8.signed=false:=rfl;simp only[IntKind.wrap,hb,hs,Bool.false_and,Bool.false_eq_true,if_false];omega
theorem zh2(x:Raw)(hx:x.ok):FnP prog 50 [zew x] (.d (.agg [zax (zdG x)])) []:=by
 obtain⟨hk,hw,hb⟩:=hx;refine FnP.of_eC (own:=[]) (fun i=>if i=11 then [.frz 80]else if i=16 then [.frz 112]else if i=9 then [.frz 53]else if i=2004 then [.flt ⟨[(0,none),(1,none),(2,none),(3,none),(6,some [2,3]),(7,some [])]⟩ ⟨[4,5],[(6,[4]),(7,[5])]⟩]else if i=2005 then [.flt ⟨[(0,none),(1,none),(2,none),(3,none),(4,none),(5,none),(8,some [3,4,5]),(9,some [])]⟩ ⟨[6,7],[(8,[6]),(9,[7])]⟩]else if i=2011 then [.ord ⟨[(0,none),(1,none),(3,none),(4,none),(5,none),(6,none),(7,none),(2,some [3,4,5,6,7]),(8,some []),(9,some []),(10,some [])]⟩]else if i=2014 then [.ord ⟨[(0,none),(1,none),(2,none),(3,none),(4,none),(5,none),(6,none),(7,none),(8,none),(9,none),(10,some []),(11,some [])]⟩]else if i=2016 then [.ord ⟨[(0,none),(1,none),(2,none),(3,none),(4,none),(5,none),(7,none),(8,none),(9,none),(10,none),(11,none),(6,some [7,8,9,10,11]),(12,some []),(13,some []),(14,some [])]⟩]else if i=2008 then [.ord ⟨[(0,none),(1,none),(2,none),(3,none),(4,none),(5,none),(7,none),(8,none),(9,none),(10,none),(11,none),(6,some [7,8,9,10,11]),(12,some []),(13,some []),(14,some [])]⟩]else if i=2009 then [.ord ⟨[(0,none),(1,none),(2,none),(3,none),(4,none),(5,none),(6,none),(7,none),(8,none),(9,none),(10,none),(11,none),(12,none),(13,some []),(14,some []),(15,some [])]⟩]else if i=2018 then [.ord ⟨[(0,none),(1,none),(2,none),(3,none),(4,none),(5,none),(6,some [])]⟩]else if i=2019 then [.ord ⟨[(0,none),(1,none),(2,none),(3,none),(4,none),(5,none),(6,some [])]⟩]else if i=2012 then [.chn]else if i=2007 then [.chn]else []) zat func50 rfl call50 ntmps50 (zle rfl) results50 (fun hok=> ?_);have w4:(x.w:Int).tmod 4=((x.w % 4:Nat):Int):=(Int.ofNat_tmod _ 4).symm;have w44:(x.w:Int).tdiv 4=((x.w / 4:Nat):Int):=(Int.ofNat_tdiv _ 4).symm;have w444:((x.w / 4:Nat):Int).tmod 4=((x.w / 4 % 4:Nat):Int):=(Int.ofNat_tmod _ 4).symm;have w16:(x.w:Int).tdiv 16=((x.w / 16:Nat):Int):=(Int.ofNat_tdiv _ 16).symm;have k4:(x.kind:Int).tmod 4=((x.kind % 4:Nat):Int):=(Int.ofNat_tmod _ 4).symm;have kd:(x.kind:Int).tdiv 4=((x.kind / 4:Nat):Int):=(Int.ofNat_tdiv _ 4).symm;have kd2:((x.kind / 4:Nat):Int).tmod 2=((x.kind / 4 % 2:Nat):Int):=(Int.ofNat_tmod _ 2).symm;have v1:IntKind.i64.wrap ((x.w % 4:Nat):Int)=((x.w % 4:Nat):Int):=zaQ (by omega) (by omega);have v2:IntKind.i64.wrap (1+((x.w % 4:Nat):Int))=((1+x.w % 4:Nat):Int):=zaQ (by omega) (by omega);have v3:IntKind.i64.wrap ((x.w / 4 % 4:Nat):Int)=((x.w / 4 % 4:Nat):Int):=zaQ (by omega) (by omega);have v4:IntKind.i64.wrap (1+((x.w / 4 % 4:Nat):Int))=((1+x.w / 4 % 4:Nat):Int):=zaQ (by omega) (by omega);have v5:IntKind.i64.wrap ((x.w / 16:Nat):Int)=((x.w / 16:Nat):Int):=zaQ (by omega) (by omega);have v6:IntKind.i64.wrap (1+((x.w / 16:Nat):Int))=((1+x.w / 16:Nat):Int):=zaQ (by omega) (by omega);have u1:IntKind.u8.wrap ((x.w / 4:Nat):Int)=((x.w / 4:Nat):Int):=u8_id (by omega);have u2:IntKind.u8.wrap ((x.w / 16:Nat):Int)=((x.w / 16:Nat):Int):=u8_id (by omega);have u3:IntKind.u8.wrap ((x.kind / 4:Nat):Int)=((x.kind / 4:Nat):Int):=u8_id (by omega);have kc:=zsg (1+x.w / 16);simp only[ZE,seval]at kc;have o0:=own_c x.l (za4 x) sA sB hb;have o2:=own_c x.l (za4 x) sC sB hb;have o3:=own_c x.l (za4 x) sD sC hb;have l0:=zly x.l (za4 x) sA sB;have l2:=zly x.l (za4 x) sC sB;have l3:=zly x.l (za4 x) sD sC;obtain⟨O0,q0⟩: ∃L,znJ x.l (za4 x) sA sB=L:=⟨_,rfl⟩;obtain⟨O2,q2⟩: ∃L,znJ x.l (za4 x) sC sB=L:=⟨_,rfl⟩;obtain⟨O3,q3⟩: ∃L,znJ x.l (za4 x) sD sC=L:=⟨_,rfl⟩;rw[q0]at o0 l0;rw[q2]at o2 l2;rw[q3]at o3 l3;have i1:=zsZ sU (za4 x) sA sC;have i2:=zsZ sVV (za4 x) sC sB;have i3:=zsZ sU (za4 x) sC sD;have c22:=zgU x.l [sR,sS] (za4 x) hb (by simp) (by simp) 22 (by omega);have g24:=zhF x.l [sR,sS] (za4 x) hb (by simp) (by simp) 24 (by omega);have cm:=cell_c x.l hb;obtain⟨y22,h22⟩: ∃e,cond x.l [sR,sS] (za4 x) 1 22=e:=⟨_,rfl⟩;obtain⟨y24,h24⟩: ∃e,gen x.l [sR,sS] (za4 x) 1 24=e:=⟨_,rfl⟩;rw[h22]at c22;rw[h24]at g24;simp only[ZE,seval,zj9,eAt,zhW,wae,wac,za4,sA,sB,sC,sD,sU,sVV,sR,sS,st,emp]at o0 o2 o3 i1 i2 i3 c22 g24 cm;by_cases b0:x.kind % 4=0
 ·have h0:(((x.kind % 4:Nat):Int)==0)=true:=by simp[b0]
  rw[zdG,if_pos b0,zl9,zd2,if_pos b0,q0];simp only[ZE,seval,zew,zN,not_false_eq_true,w4,w44,w444,w16,v1,v2,v3,v4,v5,v6,u1,u2,u3,k4,kd,kd2];refine EFn.p ?_;simp only[ZE,seval,zN];refine zar.i kc ?_;simp only[ZE,seval,zN,not_false_eq_true,w4,w44,w444,w16,v1,v2,v3,v4,v5,v6,u1,u2,u3,k4,kd,kd2,h0];refine⟨by kernel_rfl,by kernel_rfl,by kernel_rfl,zaz.i o0 ?_⟩;simp only[ZE,seval,zN];refine⟨zaz.i o0 ?_,?_⟩
  ·simp only[ZE,seval]
  have ro:=zci O0;have e2:2+O0.length=O0.length+1+1:=by omega
  simp only[ZE,seval,zN,e2,zl9,za4,rawC,inA,zow,chC,chD,zeS,zgk,zc2,zh3,zaU,zbQ,sA,sB,sC,sD,sU,sVV,sX,sY,zg7,zma,st,zcW,zbm,zgN,zgO,zbl,zbj,emp,not_false_eq_true];exact⟨ro,by omega,by omega⟩
 have h0:(((x.kind % 4:Nat):Int)==0)=false:=by simp; omega
 by_cases b9:x.kind / 4 % 2=1
 ·have h9:(((x.kind / 4 % 2:Nat):Int)==1)=true:=by simp[b9]
  rw[zdG,if_neg b0,if_pos b9,zl9,zd2,if_neg b0];by_cases b1:x.kind % 4=1
  ·have h1:(((x.kind % 4:Nat):Int)==1)=true:=by simp[b1]
   rw[if_pos b1];simp(maxSteps:=4000000) only[ZE,seval,zew,zN,not_false_eq_true,w4,w44,w444,w16,v1,v2,v3,v4,v5,v6,u1,u2,u3,k4,kd,kd2];refine EFn.p ?_;simp only[ZE,seval,zN];refine zar.i kc ?_;simp only[ZE,seval,zN,not_false_eq_true,w4,w44,w444,w16,v1,v2,v3,v4,v5,v6,u1,u2,u3,k4,kd,kd2,h0,h1,h9];refine⟨by kernel_rfl,by kernel_rfl,by kernel_rfl,zaz.i i1 ?_⟩;simp only[ZE,seval,zN];refine zaz.i i2 ?_;simp only[ZE,seval,zN,w4,w44,w444,w16,v1,v2,v3,v4,v5,v6,u1,u2,u3,k4,kd,kd2,h9,not_false_eq_true];refine⟨by kernel_rfl,zaz.i cm ?_⟩;simp only[ZE,seval,zN,zl9,za4,rawC,inA,zow,chC,chD,zeS,zgk,zc2,zh3,zaU,zbQ,sA,sB,sC,sD,sU,sVV,sX,sY,zg7,zma,st,zcW,zbm,zgN,zgO,zbl,zbj,emp,not_false_eq_true]
  have h1:(((x.kind % 4:Nat):Int)==1)=false:=by simp; omega
  rw[if_neg b1];by_cases b2:x.kind % 4=2
  ·have h2:(((x.kind % 4:Nat):Int)==2)=true:=by simp[b2]
   rw[if_pos b2,q2];simp(maxSteps:=4000000) only[ZE,seval,zew,zN,not_false_eq_true,w4,w44,w444,w16,v1,v2,v3,v4,v5,v6,u1,u2,u3,k4,kd,kd2];refine EFn.p ?_;simp only[ZE,seval,zN];refine zar.i kc ?_;simp only[ZE,seval,zN,not_false_eq_true,w4,w44,w444,w16,v1,v2,v3,v4,v5,v6,u1,u2,u3,k4,kd,kd2,h0,h1,h2,h9];refine⟨by kernel_rfl,by kernel_rfl,by kernel_rfl,zaz.i i1 ?_⟩;simp only[ZE,seval,zN];refine zaz.i o2 ?_;simp only[ZE,seval,zN];refine⟨zaz.i o2 ?_,?_⟩
   ·simp only[ZE,seval]
   have ro:=zci O2;have e4:4+O2.length=O2.length+1+1+1+1:=by omega
   try simp only[ZE,seval,zN,w4,w44,w444,w16,v1,v2,v3,v4,v5,v6,u1,u2,u3,k4,kd,kd2,h9,e4,not_false_eq_true]
   refine⟨⟨ro,by omega,by omega⟩,by kernel_rfl,zaz.i cm ?_⟩;simp only[ZE,seval,zN,zl9,za4,rawC,inA,zow,chC,chD,zeS,zgk,zc2,zh3,zaU,zbQ,sA,sB,sC,sD,sU,sVV,sX,sY,zg7,zma,st,zcW,zbm,zgN,zgO,zbl,zbj,emp,not_false_eq_true]
  have h2:(((x.kind % 4:Nat):Int)==2)=false:=by simp; omega
  rw[if_neg b2,q3,h22,h24];simp(maxSteps:=4000000) only[ZE,seval,zew,zN,not_false_eq_true,w4,w44,w444,w16,v1,v2,v3,v4,v5,v6,u1,u2,u3,k4,kd,kd2];refine EFn.p ?_;simp only[ZE,seval,zN];refine zar.i kc ?_;simp only[ZE,seval,zN,not_false_eq_true,w4,w44,w444,w16,v1,v2,v3,v4,v5,v6,u1,u2,u3,k4,kd,kd2,h0,h1,h2,h9];refine⟨by kernel_rfl,by kernel_rfl,by kernel_rfl,zaz.i i3 ?_⟩;simp only[ZE,seval,zN];refine zaz.i o3 ?_;simp only[ZE,seval,zN];refine⟨zaz.i o3 ?_,?_⟩
  ·simp only[ZE,seval]
  have ro:=zci O3;have e4:4+O3.length=O3.length+1+1+1+1:=by omega
  try simp only[ZE,seval,zN,e4]
  refine⟨⟨ro,by omega,by omega⟩,by kernel_rfl,zaz.i c22 ?_⟩;simp only[ZE,seval,zN,e4];refine zaz.i g24 ?_;simp only[ZE,seval,zN,w4,w44,w444,w16,v1,v2,v3,v4,v5,v6,u1,u2,u3,k4,kd,kd2,h9,e4,not_false_eq_true,wab];refine⟨⟨by omega,by omega⟩,by kernel_rfl,zaz.i cm ?_⟩;simp only[ZE,seval,zN,waf,zl9,za4,rawC,inA,zow,chC,chD,zeS,zgk,zc2,zh3,zaU,zbQ,sA,sB,sC,sD,sU,sVV,sX,sY,zg7,zma,st,zcW,zbm,zgN,zgO,zbl,zbj,emp,not_false_eq_true]
 ·have h9:(((x.kind / 4 % 2:Nat):Int)==1)=false:=by simp; omega
  rw[zdG,if_neg b0,if_neg b9,zl9,zd2,if_neg b0];by_cases b1:x.kind % 4=1
  ·have h1:(((x.kind % 4:Nat):Int)==1)=true:=by simp[b1]
   rw[if_pos b1];simp(maxSteps:=4000000) only[ZE,seval,zew,zN,not_false_eq_true,w4,w44,w444,w16,v1,v2,v3,v4,v5,v6,u1,u2,u3,k4,kd,kd2];refine EFn.p ?_;simp only[ZE,seval,zN];refine zar.i kc ?_;simp only[ZE,seval,zN,not_false_eq_true,w4,w44,w444,w16,v1,v2,v3,v4,v5,v6,u1,u2,u3,k4,kd,kd2,h0,h1,h9];refine⟨by kernel_rfl,by kernel_rfl,by kernel_rfl,zaz.i i1 ?_⟩;simp only[ZE,seval,zN];refine zaz.i i2 ?_;simp only[ZE,seval,zN,w4,w44,w444,w16,v1,v2,v3,v4,v5,v6,u1,u2,u3,k4,kd,kd2,h9,not_false_eq_true];refine⟨by kernel_rfl,zaz.i cm ?_⟩;simp only[ZE,seval,zN,zl9,za4,rawC,inA,zow,chC,chD,zeS,zgk,zc2,zh3,zaU,zbQ,sA,sB,sC,sD,sU,sVV,sX,sY,zg7,zma,st,zcW,zbm,zgN,zgO,zbl,zbj,emp,not_false_eq_true]
  have h1:(((x.kind % 4:Nat):Int)==1)=false:=by simp; omega
  rw[if_neg b1];by_cases b2:x.kind % 4=2
  ·have h2:(((x.kind % 4:Nat):Int)==2)=true:=by simp[b2]
   rw[if_pos b2,q2];simp(maxSteps:=4000000) only[ZE,seval,zew,zN,not_false_eq_true,w4,w44,w444,w16,v1,v2,v3,v4,v5,v6,u1,u2,u3,k4,kd,kd2];refine EFn.p ?_;simp only[ZE,seval,zN];refine zar.i kc ?_;simp only[ZE,seval,zN,not_false_eq_true,w4,w44,w444,w16,v1,v2,v3,v4,v5,v6,u1,u2,u3,k4,kd,kd2,h0,h1,h2,h9];refine⟨by kernel_rfl,by kernel_rfl,by kernel_rfl,zaz.i i1 ?_⟩;simp only[ZE,seval,zN];refine zaz.i o2 ?_;simp only[ZE,seval,zN];refine⟨zaz.i o2 ?_,?_⟩
   ·simp only[ZE,seval]
   have ro:=zci O2;have e4:4+O2.length=O2.length+1+1+1+1:=by omega
   try simp only[ZE,seval,zN,w4,w44,w444,w16,v1,v2,v3,v4,v5,v6,u1,u2,u3,k4,kd,kd2,h9,e4,not_false_eq_true]
   refine⟨⟨ro,by omega,by omega⟩,by kernel_rfl,zaz.i cm ?_⟩;simp only[ZE,seval,zN,zl9,za4,rawC,inA,zow,chC,chD,zeS,zgk,zc2,zh3,zaU,zbQ,sA,sB,sC,sD,sU,sVV,sX,sY,zg7,zma,st,zcW,zbm,zgN,zgO,zbl,zbj,emp,not_false_eq_true]
  have h2:(((x.kind % 4:Nat):Int)==2)=false:=by simp; omega
  rw[if_neg b2,q3,h22,h24];simp(maxSteps:=4000000) only[ZE,seval,zew,zN,not_false_eq_true,w4,w44,w444,w16,v1,v2,v3,v4,v5,v6,u1,u2,u3,k4,kd,kd2];refine EFn.p ?_;simp only[ZE,seval,zN];refine zar.i kc ?_;simp only[ZE,seval,zN,not_false_eq_true,w4,w44,w444,w16,v1,v2,v3,v4,v5,v6,u1,u2,u3,k4,kd,kd2,h0,h1,h2,h9];refine⟨by kernel_rfl,by kernel_rfl,by kernel_rfl,zaz.i i3 ?_⟩;simp only[ZE,seval,zN];refine zaz.i o3 ?_;simp only[ZE,seval,zN];refine⟨zaz.i o3 ?_,?_⟩
  ·simp only[ZE,seval]
  have ro:=zci O3;have e4:4+O3.length=O3.length+1+1+1+1:=by omega
  try simp only[ZE,seval,zN,e4]
  refine⟨⟨ro,by omega,by omega⟩,by kernel_rfl,zaz.i c22 ?_⟩;simp only[ZE,seval,zN,e4];refine zaz.i g24 ?_;simp only[ZE,seval,zN,w4,w44,w444,w16,v1,v2,v3,v4,v5,v6,u1,u2,u3,k4,kd,kd2,h9,e4,not_false_eq_true,wab];refine⟨⟨by omega,by omega⟩,by kernel_rfl,zaz.i cm ?_⟩;simp only[ZE,seval,zN,waf,zl9,za4,rawC,inA,zow,chC,chD,zeS,zgk,zc2,zh3,zaU,zbQ,sA,sB,sC,sD,sU,sVV,sX,sY,zg7,zma,st,zcW,zbm,zgN,zgO,zbl,zbj,emp,not_false_eq_true]
def zk7(mem:Bool)(l:List Nat)(w:Num)(c0:Str):Expr:=match mem with
 | true=>.mk 5 emp zbj zbj [gen l [sR,sS,sT,c0] w 1 8,.mk 15 sM zbj zbj [gen l [sR,sS] w 0 10]]
 | false=>gen l [sR,sS,sT,c0] w 1 8
def zqD(mem:Bool)(l:List Nat)(w:Num)(c0 c1:Str)(z:List Item):List Item:=match mem with
 | true=>zk1 sR l 2 [sR,sS,sT,c0] w::zk1 sS l 4 [sS,sR,c0] w::zdf sT w (gen l [sR,sS] w 1 6)::memI l w c0::zde c0 (cond l [sR,sS] w 1 18)::zh3 c1 (cond l [sR,sS,sT,c0] w 1 20) (zk7 true l w c0)::z
 | false=>zk1 sR l 2 [sR,sS,sT,c0] w::zk1 sS l 4 [sS,sR,c0] w::zdf sT w (gen l [sR,sS] w 1 6)::zde c0 (cond l [sR,sS] w 1 18)::zh3 c1 (cond l [sR,sS,sT,c0] w 1 20) (zk7 false l w c0)::z
theorem ztL(l:List Nat)(w:Num)(c0 c1:Str)(z:List Item): ∃mem,znJ l w c0 c1++z=zqD mem l w c0 c1 z:=by
 unfold znJ zlx zpv zlz zox;by_cases h:zaR l 0 % 2=1
 ·refine⟨true,?_⟩;simp only[if_pos h]; rfl
 ·refine⟨false,?_⟩;simp only[if_neg h]; rfl
def zjl(mem:Bool)(x:Raw):Module:=⟨zma,zdk (1+x.w / 16),[],inA x::zow x::zqD mem x.l (za4 x) sA sB []⟩
def two(o:Bool)(a b:Module):List Module:=match o with
 | true=>[a,b]
 | false=>[b,a]
def zmb(x:Raw):Module:=⟨zma,zdk (1+x.w / 16),[],[inA x,zow x,chC x,zc2 sU (za4 x) sA sC,zc2 sVV (za4 x) sC sB]⟩
def zjJ(mem:Bool)(x:Raw):Module:=⟨zma,zdk (1+x.w / 16),[],inA x::zow x::chC x::zc2 sU (za4 x) sA sC::zqD mem x.l (za4 x) sC sB []⟩
def zjK(mem:Bool)(x:Raw):Module:=⟨zma,zdk (1+x.w / 16),[],zow x::chC x::chD x::zc2 sU (za4 x) sC sD::zqD mem x.l (za4 x) sD sC [zh3 sB (cond x.l [sR,sS] (za4 x) 1 22) (gen x.l [sR,sS] (za4 x) 1 24)]⟩
theorem zc5(x:Raw):(∃mem,zdG x=[zjl mem x])\/(∃o,zdG x=two o (zmb x) (zbf x.l))\/(∃o mem,zdG x=two o (zjJ mem x) (zbf x.l))\/(∃o mem,zdG x=two o (zjK mem x) (zbf x.l)):=by
 by_cases b0:x.kind % 4=0
 ·left;obtain⟨mem,h⟩:=ztL x.l (za4 x) sA sB [];rw[List.append_nil]at h;refine⟨mem,?_⟩;rw[zdG,if_pos b0,zl9,zd2,if_pos b0,h]; rfl
 right;have ho: ∀t:Module,zl9 x=t-> ∃o,zdG x=two o t (zbf x.l):=by
  intro t ht;by_cases b9:x.kind / 4 % 2=1
  ·exact⟨true,by rw[zdG,if_neg b0,if_pos b9,ht]; rfl⟩
  ·exact⟨false,by rw[zdG,if_neg b0,if_neg b9,ht]; rfl⟩
 by_cases b1:x.kind % 4=1
 ·left;exact ho _ (by rw[zl9,zd2,if_neg b0,if_pos b1]; rfl)
 right;by_cases b2:x.kind % 4=2
 ·left;obtain⟨mem,h⟩:=ztL x.l (za4 x) sC sB [];rw[List.append_nil]at h;obtain⟨o,h'⟩:=ho (zjJ mem x) (by rw[zl9,zd2,if_neg b0,if_neg b1,if_pos b2,h]; rfl);exact⟨o,mem,h'⟩
 ·right;obtain⟨mem,h⟩:=ztL x.l (za4 x) sD sC [zh3 sB (cond x.l [sR,sS] (za4 x) 1 22) (gen x.l [sR,sS] (za4 x) 1 24)];obtain⟨o,h'⟩:=ho (zjK mem x) (by rw[zl9,zd2,if_neg b0,if_neg b1,if_neg b2,List.append_assoc,h]; rfl);exact⟨o,mem,h'⟩
def sz(e:Expr):Nat:=e.all.length
theorem zeB: ∀r:List Expr,(Expr.allL r).length =(r.map sz).sum
 | []=>rfl
 | e::r=>by rw[Expr.allL,wab,wae,List.sum_cons,zeB r]; rfl
theorem zec(o:Int)(n:Str)(k w:Num)(r:List Expr):sz (.mk o n k w r)=(r.map sz).sum +1:=by
 unfold sz;rw[Expr.all_eq,wad,Expr.args,zeB]; rfl
theorem zfh(l:List Nat)(ns:List Str)(w:Num)(a:Nat):sz (zmH l ns w a)=1:=by
 unfold zmH; split <;> rw[zec] <;> rfl
theorem zmk(x y:Expr)(k:Nat):sz (zfa x y k)<=sz x+sz y+1:=by
 unfold zfa;split
 ·rw[zec]; simp
 split
 ·rw[zec]; simp
 split
 ·rw[zec]; simp
 ·rw[zec]; simp
theorem zty(x y c:Expr)(k:Nat):sz (ziW x y c k)<=sz x+sz y+sz c+1:=by
 unfold ziW;split
 ·rw[zec]; simp only[wae,wac,List.sum_cons,List.sum_nil]; omega
 split
 ·rw[zec]; simp only[wae,wac,List.sum_cons,List.sum_nil]; omega
 split
 ·rw[zec]; simp only[wae,wac,List.sum_cons,List.sum_nil]; omega
 split
 ·rw[zec]; simp only[wae,wac,List.sum_cons,List.sum_nil]; omega
 split
 ·rw[zec]; simp only[wae,wac,List.sum_cons,List.sum_nil]; omega
 split
 ·rw[zec]; simp only[wae,wac,List.sum_cons,List.sum_nil]; omega
 ·rw[zec]; simp only[wae,wac,List.sum_cons,List.sum_nil]; omega
theorem zwW(l:List Nat)(ns:List Str)(w:Num)(a:Nat):sz (gen l ns w 0 a)<=20:=by
 have:=zfh l ns w a;show sz (zmH l ns w a)<=20;omega
theorem zld(l:List Nat)(ns:List Str)(w:Num)(a:Nat):sz (gen l ns w 1 a)<=6:=by
 unfold gen;split
 ·have:=zfh l ns w a; omega
 ·have h1:=zfh l ns w (3*a+1);have h2:=zfh l ns w (3*a+2);have h3:=zfh l ns w (3*a+4);have h4:=zfh l ns w (3*a+5);have h5:=zmk (gen l ns w 0 (3*a+4)) (zmH l ns w (3*a+5)) (zaR l (3*a+3));have h6:=zty (gen l ns w 0 (3*a+1)) (gen l ns w 0 (3*a+2)) (zfa (gen l ns w 0 (3*a+4)) (zmH l ns w (3*a+5)) (zaR l (3*a+3))) (zaR l a);simp only[gen]at h5 h6 ⊢;omega
theorem zdq(l:List Nat)(ns:List Str)(w:Num)(a:Nat):sz (gen l ns w 1 a)<=20:=wak (zld l ns w a) (by decide)
theorem zcz(l:List Nat)(ns:List Str)(w:Num)(a:Nat):sz (cond l ns w 1 a)<=20:=by
 have h1:=zld l ns w (a+1);have h2:=zfh l ns w (a+2);have h3:=zmk (gen l ns w 1 (a+1)) (zmH l ns w (a+2)) (zaR l a);unfold cond;omega
theorem zoa(mem:Bool)(l:List Nat)(w:Num)(c0:Str):sz (zk7 mem l w c0)<=20:=by
 cases mem
 ·exact zdq _ _ _ _
 ·have h1:=zld l [sR,sS,sT,c0] w 8;have h2:=zfh l [sR,sS] w 10;show sz (.mk 5 emp zbj zbj [gen l [sR,sS,sT,c0] w 1 8,.mk 15 sM zbj zbj [gen l [sR,sS] w 0 10]])<=20;rw[zec,wae,wae,wac,zec,wae,wac];simp only[List.sum_cons,List.sum_nil,gen]at*;omega
theorem zh9:sz zbQ<=20:=by unfold zbQ; rw[zec]; simp
theorem zuv{l:List Expr}: ∀ {x:Expr},x∈l->sz x<=(l.map sz).sum :=by
 induction l with
 | nil=>intro x h; simp at h
 | cons y r ih=>
  intro x h;rw[wae,List.sum_cons];rcases List.mem_cons.1 h with rfl | h
  ·omega
  ·have:=ih h; omega
def zte(n:Nat):I64:=if h:n<=9223372036854775807 then⟨(n:Int),zdi h⟩else⟨0,rfl⟩
def zfp(k1 k3:Nat)(s:Str)(x:Item):Item:=
 if k1 % 12=4 then{x with name:=s}else if k1 % 12=5 then{x with kind:=zte (k3 % 11)}else if k1 % 12=6 then{x with width:=⟨x.width.n,s⟩}
 else if k1 % 12=7 then{x with a:=.mk 14 s zbj zbj []}else if k1 % 12=8 then{x with a:=.mk (k3 % 20:Nat) s zbj zbj [x.a]}
 else if k1 % 12=9 then{x with rule:=⟨(k3 % 6:Nat)-1,s,0⟩}else if k1 % 12=10 then{x with of:=s}else if k1 % 12=11 then{x with ports:=x.ports++[⟨sX,s⟩]}else x
def zeb(k1 k3:Nat)(s:Str)(l:List Item)(n:Nat)(x:Item):List Item:=(if k1 % 12<4 then l++[x]else l).set n (zfp k1 k3 s x)
def zkS(k1 k2 k3:Nat)(s:Str)(m:Module):Module:=
 if m.items.length=0\/k1 % 16<4 then
  (if k1 % 4=0 then{m with name:=s}else if k1 % 4=1 then{m with clock:=s}else if k1 % 4=2 then{m with params:=m.params++[s]}else{m with items:=m.items++[{zaU with kind:=zte (k2 % 11),name:=s}]})
 else{m with items:=zeb k1 k3 s m.items (k2 % m.items.length) (m.items.getD (k2 % m.items.length) zaU)}
set_option maxHeartbeats 4000000
set_option maxHeartbeats 8000000
def zkN(x:Item):Nat:=(Expr.allL [x.a,x.b,x.c]).length +x.ports.length+x.args.length
def zkO(m:Module):Nat:=m.items.length+m.params.length+(m.items.map zkN).sum
def zqM(l:List Module):Nat:=(l.map zkO).sum
structure Tid (y:Item):Prop where
 a:sz y.a<=20
 b:sz y.b<=20
 c:sz y.c<=20
 args:y.args.length<=2
 ports:y.ports.length<=2
structure Fine (n:Nat) (m:Module):Prop where
 items:m.items.length<=n
 params:m.params.length<=n
 sizes: ∀x∈m.items,sz x.a+sz x.b+sz x.c<=n
 args: ∀x∈m.items,x.args.length<=n
 ports: ∀x∈m.items,x.ports.length<=n
theorem Fine.mono{n k:Nat}(h:n<=k){m:Module}(f:Fine n m):Fine k m:=
 ⟨wak f.items h,wak f.params h,fun x hx=>wak (f.sizes x hx) h,fun x hx=>wak (f.args x hx) h,fun x hx=>wak (f.ports x hx) h⟩
theorem zoy(x:Raw): ∀m∈zdG x,m.params.length<=60:=by
 have:((zdG x).all fun m=>decide (m.params.length<=60))=true:=by
  rcases zc5 x with⟨mem,h⟩ | ⟨q,h⟩ | ⟨q,mem,h⟩ | ⟨q,mem,h⟩
  ·rw[h]; cases mem <;> kernel_rfl
  ·rw[h]; cases q <;> kernel_rfl
  ·rw[h]; cases q <;> cases mem <;> kernel_rfl
  ·rw[h]; cases q <;> cases mem <;> kernel_rfl
 intro m hm;rw[List.all_eq_true]at this;simpa using this m hm
theorem zio(k:I64)(n:Str)(w:Num):Tid (zeS k n w):={a:=zh9,b:=zh9,c:=zh9,args:=by simp[zeS,zaU],ports:=by simp[zeS,zaU]}
theorem zrW(n:Str)(w d:Num):Tid (zgk n w d):={a:=zh9,b:=zh9,c:=zh9,args:=by simp[zgk,zaU],ports:=by simp[zgk,zaU]}
theorem zuy(n:Str)(r:List Nat)(a:Nat)(ns:List Str)(w:Num):Tid (zk1 n r a ns w):={a:=zdq _ _ _ _,b:=zh9,c:=zh9,args:=by simp[zk1,zaU],ports:=by simp[zk1,zaU]}
theorem zxQ(n:Str)(w:Num)(e:Expr)(he:sz e<=20):Tid (zdf n w e):={a:=he,b:=zh9,c:=zh9,args:=by simp[zdf,zaU],ports:=by simp[zdf,zaU]}
theorem zxP(n:Str)(e:Expr)(he:sz e<=20):Tid (zde n e):={a:=he,b:=zh9,c:=zh9,args:=by simp[zde,zaU],ports:=by simp[zde,zaU]}
theorem zxO(n:Str)(e z:Expr)(he:sz e<=20)(hz:sz z<=20):Tid (zh3 n e z):={a:=he,b:=hz,c:=zh9,args:=by simp[zh3,zaU],ports:=by simp[zh3,zaU]}
theorem tid_mem(r:List Nat)(w:Num)(c0:Str):Tid (memI r w c0):={a:=zcz _ _ _ _,b:=zwW _ _ _ _,c:=zdq _ _ _ _,args:=by simp[memI,zaU],ports:=by simp[memI,zaU]}
theorem zrX(n:Str)(w:Num)(c0 c1:Str):Tid (zc2 n w c0 c1):={a:=zh9,b:=zh9,c:=zh9,args:=by simp[zc2],ports:=by simp[zc2]}
theorem tid_own(mem:Bool)(r:List Nat)(w:Num)(c0 c1:Str)(z:List Item)(hz: ∀y∈z,Tid y): ∀y∈zqD mem r w c0 c1 z,Tid y:=by
 cases mem
 ·simp only[zqD,wah];exact⟨zuy _ _ _ _ _,zuy _ _ _ _ _,zxQ _ _ _ (zdq _ _ _ _),zxP _ _ (zcz _ _ _ _),zxO _ _ _ (zcz _ _ _ _) (zoa _ _ _ _),hz⟩
 ·simp only[zqD,wah];exact⟨zuy _ _ _ _ _,zuy _ _ _ _ _,zxQ _ _ _ (zdq _ _ _ _),tid_mem _ _ _,zxP _ _ (zcz _ _ _ _),zxO _ _ _ (zcz _ _ _ _) (zoa _ _ _ _),hz⟩
theorem zxN(b:List Nat): ∀y∈(zbf b).items,Tid y:=by
 simp only[zbf,wah];exact⟨zio _ _ _,zio _ _ _,zuy _ _ _ _ _,zxQ _ _ _ (zdq _ _ _ _),zxP _ _ (zcz _ _ _ _),zxO _ _ _ (zcz _ _ _ _) (zdq _ _ _ _),by simp⟩
theorem tid_made(x:Raw):(zdG x).length <=2/\0<(zdG x).length /\ ∀m∈zdG x,(0<m.items.length/\m.items.length<=20)/\ ∀y∈m.items,Tid y:=by
 have nil: ∀y∈([]:List Item),Tid y:=by simp
 have hm: ∀(o:Bool) (a b:Module) (P:Module->Prop),P a->P b-> ∀m∈two o a b,P m:=by
  intro o a b P ha hb m hm;cases o
  ·simp only[two,List.mem_cons,wai,or_false]at hm;rcases hm with rfl | rfl
   ·exact hb
   ·exact ha
  ·simp only[two,List.mem_cons,wai,or_false]at hm;rcases hm with rfl | rfl
   ·exact ha
   ·exact hb
 have hl: ∀(o:Bool) (a b:Module),(two o a b).length <=2/\0<(two o a b).length :=by
  intro o a b;cases o <;> exact⟨by simp[two],by simp[two]⟩
 rcases zc5 x with⟨mem,h⟩ | ⟨o,h⟩ | ⟨o,mem,h⟩ | ⟨o,mem,h⟩
 ·rw[h];refine⟨by simp,by simp,fun m hm=> ?_⟩;simp only[List.mem_cons,wai,or_false]at hm;subst hm;refine⟨by cases mem <;> exact⟨by simp[zjl],by simp[zjl,zqD]⟩,?_⟩;simp only[zjl,wah];exact⟨zio _ _ _,zio _ _ _,tid_own _ _ _ _ _ _ nil⟩
 ·rw[h];refine⟨(hl _ _ _).1,(hl _ _ _).2,hm _ _ _ _ ⟨⟨by simp[zmb],by simp[zmb]⟩,?_⟩ ⟨⟨by simp[zbf],by simp[zbf]⟩,zxN _⟩⟩;simp only[zmb,wah];exact⟨zio _ _ _,zio _ _ _,zrW _ _ _,zrX _ _ _ _,zrX _ _ _ _,nil⟩
 ·rw[h];refine⟨(hl _ _ _).1,(hl _ _ _).2,hm _ _ _ _ ⟨by cases mem <;> exact⟨by simp[zjJ],by simp[zjJ,zqD]⟩,?_⟩ ⟨⟨by simp[zbf],by simp[zbf]⟩,zxN _⟩⟩;simp only[zjJ,wah];exact⟨zio _ _ _,zio _ _ _,zrW _ _ _,zrX _ _ _ _,tid_own _ _ _ _ _ _ nil⟩
 ·rw[h];refine⟨(hl _ _ _).1,(hl _ _ _).2,hm _ _ _ _ ⟨by cases mem <;> exact⟨by simp[zjK],by simp[zjK,zqD]⟩,?_⟩ ⟨⟨by simp[zbf],by simp[zbf]⟩,zxN _⟩⟩;simp only[zjK,wah];exact⟨zio _ _ _,zrW _ _ _,zrW _ _ _,zrX _ _ _ _,tid_own _ _ _ _ _ _ (by simp only[wah]; exact⟨zxO _ _ _ (zcz _ _ _ _) (zdq _ _ _ _),nil⟩)⟩
theorem zmu(x:Raw): ∀m∈zdG x,Fine 60 m:=fun m hm=>by
 obtain⟨_,_,h⟩:=tid_made x;obtain⟨⟨_,h1⟩,h2⟩:=h m hm;refine⟨by omega,zoy x m hm,fun y hy=> ?_,fun y hy=> ?_,fun y hy=> ?_⟩
 ·have:=(h2 y hy).a; have:=(h2 y hy).b; have:=(h2 y hy).c; omega
 ·have:=(h2 y hy).args; omega
 ·have:=(h2 y hy).ports; omega
def zfX(p:Part):List D:=[eI p.kind.1,eS p.name]
theorem zxs(a b:Part):(a.kind.1==b.kind.1&&decide (a.name=b.name))=decide (a=b):=by
 obtain⟨⟨a1,a2⟩,a3⟩:=a;obtain⟨⟨b1,b2⟩,b3⟩:=b;rw[wam];simp
theorem rof_c(x:Item):FnP prog 30 [.agg (zaK x)] (.d (.agg (zfX (zbg x)))) []:=by
 refine FnP.of_eC (own:=[]) (fun _=>[]) zat func30 rfl call30 ntmps30 (zle rfl) results30 (fun hok=> ?_);simp only[ZE,seval,zfX,zbg]
theorem zxz(l:List Module)(n:Str):FnP prog 43 [.agg [zax l],eS n] (.d (eI (zgM (fun m:Module=>decide (m.name=n)) l))) []:=by
 refine FnP.of_eC (own:=[]) (fun _=>[]) zat func43 rfl call43 ntmps43 (zle rfl) results43 (fun hok=> ?_);have hl:l.length<=9223372036854775807:=by
  have:=(zaM hok).1;simp only[D.ok,D.okL]at this;exact(za9 this.1).1
 simp only[ZE,seval,zN];refine za1 (fun _=>[]) zat l.length (fun i=> ∀j (_:j<i) (hj:j<l.length),decide (l[j].name =n)=false) (fun i=>([(1,.d (eS n)),(2,.bp 2 0),(5,.d (eI i))],[(2,.box [.d (zax l)])])) (by simp) (by simp only[ZE,seval,zN]) (by simp only[ZE,seval]) (fun i hi hI=> ?_);rcases waj i l.length with h | h
 ·have hw:=zaq (show i<9223372036854775807 by omega);simp only[ZE,seval,zaw h,zaa h,zai h,hw,zN];refine zd8 (fun h3=> ?_) (fun h3=>⟨h,fun j hj hj'=> ?_⟩)
  ·rw[zeP h h3 hI]
  ·rcases Nat.lt_succ_iff_lt_or_eq.1 hj with hj | rfl
   ·exact hI j hj hj'
   ·exact h3
 ·simp only[ZE,seval,zaI h,zN];rw[zeO (fun j hj=>hI j (by omega) hj)]
theorem rindex_c(m:Module)(p:Part):FnP prog 58 [.agg (zaC m),.agg (zfX p)] (.d (eI (zgM (fun x=>decide (zbg x=p)) m.items))) []:=by
 refine FnP.of_eC (own:=[]) (fun _=>[]) zat func58 rfl call58 ntmps58 (zle rfl) results58 (fun hok=> ?_);have hl:m.items.length<=9223372036854775807:=by
  have:=(zaM hok).1;simp only[zaC,zbR,D.ok,D.okL]at this;exact(za9 this.2.2.2.1).1
 simp only[ZE,seval,zfX,zN];refine za1 (fun _=>[]) zat m.items.length (fun i=> ∀j (_:j<i) (hj:j<m.items.length),decide (zbg m.items[j]=p)=false) (fun i=>([(2,.bp 2 0),(3,.bp 3 0),(5,.d (eI i))],[(2,.box ((zaC m).map .d)),(3,.box ((zfX p).map .d))])) (by simp) (by simp only[ZE,seval,zfX,zN]) (by simp only[ZE,seval,zfX]) (fun i hi hI=> ?_);rcases waj i m.items.length with h | h
 ·have hw:=zaq (show i<9223372036854775807 by omega);obtain⟨x,hx⟩:=zX (m.items[i]);have oc:=rof_c x;have pe':decide (zbg x=p)=(x.kind.1==p.kind.1&&decide (x.name=p.name)):=(zxs (zbg x) p).symm;simp only[ZE,seval,zfX,zbg]at oc;simp only[ZE,seval,zaw h,zaa h,zai h,hx,zfX,zN];refine⟨by kernel_rfl,zaz.i oc ?_⟩;simp only[ZE,seval,zN,hw];refine zd8 (fun h3=> ?_) (fun h3=>⟨h,fun j hj hj'=> ?_⟩)
  ·rw[zeP h (by rw[hx,pe']; exact h3) hI]
  ·rcases Nat.lt_succ_iff_lt_or_eq.1 hj with hj | rfl
   ·exact hI j hj hj'
   ·rw[hx,pe']; exact h3
 ·simp only[ZE,seval,zaI h,zN];rw[zeO (fun j hj=>hI j (by omega) hj)]
def okK(m:Module)(k:Nat):Bool:= !((m.items.getD k zaU).kind.1 ==0)&&(zgM (fun x=>decide (zbg x=zbg (m.items.getD k zaU))) m.items==(k:Int))
def zq7(m:Module):Bool:=(List.range m.items.length).all (okK m)
def okM(l:List Module)(i:Nat):Bool:=(zgM (fun m:Module=>decide (m.name=(l.getD i zdP).name)) l==(i:Int))&&zq7 (l.getD i zdP)
def ze8(l:List Module):Bool:=(List.range l.length).all (okM l)
theorem zql{α:Type}{p:α->Bool}{l:List α}{k:Nat}(h:zgM p l=(k:Int)): ∃h':k<l.length,p l[k]=true/\ ∀j (hj:j<k),p (l[j]'(by omega))=false:=by
 unfold zgM at h;split at h
 ·rename_i i hi;have e:i=k:=by omega
  subst e;rw[List.findIdx?_eq_some_iff_getElem]at hi;obtain⟨h1,h2,h3⟩:=hi;exact⟨h1,h2,fun j hj=>by simpa using h3 j hj⟩
 ·omega
theorem zbU(l:List Module):ze8 l=true↔Parted l:=by
 unfold ze8;rw[List.all_eq_true];have hK: ∀m:Module,zq7 m=true↔(m.items.map zbg).Nodup /\ ∀x∈m.items,x.kind.1≠0:=by
  intro m;unfold zq7;rw[List.all_eq_true];constructor
  ·intro h;have h': ∀k (hk:k<m.items.length),m.items[k].kind.1 ≠0/\ ∀j (hj:j<k),zbg (m.items[j]'(by omega))≠zbg m.items[k]:=by
    intro k hk;have:=h k (List.mem_range.2 hk);unfold okK at this;have hg:m.items.getD k zaU=m.items[k]:=(by simp[List.getD,hk]);rw[hg,wal,beq_iff_eq]at this;obtain⟨_,_,h3⟩:=zql this.2;exact⟨by simpa using this.1,fun j hj=>by simpa using h3 j hj⟩
   refine⟨?_,fun x hx=> ?_⟩
   ·rw[List.nodup_iff_pairwise_ne,List.pairwise_map,List.pairwise_iff_getElem];intro i j hi hj hij;exact(h' j hj).2 i hij
   ·obtain⟨k,hk,rfl⟩:=List.getElem_of_mem hx;exact(h' k hk).1
  ·rintro⟨h1,h2⟩ k hk;have hk:=List.mem_range.1 hk;have hg:m.items.getD k zaU=m.items[k]:=by simp[List.getD,hk]
   unfold okK;rw[hg,wal,beq_iff_eq];refine⟨by simpa using h2 _ (wag hk),?_⟩;refine zeP hk (by simp) (fun j hj hj'=> ?_);rw[List.nodup_iff_pairwise_ne,List.pairwise_map,List.pairwise_iff_getElem]at h1;simpa using h1 j k hj' hk hj
 constructor
 ·intro h;have h': ∀k (hk:k<l.length),(∀j (hj:j<k),(l[j]'(by omega)).name ≠l[k].name)/\zq7 l[k]=true:=by
   intro k hk;have:=h k (List.mem_range.2 hk);unfold okM at this;have hg:l.getD k zdP=l[k]:=by simp[List.getD,hk]
   rw[hg,wal,beq_iff_eq]at this;obtain⟨_,_,h3⟩:=zql this.1;exact⟨fun j hj=>by simpa using h3 j hj,this.2⟩
  refine⟨?_,fun m hm=> ?_,fun m hm=> ?_⟩
  ·rw[List.nodup_iff_pairwise_ne,List.pairwise_map,List.pairwise_iff_getElem];intro i j hi hj hij;exact(h' j hj).1 i hij
  ·obtain⟨k,hk,rfl⟩:=List.getElem_of_mem hm;exact((hK _).1 (h' k hk).2).1
  ·obtain⟨k,hk,rfl⟩:=List.getElem_of_mem hm;exact((hK _).1 (h' k hk).2).2
 ·intro h k hk;have hk:=List.mem_range.1 hk;have hg:l.getD k zdP=l[k]:=by simp[List.getD,hk]
  unfold okM;rw[hg,wal,beq_iff_eq];refine⟨?_,(hK _).2 ⟨h.parts _ (wag hk),h.kinds _ (wag hk)⟩⟩;refine zeP hk (by simp) (fun j hj hj'=> ?_);have h1:=h.names;rw[List.nodup_iff_pairwise_ne,List.pairwise_map,List.pairwise_iff_getElem]at h1;simpa using h1 j k hj' hk hj
theorem parted_made(x:Raw):ze8 (zdG x)=true:=by
 rcases zc5 x with⟨mem,h⟩ | ⟨q,h⟩ | ⟨q,mem,h⟩ | ⟨q,mem,h⟩
 ·rw[h]; cases mem <;> kernel_rfl
 ·rw[h]; cases q <;> kernel_rfl
 ·rw[h]; cases q <;> cases mem <;> kernel_rfl
 ·rw[h]; cases q <;> cases mem <;> kernel_rfl
set_option maxHeartbeats 40000000
def zyV(j:Nat):Str:=[sA,sB,sC,sR,sS,sT,sX,zma,zg7,st [113]].getD j emp
structure K4 where
 a:Nat
 b:Nat
 c:Nat
 d:Nat
def eK4(k:K4):List D:=[eU8 k.a,eU8 k.b,eU8 k.c,eU8 k.d]
def K4.ok(k:K4):Prop:=k.a<256/\k.b<256/\k.c<256/\k.d<256
def spG(f:List Module)(k:K4):List Module:=f.set (k.a % f.length) (zkS k.b k.c k.d (zyV (k.d / 16 % 10)) (f.getD (k.a % f.length) zdP))
def spS(f:List Module)(k:K4):List Module:=if ze8 (spG f k)=true/\zqM (spG f k)<300 then spG f k else f
def zna(x:Raw)(l:List K4):List Module:=(l.take 4).foldl spS (zdG x)
structure SpI (n:Nat) (f:List Module):Prop where
 len:f.length<=2
 pos:0<f.length
 fine: ∀m∈f,Fine (60+n) m
 part:ze8 f=true
theorem zzR(x:Raw):SpI 0 (zdG x):=by
 obtain⟨h1,h2,_⟩:=tid_made x;exact⟨h1,h2,zmu x,parted_made x⟩
set_option maxHeartbeats 20000000
def eqL{α:Type}(p:α->α->Bool):List α->List α->Bool
 | [],[]=>true
 | x::a,y::b=>p x y&&eqL p a b
 | _,_=>false
theorem zgu{α:Type}{p:α->α->Bool}: ∀ {a b:List α},a.length≠b.length->eqL p a b=false
 | [],[],h=>absurd rfl h
 | [],_::_,_=>rfl
 | _::_,[],_=>rfl
 | x::a,y::b,h=>by
  rw[eqL,zgu (a:=a) (b:=b) (by simpa using h),Bool.and_false]
theorem zgt{α:Type}{p:α->α->Bool}: ∀ {a b:List α} {i:Nat} (h:i<a.length) (h':i<b.length),p a[i] b[i]=false->eqL p a b=false
 | x::a,y::b,0,_,_,hp=>by rw[eqL]; simp only[List.getElem_cons_zero]at hp; rw[hp]; rfl
 | x::a,y::b,i+1,h,h',hp=>by
  rw[eqL,zgt (a:=a) (b:=b) (i:=i) (by simpa using h) (by simpa using h') (by simpa using hp),Bool.and_false]
theorem zeC{α:Type}{p:α->α->Bool}: ∀ {a b:List α},a.length=b.length->(∀i (h:i<a.length) (h':i<b.length),p a[i] b[i]=true)->eqL p a b=true
 | [],[],_,_=>rfl
 | [],_::_,h,_=>by simp at h
 | _::_,[],h,_=>by simp at h
 | x::a,y::b,h,hp=>by
  have h0:=hp 0 (by simp) (by simp);simp only[List.getElem_cons_zero]at h0;rw[eqL,h0,zeC (by simpa using h) (fun i h1 h2=>by
   have:=hp (i+1) (by rw[wad]; omega) (by rw[wad]; omega);simpa only[List.getElem_cons_succ]using this)]; rfl
theorem zoc{α:Type}[DecidableEq α]: ∀a b:List α,eqL (fun x y=>decide (x=y)) a b=decide (a=b)
 | [],[]=>by simp[eqL]
 | [],_::_=>by simp[eqL]
 | _::_,[]=>by simp[eqL]
 | x::a,y::b=>by rw[eqL,zoc a b,wam]; simp
theorem eqfExpr_c(a b:List Expr)(hla:a.length<=9223372036854775807)(g:Nat)(p:Expr->Expr->Bool)(hf: ∀x∈a,∀y∈b,FnP prog g [.agg (zbx x),.agg (zbx y)] (.d (eB (p x y))) []):FnP prog 168 [.sl (a.map zbx),.sl (b.map zbx),.clo (.func g) [] []] (.d (eB (eqL p a b))) []:=by
 refine FnP.of_eC (own:=[]) (fun _=>[]) zat func168 rfl call168 ntmps168 (zle rfl) results168 (fun hok=> ?_);by_cases hab:a.length=b.length
 ·have h0:((a.length:Int) !=(b.length:Int))=false:=by simp[hab]
  simp only[ZE,seval,zN,h0,waa];refine za1 (fun _=>[]) zat a.length (fun i=> ∀j (h:j<a.length) (h':j<b.length),j<i->p a[j] b[j]=true) (fun i=>([(1,.d (.sl (b.map zbx))),(2,.d (.clo (.func g) [] [])),(15,.d (.sl (a.map zbx))),(16,.d (eI a.length)),(17,.d (eI i))],[])) (by intro j _ _ h; omega) (by simp only[ZE,seval,zN,waa]) (by simp only[ZE,seval]) (fun i hi hI=> ?_);rcases waj i a.length with h | h
  ·have hw:=zaq (show i<9223372036854775807 by omega);have h':i<b.length:=by omega
   have hc:=hf a[i] (wag h) b[i] (wag h');obtain⟨q,hq⟩:=zX (p a[i] b[i]);rw[hq]at hc;simp only[ZE,seval]at hc;simp only[ZE,seval,zaw h,zaa h,zai h,zaa h',zai h',hw,zN,waa];refine EFn.p ?_;simp only[ZE,seval,zN];refine zar.i hc ?_;cases q with
   | true=>
    simp only[ZE,seval,zN,hw];refine⟨h,fun j h1 h2 hj=> ?_⟩;rcases Nat.lt_succ_iff_lt_or_eq.1 hj with hj | rfl
    ·exact hI j h1 h2 hj
    ·exact hq
   | false=>
    have e:=zgt h h' hq;simp only[ZE,seval,zN,e]
  ·have:i=a.length:=by omega
   subst this;have e:=zeC hab (fun i h1 h2=>hI i h1 h2 h1);simp only[ZE,seval,zaI h,zN,e]
 ·have h0:((a.length:Int) !=(b.length:Int))=true:=by simp; omega
  have e:=zgu (p:=p) hab;simp only[ZE,seval,zN,h0,e,waa]
theorem eqfItem_c(a b:List Item)(hla:a.length<=9223372036854775807)(g:Nat)(p:Item->Item->Bool)(hf: ∀x∈a,∀y∈b,FnP prog g [.agg (zaK x),.agg (zaK y)] (.d (eB (p x y))) []):FnP prog 62 [.sl (a.map zaK),.sl (b.map zaK),.clo (.func g) [] []] (.d (eB (eqL p a b))) []:=by
 refine FnP.of_eC (own:=[]) (fun _=>[]) zat func62 rfl call62 ntmps62 (zle rfl) results62 (fun hok=> ?_);by_cases hab:a.length=b.length
 ·have h0:((a.length:Int) !=(b.length:Int))=false:=by simp[hab]
  simp only[ZE,seval,zN,h0,waa];refine za1 (fun _=>[]) zat a.length (fun i=> ∀j (h:j<a.length) (h':j<b.length),j<i->p a[j] b[j]=true) (fun i=>([(1,.d (.sl (b.map zaK))),(2,.d (.clo (.func g) [] [])),(15,.d (.sl (a.map zaK))),(16,.d (eI a.length)),(17,.d (eI i))],[])) (by intro j _ _ h; omega) (by simp only[ZE,seval,zN,waa]) (by simp only[ZE,seval]) (fun i hi hI=> ?_);rcases waj i a.length with h | h
  ·have hw:=zaq (show i<9223372036854775807 by omega);have h':i<b.length:=by omega
   have hc:=hf a[i] (wag h) b[i] (wag h');obtain⟨q,hq⟩:=zX (p a[i] b[i]);rw[hq]at hc;simp only[ZE,seval]at hc;simp only[ZE,seval,zaw h,zaa h,zai h,zaa h',zai h',hw,zN,waa];refine EFn.p ?_;simp only[ZE,seval,zN];refine zar.i hc ?_;cases q with
   | true=>
    simp only[ZE,seval,zN,hw];refine⟨h,fun j h1 h2 hj=> ?_⟩;rcases Nat.lt_succ_iff_lt_or_eq.1 hj with hj | rfl
    ·exact hI j h1 h2 hj
    ·exact hq
   | false=>
    have e:=zgt h h' hq;simp only[ZE,seval,zN,e]
  ·have:i=a.length:=by omega
   subst this;have e:=zeC hab (fun i h1 h2=>hI i h1 h2 h1);simp only[ZE,seval,zaI h,zN,e]
 ·have h0:((a.length:Int) !=(b.length:Int))=true:=by simp; omega
  have e:=zgu (p:=p) hab;simp only[ZE,seval,zN,h0,e,waa]
theorem eqfModule_c(a b:List Module)(hla:a.length<=9223372036854775807)(g:Nat)(p:Module->Module->Bool)(hf: ∀x∈a,∀y∈b,FnP prog g [.agg (zaC x),.agg (zaC y)] (.d (eB (p x y))) []):FnP prog 59 [.sl (a.map zaC),.sl (b.map zaC),.clo (.func g) [] []] (.d (eB (eqL p a b))) []:=by
 refine FnP.of_eC (own:=[]) (fun _=>[]) zat func59 rfl call59 ntmps59 (zle rfl) results59 (fun hok=> ?_);by_cases hab:a.length=b.length
 ·have h0:((a.length:Int) !=(b.length:Int))=false:=by simp[hab]
  simp only[ZE,seval,zN,h0,waa];refine za1 (fun _=>[]) zat a.length (fun i=> ∀j (h:j<a.length) (h':j<b.length),j<i->p a[j] b[j]=true) (fun i=>([(1,.d (.sl (b.map zaC))),(2,.d (.clo (.func g) [] [])),(15,.d (.sl (a.map zaC))),(16,.d (eI a.length)),(17,.d (eI i))],[])) (by intro j _ _ h; omega) (by simp only[ZE,seval,zN,waa]) (by simp only[ZE,seval]) (fun i hi hI=> ?_);rcases waj i a.length with h | h
  ·have hw:=zaq (show i<9223372036854775807 by omega);have h':i<b.length:=by omega
   have hc:=hf a[i] (wag h) b[i] (wag h');obtain⟨q,hq⟩:=zX (p a[i] b[i]);rw[hq]at hc;simp only[ZE,seval]at hc;simp only[ZE,seval,zaw h,zaa h,zai h,zaa h',zai h',hw,zN,waa];refine EFn.p ?_;simp only[ZE,seval,zN];refine zar.i hc ?_;cases q with
   | true=>
    simp only[ZE,seval,zN,hw];refine⟨h,fun j h1 h2 hj=> ?_⟩;rcases Nat.lt_succ_iff_lt_or_eq.1 hj with hj | rfl
    ·exact hI j h1 h2 hj
    ·exact hq
   | false=>
    have e:=zgt h h' hq;simp only[ZE,seval,zN,e]
  ·have:i=a.length:=by omega
   subst this;have e:=zeC hab (fun i h1 h2=>hI i h1 h2 h1);simp only[ZE,seval,zaI h,zN,e]
 ·have h0:((a.length:Int) !=(b.length:Int))=true:=by simp; omega
  have e:=zgu (p:=p) hab;simp only[ZE,seval,zN,h0,e,waa]
theorem key_str(x y:Str):decide (x.1=y.1)=decide (x=y):=str_eq x y
theorem equalStr_c(a b:List Str)(hla:a.length<=9223372036854775807):FnP prog 116 [.sl (a.map fun x=>[eS x]),.sl (b.map fun x=>[eS x])] (.d (eB (decide (a=b)))) []:=by
 rw[<-zoc];refine FnP.of_eC (own:=[]) (fun _=>[]) zat func116 rfl call116 ntmps116 (zle rfl) results116 (fun hok=> ?_);by_cases hab:a.length=b.length
 ·have h0:((a.length:Int) !=(b.length:Int))=false:=by simp[hab]
  simp only[ZE,seval,zN,h0,waa];refine za1 (fun _=>[]) zat a.length (fun i=> ∀j (h:j<a.length) (h':j<b.length),j<i->decide (a[j]=b[j])=true) (fun i=>([(0,.d (.sl (a.map fun x=>[eS x]))),(1,.d (.sl (b.map fun x=>[eS x]))),(12,.d (eI a.length)),(13,.d (eI i))],[])) (by intro j _ _ h; omega) (by simp only[ZE,seval,zN,waa]) (by simp only[ZE,seval]) (fun i hi hI=> ?_);rcases waj i a.length with h | h
  ·have hw:=zaq (show i<9223372036854775807 by omega);have h':i<b.length:=by omega
   have key:=key_str a[i] b[i];obtain⟨q,hq⟩:=zX (decide (a[i]=b[i]));rw[hq]at key;simp only[ZE,seval,zaw h,zaa h,zai h,zaa h',zai h',hw,zN,waa,key];refine⟨by kernel_rfl,?_⟩;cases q with
   | true=>
    simp only[ZE,seval];refine⟨h,fun j h1 h2 hj=> ?_⟩;rcases Nat.lt_succ_iff_lt_or_eq.1 hj with hj | rfl
    ·exact hI j h1 h2 hj
    ·exact hq
   | false=>
    have e:=zgt (p:=fun x y:Str=>decide (x=y)) h h' hq;simp only[ZE,seval,e]
  ·have:i=a.length:=by omega
   subst this;have e:=zeC (p:=fun x y:Str=>decide (x=y)) hab (fun i h1 h2=>hI i h1 h2 h1);simp only[ZE,seval,zaI h,zN,e]
 ·have h0:((a.length:Int) !=(b.length:Int))=true:=by simp; omega
  have e:=zgu (p:=fun x y:Str=>decide (x=y)) hab;simp only[ZE,seval,zN,h0,e,waa]
theorem zhX(x y:Num):(x.n==y.n&&decide (x.p=y.p))=decide (x=y):=by
 obtain⟨a,b⟩:=x;obtain⟨c,d⟩:=y;rw[wam]; simp
theorem key_bind(x y:Bind):(decide (x.port=y.port)&&decide (x.chan=y.chan))=decide (x=y):=by
 obtain⟨a,b⟩:=x;obtain⟨c,d⟩:=y;rw[wam]; simp
theorem equalNum_c(a b:List Num)(hla:a.length<=9223372036854775807):FnP prog 117 [.sl (a.map fun x=>zgL x),.sl (b.map fun x=>zgL x)] (.d (eB (decide (a=b)))) []:=by
 rw[<-zoc];refine FnP.of_eC (own:=[]) (fun _=>[]) zat func117 rfl call117 ntmps117 (zle rfl) results117 (fun hok=> ?_);by_cases hab:a.length=b.length
 ·have h0:((a.length:Int) !=(b.length:Int))=false:=by simp[hab]
  simp only[ZE,seval,zN,h0,waa];refine za1 (fun _=>[]) zat a.length (fun i=> ∀j (h:j<a.length) (h':j<b.length),j<i->decide (a[j]=b[j])=true) (fun i=>([(0,.d (.sl (a.map fun x=>zgL x))),(1,.d (.sl (b.map fun x=>zgL x))),(12,.d (eI a.length)),(13,.d (eI i))],[])) (by intro j _ _ h; omega) (by simp only[ZE,seval,zN,waa]) (by simp only[ZE,seval]) (fun i hi hI=> ?_);rcases waj i a.length with h | h
  ·have hw:=zaq (show i<9223372036854775807 by omega);have h':i<b.length:=by omega
   have key:=zhX a[i] b[i];obtain⟨q,hq⟩:=zX (decide (a[i]=b[i]));rw[hq]at key;simp only[ZE,seval,zaw h,zaa h,zai h,zaa h',zai h',hw,zN,waa,key];refine⟨by kernel_rfl,?_⟩;cases q with
   | true=>
    simp only[ZE,seval];refine⟨h,fun j h1 h2 hj=> ?_⟩;rcases Nat.lt_succ_iff_lt_or_eq.1 hj with hj | rfl
    ·exact hI j h1 h2 hj
    ·exact hq
   | false=>
    have e:=zgt (p:=fun x y:Num=>decide (x=y)) h h' hq;simp only[ZE,seval,e]
  ·have:i=a.length:=by omega
   subst this;have e:=zeC (p:=fun x y:Num=>decide (x=y)) hab (fun i h1 h2=>hI i h1 h2 h1);simp only[ZE,seval,zaI h,zN,e]
 ·have h0:((a.length:Int) !=(b.length:Int))=true:=by simp; omega
  have e:=zgu (p:=fun x y:Num=>decide (x=y)) hab;simp only[ZE,seval,zN,h0,e,waa]
theorem equalBind_c(a b:List Bind)(hla:a.length<=9223372036854775807):FnP prog 118 [.sl (a.map fun x=>zjO x),.sl (b.map fun x=>zjO x)] (.d (eB (decide (a=b)))) []:=by
 rw[<-zoc];refine FnP.of_eC (own:=[]) (fun _=>[]) zat func118 rfl call118 ntmps118 (zle rfl) results118 (fun hok=> ?_);by_cases hab:a.length=b.length
 ·have h0:((a.length:Int) !=(b.length:Int))=false:=by simp[hab]
  simp only[ZE,seval,zN,h0,waa];refine za1 (fun _=>[]) zat a.length (fun i=> ∀j (h:j<a.length) (h':j<b.length),j<i->decide (a[j]=b[j])=true) (fun i=>([(0,.d (.sl (a.map fun x=>zjO x))),(1,.d (.sl (b.map fun x=>zjO x))),(12,.d (eI a.length)),(13,.d (eI i))],[])) (by intro j _ _ h; omega) (by simp only[ZE,seval,zN,waa]) (by simp only[ZE,seval]) (fun i hi hI=> ?_);rcases waj i a.length with h | h
  ·have hw:=zaq (show i<9223372036854775807 by omega);have h':i<b.length:=by omega
   have key:=key_bind a[i] b[i];obtain⟨q,hq⟩:=zX (decide (a[i]=b[i]));rw[hq]at key;simp only[ZE,seval,zaw h,zaa h,zai h,zaa h',zai h',hw,zN,waa,key];refine⟨by kernel_rfl,?_⟩;cases q with
   | true=>
    simp only[ZE,seval];refine⟨h,fun j h1 h2 hj=> ?_⟩;rcases Nat.lt_succ_iff_lt_or_eq.1 hj with hj | rfl
    ·exact hI j h1 h2 hj
    ·exact hq
   | false=>
    have e:=zgt (p:=fun x y:Bind=>decide (x=y)) h h' hq;simp only[ZE,seval,e]
  ·have:i=a.length:=by omega
   subst this;have e:=zeC (p:=fun x y:Bind=>decide (x=y)) hab (fun i h1 h2=>hI i h1 h2 h1);simp only[ZE,seval,zaI h,zN,e]
 ·have h0:((a.length:Int) !=(b.length:Int))=true:=by simp; omega
  have e:=zgu (p:=fun x y:Bind=>decide (x=y)) hab;simp only[ZE,seval,zN,h0,e,waa]
theorem eqL_E: ∀a b:List Expr,eqL zil a b=zjF a b
 | [],[]=>by simp[eqL,zjF]
 | [],_::_=>by simp[eqL,zjF]
 | _::_,[]=>by simp[eqL,zjF]
 | x::a,y::b=>by rw[eqL,zjF,eqL_E a b]
theorem eqL_I: ∀a b:List Item,eqL zlG a b=zl1 a b
 | [],[]=>by simp[eqL,zl1]
 | [],_::_=>by simp[eqL,zl1]
 | _::_,[]=>by simp[eqL,zl1]
 | x::a,y::b=>by rw[eqL,zl1,eqL_I a b]
theorem eqL_M: ∀a b:List Module,eqL zm4 a b=zl6 a b
 | [],[]=>by simp[eqL,zl6]
 | [],_::_=>by simp[eqL,zl6]
 | _::_,[]=>by simp[eqL,zl6]
 | x::a,y::b=>by rw[eqL,zl6,eqL_M a b]
theorem expr_lens(e:Expr)(h:D.ok (.agg (zbx e))):e.args.length<=9223372036854775807:=by
 rw[zb6]at h;simp only[D.ok,D.okL]at h;exact(za9 h.2.2.2.2.2.2.1).1
theorem zxE: ∀(n:Nat) (a b:Expr),sz a<n->FnP prog 119 [.agg (zbx a),.agg (zbx b)] (.d (eB (zil a b))) []
 | 0,_,_,h=>by omega
 | n+1,.mk o m k w a,.mk o' m' k' w' a',hn=>by
  refine FnP.of_eC (own:=[]) (fun i=>if i=2001 then [.chn]else []) zat func119 rfl call119 ntmps119 (zle rfl) results119 (fun hok=> ?_);have hla:a.length<=9223372036854775807:=expr_lens (.mk o m k w a) (zaM hok).1;have hs:(a.map sz).sum <n:=by rw[zec]at hn; omega
  have ec:=eqfExpr_c a a' hla 119 zil (fun x hx y hy=>zxE n x y (by have:=zuv hx; omega));rw[eqL_E]at ec;have hS:zil (.mk o m k w a) (.mk o' m' k' w' a')=((o==o'&&decide (m=m')&&decide (k=k')&&decide (w=w'))&&zjF a a'):=by rw[zil]
  rw[hS];have k1:=zhX k k';have k2:=zhX w w';simp only[ZE,seval]at ec;simp only[ZE,seval,zcW,zbm,zgN,zgO,zbl,k1,k2];refine za3.i (fun _=>ec) ?_;simp only[ZE,seval]
theorem sameH_c(m n:Module):FnP prog 61 [.agg (zaC m),.agg (zaC n)] (.d (eB (zug m n))) []:=by
 refine FnP.of_eC (own:=[]) (fun i=>if i=2001 then [.chn]else []) zat func61 rfl call61 ntmps61 (zle rfl) results61 (fun hok=> ?_);have hla:m.params.length<=9223372036854775807:=by
  have:=(zaM hok).1;simp only[zaC,zd5,D.ok,D.okL]at this;exact(za9 this.2.2.1).1
 have ec:=equalStr_c m.params n.params hla;unfold zug;simp only[ZE,seval]at ec;simp only[ZE,seval,zN];refine za3.i (fun _=>ec) ?_;simp only[ZE,seval]
theorem part_key(x y:Item):(x.kind.1==y.kind.1&&decide (x.name=y.name))=decide (zbg x=zbg y):=zxs (zbg x) (zbg y)
theorem tof_c(x:Item):FnP prog 111 [.agg (zaK x)] (.d (.agg (zfX (zbg x)))) []:=by
 refine FnP.of_eC (own:=[]) (fun _=>[]) zat func111 rfl call111 ntmps111 (zle rfl) results111 (fun hok=> ?_);simp only[ZE,seval,zfX,zbg]
theorem key_rule(x y:Rule):(x.kind==y.kind&&decide (x.from'=y.from')&&(x.n==y.n))=decide (x=y):=by
 obtain⟨a,b,c⟩:=x;obtain⟨a',b',c'⟩:=y;rw[wam]; simp[and_assoc]
set_option maxHeartbeats 40000000
theorem sameI_c(x y:Item):FnP prog 63 [.agg (zaK x),.agg (zaK y)] (.d (eB (zlG x y))) []:=by
 refine FnP.of_eC (own:=[]) (fun i=>if i=2001 then [.chn]else if i=2002 then [.chn,.ord ⟨[(0,none),(1,none),(2,none),(3,none),(4,none),(5,none),(6,none),(7,none),(8,none),(9,none),(10,none),(11,none),(12,none),(13,none),(14,none),(15,none),(16,none),(17,none),(18,none),(19,none),(20,none),(21,none),(22,none),(23,none),(24,none),(25,none),(26,none),(27,none),(28,none),(29,none),(30,none),(31,none),(32,none),(33,none),(34,none),(35,none),(36,none),(37,none),(38,none),(39,none),(40,none),(41,none),(42,none),(43,none),(44,none),(45,none),(46,none),(47,none),(48,none),(49,none),(50,none),(51,none),(52,none),(53,none),(54,none),(55,none),(56,none),(57,none)]⟩]else []) zat func63 rfl call63 ntmps63 (zle rfl) results63 (fun hok=> ?_);have hl:x.args.length<=9223372036854775807/\x.ports.length<=9223372036854775807:=by
  have:=(zaM hok).1;simp only[zaK,zgL,zb6,zib,ziG,zel,List.cons_append,List.nil_append,D.ok,D.okL]at this;obtain⟨_,_,_,_,_,_,_,_,_,_,_,_,_,_,_,_,_,_,_,_,_,_,_,_,_,_,_,_,_,_,_,_,_,h1,h2,_⟩:=this;exact⟨(za9 h1).1,(za9 h2).1⟩
 have c1:=tof_c x;have c2:=tof_c y;have c3:=equalNum_c x.args y.args hl.1;have c4:=equalBind_c x.ports y.ports hl.2;have c5:=zxE _ x.a y.a (Nat.lt_succ_self _);have c6:=zxE _ x.b y.b (Nat.lt_succ_self _);have c7:=zxE _ x.c y.c (Nat.lt_succ_self _);have k0:=part_key x y;have k1:=zhX x.width y.width;have k2:=zhX x.depth y.depth;have k3:=zhX x.init y.init;have k4:=key_rule x.rule y.rule;simp only[ZE,seval,zfX,zbg]at c1 c2 c3 c4 c5 c6 c7;simp(maxSteps:=4000000) only[ZE,seval,zN,k1,k2,k3];refine⟨by kernel_rfl,za3.i (fun _=>c1) ?_⟩;simp only[ZE,seval,zN];refine za3.i (fun _=>c2) ?_;simp only[ZE,seval,zN,k0,k4];refine za3.i (fun _=>c3) ?_;simp only[ZE,seval,zN];refine za3.i (fun _=>c4) ?_;simp only[ZE,seval,zN];refine za3.i (fun _=>c5) ?_;simp only[ZE,seval,zN];refine za3.i (fun _=>c6) ?_;simp only[ZE,seval,zN];refine za3.i (fun _=>c7) ?_;simp only[ZE,seval,zN];have k4':(x.rule.kind==y.rule.kind&&(decide (x.rule.from'=y.rule.from')&&x.rule.n==y.rule.n))=decide (x.rule=y.rule):=by
  rw[<-Bool.and_assoc]; exact k4
 rw[k4'];rfl
set_option maxHeartbeats 20000000
def zfN(e:Edit):List D:=eS e.module::(zfX e.part++(eB e.has::(zaK e.to++zaC e.head)))
def dfO(a b:Nat)(l:List Edit):OL:=[(a,.box [.ar b l.length]),(b,.arr 69 43 .flat (l.map zfN))]
theorem zy3(a b:Nat)(l:List Edit)(e:Edit):dfO a b (l++[e])=[(a,.box [.ar b (l.length+1)]),(b,.arr 69 43 .flat (l.map zfN++[zfN e]))]:=by
 unfold dfO;rw[waf,wab]; rfl
theorem dhead_c(l:List Edit)(hl:l.length<=4000000)(m:Module):FnL prog 69 [.bp 0 0,.d (.agg (zaC m))] (dfO 0 1 l) (fun V ol new=>V= .tup []/\ol=dfO 0 40 (l++[zx7 m])/\new=[40]):=by
 refine FnL.of_eC (own:=[]) (fun i=>if i=0 then [.rnm [(0,0),(1,40),(3,3)]]else if i=2003 then [.flt ⟨[(0,none),(1,none),(2,none),(3,none),(4,none),(5,none),(6,none),(7,none),(8,none),(9,some [0]),(10,none),(11,none),(12,some [])]⟩ ⟨[],[]⟩]else []) [0] zat func69 rfl call69 ntmps69 (zle rfl) results69 ?_;have hz:zfN (zx7 m)=eS m.name::(zfX zc7++(eB true::(zaK zaU++zaC {m with items:=[]}))):=rfl;simp only[zy3,hz];simp only[ZE,seval,zN,dfO,zfX,zc7,zaU,zbQ,zbj,emp,zcW,zbm,zgN,zgO,zbl,wac];refine⟨by kernel_rfl,⟨by omega,by omega⟩,by simp,[3],[40],?_⟩;simp only[ZE,seval]
def dfN(d b n:Nat)(name:Str)(q:Nat)(l:List Edit):OL:=dfO d q l++[(b,.box [.bp d 0]),(n,.box [.d (eS name)])]
theorem dset_c(l:List Edit)(hl:l.length<=4000000)(n:Str)(x:Item):FnL prog 120 [.d (.agg (zaK x)),.bp 1 0,.bp 2 0] (dfN 0 1 2 n 4 l) (fun V ol new=>V= .tup []/\ol=dfN 0 1 2 n 40 (l++[zco n x])/\new=[40]):=by
 refine FnL.of_eK 1999 [0] (own:=[]) (fun i=>if i=0 then [.rnm [(0,0),(1,1),(2,2),(3,3),(4,40),(1999,1999)]]else if i=2001 then [.flt ⟨[(0,none),(1,none),(2,none),(3,none),(4,none),(5,none),(6,none),(7,none),(8,none),(9,none),(10,none),(11,some [0]),(12,none),(13,none),(14,some [])]⟩ ⟨[],[]⟩]else []) [1,2] zat func120 rfl call120 ntmps120 (zle rfl) results120 (by simp[dfN,dfO,zyk,AO.noRef,AV.noRefs,AV.noRef]) (fun gs=> ?_);have hz:zfN (zco n x)=eS n::(zfX (zbg x)++(eB true::(zaK x++zaC zdP))):=rfl;have oc:=tof_c x;simp only[ZE,seval,zfX,zbg]at oc;unfold dfN;simp only[zy3,hz];simp only[ZE,seval,zN,dfO,zfX,zc7,zaU,zdP,zbQ,zbj,emp,zcW,zbm,zgN,zgO,zbl,zbg,wac];refine⟨by kernel_rfl,zaz.i oc ?_⟩;simp only[ZE,seval,zN];refine⟨⟨by omega,by omega⟩,by simp,[3,1999],[40],?_⟩;simp only[ZE,seval]
theorem drem_c(l:List Edit)(hl:l.length<=4000000)(n:Str)(x:Item):FnL prog 122 [.d (.agg (zaK x)),.bp 1 0,.bp 2 0] (dfN 0 1 2 n 4 l) (fun V ol new=>V= .tup []/\ol=dfN 0 1 2 n 40 (l++[zyw n x])/\new=[40]):=by
 refine FnL.of_eK 1999 [0] (own:=[]) (fun i=>if i=0 then [.rnm [(0,0),(1,1),(2,2),(3,3),(4,40),(1999,1999)]]else if i=2001 then [.flt ⟨[(0,none),(1,none),(2,none),(3,none),(4,none),(5,none),(6,none),(7,none),(8,none),(9,none),(10,some [0]),(11,none),(12,none),(13,some [])]⟩ ⟨[],[]⟩]else []) [1,2] zat func122 rfl call122 ntmps122 (zle rfl) results122 (by simp[dfN,dfO,zyk,AO.noRef,AV.noRefs,AV.noRef]) (fun gs=> ?_);have hz:zfN (zyw n x)=eS n::(zfX (zbg x)++(eB false::(zaK zaU++zaC zdP))):=rfl;have oc:=tof_c x;simp only[ZE,seval,zfX,zbg]at oc;unfold dfN;simp only[zy3,hz];simp only[ZE,seval,zN,dfO,zfX,zc7,zaU,zdP,zbQ,zbj,emp,zcW,zbm,zgN,zgO,zbl,zbg,wac];refine⟨by kernel_rfl,zaz.i oc ?_⟩;simp only[ZE,seval,zN];refine⟨⟨by omega,by omega⟩,by simp,[3,1999],[40],?_⟩;simp only[ZE,seval]
theorem sameM_c(m n:Module):FnP prog 60 [.agg (zaC m),.agg (zaC n)] (.d (eB (zm4 m n))) []:=by
 refine FnP.of_eC (own:=[]) (fun i=>if i=2001 then [.chn]else []) zat func60 rfl call60 ntmps60 (zle rfl) results60 (fun hok=> ?_);have hl:m.items.length<=9223372036854775807:=by
  have:=(zaM hok).1;simp only[zaC,zbR,D.ok,D.okL]at this;exact(za9 this.2.2.2.1).1
 have c1:=sameH_c m n;have c2:=eqfItem_c m.items n.items hl 63 zlG (fun x _ y _=>sameI_c x y);rw[eqL_I]at c2;simp only[zaC,ZE,seval]at c1 c2;simp only[ZE,seval,zN];refine EFn.p ?_;simp only[ZE,seval,zN];refine zar.i c1 ?_;simp only[ZE,seval,zN];refine za3.i (fun _=>c2) ?_;simp only[ZE,seval,zN,zm4]
theorem zh6(f g:List Module):FnP prog 19 [.agg [zax f],.agg [zax g]] (.d (eB (zl6 f g))) []:=by
 refine FnP.of_eC (own:=[]) (fun _=>[]) zat func19 rfl call19 ntmps19 (zle rfl) results19 (fun hok=> ?_);have hl:f.length<=9223372036854775807:=by
  have:=(zaM hok).1;simp only[D.ok,D.okL]at this;exact(za9 this.1).1
 have c2:=eqfModule_c f g hl 60 zm4 (fun x _ y _=>sameM_c x y);rw[eqL_M]at c2;simp only[ZE,seval,zN];refine EFn.p ?_;simp only[ZE,seval,zN];refine zar.i c2 ?_;simp only[ZE,seval,zN]
end Go.Proofs.YtbenhdgpogiadaaGreat
