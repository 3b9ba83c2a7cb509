/- Contracts and laws. Conditions: those of each. -/
import Derived.Test.YtplfjjgkbnolhaaGreatDoorK1
import Derived.Test.YtplfjjgkbnolhaaGreatDoorGCg
import Derived.Lib.AtoiTie
import Derived.Lib.ItoaLen
set_option linter.unusedSimpArgs false
set_option linter.unusedVariables false
open List renaming length_map -> waa, length_append -> wab, map_nil -> wac, length_cons -> wad, map_cons -> wae, length_nil -> waf, mem_map -> wag, append_assoc -> wah, nil_append -> wai, cons_append -> waj, getElem?_eq_getElem -> wak
open Int renaming toNat_natCast -> wal
open Nat renaming le_trans -> wam, le_refl -> wan
open Bool renaming and_eq_true -> wao, eq_iff_iff -> wap
namespace Go.Proofs.YtplfjjgkbnolhaaGreatDoor
open Go.Aw
open _root_.Go.Proofs.Tryz
set_option maxRecDepth 100000
set_option maxHeartbeats 1000000
abbrev PW:=Bts×Bool
def wS(s:Bts)(w:PW):PW:=(w.1++s,w.2)
def wOk(b:Bool)(w:PW):PW:=(w.1,w.2&&b)
def zGv(s:Bts):Nat:=if zb0 s 0≠0/\zA4 s 0=s.size then zb0 s 0 else if zB8 s 0≠0/\zB8 s 0=s.size then 3 else 0
def zAN(s:Bts):Bool:=decide (zGv s=1)&& !zFM s
def zAu(s:Bts)(w:PW):PW:=wS s (wOk (zAN s) w)
def zCr(n:Int)(w:PW):PW:=wS (zB2 n) (wOk (decide (n>=0)&&decide (n<=1000000)) w)
def zBl(x:Num)(w:PW):PW:=
 if x.p=e0 then zCr x.n w
 else if x.n>0 then zCr x.n (wS (⟨#[32,43,32]⟩:ByteArray) (zAu x.p w))
 else if x.n<0 then zCr (max (IntKind.i64.wrap (-x.n)) 0) (wS (⟨#[32,45,32]⟩:ByteArray) (wOk (decide (x.n>= -1000000)) (zAu x.p w)))
 else zAu x.p w
def zCW(x:Num):Bool:=decide (x.n=0)&&decide (x.p=e0)
def zCE(e:Expr):Bool:=decide (e.op=0)&&decide (e.name=e0)&&zCW e.k&&zCW e.w&&decide (e.args.length=0)
def zAS(op:Int):Bts:=match opL.find? fun p=>decide ((p.2:Int)=op)with | some p=>p.1 | none=>e0
def zBi(op:Int):Int:=
 if op=1\/op=14 then 0 else if op=2\/op=12\/op=13\/op=15 then 1 else if op=10 then 3 else if zAS op≠e0 then 2 else-1
def argW(rec:Expr->PW->PW)(e:Expr)(s:Bts)(i:Nat)(w:PW):PW:=rec (e.args.getD i x0) (wS s w)
def opW(rec:Expr->PW->PW)(e:Expr)(w:PW):PW:=
 if e.op=1 then wS (⟨#[93]⟩:ByteArray) (zBl e.w (wS (⟨#[32,58,32]⟩:ByteArray) (zBl e.k (wS (⟨#[91]⟩:ByteArray) w))))
 else if e.op=14 then zAu e.name w
 else if e.op=15 then wS (⟨#[93]⟩:ByteArray) (argW rec e (⟨#[91]⟩:ByteArray) 0 (zAu e.name w))
 else if e.op=2 then argW rec e (⟨#[126]⟩:ByteArray) 0 w
 else if e.op=10 then wS (⟨#[41]⟩:ByteArray) (argW rec e (⟨#[32,58,32]⟩:ByteArray) 2 (argW rec e (⟨#[32,63,32]⟩:ByteArray) 1 (argW rec e (⟨#[40]⟩:ByteArray) 0 w)))
 else if e.op=12 then wS (⟨#[125]⟩:ByteArray) (zBl e.w (wS (⟨#[32,58,32]⟩:ByteArray) (zBl e.k (wS (⟨#[32,64,32]⟩:ByteArray) (argW rec e (⟨#[123]⟩:ByteArray) 0 w)))))
 else if e.op=13 then wS (⟨#[125]⟩:ByteArray) (zBl e.w (wS (⟨#[32,58,32]⟩:ByteArray) (argW rec e (⟨#[123]⟩:ByteArray) 0 w)))
 else wS (⟨#[41]⟩:ByteArray) (argW rec e ((⟨#[32]⟩:ByteArray)++zAS e.op++(⟨#[32]⟩:ByteArray)) 1 (argW rec e (⟨#[40]⟩:ByteArray) 0 w))
def zCi(e:Expr):Bool:=
 (decide (e.name=e0)||decide (e.op=14)||decide (e.op=15))&&(zCW e.k||decide (e.op=1)||decide (e.op=12))&&(zCW e.w||decide (e.op=1)||decide (e.op=12)||decide (e.op=13))
def zA6:Nat->Expr->PW->PW
 | 0,_,w=>(w.1,false)
 | d+1,e,w=>if (e.args.length:Int)≠zBi e.op\/w.2=false then(w.1,false)else opW (zA6 d) e (wOk (zCi e) w)
def zEn(r:Rule)(w:PW):PW:=
 let v:=wOk ((decide (r.from'=e0)||decide (r.kind>=2))&&(decide (r.n=0)||decide (r.kind=3))) w
 if r.kind=0 then wS (⟨#[105,110,105,116]⟩:ByteArray) v
 else if r.kind=1 then wS (⟨#[107,101,101,112]⟩:ByteArray) v
 else if r.kind=2 then zAu r.from' (wS (⟨#[99,111,112,121,32]⟩:ByteArray) v)
 else if r.kind=3 then zCr r.n (wS (⟨#[32]⟩:ByteArray) (zAu r.from' (wS (⟨#[97,100,100,32]⟩:ByteArray) v)))
 else wOk false v
def wLs{α:Type}(one:α->PW->PW)(z:α)(l:List α):Nat->PW->PW
 | 0,w=>w
 | i+1,w=>one (l.getD i z) (if 0<i then wS (⟨#[44,32]⟩:ByteArray) (wLs one z l i w)else wLs one z l i w)
def zCv{α:Type}(one:α->PW->PW)(z:α)(l:List α)(w:PW):PW:=wS (⟨#[41]⟩:ByteArray) (wLs one z l l.length (wS (⟨#[40]⟩:ByteArray) w))
def zDE(b:Bind)(w:PW):PW:=zAu b.chan (wS (⟨#[32,61,32]⟩:ByteArray) (zAu b.port w))
def kwL:List Bts:=[(⟨#[105,110]⟩:ByteArray),(⟨#[111,117,116]⟩:ByteArray),(⟨#[99,104,97,110]⟩:ByteArray),(⟨#[114,101,103]⟩:ByteArray),(⟨#[119,105,114,101]⟩:ByteArray),(⟨#[109,101,109]⟩:ByteArray),(⟨#[116,97,107,101]⟩:ByteArray),(⟨#[112,117,116]⟩:ByteArray),(⟨#[105,110,115,116]⟩:ByteArray)]
def zBH(s:Bts)(e:Expr)(w:PW):PW:=zA6 8 e (wS s w)
def b0:Bind:=⟨e0,e0⟩
def zDm(x:Item):Bool:=
 (zCW x.width||decide (x.kind<=6))&&(zCW x.depth||decide (x.kind=3)||decide (x.kind=6))&&(zCW x.init||decide (x.kind=4))&&(zCE x.a||decide (x.kind>=4)&&decide (x.kind≠9))&&
 (zCE x.b||decide (x.kind=6)||decide (x.kind=8))&&(zCE x.c||decide (x.kind=6))&&(decide (x.rule=r0)||decide (x.kind=4)||decide (x.kind=6))&&
 ((decide (x.of=e0)&&decide (x.args.length=0)&&decide (x.ports.length=0))||decide (x.kind=9))
def zGt(x:Item)(w:PW):PW:=
 if x.kind=4 then zEn x.rule (wS (⟨#[32]⟩:ByteArray) (zBH (⟨#[32,45,62,32]⟩:ByteArray) x.a (zBl x.init (wS (⟨#[32,61,32]⟩:ByteArray) w))))
 else if x.kind=5 then zBH (⟨#[32,61,32]⟩:ByteArray) x.a w
 else if x.kind=6 then zEn x.rule (wS (⟨#[32]⟩:ByteArray) (zBH (⟨#[32,61,32]⟩:ByteArray) x.c (zBH (⟨#[32,97,116,32]⟩:ByteArray) x.b (zBH (⟨#[32,105,102,32]⟩:ByteArray) x.a w))))
 else if x.kind=7 then zBH (⟨#[32,105,102,32]⟩:ByteArray) x.a w
 else if x.kind=8 then zBH (⟨#[32,61,32]⟩:ByteArray) x.b (zBH (⟨#[32,105,102,32]⟩:ByteArray) x.a w)
 else if x.kind=9 then zCv zDE b0 x.ports (wS (⟨#[32]⟩:ByteArray) (zCv zBl n0 x.args (zAu x.of (wS (⟨#[58,32]⟩:ByteArray) w))))
 else w
def zCB(x:Item)(w:PW):PW:=
 if x.kind<1\/x.kind>9 then(w.1,false)else
 let w1:=zAu x.name (wS (kwL.getD (x.kind-1).toNat e0++(⟨#[32]⟩:ByteArray)) (wOk (zDm x) w))
 let w2:=if x.kind<=6 then zBl x.width (wS (⟨#[58,32]⟩:ByteArray) w1)else w1
 let w3:=if x.kind=3\/x.kind=6 then wS (⟨#[93]⟩:ByteArray) (zBl x.depth (wS (⟨#[32,91]⟩:ByteArray) w2))else w2
 zGt x w3
def zDK(l:List Item):Nat->PW->PW
 | 0,w=>w
 | i+1,w=>wS (⟨#[59,10]⟩:ByteArray) (zCB (l.getD i (zBg 0)) (wS (⟨#[32,32]⟩:ByteArray) (zDK l i w)))
def zD4(m:Module)(w:PW):PW:=
 wS (⟨#[125,10]⟩:ByteArray) (zDK m.items m.items.length (wS (⟨#[32,123,10]⟩:ByteArray) (zAu m.clock (wS (⟨#[32,64,32]⟩:ByteArray) (zCv zAu e0 m.params (zAu m.name (wS (⟨#[109,111,100,117,108,101,32]⟩:ByteArray) w)))))))
def m0:Module:=⟨e0,e0,[],[]⟩
def zDF(l:List Module):Nat->PW->PW
 | 0,w=>w
 | i+1,w=>zD4 (l.getD i m0) (zDF l i w)
def zCl(l:List Module):Bts×Nat:=
 let w:=zDF l l.length (e0,true)
 if w.2=false\/w.1.size>8000 then(e0,90)else(w.1,0)
theorem zAw(s:Bts)(w:PW):w.1.size<=(wS s w).1.size :=by simp[wS,ByteArray.size_append]
theorem zEj(b:Bool)(w:PW):w.1.size<=(wOk b w).1.size :=wan _
theorem zAy(s:Bts)(w:PW):w.1.size<=(zAu s w).1.size :=zAw _ _
theorem zBS(n:Int)(w:PW):w.1.size<=(zCr n w).1.size :=zAw _ _
theorem zAU(x:Num)(w:PW):w.1.size<=(zBl x w).1.size :=by
 unfold zBl;split
 ·exact zBS _ _
 split
 ·exact wam (zAy _ _) (wam (zAw _ _) (zBS _ _))
 split
 ·exact wam (zAy _ _) (wam (zEj _ _) (wam (zAw _ _) (zBS _ _)))
 ·exact zAy _ _
theorem size_opW{rec:Expr->PW->PW}(hr: ∀e w,w.1.size<=(rec e w).1.size)(e:Expr)(w:PW):w.1.size<=(opW rec e w).1.size :=by
 have ha: ∀s i w,w.1.size<=(argW rec e s i w).1.size :=fun s i w=>wam (zAw _ _) (hr _ _);unfold opW
 repeat' split
 all_goals
  repeat' first
   | with_reducible exact wan _
   | with_reducible refine wam ?_ (zEj _ _)
   | with_reducible refine wam ?_ (zAw _ _)
   | with_reducible refine wam ?_ (zAU _ _)
   | with_reducible refine wam ?_ (zAy _ _)
   | with_reducible refine wam ?_ (ha _ _ _)
theorem zBp: ∀(d:Nat) (e:Expr) (w:PW),w.1.size<=(zA6 d e w).1.size
 | 0,_,_=>wan _
 | d+1,e,w=>by
  unfold zA6;split
  ·exact wan _
  ·exact wam (zEj _ _) (size_opW (zBp d) _ _)
theorem zF3(r:Rule)(w:PW):w.1.size<=(zEn r w).1.size :=by
 unfold zEn;simp only[]
 repeat' split
 all_goals
  repeat' first
   | with_reducible refine wam ?_ (zAw _ _)
   | with_reducible refine wam ?_ (zBS _ _)
   | with_reducible refine wam ?_ (zAy _ _)
   | with_reducible exact wan _
   | with_reducible refine wam ?_ (zEj _ _)
theorem zIG{α:Type}{one:α->PW->PW}(ho: ∀x w,w.1.size<=(one x w).1.size)(z:α)(l:List α): ∀(i:Nat) (w:PW),w.1.size<=(wLs one z l i w).1.size
 | 0,_=>wan _
 | i+1,w=>by
  unfold wLs;split
  ·exact wam (zIG ho z l i w) (wam (zAw _ _) (ho _ _))
  ·exact wam (zIG ho z l i w) (ho _ _)
theorem zCD{α:Type}{one:α->PW->PW}(ho: ∀x w,w.1.size<=(one x w).1.size)(z:α)(l:List α)(w:PW):w.1.size<=(zCv one z l w).1.size :=
 wam (zAw _ _) (wam (zIG ho z l _ _) (zAw _ _))
theorem zEi(b:Bind)(w:PW):w.1.size<=(zDE b w).1.size :=wam (zAy _ _) (wam (zAw _ _) (zAy _ _))
theorem zBV(s:Bts)(e:Expr)(w:PW):w.1.size<=(zBH s e w).1.size :=wam (zAw _ _) (zBp _ _ _)
theorem le4{a b c d e:Nat}(h1:a<=b)(h2:b<=c)(h3:c<=d)(h4:d<=e):a<=e:=by omega
theorem size_body4(x:Item)(w:PW):w.1.size<=(zEn x.rule (wS (⟨#[32]⟩:ByteArray) (zBH (⟨#[32,45,62,32]⟩:ByteArray) x.a (zBl x.init (wS (⟨#[32,61,32]⟩:ByteArray) w))))).1.size :=
 wam (le4 (zAw _ w) (zAU _ _) (zBV _ _ _) (zAw _ _)) (zF3 _ _)
theorem size_body6(x:Item)(w:PW):w.1.size<=(zEn x.rule (wS (⟨#[32]⟩:ByteArray) (zBH (⟨#[32,61,32]⟩:ByteArray) x.c (zBH (⟨#[32,97,116,32]⟩:ByteArray) x.b (zBH (⟨#[32,105,102,32]⟩:ByteArray) x.a w))))).1.size :=
 wam (le4 (zBV _ _ w) (zBV _ _ _) (zBV _ _ _) (zAw _ _)) (zF3 _ _)
theorem size_body9(x:Item)(w:PW):w.1.size<=(zCv zDE b0 x.ports (wS (⟨#[32]⟩:ByteArray) (zCv zBl n0 x.args (zAu x.of (wS (⟨#[58,32]⟩:ByteArray) w))))).1.size :=
 wam (le4 (zAw _ w) (zAy _ _) (zCD zAU _ _ _) (zAw _ _)) (zCD zEi _ _ _)
theorem size_bodyW(x:Item)(w:PW):w.1.size<=(zGt x w).1.size :=by
 unfold zGt;split
 ·exact size_body4 x w
 split
 ·exact zBV _ _ _
 split
 ·exact size_body6 x w
 split
 ·exact zBV _ _ _
 split
 ·exact wam (zBV _ _ w) (zBV _ _ _)
 split
 ·exact size_body9 x w
 ·exact wan _
set_option maxHeartbeats 4000000
theorem kind_g(Z:GP)(s:Bts)(hs:s.size<=1000000):
  FnL prog 186 [.d (.lit (.string s))] [(7777777,Z.o)] (fun V ol new=>V= .d (eI (zGv s))/\ol=[(7777777,Z.o)]/\new=[]):=by
 refine FnL.srt (FnL.of_eH 1999 [] (own:=[]) (fun i=>if i=4 then [.adB 13 258 1000 49 3]else []) [] zat func186 rfl call186 ntmps186 (zle rfl) results186 (zCw Z _ (by simp[AV.noRefs,AV.noRef])) (fun gs=> ?_));have hc2:=word_g Z s 0 [] (by omega) (Nat.zero_le _) (by simp);have hc3:=sign_g Z s 0 [] (by omega) (Nat.zero_le _) (by simp);simp only[ZE,seval,Int.natCast_zero,waf,wac]at hc2;simp only[ZE,seval,Int.natCast_zero,waf,wac]at hc3;have cc:=zE1;simp only[ZE,seval];refine za1 (fun i=>if i=4 then [.adB 13 258 1000 49 3]else []) zat 2 (fun j=>(1<=j-> ¬(zb0 s 0≠0/\zA4 s 0=s.size))/\(2<=j-> ¬(zB8 s 0≠0/\zB8 s 0=s.size))) (fun i=>([(0,.d (.lit (.string s))),(6,.d (.agg [.clo (.func 103) [] [],.clo (.func 104) [] []])),(7,.d (eI i))],[(1999,.gh [] gs),(7777777,Z.o)])) (by omega) ?_ ?_ (fun i hi hI=> ?_)
 ·simp only[ZE,seval]
 ·simp only[ZE,seval,GZ]
 rcases(show i=0\/i=1\/i=2 by omega)with rfl | rfl | rfl
 ·simp only[ZE,seval,wal,GZ];refine EFn.p ?_;simp only[ZE,seval];refine zar.i (cc) ?_;simp only[ZE,seval,GZ,scO,tkO,zAg,zAm,zAn,zAo,zAf,zAh,zAe,tZ185,<-zS.eq_1,zHX,zF7,zDC,zBo,zFZ,zFY,zF0,zDk,sc_setD,sc_getD];refine EFn.gV [(1,13),(2,1000),(7777777,7777777)] hc2 ?_ ?_
  ·simp only[ZE,seval,GZ,scO,tkO,zAg,zAm,zAn,zAo,zAf,zAh,zAe]
  rintro V ol new ⟨rfl,rfl,rfl⟩;have w1:IntKind.i64.wrap 1=1:=rfl;by_cases hw:zb0 s 0=0
  ·have c1:decide (zb0 s 0≠0)=false:=by simp[hw]
   have c2:zHu Z s 0 []=scO Z s 0 []:=by unfold zHu; rw[if_pos hw]
   rw[c1,c2];simp only[ZE,seval,GZ,scO,tkO,zAg,zAm,zAn,zAo,zAf,zAh,zAe,w1,hw,not_true,false_and,not_false_eq_true]
  ·have c1:decide (zb0 s 0≠0)=true:=by simp[hw]
   have c2:zHu Z s 0 []=scO Z s (zA4 s 0) [(zb0 s 0,s.extract 0 (zA4 s 0),0)]:=by unfold zHu; rw[if_neg hw,Nat.zero_add]; rfl
   rw[c1,c2];by_cases hz:zA4 s 0=s.size
   ·have c3:((zA4 s 0:Int)==(s.size:Int))=true:=(by simp[hz]);have hK:zGv s=zb0 s 0:=(by unfold zGv; rw[if_pos ⟨hw,hz⟩]);simp only[ZE,seval,GZ,scO,tkO,zAg,zAm,zAn,zAo,zAf,zAh,zAe,c3,zJb.eq_1,wae,wac,hK];refine⟨[13,1000,1999],[],?_⟩;simp only[ZE,seval,zHH,zht,AV.core]
   ·have c3:((zA4 s 0:Int)==(s.size:Int))=false:=(by simp; omega);simp only[ZE,seval,GZ,scO,tkO,zAg,zAm,zAn,zAo,zAf,zAh,zAe,c3,w1,hz,and_false,not_false_eq_true]
 ·have hI1:=hI.1 (by omega);have w2:IntKind.i64.wrap 2=2:=rfl;simp only[ZE,seval,wal,GZ];refine EFn.p ?_;simp only[ZE,seval];refine zar.i (cc) ?_;simp only[ZE,seval,GZ,scO,tkO,zAg,zAm,zAn,zAo,zAf,zAh,zAe,tZ185,<-zS.eq_1,zHX,zF7,zDC,zBo,zFZ,zFY,zF0,zDk,sc_setD,sc_getD];refine EFn.gV [(1,13),(2,1000),(7777777,7777777)] hc3 ?_ ?_
  ·simp only[ZE,seval,GZ,scO,tkO,zAg,zAm,zAn,zAo,zAf,zAh,zAe]
  rintro V ol new ⟨rfl,rfl,rfl⟩;by_cases hw:zB8 s 0=0
  ·have c1:decide (zB8 s 0≠0)=false:=by simp[hw]
   have c2:zHz Z s 0 []=scO Z s 0 []:=by unfold zHz; rw[if_pos hw]
   rw[c1,c2];simp only[ZE,seval,GZ,scO,tkO,zAg,zAm,zAn,zAo,zAf,zAh,zAe,w2,hw,not_true,false_and,not_false_eq_true];simpa using hI1
  ·have c1:decide (zB8 s 0≠0)=true:=by simp[hw]
   have c2:zHz Z s 0 []=scO Z s (zB8 s 0) [(3,s.extract 0 (zB8 s 0),0)]:=by unfold zHz; rw[if_neg hw,Nat.zero_add]; rfl
   rw[c1,c2];by_cases hz:zB8 s 0=s.size
   ·have c3:((zB8 s 0:Int)==(s.size:Int))=true:=(by simp[hz]);have hK:zGv s=3:=(by unfold zGv; rw[if_neg hI1,if_pos ⟨hw,hz⟩]);simp only[ZE,seval,GZ,scO,tkO,zAg,zAm,zAn,zAo,zAf,zAh,zAe,c3,zJb.eq_1,wae,wac,hK];refine⟨[13,1000,1999],[],?_⟩;simp only[ZE,seval,zHH,zht,AV.core]
   ·have c3:((zB8 s 0:Int)==(s.size:Int))=false:=(by simp; omega);simp only[ZE,seval,GZ,scO,tkO,zAg,zAm,zAn,zAo,zAf,zAh,zAe,c3,w2,hz,and_false,not_false_eq_true];simpa using hI1
 ·have hI1:=hI.1 (by omega);have hI2:=hI.2 (by omega);have hK:zGv s=0:=by unfold zGv; rw[if_neg hI1,if_neg hI2]
  simp only[ZE,seval,GZ,scO,tkO,zAg,zAm,zAn,zAo,zAf,zAh,zAe,hK];refine⟨[1999],[],?_⟩;simp only[ZE,seval,zHH,zht,AV.core]
theorem isName_g(Z:GP)(hZ:Z.Ok)(s:Bts)(hs:s.size<=1000000):
  FnL prog 131 [.d (.lit (.string s))] [(7777777,Z.o)] (fun V ol new=>V= .d (eB (zAN s))/\ol=[(7777777,Z.o)]/\new=[]):=by
 refine FnL.srt (FnL.of_eH 1999 [] (own:=[]) chL [] zat func131 rfl call131 ntmps131 (zle rfl) results131 (zCw Z _ (by simp[AV.noRefs,AV.noRef])) (fun gs=> ?_));have hk:=kind_g Z s hs;have hr:=hZ.res s;have ks:zd3 prog 9 (.lit (.string s)):=zB5 hs;have kr:(∀y∈Z.kR,zd3 prog 9 y)=True:=eq_true hZ.rk;have hF:zAN s=(decide (zGv s=1)&& !zFM s):=rfl;obtain⟨k,hkk⟩:=zX (zGv s);obtain⟨r,hrr⟩:=zX (zFM s);rw[hkk]at hk hF;rw[hrr]at hr hF;simp only[ZE,seval,KE]at hk;by_cases h1:k=1
 ·subst h1;have e1:(((1:Nat):Int)==1)=true:=rfl;cases r with
  | true=>
   rw[if_pos rfl]at hr;simp only[ZE,seval,KE];refine EFn.gV [(7777777,7777777)] hk ?_ ?_
   ·simp only[ZE,seval,GZ]
   rintro V ol new ⟨rfl,rfl,rfl⟩;simp only[ZE,seval,GZ,e1,hr,kr,ks,zal,Option.getD_some];refine⟨[1999],[],?_⟩;simp only[ZE,seval,zHH,zht,AV.core,hF]
  | false=>
   rw[if_neg (by decide)]at hr;simp only[ZE,seval,KE];refine EFn.gV [(7777777,7777777)] hk ?_ ?_
   ·simp only[ZE,seval,GZ]
   rintro V ol new ⟨rfl,rfl,rfl⟩;simp only[ZE,seval,GZ,e1,hr,kr,ks,zal,Option.getD_none];refine⟨[1999],[],?_⟩;simp only[ZE,seval,zHH,zht,AV.core,hF]
 ·have e1:((k:Int)==1)=false:=by simp; omega
  cases r
  all_goals
   first | rw[if_pos rfl]at hr | rw[if_neg (by decide)]at hr
   simp only[ZE,seval,KE];refine EFn.gV [(7777777,7777777)] hk ?_ ?_
   ·simp only[ZE,seval,GZ]
   rintro V ol new ⟨rfl,rfl,rfl⟩;simp only[ZE,seval,GZ,e1,hr,kr,ks,zal,Option.getD_some,Option.getD_none];refine⟨[1999],[],?_⟩;simp only[ZE,seval,zHH,zht,AV.core,hF]
   try simp[h1]
theorem copy_w1(x0:AV)(hx0:x0= .d (.lit (.pointer none))\/x0= .ep 0 1 0 0)(tx:List (List D))(ok:Bool)(s:ByteArray)(hl:tx.length+s.size<=140737488355328):
  FnL prog 87 [.ep 0 1 0 0,.d (.lit (.string s))] [(0,prO x0 tx.length (.d (eB ok))),(5,txO tx)] (fun V ol new=>V= .tup [.d (eI s.size),.d (.lit .nilIface)]/\ol=[(0,prO (.ep 0 1 0 0) (tx.length+s.size) (.d (eB ok))),(5,txO (tx++zAr s))]/\new=[]):=by
 refine FnL.srt (FnL.of_eH 1999 [.ar 0 1,.ar 5 tx.length] (own:=[]) (fun _=>[]) [] zat func87 rfl call87 ntmps87 (zle rfl) results87 (zHd x0 hx0 tx (eB ok) _ (by simp[AV.noRefs,AV.noRef])) (fun gs=> ?_));have hc:=copy_cl x0 hx0 tx (.d (eB ok));simp only[ZE,seval,prO,txO];refine EFn.gV [(0,0),(5,5)] hc ?_ ?_
 ·rcases hx0 with rfl | rfl
  ·simp only[ZE,seval,prO,txO]
  ·simp only[ZE,seval,prO,txO]
 rintro V ol new ⟨rfl,rfl,rfl⟩;simp only[ZE,seval,prO,txO,zHH,zht,AV.core];refine⟨by omega,by rw[wab,zAd],[1999],[],?_⟩;simp only[ZE,seval,zHH,zht,AV.core]
theorem zHn(a b:Bts):zAr (a++b)=zAr a++zAr b:=by
 unfold zAr;rw[ByteArray.data_append,Array.toList_append,List.map_append]
def pwO(x:AV)(w:PW):AO:=.arr 161 3 (.deep [] [(0,x),(1,.ar 905 w.1.size),(2,.d (eB w.2))]) [[.lit undef,.lit undef,.lit undef]]
def pwL(Z:GP)(w:PW):OL:=[(900,pwO (.ep 900 1 0 0) w),(905,txO (zAr w.1)),(7777777,Z.o)]
set_option linter.defProp false
def zPW:=And.intro GZ (And.intro @pwL.eq_1 (And.intro @pwO.eq_1 @txO.eq_1))
def LIM:Nat:=140737488355328
theorem zDA(Z:GP)(w:PW)(args:List AV)(ha:AV.noRefs [1999] args):
  (zyk 1999 (pwL Z w)/\AV.noRefs [1999] args)/\zCV (om (pwL Z w)) [.ar 900 1,.ar 905 w.1.size]/\AV.noRefs [1999] [.ar 900 1,.ar 905 w.1.size]:=by
 simp[pwL,pwO,txO,GZ,zyk,AO.noRef,AV.noRefs,AV.noRef,zCV,om,ha,zAd]
def WCon(Z:GP)(f:Nat)(args:List AV)(w:PW)(w':PW)(V0:AV):Prop:=
 FnL prog f (.ep 900 1 0 0::args) (pwL Z w) (fun V ol new=>V=V0/\ol=pwL Z w'/\new=[])
def WrC(s:Bts)(w:PW):Prop:=FnL prog 87 [.ep 0 1 0 0,.d (.lit (.string s))] [(0,prO (.ep 0 1 0 0) w.1.size (.d (eB w.2))),(5,txO (zAr w.1))] (fun V ol new=>V= .tup [.d (eI s.size),.d (.lit .nilIface)]/\ol=[(0,prO (.ep 0 1 0 0) (wS s w).1.size (.d (eB w.2))),(5,txO (zAr (wS s w).1))]/\new=[])
theorem zAv(s:Bts)(w:PW)(h:(wS s w).1.size <=LIM):WrC s w:=by
 have hz:(wS s w).1.size =w.1.size+s.size:=by simp[wS,ByteArray.size_append]
 have:=copy_w1 (.ep 0 1 0 0) (.inr rfl) (zAr w.1) w.2 s (by rw[zAd]; rw[hz]at h; exact h);rw[zAd]at this;unfold WrC;rw[hz];rw[show(wS s w).1 =w.1++s from rfl,zHn];exact this
theorem zBP(Z:GP)(hZ:Z.Ok)(s:Bts)(hs:s.size<=1000000)(w:PW)(h:(zAu s w).1.size <=LIM):WCon Z 88 [.d (.lit (.string s))] w (zAu s w) (.tup []):=by
 refine FnL.srt (FnL.of_eH 1999 [.ar 900 1,.ar 905 w.1.size] (own:=[]) (fun _=>[]) [] zat func88 rfl call88 ntmps88 (zle rfl) results88 (zDA Z w _ (by simp[AV.noRefs,AV.noRef])) (fun gs=> ?_));have hn:=isName_g Z hZ s hs;obtain⟨t,ok⟩:=w;have hW:zAu s (t,ok)=wS s (t,ok&&zAN s):=rfl;rw[hW]at h ⊢;obtain⟨nm,hnm⟩:=zX (zAN s);rw[hnm]at hn h ⊢;simp only[ZE,seval,KE]at hn;cases ok with
 | true=>
  rw[Bool.true_and]at h ⊢;simp only[ZE,seval,KE,zPW];refine EFn.gV [(7777777,7777777)] hn ?_ ?_
  ·simp only[ZE,seval,zPW]
  rintro V ol new ⟨rfl,rfl,rfl⟩;simp only[ZE,seval,KE,zPW];refine EFn.gV [(0,900),(5,905)] (zAv (s) ((t,nm)) h) ?_ ?_
  ·simp only[ZE,seval,prO,KE,zPW]
  rintro V ol new ⟨rfl,rfl,rfl⟩;simp only[ZE,seval,prO,KE,zPW];refine⟨[1999],[],?_⟩;simp only[ZE,seval,zHH,zht,AV.core,zPW,prO];exact⟨rfl,(zAd _).symm⟩
 | false=>
  rw[Bool.false_and]at h ⊢;simp only[ZE,seval,KE,zPW];refine EFn.gV [(0,900),(5,905)] (zAv (s) ((t,false)) h) ?_ ?_
  ·simp only[ZE,seval,prO,KE,zPW]
  rintro V ol new ⟨rfl,rfl,rfl⟩;simp only[ZE,seval,prO,KE,zPW];refine⟨[1999],[],?_⟩;simp only[ZE,seval,zHH,zht,AV.core,zPW,prO];exact⟨rfl,(zAd _).symm⟩
theorem zGM(Z:GP)(n:Int)(h0: -9223372036854775808<=n)(h1:n<=9223372036854775807)(w:PW)(h:(zCr n w).1.size <=LIM):WCon Z 187 [.d (eI n)] w (zCr n w) (.tup []):=by
 refine FnL.srt (FnL.of_eH 1999 [.ar 900 1,.ar 905 w.1.size] (own:=[]) (fun i=>if i=2001 then [.flt ⟨[(0,none),(1,none),(2,none),(3,none),(4,some [0,1,2]),(5,some [])]⟩ ⟨[],[]⟩]else chL i) [] zat func187 rfl call187 ntmps187 (zle rfl) results187 (zDA Z w _ (by simp[AV.noRefs,AV.noRef])) (fun gs=> ?_));have hi:=itoa_c Z n h0 h1;obtain⟨t,ok⟩:=w;have hW:zCr n (t,ok)=wS (zB2 n) (t,ok&&(decide (n>=0)&&decide (n<=1000000))):=rfl;rw[hW]at h ⊢;obtain⟨a1,e1⟩: ∃a,decide (n>=0)=a:=⟨_,rfl⟩;obtain⟨a2,e2⟩: ∃a,decide (n<=1000000)=a:=⟨_,rfl⟩;rw[e1,e2]at h ⊢;cases ok <;> cases a1 <;> cases a2
 all_goals
  simp only[Bool.and_self,Bool.and_false,Bool.false_and,Bool.and_true]at h ⊢;simp only[ZE,seval,KE,e1,e2,zPW];refine⟨by kernel_rfl,?_⟩;refine EFn.gV [(7777777,7777777)] hi ?_ ?_
  ·simp only[ZE,seval,zPW]
  rintro V ol new ⟨rfl,rfl,rfl⟩;simp only[ZE,seval,KE,zPW];refine EFn.gV [(0,900),(5,905)] (zAv _ (t,_) h) ?_ ?_
  ·simp only[ZE,seval,prO,KE,zPW]
  rintro V ol new ⟨rfl,rfl,rfl⟩;simp only[ZE,seval,prO,KE,zPW];refine⟨[1999],[],?_⟩;simp only[ZE,seval,zHH,zht,AV.core,zPW,prO];exact⟨rfl,(zAd _).symm⟩
theorem zHa(x:Num):FnP prog 133 [.agg (zgL x)] (.d (eB (zCW x))) []:=by
 refine FnP.of_eC (own:=[]) chL zat func133 rfl call133 ntmps133 (zle rfl) results133 (fun hok=> ?_);have h1:(x.n==0)=decide (x.n=0):=by rw[wap]; simp
 have h2:(x.p.toList==ByteArray.empty.toList)=decide (x.p=e0):=zDQ _ _;simp only[ZE,seval,KE,zCW.eq_1,h1,h2]
theorem zAa(s:Bts)(w:PW):(wS s w).2 =w.2:=rfl
def zHN(x:Num):Prop:=(-9223372036854775808<=x.n/\x.n<=9223372036854775807)/\x.p.size<=1000000
theorem zEl(Z:GP)(hZ:Z.Ok)(x:Num)(hx:zHN x)(w:PW)(h:(zBl x w).1.size <=LIM):WCon Z 135 [.d (.agg (zgL x))] w (zBl x w) (.tup []):=by
 refine FnL.srt (FnL.of_eH 1999 [.ar 900 1,.ar 905 w.1.size] (own:=[]) chL [] zat func135 rfl call135 ntmps135 (zle rfl) results135 (zDA Z w _ (by simp[AV.noRefs,AV.noRef])) (fun gs=> ?_));obtain⟨n,p⟩:=x;obtain⟨⟨r1,r2⟩,r3⟩:=hx;simp only at r1 r2 r3;have hW:zBl ⟨n,p⟩ w=if p=e0 then zCr n w else if n>0 then zCr n (wS (⟨#[32,43,32]⟩:ByteArray) (zAu p w))else if n<0 then zCr (max (IntKind.i64.wrap (-n)) 0) (wS (⟨#[32,45,32]⟩:ByteArray) (wOk (decide (n>= -1000000)) (zAu p w)))else zAu p w:=rfl
 by_cases hp:p=e0
 ·rw[if_pos hp]at hW;rw[hW]at h ⊢;have e1:decide (p=(⟨#[]⟩:ByteArray))=true:=by rw[hp]; rfl
  have c1:=zGM Z n r1 r2 w h;simp only[ZE,seval,KE,e1,zPW,zAa];refine EFn.gV [(900,900),(905,905),(7777777,7777777)] (c1) ?_ ?_
  ·simp only[ZE,seval,KE,zPW,zAa]
  rintro V ol new ⟨rfl,rfl,rfl⟩;simp only[ZE,seval,prO,KE,zPW,zAa];refine⟨[3,1999],[],?_⟩;simp only[ZE,seval,zHH,zht,AV.core,zPW,zAa,prO]
  first | exact⟨rfl,(zAd _).symm⟩ | exact(zAd _).symm | exact rfl | skip
 rw[if_neg hp]at hW;have e1:decide (p=(⟨#[]⟩:ByteArray))=false:=decide_eq_false hp;by_cases h1:n>0
 ·rw[if_pos h1]at hW;rw[hW]at h ⊢;have e3:decide (n>0)=true:=by simp[h1]
  have l2:=wam (zBS n _) h;have l1:=wam (zAw _ _) l2;have c1:=zBP Z hZ p r3 w l1;have c3:=zGM Z n r1 r2 _ h;simp only[ZE,seval,KE,e1,zPW,zAa];refine EFn.gV [(900,900),(905,905),(7777777,7777777)] (c1) ?_ ?_
  ·simp only[ZE,seval,KE,zPW,zAa]
  rintro V ol new ⟨rfl,rfl,rfl⟩;simp only[ZE,seval,KE,e3,zPW,zAa];refine EFn.gV [(0,900),(5,905)] (zAv ((⟨#[32,43,32]⟩:ByteArray)) (zAu p w) (l2)) ?_ ?_
  ·simp only[ZE,seval,prO,KE,zPW,zAa]
  rintro V ol new ⟨rfl,rfl,rfl⟩;simp only[ZE,seval,prO,KE,zPW,zAa];refine EFn.gV [(900,900),(905,905),(7777777,7777777)] (c3) ?_ ?_
  ·simp only[ZE,seval,KE,zPW,zAa]
  rintro V ol new ⟨rfl,rfl,rfl⟩;simp only[ZE,seval,prO,KE,zPW,zAa];refine⟨[3,1999],[],?_⟩;simp only[ZE,seval,zHH,zht,AV.core,zPW,zAa,prO]
  first | exact⟨rfl,(zAd _).symm⟩ | exact(zAd _).symm | exact rfl | skip
 rw[if_neg h1]at hW;have e3:decide (n>0)=false:=by simp[h1]
 by_cases h2:n<0
 ·rw[if_pos h2]at hW;rw[hW]at h ⊢;have e4:decide (n<0)=true:=by simp[h2]
  have l2:=wam (zBS _ _) h;have l1:=wam (zAw _ _) l2;have l0:(zAu p w).1.size <=LIM:=l1;have c1:=zBP Z hZ p r3 w l0;have hwr: -9223372036854775808<=IntKind.i64.wrap (-n)/\IntKind.i64.wrap (-n)<=9223372036854775807:=by
   by_cases h5:n= -9223372036854775808
   ·subst h5; decide
   ·rw[zaQ (by omega) (by omega)]; omega
  have c3:=zGM Z (max (IntKind.i64.wrap (-n)) 0) (by omega) (by omega) _ h;have hmx:(if 0>IntKind.i64.wrap (-n)then 0 else IntKind.i64.wrap (-n))=max (IntKind.i64.wrap (-n)) 0:=by split <;> omega
  obtain⟨b,hb⟩:=zX (decide (n>= -1000000));rw[hb]at h l2 c3 ⊢;obtain⟨v,hv⟩:=zX (zAu p w);rw[hv]at h l2 c3 c1 ⊢;obtain⟨t,ok⟩:=v;have hwk:wOk b (t,ok)=(t,ok&&b):=rfl;rw[hwk]at h l2 c3 ⊢;cases ok <;> cases b
  all_goals
   simp only[Bool.and_self,Bool.and_false,Bool.false_and,Bool.and_true]at h l2 c3 ⊢;simp only[ZE,seval,KE,e1,zPW,zAa];refine EFn.gV [(900,900),(905,905),(7777777,7777777)] (c1) ?_ ?_
   ·simp only[ZE,seval,KE,zPW,zAa]
   rintro V ol new ⟨rfl,rfl,rfl⟩;simp only[ZE,seval,KE,e3,e4,hb,zPW,zAa];refine EFn.gV [(0,900),(5,905)] (zAv ((⟨#[32,45,32]⟩:ByteArray)) ((t,_)) (l2)) ?_ ?_
   ·simp only[ZE,seval,prO,KE,zPW,zAa]
   rintro V ol new ⟨rfl,rfl,rfl⟩;simp only[ZE,seval,prO,KE,Int.zero_sub,hmx,zPW,zAa];refine EFn.gV [(900,900),(905,905),(7777777,7777777)] (c3) ?_ ?_
   ·simp only[ZE,seval,KE,zPW,zAa]
   rintro V ol new ⟨rfl,rfl,rfl⟩;simp only[ZE,seval,prO,KE,zPW,zAa];refine⟨[3,1999],[],?_⟩;simp only[ZE,seval,zHH,zht,AV.core,zPW,zAa,prO]
   first | exact⟨rfl,(zAd _).symm⟩ | exact(zAd _).symm | exact rfl | skip
 ·rw[if_neg h2]at hW;rw[hW]at h ⊢;have e4:decide (n<0)=false:=by simp[h2]
  have c1:=zBP Z hZ p r3 w h;simp only[ZE,seval,KE,e1,zPW,zAa];refine EFn.gV [(900,900),(905,905),(7777777,7777777)] (c1) ?_ ?_
  ·simp only[ZE,seval,KE,zPW,zAa]
  rintro V ol new ⟨rfl,rfl,rfl⟩;simp only[ZE,seval,KE,e3,e4,zPW,zAa];refine⟨[3,1999],[],?_⟩;simp only[ZE,seval,zHH,zht,AV.core,zPW,zAa,prO]
  first | exact⟨rfl,(zAd _).symm⟩ | exact(zAd _).symm | exact rfl | skip
theorem zgA: ∀(n:Nat) (l:List Nat),l.Nodup->(∀k∈l,k<n)->l.length<=n
 | 0,l,_,h=>by
  cases l with
  | nil=>simp
  | cons a l=>exact absurd (h a (by simp)) (Nat.not_lt_zero _)
 | n+1,l,hd,h=>by
  have h1:=zgA n (l.erase n) (hd.erase n) (fun k hk=>by
   have h2:=h k (List.mem_of_mem_erase hk);rcases Nat.lt_or_ge k n with h3 | h3
   ·exact h3
   ·exfalso;have:k=n:=(by omega);subst this;exact(List.Nodup.not_mem_erase hd) hk)
  have:=List.length_erase_le (a:=n) (l:=l);have h4:l.length<=(l.erase n).length +1:=by rw[List.length_erase]; split <;> omega
  omega
theorem opOf_pos{p:Bts×Nat}(h:p∈opL):zGx p.1=p.2/\p.2≠0/\zAS p.2=p.1/\p.1≠e0:=by
 have key: ∀p∈opL,zGx p.1=p.2/\p.2≠0/\zAS (p.2:Nat)=p.1/\p.1≠e0:=by decide
 exact key p h
theorem opOf_sign'{op:Int}(h:zAS op≠e0):(zGx (zAS op):Int)=op/\zAS op≠(⟨#[63]⟩:ByteArray):=by
 unfold zAS at h ⊢;split at h
 ·rename_i p hp;have hm:=List.mem_of_find?_eq_some hp;have hq:=List.find?_some hp;have key: ∀p∈opL,zGx p.1=p.2/\p.1≠(⟨#[63]⟩:ByteArray):=by decide
  have:=key p hm;simp only[decide_eq_true_eq]at hq;rw[this.1];exact⟨hq,this.2⟩
 ·exact absurd rfl h
theorem sign_c(Z:GP)(hZ:Z.Ok)(op:Int):FnL prog 190 [.d (eI op)] [(7777777,Z.o)] (fun V ol new=>V= .d (eSb (zAS op))/\ol=[(7777777,Z.o)]/\new=[]):=by
 refine FnL.srt (FnL.of_eH 1999 [] (own:=[]) (fun _=>[]) [] zat func190 rfl call190 ntmps190 (zle rfl) results190 (zCw Z _ (by simp[AV.noRefs,AV.noRef])) (fun gs=> ?_));simp only[ZE,seval,KE,GZ];refine zgR (fun _ _=>[]) zat Z.kO.length (fun i (js:List Nat)=>js.length=i/\js.Nodup/\(∀j∈js,j<Z.kO.length)/\ ∀j∈js,Z.vO.getD j default≠eI op) (fun i js=>([(0,.d (eI op)),(6,.mo 6)],[(6,.it Z.kO Z.vO Z.bO Z.cO js),(1999,.gh [] gs),(7777777,Z.o)])) [] ⟨rfl,by simp,by simp,by simp⟩ ?_ ?_ (fun i js hi hI=> ?_)
 ·simp only[ZE,seval]
 ·simp only[ZE,seval,GZ]
 obtain⟨h1,h2,h3,h4⟩:=hI;simp only[ZE,seval,KE,GZ];refine⟨?_,fun j hj hjs=> ?_,fun hall=> ?_⟩
 ·simp only[ZE,seval]
 ·obtain⟨p,hp,hk,hv⟩:=hZ.it j hj;obtain⟨p1,p2,p3,p4⟩:=opOf_pos hp;have hlen:=zgA Z.kO.length (j::js) (List.nodup_cons.2 ⟨hjs,h2⟩) (fun k hk=>by
   rcases List.mem_cons.1 hk with rfl | hk
   ·exact hj
   ·exact h3 k hk)
  rw[wad]at hlen;by_cases hop:(p.2:Int)=op
  ·have e1:((p.2:Int)==op)=true:=by simp[hop]
   have hS:zAS op=p.1:=by rw[<-hop]; exact p3
   simp only[ZE,seval,KE]at hv;simp only[ZE,seval,KE,GZ,hk,hv,e1,hS,List.getLast?_append,List.getLast?_singleton,Option.some_or];refine⟨[6,1999],[],?_⟩;simp only[ZE,seval,zAj.eq_def,ghK.eq_def,zAi.eq_def,zHK,zAp.eq_1,zAp.eq_2,zAq.eq_1,zAq.eq_2]
  ·have e1:((p.2:Int)==op)=false:=by simp[hop]
   have hv2:=hv;simp only[ZE,seval,KE]at hv;simp only[ZE,seval,KE,GZ,hk,hv,e1,List.getLast?_append,List.getLast?_singleton,Option.some_or];refine⟨by omega,js++[j],⟨by rw[wab,h1]; rfl,List.nodup_append.2 ⟨h2,by simp,fun a ha b hb e=> ?_⟩,fun k hk=> ?_,fun k hk=> ?_⟩,?_,?_⟩
   ·simp at hb; subst hb; subst e; exact hjs ha
   ·rcases List.mem_append.1 hk with hk | hk
    ·exact h3 k hk
    ·simp at hk; subst hk; exact hj
   ·rcases List.mem_append.1 hk with hk | hk
    ·exact h4 k hk
    ·simp at hk; subst hk;rw[hv2];simp only[eI,ne_eq,D.lit.injEq,Value.int.injEq,true_and];exact hop
   ·simp only[ZE,seval]
   ·simp only[ZE,seval,GZ]
 ·have hS:zAS op=e0:=by
   by_cases hs:zAS op=e0
   ·exact hs
   exfalso;obtain⟨o1,_⟩:=opOf_sign' hs;have h5:=hZ.ops (zAS op);have h6:zGx (zAS op)≠0:=by
    intro h7;rw[h7]at o1;rw[<-o1]at hs;exact hs rfl
   rw[if_neg h6]at h5;unfold zjZ at h5;split at h5
   ·rename_i hlt;refine h4 _ (hall _ hlt) ?_;rw[List.getD,h5,o1];rfl
   ·cases h5
  simp only[ZE,seval,KE,GZ,hS];refine⟨[6,1999],[],?_⟩;simp only[ZE,seval,zAj.eq_def,ghK.eq_def,zAi.eq_def,zHK,zAp.eq_1,zAp.eq_2,zAq.eq_1,zAq.eq_2];rfl
theorem arity_c(Z:GP)(hZ:Z.Ok)(op:Int):FnL prog 188 [.d (eI op)] [(7777777,Z.o)] (fun V ol new=>V= .d (eI (zBi op))/\ol=[(7777777,Z.o)]/\new=[]):=by
 refine FnL.srt (FnL.of_eH 1999 [] (own:=[]) (fun _=>[]) [] zat func188 rfl call188 ntmps188 (zle rfl) results188 (zCw Z _ (by simp[AV.noRefs,AV.noRef])) (fun gs=> ?_));have hs:=sign_c Z hZ op;have hA:zBi op=if op=1\/op=14 then 0 else if op=2\/op=12\/op=13\/op=15 then 1 else if op=10 then 3 else if zAS op≠e0 then 2 else-1:=rfl
 obtain⟨b1,h1⟩: ∃b,(op==1)=b:=⟨_,rfl⟩;obtain⟨b2,h2⟩: ∃b,(op==14)=b:=⟨_,rfl⟩;obtain⟨b3,h3⟩: ∃b,(op==2)=b:=⟨_,rfl⟩;obtain⟨b4,h4⟩: ∃b,(op==12)=b:=⟨_,rfl⟩;obtain⟨b5,h5⟩: ∃b,(op==13)=b:=⟨_,rfl⟩;obtain⟨b6,h6⟩: ∃b,(op==15)=b:=⟨_,rfl⟩;obtain⟨b7,h7⟩: ∃b,(op==10)=b:=⟨_,rfl⟩;simp only[ZE,seval,KE]at hs;by_cases c1:op=1
 ·subst c1;have:zBi 1=0:=rfl;rw[this];simp only[ZE,seval,KE];refine⟨[1999],[],?_⟩;simp only[ZE,seval,zHH,zht,AV.core,zPW,zAa,prO]
 by_cases c2:op=14
 ·subst c2;have:zBi 14=0:=rfl;rw[this];simp only[ZE,seval,KE];refine⟨[1999],[],?_⟩;simp only[ZE,seval,zHH,zht,AV.core,zPW,zAa,prO]
 by_cases c3:op=2
 ·subst c3;have:zBi 2=1:=rfl;rw[this];simp only[ZE,seval,KE];refine⟨[1999],[],?_⟩;simp only[ZE,seval,zHH,zht,AV.core,zPW,zAa,prO]
 by_cases c4:op=12
 ·subst c4;have:zBi 12=1:=rfl;rw[this];simp only[ZE,seval,KE];refine⟨[1999],[],?_⟩;simp only[ZE,seval,zHH,zht,AV.core,zPW,zAa,prO]
 by_cases c5:op=13
 ·subst c5;have:zBi 13=1:=rfl;rw[this];simp only[ZE,seval,KE];refine⟨[1999],[],?_⟩;simp only[ZE,seval,zHH,zht,AV.core,zPW,zAa,prO]
 by_cases c6:op=15
 ·subst c6;have:zBi 15=1:=rfl;rw[this];simp only[ZE,seval,KE];refine⟨[1999],[],?_⟩;simp only[ZE,seval,zHH,zht,AV.core,zPW,zAa,prO]
 by_cases c7:op=10
 ·subst c7;have:zBi 10=3:=rfl;rw[this];simp only[ZE,seval,KE];refine⟨[1999],[],?_⟩;simp only[ZE,seval,zHH,zht,AV.core,zPW,zAa,prO]
 have d1:(op==1)=false:=by simp[c1]
 have d2:(op==14)=false:=by simp[c2]
 have d3:(op==2)=false:=by simp[c3]
 have d4:(op==12)=false:=by simp[c4]
 have d5:(op==13)=false:=by simp[c5]
 have d6:(op==15)=false:=by simp[c6]
 have d7:(op==10)=false:=by simp[c7]
 rw[if_neg (by omega),if_neg (by omega),if_neg c7]at hA;by_cases c8:zAS op=e0
 ·rw[if_neg (by simp[c8])]at hA;have e1:(!decide (e0=(⟨#[]⟩:ByteArray)))=false:=rfl;rw[c8]at hs;rw[hA];simp only[ZE,seval,KE,d1,d2,d3,d4,d5,d6,d7];refine EFn.gV [(7777777,7777777)] hs ?_ ?_
  ·simp only[ZE,seval,GZ]
  rintro V ol new ⟨rfl,rfl,rfl⟩;simp only[ZE,seval,KE,e1,GZ];refine⟨[1999],[],?_⟩;simp only[ZE,seval,zHH,zht,AV.core,zPW,zAa,prO]
 ·rw[if_pos c8]at hA;obtain⟨sg,hsg⟩:=zX (zAS op);rw[hsg]at hs c8;have e1:(!decide (sg=(⟨#[]⟩:ByteArray)))=true:=by simp only[Bool.not_eq_true',decide_eq_false_iff_not]; exact c8
  rw[hA];simp only[ZE,seval,KE,d1,d2,d3,d4,d5,d6,d7];refine EFn.gV [(7777777,7777777)] hs ?_ ?_
  ·simp only[ZE,seval,GZ]
  rintro V ol new ⟨rfl,rfl,rfl⟩;simp only[ZE,seval,KE,e1,GZ];refine⟨[1999],[],?_⟩;simp only[ZE,seval,zHH,zht,AV.core,zPW,zAa,prO]
theorem zero_w(Z:GP)(w:PW)(bs:List Bool)(hl:bs.length<=1000):
  FnL prog 132 [.ep 900 1 0 0,.d (.sl (bs.map fun b=>[eB b]))] (pwL Z w) (fun V ol new=>V= .tup []/\ol=pwL Z (wOk (bs.all id) w)/\new=[]):=by
 refine FnL.srt (FnL.of_eH 1999 [.ar 900 1,.ar 905 w.1.size] (own:=[]) (fun _=>[]) [] zat func132 rfl call132 ntmps132 (zle rfl) results132 (by
  simp[pwL,pwO,txO,GZ,zyk,AO.noRef,AV.noRefs,AV.noRef,zCV,om,zAd]) (fun gs=> ?_))
 obtain⟨t,ok⟩:=w;simp only[ZE,seval,KE,waa,zPW,zAa];refine za1 (fun _=>[]) zat bs.length (fun _=>True) (fun i=>([(0,.ep 900 1 0 0),(6,.d (.sl (bs.map fun b=>[eB b]))),(7,.d (eI bs.length)),(8,.d (eI i))],(1999,.gh [.ar 900 1,.ar 905 t.size] gs)::pwL Z (t,ok&&(bs.take i).all id))) trivial ?_ ?_ (fun i hi _=> ?_)
 ·simp only[ZE,seval]
 ·simp only[ZE,seval,KE,zPW,zAa,List.take_zero,List.all_nil,Bool.and_true]
 by_cases h:i<bs.length
 ·have e1:=zai h;have e2:(bs.map fun b=>[D.lit (.bool b)]).getD i []=[D.lit (.bool bs[i])]:=zaa h [];have e3:bs.take (i+1)=bs.take i++[bs[i]]:=by simp
  have hw:=zaq (show i<9223372036854775807 by omega);obtain⟨k,hk⟩:=zX ((ok&&(bs.take i).all id));have hk2:(ok&&(bs.take (i+1)).all id)=(k&&bs[i]):=by rw[e3,List.all_append,<-Bool.and_assoc,hk]; simp
  rw[hk];cases k with
  | true=>
   simp only[ZE,seval,zaw h,e1,e2,wal,hw,KE,hk2,waa,Bool.true_and,zPW,zAa];exact h
  | false=>
   simp only[ZE,seval,zaw h,e1,e2,wal,hw,KE,hk2,waa,Bool.false_and,zPW,zAa];exact h
 ·have:i=bs.length:=by omega
  subst this;simp only[ZE,seval,zaI (wan bs.length),KE,List.take_length,zPW,zAa];refine⟨[1999],[],?_⟩;simp only[ZE,seval,zHH,zht,AV.core,zPW,zAa,prO,wOk.eq_1];exact(zAd _).symm
theorem zH0(e:Expr):FnP prog 134 [.agg (zbx e)] (.d (eB (zCE e))) []:=by
 refine FnP.of_eC (own:=[]) chL zat func134 rfl call134 ntmps134 (zle rfl) results134 (fun hok=> ?_);have h1:(e.op==0)=decide (e.op=0):=by rw[wap]; simp
 have h2:=zHa e.k;have h3:=zHa e.w;have h4:((e.args.length:Int)==0)=decide (e.args.length=0):=by rw[wap]; simp
 simp only[ZE,seval,KE]at h2;simp only[ZE,seval,KE]at h3;simp only[ZE,seval,KE,zb6,h1,waa,h4];refine za3.i (fun _=>h2) ?_;simp only[ZE,seval,KE,zb6,h1,waa,h4];refine za3.i (fun _=>h3) ?_;simp only[ZE,seval,KE,zb6,h1,waa,h4];congr 3
def ruleR(x:Rule):Prop:=(-9223372036854775808<=x.n/\x.n<=9223372036854775807)/\x.from'.size<=1000000
theorem rule_w(Z:GP)(hZ:Z.Ok)(x:Rule)(hx:ruleR x)(w:PW)(h:(zEn x w).1.size <=LIM):WCon Z 141 [.d (.agg (zib x))] w (zEn x w) (.tup []):=by
 refine FnL.srt (FnL.of_eH 1999 [.ar 900 1,.ar 905 w.1.size] (own:=[]) chL [] zat func141 rfl call141 ntmps141 (zle rfl) results141 (zDA Z w _ (by simp[AV.noRefs,AV.noRef])) (fun gs=> ?_));obtain⟨k,p,n⟩:=x;obtain⟨⟨r1,r2⟩,r3⟩:=hx;simp only at r1 r2 r3;obtain⟨b1,e1⟩: ∃b,decide (p=(⟨#[]⟩:ByteArray))=b:=⟨_,rfl⟩;obtain⟨b2,e2⟩: ∃b,decide (k>=2)=b:=⟨_,rfl⟩;obtain⟨b3,e3⟩: ∃b,(n==0)=b:=⟨_,rfl⟩;obtain⟨b4,e4⟩: ∃b,(k==3)=b:=⟨_,rfl⟩;have e3':decide (n=0)=b3:=by rw[<-e3,wap]; simp
 have e4':decide (k=3)=b4:=by rw[<-e4,wap]; simp
 have hW:zEn ⟨k,p,n⟩ w=if k=0 then wS (⟨#[105,110,105,116]⟩:ByteArray) (wOk ((b1||b2)&&(b3||b4)) w)else if k=1 then wS (⟨#[107,101,101,112]⟩:ByteArray) (wOk ((b1||b2)&&(b3||b4)) w)else if k=2 then zAu p (wS (⟨#[99,111,112,121,32]⟩:ByteArray) (wOk ((b1||b2)&&(b3||b4)) w))else if k=3 then zCr n (wS (⟨#[32]⟩:ByteArray) (zAu p (wS (⟨#[97,100,100,32]⟩:ByteArray) (wOk ((b1||b2)&&(b3||b4)) w))))else wOk false (wOk ((b1||b2)&&(b3||b4)) w):=by
  rw[<-e1,<-e2,<-e3',<-e4']; rfl
 have cz:=zero_w Z w [b1||b2,b3||b4] (by simp);rw[show [b1||b2,b3||b4].all id=((b1||b2)&&(b3||b4)) by simp]at cz;obtain⟨v,hv⟩:=zX (wOk ((b1||b2)&&(b3||b4)) w);rw[hv]at cz hW;have hl:v.1=w.1:=by rw[<-hv]; rfl
 rw[hW]at h ⊢;by_cases k0:k=0
 ·subst k0;obtain rfl:b2=false:=by rw[<-e2]; rfl
  obtain rfl:b4=false:=by rw[<-e4]; rfl
  simp only[Bool.or_false,Bool.or_true]at cz;rw[if_pos rfl]at h ⊢;simp only[ZE,seval,KE,e1,e2,e3,e4,zPW,zAa];refine EFn.gV [(900,900),(905,905),(7777777,7777777)] (cz) ?_ ?_
  ·simp only[ZE,seval,KE,zPW,zAa]
  rintro V ol new ⟨rfl,rfl,rfl⟩;simp only[ZE,seval,KE,zPW,zAa];refine EFn.gV [(0,900),(5,905)] (zAv ((⟨#[105,110,105,116]⟩:ByteArray)) (v) (h)) ?_ ?_
  ·simp only[ZE,seval,prO,KE,zPW,zAa]
  rintro V ol new ⟨rfl,rfl,rfl⟩;simp only[ZE,seval,prO,KE,zPW,zAa];refine⟨[3,21,1999],[],?_⟩;simp only[ZE,seval,zHH,zht,AV.core,zPW,zAa,prO]
  first | exact⟨rfl,(zAd _).symm⟩ | exact(zAd _).symm | exact rfl | skip
 rw[if_neg k0]at h ⊢;have f0:(k==0)=false:=by simp[k0]
 by_cases k1:k=1
 ·subst k1;obtain rfl:b2=false:=by rw[<-e2]; rfl
  obtain rfl:b4=false:=by rw[<-e4]; rfl
  simp only[Bool.or_false,Bool.or_true]at cz;rw[if_pos rfl]at h ⊢;simp only[ZE,seval,KE,e1,e2,e3,e4,zPW,zAa];refine EFn.gV [(900,900),(905,905),(7777777,7777777)] (cz) ?_ ?_
  ·simp only[ZE,seval,KE,zPW,zAa]
  rintro V ol new ⟨rfl,rfl,rfl⟩;simp only[ZE,seval,KE,zPW,zAa];refine EFn.gV [(0,900),(5,905)] (zAv ((⟨#[107,101,101,112]⟩:ByteArray)) (v) (h)) ?_ ?_
  ·simp only[ZE,seval,prO,KE,zPW,zAa]
  rintro V ol new ⟨rfl,rfl,rfl⟩;simp only[ZE,seval,prO,KE,zPW,zAa];refine⟨[3,21,1999],[],?_⟩;simp only[ZE,seval,zHH,zht,AV.core,zPW,zAa,prO]
  first | exact⟨rfl,(zAd _).symm⟩ | exact(zAd _).symm | exact rfl | skip
 rw[if_neg k1]at h ⊢;have f1:(k==1)=false:=by simp[k1]
 by_cases k2:k=2
 ·subst k2;obtain rfl:b2=true:=by rw[<-e2]; rfl
  obtain rfl:b4=false:=by rw[<-e4]; rfl
  simp only[Bool.or_false,Bool.or_true]at cz;rw[if_pos rfl]at h ⊢;have l1:=wam (zAy _ _) h;have c1:=zBP Z hZ p r3 _ h;simp only[ZE,seval,KE,e1,e2,e3,e4,zPW,zAa];refine EFn.gV [(900,900),(905,905),(7777777,7777777)] (cz) ?_ ?_
  ·simp only[ZE,seval,KE,zPW,zAa]
  rintro V ol new ⟨rfl,rfl,rfl⟩;simp only[ZE,seval,KE,zPW,zAa];refine EFn.gV [(0,900),(5,905)] (zAv ((⟨#[99,111,112,121,32]⟩:ByteArray)) (v) (l1)) ?_ ?_
  ·simp only[ZE,seval,prO,KE,zPW,zAa]
  rintro V ol new ⟨rfl,rfl,rfl⟩;simp only[ZE,seval,prO,KE,zPW,zAa];refine EFn.gV [(900,900),(905,905),(7777777,7777777)] (c1) ?_ ?_
  ·simp only[ZE,seval,KE,zPW,zAa]
  rintro V ol new ⟨rfl,rfl,rfl⟩;simp only[ZE,seval,prO,KE,zPW,zAa];refine⟨[3,21,1999],[],?_⟩;simp only[ZE,seval,zHH,zht,AV.core,zPW,zAa,prO]
  first | exact⟨rfl,(zAd _).symm⟩ | exact(zAd _).symm | exact rfl | skip
 rw[if_neg k2]at h ⊢;have f2:(k==2)=false:=by simp[k2]
 by_cases k3:k=3
 ·subst k3;obtain rfl:b2=true:=by rw[<-e2]; rfl
  obtain rfl:b4=true:=by rw[<-e4]; rfl
  simp only[Bool.or_false,Bool.or_true]at cz;rw[if_pos rfl]at h ⊢;have l3:=wam (zBS _ _) h;have l2:=wam (zAw _ _) l3;have l1:=wam (zAy _ _) l2;have c1:=zBP Z hZ p r3 _ l2;have c3:=zGM Z n r1 r2 _ h;simp only[ZE,seval,KE,e1,e2,e3,e4,zPW,zAa];refine EFn.gV [(900,900),(905,905),(7777777,7777777)] (cz) ?_ ?_
  ·simp only[ZE,seval,KE,zPW,zAa]
  rintro V ol new ⟨rfl,rfl,rfl⟩;simp only[ZE,seval,KE,zPW,zAa];refine EFn.gV [(0,900),(5,905)] (zAv ((⟨#[97,100,100,32]⟩:ByteArray)) (v) (l1)) ?_ ?_
  ·simp only[ZE,seval,prO,KE,zPW,zAa]
  rintro V ol new ⟨rfl,rfl,rfl⟩;simp only[ZE,seval,prO,KE,zPW,zAa];refine EFn.gV [(900,900),(905,905),(7777777,7777777)] (c1) ?_ ?_
  ·simp only[ZE,seval,KE,zPW,zAa]
  rintro V ol new ⟨rfl,rfl,rfl⟩;simp only[ZE,seval,KE,zPW,zAa];refine EFn.gV [(0,900),(5,905)] (zAv ((⟨#[32]⟩:ByteArray)) (zAu p (wS (⟨#[97,100,100,32]⟩:ByteArray) v)) (l3)) ?_ ?_
  ·simp only[ZE,seval,prO,KE,zPW,zAa]
  rintro V ol new ⟨rfl,rfl,rfl⟩;simp only[ZE,seval,prO,KE,zPW,zAa];refine EFn.gV [(900,900),(905,905),(7777777,7777777)] (c3) ?_ ?_
  ·simp only[ZE,seval,KE,zPW,zAa]
  rintro V ol new ⟨rfl,rfl,rfl⟩;simp only[ZE,seval,prO,KE,zPW,zAa];refine⟨[3,21,1999],[],?_⟩;simp only[ZE,seval,zHH,zht,AV.core,zPW,zAa,prO]
  first | exact⟨rfl,(zAd _).symm⟩ | exact(zAd _).symm | exact rfl | skip
 rw[if_neg k3]at h ⊢;have f3:(k==3)=false:=by simp[k3]
 obtain rfl:b4=false:=by rw[<-e4]; exact f3
 simp only[Bool.or_false]at cz;simp only[ZE,seval,KE,e1,e2,e3,f3,zPW,zAa];refine EFn.gV [(900,900),(905,905),(7777777,7777777)] (cz) ?_ ?_
 ·simp only[ZE,seval,KE,zPW,zAa]
 rintro V ol new ⟨rfl,rfl,rfl⟩;simp only[ZE,seval,KE,f0,f1,f2,f3,zPW,zAa];refine⟨[3,21,1999],[],?_⟩;simp only[ZE,seval,zHH,zht,AV.core,zPW,zAa,prO];exact⟨by simp[wOk],(zAd _).symm⟩
def exprB(e:Expr):Prop:=zHN e.k/\zHN e.w/\e.name.size<=1000000/\e.args.length<=1000000
def zDp:Nat->Expr->Prop
 | 0,e=>exprB e
 | d+1,e=>exprB e/\ ∀x∈e.args,zDp d x
def pwC(Z:GP)(w:PW):OL:=(95,.box [.ep 900 1 0 0])::pwL Z w
theorem zIy(Z:GP)(w:PW)(args:List AV)(ha:AV.noRefs [1999] args):
  (zyk 1999 (pwC Z w)/\AV.noRefs [1999] args)/\zCV (om (pwC Z w)) [.ar 900 1,.ar 905 w.1.size]/\AV.noRefs [1999] [.ar 900 1,.ar 905 w.1.size]:=by
 simp[pwC,pwL,pwO,txO,GZ,zyk,AO.noRef,AV.noRefs,AV.noRef,zCV,om,ha,zAd]
theorem sign_size(op:Int):(zAS op).size <=2:=by
 unfold zAS;split
 ·rename_i p hp;have key: ∀p∈opL,p.1.size<=2:=by decide
  exact key p (List.mem_of_find?_eq_some hp)
 ·exact Nat.zero_le _
theorem cl_w(Z:GP)(d:Nat)(hd:d<=1000)(op:Int)(nme:Bts)(k wd:Num)(args:List Expr)(s:Bts)(i:Nat)(hi:i<args.length)(hn:args.length<=1000000)(w w':PW)(hs:(wS s w).1.size <=LIM)
  (hc:WCon Z 137 [.d (.agg (zbx (args.getD i x0))),.d (eI d)] (wS s w) w' (.tup [])):
  FnL prog 189 [.d (.lit (.string s)),.d (eI i),.bp 95 0,.d (.ptr [eI op,eSb nme,eI k.n,eSb k.p,eI wd.n,eSb wd.p,.sl (args.map zbx)]),.d (.ptr [eI ((d+1:Nat):Int)])] (pwC Z w) (fun V ol new=>V= .tup []/\ol=pwC Z w'/\new=[]):=by
 refine FnL.srt (FnL.of_eH 1999 [.ar 900 1,.ar 905 w.1.size] (own:=[]) (fun i=>if i=2001 then [.chn,.ord ⟨[(0,none),(1,none),(2,none),(3,none),(4,none),(5,none),(6,none),(7,none),(8,some [])]⟩]else []) [2] zat func189 rfl call189 ntmps189 (zle rfl) results189 (zIy Z w _ (by simp[AV.noRefs,AV.noRef])) (fun gs=> ?_));have hw:IntKind.i64.wrap (((d+1:Nat):Int)-1)=d:=by rw[show((d+1:Nat):Int)-1=d by omega]; exact zaQ (by omega) (by omega)
 have hx:(args.map zbx).getD i []=zbx (args.getD i x0):=by
  rw[zaa hi]; simp[List.getD,hi]
 rw[zb6]at hx;obtain⟨x,hxx⟩:=zX (args.getD i x0);rw[hxx]at hx hc;rw[zb6]at hc;have e1:=zai hi;simp only[ZE,seval,KE]at hc;simp only[ZE,seval,KE]at hx;simp only[ZE,seval,KE,pwC,zPW,zAa];refine EFn.gV [(0,900),(5,905)] (zAv (s) (w) (hs)) ?_ ?_
 ·simp only[ZE,seval,prO,KE,zPW,zAa]
 rintro V ol new ⟨rfl,rfl,rfl⟩;simp only[ZE,seval,prO,KE,hw,waa,e1,wal,hx,zPW,zAa];refine⟨by kernel_rfl,?_⟩;refine EFn.gV [(900,900),(905,905),(7777777,7777777)] hc ?_ ?_
 ·simp only[ZE,seval,KE,zPW,zAa]
 rintro V ol new ⟨rfl,rfl,rfl⟩;simp only[ZE,seval,prO,KE,zPW,zAa];refine⟨[1999],[],?_⟩;simp only[ZE,seval,zHH,zht,AV.core,zPW,zAa,prO];exact(zAd _).symm
theorem expr0_w(Z:GP)(e:Expr)(w:PW):WCon Z 137 [.d (.agg (zbx e)),.d (eI (0:Nat))] w (zA6 0 e w) (.tup []):=by
  refine FnL.srt (FnL.of_eH 1999 [.ar 900 1,.ar 905 w.1.size] (own:=[]) (fun i=>if i=2001 then [.flt ⟨[(0,none),(1,none),(2,none),(3,none),(4,none),(5,none),(6,none),(7,none),(8,some [3,4,5]),(9,none),(10,none)]⟩ ⟨[],[]⟩]else []) [] zat func137 rfl call137 ntmps137 (zle rfl) results137 (zDA Z w _ (by simp[AV.noRefs,AV.noRef])) (fun gs=> ?_));rw[zb6];rw[zA6];have e1:decide (((0:Nat):Int)<1)=true:=rfl;simp only[ZE,seval,KE,e1,zPW,zAa];refine⟨by kernel_rfl,[3,4,5,1999],[],?_⟩;simp only[ZE,seval,zHH,zht,AV.core,zPW,zAa,prO];exact(zAd _).symm
theorem exprS_w(Z:GP)(hZ:Z.Ok)(d:Nat)(ih: ∀(e:Expr) (w:PW),d<=1000->zDp d e->(zA6 d e w).1.size <=LIM->WCon Z 137 [.d (.agg (zbx e)),.d (eI d)] w (zA6 d e w) (.tup []))(e:Expr)(w:PW)(hd:d+1<=1000)(hR:zDp (d+1) e)(h:(zA6 (d+1) e w).1.size <=LIM):
  WCon Z 137 [.d (.agg (zbx e)),.d (eI ((d+1:Nat):Int))] w (zA6 (d+1) e w) (.tup []):=by
  refine FnL.srt (FnL.of_eH 1999 [.ar 900 1,.ar 905 w.1.size] (own:=[]) (fun i=>if i=2001 then [.flt ⟨[(0,none),(1,none),(2,none),(3,none),(4,none),(5,none),(6,none),(7,none),(8,some [3,4,5]),(9,none),(10,none)]⟩ ⟨[],[]⟩]else if i=2004 then [.chn,.ord ⟨[(0,none),(1,none),(2,none),(3,none),(4,none),(5,none),(6,none),(7,none),(8,none),(9,none),(10,none),(11,none),(12,none),(13,none),(14,none),(15,none),(16,none),(17,none),(18,none),(19,none),(20,none),(21,none),(22,none),(23,none),(24,none),(25,none),(26,none),(27,none),(28,none),(29,none),(30,none),(31,none),(32,none),(33,none),(34,none),(35,none),(36,none),(37,none),(38,none),(39,none),(40,none),(41,none),(42,none),(43,none),(44,none),(45,none),(46,some [])]⟩]else if i=1005 then [.frz 4,.frz 5]else []) [] zat func137 rfl call137 ntmps137 (zle rfl) results137 (zDA Z w _ (by simp[AV.noRefs,AV.noRef])) (fun gs=> ?_));have ha:=arity_c Z hZ e.op;obtain⟨dd,hdd⟩: ∃z:Int,((d+1:Nat):Int)=z:=⟨_,rfl⟩;rw[hdd];have e1:decide (dd<1)=false:=by simp; omega
  obtain⟨ar,har⟩: ∃a,zBi e.op=a:=⟨_,rfl⟩;have hW:zA6 (d+1) e w=if (e.args.length:Int)≠ar\/w.2=false then(w.1,false)else opW (zA6 d) e (wOk (zCi e) w):=by rw[<-har]; rfl
  rw[har]at ha;rw[zb6];simp only[ZE,seval,KE]at ha;obtain⟨b,hb⟩:=zX (((e.args.length:Int) !=ar));simp only[ZE,seval,KE,e1,waa,zPW,zAa];refine⟨by kernel_rfl,?_⟩;refine EFn.gV [(7777777,7777777)] ha ?_ ?_
  ·simp only[ZE,seval,KE,zPW,zAa]
  rintro V ol new ⟨rfl,rfl,rfl⟩;cases b with
  | true=>
   have hl:(e.args.length:Int)≠ar:=by simpa using hb
   rw[hW,if_pos (.inl hl)];simp only[ZE,seval,KE,hb,zPW,zAa];refine⟨[3,4,5,1999],[],?_⟩;simp only[ZE,seval,zHH,zht,AV.core,zPW,zAa,prO];exact(zAd _).symm
  | false=>
   have hl:(e.args.length:Int)=ar:=by simpa using hb
   obtain⟨t,ok⟩:=w;cases ok with
   | false=>
    rw[hW,if_pos (.inr rfl)];simp only[ZE,seval,KE,hb,zPW,zAa];refine⟨[3,4,5,1999],[],?_⟩;simp only[ZE,seval,zHH,zht,AV.core,zPW,zAa,prO];exact(zAd _).symm
   | true=>
    rw[if_neg (by simp[hl])]at hW;rw[hW]at h ⊢;have n1:=zHa e.k;have n2:=zHa e.w;obtain⟨c1,k1⟩: ∃b,decide (e.name=(⟨#[]⟩:ByteArray))=b:=⟨_,rfl⟩;obtain⟨c2,k2⟩: ∃b,(e.op==14)=b:=⟨_,rfl⟩;obtain⟨c3,k3⟩: ∃b,(e.op==15)=b:=⟨_,rfl⟩;obtain⟨c4,k4⟩: ∃b,(e.op==1)=b:=⟨_,rfl⟩;obtain⟨c5,k5⟩: ∃b,(e.op==12)=b:=⟨_,rfl⟩;obtain⟨c6,k6⟩: ∃b,(e.op==13)=b:=⟨_,rfl⟩;obtain⟨a1,m1⟩: ∃b,zCW e.k=b:=⟨_,rfl⟩;obtain⟨a2,m2⟩: ∃b,zCW e.w=b:=⟨_,rfl⟩;rw[m1]at n1;rw[m2]at n2;simp only[ZE,seval,KE]at n1;simp only[ZE,seval,KE]at n2;simp only[ZE,seval,KE,↓zA7,↓zA8,↓zA9,zBN.eq_1,zBI.eq_1,hb,k1,k2,k3,k4,k5,k6,zPW,zAa];refine⟨by kernel_rfl,?_⟩;refine za3.i (fun _=>n1) ?_;simp only[ZE,seval,KE,↓zA7,↓zA8,↓zA9,zBN.eq_1,zBI.eq_1,hb,k1,k2,k3,k4,k5,k6,zPW,zAa];refine za3.i (fun _=>n2) ?_;simp only[ZE,seval,KE,↓zA7,↓zA8,↓zA9,zBN.eq_1,zBI.eq_1,hb,k1,k2,k3,k4,k5,k6,zPW,zAa];obtain⟨⟨q1,q2,q3,hn⟩,hA⟩:=hR;have hd2:d<=1000:=(by omega);have hx: ∀i,i<e.args.length->zDp d (e.args.getD i x0):=fun i hi=>hA _ (by rw[List.getD,wak hi]; exact List.getElem_mem hi);have d2:decide (e.op=14)=c2:=(by rw[<-k2,wap]; simp);have d3:decide (e.op=15)=c3:=(by rw[<-k3,wap]; simp);have d4:decide (e.op=1)=c4:=(by rw[<-k4,wap]; simp);have d5:decide (e.op=12)=c5:=(by rw[<-k5,wap]; simp);have d6:decide (e.op=13)=c6:=(by rw[<-k6,wap]; simp);have hz:zCi e=([c1||c2||c3,a1||c4||c5,a2||c4||c5||c6].all id):=by
     unfold zCi;rw[d2,d3,d4,d5,d6,m1,m2,show decide (e.name=e0)=c1 from k1];simp[Bool.and_assoc]
    have cz:=zero_w Z (t,true) [c1||c2||c3,a1||c4||c5,a2||c4||c5||c6] (by simp);rw[<-hz]at cz;obtain⟨v,hv⟩:=zX (wOk (zCi e) (t,true));rw[hv]at cz h ⊢;have hvt:v.1=t:=(by rw[<-hv]; rfl);refine EFn.gV [(900,900),(905,905),(7777777,7777777)] cz ?_ ?_
    ·simp only[ZE,seval,KE,wae,wac,zPW,zAa]
    rintro V ol new ⟨rfl,rfl,rfl⟩;by_cases h1:e.op=1
    ·obtain rfl:c4=true:=(by rw[<-k4,h1]; rfl);have hO:opW (zA6 d) e v=wS (⟨#[93]⟩:ByteArray) (zBl e.w (wS (⟨#[32,58,32]⟩:ByteArray) (zBl e.k (wS (⟨#[91]⟩:ByteArray) v)))):=(by unfold opW; rw[if_pos h1]);rw[hO]at h ⊢;have l4:=wam (zAw _ _) h;have l3:=wam (zAU _ _) l4;have l2:=wam (zAw _ _) l3;have l1:=wam (zAU _ _) l2;simp only[ZE,seval,KE,k4,zPW,zAa];refine EFn.gV [(0,900),(5,905)] (zAv ((⟨#[91]⟩:ByteArray)) (v) (l1)) ?_ ?_
     ·simp only[ZE,seval,prO,KE,zPW,zAa]
     rintro V ol new ⟨rfl,rfl,rfl⟩;simp only[ZE,seval,prO,KE,zPW,zAa];refine EFn.gV [(900,900),(905,905),(7777777,7777777)] (zEl Z hZ e.k q1 _ l2) ?_ ?_
     ·simp only[ZE,seval,KE,zPW,zAa]
     rintro V ol new ⟨rfl,rfl,rfl⟩;simp only[ZE,seval,KE,zPW,zAa];refine EFn.gV [(0,900),(5,905)] (zAv ((⟨#[32,58,32]⟩:ByteArray)) (zBl e.k (wS (⟨#[91]⟩:ByteArray) v)) (l3)) ?_ ?_
     ·simp only[ZE,seval,prO,KE,zPW,zAa]
     rintro V ol new ⟨rfl,rfl,rfl⟩;simp only[ZE,seval,prO,KE,zPW,zAa];refine EFn.gV [(900,900),(905,905),(7777777,7777777)] (zEl Z hZ e.w q2 _ l4) ?_ ?_
     ·simp only[ZE,seval,KE,zPW,zAa]
     rintro V ol new ⟨rfl,rfl,rfl⟩;simp only[ZE,seval,KE,zPW,zAa];refine EFn.gV [(0,900),(5,905)] (zAv ((⟨#[93]⟩:ByteArray)) (zBl e.w (wS (⟨#[32,58,32]⟩:ByteArray) (zBl e.k (wS (⟨#[91]⟩:ByteArray) v)))) (h)) ?_ ?_
     ·simp only[ZE,seval,prO,KE,zPW,zAa]
     rintro V ol new ⟨rfl,rfl,rfl⟩;simp only[ZE,seval,prO,KE,zPW,zAa];refine⟨[3,1999],[],?_⟩;simp only[ZE,seval,zHH,zht,AV.core,zPW,zAa,prO]
     first | exact⟨rfl,(zAd _).symm⟩ | exact(zAd _).symm | exact rfl | skip
    have g1:(e.op==1)=false:=(by simp[h1]);by_cases h2:e.op=14
    ·have g2:(e.op==14)=true:=(by simp[h2]);have hO:opW (zA6 d) e v=(zAu e.name v):=(by unfold opW; rw[if_neg h1,if_pos h2] <;> rfl);rw[hO]at h ⊢;simp only[ZE,seval,KE,g1,g2,zPW,zAa];refine EFn.gV [(900,900),(905,905),(7777777,7777777)] (zBP Z hZ e.name q3 _ h) ?_ ?_
     ·simp only[ZE,seval,KE,zPW,zAa]
     rintro V ol new ⟨rfl,rfl,rfl⟩;simp only[ZE,seval,prO,KE,zPW,zAa];refine⟨[3,1999],[],?_⟩;simp only[ZE,seval,zHH,zht,AV.core,zPW,zAa,prO]
     first | exact⟨rfl,(zAd _).symm⟩ | exact(zAd _).symm | exact rfl | skip
    have g2:(e.op==14)=false:=(by simp[h2]);by_cases h3:e.op=15
    ·have g3:(e.op==15)=true:=(by simp[h3]);have har2:ar=1:=(by rw[<-har,h3]; rfl);have hi0:0<e.args.length:=(by omega);have hO:opW (zA6 d) e v=(wS (⟨#[93]⟩:ByteArray) (zA6 d (e.args.getD 0 x0) (wS (⟨#[91]⟩:ByteArray) (zAu e.name v)))):=(by unfold opW; rw[if_neg h1,if_neg h2,if_pos h3] <;> rfl);rw[hO]at h ⊢;have l2:=wam (zAw _ _) h;have m1:(wS (⟨#[91]⟩:ByteArray) (zAu e.name v)).1.size <=LIM:=wam (zBp d _ _) l2;have l1:=wam (zAw _ _) m1;simp only[ZE,seval,KE,g1,g2,g3,zPW,zAa];refine EFn.gV [(900,900),(905,905),(7777777,7777777)] (zBP Z hZ e.name q3 _ l1) ?_ ?_
     ·simp only[ZE,seval,KE,zPW,zAa]
     rintro V ol new ⟨rfl,rfl,rfl⟩;simp only[ZE,seval,KE,g1,g2,g3,zPW,zAa];refine EFn.gV [(95,3),(900,900),(905,905),(7777777,7777777)] (cl_w Z d hd2 e.op e.name e.k e.w e.args ((⟨#[91]⟩:ByteArray)) 0 hi0 hn ((zAu e.name v)) _ (m1) (ih _ _ hd2 (hx 0 hi0) (l2))) ?_ ?_
     ·simp only[ZE,seval,hdd,KE,pwC,zPW,zAa]
     rintro V ol new ⟨rfl,rfl,rfl⟩;simp only[ZE,seval,prO,KE,g1,g2,g3,pwC,zPW,zAa];refine EFn.gV [(0,900),(5,905)] (zAv ((⟨#[93]⟩:ByteArray)) ((zA6 d (e.args.getD 0 x0) (wS (⟨#[91]⟩:ByteArray) (zAu e.name v)))) (h)) ?_ ?_
     ·simp only[ZE,seval,prO,KE,zPW,zAa]
     rintro V ol new ⟨rfl,rfl,rfl⟩;simp only[ZE,seval,prO,KE,zPW,zAa];refine⟨[3,1999],[],?_⟩;simp only[ZE,seval,zHH,zht,AV.core,zPW,zAa,prO]
     first | exact⟨rfl,(zAd _).symm⟩ | exact(zAd _).symm | exact rfl | skip
    have g3:(e.op==15)=false:=(by simp[h3]);by_cases h4:e.op=2
    ·have g4:(e.op==2)=true:=(by simp[h4]);have har2:ar=1:=(by rw[<-har,h4]; rfl);have hi0:0<e.args.length:=(by omega);have hO:opW (zA6 d) e v=(zA6 d (e.args.getD 0 x0) (wS (⟨#[126]⟩:ByteArray) v)):=(by unfold opW; rw[if_neg h1,if_neg h2,if_neg h3,if_pos h4] <;> rfl);rw[hO]at h ⊢;have m0:(wS (⟨#[126]⟩:ByteArray) v).1.size <=LIM:=wam (zBp d _ _) h;simp only[ZE,seval,KE,g1,g2,g3,g4,zPW,zAa];refine EFn.gV [(95,3),(900,900),(905,905),(7777777,7777777)] (cl_w Z d hd2 e.op e.name e.k e.w e.args ((⟨#[126]⟩:ByteArray)) 0 hi0 hn (v) _ (m0) (ih _ _ hd2 (hx 0 hi0) (h))) ?_ ?_
     ·simp only[ZE,seval,hdd,KE,pwC,zPW,zAa]
     rintro V ol new ⟨rfl,rfl,rfl⟩;simp only[ZE,seval,KE,pwC,zPW,zAa];refine⟨[3,1999],[],?_⟩;simp only[ZE,seval,zHH,zht,AV.core,zPW,zAa,prO]
     first | exact⟨rfl,(zAd _).symm⟩ | exact(zAd _).symm | exact rfl | skip
    have g4:(e.op==2)=false:=(by simp[h4]);by_cases h5:e.op=10
    ·have g5:(e.op==10)=true:=(by simp[h5]);have har2:ar=3:=(by rw[<-har,h5]; rfl);have hi0:0<e.args.length:=(by omega);have hi1:1<e.args.length:=(by omega);have hi2:2<e.args.length:=(by omega);have hO:opW (zA6 d) e v=(wS (⟨#[41]⟩:ByteArray) (zA6 d (e.args.getD 2 x0) (wS (⟨#[32,58,32]⟩:ByteArray) (zA6 d (e.args.getD 1 x0) (wS (⟨#[32,63,32]⟩:ByteArray) (zA6 d (e.args.getD 0 x0) (wS (⟨#[40]⟩:ByteArray) v))))))):=(by unfold opW; rw[if_neg h1,if_neg h2,if_neg h3,if_neg h4,if_pos h5] <;> rfl);rw[hO]at h ⊢;have l3:=wam (zAw _ _) h;have m2:(wS (⟨#[32,58,32]⟩:ByteArray) (zA6 d (e.args.getD 1 x0) (wS (⟨#[32,63,32]⟩:ByteArray) (zA6 d (e.args.getD 0 x0) (wS (⟨#[40]⟩:ByteArray) v))))).1.size <=LIM:=wam (zBp d _ _) l3;have l2:=wam (zAw _ _) m2;have m1:(wS (⟨#[32,63,32]⟩:ByteArray) (zA6 d (e.args.getD 0 x0) (wS (⟨#[40]⟩:ByteArray) v))).1.size <=LIM:=wam (zBp d _ _) l2;have l1:=wam (zAw _ _) m1;have m0:(wS (⟨#[40]⟩:ByteArray) v).1.size <=LIM:=wam (zBp d _ _) l1;simp only[ZE,seval,KE,g1,g2,g3,g4,g5,zPW,zAa];refine EFn.gV [(95,3),(900,900),(905,905),(7777777,7777777)] (cl_w Z d hd2 e.op e.name e.k e.w e.args ((⟨#[40]⟩:ByteArray)) 0 hi0 hn (v) _ (m0) (ih _ _ hd2 (hx 0 hi0) (l1))) ?_ ?_
     ·simp only[ZE,seval,hdd,KE,pwC,zPW,zAa]
     rintro V ol new ⟨rfl,rfl,rfl⟩;simp only[ZE,seval,prO,KE,g1,g2,g3,g4,g5,pwC,zPW,zAa];refine EFn.gV [(95,3),(900,900),(905,905),(7777777,7777777)] (cl_w Z d hd2 e.op e.name e.k e.w e.args ((⟨#[32,63,32]⟩:ByteArray)) 1 hi1 hn ((zA6 d (e.args.getD 0 x0) (wS (⟨#[40]⟩:ByteArray) v))) _ (m1) (ih _ _ hd2 (hx 1 hi1) (l2))) ?_ ?_
     ·simp only[ZE,seval,hdd,KE,pwC,zPW,zAa]
     rintro V ol new ⟨rfl,rfl,rfl⟩;simp only[ZE,seval,prO,KE,g1,g2,g3,g4,g5,pwC,zPW,zAa];refine EFn.gV [(95,3),(900,900),(905,905),(7777777,7777777)] (cl_w Z d hd2 e.op e.name e.k e.w e.args ((⟨#[32,58,32]⟩:ByteArray)) 2 hi2 hn ((zA6 d (e.args.getD 1 x0) (wS (⟨#[32,63,32]⟩:ByteArray) (zA6 d (e.args.getD 0 x0) (wS (⟨#[40]⟩:ByteArray) v))))) _ (m2) (ih _ _ hd2 (hx 2 hi2) (l3))) ?_ ?_
     ·simp only[ZE,seval,hdd,KE,pwC,zPW,zAa]
     rintro V ol new ⟨rfl,rfl,rfl⟩;simp only[ZE,seval,prO,KE,g1,g2,g3,g4,g5,pwC,zPW,zAa];refine EFn.gV [(0,900),(5,905)] (zAv ((⟨#[41]⟩:ByteArray)) ((zA6 d (e.args.getD 2 x0) (wS (⟨#[32,58,32]⟩:ByteArray) (zA6 d (e.args.getD 1 x0) (wS (⟨#[32,63,32]⟩:ByteArray) (zA6 d (e.args.getD 0 x0) (wS (⟨#[40]⟩:ByteArray) v))))))) (h)) ?_ ?_
     ·simp only[ZE,seval,prO,KE,zPW,zAa]
     rintro V ol new ⟨rfl,rfl,rfl⟩;simp only[ZE,seval,prO,KE,zPW,zAa];refine⟨[3,1999],[],?_⟩;simp only[ZE,seval,zHH,zht,AV.core,zPW,zAa,prO]
     first | exact⟨rfl,(zAd _).symm⟩ | exact(zAd _).symm | exact rfl | skip
    have g5:(e.op==10)=false:=(by simp[h5]);by_cases h6:e.op=12
    ·have g6:(e.op==12)=true:=(by simp[h6]);have har2:ar=1:=(by rw[<-har,h6]; rfl);have hi0:0<e.args.length:=(by omega);have hO:opW (zA6 d) e v=(wS (⟨#[125]⟩:ByteArray) (zBl e.w (wS (⟨#[32,58,32]⟩:ByteArray) (zBl e.k (wS (⟨#[32,64,32]⟩:ByteArray) (zA6 d (e.args.getD 0 x0) (wS (⟨#[123]⟩:ByteArray) v))))))):=(by unfold opW; rw[if_neg h1,if_neg h2,if_neg h3,if_neg h4,if_neg h5,if_pos h6] <;> rfl);rw[hO]at h ⊢;have l5:=wam (zAw _ _) h;have l4:=wam (zAU _ _) l5;have l3:=wam (zAw _ _) l4;have l2:=wam (zAU _ _) l3;have l1:=wam (zAw _ _) l2;have m0:(wS (⟨#[123]⟩:ByteArray) v).1.size <=LIM:=wam (zBp d _ _) l1;simp only[ZE,seval,KE,g1,g2,g3,g4,g5,g6,zPW,zAa];refine EFn.gV [(95,3),(900,900),(905,905),(7777777,7777777)] (cl_w Z d hd2 e.op e.name e.k e.w e.args ((⟨#[123]⟩:ByteArray)) 0 hi0 hn (v) _ (m0) (ih _ _ hd2 (hx 0 hi0) (l1))) ?_ ?_
     ·simp only[ZE,seval,hdd,KE,pwC,zPW,zAa]
     rintro V ol new ⟨rfl,rfl,rfl⟩;simp only[ZE,seval,prO,KE,g1,g2,g3,g4,g5,g6,pwC,zPW,zAa];refine EFn.gV [(0,900),(5,905)] (zAv ((⟨#[32,64,32]⟩:ByteArray)) ((zA6 d (e.args.getD 0 x0) (wS (⟨#[123]⟩:ByteArray) v))) (l2)) ?_ ?_
     ·simp only[ZE,seval,prO,KE,zPW,zAa]
     rintro V ol new ⟨rfl,rfl,rfl⟩;simp only[ZE,seval,prO,KE,g1,g2,g3,g4,g5,g6,zPW,zAa];refine EFn.gV [(900,900),(905,905),(7777777,7777777)] (zEl Z hZ e.k q1 _ l3) ?_ ?_
     ·simp only[ZE,seval,KE,zPW,zAa]
     rintro V ol new ⟨rfl,rfl,rfl⟩;simp only[ZE,seval,KE,g1,g2,g3,g4,g5,g6,zPW,zAa];refine EFn.gV [(0,900),(5,905)] (zAv ((⟨#[32,58,32]⟩:ByteArray)) ((zBl e.k (wS (⟨#[32,64,32]⟩:ByteArray) (zA6 d (e.args.getD 0 x0) (wS (⟨#[123]⟩:ByteArray) v))))) (l4)) ?_ ?_
     ·simp only[ZE,seval,prO,KE,zPW,zAa]
     rintro V ol new ⟨rfl,rfl,rfl⟩;simp only[ZE,seval,prO,KE,g1,g2,g3,g4,g5,g6,zPW,zAa];refine EFn.gV [(900,900),(905,905),(7777777,7777777)] (zEl Z hZ e.w q2 _ l5) ?_ ?_
     ·simp only[ZE,seval,KE,zPW,zAa]
     rintro V ol new ⟨rfl,rfl,rfl⟩;simp only[ZE,seval,KE,g1,g2,g3,g4,g5,g6,zPW,zAa];refine EFn.gV [(0,900),(5,905)] (zAv ((⟨#[125]⟩:ByteArray)) ((zBl e.w (wS (⟨#[32,58,32]⟩:ByteArray) (zBl e.k (wS (⟨#[32,64,32]⟩:ByteArray) (zA6 d (e.args.getD 0 x0) (wS (⟨#[123]⟩:ByteArray) v))))))) (h)) ?_ ?_
     ·simp only[ZE,seval,prO,KE,zPW,zAa]
     rintro V ol new ⟨rfl,rfl,rfl⟩;simp only[ZE,seval,prO,KE,zPW,zAa];refine⟨[3,1999],[],?_⟩;simp only[ZE,seval,zHH,zht,AV.core,zPW,zAa,prO]
     first | exact⟨rfl,(zAd _).symm⟩ | exact(zAd _).symm | exact rfl | skip
    have g6:(e.op==12)=false:=(by simp[h6]);by_cases h7:e.op=13
    ·have g7:(e.op==13)=true:=(by simp[h7]);have har2:ar=1:=(by rw[<-har,h7]; rfl);have hi0:0<e.args.length:=(by omega);have hO:opW (zA6 d) e v=(wS (⟨#[125]⟩:ByteArray) (zBl e.w (wS (⟨#[32,58,32]⟩:ByteArray) (zA6 d (e.args.getD 0 x0) (wS (⟨#[123]⟩:ByteArray) v))))):=(by unfold opW; rw[if_neg h1,if_neg h2,if_neg h3,if_neg h4,if_neg h5,if_neg h6,if_pos h7] <;> rfl);rw[hO]at h ⊢;have l3:=wam (zAw _ _) h;have l2:=wam (zAU _ _) l3;have l1:=wam (zAw _ _) l2;have m0:(wS (⟨#[123]⟩:ByteArray) v).1.size <=LIM:=wam (zBp d _ _) l1;simp only[ZE,seval,KE,g1,g2,g3,g4,g5,g6,g7,zPW,zAa];refine EFn.gV [(95,3),(900,900),(905,905),(7777777,7777777)] (cl_w Z d hd2 e.op e.name e.k e.w e.args ((⟨#[123]⟩:ByteArray)) 0 hi0 hn (v) _ (m0) (ih _ _ hd2 (hx 0 hi0) (l1))) ?_ ?_
     ·simp only[ZE,seval,hdd,KE,pwC,zPW,zAa]
     rintro V ol new ⟨rfl,rfl,rfl⟩;simp only[ZE,seval,prO,KE,g1,g2,g3,g4,g5,g6,g7,pwC,zPW,zAa];refine EFn.gV [(0,900),(5,905)] (zAv ((⟨#[32,58,32]⟩:ByteArray)) ((zA6 d (e.args.getD 0 x0) (wS (⟨#[123]⟩:ByteArray) v))) (l2)) ?_ ?_
     ·simp only[ZE,seval,prO,KE,zPW,zAa]
     rintro V ol new ⟨rfl,rfl,rfl⟩;simp only[ZE,seval,prO,KE,g1,g2,g3,g4,g5,g6,g7,zPW,zAa];refine EFn.gV [(900,900),(905,905),(7777777,7777777)] (zEl Z hZ e.w q2 _ l3) ?_ ?_
     ·simp only[ZE,seval,KE,zPW,zAa]
     rintro V ol new ⟨rfl,rfl,rfl⟩;simp only[ZE,seval,KE,g1,g2,g3,g4,g5,g6,g7,zPW,zAa];refine EFn.gV [(0,900),(5,905)] (zAv ((⟨#[125]⟩:ByteArray)) ((zBl e.w (wS (⟨#[32,58,32]⟩:ByteArray) (zA6 d (e.args.getD 0 x0) (wS (⟨#[123]⟩:ByteArray) v))))) (h)) ?_ ?_
     ·simp only[ZE,seval,prO,KE,zPW,zAa]
     rintro V ol new ⟨rfl,rfl,rfl⟩;simp only[ZE,seval,prO,KE,zPW,zAa];refine⟨[3,1999],[],?_⟩;simp only[ZE,seval,zHH,zht,AV.core,zPW,zAa,prO]
     first | exact⟨rfl,(zAd _).symm⟩ | exact(zAd _).symm | exact rfl | skip
    have g7:(e.op==13)=false:=(by simp[h7]);have har2:ar=2:=by
     unfold zBi at har;rw[if_neg (by omega),if_neg (by omega),if_neg h5]at har;split at har <;> omega
    have hi0:0<e.args.length:=(by omega);have hi1:1<e.args.length:=(by omega);have hO:opW (zA6 d) e v=(wS (⟨#[41]⟩:ByteArray) (zA6 d (e.args.getD 1 x0) (wS ((⟨#[32]⟩:ByteArray)++zAS e.op++(⟨#[32]⟩:ByteArray)) (zA6 d (e.args.getD 0 x0) (wS (⟨#[40]⟩:ByteArray) v))))):=(by unfold opW; rw[if_neg h1,if_neg h2,if_neg h3,if_neg h4,if_neg h5,if_neg h6,if_neg h7] <;> rfl);rw[hO]at h ⊢;have l2:=wam (zAw _ _) h;have m1:(wS ((⟨#[32]⟩:ByteArray)++zAS e.op++(⟨#[32]⟩:ByteArray)) (zA6 d (e.args.getD 0 x0) (wS (⟨#[40]⟩:ByteArray) v))).1.size <=LIM:=wam (zBp d _ _) l2;have l1:=wam (zAw _ _) m1;have m0:(wS (⟨#[40]⟩:ByteArray) v).1.size <=LIM:=wam (zBp d _ _) l1;simp only[ZE,seval,KE,g1,g2,g3,g4,g5,g6,g7,zPW,zAa];refine EFn.gV [(95,3),(900,900),(905,905),(7777777,7777777)] (cl_w Z d hd2 e.op e.name e.k e.w e.args ((⟨#[40]⟩:ByteArray)) 0 hi0 hn (v) _ (m0) (ih _ _ hd2 (hx 0 hi0) (l1))) ?_ ?_
    ·simp only[ZE,seval,hdd,KE,pwC,zPW,zAa]
    rintro V ol new ⟨rfl,rfl,rfl⟩;simp only[ZE,seval,KE,g1,g2,g3,g4,g5,g6,g7,pwC,zPW,zAa];refine EFn.gV [(7777777,7777777)] (sign_c Z hZ e.op) ?_ ?_
    ·simp only[ZE,seval,KE,pwC,zPW,zAa]
    rintro V ol new ⟨rfl,rfl,rfl⟩;simp only[ZE,seval,KE,g1,g2,g3,g4,g5,g6,g7,pwC,zPW,zAa];have hsz:=sign_size e.op;have hz1:(⟨#[32]⟩:ByteArray).size =1:=rfl;refine⟨?_,?_,?_⟩
    ·show((_:Nat):Int)<=9223372036854775807;rw[hz1]; omega
    ·show((_:Nat):Int)<=9223372036854775807;rw[ByteArray.size_append,hz1]; omega
    refine EFn.gV [(95,3),(900,900),(905,905),(7777777,7777777)] (cl_w Z d hd2 e.op e.name e.k e.w e.args (((⟨#[32]⟩:ByteArray)++zAS e.op++(⟨#[32]⟩:ByteArray))) 1 hi1 hn ((zA6 d (e.args.getD 0 x0) (wS (⟨#[40]⟩:ByteArray) v))) _ (m1) (ih _ _ hd2 (hx 1 hi1) (l2))) ?_ ?_
    ·simp only[ZE,seval,hdd,KE,pwC,zPW,zAa]
    rintro V ol new ⟨rfl,rfl,rfl⟩;simp only[ZE,seval,prO,KE,g1,g2,g3,g4,g5,g6,g7,pwC,zPW,zAa];refine EFn.gV [(0,900),(5,905)] (zAv ((⟨#[41]⟩:ByteArray)) ((zA6 d (e.args.getD 1 x0) (wS ((⟨#[32]⟩:ByteArray)++zAS e.op++(⟨#[32]⟩:ByteArray)) (zA6 d (e.args.getD 0 x0) (wS (⟨#[40]⟩:ByteArray) v))))) (h)) ?_ ?_
    ·simp only[ZE,seval,prO,KE,zPW,zAa]
    rintro V ol new ⟨rfl,rfl,rfl⟩;simp only[ZE,seval,prO,KE,zPW,zAa];refine⟨[3,1999],[],?_⟩;simp only[ZE,seval,zHH,zht,AV.core,zPW,zAa,prO]
    first | exact⟨rfl,(zAd _).symm⟩ | exact(zAd _).symm | exact rfl | skip
theorem expr_w(Z:GP)(hZ:Z.Ok): ∀(d:Nat) (e:Expr) (w:PW),d<=1000->zDp d e->(zA6 d e w).1.size <=LIM->WCon Z 137 [.d (.agg (zbx e)),.d (eI d)] w (zA6 d e w) (.tup [])
 | 0,e,w,_,_,_=>expr0_w Z e w
 | d+1,e,w,hd,hR,h=>exprS_w Z hZ d (expr_w Z hZ d) e w hd hR h
def bl:Pc:=(0,(⟨#[32]⟩:ByteArray))
def nl:Pc:=(0,(⟨#[10]⟩:ByteArray))
def sg(s:Bts):Pc:=(3,s)
def nm(s:Bts):Pc:=(1,s)
def nu(n:Int):Pc:=(2,zB2 n)
def zCf(n:Int):Bool:=decide (n>=0)&&decide (n<=1000000)
def zAD(x:Num):List Pc:=
 if x.p=e0 then [nu x.n]else if x.n>0 then [nm x.p,bl,sg (⟨#[43]⟩:ByteArray),bl,nu x.n]else if x.n<0 then [nm x.p,bl,sg (⟨#[45]⟩:ByteArray),bl,nu (-x.n)]else [nm x.p]
def zAX(x:Num):Bool:=if x.p=e0 then zCf x.n else zAN x.p&&(decide (x.n>= -1000000)&&decide (x.n<=1000000))
def zDn(rec:Expr->List Pc)(e:Expr):List Pc:=
 if e.op=1 then sg (⟨#[91]⟩:ByteArray)::(zAD e.k++([bl,sg (⟨#[58]⟩:ByteArray),bl]++(zAD e.w++[sg (⟨#[93]⟩:ByteArray)])))
 else if e.op=14 then [nm e.name]
 else if e.op=15 then nm e.name::sg (⟨#[91]⟩:ByteArray)::(rec (e.args.getD 0 x0)++[sg (⟨#[93]⟩:ByteArray)])
 else if e.op=2 then sg (⟨#[126]⟩:ByteArray)::rec (e.args.getD 0 x0)
 else if e.op=10 then sg (⟨#[40]⟩:ByteArray)::(rec (e.args.getD 0 x0)++([bl,sg (⟨#[63]⟩:ByteArray),bl]++(rec (e.args.getD 1 x0)++([bl,sg (⟨#[58]⟩:ByteArray),bl]++(rec (e.args.getD 2 x0)++[sg (⟨#[41]⟩:ByteArray)])))))
 else if e.op=12 then sg (⟨#[123]⟩:ByteArray)::(rec (e.args.getD 0 x0)++([bl,sg (⟨#[64]⟩:ByteArray),bl]++(zAD e.k++([bl,sg (⟨#[58]⟩:ByteArray),bl]++(zAD e.w++[sg (⟨#[125]⟩:ByteArray)])))))
 else if e.op=13 then sg (⟨#[123]⟩:ByteArray)::(rec (e.args.getD 0 x0)++([bl,sg (⟨#[58]⟩:ByteArray),bl]++(zAD e.w++[sg (⟨#[125]⟩:ByteArray)])))
 else sg (⟨#[40]⟩:ByteArray)::(rec (e.args.getD 0 x0)++([bl,sg (zAS e.op),bl]++(rec (e.args.getD 1 x0)++[sg (⟨#[41]⟩:ByteArray)])))
def zCj(rec:Expr->Bool)(e:Expr):Bool:=
 if e.op=1 then zAX e.k&&zAX e.w
 else if e.op=14 then zAN e.name
 else if e.op=15 then zAN e.name&&rec (e.args.getD 0 x0)
 else if e.op=2 then rec (e.args.getD 0 x0)
 else if e.op=10 then rec (e.args.getD 0 x0)&&(rec (e.args.getD 1 x0)&&rec (e.args.getD 2 x0))
 else if e.op=12 then rec (e.args.getD 0 x0)&&(zAX e.k&&zAX e.w)
 else if e.op=13 then rec (e.args.getD 0 x0)&&zAX e.w
 else rec (e.args.getD 0 x0)&&rec (e.args.getD 1 x0)
def zAA:Nat->Expr->List Pc
 | 0,_=>[]
 | d+1,e=>zDn (zAA d) e
def zAB:Nat->Expr->Bool
 | 0,_=>false
 | d+1,e=>decide ((e.args.length:Int)=zBi e.op)&&(zCi e&&zCj (zAB d) e)
def zBk(r:Rule):List Pc:=
 if r.kind=0 then [nm (⟨#[105,110,105,116]⟩:ByteArray)]else if r.kind=1 then [nm (⟨#[107,101,101,112]⟩:ByteArray)]else if r.kind=2 then [nm (⟨#[99,111,112,121]⟩:ByteArray),bl,nm r.from']else [nm (⟨#[97,100,100]⟩:ByteArray),bl,nm r.from',bl,nu r.n]
def zBZ(r:Rule):Bool:=
 ((decide (r.from'=e0)||decide (r.kind>=2))&&(decide (r.n=0)||decide (r.kind=3)))&&
 (if r.kind=0 then true else if r.kind=1 then true else if r.kind=2 then zAN r.from' else if r.kind=3 then zAN r.from'&&zCf r.n else false)
def zBU{α:Type}(one:α->List Pc):List α->List Pc
 | []=>[]
 | [x]=>one x
 | x::y::r=>one x++(sg (⟨#[44]⟩:ByteArray)::bl::zBU one (y::r))
def zA5{α:Type}(one:α->List Pc)(l:List α):List Pc:=sg (⟨#[40]⟩:ByteArray)::(zBU one l++[sg (⟨#[41]⟩:ByteArray)])
def zBz(b:Bind):List Pc:=[nm b.port,bl,sg (⟨#[61]⟩:ByteArray),bl,nm b.chan]
def zCL(b:Bind):Bool:=zAN b.port&&zAN b.chan
def zBt(s:Bts):List Pc:=[nm s]
def zB7(x:Item):List Pc:=
 if x.kind=4 then [bl,sg (⟨#[61]⟩:ByteArray),bl]++(zAD x.init++([bl,sg (⟨#[45,62]⟩:ByteArray),bl]++(zAA 8 x.a++(bl::zBk x.rule))))
 else if x.kind=5 then [bl,sg (⟨#[61]⟩:ByteArray),bl]++zAA 8 x.a
 else if x.kind=6 then [bl,nm (⟨#[105,102]⟩:ByteArray),bl]++(zAA 8 x.a++([bl,nm (⟨#[97,116]⟩:ByteArray),bl]++(zAA 8 x.b++([bl,sg (⟨#[61]⟩:ByteArray),bl]++(zAA 8 x.c++(bl::zBk x.rule))))))
 else if x.kind=7 then [bl,nm (⟨#[105,102]⟩:ByteArray),bl]++zAA 8 x.a
 else if x.kind=8 then [bl,nm (⟨#[105,102]⟩:ByteArray),bl]++(zAA 8 x.a++([bl,sg (⟨#[61]⟩:ByteArray),bl]++zAA 8 x.b))
 else if x.kind=9 then [sg (⟨#[58]⟩:ByteArray),bl,nm x.of]++(zA5 zAD x.args++(bl::zA5 zBz x.ports))
 else []
def zBB(x:Item):Bool:=
 if x.kind=4 then zAX x.init&&(zAB 8 x.a&&zBZ x.rule)
 else if x.kind=5 then zAB 8 x.a
 else if x.kind=6 then zAB 8 x.a&&(zAB 8 x.b&&(zAB 8 x.c&&zBZ x.rule))
 else if x.kind=7 then zAB 8 x.a
 else if x.kind=8 then zAB 8 x.a&&zAB 8 x.b
 else if x.kind=9 then zAN x.of&&(x.args.all zAX&&x.ports.all zCL)
 else true
def zDL(x:Item):List Pc:=if x.kind<=6 then [sg (⟨#[58]⟩:ByteArray),bl]++zAD x.width else []
def zDx(x:Item):List Pc:=if x.kind=3\/x.kind=6 then [bl,sg (⟨#[91]⟩:ByteArray)]++(zAD x.depth++[sg (⟨#[93]⟩:ByteArray)])else []
def zAV(x:Item):List Pc:=[nm (kwL.getD (x.kind-1).toNat e0),bl,nm x.name]++(zDL x++(zDx x++zB7 x))
def zAW(x:Item):Bool:=
 decide (1<=x.kind/\x.kind<=9)&&(zDm x&&(zAN x.name&&((if x.kind<=6 then zAX x.width else true)&&((if x.kind=3\/x.kind=6 then zAX x.depth else true)&&zBB x))))
def zAJ:List Item->List Pc
 | []=>[]
 | x::r=>[bl,bl]++(zAV x++(sg (⟨#[59]⟩:ByteArray)::nl::zAJ r))
def zBQ(m:Module):List Pc:=[nm (⟨#[109,111,100,117,108,101]⟩:ByteArray),bl,nm m.name]++(zA5 zBt m.params++[bl,sg (⟨#[64]⟩:ByteArray),bl,nm m.clock,bl])
def zAE(m:Module):List Pc:=zBQ m++([sg (⟨#[123]⟩:ByteArray),nl]++(zAJ m.items++[sg (⟨#[125]⟩:ByteArray),nl]))
def zAG(m:Module):Bool:=zAN m.name&&(m.params.all zAN&&(zAN m.clock&&m.items.all zAW))
def zAk:List Module->List Pc
 | []=>[]
 | m::r=>zAE m++zAk r
structure WLaw (f:PW->PW) (fit:Bool) (ps:List Pc):Prop where
 ok:fit=true-> ∀t,f (t,true)=(t++pcB ps,true)
 no:fit=false-> ∀t,(f (t,true)).2 =false
 bad: ∀t,(f (t,false)).2 =false
theorem zEo(t:Bts):t++e0=t:=by apply ByteArray.ext; simp[ByteArray.data_append,e0]
theorem zIS(a b c:Bts):a++b++c=a++(b++c):=by apply ByteArray.ext; simp[ByteArray.data_append]
theorem WLaw.comp{f g:PW->PW}{a b:Bool}{p q:List Pc}(hf:WLaw f a p)(hg:WLaw g b q):WLaw (fun w=>g (f w)) (a&&b) (p++q):=by
 refine⟨fun h t=> ?_,fun h t=> ?_,fun t=> ?_⟩
 ·simp only[wao]at h;simp only[hf.ok h.1,hg.ok h.2,zAx,zIS]
 ·cases ha:a with
  | false=>
   have:=hf.no ha t;rw[show f (t,true)=((f (t,true)).1,false)from Prod.ext rfl this];exact hg.bad _
  | true=>
   rw[hf.ok ha];rw[ha]at h;exact hg.no h _
 ·rw[show f (t,false)=((f (t,false)).1,false)from Prod.ext rfl (hf.bad t)];exact hg.bad _
theorem WLaw.s{s:Bts}{ps:List Pc}(h:pcB ps=s):WLaw (wS s) true ps:=by
 subst h;exact⟨fun _ _=>rfl,fun h=>(by cases h),fun _=>rfl⟩
theorem WLaw.okb(b:Bool):WLaw (wOk b) b []:=by
 refine⟨fun h t=> ?_,fun h t=> ?_,fun t=> ?_⟩
 ·simp[wOk,h,pcB,zEo]
 ·simp[wOk,h]
 ·simp[wOk]
theorem WLaw.cast{f g:PW->PW}{a b:Bool}{p q:List Pc}(h:WLaw f a p)(hf: ∀w,f w=g w)(ha:a=b)(hp:a=true->pcB p=pcB q):WLaw g b q:=by
 subst ha;rw[show g=f from funext fun w=>(hf w).symm];exact⟨fun h1 t=>by rw[<-hp h1]; exact h.ok h1 t,h.no,h.bad⟩
theorem zCh(s:Bts):WLaw (zAu s) (zAN s) [nm s]:=
 (WLaw.comp (WLaw.okb (zAN s)) (WLaw.s (s:=s) (ps:=[nm s]) (by simp[pcB,nm,zEo]))).cast (fun _=>rfl) (Bool.and_true _) (fun _=>rfl)
theorem zFG(n:Int):WLaw (zCr n) (zCf n) [nu n]:=
 (WLaw.comp (WLaw.okb (zCf n)) (WLaw.s (s:=zB2 n) (ps:=[nu n]) (by simp[pcB,nu,zEo]))).cast (fun _=>rfl) (Bool.and_true _) (fun _=>rfl)
theorem zFF(x:Num):WLaw (zBl x) (zAX x) (zAD x):=by
 unfold zAD zAX;by_cases h0:x.p=e0
 ·rw[if_pos h0,if_pos h0];exact(zFG x.n).cast (fun w=>by unfold zBl; rw[if_pos h0]) rfl (fun _=>rfl)
 rw[if_neg h0,if_neg h0];by_cases h1:x.n>0
 ·rw[if_pos h1];refine(((zCh x.p).comp (WLaw.s (s:=(⟨#[32,43,32]⟩:ByteArray)) (ps:=[bl,sg (⟨#[43]⟩:ByteArray),bl]) rfl)).comp (zFG x.n)).cast (fun w=>by unfold zBl; rw[if_neg h0,if_pos h1]) ?_ (fun _=>rfl);rw[show zCf x.n=(decide (x.n>= -1000000)&&decide (x.n<=1000000)) by unfold zCf; rw[wap]; simp only[wao,decide_eq_true_eq]; omega];simp only[Bool.and_true]
 rw[if_neg h1];by_cases h2:x.n<0
 ·rw[if_pos h2];refine((((zCh x.p).comp (WLaw.okb (decide (x.n>= -1000000)))).comp (WLaw.s (s:=(⟨#[32,45,32]⟩:ByteArray)) (ps:=[bl,sg (⟨#[45]⟩:ByteArray),bl]) rfl)).comp (zFG (max (IntKind.i64.wrap (-x.n)) 0))).cast (fun w=>by unfold zBl; rw[if_neg h0,if_neg h1,if_pos h2]) ?_ (fun h=> ?_)
  ·by_cases h3:x.n>= -1000000
   ·have hw:IntKind.i64.wrap (-x.n)= -x.n:=zaQ (by omega) (by omega);rw[hw,show zCf (max (-x.n) 0)=(decide (x.n>= -1000000)&&decide (x.n<=1000000)) by unfold zCf; rw[wap]; simp only[wao,decide_eq_true_eq]; omega];simp[h3]
   ·simp[h3]
  ·simp only[wao,decide_eq_true_eq]at h;have hw:IntKind.i64.wrap (-x.n)= -x.n:=zaQ (by omega) (by omega);rw[hw,show max (-x.n) 0= -x.n by omega];rfl
 ·rw[if_neg h2];refine(zCh x.p).cast (fun w=>by unfold zBl; rw[if_neg h0,if_neg h1,if_neg h2]) ?_ (fun _=>rfl);rw[show(decide (x.n>= -1000000)&&decide (x.n<=1000000))=true by simp only[wao,decide_eq_true_eq]; omega,Bool.and_true]
theorem zFE{rec:Expr->PW->PW}{fit:Expr->Bool}{pc:Expr->List Pc}(hr: ∀e,WLaw (rec e) (fit e) (pc e))(e:Expr){s:Bts}{ps:List Pc}(hs:pcB ps=s)(i:Nat):WLaw (argW rec e s i) (fit (e.args.getD i x0)) (ps++pc (e.args.getD i x0)):=
 ((WLaw.s hs).comp (hr (e.args.getD i x0))).cast (fun _=>rfl) (Bool.true_and _) (fun _=>rfl)
theorem wl_op{rec:Expr->PW->PW}{fit:Expr->Bool}{pc:Expr->List Pc}(hr: ∀e,WLaw (rec e) (fit e) (pc e))(e:Expr):WLaw (opW rec e) (zCj fit e) (zDn pc e):=by
 have ho:WLaw (wS (⟨#[91]⟩:ByteArray)) true [sg (⟨#[91]⟩:ByteArray)]:=WLaw.s rfl;have hc:WLaw (wS (⟨#[93]⟩:ByteArray)) true [sg (⟨#[93]⟩:ByteArray)]:=WLaw.s rfl;have hd:WLaw (wS (⟨#[32,58,32]⟩:ByteArray)) true [bl,sg (⟨#[58]⟩:ByteArray),bl]:=WLaw.s rfl;have hp:WLaw (wS (⟨#[41]⟩:ByteArray)) true [sg (⟨#[41]⟩:ByteArray)]:=WLaw.s rfl;have hb:WLaw (wS (⟨#[125]⟩:ByteArray)) true [sg (⟨#[125]⟩:ByteArray)]:=WLaw.s rfl;have hat:WLaw (wS (⟨#[32,64,32]⟩:ByteArray)) true [bl,sg (⟨#[64]⟩:ByteArray),bl]:=WLaw.s rfl;unfold zCj zDn;by_cases h1:e.op=1
 ·rw[if_pos h1,if_pos h1];exact((((ho.comp (zFF e.k)).comp hd).comp (zFF e.w)).comp hc).cast (fun w=>by unfold opW; rw[if_pos h1]) (by simp) (fun _=>by simp)
 rw[if_neg h1,if_neg h1];by_cases h2:e.op=14
 ·rw[if_pos h2,if_pos h2];exact(zCh e.name).cast (fun w=>by unfold opW; rw[if_neg h1,if_pos h2]) rfl (fun _=>rfl)
 rw[if_neg h2,if_neg h2];by_cases h3:e.op=15
 ·rw[if_pos h3,if_pos h3];exact(((zCh e.name).comp (zFE hr e (s:=(⟨#[91]⟩:ByteArray)) (ps:=[sg (⟨#[91]⟩:ByteArray)]) rfl 0)).comp hc).cast (fun w=>by unfold opW; rw[if_neg h1,if_neg h2,if_pos h3]) (by simp) (fun _=>by simp)
 rw[if_neg h3,if_neg h3];by_cases h4:e.op=2
 ·rw[if_pos h4,if_pos h4];exact(zFE hr e (s:=(⟨#[126]⟩:ByteArray)) (ps:=[sg (⟨#[126]⟩:ByteArray)]) rfl 0).cast (fun w=>by unfold opW; rw[if_neg h1,if_neg h2,if_neg h3,if_pos h4]) rfl (fun _=>by simp)
 rw[if_neg h4,if_neg h4];by_cases h5:e.op=10
 ·rw[if_pos h5,if_pos h5];exact((((zFE hr e (s:=(⟨#[40]⟩:ByteArray)) (ps:=[sg (⟨#[40]⟩:ByteArray)]) rfl 0).comp (zFE hr e (s:=(⟨#[32,63,32]⟩:ByteArray)) (ps:=[bl,sg (⟨#[63]⟩:ByteArray),bl]) rfl 1)).comp (zFE hr e (s:=(⟨#[32,58,32]⟩:ByteArray)) (ps:=[bl,sg (⟨#[58]⟩:ByteArray),bl]) rfl 2)).comp hp).cast (fun w=>by unfold opW; rw[if_neg h1,if_neg h2,if_neg h3,if_neg h4,if_pos h5]) (by simp[Bool.and_assoc]) (fun _=>by simp)
 rw[if_neg h5,if_neg h5];by_cases h6:e.op=12
 ·rw[if_pos h6,if_pos h6];exact((((((zFE hr e (s:=(⟨#[123]⟩:ByteArray)) (ps:=[sg (⟨#[123]⟩:ByteArray)]) rfl 0).comp hat).comp (zFF e.k)).comp hd).comp (zFF e.w)).comp hb).cast (fun w=>by unfold opW; rw[if_neg h1,if_neg h2,if_neg h3,if_neg h4,if_neg h5,if_pos h6]) (by simp[Bool.and_assoc]) (fun _=>by simp)
 rw[if_neg h6,if_neg h6];by_cases h7:e.op=13
 ·rw[if_pos h7,if_pos h7];exact((((zFE hr e (s:=(⟨#[123]⟩:ByteArray)) (ps:=[sg (⟨#[123]⟩:ByteArray)]) rfl 0).comp hd).comp (zFF e.w)).comp hb).cast (fun w=>by unfold opW; rw[if_neg h1,if_neg h2,if_neg h3,if_neg h4,if_neg h5,if_neg h6,if_pos h7]) (by simp[Bool.and_assoc]) (fun _=>by simp)
 rw[if_neg h7,if_neg h7];exact(((zFE hr e (s:=(⟨#[40]⟩:ByteArray)) (ps:=[sg (⟨#[40]⟩:ByteArray)]) rfl 0).comp (zFE hr e (s:=(⟨#[32]⟩:ByteArray)++zAS e.op++(⟨#[32]⟩:ByteArray)) (ps:=[bl,sg (zAS e.op),bl]) (by simp[pcB,bl,sg,zEo,zIS]) 1)).comp hp).cast (fun w=>by unfold opW; rw[if_neg h1,if_neg h2,if_neg h3,if_neg h4,if_neg h5,if_neg h6,if_neg h7]) (by simp) (fun _=>by simp)
theorem wl_expr: ∀(d:Nat) (e:Expr),WLaw (zA6 d e) (zAB d e) (zAA d e)
 | 0,e=>⟨fun h=>(by cases h),fun _ _=>rfl,fun _=>rfl⟩
 | d+1,e=>by
  have L:=(WLaw.okb (zCi e)).comp (wl_op (wl_expr d) e);refine⟨fun h t=> ?_,fun h t=> ?_,fun t=> ?_⟩
  ·simp only[zAB,wao,decide_eq_true_eq]at h;have:=L.ok (by simp only[wao]; exact h.2) t;unfold zA6;rw[if_neg (by simp[h.1])];exact this
  ·unfold zA6;by_cases hl:(e.args.length:Int)=zBi e.op
   ·rw[if_neg (by simp[hl])];refine L.no ?_ t;simpa [zAB,hl]using h
   ·rw[if_pos (.inl hl)]
  ·unfold zA6;rw[if_pos (.inr rfl)]
theorem wl_rule(r:Rule):WLaw (zEn r) (zBZ r) (zBk r):=by
 have hz:=WLaw.okb ((decide (r.from'=e0)||decide (r.kind>=2))&&(decide (r.n=0)||decide (r.kind=3)));unfold zBZ zBk;by_cases h0:r.kind=0
 ·rw[if_pos h0,if_pos h0];exact(hz.comp (WLaw.s (s:=(⟨#[105,110,105,116]⟩:ByteArray)) (ps:=[nm (⟨#[105,110,105,116]⟩:ByteArray)]) rfl)).cast (fun w=>by unfold zEn; rw[if_pos h0]) rfl (fun _=>rfl)
 rw[if_neg h0,if_neg h0];by_cases h1:r.kind=1
 ·rw[if_pos h1,if_pos h1];exact(hz.comp (WLaw.s (s:=(⟨#[107,101,101,112]⟩:ByteArray)) (ps:=[nm (⟨#[107,101,101,112]⟩:ByteArray)]) rfl)).cast (fun w=>by unfold zEn; rw[if_neg h0,if_pos h1]) rfl (fun _=>rfl)
 rw[if_neg h1,if_neg h1];by_cases h2:r.kind=2
 ·rw[if_pos h2,if_pos h2];exact((hz.comp (WLaw.s (s:=(⟨#[99,111,112,121,32]⟩:ByteArray)) (ps:=[nm (⟨#[99,111,112,121]⟩:ByteArray),bl]) rfl)).comp (zCh r.from')).cast (fun w=>by unfold zEn; rw[if_neg h0,if_neg h1,if_pos h2]) (by simp) (fun _=>rfl)
 rw[if_neg h2,if_neg h2];by_cases h3:r.kind=3
 ·rw[if_pos h3];exact((((hz.comp (WLaw.s (s:=(⟨#[97,100,100,32]⟩:ByteArray)) (ps:=[nm (⟨#[97,100,100]⟩:ByteArray),bl]) rfl)).comp (zCh r.from')).comp (WLaw.s (s:=(⟨#[32]⟩:ByteArray)) (ps:=[bl]) rfl)).comp (zFG r.n)).cast (fun w=>by unfold zEn; rw[if_neg h0,if_neg h1,if_neg h2,if_pos h3]) (by simp[Bool.and_assoc]) (fun _=>rfl)
 rw[if_neg h3];refine⟨fun h=>(by simp at h),fun _ t=> ?_,fun t=> ?_⟩
 ·unfold zEn; rw[if_neg h0,if_neg h1,if_neg h2,if_neg h3]; simp[wOk]
 ·unfold zEn; rw[if_neg h0,if_neg h1,if_neg h2,if_neg h3]; simp[wOk]
theorem zHP{α:Type}(one:α->List Pc)(x:α): ∀l:List α,l≠[]->zBU one (l++[x])=zBU one l++(sg (⟨#[44]⟩:ByteArray)::bl::one x)
 | [y],_=>by simp[zBU]
 | y::z::r,_=>by
  have:=zHP one x (z::r) (by simp);simp only[waj]at this ⊢;simp only[zBU,this,wah,waj]
theorem wl_ls{α:Type}{one:α->PW->PW}{fit:α->Bool}{pc:α->List Pc}(ho: ∀x,WLaw (one x) (fit x) (pc x))(z:α)(l:List α): ∀i,i<=l.length->WLaw (wLs one z l i) ((l.take i).all fit) (zBU pc (l.take i))
 | 0,_=>⟨fun _ t=>by simp[wLs,zBU,pcB,zEo],fun h=>(by simp at h),fun _=>rfl⟩
 | i+1,hi=>by
  have ih:=wl_ls ho z l i (by omega);have ht:l.take (i+1)=l.take i++[l.getD i z]:=by
   rw[List.take_add_one,List.getD,wak (by omega)]; rfl
  rw[ht];by_cases h0:0<i
  ·have hne:l.take i≠[]:=by
    intro e;have:=congrArg List.length e;rw[List.length_take,waf]at this;omega
   rw[zHP _ _ _ hne];exact((ih.comp (WLaw.s (s:=(⟨#[44,32]⟩:ByteArray)) (ps:=[sg (⟨#[44]⟩:ByteArray),bl]) rfl)).comp (ho (l.getD i z))).cast (fun w=>by simp only[wLs]; rw[if_pos h0]) (by simp) (fun _=>by simp)
  ·have:i=0:=by omega
   subst this;exact(ih.comp (ho (l.getD 0 z))).cast (fun w=>by simp only[wLs]; rw[if_neg h0]) (by simp) (fun _=>by simp[zBU])
theorem wl_list{α:Type}{one:α->PW->PW}{fit:α->Bool}{pc:α->List Pc}(ho: ∀x,WLaw (one x) (fit x) (pc x))(z:α)(l:List α):WLaw (zCv one z l) (l.all fit) (zA5 pc l):=by
 have h:=wl_ls ho z l l.length (wan _);rw[List.take_length]at h;exact(((WLaw.s (s:=(⟨#[40]⟩:ByteArray)) (ps:=[sg (⟨#[40]⟩:ByteArray)]) rfl).comp h).comp (WLaw.s (s:=(⟨#[41]⟩:ByteArray)) (ps:=[sg (⟨#[41]⟩:ByteArray)]) rfl)).cast (fun _=>rfl) (by simp) (fun _=>by simp[zA5])
theorem wl_bind(b:Bind):WLaw (zDE b) (zCL b) (zBz b):=
 (((zCh b.port).comp (WLaw.s (s:=(⟨#[32,61,32]⟩:ByteArray)) (ps:=[bl,sg (⟨#[61]⟩:ByteArray),bl]) rfl)).comp (zCh b.chan)).cast (fun _=>rfl) (by simp[zCL]) (fun _=>rfl)
theorem zD6(e:Expr){s:Bts}{ps:List Pc}(hs:pcB ps=s):WLaw (zBH s e) (zAB 8 e) (ps++zAA 8 e):=
 ((WLaw.s hs).comp (wl_expr 8 e)).cast (fun _=>rfl) (by simp) (fun _=>rfl)
theorem wl_body(x:Item):WLaw (zGt x) (zBB x) (zB7 x):=by
 have hb:WLaw (wS (⟨#[32]⟩:ByteArray)) true [bl]:=WLaw.s rfl;unfold zBB zB7;by_cases h4:x.kind=4
 ·rw[if_pos h4,if_pos h4];exact((((((WLaw.s (s:=(⟨#[32,61,32]⟩:ByteArray)) (ps:=[bl,sg (⟨#[61]⟩:ByteArray),bl]) rfl).comp (zFF x.init)).comp (zD6 x.a (s:=(⟨#[32,45,62,32]⟩:ByteArray)) (ps:=[bl,sg (⟨#[45,62]⟩:ByteArray),bl]) rfl)).comp hb).comp (wl_rule x.rule))).cast (fun w=>by unfold zGt; rw[if_pos h4]) (by simp[Bool.and_assoc]) (fun _=>by simp)
 rw[if_neg h4,if_neg h4];by_cases h5:x.kind=5
 ·rw[if_pos h5,if_pos h5];exact(zD6 x.a (s:=(⟨#[32,61,32]⟩:ByteArray)) (ps:=[bl,sg (⟨#[61]⟩:ByteArray),bl]) rfl).cast (fun w=>by unfold zGt; rw[if_neg h4,if_pos h5]) rfl (fun _=>rfl)
 rw[if_neg h5,if_neg h5];by_cases h6:x.kind=6
 ·rw[if_pos h6,if_pos h6];exact(((((zD6 x.a (s:=(⟨#[32,105,102,32]⟩:ByteArray)) (ps:=[bl,nm (⟨#[105,102]⟩:ByteArray),bl]) rfl).comp (zD6 x.b (s:=(⟨#[32,97,116,32]⟩:ByteArray)) (ps:=[bl,nm (⟨#[97,116]⟩:ByteArray),bl]) rfl)).comp (zD6 x.c (s:=(⟨#[32,61,32]⟩:ByteArray)) (ps:=[bl,sg (⟨#[61]⟩:ByteArray),bl]) rfl)).comp hb).comp (wl_rule x.rule)).cast (fun w=>by unfold zGt; rw[if_neg h4,if_neg h5,if_pos h6]) (by simp[Bool.and_assoc]) (fun _=>by simp)
 rw[if_neg h6,if_neg h6];by_cases h7:x.kind=7
 ·rw[if_pos h7,if_pos h7];exact(zD6 x.a (s:=(⟨#[32,105,102,32]⟩:ByteArray)) (ps:=[bl,nm (⟨#[105,102]⟩:ByteArray),bl]) rfl).cast (fun w=>by unfold zGt; rw[if_neg h4,if_neg h5,if_neg h6,if_pos h7]) rfl (fun _=>rfl)
 rw[if_neg h7,if_neg h7];by_cases h8:x.kind=8
 ·rw[if_pos h8,if_pos h8];exact((zD6 x.a (s:=(⟨#[32,105,102,32]⟩:ByteArray)) (ps:=[bl,nm (⟨#[105,102]⟩:ByteArray),bl]) rfl).comp (zD6 x.b (s:=(⟨#[32,61,32]⟩:ByteArray)) (ps:=[bl,sg (⟨#[61]⟩:ByteArray),bl]) rfl)).cast (fun w=>by unfold zGt; rw[if_neg h4,if_neg h5,if_neg h6,if_neg h7,if_pos h8]) rfl (fun _=>by simp)
 rw[if_neg h8,if_neg h8];by_cases h9:x.kind=9
 ·rw[if_pos h9,if_pos h9];exact(((((WLaw.s (s:=(⟨#[58,32]⟩:ByteArray)) (ps:=[sg (⟨#[58]⟩:ByteArray),bl]) rfl).comp (zCh x.of)).comp (wl_list zFF n0 x.args)).comp hb).comp (wl_list wl_bind b0 x.ports)).cast (fun w=>by unfold zGt; rw[if_neg h4,if_neg h5,if_neg h6,if_neg h7,if_neg h8,if_pos h9]) (by simp[Bool.and_assoc]) (fun _=>by simp)
 rw[if_neg h9,if_neg h9];exact⟨fun _ t=>by simp[zGt,h4,h5,h6,h7,h8,h9,pcB,zEo],fun h=>(by cases h),fun t=>by simp[zGt,h4,h5,h6,h7,h8,h9]⟩
theorem wl_id:WLaw id true []:=⟨fun _ t=>by simp[pcB,zEo],fun h=>(by cases h),fun _=>rfl⟩
theorem wl_item(x:Item):WLaw (zCB x) (zAW x) (zAV x):=by
 by_cases hk:x.kind<1\/x.kind>9
 ·refine⟨fun h=> ?_,fun _ t=> ?_,fun t=> ?_⟩
  ·simp only[zAW,wao,decide_eq_true_eq]at h; omega
  ·unfold zCB; rw[if_pos hk]
  ·unfold zCB; rw[if_pos hk]
 have hw:WLaw (fun w=>if x.kind<=6 then zBl x.width (wS (⟨#[58,32]⟩:ByteArray) w)else w) (if x.kind<=6 then zAX x.width else true) (zDL x):=by
  unfold zDL;by_cases h:x.kind<=6
  ·simp only[if_pos h];exact((WLaw.s (s:=(⟨#[58,32]⟩:ByteArray)) (ps:=[sg (⟨#[58]⟩:ByteArray),bl]) rfl).comp (zFF x.width)).cast (fun _=>rfl) (by simp) (fun _=>rfl)
  ·simp only[if_neg h]; exact wl_id
 have hd:WLaw (fun w=>if x.kind=3\/x.kind=6 then wS (⟨#[93]⟩:ByteArray) (zBl x.depth (wS (⟨#[32,91]⟩:ByteArray) w))else w) (if x.kind=3\/x.kind=6 then zAX x.depth else true) (zDx x):=by
  unfold zDx;by_cases h:x.kind=3\/x.kind=6
  ·simp only[if_pos h];exact(((WLaw.s (s:=(⟨#[32,91]⟩:ByteArray)) (ps:=[bl,sg (⟨#[91]⟩:ByteArray)]) rfl).comp (zFF x.depth)).comp (WLaw.s (s:=(⟨#[93]⟩:ByteArray)) (ps:=[sg (⟨#[93]⟩:ByteArray)]) rfl)).cast (fun _=>rfl) (by simp) (fun _=>by simp)
  ·simp only[if_neg h]; exact wl_id
 have hn:=((WLaw.okb (zDm x)).comp (WLaw.s (s:=kwL.getD (x.kind-1).toNat e0++(⟨#[32]⟩:ByteArray)) (ps:=[nm (kwL.getD (x.kind-1).toNat e0),bl]) (by simp[pcB,nm,bl,zEo]))).comp (zCh x.name);refine(((hn.comp hw).comp hd).comp (wl_body x)).cast (fun w=>by unfold zCB; rw[if_neg hk]) ?_ (fun _=> ?_)
 ·have h1:decide (1<=x.kind/\x.kind<=9)=true:=by simp; omega
  simp only[zAW,h1,Bool.true_and,Bool.and_true,Bool.and_assoc]
 ·simp[zAV]
theorem zGg(x:Item): ∀l:List Item,zAJ (l++[x])=zAJ l++([bl,bl]++(zAV x++[sg (⟨#[59]⟩:ByteArray),nl]))
 | []=>by simp[zAJ]
 | y::r=>by simp[zAJ,zGg x r]
theorem wl_items(l:List Item): ∀i,i<=l.length->WLaw (zDK l i) ((l.take i).all zAW) (zAJ (l.take i))
 | 0,_=>⟨fun _ t=>by simp[zDK,zAJ,pcB,zEo],fun h=>(by simp at h),fun _=>rfl⟩
 | i+1,hi=>by
  have ih:=wl_items l i (by omega);have ht:l.take (i+1)=l.take i++[l.getD i (zBg 0)]:=by
   rw[List.take_add_one,List.getD,wak (by omega)]; rfl
  rw[ht,zGg];exact(((ih.comp (WLaw.s (s:=(⟨#[32,32]⟩:ByteArray)) (ps:=[bl,bl]) rfl)).comp (wl_item (l.getD i (zBg 0)))).comp (WLaw.s (s:=(⟨#[59,10]⟩:ByteArray)) (ps:=[sg (⟨#[59]⟩:ByteArray),nl]) rfl)).cast (fun _=>rfl) (by simp) (fun _=>by simp)
theorem wl_module(m:Module):WLaw (zD4 m) (zAG m) (zAE m):=by
 have h:=wl_items m.items m.items.length (wan _);rw[List.take_length]at h;refine(((((((WLaw.s (s:=(⟨#[109,111,100,117,108,101,32]⟩:ByteArray)) (ps:=[nm (⟨#[109,111,100,117,108,101]⟩:ByteArray),bl]) rfl).comp (zCh m.name)).comp (wl_list zCh e0 m.params)).comp (WLaw.s (s:=(⟨#[32,64,32]⟩:ByteArray)) (ps:=[bl,sg (⟨#[64]⟩:ByteArray),bl]) rfl)).comp (zCh m.clock)).comp
  (WLaw.s (s:=(⟨#[32,123,10]⟩:ByteArray)) (ps:=[bl,sg (⟨#[123]⟩:ByteArray),nl]) rfl)).comp h).comp (WLaw.s (s:=(⟨#[125,10]⟩:ByteArray)) (ps:=[sg (⟨#[125]⟩:ByteArray),nl]) rfl) |>.cast (fun _=>rfl) ?_ (fun _=> ?_)
 ·simp[zAG,Bool.and_assoc]
 ·have:zA5 (fun s=>[nm s]) m.params=zA5 zBt m.params:=rfl;simp[zAE,zBQ,this]
theorem zER(m:Module): ∀l:List Module,zAk (l++[m])=zAk l++zAE m
 | []=>by simp[zAk]
 | y::r=>by simp[zAk,zER m r]
theorem wl_mods(l:List Module): ∀i,i<=l.length->WLaw (zDF l i) ((l.take i).all zAG) (zAk (l.take i))
 | 0,_=>⟨fun _ t=>by simp[zDF,zAk,pcB,zEo],fun h=>(by simp at h),fun _=>rfl⟩
 | i+1,hi=>by
  have ih:=wl_mods l i (by omega);have ht:l.take (i+1)=l.take i++[l.getD i m0]:=by
   rw[List.take_add_one,List.getD,wak (by omega)]; rfl
  rw[ht,zER];exact(ih.comp (wl_module (l.getD i m0))).cast (fun _=>rfl) (by simp) (fun _=>rfl)
theorem zIY(l:List Module):zCl l=if l.all zAG=true/\(pcB (zAk l)).size <=8000 then(pcB (zAk l),0)else(e0,90):=by
 have h:=wl_mods l l.length (wan _);rw[List.take_length]at h;have e:e0++pcB (zAk l)=pcB (zAk l):=by apply ByteArray.ext; simp[ByteArray.data_append,e0]
 unfold zCl;cases hf:l.all zAG with
 | true=>
  have:=h.ok hf e0;simp only[this,e];by_cases hs:(pcB (zAk l)).size <=8000
  ·rw[if_neg (by simp; omega),if_pos (by simpa using hs)]
  ·rw[if_pos (by simp; omega),if_neg (by simpa using hs)]
 | false=>
  have:=h.no hf e0;simp only[this];rw[if_pos (by simp),if_neg (by simp)]
theorem zEH{s:Bts}(h:zAN s=true):zAC s=1/\s.data.toList.all isW=true/\zFM s=false/\s≠e0:=by
 unfold zAN at h;simp only[wao,decide_eq_true_eq,Bool.not_eq_true']at h;obtain⟨h1,h2⟩:=h;unfold zGv at h1;split at h1
 ·rename_i hw;have hz:s.data.toList.length=s.size:=by rw[Array.length_toList]; rfl
  have e1:zA4 s 0=((s.data.toList.drop 0).takeWhile isW).length :=rfl;rw[List.drop_zero]at e1;have e2:s.data.toList.takeWhile isW=s.data.toList:=by
   have h3:=List.takeWhile_prefix isW (l:=s.data.toList);exact h3.eq_of_length (by omega)
  have e3:zb0 s 0=zAC s:=by
   unfold zb0;rw[hw.2,Nat.zero_add,zDq s 0 s.size (wan _) (Nat.zero_le _),List.drop_zero,List.take_of_length_le (by omega)]
  rw[e3]at h1;refine⟨h1,?_,h2,?_⟩
  ·rw[<-e2];exact List.all_takeWhile
  ·rintro rfl;have:zAC e0=0:=rfl;omega
 ·split at h1 <;> omega
theorem digit_val{d:Nat}(h:d<10):Go.Lib.digitVal (UInt8.ofNat (48+d))=some d:=by
 revert d;decide
theorem zGa: ∀(l:List UInt8) (acc n:Nat) (b:UInt8) (d:Nat),Go.Lib.decFrom acc l=some n->Go.Lib.digitVal b=some d->Go.Lib.decFrom acc (l++[b])=some (n*10+d)
 | [],acc,n,b,d,h,hb=>by
  simp only[Go.Lib.decFrom,Option.some.injEq]at h;subst h;simp[Go.Lib.decFrom,hb]
 | c::l,acc,n,b,d,h,hb=>by
  simp only[waj,Go.Lib.decFrom]at h ⊢;cases hc:Go.Lib.digitVal c with
  | none=>rw[hc]at h; cases h
  | some e=>
   rw[hc]at h;exact zGa l _ n b d h hb
theorem dec_digits(u:Nat):Go.Lib.decFrom 0 (Go.Lib.decDigits u)=some u:=by
 induction u using Nat.strongRecOn with
 | _ u ih=>
  rw[Go.Lib.decDigits];split
  ·rename_i h;simp only[Go.Lib.decFrom,digit_val h];simp
  ·rename_i h;have:=zGa _ 0 (u / 10) (UInt8.ofNat (48+u % 10)) (u % 10) (ih (u / 10) (by omega)) (digit_val (by omega));rw[this];congr 1;omega
theorem zHC(u:Nat):(Go.Lib.decDigits u).all (fun b=>decide (zCs b.toNat=2))=true:=by
 have key: ∀d:Nat,d<10->decide (zCs (UInt8.ofNat (48+d)).toNat =2)=true:=by decide
 induction u using Nat.strongRecOn with
 | _ u ih=>
  rw[Go.Lib.decDigits];split
  ·rename_i h;simp only[List.all_cons,List.all_nil,Bool.and_true];exact key u h
  ·rename_i h;simp only[List.all_append,List.all_cons,List.all_nil,Bool.and_true,ih (u / 10) (by omega),Bool.true_and];exact key _ (by omega)
theorem digits_ne(u:Nat):Go.Lib.decDigits u≠[]:=by
 intro e;have:=congrArg List.length e;rw[Go.Lib.decDigits_length]at this;have:=Go.Lib.nDigits_pos u;simp_all
theorem nDig_le: ∀(k u:Nat),u<10 ^ (k+1)->Go.Lib.nDigits u<=k+1
 | 0,u,h=>by rw[Go.Lib.nDigits_small (by omega)]; exact wan _
 | k+1,u,h=>by
  by_cases h5:u<10
  ·rw[Go.Lib.nDigits_small h5]; omega
  ·rw[Go.Lib.nDigits_big h5];have:=nDig_le k (u / 10) (by rw[Nat.pow_succ]at h; omega);omega
theorem atoi_itoa{n:Int}(h:zCf n=true):Go.Lib.atoiAll (zB2 n).data.toList = .ok n:=by
 unfold zCf at h;simp only[wao,decide_eq_true_eq]at h;obtain⟨u,rfl⟩: ∃u:Nat,n=u:=⟨n.toNat,by omega⟩;have e:(zB2 (u:Int)).data.toList =Go.Lib.decDigits u:=by
  unfold zB2 Go.Lib.itoa;rw[if_neg (by omega)];simp
 rw[e];have hu:u<10 ^ 7:=by omega
 have hl:(Go.Lib.decDigits u).length <=18:=by
  rw[Go.Lib.decDigits_length];have:=nDig_le 6 u hu;omega
 rw[Go.Lib.atoiAll_short _ hl];have hd:=dec_digits u;have hne:=digits_ne u;have hc:=zHC u;generalize Go.Lib.decDigits u=L at hd hne hc ⊢;cases L with
 | nil=>exact absurd rfl hne
 | cons b r=>
  simp only[List.all_cons,wao,decide_eq_true_eq]at hc;have h1:(b==45)=false:=by
   simp only[beq_eq_false_iff_ne,ne_eq];rintro rfl;exact absurd hc.1 (by decide)
  have h2:(b==43)=false:=by
   simp only[beq_eq_false_iff_ne,ne_eq];rintro rfl;exact absurd hc.1 (by decide)
  simp only[Go.Lib.atoi,h1,h2,Go.Lib.decNat];simp[hd,Go.Lib.NumEnd.ofOption]
theorem num_word{n:Int}(h:zCf n=true):zAC (zB2 n)=2/\(zB2 n).data.toList.all isW=true:=by
 have ha:=atoi_itoa h;unfold zCf at h;simp only[wao,decide_eq_true_eq]at h;obtain⟨u,rfl⟩: ∃u:Nat,n=u:=⟨n.toNat,by omega⟩;have e:(zB2 (u:Int)).data.toList =Go.Lib.decDigits u:=by
  unfold zB2 Go.Lib.itoa;rw[if_neg (by omega)];simp
 have hc:=zHC u;have hne:=digits_ne u;have hsz:(zB2 (u:Int)).size =(Go.Lib.decDigits u).length :=by rw[<-e,Array.length_toList]; rfl
 refine⟨?_,?_⟩
 ·unfold zAC;rw[ha];have h0: ¬(zB2 (u:Int)).size =0:=by
   rw[hsz]; intro h; exact hne (List.length_eq_zero_iff.1 h)
  have h1: ¬(97<=((zB2 (u:Int)).data.getD 0 0).toNat /\((zB2 (u:Int)).data.getD 0 0).toNat <=122):=by
   have hg:(zB2 (u:Int)).data.getD 0 0=(Go.Lib.decDigits u).headD 0:=by
    rw[<-e];cases hd:(zB2 (u:Int)).data with
    | mk L=>cases L <;> rfl
   rw[hg];generalize Go.Lib.decDigits u=L at hc hne ⊢;cases L with
   | nil=>exact absurd rfl hne
   | cons b r=>
    simp only[List.all_cons,wao,decide_eq_true_eq]at hc;simp only[List.headD_cons];have key: ∀v:Nat,v<256->zCs v=2-> ¬(97<=v/\v<=122):=(by decide);exact key _ b.toNat_lt hc.1
  rw[if_neg h0,if_neg h1];simp only[];rw[if_neg (by simp; omega)]
 ·rw[e];rw[List.all_eq_true]at hc ⊢;intro b hb;have:=hc b hb;unfold isW;simp_all
theorem pcOk_bl(h:Option UInt8):zDd bl h=true:=rfl
theorem pcOk_nl(h:Option UInt8):zDd nl h=true:=rfl
theorem zCg{s:Bts}(hs:zAN s=true){h:Option UInt8}(hh:zAO h=true):zDd (nm s) h=true:=by
 obtain⟨h1,h2,_⟩:=zEH hs;unfold zDd nm;simp[h1,h2,hh]
theorem zIx{n:Int}(hn:zCf n=true){h:Option UInt8}(hh:zAO h=true):zDd (nu n) h=true:=by
 obtain⟨h1,h2⟩:=num_word hn;unfold zDd nu;simp[h1,h2,hh]
theorem zAb(b:UInt8)(hb:decide (zCs b.toNat=4)&&decide (b≠45)&&decide (b≠61)=true)(h:Option UInt8):zDd (sg ⟨#[b]⟩) h=true:=by
 simp only[wao,decide_eq_true_eq]at hb;unfold zDd sg;simp[hb.1.1,hb.1.2,hb.2]
theorem pcOk_kw{s:Bts}(hs:zAC s=1/\s.data.toList.all isW=true){h:Option UInt8}(hh:zAO h=true):zDd (nm s) h=true:=by
 unfold zDd nm;simp[hs.1,hs.2,hh]
theorem pcH_bl(h:Option UInt8)(r:List Pc):pcH h (bl::r)=some 32:=rfl
theorem pcH_nl(h:Option UInt8)(r:List Pc):pcH h (nl::r)=some 10:=rfl
theorem pcH_sg1(b:UInt8)(h:Option UInt8)(r:List Pc):pcH h (sg ⟨#[b]⟩::r)=some b:=rfl
theorem pcH_sg2(b c:UInt8)(h:Option UInt8)(r:List Pc):pcH h (sg ⟨#[b,c]⟩::r)=some b:=rfl
theorem pcOk_eq:zDd (sg (⟨#[61]⟩:ByteArray)) (some 32)=true:=rfl
theorem pcOk_minus:zDd (sg (⟨#[45]⟩:ByteArray)) (some 32)=true:=rfl
theorem pcOk_arrow(h:Option UInt8):zDd (sg (⟨#[45,62]⟩:ByteArray)) h=true:=rfl
theorem pcOk_op{op:Int}(h:zAS op≠e0):zDd (sg (zAS op)) (some 32)=true:=by
 unfold zAS at h ⊢;split at h
 ·rename_i p hp;have hm:=List.mem_of_find?_eq_some hp;have key: ∀p∈opL,zDd (sg p.1) (some 32)=true:=by decide
  exact key p hm
 ·exact absurd rfl h
def PCW:=And.intro @pcOk_bl (And.intro @pcOk_nl (And.intro @pcH_bl (And.intro @pcH_nl (And.intro @pcH_sg1 (And.intro @pcH_sg2 (And.intro pcOk_eq (And.intro pcOk_minus (And.intro @pcOk_arrow (And.intro @zBb.eq_1 (And.intro @zBb.eq_2 (And.intro @zBR (And.intro @zHQ @pcH.eq_1))))))))))))
theorem zGR:zAO (some 32)=true:=rfl
theorem zDz{x:Num}(hx:zAX x=true){h:Option UInt8}(hh:zAO h=true):zBb h (zAD x)=true:=by
 unfold zAX at hx;unfold zAD;by_cases h0:x.p=e0
 ·rw[if_pos h0]at hx ⊢;simp only[PCW,waj,wai,Bool.and_true,Bool.true_and,Bool.and_self,zIx hx hh]
 rw[if_neg h0]at hx ⊢;simp only[wao,decide_eq_true_eq]at hx;by_cases h1:x.n>0
 ·rw[if_pos h1];have hn:zCf x.n=true:=by simp[zCf]; omega
  simp only[PCW,waj,wai,Bool.and_true,Bool.true_and,Bool.and_self,zAb 91 rfl,zAb 93 rfl,zAb 40 rfl,zAb 41 rfl,zAb 123 rfl,zAb 125 rfl,zAb 58 rfl,zAb 59 rfl,zAb 44 rfl,zAb 63 rfl,zAb 64 rfl,zAb 126 rfl,zAb 43 rfl,zCg hx.1 zGR,zIx hn hh]
 rw[if_neg h1];by_cases h2:x.n<0
 ·rw[if_pos h2];have hn:zCf (-x.n)=true:=by simp[zCf]; omega
  simp only[PCW,waj,wai,Bool.and_true,Bool.true_and,Bool.and_self,zAb 91 rfl,zAb 93 rfl,zAb 40 rfl,zAb 41 rfl,zAb 123 rfl,zAb 125 rfl,zAb 58 rfl,zAb 59 rfl,zAb 44 rfl,zAb 63 rfl,zAb 64 rfl,zAb 126 rfl,zAb 43 rfl,zCg hx.1 zGR,zIx hn hh]
 ·rw[if_neg h2];simp only[PCW,waj,wai,Bool.and_true,Bool.true_and,Bool.and_self,zCg hx.1 hh]
theorem zHB{e:Expr}(h:(e.args.length:Int)=zBi e.op)(h1:e.op≠1)(h2:e.op≠14)(h3:e.op≠15)(h4:e.op≠2)(h5:e.op≠10)(h6:e.op≠12)(h7:e.op≠13):zAS e.op≠e0:=by
 intro h8;unfold zBi at h;rw[if_neg (by omega),if_neg (by omega),if_neg h5,if_neg (by simpa using h8)]at h;omega
theorem pcs_op{fit:Expr->Bool}{pc:Expr->List Pc}(hr: ∀e,fit e=true-> ∀h,zAO h=true->zBb h (pc e)=true){e:Expr}(he:zCj fit e=true)(hs:(e.args.length:Int)=zBi e.op){h:Option UInt8}(hh:zAO h=true):zBb h (zDn pc e)=true:=by
 have w93:zAO (some 93)=true:=rfl;have w125:zAO (some 125)=true:=rfl;have w41:zAO (some 41)=true:=rfl;have w91:zAO (some 91)=true:=rfl;unfold zCj at he;unfold zDn;by_cases h1:e.op=1
 ·rw[if_pos h1]at he ⊢;simp only[wao]at he;simp only[PCW,waj,wai,Bool.and_true,Bool.true_and,Bool.and_self,zAb 91 rfl,zAb 93 rfl,zAb 40 rfl,zAb 41 rfl,zAb 123 rfl,zAb 125 rfl,zAb 58 rfl,zAb 59 rfl,zAb 44 rfl,zAb 63 rfl,zAb 64 rfl,zAb 126 rfl,zAb 43 rfl,zDz he.1 zGR,zDz he.2 w93]
 rw[if_neg h1]at he ⊢;by_cases h2:e.op=14
 ·rw[if_pos h2]at he ⊢;simp only[PCW,waj,wai,Bool.and_true,Bool.true_and,Bool.and_self,zCg he hh]
 rw[if_neg h2]at he ⊢;by_cases h3:e.op=15
 ·rw[if_pos h3]at he ⊢;simp only[wao]at he;simp only[PCW,waj,wai,Bool.and_true,Bool.true_and,Bool.and_self,zAb 91 rfl,zAb 93 rfl,zAb 40 rfl,zAb 41 rfl,zAb 123 rfl,zAb 125 rfl,zAb 58 rfl,zAb 59 rfl,zAb 44 rfl,zAb 63 rfl,zAb 64 rfl,zAb 126 rfl,zAb 43 rfl,zCg he.1 w91,hr _ he.2 _ w93]
 rw[if_neg h3]at he ⊢;by_cases h4:e.op=2
 ·rw[if_pos h4]at he ⊢;simp only[PCW,waj,wai,Bool.and_true,Bool.true_and,Bool.and_self,zAb 91 rfl,zAb 93 rfl,zAb 40 rfl,zAb 41 rfl,zAb 123 rfl,zAb 125 rfl,zAb 58 rfl,zAb 59 rfl,zAb 44 rfl,zAb 63 rfl,zAb 64 rfl,zAb 126 rfl,zAb 43 rfl,hr _ he _ hh]
 rw[if_neg h4]at he ⊢;by_cases h5:e.op=10
 ·rw[if_pos h5]at he ⊢;simp only[wao]at he;simp only[PCW,waj,wai,Bool.and_true,Bool.true_and,Bool.and_self,zAb 91 rfl,zAb 93 rfl,zAb 40 rfl,zAb 41 rfl,zAb 123 rfl,zAb 125 rfl,zAb 58 rfl,zAb 59 rfl,zAb 44 rfl,zAb 63 rfl,zAb 64 rfl,zAb 126 rfl,zAb 43 rfl,hr _ he.1 _ zGR,hr _ he.2.1 _ zGR,hr _ he.2.2 _ w41]
 rw[if_neg h5]at he ⊢;by_cases h6:e.op=12
 ·rw[if_pos h6]at he ⊢;simp only[wao]at he;simp only[PCW,waj,wai,Bool.and_true,Bool.true_and,Bool.and_self,zAb 91 rfl,zAb 93 rfl,zAb 40 rfl,zAb 41 rfl,zAb 123 rfl,zAb 125 rfl,zAb 58 rfl,zAb 59 rfl,zAb 44 rfl,zAb 63 rfl,zAb 64 rfl,zAb 126 rfl,zAb 43 rfl,hr _ he.1 _ zGR,zDz he.2.1 zGR,zDz he.2.2 w125]
 rw[if_neg h6]at he ⊢;by_cases h7:e.op=13
 ·rw[if_pos h7]at he ⊢;simp only[wao]at he;simp only[PCW,waj,wai,Bool.and_true,Bool.true_and,Bool.and_self,zAb 91 rfl,zAb 93 rfl,zAb 40 rfl,zAb 41 rfl,zAb 123 rfl,zAb 125 rfl,zAb 58 rfl,zAb 59 rfl,zAb 44 rfl,zAb 63 rfl,zAb 64 rfl,zAb 126 rfl,zAb 43 rfl,hr _ he.1 _ zGR,zDz he.2 w125]
 rw[if_neg h7]at he ⊢;simp only[wao]at he;have ho:=pcOk_op (zHB hs h1 h2 h3 h4 h5 h6 h7);simp only[PCW,waj,wai,Bool.and_true,Bool.true_and,Bool.and_self,zAb 91 rfl,zAb 93 rfl,zAb 40 rfl,zAb 41 rfl,zAb 123 rfl,zAb 125 rfl,zAb 58 rfl,zAb 59 rfl,zAb 44 rfl,zAb 63 rfl,zAb 64 rfl,zAb 126 rfl,zAb 43 rfl,hr _ he.1 _ zGR,hr _ he.2 _ w41,ho]
theorem zCz: ∀(d:Nat) (e:Expr),zAB d e=true-> ∀h,zAO h=true->zBb h (zAA d e)=true
 | 0,_,h=>by cases h
 | d+1,e,he=>fun h hh=>by
  simp only[zAB,wao,decide_eq_true_eq]at he;exact pcs_op (zCz d) he.2.2 he.1 hh
theorem kw_ok: ∀s∈resL,zAC s=1/\s.data.toList.all isW=true:=by
 have key:resL.all (fun s=>decide (zAC s=1)&&s.data.toList.all isW)=true:=by kernel_rfl
 intro s hs;have:=List.all_eq_true.1 key s hs;simpa using this
theorem zC6{s:Bts}(hs:s∈resL){h:Option UInt8}(hh:zAO h=true):zDd (nm s) h=true:=pcOk_kw (kw_ok s hs) hh
theorem pcs_rule{r:Rule}(hr:zBZ r=true){h:Option UInt8}(hh:zAO h=true):zBb h (zBk r)=true:=by
 have k1:=zC6 (s:=(⟨#[105,110,105,116]⟩:ByteArray)) (by simp[resL]) hh;have k2:=zC6 (s:=(⟨#[107,101,101,112]⟩:ByteArray)) (by simp[resL]) hh;have k3:=zC6 (s:=(⟨#[99,111,112,121]⟩:ByteArray)) (by simp[resL]) zGR;have k4:=zC6 (s:=(⟨#[97,100,100]⟩:ByteArray)) (by simp[resL]) zGR;unfold zBZ at hr;unfold zBk;simp only[wao]at hr;obtain⟨_,hr⟩:=hr;by_cases h0:r.kind=0
 ·rw[if_pos h0]; simp only[PCW,waj,wai,Bool.and_true,Bool.true_and,Bool.and_self,k1]
 rw[if_neg h0]at hr ⊢;by_cases h1:r.kind=1
 ·rw[if_pos h1]; simp only[PCW,waj,wai,Bool.and_true,Bool.true_and,Bool.and_self,k2]
 rw[if_neg h1]at hr ⊢;by_cases h2:r.kind=2
 ·rw[if_pos h2]at hr ⊢;simp only[PCW,waj,wai,Bool.and_true,Bool.true_and,Bool.and_self,k3,zCg hr hh]
 rw[if_neg h2]at hr ⊢;by_cases h3:r.kind=3
 ·rw[if_pos h3]at hr;simp only[wao]at hr;simp only[PCW,waj,wai,Bool.and_true,Bool.true_and,Bool.and_self,k4,zCg hr.1 zGR,zIx hr.2 hh]
 ·rw[if_neg h3]at hr; cases hr
theorem pcs_els{α:Type}{fit:α->Bool}{one:α->List Pc}(ho: ∀x,fit x=true-> ∀h,zAO h=true->zBb h (one x)=true): ∀(l:List α),l.all fit=true-> ∀h,zAO h=true->zBb h (zBU one l)=true
 | [],_,_,_=>rfl
 | [x],hl,h,hh=>by simp only[List.all_cons,List.all_nil,Bool.and_true]at hl; exact ho x hl h hh
 | x::y::r,hl,h,hh=>by
  rw[List.all_cons,wao]at hl;have ih:=pcs_els ho (y::r) hl.2 h hh;have w44:zAO (some 44)=true:=rfl;simp only[zBU,PCW,waj,wai,Bool.and_true,Bool.true_and,Bool.and_self,zAb 91 rfl,zAb 93 rfl,zAb 40 rfl,zAb 41 rfl,zAb 123 rfl,zAb 125 rfl,zAb 58 rfl,zAb 59 rfl,zAb 44 rfl,zAb 63 rfl,zAb 64 rfl,zAb 126 rfl,zAb 43 rfl,ho x hl.1 _ w44,ih]
theorem zIz{α:Type}{fit:α->Bool}{one:α->List Pc}(ho: ∀x,fit x=true-> ∀h,zAO h=true->zBb h (one x)=true){l:List α}(hl:l.all fit=true)(h:Option UInt8):zBb h (zA5 one l)=true:=by
 have w41:zAO (some 41)=true:=rfl;simp only[zA5,PCW,waj,wai,Bool.and_true,Bool.true_and,Bool.and_self,zAb 91 rfl,zAb 93 rfl,zAb 40 rfl,zAb 41 rfl,zAb 123 rfl,zAb 125 rfl,zAb 58 rfl,zAb 59 rfl,zAb 44 rfl,zAb 63 rfl,zAb 64 rfl,zAb 126 rfl,zAb 43 rfl,pcs_els ho l hl _ w41]
theorem pcs_bind{b:Bind}(hb:zCL b=true)(h:Option UInt8)(hh:zAO h=true):zBb h (zBz b)=true:=by
 unfold zCL at hb;simp only[wao]at hb;simp only[zBz,PCW,waj,wai,Bool.and_true,Bool.true_and,Bool.and_self,zAb 91 rfl,zAb 93 rfl,zAb 40 rfl,zAb 41 rfl,zAb 123 rfl,zAb 125 rfl,zAb 58 rfl,zAb 59 rfl,zAb 44 rfl,zAb 63 rfl,zAb 64 rfl,zAb 126 rfl,zAb 43 rfl,zCg hb.1 zGR,zCg hb.2 hh]
theorem pcs_body{x:Item}(hx:zBB x=true){h:Option UInt8}(hh:zAO h=true):zBb h (zB7 x)=true:=by
 have k1:=zC6 (s:=(⟨#[105,102]⟩:ByteArray)) (by simp[resL]) zGR;have k2:=zC6 (s:=(⟨#[97,116]⟩:ByteArray)) (by simp[resL]) zGR;have w40:zAO (some 40)=true:=rfl;unfold zBB at hx;unfold zB7;by_cases h4:x.kind=4
 ·rw[if_pos h4]at hx ⊢;simp only[wao]at hx;simp only[PCW,waj,wai,Bool.and_true,Bool.true_and,Bool.and_self,zAb 91 rfl,zAb 93 rfl,zAb 40 rfl,zAb 41 rfl,zAb 123 rfl,zAb 125 rfl,zAb 58 rfl,zAb 59 rfl,zAb 44 rfl,zAb 63 rfl,zAb 64 rfl,zAb 126 rfl,zAb 43 rfl,zDz hx.1 zGR,zCz 8 _ hx.2.1 _ zGR,pcs_rule hx.2.2 hh]
 rw[if_neg h4]at hx ⊢;by_cases h5:x.kind=5
 ·rw[if_pos h5]at hx ⊢;simp only[PCW,waj,wai,Bool.and_true,Bool.true_and,Bool.and_self,zAb 91 rfl,zAb 93 rfl,zAb 40 rfl,zAb 41 rfl,zAb 123 rfl,zAb 125 rfl,zAb 58 rfl,zAb 59 rfl,zAb 44 rfl,zAb 63 rfl,zAb 64 rfl,zAb 126 rfl,zAb 43 rfl,zCz 8 _ hx _ hh]
 rw[if_neg h5]at hx ⊢;by_cases h6:x.kind=6
 ·rw[if_pos h6]at hx ⊢;simp only[wao]at hx;simp only[PCW,waj,wai,Bool.and_true,Bool.true_and,Bool.and_self,zAb 91 rfl,zAb 93 rfl,zAb 40 rfl,zAb 41 rfl,zAb 123 rfl,zAb 125 rfl,zAb 58 rfl,zAb 59 rfl,zAb 44 rfl,zAb 63 rfl,zAb 64 rfl,zAb 126 rfl,zAb 43 rfl,k1,k2,zCz 8 _ hx.1 _ zGR,zCz 8 _ hx.2.1 _ zGR,zCz 8 _ hx.2.2.1 _ zGR,pcs_rule hx.2.2.2 hh]
 rw[if_neg h6]at hx ⊢;by_cases h7:x.kind=7
 ·rw[if_pos h7]at hx ⊢;simp only[PCW,waj,wai,Bool.and_true,Bool.true_and,Bool.and_self,zAb 91 rfl,zAb 93 rfl,zAb 40 rfl,zAb 41 rfl,zAb 123 rfl,zAb 125 rfl,zAb 58 rfl,zAb 59 rfl,zAb 44 rfl,zAb 63 rfl,zAb 64 rfl,zAb 126 rfl,zAb 43 rfl,k1,zCz 8 _ hx _ hh]
 rw[if_neg h7]at hx ⊢;by_cases h8:x.kind=8
 ·rw[if_pos h8]at hx ⊢;simp only[wao]at hx;simp only[PCW,waj,wai,Bool.and_true,Bool.true_and,Bool.and_self,zAb 91 rfl,zAb 93 rfl,zAb 40 rfl,zAb 41 rfl,zAb 123 rfl,zAb 125 rfl,zAb 58 rfl,zAb 59 rfl,zAb 44 rfl,zAb 63 rfl,zAb 64 rfl,zAb 126 rfl,zAb 43 rfl,k1,zCz 8 _ hx.1 _ zGR,zCz 8 _ hx.2 _ hh]
 rw[if_neg h8]at hx ⊢;by_cases h9:x.kind=9
 ·rw[if_pos h9]at hx ⊢;simp only[wao]at hx;have a1:=zIz (fun y hy h hh=>zDz hy hh) hx.2.1 (some 32);have a2:=zIz (fun y hy h hh=>pcs_bind hy h hh) hx.2.2 h;have a3: ∀(h:Option UInt8) (l:List Num),pcH h (zA5 zAD l)=some 40:=fun _ _=>rfl;simp only[PCW,waj,wai,Bool.and_true,Bool.true_and,Bool.and_self,zAb 91 rfl,zAb 93 rfl,zAb 40 rfl,zAb 41 rfl,zAb 123 rfl,zAb 125 rfl,zAb 58 rfl,zAb 59 rfl,zAb 44 rfl,zAb 63 rfl,zAb 64 rfl,zAb 126 rfl,zAb 43 rfl,a3,zCg hx.1 w40,a1,a2]
 ·rw[if_neg h9]; rfl
theorem pcH_body{x:Item}{h:Option UInt8}(hh:zAO h=true):zAO (pcH h (zB7 x))=true:=by
 unfold zB7
 repeat' split
 all_goals first | rfl | exact hh
theorem pcH_dep{x:Item}{h:Option UInt8}(hh:zAO h=true):zAO (pcH h (zDx x))=true:=by
 unfold zDx;split
 ·rfl
 ·exact hh
theorem pcH_wid{x:Item}{h:Option UInt8}(hh:zAO h=true):zAO (pcH h (zDL x))=true:=by
 unfold zDL;split
 ·rfl
 ·exact hh
theorem pcs_item{x:Item}(hx:zAW x=true){h:Option UInt8}(hh:zAO h=true):zBb h (zAV x)=true:=by
 simp only[zAW,wao,decide_eq_true_eq]at hx;obtain⟨hk,_,hn,hw,hd,hb⟩:=hx;have w93:zAO (some 93)=true:=rfl;have hkw:kwL.getD (x.kind-1).toNat e0∈resL:=by
  have key: ∀i:Nat,i<9->(resL.any fun x=>decide (x=kwL.getD i e0))=true:=by decide
  obtain⟨y,h1,h2⟩:=List.any_eq_true.1 (key _ (show(x.kind-1).toNat <9 by omega));rw[<-of_decide_eq_true h2];exact h1
 have a1:=pcs_body hb hh;have a2:=pcH_body (x:=x) hh;have a3:zBb (pcH h (zB7 x)) (zDx x)=true:=by
  unfold zDx;by_cases h3:x.kind=3\/x.kind=6
  ·rw[if_pos h3]at hd ⊢;simp only[PCW,waj,wai,Bool.and_true,Bool.true_and,Bool.and_self,zAb 91 rfl,zAb 93 rfl,zAb 40 rfl,zAb 41 rfl,zAb 123 rfl,zAb 125 rfl,zAb 58 rfl,zAb 59 rfl,zAb 44 rfl,zAb 63 rfl,zAb 64 rfl,zAb 126 rfl,zAb 43 rfl,zDz hd w93]
  ·rw[if_neg h3]; rfl
 have a4:=pcH_dep (x:=x) a2;have a5:zBb (pcH (pcH h (zB7 x)) (zDx x)) (zDL x)=true:=by
  unfold zDL;by_cases h3:x.kind<=6
  ·rw[if_pos h3]at hw ⊢;simp only[PCW,waj,wai,Bool.and_true,Bool.true_and,Bool.and_self,zAb 91 rfl,zAb 93 rfl,zAb 40 rfl,zAb 41 rfl,zAb 123 rfl,zAb 125 rfl,zAb 58 rfl,zAb 59 rfl,zAb 44 rfl,zAb 63 rfl,zAb 64 rfl,zAb 126 rfl,zAb 43 rfl,zDz hw a4]
  ·rw[if_neg h3]; rfl
 have a6:=pcH_wid (x:=x) a4;simp only[zAV,PCW,waj,wai,Bool.and_true,Bool.true_and,Bool.and_self,zC6 hkw zGR,zCg hn a6,a5,a3,a1]
theorem pcs_items: ∀(l:List Item),l.all zAW=true-> ∀h,zBb h (zAJ l)=true
 | [],_,_=>rfl
 | x::r,hl,h=>by
  rw[List.all_cons,wao]at hl;have w59:zAO (some 59)=true:=rfl;simp only[zAJ,PCW,waj,wai,Bool.and_true,Bool.true_and,Bool.and_self,zAb 91 rfl,zAb 93 rfl,zAb 40 rfl,zAb 41 rfl,zAb 123 rfl,zAb 125 rfl,zAb 58 rfl,zAb 59 rfl,zAb 44 rfl,zAb 63 rfl,zAb 64 rfl,zAb 126 rfl,zAb 43 rfl,pcs_item hl.1 w59,pcs_items r hl.2 h]
theorem pcs_module{m:Module}(hm:zAG m=true)(h:Option UInt8):zBb h (zAE m)=true:=by
 simp only[zAG,wao]at hm;obtain⟨h1,h2,h3,h4⟩:=hm;have k1:=zC6 (s:=(⟨#[109,111,100,117,108,101]⟩:ByteArray)) (by simp[resL]) zGR;have w40:zAO (some 40)=true:=rfl;have a1:=zIz (one:=zBt) (fun y hy h hh=>by simp only[zBt,PCW,waj,wai,Bool.and_true,Bool.true_and,Bool.and_self,zCg hy hh]) h2 (some 32);have a2:=pcs_items m.items h4;have a3: ∀(h:Option UInt8) (l:List Bts),pcH h (zA5 zBt l)=some 40:=fun _ _=>rfl;simp only[zAE,zBQ,PCW,waj,wai,Bool.and_true,Bool.true_and,Bool.and_self,zAb 91 rfl,zAb 93 rfl,zAb 40 rfl,zAb 41 rfl,zAb 123 rfl,zAb 125 rfl,zAb 58 rfl,zAb 59 rfl,zAb 44 rfl,zAb 63 rfl,zAb 64 rfl,zAb 126 rfl,zAb 43 rfl,k1,zCg h1 w40,a3,a1,zCg h3 zGR,a2]
theorem zEf: ∀(l:List Module),l.all zAG=true->zBb none (zAk l)=true
 | [],_=>rfl
 | m::r,hl=>by
  rw[List.all_cons,wao]at hl;simp only[zAk,PCW,waj,wai,Bool.and_true,Bool.true_and,Bool.and_self,pcs_module hl.1,zEf r hl.2]
def At(T:List Tok)(a:Nat):List Pc->Prop
 | []=>True
 | p::r=>if p.1=0 then At T a r else(tk T a).1 =p.1/\(tk T a).2.1 =p.2/\At T (a+1) r
def nT:List Pc->Nat
 | []=>0
 | p::r=>if p.1=0 then nT r else nT r+1
theorem zAI(p q:List Pc):nT (p++q)=nT p+nT q:=by
 induction p with
 | nil=>simp[nT]
 | cons x r ih=>
  simp only[waj,nT,ih];split <;> omega
theorem zEZ(T:List Tok): ∀(p q:List Pc) (a:Nat),At T a (p++q)↔At T a p/\At T (a+nT p) q
 | [],q,a=>by simp[At,nT]
 | x::r,q,a=>by
  simp only[waj,At,nT];by_cases hx:x.1=0
  ·simp only[hx,if_true]; exact zEZ T r q a
  ·simp only[hx,if_false,zEZ T r q (a+1),and_assoc];rw[show a+1+nT r=a+(nT r+1) by omega]
theorem At_bl(T:List Tok)(a:Nat)(r:List Pc):At T a (bl::r)↔At T a r:=Iff.rfl
theorem At_nl(T:List Tok)(a:Nat)(r:List Pc):At T a (nl::r)↔At T a r:=Iff.rfl
def tkP(T:List Tok)(a k:Nat)(s:Bts):Prop:=(tk T a).1 =k/\(tk T a).2.1 =s
theorem At_sg(T:List Tok)(a:Nat)(s:Bts)(r:List Pc):At T a (sg s::r)↔tkP T a 3 s/\At T (a+1) r:=by
 show _/\_/\_↔_;unfold tkP; rw[and_assoc]; rfl
theorem At_nm(T:List Tok)(a:Nat)(s:Bts)(r:List Pc):At T a (nm s::r)↔tkP T a 1 s/\At T (a+1) r:=by
 show _/\_/\_↔_;unfold tkP; rw[and_assoc]; rfl
theorem At_nu(T:List Tok)(a:Nat)(n:Int)(r:List Pc):At T a (nu n::r)↔tkP T a 2 (zB2 n)/\At T (a+1) r:=by
 show _/\_/\_↔_;unfold tkP; rw[and_assoc]; rfl
theorem At_nil(T:List Tok)(a:Nat):At T a []↔True:=Iff.rfl
theorem zEK(r:List Pc):nT (bl::r)=nT r:=rfl
theorem zEL(r:List Pc):nT (nl::r)=nT r:=rfl
theorem zEO(s:Bts)(r:List Pc):nT (sg s::r)=nT r+1:=rfl
theorem zEM(s:Bts)(r:List Pc):nT (nm s::r)=nT r+1:=rfl
theorem zEN(n:Int)(r:List Pc):nT (nu n::r)=nT r+1:=rfl
theorem zCT:nT []=0:=rfl
def AtW:=And.intro @zEZ (And.intro @At_bl (And.intro @At_nl (And.intro @At_sg (And.intro @At_nm (And.intro @At_nu (And.intro @At_nil (And.intro @zAI (And.intro @zEK (And.intro @zEL (And.intro @zEO (And.intro @zEM (And.intro @zEN zCT))))))))))))
section
variable {T:List Tok} {a:Nat}
theorem zB1{k:Nat}{s:Bts}(h:tkP T a k s):isT T a k s=true:=by unfold isT; simp[h.1,h.2]
theorem zBa{k k':Nat}{s s':Bts}(h:tkP T a k s)(hn:(decide (k=k')&&decide (s=s'))=false):isT T a k' s'=false:=by
 unfold isT; rw[h.1,h.2]; exact hn
theorem zA0{s:Bts}(h:tkP T a 3 s):zBx T s a= .ok ((),a+1):=by unfold zBx; rw[if_pos (zB1 h)]
theorem word_f{s:Bts}(h:tkP T a 1 s):zDG T s a= .ok ((),a+1):=by unfold zDG; rw[if_pos (zB1 h)]
theorem zBY{s:Bts}(h:tkP T a 1 s)(hs:zAN s=true):zBE T a= .ok (s,a+1):=by
 unfold zBE; rw[h.1,h.2,if_pos ⟨rfl,(zEH hs).2.2.1⟩]
theorem zGJ{n least:Int}(h:tkP T a 2 (zB2 n))(hn:zCf n=true)(hl:least<=n):zAZ T least a= .ok (n,a+1):=by
 unfold zAZ; rw[h.2,atoi_itoa hn]; simp only[]; rw[if_pos ⟨h.1,hl⟩]
theorem num_f{x:Num}(hx:zAX x=true)(h:At T a (zAD x))(h1:isT T (a+nT (zAD x)) 3 (⟨#[43]⟩:ByteArray)=false)(h2:isT T (a+nT (zAD x)) 3 (⟨#[45]⟩:ByteArray)=false):zDM T a= .ok (x,a+nT (zAD x)):=by
 obtain⟨n,p⟩:=x;unfold zAX at hx;unfold zAD at h h1 h2 ⊢;simp only at hx h h1 h2 ⊢;by_cases hp:p=e0
 ·rw[if_pos hp]at hx h ⊢;simp only[AtW,waj,wai,and_true,true_and,Nat.zero_add,Nat.add_zero]at h ⊢;unfold zDM;rw[if_pos h.1,zGJ h hx (by simp[zCf]at hx; omega)];simp[hp]
 rw[if_neg hp]at hx h h1 h2 ⊢;simp only[wao,decide_eq_true_eq]at hx;by_cases hn:n>0
 ·rw[if_pos hn]at h ⊢;simp only[AtW,waj,wai,and_true,true_and,Nat.zero_add,Nat.add_zero]at h ⊢;obtain⟨g1,g2,g3⟩:=h;unfold zDM;rw[if_neg (by rw[g1.1]; decide),zBY g1 hx.1];simp only[PR.bd_ok];rw[if_pos (zB1 g2),zGJ g3 (by simp[zCf]; omega) (by omega)];rfl
 rw[if_neg hn]at h h1 h2 ⊢;by_cases hm:n<0
 ·rw[if_pos hm]at h ⊢;simp only[AtW,waj,wai,and_true,true_and,Nat.zero_add,Nat.add_zero]at h ⊢;obtain⟨g1,g2,g3⟩:=h;unfold zDM;rw[if_neg (by rw[g1.1]; decide),zBY g1 hx.1];simp only[PR.bd_ok];rw[if_neg (by rw[zBa g2 (by decide)]; decide),if_pos (zB1 g2),zGJ g3 (by simp[zCf]; omega) (by omega)];simp
 ·rw[if_neg hm]at h h1 h2 ⊢;simp only[AtW,waj,wai,and_true,true_and,Nat.zero_add,Nat.add_zero]at h h1 h2 ⊢;unfold zDM;rw[if_neg (by rw[h.1]; decide),zBY h hx.1];simp only[PR.bd_ok];rw[h1,h2];have:n=0:=by omega
  subst this;simp
theorem zEk{x:Num}(hx:zAX x=true)(h:At T a (zAD x)){k:Nat}{s:Bts}(hs:tkP T (a+nT (zAD x)) k s)(h1:(decide (k=3)&&decide (s=(⟨#[43]⟩:ByteArray)))=false)(h2:(decide (k=3)&&decide (s=(⟨#[45]⟩:ByteArray)))=false):zDM T a= .ok (x,a+nT (zAD x)):=
 num_f hx h (zBa hs h1) (zBa hs h2)
theorem opOf_sign{op:Int}(h:zAS op≠e0):(zGx (zAS op):Int)=op/\zAS op≠(⟨#[63]⟩:ByteArray):=by
 unfold zAS at h ⊢;split at h
 ·rename_i p hp;have hm:=List.mem_of_find?_eq_some hp;have hq:=List.find?_some hp;have key: ∀p∈opL,zGx p.1=p.2/\p.1≠(⟨#[63]⟩:ByteArray):=by decide
  have:=key p hm;simp only[decide_eq_true_eq]at hq;rw[this.1];exact⟨hq,this.2⟩
 ·exact absurd rfl h
theorem zDv{x:Num}(h:zCW x=true):x=n0:=by
 unfold zCW at h;simp only[wao,decide_eq_true_eq]at h;cases x;simp_all [n0]
def nameZ(e:Expr):Prop:=e.op≠14->e.op≠15->e.name=e0
def kZ(e:Expr):Prop:=e.op≠1->e.op≠12->e.k=n0
def wZ(e:Expr):Prop:=e.op≠1->e.op≠12->e.op≠13->e.w=n0
theorem zeroX_eq{e:Expr}(h:zCi e=true):nameZ e/\kZ e/\wZ e:=by
 unfold zCi at h;simp only[wao,Bool.or_eq_true,decide_eq_true_eq]at h;obtain⟨⟨h1,h2⟩,h3⟩:=h;refine⟨fun a b=> ?_,fun a b=> ?_,fun a b c=> ?_⟩
 ·simp_all
 ·rcases h2 with(h2 | h2) | h2
  ·exact zDv h2
  ·exact absurd h2 a
  ·exact absurd h2 b
 ·rcases h3 with((h3 | h3) | h3) | h3
  ·exact zDv h3
  ·exact absurd h3 a
  ·exact absurd h3 b
  ·exact absurd h3 c
theorem len_1{α:Type}{l:List α}{z:α}(h:(l.length:Int)=1):l=[l.getD 0 z]:=by
 match l,h with
 | [x],_=>rfl
 | [],h=>simp at h
 | x::y::r,h=>simp at h; omega
theorem len_2{α:Type}{l:List α}{z:α}(h:(l.length:Int)=2):l=[l.getD 0 z,l.getD 1 z]:=by
 match l,h with
 | [x,y],_=>rfl
 | [],h=>simp at h
 | [x],h=>simp at h
 | x::y::u::r,h=>simp at h; omega
theorem len_3{α:Type}{l:List α}{z:α}(h:(l.length:Int)=3):l=[l.getD 0 z,l.getD 1 z,l.getD 2 z]:=by
 match l,h with
 | [x,y,u],_=>rfl
 | [],h=>simp at h
 | [x],h=>simp at h
 | [x,y],h=>simp at h
 | x::y::u::v::r,h=>simp at h; omega
theorem zC1(e:Expr):e= .mk e.op e.name e.k e.w e.args:=by cases e; rfl
theorem op_f{rec:Nat->PR Expr}{fit:Expr->Bool}{pc:Expr->List Pc}{deep:Bool}(hd:deep=false-> ∀e,fit e=false)
  (hr: ∀e a,fit e=true->At T a (pc e)->isT T (a+nT (pc e)) 3 (⟨#[91]⟩:ByteArray)=false->rec a= .ok (e,a+nT (pc e)))
  {e:Expr} (he:zCj fit e=true) (hl:(e.args.length:Int)=zBi e.op) (hz:zCi e=true) (h:At T a (zDn pc e)) (hn:isT T (a+nT (zDn pc e)) 3 (⟨#[91]⟩:ByteArray)=false):zCK rec deep T a= .ok (e,a+nT (zDn pc e)):=by
 obtain⟨z1,z2,z3⟩:=zeroX_eq hz;have hdd: ∀e,fit e=true->deep=true:=fun e h=>by
  cases hdp:deep with
  | true=>rfl
  | false=>rw[hd hdp e]at h; cases h
 unfold zBi at hl;unfold zCj at he;unfold zDn at h hn ⊢;by_cases h1:e.op=1
 ·rw[if_pos h1]at he h ⊢;rw[if_pos (.inl h1)]at hl;simp only[wao]at he;simp only[AtW,waj,wai,and_true,true_and,Nat.zero_add,Nat.add_zero]at h ⊢;obtain⟨g1,g2,g3,g4,g5⟩:=h;unfold zCK;rw[if_pos (zB1 g1),zEk he.1 g2 g3 (by decide) (by decide)];simp only[PR.bd_ok];rw[zA0 g3];simp only[PR.bd_ok];rw[zEk he.2 g4 g5 (by decide) (by decide)];simp only[PR.bd_ok];rw[zA0 g5];simp only[PR.bd_ok];have ha:e.args=[]:=by
   cases hh:e.args with
   | nil=>rfl
   | cons x r=>rw[hh]at hl; simp at hl; omega
  rw[show e= .mk 1 e0 e.k e.w [] by rw[zC1 e,h1,ha,z1 (by omega) (by omega)]; rfl];simp only[Expr.k,Expr.w,Except.ok.injEq,Prod.mk.injEq,true_and];omega
 rw[if_neg h1]at he h hn ⊢;by_cases h2:e.op=14
 ·rw[if_pos h2]at he h hn ⊢;rw[if_pos (.inr h2)]at hl;simp only[AtW,waj,wai,and_true,true_and,Nat.zero_add,Nat.add_zero]at h hn ⊢;unfold zCK;rw[if_neg (by rw[zBa h (by simp)]; decide),if_pos h.1,zBY h he];simp only[PR.bd_ok];rw[if_neg (by rw[hn]; simp)];have ha:e.args=[]:=by
   cases hh:e.args with
   | nil=>rfl
   | cons x r=>rw[hh]at hl; simp at hl; omega
  rw[show e= .mk 14 e.name n0 n0 [] by rw[zC1 e,h2,ha,z2 (by omega) (by omega),z3 (by omega) (by omega) (by omega)]; rfl];rfl
 rw[if_neg h2]at he h hn ⊢;rw[if_neg (by omega)]at hl;by_cases h3:e.op=15
 ·rw[if_pos h3]at he h hn ⊢;rw[if_pos (by omega)]at hl;simp only[wao]at he;simp only[AtW,waj,wai,and_true,true_and,Nat.zero_add,Nat.add_zero]at h ⊢;obtain⟨g1,g2,g3,g4⟩:=h;have hdp:=hdd _ he.2;unfold zCK;rw[if_neg (by rw[zBa g1 (by simp)]; decide),if_pos g1.1,zBY g1 he.1];simp only[PR.bd_ok];rw[if_pos ⟨hdp,zB1 g2⟩,hr _ _ he.2 g3 (zBa g4 (by decide))];simp only[PR.bd_ok];rw[zA0 g4];simp only[PR.bd_ok,Except.ok.injEq,Prod.mk.injEq];refine⟨?_,by omega⟩;have ha:=len_1 (z:=x0) hl
  conv=>rhs; rw[zC1 e,h3,ha,z2 (by omega) (by omega),z3 (by omega) (by omega) (by omega)]
 rw[if_neg h3]at he h hn ⊢;by_cases h4:e.op=2
 ·rw[if_pos h4]at he h hn ⊢;rw[if_pos (by omega)]at hl;simp only[AtW,waj,wai,and_true,true_and,Nat.zero_add,Nat.add_zero]at h hn ⊢;obtain⟨g1,g2⟩:=h;have hdp:=hdd _ he;unfold zCK;rw[if_neg (by rw[zBa g1 (by decide)]; decide),if_neg (by rw[g1.1]; decide),if_neg (by rw[hdp]; decide),if_pos (zB1 g1),
   hr _ _ he g2 (by rw[show a+1+nT (pc (e.args.getD 0 x0))=a+(nT (pc (e.args.getD 0 x0))+1) by omega]; exact hn)]
  simp only[PR.bd_ok,Except.ok.injEq,Prod.mk.injEq];refine⟨?_,by omega⟩;have ha:=len_1 (z:=x0) hl
  conv=>rhs; rw[zC1 e,h4,ha,z1 (by omega) (by omega),z2 (by omega) (by omega),z3 (by omega) (by omega) (by omega)]
 rw[if_neg h4]at he h hn ⊢;by_cases h5:e.op=10
 ·rw[if_pos h5]at he h hn ⊢;rw[if_neg (by omega),if_pos h5]at hl;simp only[wao]at he;simp only[AtW,waj,wai,and_true,true_and,Nat.zero_add,Nat.add_zero]at h ⊢;obtain⟨g1,g2,g3,g4,g5,g6,g7⟩:=h;have hdp:=hdd _ he.1;unfold zCK;rw[if_neg (by rw[zBa g1 (by decide)]; decide),if_neg (by rw[g1.1]; decide),if_neg (by rw[hdp]; decide),if_neg (by rw[zBa g1 (by decide)]; decide),if_pos (zB1 g1)];unfold zC7;rw[hr _ _ he.1 g2 (zBa g3 (by decide))];simp only[PR.bd_ok];rw[if_pos (zB1 g3),hr _ _ he.2.1 g4 (zBa g5 (by decide))];simp only[PR.bd_ok];rw[zA0 g5];simp only[PR.bd_ok];rw[hr _ _ he.2.2 g6 (zBa g7 (by decide))];simp only[PR.bd_ok];rw[zA0 g7];simp only[PR.bd_ok,Except.ok.injEq,Prod.mk.injEq];refine⟨?_,by omega⟩;have ha:=len_3 (z:=x0) hl
  conv=>rhs; rw[zC1 e,h5,ha,z1 (by omega) (by omega),z2 (by omega) (by omega),z3 (by omega) (by omega) (by omega)]
 rw[if_neg h5]at he h hn ⊢;by_cases h6:e.op=12
 ·rw[if_pos h6]at he h hn ⊢;rw[if_pos (by omega)]at hl;simp only[wao]at he;simp only[AtW,waj,wai,and_true,true_and,Nat.zero_add,Nat.add_zero]at h ⊢;obtain⟨g1,g2,g3,g4,g5,g6,g7⟩:=h;have hdp:=hdd _ he.1;unfold zCK;rw[if_neg (by rw[zBa g1 (by decide)]; decide),if_neg (by rw[g1.1]; decide),if_neg (by rw[hdp]; decide),if_neg (by rw[zBa g1 (by decide)]; decide),if_neg (by rw[zBa g1 (by decide)]; decide),if_pos (zB1 g1)];unfold zC0;rw[hr _ _ he.1 g2 (zBa g3 (by decide))];simp only[PR.bd_ok];rw[if_pos (zB1 g3),zEk he.2.1 g4 g5 (by decide) (by decide)];simp only[PR.bd_ok];rw[zA0 g5];simp only[PR.bd_ok];rw[zEk he.2.2 g6 g7 (by decide) (by decide)];simp only[PR.bd_ok];rw[zA0 g7];simp only[PR.bd_ok,Except.ok.injEq,Prod.mk.injEq];refine⟨?_,by omega⟩;have ha:=len_1 (z:=x0) hl
  conv=>rhs; rw[zC1 e,h6,ha,z1 (by omega) (by omega)]
 rw[if_neg h6]at he h hn ⊢;by_cases h7:e.op=13
 ·rw[if_pos h7]at he h hn ⊢;rw[if_pos (by omega)]at hl;simp only[wao]at he;simp only[AtW,waj,wai,and_true,true_and,Nat.zero_add,Nat.add_zero]at h ⊢;obtain⟨g1,g2,g3,g6,g7⟩:=h;have hdp:=hdd _ he.1;unfold zCK;rw[if_neg (by rw[zBa g1 (by decide)]; decide),if_neg (by rw[g1.1]; decide),if_neg (by rw[hdp]; decide),if_neg (by rw[zBa g1 (by decide)]; decide),if_neg (by rw[zBa g1 (by decide)]; decide),if_pos (zB1 g1)];unfold zC0;rw[hr _ _ he.1 g2 (zBa g3 (by decide))];simp only[PR.bd_ok];rw[if_neg (by rw[zBa g3 (by decide)]; decide),zA0 g3];simp only[PR.bd_ok];rw[zEk he.2 g6 g7 (by decide) (by decide)];simp only[PR.bd_ok];rw[zA0 g7];simp only[PR.bd_ok,Except.ok.injEq,Prod.mk.injEq];refine⟨?_,by omega⟩;have ha:=len_1 (z:=x0) hl
  conv=>rhs; rw[zC1 e,h7,ha,z1 (by omega) (by omega),z2 (by omega) (by omega)]
 rw[if_neg h7]at he h hn ⊢;have hsg:zAS e.op≠e0:=by
  intro h8;rw[if_neg (by omega),if_neg h5,if_neg (by simpa using h8)]at hl;omega
 rw[if_neg (by omega),if_neg h5,if_pos hsg]at hl;obtain⟨o1,o2⟩:=opOf_sign hsg;simp only[wao]at he;simp only[AtW,waj,wai,and_true,true_and,Nat.zero_add,Nat.add_zero]at h ⊢;obtain⟨g1,g2,g3,g4,g5⟩:=h;have hdp:=hdd _ he.1;have hop:e.op≠0:=by
  intro h0;rw[h0]at hsg;exact hsg rfl
 unfold zCK;rw[if_neg (by rw[zBa g1 (by decide)]; decide),if_neg (by rw[g1.1]; decide),if_neg (by rw[hdp]; decide),if_neg (by rw[zBa g1 (by decide)]; decide),if_pos (zB1 g1)];unfold zC7;have g3':isT T (a+1+nT (pc (e.args.getD 0 x0))) 3 (⟨#[91]⟩:ByteArray)=false:=by
  refine zBa g3 ?_;have key: ∀p∈opL,p.1≠(⟨#[91]⟩:ByteArray):=by decide
  unfold zAS at hsg ⊢;split at hsg
  ·rename_i p hp;simp[key p (List.mem_of_find?_eq_some hp)]
  ·exact absurd rfl hsg
 rw[hr _ _ he.1 g2 g3'];simp only[PR.bd_ok];rw[if_neg (by rw[zBa g3 (by simp[o2])]; decide),if_neg (by rw[g3.1,g3.2]; omega),hr _ _ he.2 g4 (zBa g5 (by decide))];simp only[PR.bd_ok];rw[zA0 g5];simp only[PR.bd_ok,Except.ok.injEq,Prod.mk.injEq];refine⟨?_,by omega⟩;have ha:=len_2 (z:=x0) hl;rw[g3.2,o1]
 conv=>rhs; rw[zC1 e,ha,z1 (by omega) (by omega),z2 (by omega) (by omega),z3 (by omega) (by omega) (by omega)]
end
theorem expr_f{T:List Tok}: ∀(d:Nat) (e:Expr) (a:Nat),zAB d e=true->At T a (zAA d e)->isT T (a+nT (zAA d e)) 3 (⟨#[91]⟩:ByteArray)=false->zBA T d a= .ok (e,a+nT (zAA d e))
 | 0,_,_,h,_,_=>by cases h
 | d+1,e,a,he,h,hn=>by
  simp only[zAB,wao,decide_eq_true_eq]at he;refine op_f (fit:=zAB d) (pc:=zAA d) (fun hd=> ?_) (expr_f d) he.2.2 he.1 he.2.1 h hn;have:d=0:=by simpa using hd
  subst this;exact fun _=>rfl
section
variable {T:List Tok} {a:Nat}
theorem zAl{n m k:Nat}{s:Bts}(h:tkP T n k s)(e:n=m):tkP T m k s:=e▸h
theorem zAz{n m:Nat}{p:List Pc}(h:At T n p)(e:n=m):At T m p:=e▸h
theorem zAK{α β:Type}{r:PR α}{f:α->Nat->PR β}{x:α}{b:Nat}{z:PR β}(h:r= .ok (x,b))(h2:f x b=z):r.bd f=z:=by rw[h]; exact h2
theorem zBy{α:Type}{x y:α}{n m:Nat}(h:x=y)(e:n=m):(Except.ok (x,n):PR α)= .ok (y,m):=by rw[h,e]
theorem tkP_lt{k:Nat}{s:Bts}(h:tkP T a k s)(hk:k≠0):a<T.length:=by
 rcases Nat.lt_or_ge a T.length with h1 | h1
 ·exact h1
 ·exfalso;have:=h.1;unfold tk at this;rw[List.getD,List.getElem?_eq_none h1]at this;exact hk this.symm
theorem At_lt: ∀(p:List Pc) (a:Nat),At T a p->0<nT p->a+nT p<=T.length
 | [],_,_,h=>by simp[nT]at h
 | x::r,a,h,hn=>by
  simp only[At,nT]at h hn ⊢;by_cases hx:x.1=0
  ·simp only[hx,if_true]at h hn ⊢;exact At_lt r a h hn
  ·simp only[hx,if_false]at h hn ⊢;have h1:=tkP_lt (k:=x.1) (s:=x.2.1 |> fun _=>x.2) ⟨h.1,h.2.1⟩ hx;rcases Nat.eq_zero_or_pos (nT r)with h0 | h0
   ·omega
   ·have:=At_lt r (a+1) h.2.2 h0;omega
theorem rule_f{r:Rule}(hr:zBZ r=true)(h:At T a (zBk r)):zEm T a= .ok (r,a+nT (zBk r)):=by
 obtain⟨k,f,n⟩:=r;unfold zBZ at hr;simp only[wao,Bool.or_eq_true,decide_eq_true_eq]at hr;obtain⟨⟨h1,h2⟩,hr⟩:=hr;unfold zBk at h ⊢;simp only at h ⊢;have l0:zFX.lookup (⟨#[105,110,105,116]⟩:ByteArray)=some 0:=by decide
 have l1:zFX.lookup (⟨#[107,101,101,112]⟩:ByteArray)=some 1:=by decide
 have l2:zFX.lookup (⟨#[99,111,112,121]⟩:ByteArray)=some 2:=by decide
 have l3:zFX.lookup (⟨#[97,100,100]⟩:ByteArray)=some 3:=by decide
 unfold zEm;by_cases h0:k=0
 ·rw[if_pos h0]at h ⊢;simp only[AtW,waj,wai,and_true,true_and,Nat.zero_add,Nat.add_zero]at h ⊢;rw[if_neg (by rw[h.1]; simp),h.2,l0];have e1:f=e0:=by rcases h1 with h1 | h1; exact h1; omega
  have e2:n=0:=by rcases h2 with h2 | h2; exact h2; omega
  simp[h0,e1,e2]
 rw[if_neg h0]at hr h ⊢;by_cases h1':k=1
 ·rw[if_pos h1']at h ⊢;simp only[AtW,waj,wai,and_true,true_and,Nat.zero_add,Nat.add_zero]at h ⊢;rw[if_neg (by rw[h.1]; simp),h.2,l1];have e1:f=e0:=by rcases h1 with h1 | h1; exact h1; omega
  have e2:n=0:=by rcases h2 with h2 | h2; exact h2; omega
  simp[h1',e1,e2]
 rw[if_neg h1']at hr h ⊢;by_cases h2':k=2
 ·rw[if_pos h2']at hr h ⊢;simp only[AtW,waj,wai,and_true,true_and,Nat.zero_add,Nat.add_zero]at h ⊢;obtain⟨g1,g2⟩:=h;rw[if_neg (by rw[g1.1]; simp),g1.2,l2];simp only[];rw[zBY g2 hr];have e2:n=0:=by rcases h2 with h2 | h2; exact h2; omega
  simp[h2',e2]
 rw[if_neg h2']at hr h ⊢;by_cases h3:k=3
 ·rw[if_pos h3,wao]at hr;simp only[AtW,waj,wai,and_true,true_and,Nat.zero_add,Nat.add_zero]at h ⊢;obtain⟨g1,g2,g3⟩:=h;rw[if_neg (by rw[g1.1]; simp),g1.2,l3];simp only[];rw[zBY g2 hr.1];simp only[PR.bd_ok];have:=hr.2;simp only[zCf,wao,decide_eq_true_eq]at this;rw[zGJ g3 hr.2 (by omega)];simp[h3]
 ·rw[if_neg h3]at hr; cases hr
def zBK{α:Type}(pc:α->List Pc):List α->List Pc
 | []=>[]
 | x::r=>sg (⟨#[44]⟩:ByteArray)::bl::(pc x++zBK pc r)
theorem zEe{α:Type}(pc:α->List Pc): ∀(x:α) (r:List α),zBU pc (x::r)=pc x++zBK pc r
 | x,[]=>by simp[zBU,zBK]
 | x,y::r=>by
  have:=zEe pc y r;simp only[zBU,zBK,this]
def zeZ(T:List Tok)(b:Nat):Prop:=tkP T b 3 (⟨#[44]⟩:ByteArray)\/tkP T b 3 (⟨#[41]⟩:ByteArray)
theorem rest_ends{α:Type}(pc:α->List Pc)(l:List α)(h:At T a (zBK pc l++[sg (⟨#[41]⟩:ByteArray)])):zeZ T a:=by
 cases l with
 | nil=>simp only[zBK,AtW,waj,wai,and_true,true_and,Nat.zero_add,Nat.add_zero]at h; exact .inr h
 | cons x r=>simp only[zBK,AtW,waj,wai,and_true,true_and,Nat.zero_add,Nat.add_zero]at h; exact .inl h.1
theorem rest_f{α:Type}{one:Nat->PR α}{fit:α->Bool}{pc:α->List Pc}(ho: ∀x a,fit x=true->At T a (pc x)->zeZ T (a+nT (pc x))->one a= .ok (x,a+nT (pc x))):
  ∀(l:List α) (n:Nat) (acc:List α) (a:Nat),l.length<n->l.all fit=true->At T a (zBK pc l++[sg (⟨#[41]⟩:ByteArray)])->zDB one T n acc a= .ok (acc++l,a+nT (zBK pc l)+1)
 | [],n+1,acc,a,_,_,h=>by
  simp only[zBK,AtW,waj,wai,and_true,true_and,Nat.zero_add,Nat.add_zero]at h;unfold zDB;rw[if_neg (by rw[zBa h (by decide)]; decide),zA0 h];simp[zBK,nT]
 | x::r,n+1,acc,a,hn,hl,h=>by
  rw[List.all_cons,wao]at hl;simp only[zBK,AtW,waj,wai,and_true,true_and,Nat.zero_add,Nat.add_zero]at h;obtain⟨g1,⟨g2,g3⟩,g4⟩:=h;have h2:At T (a+1+nT (pc x)) (zBK pc r++[sg (⟨#[41]⟩:ByteArray)]):=by
   simp only[AtW,waj,wai,and_true,true_and,Nat.zero_add,Nat.add_zero];exact⟨g3,zAl g4 (by omega)⟩
  unfold zDB;rw[if_pos (zB1 g1),ho x (a+1) hl.1 g2 (rest_ends pc r h2)];simp only[PR.bd_ok];rw[rest_f ho r n _ _ (by simpa using hn) hl.2 h2];simp only[wah,waj,wai,zBK,AtW,waj,wai,and_true,true_and,Nat.zero_add,Nat.add_zero,Except.ok.injEq,Prod.mk.injEq];omega
theorem list_f{α:Type}{one:Nat->PR α}{fit:α->Bool}{pc:α->List Pc}(ho: ∀x a,fit x=true->At T a (pc x)->zeZ T (a+nT (pc x))->one a= .ok (x,a+nT (pc x)))
  (hp: ∀x a,fit x=true->At T a (pc x)->isT T a 3 (⟨#[41]⟩:ByteArray)=false) {l:List α} (hl:l.all fit=true) (h:At T a (zA5 pc l)):zDg one T a= .ok (l,a+nT (zA5 pc l)):=by
 unfold zA5 at h ⊢;simp only[AtW,waj,wai,and_true,true_and,Nat.zero_add,Nat.add_zero]at h ⊢;obtain⟨g1,g2,g3⟩:=h;unfold zDg;rw[zA0 g1];simp only[PR.bd_ok];cases l with
 | nil=>
  simp only[zBU,AtW,waj,wai,and_true,true_and,Nat.zero_add,Nat.add_zero]at g3 ⊢;rw[if_pos (zB1 g3)]
 | cons x r=>
  rw[zEe]at g2 g3 ⊢;rw[List.all_cons,wao]at hl;simp only[AtW,waj,wai,and_true,true_and,Nat.zero_add,Nat.add_zero]at g2 g3 ⊢;obtain⟨g2,g4⟩:=g2;have h2:At T (a+1+nT (pc x)) (zBK pc r++[sg (⟨#[41]⟩:ByteArray)]):=by
   simp only[AtW,waj,wai,and_true,true_and,Nat.zero_add,Nat.add_zero];exact⟨g4,by rw[show a+1+nT (pc x)+nT (zBK pc r)=a+1+(nT (pc x)+nT (zBK pc r)) by omega]; exact g3⟩
  have hlen:r.length<T.length:=by
   have h3:=At_lt _ _ h2 (by simp only[AtW,waj,wai,and_true,true_and,Nat.zero_add,Nat.add_zero]; omega);have: ∀r:List α,r.length<=nT (zBK pc r):=by
    intro r
    induction r with
    | nil=>exact Nat.zero_le _
    | cons y r ih=>simp only[zBK,AtW,waj,wai,and_true,true_and,Nat.zero_add,Nat.add_zero,wad]; omega
   have:=this r;simp only[AtW,waj,wai,and_true,true_and,Nat.zero_add,Nat.add_zero]at h3;omega
  rw[if_neg (by rw[hp x _ hl.1 g2]; decide),ho x _ hl.1 g2 (rest_ends pc r h2)];simp only[PR.bd_ok];rw[rest_f ho r _ _ _ hlen hl.2 h2];simp only[waj,wai,Except.ok.injEq,Prod.mk.injEq,true_and];omega
theorem num_e{x:Num}(hx:zAX x=true)(h:At T a (zAD x))(he:zeZ T (a+nT (zAD x))):zDM T a= .ok (x,a+nT (zAD x)):=by
 rcases he with he | he
 ·exact zEk hx h he (by decide) (by decide)
 ·exact zEk hx h he (by decide) (by decide)
theorem num_hp{x:Num}(h:At T a (zAD x)):isT T a 3 (⟨#[41]⟩:ByteArray)=false:=by
 unfold zAD at h;split at h
 ·simp only[AtW,waj,wai,and_true,true_and,Nat.zero_add,Nat.add_zero]at h; exact zBa h (by simp)
 split at h
 ·simp only[AtW,waj,wai,and_true,true_and,Nat.zero_add,Nat.add_zero]at h; exact zBa h.1 (by simp)
 split at h
 ·simp only[AtW,waj,wai,and_true,true_and,Nat.zero_add,Nat.add_zero]at h; exact zBa h.1 (by simp)
 ·simp only[AtW,waj,wai,and_true,true_and,Nat.zero_add,Nat.add_zero]at h; exact zBa h (by simp)
theorem bind_f{b:Bind}(hb:zCL b=true)(h:At T a (zBz b)):zDP T a= .ok (b,a+nT (zBz b)):=by
 unfold zCL at hb;rw[wao]at hb;unfold zBz at h ⊢;simp only[AtW,waj,wai,and_true,true_and,Nat.zero_add,Nat.add_zero]at h ⊢;obtain⟨g1,g2,g3⟩:=h;unfold zDP;rw[zBY g1 hb.1];simp only[PR.bd_ok];rw[zA0 g2];simp only[PR.bd_ok];rw[zBY g3 hb.2];rfl
theorem bind_hp{b:Bind}(h:At T a (zBz b)):isT T a 3 (⟨#[41]⟩:ByteArray)=false:=by
 unfold zBz at h;simp only[AtW,waj,wai,and_true,true_and,Nat.zero_add,Nat.add_zero]at h;exact zBa h.1 (by simp)
theorem zFI{e:Expr}(h:zCE e=true):e=x0:=by
 obtain⟨o,n,k,w,l⟩:=e;unfold zCE at h;simp only[wao,decide_eq_true_eq]at h;obtain⟨⟨⟨⟨h1,h2⟩,h3⟩,h4⟩,h5⟩:=h;simp only[Expr.op,Expr.name,Expr.k,Expr.w,Expr.args]at h1 h2 h3 h4 h5;rw[h1,h2,zDv h3,zDv h4,List.length_eq_zero_iff.1 h5];rfl
theorem zeroI_eq{x:Item}(h:zDm x=true):
  (6<x.kind->x.width=n0)/\(x.kind≠3->x.kind≠6->x.depth=n0)/\(x.kind≠4->x.init=n0)/\(x.kind<4\/x.kind=9->x.a=x0)/\(x.kind≠6->x.kind≠8->x.b=x0)/\(x.kind≠6->x.c=x0)/\
   (x.kind≠4->x.kind≠6->x.rule=r0)/\(x.kind≠9->x.of=e0/\x.args=[]/\x.ports=[]):=by
 unfold zDm at h;simp only[wao,Bool.or_eq_true,decide_eq_true_eq]at h;obtain⟨⟨⟨⟨⟨⟨⟨h1,h2⟩,h3⟩,h4⟩,h5⟩,h6⟩,h7⟩,h8⟩:=h;refine⟨fun _=> ?_,fun _ _=> ?_,fun _=> ?_,fun _=> ?_,fun _ _=> ?_,fun _=> ?_,fun _ _=> ?_,fun _=> ?_⟩
 ·rcases h1 with h1 | h1; exact zDv h1; omega
 ·rcases h2 with(h2 | h2) | h2; exact zDv h2; omega; omega
 ·rcases h3 with h3 | h3; exact zDv h3; omega
 ·rcases h4 with h4 | h4; exact zFI h4; omega
 ·rcases h5 with(h5 | h5) | h5; exact zFI h5; omega; omega
 ·rcases h6 with h6 | h6; exact zFI h6; omega
 ·rcases h7 with(h7 | h7) | h7; exact h7; omega; omega
 ·rcases h8 with h8 | h8
  ·exact⟨h8.1.1,List.length_eq_zero_iff.1 h8.1.2,List.length_eq_zero_iff.1 h8.2⟩
  ·omega
theorem zCy(x:Item):x=⟨x.kind,x.name,x.width,x.depth,x.init,x.a,x.b,x.c,x.rule,x.of,x.args,x.ports⟩:=rfl
theorem zGb{d:Nat}{e:Expr}(he:zAB d e=true)(h:At T a (zAA d e)){k:Nat}{s:Bts}(hs:tkP T (a+nT (zAA d e)) k s)(h1:(decide (k=3)&&decide (s=(⟨#[91]⟩:ByteArray)))=false):zBA T d a= .ok (e,a+nT (zAA d e)):=
 expr_f d e a he h (zBa hs h1)
theorem rule_hd{r:Rule}(h:At T a (zBk r)): ∃s,tkP T a 1 s:=by
 unfold zBk at h;split at h
 ·simp only[AtW,waj,wai,and_true,true_and,Nat.zero_add,Nat.add_zero]at h; exact⟨_,h⟩
 split at h
 ·simp only[AtW,waj,wai,and_true,true_and,Nat.zero_add,Nat.add_zero]at h; exact⟨_,h⟩
 split at h
 ·simp only[AtW,waj,wai,and_true,true_and,Nat.zero_add,Nat.add_zero]at h; exact⟨_,h.1⟩
 ·simp only[AtW,waj,wai,and_true,true_and,Nat.zero_add,Nat.add_zero]at h; exact⟨_,h.1⟩
end
theorem item_f{T:List Tok}{a:Nat}{x:Item}(hx:zAW x=true)(h:At T a (zAV x++[sg (⟨#[59]⟩:ByteArray),nl])):zDV T a= .ok (x,a+nT (zAV x)+1):=by
 simp only[zAW,wao,decide_eq_true_eq]at hx;obtain⟨hk,hz,hn,hw,hd,hb⟩:=hx;obtain⟨z1,z2,z3,z4,z5,z6,z7,z8⟩:=zeroI_eq hz;have key: ∀i:Nat,i<9->zIg.lookup (kwL.getD i e0)=some (i+1):=by decide
 have hkey:=key (x.kind-1).toNat (by omega);simp only[zAV,AtW,waj,wai,and_true,true_and,Nat.zero_add,Nat.add_zero]at h ⊢;obtain⟨g1,g2,⟨gw,gd,gb⟩,ge⟩:=h;unfold zDV;rw[if_neg (by rw[g1.1]; simp),g1.2,hkey];simp only[];unfold zDL at gw gd gb ge ⊢;unfold zDx at gd gb ge ⊢;unfold zB7 at gb ge ⊢;unfold zBB at hb;clear hkey key;have q1: ∀ {α:Type} (x y:α),(if (1:Int)=3\/(1:Int)=6 then x else y)=y:=fun _ _=>rfl;rcases(show x.kind=1\/x.kind=2\/x.kind=3\/x.kind=4\/x.kind=5\/x.kind=6\/x.kind=7\/x.kind=8\/x.kind=9 by omega)with hK | hK | hK | hK | hK | hK | hK | hK | hK
 all_goals
  simp only[hK,Int.reduceLE,Int.reduceEq,Int.reduceSub,Int.reduceToNat,Nat.reduceAdd,or_false,false_or,or_true,true_or,or_self,if_true,if_false,wao,Bool.true_and,Bool.and_true,reduceCtorEq,AtW,waj,wai,and_true,true_and,Nat.zero_add,Nat.add_zero]at gw gd gb ge hw hd hb ⊢;unfold zHh
 ·have hX:{zBg 1 with name:=x.name,width:=x.width}=x:=by
   rw[zCy x,hK,z2 (by omega) (by omega),z3 (by omega),z4 (by omega),z5 (by omega) (by omega),z6 (by omega),z7 (by omega) (by omega),(z8 (by omega)).1,(z8 (by omega)).2.1,(z8 (by omega)).2.2]; rfl
  refine zAK (x:=x) (b:=a+(nT (zAD x.width)+1+1+1)) ?_ ?_
  ·simp only[];unfold zCc;refine zAK (zBY g2 hn) (zAK (zA0 (zAl gw.1 (by omega))) (zAK (zEk hw (zAz gw.2 (by omega)) (zAl ge (by omega)) (by decide) (by decide)) (zBy hX (by omega))))
  ·refine zAK (zA0 (zAl ge (by omega))) (zBy rfl (by omega))
 ·have hX:{zBg 2 with name:=x.name,width:=x.width}=x:=by
   rw[zCy x,hK,z2 (by omega) (by omega),z3 (by omega),z4 (by omega),z5 (by omega) (by omega),z6 (by omega),z7 (by omega) (by omega),(z8 (by omega)).1,(z8 (by omega)).2.1,(z8 (by omega)).2.2]; rfl
  refine zAK (x:=x) (b:=a+(nT (zAD x.width)+1+1+1)) ?_ ?_
  ·simp only[];unfold zCc;refine zAK (zBY g2 hn) (zAK (zA0 (zAl gw.1 (by omega))) (zAK (zEk hw (zAz gw.2 (by omega)) (zAl ge (by omega)) (by decide) (by decide)) (zBy hX (by omega))))
  ·refine zAK (zA0 (zAl ge (by omega))) (zBy rfl (by omega))
 ·have hX:{zBg 3 with name:=x.name,width:=x.width,depth:=x.depth}=x:=by
   rw[zCy x,hK,z3 (by omega),z4 (by omega),z5 (by omega) (by omega),z6 (by omega),z7 (by omega) (by omega),(z8 (by omega)).1,(z8 (by omega)).2.1,(z8 (by omega)).2.2]; rfl
  refine zAK (x:=x) (b:=a+(nT (zAD x.width)+nT (zAD x.depth)+1+1+1+1+1)) ?_ ?_
  ·simp only[];unfold zE0 zCc;refine zAK (x:={zBg 3 with name:=x.name,width:=x.width}) (b:=a+(nT (zAD x.width)+1+1+1)) (zAK (zBY g2 hn) (zAK (zA0 (zAl gw.1 (by omega))) (zAK (zEk hw (zAz gw.2 (by omega)) (zAl gd.1 (by omega)) (by decide) (by decide)) (zBy rfl (by omega))))) (zAK (zA0 (zAl gd.1 (by omega))) (zAK (zEk hd (zAz gd.2.1 (by omega)) (zAl gd.2.2 (by omega)) (by decide) (by decide)) (zAK (zA0 (zAl gd.2.2 (by omega))) (zBy hX (by omega)))))
  ·refine zAK (zA0 (zAl ge (by omega))) (zBy rfl (by omega))
 ·have hX:{zBg 4 with name:=x.name,width:=x.width,init:=x.init,a:=x.a,rule:=x.rule}=x:=by
   rw[zCy x,hK,z2 (by omega) (by omega),z5 (by omega) (by omega),z6 (by omega),(z8 (by omega)).1,(z8 (by omega)).2.1,(z8 (by omega)).2.2]; rfl
  obtain⟨_,hr⟩:=rule_hd gb.2.2.2.2;refine zAK (x:=x) (b:=a+(nT (zAD x.width)+nT (zAD x.init)+nT (zAA 8 x.a)+nT (zBk x.rule)+1+1+1+1+1)) ?_ ?_
  ·simp only[];unfold regP zCc;refine zAK (x:={zBg 4 with name:=x.name,width:=x.width}) (b:=a+(nT (zAD x.width)+1+1+1)) (zAK (zBY g2 hn) (zAK (zA0 (zAl gw.1 (by omega))) (zAK (zEk hw (zAz gw.2 (by omega)) (zAl gb.1 (by omega)) (by decide) (by decide)) (zBy rfl (by omega))))) (zAK (zA0 (zAl gb.1 (by omega))) (zAK (zEk hb.1 (zAz gb.2.1 (by omega)) (zAl gb.2.2.1 (by omega)) (by decide) (by decide)) (zAK (zA0 (zAl gb.2.2.1 (by omega))) (zAK (zGb hb.2.1 (zAz gb.2.2.2.1 (by omega)) (zAl hr (by omega)) (by simp)) (zAK (rule_f hb.2.2 (zAz gb.2.2.2.2 (by omega))) (zBy hX (by omega)))))))
  ·refine zAK (zA0 (zAl ge (by omega))) (zBy rfl (by omega))
 ·have hX:{zBg 5 with name:=x.name,width:=x.width,a:=x.a}=x:=by
   rw[zCy x,hK,z2 (by omega) (by omega),z3 (by omega),z5 (by omega) (by omega),z6 (by omega),z7 (by omega) (by omega),(z8 (by omega)).1,(z8 (by omega)).2.1,(z8 (by omega)).2.2]; rfl
  refine zAK (x:=x) (b:=a+(nT (zAD x.width)+nT (zAA 8 x.a)+1+1+1+1)) ?_ ?_
  ·simp only[];unfold wireP zCc;refine zAK (x:={zBg 5 with name:=x.name,width:=x.width}) (b:=a+(nT (zAD x.width)+1+1+1)) (zAK (zBY g2 hn) (zAK (zA0 (zAl gw.1 (by omega))) (zAK (zEk hw (zAz gw.2 (by omega)) (zAl gb.1 (by omega)) (by decide) (by decide)) (zBy rfl (by omega))))) (zAK (zA0 (zAl gb.1 (by omega))) (zAK (zGb hb (zAz gb.2 (by omega)) (zAl ge (by omega)) (by decide)) (zBy hX (by omega))))
  ·refine zAK (zA0 (zAl ge (by omega))) (zBy rfl (by omega))
 ·have hX:{zBg 6 with name:=x.name,width:=x.width,depth:=x.depth,a:=x.a,b:=x.b,c:=x.c,rule:=x.rule}=x:=by
   rw[zCy x,hK,z3 (by omega),(z8 (by omega)).1,(z8 (by omega)).2.1,(z8 (by omega)).2.2]; rfl
  obtain⟨_,hr⟩:=rule_hd gb.2.2.2.2.2.2;refine zAK (x:=x) (b:=a+(nT (zAD x.width)+nT (zAD x.depth)+nT (zAA 8 x.a)+nT (zAA 8 x.b)+nT (zAA 8 x.c)+nT (zBk x.rule)+1+1+1+1+1+1+1+1)) ?_ ?_
  ·simp only[];unfold memP zE0 zCc;refine zAK (x:={zBg 6 with name:=x.name,width:=x.width,depth:=x.depth}) (b:=a+(nT (zAD x.width)+nT (zAD x.depth)+1+1+1+1+1)) (zAK (x:={zBg 6 with name:=x.name,width:=x.width}) (b:=a+(nT (zAD x.width)+1+1+1)) (zAK (zBY g2 hn) (zAK (zA0 (zAl gw.1 (by omega))) (zAK (zEk hw (zAz gw.2 (by omega)) (zAl gd.1 (by omega)) (by decide) (by decide)) (zBy rfl (by omega))))) (zAK (zA0 (zAl gd.1 (by omega))) (zAK (zEk hd (zAz gd.2.1 (by omega)) (zAl gd.2.2 (by omega)) (by decide) (by decide)) (zAK (zA0 (zAl gd.2.2 (by omega))) (zBy rfl (by omega)))))) (zAK (word_f (zAl gb.1 (by omega))) (zAK (zGb hb.1 (zAz gb.2.1 (by omega)) (zAl gb.2.2.1 (by omega)) (by decide)) (zAK (word_f (zAl gb.2.2.1 (by omega))) (zAK (zGb hb.2.1 (zAz gb.2.2.2.1 (by omega)) (zAl gb.2.2.2.2.1 (by omega)) (by decide)) (zAK (zA0 (zAl gb.2.2.2.2.1 (by omega))) (zAK (zGb hb.2.2.1 (zAz gb.2.2.2.2.2.1 (by omega)) (zAl hr (by omega)) (by simp)) (zAK (rule_f hb.2.2.2 (zAz gb.2.2.2.2.2.2 (by omega))) (zBy hX (by omega)))))))))
  ·refine zAK (zA0 (zAl ge (by omega))) (zBy rfl (by omega))
 ·have hX:{zBg 7 with name:=x.name,a:=x.a}=x:=by
   rw[zCy x,hK,z1 (by omega),z2 (by omega) (by omega),z3 (by omega),z5 (by omega) (by omega),z6 (by omega),z7 (by omega) (by omega),(z8 (by omega)).1,(z8 (by omega)).2.1,(z8 (by omega)).2.2]; rfl
  refine zAK (x:=x) (b:=a+(nT (zAA 8 x.a)+1+1+1)) ?_ ?_
  ·simp only[];unfold zFw;refine zAK (zBY g2 hn) (zAK (word_f (zAl gb.1 (by omega))) (zAK (zGb hb (zAz gb.2 (by omega)) (zAl ge (by omega)) (by decide)) (zBy hX (by omega))))
  ·refine zAK (zA0 (zAl ge (by omega))) (zBy rfl (by omega))
 ·have hX:{zBg 8 with name:=x.name,a:=x.a,b:=x.b}=x:=by
   rw[zCy x,hK,z1 (by omega),z2 (by omega) (by omega),z3 (by omega),z6 (by omega),z7 (by omega) (by omega),(z8 (by omega)).1,(z8 (by omega)).2.1,(z8 (by omega)).2.2]; rfl
  refine zAK (x:=x) (b:=a+(nT (zAA 8 x.a)+nT (zAA 8 x.b)+1+1+1+1)) ?_ ?_
  ·simp only[];unfold putP zFw;refine zAK (x:={zBg 8 with name:=x.name,a:=x.a}) (b:=a+(nT (zAA 8 x.a)+1+1+1)) (zAK (zBY g2 hn) (zAK (word_f (zAl gb.1 (by omega))) (zAK (zGb hb.1 (zAz gb.2.1 (by omega)) (zAl gb.2.2.1 (by omega)) (by decide)) (zBy rfl (by omega))))) (zAK (zA0 (zAl gb.2.2.1 (by omega))) (zAK (zGb hb.2 (zAz gb.2.2.2 (by omega)) (zAl ge (by omega)) (by decide)) (zBy hX (by omega))))
  ·refine zAK (zA0 (zAl ge (by omega))) (zBy rfl (by omega))
 ·have hX:{zBg 9 with name:=x.name,of:=x.of,args:=x.args,ports:=x.ports}=x:=by
   rw[zCy x,hK,z1 (by omega),z2 (by omega) (by omega),z3 (by omega),z4 (by omega),z5 (by omega) (by omega),z6 (by omega),z7 (by omega) (by omega)]; rfl
  refine zAK (x:=x) (b:=a+(nT (zA5 zAD x.args)+nT (zA5 zBz x.ports)+1+1+1+1)) ?_ ?_
  ·simp only[];unfold instP;refine zAK (zBY g2 hn) (zAK (zA0 (zAl gb.1 (by omega))) (zAK (zBY (zAl gb.2.1 (by omega)) hb.1) (zAK (list_f (fun y b hy hA he=>num_e hy hA he) (fun y b _ hA=>num_hp hA) hb.2.1 (zAz gb.2.2.1 (by omega))) (zAK (list_f (fun y b hy hA _=>bind_f hy hA) (fun y b _ hA=>bind_hp hA) hb.2.2 (zAz gb.2.2.2 (by omega))) (zBy hX (by omega))))))
  ·refine zAK (zA0 (zAl ge (by omega))) (zBy rfl (by omega))
theorem zGe: ∀l:List Item,l.length<=nT (zAJ l)
 | []=>Nat.zero_le _
 | x::r=>by
  have:=zGe r;simp only[zAJ,AtW,waj,wai,and_true,true_and,Nat.zero_add,Nat.add_zero,wad];omega
theorem items_f{T:List Tok}: ∀(l:List Item) (n:Nat) (acc:List Item) (a:Nat),l.length<n->l.all zAW=true->At T a (zAJ l++[sg (⟨#[125]⟩:ByteArray),nl])->zCN T n acc a= .ok (acc++l,a+nT (zAJ l)+1)
 | _,0,_,_,h,_,_=>absurd h (Nat.not_lt_zero _)
 | [],n+1,acc,a,_,_,h=>by
  simp only[zAJ,AtW,waj,wai,and_true,true_and,Nat.zero_add,Nat.add_zero]at h;unfold zCN;rw[if_pos (zB1 h)];simp[zAJ,nT]
 | x::r,n+1,acc,a,hn,hl,h=>by
  rw[List.all_cons,wao]at hl;have h1:At T a (zAV x++[sg (⟨#[59]⟩:ByteArray),nl])/\At T (a+nT (zAV x)+1) (zAJ r++[sg (⟨#[125]⟩:ByteArray),nl]):=by
   simp only[zAJ,AtW,waj,wai,and_true,true_and,Nat.zero_add,Nat.add_zero]at h ⊢;exact⟨⟨h.1.1,h.1.2.1⟩,zAz h.1.2.2 (by omega),zAl h.2 (by omega)⟩
  have hk: ∃s,tkP T a 1 s:=by
   have:=h1.1;simp only[zAV,AtW,waj,wai,and_true,true_and,Nat.zero_add,Nat.add_zero]at this;exact⟨_,this.1⟩
  obtain⟨s,hk⟩:=hk;unfold zCN;rw[if_neg (by rw[zBa hk (by simp)]; decide),item_f hl.1 h1.1];simp only[PR.bd_ok];rw[items_f r n _ _ (by simpa using hn) hl.2 h1.2];simp only[zAJ,AtW,waj,wai,and_true,true_and,Nat.zero_add,Nat.add_zero,wah];exact zBy rfl (by omega)
theorem name_p1{T:List Tok}{s:Bts}{a:Nat}(h:At T a (zBt s)):isT T a 3 (⟨#[41]⟩:ByteArray)=false:=by
 unfold zBt at h;simp only[AtW,waj,wai,and_true,true_and,Nat.zero_add,Nat.add_zero]at h;exact zBa h (by simp)
theorem module_f{T:List Tok}{a:Nat}{m:Module}(hm:zAG m=true)(h:At T a (zAE m)):zBC T a= .ok (m,a+nT (zAE m)):=by
 simp only[zAG,wao]at hm;obtain⟨h1,h2,h3,h4⟩:=hm;simp only[zAE,zBQ,AtW,waj,wai,and_true,true_and,Nat.zero_add,Nat.add_zero]at h ⊢;obtain⟨g1,g2,⟨g3,g4,g5⟩,g6,g7,g8⟩:=h;unfold zBC;refine zAK (word_f g1) ?_;refine zAK (zBY g2 h1) ?_;refine zAK (list_f (pc:=zBt) (fun y b hy hA _=> ?_) (fun y b _ hA=>name_p1 hA) h2 (zAz g3 (by omega))) ?_
 ·unfold zBt at hA ⊢;simp only[AtW,waj,wai,and_true,true_and,Nat.zero_add,Nat.add_zero]at hA ⊢;exact zBY hA hy
 refine zAK (zA0 (zAl g4 (by omega))) ?_;refine zAK (zBY (zAl g5 (by omega)) h3) ?_;refine zAK (zA0 (zAl g6 (by omega))) ?_;have hA:At T (a+1+1+nT (zA5 zBt m.params)+1+1+1) (zAJ m.items++[sg (⟨#[125]⟩:ByteArray),nl]):=by
  simp only[AtW,waj,wai,and_true,true_and,Nat.zero_add,Nat.add_zero];exact⟨zAz g7 (by omega),zAl g8 (by omega)⟩
 refine zAK (items_f m.items _ _ _ ?_ h4 hA) (zBy rfl (by omega));have:=At_lt _ _ hA (by simp only[AtW,waj,wai,and_true,true_and,Nat.zero_add,Nat.add_zero]; omega);have h6:=zGe m.items;simp only[AtW,waj,wai,and_true,true_and,Nat.zero_add,Nat.add_zero]at this;omega
theorem zIn(m:Module):0<nT (zAE m):=by
 simp only[zAE,zBQ,AtW,waj,wai,and_true,true_and,Nat.zero_add,Nat.add_zero];omega
theorem zG8: ∀l:List Module,l.length<=nT (zAk l)
 | []=>Nat.zero_le _
 | m::r=>by
  have:=zG8 r;have:=zIn m;simp only[zAk,AtW,waj,wai,and_true,true_and,Nat.zero_add,Nat.add_zero,wad];omega
theorem file_f{T:List Tok}: ∀(l:List Module) (n:Nat) (acc:List Module) (a:Nat),l.length<n->l.all zAG=true->At T a (zAk l)->(tk T (a+nT (zAk l))).1 =4->zB4 T n acc a= .ok (acc++l)
 | _,0,_,_,h,_,_,_=>absurd h (Nat.not_lt_zero _)
 | [],n+1,acc,a,_,_,_,h4=>by
  simp only[zAk,AtW,waj,wai,and_true,true_and,Nat.zero_add,Nat.add_zero]at h4;unfold zB4;rw[if_pos h4,List.append_nil]
 | m::r,n+1,acc,a,hn,hl,h,h4=>by
  rw[List.all_cons,wao]at hl;simp only[zAk,AtW,waj,wai,and_true,true_and,Nat.zero_add,Nat.add_zero]at h h4;have hk:(tk T a).1 =1:=by
   have:=h.1;simp only[zAE,zBQ,AtW,waj,wai,and_true,true_and,Nat.zero_add,Nat.add_zero]at this;exact this.1.1
  unfold zB4;rw[if_neg (by rw[hk]; decide),module_f hl.1 h.1];simp only[];rw[file_f r n _ _ (by simpa using hn) hl.2 h.2 (by rw[<-h4,Nat.add_assoc]),wah];rfl
theorem zIJ(t:Tok)(T:List Tok)(a:Nat):tk (t::T) (a+1)=tk T a:=rfl
theorem At_cons(t:Tok)(T:List Tok): ∀(p:List Pc) (a:Nat),At (t::T) (a+1) p↔At T a p
 | [],_=>Iff.rfl
 | x::r,a=>by
  simp only[At,zIJ];split
  ·exact At_cons t T r a
  ·rw[At_cons t T r (a+1)]
theorem zGS: ∀(p:List Pc) (o:Nat),At (pcT o p) 0 p
 | [],_=>trivial
 | x::r,o=>by
  unfold pcT At;by_cases hx:x.1=0
  ·simp only[hx,if_true]; exact zGS r _
  ·simp only[hx,if_false];refine⟨rfl,rfl,?_⟩;rw[At_cons];exact zGS r _
theorem zDy: ∀(p:List Pc) (o:Nat),tk (pcT o p) (nT p)=(4,e0,o+(pcB p).size)/\(pcT o p).length =nT p+1
 | [],o=>⟨rfl,rfl⟩
 | x::r,o=>by
  unfold pcT nT;have ih:=zDy r (o+x.2.size);have hz:o+(pcB (x::r)).size =o+x.2.size+(pcB r).size :=by simp only[pcB,ByteArray.size_append]; omega
  rw[hz];by_cases hx:x.1=0
  ·simp only[hx,if_true]; exact ih
  ·simp only[hx,if_false,wad];exact⟨ih.1,by rw[ih.2]⟩
def zDI(T:List Tok):Except Nat (List Module):=zB4 T T.length [] 0
theorem zFt(l:List Module)(hl:l.all zAG=true){T:List Tok}(h:At T 0 (zAk l))(h4:(tk T (nT (zAk l))).1 =4)(hn:T.length=nT (zAk l)+1):zDI T= .ok l:=by
 unfold zDI;have:=zG8 l;rw[file_f l _ [] 0 (by omega) hl h (by rw[Nat.zero_add]; exact h4),wai]
set_option maxHeartbeats 1000000
def zAY(l:List Nat)(a:Nat):Nat:=l.getD a 0
def nameL:List Bts:=[(⟨#[97]⟩:ByteArray),(⟨#[98]⟩:ByteArray),(⟨#[99,48]⟩:ByteArray),(⟨#[119]⟩:ByteArray),(⟨#[120,49,121]⟩:ByteArray),(⟨#[116,111,112]⟩:ByteArray),(⟨#[122,57]⟩:ByteArray),(⟨#[109]⟩:ByteArray)]
def zCk(n:Nat):Bts:=nameL.getD (n % 8) e0
def zHM(l:List Nat)(a:Nat):Num:=
 if zAY l a % 4=2 then⟨0,zCk (zAY l (a+1))⟩
 else if zAY l a % 4=3 then(if zAY l a % 8=3 then⟨((1+zAY l (a+1) % 20:Nat):Int),zCk (zAY l a / 8)⟩else⟨-1-((zAY l (a+1) % 20:Nat):Int),zCk (zAY l a / 8)⟩)
 else⟨((zAY l (a+1) % 20:Nat):Int),e0⟩
def zIh(l:List Nat)(a:Nat):Expr×Nat:=
 if zAY l a / 3 % 2=0 then(.mk 1 e0 (zHM l (a+1)) (zHM l (a+3)) [],a+5)else(.mk 14 (zCk (zAY l a / 6)) n0 n0 [],a+1)
def opsG:List Nat:=[2,3,4,5,6,7,8,9,10,11,12,13,15]
def zEq(rec:Nat->Expr×Nat):Nat->Nat->List Expr×Nat
 | 0,a=>([],a)
 | n+1,a=>((zEq rec n a).1 ++[(rec (zEq rec n a).2).1],(rec (zEq rec n a).2).2)
def arG(op:Nat):Nat:=if op=2\/op=12\/op=13\/op=15 then 1 else if op=10 then 3 else 2
def zGw(rec:Nat->Expr×Nat)(b op:Nat)(k w:Num)(a:Nat):Expr×Nat:=
 (.mk op (if op=15 then zCk (b / 39)else e0) k w (zEq rec (arG op) a).1,(zEq rec (arG op) a).2)
def zCC(l:List Nat):Nat->Nat->Expr×Nat
 | 0,a=>zIh l a
 | d+1,a=>if d=0\/zAY l a % 3=0 then zIh l a else
  let b:=zAY l a
  let op:=opsG.getD (b / 3 % 13) 0
  if op=12 then zGw (zCC l d) b op (zHM l (a+1)) (zHM l (a+3)) (a+5)
  else if op=13 then zGw (zCC l d) b op n0 (zHM l (a+1)) (a+3)
  else zGw (zCC l d) b op n0 n0 (a+1)
def zCe(e:Expr):Nat->Expr
 | 0=>e
 | n+1=>.mk 2 e0 n0 n0 [zCe e n]
def ruleG(l:List Nat)(a:Nat):Rule:=
 if zAY l a % 4=1 then⟨1,e0,0⟩else if zAY l a % 4=2 then⟨2,zCk (zAY l (a+1)),0⟩else if zAY l a % 4=3 then⟨3,zCk (zAY l (a+1)),zAY l a⟩else r0
def zIT(l:List Nat)(a:Nat)(n:Nat):List Num:=(List.range n).map fun i=>zHM l (a+2*i)
def zHI(l:List Nat)(a:Nat)(k n:Nat):List Bind:=(List.range n).map fun i=>⟨zCk (zAY l (a+i)),zCk (i+k)⟩
def zgm(l:List Nat)(a:Nat)(b n k:Nat):Item×Nat:=
 let x:Item:=⟨k,zCk n,if k<=6 then zHM l (a+2)else n0,if k=3\/k=6 then zHM l (a+4)else n0,if k=4 then zHM l (a+4)else n0,x0,x0,x0,if k=4\/k=6 then ruleG l (a+6)else r0,e0,[],[]⟩
 if k=9 then({x with of:=zCk (b / 9),args:=zIT l (a+8) (n / 8 % 3),ports:=zHI l (a+8) n (n / 8 % 3)},a+12)
 else if k<4 then(x,a+8)
 else
  let e:=zCC l 3 (a+8)
  let y:=if n / 8 % 8=7 then zCe e.1 5 else e.1
  if k=6 then({x with a:=y,b:=(zCC l 2 e.2).1,c:=(zCC l 2 (zCC l 2 e.2).2).1},(zCC l 2 (zCC l 2 e.2).2).2)
  else if k=8 then({x with a:=y,b:=(zCC l 2 e.2).1},(zCC l 2 e.2).2)
  else({x with a:=y},e.2)
def zIU(l:List Nat)(a:Nat):Item×Nat:=zgm l a (zAY l a) (zAY l (a+1)) (1+zAY l a % 9)
def zG2(l:List Nat):Nat->List Item->Nat->List Item
 | 0,acc,_=>acc
 | n+1,acc,a=>if acc.length=0\/a<l.length then zG2 l n (acc++[(zIU l a).1]) (zIU l a).2 else acc
def zD0(l:List Nat):List Bts:=(List.range (zAY l 0 / 8 % 3)).map fun i=>zCk (zAY l 1 / 8+i)
def zDu(l:List Nat):Module:=⟨zCk (zAY l 0),zCk (zAY l 1),zD0 l,zG2 l 4 [] 2⟩
def zE4(x:List (List Nat)):List Module:=if x.length=0 then [zDu []]else(x.take 3).map zDu
theorem zBD(n:Nat):zAN (zCk n)=true/\(zCk n).size <=3/\zCk n≠e0:=by
 have h: ∀i,i<8->zAN (nameL.getD i e0)=true/\(nameL.getD i e0).size <=3/\nameL.getD i e0≠e0:=by decide
 exact h _ (Nat.mod_lt _ (by decide))
def mz(p:List Pc):Nat:=(pcB p).size +nT p
theorem zBv:mz []=0:=rfl
theorem zA3(p:Pc)(r:List Pc):mz (p::r)=(p.2.size+if p.1=0 then 0 else 1)+mz r:=by
 unfold mz;have e:(pcB (p::r)).size =p.2.size+(pcB r).size :=ByteArray.size_append;rw[e];by_cases h:p.1=0
 ·have:nT (p::r)=nT r:=by rw[nT,if_pos h]
  rw[this,if_pos h]; omega
 ·have:nT (p::r)=nT r+1:=by rw[nT,if_neg h]
  rw[this,if_neg h]; omega
theorem zBw(p q:List Pc):mz (p++q)=mz p+mz q:=by unfold mz; rw[zAx,ByteArray.size_append,zAI]; omega
theorem zI6(r:List Pc):mz (bl::r)=1+mz r:=zA3 bl r
theorem zI7(r:List Pc):mz (nl::r)=1+mz r:=zA3 nl r
theorem zJa(s:Bts)(r:List Pc):mz (sg s::r)=s.size+1+mz r:=zA3 (sg s) r
theorem zI8(s:Bts)(r:List Pc):mz (nm s::r)=s.size+1+mz r:=zA3 (nm s) r
theorem zI9(n:Int)(r:List Pc):mz (nu n::r)=(zB2 n).size +1+mz r:=zA3 (nu n) r
theorem zGj(a:UInt8):(⟨#[a]⟩:ByteArray).size =1:=rfl
theorem zGk(a b:UInt8):(⟨#[a,b]⟩:ByteArray).size =2:=rfl
theorem zGl(a b c:UInt8):(⟨#[a,b,c]⟩:ByteArray).size =3:=rfl
theorem zGm(a b c d:UInt8):(⟨#[a,b,c,d]⟩:ByteArray).size =4:=rfl
theorem zGn(a b c d e f:UInt8):(⟨#[a,b,c,d,e,f]⟩:ByteArray).size =6:=rfl
theorem zEb: ∀n:Nat,n<256->(zB2 (n:Int)).size <=3/\(n<100->(zB2 (n:Int)).size <=2):=of_decide_eq_true (by kernel_rfl)
theorem zDw(l:List Nat)(a:Nat):zAX (zHM l a)=true/\mz (zAD (zHM l a))<=11:=by
 have h1:=Nat.mod_lt (zAY l (a+1)) (show 0<20 by decide);obtain⟨n,hn⟩:=zX (zAY l (a+1) % 20);unfold zHM;rw[hn]at h1 ⊢;split
 ·obtain⟨p1,p2,p3⟩:=zBD (zAY l (a+1));unfold zAX zAD;simp only[p3,if_false,p1];exact⟨rfl,by simp[zBv,zI6,zI7,zJa,zI8,zI9,zBw,zGj,zGk,zGl,zGm,zGn,waj,wai]; omega⟩
 split
 ·obtain⟨p1,p2,p3⟩:=zBD (zAY l a / 8);split
  ·have:=(zEb (1+n) (by omega)).2 (by omega);unfold zAX zAD;simp only[p3,if_false,p1,Bool.true_and,wao,decide_eq_true_eq];rw[if_pos (by omega)];exact⟨by omega,by simp only[zBv,zI6,zI7,zJa,zI8,zI9,zBw,zGj,zGk,zGl,zGm,zGn,waj,wai]; omega⟩
  ·have:=(zEb (1+n) (by omega)).2 (by omega);have e: -(-1-(n:Int))=((1+n:Nat):Int):=by omega
   unfold zAX zAD;simp only[p3,if_false,p1,Bool.true_and,wao,decide_eq_true_eq];rw[if_neg (by omega),if_pos (by omega),e];exact⟨by omega,by simp only[zBv,zI6,zI7,zJa,zI8,zI9,zBw,zGj,zGk,zGl,zGm,zGn,waj,wai]; omega⟩
 ·have:=(zEb n (by omega)).2 (by omega);unfold zAX zAD zCf;simp only[if_true,wao,decide_eq_true_eq];exact⟨by omega,by simp only[zBv,zI6,zI7,zJa,zI8,zI9,zBw,zGj,zGk,zGl,zGm,zGn,waj,wai]; omega⟩
def szE:Nat->Nat
 | 0=>30
 | d+1=>if d=0 then 30 else 12+3*szE d
theorem szE_ge: ∀d,30<=szE d
 | 0=>wan _
 | d+1=>by
  have:=szE_ge d;unfold szE;split <;> omega
theorem fit_1{D:Nat}(hD:1<=D)(e:Expr):zAB D e=(decide ((e.args.length:Int)=zBi e.op)&&(zCi e&&zCj (zAB (D-1)) e))/\zAA D e=zDn (zAA (D-1)) e:=by
 obtain⟨D',rfl⟩: ∃D',D=D'+1:=⟨D-1,by omega⟩;exact⟨rfl,rfl⟩
theorem leafG_ok(l:List Nat)(a D:Nat)(hD:1<=D):zAB D (zIh l a).1 =true/\mz (zAA D (zIh l a).1)<=30:=by
 rw[(fit_1 hD _).1,(fit_1 hD _).2];unfold zIh;split
 ·obtain⟨k1,k2⟩:=zDw l (a+1);obtain⟨w1,w2⟩:=zDw l (a+3);refine⟨?_,?_⟩
  ·simp[Expr.args,Expr.op,zBi,zCi,Expr.name,Expr.k,Expr.w,zCj,k1,w1]
  ·simp only[zDn,Expr.op,Expr.k,Expr.w,if_true,zBv,zI6,zI7,zJa,zI8,zI9,zBw,zGj,zGk,zGl,zGm,zGn,waj,wai]; omega
 ·obtain⟨p1,p2,p3⟩:=zBD (zAY l a / 6);refine⟨?_,?_⟩
  ·simp[Expr.args,Expr.op,zBi,zCi,Expr.name,Expr.k,Expr.w,zCj,p1,zCW,n0]
  ·simp[zDn,Expr.op,Expr.name,zBv,zI6,zI7,zJa,zI8,zI9,zBw,zGj,zGk,zGl,zGm,zGn,waj,wai]; omega
theorem zIO(rec:Nat->Expr×Nat): ∀n a,(zEq rec n a).1.length =n
 | 0,_=>rfl
 | n+1,a=>by simp[zEq,zIO rec n a]
theorem argsG_all{rec:Nat->Expr×Nat}{p:Expr->Prop}(h: ∀a,p (rec a).1): ∀n a,∀e∈(zEq rec n a).1,p e
 | 0,_,e,he=>by simp[zEq]at he
 | n+1,a,e,he=>by
  simp only[zEq,List.mem_append,List.mem_singleton]at he;rcases he with he | rfl
  ·exact argsG_all h n a e he
  ·exact h _
theorem zIq{rec:Nat->Expr×Nat}{D z:Nat}(hz:30<=z)(hr: ∀a,zAB D (rec a).1 =true/\mz (zAA D (rec a).1)<=z)(b:Nat){op:Nat}(ho:op∈opsG){k w:Num}
  (hk:zAX k=true/\mz (zAD k)<=11) (hw:zAX w=true/\mz (zAD w)<=11) (hk2:op≠12->k=n0) (hw2:op≠12->op≠13->w=n0) (a:Nat):
  zAB (D+1) (zGw rec b op k w a).1 =true/\mz (zAA (D+1) (zGw rec b op k w a).1)<=12+3*z:=by
 obtain⟨p1,p2,p3⟩:=zBD (b / 39);have hl:=zIO rec (arG op) a;have ha:=argsG_all (p:=fun e=>zAB D e=true/\mz (zAA D e)<=z) hr (arG op) a;unfold zGw;obtain⟨L,hL⟩:=zX ((zEq rec (arG op) a).1);rw[hL]at hl ha ⊢;have hx0:zCW n0=true:=rfl;simp only[opsG,List.mem_cons,List.mem_nil_iff,or_false]at ho;rcases ho with rfl | rfl | rfl | rfl | rfl | rfl | rfl | rfl | rfl | rfl | rfl | rfl | rfl
 case inl=>
  obtain⟨x,rfl⟩: ∃x,L=[x]:=by
   match L,hl with
   | [x],_=>exact⟨x,rfl⟩
  obtain⟨x1,x2⟩:=ha x (by simp);obtain rfl:=hk2 (by decide);obtain rfl:=hw2 (by decide) (by decide);refine⟨?_,?_⟩
  ·simp[zAB,Expr.args,Expr.op,zBi,zCi,Expr.name,Expr.k,Expr.w,zCj,p1,p3,hk.1,hw.1,x1,hx0]
  ·simp[zAA,zDn,Expr.args,Expr.op,Expr.name,Expr.k,Expr.w,zBv,zI6,zI7,zJa,zI8,zI9,zBw,zGj,zGk,zGl,zGm,zGn,waj,wai]; omega
 case inr.inr.inr.inr.inr.inr.inr.inr.inr.inr.inl=>
  obtain⟨x,rfl⟩: ∃x,L=[x]:=by
   match L,hl with
   | [x],_=>exact⟨x,rfl⟩
  obtain⟨x1,x2⟩:=ha x (by simp);refine⟨?_,?_⟩
  ·simp[zAB,Expr.args,Expr.op,zBi,zCi,Expr.name,Expr.k,Expr.w,zCj,p1,p3,hk.1,hw.1,x1,hx0]
  ·simp[zAA,zDn,Expr.args,Expr.op,Expr.name,Expr.k,Expr.w,zBv,zI6,zI7,zJa,zI8,zI9,zBw,zGj,zGk,zGl,zGm,zGn,waj,wai]; omega
 case inr.inr.inr.inr.inr.inr.inr.inr.inr.inr.inr.inl=>
  obtain⟨x,rfl⟩: ∃x,L=[x]:=by
   match L,hl with
   | [x],_=>exact⟨x,rfl⟩
  obtain⟨x1,x2⟩:=ha x (by simp);obtain rfl:=hk2 (by decide);refine⟨?_,?_⟩
  ·simp[zAB,Expr.args,Expr.op,zBi,zCi,Expr.name,Expr.k,Expr.w,zCj,p1,p3,hk.1,hw.1,x1,hx0]
  ·simp[zAA,zDn,Expr.args,Expr.op,Expr.name,Expr.k,Expr.w,zBv,zI6,zI7,zJa,zI8,zI9,zBw,zGj,zGk,zGl,zGm,zGn,waj,wai]; omega
 case inr.inr.inr.inr.inr.inr.inr.inr.inr.inr.inr.inr=>
  obtain⟨x,rfl⟩: ∃x,L=[x]:=by
   match L,hl with
   | [x],_=>exact⟨x,rfl⟩
  obtain⟨x1,x2⟩:=ha x (by simp);obtain rfl:=hk2 (by decide);obtain rfl:=hw2 (by decide) (by decide);refine⟨?_,?_⟩
  ·simp[zAB,Expr.args,Expr.op,zBi,zCi,Expr.name,Expr.k,Expr.w,zCj,p1,p3,hk.1,hw.1,x1,hx0]
  ·simp[zAA,zDn,Expr.args,Expr.op,Expr.name,Expr.k,Expr.w,zBv,zI6,zI7,zJa,zI8,zI9,zBw,zGj,zGk,zGl,zGm,zGn,waj,wai]; omega
 case inr.inr.inr.inr.inr.inr.inr.inr.inl=>
  obtain⟨x,y,z',rfl⟩: ∃x y z',L=[x,y,z']:=by
   match L,hl with
   | [x,y,z'],_=>exact⟨x,y,z',rfl⟩
  obtain⟨x1,x2⟩:=ha x (by simp);obtain⟨y1,y2⟩:=ha y (by simp);obtain⟨z1,z2⟩:=ha z' (by simp);obtain rfl:=hk2 (by decide);obtain rfl:=hw2 (by decide) (by decide);refine⟨?_,?_⟩
  ·simp[zAB,Expr.args,Expr.op,zBi,zCi,Expr.name,Expr.k,Expr.w,zCj,x1,y1,z1,hx0]
  ·simp[zAA,zDn,Expr.args,Expr.op,Expr.name,Expr.k,Expr.w,zBv,zI6,zI7,zJa,zI8,zI9,zBw,zGj,zGk,zGl,zGm,zGn,waj,wai]; omega
 all_goals
  obtain⟨x,y,rfl⟩: ∃x y,L=[x,y]:=by
   match L,hl with
   | [x,y],_=>exact⟨x,y,rfl⟩
  obtain⟨x1,x2⟩:=ha x (by simp);obtain⟨y1,y2⟩:=ha y (by simp);obtain rfl:=hk2 (by decide);obtain rfl:=hw2 (by decide) (by decide);refine⟨?_,?_⟩
  ·simp[zAB,Expr.args,Expr.op,zBi,zAS,opL,zCi,Expr.name,Expr.k,Expr.w,zCj,x1,y1,hx0,e0]
  ·simp[zAA,zDn,zAS,opL,Expr.args,Expr.op,Expr.name,Expr.k,Expr.w,zBv,zI6,zI7,zJa,zI8,zI9,zBw,zGj,zGk,zGl,zGm,zGn,waj,wai]; omega
theorem genE_ok(l:List Nat): ∀(d D a:Nat),d<=D->1<=D->zAB D (zCC l d a).1 =true/\mz (zAA D (zCC l d a).1)<=szE d
 | 0,D,a,_,hD=>leafG_ok l a D hD
 | d+1,D,a,hd,hD=>by
  have hop:opsG.getD (zAY l a / 3 % 13) 0∈opsG:=by
   have h: ∀i,i<13->opsG.getD i 0∈opsG:=by decide
   exact h _ (Nat.mod_lt _ (by decide))
  have hz:=szE_ge d;unfold zCC;by_cases h0:d=0\/zAY l a % 3=0
  ·rw[if_pos h0];obtain⟨h1,h2⟩:=leafG_ok l a D hD;refine⟨h1,?_⟩;unfold szE;split <;> omega
  rw[if_neg h0];simp only[];obtain⟨op,ho⟩:=zX (opsG.getD (zAY l a / 3 % 13) 0);rw[ho]at hop ⊢;obtain⟨D',rfl⟩: ∃D',D=D'+1:=⟨D-1,by omega⟩;have hs:szE (d+1)=12+3*szE d:=if_neg (by omega);rw[hs];have hr: ∀a,zAB D' (zCC l d a).1 =true/\mz (zAA D' (zCC l d a).1)<=szE d:=fun a=>genE_ok l d D' a (by omega) (by omega);have hn0:zAX n0=true/\mz (zAD n0)<=11:=of_decide_eq_true (by kernel_rfl);split
  ·exact zIq hz hr _ hop (zDw _ _) (zDw _ _) (fun h=>absurd ‹_› h) (fun h=>absurd ‹_› h) _
  split
  ·exact zIq hz hr _ hop hn0 (zDw _ _) (fun _=>rfl) (fun _ h=>absurd ‹_› h) _
  ·exact zIq hz hr _ hop hn0 hn0 (fun _=>rfl) (fun _ _=>rfl) _
theorem notsG_ok{e:Expr}{d z:Nat}(h: ∀D,d<=D->zAB D e=true/\mz (zAA D e)<=z): ∀(n D:Nat),d+n<=D->zAB D (zCe e n)=true/\mz (zAA D (zCe e n))<=z+2*n
 | 0,D,hD=>h D hD
 | n+1,D,hD=>by
  obtain⟨D',rfl⟩: ∃D',D=D'+1:=⟨D-1,by omega⟩;obtain⟨h1,h2⟩:=notsG_ok h n D' (by omega);have hx0:zCW n0=true:=rfl;refine⟨?_,?_⟩
  ·simp[zCe,zAB,Expr.args,Expr.op,zBi,zCi,Expr.name,Expr.k,Expr.w,zCj,h1,hx0]
  ·simp[zCe,zAA,zDn,Expr.args,Expr.op,zBv,zI6,zI7,zJa,zI8,zI9,zBw,zGj,zGk,zGl,zGm,zGn,waj,wai]; omega
theorem ruleG_ok(l:List Nat)(a:Nat)(hb: ∀b∈l,b<256):zBZ (ruleG l a)=true/\mz (zBk (ruleG l a))<=14:=by
 obtain⟨p1,p2,p3⟩:=zBD (zAY l (a+1));have hlt:zAY l a<256:=by
  unfold zAY;rw[List.getD];cases h:l[a]? with
  | none=>decide
  | some x=>exact hb x (List.mem_of_getElem? h)
 have:=(zEb _ hlt).1;unfold ruleG;split
 ·decide
 split
 ·exact⟨by simp[zBZ,p1],by simp[zBk,zBv,zI6,zI7,zJa,zI8,zI9,zBw,zGj,zGk,zGl,zGm,zGn,waj,wai]; omega⟩
 split
 ·exact⟨by simp[zBZ,p1,zCf]; omega,by simp[zBk,zBv,zI6,zI7,zJa,zI8,zI9,zBw,zGj,zGk,zGl,zGm,zGn,waj,wai]; omega⟩
 ·decide
theorem sz_rest{α:Type}{one:α->List Pc}{z:Nat}: ∀ {l:List α},(∀x∈l,mz (one x)<=z)->mz (zBU one l)<=l.length*(z+3)
 | [],_=>Nat.zero_le _
 | [x],h=>by
  have:=h x (by simp);simp only[zBU,List.length_singleton]; omega
 | x::y::r,h=>by
  have h1:=h x (by simp);have h2:=sz_rest (l:=y::r) (fun w hw=>h w (by simp[hw]));unfold zBU;rw[wad,Nat.succ_mul];simp only[zBv,zI6,zI7,zJa,zI8,zI9,zBw,zGj,zGk,zGl,zGm,zGn,waj,wai]at h2 ⊢;omega
theorem sz_list{α:Type}{one:α->List Pc}{z:Nat}{l:List α}(h: ∀x∈l,mz (one x)<=z):mz (zA5 one l)<=4+l.length*(z+3):=by
 have:=sz_rest h;unfold zA5;simp only[zBv,zI6,zI7,zJa,zI8,zI9,zBw,zGj,zGk,zGl,zGm,zGn,waj,wai];omega
theorem kw_small(k:Nat):k<9->(kwL.getD k e0).size <=4:=by
 have h: ∀k,k<9->(kwL.getD k e0).size <=4:=by decide
 exact h k
theorem exprA_ok(l:List Nat)(a n:Nat):let y:=if n / 8 % 8=7 then zCe (zCC l 3 a).1 5 else(zCC l 3 a).1
  zAB 8 y=true/\mz (zAA 8 y)<=328:=by
 have h: ∀D,3<=D->zAB D (zCC l 3 a).1 =true/\mz (zAA D (zCC l 3 a).1)<=318:=fun D hD=>genE_ok l 3 D a hD (by omega);intro y;show zAB 8 (if n / 8 % 8=7 then zCe (zCC l 3 a).1 5 else(zCC l 3 a).1)=true/\mz (zAA 8 (if n / 8 % 8=7 then zCe (zCC l 3 a).1 5 else(zCC l 3 a).1))<=328;split
 ·exact notsG_ok h 5 8 (by omega)
 ·have:=h 8 (by omega);exact⟨this.1,by omega⟩
theorem exprB_ok(l:List Nat)(a:Nat):zAB 8 (zCC l 2 a).1 =true/\mz (zAA 8 (zCC l 2 a).1)<=102:=genE_ok l 2 8 a (by omega) (by omega)
theorem item_sz{x:Item}(hk:1<=x.kind/\x.kind<=9)(hn:zAN x.name=true/\x.name.size<=3)(hz:zDm x=true)(hw:zAX x.width=true/\mz (zAD x.width)<=11)(hd:zAX x.depth=true/\mz (zAD x.depth)<=11)
  (hb:zBB x=true/\mz (zB7 x)<=561):zAW x=true/\mz (zAV x)<=601:=by
 have hkw:=kw_small (x.kind-1).toNat (by omega);refine⟨?_,?_⟩
 ·unfold zAW;simp[hk,hn.1,hz,hw.1,hd.1,hb.1]
 ·have w1:mz (zDL x)<=14:=by
   unfold zDL;split
   ·simp only[zBv,zI6,zI7,zJa,zI8,zI9,zBw,zGj,zGk,zGl,zGm,zGn,waj,wai]; omega
   ·simp only[zBv,zI6,zI7,zJa,zI8,zI9,zBw,zGj,zGk,zGl,zGm,zGn,waj,wai]; omega
  have d1:mz (zDx x)<=16:=by
   unfold zDx;split
   ·simp only[zBv,zI6,zI7,zJa,zI8,zI9,zBw,zGj,zGk,zGl,zGm,zGn,waj,wai]; omega
   ·simp only[zBv,zI6,zI7,zJa,zI8,zI9,zBw,zGj,zGk,zGl,zGm,zGn,waj,wai]; omega
  unfold zAV;simp only[zBv,zI6,zI7,zJa,zI8,zI9,zBw,zGj,zGk,zGl,zGm,zGn,waj,wai];omega
theorem n0_ok:zAX n0=true/\mz (zAD n0)<=11:=of_decide_eq_true (by kernel_rfl)
theorem itemK_ok(l:List Nat)(hl: ∀b∈l,b<256)(a b n k:Nat)(hk:1<=k/\k<=9):zAW (zgm l a b n k).1 =true/\mz (zAV (zgm l a b n k).1)<=601:=by
 obtain⟨p1,p2,p3⟩:=zBD n;have hw:=zDw l (a+2);have hd:=zDw l (a+4);have hr:=ruleG_ok l (a+6) hl;have hA:=exprA_ok l (a+8) n;have hB:=exprB_ok l (zCC l 3 (a+8)).2;have hC:=exprB_ok l (zCC l 2 (zCC l 3 (a+8)).2).2;have x0a:zCE x0=true:=rfl;have n0a:zCW n0=true:=rfl;have hk9:k=1\/k=2\/k=3\/k=4\/k=5\/k=6\/k=7\/k=8\/k=9:=by omega
 simp only[]at hA;obtain⟨A,hAe⟩:=zX ((if n / 8 % 8=7 then zCe (zCC l 3 (a+8)).1 5 else(zCC l 3 (a+8)).1));rw[hAe]at hA;obtain⟨a1,a2⟩:=hA;obtain⟨b1,b2⟩:=hB;obtain⟨c1,c2⟩:=hC;obtain⟨r1,r2⟩:=hr;unfold zgm;simp only[hAe];rcases hk9 with rfl | rfl | rfl | rfl | rfl | rfl | rfl | rfl | rfl
 case inr.inr.inr.inr.inr.inr.inr.inr=>
  refine item_sz ⟨by simp,by simp⟩ ⟨p1,p2⟩ (by simp[zDm,x0a,n0a]) n0_ok n0_ok ⟨?_,?_⟩
  ·simp[zBB,(zBD (b / 9)).1,zIT,zHI,zCL,zDw,zBD]
  ·have q1:=sz_list (one:=zAD) (z:=11) (l:=zIT l (a+8) (n / 8 % 3)) (fun x hx=>by
    simp only[zIT,wag]at hx;obtain⟨i,_,rfl⟩:=hx;exact(zDw _ _).2)
   have q2:=sz_list (one:=zBz) (z:=12) (l:=zHI l (a+8) n (n / 8 % 3)) (fun x hx=>by
    simp only[zHI,wag]at hx;obtain⟨i,_,rfl⟩:=hx;have h1:=(zBD (zAY l (a+8+i))).2.1;have h2:=(zBD (i+n)).2.1;simp only[zBz,zBv,zI6,zI7,zJa,zI8,zI9,zBw,zGj,zGk,zGl,zGm,zGn,waj,wai];omega)
   have q3:n / 8 % 3<=2:=by omega
   have q4:=(zBD (b / 9)).2.1;simp only[zIT,zHI,waa,List.length_range]at q1 q2;simp[zB7,zBv,zI6,zI7,zJa,zI8,zI9,zBw,zGj,zGk,zGl,zGm,zGn,waj,wai,zIT,zHI] ;have:=Nat.mul_le_mul_right 14 q3;have:=Nat.mul_le_mul_right 15 q3;omega
 all_goals
  refine item_sz ⟨by simp,by simp⟩ ⟨p1,p2⟩ (by simp[zDm,x0a,n0a]) (by first | exact hw | exact n0_ok) (by first | exact hd | exact n0_ok) ⟨?_,?_⟩
  ·simp[zBB,hd.1,a1,b1,c1,r1]
  ·simp[zB7,zBv,zI6,zI7,zJa,zI8,zI9,zBw,zGj,zGk,zGl,zGm,zGn,waj,wai]
   try omega
theorem itemG_ok(l:List Nat)(hl: ∀b∈l,b<256)(a:Nat):zAW (zIU l a).1 =true/\mz (zAV (zIU l a).1)<=601:=itemK_ok l hl a _ _ _ (by omega)
theorem itemsG_ok(l:List Nat)(hl: ∀b∈l,b<256): ∀(n:Nat) (acc:List Item) (a:Nat),(∀x∈acc,zAW x=true/\mz (zAV x)<=601)->
  (∀x∈zG2 l n acc a,zAW x=true/\mz (zAV x)<=601)/\(zG2 l n acc a).length <=acc.length+n/\(0<acc.length+n->0<(zG2 l n acc a).length)
 | 0,acc,a,h=>⟨h,wan _,fun h=>h⟩
 | n+1,acc,a,h=>by
  unfold zG2;split
  ·obtain⟨h1,h2,h3⟩:=itemsG_ok l hl n (acc++[(zIU l a).1]) (zIU l a).2 (fun x hx=>by
    rw[List.mem_append,List.mem_singleton]at hx;rcases hx with hx | rfl
    ·exact h x hx
    ·exact itemG_ok l hl a)
   rw[wab,List.length_singleton]at h2 h3;exact⟨h1,by omega,fun _=>h3 (by omega)⟩
  ·exact⟨h,by omega,fun _=>by omega⟩
theorem sz_items: ∀ {l:List Item},(∀x∈l,mz (zAV x)<=601)->mz (zAJ l)<=l.length*606
 | [],_=>Nat.zero_le _
 | x::r,h=>by
  have h1:=h x (by simp);have h2:=sz_items (l:=r) (fun y hy=>h y (by simp[hy]));unfold zAJ;rw[wad,Nat.succ_mul];simp only[zBv,zI6,zI7,zJa,zI8,zI9,zBw,zGj,zGk,zGl,zGm,zGn,waj,wai];omega
theorem zFR(l:List Nat)(hl: ∀b∈l,b<256):zAG (zDu l)=true/\mz (zAE (zDu l))<=2470/\0<(zDu l).items.length /\(zDu l).items.length <=4:=by
 obtain⟨n1,n2,n3⟩:=zBD (zAY l 0);obtain⟨c1,c2,c3⟩:=zBD (zAY l 1);have hI:=itemsG_ok l hl 4 [] 2 (by simp);obtain⟨I,hIe⟩:=zX (zG2 l 4 [] 2);have hM:zDu l=⟨zCk (zAY l 0),zCk (zAY l 1),zD0 l,I⟩:=by unfold zDu; rw[hIe]
 rw[hIe]at hI;obtain⟨i1,i2,i3⟩:=hI;rw[hM];have p1:(zD0 l).all zAN=true:=by
  rw[List.all_eq_true];intro s hs;simp only[zD0,wag]at hs;obtain⟨i,_,rfl⟩:=hs;exact(zBD _).1
 have p2:=sz_list (one:=zBt) (z:=4) (l:=zD0 l) (fun x hx=>by
  simp only[zD0,wag]at hx;obtain⟨i,_,rfl⟩:=hx;have:=(zBD (zAY l 1 / 8+i)).2.1;simp only[zBt,zBv,zI6,zI7,zJa,zI8,zI9,zBw,zGj,zGk,zGl,zGm,zGn,waj,wai]; omega)
 have p3:(zD0 l).length <=2:=by simp only[zD0,waa,List.length_range]; omega
 have i4:=sz_items (fun x hx=>(i1 x hx).2);simp only[waf]at i2 i3;refine⟨?_,?_,i3 (by omega),by simpa using i2⟩
 ·simp only[zAG,n1,p1,c1,Bool.true_and,List.all_eq_true];exact fun x hx=>(i1 x hx).1
 ·simp only[zAE,zBQ,zBv,zI6,zI7,zJa,zI8,zI9,zBw,zGj,zGk,zGl,zGm,zGn,waj,wai];omega
theorem sz_file: ∀ {l:List Module},(∀m∈l,mz (zAE m)<=2470)->mz (zAk l)<=l.length*2470
 | [],_=>Nat.zero_le _
 | m::r,h=>by
  have h1:=h m (by simp);have h2:=sz_file (l:=r) (fun y hy=>h y (by simp[hy]));unfold zAk;rw[wad,Nat.succ_mul,zBw];omega
theorem fileG_ok(x:List (List Nat))(hx: ∀l∈x,∀b∈l,b<256):(zE4 x).all zAG=true/\mz (zAk (zE4 x))<=7410/\(zE4 x).length <=3/\0<(zE4 x).length /\ ∀m∈zE4 x,0<m.items.length/\m.items.length<=4:=by
 have h: ∀m∈zE4 x,∃l,(∀b∈l,b<256)/\m=zDu l:=by
  intro m hm;unfold zE4 at hm;split at hm
  ·rw[List.mem_singleton]at hm;exact⟨[],by simp,hm⟩
  ·rw[wag]at hm;obtain⟨l,hl,rfl⟩:=hm;exact⟨l,hx l (List.mem_of_mem_take hl),rfl⟩
 have hn:(zE4 x).length <=3/\0<(zE4 x).length :=by
  unfold zE4;split
  ·simp
  ·simp only[waa,List.length_take]; omega
 have hz:=sz_file (l:=zE4 x) (fun m hm=>by obtain⟨l,h1,rfl⟩:=h m hm; exact(zFR l h1).2.1);have hm:=Nat.mul_le_mul_right 2470 hn.1;refine⟨List.all_eq_true.2 fun m hm=>by obtain⟨l,h1,rfl⟩:=h m hm; exact(zFR l h1).1,by omega,hn.1,hn.2,fun m hm=>by obtain⟨l,h1,rfl⟩:=h m hm; exact(zFR l h1).2.2⟩
set_option maxHeartbeats 4000000
theorem zCZ{l:List Nat}(hb: ∀b∈l,b<256)(a:Nat):zAY l a<256:=by
 unfold zAY;rw[List.getD];cases h:l[a]? with
 | none=>decide
 | some x=>exact hb x (List.mem_of_getElem? h)
theorem e0F:e0=ByteArray.empty:=rfl
theorem zDc(x k c:Nat):((x:Int).tmod (k:Int)==(c:Int))=decide (x % k=c):=by
 rw[<-Int.ofNat_tmod,wap]; simp; omega
theorem zI0(x k:Nat):(x:Int).tmod (k:Int)=((x % k:Nat):Int):=(Int.ofNat_tmod x k).symm
theorem zHp(x k:Nat):(x:Int).tdiv (k:Int)=((x / k:Nat):Int):=(Int.ofNat_tdiv x k).symm
theorem zGr{x:Nat}(h:x<9223372036854775808):IntKind.i64.wrap (x:Int)=(x:Int):=zaQ (by omega) (by omega)
abbrev eCur(l:List Nat)(a:Nat):D:=.agg [eBy l,eI a]
theorem zF8(l:List Nat)(a:Nat)(hb: ∀b∈l,b<256)(ha:a<=1000000000):FnP prog 94 [eCur l a] (.d (eI (zAY l a))) []:=by
 refine FnP.of_eC (own:=[]) chL zat func94 rfl call94 ntmps94 (zle rfl) results94 (fun hok=> ?_);by_cases h:a<l.length
 ·have e:zAY l a=l[a]:=by simp[zAY,List.getD,h]
  have hw:IntKind.i64.wrap (l[a]:Int)=(l[a]:Int):=zGr (by have:=hb _ (List.getElem_mem h); omega);rw[e];simp only[ZE,seval,KE,zaw h,zai h,zaa h,wal,waa,hw]
 ·have e:zAY l a=0:=by unfold zAY; rw[List.getD,List.getElem?_eq_none (by omega)]; rfl
  rw[e];simp only[ZE,seval,KE,zaI (Nat.le_of_not_lt h),waa]
theorem on_q(l:List Nat)(a n:Nat)(ha:a<=1000000000)(hn:n<=1000000000):FnP prog 95 [eCur l a,eI n] (.d (eCur l (a+n))) []:=by
 have hw:IntKind.i64.wrap ((a:Int)+(n:Int))=((a+n:Nat):Int):=by rw[zaQ (by omega) (by omega)]; simp
 refine FnP.of_eC (own:=[]) chL zat func95 rfl call95 ntmps95 (zle rfl) results95 (fun hok=> ?_);simp only[ZE,seval,KE,hw,eCur]
theorem zG9(n:Nat)(hn:n<=1000000000):FnP prog 93 [eI n] (.d (eSb (zCk n))) []:=by
 refine FnP.of_eC (own:=[]) chL zat func93 rfl call93 ntmps93 (zle rfl) results93 (fun hok=> ?_);have hr:(n:Int).tmod 8=((n % 8:Nat):Int):=zI0 n 8;unfold zCk;have h8:n % 8<8:=Nat.mod_lt _ (by decide);obtain⟨m,hm⟩:=zX (n % 8);rw[hm]at hr h8 ⊢;rcases(show m=0\/m=1\/m=2\/m=3\/m=4\/m=5\/m=6\/m=7 by omega)with rfl | rfl | rfl | rfl | rfl | rfl | rfl | rfl
 all_goals
  have hr2:=hr.trans (by rfl);simp only[ZE,seval,KE,hr2,nameL]
theorem num_q(l:List Nat)(a:Nat)(hb: ∀b∈l,b<256)(ha:a<=100000000):FnP prog 142 [eCur l a] (.d (.agg (zgL (zHM l a)))) []:=by
 have b1:=zF8 l a hb (by omega);have b2:=zF8 l (a+1) hb (by omega);have o1:=on_q l a 1 (by omega) (by omega);have hx:=zCZ hb a;have hy:=zCZ hb (a+1);unfold zHM;obtain⟨x,hxx⟩:=zX (zAY l a);obtain⟨y,hyy⟩:=zX (zAY l (a+1));rw[hxx]at b1 hx ⊢;rw[hyy]at b2 hy ⊢;have n1:=zG9 y (by omega);have n2:=zG9 (x / 8) (by omega);obtain⟨N1,hN1⟩: ∃N,zCk y=N:=⟨_,rfl⟩;obtain⟨N2,hN2⟩: ∃N,zCk (x / 8)=N:=⟨_,rfl⟩;rw[hN1]at n1 ⊢;rw[hN2]at n2 ⊢;have e2:((x:Int).tmod 4==2)=decide (x % 4=2):=zDc x 4 2;have e3:((x:Int).tmod 4==3)=decide (x % 4=3):=zDc x 4 3;have e8:((x:Int).tmod 8==3)=decide (x % 8=3):=zDc x 8 3;have y20:(y:Int).tmod 20=((y % 20:Nat):Int):=zI0 y 20;have x8:(x:Int).tdiv 8=((x / 8:Nat):Int):=zHp x 8;have w8:IntKind.i64.wrap ((x / 8:Nat):Int)=((x / 8:Nat):Int):=zGr (by omega);have w1:IntKind.i64.wrap (1+((y % 20:Nat):Int))=((1+y % 20:Nat):Int):=by rw[zaQ (by omega) (by omega)]; simp
 have w2:IntKind.i64.wrap (-1-((y % 20:Nat):Int))= -1-((y % 20:Nat):Int):=zaQ (by omega) (by omega);simp only[ZE,seval,KE]at b1;simp only[ZE,seval,KE]at b2;simp only[ZE,seval,KE]at o1;simp only[ZE,seval,KE]at n1;simp only[ZE,seval,KE]at n2;refine FnP.of_eC (own:=[]) (fun i=>if i=2001 then [.ord ⟨[(0,none),(1,none),(2,none),(3,none),(4,none),(5,some []),(6,some [])]⟩]else chL i) zat func142 rfl call142 ntmps142 (zle rfl) results142 (fun hok=> ?_);simp only[ZE,seval,KE];refine⟨by kernel_rfl,zaz.i b1 ?_⟩;simp only[ZE,seval,KE];refine zaz.i o1 ?_;simp only[ZE,seval,KE];refine zaz.i b2 ?_;by_cases h2:x % 4=2
 ·rw[if_pos h2];simp only[ZE,seval,KE,e2,h2,decide_true];refine EFn.p ?_;simp only[ZE,seval,KE];refine zar.i (n1) ?_;simp only[ZE,seval,KE]
 rw[if_neg h2];by_cases h3:x % 4=3
 ·rw[if_pos h3];by_cases h8:x % 8=3
  ·rw[if_pos h8];simp only[ZE,seval,KE,e2,e3,e8,h2,h3,h8,decide_true,decide_false,y20,x8,w8,w1];refine EFn.p ?_;simp only[ZE,seval,KE];refine zar.i (n2) ?_;simp only[ZE,seval,KE]
  ·rw[if_neg h8];simp only[ZE,seval,KE,e2,e3,e8,h2,h3,h8,decide_true,decide_false,y20,x8,w8,w2];refine EFn.p ?_;simp only[ZE,seval,KE];refine zar.i (n2) ?_;simp only[ZE,seval,KE]
 ·rw[if_neg h3];simp only[ZE,seval,KE,e2,e3,h2,h3,decide_false,y20,e0F]
theorem rule_q(l:List Nat)(a:Nat)(hb: ∀b∈l,b<256)(ha:a<=100000000):FnP prog 143 [eCur l a] (.d (.agg (zib (ruleG l a)))) []:=by
 have b1:=zF8 l a hb (by omega);have b2:=zF8 l (a+1) hb (by omega);have o1:=on_q l a 1 (by omega) (by omega);have hx:=zCZ hb a;have hy:=zCZ hb (a+1);unfold ruleG;obtain⟨x,hxx⟩:=zX (zAY l a);obtain⟨y,hyy⟩:=zX (zAY l (a+1));rw[hxx]at b1 hx ⊢;rw[hyy]at b2 hy ⊢;have n1:=zG9 y (by omega);obtain⟨N1,hN1⟩: ∃N,zCk y=N:=⟨_,rfl⟩;rw[hN1]at n1 ⊢;have e1:((x:Int).tmod 4==1)=decide (x % 4=1):=zDc x 4 1;have e2:((x:Int).tmod 4==2)=decide (x % 4=2):=zDc x 4 2;have e3:((x:Int).tmod 4==3)=decide (x % 4=3):=zDc x 4 3;simp only[ZE,seval,KE]at b1;simp only[ZE,seval,KE]at b2;simp only[ZE,seval,KE]at o1;simp only[ZE,seval,KE]at n1;refine FnP.of_eC (own:=[]) (fun i=>if i=2001 then [.ord ⟨[(0,none),(1,none),(2,none),(3,none),(4,none),(5,some []),(6,some [])]⟩]else chL i) zat func143 rfl call143 ntmps143 (zle rfl) results143 (fun hok=> ?_);simp only[ZE,seval,KE];refine⟨by kernel_rfl,zaz.i b1 ?_⟩;simp only[ZE,seval,KE];refine zaz.i o1 ?_;simp only[ZE,seval,KE];refine zaz.i b2 ?_;by_cases h1:x % 4=1
 ·rw[if_pos h1];simp only[ZE,seval,KE,e1,h1,decide_true,e0F]
 rw[if_neg h1];by_cases h2:x % 4=2
 ·rw[if_pos h2];simp only[ZE,seval,KE,e1,e2,h1,h2,decide_true,decide_false];refine EFn.p ?_;simp only[ZE,seval,KE];refine zar.i (n1) ?_;simp only[ZE,seval,KE]
 rw[if_neg h2];by_cases h3:x % 4=3
 ·rw[if_pos h3];simp only[ZE,seval,KE,e1,e2,e3,h1,h2,h3,decide_true,decide_false];refine EFn.p ?_;simp only[ZE,seval,KE];refine zar.i (n1) ?_;simp only[ZE,seval,KE]
 ·rw[if_neg h3];simp only[ZE,seval,KE,e1,e2,e3,h1,h2,h3,decide_false,e0F,r0]
theorem notsG_0(e:Expr):zCe e 0=e:=rfl
theorem nots_q(e:Expr)(n:Nat)(hn:n<=100):FnP prog 117 [.agg (zbx e),eI n] (.d (.agg (zbx (zCe e n)))) []:=by
 rw[zb6,zb6];refine FnP.of_eC (own:=[]) chL zat func117 rfl call117 ntmps117 (zle rfl) results117 (fun hok=> ?_);simp only[ZE,seval,KE];refine za1 chL zat n (fun _=>True) (fun i=>([(1,.d (eI n)),(2,.bp 2 0),(4,.bp 4 0),(5,.d (eI i))],[(2,.box [.d (eI (zCe e i).op),.d (eSb (zCe e i).name),.d (eI (zCe e i).k.n),.d (eSb (zCe e i).k.p),.d (eI (zCe e i).w.n),.d (eSb (zCe e i).w.p),.d (.sl ((zCe e i).args.map zbx))]),(4,.box [.d (eI 0),.d (eSb e0),.d (eI 0),.d (eSb e0),.d (eI 0),.d (eSb e0),.nils])])) trivial ?_ ?_ (fun i hi _=> ?_)
 ·simp only[ZE,seval,KE]
 ·simp only[ZE,seval,KE,e0F,notsG_0]
 have hw:=zaq (show i<9223372036854775807 by omega);by_cases h:i<n
 ·have e1:zbx (zCe e i)=[eI (zCe e i).op,eSb (zCe e i).name,eI (zCe e i).k.n,eSb (zCe e i).k.p,eI (zCe e i).w.n,eSb (zCe e i).w.p,.sl ((zCe e i).args.map zbx)]:=zb6 _;have e2:zCe e (i+1)= .mk 2 e0 n0 n0 [zCe e i]:=rfl;simp only[ZE,seval,KE]at e1;simp only[ZE,seval,KE,zaw h,hw,e2,Expr.op,Expr.name,Expr.k,Expr.w,Expr.args,n0,e0F,wae,wac,e1];exact h
 ·have:i=n:=by omega
  subst this;simp only[ZE,seval,KE,zaI (wan i)]
end Go.Proofs.YtplfjjgkbnolhaaGreatDoor
