/- Contracts and laws. Conditions: those of each. -/
import Derived.Test.YtplfjjgkbnolhaaGreatDoorK2
import Derived.Test.YtplfjjgkbnolhaaGreatDoorGCg
import Derived.Lib.UnsafeStr
import Derived.Test.YtplfjjgkbnolhaaGreatDoorK3
set_option linter.unusedSimpArgs false
set_option linter.unusedVariables false
open List renaming length_map -> waa, length_append -> wab, map_nil -> wac, length_cons -> wad, map_cons -> wae, map_append -> waf, getElem_mem -> wag, nil_append -> wah, cons_append -> wai, getElem?_eq_getElem -> waj
open ByteArray renaming empty -> wak
open Int renaming toNat_natCast -> wal
open Nat renaming lt_or_ge -> wam, le_trans -> wan, le_refl -> wao
open Bool renaming and_eq_true -> wap, eq_iff_iff -> waq
namespace Go.Proofs.YtplfjjgkbnolhaaGreatDoor
open Go.Aw
open _root_.Go.Proofs.Tryz
set_option maxRecDepth 100000
set_option maxHeartbeats 4000000
theorem zET{α:Type}{one:α->PW->PW}(ho: ∀x w,w.1.size<=(one x w).1.size)(z:α)(l:List α)(w:PW): ∀i j,i<=j->(wLs one z l i w).1.size <=(wLs one z l j w).1.size :=by
 intro i j hij
 induction j with
 | zero=>
  have:i=0:=by omega
  subst this; exact wao _
 | succ j ih=>
  rcases wam j i with h | h
  ·have:i=j+1:=by omega
   subst this; exact wao _
  ·refine wan (ih h) ?_;show _<=(one _ (if 0<j then wS (⟨#[44,32]⟩:ByteArray) (wLs one z l j w)else wLs one z l j w)).1.size;split
   ·exact wan (zAw _ _) (ho _ _)
   ·exact ho _ _
theorem listN_w(Z:GP)(hZ:Z.Ok)(l:List Num)(hl: ∀x∈l,zHN x)(hn:l.length<=1000000)(w:PW)(h:(zCv zBl n0 l w).1.size <=LIM):
  FnL prog 138 [.ep 900 1 0 0,.d (ziG l),.clo (.func 135) [.ep 900 1 0 0] []] (pwL Z w) (fun V ol new=>V= .tup []/\ol=pwL Z (zCv zBl n0 l w)/\new=[]):=by
 refine FnL.srt (FnL.of_eH 1999 [.ar 900 1,.ar 905 w.1.size] (own:=[]) (fun _=>[]) [] zat func138 rfl call138 ntmps138 (zle rfl) results138 (zDA Z w _ (by simp[AV.noRefs,AV.noRef])) (fun gs=> ?_));have hL:zCv zBl n0 l w=wS (⟨#[41]⟩:ByteArray) (wLs zBl n0 l l.length (wS (⟨#[40]⟩:ByteArray) w)):=rfl;rw[hL]at h ⊢;have l1:=wan (zAw _ _) h;have hle: ∀i,i<=l.length->(wLs zBl n0 l i (wS (⟨#[40]⟩:ByteArray) w)).1.size <=LIM:=fun i hi=>wan (zET zAU n0 l _ i _ hi) l1;simp only[ZE,seval,KE,zPW,zAa];refine EFn.gV [(0,900),(5,905)] (zAv ((⟨#[40]⟩:ByteArray)) (w) (hle 0 (Nat.zero_le _))) ?_ ?_
 ·simp only[ZE,seval,prO,KE,zPW,zAa]
 rintro V ol new ⟨rfl,rfl,rfl⟩;simp only[ZE,seval,prO,KE,waa,zPW,zAa];refine za1 (fun _=>[]) zat l.length (fun _=>True) (fun i=>([(0,.ep 900 1 0 0),(2,.clo (.func 135) [.ep 900 1 0 0] []),(12,.d (ziG l)),(13,.d (eI l.length)),(14,.d (eI i))],(1999,.gh [.ar 900 1,.ar 905 w.1.size] gs)::pwL Z (wLs zBl n0 l i (wS (⟨#[40]⟩:ByteArray) w)))) trivial ?_ ?_ (fun i hi _=> ?_)
 ·simp only[ZE,seval,KE]
 ·simp only[ZE,seval,KE,wLs.eq_1,zPW,zAa]
 by_cases hlt:i<l.length
 ·have e1:=zai hlt;have hg:l.getD i n0=l[i]:=by rw[List.getD,waj hlt]; rfl
  have hx:=hl _ (wag hlt);have e2:(l.map zgL).getD i []=[eI (l.getD i n0).n,eSb (l.getD i n0).p]:=by rw[zaa hlt,hg]; rfl
  rw[<-hg]at hx;have hw:=zaq (show i<9223372036854775807 by omega);have hS:wLs zBl n0 l (i+1) (wS (⟨#[40]⟩:ByteArray) w)=zBl (l.getD i n0) (if 0<i then wS (⟨#[44,32]⟩:ByteArray) (wLs zBl n0 l i (wS (⟨#[40]⟩:ByteArray) w))else wLs zBl n0 l i (wS (⟨#[40]⟩:ByteArray) w)):=rfl;have h2:=hle (i+1) hlt;rw[hS]at h2;obtain⟨x,hxx⟩:=zX (l.getD i n0);obtain⟨v,hv⟩:=zX (wLs zBl n0 l i (wS (⟨#[40]⟩:ByteArray) w));rw[hxx]at hx e2 hS h2;rw[hv]at hS h2 ⊢;simp only[ZE,seval,KE]at e2;by_cases h0:0<i
  ·rw[if_pos h0]at hS h2;have g0:decide ((i:Int)>0)=true:=by simp; omega
   have c1:=zEl Z hZ x hx _ h2;simp only[ZE,seval,zaw hlt,e1,e2,wal,KE,g0,zPW,zAa];refine EFn.gV [(0,900),(5,905)] (zAv ((⟨#[44,32]⟩:ByteArray)) (v) (wan (zAU _ _) h2)) ?_ ?_
   ·simp only[ZE,seval,prO,KE,zPW,zAa]
   rintro V ol new ⟨rfl,rfl,rfl⟩;simp only[ZE,seval,prO,KE,zPW,zAa];refine EFn.gV [(900,900),(905,905),(7777777,7777777)] (c1) ?_ ?_
   ·simp only[ZE,seval,KE,zPW,zAa]
   rintro V ol new ⟨rfl,rfl,rfl⟩;simp only[ZE,seval,hw,hS,KE,zPW,zAa];exact hlt
  ·rw[if_neg h0]at hS h2;have g0:decide ((i:Int)>0)=false:=by simp; omega
   have c1:=zEl Z hZ x hx _ h2;simp only[ZE,seval,zaw hlt,e1,e2,wal,KE,g0,zPW,zAa];refine EFn.gV [(900,900),(905,905),(7777777,7777777)] (c1) ?_ ?_
   ·simp only[ZE,seval,KE,zPW,zAa]
   rintro V ol new ⟨rfl,rfl,rfl⟩;simp only[ZE,seval,hw,hS,KE,zPW,zAa];exact hlt
 ·have:i=l.length:=by omega
  subst this;simp only[ZE,seval,zaI (wao l.length),KE,zPW,zAa];refine EFn.gV [(0,900),(5,905)] (zAv ((⟨#[41]⟩:ByteArray)) (wLs zBl n0 l l.length (wS (⟨#[40]⟩:ByteArray) w)) (h)) ?_ ?_
  ·simp only[ZE,seval,prO,KE,zPW,zAa]
  rintro V ol new ⟨rfl,rfl,rfl⟩;simp only[ZE,seval,prO,KE,zPW,zAa];refine⟨[1999],[],?_⟩;simp only[ZE,seval,zHH,zht,AV.core,zPW,zAa,prO]
  first | exact⟨rfl,(zAd _).symm⟩ | exact(zAd _).symm | exact rfl | skip
theorem listS_w(Z:GP)(hZ:Z.Ok)(l:List Bts)(hl: ∀x∈l,x.size<=1000000)(hn:l.length<=1000000)(w:PW)(h:(zCv zAu e0 l w).1.size <=LIM):
  FnL prog 89 [.ep 900 1 0 0,.d (eSbs l),.clo (.func 88) [.ep 900 1 0 0] []] (pwL Z w) (fun V ol new=>V= .tup []/\ol=pwL Z (zCv zAu e0 l w)/\new=[]):=by
 refine FnL.srt (FnL.of_eH 1999 [.ar 900 1,.ar 905 w.1.size] (own:=[]) (fun _=>[]) [] zat func89 rfl call89 ntmps89 (zle rfl) results89 (zDA Z w _ (by simp[AV.noRefs,AV.noRef])) (fun gs=> ?_));have hL:zCv zAu e0 l w=wS (⟨#[41]⟩:ByteArray) (wLs zAu e0 l l.length (wS (⟨#[40]⟩:ByteArray) w)):=rfl;rw[hL]at h ⊢;have l1:=wan (zAw _ _) h;have hle: ∀i,i<=l.length->(wLs zAu e0 l i (wS (⟨#[40]⟩:ByteArray) w)).1.size <=LIM:=fun i hi=>wan (zET zAy e0 l _ i _ hi) l1;simp only[ZE,seval,KE,zPW,zAa];refine EFn.gV [(0,900),(5,905)] (zAv ((⟨#[40]⟩:ByteArray)) (w) (hle 0 (Nat.zero_le _))) ?_ ?_
 ·simp only[ZE,seval,prO,KE,zPW,zAa]
 rintro V ol new ⟨rfl,rfl,rfl⟩;simp only[ZE,seval,prO,KE,waa,zPW,zAa];refine za1 (fun _=>[]) zat l.length (fun _=>True) (fun i=>([(0,.ep 900 1 0 0),(2,.clo (.func 88) [.ep 900 1 0 0] []),(12,.d (eSbs l)),(13,.d (eI l.length)),(14,.d (eI i))],(1999,.gh [.ar 900 1,.ar 905 w.1.size] gs)::pwL Z (wLs zAu e0 l i (wS (⟨#[40]⟩:ByteArray) w)))) trivial ?_ ?_ (fun i hi _=> ?_)
 ·simp only[ZE,seval,KE]
 ·simp only[ZE,seval,KE,wLs.eq_1,zPW,zAa]
 by_cases hlt:i<l.length
 ·have e1:=zai hlt;have hg:l.getD i e0=l[i]:=by rw[List.getD,waj hlt]; rfl
  have hx:=hl _ (wag hlt);have e2:(l.map fun s=>[eSb s]).getD i []=[eSb (l.getD i e0)]:=by rw[zaa hlt,hg]
  rw[<-hg]at hx;have hw:=zaq (show i<9223372036854775807 by omega);have hS:wLs zAu e0 l (i+1) (wS (⟨#[40]⟩:ByteArray) w)=zAu (l.getD i e0) (if 0<i then wS (⟨#[44,32]⟩:ByteArray) (wLs zAu e0 l i (wS (⟨#[40]⟩:ByteArray) w))else wLs zAu e0 l i (wS (⟨#[40]⟩:ByteArray) w)):=rfl;have h2:=hle (i+1) hlt;rw[hS]at h2;obtain⟨x,hxx⟩:=zX (l.getD i e0);obtain⟨v,hv⟩:=zX (wLs zAu e0 l i (wS (⟨#[40]⟩:ByteArray) w));rw[hxx]at hx e2 hS h2;rw[hv]at hS h2 ⊢;simp only[ZE,seval,KE]at e2;by_cases h0:0<i
  ·rw[if_pos h0]at hS h2;have g0:decide ((i:Int)>0)=true:=by simp; omega
   have c1:=zBP Z hZ x hx _ h2;simp only[ZE,seval,zaw hlt,e1,e2,wal,KE,g0,zPW,zAa];refine EFn.gV [(0,900),(5,905)] (zAv ((⟨#[44,32]⟩:ByteArray)) (v) (wan (zAy _ _) h2)) ?_ ?_
   ·simp only[ZE,seval,prO,KE,zPW,zAa]
   rintro V ol new ⟨rfl,rfl,rfl⟩;simp only[ZE,seval,prO,KE,zPW,zAa];refine EFn.gV [(900,900),(905,905),(7777777,7777777)] (c1) ?_ ?_
   ·simp only[ZE,seval,KE,zPW,zAa]
   rintro V ol new ⟨rfl,rfl,rfl⟩;simp only[ZE,seval,hw,hS,KE,zPW,zAa];exact hlt
  ·rw[if_neg h0]at hS h2;have g0:decide ((i:Int)>0)=false:=by simp; omega
   have c1:=zBP Z hZ x hx _ h2;simp only[ZE,seval,zaw hlt,e1,e2,wal,KE,g0,zPW,zAa];refine EFn.gV [(900,900),(905,905),(7777777,7777777)] (c1) ?_ ?_
   ·simp only[ZE,seval,KE,zPW,zAa]
   rintro V ol new ⟨rfl,rfl,rfl⟩;simp only[ZE,seval,hw,hS,KE,zPW,zAa];exact hlt
 ·have:i=l.length:=by omega
  subst this;simp only[ZE,seval,zaI (wao l.length),KE,zPW,zAa];refine EFn.gV [(0,900),(5,905)] (zAv ((⟨#[41]⟩:ByteArray)) (wLs zAu e0 l l.length (wS (⟨#[40]⟩:ByteArray) w)) (h)) ?_ ?_
  ·simp only[ZE,seval,prO,KE,zPW,zAa]
  rintro V ol new ⟨rfl,rfl,rfl⟩;simp only[ZE,seval,prO,KE,zPW,zAa];refine⟨[1999],[],?_⟩;simp only[ZE,seval,zHH,zht,AV.core,zPW,zAa,prO]
  first | exact⟨rfl,(zAd _).symm⟩ | exact(zAd _).symm | exact rfl | skip
def bindR(b:Bind):Prop:=b.port.size<=1000000/\b.chan.size<=1000000
theorem bind_w(Z:GP)(hZ:Z.Ok)(b:Bind)(hb:bindR b)(w:PW)(h:(zDE b w).1.size <=LIM):
  FnL prog 140 [.d (.agg (zjO b)),.bp 95 0] (pwC Z w) (fun V ol new=>V= .tup []/\ol=pwC Z (zDE b w)/\new=[]):=by
 refine FnL.srt (FnL.of_eH 1999 [.ar 900 1,.ar 905 w.1.size] (own:=[]) (fun _=>[]) [1] zat func140 rfl call140 ntmps140 (zle rfl) results140 (zIy Z w _ (by simp[AV.noRefs,AV.noRef])) (fun gs=> ?_));have hW:zDE b w=zAu b.chan (wS (⟨#[32,61,32]⟩:ByteArray) (zAu b.port w)):=rfl;rw[hW]at h ⊢;obtain⟨q1,q2⟩:=hb;obtain⟨p,c⟩:=b;simp only at q1 q2 h ⊢;have l2:=wan (zAy _ _) h;have l1:=wan (zAw _ _) l2;have c1:=zBP Z hZ p q1 _ l1;have c2:=zBP Z hZ c q2 _ h;simp only[ZE,seval,KE,pwC,zPW,zAa];refine EFn.gV [(900,900),(905,905),(7777777,7777777)] (c1) ?_ ?_
 ·simp only[ZE,seval,KE,pwC,zPW,zAa]
 rintro V ol new ⟨rfl,rfl,rfl⟩;simp only[ZE,seval,KE,pwC,zPW,zAa];refine EFn.gV [(0,900),(5,905)] (zAv ((⟨#[32,61,32]⟩:ByteArray)) (zAu p w) (l2)) ?_ ?_
 ·simp only[ZE,seval,prO,KE,pwC,zPW,zAa]
 rintro V ol new ⟨rfl,rfl,rfl⟩;simp only[ZE,seval,prO,KE,pwC,zPW,zAa];refine EFn.gV [(900,900),(905,905),(7777777,7777777)] (c2) ?_ ?_
 ·simp only[ZE,seval,KE,pwC,zPW,zAa]
 rintro V ol new ⟨rfl,rfl,rfl⟩;simp only[ZE,seval,prO,KE,pwC,zPW,zAa];refine⟨[2,1999],[],?_⟩;simp only[ZE,seval,zHH,zht,AV.core,zPW,zAa,prO]
 first | exact⟨rfl,(zAd _).symm⟩ | exact(zAd _).symm | exact rfl | skip
theorem pc_freeW2(Z:GP)(w:PW)(args:List AV)(ha:AV.noRefs [1999] args):
  (zyk 1999 (pwC Z w)/\AV.noRefs [1999] args)/\zCV (om (pwC Z w)) [.bp 95 0,.ar 900 1,.ar 905 w.1.size]/\AV.noRefs [1999] [.bp 95 0,.ar 900 1,.ar 905 w.1.size]:=by
 simp[pwC,pwL,pwO,txO,GZ,zyk,AO.noRef,AV.noRefs,AV.noRef,zCV,om,ha,zAd]
theorem listB_w(Z:GP)(hZ:Z.Ok)(l:List Bind)(hl: ∀x∈l,bindR x)(hn:l.length<=1000000)(w:PW)(h:(zCv zDE b0 l w).1.size <=LIM):
  FnL prog 139 [.ep 900 1 0 0,.d (zel l),.clo (.func 140) [] [.bp 95 0]] (pwC Z w) (fun V ol new=>V= .tup []/\ol=pwC Z (zCv zDE b0 l w)/\new=[]):=by
 refine FnL.srt (FnL.of_eH 1999 [.bp 95 0,.ar 900 1,.ar 905 w.1.size] (own:=[]) (fun _=>[]) [] zat func139 rfl call139 ntmps139 (zle rfl) results139 (pc_freeW2 Z w _ (by simp[AV.noRefs,AV.noRef])) (fun gs=> ?_));have hL:zCv zDE b0 l w=wS (⟨#[41]⟩:ByteArray) (wLs zDE b0 l l.length (wS (⟨#[40]⟩:ByteArray) w)):=rfl;rw[hL]at h ⊢;have l1:=wan (zAw _ _) h;have hle: ∀i,i<=l.length->(wLs zDE b0 l i (wS (⟨#[40]⟩:ByteArray) w)).1.size <=LIM:=fun i hi=>wan (zET zEi b0 l _ i _ hi) l1;simp only[ZE,seval,KE,pwC,zPW,zAa];refine EFn.gV [(0,900),(5,905)] (zAv ((⟨#[40]⟩:ByteArray)) (w) (hle 0 (Nat.zero_le _))) ?_ ?_
 ·simp only[ZE,seval,prO,KE,pwC,zPW,zAa]
 rintro V ol new ⟨rfl,rfl,rfl⟩;simp only[ZE,seval,prO,KE,waa,pwC,zPW,zAa];refine za1 (fun _=>[]) zat l.length (fun _=>True) (fun i=>([(0,.ep 900 1 0 0),(2,.clo (.func 140) [] [.bp 95 0]),(12,.d (zel l)),(13,.d (eI l.length)),(14,.d (eI i))],(1999,.gh [.bp 95 0,.ar 900 1,.ar 905 w.1.size] gs)::pwC Z (wLs zDE b0 l i (wS (⟨#[40]⟩:ByteArray) w)))) trivial ?_ ?_ (fun i hi _=> ?_)
 ·simp only[ZE,seval,KE]
 ·simp only[ZE,seval,KE,wLs.eq_1,pwC,zPW,zAa]
 by_cases hlt:i<l.length
 ·have e1:=zai hlt;have hg:l.getD i b0=l[i]:=by rw[List.getD,waj hlt]; rfl
  have hx:=hl _ (wag hlt);have e2:(l.map zjO).getD i []=[eSb (l.getD i b0).port,eSb (l.getD i b0).chan]:=by rw[zaa hlt,hg]; rfl
  rw[<-hg]at hx;have hw:=zaq (show i<9223372036854775807 by omega);have hS:wLs zDE b0 l (i+1) (wS (⟨#[40]⟩:ByteArray) w)=zDE (l.getD i b0) (if 0<i then wS (⟨#[44,32]⟩:ByteArray) (wLs zDE b0 l i (wS (⟨#[40]⟩:ByteArray) w))else wLs zDE b0 l i (wS (⟨#[40]⟩:ByteArray) w)):=rfl;have h2:=hle (i+1) hlt;rw[hS]at h2;obtain⟨x,hxx⟩:=zX (l.getD i b0);obtain⟨v,hv⟩:=zX (wLs zDE b0 l i (wS (⟨#[40]⟩:ByteArray) w));rw[hxx]at hx e2 hS h2;rw[hv]at hS h2 ⊢;simp only[ZE,seval,KE]at e2;by_cases h0:0<i
  ·rw[if_pos h0]at hS h2;have g0:decide ((i:Int)>0)=true:=by simp; omega
   have c1:=bind_w Z hZ x hx _ h2;simp only[ZE,seval,zaw hlt,e1,e2,wal,KE,g0,pwC,zPW,zAa];refine EFn.gV [(0,900),(5,905)] (zAv ((⟨#[44,32]⟩:ByteArray)) (v) (wan (zEi _ _) h2)) ?_ ?_
   ·simp only[ZE,seval,prO,KE,pwC,zPW,zAa]
   rintro V ol new ⟨rfl,rfl,rfl⟩;simp only[ZE,seval,prO,KE,pwC,zPW,zAa];refine EFn.gV [(95,95),(900,900),(905,905),(7777777,7777777)] (c1) ?_ ?_
   ·simp only[ZE,seval,KE,pwC,zPW,zAa]
   rintro V ol new ⟨rfl,rfl,rfl⟩;simp only[ZE,seval,hw,hS,KE,pwC,zPW,zAa];exact hlt
  ·rw[if_neg h0]at hS h2;have g0:decide ((i:Int)>0)=false:=by simp; omega
   have c1:=bind_w Z hZ x hx _ h2;simp only[ZE,seval,zaw hlt,e1,e2,wal,KE,g0,pwC,zPW,zAa];refine EFn.gV [(95,95),(900,900),(905,905),(7777777,7777777)] (c1) ?_ ?_
   ·simp only[ZE,seval,KE,pwC,zPW,zAa]
   rintro V ol new ⟨rfl,rfl,rfl⟩;simp only[ZE,seval,hw,hS,KE,pwC,zPW,zAa];exact hlt
 ·have:i=l.length:=by omega
  subst this;simp only[ZE,seval,zaI (wao l.length),KE,pwC,zPW,zAa];refine EFn.gV [(0,900),(5,905)] (zAv ((⟨#[41]⟩:ByteArray)) (wLs zDE b0 l l.length (wS (⟨#[40]⟩:ByteArray) w)) (h)) ?_ ?_
  ·simp only[ZE,seval,prO,KE,pwC,zPW,zAa]
  rintro V ol new ⟨rfl,rfl,rfl⟩;simp only[ZE,seval,prO,KE,pwC,zPW,zAa];refine⟨[1999],[],?_⟩;simp only[ZE,seval,zHH,zht,AV.core,zPW,zAa,prO]
  first | exact⟨rfl,(zAd _).symm⟩ | exact(zAd _).symm | exact rfl | skip
structure itemR (x:Item):Prop where
 k: -9223372036854775808<=x.kind/\x.kind<=9223372036854775807
 nm:x.name.size<=1000000
 w:zHN x.width
 d:zHN x.depth
 i:zHN x.init
 a:zDp 8 x.a
 b:zDp 8 x.b
 c:zDp 8 x.c
 r:ruleR x.rule
 o:x.of.size<=1000000
 l:(∀y∈x.args,zHN y)/\x.args.length<=1000000
 p:(∀y∈x.ports,bindR y)/\x.ports.length<=1000000
theorem zGf(Z:GP)(hZ:Z.Ok)(s:Bts)(e:Expr)(he:zDp 8 e)(w:PW)(h:(zBH s e w).1.size <=LIM):
  FnL prog 136 [.d (.lit (.string s)),.d (.agg (zbx e)),.bp 95 0] (pwC Z w) (fun V ol new=>V= .tup []/\ol=pwC Z (zBH s e w)/\new=[]):=by
 refine FnL.srt (FnL.of_eH 1999 [.ar 900 1,.ar 905 w.1.size] (own:=[]) (fun _=>[]) [2] zat func136 rfl call136 ntmps136 (zle rfl) results136 (zIy Z w _ (by simp[AV.noRefs,AV.noRef])) (fun gs=> ?_));have hW:zBH s e w=zA6 8 e (wS s w):=rfl;rw[hW]at h ⊢;have l1:=wan (zBp 8 _ _) h;have c1:=expr_w Z hZ 8 e (wS s w) (by omega) he h;rw[zb6]at c1 ⊢;simp only[ZE,seval,KE,pwC,zPW,zAa];refine EFn.gV [(0,900),(5,905)] (zAv (s) (w) (l1)) ?_ ?_
 ·simp only[ZE,seval,prO,KE,pwC,zPW,zAa]
 rintro V ol new ⟨rfl,rfl,rfl⟩;simp only[ZE,seval,prO,KE,pwC,zPW,zAa];refine EFn.gV [(900,900),(905,905),(7777777,7777777)] (c1) ?_ ?_
 ·simp only[ZE,seval,KE,pwC,zPW,zAa]
 rintro V ol new ⟨rfl,rfl,rfl⟩;simp only[ZE,seval,prO,KE,pwC,zPW,zAa];refine⟨[4,1999],[],?_⟩;simp only[ZE,seval,zHH,zht,AV.core,zPW,zAa,prO]
 first | exact⟨rfl,(zAd _).symm⟩ | exact(zAd _).symm | exact rfl | skip
theorem item_w(Z:GP)(hZ:Z.Ok)(x:Item)(hx:itemR x)(w:PW)(h:(zCB x w).1.size <=LIM):WCon Z 90 [.d (.agg (zaK x))] w (zCB x w) (.tup []):=by
 refine FnL.srt (FnL.of_eH 1999 [.ar 900 1,.ar 905 w.1.size] (own:=[]) (fun i=>if i=2005 then [.chn,.ord ⟨[(0,none),(1,none),(2,none),(3,none),(4,none),(5,none),(6,none),(7,none),(8,none),(9,none),(10,none),(11,none),(12,none),(13,none),(14,none),(15,none),(16,none),(17,none),(18,none),(19,none),(20,none),(21,none),(22,none),(23,none),(24,none),(25,none),(26,none),(27,none),(28,none),(29,none),(30,none),(31,none),(32,none),(33,none),(34,none),(35,none),(36,none),(37,none),(38,none),(39,none),(40,none),(41,none),(42,none),(43,none),(44,none),(45,none),(46,none),(47,none),(48,none),(49,none),(50,none),(51,none),(52,none),(53,none),(54,none),(55,none),(56,none),(57,none),(58,none),(59,none),(60,none),(61,none),(62,none),(63,none),(64,none),(65,none),(66,none),(67,none),(68,none),(69,none),(70,none),(71,none),(72,none),(73,none),(74,none),(75,none),(76,none),(77,none),(78,none),(79,some [])]⟩]else if i=2006 then [.ord ⟨[(0,none),(1,none),(2,none),(3,none),(4,none),(5,none),(6,none),(7,none),(8,none),(9,some [])]⟩]else chL i) [] zat func90 rfl call90 ntmps90 (zle rfl) results90 (zDA Z w _ (by simp[AV.noRefs,AV.noRef])) (fun gs=> ?_));obtain⟨kd,nme,wd,dp,it,a,b,c,r,o,al,pl⟩:=x;obtain⟨hk,hnm,hwd,hdp,hit,ha,hb,hc,hr,ho,hl,hp⟩:=hx;simp only at hk hnm hwd hdp hit ha hb hc hr ho hl hp;simp only[zaK,zb6,List.append_eq,wai,wah];by_cases hK:kd<1\/kd>9
 ·have hW:zCB ⟨kd,nme,wd,dp,it,a,b,c,r,o,al,pl⟩ w=(w.1,false):=by unfold zCB; rw[if_pos hK]
  rw[hW];by_cases hK1:kd<1
  ·have e1:decide (kd<1)=true:=by simp[hK1]
   simp only[ZE,seval,KE,↓zA7,↓zA8,↓zA9,zBN.eq_1,zBI.eq_1,List.append_eq,wai,wah,e1,zPW,zAa];refine⟨[2,3,1999],[],?_⟩;simp only[ZE,seval,zHH,zht,AV.core,zPW,zAa,prO];exact(zAd _).symm
  ·have e1:decide (kd<1)=false:=by simp[hK1]
   have e2:decide (kd>9)=true:=by simp; omega
   simp only[ZE,seval,KE,↓zA7,↓zA8,↓zA9,zBN.eq_1,zBI.eq_1,List.append_eq,wai,wah,e1,e2,zPW,zAa];refine⟨[2,3,1999],[],?_⟩;simp only[ZE,seval,zHH,zht,AV.core,zPW,zAa,prO];exact(zAd _).symm
 have e1:decide (kd<1)=false:=by simp; omega
 have e2:decide (kd>9)=false:=by simp; omega
 obtain⟨c3,k3⟩: ∃z,(kd==3)=z:=⟨_,rfl⟩;obtain⟨c4,k4⟩: ∃z,(kd==4)=z:=⟨_,rfl⟩;obtain⟨c6,k6⟩: ∃z,(kd==6)=z:=⟨_,rfl⟩;obtain⟨c8,k8⟩: ∃z,(kd==8)=z:=⟨_,rfl⟩;obtain⟨c9,k9⟩: ∃z,(kd==9)=z:=⟨_,rfl⟩;obtain⟨cl,kl⟩: ∃z,decide (kd<=6)=z:=⟨_,rfl⟩;obtain⟨cg,kg⟩: ∃z,decide (kd>=4)=z:=⟨_,rfl⟩;obtain⟨co,ko⟩: ∃z,decide (o=(⟨#[]⟩:ByteArray))=z:=⟨_,rfl⟩;obtain⟨ca,kal⟩: ∃z,((al.length:Int)==0)=z:=⟨_,rfl⟩;obtain⟨cp,kpl⟩: ∃z,((pl.length:Int)==0)=z:=⟨_,rfl⟩;have n1:=zHa wd;have n2:=zHa dp;have n3:=zHa it;have n4:=zH0 a;have n5:=zH0 b;have n6:=zH0 c;obtain⟨a1,m1⟩: ∃z,zCW wd=z:=⟨_,rfl⟩;obtain⟨a2,m2⟩: ∃z,zCW dp=z:=⟨_,rfl⟩;obtain⟨a3,m3⟩: ∃z,zCW it=z:=⟨_,rfl⟩;obtain⟨a4,m4⟩: ∃z,zCE a=z:=⟨_,rfl⟩;obtain⟨a5,m5⟩: ∃z,zCE b=z:=⟨_,rfl⟩;obtain⟨a6,m6⟩: ∃z,zCE c=z:=⟨_,rfl⟩;rw[m1]at n1;rw[m2]at n2;rw[m3]at n3;rw[m4]at n4;rw[m5]at n5;rw[m6]at n6;rw[zb6]at n4 n5 n6;simp only[ZE,seval,KE]at n1;simp only[ZE,seval,KE]at n2;simp only[ZE,seval,KE]at n3;simp only[ZE,seval,KE]at n4;simp only[ZE,seval,KE]at n5;simp only[ZE,seval,KE]at n6;simp only[ZE,seval,KE,↓zA7,↓zA8,↓zA9,zBN.eq_1,zBI.eq_1,e1,e2,k3,k4,k6,k8,k9,kl,kg,ko,kal,kpl,List.append_eq,wai,wah,waa,zPW,zAa];refine⟨by kernel_rfl,?_⟩;refine za3.i (fun _=>n1) ?_;simp only[ZE,seval,KE,↓zA7,↓zA8,↓zA9,zBN.eq_1,zBI.eq_1,e1,e2,k3,k4,k6,k8,k9,kl,kg,ko,kal,kpl,List.append_eq,wai,wah,waa,zPW,zAa];refine za3.i (fun _=>n2) ?_;simp only[ZE,seval,KE,↓zA7,↓zA8,↓zA9,zBN.eq_1,zBI.eq_1,e1,e2,k3,k4,k6,k8,k9,kl,kg,ko,kal,kpl,List.append_eq,wai,wah,waa,zPW,zAa];refine za3.i (fun _=>n3) ?_;simp only[ZE,seval,KE,↓zA7,↓zA8,↓zA9,zBN.eq_1,zBI.eq_1,e1,e2,k3,k4,k6,k8,k9,kl,kg,ko,kal,kpl,List.append_eq,wai,wah,waa,zPW,zAa];refine za3.i (fun _=>n4) ?_;simp only[ZE,seval,KE,↓zA7,↓zA8,↓zA9,zBN.eq_1,zBI.eq_1,e1,e2,k3,k4,k6,k8,k9,kl,kg,ko,kal,kpl,List.append_eq,wai,wah,waa,zPW,zAa];refine za3.i (fun _=>n5) ?_;simp only[ZE,seval,KE,↓zA7,↓zA8,↓zA9,zBN.eq_1,zBI.eq_1,e1,e2,k3,k4,k6,k8,k9,kl,kg,ko,kal,kpl,List.append_eq,wai,wah,waa,zPW,zAa];refine za3.i (fun _=>n6) ?_;simp only[ZE,seval,KE,↓zA7,↓zA8,↓zA9,zBN.eq_1,zBI.eq_1,e1,e2,k3,k4,k6,k8,k9,kl,kg,ko,kal,kpl,List.append_eq,wai,wah,waa,zPW,zAa];have d3:decide (kd=3)=c3:=by rw[<-k3,waq]; simp
 have d4:decide (kd=4)=c4:=by rw[<-k4,waq]; simp
 have d6:decide (kd=6)=c6:=by rw[<-k6,waq]; simp
 have d8:decide (kd=8)=c8:=by rw[<-k8,waq]; simp
 have d9:decide (kd=9)=c9:=by rw[<-k9,waq]; simp
 have dn:decide (kd≠9)= !c9 :=by rw[<-d9]; simp
 have dl:decide (al.length=0)=ca:=by rw[<-kal,waq]; simp
 have dp2:decide (pl.length=0)=cp:=by rw[<-kpl,waq]; simp
 have dr:decide (r=r0)=(r.kind==0&&(decide (r.from'=wak)&&r.n==0)):=by
  obtain⟨q1,q2,q3⟩:=r;rw[waq];simp only[decide_eq_true_eq,wap,beq_iff_eq,r0,Rule.mk.injEq];exact Iff.rfl
 have hz:zDm ⟨kd,nme,wd,dp,it,a,b,c,r,o,al,pl⟩=([a1||cl,a2||c3||c6,a3||c4,a4||cg&& !c9,a5||c6||c8,a6||c6,(r.kind==0&&(decide (r.from'=wak)&&r.n==0))||c4||c6,co&&ca&&cp||c9].all id):=by
  unfold zDm;simp only[d3,d4,d6,d8,d9,dn,dl,dp2,dr,kl,kg,m1,m2,m3,m4,m5,m6,show decide (o=e0)=co from ko];simp[Bool.and_assoc]
 have cz:=zero_w Z w [a1||cl,a2||c3||c6,a3||c4,a4||cg&& !c9,a5||c6||c8,a6||c6,(r.kind==0&&(decide (r.from'=wak)&&r.n==0))||c4||c6,co&&ca&&cp||c9] (by simp);rw[<-hz]at cz;obtain⟨v,hv⟩:=zX (wOk (zDm ⟨kd,nme,wd,dp,it,a,b,c,r,o,al,pl⟩) w);rw[hv]at cz;refine EFn.gV [(900,900),(905,905),(7777777,7777777)] cz ?_ ?_
 ·simp only[ZE,seval,KE,wae,wac,zPW,zAa]
 rintro V ol new ⟨rfl,rfl,rfl⟩;clear cz hz;rcases(show kd=1\/kd=2\/kd=3\/kd=4\/kd=5\/kd=6\/kd=7\/kd=8\/kd=9 by omega)with hkd | hkd | hkd | hkd | hkd | hkd | hkd | hkd | hkd
 ·subst hkd;obtain rfl:c3=false:=by rw[<-k3]; rfl
  obtain rfl:c4=false:=by rw[<-k4]; rfl
  obtain rfl:c6=false:=by rw[<-k6]; rfl
  obtain rfl:c8=false:=by rw[<-k8]; rfl
  obtain rfl:c9=false:=by rw[<-k9]; rfl
  have hW:zCB ⟨1,nme,wd,dp,it,a,b,c,r,o,al,pl⟩ w=(zBl wd (wS (⟨#[58,32]⟩:ByteArray) (zAu nme (wS ((⟨#[105,110]⟩:ByteArray)++(⟨#[32]⟩:ByteArray)) v)))):=by rw[<-hv]; rfl
  rw[hW]at h ⊢;have l3:(wS (⟨#[58,32]⟩:ByteArray) (zAu nme (wS ((⟨#[105,110]⟩:ByteArray)++(⟨#[32]⟩:ByteArray)) v))).1.size <=LIM:=wan (zAU _ _) h;have l2:(zAu nme (wS ((⟨#[105,110]⟩:ByteArray)++(⟨#[32]⟩:ByteArray)) v)).1.size <=LIM:=wan (zAw _ _) l3;have l1:(wS ((⟨#[105,110]⟩:ByteArray)++(⟨#[32]⟩:ByteArray)) v).1.size <=LIM:=wan (zAy _ _) l2;have hwk:IntKind.i64.wrap 0=0:=rfl;simp only[ZE,seval,KE,pwC,hwk,List.getD_cons_zero,List.getD_cons_succ,zPW,zAa];refine⟨by kernel_rfl,?_⟩
  try (refine⟨by decide,?_⟩)
  refine EFn.gV [(0,900),(5,905)] (zAv (((⟨#[105,110]⟩:ByteArray)++(⟨#[32]⟩:ByteArray))) (v) (l1)) ?_ ?_
  ·simp only[ZE,seval,prO,KE,pwC,zPW,zAa]
  rintro V ol new ⟨rfl,rfl,rfl⟩;simp only[ZE,seval,prO,KE,pwC,zPW,zAa];refine EFn.gV [(900,900),(905,905),(7777777,7777777)] (zBP Z hZ _ hnm _ l2) ?_ ?_
  ·simp only[ZE,seval,KE,pwC,zPW,zAa]
  rintro V ol new ⟨rfl,rfl,rfl⟩;simp only[ZE,seval,prO,KE,pwC,zPW,zAa];refine EFn.gV [(0,900),(5,905)] (zAv ((⟨#[58,32]⟩:ByteArray)) ((zAu nme (wS ((⟨#[105,110]⟩:ByteArray)++(⟨#[32]⟩:ByteArray)) v))) (l3)) ?_ ?_
  ·simp only[ZE,seval,prO,KE,pwC,zPW,zAa]
  rintro V ol new ⟨rfl,rfl,rfl⟩;simp only[ZE,seval,prO,KE,pwC,zPW,zAa];refine EFn.gV [(900,900),(905,905),(7777777,7777777)] (zEl Z hZ _ hwd _ h) ?_ ?_
  ·simp only[ZE,seval,KE,pwC,zPW,zAa]
  rintro V ol new ⟨rfl,rfl,rfl⟩;simp only[ZE,seval,prO,KE,pwC,zPW,zAa];refine⟨[2,3,1999],[],?_⟩;simp only[ZE,seval,zHH,zht,AV.core,zPW,zAa,prO]
  first | exact⟨rfl,(zAd _).symm⟩ | exact(zAd _).symm | exact rfl | skip
 ·subst hkd;obtain rfl:c3=false:=by rw[<-k3]; rfl
  obtain rfl:c4=false:=by rw[<-k4]; rfl
  obtain rfl:c6=false:=by rw[<-k6]; rfl
  obtain rfl:c8=false:=by rw[<-k8]; rfl
  obtain rfl:c9=false:=by rw[<-k9]; rfl
  have hW:zCB ⟨2,nme,wd,dp,it,a,b,c,r,o,al,pl⟩ w=(zBl wd (wS (⟨#[58,32]⟩:ByteArray) (zAu nme (wS ((⟨#[111,117,116]⟩:ByteArray)++(⟨#[32]⟩:ByteArray)) v)))):=by rw[<-hv]; rfl
  rw[hW]at h ⊢;have l3:(wS (⟨#[58,32]⟩:ByteArray) (zAu nme (wS ((⟨#[111,117,116]⟩:ByteArray)++(⟨#[32]⟩:ByteArray)) v))).1.size <=LIM:=wan (zAU _ _) h;have l2:(zAu nme (wS ((⟨#[111,117,116]⟩:ByteArray)++(⟨#[32]⟩:ByteArray)) v)).1.size <=LIM:=wan (zAw _ _) l3;have l1:(wS ((⟨#[111,117,116]⟩:ByteArray)++(⟨#[32]⟩:ByteArray)) v).1.size <=LIM:=wan (zAy _ _) l2;have hwk:IntKind.i64.wrap 1=1:=rfl;simp only[ZE,seval,KE,pwC,hwk,List.getD_cons_zero,List.getD_cons_succ,zPW,zAa];refine⟨by kernel_rfl,?_⟩
  try (refine⟨by decide,?_⟩)
  refine EFn.gV [(0,900),(5,905)] (zAv (((⟨#[111,117,116]⟩:ByteArray)++(⟨#[32]⟩:ByteArray))) (v) (l1)) ?_ ?_
  ·simp only[ZE,seval,prO,KE,pwC,zPW,zAa]
  rintro V ol new ⟨rfl,rfl,rfl⟩;simp only[ZE,seval,prO,KE,pwC,zPW,zAa];refine EFn.gV [(900,900),(905,905),(7777777,7777777)] (zBP Z hZ _ hnm _ l2) ?_ ?_
  ·simp only[ZE,seval,KE,pwC,zPW,zAa]
  rintro V ol new ⟨rfl,rfl,rfl⟩;simp only[ZE,seval,prO,KE,pwC,zPW,zAa];refine EFn.gV [(0,900),(5,905)] (zAv ((⟨#[58,32]⟩:ByteArray)) ((zAu nme (wS ((⟨#[111,117,116]⟩:ByteArray)++(⟨#[32]⟩:ByteArray)) v))) (l3)) ?_ ?_
  ·simp only[ZE,seval,prO,KE,pwC,zPW,zAa]
  rintro V ol new ⟨rfl,rfl,rfl⟩;simp only[ZE,seval,prO,KE,pwC,zPW,zAa];refine EFn.gV [(900,900),(905,905),(7777777,7777777)] (zEl Z hZ _ hwd _ h) ?_ ?_
  ·simp only[ZE,seval,KE,pwC,zPW,zAa]
  rintro V ol new ⟨rfl,rfl,rfl⟩;simp only[ZE,seval,prO,KE,pwC,zPW,zAa];refine⟨[2,3,1999],[],?_⟩;simp only[ZE,seval,zHH,zht,AV.core,zPW,zAa,prO]
  first | exact⟨rfl,(zAd _).symm⟩ | exact(zAd _).symm | exact rfl | skip
 ·subst hkd;obtain rfl:c3=true:=by rw[<-k3]; rfl
  obtain rfl:c4=false:=by rw[<-k4]; rfl
  obtain rfl:c6=false:=by rw[<-k6]; rfl
  obtain rfl:c8=false:=by rw[<-k8]; rfl
  obtain rfl:c9=false:=by rw[<-k9]; rfl
  have hW:zCB ⟨3,nme,wd,dp,it,a,b,c,r,o,al,pl⟩ w=(wS (⟨#[93]⟩:ByteArray) (zBl dp (wS (⟨#[32,91]⟩:ByteArray) (zBl wd (wS (⟨#[58,32]⟩:ByteArray) (zAu nme (wS ((⟨#[99,104,97,110]⟩:ByteArray)++(⟨#[32]⟩:ByteArray)) v))))))):=by rw[<-hv]; rfl
  rw[hW]at h ⊢;have l6:(zBl dp (wS (⟨#[32,91]⟩:ByteArray) (zBl wd (wS (⟨#[58,32]⟩:ByteArray) (zAu nme (wS ((⟨#[99,104,97,110]⟩:ByteArray)++(⟨#[32]⟩:ByteArray)) v)))))).1.size <=LIM:=wan (zAw _ _) h;have l5:(wS (⟨#[32,91]⟩:ByteArray) (zBl wd (wS (⟨#[58,32]⟩:ByteArray) (zAu nme (wS ((⟨#[99,104,97,110]⟩:ByteArray)++(⟨#[32]⟩:ByteArray)) v))))).1.size <=LIM:=wan (zAU _ _) l6;have l4:(zBl wd (wS (⟨#[58,32]⟩:ByteArray) (zAu nme (wS ((⟨#[99,104,97,110]⟩:ByteArray)++(⟨#[32]⟩:ByteArray)) v)))).1.size <=LIM:=wan (zAw _ _) l5;have l3:(wS (⟨#[58,32]⟩:ByteArray) (zAu nme (wS ((⟨#[99,104,97,110]⟩:ByteArray)++(⟨#[32]⟩:ByteArray)) v))).1.size <=LIM:=wan (zAU _ _) l4;have l2:(zAu nme (wS ((⟨#[99,104,97,110]⟩:ByteArray)++(⟨#[32]⟩:ByteArray)) v)).1.size <=LIM:=wan (zAw _ _) l3;have l1:(wS ((⟨#[99,104,97,110]⟩:ByteArray)++(⟨#[32]⟩:ByteArray)) v).1.size <=LIM:=wan (zAy _ _) l2;have hwk:IntKind.i64.wrap 2=2:=rfl;simp only[ZE,seval,KE,pwC,hwk,List.getD_cons_zero,List.getD_cons_succ,zPW,zAa];refine⟨by kernel_rfl,?_⟩
  try (refine⟨by decide,?_⟩)
  refine EFn.gV [(0,900),(5,905)] (zAv (((⟨#[99,104,97,110]⟩:ByteArray)++(⟨#[32]⟩:ByteArray))) (v) (l1)) ?_ ?_
  ·simp only[ZE,seval,prO,KE,pwC,zPW,zAa]
  rintro V ol new ⟨rfl,rfl,rfl⟩;simp only[ZE,seval,prO,KE,pwC,zPW,zAa];refine EFn.gV [(900,900),(905,905),(7777777,7777777)] (zBP Z hZ _ hnm _ l2) ?_ ?_
  ·simp only[ZE,seval,KE,pwC,zPW,zAa]
  rintro V ol new ⟨rfl,rfl,rfl⟩;simp only[ZE,seval,prO,KE,pwC,zPW,zAa];refine EFn.gV [(0,900),(5,905)] (zAv ((⟨#[58,32]⟩:ByteArray)) ((zAu nme (wS ((⟨#[99,104,97,110]⟩:ByteArray)++(⟨#[32]⟩:ByteArray)) v))) (l3)) ?_ ?_
  ·simp only[ZE,seval,prO,KE,pwC,zPW,zAa]
  rintro V ol new ⟨rfl,rfl,rfl⟩;simp only[ZE,seval,prO,KE,pwC,zPW,zAa];refine EFn.gV [(900,900),(905,905),(7777777,7777777)] (zEl Z hZ _ hwd _ l4) ?_ ?_
  ·simp only[ZE,seval,KE,pwC,zPW,zAa]
  rintro V ol new ⟨rfl,rfl,rfl⟩;simp only[ZE,seval,prO,KE,pwC,zPW,zAa];refine EFn.gV [(0,900),(5,905)] (zAv ((⟨#[32,91]⟩:ByteArray)) ((zBl wd (wS (⟨#[58,32]⟩:ByteArray) (zAu nme (wS ((⟨#[99,104,97,110]⟩:ByteArray)++(⟨#[32]⟩:ByteArray)) v))))) (l5)) ?_ ?_
  ·simp only[ZE,seval,prO,KE,pwC,zPW,zAa]
  rintro V ol new ⟨rfl,rfl,rfl⟩;simp only[ZE,seval,prO,KE,pwC,zPW,zAa];refine EFn.gV [(900,900),(905,905),(7777777,7777777)] (zEl Z hZ _ hdp _ l6) ?_ ?_
  ·simp only[ZE,seval,KE,pwC,zPW,zAa]
  rintro V ol new ⟨rfl,rfl,rfl⟩;simp only[ZE,seval,prO,KE,pwC,zPW,zAa];refine EFn.gV [(0,900),(5,905)] (zAv ((⟨#[93]⟩:ByteArray)) ((zBl dp (wS (⟨#[32,91]⟩:ByteArray) (zBl wd (wS (⟨#[58,32]⟩:ByteArray) (zAu nme (wS ((⟨#[99,104,97,110]⟩:ByteArray)++(⟨#[32]⟩:ByteArray)) v))))))) (h)) ?_ ?_
  ·simp only[ZE,seval,prO,KE,pwC,zPW,zAa]
  rintro V ol new ⟨rfl,rfl,rfl⟩;simp only[ZE,seval,prO,KE,pwC,zPW,zAa];refine⟨[2,3,1999],[],?_⟩;simp only[ZE,seval,zHH,zht,AV.core,zPW,zAa,prO]
  first | exact⟨rfl,(zAd _).symm⟩ | exact(zAd _).symm | exact rfl | skip
 ·subst hkd;obtain rfl:c3=false:=by rw[<-k3]; rfl
  obtain rfl:c4=true:=by rw[<-k4]; rfl
  obtain rfl:c6=false:=by rw[<-k6]; rfl
  obtain rfl:c8=false:=by rw[<-k8]; rfl
  obtain rfl:c9=false:=by rw[<-k9]; rfl
  have hW:zCB ⟨4,nme,wd,dp,it,a,b,c,r,o,al,pl⟩ w=(zEn r (wS (⟨#[32]⟩:ByteArray) (zBH (⟨#[32,45,62,32]⟩:ByteArray) a (zBl it (wS (⟨#[32,61,32]⟩:ByteArray) (zBl wd (wS (⟨#[58,32]⟩:ByteArray) (zAu nme (wS ((⟨#[114,101,103]⟩:ByteArray)++(⟨#[32]⟩:ByteArray)) v))))))))):=by rw[<-hv]; rfl
  rw[hW]at h ⊢;have l8:(wS (⟨#[32]⟩:ByteArray) (zBH (⟨#[32,45,62,32]⟩:ByteArray) a (zBl it (wS (⟨#[32,61,32]⟩:ByteArray) (zBl wd (wS (⟨#[58,32]⟩:ByteArray) (zAu nme (wS ((⟨#[114,101,103]⟩:ByteArray)++(⟨#[32]⟩:ByteArray)) v)))))))).1.size <=LIM:=wan (zF3 _ _) h;have l7:(zBH (⟨#[32,45,62,32]⟩:ByteArray) a (zBl it (wS (⟨#[32,61,32]⟩:ByteArray) (zBl wd (wS (⟨#[58,32]⟩:ByteArray) (zAu nme (wS ((⟨#[114,101,103]⟩:ByteArray)++(⟨#[32]⟩:ByteArray)) v))))))).1.size <=LIM:=wan (zAw _ _) l8;have l6:(zBl it (wS (⟨#[32,61,32]⟩:ByteArray) (zBl wd (wS (⟨#[58,32]⟩:ByteArray) (zAu nme (wS ((⟨#[114,101,103]⟩:ByteArray)++(⟨#[32]⟩:ByteArray)) v)))))).1.size <=LIM:=wan (zBV _ _ _) l7;have l5:(wS (⟨#[32,61,32]⟩:ByteArray) (zBl wd (wS (⟨#[58,32]⟩:ByteArray) (zAu nme (wS ((⟨#[114,101,103]⟩:ByteArray)++(⟨#[32]⟩:ByteArray)) v))))).1.size <=LIM:=wan (zAU _ _) l6;have l4:(zBl wd (wS (⟨#[58,32]⟩:ByteArray) (zAu nme (wS ((⟨#[114,101,103]⟩:ByteArray)++(⟨#[32]⟩:ByteArray)) v)))).1.size <=LIM:=wan (zAw _ _) l5;have l3:(wS (⟨#[58,32]⟩:ByteArray) (zAu nme (wS ((⟨#[114,101,103]⟩:ByteArray)++(⟨#[32]⟩:ByteArray)) v))).1.size <=LIM:=wan (zAU _ _) l4;have l2:(zAu nme (wS ((⟨#[114,101,103]⟩:ByteArray)++(⟨#[32]⟩:ByteArray)) v)).1.size <=LIM:=wan (zAw _ _) l3;have l1:(wS ((⟨#[114,101,103]⟩:ByteArray)++(⟨#[32]⟩:ByteArray)) v).1.size <=LIM:=wan (zAy _ _) l2;have hwk:IntKind.i64.wrap 3=3:=rfl;simp only[ZE,seval,KE,pwC,hwk,List.getD_cons_zero,List.getD_cons_succ,zPW,zAa];refine⟨by kernel_rfl,?_⟩
  try (refine⟨by decide,?_⟩)
  refine EFn.gV [(0,900),(5,905)] (zAv (((⟨#[114,101,103]⟩:ByteArray)++(⟨#[32]⟩:ByteArray))) (v) (l1)) ?_ ?_
  ·simp only[ZE,seval,prO,KE,pwC,zPW,zAa]
  rintro V ol new ⟨rfl,rfl,rfl⟩;simp only[ZE,seval,prO,KE,pwC,zPW,zAa];refine EFn.gV [(900,900),(905,905),(7777777,7777777)] (zBP Z hZ _ hnm _ l2) ?_ ?_
  ·simp only[ZE,seval,KE,pwC,zPW,zAa]
  rintro V ol new ⟨rfl,rfl,rfl⟩;simp only[ZE,seval,prO,KE,pwC,zPW,zAa];refine EFn.gV [(0,900),(5,905)] (zAv ((⟨#[58,32]⟩:ByteArray)) ((zAu nme (wS ((⟨#[114,101,103]⟩:ByteArray)++(⟨#[32]⟩:ByteArray)) v))) (l3)) ?_ ?_
  ·simp only[ZE,seval,prO,KE,pwC,zPW,zAa]
  rintro V ol new ⟨rfl,rfl,rfl⟩;simp only[ZE,seval,prO,KE,pwC,zPW,zAa];refine EFn.gV [(900,900),(905,905),(7777777,7777777)] (zEl Z hZ _ hwd _ l4) ?_ ?_
  ·simp only[ZE,seval,KE,pwC,zPW,zAa]
  rintro V ol new ⟨rfl,rfl,rfl⟩;simp only[ZE,seval,prO,KE,pwC,zPW,zAa];refine EFn.gV [(0,900),(5,905)] (zAv ((⟨#[32,61,32]⟩:ByteArray)) ((zBl wd (wS (⟨#[58,32]⟩:ByteArray) (zAu nme (wS ((⟨#[114,101,103]⟩:ByteArray)++(⟨#[32]⟩:ByteArray)) v))))) (l5)) ?_ ?_
  ·simp only[ZE,seval,prO,KE,pwC,zPW,zAa]
  rintro V ol new ⟨rfl,rfl,rfl⟩;simp only[ZE,seval,prO,KE,pwC,zPW,zAa];refine EFn.gV [(900,900),(905,905),(7777777,7777777)] (zEl Z hZ _ hit _ l6) ?_ ?_
  ·simp only[ZE,seval,KE,pwC,zPW,zAa]
  rintro V ol new ⟨rfl,rfl,rfl⟩;simp only[ZE,seval,prO,KE,pwC,zPW,zAa];refine EFn.gV [(95,2),(900,900),(905,905),(7777777,7777777)] (zGf Z hZ _ _ ha _ l7) ?_ ?_
  ·simp only[ZE,seval,zb6,KE,pwC,zPW,zAa]
  rintro V ol new ⟨rfl,rfl,rfl⟩;simp only[ZE,seval,prO,KE,pwC,zPW,zAa];refine EFn.gV [(0,900),(5,905)] (zAv ((⟨#[32]⟩:ByteArray)) ((zBH (⟨#[32,45,62,32]⟩:ByteArray) a (zBl it (wS (⟨#[32,61,32]⟩:ByteArray) (zBl wd (wS (⟨#[58,32]⟩:ByteArray) (zAu nme (wS ((⟨#[114,101,103]⟩:ByteArray)++(⟨#[32]⟩:ByteArray)) v)))))))) (l8)) ?_ ?_
  ·simp only[ZE,seval,prO,KE,pwC,zPW,zAa]
  rintro V ol new ⟨rfl,rfl,rfl⟩;simp only[ZE,seval,prO,KE,pwC,zPW,zAa];refine EFn.gV [(900,900),(905,905),(7777777,7777777)] (rule_w Z hZ _ hr _ h) ?_ ?_
  ·simp only[ZE,seval,KE,pwC,zPW,zAa]
  rintro V ol new ⟨rfl,rfl,rfl⟩;simp only[ZE,seval,prO,KE,pwC,zPW,zAa];refine⟨[2,3,1999],[],?_⟩;simp only[ZE,seval,zHH,zht,AV.core,zPW,zAa,prO]
  first | exact⟨rfl,(zAd _).symm⟩ | exact(zAd _).symm | exact rfl | skip
 ·subst hkd;obtain rfl:c3=false:=by rw[<-k3]; rfl
  obtain rfl:c4=false:=by rw[<-k4]; rfl
  obtain rfl:c6=false:=by rw[<-k6]; rfl
  obtain rfl:c8=false:=by rw[<-k8]; rfl
  obtain rfl:c9=false:=by rw[<-k9]; rfl
  have hW:zCB ⟨5,nme,wd,dp,it,a,b,c,r,o,al,pl⟩ w=(zBH (⟨#[32,61,32]⟩:ByteArray) a (zBl wd (wS (⟨#[58,32]⟩:ByteArray) (zAu nme (wS ((⟨#[119,105,114,101]⟩:ByteArray)++(⟨#[32]⟩:ByteArray)) v))))):=by rw[<-hv]; rfl
  rw[hW]at h ⊢;have l4:(zBl wd (wS (⟨#[58,32]⟩:ByteArray) (zAu nme (wS ((⟨#[119,105,114,101]⟩:ByteArray)++(⟨#[32]⟩:ByteArray)) v)))).1.size <=LIM:=wan (zBV _ _ _) h;have l3:(wS (⟨#[58,32]⟩:ByteArray) (zAu nme (wS ((⟨#[119,105,114,101]⟩:ByteArray)++(⟨#[32]⟩:ByteArray)) v))).1.size <=LIM:=wan (zAU _ _) l4;have l2:(zAu nme (wS ((⟨#[119,105,114,101]⟩:ByteArray)++(⟨#[32]⟩:ByteArray)) v)).1.size <=LIM:=wan (zAw _ _) l3;have l1:(wS ((⟨#[119,105,114,101]⟩:ByteArray)++(⟨#[32]⟩:ByteArray)) v).1.size <=LIM:=wan (zAy _ _) l2;have hwk:IntKind.i64.wrap 4=4:=rfl;simp only[ZE,seval,KE,pwC,hwk,List.getD_cons_zero,List.getD_cons_succ,zPW,zAa];refine⟨by kernel_rfl,?_⟩
  try (refine⟨by decide,?_⟩)
  refine EFn.gV [(0,900),(5,905)] (zAv (((⟨#[119,105,114,101]⟩:ByteArray)++(⟨#[32]⟩:ByteArray))) (v) (l1)) ?_ ?_
  ·simp only[ZE,seval,prO,KE,pwC,zPW,zAa]
  rintro V ol new ⟨rfl,rfl,rfl⟩;simp only[ZE,seval,prO,KE,pwC,zPW,zAa];refine EFn.gV [(900,900),(905,905),(7777777,7777777)] (zBP Z hZ _ hnm _ l2) ?_ ?_
  ·simp only[ZE,seval,KE,pwC,zPW,zAa]
  rintro V ol new ⟨rfl,rfl,rfl⟩;simp only[ZE,seval,prO,KE,pwC,zPW,zAa];refine EFn.gV [(0,900),(5,905)] (zAv ((⟨#[58,32]⟩:ByteArray)) ((zAu nme (wS ((⟨#[119,105,114,101]⟩:ByteArray)++(⟨#[32]⟩:ByteArray)) v))) (l3)) ?_ ?_
  ·simp only[ZE,seval,prO,KE,pwC,zPW,zAa]
  rintro V ol new ⟨rfl,rfl,rfl⟩;simp only[ZE,seval,prO,KE,pwC,zPW,zAa];refine EFn.gV [(900,900),(905,905),(7777777,7777777)] (zEl Z hZ _ hwd _ l4) ?_ ?_
  ·simp only[ZE,seval,KE,pwC,zPW,zAa]
  rintro V ol new ⟨rfl,rfl,rfl⟩;simp only[ZE,seval,prO,KE,pwC,zPW,zAa];refine EFn.gV [(95,2),(900,900),(905,905),(7777777,7777777)] (zGf Z hZ _ _ ha _ h) ?_ ?_
  ·simp only[ZE,seval,zb6,KE,pwC,zPW,zAa]
  rintro V ol new ⟨rfl,rfl,rfl⟩;simp only[ZE,seval,prO,KE,pwC,zPW,zAa];refine⟨[2,3,1999],[],?_⟩;simp only[ZE,seval,zHH,zht,AV.core,zPW,zAa,prO]
  first | exact⟨rfl,(zAd _).symm⟩ | exact(zAd _).symm | exact rfl | skip
 ·subst hkd;obtain rfl:c3=false:=by rw[<-k3]; rfl
  obtain rfl:c4=false:=by rw[<-k4]; rfl
  obtain rfl:c6=true:=by rw[<-k6]; rfl
  obtain rfl:c8=false:=by rw[<-k8]; rfl
  obtain rfl:c9=false:=by rw[<-k9]; rfl
  have hW:zCB ⟨6,nme,wd,dp,it,a,b,c,r,o,al,pl⟩ w=(zEn r (wS (⟨#[32]⟩:ByteArray) (zBH (⟨#[32,61,32]⟩:ByteArray) c (zBH (⟨#[32,97,116,32]⟩:ByteArray) b (zBH (⟨#[32,105,102,32]⟩:ByteArray) a (wS (⟨#[93]⟩:ByteArray) (zBl dp (wS (⟨#[32,91]⟩:ByteArray) (zBl wd (wS (⟨#[58,32]⟩:ByteArray) (zAu nme (wS ((⟨#[109,101,109]⟩:ByteArray)++(⟨#[32]⟩:ByteArray)) v)))))))))))):=by rw[<-hv]; rfl
  rw[hW]at h ⊢;have l11:(wS (⟨#[32]⟩:ByteArray) (zBH (⟨#[32,61,32]⟩:ByteArray) c (zBH (⟨#[32,97,116,32]⟩:ByteArray) b (zBH (⟨#[32,105,102,32]⟩:ByteArray) a (wS (⟨#[93]⟩:ByteArray) (zBl dp (wS (⟨#[32,91]⟩:ByteArray) (zBl wd (wS (⟨#[58,32]⟩:ByteArray) (zAu nme (wS ((⟨#[109,101,109]⟩:ByteArray)++(⟨#[32]⟩:ByteArray)) v))))))))))).1.size <=LIM:=wan (zF3 _ _) h;have l10:(zBH (⟨#[32,61,32]⟩:ByteArray) c (zBH (⟨#[32,97,116,32]⟩:ByteArray) b (zBH (⟨#[32,105,102,32]⟩:ByteArray) a (wS (⟨#[93]⟩:ByteArray) (zBl dp (wS (⟨#[32,91]⟩:ByteArray) (zBl wd (wS (⟨#[58,32]⟩:ByteArray) (zAu nme (wS ((⟨#[109,101,109]⟩:ByteArray)++(⟨#[32]⟩:ByteArray)) v)))))))))).1.size <=LIM:=wan (zAw _ _) l11;have l9:(zBH (⟨#[32,97,116,32]⟩:ByteArray) b (zBH (⟨#[32,105,102,32]⟩:ByteArray) a (wS (⟨#[93]⟩:ByteArray) (zBl dp (wS (⟨#[32,91]⟩:ByteArray) (zBl wd (wS (⟨#[58,32]⟩:ByteArray) (zAu nme (wS ((⟨#[109,101,109]⟩:ByteArray)++(⟨#[32]⟩:ByteArray)) v))))))))).1.size <=LIM:=wan (zBV _ _ _) l10;have l8:(zBH (⟨#[32,105,102,32]⟩:ByteArray) a (wS (⟨#[93]⟩:ByteArray) (zBl dp (wS (⟨#[32,91]⟩:ByteArray) (zBl wd (wS (⟨#[58,32]⟩:ByteArray) (zAu nme (wS ((⟨#[109,101,109]⟩:ByteArray)++(⟨#[32]⟩:ByteArray)) v)))))))).1.size <=LIM:=wan (zBV _ _ _) l9;have l7:(wS (⟨#[93]⟩:ByteArray) (zBl dp (wS (⟨#[32,91]⟩:ByteArray) (zBl wd (wS (⟨#[58,32]⟩:ByteArray) (zAu nme (wS ((⟨#[109,101,109]⟩:ByteArray)++(⟨#[32]⟩:ByteArray)) v))))))).1.size <=LIM:=wan (zBV _ _ _) l8;have l6:(zBl dp (wS (⟨#[32,91]⟩:ByteArray) (zBl wd (wS (⟨#[58,32]⟩:ByteArray) (zAu nme (wS ((⟨#[109,101,109]⟩:ByteArray)++(⟨#[32]⟩:ByteArray)) v)))))).1.size <=LIM:=wan (zAw _ _) l7;have l5:(wS (⟨#[32,91]⟩:ByteArray) (zBl wd (wS (⟨#[58,32]⟩:ByteArray) (zAu nme (wS ((⟨#[109,101,109]⟩:ByteArray)++(⟨#[32]⟩:ByteArray)) v))))).1.size <=LIM:=wan (zAU _ _) l6;have l4:(zBl wd (wS (⟨#[58,32]⟩:ByteArray) (zAu nme (wS ((⟨#[109,101,109]⟩:ByteArray)++(⟨#[32]⟩:ByteArray)) v)))).1.size <=LIM:=wan (zAw _ _) l5;have l3:(wS (⟨#[58,32]⟩:ByteArray) (zAu nme (wS ((⟨#[109,101,109]⟩:ByteArray)++(⟨#[32]⟩:ByteArray)) v))).1.size <=LIM:=wan (zAU _ _) l4;have l2:(zAu nme (wS ((⟨#[109,101,109]⟩:ByteArray)++(⟨#[32]⟩:ByteArray)) v)).1.size <=LIM:=wan (zAw _ _) l3;have l1:(wS ((⟨#[109,101,109]⟩:ByteArray)++(⟨#[32]⟩:ByteArray)) v).1.size <=LIM:=wan (zAy _ _) l2;have hwk:IntKind.i64.wrap 5=5:=rfl;simp only[ZE,seval,KE,pwC,hwk,List.getD_cons_zero,List.getD_cons_succ,zPW,zAa];refine⟨by kernel_rfl,?_⟩
  try (refine⟨by decide,?_⟩)
  refine EFn.gV [(0,900),(5,905)] (zAv (((⟨#[109,101,109]⟩:ByteArray)++(⟨#[32]⟩:ByteArray))) (v) (l1)) ?_ ?_
  ·simp only[ZE,seval,prO,KE,pwC,zPW,zAa]
  rintro V ol new ⟨rfl,rfl,rfl⟩;simp only[ZE,seval,prO,KE,pwC,zPW,zAa];refine EFn.gV [(900,900),(905,905),(7777777,7777777)] (zBP Z hZ _ hnm _ l2) ?_ ?_
  ·simp only[ZE,seval,KE,pwC,zPW,zAa]
  rintro V ol new ⟨rfl,rfl,rfl⟩;simp only[ZE,seval,prO,KE,pwC,zPW,zAa];refine EFn.gV [(0,900),(5,905)] (zAv ((⟨#[58,32]⟩:ByteArray)) ((zAu nme (wS ((⟨#[109,101,109]⟩:ByteArray)++(⟨#[32]⟩:ByteArray)) v))) (l3)) ?_ ?_
  ·simp only[ZE,seval,prO,KE,pwC,zPW,zAa]
  rintro V ol new ⟨rfl,rfl,rfl⟩;simp only[ZE,seval,prO,KE,pwC,zPW,zAa];refine EFn.gV [(900,900),(905,905),(7777777,7777777)] (zEl Z hZ _ hwd _ l4) ?_ ?_
  ·simp only[ZE,seval,KE,pwC,zPW,zAa]
  rintro V ol new ⟨rfl,rfl,rfl⟩;simp only[ZE,seval,prO,KE,pwC,zPW,zAa];refine EFn.gV [(0,900),(5,905)] (zAv ((⟨#[32,91]⟩:ByteArray)) ((zBl wd (wS (⟨#[58,32]⟩:ByteArray) (zAu nme (wS ((⟨#[109,101,109]⟩:ByteArray)++(⟨#[32]⟩:ByteArray)) v))))) (l5)) ?_ ?_
  ·simp only[ZE,seval,prO,KE,pwC,zPW,zAa]
  rintro V ol new ⟨rfl,rfl,rfl⟩;simp only[ZE,seval,prO,KE,pwC,zPW,zAa];refine EFn.gV [(900,900),(905,905),(7777777,7777777)] (zEl Z hZ _ hdp _ l6) ?_ ?_
  ·simp only[ZE,seval,KE,pwC,zPW,zAa]
  rintro V ol new ⟨rfl,rfl,rfl⟩;simp only[ZE,seval,prO,KE,pwC,zPW,zAa];refine EFn.gV [(0,900),(5,905)] (zAv ((⟨#[93]⟩:ByteArray)) ((zBl dp (wS (⟨#[32,91]⟩:ByteArray) (zBl wd (wS (⟨#[58,32]⟩:ByteArray) (zAu nme (wS ((⟨#[109,101,109]⟩:ByteArray)++(⟨#[32]⟩:ByteArray)) v))))))) (l7)) ?_ ?_
  ·simp only[ZE,seval,prO,KE,pwC,zPW,zAa]
  rintro V ol new ⟨rfl,rfl,rfl⟩;simp only[ZE,seval,prO,KE,pwC,zPW,zAa];refine EFn.gV [(95,2),(900,900),(905,905),(7777777,7777777)] (zGf Z hZ _ _ ha _ l8) ?_ ?_
  ·simp only[ZE,seval,zb6,KE,pwC,zPW,zAa]
  rintro V ol new ⟨rfl,rfl,rfl⟩;simp only[ZE,seval,prO,KE,pwC,zPW,zAa];refine EFn.gV [(95,2),(900,900),(905,905),(7777777,7777777)] (zGf Z hZ _ _ hb _ l9) ?_ ?_
  ·simp only[ZE,seval,zb6,KE,pwC,zPW,zAa]
  rintro V ol new ⟨rfl,rfl,rfl⟩;simp only[ZE,seval,prO,KE,pwC,zPW,zAa];refine EFn.gV [(95,2),(900,900),(905,905),(7777777,7777777)] (zGf Z hZ _ _ hc _ l10) ?_ ?_
  ·simp only[ZE,seval,zb6,KE,pwC,zPW,zAa]
  rintro V ol new ⟨rfl,rfl,rfl⟩;simp only[ZE,seval,prO,KE,pwC,zPW,zAa];refine EFn.gV [(0,900),(5,905)] (zAv ((⟨#[32]⟩:ByteArray)) ((zBH (⟨#[32,61,32]⟩:ByteArray) c (zBH (⟨#[32,97,116,32]⟩:ByteArray) b (zBH (⟨#[32,105,102,32]⟩:ByteArray) a (wS (⟨#[93]⟩:ByteArray) (zBl dp (wS (⟨#[32,91]⟩:ByteArray) (zBl wd (wS (⟨#[58,32]⟩:ByteArray) (zAu nme (wS ((⟨#[109,101,109]⟩:ByteArray)++(⟨#[32]⟩:ByteArray)) v))))))))))) (l11)) ?_ ?_
  ·simp only[ZE,seval,prO,KE,pwC,zPW,zAa]
  rintro V ol new ⟨rfl,rfl,rfl⟩;simp only[ZE,seval,prO,KE,pwC,zPW,zAa];refine EFn.gV [(900,900),(905,905),(7777777,7777777)] (rule_w Z hZ _ hr _ h) ?_ ?_
  ·simp only[ZE,seval,KE,pwC,zPW,zAa]
  rintro V ol new ⟨rfl,rfl,rfl⟩;simp only[ZE,seval,prO,KE,pwC,zPW,zAa];refine⟨[2,3,1999],[],?_⟩;simp only[ZE,seval,zHH,zht,AV.core,zPW,zAa,prO]
  first | exact⟨rfl,(zAd _).symm⟩ | exact(zAd _).symm | exact rfl | skip
 ·subst hkd;obtain rfl:c3=false:=by rw[<-k3]; rfl
  obtain rfl:c4=false:=by rw[<-k4]; rfl
  obtain rfl:c6=false:=by rw[<-k6]; rfl
  obtain rfl:c8=false:=by rw[<-k8]; rfl
  obtain rfl:c9=false:=by rw[<-k9]; rfl
  have hW:zCB ⟨7,nme,wd,dp,it,a,b,c,r,o,al,pl⟩ w=(zBH (⟨#[32,105,102,32]⟩:ByteArray) a (zAu nme (wS ((⟨#[116,97,107,101]⟩:ByteArray)++(⟨#[32]⟩:ByteArray)) v))):=by rw[<-hv]; rfl
  rw[hW]at h ⊢;have l2:(zAu nme (wS ((⟨#[116,97,107,101]⟩:ByteArray)++(⟨#[32]⟩:ByteArray)) v)).1.size <=LIM:=wan (zBV _ _ _) h;have l1:(wS ((⟨#[116,97,107,101]⟩:ByteArray)++(⟨#[32]⟩:ByteArray)) v).1.size <=LIM:=wan (zAy _ _) l2;have hwk:IntKind.i64.wrap 6=6:=rfl;simp only[ZE,seval,KE,pwC,hwk,List.getD_cons_zero,List.getD_cons_succ,zPW,zAa];refine⟨by kernel_rfl,?_⟩
  try (refine⟨by decide,?_⟩)
  refine EFn.gV [(0,900),(5,905)] (zAv (((⟨#[116,97,107,101]⟩:ByteArray)++(⟨#[32]⟩:ByteArray))) (v) (l1)) ?_ ?_
  ·simp only[ZE,seval,prO,KE,pwC,zPW,zAa]
  rintro V ol new ⟨rfl,rfl,rfl⟩;simp only[ZE,seval,prO,KE,pwC,zPW,zAa];refine EFn.gV [(900,900),(905,905),(7777777,7777777)] (zBP Z hZ _ hnm _ l2) ?_ ?_
  ·simp only[ZE,seval,KE,pwC,zPW,zAa]
  rintro V ol new ⟨rfl,rfl,rfl⟩;simp only[ZE,seval,prO,KE,pwC,zPW,zAa];refine EFn.gV [(95,2),(900,900),(905,905),(7777777,7777777)] (zGf Z hZ _ _ ha _ h) ?_ ?_
  ·simp only[ZE,seval,zb6,KE,pwC,zPW,zAa]
  rintro V ol new ⟨rfl,rfl,rfl⟩;simp only[ZE,seval,prO,KE,pwC,zPW,zAa];refine⟨[2,3,1999],[],?_⟩;simp only[ZE,seval,zHH,zht,AV.core,zPW,zAa,prO]
  first | exact⟨rfl,(zAd _).symm⟩ | exact(zAd _).symm | exact rfl | skip
 ·subst hkd;obtain rfl:c3=false:=by rw[<-k3]; rfl
  obtain rfl:c4=false:=by rw[<-k4]; rfl
  obtain rfl:c6=false:=by rw[<-k6]; rfl
  obtain rfl:c8=true:=by rw[<-k8]; rfl
  obtain rfl:c9=false:=by rw[<-k9]; rfl
  have hW:zCB ⟨8,nme,wd,dp,it,a,b,c,r,o,al,pl⟩ w=(zBH (⟨#[32,61,32]⟩:ByteArray) b (zBH (⟨#[32,105,102,32]⟩:ByteArray) a (zAu nme (wS ((⟨#[112,117,116]⟩:ByteArray)++(⟨#[32]⟩:ByteArray)) v)))):=by rw[<-hv]; rfl
  rw[hW]at h ⊢;have l3:(zBH (⟨#[32,105,102,32]⟩:ByteArray) a (zAu nme (wS ((⟨#[112,117,116]⟩:ByteArray)++(⟨#[32]⟩:ByteArray)) v))).1.size <=LIM:=wan (zBV _ _ _) h;have l2:(zAu nme (wS ((⟨#[112,117,116]⟩:ByteArray)++(⟨#[32]⟩:ByteArray)) v)).1.size <=LIM:=wan (zBV _ _ _) l3;have l1:(wS ((⟨#[112,117,116]⟩:ByteArray)++(⟨#[32]⟩:ByteArray)) v).1.size <=LIM:=wan (zAy _ _) l2;have hwk:IntKind.i64.wrap 7=7:=rfl;simp only[ZE,seval,KE,pwC,hwk,List.getD_cons_zero,List.getD_cons_succ,zPW,zAa];refine⟨by kernel_rfl,?_⟩
  try (refine⟨by decide,?_⟩)
  refine EFn.gV [(0,900),(5,905)] (zAv (((⟨#[112,117,116]⟩:ByteArray)++(⟨#[32]⟩:ByteArray))) (v) (l1)) ?_ ?_
  ·simp only[ZE,seval,prO,KE,pwC,zPW,zAa]
  rintro V ol new ⟨rfl,rfl,rfl⟩;simp only[ZE,seval,prO,KE,pwC,zPW,zAa];refine EFn.gV [(900,900),(905,905),(7777777,7777777)] (zBP Z hZ _ hnm _ l2) ?_ ?_
  ·simp only[ZE,seval,KE,pwC,zPW,zAa]
  rintro V ol new ⟨rfl,rfl,rfl⟩;simp only[ZE,seval,prO,KE,pwC,zPW,zAa];refine EFn.gV [(95,2),(900,900),(905,905),(7777777,7777777)] (zGf Z hZ _ _ ha _ l3) ?_ ?_
  ·simp only[ZE,seval,zb6,KE,pwC,zPW,zAa]
  rintro V ol new ⟨rfl,rfl,rfl⟩;simp only[ZE,seval,prO,KE,pwC,zPW,zAa];refine EFn.gV [(95,2),(900,900),(905,905),(7777777,7777777)] (zGf Z hZ _ _ hb _ h) ?_ ?_
  ·simp only[ZE,seval,zb6,KE,pwC,zPW,zAa]
  rintro V ol new ⟨rfl,rfl,rfl⟩;simp only[ZE,seval,prO,KE,pwC,zPW,zAa];refine⟨[2,3,1999],[],?_⟩;simp only[ZE,seval,zHH,zht,AV.core,zPW,zAa,prO]
  first | exact⟨rfl,(zAd _).symm⟩ | exact(zAd _).symm | exact rfl | skip
 ·subst hkd;obtain rfl:c3=false:=by rw[<-k3]; rfl
  obtain rfl:c4=false:=by rw[<-k4]; rfl
  obtain rfl:c6=false:=by rw[<-k6]; rfl
  obtain rfl:c8=false:=by rw[<-k8]; rfl
  obtain rfl:c9=true:=by rw[<-k9]; rfl
  have hW:zCB ⟨9,nme,wd,dp,it,a,b,c,r,o,al,pl⟩ w=(zCv zDE b0 pl (wS (⟨#[32]⟩:ByteArray) (zCv zBl n0 al (zAu o (wS (⟨#[58,32]⟩:ByteArray) (zAu nme (wS ((⟨#[105,110,115,116]⟩:ByteArray)++(⟨#[32]⟩:ByteArray)) v))))))):=by rw[<-hv]; rfl
  rw[hW]at h ⊢;have l6:(wS (⟨#[32]⟩:ByteArray) (zCv zBl n0 al (zAu o (wS (⟨#[58,32]⟩:ByteArray) (zAu nme (wS ((⟨#[105,110,115,116]⟩:ByteArray)++(⟨#[32]⟩:ByteArray)) v)))))).1.size <=LIM:=wan (zCD zEi _ _ _) h;have l5:(zCv zBl n0 al (zAu o (wS (⟨#[58,32]⟩:ByteArray) (zAu nme (wS ((⟨#[105,110,115,116]⟩:ByteArray)++(⟨#[32]⟩:ByteArray)) v))))).1.size <=LIM:=wan (zAw _ _) l6;have l4:(zAu o (wS (⟨#[58,32]⟩:ByteArray) (zAu nme (wS ((⟨#[105,110,115,116]⟩:ByteArray)++(⟨#[32]⟩:ByteArray)) v)))).1.size <=LIM:=wan (zCD zAU _ _ _) l5;have l3:(wS (⟨#[58,32]⟩:ByteArray) (zAu nme (wS ((⟨#[105,110,115,116]⟩:ByteArray)++(⟨#[32]⟩:ByteArray)) v))).1.size <=LIM:=wan (zAy _ _) l4;have l2:(zAu nme (wS ((⟨#[105,110,115,116]⟩:ByteArray)++(⟨#[32]⟩:ByteArray)) v)).1.size <=LIM:=wan (zAw _ _) l3;have l1:(wS ((⟨#[105,110,115,116]⟩:ByteArray)++(⟨#[32]⟩:ByteArray)) v).1.size <=LIM:=wan (zAy _ _) l2;have hwk:IntKind.i64.wrap 8=8:=rfl;simp only[ZE,seval,KE,pwC,hwk,List.getD_cons_zero,List.getD_cons_succ,zPW,zAa];refine⟨by kernel_rfl,?_⟩
  try (refine⟨by decide,?_⟩)
  refine EFn.gV [(0,900),(5,905)] (zAv (((⟨#[105,110,115,116]⟩:ByteArray)++(⟨#[32]⟩:ByteArray))) (v) (l1)) ?_ ?_
  ·simp only[ZE,seval,prO,KE,pwC,zPW,zAa]
  rintro V ol new ⟨rfl,rfl,rfl⟩;simp only[ZE,seval,prO,KE,pwC,zPW,zAa];refine EFn.gV [(900,900),(905,905),(7777777,7777777)] (zBP Z hZ _ hnm _ l2) ?_ ?_
  ·simp only[ZE,seval,KE,pwC,zPW,zAa]
  rintro V ol new ⟨rfl,rfl,rfl⟩;simp only[ZE,seval,prO,KE,pwC,zPW,zAa];refine EFn.gV [(0,900),(5,905)] (zAv ((⟨#[58,32]⟩:ByteArray)) ((zAu nme (wS ((⟨#[105,110,115,116]⟩:ByteArray)++(⟨#[32]⟩:ByteArray)) v))) (l3)) ?_ ?_
  ·simp only[ZE,seval,prO,KE,pwC,zPW,zAa]
  rintro V ol new ⟨rfl,rfl,rfl⟩;simp only[ZE,seval,prO,KE,pwC,zPW,zAa];refine EFn.gV [(900,900),(905,905),(7777777,7777777)] (zBP Z hZ _ ho _ l4) ?_ ?_
  ·simp only[ZE,seval,KE,pwC,zPW,zAa]
  rintro V ol new ⟨rfl,rfl,rfl⟩;simp only[ZE,seval,prO,KE,pwC,zPW,zAa];refine EFn.gV [(900,900),(905,905),(7777777,7777777)] (listN_w Z hZ _ hl.1 hl.2 _ l5) ?_ ?_
  ·simp only[ZE,seval,KE,pwC,zPW,zAa]
  rintro V ol new ⟨rfl,rfl,rfl⟩;simp only[ZE,seval,prO,KE,pwC,zPW,zAa];refine EFn.gV [(0,900),(5,905)] (zAv ((⟨#[32]⟩:ByteArray)) ((zCv zBl n0 al (zAu o (wS (⟨#[58,32]⟩:ByteArray) (zAu nme (wS ((⟨#[105,110,115,116]⟩:ByteArray)++(⟨#[32]⟩:ByteArray)) v)))))) (l6)) ?_ ?_
  ·simp only[ZE,seval,prO,KE,pwC,zPW,zAa]
  rintro V ol new ⟨rfl,rfl,rfl⟩;simp only[ZE,seval,prO,KE,pwC,zPW,zAa];refine EFn.gV [(95,2),(900,900),(905,905),(7777777,7777777)] (listB_w Z hZ _ hp.1 hp.2 _ h) ?_ ?_
  ·simp only[ZE,seval,zb6,KE,pwC,zPW,zAa]
  rintro V ol new ⟨rfl,rfl,rfl⟩;simp only[ZE,seval,prO,KE,pwC,zPW,zAa];refine⟨[2,3,1999],[],?_⟩;simp only[ZE,seval,zHH,zht,AV.core,zPW,zAa,prO]
  first | exact⟨rfl,(zAd _).symm⟩ | exact(zAd _).symm | exact rfl | skip
theorem len_w(x0:AV)(hx0:x0= .d (.lit (.pointer none))\/x0= .ep 0 1 0 0)(tx:List (List D))(ok:Bool):
  FnL prog 91 [.ep 0 1 0 0] [(0,prO x0 tx.length (.d (eB ok))),(5,txO tx)] (fun V ol new=>V= .d (eI tx.length)/\ol=[(0,prO x0 tx.length (.d (eB ok))),(5,txO tx)]/\new=[]):=by
 refine FnL.srt (FnL.of_eH 1999 [.ar 0 1,.ar 5 tx.length] (own:=[]) (fun _=>[]) [] zat func91 rfl call91 ntmps91 (zle rfl) results91 (zHd x0 hx0 tx (eB ok) _ (by simp[AV.noRefs,AV.noRef])) (fun gs=> ?_));rcases hx0 with rfl | rfl
 ·simp only[ZE,seval,prO,txO];refine⟨[1999],[],?_⟩;simp only[ZE,seval,zHH,zht,AV.core]
 ·simp only[ZE,seval,prO,txO];refine⟨[1999],[],?_⟩;simp only[ZE,seval,zHH,zht,AV.core]
open Go.Aw Go.RowKit
set_option maxRecDepth 1000000
set_option maxHeartbeats 2000000
theorem str_w(w:World)(b g cap:Nat)(cur cur5:Array Value)(l:List UInt8)(hb:w.heap[b]? =some (.cells cur 161 (0,0)))(h1:cur[1]? =some (.slice (some ⟨g,0,none⟩) l.length cap))(hg:w.heap[g]? =some (.cells cur5 5 (0,0)))
  (h0:l≠[]) (hc:l.length<=cap) (hs:cur5.size=cap*1) (hm:cap<=maxLen) (hx: ∀(j:Nat) (x:UInt8),l[j]? =some x->cur5[j]? =some (Value.int IntKind.u8 (x.toNat:Int))):
  Calls prog 92 #[.pointer (some ⟨b,0,none⟩)] w fun e w'=>e= .returned (.string ⟨l.toArray⟩)/\w'=w.drew.freeze ⟨g,0,none⟩ l.length:=by
 have hl0:l.length≠0:=by simpa using h0
 have hcap:cap≠0:=by omega
 have c1:w.drew.cell? ⟨b,1,none⟩=some (.slice (some ⟨g,0,none⟩) l.length cap):=by
  have:w.drew.heap[b]? =some (.cells cur 161 (0,0)):=hb;rw[Lib.cell_of_heap this]; exact h1
 have hSD:(Builtin.unsafeSliceData_ #[54] 233 #[.slice (some ⟨g,0,none⟩) l.length cap]).run prog w.drew= .ok (.pointer (some ⟨g,0,none⟩)) w.drew:=
  Lib.run_unsafeSliceData_row _ _ _ _ _ _ hcap
 have hUS:(Builtin.unsafeString_ #[233,3] 9 #[.pointer (some ⟨g,0,none⟩),.int .i64 l.length]).run prog w.drew= .ok (.string ⟨l.toArray⟩) (w.drew.freeze ⟨g,0,none⟩ l.length):=by
  refine Lib.run_unsafeString_row w.drew 233 3 9 5 (by kernel_rfl) (by kernel_rfl) g cur5.size (by have hg':w.drew.heap[g]? =some (.cells cur5 5 (0,0)):=hg; simp[World.shape?,hg']) l h0 (by omega) (by unfold maxLen at hm; omega) ?_;intro j x hj;have hg':w.drew.heap[g]? =some (.cells cur5 5 (0,0)):=hg;have:=hx j x hj;cases j <;> simp_all [World.cell?,Addr.add]
 have zat:=zat
 go_enter func92,ntmps92
 go_wp2
 go_region_o
 all_goals (go_wp2; go_ret; exact⟨rfl,rfl⟩)
theorem own_lits{W:World}{F:Nat->Prop}: ∀(l:List UInt8) (vs:List Value) (s1:List Nat),Go.Aw.OwnVals (Go.Aw.Own W F []) (l.map fun b=>D.lit (.int .u8 b.toNat)) vs s1->vs=l.map fun b=>Value.int .u8 b.toNat
 | [],vs,s1,h=>by simp only[wac,Go.Aw.OwnVals]at h; exact h.1
 | b::r,vs,s1,h=>by
  simp only[wae,Go.Aw.OwnVals]at h;obtain⟨v,rest,s2,s3,rfl,_,h1,h2⟩:=h;simp only[Go.Aw.Own,Rd]at h1;rw[own_lits r rest s3 h2,h1.1];rfl
theorem zHT(vs:Array Value)(W:World):(callFunc 92 vs).run prog W= .ok (.enter 92 vs) W:=by kernel_rfl
theorem str_own(x0:AV)(s:Bts)(h0:s.size≠0)(ok:Bool):
  FnL prog 92 [.ep 0 1 0 0] [(0,prO x0 s.size (.d (eB ok))),(5,txO (zAr s))] (fun V ol new=>V= .d (.lit (.string s))/\ol=[]/\new=[]):=by
 refine⟨fun W bs=>zHT bs W,?_⟩;intro W F O0 η S vs hm hO0 hr;obtain⟨O,hO⟩:=zX (om [(0,prO x0 s.size (.d (eB ok))),(5,txO (zAr s))]);rw[hO]at hm hr ⊢;have hO1:O 0=some (prO x0 s.size (.d (eB ok))):=by rw[<-hO]; simp[om]
 have hO5:O 5=some (txO (zAr s)):=by rw[<-hO]; simp[om]
 unfold prO at hO1;unfold txO at hO5;simp only[zaN,zaL]at hr;obtain⟨v0,_,rfl,hv0,rfl⟩:=hr;obtain⟨g0,len,cap0,hη,rfl⟩:=(hv0 _ _ _ _ hO1).2 rfl;obtain⟨d,hd⟩:=zD8 hm hO1 (i:=0) (j:=1) (by simp) (by decide);obtain⟨b,capb,cur,u,sa,s1,sb,q1,q2,q3,q4,q5,q6,q7,_⟩:=zwA hm hO1 (i:=0) (j:=1) (by simp) (by decide) hd;rw[q1]at hη;simp only[Value.slice.injEq,Option.some.injEq,Addr.mk.injEq,and_true]at hη;obtain⟨rfl,_,_⟩:=hη;simp only[Nat.zero_mul,Nat.zero_add,Nat.add_zero]at q4 q7 ⊢;unfold znF at q7;simp only[List.lookup,show((1:Nat)==0)=false from rfl,show((1:Nat)==1)=true from rfl]at q7;obtain⟨q7,_⟩:=q7;simp only[zaL]at q7;have q8:=(q7 _ _ _ _ hO5).2 (zAd s).symm;subst q8;obtain⟨_,_,hcase⟩:=hm.obj 5 _ hO5;rcases hcase with⟨_,hes,_⟩ | ⟨g,cap,cur5,s5,p1,p2,p3,p4,p5,p6,p7⟩
 ·have:=zAd s;rw[hes]at this;exact absurd this.symm h0
 have hlen:=zAd s;have hfl:(zAr s).flatten =s.data.toList.map fun b=>D.lit (.int .u8 b.toNat):=by
  unfold zAr
  induction s.data.toList with
  | nil=>rfl
  | cons a r ih=>simp only[wae,List.flatten_cons,ih]; rfl
 rw[hfl]at p7;have hv:=own_lits _ _ _ p7;have hz:s.data.toList.length=s.size:=by rw[Array.length_toList]; rfl
 rw[hlen,Nat.mul_one]at hv;have hcell: ∀(j:Nat) (x:UInt8),s.data.toList[j]? =some x->cur5[j]? =some (Value.int IntKind.u8 (x.toNat:Int)):=by
  intro j x hj;have hlt:j<s.size:=by
   rw[<-hz];exact(List.getElem?_eq_some_iff.1 hj).1
  have:=congrArg (fun l=>l[j]?) hv;simp only[List.getElem?_map,hj,Option.map_some,List.getElem?_take_of_lt hlt]at this;rw[<-this];simp
 rw[hlen]at p1 p3;rw[p1]at q4;have hgS:g∈S 5:=by rw[p6]; simp
 have hgO:=(hm.apart 5 g hgS).2.2;refine(str_w W b g cap cur cur5 s.data.toList q2 (by rw[hz]; exact q4) p2 (by intro e; rw[e]at hz; exact h0 hz.symm) (by rw[hz]; exact p3) p5 p4 hcell).mono ?_;rintro e W' ⟨rfl,rfl⟩;obtain⟨W',hW'⟩:=zX (W.drew.freeze ⟨g,0,none⟩ s.data.toList.length);rw[hW'];have f1:W'.os=W.os:=by rw[<-hW']; unfold World.freeze; split <;> rfl
 have f2:W'.tape=W.tape:=by rw[<-hW']; unfold World.freeze; split <;> rfl
 have f3:W'.output=W.output:=by rw[<-hW']; unfold World.freeze; split <;> rfl
 have f4:W'.heap.size=W.heap.size:=by
  rw[<-hW']; unfold World.freeze;split
  ·rfl
  ·exact Array.size_modify
 have f5: ∀b,b≠g->W'.heap[b]? =W.heap[b]? :=by
  intro b hb;rw[<-hW']; unfold World.freeze;split
  ·rfl
  ·simp only[World.drew,Array.getElem?_modify];rw[if_neg (fun e=>hb e.symm)]
 refine⟨_,_,_,[],F,η,fun _=>[],rfl,⟨[],rfl,rfl,rfl,rfl⟩,(fun i hi=>by cases hi),?_,?_,?_⟩
 ·refine⟨f1,f2,f3,by rw[f4]; exact wao _,?_,fun b h=>h,fun b h=>by rw[f4]; exact hm.flt b h,hm.fold,?_,fun _ _=>rfl,?_,?_,fun _=>List.nodup_nil,?_,?_,?_⟩
  ·intro b hb hn;exact f5 b (fun e=>hn (by subst e; exact hgO hb))
  ·intro id o ho; simp[om]at ho
  ·intro id b hb; simp at hb
  ·intro id id' b hb; simp at hb
  ·intro p hp; simp at hp
  ·intro id lim fam stop l rest ho; simp[om]at ho
  ·intro D hD; simp at hD
 ·show Value.string ⟨s.data.toList.toArray⟩=Value.string s;rw[Array.toArray_toList]
 ·intro j o ho; simp[om]at ho
set_option maxRecDepth 100000
set_option maxHeartbeats 4000000
structure modR (R:Item->Prop) (m:Module):Prop where
 n:m.name.size<=1000000
 c:m.clock.size<=1000000
 p:(∀s∈m.params,s.size<=1000000)/\m.params.length<=1000000
 i:(∀x∈m.items,R x)/\m.items.length<=1000000
def pX(Z:GP)(x0:AV)(w:PW):OL:=[(5,txO (zAr w.1)),(10,.arr 161 3 (.deep [] [(0,x0),(1,.ar 5 w.1.size),(2,.d (eB w.2))]) [[.lit undef,.lit undef,.lit undef]]),(7777777,Z.o)]
theorem eItem_n(x:Item):zaK x=[eI x.kind,eSb x.name,eI x.width.n,eSb x.width.p,eI x.depth.n,eSb x.depth.p,eI x.init.n,eSb x.init.p,eI x.a.op,eSb x.a.name,eI x.a.k.n,eSb x.a.k.p,eI x.a.w.n,eSb x.a.w.p,.sl (x.a.args.map zbx),eI x.b.op,eSb x.b.name,eI x.b.k.n,eSb x.b.k.p,eI x.b.w.n,eSb x.b.w.p,.sl (x.b.args.map zbx),eI x.c.op,eSb x.c.name,eI x.c.k.n,eSb x.c.k.p,eI x.c.w.n,eSb x.c.w.p,.sl (x.c.args.map zbx),eI x.rule.kind,eSb x.rule.from',eI x.rule.n,eSb x.of,ziG x.args,zel x.ports]:=by
 unfold zaK;rw[zb6,zb6,zb6];rfl
theorem write_p0(y0:AV)(hy:y0= .d (.lit (.pointer none))\/y0= .ep 0 1 0 0)(s:Bts)(w:PW)(h:(wS s w).1.size <=LIM):
  FnL prog 87 [.ep 0 1 0 0,.d (.lit (.string s))] [(0,prO y0 w.1.size (.d (eB w.2))),(5,txO (zAr w.1))] (fun V ol new=>V= .tup [.d (eI s.size),.d (.lit .nilIface)]/\ol=[(0,prO (.ep 0 1 0 0) (wS s w).1.size (.d (eB w.2))),(5,txO (zAr (wS s w).1))]/\new=[]):=by
 have hz:(wS s w).1.size =w.1.size+s.size:=by simp[wS,ByteArray.size_append]
 have:=copy_w1 y0 hy (zAr w.1) w.2 s (by rw[zAd]; rw[hz]at h; exact h);rw[zAd]at this;rw[hz,show(wS s w).1 =w.1++s from rfl,zHn];exact this
theorem zHR(x:Item)(w:PW):w.1.size<=(zCB x w).1.size :=by
 unfold zCB;split
 ·exact wao _
 ·refine wan ?_ (size_bodyW _ _)
  repeat' split
  all_goals
   repeat' first
    | with_reducible exact wao _
    | with_reducible refine wan ?_ (zAw _ _)
    | with_reducible refine wan ?_ (zAU _ _)
    | with_reducible refine wan ?_ (zAy _ _)
    | with_reducible exact zEj _ _
theorem zF2(l:List Item)(w:PW): ∀i j,i<=j->(zDK l i w).1.size <=(zDK l j w).1.size :=by
 intro i j hij
 induction j with
 | zero=>
  have:i=0:=by omega
  subst this; exact wao _
 | succ j ih=>
  rcases wam j i with h | h
  ·have:i=j+1:=by omega
   subst this; exact wao _
  ·refine wan (ih h) ?_;exact wan (zAw _ _) (wan (zHR _ _) (zAw _ _))
theorem size_wModule(m:Module)(w:PW):w.1.size<=(zD4 m w).1.size :=
 wan (zAw _ _) (wan (zAy _ _) (wan (zCD zAy _ _ _) (wan (zAw _ _) (wan (zAy _ _) (wan (zAw _ _) (wan (zF2 _ _ 0 _ (Nat.zero_le _)) (zAw _ _)))))))
theorem size_mods(l:List Module)(w:PW): ∀i j,i<=j->(zDF l i w).1.size <=(zDF l j w).1.size :=by
 intro i j hij
 induction j with
 | zero=>
  have:i=0:=by omega
  subst this; exact wao _
 | succ j ih=>
  rcases wam j i with h | h
  ·have:i=j+1:=by omega
   subst this; exact wao _
  ·exact wan (ih h) (size_wModule _ _)
theorem print_g(Z:GP)(hZ:Z.Ok)(R:Item->Prop)(hI: ∀x,R x-> ∀w:PW,(zCB x w).1.size <=LIM->WCon Z 90 [.d (.agg (zaK x))] w (zCB x w) (.tup []))(l:List Module)(hne:l.length≠0)(hl: ∀m∈l,modR R m)(hn:l.length<=1000000)(h:(zDF l l.length (e0,true)).1.size <=LIM):
  FnL prog 58 [.d (.agg [zax l])] [(7777777,Z.o)] (fun V ol new=>V= .tup [.d (eSb (zCl l).1),.d (eI (zCl l).2)]/\ol=[(7777777,Z.o)]/\new=[]):=by
 refine FnL.srt (FnL.of_eH 1999 [] (own:=[(10,[])]) (fun i=>if i=1 then [.adH 10 0 1 5 5 1]else if i=2020 then []else chL i) [] zat func58 rfl call58 ntmps58 (zle rfl) results58 (zCw Z _ (by simp[AV.noRefs,AV.noRef])) (fun gs=> ?_));simp only[ZE,seval,KE,waa,GZ];refine za1 (fun i=>if i=1 then [.adH 10 0 1 5 5 1]else if i=2020 then []else chL i) zat l.length (fun _=>True) (fun i=>([(2,.d (.lit (.string e0))),(3,.d (eI 0)),(4,.ep 10 1 0 0),(12,.d (zax l)),(13,.d (eI l.length)),(14,.d (eI i))],(1999,.gh [] gs)::pX Z (if i=0 then .d (.lit (.pointer none))else .ep 10 1 0 0) (zDF l i (e0,true)))) trivial ?_ ?_ (fun i hi _=> ?_)
 ·simp only[ZE,seval,KE,e0]
 ·simp only[ZE,seval,KE,pX,GZ,txO,zDF.eq_1,if_true];exact⟨rfl,rfl⟩
 by_cases hlt:i<l.length
 ·have e1:=zai hlt;have e2:(l.map zaC).getD i []=[eSb l[i].name,eSb l[i].clock,eSbs l[i].params,zbR l[i].items]:=zaa hlt [];have hw:=zaq (show i<9223372036854775807 by omega);obtain⟨W,hW⟩:=zX (zDF l i (e0,true));have hm:=hl _ (wag hlt);have hg:l.getD i m0=l[i]:=by rw[List.getD,waj hlt]; rfl
  have hS2:zDF l (i+1) (e0,true)=zD4 l[i] W:=by rw[<-hW,<-hg]; rfl
  obtain⟨m,hmm⟩:=zX (l[i]);rw[hmm]at e2 hm hS2;have h2:(zD4 m W).1.size <=LIM:=by rw[<-hS2]; exact wan (size_mods l _ _ _ hlt) h
  rw[hW];have hu:zD4 m W=wS (⟨#[125,10]⟩:ByteArray) (zDK m.items m.items.length (wS (⟨#[32,123,10]⟩:ByteArray) (zAu m.clock (wS (⟨#[32,64,32]⟩:ByteArray) (zCv zAu e0 m.params (zAu m.name (wS (⟨#[109,111,100,117,108,101,32]⟩:ByteArray) W))))))):=rfl;rw[hu]at h2 hS2;have q7:=wan (zAw _ _) h2;have q6:(wS (⟨#[32,123,10]⟩:ByteArray) (zAu m.clock (wS (⟨#[32,64,32]⟩:ByteArray) (zCv zAu e0 m.params (zAu m.name (wS (⟨#[109,111,100,117,108,101,32]⟩:ByteArray) W)))))).1.size <=LIM:=wan (zF2 m.items _ _ _ (Nat.zero_le _)) q7;have q5:=wan (zAw _ _) q6;have q4:=wan (zAy _ _) q5;have q3:=wan (zAw _ _) q4;have q2:=wan (zCD zAy _ _ _) q3;have q1:=wan (zAy _ _) q2;obtain⟨x0,hx0,hx1⟩: ∃x0,(if i=0 then AV.d (.lit (.pointer none))else .ep 10 1 0 0)=x0/\(x0= .d (.lit (.pointer none))\/x0= .ep 10 1 0 0):=by
   by_cases hz:i=0
   ·exact⟨_,rfl,.inl (by rw[if_pos hz])⟩
   ·exact⟨_,rfl,.inr (by rw[if_neg hz])⟩
  rw[hx0];simp only[ZE,seval,KE]at e2;simp only[ZE,seval,zaw hlt,e1,e2,wal,KE,pX,zPW,zAa];obtain⟨y0,hy,hxy⟩: ∃y0,(y0=AV.d (.lit (.pointer none))\/y0= .ep 0 1 0 0)/\((x0= .d (.lit (.pointer none))/\y0= .d (.lit (.pointer none)))\/(x0= .ep 10 1 0 0/\y0= .ep 0 1 0 0)):=by
   rcases hx1 with h | h
   ·exact⟨_,.inl rfl,.inl ⟨h,rfl⟩⟩
   ·exact⟨_,.inr rfl,.inr ⟨h,rfl⟩⟩
  refine⟨by rcases hx1 with rfl | rfl <;> simp[AV.noRef],?_⟩;clear hx0;refine EFn.gV [(0,10),(5,5)] (write_p0 y0 hy (⟨#[109,111,100,117,108,101,32]⟩:ByteArray) W q1) ?_ ?_
  ·rcases hxy with⟨rfl,rfl⟩ | ⟨rfl,rfl⟩
   ·simp only[ZE,seval,prO,KE,zPW,zAa]
   ·simp only[ZE,seval,prO,KE,zPW,zAa]
  rintro V ol new ⟨rfl,rfl,rfl⟩;simp only[ZE,seval,prO,KE,zPW,zAa];refine EFn.gV [(900,10),(905,5),(7777777,7777777)] (zBP Z hZ m.name hm.n _ q2) ?_ ?_
  ·simp only[ZE,seval,KE,zPW,zAa]
  rintro V ol new ⟨rfl,rfl,rfl⟩;simp only[ZE,seval,KE,zPW,zAa];refine EFn.gV [(900,10),(905,5),(7777777,7777777)] (listS_w Z hZ m.params hm.p.1 hm.p.2 _ q3) ?_ ?_
  ·simp only[ZE,seval,KE,zPW,zAa]
  rintro V ol new ⟨rfl,rfl,rfl⟩;simp only[ZE,seval,KE,zPW,zAa];refine EFn.gV [(0,10),(5,5)] (zAv ((⟨#[32,64,32]⟩:ByteArray)) (zCv zAu e0 m.params (zAu m.name (wS (⟨#[109,111,100,117,108,101,32]⟩:ByteArray) W))) (q4)) ?_ ?_
  ·simp only[ZE,seval,prO,KE,zPW,zAa]
  rintro V ol new ⟨rfl,rfl,rfl⟩;simp only[ZE,seval,prO,KE,zPW,zAa];refine EFn.gV [(900,10),(905,5),(7777777,7777777)] (zBP Z hZ m.clock hm.c _ q5) ?_ ?_
  ·simp only[ZE,seval,KE,zPW,zAa]
  rintro V ol new ⟨rfl,rfl,rfl⟩;simp only[ZE,seval,KE,zPW,zAa];refine EFn.gV [(0,10),(5,5)] (zAv ((⟨#[32,123,10]⟩:ByteArray)) (zAu m.clock (wS (⟨#[32,64,32]⟩:ByteArray) (zCv zAu e0 m.params (zAu m.name (wS (⟨#[109,111,100,117,108,101,32]⟩:ByteArray) W))))) (q6)) ?_ ?_
  ·simp only[ZE,seval,prO,KE,zPW,zAa]
  rintro V ol new ⟨rfl,rfl,rfl⟩;simp only[ZE,seval,prO,KE,zPW,zAa];obtain⟨U,hU⟩:=zX (wS (⟨#[32,123,10]⟩:ByteArray) (zAu m.clock (wS (⟨#[32,64,32]⟩:ByteArray) (zCv zAu e0 m.params (zAu m.name (wS (⟨#[109,111,100,117,108,101,32]⟩:ByteArray) W))))));have hUs:(zAu m.clock (wS (⟨#[32,64,32]⟩:ByteArray) (zCv zAu e0 m.params (zAu m.name (wS (⟨#[109,111,100,117,108,101,32]⟩:ByteArray) W))))).2 =U.2:=by rw[<-hU]; rfl
  rw[hU]at hS2 h2 q7;rw[hU,hUs];refine za1 (fun i=>if i=1 then [.adH 10 0 1 5 5 1]else if i=2020 then []else chL i) zat m.items.length (fun _=>True) (fun j=>([(2,.d (.lit (.string e0))),(3,.d (eI 0)),(4,.ep 10 1 0 0),(12,.d (zax l)),(13,.d (eI l.length)),(14,.d (eI i)),(45,.d (zbR m.items)),(46,.d (eI m.items.length)),(47,.d (eI j))],(1999,.gh [] gs)::(6,.box [.d (eSb m.name),.d (eSb m.clock),.d (eSbs m.params),.d (zbR m.items)])::pX Z (.ep 10 1 0 0) (zDK m.items j U))) trivial ?_ ?_ (fun j hj _=> ?_)
  ·simp only[ZE,seval,KE,e0]
  ·simp only[ZE,seval,KE,pX,GZ,txO,zDK.eq_1]
  by_cases hjt:j<m.items.length
  ·have f1:=zai hjt;have f2:(m.items.map zaK).getD j []=zaK m.items[j]:=zaa hjt [];have hwj:=zaq (show j<9223372036854775807 by have:=hm.i.2; omega);have hgj:m.items.getD j (zBg 0)=m.items[j]:=by rw[List.getD,waj hjt]; rfl
   have hr:=hm.i.1 _ (wag hjt);obtain⟨V,hV⟩:=zX (zDK m.items j U);have hS3:zDK m.items (j+1) U=wS (⟨#[59,10]⟩:ByteArray) (zCB m.items[j] (wS (⟨#[32,32]⟩:ByteArray) V)):=by rw[<-hV,<-hgj]; rfl
   have p3:=wan (zF2 m.items U (j+1) _ hjt) q7;obtain⟨y,hy2⟩:=zX (m.items[j]);rw[hy2]at f2 hr hS3;rw[hS3]at p3;have p2:=wan (zAw _ _) p3;have p1:=wan (zHR _ _) p2;have ci:=hI y hr _ p2;rw[eItem_n]at f2 ci;rw[hV];simp only[ZE,seval,KE]at f2;simp only[ZE,seval,zaw hjt,f1,f2,wal,KE,pX,zPW,zAa];refine EFn.gV [(0,10),(5,5)] (zAv ((⟨#[32,32]⟩:ByteArray)) (V) (p1)) ?_ ?_
   ·simp only[ZE,seval,prO,KE,zPW,zAa]
   rintro V ol new ⟨rfl,rfl,rfl⟩;simp only[ZE,seval,prO,KE,zPW,zAa];refine EFn.gV [(900,10),(905,5),(7777777,7777777)] (ci) ?_ ?_
   ·simp only[ZE,seval,KE,zPW,zAa]
   rintro V ol new ⟨rfl,rfl,rfl⟩;simp only[ZE,seval,KE,zPW,zAa];refine EFn.gV [(0,10),(5,5)] (zAv ((⟨#[59,10]⟩:ByteArray)) (zCB y (wS (⟨#[32,32]⟩:ByteArray) V)) (p3)) ?_ ?_
   ·simp only[ZE,seval,prO,KE,zPW,zAa]
   rintro V ol new ⟨rfl,rfl,rfl⟩;simp only[ZE,seval,prO,KE,zPW,zAa];rw[hS3];exact⟨hjt,by rw[hwj],rfl,rfl⟩
  ·have:j=m.items.length:=by omega
   subst this;simp only[ZE,seval,zaI (wao m.items.length),KE,pX,zPW,zAa];refine EFn.gV [(0,10),(5,5)] (zAv ((⟨#[125,10]⟩:ByteArray)) (zDK m.items m.items.length U) (h2)) ?_ ?_
   ·simp only[ZE,seval,prO,KE,zPW,zAa]
   rintro V ol new ⟨rfl,rfl,rfl⟩;simp only[ZE,seval,prO,KE,zPW,zAa];rw[hS2];exact⟨hlt,by rw[hw],rfl,rfl⟩
 ·have:i=l.length:=by omega
  subst this;obtain⟨W,hW⟩:=zX (zDF l l.length (e0,true));have ht:W.1.size≠0:=by
   obtain⟨n,hn2⟩: ∃n,l.length=n+1:=⟨l.length-1,by omega⟩;rw[hn2]at hW;have:W=zD4 (l.getD n m0) (zDF l n (e0,true)):=hW.symm;rw[this];unfold zD4 wS;simp only[ByteArray.size_append];have:((⟨#[125,10]⟩:ByteArray)).size =2:=rfl;omega
  rw[hW]at h ⊢;have hP:zCl l=if W.2=false\/W.1.size>8000 then(e0,90)else(W.1,0):=by rw[<-hW]; rfl
  obtain⟨x0,hx0,hx1⟩: ∃x0,(if l.length=0 then AV.d (.lit (.pointer none))else .ep 10 1 0 0)=x0/\(x0= .d (.lit (.pointer none))\/x0= .ep 10 1 0 0):=by
   by_cases hz:l.length=0
   ·exact⟨_,rfl,.inl (by rw[if_pos hz])⟩
   ·exact⟨_,rfl,.inr (by rw[if_neg hz])⟩
  rw[hx0];obtain⟨t,ok⟩:=W;cases ok with
  | false=>
   rw[if_pos (.inl rfl)]at hP;simp only[ZE,seval,zaI (wao l.length),KE,pX,hP,zPW,zAa];refine⟨[5,10,1999],[],?_⟩;simp only[ZE,seval,zHH,zht,AV.core,zPW,zAa,prO];rfl
  | true=>
   obtain⟨y0,hy,hxy⟩: ∃y0,(y0=AV.d (.lit (.pointer none))\/y0= .ep 0 1 0 0)/\((x0= .d (.lit (.pointer none))/\y0= .d (.lit (.pointer none)))\/(x0= .ep 10 1 0 0/\y0= .ep 0 1 0 0)):=by
    rcases hx1 with h | h
    ·exact⟨_,.inl rfl,.inl ⟨h,rfl⟩⟩
    ·exact⟨_,.inr rfl,.inr ⟨h,rfl⟩⟩
   clear hx0;have hren:AV.ren [(0,10),(5,5)] y0=x0:=by rcases hxy with⟨rfl,rfl⟩ | ⟨rfl,rfl⟩ <;> rfl
   have cl:=len_w y0 hy (zAr t) true;rw[zAd]at cl;simp only[ZE,seval,zaI (wao l.length),KE,pX,zPW,zAa];refine EFn.gV [(0,10),(5,5)] cl ?_ ?_
   ·rcases hxy with⟨rfl,rfl⟩ | ⟨rfl,rfl⟩
    ·simp only[ZE,seval,prO,KE,zPW,zAa]
    ·simp only[ZE,seval,prO,KE,zPW,zAa]
   rintro V ol new ⟨rfl,rfl,rfl⟩;by_cases h8:t.size>8000
   ·rw[if_pos (.inr h8)]at hP;have g8:decide ((t.size:Int)>8000)=true:=(by simp; omega);simp only[ZE,seval,prO,hP,g8,hren,KE,zPW,zAa];refine⟨[5,10,1999],[],?_⟩;simp only[ZE,seval,zHH,zht,AV.core,zPW,zAa,prO];rfl
   ·rw[if_neg (by simp; omega)]at hP;have g8:decide ((t.size:Int)>8000)=false:=(by simp; omega);simp only[ZE,seval,prO,hP,g8,hren,KE,zPW,zAa];refine EFn.gV [(0,10),(5,5)] (str_own y0 t ht true) ?_ ?_
    ·rcases hxy with⟨rfl,rfl⟩ | ⟨rfl,rfl⟩
     ·simp only[ZE,seval,prO,KE,zPW,zAa]
     ·simp only[ZE,seval,prO,KE,zPW,zAa]
    rintro V ol new ⟨rfl,rfl,rfl⟩;simp only[ZE,seval,prO,KE,zPW,zAa];refine⟨[1999],[],?_⟩;simp only[ZE,seval,zHH,zht,AV.core,zPW,zAa,prO]
set_option maxRecDepth 1000000
set_option maxHeartbeats 2000000
theorem strN_w(w:World)(b:Nat)(cur:Array Value)(hb:w.heap[b]? =some (.cells cur 161 (0,0)))(h1:cur[1]? =some (.slice none 0 0)):
  Calls prog 92 #[.pointer (some ⟨b,0,none⟩)] w fun e w'=>e= .returned (.string ⟨#[]⟩)/\w'=w.drew:=by
 have c1:w.drew.cell? ⟨b,1,none⟩=some (.slice none 0 0):=by
  have:w.drew.heap[b]? =some (.cells cur 161 (0,0)):=hb;rw[Lib.cell_of_heap this]; exact h1
 have hSD:(Builtin.unsafeSliceData_ #[54] 233 #[.slice none 0 0]).run prog w.drew= .ok (.pointer none) w.drew:=rfl;have hUS:(Builtin.unsafeString_ #[233,3] 9 #[.pointer none,.int .i64 0]).run prog w.drew= .ok (.string .empty) w.drew:=Lib.run_unsafeString_none w.drew _ _ _ _;have zat:=zat
 go_enter func92,ntmps92
 go_wp2
 go_region_o
 all_goals (go_wp2; go_ret; exact⟨rfl,rfl⟩)
theorem strN_own(x0 ok:AV):
  FnL prog 92 [.ep 0 1 0 0] [(0,.arr 161 3 (.deep [] [(0,x0),(1,.nils),(2,ok)]) [[.lit undef,.lit undef,.lit undef]])] (fun V ol new=>V= .d (.lit (.string ⟨#[]⟩))/\ol=[]/\new=[]):=by
 refine⟨fun W bs=>zHT bs W,?_⟩;intro W F O0 η S vs hm hO0 hr;obtain⟨O,hO⟩:=zX (om [(0,AO.arr 161 3 (.deep [] [(0,x0),(1,.nils),(2,ok)]) [[.lit undef,.lit undef,.lit undef]])]);rw[hO]at hm hr ⊢;have hO1:O 0=some (.arr 161 3 (.deep [] [(0,x0),(1,.nils),(2,ok)]) [[.lit undef,.lit undef,.lit undef]]):=by rw[<-hO]; simp[om]
 simp only[zaN,zaL]at hr;obtain⟨v0,_,rfl,hv0,rfl⟩:=hr;obtain⟨g0,len,cap0,hη,rfl⟩:=(hv0 _ _ _ _ hO1).2 rfl;obtain⟨d,hd⟩:=zD8 hm hO1 (i:=0) (j:=1) (by simp) (by decide);obtain⟨b,capb,cur,u,sa,s1,sb,q1,q2,q3,q4,q5,q6,q7,_⟩:=zwA hm hO1 (i:=0) (j:=1) (by simp) (by decide) hd;rw[q1]at hη;simp only[Value.slice.injEq,Option.some.injEq,Addr.mk.injEq,and_true]at hη;obtain⟨rfl,_,_⟩:=hη;simp only[Nat.zero_mul,Nat.zero_add,Nat.add_zero]at q4 q7 ⊢;unfold znF at q7;simp only[List.lookup,show((1:Nat)==0)=false from rfl,show((1:Nat)==1)=true from rfl]at q7;obtain⟨q7,_⟩:=q7;simp only[zaL]at q7;subst q7;refine(strN_w W b cur q2 q4).mono ?_;rintro e W' ⟨rfl,rfl⟩;refine⟨_,_,_,[],F,η,fun _=>[],rfl,⟨[],rfl,rfl,rfl,rfl⟩,(fun i hi=>by cases hi),?_,?_,?_⟩
 ·refine⟨rfl,rfl,rfl,wao _,fun _ _ _=>rfl,fun b h=>h,fun b h=>hm.flt b h,hm.fold,?_,fun _ _=>rfl,?_,?_,fun _=>List.nodup_nil,?_,?_,?_⟩
  ·intro id o ho; simp[om]at ho
  ·intro id b hb; simp at hb
  ·intro id id' b hb; simp at hb
  ·intro p hp; simp at hp
  ·intro id lim fam stop l rest ho; simp[om]at ho
  ·intro D hD; simp at hD
 ·rfl
 ·intro j o ho; simp[om]at ho
set_option maxRecDepth 100000
set_option maxHeartbeats 4000000
def prN(x:AV):AO:=.arr 161 3 (.deep [] [(0,x),(1,.nils),(2,.d (eB true))]) [[.lit undef,.lit undef,.lit undef]]
theorem lenN_w:FnL prog 91 [.ep 0 1 0 0] [(0,prN (.d (.lit (.pointer none))))] (fun V ol new=>V= .d (eI 0)/\ol=[(0,prN (.d (.lit (.pointer none))))]/\new=[]):=by
 refine FnL.srt (FnL.of_eH 1999 [.ar 0 1] (own:=[]) (fun _=>[]) [] zat func91 rfl call91 ntmps91 (zle rfl) results91 (by simp[prN,zyk,AO.noRef,AV.noRefs,AV.noRef,zCV,om]) (fun gs=> ?_));simp only[ZE,seval,prN];refine⟨[1999],[],?_⟩;simp only[ZE,seval,zHH,zht,AV.core]
theorem print0_g(Z:GP):
  FnL prog 58 [.d (.agg [zax []])] [(7777777,Z.o)] (fun V ol new=>V= .tup [.d (eSb e0),.d (eI 0)]/\ol=[(7777777,Z.o)]/\new=[]):=by
 refine FnL.srt (FnL.of_eH 1999 [] (own:=[(10,[])]) (fun i=>if i=2020 then []else chL i) [] zat func58 rfl call58 ntmps58 (zle rfl) results58 (zCw Z _ (by simp[AV.noRefs,AV.noRef])) (fun gs=> ?_));have hl:=lenN_w;have hs:=strN_own (.d (.lit (.pointer none))) (.d (eB true));simp only[ZE,seval,KE,wac,List.length_nil,GZ];refine za1 (fun i=>if i=2020 then []else chL i) zat 0 (fun _=>True) (fun i=>([(2,.d (.lit (.string e0))),(3,.d (eI 0)),(4,.ep 10 1 0 0),(12,.d (.sl [])),(13,.d (eI 0)),(14,.d (eI i))],[(10,prN (.d (.lit (.pointer none)))),(1999,.gh [] gs),(7777777,Z.o)])) trivial ?_ ?_ (fun i hi _=> ?_)
 ·simp only[ZE,seval,KE,e0]
 ·simp only[ZE,seval,KE,prN,GZ]
 have:i=0:=by omega
 subst this;simp only[ZE,seval,prN,KE,GZ];refine EFn.gV [(0,10)] hl ?_ ?_
 ·simp only[ZE,seval,prN,KE]
 rintro V ol new ⟨rfl,rfl,rfl⟩;simp only[ZE,seval,prN,KE,GZ];refine EFn.gV [(0,10)] hs ?_ ?_
 ·simp only[ZE,seval,prN,KE]
 rintro V ol new ⟨rfl,rfl,rfl⟩;simp only[ZE,seval,prN,KE,GZ];refine⟨[1999],[],?_⟩;simp only[ZE,seval,zHH,zht,AV.core];rfl
theorem print_w(Z:GP)(hZ:Z.Ok)(l:List Module)(hl: ∀m∈l,modR itemR m)(hn:l.length<=1000000)(h:(zDF l l.length (e0,true)).1.size <=LIM):
  FnL prog 58 [.d (.agg [zax l])] [(7777777,Z.o)] (fun V ol new=>V= .tup [.d (eSb (zCl l).1),.d (eI (zCl l).2)]/\ol=[(7777777,Z.o)]/\new=[]):=by
 by_cases hne:l.length=0
 ·have:l=[]:=List.length_eq_zero_iff.1 hne;subst this;exact print0_g Z
 ·exact print_g Z hZ itemR (fun x hx w hw=>item_w Z hZ x hx w hw) l hne hl hn h
set_option maxHeartbeats 1000000
structure WfT (T:List Tok):Prop where
 w1: ∀a,(tk T a).1 =1->zAC (tk T a).2.1 =1/\(tk T a).2.1.data.toList.all isW=true
 w2: ∀a,(tk T a).1 =2->zAC (tk T a).2.1 =2/\(tk T a).2.1.data.toList.all isW=true
section
variable {T:List Tok} {a b:Nat}
def InvE(T:List Tok)(fit:Expr->Bool)(pc:Expr->List Pc)(r:Nat->PR Expr):Prop:= ∀a e b,r a= .ok (e,b)->fit e=true/\At T a (pc e)/\b=a+nT (pc e)
theorem opOf_ne{s:Bts}(h:zGx s≠0): ∃p∈opL,p.1=s/\zGx s=p.2:=by
 have key: ∀(l:List (Bts×Nat)),(l.lookup s).getD 0≠0-> ∃p∈l,p.1=s/\(l.lookup s).getD 0=p.2:=by
  intro l
  induction l with
  | nil=>intro h; exact absurd rfl h
  | cons p l ih=>
   intro h;obtain⟨x,v⟩:=p;rw[List.lookup_cons]at h ⊢;by_cases hx:s=x
   ·subst hx;have h1:(s==s)=true:=(by rw[zDo]; simp);rw[h1]at h ⊢;exact⟨(s,v),by simp,rfl,rfl⟩
   ·have h1:(s==x)=false:=(by rw[zDo]; simpa using hx);rw[h1]at h ⊢;obtain⟨p,hp,h2⟩:=ih h;exact⟨p,by simp[hp],h2⟩
 exact key opL h
end
section
variable {T:List Tok} {a b:Nat} (hW:WfT T)
include hW
end
section
variable {T:List Tok} {a b:Nat} (hW:WfT T)
include hW
def InvI(T:List Tok)(k:Nat)(a:Nat)(x:Item)(b:Nat):Prop:=
 zAW x=true/\(tkP T a 1 (kwL.getD (k-1) e0)->At T a (zAV x))/\b=a+nT (zAV x)
end
def goodT(t:Tok):Prop:=(t.1=1\/t.1=2\/t.1=3)/\0<t.2.1.size/\(t.1=3\/(zAC t.2.1=t.1/\t.2.1.data.toList.all isW=true))
def zI1:List Tok->Nat
 | []=>0
 | t::r=>t.2.1.size+zI1 r
theorem zHq: ∀(l m:List Tok),zI1 (l++m)=zI1 l+zI1 m
 | [],m=>by simp[zI1]
 | t::l,m=>by simp only[wai,zI1,zHq l m]; omega
theorem stepL_word{l:List UInt8}{k q:Nat}(h:zCY l=some (k,some q)):q=3\/(l.take k=l.takeWhile isW/\q=zG3 (l.takeWhile isW)):=by
 unfold zCY at h;split at h
 ·cases h
 ·rename_i c r;split at h
  ·cases h
  split at h
  ·cases h
  split at h
  ·cases h;refine .inr ⟨?_,rfl⟩;exact(List.prefix_iff_eq_take.1 (List.takeWhile_prefix isW)).symm
  split at h
  ·cases h; exact .inl rfl
  split at h
  ·cases h; exact .inl rfl
  ·cases h
theorem zIl: ∀(n:Nat) (l:List UInt8) (a:Nat) (T0 T:List Tok),lxL n l a T0= .ok T->(∀t∈T0,goodT t)->
  ∃T1 e,T=T1++[(4,e0,e)]/\zI1 T1<=zI1 T0+l.length/\ ∀t∈T1,goodT t
 | 0,l,a,T0,T,h,h0=>by
  simp only[lxL,Except.ok.injEq]at h;subst h;exact⟨T0,a,rfl,by omega,h0⟩
 | n+1,l,a,T0,T,h,h0=>by
  unfold lxL at h;split at h
  ·simp only[Except.ok.injEq]at h;subst h;exact⟨T0,a,rfl,by omega,h0⟩
  ·split at h
   ·cases h
   ·rename_i k hst;have hk:=zC8 hst;obtain⟨T1,e,e1,e2,e3⟩:=zIl n (l.drop k) (a+k) T0 T h h0;exact⟨T1,e,e1,by rw[List.length_drop]at e2; omega,e3⟩
   ·rename_i k q hst;have hk:=zC8 hst;have hq:=zF4 hst;have hz:(⟨(l.take k).toArray⟩:ByteArray).size =k:=by
     show(l.take k).toArray.size =k;rw[List.size_toArray,List.length_take]; omega
    obtain⟨T1,e,e1,e2,e3⟩:=zIl n (l.drop k) (a+k) _ T h (fun t ht=>by
     rw[List.mem_append,List.mem_singleton]at ht;rcases ht with ht | rfl
     ·exact h0 t ht
     ·refine⟨hq,by show 0<(⟨(l.take k).toArray⟩:ByteArray).size; omega,?_⟩;rcases stepL_word hst with hw | ⟨hw,hw2⟩
      ·exact .inl hw
      ·refine .inr ⟨?_,?_⟩
       ·show zAC ⟨(l.take k).toArray⟩=q;rw[hw,hw2]; rfl
       ·show(l.take k).all isW=true;rw[hw]; exact List.all_takeWhile)
    refine⟨T1,e,e1,?_,e3⟩;rw[zHq,List.length_drop]at e2;simp only[zI1,hz]at e2;omega
theorem zFe{s:Bts}{T:List Tok}(h:zEW s= .ok T): ∃T1 e,T=T1++[(4,e0,e)]/\zI1 T1<=s.size/\ ∀t∈T1,goodT t:=by
 unfold zEW at h;rw[zCO _ _ _ _ (Nat.zero_le _),List.drop_zero]at h;have hz:s.data.toList.length=s.size:=by rw[Array.length_toList]; rfl
 obtain⟨T1,e,h1,h2,h3⟩:=zIl _ _ _ _ _ h (by simp);rw[hz]at h2;simp only[zI1,Nat.zero_add]at h2;exact⟨T1,e,h1,h2,h3⟩
theorem tk_app{T1:List Tok}{e:Tok}(a:Nat):(a<T1.length/\tk (T1++[e]) a∈T1)\/(a=T1.length/\tk (T1++[e]) a=e)\/(T1.length<a/\tk (T1++[e]) a=(0,e0,0)):=by
 unfold tk;rcases Nat.lt_trichotomy a T1.length with h | h | h
 ·left;refine⟨h,?_⟩;rw[List.getD,List.getElem?_append_left h,waj h];exact wag h
 ·right; left;subst h;refine⟨rfl,?_⟩;rw[List.getD,List.getElem?_append_right (wao _),Nat.sub_self];rfl
 ·right; right;refine⟨h,?_⟩;rw[List.getD,List.getElem?_eq_none (by rw[wab,List.length_singleton]; omega)];rfl
def nB:List Pc->Nat
 | []=>0
 | p::r=>if p.1=0 then p.2.size+nB r else nB r
def nW:List Pc->Nat
 | []=>0
 | p::r=>if p.1=0 then nW r else p.2.size+nW r
def few(p:List Pc):Prop:=nB p<=2*nT p
theorem zGG: ∀ {T:List Tok},(∀t∈T,goodT t)->T.length<=zI1 T
 | [],_=>Nat.zero_le _
 | t::r,h=>by
  have h1:=zGG (T:=r) (fun u hu=>h u (by simp[hu]));have h2:=(h t (by simp)).2.1;simp only[wad,zI1]; omega
set_option maxHeartbeats 4000000
def zFV(s:Bts):D:=.agg [zax (zAQ s).1,eI (zAQ s).2.1,eI (zAQ s).2.2]
theorem zC5(Z:GP)(hZ:Z.Ok)(s:Bts)(hs:s.size<=900000):
  FnL prog 22 [.d (.lit (.string s))] [(7777777,Z.o)] (fun V ol new=>V= .d (zFV s)/\ol=[(7777777,Z.o)]/\new=[]):=by
 have hp:=parse_g Z hZ s hs;refine FnL.srt (FnL.of_eH 1999 [] (own:=[]) chL [] zat func22 rfl call22 ntmps22 (zle rfl) results22 (zCw Z _ (by simp[AV.noRefs,AV.noRef])) (fun gs=> ?_));simp only[ZE,seval,KE,zHb.eq_1]at hp;simp only[ZE,seval,KE,GZ];refine EFn.gV [(7777777,7777777)] hp ?_ ?_
 ·simp only[ZE,seval,GZ]
 rintro V ol new ⟨rfl,rfl,rfl⟩;simp only[ZE,seval,KE,GZ];refine⟨[2,3,1999],[],?_⟩;simp only[ZE,seval,zHH,zht,AV.core,zFV.eq_1,KE]
theorem zI5(Z:GP)(s:Bts)(h8:s.size<=8000)(T1:List Tok)(e:Nat)(hn:T1.length<=8000)(hL:zEW s= .ok (T1++[(4,e0,e)])):
  FnL prog 19 [.d (.lit (.string s))] [(7777777,Z.o)] (fun V ol new=>V= .d (zAc (T1++[(4,e0,e)]))/\ol=[(7777777,Z.o)]/\new=[]):=by
 have hl:=lex_g Z s (by omega);have hV:lexV s= .tup [.d (zAc (T1++[(4,e0,e)])),.d (eI 0),.d (eI 0)]:=by unfold lexV; rw[if_neg (by omega),hL]; rfl
 rw[hV]at hl;obtain⟨T,hT⟩:=zX (T1++[(4,e0,e)]);have hlen:T.length=T1.length+1:=by rw[<-hT]; simp
 have hg:(T.map zJb).getD T1.length []=[eI 4,eSb e0,eI e]:=by rw[<-hT]; simp[List.getD,zJb]; rfl
 rw[hT]at hl ⊢;refine FnL.srt (FnL.of_eH 1999 [] (own:=[]) chL [] zat func19 rfl call19 ntmps19 (zle rfl) results19 (zCw Z _ (by simp[AV.noRefs,AV.noRef])) (fun gs=> ?_));simp only[ZE,seval,KE,zAc.eq_1]at hl;simp only[ZE,seval,KE]at hg;simp only[ZE,seval,KE,GZ];refine EFn.gV [(7777777,7777777)] hl ?_ ?_
 ·simp only[ZE,seval,GZ]
 rintro V ol new ⟨rfl,rfl,rfl⟩;have f1:((T.length:Int)==0)=false:=beq_eq_false_iff_ne.2 (by omega);have f2:IntKind.i64.wrap ((T.length:Int)-1)=T1.length:=by rw[hlen,show((T1.length+1:Nat):Int)-1=T1.length by omega]; exact zaQ (by omega) (by omega)
 have f3:(0<=(T1.length:Int)/\(T1.length:Int)<(T.length:Int))=True:=by simp; omega
 simp only[ZE,seval,KE,↓zA7,↓zA8,↓zA9,zBN.eq_1,zBI.eq_1,f1,f2,f3,hg,wal,waa,GZ];refine⟨[1999],[],?_⟩;simp only[ZE,seval,zHH,zht,AV.core,KE,zAc.eq_1]
theorem zHk(l:List Module)(n m:Int):FnP prog 21 [.agg [zax l,eI n,eI m],.agg [zax l,eI n,eI m]] (.d (eB true)) []:=by
 have hs:=same_r l;simp only[ZE,seval,KE]at hs;refine FnP.of_eC (own:=[]) chL zat func21 rfl call21 ntmps21 (zle rfl) results21 (fun hok=> ?_);simp only[ZE,seval,KE,↓zA7,↓zA8,↓zA9,zBN.eq_1,zBI.eq_1,bne_self_eq_false,beq_self_eq_true,decide_true];refine za3.i (fun _=>hs) ?_;simp only[ZE,seval,KE,↓zA7,↓zA8,↓zA9,zBN.eq_1,zBI.eq_1,bne_self_eq_false,beq_self_eq_true,decide_true]
theorem zHf(Z:GP)(hZ:Z.Ok)(l:List Module)(hl: ∀m∈l,modR itemR m)(hn:l.length<=1000000)(h:(zDF l l.length (e0,true)).1.size <=LIM):
  FnL prog 24 [.d (.agg [zax l])] [(7777777,Z.o)] (fun V ol new=>V= .d (.agg [eSb (zCl l).1,eI (zCl l).2])/\ol=[(7777777,Z.o)]/\new=[]):=by
 have hp:=print_w Z hZ l hl hn h;obtain⟨P,hP⟩:=zX (zCl l);rw[hP]at hp ⊢;refine FnL.srt (FnL.of_eH 1999 [] (own:=[]) chL [] zat func24 rfl call24 ntmps24 (zle rfl) results24 (zCw Z _ (by simp[AV.noRefs,AV.noRef])) (fun gs=> ?_));simp only[ZE,seval,KE]at hp;simp only[ZE,seval,KE,GZ];refine EFn.gV [(7777777,7777777)] hp ?_ ?_
 ·simp only[ZE,seval,GZ]
 rintro V ol new ⟨rfl,rfl,rfl⟩;simp only[ZE,seval,KE,GZ];refine⟨[1,2,1999],[],?_⟩;simp only[ZE,seval,zHH,zht,AV.core,KE]
theorem zIt{x:Num}(h:zAX x=true)(hs:(pcB (zAD x)).size <=1000000):zHN x:=by
 obtain⟨n,p⟩:=x;unfold zAX at h;by_cases hp:p=e0
 ·rw[if_pos hp]at h;simp only[zCf,wap,decide_eq_true_eq]at h;refine⟨by simp only; omega,?_⟩;show p.size<=1000000;rw[hp]; exact Nat.zero_le _
 ·rw[if_neg hp]at h;simp only[wap,decide_eq_true_eq]at h;refine⟨by simp only; omega,?_⟩;unfold zAD at hs;rw[if_neg hp]at hs;show p.size<=1000000;split at hs
  ·simp only[pcB,nm,ByteArray.size_append]at hs; omega
  ·split at hs
   ·simp only[pcB,nm,ByteArray.size_append]at hs; omega
   ·simp only[pcB,nm,ByteArray.size_append]at hs; omega
theorem in64_0:(-9223372036854775808:Int)<=0/\(0:Int)<=9223372036854775807:=by decide
theorem rule_r{x:Rule}(h:zBZ x=true)(hs:(pcB (zBk x)).size <=1000000):ruleR x:=by
 obtain⟨k,f,n⟩:=x;unfold zBZ at h;simp only[wap,Bool.or_eq_true,decide_eq_true_eq]at h;obtain⟨⟨h1,h2⟩,h3⟩:=h;by_cases k0:k=0
 ·have hf:f=e0:=by rcases h1 with h | h; exact h; omega
  have hn:n=0:=by rcases h2 with h | h; exact h; omega
  subst hf hn;exact⟨in64_0,Nat.zero_le _⟩
 by_cases k1:k=1
 ·have hf:f=e0:=by rcases h1 with h | h; exact h; omega
  have hn:n=0:=by rcases h2 with h | h; exact h; omega
  subst hf hn;exact⟨in64_0,Nat.zero_le _⟩
 by_cases k2:k=2
 ·have hn:n=0:=by rcases h2 with h | h; exact h; omega
  subst hn k2;change (pcB [nm (⟨#[99,111,112,121]⟩:ByteArray),bl,nm f]).size <=_ at hs;simp only[pcB,nm,ByteArray.size_append]at hs;exact⟨in64_0,by show f.size<=1000000; omega⟩
 by_cases k3:k=3
 ·subst k3;rw[if_neg k0,if_neg k1,if_neg k2,if_pos rfl]at h3;simp only[zCf,wap,decide_eq_true_eq]at h3;change (pcB [nm (⟨#[97,100,100]⟩:ByteArray),bl,nm f,bl,nu n]).size <=_ at hs;simp only[pcB,nm,ByteArray.size_append]at hs;exact⟨by show-9223372036854775808<=n/\n<=9223372036854775807; omega,by show f.size<=1000000; omega⟩
 ·rw[if_neg k0,if_neg k1,if_neg k2,if_neg k3]at h3;exact absurd h3 (by decide)
set_option maxHeartbeats 1000000
theorem zFs:zHN n0:=⟨in64_0,Nat.zero_le _⟩
theorem zE3: ∀(d:Nat) (e:Expr),zAB d e=true->(pcB (zAA d e)).size <=1000000->zDp d e
 | 0,e,h,_=>by simp[zAB]at h
 | d+1,e,h,hs=>by
  simp only[zAB,wap,decide_eq_true_eq]at h;obtain⟨ha,hz,hf⟩:=h;obtain⟨z1,z2,z3⟩:=zeroX_eq hz;have ih:=zE3 d;change (pcB (zDn (zAA d) e)).size <=_ at hs;have key: ∀(l:List Expr),e.args=l->l.length<=3->(∀x∈l,zDp d x)->zHN e.k->zHN e.w->e.name.size<=1000000->zDp (d+1) e:=by
   intro l hl hn hx hk hw hnm;exact⟨⟨hk,hw,hnm,by rw[hl]; omega⟩,by rw[hl]; exact hx⟩
  have nm0:e.op≠14->e.op≠15->e.name.size<=1000000:=fun a b=>by rw[z1 a b]; exact Nat.zero_le _
  have k0:e.op≠1->e.op≠12->zHN e.k:=fun a b=>by rw[z2 a b]; exact zFs
  have w0:e.op≠1->e.op≠12->e.op≠13->zHN e.w:=fun a b c=>by rw[z3 a b c]; exact zFs
  unfold zCj at hf;unfold zDn at hs;by_cases h1:e.op=1
  ·rw[if_pos h1]at hf hs;simp only[wap]at hf;simp only[wai,wah,pcB,zAx,ByteArray.size_append]at hs;have hl:e.args=[]:=List.length_eq_zero_iff.1 (by rw[h1]at ha; exact Int.ofNat.inj ha);exact key [] hl (by decide) (by simp) (zIt hf.1 (by omega)) (zIt hf.2 (by omega)) (nm0 (by omega) (by omega))
  rw[if_neg h1]at hf hs;by_cases h2:e.op=14
  ·rw[if_pos h2]at hs;simp only[pcB,nm,ByteArray.size_append]at hs;have hl:e.args=[]:=List.length_eq_zero_iff.1 (by rw[h2]at ha; exact Int.ofNat.inj ha);exact key [] hl (by decide) (by simp) (k0 h1 (by omega)) (w0 h1 (by omega) (by omega)) (by omega)
  rw[if_neg h2]at hf hs;by_cases h3:e.op=15
  ·rw[if_pos h3]at hf hs;simp only[wap]at hf;simp only[wai,wah,pcB,zAx,nm,ByteArray.size_append]at hs;have hl:=len_1 (z:=x0) (l:=e.args) (by rw[h3]at ha; exact ha);refine key _ hl (by simp) (fun x hx=> ?_) (k0 h1 (by omega)) (w0 h1 (by omega) (by omega)) (by omega);rw[List.mem_singleton]at hx;subst hx;exact ih _ hf.2 (by omega)
  rw[if_neg h3]at hf hs;by_cases h4:e.op=2
  ·rw[if_pos h4]at hf hs;simp only[pcB,ByteArray.size_append]at hs;have hl:=len_1 (z:=x0) (l:=e.args) (by rw[h4]at ha; exact ha);refine key _ hl (by simp) (fun x hx=> ?_) (k0 h1 (by omega)) (w0 h1 (by omega) (by omega)) (nm0 h2 h3);rw[List.mem_singleton]at hx;subst hx;exact ih _ hf (by omega)
  rw[if_neg h4]at hf hs;by_cases h5:e.op=10
  ·rw[if_pos h5]at hf hs;simp only[wap]at hf;simp only[wai,wah,pcB,zAx,ByteArray.size_append]at hs;have hl:=len_3 (z:=x0) (l:=e.args) (by rw[h5]at ha; exact ha);refine key _ hl (by simp) (fun x hx=> ?_) (k0 h1 (by omega)) (w0 h1 (by omega) (by omega)) (nm0 h2 h3);simp only[List.mem_cons,List.not_mem_nil,or_false]at hx;rcases hx with rfl | rfl | rfl
   ·exact ih _ hf.1 (by omega)
   ·exact ih _ hf.2.1 (by omega)
   ·exact ih _ hf.2.2 (by omega)
  rw[if_neg h5]at hf hs;by_cases h6:e.op=12
  ·rw[if_pos h6]at hf hs;simp only[wap]at hf;simp only[wai,wah,pcB,zAx,ByteArray.size_append]at hs;have hl:=len_1 (z:=x0) (l:=e.args) (by rw[h6]at ha; exact ha);refine key _ hl (by simp) (fun x hx=> ?_) (zIt hf.2.1 (by omega)) (zIt hf.2.2 (by omega)) (nm0 h2 h3);rw[List.mem_singleton]at hx;subst hx;exact ih _ hf.1 (by omega)
  rw[if_neg h6]at hf hs;by_cases h7:e.op=13
  ·rw[if_pos h7]at hf hs;simp only[wap]at hf;simp only[wai,wah,pcB,zAx,ByteArray.size_append]at hs;have hl:=len_1 (z:=x0) (l:=e.args) (by rw[h7]at ha; exact ha);refine key _ hl (by simp) (fun x hx=> ?_) (k0 h1 h6) (zIt hf.2 (by omega)) (nm0 h2 h3);rw[List.mem_singleton]at hx;subst hx;exact ih _ hf.1 (by omega)
  rw[if_neg h7]at hf hs;simp only[wap]at hf;simp only[wai,wah,pcB,zAx,ByteArray.size_append]at hs;have hsg:=zHB ha h1 h2 h3 h4 h5 h6 h7;have ha2:(e.args.length:Int)=2:=by
   rw[ha]; unfold zBi;rw[if_neg (by omega),if_neg (by omega),if_neg h5,if_pos hsg]
  have hl:=len_2 (z:=x0) (l:=e.args) ha2;refine key _ hl (by simp) (fun x hx=> ?_) (k0 h1 h6) (w0 h1 h6 h7) (nm0 h2 h3);simp only[List.mem_cons,List.not_mem_nil,or_false]at hx;rcases hx with rfl | rfl
  ·exact ih _ hf.1 (by omega)
  ·exact ih _ hf.2 (by omega)
theorem exprR_0: ∀d,zDp d x0
 | 0=>⟨zFs,zFs,Nat.zero_le _,Nat.zero_le _⟩
 | d+1=>⟨⟨zFs,zFs,Nat.zero_le _,Nat.zero_le _⟩,fun x hx=>by simp[x0,Expr.args]at hx⟩
theorem ruleR_0:ruleR r0:=⟨in64_0,Nat.zero_le _⟩
theorem els_mem{α:Type}(pc:α->List Pc): ∀(l:List α) (x:α),x∈l->(pcB (pc x)).size <=(pcB (zBU pc l)).size
 | [],x,h=>by cases h
 | [y],x,h=>by
  rw[List.mem_singleton]at h;subst h;exact wao _
 | y::z::r,x,h=>by
  have ih:=els_mem pc (z::r) x;unfold zBU;simp only[pcB,zAx,ByteArray.size_append];rcases List.mem_cons.1 h with rfl | h
  ·omega
  ·have:=ih h; omega
theorem zIj{α:Type}(pc:α->List Pc)(l:List α)(x:α)(h:x∈l):(pcB (pc x)).size <=(pcB (zA5 pc l)).size :=by
 have:=els_mem pc l x h;unfold zA5;simp only[pcB,zAx,ByteArray.size_append];omega
theorem els_len{α:Type}(pc:α->List Pc): ∀(l:List α),l.length<=(pcB (zBU pc l)).size +1
 | []=>Nat.zero_le _
 | [y]=>by simp
 | y::z::r=>by
  have ih:=els_len pc (z::r);unfold zBU;have e1:(sg (⟨#[44]⟩:ByteArray)).2.size =1:=rfl;simp only[pcB,zAx,ByteArray.size_append,wad,e1]at ih ⊢;omega
theorem zIi{α:Type}(pc:α->List Pc)(l:List α):l.length<=(pcB (zA5 pc l)).size :=by
 have:=els_len pc l;have e1:(sg (⟨#[40]⟩:ByteArray)).2.size =1:=rfl;unfold zA5;simp only[pcB,zAx,ByteArray.size_append,e1];omega
theorem item_r{x:Item}(h:zAW x=true)(hs:(pcB (zAV x)).size <=1000000):itemR x:=by
 simp only[zAW,wap,decide_eq_true_eq]at h;obtain⟨⟨hk1,hk2⟩,hz,hn,hw,hd,hb⟩:=h;obtain⟨z1,z2,z3,z4,z5,z6,z7,z8⟩:=zeroI_eq hz;simp only[zAV,wai,wah,pcB,zAx,nm,ByteArray.size_append]at hs;have hW:(pcB (zDL x)).size <=1000000:=by omega
 have hD:(pcB (zDx x)).size <=1000000:=by omega
 have hB:(pcB (zB7 x)).size <=1000000:=by omega
 have rw':zHN x.width:=by
  by_cases c:x.kind<=6
  ·rw[if_pos c]at hw;unfold zDL at hW;rw[if_pos c]at hW;simp only[wai,wah,pcB,zAx,ByteArray.size_append]at hW;exact zIt hw (by omega)
  ·rw[z1 (by omega)]; exact zFs
 have rd':zHN x.depth:=by
  by_cases c:x.kind=3\/x.kind=6
  ·rw[if_pos c]at hd;unfold zDx at hD;rw[if_pos c]at hD;simp only[wai,wah,pcB,zAx,ByteArray.size_append]at hD;exact zIt hd (by omega)
  ·rw[z2 (by omega) (by omega)]; exact zFs
 have base:zHN x.init->zDp 8 x.a->zDp 8 x.b->zDp 8 x.c->ruleR x.rule->x.of.size<=1000000->((∀y∈x.args,zHN y)/\x.args.length<=1000000)->((∀y∈x.ports,bindR y)/\x.ports.length<=1000000)->itemR x:=
  fun i a b c r o l p=>⟨⟨by omega,by omega⟩,by omega,rw',rd',i,a,b,c,r,o,l,p⟩
 have i0:x.kind≠4->zHN x.init:=fun k=>by rw[z3 k]; exact zFs
 have a0:x.kind<4\/x.kind=9->zDp 8 x.a:=fun k=>by rw[z4 k]; exact exprR_0 8
 have b0':x.kind≠6->x.kind≠8->zDp 8 x.b:=fun k k'=>by rw[z5 k k']; exact exprR_0 8
 have c0:x.kind≠6->zDp 8 x.c:=fun k=>by rw[z6 k]; exact exprR_0 8
 have r0':x.kind≠4->x.kind≠6->ruleR x.rule:=fun k k'=>by rw[z7 k k']; exact ruleR_0
 have o0:x.kind≠9->x.of.size<=1000000:=fun k=>by rw[(z8 k).1]; exact Nat.zero_le _
 have l0:x.kind≠9->((∀y∈x.args,zHN y)/\x.args.length<=1000000):=fun k=>by rw[(z8 k).2.1]; exact⟨by simp,by simp⟩
 have p0:x.kind≠9->((∀y∈x.ports,bindR y)/\x.ports.length<=1000000):=fun k=>by rw[(z8 k).2.2]; exact⟨by simp,by simp⟩
 unfold zBB at hb;unfold zB7 at hB;by_cases k4:x.kind=4
 ·rw[if_pos k4]at hb hB
  try simp only[wap]at hb
  simp only[wai,wah,pcB,zAx,nm,ByteArray.size_append]at hB;exact base (zIt hb.1 (by omega)) (zE3 8 _ hb.2.1 (by omega)) (b0' (by omega) (by omega)) (c0 (by omega)) (rule_r hb.2.2 (by omega)) (o0 (by omega)) (l0 (by omega)) (p0 (by omega))
 rw[if_neg k4]at hb hB;by_cases k5:x.kind=5
 ·rw[if_pos k5]at hb hB
  try simp only[wap]at hb
  simp only[wai,wah,pcB,zAx,nm,ByteArray.size_append]at hB;exact base (i0 (by omega)) (zE3 8 _ hb (by omega)) (b0' (by omega) (by omega)) (c0 (by omega)) (r0' (by omega) (by omega)) (o0 (by omega)) (l0 (by omega)) (p0 (by omega))
 rw[if_neg k5]at hb hB;by_cases k6:x.kind=6
 ·rw[if_pos k6]at hb hB
  try simp only[wap]at hb
  simp only[wai,wah,pcB,zAx,nm,ByteArray.size_append]at hB;exact base (i0 (by omega)) (zE3 8 _ hb.1 (by omega)) (zE3 8 _ hb.2.1 (by omega)) (zE3 8 _ hb.2.2.1 (by omega)) (rule_r hb.2.2.2 (by omega)) (o0 (by omega)) (l0 (by omega)) (p0 (by omega))
 rw[if_neg k6]at hb hB;by_cases k7:x.kind=7
 ·rw[if_pos k7]at hb hB
  try simp only[wap]at hb
  simp only[wai,wah,pcB,zAx,nm,ByteArray.size_append]at hB;exact base (i0 (by omega)) (zE3 8 _ hb (by omega)) (b0' (by omega) (by omega)) (c0 (by omega)) (r0' (by omega) (by omega)) (o0 (by omega)) (l0 (by omega)) (p0 (by omega))
 rw[if_neg k7]at hb hB;by_cases k8:x.kind=8
 ·rw[if_pos k8]at hb hB
  try simp only[wap]at hb
  simp only[wai,wah,pcB,zAx,nm,ByteArray.size_append]at hB;exact base (i0 (by omega)) (zE3 8 _ hb.1 (by omega)) (zE3 8 _ hb.2 (by omega)) (c0 (by omega)) (r0' (by omega) (by omega)) (o0 (by omega)) (l0 (by omega)) (p0 (by omega))
 rw[if_neg k8]at hb hB;by_cases k9:x.kind=9
 ·rw[if_pos k9]at hb hB;simp only[wap]at hb;simp only[wai,wah,pcB,zAx,nm,ByteArray.size_append]at hB;have ll:=zIi zAD x.args;have lp:=zIi zBz x.ports;refine base (i0 (by omega)) (a0 (by omega)) (b0' (by omega) (by omega)) (c0 (by omega)) (r0' (by omega) (by omega)) (by omega) ⟨fun y hy=> ?_,by omega⟩ ⟨fun y hy=> ?_,by omega⟩
  ·have:=zIj zAD x.args y hy;exact zIt (List.all_eq_true.1 hb.2.1 y hy) (by omega)
  ·have:=zIj zBz x.ports y hy;simp only[zBz,pcB,nm,ByteArray.size_append]at this;exact⟨by omega,by omega⟩
 exact base (i0 k4) (a0 (by omega)) (b0' k6 k8) (c0 k6) (r0' k4 k6) (o0 k9) (l0 k9) (p0 k9)
theorem items_mem: ∀(l:List Item),l.length<=(pcB (zAJ l)).size /\ ∀x∈l,(pcB (zAV x)).size <=(pcB (zAJ l)).size
 | []=>⟨Nat.zero_le _,fun x hx=>by cases hx⟩
 | y::r=>by
  obtain⟨h1,h2⟩:=items_mem r;have e1:bl.2.size=1:=rfl;unfold zAJ;simp only[wai,wah,pcB,zAx,ByteArray.size_append,wad,e1];refine⟨by omega,fun x hx=> ?_⟩;rcases List.mem_cons.1 hx with rfl | hx
  ·omega
  ·have:=h2 x hx; omega
theorem module_r{m:Module}(h:zAG m=true)(hs:(pcB (zAE m)).size <=1000000):modR itemR m:=by
 simp only[zAG,wap]at h;obtain⟨_,_,_,h4⟩:=h;have hp:=zIj zBt m.params;have hpl:=zIi zBt m.params;obtain⟨hi,hj⟩:=items_mem m.items;simp only[zAE,zBQ,wai,wah,pcB,zAx,nm,ByteArray.size_append]at hs;refine⟨by omega,by omega,⟨fun s hs'=> ?_,by omega⟩,⟨fun x hx=> ?_,by omega⟩⟩
 ·have:=hp s hs';simp only[zBt,pcB,nm,ByteArray.size_append]at this;omega
 ·have:=hj x hx;exact item_r (List.all_eq_true.1 h4 x hx) (by omega)
theorem file_mem: ∀(l:List Module),l.length<=(pcB (zAk l)).size /\ ∀x∈l,(pcB (zAE x)).size <=(pcB (zAk l)).size
 | []=>⟨Nat.zero_le _,fun x hx=>by cases hx⟩
 | y::r=>by
  obtain⟨h1,h2⟩:=file_mem r;have e1:bl.2.size=1:=rfl;have e2:1<=(pcB (zAE y)).size :=by
   simp only[zAE,zBQ,wai,wah,pcB,zAx,ByteArray.size_append,e1];omega
  unfold zAk;simp only[zAx,ByteArray.size_append,wad];refine⟨by omega,fun x hx=> ?_⟩;rcases List.mem_cons.1 hx with rfl | hx
  ·omega
  ·have:=h2 x hx; omega
theorem file_r{l:List Module}(h:l.all zAG=true)(hs:(pcB (zAk l)).size <=1000000):(∀m∈l,modR itemR m)/\l.length<=1000000/\(zDF l l.length (e0,true)).1.size <=LIM:=by
 obtain⟨h1,h2⟩:=file_mem l;refine⟨fun m hm=> ?_,by omega,?_⟩
 ·have:=h2 m hm;exact module_r (List.all_eq_true.1 h m hm) (by omega)
 ·have hw:=(wl_mods l l.length (wao _)).ok (by rw[List.take_length]; exact h) e0;rw[List.take_length]at hw;rw[hw];show(e0++pcB (zAk l)).size <=LIM;rw[ByteArray.size_append];have:e0.size=0:=rfl;unfold LIM;omega
set_option maxRecDepth 1000000
def exF:List Module:=[⟨(⟨#[109]⟩:ByteArray),(⟨#[99]⟩:ByteArray),[],[{zBg 1 with name:=(⟨#[97]⟩:ByteArray),width:=⟨3,e0⟩}]⟩]
theorem ex_1:zAQ (⟨#[109,111,100,117,108,101,32,109,40,41,32,64,32,99,32,123,32,105,110,32,97,32,58,32,51,32,59,32,125]⟩:ByteArray)=(exF,0,0):=by kernel_rfl
theorem ex_2:zAQ (⟨#[109,111,100,117,108,101,32,105,102]⟩:ByteArray)=([],7,90):=by kernel_rfl
theorem ex_3:zAQ (⟨#[]⟩:ByteArray)=([],0,0):=by kernel_rfl
theorem ex_4:zAQ (⟨#[109,111,100,117,108,101,32,109,40,41,32,64,32,99,32,123]⟩:ByteArray)=([],16,90):=by kernel_rfl
theorem ex_5:zAQ (⟨#[109,111,100,117,108,101,32,109,40,41,32,64,32,99,32,123,32,105,110,32,97,58,32,119,32,45,32,48,59,32,125]⟩:ByteArray)=([],27,90):=by kernel_rfl
theorem ex_6:zCl exF=((⟨#[109,111,100,117,108,101,32,109,40,41,32,64,32,99,32,123,10,32,32,105,110,32,97,58,32,51,59,10,125,10]⟩:ByteArray),0):=by kernel_rfl
theorem ex_7:zCl [⟨(⟨#[109]⟩:ByteArray),e0,[],[]⟩]=(e0,90):=by kernel_rfl
set_option maxRecDepth 100000
set_option maxHeartbeats 4000000
theorem pra_free(Z:GP)(l:List Module):(zyk 1999 [(40,AO.arr 46 4 .flat (l.map zaC)),(7777777,Z.o)]/\AV.noRefs [1999] [AV.agg [.ar 40 l.length]])/\zCV (om [(40,AO.arr 46 4 .flat (l.map zaC)),(7777777,Z.o)]) []/\AV.noRefs [1999] []:=by
 simp[GZ,zyk,AO.noRef,AV.noRefs,AV.noRef,zCV]
theorem printed_a(Z:GP)(hZ:Z.Ok)(l:List Module)(hl: ∀m∈l,modR itemR m)(hn:l.length<=1000000)(h:(zDF l l.length (e0,true)).1.size <=LIM):
  FnL prog 24 [.agg [.ar 40 l.length]] [(40,.arr 46 4 .flat (l.map zaC)),(7777777,Z.o)] (fun V ol new=>V= .d (.agg [eSb (zCl l).1,eI (zCl l).2])/\ol=[(7777777,Z.o)]/\new=[]):=by
 have hp:=print_w Z hZ l hl hn h;obtain⟨P,hP⟩:=zX (zCl l);rw[hP]at hp ⊢;refine FnL.srt (FnL.of_eH 1999 [] (own:=[]) (fun i=>if i=0 then [.frz 40]else chL i) [] zat func24 rfl call24 ntmps24 (zle rfl) results24 (pra_free Z l) (fun gs=> ?_));simp only[ZE,seval,KE]at hp;simp only[ZE,seval,KE,GZ];refine EFn.gV [(7777777,7777777)] hp ?_ ?_
 ·simp only[ZE,seval,GZ]
 rintro V ol new ⟨rfl,rfl,rfl⟩;simp only[ZE,seval,KE,GZ];refine⟨[1,2,1999],[],?_⟩;simp only[ZE,seval,zHH,zht,AV.core,KE]
theorem zHD(Z:GP)(hZ:Z.Ok):FnL prog 15 [] [(7777777,Z.o)] (fun V ol new=>V= .d (eB true)/\ol=[(7777777,Z.o)]/\new=[]):=by
 have p1:=zC5 Z hZ (⟨#[109,111,100,117,108,101,32,109,40,41,32,64,32,99,32,123,32,105,110,32,97,32,58,32,51,32,59,32,125]⟩:ByteArray) (by decide);have p2:=zC5 Z hZ (⟨#[109,111,100,117,108,101,32,105,102]⟩:ByteArray) (by decide);have p3:=zC5 Z hZ (⟨#[]⟩:ByteArray) (by decide);have p4:=zC5 Z hZ (⟨#[109,111,100,117,108,101,32,109,40,41,32,64,32,99,32,123]⟩:ByteArray) (by decide);have p5:=zC5 Z hZ (⟨#[109,111,100,117,108,101,32,109,40,41,32,64,32,99,32,123,32,105,110,32,97,58,32,119,32,45,32,48,59,32,125]⟩:ByteArray) (by decide);unfold zFV at p1 p2 p3 p4 p5;rw[ex_1]at p1;rw[ex_2]at p2;rw[ex_3]at p3;rw[ex_4]at p4;rw[ex_5]at p5;have fE:=file_r (l:=exF) (by kernel_rfl) (of_decide_eq_true (by kernel_rfl));have p6:=zHf Z hZ exF fE.1 fE.2.1 fE.2.2;have p7:=printed_a Z hZ [⟨(⟨#[109]⟩:ByteArray),e0,[],[]⟩] (fun m hm=>by rw[List.mem_singleton]at hm; subst hm; exact⟨by decide,by decide,⟨by simp,by decide⟩,⟨by simp,by decide⟩⟩) (by decide) (of_decide_eq_true (by kernel_rfl));rw[ex_6]at p6;rw[ex_7]at p7;have s1:=zHk exF 0 0;have s2:=zHk [] 7 90;have s3:=zHk [] 0 0;have s4:=zHk [] 16 90;have s5:=zHk [] 27 90;simp only[ZE,seval,KE,exF,zBg,zBJ,zEV,zCb,x0_k,x0_w,zCa,n0,r0,e0E,wae,wac]at p1;simp only[ZE,seval,KE,exF,zBg,zBJ,zEV,zCb,x0_k,x0_w,zCa,n0,r0,e0E,wae,wac]at s1;simp only[ZE,seval,KE,exF,zBg,zBJ,zEV,zCb,x0_k,x0_w,zCa,n0,r0,e0E,wae,wac]at p6;simp only[ZE,seval,KE,exF,zBg,zBJ,zEV,zCb,x0_k,x0_w,zCa,n0,r0,e0E,wae,wac]at p7;simp only[ZE,seval,KE,exF,zBg,zBJ,zEV,zCb,x0_k,x0_w,zCa,n0,r0,e0E,wae,wac]at p2;simp only[ZE,seval,KE,exF,zBg,zBJ,zEV,zCb,x0_k,x0_w,zCa,n0,r0,e0E,wae,wac]at p3;simp only[ZE,seval,KE,exF,zBg,zBJ,zEV,zCb,x0_k,x0_w,zCa,n0,r0,e0E,wae,wac]at p4;simp only[ZE,seval,KE,exF,zBg,zBJ,zEV,zCb,x0_k,x0_w,zCa,n0,r0,e0E,wae,wac]at p5;simp only[ZE,seval,KE,exF,zBg,zBJ,zEV,zCb,x0_k,x0_w,zCa,n0,r0,e0E,wae,wac]at s2;simp only[ZE,seval,KE,exF,zBg,zBJ,zEV,zCb,x0_k,x0_w,zCa,n0,r0,e0E,wae,wac]at s3;simp only[ZE,seval,KE,exF,zBg,zBJ,zEV,zCb,x0_k,x0_w,zCa,n0,r0,e0E,wae,wac]at s4;simp only[ZE,seval,KE,exF,zBg,zBJ,zEV,zCb,x0_k,x0_w,zCa,n0,r0,e0E,wae,wac]at s5;refine FnL.srt (FnL.of_eH 1999 [] (own:=[]) (fun i=>if i=2003 then [.flt ⟨[(1,none),(2,none),(0,some [1,2]),(3,none),(4,none),(5,none),(6,none),(8,none),(9,none),(7,some [8,9]),(10,none),(11,none),(12,none),(14,none),(13,some [14]),(15,none),(16,none),(17,none),(18,none),(20,none),(19,some [20]),(21,none),(22,none),(23,none),(24,none),(26,none),(25,some [26]),(27,none),(28,none),(29,none)]⟩ ⟨[],[]⟩]else if i=1 then [.frz 7]else []) [] zat func15 rfl call15 ntmps15 (zle rfl) results15 (zCw Z _ (by simp[AV.noRefs,AV.noRef])) (fun gs=> ?_));simp only[ZE,seval,KE,GZ];refine⟨by kernel_rfl,?_⟩;refine EFn.gV [(7777777,7777777)] p1 ?_ ?_
 ·simp only[ZE,seval,GZ]
 rintro V ol new ⟨rfl,rfl,rfl⟩;simp only[ZE,seval,KE,GZ];refine zaz.i s1 ?_;simp only[ZE,seval,KE,GZ,bne_self_eq_false,beq_self_eq_true,decide_true,Bool.not_true,Bool.not_false,waa];refine EFn.gV [(7777777,7777777)] p6 ?_ ?_
 ·simp only[ZE,seval,GZ]
 rintro V ol new ⟨rfl,rfl,rfl⟩;simp only[ZE,seval,KE,GZ,bne_self_eq_false,beq_self_eq_true,decide_true,Bool.not_true,Bool.not_false,waa];refine EFn.gV [(7777777,7777777)] p2 ?_ ?_
 ·simp only[ZE,seval,GZ]
 rintro V ol new ⟨rfl,rfl,rfl⟩;simp only[ZE,seval,KE,GZ,bne_self_eq_false,beq_self_eq_true,decide_true,Bool.not_true,Bool.not_false,waa];refine zaz.i s2 ?_;simp only[ZE,seval,KE,GZ,bne_self_eq_false,beq_self_eq_true,decide_true,Bool.not_true,Bool.not_false,waa];refine EFn.gV [(7777777,7777777)] p3 ?_ ?_
 ·simp only[ZE,seval,GZ]
 rintro V ol new ⟨rfl,rfl,rfl⟩;simp only[ZE,seval,KE,GZ,bne_self_eq_false,beq_self_eq_true,decide_true,Bool.not_true,Bool.not_false,waa];refine zaz.i s3 ?_;simp only[ZE,seval,KE,GZ,bne_self_eq_false,beq_self_eq_true,decide_true,Bool.not_true,Bool.not_false,waa];refine EFn.gV [(7777777,7777777)] p4 ?_ ?_
 ·simp only[ZE,seval,GZ]
 rintro V ol new ⟨rfl,rfl,rfl⟩;simp only[ZE,seval,KE,GZ,bne_self_eq_false,beq_self_eq_true,decide_true,Bool.not_true,Bool.not_false,waa];refine zaz.i s4 ?_;simp only[ZE,seval,KE,GZ,bne_self_eq_false,beq_self_eq_true,decide_true,Bool.not_true,Bool.not_false,waa];refine EFn.gV [(40,40),(7777777,7777777)] p7 ?_ ?_
 ·simp only[ZE,seval,KE,GZ]
 rintro V ol new ⟨rfl,rfl,rfl⟩;simp only[ZE,seval,KE,GZ,bne_self_eq_false,beq_self_eq_true,decide_true,Bool.not_true,Bool.not_false,waa];refine EFn.gV [(7777777,7777777)] p5 ?_ ?_
 ·simp only[ZE,seval,GZ]
 rintro V ol new ⟨rfl,rfl,rfl⟩;simp only[ZE,seval,KE,GZ,bne_self_eq_false,beq_self_eq_true,decide_true,Bool.not_true,Bool.not_false,waa];refine EFn.p ?_;simp only[ZE,seval,KE,GZ];refine zar.i (s5) ?_;simp only[ZE,seval,KE,GZ,bne_self_eq_false,beq_self_eq_true,decide_true,Bool.not_true,Bool.not_false,waa];refine⟨[1,1999],[],?_⟩;simp only[ZE,seval,zHH,zht,AV.core,KE]
theorem zIw{s:Bts}(h8:s.size<=8000){T:List Tok}{l:List Module}(hL:zEW s= .ok T)(hP:zDI T= .ok l):zAQ s=(l,0,0):=by
 unfold zDI at hP;unfold zAQ;rw[if_neg (by omega),hL];simp only[hP]
theorem zCt(p:Pc)(q:List Pc)(hp:p.1≠0): ∀(l:List Pc) (a:Nat),tk (pcT a (l++p::q)) (nT l)=(p.1,p.2,a+(pcB l).size)
 | [],a=>by
  simp only[wah,pcT,if_neg hp];rfl
 | x::r,a=>by
  simp only[wai,pcT,nT];have e:a+x.2.size+(pcB r).size =a+(pcB (x::r)).size :=by
   simp only[pcB,ByteArray.size_append]; omega
  by_cases hx:x.1=0
  ·rw[if_pos hx,if_pos hx,zCt p q hp r,e]
  ·rw[if_neg hx,if_neg hx,zIJ,zCt p q hp r,e]
theorem zCu: ∀(l:List Pc) (j:Nat),j<nT l-> ∃p1 p p2,l=p1++p::p2/\nT p1=j/\p.1≠0
 | [],_,h=>absurd h (Nat.not_lt_zero _)
 | x::r,j,h=>by
  unfold nT at h;by_cases hx:x.1=0
  ·rw[if_pos hx]at h;obtain⟨p1,p,p2,e1,e2,e3⟩:=zCu r j h;exact⟨x::p1,p,p2,by rw[e1]; rfl,by unfold nT; rw[if_pos hx]; exact e2,e3⟩
  ·rw[if_neg hx]at h;cases j with
   | zero=>exact⟨[],x,r,rfl,rfl,hx⟩
   | succ j=>
    obtain⟨p1,p,p2,e1,e2,e3⟩:=zCu r j (by omega);exact⟨x::p1,p,p2,by rw[e1]; rfl,by unfold nT; rw[if_neg hx,e2],e3⟩
theorem zIW: ∀(l:List Pc) (a:Nat),(pcT a l).length =nT l+1:=fun l a=>(zDy l a).2
set_option maxHeartbeats 1000000
def oB:Bts:=(⟨#[123]⟩:ByteArray)
def cB:Bts:=(⟨#[125]⟩:ByteArray)
def dnP(p:Pc)(d:Nat):Option Nat:=if p.1=3/\p.2=oB then some (d+1)else if p.1=3/\p.2=cB then(if d=0 then none else some (d-1))else some d
def dn:List Pc->Nat->Option Nat
 | [],d=>some d
 | p::r,d=>(dnP p d).bind (dn r)
def dzP(p:Pc):Int:=if p.1=3/\p.2=oB then 1 else if p.1=3/\p.2=cB then-1 else 0
def dz:List Pc->Int
 | []=>0
 | p::r=>dzP p+dz r
theorem zBh(p q:List Pc)(d:Nat):dn (p++q) d=(dn p d).bind (dn q):=by
 induction p generalizing d with
 | nil=>rfl
 | cons x r ih=>
  simp only[wai,dn];cases dnP x d with
  | none=>rfl
  | some e=>exact ih e
theorem dn_dz: ∀(p:List Pc) (d e:Nat),dn p d=some e->(e:Int)=d+dz p
 | [],d,e,h=>by
  cases h;simp[dz]
 | x::r,d,e,h=>by
  unfold dn at h;cases hx:dnP x d with
  | none=>rw[hx]at h; cases h
  | some g=>
   rw[hx]at h;have ih:=dn_dz r g e h;unfold dz;have:(g:Int)=d+dzP x:=by
    unfold dnP at hx;unfold dzP;split at hx
    ·rename_i h1; rw[if_pos h1]; cases hx; omega
    ·rename_i h1;rw[if_neg h1];split at hx
     ·rename_i h2;rw[if_pos h2];split at hx
      ·cases hx
      ·cases hx; omega
     ·rename_i h2; rw[if_neg h2]; cases hx; omega
   omega
def Bal(p:List Pc):Prop:= ∀d,dn p d=some d
theorem Bal.z{p:List Pc}(h:Bal p):dz p=0:=by
 have:=dn_dz p 0 0 (h 0);omega
theorem Bal.pre{p q:List Pc}(h:Bal (p++q)):0<=dz p:=by
 have h0:=h 0;rw[zBh]at h0;cases hp:dn p 0 with
 | none=>rw[hp]at h0; cases h0
 | some e=>
  have:=dn_dz p 0 e hp;omega
def dt(s:Bts):Int:=if s=oB then 1 else if s=cB then-1 else 0
def dT(T:List Tok):Nat->Int
 | 0=>0
 | n+1=>dT T n+dt (tk T n).2.1
def sepL:List Bts:=[(⟨#[32]⟩:ByteArray),(⟨#[10]⟩:ByteArray),(⟨#[32,32]⟩:ByteArray),(⟨#[47,47,32,97,32,125,32,105,110,10]⟩:ByteArray),(⟨#[32,10,32]⟩:ByteArray)]
def sepG(b:Nat):Bts:=sepL.getD (b % 5) e0
def cmt:Pc:=(0,(⟨#[47,47,32,97,32,125,32,105,110]⟩:ByteArray))
def sepPL:List (List Pc):=[[bl],[nl],[bl,bl],[cmt,nl],[bl,nl,bl]]
def sepP(b:Nat):List Pc:=sepPL.getD (b % 5) []
def spS(T:List Tok)(k:List Nat):Nat->Bts
 | 0=>e0
 | i+1=>spS T k i++(tk T i).2.1 ++sepG (k.getD i 0)
def spP(T:List Tok)(k:List Nat):Nat->List Pc
 | 0=>[]
 | i+1=>spP T k i++((tk T i).1,(tk T i).2.1)::sepP (k.getD i 0)
theorem sep_ok(b:Nat):pcB (sepP b)=sepG b/\(∀h,zBb h (sepP b)=true)/\nT (sepP b)=0/\ ∃c,(∀h,pcH h (sepP b)=some c)/\isW c=false/\c≠62/\c≠61:=by
 unfold sepG sepP;have h5:b % 5<5:=Nat.mod_lt _ (by decide);obtain⟨m,hm⟩:=zX (b % 5);rw[hm]at h5 ⊢;rcases(show m=0\/m=1\/m=2\/m=3\/m=4 by omega)with rfl | rfl | rfl | rfl | rfl
 ·exact⟨rfl,fun _=>rfl,rfl,32,fun _=>rfl,by decide,by decide,by decide⟩
 ·exact⟨rfl,fun _=>rfl,rfl,10,fun _=>rfl,by decide,by decide,by decide⟩
 ·exact⟨rfl,fun _=>rfl,rfl,32,fun _=>rfl,by decide,by decide,by decide⟩
 ·exact⟨rfl,fun _=>rfl,rfl,47,fun _=>rfl,by decide,by decide,by decide⟩
 ·exact⟨rfl,fun _=>rfl,rfl,32,fun _=>rfl,by decide,by decide,by decide⟩
theorem pcOk_c{p:Pc}{h:Option UInt8}{c:UInt8}(hc:isW c=false)(c1:c≠62)(c2:c≠61)(h0:p.1≠0)(hp:zDd p h=true):zDd p (some c)=true:=by
 unfold zDd at hp ⊢;split at hp
 ·rename_i e; exact absurd e h0
 ·split at hp
  ·simp only[wap]at hp;simp[zDH,hp.1.1,c1,c2]
  ·exact hp
  ·cases hp
 ·simp only[wap]at hp ⊢;exact⟨hp.1,by simp[zAO,hc]⟩
theorem sp_bytes(T:List Tok)(k:List Nat): ∀n,pcB (spP T k n)=spS T k n
 | 0=>rfl
 | n+1=>by
  unfold spP spS;rw[zAx,sp_bytes T k n,zIS];have:pcB (((tk T n).1,(tk T n).2.1)::sepP (k.getD n 0))=(tk T n).2.1 ++pcB (sepP (k.getD n 0)):=rfl;rw[this,(sep_ok _).1]
theorem sp_ok{T:List Tok}{k:List Nat}{m:Nat}(hT: ∀j,j<m->(tk T j).1 ≠0/\ ∃h,zDd ((tk T j).1,(tk T j).2.1) h=true): ∀n,n<=m->(∀h,zBb h (spP T k n)=true)/\nT (spP T k n)=n
 | 0,_=>⟨fun _=>rfl,rfl⟩
 | n+1,hn=>by
  obtain⟨h1,h2⟩:=sp_ok hT n (by omega);obtain⟨t0,g,hg⟩:=hT n (by omega);obtain⟨_,s2,s3,c,s4,s5,s6,s7⟩:=sep_ok (k.getD n 0);unfold spP;refine⟨fun h=> ?_,?_⟩
  ·rw[zBR,h1,Bool.true_and,zBb,s2,s4,Bool.and_true];exact pcOk_c s5 s6 s7 t0 hg
  ·rw[zAI,h2];unfold nT;rw[if_neg t0,s3]
theorem zI4(T:List Tok)(k:List Nat){j:Nat}: ∀n,j<n-> ∃r,spP T k n=spP T k j++((tk T j).1,(tk T j).2.1)::r
 | 0,h=>absurd h (Nat.not_lt_zero _)
 | n+1,h=>by
  have e:spP T k (n+1)=spP T k n++((tk T n).1,(tk T n).2.1)::sepP (k.getD n 0):=rfl;rw[e];rcases wam j n with hj | hj
  ·obtain⟨r,hr⟩:=zI4 T k n hj;exact⟨r++((tk T n).1,(tk T n).2.1)::sepP (k.getD n 0),by rw[hr]; simp⟩
  ·have:j=n:=by omega
   subst this;exact⟨_,rfl⟩
theorem At_move{T T':List Tok}{m:Nat}(hA: ∀j,j<m->(tk T' j).1 =(tk T j).1 /\(tk T' j).2.1 =(tk T j).2.1): ∀(p:List Pc) (a:Nat),a+nT p<=m->At T a p->At T' a p
 | [],_,_,_=>trivial
 | x::r,a,ha,h=>by
  unfold At at h ⊢;unfold nT at ha;by_cases hx:x.1=0
  ·rw[if_pos hx]at h ha ⊢;exact At_move hA r a ha h
  ·rw[if_neg hx]at h ha ⊢;obtain⟨g1,g2,g3⟩:=h;have:=hA a (by omega);exact⟨by rw[this.1]; exact g1,by rw[this.2]; exact g2,At_move hA r (a+1) (by omega) g3⟩
theorem zIZ{f:List Module}(hf:f.all zAG=true){q:List Pc}(hq:zBb none q=true)(hn:nT q=nT (zAk f))(h8:(pcB q).size <=8000)
  (hA: ∀j,j<nT (zAk f)->(tk (pcT 0 q) j).1 =(tk (pcT 0 (zAk f)) j).1 /\(tk (pcT 0 q) j).2.1 =(tk (pcT 0 (zAk f)) j).2.1):zAQ (pcB q)=(f,0,0):=by
 refine zIw h8 (zIX _ hq) (zFt f hf (At_move hA (zAk f) 0 (by omega) (zGS (zAk f) 0)) ?_ (by rw[zIW,hn]));rw[<-hn,(zDy q 0).1]
theorem tok_ok{f:List Module}(hf:f.all zAG=true){j:Nat}(hj:j<nT (zAk f)):(tk (pcT 0 (zAk f)) j).1 ≠0/\ ∃h,zDd ((tk (pcT 0 (zAk f)) j).1,(tk (pcT 0 (zAk f)) j).2.1) h=true:=by
 have hok:=zEf f hf;obtain⟨p1,p,p2,e1,e2,e3⟩:=zCu _ j hj;have ht:tk (pcT 0 (zAk f)) j=(p.1,p.2,(pcB p1).size):=by rw[<-e2,e1,zCt p p2 e3 p1 0]; simp
 rw[ht];rw[e1,zBR]at hok;simp only[zBb,wap]at hok;exact⟨e3,_,hok.2.1⟩
theorem blanks_law{f:List Module}(hf:f.all zAG=true)(k:List Nat)(h8:(spS (pcT 0 (zAk f)) k (nT (zAk f))).size +20<=8000):
  zAQ (spS (pcT 0 (zAk f)) k (nT (zAk f)))=(f,0,0)/\zAQ ((⟨#[47,47,32,120,10]⟩:ByteArray)++spS (pcT 0 (zAk f)) k (nT (zAk f))++(⟨#[47,47,32,125]⟩:ByteArray))=(f,0,0):=by
 obtain⟨T,hT⟩:=zX (pcT 0 (zAk f));obtain⟨n,hn⟩:=zX (nT (zAk f));have htk: ∀j,j<n->(tk T j).1 ≠0/\ ∃h,zDd ((tk T j).1,(tk T j).2.1) h=true:=fun j hj=>by rw[<-hT]; exact tok_ok hf (by omega)
 rw[hT,hn]at h8 ⊢;obtain⟨s1,s2⟩:=sp_ok (k:=k) htk n (wao _);have hb:=sp_bytes T k n;constructor
 ·rw[<-hb];refine zIZ hf (s1 none) (by rw[s2,hn]) (by rw[hb]; omega) (fun j hj=> ?_);obtain⟨r,hr⟩:=zI4 T k n (show j<n by omega);have hj2:=(sp_ok (k:=k) htk j (by omega)).2;rw[hT];have:tk (pcT 0 (spP T k n)) j=((tk T j).1,(tk T j).2.1,0+(pcB (spP T k j)).size):=by
   have:=zCt ((tk T j).1,(tk T j).2.1) r (htk j (by omega)).1 (spP T k j) 0;rw[hj2,<-hr]at this;exact this
  rw[this];exact⟨rfl,rfl⟩
 ·have e:(⟨#[47,47,32,120,10]⟩:ByteArray)++spS T k n++(⟨#[47,47,32,125]⟩:ByteArray)=pcB ([(0,(⟨#[47,47,32,120]⟩:ByteArray)),nl]++(spP T k n++[(0,(⟨#[47,47,32,125]⟩:ByteArray))])):=by
   rw[zAx,zAx,hb,zIS]; rfl
  rw[e];have hz:(pcB ([(0,(⟨#[47,47,32,120]⟩:ByteArray)),nl]++(spP T k n++[(0,(⟨#[47,47,32,125]⟩:ByteArray))]))).size =(spS T k n).size +9:=by
   rw[<-e,ByteArray.size_append,ByteArray.size_append];have e1:((⟨#[47,47,32,120,10]⟩:ByteArray):Bts).size =5:=rfl;have e2:((⟨#[47,47,32,125]⟩:ByteArray):Bts).size =4:=rfl;omega
  have n1:nT ([(0,(⟨#[47,47,32,120]⟩:ByteArray)),nl]++(spP T k n++[(0,(⟨#[47,47,32,125]⟩:ByteArray))]))=n:=by
   rw[zAI,zAI,s2];have e1:nT [((0:Nat),((⟨#[47,47,32,120]⟩:ByteArray):Bts)),nl]=0:=rfl;have e2:nT [((0:Nat),((⟨#[47,47,32,125]⟩:ByteArray):Bts))]=0:=rfl;omega
  refine zIZ hf ?_ (by rw[n1,hn]) (by rw[hz]; omega) (fun j hj=> ?_)
  ·rw[zBR,zBR,s1];rfl
  ·obtain⟨r,hr⟩:=zI4 T k n (show j<n by omega);have hj2:=(sp_ok (k:=k) htk j (by omega)).2;rw[hT];have h0:nT ([((0:Nat),((⟨#[47,47,32,120]⟩:ByteArray):Bts)),nl]++spP T k j)=j:=by
    rw[zAI,hj2];have e1:nT [((0:Nat),((⟨#[47,47,32,120]⟩:ByteArray):Bts)),nl]=0:=rfl;omega
   have h1:[((0:Nat),((⟨#[47,47,32,120]⟩:ByteArray):Bts)),nl]++(spP T k n++[(0,(⟨#[47,47,32,125]⟩:ByteArray))])=([(0,(⟨#[47,47,32,120]⟩:ByteArray)),nl]++spP T k j)++((tk T j).1,(tk T j).2.1)::(r++[(0,(⟨#[47,47,32,125]⟩:ByteArray))]):=by rw[hr]; simp
   have:=zCt ((tk T j).1,(tk T j).2.1) (r++[((0:Nat),((⟨#[47,47,32,125]⟩:ByteArray):Bts))]) (htk j (by omega)).1 ([((0:Nat),((⟨#[47,47,32,120]⟩:ByteArray):Bts)),nl]++spP T k j) 0;rw[h0]at this;rw[h1,this];exact⟨rfl,rfl⟩
set_option maxHeartbeats 4000000
def pB:Nat->Nat
 | 0=>5
 | d+1=>5+3*pB d
theorem pB_ge: ∀d,5<=pB d
 | 0=>wao _
 | d+1=>by unfold pB; omega
theorem leafG_pos(l:List Nat)(a:Nat):(zIh l a).2 <=a+5:=by
 unfold zIh;split <;> (simp only; omega)
theorem zIP{rec:Nat->Expr×Nat}{z:Nat}(h: ∀a,(rec a).2 <=a+z): ∀n a,(zEq rec n a).2 <=a+n*z
 | 0,a=>by simp[zEq]
 | n+1,a=>by
  have h1:=zIP h n a;have h2:=h (zEq rec n a).2;simp only[zEq];rw[Nat.succ_mul];omega
theorem zId(l:List Nat): ∀d a,(zCC l d a).2 <=a+pB d
 | 0,a=>leafG_pos l a
 | d+1,a=>by
  have h5:=pB_ge d;have ih:=zId l d;have ha: ∀op,arG op<=3:=by
   intro op;unfold arG;split
   ·omega
   ·split <;> omega
  have key: ∀b op k w c,(zGw (zCC l d) b op k w c).2 <=c+3*pB d:=by
   intro b op k w c;have h1:=zIP ih (arG op) c;have h2:=Nat.mul_le_mul_right (pB d) (ha op);simp only[zGw];omega
  unfold zCC pB;split
  ·have:=leafG_pos l a;omega
  ·simp only[];split
   ·exact wan (key _ _ _ _ _) (by omega)
   split
   ·exact wan (key _ _ _ _ _) (by omega)
   ·exact wan (key _ _ _ _ _) (by omega)
theorem use_q(op:Nat)(ho:op∈opsG):FnP prog 191 [eI op] (.d (.agg [eB true,eB (decide (op=15)),eB (decide (op=12)),eB (decide (op=12\/op=13)),eI (arG op)])) []:=by
 simp only[opsG,List.mem_cons,List.mem_nil_iff,or_false]at ho;refine FnP.of_eC (own:=[]) chL zat func191 rfl call191 ntmps191 (zle rfl) results191 (fun hok=> ?_);rcases ho with rfl | rfl | rfl | rfl | rfl | rfl | rfl | rfl | rfl | rfl | rfl | rfl | rfl
 all_goals
  simp only[ZE,seval,KE,arG]
theorem ops_at(i:Nat)(h:i<13):([[eI 2],[eI 3],[eI 4],[eI 5],[eI 6],[eI 7],[eI 8],[eI 9],[eI 10],[eI 11],[eI 12],[eI 13],[eI 15]]:List (List D)).getD i []=[eI (opsG.getD i 0:Nat)]/\opsG.getD i 0∈opsG:=by
 rcases(show i=0\/i=1\/i=2\/i=3\/i=4\/i=5\/i=6\/i=7\/i=8\/i=9\/i=10\/i=11\/i=12 by omega)with rfl | rfl | rfl | rfl | rfl | rfl | rfl | rfl | rfl | rfl | rfl | rfl | rfl <;> exact⟨rfl,by decide⟩
def zaJ(l:List Nat)(p:Expr×Nat):D:=.agg (zbx p.1++[eBy l,eI p.2])
theorem leaf_q(l:List Nat)(hb: ∀b∈l,b<256)(d a:Nat)(ha:a<=1000000)(hd:d<=100)(hl:d<=1\/zAY l a % 3=0):FnP prog 144 [eCur l a,eI d] (.d (zaJ l (zIh l a))) []:=by
 have b1:=zF8 l a hb (by omega);have o1:=on_q l a 1 (by omega) (by omega);have o2:=on_q l (a+1) 2 (by omega) (by omega);have o3:=on_q l (a+1) 4 (by omega) (by omega);have k1:=num_q l (a+1) hb (by omega);have k2:=num_q l (a+3) hb (by omega);have hx:=zCZ hb a;unfold zIh;obtain⟨x,hxx⟩:=zX (zAY l a);rw[hxx]at b1 hx hl ⊢;obtain⟨N1,hN1⟩: ∃N,zHM l (a+1)=N:=⟨_,rfl⟩;obtain⟨N2,hN2⟩: ∃N,zHM l (a+3)=N:=⟨_,rfl⟩;rw[hN1]at k1 ⊢;rw[hN2]at k2 ⊢;have n1:=zG9 (x / 6) (by omega);obtain⟨M,hM⟩: ∃N,zCk (x / 6)=N:=⟨_,rfl⟩;rw[hM]at n1 ⊢;have e3:((x:Int).tmod 3==0)=decide (x % 3=0):=zDc x 3 0;have d3:(x:Int).tdiv 3=((x / 3:Nat):Int):=zHp x 3;have w3:IntKind.i64.wrap ((x / 3:Nat):Int)=((x / 3:Nat):Int):=zGr (by omega);have m2:((((x / 3:Nat):Int)).tmod 2==0)=decide (x / 3 % 2=0):=zDc (x / 3) 2 0;have d6:(x:Int).tdiv 6=((x / 6:Nat):Int):=zHp x 6;have w6:IntKind.i64.wrap ((x / 6:Nat):Int)=((x / 6:Nat):Int):=zGr (by omega);have a3:a+1+2=a+3:=by omega
 have a5:a+1+4=a+5:=by omega
 rw[a3]at o2;rw[a5]at o3;simp only[ZE,seval,KE]at b1;simp only[ZE,seval,KE]at o1;simp only[ZE,seval,KE]at o2;simp only[ZE,seval,KE]at o3;simp only[ZE,seval,KE]at k1;simp only[ZE,seval,KE]at k2;simp only[ZE,seval,KE]at n1;refine FnP.of_eC (own:=[]) (fun i=>if i=2005 then [.ord ⟨[(0,none),(1,none),(2,none),(3,none),(4,none),(5,none),(6,none),(7,none),(8,none),(9,some [])]⟩]else if i=2006 then [.ord ⟨[(0,none),(1,none),(2,none),(3,none),(4,none),(5,none),(6,some [])]⟩]else if i=18 then [.adB 8 6 60 108 7]else if i=1024 then [.frz 60]else chL i) zat func144 rfl call144 ntmps144 (zle rfl) results144 (fun hok=> ?_);have fin: ∀g:Bool,g=decide ((d:Int)<=1)->(g=true\/decide (x % 3=0)=true):=by
  intro g hg;rcases hl with h | h
  ·left; rw[hg]; simp; omega
  ·right; simpa using h
 simp only[ZE,seval,KE];refine EFn.p ?_;simp only[ZE,seval,KE];refine zar.i (b1) ?_;simp only[ZE,seval,KE];refine EFn.p ?_;simp only[ZE,seval,KE];refine zar.i (o1) ?_;obtain⟨g,hg⟩:=zX (decide ((d:Int)<=1));have hgx:=fin g hg.symm;obtain⟨h3,hh3⟩: ∃h,decide (x % 3=0)=h:=⟨_,rfl⟩;rw[hh3]at e3 hgx;by_cases h2:x / 3 % 2=0
 ·rw[if_pos h2];have hr:zaJ l (.mk 1 e0 N1 N2 [],a+5)= .agg [eI 1,eSb e0,eI N1.n,eSb N1.p,eI N2.n,eSb N2.p,.sl [],eBy l,eI ((a+5:Nat):Int)]:=by unfold zaJ; rw[zb6]; rfl
  rw[hr];cases g with
  | true=>
   simp only[ZE,seval,KE,hg,e3,d3,w3,m2,h2,decide_true,↓zA7,↓zA8,↓zA9,zBN.eq_1,zBI.eq_1];refine⟨by kernel_rfl,zaz.i k1 ?_⟩;simp only[ZE,seval,KE];refine zaz.i o2 ?_;simp only[ZE,seval,KE];refine zaz.i k2 ?_;simp only[ZE,seval,KE];refine zaz.i o3 ?_;simp only[ZE,seval,KE,e0F]
  | false=>
   have:h3=true:=by simpa using hgx
   subst this;simp only[ZE,seval,KE,hg,e3,d3,w3,m2,h2,decide_true,↓zA7,↓zA8,↓zA9,zBN.eq_1,zBI.eq_1];refine⟨by kernel_rfl,zaz.i k1 ?_⟩;simp only[ZE,seval,KE];refine zaz.i o2 ?_;simp only[ZE,seval,KE];refine zaz.i k2 ?_;simp only[ZE,seval,KE];refine zaz.i o3 ?_;simp only[ZE,seval,KE,e0F]
 ·rw[if_neg h2];have hr:zaJ l (.mk 14 M n0 n0 [],a+1)= .agg [eI 14,eSb M,eI 0,eSb e0,eI 0,eSb e0,.sl [],eBy l,eI ((a+1:Nat):Int)]:=by unfold zaJ; rw[zb6]; rfl
  rw[hr];cases g with
  | true=>
   simp only[ZE,seval,KE,hg,e3,d3,w3,m2,h2,decide_false,d6,w6,↓zA7,↓zA8,↓zA9,zBN.eq_1,zBI.eq_1];refine⟨by kernel_rfl,zaz.i n1 ?_⟩;simp only[ZE,seval,KE,e0F]
  | false=>
   have:h3=true:=by simpa using hgx
   subst this;simp only[ZE,seval,KE,hg,e3,d3,w3,m2,h2,decide_false,d6,w6,↓zA7,↓zA8,↓zA9,zBN.eq_1,zBI.eq_1];refine⟨by kernel_rfl,zaz.i n1 ?_⟩;simp only[ZE,seval,KE,e0F]
theorem zIQ(rec:Nat->Expr×Nat)(c:Nat):zEq rec 0 c=([],c):=rfl
theorem node_q(l:List Nat)(hb: ∀b∈l,b<256)(d a:Nat)(ha:a+pB (d+1)<=1000000)(hd:0<d)(hd2:d<=100)(hx3: ¬zAY l a % 3=0)
  (ih: ∀c,c+pB d<=1000000->FnP prog 144 [eCur l c,eI d] (.d (zaJ l (zCC l d c))) []):
  FnP prog 144 [eCur l a,eI ((d+1:Nat):Int)] (.d (zaJ l (zCC l (d+1) a))) []:=by
 have hpB:pB (d+1)=5+3*pB d:=rfl;have b1:=zF8 l a hb (by omega);have o1:=on_q l a 1 (by omega) (by omega);have o2:=on_q l (a+1) 2 (by omega) (by omega);have o3:=on_q l (a+3) 2 (by omega) (by omega);have q1:=num_q l (a+1) hb (by omega);have q2:=num_q l (a+3) hb (by omega);have hx:=zCZ hb a;unfold zCC;rw[if_neg (by omega)];simp only[];obtain⟨x,hxx⟩:=zX (zAY l a);rw[hxx]at b1 hx hx3 ⊢;obtain⟨N1,hN1⟩: ∃N,zHM l (a+1)=N:=⟨_,rfl⟩;obtain⟨N2,hN2⟩: ∃N,zHM l (a+3)=N:=⟨_,rfl⟩;rw[hN1]at q1 ⊢;rw[hN2]at q2 ⊢;have n1:=zG9 (x / 39) (by omega);obtain⟨e1,e2⟩:=ops_at (x / 3 % 13) (Nat.mod_lt _ (by decide));obtain⟨op,hop⟩:=zX (opsG.getD (x / 3 % 13) 0);rw[hop]at e1 e2 ⊢;have hu:=use_q op e2;have hlt:(0<=((x / 3 % 13:Nat):Int)/\((x / 3 % 13:Nat):Int)<13)=True:=by simp; omega
 have g1:decide (((d+1:Nat):Int)<=1)=false:=by simp; omega
 have e3:((x:Int).tmod 3==0)=decide (x % 3=0):=zDc x 3 0;have d3:(x:Int).tdiv 3=((x / 3:Nat):Int):=zHp x 3;have w3:IntKind.i64.wrap ((x / 3:Nat):Int)=((x / 3:Nat):Int):=zGr (by omega);have m13:(((x / 3:Nat):Int)).tmod 13=((x / 3 % 13:Nat):Int):=zI0 (x / 3) 13;have d39:(x:Int).tdiv 39=((x / 39:Nat):Int):=zHp x 39;have w39:IntKind.i64.wrap ((x / 39:Nat):Int)=((x / 39:Nat):Int):=zGr (by omega);have ha3:arG op<=3:=by
  unfold arG;split
  ·omega
  ·split <;> omega
 have s3:a+1+2=a+3:=by omega
 have s5:a+3+2=a+5:=by omega
 rw[s3]at o2;rw[s5]at o3;obtain⟨nme,hnme⟩: ∃n,zCk (x / 39)=n:=⟨_,rfl⟩;rw[hnme]at n1;simp only[ZE,seval,KE]at b1;simp only[ZE,seval,KE]at o1;simp only[ZE,seval,KE]at o2;simp only[ZE,seval,KE]at o3;simp only[ZE,seval,KE]at q1;simp only[ZE,seval,KE]at q2;simp only[ZE,seval,KE]at n1;simp only[ZE,seval,KE]at e1;refine FnP.of_eC (own:=[]) (fun i=>if i=2005 then [.ord ⟨[(0,none),(1,none),(2,none),(3,none),(4,none),(5,none),(6,none),(7,none),(8,none),(9,some [])]⟩]else if i=2006 then [.ord ⟨[(0,none),(1,none),(2,none),(3,none),(4,none),(5,none),(6,some [])]⟩]else if i=18 then [.adB 8 6 60 108 7]else if i=1024 then [.frz 60]else chL i) zat func144 rfl call144 ntmps144 (zle rfl) results144 (fun hok=> ?_);simp only[ZE,seval,KE];refine EFn.p ?_;simp only[ZE,seval,KE];refine zar.i (b1) ?_;simp only[ZE,seval,KE];refine EFn.p ?_;simp only[ZE,seval,KE];refine zar.i (o1) ?_;simp only[ZE,seval,KE,g1,e3,hx3,decide_false,↓zA7,↓zA8,↓zA9,zBN.eq_1,zBI.eq_1,d3,w3,m13,hlt,e1,wal];by_cases p12:op=12
 ·have h1:decide (op=15)=false:=by simp; omega
  have h2:decide (op=12)=true:=by simpa using p12
  have h3:decide (op=12\/op=13)=true:=by simp; omega
  have hne: ¬op=15:=by omega
  rw[h1,h2,h3]at hu;rw[if_pos p12];refine EFn.p ?_;simp only[ZE,seval,KE];have hc:=hu;simp only[ZE,seval,KE]at hc;refine zar.i hc ?_;clear hc;simp only[ZE,seval,KE];refine EFn.p ?_;simp only[ZE,seval,KE];refine zar.i (q1) ?_;simp only[ZE,seval,KE];refine EFn.p ?_;simp only[ZE,seval,KE];refine zar.i (o2) ?_;simp only[ZE,seval,KE];refine EFn.p ?_;simp only[ZE,seval,KE];refine zar.i (q2) ?_;simp only[ZE,seval,KE];refine EFn.p ?_;simp only[ZE,seval,KE];refine zar.i (o3) ?_;simp only[ZE,seval,KE];refine za1 (fun i=>if i=2005 then [.ord ⟨[(0,none),(1,none),(2,none),(3,none),(4,none),(5,none),(6,none),(7,none),(8,none),(9,some [])]⟩]else if i=2006 then [.ord ⟨[(0,none),(1,none),(2,none),(3,none),(4,none),(5,none),(6,some [])]⟩]else if i=18 then [.adB 8 6 60 108 7]else if i=1024 then [.frz 60]else chL i) zat (arG op) (fun _=>True) (fun i=>([(1,.d (eI ((d+1:Nat):Int))),(2,.bp 2 0),(4,.bp 4 0),(7,.bp 7 0),(8,.bp 8 0),(9,.d (eI i))],[(2,.box [.d (eBy l),.d (eI (zEq (zCC l d) i (a+5)).2)]),(4,.box [.d (eI 0),.d (eSb e0),.d (eI 0),.d (eSb e0),.d (eI 0),.d (eSb e0),.nils,.nils,.d (eI 0)]),(7,.box [.d (eB true),.d (eB false),.d (eB true),.d (eB true),.d (eI (arG op))]),(8,.box [.d (eI op),.d (eSb e0),.d (eI (Num.n N1)),.d (eSb (Num.p N1)),.d (eI (Num.n N2)),.d (eSb (Num.p N2)),.ar 60 i]),(60,.arr 108 7 .flat ((zEq (zCC l d) i (a+5)).1.map zbx))])) trivial ?_ ?_ (fun i hi _=> ?_)
  ·simp only[ZE,seval,KE,e0F]
  ·simp only[ZE,seval,KE,e0F,n0,zIQ,wac]
  by_cases h:i<arG op
  ·have hp:=zIP (zId l d) i (a+5);have hm:=Nat.mul_le_mul_right (pB d) (show i<=2 by omega);have hc:=ih (zEq (zCC l d) i (a+5)).2 (by omega);have hw:=zaq (show i<9223372036854775807 by omega);have hd3:IntKind.i64.wrap (((d+1:Nat):Int)-1)=((d:Nat):Int):=by rw[zaQ (by omega) (by omega)]; simp
   have hN:zEq (zCC l d) (i+1) (a+5)=((zEq (zCC l d) i (a+5)).1 ++[(zCC l d (zEq (zCC l d) i (a+5)).2).1],(zCC l d (zEq (zCC l d) i (a+5)).2).2):=rfl;have hlen:=zIO (zCC l d) i (a+5);obtain⟨A,hA⟩:=zX (zEq (zCC l d) i (a+5));rw[hA]at hc hN hlen;obtain⟨B,hB⟩:=zX (zCC l d A.2);rw[hB]at hc hN;obtain⟨⟨o1,n1,k1,w1,a1⟩,p1⟩:=B;unfold zaJ at hc;rw[zb6]at hc;simp only[ZE,seval,KE,Expr.op,Expr.name,Expr.k,Expr.w,Expr.args,wai,wah]at hc;simp only[ZE,seval,KE,zaw h,hA,hw,hd3];refine EFn.p ?_;simp only[ZE,seval,KE];refine zar.i (hc) ?_;simp only[ZE,seval,KE,hN,waf,wae,wac,zb6,Expr.op,Expr.name,Expr.k,Expr.w,Expr.args,hlen,waa];exact⟨⟨by omega,by omega⟩,by rw[wab,waa,hlen]; rfl,h,by rw[hw]⟩
  ·have:i=arG op:=by omega
   subst this;simp only[ZE,seval,KE,zaI (wao (arG op)),waa,zIO,zaJ,zGw,zb6,Expr.op,Expr.name,Expr.k,Expr.w,Expr.args,wai,wah,e0F,n0,hne]
 rw[if_neg p12];by_cases p13:op=13
 ·have h1:decide (op=15)=false:=by simp; omega
  have h2:decide (op=12)=false:=by simpa using p12
  have h3:decide (op=12\/op=13)=true:=by simp; omega
  have hne: ¬op=15:=by omega
  rw[h1,h2,h3]at hu;rw[if_pos p13];refine EFn.p ?_;simp only[ZE,seval,KE];have hc:=hu;simp only[ZE,seval,KE]at hc;refine zar.i hc ?_;clear hc;simp only[ZE,seval,KE];refine EFn.p ?_;simp only[ZE,seval,KE];refine zar.i (q1) ?_;simp only[ZE,seval,KE];refine EFn.p ?_;simp only[ZE,seval,KE];refine zar.i (o2) ?_;simp only[ZE,seval,KE];refine za1 (fun i=>if i=2005 then [.ord ⟨[(0,none),(1,none),(2,none),(3,none),(4,none),(5,none),(6,none),(7,none),(8,none),(9,some [])]⟩]else if i=2006 then [.ord ⟨[(0,none),(1,none),(2,none),(3,none),(4,none),(5,none),(6,some [])]⟩]else if i=18 then [.adB 8 6 60 108 7]else if i=1024 then [.frz 60]else chL i) zat (arG op) (fun _=>True) (fun i=>([(1,.d (eI ((d+1:Nat):Int))),(2,.bp 2 0),(4,.bp 4 0),(7,.bp 7 0),(8,.bp 8 0),(9,.d (eI i))],[(2,.box [.d (eBy l),.d (eI (zEq (zCC l d) i (a+3)).2)]),(4,.box [.d (eI 0),.d (eSb e0),.d (eI 0),.d (eSb e0),.d (eI 0),.d (eSb e0),.nils,.nils,.d (eI 0)]),(7,.box [.d (eB true),.d (eB false),.d (eB false),.d (eB true),.d (eI (arG op))]),(8,.box [.d (eI op),.d (eSb e0),.d (eI (Num.n n0)),.d (eSb (Num.p n0)),.d (eI (Num.n N1)),.d (eSb (Num.p N1)),.ar 60 i]),(60,.arr 108 7 .flat ((zEq (zCC l d) i (a+3)).1.map zbx))])) trivial ?_ ?_ (fun i hi _=> ?_)
  ·simp only[ZE,seval,KE,e0F]
  ·simp only[ZE,seval,KE,e0F,n0,zIQ,wac]
  by_cases h:i<arG op
  ·have hp:=zIP (zId l d) i (a+3);have hm:=Nat.mul_le_mul_right (pB d) (show i<=2 by omega);have hc:=ih (zEq (zCC l d) i (a+3)).2 (by omega);have hw:=zaq (show i<9223372036854775807 by omega);have hd3:IntKind.i64.wrap (((d+1:Nat):Int)-1)=((d:Nat):Int):=by rw[zaQ (by omega) (by omega)]; simp
   have hN:zEq (zCC l d) (i+1) (a+3)=((zEq (zCC l d) i (a+3)).1 ++[(zCC l d (zEq (zCC l d) i (a+3)).2).1],(zCC l d (zEq (zCC l d) i (a+3)).2).2):=rfl;have hlen:=zIO (zCC l d) i (a+3);obtain⟨A,hA⟩:=zX (zEq (zCC l d) i (a+3));rw[hA]at hc hN hlen;obtain⟨B,hB⟩:=zX (zCC l d A.2);rw[hB]at hc hN;obtain⟨⟨o1,n1,k1,w1,a1⟩,p1⟩:=B;unfold zaJ at hc;rw[zb6]at hc;simp only[ZE,seval,KE,Expr.op,Expr.name,Expr.k,Expr.w,Expr.args,wai,wah]at hc;simp only[ZE,seval,KE,zaw h,hA,hw,hd3];refine EFn.p ?_;simp only[ZE,seval,KE];refine zar.i (hc) ?_;simp only[ZE,seval,KE,hN,waf,wae,wac,zb6,Expr.op,Expr.name,Expr.k,Expr.w,Expr.args,hlen,waa];exact⟨⟨by omega,by omega⟩,by rw[wab,waa,hlen]; rfl,h,by rw[hw]⟩
  ·have:i=arG op:=by omega
   subst this;simp only[ZE,seval,KE,zaI (wao (arG op)),waa,zIO,zaJ,zGw,zb6,Expr.op,Expr.name,Expr.k,Expr.w,Expr.args,wai,wah,e0F,n0,hne]
 rw[if_neg p13];by_cases p15:op=15
 ·have h1:decide (op=15)=true:=by simpa using p15
  have h2:decide (op=12)=false:=by simpa using p12
  have h3:decide (op=12\/op=13)=false:=by simp; omega
  have hyes:(op=15)=True:=eq_true p15;rw[h1,h2,h3]at hu;refine EFn.p ?_;simp only[ZE,seval,KE];have hc:=hu;simp only[ZE,seval,KE]at hc;refine zar.i hc ?_;clear hc;simp only[ZE,seval,KE,d39,w39];refine EFn.p ?_;simp only[ZE,seval,KE];refine zar.i (n1) ?_;simp only[ZE,seval,KE];refine za1 (fun i=>if i=2005 then [.ord ⟨[(0,none),(1,none),(2,none),(3,none),(4,none),(5,none),(6,none),(7,none),(8,none),(9,some [])]⟩]else if i=2006 then [.ord ⟨[(0,none),(1,none),(2,none),(3,none),(4,none),(5,none),(6,some [])]⟩]else if i=18 then [.adB 8 6 60 108 7]else if i=1024 then [.frz 60]else chL i) zat (arG op) (fun _=>True) (fun i=>([(1,.d (eI ((d+1:Nat):Int))),(2,.bp 2 0),(4,.bp 4 0),(7,.bp 7 0),(8,.bp 8 0),(9,.d (eI i))],[(2,.box [.d (eBy l),.d (eI (zEq (zCC l d) i (a+1)).2)]),(4,.box [.d (eI 0),.d (eSb e0),.d (eI 0),.d (eSb e0),.d (eI 0),.d (eSb e0),.nils,.nils,.d (eI 0)]),(7,.box [.d (eB true),.d (eB true),.d (eB false),.d (eB false),.d (eI (arG op))]),(8,.box [.d (eI op),.d (eSb nme),.d (eI (Num.n n0)),.d (eSb (Num.p n0)),.d (eI (Num.n n0)),.d (eSb (Num.p n0)),.ar 60 i]),(60,.arr 108 7 .flat ((zEq (zCC l d) i (a+1)).1.map zbx))])) trivial ?_ ?_ (fun i hi _=> ?_)
  ·simp only[ZE,seval,KE,e0F]
  ·simp only[ZE,seval,KE,e0F,n0,zIQ,wac]
  by_cases h:i<arG op
  ·have hp:=zIP (zId l d) i (a+1);have hm:=Nat.mul_le_mul_right (pB d) (show i<=2 by omega);have hc:=ih (zEq (zCC l d) i (a+1)).2 (by omega);have hw:=zaq (show i<9223372036854775807 by omega);have hd3:IntKind.i64.wrap (((d+1:Nat):Int)-1)=((d:Nat):Int):=by rw[zaQ (by omega) (by omega)]; simp
   have hN:zEq (zCC l d) (i+1) (a+1)=((zEq (zCC l d) i (a+1)).1 ++[(zCC l d (zEq (zCC l d) i (a+1)).2).1],(zCC l d (zEq (zCC l d) i (a+1)).2).2):=rfl;have hlen:=zIO (zCC l d) i (a+1);obtain⟨A,hA⟩:=zX (zEq (zCC l d) i (a+1));rw[hA]at hc hN hlen;obtain⟨B,hB⟩:=zX (zCC l d A.2);rw[hB]at hc hN;obtain⟨⟨o1,n1,k1,w1,a1⟩,p1⟩:=B;unfold zaJ at hc;rw[zb6]at hc;simp only[ZE,seval,KE,Expr.op,Expr.name,Expr.k,Expr.w,Expr.args,wai,wah]at hc;simp only[ZE,seval,KE,zaw h,hA,hw,hd3];refine EFn.p ?_;simp only[ZE,seval,KE];refine zar.i (hc) ?_;simp only[ZE,seval,KE,hN,waf,wae,wac,zb6,Expr.op,Expr.name,Expr.k,Expr.w,Expr.args,hlen,waa];exact⟨⟨by omega,by omega⟩,by rw[wab,waa,hlen]; rfl,h,by rw[hw]⟩
  ·have:i=arG op:=by omega
   subst this;simp only[ZE,seval,KE,zaI (wao (arG op)),waa,zIO,zaJ,zGw,zb6,Expr.op,Expr.name,Expr.k,Expr.w,Expr.args,wai,wah,e0F,n0,hyes,hnme]
 ·have h1:decide (op=15)=false:=by simpa using p15
  have h2:decide (op=12)=false:=by simpa using p12
  have h3:decide (op=12\/op=13)=false:=by simp; omega
  rw[h1,h2,h3]at hu;refine EFn.p ?_;simp only[ZE,seval,KE];have hc:=hu;simp only[ZE,seval,KE]at hc;refine zar.i hc ?_;clear hc;simp only[ZE,seval,KE];refine za1 (fun i=>if i=2005 then [.ord ⟨[(0,none),(1,none),(2,none),(3,none),(4,none),(5,none),(6,none),(7,none),(8,none),(9,some [])]⟩]else if i=2006 then [.ord ⟨[(0,none),(1,none),(2,none),(3,none),(4,none),(5,none),(6,some [])]⟩]else if i=18 then [.adB 8 6 60 108 7]else if i=1024 then [.frz 60]else chL i) zat (arG op) (fun _=>True) (fun i=>([(1,.d (eI ((d+1:Nat):Int))),(2,.bp 2 0),(4,.bp 4 0),(7,.bp 7 0),(8,.bp 8 0),(9,.d (eI i))],[(2,.box [.d (eBy l),.d (eI (zEq (zCC l d) i (a+1)).2)]),(4,.box [.d (eI 0),.d (eSb e0),.d (eI 0),.d (eSb e0),.d (eI 0),.d (eSb e0),.nils,.nils,.d (eI 0)]),(7,.box [.d (eB true),.d (eB false),.d (eB false),.d (eB false),.d (eI (arG op))]),(8,.box [.d (eI op),.d (eSb e0),.d (eI (Num.n n0)),.d (eSb (Num.p n0)),.d (eI (Num.n n0)),.d (eSb (Num.p n0)),.ar 60 i]),(60,.arr 108 7 .flat ((zEq (zCC l d) i (a+1)).1.map zbx))])) trivial ?_ ?_ (fun i hi _=> ?_)
  ·simp only[ZE,seval,KE,e0F]
  ·simp only[ZE,seval,KE,e0F,n0,zIQ,wac]
  by_cases h:i<arG op
  ·have hp:=zIP (zId l d) i (a+1);have hm:=Nat.mul_le_mul_right (pB d) (show i<=2 by omega);have hc:=ih (zEq (zCC l d) i (a+1)).2 (by omega);have hw:=zaq (show i<9223372036854775807 by omega);have hd3:IntKind.i64.wrap (((d+1:Nat):Int)-1)=((d:Nat):Int):=by rw[zaQ (by omega) (by omega)]; simp
   have hN:zEq (zCC l d) (i+1) (a+1)=((zEq (zCC l d) i (a+1)).1 ++[(zCC l d (zEq (zCC l d) i (a+1)).2).1],(zCC l d (zEq (zCC l d) i (a+1)).2).2):=rfl;have hlen:=zIO (zCC l d) i (a+1);obtain⟨A,hA⟩:=zX (zEq (zCC l d) i (a+1));rw[hA]at hc hN hlen;obtain⟨B,hB⟩:=zX (zCC l d A.2);rw[hB]at hc hN;obtain⟨⟨o1,n1,k1,w1,a1⟩,p1⟩:=B;unfold zaJ at hc;rw[zb6]at hc;simp only[ZE,seval,KE,Expr.op,Expr.name,Expr.k,Expr.w,Expr.args,wai,wah]at hc;simp only[ZE,seval,KE,zaw h,hA,hw,hd3];refine EFn.p ?_;simp only[ZE,seval,KE];refine zar.i (hc) ?_;simp only[ZE,seval,KE,hN,waf,wae,wac,zb6,Expr.op,Expr.name,Expr.k,Expr.w,Expr.args,hlen,waa];exact⟨⟨by omega,by omega⟩,by rw[wab,waa,hlen]; rfl,h,by rw[hw]⟩
  ·have:i=arG op:=by omega
   subst this;simp only[ZE,seval,KE,zaI (wao (arG op)),waa,zIO,zaJ,zGw,zb6,Expr.op,Expr.name,Expr.k,Expr.w,Expr.args,wai,wah,e0F,n0,p15]
theorem expr_q(l:List Nat)(hb: ∀b∈l,b<256): ∀(d a:Nat),a+pB d<=1000000->d<=100->FnP prog 144 [eCur l a,eI d] (.d (zaJ l (zCC l d a))) []
 | 0,a,ha,_=>leaf_q l hb 0 a (by omega) (by omega) (.inl (by omega))
 | d+1,a,ha,hd=>by
  have hpB:pB (d+1)=5+3*pB d:=rfl;by_cases h:d=0\/zAY l a % 3=0
  ·have e:zCC l (d+1) a=zIh l a:=if_pos h;rw[e];exact leaf_q l hb (d+1) a (by omega) hd (by omega)
  ·exact node_q l hb d a ha (by omega) (by omega) (by omega) (fun c hc=>expr_q l hb d c hc (by omega))
set_option maxHeartbeats 8000000
def zIR(l:List Nat)(p:Item×Nat):D:=.agg (zaK p.1++[eBy l,eI p.2])
theorem e0E':e0=wak:=rfl
theorem item_q(l:List Nat)(hb: ∀b∈l,b<256)(a:Nat)(ha:a<=100000):FnP prog 96 [eCur l a] (.d (zIR l (zIU l a))) []:=by
 have b1:=zF8 l a hb (by omega);have b2:=zF8 l (a+1) hb (by omega);have o1:=on_q l a 1 (by omega) (by omega);have o2:=on_q l a 2 (by omega) (by omega);have o4:=on_q l (a+2) 2 (by omega) (by omega);have o6:=on_q l (a+2) 4 (by omega) (by omega);have o8:=on_q l (a+2) 6 (by omega) (by omega);have o12:=on_q l (a+8) 4 (by omega) (by omega);rw[show a+2+2=a+4 by omega]at o4;rw[show a+2+4=a+6 by omega]at o6;rw[show a+2+6=a+8 by omega]at o8;rw[show a+8+4=a+12 by omega]at o12;have q1:=num_q l (a+2) hb (by omega);have q2:=num_q l (a+4) hb (by omega);have q3:=rule_q l (a+6) hb (by omega);have x3:=expr_q l hb 3 (a+8) (by simp[pB]; omega) (by omega);have p3:=zId l 3 (a+8);have p2:=zId l 2 (zCC l 3 (a+8)).2;have x2:=expr_q l hb 2 (zCC l 3 (a+8)).2 (by simp[pB]at p3 ⊢; omega) (by omega);have x1:=expr_q l hb 2 (zCC l 2 (zCC l 3 (a+8)).2).2 (by simp[pB]at p3 p2 ⊢; omega) (by omega);have hx:=zCZ hb a;have hy:=zCZ hb (a+1);unfold zIU;obtain⟨x,hxx⟩:=zX (zAY l a);obtain⟨y,hyy⟩:=zX (zAY l (a+1));rw[hxx]at b1 hx ⊢;rw[hyy]at b2 hy ⊢;have n1:=zG9 y (by omega);have n2:=zG9 (x / 9) (by omega);unfold zgm;obtain⟨N1,hN1⟩: ∃N,zCk y=N:=⟨_,rfl⟩;obtain⟨N2,hN2⟩: ∃N,zCk (x / 9)=N:=⟨_,rfl⟩;obtain⟨Q1,hQ1⟩: ∃N,zHM l (a+2)=N:=⟨_,rfl⟩;obtain⟨Q2,hQ2⟩: ∃N,zHM l (a+4)=N:=⟨_,rfl⟩;obtain⟨Q3,hQ3⟩: ∃N,ruleG l (a+6)=N:=⟨_,rfl⟩;obtain⟨E1,hE1⟩: ∃E,zCC l 3 (a+8)=E:=⟨_,rfl⟩;rw[hN1]at n1;rw[hN2]at n2;rw[hQ1]at q1;rw[hQ2]at q2;rw[hQ3]at q3;rw[hE1]at x3 x2 x1;obtain⟨E2,hE2⟩: ∃E,zCC l 2 E1.2=E:=⟨_,rfl⟩;rw[hE2]at x2 x1;obtain⟨E3,hE3⟩: ∃E,zCC l 2 E2.2=E:=⟨_,rfl⟩;rw[hE3]at x1;simp only[hN1,hN2,hQ1,hQ2,hQ3,hE1,hE2,hE3];have nn:=nots_q E1.1 5 (by omega);have d8:(y:Int).tdiv 8=((y / 8:Nat):Int):=zHp y 8;have w8:IntKind.i64.wrap ((y / 8:Nat):Int)=((y / 8:Nat):Int):=zGr (by omega);have m8:((((y / 8:Nat):Int)).tmod 8==7)=decide (y / 8 % 8=7):=zDc (y / 8) 8 7;have d9:(x:Int).tdiv 9=((x / 9:Nat):Int):=zHp x 9;have w9:IntKind.i64.wrap ((x / 9:Nat):Int)=((x / 9:Nat):Int):=zGr (by omega);obtain⟨F,hF⟩:=zX (zCe E1.1 5);rw[hF]at nn;simp only[hF];obtain⟨⟨eo1,en1,ek1,ew1,ea1⟩,ep1⟩:=E1;obtain⟨⟨eo2,en2,ek2,ew2,ea2⟩,ep2⟩:=E2;obtain⟨⟨eo3,en3,ek3,ew3,ea3⟩,ep3⟩:=E3;obtain⟨fo,fn,fk,fw,fa⟩:=F;unfold zaJ at x3 x2 x1;rw[zb6]at x3 x2 x1 nn;rw[zb6]at nn;simp only[ZE,seval,KE]at b1;simp only[ZE,seval,KE]at b2;simp only[ZE,seval,KE]at o1;simp only[ZE,seval,KE]at o2;simp only[ZE,seval,KE]at o4;simp only[ZE,seval,KE]at o6;simp only[ZE,seval,KE]at o8;simp only[ZE,seval,KE]at o12;simp only[ZE,seval,KE]at q1;simp only[ZE,seval,KE]at q2;simp only[ZE,seval,KE]at q3;simp only[ZE,seval,KE,Expr.op,Expr.name,Expr.k,Expr.w,Expr.args,wai,wah]at x3;simp only[ZE,seval,KE,Expr.op,Expr.name,Expr.k,Expr.w,Expr.args,wai,wah]at x2;simp only[ZE,seval,KE,Expr.op,Expr.name,Expr.k,Expr.w,Expr.args,wai,wah]at x1;simp only[ZE,seval,KE,Expr.op,Expr.name,Expr.k,Expr.w,Expr.args]at nn;simp only[ZE,seval,KE]at n1;simp only[ZE,seval,KE]at n2;obtain⟨k,hk⟩:=zX (1+x % 9);have hk2:IntKind.i64.wrap (1+(x:Int).tmod 9)=((k:Nat):Int):=by
  have h9:(x:Int).tmod 9=((x % 9:Nat):Int):=zI0 x 9;rw[h9,<-hk,zaQ (by omega) (by omega)]; simp
 have h0:(0:Nat)=0:=rfl;rw[hk];have m3:(((y / 8:Nat):Int)).tmod 3=((y / 8 % 3:Nat):Int):=zI0 (y / 8) 3;refine FnP.of_eC (own:=[]) (fun i=>if i=2001 then [.ord ⟨[(0,none),(1,none),(2,none),(3,none),(4,none),(5,some []),(6,some [])]⟩]else if i=2019 then [.flt ⟨[(0,none),(1,none),(2,none),(3,none),(4,none),(5,none),(6,none),(7,none),(8,some []),(9,none),(10,some [])]⟩ ⟨[],[]⟩]else if i=2020 then [.flt ⟨[(0,none),(1,none),(2,none),(3,none),(4,none),(5,none),(6,none),(7,none),(8,none),(9,none),(10,none),(11,none),(12,none),(13,some []),(14,none),(15,some [])]⟩ ⟨[],[]⟩]else if i=2021 then [.ord ⟨[(0,none),(1,none),(2,none),(3,none),(4,some [])]⟩]else if i=16 then [.adB 6 33 61 105 2,.adB 6 34 62 230 2]else if i=1021 then [.frz 61,.frz 62]else chL i) zat func96 rfl call96 ntmps96 (zle rfl) results96 (fun hok=> ?_);simp only[ZE,seval,KE];refine⟨by kernel_rfl,zaz.i b1 ?_⟩;simp only[ZE,seval,KE];refine zaz.i o1 ?_;simp only[ZE,seval,KE];refine zaz.i b2 ?_;simp only[ZE,seval,KE,hk2];refine EFn.p ?_;simp only[ZE,seval,KE];refine zar.i (n1) ?_;simp only[ZE,seval,KE];refine EFn.p ?_;simp only[ZE,seval,KE];refine zar.i (o2) ?_;rcases(show k=1\/k=2\/k=3\/k=4\/k=5\/k=6\/k=7\/k=8\/k=9 by omega)with rfl | rfl | rfl | rfl | rfl | rfl | rfl | rfl | rfl
 ·simp only[ZE,seval,KE,Int.natCast_one,↓zA7,↓zA8,↓zA9,zBN.eq_1,zBI.eq_1,d9,w9];refine EFn.p ?_;simp only[ZE,seval,KE];refine zar.i (q1) ?_;simp only[ZE,seval,KE,↓zA7,↓zA8,↓zA9,zBN.eq_1,zBI.eq_1];refine EFn.p ?_;simp only[ZE,seval,KE];refine zar.i (o8) ?_;simp only[ZE,seval,KE,↓zA7,↓zA8,↓zA9,zBN.eq_1,zBI.eq_1];simp only[ZE,seval,KE,d8,w8,m8,Nat.add_zero,decide_true,decide_false,zIR,zBJ,zb6,x0,n0,r0,wac,wai,wah,Expr.op,Expr.name,Expr.k,Expr.w,Expr.args,e0E',↓zA7,↓zA8,↓zA9,zBN.eq_1,zBI.eq_1]
 ·simp only[ZE,seval,KE,Int.natCast_one,↓zA7,↓zA8,↓zA9,zBN.eq_1,zBI.eq_1,d9,w9];refine EFn.p ?_;simp only[ZE,seval,KE];refine zar.i (q1) ?_;simp only[ZE,seval,KE,↓zA7,↓zA8,↓zA9,zBN.eq_1,zBI.eq_1];refine EFn.p ?_;simp only[ZE,seval,KE];refine zar.i (o8) ?_;simp only[ZE,seval,KE,↓zA7,↓zA8,↓zA9,zBN.eq_1,zBI.eq_1];simp only[ZE,seval,KE,d8,w8,m8,Nat.add_zero,decide_true,decide_false,zIR,zBJ,zb6,x0,n0,r0,wac,wai,wah,Expr.op,Expr.name,Expr.k,Expr.w,Expr.args,e0E',↓zA7,↓zA8,↓zA9,zBN.eq_1,zBI.eq_1]
 ·simp only[ZE,seval,KE,Int.natCast_one,↓zA7,↓zA8,↓zA9,zBN.eq_1,zBI.eq_1,d9,w9];refine EFn.p ?_;simp only[ZE,seval,KE];refine zar.i (q1) ?_;simp only[ZE,seval,KE,↓zA7,↓zA8,↓zA9,zBN.eq_1,zBI.eq_1];refine EFn.p ?_;simp only[ZE,seval,KE];refine zar.i (o4) ?_;simp only[ZE,seval,KE,↓zA7,↓zA8,↓zA9,zBN.eq_1,zBI.eq_1];refine EFn.p ?_;simp only[ZE,seval,KE];refine zar.i (q2) ?_;simp only[ZE,seval,KE,↓zA7,↓zA8,↓zA9,zBN.eq_1,zBI.eq_1];refine EFn.p ?_;simp only[ZE,seval,KE];refine zar.i (o8) ?_;simp only[ZE,seval,KE,↓zA7,↓zA8,↓zA9,zBN.eq_1,zBI.eq_1];simp only[ZE,seval,KE,d8,w8,m8,Nat.add_zero,decide_true,decide_false,zIR,zBJ,zb6,x0,n0,r0,wac,wai,wah,Expr.op,Expr.name,Expr.k,Expr.w,Expr.args,e0E',↓zA7,↓zA8,↓zA9,zBN.eq_1,zBI.eq_1]
 ·simp only[ZE,seval,KE,Int.natCast_one,↓zA7,↓zA8,↓zA9,zBN.eq_1,zBI.eq_1,d9,w9];refine EFn.p ?_;simp only[ZE,seval,KE];refine zar.i (q1) ?_;simp only[ZE,seval,KE,↓zA7,↓zA8,↓zA9,zBN.eq_1,zBI.eq_1];refine EFn.p ?_;simp only[ZE,seval,KE];refine zar.i (o4) ?_;simp only[ZE,seval,KE,↓zA7,↓zA8,↓zA9,zBN.eq_1,zBI.eq_1];refine EFn.p ?_;simp only[ZE,seval,KE];refine zar.i (q2) ?_;simp only[ZE,seval,KE,↓zA7,↓zA8,↓zA9,zBN.eq_1,zBI.eq_1];refine EFn.p ?_;simp only[ZE,seval,KE];refine zar.i (o6) ?_;simp only[ZE,seval,KE,↓zA7,↓zA8,↓zA9,zBN.eq_1,zBI.eq_1];refine EFn.p ?_;simp only[ZE,seval,KE];refine zar.i (q3) ?_;simp only[ZE,seval,KE,↓zA7,↓zA8,↓zA9,zBN.eq_1,zBI.eq_1];refine EFn.p ?_;simp only[ZE,seval,KE];refine zar.i (o8) ?_;simp only[ZE,seval,KE,↓zA7,↓zA8,↓zA9,zBN.eq_1,zBI.eq_1];refine EFn.p ?_;simp only[ZE,seval,KE];refine zar.i (x3) ?_;simp only[ZE,seval,KE,↓zA7,↓zA8,↓zA9,zBN.eq_1,zBI.eq_1];by_cases h7:y / 8 % 8=7
  ·simp only[ZE,seval,KE,d8,w8,m8,h7,decide_true,decide_false,↓zA7,↓zA8,↓zA9,zBN.eq_1,zBI.eq_1];refine EFn.p ?_;simp only[ZE,seval,KE];refine zar.i (nn) ?_;simp only[ZE,seval,KE,d8,w8,m8,h7,decide_true,decide_false,zIR,zBJ,zb6,x0,n0,r0,wac,wai,wah,Expr.op,Expr.name,Expr.k,Expr.w,Expr.args,e0E',↓zA7,↓zA8,↓zA9,zBN.eq_1,zBI.eq_1]
  ·simp only[ZE,seval,KE,d8,w8,m8,h7,decide_true,decide_false,zIR,zBJ,zb6,x0,n0,r0,wac,wai,wah,Expr.op,Expr.name,Expr.k,Expr.w,Expr.args,e0E',↓zA7,↓zA8,↓zA9,zBN.eq_1,zBI.eq_1]
 ·simp only[ZE,seval,KE,Int.natCast_one,↓zA7,↓zA8,↓zA9,zBN.eq_1,zBI.eq_1,d9,w9];refine EFn.p ?_;simp only[ZE,seval,KE];refine zar.i (q1) ?_;simp only[ZE,seval,KE,↓zA7,↓zA8,↓zA9,zBN.eq_1,zBI.eq_1];refine EFn.p ?_;simp only[ZE,seval,KE];refine zar.i (o8) ?_;simp only[ZE,seval,KE,↓zA7,↓zA8,↓zA9,zBN.eq_1,zBI.eq_1];refine EFn.p ?_;simp only[ZE,seval,KE];refine zar.i (x3) ?_;simp only[ZE,seval,KE,↓zA7,↓zA8,↓zA9,zBN.eq_1,zBI.eq_1];by_cases h7:y / 8 % 8=7
  ·simp only[ZE,seval,KE,d8,w8,m8,h7,decide_true,decide_false,↓zA7,↓zA8,↓zA9,zBN.eq_1,zBI.eq_1];refine EFn.p ?_;simp only[ZE,seval,KE];refine zar.i (nn) ?_;simp only[ZE,seval,KE,d8,w8,m8,h7,decide_true,decide_false,zIR,zBJ,zb6,x0,n0,r0,wac,wai,wah,Expr.op,Expr.name,Expr.k,Expr.w,Expr.args,e0E',↓zA7,↓zA8,↓zA9,zBN.eq_1,zBI.eq_1]
  ·simp only[ZE,seval,KE,d8,w8,m8,h7,decide_true,decide_false,zIR,zBJ,zb6,x0,n0,r0,wac,wai,wah,Expr.op,Expr.name,Expr.k,Expr.w,Expr.args,e0E',↓zA7,↓zA8,↓zA9,zBN.eq_1,zBI.eq_1]
 ·simp only[ZE,seval,KE,Int.natCast_one,↓zA7,↓zA8,↓zA9,zBN.eq_1,zBI.eq_1,d9,w9];refine EFn.p ?_;simp only[ZE,seval,KE];refine zar.i (q1) ?_;simp only[ZE,seval,KE,↓zA7,↓zA8,↓zA9,zBN.eq_1,zBI.eq_1];refine EFn.p ?_;simp only[ZE,seval,KE];refine zar.i (o4) ?_;simp only[ZE,seval,KE,↓zA7,↓zA8,↓zA9,zBN.eq_1,zBI.eq_1];refine EFn.p ?_;simp only[ZE,seval,KE];refine zar.i (q2) ?_;simp only[ZE,seval,KE,↓zA7,↓zA8,↓zA9,zBN.eq_1,zBI.eq_1];refine EFn.p ?_;simp only[ZE,seval,KE];refine zar.i (o6) ?_;simp only[ZE,seval,KE,↓zA7,↓zA8,↓zA9,zBN.eq_1,zBI.eq_1];refine EFn.p ?_;simp only[ZE,seval,KE];refine zar.i (q3) ?_;simp only[ZE,seval,KE,↓zA7,↓zA8,↓zA9,zBN.eq_1,zBI.eq_1];refine EFn.p ?_;simp only[ZE,seval,KE];refine zar.i (o8) ?_;simp only[ZE,seval,KE,↓zA7,↓zA8,↓zA9,zBN.eq_1,zBI.eq_1];refine EFn.p ?_;simp only[ZE,seval,KE];refine zar.i (x3) ?_;simp only[ZE,seval,KE,↓zA7,↓zA8,↓zA9,zBN.eq_1,zBI.eq_1];by_cases h7:y / 8 % 8=7
  ·simp only[ZE,seval,KE,d8,w8,m8,h7,decide_true,decide_false,↓zA7,↓zA8,↓zA9,zBN.eq_1,zBI.eq_1];refine EFn.p ?_;simp only[ZE,seval,KE];refine zar.i (nn) ?_;simp only[ZE,seval,KE,↓zA7,↓zA8,↓zA9,zBN.eq_1,zBI.eq_1];refine EFn.p ?_;simp only[ZE,seval,KE];refine zar.i (x2) ?_;simp only[ZE,seval,KE,↓zA7,↓zA8,↓zA9,zBN.eq_1,zBI.eq_1];refine EFn.p ?_;simp only[ZE,seval,KE];refine zar.i (x1) ?_;simp only[ZE,seval,KE,↓zA7,↓zA8,↓zA9,zBN.eq_1,zBI.eq_1];simp only[ZE,seval,KE,d8,w8,m8,h7,decide_true,decide_false,zIR,zBJ,zb6,x0,n0,r0,wac,wai,wah,Expr.op,Expr.name,Expr.k,Expr.w,Expr.args,e0E',↓zA7,↓zA8,↓zA9,zBN.eq_1,zBI.eq_1]
  ·simp only[ZE,seval,KE,d8,w8,m8,h7,decide_true,decide_false,↓zA7,↓zA8,↓zA9,zBN.eq_1,zBI.eq_1];refine EFn.p ?_;simp only[ZE,seval,KE];refine zar.i (x2) ?_;simp only[ZE,seval,KE,↓zA7,↓zA8,↓zA9,zBN.eq_1,zBI.eq_1];refine EFn.p ?_;simp only[ZE,seval,KE];refine zar.i (x1) ?_;simp only[ZE,seval,KE,↓zA7,↓zA8,↓zA9,zBN.eq_1,zBI.eq_1];simp only[ZE,seval,KE,d8,w8,m8,h7,decide_true,decide_false,zIR,zBJ,zb6,x0,n0,r0,wac,wai,wah,Expr.op,Expr.name,Expr.k,Expr.w,Expr.args,e0E',↓zA7,↓zA8,↓zA9,zBN.eq_1,zBI.eq_1]
 ·simp only[ZE,seval,KE,Int.natCast_one,↓zA7,↓zA8,↓zA9,zBN.eq_1,zBI.eq_1,d9,w9];refine EFn.p ?_;simp only[ZE,seval,KE];refine zar.i (o8) ?_;simp only[ZE,seval,KE,↓zA7,↓zA8,↓zA9,zBN.eq_1,zBI.eq_1];refine EFn.p ?_;simp only[ZE,seval,KE];refine zar.i (x3) ?_;simp only[ZE,seval,KE,↓zA7,↓zA8,↓zA9,zBN.eq_1,zBI.eq_1];by_cases h7:y / 8 % 8=7
  ·simp only[ZE,seval,KE,d8,w8,m8,h7,decide_true,decide_false,↓zA7,↓zA8,↓zA9,zBN.eq_1,zBI.eq_1];refine EFn.p ?_;simp only[ZE,seval,KE];refine zar.i (nn) ?_;simp only[ZE,seval,KE,d8,w8,m8,h7,decide_true,decide_false,zIR,zBJ,zb6,x0,n0,r0,wac,wai,wah,Expr.op,Expr.name,Expr.k,Expr.w,Expr.args,e0E',↓zA7,↓zA8,↓zA9,zBN.eq_1,zBI.eq_1]
  ·simp only[ZE,seval,KE,d8,w8,m8,h7,decide_true,decide_false,zIR,zBJ,zb6,x0,n0,r0,wac,wai,wah,Expr.op,Expr.name,Expr.k,Expr.w,Expr.args,e0E',↓zA7,↓zA8,↓zA9,zBN.eq_1,zBI.eq_1]
 ·simp only[ZE,seval,KE,Int.natCast_one,↓zA7,↓zA8,↓zA9,zBN.eq_1,zBI.eq_1,d9,w9];refine EFn.p ?_;simp only[ZE,seval,KE];refine zar.i (o8) ?_;simp only[ZE,seval,KE,↓zA7,↓zA8,↓zA9,zBN.eq_1,zBI.eq_1];refine EFn.p ?_;simp only[ZE,seval,KE];refine zar.i (x3) ?_;simp only[ZE,seval,KE,↓zA7,↓zA8,↓zA9,zBN.eq_1,zBI.eq_1];by_cases h7:y / 8 % 8=7
  ·simp only[ZE,seval,KE,d8,w8,m8,h7,decide_true,decide_false,↓zA7,↓zA8,↓zA9,zBN.eq_1,zBI.eq_1];refine EFn.p ?_;simp only[ZE,seval,KE];refine zar.i (nn) ?_;simp only[ZE,seval,KE,↓zA7,↓zA8,↓zA9,zBN.eq_1,zBI.eq_1];refine EFn.p ?_;simp only[ZE,seval,KE];refine zar.i (x2) ?_;simp only[ZE,seval,KE,↓zA7,↓zA8,↓zA9,zBN.eq_1,zBI.eq_1];simp only[ZE,seval,KE,d8,w8,m8,h7,decide_true,decide_false,zIR,zBJ,zb6,x0,n0,r0,wac,wai,wah,Expr.op,Expr.name,Expr.k,Expr.w,Expr.args,e0E',↓zA7,↓zA8,↓zA9,zBN.eq_1,zBI.eq_1]
  ·simp only[ZE,seval,KE,d8,w8,m8,h7,decide_true,decide_false,↓zA7,↓zA8,↓zA9,zBN.eq_1,zBI.eq_1];refine EFn.p ?_;simp only[ZE,seval,KE];refine zar.i (x2) ?_;simp only[ZE,seval,KE,↓zA7,↓zA8,↓zA9,zBN.eq_1,zBI.eq_1];simp only[ZE,seval,KE,d8,w8,m8,h7,decide_true,decide_false,zIR,zBJ,zb6,x0,n0,r0,wac,wai,wah,Expr.op,Expr.name,Expr.k,Expr.w,Expr.args,e0E',↓zA7,↓zA8,↓zA9,zBN.eq_1,zBI.eq_1]
 ·simp only[ZE,seval,KE,Int.natCast_one,↓zA7,↓zA8,↓zA9,zBN.eq_1,zBI.eq_1,d9,w9];refine EFn.p ?_;simp only[ZE,seval,KE];refine zar.i (o8) ?_;simp only[ZE,seval,KE,↓zA7,↓zA8,↓zA9,zBN.eq_1,zBI.eq_1,d9,w9];refine EFn.p ?_;simp only[ZE,seval,KE];refine zar.i (n2) ?_;simp only[ZE,seval,KE];refine za1 (fun i=>if i=2001 then [.ord ⟨[(0,none),(1,none),(2,none),(3,none),(4,none),(5,some []),(6,some [])]⟩]else if i=2019 then [.flt ⟨[(0,none),(1,none),(2,none),(3,none),(4,none),(5,none),(6,none),(7,none),(8,some []),(9,none),(10,some [])]⟩ ⟨[],[]⟩]else if i=2020 then [.flt ⟨[(0,none),(1,none),(2,none),(3,none),(4,none),(5,none),(6,none),(7,none),(8,none),(9,none),(10,none),(11,none),(12,none),(13,some []),(14,none),(15,some [])]⟩ ⟨[],[]⟩]else if i=2021 then [.ord ⟨[(0,none),(1,none),(2,none),(3,none),(4,some [])]⟩]else if i=16 then [.adB 6 33 61 105 2,.adB 6 34 62 230 2]else if i=1021 then [.frz 61,.frz 62]else chL i) zat (y / 8 % 3) (fun _=>True) (fun i=>([(1,.bp 1 0),(2,.bp 2 0),(4,.d (eI y)),(6,.bp 6 0),(7,.d (eI i))],[(1,.box [.d (eBy l),.d (eI ((a+8:Nat):Int))]),(2,.box [.d (eI 0),.d (eSb wak),.d (eI 0),.d (eSb wak),.d (eI 0),.d (eSb wak),.d (eI 0),.d (eSb wak),.d (eI 0),.d (eSb wak),.d (eI 0),.d (eSb wak),.d (eI 0),.d (eSb wak),.nils,.d (eI 0),.d (eSb wak),.d (eI 0),.d (eSb wak),.d (eI 0),.d (eSb wak),.nils,.d (eI 0),.d (eSb wak),.d (eI 0),.d (eSb wak),.d (eI 0),.d (eSb wak),.nils,.d (eI 0),.d (eSb wak),.d (eI 0),.d (eSb wak),.nils,.nils,.nils,.d (eI 0)]),(6,.box [.d (eI 9),.d (eSb N1),.d (eI 0),.d (eSb wak),.d (eI 0),.d (eSb wak),.d (eI 0),.d (eSb wak),.d (eI 0),.d (eSb wak),.d (eI 0),.d (eSb wak),.d (eI 0),.d (eSb wak),.nils,.d (eI 0),.d (eSb wak),.d (eI 0),.d (eSb wak),.d (eI 0),.d (eSb wak),.nils,.d (eI 0),.d (eSb wak),.d (eI 0),.d (eSb wak),.d (eI 0),.d (eSb wak),.nils,.d (eI 0),.d (eSb wak),.d (eI 0),.d (eSb N2),.ar 61 i,.ar 62 i]),(61,.arr 105 2 .flat ((zIT l (a+8) i).map zgL)),(62,.arr 230 2 .flat ((zHI l (a+8) y i).map zjO))])) trivial ?_ ?_ (fun i hi _=> ?_)
  ·simp only[ZE,seval,KE]
  ·simp only[ZE,seval,KE,zIT,zHI,List.range_zero,wac]
  have hlA:(zIT l (a+8) i).length =i:=by simp[zIT]
  have hlB:(zHI l (a+8) y i).length =i:=by simp[zHI]
  by_cases h:i<y / 8 % 3
  ·have hw:=zaq (show i<9223372036854775807 by omega);have hi2:i<=2:=by omega
   have hm2:IntKind.i64.wrap (2*(i:Int))=((2*i:Nat):Int):=by rw[zaQ (by omega) (by omega)]; simp
   have hiy:IntKind.i64.wrap ((i:Int)+(y:Int))=((i+y:Nat):Int):=by rw[zaQ (by omega) (by omega)]; simp
   have oa:=on_q l (a+8) (2*i) (by omega) (by omega);have qa:=num_q l (a+8+2*i) hb (by omega);have ob:=on_q l (a+8) i (by omega) (by omega);have bb:=zF8 l (a+8+i) hb (by omega);have hz:=zCZ hb (a+8+i);have nc:=zG9 (i+y) (by omega);have hA:zIT l (a+8) (i+1)=zIT l (a+8) i++[zHM l (a+8+2*i)]:=by simp[zIT,List.range_succ]
   have hB:zHI l (a+8) y (i+1)=zHI l (a+8) y i++[⟨zCk (zAY l (a+8+i)),zCk (i+y)⟩]:=by simp[zHI,List.range_succ]
   obtain⟨z,hzz⟩:=zX (zAY l (a+8+i));rw[hzz]at bb hz hB;have nb:=zG9 z (by omega);simp only[ZE,seval,KE]at oa;simp only[ZE,seval,KE]at qa;simp only[ZE,seval,KE]at ob;simp only[ZE,seval,KE]at bb;simp only[ZE,seval,KE]at nb;simp only[ZE,seval,KE]at nc;simp only[ZE,seval,KE,d8,w8,m3,zaw h,hm2];refine⟨by kernel_rfl,zaz.i oa ?_⟩;simp only[ZE,seval,KE];refine zaz.i qa ?_;simp only[ZE,seval,KE,hlA,waa];refine⟨⟨by omega,by omega⟩,by rw[wab,waa,hlA]; rfl,by kernel_rfl,zaz.i ob ?_⟩;simp only[ZE,seval,KE];refine zaz.i bb ?_;simp only[ZE,seval,KE];refine zaz.i nb ?_;simp only[ZE,seval,KE,hiy];refine zaz.i nc ?_;simp only[ZE,seval,KE,hlB,hlA,waa,hA,hB,waf,wae,wac];exact⟨⟨by omega,by omega⟩,by rw[wab,waa,hlB]; rfl,h,by rw[hw]⟩
  ·have:i=y / 8 % 3:=by omega
   subst this;simp only[ZE,seval,KE,d8,w8,m3,zaI (wao (y / 8 % 3)),hlA,hlB,waa];refine⟨by kernel_rfl,zaz.i o12 ?_⟩;simp only[ZE,seval,KE,zIR,zBJ,zb6,x0,n0,r0,wac,wai,wah,Expr.op,Expr.name,Expr.k,Expr.w,Expr.args,e0E']
theorem itemG_pos(l:List Nat)(a:Nat):(zIU l a).2 <=a+400:=by
 have h3:=zId l 3 (a+8);have h2:=zId l 2 (zCC l 3 (a+8)).2;have h1:=zId l 2 (zCC l 2 (zCC l 3 (a+8)).2).2;simp only[pB]at h1 h2 h3;unfold zIU zgm;simp only[]
 repeat' split
 all_goals (simp only; omega)
def parG(l:List Nat)(i:Nat):List Bts:=(List.range i).map fun j=>zCk (zAY l 1 / 8+j)
theorem parG_0(l:List Nat):parG l 0=[]:=rfl
theorem mod_q(l:List Nat)(hb: ∀b∈l,b<256):FnP prog 60 [eBy l] (.d (.agg (zaC (zDu l)))) []:=by
 have b0:=zF8 l 0 hb (by omega);have b1:=zF8 l 1 hb (by omega);have o1:=on_q l 0 1 (by omega) (by omega);have o2:=on_q l 0 2 (by omega) (by omega);have hx:=zCZ hb 0;have hy:=zCZ hb 1;rw[Nat.zero_add]at o1 o2;have hP:zD0 l=parG l (zAY l 0 / 8 % 3):=rfl;have hpn: ∀i,parG l (i+1)=parG l i++[zCk (zAY l 1 / 8+i)]:=fun i=>by simp[parG,List.range_succ]
 have hpl: ∀i,(parG l i).length =i:=fun i=>by simp[parG]
 unfold zDu;rw[hP];obtain⟨x,hxx⟩:=zX (zAY l 0);obtain⟨y,hyy⟩:=zX (zAY l 1);rw[hxx]at b0 hx ⊢;rw[hyy]at b1 hy hpn ⊢;have n0':=zG9 x (by omega);have n1:=zG9 y (by omega);obtain⟨N0,hN0⟩: ∃N,zCk x=N:=⟨_,rfl⟩;obtain⟨N1,hN1⟩: ∃N,zCk y=N:=⟨_,rfl⟩;rw[hN0]at n0' ⊢;rw[hN1]at n1 ⊢;have d8:(x:Int).tdiv 8=((x / 8:Nat):Int):=zHp x 8;have w8:IntKind.i64.wrap ((x / 8:Nat):Int)=((x / 8:Nat):Int):=zGr (by omega);have m3:(((x / 8:Nat):Int)).tmod 3=((x / 8 % 3:Nat):Int):=zI0 (x / 8) 3;have dy8:(y:Int).tdiv 8=((y / 8:Nat):Int):=zHp y 8;have wy8:IntKind.i64.wrap ((y / 8:Nat):Int)=((y / 8:Nat):Int):=zGr (by omega);simp only[ZE,seval,KE]at b0;simp only[ZE,seval,KE]at b1;simp only[ZE,seval,KE]at o1;simp only[ZE,seval,KE]at o2;simp only[ZE,seval,KE]at n0';simp only[ZE,seval,KE]at n1;refine FnP.of_eC (own:=[]) (fun i=>if i=2002 then [.flt ⟨[(0,none),(1,none),(2,none),(3,none),(4,none),(5,none),(6,none),(7,none),(9,some [])]⟩ ⟨[8],[(9,[8])]⟩]else if i=2006 then [.flt ⟨[(0,none),(1,none),(2,none),(3,none),(4,none),(5,none),(6,none),(7,none),(8,none),(9,none),(10,some []),(11,none),(12,some [])]⟩ ⟨[],[]⟩]else if i=3 then [.adB 4 2 71 9 1]else if i=7 then [.frz 71,.adB 4 3 72 114 35]else if i=1012 then [.frz 72]else chL i) zat func60 rfl call60 ntmps60 (zle rfl) results60 (fun hok=> ?_);have hl:l.length<=9223372036854775807:=(za9 (zaM hok).1).1;simp only[ZE,seval,KE];refine⟨by kernel_rfl,zaz.i b0 ?_⟩;simp only[ZE,seval,KE];refine zaz.i n0' ?_;simp only[ZE,seval,KE];refine zaz.i o1 ?_;simp only[ZE,seval,KE];refine zaz.i b1 ?_;simp only[ZE,seval,KE];refine zaz.i n1 ?_;simp only[ZE,seval,KE];refine za1 (fun i=>if i=2002 then [.flt ⟨[(0,none),(1,none),(2,none),(3,none),(4,none),(5,none),(6,none),(7,none),(9,some [])]⟩ ⟨[8],[(9,[8])]⟩]else if i=2006 then [.flt ⟨[(0,none),(1,none),(2,none),(3,none),(4,none),(5,none),(6,none),(7,none),(8,none),(9,none),(10,some []),(11,none),(12,some [])]⟩ ⟨[],[]⟩]else if i=3 then [.adB 4 2 71 9 1]else if i=7 then [.frz 71,.adB 4 3 72 114 35]else if i=1012 then [.frz 72]else chL i) zat (x / 8 % 3) (fun _=>True) (fun i=>([(0,.d (eBy l)),(2,.bp 2 0),(3,.bp 3 0),(4,.bp 4 0),(5,.d (eI i))],[(2,.box [.d (eSb e0),.d (eSb e0),.nils,.nils]),(3,.box [.d (eBy l),.d (eI 0)]),(4,.box [.d (eSb N0),.d (eSb N1),.ar 71 i,.nils]),(71,.arr 9 1 .flat ((parG l i).map fun s=>[eSb s]))])) trivial ?_ ?_ (fun i hi _=> ?_)
 ·simp only[ZE,seval,KE,e0F]
 ·simp only[ZE,seval,KE,e0F,parG_0,wac]
 by_cases h:i<x / 8 % 3
 ·have hw:=zaq (show i<9223372036854775807 by omega);have hn:=zG9 (y / 8+i) (by omega);have hs:IntKind.i64.wrap (((y / 8:Nat):Int)+(i:Int))=((y / 8+i:Nat):Int):=by rw[zaQ (by omega) (by omega)]; simp
  simp only[ZE,seval,KE]at hn;simp only[ZE,seval,KE];refine EFn.p ?_;simp only[ZE,seval,KE];refine zar.i (b0) ?_;simp only[ZE,seval,KE,d8,w8,m3,zaw h];refine⟨by kernel_rfl,zaz.i o1 ?_⟩;simp only[ZE,seval,KE];refine zaz.i b1 ?_;simp only[ZE,seval,KE,dy8,wy8,hs];refine zaz.i hn ?_;simp only[ZE,seval,KE,hpl,waa,hpn,waf,wae,wac];exact⟨⟨by omega,by omega⟩,by rw[wab,waa,hpl]; rfl,h,by rw[hw]⟩
 have:i=x / 8 % 3:=by omega
 subst this;simp only[ZE,seval,KE];refine EFn.p ?_;simp only[ZE,seval,KE];refine zar.i (b0) ?_;simp only[ZE,seval,KE,d8,w8,m3,zaI (wao (x / 8 % 3)),hpl];refine EFn.p ?_;simp only[ZE,seval,KE];refine zar.i (o2) ?_;simp only[ZE,seval,KE,hpl];obtain⟨PS,hPS⟩:=zX (parG l (x / 8 % 3));simp only[hPS];obtain⟨R,hR⟩:=zX (zG2 l 4 [] 2);simp only[hR];refine zgR (X:=List Item×Nat) (fun _=>(fun i=>if i=2002 then [.flt ⟨[(0,none),(1,none),(2,none),(3,none),(4,none),(5,none),(6,none),(7,none),(9,some [])]⟩ ⟨[8],[(9,[8])]⟩]else if i=2006 then [.flt ⟨[(0,none),(1,none),(2,none),(3,none),(4,none),(5,none),(6,none),(7,none),(8,none),(9,none),(10,some []),(11,none),(12,some [])]⟩ ⟨[],[]⟩]else if i=3 then [.adB 4 2 71 9 1]else if i=7 then [.frz 71,.adB 4 3 72 114 35]else if i=1012 then [.frz 72]else chL i)) zat 4 (fun i z=>z.1.length=i/\z.2<=2+400*i/\R=zG2 l (4-i) z.1 z.2)
  (fun _ z=>([(0,.d (eBy l)),(2,.bp 2 0),(3,.bp 3 0),(4,.bp 4 0)],[(2,.box [.d (eSb e0),.d (eSb e0),.nils,.nils]),(3,.box [.d (eBy l),.d (eI z.2)]),(4,.box [.d (eSb N0),.d (eSb N1),.d (.sl (PS.map fun s=>[eSb s])),.ar 72 z.1.length]),(72,.arr 114 35 .flat (z.1.map zaK))])) ([],2) ⟨rfl,by simp,hR.symm⟩ ?_ ?_ (fun i z hi hI=> ?_)
 ·simp only[ZE,seval,KE]
 ·simp only[ZE,seval,KE,e0F,List.length_nil,wac]
 obtain⟨acc,c⟩:=z;obtain⟨I1,I2,I3⟩:=hI;simp only at I1 I2 I3;have hq:=item_q l hb c (by omega);have hp:=itemG_pos l c;have g1:((acc.length:Int)==0)=decide (acc.length=0):=by rw[waq]; simp
 have g2:decide ((c:Int)<(l.length:Int))=decide (c<l.length):=by rw[decide_eq_decide]; omega
 have g3:decide ((acc.length:Int)<4)=decide (acc.length<4):=by rw[decide_eq_decide]; omega
 by_cases hgo:i<4/\(acc.length=0\/c<l.length)
 ·obtain⟨h4,hor⟩:=hgo;rw[show 4-i=4-(i+1)+1 by omega]at I3;unfold zG2 at I3;rw[if_pos hor]at I3;obtain⟨X,hX⟩:=zX (zIU l c);rw[hX]at hq hp I3;obtain⟨X1,X2⟩:=X;simp only at hp;have hl9:acc.length+1=(acc++[X1]).length :=by simp
  unfold zIR at hq;rw[zBJ]at hq;simp only[ZE,seval,KE,wai,wah]at hq;have hmap:acc.map zaK++[zaK X1]=(acc++[X1]).map zaK:=by rw[waf]; rfl
  rw[zBJ]at hmap;simp only[ZE,seval,KE]at hmap;have g5:decide (acc.length<4)=true:=by simp; omega
  obtain⟨u1,hu1⟩: ∃u,decide (acc.length=0)=u:=⟨_,rfl⟩;obtain⟨u2,hu2⟩: ∃u,decide (c<l.length)=u:=⟨_,rfl⟩;cases u1
  case true=>
   simp only[ZE,seval,KE,waa,g1,g2,g3,g5,hu1,↓zA7,↓zA8,↓zA9,zBN.eq_1,zBI.eq_1];refine EFn.p ?_;simp only[ZE,seval,KE];refine zar.i (hq) ?_;simp only[ZE,seval,KE,waa,hmap];refine⟨⟨by omega,by omega⟩,by simp,?_⟩;refine⟨by omega,(acc++[X1],X2),⟨by rw[<-hl9,I1],by omega,by rw[show 3-i=4-(i+1) by omega]; exact I3⟩,?_,?_⟩
   ·simp only[ZE,seval]
   ·simp only[ZE,seval,KE,<-hl9]
  case false=>
   have hu3:u2=true:=by
    rcases hor with h | h
    ·rw[decide_eq_true h]at hu1; cases hu1
    ·rw[<-hu2]; exact decide_eq_true h
   subst hu3;simp only[ZE,seval,KE,waa,g1,g2,g3,g5,hu1,hu2,↓zA7,↓zA8,↓zA9,zBN.eq_1,zBI.eq_1];refine EFn.p ?_;simp only[ZE,seval,KE];refine zar.i (hq) ?_;simp only[ZE,seval,KE,waa,hmap];refine⟨⟨by omega,by omega⟩,by simp,?_⟩;refine⟨by omega,(acc++[X1],X2),⟨by rw[<-hl9,I1],by omega,by rw[show 3-i=4-(i+1) by omega]; exact I3⟩,?_,?_⟩
   ·simp only[ZE,seval]
   ·simp only[ZE,seval,KE,<-hl9]
 ·have hR2:R=acc:=by
   rcases wam i 4 with h4 | h4
   ·rw[I3,show 4-i=4-(i+1)+1 by omega];unfold zG2;rw[if_neg (fun h=>hgo ⟨h4,h⟩)]
   ·rw[I3,show 4-i=0 by omega];rfl
  have g4:decide (acc.length=0)=false:=by
   rw[decide_eq_false_iff_not];exact fun h=>hgo ⟨by omega,.inl h⟩
  subst hR2;obtain⟨u2,hu2⟩: ∃u,decide (c<l.length)=u:=⟨_,rfl⟩;cases u2
  case false=>
   simp only[ZE,seval,KE,waa,g1,g2,g3,g4,hu2,↓zA7,↓zA8,↓zA9,zBN.eq_1,zBI.eq_1]
  case true=>
   have g5:decide (R.length<4)=false:=by
    rw[decide_eq_false_iff_not];intro h;exact hgo ⟨by omega,.inr (of_decide_eq_true hu2)⟩
   simp only[ZE,seval,KE,waa,g1,g2,g3,g4,g5,hu2,↓zA7,↓zA8,↓zA9,zBN.eq_1,zBI.eq_1]
theorem file_q(x:List (List Nat))(hx: ∀l∈x,∀b∈l,b<256):FnP prog 17 [.agg [.sl (x.map fun l=>[eBy l])]] (.d (.agg [zax (zE4 x)])) []:=by
 have hm0:=mod_q [] (by simp);refine FnP.of_eC (own:=[]) (fun i=>if i=2005 then [.flt ⟨[(0,none),(1,none),(2,none),(3,none),(4,none),(5,none),(6,none),(7,none),(8,none),(9,some []),(10,none),(11,some [])]⟩ ⟨[],[]⟩]else if i=2007 then [.flt ⟨[(0,none),(1,none),(2,none),(3,none),(4,none),(5,some []),(6,none),(7,some [])]⟩ ⟨[],[]⟩]else if i=2 then [.adB 3 0 81 46 4]else if i=1008 then [.frz 81]else chL i) zat func17 rfl call17 ntmps17 (zle rfl) results17 (fun hok=> ?_);have hl:x.length<=9223372036854775807:=by
  simp only[D.okL,D.ok,waa]at hok;have:=hok.1.1.1;unfold maxLen at this;omega
 obtain⟨n,hn⟩:=zX (min x.length 3);have hlen: ∀i,i<=n->((x.take i).map zDu).length =i:=fun i hi=>by rw[waa,List.length_take]; omega
 simp only[ZE,seval,KE];refine za1 (fun i=>if i=2005 then [.flt ⟨[(0,none),(1,none),(2,none),(3,none),(4,none),(5,none),(6,none),(7,none),(8,none),(9,some []),(10,none),(11,some [])]⟩ ⟨[],[]⟩]else if i=2007 then [.flt ⟨[(0,none),(1,none),(2,none),(3,none),(4,none),(5,some []),(6,none),(7,some [])]⟩ ⟨[],[]⟩]else if i=2 then [.adB 3 0 81 46 4]else if i=1008 then [.frz 81]else chL i) zat n (fun _=>True) (fun i=>([(1,.bp 1 0),(2,.bp 2 0),(3,.bp 3 0),(4,.d (eI i))],[(1,.box [.d (.sl (x.map fun l=>[eBy l]))]),(2,.box [.nils]),(3,.box [.ar 81 i]),(81,.arr 46 4 .flat (((x.take i).map zDu).map zaC))])) trivial ?_ ?_ (fun i hi _=> ?_)
 ·simp only[ZE,seval,KE]
 ·simp only[ZE,seval,KE,List.take_zero,wac]
 have hw:=zaq (show i<9223372036854775807 by omega);by_cases h:i<n
 ·have h1:i<x.length:=by omega
  have g2:decide ((i:Int)<3)=true:=by simp; omega
  have e2:(x.map fun l=>[eBy l]).getD i []=[eBy x[i]]:=zaa h1 [];have hm:=mod_q x[i] (hx _ (wag h1));have ht:(x.take (i+1)).map zDu=(x.take i).map zDu++[zDu x[i]]:=by rw[List.take_succ_eq_append_getElem h1,waf]; rfl
  obtain⟨y,hy⟩:=zX (x[i]);rw[hy]at e2 hm ht;obtain⟨M,hM⟩:=zX (zDu y);rw[hM]at hm ht;simp only[ZE,seval,KE]at e2;simp only[ZE,seval,KE]at hm;simp only[ZE,seval,KE,waa,zaw h1,g2,↓zA7,↓zA8,↓zA9,zBN.eq_1,zBI.eq_1,zai h1,e2,wal];refine⟨by kernel_rfl,zaz.i hm ?_⟩;simp only[ZE,seval,KE,hlen i (by omega),waa,ht,waf,wae,wac];exact⟨⟨by omega,by omega⟩,by rw[wab,waa,hlen i (by omega)]; rfl,h,by rw[hw]⟩
 have hin:i=n:=by omega
 have hli:=hlen i hi;by_cases h0:x.length=0
 ·have hi0:i=0:=by omega
  have hF:zE4 x=[zDu []]:=if_pos h0;rw[hF];have g1:decide ((0:Int)<(x.length:Int))=false:=by rw[h0]; rfl
  obtain⟨M,hM⟩:=zX (zDu []);rw[hM]at hm0 ⊢;simp only[ZE,seval,KE,wac]at hm0;subst hi0;simp only[ZE,seval,KE,waa,g1,↓zA7,↓zA8,↓zA9,zBN.eq_1,zBI.eq_1,List.take_zero,wac];refine⟨by kernel_rfl,zaz.i hm0 ?_⟩;simp only[ZE,seval,KE,wae,wac]
 ·have hF:zE4 x=(x.take i).map zDu:=by
   unfold zE4;rw[if_neg h0];congr 1;rcases wam x.length 3 with h3 | h3
   ·rw[List.take_of_length_le (by omega),List.take_of_length_le (by omega)]
   ·rw[show i=3 by omega]
  rw[hF];have g3:((i:Int)==0)=false:=beq_eq_false_iff_ne.2 (by omega);obtain⟨u,hu⟩:=zX (decide ((i:Int)<(x.length:Int)));cases u
  case false=>
   simp only[ZE,seval,KE,waa,hu,g3,hli,↓zA7,↓zA8,↓zA9,zBN.eq_1,zBI.eq_1]
  case true=>
   have g2:decide ((i:Int)<3)=false:=by
    have:=of_decide_eq_true hu;simp; omega
   simp only[ZE,seval,KE,waa,hu,g2,g3,hli,↓zA7,↓zA8,↓zA9,zBN.eq_1,zBI.eq_1]
set_option maxHeartbeats 4000000
theorem zJc(x:List (List Nat))(hx: ∀l∈x,∀b∈l,b<256):
  ∃l t T1 e,zE4 x=l/\zCl l=(t,0)/\t.size<=7410/\zEW t= .ok (T1++[(4,e0,e)])/\T1++[(4,e0,e)]=pcT 0 (zAk l)/\T1.length=nT (zAk l)/\T1.length<=7410/\l.all zAG=true/\zAQ t=(l,0,0)/\
   ((∀m∈l,modR itemR m)/\l.length<=1000000/\(zDF l l.length (e0,true)).1.size <=LIM)/\zI1 T1<=7410/\(∀t∈T1,goodT t)/\zI1 T1+T1.length<=7410:=by
 obtain⟨h1,h2,h3,h4,h5⟩:=fileG_ok x hx;unfold mz at h2;have hL:=zIX _ (zEf _ h1);have hP:=zFt _ h1 (zGS (zAk (zE4 x)) 0) (by rw[(zDy _ 0).1]) (zDy _ 0).2;obtain⟨T1,e,g1,g2,g3⟩:=zFe hL;have hn:=zGG g3;have hl:T1.length=nT (zAk (zE4 x)):=by
  have:=zIW (zAk (zE4 x)) 0;rw[g1]at this;simpa using this
 exact⟨_,pcB (zAk (zE4 x)),T1,e,rfl,by rw[zIY,if_pos ⟨h1,by omega⟩],by omega,by rw[hL,g1],g1.symm,hl,by omega,h1,zIw (by omega) hL hP,file_r h1 (by omega),by omega,g3,by omega⟩
theorem seps_at(b:Nat):([[eSb (⟨#[32]⟩:ByteArray)],[eSb (⟨#[10]⟩:ByteArray)],[eSb (⟨#[32,32]⟩:ByteArray)],[eSb (⟨#[47,47,32,97,32,125,32,105,110,10]⟩:ByteArray)],[eSb (⟨#[32,10,32]⟩:ByteArray)]]:List (List D)).getD (b % 5) []=[eSb (sepG b)]:=by
 unfold sepG;have h5:b % 5<5:=Nat.mod_lt _ (by decide);obtain⟨m,hm⟩:=zX (b % 5);rw[hm]at h5 ⊢;rcases(show m=0\/m=1\/m=2\/m=3\/m=4 by omega)with rfl | rfl | rfl | rfl | rfl <;> rfl
theorem hsz(b:Nat):(sepG b).size <=10:=by
 unfold sepG;have: ∀m,m<5->(sepL.getD m e0).size <=10:=by decide
 exact this _ (Nat.mod_lt _ (by decide))
theorem zI3(T:List Tok)(k:List Nat)(hT: ∀j,(tk T j).2.1.size <=7410): ∀n,(spS T k n).size <=n*7500
 | 0=>Nat.zero_le _
 | n+1=>by
  have h1:=zI3 T k hT n;have h2:=hT n;have h3:=hsz (k.getD n 0);have e:spS T k (n+1)=spS T k n++(tk T n).2.1 ++sepG (k.getD n 0):=rfl;rw[e,ByteArray.size_append,ByteArray.size_append,Nat.succ_mul];omega
theorem sp_0(T:List Tok)(k:List Nat):spS T k 0=e0:=rfl
theorem spelled_q(T:List Tok)(k:List Nat)(n:Nat)(hn:n<=T.length)(hn2:n<=8000)(hk: ∀b∈k,b<256)(hT: ∀j,(tk T j).2.1.size <=7410):
  FnP prog 20 [zAc T,eI n,eBy k] (.d (eSb (spS T k n))) []:=by
 refine FnP.of_eC (own:=[]) chL zat func20 rfl call20 ntmps20 (zle rfl) results20 (fun hok=> ?_);simp only[ZE,seval,KE,zAc.eq_1];refine za1 chL zat n (fun _=>True) (fun i=>([(0,.d (zAc T)),(1,.d (eI n)),(2,.d (eBy k)),(7,.d (eSb (spS T k i))),(8,.d (eI i))],[])) trivial ?_ ?_ (fun i hi _=> ?_)
 ·simp only[ZE,seval,KE,zAc.eq_1,sp_0,e0]
 ·simp only[ZE,seval,KE,zAc.eq_1,sp_0,e0]
 have hw:=zaq (show i<9223372036854775807 by omega);have hmx:IntKind.i64.max=9223372036854775807:=rfl;by_cases h:i<n
 ·have h1:i<T.length:=by omega
  have e2:=zDl h1;have hz:=zI3 T k hT i;have hz2:=zI3 T k hT (i+1);have hti:=hT i;have he:spS T k (i+1)=spS T k i++(tk T i).2.1 ++sepG (k.getD i 0):=rfl;rw[he]at hz2;obtain⟨t,ht⟩:=zX (tk T i);rw[ht]at e2 he hti hz2;obtain⟨b,hb⟩:=zX (k.getD i 0);rw[hb]at he hz2;have hsa:=seps_at b;have hmod:(b:Int).tmod 5=((b % 5:Nat):Int):=zI0 b 5;have hlt:(0<=((b % 5:Nat):Int)/\((b % 5:Nat):Int)<5)=True:=by simp; omega
  have hbl:(spS T k i++t.2.1).size <=60000000:=by rw[ByteArray.size_append]; omega
  simp only[ZE,seval,KE]at e2;simp only[ZE,seval,KE]at hsa;by_cases hik:i<k.length
  ·have e3:(k.map fun n=>[eU8 n]).getD i []=[eU8 k[i]]:=zaa hik [];have hbb:k[i]=b:=by rw[<-hb]; simp[List.getD,hik]
   rw[hbb]at e3;simp only[ZE,seval,KE]at e3;simp only[ZE,seval,KE,zAc.eq_1,zaw h,zaw h1,zai h1,waa,e2,wal,zaw hik,zai hik,e3,hmod,hlt,hsa,he,↓zA7,↓zA8,↓zA9,zBN.eq_1,zBI.eq_1];have hs2:=hsz b;exact⟨by rw[hmx]; omega,by rw[hmx]; omega,h,by rw[hw]⟩
  ·have hb0:b=0:=by rw[<-hb]; simp[List.getD,hik]
   subst hb0;simp only[ZE,seval,KE,zAc.eq_1,zaw h,zaw h1,zai h1,waa,e2,wal,zaI (Nat.le_of_not_lt hik),he,↓zA7,↓zA8,↓zA9,zBN.eq_1,zBI.eq_1];have hs1:(⟨#[32]⟩:ByteArray).size =1:=rfl;exact⟨by rw[hmx]; omega,by rw[hmx,hs1]; omega,h,rfl,by rw[hw]⟩
 ·have:i=n:=by omega
  subst this;simp only[ZE,seval,KE,zAc.eq_1,zaI (wao i),↓zA7,↓zA8,↓zA9,zBN.eq_1,zBI.eq_1]
theorem blanks_w(Z:GP)(hZ:Z.Ok)(x:List (List Nat))(k:List Nat)(hx: ∀l∈x,∀b∈l,b<256)(hk: ∀b∈k,b<256):
  FnL prog 7 [.d (.agg [.sl (x.map fun l=>[eBy l])]),.d (eBy k)] [(7777777,Z.o)] (fun V ol new=>V= .d (eB true)/\ol=[(7777777,Z.o)]/\new=[]):=by
 have he:=zHD Z hZ;have hf:=file_q x hx;obtain⟨l,t,T1,e,h1,h2,h3,h4,h5,h6,h7,h8,h9,⟨r1,r2,r3⟩,h10,h11,_⟩:=zJc x hx;rw[h1]at hf;have pr:=zHf Z hZ l r1 r2 r3;rw[h2]at pr;have tk1:=zI5 Z t (by omega) T1 e (by omega) h4;have hbl:=fun h=>blanks_law h8 k h;rw[<-h5,<-h6]at hbl;have hTs: ∀j,(tk (T1++[(4,e0,e)]) j).2.1.size <=7410:=by
  intro j;have key: ∀(L:List Tok) (t:Tok),t∈L->t.2.1.size<=zI1 L:=by
   intro L
   induction L with
   | nil=>simp
   | cons a r ih=>
    intro t ht;simp only[zI1];rcases List.mem_cons.1 ht with rfl | ht
    ·omega
    ·have:=ih t ht; omega
  have he0:(e0:Bts).size =0:=rfl;rcases tk_app (T1:=T1) (e:=(4,e0,e)) j with⟨_,g⟩ | ⟨_,g⟩ | ⟨_,g⟩
  ·have:=key _ _ g; omega
  ·rw[g]; show(e0:Bts).size <=7410; omega
  ·rw[g]; show(e0:Bts).size <=7410; omega
 have hsp:=spelled_q (T1++[(4,e0,e)]) k T1.length (by simp) (by omega) hk hTs;have hz:=zI3 (T1++[(4,e0,e)]) k hTs T1.length;obtain⟨T,hT⟩:=zX (T1++[(4,e0,e)]);have hlen:T.length=T1.length+1:=by rw[<-hT]; simp
 rw[hT]at tk1 hbl hsp hz;obtain⟨S,hS⟩:=zX (spS T k T1.length);rw[hS]at hbl hsp hz;have hsm:=zHk l 0 0;refine FnL.srt (FnL.of_eH 1999 [] (own:=[]) (fun i=>if i=2011 then [.flt ⟨[(0,none),(2,none),(3,none),(1,some [2,3]),(4,none),(5,none),(6,none),(7,none),(8,none),(10,none),(11,none),(9,some [10,11]),(12,none),(13,none),(14,none),(15,none),(16,none),(17,some [])]⟩ ⟨[],[]⟩]else chL i) [] zat func7 rfl call7 ntmps7 (zle rfl) results7 (zCw Z _ (by simp[AV.noRefs,AV.noRef])) (fun gs=> ?_));have f1:((T.length:Int)==0)=false:=beq_eq_false_iff_ne.2 (by omega);have f2:IntKind.i64.wrap ((T.length:Int)-1)=T1.length:=by rw[hlen,show((T1.length+1:Nat):Int)-1=T1.length by omega]; exact zaQ (by omega) (by omega)
 have hmx:IntKind.i64.max=9223372036854775807:=rfl;have f3:IntKind.i64.wrap ((S.size:Int)+20)=((S.size+20:Nat):Int):=by rw[zaQ (by omega) (by omega)]; simp
 simp only[ZE,seval,KE]at he;simp only[ZE,seval,KE]at hf;simp only[ZE,seval,KE]at pr;simp only[ZE,seval,KE,zAc.eq_1]at tk1;simp only[ZE,seval,KE,zAc.eq_1]at hsp;simp only[ZE,seval,KE]at hsm;simp only[ZE,seval,KE,GZ];refine EFn.gV [(7777777,7777777)] he ?_ ?_
 ·simp only[ZE,seval,KE,GZ]
 rintro V ol new ⟨rfl,rfl,rfl⟩;simp only[ZE,seval,KE,Bool.not_true,GZ];refine EFn.p ?_;simp only[ZE,seval,KE,GZ];refine zar.i (hf) ?_;simp only[ZE,seval,KE,GZ];refine EFn.gV [(7777777,7777777)] pr ?_ ?_
 ·simp only[ZE,seval,KE,GZ]
 rintro V ol new ⟨rfl,rfl,rfl⟩;simp only[ZE,seval,KE,GZ];refine EFn.gV [(7777777,7777777)] tk1 ?_ ?_
 ·simp only[ZE,seval,KE,GZ]
 rintro V ol new ⟨rfl,rfl,rfl⟩;simp only[ZE,seval,KE,GZ,waa,f1,f2];refine EFn.p ?_;simp only[ZE,seval,KE,GZ];refine zar.i (hsp) ?_;by_cases hbig:S.size+20>8000
 ·have f4:decide (((S.size+20:Nat):Int)>8000)=true:=by simp; omega
  simp only[ZE,seval,KE,GZ,f3,f4];refine⟨[2,6,1999],[],?_⟩;simp only[ZE,seval,zHH,zht,AV.core,KE]
 have f4:decide (((S.size+20:Nat):Int)>8000)=false:=by simp; omega
 obtain⟨g1,g2⟩:=hbl (by omega);have p1:=zC5 Z hZ S (by omega);have hz2:((⟨#[47,47,32,120,10]⟩:ByteArray)++S).size =S.size+5:=by rw[ByteArray.size_append]; show 5+S.size=_; omega
 have hz3:((⟨#[47,47,32,120,10]⟩:ByteArray)++S++(⟨#[47,47,32,125]⟩:ByteArray)).size =S.size+9:=by rw[ByteArray.size_append,hz2]; show S.size+5+4=_; omega
 have p2:=zC5 Z hZ ((⟨#[47,47,32,120,10]⟩:ByteArray)++S++(⟨#[47,47,32,125]⟩:ByteArray)) (by omega);unfold zFV at p1 p2;rw[g1]at p1;rw[g2]at p2;simp only[ZE,seval,KE]at p1;simp only[ZE,seval,KE]at p2;simp only[ZE,seval,KE,GZ,f3,f4];refine⟨by kernel_rfl,?_⟩;refine EFn.gV [(7777777,7777777)] p1 ?_ ?_
 ·simp only[ZE,seval,KE,GZ]
 rintro V ol new ⟨rfl,rfl,rfl⟩;simp only[ZE,seval,KE,GZ];refine zaz.i hsm ?_;simp only[ZE,seval,KE,GZ,bne_self_eq_false,beq_self_eq_true,decide_true,Bool.not_true,Bool.not_false,waa];refine⟨by rw[hmx]; show((5+S.size:Nat):Int)<=_; omega,by rw[hmx,hz2]; show((S.size+5+4:Nat):Int)<=_; omega,?_⟩;refine EFn.gV [(7777777,7777777)] p2 ?_ ?_
 ·simp only[ZE,seval,KE,GZ]
 rintro V ol new ⟨rfl,rfl,rfl⟩;simp only[ZE,seval,KE,GZ];refine zaz.i hsm ?_;simp only[ZE,seval,KE,GZ,bne_self_eq_false,beq_self_eq_true,decide_true,Bool.not_true,Bool.not_false,waa];refine⟨[2,6,1999],[],?_⟩;simp only[ZE,seval,zHH,zht,AV.core,KE]
end Go.Proofs.YtplfjjgkbnolhaaGreatDoor
