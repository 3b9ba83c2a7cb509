/- Contracts and laws. Conditions: those of each. -/
import Derived.Test.YtplfjjgkbnolhaaGreatDoorK1
import Derived.Test.YtplfjjgkbnolhaaGreatDoorGBd
import Derived.Test.YtplfjjgkbnolhaaGreatDoorGGk
import Derived.Lib.Builder
import Derived.Shelf.RegionOpenPlain
import Derived.WalkKit
import Derived.Lib.Walk
import Derived.Laws.Externs
import Derived.Test.YtplfjjgkbnolhaaGreatDoorGCg
import Derived.Lib.UnsafeStr
set_option linter.unusedSimpArgs false
set_option linter.unusedVariables false
open List renaming length_map -> waa, map_nil -> wab, map_cons -> wac, length_nil -> wad, getElem_mem -> wae, nil_append -> waf, cons_append -> wag, getElem?_eq_getElem -> wah
open ByteArray renaming empty -> wai
open Int renaming toNat_natCast -> waj
open Nat renaming lt_or_ge -> wak, le_trans -> wal, le_refl -> wam
open Bool renaming eq_iff_iff -> wan
namespace Go.Proofs.YtplfjjgkbnolhaaGreatDoor
open Go.Aw Go.RowKit
open _root_.Go.Proofs.Tryz
set_option maxRecDepth 1000000
theorem rowAt_le(p:Program)(fits:TypeId->Bool)(d:Nat)(e:TypeId){c c':Nat}(off n:Nat)(hc:c<=c')(h:rowAt p fits d e c off n=true):rowAt p fits d e c' off n=true:=by
 cases d with
 | zero=>exact h
 | succ d=>
  unfold rowAt at h ⊢;by_cases hs:p.cellsOf e=0
  ·simp only[hs,if_true]at h;cases h
  ·simp only[hs,if_false,Bool.or_eq_true,Bool.and_eq_true,decide_eq_true_eq]at h ⊢;rcases h with⟨⟨h1,h2⟩,h3⟩ | ⟨h1,h2⟩
   ·exact .inl ⟨⟨h1,by omega⟩,h3⟩
   ·exact .inr ⟨by omega,h2⟩
theorem liesAt_le(p:Program)(e:TypeId){c c':Nat}(off:Nat)(hc:c<=c'): ∀(d:Nat) (u:TypeId) (n:Nat),liesAt p d e c off u n=true->liesAt p d e c' off u n=true
 | 0,_,_,h=>h
 | d+1,u,n,h=>by
  unfold liesAt at h ⊢;simp only[Bool.or_eq_true]at h ⊢;rcases h with h | h
  ·exact .inl (rowAt_le p _ _ e off n hc h)
  ·right;split at h
   ·exact liesAt_le p e off hc d _ _ h
   ·cases h
theorem copy_w:CopyW prog 130 161 3:=by
 intro w b cap cur hb hcap hsz;have hcell: ∀v,cur[0]? =some v->w.cell? ⟨b,0,none⟩=some v:=fun v h=>by simp[World.cell?,hb,h]
 have hsh:w.shape? b=some (161,cap*3):=by simp[World.shape?,hb,hsz]
 have hfz:w.frozen? ⟨b,0,none⟩=false:=by simp[World.frozen?,hb]
 obtain⟨j,hj,hjs⟩:=Option.map_eq_some_iff.1 (show(prog.info? 159).map (·.size)=some 2 by kernel_rfl);have hlies:liesAt prog prog.depth 161 (cap*3 / prog.cellsOf 161) 0 159 1=true:=by
  have e1:prog.cellsOf 161=3:=by kernel_rfl
  rw[e1,Nat.mul_div_cancel _ (by decide)];exact liesAt_le _ _ 0 hcap _ _ _ (by kernel_rfl:liesAt prog prog.depth 161 1 0 159 1=true)
 have zat:=zat;refine⟨fun h=> ?_,fun h=> ?_⟩
 ·have h0:=hcell _ h
  go_enter func130,ntmps130
  go_wp2;rw[Lib.run_to_unsafe w ⟨b,0,none⟩ underlying157 underlying267 hj (by rw[hjs]; decide) hsh (by show 0<cap*3; omega)];simp only[Result.andThen];rw[Oper.upon_value];go_wp2;rw[run_callFunc_extern func185 (by kernel_rfl) (by kernel_rfl) (by kernel_rfl) (e:=Extern.AbiNoEscape.same) (by kernel_rfl)];rw[Lib.run_noEscape];simp only[Result.andThen];rw[Oper.upon_value];go_wp2;rw[Lib.run_from_unsafe w ⟨b,0,none⟩ underlying267 underlying157 hj hsh hlies];simp only[Result.andThen];rw[Oper.upon_value];go_wp2
  go_end0
  exact⟨rfl,rfl⟩
 ·have h0:=hcell _ h
  go_enter func130,ntmps130
  go_wp2;rw[Lib.run_neq_ptr_same w _ underlying157 hj];go_wp2
  go_end0
  exact⟨rfl,rfl⟩
theorem copy_enters(vs:Array Value)(W:World):(callFunc 130 vs).run prog W= .ok (.enter 130 vs) W:=by kernel_rfl
def prO(x:AV)(n:Nat)(ok:AV):AO:=.arr 161 3 (.deep [] [(0,x),(1,.ar 5 n),(2,ok)]) [[.lit undef,.lit undef,.lit undef]]
def txO(tx:List (List D)):AO:=.arr 5 1 .flat tx
theorem copy_cl(x0:AV)(hx0:x0= .d (.lit (.pointer none))\/x0= .ep 0 1 0 0)(tx:List (List D))(ok:AV):
  FnL prog 130 [.ep 0 1 0 0] [(0,prO x0 tx.length ok),(5,txO tx)] (fun V ol new=>V= .tup []/\ol=[(0,prO (.ep 0 1 0 0) tx.length ok),(5,txO tx)]/\new=[]):=
 copy_own (fun vs W=>copy_enters vs W) copy_w (by decide) x0 hx0 [(0,x0),(1,.ar 5 tx.length),(2,ok)] [.lit undef,.lit undef,.lit undef] [(5,txO tx)] rfl
set_option maxHeartbeats 1000000
theorem zHd(x0:AV)(hx0:x0= .d (.lit (.pointer none))\/x0= .ep 0 1 0 0)(tx:List (List D))(ok:D)(args:List AV)(ha:AV.noRefs [1999] args):
  (zyk 1999 [(0,prO x0 tx.length (.d ok)),(5,txO tx)]/\AV.noRefs [1999] args)/\zCV (om [(0,prO x0 tx.length (.d ok)),(5,txO tx)]) [.ar 0 1,.ar 5 tx.length]/\AV.noRefs [1999] [.ar 0 1,.ar 5 tx.length]:=by
 rcases hx0 with rfl | rfl <;> simp[prO,txO,zyk,AO.noRef,AV.noRefs,AV.noRef,zCV,om,ha]
open Go.Aw
set_option maxRecDepth 100000
set_option maxHeartbeats 4000000
theorem kind_g(Z:GP)(s:Bts)(hs:s.size<=1000000):
  FnL prog 186 [.d (.lit (.string s))] [(7777777,Z.o)] (fun V ol new=>V= .d (eI (zGv s))/\ol=[(7777777,Z.o)]/\new=[]):=by
 refine FnL.srt (FnL.of_eH 1999 [] (own:=[]) (fun i=>if i=4 then [.adB 13 258 1000 49 3]else []) [] zat func186 rfl call186 ntmps186 (zle rfl) results186 (zCw Z _ (by simp[AV.noRefs,AV.noRef])) (fun gs=> ?_));have hc2:=word_g Z s 0 [] (by omega) (Nat.zero_le _) (by simp);have hc3:=sign_g Z s 0 [] (by omega) (Nat.zero_le _) (by simp);simp only[ZE,seval,Int.natCast_zero,wad,wab]at hc2;simp only[ZE,seval,Int.natCast_zero,wad,wab]at hc3;have cc:=zE1;simp only[ZE,seval];refine za1 (fun i=>if i=4 then [.adB 13 258 1000 49 3]else []) zat 2 (fun j=>(1<=j-> ¬(zb0 s 0≠0/\zA4 s 0=s.size))/\(2<=j-> ¬(zB8 s 0≠0/\zB8 s 0=s.size))) (fun i=>([(0,.d (.lit (.string s))),(6,.d (.agg [.clo (.func 103) [] [],.clo (.func 104) [] []])),(7,.d (eI i))],[(1999,.gh [] gs),(7777777,Z.o)])) (by omega) ?_ ?_ (fun i hi hI=> ?_)
 ·simp only[ZE,seval]
 ·simp only[ZE,seval,GZ]
 rcases(show i=0\/i=1\/i=2 by omega)with rfl | rfl | rfl
 ·simp only[ZE,seval,waj,GZ];refine EFn.p ?_;simp only[ZE,seval];refine zar.i (cc) ?_;simp only[ZE,seval,GZ,scO,tkO,zAg,zAm,zAn,zAo,zAf,zAh,zAe,tZ185,<-zS.eq_1,zHX,zF7,zDC,zBo,zFZ,zFY,zF0,zDk,sc_setD,sc_getD];refine EFn.gV [(1,13),(2,1000),(7777777,7777777)] hc2 ?_ ?_
  ·simp only[ZE,seval,GZ,scO,tkO,zAg,zAm,zAn,zAo,zAf,zAh,zAe]
  rintro V ol new ⟨rfl,rfl,rfl⟩;have w1:IntKind.i64.wrap 1=1:=rfl;by_cases hw:zb0 s 0=0
  ·have c1:decide (zb0 s 0≠0)=false:=by simp[hw]
   have c2:zHu Z s 0 []=scO Z s 0 []:=by unfold zHu; rw[if_pos hw]
   rw[c1,c2];simp only[ZE,seval,GZ,scO,tkO,zAg,zAm,zAn,zAo,zAf,zAh,zAe,w1,hw,not_true,false_and,not_false_eq_true]
  ·have c1:decide (zb0 s 0≠0)=true:=by simp[hw]
   have c2:zHu Z s 0 []=scO Z s (zA4 s 0) [(zb0 s 0,s.extract 0 (zA4 s 0),0)]:=by unfold zHu; rw[if_neg hw,Nat.zero_add]; rfl
   rw[c1,c2];by_cases hz:zA4 s 0=s.size
   ·have c3:((zA4 s 0:Int)==(s.size:Int))=true:=(by simp[hz]);have hK:zGv s=zb0 s 0:=(by unfold zGv; rw[if_pos ⟨hw,hz⟩]);simp only[ZE,seval,GZ,scO,tkO,zAg,zAm,zAn,zAo,zAf,zAh,zAe,c3,eTok.eq_1,wac,wab,hK];refine⟨[13,1000,1999],[],?_⟩;simp only[ZE,seval,zAp.eq_1,zAp.eq_2,zAq.eq_1,zAq.eq_2,GZ,zAj.eq_def,ghK.eq_def,zAi.eq_def,hdH.eq_1,hdH.eq_2,kpH.eq_1,kpH.eq_2,hdl.eq_def,zpC.eq_def,zht,AV.core]
   ·have c3:((zA4 s 0:Int)==(s.size:Int))=false:=(by simp; omega);simp only[ZE,seval,GZ,scO,tkO,zAg,zAm,zAn,zAo,zAf,zAh,zAe,c3,w1,hz,and_false,not_false_eq_true]
 ·have hI1:=hI.1 (by omega);have w2:IntKind.i64.wrap 2=2:=rfl;simp only[ZE,seval,waj,GZ];refine EFn.p ?_;simp only[ZE,seval];refine zar.i (cc) ?_;simp only[ZE,seval,GZ,scO,tkO,zAg,zAm,zAn,zAo,zAf,zAh,zAe,tZ185,<-zS.eq_1,zHX,zF7,zDC,zBo,zFZ,zFY,zF0,zDk,sc_setD,sc_getD];refine EFn.gV [(1,13),(2,1000),(7777777,7777777)] hc3 ?_ ?_
  ·simp only[ZE,seval,GZ,scO,tkO,zAg,zAm,zAn,zAo,zAf,zAh,zAe]
  rintro V ol new ⟨rfl,rfl,rfl⟩;by_cases hw:zB8 s 0=0
  ·have c1:decide (zB8 s 0≠0)=false:=by simp[hw]
   have c2:zHz Z s 0 []=scO Z s 0 []:=by unfold zHz; rw[if_pos hw]
   rw[c1,c2];simp only[ZE,seval,GZ,scO,tkO,zAg,zAm,zAn,zAo,zAf,zAh,zAe,w2,hw,not_true,false_and,not_false_eq_true];simpa using hI1
  ·have c1:decide (zB8 s 0≠0)=true:=by simp[hw]
   have c2:zHz Z s 0 []=scO Z s (zB8 s 0) [(3,s.extract 0 (zB8 s 0),0)]:=by unfold zHz; rw[if_neg hw,Nat.zero_add]; rfl
   rw[c1,c2];by_cases hz:zB8 s 0=s.size
   ·have c3:((zB8 s 0:Int)==(s.size:Int))=true:=(by simp[hz]);have hK:zGv s=3:=(by unfold zGv; rw[if_neg hI1,if_pos ⟨hw,hz⟩]);simp only[ZE,seval,GZ,scO,tkO,zAg,zAm,zAn,zAo,zAf,zAh,zAe,c3,eTok.eq_1,wac,wab,hK];refine⟨[13,1000,1999],[],?_⟩;simp only[ZE,seval,zAp.eq_1,zAp.eq_2,zAq.eq_1,zAq.eq_2,GZ,zAj.eq_def,ghK.eq_def,zAi.eq_def,hdH.eq_1,hdH.eq_2,kpH.eq_1,kpH.eq_2,hdl.eq_def,zpC.eq_def,zht,AV.core]
   ·have c3:((zB8 s 0:Int)==(s.size:Int))=false:=(by simp; omega);simp only[ZE,seval,GZ,scO,tkO,zAg,zAm,zAn,zAo,zAf,zAh,zAe,c3,w2,hz,and_false,not_false_eq_true];simpa using hI1
 ·have hI1:=hI.1 (by omega);have hI2:=hI.2 (by omega);have hK:zGv s=0:=by unfold zGv; rw[if_neg hI1,if_neg hI2]
  simp only[ZE,seval,GZ,scO,tkO,zAg,zAm,zAn,zAo,zAf,zAh,zAe,hK];refine⟨[1999],[],?_⟩;simp only[ZE,seval,zAp.eq_1,zAp.eq_2,zAq.eq_1,zAq.eq_2,GZ,zAj.eq_def,ghK.eq_def,zAi.eq_def,hdH.eq_1,hdH.eq_2,kpH.eq_1,kpH.eq_2,hdl.eq_def,zpC.eq_def,zht,AV.core]
theorem isName_g(Z:GP)(hZ:Z.Ok)(s:Bts)(hs:s.size<=1000000):
  FnL prog 131 [.d (.lit (.string s))] [(7777777,Z.o)] (fun V ol new=>V= .d (eB (zAN s))/\ol=[(7777777,Z.o)]/\new=[]):=by
 refine FnL.srt (FnL.of_eH 1999 [] (own:=[]) chL [] zat func131 rfl call131 ntmps131 (zle rfl) results131 (zCw Z _ (by simp[AV.noRefs,AV.noRef])) (fun gs=> ?_));have hk:=kind_g Z s hs;have hr:=hZ.res s;have ks:zd3 prog 9 (.lit (.string s)):=zB5 hs;have kr:(∀y∈Z.kR,zd3 prog 9 y)=True:=eq_true hZ.rk;have hF:zAN s=(decide (zGv s=1)&& !zFM s):=rfl;obtain⟨k,hkk⟩:=zX (zGv s);obtain⟨r,hrr⟩:=zX (zFM s);rw[hkk]at hk hF;rw[hrr]at hr hF;simp only[ZE,seval,KE]at hk;by_cases h1:k=1
 ·subst h1;have e1:(((1:Nat):Int)==1)=true:=rfl;cases r with
  | true=>
   rw[if_pos rfl]at hr;simp only[ZE,seval,KE];refine EFn.gV [(7777777,7777777)] hk ?_ ?_
   ·simp only[ZE,seval,GZ]
   rintro V ol new ⟨rfl,rfl,rfl⟩;simp only[ZE,seval,GZ,e1,hr,kr,ks,zal,Option.getD_some];refine⟨[1999],[],?_⟩;simp only[ZE,seval,zAp.eq_1,zAp.eq_2,zAq.eq_1,zAq.eq_2,GZ,zAj.eq_def,ghK.eq_def,zAi.eq_def,hdH.eq_1,hdH.eq_2,kpH.eq_1,kpH.eq_2,hdl.eq_def,zpC.eq_def,zht,AV.core,hF]
  | false=>
   rw[if_neg (by decide)]at hr;simp only[ZE,seval,KE];refine EFn.gV [(7777777,7777777)] hk ?_ ?_
   ·simp only[ZE,seval,GZ]
   rintro V ol new ⟨rfl,rfl,rfl⟩;simp only[ZE,seval,GZ,e1,hr,kr,ks,zal,Option.getD_none];refine⟨[1999],[],?_⟩;simp only[ZE,seval,zAp.eq_1,zAp.eq_2,zAq.eq_1,zAq.eq_2,GZ,zAj.eq_def,ghK.eq_def,zAi.eq_def,hdH.eq_1,hdH.eq_2,kpH.eq_1,kpH.eq_2,hdl.eq_def,zpC.eq_def,zht,AV.core,hF]
 ·have e1:((k:Int)==1)=false:=by simp; omega
  cases r
  all_goals
   first | rw[if_pos rfl]at hr | rw[if_neg (by decide)]at hr
   simp only[ZE,seval,KE];refine EFn.gV [(7777777,7777777)] hk ?_ ?_
   ·simp only[ZE,seval,GZ]
   rintro V ol new ⟨rfl,rfl,rfl⟩;simp only[ZE,seval,GZ,e1,hr,kr,ks,zal,Option.getD_some,Option.getD_none];refine⟨[1999],[],?_⟩;simp only[ZE,seval,zAp.eq_1,zAp.eq_2,zAq.eq_1,zAq.eq_2,GZ,zAj.eq_def,ghK.eq_def,zAi.eq_def,hdH.eq_1,hdH.eq_2,kpH.eq_1,kpH.eq_2,hdl.eq_def,zpC.eq_def,zht,AV.core,hF]
   try simp[h1]
theorem copy_w1(x0:AV)(hx0:x0= .d (.lit (.pointer none))\/x0= .ep 0 1 0 0)(tx:List (List D))(ok:Bool)(s:ByteArray)(hl:tx.length+s.size<=140737488355328):
  FnL prog 87 [.ep 0 1 0 0,.d (.lit (.string s))] [(0,prO x0 tx.length (.d (eB ok))),(5,txO tx)] (fun V ol new=>V= .tup [.d (eI s.size),.d (.lit .nilIface)]/\ol=[(0,prO (.ep 0 1 0 0) (tx.length+s.size) (.d (eB ok))),(5,txO (tx++zAr s))]/\new=[]):=by
 refine FnL.srt (FnL.of_eH 1999 [.ar 0 1,.ar 5 tx.length] (own:=[]) (fun _=>[]) [] zat func87 rfl call87 ntmps87 (zle rfl) results87 (zHd x0 hx0 tx (eB ok) _ (by simp[AV.noRefs,AV.noRef])) (fun gs=> ?_));have hc:=copy_cl x0 hx0 tx (.d (eB ok));simp only[ZE,seval,prO,txO];refine EFn.gV [(0,0),(5,5)] hc ?_ ?_
 ·rcases hx0 with rfl | rfl
  ·simp only[ZE,seval,prO,txO]
  ·simp only[ZE,seval,prO,txO]
 rintro V ol new ⟨rfl,rfl,rfl⟩;simp only[ZE,seval,prO,txO,zAp.eq_1,zAp.eq_2,zAq.eq_1,zAq.eq_2,GZ,zAj.eq_def,ghK.eq_def,zAi.eq_def,hdH.eq_1,hdH.eq_2,kpH.eq_1,kpH.eq_2,hdl.eq_def,zpC.eq_def,zht,AV.core];refine⟨by omega,by rw[List.length_append,zAd],[1999],[],?_⟩;simp only[ZE,seval,zAp.eq_1,zAp.eq_2,zAq.eq_1,zAq.eq_2,GZ,zAj.eq_def,ghK.eq_def,zAi.eq_def,hdH.eq_1,hdH.eq_2,kpH.eq_1,kpH.eq_2,hdl.eq_def,zpC.eq_def,zht,AV.core]
theorem zHn(a b:Bts):zAr (a++b)=zAr a++zAr b:=by
 unfold zAr;rw[ByteArray.data_append,Array.toList_append,List.map_append]
def pwO(x:AV)(w:PW):AO:=.arr 161 3 (.deep [] [(0,x),(1,.ar 905 w.1.size),(2,.d (eB w.2))]) [[.lit undef,.lit undef,.lit undef]]
def pwL(Z:GP)(w:PW):OL:=[(900,pwO (.ep 900 1 0 0) w),(905,txO (zAr w.1)),(7777777,Z.o)]
def LIM:Nat:=140737488355328
theorem zDA(Z:GP)(w:PW)(args:List AV)(ha:AV.noRefs [1999] args):
  (zyk 1999 (pwL Z w)/\AV.noRefs [1999] args)/\zCV (om (pwL Z w)) [.ar 900 1,.ar 905 w.1.size]/\AV.noRefs [1999] [.ar 900 1,.ar 905 w.1.size]:=by
 simp[pwL,pwO,txO,GZ,zyk,AO.noRef,AV.noRefs,AV.noRef,zCV,om,ha,zAd]
def WCon(Z:GP)(f:Nat)(args:List AV)(w:PW)(w':PW)(V0:AV):Prop:=
 FnL prog f (.ep 900 1 0 0::args) (pwL Z w) (fun V ol new=>V=V0/\ol=pwL Z w'/\new=[])
def WrC(s:Bts)(w:PW):Prop:=FnL prog 87 [.ep 0 1 0 0,.d (.lit (.string s))] [(0,prO (.ep 0 1 0 0) w.1.size (.d (eB w.2))),(5,txO (zAr w.1))] (fun V ol new=>V= .tup [.d (eI s.size),.d (.lit .nilIface)]/\ol=[(0,prO (.ep 0 1 0 0) (wS s w).1.size (.d (eB w.2))),(5,txO (zAr (wS s w).1))]/\new=[])
theorem zAv(s:Bts)(w:PW)(h:(wS s w).1.size <=LIM):WrC s w:=by
 have hz:(wS s w).1.size =w.1.size+s.size:=by simp[wS,ByteArray.size_append]
 have:=copy_w1 (.ep 0 1 0 0) (.inr rfl) (zAr w.1) w.2 s (by rw[zAd]; rw[hz]at h; exact h);rw[zAd]at this;unfold WrC;rw[hz];rw[show(wS s w).1 =w.1++s from rfl,zHn];exact this
theorem zBP(Z:GP)(hZ:Z.Ok)(s:Bts)(hs:s.size<=1000000)(w:PW)(h:(zAu s w).1.size <=LIM):WCon Z 88 [.d (.lit (.string s))] w (zAu s w) (.tup []):=by
 refine FnL.srt (FnL.of_eH 1999 [.ar 900 1,.ar 905 w.1.size] (own:=[]) (fun _=>[]) [] zat func88 rfl call88 ntmps88 (zle rfl) results88 (zDA Z w _ (by simp[AV.noRefs,AV.noRef])) (fun gs=> ?_));have hn:=isName_g Z hZ s hs;obtain⟨t,ok⟩:=w;have hW:zAu s (t,ok)=wS s (t,ok&&zAN s):=rfl;rw[hW]at h ⊢;obtain⟨nm,hnm⟩:=zX (zAN s);rw[hnm]at hn h ⊢;simp only[ZE,seval,KE]at hn;cases ok with
 | true=>
  rw[Bool.true_and]at h ⊢;simp only[ZE,seval,KE,GZ,pwL,pwO,txO];refine EFn.gV [(7777777,7777777)] hn ?_ ?_
  ·simp only[ZE,seval,GZ,pwL,pwO,txO]
  rintro V ol new ⟨rfl,rfl,rfl⟩;simp only[ZE,seval,KE,GZ,pwL,pwO,txO];refine EFn.gV [(0,900),(5,905)] (zAv (s) ((t,nm)) h) ?_ ?_
  ·simp only[ZE,seval,prO,KE,GZ,pwL,pwO,txO]
  rintro V ol new ⟨rfl,rfl,rfl⟩;simp only[ZE,seval,prO,KE,GZ,pwL,pwO,txO];refine⟨[1999],[],?_⟩;simp only[ZE,seval,zAp.eq_1,zAp.eq_2,zAq.eq_1,zAq.eq_2,GZ,zAj.eq_def,ghK.eq_def,zAi.eq_def,hdH.eq_1,hdH.eq_2,kpH.eq_1,kpH.eq_2,hdl.eq_def,zpC.eq_def,zht,AV.core,GZ,pwL,pwO,txO,prO];exact⟨rfl,(zAd _).symm⟩
 | false=>
  rw[Bool.false_and]at h ⊢;simp only[ZE,seval,KE,GZ,pwL,pwO,txO];refine EFn.gV [(0,900),(5,905)] (zAv (s) ((t,false)) h) ?_ ?_
  ·simp only[ZE,seval,prO,KE,GZ,pwL,pwO,txO]
  rintro V ol new ⟨rfl,rfl,rfl⟩;simp only[ZE,seval,prO,KE,GZ,pwL,pwO,txO];refine⟨[1999],[],?_⟩;simp only[ZE,seval,zAp.eq_1,zAp.eq_2,zAq.eq_1,zAq.eq_2,GZ,zAj.eq_def,ghK.eq_def,zAi.eq_def,hdH.eq_1,hdH.eq_2,kpH.eq_1,kpH.eq_2,hdl.eq_def,zpC.eq_def,zht,AV.core,GZ,pwL,pwO,txO,prO];exact⟨rfl,(zAd _).symm⟩
theorem zGM(Z:GP)(n:Int)(h0: -9223372036854775808<=n)(h1:n<=9223372036854775807)(w:PW)(h:(zCr n w).1.size <=LIM):WCon Z 187 [.d (eI n)] w (zCr n w) (.tup []):=by
 refine FnL.srt (FnL.of_eH 1999 [.ar 900 1,.ar 905 w.1.size] (own:=[]) (fun i=>if i=2001 then [.flt ⟨[(0,none),(1,none),(2,none),(3,none),(4,some [0,1,2]),(5,some [])]⟩ ⟨[],[]⟩]else chL i) [] zat func187 rfl call187 ntmps187 (zle rfl) results187 (zDA Z w _ (by simp[AV.noRefs,AV.noRef])) (fun gs=> ?_));have hi:=itoa_c Z n h0 h1;obtain⟨t,ok⟩:=w;have hW:zCr n (t,ok)=wS (zB2 n) (t,ok&&(decide (n>=0)&&decide (n<=1000000))):=rfl;rw[hW]at h ⊢;obtain⟨a1,e1⟩: ∃a,decide (n>=0)=a:=⟨_,rfl⟩;obtain⟨a2,e2⟩: ∃a,decide (n<=1000000)=a:=⟨_,rfl⟩;rw[e1,e2]at h ⊢;cases ok <;> cases a1 <;> cases a2
 all_goals
  simp only[Bool.and_self,Bool.and_false,Bool.false_and,Bool.and_true]at h ⊢;simp only[ZE,seval,KE,e1,e2,GZ,pwL,pwO,txO];refine⟨by kernel_rfl,?_⟩;refine EFn.gV [(7777777,7777777)] hi ?_ ?_
  ·simp only[ZE,seval,GZ,pwL,pwO,txO]
  rintro V ol new ⟨rfl,rfl,rfl⟩;simp only[ZE,seval,KE,GZ,pwL,pwO,txO];refine EFn.gV [(0,900),(5,905)] (zAv _ (t,_) h) ?_ ?_
  ·simp only[ZE,seval,prO,KE,GZ,pwL,pwO,txO]
  rintro V ol new ⟨rfl,rfl,rfl⟩;simp only[ZE,seval,prO,KE,GZ,pwL,pwO,txO];refine⟨[1999],[],?_⟩;simp only[ZE,seval,zAp.eq_1,zAp.eq_2,zAq.eq_1,zAq.eq_2,GZ,zAj.eq_def,ghK.eq_def,zAi.eq_def,hdH.eq_1,hdH.eq_2,kpH.eq_1,kpH.eq_2,hdl.eq_def,zpC.eq_def,zht,AV.core,GZ,pwL,pwO,txO,prO];exact⟨rfl,(zAd _).symm⟩
theorem zHa(x:Num):FnP prog 133 [.agg (zgL x)] (.d (eB (zCW x))) []:=by
 refine FnP.of_eC (own:=[]) chL zat func133 rfl call133 ntmps133 (zle rfl) results133 (fun hok=> ?_);have h1:(x.n==0)=decide (x.n=0):=by rw[wan]; simp
 have h2:(x.p.toList==ByteArray.empty.toList)=decide (x.p=e0):=zDQ _ _;simp only[ZE,seval,KE,zCW.eq_1,h1,h2]
theorem zAa(s:Bts)(w:PW):(wS s w).2 =w.2:=rfl
def zHN(x:Num):Prop:=(-9223372036854775808<=x.n/\x.n<=9223372036854775807)/\x.p.size<=1000000
theorem zEl(Z:GP)(hZ:Z.Ok)(x:Num)(hx:zHN x)(w:PW)(h:(zBl x w).1.size <=LIM):WCon Z 135 [.d (.agg (zgL x))] w (zBl x w) (.tup []):=by
 refine FnL.srt (FnL.of_eH 1999 [.ar 900 1,.ar 905 w.1.size] (own:=[]) chL [] zat func135 rfl call135 ntmps135 (zle rfl) results135 (zDA Z w _ (by simp[AV.noRefs,AV.noRef])) (fun gs=> ?_));obtain⟨n,p⟩:=x;obtain⟨⟨r1,r2⟩,r3⟩:=hx;simp only at r1 r2 r3;have hW:zBl ⟨n,p⟩ w=if p=e0 then zCr n w else if n>0 then zCr n (wS (⟨#[32,43,32]⟩:ByteArray) (zAu p w))else if n<0 then zCr (max (IntKind.i64.wrap (-n)) 0) (wS (⟨#[32,45,32]⟩:ByteArray) (wOk (decide (n>= -1000000)) (zAu p w)))else zAu p w:=rfl
 by_cases hp:p=e0
 ·rw[if_pos hp]at hW;rw[hW]at h ⊢;have e1:decide (p=(⟨#[]⟩:ByteArray))=true:=by rw[hp]; rfl
  have c1:=zGM Z n r1 r2 w h;simp only[ZE,seval,KE,e1,GZ,pwL,pwO,txO,zAa];refine EFn.gV [(900,900),(905,905),(7777777,7777777)] (c1) ?_ ?_
  ·simp only[ZE,seval,KE,GZ,pwL,pwO,txO,zAa]
  rintro V ol new ⟨rfl,rfl,rfl⟩;simp only[ZE,seval,prO,KE,GZ,pwL,pwO,txO,zAa];refine⟨[3,1999],[],?_⟩;simp only[ZE,seval,zAp.eq_1,zAp.eq_2,zAq.eq_1,zAq.eq_2,GZ,zAj.eq_def,ghK.eq_def,zAi.eq_def,hdH.eq_1,hdH.eq_2,kpH.eq_1,kpH.eq_2,hdl.eq_def,zpC.eq_def,zht,AV.core,GZ,pwL,pwO,txO,zAa,prO]
  first | exact⟨rfl,(zAd _).symm⟩ | exact(zAd _).symm | exact rfl | skip
 rw[if_neg hp]at hW;have e1:decide (p=(⟨#[]⟩:ByteArray))=false:=decide_eq_false hp;by_cases h1:n>0
 ·rw[if_pos h1]at hW;rw[hW]at h ⊢;have e3:decide (n>0)=true:=by simp[h1]
  have l2:=wal (zBS n _) h;have l1:=wal (zAw _ _) l2;have c1:=zBP Z hZ p r3 w l1;have c3:=zGM Z n r1 r2 _ h;simp only[ZE,seval,KE,e1,GZ,pwL,pwO,txO,zAa];refine EFn.gV [(900,900),(905,905),(7777777,7777777)] (c1) ?_ ?_
  ·simp only[ZE,seval,KE,GZ,pwL,pwO,txO,zAa]
  rintro V ol new ⟨rfl,rfl,rfl⟩;simp only[ZE,seval,KE,e3,GZ,pwL,pwO,txO,zAa];refine EFn.gV [(0,900),(5,905)] (zAv ((⟨#[32,43,32]⟩:ByteArray)) (zAu p w) (l2)) ?_ ?_
  ·simp only[ZE,seval,prO,KE,GZ,pwL,pwO,txO,zAa]
  rintro V ol new ⟨rfl,rfl,rfl⟩;simp only[ZE,seval,prO,KE,GZ,pwL,pwO,txO,zAa];refine EFn.gV [(900,900),(905,905),(7777777,7777777)] (c3) ?_ ?_
  ·simp only[ZE,seval,KE,GZ,pwL,pwO,txO,zAa]
  rintro V ol new ⟨rfl,rfl,rfl⟩;simp only[ZE,seval,prO,KE,GZ,pwL,pwO,txO,zAa];refine⟨[3,1999],[],?_⟩;simp only[ZE,seval,zAp.eq_1,zAp.eq_2,zAq.eq_1,zAq.eq_2,GZ,zAj.eq_def,ghK.eq_def,zAi.eq_def,hdH.eq_1,hdH.eq_2,kpH.eq_1,kpH.eq_2,hdl.eq_def,zpC.eq_def,zht,AV.core,GZ,pwL,pwO,txO,zAa,prO]
  first | exact⟨rfl,(zAd _).symm⟩ | exact(zAd _).symm | exact rfl | skip
 rw[if_neg h1]at hW;have e3:decide (n>0)=false:=by simp[h1]
 by_cases h2:n<0
 ·rw[if_pos h2]at hW;rw[hW]at h ⊢;have e4:decide (n<0)=true:=by simp[h2]
  have l2:=wal (zBS _ _) h;have l1:=wal (zAw _ _) l2;have l0:(zAu p w).1.size <=LIM:=l1;have c1:=zBP Z hZ p r3 w l0;have hwr: -9223372036854775808<=IntKind.i64.wrap (-n)/\IntKind.i64.wrap (-n)<=9223372036854775807:=by
   by_cases h5:n= -9223372036854775808
   ·subst h5; decide
   ·rw[zaQ (by omega) (by omega)]; omega
  have c3:=zGM Z (max (IntKind.i64.wrap (-n)) 0) (by omega) (by omega) _ h;have hmx:(if 0>IntKind.i64.wrap (-n)then 0 else IntKind.i64.wrap (-n))=max (IntKind.i64.wrap (-n)) 0:=by split <;> omega
  obtain⟨b,hb⟩:=zX (decide (n>= -1000000));rw[hb]at h l2 c3 ⊢;obtain⟨v,hv⟩:=zX (zAu p w);rw[hv]at h l2 c3 c1 ⊢;obtain⟨t,ok⟩:=v;have hwk:wOk b (t,ok)=(t,ok&&b):=rfl;rw[hwk]at h l2 c3 ⊢;cases ok <;> cases b
  all_goals
   simp only[Bool.and_self,Bool.and_false,Bool.false_and,Bool.and_true]at h l2 c3 ⊢;simp only[ZE,seval,KE,e1,GZ,pwL,pwO,txO,zAa];refine EFn.gV [(900,900),(905,905),(7777777,7777777)] (c1) ?_ ?_
   ·simp only[ZE,seval,KE,GZ,pwL,pwO,txO,zAa]
   rintro V ol new ⟨rfl,rfl,rfl⟩;simp only[ZE,seval,KE,e3,e4,hb,GZ,pwL,pwO,txO,zAa];refine EFn.gV [(0,900),(5,905)] (zAv ((⟨#[32,45,32]⟩:ByteArray)) ((t,_)) (l2)) ?_ ?_
   ·simp only[ZE,seval,prO,KE,GZ,pwL,pwO,txO,zAa]
   rintro V ol new ⟨rfl,rfl,rfl⟩;simp only[ZE,seval,prO,KE,Int.zero_sub,hmx,GZ,pwL,pwO,txO,zAa];refine EFn.gV [(900,900),(905,905),(7777777,7777777)] (c3) ?_ ?_
   ·simp only[ZE,seval,KE,GZ,pwL,pwO,txO,zAa]
   rintro V ol new ⟨rfl,rfl,rfl⟩;simp only[ZE,seval,prO,KE,GZ,pwL,pwO,txO,zAa];refine⟨[3,1999],[],?_⟩;simp only[ZE,seval,zAp.eq_1,zAp.eq_2,zAq.eq_1,zAq.eq_2,GZ,zAj.eq_def,ghK.eq_def,zAi.eq_def,hdH.eq_1,hdH.eq_2,kpH.eq_1,kpH.eq_2,hdl.eq_def,zpC.eq_def,zht,AV.core,GZ,pwL,pwO,txO,zAa,prO]
   first | exact⟨rfl,(zAd _).symm⟩ | exact(zAd _).symm | exact rfl | skip
 ·rw[if_neg h2]at hW;rw[hW]at h ⊢;have e4:decide (n<0)=false:=by simp[h2]
  have c1:=zBP Z hZ p r3 w h;simp only[ZE,seval,KE,e1,GZ,pwL,pwO,txO,zAa];refine EFn.gV [(900,900),(905,905),(7777777,7777777)] (c1) ?_ ?_
  ·simp only[ZE,seval,KE,GZ,pwL,pwO,txO,zAa]
  rintro V ol new ⟨rfl,rfl,rfl⟩;simp only[ZE,seval,KE,e3,e4,GZ,pwL,pwO,txO,zAa];refine⟨[3,1999],[],?_⟩;simp only[ZE,seval,zAp.eq_1,zAp.eq_2,zAq.eq_1,zAq.eq_2,GZ,zAj.eq_def,ghK.eq_def,zAi.eq_def,hdH.eq_1,hdH.eq_2,kpH.eq_1,kpH.eq_2,hdl.eq_def,zpC.eq_def,zht,AV.core,GZ,pwL,pwO,txO,zAa,prO]
  first | exact⟨rfl,(zAd _).symm⟩ | exact(zAd _).symm | exact rfl | skip
theorem zgA: ∀(n:Nat) (l:List Nat),l.Nodup->(∀k∈l,k<n)->l.length<=n
 | 0,l,_,h=>by
  cases l with
  | nil=>simp
  | cons a l=>exact absurd (h a (by simp)) (Nat.not_lt_zero _)
 | n+1,l,hd,h=>by
  have h1:=zgA n (l.erase n) (hd.erase n) (fun k hk=>by
   have h2:=h k (List.mem_of_mem_erase hk);rcases wak k n with h3 | h3
   ·exact h3
   ·exfalso;have:k=n:=(by omega);subst this;exact(List.Nodup.not_mem_erase hd) hk)
  have:=List.length_erase_le (a:=n) (l:=l);have h4:l.length<=(l.erase n).length +1:=by rw[List.length_erase]; split <;> omega
  omega
theorem opOf_pos{p:Bts×Nat}(h:p∈opL):zGx p.1=p.2/\p.2≠0/\zAS p.2=p.1/\p.1≠e0:=by
 have key: ∀p∈opL,zGx p.1=p.2/\p.2≠0/\zAS (p.2:Nat)=p.1/\p.1≠e0:=by decide
 exact key p h
theorem opOf_sign'{op:Int}(h:zAS op≠e0):(zGx (zAS op):Int)=op/\zAS op≠(⟨#[63]⟩:ByteArray):=by
 unfold zAS at h ⊢;split at h
 ·rename_i p hp;have hm:=List.mem_of_find?_eq_some hp;have hq:=List.find?_some hp;have key: ∀p∈opL,zGx p.1=p.2/\p.1≠(⟨#[63]⟩:ByteArray):=by decide
  have:=key p hm;simp only[decide_eq_true_eq]at hq;rw[this.1];exact⟨hq,this.2⟩
 ·exact absurd rfl h
theorem sign_c(Z:GP)(hZ:Z.Ok)(op:Int):FnL prog 190 [.d (eI op)] [(7777777,Z.o)] (fun V ol new=>V= .d (eSb (zAS op))/\ol=[(7777777,Z.o)]/\new=[]):=by
 refine FnL.srt (FnL.of_eH 1999 [] (own:=[]) (fun _=>[]) [] zat func190 rfl call190 ntmps190 (zle rfl) results190 (zCw Z _ (by simp[AV.noRefs,AV.noRef])) (fun gs=> ?_));simp only[ZE,seval,KE,GZ];refine zgR (fun _ _=>[]) zat Z.kO.length (fun i (js:List Nat)=>js.length=i/\js.Nodup/\(∀j∈js,j<Z.kO.length)/\ ∀j∈js,Z.vO.getD j default≠eI op) (fun i js=>([(0,.d (eI op)),(6,.mo 6)],[(6,.it Z.kO Z.vO Z.bO Z.cO js),(1999,.gh [] gs),(7777777,Z.o)])) [] ⟨rfl,by simp,by simp,by simp⟩ ?_ ?_ (fun i js hi hI=> ?_)
 ·simp only[ZE,seval]
 ·simp only[ZE,seval,GZ]
 obtain⟨h1,h2,h3,h4⟩:=hI;simp only[ZE,seval,KE,GZ];refine⟨?_,fun j hj hjs=> ?_,fun hall=> ?_⟩
 ·simp only[ZE,seval]
 ·obtain⟨p,hp,hk,hv⟩:=hZ.it j hj;obtain⟨p1,p2,p3,p4⟩:=opOf_pos hp;have hlen:=zgA Z.kO.length (j::js) (List.nodup_cons.2 ⟨hjs,h2⟩) (fun k hk=>by
   rcases List.mem_cons.1 hk with rfl | hk
   ·exact hj
   ·exact h3 k hk)
  rw[List.length_cons]at hlen;by_cases hop:(p.2:Int)=op
  ·have e1:((p.2:Int)==op)=true:=by simp[hop]
   have hS:zAS op=p.1:=by rw[<-hop]; exact p3
   simp only[ZE,seval,KE]at hv;simp only[ZE,seval,KE,GZ,hk,hv,e1,hS,List.getLast?_append,List.getLast?_singleton,Option.some_or];refine⟨[6,1999],[],?_⟩;simp only[ZE,seval,zAj.eq_def,ghK.eq_def,zAi.eq_def,hdH.eq_1,hdH.eq_2,kpH.eq_1,kpH.eq_2,hdl.eq_def,zpC.eq_def,zAp.eq_1,zAp.eq_2,zAq.eq_1,zAq.eq_2]
  ·have e1:((p.2:Int)==op)=false:=by simp[hop]
   have hv2:=hv;simp only[ZE,seval,KE]at hv;simp only[ZE,seval,KE,GZ,hk,hv,e1,List.getLast?_append,List.getLast?_singleton,Option.some_or];refine⟨by omega,js++[j],⟨by rw[List.length_append,h1]; rfl,List.nodup_append.2 ⟨h2,by simp,fun a ha b hb e=> ?_⟩,fun k hk=> ?_,fun k hk=> ?_⟩,?_,?_⟩
   ·simp at hb; subst hb; subst e; exact hjs ha
   ·rcases List.mem_append.1 hk with hk | hk
    ·exact h3 k hk
    ·simp at hk; subst hk; exact hj
   ·rcases List.mem_append.1 hk with hk | hk
    ·exact h4 k hk
    ·simp at hk; subst hk;rw[hv2];simp only[eI,ne_eq,D.lit.injEq,Value.int.injEq,true_and];exact hop
   ·simp only[ZE,seval]
   ·simp only[ZE,seval,GZ]
 ·have hS:zAS op=e0:=by
   by_cases hs:zAS op=e0
   ·exact hs
   exfalso;obtain⟨o1,_⟩:=opOf_sign' hs;have h5:=hZ.ops (zAS op);have h6:zGx (zAS op)≠0:=by
    intro h7;rw[h7]at o1;rw[<-o1]at hs;exact hs rfl
   rw[if_neg h6]at h5;unfold zjZ at h5;split at h5
   ·rename_i hlt;refine h4 _ (hall _ hlt) ?_;rw[List.getD,h5,o1];rfl
   ·cases h5
  simp only[ZE,seval,KE,GZ,hS];refine⟨[6,1999],[],?_⟩;simp only[ZE,seval,zAj.eq_def,ghK.eq_def,zAi.eq_def,hdH.eq_1,hdH.eq_2,kpH.eq_1,kpH.eq_2,hdl.eq_def,zpC.eq_def,zAp.eq_1,zAp.eq_2,zAq.eq_1,zAq.eq_2];rfl
theorem arity_c(Z:GP)(hZ:Z.Ok)(op:Int):FnL prog 188 [.d (eI op)] [(7777777,Z.o)] (fun V ol new=>V= .d (eI (zBi op))/\ol=[(7777777,Z.o)]/\new=[]):=by
 refine FnL.srt (FnL.of_eH 1999 [] (own:=[]) (fun _=>[]) [] zat func188 rfl call188 ntmps188 (zle rfl) results188 (zCw Z _ (by simp[AV.noRefs,AV.noRef])) (fun gs=> ?_));have hs:=sign_c Z hZ op;have hA:zBi op=if op=1\/op=14 then 0 else if op=2\/op=12\/op=13\/op=15 then 1 else if op=10 then 3 else if zAS op≠e0 then 2 else-1:=rfl
 obtain⟨b1,h1⟩: ∃b,(op==1)=b:=⟨_,rfl⟩;obtain⟨b2,h2⟩: ∃b,(op==14)=b:=⟨_,rfl⟩;obtain⟨b3,h3⟩: ∃b,(op==2)=b:=⟨_,rfl⟩;obtain⟨b4,h4⟩: ∃b,(op==12)=b:=⟨_,rfl⟩;obtain⟨b5,h5⟩: ∃b,(op==13)=b:=⟨_,rfl⟩;obtain⟨b6,h6⟩: ∃b,(op==15)=b:=⟨_,rfl⟩;obtain⟨b7,h7⟩: ∃b,(op==10)=b:=⟨_,rfl⟩;simp only[ZE,seval,KE]at hs;by_cases c1:op=1
 ·subst c1;have:zBi 1=0:=rfl;rw[this];simp only[ZE,seval,KE];refine⟨[1999],[],?_⟩;simp only[ZE,seval,zAp.eq_1,zAp.eq_2,zAq.eq_1,zAq.eq_2,GZ,zAj.eq_def,ghK.eq_def,zAi.eq_def,hdH.eq_1,hdH.eq_2,kpH.eq_1,kpH.eq_2,hdl.eq_def,zpC.eq_def,zht,AV.core,GZ,pwL,pwO,txO,zAa,prO]
 by_cases c2:op=14
 ·subst c2;have:zBi 14=0:=rfl;rw[this];simp only[ZE,seval,KE];refine⟨[1999],[],?_⟩;simp only[ZE,seval,zAp.eq_1,zAp.eq_2,zAq.eq_1,zAq.eq_2,GZ,zAj.eq_def,ghK.eq_def,zAi.eq_def,hdH.eq_1,hdH.eq_2,kpH.eq_1,kpH.eq_2,hdl.eq_def,zpC.eq_def,zht,AV.core,GZ,pwL,pwO,txO,zAa,prO]
 by_cases c3:op=2
 ·subst c3;have:zBi 2=1:=rfl;rw[this];simp only[ZE,seval,KE];refine⟨[1999],[],?_⟩;simp only[ZE,seval,zAp.eq_1,zAp.eq_2,zAq.eq_1,zAq.eq_2,GZ,zAj.eq_def,ghK.eq_def,zAi.eq_def,hdH.eq_1,hdH.eq_2,kpH.eq_1,kpH.eq_2,hdl.eq_def,zpC.eq_def,zht,AV.core,GZ,pwL,pwO,txO,zAa,prO]
 by_cases c4:op=12
 ·subst c4;have:zBi 12=1:=rfl;rw[this];simp only[ZE,seval,KE];refine⟨[1999],[],?_⟩;simp only[ZE,seval,zAp.eq_1,zAp.eq_2,zAq.eq_1,zAq.eq_2,GZ,zAj.eq_def,ghK.eq_def,zAi.eq_def,hdH.eq_1,hdH.eq_2,kpH.eq_1,kpH.eq_2,hdl.eq_def,zpC.eq_def,zht,AV.core,GZ,pwL,pwO,txO,zAa,prO]
 by_cases c5:op=13
 ·subst c5;have:zBi 13=1:=rfl;rw[this];simp only[ZE,seval,KE];refine⟨[1999],[],?_⟩;simp only[ZE,seval,zAp.eq_1,zAp.eq_2,zAq.eq_1,zAq.eq_2,GZ,zAj.eq_def,ghK.eq_def,zAi.eq_def,hdH.eq_1,hdH.eq_2,kpH.eq_1,kpH.eq_2,hdl.eq_def,zpC.eq_def,zht,AV.core,GZ,pwL,pwO,txO,zAa,prO]
 by_cases c6:op=15
 ·subst c6;have:zBi 15=1:=rfl;rw[this];simp only[ZE,seval,KE];refine⟨[1999],[],?_⟩;simp only[ZE,seval,zAp.eq_1,zAp.eq_2,zAq.eq_1,zAq.eq_2,GZ,zAj.eq_def,ghK.eq_def,zAi.eq_def,hdH.eq_1,hdH.eq_2,kpH.eq_1,kpH.eq_2,hdl.eq_def,zpC.eq_def,zht,AV.core,GZ,pwL,pwO,txO,zAa,prO]
 by_cases c7:op=10
 ·subst c7;have:zBi 10=3:=rfl;rw[this];simp only[ZE,seval,KE];refine⟨[1999],[],?_⟩;simp only[ZE,seval,zAp.eq_1,zAp.eq_2,zAq.eq_1,zAq.eq_2,GZ,zAj.eq_def,ghK.eq_def,zAi.eq_def,hdH.eq_1,hdH.eq_2,kpH.eq_1,kpH.eq_2,hdl.eq_def,zpC.eq_def,zht,AV.core,GZ,pwL,pwO,txO,zAa,prO]
 have d1:(op==1)=false:=by simp[c1]
 have d2:(op==14)=false:=by simp[c2]
 have d3:(op==2)=false:=by simp[c3]
 have d4:(op==12)=false:=by simp[c4]
 have d5:(op==13)=false:=by simp[c5]
 have d6:(op==15)=false:=by simp[c6]
 have d7:(op==10)=false:=by simp[c7]
 rw[if_neg (by omega),if_neg (by omega),if_neg c7]at hA;by_cases c8:zAS op=e0
 ·rw[if_neg (by simp[c8])]at hA;have e1:(!decide (e0=(⟨#[]⟩:ByteArray)))=false:=rfl;rw[c8]at hs;rw[hA];simp only[ZE,seval,KE,d1,d2,d3,d4,d5,d6,d7];refine EFn.gV [(7777777,7777777)] hs ?_ ?_
  ·simp only[ZE,seval,GZ]
  rintro V ol new ⟨rfl,rfl,rfl⟩;simp only[ZE,seval,KE,e1,GZ];refine⟨[1999],[],?_⟩;simp only[ZE,seval,zAp.eq_1,zAp.eq_2,zAq.eq_1,zAq.eq_2,GZ,zAj.eq_def,ghK.eq_def,zAi.eq_def,hdH.eq_1,hdH.eq_2,kpH.eq_1,kpH.eq_2,hdl.eq_def,zpC.eq_def,zht,AV.core,GZ,pwL,pwO,txO,zAa,prO]
 ·rw[if_pos c8]at hA;obtain⟨sg,hsg⟩:=zX (zAS op);rw[hsg]at hs c8;have e1:(!decide (sg=(⟨#[]⟩:ByteArray)))=true:=by simp only[Bool.not_eq_true',decide_eq_false_iff_not]; exact c8
  rw[hA];simp only[ZE,seval,KE,d1,d2,d3,d4,d5,d6,d7];refine EFn.gV [(7777777,7777777)] hs ?_ ?_
  ·simp only[ZE,seval,GZ]
  rintro V ol new ⟨rfl,rfl,rfl⟩;simp only[ZE,seval,KE,e1,GZ];refine⟨[1999],[],?_⟩;simp only[ZE,seval,zAp.eq_1,zAp.eq_2,zAq.eq_1,zAq.eq_2,GZ,zAj.eq_def,ghK.eq_def,zAi.eq_def,hdH.eq_1,hdH.eq_2,kpH.eq_1,kpH.eq_2,hdl.eq_def,zpC.eq_def,zht,AV.core,GZ,pwL,pwO,txO,zAa,prO]
theorem zero_w(Z:GP)(w:PW)(bs:List Bool)(hl:bs.length<=1000):
  FnL prog 132 [.ep 900 1 0 0,.d (.sl (bs.map fun b=>[eB b]))] (pwL Z w) (fun V ol new=>V= .tup []/\ol=pwL Z (wOk (bs.all id) w)/\new=[]):=by
 refine FnL.srt (FnL.of_eH 1999 [.ar 900 1,.ar 905 w.1.size] (own:=[]) (fun _=>[]) [] zat func132 rfl call132 ntmps132 (zle rfl) results132 (by
  simp[pwL,pwO,txO,GZ,zyk,AO.noRef,AV.noRefs,AV.noRef,zCV,om,zAd]) (fun gs=> ?_))
 obtain⟨t,ok⟩:=w;simp only[ZE,seval,KE,waa,GZ,pwL,pwO,txO,zAa];refine za1 (fun _=>[]) zat bs.length (fun _=>True) (fun i=>([(0,.ep 900 1 0 0),(6,.d (.sl (bs.map fun b=>[eB b]))),(7,.d (eI bs.length)),(8,.d (eI i))],(1999,.gh [.ar 900 1,.ar 905 t.size] gs)::pwL Z (t,ok&&(bs.take i).all id))) trivial ?_ ?_ (fun i hi _=> ?_)
 ·simp only[ZE,seval]
 ·simp only[ZE,seval,KE,GZ,pwL,pwO,txO,zAa,List.take_zero,List.all_nil,Bool.and_true]
 by_cases h:i<bs.length
 ·have e1:=zai h;have e2:(bs.map fun b=>[D.lit (.bool b)]).getD i []=[D.lit (.bool bs[i])]:=zaa h [];have e3:bs.take (i+1)=bs.take i++[bs[i]]:=by simp
  have hw:=zaq (show i<9223372036854775807 by omega);obtain⟨k,hk⟩:=zX ((ok&&(bs.take i).all id));have hk2:(ok&&(bs.take (i+1)).all id)=(k&&bs[i]):=by rw[e3,List.all_append,<-Bool.and_assoc,hk]; simp
  rw[hk];cases k with
  | true=>
   simp only[ZE,seval,zaw h,e1,e2,waj,hw,KE,hk2,waa,Bool.true_and,GZ,pwL,pwO,txO,zAa];exact h
  | false=>
   simp only[ZE,seval,zaw h,e1,e2,waj,hw,KE,hk2,waa,Bool.false_and,GZ,pwL,pwO,txO,zAa];exact h
 ·have:i=bs.length:=by omega
  subst this;simp only[ZE,seval,zaI (wam bs.length),KE,List.take_length,GZ,pwL,pwO,txO,zAa];refine⟨[1999],[],?_⟩;simp only[ZE,seval,zAp.eq_1,zAp.eq_2,zAq.eq_1,zAq.eq_2,GZ,zAj.eq_def,ghK.eq_def,zAi.eq_def,hdH.eq_1,hdH.eq_2,kpH.eq_1,kpH.eq_2,hdl.eq_def,zpC.eq_def,zht,AV.core,GZ,pwL,pwO,txO,zAa,prO,wOk.eq_1];exact(zAd _).symm
theorem zH0(e:Expr):FnP prog 134 [.agg (zbx e)] (.d (eB (zCE e))) []:=by
 refine FnP.of_eC (own:=[]) chL zat func134 rfl call134 ntmps134 (zle rfl) results134 (fun hok=> ?_);have h1:(e.op==0)=decide (e.op=0):=by rw[wan]; simp
 have h2:=zHa e.k;have h3:=zHa e.w;have h4:((e.args.length:Int)==0)=decide (e.args.length=0):=by rw[wan]; simp
 simp only[ZE,seval,KE]at h2;simp only[ZE,seval,KE]at h3;simp only[ZE,seval,KE,zb6,h1,waa,h4];refine za3.i (fun _=>h2) ?_;simp only[ZE,seval,KE,zb6,h1,waa,h4];refine za3.i (fun _=>h3) ?_;simp only[ZE,seval,KE,zb6,h1,waa,h4];congr 3
def ruleR(x:Rule):Prop:=(-9223372036854775808<=x.n/\x.n<=9223372036854775807)/\x.from'.size<=1000000
theorem rule_w(Z:GP)(hZ:Z.Ok)(x:Rule)(hx:ruleR x)(w:PW)(h:(zEn x w).1.size <=LIM):WCon Z 141 [.d (.agg (zib x))] w (zEn x w) (.tup []):=by
 refine FnL.srt (FnL.of_eH 1999 [.ar 900 1,.ar 905 w.1.size] (own:=[]) chL [] zat func141 rfl call141 ntmps141 (zle rfl) results141 (zDA Z w _ (by simp[AV.noRefs,AV.noRef])) (fun gs=> ?_));obtain⟨k,p,n⟩:=x;obtain⟨⟨r1,r2⟩,r3⟩:=hx;simp only at r1 r2 r3;obtain⟨b1,e1⟩: ∃b,decide (p=(⟨#[]⟩:ByteArray))=b:=⟨_,rfl⟩;obtain⟨b2,e2⟩: ∃b,decide (k>=2)=b:=⟨_,rfl⟩;obtain⟨b3,e3⟩: ∃b,(n==0)=b:=⟨_,rfl⟩;obtain⟨b4,e4⟩: ∃b,(k==3)=b:=⟨_,rfl⟩;have e3':decide (n=0)=b3:=by rw[<-e3,wan]; simp
 have e4':decide (k=3)=b4:=by rw[<-e4,wan]; simp
 have hW:zEn ⟨k,p,n⟩ w=if k=0 then wS (⟨#[105,110,105,116]⟩:ByteArray) (wOk ((b1||b2)&&(b3||b4)) w)else if k=1 then wS (⟨#[107,101,101,112]⟩:ByteArray) (wOk ((b1||b2)&&(b3||b4)) w)else if k=2 then zAu p (wS (⟨#[99,111,112,121,32]⟩:ByteArray) (wOk ((b1||b2)&&(b3||b4)) w))else if k=3 then zCr n (wS (⟨#[32]⟩:ByteArray) (zAu p (wS (⟨#[97,100,100,32]⟩:ByteArray) (wOk ((b1||b2)&&(b3||b4)) w))))else wOk false (wOk ((b1||b2)&&(b3||b4)) w):=by
  rw[<-e1,<-e2,<-e3',<-e4']; rfl
 have cz:=zero_w Z w [b1||b2,b3||b4] (by simp);rw[show [b1||b2,b3||b4].all id=((b1||b2)&&(b3||b4)) by simp]at cz;obtain⟨v,hv⟩:=zX (wOk ((b1||b2)&&(b3||b4)) w);rw[hv]at cz hW;have hl:v.1=w.1:=by rw[<-hv]; rfl
 rw[hW]at h ⊢;by_cases k0:k=0
 ·subst k0;obtain rfl:b2=false:=by rw[<-e2]; rfl
  obtain rfl:b4=false:=by rw[<-e4]; rfl
  simp only[Bool.or_false,Bool.or_true]at cz;rw[if_pos rfl]at h ⊢;simp only[ZE,seval,KE,e1,e2,e3,e4,GZ,pwL,pwO,txO,zAa];refine EFn.gV [(900,900),(905,905),(7777777,7777777)] (cz) ?_ ?_
  ·simp only[ZE,seval,KE,GZ,pwL,pwO,txO,zAa]
  rintro V ol new ⟨rfl,rfl,rfl⟩;simp only[ZE,seval,KE,GZ,pwL,pwO,txO,zAa];refine EFn.gV [(0,900),(5,905)] (zAv ((⟨#[105,110,105,116]⟩:ByteArray)) (v) (h)) ?_ ?_
  ·simp only[ZE,seval,prO,KE,GZ,pwL,pwO,txO,zAa]
  rintro V ol new ⟨rfl,rfl,rfl⟩;simp only[ZE,seval,prO,KE,GZ,pwL,pwO,txO,zAa];refine⟨[3,21,1999],[],?_⟩;simp only[ZE,seval,zAp.eq_1,zAp.eq_2,zAq.eq_1,zAq.eq_2,GZ,zAj.eq_def,ghK.eq_def,zAi.eq_def,hdH.eq_1,hdH.eq_2,kpH.eq_1,kpH.eq_2,hdl.eq_def,zpC.eq_def,zht,AV.core,GZ,pwL,pwO,txO,zAa,prO]
  first | exact⟨rfl,(zAd _).symm⟩ | exact(zAd _).symm | exact rfl | skip
 rw[if_neg k0]at h ⊢;have f0:(k==0)=false:=by simp[k0]
 by_cases k1:k=1
 ·subst k1;obtain rfl:b2=false:=by rw[<-e2]; rfl
  obtain rfl:b4=false:=by rw[<-e4]; rfl
  simp only[Bool.or_false,Bool.or_true]at cz;rw[if_pos rfl]at h ⊢;simp only[ZE,seval,KE,e1,e2,e3,e4,GZ,pwL,pwO,txO,zAa];refine EFn.gV [(900,900),(905,905),(7777777,7777777)] (cz) ?_ ?_
  ·simp only[ZE,seval,KE,GZ,pwL,pwO,txO,zAa]
  rintro V ol new ⟨rfl,rfl,rfl⟩;simp only[ZE,seval,KE,GZ,pwL,pwO,txO,zAa];refine EFn.gV [(0,900),(5,905)] (zAv ((⟨#[107,101,101,112]⟩:ByteArray)) (v) (h)) ?_ ?_
  ·simp only[ZE,seval,prO,KE,GZ,pwL,pwO,txO,zAa]
  rintro V ol new ⟨rfl,rfl,rfl⟩;simp only[ZE,seval,prO,KE,GZ,pwL,pwO,txO,zAa];refine⟨[3,21,1999],[],?_⟩;simp only[ZE,seval,zAp.eq_1,zAp.eq_2,zAq.eq_1,zAq.eq_2,GZ,zAj.eq_def,ghK.eq_def,zAi.eq_def,hdH.eq_1,hdH.eq_2,kpH.eq_1,kpH.eq_2,hdl.eq_def,zpC.eq_def,zht,AV.core,GZ,pwL,pwO,txO,zAa,prO]
  first | exact⟨rfl,(zAd _).symm⟩ | exact(zAd _).symm | exact rfl | skip
 rw[if_neg k1]at h ⊢;have f1:(k==1)=false:=by simp[k1]
 by_cases k2:k=2
 ·subst k2;obtain rfl:b2=true:=by rw[<-e2]; rfl
  obtain rfl:b4=false:=by rw[<-e4]; rfl
  simp only[Bool.or_false,Bool.or_true]at cz;rw[if_pos rfl]at h ⊢;have l1:=wal (zAy _ _) h;have c1:=zBP Z hZ p r3 _ h;simp only[ZE,seval,KE,e1,e2,e3,e4,GZ,pwL,pwO,txO,zAa];refine EFn.gV [(900,900),(905,905),(7777777,7777777)] (cz) ?_ ?_
  ·simp only[ZE,seval,KE,GZ,pwL,pwO,txO,zAa]
  rintro V ol new ⟨rfl,rfl,rfl⟩;simp only[ZE,seval,KE,GZ,pwL,pwO,txO,zAa];refine EFn.gV [(0,900),(5,905)] (zAv ((⟨#[99,111,112,121,32]⟩:ByteArray)) (v) (l1)) ?_ ?_
  ·simp only[ZE,seval,prO,KE,GZ,pwL,pwO,txO,zAa]
  rintro V ol new ⟨rfl,rfl,rfl⟩;simp only[ZE,seval,prO,KE,GZ,pwL,pwO,txO,zAa];refine EFn.gV [(900,900),(905,905),(7777777,7777777)] (c1) ?_ ?_
  ·simp only[ZE,seval,KE,GZ,pwL,pwO,txO,zAa]
  rintro V ol new ⟨rfl,rfl,rfl⟩;simp only[ZE,seval,prO,KE,GZ,pwL,pwO,txO,zAa];refine⟨[3,21,1999],[],?_⟩;simp only[ZE,seval,zAp.eq_1,zAp.eq_2,zAq.eq_1,zAq.eq_2,GZ,zAj.eq_def,ghK.eq_def,zAi.eq_def,hdH.eq_1,hdH.eq_2,kpH.eq_1,kpH.eq_2,hdl.eq_def,zpC.eq_def,zht,AV.core,GZ,pwL,pwO,txO,zAa,prO]
  first | exact⟨rfl,(zAd _).symm⟩ | exact(zAd _).symm | exact rfl | skip
 rw[if_neg k2]at h ⊢;have f2:(k==2)=false:=by simp[k2]
 by_cases k3:k=3
 ·subst k3;obtain rfl:b2=true:=by rw[<-e2]; rfl
  obtain rfl:b4=true:=by rw[<-e4]; rfl
  simp only[Bool.or_false,Bool.or_true]at cz;rw[if_pos rfl]at h ⊢;have l3:=wal (zBS _ _) h;have l2:=wal (zAw _ _) l3;have l1:=wal (zAy _ _) l2;have c1:=zBP Z hZ p r3 _ l2;have c3:=zGM Z n r1 r2 _ h;simp only[ZE,seval,KE,e1,e2,e3,e4,GZ,pwL,pwO,txO,zAa];refine EFn.gV [(900,900),(905,905),(7777777,7777777)] (cz) ?_ ?_
  ·simp only[ZE,seval,KE,GZ,pwL,pwO,txO,zAa]
  rintro V ol new ⟨rfl,rfl,rfl⟩;simp only[ZE,seval,KE,GZ,pwL,pwO,txO,zAa];refine EFn.gV [(0,900),(5,905)] (zAv ((⟨#[97,100,100,32]⟩:ByteArray)) (v) (l1)) ?_ ?_
  ·simp only[ZE,seval,prO,KE,GZ,pwL,pwO,txO,zAa]
  rintro V ol new ⟨rfl,rfl,rfl⟩;simp only[ZE,seval,prO,KE,GZ,pwL,pwO,txO,zAa];refine EFn.gV [(900,900),(905,905),(7777777,7777777)] (c1) ?_ ?_
  ·simp only[ZE,seval,KE,GZ,pwL,pwO,txO,zAa]
  rintro V ol new ⟨rfl,rfl,rfl⟩;simp only[ZE,seval,KE,GZ,pwL,pwO,txO,zAa];refine EFn.gV [(0,900),(5,905)] (zAv ((⟨#[32]⟩:ByteArray)) (zAu p (wS (⟨#[97,100,100,32]⟩:ByteArray) v)) (l3)) ?_ ?_
  ·simp only[ZE,seval,prO,KE,GZ,pwL,pwO,txO,zAa]
  rintro V ol new ⟨rfl,rfl,rfl⟩;simp only[ZE,seval,prO,KE,GZ,pwL,pwO,txO,zAa];refine EFn.gV [(900,900),(905,905),(7777777,7777777)] (c3) ?_ ?_
  ·simp only[ZE,seval,KE,GZ,pwL,pwO,txO,zAa]
  rintro V ol new ⟨rfl,rfl,rfl⟩;simp only[ZE,seval,prO,KE,GZ,pwL,pwO,txO,zAa];refine⟨[3,21,1999],[],?_⟩;simp only[ZE,seval,zAp.eq_1,zAp.eq_2,zAq.eq_1,zAq.eq_2,GZ,zAj.eq_def,ghK.eq_def,zAi.eq_def,hdH.eq_1,hdH.eq_2,kpH.eq_1,kpH.eq_2,hdl.eq_def,zpC.eq_def,zht,AV.core,GZ,pwL,pwO,txO,zAa,prO]
  first | exact⟨rfl,(zAd _).symm⟩ | exact(zAd _).symm | exact rfl | skip
 rw[if_neg k3]at h ⊢;have f3:(k==3)=false:=by simp[k3]
 obtain rfl:b4=false:=by rw[<-e4]; exact f3
 simp only[Bool.or_false]at cz;simp only[ZE,seval,KE,e1,e2,e3,f3,GZ,pwL,pwO,txO,zAa];refine EFn.gV [(900,900),(905,905),(7777777,7777777)] (cz) ?_ ?_
 ·simp only[ZE,seval,KE,GZ,pwL,pwO,txO,zAa]
 rintro V ol new ⟨rfl,rfl,rfl⟩;simp only[ZE,seval,KE,f0,f1,f2,f3,GZ,pwL,pwO,txO,zAa];refine⟨[3,21,1999],[],?_⟩;simp only[ZE,seval,zAp.eq_1,zAp.eq_2,zAq.eq_1,zAq.eq_2,GZ,zAj.eq_def,ghK.eq_def,zAi.eq_def,hdH.eq_1,hdH.eq_2,kpH.eq_1,kpH.eq_2,hdl.eq_def,zpC.eq_def,zht,AV.core,GZ,pwL,pwO,txO,zAa,prO];exact⟨by simp[wOk],(zAd _).symm⟩
def exprB(e:Expr):Prop:=zHN e.k/\zHN e.w/\e.name.size<=1000000/\e.args.length<=1000000
def zDp:Nat->Expr->Prop
 | 0,e=>exprB e
 | d+1,e=>exprB e/\ ∀x∈e.args,zDp d x
def pwC(Z:GP)(w:PW):OL:=(95,.box [.ep 900 1 0 0])::pwL Z w
theorem zIy(Z:GP)(w:PW)(args:List AV)(ha:AV.noRefs [1999] args):
  (zyk 1999 (pwC Z w)/\AV.noRefs [1999] args)/\zCV (om (pwC Z w)) [.ar 900 1,.ar 905 w.1.size]/\AV.noRefs [1999] [.ar 900 1,.ar 905 w.1.size]:=by
 simp[pwC,pwL,pwO,txO,GZ,zyk,AO.noRef,AV.noRefs,AV.noRef,zCV,om,ha,zAd]
theorem sign_size(op:Int):(zAS op).size <=2:=by
 unfold zAS;split
 ·rename_i p hp;have key: ∀p∈opL,p.1.size<=2:=by decide
  exact key p (List.mem_of_find?_eq_some hp)
 ·exact Nat.zero_le _
theorem cl_w(Z:GP)(d:Nat)(hd:d<=1000)(op:Int)(nme:Bts)(k wd:Num)(args:List Expr)(s:Bts)(i:Nat)(hi:i<args.length)(hn:args.length<=1000000)(w w':PW)(hs:(wS s w).1.size <=LIM)
  (hc:WCon Z 137 [.d (.agg (zbx (args.getD i x0))),.d (eI d)] (wS s w) w' (.tup [])):
  FnL prog 189 [.d (.lit (.string s)),.d (eI i),.bp 95 0,.d (.ptr [eI op,eSb nme,eI k.n,eSb k.p,eI wd.n,eSb wd.p,.sl (args.map zbx)]),.d (.ptr [eI ((d+1:Nat):Int)])] (pwC Z w) (fun V ol new=>V= .tup []/\ol=pwC Z w'/\new=[]):=by
 refine FnL.srt (FnL.of_eH 1999 [.ar 900 1,.ar 905 w.1.size] (own:=[]) (fun i=>if i=2001 then [.chn,.ord ⟨[(0,none),(1,none),(2,none),(3,none),(4,none),(5,none),(6,none),(7,none),(8,some [])]⟩]else []) [2] zat func189 rfl call189 ntmps189 (zle rfl) results189 (zIy Z w _ (by simp[AV.noRefs,AV.noRef])) (fun gs=> ?_));have hw:IntKind.i64.wrap (((d+1:Nat):Int)-1)=d:=by rw[show((d+1:Nat):Int)-1=d by omega]; exact zaQ (by omega) (by omega)
 have hx:(args.map zbx).getD i []=zbx (args.getD i x0):=by
  rw[zaa hi]; simp[List.getD,hi]
 rw[zb6]at hx;obtain⟨x,hxx⟩:=zX (args.getD i x0);rw[hxx]at hx hc;rw[zb6]at hc;have e1:=zai hi;simp only[ZE,seval,KE]at hc;simp only[ZE,seval,KE]at hx;simp only[ZE,seval,KE,pwC,GZ,pwL,pwO,txO,zAa];refine EFn.gV [(0,900),(5,905)] (zAv (s) (w) (hs)) ?_ ?_
 ·simp only[ZE,seval,prO,KE,GZ,pwL,pwO,txO,zAa]
 rintro V ol new ⟨rfl,rfl,rfl⟩;simp only[ZE,seval,prO,KE,hw,waa,e1,waj,hx,GZ,pwL,pwO,txO,zAa];refine⟨by kernel_rfl,?_⟩;refine EFn.gV [(900,900),(905,905),(7777777,7777777)] hc ?_ ?_
 ·simp only[ZE,seval,KE,GZ,pwL,pwO,txO,zAa]
 rintro V ol new ⟨rfl,rfl,rfl⟩;simp only[ZE,seval,prO,KE,GZ,pwL,pwO,txO,zAa];refine⟨[1999],[],?_⟩;simp only[ZE,seval,zAp.eq_1,zAp.eq_2,zAq.eq_1,zAq.eq_2,GZ,zAj.eq_def,ghK.eq_def,zAi.eq_def,hdH.eq_1,hdH.eq_2,kpH.eq_1,kpH.eq_2,hdl.eq_def,zpC.eq_def,zht,AV.core,GZ,pwL,pwO,txO,zAa,prO];exact(zAd _).symm
theorem expr0_w(Z:GP)(e:Expr)(w:PW):WCon Z 137 [.d (.agg (zbx e)),.d (eI (0:Nat))] w (zA6 0 e w) (.tup []):=by
  refine FnL.srt (FnL.of_eH 1999 [.ar 900 1,.ar 905 w.1.size] (own:=[]) (fun i=>if i=2001 then [.flt ⟨[(0,none),(1,none),(2,none),(3,none),(4,none),(5,none),(6,none),(7,none),(8,some [3,4,5]),(9,none),(10,none)]⟩ ⟨[],[]⟩]else []) [] zat func137 rfl call137 ntmps137 (zle rfl) results137 (zDA Z w _ (by simp[AV.noRefs,AV.noRef])) (fun gs=> ?_));rw[zb6];rw[zA6];have e1:decide (((0:Nat):Int)<1)=true:=rfl;simp only[ZE,seval,KE,e1,GZ,pwL,pwO,txO,zAa];refine⟨by kernel_rfl,[3,4,5,1999],[],?_⟩;simp only[ZE,seval,zAp.eq_1,zAp.eq_2,zAq.eq_1,zAq.eq_2,GZ,zAj.eq_def,ghK.eq_def,zAi.eq_def,hdH.eq_1,hdH.eq_2,kpH.eq_1,kpH.eq_2,hdl.eq_def,zpC.eq_def,zht,AV.core,GZ,pwL,pwO,txO,zAa,prO];exact(zAd _).symm
theorem exprS_w(Z:GP)(hZ:Z.Ok)(d:Nat)(ih: ∀(e:Expr) (w:PW),d<=1000->zDp d e->(zA6 d e w).1.size <=LIM->WCon Z 137 [.d (.agg (zbx e)),.d (eI d)] w (zA6 d e w) (.tup []))(e:Expr)(w:PW)(hd:d+1<=1000)(hR:zDp (d+1) e)(h:(zA6 (d+1) e w).1.size <=LIM):
  WCon Z 137 [.d (.agg (zbx e)),.d (eI ((d+1:Nat):Int))] w (zA6 (d+1) e w) (.tup []):=by
  refine FnL.srt (FnL.of_eH 1999 [.ar 900 1,.ar 905 w.1.size] (own:=[]) (fun i=>if i=2001 then [.flt ⟨[(0,none),(1,none),(2,none),(3,none),(4,none),(5,none),(6,none),(7,none),(8,some [3,4,5]),(9,none),(10,none)]⟩ ⟨[],[]⟩]else if i=2004 then [.chn,.ord ⟨[(0,none),(1,none),(2,none),(3,none),(4,none),(5,none),(6,none),(7,none),(8,none),(9,none),(10,none),(11,none),(12,none),(13,none),(14,none),(15,none),(16,none),(17,none),(18,none),(19,none),(20,none),(21,none),(22,none),(23,none),(24,none),(25,none),(26,none),(27,none),(28,none),(29,none),(30,none),(31,none),(32,none),(33,none),(34,none),(35,none),(36,none),(37,none),(38,none),(39,none),(40,none),(41,none),(42,none),(43,none),(44,none),(45,none),(46,some [])]⟩]else if i=1005 then [.frz 4,.frz 5]else []) [] zat func137 rfl call137 ntmps137 (zle rfl) results137 (zDA Z w _ (by simp[AV.noRefs,AV.noRef])) (fun gs=> ?_));have ha:=arity_c Z hZ e.op;obtain⟨dd,hdd⟩: ∃z:Int,((d+1:Nat):Int)=z:=⟨_,rfl⟩;rw[hdd];have e1:decide (dd<1)=false:=by simp; omega
  obtain⟨ar,har⟩: ∃a,zBi e.op=a:=⟨_,rfl⟩;have hW:zA6 (d+1) e w=if (e.args.length:Int)≠ar\/w.2=false then(w.1,false)else opW (zA6 d) e (wOk (zCi e) w):=by rw[<-har]; rfl
  rw[har]at ha;rw[zb6];simp only[ZE,seval,KE]at ha;obtain⟨b,hb⟩:=zX (((e.args.length:Int) !=ar));simp only[ZE,seval,KE,e1,waa,GZ,pwL,pwO,txO,zAa];refine⟨by kernel_rfl,?_⟩;refine EFn.gV [(7777777,7777777)] ha ?_ ?_
  ·simp only[ZE,seval,KE,GZ,pwL,pwO,txO,zAa]
  rintro V ol new ⟨rfl,rfl,rfl⟩;cases b with
  | true=>
   have hl:(e.args.length:Int)≠ar:=by simpa using hb
   rw[hW,if_pos (.inl hl)];simp only[ZE,seval,KE,hb,GZ,pwL,pwO,txO,zAa];refine⟨[3,4,5,1999],[],?_⟩;simp only[ZE,seval,zAp.eq_1,zAp.eq_2,zAq.eq_1,zAq.eq_2,GZ,zAj.eq_def,ghK.eq_def,zAi.eq_def,hdH.eq_1,hdH.eq_2,kpH.eq_1,kpH.eq_2,hdl.eq_def,zpC.eq_def,zht,AV.core,GZ,pwL,pwO,txO,zAa,prO];exact(zAd _).symm
  | false=>
   have hl:(e.args.length:Int)=ar:=by simpa using hb
   obtain⟨t,ok⟩:=w;cases ok with
   | false=>
    rw[hW,if_pos (.inr rfl)];simp only[ZE,seval,KE,hb,GZ,pwL,pwO,txO,zAa];refine⟨[3,4,5,1999],[],?_⟩;simp only[ZE,seval,zAp.eq_1,zAp.eq_2,zAq.eq_1,zAq.eq_2,GZ,zAj.eq_def,ghK.eq_def,zAi.eq_def,hdH.eq_1,hdH.eq_2,kpH.eq_1,kpH.eq_2,hdl.eq_def,zpC.eq_def,zht,AV.core,GZ,pwL,pwO,txO,zAa,prO];exact(zAd _).symm
   | true=>
    rw[if_neg (by simp[hl])]at hW;rw[hW]at h ⊢;have n1:=zHa e.k;have n2:=zHa e.w;obtain⟨c1,k1⟩: ∃b,decide (e.name=(⟨#[]⟩:ByteArray))=b:=⟨_,rfl⟩;obtain⟨c2,k2⟩: ∃b,(e.op==14)=b:=⟨_,rfl⟩;obtain⟨c3,k3⟩: ∃b,(e.op==15)=b:=⟨_,rfl⟩;obtain⟨c4,k4⟩: ∃b,(e.op==1)=b:=⟨_,rfl⟩;obtain⟨c5,k5⟩: ∃b,(e.op==12)=b:=⟨_,rfl⟩;obtain⟨c6,k6⟩: ∃b,(e.op==13)=b:=⟨_,rfl⟩;obtain⟨a1,m1⟩: ∃b,zCW e.k=b:=⟨_,rfl⟩;obtain⟨a2,m2⟩: ∃b,zCW e.w=b:=⟨_,rfl⟩;rw[m1]at n1;rw[m2]at n2;simp only[ZE,seval,KE]at n1;simp only[ZE,seval,KE]at n2;simp only[ZE,seval,KE,↓zA7,↓zA8,↓zA9,zBN.eq_1,zBI.eq_1,hb,k1,k2,k3,k4,k5,k6,GZ,pwL,pwO,txO,zAa];refine⟨by kernel_rfl,?_⟩;refine za3.i (fun _=>n1) ?_;simp only[ZE,seval,KE,↓zA7,↓zA8,↓zA9,zBN.eq_1,zBI.eq_1,hb,k1,k2,k3,k4,k5,k6,GZ,pwL,pwO,txO,zAa];refine za3.i (fun _=>n2) ?_;simp only[ZE,seval,KE,↓zA7,↓zA8,↓zA9,zBN.eq_1,zBI.eq_1,hb,k1,k2,k3,k4,k5,k6,GZ,pwL,pwO,txO,zAa];obtain⟨⟨q1,q2,q3,hn⟩,hA⟩:=hR;have hd2:d<=1000:=(by omega);have hx: ∀i,i<e.args.length->zDp d (e.args.getD i x0):=fun i hi=>hA _ (by rw[List.getD,wah hi]; exact wae hi);have d2:decide (e.op=14)=c2:=(by rw[<-k2,wan]; simp);have d3:decide (e.op=15)=c3:=(by rw[<-k3,wan]; simp);have d4:decide (e.op=1)=c4:=(by rw[<-k4,wan]; simp);have d5:decide (e.op=12)=c5:=(by rw[<-k5,wan]; simp);have d6:decide (e.op=13)=c6:=(by rw[<-k6,wan]; simp);have hz:zCi e=([c1||c2||c3,a1||c4||c5,a2||c4||c5||c6].all id):=by
     unfold zCi;rw[d2,d3,d4,d5,d6,m1,m2,show decide (e.name=e0)=c1 from k1];simp[Bool.and_assoc]
    have cz:=zero_w Z (t,true) [c1||c2||c3,a1||c4||c5,a2||c4||c5||c6] (by simp);rw[<-hz]at cz;obtain⟨v,hv⟩:=zX (wOk (zCi e) (t,true));rw[hv]at cz h ⊢;have hvt:v.1=t:=(by rw[<-hv]; rfl);refine EFn.gV [(900,900),(905,905),(7777777,7777777)] cz ?_ ?_
    ·simp only[ZE,seval,KE,wac,wab,GZ,pwL,pwO,txO,zAa]
    rintro V ol new ⟨rfl,rfl,rfl⟩;by_cases h1:e.op=1
    ·obtain rfl:c4=true:=(by rw[<-k4,h1]; rfl);have hO:opW (zA6 d) e v=wS (⟨#[93]⟩:ByteArray) (zBl e.w (wS (⟨#[32,58,32]⟩:ByteArray) (zBl e.k (wS (⟨#[91]⟩:ByteArray) v)))):=(by unfold opW; rw[if_pos h1]);rw[hO]at h ⊢;have l4:=wal (zAw _ _) h;have l3:=wal (zAU _ _) l4;have l2:=wal (zAw _ _) l3;have l1:=wal (zAU _ _) l2;simp only[ZE,seval,KE,k4,GZ,pwL,pwO,txO,zAa];refine EFn.gV [(0,900),(5,905)] (zAv ((⟨#[91]⟩:ByteArray)) (v) (l1)) ?_ ?_
     ·simp only[ZE,seval,prO,KE,GZ,pwL,pwO,txO,zAa]
     rintro V ol new ⟨rfl,rfl,rfl⟩;simp only[ZE,seval,prO,KE,GZ,pwL,pwO,txO,zAa];refine EFn.gV [(900,900),(905,905),(7777777,7777777)] (zEl Z hZ e.k q1 _ l2) ?_ ?_
     ·simp only[ZE,seval,KE,GZ,pwL,pwO,txO,zAa]
     rintro V ol new ⟨rfl,rfl,rfl⟩;simp only[ZE,seval,KE,GZ,pwL,pwO,txO,zAa];refine EFn.gV [(0,900),(5,905)] (zAv ((⟨#[32,58,32]⟩:ByteArray)) (zBl e.k (wS (⟨#[91]⟩:ByteArray) v)) (l3)) ?_ ?_
     ·simp only[ZE,seval,prO,KE,GZ,pwL,pwO,txO,zAa]
     rintro V ol new ⟨rfl,rfl,rfl⟩;simp only[ZE,seval,prO,KE,GZ,pwL,pwO,txO,zAa];refine EFn.gV [(900,900),(905,905),(7777777,7777777)] (zEl Z hZ e.w q2 _ l4) ?_ ?_
     ·simp only[ZE,seval,KE,GZ,pwL,pwO,txO,zAa]
     rintro V ol new ⟨rfl,rfl,rfl⟩;simp only[ZE,seval,KE,GZ,pwL,pwO,txO,zAa];refine EFn.gV [(0,900),(5,905)] (zAv ((⟨#[93]⟩:ByteArray)) (zBl e.w (wS (⟨#[32,58,32]⟩:ByteArray) (zBl e.k (wS (⟨#[91]⟩:ByteArray) v)))) (h)) ?_ ?_
     ·simp only[ZE,seval,prO,KE,GZ,pwL,pwO,txO,zAa]
     rintro V ol new ⟨rfl,rfl,rfl⟩;simp only[ZE,seval,prO,KE,GZ,pwL,pwO,txO,zAa];refine⟨[3,1999],[],?_⟩;simp only[ZE,seval,zAp.eq_1,zAp.eq_2,zAq.eq_1,zAq.eq_2,GZ,zAj.eq_def,ghK.eq_def,zAi.eq_def,hdH.eq_1,hdH.eq_2,kpH.eq_1,kpH.eq_2,hdl.eq_def,zpC.eq_def,zht,AV.core,GZ,pwL,pwO,txO,zAa,prO]
     first | exact⟨rfl,(zAd _).symm⟩ | exact(zAd _).symm | exact rfl | skip
    have g1:(e.op==1)=false:=(by simp[h1]);by_cases h2:e.op=14
    ·have g2:(e.op==14)=true:=(by simp[h2]);have hO:opW (zA6 d) e v=(zAu e.name v):=(by unfold opW; rw[if_neg h1,if_pos h2] <;> rfl);rw[hO]at h ⊢;simp only[ZE,seval,KE,g1,g2,GZ,pwL,pwO,txO,zAa];refine EFn.gV [(900,900),(905,905),(7777777,7777777)] (zBP Z hZ e.name q3 _ h) ?_ ?_
     ·simp only[ZE,seval,KE,GZ,pwL,pwO,txO,zAa]
     rintro V ol new ⟨rfl,rfl,rfl⟩;simp only[ZE,seval,prO,KE,GZ,pwL,pwO,txO,zAa];refine⟨[3,1999],[],?_⟩;simp only[ZE,seval,zAp.eq_1,zAp.eq_2,zAq.eq_1,zAq.eq_2,GZ,zAj.eq_def,ghK.eq_def,zAi.eq_def,hdH.eq_1,hdH.eq_2,kpH.eq_1,kpH.eq_2,hdl.eq_def,zpC.eq_def,zht,AV.core,GZ,pwL,pwO,txO,zAa,prO]
     first | exact⟨rfl,(zAd _).symm⟩ | exact(zAd _).symm | exact rfl | skip
    have g2:(e.op==14)=false:=(by simp[h2]);by_cases h3:e.op=15
    ·have g3:(e.op==15)=true:=(by simp[h3]);have har2:ar=1:=(by rw[<-har,h3]; rfl);have hi0:0<e.args.length:=(by omega);have hO:opW (zA6 d) e v=(wS (⟨#[93]⟩:ByteArray) (zA6 d (e.args.getD 0 x0) (wS (⟨#[91]⟩:ByteArray) (zAu e.name v)))):=(by unfold opW; rw[if_neg h1,if_neg h2,if_pos h3] <;> rfl);rw[hO]at h ⊢;have l2:=wal (zAw _ _) h;have m1:(wS (⟨#[91]⟩:ByteArray) (zAu e.name v)).1.size <=LIM:=wal (zBp d _ _) l2;have l1:=wal (zAw _ _) m1;simp only[ZE,seval,KE,g1,g2,g3,GZ,pwL,pwO,txO,zAa];refine EFn.gV [(900,900),(905,905),(7777777,7777777)] (zBP Z hZ e.name q3 _ l1) ?_ ?_
     ·simp only[ZE,seval,KE,GZ,pwL,pwO,txO,zAa]
     rintro V ol new ⟨rfl,rfl,rfl⟩;simp only[ZE,seval,KE,g1,g2,g3,GZ,pwL,pwO,txO,zAa];refine EFn.gV [(95,3),(900,900),(905,905),(7777777,7777777)] (cl_w Z d hd2 e.op e.name e.k e.w e.args ((⟨#[91]⟩:ByteArray)) 0 hi0 hn ((zAu e.name v)) _ (m1) (ih _ _ hd2 (hx 0 hi0) (l2))) ?_ ?_
     ·simp only[ZE,seval,hdd,KE,pwC,GZ,pwL,pwO,txO,zAa]
     rintro V ol new ⟨rfl,rfl,rfl⟩;simp only[ZE,seval,prO,KE,g1,g2,g3,pwC,GZ,pwL,pwO,txO,zAa];refine EFn.gV [(0,900),(5,905)] (zAv ((⟨#[93]⟩:ByteArray)) ((zA6 d (e.args.getD 0 x0) (wS (⟨#[91]⟩:ByteArray) (zAu e.name v)))) (h)) ?_ ?_
     ·simp only[ZE,seval,prO,KE,GZ,pwL,pwO,txO,zAa]
     rintro V ol new ⟨rfl,rfl,rfl⟩;simp only[ZE,seval,prO,KE,GZ,pwL,pwO,txO,zAa];refine⟨[3,1999],[],?_⟩;simp only[ZE,seval,zAp.eq_1,zAp.eq_2,zAq.eq_1,zAq.eq_2,GZ,zAj.eq_def,ghK.eq_def,zAi.eq_def,hdH.eq_1,hdH.eq_2,kpH.eq_1,kpH.eq_2,hdl.eq_def,zpC.eq_def,zht,AV.core,GZ,pwL,pwO,txO,zAa,prO]
     first | exact⟨rfl,(zAd _).symm⟩ | exact(zAd _).symm | exact rfl | skip
    have g3:(e.op==15)=false:=(by simp[h3]);by_cases h4:e.op=2
    ·have g4:(e.op==2)=true:=(by simp[h4]);have har2:ar=1:=(by rw[<-har,h4]; rfl);have hi0:0<e.args.length:=(by omega);have hO:opW (zA6 d) e v=(zA6 d (e.args.getD 0 x0) (wS (⟨#[126]⟩:ByteArray) v)):=(by unfold opW; rw[if_neg h1,if_neg h2,if_neg h3,if_pos h4] <;> rfl);rw[hO]at h ⊢;have m0:(wS (⟨#[126]⟩:ByteArray) v).1.size <=LIM:=wal (zBp d _ _) h;simp only[ZE,seval,KE,g1,g2,g3,g4,GZ,pwL,pwO,txO,zAa];refine EFn.gV [(95,3),(900,900),(905,905),(7777777,7777777)] (cl_w Z d hd2 e.op e.name e.k e.w e.args ((⟨#[126]⟩:ByteArray)) 0 hi0 hn (v) _ (m0) (ih _ _ hd2 (hx 0 hi0) (h))) ?_ ?_
     ·simp only[ZE,seval,hdd,KE,pwC,GZ,pwL,pwO,txO,zAa]
     rintro V ol new ⟨rfl,rfl,rfl⟩;simp only[ZE,seval,KE,pwC,GZ,pwL,pwO,txO,zAa];refine⟨[3,1999],[],?_⟩;simp only[ZE,seval,zAp.eq_1,zAp.eq_2,zAq.eq_1,zAq.eq_2,GZ,zAj.eq_def,ghK.eq_def,zAi.eq_def,hdH.eq_1,hdH.eq_2,kpH.eq_1,kpH.eq_2,hdl.eq_def,zpC.eq_def,zht,AV.core,GZ,pwL,pwO,txO,zAa,prO]
     first | exact⟨rfl,(zAd _).symm⟩ | exact(zAd _).symm | exact rfl | skip
    have g4:(e.op==2)=false:=(by simp[h4]);by_cases h5:e.op=10
    ·have g5:(e.op==10)=true:=(by simp[h5]);have har2:ar=3:=(by rw[<-har,h5]; rfl);have hi0:0<e.args.length:=(by omega);have hi1:1<e.args.length:=(by omega);have hi2:2<e.args.length:=(by omega);have hO:opW (zA6 d) e v=(wS (⟨#[41]⟩:ByteArray) (zA6 d (e.args.getD 2 x0) (wS (⟨#[32,58,32]⟩:ByteArray) (zA6 d (e.args.getD 1 x0) (wS (⟨#[32,63,32]⟩:ByteArray) (zA6 d (e.args.getD 0 x0) (wS (⟨#[40]⟩:ByteArray) v))))))):=(by unfold opW; rw[if_neg h1,if_neg h2,if_neg h3,if_neg h4,if_pos h5] <;> rfl);rw[hO]at h ⊢;have l3:=wal (zAw _ _) h;have m2:(wS (⟨#[32,58,32]⟩:ByteArray) (zA6 d (e.args.getD 1 x0) (wS (⟨#[32,63,32]⟩:ByteArray) (zA6 d (e.args.getD 0 x0) (wS (⟨#[40]⟩:ByteArray) v))))).1.size <=LIM:=wal (zBp d _ _) l3;have l2:=wal (zAw _ _) m2;have m1:(wS (⟨#[32,63,32]⟩:ByteArray) (zA6 d (e.args.getD 0 x0) (wS (⟨#[40]⟩:ByteArray) v))).1.size <=LIM:=wal (zBp d _ _) l2;have l1:=wal (zAw _ _) m1;have m0:(wS (⟨#[40]⟩:ByteArray) v).1.size <=LIM:=wal (zBp d _ _) l1;simp only[ZE,seval,KE,g1,g2,g3,g4,g5,GZ,pwL,pwO,txO,zAa];refine EFn.gV [(95,3),(900,900),(905,905),(7777777,7777777)] (cl_w Z d hd2 e.op e.name e.k e.w e.args ((⟨#[40]⟩:ByteArray)) 0 hi0 hn (v) _ (m0) (ih _ _ hd2 (hx 0 hi0) (l1))) ?_ ?_
     ·simp only[ZE,seval,hdd,KE,pwC,GZ,pwL,pwO,txO,zAa]
     rintro V ol new ⟨rfl,rfl,rfl⟩;simp only[ZE,seval,prO,KE,g1,g2,g3,g4,g5,pwC,GZ,pwL,pwO,txO,zAa];refine EFn.gV [(95,3),(900,900),(905,905),(7777777,7777777)] (cl_w Z d hd2 e.op e.name e.k e.w e.args ((⟨#[32,63,32]⟩:ByteArray)) 1 hi1 hn ((zA6 d (e.args.getD 0 x0) (wS (⟨#[40]⟩:ByteArray) v))) _ (m1) (ih _ _ hd2 (hx 1 hi1) (l2))) ?_ ?_
     ·simp only[ZE,seval,hdd,KE,pwC,GZ,pwL,pwO,txO,zAa]
     rintro V ol new ⟨rfl,rfl,rfl⟩;simp only[ZE,seval,prO,KE,g1,g2,g3,g4,g5,pwC,GZ,pwL,pwO,txO,zAa];refine EFn.gV [(95,3),(900,900),(905,905),(7777777,7777777)] (cl_w Z d hd2 e.op e.name e.k e.w e.args ((⟨#[32,58,32]⟩:ByteArray)) 2 hi2 hn ((zA6 d (e.args.getD 1 x0) (wS (⟨#[32,63,32]⟩:ByteArray) (zA6 d (e.args.getD 0 x0) (wS (⟨#[40]⟩:ByteArray) v))))) _ (m2) (ih _ _ hd2 (hx 2 hi2) (l3))) ?_ ?_
     ·simp only[ZE,seval,hdd,KE,pwC,GZ,pwL,pwO,txO,zAa]
     rintro V ol new ⟨rfl,rfl,rfl⟩;simp only[ZE,seval,prO,KE,g1,g2,g3,g4,g5,pwC,GZ,pwL,pwO,txO,zAa];refine EFn.gV [(0,900),(5,905)] (zAv ((⟨#[41]⟩:ByteArray)) ((zA6 d (e.args.getD 2 x0) (wS (⟨#[32,58,32]⟩:ByteArray) (zA6 d (e.args.getD 1 x0) (wS (⟨#[32,63,32]⟩:ByteArray) (zA6 d (e.args.getD 0 x0) (wS (⟨#[40]⟩:ByteArray) v))))))) (h)) ?_ ?_
     ·simp only[ZE,seval,prO,KE,GZ,pwL,pwO,txO,zAa]
     rintro V ol new ⟨rfl,rfl,rfl⟩;simp only[ZE,seval,prO,KE,GZ,pwL,pwO,txO,zAa];refine⟨[3,1999],[],?_⟩;simp only[ZE,seval,zAp.eq_1,zAp.eq_2,zAq.eq_1,zAq.eq_2,GZ,zAj.eq_def,ghK.eq_def,zAi.eq_def,hdH.eq_1,hdH.eq_2,kpH.eq_1,kpH.eq_2,hdl.eq_def,zpC.eq_def,zht,AV.core,GZ,pwL,pwO,txO,zAa,prO]
     first | exact⟨rfl,(zAd _).symm⟩ | exact(zAd _).symm | exact rfl | skip
    have g5:(e.op==10)=false:=(by simp[h5]);by_cases h6:e.op=12
    ·have g6:(e.op==12)=true:=(by simp[h6]);have har2:ar=1:=(by rw[<-har,h6]; rfl);have hi0:0<e.args.length:=(by omega);have hO:opW (zA6 d) e v=(wS (⟨#[125]⟩:ByteArray) (zBl e.w (wS (⟨#[32,58,32]⟩:ByteArray) (zBl e.k (wS (⟨#[32,64,32]⟩:ByteArray) (zA6 d (e.args.getD 0 x0) (wS (⟨#[123]⟩:ByteArray) v))))))):=(by unfold opW; rw[if_neg h1,if_neg h2,if_neg h3,if_neg h4,if_neg h5,if_pos h6] <;> rfl);rw[hO]at h ⊢;have l5:=wal (zAw _ _) h;have l4:=wal (zAU _ _) l5;have l3:=wal (zAw _ _) l4;have l2:=wal (zAU _ _) l3;have l1:=wal (zAw _ _) l2;have m0:(wS (⟨#[123]⟩:ByteArray) v).1.size <=LIM:=wal (zBp d _ _) l1;simp only[ZE,seval,KE,g1,g2,g3,g4,g5,g6,GZ,pwL,pwO,txO,zAa];refine EFn.gV [(95,3),(900,900),(905,905),(7777777,7777777)] (cl_w Z d hd2 e.op e.name e.k e.w e.args ((⟨#[123]⟩:ByteArray)) 0 hi0 hn (v) _ (m0) (ih _ _ hd2 (hx 0 hi0) (l1))) ?_ ?_
     ·simp only[ZE,seval,hdd,KE,pwC,GZ,pwL,pwO,txO,zAa]
     rintro V ol new ⟨rfl,rfl,rfl⟩;simp only[ZE,seval,prO,KE,g1,g2,g3,g4,g5,g6,pwC,GZ,pwL,pwO,txO,zAa];refine EFn.gV [(0,900),(5,905)] (zAv ((⟨#[32,64,32]⟩:ByteArray)) ((zA6 d (e.args.getD 0 x0) (wS (⟨#[123]⟩:ByteArray) v))) (l2)) ?_ ?_
     ·simp only[ZE,seval,prO,KE,GZ,pwL,pwO,txO,zAa]
     rintro V ol new ⟨rfl,rfl,rfl⟩;simp only[ZE,seval,prO,KE,g1,g2,g3,g4,g5,g6,GZ,pwL,pwO,txO,zAa];refine EFn.gV [(900,900),(905,905),(7777777,7777777)] (zEl Z hZ e.k q1 _ l3) ?_ ?_
     ·simp only[ZE,seval,KE,GZ,pwL,pwO,txO,zAa]
     rintro V ol new ⟨rfl,rfl,rfl⟩;simp only[ZE,seval,KE,g1,g2,g3,g4,g5,g6,GZ,pwL,pwO,txO,zAa];refine EFn.gV [(0,900),(5,905)] (zAv ((⟨#[32,58,32]⟩:ByteArray)) ((zBl e.k (wS (⟨#[32,64,32]⟩:ByteArray) (zA6 d (e.args.getD 0 x0) (wS (⟨#[123]⟩:ByteArray) v))))) (l4)) ?_ ?_
     ·simp only[ZE,seval,prO,KE,GZ,pwL,pwO,txO,zAa]
     rintro V ol new ⟨rfl,rfl,rfl⟩;simp only[ZE,seval,prO,KE,g1,g2,g3,g4,g5,g6,GZ,pwL,pwO,txO,zAa];refine EFn.gV [(900,900),(905,905),(7777777,7777777)] (zEl Z hZ e.w q2 _ l5) ?_ ?_
     ·simp only[ZE,seval,KE,GZ,pwL,pwO,txO,zAa]
     rintro V ol new ⟨rfl,rfl,rfl⟩;simp only[ZE,seval,KE,g1,g2,g3,g4,g5,g6,GZ,pwL,pwO,txO,zAa];refine EFn.gV [(0,900),(5,905)] (zAv ((⟨#[125]⟩:ByteArray)) ((zBl e.w (wS (⟨#[32,58,32]⟩:ByteArray) (zBl e.k (wS (⟨#[32,64,32]⟩:ByteArray) (zA6 d (e.args.getD 0 x0) (wS (⟨#[123]⟩:ByteArray) v))))))) (h)) ?_ ?_
     ·simp only[ZE,seval,prO,KE,GZ,pwL,pwO,txO,zAa]
     rintro V ol new ⟨rfl,rfl,rfl⟩;simp only[ZE,seval,prO,KE,GZ,pwL,pwO,txO,zAa];refine⟨[3,1999],[],?_⟩;simp only[ZE,seval,zAp.eq_1,zAp.eq_2,zAq.eq_1,zAq.eq_2,GZ,zAj.eq_def,ghK.eq_def,zAi.eq_def,hdH.eq_1,hdH.eq_2,kpH.eq_1,kpH.eq_2,hdl.eq_def,zpC.eq_def,zht,AV.core,GZ,pwL,pwO,txO,zAa,prO]
     first | exact⟨rfl,(zAd _).symm⟩ | exact(zAd _).symm | exact rfl | skip
    have g6:(e.op==12)=false:=(by simp[h6]);by_cases h7:e.op=13
    ·have g7:(e.op==13)=true:=(by simp[h7]);have har2:ar=1:=(by rw[<-har,h7]; rfl);have hi0:0<e.args.length:=(by omega);have hO:opW (zA6 d) e v=(wS (⟨#[125]⟩:ByteArray) (zBl e.w (wS (⟨#[32,58,32]⟩:ByteArray) (zA6 d (e.args.getD 0 x0) (wS (⟨#[123]⟩:ByteArray) v))))):=(by unfold opW; rw[if_neg h1,if_neg h2,if_neg h3,if_neg h4,if_neg h5,if_neg h6,if_pos h7] <;> rfl);rw[hO]at h ⊢;have l3:=wal (zAw _ _) h;have l2:=wal (zAU _ _) l3;have l1:=wal (zAw _ _) l2;have m0:(wS (⟨#[123]⟩:ByteArray) v).1.size <=LIM:=wal (zBp d _ _) l1;simp only[ZE,seval,KE,g1,g2,g3,g4,g5,g6,g7,GZ,pwL,pwO,txO,zAa];refine EFn.gV [(95,3),(900,900),(905,905),(7777777,7777777)] (cl_w Z d hd2 e.op e.name e.k e.w e.args ((⟨#[123]⟩:ByteArray)) 0 hi0 hn (v) _ (m0) (ih _ _ hd2 (hx 0 hi0) (l1))) ?_ ?_
     ·simp only[ZE,seval,hdd,KE,pwC,GZ,pwL,pwO,txO,zAa]
     rintro V ol new ⟨rfl,rfl,rfl⟩;simp only[ZE,seval,prO,KE,g1,g2,g3,g4,g5,g6,g7,pwC,GZ,pwL,pwO,txO,zAa];refine EFn.gV [(0,900),(5,905)] (zAv ((⟨#[32,58,32]⟩:ByteArray)) ((zA6 d (e.args.getD 0 x0) (wS (⟨#[123]⟩:ByteArray) v))) (l2)) ?_ ?_
     ·simp only[ZE,seval,prO,KE,GZ,pwL,pwO,txO,zAa]
     rintro V ol new ⟨rfl,rfl,rfl⟩;simp only[ZE,seval,prO,KE,g1,g2,g3,g4,g5,g6,g7,GZ,pwL,pwO,txO,zAa];refine EFn.gV [(900,900),(905,905),(7777777,7777777)] (zEl Z hZ e.w q2 _ l3) ?_ ?_
     ·simp only[ZE,seval,KE,GZ,pwL,pwO,txO,zAa]
     rintro V ol new ⟨rfl,rfl,rfl⟩;simp only[ZE,seval,KE,g1,g2,g3,g4,g5,g6,g7,GZ,pwL,pwO,txO,zAa];refine EFn.gV [(0,900),(5,905)] (zAv ((⟨#[125]⟩:ByteArray)) ((zBl e.w (wS (⟨#[32,58,32]⟩:ByteArray) (zA6 d (e.args.getD 0 x0) (wS (⟨#[123]⟩:ByteArray) v))))) (h)) ?_ ?_
     ·simp only[ZE,seval,prO,KE,GZ,pwL,pwO,txO,zAa]
     rintro V ol new ⟨rfl,rfl,rfl⟩;simp only[ZE,seval,prO,KE,GZ,pwL,pwO,txO,zAa];refine⟨[3,1999],[],?_⟩;simp only[ZE,seval,zAp.eq_1,zAp.eq_2,zAq.eq_1,zAq.eq_2,GZ,zAj.eq_def,ghK.eq_def,zAi.eq_def,hdH.eq_1,hdH.eq_2,kpH.eq_1,kpH.eq_2,hdl.eq_def,zpC.eq_def,zht,AV.core,GZ,pwL,pwO,txO,zAa,prO]
     first | exact⟨rfl,(zAd _).symm⟩ | exact(zAd _).symm | exact rfl | skip
    have g7:(e.op==13)=false:=(by simp[h7]);have har2:ar=2:=by
     unfold zBi at har;rw[if_neg (by omega),if_neg (by omega),if_neg h5]at har;split at har <;> omega
    have hi0:0<e.args.length:=(by omega);have hi1:1<e.args.length:=(by omega);have hO:opW (zA6 d) e v=(wS (⟨#[41]⟩:ByteArray) (zA6 d (e.args.getD 1 x0) (wS ((⟨#[32]⟩:ByteArray)++zAS e.op++(⟨#[32]⟩:ByteArray)) (zA6 d (e.args.getD 0 x0) (wS (⟨#[40]⟩:ByteArray) v))))):=(by unfold opW; rw[if_neg h1,if_neg h2,if_neg h3,if_neg h4,if_neg h5,if_neg h6,if_neg h7] <;> rfl);rw[hO]at h ⊢;have l2:=wal (zAw _ _) h;have m1:(wS ((⟨#[32]⟩:ByteArray)++zAS e.op++(⟨#[32]⟩:ByteArray)) (zA6 d (e.args.getD 0 x0) (wS (⟨#[40]⟩:ByteArray) v))).1.size <=LIM:=wal (zBp d _ _) l2;have l1:=wal (zAw _ _) m1;have m0:(wS (⟨#[40]⟩:ByteArray) v).1.size <=LIM:=wal (zBp d _ _) l1;simp only[ZE,seval,KE,g1,g2,g3,g4,g5,g6,g7,GZ,pwL,pwO,txO,zAa];refine EFn.gV [(95,3),(900,900),(905,905),(7777777,7777777)] (cl_w Z d hd2 e.op e.name e.k e.w e.args ((⟨#[40]⟩:ByteArray)) 0 hi0 hn (v) _ (m0) (ih _ _ hd2 (hx 0 hi0) (l1))) ?_ ?_
    ·simp only[ZE,seval,hdd,KE,pwC,GZ,pwL,pwO,txO,zAa]
    rintro V ol new ⟨rfl,rfl,rfl⟩;simp only[ZE,seval,KE,g1,g2,g3,g4,g5,g6,g7,pwC,GZ,pwL,pwO,txO,zAa];refine EFn.gV [(7777777,7777777)] (sign_c Z hZ e.op) ?_ ?_
    ·simp only[ZE,seval,KE,pwC,GZ,pwL,pwO,txO,zAa]
    rintro V ol new ⟨rfl,rfl,rfl⟩;simp only[ZE,seval,KE,g1,g2,g3,g4,g5,g6,g7,pwC,GZ,pwL,pwO,txO,zAa];have hsz:=sign_size e.op;have hz1:(⟨#[32]⟩:ByteArray).size =1:=rfl;refine⟨?_,?_,?_⟩
    ·show((_:Nat):Int)<=9223372036854775807;rw[hz1]; omega
    ·show((_:Nat):Int)<=9223372036854775807;rw[ByteArray.size_append,hz1]; omega
    refine EFn.gV [(95,3),(900,900),(905,905),(7777777,7777777)] (cl_w Z d hd2 e.op e.name e.k e.w e.args (((⟨#[32]⟩:ByteArray)++zAS e.op++(⟨#[32]⟩:ByteArray))) 1 hi1 hn ((zA6 d (e.args.getD 0 x0) (wS (⟨#[40]⟩:ByteArray) v))) _ (m1) (ih _ _ hd2 (hx 1 hi1) (l2))) ?_ ?_
    ·simp only[ZE,seval,hdd,KE,pwC,GZ,pwL,pwO,txO,zAa]
    rintro V ol new ⟨rfl,rfl,rfl⟩;simp only[ZE,seval,prO,KE,g1,g2,g3,g4,g5,g6,g7,pwC,GZ,pwL,pwO,txO,zAa];refine EFn.gV [(0,900),(5,905)] (zAv ((⟨#[41]⟩:ByteArray)) ((zA6 d (e.args.getD 1 x0) (wS ((⟨#[32]⟩:ByteArray)++zAS e.op++(⟨#[32]⟩:ByteArray)) (zA6 d (e.args.getD 0 x0) (wS (⟨#[40]⟩:ByteArray) v))))) (h)) ?_ ?_
    ·simp only[ZE,seval,prO,KE,GZ,pwL,pwO,txO,zAa]
    rintro V ol new ⟨rfl,rfl,rfl⟩;simp only[ZE,seval,prO,KE,GZ,pwL,pwO,txO,zAa];refine⟨[3,1999],[],?_⟩;simp only[ZE,seval,zAp.eq_1,zAp.eq_2,zAq.eq_1,zAq.eq_2,GZ,zAj.eq_def,ghK.eq_def,zAi.eq_def,hdH.eq_1,hdH.eq_2,kpH.eq_1,kpH.eq_2,hdl.eq_def,zpC.eq_def,zht,AV.core,GZ,pwL,pwO,txO,zAa,prO]
    first | exact⟨rfl,(zAd _).symm⟩ | exact(zAd _).symm | exact rfl | skip
theorem expr_w(Z:GP)(hZ:Z.Ok): ∀(d:Nat) (e:Expr) (w:PW),d<=1000->zDp d e->(zA6 d e w).1.size <=LIM->WCon Z 137 [.d (.agg (zbx e)),.d (eI d)] w (zA6 d e w) (.tup [])
 | 0,e,w,_,_,_=>expr0_w Z e w
 | d+1,e,w,hd,hR,h=>exprS_w Z hZ d (expr_w Z hZ d) e w hd hR h
theorem zET{α:Type}{one:α->PW->PW}(ho: ∀x w,w.1.size<=(one x w).1.size)(z:α)(l:List α)(w:PW): ∀i j,i<=j->(wLs one z l i w).1.size <=(wLs one z l j w).1.size :=by
 intro i j hij
 induction j with
 | zero=>
  have:i=0:=by omega
  subst this; exact wam _
 | succ j ih=>
  rcases wak j i with h | h
  ·have:i=j+1:=by omega
   subst this; exact wam _
  ·refine wal (ih h) ?_;show _<=(one _ (if 0<j then wS (⟨#[44,32]⟩:ByteArray) (wLs one z l j w)else wLs one z l j w)).1.size;split
   ·exact wal (zAw _ _) (ho _ _)
   ·exact ho _ _
theorem listN_w(Z:GP)(hZ:Z.Ok)(l:List Num)(hl: ∀x∈l,zHN x)(hn:l.length<=1000000)(w:PW)(h:(zCv zBl n0 l w).1.size <=LIM):
  FnL prog 138 [.ep 900 1 0 0,.d (ziG l),.clo (.func 135) [.ep 900 1 0 0] []] (pwL Z w) (fun V ol new=>V= .tup []/\ol=pwL Z (zCv zBl n0 l w)/\new=[]):=by
 refine FnL.srt (FnL.of_eH 1999 [.ar 900 1,.ar 905 w.1.size] (own:=[]) (fun _=>[]) [] zat func138 rfl call138 ntmps138 (zle rfl) results138 (zDA Z w _ (by simp[AV.noRefs,AV.noRef])) (fun gs=> ?_));have hL:zCv zBl n0 l w=wS (⟨#[41]⟩:ByteArray) (wLs zBl n0 l l.length (wS (⟨#[40]⟩:ByteArray) w)):=rfl;rw[hL]at h ⊢;have l1:=wal (zAw _ _) h;have hle: ∀i,i<=l.length->(wLs zBl n0 l i (wS (⟨#[40]⟩:ByteArray) w)).1.size <=LIM:=fun i hi=>wal (zET zAU n0 l _ i _ hi) l1;simp only[ZE,seval,KE,GZ,pwL,pwO,txO,zAa];refine EFn.gV [(0,900),(5,905)] (zAv ((⟨#[40]⟩:ByteArray)) (w) (hle 0 (Nat.zero_le _))) ?_ ?_
 ·simp only[ZE,seval,prO,KE,GZ,pwL,pwO,txO,zAa]
 rintro V ol new ⟨rfl,rfl,rfl⟩;simp only[ZE,seval,prO,KE,waa,GZ,pwL,pwO,txO,zAa];refine za1 (fun _=>[]) zat l.length (fun _=>True) (fun i=>([(0,.ep 900 1 0 0),(2,.clo (.func 135) [.ep 900 1 0 0] []),(12,.d (ziG l)),(13,.d (eI l.length)),(14,.d (eI i))],(1999,.gh [.ar 900 1,.ar 905 w.1.size] gs)::pwL Z (wLs zBl n0 l i (wS (⟨#[40]⟩:ByteArray) w)))) trivial ?_ ?_ (fun i hi _=> ?_)
 ·simp only[ZE,seval,KE]
 ·simp only[ZE,seval,KE,wLs.eq_1,GZ,pwL,pwO,txO,zAa]
 by_cases hlt:i<l.length
 ·have e1:=zai hlt;have hg:l.getD i n0=l[i]:=by rw[List.getD,wah hlt]; rfl
  have hx:=hl _ (wae hlt);have e2:(l.map zgL).getD i []=[eI (l.getD i n0).n,eSb (l.getD i n0).p]:=by rw[zaa hlt,hg]; rfl
  rw[<-hg]at hx;have hw:=zaq (show i<9223372036854775807 by omega);have hS:wLs zBl n0 l (i+1) (wS (⟨#[40]⟩:ByteArray) w)=zBl (l.getD i n0) (if 0<i then wS (⟨#[44,32]⟩:ByteArray) (wLs zBl n0 l i (wS (⟨#[40]⟩:ByteArray) w))else wLs zBl n0 l i (wS (⟨#[40]⟩:ByteArray) w)):=rfl;have h2:=hle (i+1) hlt;rw[hS]at h2;obtain⟨x,hxx⟩:=zX (l.getD i n0);obtain⟨v,hv⟩:=zX (wLs zBl n0 l i (wS (⟨#[40]⟩:ByteArray) w));rw[hxx]at hx e2 hS h2;rw[hv]at hS h2 ⊢;simp only[ZE,seval,KE]at e2;by_cases h0:0<i
  ·rw[if_pos h0]at hS h2;have g0:decide ((i:Int)>0)=true:=by simp; omega
   have c1:=zEl Z hZ x hx _ h2;simp only[ZE,seval,zaw hlt,e1,e2,waj,KE,g0,GZ,pwL,pwO,txO,zAa];refine EFn.gV [(0,900),(5,905)] (zAv ((⟨#[44,32]⟩:ByteArray)) (v) (wal (zAU _ _) h2)) ?_ ?_
   ·simp only[ZE,seval,prO,KE,GZ,pwL,pwO,txO,zAa]
   rintro V ol new ⟨rfl,rfl,rfl⟩;simp only[ZE,seval,prO,KE,GZ,pwL,pwO,txO,zAa];refine EFn.gV [(900,900),(905,905),(7777777,7777777)] (c1) ?_ ?_
   ·simp only[ZE,seval,KE,GZ,pwL,pwO,txO,zAa]
   rintro V ol new ⟨rfl,rfl,rfl⟩;simp only[ZE,seval,hw,hS,KE,GZ,pwL,pwO,txO,zAa];exact hlt
  ·rw[if_neg h0]at hS h2;have g0:decide ((i:Int)>0)=false:=by simp; omega
   have c1:=zEl Z hZ x hx _ h2;simp only[ZE,seval,zaw hlt,e1,e2,waj,KE,g0,GZ,pwL,pwO,txO,zAa];refine EFn.gV [(900,900),(905,905),(7777777,7777777)] (c1) ?_ ?_
   ·simp only[ZE,seval,KE,GZ,pwL,pwO,txO,zAa]
   rintro V ol new ⟨rfl,rfl,rfl⟩;simp only[ZE,seval,hw,hS,KE,GZ,pwL,pwO,txO,zAa];exact hlt
 ·have:i=l.length:=by omega
  subst this;simp only[ZE,seval,zaI (wam l.length),KE,GZ,pwL,pwO,txO,zAa];refine EFn.gV [(0,900),(5,905)] (zAv ((⟨#[41]⟩:ByteArray)) (wLs zBl n0 l l.length (wS (⟨#[40]⟩:ByteArray) w)) (h)) ?_ ?_
  ·simp only[ZE,seval,prO,KE,GZ,pwL,pwO,txO,zAa]
  rintro V ol new ⟨rfl,rfl,rfl⟩;simp only[ZE,seval,prO,KE,GZ,pwL,pwO,txO,zAa];refine⟨[1999],[],?_⟩;simp only[ZE,seval,zAp.eq_1,zAp.eq_2,zAq.eq_1,zAq.eq_2,GZ,zAj.eq_def,ghK.eq_def,zAi.eq_def,hdH.eq_1,hdH.eq_2,kpH.eq_1,kpH.eq_2,hdl.eq_def,zpC.eq_def,zht,AV.core,GZ,pwL,pwO,txO,zAa,prO]
  first | exact⟨rfl,(zAd _).symm⟩ | exact(zAd _).symm | exact rfl | skip
theorem listS_w(Z:GP)(hZ:Z.Ok)(l:List Bts)(hl: ∀x∈l,x.size<=1000000)(hn:l.length<=1000000)(w:PW)(h:(zCv zAu e0 l w).1.size <=LIM):
  FnL prog 89 [.ep 900 1 0 0,.d (eSbs l),.clo (.func 88) [.ep 900 1 0 0] []] (pwL Z w) (fun V ol new=>V= .tup []/\ol=pwL Z (zCv zAu e0 l w)/\new=[]):=by
 refine FnL.srt (FnL.of_eH 1999 [.ar 900 1,.ar 905 w.1.size] (own:=[]) (fun _=>[]) [] zat func89 rfl call89 ntmps89 (zle rfl) results89 (zDA Z w _ (by simp[AV.noRefs,AV.noRef])) (fun gs=> ?_));have hL:zCv zAu e0 l w=wS (⟨#[41]⟩:ByteArray) (wLs zAu e0 l l.length (wS (⟨#[40]⟩:ByteArray) w)):=rfl;rw[hL]at h ⊢;have l1:=wal (zAw _ _) h;have hle: ∀i,i<=l.length->(wLs zAu e0 l i (wS (⟨#[40]⟩:ByteArray) w)).1.size <=LIM:=fun i hi=>wal (zET zAy e0 l _ i _ hi) l1;simp only[ZE,seval,KE,GZ,pwL,pwO,txO,zAa];refine EFn.gV [(0,900),(5,905)] (zAv ((⟨#[40]⟩:ByteArray)) (w) (hle 0 (Nat.zero_le _))) ?_ ?_
 ·simp only[ZE,seval,prO,KE,GZ,pwL,pwO,txO,zAa]
 rintro V ol new ⟨rfl,rfl,rfl⟩;simp only[ZE,seval,prO,KE,waa,GZ,pwL,pwO,txO,zAa];refine za1 (fun _=>[]) zat l.length (fun _=>True) (fun i=>([(0,.ep 900 1 0 0),(2,.clo (.func 88) [.ep 900 1 0 0] []),(12,.d (eSbs l)),(13,.d (eI l.length)),(14,.d (eI i))],(1999,.gh [.ar 900 1,.ar 905 w.1.size] gs)::pwL Z (wLs zAu e0 l i (wS (⟨#[40]⟩:ByteArray) w)))) trivial ?_ ?_ (fun i hi _=> ?_)
 ·simp only[ZE,seval,KE]
 ·simp only[ZE,seval,KE,wLs.eq_1,GZ,pwL,pwO,txO,zAa]
 by_cases hlt:i<l.length
 ·have e1:=zai hlt;have hg:l.getD i e0=l[i]:=by rw[List.getD,wah hlt]; rfl
  have hx:=hl _ (wae hlt);have e2:(l.map fun s=>[eSb s]).getD i []=[eSb (l.getD i e0)]:=by rw[zaa hlt,hg]
  rw[<-hg]at hx;have hw:=zaq (show i<9223372036854775807 by omega);have hS:wLs zAu e0 l (i+1) (wS (⟨#[40]⟩:ByteArray) w)=zAu (l.getD i e0) (if 0<i then wS (⟨#[44,32]⟩:ByteArray) (wLs zAu e0 l i (wS (⟨#[40]⟩:ByteArray) w))else wLs zAu e0 l i (wS (⟨#[40]⟩:ByteArray) w)):=rfl;have h2:=hle (i+1) hlt;rw[hS]at h2;obtain⟨x,hxx⟩:=zX (l.getD i e0);obtain⟨v,hv⟩:=zX (wLs zAu e0 l i (wS (⟨#[40]⟩:ByteArray) w));rw[hxx]at hx e2 hS h2;rw[hv]at hS h2 ⊢;simp only[ZE,seval,KE]at e2;by_cases h0:0<i
  ·rw[if_pos h0]at hS h2;have g0:decide ((i:Int)>0)=true:=by simp; omega
   have c1:=zBP Z hZ x hx _ h2;simp only[ZE,seval,zaw hlt,e1,e2,waj,KE,g0,GZ,pwL,pwO,txO,zAa];refine EFn.gV [(0,900),(5,905)] (zAv ((⟨#[44,32]⟩:ByteArray)) (v) (wal (zAy _ _) h2)) ?_ ?_
   ·simp only[ZE,seval,prO,KE,GZ,pwL,pwO,txO,zAa]
   rintro V ol new ⟨rfl,rfl,rfl⟩;simp only[ZE,seval,prO,KE,GZ,pwL,pwO,txO,zAa];refine EFn.gV [(900,900),(905,905),(7777777,7777777)] (c1) ?_ ?_
   ·simp only[ZE,seval,KE,GZ,pwL,pwO,txO,zAa]
   rintro V ol new ⟨rfl,rfl,rfl⟩;simp only[ZE,seval,hw,hS,KE,GZ,pwL,pwO,txO,zAa];exact hlt
  ·rw[if_neg h0]at hS h2;have g0:decide ((i:Int)>0)=false:=by simp; omega
   have c1:=zBP Z hZ x hx _ h2;simp only[ZE,seval,zaw hlt,e1,e2,waj,KE,g0,GZ,pwL,pwO,txO,zAa];refine EFn.gV [(900,900),(905,905),(7777777,7777777)] (c1) ?_ ?_
   ·simp only[ZE,seval,KE,GZ,pwL,pwO,txO,zAa]
   rintro V ol new ⟨rfl,rfl,rfl⟩;simp only[ZE,seval,hw,hS,KE,GZ,pwL,pwO,txO,zAa];exact hlt
 ·have:i=l.length:=by omega
  subst this;simp only[ZE,seval,zaI (wam l.length),KE,GZ,pwL,pwO,txO,zAa];refine EFn.gV [(0,900),(5,905)] (zAv ((⟨#[41]⟩:ByteArray)) (wLs zAu e0 l l.length (wS (⟨#[40]⟩:ByteArray) w)) (h)) ?_ ?_
  ·simp only[ZE,seval,prO,KE,GZ,pwL,pwO,txO,zAa]
  rintro V ol new ⟨rfl,rfl,rfl⟩;simp only[ZE,seval,prO,KE,GZ,pwL,pwO,txO,zAa];refine⟨[1999],[],?_⟩;simp only[ZE,seval,zAp.eq_1,zAp.eq_2,zAq.eq_1,zAq.eq_2,GZ,zAj.eq_def,ghK.eq_def,zAi.eq_def,hdH.eq_1,hdH.eq_2,kpH.eq_1,kpH.eq_2,hdl.eq_def,zpC.eq_def,zht,AV.core,GZ,pwL,pwO,txO,zAa,prO]
  first | exact⟨rfl,(zAd _).symm⟩ | exact(zAd _).symm | exact rfl | skip
def bindR(b:Bind):Prop:=b.port.size<=1000000/\b.chan.size<=1000000
theorem bind_w(Z:GP)(hZ:Z.Ok)(b:Bind)(hb:bindR b)(w:PW)(h:(zDE b w).1.size <=LIM):
  FnL prog 140 [.d (.agg (zjO b)),.bp 95 0] (pwC Z w) (fun V ol new=>V= .tup []/\ol=pwC Z (zDE b w)/\new=[]):=by
 refine FnL.srt (FnL.of_eH 1999 [.ar 900 1,.ar 905 w.1.size] (own:=[]) (fun _=>[]) [1] zat func140 rfl call140 ntmps140 (zle rfl) results140 (zIy Z w _ (by simp[AV.noRefs,AV.noRef])) (fun gs=> ?_));have hW:zDE b w=zAu b.chan (wS (⟨#[32,61,32]⟩:ByteArray) (zAu b.port w)):=rfl;rw[hW]at h ⊢;obtain⟨q1,q2⟩:=hb;obtain⟨p,c⟩:=b;simp only at q1 q2 h ⊢;have l2:=wal (zAy _ _) h;have l1:=wal (zAw _ _) l2;have c1:=zBP Z hZ p q1 _ l1;have c2:=zBP Z hZ c q2 _ h;simp only[ZE,seval,KE,pwC,GZ,pwL,pwO,txO,zAa];refine EFn.gV [(900,900),(905,905),(7777777,7777777)] (c1) ?_ ?_
 ·simp only[ZE,seval,KE,pwC,GZ,pwL,pwO,txO,zAa]
 rintro V ol new ⟨rfl,rfl,rfl⟩;simp only[ZE,seval,KE,pwC,GZ,pwL,pwO,txO,zAa];refine EFn.gV [(0,900),(5,905)] (zAv ((⟨#[32,61,32]⟩:ByteArray)) (zAu p w) (l2)) ?_ ?_
 ·simp only[ZE,seval,prO,KE,pwC,GZ,pwL,pwO,txO,zAa]
 rintro V ol new ⟨rfl,rfl,rfl⟩;simp only[ZE,seval,prO,KE,pwC,GZ,pwL,pwO,txO,zAa];refine EFn.gV [(900,900),(905,905),(7777777,7777777)] (c2) ?_ ?_
 ·simp only[ZE,seval,KE,pwC,GZ,pwL,pwO,txO,zAa]
 rintro V ol new ⟨rfl,rfl,rfl⟩;simp only[ZE,seval,prO,KE,pwC,GZ,pwL,pwO,txO,zAa];refine⟨[2,1999],[],?_⟩;simp only[ZE,seval,zAp.eq_1,zAp.eq_2,zAq.eq_1,zAq.eq_2,GZ,zAj.eq_def,ghK.eq_def,zAi.eq_def,hdH.eq_1,hdH.eq_2,kpH.eq_1,kpH.eq_2,hdl.eq_def,zpC.eq_def,zht,AV.core,GZ,pwL,pwO,txO,zAa,prO]
 first | exact⟨rfl,(zAd _).symm⟩ | exact(zAd _).symm | exact rfl | skip
theorem pc_freeW2(Z:GP)(w:PW)(args:List AV)(ha:AV.noRefs [1999] args):
  (zyk 1999 (pwC Z w)/\AV.noRefs [1999] args)/\zCV (om (pwC Z w)) [.bp 95 0,.ar 900 1,.ar 905 w.1.size]/\AV.noRefs [1999] [.bp 95 0,.ar 900 1,.ar 905 w.1.size]:=by
 simp[pwC,pwL,pwO,txO,GZ,zyk,AO.noRef,AV.noRefs,AV.noRef,zCV,om,ha,zAd]
theorem listB_w(Z:GP)(hZ:Z.Ok)(l:List Bind)(hl: ∀x∈l,bindR x)(hn:l.length<=1000000)(w:PW)(h:(zCv zDE b0 l w).1.size <=LIM):
  FnL prog 139 [.ep 900 1 0 0,.d (zel l),.clo (.func 140) [] [.bp 95 0]] (pwC Z w) (fun V ol new=>V= .tup []/\ol=pwC Z (zCv zDE b0 l w)/\new=[]):=by
 refine FnL.srt (FnL.of_eH 1999 [.bp 95 0,.ar 900 1,.ar 905 w.1.size] (own:=[]) (fun _=>[]) [] zat func139 rfl call139 ntmps139 (zle rfl) results139 (pc_freeW2 Z w _ (by simp[AV.noRefs,AV.noRef])) (fun gs=> ?_));have hL:zCv zDE b0 l w=wS (⟨#[41]⟩:ByteArray) (wLs zDE b0 l l.length (wS (⟨#[40]⟩:ByteArray) w)):=rfl;rw[hL]at h ⊢;have l1:=wal (zAw _ _) h;have hle: ∀i,i<=l.length->(wLs zDE b0 l i (wS (⟨#[40]⟩:ByteArray) w)).1.size <=LIM:=fun i hi=>wal (zET zEi b0 l _ i _ hi) l1;simp only[ZE,seval,KE,pwC,GZ,pwL,pwO,txO,zAa];refine EFn.gV [(0,900),(5,905)] (zAv ((⟨#[40]⟩:ByteArray)) (w) (hle 0 (Nat.zero_le _))) ?_ ?_
 ·simp only[ZE,seval,prO,KE,pwC,GZ,pwL,pwO,txO,zAa]
 rintro V ol new ⟨rfl,rfl,rfl⟩;simp only[ZE,seval,prO,KE,waa,pwC,GZ,pwL,pwO,txO,zAa];refine za1 (fun _=>[]) zat l.length (fun _=>True) (fun i=>([(0,.ep 900 1 0 0),(2,.clo (.func 140) [] [.bp 95 0]),(12,.d (zel l)),(13,.d (eI l.length)),(14,.d (eI i))],(1999,.gh [.bp 95 0,.ar 900 1,.ar 905 w.1.size] gs)::pwC Z (wLs zDE b0 l i (wS (⟨#[40]⟩:ByteArray) w)))) trivial ?_ ?_ (fun i hi _=> ?_)
 ·simp only[ZE,seval,KE]
 ·simp only[ZE,seval,KE,wLs.eq_1,pwC,GZ,pwL,pwO,txO,zAa]
 by_cases hlt:i<l.length
 ·have e1:=zai hlt;have hg:l.getD i b0=l[i]:=by rw[List.getD,wah hlt]; rfl
  have hx:=hl _ (wae hlt);have e2:(l.map zjO).getD i []=[eSb (l.getD i b0).port,eSb (l.getD i b0).chan]:=by rw[zaa hlt,hg]; rfl
  rw[<-hg]at hx;have hw:=zaq (show i<9223372036854775807 by omega);have hS:wLs zDE b0 l (i+1) (wS (⟨#[40]⟩:ByteArray) w)=zDE (l.getD i b0) (if 0<i then wS (⟨#[44,32]⟩:ByteArray) (wLs zDE b0 l i (wS (⟨#[40]⟩:ByteArray) w))else wLs zDE b0 l i (wS (⟨#[40]⟩:ByteArray) w)):=rfl;have h2:=hle (i+1) hlt;rw[hS]at h2;obtain⟨x,hxx⟩:=zX (l.getD i b0);obtain⟨v,hv⟩:=zX (wLs zDE b0 l i (wS (⟨#[40]⟩:ByteArray) w));rw[hxx]at hx e2 hS h2;rw[hv]at hS h2 ⊢;simp only[ZE,seval,KE]at e2;by_cases h0:0<i
  ·rw[if_pos h0]at hS h2;have g0:decide ((i:Int)>0)=true:=by simp; omega
   have c1:=bind_w Z hZ x hx _ h2;simp only[ZE,seval,zaw hlt,e1,e2,waj,KE,g0,pwC,GZ,pwL,pwO,txO,zAa];refine EFn.gV [(0,900),(5,905)] (zAv ((⟨#[44,32]⟩:ByteArray)) (v) (wal (zEi _ _) h2)) ?_ ?_
   ·simp only[ZE,seval,prO,KE,pwC,GZ,pwL,pwO,txO,zAa]
   rintro V ol new ⟨rfl,rfl,rfl⟩;simp only[ZE,seval,prO,KE,pwC,GZ,pwL,pwO,txO,zAa];refine EFn.gV [(95,95),(900,900),(905,905),(7777777,7777777)] (c1) ?_ ?_
   ·simp only[ZE,seval,KE,pwC,GZ,pwL,pwO,txO,zAa]
   rintro V ol new ⟨rfl,rfl,rfl⟩;simp only[ZE,seval,hw,hS,KE,pwC,GZ,pwL,pwO,txO,zAa];exact hlt
  ·rw[if_neg h0]at hS h2;have g0:decide ((i:Int)>0)=false:=by simp; omega
   have c1:=bind_w Z hZ x hx _ h2;simp only[ZE,seval,zaw hlt,e1,e2,waj,KE,g0,pwC,GZ,pwL,pwO,txO,zAa];refine EFn.gV [(95,95),(900,900),(905,905),(7777777,7777777)] (c1) ?_ ?_
   ·simp only[ZE,seval,KE,pwC,GZ,pwL,pwO,txO,zAa]
   rintro V ol new ⟨rfl,rfl,rfl⟩;simp only[ZE,seval,hw,hS,KE,pwC,GZ,pwL,pwO,txO,zAa];exact hlt
 ·have:i=l.length:=by omega
  subst this;simp only[ZE,seval,zaI (wam l.length),KE,pwC,GZ,pwL,pwO,txO,zAa];refine EFn.gV [(0,900),(5,905)] (zAv ((⟨#[41]⟩:ByteArray)) (wLs zDE b0 l l.length (wS (⟨#[40]⟩:ByteArray) w)) (h)) ?_ ?_
  ·simp only[ZE,seval,prO,KE,pwC,GZ,pwL,pwO,txO,zAa]
  rintro V ol new ⟨rfl,rfl,rfl⟩;simp only[ZE,seval,prO,KE,pwC,GZ,pwL,pwO,txO,zAa];refine⟨[1999],[],?_⟩;simp only[ZE,seval,zAp.eq_1,zAp.eq_2,zAq.eq_1,zAq.eq_2,GZ,zAj.eq_def,ghK.eq_def,zAi.eq_def,hdH.eq_1,hdH.eq_2,kpH.eq_1,kpH.eq_2,hdl.eq_def,zpC.eq_def,zht,AV.core,GZ,pwL,pwO,txO,zAa,prO]
  first | exact⟨rfl,(zAd _).symm⟩ | exact(zAd _).symm | exact rfl | skip
structure itemR (x:Item):Prop where
 k: -9223372036854775808<=x.kind/\x.kind<=9223372036854775807
 nm:x.name.size<=1000000
 w:zHN x.width
 d:zHN x.depth
 i:zHN x.init
 a:zDp 8 x.a
 b:zDp 8 x.b
 c:zDp 8 x.c
 r:ruleR x.rule
 o:x.of.size<=1000000
 l:(∀y∈x.args,zHN y)/\x.args.length<=1000000
 p:(∀y∈x.ports,bindR y)/\x.ports.length<=1000000
theorem zGf(Z:GP)(hZ:Z.Ok)(s:Bts)(e:Expr)(he:zDp 8 e)(w:PW)(h:(zBH s e w).1.size <=LIM):
  FnL prog 136 [.d (.lit (.string s)),.d (.agg (zbx e)),.bp 95 0] (pwC Z w) (fun V ol new=>V= .tup []/\ol=pwC Z (zBH s e w)/\new=[]):=by
 refine FnL.srt (FnL.of_eH 1999 [.ar 900 1,.ar 905 w.1.size] (own:=[]) (fun _=>[]) [2] zat func136 rfl call136 ntmps136 (zle rfl) results136 (zIy Z w _ (by simp[AV.noRefs,AV.noRef])) (fun gs=> ?_));have hW:zBH s e w=zA6 8 e (wS s w):=rfl;rw[hW]at h ⊢;have l1:=wal (zBp 8 _ _) h;have c1:=expr_w Z hZ 8 e (wS s w) (by omega) he h;rw[zb6]at c1 ⊢;simp only[ZE,seval,KE,pwC,GZ,pwL,pwO,txO,zAa];refine EFn.gV [(0,900),(5,905)] (zAv (s) (w) (l1)) ?_ ?_
 ·simp only[ZE,seval,prO,KE,pwC,GZ,pwL,pwO,txO,zAa]
 rintro V ol new ⟨rfl,rfl,rfl⟩;simp only[ZE,seval,prO,KE,pwC,GZ,pwL,pwO,txO,zAa];refine EFn.gV [(900,900),(905,905),(7777777,7777777)] (c1) ?_ ?_
 ·simp only[ZE,seval,KE,pwC,GZ,pwL,pwO,txO,zAa]
 rintro V ol new ⟨rfl,rfl,rfl⟩;simp only[ZE,seval,prO,KE,pwC,GZ,pwL,pwO,txO,zAa];refine⟨[4,1999],[],?_⟩;simp only[ZE,seval,zAp.eq_1,zAp.eq_2,zAq.eq_1,zAq.eq_2,GZ,zAj.eq_def,ghK.eq_def,zAi.eq_def,hdH.eq_1,hdH.eq_2,kpH.eq_1,kpH.eq_2,hdl.eq_def,zpC.eq_def,zht,AV.core,GZ,pwL,pwO,txO,zAa,prO]
 first | exact⟨rfl,(zAd _).symm⟩ | exact(zAd _).symm | exact rfl | skip
theorem item_w(Z:GP)(hZ:Z.Ok)(x:Item)(hx:itemR x)(w:PW)(h:(zCB x w).1.size <=LIM):WCon Z 90 [.d (.agg (zaK x))] w (zCB x w) (.tup []):=by
 refine FnL.srt (FnL.of_eH 1999 [.ar 900 1,.ar 905 w.1.size] (own:=[]) (fun i=>if i=2005 then [.chn,.ord ⟨[(0,none),(1,none),(2,none),(3,none),(4,none),(5,none),(6,none),(7,none),(8,none),(9,none),(10,none),(11,none),(12,none),(13,none),(14,none),(15,none),(16,none),(17,none),(18,none),(19,none),(20,none),(21,none),(22,none),(23,none),(24,none),(25,none),(26,none),(27,none),(28,none),(29,none),(30,none),(31,none),(32,none),(33,none),(34,none),(35,none),(36,none),(37,none),(38,none),(39,none),(40,none),(41,none),(42,none),(43,none),(44,none),(45,none),(46,none),(47,none),(48,none),(49,none),(50,none),(51,none),(52,none),(53,none),(54,none),(55,none),(56,none),(57,none),(58,none),(59,none),(60,none),(61,none),(62,none),(63,none),(64,none),(65,none),(66,none),(67,none),(68,none),(69,none),(70,none),(71,none),(72,none),(73,none),(74,none),(75,none),(76,none),(77,none),(78,none),(79,some [])]⟩]else if i=2006 then [.ord ⟨[(0,none),(1,none),(2,none),(3,none),(4,none),(5,none),(6,none),(7,none),(8,none),(9,some [])]⟩]else chL i) [] zat func90 rfl call90 ntmps90 (zle rfl) results90 (zDA Z w _ (by simp[AV.noRefs,AV.noRef])) (fun gs=> ?_));obtain⟨kd,nme,wd,dp,it,a,b,c,r,o,al,pl⟩:=x;obtain⟨hk,hnm,hwd,hdp,hit,ha,hb,hc,hr,ho,hl,hp⟩:=hx;simp only at hk hnm hwd hdp hit ha hb hc hr ho hl hp;simp only[zaK,zb6,List.append_eq,wag,waf];by_cases hK:kd<1\/kd>9
 ·have hW:zCB ⟨kd,nme,wd,dp,it,a,b,c,r,o,al,pl⟩ w=(w.1,false):=by unfold zCB; rw[if_pos hK]
  rw[hW];by_cases hK1:kd<1
  ·have e1:decide (kd<1)=true:=by simp[hK1]
   simp only[ZE,seval,KE,↓zA7,↓zA8,↓zA9,zBN.eq_1,zBI.eq_1,List.append_eq,wag,waf,e1,GZ,pwL,pwO,txO,zAa];refine⟨[2,3,1999],[],?_⟩;simp only[ZE,seval,zAp.eq_1,zAp.eq_2,zAq.eq_1,zAq.eq_2,GZ,zAj.eq_def,ghK.eq_def,zAi.eq_def,hdH.eq_1,hdH.eq_2,kpH.eq_1,kpH.eq_2,hdl.eq_def,zpC.eq_def,zht,AV.core,GZ,pwL,pwO,txO,zAa,prO];exact(zAd _).symm
  ·have e1:decide (kd<1)=false:=by simp[hK1]
   have e2:decide (kd>9)=true:=by simp; omega
   simp only[ZE,seval,KE,↓zA7,↓zA8,↓zA9,zBN.eq_1,zBI.eq_1,List.append_eq,wag,waf,e1,e2,GZ,pwL,pwO,txO,zAa];refine⟨[2,3,1999],[],?_⟩;simp only[ZE,seval,zAp.eq_1,zAp.eq_2,zAq.eq_1,zAq.eq_2,GZ,zAj.eq_def,ghK.eq_def,zAi.eq_def,hdH.eq_1,hdH.eq_2,kpH.eq_1,kpH.eq_2,hdl.eq_def,zpC.eq_def,zht,AV.core,GZ,pwL,pwO,txO,zAa,prO];exact(zAd _).symm
 have e1:decide (kd<1)=false:=by simp; omega
 have e2:decide (kd>9)=false:=by simp; omega
 obtain⟨c3,k3⟩: ∃z,(kd==3)=z:=⟨_,rfl⟩;obtain⟨c4,k4⟩: ∃z,(kd==4)=z:=⟨_,rfl⟩;obtain⟨c6,k6⟩: ∃z,(kd==6)=z:=⟨_,rfl⟩;obtain⟨c8,k8⟩: ∃z,(kd==8)=z:=⟨_,rfl⟩;obtain⟨c9,k9⟩: ∃z,(kd==9)=z:=⟨_,rfl⟩;obtain⟨cl,kl⟩: ∃z,decide (kd<=6)=z:=⟨_,rfl⟩;obtain⟨cg,kg⟩: ∃z,decide (kd>=4)=z:=⟨_,rfl⟩;obtain⟨co,ko⟩: ∃z,decide (o=(⟨#[]⟩:ByteArray))=z:=⟨_,rfl⟩;obtain⟨ca,kal⟩: ∃z,((al.length:Int)==0)=z:=⟨_,rfl⟩;obtain⟨cp,kpl⟩: ∃z,((pl.length:Int)==0)=z:=⟨_,rfl⟩;have n1:=zHa wd;have n2:=zHa dp;have n3:=zHa it;have n4:=zH0 a;have n5:=zH0 b;have n6:=zH0 c;obtain⟨a1,m1⟩: ∃z,zCW wd=z:=⟨_,rfl⟩;obtain⟨a2,m2⟩: ∃z,zCW dp=z:=⟨_,rfl⟩;obtain⟨a3,m3⟩: ∃z,zCW it=z:=⟨_,rfl⟩;obtain⟨a4,m4⟩: ∃z,zCE a=z:=⟨_,rfl⟩;obtain⟨a5,m5⟩: ∃z,zCE b=z:=⟨_,rfl⟩;obtain⟨a6,m6⟩: ∃z,zCE c=z:=⟨_,rfl⟩;rw[m1]at n1;rw[m2]at n2;rw[m3]at n3;rw[m4]at n4;rw[m5]at n5;rw[m6]at n6;rw[zb6]at n4 n5 n6;simp only[ZE,seval,KE]at n1;simp only[ZE,seval,KE]at n2;simp only[ZE,seval,KE]at n3;simp only[ZE,seval,KE]at n4;simp only[ZE,seval,KE]at n5;simp only[ZE,seval,KE]at n6;simp only[ZE,seval,KE,↓zA7,↓zA8,↓zA9,zBN.eq_1,zBI.eq_1,e1,e2,k3,k4,k6,k8,k9,kl,kg,ko,kal,kpl,List.append_eq,wag,waf,waa,GZ,pwL,pwO,txO,zAa];refine⟨by kernel_rfl,?_⟩;refine za3.i (fun _=>n1) ?_;simp only[ZE,seval,KE,↓zA7,↓zA8,↓zA9,zBN.eq_1,zBI.eq_1,e1,e2,k3,k4,k6,k8,k9,kl,kg,ko,kal,kpl,List.append_eq,wag,waf,waa,GZ,pwL,pwO,txO,zAa];refine za3.i (fun _=>n2) ?_;simp only[ZE,seval,KE,↓zA7,↓zA8,↓zA9,zBN.eq_1,zBI.eq_1,e1,e2,k3,k4,k6,k8,k9,kl,kg,ko,kal,kpl,List.append_eq,wag,waf,waa,GZ,pwL,pwO,txO,zAa];refine za3.i (fun _=>n3) ?_;simp only[ZE,seval,KE,↓zA7,↓zA8,↓zA9,zBN.eq_1,zBI.eq_1,e1,e2,k3,k4,k6,k8,k9,kl,kg,ko,kal,kpl,List.append_eq,wag,waf,waa,GZ,pwL,pwO,txO,zAa];refine za3.i (fun _=>n4) ?_;simp only[ZE,seval,KE,↓zA7,↓zA8,↓zA9,zBN.eq_1,zBI.eq_1,e1,e2,k3,k4,k6,k8,k9,kl,kg,ko,kal,kpl,List.append_eq,wag,waf,waa,GZ,pwL,pwO,txO,zAa];refine za3.i (fun _=>n5) ?_;simp only[ZE,seval,KE,↓zA7,↓zA8,↓zA9,zBN.eq_1,zBI.eq_1,e1,e2,k3,k4,k6,k8,k9,kl,kg,ko,kal,kpl,List.append_eq,wag,waf,waa,GZ,pwL,pwO,txO,zAa];refine za3.i (fun _=>n6) ?_;simp only[ZE,seval,KE,↓zA7,↓zA8,↓zA9,zBN.eq_1,zBI.eq_1,e1,e2,k3,k4,k6,k8,k9,kl,kg,ko,kal,kpl,List.append_eq,wag,waf,waa,GZ,pwL,pwO,txO,zAa];have d3:decide (kd=3)=c3:=by rw[<-k3,wan]; simp
 have d4:decide (kd=4)=c4:=by rw[<-k4,wan]; simp
 have d6:decide (kd=6)=c6:=by rw[<-k6,wan]; simp
 have d8:decide (kd=8)=c8:=by rw[<-k8,wan]; simp
 have d9:decide (kd=9)=c9:=by rw[<-k9,wan]; simp
 have dn:decide (kd≠9)= !c9 :=by rw[<-d9]; simp
 have dl:decide (al.length=0)=ca:=by rw[<-kal,wan]; simp
 have dp2:decide (pl.length=0)=cp:=by rw[<-kpl,wan]; simp
 have dr:decide (r=r0)=(r.kind==0&&(decide (r.from'=wai)&&r.n==0)):=by
  obtain⟨q1,q2,q3⟩:=r;rw[wan];simp only[decide_eq_true_eq,Bool.and_eq_true,beq_iff_eq,r0,Rule.mk.injEq];exact Iff.rfl
 have hz:zDm ⟨kd,nme,wd,dp,it,a,b,c,r,o,al,pl⟩=([a1||cl,a2||c3||c6,a3||c4,a4||cg&& !c9,a5||c6||c8,a6||c6,(r.kind==0&&(decide (r.from'=wai)&&r.n==0))||c4||c6,co&&ca&&cp||c9].all id):=by
  unfold zDm;simp only[d3,d4,d6,d8,d9,dn,dl,dp2,dr,kl,kg,m1,m2,m3,m4,m5,m6,show decide (o=e0)=co from ko];simp[Bool.and_assoc]
 have cz:=zero_w Z w [a1||cl,a2||c3||c6,a3||c4,a4||cg&& !c9,a5||c6||c8,a6||c6,(r.kind==0&&(decide (r.from'=wai)&&r.n==0))||c4||c6,co&&ca&&cp||c9] (by simp);rw[<-hz]at cz;obtain⟨v,hv⟩:=zX (wOk (zDm ⟨kd,nme,wd,dp,it,a,b,c,r,o,al,pl⟩) w);rw[hv]at cz;refine EFn.gV [(900,900),(905,905),(7777777,7777777)] cz ?_ ?_
 ·simp only[ZE,seval,KE,wac,wab,GZ,pwL,pwO,txO,zAa]
 rintro V ol new ⟨rfl,rfl,rfl⟩;clear cz hz;rcases(show kd=1\/kd=2\/kd=3\/kd=4\/kd=5\/kd=6\/kd=7\/kd=8\/kd=9 by omega)with hkd | hkd | hkd | hkd | hkd | hkd | hkd | hkd | hkd
 ·subst hkd;obtain rfl:c3=false:=by rw[<-k3]; rfl
  obtain rfl:c4=false:=by rw[<-k4]; rfl
  obtain rfl:c6=false:=by rw[<-k6]; rfl
  obtain rfl:c8=false:=by rw[<-k8]; rfl
  obtain rfl:c9=false:=by rw[<-k9]; rfl
  have hW:zCB ⟨1,nme,wd,dp,it,a,b,c,r,o,al,pl⟩ w=(zBl wd (wS (⟨#[58,32]⟩:ByteArray) (zAu nme (wS ((⟨#[105,110]⟩:ByteArray)++(⟨#[32]⟩:ByteArray)) v)))):=by rw[<-hv]; rfl
  rw[hW]at h ⊢;have l3:(wS (⟨#[58,32]⟩:ByteArray) (zAu nme (wS ((⟨#[105,110]⟩:ByteArray)++(⟨#[32]⟩:ByteArray)) v))).1.size <=LIM:=wal (zAU _ _) h;have l2:(zAu nme (wS ((⟨#[105,110]⟩:ByteArray)++(⟨#[32]⟩:ByteArray)) v)).1.size <=LIM:=wal (zAw _ _) l3;have l1:(wS ((⟨#[105,110]⟩:ByteArray)++(⟨#[32]⟩:ByteArray)) v).1.size <=LIM:=wal (zAy _ _) l2;have hwk:IntKind.i64.wrap 0=0:=rfl;simp only[ZE,seval,KE,pwC,hwk,List.getD_cons_zero,List.getD_cons_succ,GZ,pwL,pwO,txO,zAa];refine⟨by kernel_rfl,?_⟩
  try (refine⟨by decide,?_⟩)
  refine EFn.gV [(0,900),(5,905)] (zAv (((⟨#[105,110]⟩:ByteArray)++(⟨#[32]⟩:ByteArray))) (v) (l1)) ?_ ?_
  ·simp only[ZE,seval,prO,KE,pwC,GZ,pwL,pwO,txO,zAa]
  rintro V ol new ⟨rfl,rfl,rfl⟩;simp only[ZE,seval,prO,KE,pwC,GZ,pwL,pwO,txO,zAa];refine EFn.gV [(900,900),(905,905),(7777777,7777777)] (zBP Z hZ _ hnm _ l2) ?_ ?_
  ·simp only[ZE,seval,KE,pwC,GZ,pwL,pwO,txO,zAa]
  rintro V ol new ⟨rfl,rfl,rfl⟩;simp only[ZE,seval,prO,KE,pwC,GZ,pwL,pwO,txO,zAa];refine EFn.gV [(0,900),(5,905)] (zAv ((⟨#[58,32]⟩:ByteArray)) ((zAu nme (wS ((⟨#[105,110]⟩:ByteArray)++(⟨#[32]⟩:ByteArray)) v))) (l3)) ?_ ?_
  ·simp only[ZE,seval,prO,KE,pwC,GZ,pwL,pwO,txO,zAa]
  rintro V ol new ⟨rfl,rfl,rfl⟩;simp only[ZE,seval,prO,KE,pwC,GZ,pwL,pwO,txO,zAa];refine EFn.gV [(900,900),(905,905),(7777777,7777777)] (zEl Z hZ _ hwd _ h) ?_ ?_
  ·simp only[ZE,seval,KE,pwC,GZ,pwL,pwO,txO,zAa]
  rintro V ol new ⟨rfl,rfl,rfl⟩;simp only[ZE,seval,prO,KE,pwC,GZ,pwL,pwO,txO,zAa];refine⟨[2,3,1999],[],?_⟩;simp only[ZE,seval,zAp.eq_1,zAp.eq_2,zAq.eq_1,zAq.eq_2,GZ,zAj.eq_def,ghK.eq_def,zAi.eq_def,hdH.eq_1,hdH.eq_2,kpH.eq_1,kpH.eq_2,hdl.eq_def,zpC.eq_def,zht,AV.core,GZ,pwL,pwO,txO,zAa,prO]
  first | exact⟨rfl,(zAd _).symm⟩ | exact(zAd _).symm | exact rfl | skip
 ·subst hkd;obtain rfl:c3=false:=by rw[<-k3]; rfl
  obtain rfl:c4=false:=by rw[<-k4]; rfl
  obtain rfl:c6=false:=by rw[<-k6]; rfl
  obtain rfl:c8=false:=by rw[<-k8]; rfl
  obtain rfl:c9=false:=by rw[<-k9]; rfl
  have hW:zCB ⟨2,nme,wd,dp,it,a,b,c,r,o,al,pl⟩ w=(zBl wd (wS (⟨#[58,32]⟩:ByteArray) (zAu nme (wS ((⟨#[111,117,116]⟩:ByteArray)++(⟨#[32]⟩:ByteArray)) v)))):=by rw[<-hv]; rfl
  rw[hW]at h ⊢;have l3:(wS (⟨#[58,32]⟩:ByteArray) (zAu nme (wS ((⟨#[111,117,116]⟩:ByteArray)++(⟨#[32]⟩:ByteArray)) v))).1.size <=LIM:=wal (zAU _ _) h;have l2:(zAu nme (wS ((⟨#[111,117,116]⟩:ByteArray)++(⟨#[32]⟩:ByteArray)) v)).1.size <=LIM:=wal (zAw _ _) l3;have l1:(wS ((⟨#[111,117,116]⟩:ByteArray)++(⟨#[32]⟩:ByteArray)) v).1.size <=LIM:=wal (zAy _ _) l2;have hwk:IntKind.i64.wrap 1=1:=rfl;simp only[ZE,seval,KE,pwC,hwk,List.getD_cons_zero,List.getD_cons_succ,GZ,pwL,pwO,txO,zAa];refine⟨by kernel_rfl,?_⟩
  try (refine⟨by decide,?_⟩)
  refine EFn.gV [(0,900),(5,905)] (zAv (((⟨#[111,117,116]⟩:ByteArray)++(⟨#[32]⟩:ByteArray))) (v) (l1)) ?_ ?_
  ·simp only[ZE,seval,prO,KE,pwC,GZ,pwL,pwO,txO,zAa]
  rintro V ol new ⟨rfl,rfl,rfl⟩;simp only[ZE,seval,prO,KE,pwC,GZ,pwL,pwO,txO,zAa];refine EFn.gV [(900,900),(905,905),(7777777,7777777)] (zBP Z hZ _ hnm _ l2) ?_ ?_
  ·simp only[ZE,seval,KE,pwC,GZ,pwL,pwO,txO,zAa]
  rintro V ol new ⟨rfl,rfl,rfl⟩;simp only[ZE,seval,prO,KE,pwC,GZ,pwL,pwO,txO,zAa];refine EFn.gV [(0,900),(5,905)] (zAv ((⟨#[58,32]⟩:ByteArray)) ((zAu nme (wS ((⟨#[111,117,116]⟩:ByteArray)++(⟨#[32]⟩:ByteArray)) v))) (l3)) ?_ ?_
  ·simp only[ZE,seval,prO,KE,pwC,GZ,pwL,pwO,txO,zAa]
  rintro V ol new ⟨rfl,rfl,rfl⟩;simp only[ZE,seval,prO,KE,pwC,GZ,pwL,pwO,txO,zAa];refine EFn.gV [(900,900),(905,905),(7777777,7777777)] (zEl Z hZ _ hwd _ h) ?_ ?_
  ·simp only[ZE,seval,KE,pwC,GZ,pwL,pwO,txO,zAa]
  rintro V ol new ⟨rfl,rfl,rfl⟩;simp only[ZE,seval,prO,KE,pwC,GZ,pwL,pwO,txO,zAa];refine⟨[2,3,1999],[],?_⟩;simp only[ZE,seval,zAp.eq_1,zAp.eq_2,zAq.eq_1,zAq.eq_2,GZ,zAj.eq_def,ghK.eq_def,zAi.eq_def,hdH.eq_1,hdH.eq_2,kpH.eq_1,kpH.eq_2,hdl.eq_def,zpC.eq_def,zht,AV.core,GZ,pwL,pwO,txO,zAa,prO]
  first | exact⟨rfl,(zAd _).symm⟩ | exact(zAd _).symm | exact rfl | skip
 ·subst hkd;obtain rfl:c3=true:=by rw[<-k3]; rfl
  obtain rfl:c4=false:=by rw[<-k4]; rfl
  obtain rfl:c6=false:=by rw[<-k6]; rfl
  obtain rfl:c8=false:=by rw[<-k8]; rfl
  obtain rfl:c9=false:=by rw[<-k9]; rfl
  have hW:zCB ⟨3,nme,wd,dp,it,a,b,c,r,o,al,pl⟩ w=(wS (⟨#[93]⟩:ByteArray) (zBl dp (wS (⟨#[32,91]⟩:ByteArray) (zBl wd (wS (⟨#[58,32]⟩:ByteArray) (zAu nme (wS ((⟨#[99,104,97,110]⟩:ByteArray)++(⟨#[32]⟩:ByteArray)) v))))))):=by rw[<-hv]; rfl
  rw[hW]at h ⊢;have l6:(zBl dp (wS (⟨#[32,91]⟩:ByteArray) (zBl wd (wS (⟨#[58,32]⟩:ByteArray) (zAu nme (wS ((⟨#[99,104,97,110]⟩:ByteArray)++(⟨#[32]⟩:ByteArray)) v)))))).1.size <=LIM:=wal (zAw _ _) h;have l5:(wS (⟨#[32,91]⟩:ByteArray) (zBl wd (wS (⟨#[58,32]⟩:ByteArray) (zAu nme (wS ((⟨#[99,104,97,110]⟩:ByteArray)++(⟨#[32]⟩:ByteArray)) v))))).1.size <=LIM:=wal (zAU _ _) l6;have l4:(zBl wd (wS (⟨#[58,32]⟩:ByteArray) (zAu nme (wS ((⟨#[99,104,97,110]⟩:ByteArray)++(⟨#[32]⟩:ByteArray)) v)))).1.size <=LIM:=wal (zAw _ _) l5;have l3:(wS (⟨#[58,32]⟩:ByteArray) (zAu nme (wS ((⟨#[99,104,97,110]⟩:ByteArray)++(⟨#[32]⟩:ByteArray)) v))).1.size <=LIM:=wal (zAU _ _) l4;have l2:(zAu nme (wS ((⟨#[99,104,97,110]⟩:ByteArray)++(⟨#[32]⟩:ByteArray)) v)).1.size <=LIM:=wal (zAw _ _) l3;have l1:(wS ((⟨#[99,104,97,110]⟩:ByteArray)++(⟨#[32]⟩:ByteArray)) v).1.size <=LIM:=wal (zAy _ _) l2;have hwk:IntKind.i64.wrap 2=2:=rfl;simp only[ZE,seval,KE,pwC,hwk,List.getD_cons_zero,List.getD_cons_succ,GZ,pwL,pwO,txO,zAa];refine⟨by kernel_rfl,?_⟩
  try (refine⟨by decide,?_⟩)
  refine EFn.gV [(0,900),(5,905)] (zAv (((⟨#[99,104,97,110]⟩:ByteArray)++(⟨#[32]⟩:ByteArray))) (v) (l1)) ?_ ?_
  ·simp only[ZE,seval,prO,KE,pwC,GZ,pwL,pwO,txO,zAa]
  rintro V ol new ⟨rfl,rfl,rfl⟩;simp only[ZE,seval,prO,KE,pwC,GZ,pwL,pwO,txO,zAa];refine EFn.gV [(900,900),(905,905),(7777777,7777777)] (zBP Z hZ _ hnm _ l2) ?_ ?_
  ·simp only[ZE,seval,KE,pwC,GZ,pwL,pwO,txO,zAa]
  rintro V ol new ⟨rfl,rfl,rfl⟩;simp only[ZE,seval,prO,KE,pwC,GZ,pwL,pwO,txO,zAa];refine EFn.gV [(0,900),(5,905)] (zAv ((⟨#[58,32]⟩:ByteArray)) ((zAu nme (wS ((⟨#[99,104,97,110]⟩:ByteArray)++(⟨#[32]⟩:ByteArray)) v))) (l3)) ?_ ?_
  ·simp only[ZE,seval,prO,KE,pwC,GZ,pwL,pwO,txO,zAa]
  rintro V ol new ⟨rfl,rfl,rfl⟩;simp only[ZE,seval,prO,KE,pwC,GZ,pwL,pwO,txO,zAa];refine EFn.gV [(900,900),(905,905),(7777777,7777777)] (zEl Z hZ _ hwd _ l4) ?_ ?_
  ·simp only[ZE,seval,KE,pwC,GZ,pwL,pwO,txO,zAa]
  rintro V ol new ⟨rfl,rfl,rfl⟩;simp only[ZE,seval,prO,KE,pwC,GZ,pwL,pwO,txO,zAa];refine EFn.gV [(0,900),(5,905)] (zAv ((⟨#[32,91]⟩:ByteArray)) ((zBl wd (wS (⟨#[58,32]⟩:ByteArray) (zAu nme (wS ((⟨#[99,104,97,110]⟩:ByteArray)++(⟨#[32]⟩:ByteArray)) v))))) (l5)) ?_ ?_
  ·simp only[ZE,seval,prO,KE,pwC,GZ,pwL,pwO,txO,zAa]
  rintro V ol new ⟨rfl,rfl,rfl⟩;simp only[ZE,seval,prO,KE,pwC,GZ,pwL,pwO,txO,zAa];refine EFn.gV [(900,900),(905,905),(7777777,7777777)] (zEl Z hZ _ hdp _ l6) ?_ ?_
  ·simp only[ZE,seval,KE,pwC,GZ,pwL,pwO,txO,zAa]
  rintro V ol new ⟨rfl,rfl,rfl⟩;simp only[ZE,seval,prO,KE,pwC,GZ,pwL,pwO,txO,zAa];refine EFn.gV [(0,900),(5,905)] (zAv ((⟨#[93]⟩:ByteArray)) ((zBl dp (wS (⟨#[32,91]⟩:ByteArray) (zBl wd (wS (⟨#[58,32]⟩:ByteArray) (zAu nme (wS ((⟨#[99,104,97,110]⟩:ByteArray)++(⟨#[32]⟩:ByteArray)) v))))))) (h)) ?_ ?_
  ·simp only[ZE,seval,prO,KE,pwC,GZ,pwL,pwO,txO,zAa]
  rintro V ol new ⟨rfl,rfl,rfl⟩;simp only[ZE,seval,prO,KE,pwC,GZ,pwL,pwO,txO,zAa];refine⟨[2,3,1999],[],?_⟩;simp only[ZE,seval,zAp.eq_1,zAp.eq_2,zAq.eq_1,zAq.eq_2,GZ,zAj.eq_def,ghK.eq_def,zAi.eq_def,hdH.eq_1,hdH.eq_2,kpH.eq_1,kpH.eq_2,hdl.eq_def,zpC.eq_def,zht,AV.core,GZ,pwL,pwO,txO,zAa,prO]
  first | exact⟨rfl,(zAd _).symm⟩ | exact(zAd _).symm | exact rfl | skip
 ·subst hkd;obtain rfl:c3=false:=by rw[<-k3]; rfl
  obtain rfl:c4=true:=by rw[<-k4]; rfl
  obtain rfl:c6=false:=by rw[<-k6]; rfl
  obtain rfl:c8=false:=by rw[<-k8]; rfl
  obtain rfl:c9=false:=by rw[<-k9]; rfl
  have hW:zCB ⟨4,nme,wd,dp,it,a,b,c,r,o,al,pl⟩ w=(zEn r (wS (⟨#[32]⟩:ByteArray) (zBH (⟨#[32,45,62,32]⟩:ByteArray) a (zBl it (wS (⟨#[32,61,32]⟩:ByteArray) (zBl wd (wS (⟨#[58,32]⟩:ByteArray) (zAu nme (wS ((⟨#[114,101,103]⟩:ByteArray)++(⟨#[32]⟩:ByteArray)) v))))))))):=by rw[<-hv]; rfl
  rw[hW]at h ⊢;have l8:(wS (⟨#[32]⟩:ByteArray) (zBH (⟨#[32,45,62,32]⟩:ByteArray) a (zBl it (wS (⟨#[32,61,32]⟩:ByteArray) (zBl wd (wS (⟨#[58,32]⟩:ByteArray) (zAu nme (wS ((⟨#[114,101,103]⟩:ByteArray)++(⟨#[32]⟩:ByteArray)) v)))))))).1.size <=LIM:=wal (zF3 _ _) h;have l7:(zBH (⟨#[32,45,62,32]⟩:ByteArray) a (zBl it (wS (⟨#[32,61,32]⟩:ByteArray) (zBl wd (wS (⟨#[58,32]⟩:ByteArray) (zAu nme (wS ((⟨#[114,101,103]⟩:ByteArray)++(⟨#[32]⟩:ByteArray)) v))))))).1.size <=LIM:=wal (zAw _ _) l8;have l6:(zBl it (wS (⟨#[32,61,32]⟩:ByteArray) (zBl wd (wS (⟨#[58,32]⟩:ByteArray) (zAu nme (wS ((⟨#[114,101,103]⟩:ByteArray)++(⟨#[32]⟩:ByteArray)) v)))))).1.size <=LIM:=wal (zBV _ _ _) l7;have l5:(wS (⟨#[32,61,32]⟩:ByteArray) (zBl wd (wS (⟨#[58,32]⟩:ByteArray) (zAu nme (wS ((⟨#[114,101,103]⟩:ByteArray)++(⟨#[32]⟩:ByteArray)) v))))).1.size <=LIM:=wal (zAU _ _) l6;have l4:(zBl wd (wS (⟨#[58,32]⟩:ByteArray) (zAu nme (wS ((⟨#[114,101,103]⟩:ByteArray)++(⟨#[32]⟩:ByteArray)) v)))).1.size <=LIM:=wal (zAw _ _) l5;have l3:(wS (⟨#[58,32]⟩:ByteArray) (zAu nme (wS ((⟨#[114,101,103]⟩:ByteArray)++(⟨#[32]⟩:ByteArray)) v))).1.size <=LIM:=wal (zAU _ _) l4;have l2:(zAu nme (wS ((⟨#[114,101,103]⟩:ByteArray)++(⟨#[32]⟩:ByteArray)) v)).1.size <=LIM:=wal (zAw _ _) l3;have l1:(wS ((⟨#[114,101,103]⟩:ByteArray)++(⟨#[32]⟩:ByteArray)) v).1.size <=LIM:=wal (zAy _ _) l2;have hwk:IntKind.i64.wrap 3=3:=rfl;simp only[ZE,seval,KE,pwC,hwk,List.getD_cons_zero,List.getD_cons_succ,GZ,pwL,pwO,txO,zAa];refine⟨by kernel_rfl,?_⟩
  try (refine⟨by decide,?_⟩)
  refine EFn.gV [(0,900),(5,905)] (zAv (((⟨#[114,101,103]⟩:ByteArray)++(⟨#[32]⟩:ByteArray))) (v) (l1)) ?_ ?_
  ·simp only[ZE,seval,prO,KE,pwC,GZ,pwL,pwO,txO,zAa]
  rintro V ol new ⟨rfl,rfl,rfl⟩;simp only[ZE,seval,prO,KE,pwC,GZ,pwL,pwO,txO,zAa];refine EFn.gV [(900,900),(905,905),(7777777,7777777)] (zBP Z hZ _ hnm _ l2) ?_ ?_
  ·simp only[ZE,seval,KE,pwC,GZ,pwL,pwO,txO,zAa]
  rintro V ol new ⟨rfl,rfl,rfl⟩;simp only[ZE,seval,prO,KE,pwC,GZ,pwL,pwO,txO,zAa];refine EFn.gV [(0,900),(5,905)] (zAv ((⟨#[58,32]⟩:ByteArray)) ((zAu nme (wS ((⟨#[114,101,103]⟩:ByteArray)++(⟨#[32]⟩:ByteArray)) v))) (l3)) ?_ ?_
  ·simp only[ZE,seval,prO,KE,pwC,GZ,pwL,pwO,txO,zAa]
  rintro V ol new ⟨rfl,rfl,rfl⟩;simp only[ZE,seval,prO,KE,pwC,GZ,pwL,pwO,txO,zAa];refine EFn.gV [(900,900),(905,905),(7777777,7777777)] (zEl Z hZ _ hwd _ l4) ?_ ?_
  ·simp only[ZE,seval,KE,pwC,GZ,pwL,pwO,txO,zAa]
  rintro V ol new ⟨rfl,rfl,rfl⟩;simp only[ZE,seval,prO,KE,pwC,GZ,pwL,pwO,txO,zAa];refine EFn.gV [(0,900),(5,905)] (zAv ((⟨#[32,61,32]⟩:ByteArray)) ((zBl wd (wS (⟨#[58,32]⟩:ByteArray) (zAu nme (wS ((⟨#[114,101,103]⟩:ByteArray)++(⟨#[32]⟩:ByteArray)) v))))) (l5)) ?_ ?_
  ·simp only[ZE,seval,prO,KE,pwC,GZ,pwL,pwO,txO,zAa]
  rintro V ol new ⟨rfl,rfl,rfl⟩;simp only[ZE,seval,prO,KE,pwC,GZ,pwL,pwO,txO,zAa];refine EFn.gV [(900,900),(905,905),(7777777,7777777)] (zEl Z hZ _ hit _ l6) ?_ ?_
  ·simp only[ZE,seval,KE,pwC,GZ,pwL,pwO,txO,zAa]
  rintro V ol new ⟨rfl,rfl,rfl⟩;simp only[ZE,seval,prO,KE,pwC,GZ,pwL,pwO,txO,zAa];refine EFn.gV [(95,2),(900,900),(905,905),(7777777,7777777)] (zGf Z hZ _ _ ha _ l7) ?_ ?_
  ·simp only[ZE,seval,zb6,KE,pwC,GZ,pwL,pwO,txO,zAa]
  rintro V ol new ⟨rfl,rfl,rfl⟩;simp only[ZE,seval,prO,KE,pwC,GZ,pwL,pwO,txO,zAa];refine EFn.gV [(0,900),(5,905)] (zAv ((⟨#[32]⟩:ByteArray)) ((zBH (⟨#[32,45,62,32]⟩:ByteArray) a (zBl it (wS (⟨#[32,61,32]⟩:ByteArray) (zBl wd (wS (⟨#[58,32]⟩:ByteArray) (zAu nme (wS ((⟨#[114,101,103]⟩:ByteArray)++(⟨#[32]⟩:ByteArray)) v)))))))) (l8)) ?_ ?_
  ·simp only[ZE,seval,prO,KE,pwC,GZ,pwL,pwO,txO,zAa]
  rintro V ol new ⟨rfl,rfl,rfl⟩;simp only[ZE,seval,prO,KE,pwC,GZ,pwL,pwO,txO,zAa];refine EFn.gV [(900,900),(905,905),(7777777,7777777)] (rule_w Z hZ _ hr _ h) ?_ ?_
  ·simp only[ZE,seval,KE,pwC,GZ,pwL,pwO,txO,zAa]
  rintro V ol new ⟨rfl,rfl,rfl⟩;simp only[ZE,seval,prO,KE,pwC,GZ,pwL,pwO,txO,zAa];refine⟨[2,3,1999],[],?_⟩;simp only[ZE,seval,zAp.eq_1,zAp.eq_2,zAq.eq_1,zAq.eq_2,GZ,zAj.eq_def,ghK.eq_def,zAi.eq_def,hdH.eq_1,hdH.eq_2,kpH.eq_1,kpH.eq_2,hdl.eq_def,zpC.eq_def,zht,AV.core,GZ,pwL,pwO,txO,zAa,prO]
  first | exact⟨rfl,(zAd _).symm⟩ | exact(zAd _).symm | exact rfl | skip
 ·subst hkd;obtain rfl:c3=false:=by rw[<-k3]; rfl
  obtain rfl:c4=false:=by rw[<-k4]; rfl
  obtain rfl:c6=false:=by rw[<-k6]; rfl
  obtain rfl:c8=false:=by rw[<-k8]; rfl
  obtain rfl:c9=false:=by rw[<-k9]; rfl
  have hW:zCB ⟨5,nme,wd,dp,it,a,b,c,r,o,al,pl⟩ w=(zBH (⟨#[32,61,32]⟩:ByteArray) a (zBl wd (wS (⟨#[58,32]⟩:ByteArray) (zAu nme (wS ((⟨#[119,105,114,101]⟩:ByteArray)++(⟨#[32]⟩:ByteArray)) v))))):=by rw[<-hv]; rfl
  rw[hW]at h ⊢;have l4:(zBl wd (wS (⟨#[58,32]⟩:ByteArray) (zAu nme (wS ((⟨#[119,105,114,101]⟩:ByteArray)++(⟨#[32]⟩:ByteArray)) v)))).1.size <=LIM:=wal (zBV _ _ _) h;have l3:(wS (⟨#[58,32]⟩:ByteArray) (zAu nme (wS ((⟨#[119,105,114,101]⟩:ByteArray)++(⟨#[32]⟩:ByteArray)) v))).1.size <=LIM:=wal (zAU _ _) l4;have l2:(zAu nme (wS ((⟨#[119,105,114,101]⟩:ByteArray)++(⟨#[32]⟩:ByteArray)) v)).1.size <=LIM:=wal (zAw _ _) l3;have l1:(wS ((⟨#[119,105,114,101]⟩:ByteArray)++(⟨#[32]⟩:ByteArray)) v).1.size <=LIM:=wal (zAy _ _) l2;have hwk:IntKind.i64.wrap 4=4:=rfl;simp only[ZE,seval,KE,pwC,hwk,List.getD_cons_zero,List.getD_cons_succ,GZ,pwL,pwO,txO,zAa];refine⟨by kernel_rfl,?_⟩
  try (refine⟨by decide,?_⟩)
  refine EFn.gV [(0,900),(5,905)] (zAv (((⟨#[119,105,114,101]⟩:ByteArray)++(⟨#[32]⟩:ByteArray))) (v) (l1)) ?_ ?_
  ·simp only[ZE,seval,prO,KE,pwC,GZ,pwL,pwO,txO,zAa]
  rintro V ol new ⟨rfl,rfl,rfl⟩;simp only[ZE,seval,prO,KE,pwC,GZ,pwL,pwO,txO,zAa];refine EFn.gV [(900,900),(905,905),(7777777,7777777)] (zBP Z hZ _ hnm _ l2) ?_ ?_
  ·simp only[ZE,seval,KE,pwC,GZ,pwL,pwO,txO,zAa]
  rintro V ol new ⟨rfl,rfl,rfl⟩;simp only[ZE,seval,prO,KE,pwC,GZ,pwL,pwO,txO,zAa];refine EFn.gV [(0,900),(5,905)] (zAv ((⟨#[58,32]⟩:ByteArray)) ((zAu nme (wS ((⟨#[119,105,114,101]⟩:ByteArray)++(⟨#[32]⟩:ByteArray)) v))) (l3)) ?_ ?_
  ·simp only[ZE,seval,prO,KE,pwC,GZ,pwL,pwO,txO,zAa]
  rintro V ol new ⟨rfl,rfl,rfl⟩;simp only[ZE,seval,prO,KE,pwC,GZ,pwL,pwO,txO,zAa];refine EFn.gV [(900,900),(905,905),(7777777,7777777)] (zEl Z hZ _ hwd _ l4) ?_ ?_
  ·simp only[ZE,seval,KE,pwC,GZ,pwL,pwO,txO,zAa]
  rintro V ol new ⟨rfl,rfl,rfl⟩;simp only[ZE,seval,prO,KE,pwC,GZ,pwL,pwO,txO,zAa];refine EFn.gV [(95,2),(900,900),(905,905),(7777777,7777777)] (zGf Z hZ _ _ ha _ h) ?_ ?_
  ·simp only[ZE,seval,zb6,KE,pwC,GZ,pwL,pwO,txO,zAa]
  rintro V ol new ⟨rfl,rfl,rfl⟩;simp only[ZE,seval,prO,KE,pwC,GZ,pwL,pwO,txO,zAa];refine⟨[2,3,1999],[],?_⟩;simp only[ZE,seval,zAp.eq_1,zAp.eq_2,zAq.eq_1,zAq.eq_2,GZ,zAj.eq_def,ghK.eq_def,zAi.eq_def,hdH.eq_1,hdH.eq_2,kpH.eq_1,kpH.eq_2,hdl.eq_def,zpC.eq_def,zht,AV.core,GZ,pwL,pwO,txO,zAa,prO]
  first | exact⟨rfl,(zAd _).symm⟩ | exact(zAd _).symm | exact rfl | skip
 ·subst hkd;obtain rfl:c3=false:=by rw[<-k3]; rfl
  obtain rfl:c4=false:=by rw[<-k4]; rfl
  obtain rfl:c6=true:=by rw[<-k6]; rfl
  obtain rfl:c8=false:=by rw[<-k8]; rfl
  obtain rfl:c9=false:=by rw[<-k9]; rfl
  have hW:zCB ⟨6,nme,wd,dp,it,a,b,c,r,o,al,pl⟩ w=(zEn r (wS (⟨#[32]⟩:ByteArray) (zBH (⟨#[32,61,32]⟩:ByteArray) c (zBH (⟨#[32,97,116,32]⟩:ByteArray) b (zBH (⟨#[32,105,102,32]⟩:ByteArray) a (wS (⟨#[93]⟩:ByteArray) (zBl dp (wS (⟨#[32,91]⟩:ByteArray) (zBl wd (wS (⟨#[58,32]⟩:ByteArray) (zAu nme (wS ((⟨#[109,101,109]⟩:ByteArray)++(⟨#[32]⟩:ByteArray)) v)))))))))))):=by rw[<-hv]; rfl
  rw[hW]at h ⊢;have l11:(wS (⟨#[32]⟩:ByteArray) (zBH (⟨#[32,61,32]⟩:ByteArray) c (zBH (⟨#[32,97,116,32]⟩:ByteArray) b (zBH (⟨#[32,105,102,32]⟩:ByteArray) a (wS (⟨#[93]⟩:ByteArray) (zBl dp (wS (⟨#[32,91]⟩:ByteArray) (zBl wd (wS (⟨#[58,32]⟩:ByteArray) (zAu nme (wS ((⟨#[109,101,109]⟩:ByteArray)++(⟨#[32]⟩:ByteArray)) v))))))))))).1.size <=LIM:=wal (zF3 _ _) h;have l10:(zBH (⟨#[32,61,32]⟩:ByteArray) c (zBH (⟨#[32,97,116,32]⟩:ByteArray) b (zBH (⟨#[32,105,102,32]⟩:ByteArray) a (wS (⟨#[93]⟩:ByteArray) (zBl dp (wS (⟨#[32,91]⟩:ByteArray) (zBl wd (wS (⟨#[58,32]⟩:ByteArray) (zAu nme (wS ((⟨#[109,101,109]⟩:ByteArray)++(⟨#[32]⟩:ByteArray)) v)))))))))).1.size <=LIM:=wal (zAw _ _) l11;have l9:(zBH (⟨#[32,97,116,32]⟩:ByteArray) b (zBH (⟨#[32,105,102,32]⟩:ByteArray) a (wS (⟨#[93]⟩:ByteArray) (zBl dp (wS (⟨#[32,91]⟩:ByteArray) (zBl wd (wS (⟨#[58,32]⟩:ByteArray) (zAu nme (wS ((⟨#[109,101,109]⟩:ByteArray)++(⟨#[32]⟩:ByteArray)) v))))))))).1.size <=LIM:=wal (zBV _ _ _) l10;have l8:(zBH (⟨#[32,105,102,32]⟩:ByteArray) a (wS (⟨#[93]⟩:ByteArray) (zBl dp (wS (⟨#[32,91]⟩:ByteArray) (zBl wd (wS (⟨#[58,32]⟩:ByteArray) (zAu nme (wS ((⟨#[109,101,109]⟩:ByteArray)++(⟨#[32]⟩:ByteArray)) v)))))))).1.size <=LIM:=wal (zBV _ _ _) l9;have l7:(wS (⟨#[93]⟩:ByteArray) (zBl dp (wS (⟨#[32,91]⟩:ByteArray) (zBl wd (wS (⟨#[58,32]⟩:ByteArray) (zAu nme (wS ((⟨#[109,101,109]⟩:ByteArray)++(⟨#[32]⟩:ByteArray)) v))))))).1.size <=LIM:=wal (zBV _ _ _) l8;have l6:(zBl dp (wS (⟨#[32,91]⟩:ByteArray) (zBl wd (wS (⟨#[58,32]⟩:ByteArray) (zAu nme (wS ((⟨#[109,101,109]⟩:ByteArray)++(⟨#[32]⟩:ByteArray)) v)))))).1.size <=LIM:=wal (zAw _ _) l7;have l5:(wS (⟨#[32,91]⟩:ByteArray) (zBl wd (wS (⟨#[58,32]⟩:ByteArray) (zAu nme (wS ((⟨#[109,101,109]⟩:ByteArray)++(⟨#[32]⟩:ByteArray)) v))))).1.size <=LIM:=wal (zAU _ _) l6;have l4:(zBl wd (wS (⟨#[58,32]⟩:ByteArray) (zAu nme (wS ((⟨#[109,101,109]⟩:ByteArray)++(⟨#[32]⟩:ByteArray)) v)))).1.size <=LIM:=wal (zAw _ _) l5;have l3:(wS (⟨#[58,32]⟩:ByteArray) (zAu nme (wS ((⟨#[109,101,109]⟩:ByteArray)++(⟨#[32]⟩:ByteArray)) v))).1.size <=LIM:=wal (zAU _ _) l4;have l2:(zAu nme (wS ((⟨#[109,101,109]⟩:ByteArray)++(⟨#[32]⟩:ByteArray)) v)).1.size <=LIM:=wal (zAw _ _) l3;have l1:(wS ((⟨#[109,101,109]⟩:ByteArray)++(⟨#[32]⟩:ByteArray)) v).1.size <=LIM:=wal (zAy _ _) l2;have hwk:IntKind.i64.wrap 5=5:=rfl;simp only[ZE,seval,KE,pwC,hwk,List.getD_cons_zero,List.getD_cons_succ,GZ,pwL,pwO,txO,zAa];refine⟨by kernel_rfl,?_⟩
  try (refine⟨by decide,?_⟩)
  refine EFn.gV [(0,900),(5,905)] (zAv (((⟨#[109,101,109]⟩:ByteArray)++(⟨#[32]⟩:ByteArray))) (v) (l1)) ?_ ?_
  ·simp only[ZE,seval,prO,KE,pwC,GZ,pwL,pwO,txO,zAa]
  rintro V ol new ⟨rfl,rfl,rfl⟩;simp only[ZE,seval,prO,KE,pwC,GZ,pwL,pwO,txO,zAa];refine EFn.gV [(900,900),(905,905),(7777777,7777777)] (zBP Z hZ _ hnm _ l2) ?_ ?_
  ·simp only[ZE,seval,KE,pwC,GZ,pwL,pwO,txO,zAa]
  rintro V ol new ⟨rfl,rfl,rfl⟩;simp only[ZE,seval,prO,KE,pwC,GZ,pwL,pwO,txO,zAa];refine EFn.gV [(0,900),(5,905)] (zAv ((⟨#[58,32]⟩:ByteArray)) ((zAu nme (wS ((⟨#[109,101,109]⟩:ByteArray)++(⟨#[32]⟩:ByteArray)) v))) (l3)) ?_ ?_
  ·simp only[ZE,seval,prO,KE,pwC,GZ,pwL,pwO,txO,zAa]
  rintro V ol new ⟨rfl,rfl,rfl⟩;simp only[ZE,seval,prO,KE,pwC,GZ,pwL,pwO,txO,zAa];refine EFn.gV [(900,900),(905,905),(7777777,7777777)] (zEl Z hZ _ hwd _ l4) ?_ ?_
  ·simp only[ZE,seval,KE,pwC,GZ,pwL,pwO,txO,zAa]
  rintro V ol new ⟨rfl,rfl,rfl⟩;simp only[ZE,seval,prO,KE,pwC,GZ,pwL,pwO,txO,zAa];refine EFn.gV [(0,900),(5,905)] (zAv ((⟨#[32,91]⟩:ByteArray)) ((zBl wd (wS (⟨#[58,32]⟩:ByteArray) (zAu nme (wS ((⟨#[109,101,109]⟩:ByteArray)++(⟨#[32]⟩:ByteArray)) v))))) (l5)) ?_ ?_
  ·simp only[ZE,seval,prO,KE,pwC,GZ,pwL,pwO,txO,zAa]
  rintro V ol new ⟨rfl,rfl,rfl⟩;simp only[ZE,seval,prO,KE,pwC,GZ,pwL,pwO,txO,zAa];refine EFn.gV [(900,900),(905,905),(7777777,7777777)] (zEl Z hZ _ hdp _ l6) ?_ ?_
  ·simp only[ZE,seval,KE,pwC,GZ,pwL,pwO,txO,zAa]
  rintro V ol new ⟨rfl,rfl,rfl⟩;simp only[ZE,seval,prO,KE,pwC,GZ,pwL,pwO,txO,zAa];refine EFn.gV [(0,900),(5,905)] (zAv ((⟨#[93]⟩:ByteArray)) ((zBl dp (wS (⟨#[32,91]⟩:ByteArray) (zBl wd (wS (⟨#[58,32]⟩:ByteArray) (zAu nme (wS ((⟨#[109,101,109]⟩:ByteArray)++(⟨#[32]⟩:ByteArray)) v))))))) (l7)) ?_ ?_
  ·simp only[ZE,seval,prO,KE,pwC,GZ,pwL,pwO,txO,zAa]
  rintro V ol new ⟨rfl,rfl,rfl⟩;simp only[ZE,seval,prO,KE,pwC,GZ,pwL,pwO,txO,zAa];refine EFn.gV [(95,2),(900,900),(905,905),(7777777,7777777)] (zGf Z hZ _ _ ha _ l8) ?_ ?_
  ·simp only[ZE,seval,zb6,KE,pwC,GZ,pwL,pwO,txO,zAa]
  rintro V ol new ⟨rfl,rfl,rfl⟩;simp only[ZE,seval,prO,KE,pwC,GZ,pwL,pwO,txO,zAa];refine EFn.gV [(95,2),(900,900),(905,905),(7777777,7777777)] (zGf Z hZ _ _ hb _ l9) ?_ ?_
  ·simp only[ZE,seval,zb6,KE,pwC,GZ,pwL,pwO,txO,zAa]
  rintro V ol new ⟨rfl,rfl,rfl⟩;simp only[ZE,seval,prO,KE,pwC,GZ,pwL,pwO,txO,zAa];refine EFn.gV [(95,2),(900,900),(905,905),(7777777,7777777)] (zGf Z hZ _ _ hc _ l10) ?_ ?_
  ·simp only[ZE,seval,zb6,KE,pwC,GZ,pwL,pwO,txO,zAa]
  rintro V ol new ⟨rfl,rfl,rfl⟩;simp only[ZE,seval,prO,KE,pwC,GZ,pwL,pwO,txO,zAa];refine EFn.gV [(0,900),(5,905)] (zAv ((⟨#[32]⟩:ByteArray)) ((zBH (⟨#[32,61,32]⟩:ByteArray) c (zBH (⟨#[32,97,116,32]⟩:ByteArray) b (zBH (⟨#[32,105,102,32]⟩:ByteArray) a (wS (⟨#[93]⟩:ByteArray) (zBl dp (wS (⟨#[32,91]⟩:ByteArray) (zBl wd (wS (⟨#[58,32]⟩:ByteArray) (zAu nme (wS ((⟨#[109,101,109]⟩:ByteArray)++(⟨#[32]⟩:ByteArray)) v))))))))))) (l11)) ?_ ?_
  ·simp only[ZE,seval,prO,KE,pwC,GZ,pwL,pwO,txO,zAa]
  rintro V ol new ⟨rfl,rfl,rfl⟩;simp only[ZE,seval,prO,KE,pwC,GZ,pwL,pwO,txO,zAa];refine EFn.gV [(900,900),(905,905),(7777777,7777777)] (rule_w Z hZ _ hr _ h) ?_ ?_
  ·simp only[ZE,seval,KE,pwC,GZ,pwL,pwO,txO,zAa]
  rintro V ol new ⟨rfl,rfl,rfl⟩;simp only[ZE,seval,prO,KE,pwC,GZ,pwL,pwO,txO,zAa];refine⟨[2,3,1999],[],?_⟩;simp only[ZE,seval,zAp.eq_1,zAp.eq_2,zAq.eq_1,zAq.eq_2,GZ,zAj.eq_def,ghK.eq_def,zAi.eq_def,hdH.eq_1,hdH.eq_2,kpH.eq_1,kpH.eq_2,hdl.eq_def,zpC.eq_def,zht,AV.core,GZ,pwL,pwO,txO,zAa,prO]
  first | exact⟨rfl,(zAd _).symm⟩ | exact(zAd _).symm | exact rfl | skip
 ·subst hkd;obtain rfl:c3=false:=by rw[<-k3]; rfl
  obtain rfl:c4=false:=by rw[<-k4]; rfl
  obtain rfl:c6=false:=by rw[<-k6]; rfl
  obtain rfl:c8=false:=by rw[<-k8]; rfl
  obtain rfl:c9=false:=by rw[<-k9]; rfl
  have hW:zCB ⟨7,nme,wd,dp,it,a,b,c,r,o,al,pl⟩ w=(zBH (⟨#[32,105,102,32]⟩:ByteArray) a (zAu nme (wS ((⟨#[116,97,107,101]⟩:ByteArray)++(⟨#[32]⟩:ByteArray)) v))):=by rw[<-hv]; rfl
  rw[hW]at h ⊢;have l2:(zAu nme (wS ((⟨#[116,97,107,101]⟩:ByteArray)++(⟨#[32]⟩:ByteArray)) v)).1.size <=LIM:=wal (zBV _ _ _) h;have l1:(wS ((⟨#[116,97,107,101]⟩:ByteArray)++(⟨#[32]⟩:ByteArray)) v).1.size <=LIM:=wal (zAy _ _) l2;have hwk:IntKind.i64.wrap 6=6:=rfl;simp only[ZE,seval,KE,pwC,hwk,List.getD_cons_zero,List.getD_cons_succ,GZ,pwL,pwO,txO,zAa];refine⟨by kernel_rfl,?_⟩
  try (refine⟨by decide,?_⟩)
  refine EFn.gV [(0,900),(5,905)] (zAv (((⟨#[116,97,107,101]⟩:ByteArray)++(⟨#[32]⟩:ByteArray))) (v) (l1)) ?_ ?_
  ·simp only[ZE,seval,prO,KE,pwC,GZ,pwL,pwO,txO,zAa]
  rintro V ol new ⟨rfl,rfl,rfl⟩;simp only[ZE,seval,prO,KE,pwC,GZ,pwL,pwO,txO,zAa];refine EFn.gV [(900,900),(905,905),(7777777,7777777)] (zBP Z hZ _ hnm _ l2) ?_ ?_
  ·simp only[ZE,seval,KE,pwC,GZ,pwL,pwO,txO,zAa]
  rintro V ol new ⟨rfl,rfl,rfl⟩;simp only[ZE,seval,prO,KE,pwC,GZ,pwL,pwO,txO,zAa];refine EFn.gV [(95,2),(900,900),(905,905),(7777777,7777777)] (zGf Z hZ _ _ ha _ h) ?_ ?_
  ·simp only[ZE,seval,zb6,KE,pwC,GZ,pwL,pwO,txO,zAa]
  rintro V ol new ⟨rfl,rfl,rfl⟩;simp only[ZE,seval,prO,KE,pwC,GZ,pwL,pwO,txO,zAa];refine⟨[2,3,1999],[],?_⟩;simp only[ZE,seval,zAp.eq_1,zAp.eq_2,zAq.eq_1,zAq.eq_2,GZ,zAj.eq_def,ghK.eq_def,zAi.eq_def,hdH.eq_1,hdH.eq_2,kpH.eq_1,kpH.eq_2,hdl.eq_def,zpC.eq_def,zht,AV.core,GZ,pwL,pwO,txO,zAa,prO]
  first | exact⟨rfl,(zAd _).symm⟩ | exact(zAd _).symm | exact rfl | skip
 ·subst hkd;obtain rfl:c3=false:=by rw[<-k3]; rfl
  obtain rfl:c4=false:=by rw[<-k4]; rfl
  obtain rfl:c6=false:=by rw[<-k6]; rfl
  obtain rfl:c8=true:=by rw[<-k8]; rfl
  obtain rfl:c9=false:=by rw[<-k9]; rfl
  have hW:zCB ⟨8,nme,wd,dp,it,a,b,c,r,o,al,pl⟩ w=(zBH (⟨#[32,61,32]⟩:ByteArray) b (zBH (⟨#[32,105,102,32]⟩:ByteArray) a (zAu nme (wS ((⟨#[112,117,116]⟩:ByteArray)++(⟨#[32]⟩:ByteArray)) v)))):=by rw[<-hv]; rfl
  rw[hW]at h ⊢;have l3:(zBH (⟨#[32,105,102,32]⟩:ByteArray) a (zAu nme (wS ((⟨#[112,117,116]⟩:ByteArray)++(⟨#[32]⟩:ByteArray)) v))).1.size <=LIM:=wal (zBV _ _ _) h;have l2:(zAu nme (wS ((⟨#[112,117,116]⟩:ByteArray)++(⟨#[32]⟩:ByteArray)) v)).1.size <=LIM:=wal (zBV _ _ _) l3;have l1:(wS ((⟨#[112,117,116]⟩:ByteArray)++(⟨#[32]⟩:ByteArray)) v).1.size <=LIM:=wal (zAy _ _) l2;have hwk:IntKind.i64.wrap 7=7:=rfl;simp only[ZE,seval,KE,pwC,hwk,List.getD_cons_zero,List.getD_cons_succ,GZ,pwL,pwO,txO,zAa];refine⟨by kernel_rfl,?_⟩
  try (refine⟨by decide,?_⟩)
  refine EFn.gV [(0,900),(5,905)] (zAv (((⟨#[112,117,116]⟩:ByteArray)++(⟨#[32]⟩:ByteArray))) (v) (l1)) ?_ ?_
  ·simp only[ZE,seval,prO,KE,pwC,GZ,pwL,pwO,txO,zAa]
  rintro V ol new ⟨rfl,rfl,rfl⟩;simp only[ZE,seval,prO,KE,pwC,GZ,pwL,pwO,txO,zAa];refine EFn.gV [(900,900),(905,905),(7777777,7777777)] (zBP Z hZ _ hnm _ l2) ?_ ?_
  ·simp only[ZE,seval,KE,pwC,GZ,pwL,pwO,txO,zAa]
  rintro V ol new ⟨rfl,rfl,rfl⟩;simp only[ZE,seval,prO,KE,pwC,GZ,pwL,pwO,txO,zAa];refine EFn.gV [(95,2),(900,900),(905,905),(7777777,7777777)] (zGf Z hZ _ _ ha _ l3) ?_ ?_
  ·simp only[ZE,seval,zb6,KE,pwC,GZ,pwL,pwO,txO,zAa]
  rintro V ol new ⟨rfl,rfl,rfl⟩;simp only[ZE,seval,prO,KE,pwC,GZ,pwL,pwO,txO,zAa];refine EFn.gV [(95,2),(900,900),(905,905),(7777777,7777777)] (zGf Z hZ _ _ hb _ h) ?_ ?_
  ·simp only[ZE,seval,zb6,KE,pwC,GZ,pwL,pwO,txO,zAa]
  rintro V ol new ⟨rfl,rfl,rfl⟩;simp only[ZE,seval,prO,KE,pwC,GZ,pwL,pwO,txO,zAa];refine⟨[2,3,1999],[],?_⟩;simp only[ZE,seval,zAp.eq_1,zAp.eq_2,zAq.eq_1,zAq.eq_2,GZ,zAj.eq_def,ghK.eq_def,zAi.eq_def,hdH.eq_1,hdH.eq_2,kpH.eq_1,kpH.eq_2,hdl.eq_def,zpC.eq_def,zht,AV.core,GZ,pwL,pwO,txO,zAa,prO]
  first | exact⟨rfl,(zAd _).symm⟩ | exact(zAd _).symm | exact rfl | skip
 ·subst hkd;obtain rfl:c3=false:=by rw[<-k3]; rfl
  obtain rfl:c4=false:=by rw[<-k4]; rfl
  obtain rfl:c6=false:=by rw[<-k6]; rfl
  obtain rfl:c8=false:=by rw[<-k8]; rfl
  obtain rfl:c9=true:=by rw[<-k9]; rfl
  have hW:zCB ⟨9,nme,wd,dp,it,a,b,c,r,o,al,pl⟩ w=(zCv zDE b0 pl (wS (⟨#[32]⟩:ByteArray) (zCv zBl n0 al (zAu o (wS (⟨#[58,32]⟩:ByteArray) (zAu nme (wS ((⟨#[105,110,115,116]⟩:ByteArray)++(⟨#[32]⟩:ByteArray)) v))))))):=by rw[<-hv]; rfl
  rw[hW]at h ⊢;have l6:(wS (⟨#[32]⟩:ByteArray) (zCv zBl n0 al (zAu o (wS (⟨#[58,32]⟩:ByteArray) (zAu nme (wS ((⟨#[105,110,115,116]⟩:ByteArray)++(⟨#[32]⟩:ByteArray)) v)))))).1.size <=LIM:=wal (zCD zEi _ _ _) h;have l5:(zCv zBl n0 al (zAu o (wS (⟨#[58,32]⟩:ByteArray) (zAu nme (wS ((⟨#[105,110,115,116]⟩:ByteArray)++(⟨#[32]⟩:ByteArray)) v))))).1.size <=LIM:=wal (zAw _ _) l6;have l4:(zAu o (wS (⟨#[58,32]⟩:ByteArray) (zAu nme (wS ((⟨#[105,110,115,116]⟩:ByteArray)++(⟨#[32]⟩:ByteArray)) v)))).1.size <=LIM:=wal (zCD zAU _ _ _) l5;have l3:(wS (⟨#[58,32]⟩:ByteArray) (zAu nme (wS ((⟨#[105,110,115,116]⟩:ByteArray)++(⟨#[32]⟩:ByteArray)) v))).1.size <=LIM:=wal (zAy _ _) l4;have l2:(zAu nme (wS ((⟨#[105,110,115,116]⟩:ByteArray)++(⟨#[32]⟩:ByteArray)) v)).1.size <=LIM:=wal (zAw _ _) l3;have l1:(wS ((⟨#[105,110,115,116]⟩:ByteArray)++(⟨#[32]⟩:ByteArray)) v).1.size <=LIM:=wal (zAy _ _) l2;have hwk:IntKind.i64.wrap 8=8:=rfl;simp only[ZE,seval,KE,pwC,hwk,List.getD_cons_zero,List.getD_cons_succ,GZ,pwL,pwO,txO,zAa];refine⟨by kernel_rfl,?_⟩
  try (refine⟨by decide,?_⟩)
  refine EFn.gV [(0,900),(5,905)] (zAv (((⟨#[105,110,115,116]⟩:ByteArray)++(⟨#[32]⟩:ByteArray))) (v) (l1)) ?_ ?_
  ·simp only[ZE,seval,prO,KE,pwC,GZ,pwL,pwO,txO,zAa]
  rintro V ol new ⟨rfl,rfl,rfl⟩;simp only[ZE,seval,prO,KE,pwC,GZ,pwL,pwO,txO,zAa];refine EFn.gV [(900,900),(905,905),(7777777,7777777)] (zBP Z hZ _ hnm _ l2) ?_ ?_
  ·simp only[ZE,seval,KE,pwC,GZ,pwL,pwO,txO,zAa]
  rintro V ol new ⟨rfl,rfl,rfl⟩;simp only[ZE,seval,prO,KE,pwC,GZ,pwL,pwO,txO,zAa];refine EFn.gV [(0,900),(5,905)] (zAv ((⟨#[58,32]⟩:ByteArray)) ((zAu nme (wS ((⟨#[105,110,115,116]⟩:ByteArray)++(⟨#[32]⟩:ByteArray)) v))) (l3)) ?_ ?_
  ·simp only[ZE,seval,prO,KE,pwC,GZ,pwL,pwO,txO,zAa]
  rintro V ol new ⟨rfl,rfl,rfl⟩;simp only[ZE,seval,prO,KE,pwC,GZ,pwL,pwO,txO,zAa];refine EFn.gV [(900,900),(905,905),(7777777,7777777)] (zBP Z hZ _ ho _ l4) ?_ ?_
  ·simp only[ZE,seval,KE,pwC,GZ,pwL,pwO,txO,zAa]
  rintro V ol new ⟨rfl,rfl,rfl⟩;simp only[ZE,seval,prO,KE,pwC,GZ,pwL,pwO,txO,zAa];refine EFn.gV [(900,900),(905,905),(7777777,7777777)] (listN_w Z hZ _ hl.1 hl.2 _ l5) ?_ ?_
  ·simp only[ZE,seval,KE,pwC,GZ,pwL,pwO,txO,zAa]
  rintro V ol new ⟨rfl,rfl,rfl⟩;simp only[ZE,seval,prO,KE,pwC,GZ,pwL,pwO,txO,zAa];refine EFn.gV [(0,900),(5,905)] (zAv ((⟨#[32]⟩:ByteArray)) ((zCv zBl n0 al (zAu o (wS (⟨#[58,32]⟩:ByteArray) (zAu nme (wS ((⟨#[105,110,115,116]⟩:ByteArray)++(⟨#[32]⟩:ByteArray)) v)))))) (l6)) ?_ ?_
  ·simp only[ZE,seval,prO,KE,pwC,GZ,pwL,pwO,txO,zAa]
  rintro V ol new ⟨rfl,rfl,rfl⟩;simp only[ZE,seval,prO,KE,pwC,GZ,pwL,pwO,txO,zAa];refine EFn.gV [(95,2),(900,900),(905,905),(7777777,7777777)] (listB_w Z hZ _ hp.1 hp.2 _ h) ?_ ?_
  ·simp only[ZE,seval,zb6,KE,pwC,GZ,pwL,pwO,txO,zAa]
  rintro V ol new ⟨rfl,rfl,rfl⟩;simp only[ZE,seval,prO,KE,pwC,GZ,pwL,pwO,txO,zAa];refine⟨[2,3,1999],[],?_⟩;simp only[ZE,seval,zAp.eq_1,zAp.eq_2,zAq.eq_1,zAq.eq_2,GZ,zAj.eq_def,ghK.eq_def,zAi.eq_def,hdH.eq_1,hdH.eq_2,kpH.eq_1,kpH.eq_2,hdl.eq_def,zpC.eq_def,zht,AV.core,GZ,pwL,pwO,txO,zAa,prO]
  first | exact⟨rfl,(zAd _).symm⟩ | exact(zAd _).symm | exact rfl | skip
theorem len_w(x0:AV)(hx0:x0= .d (.lit (.pointer none))\/x0= .ep 0 1 0 0)(tx:List (List D))(ok:Bool):
  FnL prog 91 [.ep 0 1 0 0] [(0,prO x0 tx.length (.d (eB ok))),(5,txO tx)] (fun V ol new=>V= .d (eI tx.length)/\ol=[(0,prO x0 tx.length (.d (eB ok))),(5,txO tx)]/\new=[]):=by
 refine FnL.srt (FnL.of_eH 1999 [.ar 0 1,.ar 5 tx.length] (own:=[]) (fun _=>[]) [] zat func91 rfl call91 ntmps91 (zle rfl) results91 (zHd x0 hx0 tx (eB ok) _ (by simp[AV.noRefs,AV.noRef])) (fun gs=> ?_));rcases hx0 with rfl | rfl
 ·simp only[ZE,seval,prO,txO];refine⟨[1999],[],?_⟩;simp only[ZE,seval,zAp.eq_1,zAp.eq_2,zAq.eq_1,zAq.eq_2,GZ,zAj.eq_def,ghK.eq_def,zAi.eq_def,hdH.eq_1,hdH.eq_2,kpH.eq_1,kpH.eq_2,hdl.eq_def,zpC.eq_def,zht,AV.core]
 ·simp only[ZE,seval,prO,txO];refine⟨[1999],[],?_⟩;simp only[ZE,seval,zAp.eq_1,zAp.eq_2,zAq.eq_1,zAq.eq_2,GZ,zAj.eq_def,ghK.eq_def,zAi.eq_def,hdH.eq_1,hdH.eq_2,kpH.eq_1,kpH.eq_2,hdl.eq_def,zpC.eq_def,zht,AV.core]
set_option maxRecDepth 1000000
set_option maxHeartbeats 2000000
theorem str_w(w:World)(b g cap:Nat)(cur cur5:Array Value)(l:List UInt8)(hb:w.heap[b]? =some (.cells cur 161 (0,0)))(h1:cur[1]? =some (.slice (some ⟨g,0,none⟩) l.length cap))(hg:w.heap[g]? =some (.cells cur5 5 (0,0)))
  (h0:l≠[]) (hc:l.length<=cap) (hs:cur5.size=cap*1) (hm:cap<=maxLen) (hx: ∀(j:Nat) (x:UInt8),l[j]? =some x->cur5[j]? =some (Value.int IntKind.u8 (x.toNat:Int))):
  Calls prog 92 #[.pointer (some ⟨b,0,none⟩)] w fun e w'=>e= .returned (.string ⟨l.toArray⟩)/\w'=w.drew.freeze ⟨g,0,none⟩ l.length:=by
 have hl0:l.length≠0:=by simpa using h0
 have hcap:cap≠0:=by omega
 have c1:w.drew.cell? ⟨b,1,none⟩=some (.slice (some ⟨g,0,none⟩) l.length cap):=by
  have:w.drew.heap[b]? =some (.cells cur 161 (0,0)):=hb;rw[Lib.cell_of_heap this]; exact h1
 have hSD:(Builtin.unsafeSliceData_ #[54] 233 #[.slice (some ⟨g,0,none⟩) l.length cap]).run prog w.drew= .ok (.pointer (some ⟨g,0,none⟩)) w.drew:=
  Lib.run_unsafeSliceData_row _ _ _ _ _ _ hcap
 have hUS:(Builtin.unsafeString_ #[233,3] 9 #[.pointer (some ⟨g,0,none⟩),.int .i64 l.length]).run prog w.drew= .ok (.string ⟨l.toArray⟩) (w.drew.freeze ⟨g,0,none⟩ l.length):=by
  refine Lib.run_unsafeString_row w.drew 233 3 9 5 (by kernel_rfl) (by kernel_rfl) g cur5.size (by have hg':w.drew.heap[g]? =some (.cells cur5 5 (0,0)):=hg; simp[World.shape?,hg']) l h0 (by omega) (by unfold maxLen at hm; omega) ?_;intro j x hj;have hg':w.drew.heap[g]? =some (.cells cur5 5 (0,0)):=hg;have:=hx j x hj;cases j <;> simp_all [World.cell?,Addr.add]
 have zat:=zat
 go_enter func92,ntmps92
 go_wp2
 go_region_o
 all_goals (go_wp2; go_ret; exact⟨rfl,rfl⟩)
theorem own_lits{W:World}{F:Nat->Prop}: ∀(l:List UInt8) (vs:List Value) (s1:List Nat),Go.Aw.OwnVals (Go.Aw.Own W F []) (l.map fun b=>D.lit (.int .u8 b.toNat)) vs s1->vs=l.map fun b=>Value.int .u8 b.toNat
 | [],vs,s1,h=>by simp only[wab,Go.Aw.OwnVals]at h; exact h.1
 | b::r,vs,s1,h=>by
  simp only[wac,Go.Aw.OwnVals]at h;obtain⟨v,rest,s2,s3,rfl,_,h1,h2⟩:=h;simp only[Go.Aw.Own,Rd]at h1;rw[own_lits r rest s3 h2,h1.1];rfl
theorem zHT(vs:Array Value)(W:World):(callFunc 92 vs).run prog W= .ok (.enter 92 vs) W:=by kernel_rfl
theorem str_own(x0:AV)(s:Bts)(h0:s.size≠0)(ok:Bool):
  FnL prog 92 [.ep 0 1 0 0] [(0,prO x0 s.size (.d (eB ok))),(5,txO (zAr s))] (fun V ol new=>V= .d (.lit (.string s))/\ol=[]/\new=[]):=by
 refine⟨fun W bs=>zHT bs W,?_⟩;intro W F O0 η S vs hm hO0 hr;obtain⟨O,hO⟩:=zX (om [(0,prO x0 s.size (.d (eB ok))),(5,txO (zAr s))]);rw[hO]at hm hr ⊢;have hO1:O 0=some (prO x0 s.size (.d (eB ok))):=by rw[<-hO]; simp[om]
 have hO5:O 5=some (txO (zAr s)):=by rw[<-hO]; simp[om]
 unfold prO at hO1;unfold txO at hO5;simp only[zaN,zaL]at hr;obtain⟨v0,_,rfl,hv0,rfl⟩:=hr;obtain⟨g0,len,cap0,hη,rfl⟩:=(hv0 _ _ _ _ hO1).2 rfl;obtain⟨d,hd⟩:=zD8 hm hO1 (i:=0) (j:=1) (by simp) (by decide);obtain⟨b,capb,cur,u,sa,s1,sb,q1,q2,q3,q4,q5,q6,q7,_⟩:=zwA hm hO1 (i:=0) (j:=1) (by simp) (by decide) hd;rw[q1]at hη;simp only[Value.slice.injEq,Option.some.injEq,Addr.mk.injEq,and_true]at hη;obtain⟨rfl,_,_⟩:=hη;simp only[Nat.zero_mul,Nat.zero_add,Nat.add_zero]at q4 q7 ⊢;unfold znF at q7;simp only[List.lookup,show((1:Nat)==0)=false from rfl,show((1:Nat)==1)=true from rfl]at q7;obtain⟨q7,_⟩:=q7;simp only[zaL]at q7;have q8:=(q7 _ _ _ _ hO5).2 (zAd s).symm;subst q8;obtain⟨_,_,hcase⟩:=hm.obj 5 _ hO5;rcases hcase with⟨_,hes,_⟩ | ⟨g,cap,cur5,s5,p1,p2,p3,p4,p5,p6,p7⟩
 ·have:=zAd s;rw[hes]at this;exact absurd this.symm h0
 have hlen:=zAd s;have hfl:(zAr s).flatten =s.data.toList.map fun b=>D.lit (.int .u8 b.toNat):=by
  unfold zAr
  induction s.data.toList with
  | nil=>rfl
  | cons a r ih=>simp only[wac,List.flatten_cons,ih]; rfl
 rw[hfl]at p7;have hv:=own_lits _ _ _ p7;have hz:s.data.toList.length=s.size:=by rw[Array.length_toList]; rfl
 rw[hlen,Nat.mul_one]at hv;have hcell: ∀(j:Nat) (x:UInt8),s.data.toList[j]? =some x->cur5[j]? =some (Value.int IntKind.u8 (x.toNat:Int)):=by
  intro j x hj;have hlt:j<s.size:=by
   rw[<-hz];exact(List.getElem?_eq_some_iff.1 hj).1
  have:=congrArg (fun l=>l[j]?) hv;simp only[List.getElem?_map,hj,Option.map_some,List.getElem?_take_of_lt hlt]at this;rw[<-this];simp
 rw[hlen]at p1 p3;rw[p1]at q4;have hgS:g∈S 5:=by rw[p6]; simp
 have hgO:=(hm.apart 5 g hgS).2.2;refine(str_w W b g cap cur cur5 s.data.toList q2 (by rw[hz]; exact q4) p2 (by intro e; rw[e]at hz; exact h0 hz.symm) (by rw[hz]; exact p3) p5 p4 hcell).mono ?_;rintro e W' ⟨rfl,rfl⟩;obtain⟨W',hW'⟩:=zX (W.drew.freeze ⟨g,0,none⟩ s.data.toList.length);rw[hW'];have f1:W'.os=W.os:=by rw[<-hW']; unfold World.freeze; split <;> rfl
 have f2:W'.tape=W.tape:=by rw[<-hW']; unfold World.freeze; split <;> rfl
 have f3:W'.output=W.output:=by rw[<-hW']; unfold World.freeze; split <;> rfl
 have f4:W'.heap.size=W.heap.size:=by
  rw[<-hW']; unfold World.freeze;split
  ·rfl
  ·exact Array.size_modify
 have f5: ∀b,b≠g->W'.heap[b]? =W.heap[b]? :=by
  intro b hb;rw[<-hW']; unfold World.freeze;split
  ·rfl
  ·simp only[World.drew,Array.getElem?_modify];rw[if_neg (fun e=>hb e.symm)]
 refine⟨_,_,_,[],F,η,fun _=>[],rfl,⟨[],rfl,rfl,rfl,rfl⟩,(fun i hi=>by cases hi),?_,?_,?_⟩
 ·refine⟨f1,f2,f3,by rw[f4]; exact wam _,?_,fun b h=>h,fun b h=>by rw[f4]; exact hm.flt b h,hm.fold,?_,fun _ _=>rfl,?_,?_,fun _=>List.nodup_nil,?_,?_,?_⟩
  ·intro b hb hn;exact f5 b (fun e=>hn (by subst e; exact hgO hb))
  ·intro id o ho; simp[om]at ho
  ·intro id b hb; simp at hb
  ·intro id id' b hb; simp at hb
  ·intro p hp; simp at hp
  ·intro id lim fam stop l rest ho; simp[om]at ho
  ·intro D hD; simp at hD
 ·show Value.string ⟨s.data.toList.toArray⟩=Value.string s;rw[Array.toArray_toList]
 ·intro j o ho; simp[om]at ho
set_option maxRecDepth 100000
set_option maxHeartbeats 4000000
structure modR (R:Item->Prop) (m:Module):Prop where
 n:m.name.size<=1000000
 c:m.clock.size<=1000000
 p:(∀s∈m.params,s.size<=1000000)/\m.params.length<=1000000
 i:(∀x∈m.items,R x)/\m.items.length<=1000000
def pX(Z:GP)(x0:AV)(w:PW):OL:=[(5,txO (zAr w.1)),(10,.arr 161 3 (.deep [] [(0,x0),(1,.ar 5 w.1.size),(2,.d (eB w.2))]) [[.lit undef,.lit undef,.lit undef]]),(7777777,Z.o)]
theorem eItem_n(x:Item):zaK x=[eI x.kind,eSb x.name,eI x.width.n,eSb x.width.p,eI x.depth.n,eSb x.depth.p,eI x.init.n,eSb x.init.p,eI x.a.op,eSb x.a.name,eI x.a.k.n,eSb x.a.k.p,eI x.a.w.n,eSb x.a.w.p,.sl (x.a.args.map zbx),eI x.b.op,eSb x.b.name,eI x.b.k.n,eSb x.b.k.p,eI x.b.w.n,eSb x.b.w.p,.sl (x.b.args.map zbx),eI x.c.op,eSb x.c.name,eI x.c.k.n,eSb x.c.k.p,eI x.c.w.n,eSb x.c.w.p,.sl (x.c.args.map zbx),eI x.rule.kind,eSb x.rule.from',eI x.rule.n,eSb x.of,ziG x.args,zel x.ports]:=by
 unfold zaK;rw[zb6,zb6,zb6];rfl
theorem write_p0(y0:AV)(hy:y0= .d (.lit (.pointer none))\/y0= .ep 0 1 0 0)(s:Bts)(w:PW)(h:(wS s w).1.size <=LIM):
  FnL prog 87 [.ep 0 1 0 0,.d (.lit (.string s))] [(0,prO y0 w.1.size (.d (eB w.2))),(5,txO (zAr w.1))] (fun V ol new=>V= .tup [.d (eI s.size),.d (.lit .nilIface)]/\ol=[(0,prO (.ep 0 1 0 0) (wS s w).1.size (.d (eB w.2))),(5,txO (zAr (wS s w).1))]/\new=[]):=by
 have hz:(wS s w).1.size =w.1.size+s.size:=by simp[wS,ByteArray.size_append]
 have:=copy_w1 y0 hy (zAr w.1) w.2 s (by rw[zAd]; rw[hz]at h; exact h);rw[zAd]at this;rw[hz,show(wS s w).1 =w.1++s from rfl,zHn];exact this
theorem zHR(x:Item)(w:PW):w.1.size<=(zCB x w).1.size :=by
 unfold zCB;split
 ·exact wam _
 ·refine wal ?_ (size_bodyW _ _)
  repeat' split
  all_goals
   repeat' first
    | with_reducible exact wam _
    | with_reducible refine wal ?_ (zAw _ _)
    | with_reducible refine wal ?_ (zAU _ _)
    | with_reducible refine wal ?_ (zAy _ _)
    | with_reducible exact zEj _ _
theorem zF2(l:List Item)(w:PW): ∀i j,i<=j->(zDK l i w).1.size <=(zDK l j w).1.size :=by
 intro i j hij
 induction j with
 | zero=>
  have:i=0:=by omega
  subst this; exact wam _
 | succ j ih=>
  rcases wak j i with h | h
  ·have:i=j+1:=by omega
   subst this; exact wam _
  ·refine wal (ih h) ?_;exact wal (zAw _ _) (wal (zHR _ _) (zAw _ _))
theorem size_wModule(m:Module)(w:PW):w.1.size<=(zD4 m w).1.size :=
 wal (zAw _ _) (wal (zAy _ _) (wal (zCD zAy _ _ _) (wal (zAw _ _) (wal (zAy _ _) (wal (zAw _ _) (wal (zF2 _ _ 0 _ (Nat.zero_le _)) (zAw _ _)))))))
theorem size_mods(l:List Module)(w:PW): ∀i j,i<=j->(zDF l i w).1.size <=(zDF l j w).1.size :=by
 intro i j hij
 induction j with
 | zero=>
  have:i=0:=by omega
  subst this; exact wam _
 | succ j ih=>
  rcases wak j i with h | h
  ·have:i=j+1:=by omega
   subst this; exact wam _
  ·exact wal (ih h) (size_wModule _ _)
theorem print_g(Z:GP)(hZ:Z.Ok)(R:Item->Prop)(hI: ∀x,R x-> ∀w:PW,(zCB x w).1.size <=LIM->WCon Z 90 [.d (.agg (zaK x))] w (zCB x w) (.tup []))(l:List Module)(hne:l.length≠0)(hl: ∀m∈l,modR R m)(hn:l.length<=1000000)(h:(zDF l l.length (e0,true)).1.size <=LIM):
  FnL prog 58 [.d (.agg [zax l])] [(7777777,Z.o)] (fun V ol new=>V= .tup [.d (eSb (zCl l).1),.d (eI (zCl l).2)]/\ol=[(7777777,Z.o)]/\new=[]):=by
 refine FnL.srt (FnL.of_eH 1999 [] (own:=[(10,[])]) (fun i=>if i=1 then [.adH 10 0 1 5 5 1]else if i=2020 then []else chL i) [] zat func58 rfl call58 ntmps58 (zle rfl) results58 (zCw Z _ (by simp[AV.noRefs,AV.noRef])) (fun gs=> ?_));simp only[ZE,seval,KE,waa,GZ];refine za1 (fun i=>if i=1 then [.adH 10 0 1 5 5 1]else if i=2020 then []else chL i) zat l.length (fun _=>True) (fun i=>([(2,.d (.lit (.string e0))),(3,.d (eI 0)),(4,.ep 10 1 0 0),(12,.d (zax l)),(13,.d (eI l.length)),(14,.d (eI i))],(1999,.gh [] gs)::pX Z (if i=0 then .d (.lit (.pointer none))else .ep 10 1 0 0) (zDF l i (e0,true)))) trivial ?_ ?_ (fun i hi _=> ?_)
 ·simp only[ZE,seval,KE,e0]
 ·simp only[ZE,seval,KE,pX,GZ,txO,zDF.eq_1,if_true];exact⟨rfl,rfl⟩
 by_cases hlt:i<l.length
 ·have e1:=zai hlt;have e2:(l.map zaC).getD i []=[eSb l[i].name,eSb l[i].clock,eSbs l[i].params,zbR l[i].items]:=zaa hlt [];have hw:=zaq (show i<9223372036854775807 by omega);obtain⟨W,hW⟩:=zX (zDF l i (e0,true));have hm:=hl _ (wae hlt);have hg:l.getD i m0=l[i]:=by rw[List.getD,wah hlt]; rfl
  have hS2:zDF l (i+1) (e0,true)=zD4 l[i] W:=by rw[<-hW,<-hg]; rfl
  obtain⟨m,hmm⟩:=zX (l[i]);rw[hmm]at e2 hm hS2;have h2:(zD4 m W).1.size <=LIM:=by rw[<-hS2]; exact wal (size_mods l _ _ _ hlt) h
  rw[hW];have hu:zD4 m W=wS (⟨#[125,10]⟩:ByteArray) (zDK m.items m.items.length (wS (⟨#[32,123,10]⟩:ByteArray) (zAu m.clock (wS (⟨#[32,64,32]⟩:ByteArray) (zCv zAu e0 m.params (zAu m.name (wS (⟨#[109,111,100,117,108,101,32]⟩:ByteArray) W))))))):=rfl;rw[hu]at h2 hS2;have q7:=wal (zAw _ _) h2;have q6:(wS (⟨#[32,123,10]⟩:ByteArray) (zAu m.clock (wS (⟨#[32,64,32]⟩:ByteArray) (zCv zAu e0 m.params (zAu m.name (wS (⟨#[109,111,100,117,108,101,32]⟩:ByteArray) W)))))).1.size <=LIM:=wal (zF2 m.items _ _ _ (Nat.zero_le _)) q7;have q5:=wal (zAw _ _) q6;have q4:=wal (zAy _ _) q5;have q3:=wal (zAw _ _) q4;have q2:=wal (zCD zAy _ _ _) q3;have q1:=wal (zAy _ _) q2;obtain⟨x0,hx0,hx1⟩: ∃x0,(if i=0 then AV.d (.lit (.pointer none))else .ep 10 1 0 0)=x0/\(x0= .d (.lit (.pointer none))\/x0= .ep 10 1 0 0):=by
   by_cases hz:i=0
   ·exact⟨_,rfl,.inl (by rw[if_pos hz])⟩
   ·exact⟨_,rfl,.inr (by rw[if_neg hz])⟩
  rw[hx0];simp only[ZE,seval,KE]at e2;simp only[ZE,seval,zaw hlt,e1,e2,waj,KE,pX,GZ,pwL,pwO,txO,zAa];obtain⟨y0,hy,hxy⟩: ∃y0,(y0=AV.d (.lit (.pointer none))\/y0= .ep 0 1 0 0)/\((x0= .d (.lit (.pointer none))/\y0= .d (.lit (.pointer none)))\/(x0= .ep 10 1 0 0/\y0= .ep 0 1 0 0)):=by
   rcases hx1 with h | h
   ·exact⟨_,.inl rfl,.inl ⟨h,rfl⟩⟩
   ·exact⟨_,.inr rfl,.inr ⟨h,rfl⟩⟩
  refine⟨by rcases hx1 with rfl | rfl <;> simp[AV.noRef],?_⟩;clear hx0;refine EFn.gV [(0,10),(5,5)] (write_p0 y0 hy (⟨#[109,111,100,117,108,101,32]⟩:ByteArray) W q1) ?_ ?_
  ·rcases hxy with⟨rfl,rfl⟩ | ⟨rfl,rfl⟩
   ·simp only[ZE,seval,prO,KE,GZ,pwL,pwO,txO,zAa]
   ·simp only[ZE,seval,prO,KE,GZ,pwL,pwO,txO,zAa]
  rintro V ol new ⟨rfl,rfl,rfl⟩;simp only[ZE,seval,prO,KE,GZ,pwL,pwO,txO,zAa];refine EFn.gV [(900,10),(905,5),(7777777,7777777)] (zBP Z hZ m.name hm.n _ q2) ?_ ?_
  ·simp only[ZE,seval,KE,GZ,pwL,pwO,txO,zAa]
  rintro V ol new ⟨rfl,rfl,rfl⟩;simp only[ZE,seval,KE,GZ,pwL,pwO,txO,zAa];refine EFn.gV [(900,10),(905,5),(7777777,7777777)] (listS_w Z hZ m.params hm.p.1 hm.p.2 _ q3) ?_ ?_
  ·simp only[ZE,seval,KE,GZ,pwL,pwO,txO,zAa]
  rintro V ol new ⟨rfl,rfl,rfl⟩;simp only[ZE,seval,KE,GZ,pwL,pwO,txO,zAa];refine EFn.gV [(0,10),(5,5)] (zAv ((⟨#[32,64,32]⟩:ByteArray)) (zCv zAu e0 m.params (zAu m.name (wS (⟨#[109,111,100,117,108,101,32]⟩:ByteArray) W))) (q4)) ?_ ?_
  ·simp only[ZE,seval,prO,KE,GZ,pwL,pwO,txO,zAa]
  rintro V ol new ⟨rfl,rfl,rfl⟩;simp only[ZE,seval,prO,KE,GZ,pwL,pwO,txO,zAa];refine EFn.gV [(900,10),(905,5),(7777777,7777777)] (zBP Z hZ m.clock hm.c _ q5) ?_ ?_
  ·simp only[ZE,seval,KE,GZ,pwL,pwO,txO,zAa]
  rintro V ol new ⟨rfl,rfl,rfl⟩;simp only[ZE,seval,KE,GZ,pwL,pwO,txO,zAa];refine EFn.gV [(0,10),(5,5)] (zAv ((⟨#[32,123,10]⟩:ByteArray)) (zAu m.clock (wS (⟨#[32,64,32]⟩:ByteArray) (zCv zAu e0 m.params (zAu m.name (wS (⟨#[109,111,100,117,108,101,32]⟩:ByteArray) W))))) (q6)) ?_ ?_
  ·simp only[ZE,seval,prO,KE,GZ,pwL,pwO,txO,zAa]
  rintro V ol new ⟨rfl,rfl,rfl⟩;simp only[ZE,seval,prO,KE,GZ,pwL,pwO,txO,zAa];obtain⟨U,hU⟩:=zX (wS (⟨#[32,123,10]⟩:ByteArray) (zAu m.clock (wS (⟨#[32,64,32]⟩:ByteArray) (zCv zAu e0 m.params (zAu m.name (wS (⟨#[109,111,100,117,108,101,32]⟩:ByteArray) W))))));have hUs:(zAu m.clock (wS (⟨#[32,64,32]⟩:ByteArray) (zCv zAu e0 m.params (zAu m.name (wS (⟨#[109,111,100,117,108,101,32]⟩:ByteArray) W))))).2 =U.2:=by rw[<-hU]; rfl
  rw[hU]at hS2 h2 q7;rw[hU,hUs];refine za1 (fun i=>if i=1 then [.adH 10 0 1 5 5 1]else if i=2020 then []else chL i) zat m.items.length (fun _=>True) (fun j=>([(2,.d (.lit (.string e0))),(3,.d (eI 0)),(4,.ep 10 1 0 0),(12,.d (zax l)),(13,.d (eI l.length)),(14,.d (eI i)),(45,.d (zbR m.items)),(46,.d (eI m.items.length)),(47,.d (eI j))],(1999,.gh [] gs)::(6,.box [.d (eSb m.name),.d (eSb m.clock),.d (eSbs m.params),.d (zbR m.items)])::pX Z (.ep 10 1 0 0) (zDK m.items j U))) trivial ?_ ?_ (fun j hj _=> ?_)
  ·simp only[ZE,seval,KE,e0]
  ·simp only[ZE,seval,KE,pX,GZ,txO,zDK.eq_1]
  by_cases hjt:j<m.items.length
  ·have f1:=zai hjt;have f2:(m.items.map zaK).getD j []=zaK m.items[j]:=zaa hjt [];have hwj:=zaq (show j<9223372036854775807 by have:=hm.i.2; omega);have hgj:m.items.getD j (zBg 0)=m.items[j]:=by rw[List.getD,wah hjt]; rfl
   have hr:=hm.i.1 _ (wae hjt);obtain⟨V,hV⟩:=zX (zDK m.items j U);have hS3:zDK m.items (j+1) U=wS (⟨#[59,10]⟩:ByteArray) (zCB m.items[j] (wS (⟨#[32,32]⟩:ByteArray) V)):=by rw[<-hV,<-hgj]; rfl
   have p3:=wal (zF2 m.items U (j+1) _ hjt) q7;obtain⟨y,hy2⟩:=zX (m.items[j]);rw[hy2]at f2 hr hS3;rw[hS3]at p3;have p2:=wal (zAw _ _) p3;have p1:=wal (zHR _ _) p2;have ci:=hI y hr _ p2;rw[eItem_n]at f2 ci;rw[hV];simp only[ZE,seval,KE]at f2;simp only[ZE,seval,zaw hjt,f1,f2,waj,KE,pX,GZ,pwL,pwO,txO,zAa];refine EFn.gV [(0,10),(5,5)] (zAv ((⟨#[32,32]⟩:ByteArray)) (V) (p1)) ?_ ?_
   ·simp only[ZE,seval,prO,KE,GZ,pwL,pwO,txO,zAa]
   rintro V ol new ⟨rfl,rfl,rfl⟩;simp only[ZE,seval,prO,KE,GZ,pwL,pwO,txO,zAa];refine EFn.gV [(900,10),(905,5),(7777777,7777777)] (ci) ?_ ?_
   ·simp only[ZE,seval,KE,GZ,pwL,pwO,txO,zAa]
   rintro V ol new ⟨rfl,rfl,rfl⟩;simp only[ZE,seval,KE,GZ,pwL,pwO,txO,zAa];refine EFn.gV [(0,10),(5,5)] (zAv ((⟨#[59,10]⟩:ByteArray)) (zCB y (wS (⟨#[32,32]⟩:ByteArray) V)) (p3)) ?_ ?_
   ·simp only[ZE,seval,prO,KE,GZ,pwL,pwO,txO,zAa]
   rintro V ol new ⟨rfl,rfl,rfl⟩;simp only[ZE,seval,prO,KE,GZ,pwL,pwO,txO,zAa];rw[hS3];exact⟨hjt,by rw[hwj],rfl,rfl⟩
  ·have:j=m.items.length:=by omega
   subst this;simp only[ZE,seval,zaI (wam m.items.length),KE,pX,GZ,pwL,pwO,txO,zAa];refine EFn.gV [(0,10),(5,5)] (zAv ((⟨#[125,10]⟩:ByteArray)) (zDK m.items m.items.length U) (h2)) ?_ ?_
   ·simp only[ZE,seval,prO,KE,GZ,pwL,pwO,txO,zAa]
   rintro V ol new ⟨rfl,rfl,rfl⟩;simp only[ZE,seval,prO,KE,GZ,pwL,pwO,txO,zAa];rw[hS2];exact⟨hlt,by rw[hw],rfl,rfl⟩
 ·have:i=l.length:=by omega
  subst this;obtain⟨W,hW⟩:=zX (zDF l l.length (e0,true));have ht:W.1.size≠0:=by
   obtain⟨n,hn2⟩: ∃n,l.length=n+1:=⟨l.length-1,by omega⟩;rw[hn2]at hW;have:W=zD4 (l.getD n m0) (zDF l n (e0,true)):=hW.symm;rw[this];unfold zD4 wS;simp only[ByteArray.size_append];have:((⟨#[125,10]⟩:ByteArray)).size =2:=rfl;omega
  rw[hW]at h ⊢;have hP:zCl l=if W.2=false\/W.1.size>8000 then(e0,90)else(W.1,0):=by rw[<-hW]; rfl
  obtain⟨x0,hx0,hx1⟩: ∃x0,(if l.length=0 then AV.d (.lit (.pointer none))else .ep 10 1 0 0)=x0/\(x0= .d (.lit (.pointer none))\/x0= .ep 10 1 0 0):=by
   by_cases hz:l.length=0
   ·exact⟨_,rfl,.inl (by rw[if_pos hz])⟩
   ·exact⟨_,rfl,.inr (by rw[if_neg hz])⟩
  rw[hx0];obtain⟨t,ok⟩:=W;cases ok with
  | false=>
   rw[if_pos (.inl rfl)]at hP;simp only[ZE,seval,zaI (wam l.length),KE,pX,hP,GZ,pwL,pwO,txO,zAa];refine⟨[5,10,1999],[],?_⟩;simp only[ZE,seval,zAp.eq_1,zAp.eq_2,zAq.eq_1,zAq.eq_2,GZ,zAj.eq_def,ghK.eq_def,zAi.eq_def,hdH.eq_1,hdH.eq_2,kpH.eq_1,kpH.eq_2,hdl.eq_def,zpC.eq_def,zht,AV.core,GZ,pwL,pwO,txO,zAa,prO];rfl
  | true=>
   obtain⟨y0,hy,hxy⟩: ∃y0,(y0=AV.d (.lit (.pointer none))\/y0= .ep 0 1 0 0)/\((x0= .d (.lit (.pointer none))/\y0= .d (.lit (.pointer none)))\/(x0= .ep 10 1 0 0/\y0= .ep 0 1 0 0)):=by
    rcases hx1 with h | h
    ·exact⟨_,.inl rfl,.inl ⟨h,rfl⟩⟩
    ·exact⟨_,.inr rfl,.inr ⟨h,rfl⟩⟩
   clear hx0;have hren:AV.ren [(0,10),(5,5)] y0=x0:=by rcases hxy with⟨rfl,rfl⟩ | ⟨rfl,rfl⟩ <;> rfl
   have cl:=len_w y0 hy (zAr t) true;rw[zAd]at cl;simp only[ZE,seval,zaI (wam l.length),KE,pX,GZ,pwL,pwO,txO,zAa];refine EFn.gV [(0,10),(5,5)] cl ?_ ?_
   ·rcases hxy with⟨rfl,rfl⟩ | ⟨rfl,rfl⟩
    ·simp only[ZE,seval,prO,KE,GZ,pwL,pwO,txO,zAa]
    ·simp only[ZE,seval,prO,KE,GZ,pwL,pwO,txO,zAa]
   rintro V ol new ⟨rfl,rfl,rfl⟩;by_cases h8:t.size>8000
   ·rw[if_pos (.inr h8)]at hP;have g8:decide ((t.size:Int)>8000)=true:=(by simp; omega);simp only[ZE,seval,prO,hP,g8,hren,KE,GZ,pwL,pwO,txO,zAa];refine⟨[5,10,1999],[],?_⟩;simp only[ZE,seval,zAp.eq_1,zAp.eq_2,zAq.eq_1,zAq.eq_2,GZ,zAj.eq_def,ghK.eq_def,zAi.eq_def,hdH.eq_1,hdH.eq_2,kpH.eq_1,kpH.eq_2,hdl.eq_def,zpC.eq_def,zht,AV.core,GZ,pwL,pwO,txO,zAa,prO];rfl
   ·rw[if_neg (by simp; omega)]at hP;have g8:decide ((t.size:Int)>8000)=false:=(by simp; omega);simp only[ZE,seval,prO,hP,g8,hren,KE,GZ,pwL,pwO,txO,zAa];refine EFn.gV [(0,10),(5,5)] (str_own y0 t ht true) ?_ ?_
    ·rcases hxy with⟨rfl,rfl⟩ | ⟨rfl,rfl⟩
     ·simp only[ZE,seval,prO,KE,GZ,pwL,pwO,txO,zAa]
     ·simp only[ZE,seval,prO,KE,GZ,pwL,pwO,txO,zAa]
    rintro V ol new ⟨rfl,rfl,rfl⟩;simp only[ZE,seval,prO,KE,GZ,pwL,pwO,txO,zAa];refine⟨[1999],[],?_⟩;simp only[ZE,seval,zAp.eq_1,zAp.eq_2,zAq.eq_1,zAq.eq_2,GZ,zAj.eq_def,ghK.eq_def,zAi.eq_def,hdH.eq_1,hdH.eq_2,kpH.eq_1,kpH.eq_2,hdl.eq_def,zpC.eq_def,zht,AV.core,GZ,pwL,pwO,txO,zAa,prO]
set_option maxRecDepth 1000000
set_option maxHeartbeats 2000000
theorem strN_w(w:World)(b:Nat)(cur:Array Value)(hb:w.heap[b]? =some (.cells cur 161 (0,0)))(h1:cur[1]? =some (.slice none 0 0)):
  Calls prog 92 #[.pointer (some ⟨b,0,none⟩)] w fun e w'=>e= .returned (.string ⟨#[]⟩)/\w'=w.drew:=by
 have c1:w.drew.cell? ⟨b,1,none⟩=some (.slice none 0 0):=by
  have:w.drew.heap[b]? =some (.cells cur 161 (0,0)):=hb;rw[Lib.cell_of_heap this]; exact h1
 have hSD:(Builtin.unsafeSliceData_ #[54] 233 #[.slice none 0 0]).run prog w.drew= .ok (.pointer none) w.drew:=rfl;have hUS:(Builtin.unsafeString_ #[233,3] 9 #[.pointer none,.int .i64 0]).run prog w.drew= .ok (.string .empty) w.drew:=Lib.run_unsafeString_none w.drew _ _ _ _;have zat:=zat
 go_enter func92,ntmps92
 go_wp2
 go_region_o
 all_goals (go_wp2; go_ret; exact⟨rfl,rfl⟩)
theorem strN_own(x0 ok:AV):
  FnL prog 92 [.ep 0 1 0 0] [(0,.arr 161 3 (.deep [] [(0,x0),(1,.nils),(2,ok)]) [[.lit undef,.lit undef,.lit undef]])] (fun V ol new=>V= .d (.lit (.string ⟨#[]⟩))/\ol=[]/\new=[]):=by
 refine⟨fun W bs=>zHT bs W,?_⟩;intro W F O0 η S vs hm hO0 hr;obtain⟨O,hO⟩:=zX (om [(0,AO.arr 161 3 (.deep [] [(0,x0),(1,.nils),(2,ok)]) [[.lit undef,.lit undef,.lit undef]])]);rw[hO]at hm hr ⊢;have hO1:O 0=some (.arr 161 3 (.deep [] [(0,x0),(1,.nils),(2,ok)]) [[.lit undef,.lit undef,.lit undef]]):=by rw[<-hO]; simp[om]
 simp only[zaN,zaL]at hr;obtain⟨v0,_,rfl,hv0,rfl⟩:=hr;obtain⟨g0,len,cap0,hη,rfl⟩:=(hv0 _ _ _ _ hO1).2 rfl;obtain⟨d,hd⟩:=zD8 hm hO1 (i:=0) (j:=1) (by simp) (by decide);obtain⟨b,capb,cur,u,sa,s1,sb,q1,q2,q3,q4,q5,q6,q7,_⟩:=zwA hm hO1 (i:=0) (j:=1) (by simp) (by decide) hd;rw[q1]at hη;simp only[Value.slice.injEq,Option.some.injEq,Addr.mk.injEq,and_true]at hη;obtain⟨rfl,_,_⟩:=hη;simp only[Nat.zero_mul,Nat.zero_add,Nat.add_zero]at q4 q7 ⊢;unfold znF at q7;simp only[List.lookup,show((1:Nat)==0)=false from rfl,show((1:Nat)==1)=true from rfl]at q7;obtain⟨q7,_⟩:=q7;simp only[zaL]at q7;subst q7;refine(strN_w W b cur q2 q4).mono ?_;rintro e W' ⟨rfl,rfl⟩;refine⟨_,_,_,[],F,η,fun _=>[],rfl,⟨[],rfl,rfl,rfl,rfl⟩,(fun i hi=>by cases hi),?_,?_,?_⟩
 ·refine⟨rfl,rfl,rfl,wam _,fun _ _ _=>rfl,fun b h=>h,fun b h=>hm.flt b h,hm.fold,?_,fun _ _=>rfl,?_,?_,fun _=>List.nodup_nil,?_,?_,?_⟩
  ·intro id o ho; simp[om]at ho
  ·intro id b hb; simp at hb
  ·intro id id' b hb; simp at hb
  ·intro p hp; simp at hp
  ·intro id lim fam stop l rest ho; simp[om]at ho
  ·intro D hD; simp at hD
 ·rfl
 ·intro j o ho; simp[om]at ho
set_option maxRecDepth 100000
set_option maxHeartbeats 4000000
def prN(x:AV):AO:=.arr 161 3 (.deep [] [(0,x),(1,.nils),(2,.d (eB true))]) [[.lit undef,.lit undef,.lit undef]]
theorem lenN_w:FnL prog 91 [.ep 0 1 0 0] [(0,prN (.d (.lit (.pointer none))))] (fun V ol new=>V= .d (eI 0)/\ol=[(0,prN (.d (.lit (.pointer none))))]/\new=[]):=by
 refine FnL.srt (FnL.of_eH 1999 [.ar 0 1] (own:=[]) (fun _=>[]) [] zat func91 rfl call91 ntmps91 (zle rfl) results91 (by simp[prN,zyk,AO.noRef,AV.noRefs,AV.noRef,zCV,om]) (fun gs=> ?_));simp only[ZE,seval,prN];refine⟨[1999],[],?_⟩;simp only[ZE,seval,zAp.eq_1,zAp.eq_2,zAq.eq_1,zAq.eq_2,GZ,zAj.eq_def,ghK.eq_def,zAi.eq_def,hdH.eq_1,hdH.eq_2,kpH.eq_1,kpH.eq_2,hdl.eq_def,zpC.eq_def,zht,AV.core]
theorem print0_g(Z:GP):
  FnL prog 58 [.d (.agg [zax []])] [(7777777,Z.o)] (fun V ol new=>V= .tup [.d (eSb e0),.d (eI 0)]/\ol=[(7777777,Z.o)]/\new=[]):=by
 refine FnL.srt (FnL.of_eH 1999 [] (own:=[(10,[])]) (fun i=>if i=2020 then []else chL i) [] zat func58 rfl call58 ntmps58 (zle rfl) results58 (zCw Z _ (by simp[AV.noRefs,AV.noRef])) (fun gs=> ?_));have hl:=lenN_w;have hs:=strN_own (.d (.lit (.pointer none))) (.d (eB true));simp only[ZE,seval,KE,wab,wad,GZ];refine za1 (fun i=>if i=2020 then []else chL i) zat 0 (fun _=>True) (fun i=>([(2,.d (.lit (.string e0))),(3,.d (eI 0)),(4,.ep 10 1 0 0),(12,.d (.sl [])),(13,.d (eI 0)),(14,.d (eI i))],[(10,prN (.d (.lit (.pointer none)))),(1999,.gh [] gs),(7777777,Z.o)])) trivial ?_ ?_ (fun i hi _=> ?_)
 ·simp only[ZE,seval,KE,e0]
 ·simp only[ZE,seval,KE,prN,GZ]
 have:i=0:=by omega
 subst this;simp only[ZE,seval,prN,KE,GZ];refine EFn.gV [(0,10)] hl ?_ ?_
 ·simp only[ZE,seval,prN,KE]
 rintro V ol new ⟨rfl,rfl,rfl⟩;simp only[ZE,seval,prN,KE,GZ];refine EFn.gV [(0,10)] hs ?_ ?_
 ·simp only[ZE,seval,prN,KE]
 rintro V ol new ⟨rfl,rfl,rfl⟩;simp only[ZE,seval,prN,KE,GZ];refine⟨[1999],[],?_⟩;simp only[ZE,seval,zAp.eq_1,zAp.eq_2,zAq.eq_1,zAq.eq_2,GZ,zAj.eq_def,ghK.eq_def,zAi.eq_def,hdH.eq_1,hdH.eq_2,kpH.eq_1,kpH.eq_2,hdl.eq_def,zpC.eq_def,zht,AV.core];rfl
theorem print_w(Z:GP)(hZ:Z.Ok)(l:List Module)(hl: ∀m∈l,modR itemR m)(hn:l.length<=1000000)(h:(zDF l l.length (e0,true)).1.size <=LIM):
  FnL prog 58 [.d (.agg [zax l])] [(7777777,Z.o)] (fun V ol new=>V= .tup [.d (eSb (zCl l).1),.d (eI (zCl l).2)]/\ol=[(7777777,Z.o)]/\new=[]):=by
 by_cases hne:l.length=0
 ·have:l=[]:=List.length_eq_zero_iff.1 hne;subst this;exact print0_g Z
 ·exact print_g Z hZ itemR (fun x hx w hw=>item_w Z hZ x hx w hw) l hne hl hn h
end Go.Proofs.YtplfjjgkbnolhaaGreatDoor
