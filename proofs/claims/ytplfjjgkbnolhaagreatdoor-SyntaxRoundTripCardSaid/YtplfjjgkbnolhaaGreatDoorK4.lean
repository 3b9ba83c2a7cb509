/- Contracts and laws. Conditions: those of each. -/
import Derived.Test.YtplfjjgkbnolhaaGreatDoorK3
import Derived.Test.YtplfjjgkbnolhaaGreatDoorGCg
import Derived.Lib.UnsafeStr
import Derived.Test.YtplfjjgkbnolhaaGreatDoorK2
import Derived.Test.YtplfjjgkbnolhaaGreatDoorK1
set_option linter.unusedSimpArgs false
set_option linter.unusedVariables false
open List renaming length_map -> waa, length_append -> wab, map_nil -> wac, length_cons -> wad, map_cons -> wae, map_append -> waf, length_nil -> wag, mem_cons -> wah, take_succ_eq_append_getElem -> wai, getElem_mem -> waj, mem_map -> wak, length_take -> wal, take_of_length_le -> wam, append_assoc -> wan, append_nil -> wao, nil_append -> wap, cons_append -> waq, take_zero -> war
open ByteArray renaming empty -> was
open Int renaming toNat_natCast -> wat
open Nat renaming lt_or_ge -> wau, le_trans -> wav, le_refl -> waw
open Bool renaming and_eq_true -> wax
namespace Go.Proofs.YtplfjjgkbnolhaaGreatDoor
open Go.Aw
open _root_.Go.Proofs.Tryz
set_option maxRecDepth 100000
set_option maxHeartbeats 4000000
theorem len_w(x0:AV)(hx0:x0= .d (.lit (.pointer none))\/x0= .ep 0 1 0 0)(tx:List (List D))(ok:Bool):
  FnL prog 91 [.ep 0 1 0 0] [(0,prO x0 tx.length (.d (eB ok))),(5,txO tx)] (fun V ol new=>V= .d (eI tx.length)/\ol=[(0,prO x0 tx.length (.d (eB ok))),(5,txO tx)]/\new=[]):=by
 refine FnL.srt (FnL.of_eH 1999 [.ar 0 1,.ar 5 tx.length] (own:=[]) (fun _=>[]) [] zat func91 rfl call91 ntmps91 (zle rfl) results91 (zHd x0 hx0 tx (eB ok) _ (by simp[AV.noRefs,AV.noRef])) (fun gs=> ?_));rcases hx0 with rfl | rfl
 ·simp only[ZE,seval,prO,txO];refine⟨[1999],[],?_⟩;simp only[ZE,seval,zAp.eq_1,zAp.eq_2,zAq.eq_1,zAq.eq_2,GZ,zAj.eq_def,ghK.eq_def,zAi.eq_def,hdH.eq_1,hdH.eq_2,kpH.eq_1,kpH.eq_2,hdl.eq_def,zpC.eq_def,zht,AV.core]
 ·simp only[ZE,seval,prO,txO];refine⟨[1999],[],?_⟩;simp only[ZE,seval,zAp.eq_1,zAp.eq_2,zAq.eq_1,zAq.eq_2,GZ,zAj.eq_def,ghK.eq_def,zAi.eq_def,hdH.eq_1,hdH.eq_2,kpH.eq_1,kpH.eq_2,hdl.eq_def,zpC.eq_def,zht,AV.core]
open Go.Aw Go.RowKit
set_option maxRecDepth 1000000
set_option maxHeartbeats 2000000
theorem str_w(w:World)(b g cap:Nat)(cur cur5:Array Value)(l:List UInt8)(hb:w.heap[b]? =some (.cells cur 161 (0,0)))(h1:cur[1]? =some (.slice (some ⟨g,0,none⟩) l.length cap))(hg:w.heap[g]? =some (.cells cur5 5 (0,0)))
  (h0:l≠[]) (hc:l.length<=cap) (hs:cur5.size=cap*1) (hm:cap<=maxLen) (hx: ∀(j:Nat) (x:UInt8),l[j]? =some x->cur5[j]? =some (Value.int IntKind.u8 (x.toNat:Int))):
  Calls prog 92 #[.pointer (some ⟨b,0,none⟩)] w fun e w'=>e= .returned (.string ⟨l.toArray⟩)/\w'=w.drew.freeze ⟨g,0,none⟩ l.length:=by
 have hl0:l.length≠0:=by simpa using h0
 have hcap:cap≠0:=by omega
 have c1:w.drew.cell? ⟨b,1,none⟩=some (.slice (some ⟨g,0,none⟩) l.length cap):=by
  have:w.drew.heap[b]? =some (.cells cur 161 (0,0)):=hb;rw[Lib.cell_of_heap this]; exact h1
 have hSD:(Builtin.unsafeSliceData_ #[54] 233 #[.slice (some ⟨g,0,none⟩) l.length cap]).run prog w.drew= .ok (.pointer (some ⟨g,0,none⟩)) w.drew:=
  Lib.run_unsafeSliceData_row _ _ _ _ _ _ hcap
 have hUS:(Builtin.unsafeString_ #[233,3] 9 #[.pointer (some ⟨g,0,none⟩),.int .i64 l.length]).run prog w.drew= .ok (.string ⟨l.toArray⟩) (w.drew.freeze ⟨g,0,none⟩ l.length):=by
  refine Lib.run_unsafeString_row w.drew 233 3 9 5 (by kernel_rfl) (by kernel_rfl) g cur5.size (by have hg':w.drew.heap[g]? =some (.cells cur5 5 (0,0)):=hg; simp[World.shape?,hg']) l h0 (by omega) (by unfold maxLen at hm; omega) ?_;intro j x hj;have hg':w.drew.heap[g]? =some (.cells cur5 5 (0,0)):=hg;have:=hx j x hj;cases j <;> simp_all [World.cell?,Addr.add]
 have zat:=zat
 go_enter func92,ntmps92
 go_wp2
 go_region_o
 all_goals (go_wp2; go_ret; exact⟨rfl,rfl⟩)
theorem own_lits{W:World}{F:Nat->Prop}: ∀(l:List UInt8) (vs:List Value) (s1:List Nat),Go.Aw.OwnVals (Go.Aw.Own W F []) (l.map fun b=>D.lit (.int .u8 b.toNat)) vs s1->vs=l.map fun b=>Value.int .u8 b.toNat
 | [],vs,s1,h=>by simp only[wac,Go.Aw.OwnVals]at h; exact h.1
 | b::r,vs,s1,h=>by
  simp only[wae,Go.Aw.OwnVals]at h;obtain⟨v,rest,s2,s3,rfl,_,h1,h2⟩:=h;simp only[Go.Aw.Own,Rd]at h1;rw[own_lits r rest s3 h2,h1.1];rfl
theorem zHT(vs:Array Value)(W:World):(callFunc 92 vs).run prog W= .ok (.enter 92 vs) W:=by kernel_rfl
theorem str_own(x0:AV)(s:Bts)(h0:s.size≠0)(ok:Bool):
  FnL prog 92 [.ep 0 1 0 0] [(0,prO x0 s.size (.d (eB ok))),(5,txO (zAr s))] (fun V ol new=>V= .d (.lit (.string s))/\ol=[]/\new=[]):=by
 refine⟨fun W bs=>zHT bs W,?_⟩;intro W F O0 η S vs hm hO0 hr;obtain⟨O,hO⟩:=zX (om [(0,prO x0 s.size (.d (eB ok))),(5,txO (zAr s))]);rw[hO]at hm hr ⊢;have hO1:O 0=some (prO x0 s.size (.d (eB ok))):=by rw[<-hO]; simp[om]
 have hO5:O 5=some (txO (zAr s)):=by rw[<-hO]; simp[om]
 unfold prO at hO1;unfold txO at hO5;simp only[zaN,zaL]at hr;obtain⟨v0,_,rfl,hv0,rfl⟩:=hr;obtain⟨g0,len,cap0,hη,rfl⟩:=(hv0 _ _ _ _ hO1).2 rfl;obtain⟨d,hd⟩:=zD8 hm hO1 (i:=0) (j:=1) (by simp) (by decide);obtain⟨b,capb,cur,u,sa,s1,sb,q1,q2,q3,q4,q5,q6,q7,_⟩:=zwA hm hO1 (i:=0) (j:=1) (by simp) (by decide) hd;rw[q1]at hη;simp only[Value.slice.injEq,Option.some.injEq,Addr.mk.injEq,and_true]at hη;obtain⟨rfl,_,_⟩:=hη;simp only[Nat.zero_mul,Nat.zero_add,Nat.add_zero]at q4 q7 ⊢;unfold znF at q7;simp only[List.lookup,show((1:Nat)==0)=false from rfl,show((1:Nat)==1)=true from rfl]at q7;obtain⟨q7,_⟩:=q7;simp only[zaL]at q7;have q8:=(q7 _ _ _ _ hO5).2 (zAd s).symm;subst q8;obtain⟨_,_,hcase⟩:=hm.obj 5 _ hO5;rcases hcase with⟨_,hes,_⟩ | ⟨g,cap,cur5,s5,p1,p2,p3,p4,p5,p6,p7⟩
 ·have:=zAd s;rw[hes]at this;exact absurd this.symm h0
 have hlen:=zAd s;have hfl:(zAr s).flatten =s.data.toList.map fun b=>D.lit (.int .u8 b.toNat):=by
  unfold zAr
  induction s.data.toList with
  | nil=>rfl
  | cons a r ih=>simp only[wae,List.flatten_cons,ih]; rfl
 rw[hfl]at p7;have hv:=own_lits _ _ _ p7;have hz:s.data.toList.length=s.size:=by rw[Array.length_toList]; rfl
 rw[hlen,Nat.mul_one]at hv;have hcell: ∀(j:Nat) (x:UInt8),s.data.toList[j]? =some x->cur5[j]? =some (Value.int IntKind.u8 (x.toNat:Int)):=by
  intro j x hj;have hlt:j<s.size:=by
   rw[<-hz];exact(List.getElem?_eq_some_iff.1 hj).1
  have:=congrArg (fun l=>l[j]?) hv;simp only[List.getElem?_map,hj,Option.map_some,List.getElem?_take_of_lt hlt]at this;rw[<-this];simp
 rw[hlen]at p1 p3;rw[p1]at q4;have hgS:g∈S 5:=by rw[p6]; simp
 have hgO:=(hm.apart 5 g hgS).2.2;refine(str_w W b g cap cur cur5 s.data.toList q2 (by rw[hz]; exact q4) p2 (by intro e; rw[e]at hz; exact h0 hz.symm) (by rw[hz]; exact p3) p5 p4 hcell).mono ?_;rintro e W' ⟨rfl,rfl⟩;obtain⟨W',hW'⟩:=zX (W.drew.freeze ⟨g,0,none⟩ s.data.toList.length);rw[hW'];have f1:W'.os=W.os:=by rw[<-hW']; unfold World.freeze; split <;> rfl
 have f2:W'.tape=W.tape:=by rw[<-hW']; unfold World.freeze; split <;> rfl
 have f3:W'.output=W.output:=by rw[<-hW']; unfold World.freeze; split <;> rfl
 have f4:W'.heap.size=W.heap.size:=by
  rw[<-hW']; unfold World.freeze;split
  ·rfl
  ·exact Array.size_modify
 have f5: ∀b,b≠g->W'.heap[b]? =W.heap[b]? :=by
  intro b hb;rw[<-hW']; unfold World.freeze;split
  ·rfl
  ·simp only[World.drew,Array.getElem?_modify];rw[if_neg (fun e=>hb e.symm)]
 refine⟨_,_,_,[],F,η,fun _=>[],rfl,⟨[],rfl,rfl,rfl,rfl⟩,(fun i hi=>by cases hi),?_,?_,?_⟩
 ·refine⟨f1,f2,f3,by rw[f4]; exact waw _,?_,fun b h=>h,fun b h=>by rw[f4]; exact hm.flt b h,hm.fold,?_,fun _ _=>rfl,?_,?_,fun _=>List.nodup_nil,?_,?_,?_⟩
  ·intro b hb hn;exact f5 b (fun e=>hn (by subst e; exact hgO hb))
  ·intro id o ho; simp[om]at ho
  ·intro id b hb; simp at hb
  ·intro id id' b hb; simp at hb
  ·intro p hp; simp at hp
  ·intro id lim fam stop l rest ho; simp[om]at ho
  ·intro D hD; simp at hD
 ·show Value.string ⟨s.data.toList.toArray⟩=Value.string s;rw[Array.toArray_toList]
 ·intro j o ho; simp[om]at ho
set_option maxRecDepth 100000
set_option maxHeartbeats 4000000
structure modR (R:Item->Prop) (m:Module):Prop where
 n:m.name.size<=1000000
 c:m.clock.size<=1000000
 p:(∀s∈m.params,s.size<=1000000)/\m.params.length<=1000000
 i:(∀x∈m.items,R x)/\m.items.length<=1000000
def pX(Z:GP)(x0:AV)(w:PW):OL:=[(5,txO (zAr w.1)),(10,.arr 161 3 (.deep [] [(0,x0),(1,.ar 5 w.1.size),(2,.d (eB w.2))]) [[.lit undef,.lit undef,.lit undef]]),(7777777,Z.o)]
theorem eItem_n(x:Item):zaK x=[eI x.kind,eSb x.name,eI x.width.n,eSb x.width.p,eI x.depth.n,eSb x.depth.p,eI x.init.n,eSb x.init.p,eI x.a.op,eSb x.a.name,eI x.a.k.n,eSb x.a.k.p,eI x.a.w.n,eSb x.a.w.p,.sl (x.a.args.map zbx),eI x.b.op,eSb x.b.name,eI x.b.k.n,eSb x.b.k.p,eI x.b.w.n,eSb x.b.w.p,.sl (x.b.args.map zbx),eI x.c.op,eSb x.c.name,eI x.c.k.n,eSb x.c.k.p,eI x.c.w.n,eSb x.c.w.p,.sl (x.c.args.map zbx),eI x.rule.kind,eSb x.rule.from',eI x.rule.n,eSb x.of,ziG x.args,zel x.ports]:=by
 unfold zaK;rw[zb6,zb6,zb6];rfl
theorem write_p0(y0:AV)(hy:y0= .d (.lit (.pointer none))\/y0= .ep 0 1 0 0)(s:Bts)(w:PW)(h:(wS s w).1.size <=LIM):
  FnL prog 87 [.ep 0 1 0 0,.d (.lit (.string s))] [(0,prO y0 w.1.size (.d (eB w.2))),(5,txO (zAr w.1))] (fun V ol new=>V= .tup [.d (eI s.size),.d (.lit .nilIface)]/\ol=[(0,prO (.ep 0 1 0 0) (wS s w).1.size (.d (eB w.2))),(5,txO (zAr (wS s w).1))]/\new=[]):=by
 have hz:(wS s w).1.size =w.1.size+s.size:=by simp[wS,ByteArray.size_append]
 have:=copy_w1 y0 hy (zAr w.1) w.2 s (by rw[zAd]; rw[hz]at h; exact h);rw[zAd]at this;rw[hz,show(wS s w).1 =w.1++s from rfl,zHn];exact this
theorem zHR(x:Item)(w:PW):w.1.size<=(zCB x w).1.size :=by
 unfold zCB;split
 ·exact waw _
 ·refine wav ?_ (size_bodyW _ _)
  repeat' split
  all_goals
   repeat' first
    | with_reducible exact waw _
    | with_reducible refine wav ?_ (zAw _ _)
    | with_reducible refine wav ?_ (zAU _ _)
    | with_reducible refine wav ?_ (zAy _ _)
    | with_reducible exact zEj _ _
theorem zF2(l:List Item)(w:PW): ∀i j,i<=j->(zDK l i w).1.size <=(zDK l j w).1.size :=by
 intro i j hij
 induction j with
 | zero=>
  have:i=0:=by omega
  subst this; exact waw _
 | succ j ih=>
  rcases wau j i with h | h
  ·have:i=j+1:=by omega
   subst this; exact waw _
  ·refine wav (ih h) ?_;exact wav (zAw _ _) (wav (zHR _ _) (zAw _ _))
theorem size_wModule(m:Module)(w:PW):w.1.size<=(zD4 m w).1.size :=
 wav (zAw _ _) (wav (zAy _ _) (wav (zCD zAy _ _ _) (wav (zAw _ _) (wav (zAy _ _) (wav (zAw _ _) (wav (zF2 _ _ 0 _ (Nat.zero_le _)) (zAw _ _)))))))
theorem size_mods(l:List Module)(w:PW): ∀i j,i<=j->(zDF l i w).1.size <=(zDF l j w).1.size :=by
 intro i j hij
 induction j with
 | zero=>
  have:i=0:=by omega
  subst this; exact waw _
 | succ j ih=>
  rcases wau j i with h | h
  ·have:i=j+1:=by omega
   subst this; exact waw _
  ·exact wav (ih h) (size_wModule _ _)
theorem print_g(Z:GP)(hZ:Z.Ok)(R:Item->Prop)(hI: ∀x,R x-> ∀w:PW,(zCB x w).1.size <=LIM->WCon Z 90 [.d (.agg (zaK x))] w (zCB x w) (.tup []))(l:List Module)(hne:l.length≠0)(hl: ∀m∈l,modR R m)(hn:l.length<=1000000)(h:(zDF l l.length (e0,true)).1.size <=LIM):
  FnL prog 58 [.d (.agg [zax l])] [(7777777,Z.o)] (fun V ol new=>V= .tup [.d (eSb (zCl l).1),.d (eI (zCl l).2)]/\ol=[(7777777,Z.o)]/\new=[]):=by
 refine FnL.srt (FnL.of_eH 1999 [] (own:=[(10,[])]) (fun i=>if i=1 then [.adH 10 0 1 5 5 1]else if i=2020 then []else chL i) [] zat func58 rfl call58 ntmps58 (zle rfl) results58 (zCw Z _ (by simp[AV.noRefs,AV.noRef])) (fun gs=> ?_));simp only[ZE,seval,KE,waa,GZ];refine za1 (fun i=>if i=1 then [.adH 10 0 1 5 5 1]else if i=2020 then []else chL i) zat l.length (fun _=>True) (fun i=>([(2,.d (.lit (.string e0))),(3,.d (eI 0)),(4,.ep 10 1 0 0),(12,.d (zax l)),(13,.d (eI l.length)),(14,.d (eI i))],(1999,.gh [] gs)::pX Z (if i=0 then .d (.lit (.pointer none))else .ep 10 1 0 0) (zDF l i (e0,true)))) trivial ?_ ?_ (fun i hi _=> ?_)
 ·simp only[ZE,seval,KE,e0]
 ·simp only[ZE,seval,KE,pX,GZ,txO,zDF.eq_1,if_true];exact⟨rfl,rfl⟩
 by_cases hlt:i<l.length
 ·have e1:=zai hlt;have e2:(l.map zaC).getD i []=[eSb l[i].name,eSb l[i].clock,eSbs l[i].params,zbR l[i].items]:=zaa hlt [];have hw:=zaq (show i<9223372036854775807 by omega);obtain⟨W,hW⟩:=zX (zDF l i (e0,true));have hm:=hl _ (waj hlt);have hg:l.getD i m0=l[i]:=by rw[List.getD,List.getElem?_eq_getElem hlt]; rfl
  have hS2:zDF l (i+1) (e0,true)=zD4 l[i] W:=by rw[<-hW,<-hg]; rfl
  obtain⟨m,hmm⟩:=zX (l[i]);rw[hmm]at e2 hm hS2;have h2:(zD4 m W).1.size <=LIM:=by rw[<-hS2]; exact wav (size_mods l _ _ _ hlt) h
  rw[hW];have hu:zD4 m W=wS (⟨#[125,10]⟩:ByteArray) (zDK m.items m.items.length (wS (⟨#[32,123,10]⟩:ByteArray) (zAu m.clock (wS (⟨#[32,64,32]⟩:ByteArray) (zCv zAu e0 m.params (zAu m.name (wS (⟨#[109,111,100,117,108,101,32]⟩:ByteArray) W))))))):=rfl;rw[hu]at h2 hS2;have q7:=wav (zAw _ _) h2;have q6:(wS (⟨#[32,123,10]⟩:ByteArray) (zAu m.clock (wS (⟨#[32,64,32]⟩:ByteArray) (zCv zAu e0 m.params (zAu m.name (wS (⟨#[109,111,100,117,108,101,32]⟩:ByteArray) W)))))).1.size <=LIM:=wav (zF2 m.items _ _ _ (Nat.zero_le _)) q7;have q5:=wav (zAw _ _) q6;have q4:=wav (zAy _ _) q5;have q3:=wav (zAw _ _) q4;have q2:=wav (zCD zAy _ _ _) q3;have q1:=wav (zAy _ _) q2;obtain⟨x0,hx0,hx1⟩: ∃x0,(if i=0 then AV.d (.lit (.pointer none))else .ep 10 1 0 0)=x0/\(x0= .d (.lit (.pointer none))\/x0= .ep 10 1 0 0):=by
   by_cases hz:i=0
   ·exact⟨_,rfl,.inl (by rw[if_pos hz])⟩
   ·exact⟨_,rfl,.inr (by rw[if_neg hz])⟩
  rw[hx0];simp only[ZE,seval,KE]at e2;simp only[ZE,seval,zaw hlt,e1,e2,wat,KE,pX,GZ,pwL,pwO,txO,zAa];obtain⟨y0,hy,hxy⟩: ∃y0,(y0=AV.d (.lit (.pointer none))\/y0= .ep 0 1 0 0)/\((x0= .d (.lit (.pointer none))/\y0= .d (.lit (.pointer none)))\/(x0= .ep 10 1 0 0/\y0= .ep 0 1 0 0)):=by
   rcases hx1 with h | h
   ·exact⟨_,.inl rfl,.inl ⟨h,rfl⟩⟩
   ·exact⟨_,.inr rfl,.inr ⟨h,rfl⟩⟩
  refine⟨by rcases hx1 with rfl | rfl <;> simp[AV.noRef],?_⟩;clear hx0;refine EFn.gV [(0,10),(5,5)] (write_p0 y0 hy (⟨#[109,111,100,117,108,101,32]⟩:ByteArray) W q1) ?_ ?_
  ·rcases hxy with⟨rfl,rfl⟩ | ⟨rfl,rfl⟩
   ·simp only[ZE,seval,prO,KE,GZ,pwL,pwO,txO,zAa]
   ·simp only[ZE,seval,prO,KE,GZ,pwL,pwO,txO,zAa]
  rintro V ol new ⟨rfl,rfl,rfl⟩;simp only[ZE,seval,prO,KE,GZ,pwL,pwO,txO,zAa];refine EFn.gV [(900,10),(905,5),(7777777,7777777)] (zBP Z hZ m.name hm.n _ q2) ?_ ?_
  ·simp only[ZE,seval,KE,GZ,pwL,pwO,txO,zAa]
  rintro V ol new ⟨rfl,rfl,rfl⟩;simp only[ZE,seval,KE,GZ,pwL,pwO,txO,zAa];refine EFn.gV [(900,10),(905,5),(7777777,7777777)] (listS_w Z hZ m.params hm.p.1 hm.p.2 _ q3) ?_ ?_
  ·simp only[ZE,seval,KE,GZ,pwL,pwO,txO,zAa]
  rintro V ol new ⟨rfl,rfl,rfl⟩;simp only[ZE,seval,KE,GZ,pwL,pwO,txO,zAa];refine EFn.gV [(0,10),(5,5)] (zAv ((⟨#[32,64,32]⟩:ByteArray)) (zCv zAu e0 m.params (zAu m.name (wS (⟨#[109,111,100,117,108,101,32]⟩:ByteArray) W))) (q4)) ?_ ?_
  ·simp only[ZE,seval,prO,KE,GZ,pwL,pwO,txO,zAa]
  rintro V ol new ⟨rfl,rfl,rfl⟩;simp only[ZE,seval,prO,KE,GZ,pwL,pwO,txO,zAa];refine EFn.gV [(900,10),(905,5),(7777777,7777777)] (zBP Z hZ m.clock hm.c _ q5) ?_ ?_
  ·simp only[ZE,seval,KE,GZ,pwL,pwO,txO,zAa]
  rintro V ol new ⟨rfl,rfl,rfl⟩;simp only[ZE,seval,KE,GZ,pwL,pwO,txO,zAa];refine EFn.gV [(0,10),(5,5)] (zAv ((⟨#[32,123,10]⟩:ByteArray)) (zAu m.clock (wS (⟨#[32,64,32]⟩:ByteArray) (zCv zAu e0 m.params (zAu m.name (wS (⟨#[109,111,100,117,108,101,32]⟩:ByteArray) W))))) (q6)) ?_ ?_
  ·simp only[ZE,seval,prO,KE,GZ,pwL,pwO,txO,zAa]
  rintro V ol new ⟨rfl,rfl,rfl⟩;simp only[ZE,seval,prO,KE,GZ,pwL,pwO,txO,zAa];obtain⟨U,hU⟩:=zX (wS (⟨#[32,123,10]⟩:ByteArray) (zAu m.clock (wS (⟨#[32,64,32]⟩:ByteArray) (zCv zAu e0 m.params (zAu m.name (wS (⟨#[109,111,100,117,108,101,32]⟩:ByteArray) W))))));have hUs:(zAu m.clock (wS (⟨#[32,64,32]⟩:ByteArray) (zCv zAu e0 m.params (zAu m.name (wS (⟨#[109,111,100,117,108,101,32]⟩:ByteArray) W))))).2 =U.2:=by rw[<-hU]; rfl
  rw[hU]at hS2 h2 q7;rw[hU,hUs];refine za1 (fun i=>if i=1 then [.adH 10 0 1 5 5 1]else if i=2020 then []else chL i) zat m.items.length (fun _=>True) (fun j=>([(2,.d (.lit (.string e0))),(3,.d (eI 0)),(4,.ep 10 1 0 0),(12,.d (zax l)),(13,.d (eI l.length)),(14,.d (eI i)),(45,.d (zbR m.items)),(46,.d (eI m.items.length)),(47,.d (eI j))],(1999,.gh [] gs)::(6,.box [.d (eSb m.name),.d (eSb m.clock),.d (eSbs m.params),.d (zbR m.items)])::pX Z (.ep 10 1 0 0) (zDK m.items j U))) trivial ?_ ?_ (fun j hj _=> ?_)
  ·simp only[ZE,seval,KE,e0]
  ·simp only[ZE,seval,KE,pX,GZ,txO,zDK.eq_1]
  by_cases hjt:j<m.items.length
  ·have f1:=zai hjt;have f2:(m.items.map zaK).getD j []=zaK m.items[j]:=zaa hjt [];have hwj:=zaq (show j<9223372036854775807 by have:=hm.i.2; omega);have hgj:m.items.getD j (zBg 0)=m.items[j]:=by rw[List.getD,List.getElem?_eq_getElem hjt]; rfl
   have hr:=hm.i.1 _ (waj hjt);obtain⟨V,hV⟩:=zX (zDK m.items j U);have hS3:zDK m.items (j+1) U=wS (⟨#[59,10]⟩:ByteArray) (zCB m.items[j] (wS (⟨#[32,32]⟩:ByteArray) V)):=by rw[<-hV,<-hgj]; rfl
   have p3:=wav (zF2 m.items U (j+1) _ hjt) q7;obtain⟨y,hy2⟩:=zX (m.items[j]);rw[hy2]at f2 hr hS3;rw[hS3]at p3;have p2:=wav (zAw _ _) p3;have p1:=wav (zHR _ _) p2;have ci:=hI y hr _ p2;rw[eItem_n]at f2 ci;rw[hV];simp only[ZE,seval,KE]at f2;simp only[ZE,seval,zaw hjt,f1,f2,wat,KE,pX,GZ,pwL,pwO,txO,zAa];refine EFn.gV [(0,10),(5,5)] (zAv ((⟨#[32,32]⟩:ByteArray)) (V) (p1)) ?_ ?_
   ·simp only[ZE,seval,prO,KE,GZ,pwL,pwO,txO,zAa]
   rintro V ol new ⟨rfl,rfl,rfl⟩;simp only[ZE,seval,prO,KE,GZ,pwL,pwO,txO,zAa];refine EFn.gV [(900,10),(905,5),(7777777,7777777)] (ci) ?_ ?_
   ·simp only[ZE,seval,KE,GZ,pwL,pwO,txO,zAa]
   rintro V ol new ⟨rfl,rfl,rfl⟩;simp only[ZE,seval,KE,GZ,pwL,pwO,txO,zAa];refine EFn.gV [(0,10),(5,5)] (zAv ((⟨#[59,10]⟩:ByteArray)) (zCB y (wS (⟨#[32,32]⟩:ByteArray) V)) (p3)) ?_ ?_
   ·simp only[ZE,seval,prO,KE,GZ,pwL,pwO,txO,zAa]
   rintro V ol new ⟨rfl,rfl,rfl⟩;simp only[ZE,seval,prO,KE,GZ,pwL,pwO,txO,zAa];rw[hS3];exact⟨hjt,by rw[hwj],rfl,rfl⟩
  ·have:j=m.items.length:=by omega
   subst this;simp only[ZE,seval,zaI (waw m.items.length),KE,pX,GZ,pwL,pwO,txO,zAa];refine EFn.gV [(0,10),(5,5)] (zAv ((⟨#[125,10]⟩:ByteArray)) (zDK m.items m.items.length U) (h2)) ?_ ?_
   ·simp only[ZE,seval,prO,KE,GZ,pwL,pwO,txO,zAa]
   rintro V ol new ⟨rfl,rfl,rfl⟩;simp only[ZE,seval,prO,KE,GZ,pwL,pwO,txO,zAa];rw[hS2];exact⟨hlt,by rw[hw],rfl,rfl⟩
 ·have:i=l.length:=by omega
  subst this;obtain⟨W,hW⟩:=zX (zDF l l.length (e0,true));have ht:W.1.size≠0:=by
   obtain⟨n,hn2⟩: ∃n,l.length=n+1:=⟨l.length-1,by omega⟩;rw[hn2]at hW;have:W=zD4 (l.getD n m0) (zDF l n (e0,true)):=hW.symm;rw[this];unfold zD4 wS;simp only[ByteArray.size_append];have:((⟨#[125,10]⟩:ByteArray)).size =2:=rfl;omega
  rw[hW]at h ⊢;have hP:zCl l=if W.2=false\/W.1.size>8000 then(e0,90)else(W.1,0):=by rw[<-hW]; rfl
  obtain⟨x0,hx0,hx1⟩: ∃x0,(if l.length=0 then AV.d (.lit (.pointer none))else .ep 10 1 0 0)=x0/\(x0= .d (.lit (.pointer none))\/x0= .ep 10 1 0 0):=by
   by_cases hz:l.length=0
   ·exact⟨_,rfl,.inl (by rw[if_pos hz])⟩
   ·exact⟨_,rfl,.inr (by rw[if_neg hz])⟩
  rw[hx0];obtain⟨t,ok⟩:=W;cases ok with
  | false=>
   rw[if_pos (.inl rfl)]at hP;simp only[ZE,seval,zaI (waw l.length),KE,pX,hP,GZ,pwL,pwO,txO,zAa];refine⟨[5,10,1999],[],?_⟩;simp only[ZE,seval,zAp.eq_1,zAp.eq_2,zAq.eq_1,zAq.eq_2,GZ,zAj.eq_def,ghK.eq_def,zAi.eq_def,hdH.eq_1,hdH.eq_2,kpH.eq_1,kpH.eq_2,hdl.eq_def,zpC.eq_def,zht,AV.core,GZ,pwL,pwO,txO,zAa,prO];rfl
  | true=>
   obtain⟨y0,hy,hxy⟩: ∃y0,(y0=AV.d (.lit (.pointer none))\/y0= .ep 0 1 0 0)/\((x0= .d (.lit (.pointer none))/\y0= .d (.lit (.pointer none)))\/(x0= .ep 10 1 0 0/\y0= .ep 0 1 0 0)):=by
    rcases hx1 with h | h
    ·exact⟨_,.inl rfl,.inl ⟨h,rfl⟩⟩
    ·exact⟨_,.inr rfl,.inr ⟨h,rfl⟩⟩
   clear hx0;have hren:AV.ren [(0,10),(5,5)] y0=x0:=by rcases hxy with⟨rfl,rfl⟩ | ⟨rfl,rfl⟩ <;> rfl
   have cl:=len_w y0 hy (zAr t) true;rw[zAd]at cl;simp only[ZE,seval,zaI (waw l.length),KE,pX,GZ,pwL,pwO,txO,zAa];refine EFn.gV [(0,10),(5,5)] cl ?_ ?_
   ·rcases hxy with⟨rfl,rfl⟩ | ⟨rfl,rfl⟩
    ·simp only[ZE,seval,prO,KE,GZ,pwL,pwO,txO,zAa]
    ·simp only[ZE,seval,prO,KE,GZ,pwL,pwO,txO,zAa]
   rintro V ol new ⟨rfl,rfl,rfl⟩;by_cases h8:t.size>8000
   ·rw[if_pos (.inr h8)]at hP;have g8:decide ((t.size:Int)>8000)=true:=(by simp; omega);simp only[ZE,seval,prO,hP,g8,hren,KE,GZ,pwL,pwO,txO,zAa];refine⟨[5,10,1999],[],?_⟩;simp only[ZE,seval,zAp.eq_1,zAp.eq_2,zAq.eq_1,zAq.eq_2,GZ,zAj.eq_def,ghK.eq_def,zAi.eq_def,hdH.eq_1,hdH.eq_2,kpH.eq_1,kpH.eq_2,hdl.eq_def,zpC.eq_def,zht,AV.core,GZ,pwL,pwO,txO,zAa,prO];rfl
   ·rw[if_neg (by simp; omega)]at hP;have g8:decide ((t.size:Int)>8000)=false:=(by simp; omega);simp only[ZE,seval,prO,hP,g8,hren,KE,GZ,pwL,pwO,txO,zAa];refine EFn.gV [(0,10),(5,5)] (str_own y0 t ht true) ?_ ?_
    ·rcases hxy with⟨rfl,rfl⟩ | ⟨rfl,rfl⟩
     ·simp only[ZE,seval,prO,KE,GZ,pwL,pwO,txO,zAa]
     ·simp only[ZE,seval,prO,KE,GZ,pwL,pwO,txO,zAa]
    rintro V ol new ⟨rfl,rfl,rfl⟩;simp only[ZE,seval,prO,KE,GZ,pwL,pwO,txO,zAa];refine⟨[1999],[],?_⟩;simp only[ZE,seval,zAp.eq_1,zAp.eq_2,zAq.eq_1,zAq.eq_2,GZ,zAj.eq_def,ghK.eq_def,zAi.eq_def,hdH.eq_1,hdH.eq_2,kpH.eq_1,kpH.eq_2,hdl.eq_def,zpC.eq_def,zht,AV.core,GZ,pwL,pwO,txO,zAa,prO]
set_option maxRecDepth 1000000
set_option maxHeartbeats 2000000
theorem strN_w(w:World)(b:Nat)(cur:Array Value)(hb:w.heap[b]? =some (.cells cur 161 (0,0)))(h1:cur[1]? =some (.slice none 0 0)):
  Calls prog 92 #[.pointer (some ⟨b,0,none⟩)] w fun e w'=>e= .returned (.string ⟨#[]⟩)/\w'=w.drew:=by
 have c1:w.drew.cell? ⟨b,1,none⟩=some (.slice none 0 0):=by
  have:w.drew.heap[b]? =some (.cells cur 161 (0,0)):=hb;rw[Lib.cell_of_heap this]; exact h1
 have hSD:(Builtin.unsafeSliceData_ #[54] 233 #[.slice none 0 0]).run prog w.drew= .ok (.pointer none) w.drew:=rfl;have hUS:(Builtin.unsafeString_ #[233,3] 9 #[.pointer none,.int .i64 0]).run prog w.drew= .ok (.string .empty) w.drew:=Lib.run_unsafeString_none w.drew _ _ _ _;have zat:=zat
 go_enter func92,ntmps92
 go_wp2
 go_region_o
 all_goals (go_wp2; go_ret; exact⟨rfl,rfl⟩)
theorem strN_own(x0 ok:AV):
  FnL prog 92 [.ep 0 1 0 0] [(0,.arr 161 3 (.deep [] [(0,x0),(1,.nils),(2,ok)]) [[.lit undef,.lit undef,.lit undef]])] (fun V ol new=>V= .d (.lit (.string ⟨#[]⟩))/\ol=[]/\new=[]):=by
 refine⟨fun W bs=>zHT bs W,?_⟩;intro W F O0 η S vs hm hO0 hr;obtain⟨O,hO⟩:=zX (om [(0,AO.arr 161 3 (.deep [] [(0,x0),(1,.nils),(2,ok)]) [[.lit undef,.lit undef,.lit undef]])]);rw[hO]at hm hr ⊢;have hO1:O 0=some (.arr 161 3 (.deep [] [(0,x0),(1,.nils),(2,ok)]) [[.lit undef,.lit undef,.lit undef]]):=by rw[<-hO]; simp[om]
 simp only[zaN,zaL]at hr;obtain⟨v0,_,rfl,hv0,rfl⟩:=hr;obtain⟨g0,len,cap0,hη,rfl⟩:=(hv0 _ _ _ _ hO1).2 rfl;obtain⟨d,hd⟩:=zD8 hm hO1 (i:=0) (j:=1) (by simp) (by decide);obtain⟨b,capb,cur,u,sa,s1,sb,q1,q2,q3,q4,q5,q6,q7,_⟩:=zwA hm hO1 (i:=0) (j:=1) (by simp) (by decide) hd;rw[q1]at hη;simp only[Value.slice.injEq,Option.some.injEq,Addr.mk.injEq,and_true]at hη;obtain⟨rfl,_,_⟩:=hη;simp only[Nat.zero_mul,Nat.zero_add,Nat.add_zero]at q4 q7 ⊢;unfold znF at q7;simp only[List.lookup,show((1:Nat)==0)=false from rfl,show((1:Nat)==1)=true from rfl]at q7;obtain⟨q7,_⟩:=q7;simp only[zaL]at q7;subst q7;refine(strN_w W b cur q2 q4).mono ?_;rintro e W' ⟨rfl,rfl⟩;refine⟨_,_,_,[],F,η,fun _=>[],rfl,⟨[],rfl,rfl,rfl,rfl⟩,(fun i hi=>by cases hi),?_,?_,?_⟩
 ·refine⟨rfl,rfl,rfl,waw _,fun _ _ _=>rfl,fun b h=>h,fun b h=>hm.flt b h,hm.fold,?_,fun _ _=>rfl,?_,?_,fun _=>List.nodup_nil,?_,?_,?_⟩
  ·intro id o ho; simp[om]at ho
  ·intro id b hb; simp at hb
  ·intro id id' b hb; simp at hb
  ·intro p hp; simp at hp
  ·intro id lim fam stop l rest ho; simp[om]at ho
  ·intro D hD; simp at hD
 ·rfl
 ·intro j o ho; simp[om]at ho
set_option maxRecDepth 100000
set_option maxHeartbeats 4000000
def prN(x:AV):AO:=.arr 161 3 (.deep [] [(0,x),(1,.nils),(2,.d (eB true))]) [[.lit undef,.lit undef,.lit undef]]
theorem lenN_w:FnL prog 91 [.ep 0 1 0 0] [(0,prN (.d (.lit (.pointer none))))] (fun V ol new=>V= .d (eI 0)/\ol=[(0,prN (.d (.lit (.pointer none))))]/\new=[]):=by
 refine FnL.srt (FnL.of_eH 1999 [.ar 0 1] (own:=[]) (fun _=>[]) [] zat func91 rfl call91 ntmps91 (zle rfl) results91 (by simp[prN,zyk,AO.noRef,AV.noRefs,AV.noRef,zCV,om]) (fun gs=> ?_));simp only[ZE,seval,prN];refine⟨[1999],[],?_⟩;simp only[ZE,seval,zAp.eq_1,zAp.eq_2,zAq.eq_1,zAq.eq_2,GZ,zAj.eq_def,ghK.eq_def,zAi.eq_def,hdH.eq_1,hdH.eq_2,kpH.eq_1,kpH.eq_2,hdl.eq_def,zpC.eq_def,zht,AV.core]
theorem print0_g(Z:GP):
  FnL prog 58 [.d (.agg [zax []])] [(7777777,Z.o)] (fun V ol new=>V= .tup [.d (eSb e0),.d (eI 0)]/\ol=[(7777777,Z.o)]/\new=[]):=by
 refine FnL.srt (FnL.of_eH 1999 [] (own:=[(10,[])]) (fun i=>if i=2020 then []else chL i) [] zat func58 rfl call58 ntmps58 (zle rfl) results58 (zCw Z _ (by simp[AV.noRefs,AV.noRef])) (fun gs=> ?_));have hl:=lenN_w;have hs:=strN_own (.d (.lit (.pointer none))) (.d (eB true));simp only[ZE,seval,KE,wac,wag,GZ];refine za1 (fun i=>if i=2020 then []else chL i) zat 0 (fun _=>True) (fun i=>([(2,.d (.lit (.string e0))),(3,.d (eI 0)),(4,.ep 10 1 0 0),(12,.d (.sl [])),(13,.d (eI 0)),(14,.d (eI i))],[(10,prN (.d (.lit (.pointer none)))),(1999,.gh [] gs),(7777777,Z.o)])) trivial ?_ ?_ (fun i hi _=> ?_)
 ·simp only[ZE,seval,KE,e0]
 ·simp only[ZE,seval,KE,prN,GZ]
 have:i=0:=by omega
 subst this;simp only[ZE,seval,prN,KE,GZ];refine EFn.gV [(0,10)] hl ?_ ?_
 ·simp only[ZE,seval,prN,KE]
 rintro V ol new ⟨rfl,rfl,rfl⟩;simp only[ZE,seval,prN,KE,GZ];refine EFn.gV [(0,10)] hs ?_ ?_
 ·simp only[ZE,seval,prN,KE]
 rintro V ol new ⟨rfl,rfl,rfl⟩;simp only[ZE,seval,prN,KE,GZ];refine⟨[1999],[],?_⟩;simp only[ZE,seval,zAp.eq_1,zAp.eq_2,zAq.eq_1,zAq.eq_2,GZ,zAj.eq_def,ghK.eq_def,zAi.eq_def,hdH.eq_1,hdH.eq_2,kpH.eq_1,kpH.eq_2,hdl.eq_def,zpC.eq_def,zht,AV.core];rfl
theorem print_w(Z:GP)(hZ:Z.Ok)(l:List Module)(hl: ∀m∈l,modR itemR m)(hn:l.length<=1000000)(h:(zDF l l.length (e0,true)).1.size <=LIM):
  FnL prog 58 [.d (.agg [zax l])] [(7777777,Z.o)] (fun V ol new=>V= .tup [.d (eSb (zCl l).1),.d (eI (zCl l).2)]/\ol=[(7777777,Z.o)]/\new=[]):=by
 by_cases hne:l.length=0
 ·have:l=[]:=List.length_eq_zero_iff.1 hne;subst this;exact print0_g Z
 ·exact print_g Z hZ itemR (fun x hx w hw=>item_w Z hZ x hx w hw) l hne hl hn h
section
variable {T:List Tok} {a:Nat}
theorem zAl{n m k:Nat}{s:Bts}(h:tkP T n k s)(e:n=m):tkP T m k s:=e▸h
theorem zAz{n m:Nat}{p:List Pc}(h:At T n p)(e:n=m):At T m p:=e▸h
theorem zAK{α β:Type}{r:PR α}{f:α->Nat->PR β}{x:α}{b:Nat}{z:PR β}(h:r= .ok (x,b))(h2:f x b=z):r.bd f=z:=by rw[h]; exact h2
theorem zBy{α:Type}{x y:α}{n m:Nat}(h:x=y)(e:n=m):(Except.ok (x,n):PR α)= .ok (y,m):=by rw[h,e]
theorem tkP_lt{k:Nat}{s:Bts}(h:tkP T a k s)(hk:k≠0):a<T.length:=by
 rcases wau a T.length with h1 | h1
 ·exact h1
 ·exfalso;have:=h.1;unfold tk at this;rw[List.getD,List.getElem?_eq_none h1]at this;exact hk this.symm
theorem At_lt: ∀(p:List Pc) (a:Nat),At T a p->0<nT p->a+nT p<=T.length
 | [],_,_,h=>by simp[nT]at h
 | x::r,a,h,hn=>by
  simp only[At,nT]at h hn ⊢;by_cases hx:x.1=0
  ·simp only[hx,if_true]at h hn ⊢;exact At_lt r a h hn
  ·simp only[hx,if_false]at h hn ⊢;have h1:=tkP_lt (k:=x.1) (s:=x.2.1 |> fun _=>x.2) ⟨h.1,h.2.1⟩ hx;rcases Nat.eq_zero_or_pos (nT r)with h0 | h0
   ·omega
   ·have:=At_lt r (a+1) h.2.2 h0;omega
theorem rule_f{r:Rule}(hr:zBZ r=true)(h:At T a (zBk r)):zEm T a= .ok (r,a+nT (zBk r)):=by
 obtain⟨k,f,n⟩:=r;unfold zBZ at hr;simp only[wax,Bool.or_eq_true,decide_eq_true_eq]at hr;obtain⟨⟨h1,h2⟩,hr⟩:=hr;unfold zBk at h ⊢;simp only at h ⊢;have l0:zFX.lookup (⟨#[105,110,105,116]⟩:ByteArray)=some 0:=by decide
 have l1:zFX.lookup (⟨#[107,101,101,112]⟩:ByteArray)=some 1:=by decide
 have l2:zFX.lookup (⟨#[99,111,112,121]⟩:ByteArray)=some 2:=by decide
 have l3:zFX.lookup (⟨#[97,100,100]⟩:ByteArray)=some 3:=by decide
 unfold zEm;by_cases h0:k=0
 ·rw[if_pos h0]at h ⊢;simp only[AtW,waq,wap,and_true,true_and,Nat.zero_add,Nat.add_zero]at h ⊢;rw[if_neg (by rw[h.1]; simp),h.2,l0];have e1:f=e0:=by rcases h1 with h1 | h1; exact h1; omega
  have e2:n=0:=by rcases h2 with h2 | h2; exact h2; omega
  simp[h0,e1,e2]
 rw[if_neg h0]at hr h ⊢;by_cases h1':k=1
 ·rw[if_pos h1']at h ⊢;simp only[AtW,waq,wap,and_true,true_and,Nat.zero_add,Nat.add_zero]at h ⊢;rw[if_neg (by rw[h.1]; simp),h.2,l1];have e1:f=e0:=by rcases h1 with h1 | h1; exact h1; omega
  have e2:n=0:=by rcases h2 with h2 | h2; exact h2; omega
  simp[h1',e1,e2]
 rw[if_neg h1']at hr h ⊢;by_cases h2':k=2
 ·rw[if_pos h2']at hr h ⊢;simp only[AtW,waq,wap,and_true,true_and,Nat.zero_add,Nat.add_zero]at h ⊢;obtain⟨g1,g2⟩:=h;rw[if_neg (by rw[g1.1]; simp),g1.2,l2];simp only[];rw[zBY g2 hr];have e2:n=0:=by rcases h2 with h2 | h2; exact h2; omega
  simp[h2',e2]
 rw[if_neg h2']at hr h ⊢;by_cases h3:k=3
 ·rw[if_pos h3,wax]at hr;simp only[AtW,waq,wap,and_true,true_and,Nat.zero_add,Nat.add_zero]at h ⊢;obtain⟨g1,g2,g3⟩:=h;rw[if_neg (by rw[g1.1]; simp),g1.2,l3];simp only[];rw[zBY g2 hr.1];simp only[PR.bd_ok];have:=hr.2;simp only[zCf,wax,decide_eq_true_eq]at this;rw[zGJ g3 hr.2 (by omega)];simp[h3]
 ·rw[if_neg h3]at hr; cases hr
def zBK{α:Type}(pc:α->List Pc):List α->List Pc
 | []=>[]
 | x::r=>sg (⟨#[44]⟩:ByteArray)::bl::(pc x++zBK pc r)
theorem zEe{α:Type}(pc:α->List Pc): ∀(x:α) (r:List α),zBU pc (x::r)=pc x++zBK pc r
 | x,[]=>by simp[zBU,zBK]
 | x,y::r=>by
  have:=zEe pc y r;simp only[zBU,zBK,this]
def zeZ(T:List Tok)(b:Nat):Prop:=tkP T b 3 (⟨#[44]⟩:ByteArray)\/tkP T b 3 (⟨#[41]⟩:ByteArray)
theorem rest_ends{α:Type}(pc:α->List Pc)(l:List α)(h:At T a (zBK pc l++[sg (⟨#[41]⟩:ByteArray)])):zeZ T a:=by
 cases l with
 | nil=>simp only[zBK,AtW,waq,wap,and_true,true_and,Nat.zero_add,Nat.add_zero]at h; exact .inr h
 | cons x r=>simp only[zBK,AtW,waq,wap,and_true,true_and,Nat.zero_add,Nat.add_zero]at h; exact .inl h.1
theorem rest_f{α:Type}{one:Nat->PR α}{fit:α->Bool}{pc:α->List Pc}(ho: ∀x a,fit x=true->At T a (pc x)->zeZ T (a+nT (pc x))->one a= .ok (x,a+nT (pc x))):
  ∀(l:List α) (n:Nat) (acc:List α) (a:Nat),l.length<n->l.all fit=true->At T a (zBK pc l++[sg (⟨#[41]⟩:ByteArray)])->zDB one T n acc a= .ok (acc++l,a+nT (zBK pc l)+1)
 | [],n+1,acc,a,_,_,h=>by
  simp only[zBK,AtW,waq,wap,and_true,true_and,Nat.zero_add,Nat.add_zero]at h;unfold zDB;rw[if_neg (by rw[zBa h (by decide)]; decide),zA0 h];simp[zBK,nT]
 | x::r,n+1,acc,a,hn,hl,h=>by
  rw[List.all_cons,wax]at hl;simp only[zBK,AtW,waq,wap,and_true,true_and,Nat.zero_add,Nat.add_zero]at h;obtain⟨g1,⟨g2,g3⟩,g4⟩:=h;have h2:At T (a+1+nT (pc x)) (zBK pc r++[sg (⟨#[41]⟩:ByteArray)]):=by
   simp only[AtW,waq,wap,and_true,true_and,Nat.zero_add,Nat.add_zero];exact⟨g3,zAl g4 (by omega)⟩
  unfold zDB;rw[if_pos (zB1 g1),ho x (a+1) hl.1 g2 (rest_ends pc r h2)];simp only[PR.bd_ok];rw[rest_f ho r n _ _ (by simpa using hn) hl.2 h2];simp only[wan,waq,wap,zBK,AtW,waq,wap,and_true,true_and,Nat.zero_add,Nat.add_zero,Except.ok.injEq,Prod.mk.injEq];omega
theorem list_f{α:Type}{one:Nat->PR α}{fit:α->Bool}{pc:α->List Pc}(ho: ∀x a,fit x=true->At T a (pc x)->zeZ T (a+nT (pc x))->one a= .ok (x,a+nT (pc x)))
  (hp: ∀x a,fit x=true->At T a (pc x)->isT T a 3 (⟨#[41]⟩:ByteArray)=false) {l:List α} (hl:l.all fit=true) (h:At T a (zA5 pc l)):zDg one T a= .ok (l,a+nT (zA5 pc l)):=by
 unfold zA5 at h ⊢;simp only[AtW,waq,wap,and_true,true_and,Nat.zero_add,Nat.add_zero]at h ⊢;obtain⟨g1,g2,g3⟩:=h;unfold zDg;rw[zA0 g1];simp only[PR.bd_ok];cases l with
 | nil=>
  simp only[zBU,AtW,waq,wap,and_true,true_and,Nat.zero_add,Nat.add_zero]at g3 ⊢;rw[if_pos (zB1 g3)]
 | cons x r=>
  rw[zEe]at g2 g3 ⊢;rw[List.all_cons,wax]at hl;simp only[AtW,waq,wap,and_true,true_and,Nat.zero_add,Nat.add_zero]at g2 g3 ⊢;obtain⟨g2,g4⟩:=g2;have h2:At T (a+1+nT (pc x)) (zBK pc r++[sg (⟨#[41]⟩:ByteArray)]):=by
   simp only[AtW,waq,wap,and_true,true_and,Nat.zero_add,Nat.add_zero];exact⟨g4,by rw[show a+1+nT (pc x)+nT (zBK pc r)=a+1+(nT (pc x)+nT (zBK pc r)) by omega]; exact g3⟩
  have hlen:r.length<T.length:=by
   have h3:=At_lt _ _ h2 (by simp only[AtW,waq,wap,and_true,true_and,Nat.zero_add,Nat.add_zero]; omega);have: ∀r:List α,r.length<=nT (zBK pc r):=by
    intro r
    induction r with
    | nil=>exact Nat.zero_le _
    | cons y r ih=>simp only[zBK,AtW,waq,wap,and_true,true_and,Nat.zero_add,Nat.add_zero,wad]; omega
   have:=this r;simp only[AtW,waq,wap,and_true,true_and,Nat.zero_add,Nat.add_zero]at h3;omega
  rw[if_neg (by rw[hp x _ hl.1 g2]; decide),ho x _ hl.1 g2 (rest_ends pc r h2)];simp only[PR.bd_ok];rw[rest_f ho r _ _ _ hlen hl.2 h2];simp only[waq,wap,Except.ok.injEq,Prod.mk.injEq,true_and];omega
theorem num_e{x:Num}(hx:zAX x=true)(h:At T a (zAD x))(he:zeZ T (a+nT (zAD x))):zDM T a= .ok (x,a+nT (zAD x)):=by
 rcases he with he | he
 ·exact zEk hx h he (by decide) (by decide)
 ·exact zEk hx h he (by decide) (by decide)
theorem num_hp{x:Num}(h:At T a (zAD x)):isT T a 3 (⟨#[41]⟩:ByteArray)=false:=by
 unfold zAD at h;split at h
 ·simp only[AtW,waq,wap,and_true,true_and,Nat.zero_add,Nat.add_zero]at h; exact zBa h (by simp)
 split at h
 ·simp only[AtW,waq,wap,and_true,true_and,Nat.zero_add,Nat.add_zero]at h; exact zBa h.1 (by simp)
 split at h
 ·simp only[AtW,waq,wap,and_true,true_and,Nat.zero_add,Nat.add_zero]at h; exact zBa h.1 (by simp)
 ·simp only[AtW,waq,wap,and_true,true_and,Nat.zero_add,Nat.add_zero]at h; exact zBa h (by simp)
theorem bind_f{b:Bind}(hb:zCL b=true)(h:At T a (zBz b)):zDP T a= .ok (b,a+nT (zBz b)):=by
 unfold zCL at hb;rw[wax]at hb;unfold zBz at h ⊢;simp only[AtW,waq,wap,and_true,true_and,Nat.zero_add,Nat.add_zero]at h ⊢;obtain⟨g1,g2,g3⟩:=h;unfold zDP;rw[zBY g1 hb.1];simp only[PR.bd_ok];rw[zA0 g2];simp only[PR.bd_ok];rw[zBY g3 hb.2];rfl
theorem bind_hp{b:Bind}(h:At T a (zBz b)):isT T a 3 (⟨#[41]⟩:ByteArray)=false:=by
 unfold zBz at h;simp only[AtW,waq,wap,and_true,true_and,Nat.zero_add,Nat.add_zero]at h;exact zBa h.1 (by simp)
theorem zFI{e:Expr}(h:zCE e=true):e=x0:=by
 obtain⟨o,n,k,w,l⟩:=e;unfold zCE at h;simp only[wax,decide_eq_true_eq]at h;obtain⟨⟨⟨⟨h1,h2⟩,h3⟩,h4⟩,h5⟩:=h;simp only[Expr.op,Expr.name,Expr.k,Expr.w,Expr.args]at h1 h2 h3 h4 h5;rw[h1,h2,zDv h3,zDv h4,List.length_eq_zero_iff.1 h5];rfl
theorem zeroI_eq{x:Item}(h:zDm x=true):
  (6<x.kind->x.width=n0)/\(x.kind≠3->x.kind≠6->x.depth=n0)/\(x.kind≠4->x.init=n0)/\(x.kind<4\/x.kind=9->x.a=x0)/\(x.kind≠6->x.kind≠8->x.b=x0)/\(x.kind≠6->x.c=x0)/\
   (x.kind≠4->x.kind≠6->x.rule=r0)/\(x.kind≠9->x.of=e0/\x.args=[]/\x.ports=[]):=by
 unfold zDm at h;simp only[wax,Bool.or_eq_true,decide_eq_true_eq]at h;obtain⟨⟨⟨⟨⟨⟨⟨h1,h2⟩,h3⟩,h4⟩,h5⟩,h6⟩,h7⟩,h8⟩:=h;refine⟨fun _=> ?_,fun _ _=> ?_,fun _=> ?_,fun _=> ?_,fun _ _=> ?_,fun _=> ?_,fun _ _=> ?_,fun _=> ?_⟩
 ·rcases h1 with h1 | h1; exact zDv h1; omega
 ·rcases h2 with(h2 | h2) | h2; exact zDv h2; omega; omega
 ·rcases h3 with h3 | h3; exact zDv h3; omega
 ·rcases h4 with h4 | h4; exact zFI h4; omega
 ·rcases h5 with(h5 | h5) | h5; exact zFI h5; omega; omega
 ·rcases h6 with h6 | h6; exact zFI h6; omega
 ·rcases h7 with(h7 | h7) | h7; exact h7; omega; omega
 ·rcases h8 with h8 | h8
  ·exact⟨h8.1.1,List.length_eq_zero_iff.1 h8.1.2,List.length_eq_zero_iff.1 h8.2⟩
  ·omega
theorem zCy(x:Item):x=⟨x.kind,x.name,x.width,x.depth,x.init,x.a,x.b,x.c,x.rule,x.of,x.args,x.ports⟩:=rfl
theorem zGb{d:Nat}{e:Expr}(he:zAB d e=true)(h:At T a (zAA d e)){k:Nat}{s:Bts}(hs:tkP T (a+nT (zAA d e)) k s)(h1:(decide (k=3)&&decide (s=(⟨#[91]⟩:ByteArray)))=false):zBA T d a= .ok (e,a+nT (zAA d e)):=
 expr_f d e a he h (zBa hs h1)
theorem rule_hd{r:Rule}(h:At T a (zBk r)): ∃s,tkP T a 1 s:=by
 unfold zBk at h;split at h
 ·simp only[AtW,waq,wap,and_true,true_and,Nat.zero_add,Nat.add_zero]at h; exact⟨_,h⟩
 split at h
 ·simp only[AtW,waq,wap,and_true,true_and,Nat.zero_add,Nat.add_zero]at h; exact⟨_,h⟩
 split at h
 ·simp only[AtW,waq,wap,and_true,true_and,Nat.zero_add,Nat.add_zero]at h; exact⟨_,h.1⟩
 ·simp only[AtW,waq,wap,and_true,true_and,Nat.zero_add,Nat.add_zero]at h; exact⟨_,h.1⟩
end
theorem item_f{T:List Tok}{a:Nat}{x:Item}(hx:zAW x=true)(h:At T a (zAV x++[sg (⟨#[59]⟩:ByteArray),nl])):zDV T a= .ok (x,a+nT (zAV x)+1):=by
 simp only[zAW,wax,decide_eq_true_eq]at hx;obtain⟨hk,hz,hn,hw,hd,hb⟩:=hx;obtain⟨z1,z2,z3,z4,z5,z6,z7,z8⟩:=zeroI_eq hz;have key: ∀i:Nat,i<9->zIg.lookup (kwL.getD i e0)=some (i+1):=by decide
 have hkey:=key (x.kind-1).toNat (by omega);simp only[zAV,AtW,waq,wap,and_true,true_and,Nat.zero_add,Nat.add_zero]at h ⊢;obtain⟨g1,g2,⟨gw,gd,gb⟩,ge⟩:=h;unfold zDV;rw[if_neg (by rw[g1.1]; simp),g1.2,hkey];simp only[];unfold zDL at gw gd gb ge ⊢;unfold zDx at gd gb ge ⊢;unfold zB7 at gb ge ⊢;unfold zBB at hb;clear hkey key;have q1: ∀ {α:Type} (x y:α),(if (1:Int)=3\/(1:Int)=6 then x else y)=y:=fun _ _=>rfl;rcases(show x.kind=1\/x.kind=2\/x.kind=3\/x.kind=4\/x.kind=5\/x.kind=6\/x.kind=7\/x.kind=8\/x.kind=9 by omega)with hK | hK | hK | hK | hK | hK | hK | hK | hK
 all_goals
  simp only[hK,Int.reduceLE,Int.reduceEq,Int.reduceSub,Int.reduceToNat,Nat.reduceAdd,or_false,false_or,or_true,true_or,or_self,if_true,if_false,wax,Bool.true_and,Bool.and_true,reduceCtorEq,AtW,waq,wap,and_true,true_and,Nat.zero_add,Nat.add_zero]at gw gd gb ge hw hd hb ⊢;unfold zHh
 ·have hX:{zBg 1 with name:=x.name,width:=x.width}=x:=by
   rw[zCy x,hK,z2 (by omega) (by omega),z3 (by omega),z4 (by omega),z5 (by omega) (by omega),z6 (by omega),z7 (by omega) (by omega),(z8 (by omega)).1,(z8 (by omega)).2.1,(z8 (by omega)).2.2]; rfl
  refine zAK (x:=x) (b:=a+(nT (zAD x.width)+1+1+1)) ?_ ?_
  ·simp only[];unfold zCc;refine zAK (zBY g2 hn) (zAK (zA0 (zAl gw.1 (by omega))) (zAK (zEk hw (zAz gw.2 (by omega)) (zAl ge (by omega)) (by decide) (by decide)) (zBy hX (by omega))))
  ·refine zAK (zA0 (zAl ge (by omega))) (zBy rfl (by omega))
 ·have hX:{zBg 2 with name:=x.name,width:=x.width}=x:=by
   rw[zCy x,hK,z2 (by omega) (by omega),z3 (by omega),z4 (by omega),z5 (by omega) (by omega),z6 (by omega),z7 (by omega) (by omega),(z8 (by omega)).1,(z8 (by omega)).2.1,(z8 (by omega)).2.2]; rfl
  refine zAK (x:=x) (b:=a+(nT (zAD x.width)+1+1+1)) ?_ ?_
  ·simp only[];unfold zCc;refine zAK (zBY g2 hn) (zAK (zA0 (zAl gw.1 (by omega))) (zAK (zEk hw (zAz gw.2 (by omega)) (zAl ge (by omega)) (by decide) (by decide)) (zBy hX (by omega))))
  ·refine zAK (zA0 (zAl ge (by omega))) (zBy rfl (by omega))
 ·have hX:{zBg 3 with name:=x.name,width:=x.width,depth:=x.depth}=x:=by
   rw[zCy x,hK,z3 (by omega),z4 (by omega),z5 (by omega) (by omega),z6 (by omega),z7 (by omega) (by omega),(z8 (by omega)).1,(z8 (by omega)).2.1,(z8 (by omega)).2.2]; rfl
  refine zAK (x:=x) (b:=a+(nT (zAD x.width)+nT (zAD x.depth)+1+1+1+1+1)) ?_ ?_
  ·simp only[];unfold zE0 zCc;refine zAK (x:={zBg 3 with name:=x.name,width:=x.width}) (b:=a+(nT (zAD x.width)+1+1+1)) (zAK (zBY g2 hn) (zAK (zA0 (zAl gw.1 (by omega))) (zAK (zEk hw (zAz gw.2 (by omega)) (zAl gd.1 (by omega)) (by decide) (by decide)) (zBy rfl (by omega))))) (zAK (zA0 (zAl gd.1 (by omega))) (zAK (zEk hd (zAz gd.2.1 (by omega)) (zAl gd.2.2 (by omega)) (by decide) (by decide)) (zAK (zA0 (zAl gd.2.2 (by omega))) (zBy hX (by omega)))))
  ·refine zAK (zA0 (zAl ge (by omega))) (zBy rfl (by omega))
 ·have hX:{zBg 4 with name:=x.name,width:=x.width,init:=x.init,a:=x.a,rule:=x.rule}=x:=by
   rw[zCy x,hK,z2 (by omega) (by omega),z5 (by omega) (by omega),z6 (by omega),(z8 (by omega)).1,(z8 (by omega)).2.1,(z8 (by omega)).2.2]; rfl
  obtain⟨_,hr⟩:=rule_hd gb.2.2.2.2;refine zAK (x:=x) (b:=a+(nT (zAD x.width)+nT (zAD x.init)+nT (zAA 8 x.a)+nT (zBk x.rule)+1+1+1+1+1)) ?_ ?_
  ·simp only[];unfold regP zCc;refine zAK (x:={zBg 4 with name:=x.name,width:=x.width}) (b:=a+(nT (zAD x.width)+1+1+1)) (zAK (zBY g2 hn) (zAK (zA0 (zAl gw.1 (by omega))) (zAK (zEk hw (zAz gw.2 (by omega)) (zAl gb.1 (by omega)) (by decide) (by decide)) (zBy rfl (by omega))))) (zAK (zA0 (zAl gb.1 (by omega))) (zAK (zEk hb.1 (zAz gb.2.1 (by omega)) (zAl gb.2.2.1 (by omega)) (by decide) (by decide)) (zAK (zA0 (zAl gb.2.2.1 (by omega))) (zAK (zGb hb.2.1 (zAz gb.2.2.2.1 (by omega)) (zAl hr (by omega)) (by simp)) (zAK (rule_f hb.2.2 (zAz gb.2.2.2.2 (by omega))) (zBy hX (by omega)))))))
  ·refine zAK (zA0 (zAl ge (by omega))) (zBy rfl (by omega))
 ·have hX:{zBg 5 with name:=x.name,width:=x.width,a:=x.a}=x:=by
   rw[zCy x,hK,z2 (by omega) (by omega),z3 (by omega),z5 (by omega) (by omega),z6 (by omega),z7 (by omega) (by omega),(z8 (by omega)).1,(z8 (by omega)).2.1,(z8 (by omega)).2.2]; rfl
  refine zAK (x:=x) (b:=a+(nT (zAD x.width)+nT (zAA 8 x.a)+1+1+1+1)) ?_ ?_
  ·simp only[];unfold wireP zCc;refine zAK (x:={zBg 5 with name:=x.name,width:=x.width}) (b:=a+(nT (zAD x.width)+1+1+1)) (zAK (zBY g2 hn) (zAK (zA0 (zAl gw.1 (by omega))) (zAK (zEk hw (zAz gw.2 (by omega)) (zAl gb.1 (by omega)) (by decide) (by decide)) (zBy rfl (by omega))))) (zAK (zA0 (zAl gb.1 (by omega))) (zAK (zGb hb (zAz gb.2 (by omega)) (zAl ge (by omega)) (by decide)) (zBy hX (by omega))))
  ·refine zAK (zA0 (zAl ge (by omega))) (zBy rfl (by omega))
 ·have hX:{zBg 6 with name:=x.name,width:=x.width,depth:=x.depth,a:=x.a,b:=x.b,c:=x.c,rule:=x.rule}=x:=by
   rw[zCy x,hK,z3 (by omega),(z8 (by omega)).1,(z8 (by omega)).2.1,(z8 (by omega)).2.2]; rfl
  obtain⟨_,hr⟩:=rule_hd gb.2.2.2.2.2.2;refine zAK (x:=x) (b:=a+(nT (zAD x.width)+nT (zAD x.depth)+nT (zAA 8 x.a)+nT (zAA 8 x.b)+nT (zAA 8 x.c)+nT (zBk x.rule)+1+1+1+1+1+1+1+1)) ?_ ?_
  ·simp only[];unfold memP zE0 zCc;refine zAK (x:={zBg 6 with name:=x.name,width:=x.width,depth:=x.depth}) (b:=a+(nT (zAD x.width)+nT (zAD x.depth)+1+1+1+1+1)) (zAK (x:={zBg 6 with name:=x.name,width:=x.width}) (b:=a+(nT (zAD x.width)+1+1+1)) (zAK (zBY g2 hn) (zAK (zA0 (zAl gw.1 (by omega))) (zAK (zEk hw (zAz gw.2 (by omega)) (zAl gd.1 (by omega)) (by decide) (by decide)) (zBy rfl (by omega))))) (zAK (zA0 (zAl gd.1 (by omega))) (zAK (zEk hd (zAz gd.2.1 (by omega)) (zAl gd.2.2 (by omega)) (by decide) (by decide)) (zAK (zA0 (zAl gd.2.2 (by omega))) (zBy rfl (by omega)))))) (zAK (word_f (zAl gb.1 (by omega))) (zAK (zGb hb.1 (zAz gb.2.1 (by omega)) (zAl gb.2.2.1 (by omega)) (by decide)) (zAK (word_f (zAl gb.2.2.1 (by omega))) (zAK (zGb hb.2.1 (zAz gb.2.2.2.1 (by omega)) (zAl gb.2.2.2.2.1 (by omega)) (by decide)) (zAK (zA0 (zAl gb.2.2.2.2.1 (by omega))) (zAK (zGb hb.2.2.1 (zAz gb.2.2.2.2.2.1 (by omega)) (zAl hr (by omega)) (by simp)) (zAK (rule_f hb.2.2.2 (zAz gb.2.2.2.2.2.2 (by omega))) (zBy hX (by omega)))))))))
  ·refine zAK (zA0 (zAl ge (by omega))) (zBy rfl (by omega))
 ·have hX:{zBg 7 with name:=x.name,a:=x.a}=x:=by
   rw[zCy x,hK,z1 (by omega),z2 (by omega) (by omega),z3 (by omega),z5 (by omega) (by omega),z6 (by omega),z7 (by omega) (by omega),(z8 (by omega)).1,(z8 (by omega)).2.1,(z8 (by omega)).2.2]; rfl
  refine zAK (x:=x) (b:=a+(nT (zAA 8 x.a)+1+1+1)) ?_ ?_
  ·simp only[];unfold zFw;refine zAK (zBY g2 hn) (zAK (word_f (zAl gb.1 (by omega))) (zAK (zGb hb (zAz gb.2 (by omega)) (zAl ge (by omega)) (by decide)) (zBy hX (by omega))))
  ·refine zAK (zA0 (zAl ge (by omega))) (zBy rfl (by omega))
 ·have hX:{zBg 8 with name:=x.name,a:=x.a,b:=x.b}=x:=by
   rw[zCy x,hK,z1 (by omega),z2 (by omega) (by omega),z3 (by omega),z6 (by omega),z7 (by omega) (by omega),(z8 (by omega)).1,(z8 (by omega)).2.1,(z8 (by omega)).2.2]; rfl
  refine zAK (x:=x) (b:=a+(nT (zAA 8 x.a)+nT (zAA 8 x.b)+1+1+1+1)) ?_ ?_
  ·simp only[];unfold putP zFw;refine zAK (x:={zBg 8 with name:=x.name,a:=x.a}) (b:=a+(nT (zAA 8 x.a)+1+1+1)) (zAK (zBY g2 hn) (zAK (word_f (zAl gb.1 (by omega))) (zAK (zGb hb.1 (zAz gb.2.1 (by omega)) (zAl gb.2.2.1 (by omega)) (by decide)) (zBy rfl (by omega))))) (zAK (zA0 (zAl gb.2.2.1 (by omega))) (zAK (zGb hb.2 (zAz gb.2.2.2 (by omega)) (zAl ge (by omega)) (by decide)) (zBy hX (by omega))))
  ·refine zAK (zA0 (zAl ge (by omega))) (zBy rfl (by omega))
 ·have hX:{zBg 9 with name:=x.name,of:=x.of,args:=x.args,ports:=x.ports}=x:=by
   rw[zCy x,hK,z1 (by omega),z2 (by omega) (by omega),z3 (by omega),z4 (by omega),z5 (by omega) (by omega),z6 (by omega),z7 (by omega) (by omega)]; rfl
  refine zAK (x:=x) (b:=a+(nT (zA5 zAD x.args)+nT (zA5 zBz x.ports)+1+1+1+1)) ?_ ?_
  ·simp only[];unfold instP;refine zAK (zBY g2 hn) (zAK (zA0 (zAl gb.1 (by omega))) (zAK (zBY (zAl gb.2.1 (by omega)) hb.1) (zAK (list_f (fun y b hy hA he=>num_e hy hA he) (fun y b _ hA=>num_hp hA) hb.2.1 (zAz gb.2.2.1 (by omega))) (zAK (list_f (fun y b hy hA _=>bind_f hy hA) (fun y b _ hA=>bind_hp hA) hb.2.2 (zAz gb.2.2.2 (by omega))) (zBy hX (by omega))))))
  ·refine zAK (zA0 (zAl ge (by omega))) (zBy rfl (by omega))
theorem zGe: ∀l:List Item,l.length<=nT (zAJ l)
 | []=>Nat.zero_le _
 | x::r=>by
  have:=zGe r;simp only[zAJ,AtW,waq,wap,and_true,true_and,Nat.zero_add,Nat.add_zero,wad];omega
theorem items_f{T:List Tok}: ∀(l:List Item) (n:Nat) (acc:List Item) (a:Nat),l.length<n->l.all zAW=true->At T a (zAJ l++[sg (⟨#[125]⟩:ByteArray),nl])->zCN T n acc a= .ok (acc++l,a+nT (zAJ l)+1)
 | _,0,_,_,h,_,_=>absurd h (Nat.not_lt_zero _)
 | [],n+1,acc,a,_,_,h=>by
  simp only[zAJ,AtW,waq,wap,and_true,true_and,Nat.zero_add,Nat.add_zero]at h;unfold zCN;rw[if_pos (zB1 h)];simp[zAJ,nT]
 | x::r,n+1,acc,a,hn,hl,h=>by
  rw[List.all_cons,wax]at hl;have h1:At T a (zAV x++[sg (⟨#[59]⟩:ByteArray),nl])/\At T (a+nT (zAV x)+1) (zAJ r++[sg (⟨#[125]⟩:ByteArray),nl]):=by
   simp only[zAJ,AtW,waq,wap,and_true,true_and,Nat.zero_add,Nat.add_zero]at h ⊢;exact⟨⟨h.1.1,h.1.2.1⟩,zAz h.1.2.2 (by omega),zAl h.2 (by omega)⟩
  have hk: ∃s,tkP T a 1 s:=by
   have:=h1.1;simp only[zAV,AtW,waq,wap,and_true,true_and,Nat.zero_add,Nat.add_zero]at this;exact⟨_,this.1⟩
  obtain⟨s,hk⟩:=hk;unfold zCN;rw[if_neg (by rw[zBa hk (by simp)]; decide),item_f hl.1 h1.1];simp only[PR.bd_ok];rw[items_f r n _ _ (by simpa using hn) hl.2 h1.2];simp only[zAJ,AtW,waq,wap,and_true,true_and,Nat.zero_add,Nat.add_zero,wan];exact zBy rfl (by omega)
theorem name_p1{T:List Tok}{s:Bts}{a:Nat}(h:At T a (zBt s)):isT T a 3 (⟨#[41]⟩:ByteArray)=false:=by
 unfold zBt at h;simp only[AtW,waq,wap,and_true,true_and,Nat.zero_add,Nat.add_zero]at h;exact zBa h (by simp)
theorem module_f{T:List Tok}{a:Nat}{m:Module}(hm:zAG m=true)(h:At T a (zAE m)):zBC T a= .ok (m,a+nT (zAE m)):=by
 simp only[zAG,wax]at hm;obtain⟨h1,h2,h3,h4⟩:=hm;simp only[zAE,zBQ,AtW,waq,wap,and_true,true_and,Nat.zero_add,Nat.add_zero]at h ⊢;obtain⟨g1,g2,⟨g3,g4,g5⟩,g6,g7,g8⟩:=h;unfold zBC;refine zAK (word_f g1) ?_;refine zAK (zBY g2 h1) ?_;refine zAK (list_f (pc:=zBt) (fun y b hy hA _=> ?_) (fun y b _ hA=>name_p1 hA) h2 (zAz g3 (by omega))) ?_
 ·unfold zBt at hA ⊢;simp only[AtW,waq,wap,and_true,true_and,Nat.zero_add,Nat.add_zero]at hA ⊢;exact zBY hA hy
 refine zAK (zA0 (zAl g4 (by omega))) ?_;refine zAK (zBY (zAl g5 (by omega)) h3) ?_;refine zAK (zA0 (zAl g6 (by omega))) ?_;have hA:At T (a+1+1+nT (zA5 zBt m.params)+1+1+1) (zAJ m.items++[sg (⟨#[125]⟩:ByteArray),nl]):=by
  simp only[AtW,waq,wap,and_true,true_and,Nat.zero_add,Nat.add_zero];exact⟨zAz g7 (by omega),zAl g8 (by omega)⟩
 refine zAK (items_f m.items _ _ _ ?_ h4 hA) (zBy rfl (by omega));have:=At_lt _ _ hA (by simp only[AtW,waq,wap,and_true,true_and,Nat.zero_add,Nat.add_zero]; omega);have h6:=zGe m.items;simp only[AtW,waq,wap,and_true,true_and,Nat.zero_add,Nat.add_zero]at this;omega
theorem zIn(m:Module):0<nT (zAE m):=by
 simp only[zAE,zBQ,AtW,waq,wap,and_true,true_and,Nat.zero_add,Nat.add_zero];omega
theorem zG8: ∀l:List Module,l.length<=nT (zAk l)
 | []=>Nat.zero_le _
 | m::r=>by
  have:=zG8 r;have:=zIn m;simp only[zAk,AtW,waq,wap,and_true,true_and,Nat.zero_add,Nat.add_zero,wad];omega
theorem file_f{T:List Tok}: ∀(l:List Module) (n:Nat) (acc:List Module) (a:Nat),l.length<n->l.all zAG=true->At T a (zAk l)->(tk T (a+nT (zAk l))).1 =4->zB4 T n acc a= .ok (acc++l)
 | _,0,_,_,h,_,_,_=>absurd h (Nat.not_lt_zero _)
 | [],n+1,acc,a,_,_,_,h4=>by
  simp only[zAk,AtW,waq,wap,and_true,true_and,Nat.zero_add,Nat.add_zero]at h4;unfold zB4;rw[if_pos h4,wao]
 | m::r,n+1,acc,a,hn,hl,h,h4=>by
  rw[List.all_cons,wax]at hl;simp only[zAk,AtW,waq,wap,and_true,true_and,Nat.zero_add,Nat.add_zero]at h h4;have hk:(tk T a).1 =1:=by
   have:=h.1;simp only[zAE,zBQ,AtW,waq,wap,and_true,true_and,Nat.zero_add,Nat.add_zero]at this;exact this.1.1
  unfold zB4;rw[if_neg (by rw[hk]; decide),module_f hl.1 h.1];simp only[];rw[file_f r n _ _ (by simpa using hn) hl.2 h.2 (by rw[<-h4,Nat.add_assoc]),wan];rfl
theorem zIJ(t:Tok)(T:List Tok)(a:Nat):tk (t::T) (a+1)=tk T a:=rfl
theorem At_cons(t:Tok)(T:List Tok): ∀(p:List Pc) (a:Nat),At (t::T) (a+1) p↔At T a p
 | [],_=>Iff.rfl
 | x::r,a=>by
  simp only[At,zIJ];split
  ·exact At_cons t T r a
  ·rw[At_cons t T r (a+1)]
theorem zGS: ∀(p:List Pc) (o:Nat),At (pcT o p) 0 p
 | [],_=>trivial
 | x::r,o=>by
  unfold pcT At;by_cases hx:x.1=0
  ·simp only[hx,if_true]; exact zGS r _
  ·simp only[hx,if_false];refine⟨rfl,rfl,?_⟩;rw[At_cons];exact zGS r _
theorem zDy: ∀(p:List Pc) (o:Nat),tk (pcT o p) (nT p)=(4,e0,o+(pcB p).size)/\(pcT o p).length =nT p+1
 | [],o=>⟨rfl,rfl⟩
 | x::r,o=>by
  unfold pcT nT;have ih:=zDy r (o+x.2.size);have hz:o+(pcB (x::r)).size =o+x.2.size+(pcB r).size :=by simp only[pcB,ByteArray.size_append]; omega
  rw[hz];by_cases hx:x.1=0
  ·simp only[hx,if_true]; exact ih
  ·simp only[hx,if_false,wad];exact⟨ih.1,by rw[ih.2]⟩
def zDI(T:List Tok):Except Nat (List Module):=zB4 T T.length [] 0
theorem zFt(l:List Module)(hl:l.all zAG=true){T:List Tok}(h:At T 0 (zAk l))(h4:(tk T (nT (zAk l))).1 =4)(hn:T.length=nT (zAk l)+1):zDI T= .ok l:=by
 unfold zDI;have:=zG8 l;rw[file_f l _ [] 0 (by omega) hl h (by rw[Nat.zero_add]; exact h4),wap]
set_option maxHeartbeats 1000000
structure WfT (T:List Tok):Prop where
 w1: ∀a,(tk T a).1 =1->zAC (tk T a).2.1 =1/\(tk T a).2.1.data.toList.all isW=true
 w2: ∀a,(tk T a).1 =2->zAC (tk T a).2.1 =2/\(tk T a).2.1.data.toList.all isW=true
section
variable {T:List Tok} {a b:Nat}
def InvE(T:List Tok)(fit:Expr->Bool)(pc:Expr->List Pc)(r:Nat->PR Expr):Prop:= ∀a e b,r a= .ok (e,b)->fit e=true/\At T a (pc e)/\b=a+nT (pc e)
theorem opOf_ne{s:Bts}(h:zGx s≠0): ∃p∈opL,p.1=s/\zGx s=p.2:=by
 have key: ∀(l:List (Bts×Nat)),(l.lookup s).getD 0≠0-> ∃p∈l,p.1=s/\(l.lookup s).getD 0=p.2:=by
  intro l
  induction l with
  | nil=>intro h; exact absurd rfl h
  | cons p l ih=>
   intro h;obtain⟨x,v⟩:=p;rw[List.lookup_cons]at h ⊢;by_cases hx:s=x
   ·subst hx;have h1:(s==s)=true:=(by rw[zDo]; simp);rw[h1]at h ⊢;exact⟨(s,v),by simp,rfl,rfl⟩
   ·have h1:(s==x)=false:=(by rw[zDo]; simpa using hx);rw[h1]at h ⊢;obtain⟨p,hp,h2⟩:=ih h;exact⟨p,by simp[hp],h2⟩
 exact key opL h
end
section
variable {T:List Tok} {a b:Nat} (hW:WfT T)
include hW
end
section
variable {T:List Tok} {a b:Nat} (hW:WfT T)
include hW
def InvI(T:List Tok)(k:Nat)(a:Nat)(x:Item)(b:Nat):Prop:=
 zAW x=true/\(tkP T a 1 (kwL.getD (k-1) e0)->At T a (zAV x))/\b=a+nT (zAV x)
end
def goodT(t:Tok):Prop:=(t.1=1\/t.1=2\/t.1=3)/\0<t.2.1.size/\(t.1=3\/(zAC t.2.1=t.1/\t.2.1.data.toList.all isW=true))
def zI1:List Tok->Nat
 | []=>0
 | t::r=>t.2.1.size+zI1 r
def nB:List Pc->Nat
 | []=>0
 | p::r=>if p.1=0 then p.2.size+nB r else nB r
def nW:List Pc->Nat
 | []=>0
 | p::r=>if p.1=0 then nW r else p.2.size+nW r
def few(p:List Pc):Prop:=nB p<=2*nT p
set_option maxHeartbeats 4000000
def zFV(s:Bts):D:=.agg [zax (zAQ s).1,eI (zAQ s).2.1,eI (zAQ s).2.2]
theorem zC5(Z:GP)(hZ:Z.Ok)(s:Bts)(hs:s.size<=900000):
  FnL prog 22 [.d (.lit (.string s))] [(7777777,Z.o)] (fun V ol new=>V= .d (zFV s)/\ol=[(7777777,Z.o)]/\new=[]):=by
 have hp:=parse_g Z hZ s hs;refine FnL.srt (FnL.of_eH 1999 [] (own:=[]) chL [] zat func22 rfl call22 ntmps22 (zle rfl) results22 (zCw Z _ (by simp[AV.noRefs,AV.noRef])) (fun gs=> ?_));simp only[ZE,seval,KE,zHb.eq_1]at hp;simp only[ZE,seval,KE,GZ];refine EFn.gV [(7777777,7777777)] hp ?_ ?_
 ·simp only[ZE,seval,GZ]
 rintro V ol new ⟨rfl,rfl,rfl⟩;simp only[ZE,seval,KE,GZ];refine⟨[2,3,1999],[],?_⟩;simp only[ZE,seval,zAp.eq_1,zAp.eq_2,zAq.eq_1,zAq.eq_2,GZ,zAj.eq_def,ghK.eq_def,zAi.eq_def,hdH.eq_1,hdH.eq_2,kpH.eq_1,kpH.eq_2,hdl.eq_def,zpC.eq_def,zht,AV.core,zFV.eq_1,KE]
theorem zHk(l:List Module)(n m:Int):FnP prog 21 [.agg [zax l,eI n,eI m],.agg [zax l,eI n,eI m]] (.d (eB true)) []:=by
 have hs:=same_r l;simp only[ZE,seval,KE]at hs;refine FnP.of_eC (own:=[]) chL zat func21 rfl call21 ntmps21 (zle rfl) results21 (fun hok=> ?_);simp only[ZE,seval,KE,↓zA7,↓zA8,↓zA9,zBN.eq_1,zBI.eq_1,bne_self_eq_false,beq_self_eq_true,decide_true];refine za3.i (fun _=>hs) ?_;simp only[ZE,seval,KE,↓zA7,↓zA8,↓zA9,zBN.eq_1,zBI.eq_1,bne_self_eq_false,beq_self_eq_true,decide_true]
theorem zHf(Z:GP)(hZ:Z.Ok)(l:List Module)(hl: ∀m∈l,modR itemR m)(hn:l.length<=1000000)(h:(zDF l l.length (e0,true)).1.size <=LIM):
  FnL prog 24 [.d (.agg [zax l])] [(7777777,Z.o)] (fun V ol new=>V= .d (.agg [eSb (zCl l).1,eI (zCl l).2])/\ol=[(7777777,Z.o)]/\new=[]):=by
 have hp:=print_w Z hZ l hl hn h;obtain⟨P,hP⟩:=zX (zCl l);rw[hP]at hp ⊢;refine FnL.srt (FnL.of_eH 1999 [] (own:=[]) chL [] zat func24 rfl call24 ntmps24 (zle rfl) results24 (zCw Z _ (by simp[AV.noRefs,AV.noRef])) (fun gs=> ?_));simp only[ZE,seval,KE]at hp;simp only[ZE,seval,KE,GZ];refine EFn.gV [(7777777,7777777)] hp ?_ ?_
 ·simp only[ZE,seval,GZ]
 rintro V ol new ⟨rfl,rfl,rfl⟩;simp only[ZE,seval,KE,GZ];refine⟨[1,2,1999],[],?_⟩;simp only[ZE,seval,zAp.eq_1,zAp.eq_2,zAq.eq_1,zAq.eq_2,GZ,zAj.eq_def,ghK.eq_def,zAi.eq_def,hdH.eq_1,hdH.eq_2,kpH.eq_1,kpH.eq_2,hdl.eq_def,zpC.eq_def,zht,AV.core,KE]
theorem zIt{x:Num}(h:zAX x=true)(hs:(pcB (zAD x)).size <=1000000):zHN x:=by
 obtain⟨n,p⟩:=x;unfold zAX at h;by_cases hp:p=e0
 ·rw[if_pos hp]at h;simp only[zCf,wax,decide_eq_true_eq]at h;refine⟨by simp only; omega,?_⟩;show p.size<=1000000;rw[hp]; exact Nat.zero_le _
 ·rw[if_neg hp]at h;simp only[wax,decide_eq_true_eq]at h;refine⟨by simp only; omega,?_⟩;unfold zAD at hs;rw[if_neg hp]at hs;show p.size<=1000000;split at hs
  ·simp only[pcB,nm,ByteArray.size_append]at hs; omega
  ·split at hs
   ·simp only[pcB,nm,ByteArray.size_append]at hs; omega
   ·simp only[pcB,nm,ByteArray.size_append]at hs; omega
theorem in64_0:(-9223372036854775808:Int)<=0/\(0:Int)<=9223372036854775807:=by decide
theorem rule_r{x:Rule}(h:zBZ x=true)(hs:(pcB (zBk x)).size <=1000000):ruleR x:=by
 obtain⟨k,f,n⟩:=x;unfold zBZ at h;simp only[wax,Bool.or_eq_true,decide_eq_true_eq]at h;obtain⟨⟨h1,h2⟩,h3⟩:=h;by_cases k0:k=0
 ·have hf:f=e0:=by rcases h1 with h | h; exact h; omega
  have hn:n=0:=by rcases h2 with h | h; exact h; omega
  subst hf hn;exact⟨in64_0,Nat.zero_le _⟩
 by_cases k1:k=1
 ·have hf:f=e0:=by rcases h1 with h | h; exact h; omega
  have hn:n=0:=by rcases h2 with h | h; exact h; omega
  subst hf hn;exact⟨in64_0,Nat.zero_le _⟩
 by_cases k2:k=2
 ·have hn:n=0:=by rcases h2 with h | h; exact h; omega
  subst hn k2;change (pcB [nm (⟨#[99,111,112,121]⟩:ByteArray),bl,nm f]).size <=_ at hs;simp only[pcB,nm,ByteArray.size_append]at hs;exact⟨in64_0,by show f.size<=1000000; omega⟩
 by_cases k3:k=3
 ·subst k3;rw[if_neg k0,if_neg k1,if_neg k2,if_pos rfl]at h3;simp only[zCf,wax,decide_eq_true_eq]at h3;change (pcB [nm (⟨#[97,100,100]⟩:ByteArray),bl,nm f,bl,nu n]).size <=_ at hs;simp only[pcB,nm,ByteArray.size_append]at hs;exact⟨by show-9223372036854775808<=n/\n<=9223372036854775807; omega,by show f.size<=1000000; omega⟩
 ·rw[if_neg k0,if_neg k1,if_neg k2,if_neg k3]at h3;exact absurd h3 (by decide)
set_option maxHeartbeats 1000000
theorem zFs:zHN n0:=⟨in64_0,Nat.zero_le _⟩
theorem zE3: ∀(d:Nat) (e:Expr),zAB d e=true->(pcB (zAA d e)).size <=1000000->zDp d e
 | 0,e,h,_=>by simp[zAB]at h
 | d+1,e,h,hs=>by
  simp only[zAB,wax,decide_eq_true_eq]at h;obtain⟨ha,hz,hf⟩:=h;obtain⟨z1,z2,z3⟩:=zeroX_eq hz;have ih:=zE3 d;change (pcB (zDn (zAA d) e)).size <=_ at hs;have key: ∀(l:List Expr),e.args=l->l.length<=3->(∀x∈l,zDp d x)->zHN e.k->zHN e.w->e.name.size<=1000000->zDp (d+1) e:=by
   intro l hl hn hx hk hw hnm;exact⟨⟨hk,hw,hnm,by rw[hl]; omega⟩,by rw[hl]; exact hx⟩
  have nm0:e.op≠14->e.op≠15->e.name.size<=1000000:=fun a b=>by rw[z1 a b]; exact Nat.zero_le _
  have k0:e.op≠1->e.op≠12->zHN e.k:=fun a b=>by rw[z2 a b]; exact zFs
  have w0:e.op≠1->e.op≠12->e.op≠13->zHN e.w:=fun a b c=>by rw[z3 a b c]; exact zFs
  unfold zCj at hf;unfold zDn at hs;by_cases h1:e.op=1
  ·rw[if_pos h1]at hf hs;simp only[wax]at hf;simp only[waq,wap,pcB,zAx,ByteArray.size_append]at hs;have hl:e.args=[]:=List.length_eq_zero_iff.1 (by rw[h1]at ha; exact Int.ofNat.inj ha);exact key [] hl (by decide) (by simp) (zIt hf.1 (by omega)) (zIt hf.2 (by omega)) (nm0 (by omega) (by omega))
  rw[if_neg h1]at hf hs;by_cases h2:e.op=14
  ·rw[if_pos h2]at hs;simp only[pcB,nm,ByteArray.size_append]at hs;have hl:e.args=[]:=List.length_eq_zero_iff.1 (by rw[h2]at ha; exact Int.ofNat.inj ha);exact key [] hl (by decide) (by simp) (k0 h1 (by omega)) (w0 h1 (by omega) (by omega)) (by omega)
  rw[if_neg h2]at hf hs;by_cases h3:e.op=15
  ·rw[if_pos h3]at hf hs;simp only[wax]at hf;simp only[waq,wap,pcB,zAx,nm,ByteArray.size_append]at hs;have hl:=len_1 (z:=x0) (l:=e.args) (by rw[h3]at ha; exact ha);refine key _ hl (by simp) (fun x hx=> ?_) (k0 h1 (by omega)) (w0 h1 (by omega) (by omega)) (by omega);rw[List.mem_singleton]at hx;subst hx;exact ih _ hf.2 (by omega)
  rw[if_neg h3]at hf hs;by_cases h4:e.op=2
  ·rw[if_pos h4]at hf hs;simp only[pcB,ByteArray.size_append]at hs;have hl:=len_1 (z:=x0) (l:=e.args) (by rw[h4]at ha; exact ha);refine key _ hl (by simp) (fun x hx=> ?_) (k0 h1 (by omega)) (w0 h1 (by omega) (by omega)) (nm0 h2 h3);rw[List.mem_singleton]at hx;subst hx;exact ih _ hf (by omega)
  rw[if_neg h4]at hf hs;by_cases h5:e.op=10
  ·rw[if_pos h5]at hf hs;simp only[wax]at hf;simp only[waq,wap,pcB,zAx,ByteArray.size_append]at hs;have hl:=len_3 (z:=x0) (l:=e.args) (by rw[h5]at ha; exact ha);refine key _ hl (by simp) (fun x hx=> ?_) (k0 h1 (by omega)) (w0 h1 (by omega) (by omega)) (nm0 h2 h3);simp only[wah,List.not_mem_nil,or_false]at hx;rcases hx with rfl | rfl | rfl
   ·exact ih _ hf.1 (by omega)
   ·exact ih _ hf.2.1 (by omega)
   ·exact ih _ hf.2.2 (by omega)
  rw[if_neg h5]at hf hs;by_cases h6:e.op=12
  ·rw[if_pos h6]at hf hs;simp only[wax]at hf;simp only[waq,wap,pcB,zAx,ByteArray.size_append]at hs;have hl:=len_1 (z:=x0) (l:=e.args) (by rw[h6]at ha; exact ha);refine key _ hl (by simp) (fun x hx=> ?_) (zIt hf.2.1 (by omega)) (zIt hf.2.2 (by omega)) (nm0 h2 h3);rw[List.mem_singleton]at hx;subst hx;exact ih _ hf.1 (by omega)
  rw[if_neg h6]at hf hs;by_cases h7:e.op=13
  ·rw[if_pos h7]at hf hs;simp only[wax]at hf;simp only[waq,wap,pcB,zAx,ByteArray.size_append]at hs;have hl:=len_1 (z:=x0) (l:=e.args) (by rw[h7]at ha; exact ha);refine key _ hl (by simp) (fun x hx=> ?_) (k0 h1 h6) (zIt hf.2 (by omega)) (nm0 h2 h3);rw[List.mem_singleton]at hx;subst hx;exact ih _ hf.1 (by omega)
  rw[if_neg h7]at hf hs;simp only[wax]at hf;simp only[waq,wap,pcB,zAx,ByteArray.size_append]at hs;have hsg:=zHB ha h1 h2 h3 h4 h5 h6 h7;have ha2:(e.args.length:Int)=2:=by
   rw[ha]; unfold zBi;rw[if_neg (by omega),if_neg (by omega),if_neg h5,if_pos hsg]
  have hl:=len_2 (z:=x0) (l:=e.args) ha2;refine key _ hl (by simp) (fun x hx=> ?_) (k0 h1 h6) (w0 h1 h6 h7) (nm0 h2 h3);simp only[wah,List.not_mem_nil,or_false]at hx;rcases hx with rfl | rfl
  ·exact ih _ hf.1 (by omega)
  ·exact ih _ hf.2 (by omega)
theorem exprR_0: ∀d,zDp d x0
 | 0=>⟨zFs,zFs,Nat.zero_le _,Nat.zero_le _⟩
 | d+1=>⟨⟨zFs,zFs,Nat.zero_le _,Nat.zero_le _⟩,fun x hx=>by simp[x0,Expr.args]at hx⟩
theorem ruleR_0:ruleR r0:=⟨in64_0,Nat.zero_le _⟩
theorem els_mem{α:Type}(pc:α->List Pc): ∀(l:List α) (x:α),x∈l->(pcB (pc x)).size <=(pcB (zBU pc l)).size
 | [],x,h=>by cases h
 | [y],x,h=>by
  rw[List.mem_singleton]at h;subst h;exact waw _
 | y::z::r,x,h=>by
  have ih:=els_mem pc (z::r) x;unfold zBU;simp only[pcB,zAx,ByteArray.size_append];rcases List.mem_cons.1 h with rfl | h
  ·omega
  ·have:=ih h; omega
theorem zIj{α:Type}(pc:α->List Pc)(l:List α)(x:α)(h:x∈l):(pcB (pc x)).size <=(pcB (zA5 pc l)).size :=by
 have:=els_mem pc l x h;unfold zA5;simp only[pcB,zAx,ByteArray.size_append];omega
theorem els_len{α:Type}(pc:α->List Pc): ∀(l:List α),l.length<=(pcB (zBU pc l)).size +1
 | []=>Nat.zero_le _
 | [y]=>by simp
 | y::z::r=>by
  have ih:=els_len pc (z::r);unfold zBU;have e1:(sg (⟨#[44]⟩:ByteArray)).2.size =1:=rfl;simp only[pcB,zAx,ByteArray.size_append,wad,e1]at ih ⊢;omega
theorem zIi{α:Type}(pc:α->List Pc)(l:List α):l.length<=(pcB (zA5 pc l)).size :=by
 have:=els_len pc l;have e1:(sg (⟨#[40]⟩:ByteArray)).2.size =1:=rfl;unfold zA5;simp only[pcB,zAx,ByteArray.size_append,e1];omega
theorem item_r{x:Item}(h:zAW x=true)(hs:(pcB (zAV x)).size <=1000000):itemR x:=by
 simp only[zAW,wax,decide_eq_true_eq]at h;obtain⟨⟨hk1,hk2⟩,hz,hn,hw,hd,hb⟩:=h;obtain⟨z1,z2,z3,z4,z5,z6,z7,z8⟩:=zeroI_eq hz;simp only[zAV,waq,wap,pcB,zAx,nm,ByteArray.size_append]at hs;have hW:(pcB (zDL x)).size <=1000000:=by omega
 have hD:(pcB (zDx x)).size <=1000000:=by omega
 have hB:(pcB (zB7 x)).size <=1000000:=by omega
 have rw':zHN x.width:=by
  by_cases c:x.kind<=6
  ·rw[if_pos c]at hw;unfold zDL at hW;rw[if_pos c]at hW;simp only[waq,wap,pcB,zAx,ByteArray.size_append]at hW;exact zIt hw (by omega)
  ·rw[z1 (by omega)]; exact zFs
 have rd':zHN x.depth:=by
  by_cases c:x.kind=3\/x.kind=6
  ·rw[if_pos c]at hd;unfold zDx at hD;rw[if_pos c]at hD;simp only[waq,wap,pcB,zAx,ByteArray.size_append]at hD;exact zIt hd (by omega)
  ·rw[z2 (by omega) (by omega)]; exact zFs
 have base:zHN x.init->zDp 8 x.a->zDp 8 x.b->zDp 8 x.c->ruleR x.rule->x.of.size<=1000000->((∀y∈x.args,zHN y)/\x.args.length<=1000000)->((∀y∈x.ports,bindR y)/\x.ports.length<=1000000)->itemR x:=
  fun i a b c r o l p=>⟨⟨by omega,by omega⟩,by omega,rw',rd',i,a,b,c,r,o,l,p⟩
 have i0:x.kind≠4->zHN x.init:=fun k=>by rw[z3 k]; exact zFs
 have a0:x.kind<4\/x.kind=9->zDp 8 x.a:=fun k=>by rw[z4 k]; exact exprR_0 8
 have b0':x.kind≠6->x.kind≠8->zDp 8 x.b:=fun k k'=>by rw[z5 k k']; exact exprR_0 8
 have c0:x.kind≠6->zDp 8 x.c:=fun k=>by rw[z6 k]; exact exprR_0 8
 have r0':x.kind≠4->x.kind≠6->ruleR x.rule:=fun k k'=>by rw[z7 k k']; exact ruleR_0
 have o0:x.kind≠9->x.of.size<=1000000:=fun k=>by rw[(z8 k).1]; exact Nat.zero_le _
 have l0:x.kind≠9->((∀y∈x.args,zHN y)/\x.args.length<=1000000):=fun k=>by rw[(z8 k).2.1]; exact⟨by simp,by simp⟩
 have p0:x.kind≠9->((∀y∈x.ports,bindR y)/\x.ports.length<=1000000):=fun k=>by rw[(z8 k).2.2]; exact⟨by simp,by simp⟩
 unfold zBB at hb;unfold zB7 at hB;by_cases k4:x.kind=4
 ·rw[if_pos k4]at hb hB
  try simp only[wax]at hb
  simp only[waq,wap,pcB,zAx,nm,ByteArray.size_append]at hB;exact base (zIt hb.1 (by omega)) (zE3 8 _ hb.2.1 (by omega)) (b0' (by omega) (by omega)) (c0 (by omega)) (rule_r hb.2.2 (by omega)) (o0 (by omega)) (l0 (by omega)) (p0 (by omega))
 rw[if_neg k4]at hb hB;by_cases k5:x.kind=5
 ·rw[if_pos k5]at hb hB
  try simp only[wax]at hb
  simp only[waq,wap,pcB,zAx,nm,ByteArray.size_append]at hB;exact base (i0 (by omega)) (zE3 8 _ hb (by omega)) (b0' (by omega) (by omega)) (c0 (by omega)) (r0' (by omega) (by omega)) (o0 (by omega)) (l0 (by omega)) (p0 (by omega))
 rw[if_neg k5]at hb hB;by_cases k6:x.kind=6
 ·rw[if_pos k6]at hb hB
  try simp only[wax]at hb
  simp only[waq,wap,pcB,zAx,nm,ByteArray.size_append]at hB;exact base (i0 (by omega)) (zE3 8 _ hb.1 (by omega)) (zE3 8 _ hb.2.1 (by omega)) (zE3 8 _ hb.2.2.1 (by omega)) (rule_r hb.2.2.2 (by omega)) (o0 (by omega)) (l0 (by omega)) (p0 (by omega))
 rw[if_neg k6]at hb hB;by_cases k7:x.kind=7
 ·rw[if_pos k7]at hb hB
  try simp only[wax]at hb
  simp only[waq,wap,pcB,zAx,nm,ByteArray.size_append]at hB;exact base (i0 (by omega)) (zE3 8 _ hb (by omega)) (b0' (by omega) (by omega)) (c0 (by omega)) (r0' (by omega) (by omega)) (o0 (by omega)) (l0 (by omega)) (p0 (by omega))
 rw[if_neg k7]at hb hB;by_cases k8:x.kind=8
 ·rw[if_pos k8]at hb hB
  try simp only[wax]at hb
  simp only[waq,wap,pcB,zAx,nm,ByteArray.size_append]at hB;exact base (i0 (by omega)) (zE3 8 _ hb.1 (by omega)) (zE3 8 _ hb.2 (by omega)) (c0 (by omega)) (r0' (by omega) (by omega)) (o0 (by omega)) (l0 (by omega)) (p0 (by omega))
 rw[if_neg k8]at hb hB;by_cases k9:x.kind=9
 ·rw[if_pos k9]at hb hB;simp only[wax]at hb;simp only[waq,wap,pcB,zAx,nm,ByteArray.size_append]at hB;have ll:=zIi zAD x.args;have lp:=zIi zBz x.ports;refine base (i0 (by omega)) (a0 (by omega)) (b0' (by omega) (by omega)) (c0 (by omega)) (r0' (by omega) (by omega)) (by omega) ⟨fun y hy=> ?_,by omega⟩ ⟨fun y hy=> ?_,by omega⟩
  ·have:=zIj zAD x.args y hy;exact zIt (List.all_eq_true.1 hb.2.1 y hy) (by omega)
  ·have:=zIj zBz x.ports y hy;simp only[zBz,pcB,nm,ByteArray.size_append]at this;exact⟨by omega,by omega⟩
 exact base (i0 k4) (a0 (by omega)) (b0' k6 k8) (c0 k6) (r0' k4 k6) (o0 k9) (l0 k9) (p0 k9)
theorem items_mem: ∀(l:List Item),l.length<=(pcB (zAJ l)).size /\ ∀x∈l,(pcB (zAV x)).size <=(pcB (zAJ l)).size
 | []=>⟨Nat.zero_le _,fun x hx=>by cases hx⟩
 | y::r=>by
  obtain⟨h1,h2⟩:=items_mem r;have e1:bl.2.size=1:=rfl;unfold zAJ;simp only[waq,wap,pcB,zAx,ByteArray.size_append,wad,e1];refine⟨by omega,fun x hx=> ?_⟩;rcases List.mem_cons.1 hx with rfl | hx
  ·omega
  ·have:=h2 x hx; omega
theorem module_r{m:Module}(h:zAG m=true)(hs:(pcB (zAE m)).size <=1000000):modR itemR m:=by
 simp only[zAG,wax]at h;obtain⟨_,_,_,h4⟩:=h;have hp:=zIj zBt m.params;have hpl:=zIi zBt m.params;obtain⟨hi,hj⟩:=items_mem m.items;simp only[zAE,zBQ,waq,wap,pcB,zAx,nm,ByteArray.size_append]at hs;refine⟨by omega,by omega,⟨fun s hs'=> ?_,by omega⟩,⟨fun x hx=> ?_,by omega⟩⟩
 ·have:=hp s hs';simp only[zBt,pcB,nm,ByteArray.size_append]at this;omega
 ·have:=hj x hx;exact item_r (List.all_eq_true.1 h4 x hx) (by omega)
theorem file_mem: ∀(l:List Module),l.length<=(pcB (zAk l)).size /\ ∀x∈l,(pcB (zAE x)).size <=(pcB (zAk l)).size
 | []=>⟨Nat.zero_le _,fun x hx=>by cases hx⟩
 | y::r=>by
  obtain⟨h1,h2⟩:=file_mem r;have e1:bl.2.size=1:=rfl;have e2:1<=(pcB (zAE y)).size :=by
   simp only[zAE,zBQ,waq,wap,pcB,zAx,ByteArray.size_append,e1];omega
  unfold zAk;simp only[zAx,ByteArray.size_append,wad];refine⟨by omega,fun x hx=> ?_⟩;rcases List.mem_cons.1 hx with rfl | hx
  ·omega
  ·have:=h2 x hx; omega
theorem file_r{l:List Module}(h:l.all zAG=true)(hs:(pcB (zAk l)).size <=1000000):(∀m∈l,modR itemR m)/\l.length<=1000000/\(zDF l l.length (e0,true)).1.size <=LIM:=by
 obtain⟨h1,h2⟩:=file_mem l;refine⟨fun m hm=> ?_,by omega,?_⟩
 ·have:=h2 m hm;exact module_r (List.all_eq_true.1 h m hm) (by omega)
 ·have hw:=(wl_mods l l.length (waw _)).ok (by rw[List.take_length]; exact h) e0;rw[List.take_length]at hw;rw[hw];show(e0++pcB (zAk l)).size <=LIM;rw[ByteArray.size_append];have:e0.size=0:=rfl;unfold LIM;omega
set_option maxRecDepth 1000000
def exF:List Module:=[⟨(⟨#[109]⟩:ByteArray),(⟨#[99]⟩:ByteArray),[],[{zBg 1 with name:=(⟨#[97]⟩:ByteArray),width:=⟨3,e0⟩}]⟩]
theorem ex_1:zAQ (⟨#[109,111,100,117,108,101,32,109,40,41,32,64,32,99,32,123,32,105,110,32,97,32,58,32,51,32,59,32,125]⟩:ByteArray)=(exF,0,0):=by kernel_rfl
theorem ex_2:zAQ (⟨#[109,111,100,117,108,101,32,105,102]⟩:ByteArray)=([],7,90):=by kernel_rfl
theorem ex_3:zAQ (⟨#[]⟩:ByteArray)=([],0,0):=by kernel_rfl
theorem ex_4:zAQ (⟨#[109,111,100,117,108,101,32,109,40,41,32,64,32,99,32,123]⟩:ByteArray)=([],16,90):=by kernel_rfl
theorem ex_5:zAQ (⟨#[109,111,100,117,108,101,32,109,40,41,32,64,32,99,32,123,32,105,110,32,97,58,32,119,32,45,32,48,59,32,125]⟩:ByteArray)=([],27,90):=by kernel_rfl
theorem ex_6:zCl exF=((⟨#[109,111,100,117,108,101,32,109,40,41,32,64,32,99,32,123,10,32,32,105,110,32,97,58,32,51,59,10,125,10]⟩:ByteArray),0):=by kernel_rfl
theorem ex_7:zCl [⟨(⟨#[109]⟩:ByteArray),e0,[],[]⟩]=(e0,90):=by kernel_rfl
set_option maxRecDepth 100000
set_option maxHeartbeats 4000000
theorem pra_free(Z:GP)(l:List Module):(zyk 1999 [(40,AO.arr 46 4 .flat (l.map zaC)),(7777777,Z.o)]/\AV.noRefs [1999] [AV.agg [.ar 40 l.length]])/\zCV (om [(40,AO.arr 46 4 .flat (l.map zaC)),(7777777,Z.o)]) []/\AV.noRefs [1999] []:=by
 simp[GZ,zyk,AO.noRef,AV.noRefs,AV.noRef,zCV]
theorem printed_a(Z:GP)(hZ:Z.Ok)(l:List Module)(hl: ∀m∈l,modR itemR m)(hn:l.length<=1000000)(h:(zDF l l.length (e0,true)).1.size <=LIM):
  FnL prog 24 [.agg [.ar 40 l.length]] [(40,.arr 46 4 .flat (l.map zaC)),(7777777,Z.o)] (fun V ol new=>V= .d (.agg [eSb (zCl l).1,eI (zCl l).2])/\ol=[(7777777,Z.o)]/\new=[]):=by
 have hp:=print_w Z hZ l hl hn h;obtain⟨P,hP⟩:=zX (zCl l);rw[hP]at hp ⊢;refine FnL.srt (FnL.of_eH 1999 [] (own:=[]) (fun i=>if i=0 then [.frz 40]else chL i) [] zat func24 rfl call24 ntmps24 (zle rfl) results24 (pra_free Z l) (fun gs=> ?_));simp only[ZE,seval,KE]at hp;simp only[ZE,seval,KE,GZ];refine EFn.gV [(7777777,7777777)] hp ?_ ?_
 ·simp only[ZE,seval,GZ]
 rintro V ol new ⟨rfl,rfl,rfl⟩;simp only[ZE,seval,KE,GZ];refine⟨[1,2,1999],[],?_⟩;simp only[ZE,seval,zAp.eq_1,zAp.eq_2,zAq.eq_1,zAq.eq_2,GZ,zAj.eq_def,ghK.eq_def,zAi.eq_def,hdH.eq_1,hdH.eq_2,kpH.eq_1,kpH.eq_2,hdl.eq_def,zpC.eq_def,zht,AV.core,KE]
theorem zHD(Z:GP)(hZ:Z.Ok):FnL prog 15 [] [(7777777,Z.o)] (fun V ol new=>V= .d (eB true)/\ol=[(7777777,Z.o)]/\new=[]):=by
 have p1:=zC5 Z hZ (⟨#[109,111,100,117,108,101,32,109,40,41,32,64,32,99,32,123,32,105,110,32,97,32,58,32,51,32,59,32,125]⟩:ByteArray) (by decide);have p2:=zC5 Z hZ (⟨#[109,111,100,117,108,101,32,105,102]⟩:ByteArray) (by decide);have p3:=zC5 Z hZ (⟨#[]⟩:ByteArray) (by decide);have p4:=zC5 Z hZ (⟨#[109,111,100,117,108,101,32,109,40,41,32,64,32,99,32,123]⟩:ByteArray) (by decide);have p5:=zC5 Z hZ (⟨#[109,111,100,117,108,101,32,109,40,41,32,64,32,99,32,123,32,105,110,32,97,58,32,119,32,45,32,48,59,32,125]⟩:ByteArray) (by decide);unfold zFV at p1 p2 p3 p4 p5;rw[ex_1]at p1;rw[ex_2]at p2;rw[ex_3]at p3;rw[ex_4]at p4;rw[ex_5]at p5;have fE:=file_r (l:=exF) (by kernel_rfl) (of_decide_eq_true (by kernel_rfl));have p6:=zHf Z hZ exF fE.1 fE.2.1 fE.2.2;have p7:=printed_a Z hZ [⟨(⟨#[109]⟩:ByteArray),e0,[],[]⟩] (fun m hm=>by rw[List.mem_singleton]at hm; subst hm; exact⟨by decide,by decide,⟨by simp,by decide⟩,⟨by simp,by decide⟩⟩) (by decide) (of_decide_eq_true (by kernel_rfl));rw[ex_6]at p6;rw[ex_7]at p7;have s1:=zHk exF 0 0;have s2:=zHk [] 7 90;have s3:=zHk [] 0 0;have s4:=zHk [] 16 90;have s5:=zHk [] 27 90;simp only[ZE,seval,KE,exF,zBg,zBJ,zEV,zCb,x0_k,x0_w,zCa,n0,r0,e0E,wae,wac]at p1;simp only[ZE,seval,KE,exF,zBg,zBJ,zEV,zCb,x0_k,x0_w,zCa,n0,r0,e0E,wae,wac]at s1;simp only[ZE,seval,KE,exF,zBg,zBJ,zEV,zCb,x0_k,x0_w,zCa,n0,r0,e0E,wae,wac]at p6;simp only[ZE,seval,KE,exF,zBg,zBJ,zEV,zCb,x0_k,x0_w,zCa,n0,r0,e0E,wae,wac]at p7;simp only[ZE,seval,KE,exF,zBg,zBJ,zEV,zCb,x0_k,x0_w,zCa,n0,r0,e0E,wae,wac]at p2;simp only[ZE,seval,KE,exF,zBg,zBJ,zEV,zCb,x0_k,x0_w,zCa,n0,r0,e0E,wae,wac]at p3;simp only[ZE,seval,KE,exF,zBg,zBJ,zEV,zCb,x0_k,x0_w,zCa,n0,r0,e0E,wae,wac]at p4;simp only[ZE,seval,KE,exF,zBg,zBJ,zEV,zCb,x0_k,x0_w,zCa,n0,r0,e0E,wae,wac]at p5;simp only[ZE,seval,KE,exF,zBg,zBJ,zEV,zCb,x0_k,x0_w,zCa,n0,r0,e0E,wae,wac]at s2;simp only[ZE,seval,KE,exF,zBg,zBJ,zEV,zCb,x0_k,x0_w,zCa,n0,r0,e0E,wae,wac]at s3;simp only[ZE,seval,KE,exF,zBg,zBJ,zEV,zCb,x0_k,x0_w,zCa,n0,r0,e0E,wae,wac]at s4;simp only[ZE,seval,KE,exF,zBg,zBJ,zEV,zCb,x0_k,x0_w,zCa,n0,r0,e0E,wae,wac]at s5;refine FnL.srt (FnL.of_eH 1999 [] (own:=[]) (fun i=>if i=2003 then [.flt ⟨[(1,none),(2,none),(0,some [1,2]),(3,none),(4,none),(5,none),(6,none),(8,none),(9,none),(7,some [8,9]),(10,none),(11,none),(12,none),(14,none),(13,some [14]),(15,none),(16,none),(17,none),(18,none),(20,none),(19,some [20]),(21,none),(22,none),(23,none),(24,none),(26,none),(25,some [26]),(27,none),(28,none),(29,none)]⟩ ⟨[],[]⟩]else if i=1 then [.frz 7]else []) [] zat func15 rfl call15 ntmps15 (zle rfl) results15 (zCw Z _ (by simp[AV.noRefs,AV.noRef])) (fun gs=> ?_));simp only[ZE,seval,KE,GZ];refine⟨by kernel_rfl,?_⟩;refine EFn.gV [(7777777,7777777)] p1 ?_ ?_
 ·simp only[ZE,seval,GZ]
 rintro V ol new ⟨rfl,rfl,rfl⟩;simp only[ZE,seval,KE,GZ];refine zaz.i s1 ?_;simp only[ZE,seval,KE,GZ,bne_self_eq_false,beq_self_eq_true,decide_true,Bool.not_true,Bool.not_false,waa];refine EFn.gV [(7777777,7777777)] p6 ?_ ?_
 ·simp only[ZE,seval,GZ]
 rintro V ol new ⟨rfl,rfl,rfl⟩;simp only[ZE,seval,KE,GZ,bne_self_eq_false,beq_self_eq_true,decide_true,Bool.not_true,Bool.not_false,waa];refine EFn.gV [(7777777,7777777)] p2 ?_ ?_
 ·simp only[ZE,seval,GZ]
 rintro V ol new ⟨rfl,rfl,rfl⟩;simp only[ZE,seval,KE,GZ,bne_self_eq_false,beq_self_eq_true,decide_true,Bool.not_true,Bool.not_false,waa];refine zaz.i s2 ?_;simp only[ZE,seval,KE,GZ,bne_self_eq_false,beq_self_eq_true,decide_true,Bool.not_true,Bool.not_false,waa];refine EFn.gV [(7777777,7777777)] p3 ?_ ?_
 ·simp only[ZE,seval,GZ]
 rintro V ol new ⟨rfl,rfl,rfl⟩;simp only[ZE,seval,KE,GZ,bne_self_eq_false,beq_self_eq_true,decide_true,Bool.not_true,Bool.not_false,waa];refine zaz.i s3 ?_;simp only[ZE,seval,KE,GZ,bne_self_eq_false,beq_self_eq_true,decide_true,Bool.not_true,Bool.not_false,waa];refine EFn.gV [(7777777,7777777)] p4 ?_ ?_
 ·simp only[ZE,seval,GZ]
 rintro V ol new ⟨rfl,rfl,rfl⟩;simp only[ZE,seval,KE,GZ,bne_self_eq_false,beq_self_eq_true,decide_true,Bool.not_true,Bool.not_false,waa];refine zaz.i s4 ?_;simp only[ZE,seval,KE,GZ,bne_self_eq_false,beq_self_eq_true,decide_true,Bool.not_true,Bool.not_false,waa];refine EFn.gV [(40,40),(7777777,7777777)] p7 ?_ ?_
 ·simp only[ZE,seval,KE,GZ]
 rintro V ol new ⟨rfl,rfl,rfl⟩;simp only[ZE,seval,KE,GZ,bne_self_eq_false,beq_self_eq_true,decide_true,Bool.not_true,Bool.not_false,waa];refine EFn.gV [(7777777,7777777)] p5 ?_ ?_
 ·simp only[ZE,seval,GZ]
 rintro V ol new ⟨rfl,rfl,rfl⟩;simp only[ZE,seval,KE,GZ,bne_self_eq_false,beq_self_eq_true,decide_true,Bool.not_true,Bool.not_false,waa];refine EFn.p ?_;simp only[ZE,seval,KE,GZ];refine zar.i (s5) ?_;simp only[ZE,seval,KE,GZ,bne_self_eq_false,beq_self_eq_true,decide_true,Bool.not_true,Bool.not_false,waa];refine⟨[1,1999],[],?_⟩;simp only[ZE,seval,zAp.eq_1,zAp.eq_2,zAq.eq_1,zAq.eq_2,GZ,zAj.eq_def,ghK.eq_def,zAi.eq_def,hdH.eq_1,hdH.eq_2,kpH.eq_1,kpH.eq_2,hdl.eq_def,zpC.eq_def,zht,AV.core,KE]
theorem zIw{s:Bts}(h8:s.size<=8000){T:List Tok}{l:List Module}(hL:zEW s= .ok T)(hP:zDI T= .ok l):zAQ s=(l,0,0):=by
 unfold zDI at hP;unfold zAQ;rw[if_neg (by omega),hL];simp only[hP]
set_option maxHeartbeats 1000000
def lfB(s:Bts):Nat:=s.data.toList.count 10
def nLf:List Pc->Nat
 | []=>0
 | p::r=>if p.1=0/\p.2=nl.2 then 1+nLf r else nLf r
def whB:List Pc->Bool
 | []=>true
 | p::r=>(decide (p.1≠0)||decide (p.2=bl.2)||decide (p.2=nl.2))&&whB r
theorem zBc(p q:List Pc):nLf (p++q)=nLf p+nLf q:=by
 induction p with
 | nil=>simp[nLf]
 | cons x r ih=>simp only[waq,nLf,ih]; split <;> omega
theorem zBd(p q:List Pc):whB (p++q)=(whB p&&whB q):=by
 induction p with
 | nil=>simp[whB]
 | cons x r ih=>simp only[waq,whB,ih,Bool.and_assoc]
theorem isW_lf{b:UInt8}(h:isW b=true):b≠10:=by
 rintro rfl;revert h;decide
theorem lf_pc{p:Pc}{h:Option UInt8}(hp:zDd p h=true)(h0:p.1≠0):lfB p.2=0:=by
 unfold lfB;rw[List.count_eq_zero];intro hm;unfold zDd at hp;split at hp
 ·rename_i e; exact h0 e
 ·split at hp
  ·rename_i b e;rw[e,List.mem_singleton]at hm;subst hm;simp only[wax,decide_eq_true_eq]at hp;exact absurd hp.1.1 (by decide)
  ·rename_i b c e;rw[e]at hm;simp only[Bool.or_eq_true,wax,decide_eq_true_eq]at hp;simp only[wah,List.mem_nil_iff,or_false]at hm;rcases hp with⟨rfl,rfl⟩ | ⟨rfl,rfl⟩ <;> revert hm <;> decide
  ·cases hp
 ·simp only[wax]at hp;exact isW_lf (List.all_eq_true.1 hp.1.2 _ hm) rfl
theorem lf_pcs: ∀(l:List Pc) (h:Option UInt8),zBb h l=true->whB l=true->lfB (pcB l)=nLf l
 | [],_,_,_=>rfl
 | p::r,h,hp,hw=>by
  simp only[zBb,whB,wax]at hp hw;have ih:=lf_pcs r h hp.2 hw.2;have e:lfB (pcB (p::r))=lfB p.2+lfB (pcB r):=by
   unfold lfB;simp only[pcB,ByteArray.data_append,Array.toList_append,List.count_append]
  have hN:nLf (p::r)=if p.1=0/\p.2=nl.2 then 1+nLf r else nLf r:=rfl
  rw[e,ih,hN];by_cases h0:p.1=0
  ·have h1:=hw.1;simp only[h0,Bool.or_eq_true,decide_eq_true_eq,ne_eq,not_true_eq_false,decide_false,Bool.false_eq_true,false_or]at h1;rcases h1 with h1 | h1
   ·rw[h1,if_neg (by rw[not_and]; intro _; decide)];have:lfB bl.2=0:=(by decide);omega
   ·rw[h1,if_pos ⟨h0,rfl⟩];have:lfB nl.2=1:=(by decide);omega
  ·rw[if_neg (fun h=>h0 h.1),lf_pc hp.1 h0];omega
theorem zFf(r:List Pc):nLf (bl::r)=nLf r:=if_neg (by rw[not_and]; intro _; decide)
theorem zFg(r:List Pc):nLf (nl::r)=1+nLf r:=if_pos ⟨rfl,rfl⟩
theorem zFj(s:Bts)(r:List Pc):nLf (sg s::r)=nLf r:=if_neg (fun h=>by cases h.1)
theorem zFh(s:Bts)(r:List Pc):nLf (nm s::r)=nLf r:=if_neg (fun h=>by cases h.1)
theorem zFi(n:Int)(r:List Pc):nLf (nu n::r)=nLf r:=if_neg (fun h=>by cases h.1)
theorem zC3:nLf []=0:=rfl
theorem zFz(r:List Pc):whB (bl::r)=whB r:=by simp[whB]
theorem zFA(r:List Pc):whB (nl::r)=whB r:=by simp[whB]
theorem zFD(s:Bts)(r:List Pc):whB (sg s::r)=whB r:=by simp[whB,sg]
theorem zFB(s:Bts)(r:List Pc):whB (nm s::r)=whB r:=by simp[whB,nm]
theorem zFC(n:Int)(r:List Pc):whB (nu n::r)=whB r:=by simp[whB,nu]
theorem zDa:whB []=true:=rfl
def one(p:List Pc):Prop:=nLf p=0/\whB p=true
theorem zFU(x:Num):one (zAD x):=by
 unfold one zAD
 repeat' split
 all_goals simp only[waq,wap,wao,zBc,zFf,zFg,zFj,zFh,zFi,zC3,zBd,zFz,zFA,zFD,zFB,zFC,zDa,Bool.true_and,Bool.and_true,Bool.and_self,Nat.add_zero,Nat.zero_add,and_self]
theorem one_op{pc:Expr->List Pc}(hr: ∀e,one (pc e))(e:Expr):one (zDn pc e):=by
 have k:=zFU e.k;have w:=zFU e.w;have a:=hr (e.args.getD 0 x0);have b:=hr (e.args.getD 1 x0);have c:=hr (e.args.getD 2 x0);unfold one at*;unfold zDn
 repeat' split
 all_goals simp only[waq,wap,wao,zBc,zFf,zFg,zFj,zFh,zFi,zC3,zBd,zFz,zFA,zFD,zFB,zFC,zDa,Bool.true_and,Bool.and_true,Bool.and_self,Nat.add_zero,Nat.zero_add,k.1,k.2,w.1,w.2,a.1,a.2,b.1,b.2,c.1,c.2,and_self]
theorem zGO: ∀(d:Nat) (e:Expr),one (zAA d e)
 | 0,_=>⟨rfl,rfl⟩
 | d+1,e=>one_op (zGO d) e
theorem one_rule(r:Rule):one (zBk r):=by
 unfold one zBk
 repeat' split
 all_goals simp only[waq,wap,wao,zBc,zFf,zFg,zFj,zFh,zFi,zC3,zBd,zFz,zFA,zFD,zFB,zFC,zDa,Bool.true_and,Bool.and_true,Bool.and_self,Nat.add_zero,Nat.zero_add,and_self]
theorem one_els{α:Type}{f:α->List Pc}(ho: ∀x,one (f x)): ∀l:List α,one (zBU f l)
 | []=>⟨rfl,rfl⟩
 | [x]=>ho x
 | x::y::r=>by
  have h1:=ho x;have h2:=one_els ho (y::r);unfold one at*;unfold zBU;simp only[waq,wap,wao,zBc,zFf,zFg,zFj,zFh,zFi,zC3,zBd,zFz,zFA,zFD,zFB,zFC,zDa,Bool.true_and,Bool.and_true,Bool.and_self,Nat.add_zero,Nat.zero_add,h1.1,h1.2,h2.1,h2.2,and_self]
theorem zIu{α:Type}{f:α->List Pc}(ho: ∀x,one (f x))(l:List α):one (zA5 f l):=by
 have h:=one_els ho l;unfold one at*;unfold zA5;simp only[waq,wap,wao,zBc,zFf,zFg,zFj,zFh,zFi,zC3,zBd,zFz,zFA,zFD,zFB,zFC,zDa,Bool.true_and,Bool.and_true,Bool.and_self,Nat.add_zero,Nat.zero_add,h.1,h.2,and_self]
theorem one_bind(b:Bind):one (zBz b):=by unfold one zBz; simp only[waq,wap,wao,zBc,zFf,zFg,zFj,zFh,zFi,zC3,zBd,zFz,zFA,zFD,zFB,zFC,zDa,Bool.true_and,Bool.and_true,Bool.and_self,Nat.add_zero,Nat.zero_add,and_self]
theorem one_name(b:Bts):one (zBt b):=by unfold one zBt; simp only[waq,wap,wao,zBc,zFf,zFg,zFj,zFh,zFi,zC3,zBd,zFz,zFA,zFD,zFB,zFC,zDa,Bool.true_and,Bool.and_true,Bool.and_self,Nat.add_zero,Nat.zero_add,and_self]
theorem one_item(x:Item):one (zAV x):=by
 have w:=zFU x.width;have d:=zFU x.depth;have i:=zFU x.init;have a:=zGO 8 x.a;have b:=zGO 8 x.b;have c:=zGO 8 x.c;have r:=one_rule x.rule;have l:=zIu zFU x.args;have p:=zIu one_bind x.ports;have h1:one (zDL x):=by
  unfold one at*;unfold zDL;split <;> simp only[waq,wap,wao,zBc,zFf,zFg,zFj,zFh,zFi,zC3,zBd,zFz,zFA,zFD,zFB,zFC,zDa,Bool.true_and,Bool.and_true,Bool.and_self,Nat.add_zero,Nat.zero_add,w.1,w.2,and_self]
 have h2:one (zDx x):=by
  unfold one at*;unfold zDx;split <;> simp only[waq,wap,wao,zBc,zFf,zFg,zFj,zFh,zFi,zC3,zBd,zFz,zFA,zFD,zFB,zFC,zDa,Bool.true_and,Bool.and_true,Bool.and_self,Nat.add_zero,Nat.zero_add,d.1,d.2,and_self]
 have h3:one (zB7 x):=by
  unfold one at*;unfold zB7
  repeat' split
  all_goals simp only[waq,wap,wao,zBc,zFf,zFg,zFj,zFh,zFi,zC3,zBd,zFz,zFA,zFD,zFB,zFC,zDa,Bool.true_and,Bool.and_true,Bool.and_self,Nat.add_zero,Nat.zero_add,i.1,i.2,a.1,a.2,b.1,b.2,c.1,c.2,r.1,r.2,l.1,l.2,p.1,p.2,and_self]
 unfold one at*;unfold zAV;simp only[waq,wap,wao,zBc,zFf,zFg,zFj,zFh,zFi,zC3,zBd,zFz,zFA,zFD,zFB,zFC,zDa,Bool.true_and,Bool.and_true,Bool.and_self,Nat.add_zero,Nat.zero_add,h1.1,h1.2,h2.1,h2.2,h3.1,h3.2,and_self]
theorem lf_items: ∀l:List Item,nLf (zAJ l)=l.length/\whB (zAJ l)=true
 | []=>⟨rfl,rfl⟩
 | x::r=>by
  have h1:=one_item x;have h2:=lf_items r;unfold one at h1;unfold zAJ;simp only[waq,wap,wao,zBc,zFf,zFg,zFj,zFh,zFi,zC3,zBd,zFz,zFA,zFD,zFB,zFC,zDa,Bool.true_and,Bool.and_true,Bool.and_self,Nat.add_zero,Nat.zero_add,h1.1,h1.2,h2.1,h2.2,and_true,wad];omega
theorem lf_module(m:Module):nLf (zAE m)=2+m.items.length/\whB (zAE m)=true:=by
 have h1:=lf_items m.items;have h2:=zIu one_name m.params;unfold one at h2;unfold zAE zBQ;simp only[waq,wap,wao,zBc,zFf,zFg,zFj,zFh,zFi,zC3,zBd,zFz,zFA,zFD,zFB,zFC,zDa,Bool.true_and,Bool.and_true,Bool.and_self,Nat.add_zero,Nat.zero_add,h1.1,h1.2,h2.1,h2.2,and_true];omega
def zD5:List Module->Nat
 | []=>0
 | m::r=>2+m.items.length+zD5 r
theorem lf_file: ∀l:List Module,nLf (zAk l)=zD5 l/\whB (zAk l)=true
 | []=>⟨rfl,rfl⟩
 | m::r=>by
  have h1:=lf_module m;have h2:=lf_file r;unfold zAk zD5;simp only[waq,wap,wao,zBc,zFf,zFg,zFj,zFh,zFi,zC3,zBd,zFz,zFA,zFD,zFB,zFC,zDa,Bool.true_and,Bool.and_true,Bool.and_self,Nat.add_zero,Nat.zero_add,h1.1,h1.2,h2.1,h2.2,and_self]
theorem lines_law{l:List Module}(h:l.all zAG=true):lfB (pcB (zAk l))=zD5 l:=by
 rw[lf_pcs _ none (zEf l h) (lf_file l).2,(lf_file l).1]
def zAY(l:List Nat)(a:Nat):Nat:=l.getD a 0
def nameL:List Bts:=[(⟨#[97]⟩:ByteArray),(⟨#[98]⟩:ByteArray),(⟨#[99,48]⟩:ByteArray),(⟨#[119]⟩:ByteArray),(⟨#[120,49,121]⟩:ByteArray),(⟨#[116,111,112]⟩:ByteArray),(⟨#[122,57]⟩:ByteArray),(⟨#[109]⟩:ByteArray)]
def zCk(n:Nat):Bts:=nameL.getD (n % 8) e0
def zHM(l:List Nat)(a:Nat):Num:=
 if zAY l a % 4=2 then⟨0,zCk (zAY l (a+1))⟩
 else if zAY l a % 4=3 then(if zAY l a % 8=3 then⟨((1+zAY l (a+1) % 20:Nat):Int),zCk (zAY l a / 8)⟩else⟨-1-((zAY l (a+1) % 20:Nat):Int),zCk (zAY l a / 8)⟩)
 else⟨((zAY l (a+1) % 20:Nat):Int),e0⟩
def zIh(l:List Nat)(a:Nat):Expr×Nat:=
 if zAY l a / 3 % 2=0 then(.mk 1 e0 (zHM l (a+1)) (zHM l (a+3)) [],a+5)else(.mk 14 (zCk (zAY l a / 6)) n0 n0 [],a+1)
def opsG:List Nat:=[2,3,4,5,6,7,8,9,10,11,12,13,15]
def zEq(rec:Nat->Expr×Nat):Nat->Nat->List Expr×Nat
 | 0,a=>([],a)
 | n+1,a=>((zEq rec n a).1 ++[(rec (zEq rec n a).2).1],(rec (zEq rec n a).2).2)
def arG(op:Nat):Nat:=if op=2\/op=12\/op=13\/op=15 then 1 else if op=10 then 3 else 2
def zGw(rec:Nat->Expr×Nat)(b op:Nat)(k w:Num)(a:Nat):Expr×Nat:=
 (.mk op (if op=15 then zCk (b / 39)else e0) k w (zEq rec (arG op) a).1,(zEq rec (arG op) a).2)
def zCC(l:List Nat):Nat->Nat->Expr×Nat
 | 0,a=>zIh l a
 | d+1,a=>if d=0\/zAY l a % 3=0 then zIh l a else
  let b:=zAY l a
  let op:=opsG.getD (b / 3 % 13) 0
  if op=12 then zGw (zCC l d) b op (zHM l (a+1)) (zHM l (a+3)) (a+5)
  else if op=13 then zGw (zCC l d) b op n0 (zHM l (a+1)) (a+3)
  else zGw (zCC l d) b op n0 n0 (a+1)
def zCe(e:Expr):Nat->Expr
 | 0=>e
 | n+1=>.mk 2 e0 n0 n0 [zCe e n]
def ruleG(l:List Nat)(a:Nat):Rule:=
 if zAY l a % 4=1 then⟨1,e0,0⟩else if zAY l a % 4=2 then⟨2,zCk (zAY l (a+1)),0⟩else if zAY l a % 4=3 then⟨3,zCk (zAY l (a+1)),zAY l a⟩else r0
def zIT(l:List Nat)(a:Nat)(n:Nat):List Num:=(List.range n).map fun i=>zHM l (a+2*i)
def zHI(l:List Nat)(a:Nat)(k n:Nat):List Bind:=(List.range n).map fun i=>⟨zCk (zAY l (a+i)),zCk (i+k)⟩
def zgm(l:List Nat)(a:Nat)(b n k:Nat):Item×Nat:=
 let x:Item:=⟨k,zCk n,if k<=6 then zHM l (a+2)else n0,if k=3\/k=6 then zHM l (a+4)else n0,if k=4 then zHM l (a+4)else n0,x0,x0,x0,if k=4\/k=6 then ruleG l (a+6)else r0,e0,[],[]⟩
 if k=9 then({x with of:=zCk (b / 9),args:=zIT l (a+8) (n / 8 % 3),ports:=zHI l (a+8) n (n / 8 % 3)},a+12)
 else if k<4 then(x,a+8)
 else
  let e:=zCC l 3 (a+8)
  let y:=if n / 8 % 8=7 then zCe e.1 5 else e.1
  if k=6 then({x with a:=y,b:=(zCC l 2 e.2).1,c:=(zCC l 2 (zCC l 2 e.2).2).1},(zCC l 2 (zCC l 2 e.2).2).2)
  else if k=8 then({x with a:=y,b:=(zCC l 2 e.2).1},(zCC l 2 e.2).2)
  else({x with a:=y},e.2)
def zIU(l:List Nat)(a:Nat):Item×Nat:=zgm l a (zAY l a) (zAY l (a+1)) (1+zAY l a % 9)
def zG2(l:List Nat):Nat->List Item->Nat->List Item
 | 0,acc,_=>acc
 | n+1,acc,a=>if acc.length=0\/a<l.length then zG2 l n (acc++[(zIU l a).1]) (zIU l a).2 else acc
def zD0(l:List Nat):List Bts:=(List.range (zAY l 0 / 8 % 3)).map fun i=>zCk (zAY l 1 / 8+i)
def zDu(l:List Nat):Module:=⟨zCk (zAY l 0),zCk (zAY l 1),zD0 l,zG2 l 4 [] 2⟩
def zE4(x:List (List Nat)):List Module:=if x.length=0 then [zDu []]else(x.take 3).map zDu
theorem zBD(n:Nat):zAN (zCk n)=true/\(zCk n).size <=3/\zCk n≠e0:=by
 have h: ∀i,i<8->zAN (nameL.getD i e0)=true/\(nameL.getD i e0).size <=3/\nameL.getD i e0≠e0:=by decide
 exact h _ (Nat.mod_lt _ (by decide))
theorem zBv:(pcB []).size =0:=rfl
theorem zA3(p:Pc)(r:List Pc):(pcB (p::r)).size =p.2.size+(pcB r).size :=ByteArray.size_append
theorem zBw(p q:List Pc):(pcB (p++q)).size =(pcB p).size +(pcB q).size :=by rw[zAx,ByteArray.size_append]
theorem zGj(a:UInt8):(⟨#[a]⟩:ByteArray).size =1:=rfl
theorem zGk(a b:UInt8):(⟨#[a,b]⟩:ByteArray).size =2:=rfl
theorem zGl(a b c:UInt8):(⟨#[a,b,c]⟩:ByteArray).size =3:=rfl
theorem zGm(a b c d:UInt8):(⟨#[a,b,c,d]⟩:ByteArray).size =4:=rfl
theorem zGn(a b c d e f:UInt8):(⟨#[a,b,c,d,e,f]⟩:ByteArray).size =6:=rfl
theorem zEb: ∀n:Nat,n<256->(zB2 (n:Int)).size <=3/\(n<100->(zB2 (n:Int)).size <=2):=of_decide_eq_true (by kernel_rfl)
theorem zDw(l:List Nat)(a:Nat):zAX (zHM l a)=true/\(pcB (zAD (zHM l a))).size <=8:=by
 have h1:=Nat.mod_lt (zAY l (a+1)) (show 0<20 by decide);obtain⟨n,hn⟩:=zX (zAY l (a+1) % 20);unfold zHM;rw[hn]at h1 ⊢;split
 ·obtain⟨p1,p2,p3⟩:=zBD (zAY l (a+1));unfold zAX zAD;simp only[p3,if_false,p1];exact⟨rfl,by simp[zA3,zBv,nm]; omega⟩
 split
 ·obtain⟨p1,p2,p3⟩:=zBD (zAY l a / 8);split
  ·have:=(zEb (1+n) (by omega)).2 (by omega);unfold zAX zAD;simp only[p3,if_false,p1,Bool.true_and,wax,decide_eq_true_eq];rw[if_pos (by omega)];exact⟨by omega,by simp only[zBv,zA3,zBw,zGj,zGk,zGl,zGm,zGn,bl,nl,sg,nm,nu,waq,wap]; omega⟩
  ·have:=(zEb (1+n) (by omega)).2 (by omega);have e: -(-1-(n:Int))=((1+n:Nat):Int):=by omega
   unfold zAX zAD;simp only[p3,if_false,p1,Bool.true_and,wax,decide_eq_true_eq];rw[if_neg (by omega),if_pos (by omega),e];exact⟨by omega,by simp only[zBv,zA3,zBw,zGj,zGk,zGl,zGm,zGn,bl,nl,sg,nm,nu,waq,wap]; omega⟩
 ·have:=(zEb n (by omega)).2 (by omega);unfold zAX zAD zCf;simp only[if_true,wax,decide_eq_true_eq];exact⟨by omega,by simp only[zBv,zA3,zBw,zGj,zGk,zGl,zGm,zGn,bl,nl,sg,nm,nu,waq,wap]; omega⟩
def szE:Nat->Nat
 | 0=>21
 | d+1=>if d=0 then 21 else 8+3*szE d
theorem szE_ge: ∀d,21<=szE d
 | 0=>waw _
 | d+1=>by
  have:=szE_ge d;unfold szE;split <;> omega
theorem fit_1{D:Nat}(hD:1<=D)(e:Expr):zAB D e=(decide ((e.args.length:Int)=zBi e.op)&&(zCi e&&zCj (zAB (D-1)) e))/\zAA D e=zDn (zAA (D-1)) e:=by
 obtain⟨D',rfl⟩: ∃D',D=D'+1:=⟨D-1,by omega⟩;exact⟨rfl,rfl⟩
theorem leafG_ok(l:List Nat)(a D:Nat)(hD:1<=D):zAB D (zIh l a).1 =true/\(pcB (zAA D (zIh l a).1)).size <=21:=by
 rw[(fit_1 hD _).1,(fit_1 hD _).2];unfold zIh;split
 ·obtain⟨k1,k2⟩:=zDw l (a+1);obtain⟨w1,w2⟩:=zDw l (a+3);refine⟨?_,?_⟩
  ·simp[Expr.args,Expr.op,zBi,zCi,Expr.name,Expr.k,Expr.w,zCj,k1,w1]
  ·simp only[zDn,Expr.op,Expr.k,Expr.w,if_true,zBv,zA3,zBw,zGj,zGk,zGl,zGm,zGn,bl,nl,sg,nm,nu,waq,wap]; omega
 ·obtain⟨p1,p2,p3⟩:=zBD (zAY l a / 6);refine⟨?_,?_⟩
  ·simp[Expr.args,Expr.op,zBi,zCi,Expr.name,Expr.k,Expr.w,zCj,p1,zCW,n0]
  ·simp[zDn,Expr.op,Expr.name,zA3,zBv,nm]; omega
theorem zIO(rec:Nat->Expr×Nat): ∀n a,(zEq rec n a).1.length =n
 | 0,_=>rfl
 | n+1,a=>by simp[zEq,zIO rec n a]
theorem argsG_all{rec:Nat->Expr×Nat}{p:Expr->Prop}(h: ∀a,p (rec a).1): ∀n a,∀e∈(zEq rec n a).1,p e
 | 0,_,e,he=>by simp[zEq]at he
 | n+1,a,e,he=>by
  simp only[zEq,List.mem_append,List.mem_singleton]at he;rcases he with he | rfl
  ·exact argsG_all h n a e he
  ·exact h _
theorem zIq{rec:Nat->Expr×Nat}{D z:Nat}(hz:21<=z)(hr: ∀a,zAB D (rec a).1 =true/\(pcB (zAA D (rec a).1)).size <=z)(b:Nat){op:Nat}(ho:op∈opsG){k w:Num}
  (hk:zAX k=true/\(pcB (zAD k)).size <=8) (hw:zAX w=true/\(pcB (zAD w)).size <=8) (hk2:op≠12->k=n0) (hw2:op≠12->op≠13->w=n0) (a:Nat):
  zAB (D+1) (zGw rec b op k w a).1 =true/\(pcB (zAA (D+1) (zGw rec b op k w a).1)).size <=8+3*z:=by
 obtain⟨p1,p2,p3⟩:=zBD (b / 39);have hl:=zIO rec (arG op) a;have ha:=argsG_all (p:=fun e=>zAB D e=true/\(pcB (zAA D e)).size <=z) hr (arG op) a;unfold zGw;obtain⟨L,hL⟩:=zX ((zEq rec (arG op) a).1);rw[hL]at hl ha ⊢;have hx0:zCW n0=true:=rfl;simp only[opsG,wah,List.mem_nil_iff,or_false]at ho;rcases ho with rfl | rfl | rfl | rfl | rfl | rfl | rfl | rfl | rfl | rfl | rfl | rfl | rfl
 case inl=>
  obtain⟨x,rfl⟩: ∃x,L=[x]:=by
   match L,hl with
   | [x],_=>exact⟨x,rfl⟩
  obtain⟨x1,x2⟩:=ha x (by simp);obtain rfl:=hk2 (by decide);obtain rfl:=hw2 (by decide) (by decide);refine⟨?_,?_⟩
  ·simp[zAB,Expr.args,Expr.op,zBi,zCi,Expr.name,Expr.k,Expr.w,zCj,p1,p3,hk.1,hw.1,x1,hx0]
  ·simp[zAA,zDn,Expr.args,Expr.op,Expr.name,Expr.k,Expr.w,zBv,zA3,zBw,zGj,zGk,zGl,zGm,zGn,bl,nl,sg,nm,nu,waq,wap]; omega
 case inr.inr.inr.inr.inr.inr.inr.inr.inr.inr.inl=>
  obtain⟨x,rfl⟩: ∃x,L=[x]:=by
   match L,hl with
   | [x],_=>exact⟨x,rfl⟩
  obtain⟨x1,x2⟩:=ha x (by simp);refine⟨?_,?_⟩
  ·simp[zAB,Expr.args,Expr.op,zBi,zCi,Expr.name,Expr.k,Expr.w,zCj,p1,p3,hk.1,hw.1,x1,hx0]
  ·simp[zAA,zDn,Expr.args,Expr.op,Expr.name,Expr.k,Expr.w,zBv,zA3,zBw,zGj,zGk,zGl,zGm,zGn,bl,nl,sg,nm,nu,waq,wap]; omega
 case inr.inr.inr.inr.inr.inr.inr.inr.inr.inr.inr.inl=>
  obtain⟨x,rfl⟩: ∃x,L=[x]:=by
   match L,hl with
   | [x],_=>exact⟨x,rfl⟩
  obtain⟨x1,x2⟩:=ha x (by simp);obtain rfl:=hk2 (by decide);refine⟨?_,?_⟩
  ·simp[zAB,Expr.args,Expr.op,zBi,zCi,Expr.name,Expr.k,Expr.w,zCj,p1,p3,hk.1,hw.1,x1,hx0]
  ·simp[zAA,zDn,Expr.args,Expr.op,Expr.name,Expr.k,Expr.w,zBv,zA3,zBw,zGj,zGk,zGl,zGm,zGn,bl,nl,sg,nm,nu,waq,wap]; omega
 case inr.inr.inr.inr.inr.inr.inr.inr.inr.inr.inr.inr=>
  obtain⟨x,rfl⟩: ∃x,L=[x]:=by
   match L,hl with
   | [x],_=>exact⟨x,rfl⟩
  obtain⟨x1,x2⟩:=ha x (by simp);obtain rfl:=hk2 (by decide);obtain rfl:=hw2 (by decide) (by decide);refine⟨?_,?_⟩
  ·simp[zAB,Expr.args,Expr.op,zBi,zCi,Expr.name,Expr.k,Expr.w,zCj,p1,p3,hk.1,hw.1,x1,hx0]
  ·simp[zAA,zDn,Expr.args,Expr.op,Expr.name,Expr.k,Expr.w,zBv,zA3,zBw,zGj,zGk,zGl,zGm,zGn,bl,nl,sg,nm,nu,waq,wap]; omega
 case inr.inr.inr.inr.inr.inr.inr.inr.inl=>
  obtain⟨x,y,z',rfl⟩: ∃x y z',L=[x,y,z']:=by
   match L,hl with
   | [x,y,z'],_=>exact⟨x,y,z',rfl⟩
  obtain⟨x1,x2⟩:=ha x (by simp);obtain⟨y1,y2⟩:=ha y (by simp);obtain⟨z1,z2⟩:=ha z' (by simp);obtain rfl:=hk2 (by decide);obtain rfl:=hw2 (by decide) (by decide);refine⟨?_,?_⟩
  ·simp[zAB,Expr.args,Expr.op,zBi,zCi,Expr.name,Expr.k,Expr.w,zCj,x1,y1,z1,hx0]
  ·simp[zAA,zDn,Expr.args,Expr.op,Expr.name,Expr.k,Expr.w,zBv,zA3,zBw,zGj,zGk,zGl,zGm,zGn,bl,nl,sg,nm,nu,waq,wap]; omega
 all_goals
  obtain⟨x,y,rfl⟩: ∃x y,L=[x,y]:=by
   match L,hl with
   | [x,y],_=>exact⟨x,y,rfl⟩
  obtain⟨x1,x2⟩:=ha x (by simp);obtain⟨y1,y2⟩:=ha y (by simp);obtain rfl:=hk2 (by decide);obtain rfl:=hw2 (by decide) (by decide);refine⟨?_,?_⟩
  ·simp[zAB,Expr.args,Expr.op,zBi,zAS,opL,zCi,Expr.name,Expr.k,Expr.w,zCj,x1,y1,hx0,e0]
  ·simp[zAA,zDn,zAS,opL,Expr.args,Expr.op,Expr.name,Expr.k,Expr.w,zBv,zA3,zBw,zGj,zGk,zGl,zGm,zGn,bl,nl,sg,nm,nu,waq,wap]; omega
theorem genE_ok(l:List Nat): ∀(d D a:Nat),d<=D->1<=D->zAB D (zCC l d a).1 =true/\(pcB (zAA D (zCC l d a).1)).size <=szE d
 | 0,D,a,_,hD=>leafG_ok l a D hD
 | d+1,D,a,hd,hD=>by
  have hop:opsG.getD (zAY l a / 3 % 13) 0∈opsG:=by
   have h: ∀i,i<13->opsG.getD i 0∈opsG:=by decide
   exact h _ (Nat.mod_lt _ (by decide))
  have hz:=szE_ge d;unfold zCC;by_cases h0:d=0\/zAY l a % 3=0
  ·rw[if_pos h0];obtain⟨h1,h2⟩:=leafG_ok l a D hD;refine⟨h1,?_⟩;unfold szE;split <;> omega
  rw[if_neg h0];simp only[];obtain⟨op,ho⟩:=zX (opsG.getD (zAY l a / 3 % 13) 0);rw[ho]at hop ⊢;obtain⟨D',rfl⟩: ∃D',D=D'+1:=⟨D-1,by omega⟩;have hs:szE (d+1)=8+3*szE d:=if_neg (by omega);rw[hs];have hr: ∀a,zAB D' (zCC l d a).1 =true/\(pcB (zAA D' (zCC l d a).1)).size <=szE d:=fun a=>genE_ok l d D' a (by omega) (by omega);have hn0:zAX n0=true/\(pcB (zAD n0)).size <=8:=of_decide_eq_true (by kernel_rfl);split
  ·exact zIq hz hr _ hop (zDw _ _) (zDw _ _) (fun h=>absurd ‹_› h) (fun h=>absurd ‹_› h) _
  split
  ·exact zIq hz hr _ hop hn0 (zDw _ _) (fun _=>rfl) (fun _ h=>absurd ‹_› h) _
  ·exact zIq hz hr _ hop hn0 hn0 (fun _=>rfl) (fun _ _=>rfl) _
theorem notsG_ok{e:Expr}{d z:Nat}(h: ∀D,d<=D->zAB D e=true/\(pcB (zAA D e)).size <=z): ∀(n D:Nat),d+n<=D->zAB D (zCe e n)=true/\(pcB (zAA D (zCe e n))).size <=z+n
 | 0,D,hD=>h D hD
 | n+1,D,hD=>by
  obtain⟨D',rfl⟩: ∃D',D=D'+1:=⟨D-1,by omega⟩;obtain⟨h1,h2⟩:=notsG_ok h n D' (by omega);have hx0:zCW n0=true:=rfl;refine⟨?_,?_⟩
  ·simp[zCe,zAB,Expr.args,Expr.op,zBi,zCi,Expr.name,Expr.k,Expr.w,zCj,h1,hx0]
  ·simp[zCe,zAA,zDn,Expr.args,Expr.op,zBv,zA3,zBw,zGj,zGk,zGl,zGm,zGn,bl,nl,sg,nm,nu,waq,wap]; omega
theorem ruleG_ok(l:List Nat)(a:Nat)(hb: ∀b∈l,b<256):zBZ (ruleG l a)=true/\(pcB (zBk (ruleG l a))).size <=11:=by
 obtain⟨p1,p2,p3⟩:=zBD (zAY l (a+1));have hlt:zAY l a<256:=by
  unfold zAY;rw[List.getD];cases h:l[a]? with
  | none=>decide
  | some x=>exact hb x (List.mem_of_getElem? h)
 have:=(zEb _ hlt).1;unfold ruleG;split
 ·decide
 split
 ·exact⟨by simp[zBZ,p1],by simp[zBk,zBv,zA3,zBw,zGj,zGk,zGl,zGm,zGn,bl,nl,sg,nm,nu,waq,wap]; omega⟩
 split
 ·exact⟨by simp[zBZ,p1,zCf]; omega,by simp[zBk,zBv,zA3,zBw,zGj,zGk,zGl,zGm,zGn,bl,nl,sg,nm,nu,waq,wap]; omega⟩
 ·decide
theorem sz_rest{α:Type}{one:α->List Pc}{z:Nat}: ∀ {l:List α},(∀x∈l,(pcB (one x)).size <=z)->(pcB (zBU one l)).size <=l.length*(z+2)
 | [],_=>Nat.zero_le _
 | [x],h=>by
  have:=h x (by simp);simp only[zBU,List.length_singleton]; omega
 | x::y::r,h=>by
  have h1:=h x (by simp);have h2:=sz_rest (l:=y::r) (fun w hw=>h w (by simp[hw]));unfold zBU;rw[wad,Nat.succ_mul];simp only[zBv,zA3,zBw,zGj,zGk,zGl,zGm,zGn,bl,nl,sg,nm,nu,waq,wap]at h2 ⊢;omega
theorem sz_list{α:Type}{one:α->List Pc}{z:Nat}{l:List α}(h: ∀x∈l,(pcB (one x)).size <=z):(pcB (zA5 one l)).size <=2+l.length*(z+2):=by
 have:=sz_rest h;unfold zA5;simp only[zBv,zA3,zBw,zGj,zGk,zGl,zGm,zGn,bl,nl,sg,nm,nu,waq,wap];omega
theorem kw_small(k:Nat):k<9->(kwL.getD k e0).size <=4:=by
 have h: ∀k,k<9->(kwL.getD k e0).size <=4:=by decide
 exact h k
theorem exprA_ok(l:List Nat)(a n:Nat):let y:=if n / 8 % 8=7 then zCe (zCC l 3 a).1 5 else(zCC l 3 a).1
  zAB 8 y=true/\(pcB (zAA 8 y)).size <=226:=by
 have h: ∀D,3<=D->zAB D (zCC l 3 a).1 =true/\(pcB (zAA D (zCC l 3 a).1)).size <=221:=fun D hD=>genE_ok l 3 D a hD (by omega);intro y;show zAB 8 (if n / 8 % 8=7 then zCe (zCC l 3 a).1 5 else(zCC l 3 a).1)=true/\(pcB (zAA 8 (if n / 8 % 8=7 then zCe (zCC l 3 a).1 5 else(zCC l 3 a).1))).size <=226;split
 ·exact notsG_ok h 5 8 (by omega)
 ·have:=h 8 (by omega);exact⟨this.1,by omega⟩
theorem exprB_ok(l:List Nat)(a:Nat):zAB 8 (zCC l 2 a).1 =true/\(pcB (zAA 8 (zCC l 2 a).1)).size <=71:=genE_ok l 2 8 a (by omega) (by omega)
theorem item_sz{x:Item}(hk:1<=x.kind/\x.kind<=9)(hn:zAN x.name=true/\x.name.size<=3)(hz:zDm x=true)(hw:zAX x.width=true/\(pcB (zAD x.width)).size <=8)(hd:zAX x.depth=true/\(pcB (zAD x.depth)).size <=8)
  (hb:zBB x=true/\(pcB (zB7 x)).size <=391):zAW x=true/\(pcB (zAV x)).size <=420:=by
 have hkw:=kw_small (x.kind-1).toNat (by omega);refine⟨?_,?_⟩
 ·unfold zAW;simp[hk,hn.1,hz,hw.1,hd.1,hb.1]
 ·have w1:(pcB (zDL x)).size <=10:=by
   unfold zDL;split
   ·simp only[zBv,zA3,zBw,zGj,zGk,zGl,zGm,zGn,bl,nl,sg,nm,nu,waq,wap]; omega
   ·simp only[zBv,zA3,zBw,zGj,zGk,zGl,zGm,zGn,bl,nl,sg,nm,nu,waq,wap]; omega
  have d1:(pcB (zDx x)).size <=11:=by
   unfold zDx;split
   ·simp only[zBv,zA3,zBw,zGj,zGk,zGl,zGm,zGn,bl,nl,sg,nm,nu,waq,wap]; omega
   ·simp only[zBv,zA3,zBw,zGj,zGk,zGl,zGm,zGn,bl,nl,sg,nm,nu,waq,wap]; omega
  unfold zAV;simp only[zBv,zA3,zBw,zGj,zGk,zGl,zGm,zGn,bl,nl,sg,nm,nu,waq,wap];omega
theorem n0_ok:zAX n0=true/\(pcB (zAD n0)).size <=8:=of_decide_eq_true (by kernel_rfl)
theorem itemK_ok(l:List Nat)(hl: ∀b∈l,b<256)(a b n k:Nat)(hk:1<=k/\k<=9):zAW (zgm l a b n k).1 =true/\(pcB (zAV (zgm l a b n k).1)).size <=420:=by
 obtain⟨p1,p2,p3⟩:=zBD n;have hw:=zDw l (a+2);have hd:=zDw l (a+4);have hr:=ruleG_ok l (a+6) hl;have hA:=exprA_ok l (a+8) n;have hB:=exprB_ok l (zCC l 3 (a+8)).2;have hC:=exprB_ok l (zCC l 2 (zCC l 3 (a+8)).2).2;have x0a:zCE x0=true:=rfl;have n0a:zCW n0=true:=rfl;have hk9:k=1\/k=2\/k=3\/k=4\/k=5\/k=6\/k=7\/k=8\/k=9:=by omega
 simp only[]at hA;obtain⟨A,hAe⟩:=zX ((if n / 8 % 8=7 then zCe (zCC l 3 (a+8)).1 5 else(zCC l 3 (a+8)).1));rw[hAe]at hA;obtain⟨a1,a2⟩:=hA;obtain⟨b1,b2⟩:=hB;obtain⟨c1,c2⟩:=hC;obtain⟨r1,r2⟩:=hr;unfold zgm;simp only[hAe];rcases hk9 with rfl | rfl | rfl | rfl | rfl | rfl | rfl | rfl | rfl
 case inr.inr.inr.inr.inr.inr.inr.inr=>
  refine item_sz ⟨by simp,by simp⟩ ⟨p1,p2⟩ (by simp[zDm,x0a,n0a]) n0_ok n0_ok ⟨?_,?_⟩
  ·simp[zBB,(zBD (b / 9)).1,zIT,zHI,zCL,zDw,zBD]
  ·have q1:=sz_list (one:=zAD) (z:=8) (l:=zIT l (a+8) (n / 8 % 3)) (fun x hx=>by
    simp only[zIT,wak]at hx;obtain⟨i,_,rfl⟩:=hx;exact(zDw _ _).2)
   have q2:=sz_list (one:=zBz) (z:=9) (l:=zHI l (a+8) n (n / 8 % 3)) (fun x hx=>by
    simp only[zHI,wak]at hx;obtain⟨i,_,rfl⟩:=hx;have h1:=(zBD (zAY l (a+8+i))).2.1;have h2:=(zBD (i+n)).2.1;simp only[zBz,zBv,zA3,zBw,zGj,zGk,zGl,zGm,zGn,bl,nl,sg,nm,nu,waq,wap];omega)
   have q3:n / 8 % 3<=2:=by omega
   have q4:=(zBD (b / 9)).2.1;simp only[zIT,zHI,waa,List.length_range]at q1 q2;simp[zB7,zBv,zA3,zBw,zGj,zGk,zGl,zGm,zGn,bl,nl,sg,nm,nu,waq,wap,zIT,zHI] ;have:=Nat.mul_le_mul_right 10 q3;have:=Nat.mul_le_mul_right 11 q3;omega
 all_goals
  refine item_sz ⟨by simp,by simp⟩ ⟨p1,p2⟩ (by simp[zDm,x0a,n0a]) (by first | exact hw | exact n0_ok) (by first | exact hd | exact n0_ok) ⟨?_,?_⟩
  ·simp[zBB,hd.1,a1,b1,c1,r1]
  ·simp[zB7,zBv,zA3,zBw,zGj,zGk,zGl,zGm,zGn,bl,nl,sg,nm,nu,waq,wap]
   try omega
theorem itemG_ok(l:List Nat)(hl: ∀b∈l,b<256)(a:Nat):zAW (zIU l a).1 =true/\(pcB (zAV (zIU l a).1)).size <=420:=itemK_ok l hl a _ _ _ (by omega)
theorem itemsG_ok(l:List Nat)(hl: ∀b∈l,b<256): ∀(n:Nat) (acc:List Item) (a:Nat),(∀x∈acc,zAW x=true/\(pcB (zAV x)).size <=420)->
  (∀x∈zG2 l n acc a,zAW x=true/\(pcB (zAV x)).size <=420)/\(zG2 l n acc a).length <=acc.length+n/\(0<acc.length+n->0<(zG2 l n acc a).length)
 | 0,acc,a,h=>⟨h,waw _,fun h=>h⟩
 | n+1,acc,a,h=>by
  unfold zG2;split
  ·obtain⟨h1,h2,h3⟩:=itemsG_ok l hl n (acc++[(zIU l a).1]) (zIU l a).2 (fun x hx=>by
    rw[List.mem_append,List.mem_singleton]at hx;rcases hx with hx | rfl
    ·exact h x hx
    ·exact itemG_ok l hl a)
   rw[wab,List.length_singleton]at h2 h3;exact⟨h1,by omega,fun _=>h3 (by omega)⟩
  ·exact⟨h,by omega,fun _=>by omega⟩
theorem sz_items: ∀ {l:List Item},(∀x∈l,(pcB (zAV x)).size <=420)->(pcB (zAJ l)).size <=l.length*424
 | [],_=>Nat.zero_le _
 | x::r,h=>by
  have h1:=h x (by simp);have h2:=sz_items (l:=r) (fun y hy=>h y (by simp[hy]));unfold zAJ;rw[wad,Nat.succ_mul];simp only[zBv,zA3,zBw,zGj,zGk,zGl,zGm,zGn,bl,nl,sg,nm,nu,waq,wap];omega
theorem zFR(l:List Nat)(hl: ∀b∈l,b<256):zAG (zDu l)=true/\(pcB (zAE (zDu l))).size <=1740/\0<(zDu l).items.length /\(zDu l).items.length <=4:=by
 obtain⟨n1,n2,n3⟩:=zBD (zAY l 0);obtain⟨c1,c2,c3⟩:=zBD (zAY l 1);have hI:=itemsG_ok l hl 4 [] 2 (by simp);obtain⟨I,hIe⟩:=zX (zG2 l 4 [] 2);have hM:zDu l=⟨zCk (zAY l 0),zCk (zAY l 1),zD0 l,I⟩:=by unfold zDu; rw[hIe]
 rw[hIe]at hI;obtain⟨i1,i2,i3⟩:=hI;rw[hM];have p1:(zD0 l).all zAN=true:=by
  rw[List.all_eq_true];intro s hs;simp only[zD0,wak]at hs;obtain⟨i,_,rfl⟩:=hs;exact(zBD _).1
 have p2:=sz_list (one:=zBt) (z:=3) (l:=zD0 l) (fun x hx=>by
  simp only[zD0,wak]at hx;obtain⟨i,_,rfl⟩:=hx;have:=(zBD (zAY l 1 / 8+i)).2.1;simp only[zBt,zBv,zA3,zBw,zGj,zGk,zGl,zGm,zGn,bl,nl,sg,nm,nu,waq,wap]; omega)
 have p3:(zD0 l).length <=2:=by simp only[zD0,waa,List.length_range]; omega
 have i4:=sz_items (fun x hx=>(i1 x hx).2);simp only[wag]at i2 i3;refine⟨?_,?_,i3 (by omega),by simpa using i2⟩
 ·simp only[zAG,n1,p1,c1,Bool.true_and,List.all_eq_true];exact fun x hx=>(i1 x hx).1
 ·simp only[zAE,zBQ,zBv,zA3,zBw,zGj,zGk,zGl,zGm,zGn,bl,nl,sg,nm,nu,waq,wap];omega
theorem sz_file: ∀ {l:List Module},(∀m∈l,(pcB (zAE m)).size <=1740)->(pcB (zAk l)).size <=l.length*1740
 | [],_=>Nat.zero_le _
 | m::r,h=>by
  have h1:=h m (by simp);have h2:=sz_file (l:=r) (fun y hy=>h y (by simp[hy]));unfold zAk;rw[wad,Nat.succ_mul,zBw];omega
theorem fileG_ok(x:List (List Nat))(hx: ∀l∈x,∀b∈l,b<256):(zE4 x).all zAG=true/\(pcB (zAk (zE4 x))).size <=5220/\(zE4 x).length <=3/\0<(zE4 x).length /\ ∀m∈zE4 x,0<m.items.length/\m.items.length<=4:=by
 have h: ∀m∈zE4 x,∃l,(∀b∈l,b<256)/\m=zDu l:=by
  intro m hm;unfold zE4 at hm;split at hm
  ·rw[List.mem_singleton]at hm;exact⟨[],by simp,hm⟩
  ·rw[wak]at hm;obtain⟨l,hl,rfl⟩:=hm;exact⟨l,hx l (List.mem_of_mem_take hl),rfl⟩
 have hn:(zE4 x).length <=3/\0<(zE4 x).length :=by
  unfold zE4;split
  ·simp
  ·simp only[waa,wal]; omega
 have hz:=sz_file (l:=zE4 x) (fun m hm=>by obtain⟨l,h1,rfl⟩:=h m hm; exact(zFR l h1).2.1);have hm:=Nat.mul_le_mul_right 1740 hn.1;refine⟨List.all_eq_true.2 fun m hm=>by obtain⟨l,h1,rfl⟩:=h m hm; exact(zFR l h1).1,by omega,hn.1,hn.2,fun m hm=>by obtain⟨l,h1,rfl⟩:=h m hm; exact(zFR l h1).2.2⟩
set_option maxHeartbeats 4000000
theorem zCZ{l:List Nat}(hb: ∀b∈l,b<256)(a:Nat):zAY l a<256:=by
 unfold zAY;rw[List.getD];cases h:l[a]? with
 | none=>decide
 | some x=>exact hb x (List.mem_of_getElem? h)
theorem e0F:e0=was:=rfl
theorem zDc(x k c:Nat):((x:Int).tmod (k:Int)==(c:Int))=decide (x % k=c):=by
 rw[<-Int.ofNat_tmod,Bool.eq_iff_iff]; simp; omega
theorem zI0(x k:Nat):(x:Int).tmod (k:Int)=((x % k:Nat):Int):=(Int.ofNat_tmod x k).symm
theorem zHp(x k:Nat):(x:Int).tdiv (k:Int)=((x / k:Nat):Int):=(Int.ofNat_tdiv x k).symm
theorem zGr{x:Nat}(h:x<9223372036854775808):IntKind.i64.wrap (x:Int)=(x:Int):=zaQ (by omega) (by omega)
abbrev eCur(l:List Nat)(a:Nat):D:=.agg [eBy l,eI a]
theorem zF8(l:List Nat)(a:Nat)(hb: ∀b∈l,b<256)(ha:a<=1000000000):FnP prog 94 [eCur l a] (.d (eI (zAY l a))) []:=by
 refine FnP.of_eC (own:=[]) chL zat func94 rfl call94 ntmps94 (zle rfl) results94 (fun hok=> ?_);by_cases h:a<l.length
 ·have e:zAY l a=l[a]:=by simp[zAY,List.getD,h]
  have hw:IntKind.i64.wrap (l[a]:Int)=(l[a]:Int):=zGr (by have:=hb _ (waj h); omega);rw[e];simp only[ZE,seval,KE,zaw h,zai h,zaa h,wat,waa,hw]
 ·have e:zAY l a=0:=by unfold zAY; rw[List.getD,List.getElem?_eq_none (by omega)]; rfl
  rw[e];simp only[ZE,seval,KE,zaI (Nat.le_of_not_lt h),waa]
theorem on_q(l:List Nat)(a n:Nat)(ha:a<=1000000000)(hn:n<=1000000000):FnP prog 95 [eCur l a,eI n] (.d (eCur l (a+n))) []:=by
 have hw:IntKind.i64.wrap ((a:Int)+(n:Int))=((a+n:Nat):Int):=by rw[zaQ (by omega) (by omega)]; simp
 refine FnP.of_eC (own:=[]) chL zat func95 rfl call95 ntmps95 (zle rfl) results95 (fun hok=> ?_);simp only[ZE,seval,KE,hw,eCur]
theorem zG9(n:Nat)(hn:n<=1000000000):FnP prog 93 [eI n] (.d (eSb (zCk n))) []:=by
 refine FnP.of_eC (own:=[]) chL zat func93 rfl call93 ntmps93 (zle rfl) results93 (fun hok=> ?_);have hr:(n:Int).tmod 8=((n % 8:Nat):Int):=zI0 n 8;unfold zCk;have h8:n % 8<8:=Nat.mod_lt _ (by decide);obtain⟨m,hm⟩:=zX (n % 8);rw[hm]at hr h8 ⊢;rcases(show m=0\/m=1\/m=2\/m=3\/m=4\/m=5\/m=6\/m=7 by omega)with rfl | rfl | rfl | rfl | rfl | rfl | rfl | rfl
 all_goals
  have hr2:=hr.trans (by rfl);simp only[ZE,seval,KE,hr2,nameL]
theorem num_q(l:List Nat)(a:Nat)(hb: ∀b∈l,b<256)(ha:a<=100000000):FnP prog 142 [eCur l a] (.d (.agg (zgL (zHM l a)))) []:=by
 have b1:=zF8 l a hb (by omega);have b2:=zF8 l (a+1) hb (by omega);have o1:=on_q l a 1 (by omega) (by omega);have hx:=zCZ hb a;have hy:=zCZ hb (a+1);unfold zHM;obtain⟨x,hxx⟩:=zX (zAY l a);obtain⟨y,hyy⟩:=zX (zAY l (a+1));rw[hxx]at b1 hx ⊢;rw[hyy]at b2 hy ⊢;have n1:=zG9 y (by omega);have n2:=zG9 (x / 8) (by omega);obtain⟨N1,hN1⟩: ∃N,zCk y=N:=⟨_,rfl⟩;obtain⟨N2,hN2⟩: ∃N,zCk (x / 8)=N:=⟨_,rfl⟩;rw[hN1]at n1 ⊢;rw[hN2]at n2 ⊢;have e2:((x:Int).tmod 4==2)=decide (x % 4=2):=zDc x 4 2;have e3:((x:Int).tmod 4==3)=decide (x % 4=3):=zDc x 4 3;have e8:((x:Int).tmod 8==3)=decide (x % 8=3):=zDc x 8 3;have y20:(y:Int).tmod 20=((y % 20:Nat):Int):=zI0 y 20;have x8:(x:Int).tdiv 8=((x / 8:Nat):Int):=zHp x 8;have w8:IntKind.i64.wrap ((x / 8:Nat):Int)=((x / 8:Nat):Int):=zGr (by omega);have w1:IntKind.i64.wrap (1+((y % 20:Nat):Int))=((1+y % 20:Nat):Int):=by rw[zaQ (by omega) (by omega)]; simp
 have w2:IntKind.i64.wrap (-1-((y % 20:Nat):Int))= -1-((y % 20:Nat):Int):=zaQ (by omega) (by omega);simp only[ZE,seval,KE]at b1;simp only[ZE,seval,KE]at b2;simp only[ZE,seval,KE]at o1;simp only[ZE,seval,KE]at n1;simp only[ZE,seval,KE]at n2;refine FnP.of_eC (own:=[]) (fun i=>if i=2001 then [.ord ⟨[(0,none),(1,none),(2,none),(3,none),(4,none),(5,some []),(6,some [])]⟩]else chL i) zat func142 rfl call142 ntmps142 (zle rfl) results142 (fun hok=> ?_);simp only[ZE,seval,KE];refine⟨by kernel_rfl,zaz.i b1 ?_⟩;simp only[ZE,seval,KE];refine zaz.i o1 ?_;simp only[ZE,seval,KE];refine zaz.i b2 ?_;by_cases h2:x % 4=2
 ·rw[if_pos h2];simp only[ZE,seval,KE,e2,h2,decide_true];refine EFn.p ?_;simp only[ZE,seval,KE];refine zar.i (n1) ?_;simp only[ZE,seval,KE]
 rw[if_neg h2];by_cases h3:x % 4=3
 ·rw[if_pos h3];by_cases h8:x % 8=3
  ·rw[if_pos h8];simp only[ZE,seval,KE,e2,e3,e8,h2,h3,h8,decide_true,decide_false,y20,x8,w8,w1];refine EFn.p ?_;simp only[ZE,seval,KE];refine zar.i (n2) ?_;simp only[ZE,seval,KE]
  ·rw[if_neg h8];simp only[ZE,seval,KE,e2,e3,e8,h2,h3,h8,decide_true,decide_false,y20,x8,w8,w2];refine EFn.p ?_;simp only[ZE,seval,KE];refine zar.i (n2) ?_;simp only[ZE,seval,KE]
 ·rw[if_neg h3];simp only[ZE,seval,KE,e2,e3,h2,h3,decide_false,y20,e0F]
theorem rule_q(l:List Nat)(a:Nat)(hb: ∀b∈l,b<256)(ha:a<=100000000):FnP prog 143 [eCur l a] (.d (.agg (zib (ruleG l a)))) []:=by
 have b1:=zF8 l a hb (by omega);have b2:=zF8 l (a+1) hb (by omega);have o1:=on_q l a 1 (by omega) (by omega);have hx:=zCZ hb a;have hy:=zCZ hb (a+1);unfold ruleG;obtain⟨x,hxx⟩:=zX (zAY l a);obtain⟨y,hyy⟩:=zX (zAY l (a+1));rw[hxx]at b1 hx ⊢;rw[hyy]at b2 hy ⊢;have n1:=zG9 y (by omega);obtain⟨N1,hN1⟩: ∃N,zCk y=N:=⟨_,rfl⟩;rw[hN1]at n1 ⊢;have e1:((x:Int).tmod 4==1)=decide (x % 4=1):=zDc x 4 1;have e2:((x:Int).tmod 4==2)=decide (x % 4=2):=zDc x 4 2;have e3:((x:Int).tmod 4==3)=decide (x % 4=3):=zDc x 4 3;simp only[ZE,seval,KE]at b1;simp only[ZE,seval,KE]at b2;simp only[ZE,seval,KE]at o1;simp only[ZE,seval,KE]at n1;refine FnP.of_eC (own:=[]) (fun i=>if i=2001 then [.ord ⟨[(0,none),(1,none),(2,none),(3,none),(4,none),(5,some []),(6,some [])]⟩]else chL i) zat func143 rfl call143 ntmps143 (zle rfl) results143 (fun hok=> ?_);simp only[ZE,seval,KE];refine⟨by kernel_rfl,zaz.i b1 ?_⟩;simp only[ZE,seval,KE];refine zaz.i o1 ?_;simp only[ZE,seval,KE];refine zaz.i b2 ?_;by_cases h1:x % 4=1
 ·rw[if_pos h1];simp only[ZE,seval,KE,e1,h1,decide_true,e0F]
 rw[if_neg h1];by_cases h2:x % 4=2
 ·rw[if_pos h2];simp only[ZE,seval,KE,e1,e2,h1,h2,decide_true,decide_false];refine EFn.p ?_;simp only[ZE,seval,KE];refine zar.i (n1) ?_;simp only[ZE,seval,KE]
 rw[if_neg h2];by_cases h3:x % 4=3
 ·rw[if_pos h3];simp only[ZE,seval,KE,e1,e2,e3,h1,h2,h3,decide_true,decide_false];refine EFn.p ?_;simp only[ZE,seval,KE];refine zar.i (n1) ?_;simp only[ZE,seval,KE]
 ·rw[if_neg h3];simp only[ZE,seval,KE,e1,e2,e3,h1,h2,h3,decide_false,e0F,r0]
theorem notsG_0(e:Expr):zCe e 0=e:=rfl
theorem nots_q(e:Expr)(n:Nat)(hn:n<=100):FnP prog 117 [.agg (zbx e),eI n] (.d (.agg (zbx (zCe e n)))) []:=by
 rw[zb6,zb6];refine FnP.of_eC (own:=[]) chL zat func117 rfl call117 ntmps117 (zle rfl) results117 (fun hok=> ?_);simp only[ZE,seval,KE];refine za1 chL zat n (fun _=>True) (fun i=>([(1,.d (eI n)),(2,.bp 2 0),(4,.bp 4 0),(5,.d (eI i))],[(2,.box [.d (eI (zCe e i).op),.d (eSb (zCe e i).name),.d (eI (zCe e i).k.n),.d (eSb (zCe e i).k.p),.d (eI (zCe e i).w.n),.d (eSb (zCe e i).w.p),.d (.sl ((zCe e i).args.map zbx))]),(4,.box [.d (eI 0),.d (eSb e0),.d (eI 0),.d (eSb e0),.d (eI 0),.d (eSb e0),.nils])])) trivial ?_ ?_ (fun i hi _=> ?_)
 ·simp only[ZE,seval,KE]
 ·simp only[ZE,seval,KE,e0F,notsG_0]
 have hw:=zaq (show i<9223372036854775807 by omega);by_cases h:i<n
 ·have e1:zbx (zCe e i)=[eI (zCe e i).op,eSb (zCe e i).name,eI (zCe e i).k.n,eSb (zCe e i).k.p,eI (zCe e i).w.n,eSb (zCe e i).w.p,.sl ((zCe e i).args.map zbx)]:=zb6 _;have e2:zCe e (i+1)= .mk 2 e0 n0 n0 [zCe e i]:=rfl;simp only[ZE,seval,KE]at e1;simp only[ZE,seval,KE,zaw h,hw,e2,Expr.op,Expr.name,Expr.k,Expr.w,Expr.args,n0,e0F,wae,wac,e1];exact h
 ·have:i=n:=by omega
  subst this;simp only[ZE,seval,KE,zaI (waw i)]
def pB:Nat->Nat
 | 0=>5
 | d+1=>5+3*pB d
theorem pB_ge: ∀d,5<=pB d
 | 0=>waw _
 | d+1=>by unfold pB; omega
theorem leafG_pos(l:List Nat)(a:Nat):(zIh l a).2 <=a+5:=by
 unfold zIh;split <;> (simp only; omega)
theorem zIP{rec:Nat->Expr×Nat}{z:Nat}(h: ∀a,(rec a).2 <=a+z): ∀n a,(zEq rec n a).2 <=a+n*z
 | 0,a=>by simp[zEq]
 | n+1,a=>by
  have h1:=zIP h n a;have h2:=h (zEq rec n a).2;simp only[zEq];rw[Nat.succ_mul];omega
theorem zId(l:List Nat): ∀d a,(zCC l d a).2 <=a+pB d
 | 0,a=>leafG_pos l a
 | d+1,a=>by
  have h5:=pB_ge d;have ih:=zId l d;have ha: ∀op,arG op<=3:=by
   intro op;unfold arG;split
   ·omega
   ·split <;> omega
  have key: ∀b op k w c,(zGw (zCC l d) b op k w c).2 <=c+3*pB d:=by
   intro b op k w c;have h1:=zIP ih (arG op) c;have h2:=Nat.mul_le_mul_right (pB d) (ha op);simp only[zGw];omega
  unfold zCC pB;split
  ·have:=leafG_pos l a;omega
  ·simp only[];split
   ·exact wav (key _ _ _ _ _) (by omega)
   split
   ·exact wav (key _ _ _ _ _) (by omega)
   ·exact wav (key _ _ _ _ _) (by omega)
theorem use_q(op:Nat)(ho:op∈opsG):FnP prog 191 [eI op] (.d (.agg [eB true,eB (decide (op=15)),eB (decide (op=12)),eB (decide (op=12\/op=13)),eI (arG op)])) []:=by
 simp only[opsG,wah,List.mem_nil_iff,or_false]at ho;refine FnP.of_eC (own:=[]) chL zat func191 rfl call191 ntmps191 (zle rfl) results191 (fun hok=> ?_);rcases ho with rfl | rfl | rfl | rfl | rfl | rfl | rfl | rfl | rfl | rfl | rfl | rfl | rfl
 all_goals
  simp only[ZE,seval,KE,arG]
theorem ops_at(i:Nat)(h:i<13):([[eI 2],[eI 3],[eI 4],[eI 5],[eI 6],[eI 7],[eI 8],[eI 9],[eI 10],[eI 11],[eI 12],[eI 13],[eI 15]]:List (List D)).getD i []=[eI (opsG.getD i 0:Nat)]/\opsG.getD i 0∈opsG:=by
 rcases(show i=0\/i=1\/i=2\/i=3\/i=4\/i=5\/i=6\/i=7\/i=8\/i=9\/i=10\/i=11\/i=12 by omega)with rfl | rfl | rfl | rfl | rfl | rfl | rfl | rfl | rfl | rfl | rfl | rfl | rfl <;> exact⟨rfl,by decide⟩
def zaJ(l:List Nat)(p:Expr×Nat):D:=.agg (zbx p.1++[eBy l,eI p.2])
theorem leaf_q(l:List Nat)(hb: ∀b∈l,b<256)(d a:Nat)(ha:a<=1000000)(hd:d<=100)(hl:d<=1\/zAY l a % 3=0):FnP prog 144 [eCur l a,eI d] (.d (zaJ l (zIh l a))) []:=by
 have b1:=zF8 l a hb (by omega);have o1:=on_q l a 1 (by omega) (by omega);have o2:=on_q l (a+1) 2 (by omega) (by omega);have o3:=on_q l (a+1) 4 (by omega) (by omega);have k1:=num_q l (a+1) hb (by omega);have k2:=num_q l (a+3) hb (by omega);have hx:=zCZ hb a;unfold zIh;obtain⟨x,hxx⟩:=zX (zAY l a);rw[hxx]at b1 hx hl ⊢;obtain⟨N1,hN1⟩: ∃N,zHM l (a+1)=N:=⟨_,rfl⟩;obtain⟨N2,hN2⟩: ∃N,zHM l (a+3)=N:=⟨_,rfl⟩;rw[hN1]at k1 ⊢;rw[hN2]at k2 ⊢;have n1:=zG9 (x / 6) (by omega);obtain⟨M,hM⟩: ∃N,zCk (x / 6)=N:=⟨_,rfl⟩;rw[hM]at n1 ⊢;have e3:((x:Int).tmod 3==0)=decide (x % 3=0):=zDc x 3 0;have d3:(x:Int).tdiv 3=((x / 3:Nat):Int):=zHp x 3;have w3:IntKind.i64.wrap ((x / 3:Nat):Int)=((x / 3:Nat):Int):=zGr (by omega);have m2:((((x / 3:Nat):Int)).tmod 2==0)=decide (x / 3 % 2=0):=zDc (x / 3) 2 0;have d6:(x:Int).tdiv 6=((x / 6:Nat):Int):=zHp x 6;have w6:IntKind.i64.wrap ((x / 6:Nat):Int)=((x / 6:Nat):Int):=zGr (by omega);have a3:a+1+2=a+3:=by omega
 have a5:a+1+4=a+5:=by omega
 rw[a3]at o2;rw[a5]at o3;simp only[ZE,seval,KE]at b1;simp only[ZE,seval,KE]at o1;simp only[ZE,seval,KE]at o2;simp only[ZE,seval,KE]at o3;simp only[ZE,seval,KE]at k1;simp only[ZE,seval,KE]at k2;simp only[ZE,seval,KE]at n1;refine FnP.of_eC (own:=[]) (fun i=>if i=2005 then [.ord ⟨[(0,none),(1,none),(2,none),(3,none),(4,none),(5,none),(6,none),(7,none),(8,none),(9,some [])]⟩]else if i=2006 then [.ord ⟨[(0,none),(1,none),(2,none),(3,none),(4,none),(5,none),(6,some [])]⟩]else if i=18 then [.adB 8 6 60 108 7]else if i=1024 then [.frz 60]else chL i) zat func144 rfl call144 ntmps144 (zle rfl) results144 (fun hok=> ?_);have fin: ∀g:Bool,g=decide ((d:Int)<=1)->(g=true\/decide (x % 3=0)=true):=by
  intro g hg;rcases hl with h | h
  ·left; rw[hg]; simp; omega
  ·right; simpa using h
 simp only[ZE,seval,KE];refine EFn.p ?_;simp only[ZE,seval,KE];refine zar.i (b1) ?_;simp only[ZE,seval,KE];refine EFn.p ?_;simp only[ZE,seval,KE];refine zar.i (o1) ?_;obtain⟨g,hg⟩:=zX (decide ((d:Int)<=1));have hgx:=fin g hg.symm;obtain⟨h3,hh3⟩: ∃h,decide (x % 3=0)=h:=⟨_,rfl⟩;rw[hh3]at e3 hgx;by_cases h2:x / 3 % 2=0
 ·rw[if_pos h2];have hr:zaJ l (.mk 1 e0 N1 N2 [],a+5)= .agg [eI 1,eSb e0,eI N1.n,eSb N1.p,eI N2.n,eSb N2.p,.sl [],eBy l,eI ((a+5:Nat):Int)]:=by unfold zaJ; rw[zb6]; rfl
  rw[hr];cases g with
  | true=>
   simp only[ZE,seval,KE,hg,e3,d3,w3,m2,h2,decide_true,↓zA7,↓zA8,↓zA9,zBN.eq_1,zBI.eq_1];refine⟨by kernel_rfl,zaz.i k1 ?_⟩;simp only[ZE,seval,KE];refine zaz.i o2 ?_;simp only[ZE,seval,KE];refine zaz.i k2 ?_;simp only[ZE,seval,KE];refine zaz.i o3 ?_;simp only[ZE,seval,KE,e0F]
  | false=>
   have:h3=true:=by simpa using hgx
   subst this;simp only[ZE,seval,KE,hg,e3,d3,w3,m2,h2,decide_true,↓zA7,↓zA8,↓zA9,zBN.eq_1,zBI.eq_1];refine⟨by kernel_rfl,zaz.i k1 ?_⟩;simp only[ZE,seval,KE];refine zaz.i o2 ?_;simp only[ZE,seval,KE];refine zaz.i k2 ?_;simp only[ZE,seval,KE];refine zaz.i o3 ?_;simp only[ZE,seval,KE,e0F]
 ·rw[if_neg h2];have hr:zaJ l (.mk 14 M n0 n0 [],a+1)= .agg [eI 14,eSb M,eI 0,eSb e0,eI 0,eSb e0,.sl [],eBy l,eI ((a+1:Nat):Int)]:=by unfold zaJ; rw[zb6]; rfl
  rw[hr];cases g with
  | true=>
   simp only[ZE,seval,KE,hg,e3,d3,w3,m2,h2,decide_false,d6,w6,↓zA7,↓zA8,↓zA9,zBN.eq_1,zBI.eq_1];refine⟨by kernel_rfl,zaz.i n1 ?_⟩;simp only[ZE,seval,KE,e0F]
  | false=>
   have:h3=true:=by simpa using hgx
   subst this;simp only[ZE,seval,KE,hg,e3,d3,w3,m2,h2,decide_false,d6,w6,↓zA7,↓zA8,↓zA9,zBN.eq_1,zBI.eq_1];refine⟨by kernel_rfl,zaz.i n1 ?_⟩;simp only[ZE,seval,KE,e0F]
theorem zIQ(rec:Nat->Expr×Nat)(c:Nat):zEq rec 0 c=([],c):=rfl
theorem node_q(l:List Nat)(hb: ∀b∈l,b<256)(d a:Nat)(ha:a+pB (d+1)<=1000000)(hd:0<d)(hd2:d<=100)(hx3: ¬zAY l a % 3=0)
  (ih: ∀c,c+pB d<=1000000->FnP prog 144 [eCur l c,eI d] (.d (zaJ l (zCC l d c))) []):
  FnP prog 144 [eCur l a,eI ((d+1:Nat):Int)] (.d (zaJ l (zCC l (d+1) a))) []:=by
 have hpB:pB (d+1)=5+3*pB d:=rfl;have b1:=zF8 l a hb (by omega);have o1:=on_q l a 1 (by omega) (by omega);have o2:=on_q l (a+1) 2 (by omega) (by omega);have o3:=on_q l (a+3) 2 (by omega) (by omega);have q1:=num_q l (a+1) hb (by omega);have q2:=num_q l (a+3) hb (by omega);have hx:=zCZ hb a;unfold zCC;rw[if_neg (by omega)];simp only[];obtain⟨x,hxx⟩:=zX (zAY l a);rw[hxx]at b1 hx hx3 ⊢;obtain⟨N1,hN1⟩: ∃N,zHM l (a+1)=N:=⟨_,rfl⟩;obtain⟨N2,hN2⟩: ∃N,zHM l (a+3)=N:=⟨_,rfl⟩;rw[hN1]at q1 ⊢;rw[hN2]at q2 ⊢;have n1:=zG9 (x / 39) (by omega);obtain⟨e1,e2⟩:=ops_at (x / 3 % 13) (Nat.mod_lt _ (by decide));obtain⟨op,hop⟩:=zX (opsG.getD (x / 3 % 13) 0);rw[hop]at e1 e2 ⊢;have hu:=use_q op e2;have hlt:(0<=((x / 3 % 13:Nat):Int)/\((x / 3 % 13:Nat):Int)<13)=True:=by simp; omega
 have g1:decide (((d+1:Nat):Int)<=1)=false:=by simp; omega
 have e3:((x:Int).tmod 3==0)=decide (x % 3=0):=zDc x 3 0;have d3:(x:Int).tdiv 3=((x / 3:Nat):Int):=zHp x 3;have w3:IntKind.i64.wrap ((x / 3:Nat):Int)=((x / 3:Nat):Int):=zGr (by omega);have m13:(((x / 3:Nat):Int)).tmod 13=((x / 3 % 13:Nat):Int):=zI0 (x / 3) 13;have d39:(x:Int).tdiv 39=((x / 39:Nat):Int):=zHp x 39;have w39:IntKind.i64.wrap ((x / 39:Nat):Int)=((x / 39:Nat):Int):=zGr (by omega);have ha3:arG op<=3:=by
  unfold arG;split
  ·omega
  ·split <;> omega
 have s3:a+1+2=a+3:=by omega
 have s5:a+3+2=a+5:=by omega
 rw[s3]at o2;rw[s5]at o3;obtain⟨nme,hnme⟩: ∃n,zCk (x / 39)=n:=⟨_,rfl⟩;rw[hnme]at n1;simp only[ZE,seval,KE]at b1;simp only[ZE,seval,KE]at o1;simp only[ZE,seval,KE]at o2;simp only[ZE,seval,KE]at o3;simp only[ZE,seval,KE]at q1;simp only[ZE,seval,KE]at q2;simp only[ZE,seval,KE]at n1;simp only[ZE,seval,KE]at e1;refine FnP.of_eC (own:=[]) (fun i=>if i=2005 then [.ord ⟨[(0,none),(1,none),(2,none),(3,none),(4,none),(5,none),(6,none),(7,none),(8,none),(9,some [])]⟩]else if i=2006 then [.ord ⟨[(0,none),(1,none),(2,none),(3,none),(4,none),(5,none),(6,some [])]⟩]else if i=18 then [.adB 8 6 60 108 7]else if i=1024 then [.frz 60]else chL i) zat func144 rfl call144 ntmps144 (zle rfl) results144 (fun hok=> ?_);simp only[ZE,seval,KE];refine EFn.p ?_;simp only[ZE,seval,KE];refine zar.i (b1) ?_;simp only[ZE,seval,KE];refine EFn.p ?_;simp only[ZE,seval,KE];refine zar.i (o1) ?_;simp only[ZE,seval,KE,g1,e3,hx3,decide_false,↓zA7,↓zA8,↓zA9,zBN.eq_1,zBI.eq_1,d3,w3,m13,hlt,e1,wat];by_cases p12:op=12
 ·have h1:decide (op=15)=false:=by simp; omega
  have h2:decide (op=12)=true:=by simpa using p12
  have h3:decide (op=12\/op=13)=true:=by simp; omega
  have hne: ¬op=15:=by omega
  rw[h1,h2,h3]at hu;rw[if_pos p12];refine EFn.p ?_;simp only[ZE,seval,KE];have hc:=hu;simp only[ZE,seval,KE]at hc;refine zar.i hc ?_;clear hc;simp only[ZE,seval,KE];refine EFn.p ?_;simp only[ZE,seval,KE];refine zar.i (q1) ?_;simp only[ZE,seval,KE];refine EFn.p ?_;simp only[ZE,seval,KE];refine zar.i (o2) ?_;simp only[ZE,seval,KE];refine EFn.p ?_;simp only[ZE,seval,KE];refine zar.i (q2) ?_;simp only[ZE,seval,KE];refine EFn.p ?_;simp only[ZE,seval,KE];refine zar.i (o3) ?_;simp only[ZE,seval,KE];refine za1 (fun i=>if i=2005 then [.ord ⟨[(0,none),(1,none),(2,none),(3,none),(4,none),(5,none),(6,none),(7,none),(8,none),(9,some [])]⟩]else if i=2006 then [.ord ⟨[(0,none),(1,none),(2,none),(3,none),(4,none),(5,none),(6,some [])]⟩]else if i=18 then [.adB 8 6 60 108 7]else if i=1024 then [.frz 60]else chL i) zat (arG op) (fun _=>True) (fun i=>([(1,.d (eI ((d+1:Nat):Int))),(2,.bp 2 0),(4,.bp 4 0),(7,.bp 7 0),(8,.bp 8 0),(9,.d (eI i))],[(2,.box [.d (eBy l),.d (eI (zEq (zCC l d) i (a+5)).2)]),(4,.box [.d (eI 0),.d (eSb e0),.d (eI 0),.d (eSb e0),.d (eI 0),.d (eSb e0),.nils,.nils,.d (eI 0)]),(7,.box [.d (eB true),.d (eB false),.d (eB true),.d (eB true),.d (eI (arG op))]),(8,.box [.d (eI op),.d (eSb e0),.d (eI (Num.n N1)),.d (eSb (Num.p N1)),.d (eI (Num.n N2)),.d (eSb (Num.p N2)),.ar 60 i]),(60,.arr 108 7 .flat ((zEq (zCC l d) i (a+5)).1.map zbx))])) trivial ?_ ?_ (fun i hi _=> ?_)
  ·simp only[ZE,seval,KE,e0F]
  ·simp only[ZE,seval,KE,e0F,n0,zIQ,wac]
  by_cases h:i<arG op
  ·have hp:=zIP (zId l d) i (a+5);have hm:=Nat.mul_le_mul_right (pB d) (show i<=2 by omega);have hc:=ih (zEq (zCC l d) i (a+5)).2 (by omega);have hw:=zaq (show i<9223372036854775807 by omega);have hd3:IntKind.i64.wrap (((d+1:Nat):Int)-1)=((d:Nat):Int):=by rw[zaQ (by omega) (by omega)]; simp
   have hN:zEq (zCC l d) (i+1) (a+5)=((zEq (zCC l d) i (a+5)).1 ++[(zCC l d (zEq (zCC l d) i (a+5)).2).1],(zCC l d (zEq (zCC l d) i (a+5)).2).2):=rfl;have hlen:=zIO (zCC l d) i (a+5);obtain⟨A,hA⟩:=zX (zEq (zCC l d) i (a+5));rw[hA]at hc hN hlen;obtain⟨B,hB⟩:=zX (zCC l d A.2);rw[hB]at hc hN;obtain⟨⟨o1,n1,k1,w1,a1⟩,p1⟩:=B;unfold zaJ at hc;rw[zb6]at hc;simp only[ZE,seval,KE,Expr.op,Expr.name,Expr.k,Expr.w,Expr.args,waq,wap]at hc;simp only[ZE,seval,KE,zaw h,hA,hw,hd3];refine EFn.p ?_;simp only[ZE,seval,KE];refine zar.i (hc) ?_;simp only[ZE,seval,KE,hN,waf,wae,wac,zb6,Expr.op,Expr.name,Expr.k,Expr.w,Expr.args,hlen,waa];exact⟨⟨by omega,by omega⟩,by rw[wab,waa,hlen]; rfl,h,by rw[hw]⟩
  ·have:i=arG op:=by omega
   subst this;simp only[ZE,seval,KE,zaI (waw (arG op)),waa,zIO,zaJ,zGw,zb6,Expr.op,Expr.name,Expr.k,Expr.w,Expr.args,waq,wap,e0F,n0,hne]
 rw[if_neg p12];by_cases p13:op=13
 ·have h1:decide (op=15)=false:=by simp; omega
  have h2:decide (op=12)=false:=by simpa using p12
  have h3:decide (op=12\/op=13)=true:=by simp; omega
  have hne: ¬op=15:=by omega
  rw[h1,h2,h3]at hu;rw[if_pos p13];refine EFn.p ?_;simp only[ZE,seval,KE];have hc:=hu;simp only[ZE,seval,KE]at hc;refine zar.i hc ?_;clear hc;simp only[ZE,seval,KE];refine EFn.p ?_;simp only[ZE,seval,KE];refine zar.i (q1) ?_;simp only[ZE,seval,KE];refine EFn.p ?_;simp only[ZE,seval,KE];refine zar.i (o2) ?_;simp only[ZE,seval,KE];refine za1 (fun i=>if i=2005 then [.ord ⟨[(0,none),(1,none),(2,none),(3,none),(4,none),(5,none),(6,none),(7,none),(8,none),(9,some [])]⟩]else if i=2006 then [.ord ⟨[(0,none),(1,none),(2,none),(3,none),(4,none),(5,none),(6,some [])]⟩]else if i=18 then [.adB 8 6 60 108 7]else if i=1024 then [.frz 60]else chL i) zat (arG op) (fun _=>True) (fun i=>([(1,.d (eI ((d+1:Nat):Int))),(2,.bp 2 0),(4,.bp 4 0),(7,.bp 7 0),(8,.bp 8 0),(9,.d (eI i))],[(2,.box [.d (eBy l),.d (eI (zEq (zCC l d) i (a+3)).2)]),(4,.box [.d (eI 0),.d (eSb e0),.d (eI 0),.d (eSb e0),.d (eI 0),.d (eSb e0),.nils,.nils,.d (eI 0)]),(7,.box [.d (eB true),.d (eB false),.d (eB false),.d (eB true),.d (eI (arG op))]),(8,.box [.d (eI op),.d (eSb e0),.d (eI (Num.n n0)),.d (eSb (Num.p n0)),.d (eI (Num.n N1)),.d (eSb (Num.p N1)),.ar 60 i]),(60,.arr 108 7 .flat ((zEq (zCC l d) i (a+3)).1.map zbx))])) trivial ?_ ?_ (fun i hi _=> ?_)
  ·simp only[ZE,seval,KE,e0F]
  ·simp only[ZE,seval,KE,e0F,n0,zIQ,wac]
  by_cases h:i<arG op
  ·have hp:=zIP (zId l d) i (a+3);have hm:=Nat.mul_le_mul_right (pB d) (show i<=2 by omega);have hc:=ih (zEq (zCC l d) i (a+3)).2 (by omega);have hw:=zaq (show i<9223372036854775807 by omega);have hd3:IntKind.i64.wrap (((d+1:Nat):Int)-1)=((d:Nat):Int):=by rw[zaQ (by omega) (by omega)]; simp
   have hN:zEq (zCC l d) (i+1) (a+3)=((zEq (zCC l d) i (a+3)).1 ++[(zCC l d (zEq (zCC l d) i (a+3)).2).1],(zCC l d (zEq (zCC l d) i (a+3)).2).2):=rfl;have hlen:=zIO (zCC l d) i (a+3);obtain⟨A,hA⟩:=zX (zEq (zCC l d) i (a+3));rw[hA]at hc hN hlen;obtain⟨B,hB⟩:=zX (zCC l d A.2);rw[hB]at hc hN;obtain⟨⟨o1,n1,k1,w1,a1⟩,p1⟩:=B;unfold zaJ at hc;rw[zb6]at hc;simp only[ZE,seval,KE,Expr.op,Expr.name,Expr.k,Expr.w,Expr.args,waq,wap]at hc;simp only[ZE,seval,KE,zaw h,hA,hw,hd3];refine EFn.p ?_;simp only[ZE,seval,KE];refine zar.i (hc) ?_;simp only[ZE,seval,KE,hN,waf,wae,wac,zb6,Expr.op,Expr.name,Expr.k,Expr.w,Expr.args,hlen,waa];exact⟨⟨by omega,by omega⟩,by rw[wab,waa,hlen]; rfl,h,by rw[hw]⟩
  ·have:i=arG op:=by omega
   subst this;simp only[ZE,seval,KE,zaI (waw (arG op)),waa,zIO,zaJ,zGw,zb6,Expr.op,Expr.name,Expr.k,Expr.w,Expr.args,waq,wap,e0F,n0,hne]
 rw[if_neg p13];by_cases p15:op=15
 ·have h1:decide (op=15)=true:=by simpa using p15
  have h2:decide (op=12)=false:=by simpa using p12
  have h3:decide (op=12\/op=13)=false:=by simp; omega
  have hyes:(op=15)=True:=eq_true p15;rw[h1,h2,h3]at hu;refine EFn.p ?_;simp only[ZE,seval,KE];have hc:=hu;simp only[ZE,seval,KE]at hc;refine zar.i hc ?_;clear hc;simp only[ZE,seval,KE,d39,w39];refine EFn.p ?_;simp only[ZE,seval,KE];refine zar.i (n1) ?_;simp only[ZE,seval,KE];refine za1 (fun i=>if i=2005 then [.ord ⟨[(0,none),(1,none),(2,none),(3,none),(4,none),(5,none),(6,none),(7,none),(8,none),(9,some [])]⟩]else if i=2006 then [.ord ⟨[(0,none),(1,none),(2,none),(3,none),(4,none),(5,none),(6,some [])]⟩]else if i=18 then [.adB 8 6 60 108 7]else if i=1024 then [.frz 60]else chL i) zat (arG op) (fun _=>True) (fun i=>([(1,.d (eI ((d+1:Nat):Int))),(2,.bp 2 0),(4,.bp 4 0),(7,.bp 7 0),(8,.bp 8 0),(9,.d (eI i))],[(2,.box [.d (eBy l),.d (eI (zEq (zCC l d) i (a+1)).2)]),(4,.box [.d (eI 0),.d (eSb e0),.d (eI 0),.d (eSb e0),.d (eI 0),.d (eSb e0),.nils,.nils,.d (eI 0)]),(7,.box [.d (eB true),.d (eB true),.d (eB false),.d (eB false),.d (eI (arG op))]),(8,.box [.d (eI op),.d (eSb nme),.d (eI (Num.n n0)),.d (eSb (Num.p n0)),.d (eI (Num.n n0)),.d (eSb (Num.p n0)),.ar 60 i]),(60,.arr 108 7 .flat ((zEq (zCC l d) i (a+1)).1.map zbx))])) trivial ?_ ?_ (fun i hi _=> ?_)
  ·simp only[ZE,seval,KE,e0F]
  ·simp only[ZE,seval,KE,e0F,n0,zIQ,wac]
  by_cases h:i<arG op
  ·have hp:=zIP (zId l d) i (a+1);have hm:=Nat.mul_le_mul_right (pB d) (show i<=2 by omega);have hc:=ih (zEq (zCC l d) i (a+1)).2 (by omega);have hw:=zaq (show i<9223372036854775807 by omega);have hd3:IntKind.i64.wrap (((d+1:Nat):Int)-1)=((d:Nat):Int):=by rw[zaQ (by omega) (by omega)]; simp
   have hN:zEq (zCC l d) (i+1) (a+1)=((zEq (zCC l d) i (a+1)).1 ++[(zCC l d (zEq (zCC l d) i (a+1)).2).1],(zCC l d (zEq (zCC l d) i (a+1)).2).2):=rfl;have hlen:=zIO (zCC l d) i (a+1);obtain⟨A,hA⟩:=zX (zEq (zCC l d) i (a+1));rw[hA]at hc hN hlen;obtain⟨B,hB⟩:=zX (zCC l d A.2);rw[hB]at hc hN;obtain⟨⟨o1,n1,k1,w1,a1⟩,p1⟩:=B;unfold zaJ at hc;rw[zb6]at hc;simp only[ZE,seval,KE,Expr.op,Expr.name,Expr.k,Expr.w,Expr.args,waq,wap]at hc;simp only[ZE,seval,KE,zaw h,hA,hw,hd3];refine EFn.p ?_;simp only[ZE,seval,KE];refine zar.i (hc) ?_;simp only[ZE,seval,KE,hN,waf,wae,wac,zb6,Expr.op,Expr.name,Expr.k,Expr.w,Expr.args,hlen,waa];exact⟨⟨by omega,by omega⟩,by rw[wab,waa,hlen]; rfl,h,by rw[hw]⟩
  ·have:i=arG op:=by omega
   subst this;simp only[ZE,seval,KE,zaI (waw (arG op)),waa,zIO,zaJ,zGw,zb6,Expr.op,Expr.name,Expr.k,Expr.w,Expr.args,waq,wap,e0F,n0,hyes,hnme]
 ·have h1:decide (op=15)=false:=by simpa using p15
  have h2:decide (op=12)=false:=by simpa using p12
  have h3:decide (op=12\/op=13)=false:=by simp; omega
  rw[h1,h2,h3]at hu;refine EFn.p ?_;simp only[ZE,seval,KE];have hc:=hu;simp only[ZE,seval,KE]at hc;refine zar.i hc ?_;clear hc;simp only[ZE,seval,KE];refine za1 (fun i=>if i=2005 then [.ord ⟨[(0,none),(1,none),(2,none),(3,none),(4,none),(5,none),(6,none),(7,none),(8,none),(9,some [])]⟩]else if i=2006 then [.ord ⟨[(0,none),(1,none),(2,none),(3,none),(4,none),(5,none),(6,some [])]⟩]else if i=18 then [.adB 8 6 60 108 7]else if i=1024 then [.frz 60]else chL i) zat (arG op) (fun _=>True) (fun i=>([(1,.d (eI ((d+1:Nat):Int))),(2,.bp 2 0),(4,.bp 4 0),(7,.bp 7 0),(8,.bp 8 0),(9,.d (eI i))],[(2,.box [.d (eBy l),.d (eI (zEq (zCC l d) i (a+1)).2)]),(4,.box [.d (eI 0),.d (eSb e0),.d (eI 0),.d (eSb e0),.d (eI 0),.d (eSb e0),.nils,.nils,.d (eI 0)]),(7,.box [.d (eB true),.d (eB false),.d (eB false),.d (eB false),.d (eI (arG op))]),(8,.box [.d (eI op),.d (eSb e0),.d (eI (Num.n n0)),.d (eSb (Num.p n0)),.d (eI (Num.n n0)),.d (eSb (Num.p n0)),.ar 60 i]),(60,.arr 108 7 .flat ((zEq (zCC l d) i (a+1)).1.map zbx))])) trivial ?_ ?_ (fun i hi _=> ?_)
  ·simp only[ZE,seval,KE,e0F]
  ·simp only[ZE,seval,KE,e0F,n0,zIQ,wac]
  by_cases h:i<arG op
  ·have hp:=zIP (zId l d) i (a+1);have hm:=Nat.mul_le_mul_right (pB d) (show i<=2 by omega);have hc:=ih (zEq (zCC l d) i (a+1)).2 (by omega);have hw:=zaq (show i<9223372036854775807 by omega);have hd3:IntKind.i64.wrap (((d+1:Nat):Int)-1)=((d:Nat):Int):=by rw[zaQ (by omega) (by omega)]; simp
   have hN:zEq (zCC l d) (i+1) (a+1)=((zEq (zCC l d) i (a+1)).1 ++[(zCC l d (zEq (zCC l d) i (a+1)).2).1],(zCC l d (zEq (zCC l d) i (a+1)).2).2):=rfl;have hlen:=zIO (zCC l d) i (a+1);obtain⟨A,hA⟩:=zX (zEq (zCC l d) i (a+1));rw[hA]at hc hN hlen;obtain⟨B,hB⟩:=zX (zCC l d A.2);rw[hB]at hc hN;obtain⟨⟨o1,n1,k1,w1,a1⟩,p1⟩:=B;unfold zaJ at hc;rw[zb6]at hc;simp only[ZE,seval,KE,Expr.op,Expr.name,Expr.k,Expr.w,Expr.args,waq,wap]at hc;simp only[ZE,seval,KE,zaw h,hA,hw,hd3];refine EFn.p ?_;simp only[ZE,seval,KE];refine zar.i (hc) ?_;simp only[ZE,seval,KE,hN,waf,wae,wac,zb6,Expr.op,Expr.name,Expr.k,Expr.w,Expr.args,hlen,waa];exact⟨⟨by omega,by omega⟩,by rw[wab,waa,hlen]; rfl,h,by rw[hw]⟩
  ·have:i=arG op:=by omega
   subst this;simp only[ZE,seval,KE,zaI (waw (arG op)),waa,zIO,zaJ,zGw,zb6,Expr.op,Expr.name,Expr.k,Expr.w,Expr.args,waq,wap,e0F,n0,p15]
theorem expr_q(l:List Nat)(hb: ∀b∈l,b<256): ∀(d a:Nat),a+pB d<=1000000->d<=100->FnP prog 144 [eCur l a,eI d] (.d (zaJ l (zCC l d a))) []
 | 0,a,ha,_=>leaf_q l hb 0 a (by omega) (by omega) (.inl (by omega))
 | d+1,a,ha,hd=>by
  have hpB:pB (d+1)=5+3*pB d:=rfl;by_cases h:d=0\/zAY l a % 3=0
  ·have e:zCC l (d+1) a=zIh l a:=if_pos h;rw[e];exact leaf_q l hb (d+1) a (by omega) hd (by omega)
  ·exact node_q l hb d a ha (by omega) (by omega) (by omega) (fun c hc=>expr_q l hb d c hc (by omega))
set_option maxHeartbeats 8000000
def zIR(l:List Nat)(p:Item×Nat):D:=.agg (zaK p.1++[eBy l,eI p.2])
theorem e0E':e0=was:=rfl
theorem item_q(l:List Nat)(hb: ∀b∈l,b<256)(a:Nat)(ha:a<=100000):FnP prog 96 [eCur l a] (.d (zIR l (zIU l a))) []:=by
 have b1:=zF8 l a hb (by omega);have b2:=zF8 l (a+1) hb (by omega);have o1:=on_q l a 1 (by omega) (by omega);have o2:=on_q l a 2 (by omega) (by omega);have o4:=on_q l (a+2) 2 (by omega) (by omega);have o6:=on_q l (a+2) 4 (by omega) (by omega);have o8:=on_q l (a+2) 6 (by omega) (by omega);have o12:=on_q l (a+8) 4 (by omega) (by omega);rw[show a+2+2=a+4 by omega]at o4;rw[show a+2+4=a+6 by omega]at o6;rw[show a+2+6=a+8 by omega]at o8;rw[show a+8+4=a+12 by omega]at o12;have q1:=num_q l (a+2) hb (by omega);have q2:=num_q l (a+4) hb (by omega);have q3:=rule_q l (a+6) hb (by omega);have x3:=expr_q l hb 3 (a+8) (by simp[pB]; omega) (by omega);have p3:=zId l 3 (a+8);have p2:=zId l 2 (zCC l 3 (a+8)).2;have x2:=expr_q l hb 2 (zCC l 3 (a+8)).2 (by simp[pB]at p3 ⊢; omega) (by omega);have x1:=expr_q l hb 2 (zCC l 2 (zCC l 3 (a+8)).2).2 (by simp[pB]at p3 p2 ⊢; omega) (by omega);have hx:=zCZ hb a;have hy:=zCZ hb (a+1);unfold zIU;obtain⟨x,hxx⟩:=zX (zAY l a);obtain⟨y,hyy⟩:=zX (zAY l (a+1));rw[hxx]at b1 hx ⊢;rw[hyy]at b2 hy ⊢;have n1:=zG9 y (by omega);have n2:=zG9 (x / 9) (by omega);unfold zgm;obtain⟨N1,hN1⟩: ∃N,zCk y=N:=⟨_,rfl⟩;obtain⟨N2,hN2⟩: ∃N,zCk (x / 9)=N:=⟨_,rfl⟩;obtain⟨Q1,hQ1⟩: ∃N,zHM l (a+2)=N:=⟨_,rfl⟩;obtain⟨Q2,hQ2⟩: ∃N,zHM l (a+4)=N:=⟨_,rfl⟩;obtain⟨Q3,hQ3⟩: ∃N,ruleG l (a+6)=N:=⟨_,rfl⟩;obtain⟨E1,hE1⟩: ∃E,zCC l 3 (a+8)=E:=⟨_,rfl⟩;rw[hN1]at n1;rw[hN2]at n2;rw[hQ1]at q1;rw[hQ2]at q2;rw[hQ3]at q3;rw[hE1]at x3 x2 x1;obtain⟨E2,hE2⟩: ∃E,zCC l 2 E1.2=E:=⟨_,rfl⟩;rw[hE2]at x2 x1;obtain⟨E3,hE3⟩: ∃E,zCC l 2 E2.2=E:=⟨_,rfl⟩;rw[hE3]at x1;simp only[hN1,hN2,hQ1,hQ2,hQ3,hE1,hE2,hE3];have nn:=nots_q E1.1 5 (by omega);have d8:(y:Int).tdiv 8=((y / 8:Nat):Int):=zHp y 8;have w8:IntKind.i64.wrap ((y / 8:Nat):Int)=((y / 8:Nat):Int):=zGr (by omega);have m8:((((y / 8:Nat):Int)).tmod 8==7)=decide (y / 8 % 8=7):=zDc (y / 8) 8 7;have d9:(x:Int).tdiv 9=((x / 9:Nat):Int):=zHp x 9;have w9:IntKind.i64.wrap ((x / 9:Nat):Int)=((x / 9:Nat):Int):=zGr (by omega);obtain⟨F,hF⟩:=zX (zCe E1.1 5);rw[hF]at nn;simp only[hF];obtain⟨⟨eo1,en1,ek1,ew1,ea1⟩,ep1⟩:=E1;obtain⟨⟨eo2,en2,ek2,ew2,ea2⟩,ep2⟩:=E2;obtain⟨⟨eo3,en3,ek3,ew3,ea3⟩,ep3⟩:=E3;obtain⟨fo,fn,fk,fw,fa⟩:=F;unfold zaJ at x3 x2 x1;rw[zb6]at x3 x2 x1 nn;rw[zb6]at nn;simp only[ZE,seval,KE]at b1;simp only[ZE,seval,KE]at b2;simp only[ZE,seval,KE]at o1;simp only[ZE,seval,KE]at o2;simp only[ZE,seval,KE]at o4;simp only[ZE,seval,KE]at o6;simp only[ZE,seval,KE]at o8;simp only[ZE,seval,KE]at o12;simp only[ZE,seval,KE]at q1;simp only[ZE,seval,KE]at q2;simp only[ZE,seval,KE]at q3;simp only[ZE,seval,KE,Expr.op,Expr.name,Expr.k,Expr.w,Expr.args,waq,wap]at x3;simp only[ZE,seval,KE,Expr.op,Expr.name,Expr.k,Expr.w,Expr.args,waq,wap]at x2;simp only[ZE,seval,KE,Expr.op,Expr.name,Expr.k,Expr.w,Expr.args,waq,wap]at x1;simp only[ZE,seval,KE,Expr.op,Expr.name,Expr.k,Expr.w,Expr.args]at nn;simp only[ZE,seval,KE]at n1;simp only[ZE,seval,KE]at n2;obtain⟨k,hk⟩:=zX (1+x % 9);have hk2:IntKind.i64.wrap (1+(x:Int).tmod 9)=((k:Nat):Int):=by
  have h9:(x:Int).tmod 9=((x % 9:Nat):Int):=zI0 x 9;rw[h9,<-hk,zaQ (by omega) (by omega)]; simp
 have h0:(0:Nat)=0:=rfl;rw[hk];have m3:(((y / 8:Nat):Int)).tmod 3=((y / 8 % 3:Nat):Int):=zI0 (y / 8) 3;refine FnP.of_eC (own:=[]) (fun i=>if i=2001 then [.ord ⟨[(0,none),(1,none),(2,none),(3,none),(4,none),(5,some []),(6,some [])]⟩]else if i=2019 then [.flt ⟨[(0,none),(1,none),(2,none),(3,none),(4,none),(5,none),(6,none),(7,none),(8,some []),(9,none),(10,some [])]⟩ ⟨[],[]⟩]else if i=2020 then [.flt ⟨[(0,none),(1,none),(2,none),(3,none),(4,none),(5,none),(6,none),(7,none),(8,none),(9,none),(10,none),(11,none),(12,none),(13,some []),(14,none),(15,some [])]⟩ ⟨[],[]⟩]else if i=2021 then [.ord ⟨[(0,none),(1,none),(2,none),(3,none),(4,some [])]⟩]else if i=16 then [.adB 6 33 61 105 2,.adB 6 34 62 230 2]else if i=1021 then [.frz 61,.frz 62]else chL i) zat func96 rfl call96 ntmps96 (zle rfl) results96 (fun hok=> ?_);simp only[ZE,seval,KE];refine⟨by kernel_rfl,zaz.i b1 ?_⟩;simp only[ZE,seval,KE];refine zaz.i o1 ?_;simp only[ZE,seval,KE];refine zaz.i b2 ?_;simp only[ZE,seval,KE,hk2];refine EFn.p ?_;simp only[ZE,seval,KE];refine zar.i (n1) ?_;simp only[ZE,seval,KE];refine EFn.p ?_;simp only[ZE,seval,KE];refine zar.i (o2) ?_;rcases(show k=1\/k=2\/k=3\/k=4\/k=5\/k=6\/k=7\/k=8\/k=9 by omega)with rfl | rfl | rfl | rfl | rfl | rfl | rfl | rfl | rfl
 ·simp only[ZE,seval,KE,Int.natCast_one,↓zA7,↓zA8,↓zA9,zBN.eq_1,zBI.eq_1,d9,w9];refine EFn.p ?_;simp only[ZE,seval,KE];refine zar.i (q1) ?_;simp only[ZE,seval,KE,↓zA7,↓zA8,↓zA9,zBN.eq_1,zBI.eq_1];refine EFn.p ?_;simp only[ZE,seval,KE];refine zar.i (o8) ?_;simp only[ZE,seval,KE,↓zA7,↓zA8,↓zA9,zBN.eq_1,zBI.eq_1];simp only[ZE,seval,KE,d8,w8,m8,Nat.add_zero,decide_true,decide_false,zIR,zBJ,zb6,x0,n0,r0,wac,waq,wap,Expr.op,Expr.name,Expr.k,Expr.w,Expr.args,e0E',↓zA7,↓zA8,↓zA9,zBN.eq_1,zBI.eq_1]
 ·simp only[ZE,seval,KE,Int.natCast_one,↓zA7,↓zA8,↓zA9,zBN.eq_1,zBI.eq_1,d9,w9];refine EFn.p ?_;simp only[ZE,seval,KE];refine zar.i (q1) ?_;simp only[ZE,seval,KE,↓zA7,↓zA8,↓zA9,zBN.eq_1,zBI.eq_1];refine EFn.p ?_;simp only[ZE,seval,KE];refine zar.i (o8) ?_;simp only[ZE,seval,KE,↓zA7,↓zA8,↓zA9,zBN.eq_1,zBI.eq_1];simp only[ZE,seval,KE,d8,w8,m8,Nat.add_zero,decide_true,decide_false,zIR,zBJ,zb6,x0,n0,r0,wac,waq,wap,Expr.op,Expr.name,Expr.k,Expr.w,Expr.args,e0E',↓zA7,↓zA8,↓zA9,zBN.eq_1,zBI.eq_1]
 ·simp only[ZE,seval,KE,Int.natCast_one,↓zA7,↓zA8,↓zA9,zBN.eq_1,zBI.eq_1,d9,w9];refine EFn.p ?_;simp only[ZE,seval,KE];refine zar.i (q1) ?_;simp only[ZE,seval,KE,↓zA7,↓zA8,↓zA9,zBN.eq_1,zBI.eq_1];refine EFn.p ?_;simp only[ZE,seval,KE];refine zar.i (o4) ?_;simp only[ZE,seval,KE,↓zA7,↓zA8,↓zA9,zBN.eq_1,zBI.eq_1];refine EFn.p ?_;simp only[ZE,seval,KE];refine zar.i (q2) ?_;simp only[ZE,seval,KE,↓zA7,↓zA8,↓zA9,zBN.eq_1,zBI.eq_1];refine EFn.p ?_;simp only[ZE,seval,KE];refine zar.i (o8) ?_;simp only[ZE,seval,KE,↓zA7,↓zA8,↓zA9,zBN.eq_1,zBI.eq_1];simp only[ZE,seval,KE,d8,w8,m8,Nat.add_zero,decide_true,decide_false,zIR,zBJ,zb6,x0,n0,r0,wac,waq,wap,Expr.op,Expr.name,Expr.k,Expr.w,Expr.args,e0E',↓zA7,↓zA8,↓zA9,zBN.eq_1,zBI.eq_1]
 ·simp only[ZE,seval,KE,Int.natCast_one,↓zA7,↓zA8,↓zA9,zBN.eq_1,zBI.eq_1,d9,w9];refine EFn.p ?_;simp only[ZE,seval,KE];refine zar.i (q1) ?_;simp only[ZE,seval,KE,↓zA7,↓zA8,↓zA9,zBN.eq_1,zBI.eq_1];refine EFn.p ?_;simp only[ZE,seval,KE];refine zar.i (o4) ?_;simp only[ZE,seval,KE,↓zA7,↓zA8,↓zA9,zBN.eq_1,zBI.eq_1];refine EFn.p ?_;simp only[ZE,seval,KE];refine zar.i (q2) ?_;simp only[ZE,seval,KE,↓zA7,↓zA8,↓zA9,zBN.eq_1,zBI.eq_1];refine EFn.p ?_;simp only[ZE,seval,KE];refine zar.i (o6) ?_;simp only[ZE,seval,KE,↓zA7,↓zA8,↓zA9,zBN.eq_1,zBI.eq_1];refine EFn.p ?_;simp only[ZE,seval,KE];refine zar.i (q3) ?_;simp only[ZE,seval,KE,↓zA7,↓zA8,↓zA9,zBN.eq_1,zBI.eq_1];refine EFn.p ?_;simp only[ZE,seval,KE];refine zar.i (o8) ?_;simp only[ZE,seval,KE,↓zA7,↓zA8,↓zA9,zBN.eq_1,zBI.eq_1];refine EFn.p ?_;simp only[ZE,seval,KE];refine zar.i (x3) ?_;simp only[ZE,seval,KE,↓zA7,↓zA8,↓zA9,zBN.eq_1,zBI.eq_1];by_cases h7:y / 8 % 8=7
  ·simp only[ZE,seval,KE,d8,w8,m8,h7,decide_true,decide_false,↓zA7,↓zA8,↓zA9,zBN.eq_1,zBI.eq_1];refine EFn.p ?_;simp only[ZE,seval,KE];refine zar.i (nn) ?_;simp only[ZE,seval,KE,d8,w8,m8,h7,decide_true,decide_false,zIR,zBJ,zb6,x0,n0,r0,wac,waq,wap,Expr.op,Expr.name,Expr.k,Expr.w,Expr.args,e0E',↓zA7,↓zA8,↓zA9,zBN.eq_1,zBI.eq_1]
  ·simp only[ZE,seval,KE,d8,w8,m8,h7,decide_true,decide_false,zIR,zBJ,zb6,x0,n0,r0,wac,waq,wap,Expr.op,Expr.name,Expr.k,Expr.w,Expr.args,e0E',↓zA7,↓zA8,↓zA9,zBN.eq_1,zBI.eq_1]
 ·simp only[ZE,seval,KE,Int.natCast_one,↓zA7,↓zA8,↓zA9,zBN.eq_1,zBI.eq_1,d9,w9];refine EFn.p ?_;simp only[ZE,seval,KE];refine zar.i (q1) ?_;simp only[ZE,seval,KE,↓zA7,↓zA8,↓zA9,zBN.eq_1,zBI.eq_1];refine EFn.p ?_;simp only[ZE,seval,KE];refine zar.i (o8) ?_;simp only[ZE,seval,KE,↓zA7,↓zA8,↓zA9,zBN.eq_1,zBI.eq_1];refine EFn.p ?_;simp only[ZE,seval,KE];refine zar.i (x3) ?_;simp only[ZE,seval,KE,↓zA7,↓zA8,↓zA9,zBN.eq_1,zBI.eq_1];by_cases h7:y / 8 % 8=7
  ·simp only[ZE,seval,KE,d8,w8,m8,h7,decide_true,decide_false,↓zA7,↓zA8,↓zA9,zBN.eq_1,zBI.eq_1];refine EFn.p ?_;simp only[ZE,seval,KE];refine zar.i (nn) ?_;simp only[ZE,seval,KE,d8,w8,m8,h7,decide_true,decide_false,zIR,zBJ,zb6,x0,n0,r0,wac,waq,wap,Expr.op,Expr.name,Expr.k,Expr.w,Expr.args,e0E',↓zA7,↓zA8,↓zA9,zBN.eq_1,zBI.eq_1]
  ·simp only[ZE,seval,KE,d8,w8,m8,h7,decide_true,decide_false,zIR,zBJ,zb6,x0,n0,r0,wac,waq,wap,Expr.op,Expr.name,Expr.k,Expr.w,Expr.args,e0E',↓zA7,↓zA8,↓zA9,zBN.eq_1,zBI.eq_1]
 ·simp only[ZE,seval,KE,Int.natCast_one,↓zA7,↓zA8,↓zA9,zBN.eq_1,zBI.eq_1,d9,w9];refine EFn.p ?_;simp only[ZE,seval,KE];refine zar.i (q1) ?_;simp only[ZE,seval,KE,↓zA7,↓zA8,↓zA9,zBN.eq_1,zBI.eq_1];refine EFn.p ?_;simp only[ZE,seval,KE];refine zar.i (o4) ?_;simp only[ZE,seval,KE,↓zA7,↓zA8,↓zA9,zBN.eq_1,zBI.eq_1];refine EFn.p ?_;simp only[ZE,seval,KE];refine zar.i (q2) ?_;simp only[ZE,seval,KE,↓zA7,↓zA8,↓zA9,zBN.eq_1,zBI.eq_1];refine EFn.p ?_;simp only[ZE,seval,KE];refine zar.i (o6) ?_;simp only[ZE,seval,KE,↓zA7,↓zA8,↓zA9,zBN.eq_1,zBI.eq_1];refine EFn.p ?_;simp only[ZE,seval,KE];refine zar.i (q3) ?_;simp only[ZE,seval,KE,↓zA7,↓zA8,↓zA9,zBN.eq_1,zBI.eq_1];refine EFn.p ?_;simp only[ZE,seval,KE];refine zar.i (o8) ?_;simp only[ZE,seval,KE,↓zA7,↓zA8,↓zA9,zBN.eq_1,zBI.eq_1];refine EFn.p ?_;simp only[ZE,seval,KE];refine zar.i (x3) ?_;simp only[ZE,seval,KE,↓zA7,↓zA8,↓zA9,zBN.eq_1,zBI.eq_1];by_cases h7:y / 8 % 8=7
  ·simp only[ZE,seval,KE,d8,w8,m8,h7,decide_true,decide_false,↓zA7,↓zA8,↓zA9,zBN.eq_1,zBI.eq_1];refine EFn.p ?_;simp only[ZE,seval,KE];refine zar.i (nn) ?_;simp only[ZE,seval,KE,↓zA7,↓zA8,↓zA9,zBN.eq_1,zBI.eq_1];refine EFn.p ?_;simp only[ZE,seval,KE];refine zar.i (x2) ?_;simp only[ZE,seval,KE,↓zA7,↓zA8,↓zA9,zBN.eq_1,zBI.eq_1];refine EFn.p ?_;simp only[ZE,seval,KE];refine zar.i (x1) ?_;simp only[ZE,seval,KE,↓zA7,↓zA8,↓zA9,zBN.eq_1,zBI.eq_1];simp only[ZE,seval,KE,d8,w8,m8,h7,decide_true,decide_false,zIR,zBJ,zb6,x0,n0,r0,wac,waq,wap,Expr.op,Expr.name,Expr.k,Expr.w,Expr.args,e0E',↓zA7,↓zA8,↓zA9,zBN.eq_1,zBI.eq_1]
  ·simp only[ZE,seval,KE,d8,w8,m8,h7,decide_true,decide_false,↓zA7,↓zA8,↓zA9,zBN.eq_1,zBI.eq_1];refine EFn.p ?_;simp only[ZE,seval,KE];refine zar.i (x2) ?_;simp only[ZE,seval,KE,↓zA7,↓zA8,↓zA9,zBN.eq_1,zBI.eq_1];refine EFn.p ?_;simp only[ZE,seval,KE];refine zar.i (x1) ?_;simp only[ZE,seval,KE,↓zA7,↓zA8,↓zA9,zBN.eq_1,zBI.eq_1];simp only[ZE,seval,KE,d8,w8,m8,h7,decide_true,decide_false,zIR,zBJ,zb6,x0,n0,r0,wac,waq,wap,Expr.op,Expr.name,Expr.k,Expr.w,Expr.args,e0E',↓zA7,↓zA8,↓zA9,zBN.eq_1,zBI.eq_1]
 ·simp only[ZE,seval,KE,Int.natCast_one,↓zA7,↓zA8,↓zA9,zBN.eq_1,zBI.eq_1,d9,w9];refine EFn.p ?_;simp only[ZE,seval,KE];refine zar.i (o8) ?_;simp only[ZE,seval,KE,↓zA7,↓zA8,↓zA9,zBN.eq_1,zBI.eq_1];refine EFn.p ?_;simp only[ZE,seval,KE];refine zar.i (x3) ?_;simp only[ZE,seval,KE,↓zA7,↓zA8,↓zA9,zBN.eq_1,zBI.eq_1];by_cases h7:y / 8 % 8=7
  ·simp only[ZE,seval,KE,d8,w8,m8,h7,decide_true,decide_false,↓zA7,↓zA8,↓zA9,zBN.eq_1,zBI.eq_1];refine EFn.p ?_;simp only[ZE,seval,KE];refine zar.i (nn) ?_;simp only[ZE,seval,KE,d8,w8,m8,h7,decide_true,decide_false,zIR,zBJ,zb6,x0,n0,r0,wac,waq,wap,Expr.op,Expr.name,Expr.k,Expr.w,Expr.args,e0E',↓zA7,↓zA8,↓zA9,zBN.eq_1,zBI.eq_1]
  ·simp only[ZE,seval,KE,d8,w8,m8,h7,decide_true,decide_false,zIR,zBJ,zb6,x0,n0,r0,wac,waq,wap,Expr.op,Expr.name,Expr.k,Expr.w,Expr.args,e0E',↓zA7,↓zA8,↓zA9,zBN.eq_1,zBI.eq_1]
 ·simp only[ZE,seval,KE,Int.natCast_one,↓zA7,↓zA8,↓zA9,zBN.eq_1,zBI.eq_1,d9,w9];refine EFn.p ?_;simp only[ZE,seval,KE];refine zar.i (o8) ?_;simp only[ZE,seval,KE,↓zA7,↓zA8,↓zA9,zBN.eq_1,zBI.eq_1];refine EFn.p ?_;simp only[ZE,seval,KE];refine zar.i (x3) ?_;simp only[ZE,seval,KE,↓zA7,↓zA8,↓zA9,zBN.eq_1,zBI.eq_1];by_cases h7:y / 8 % 8=7
  ·simp only[ZE,seval,KE,d8,w8,m8,h7,decide_true,decide_false,↓zA7,↓zA8,↓zA9,zBN.eq_1,zBI.eq_1];refine EFn.p ?_;simp only[ZE,seval,KE];refine zar.i (nn) ?_;simp only[ZE,seval,KE,↓zA7,↓zA8,↓zA9,zBN.eq_1,zBI.eq_1];refine EFn.p ?_;simp only[ZE,seval,KE];refine zar.i (x2) ?_;simp only[ZE,seval,KE,↓zA7,↓zA8,↓zA9,zBN.eq_1,zBI.eq_1];simp only[ZE,seval,KE,d8,w8,m8,h7,decide_true,decide_false,zIR,zBJ,zb6,x0,n0,r0,wac,waq,wap,Expr.op,Expr.name,Expr.k,Expr.w,Expr.args,e0E',↓zA7,↓zA8,↓zA9,zBN.eq_1,zBI.eq_1]
  ·simp only[ZE,seval,KE,d8,w8,m8,h7,decide_true,decide_false,↓zA7,↓zA8,↓zA9,zBN.eq_1,zBI.eq_1];refine EFn.p ?_;simp only[ZE,seval,KE];refine zar.i (x2) ?_;simp only[ZE,seval,KE,↓zA7,↓zA8,↓zA9,zBN.eq_1,zBI.eq_1];simp only[ZE,seval,KE,d8,w8,m8,h7,decide_true,decide_false,zIR,zBJ,zb6,x0,n0,r0,wac,waq,wap,Expr.op,Expr.name,Expr.k,Expr.w,Expr.args,e0E',↓zA7,↓zA8,↓zA9,zBN.eq_1,zBI.eq_1]
 ·simp only[ZE,seval,KE,Int.natCast_one,↓zA7,↓zA8,↓zA9,zBN.eq_1,zBI.eq_1,d9,w9];refine EFn.p ?_;simp only[ZE,seval,KE];refine zar.i (o8) ?_;simp only[ZE,seval,KE,↓zA7,↓zA8,↓zA9,zBN.eq_1,zBI.eq_1,d9,w9];refine EFn.p ?_;simp only[ZE,seval,KE];refine zar.i (n2) ?_;simp only[ZE,seval,KE];refine za1 (fun i=>if i=2001 then [.ord ⟨[(0,none),(1,none),(2,none),(3,none),(4,none),(5,some []),(6,some [])]⟩]else if i=2019 then [.flt ⟨[(0,none),(1,none),(2,none),(3,none),(4,none),(5,none),(6,none),(7,none),(8,some []),(9,none),(10,some [])]⟩ ⟨[],[]⟩]else if i=2020 then [.flt ⟨[(0,none),(1,none),(2,none),(3,none),(4,none),(5,none),(6,none),(7,none),(8,none),(9,none),(10,none),(11,none),(12,none),(13,some []),(14,none),(15,some [])]⟩ ⟨[],[]⟩]else if i=2021 then [.ord ⟨[(0,none),(1,none),(2,none),(3,none),(4,some [])]⟩]else if i=16 then [.adB 6 33 61 105 2,.adB 6 34 62 230 2]else if i=1021 then [.frz 61,.frz 62]else chL i) zat (y / 8 % 3) (fun _=>True) (fun i=>([(1,.bp 1 0),(2,.bp 2 0),(4,.d (eI y)),(6,.bp 6 0),(7,.d (eI i))],[(1,.box [.d (eBy l),.d (eI ((a+8:Nat):Int))]),(2,.box [.d (eI 0),.d (eSb was),.d (eI 0),.d (eSb was),.d (eI 0),.d (eSb was),.d (eI 0),.d (eSb was),.d (eI 0),.d (eSb was),.d (eI 0),.d (eSb was),.d (eI 0),.d (eSb was),.nils,.d (eI 0),.d (eSb was),.d (eI 0),.d (eSb was),.d (eI 0),.d (eSb was),.nils,.d (eI 0),.d (eSb was),.d (eI 0),.d (eSb was),.d (eI 0),.d (eSb was),.nils,.d (eI 0),.d (eSb was),.d (eI 0),.d (eSb was),.nils,.nils,.nils,.d (eI 0)]),(6,.box [.d (eI 9),.d (eSb N1),.d (eI 0),.d (eSb was),.d (eI 0),.d (eSb was),.d (eI 0),.d (eSb was),.d (eI 0),.d (eSb was),.d (eI 0),.d (eSb was),.d (eI 0),.d (eSb was),.nils,.d (eI 0),.d (eSb was),.d (eI 0),.d (eSb was),.d (eI 0),.d (eSb was),.nils,.d (eI 0),.d (eSb was),.d (eI 0),.d (eSb was),.d (eI 0),.d (eSb was),.nils,.d (eI 0),.d (eSb was),.d (eI 0),.d (eSb N2),.ar 61 i,.ar 62 i]),(61,.arr 105 2 .flat ((zIT l (a+8) i).map zgL)),(62,.arr 230 2 .flat ((zHI l (a+8) y i).map zjO))])) trivial ?_ ?_ (fun i hi _=> ?_)
  ·simp only[ZE,seval,KE]
  ·simp only[ZE,seval,KE,zIT,zHI,List.range_zero,wac]
  have hlA:(zIT l (a+8) i).length =i:=by simp[zIT]
  have hlB:(zHI l (a+8) y i).length =i:=by simp[zHI]
  by_cases h:i<y / 8 % 3
  ·have hw:=zaq (show i<9223372036854775807 by omega);have hi2:i<=2:=by omega
   have hm2:IntKind.i64.wrap (2*(i:Int))=((2*i:Nat):Int):=by rw[zaQ (by omega) (by omega)]; simp
   have hiy:IntKind.i64.wrap ((i:Int)+(y:Int))=((i+y:Nat):Int):=by rw[zaQ (by omega) (by omega)]; simp
   have oa:=on_q l (a+8) (2*i) (by omega) (by omega);have qa:=num_q l (a+8+2*i) hb (by omega);have ob:=on_q l (a+8) i (by omega) (by omega);have bb:=zF8 l (a+8+i) hb (by omega);have hz:=zCZ hb (a+8+i);have nc:=zG9 (i+y) (by omega);have hA:zIT l (a+8) (i+1)=zIT l (a+8) i++[zHM l (a+8+2*i)]:=by simp[zIT,List.range_succ]
   have hB:zHI l (a+8) y (i+1)=zHI l (a+8) y i++[⟨zCk (zAY l (a+8+i)),zCk (i+y)⟩]:=by simp[zHI,List.range_succ]
   obtain⟨z,hzz⟩:=zX (zAY l (a+8+i));rw[hzz]at bb hz hB;have nb:=zG9 z (by omega);simp only[ZE,seval,KE]at oa;simp only[ZE,seval,KE]at qa;simp only[ZE,seval,KE]at ob;simp only[ZE,seval,KE]at bb;simp only[ZE,seval,KE]at nb;simp only[ZE,seval,KE]at nc;simp only[ZE,seval,KE,d8,w8,m3,zaw h,hm2];refine⟨by kernel_rfl,zaz.i oa ?_⟩;simp only[ZE,seval,KE];refine zaz.i qa ?_;simp only[ZE,seval,KE,hlA,waa];refine⟨⟨by omega,by omega⟩,by rw[wab,waa,hlA]; rfl,by kernel_rfl,zaz.i ob ?_⟩;simp only[ZE,seval,KE];refine zaz.i bb ?_;simp only[ZE,seval,KE];refine zaz.i nb ?_;simp only[ZE,seval,KE,hiy];refine zaz.i nc ?_;simp only[ZE,seval,KE,hlB,hlA,waa,hA,hB,waf,wae,wac];exact⟨⟨by omega,by omega⟩,by rw[wab,waa,hlB]; rfl,h,by rw[hw]⟩
  ·have:i=y / 8 % 3:=by omega
   subst this;simp only[ZE,seval,KE,d8,w8,m3,zaI (waw (y / 8 % 3)),hlA,hlB,waa];refine⟨by kernel_rfl,zaz.i o12 ?_⟩;simp only[ZE,seval,KE,zIR,zBJ,zb6,x0,n0,r0,wac,waq,wap,Expr.op,Expr.name,Expr.k,Expr.w,Expr.args,e0E']
theorem itemG_pos(l:List Nat)(a:Nat):(zIU l a).2 <=a+400:=by
 have h3:=zId l 3 (a+8);have h2:=zId l 2 (zCC l 3 (a+8)).2;have h1:=zId l 2 (zCC l 2 (zCC l 3 (a+8)).2).2;simp only[pB]at h1 h2 h3;unfold zIU zgm;simp only[]
 repeat' split
 all_goals (simp only; omega)
def parG(l:List Nat)(i:Nat):List Bts:=(List.range i).map fun j=>zCk (zAY l 1 / 8+j)
theorem parG_0(l:List Nat):parG l 0=[]:=rfl
theorem mod_q(l:List Nat)(hb: ∀b∈l,b<256):FnP prog 60 [eBy l] (.d (.agg (zaC (zDu l)))) []:=by
 have b0:=zF8 l 0 hb (by omega);have b1:=zF8 l 1 hb (by omega);have o1:=on_q l 0 1 (by omega) (by omega);have o2:=on_q l 0 2 (by omega) (by omega);have hx:=zCZ hb 0;have hy:=zCZ hb 1;rw[Nat.zero_add]at o1 o2;have hP:zD0 l=parG l (zAY l 0 / 8 % 3):=rfl;have hpn: ∀i,parG l (i+1)=parG l i++[zCk (zAY l 1 / 8+i)]:=fun i=>by simp[parG,List.range_succ]
 have hpl: ∀i,(parG l i).length =i:=fun i=>by simp[parG]
 unfold zDu;rw[hP];obtain⟨x,hxx⟩:=zX (zAY l 0);obtain⟨y,hyy⟩:=zX (zAY l 1);rw[hxx]at b0 hx ⊢;rw[hyy]at b1 hy hpn ⊢;have n0':=zG9 x (by omega);have n1:=zG9 y (by omega);obtain⟨N0,hN0⟩: ∃N,zCk x=N:=⟨_,rfl⟩;obtain⟨N1,hN1⟩: ∃N,zCk y=N:=⟨_,rfl⟩;rw[hN0]at n0' ⊢;rw[hN1]at n1 ⊢;have d8:(x:Int).tdiv 8=((x / 8:Nat):Int):=zHp x 8;have w8:IntKind.i64.wrap ((x / 8:Nat):Int)=((x / 8:Nat):Int):=zGr (by omega);have m3:(((x / 8:Nat):Int)).tmod 3=((x / 8 % 3:Nat):Int):=zI0 (x / 8) 3;have dy8:(y:Int).tdiv 8=((y / 8:Nat):Int):=zHp y 8;have wy8:IntKind.i64.wrap ((y / 8:Nat):Int)=((y / 8:Nat):Int):=zGr (by omega);simp only[ZE,seval,KE]at b0;simp only[ZE,seval,KE]at b1;simp only[ZE,seval,KE]at o1;simp only[ZE,seval,KE]at o2;simp only[ZE,seval,KE]at n0';simp only[ZE,seval,KE]at n1;refine FnP.of_eC (own:=[]) (fun i=>if i=2002 then [.flt ⟨[(0,none),(1,none),(2,none),(3,none),(4,none),(5,none),(6,none),(7,none),(9,some [])]⟩ ⟨[8],[(9,[8])]⟩]else if i=2006 then [.flt ⟨[(0,none),(1,none),(2,none),(3,none),(4,none),(5,none),(6,none),(7,none),(8,none),(9,none),(10,some []),(11,none),(12,some [])]⟩ ⟨[],[]⟩]else if i=3 then [.adB 4 2 71 9 1]else if i=7 then [.frz 71,.adB 4 3 72 114 35]else if i=1012 then [.frz 72]else chL i) zat func60 rfl call60 ntmps60 (zle rfl) results60 (fun hok=> ?_);have hl:l.length<=9223372036854775807:=(za9 (zaM hok).1).1;simp only[ZE,seval,KE];refine⟨by kernel_rfl,zaz.i b0 ?_⟩;simp only[ZE,seval,KE];refine zaz.i n0' ?_;simp only[ZE,seval,KE];refine zaz.i o1 ?_;simp only[ZE,seval,KE];refine zaz.i b1 ?_;simp only[ZE,seval,KE];refine zaz.i n1 ?_;simp only[ZE,seval,KE];refine za1 (fun i=>if i=2002 then [.flt ⟨[(0,none),(1,none),(2,none),(3,none),(4,none),(5,none),(6,none),(7,none),(9,some [])]⟩ ⟨[8],[(9,[8])]⟩]else if i=2006 then [.flt ⟨[(0,none),(1,none),(2,none),(3,none),(4,none),(5,none),(6,none),(7,none),(8,none),(9,none),(10,some []),(11,none),(12,some [])]⟩ ⟨[],[]⟩]else if i=3 then [.adB 4 2 71 9 1]else if i=7 then [.frz 71,.adB 4 3 72 114 35]else if i=1012 then [.frz 72]else chL i) zat (x / 8 % 3) (fun _=>True) (fun i=>([(0,.d (eBy l)),(2,.bp 2 0),(3,.bp 3 0),(4,.bp 4 0),(5,.d (eI i))],[(2,.box [.d (eSb e0),.d (eSb e0),.nils,.nils]),(3,.box [.d (eBy l),.d (eI 0)]),(4,.box [.d (eSb N0),.d (eSb N1),.ar 71 i,.nils]),(71,.arr 9 1 .flat ((parG l i).map fun s=>[eSb s]))])) trivial ?_ ?_ (fun i hi _=> ?_)
 ·simp only[ZE,seval,KE,e0F]
 ·simp only[ZE,seval,KE,e0F,parG_0,wac]
 by_cases h:i<x / 8 % 3
 ·have hw:=zaq (show i<9223372036854775807 by omega);have hn:=zG9 (y / 8+i) (by omega);have hs:IntKind.i64.wrap (((y / 8:Nat):Int)+(i:Int))=((y / 8+i:Nat):Int):=by rw[zaQ (by omega) (by omega)]; simp
  simp only[ZE,seval,KE]at hn;simp only[ZE,seval,KE];refine EFn.p ?_;simp only[ZE,seval,KE];refine zar.i (b0) ?_;simp only[ZE,seval,KE,d8,w8,m3,zaw h];refine⟨by kernel_rfl,zaz.i o1 ?_⟩;simp only[ZE,seval,KE];refine zaz.i b1 ?_;simp only[ZE,seval,KE,dy8,wy8,hs];refine zaz.i hn ?_;simp only[ZE,seval,KE,hpl,waa,hpn,waf,wae,wac];exact⟨⟨by omega,by omega⟩,by rw[wab,waa,hpl]; rfl,h,by rw[hw]⟩
 have:i=x / 8 % 3:=by omega
 subst this;simp only[ZE,seval,KE];refine EFn.p ?_;simp only[ZE,seval,KE];refine zar.i (b0) ?_;simp only[ZE,seval,KE,d8,w8,m3,zaI (waw (x / 8 % 3)),hpl];refine EFn.p ?_;simp only[ZE,seval,KE];refine zar.i (o2) ?_;simp only[ZE,seval,KE,hpl];obtain⟨PS,hPS⟩:=zX (parG l (x / 8 % 3));simp only[hPS];obtain⟨R,hR⟩:=zX (zG2 l 4 [] 2);simp only[hR];refine zgR (X:=List Item×Nat) (fun _=>(fun i=>if i=2002 then [.flt ⟨[(0,none),(1,none),(2,none),(3,none),(4,none),(5,none),(6,none),(7,none),(9,some [])]⟩ ⟨[8],[(9,[8])]⟩]else if i=2006 then [.flt ⟨[(0,none),(1,none),(2,none),(3,none),(4,none),(5,none),(6,none),(7,none),(8,none),(9,none),(10,some []),(11,none),(12,some [])]⟩ ⟨[],[]⟩]else if i=3 then [.adB 4 2 71 9 1]else if i=7 then [.frz 71,.adB 4 3 72 114 35]else if i=1012 then [.frz 72]else chL i)) zat 4 (fun i z=>z.1.length=i/\z.2<=2+400*i/\R=zG2 l (4-i) z.1 z.2)
  (fun _ z=>([(0,.d (eBy l)),(2,.bp 2 0),(3,.bp 3 0),(4,.bp 4 0)],[(2,.box [.d (eSb e0),.d (eSb e0),.nils,.nils]),(3,.box [.d (eBy l),.d (eI z.2)]),(4,.box [.d (eSb N0),.d (eSb N1),.d (.sl (PS.map fun s=>[eSb s])),.ar 72 z.1.length]),(72,.arr 114 35 .flat (z.1.map zaK))])) ([],2) ⟨rfl,by simp,hR.symm⟩ ?_ ?_ (fun i z hi hI=> ?_)
 ·simp only[ZE,seval,KE]
 ·simp only[ZE,seval,KE,e0F,wag,wac]
 obtain⟨acc,c⟩:=z;obtain⟨I1,I2,I3⟩:=hI;simp only at I1 I2 I3;have hq:=item_q l hb c (by omega);have hp:=itemG_pos l c;have g1:((acc.length:Int)==0)=decide (acc.length=0):=by rw[Bool.eq_iff_iff]; simp
 have g2:decide ((c:Int)<(l.length:Int))=decide (c<l.length):=by rw[decide_eq_decide]; omega
 have g3:decide ((acc.length:Int)<4)=decide (acc.length<4):=by rw[decide_eq_decide]; omega
 by_cases hgo:i<4/\(acc.length=0\/c<l.length)
 ·obtain⟨h4,hor⟩:=hgo;rw[show 4-i=4-(i+1)+1 by omega]at I3;unfold zG2 at I3;rw[if_pos hor]at I3;obtain⟨X,hX⟩:=zX (zIU l c);rw[hX]at hq hp I3;obtain⟨X1,X2⟩:=X;simp only at hp;have hl9:acc.length+1=(acc++[X1]).length :=by simp
  unfold zIR at hq;rw[zBJ]at hq;simp only[ZE,seval,KE,waq,wap]at hq;have hmap:acc.map zaK++[zaK X1]=(acc++[X1]).map zaK:=by rw[waf]; rfl
  rw[zBJ]at hmap;simp only[ZE,seval,KE]at hmap;have g5:decide (acc.length<4)=true:=by simp; omega
  obtain⟨u1,hu1⟩: ∃u,decide (acc.length=0)=u:=⟨_,rfl⟩;obtain⟨u2,hu2⟩: ∃u,decide (c<l.length)=u:=⟨_,rfl⟩;cases u1
  case true=>
   simp only[ZE,seval,KE,waa,g1,g2,g3,g5,hu1,↓zA7,↓zA8,↓zA9,zBN.eq_1,zBI.eq_1];refine EFn.p ?_;simp only[ZE,seval,KE];refine zar.i (hq) ?_;simp only[ZE,seval,KE,waa,hmap];refine⟨⟨by omega,by omega⟩,by simp,?_⟩;refine⟨by omega,(acc++[X1],X2),⟨by rw[<-hl9,I1],by omega,by rw[show 3-i=4-(i+1) by omega]; exact I3⟩,?_,?_⟩
   ·simp only[ZE,seval]
   ·simp only[ZE,seval,KE,<-hl9]
  case false=>
   have hu3:u2=true:=by
    rcases hor with h | h
    ·rw[decide_eq_true h]at hu1; cases hu1
    ·rw[<-hu2]; exact decide_eq_true h
   subst hu3;simp only[ZE,seval,KE,waa,g1,g2,g3,g5,hu1,hu2,↓zA7,↓zA8,↓zA9,zBN.eq_1,zBI.eq_1];refine EFn.p ?_;simp only[ZE,seval,KE];refine zar.i (hq) ?_;simp only[ZE,seval,KE,waa,hmap];refine⟨⟨by omega,by omega⟩,by simp,?_⟩;refine⟨by omega,(acc++[X1],X2),⟨by rw[<-hl9,I1],by omega,by rw[show 3-i=4-(i+1) by omega]; exact I3⟩,?_,?_⟩
   ·simp only[ZE,seval]
   ·simp only[ZE,seval,KE,<-hl9]
 ·have hR2:R=acc:=by
   rcases wau i 4 with h4 | h4
   ·rw[I3,show 4-i=4-(i+1)+1 by omega];unfold zG2;rw[if_neg (fun h=>hgo ⟨h4,h⟩)]
   ·rw[I3,show 4-i=0 by omega];rfl
  have g4:decide (acc.length=0)=false:=by
   rw[decide_eq_false_iff_not];exact fun h=>hgo ⟨by omega,.inl h⟩
  subst hR2;obtain⟨u2,hu2⟩: ∃u,decide (c<l.length)=u:=⟨_,rfl⟩;cases u2
  case false=>
   simp only[ZE,seval,KE,waa,g1,g2,g3,g4,hu2,↓zA7,↓zA8,↓zA9,zBN.eq_1,zBI.eq_1]
  case true=>
   have g5:decide (R.length<4)=false:=by
    rw[decide_eq_false_iff_not];intro h;exact hgo ⟨by omega,.inr (of_decide_eq_true hu2)⟩
   simp only[ZE,seval,KE,waa,g1,g2,g3,g4,g5,hu2,↓zA7,↓zA8,↓zA9,zBN.eq_1,zBI.eq_1]
theorem file_q(x:List (List Nat))(hx: ∀l∈x,∀b∈l,b<256):FnP prog 17 [.agg [.sl (x.map fun l=>[eBy l])]] (.d (.agg [zax (zE4 x)])) []:=by
 have hm0:=mod_q [] (by simp);refine FnP.of_eC (own:=[]) (fun i=>if i=2005 then [.flt ⟨[(0,none),(1,none),(2,none),(3,none),(4,none),(5,none),(6,none),(7,none),(8,none),(9,some []),(10,none),(11,some [])]⟩ ⟨[],[]⟩]else if i=2007 then [.flt ⟨[(0,none),(1,none),(2,none),(3,none),(4,none),(5,some []),(6,none),(7,some [])]⟩ ⟨[],[]⟩]else if i=2 then [.adB 3 0 81 46 4]else if i=1008 then [.frz 81]else chL i) zat func17 rfl call17 ntmps17 (zle rfl) results17 (fun hok=> ?_);have hl:x.length<=9223372036854775807:=by
  simp only[D.okL,D.ok,waa]at hok;have:=hok.1.1.1;unfold maxLen at this;omega
 obtain⟨n,hn⟩:=zX (min x.length 3);have hlen: ∀i,i<=n->((x.take i).map zDu).length =i:=fun i hi=>by rw[waa,wal]; omega
 simp only[ZE,seval,KE];refine za1 (fun i=>if i=2005 then [.flt ⟨[(0,none),(1,none),(2,none),(3,none),(4,none),(5,none),(6,none),(7,none),(8,none),(9,some []),(10,none),(11,some [])]⟩ ⟨[],[]⟩]else if i=2007 then [.flt ⟨[(0,none),(1,none),(2,none),(3,none),(4,none),(5,some []),(6,none),(7,some [])]⟩ ⟨[],[]⟩]else if i=2 then [.adB 3 0 81 46 4]else if i=1008 then [.frz 81]else chL i) zat n (fun _=>True) (fun i=>([(1,.bp 1 0),(2,.bp 2 0),(3,.bp 3 0),(4,.d (eI i))],[(1,.box [.d (.sl (x.map fun l=>[eBy l]))]),(2,.box [.nils]),(3,.box [.ar 81 i]),(81,.arr 46 4 .flat (((x.take i).map zDu).map zaC))])) trivial ?_ ?_ (fun i hi _=> ?_)
 ·simp only[ZE,seval,KE]
 ·simp only[ZE,seval,KE,war,wac]
 have hw:=zaq (show i<9223372036854775807 by omega);by_cases h:i<n
 ·have h1:i<x.length:=by omega
  have g2:decide ((i:Int)<3)=true:=by simp; omega
  have e2:(x.map fun l=>[eBy l]).getD i []=[eBy x[i]]:=zaa h1 [];have hm:=mod_q x[i] (hx _ (waj h1));have ht:(x.take (i+1)).map zDu=(x.take i).map zDu++[zDu x[i]]:=by rw[wai h1,waf]; rfl
  obtain⟨y,hy⟩:=zX (x[i]);rw[hy]at e2 hm ht;obtain⟨M,hM⟩:=zX (zDu y);rw[hM]at hm ht;simp only[ZE,seval,KE]at e2;simp only[ZE,seval,KE]at hm;simp only[ZE,seval,KE,waa,zaw h1,g2,↓zA7,↓zA8,↓zA9,zBN.eq_1,zBI.eq_1,zai h1,e2,wat];refine⟨by kernel_rfl,zaz.i hm ?_⟩;simp only[ZE,seval,KE,hlen i (by omega),waa,ht,waf,wae,wac];exact⟨⟨by omega,by omega⟩,by rw[wab,waa,hlen i (by omega)]; rfl,h,by rw[hw]⟩
 have hin:i=n:=by omega
 have hli:=hlen i hi;by_cases h0:x.length=0
 ·have hi0:i=0:=by omega
  have hF:zE4 x=[zDu []]:=if_pos h0;rw[hF];have g1:decide ((0:Int)<(x.length:Int))=false:=by rw[h0]; rfl
  obtain⟨M,hM⟩:=zX (zDu []);rw[hM]at hm0 ⊢;simp only[ZE,seval,KE,wac]at hm0;subst hi0;simp only[ZE,seval,KE,waa,g1,↓zA7,↓zA8,↓zA9,zBN.eq_1,zBI.eq_1,war,wac];refine⟨by kernel_rfl,zaz.i hm0 ?_⟩;simp only[ZE,seval,KE,wae,wac]
 ·have hF:zE4 x=(x.take i).map zDu:=by
   unfold zE4;rw[if_neg h0];congr 1;rcases wau x.length 3 with h3 | h3
   ·rw[wam (by omega),wam (by omega)]
   ·rw[show i=3 by omega]
  rw[hF];have g3:((i:Int)==0)=false:=beq_eq_false_iff_ne.2 (by omega);obtain⟨u,hu⟩:=zX (decide ((i:Int)<(x.length:Int)));cases u
  case false=>
   simp only[ZE,seval,KE,waa,hu,g3,hli,↓zA7,↓zA8,↓zA9,zBN.eq_1,zBI.eq_1]
  case true=>
   have g2:decide ((i:Int)<3)=false:=by
    have:=of_decide_eq_true hu;simp; omega
   simp only[ZE,seval,KE,waa,hu,g2,g3,hli,↓zA7,↓zA8,↓zA9,zBN.eq_1,zBI.eq_1]
set_option maxHeartbeats 4000000
theorem count_take(s:Bts)(i:Nat)(h:i<s.size):(s.data.toList.take (i+1)).count 10=(s.data.toList.take i).count 10+if s.data.getD i 0=10 then 1 else 0:=by
 have hz:s.data.toList.length=s.size:=by rw[Array.length_toList]; rfl
 have h2:i<s.data.size:=h;rw[wai (by omega),List.count_append];have hz2:s.data.size=s.size:=rfl;have:s.data.toList[i]'(by omega)=s.data.getD i 0:=by simp[Array.getD,hz2,h]
 rw[this];generalize s.data.getD i 0=v;by_cases hc:v=10
 ·rw[hc]; rfl
 ·rw[if_neg hc,List.count_singleton];simp[hc]
theorem cnt_nil:List.count (10:UInt8) []=0:=rfl
theorem want_nil:zD5 []=0:=rfl
theorem zHt: ∀(l:List Module) (i:Nat) (h:i<l.length),zD5 (l.take (i+1))=zD5 (l.take i)+(2+l[i].items.length)
 | [],i,h=>by simp at h
 | m::r,0,_=>by simp[zD5]
 | m::r,i+1,h=>by
  have:=zHt r i (by simpa using h);simp only[List.take_succ_cons,zD5,this,List.getElem_cons_succ];omega
theorem made_file(x:List (List Nat))(hx: ∀l∈x,∀b∈l,b<256):
  ∃l t,zE4 x=l/\zCl l=(t,0)/\t.size<=5220/\zAQ t=(l,0,0)/\lfB t=zD5 l/\l.length<=3/\0<l.length/\(∀m∈l,m.items.length<=4)/\
   ((∀m∈l,modR itemR m)/\l.length<=1000000/\(zDF l l.length (e0,true)).1.size <=LIM):=by
 obtain⟨h1,h2,h3,h4,h5⟩:=fileG_ok x hx;have hL:=zIX _ (zEf _ h1);have hP:=zFt _ h1 (zGS (zAk (zE4 x)) 0) (by rw[(zDy _ 0).1]) (zDy _ 0).2;refine⟨_,pcB (zAk (zE4 x)),rfl,by rw[zIY,if_pos ⟨h1,by omega⟩],h2,zIw (by omega) hL hP,lines_law h1,h3,h4,fun m hm=>(h5 m hm).2,file_r h1 (by omega)⟩
theorem round_w(Z:GP)(hZ:Z.Ok)(x:List (List Nat))(hx: ∀l∈x,∀b∈l,b<256):
  FnL prog 4 [.d (.agg [.sl (x.map fun l=>[eBy l])])] [(7777777,Z.o)] (fun V ol new=>V= .d (eB true)/\ol=[(7777777,Z.o)]/\new=[]):=by
 have he:=zHD Z hZ;have hf:=file_q x hx;obtain⟨l,t,h1,h2,h3,h4,h5,h6,h7,h8,⟨r1,r2,r3⟩⟩:=made_file x hx;rw[h1]at hf;have pr:=zHf Z hZ l r1 r2 r3;rw[h2]at pr;have pt:=zC5 Z hZ t (by omega);unfold zFV at pt;rw[h4]at pt;have hsm:=zHk l 0 0;have hlf:(t.data.toList.take t.size).count 10=zD5 l:=by
  rw[wam (by rw[Array.length_toList]; exact waw _)]; exact h5
 have hlim: ∀i,(t.data.toList.take i).count 10<=6000:=fun i=>by
  have a1:=List.count_le_length (a:=(10:UInt8)) (l:=t.data.toList.take i);have a2:t.data.toList.length=t.size:=by rw[Array.length_toList]; rfl
  rw[wal]at a1;omega
 have hwl: ∀i,i<=l.length->zD5 (l.take i)<=i*6:=by
  intro i
  induction i with
  | zero=>intro _; simp[zD5]
  | succ i ih=>
   intro hi;have:=ih (by omega);have h9:=h8 _ (waj (show i<l.length by omega));rw[zHt l i (by omega)];omega
 refine FnL.srt (FnL.of_eH 1999 [] (own:=[]) (fun i=>if i=2016 then [.flt ⟨[(0,none),(1,none),(2,none),(3,none),(4,none),(5,none),(6,none),(7,none),(8,none),(9,none),(10,none),(11,none),(12,none),(13,none),(14,none),(15,none),(16,none),(18,none),(19,none),(17,some [18,19]),(20,none),(21,none),(22,none),(23,none),(24,none),(25,some [])]⟩ ⟨[],[]⟩]else chL i) [] zat func4 rfl call4 ntmps4 (zle rfl) results4 (zCw Z _ (by simp[AV.noRefs,AV.noRef])) (fun gs=> ?_));simp only[ZE,seval,KE]at he;simp only[ZE,seval,KE]at hf;simp only[ZE,seval,KE]at pr;simp only[ZE,seval,KE]at pt;simp only[ZE,seval,KE]at hsm;simp only[ZE,seval,KE,GZ];refine EFn.gV [(7777777,7777777)] he ?_ ?_
 ·simp only[ZE,seval,GZ]
 rintro V ol new ⟨rfl,rfl,rfl⟩;simp only[ZE,seval,KE,Bool.not_true,GZ];refine EFn.p ?_;simp only[ZE,seval,KE,GZ];refine zar.i (hf) ?_;simp only[ZE,seval,KE,GZ];refine EFn.gV [(7777777,7777777)] pr ?_ ?_
 ·simp only[ZE,seval,GZ]
 rintro V ol new ⟨rfl,rfl,rfl⟩;simp only[ZE,seval,KE,GZ];refine za1 (fun i=>if i=2016 then [.flt ⟨[(0,none),(1,none),(2,none),(3,none),(4,none),(5,none),(6,none),(7,none),(8,none),(9,none),(10,none),(11,none),(12,none),(13,none),(14,none),(15,none),(16,none),(18,none),(19,none),(17,some [18,19]),(20,none),(21,none),(22,none),(23,none),(24,none),(25,some [])]⟩ ⟨[],[]⟩]else chL i) zat t.size (fun _=>True) (fun i=>([(3,.d (eB true)),(4,.bp 4 0),(5,.bp 5 0),(6,.d (eI ((t.data.toList.take i).count 10:Nat))),(7,.d (eI 0)),(8,.d (eI i))],[(4,.box [.d (zax l)]),(5,.box [.d (eSb t),.d (eI 0)]),(1999,.gh [] gs),(7777777,Z.o)])) trivial ?_ ?_ (fun i hi _=> ?_)
 ·simp only[ZE,seval,KE,GZ,war,cnt_nil,Int.natCast_zero]
 ·simp only[ZE,seval,KE,GZ,war,cnt_nil,Int.natCast_zero]
 have hw:=zaq (show i<9223372036854775807 by omega);by_cases hlt:i<t.size
 ·have e1:(0<=(i:Int)/\(i:Int)<(t.size:Int))=True:=zai hlt;have hc:=count_take t i hlt;have hl2:=hlim i;have hw2:IntKind.i64.wrap ((((t.data.toList.take i).count 10:Nat):Int)+1)=(((t.data.toList.take i).count 10+1:Nat):Int):=zaq (by omega);by_cases hb:t.data.getD i 0=10
  ·rw[if_pos hb]at hc;have hv:(t.data.getD i 0).toNat =10:=by rw[hb]; rfl
   simp only[ZE,seval,KE,GZ,zaw hlt,e1,wat,hv,hw,hw2,hc,bne_self_eq_false,beq_self_eq_true,decide_true,Bool.not_true,Bool.not_false,waa];exact hlt
  ·rw[if_neg hb]at hc;have hv:(((t.data.getD i 0).toNat :Nat):Int)≠10:=by
    intro e;apply hb;apply UInt8.toNat_inj.1;have:(10:UInt8).toNat =10:=rfl;omega
   have hv2:((((t.data.getD i 0).toNat :Nat):Int)==10)=false:=beq_eq_false_iff_ne.2 hv;simp only[ZE,seval,KE,GZ,zaw hlt,e1,wat,hv2,hw,hc,Nat.add_zero,bne_self_eq_false,beq_self_eq_true,decide_true,Bool.not_true,Bool.not_false,waa];exact hlt
 have:i=t.size:=by omega
 subst this;simp only[ZE,seval,KE,GZ,zaI (waw t.size),hlf];refine za1 (fun i=>if i=2016 then [.flt ⟨[(0,none),(1,none),(2,none),(3,none),(4,none),(5,none),(6,none),(7,none),(8,none),(9,none),(10,none),(11,none),(12,none),(13,none),(14,none),(15,none),(16,none),(18,none),(19,none),(17,some [18,19]),(20,none),(21,none),(22,none),(23,none),(24,none),(25,some [])]⟩ ⟨[],[]⟩]else chL i) zat l.length (fun _=>True) (fun i=>([(3,.d (eB true)),(4,.bp 4 0),(5,.bp 5 0),(6,.d (eI (zD5 l:Nat))),(7,.d (eI (zD5 (l.take i):Nat))),(9,.d (eI i))],[(4,.box [.d (zax l)]),(5,.box [.d (eSb t),.d (eI 0)]),(1999,.gh [] gs),(7777777,Z.o)])) trivial ?_ ?_ (fun i hi _=> ?_)
 ·simp only[ZE,seval,KE,GZ,war,want_nil,Int.natCast_zero]
 ·simp only[ZE,seval,KE,GZ,war,want_nil,Int.natCast_zero]
 have hw:=zaq (show i<9223372036854775807 by omega);by_cases hlt:i<l.length
 ·have e2:(l.map zaC).getD i []=zaC l[i]:=zaa hlt [];have h9:=h8 _ (waj hlt);have hwt:=zHt l i hlt;have hq:=hwl i (by omega);obtain⟨m,hm⟩:=zX (l[i]);rw[hm]at e2 h9 hwt;have hw2:IntKind.i64.wrap (2+(m.items.length:Int))=((2+m.items.length:Nat):Int):=by rw[zaQ (by omega) (by omega)]; simp
  have hw3:IntKind.i64.wrap (((zD5 (l.take i):Nat):Int)+((2+m.items.length:Nat):Int))=((zD5 (l.take i)+(2+m.items.length):Nat):Int):=by rw[zaQ (by omega) (by omega)]; simp
  simp only[ZE,seval,KE]at e2;simp only[ZE,seval,KE,GZ,zaw hlt,zai hlt,e2,wat,hw,hw2,hw3,hwt,bne_self_eq_false,beq_self_eq_true,decide_true,Bool.not_true,Bool.not_false,waa];exact hlt
 have:i=l.length:=by omega
 subst this;have g1:decide ((t.size:Int)<=8000)=true:=by simp; omega
 simp only[ZE,seval,KE,GZ,zaI (waw l.length),List.take_length,g1,bne_self_eq_false,beq_self_eq_true,decide_true,Bool.not_true,Bool.not_false,waa];refine⟨by kernel_rfl,?_⟩;refine EFn.gV [(7777777,7777777)] pt ?_ ?_
 ·simp only[ZE,seval,GZ]
 rintro V ol new ⟨rfl,rfl,rfl⟩;simp only[ZE,seval,KE,GZ];refine zaz.i hsm ?_;simp only[ZE,seval,KE,GZ,bne_self_eq_false,beq_self_eq_true,decide_true,Bool.not_true,Bool.not_false,waa];refine⟨[4,5,1,1999],[],?_⟩;simp only[ZE,seval,zAp.eq_1,zAp.eq_2,zAq.eq_1,zAq.eq_2,GZ,zAj.eq_def,ghK.eq_def,zAi.eq_def,hdH.eq_1,hdH.eq_2,kpH.eq_1,kpH.eq_2,hdl.eq_def,zpC.eq_def,zht,AV.core,KE]
end Go.Proofs.YtplfjjgkbnolhaaGreatDoor
