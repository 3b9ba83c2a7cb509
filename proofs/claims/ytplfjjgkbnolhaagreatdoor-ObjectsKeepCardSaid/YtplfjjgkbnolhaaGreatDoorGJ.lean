/- Machinery. Conditions: those of each. -/
import Derived.Test.YtplfjjgkbnolhaaGreatDoorGH
import Derived.RangeFuncOwn
set_option linter.unusedSimpArgs false
set_option linter.unusedVariables false
/-
 A RANGE OVER AN ITERATOR.
 Conditions: those of the law; over any program.
-/
namespace Go.Aw
open Go.RowKit

theorem Mem.ext{c:Ctx}{O:Objs}{W W':World}{F F':Nat→Prop}{η:Nat→Value}{S:Nat→List Nat}{s:List Nat}{lim:Nat}(hm:Mem c O W F η S)(hE:ExtC W W' F F' s lim)(hs: ∀id b,b∈S id→b∈s)(hz: ∀p∈c.Z,p.1<lim)(hl:c.W0.heap.size≤lim):Mem c O W' F' η S:=by
 refine⟨hE.os.trans hm.os,hE.tape.trans hm.tape,hE.output.trans hm.output,Nat.le_trans hm.size hE.size,fun b hb hn=>(hE.low b (by omega)).trans (hm.old b hb hn),fun b hb=>(hE.frz b (hm.f0 b hb)).1,hE.flt,fun b hb hlt=>hm.fold b (hE.lim b hb (by omega)) hlt,?_,hm.gone,?_,hm.sep,hm.nd,?_,hm.lim,hm.zd⟩
 ·intro id o ho;refine RelO.mono (Keeps.refl O η) hE.frz (AO.noRef_nil o) (fun b hb=>hE.same b (hs id b hb)) (fun lim2 fam stop l rest e=> ?_) (hm.obj id o ho);subst e;obtain⟨l1,l2⟩:=hm.lim id _ _ _ _ _ ho;exact⟨hE.os,hE.tape,hE.output,hE.size,hE.frz,fun b hb=>hE.same b (hs id b hb),fun b hb=>hE.apart b (hs id b hb),hE.flt,fun b hb=>hE.low b (by omega),fun b hb hlt=>hE.lim b hb (by omega)⟩
 ·intro id b hb;obtain⟨a1,a2,a3⟩:=hm.apart id b hb;exact⟨hE.apart b (hs id b hb),Nat.lt_of_lt_of_le a2 hE.size,a3⟩
 ·intro p hp;obtain⟨z1,z2,z3,z4⟩:=hm.hid p hp;exact⟨(hE.low _ (hz p hp)).trans z1,fun hf=>z2 (hE.lim _ hf (hz p hp)),z3,z4⟩

theorem Mem.rebase{c:Ctx}{O:Objs}{W:World}{F:Nat→Prop}{η:Nat→Value}{S:Nat→List Nat}(hm:Mem c O W F η S)(N:NP)(pv:Nat→Value):Mem ⟨c.P,N,W,F,fun b=> ∃id,b∈S id,[],[],pv,[]⟩ O W F η S:=
 ⟨rfl,rfl,rfl,Nat.le_refl _,fun _ _ _=>rfl,fun _ h=>h,hm.flt,fun b hb _=>.inl hb,hm.obj,hm.gone,fun id b hb=>⟨(hm.apart id b hb).1,(hm.apart id b hb).2.1,fun _=>⟨id,hb⟩⟩,hm.sep,hm.nd,by simp,
  fun id lim fam stop l rest ho=>⟨Nat.le_trans (hm.lim id _ _ _ _ _ ho).1 hm.size,(hm.lim id _ _ _ _ _ ho).2⟩,by simp⟩
def noExt(O:Objs):Prop:= ∀id lim fam stop l rest,O id≠some (.ext lim fam stop l rest)
theorem Mem.join{c c1:Ctx}{O O1:Objs}{W W1:World}{F F1:Nat→Prop}{η η1:Nat→Value}{S S1:Nat→List Nat}(hm:Mem c O W F η S)(h1:Mem c1 O1 W1 F1 η1 S1)(e1:c1.W0=W)(e2:c1.F0=F)(e3:c1.O0=fun b=> ∃id,b∈S id)(hx:noExt O1):Mem c O1 W1 F1 η1 S1:=by
 obtain⟨P1,N1,W01,F01,O01,Z1,ds1,pv1⟩:=c1;simp only at e1 e2 e3;subst e1 e2 e3;refine⟨h1.os.trans hm.os,h1.tape.trans hm.tape,h1.output.trans hm.output,Nat.le_trans hm.size h1.size,?_,fun b hb=>h1.f0 b (hm.f0 b hb),h1.flt,?_,h1.obj,h1.gone,?_,h1.sep,h1.nd,?_,fun id lim fam stop l rest ho=>absurd ho (hx id _ _ _ _ _),hm.zd⟩
 ·intro b hb hn;rw[h1.old b (Nat.lt_of_lt_of_le hb hm.size) (fun⟨id,hm'⟩=>hn ((hm.apart id b hm').2.2 hb))];exact hm.old b hb hn
 ·intro b hb hlt;rcases h1.fold b hb (Nat.lt_of_lt_of_le hlt hm.size)with h | ⟨id,h⟩
  ·exact hm.fold b h hlt
  ·exact .inr ((hm.apart id b h).2.2 hlt)
 ·intro id b hb;obtain⟨a1,a2,a3⟩:=h1.apart id b hb;refine⟨a1,a2,fun hlt=> ?_⟩;obtain⟨id',h⟩:=a3 (Nat.lt_of_lt_of_le hlt hm.size);exact(hm.apart id' b h).2.2 hlt
 ·intro p hp;obtain⟨z1,z2,z3,z4⟩:=hm.hid p hp;have hlt:p.1<W01.heap.size:=(Array.getElem?_eq_some_iff.1 z1).1;refine⟨(h1.old p.1 hlt (fun⟨id,h⟩=>z3 id h)).trans z1,fun hf=> ?_,fun id hb=> ?_,z4⟩
  ·rcases h1.fold _ hf hlt with h | ⟨id,h⟩
   ·exact z2 h
   ·exact z3 id h
  ·obtain⟨id',h⟩:=(h1.apart id _ hb).2.2 hlt;exact z3 id' h

def IterP(P:Program)(g:FuncId)(caps:List D)(A S:List (List D)→Prop):Prop:=
 ∀(lim:Nat) (fam:List (List D)→XJ lim) (stop:XJ lim) (l:Nat),YieldOk P lim fam stop l A→
  FnG P g (.yv 0::caps.map .d) (om [(0,.ext lim fam stop l [])]) fun _ Oo new=>(∃xs,S xs∧Oo=om [(0,.ext lim fam stop l xs)]∧new=[])∨(Oo=om [(0,.ext lim (fun _=>stop) stop l [])]∧new=[])

def zipT:List Nat→List D→(Nat→AV)→Nat→AV
 | p::ps,d::ds,τ=>zipT ps ds (upd τ p (.d d))
 | _,_,τ=>τ
theorem zipT_rel{O:Objs}{W:World}{F:Nat→Prop}{η:Nat→Value}(T:List Nat)(pv:Nat→Value): ∀(ps:List Nat) (ds:List D) (vs:List Value) (τ:Nat→AV) (ts:Array Value),ps.length=ds.length→RdVals W F ds vs→(∀p∈ps,p<ts.size∧p∉T)→(∀t,RelV O W F η (τ t) (ts.getD t undef))→(∀t∈T,ts.getD t undef=pv t)→
  ((ps.zip vs).foldl (fun(t:Array Value) (x:Nat×Value)=>t.setIfInBounds x.1 x.2) ts).size =ts.size∧(∀t,RelV O W F η (zipT ps ds τ t) (((ps.zip vs).foldl (fun(t:Array Value) (x:Nat×Value)=>t.setIfInBounds x.1 x.2) ts).getD t undef))∧ ∀t∈T,((ps.zip vs).foldl (fun(t:Array Value) (x:Nat×Value)=>t.setIfInBounds x.1 x.2) ts).getD t undef=pv t
 | [],ds,vs,τ,ts,_,_,_,h,hT=>by
  simp only[List.zip_nil_left,List.foldl_nil,zipT];exact⟨trivial,h,hT⟩
 | p::ps,[],vs,τ,ts,hl,_,_,_,_=>by simp at hl
 | p::ps,d::ds,vs,τ,ts,hl,hr,hp,h,hT=>by
  simp only[RdVals]at hr;obtain⟨v,rest,rfl,h1,h2⟩:=hr;obtain⟨hlt,hnT⟩:=hp p (by simp);have key: ∀t,(ts.setIfInBounds p v).getD t undef=if t=p then v else ts.getD t undef:=by
   intro t;rw[Array.getD_eq_getD_getElem?,Array.getElem?_setIfInBounds];by_cases ht:t=p
   ·subst ht; simp[hlt]
   ·rw[if_neg (fun e=>ht e.symm),if_neg ht,←Array.getD_eq_getD_getElem?]
  obtain⟨a1,a2,a3⟩:=zipT_rel T pv ps ds rest (upd τ p (.d d)) (ts.setIfInBounds p v) (by simpa using hl) h2 (fun q hq=>⟨by simpa using(hp q (by simp[hq])).1,(hp q (by simp[hq])).2⟩)
   (fun t=>by
    rw[key t];simp only[upd];split
    ·exact h1
    ·exact h t)
   (fun t ht=>by
    rw[key t,if_neg (by rintro rfl; exact hnT ht)];exact hT t ht)
  simp only[List.zip_cons_cons,List.foldl_cons,zipT];exact⟨by rw[a1]; simp,a2,a3⟩

def jumpOf:Exit→Option Code
 | .ret =>some .ret
 | .exit id=>some (.exit id)
 | .goto t=>some (.goto t)
 | _=>none
def rangeQ(σ:St)(Q:Exit→St→Prop)(O':Objs):Exit→St→Prop:=fun e σ'=>
 match e with
 | .normal =>(∀t,σ.tmps t= .dead ∨σ.tmps t=σ'.tmps t)∧(∀id,O' id=none∨O' id=σ'.objs id)
 | .ret =>(∀t,σ.tmps t= .dead ∨σ.tmps t=σ'.tmps t)∧noExt σ'.objs∧Q .ret ⟨σ.tmps,σ'.objs⟩
 | .exit id=>(∀t,σ.tmps t= .dead ∨σ.tmps t=σ'.tmps t)∧noExt σ'.objs∧Q (.exit id) ⟨σ.tmps,σ'.objs⟩
 | .goto l=>(∀t,σ.tmps t= .dead ∨σ.tmps t=σ'.tmps t)∧noExt σ'.objs∧Q (.goto l) ⟨σ.tmps,σ'.objs⟩
 | _=>False

end Go.Aw
