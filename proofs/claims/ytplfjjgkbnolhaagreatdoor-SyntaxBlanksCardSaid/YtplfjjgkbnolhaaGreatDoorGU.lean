/- Machinery. Conditions: those of each. -/
import Derived.Test.YtplfjjgkbnolhaaGreatDoorGQm
import Derived.Test.YtplfjjgkbnolhaaGreatDoorGB
set_option linter.unusedSimpArgs false
set_option linter.unusedVariables false
/-
 HOW THE MEMORY OF A CALL MOVES ON WHERE SEVERAL OWN OBJECTS ARE TOUCHED AT ONCE.
 Conditions: those of each law; over any program.
-/
namespace Go.Aw
open Go.RowKit

theorem Mem.update{c:Ctx}{O O':zbI}{W W':World}{F F':Nat->Prop}{η η':Nat->Value}{S S':Nat->List Nat}(h:Mem c O W F η S)(T:Nat->Prop)(new:List Nat)
  (hos:W'.os=W.os) (htape:W'.tape=W.tape) (hout:W'.output=W.output) (hsize:W.heap.size<=W'.heap.size)
  (hW: ∀b,b<W.heap.size->(∀id,T id->b∉S id)->W'.heap[b]? =W.heap[b]?)
  (hF1: ∀b,F b->F' b) (hF2: ∀b,F' b->F b\/(W.heap.size<=b/\b<W'.heap.size)\/ ∃id,T id/\b∈S id)
  (hsame: ∀id,¬T id->O' id=O id/\η' id=η id/\S' id=S id)
  (hS: ∀id,T id-> ∀b∈S' id,¬F' b/\((∃id',T id'/\b∈S id')\/(W.heap.size<=b/\b<W'.heap.size)))
  (hsep: ∀id id' b,T id->T id'->b∈S' id->b∈S' id'->id=id') (hnd: ∀id,T id->(S' id).Nodup) (hgone: ∀id,T id->O' id=none->S' id=[])
  (hk:za7 O O' η η' new) (hn: ∀id o,O id=some o-> ¬T id->o.noRef new)
  (ho: ∀id o,T id->O' id=some o->(∀b,F b->F' b/\W'.heap[b]? =W.heap[b]?)->zj1 O' W' F' η' (η' id) (S' id) o)
  (hx: ∀id lim fam stop l rest,T id->O' id=some (.ext lim fam stop l rest)->lim<=c.W0.heap.size/\ ∀id' b,b∈S' id'->id'≠id->lim<=b):
  Mem c O' W' F' η' S'/\ ∀b,F b->F' b/\W'.heap[b]? =W.heap[b]? :=by
 have hF: ∀b,F b->F' b/\W'.heap[b]? =W.heap[b]? :=fun b hb=>⟨hF1 b hb,hW b (h.flt b hb) (fun id _ hm=>(h.apart id b hm).1 hb)⟩;have hflt: ∀b,F' b->b<W'.heap.size:=by
  intro b hb;rcases hF2 b hb with h3 | h3 | ⟨id,_,h3⟩
  ·exact Nat.lt_of_lt_of_le (h.flt b h3) hsize
  ·exact h3.2
  ·exact Nat.lt_of_lt_of_le (h.apart id b h3).2.1 hsize
 have hun: ∀id,¬T id-> ∀b∈S id,(∀id',T id'->b∉S id'):=fun id hid b hb id' hid' hm=>hid (h.sep id id' b hb hm▸hid');have hap: ∀id,¬T id-> ∀b∈S id,¬F' b:=by
  intro id hid b hb hf;obtain⟨a1,a2,a3⟩:=h.apart id b hb;rcases hF2 b hf with h3 | h3 | ⟨id',hT,h3⟩
  ·exact a1 h3
  ·omega
  ·exact hun id hid b hb id' hT h3
 refine⟨⟨hos.trans h.os,htape.trans h.tape,hout.trans h.output,Nat.le_trans h.size hsize,?_,fun b hb=>hF1 b (h.f0 b hb),hflt,?_,?_,?_,?_,?_,?_,?_,?_,h.zd⟩,hF⟩
 ·intro b hlt hno;rw[hW b (Nat.lt_of_lt_of_le hlt h.size) (fun id _ hm=>hno ((h.apart id b hm).2.2 hlt))];exact h.old b hlt hno
 ·intro b hb hlt;rcases hF2 b hb with h3 | h3 | ⟨id,_,h3⟩
  ·exact h.fold b h3 hlt
  ·have:=h.size; omega
  ·exact .inr ((h.apart id b h3).2.2 hlt)
 ·intro id o hid;by_cases hT:T id
  ·exact ho id o hT hid hF
  ·obtain⟨e1,e2,e3⟩:=hsame id hT;rw[e1]at hid;rw[e2,e3];refine zj1.mono hk hF (hn id o hid hT) (fun b hb=>hW b (h.apart id b hb).2.1 (hun id hT b hb)) (fun lim fam stop l rest e=> ?_) (h.obj id o hid);subst e;obtain⟨l1,l2⟩:=h.lim id _ _ _ _ _ hid;have l3:=h.size;refine⟨hos,htape,hout,hsize,hF,fun b hb=>hW b (h.apart id b hb).2.1 (hun id hT b hb),hap id hT,hflt,fun b hlt=>hW b (by omega) (fun id' hT' hm=> ?_),fun b hb hlt=> ?_⟩
   ·have:=l2 id' b hm (by rintro rfl; exact hT hT'); omega
   ·rcases hF2 b hb with h3 | h3 | ⟨id',hT',h3⟩
    ·exact h3
    ·omega
    ·have:=l2 id' b h3 (by rintro rfl; exact hT hT'); omega
 ·intro id hid;by_cases hT:T id
  ·exact hgone id hT hid
  ·obtain⟨e1,e2,e3⟩:=hsame id hT;rw[e3]; exact h.gone id (e1▸hid)
 ·intro id b hb;by_cases hT:T id
  ·obtain⟨a1,a2⟩:=hS id hT b hb;refine⟨a1,?_,fun hlt=> ?_⟩
   ·rcases a2 with⟨id',_,h3⟩ | h3
    ·exact Nat.lt_of_lt_of_le (h.apart id' b h3).2.1 hsize
    ·exact h3.2
   ·rcases a2 with⟨id',_,h3⟩ | h3
    ·exact(h.apart id' b h3).2.2 hlt
    ·have:=h.size; omega
  ·rw[(hsame id hT).2.2]at hb;obtain⟨a1,a2,a3⟩:=h.apart id b hb;exact⟨hap id hT b hb,Nat.lt_of_lt_of_le a2 hsize,a3⟩
 ·intro id1 id2 b h1 h2;by_cases t1:T id1 <;> by_cases t2:T id2
  ·exact hsep id1 id2 b t1 t2 h1 h2
  ·rw[(hsame id2 t2).2.2]at h2;rcases(hS id1 t1 b h1).2 with⟨id',hT,h3⟩ | h3
   ·exact absurd h3 (hun id2 t2 b h2 id' hT)
   ·have:=(h.apart id2 b h2).2.1; omega
  ·rw[(hsame id1 t1).2.2]at h1;rcases(hS id2 t2 b h2).2 with⟨id',hT,h3⟩ | h3
   ·exact absurd h3 (hun id1 t1 b h1 id' hT)
   ·have:=(h.apart id1 b h1).2.1; omega
  ·rw[(hsame id1 t1).2.2]at h1;rw[(hsame id2 t2).2.2]at h2;exact h.sep _ _ b h1 h2
 ·intro id;by_cases hT:T id
  ·exact hnd id hT
  ·rw[(hsame id hT).2.2]; exact h.nd id
 ·intro p hp;obtain⟨z1,z2,z3,z4⟩:=h.hid p hp;have hlt:p.1<W.heap.size:=(Array.getElem?_eq_some_iff.1 z1).1;refine⟨(hW p.1 hlt (fun id _=>z3 id)).trans z1,fun hf=> ?_,fun id hm=> ?_,z4⟩
  ·rcases hF2 _ hf with h3 | h3 | ⟨id,_,h3⟩
   ·exact z2 h3
   ·omega
   ·exact z3 id h3
  ·by_cases hT:T id
   ·rcases(hS id hT _ hm).2 with⟨id',_,h3⟩ | h3
    ·exact z3 id' h3
    ·omega
   ·rw[(hsame id hT).2.2]at hm; exact z3 id hm
 ·intro id lim fam stop l rest hid;by_cases hT:T id
  ·exact hx id _ _ _ _ _ hT hid
  ·obtain⟨e1,e2,e3⟩:=hsame id hT;rw[e1]at hid;obtain⟨l1,l2⟩:=h.lim id _ _ _ _ _ hid;refine⟨l1,fun id' b hb hne=> ?_⟩;by_cases hT':T id'
   ·rcases(hS id' hT' b hb).2 with⟨id2,hT2,h3⟩ | h3
    ·exact l2 id2 b h3 (by rintro rfl; exact hT hT2)
    ·have:=h.size; omega
   ·rw[(hsame id' hT').2.2]at hb; exact l2 id' b hb hne
end Go.Aw
