/- Machinery. Conditions: those of each. -/
import Derived.Test.YtplfjjgkbnolhaaGreatDoorGS
set_option linter.unusedSimpArgs false
set_option linter.unusedVariables false
/-
 HOW THE MEMORY OF A CALL MOVES ON: laws on 'Mem': a world that only gained blocks; one own object zdG, changed, frozen or dropped.
 Conditions: those of each law; over any program.
-/
namespace Go.Aw
open Go.RowKit

mutual
theorem AV.noRef_nil: ∀x:AV,x.noRef []
 | .dead | .und | .d _ | .nils | .emp | .ar .. | .ep .. | .sub .. | .bp .. | .mo _ | .yv _=>by simp[AV.noRef]
 | .agg cs | .tup cs=>by simp only[AV.noRef]; exact AV.noRefs_nil cs
 | .clo _ fs cs=>by simp only[AV.noRef]; exact⟨AV.noRefs_nil fs,AV.noRefs_nil cs⟩
theorem AV.noRefs_nil: ∀xs:List AV,AV.noRefs [] xs
 | []=>by simp only[AV.noRefs]
 | x::xs=>by simp only[AV.noRefs]; exact⟨AV.noRef_nil x,AV.noRefs_nil xs⟩
end

theorem zqA{l:List Nat}: ∀ {xs:List AV},AV.noRefs l xs-> ∀x∈xs,x.noRef l
 | y::ys,h,x,hx=>by
  simp only[AV.noRefs]at h;rcases List.mem_cons.1 hx with rfl | hx
  ·exact h.1
  ·exact zqA h.2 x hx
theorem noRefs_of{l:List Nat}: ∀ {xs:List AV},(∀x∈xs,x.noRef l)->AV.noRefs l xs
 | [],_=>by simp only[AV.noRefs]
 | y::ys,h=>by
  simp only[AV.noRefs];exact⟨h y (by simp),noRefs_of (fun x hx=>h x (by simp[hx]))⟩
theorem zqw{α:Type}{i:Nat}{x:α}: ∀ {l:List (Nat×α)},l.lookup i=some x->(i,x)∈l
 | (j,y)::r,h=>by
  rw[List.lookup_cons]at h;split at h
  ·rename_i hij;simp only[Option.some.injEq]at h;have:i=j:=by simpa using hij
   subst this; subst h; simp
  ·exact List.mem_cons_of_mem _ (zqw h)

theorem AO.noRef_nil(o:AO):o.noRef []:=by
 cases o with
 | box cs=>exact AV.noRefs_nil cs
 | arr e k dep es=>
  cases dep with
  | flat=>trivial
  | deep tys hs=>exact AV.noRefs_nil _
 | map=>trivial
 | it=>trivial
 | sit=>trivial
 | ext=>trivial
 | gh cs vs=>exact AV.noRefs_nil cs
section
variable {W W':World} {F F':Nat->Prop}
theorem OwnVals.mono{R R':D->Value->List Nat->Prop}: ∀(ds:List D) (vs:List Value) (s:List Nat),(∀x v s',(∀b∈s',b∈s)->R x v s'->R' x v s')->OwnVals R ds vs s->OwnVals R' ds vs s
 | [],_,_,_,h=>h
 | d::ds,vs,s,hR,h=>by
  simp only[OwnVals]at h ⊢;obtain⟨v,rest,s1,s2,h1,h2,h3,h4⟩:=h;subst h2;exact⟨v,rest,s1,s2,h1,rfl,hR d v s1 (fun b hb=>List.mem_append.2 (.inl hb)) h3,
   OwnVals.mono ds rest s2 (fun x v s' hs=>hR x v s' (fun b hb=>List.mem_append.2 (.inr (hs b hb)))) h4⟩

theorem zdA.mono{O O':zbI}{η η':Nat->Value}{tys tys':List (TypeId×Nat)}{hs:List (Nat×AV)}(hx: ∀x∈hs.map (·.2),∀v,zaL O W F η x v->zaL O' W' F' η' x v):
  ∀(ds:List D) (i:Nat) (vs:List Value) (s:List Nat),(∀x v s',(∀b∈s',b∈s)->Own W F tys x v s'->Own W' F' tys' x v s')->zdA O W F η tys hs i ds vs s->zdA O' W' F' η' tys' hs i ds vs s
 | [],_,_,_,_,h=>h
 | d::ds,i,vs,s,hR,h=>by
  simp only[zdA]at h ⊢;obtain⟨v,rest,s1,s2,h1,h2,h3,h4⟩:=h;subst h2;refine⟨v,rest,s1,s2,h1,rfl,?_,zdA.mono hx ds (i+1) rest s2 (fun x v s' hs=>hR x v s' (fun b hb=>List.mem_append.2 (.inr (hs b hb)))) h4⟩;cases hl:hs.lookup i with
  | none=>rw[hl]at h3; exact hR d v s1 (fun b hb=>List.mem_append.2 (.inl hb)) h3
  | some x=>
   rw[hl]at h3;exact⟨hx x (List.mem_map.2 ⟨(i,x),zqw hl,rfl⟩) v h3.1,h3.2⟩

theorem zfv.mono{C C':List D->List Value->List Nat->Prop}{e:TypeId}{k:Nat}{es:List (List D)}{v:Value}{s:List Nat}(hs: ∀b∈s,W'.heap[b]? =W.heap[b]?)
  (hR: ∀xs vs s',(∀b∈s',b∈s)->C xs vs s'->C' xs vs s') (h:zfv W C e k es v s):zfv W' C' e k es v s:=by
 obtain⟨h1,h2,h3⟩:=h;refine⟨h1,h2,?_⟩;rcases h3 with h3 | ⟨g,cap,cur,s1,hv,hh,a1,a2,a3,a4,a5⟩
 ·exact .inl h3
 ·subst a4;exact .inr ⟨g,cap,cur,s1,hv,by rw[hs g (by simp)]; exact hh,a1,a2,a3,rfl,hR _ _ _ (fun b hb=>by simp[hb]) a5⟩

theorem Own.mono(hF: ∀b,F b->F' b/\W'.heap[b]? =W.heap[b]?): ∀(j:List (TypeId×Nat)) (x:D) (v:Value) (s:List Nat),(∀b∈s,W'.heap[b]? =W.heap[b]?)->Own W F j x v s->Own W' F' j x v s
 | [],x,v,s,_,h=>⟨Rd.mono hF x v h.1,h.2⟩
 | (e,k)::r,.sl es,v,s,hs,h=>zfv.mono hs (fun xs vs s' hs'=>OwnVals.mono xs vs s' (fun x v s'' hs''=>Own.mono hF r x v s'' (fun b hb=>hs b (hs' b (hs'' b hb))))) h
 | _::_,.lit _,v,s,_,h | _::_,.ptr _,v,s,_,h | _::_,.agg _,v,s,_,h | _::_,.ifc _ _,v,s,_,h | _::_,.clo ..,v,s,_,h | _::_,.mp ..,v,s,_,h=>⟨Rd.mono hF _ v h.1,h.2⟩

theorem zwv.mono(hF: ∀b,F b->F' b/\W'.heap[b]? =W.heap[b]?){b:Nat}{ks vs:List D}{bs:List Nat}{clock:Nat}(hb:W'.heap[b]? =W.heap[b]?)(h:zwv W F b ks vs bs clock):zwv W' F' b ks vs bs clock:=by
 obtain⟨es,h1,h2,h3,h4⟩:=h;exact⟨es,hb.trans h1,zav.mono hF _ _ h2,zav.mono hF _ _ h3,h4⟩

theorem zj1.mono{O O':zbI}{η η':Nat->Value}{new:List Nat}(hk:za7 O O' η η' new)(hF: ∀b,F b->F' b/\W'.heap[b]? =W.heap[b]?){v:Value}{s:List Nat}{o:AO}(hn:o.noRef new)
  (hs: ∀b∈s,W'.heap[b]? =W.heap[b]?) (hx: ∀lim fam stop l rest,o= .ext lim fam stop l rest->ExtC W W' F F' s lim) (h:zj1 O W F η v s o):zj1 O' W' F' η' v s o:=by
 cases o with
 | box cs=>
  obtain⟨b,cur,e,h1,h2,h3,h4⟩:=h;exact⟨b,cur,e,h1,h2,by rw[hs b (by simp[h2])]; exact h3,zaN.pres hk hF cs _ hn h4⟩
 | arr e k dep es=>
  cases dep with
  | flat=>exact zfv.mono hs (fun xs vs s' hs'=>OwnVals.mono xs vs s' (fun x v s'' hs''=>Own.mono hF [] x v s'' (fun b hb=>hs b (hs' b (hs'' b hb))))) h
  | deep tys hls=>
   refine zfv.mono hs (fun xs vs s' hs'=>zdA.mono (fun x hx v=>zaL.pres hk hF x v (zqA hn x hx)) xs 0 vs s' (fun x v s'' hs''=>Own.mono hF tys x v s'' (fun b hb=>hs b (hs' b (hs'' b hb))))) h
 | ext lim fam stop l rest=>exact(fam rest).st _ _ _ _ _ h (hx _ _ _ _ _ rfl)
 | gh cs vs=>exact⟨⟨h.1.1,h.1.2.mono hF⟩,zaN.pres hk hF cs _ hn h.2⟩
 | map ks vs bs clock=>
  obtain⟨b,h1,h2,h3⟩:=h;exact⟨b,h1,h2,zwv.mono hF (hs b (by simp[h2])) h3⟩
 | sit b pos=>
  obtain⟨r,h1,h2,h3⟩:=h;exact⟨r,h1,h2,by rw[hs r (by simp[h2])]; exact h3⟩
 | it ks vs bs clock seen=>
  obtain⟨r,b,h1,h2,h3,h4,h5,h6⟩:=h;exact⟨r,b,h1,h2,by rw[hs r (by simp[h2])]; exact h3,(hF b h4).1,zwv.mono hF (hF b h4).2 h5,h6⟩
end

theorem zj1.arr{O:zbI}{W:World}{F:Nat->Prop}{η:Nat->Value}{v:Value}{s:List Nat}{e:TypeId}{k:Nat}{dep:Dep}{es:List (List D)}(h:zj1 O W F η v s (.arr e k dep es)): ∃C,zfv W C e k es v s:=by
 cases dep with
 | flat=>exact⟨_,h⟩
 | deep tys hs=>exact⟨_,h⟩

theorem za7.refl(O:zbI)(η:Nat->Value):za7 O O η η []:=by
 intro id o h;refine .inr ⟨o,h,?_⟩;cases o <;> simp

section
variable {c:Ctx} {O O':zbI} {W W':World} {F F':Nat->Prop} {η η':Nat->Value} {S S':Nat->List Nat}

theorem Mem.still(h:Mem c O W F η S)(hb:Below W.heap.size W W')(h1: ∀b,F b->F' b)(h2: ∀b,F' b->F b\/(W.heap.size<=b/\b<W'.heap.size)):
  Mem c O W' F' η S/\ ∀b,F b->F' b/\W'.heap[b]? =W.heap[b]? :=by
 have hF: ∀b,F b->F' b/\W'.heap[b]? =W.heap[b]? :=fun b hb'=>⟨h1 b hb',hb.block b (h.flt b hb')⟩;have hflt: ∀b,F' b->b<W'.heap.size:=by
  intro b hb';rcases h2 b hb' with h3 | h3
  ·exact Nat.lt_of_lt_of_le (h.flt b h3) hb.size
  ·exact h3.2
 have hap: ∀id b,b∈S id-> ¬F' b:=by
  intro id b hb' hf;obtain⟨a1,a2,a3⟩:=h.apart id b hb';rcases h2 b hf with h3 | h3
  ·exact a1 h3
  ·omega
 refine⟨⟨hb.os.trans h.os,hb.tape.trans h.tape,hb.output.trans h.output,Nat.le_trans h.size hb.size,?_,fun b hb'=>h1 b (h.f0 b hb'),hflt,?_,?_,h.gone,?_,h.sep,h.nd,?_,?_,h.zd⟩,hF⟩
 ·intro b hlt ho;rw[hb.block b (Nat.lt_of_lt_of_le hlt h.size)];exact h.old b hlt ho
 ·intro b hb' hlt;rcases h2 b hb' with h3 | h3
  ·exact h.fold b h3 hlt
  ·have:=h.size; omega
 ·intro id o ho;refine zj1.mono (za7.refl O η) hF (AO.noRef_nil o) (fun b hb'=>hb.block b (h.apart id b hb').2.1) (fun lim fam stop l rest e=> ?_) (h.obj id o ho);subst e;obtain⟨l1,l2⟩:=h.lim id _ _ _ _ _ ho;have l3:=h.size;refine⟨hb.os,hb.tape,hb.output,hb.size,hF,fun b hb'=>hb.block b (h.apart id b hb').2.1,hap id,hflt,fun b hlt=>hb.block b (by omega),fun b hb' hlt=> ?_⟩;rcases h2 b hb' with h3 | h3
  ·exact h3
  ·omega
 ·intro id b hb';obtain⟨a1,a2,a3⟩:=h.apart id b hb';exact⟨hap id b hb',Nat.lt_of_lt_of_le a2 hb.size,a3⟩
 ·intro p hp;obtain⟨z1,z2,z3,z4⟩:=h.hid p hp;have hlt:p.1<W.heap.size:=(Array.getElem?_eq_some_iff.1 z1).1;refine⟨(hb.block p.1 hlt).trans z1,fun hf=> ?_,z3,z4⟩;rcases h2 _ hf with h3 | h3
  ·exact z2 h3
  ·omega
 ·intro id lim fam stop l rest ho;exact h.lim id _ _ _ _ _ ho

theorem Mem.change(h:Mem c O W F η S)(id:Nat)(o':Option AO)(v':Value)(s':List Nat)(new:List Nat)
  (hos:W'.os=W.os) (htape:W'.tape=W.tape) (hout:W'.output=W.output) (hsize:W.heap.size<=W'.heap.size)
  (hW: ∀b,b<W.heap.size->b∉S id->W'.heap[b]? =W.heap[b]?)
  (hF1: ∀b,F b->F' b) (hF2: ∀b,F' b->F b\/(W.heap.size<=b/\b<W'.heap.size)\/b∈S id) (hF3: ∀b∈s',¬F' b)
  (hs1:s'.Nodup) (hs2: ∀b∈s',b∈S id\/(W.heap.size<=b/\b<W'.heap.size)) (hgone:o'=none->s'=[])
  (hk:za7 O (upd O id o') η (upd η id v') new) (hn: ∀id' o,O id'=some o->id'≠id->o.noRef new)
  (ho: ∀o,o'=some o->(∀b,F b->F' b/\W'.heap[b]? =W.heap[b]?)->zj1 (upd O id o') W' F' (upd η id v') v' s' o) (hxo: ∀lim fam stop l rest,o'≠some (.ext lim fam stop l rest):=by intro _ _ _ _ _ h; cases h):
  Mem c (upd O id o') W' F' (upd η id v') (upd S id s')/\ ∀b,F b->F' b/\W'.heap[b]? =W.heap[b]? :=by
 have hF: ∀b,F b->F' b/\W'.heap[b]? =W.heap[b]? :=fun b hb=>⟨hF1 b hb,hW b (h.flt b hb) (fun hm=>(h.apart id b hm).1 hb)⟩;have hflt: ∀b,F' b->b<W'.heap.size:=by
  intro b hb;rcases hF2 b hb with h3 | h3 | h3
  ·exact Nat.lt_of_lt_of_le (h.flt b h3) hsize
  ·exact h3.2
  ·exact Nat.lt_of_lt_of_le (h.apart id b h3).2.1 hsize
 have hap: ∀id',id'≠id-> ∀b,b∈S id'-> ¬F' b:=by
  intro id' he b hb hf;obtain⟨a1,a2,a3⟩:=h.apart id' b hb;rcases hF2 b hf with h3 | h3 | h3
  ·exact a1 h3
  ·omega
  ·exact he (h.sep id' id b hb h3)
 refine⟨⟨hos.trans h.os,htape.trans h.tape,hout.trans h.output,Nat.le_trans h.size hsize,?_,fun b hb=>hF1 b (h.f0 b hb),hflt,?_,?_,?_,?_,?_,?_,?_,?_,h.zd⟩,hF⟩
 ·intro b hlt hno;rw[hW b (Nat.lt_of_lt_of_le hlt h.size) (fun hm=>hno ((h.apart id b hm).2.2 hlt))];exact h.old b hlt hno
 ·intro b hb hlt;rcases hF2 b hb with h3 | h3 | h3
  ·exact h.fold b h3 hlt
  ·have:=h.size; omega
  ·exact .inr ((h.apart id b h3).2.2 hlt)
 ·intro id' o hid;by_cases he:id'=id
  ·subst he;simp only[upd,if_true]at hid ⊢;exact ho o hid hF
  ·simp only[upd,if_neg he]at hid ⊢;refine zj1.mono hk hF (hn id' o hid he) (fun b hb=>hW b (h.apart id' b hb).2.1 (fun hm=>he (h.sep id' id b hb hm))) (fun lim fam stop l rest e=> ?_) (h.obj id' o hid);subst e;obtain⟨l1,l2⟩:=h.lim id' _ _ _ _ _ hid;have l3:=h.size;refine⟨hos,htape,hout,hsize,hF,fun b hb=>hW b (h.apart id' b hb).2.1 (fun hm=>he (h.sep id' id b hb hm)),hap id' he,hflt,fun b hlt=>hW b (by omega) (fun hm=>by have:=l2 id b hm (Ne.symm he); omega),fun b hb hlt=> ?_⟩;rcases hF2 b hb with h3 | h3 | h3
   ·exact h3
   ·omega
   ·have:=l2 id b h3 (Ne.symm he); omega
 ·intro id' hid;by_cases he:id'=id
  ·subst he; simp only[upd,if_true]at hid ⊢; exact hgone hid
  ·simp only[upd,if_neg he]at hid ⊢; exact h.gone id' hid
 ·intro id' b hb;by_cases he:id'=id
  ·subst he;simp only[upd,if_true]at hb;refine⟨hF3 b hb,?_,?_⟩
   ·rcases hs2 b hb with h3 | h3
    ·exact Nat.lt_of_lt_of_le (h.apart id' b h3).2.1 hsize
    ·exact h3.2
   ·intro hlt;rcases hs2 b hb with h3 | h3
    ·exact(h.apart id' b h3).2.2 hlt
    ·have:=h.size; omega
  ·simp only[upd,if_neg he]at hb;obtain⟨a1,a2,a3⟩:=h.apart id' b hb;exact⟨hap id' he b hb,Nat.lt_of_lt_of_le a2 hsize,a3⟩
 ·intro id1 id2 b h1 h2;by_cases e1:id1=id <;> by_cases e2:id2=id
  ·rw[e1,e2]
  ·subst e1;simp only[upd,if_true,if_neg e2]at h1 h2;rcases hs2 b h1 with h3 | h3
   ·exact h.sep _ _ b h3 h2
   ·have:=(h.apart id2 b h2).2.1; omega
  ·subst e2;simp only[upd,if_true,if_neg e1]at h1 h2;rcases hs2 b h2 with h3 | h3
   ·exact h.sep _ _ b h1 h3
   ·have:=(h.apart id1 b h1).2.1; omega
  ·simp only[upd,if_neg e1,if_neg e2]at h1 h2;exact h.sep _ _ b h1 h2
 ·intro id';by_cases he:id'=id
  ·subst he; simp only[upd,if_true]; exact hs1
  ·simp only[upd,if_neg he]; exact h.nd id'
 ·intro p hp;obtain⟨z1,z2,z3,z4⟩:=h.hid p hp;have hlt:p.1<W.heap.size:=(Array.getElem?_eq_some_iff.1 z1).1;refine⟨(hW p.1 hlt (z3 id)).trans z1,fun hf=> ?_,fun id' hm=> ?_,z4⟩
  ·rcases hF2 _ hf with h3 | h3 | h3
   ·exact z2 h3
   ·omega
   ·exact z3 id h3
  ·by_cases he:id'=id
   ·subst he;simp only[upd,if_true]at hm;rcases hs2 _ hm with h3 | h3
    ·exact z3 id' h3
    ·omega
   ·simp only[upd,if_neg he]at hm;exact z3 id' hm
 ·intro id' lim fam stop l rest hid;by_cases he:id'=id
  ·subst he;simp only[upd,if_true]at hid;exact(hxo _ _ _ _ _ hid).elim
  ·simp only[upd,if_neg he]at hid;obtain⟨l1,l2⟩:=h.lim id' _ _ _ _ _ hid;refine⟨l1,fun id2 b hb hne=> ?_⟩;by_cases he2:id2=id
   ·subst he2;simp only[upd,if_true]at hb;rcases hs2 b hb with h3 | h3
    ·exact l2 id2 b h3 hne
    ·have:=h.size; omega
   ·simp only[upd,if_neg he2]at hb;exact l2 id2 b hb hne
end

theorem Mem.hidden{c c':Ctx}{O:zbI}{W W':World}{F:Nat->Prop}{η:Nat->Value}{S:Nat->List Nat}(h:Mem c O W F η S)(hc:c'.W0=c.W0/\c'.F0=c.F0/\c'.O0=c.O0)
  (hos:W'.os=W.os) (htape:W'.tape=W.tape) (hout:W'.output=W.output) (hsize:W.heap.size<=W'.heap.size)
  (hW: ∀b,b<W.heap.size->(∀p∈c.Z,p.1≠b)->W'.heap[b]? =W.heap[b]?)
  (hZ: ∀p∈c'.Z,W'.heap[p.1]? =some p.2/\(p.1∈c.Z.map (·.1)\/W.heap.size<=p.1)) (hzd: ∀D∈c'.ds,(D,Obj.deferred (some []))∈c'.Z):
  Mem c' O W' F η S/\ ∀b,F b->F b/\W'.heap[b]? =W.heap[b]? :=by
 obtain⟨e1,e2,e3⟩:=hc;have hF: ∀b,F b->F b/\W'.heap[b]? =W.heap[b]? :=fun b hb=>⟨hb,hW b (h.flt b hb) (fun p hp e=>(h.hid p hp).2.1 (e▸hb))⟩;have hS: ∀id b,b∈S id->W'.heap[b]? =W.heap[b]? :=fun id b hb=>hW b (h.apart id b hb).2.1 (fun p hp e=>(h.hid p hp).2.2.1 id (e▸hb));refine⟨⟨by rw[e1]; exact hos.trans h.os,by rw[e1]; exact htape.trans h.tape,by rw[e1]; exact hout.trans h.output,by rw[e1]; exact Nat.le_trans h.size hsize,?_,fun b hb=>h.f0 b (e2▸hb),fun b hb=>Nat.lt_of_lt_of_le (h.flt b hb) hsize,fun b hb hlt=>by rw[e2,e3]; exact h.fold b hb (e1▸hlt),
  ?_,h.gone,?_,h.sep,h.nd,?_,?_,hzd⟩,hF⟩
 ·intro b hlt hno;rw[e1]at hlt ⊢;rw[e3]at hno;rw[hW b (Nat.lt_of_lt_of_le hlt h.size) (fun p hp e=>by have:=(h.hid p hp).2.2.2; omega)];exact h.old b hlt hno
 ·intro id o ho;refine zj1.mono (za7.refl O η) hF (AO.noRef_nil o) (fun b hb=>hS id b hb) (fun lim fam stop l rest e=> ?_) (h.obj id o ho);subst e;have l1:=(h.lim id _ _ _ _ _ ho).1;have l3:=h.size;exact⟨hos,htape,hout,hsize,hF,fun b hb=>hS id b hb,fun b hb=>(h.apart id b hb).1,fun b hb=>Nat.lt_of_lt_of_le (h.flt b hb) hsize,fun b hlt=>hW b (by omega) (fun p hp e=>by have:=(h.hid p hp).2.2.2; omega),fun b hb _=>hb⟩
 ·intro id b hb;obtain⟨a1,a2,a3⟩:=h.apart id b hb;exact⟨a1,Nat.lt_of_lt_of_le a2 hsize,fun hlt=>by rw[e3]; exact a3 (e1▸hlt)⟩
 ·intro p hp;obtain⟨z1,z2⟩:=hZ p hp;rcases z2 with z2 | z2
  ·obtain⟨q,hq,he⟩:=List.mem_map.1 z2;obtain⟨_,y2,y3,y4⟩:=h.hid q hq;rw[e1];rw[he]at y2 y4;exact⟨z1,y2,fun id=>by have:=y3 id; rwa [he]at this,y4⟩
  ·exact⟨z1,fun hf=>by have:=h.flt _ hf; omega,fun id hb=>by have:=(h.apart id _ hb).2.1; omega,by rw[e1]; have:=h.size; omega⟩
 ·intro id lim fam stop l rest ho;obtain⟨l1,l2⟩:=h.lim id _ _ _ _ _ ho;exact⟨by rw[e1]; exact l1,l2⟩

section
variable {W:World} {F:Nat->Prop}
theorem zbd.of_vals{b:Nat}(F':Nat->Prop): ∀(ds:List D) (vs:List Value) (off:Nat),(∀j v,vs[j]? =some v->W.cell? ⟨b,off+j,none⟩=some v)->zav W F' ds vs->zbd W F' ds b off
 | [],_,_,_,_=>by simp only[zbd]
 | d::ds,vs,off,hc,h=>by
  simp only[zav]at h;obtain⟨v,rest,rfl,h1,h2⟩:=h;simp only[zbd];exact⟨⟨v,by simpa using hc 0 v rfl,h1⟩,zbd.of_vals F' ds rest (off+1) (fun j v hj=>by have:=hc (j+1) v hj; rwa [show off+(j+1)=off+1+j by omega]at this) h2⟩

theorem zav.append{F':Nat->Prop}: ∀(a b:List D) (vs:List Value),zav W F' (a++b) vs↔ ∃x y,vs=x++y/\zav W F' a x/\zav W F' b y
 | [],b,vs=>by
  simp only[List.nil_append,zav];exact⟨fun h=>⟨[],vs,rfl,rfl,h⟩,fun⟨x,y,h1,h2,h3⟩=>by subst h2; subst h1; exact h3⟩
 | d::a,b,vs=>by
  simp only[List.cons_append,zav,zav.append a b];constructor
  ·rintro⟨v,rest,rfl,h1,x,y,rfl,h2,h3⟩;exact⟨v::x,y,rfl,⟨v,x,rfl,h1,h2⟩,h3⟩
  ·rintro⟨x,y,rfl,⟨v,x',rfl,h1,h2⟩,h3⟩;exact⟨v,x'++y,rfl,h1,x',y,rfl,h2,h3⟩

theorem zav.length{F':Nat->Prop}: ∀(a:List D) (vs:List Value),zav W F' a vs->vs.length=a.length
 | [],vs,h=>by simp only[zav]at h; simp[h]
 | d::a,vs,h=>by
  simp only[zav]at h;obtain⟨v,rest,rfl,_,h2⟩:=h;simp[zav.length a rest h2]

theorem zbJ.of_vals{b k:Nat}(F':Nat->Prop): ∀(es:List (List D)) (vs:List Value) (off:Nat),(∀x∈es,x.length=k)->(∀j v,vs[j]? =some v->W.cell? ⟨b,off+j,none⟩=some v)->zav W F' es.flatten vs->zbJ W F' k es b off
 | [],_,_,_,_,_=>by simp only[zbJ]
 | e::es,vs,off,hk,hc,h=>by
  rw[List.flatten_cons]at h;obtain⟨x,y,rfl,h1,h2⟩:=(zav.append e es.flatten vs).1 h;have hl:x.length=k:=(zav.length e x h1).trans (hk e (by simp));simp only[zbJ];refine⟨⟨hk e (by simp),zbd.of_vals F' e x off (fun j v hj=>hc j v (by rw[List.getElem?_append_left (by have:=(List.getElem?_eq_some_iff.1 hj).1; omega)]; exact hj)) h1⟩,?_⟩;refine zbJ.of_vals F' es y (off+k) (fun z hz=>hk z (by simp[hz])) (fun j v hj=> ?_) h2;have:=hc (k+j) v (by rw[List.getElem?_append_right (by omega)]; simpa [hl]using hj);rwa [show off+k+j=off+(k+j) by omega]

theorem OwnVals.rd{R:D->Value->List Nat->Prop}{F':Nat->Prop}: ∀(ds:List D) (vs:List Value) (s:List Nat),(∀x v s',(∀b∈s',b∈s)->R x v s'->Rd W F' x v)->OwnVals R ds vs s->zav W F' ds vs
 | [],_,_,_,h=>by simp only[zav]; exact h.1
 | d::ds,vs,s,hR,h=>by
  simp only[OwnVals]at h;obtain⟨v,rest,s1,s2,h1,h2,h3,h4⟩:=h;subst h2;simp only[zav];exact⟨v,rest,h1,hR d v s1 (fun b hb=>List.mem_append.2 (.inl hb)) h3,OwnVals.rd ds rest s2 (fun x v s' hs=>hR x v s' (fun b hb=>List.mem_append.2 (.inr (hs b hb)))) h4⟩

theorem zfv.rd{C:List D->List Value->List Nat->Prop}{F':Nat->Prop}{e:TypeId}{k:Nat}{es:List (List D)}{v:Value}{s:List Nat}(hs: ∀b∈s,F' b)
  (hR: ∀xs vs s',(∀b∈s',b∈s)->C xs vs s'->zav W F' xs vs) (h:zfv W C e k es v s):Rd W F' (.sl es) v:=by
 obtain⟨h1,h2,h3⟩:=h;simp only[Rd];refine⟨?_,h1⟩;rcases h3 with⟨⟨ad,rfl⟩,rfl,rfl⟩ | ⟨g,cap,cur,s1,rfl,hh,a1,a2,a3,rfl,a5⟩
 ·exact⟨ad,0,rfl,Nat.le_refl _,fun h=>absurd rfl h⟩
 ·refine⟨_,_,rfl,a1,fun _=>⟨g,0,k,rfl,hs g (by simp),?_⟩⟩;refine zbJ.of_vals F' es (cur.toList.take (es.length*k)) 0 h2 (fun j v hj=> ?_) (hR _ _ _ (fun b hb=>by simp[hb]) a5);rw[List.getElem?_take]at hj;split at hj
  ·simp only[World.cell?,hh,Nat.zero_add]; simpa using hj
  ·cases hj

theorem Own.rd{F':Nat->Prop}(hF: ∀b,F b->F' b): ∀(j:List (TypeId×Nat)) (x:D) (v:Value) (s:List Nat),(∀b∈s,F' b)->Own W F j x v s->Rd W F' x v
 | [],x,v,s,_,h=>Rd.mono (fun b hb=>⟨hF b hb,rfl⟩) x v h.1
 | (e,k)::r,.sl es,v,s,hs,h=>zfv.rd hs (fun xs vs s' hs'=>OwnVals.rd xs vs s' (fun x v s'' hs''=>Own.rd hF r x v s'' (fun b hb=>hs b (hs' b (hs'' b hb))))) h
 | _::_,.lit _,v,s,_,h | _::_,.ptr _,v,s,_,h | _::_,.agg _,v,s,_,h | _::_,.ifc _ _,v,s,_,h | _::_,.clo ..,v,s,_,h | _::_,.mp ..,v,s,_,h=>Rd.mono (fun b hb=>⟨hF b hb,rfl⟩) _ v h.1
end
end Go.Aw
