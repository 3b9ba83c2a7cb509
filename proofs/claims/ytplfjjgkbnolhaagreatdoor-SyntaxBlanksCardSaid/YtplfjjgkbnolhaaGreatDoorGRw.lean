/- Machinery. Conditions: those of each. -/
import Derived.Test.YtplfjjgkbnolhaaGreatDoorGGk
set_option linter.unusedSimpArgs false
set_option linter.unusedVariables false
/-
 CONTRACTS OUT OF WALKS ON THE MACHINE: a call that leaves what was there as it was.
 Conditions: those of each law; over any program.
-/
namespace Go.Aw
open Go.RowKit
theorem relVs_rd{O:zbI}{W:World}{F:Nat->Prop}{η:Nat->Value}: ∀(ds:List D) (vs:List Value),zaN O W F η (ds.map .d) vs->zav W F ds vs
 | [],vs,h=>by simpa only[List.map_nil,zaN,zav]using h
 | d::ds,vs,h=>by
  simp only[List.map_cons,zaN,zaL]at h;obtain⟨v,r,rfl,h1,h2⟩:=h;simp only[zav];exact⟨v,r,rfl,h1,relVs_rd ds r h2⟩
theorem FnL.of_raw{P:Program}{f:FuncId}(hc: ∀W as,(callFunc f as).run P W= .ok (.enter f as) W)(ds:List D)(os:OL)(V:AV)
  (h: ∀(W:World) (F:Nat->Prop) (η:Nat->Value) (S:Nat->List Nat) (vs:List Value),(∀id o,om os id=some o->zj1 (om os) W F η (η id) (S id) o)->zav W F ds vs->
   Calls P f vs.toArray W fun e W'=> ∃v,e= .returned v/\Below W.heap.size W W'/\ ∀F':Nat->Prop,(∀b,F b->F' b/\W'.heap[b]? =W.heap[b]?)->(∀b,W.heap.size<=b->b<W'.heap.size->F' b)->zaL (om os) W' F' η V v):
  FnL P f (ds.map .d) os (fun V' ol new=>V'=V/\ol=os/\new=[]):=by
 refine⟨hc,?_⟩;intro W F O0 η S vs hm hO0 hr;refine(h W F η S vs hm.obj (relVs_rd ds vs hr)).mono ?_;rintro e W' ⟨v,rfl,hb,hv⟩;obtain⟨m1,m2⟩:=hm.still (W':=W') (F':=fun b=>F b\/(W.heap.size<=b/\b<W'.heap.size)) hb (fun _ h=>.inl h) (fun _ h=>h);exact⟨v,V,om os,[],_,η,S,rfl,⟨os,rfl,rfl,rfl,rfl⟩,by simp,m1,hv _ m2 (fun b h1 h2=>.inr ⟨h1,h2⟩),za7.refl _ _⟩
theorem FnP.of_raw{P:Program}{f:FuncId}(hc: ∀W as,(callFunc f as).run P W= .ok (.enter f as) W)(ds:List D)(V:AV)
  (h: ∀(W:World) (F:Nat->Prop) (vs:List Value),zav W F ds vs->
   Calls P f vs.toArray W fun e W'=> ∃v,e= .returned v/\Below W.heap.size W W'/\ ∀F':Nat->Prop,(∀b,F b->F' b/\W'.heap[b]? =W.heap[b]?)->(∀b,W.heap.size<=b->b<W'.heap.size->F' b)-> ∀η,zaL (zuX []) W' F' η V v):
  FnP P f ds V []:=by
 refine⟨hc,?_⟩;intro W F vs hF hr;refine(h W F vs hr).mono ?_;rintro e W' ⟨v,rfl,hb,hv⟩;have hm:Mem ⟨P,N0,W,F,noO,[],[],fun _=>undef,[]⟩ (zuX []) W F (fun _=>undef) (fun _=>[]):=by
  refine⟨rfl,rfl,rfl,Nat.le_refl _,fun _ _ _=>rfl,fun _ h=>h,hF,fun b h _=>.inl h,?_,?_,by simp,by simp,by simp,by simp,?_,by simp⟩
  ·intro id o ho; simp[zuX]at ho
  ·intro id _; rfl
  ·intro id lim fam stop l rest ho; simp[zuX]at ho
 obtain⟨m1,m2⟩:=hm.still (W':=W') (F':=fun b=>F b\/(W.heap.size<=b/\b<W'.heap.size)) hb (fun _ h=>.inl h) (fun _ h=>h);exact⟨v,_,_,_,rfl,m1,hv _ m2 (fun b h1 h2=>.inr ⟨h1,h2⟩) _⟩
def zAq(k:Nat)(x:AO):OL->OL
 | []=>[(k,x)]
 | (j,y)::r=>if k<=j then(k,x)::(j,y)::r else(j,y)::zAq k x r
def zAp:OL->OL
 | []=>[]
 | (k,x)::r=>zAq k x (zAp r)
theorem om_insO(k:Nat)(x:AO): ∀(l:OL),om (zAq k x l)=om ((k,x)::l)
 | []=>rfl
 | (j,y)::r=>by
  unfold zAq;split
  ·rfl
  ·rename_i h;have ih:=om_insO k x r;funext i;have:=congrFun ih i;simp only[om]at this ⊢;rw[this];by_cases h1:i=j
   ·subst h1; simp; omega
   ·simp[h1]
theorem om_srtO: ∀(l:OL),om (zAp l)=om l
 | []=>rfl
 | (k,x)::r=>by
  unfold zAp;rw[om_insO];funext i;simp only[om,om_srtO r]
theorem FnL.srt{P:Program}{f:FuncId}{args:List AV}{os:OL}{PL:AV->OL->List Nat->Prop}(h:FnL P f args os fun V ol new=>PL V (zAp ol) new):FnL P f args os PL:=by
 refine⟨h.1,fun W F O0 η S vs hm hO hr=>Calls.mono (h.2 W F O0 η S vs hm hO hr) ?_⟩;rintro e W' ⟨v,V,Oo,new,F',η',S',a1,⟨ol,a2,a3⟩,a4⟩;exact⟨v,V,Oo,new,F',η',S',a1,⟨zAp ol,by rw[om_srtO]; exact a2,a3⟩,a4⟩
end Go.Aw
