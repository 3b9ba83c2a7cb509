/- Machinery. Conditions: those of each. -/
import Derived.Test.YtbenhdgpogiadaaGreatGO
set_option linter.unusedSimpArgs false
set_option linter.unusedVariables false
/-
 A CONTRACT THAT HANDS BACK AN OWN ARRAY, READ AS ONE ON PLAIN DATA.
 Conditions: none; over any program.
-/
namespace Go.Aw
open Go.RowKit
theorem FnP.of_arr{P:Program}{f:FuncId}{ds:List D}{e:TypeId}{k:Nat}{es:List (List D)}(h:FnL P f (ds.map .d) [] (fun V ol new=>V= .ar 90 es.length/\ol=[(90,.arr e k .flat es)]/\new=[90])):FnP P f ds (.d (.sl es)) []:=by
 refine⟨h.1,fun W F vs hF hvs=> ?_⟩;have hm0:Mem ⟨P,N0,W,F,noO,[],[],fun _=>undef⟩ (om []) W F (fun _=>undef) (fun _=>[]):=
  ⟨rfl,rfl,rfl,Nat.le_refl _,fun _ _ _=>rfl,fun _ h=>h,hF,fun _ h _=>.inl h,fun id o ho=>by simp[om]at ho,fun _ _=>rfl,by simp,by simp,by simp,by simp,fun id lim fam stop l rest ho=>by simp[om]at ho,by simp⟩
 refine(h.2 W F noO (fun _=>undef) (fun _=>[]) vs hm0 (fun b=>by simp[noO]) ((zaN.of_ds _ _).2 hvs)).mono ?_;rintro e0 W' ⟨v,V,Oo,new,F',η',S',rfl,⟨ol,rfl,rfl,rfl,rfl⟩,_,hm,hv,_⟩;obtain⟨m1,_⟩:=hm.dropL (F':=fun b=>F' b\/b∈S' 90) [90] (Below.refl _ _) (fun _ h=>.inl h) (fun b hb=>by
  rcases hb with hb | hb
  ·exact .inl hb
  ·exact .inr (.inr ⟨90,by simp,hb⟩))
 have e1:drop (om [(90,AO.arr e k .flat es)]) [90]=zuX []:=by
  funext i;simp only[drop,zuX,om,List.mem_singleton];by_cases hi:i=90 <;> simp[hi]
 rw[e1]at m1;refine⟨v,_,_,_,rfl,m1,?_⟩;have:=zsO hm (F':=fun b=>F' b\/b∈S' 90) (fun _ h=>.inl h) (.ar 90 es.length) v (es.length=es.length,.sl es,[90]) hv (by simp[frz,znG,om]) rfl (fun id hid b hb=>by
  simp only[List.mem_singleton]at hid;subst hid;exact .inr hb)
 simp only[zaL];exact this
theorem FnP.weak{P:Program}{f:FuncId}{ds ds':List D}{V:AV}{os:List AO}(h:FnP P f ds V os)(hw: ∀W F vs,zav W F ds' vs->zav W F ds vs):FnP P f ds' V os:=
 ⟨h.1,fun W F vs hF hvs=>h.2 W F vs hF (hw W F vs hvs)⟩
end Go.Aw
