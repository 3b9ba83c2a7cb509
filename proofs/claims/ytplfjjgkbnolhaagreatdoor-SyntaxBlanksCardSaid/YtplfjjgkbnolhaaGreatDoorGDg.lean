/- Machinery. Conditions: those of each. -/
import Derived.Test.YtplfjjgkbnolhaaGreatDoorGDf
set_option linter.unusedSimpArgs false
set_option linter.unusedVariables false
/-
 GHOSTS OF PLAIN DATA MAY STAND TWICE: a function is given two of them and hands back one.
 Conditions: the ghost's cells are plain data.
-/
namespace Go.Aw
open Go.RowKit
theorem zEh{O O':zbI}{W:World}{F:Nat->Prop}{η η':Nat->Value}: ∀(cs:List AV) (vs:List Value),(zwy cs).isSome =true->zaN O W F η cs vs->zaN O' W F η' cs vs
 | [],vs,_,h=>by simpa only[zaN]using h
 | x::cs,vs,hc,h=>by
  simp only[zaN]at h ⊢;obtain⟨v,r,rfl,h1,h2⟩:=h;cases x with
  | d y=>
   refine⟨v,r,rfl,?_,zEh cs r ?_ h2⟩
   ·simpa only[zaL]using h1
   ·simp only[zwy]at hc;cases ha:zwy cs with
    | none=>rw[ha]at hc; simp at hc
    | some _=>rfl
  | _=>simp[zwy]at hc
theorem FnL.dupG{P:Program}{f:FuncId}{args:List AV}{a b:Nat}{cs:List AV}{vs:List Value}{V:AV}(hab:a≠b)(hcs:(zwy cs).isSome =true)(hargs:AV.noRefs [b] args)(hV:zrv V=true)
  (h:FnL P f args [(a,.gh cs vs),(b,.gh cs vs)] fun V' ol new=>V'=V/\(ol=[(a,.gh cs vs)]\/ol=[(b,.gh cs vs)])/\new=[]):
  FnL P f args [(a,.gh cs vs)] fun V' ol new=>V'=V/\ol=[(a,.gh cs vs)]/\new=[]:=by
 refine⟨h.1,fun W F O0 η S ws hm hO0 hr=> ?_⟩;have ha:om [(a,AO.gh cs vs)] a=some (.gh cs vs):=by simp[om]
 have hb:om [(a,AO.gh cs vs)] b=none:=by simp[om,Ne.symm hab]
 have hga:=hm.obj a _ ha;have hk:za7 (om [(a,AO.gh cs vs)]) (om [(a,.gh cs vs),(b,.gh cs vs)]) η η [b]:=by
  intro id o' ho;simp only[om]at ho;split at ho
  ·rename_i e; subst e;simp only[Option.some.injEq]at ho; subst ho;exact .inr ⟨_,ha,trivial⟩
  ·split at ho
   ·rename_i e; left; simp[e]
   ·cases ho
 have hm2:Mem ⟨P,N0,W,F,O0,[],[],fun _=>undef,[]⟩ (om [(a,.gh cs vs),(b,.gh cs vs)]) W F η S:=by
  refine{hm with obj:=fun id o ho=> ?_,gone:=fun id ho=> ?_,lim:=fun id lim fam stop l rest ho=> ?_}
  ·simp only[om]at ho;split at ho
   ·rename_i e; subst e;simp only[Option.some.injEq]at ho; subst ho;exact⟨hga.1,zEh cs vs hcs hga.2⟩
   ·split at ho
    ·rename_i e; subst e;simp only[Option.some.injEq]at ho; subst ho;exact⟨⟨hm.gone id hb,hga.1.2⟩,zEh cs vs hcs hga.2⟩
    ·cases ho
  ·refine hm.gone id ?_;simp only[om]at ho ⊢;split at ho
   ·cases ho
   ·rename_i e; simp[e]
  ·simp only[om]at ho;split at ho
   ·cases ho
   ·split at ho <;> cases ho
 have hO0': ∀x,O0 x↔ ∃id,x∈S id:=hO0;refine Calls.mono (h.2 W F O0 η S ws hm2 hO0' (zaN.pres hk (fun b hb=>⟨hb,rfl⟩) args ws hargs hr)) ?_;rintro e W' ⟨v,V',Oo,new,F',η',S',rfl,⟨ol,rfl,rfl,hol,rfl⟩,_,hm3,hv3,_⟩;have key: ∀x,om ol x=some (.gh cs vs)->(∀id o,om ol id=some o->id=x)->Mem ⟨P,N0,W,F,O0,[],[],fun _=>undef,[]⟩ (om [(a,.gh cs vs)]) W' F' η' S':=by
  intro x hx hx2;have hgx:=hm3.obj x _ hx;have hSn: ∀id,S' id=[]:=by
   intro id;by_cases h1:id=x
   ·rw[h1]; exact hgx.1.1
   ·refine hm3.gone id ?_;cases h2:om ol id with
    | none=>rfl
    | some o=>exact absurd (hx2 id o h2) h1
  refine{hm3 with obj:=fun id o ho=> ?_,gone:=fun id _=>hSn id,lim:=fun id lim fam stop l rest ho=> ?_}
  ·simp only[om]at ho;split at ho
   ·simp only[Option.some.injEq]at ho; subst ho;exact⟨⟨hSn id,hgx.1.2⟩,zEh cs vs hcs hgx.2⟩
   ·cases ho
  ·simp only[om]at ho;split at ho <;> cases ho
 have hmF:Mem ⟨P,N0,W,F,O0,[],[],fun _=>undef,[]⟩ (om [(a,.gh cs vs)]) W' F' η' S':=by
  rcases hol with rfl | rfl
  ·exact hm3
  ·exact key b (by simp[om]) (fun id o ho=>by
    simp only[om]at ho;split at ho
    ·assumption
    ·cases ho)
 refine⟨v,V',om [(a,.gh cs vs)],[],F',η',S',rfl,⟨_,rfl,rfl,rfl,rfl⟩,by simp,hmF,?_,fun id o' ho=> ?_⟩
 ·cases V' with
  | d x=>simpa only[zaL]using hv3
  | tup xs=>
   simp only[zaL]at hv3 ⊢;obtain⟨us,rfl,h1⟩:=hv3;refine⟨us,rfl,?_⟩;simp only[zrv]at hV;clear h hm2 hm3 hmF
   induction xs generalizing us with
   | nil=>simpa only[zaN]using h1
   | cons x xs ih=>
    simp only[zaN]at h1 ⊢;obtain⟨v,r,rfl,h2,h3⟩:=h1;simp only[List.all_cons,Bool.and_eq_true]at hV;refine⟨v,r,rfl,?_,ih hV.2 r h3⟩;cases x with
    | d y=>simpa only[zaL]using h2
    | _=>simp[isD]at hV
  | _=>simp[zrv]at hV
 ·simp only[om]at ho;split at ho
  ·rename_i e; subst e;simp only[Option.some.injEq]at ho; subst ho;exact .inr ⟨_,ha,trivial⟩
  ·cases ho
end Go.Aw
