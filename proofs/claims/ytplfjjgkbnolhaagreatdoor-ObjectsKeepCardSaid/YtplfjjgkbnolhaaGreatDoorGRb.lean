/- Machinery. Conditions: those of each. -/
import Derived.Test.YtplfjjgkbnolhaaGreatDoorGO
set_option linter.unusedSimpArgs false
set_option linter.unusedVariables false
/-
 FUNCTIONS WHOSE RESULT IS A STRUCT THAT NAMES OWN OBJECTS: such a struct is handed back as it is.
 Conditions: those of AwGh; over any program.
-/
namespace Go.Aw
open Go.RowKit

def selB(O:Objs)(l:List Nat)(x:AV):Option (Prop×AV):=
 match x with
 | .agg cs=>some (True,.agg cs)
 | .clo f fs cs=>some (True,.clo f fs cs)
 | x=>selA O l x
noncomputable def resB(P:Program)(σ:St)(l:List Nat):List ResultVar→Option (Prop×List AV)
 | []=>some (True,[])
 | r::rs=>match rsv P σ r with
  | some (p,V)=>match selB σ.objs l V,resB P σ l rs with
   | some (q,x),some (p',xs)=>some (p∧q∧p',x::xs)
   | _,_=>none
  | none=>none
theorem selB_rel{c:Ctx}{O:Objs}{W:World}{F:Nat→Prop}{η:Nat→Value}{S:Nat→List Nat}(hm:Mem c O W F η S){l:List Nat}{x y:AV}{v:Value}{p:Prop}(h:RelV O W F η x v)(hs:selB O l x=some (p,y))(hp:p):
  RelV (drop O l) W (fun b=>F b∨ ∃id∈l,b∈S id) η y v:=by
 unfold selB at hs;split at hs
 ·simp only[Option.some.injEq,Prod.mk.injEq]at hs;obtain⟨_,rfl⟩:=hs;exact RelV.pres (Keeps.drop O η l) (fun b hb=>⟨.inl hb,rfl⟩) _ _ (AV.noRef_nil _) h
 ·simp only[Option.some.injEq,Prod.mk.injEq]at hs;obtain⟨_,rfl⟩:=hs;exact RelV.pres (Keeps.drop O η l) (fun b hb=>⟨.inl hb,rfl⟩) _ _ (AV.noRef_nil _) h
 ·exact selA_rel hm h hs hp
theorem resB_run{c:Ctx}{σ:St}{a:Act}{W:World}{F:Nat→Prop}{η:Nat→Value}{S:Nat→List Nat}(hm:Mem c σ.objs W F η S)(ht: ∀t,RelV σ.objs W F η (σ.tmps t) (a.tmps.getD t undef)){l:List Nat}:
  ∀(rs:List ResultVar) (vc:Prop) (xs:List AV),resB c.P σ l rs=some (vc,xs)→vc→
  ∃vs,(rs.mapM (resF a)).run c.P W= .ok vs W∧RelVs (drop σ.objs l) W (fun b=>F b∨ ∃id∈l,b∈S id) η xs vs
 | [],vc,xs,h,_=>by
  simp only[resB,Option.some.injEq,Prod.mk.injEq]at h;obtain⟨_,rfl⟩:=h;exact⟨[],by simp,by simp only[RelVs]⟩
 | r::rs,vc,xs,h,hvc=>by
  simp only[resB]at h;split at h
  ·rename_i p V h1;split at h
   ·rename_i q x p' xs' h2 h3;simp only[Option.some.injEq,Prod.mk.injEq]at h;obtain⟨rfl,rfl⟩:=h;obtain⟨v,h4,h5⟩:=rsv_run hm ht h1 hvc.1;obtain⟨vs,h6,h7⟩:=resB_run hm ht rs p' xs' h3 hvc.2.2;refine⟨v::vs,?_,?_⟩
    ·have h4':(resF a r).run c.P W= .ok v W:=h4;simp only[List.mapM_cons,Sem.run_bind,h4',Result.andThen_ok,h6,Sem.run_pure]
    ·simp only[RelVs];exact⟨v,vs,rfl,selB_rel hm h5 h2 hvc.2.1,h7⟩
   ·cases h
  ·cases h

def retGB(P:Program)(rs:Array ResultVar)(pins:List Nat)(args:List AV)(Oi:Objs)(Post:AV→Objs→List Nat→Prop)(G:Nat)(ks:List Nat)(gs:List Value):Exit→St→Prop:=fun e σ=>
 match e with
 | .ret | .normal => ∃l new,match resB P σ l rs.toList with
  | some (vc,xs)=>vc∧Post (packG xs) (drop σ.objs l) new∧(∀i∈new,Oi i=none∧ ∀lim fam stop l rest,σ.objs i≠some (.ext lim fam stop l rest))∧
    ∀j o',drop σ.objs l j=some o'→j∈new∨(∃o u x,Oi j=some o∧u∈pins∧args[u]? =some x∧x.handle=some j∧σ.tmps u=x∧sameKind x o o')∨
     (j∈ks∧σ.objs G=some (.gh (ks.map fun i=>.bp i 0) gs)∧(∃cs,Oi j=some (.box cs))∧ ∃cs,o'= .box cs)
  | none=>False
 | _=>False

theorem FnG.introB(G:Nat)(ks:List Nat)(pins:List Nat)(own:List (Nat×List (TypeId×Nat))){P:Program}{f:Nat}{fn:Func}{code:Code}{args:List AV}{Oi:Objs}{Post:AV→Objs→List Nat→Prop}(hf:P.funcs[f]? =some fn)(hb:fn.body=some code)
  (hc: ∀W as,(callFunc f as).run P W= .ok (.enter f as) W) (hN:args.length≤fn.ntmps) (hG0:Oi G=none) (hG: ∀id o,Oi id=some o→o.noRef [G]) (hGa:AV.noRefs [G] args)
  (h: ∀gs:List Value,AWp P ⟨fn.ntmps,pins,true,own,fun _ _=>False⟩ code (retGB P fn.results pins args Oi Post G ks gs) ⟨tm (startA 0 args),upd Oi G (some (.gh (ks.map fun i=>.bp i 0) gs))⟩):FnG P f args Oi Post:=by
 refine⟨hc,fun W F O0 η S vs hm hO0 hvs=> ?_⟩;have hlen:=RelVs.length _ _ hvs;obtain⟨hm',hkp⟩:=hm.ghost (ks:=ks) hG0 hG;have hvs':=RelVs.pres hkp (fun b hb=>⟨hb,rfl⟩) args vs hGa hvs;refine callsIn_wide.1 (callsIn_of_wp_marks (n:=0) hf hb trivial ?_);have ev: ∀t,(vs.toArray++Array.replicate (fn.ntmps-vs.toArray.size) undef).getD t undef=vs.getD t undef:=by
  intro t;rw[Array.getD_eq_getD_getElem?,Array.getElem?_append];by_cases ht:t<vs.length
  ·simp[ht,List.getD]
  ·simp only[List.size_toArray,ht,if_false,Array.getElem?_replicate,List.getD];rw[List.getElem?_eq_none (by omega)];split <;> rfl
 have hr:Rel ⟨P,⟨fn.ntmps,pins,true,own,fun _ _=>False⟩,W,F,O0,[],[],fun t=>vs.getD t undef,[]⟩ ⟨tm (startA 0 args),upd Oi G (some (.gh (ks.map fun i=>.bp i 0) (ks.map η)))⟩ {tmps:=vs.toArray++Array.replicate (fn.ntmps-vs.toArray.size) undef,defers:=[]} W:=by
  refine⟨⟨by simp[hlen]; omega,fun t _=>ev t⟩,rfl,F,η,S,hm'.same rfl rfl rfl rfl rfl,fun t=> ?_⟩;have:=startA_rel args vs 0 hvs' t;simp only[Nat.zero_le,if_true,Nat.sub_zero]at this;simp only[ev];exact this
 refine wpIn_mono (h (ks.map η) none 0 _ (fun _=>rfl) rfl rfl _ _ hr) ?_;rintro e a W1 ⟨σ',hq,Ds,⟨hnd,_⟩,⟨hsz,hpin⟩,hdf,F',η1,S1,hm1,ht1⟩;have hret:(∃l new,match resB P σ' l fn.results.toList with
   | some (vc,xs)=>vc∧Post (packG xs) (drop σ'.objs l) new∧(∀i∈new,Oi i=none∧ ∀lim fam stop l rest,σ'.objs i≠some (.ext lim fam stop l rest))∧
     ∀j o',drop σ'.objs l j=some o'→j∈new∨(∃o u x,Oi j=some o∧u∈pins∧args[u]? =some x∧x.handle=some j∧σ'.tmps u=x∧sameKind x o o')∨
      (j∈ks∧σ'.objs G=some (.gh (ks.map fun i=>.bp i 0) (ks.map η))∧(∃cs,Oi j=some (.box cs))∧ ∃cs,o'= .box cs)
   | none=>False)→LeavesInM Fence.wide 0 P fn a.tmps (fun e W'=> ∃v V Oo new F' η' S',e= .returned v∧Post V Oo new∧(∀i∈new,∀lim fam stop l rest,Oo i≠some (.ext lim fam stop l rest))∧Mem ⟨P,N0,W,F,O0,[],[],fun _=>undef,[]⟩ Oo W' F' η' S'∧RelV Oo W' F' η' V v∧Keeps Oi Oo η η' new) a.defers .returning W1:=by
  rintro⟨l,new,hq⟩;split at hq
  ·rename_i vc xs h1;obtain⟨q1,q2,q3,q4⟩:=hq;rw[hdf];simp only[Ctx.more,List.append_nil];refine leavesM Ds W1 hnd (fun D hD=>(hm1.hid (D,_) (by simp[Ctx.more]; exact hD)).1) (fun W' o1 o2 o3 o4 o5=> ?_);obtain⟨hm,hF⟩:=hm1.hidden (c':=⟨P,N0,W,F,O0,[],[],fun _=>undef,[]⟩) ⟨rfl,rfl,rfl⟩ o1 o2 o3 (by omega) (fun b _ hb=>o5 b (fun hD=>hb (b,.deferred (some [])) (by simp[Ctx.more]; exact hD) rfl)) (by simp) (by simp);have ht2: ∀t,RelV σ'.objs W' F' η1 (σ'.tmps t) (a.tmps.getD t undef):=fun t=>RelV.pres (Keeps.refl _ _) hF _ _ (AV.noRef_nil _) (ht1 t);obtain⟨us,h4,h5⟩:=resB_run (c:=⟨P,N0,W,F,O0,[],[],fun _=>undef,[]⟩) hm ht2 fn.results.toList vc xs h1 q1;have h6:(results fn a.tmps).run P W'= .ok (if h:us.toArray.size=1 then us.toArray[0]else .tuple us.toArray) W':=by
    unfold results;rw[Array.mapM_eq_mapM_toList];simp only[Sem.run_bind,Sem.run_map,Sem.run_pure];exact congrArg (fun r:Result (List Value)=>(r.andThen fun a w'=>Result.ok a.toArray w').andThen fun a w'=>Result.ok (if h:a.size=1 then a[0]else Value.tuple a) w') h4
   obtain⟨m1,m2⟩:=hm.dropL (W':=W') (F':=fun b=>F' b∨ ∃id∈l,b∈S1 id) l (Below.refl _ _) (fun b hb=>.inl hb) (fun b hb=>by
    rcases hb with hb | hb
    ·exact .inl hb
    ·exact .inr (.inr hb))
   refine⟨_,h6,_,packG xs,drop σ'.objs l,new,_,_,_,rfl,q2,fun i hi lim fam stop l' rest h=> ?_,m1,?_,?_⟩
   ·unfold drop at h;split at h
    ·cases h
    ·exact(q3 i hi).2 _ _ _ _ _ h
   ·unfold packG;split
    ·rename_i x;simp only[RelVs]at h5;obtain⟨v,rest,rfl,h7,rfl⟩:=h5;simpa using h7
    ·rename_i hx;have hl:=RelVs.length _ _ h5;rw[dif_neg (by
      intro e;simp at e;rw[hl]at e
      match xs,e with
      | [x],_=>exact hx x rfl)]
     simp only[RelV];exact⟨us,rfl,h5⟩
   ·intro j o' ho;rcases q4 j o' ho with h7 | ⟨o,u,x,a1,a2,a3,a4,a5,a6⟩ | ⟨a1,a2,⟨cs,a3⟩,cs',rfl⟩
    ·exact .inl h7
    ·refine .inr ⟨o,a1,?_⟩;have b1:RelV Oi W F η x (vs.getD u undef):=by
      have: ∀(xs:List AV) (vs:List Value) (u:Nat),RelVs Oi W F η xs vs→xs[u]? =some x→RelV Oi W F η x (vs.getD u undef):=by
       intro xs
       induction xs with
       | nil=>intro vs u _ h; simp at h
       | cons y ys ih=>
        intro vs u h hu;simp only[RelVs]at h;obtain⟨v,rest,rfl,h8,h9⟩:=h;cases u with
        | zero=>simp at hu; subst hu; simpa using h8
        | succ u=>simpa using ih rest u h9 (by simpa using hu)
      exact this args vs u hvs a3
     have b2:=ht2 u;rw[a5,hpin u a2]at b2;have ho2:σ'.objs j=some o':=by
      unfold drop at ho;split at ho
      ·cases ho
      ·exact ho
     have:=keeps_end b1 b2 a4 a1 ho2 a6;cases o <;> cases o' <;> exact this
    ·refine .inr ⟨_,a3,?_⟩;have ho2:σ'.objs j=some (.box cs'):=by
      unfold drop at ho;split at ho
      ·cases ho
      ·exact ho
     have b1:RelV σ'.objs W' F' η1 (.bp j 0) (η j):=ghost_rel' (hm.obj G _ a2).2 j a1;simp only[RelV]at b1;obtain⟨b,e1,e2⟩:=b1 _ ho2;exact e1.trans e2.symm
  ·exact hq.elim
 cases e with
 | normal=>exact hret hq
 | ret=>exact hret hq
 | exit id=>exact hq.elim
 | goto l=>exact hq.elim
 | panic ch=>exact hq.elim
 | outgrown=>exact hq.elim

noncomputable def eRetB(P:Program)(rs:Array ResultVar)(pins:List Nat)(args:List AV)(os:OL)(PL:AV→OL→List Nat→Prop)(G:Nat)(ks:List Nat)(gs:List Value)(l new:List Nat)(r:Option (Prop×List AV))(t:TL)(o:OL):Prop:=
 match r with
 | some (vc,xs)=>vc∧PL (packG xs) (dropO l o) new∧newOk new os o∧hdK args pins os t new G ks gs o (dropO l o)
 | none=>False
def ERetB(P:Program)(rs:Array ResultVar)(pins:List Nat)(args:List AV)(os:OL)(PL:AV→OL→List Nat→Prop)(G:Nat)(ks:List Nat)(gs:List Value)(t:TL)(o:OL):Prop:=
 ∃l new,eRetB P rs pins args os PL G ks gs l new (resB P ⟨tm t,om o⟩ l rs.toList) t o
noncomputable def retBE(P:Program)(rs:Array ResultVar)(pins:List Nat)(args:List AV)(os:OL)(PL:AV→OL→List Nat→Prop)(G:Nat)(ks:List Nat)(gs:List Value):EQ
 | .ret,t,o=>ERetB P rs pins args os PL G ks gs t o
 | .normal,t,o=>ERetB P rs pins args os PL G ks gs t o
 | _,_,_=>False
theorem FnL.of_eB(G:Nat)(ks:List Nat){P:Program}{f:Nat}{fn:Func}{code:Code}{args:List AV}{os:OL}{PL:AV→OL→List Nat→Prop}(L:Nat→List Gh){own:List (Nat×List (TypeId×Nat))}(pins:List Nat)(hmix:P.follows .mixedOrders =true)(hf:P.funcs[f]? =some fn)(hb:fn.body=some code)
  (hc: ∀as W,(callFunc f as).run P W= .ok (.enter f as) W) {N:Nat} (hN:fn.ntmps=N) (hN':args.length≤N) {rs:Array ResultVar} (hrs:fn.results=rs) (hG:freeO G os∧AV.noRefs [G] args)
  (h: ∀gs:List Value,eC P ⟨N,pins,true,own,fun _ _=>False⟩ L code (retBE P rs pins args os PL G ks gs) (startA 0 args) ((G,.gh (ks.map fun i=>.bp i 0) gs)::os)):FnL P f args os PL:=by
 subst hN;subst hrs;refine FnG.introB G ks pins own hf hb (fun W as=>hc as W) hN' (freeO_ok hG.1).1 (freeO_ok hG.1).2 hG.2 (fun gs=> ?_);rw[←om_cons_upd];refine AWp.mono (eC_sound hmix code _ _ _ (h gs)) ?_;rintro e σ ⟨t,o,rfl,h1⟩;have key:ERetB P fn.results pins args os PL G ks gs t o→ ∃l new,match resB P ⟨tm t,om o⟩ l fn.results.toList with
   | some (vc,xs)=>vc∧(∃ol,drop (om o) l=om ol∧PL (packG xs) ol new)∧(∀i∈new,om os i=none∧ ∀lim fam stop l rest,om o i≠some (.ext lim fam stop l rest))∧
     ∀j o',drop (om o) l j=some o'→j∈new∨(∃o u x,om os j=some o∧u∈pins∧args[u]? =some x∧x.handle=some j∧tm t u=x∧sameKind x o o')∨
      (j∈ks∧om o G=some (.gh (ks.map fun i=>.bp i 0) gs)∧(∃cs,om os j=some (.box cs))∧ ∃cs,o'= .box cs)
   | none=>False:=by
  rintro⟨l,new,h2⟩;refine⟨l,new,?_⟩;unfold eRetB at h2;split at h2
  ·rename_i vc xs hr;obtain⟨h3,h4,h5,h6⟩:=h2;exact⟨h3,⟨_,dropO_om l o,h4⟩,newOk_ok h5,fun j o' ho=>hdK_ok h6 j o' (by rw[←dropO_om]; exact ho)⟩
  ·exact h2.elim
 cases e with
 | ret=>exact key h1
 | normal=>exact key h1
 | _=>exact h1.elim
def asD:AV→Option D
 | .d x=>some x
 | .nils =>some (.sl [])
 | _=>none
def asDs:List AV→Option (List D)
 | []=>some []
 | x::xs=>match asD x,asDs xs with
  | some d,some ds=>some (d::ds)
  | _,_=>none
theorem RelVs.at{O:Objs}{W:World}{F:Nat→Prop}{η:Nat→Value}{y z:AV}(hyz: ∀v,RelV O W F η y v→RelV O W F η z v){b:List AV}: ∀ {a:List AV} {vs:List Value},RelVs O W F η (a++y::b) vs→RelVs O W F η (a++z::b) vs
 | [],vs,h=>by
  simp only[List.nil_append,RelVs]at h ⊢;obtain⟨v,rest,rfl,h1,h2⟩:=h;exact⟨v,rest,rfl,hyz v h1,h2⟩
 | x::a,vs,h=>by
  simp only[List.cons_append,RelVs]at h ⊢;obtain⟨v,rest,rfl,h1,h2⟩:=h;exact⟨v,rest,rfl,h1,RelVs.at hyz h2⟩
theorem EFn.gV{P:Program}{N:NP}{f:FuncId}{args:List AV}{dst:Option Nat}{K:EK}{t:TL}{o:OL}(r:List (Nat×Nat)){cargs:List AV}{os:OL}{PL:AV→OL→List Nat→Prop}(hc:FnL P f cargs os PL)
  (h1:AV.renL r cargs=args∧RenOk r∧inR r o os∧frR os t o r∧dstOk N dst) (h2: ∀V ol new,PL V ol new→domR r ol∧newR os new∧K (consO dst (V.ren r) t) (renO r ol++dropO (r.map (·.2)) o)):EFn P N f args dst K t o:=
 EFn.g ⟨r,cargs,os,PL,hc,h1.1,h1.2.1,h1.2.2.1,h1.2.2.2.1,h1.2.2.2.2,h2⟩
end Go.Aw
