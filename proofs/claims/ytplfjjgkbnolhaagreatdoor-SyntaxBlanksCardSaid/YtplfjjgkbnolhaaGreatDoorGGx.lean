/- Machinery. Conditions: those of each. -/
import Derived.Test.YtplfjjgkbnolhaaGreatDoorGRw
import Derived.Test.YtplfjjgkbnolhaaGreatDoorGRb
set_option linter.unusedSimpArgs false
set_option linter.unusedVariables false
/-
 THE SAME FOR FUNCTIONS THAT MAY PANIC: objects stay by a ghost's handles; a panic with such a value.
 Conditions: those of AxGk.
-/
namespace Go.Aw
open Go.RowKit
def retHX(P:Program)(rs:Array ResultVar)(pins:List Nat)(args:List AV)(Oi:zbI)(Post:AV->zbI->List Nat->Prop)(PX:Value->Prop)(G:Nat)(hs:List AV)(gs:List Value):Exit->St->Prop:=fun e σ=>
 match e with
 | .panic ch=> ∃v,ch=[{v:=v,recovered:=false}]/\PX v
 | e=>retGH P rs pins args Oi Post G hs gs e σ
theorem FnX.introH(G:Nat)(hs:List AV)(pins:List Nat)(own:List (Nat×List (TypeId×Nat))){P:Program}{f:Nat}{fn:Func}{code:Code}{args:List AV}{Oi:zbI}{Post:AV->zbI->List Nat->Prop}{PX:Value->Prop}(hf:P.funcs[f]? =some fn)(hb:fn.body=some code)
  (hc: ∀W as,(callFunc f as).run P W= .ok (.enter f as) W) (hN:args.length<=fn.ntmps) (hG0:Oi G=none) (hG: ∀id o,Oi id=some o->o.noRef [G]) (hGa:AV.noRefs [G] args) (hok:zCV Oi hs) (hGh:AV.noRefs [G] hs)
  (h: ∀gs:List Value,AWp P ⟨fn.ntmps,pins,true,own,fun v _=>PX v⟩ code (retHX P fn.results pins args Oi Post PX G hs gs) ⟨tm (zpL 0 args),upd Oi G (some (.gh hs gs))⟩):FnX P f args Oi Post PX:=by
 refine⟨hc,fun W F O0 η S vs hm hO0 hvs=> ?_⟩;have hlen:=zaN.length _ _ hvs;obtain⟨hm',hkp⟩:=hm.ghostH (hs:=hs) hG0 hG hok hGh;have hst:=hnRel hm hs hok;have hvs':=zaN.pres hkp (fun b hb=>⟨hb,rfl⟩) args vs hGa hvs;refine callsIn_wide.1 (callsIn_of_wp_marks (n:=0) hf hb trivial ?_);have ev: ∀t,(vs.toArray++Array.replicate (fn.ntmps-vs.toArray.size) undef).getD t undef=vs.getD t undef:=by
  intro t;rw[Array.getD_eq_getD_getElem?,Array.getElem?_append];by_cases ht:t<vs.length
  ·simp[ht,List.getD]
  ·simp only[List.size_toArray,ht,if_false,Array.getElem?_replicate,List.getD];rw[List.getElem?_eq_none (by omega)];split <;> rfl
 have hr:Rel ⟨P,⟨fn.ntmps,pins,true,own,fun v _=>PX v⟩,W,F,O0,[],[],fun t=>vs.getD t undef,[]⟩ ⟨tm (zpL 0 args),upd Oi G (some (.gh hs (hs.map (hv η))))⟩ {tmps:=vs.toArray++Array.replicate (fn.ntmps-vs.toArray.size) undef,defers:=[]} W:=by
  refine⟨⟨by simp[hlen]; omega,fun t _=>ev t⟩,rfl,F,η,S,hm'.same rfl rfl rfl rfl rfl,fun t=> ?_⟩;have:=zwa args vs 0 hvs' t;simp only[Nat.zero_le,if_true,Nat.sub_zero]at this;simp only[ev];exact this
 refine wpIn_mono (h (hs.map (hv η)) none 0 _ (fun _=>rfl) rfl rfl _ _ hr) ?_;rintro e a W1 ⟨σ',hq,Ds,⟨hnd,_⟩,⟨hsz,hpin⟩,hdf,F',η1,S1,hm1,ht1⟩;have hret:(∃l new,match zHj P σ' l fn.results.toList with
   | some (vc,xs)=>vc/\Post (ztO xs) (drop σ'.objs l) new/\(∀i∈new,Oi i=none/\ ∀lim fam stop l rest,σ'.objs i≠some (.ext lim fam stop l rest))/\
     ∀j o',drop σ'.objs l j=some o'->j∈new\/(∃o u x,Oi j=some o/\u∈pins/\args[u]? =some x/\x.handle=some j/\σ'.tmps u=x/\zht x o o')\/
      (σ'.objs G=some (.gh hs (hs.map (hv η)))/\ ∃x o,x∈hs/\hdl x=some j/\Oi j=some o/\zpC x o o')\/ ∃cs vs cs' vs',Oi j=some (.gh cs vs)/\o'= .gh cs' vs'
   | none=>False)->LeavesInM Fence.wide 0 P fn a.tmps (fun e W'=>(∃v V Oo new F' η' S',e= .returned v/\Post V Oo new/\(∀i∈new,∀lim fam stop l rest,Oo i≠some (.ext lim fam stop l rest))/\Mem ⟨P,N0,W,F,O0,[],[],fun _=>undef,[]⟩ Oo W' F' η' S'/\zaL Oo W' F' η' V v/\za7 Oi Oo η η' new)\/
   ∃v F' η' S',e= .panicked [{v:=v,recovered:=false}]/\PX v/\Mem ⟨P,N0,W,F,O0,[],[],fun _=>undef,[]⟩ (fun _=>none) W' F' η' S') a.defers .returning W1:=by
  rintro⟨l,new,hq⟩;split at hq
  ·rename_i vc xs h1;obtain⟨q1,q2,q3,q4⟩:=hq;rw[hdf];simp only[Ctx.more,List.append_nil];refine zyL Ds W1 hnd (fun D hD=>(hm1.hid (D,_) (by simp[Ctx.more]; exact hD)).1) (fun W' o1 o2 o3 o4 o5=> ?_);obtain⟨hm,hF⟩:=hm1.hidden (c':=⟨P,N0,W,F,O0,[],[],fun _=>undef,[]⟩) ⟨rfl,rfl,rfl⟩ o1 o2 o3 (by omega) (fun b _ hb=>o5 b (fun hD=>hb (b,.deferred (some [])) (by simp[Ctx.more]; exact hD) rfl)) (by simp) (by simp);have ht2: ∀t,zaL σ'.objs W' F' η1 (σ'.tmps t) (a.tmps.getD t undef):=fun t=>zaL.pres (za7.refl _ _) hF _ _ (AV.noRef_nil _) (ht1 t);obtain⟨us,h4,h5⟩:=zy8 (c:=⟨P,N0,W,F,O0,[],[],fun _=>undef,[]⟩) hm ht2 fn.results.toList vc xs h1 q1;have h6:(results fn a.tmps).run P W'= .ok (if h:us.toArray.size=1 then us.toArray[0]else .tuple us.toArray) W':=by
    unfold results;rw[Array.mapM_eq_mapM_toList];simp only[Sem.run_bind,Sem.run_map,Sem.run_pure];exact congrArg (fun r:Result (List Value)=>(r.andThen fun a w'=>Result.ok a.toArray w').andThen fun a w'=>Result.ok (if h:a.size=1 then a[0]else Value.tuple a) w') h4
   obtain⟨m1,m2⟩:=hm.dropL (W':=W') (F':=fun b=>F' b\/ ∃id∈l,b∈S1 id) l (Below.refl _ _) (fun b hb=>.inl hb) (fun b hb=>by
    rcases hb with hb | hb
    ·exact .inl hb
    ·exact .inr (.inr hb))
   refine⟨_,h6,.inl ⟨_,ztO xs,drop σ'.objs l,new,_,_,_,rfl,q2,fun i hi lim fam stop l' rest h=> ?_,m1,?_,?_⟩⟩
   ·unfold drop at h;split at h
    ·cases h
    ·exact(q3 i hi).2 _ _ _ _ _ h
   ·unfold ztO;split
    ·rename_i x;simp only[zaN]at h5;obtain⟨v,rest,rfl,h7,rfl⟩:=h5;simpa using h7
    ·rename_i hx;have hl:=zaN.length _ _ h5;rw[dif_neg (by
      intro e;simp at e;rw[hl]at e
      match xs,e with
      | [x],_=>exact hx x rfl)]
     simp only[zaL];exact⟨us,rfl,h5⟩
   ·intro j o' ho;rcases q4 j o' ho with h7 | ⟨o,u,x,a1,a2,a3,a4,a5,a6⟩ | ⟨a1,x,o,a2,a3,a4,a5⟩ | ⟨cs,vs,cs',vs',a1,rfl⟩
    ·exact .inl h7
    ·refine .inr ⟨o,a1,?_⟩;have b1:zaL Oi W F η x (vs.getD u undef):=by
      have: ∀(xs:List AV) (vs:List Value) (u:Nat),zaN Oi W F η xs vs->xs[u]? =some x->zaL Oi W F η x (vs.getD u undef):=by
       intro xs
       induction xs with
       | nil=>intro vs u _ h; simp at h
       | cons y ys ih=>
        intro vs u h hu;simp only[zaN]at h;obtain⟨v,rest,rfl,h8,h9⟩:=h;cases u with
        | zero=>simp at hu; subst hu; simpa using h8
        | succ u=>simpa using ih rest u h9 (by simpa using hu)
      exact this args vs u hvs a3
     have b2:=ht2 u;rw[a5,hpin u a2]at b2;have ho2:σ'.objs j=some o':=by
      unfold drop at ho;split at ho
      ·cases ho
      ·exact ho
     have:=zyK b1 b2 a4 a1 ho2 a6;cases o <;> cases o' <;> exact this
    ·refine .inr ⟨o,a4,?_⟩;have ho2:σ'.objs j=some o':=by
      unfold drop at ho;split at ho
      ·cases ho
      ·exact ho
     obtain⟨v,b1,b2⟩:=zHi hst (hm.obj G _ a1).2 x a2;have:=zFN b1 b2 a3 a4 ho2 a5;cases o <;> cases o' <;> exact this
    ·exact .inr ⟨_,a1,trivial⟩
  ·exact hq.elim
 cases e with
 | normal=>exact hret hq
 | ret=>exact hret hq
 | exit id=>exact hq.elim
 | goto l=>exact hq.elim
 | panic ch=>
  obtain⟨v,rfl,hv⟩:=hq;show LeavesInM _ _ _ _ _ _ a.defers _ W1;rw[hdf];simp only[Ctx.more,List.append_nil];refine leavesP Ds W1 hnd (fun D hD=>(hm1.hid (D,_) (by simp[Ctx.more]; exact hD)).1) (fun W' o1 o2 o3 o4 o5=> ?_);obtain⟨hm,hF⟩:=hm1.hidden (c':=⟨P,N0,W,F,O0,[],[],fun _=>undef,[]⟩) ⟨rfl,rfl,rfl⟩ o1 o2 o3 (by omega) (fun b _ hb=>o5 b (fun hD=>hb (b,.deferred (some [])) (by simp[Ctx.more]; exact hD) rfl)) (by simp) (by simp);exact .inr ⟨v,_,_,_,rfl,hv,hm.lose⟩
 | outgrown=>exact hq.elim

noncomputable def zAt(P:Program)(rs:Array ResultVar)(pins:List Nat)(args:List AV)(os:OL)(PL:AV->OL->List Nat->Prop)(PX:Value->Prop)(G:Nat)(hs:List AV)(gs:List Value):EQ
 | .ret,t,o=>zAF P rs pins args os PL G hs gs t o
 | .normal,t,o=>zAF P rs pins args os PL G hs gs t o
 | .panic ch,_,_=> ∃v,ch=[{v:=v,recovered:=false}]/\PX v
 | _,_,_=>False
theorem zBL.of_eH(G:Nat)(hs:List AV){P:Program}{f:Nat}{fn:Func}{code:Code}{args:List AV}{os:OL}{PL:AV->OL->List Nat->Prop}{PX:Value->Prop}(L:Nat->List Gh){own:List (Nat×List (TypeId×Nat))}(pins:List Nat)(hmix:P.follows .mixedOrders =true)(hf:P.funcs[f]? =some fn)(hb:fn.body=some code)
  (hc: ∀as W,(callFunc f as).run P W= .ok (.enter f as) W) {N:Nat} (hN:fn.ntmps=N) (hN':args.length<=N) {rs:Array ResultVar} (hrs:fn.results=rs) (hG:(zyk G os/\AV.noRefs [G] args)/\zCV (om os) hs/\AV.noRefs [G] hs)
  (h: ∀gs:List Value,eC P ⟨N,pins,true,own,fun v _=>PX v⟩ L code (zAt P rs pins args os PL PX G hs gs) (zpL 0 args) ((G,.gh hs gs)::os)):zBL P f args os PL PX:=by
 subst hN;subst hrs;refine FnX.introH G hs pins own hf hb (fun W as=>hc as W) hN' (zyr hG.1.1).1 (zyr hG.1.1).2 hG.1.2 hG.2.1 hG.2.2 (fun gs=> ?_);rw[<-zyN];refine AWp.mono (zBm hmix code _ _ _ (fun v _ hv=>⟨v,rfl,hv⟩) (h gs)) ?_;rintro e σ ⟨t,o,rfl,h1⟩;have key:zAF P fn.results pins args os PL G hs gs t o-> ∃l new,match zHj P ⟨tm t,om o⟩ l fn.results.toList with
   | some (vc,xs)=>vc/\(∃ol,drop (om o) l=om ol/\PL (ztO xs) ol new)/\(∀i∈new,om os i=none/\ ∀lim fam stop l rest,om o i≠some (.ext lim fam stop l rest))/\
     ∀j o',drop (om o) l j=some o'->j∈new\/(∃o u x,om os j=some o/\u∈pins/\args[u]? =some x/\x.handle=some j/\tm t u=x/\zht x o o')\/
      (om o G=some (.gh hs gs)/\ ∃x oi,x∈hs/\hdl x=some j/\om os j=some oi/\zpC x oi o')\/ ∃cs vs cs' vs',om os j=some (.gh cs vs)/\o'= .gh cs' vs'
   | none=>False:=by
  rintro⟨l,new,h2⟩;refine⟨l,new,?_⟩;unfold zAi at h2;split at h2
  ·rename_i vc xs hr;obtain⟨h3,h4,h5,h6⟩:=h2;rw[hr];exact⟨h3,⟨_,ze2 l o,h4⟩,zyE h5,fun j o' ho=>hdH_ok h6 j o' (by rw[<-ze2]; exact ho)⟩
  ·exact h2.elim
 cases e with
 | ret=>exact key h1
 | normal=>exact key h1
 | panic ch=>exact h1
 | _=>exact h1.elim

theorem zBL.srt{P:Program}{f:FuncId}{args:List AV}{os:OL}{PL:AV->OL->List Nat->Prop}{PX:Value->Prop}(h:zBL P f args os (fun V ol new=>PL V (zAp ol) new) PX):zBL P f args os PL PX:=by
 refine⟨h.1,fun W F O0 η S vs hm hO hr=>Calls.mono (h.2 W F O0 η S vs hm hO hr) ?_⟩;rintro e W' (⟨v,V,Oo,new,F',η',S',a1,⟨ol,a2,a3⟩,a4⟩ | h)
 ·exact .inl ⟨v,V,Oo,new,F',η',S',a1,⟨zAp ol,by rw[om_srtO]; exact a2,a3⟩,a4⟩
 ·exact .inr h
theorem zBL.mono{P:Program}{f:FuncId}{args:List AV}{os:OL}{PL PL':AV->OL->List Nat->Prop}{PX PX':Value->Prop}(h:zBL P f args os PL PX)(h1: ∀V ol new,PL V ol new->PL' V ol new)(h2: ∀v,PX v->PX' v):zBL P f args os PL' PX':=by
 refine⟨h.1,fun W F O0 η S vs hm hO hr=>Calls.mono (h.2 W F O0 η S vs hm hO hr) ?_⟩;rintro e W' (⟨v,V,Oo,new,F',η',S',a1,⟨ol,a2,a3⟩,a4⟩ | ⟨v,F',η',S',a1,a2,a3⟩)
 ·exact .inl ⟨v,V,Oo,new,F',η',S',a1,⟨ol,a2,h1 _ _ _ a3⟩,a4⟩
 ·exact .inr ⟨v,F',η',S',a1,h2 _ a2,a3⟩
end Go.Aw
