/- Machinery. Conditions: those of each. -/
import Derived.Test.YtbenhdgpogiadaaGreatGI
set_option linter.unusedSimpArgs false
set_option linter.unusedVariables false
/-
 FUNCTIONS WHOSE BOXES STAY: boxes that are handed over and are named by no pinned argument stay where they are, which a ghost object remembers.
 Conditions: those of AwH and AwI; nothing handed over names the ghost.
-/
namespace Go.Aw
open Go.RowKit

def retGK(P:Program)(rs:Array ResultVar)(pins:List Nat)(args:List AV)(Oi:zbI)(Post:AV->zbI->List Nat->Prop)(G:Nat)(ks:List Nat)(gs:List Value):Exit->St->Prop:=fun e σ=>
 match e with
 | .ret | .normal => ∃l new,match resG P σ l rs.toList with
  | some (vc,xs)=>vc/\Post (ztO xs) (drop σ.objs l) new/\(∀i∈new,Oi i=none/\ ∀lim fam stop l rest,σ.objs i≠some (.ext lim fam stop l rest))/\
    ∀j o',drop σ.objs l j=some o'->j∈new\/(∃o u x,Oi j=some o/\u∈pins/\args[u]? =some x/\x.handle=some j/\σ.tmps u=x/\zht x o o')\/
     (j∈ks/\σ.objs G=some (.gh (ks.map fun i=>.bp i 0) gs)/\(∃cs,Oi j=some (.box cs))/\ ∃cs,o'= .box cs)
  | none=>False
 | _=>False

theorem ghost_rel{O:zbI}{W:World}{F:Nat->Prop}{η η':Nat->Value}: ∀ {ks:List Nat},(∀j∈ks,zaL O W F η' (.bp j 0) (η j))->zaN O W F η' (ks.map fun i=>.bp i 0) (ks.map η)
 | [],_=>by simp only[List.map_nil,zaN]
 | k::ks,h=>by
  simp only[List.map_cons,zaN];exact⟨_,_,rfl,h k (by simp),ghost_rel fun j hj=>h j (by simp[hj])⟩
theorem zyx{O:zbI}{W:World}{F:Nat->Prop}{η η':Nat->Value}: ∀ {ks:List Nat},zaN O W F η' (ks.map fun i=>.bp i 0) (ks.map η)-> ∀j∈ks,zaL O W F η' (.bp j 0) (η j)
 | [],_,_,hj=>by cases hj
 | k::ks,h,j,hj=>by
  simp only[List.map_cons,zaN]at h;obtain⟨v,rest,h1,h2,h3⟩:=h;obtain⟨rfl,rfl⟩:=List.cons.inj h1;rcases List.mem_cons.1 hj with rfl | hj
  ·exact h2
  ·exact zyx h3 j hj

theorem Mem.ghost{c:Ctx}{O:zbI}{W:World}{F:Nat->Prop}{η:Nat->Value}{S:Nat->List Nat}(hm:Mem c O W F η S){G:Nat}{ks:List Nat}(hG0:O G=none)(hG: ∀id o,O id=some o->o.noRef [G]):
  Mem c (upd O G (some (.gh (ks.map fun i=>.bp i 0) (ks.map η)))) W F η S/\za7 O (upd O G (some (.gh (ks.map fun i=>.bp i 0) (ks.map η)))) η η [G]:=by
 have hkp:za7 O (upd O G (some (.gh (ks.map fun i=>.bp i 0) (ks.map η)))) η η [G]:=by
  intro id o' ho;unfold upd at ho;split at ho
  ·rename_i e; left; simp[e]
  ·rcases za7.refl O η id o' ho with h | h
   ·cases h
   ·exact .inr h
 have hF: ∀b,F b->F b/\W.heap[b]? =W.heap[b]? :=fun b hb=>⟨hb,rfl⟩;have hold: ∀id o,upd O G (some (.gh (ks.map fun i=>.bp i 0) (ks.map η))) id=some o->(id=G/\o= .gh (ks.map fun i=>.bp i 0) (ks.map η))\/(id≠G/\O id=some o):=by
  intro id o ho;unfold upd at ho;split at ho
  ·rename_i e; exact .inl ⟨e,(Option.some.inj ho).symm⟩
  ·rename_i e; exact .inr ⟨e,ho⟩
 refine⟨⟨hm.os,hm.tape,hm.output,hm.size,hm.old,hm.f0,hm.flt,hm.fold,?_,?_,hm.apart,hm.sep,hm.nd,hm.hid,?_,hm.zd⟩,hkp⟩
 ·intro id o ho;rcases hold id o ho with⟨rfl,rfl⟩ | ⟨_,h⟩
  ·refine⟨hm.gone _ hG0,ghost_rel fun j _=> ?_⟩;simp only[zaL];intro cs hcs;rcases hold j _ hcs with⟨_,h⟩ | ⟨_,h⟩
   ·cases h
   ·obtain⟨b,cur,e,h1,_⟩:=hm.obj j _ h;exact⟨b,h1,h1⟩
  ·refine zj1.mono hkp hF (hG id o h) (fun _ _=>rfl) (fun lim fam stop l rest _=> ?_) (hm.obj id o h);exact⟨rfl,rfl,rfl,Nat.le_refl _,hF,fun _ _=>rfl,fun b hb=>(hm.apart _ b hb).1,hm.flt,fun _ _=>rfl,fun b hb _=>hb⟩
 ·intro id ho;unfold upd at ho;split at ho
  ·cases ho
  ·exact hm.gone id ho
 ·intro id lim fam stop l rest ho;rcases hold id _ ho with⟨_,h⟩ | ⟨_,h⟩
  ·cases h
  ·exact hm.lim id _ _ _ _ _ h

theorem FnG.introK(G:Nat)(ks:List Nat)(pins:List Nat)(own:List (Nat×List (TypeId×Nat))){P:Program}{f:Nat}{fn:Func}{code:Code}{args:List AV}{Oi:zbI}{Post:AV->zbI->List Nat->Prop}(hf:P.funcs[f]? =some fn)(hb:fn.body=some code)
  (hc: ∀W as,(callFunc f as).run P W= .ok (.enter f as) W) (hN:args.length<=fn.ntmps) (hG0:Oi G=none) (hG: ∀id o,Oi id=some o->o.noRef [G]) (hGa:AV.noRefs [G] args)
  (h: ∀gs:List Value,AWp P ⟨fn.ntmps,pins,true,own⟩ code (retGK P fn.results pins args Oi Post G ks gs) ⟨tm (zpL 0 args),upd Oi G (some (.gh (ks.map fun i=>.bp i 0) gs))⟩):FnG P f args Oi Post:=by
 refine⟨hc,fun W F O0 η S vs hm hO0 hvs=> ?_⟩;have hlen:=zaN.length _ _ hvs;obtain⟨hm',hkp⟩:=hm.ghost (ks:=ks) hG0 hG;have hvs':=zaN.pres hkp (fun b hb=>⟨hb,rfl⟩) args vs hGa hvs;refine callsIn_wide.1 (callsIn_of_wp_marks (n:=0) hf hb trivial ?_);have ev: ∀t,(vs.toArray++Array.replicate (fn.ntmps-vs.toArray.size) undef).getD t undef=vs.getD t undef:=by
  intro t;rw[Array.getD_eq_getD_getElem?,Array.getElem?_append];by_cases ht:t<vs.length
  ·simp[ht,List.getD]
  ·simp only[List.size_toArray,ht,if_false,Array.getElem?_replicate,List.getD];rw[List.getElem?_eq_none (by omega)];split <;> rfl
 have hr:Rel ⟨P,⟨fn.ntmps,pins,true,own⟩,W,F,O0,[],[],fun t=>vs.getD t undef⟩ ⟨tm (zpL 0 args),upd Oi G (some (.gh (ks.map fun i=>.bp i 0) (ks.map η)))⟩ {tmps:=vs.toArray++Array.replicate (fn.ntmps-vs.toArray.size) undef,defers:=[]} W:=by
  refine⟨⟨by simp[hlen]; omega,fun t _=>ev t⟩,rfl,F,η,S,hm'.same rfl rfl rfl rfl rfl,fun t=> ?_⟩;have:=zwa args vs 0 hvs' t;simp only[Nat.zero_le,if_true,Nat.sub_zero]at this;simp only[ev];exact this
 refine wpIn_mono (h (ks.map η) none 0 _ (fun _=>rfl) rfl rfl _ _ hr) ?_;rintro e a W1 ⟨σ',hq,Ds,⟨hnd,_⟩,⟨hsz,hpin⟩,hdf,F',η1,S1,hm1,ht1⟩;have hret:(∃l new,match resG P σ' l fn.results.toList with
   | some (vc,xs)=>vc/\Post (ztO xs) (drop σ'.objs l) new/\(∀i∈new,Oi i=none/\ ∀lim fam stop l rest,σ'.objs i≠some (.ext lim fam stop l rest))/\
     ∀j o',drop σ'.objs l j=some o'->j∈new\/(∃o u x,Oi j=some o/\u∈pins/\args[u]? =some x/\x.handle=some j/\σ'.tmps u=x/\zht x o o')\/
      (j∈ks/\σ'.objs G=some (.gh (ks.map fun i=>.bp i 0) (ks.map η))/\(∃cs,Oi j=some (.box cs))/\ ∃cs,o'= .box cs)
   | none=>False)->LeavesInM Fence.wide 0 P fn a.tmps (fun e W'=> ∃v V Oo new F' η' S',e= .returned v/\Post V Oo new/\(∀i∈new,∀lim fam stop l rest,Oo i≠some (.ext lim fam stop l rest))/\Mem ⟨P,N0,W,F,O0,[],[],fun _=>undef⟩ Oo W' F' η' S'/\zaL Oo W' F' η' V v/\za7 Oi Oo η η' new) a.defers .returning W1:=by
  rintro⟨l,new,hq⟩;split at hq
  ·rename_i vc xs h1;obtain⟨q1,q2,q3,q4⟩:=hq;rw[hdf];simp only[Ctx.more,List.append_nil];refine zyL Ds W1 hnd (fun D hD=>(hm1.hid (D,_) (by simp[Ctx.more]; exact hD)).1) (fun W' o1 o2 o3 o4 o5=> ?_);obtain⟨hm,hF⟩:=hm1.hidden (c':=⟨P,N0,W,F,O0,[],[],fun _=>undef⟩) ⟨rfl,rfl,rfl⟩ o1 o2 o3 (by omega) (fun b _ hb=>o5 b (fun hD=>hb (b,.deferred (some [])) (by simp[Ctx.more]; exact hD) rfl)) (by simp) (by simp);have ht2: ∀t,zaL σ'.objs W' F' η1 (σ'.tmps t) (a.tmps.getD t undef):=fun t=>zaL.pres (za7.refl _ _) hF _ _ (AV.noRef_nil _) (ht1 t);obtain⟨us,h4,h5⟩:=zy8 (c:=⟨P,N0,W,F,O0,[],[],fun _=>undef⟩) hm ht2 fn.results.toList vc xs h1 q1;have h6:(results fn a.tmps).run P W'= .ok (if h:us.toArray.size=1 then us.toArray[0]else .tuple us.toArray) W':=by
    unfold results;rw[Array.mapM_eq_mapM_toList];simp only[Sem.run_bind,Sem.run_map,Sem.run_pure];exact congrArg (fun r:Result (List Value)=>(r.andThen fun a w'=>Result.ok a.toArray w').andThen fun a w'=>Result.ok (if h:a.size=1 then a[0]else Value.tuple a) w') h4
   obtain⟨m1,m2⟩:=hm.dropL (W':=W') (F':=fun b=>F' b\/ ∃id∈l,b∈S1 id) l (Below.refl _ _) (fun b hb=>.inl hb) (fun b hb=>by
    rcases hb with hb | hb
    ·exact .inl hb
    ·exact .inr (.inr hb))
   refine⟨_,h6,_,ztO xs,drop σ'.objs l,new,_,_,_,rfl,q2,fun i hi lim fam stop l' rest h=> ?_,m1,?_,?_⟩
   ·unfold drop at h;split at h
    ·cases h
    ·exact(q3 i hi).2 _ _ _ _ _ h
   ·unfold ztO;split
    ·rename_i x;simp only[zaN]at h5;obtain⟨v,rest,rfl,h7,rfl⟩:=h5;simpa using h7
    ·rename_i hx;have hl:=zaN.length _ _ h5;rw[dif_neg (by
      intro e;simp at e;rw[hl]at e
      match xs,e with
      | [x],_=>exact hx x rfl)]
     simp only[zaL];exact⟨us,rfl,h5⟩
   ·intro j o' ho;rcases q4 j o' ho with h7 | ⟨o,u,x,a1,a2,a3,a4,a5,a6⟩ | ⟨a1,a2,⟨cs,a3⟩,cs',rfl⟩
    ·exact .inl h7
    ·refine .inr ⟨o,a1,?_⟩;have b1:zaL Oi W F η x (vs.getD u undef):=by
      have: ∀(xs:List AV) (vs:List Value) (u:Nat),zaN Oi W F η xs vs->xs[u]? =some x->zaL Oi W F η x (vs.getD u undef):=by
       intro xs
       induction xs with
       | nil=>intro vs u _ h; simp at h
       | cons y ys ih=>
        intro vs u h hu;simp only[zaN]at h;obtain⟨v,rest,rfl,h8,h9⟩:=h;cases u with
        | zero=>simp at hu; subst hu; simpa using h8
        | succ u=>simpa using ih rest u h9 (by simpa using hu)
      exact this args vs u hvs a3
     have b2:=ht2 u;rw[a5,hpin u a2]at b2;have ho2:σ'.objs j=some o':=by
      unfold drop at ho;split at ho
      ·cases ho
      ·exact ho
     have:=zyK b1 b2 a4 a1 ho2 a6;cases o <;> cases o' <;> exact this
    ·refine .inr ⟨_,a3,?_⟩;have ho2:σ'.objs j=some (.box cs'):=by
      unfold drop at ho;split at ho
      ·cases ho
      ·exact ho
     have b1:zaL σ'.objs W' F' η1 (.bp j 0) (η j):=zyx (hm.obj G _ a2).2 j a1;simp only[zaL]at b1;obtain⟨b,e1,e2⟩:=b1 _ ho2;exact e1.trans e2.symm
  ·exact hq.elim
 cases e with
 | normal=>exact hret hq
 | ret=>exact hret hq
 | exit id=>exact hq.elim
 | goto l=>exact hq.elim
 | panic ch=>exact hq.elim
 | outgrown=>exact hq.elim

def kpOne(os:OL)(G:Nat)(ks:List Nat)(gs:List Value)(j:Nat)(o':AO)(o:OL):Prop:=
 j∈ks/\(match om os j,o' with | some (.box _),.box _=>True | _,_=>False)/\om o G=some (.gh (ks.map fun i=>.bp i 0) gs)
def hdK(args:List AV)(pins:List Nat)(os:OL)(t:TL)(new:List Nat)(G:Nat)(ks:List Nat)(gs:List Value)(oe:OL):OL->Prop
 | []=>True
 | (j,o')::r=>(j∈new\/(match om os j with | some oi=>hdOne args t j oi o' pins | none=>False)\/kpOne os G ks gs j o' oe)/\hdK args pins os t new G ks gs oe r
noncomputable def eRetK(P:Program)(rs:Array ResultVar)(pins:List Nat)(args:List AV)(os:OL)(PL:AV->OL->List Nat->Prop)(G:Nat)(ks:List Nat)(gs:List Value)(l new:List Nat)(r:Option (Prop×List AV))(t:TL)(o:OL):Prop:=
 match r with
 | some (vc,xs)=>vc/\PL (ztO xs) (zdb l o) new/\newOk new os o/\hdK args pins os t new G ks gs o (zdb l o)
 | none=>False
def ERetK(P:Program)(rs:Array ResultVar)(pins:List Nat)(args:List AV)(os:OL)(PL:AV->OL->List Nat->Prop)(G:Nat)(ks:List Nat)(gs:List Value)(t:TL)(o:OL):Prop:=
 ∃l new,eRetK P rs pins args os PL G ks gs l new (resG P ⟨tm t,om o⟩ l rs.toList) t o
noncomputable def retKE(P:Program)(rs:Array ResultVar)(pins:List Nat)(args:List AV)(os:OL)(PL:AV->OL->List Nat->Prop)(G:Nat)(ks:List Nat)(gs:List Value):EQ
 | .ret,t,o=>ERetK P rs pins args os PL G ks gs t o
 | .normal,t,o=>ERetK P rs pins args os PL G ks gs t o
 | _,_,_=>False
theorem hdK_ok{args:List AV}{pins:List Nat}{os:OL}{t:TL}{new:List Nat}{G:Nat}{ks:List Nat}{gs:List Value}{oe:OL}: ∀ {ol:OL},hdK args pins os t new G ks gs oe ol-> ∀j o',om ol j=some o'->
  j∈new\/(∃o u x,om os j=some o/\u∈pins/\args[u]? =some x/\x.handle=some j/\tm t u=x/\zht x o o')\/(j∈ks/\om oe G=some (.gh (ks.map fun i=>.bp i 0) gs)/\(∃cs,om os j=some (.box cs))/\ ∃cs,o'= .box cs)
 | [],_,j,o',h=>by simp[om]at h
 | (k,y)::r,h,j,o',ho=>by
  simp only[hdK]at h;simp only[om]at ho;split at ho
  ·rename_i e;cases ho;subst e;rcases h.1 with h1 | h1 | ⟨h1,h2,h3⟩
   ·exact .inl h1
   ·split at h1
    ·rename_i oi hoi;obtain⟨u,x,h2⟩:=zy4 h1;exact .inr (.inl ⟨oi,u,x,hoi,h2⟩)
    ·exact h1.elim
   ·split at h2
    ·rename_i cs cs' hoi;exact .inr (.inr ⟨h1,h3,⟨_,hoi⟩,_,rfl⟩)
    ·exact h2.elim
  ·exact hdK_ok h.2 j o' ho
theorem zyN{G:Nat}{x:AO}{os:OL}:om ((G,x)::os)=upd (om os) G (some x):=by
 funext j;simp only[om,upd]
def zyk(G:Nat):OL->Prop
 | []=>True
 | (i,x)::r=>(i≠G/\x.noRef [G])/\zyk G r
theorem zyr{G:Nat}: ∀ {os:OL},zyk G os->om os G=none/\ ∀id o,om os id=some o->o.noRef [G]
 | [],_=>⟨rfl,fun _ _ h=>by simp[om]at h⟩
 | (i,x)::r,h=>by
  obtain⟨⟨h1,h2⟩,h3⟩:=h;obtain⟨h4,h5⟩:=zyr h3;refine⟨by simp only[om]; rw[if_neg (Ne.symm h1)]; exact h4,fun id o ho=> ?_⟩;simp only[om]at ho;split at ho
  ·cases ho; exact h2
  ·exact h5 id o ho
theorem FnL.of_eK(G:Nat)(ks:List Nat){P:Program}{f:Nat}{fn:Func}{code:Code}{args:List AV}{os:OL}{PL:AV->OL->List Nat->Prop}(L:Nat->List Gh){own:List (Nat×List (TypeId×Nat))}(pins:List Nat)(hmix:P.follows .mixedOrders =true)(hf:P.funcs[f]? =some fn)(hb:fn.body=some code)
  (hc: ∀as W,(callFunc f as).run P W= .ok (.enter f as) W) {N:Nat} (hN:fn.ntmps=N) (hN':args.length<=N) {rs:Array ResultVar} (hrs:fn.results=rs) (hG:zyk G os/\AV.noRefs [G] args)
  (h: ∀gs:List Value,eC P ⟨N,pins,true,own⟩ L code (retKE P rs pins args os PL G ks gs) (zpL 0 args) ((G,.gh (ks.map fun i=>.bp i 0) gs)::os)):FnL P f args os PL:=by
 subst hN;subst hrs;refine FnG.introK G ks pins own hf hb (fun W as=>hc as W) hN' (zyr hG.1).1 (zyr hG.1).2 hG.2 (fun gs=> ?_);rw[<-zyN];refine AWp.mono (zfz hmix code _ _ _ (h gs)) ?_;rintro e σ ⟨t,o,rfl,h1⟩;have key:ERetK P fn.results pins args os PL G ks gs t o-> ∃l new,match resG P ⟨tm t,om o⟩ l fn.results.toList with
   | some (vc,xs)=>vc/\(∃ol,drop (om o) l=om ol/\PL (ztO xs) ol new)/\(∀i∈new,om os i=none/\ ∀lim fam stop l rest,om o i≠some (.ext lim fam stop l rest))/\
     ∀j o',drop (om o) l j=some o'->j∈new\/(∃o u x,om os j=some o/\u∈pins/\args[u]? =some x/\x.handle=some j/\tm t u=x/\zht x o o')\/
      (j∈ks/\om o G=some (.gh (ks.map fun i=>.bp i 0) gs)/\(∃cs,om os j=some (.box cs))/\ ∃cs,o'= .box cs)
   | none=>False:=by
  rintro⟨l,new,h2⟩;refine⟨l,new,?_⟩;unfold eRetK at h2;split at h2
  ·rename_i vc xs hr;obtain⟨h3,h4,h5,h6⟩:=h2;exact⟨h3,⟨_,ze2 l o,h4⟩,zyE h5,fun j o' ho=>hdK_ok h6 j o' (by rw[<-ze2]; exact ho)⟩
  ·exact h2.elim
 cases e with
 | ret=>exact key h1
 | normal=>exact key h1
 | _=>exact h1.elim
end Go.Aw
