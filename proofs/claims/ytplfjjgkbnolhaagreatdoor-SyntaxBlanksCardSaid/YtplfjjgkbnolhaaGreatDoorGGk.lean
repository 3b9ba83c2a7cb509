/- Machinery. Conditions: those of each. -/
import Derived.Test.YtplfjjgkbnolhaaGreatDoorGGh
set_option linter.unusedSimpArgs false
set_option linter.unusedVariables false
/-
 FUNCTIONS WHOSE OBJECTS STAY: objects that are handed over (variables, arrays) and are named by no pinned argument stay what they were, which a ghost object remembers by their handles.
 Conditions: those of AxGh; nothing handed over names the ghost.
-/
namespace Go.Aw
open Go.RowKit

def zCV(O:zbI):List AV->Prop
 | []=>True
 | x::r=>(match x with | .bp j 0=>(match O j with | some (.box _)=>True | _=>False) | .ar j n=>(match O j with | some (.arr _ _ _ es)=>n<=es.length | _=>False) | _=>False)/\zCV O r
def hv(η:Nat->Value):AV->Value
 | .bp j _=>η j
 | .ar j _=>η j
 | _=>undef
theorem hnTup{c:Ctx}{O:zbI}{W:World}{F:Nat->Prop}{η:Nat->Value}{S:Nat->List Nat}{p:Prop}{a:Array Value}(hm:Mem c O W F η S): ∀hs:List AV,zCV O hs->Value.tuple a∈hs.map (hv η)->p
 | [],_,h=>by simp at h
 | x::r,⟨h1,h2⟩,h=>by
  rcases List.mem_cons.1 h with h | h
  ·cases x with
   | bp j off=>
    cases off with
    | succ _=>exact h1.elim
    | zero=>
     cases ho:O j with
     | none=>simp[ho]at h1
     | some o=>
      cases o with
      | box cs=>
       obtain⟨b,cur,e,g1,_⟩:=hm.obj j _ ho;simp only[hv,g1]at h;cases h
      | _=>simp[ho]at h1
   | ar j n=>
    cases ho:O j with
    | none=>simp[ho]at h1
    | some o=>
     cases o with
     | arr e k dep es=>
      have: ∃a n c,η j= .slice a n c:=by
       obtain⟨C,_,_,⟨⟨ad,g1⟩,_⟩ | ⟨b,cap,_,_,g1,_⟩⟩:=zj1.arr (hm.obj j _ ho)
       ·exact⟨_,_,_,g1⟩
       ·exact⟨_,_,_,g1⟩
      obtain⟨_,_,_,g1⟩:=this;simp only[hv,g1]at h;cases h
     | _=>simp[ho]at h1
   | _=>exact h1.elim
  ·exact hnTup hm r h2 h
theorem hnRel{c:Ctx}{O:zbI}{W:World}{F:Nat->Prop}{η:Nat->Value}{S:Nat->List Nat}(hm:Mem c O W F η S): ∀hs:List AV,zCV O hs->zaN O W F η hs (hs.map (hv η))
 | [],_=>by simp only[List.map_nil,zaN]
 | x::r,h=>by
  simp only[zCV]at h;simp only[List.map_cons,zaN];refine⟨_,_,rfl,?_,hnRel hm r h.2⟩;have h1:=h.1;split at h1
  ·simp only[zaL,hv];intro cs hcs;obtain⟨b,cur,e,h3,_⟩:=hm.obj _ _ hcs;exact⟨b,h3,h3⟩
  ·simp only[zaL,hv];intro e k dep es ho;rw[ho]at h1;exact⟨h1,fun _=>trivial⟩
  ·exact h1.elim
theorem zHi{O O':zbI}{W W':World}{F F':Nat->Prop}{η η':Nat->Value}: ∀ {hs:List AV} {gs:List Value},zaN O W F η hs gs->zaN O' W' F' η' hs gs-> ∀x∈hs,∃v,zaL O W F η x v/\zaL O' W' F' η' x v
 | [],_,_,_,x,hx=>by cases hx
 | y::hs,gs,h,h',x,hx=>by
  simp only[zaN]at h h';obtain⟨v,r,rfl,h1,h2⟩:=h;obtain⟨v',r',e,h3,h4⟩:=h';obtain⟨rfl,rfl⟩:=List.cons.inj e;rcases List.mem_cons.1 hx with rfl | hx
  ·exact⟨_,h1,h3⟩
  ·exact zHi h2 h4 x hx
def retGH(P:Program)(rs:Array ResultVar)(pins:List Nat)(args:List AV)(Oi:zbI)(Post:AV->zbI->List Nat->Prop)(G:Nat)(hs:List AV)(gs:List Value):Exit->St->Prop:=fun e σ=>
 match e with
 | .ret | .normal => ∃l new,match zHj P σ l rs.toList with
  | some (vc,xs)=>vc/\Post (ztO xs) (drop σ.objs l) new/\(∀i∈new,Oi i=none/\ ∀lim fam stop l rest,σ.objs i≠some (.ext lim fam stop l rest))/\
    ∀j o',drop σ.objs l j=some o'->j∈new\/(∃o u x,Oi j=some o/\u∈pins/\args[u]? =some x/\x.handle=some j/\σ.tmps u=x/\zht x o o')\/
     (σ.objs G=some (.gh hs gs)/\ ∃x o,x∈hs/\hdl x=some j/\Oi j=some o/\zpC x o o')\/ ∃cs vs cs' vs',Oi j=some (.gh cs vs)/\o'= .gh cs' vs'
  | none=>False
 | _=>False
theorem Mem.ghostH{c:Ctx}{O:zbI}{W:World}{F:Nat->Prop}{η:Nat->Value}{S:Nat->List Nat}(hm:Mem c O W F η S){G:Nat}{hs:List AV}(hG0:O G=none)(hG: ∀id o,O id=some o->o.noRef [G])(hok:zCV O hs)(hGh:AV.noRefs [G] hs):
  Mem c (upd O G (some (.gh hs (hs.map (hv η))))) W F η S/\za7 O (upd O G (some (.gh hs (hs.map (hv η))))) η η [G]:=by
 have hkp:za7 O (upd O G (some (.gh hs (hs.map (hv η))))) η η [G]:=by
  intro id o' ho;unfold upd at ho;split at ho
  ·rename_i e; left; simp[e]
  ·rcases za7.refl O η id o' ho with h | h
   ·cases h
   ·exact .inr h
 have hF: ∀b,F b->F b/\W.heap[b]? =W.heap[b]? :=fun b hb=>⟨hb,rfl⟩;have hold: ∀id o,upd O G (some (.gh hs (hs.map (hv η)))) id=some o->(id=G/\o= .gh hs (hs.map (hv η)))\/(id≠G/\O id=some o):=by
  intro id o ho;unfold upd at ho;split at ho
  ·rename_i e; exact .inl ⟨e,(Option.some.inj ho).symm⟩
  ·rename_i e; exact .inr ⟨e,ho⟩
 refine⟨⟨hm.os,hm.tape,hm.output,hm.size,hm.old,hm.f0,hm.flt,hm.fold,?_,?_,hm.apart,hm.sep,hm.nd,hm.hid,?_,hm.zd⟩,hkp⟩
 ·intro id o ho;rcases hold id o ho with⟨rfl,rfl⟩ | ⟨_,h⟩
  ·exact⟨⟨hm.gone _ hG0,fun b cells hv=>hnTup hm hs hok hv⟩,zaN.pres hkp hF hs _ hGh (hnRel hm hs hok)⟩
  ·refine zj1.mono hkp hF (hG id o h) (fun _ _=>rfl) (fun lim fam stop l rest _=> ?_) (hm.obj id o h);exact⟨rfl,rfl,rfl,Nat.le_refl _,hF,fun _ _=>rfl,fun b hb=>(hm.apart _ b hb).1,hm.flt,fun _ _=>rfl,fun b hb _=>hb⟩
 ·intro id ho;unfold upd at ho;split at ho
  ·cases ho
  ·exact hm.gone id ho
 ·intro id lim fam stop l rest ho;rcases hold id _ ho with⟨_,h⟩ | ⟨_,h⟩
  ·cases h
  ·exact hm.lim id _ _ _ _ _ h

theorem FnG.introH(G:Nat)(hs:List AV)(pins:List Nat)(own:List (Nat×List (TypeId×Nat))){P:Program}{f:Nat}{fn:Func}{code:Code}{args:List AV}{Oi:zbI}{Post:AV->zbI->List Nat->Prop}(hf:P.funcs[f]? =some fn)(hb:fn.body=some code)
  (hc: ∀W as,(callFunc f as).run P W= .ok (.enter f as) W) (hN:args.length<=fn.ntmps) (hG0:Oi G=none) (hG: ∀id o,Oi id=some o->o.noRef [G]) (hGa:AV.noRefs [G] args) (hok:zCV Oi hs) (hGh:AV.noRefs [G] hs)
  (h: ∀gs:List Value,AWp P ⟨fn.ntmps,pins,true,own,fun _ _=>False⟩ code (retGH P fn.results pins args Oi Post G hs gs) ⟨tm (zpL 0 args),upd Oi G (some (.gh hs gs))⟩):FnG P f args Oi Post:=by
 refine⟨hc,fun W F O0 η S vs hm hO0 hvs=> ?_⟩;have hlen:=zaN.length _ _ hvs;obtain⟨hm',hkp⟩:=hm.ghostH (hs:=hs) hG0 hG hok hGh;have hst:=hnRel hm hs hok;have hvs':=zaN.pres hkp (fun b hb=>⟨hb,rfl⟩) args vs hGa hvs;refine callsIn_wide.1 (callsIn_of_wp_marks (n:=0) hf hb trivial ?_);have ev: ∀t,(vs.toArray++Array.replicate (fn.ntmps-vs.toArray.size) undef).getD t undef=vs.getD t undef:=by
  intro t;rw[Array.getD_eq_getD_getElem?,Array.getElem?_append];by_cases ht:t<vs.length
  ·simp[ht,List.getD]
  ·simp only[List.size_toArray,ht,if_false,Array.getElem?_replicate,List.getD];rw[List.getElem?_eq_none (by omega)];split <;> rfl
 have hr:Rel ⟨P,⟨fn.ntmps,pins,true,own,fun _ _=>False⟩,W,F,O0,[],[],fun t=>vs.getD t undef,[]⟩ ⟨tm (zpL 0 args),upd Oi G (some (.gh hs (hs.map (hv η))))⟩ {tmps:=vs.toArray++Array.replicate (fn.ntmps-vs.toArray.size) undef,defers:=[]} W:=by
  refine⟨⟨by simp[hlen]; omega,fun t _=>ev t⟩,rfl,F,η,S,hm'.same rfl rfl rfl rfl rfl,fun t=> ?_⟩;have:=zwa args vs 0 hvs' t;simp only[Nat.zero_le,if_true,Nat.sub_zero]at this;simp only[ev];exact this
 refine wpIn_mono (h (hs.map (hv η)) none 0 _ (fun _=>rfl) rfl rfl _ _ hr) ?_;rintro e a W1 ⟨σ',hq,Ds,⟨hnd,_⟩,⟨hsz,hpin⟩,hdf,F',η1,S1,hm1,ht1⟩;have hret:(∃l new,match zHj P σ' l fn.results.toList with
   | some (vc,xs)=>vc/\Post (ztO xs) (drop σ'.objs l) new/\(∀i∈new,Oi i=none/\ ∀lim fam stop l rest,σ'.objs i≠some (.ext lim fam stop l rest))/\
     ∀j o',drop σ'.objs l j=some o'->j∈new\/(∃o u x,Oi j=some o/\u∈pins/\args[u]? =some x/\x.handle=some j/\σ'.tmps u=x/\zht x o o')\/
      (σ'.objs G=some (.gh hs (hs.map (hv η)))/\ ∃x o,x∈hs/\hdl x=some j/\Oi j=some o/\zpC x o o')\/ ∃cs vs cs' vs',Oi j=some (.gh cs vs)/\o'= .gh cs' vs'
   | none=>False)->LeavesInM Fence.wide 0 P fn a.tmps (fun e W'=> ∃v V Oo new F' η' S',e= .returned v/\Post V Oo new/\(∀i∈new,∀lim fam stop l rest,Oo i≠some (.ext lim fam stop l rest))/\Mem ⟨P,N0,W,F,O0,[],[],fun _=>undef,[]⟩ Oo W' F' η' S'/\zaL Oo W' F' η' V v/\za7 Oi Oo η η' new) a.defers .returning W1:=by
  rintro⟨l,new,hq⟩;split at hq
  ·rename_i vc xs h1;obtain⟨q1,q2,q3,q4⟩:=hq;rw[hdf];simp only[Ctx.more,List.append_nil];refine zyL Ds W1 hnd (fun D hD=>(hm1.hid (D,_) (by simp[Ctx.more]; exact hD)).1) (fun W' o1 o2 o3 o4 o5=> ?_);obtain⟨hm,hF⟩:=hm1.hidden (c':=⟨P,N0,W,F,O0,[],[],fun _=>undef,[]⟩) ⟨rfl,rfl,rfl⟩ o1 o2 o3 (by omega) (fun b _ hb=>o5 b (fun hD=>hb (b,.deferred (some [])) (by simp[Ctx.more]; exact hD) rfl)) (by simp) (by simp);have ht2: ∀t,zaL σ'.objs W' F' η1 (σ'.tmps t) (a.tmps.getD t undef):=fun t=>zaL.pres (za7.refl _ _) hF _ _ (AV.noRef_nil _) (ht1 t);obtain⟨us,h4,h5⟩:=zy8 (c:=⟨P,N0,W,F,O0,[],[],fun _=>undef,[]⟩) hm ht2 fn.results.toList vc xs h1 q1;have h6:(results fn a.tmps).run P W'= .ok (if h:us.toArray.size=1 then us.toArray[0]else .tuple us.toArray) W':=by
    unfold results;rw[Array.mapM_eq_mapM_toList];simp only[Sem.run_bind,Sem.run_map,Sem.run_pure];exact congrArg (fun r:Result (List Value)=>(r.andThen fun a w'=>Result.ok a.toArray w').andThen fun a w'=>Result.ok (if h:a.size=1 then a[0]else Value.tuple a) w') h4
   obtain⟨m1,m2⟩:=hm.dropL (W':=W') (F':=fun b=>F' b\/ ∃id∈l,b∈S1 id) l (Below.refl _ _) (fun b hb=>.inl hb) (fun b hb=>by
    rcases hb with hb | hb
    ·exact .inl hb
    ·exact .inr (.inr hb))
   refine⟨_,h6,_,ztO xs,drop σ'.objs l,new,_,_,_,rfl,q2,fun i hi lim fam stop l' rest h=> ?_,m1,?_,?_⟩
   ·unfold drop at h;split at h
    ·cases h
    ·exact(q3 i hi).2 _ _ _ _ _ h
   ·unfold ztO;split
    ·rename_i x;simp only[zaN]at h5;obtain⟨v,rest,rfl,h7,rfl⟩:=h5;simpa using h7
    ·rename_i hx;have hl:=zaN.length _ _ h5;rw[dif_neg (by
      intro e;simp at e;rw[hl]at e
      match xs,e with
      | [x],_=>exact hx x rfl)]
     simp only[zaL];exact⟨us,rfl,h5⟩
   ·intro j o' ho;rcases q4 j o' ho with h7 | ⟨o,u,x,a1,a2,a3,a4,a5,a6⟩ | ⟨a1,x,o,a2,a3,a4,a5⟩ | ⟨cs,vs,cs',vs',a1,rfl⟩
    ·exact .inl h7
    ·refine .inr ⟨o,a1,?_⟩;have b1:zaL Oi W F η x (vs.getD u undef):=by
      have: ∀(xs:List AV) (vs:List Value) (u:Nat),zaN Oi W F η xs vs->xs[u]? =some x->zaL Oi W F η x (vs.getD u undef):=by
       intro xs
       induction xs with
       | nil=>intro vs u _ h; simp at h
       | cons y ys ih=>
        intro vs u h hu;simp only[zaN]at h;obtain⟨v,rest,rfl,h8,h9⟩:=h;cases u with
        | zero=>simp at hu; subst hu; simpa using h8
        | succ u=>simpa using ih rest u h9 (by simpa using hu)
      exact this args vs u hvs a3
     have b2:=ht2 u;rw[a5,hpin u a2]at b2;have ho2:σ'.objs j=some o':=by
      unfold drop at ho;split at ho
      ·cases ho
      ·exact ho
     have:=zyK b1 b2 a4 a1 ho2 a6;cases o <;> cases o' <;> exact this
    ·refine .inr ⟨o,a4,?_⟩;have ho2:σ'.objs j=some o':=by
      unfold drop at ho;split at ho
      ·cases ho
      ·exact ho
     obtain⟨v,b1,b2⟩:=zHi hst (hm.obj G _ a1).2 x a2;have:=zFN b1 b2 a3 a4 ho2 a5;cases o <;> cases o' <;> exact this
    ·exact .inr ⟨_,a1,trivial⟩
  ·exact hq.elim
 cases e with
 | normal=>exact hret hq
 | ret=>exact hret hq
 | exit id=>exact hq.elim
 | goto l=>exact hq.elim
 | panic ch=>exact hq.elim
 | outgrown=>exact hq.elim

def kpH(os:OL)(G:Nat)(hs:List AV)(gs:List Value)(j:Nat)(o':AO)(o:OL):List AV->Prop
 | []=>False
 | x::r=>((hdl x=some j/\om o G=some (.gh hs gs))/\(match om os j with | some oi=>zpC x oi o' | none=>False))\/kpH os G hs gs j o' o r
def ghK(os:OL)(j:Nat)(o':AO):Prop:=match om os j,o' with | some (.gh ..),.gh .. =>True | _,_=>False
def hdH(args:List AV)(pins:List Nat)(os:OL)(t:TL)(new:List Nat)(G:Nat)(hs:List AV)(gs:List Value)(oe:OL):OL->Prop
 | []=>True
 | (j,o')::r=>(j∈new\/(match om os j with | some oi=>hdOne args t j oi o' pins | none=>False)\/kpH os G hs gs j o' oe hs\/ghK os j o')/\hdH args pins os t new G hs gs oe r
noncomputable def zAi(P:Program)(rs:Array ResultVar)(pins:List Nat)(args:List AV)(os:OL)(PL:AV->OL->List Nat->Prop)(G:Nat)(hs:List AV)(gs:List Value)(l new:List Nat)(r:Option (Prop×List AV))(t:TL)(o:OL):Prop:=
 match r with
 | some (vc,xs)=>vc/\PL (ztO xs) (zdb l o) new/\zIp new os o/\hdH args pins os t new G hs gs o (zdb l o)
 | none=>False
def zAF(P:Program)(rs:Array ResultVar)(pins:List Nat)(args:List AV)(os:OL)(PL:AV->OL->List Nat->Prop)(G:Nat)(hs:List AV)(gs:List Value)(t:TL)(o:OL):Prop:=
 ∃l new,zAi P rs pins args os PL G hs gs l new (zHj P ⟨tm t,om o⟩ l rs.toList) t o
noncomputable def zAj(P:Program)(rs:Array ResultVar)(pins:List Nat)(args:List AV)(os:OL)(PL:AV->OL->List Nat->Prop)(G:Nat)(hs:List AV)(gs:List Value):EQ
 | .ret,t,o=>zAF P rs pins args os PL G hs gs t o
 | .normal,t,o=>zAF P rs pins args os PL G hs gs t o
 | _,_,_=>False
theorem kpH_ok{os:OL}{G:Nat}{hs:List AV}{gs:List Value}{j:Nat}{o':AO}{o:OL}: ∀ {r:List AV},kpH os G hs gs j o' o r->om o G=some (.gh hs gs)/\ ∃x oi,x∈r/\hdl x=some j/\om os j=some oi/\zpC x oi o'
 | [],h=>h.elim
 | x::r,h=>by
  simp only[kpH]at h;rcases h with⟨⟨h1,h2⟩,h3⟩ | h
  ·split at h3
   ·rename_i oi hoi;exact⟨h2,x,oi,by simp,h1,hoi,h3⟩
   ·exact h3.elim
  ·obtain⟨h1,y,oi,h2,h3⟩:=kpH_ok h;exact⟨h1,y,oi,by simp[h2],h3⟩
theorem hdH_ok{args:List AV}{pins:List Nat}{os:OL}{t:TL}{new:List Nat}{G:Nat}{hs:List AV}{gs:List Value}{oe:OL}: ∀ {ol:OL},hdH args pins os t new G hs gs oe ol-> ∀j o',om ol j=some o'->
  j∈new\/(∃o u x,om os j=some o/\u∈pins/\args[u]? =some x/\x.handle=some j/\tm t u=x/\zht x o o')\/(om oe G=some (.gh hs gs)/\ ∃x oi,x∈hs/\hdl x=some j/\om os j=some oi/\zpC x oi o')\/ ∃cs vs cs' vs',om os j=some (.gh cs vs)/\o'= .gh cs' vs'
 | [],_,j,o',h=>by simp[om]at h
 | (k,y)::r,h,j,o',ho=>by
  simp only[hdH]at h;simp only[om]at ho;split at ho
  ·rename_i e;cases ho;subst e;rcases h.1 with h1 | h1 | h1 | h1
   ·exact .inl h1
   ·split at h1
    ·rename_i oi hoi;obtain⟨u,x,h2⟩:=zy4 h1;exact .inr (.inl ⟨oi,u,x,hoi,h2⟩)
    ·exact h1.elim
   ·exact .inr (.inr (.inl (kpH_ok h1)))
   ·unfold ghK at h1;cases hoi:om os j with
    | none=>rw[hoi]at h1; exact h1.elim
    | some oi=>
     rw[hoi]at h1;cases oi with
     | gh cs vs=>
      cases y with
      | gh cs' vs'=>exact .inr (.inr (.inr ⟨_,_,_,_,rfl,rfl⟩))
      | _=>exact h1.elim
     | _=>exact h1.elim
  ·exact hdH_ok h.2 j o' ho
theorem FnL.of_eH(G:Nat)(hs:List AV){P:Program}{f:Nat}{fn:Func}{code:Code}{args:List AV}{os:OL}{PL:AV->OL->List Nat->Prop}(L:Nat->List Gh){own:List (Nat×List (TypeId×Nat))}(pins:List Nat)(hmix:P.follows .mixedOrders =true)(hf:P.funcs[f]? =some fn)(hb:fn.body=some code)
  (hc: ∀as W,(callFunc f as).run P W= .ok (.enter f as) W) {N:Nat} (hN:fn.ntmps=N) (hN':args.length<=N) {rs:Array ResultVar} (hrs:fn.results=rs) (hG:(zyk G os/\AV.noRefs [G] args)/\zCV (om os) hs/\AV.noRefs [G] hs)
  (h: ∀gs:List Value,eC P ⟨N,pins,true,own,fun _ _=>False⟩ L code (zAj P rs pins args os PL G hs gs) (zpL 0 args) ((G,.gh hs gs)::os)):FnL P f args os PL:=by
 subst hN;subst hrs;refine FnG.introH G hs pins own hf hb (fun W as=>hc as W) hN' (zyr hG.1.1).1 (zyr hG.1.1).2 hG.1.2 hG.2.1 hG.2.2 (fun gs=> ?_);rw[<-zyN];refine AWp.mono (zfz hmix code _ _ _ (h gs)) ?_;rintro e σ ⟨t,o,rfl,h1⟩;have key:zAF P fn.results pins args os PL G hs gs t o-> ∃l new,match zHj P ⟨tm t,om o⟩ l fn.results.toList with
   | some (vc,xs)=>vc/\(∃ol,drop (om o) l=om ol/\PL (ztO xs) ol new)/\(∀i∈new,om os i=none/\ ∀lim fam stop l rest,om o i≠some (.ext lim fam stop l rest))/\
     ∀j o',drop (om o) l j=some o'->j∈new\/(∃o u x,om os j=some o/\u∈pins/\args[u]? =some x/\x.handle=some j/\tm t u=x/\zht x o o')\/
      (om o G=some (.gh hs gs)/\ ∃x oi,x∈hs/\hdl x=some j/\om os j=some oi/\zpC x oi o')\/ ∃cs vs cs' vs',om os j=some (.gh cs vs)/\o'= .gh cs' vs'
   | none=>False:=by
  rintro⟨l,new,h2⟩;refine⟨l,new,?_⟩;unfold zAi at h2;split at h2
  ·rename_i vc xs hr;obtain⟨h3,h4,h5,h6⟩:=h2;exact⟨h3,⟨_,ze2 l o,h4⟩,zyE h5,fun j o' ho=>hdH_ok h6 j o' (by rw[<-ze2]; exact ho)⟩
  ·exact h2.elim
 cases e with
 | ret=>exact key h1
 | normal=>exact key h1
 | _=>exact h1.elim
end Go.Aw
