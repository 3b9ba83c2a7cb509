/- Machinery. Conditions: those of each. -/
import Derived.Test.YtplfjjgkbnolhaaGreatDoorGC
set_option linter.unusedSimpArgs false
set_option linter.unusedVariables false
/-
 FUNCTIONS THAT ARE HANDED OWN OBJECTS, OUT OF THEIR BODIES; RANGES OVER ITERATORS.
 Conditions: those of each law; over any program.
-/
namespace Go.Aw
open Go.RowKit

theorem Mem.same{c c':Ctx}{O:zbI}{W:World}{F:Nat->Prop}{η:Nat->Value}{S:Nat->List Nat}(h:Mem c O W F η S)(e1:c'.W0=c.W0)(e2:c'.F0=c.F0)(e3:c'.O0=c.O0)(e4:c'.Z=c.Z)(e5:c'.ds=c.ds):Mem c' O W F η S:=by
 obtain⟨P,N,W0,F0,O0,Z,ds,pv⟩:=c;obtain⟨P',N',W0',F0',O0',Z',ds',pv'⟩:=c';simp only at e1 e2 e3 e4 e5;subst e1 e2 e3 e4 e5;exact⟨h.1,h.2,h.3,h.4,h.5,h.6,h.7,h.8,h.9,h.10,h.11,h.12,h.13,h.14,h.15,h.16⟩

def zpL:Nat->List AV->List (Nat×AV)
 | _,[]=>[]
 | i,x::xs=>(i,x)::zpL (i+1) xs
theorem zwa{O:zbI}{W:World}{F:Nat->Prop}{η:Nat->Value}: ∀(xs:List AV) (vs:List Value) (i:Nat),zaN O W F η xs vs-> ∀t,zaL O W F η (tm (zpL i xs) t) (if i<=t then vs.getD (t-i) undef else undef)
 | [],vs,i,_,t=>by simp only[zpL,tm,zaL]
 | x::xs,vs,i,h,t=>by
  simp only[zaN]at h;obtain⟨v,rest,rfl,h1,h2⟩:=h;simp only[zpL,tm];by_cases ht:t=i
  ·subst ht; simpa using h1
  ·rw[if_neg ht];have:=zwa xs rest (i+1) h2 t;by_cases hle:i<=t
   ·rw[if_pos hle];rw[if_pos (by omega)]at this;rw[show t-i=(t-(i+1))+1 by omega];simpa using this
   ·rw[if_neg hle];rw[if_neg (by omega)]at this;exact this

def coreH(x r:AV):AV:=
 match x with
 | .mo id=>.mo id
 | _=>r
def coreL:List AV->AV
 | []=>.dead
 | x::xs=>coreH x (coreL xs)
def AV.core:AV->AV
 | .agg cs=>coreL cs
 | x=>x
def hdl:AV->Option Nat
 | .ar id _ | .bp id _ | .mo id | .yv id=>some id
 | _=>none
def AV.handle(x:AV):Option Nat:=hdl x.core
def zpC(x:AV)(o o':AO):Prop:=
 match x,o,o' with
 | .bp _ _,.box _,.box _=>True
 | .ar _ n,.arr e k _ es,.arr e' k' _ _=>e=e'/\k=k'/\n=es.length
 | .mo _,.map ..,.map .. =>True
 | .mo _,.it ..,.it .. =>True
 | .mo _,.sit ..,.sit .. =>True
 | .yv _,.ext lim _ _ _ _,.ext lim' _ _ _ _=>lim=lim'
 | _,_,_=>False
def zht(x:AV)(o o':AO):Prop:=zpC x.core o o'
def selA(O:zbI)(l:List Nat):AV->Option (Prop×AV)
 | .ar id n=>if id∈l then(frz O (.ar id n)).map fun r=>(r.1/\ ∀i∈r.2.2,i∈l,.d r.2.1)else some (True,.ar id n)
 | .mo id=>if id∈l then(frz O (.mo id)).map fun r=>(r.1/\ ∀i∈r.2.2,i∈l,.d r.2.1)else some (True,.mo id)
 | .bp id off=>if id∈l then(frz O (.bp id off)).map fun r=>(r.1/\ ∀i∈r.2.2,i∈l,.d r.2.1)else some (True,.bp id off)
 | x=>(frz O x).map fun r=>(r.1/\ ∀i∈r.2.2,i∈l,.d r.2.1)
noncomputable def zHj(P:Program)(σ:St)(l:List Nat):List ResultVar->Option (Prop×List AV)
 | []=>some (True,[])
 | r::rs=>match rsv P σ r with
  | some (p,V)=>match selA σ.objs l V,zHj P σ l rs with
   | some (q,x),some (p',xs)=>some (p/\q/\p',x::xs)
   | _,_=>none
  | none=>none
def ztO:List AV->AV
 | [x]=>x
 | xs=>.tup xs
def retGQ(P:Program)(rs:Array ResultVar)(pins:List Nat)(args:List AV)(Oi:zbI)(Post:AV->zbI->List Nat->Prop):Exit->St->Prop:=fun e σ=>
 match e with
 | .ret | .normal => ∃l new,match zHj P σ l rs.toList with
  | some (vc,xs)=>vc/\Post (ztO xs) (drop σ.objs l) new/\(∀i∈new,Oi i=none/\ ∀lim fam stop l rest,σ.objs i≠some (.ext lim fam stop l rest))/\
    ∀j o',drop σ.objs l j=some o'->j∈new\/ ∃o u x,Oi j=some o/\u∈pins/\args[u]? =some x/\x.handle=some j/\σ.tmps u=x/\zht x o o'
  | none=>False
 | _=>False

theorem selA_rel{c:Ctx}{O:zbI}{W:World}{F:Nat->Prop}{η:Nat->Value}{S:Nat->List Nat}(hm:Mem c O W F η S){l:List Nat}{x y:AV}{v:Value}{p:Prop}(h:zaL O W F η x v)(hs:selA O l x=some (p,y))(hp:p):
  zaL (drop O l) W (fun b=>F b\/ ∃id∈l,b∈S id) η y v:=by
 have hF: ∀b,F b->(F b\/ ∃id∈l,b∈S id)/\W.heap[b]? =W.heap[b]? :=fun b hb=>⟨.inl hb,rfl⟩;have key: ∀r:Option (Prop×D×List Nat),frz O x=r->r.map (fun r=>(r.1/\ ∀i∈r.2.2,i∈l,AV.d r.2.1))=some (p,y)->zaL (drop O l) W (fun b=>F b\/ ∃id∈l,b∈S id) η y v:=by
  intro r hr h1;rw[Option.map_eq_some_iff]at h1;obtain⟨r',rfl,h2⟩:=h1;simp only[Prod.mk.injEq]at h2;obtain⟨rfl,rfl⟩:=h2;exact zsO (F':=fun b=>F b\/ ∃id∈l,b∈S id) hm (fun b hb=>.inl hb) x v r' h hr hp.1 (fun id hid b hb=>.inr ⟨id,hp.2 id hid,hb⟩)
 have keep:some (True,x)=some (p,y)->zaL (drop O l) W (fun b=>F b\/ ∃id∈l,b∈S id) η y v:=by
  intro h1;simp only[Option.some.injEq,Prod.mk.injEq]at h1;obtain⟨_,rfl⟩:=h1;exact zaL.pres (za7.drop O η l) hF _ _ (AV.noRef_nil _) h
 unfold selA at hs;split at hs
 ·split at hs
  ·exact key _ rfl hs
  ·exact keep hs
 ·split at hs
  ·exact key _ rfl hs
  ·exact keep hs
 ·split at hs
  ·exact key _ rfl hs
  ·exact keep hs
 ·exact key _ rfl hs

def resF(a:Act)(r:ResultVar):Sem Value:=match r with | .tmp t=>(pure (a.tmps.getD t undef):Sem Value) | .cell ad t=>do loadVar t (<-asAddr (a.tmps.getD ad undef))
theorem zy8{c:Ctx}{σ:St}{a:Act}{W:World}{F:Nat->Prop}{η:Nat->Value}{S:Nat->List Nat}(hm:Mem c σ.objs W F η S)(ht: ∀t,zaL σ.objs W F η (σ.tmps t) (a.tmps.getD t undef)){l:List Nat}:
  ∀(rs:List ResultVar) (vc:Prop) (xs:List AV),zHj c.P σ l rs=some (vc,xs)->vc->
  ∃vs,(rs.mapM (resF a)).run c.P W= .ok vs W/\zaN (drop σ.objs l) W (fun b=>F b\/ ∃id∈l,b∈S id) η xs vs
 | [],vc,xs,h,_=>by
  simp only[zHj,Option.some.injEq,Prod.mk.injEq]at h;obtain⟨_,rfl⟩:=h;exact⟨[],by simp,by simp only[zaN]⟩
 | r::rs,vc,xs,h,hvc=>by
  simp only[zHj]at h;split at h
  ·rename_i p V h1;split at h
   ·rename_i q x p' xs' h2 h3;simp only[Option.some.injEq,Prod.mk.injEq]at h;obtain⟨rfl,rfl⟩:=h;obtain⟨v,h4,h5⟩:=rsv_run hm ht h1 hvc.1;obtain⟨vs,h6,h7⟩:=zy8 hm ht rs p' xs' h3 hvc.2.2;refine⟨v::vs,?_,?_⟩
    ·have h4':(resF a r).run c.P W= .ok v W:=h4;simp only[List.mapM_cons,Sem.run_bind,h4',Result.andThen_ok,h6,Sem.run_pure]
    ·simp only[zaN];exact⟨v,vs,rfl,selA_rel hm h5 h2 hvc.2.1,h7⟩
   ·cases h
  ·cases h

def keptR(u v:Value)(o o':AO):Prop:=
 match o,o' with
 | .box _,.box _=>v=u
 | .map ..,.map .. =>v=u
 | .it ..,.it .. =>v=u
 | .sit ..,.sit .. =>v=u
 | .ext lim _ _ l _,.ext lim' _ _ l' _=>lim=lim'/\l=l'
 | .gh ..,.gh .. =>True
 | .arr e k _ es,.arr e' k' _ es'=>es.length<=es'.length/\(es.length=es'.length->e=e'/\k=k'/\v=u)
 | _,_=>False
theorem coreL_rel{O O':zbI}{W W':World}{F F':Nat->Prop}{η η':Nat->Value}: ∀(cs:List AV) (vs:List Value),zaN O W F η cs vs->zaN O' W' F' η' cs vs-> ∃v,zaL O W F η (coreL cs) v/\zaL O' W' F' η' (coreL cs) v
 | [],_,_,_=>⟨undef,by simp only[coreL,zaL],by simp only[coreL,zaL]⟩
 | x::xs,vs,h,h'=>by
  simp only[zaN]at h h';obtain⟨v,rest,rfl,h1,h2⟩:=h;obtain⟨v',rest',e,h3,h4⟩:=h';obtain⟨rfl,rfl⟩:=List.cons.inj e;cases x with
  | mo id=>exact⟨v,h1,h3⟩
  | _=>exact coreL_rel xs rest h2 h4
theorem core_rel{O O':zbI}{W W':World}{F F':Nat->Prop}{η η':Nat->Value}{x:AV}{v:Value}(h:zaL O W F η x v)(h':zaL O' W' F' η' x v): ∃v,zaL O W F η x.core v/\zaL O' W' F' η' x.core v:=by
 cases x with
 | agg cs=>
  simp only[zaL]at h h';obtain⟨vs,rfl,h2⟩:=h;obtain⟨vs',e,h4⟩:=h';simp only[Value.agg.injEq]at e;have:vs=vs':=by simpa using e
  subst this;exact coreL_rel cs vs h2 h4
 | _=>exact⟨v,h,h'⟩
theorem zFN{O O':zbI}{W W':World}{F F':Nat->Prop}{η η':Nat->Value}{x:AV}{v:Value}{j:Nat}{o o':AO}(h1:zaL O W F η x v)(h2:zaL O' W' F' η' x v)(hx:hdl x=some j)(ho:O j=some o)(ho':O' j=some o')(hs:zpC x o o'):keptR (η j) (η' j) o o':=by
 unfold zpC at hs;split at hs
 ·simp only[hdl,Option.some.injEq]at hx;subst hx;simp only[zaL]at h1 h2;obtain⟨b,a1,a2⟩:=h1 _ ho;obtain⟨b',a3,a4⟩:=h2 _ ho';rw[a2]at a4;simp only[Value.pointer.injEq,Option.some.injEq,Addr.mk.injEq,and_true]at a4;simp only[keptR];rw[a1,a3,a4]
 ·obtain⟨rfl,rfl,rfl⟩:=hs;simp only[hdl,Option.some.injEq]at hx;subst hx;simp only[zaL]at h1 h2;obtain⟨_,a2⟩:=h1 _ _ _ _ ho;obtain⟨b1,b2⟩:=h2 _ _ _ _ ho';exact⟨b1,fun e=>⟨rfl,rfl,(b2 e).symm.trans (a2 rfl)⟩⟩
 ·simp only[hdl,Option.some.injEq]at hx;subst hx;simp only[zaL]at h1 h2;exact(h2 _ ho' rfl).symm.trans (h1 _ ho rfl)
 ·simp only[hdl,Option.some.injEq]at hx;subst hx;simp only[zaL]at h1 h2;exact(h2 _ ho' rfl).symm.trans (h1 _ ho rfl)
 ·simp only[hdl,Option.some.injEq]at hx;subst hx;simp only[zaL]at h1 h2;exact(h2 _ ho' rfl).symm.trans (h1 _ ho rfl)
 ·simp only[hdl,Option.some.injEq]at hx;subst hx;subst hs;simp only[zaL]at h1 h2;have:=(h1 _ _ _ _ _ ho).symm.trans (h2 _ _ _ _ _ ho');simp only[Value.func.injEq,Fn.yield.injEq,and_true]at this;exact⟨rfl,this⟩
 ·exact hs.elim

theorem zyK{O O':zbI}{W W':World}{F F':Nat->Prop}{η η':Nat->Value}{x:AV}{v:Value}{j:Nat}{o o':AO}(h1:zaL O W F η x v)(h2:zaL O' W' F' η' x v)(hx:x.handle=some j)(ho:O j=some o)(ho':O' j=some o')(hs:zht x o o'):keptR (η j) (η' j) o o':=by
 obtain⟨u,a1,a2⟩:=core_rel h1 h2;exact zFN a1 a2 hx ho ho' hs

theorem FnG.intro'(pins:List Nat)(own:List (Nat×List (TypeId×Nat))){P:Program}{f:Nat}{fn:Func}{code:Code}{args:List AV}{Oi:zbI}{Post:AV->zbI->List Nat->Prop}(hf:P.funcs[f]? =some fn)(hb:fn.body=some code)
  (hc: ∀W as,(callFunc f as).run P W= .ok (.enter f as) W) (hN:args.length<=fn.ntmps) (h:AWp P ⟨fn.ntmps,pins,true,own,fun _ _=>False⟩ code (retGQ P fn.results pins args Oi Post) ⟨tm (zpL 0 args),Oi⟩):FnG P f args Oi Post:=by
 refine⟨hc,fun W F O0 η S vs hm hO0 hvs=> ?_⟩;have hlen:=zaN.length _ _ hvs;refine callsIn_wide.1 (callsIn_of_wp_marks (n:=0) hf hb trivial ?_);have ev: ∀t,(vs.toArray++Array.replicate (fn.ntmps-vs.toArray.size) undef).getD t undef=vs.getD t undef:=by
  intro t;rw[Array.getD_eq_getD_getElem?,Array.getElem?_append];by_cases ht:t<vs.length
  ·simp[ht,List.getD]
  ·simp only[List.size_toArray,ht,if_false,Array.getElem?_replicate,List.getD];rw[List.getElem?_eq_none (by omega)];split <;> rfl
 have hr:Rel ⟨P,⟨fn.ntmps,pins,true,own,fun _ _=>False⟩,W,F,O0,[],[],fun t=>vs.getD t undef,[]⟩ ⟨tm (zpL 0 args),Oi⟩ {tmps:=vs.toArray++Array.replicate (fn.ntmps-vs.toArray.size) undef,defers:=[]} W:=by
  refine⟨⟨by simp[hlen]; omega,fun t _=>ev t⟩,rfl,F,η,S,hm.same rfl rfl rfl rfl rfl,fun t=> ?_⟩;have:=zwa args vs 0 hvs t;simp only[Nat.zero_le,if_true,Nat.sub_zero]at this;simp only[ev];exact this
 refine wpIn_mono (h none 0 _ (fun _=>rfl) rfl rfl _ _ hr) ?_;rintro e a W1 ⟨σ',hq,Ds,⟨hnd,_⟩,⟨hsz,hpin⟩,hdf,F',η1,S1,hm1,ht1⟩;have hret:(∃l new,match zHj P σ' l fn.results.toList with
   | some (vc,xs)=>vc/\Post (ztO xs) (drop σ'.objs l) new/\(∀i∈new,Oi i=none/\ ∀lim fam stop l rest,σ'.objs i≠some (.ext lim fam stop l rest))/\
     ∀j o',drop σ'.objs l j=some o'->j∈new\/ ∃o u x,Oi j=some o/\u∈pins/\args[u]? =some x/\x.handle=some j/\σ'.tmps u=x/\zht x o o'
   | none=>False)->LeavesInM Fence.wide 0 P fn a.tmps (fun e W'=> ∃v V Oo new F' η' S',e= .returned v/\Post V Oo new/\(∀i∈new,∀lim fam stop l rest,Oo i≠some (.ext lim fam stop l rest))/\Mem ⟨P,N0,W,F,O0,[],[],fun _=>undef,[]⟩ Oo W' F' η' S'/\zaL Oo W' F' η' V v/\za7 Oi Oo η η' new) a.defers .returning W1:=by
  rintro⟨l,new,hq⟩;split at hq
  ·rename_i vc xs h1;obtain⟨q1,q2,q3,q4⟩:=hq;rw[hdf];simp only[Ctx.more,List.append_nil];refine zyL Ds W1 hnd (fun D hD=>(hm1.hid (D,_) (by simp[Ctx.more]; exact hD)).1) (fun W' o1 o2 o3 o4 o5=> ?_);obtain⟨hm,hF⟩:=hm1.hidden (c':=⟨P,N0,W,F,O0,[],[],fun _=>undef,[]⟩) ⟨rfl,rfl,rfl⟩ o1 o2 o3 (by omega) (fun b _ hb=>o5 b (fun hD=>hb (b,.deferred (some [])) (by simp[Ctx.more]; exact hD) rfl)) (by simp) (by simp);have ht2: ∀t,zaL σ'.objs W' F' η1 (σ'.tmps t) (a.tmps.getD t undef):=fun t=>zaL.pres (za7.refl _ _) hF _ _ (AV.noRef_nil _) (ht1 t);obtain⟨us,h4,h5⟩:=zy8 (c:=⟨P,N0,W,F,O0,[],[],fun _=>undef,[]⟩) hm ht2 fn.results.toList vc xs h1 q1;have h6:(results fn a.tmps).run P W'= .ok (if h:us.toArray.size=1 then us.toArray[0]else .tuple us.toArray) W':=by
    unfold results;rw[Array.mapM_eq_mapM_toList];simp only[Sem.run_bind,Sem.run_map,Sem.run_pure];exact congrArg (fun r:Result (List Value)=>(r.andThen fun a w'=>Result.ok a.toArray w').andThen fun a w'=>Result.ok (if h:a.size=1 then a[0]else Value.tuple a) w') h4
   obtain⟨m1,m2⟩:=hm.dropL (W':=W') (F':=fun b=>F' b\/ ∃id∈l,b∈S1 id) l (Below.refl _ _) (fun b hb=>.inl hb) (fun b hb=>by
    rcases hb with hb | hb
    ·exact .inl hb
    ·exact .inr (.inr hb))
   refine⟨_,h6,_,ztO xs,drop σ'.objs l,new,_,_,_,rfl,q2,fun i hi lim fam stop l' rest h=> ?_,m1,?_,?_⟩
   ·unfold drop at h;split at h
    ·cases h
    ·exact(q3 i hi).2 _ _ _ _ _ h
   ·unfold ztO;split
    ·rename_i x;simp only[zaN]at h5;obtain⟨v,rest,rfl,h7,rfl⟩:=h5;simpa using h7
    ·rename_i hx;have hl:=zaN.length _ _ h5;rw[dif_neg (by
      intro e;simp at e;rw[hl]at e
      match xs,e with
      | [x],_=>exact hx x rfl)]
     simp only[zaL];exact⟨us,rfl,h5⟩
   ·intro j o' ho;rcases q4 j o' ho with h7 | ⟨o,u,x,a1,a2,a3,a4,a5,a6⟩
    ·exact .inl h7
    ·refine .inr ⟨o,a1,?_⟩;have b1:zaL Oi W F η x (vs.getD u undef):=by
      have: ∀(xs:List AV) (vs:List Value) (u:Nat),zaN Oi W F η xs vs->xs[u]? =some x->zaL Oi W F η x (vs.getD u undef):=by
       intro xs
       induction xs with
       | nil=>intro vs u _ h; simp at h
       | cons y ys ih=>
        intro vs u h hu;simp only[zaN]at h;obtain⟨v,rest,rfl,h8,h9⟩:=h;cases u with
        | zero=>simp at hu; subst hu; simpa using h8
        | succ u=>simpa using ih rest u h9 (by simpa using hu)
      exact this args vs u hvs a3
     have b2:=ht2 u;rw[a5,hpin u a2]at b2;have ho2:σ'.objs j=some o':=by
      unfold drop at ho;split at ho
      ·cases ho
      ·exact ho
     have:=zyK b1 b2 a4 a1 ho2 a6;cases o <;> cases o' <;> exact this
  ·exact hq.elim
 cases e with
 | normal=>exact hret hq
 | ret=>exact hret hq
 | exit id=>exact hq.elim
 | goto l=>exact hq.elim
 | panic ch=>exact hq.elim
 | outgrown=>exact hq.elim
def retXQ(P:Program)(rs:Array ResultVar)(pins:List Nat)(args:List AV)(Oi:zbI)(Post:AV->zbI->List Nat->Prop)(PX:Value->Prop):Exit->St->Prop:=fun e σ=>
 match e with
 | .panic ch=> ∃v,ch=[{v:=v,recovered:=false}]/\PX v
 | e=>retGQ P rs pins args Oi Post e σ
theorem FnX.intro'(pins:List Nat)(own:List (Nat×List (TypeId×Nat))){P:Program}{f:Nat}{fn:Func}{code:Code}{args:List AV}{Oi:zbI}{Post:AV->zbI->List Nat->Prop}{PX:Value->Prop}(hf:P.funcs[f]? =some fn)(hb:fn.body=some code)
  (hc: ∀W as,(callFunc f as).run P W= .ok (.enter f as) W) (hN:args.length<=fn.ntmps) (h:AWp P ⟨fn.ntmps,pins,true,own,fun v _=>PX v⟩ code (retXQ P fn.results pins args Oi Post PX) ⟨tm (zpL 0 args),Oi⟩):FnX P f args Oi Post PX:=by
 refine⟨hc,fun W F O0 η S vs hm hO0 hvs=> ?_⟩;have hlen:=zaN.length _ _ hvs;refine callsIn_wide.1 (callsIn_of_wp_marks (n:=0) hf hb trivial ?_);have ev: ∀t,(vs.toArray++Array.replicate (fn.ntmps-vs.toArray.size) undef).getD t undef=vs.getD t undef:=by
  intro t;rw[Array.getD_eq_getD_getElem?,Array.getElem?_append];by_cases ht:t<vs.length
  ·simp[ht,List.getD]
  ·simp only[List.size_toArray,ht,if_false,Array.getElem?_replicate,List.getD];rw[List.getElem?_eq_none (by omega)];split <;> rfl
 have hr:Rel ⟨P,⟨fn.ntmps,pins,true,own,fun v _=>PX v⟩,W,F,O0,[],[],fun t=>vs.getD t undef,[]⟩ ⟨tm (zpL 0 args),Oi⟩ {tmps:=vs.toArray++Array.replicate (fn.ntmps-vs.toArray.size) undef,defers:=[]} W:=by
  refine⟨⟨by simp[hlen]; omega,fun t _=>ev t⟩,rfl,F,η,S,hm.same rfl rfl rfl rfl rfl,fun t=> ?_⟩;have:=zwa args vs 0 hvs t;simp only[Nat.zero_le,if_true,Nat.sub_zero]at this;simp only[ev];exact this
 refine wpIn_mono (h none 0 _ (fun _=>rfl) rfl rfl _ _ hr) ?_;rintro e a W1 ⟨σ',hq,Ds,⟨hnd,_⟩,⟨hsz,hpin⟩,hdf,F',η1,S1,hm1,ht1⟩;have hret:(∃l new,match zHj P σ' l fn.results.toList with
   | some (vc,xs)=>vc/\Post (ztO xs) (drop σ'.objs l) new/\(∀i∈new,Oi i=none/\ ∀lim fam stop l rest,σ'.objs i≠some (.ext lim fam stop l rest))/\
     ∀j o',drop σ'.objs l j=some o'->j∈new\/ ∃o u x,Oi j=some o/\u∈pins/\args[u]? =some x/\x.handle=some j/\σ'.tmps u=x/\zht x o o'
   | none=>False)->LeavesInM Fence.wide 0 P fn a.tmps (fun e W'=>(∃v V Oo new F' η' S',e= .returned v/\Post V Oo new/\(∀i∈new,∀lim fam stop l rest,Oo i≠some (.ext lim fam stop l rest))/\Mem ⟨P,N0,W,F,O0,[],[],fun _=>undef,[]⟩ Oo W' F' η' S'/\zaL Oo W' F' η' V v/\za7 Oi Oo η η' new)\/
   ∃v F' η' S',e= .panicked [{v:=v,recovered:=false}]/\PX v/\Mem ⟨P,N0,W,F,O0,[],[],fun _=>undef,[]⟩ (fun _=>none) W' F' η' S') a.defers .returning W1:=by
  rintro⟨l,new,hq⟩;split at hq
  ·rename_i vc xs h1;obtain⟨q1,q2,q3,q4⟩:=hq;rw[hdf];simp only[Ctx.more,List.append_nil];refine zyL Ds W1 hnd (fun D hD=>(hm1.hid (D,_) (by simp[Ctx.more]; exact hD)).1) (fun W' o1 o2 o3 o4 o5=> ?_);obtain⟨hm,hF⟩:=hm1.hidden (c':=⟨P,N0,W,F,O0,[],[],fun _=>undef,[]⟩) ⟨rfl,rfl,rfl⟩ o1 o2 o3 (by omega) (fun b _ hb=>o5 b (fun hD=>hb (b,.deferred (some [])) (by simp[Ctx.more]; exact hD) rfl)) (by simp) (by simp);have ht2: ∀t,zaL σ'.objs W' F' η1 (σ'.tmps t) (a.tmps.getD t undef):=fun t=>zaL.pres (za7.refl _ _) hF _ _ (AV.noRef_nil _) (ht1 t);obtain⟨us,h4,h5⟩:=zy8 (c:=⟨P,N0,W,F,O0,[],[],fun _=>undef,[]⟩) hm ht2 fn.results.toList vc xs h1 q1;have h6:(results fn a.tmps).run P W'= .ok (if h:us.toArray.size=1 then us.toArray[0]else .tuple us.toArray) W':=by
    unfold results;rw[Array.mapM_eq_mapM_toList];simp only[Sem.run_bind,Sem.run_map,Sem.run_pure];exact congrArg (fun r:Result (List Value)=>(r.andThen fun a w'=>Result.ok a.toArray w').andThen fun a w'=>Result.ok (if h:a.size=1 then a[0]else Value.tuple a) w') h4
   obtain⟨m1,m2⟩:=hm.dropL (W':=W') (F':=fun b=>F' b\/ ∃id∈l,b∈S1 id) l (Below.refl _ _) (fun b hb=>.inl hb) (fun b hb=>by
    rcases hb with hb | hb
    ·exact .inl hb
    ·exact .inr (.inr hb))
   refine⟨_,h6,.inl ⟨_,ztO xs,drop σ'.objs l,new,_,_,_,rfl,q2,fun i hi lim fam stop l' rest h=> ?_,m1,?_,?_⟩⟩
   ·unfold drop at h;split at h
    ·cases h
    ·exact(q3 i hi).2 _ _ _ _ _ h
   ·unfold ztO;split
    ·rename_i x;simp only[zaN]at h5;obtain⟨v,rest,rfl,h7,rfl⟩:=h5;simpa using h7
    ·rename_i hx;have hl:=zaN.length _ _ h5;rw[dif_neg (by
      intro e;simp at e;rw[hl]at e
      match xs,e with
      | [x],_=>exact hx x rfl)]
     simp only[zaL];exact⟨us,rfl,h5⟩
   ·intro j o' ho;rcases q4 j o' ho with h7 | ⟨o,u,x,a1,a2,a3,a4,a5,a6⟩
    ·exact .inl h7
    ·refine .inr ⟨o,a1,?_⟩;have b1:zaL Oi W F η x (vs.getD u undef):=by
      have: ∀(xs:List AV) (vs:List Value) (u:Nat),zaN Oi W F η xs vs->xs[u]? =some x->zaL Oi W F η x (vs.getD u undef):=by
       intro xs
       induction xs with
       | nil=>intro vs u _ h; simp at h
       | cons y ys ih=>
        intro vs u h hu;simp only[zaN]at h;obtain⟨v,rest,rfl,h8,h9⟩:=h;cases u with
        | zero=>simp at hu; subst hu; simpa using h8
        | succ u=>simpa using ih rest u h9 (by simpa using hu)
      exact this args vs u hvs a3
     have b2:=ht2 u;rw[a5,hpin u a2]at b2;have ho2:σ'.objs j=some o':=by
      unfold drop at ho;split at ho
      ·cases ho
      ·exact ho
     have:=zyK b1 b2 a4 a1 ho2 a6;cases o <;> cases o' <;> exact this
  ·exact hq.elim
 cases e with
 | normal=>exact hret hq
 | ret=>exact hret hq
 | exit id=>exact hq.elim
 | goto l=>exact hq.elim
 | panic ch=>
  obtain⟨v,rfl,hv⟩:=hq;show LeavesInM _ _ _ _ _ _ a.defers _ W1;rw[hdf];simp only[Ctx.more,List.append_nil];refine leavesP Ds W1 hnd (fun D hD=>(hm1.hid (D,_) (by simp[Ctx.more]; exact hD)).1) (fun W' o1 o2 o3 o4 o5=> ?_);obtain⟨hm,hF⟩:=hm1.hidden (c':=⟨P,N0,W,F,O0,[],[],fun _=>undef,[]⟩) ⟨rfl,rfl,rfl⟩ o1 o2 o3 (by omega) (fun b _ hb=>o5 b (fun hD=>hb (b,.deferred (some [])) (by simp[Ctx.more]; exact hD) rfl)) (by simp) (by simp);exact .inr ⟨v,_,_,_,rfl,hv,hm.lose⟩
 | outgrown=>exact hq.elim
end Go.Aw
