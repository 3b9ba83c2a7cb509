/- Machinery. Conditions: those of each. -/
import Derived.Test.YtplfjjgkbnolhaaGreatDoorGZ
import Derived.RangeFuncLeaves
import Derived.RangeFuncRecord
set_option linter.unusedSimpArgs false
set_option linter.unusedVariables false
/-
 CODE AND FUNCTIONS ON ABSTRACT STATES.
 Conditions: none; over any program under 'mixedOrders'.
-/
namespace Go.Aw
open Go.RowKit

def Ctx.more(c:Ctx)(Ds:List Nat):Ctx:={c with Z:=Ds.map (fun D=>(D,.deferred (some [])))++c.Z,ds:=Ds++c.ds}
theorem Ctx.more_nil(c:Ctx):c.more []=c:=rfl
theorem Ctx.more_more(c:Ctx)(l m:List Nat):(c.more l).more m=c.more (m++l):=by simp[Ctx.more]
def zzJ(c:Ctx)(σ:St)(a:Act)(W:World):Prop:= ∃Ds,(Ds.Nodup/\(∀D∈Ds,D∉c.ds)/\(c.N.top=false->Ds=[]))/\Rel (c.more Ds) σ a W
theorem Rel.x{c:Ctx}{σ:St}{a:Act}{W:World}(h:Rel c σ a W):zzJ c σ a W:=⟨[],⟨by simp,by simp,fun _=>rfl⟩,h⟩
theorem zzJ.x{c:Ctx}{σ:St}{a:Act}{W:World}{Ds:List Nat}(hd:Ds.Nodup/\(∀D∈Ds,D∉c.ds)/\(c.N.top=false->Ds=[]))(h:zzJ (c.more Ds) σ a W):zzJ c σ a W:=by
 obtain⟨Es,⟨h1,h2,h4⟩,h3⟩:=h;refine⟨Es++Ds,⟨?_,?_,fun ht=> ?_⟩,by rw[<-Ctx.more_more]; exact h3⟩
 ·refine List.nodup_append.2 ⟨h1,hd.1,fun a ha b hb e=> ?_⟩;subst e;exact h2 a ha (by simp[Ctx.more,hb])
 ·intro D hD;rcases List.mem_append.1 hD with h | h
  ·intro hc; exact h2 D h (by simp[Ctx.more,hc])
  ·exact hd.2.1 D h
 ·rw[hd.2.2 ht,h4 ht]; rfl
def AWp(P:Program)(N:NP)(code:Code)(Q:Exit->St->Prop)(σ:St):Prop:=
 ∀(R:Option Nat) (n:Nat) (c:Ctx),(N.top=true->R=none)->c.P=P->c.N=N-> ∀a W,Rel c σ a W->code.wpIn (FW R) n P (fun e a' W'=> ∃σ',Q e σ'/\zzJ c σ' a' W') a W
def Sub(σ σ':St):Prop:= ∀c a W,Rel c σ a W->Rel c σ' a W
def zoA:Op->Bool
 | .alloc _ | .box .. | .buildSlice .. | .insert .. | .store .. | .makeMap .. | .makeSlice .. | .makeChan .. | .mapUpdate .. | .mapEntry .. | .entryStore .. | .range .. | .next .. | .entry _ | .go _ | .defer _ | .panic _ | .send .. | .recv .. | .select .. =>false
 | .call {callee:=.builtin .len,..}=>true
 | .call {callee:=.builtin _,..}=>false
 | .call {callee:=.value (.tmp _),..}=>false
 | .call {callee:=.invoke ..,..}=>false
 | _=>true
def znT:List Oper->Nat
 | []=>0
 | o::r=>if zoA o.op then znT r+1 else 0

theorem Rel.heap{c:Ctx}{σ:St}{a:Act}{W W':World}(h:Rel c σ a W)(h1:W'.heap=W.heap)(h2:W'.os=W.os)(h3:W'.tape=W.tape)(h4:W'.output=W.output):Rel c σ a W':=by
 obtain⟨hsz,hdf,F,η,S,hm,ht⟩:=h;obtain⟨h5,h6⟩:=hm.still (W':=W') (F':=F) ⟨h2,h3,h4,by rw[h1]; exact Nat.le_refl _,fun b _=>by rw[h1]⟩ (fun _ h=>h) (fun _ h=>.inl h);exact⟨hsz,hdf,F,η,S,h5,fun t=>zaL.pres (za7.refl _ _) h6 _ _ (AV.noRef_nil _) (ht t)⟩

theorem znd{σ σ':St}(h1: ∀t,σ'.tmps t= .dead \/σ'.tmps t=σ.tmps t)(h2: ∀id,σ'.objs id=none\/σ'.objs id=σ.objs id):Sub σ σ':=by
 intro c a W h;obtain⟨hsz,hdf,F,η,S,hm,ht⟩:=h;have h3: ∀id o,σ'.objs id=some o->σ.objs id=some o:=by
  intro id o ho;rcases h2 id with h | h
  ·rw[ho]at h; cases h
  ·rw[<-h]; exact ho
 have hk:za7 σ.objs σ'.objs η η []:=by
  intro id o ho;exact za7.refl σ.objs η id o (h3 id o ho)
 have hF: ∀b,F b->F b/\W.heap[b]? =W.heap[b]? :=fun b hb=>⟨hb,rfl⟩;refine⟨hsz,hdf,F,η,fun id=>if (σ'.objs id).isSome then S id else [],⟨hm.os,hm.tape,hm.output,hm.size,hm.old,hm.f0,hm.flt,hm.fold,?_,?_,?_,?_,?_,?_,?_,hm.zd⟩,?_⟩
 ·intro id o ho;have:=h3 id o ho;simp only[ho,Option.isSome_some,if_true];exact zj1.mono hk hF (AO.noRef_nil o) (fun _ _=>rfl) (fun lim fam stop l rest e=>⟨rfl,rfl,rfl,Nat.le_refl _,fun b hb=>⟨hb,rfl⟩,fun _ _=>rfl,fun b hb=>(hm.apart id b hb).1,hm.flt,fun _ _=>rfl,fun b hb _=>hb⟩) (hm.obj id o this)
 ·intro id ho; simp[ho]
 ·intro id b hb;split at hb
  ·exact hm.apart id b hb
  ·simp at hb
 ·intro id id' b hb hb';split at hb
  ·split at hb'
   ·exact hm.sep id id' b hb hb'
   ·simp at hb'
  ·simp at hb
 ·intro id;split
  ·exact hm.nd id
  ·simp
 ·intro p hp;obtain⟨z1,z2,z3,z4⟩:=hm.hid p hp;refine⟨z1,z2,fun id hb=> ?_,z4⟩;split at hb
  ·exact z3 id hb
  ·simp at hb
 ·intro id lim fam stop l rest ho;obtain⟨l1,l2⟩:=hm.lim id _ _ _ _ _ (h3 id _ ho);refine⟨l1,fun id' b hb hne=> ?_⟩;split at hb
  ·exact l2 id' b hb hne
  ·simp at hb
 ·intro t;rcases h1 t with h | h
  ·rw[h]; simp only[zaL]
  ·rw[h]; exact zaL.pres hk hF _ _ (AV.noRef_nil _) (ht t)

theorem AWp.mono{P:Program}{N:NP}{code:Code}{Q Q':Exit->St->Prop}{σ:St}(h:AWp P N code Q σ)(hq: ∀e σ,Q e σ->Q' e σ):AWp P N code Q' σ:=
 fun R n c hT hP hN a W hr=>wpIn_mono (h R n c hT hP hN a W hr) (fun e _ _ ⟨σ',h1,h2⟩=>⟨σ',hq e σ' h1,h2⟩)
theorem AWp.sub{P:Program}{N:NP}{code:Code}{Q:Exit->St->Prop}{σ σ':St}(hs:Sub σ σ')(h:AWp P N code Q σ'):AWp P N code Q σ:=
 fun R n c hT hP hN a W hr=>h R n c hT hP hN a W (hs c a W hr)

theorem zrl{F:Fence}{r:Nat}{P:Program}{Q:Exit->Act->World->Prop}{x:Code}(I:Nat->Act->World->Prop)(n:Nat){a:Act}{w:World}(h₀:I 0 a w)
  (round: ∀i a w,i<=n->I i a w->x.wpIn F r P (Exit.then (fun a' w'=>i<n/\I (i+1) a' w') Q) a w):(Code.loop x).wpIn F r P Q a w:=by
 intro b k cs hro hb hr;have key: ∀m i a w,n-i=m->i<=n->I i a w->
   ∃e a' w',Q e a' w'/\ArrivesIn (Machine.fenced P F) P (lone (b.atR a (.code x:: .inLoop x::k)) cs w) b k cs e a' w':=by
  intro m
  induction m with
  | zero=>
   intro i a w hm hi hI;obtain⟨e,a₁,w₁,hq,harr⟩:=round i a w hi hI b (.inLoop x::k) cs hro hb hr;cases e with
   | normal=>have:=hq.1; omega
   | exit id=>exact⟨_,a₁,w₁,hq,.pass (x:=.inLoop x) rfl (fun _ _=>.inl (by simp)) harr⟩
   | goto l=>exact⟨_,a₁,w₁,hq,.pass (x:=.inLoop x) rfl (fun _ _=>.inl (by simp)) harr⟩
   | ret=>exact⟨_,a₁,w₁,hq,.pass (x:=.inLoop x) rfl (fun _ _=>.inl (by simp)) harr⟩
   | panic ch=>exact⟨_,a₁,w₁,hq,.pass (x:=.inLoop x) rfl (fun _ _=>.inl (by simp)) harr⟩
   | outgrown=>exact⟨_,a₁,w₁,hq,.pass (x:=.inLoop x) rfl (fun _ _=>.inl (by simp)) harr⟩
  | succ m ih=>
   intro i a w hm hi hI;obtain⟨e,a₁,w₁,hq,harr⟩:=round i a w hi hI b (.inLoop x::k) cs hro hb hr;cases e with
   | normal=>
    obtain⟨hlt,hI₁⟩:=hq;obtain⟨e₂,a₂,w₂,hq₂,harr₂⟩:=ih (i+1) a₁ w₁ (by omega) (by omega) hI₁;exact⟨e₂,a₂,w₂,hq₂,.of_steps (StepsIn.trans harr (.one (fenced_calm hb hr rfl) stepR_inLoop)) harr₂⟩
   | exit id=>exact⟨_,a₁,w₁,hq,.pass (x:=.inLoop x) rfl (fun _ _=>.inl (by simp)) harr⟩
   | goto l=>exact⟨_,a₁,w₁,hq,.pass (x:=.inLoop x) rfl (fun _ _=>.inl (by simp)) harr⟩
   | ret=>exact⟨_,a₁,w₁,hq,.pass (x:=.inLoop x) rfl (fun _ _=>.inl (by simp)) harr⟩
   | panic ch=>exact⟨_,a₁,w₁,hq,.pass (x:=.inLoop x) rfl (fun _ _=>.inl (by simp)) harr⟩
   | outgrown=>exact⟨_,a₁,w₁,hq,.pass (x:=.inLoop x) rfl (fun _ _=>.inl (by simp)) harr⟩
 obtain⟨e,a',w',hq,harr⟩:=key n 0 a w (by omega) (Nat.zero_le _) h₀;exact⟨e,a',w',hq,.of_steps (.one (fenced_calm hb hr rfl) stepR_loop) harr⟩

end Go.Aw
namespace Go.Aw
open Go.RowKit
def zuM(f:Nat->AV):List (Nat×AV)->Prop
 | []=>True
 | (t,x)::r=>f t=x/\zuM f r
def zwd(O:zbI):List (Nat×AO)->Prop
 | []=>True
 | (i,o)::r=>O i=some o/\zwd O r
theorem zzH{σ:St}{l:List (Nat×AV)}{o:List (Nat×AO)}(h1:zuM σ.tmps l)(h2:zwd σ.objs o):Sub σ ⟨tm l,om o⟩:=by
 refine znd (fun t=> ?_) (fun id=> ?_)
 ·clear h2
  induction l with
  | nil=>exact .inl rfl
  | cons p l ih=>
   obtain⟨i,x⟩:=p;simp only[zuM]at h1;simp only[tm];split
   ·rename_i h; subst h; exact .inr h1.1.symm
   ·exact ih h1.2
 ·clear h1
  induction o with
  | nil=>exact .inl rfl
  | cons p l ih=>
   obtain⟨i,x⟩:=p;simp only[zwd]at h2;simp only[om];split
   ·rename_i h; subst h; exact .inr h2.1.symm
   ·exact ih h2.2
theorem znY(l:List (Nat×AO))(d:Nat)(o:AO):upd (om l) d (some o)=om ((d,o)::l):=by
 funext t; simp only[upd,om]
def zl2:Nat->List D->List (Nat×AV)
 | _,[]=>[]
 | i,x::xs=>(i,.d x)::zl2 (i+1) xs
def start(ds:List D):St:={tmps:=tm (zl2 0 ds),objs:=om []}

noncomputable def rsv(P:Program)(σ:St):ResultVar->Option (Prop×AV)
 | .tmp t=>some (True,σ.tmps t)
 | .cell t ty=>match zeu P 0 (St.ev σ.tmps) σ.objs (.load ty (.tmp t))with
  | some (vc,V,none)=>some (vc,V)
  | _=>none
noncomputable def resQ(P:Program)(σ:St):List ResultVar->Option (Prop×List D)
 | []=>some (True,[])
 | r::rs=>match rsv P σ r with
  | some (p,V)=>match frz σ.objs V,resQ P σ rs with
   | some (q,x,_),some (p',xs)=>some (p/\q/\p',x::xs)
   | _,_=>none
  | none=>none
def zu4:List D->AV
 | [x]=>.d x
 | xs=>.tup (xs.map .d)
def retQ(P:Program)(rs:Array ResultVar)(V:AV):Exit->St->Prop:=fun e σ=>
 match e with
 | .ret | .normal =>match resQ P σ rs.toList with
  | some (vc,xs)=>vc/\zu4 xs=V
  | none=>False
 | _=>False

theorem rsv_run{c:Ctx}{σ:St}{a:Act}{W:World}{F:Nat->Prop}{η:Nat->Value}{S:Nat->List Nat}(hm:Mem c σ.objs W F η S)(ht: ∀t,zaL σ.objs W F η (σ.tmps t) (a.tmps.getD t undef)){r:ResultVar}{vc:Prop}{V:AV}
  (h:rsv c.P σ r=some (vc,V)) (hvc:vc):
  ∃v,(match r with | .tmp t=>(pure (a.tmps.getD t undef):Sem Value) | .cell ad t=>do loadVar t (<-asAddr (a.tmps.getD ad undef))).run c.P W= .ok v W/\zaL σ.objs W F η V v:=by
 cases r with
 | tmp t=>
  simp only[rsv,Option.some.injEq,Prod.mk.injEq]at h;obtain⟨_,rfl⟩:=h;exact⟨_,rfl,ht t⟩
 | cell ad t=>
  simp only[rsv]at h;split at h
  ·rename_i vc' V' hq;simp only[Option.some.injEq,Prod.mk.injEq]at h;obtain⟨rfl,rfl⟩:=h
   obtain ⟨v, W', F', η', S', hr, h1, h2, h3, h4, h5⟩ := zvW (o := { dst := none, op := .load t (.tmp ad), type := 0, pos := "", after := #[], guard := none }) hm ht hq hvc (by simp)
   obtain⟨rfl,rfl,rfl⟩:=h5 rfl;simp only[execOp,Act.eval,Instr.loadAt]at hr;cases hv:a.tmps.getD ad undef with
   | pointer p=>
    cases p with
    | none=>rw[hv]at hr; simp[Instr.sureAddr]at hr
    | some x=>
     rw[hv]at hr;simp only[Instr.sureAddr,Sem.run_bind,Sem.run_pure,Result.andThen_ok]at hr;obtain⟨u,hu⟩: ∃u,(loadVar t x).run c.P W'= .ok u W'/\u=v:=by
      cases hl:(loadVar t x).run c.P W' with
      | ok u w=>
       rw[hl]at hr;simp only[Result.andThen_ok,Result.ok.injEq,Next.value.injEq]at hr;obtain⟨rfl,rfl⟩:=hr;exact⟨u,rfl,rfl⟩
      | halt x w=>rw[hl]at hr; simp at hr
     obtain⟨hu,rfl⟩:=hu;refine⟨u,?_,h4⟩;simp only[hv,asAddr,Sem.run_bind,Sem.run_pure,Result.andThen_ok,hu]
   | _=>rw[hv]at hr; simp[Instr.sureAddr]at hr
  ·cases h

theorem resQ_run{c:Ctx}{σ:St}{a:Act}{W:World}{F:Nat->Prop}{η:Nat->Value}{S:Nat->List Nat}(hm:Mem c σ.objs W F η S)(ht: ∀t,zaL σ.objs W F η (σ.tmps t) (a.tmps.getD t undef)):
  ∀(rs:List ResultVar) (vc:Prop) (xs:List D),resQ c.P σ rs=some (vc,xs)->vc->
  ∃vs,(rs.mapM fun(r:ResultVar)=>(match r with | .tmp t=>(pure (a.tmps.getD t undef):Sem Value) | .cell ad t=>do loadVar t (<-asAddr (a.tmps.getD ad undef)))).run c.P W= .ok vs W/\zav W (fun b=>F b\/ ∃id,b∈S id) xs vs
 | [],vc,xs,h,_=>by
  simp only[resQ,Option.some.injEq,Prod.mk.injEq]at h;obtain⟨_,rfl⟩:=h;exact⟨[],by simp,by simp only[zav]⟩
 | r::rs,vc,xs,h,hvc=>by
  simp only[resQ]at h;split at h
  ·rename_i p V h1;split at h
   ·rename_i q x l p' xs' h2 h3;simp only[Option.some.injEq,Prod.mk.injEq]at h;obtain⟨rfl,rfl⟩:=h;obtain⟨v,h4,h5⟩:=rsv_run hm ht h1 hvc.1;obtain⟨vs,h6,h7⟩:=resQ_run hm ht rs p' xs' h3 hvc.2.2;refine⟨v::vs,?_,?_⟩
    ·simp only[List.mapM_cons,Sem.run_bind,h4,Result.andThen_ok,h6,Sem.run_pure]
    ·simp only[zav];exact⟨v,vs,rfl,zsO (F':=fun b=>F b\/ ∃id,b∈S id) hm (fun b hb=>.inl hb) V v _ h5 h2 hvc.2.1 (fun id _ b hb=>.inr ⟨id,hb⟩),h7⟩
   ·cases h
  ·cases h

theorem Mem.leave{P:Program}{N:NP}{pv:Nat->Value}{W0 W:World}{F0 F:Nat->Prop}{O:zbI}{η:Nat->Value}{S:Nat->List Nat}(h:Mem ⟨P,N,W0,F0,noO,[],[],pv,[]⟩ O W F η S):
  Mem ⟨P,⟨0,[],true,[],fun _ _=>False⟩,W0,F0,noO,[],[],fun _=>undef,[]⟩ (zuX []) W (fun b=>F b\/ ∃id,b∈S id) η (fun _=>[]):=by
 refine⟨h.os,h.tape,h.output,h.size,h.old,fun b hb=>.inl (h.f0 b hb),?_,?_,?_,fun _ _=>rfl,by simp,by simp,by simp,by simp,?_,by simp⟩
 ·rintro b (hb | ⟨id,hb⟩)
  ·exact h.flt b hb
  ·exact(h.apart id b hb).2.1
 ·rintro b (hb | ⟨id,hb⟩) hlt
  ·exact h.fold b hb hlt
  ·exact .inr ((h.apart id b hb).2.2 hlt)
 ·intro id o ho;simp[zuX]at ho
 ·intro id lim fam stop l rest ho;simp[zuX]at ho

theorem zyL{F:Fence}{n:Nat}{P:Program}{fn:Func}{tmps:Array Value}{R:Ending->World->Prop}: ∀(Ds:List Nat) (W:World),Ds.Nodup->(∀D∈Ds,W.heap[D]? =some (.deferred (some [])))->
  (∀W':World,W'.os=W.os->W'.tape=W.tape->W'.output=W.output->W'.heap.size=W.heap.size->(∀b,b∉Ds->W'.heap[b]? =W.heap[b]?)-> ∃v,(results fn tmps).run P W'= .ok v W'/\R (.returned v) W')->
  LeavesInM F n P fn tmps R (Ds.map fun D=>{target:=.collected D,args:=#[]}) .returning W
 | [],W,_,_,h=>h W rfl rfl rfl rfl (fun _ _=>rfl)
 | D::Ds,W,hn,hd,h=>by
  obtain⟨hD,hn⟩:=List.nodup_cons.1 hn;refine⟨by simp,.inl ⟨D,_,rfl,run_takeDeferred (hd D (by simp)),?_⟩⟩;refine zyL Ds _ hn (fun E hE=> ?_) (fun W' h1 h2 h3 h4 h5=>h W' h1 h2 h3 (by rw[h4,World.putObj_size]) (fun b hb=> ?_))
  ·rw[World.putObj_heap_other (by rintro rfl; exact hD hE)];exact hd E (by simp[hE])
  ·simp only[List.mem_cons,not_or]at hb;rw[h5 b hb.2,World.putObj_heap_other hb.1]

theorem leavesP{F:Fence}{n:Nat}{P:Program}{fn:Func}{tmps:Array Value}{R:Ending->World->Prop}{ch:List PanicEntry}: ∀(Ds:List Nat) (W:World),Ds.Nodup->(∀D∈Ds,W.heap[D]? =some (.deferred (some [])))->
  (∀W':World,W'.os=W.os->W'.tape=W.tape->W'.output=W.output->W'.heap.size=W.heap.size->(∀b,b∉Ds->W'.heap[b]? =W.heap[b]?)->R (.panicked ch) W')->
  LeavesInM F n P fn tmps R (Ds.map fun D=>{target:=.collected D,args:=#[]}) (.panicking ch) W
 | [],W,_,_,h=>h W rfl rfl rfl rfl (fun _ _=>rfl)
 | D::Ds,W,hn,hd,h=>by
  obtain⟨hD,hn⟩:=List.nodup_cons.1 hn;refine⟨by simp,.inl ⟨D,_,rfl,run_takeDeferred (hd D (by simp)),?_⟩⟩;refine leavesP Ds _ hn (fun E hE=> ?_) (fun W' h1 h2 h3 h4 h5=>h W' h1 h2 h3 (by rw[h4,World.putObj_size]) (fun b hb=> ?_))
  ·rw[World.putObj_heap_other (by rintro rfl; exact hD hE)];exact hd E (by simp[hE])
  ·simp only[List.mem_cons,not_or]at hb;rw[h5 b hb.2,World.putObj_heap_other hb.1]
theorem Mem.lose{P:Program}{N:NP}{pv:Nat->Value}{W0 W:World}{F0 O0 F:Nat->Prop}{O:zbI}{η:Nat->Value}{S:Nat->List Nat}(h:Mem ⟨P,N,W0,F0,O0,[],[],pv,[]⟩ O W F η S):
  Mem ⟨P,N0,W0,F0,O0,[],[],fun _=>undef,[]⟩ (fun _=>none) W (fun b=>F b\/ ∃id,b∈S id) η (fun _=>[]):=by
 refine⟨h.os,h.tape,h.output,h.size,h.old,fun b hb=>.inl (h.f0 b hb),?_,?_,?_,fun _ _=>rfl,by simp,by simp,by simp,by simp,?_,by simp⟩
 ·rintro b (hb | ⟨id,hb⟩)
  ·exact h.flt b hb
  ·exact(h.apart id b hb).2.1
 ·rintro b (hb | ⟨id,hb⟩) hlt
  ·exact h.fold b hb hlt
  ·exact .inr ((h.apart id b hb).2.2 hlt)
 ·intro id o ho;cases ho
 ·intro id lim fam stop l rest ho;cases ho

theorem zwb{O:zbI}{W:World}{F:Nat->Prop}{η:Nat->Value}: ∀(ds:List D) (vs:List Value) (i:Nat),zav W F ds vs-> ∀t,zaL O W F η (tm (zl2 i ds) t) (if i<=t then vs.getD (t-i) undef else undef)
 | [],vs,i,_,t=>by simp only[zl2,tm,zaL]
 | d::ds,vs,i,h,t=>by
  simp only[zav]at h;obtain⟨v,rest,rfl,h1,h2⟩:=h;simp only[zl2,tm];by_cases ht:t=i
  ·subst ht; simpa [zaL]using h1
  ·rw[if_neg ht];have:=zwb (O:=O) (η:=η) ds rest (i+1) h2 t;by_cases hle:i<=t
   ·rw[if_pos hle];rw[if_pos (by omega)]at this;rw[show t-i=(t-(i+1))+1 by omega];simpa using this
   ·rw[if_neg hle];rw[if_neg (by omega)]at this;exact this

mutual
def D.ok:D->Prop
 | .sl es=>es.length<=maxLen/\D.okLL es
 | .ptr cs | .agg cs=>D.okL cs
 | .ifc _ x=>D.ok x
 | .clo _ a b=>D.okL a/\D.okL b
 | .mp ks vs _ _=>D.okL ks/\D.okL vs
 | .lit _=>True
def D.okL:List D->Prop
 | []=>True
 | x::xs=>D.ok x/\D.okL xs
def D.okLL:List (List D)->Prop
 | []=>True
 | x::xs=>D.okL x/\D.okLL xs
end
section
variable {W:World} {F:Nat->Prop}
mutual
theorem Rd.ok: ∀(x:D) (v:Value),Rd W F x v->x.ok
 | .lit _,_,_=>by simp only[D.ok]
 | .sl es,v,h=>by
  simp only[Rd]at h;obtain⟨⟨a,cap,_,_,h1⟩,h2⟩:=h;simp only[D.ok];refine⟨h2,?_⟩;by_cases h3:es.length=0
  ·rw[List.eq_nil_of_length_eq_zero h3]; simp only[D.okLL]
  ·obtain⟨b,off,k,_,_,h4⟩:=h1 h3;exact zbJ.ok k es b off h4
 | .ptr cs,v,h=>by
  simp only[Rd]at h;obtain⟨b,off,_,_,h1⟩:=h;simp only[D.ok];exact zbd.ok cs b off h1
 | .agg cs,v,h=>by
  simp only[Rd]at h;obtain⟨vs,_,h1⟩:=h;simp only[D.ok];exact zav.ok cs vs h1
 | .ifc t x,v,h=>by
  simp only[Rd]at h;obtain⟨u,_,h1⟩:=h;simp only[D.ok];exact Rd.ok x u h1
 | .clo f a b,v,h=>by
  simp only[Rd]at h;obtain⟨x,y,_,h1,h2⟩:=h;simp only[D.ok];exact⟨zav.ok a x h1,zav.ok b y h2⟩
 | .mp ks vs bs clock,v,h=>by
  simp only[Rd]at h;obtain⟨b,es,_,_,_,h1,h2,_⟩:=h;simp only[D.ok];exact⟨zav.ok ks _ h1,zav.ok vs _ h2⟩
theorem zav.ok: ∀(xs:List D) (vs:List Value),zav W F xs vs->D.okL xs
 | [],_,_=>by simp only[D.okL]
 | x::xs,vs,h=>by
  simp only[zav]at h;obtain⟨v,rest,_,h1,h2⟩:=h;simp only[D.okL];exact⟨Rd.ok x v h1,zav.ok xs rest h2⟩
theorem zbd.ok: ∀(xs:List D) (b off:Nat),zbd W F xs b off->D.okL xs
 | [],_,_,_=>by simp only[D.okL]
 | x::xs,b,off,h=>by
  simp only[zbd]at h;obtain⟨⟨v,_,h1⟩,h2⟩:=h;simp only[D.okL];exact⟨Rd.ok x v h1,zbd.ok xs b (off+1) h2⟩
theorem zbJ.ok(k:Nat): ∀(es:List (List D)) (b off:Nat),zbJ W F k es b off->D.okLL es
 | [],_,_,_=>by simp only[D.okLL]
 | x::xs,b,off,h=>by
  simp only[zbJ]at h;obtain⟨⟨_,h1⟩,h2⟩:=h;simp only[D.okLL];exact⟨zbd.ok x b off h1,zbJ.ok k xs b (off+k) h2⟩
end
end
theorem zxp{l:List (List D)}(h:D.okLL l): ∀x∈l,D.okL x:=by
 induction l with
 | nil=>simp
 | cons y l ih=>
  simp only[D.okLL]at h;intro x hx;rcases List.mem_cons.1 hx with rfl | hx
  ·exact h.1
  ·exact ih h.2 x hx

theorem FnP.intro'(own:List (Nat×List (TypeId×Nat))){P:Program}{f:Nat}{fn:Func}{code:Code}{ds:List D}{V:AV}(_hmix:P.follows .mixedOrders =true)(hf:P.funcs[f]? =some fn)(hb:fn.body=some code)
  (hc: ∀W as,(callFunc f as).run P W= .ok (.enter f as) W) (hN:ds.length<=fn.ntmps) (h:D.okL ds->AWp P ⟨fn.ntmps,[],true,own,fun _ _=>False⟩ code (retQ P fn.results V) (start ds)):FnP P f ds V []:=by
 refine⟨hc,fun W F vs hF hvs=> ?_⟩;have hlen:=zav.length _ _ hvs;refine callsIn_wide.1 (callsIn_of_wp_marks (n:=0) hf hb trivial ?_);have hr:Rel ⟨P,⟨fn.ntmps,[],true,own,fun _ _=>False⟩,W,F,noO,[],[],fun _=>undef,[]⟩ (start ds) {tmps:=vs.toArray++Array.replicate (fn.ntmps-vs.toArray.size) undef,defers:=[]} W:=by
  refine⟨⟨by simp[hlen]; omega,by simp⟩,rfl,F,fun _=>undef,fun _=>[],⟨rfl,rfl,rfl,Nat.le_refl _,fun _ _ _=>rfl,fun _ h=>h,hF,fun _ h _=>.inl h,?_,fun _ _=>rfl,by simp,by simp,by simp,by simp,?_,by simp⟩,?_⟩
  ·intro id o ho; simp[start,om]at ho
  ·intro id lim fam stop l rest ho; simp[start,om]at ho
  ·intro t;have:=zwb (O:=(start ds).objs) (η:=fun _=>undef) ds vs 0 hvs t;simp only[Nat.zero_le,if_true,Nat.sub_zero]at this;have e:(vs.toArray++Array.replicate (fn.ntmps-vs.toArray.size) undef).getD t undef=vs.getD t undef:=by
    rw[Array.getD_eq_getD_getElem?,Array.getElem?_append];by_cases ht:t<vs.length
    ·simp[ht,List.getD]
    ·simp only[List.size_toArray,ht,if_false,Array.getElem?_replicate,List.getD];rw[List.getElem?_eq_none (by omega)];split <;> rfl
   simp only[e];exact this
 refine wpIn_mono (h (zav.ok _ _ hvs) none 0 _ (fun _=>rfl) rfl rfl _ _ hr) ?_;rintro e a W1 ⟨σ',hq,Ds,⟨hnd,_⟩,hsz,hdf,F',η,S,hm1,ht1⟩;have fin: ∀vc xs W',Mem ⟨P,⟨fn.ntmps,[],true,own,fun _ _=>False⟩,W,F,noO,[],[],fun _=>undef,[]⟩ σ'.objs W' F' η S->(∀t,zaL σ'.objs W' F' η (σ'.tmps t) (a.tmps.getD t undef))->resQ P σ' fn.results.toList=some (vc,xs)->vc->zu4 xs=V->
   ∃v,(results fn a.tmps).run P W'= .ok v W'/\zaL (zuX []) W' (fun b=>F' b\/ ∃id,b∈S id) η V v:=by
  intro vc xs W' hm ht h1 h2 h3;obtain⟨us,h4,h5⟩:=resQ_run (c:=⟨P,⟨fn.ntmps,[],true,own,fun _ _=>False⟩,W,F,noO,[],[],fun _=>undef,[]⟩) hm ht fn.results.toList vc xs h1 h2;have h6:(results fn a.tmps).run P W'= .ok (if h:us.toArray.size=1 then us.toArray[0]else .tuple us.toArray) W':=by
   unfold results;rw[Array.mapM_eq_mapM_toList];simp only[Sem.run_bind,Sem.run_map,Sem.run_pure];exact congrArg (fun r:Result (List Value)=>(r.andThen fun a w'=>Result.ok a.toArray w').andThen fun a w'=>Result.ok (if h:a.size=1 then a[0]else Value.tuple a) w') h4
  refine⟨_,h6,?_⟩;subst h3;have hl:=zav.length _ _ h5;unfold zu4;split
  ·rename_i x;simp only[zav]at h5;obtain⟨v,rest,rfl,h7,rfl⟩:=h5;simpa [zaL]using h7
  ·rename_i hx;rw[dif_neg (by
    intro e;simp at e;rw[hl]at e
    match xs,e with
    | [x],_=>exact hx x rfl)]
   simp only[zaL];exact⟨us,rfl,(zaN.of_ds _ _).2 h5⟩
 have hret: ∀(hq:match resQ P σ' fn.results.toList with | some (vc,xs)=>vc/\zu4 xs=V | none=>False),LeavesInM Fence.wide 0 P fn a.tmps (fun e W'=> ∃v F' η S,e= .returned v/\Mem ⟨P,⟨0,[],true,[],fun _ _=>False⟩,W,F,noO,[],[],fun _=>undef,[]⟩ (zuX []) W' F' η S/\zaL (zuX []) W' F' η V v) a.defers .returning W1:=by
  intro hq;split at hq
  ·rename_i vc xs h1;rw[hdf];simp only[Ctx.more,List.append_nil];refine zyL Ds W1 hnd (fun D hD=>(hm1.hid (D,_) (by simp[Ctx.more]; exact hD)).1) (fun W' o1 o2 o3 o4 o5=> ?_);obtain⟨hm,hF⟩:=hm1.hidden (c':=⟨P,⟨fn.ntmps,[],true,own,fun _ _=>False⟩,W,F,noO,[],[],fun _=>undef,[]⟩) ⟨rfl,rfl,rfl⟩ o1 o2 o3 (by omega) (fun b _ hb=>o5 b (fun hD=>hb (b,.deferred (some [])) (by simp[Ctx.more]; exact hD) rfl)) (by simp) (by simp);obtain⟨v,h2,h3⟩:=fin vc xs W' hm (fun t=>zaL.pres (za7.refl _ _) hF _ _ (AV.noRef_nil _) (ht1 t)) h1 hq.1 hq.2;exact⟨v,h2,v,_,η,_,rfl,Mem.leave hm,h3⟩
  ·exact hq.elim
 cases e with
 | normal=>exact hret hq
 | ret=>exact hret hq
 | exit id=>exact hq.elim
 | goto l=>exact hq.elim
 | panic ch=>exact hq.elim
 | outgrown=>exact hq.elim
end Go.Aw
