/- Machinery. Conditions: those of each. -/
import Derived.Test.YtplfjjgkbnolhaaGreatDoorGG
import Derived.Test.YtplfjjgkbnolhaaGreatDoorGMs
import Derived.Test.YtplfjjgkbnolhaaGreatDoorGSb
import Derived.Test.YtplfjjgkbnolhaaGreatDoorGTb
import Derived.Laws.RangeString
import Derived.Maps.RangeRun
set_option linter.unusedSimpArgs false
set_option linter.unusedVariables false
/-
 OPERATIONS, REGIONS, CODE AND CALLS ON ABSTRACT STATES: 'awp' computes what is to be shown; what it says holds of the machine.
 Conditions: none; over any program.
-/
namespace Go.Aw
open Go.RowKit

def zuX(os:List AO):zbI:=fun i=>os[i]?
def FnP(P:Program)(f:FuncId)(ds:List D)(V:AV)(os:List AO):Prop:=
 (∀W as,(callFunc f as).run P W= .ok (.enter f as) W)/\
 ∀(W:World) (F:Nat->Prop) (vs:List Value),(∀b,F b->b<W.heap.size)->zav W F ds vs->
  Calls P f vs.toArray W fun e W'=> ∃v F' η S,e= .returned v/\Mem ⟨P,N0,W,F,noO,[],[],fun _=>undef,[]⟩ (zuX os) W' F' η S/\zaL (zuX os) W' F' η V v

def St.put(σ:St)(dst:Option Nat)(V:AV)(O':zbI):St:={tmps:=(match dst with | some d=>upd σ.tmps d V | none=>σ.tmps),objs:=O'}
def zdc(N:NP):Option Nat->Prop
 | some d=>d<N.n/\d∉N.pins
 | none=>True
def zof(dst:Nat)(σ:St):Prop:=zff dst σ.objs/\ ∀t,(σ.tmps t).noRef [dst]

def isLit:AV->Bool
 | .d (.lit _)=>true
 | _=>false
def flat:AV->Bool
 | .d (.lit _)=>true
 | .tup vs=>vs.all isLit
 | _=>false

def isD:AV->Bool
 | .d _=>true
 | _=>false
def zrv:AV->Bool
 | .d _=>true
 | .tup vs=>vs.all isD
 | _=>false

noncomputable def qwp(P:Program)(N:NP)(o:Oper)(σ:St)(K:St->Prop):Prop:=
 match zeu P (o.dst.getD 0) (St.ev σ.tmps) σ.objs o.op with
 | some (vc,V,n)=>vc/\(n.isSome=true->zof (o.dst.getD 0) σ)/\zdc N o.dst/\K (σ.put o.dst V (addO σ.objs (o.dst.getD 0) n))
 | none=>False

def zru(N:NP):Option Nat->Option (List (TypeId×Nat))
 | some d=>lkN N.own d
 | none=>none
def rgE(P:Program)(dst:Nat)(ρ:Operand->AV)(t:TypeId)(x:Operand):Option (Prop×AV×Nat×AO×List Nat×Bool):=
 match P.underlying t,ρ x with
 | some (.map _ _),.d (.mp ks vs bs clock)=>some (True,.mo dst,dst,.it ks vs bs clock [],[],true)
 | some .string,.d (.lit (.string s))=>some (True,.mo dst,dst,.sit s 0,[],true)
 | _,_=>none
def stE2(P:Program)(ρ:Operand->AV)(O:zbI)(t:TypeId)(x v:Operand):Option (Prop×Nat×AO):=match stE P ρ O t x v with | some r=>some r | none=>stD P ρ O t x v
def bsE2(P:Program)(own:Option (List (TypeId×Nat)))(ρ:Operand->AV)(O:zbI)(t:TypeId)(len:Nat)(parts:Array (Nat×Operand)):Option (Prop×AO×List Nat):=match own with | some tys=>bsD P tys ρ O t len parts | none=>bsE P ρ O t len parts
def nsE(ρ:Operand->AV)(O:zbI)(it:Operand):Option (Prop×AV×Nat×AO×List Nat×Bool):=
 match ρ it with
 | .mo id=>match O id with
  | some (.sit s pos)=>if pos<s.size then some ((s.data.getD pos 0).toNat <128,.tup [.d (.lit (.bool true)),.d (.lit (.int .i64 pos)),.d (.lit (.int .i32 (s.data.getD pos 0).toNat))],id,.sit s (pos+1),[],false)
   else some (True,.tup [.d (.lit (.bool false))],id,.sit s pos,[],false)
  | _=>none
 | _=>none
noncomputable def zl4(P:Program)(own:Option (List (TypeId×Nat)))(dst:Nat)(ρ:Operand->AV)(O:zbI):Op->Option (Option (Prop×AV×Nat×AO×List Nat×Bool))
 | .store t x v=>some ((stE2 P ρ O t x v).map fun r=>(r.1,.und,r.2.1,r.2.2,[],false))
 | .buildSlice t len parts=>some ((bsE2 P own ρ O t len parts).map fun r=>(r.1,.ar dst len,dst,r.2.1,r.2.2,true))
 | .makeMap _ none=>some (mmE dst)
 | .makeSlice t l m=>some (msE P dst ρ t l m)
 | .mapUpdate t m k x=>some (muR (muE P ρ O t m k x))
 | .insert t m k x=>some (muR (muE P ρ O t m k x))
 | .mapEntry t m k=>some (meE P ρ O t m k)
 | .entryStore _ m s x=>some (esE P ρ O m s x)
 | .range t x=>some (rgE P dst ρ t x)
 | .next it true=>some (nsE ρ O it)
 | .box t x=>match own with
  | some _=>some (bxE P dst ρ O t x)
  | none=>none
 | .call {callee:=.builtin .append,args,argTypes}=>match args.toList,argTypes.toList with
  | [s,x],[t,t']=>if t=t' then some (match apE P dst ρ O t s x with | some r=>some r | none=>match apD P ρ O t s x with | some r=>some r | none=>apS P dst ρ O t s x)else some (apT P ρ O t t' s x)
  | _,_=>some none
 | .call {callee:=.builtin .delete,args,argTypes}=>match args.toList,argTypes.toList with
  | [m,k],[t,_]=>some (mdE P ρ O t m k)
  | _,_=>some none
 | .call {callee:=.builtin .clear,args,argTypes}=>match args.toList,argTypes.toList with
  | [x],[t]=>some (clE P ρ O t x)
  | _,_=>some none
 | _=>none
def ewp(N:NP)(o:Oper)(r:Option (Prop×AV×Nat×AO×List Nat×Bool))(σ:St)(K:St->Prop):Prop:=
 match r with
 | some (vc,V,id,x,ids,isNew)=>vc/\(isNew=true->zff (o.dst.getD 0) (drop σ.objs ids)/\ ∀t,(σ.tmps t).noRef [o.dst.getD 0])/\zdc N o.dst/\K (σ.put o.dst V (upd (drop σ.objs ids) id (some x)))
 | none=>False

def cwp(P:Program)(N:NP)(f:FuncId)(args:List AV)(dst:Option Nat)(σ:St)(K:St->Prop):Prop:=
 match frz.frzL σ.objs args with
 | some (vc,ds,ids)=>vc/\zdc N dst/\ ∃V,FnP P f ds V []/\zrv V=true/\
   K (σ.put dst V (if flat V then σ.objs else drop σ.objs ids))
 | none=>False

def gcall(P:Program)(N:NP)(f:FuncId)(args:List AV)(dst:Option Nat)(σ:St)(K:St->Prop):Prop:=
 ∃(r:List (Nat×Nat)) (cargs:List AV) (Oi:zbI) (Post:AV->zbI->List Nat->Prop),FnG P f cargs Oi Post/\AV.renL r cargs=args/\zpV r/\(∀id o,Oi id=some o-> ∃j,lkN r id=some j/\σ.objs j=some (o.ren r))/\
  (∀i j,lkN r i=some j->Oi i=none->zof j σ)/\zdc N dst/\
  ∀V Oo new,Post V Oo new->(∀i o,Oo i=some o-> ∃j,lkN r i=some j)/\(∀i∈new,Oi i=none)/\K (σ.put dst (V.ren r) (zhK σ.objs r Oo))

def zGW(P:Program)(N:NP)(f:FuncId)(args:List AV)(dst:Option Nat)(σ:St)(K:St->Prop):Prop:=
 ∃(r:List (Nat×Nat)) (cargs:List AV) (Oi:zbI) (Post:AV->zbI->List Nat->Prop) (PX:Value->Prop),FnX P f cargs Oi Post PX/\AV.renL r cargs=args/\zpV r/\(∀id o,Oi id=some o-> ∃j,lkN r id=some j/\σ.objs j=some (o.ren r))/\
  (∀i j,lkN r i=some j->Oi i=none->zof j σ)/\zdc N dst/\
  (∀V Oo new,Post V Oo new->(∀i o,Oo i=some o-> ∃j,lkN r i=some j)/\(∀i∈new,Oi i=none)/\K (σ.put dst (V.ren r) (zhK σ.objs r Oo)))/\
  ∀v,PX v->pxS N v (zhK σ.objs r fun _=>none)

structure YEnv (W W':World) (F F':Nat->Prop) (s s':List Nat):Prop where
 os:W'.os=W.os
 tape:W'.tape=W.tape
 output:W'.output=W.output
 size:W.heap.size<=W'.heap.size
 old: ∀b,b<W.heap.size->b∉s->W'.heap[b]? =W.heap[b]?
 f0: ∀b,F b->F' b
 fold: ∀b,F' b->F b\/(W.heap.size<=b/\b<W'.heap.size)\/b∈s
 own: ∀b∈s',¬F' b/\(b∈s\/(W.heap.size<=b/\b<W'.heap.size))
 nd:s'.Nodup
def zr1(P:Program)(lim:Nat)(fam:List (List D)->XJ lim)(stop:XJ lim)(l:Nat)(A:List (List D)->Prop):Prop:=
 ∀(n:Nat) (W:World) (F:Nat->Prop) (s:List Nat) (pre:List (List D)) (x:List D) (vs:List Value),(fam pre).J W F s->A (pre++[x])->zav W F x vs->(∀b,F b->b<W.heap.size)->(∀b∈s,¬F b/\b<W.heap.size)->s.Nodup->lim<=W.heap.size->
  ∃fn tmps assign body,(Instr.yield l vs.toArray).run P W= .ok (.round l fn tmps assign body) W/\RoundIn Fence.wide n P l fn tmps assign body W fun e W'=>
   ∃F' s',YEnv W W' F F' s s'/\((e= .returned (.bool true)/\(fam (pre++[x])).J W' F' s')\/(e= .returned (.bool false)/\stop.J W' F' s'))
def ywp(P:Program)(N:NP)(id:Nat)(args:List AV)(dst:Option Nat)(σ:St)(K:St->Prop):Prop:=
 match σ.objs id,frz.frzL σ.objs args with
 | some (.ext lim fam stop l pre),some (vc,xs,ids)=>(vc/\id∉ids)/\zdc N dst/\ ∃A,zr1 P lim fam stop l A/\A (pre++[xs])/\
   K (σ.put dst (.d (.lit (.bool true))) (upd (drop σ.objs ids) id (some (.ext lim fam stop l (pre++[xs])))))/\K (σ.put dst (.d (.lit (.bool false))) (upd (drop σ.objs ids) id (some (.ext lim (fun _=>stop) stop l []))))
 | _,_=>False
def nilwp(N:NP)(es:List (List D))(ng:Bool)(dst:Option Nat)(σ:St)(K:St->Prop):Prop:=
 zdc N dst/\ ∀b:Bool,(b=true->es=[])->K (σ.put dst (.d (.lit (.bool (b !=ng)))) σ.objs)
def nxwp(N:NP)(id:Nat)(ks vs:List D)(bs:List Nat)(clock:Nat)(seen:List Nat)(dst:Option Nat)(σ:St)(K:St->Prop):Prop:=
 zdc N dst/\(∀j,j<ks.length->j∉seen->K (σ.put dst (.tup [.d (.lit (.bool true)),.d (ks.getD j default),.d (vs.getD j default)]) (upd σ.objs id (some (.it ks vs bs clock (seen++[j]))))))/\
  ((∀j,j<ks.length->j∈seen)->K (σ.put dst (.tup [.d (.lit (.bool false))]) σ.objs))

inductive OKd where
 | call (f:FuncId) (args:List AV)
 | yld (id:Nat) (args:List AV)
 | nil (es:List (List D)) (ng:Bool)
 | nxt (id:Nat) (ks vs:List D) (bs:List Nat) (clock:Nat) (seen:List Nat)
 | eff (r:Option (Prop×AV×Nat×AO×List Nat×Bool))
 | q
def vfOf:AV->Option (FuncId×List AV×List AV)
 | .d (.clo (.func f) fs cs)=>some (f,fs.map .d,cs.map .d)
 | .clo (.func f) fs cs=>some (f,fs,cs)
 | _=>none
def nilE(P:Program)(ρ:Operand->AV):Op->Option (List (List D)×Bool)
 | .binOp .eql t x y _=>match ρ x,ρ y with
  | .d (.sl es),.nils =>match P.underlying t with
   | some (.slice _)=>some (es,false)
   | _=>none
  | _,_=>none
 | .binOp .neq t x y _=>match ρ x,ρ y with
  | .d (.sl es),.nils =>match P.underlying t with
   | some (.slice _)=>some (es,true)
   | _=>none
  | _,_=>none
 | _=>none
noncomputable def zpk(P:Program)(own:Option (List (TypeId×Nat)))(dst:Nat)(ρ:Operand->AV)(O:zbI)(op:Op):OKd:=
 match op with
 | .call {callee:=.value f,args,..}=>match vfOf (ρ f)with
  | some (g,fs,cs)=>.call g (fs++args.toList.map ρ++cs)
  | none=>match ρ f with
   | .yv id=>.yld id (args.toList.map ρ)
   | _=>.q
 | .next it false=>match ρ it with
  | .mo id=>match O id with
   | some (.it ks vs bs clock seen)=>.nxt id ks vs bs clock seen
   | _=>.q
  | _=>.q
 | op=>match nilE P ρ op with
  | some (es,ng)=>.nil es ng
  | none=>match zl4 P own dst ρ O op with
   | some r=>.eff r
   | none=>.q
noncomputable def owp(P:Program)(N:NP)(o:Oper)(σ:St)(K:St->Prop):Prop:=
 (∃v,pncE (St.ev σ.tmps) o.op=some v/\pxS N v σ.objs)\/
 match zpk P (zru N o.dst) (o.dst.getD 0) (St.ev σ.tmps) σ.objs o.op with
 | .call f args=>cwp P N f args o.dst σ K\/gcall P N f args o.dst σ K\/zGW P N f args o.dst σ K
 | .yld id args=>ywp P N id args o.dst σ K
 | .nil es ng=>nilwp N es ng o.dst σ K
 | .nxt id ks vs bs clock seen=>nxwp N id ks vs bs clock seen o.dst σ K
 | .eff r=>ewp N o r σ K
 | .q =>qwp P N o σ K

def FW:Option Nat->Fence
 | none=>Fence.wide
 | some l=>Fence.wide.inRound l
theorem FW_fn(R:Option Nat)(f:Nat):(FW R).fn f:=by cases R <;> trivial
theorem zzI(R:Option Nat):(FW R).depth =none:=by cases R <;> rfl
theorem zp1{R:Option Nat}{n:Nat}{P:Program}{f:FuncId}{args:Array Value}{w:World}{Q:Ending->World->Prop}(h:Calls P f args w Q):CallsIn (FW R) n P f args w Q:=by
 cases R with
 | none=>exact callsIn_wide.2 h
 | some l=>exact callsIn_wide.2 h
theorem zhf{R:Option Nat}{n:Nat}{P:Program}{o:Oper}{a:Act}{W W':World}{v:Value}{next:Act->World->Prop}{Q:Exit->Act->World->Prop}(ho: ∀c,o.op≠ .defer c)
  (h:(execOp a.eval o).run P W= .ok (.value v) W') (hk:next (a.put o.dst v) W'):o.wpIn (FW R) n P a W next Q:=by
 refine⟨fun f _=>FW_fn R f,?_⟩;rw[Oper.semAt_eq _ _ _ ho,h];exact hk
theorem wpIn_skipped{R:Option Nat}{n:Nat}{P:Program}{o:Oper}{a:Act}{W W':World}{next:Act->World->Prop}{Q:Exit->Act->World->Prop}(ho: ∀c,o.op≠ .defer c)
  (h:(execOp a.eval o).run P W= .ok .skip W') (hk:next (a.put o.dst undef) W'):o.wpIn (FW R) n P a W next Q:=by
 refine⟨fun f _=>FW_fn R f,?_⟩;rw[Oper.semAt_eq _ _ _ ho,h];exact hk
theorem zwp{R:Option Nat}{n:Nat}{P:Program}{o:Oper}{a:Act}{W W':World}{f:Nat}{args:Array Value}{next:Act->World->Prop}{Q:Exit->Act->World->Prop}(ho: ∀c,o.op≠ .defer c)
  (h:(execOp a.eval o).run P W= .ok (.enter f args) W') (hk:Calls P f args W' fun | .returned v,w''=>next (a.put o.dst v) w'' | .panicked zp2,w''=>Q (.panic zp2) a w'' | .outgrown,_=>LetsOut Q):o.wpIn (FW R) n P a W next Q:=by
 refine⟨fun f _=>FW_fn R f,?_⟩;rw[Oper.semAt_eq _ _ _ ho,h];exact⟨fun hd=>(by rw[zzI]at hd; cases hd),zp1 hk⟩

section
variable {c:Ctx} {O:zbI} {W:World} {F F':Nat->Prop} {η:Nat->Value} {S:Nat->List Nat}
theorem Rel.put{σ:St}{a:Act}{η':Nat->Value}{S':Nat->List Nat}{O':zbI}{W':World}{new:List Nat}{V:AV}{v:Value}{dst:Option Nat}(hsz:a.tmps.size=c.N.n/\ ∀t∈c.N.pins,a.tmps.getD t undef=c.pv t)(hdf:a.defers=(c.ds.map fun D=>{target:=.collected D,args:=#[]})++c.dl)(hmem:Mem c O' W' F' η' S')
  (hk:za7 σ.objs O' η η' new) (hF: ∀b,F b->F' b/\W'.heap[b]? =W.heap[b]?) (ht: ∀t,zaL σ.objs W F η (σ.tmps t) (a.tmps.getD t undef)) (hn: ∀t,(σ.tmps t).noRef new) (hd:zdc c.N dst)
  (hv:zaL O' W' F' η' V v):Rel c (σ.put dst V O') (a.put dst v) W':=by
 cases dst with
 | none=>exact⟨hsz,hdf,F',η',S',hmem,fun t=>zaL.pres hk hF _ _ (hn t) (ht t)⟩
 | some d=>
  refine⟨⟨by simpa [Act.put]using hsz.1,fun t ht'=> ?_⟩,hdf,F',η',S',hmem,fun t=> ?_⟩
  ·have hne:d≠t:=fun e=>hd.2 (e▸ht');simp only[Act.put];simp_all
  simp only[St.put,Act.put,upd];by_cases h:t=d
  ·subst h;have hlt:t<a.tmps.size:=by rw[hsz.1]; exact hd.1
   simp_all
  ·simp only[if_neg h];rw[Array.getD_eq_getD_getElem?,Array.getElem?_setIfInBounds,if_neg (fun e=>h e.symm),<-Array.getD_eq_getD_getElem?];exact zaL.pres hk hF _ _ (hn t) (ht t)
end

theorem newOf_noRef{dst:Nat}{n:Option AO}{σ:St}(h:n.isSome=true->zof dst σ)(t:Nat):(σ.tmps t).noRef (newOf dst n):=by
 cases n with
 | none=>exact AV.noRef_nil _
 | some o=>exact(h rfl).2 t

theorem zvW{c:Ctx}{σ:St}{a:Act}{W:World}{F:Nat->Prop}{η:Nat->Value}{S:Nat->List Nat}(hm:Mem c σ.objs W F η S)(ht: ∀t,zaL σ.objs W F η (σ.tmps t) (a.tmps.getD t undef))
  {o:Oper} {dst:Nat} {vc:Prop} {V:AV} {n:Option AO} (hq:zeu c.P dst (St.ev σ.tmps) σ.objs o.op=some (vc,V,n)) (hvc:vc) (hf:n.isSome=true->zof dst σ):
  zeM c σ.objs W F η dst ((execOp a.eval o).run c.P W) V n:=by
 have hρ: ∀x,zaL σ.objs W F η (St.ev σ.tmps x) (a.eval x):=zhZ ht;have hn:zof dst σ-> ∀x,(St.ev σ.tmps x).noRef [dst]:=by
  intro h x;cases x with
  | tmp t=>exact h.2 t
  | const v=>exact zxm _ v
  | global g=>simp[St.ev,AV.noRef]
  | func f=>simp[St.ev,AV.noRef]
 cases ho:o.op with
 | move x=>rw[ho]at hq; simp only[zeu,Option.some.injEq,Prod.mk.injEq]at hq; obtain⟨_,rfl,rfl⟩:=hq; exact q_move hm hρ x (.inl ho)
 | assign x=>rw[ho]at hq; simp only[zeu,Option.some.injEq,Prod.mk.injEq]at hq; obtain⟨_,rfl,rfl⟩:=hq; exact q_move hm hρ x (.inr ho)
 | pick x y z=>grind [q_pick]
 | load t x=>grind [q_load]
 | nilCheck x=>grind [q_nilCheck]
 | binOp op t x y t'=>grind [q_binOp]
 | unOp op t x=>grind [q_unOp]
 | makeInterface t x=>rw[ho]at hq; exact q_mkIfc hm hρ t x ho hq
 | convert s t x=>grind [q_convert]
 | fieldAddr s x f=>grind [q_fieldAddr]
 | field s x f=>grind [q_field]
 | indexAddr t x y=>grind [q_indexAddr]
 | index t x y=>grind [q_index]
 | extract x i=>grind [q_extract]
 | build t ps=>grind [q_build]
 | entry it=>grind [q_entry]
 | makeFunc f fs cs=>grind [zeu,q_makeFunc]
 | lookup t m x ok=>grind [q_lookup]
 | slice t x lo hi mx=>grind [q_slice]
 | alloc t=>
  rw[ho]at hq;have hs:n.isSome=true:=by grind [zeu,Option.map_eq_some_iff]
  exact q_alloc hm t ho (hf hs).1 hq
 | box t x=>
  rw[ho]at hq;have hs:n.isSome=true:=by
   grind [zeu]
  exact q_box hm hρ (hn (hf hs)) t x ho (hf hs).1 hq hvc
 | call cl=>
  rw[ho]at hq;obtain⟨callee,args,ts⟩:=cl;cases callee with
  | builtin b=>cases b <;> first | exact q_len hm hρ args ts ho hq hvc | exact q_min hm hρ args ts ho hq | exact q_max hm hρ args ts ho hq | (simp[zeu]at hq; done)
  | value f=>simp[zeu]at hq
  | invoke r m=>simp[zeu]at hq
 | _=>rw[ho]at hq; simp[zeu]at hq

theorem ztV{c:Ctx}{σ:St}{a:Act}{W:World}(h:Rel c σ a W){o:Oper}{K:St->Prop}(hq:qwp c.P c.N o σ K){next:Act->World->Prop}{Q:Exit->Act->World->Prop}{R:Option Nat}{n:Nat}
  (hK: ∀σ' a' W',K σ'->Rel c σ' a' W'->next a' W'):o.wpIn (FW R) n c.P a W next Q:=by
 obtain⟨hsz,hdf,F,η,S,hm,ht⟩:=h;unfold qwp at hq;split at hq
 ·rename_i vc V n hs;obtain⟨hvc,hf,hd,hk⟩:=hq;obtain⟨v,W',F',η',S',hr,h1,h2,h3,h4,_⟩:=zvW hm ht hs hvc hf;exact zhf (by grind [zeu]) hr (hK _ _ _ hk (Rel.put hsz hdf h1 h2 h3 ht (newOf_noRef hf) hd h4))
 simp_all

theorem run_next_str{P:Program}(W:World)(r:Nat)(s:ByteArray)(pos:Nat)(ty:TypeId)(h3:W.heap[r]? =some (.stringIter s pos))(h:pos<s.size)(ha:(s[pos]'h).toNat <128):
  (Instr.next (.pointer (some ⟨r,0,none⟩)) true ty).run P W= .ok (.tuple #[.bool true,.int .i64 pos,.int .i32 (s[pos]'h).toNat]) {W with heap:=W.heap.setIfInBounds r (.stringIter s (pos+1))}:=by
 simp only[Instr.next,getObj,setObj,Sem.run_bind,Sem.run,h3,Result.andThen,h,if_true,decode_ascii s pos h ha];simp[goInt,Sem.run,h3]
theorem effE_sound{c:Ctx}{σ:St}{a:Act}{W:World}{F:Nat->Prop}{η:Nat->Value}{S:Nat->List Nat}(hm:Mem c σ.objs W F η S)(ht: ∀t,zaL σ.objs W F η (σ.tmps t) (a.tmps.getD t undef))
  {own:Option (List (TypeId×Nat))} {o:Oper} {dst:Nat} {vc:Prop} {V:AV} {id:Nat} {x:AO} {ids:List Nat} {isNew:Bool} (hq:zl4 c.P own dst (St.ev σ.tmps) σ.objs o.op=some (some (vc,V,id,x,ids,isNew))) (hvc:vc)
  (hf:isNew=true->zff dst (drop σ.objs ids)):
  ∃v W' F' η' S',((execOp a.eval o).run c.P W= .ok (.value v) W'\/((execOp a.eval o).run c.P W= .ok .skip W'/\v=undef))/\Mem c (upd (drop σ.objs ids) id (some x)) W' F' η' S'/\
   za7 σ.objs (upd (drop σ.objs ids) id (some x)) η η' (if isNew then [dst]else [])/\(∀b,F b->F' b/\W'.heap[b]? =W.heap[b]?)/\zaL (upd (drop σ.objs ids) id (some x)) W' F' η' V v:=by
 have hρ: ∀x,zaL σ.objs W F η (St.ev σ.tmps x) (a.eval x):=zhZ ht;have hnil: ∀O:zbI,drop O []=O:=fun O=>by rfl
 cases hop:o.op with
 | store t y v=>
  rw[hop]at hq;simp only[zl4,Option.some.injEq,Option.map_eq_some_iff,Prod.mk.injEq]at hq;obtain⟨⟨vc',id',x'⟩,h1,rfl,rfl,rfl,rfl,rfl,rfl⟩:=hq;rw[hnil];have key: ∃W',(Instr.storeAt t (a.eval y) (a.eval v)).run c.P W= .ok () W'/\Mem c (upd σ.objs id' (some x')) W' F η S/\za7 σ.objs (upd σ.objs id' (some x')) η η []/\ ∀b,F b->F b/\W'.heap[b]? =W.heap[b]? :=by
   unfold stE2 at h1;split at h1
   ·rename_i r hr;simp only[Option.some.injEq]at h1;rw[h1]at hr;exact stE_sound hm hρ hr hvc
   ·exact stD_sound hm hρ h1 hvc
  obtain⟨W',h2,h3,h4,h5⟩:=key;exact⟨undef,W',F,η,S,.inr ⟨by simp[execOp,hop,h2],rfl⟩,h3,h4,h5,by simp[zaL]⟩
 | box t x=>
  rw[hop]at hq;cases own with
  | none=>simp[zl4]at hq
  | some tys=>
   simp only[zl4,Option.some.injEq]at hq;have hnew:isNew=true/\ids=[]:=by
    unfold bxE at hq;grind
   obtain⟨rfl,rfl⟩:=hnew;have hf':=hf rfl;rw[hnil]at hf' ⊢;obtain⟨⟨rfl,_,_⟩,v,W',η',S',h2,h3,h4,h5,h6⟩:=bxE_sound hm hρ hq hvc hf';exact⟨v,W',F,η',S',.inl (by simp[execOp,hop,h2]),h3,by grind,h5,h6⟩
 | buildSlice t len parts=>
  rw[hop]at hq;simp only[zl4,Option.some.injEq,Option.map_eq_some_iff,Prod.mk.injEq]at hq;obtain⟨⟨vc',x',ids'⟩,h1,rfl,rfl,rfl,rfl,rfl,rfl⟩:=hq;cases own with
  | some tys=>
   obtain⟨v,W',η',S',h2,h3,h4,h5,h6⟩:=bsD_sound hm hρ h1 hvc (hf rfl);exact⟨v,W',F,η',S',.inl (by simp[execOp,hop,h2]),h3,by grind,h5,h6⟩
  | none=>
   obtain⟨v,W',F',η',S',h2,h3,h4,h5,h6⟩:=bsE_sound hm hρ h1 hvc (hf rfl);exact⟨v,W',F',η',S',.inl (by simp[execOp,hop,h2]),h3,by grind,h5,h6⟩
 | makeSlice t l m=>
  rw[hop]at hq;simp only[zl4,Option.some.injEq]at hq;have hnew:isNew=true/\ids=[]:=by
   unfold msE at hq;grind
  obtain⟨rfl,rfl⟩:=hnew;have hf':=hf rfl;rw[hnil]at hf' ⊢;obtain⟨rfl,_,_,v,W',η',S',h2,h3,h4,h5,h6⟩:=msE_sound hm hρ hq hvc hf';exact⟨v,W',F,η',S',.inl (by simp[execOp,hop,h2]),h3,by grind,h5,h6⟩
 | makeMap t res=>
  rw[hop]at hq;cases res with
  | some _=>simp[zl4]at hq
  | none=>
   simp only[zl4,mmE,Option.some.injEq,Prod.mk.injEq]at hq;obtain⟨rfl,rfl,rfl,rfl,rfl,rfl⟩:=hq;have hf':=hf rfl;rw[hnil]at hf' ⊢;obtain⟨v,W',η',S',h2,h3,h4,h5,h6⟩:=mmE_sound hm t hf';exact⟨v,W',F,η',S',.inl (by simp[execOp,hop,h2]),h3,by grind,h5,h6⟩
 | mapUpdate t m k y=>
  rw[hop]at hq;simp only[zl4,Option.some.injEq]at hq;obtain⟨rfl,W',F',S',h2,h3,h4,h5,rfl⟩:=muE_sound hm hρ hq hvc;exact⟨undef,W',F',η,S',.inr ⟨by simp[execOp,hop,h2],rfl⟩,h3,h4,h5,by simp[zaL]⟩
 | insert t m k y=>
  rw[hop]at hq;simp only[zl4,Option.some.injEq]at hq;obtain⟨rfl,W',F',S',h2,h3,h4,h5,rfl⟩:=muE_sound hm hρ hq hvc;exact⟨undef,W',F',η,S',.inr ⟨by simp[execOp,hop,h2],rfl⟩,h3,h4,h5,by simp[zaL]⟩
 | mapEntry t m k=>
  rw[hop]at hq;simp only[zl4,Option.some.injEq]at hq;obtain⟨⟨rfl,rfl⟩,v,W',h2,h3,h4,h5,h6⟩:=meE_sound hm hρ hq hvc;rw[hnil];exact⟨v,W',F,η,S,.inl (by simp[execOp,hop,h2]),h3,h4,h5,h6⟩
 | entryStore t m s y=>
  rw[hop]at hq;simp only[zl4,Option.some.injEq]at hq;obtain⟨rfl,W',F',S',h2,h3,h4,h5,rfl⟩:=esE_sound (t:=t) hm hρ hq hvc;exact⟨undef,W',F',η,S',.inr ⟨by simp[execOp,hop,h2],rfl⟩,h3,h4,h5,by simp[zaL]⟩
 | range t y=>
  rw[hop]at hq;simp only[zl4,rgE,Option.some.injEq]at hq;split at hq
  case h_3=>cases hq
  case h_2=>
   rename_i s hu hy;simp only[Option.some.injEq,Prod.mk.injEq]at hq;obtain⟨rfl,rfl,rfl,rfl,rfl,rfl⟩:=hq;have hf':=hf rfl;rw[hnil]at hf' ⊢;have hyr:=hρ y;rw[hy]at hyr;simp only[zaL,Rd]at hyr;have hk:=za7.create (O:=σ.objs) (dst:=dst) (η:=η) (o:=.sit s 0) (.pointer (some ⟨W.heap.size,0,none⟩));obtain⟨m1,m2⟩:=Mem.change (W':=W.iter s 0) (F':=F) hm dst (some (.sit s 0)) (.pointer (some ⟨W.heap.size,0,none⟩)) [W.heap.size] [dst] rfl rfl rfl (by simp[World.iter])
    (fun b hb _=>Below.heap_alloc W _ b hb) (fun _ h=>h) (fun _ h=>.inl h) (fun b hb hF=>by have:=hm.flt b hF; simp_all)
    (by simp) (fun b hb=>.inr (by simp_all [World.iter])) (fun h=>by cases h) hk (fun id o ho _=>hf'.2 id o ho)
    (fun o ho hF=>by
     cases ho;exact⟨W.heap.size,rfl,rfl,heap_alloc_new W _⟩)
   refine⟨.pointer (some ⟨W.heap.size,0,none⟩),_,_,_,_,.inl ?_,m1,by grind,m2,?_⟩
   ·simp[execOp,hop,hyr,run_range_string W t s hu,Result.andThen]
   grind [zaL,upd]
  rename_i kt et ks vs bs clock hu hy;simp only[Option.some.injEq,Prod.mk.injEq]at hq;obtain⟨rfl,rfl,rfl,rfl,rfl,rfl⟩:=hq;have hf':=hf rfl;rw[hnil]at hf' ⊢;have hyr:=hρ y;rw[hy]at hyr;simp only[zaL,Rd]at hyr;obtain⟨b,es,h1,h2,h3,h4,h5,h6,h7⟩:=hyr;have hk:=za7.create (O:=σ.objs) (dst:=dst) (η:=η) (o:=.it ks vs bs clock []) (.pointer (some ⟨W.heap.size,0,none⟩));obtain⟨m1,m2⟩:=Mem.change (W':=W.alloc (.mapIter (some b) clock #[] clock)) (F':=F) hm dst (some (.it ks vs bs clock [])) (.pointer (some ⟨W.heap.size,0,none⟩)) [W.heap.size] [dst] rfl rfl rfl (by simp)
   (fun b hb _=>Below.heap_alloc W _ b hb) (fun _ h=>h) (fun _ h=>.inl h) (fun b hb hF=>by have:=hm.flt b hF; simp_all)
   (by simp) (fun b hb=>.inr (by simp_all)) (fun h=>by cases h) hk (fun id o ho _=>hf'.2 id o ho)
   (fun o ho hF=>by
    cases ho;exact⟨W.heap.size,b,rfl,rfl,heap_alloc_new W _,h2,zwv.mono hF (hF b h2).2 ⟨es,h3,h4,h5,h6,h7⟩,by simp⟩)
  refine⟨.pointer (some ⟨W.heap.size,0,none⟩),_,_,_,_,.inl ?_,m1,by grind,m2,?_⟩
  ·simp[execOp,hop,Instr.range,run_underlying hu,h1,MapKept.run_getObj_map h3,run_newObj_alloc,Result.andThen]
  grind [zaL,upd]
 | next it b=>
  rw[hop]at hq;cases b with
  | false=>simp[zl4]at hq
  | true=>
   simp only[zl4,nsE,Option.some.injEq]at hq;split at hq
   case h_2=>cases hq
   rename_i id' hit;split at hq
   case h_2=>cases hq
   rename_i s pos hO;have hir:=hρ it;rw[hit]at hir;simp only[zaL]at hir;obtain⟨r,h1,h2,h3⟩:=hm.obj id' _ hO;have hav:=(hir _ hO rfl).trans h1;have hrlt:r<W.heap.size:=(Array.getElem?_eq_some_iff.1 h3).1;have hkp: ∀p,za7 σ.objs (upd σ.objs id' (some (.sit s p))) η (upd η id' (η id')) []:=by
    intro p;rw[zcb];intro x y hy;right;by_cases hx:x=id'
    ·grind [upd]
    ·simp only[upd,if_neg hx]at hy;refine⟨y,hy,?_⟩;cases y <;> simp
   split at hq
   ·rename_i hlt;simp only[Option.some.injEq,Prod.mk.injEq]at hq;obtain⟨rfl,rfl,rfl,rfl,rfl,rfl⟩:=hq;rw[hnil];have hset: ∀x,x≠r->(Go.ChangeMaps.setBlock W r (.stringIter s (pos+1))).heap[x]? =W.heap[x]? :=by
     grind [Go.ChangeMaps.setBlock]
    have hset2:(Go.ChangeMaps.setBlock W r (.stringIter s (pos+1))).heap[r]? =some (.stringIter s (pos+1)):=by
     grind [Go.ChangeMaps.setBlock]
    obtain⟨m1,m2⟩:=Mem.change (W':=Go.ChangeMaps.setBlock W r (.stringIter s (pos+1))) (F':=F) hm id' (some (.sit s (pos+1))) (η id') (S id') [] rfl rfl rfl (by simp[Go.ChangeMaps.setBlock])
     (fun x _ hx=>hset x (by grind)) (fun _ h=>h) (fun _ h=>.inl h) (fun x hx=>(hm.apart id' x hx).1) (hm.nd id') (fun x hx=>.inl hx) (fun h=>by cases h) (hkp _)
     (fun x y _ _=>AO.noRef_nil y)
     (fun y hy hF=>by
      cases hy;exact⟨r,h1,h2,hset2⟩)
    rw[zcb,zcb]at m1;have hk:=hkp (pos+1);rw[zcb]at hk;have hget:s.data.getD pos 0=s[pos]'hlt :=by
     have:pos<s.data.size:=hlt;simp only[Array.getD,this,dite_true];rfl
    refine⟨.tuple #[.bool true,.int .i64 pos,.int .i32 (s.data.getD pos 0).toNat],_,F,η,S,.inl ?_,m1,hk,m2,?_⟩
    ·rw[hget]at hvc ⊢;simp[execOp,hop,hav,run_next_str (P:=c.P) W r s pos o.type h3 hlt hvc,Result.andThen,Go.ChangeMaps.setBlock]
    ·simp only[zaL,zaN,Rd];exact⟨[.bool true,.int .i64 pos,.int .i32 (s.data.getD pos 0).toNat],rfl,_,_,rfl,rfl,_,_,rfl,rfl,_,_,rfl,rfl,rfl⟩
   ·rename_i hlt;simp only[Option.some.injEq,Prod.mk.injEq]at hq;obtain⟨rfl,rfl,rfl,rfl,rfl,rfl⟩:=hq;rw[hnil];have hup:upd σ.objs id' (some (.sit s pos))=σ.objs:=by
     funext j;unfold upd;split
     ·rename_i h; rw[h,hO]
     ·rfl
    rw[hup];refine⟨.tuple #[.bool false],W,F,η,S,.inl ?_,hm,za7.refl _ _,fun _ h=>⟨h,rfl⟩,?_⟩
    ·simp[execOp,hop,hav,Instr.next,getObj,Sem.run,h3,hlt,Result.andThen]
    ·simp only[zaL,zaN,Rd];exact⟨[.bool false],rfl,_,_,rfl,rfl,rfl⟩
 | call cl=>
  obtain⟨callee,args,ts⟩:=cl;cases callee with
  | value f=>rw[hop]at hq; simp[zl4]at hq
  | invoke r m=>rw[hop]at hq; simp[zl4]at hq
  | builtin bb=>
   cases bb with
   | append=>
    rw[hop]at hq;simp only[zl4]at hq;split at hq
    ·rename_i s y t t' hargs hts;split at hq
     ·rename_i htt;subst htt;simp only[Option.some.injEq]at hq;have ea:args=#[s,y]:=(by grind);have et:ts=#[t,t]:=(by rw[<-hts]);subst ea;subst et;split at hq
      ·rename_i r hr;rw[hq]at hr;obtain⟨v,W',η',S',h2,h3,h4,h5,h6⟩:=apE_sound hm hρ hr hvc hf o.type;exact⟨v,W',F,η',S',.inl (by simp[execOp,hop,resolve,invoke,builtin,h2]),h3,h4,h5,h6⟩
      ·split at hq
       ·rename_i r hr;rw[hq]at hr;obtain⟨rfl,v,W',η',S',h2,h3,h4,h5,h6⟩:=apD_sound hm hρ hr hvc o.type;exact⟨v,W',F,η',S',.inl (by simp[execOp,hop,resolve,invoke,builtin,h2]),h3,h4,h5,h6⟩
       ·obtain⟨v,W',η',S',h2,h3,h4,h5,h6⟩:=apS_sound hm hρ hq hvc hf o.type;exact⟨v,W',F,η',S',.inl (by simp[execOp,hop,resolve,invoke,builtin,h2]),h3,h4,h5,h6⟩
     ·simp only[Option.some.injEq]at hq;have ea:args=#[s,y]:=(by grind);have et:ts=#[t,t']:=(by rw[<-hts]);subst ea;subst et;obtain⟨⟨rfl,rfl⟩,v,W',η',S',h2,h3,h4,h5,h6⟩:=apT_sound hm hρ hq hvc o.type;rw[hnil];exact⟨v,W',F,η',S',.inl (by simp[execOp,hop,resolve,invoke,builtin,h2]),h3,h4,h5,h6⟩
    ·simp at hq
   | delete=>
    rw[hop]at hq;simp only[zl4]at hq;split at hq
    ·rename_i m k t t' hargs hts;simp only[Option.some.injEq]at hq;have ea:args=#[m,k]:=(by grind);have et:ts=#[t,t']:=(by rw[<-hts]);subst ea;subst et;obtain⟨⟨rfl,rfl⟩,W',h2,h3,h4,h5,rfl⟩:=mdE_sound (t':=t') (ty:=o.type) hm hρ hq hvc;rw[hnil];exact⟨.tuple #[],W',F,η,S,.inl (by simp[execOp,hop,resolve,invoke,builtin,h2]),h3,h4,h5,by simp[zaL,zaN]⟩
    ·simp at hq
   | clear=>
    rw[hop]at hq;simp only[zl4]at hq;split at hq
    ·rename_i x t hargs hts;simp only[Option.some.injEq]at hq;have ea:args=#[x]:=(by grind);have et:ts=#[t]:=(by rw[<-hts]);subst ea;subst et;obtain⟨⟨rfl,rfl⟩,v,W',h2,h3,h4,h5,h6⟩:=clE_sound hm hρ hq hvc o.type;rw[hnil];exact⟨v,W',F,η,S,.inl (by simp[execOp,hop,resolve,invoke,builtin,h2]),h3,h4,h5,h6⟩
    ·simp at hq
   | _=>rw[hop]at hq; simp[zl4]at hq
 | _=>rw[hop]at hq; simp[zl4]at hq

theorem ewp_sound{c:Ctx}{σ:St}{a:Act}{W:World}(h:Rel c σ a W){o:Oper}{K:St->Prop}{r:Option (Prop×AV×Nat×AO×List Nat×Bool)}(hr:zl4 c.P (zru c.N o.dst) (o.dst.getD 0) (St.ev σ.tmps) σ.objs o.op=some r)
  (hq:ewp c.N o r σ K) {next:Act->World->Prop} {Q:Exit->Act->World->Prop} {R:Option Nat} {n:Nat} (hK: ∀σ' a' W',K σ'->Rel c σ' a' W'->next a' W'):o.wpIn (FW R) n c.P a W next Q:=by
 obtain⟨hsz,hdf,F,η,S,hm,ht⟩:=h;unfold ewp at hq;split at hq
 ·rename_i vc V id x ids isNew;obtain⟨hvc,hf,hd,hk⟩:=hq;obtain⟨v,W',F',η',S',h1,h2,h3,h4,h5⟩:=effE_sound hm ht hr hvc (fun e=>(hf e).1);have hdef: ∀d,o.op≠ .defer d:=by grind [zl4]
  have hrel:=hK _ _ _ hk (Rel.put hsz hdf h2 h3 h4 ht (by
   grind [AV.noRef_nil]) hd h5)
  grind [zhf,wpIn_skipped]
 simp_all

theorem relVs_isD{O O':zbI}{W:World}{F:Nat->Prop}{η η':Nat->Value}: ∀(xs:List AV) (vs:List Value),xs.all isD=true->zaN O W F η xs vs->zaN O' W F η' xs vs
 | [],_,_,h=>h
 | x::xs,vs,hd,h=>by
  simp only[List.all_cons,Bool.and_eq_true]at hd;simp only[zaN]at h ⊢;obtain⟨v,rest,h1,h2,h3⟩:=h;refine⟨v,rest,h1,?_,relVs_isD xs rest hd.2 h3⟩;cases x <;> simp[isD]at hd <;> exact h2
theorem relV_pure{O O':zbI}{W:World}{F:Nat->Prop}{η η':Nat->Value}{V:AV}{v:Value}(hp:zrv V=true)(h:zaL O W F η V v):zaL O' W F η' V v:=by
 cases V <;> simp[zrv]at hp
 ·exact h
 grind [zaL,relVs_isD]
theorem zt4{O O':zbI}{W W':World}{F F':Nat->Prop}{η η':Nat->Value}: ∀(xs:List AV) (vs:List Value),xs.all isLit=true->zaN O W F η xs vs->zaN O' W' F' η' xs vs
 | [],_,_,h=>h
 | x::xs,vs,hd,h=>by
  simp only[List.all_cons,Bool.and_eq_true]at hd;simp only[zaN]at h ⊢;obtain⟨v,rest,h1,h2,h3⟩:=h;refine⟨v,rest,h1,?_,zt4 xs rest hd.2 h3⟩;cases x with
  | d y=>cases y <;> simp[isLit]at hd; exact h2
  | _=>simp[isLit]at hd
theorem relV_flat{O O':zbI}{W W':World}{F F':Nat->Prop}{η η':Nat->Value}{V:AV}{v:Value}(hp:flat V=true)(h:zaL O W F η V v):zaL O' W' F' η' V v:=by
 cases V with
 | d y=>cases y <;> simp[flat]at hp; exact h
 | tup vs=>
  grind [zaL,zt4,flat]
 | _=>simp[flat]at hp

theorem Mem.below{P:Program}{W W':World}{O:zbI}{F F':Nat->Prop}{N:NP}{pv:Nat->Value}{η:Nat->Value}{S:Nat->List Nat}(h:Mem ⟨P,N,W,F,noO,[],[],pv,[]⟩ O W' F' η S):Below W.heap.size W W':=
 ⟨h.os,h.tape,h.output,h.size,fun b hb=>h.old b hb (fun h=>h)⟩

theorem zt5{O:zbI}{W:World}{F:Nat->Prop}{η:Nat->Value}{tmps:Nat->AV}{a:Act}(h: ∀t,zaL O W F η (tmps t) (a.tmps.getD t undef)): ∀xs:List Operand,zaN O W F η (xs.map (St.ev tmps)) (xs.map a.eval)
 | []=>by simp[zaN]
 | x::xs=>by simp only[List.map_cons,zaN]; exact⟨_,_,rfl,zhZ h x,zt5 h xs⟩

theorem vf_run{O:zbI}{W:World}{F:Nat->Prop}{η:Nat->Value}{x:AV}{v:Value}{f:Nat}{fs cs:List AV}(h:zaL O W F η x v)(hx:vfOf x=some (f,fs,cs)):
  ∃a b:List Value,v= .func (.func f) a.toArray b.toArray/\zaN O W F η fs a/\zaN O W F η cs b:=by
 unfold vfOf at hx;grind [zaL,Rd,zaN.of_ds]

theorem zH6{c:Ctx}{σ:St}{a:Act}{W:World}{F:Nat->Prop}{η:Nat->Value}(ht: ∀t,zaL σ.objs W F η (σ.tmps t) (a.tmps.getD t undef)){o:Oper}{fv:Operand}{args:Array Operand}{ts:Array TypeId}(ho:o.op= .call {callee:=.value fv,args:=args,argTypes:=ts})
  {f:Nat} {fs cs:List AV} (hx:vfOf (St.ev σ.tmps fv)=some (f,fs,cs)) (hc: ∀W as,(callFunc f as).run c.P W= .ok (.enter f as) W):
  ∃xs:List Value,(execOp a.eval o).run c.P W= .ok (.enter f xs.toArray) W/\zaN σ.objs W F η (fs++args.toList.map (St.ev σ.tmps)++cs) xs:=by
 obtain⟨x,y,h1,h2,h3⟩:=vf_run (zhZ ht fv) hx;refine⟨x++args.toList.map a.eval++y,?_,(zaN.append _ _ _).2 ⟨_,_,rfl,(zaN.append _ _ _).2 ⟨_,_,rfl,h2,zt5 ht args.toList⟩,h3⟩⟩;have e1:(args.toList.map a.eval).toArray =args.map a.eval:=by grind
 grind [execOp,resolve,Deferred.ofValue,invoke]

theorem cwp_sound{c:Ctx}{σ:St}{a:Act}{W:World}(h:Rel c σ a W){o:Oper}{fv:Operand}{args:Array Operand}{ts:Array TypeId}(ho:o.op= .call {callee:=.value fv,args:=args,argTypes:=ts})
  {f:Nat} {fs cs:List AV} (hx:vfOf (St.ev σ.tmps fv)=some (f,fs,cs)) {K:St->Prop} (hq:cwp c.P c.N f (fs++args.toList.map (St.ev σ.tmps)++cs) o.dst σ K) {next:Act->World->Prop} {Q:Exit->Act->World->Prop} {R:Option Nat} {n:Nat}
  (hK: ∀σ' a' W',K σ'->Rel c σ' a' W'->next a' W'):o.wpIn (FW R) n c.P a W next Q:=by
 obtain⟨hsz,hdf,F,η,S,hm,ht⟩:=h;unfold cwp at hq;split at hq
 ·rename_i vc ds ids hs;obtain⟨hvc,hd,V,hfn,hp,hk⟩:=hq;obtain⟨xs,hrun,hxs⟩:=zH6 ht ho hx hfn.1;have hrd:=zmx (F':=fun b=>F b\/ ∃id∈ids,b∈S id) hm (fun b hb=>.inl hb) _ _ _ hxs hs hvc (fun id hid b hb=>.inr ⟨id,hid,hb⟩);have hcall:=hfn.2 W (fun b=>F b\/ ∃id∈ids,b∈S id) _ (by rintro b (hb | ⟨id,_,hb⟩); exact hm.flt b hb; exact(hm.apart id b hb).2.1) hrd;refine zwp (by simp_all) hrun (hcall.mono ?_);rintro e W' ⟨v,F',η',S',rfl,hm',hv⟩;have hb:=hm'.below;by_cases hfl:flat V=true
  ·rw[if_pos hfl]at hk;obtain⟨h1,h2⟩:=hm.still (F':=F) hb (fun _ h=>h) (fun _ h=>.inl h);exact hK _ _ _ hk (Rel.put hsz hdf h1 (za7.refl _ _) h2 ht (fun _=>AV.noRef_nil _) hd (relV_flat hfl hv))
  ·rw[if_neg hfl]at hk;obtain⟨h1,h2⟩:=hm.dropL (F':=F') ids hb (fun b hb'=>hm'.f0 b (.inl hb')) (fun b hb'=>by
    by_cases hlt:b<W.heap.size
    ·rcases hm'.fold b hb' hlt with(h3 | h3) | h3
     ·exact .inl h3
     ·simp_all
     ·exact h3.elim
    ·exact .inr (.inl ⟨by omega,hm'.flt b hb'⟩))
   exact hK _ _ _ hk (Rel.put hsz hdf h1 (za7.drop _ _ _) h2 ht (fun _=>AV.noRef_nil _) hd (relV_pure hp hv))
 simp_all

theorem gcall_sound{c:Ctx}{σ:St}{a:Act}{W:World}(h:Rel c σ a W){o:Oper}{fv:Operand}{args:Array Operand}{ts:Array TypeId}(ho:o.op= .call {callee:=.value fv,args:=args,argTypes:=ts})
  {f:Nat} {fs cs:List AV} (hx:vfOf (St.ev σ.tmps fv)=some (f,fs,cs)) {K:St->Prop} (hq:gcall c.P c.N f (fs++args.toList.map (St.ev σ.tmps)++cs) o.dst σ K) {next:Act->World->Prop} {Q:Exit->Act->World->Prop} {R:Option Nat} {n:Nat}
  (hK: ∀σ' a' W',K σ'->Rel c σ' a' W'->next a' W'):o.wpIn (FW R) n c.P a W next Q:=by
 obtain⟨hsz,hdf,F,η,S,hm,ht⟩:=h;obtain⟨r,cargs,Oi,Post,hfn,hargs,hr,hin,hfr,hd,hk⟩:=hq;obtain⟨xs,hrun,hxs⟩:=zH6 ht ho hx hfn.1;have hme:=hm.enter hr hin;rw[<-hargs]at hxs;have hci:=zaN.renIn (r:=r) (Oc:=Oi) (ηc:=fun id=>match lkN r id with | some j=>η j | none=>undef) (fun id o ho=>by
  grind) cargs xs hxs
 have hcall:=hfn.2 W F _ _ _ xs hme (fun b=>by
  constructor
  ·rintro⟨id,j,h1,h2,h3⟩;refine⟨id,?_⟩;cases ho:Oi id with
   | none=>simp_all
   | some _=>simp_all
  grind) hci
 refine zwp (by simp_all) hrun (hcall.mono ?_);rintro e W' ⟨v,V,Oo,new,F',η',S',rfl,hpost,hnx,hm',hv,hkeep⟩;obtain⟨p1,p2,p3⟩:=hk V Oo new hpost;obtain⟨new',n1,m1,m2,m3,m4⟩:=hm.back hr hin (fun i j h1 h2=>(hfr i j h1 h2).1) hm' p1 p2 hnx hkeep;refine hK _ _ _ p3 (Rel.put hsz hdf m1 m2 m3 ht (fun t=>AV.noRef_of _ (fun j hj=> ?_)) hd (zaL.renOut m4 V v hv));obtain⟨i,h1,h2⟩:=n1 j hj;exact(hfr i j h1 h2).2 t

theorem gcallX_sound{c:Ctx}{σ:St}{a:Act}{W:World}(h:Rel c σ a W){o:Oper}{fv:Operand}{args:Array Operand}{ts:Array TypeId}(ho:o.op= .call {callee:=.value fv,args:=args,argTypes:=ts})
  {f:Nat} {fs cs:List AV} (hx:vfOf (St.ev σ.tmps fv)=some (f,fs,cs)) {K:St->Prop} (hq:zGW c.P c.N f (fs++args.toList.map (St.ev σ.tmps)++cs) o.dst σ K) {next:Act->World->Prop} {Q:Exit->Act->World->Prop} {R:Option Nat} {n:Nat}
  (hK: ∀σ' a' W',K σ'->Rel c σ' a' W'->next a' W') (hX: ∀v σ' a' W',pxS c.N v σ'.objs->Rel c σ' a' W'->Q (.panic [{v:=v,recovered:=false}]) a' W'):o.wpIn (FW R) n c.P a W next Q:=by
 obtain⟨hsz,hdf,F,η,S,hm,ht⟩:=h;obtain⟨r,cargs,Oi,Post,PX,hfn,hargs,hr,hin,hfr,hd,hk,hpx⟩:=hq;obtain⟨xs,hrun,hxs⟩:=zH6 ht ho hx hfn.1;have hme:=hm.enter hr hin;rw[<-hargs]at hxs;have hci:=zaN.renIn (r:=r) (Oc:=Oi) (ηc:=fun id=>match lkN r id with | some j=>η j | none=>undef) (fun id o ho=>by
  grind) cargs xs hxs
 have hcall:=hfn.2 W F _ _ _ xs hme (fun b=>by
  constructor
  ·rintro⟨id,j,h1,h2,h3⟩;refine⟨id,?_⟩;cases ho:Oi id with
   | none=>simp_all
   | some _=>simp_all
  grind) hci
 refine zwp (by simp_all) hrun (hcall.mono ?_);rintro e W' (⟨v,V,Oo,new,F',η',S',rfl,hpost,hnx,hm',hv,hkeep⟩ | ⟨v,F',η',S',rfl,hp,hm'⟩)
 ·obtain⟨p1,p2,p3⟩:=hk V Oo new hpost;obtain⟨new',n1,m1,m2,m3,m4⟩:=hm.back hr hin (fun i j h1 h2=>(hfr i j h1 h2).1) hm' p1 p2 hnx hkeep;refine hK _ _ _ p3 (Rel.put hsz hdf m1 m2 m3 ht (fun t=>AV.noRef_of _ (fun j hj=> ?_)) hd (zaL.renOut m4 V v hv));obtain⟨i,h1,h2⟩:=n1 j hj;exact(hfr i j h1 h2).2 t
 ·obtain⟨new',n1,m1,m2,m3,m4⟩:=hm.back (Oo:=fun _=>none) (new:=[]) hr hin (fun i j h1 h2=>(hfr i j h1 h2).1) hm' (fun i o h=>by cases h) (by simp) (by simp) (fun id o h=>by cases h);have:=Rel.put (dst:=none) (V:=.dead) (v:=undef) hsz hdf m1 m2 m3 ht (fun t=>AV.noRef_of _ (fun j hj=>by obtain⟨i,h1,h2⟩:=n1 j hj; exact(hfr i j h1 h2).2 t)) trivial (by simp only[zaL]);exact hX v _ _ _ (hpx v hp) this

theorem pnc_run{O:zbI}{W:World}{F:Nat->Prop}{η:Nat->Value}{P:Program}{ρ:Operand->AV}{a:Operand->Value}(hρ: ∀x,zaL O W F η (ρ x) (a x)){o:Oper}{v:Value}(h:pncE ρ o.op=some v):(execOp a o).run P W= .halt (.panic v) W/\ ∀c,o.op≠ .defer c:=by
 unfold pncE at h;split at h
 ·rename_i x hop;split at h
  ·rename_i d hd;have hx:=hρ x;rw[hd]at hx;unfold litV at h;split at h
   ·rename_i t l;split at h
    ·cases h;simp only[zaL,Rd]at hx;obtain⟨u,h1,rfl⟩:=hx;refine⟨by simp[execOp,hop,h1,Instr.panic,goPanic],fun c e=>by rw[hop]at e; cases e⟩
    ·cases h
   ·cases h
  ·cases h
 ·cases h
theorem wpIn_panic{R:Option Nat}{n:Nat}{P:Program}{o:Oper}{a:Act}{W:World}{v:Value}{next:Act->World->Prop}{Q:Exit->Act->World->Prop}(ho: ∀c,o.op≠ .defer c)
  (h:(execOp a.eval o).run P W= .halt (.panic v) W) (hk:Q (.panic [{v:=v,recovered:=false}]) a W):o.wpIn (FW R) n P a W next Q:=by
 refine⟨fun f _=>FW_fn R f,?_⟩;rw[Oper.semAt_eq _ _ _ ho,h];exact hk

theorem wpIn_round{R:Option Nat}{n:Nat}{P:Program}{o:Oper}{a:Act}{W:World}{l f:Nat}{tmps:Array Value}{as bd:Code}{next:Act->World->Prop}{Q:Exit->Act->World->Prop}(ho: ∀c,o.op≠ .defer c)
  (h:(execOp a.eval o).run P W= .ok (.round l f tmps as bd) W) (hk:RoundIn Fence.wide (n-1) P l f tmps as bd W fun | .returned v,w''=>next (a.put o.dst v) w'' | .panicked zp2,w''=>Q (.panic zp2) a w'' | .outgrown,_=>LetsOut Q):o.wpIn (FW R) n P a W next Q:=by
 refine⟨fun f _=>FW_fn R f,?_⟩;rw[Oper.semAt_eq _ _ _ ho,h];refine⟨fun hd=>(by rw[zzI]at hd; cases hd),?_⟩;cases R with
 | none=>exact hk
 | some l=>exact hk

theorem ywp_sound{c:Ctx}{σ:St}{a:Act}{W:World}(h:Rel c σ a W){o:Oper}{fv:Operand}{args:Array Operand}{ts:Array TypeId}(ho:o.op= .call {callee:=.value fv,args:=args,argTypes:=ts})
  {id:Nat} (hx:St.ev σ.tmps fv= .yv id) {K:St->Prop} (hq:ywp c.P c.N id (args.toList.map (St.ev σ.tmps)) o.dst σ K) {next:Act->World->Prop} {Q:Exit->Act->World->Prop} {R:Option Nat} {n:Nat}
  (hK: ∀σ' a' W',K σ'->Rel c σ' a' W'->next a' W'):o.wpIn (FW R) n c.P a W next Q:=by
 obtain⟨hsz,hdf,F,η,S,hm,ht⟩:=h;unfold ywp at hq;split at hq
 case h_2=>exact hq.elim
 rename_i lim fam stop l pre vc xs ids hO hs;obtain⟨⟨hvc,hid⟩,hd,A,hY,hA,hk1,hk2⟩:=hq;have hf:=zhZ ht fv;rw[hx]at hf;simp only[zaL]at hf;have hfv:=hf _ _ _ _ _ hO;have hrd:=zmx (F':=fun b=>F b\/ ∃id∈ids,b∈S id) hm (fun b hb=>.inl hb) _ _ _ (zt5 ht args.toList) hs hvc (fun id hid b hb=>.inr ⟨id,hid,hb⟩);obtain⟨hm1,hF1⟩:=hm.dropL (W':=W) (F':=fun b=>F b\/ ∃id∈ids,b∈S id) ids (Below.refl _ _) (fun b hb=>.inl hb) (fun b hb=>by
  grind)
 have hO1:drop σ.objs ids id=some (.ext lim fam stop l pre):=by simp only[drop,if_neg hid]; exact hO
 obtain⟨l1,l2⟩:=hm1.lim id _ _ _ _ _ hO1;obtain⟨fn,tmps,as,bd,hrun,hround⟩:=hY (n-1) W _ _ pre xs _ (hm1.obj id _ hO1) hA hrd hm1.flt (fun b hb=>⟨(hm1.apart id b hb).1,(hm1.apart id b hb).2.1⟩) (hm1.nd id) (Nat.le_trans l1 hm1.size);have hop:(execOp a.eval o).run c.P W= .ok (.round l fn tmps as bd) W:=by
  have e1:(args.toList.map a.eval).toArray =args.map a.eval:=by grind
  grind [execOp,resolve,Deferred.ofValue,invoke]
 refine wpIn_round (by simp_all) hop (hround.mono ?_);rintro e W' ⟨F',s',hE,hres⟩;have step: ∀(fam':List (List D)->XJ lim) (pre':List (List D)) (v:Value) (b:Bool),v= .bool b->(fam' pre').J W' F' s'->Rel c (σ.put o.dst (.d (.lit (.bool b))) (upd (drop σ.objs ids) id (some (.ext lim fam' stop l pre')))) (a.put o.dst v) W':=by
  intro fam' pre' v b hv hJ;have hk:za7 (drop σ.objs ids) (upd (drop σ.objs ids) id (some (.ext lim fam' stop l pre'))) η η []:=by
   intro x o ho;right;by_cases hx:x=id
   ·grind [upd]
   ·simp only[upd,if_neg hx]at ho;refine⟨o,ho,?_⟩;cases o <;> simp
  obtain⟨m1,m2⟩:=Mem.update (W':=W') (F':=F') (O':=upd (drop σ.objs ids) id (some (.ext lim fam' stop l pre'))) (η':=η) (S':=upd (fun id=>if id∈ids then []else S id) id s') hm1 (fun x=>x=id) [] hE.os hE.tape hE.output hE.size
   (fun j hj hT=>hE.old j hj (hT id rfl)) hE.f0
   (fun j hj=>by
    rcases hE.fold j hj with h | h | h
    ·exact .inl h
    ·omega
    simp_all)
   (fun x hx=>⟨by simp[upd,hx],rfl,by simp[upd,hx]⟩)
   (fun x hx j hj=>by
    subst hx;simp only[upd,if_true]at hj;obtain⟨q1,q2⟩:=hE.own j hj;simp_all)
   (fun x y j hx hy _ _=>hx.trans hy.symm)
   (fun x hx=>by subst hx; simpa [upd]using hE.nd)
   (fun x hx ho=>by subst hx; simp[upd]at ho)
   hk (fun x o _ _=>AO.noRef_nil o)
   (fun x o hx ho hF=>by
    subst hx;simp only[upd,if_true,Option.some.injEq]at ho;subst ho;simp only[upd,if_true];exact hJ)
   (fun x lim2 fam2 stop2 l3 rest2 hx ho=>by
    grind [upd])
  exact Rel.put hsz hdf m1 ((za7.drop _ _ ids).trans hk (by simp)) (fun b hb=>⟨(m2 b (.inl hb)).1,(m2 b (.inl hb)).2⟩) ht (fun _=>AV.noRef_nil _) hd (by simp only[zaL,Rd]; exact hv)
 grind

theorem nilwp_sound{c:Ctx}{σ:St}{a:Act}{W:World}(h:Rel c σ a W){o:Oper}{es:List (List D)}{ng:Bool}(hx:nilE c.P (St.ev σ.tmps) o.op=some (es,ng)){K:St->Prop}(hq:nilwp c.N es ng o.dst σ K){next:Act->World->Prop}{Q:Exit->Act->World->Prop}{R:Option Nat}{n:Nat}
  (hK: ∀σ' a' W',K σ'->Rel c σ' a' W'->next a' W'):o.wpIn (FW R) n c.P a W next Q:=by
 obtain⟨hsz,hdf,F,η,S,hm,ht⟩:=h;obtain⟨hd,hk⟩:=hq;have key: ∀(op:BinOp) (t t':TypeId) (x y:Operand) (e:TypeId),o.op= .binOp op t x y t'->(op= .eql /\ng=false)\/(op= .neq /\ng=true)->St.ev σ.tmps x= .d (.sl es)->St.ev σ.tmps y= .nils ->c.P.underlying t=some (.slice e)->o.wpIn (FW R) n c.P a W next Q:=by
  intro op t t' x y e hop hng h1 h2 hu;have hxr:=zhZ ht x;rw[h1]at hxr;simp only[zaL,Rd]at hxr;obtain⟨⟨ad,cap,hv,_,hr⟩,_⟩:=hxr;have hyr:=zhZ ht y;rw[h2]at hyr;simp only[zaL]at hyr;have hb:ad=none->es=[]:=by
   grind
  have hrun: ∀d,(Op.equalIn (d+1) t (.slice ad es.length cap) (.slice none 0 0)).run c.P W= .ok ad.isNone W:=by
   intro d;cases ad <;> simp[Op.equalIn,run_underlying hu]
  have hgd:(Op.equal t (.slice ad es.length cap) (.slice none 0 0)).run c.P W= .ok ad.isNone W:=hrun 9999;have:=hk ad.isNone (fun h=>hb (by simpa using h));refine zhf (v:=.bool (ad.isNone !=ng)) (by simp_all) ?_ (hK _ _ _ this (Rel.put hsz hdf hm (za7.refl _ _) (fun _ h=>⟨h,rfl⟩) ht (fun _=>AV.noRef_nil _) hd (by rfl)));rcases hng with⟨rfl,rfl⟩ | ⟨rfl,rfl⟩
  ·simp[execOp,hop,hv,hyr,eqGuard,binOp,hgd]
  ·simp[execOp,hop,hv,hyr,eqGuard,binOp,hgd]
 cases hop:o.op with
 | binOp op t x y t'=>
  rw[hop]at hx;cases op <;> simp only[nilE]at hx <;> first | (cases hx; done) | skip
  all_goals
   grind
 | _=>rw[hop]at hx; simp[nilE]at hx

theorem nxwp_sound{c:Ctx}{σ:St}{a:Act}{W:World}(h:Rel c σ a W){o:Oper}{it:Operand}(hop:o.op= .next it false){id:Nat}{ks vs:List D}{bs:List Nat}{clock:Nat}{seen:List Nat}(hx:St.ev σ.tmps it= .mo id)(hO:σ.objs id=some (.it ks vs bs clock seen))
  {K:St->Prop} (hq:nxwp c.N id ks vs bs clock seen o.dst σ K) {next:Act->World->Prop} {Q:Exit->Act->World->Prop} {R:Option Nat} {n:Nat}
  (hK: ∀σ' a' W',K σ'->Rel c σ' a' W'->next a' W'):o.wpIn (FW R) n c.P a W next Q:=by
 obtain⟨hsz,hdf,F,η,S,hm,ht⟩:=h;obtain⟨hd,hk1,hk2⟩:=hq;have hxr:=zhZ ht it;rw[hx]at hxr;simp only[zaL]at hxr;obtain⟨r,b,h1,h2,h3,hFb,⟨es,h4,h5,h6,h7,h8⟩,h9⟩:=hm.obj id _ hO;have hav:=(hxr _ hO rfl).trans h1;have hlenb:bs.length=es.toList.length:=by rw[h7]; simp
 have hlenk:ks.length=es.toList.length:=by have:=zav.length _ _ h5; simp_all
 obtain⟨sb,hsb⟩: ∃sb,(seen.map (bs.getD · 0)).toArray =sb:=⟨_,rfl⟩;rw[hsb]at h3;have hclk: ∀e∈es.toList,e.born<clock:=fun e he=>h8.2.2 _ (by grind);have hbi: ∀j e,es.toList[j]? =some e->bs.getD j 0=e.born:=fun j e he=>by simp_all
 have hinj: ∀i j,i<bs.length->j<bs.length->bs.getD i 0=bs.getD j 0->i=j:=by
  intro i j hi hj he;have hpw:=List.pairwise_iff_getElem.1 h8.2.1;grind
 have hseen: ∀j e,es.toList[j]? =some e->(sb.contains e.born=true↔j∈seen):=by
  grind
 rcases run_next_at (P:=c.P) W o.type r b clock clock sb es clock h3 h4 hclk (Nat.le_refl _)with⟨n1,n2⟩ | ⟨e,n1,w1,n2,n3⟩
 ·refine zhf (v:=.tuple #[.bool false]) (by grind) (by simp[execOp,hop,hav,n2]) (hK _ _ _ (hk2 fun j hj=> ?_) (Rel.put hsz hdf hm (za7.refl _ _) (fun _ h=>⟨h,rfl⟩) ht (fun _=>AV.noRef_nil _) hd ?_))
  ·obtain⟨e,he⟩: ∃e,es.toList[j]? =some e:=⟨_,List.getElem?_eq_getElem (by omega)⟩;refine(hseen j e he).1 (Classical.not_not.1 fun hne=> ?_);have hm':e∈leftOf es sb:=by
    grind [leftOf]
   grind
  grind [zaL,zaN,Rd]
 ·have hmem:e∈es.toList/\sb.contains e.born=false:=by
   grind [leftOf]
  obtain⟨j,hj⟩:=List.mem_iff_getElem?.1 hmem.1;have hjn:j∉seen:=fun h=>by grind
  have hjl:j<ks.length:=by grind
  obtain⟨kd,k1,k2⟩:=(zav.get? ks _ j h5).1 e.key (by grind);obtain⟨vd,v1,v2⟩:=(zav.get? vs _ j h6).1 e.val (by grind);have hw1:w1.heap=W.heap/\w1.os=W.os/\w1.tape=W.tape/\w1.output=W.output:=by rcases n2 with rfl | rfl <;> exact⟨rfl,rfl,rfl,rfl⟩
  have hrlt:r<W.heap.size:=(Array.getElem?_eq_some_iff.1 h3).1;have hset: ∀x,x≠r->(Go.ChangeMaps.setBlock w1 r (.mapIter (some b) clock (sb.push e.born) clock)).heap[x]? =W.heap[x]? :=by
   grind [Go.ChangeMaps.setBlock]
  have hset2:(Go.ChangeMaps.setBlock w1 r (.mapIter (some b) clock (sb.push e.born) clock)).heap[r]? =some (.mapIter (some b) clock (sb.push e.born) clock):=by
   grind [Go.ChangeMaps.setBlock]
  have hk:za7 σ.objs (upd σ.objs id (some (.it ks vs bs clock (seen++[j])))) η (upd η id (η id)) []:=by
   rw[zcb];intro x y hy;right;by_cases hx:x=id
   ·grind [upd]
   ·simp only[upd,if_neg hx]at hy;refine⟨y,hy,?_⟩;cases y <;> simp
  have hne:b≠r:=by grind
  obtain⟨m1,m2⟩:=Mem.change (W':=Go.ChangeMaps.setBlock w1 r (.mapIter (some b) clock (sb.push e.born) clock)) (F':=F) hm id (some (.it ks vs bs clock (seen++[j]))) (η id) (S id) [] hw1.2.1 hw1.2.2.1 hw1.2.2.2 (by simp[Go.ChangeMaps.setBlock,hw1.1])
   (fun x _ hx=>hset x (by grind)) (fun _ h=>h) (fun _ h=>.inl h) (fun x hx=>(hm.apart id x hx).1) (hm.nd id) (fun x hx=>.inl hx) (fun h=>by cases h) hk
   (fun x y _ _=>AO.noRef_nil y)
   (fun y hy hF=>by
    cases hy;refine⟨r,b,h1,h2,?_,hFb,zwv.mono hF (hset b hne) ⟨es,h4,h5,h6,h7,h8⟩,fun i hi=> ?_⟩
    ·grind
    grind)
  rw[zcb,zcb]at m1;rw[zcb]at hk;refine zhf (v:=.tuple #[.bool true,e.key,e.val]) (by grind) (by simp[execOp,hop,hav,n3]) (hK _ _ _ (hk1 j hjl hjn) (Rel.put hsz hdf m1 hk m2 ht (fun _=>AV.noRef_nil _) hd ?_));simp only[zaL,zaN];grind [Rd,Rd.mono]

theorem owp_sound{c:Ctx}{σ:St}{a:Act}{W:World}(h:Rel c σ a W){o:Oper}{K:St->Prop}(hq:owp c.P c.N o σ K){next:Act->World->Prop}{Q:Exit->Act->World->Prop}
  {R:Option Nat} {n:Nat} (hK: ∀σ' a' W',K σ'->Rel c σ' a' W'->next a' W') (hX: ∀v σ' a' W',pxS c.N v σ'.objs->Rel c σ' a' W'->Q (.panic [{v:=v,recovered:=false}]) a' W'):o.wpIn (FW R) n c.P a W next Q:=by
 unfold owp at hq;rcases hq with⟨v,h1,h2⟩ | hq
 ·obtain⟨_,_,F,η,S,hm,ht⟩:=id h;obtain⟨h3,h4⟩:=pnc_run (P:=c.P) (fun x=>zhZ ht x) h1;exact wpIn_panic h4 h3 (hX v σ a W h2 h)
 have other: ∀k,(match nilE c.P (St.ev σ.tmps) o.op with
   | some (es,ng)=>OKd.nil es ng
   | none=>match zl4 c.P (zru c.N o.dst) (o.dst.getD 0) (St.ev σ.tmps) σ.objs o.op with
    | some r=>.eff r
    | none=>.q)=k->(match k with
   | .call f args=>cwp c.P c.N f args o.dst σ K\/gcall c.P c.N f args o.dst σ K\/zGW c.P c.N f args o.dst σ K
   | .yld id args=>ywp c.P c.N id args o.dst σ K
   | .nil es ng=>nilwp c.N es ng o.dst σ K
   | .nxt id ks vs bs clock seen=>nxwp c.N id ks vs bs clock seen o.dst σ K
   | .eff r=>ewp c.N o r σ K
   | .q =>qwp c.P c.N o σ K)->o.wpIn (FW R) n c.P a W next Q:=by
  grind [nilwp_sound,ewp_sound,ztV]
 obtain⟨k,hk⟩: ∃k,zpk c.P (zru c.N o.dst) (o.dst.getD 0) (St.ev σ.tmps) σ.objs o.op=k:=⟨_,rfl⟩;rw[hk]at hq;cases hop:o.op with
 | call cl=>
  obtain⟨callee,args,ts⟩:=cl;cases callee with
  | value fv=>
   grind [zpk,cwp_sound,gcall_sound,gcallX_sound,ywp_sound,ztV]
  | builtin b=>refine other k ?_ hq; rw[hop]at hk ⊢; exact hk
  | invoke r m=>refine other k ?_ hq; rw[hop]at hk ⊢; exact hk
 | next it isS=>
  cases isS with
  | true=>refine other k ?_ hq; rw[hop]at hk ⊢; exact hk
  | false=>
   grind [zpk,nxwp_sound,ztV]
 | _=>refine other k ?_ hq; rw[hop]at hk ⊢; exact hk
end Go.Aw
