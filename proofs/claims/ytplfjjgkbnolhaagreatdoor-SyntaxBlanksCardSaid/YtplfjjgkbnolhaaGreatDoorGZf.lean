/- Machinery. Conditions: those of each. -/
import Derived.Test.YtplfjjgkbnolhaaGreatDoorGZ
set_option linter.unusedSimpArgs false
set_option linter.unusedVariables false
/-
 REGIONS WHOSE ORDER IS OPEN AND IN WHICH VARIABLES ARE MADE: a new variable stays hidden until the operation that fills it comes up.
 Conditions: Bools on the region's edges and on the order.
-/
namespace Go.Aw
open Go.RowKit

def flB(ops:Array Oper)(i:Nat):Option (Nat×TypeId):=
 match ops[i]? with
 | some o=>match o.op,o.dst,o.guard with
  | .alloc t,some d,none=>some (d,t)
  | _,_,_=>none
 | none=>none
theorem znp{ops:Array Oper}{i d:Nat}{t:TypeId}(h:flB ops i=some (d,t)): ∃o,ops[i]? =some o/\o.op= .alloc t/\o.dst=some d/\o.guard=none:=by
 grind [flB]
def Ctx.withZ(c:Ctx)(Z:List (Nat×Obj)):Ctx:={c with Z:=Z}

theorem zqj{a:Array Value}{d t:Nat}{v:Value}(h:d≠t):(a.setIfInBounds d v).getD t undef=a.getD t undef:=by simp_all
theorem Rel.hide{c:Ctx}{σ:St}{a:Act}{W:World}(h:Rel c σ a W){d:Nat}{t:TypeId}{z:List Value}(hd:zdc c.N (some d))(hdead:σ.tmps d= .dead):
  Rel (c.withZ ((W.heap.size,.cells z.toArray t (0,0))::c.Z)) σ (a.put (some d) (.pointer (some ⟨W.heap.size,0,none⟩))) (W.alloc (.cells z.toArray t)):=by
 obtain⟨hsz,hdf,F,η,S,hm,ht⟩:=h;have hlt: ∀p∈c.Z,p.1<W.heap.size:=fun p hp=>(Array.getElem?_eq_some_iff.1 (hm.hid p hp).1).1;obtain⟨m1,m2⟩:=hm.hidden (c':=c.withZ ((W.heap.size,.cells z.toArray t (0,0))::c.Z)) (W':=W.alloc (.cells z.toArray t)) ⟨rfl,rfl,rfl⟩ rfl rfl rfl (by simp)
  (fun b hb _=>Below.heap_alloc W _ b hb) (fun p hp=>by
   rcases List.mem_cons.1 hp with rfl | hp
   ·grind [heap_alloc_new]
   ·exact⟨(Below.heap_alloc W _ _ (hlt p hp)).trans (hm.hid p hp).1,.inl (List.mem_map_of_mem hp)⟩)
  (fun D hD=>List.mem_cons_of_mem _ (hm.zd D hD))
 refine⟨⟨by simpa [Act.put,Ctx.withZ]using hsz.1,fun u hu=> ?_⟩,hdf,F,η,S,m1,fun u=> ?_⟩
 ·have hne:d≠u:=fun e=>hd.2 (e▸hu);simp only[Act.put];rw[zqj hne];exact hsz.2 u hu
 ·by_cases hu:u=d
  ·subst hu; rw[hdead]; simp only[zaL]
  ·simp only[Act.put];rw[zqj (fun e=>hu e.symm)];exact zaL.pres (za7.refl _ _) m2 _ _ (AV.noRef_nil _) (ht u)
theorem Rel.lessZ{c:Ctx}{σ:St}{a:Act}{W:World}(h:Rel c σ a W){Z:List (Nat×Obj)}(hz: ∀p∈Z,p∈c.Z)(hzd: ∀D∈c.ds,(D,Obj.deferred (some []))∈Z):Rel (c.withZ Z) σ a W:=by
 obtain⟨hsz,hdf,F,η,S,hm,ht⟩:=h;exact⟨hsz,hdf,F,η,S,⟨hm.os,hm.tape,hm.output,hm.size,hm.old,hm.f0,hm.flt,hm.fold,hm.obj,hm.gone,hm.apart,hm.sep,hm.nd,fun p hp=>hm.hid p (hz p hp),hm.lim,hzd⟩,ht⟩
theorem Rel.reveal{c:Ctx}{σ:St}{a:Act}{W:World}(h:Rel c σ a W){d b:Nat}{t:TypeId}{z:List Value}{Z:List (Nat×Obj)}(hb:(b,Obj.cells z.toArray t (0,0))∈c.Z)(hz: ∀p∈Z,p∈c.Z/\p.1≠b)(hzd: ∀D∈c.ds,(D,Obj.deferred (some []))∈Z)
  (hf:zof d σ) (hv:a.tmps.getD d undef= .pointer (some ⟨b,0,none⟩)):Rel (c.withZ Z) (σ.put (some d) (.bp d 0) (upd σ.objs d (some (.box (z.map zdB))))) a W:=by
 obtain⟨hsz,hdf,F,η,S,hm,ht⟩:=h;obtain⟨y1,y2,y3,y4⟩:=hm.hid _ hb;simp only at y1 y2 y3 y4;have hlt:b<W.heap.size:=(Array.getElem?_eq_some_iff.1 y1).1;have hSd:=hm.gone d hf.1.1;have hk:za7 σ.objs (upd σ.objs d (some (.box (z.map zdB)))) η (upd η d (.pointer (some ⟨b,0,none⟩))) [d]:=za7.create (dst:=d) (o:=.box (z.map zdB)) _;have hF: ∀x,F x->F x/\W.heap[x]? =W.heap[x]? :=fun x hx=>⟨hx,rfl⟩;refine⟨hsz,hdf,F,upd η d (.pointer (some ⟨b,0,none⟩)),upd S d [b],⟨hm.os,hm.tape,hm.output,hm.size,hm.old,hm.f0,hm.flt,hm.fold,?_,?_,?_,?_,?_,?_,?_,hzd⟩,fun u=> ?_⟩
 ·intro id o ho
  replace ho:upd σ.objs d (some (.box (z.map zdB))) id=some o:=ho
  by_cases hid:id=d
  ·subst hid;simp only[upd,if_true,Option.some.injEq]at ho;subst ho;simp only[upd,if_true];exact⟨b,z.toArray,t,rfl,rfl,y1,by simpa using zdY z⟩
  ·simp only[upd,if_neg hid]at ho ⊢;refine zj1.mono hk hF (hf.1.2 id o ho) (fun _ _=>rfl) (fun lim fam stop l rest e=> ?_) (hm.obj id o ho);subst e;exact⟨rfl,rfl,rfl,Nat.le_refl _,hF,fun _ _=>rfl,fun x hx=>(hm.apart id x hx).1,hm.flt,fun _ _=>rfl,fun x hx _=>hx⟩
 ·intro id ho
  replace ho:upd σ.objs d (some (.box (z.map zdB))) id=none:=ho
  by_cases hid:id=d
  ·subst hid; simp[upd]at ho
  ·simp only[upd,if_neg hid]at ho ⊢; exact hm.gone id ho
 ·intro id x hx;by_cases hid:id=d
  ·subst hid;simp only[upd,if_true,List.mem_singleton]at hx;subst hx;exact⟨y2,hlt,fun h=>absurd h (Nat.not_lt.2 y4)⟩
  ·simp only[upd,if_neg hid]at hx; exact hm.apart id x hx
 ·intro id id' x hx hx';simp only[upd]at hx hx';split at hx
  ·grind
  ·split at hx'
   ·simp_all
   ·exact hm.sep id id' x hx hx'
 ·intro id;simp only[upd];split
  ·simp
  ·exact hm.nd id
 ·intro p hp;obtain⟨p1,p2⟩:=hz p hp;obtain⟨z1,z2,z3,z4⟩:=hm.hid p p1;refine⟨z1,z2,fun id hx=> ?_,z4⟩;grind [upd]
 ·intro id lim fam stop l rest ho
  replace ho:upd σ.objs d (some (.box (z.map zdB))) id=some (.ext lim fam stop l rest):=ho
  by_cases hid:id=d
  ·subst hid; simp[upd]at ho
  ·simp only[upd,if_neg hid]at ho;obtain⟨l1,l2⟩:=hm.lim id _ _ _ _ _ ho;refine⟨l1,fun id' x hx hne=> ?_⟩;grind [upd]
 ·simp only[St.put,upd];by_cases hu:u=d
  ·grind [zaL,upd]
  ·simp only[if_neg hu];exact zaL.pres hk hF _ _ (hf.2 u) (ht u)

theorem zrO{a:Act}{dst:Option Nat}{v:Value}{d:Nat}(h:dst≠some d):(a.put dst v).tmps.getD d undef=a.tmps.getD d undef:=by
 cases dst with
 | none=>rfl
 | some e=>exact zqj (fun e'=>h (by rw[e']))
theorem wpIn_tmps{F:Fence}{n:Nat}{P:Program}{o:Oper}{a:Act}{w:World}{K:Act->World->Prop}{Q:Exit->Act->World->Prop}(h:o.wpIn F n P a w K Q):
  o.wpIn F n P a w (fun a' w'=>K a' w'/\ ∀d,o.dst≠some d->a'.tmps.getD d undef=a.tmps.getD d undef) Q:=by
 unfold Oper.wpIn at*;refine⟨h.1,?_⟩;have hh:=h.2;clear h;have key: ∀v,∀d,o.dst≠some d->(a.put o.dst v).tmps.getD d undef=a.tmps.getD d undef:=fun v d hd=>zrO hd;generalize (o.semAt F.round a.eval).run P w=r at*;cases r with
 | ok x w'=>
  cases x <;> simp only[Oper.uponIn]at hh ⊢
  case value v=>simp_all
  case skip=>simp_all
  case defer D=>
   grind [zrO]
  case enter=>simp_all
  case row=>simp_all
  simp_all
 | halt x w'=>cases x <;> simp only[Oper.uponIn]at hh ⊢ <;> exact hh
theorem owp_put{P:Program}{N:NP}{o:Oper}{σ:St}{K:St->Prop}(h:owp P N o σ K):owp P N o σ (fun σ'=>K σ'/\ ∃V O',σ'=σ.put o.dst V O'):=by
 unfold owp at h ⊢;rcases h with h | h
 ·exact .inl h
 right;split at h
 ·rcases h with h | h | h
  ·grind [cwp]
  ·right; left;obtain⟨r,ca,Oi,Post,h1,h2,h3,h4,h5,h6,h7⟩:=h;exact⟨r,ca,Oi,Post,h1,h2,h3,h4,h5,h6,fun V Oo new hp=>⟨(h7 V Oo new hp).1,(h7 V Oo new hp).2.1,(h7 V Oo new hp).2.2,_,_,rfl⟩⟩
  ·right; right;obtain⟨r,ca,Oi,Post,PX,h1,h2,h3,h4,h5,h6,h7,h8⟩:=h;exact⟨r,ca,Oi,Post,PX,h1,h2,h3,h4,h5,h6,fun V Oo new hp=>⟨(h7 V Oo new hp).1,(h7 V Oo new hp).2.1,(h7 V Oo new hp).2.2,_,_,rfl⟩,h8⟩
 ·grind [ywp]
 ·exact⟨h.1,fun b hb=>⟨h.2 b hb,_,_,rfl⟩⟩
 ·exact⟨h.1,fun j h1 h2=>⟨h.2.1 j h1 h2,_,_,rfl⟩,fun h1=>⟨h.2.2 h1,_,_,rfl⟩⟩
 ·unfold ewp at h ⊢;grind
 grind [qwp]
theorem gwp_put{P:Program}{N:NP}{ops:Array Oper}{o:Oper}{σ:St}{K:St->Prop}(h:gwp P N ops o σ K):gwp P N ops o σ (fun σ'=>K σ'/\ ∃V O',σ'=σ.put o.dst V O'):=by
 grind [gwp,owp_put]

structure Flo where
 fs:List Nat
 of:List (Nat×List Nat)
def Flo.get(f:Flo)(k:Nat):List Nat:=(f.of.lookup k).getD []
section
variable {P:Program} {N:NP} {ops:Array Oper} {md:Region.Mode} {r:Ord} {f:Flo}
def rvl(P:Program)(ops:Array Oper):List Nat->(St->Prop)->St->Prop
 | [],K,σ=>K σ
 | i::l,K,σ=> ∃d t z,flB ops i=some (d,t)/\zad P t=some z/\zof d σ/\rvl P ops l K (σ.put (some d) (.bp d 0) (upd σ.objs d (some (.box (z.map zdB)))))
theorem zrT{K K':St->Prop}(hk: ∀σ,K σ->K' σ): ∀ {l:List Nat} {σ:St},rvl P ops l K σ->rvl P ops l K' σ
 | [],σ,h=>hk σ h
 | i::l,σ,⟨d,t,z,h1,h2,h3,h4⟩=>⟨d,t,z,h1,h2,h3,zrT hk h4⟩
theorem rvl_unput{d:Nat}{V:AV}{K:St->Prop}: ∀ {l:List Nat} {σ:St},(∀i∈l,∀d' t,flB ops i=some (d',t)->d'≠d)->σ.tmps d= .dead ->rvl P ops l K (σ.put (some d) V σ.objs)->
  rvl P ops l (fun σ'=>σ'.tmps d= .dead /\K (σ'.put (some d) V σ'.objs)) σ
 | [],σ,_,hdead,h=>⟨hdead,h⟩
 | i::l,σ,hne,hdead,⟨d',t,z,h1,h2,h3,h4⟩=>by
  have hd:=hne i (by simp) d' t h1;refine⟨d',t,z,h1,h2,⟨h3.1,fun u=> ?_⟩,rvl_unput (fun j hj=>hne j (List.mem_cons_of_mem _ hj)) ?_ ?_⟩
  ·by_cases hu:u=d
   ·subst hu; rw[hdead]; trivial
   ·have:=h3.2 u;grind [zd1]
  ·grind [zd1]
  ·have e:(σ.put (some d) V σ.objs).put (some d') (.bp d' 0) (upd (σ.put (some d) V σ.objs).objs d' (some (.box (z.map zdB))))=(σ.put (some d') (.bp d' 0) (upd σ.objs d' (some (.box (z.map zdB))))).put (some d) V (upd σ.objs d' (some (.box (z.map zdB)))):=zxv (fun e he=>by simp_all);rw[e]at h4;exact h4
noncomputable def zOpF(P:Program)(N:NP)(r:Ord)(f:Flo)(ops:Array Oper)(listed:Array Bool)(i:Nat)(K:St->Prop)(σ:St):Prop:=
 match ops[i]? with
 | none=>K σ
 | some o=>if i∈f.fs then K σ else if r.isQ i=true then ∃V,ZY P N ops o V σ/\K (σ.put o.dst V σ.objs)
  else rvl P ops (f.get i) (fun σ=>if r.lateOf i=[]then gwp P N ops o σ K else sgwp P N ops o σ (fun σ'=>lateZ P N ops listed (r.lateOf i) σ'/\K σ')) σ
noncomputable def zrz(P:Program)(N:NP)(md:Region.Mode)(r:Ord)(f:Flo)(ops:Array Oper)(K:St->Prop):Nat->Array Bool->St->Prop
 | 0,listed,σ=>Region.ready md ops listed=[]/\K σ
 | fuel+1,listed,σ=>(Region.ready md ops listed=[]->K σ)/\ ∀i∈Region.ready md ops listed,zOpF P N r f ops listed i (zrz P N md r f ops K fuel (listed.setIfInBounds i true)) σ

def objZ(P:Program)(ops:Array Oper)(p:Nat×Nat):Nat×Obj:=
 (p.2,match flB ops p.1 with
  | some (_,t)=>match zad P t with
   | some z=>.cells z.toArray t (0,0)
   | none=>.cells #[] 0 (0,0)
  | none=>.cells #[] 0 (0,0))
theorem objZ_fst(p:Nat×Nat):(objZ P ops p).1 =p.2:=rfl
theorem objZ_eq{i b d:Nat}{t:TypeId}{z:List Value}(h1:flB ops i=some (d,t))(h2:zad P t=some z):objZ P ops (i,b)=(b,.cells z.toArray t (0,0)):=by
 simp only[objZ,h1,h2]
def zwZ(c:Ctx)(ops:Array Oper)(hs:List (Nat×Nat)):Ctx:=c.withZ (hs.map (objZ c.P ops)++c.Z)
structure Hid (c:Ctx) (ops:Array Oper) (hs:List (Nat×Nat)) (a:Act):Prop where
 val: ∀p∈hs,∃d t z,flB ops p.1=some (d,t)/\zad c.P t=some z/\a.tmps.getD d undef= .pointer (some ⟨p.2,0,none⟩)
 nod:(hs.map (·.2)).Nodup
 apart: ∀p∈hs,∀q∈c.Z,q.1≠p.2
theorem nodup_snd: ∀ {hs:List (Nat×Nat)},(hs.map (·.2)).Nodup -> ∀p∈hs,∀q∈hs,p.2=q.2->p=q
 | x::hs,h,p,hp,q,hq,e=>by
  rw[List.map_cons,List.nodup_cons]at h;rcases List.mem_cons.1 hp with h1 | h1
  ·simp_all
  ·rcases List.mem_cons.1 hq with h2 | h2
   ·grind
   ·exact nodup_snd h.2 p h1 q h2 e
theorem rvl_sound{c:Ctx}{a:Act}{W:World}{K:St->Prop}(hzd: ∀D∈c.ds,(D,Obj.deferred (some []))∈c.Z): ∀(l:List Nat) (hs:List (Nat×Nat)) (σ:St),Rel (zwZ c ops hs) σ a W->Hid c ops hs a->(∀i∈l,∃b,(i,b)∈hs)->l.Nodup->rvl c.P ops l K σ->
  ∃σ' hs',K σ'/\Rel (zwZ c ops hs') σ' a W/\Hid c ops hs' a/\(∀p,p∈hs'↔p∈hs/\p.1∉l)/\ ∀u,(∀i∈l,∀d t,flB ops i=some (d,t)->u≠d)->σ'.tmps u=σ.tmps u
 | [],hs,σ,hr,hh,_,_,h=>⟨σ,hs,h,hr,hh,by simp,fun _ _=>rfl⟩
 | i::l,hs,σ,hr,hh,hm,hnd,⟨d,t,z,h1,h2,h3,h4⟩=>by
  obtain⟨b,hb⟩:=hm i (by simp);obtain⟨hnd1,hnd2⟩:=List.nodup_cons.1 hnd;have hsub: ∀p∈hs.filter (fun p=>decide (p.1≠i)),p∈hs/\p.1≠i:=fun p hp=>by
   simp_all
  obtain⟨d',t',z',g1,g2,g3⟩:=hh.val _ hb;simp only at g1;rw[h1]at g1;cases g1;rw[h2]at g2;cases g2;have hobj:(b,Obj.cells z.toArray t (0,0))∈(zwZ c ops hs).Z :=by
   rw[<-objZ_eq (b:=b) h1 h2];exact List.mem_append_left _ (List.mem_map_of_mem hb)
  have hr1:Rel (zwZ c ops (hs.filter (fun p=>decide (p.1≠i)))) (σ.put (some d) (.bp d 0) (upd σ.objs d (some (.box (z.map zdB))))) a W:=by
   refine Rel.reveal (c:=zwZ c ops hs) (Z:=(hs.filter (fun p=>decide (p.1≠i))).map (objZ c.P ops)++c.Z) hr hobj (fun p hp=> ?_) (fun D hD=>List.mem_append_right _ (hzd D hD)) h3 g3;rcases List.mem_append.1 hp with hp | hp
   ·obtain⟨q,hq,rfl⟩:=List.mem_map.1 hp;obtain⟨q1,q2⟩:=hsub q hq;refine⟨List.mem_append_left _ (List.mem_map_of_mem q1),fun e=>q2 ?_⟩;have:=nodup_snd hh.nod q q1 (i,b) hb e;rw[this]
   ·exact⟨List.mem_append_right _ hp,hh.apart _ hb p hp⟩
  have hh1:Hid c ops (hs.filter (fun p=>decide (p.1≠i))) a:=⟨fun p hp=>hh.val p (hsub p hp).1,hh.nod.sublist (List.filter_sublist.map _),fun p hp=>hh.apart p (hsub p hp).1⟩;obtain⟨σ',hs',k1,k2,k3,k4,k5⟩:=rvl_sound hzd l _ _ hr1 hh1 (fun j hj=>by
   grind) hnd2 h4
  grind [zd1]

structure FloOk (md:Region.Mode) (ops:Array Oper) (r:Ord) (f:Flo):Prop where
 ssa: ∀i∈f.fs,∀d t,flB ops i=some (d,t)-> ∀(j:Nat) (oj:Oper),ops[j]? =some oj->j≠i->oj.dst≠some d
 free: ∀i∈f.fs,∀o,ops[i]? =some o-> ∀e∈o.after,Region.binds md e=false
 get: ∀k,∀i∈f.get k,i∈f.fs/\zka md ops k i=true
 nd: ∀k,(f.get k).Nodup
 uniq: ∀k k' i,i∈f.get k->i∈f.get k'->k=k'
 getF: ∀k∈f.fs,f.get k=[]
 fq: ∀k∈f.fs,r.isQ k=false
 gq: ∀k,r.isQ k=true->f.get k=[]
 fnd:f.fs.Nodup
def fltS(P:Program)(N:NP)(ops:Array Oper)(f:Flo):Prop:= ∀i∈f.fs,∃d t z,flB ops i=some (d,t)/\zad P t=some z/\zdc N (some d)

theorem stepOp{F:Fence}{n:Nat}{o:Oper}{a:Act}{W:World}{next1 next:Act->World->Prop}{Q:Exit->Act->World->Prop}{B:Bool}
  (h:if B then o.wpIn F n P a W next1 Q else(∀g,o.about P W a.eval=some g->F.fn g)/\next1 (a.put o.dst undef) W)
  (hk: ∀a' W',next1 a' W'->(∀d,o.dst≠some d->a'.tmps.getD d undef=a.tmps.getD d undef)->next a' W'):
  if B then o.wpIn F n P a W next Q else(∀g,o.about P W a.eval=some g->F.fn g)/\next (a.put o.dst undef) W:=by
 cases B with
 | true=>
  simp only[if_true]at h ⊢;exact Oper.wpIn_mono (fun a' W' hh=>hk a' W' hh.1 hh.2) (wpIn_tmps h)
 | false=>
  grind [zrO]

theorem zAnyF_sound{c:Ctx}{K:St->Prop}{Q:Exit->Act->World->Prop}{R:Option Nat}{n:Nat}(hzd: ∀D∈c.ds,(D,Obj.deferred (some []))∈c.Z)(hf:FloOk md ops r f)(hs0:fltS c.P c.N ops f)(hK: ∀σ' a' W',K σ'->Rel c σ' a' W'->Q .normal a' W')(hX: ∀v σ' a' W',pxS c.N v σ'.objs->Rel c σ' a' W'->Q (.panic [{v:=v,recovered:=false}]) a' W'):
  ∀(fuel:Nat) (listed:Array Bool) (σ:St) (a:Act) (W:World) (hs:List (Nat×Nat)),ziy md ops listed->listed.size=ops.size->Rel (zwZ c ops hs) σ a W->Hid c ops hs a->
   (∀i∈f.fs,listed.getD i false=true->(∀k,i∈f.get k->listed.getD k false=false)-> ∃b,(i,b)∈hs)->
   (∀p∈hs,p.1∈f.fs/\listed.getD p.1 false=true/\ ∀k,p.1∈f.get k->listed.getD k false=false)->
   (∀i∈f.fs,(∀k,i∈f.get k->listed.getD k false=false)-> ∀d t,flB ops i=some (d,t)->σ.tmps d= .dead)->
   zrz c.P c.N md r f ops K fuel listed σ->wpAnyIn (FW R) n c.P md ops Q fuel listed a W:=by
 have fin: ∀σ a W hs,Rel (zwZ c ops hs) σ a W->K σ->Q .normal a W:=fun σ a W hs hr hk=>by
  have:=Rel.lessZ (c:=zwZ c ops hs) (Z:=c.Z) hr (fun p hp=>List.mem_append_right _ hp) hzd;exact hK σ a W hk this
 have finX: ∀hs v σ a W,pxS (zwZ c ops hs).N v σ.objs->Rel (zwZ c ops hs) σ a W->Q (.panic [{v:=v,recovered:=false}]) a W:=fun hs v σ a W hk hr=>
  hX v σ a W hk (Rel.lessZ (c:=zwZ c ops hs) (Z:=c.Z) hr (fun p hp=>List.mem_append_right _ hp) hzd)
 intro fuel
 induction fuel with
 | zero=>intro listed σ a W hs _ _ hr _ _ _ _ h; exact⟨h.1,fin _ _ _ _ hr h.2⟩
 | succ fuel ih=>
  intro listed σ a W hs hcl hsz hr hh hmem hown hdead h;refine⟨fun h0=>fin _ _ _ _ hr (h.1 h0),fun i hi=> ?_⟩;have h1:=h.2 i hi;obtain⟨hiun,oi,hoi,hall⟩:=mem_ready.1 hi;have hisz:i<ops.size:=(Array.getElem?_eq_some_iff.1 hoi).1;have hil:listed.getD i false=false:=by
   grind
  have hcl':=zfw hcl hi;have hsz':(listed.setIfInBounds i true).size =ops.size:=by grind
  have hset: ∀j,(listed.setIfInBounds i true).getD j false=if j=i then true else listed.getD j false:=fun j=>by
   by_cases hj:j=i
   ·subst hj;have:j<listed.size:=(by omega);simp[this]
   ·rw[getD_set_ne false (fun e=>hj e.symm),if_neg hj]
  have hnot: ∀k,zka md ops k i=true->listed.getD k false=false/\k≠i:=fun k hk=>by
   grind [zc8,zcu]
  unfold zOpF at h1;unfold wpOpIn;rw[hoi]at h1 ⊢;simp only at h1 ⊢;by_cases hif:i∈f.fs
  ·rw[if_pos hif]at h1;obtain⟨d,t,z,g1,g2,g3⟩:=hs0 i hif;obtain⟨o',ho',q1,q2,q3⟩:=znp g1;rw[hoi]at ho';cases ho';have hd:σ.tmps d= .dead :=hdead i hif (fun k hk=>(hnot k (hf.get k i hk).2).1) d t g1;obtain⟨_,_,F,η,S,hm,ht⟩:=id hr;have hw:Region.wanted oi (yielded ops a.tmps)=true:=zfO ht (by unfold zcZ; rw[q3]);rw[hw];simp only[if_true];obtain⟨i',u,y1,y2,y3⟩:=zeK g2;have hlt: ∀p∈(zwZ c ops hs).Z,p.1<W.heap.size:=fun p hp=>(Array.getElem?_eq_some_iff.1 (hm.hid p hp).1).1;refine zhf (v:=.pointer (some ⟨W.heap.size,0,none⟩)) (W':=W.alloc (.cells z.toArray t)) (by grind)
    (by simp[execOp,q1,Instr.alloc,zeroValue,typeInfo,y1,y2,newVar,newRow,<-y3]) ?_
   have hr':=Rel.hide (t:=t) (z:=z) hr g3 hd;have e1:(zwZ c ops hs).withZ ((W.heap.size,.cells z.toArray t (0,0))::(zwZ c ops hs).Z)=zwZ c ops ((i,W.heap.size)::hs):=by
    grind [zwZ,Ctx.withZ,objZ_eq]
   rw[e1]at hr';rw[q2];refine ih _ σ _ _ ((i,W.heap.size)::hs) hcl' hsz' hr' ⟨fun p hp=> ?_,?_,fun p hp q hq=> ?_⟩ (fun j hj hlj huj=> ?_) (fun p hp=> ?_) (fun j hj huj=> ?_) h1
   ·rcases List.mem_cons.1 hp with rfl | hp
    ·refine⟨d,t,z,g1,g2,?_⟩;have hda:d<a.tmps.size:=(by rw[hr.1.1]; exact g3.1);simp[Act.put,Array.getD_eq_getD_getElem?,hda]
    ·obtain⟨d',t',z',w1,w2,w3⟩:=hh.val p hp;refine⟨d',t',z',w1,w2,?_⟩;rw[zrO (fun e=> ?_)]
     ·exact w3
     ·obtain⟨op,hop,_,hod,_⟩:=znp w1;have hpi:p.1≠i:=fun e=>by grind
      exact hf.ssa i hif d t g1 p.1 op hop hpi (by grind)
   ·rw[List.map_cons,List.nodup_cons];refine⟨fun hm'=> ?_,hh.nod⟩;obtain⟨p,hp,e⟩:=List.mem_map.1 hm';have:=hlt (objZ c.P ops p) (List.mem_append_left _ (List.mem_map_of_mem hp));rw[objZ_fst,e]at this;omega
   ·rcases List.mem_cons.1 hp with rfl | hp
    ·have:=hlt q (List.mem_append_right _ hq);omega
    ·exact hh.apart p hp q hq
   ·grind
   ·rcases List.mem_cons.1 hp with rfl | hp
    ·refine⟨hif,by grind,fun k hk=> ?_⟩;obtain⟨n1,n2⟩:=hnot k (hf.get k _ hk).2;grind
    ·obtain⟨o1,o2,o3⟩:=hown p hp;refine⟨o1,(by grind),fun k hk=> ?_⟩;have hki:k≠i:=by
      rintro rfl;rw[hf.getF k hif]at hk; cases hk
     grind
   grind
  ·rw[if_neg hif]at h1
   -- what is behind such an operation
   have next: ∀(σ1 σ2:St) (a':Act) (W':World) (hs':List (Nat×Nat)),(∀p,p∈hs'↔p∈hs/\p.1∉f.get i)->Hid c ops hs' a->(∀u,(∀j∈f.get i,∀d t,flB ops j=some (d,t)->u≠d)->σ1.tmps u=σ.tmps u)->
     (∃V O',σ2=σ1.put oi.dst V O')->Rel (zwZ c ops hs') σ2 a' W'->(∀d,oi.dst≠some d->a'.tmps.getD d undef=a.tmps.getD d undef)->zrz c.P c.N md r f ops K fuel (listed.setIfInBounds i true) σ2->
     wpAnyIn (FW R) n c.P md ops Q fuel (listed.setIfInBounds i true) a' W':=by
    rintro σ1 σ2 a' W' hs' hm' hh' ht' ⟨V,O',rfl⟩ hr' hta hz;have hdi: ∀j∈f.fs,∀d t,flB ops j=some (d,t)->oi.dst≠some d:=fun j hj d t hd=>hf.ssa j hj d t hd i oi hoi (fun e=>hif (e▸hj));refine ih _ _ _ _ hs' hcl' hsz' hr' ⟨fun p hp=> ?_,hh'.nod,hh'.apart⟩ (fun j hj hlj huj=> ?_) (fun p hp=> ?_) (fun j hj huj d t hd=> ?_) hz
    ·obtain⟨d,t,z,w1,w2,w3⟩:=hh'.val p hp;grind
    ·grind
    ·grind
    ·have hgi:j∉f.get i:=fun hg=>by
      grind
     rw[zd1 (fun e he=>fun e2=>hdi j hj d t hd (by rw[he,e2])),ht' d (fun j' hj' d' t' hd'=> ?_)]
     ·grind
     ·rintro rfl;obtain⟨o1,ho1,_,hod1,_⟩:=znp hd;exact hf.ssa j' (hf.get i j' hj').1 d t' hd' j o1 ho1 (fun e=>hgi (e▸hj')) hod1
   by_cases hq:r.isQ i=true
   ·rw[if_pos hq]at h1;obtain⟨V,hy,hk⟩:=h1;have hg:=hf.gq i hq;have hst:=zww (c:=zwZ c ops hs) hr hy (next:=fun a' W'=>Rel (zwZ c ops hs) (σ.put oi.dst V σ.objs) a' W') (Q:=Q) (R:=R) (n:=n) (fun a' W' hr'=>hr') (finX hs);refine stepOp hst (fun a' W' hr' hta=> ?_);exact next σ _ a' W' hs (fun p=>by rw[hg]; simp) hh (fun _ _=>rfl) ⟨V,_,rfl⟩ hr' hta hk
   ·rw[if_neg hq]at h1;obtain⟨σ1,hs',k1,k2,k3,k4,k5⟩:=rvl_sound hzd (f.get i) hs σ hr hh (fun j hj=>hmem j (hf.get i j hj).1 (zcu (hf.get i j hj).2 hi) (fun k hk=>by
     rw[hf.uniq k i j hk hj]; exact hil)) (hf.nd i) h1
    have hg:gwp c.P c.N ops oi σ1 (zrz c.P c.N md r f ops K fuel (listed.setIfInBounds i true)):=by
     split at k1
     ·exact k1
     ·exact zhp (sgwp_gwp k1) (fun _ h=>h.2)
    have hst:=zmC (c:=zwZ c ops hs') k2 (gwp_put hg) (next:=fun a' W'=> ∃σ',(zrz c.P c.N md r f ops K fuel (listed.setIfInBounds i true) σ'/\ ∃V O',σ'=σ1.put oi.dst V O')/\Rel (zwZ c ops hs') σ' a' W') (Q:=Q) (R:=R) (n:=n) (fun σ' a' W' hz hr'=>⟨σ',hz,hr'⟩) (finX hs');refine stepOp hst (fun a' W' hn hta=> ?_);obtain⟨σ',⟨hz,hput⟩,hr'⟩:=hn;exact next σ1 σ' a' W' hs' k4 k3 k5 hput hr' hta hz

theorem zAnyF_first{K:St->Prop}(hf:FloOk md ops r f)(hfl: ∀i∈f.fs,∃d t,flB ops i=some (d,t))(hss: ∀i,r.isQ i=true->ssaB md ops i=true)(hlate: ∀k i,k<ops.size->k∉f.fs->r.isQ k=false->r.isQ i=true->i∈r.lateOf k\/zgw md ops k i=true\/zgw md ops i k=true){i:Nat}{oi:Oper}{d:Nat}{V:AV}(hi:ops[i]? =some oi)(hd:oi.dst=some d)(hiA:r.isQ i=true):
  ∀(fuel:Nat) (listed:Array Bool) (σ:St),ziy md ops listed->listed.size=ops.size->listed.getD i false=false->
   i∈Region.ready md ops listed->σ.tmps d= .dead ->ZY P N ops oi V σ->zrz P N md r f ops K fuel (listed.setIfInBounds i true) (σ.put (some d) V σ.objs)->zrz P N md r f ops K (fuel+1) listed σ:=by
 obtain⟨oi',d',hi',hd',hssa⟩:=zjd (hss i hiA);rw[hi]at hi';cases hi';rw[hd]at hd';cases hd';have hput:oi.dst=some d:=hd;have hif:i∉f.fs:=fun h=>by rw[hf.fq i h]at hiA; cases hiA
 have base: ∀(fuel:Nat) (listed:Array Bool) (σ:St),ZY P N ops oi V σ->zrz P N md r f ops K fuel (listed.setIfInBounds i true) (σ.put (some d) V σ.objs)->zOpF P N r f ops listed i (zrz P N md r f ops K fuel (listed.setIfInBounds i true)) σ:=by
  grind [zOpF]
 intro fuel
 induction fuel with
 | zero=>
  intro listed σ hcl hsz hun hr hdead hy H;refine⟨fun h=>(by simp_all),fun j hj=> ?_⟩;by_cases hji:j=i
  ·simp_all
  ·have:=ready_mono hj hji;rw[H.1]at this;cases this
 | succ fuel ih=>
  intro listed σ hcl hsz hun hr hdead hy H;refine⟨fun h=>(by simp_all),fun j hj=> ?_⟩;by_cases hji:j=i
  ·simp_all
  ·have h1:=H.2 j (ready_mono hj hji);obtain⟨hjun,oj,hoj,hall⟩:=mem_ready.1 hj;have hjs:j<ops.size:=(Array.getElem?_eq_some_iff.1 hoj).1;have hjl:listed.getD j false=false:=by
    simp_all
   have hnotj:d∉oj.looksAt ops:=fun hm=>by
    grind [zcu]
   have hdj:oj.dst≠some d:=(hssa j oj hoj).1 hji;have hnoti:d∉oi.looksAt ops:=fun hm=>by
    grind [zcu]
   have hputl: ∀d',(some d:Option Nat)=some d'->d'∉oj.looksAt ops:=fun d' e=>by simp_all
   have hcl':=zfw hcl hj;have hun':(listed.setIfInBounds j true).getD i false=false:=by simp_all
   have hr':=ready_mono hr (Ne.symm hji);have hsz':(listed.setIfInBounds j true).size =ops.size:=by grind
   unfold zOpF at h1 ⊢;rw[hoj]at h1 ⊢;simp only at h1 ⊢;by_cases hjf:j∈f.fs
   ·grind [Array.setIfInBounds_comm]
   simp only[hjf,if_false]at h1 ⊢;by_cases hjA:r.isQ j=true
   ·simp only[hjA,if_true]at h1 ⊢;obtain⟨U,hu,hk⟩:=h1;obtain⟨oj',dj,hj',hdj',hssj⟩:=zjd (hss j hjA);rw[hoj]at hj';cases hj';rw[zqZ hputl]at hu;refine⟨U,hu,ih _ _ hcl' hsz' hun' hr' ?_ ?_ ?_⟩
    ·grind [zd1]
    ·grind [zqZ,zcu]
    ·rw[Array.setIfInBounds_comm _ _ hji];have:(σ.put (some d) V σ.objs).put oj.dst U σ.objs=(σ.put oj.dst U σ.objs).put (some d) V σ.objs:=zxv (fun d' e=>by simp_all);have hk':zrz P N md r f ops K fuel ((listed.setIfInBounds i true).setIfInBounds j true) ((σ.put (some d) V σ.objs).put oj.dst U σ.objs):=hk;rw[this]at hk';exact hk'
   ·simp only[hjA,if_false]at h1 ⊢;have hjA':r.isQ j=false:=(by grind);have hil:i∈r.lateOf j:=by
     grind [zo7]
    have hne:r.lateOf j≠[]:=fun e=>by simp_all
    simp only[hne,if_false,Bool.false_eq_true]at h1 ⊢;have hgne: ∀j'∈f.get j,∀d' t,flB ops j'=some (d',t)->d'≠d:=fun j' hj' d' t hd' e=>by
     obtain⟨o',ho',_,hod,_⟩:=znp hd';exact(hssa j' o' ho').1 (fun e2=>hif (e2▸(hf.get j j' hj').1)) (by rw[hod,e])
    refine zrT (fun σ1 ⟨hdead1,h1⟩=> ?_) (rvl_unput hgne hdead h1);refine zja (zv4 hnotj hdj hdead1 h1) ?_;rintro σ' ⟨hd1,hl1,hk⟩;have hseti:(listed.setIfInBounds i true).getD i false=true:=by
     have:i<listed.size:=(by grind);simp[this]
    refine⟨fun i' hi' hlis oi' hoi'=> ?_,ih _ _ hcl' hsz' hun' hr' hd1 ?_ ?_⟩
    ·obtain⟨d2,hd2,hz2⟩:=hl1 i' hi' (getD_set_true hlis) oi' hoi';grind [zd1,zqZ,zc8]
    ·obtain⟨d2,hd2,hz2⟩:=hl1 i hil hseti oi hi;rw[hd]at hd2;cases hd2;have e1:(σ'.put (some d) V σ'.objs).tmps d=V:=(by simp[St.put,upd]);grind [zqZ]
    grind [Array.setIfInBounds_comm]

noncomputable def zx1(P:Program)(N:NP)(r:Ord)(f:Flo)(ops:Array Oper):List Nat->St->(St->Prop)->Prop
 | [],σ,K=>K σ
 | k::rest,σ,K=>match ops[k]? with
  | some o=>if r.isQ k=true then ∃V,ZY P N ops o V σ/\zx1 P N r f ops rest (σ.put o.dst V σ.objs) K
   else rvl P ops (f.get k) (fun σ=>if r.lateOf k=[]then gwp P N ops o σ (fun σ'=>zx1 P N r f ops rest σ' K)
    else sgwp P N ops o σ (fun σ'=>lateA P N ops (r.lateOf k) σ'/\zx1 P N r f ops rest σ' K)) σ
  | none=>False
def zvO(md:Region.Mode)(ops:Array Oper)(r:Ord)(f:Flo):List Nat->List Nat->Bool
 | _,[]=>true
 | done,k::rest=>(match ops[k]? with | some o=>o.after.all fun e=> !Region.binds md e||done.contains e.on||(!r.isQ k&&f.fs.contains e.on) | none=>false)&& !done.contains k&&
   (r.isQ k||rest.all fun j=>(k::rest).any fun q=>zka md ops j q)&&zvO md ops r f (k::done) rest
theorem zqC: ∀(l done:List Nat),zvO md ops r f done l=true-> ∀j∈l,j∉done
 | [],_,_=>by simp
 | k::rest,done,h=>by
  simp only[zvO,Bool.and_eq_true,Bool.not_eq_true',List.contains_eq_mem,decide_eq_false_iff_not]at h;obtain⟨⟨⟨_,h2⟩,_⟩,h4⟩:=h;intro j hj;rcases List.mem_cons.1 hj with rfl | hj
  ·exact h2
  ·exact fun hm=>zqC rest _ h4 j hj (List.mem_cons_of_mem _ hm)
theorem rvl_tmps{K:St->Prop}: ∀ {l:List Nat} {σ:St},rvl P ops l K σ->rvl P ops l (fun σ'=>K σ'/\ ∀u,(∀i∈l,∀d t,flB ops i=some (d,t)->u≠d)->σ'.tmps u=σ.tmps u) σ
 | [],σ,h=>⟨h,fun _ _=>rfl⟩
 | i::l,σ,⟨d,t,z,h1,h2,h3,h4⟩=>by
  refine⟨d,t,z,h1,h2,h3,zrT (fun σ' hh=>⟨hh.1,fun u hu=> ?_⟩) (rvl_tmps h4)⟩;grind [zd1]
theorem sgwp_put{o:Oper}{σ:St}{K:St->Prop}(h:sgwp P N ops o σ K):sgwp P N ops o σ (fun σ'=>K σ'/\ ∃V O',σ'=σ.put o.dst V O'):=by
 unfold sgwp at h ⊢;split at h
 ·refine⟨fun e=> ?_,fun e=>⟨(h.2 e).1,(h.2 e).2,_,_,rfl⟩⟩;rcases h.1 e with⟨h1,h2⟩ | ⟨g,as,ho,h1⟩
  ·refine .inl ⟨h1,?_⟩;split at h2
   ·unfold ewp at h2 ⊢;grind
   grind [qwp]
  ·refine .inr ⟨g,as,ho,?_⟩;rcases h1 with h1 | h1 | h1
   ·grind [cwp]
   ·right; left;obtain⟨r,ca,Oi,Post,a1,a2,a3,a4,a5,a6,a7⟩:=h1;exact⟨r,ca,Oi,Post,a1,a2,a3,a4,a5,a6,fun V Oo new hp=>⟨(a7 V Oo new hp).1,(a7 V Oo new hp).2.1,(a7 V Oo new hp).2.2,_,_,rfl⟩⟩
   ·right; right;obtain⟨r,ca,Oi,Post,PX,a1,a2,a3,a4,a5,a6,a7,a8⟩:=h1;exact⟨r,ca,Oi,Post,PX,a1,a2,a3,a4,a5,a6,fun V Oo new hp=>⟨(a7 V Oo new hp).1,(a7 V Oo new hp).2.1,(a7 V Oo new hp).2.2,_,_,rfl⟩,a8⟩
 omega
def unl(listed:Array Bool)(l:List Nat):Nat:=l.countP fun i=> !listed.getD i false
theorem unl_set{listed:Array Bool}{i:Nat}(hs:i<listed.size)(hi:listed.getD i false=false): ∀ {l:List Nat},l.Nodup->i∈l->unl (listed.setIfInBounds i true) l+1=unl listed l
 | x::l,hn,hm=>by
  obtain⟨h1,h2⟩:=List.nodup_cons.1 hn;have hset: ∀j,j≠i->(listed.setIfInBounds i true).getD j false=listed.getD j false:=fun j hj=>getD_set_ne false (fun e=>hj e.symm);unfold unl;rw[List.countP_cons,List.countP_cons];by_cases hx:x=i
  ·subst hx;have e1:(listed.setIfInBounds x true).getD x false=true:=by simp[hs]
   grind [List.countP_congr]
  ·have hm':i∈l:=by
    grind
   have:=unl_set hs hi h2 hm';grind [unl]
theorem unl_same{listed:Array Bool}{i:Nat}{l:List Nat}(h:i∉l):unl (listed.setIfInBounds i true) l=unl listed l:=by
 unfold unl;refine List.countP_congr fun j hj=> ?_;have hne:i≠j:=fun e=>by simp_all
 simp_all
theorem unl_pos{listed:Array Bool}{l:List Nat}(h:0<unl listed l): ∃i∈l,listed.getD i false=false:=by
 grind [unl,List.countP_pos_iff]
theorem unl_zero{listed:Array Bool}{l:List Nat}(h:unl listed l=0){i:Nat}(hi:i∈l):listed.getD i false=true:=by
 grind [unl]

theorem zAnyF_lex{K:St->Prop}(hf:FloOk md ops r f)(hfl: ∀i∈f.fs,∃d t,flB ops i=some (d,t))(hss: ∀i,r.isQ i=true->ssaB md ops i=true)(hlate: ∀k i,k<ops.size->k∉f.fs->r.isQ k=false->r.isQ i=true->i∈r.lateOf k\/zgw md ops k i=true\/zgw md ops i k=true):
  ∀(m:Nat) (l done:List Nat) (listed:Array Bool) (σ:St),m=l.length+unl listed f.fs->zvO md ops r f done l=true->(∀j,j<ops.size->j∈done\/j∈l\/j∈f.fs)->(∀j∈done,j<ops.size/\j∉f.fs)->(∀j∈l,j<ops.size/\j∉f.fs)->listed.size=ops.size->
   (∀j,j<ops.size->j∉f.fs->listed.getD j false=decide (j∈done))->ziy md ops listed->(∀i∈l,r.isQ i=true-> ∀oi d,ops[i]? =some oi->oi.dst=some d->σ.tmps d= .dead)->zx1 P N r f ops l σ K->zrz P N md r f ops K m listed σ:=by
 have unlisted: ∀(listed:Array Bool) (j:Nat),listed.size=ops.size->j∈Region.ready md ops listed->j<ops.size/\listed.getD j false=false:=by
  grind [mem_ready]
 have isready: ∀(listed:Array Bool) (j:Nat) (o:Oper),listed.size=ops.size->ops[j]? =some o->listed.getD j false=false->(∀e∈o.after,Region.binds md e=true->listed.getD e.on false=true)->j∈Region.ready md ops listed:=by
  grind [mem_ready]
 intro m
 induction m with
 | zero=>
  intro l done listed σ hm hgo hall hdl hll hsz hlis hcl hdead h;have hl:l=[]:=List.eq_nil_of_length_eq_zero (by omega);subst hl;refine⟨?_,h⟩;rw[List.eq_nil_iff_forall_not_mem];grind [unl_zero]
 | succ m ih=>
  intro l done listed σ hm hgo hall hdl hll hsz hlis hcl hdead h
  -- a float that comes up
  have flt: ∀i∈Region.ready md ops listed,i∈f.fs->zOpF P N r f ops listed i (zrz P N md r f ops K m (listed.setIfInBounds i true)) σ:=by
   intro i hi hif;obtain⟨hlt,hun⟩:=unlisted listed i hsz hi;obtain⟨_,o,ho,_⟩:=mem_ready.1 hi;unfold zOpF;rw[ho];simp only[hif,if_true];have hc:=unl_set (by omega:i<listed.size) hun hf.fnd hif;exact ih l done _ σ (by omega) hgo hall hdl hll (by grind) (fun j hj hjf=>by
    have hne:i≠j:=fun e=>by grind
    rw[getD_set_ne false hne]; grind) (zfw hcl hi) hdead h
  have floatReady:0<unl listed f.fs-> ∃i∈Region.ready md ops listed,i∈f.fs:=by
   intro hp;obtain⟨i,hi,hun⟩:=unl_pos hp;obtain⟨d,t,hd⟩:=hfl i hi;obtain⟨o,ho,_⟩:=znp hd;exact⟨i,isready listed i o hsz ho hun (fun e he hb=>by rw[hf.free i hi o ho e he]at hb; cases hb),hi⟩
  cases l with
  | nil=>
   obtain⟨i0,hi0,_⟩:=floatReady (by grind);refine⟨fun h=>(by grind),fun i hi=>flt i hi ?_⟩;grind
  | cons k rest=>
   have hnew:=zqC _ _ hgo;have hgo':=hgo;simp only[zvO,Bool.and_eq_true,Bool.not_eq_true',List.contains_eq_mem,decide_eq_false_iff_not]at hgo';obtain⟨⟨⟨g1,g2⟩,g3⟩,g4⟩:=hgo';split at g1
   case h_2=>cases g1
   rename_i o ho;have hk:k<ops.size:=(Array.getElem?_eq_some_iff.1 ho).1;have hkf:k∉f.fs:=(hll k (by simp)).2;have hun:listed.getD k false=false:=by grind
   have hsz':(listed.setIfInBounds k true).size =ops.size:=by grind
   have hlis': ∀j,j<ops.size->j∉f.fs->(listed.setIfInBounds k true).getD j false=decide (j∈k::done):=by
    intro j hj hjf;by_cases hjk:j=k
    ·subst hjk;simp[hsz,hj]
    ·rw[getD_set_ne false (fun e=>hjk e.symm),hlis j hj hjf];simp[hjk]
   have hall': ∀j,j<ops.size->j∈k::done\/j∈rest\/j∈f.fs:=by
    grind
   have hdl': ∀j∈k::done,j<ops.size/\j∉f.fs:=fun j hj=>by
    grind
   have hll': ∀j∈rest,j<ops.size/\j∉f.fs:=fun j hj=>hll j (List.mem_cons_of_mem _ hj);have hcount:m=rest.length+unl (listed.setIfInBounds k true) f.fs:=by
    rw[unl_same hkf]; grind
   simp only[zx1,ho]at h;by_cases hkA:r.isQ k=true
   ·simp only[hkA,if_true]at h;obtain⟨V,hy,hK⟩:=h;obtain⟨oi,d,hoi,hd,hssa⟩:=zjd (hss k hkA);rw[ho]at hoi;cases hoi;have hready:k∈Region.ready md ops listed:=isready listed k o hsz ho hun (fun e he hb=>by
     grind [Array.all_eq_true_iff_forall_mem])
    have hdk:=hdead k (by simp) hkA o d ho hd;refine zAnyF_first hf hfl hss hlate ho hd hkA m listed σ hcl hsz hun hready hdk hy ?_;rw[hd]at hK;refine ih rest (k::done) _ _ hcount g4 hall' hdl' hll' hsz' hlis' (zfw hcl hready) (fun i hi hiq oi' d' hoi' hd'=> ?_) hK;grind [zqC,zd1]
   ·have hkA':r.isQ k=false:=(by grind);simp only[hkA',Bool.false_eq_true,if_false]at h;simp only[hkA',Bool.false_or,List.all_eq_true,List.any_eq_true]at g3;have hne:Region.ready md ops listed≠[]:=by
     grind [Nat.eq_zero_or_pos,Array.all_eq_true_iff_forall_mem,unl_zero]
    refine⟨fun h=>absurd h hne,fun j hj=> ?_⟩;by_cases hjf:j∈f.fs
    ·grind
    obtain⟨hjs,hjun⟩:=unlisted listed j hsz hj;have hjn:j∉done:=fun hm'=>by grind
    have hjk:j=k:=by
     grind [zcu]
    subst hjk;unfold zOpF;rw[ho];simp only[hjf,if_false,hkA',Bool.false_eq_true];have dd: ∀(σ1 σ':St),(∀u,(∀i∈f.get j,∀d t,flB ops i=some (d,t)->u≠d)->σ1.tmps u=σ.tmps u)->(∃V O',σ'=σ1.put o.dst V O')-> ∀i∈rest,r.isQ i=true-> ∀oi d,ops[i]? =some oi->oi.dst=some d->σ'.tmps d= .dead :=by
     rintro σ1 σ' ht1 ⟨V,O',rfl⟩ i hi hiq oi d hoi hd;obtain⟨oi',d',hoi',hd',hssa⟩:=zjd (hss i hiq);rw[hoi]at hoi';cases hoi';rw[hd]at hd';cases hd';have hne:j≠i:=fun e=>by grind
     rw[zd1 (fun e he=>fun e2=>(hssa j o ho).1 hne (by rw[he,e2])),ht1 d (fun i' hi' d' t hd'=> ?_)]
     ·grind
     ·rintro rfl;obtain⟨o1,ho1,_,hod1,_⟩:=znp hd';exact(hssa i' o1 ho1).1 (fun e=>(hll i (List.mem_cons_of_mem _ hi)).2 (e▸(hf.get j i' hi').1)) hod1
    have ih':=fun σ' hdd hz=>ih rest (j::done) (listed.setIfInBounds j true) σ' hcount g4 hall' hdl' hll' hsz' hlis' (zfw hcl hj) hdd hz;refine zrT (fun σ1 h1=> ?_) (rvl_tmps h);obtain⟨h1,ht1⟩:=h1;split at h1
    ·rename_i hl;simp only[hl,if_true];exact zhp (gwp_put h1) (fun σ' hz=>ih' σ' (dd σ1 σ' ht1 hz.2) hz.1)
    ·rename_i hl;simp only[hl,if_false];exact zja (sgwp_put h1) (fun σ' hz=>⟨fun i hi _ oi hoi=>hz.1.1 i hi oi hoi,ih' σ' (dd σ1 σ' ht1 hz.2) hz.1.2⟩)

def floB(md:Region.Mode)(ops:Array Oper)(r:Ord)(f:Flo):Bool:=
 f.fs.all (fun i=>match flB ops i with
  | some (d,_)=>(List.range ops.size).all fun j=>match ops[j]? with | some oj=>decide (j=i)|| !(oj.dst==some d) | none=>true
  | none=>false)&&
 f.fs.all (fun i=>match ops[i]? with | some o=>o.after.all fun e=> !Region.binds md e | none=>true)&&
 f.of.all (fun p=>p.2.all fun i=>f.fs.contains i&&zka md ops p.1 i)&&f.of.all (fun p=>decide p.2.Nodup)&&
 f.of.all (fun p=>f.of.all fun q=>p.1==q.1||p.2.all fun i=> !q.2.contains i)&&
 f.of.all (fun p=> !f.fs.contains p.1&& !r.isQ p.1)&&f.fs.all (fun k=> !r.isQ k)&&decide f.fs.Nodup
theorem zmA{k:Nat}{i:Nat}(h:i∈f.get k): ∃l,(k,l)∈f.of/\f.get k=l:=by
 unfold Flo.get at h ⊢;cases hl:f.of.lookup k with
 | none=>simp_all
 | some l=>exact⟨l,zpm hl,rfl⟩
theorem zqk{k:Nat}(h: ∀l,(k,l)∉f.of):f.get k=[]:=by
 unfold Flo.get;cases hl:f.of.lookup k with
 | none=>rfl
 | some l=>exact absurd (zpm hl) (h l)
theorem floB_ok(h:floB md ops r f=true):FloOk md ops r f/\ ∀i∈f.fs,∃d t,flB ops i=some (d,t):=by
 simp only[floB,Bool.and_eq_true,List.all_eq_true,decide_eq_true_eq,Bool.or_eq_true,beq_iff_eq,Bool.not_eq_true',List.contains_eq_mem,decide_eq_false_iff_not]at h;obtain⟨⟨⟨⟨⟨⟨⟨h1,h2⟩,h3⟩,h4⟩,h5⟩,h6⟩,h7⟩,h8⟩:=h;refine⟨{ssa:= ?_,free:= ?_,get:= ?_,nd:= ?_,uniq:= ?_,getF:= ?_,fq:=h7,gq:= ?_,fnd:=h8},?_⟩
 ·grind
 ·grind [Array.all_eq_true_iff_forall_mem]
 ·intro k i hi;obtain⟨l,hl,e⟩:=zmA hi;rw[e]at hi;exact h3 _ hl i hi
 ·grind [zmA]
 ·intro k k' i hi hi';obtain⟨l,hl,e⟩:=zmA hi;obtain⟨l',hl',e'⟩:=zmA hi';rw[e]at hi;rw[e']at hi';rcases h5 _ hl _ hl' with h | h
  ·exact h
  simp_all
 ·grind [zqk]
 ·grind [zqk]
 grind
def ordFB(md:Region.Mode)(ops:Array Oper)(r:Ord)(f:Flo):Bool:=
 (List.range ops.size).all (fun i=>r.pi.contains i||f.fs.contains i)&&r.pi.all (fun i=>decide (i<ops.size)&& !f.fs.contains i)&&f.fs.all (fun i=>decide (i<ops.size))&&
 r.pi.all (fun i=> !r.isQ i||ssaB md ops i)&&r.pi.length+f.fs.length==ops.size&&r.steps.all (fun p=>r.steps.lookup p.1==some p.2)&&
 r.pi.all (fun k=>r.isQ k||r.pi.all fun i=> !r.isQ i||(r.lateOf k).contains i||zgw md ops k i||zgw md ops i k)&&
 zvO md ops r f [] r.pi&&floB md ops r f
theorem unl_all{n:Nat}{l:List Nat}:unl (Array.replicate n false) l=l.length:=by
 unfold unl;rw[List.countP_eq_length];intro i _;simp only[Array.getD_eq_getD_getElem?,Array.getElem?_replicate];split <;> rfl
theorem region_ordF{c:Ctx}{σ:St}{a:Act}{W:World}{K:St->Prop}{Q:Exit->Act->World->Prop}{R:Option Nat}{n:Nat}(hB:ordFB md ops r f=true)(hs0:fltS c.P c.N ops f)(hK: ∀σ' a' W',K σ'->Rel c σ' a' W'->Q .normal a' W')(hX: ∀v σ' a' W',pxS c.N v σ'.objs->Rel c σ' a' W'->Q (.panic [{v:=v,recovered:=false}]) a' W')(hr:Rel c σ a W)
  (hdead: ∀i∈r.pi,r.isQ i=true-> ∀oi d,ops[i]? =some oi->oi.dst=some d->σ.tmps d= .dead) (hdf: ∀i∈f.fs,∀d t,flB ops i=some (d,t)->σ.tmps d= .dead) (h:zx1 c.P c.N r f ops r.pi σ K):wpAnyIn (FW R) n c.P md ops Q ops.size (Array.replicate ops.size false) a W:=by
 simp only[ordFB,Bool.and_eq_true,List.all_eq_true,List.mem_range,decide_eq_true_eq,Bool.or_eq_true,Bool.not_eq_true',beq_iff_eq,List.contains_eq_mem,decide_eq_false_iff_not]at hB;obtain⟨⟨⟨⟨⟨⟨⟨⟨h2,h3⟩,h3'⟩,h4⟩,h5⟩,_⟩,h6⟩,h7⟩,h8⟩:=hB;obtain⟨hf,hfl⟩:=floB_ok h8;have hq: ∀i,r.isQ i=true->i∈r.pi:=fun i hi=>Ord.isQ_mem hi;have hss: ∀i,r.isQ i=true->ssaB md ops i=true:=fun i hi=>(h4 i (hq i hi)).resolve_left (by simp[hi]);have hlate: ∀k i,k<ops.size->k∉f.fs->r.isQ k=false->r.isQ i=true->i∈r.lateOf k\/zgw md ops k i=true\/zgw md ops i k=true:=fun k i hk hkf hkq hi=>by
  grind
 have hzd: ∀D∈c.ds,(D,Obj.deferred (some []))∈c.Z:=by
  obtain⟨_,_,F,η,S,hm,_⟩:=hr;exact hm.zd
 have hr0:Rel (zwZ c ops []) σ a W:=Rel.lessZ (c:=c) (Z:=c.Z) hr (fun p hp=>hp) hzd;have hget0: ∀i,(Array.replicate ops.size false).getD i false=false:=fun i=>by
  rw[Array.getD_eq_getD_getElem?,Array.getElem?_replicate]; split <;> rfl
 have hcl0:ziy md ops (Array.replicate ops.size false):=fun j o ho hj=>by simp_all
 refine zAnyF_sound (r:=r) (f:=f) hzd hf hs0 hK hX ops.size _ _ a W [] hcl0 (by simp) hr0 ⟨by simp,by simp,by simp⟩ (fun i hi hl=>by simp_all) (by simp) (fun i hi _=>hdf i hi) ?_;exact zAnyF_lex hf hfl hss hlate ops.size r.pi [] _ σ (by rw[unl_all]; exact h5.symm) h7 (fun j hj=>by
  simp_all) (by simp) (fun j hj=>h3 j hj) (by simp) (fun j hj _=>by simp_all) hcl0 hdead h
theorem ordFB_lookup(hB:ordFB md ops r f=true): ∀p∈r.steps,r.steps.lookup p.1=some p.2:=by
 grind [ordFB]
end
end Go.Aw
