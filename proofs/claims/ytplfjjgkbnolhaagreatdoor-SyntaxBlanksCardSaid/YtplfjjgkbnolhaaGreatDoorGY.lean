/- Machinery. Conditions: those of each. -/
import Derived.Test.YtplfjjgkbnolhaaGreatDoorGR
import Derived.Still
set_option linter.unusedSimpArgs false
set_option linter.unusedVariables false
/-
 A REGION WHOSE ORDER IS OPEN: one walk in the order of the text serves every order, where all operations but the last ones only read, and the last ones wait for all before them.
 After Derived/Deep/Quiet.lean, on abstract states. Conditions: a Bool on the region's edges.
-/
namespace Go.Aw
open Go.RowKit

def zcZ(ops:Array Oper)(o:Oper)(tmps:Nat->AV):Option (Option Bool):=
 match o.guard with
 | none=>some (some true)
 | some (j,b)=>match (ops[j]?).bind (·.dst)with
  | some d=>match tmps d with
   | .d (.lit (.bool t))=>some (some (t==b))
   | .und =>some (some false)
   | _=>none
  | none=>none

def gwp(P:Program)(N:NP)(ops:Array Oper)(o:Oper)(σ:St)(K:St->Prop):Prop:=
 match zcZ ops o σ.tmps with
 | some (some t)=>(t=true->owp P N o σ K)/\(t=false->zdc N o.dst/\K (σ.put o.dst .und σ.objs))
 | _=>False

theorem zfO{ops:Array Oper}{o:Oper}{O:zbI}{W:World}{F:Nat->Prop}{η:Nat->Value}{tmps:Nat->AV}{a:Act}(ht: ∀t,zaL O W F η (tmps t) (a.tmps.getD t undef)){t:Bool}(h:zcZ ops o tmps=some (some t)):
  Region.wanted o (yielded ops a.tmps)=t:=by
 unfold zcZ at h;split at h
 ·rename_i hg;simp only[Option.some.injEq]at h;subst h;simp[Region.wanted,hg]
 ·rename_i j b hg;split at h
  ·rename_i d hd;have h1:=ht d;have key:yielded ops a.tmps j=match a.tmps[d]? with | some (.bool b)=>some b | _=>none:=by
    unfold yielded; rw[hd]; rfl
   split at h
   ·rename_i u hu;simp only[Option.some.injEq]at h;subst h;rw[hu]at h1;simp only[zaL,Rd]at h1;have h2:a.tmps[d]? =some (.bool u):=by
     rw[Array.getD_eq_getD_getElem?]at h1;cases hx:a.tmps[d]? with
     | none=>rw[hx]at h1; simp[undef]at h1
     | some v=>rw[hx]at h1; simpa using h1
    rw[h2]at key;simp only[Region.wanted,hg];rw[key];cases u <;> cases b <;> rfl
   ·rename_i hu;simp only[Option.some.injEq]at h;subst h;rw[hu]at h1;simp only[zaL]at h1;have h2:yielded ops a.tmps j=none:=by
     rw[key];rw[Array.getD_eq_getD_getElem?]at h1;cases hx:a.tmps[d]? with
     | none=>rfl
     | some v=>rw[hx]at h1; simp at h1; subst h1; rfl
    simp only[Region.wanted,hg];rw[h2];cases b <;> rfl
   ·cases h
  ·cases h

theorem owp_mono{P:Program}{N:NP}{o:Oper}{σ:St}{K K':St->Prop}(h:owp P N o σ K)(hk: ∀σ,K σ->K' σ):owp P N o σ K':=by
 unfold owp at h ⊢;rcases h with h | h
 ·exact .inl h
 right;split
 ·rename_i f args hkd;rw[hkd]at h;rcases h with h | h | h
  ·left;unfold cwp at h ⊢;split at h
   ·obtain⟨h1,h2,V,h3,h4,h5⟩:=h;exact⟨h1,h2,V,h3,h4,hk _ h5⟩
   ·exact h.elim
  ·right; left;obtain⟨r,ca,Oi,Post,h1,h2,h3,h4,h5,h6,h7⟩:=h;exact⟨r,ca,Oi,Post,h1,h2,h3,h4,h5,h6,fun V Oo new hp=>⟨(h7 V Oo new hp).1,(h7 V Oo new hp).2.1,hk _ (h7 V Oo new hp).2.2⟩⟩
  ·right; right;obtain⟨r,ca,Oi,Post,PX,h1,h2,h3,h4,h5,h6,h7,h8⟩:=h;exact⟨r,ca,Oi,Post,PX,h1,h2,h3,h4,h5,h6,fun V Oo new hp=>⟨(h7 V Oo new hp).1,(h7 V Oo new hp).2.1,hk _ (h7 V Oo new hp).2.2⟩,h8⟩
 ·rename_i hkd;rw[hkd]at h;simp only at h;unfold ywp at h ⊢;split at h
  ·obtain⟨h1,h2,A,h3,h4,h5,h6⟩:=h;exact⟨h1,h2,A,h3,h4,hk _ h5,hk _ h6⟩
  ·exact h.elim
 ·rename_i hkd;rw[hkd]at h;exact⟨h.1,fun b hb=>hk _ (h.2 b hb)⟩
 ·rename_i hkd;rw[hkd]at h;exact⟨h.1,fun j h1 h2=>hk _ (h.2.1 j h1 h2),fun h1=>hk _ (h.2.2 h1)⟩
 ·rename_i hkd;rw[hkd]at h;simp only at h;unfold ewp at h ⊢;split at h
  ·exact⟨h.1,h.2.1,h.2.2.1,hk _ h.2.2.2⟩
  ·exact h.elim
 ·rename_i hkd;rw[hkd]at h;simp only at h;unfold qwp at h ⊢;split at h
  ·exact⟨h.1,h.2.1,h.2.2.1,hk _ h.2.2.2⟩
  ·exact h.elim
theorem zhp{P:Program}{N:NP}{ops:Array Oper}{o:Oper}{σ:St}{K K':St->Prop}(h:gwp P N ops o σ K)(hk: ∀σ,K σ->K' σ):gwp P N ops o σ K':=by
 unfold gwp at h ⊢;split at h
 ·exact⟨fun e=>owp_mono (h.1 e) hk,fun e=>⟨(h.2 e).1,hk _ (h.2 e).2⟩⟩
 ·exact h.elim

theorem put_und{c:Ctx}{σ:St}{a:Act}{W:World}(h:Rel c σ a W){dst:Option Nat}(hd:zdc c.N dst):Rel c (σ.put dst .und σ.objs) (a.put dst undef) W:=by
 obtain⟨hsz,hdf,F,η,S,hm,ht⟩:=h;exact Rel.put hsz hdf hm (za7.refl _ _) (fun _ h=>⟨h,rfl⟩) ht (fun _=>AV.noRef_nil _) hd (by simp[zaL])

def lwp(P:Program)(N:NP)(ops:Array Oper):List Oper->St->(St->Prop)->Prop
 | [],σ,K=>K σ
 | o::rest,σ,K=>gwp P N ops o σ fun σ'=>lwp P N ops rest σ' K

theorem zto{c:Ctx}{ops:Array Oper}{K:St->Prop}{Q:Exit->Act->World->Prop}{R:Option Nat}{n:Nat}(hK: ∀σ' a' W',K σ'->Rel c σ' a' W'->Q .normal a' W')(hX: ∀v σ' a' W',pxS c.N v σ'.objs->Rel c σ' a' W'->Q (.panic [{v:=v,recovered:=false}]) a' W'):
  ∀(l:List Oper) (σ:St) (a:Act) (W:World),Rel c σ a W->lwp c.P c.N ops l σ K->wpListIn (FW R) n c.P ops Q l a W
 | [],σ,a,W,h,hq=>hK σ a W hq h
 | o::rest,σ,a,W,h,hq=>by
  simp only[lwp,gwp]at hq;split at hq
  ·rename_i t hg;obtain⟨_,_,F,η,S,hm,ht⟩:=id h;have hw:=zfO ht hg;unfold wpListIn;cases t
   ·rw[hw];simp only[Bool.false_eq_true,if_false];obtain⟨hd,hq⟩:=hq.2 rfl;exact⟨fun f _=>FW_fn R f,zto hK hX rest _ _ _ (put_und h hd) hq⟩
   ·rw[hw];simp only[if_true];exact owp_sound h (hq.1 rfl) (fun σ' a' W' hk hr=>zto hK hX rest σ' a' W' hr hk) hX
  ·exact hq.elim

theorem ziJ{pl:Nat->Option (Nat×Bool×Nat)}{ρ ρ':Operand->AV}{O:zbI}: ∀(ps:List (Nat×Operand)) (cs:List AV),(∀p∈ps,ρ p.2=ρ' p.2)->zod pl ρ O ps cs=zod pl ρ' O ps cs
 | [],_,_=>rfl
 | (i,x)::rest,cs,h=>by
  have h1:ρ x=ρ' x:=h (i,x) (by simp);simp only[zod,h1];split
  ·split
   ·split
    ·rw[ziJ rest _ (fun p hp=>h p (by simp[hp]))]
    ·rfl
   ·rfl
  ·rfl

theorem zvV{P:Program}{dst:Nat}{ρ ρ':Operand->AV}{O:zbI}(op:Op)(h: ∀x∈op.operands,ρ x=ρ' x):zeu P dst ρ O op=zeu P dst ρ' O op:=by
 cases op with
 | build t ps=>
  have h': ∀p∈ps.toList,ρ p.2=ρ' p.2:=fun p hp=>h p.2 (by simp only[Op.operands,List.mem_toArray,List.mem_map]; exact⟨p,hp,rfl⟩);simp only[zeu,ziJ ps.toList _ h']
 | makeFunc f fs cs=>
  simp only[Op.operands]at h;simp only[zeu];rw[List.map_congr_left (f:=ρ) (g:=ρ') (l:=fs.toList) (fun x hx=>h x (Array.mem_append.2 (.inl (Array.mem_toList_iff.1 hx)))),List.map_congr_left (f:=ρ) (g:=ρ') (l:=cs.toList) (fun x hx=>h x (Array.mem_append.2 (.inr (Array.mem_toList_iff.1 hx))))]
 | slice t x lo hi mx=>
  simp only[Op.operands]at h;have hx:ρ x=ρ' x:=h x (by simp);have ho: ∀y:Option Operand,(∀z,y=some z->ρ z=ρ' z)->intO ρ y=intO ρ' y:=by
   intro y hy;cases y with
   | none=>rfl
   | some z=>simp only[intO,hy z rfl]
  simp only[zeu,hx,ho lo (fun z e=>h z (by simp[e])),ho hi (fun z e=>h z (by simp[e])),ho mx (fun z e=>h z (by simp[e]))]
 | call cl=>
  obtain⟨callee,args,ts⟩:=cl;cases callee with
  | builtin b=>
   cases b <;> try rfl
   case min=>
    simp only[zeu];split
    ·rename_i x y t t' h1 h2;have hx:ρ x=ρ' x:=h x (by
      simp only[Op.operands,Call.operands];exact Array.mem_append.2 (.inr (by rw[<-Array.mem_toList_iff,h1]; simp)))
     have hy:ρ y=ρ' y:=h y (by
      simp only[Op.operands,Call.operands];exact Array.mem_append.2 (.inr (by rw[<-Array.mem_toList_iff,h1]; simp)))
     rw[hx,hy]
    ·rfl
   case max=>
    simp only[zeu];split
    ·rename_i x y t t' h1 h2;have hx:ρ x=ρ' x:=h x (by
      simp only[Op.operands,Call.operands];exact Array.mem_append.2 (.inr (by rw[<-Array.mem_toList_iff,h1]; simp)))
     have hy:ρ y=ρ' y:=h y (by
      simp only[Op.operands,Call.operands];exact Array.mem_append.2 (.inr (by rw[<-Array.mem_toList_iff,h1]; simp)))
     rw[hx,hy]
    ·rfl
   simp only[zeu];split
   ·rename_i t x ht hx;have:ρ x=ρ' x:=h x (by
     simp only[Op.operands,Call.operands];exact Array.mem_append.2 (.inr (Array.mem_of_getElem? hx)))
    rw[this]
   ·rfl
  | value f=>rfl
  | invoke r m=>rfl
 | _=>
  simp only[Op.operands,List.mem_toArray,List.mem_cons,List.not_mem_nil,or_false,forall_eq_or_imp,forall_eq]at h;simp[zeu,h]

theorem ev_put{σ:St}{dst:Option Nat}{V:AV}{O:zbI}{x:Operand}(h: ∀d,dst=some d->x≠ .tmp d):St.ev (σ.put dst V O).tmps x=St.ev σ.tmps x:=by
 cases dst with
 | none=>rfl
 | some d=>
  cases x with
  | tmp t=>
   have:t≠d:=fun e=>h d rfl (by rw[e]);simp[St.ev,St.put,upd,this]
  | _=>rfl
theorem zd1{σ:St}{dst:Option Nat}{V:AV}{O:zbI}{t:Nat}(h: ∀d,dst=some d->t≠d):(σ.put dst V O).tmps t=σ.tmps t:=by
 cases dst with
 | none=>rfl
 | some d=>simp[St.put,upd,h d rfl]
theorem put_comm{σ:St}{x y:Option Nat}{V U:AV}(h: ∀d,x=some d->y≠some d):(σ.put x V σ.objs).put y U σ.objs=(σ.put y U σ.objs).put x V σ.objs:=by
 cases x with
 | none=>cases y <;> rfl
 | some d=>
  cases y with
  | none=>rfl
  | some d'=>
   have hne:d'≠d:=fun e=>h d rfl (by rw[e]);simp only[St.put,St.mk.injEq,and_true];funext t;simp only[upd];by_cases h1:t=d
   ·subst h1; simp[Ne.symm hne]
   ·simp[h1]

def zn3(ρ:Operand->AV)(op:Op):Option (FuncId×List AV):=
 match op with
 | .call {callee:=.value x,args,..}=>match vfOf (ρ x)with
  | some (f,fs,cs)=>some (f,fs++args.toList.map ρ++cs)
  | none=>none
 | _=>none
theorem zvk{P:Program}{own:Option (List (TypeId×Nat))}{d:Nat}{ρ:Operand->AV}{O:zbI}{op:Op}{f:FuncId}{as:List AV}(h:zn3 ρ op=some (f,as)):zpk P own d ρ O op= .call f as:=by
 unfold zn3 at h;split at h
 ·rename_i x args ts;split at h
  ·rename_i g fs cs hv;simp only[Option.some.injEq,Prod.mk.injEq]at h;obtain⟨rfl,rfl⟩:=h;simp only[zpk,hv]
  ·cases h
 ·cases h
theorem callT_qsem{P:Program}{d:Nat}{ρ ρ':Operand->AV}{O:zbI}{op:Op}{r:Prop×AV×Option AO}(h:zeu P d ρ O op=some r):zn3 ρ' op=none:=by
 unfold zn3;split
 ·simp[zeu]at h
 ·rfl
theorem zse{ρ ρ':Operand->AV}{op:Op}(h: ∀x∈op.operands,ρ x=ρ' x):zn3 ρ op=zn3 ρ' op:=by
 unfold zn3;split
 ·rename_i x args ts;have hx:ρ x=ρ' x:=h x (by simp[Op.operands,Call.operands]);have ha:args.toList.map ρ=args.toList.map ρ':=by
   refine List.map_congr_left (fun y hy=>h y ?_);simp only[Op.operands,Call.operands];exact Array.mem_append.2 (.inr (by simpa using hy))
  rw[hx,ha]
 ·rfl
def qdet(P:Program)(o:Oper)(σ:St)(V:AV):Prop:=
 match zn3 (St.ev σ.tmps) o.op with
 | some (f,as)=> ∃vc ds ids,frz.frzL σ.objs as=some (vc,ds,ids)/\vc/\FnP P f ds V []/\zrv V=true/\(flat V=true\/ids=[])
 | none=> ∃vc,zeu P (o.dst.getD 0) (St.ev σ.tmps) σ.objs o.op=some (vc,V,none)/\vc
def qdwp(P:Program)(N:NP)(o:Oper)(σ:St)(K:St->Prop):Prop:=
 match zn3 (St.ev σ.tmps) o.op with
 | some (f,as)=>match frz.frzL σ.objs as with
  | some (vc,ds,ids)=>vc/\zdc N o.dst/\ ∃V,FnP P f ds V []/\zrv V=true/\(flat V=true\/ids=[])/\K (σ.put o.dst V σ.objs)
  | none=>False
 | none=>match zeu P (o.dst.getD 0) (St.ev σ.tmps) σ.objs o.op with
  | some (vc,V,none)=>vc/\zdc N o.dst/\K (σ.put o.dst V σ.objs)
  | _=>False
theorem qdwp_iff{P:Program}{N:NP}{o:Oper}{σ:St}{K:St->Prop}:qdwp P N o σ K↔ ∃V,qdet P o σ V/\zdc N o.dst/\K (σ.put o.dst V σ.objs):=by
 unfold qdwp qdet;split
 ·rename_i f as ho;split
  ·rename_i vc ds ids hs;constructor
   ·rintro⟨h1,h2,V,h3,h4,h5,h6⟩;exact⟨V,⟨vc,ds,ids,hs,h1,h3,h4,h5⟩,h2,h6⟩
   ·rintro⟨V,⟨vc',ds',ids',he,h1,h3,h4,h5⟩,h2,h6⟩;rw[hs]at he;simp only[Option.some.injEq,Prod.mk.injEq]at he;obtain⟨rfl,rfl,rfl⟩:=he;exact⟨h1,h2,V,h3,h4,h5,h6⟩
  ·constructor
   ·exact False.elim
   ·rename_i hs;rintro⟨V,⟨vc',ds',ids',he,_⟩,_⟩;rw[hs]at he; cases he
 ·split
  ·rename_i vc V hs;constructor
   ·rintro⟨h1,h2,h3⟩;exact⟨V,⟨vc,hs,h1⟩,h2,h3⟩
   ·rintro⟨V',⟨vc',he,h1⟩,h2,h3⟩;rw[hs]at he;simp only[Option.some.injEq,Prod.mk.injEq,and_true]at he;obtain⟨rfl,rfl⟩:=he;exact⟨h1,h2,h3⟩
  ·rename_i hs;constructor
   ·exact False.elim
   ·rintro⟨V,⟨vc,he,_⟩,_⟩;exact(hs vc V he).elim
theorem qsem_kind{P:Program}{own:Option (List (TypeId×Nat))}{d:Nat}{ρ:Operand->AV}{O:zbI}{op:Op}{vc:Prop}{V:AV}(h:zeu P d ρ O op=some (vc,V,none)):zpk P own d ρ O op= .q :=by
 cases op with
 | call cl=>
  obtain⟨callee,args,ts⟩:=cl;cases callee with
  | builtin b=>cases b <;> first | rfl | (simp[zeu]at h; done)
  | value f=>simp[zeu]at h
  | invoke r m=>simp[zeu]at h
 | binOp op t x y t'=>
  have hn:nilE P ρ (.binOp op t x y t')=none:=by
   cases op <;> simp only[nilE]
   all_goals
    split
    ·rename_i es h1 h2;simp[zeu,h1,h2]at h
    ·rfl
  simp[zpk,hn,zl4]
 | box t x=>simp only[zeu]at h; grind
 | _=>first | (simp[zeu]at h; done) | simp[zpk,nilE,zl4]
theorem qdwp_owp{P:Program}{N:NP}{o:Oper}{σ:St}{K:St->Prop}(h:qdwp P N o σ K):owp P N o σ K:=by
 unfold qdwp at h;split at h
 ·rename_i f as ho;have hk:zpk P (zru N o.dst) (o.dst.getD 0) (St.ev σ.tmps) σ.objs o.op= .call f as:=zvk ho;unfold owp;rw[hk];right; left;unfold cwp;split at h
  ·rename_i vc ds ids hs;obtain⟨h1,h2,V,h3,h4,h5,h6⟩:=h
   first | rw[hs] | skip
   refine⟨h1,h2,V,h3,h4,?_⟩;rcases h5 with h5 | rfl
   ·rw[if_pos h5]; exact h6
   ·have:drop σ.objs []=σ.objs:=(by funext id; simp[drop]);rw[this]; split <;> exact h6
  ·exact h.elim
 ·rename_i hno;split at h
  ·rename_i vc V hs;obtain⟨h1,h2,h3⟩:=h;unfold owp;rw[qsem_kind hs];unfold qwp;rw[hs];exact .inr ⟨h1,by simp,h2,h3⟩
  ·exact h.elim

def qgwp(P:Program)(N:NP)(ops:Array Oper)(o:Oper)(σ:St)(K:St->Prop):Prop:=
 match zcZ ops o σ.tmps with
 | some (some t)=>(t=true->qdwp P N o σ K)/\(t=false->zdc N o.dst/\K (σ.put o.dst .und σ.objs))
 | _=>False
def QY(P:Program)(N:NP)(ops:Array Oper)(o:Oper)(V:AV)(σ:St):Prop:=
 zdc N o.dst/\((zcZ ops o σ.tmps=some (some true)/\qdet P o σ V)\/(zcZ ops o σ.tmps=some (some false)/\V= .und))
theorem zlA{P:Program}{N:NP}{ops:Array Oper}{o:Oper}{σ:St}{K:St->Prop}:qgwp P N ops o σ K↔ ∃V,QY P N ops o V σ/\K (σ.put o.dst V σ.objs):=by
 unfold qgwp QY;split
 ·rename_i t hg;rw[hg];cases t
  ·simp;constructor
   ·rintro⟨h1,h2⟩; exact⟨_,⟨h1,rfl⟩,h2⟩
   ·rintro⟨V,⟨h1,rfl⟩,h2⟩; exact⟨h1,h2⟩
  ·simp only[forall_const,Bool.true_eq_false,false_implies,and_true,qdwp_iff,true_and,false_and,or_false,Option.some.injEq];constructor
   ·rintro⟨V,h1,h2,h3⟩; exact⟨V,⟨h2,h1⟩,h3⟩
   ·rintro⟨V,⟨h2,h1⟩,h3⟩; exact⟨V,h1,h2,h3⟩
 ·rename_i hg;constructor
  ·exact False.elim
  ·rintro⟨V,⟨_,h | h⟩,_⟩
   ·exact(hg _ h.1).elim
   ·exact(hg _ h.1).elim
theorem qgwp_gwp{P:Program}{N:NP}{ops:Array Oper}{o:Oper}{σ:St}{K:St->Prop}(h:qgwp P N ops o σ K):gwp P N ops o σ K:=by
 unfold qgwp at h;unfold gwp;split at h
 ·exact⟨fun e=>qdwp_owp (h.1 e),h.2⟩
 ·exact h.elim

theorem zoj{ops:Array Oper}{o:Oper}{σ:St}{dst:Option Nat}{V:AV}{O:zbI}(h: ∀d,dst=some d->d∉o.looksAt ops):zcZ ops o (σ.put dst V O).tmps =zcZ ops o σ.tmps:=by
 unfold zcZ;split
 ·rfl
 ·rename_i j b hg;split
  ·rename_i d hd;rw[zd1 (fun d' hd'=>by
    intro e;subst e;refine h d hd' ?_;simp only[Oper.looksAt,List.mem_append,hg];exact .inr (by simp[hd]))]
  ·rfl
theorem zsC{ops:Array Oper}{o:Oper}{σ:St}{dst:Option Nat}{V:AV}{O:zbI}(h: ∀d,dst=some d->d∉o.looksAt ops): ∀x∈o.op.operands,St.ev (σ.put dst V O).tmps x=St.ev σ.tmps x:=by
 intro x hx;refine ev_put (fun d hd=> ?_);rintro rfl;refine h d hd ?_;simp only[Oper.looksAt,List.mem_append,List.mem_filterMap];exact .inl ⟨.tmp d,by simpa using hx,rfl⟩
theorem qdet_put{P:Program}{ops:Array Oper}{o:Oper}{σ:St}{dst:Option Nat}{V U:AV}(h: ∀d,dst=some d->d∉o.looksAt ops):qdet P o (σ.put dst V σ.objs) U↔qdet P o σ U:=by
 have he:=zsC (V:=V) (O:=σ.objs) (σ:=σ) h;unfold qdet;rw[zse he,zvV o.op he];rfl
theorem QY_put{P:Program}{N:NP}{ops:Array Oper}{o:Oper}{σ:St}{dst:Option Nat}{V U:AV}(h: ∀d,dst=some d->d∉o.looksAt ops):QY P N ops o U (σ.put dst V σ.objs)↔QY P N ops o U σ:=by
 unfold QY;rw[zoj h,qdet_put h]

section
variable {P:Program} {N:NP} {nA:Nat} {ops:Array Oper} {md:Region.Mode}
def aOp(P:Program)(N:NP)(ops:Array Oper)(nA i:Nat)(K:St->Prop)(σ:St):Prop:=
 match ops[i]? with
 | none=>K σ
 | some o=>if i<nA then qgwp P N ops o σ K else gwp P N ops o σ K
def aAny(P:Program)(N:NP)(md:Region.Mode)(ops:Array Oper)(nA:Nat)(K:St->Prop):Nat->Array Bool->St->Prop
 | 0,listed,σ=>Region.ready md ops listed=[]/\K σ
 | fuel+1,listed,σ=>(Region.ready md ops listed=[]->K σ)/\ ∀i∈Region.ready md ops listed,aOp P N ops nA i (aAny P N md ops nA K fuel (listed.setIfInBounds i true)) σ

theorem zmC{c:Ctx}{σ:St}{a:Act}{W:World}(h:Rel c σ a W){o:Oper}{K:St->Prop}(hq:gwp c.P c.N ops o σ K){next:Act->World->Prop}{Q:Exit->Act->World->Prop}{R:Option Nat}{n:Nat}
  (hK: ∀σ' a' W',K σ'->Rel c σ' a' W'->next a' W') (hX: ∀v σ' a' W',pxS c.N v σ'.objs->Rel c σ' a' W'->Q (.panic [{v:=v,recovered:=false}]) a' W'):
  if Region.wanted o (yielded ops a.tmps)then o.wpIn (FW R) n c.P a W next Q else(∀f,o.about c.P W a.eval=some f->(FW R).fn f)/\next (a.put o.dst undef) W:=by
 unfold gwp at hq;split at hq
 ·rename_i t hg;obtain⟨_,_,F,η,S,hm,ht⟩:=id h;have hw:=zfO ht hg;rw[hw];cases t
  ·simp only[Bool.false_eq_true,if_false];exact⟨fun f _=>FW_fn R f,hK _ _ _ (hq.2 rfl).2 (put_und h (hq.2 rfl).1)⟩
  ·simp only[if_true];exact owp_sound h (hq.1 rfl) hK hX
 ·exact hq.elim

theorem zpW{c:Ctx}{K:St->Prop}{Q:Exit->Act->World->Prop}{R:Option Nat}{n:Nat}(hK: ∀σ' a' W',K σ'->Rel c σ' a' W'->Q .normal a' W')(hX: ∀v σ' a' W',pxS c.N v σ'.objs->Rel c σ' a' W'->Q (.panic [{v:=v,recovered:=false}]) a' W'):
  ∀(fuel:Nat) (listed:Array Bool) (σ:St) (a:Act) (W:World),Rel c σ a W->aAny c.P c.N md ops nA K fuel listed σ->wpAnyIn (FW R) n c.P md ops Q fuel listed a W
 | 0,_,_,_,_,hr,h=>⟨h.1,hK _ _ _ h.2 hr⟩
 | fuel+1,listed,σ,a,W,hr,h=>by
  refine⟨fun h0=>hK _ _ _ (h.1 h0) hr,fun i hi=> ?_⟩;have h1:=h.2 i hi;unfold aOp at h1;unfold wpOpIn;split
  ·rename_i ho;rw[ho]at h1;exact zpW hK hX fuel _ _ _ _ hr h1
  ·rename_i o ho;rw[ho]at h1;simp only at h1;have h2:gwp c.P c.N ops o σ (aAny c.P c.N md ops nA K fuel (listed.setIfInBounds i true)):=by
    split at h1
    ·exact qgwp_gwp h1
    ·exact h1
   exact zmC hr h2 (fun σ' a' W' hk hr'=>zpW hK hX fuel _ _ _ _ hr' hk) hX

def ziy(md:Region.Mode)(ops:Array Oper)(listed:Array Bool):Prop:=
 ∀(j:Nat) (o:Oper),ops[j]? =some o->listed.getD j false=true-> ∀e∈o.after,Region.binds md e=true->listed.getD e.on false=true
def zka(md:Region.Mode)(ops:Array Oper)(j i:Nat):Bool:=
 match ops[j]? with
 | some o=>o.after.any fun e=>Region.binds md e&&e.on==i
 | none=>false
theorem edgeB_iff{j i:Nat}:zka md ops j i=true↔ ∃o,ops[j]? =some o/\ ∃e∈o.after,Region.binds md e=true/\e.on=i:=by
 unfold zka;cases ops[j]? with
 | none=>simp
 | some o=>
  simp only[Array.any_eq_true,Bool.and_eq_true,beq_iff_eq,Option.some.injEq,exists_eq_left'];constructor
  ·rintro⟨x,hx,h1,h2⟩; exact⟨_,Array.getElem_mem hx,h1,h2⟩
  ·rintro⟨e,he,h1,h2⟩;obtain⟨x,hx,rfl⟩:=Array.mem_iff_getElem.1 he;exact⟨x,hx,h1,h2⟩

def zsx(md:Region.Mode)(ops:Array Oper)(nA:Nat):Bool:=
 Region.noSelect ops&&
 (List.range ops.size).all (fun j=>match ops[j]? with | some o=>o.after.all fun e=> !Region.binds md e||decide (e.on<j) | none=>true)&&
 (List.range nA).all (fun i=>match ops[i]? with
  | some oi=>(List.range nA).all fun j=>decide (j<=i)||zka md ops j i||(match ops[j]? with | some oj=>oi.apart ops oj | none=>true)
  | none=>true)&&
 (List.range nA).all (fun i=>decide (ops.size<=nA)||(List.range (nA+1)).any fun s=>decide (i<s)&&zka md ops s i)&&
 (List.range ops.size).all (fun k=>decide (k<=nA)||zka md ops k (k-1))

theorem zcu{listed:Array Bool}{i j:Nat}(h:zka md ops j i=true)(hj:j∈Region.ready md ops listed):listed.getD i false=true:=by
 obtain⟨o,ho,e,he,hb,rfl⟩:=edgeB_iff.1 h;obtain⟨_,o',ho',h'⟩:=mem_ready.1 hj;rw[ho]at ho';cases ho';exact h' e he hb
theorem zc8{listed:Array Bool}(hc:ziy md ops listed){i j:Nat}(h:zka md ops j i=true)(hj:listed.getD j false=true):listed.getD i false=true:=by
 obtain⟨o,ho,e,he,hb,rfl⟩:=edgeB_iff.1 h;exact hc j o ho hj e he hb
theorem zfw{listed:Array Bool}(hc:ziy md ops listed){i:Nat}(hi:i∈Region.ready md ops listed):ziy md ops (listed.setIfInBounds i true):=by
 intro j o ho hj e he hb;refine getD_set_true ?_;by_cases h:i=j
 ·subst h;obtain⟨_,o',ho',h'⟩:=mem_ready.1 hi;rw[ho]at ho';cases ho';exact h' e he hb
 ·rw[getD_set_ne false h]at hj;exact hc j o ho hj e he hb

theorem zwg{listed:Array Bool}(hB:zsx md ops nA=true)(hc:ziy md ops listed){k:Nat}(hk:nA<=k)(hks:k<ops.size)(hr:listed.getD k false=true\/k∈Region.ready md ops listed):
  ∀i,i<k->listed.getD i false=true:=by
 simp only[zsx,Bool.and_eq_true,List.all_eq_true,List.mem_range,Bool.or_eq_true,decide_eq_true_eq,List.any_eq_true]at hB;obtain⟨⟨⟨⟨_,_⟩,_⟩,h4⟩,h5⟩:=hB
 -- from nA on, one by one
 have step: ∀m,nA+m=k-> ∀i,nA<=i->i<k->listed.getD i false=true:=by
  intro m
  induction m generalizing k with
  | zero=>intro h i h1 h2; omega
  | succ m ih=>
   intro h i h1 h2;have he:=(h5 k hks).resolve_left (by omega);have hl:listed.getD (k-1) false=true:=by
    rcases hr with hr | hr
    ·exact zc8 hc he hr
    ·exact zcu he hr
   by_cases hi:i=k-1
   ·rw[hi]; exact hl
   ·exact ih (by omega) (by omega) (.inl hl) (by omega) i h1 (by omega)
 have top: ∀s,nA<=s->s<=k->(listed.getD s false=true\/s=k):=by
  intro s h1 h2;by_cases h:s=k
  ·exact .inr h
  ·exact .inl (step (k-nA) (by omega) s h1 (by omega))
 intro i hi;by_cases hnA:nA<=i
 ·exact step (k-nA) (by omega) i hnA hi
 ·-- downwards
  have down: ∀m i,i<nA->nA-i<=m->listed.getD i false=true:=by
   intro m
   induction m with
   | zero=>intro i h1 h2; omega
   | succ m ih=>
    intro i h1 h2;obtain⟨s,hs1,hs2,hs3⟩:=(h4 i h1).resolve_left (by omega);by_cases hs:s<nA
    ·exact zc8 hc hs3 (ih s hs (by omega))
    ·have:s=nA:=(by omega);subst this;rcases top s (Nat.le_refl _) hk with h | h
     ·exact zc8 hc hs3 h
     ·subst h;rcases hr with hr | hr
      ·exact zc8 hc hs3 hr
      ·exact zcu hs3 hr
  exact down nA i (by omega) (by omega)

theorem aAny_first{K:St->Prop}(hB:zsx md ops nA=true){i:Nat}{oi:Oper}{V:AV}(hi:ops[i]? =some oi)(hiA:i<nA):
  ∀(fuel:Nat) (listed:Array Bool) (σ:St),ziy md ops listed->(∀j,j<i->listed.getD j false=true)->listed.getD i false=false->
   i∈Region.ready md ops listed->QY P N ops oi V σ->aAny P N md ops nA K fuel (listed.setIfInBounds i true) (σ.put oi.dst V σ.objs)->aAny P N md ops nA K (fuel+1) listed σ:=by
 intro fuel
 induction fuel with
 | zero=>
  intro listed σ hcl hlow hun hr hy H;refine⟨fun h=>(by rw[h]at hr; cases hr),fun j hj=> ?_⟩;by_cases hji:j=i
  ·subst hji;unfold aOp;rw[hi];simp only[hiA,if_true];exact zlA.2 ⟨V,hy,H⟩
  ·have:=ready_mono hj hji;rw[H.1]at this;cases this
 | succ fuel ih=>
  intro listed σ hcl hlow hun hr hy H;refine⟨fun h=>(by rw[h]at hr; cases hr),fun j hj=> ?_⟩;by_cases hji:j=i
  ·subst hji;unfold aOp;rw[hi];simp only[hiA,if_true];exact zlA.2 ⟨V,hy,H⟩
  ·have h1:=H.2 j (ready_mono hj hji);obtain⟨hjun,oj,hoj,hall⟩:=mem_ready.1 hj;have hjs:j<ops.size:=(Array.getElem?_eq_some_iff.1 hoj).1;have hjA:j<nA:=by
    refine Nat.lt_of_not_le (fun hle=> ?_);have:=zwg hB hcl hle hjs (.inr hj) i (by omega);rw[hun]at this;cases this
   have hij:i<j:=by
    refine Nat.lt_of_not_le (fun hle=> ?_);have h2:=hlow j (by omega);rcases Nat.lt_or_ge j listed.size with h' | h'
    ·simp[h']at hjun h2; rw[h2]at hjun; cases hjun
    ·simp[Array.getElem?_eq_none h']at h2
   have hnot:zka md ops j i=false:=by
    cases he:zka md ops j i
    ·rfl
    ·have:=zcu he hj; rw[hun]at this; cases this
   have hap:oi.apart ops oj=true:=by
    simp only[zsx,Bool.and_eq_true,List.all_eq_true,List.mem_range]at hB;have:=hB.1.1.2 i hiA;rw[hi]at this;simp only[List.all_eq_true,List.mem_range,Bool.or_eq_true,decide_eq_true_eq]at this;have:=this j hjA;rw[hoj]at this;simp only[hnot]at this;rcases this with(h | h) | h
    ·omega
    ·cases h
    ·exact h
   obtain⟨a1,a2,a3⟩:=Oper.apart_spec hap;unfold aOp at h1 ⊢;rw[hoj]at h1 ⊢;simp only[hjA,if_true]at h1 ⊢;obtain⟨U,hu,hk⟩:=zlA.1 h1;rw[QY_put a1]at hu;refine zlA.2 ⟨U,hu,?_⟩;have hne:(listed.setIfInBounds j true).getD i false=false:=by rw[getD_set_ne false (fun e=>hji e)]; exact hun
   refine ih (listed.setIfInBounds j true) _ (zfw hcl hj) (fun k hk'=>getD_set_true (hlow k hk')) hne (ready_mono hr (Ne.symm hji)) ((QY_put a3).2 hy) ?_;rw[Array.setIfInBounds_comm _ _ hji];have hk':aAny P N md ops nA K fuel ((listed.setIfInBounds i true).setIfInBounds j true) ((σ.put oi.dst V σ.objs).put oj.dst U σ.objs):=hk;rw[put_comm a2]at hk';exact hk'

def dlwp(P:Program)(N:NP)(ops:Array Oper)(nA:Nat):Nat->List Oper->St->(St->Prop)->Prop
 | _,[],σ,K=>K σ
 | i,o::rest,σ,K=>if i<nA then qgwp P N ops o σ fun σ'=>dlwp P N ops nA (i+1) rest σ' K else gwp P N ops o σ fun σ'=>dlwp P N ops nA (i+1) rest σ' K

theorem getD_listed{listed:Array Bool}{k:Nat}(h: ∀j,listed.getD j false=decide (j<k))(hs:listed.size=ops.size)(hk:k<ops.size): ∀j,(listed.setIfInBounds k true).getD j false=decide (j<k+1):=by
 intro j;by_cases hj:j=k
 ·subst hj;simp[hs,hk]
 ·rw[getD_set_ne false (fun e=>hj e.symm),h j];by_cases h1:j<k
  ·simp[h1,show j<k+1 by omega]
  ·simp[h1,show ¬j<k+1 by omega]

theorem aAny_lex{K:St->Prop}(hB:zsx md ops nA=true): ∀(l:List Oper) (k:Nat) (listed:Array Bool) (σ:St),(∀j,l[j]? =ops[k+j]?)->listed.size=ops.size->(∀j,listed.getD j false=decide (j<k))->
  ziy md ops listed->dlwp P N ops nA k l σ K->aAny P N md ops nA K l.length listed σ:=by
 intro l
 induction l with
 | nil=>
  intro k listed σ hl hs hg hc h;refine⟨?_,h⟩;rw[List.eq_nil_iff_forall_not_mem];intro j hj;obtain⟨h1,o,ho,_⟩:=mem_ready.1 hj;have h2:=hg j;have hlt:j<ops.size:=(Array.getElem?_eq_some_iff.1 ho).1;have hk:ops.size<=k:=by
   have:=hl 0;simp at this;exact this
  have h3:listed.getD j false=true:=by rw[h2]; simp; omega
  rw[Array.getD_eq_getD_getElem?]at h1 h3;have:j<listed.size:=by omega
  simp[this]at h1 h3;rw[h1]at h3;cases h3
 | cons o l ih=>
  intro k listed σ hl hs hg hc h;have h0:ops[k]? =some o:=by simpa using(hl 0).symm
  have hk:k<ops.size:=(Array.getElem?_eq_some_iff.1 h0).1;have hlow: ∀j,j<k->listed.getD j false=true:=fun j hj=>by rw[hg j]; simp[hj]
  have hun:listed.getD k false=false:=by rw[hg k]; simp
  have hready:k∈Region.ready md ops listed:=by
   refine mem_ready.2 ⟨?_,o,h0,fun e he hb=> ?_⟩
   ·rw[Array.getD_eq_getD_getElem?]at hun ⊢;have:k<listed.size:=(by omega);simpa [this]using hun
   ·refine hlow e.on ?_;simp only[zsx,Bool.and_eq_true,List.all_eq_true,List.mem_range]at hB;have:=hB.1.1.1.2 k hk;rw[h0]at this;simp only[Array.all_eq_true_iff_forall_mem,Bool.or_eq_true,Bool.not_eq_true',decide_eq_true_eq]at this;rcases this e he with h | h
    ·rw[hb]at h; cases h
    ·exact h
  have hl': ∀j,l[j]? =ops[k+1+j]? :=fun j=>by have:=hl (j+1); simpa [Nat.add_assoc,Nat.add_comm 1 j]using this
  have hnext:=fun σ' (h:dlwp P N ops nA (k+1) l σ' K)=>ih (k+1) (listed.setIfInBounds k true) σ' hl' (by simpa using hs) (getD_listed hg hs hk) (zfw hc hready) h;simp only[dlwp]at h;by_cases hkA:k<nA
  ·simp only[hkA,if_true]at h;obtain⟨V,hy,hK⟩:=zlA.1 h;exact aAny_first hB h0 hkA l.length listed σ hc hlow hun hready hy (hnext _ hK)
  ·simp only[hkA,if_false]at h;refine⟨fun h=>(by rw[h]at hready; cases hready),fun j hj=> ?_⟩;have hjk:j=k:=by
    obtain⟨h1,oj,hoj,_⟩:=mem_ready.1 hj;have hjs:j<ops.size:=(Array.getElem?_eq_some_iff.1 hoj).1;have hnl: ¬j<k:=fun hlt=>by
     have:=hlow j hlt;rw[Array.getD_eq_getD_getElem?]at h1 this;have h2:j<listed.size:=(by omega);simp[h2]at h1 this;rw[h1]at this; cases this
    refine Nat.le_antisymm (Nat.le_of_not_lt (fun hlt=> ?_)) (by omega);have:=zwg hB hc (k:=j) (by omega) hjs (.inr hj) k hlt;rw[hun]at this; cases this
   subst hjk;unfold aOp;rw[h0];simp only[hkA,if_false];exact zhp h (fun σ' hk=>hnext σ' hk)
end
end Go.Aw
