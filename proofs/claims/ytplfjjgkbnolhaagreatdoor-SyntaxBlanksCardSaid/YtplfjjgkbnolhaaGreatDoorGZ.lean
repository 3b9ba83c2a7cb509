/- Machinery. Conditions: those of each. -/
import Derived.Test.YtplfjjgkbnolhaaGreatDoorGY
set_option linter.unusedSimpArgs false
set_option linter.unusedVariables false
/-
 A REGION WHOSE ORDER IS OPEN, BY A WALK IN AN ORDER OF THE PROVER's CHOICE: first all operations that only read or lay new plain data, then the zdh, one by one; a reading operation that need not come up zk2 of one of these zdh is shown to yield the same behind it.
 Conditions: a Bool on the region's edges and on the order.
-/
namespace Go.Aw
open Go.RowKit

def bsQ(P:Program)(ρ:Operand->AV)(O:zbI)(t:TypeId)(len:Nat)(parts:Array (Nat×Operand)):Option (Prop×AV):=
 match bsE P ρ O t len parts with
 | some (vc,.arr _ _ .flat es,[])=>some (vc,if len=0 then .emp else .d (.sl es))
 | _=>none

section
variable {c:Ctx} {O:zbI} {W:World} {F:Nat->Prop} {η:Nat->Value} {S:Nat->List Nat} {ρ:Operand->AV} {a:Operand->Value}
theorem bsQ_run(hm:Mem c O W F η S)(hρ: ∀x,zaL O W F η (ρ x) (a x)){t:TypeId}{len:Nat}{parts:Array (Nat×Operand)}{vc:Prop}{V:AV}(h:bsQ c.P ρ O t len parts=some (vc,V))(hvc:vc):
  ∃v W' F' ,(Instr.buildSlice t len (parts.map fun(i,x)=>(i,a x))).run c.P W= .ok v W'/\Below W.heap.size W W'/\(∀b,F b->F' b)/\(∀b,F' b->F b\/(W.heap.size<=b/\b<W'.heap.size))/\zaL O W' F' η V v:=by
 unfold bsQ at h;split at h
 case h_2=>cases h
 rename_i vc' e0 k0 es0 hbs;simp only[Option.some.injEq,Prod.mk.injEq]at h;obtain⟨rfl,rfl⟩:=h;unfold bsE at hbs;split at hbs
 case h_2=>cases hbs
 rename_i e k bytes hty;obtain⟨i,z,t1,t2,t3,t4,t5,t6,t7⟩:=zeW hty;split at hbs
 case h_2=>cases hbs
 rename_i ag sz z' hlay hz;obtain⟨i',u,z1,z2,z3⟩:=zeK hz;rw[t2]at z1;cases z1;rw[t3]at z2;cases z2;split at hbs
 case h_2=>cases hbs
 rename_i vc1 cs hfill;split at hbs
 case h_2=>cases hbs
 rename_i vc2 ds ids' hfrz;simp only[Option.some.injEq,Prod.mk.injEq,AO.arr.injEq,true_and]at hbs;obtain⟨rfl,⟨rfl,rfl,rfl⟩,rfl⟩:=hbs;obtain⟨hvc1,hvc2,hsz⟩:=hvc;subst z3;obtain⟨cells,hc1,hc2⟩:=zmt hm hρ (fun i=>some (i*k,k)) (fun i off ag n hp=>by
  grind) parts.toList _ ((List.replicate len z.cells.toList).flatten) _ (zlD z.cells.toList O η len) hfill hvc1
 have hrd:=zmx (F':=F) hm (fun b hb=>hb) _ _ _ hc2 hfrz hvc2 (by simp);have hcl:cells.length=len*k:=by
  have h1:=zaN.length _ _ hc2;rw[zju _ _ _ hfill]at h1;simp_all
 have hdl:ds.length=len*k:=by grind [zav.length]
 have hpl:len<=maxLen:=by
  unfold maxLen;have:len*1<=len*k:=Nat.mul_le_mul_left len t7;omega
 have hrun:(Instr.buildSlice t len (parts.map fun(i,x)=>(i,a x))).run c.P W= .ok (.slice (some ⟨W.heap.size,0,none⟩) len len) (W.alloc (.cells cells.toArray e)):=by
  have hparts:(parts.map fun(i,x)=>(i,a x)).toList =parts.toList.map fun p=>(p.1,a p.2):=by simp
  by_cases h0:len=0
  ·subst h0;have hcells:cells=[]:=List.eq_nil_of_length_eq_zero (by omega);subst hcells;simp only[List.replicate_zero,List.flatten_nil]at hc1;have h0:Array.range 0=#[]:=rfl;simp[Instr.buildSlice,run_underlying t1,sizeOf,typeInfo,t2,newRow,t5,h0,hc1]
  grind [run_buildSlice,Nat.mul_eq_zero,zmX]
 have hbl:Below W.heap.size W (W.alloc (.cells cells.toArray e)):=⟨rfl,rfl,rfl,by simp,fun b hb=>Below.heap_alloc W _ b hb⟩;refine⟨_,_,fun b=>F b\/b=W.heap.size,hrun,hbl,fun b hb=>.inl hb,fun b hb=> ?_,?_⟩
 ·rcases hb with hb | rfl
  ·exact .inl hb
  simp_all
 ·split
  ·grind [zaL]
  ·have hnew:(W.alloc (.cells cells.toArray e)).heap[W.heap.size]? =some (.cells cells.toArray e (0,0)):=heap_alloc_new W _;have hF: ∀b,F b->(F b\/b=W.heap.size)/\(W.alloc (.cells cells.toArray e)).heap[b]? =W.heap[b]? :=fun b hb=>⟨.inl hb,Below.heap_alloc W _ b (hm.flt b hb)⟩;simp only[zaL,Rd,zdZ];refine⟨⟨_,_,rfl,Nat.le_refl _,fun _=>⟨W.heap.size,0,k,rfl,.inr rfl,?_⟩⟩,hpl⟩;refine zbJ.of_vals _ (zgF k len ds) cells 0 (zny k len ds hdl) (fun j v hj=> ?_) (by grind [zhs,zav.mono]);simp_all
end

def zdet(P:Program)(o:Oper)(σ:St)(V:AV):Prop:=
 match o.op with
 | .buildSlice t len parts=> ∃vc,bsQ P (St.ev σ.tmps) σ.objs t len parts=some (vc,V)/\vc
 | _=>qdet P o σ V
def ZY(P:Program)(N:NP)(ops:Array Oper)(o:Oper)(V:AV)(σ:St):Prop:=
 zdc N o.dst/\((zcZ ops o σ.tmps=some (some true)/\zdet P o σ V)\/(zcZ ops o σ.tmps=some (some false)/\V= .und))
theorem bsQ_congr{P:Program}{ρ ρ':Operand->AV}{O:zbI}{t:TypeId}{len:Nat}{parts:Array (Nat×Operand)}(h: ∀p∈parts.toList,ρ p.2=ρ' p.2):bsQ P ρ O t len parts=bsQ P ρ' O t len parts:=by
 unfold bsQ bsE;simp only[ziJ parts.toList _ h]
theorem zdet_put{P:Program}{ops:Array Oper}{o:Oper}{σ:St}{dst:Option Nat}{V U:AV}(h: ∀d,dst=some d->d∉o.looksAt ops):zdet P o (σ.put dst V σ.objs) U↔zdet P o σ U:=by
 unfold zdet;split
 ·rename_i t len parts ho;have he:=zsC (V:=V) (O:=σ.objs) (σ:=σ) h;rw[ho]at he;rw[bsQ_congr (ρ':=St.ev σ.tmps) (fun p hp=>he p.2 (by grind [Op.operands]))];rfl
 ·exact qdet_put h
theorem zqZ{P:Program}{N:NP}{ops:Array Oper}{o:Oper}{σ:St}{dst:Option Nat}{V U:AV}(h: ∀d,dst=some d->d∉o.looksAt ops):ZY P N ops o U (σ.put dst V σ.objs)↔ZY P N ops o U σ:=by
 unfold ZY;rw[zoj h,zdet_put h]
theorem zww{c:Ctx}{σ:St}{a:Act}{W:World}(h:Rel c σ a W){ops:Array Oper}{o:Oper}{V:AV}(hy:ZY c.P c.N ops o V σ){next:Act->World->Prop}{Q:Exit->Act->World->Prop}{R:Option Nat}{n:Nat}
  (hK: ∀a' W',Rel c (σ.put o.dst V σ.objs) a' W'->next a' W') (hX: ∀v σ' a' W',pxS c.N v σ'.objs->Rel c σ' a' W'->Q (.panic [{v:=v,recovered:=false}]) a' W'):
  if Region.wanted o (yielded ops a.tmps)then o.wpIn (FW R) n c.P a W next Q else(∀f,o.about c.P W a.eval=some f->(FW R).fn f)/\next (a.put o.dst undef) W:=by
 by_cases hbs: ∃t len parts,o.op= .buildSlice t len parts
 ·obtain⟨t,len,parts,ho⟩:=hbs;obtain⟨hd,hy⟩:=hy;obtain⟨hsz,hdf,F,η,S,hm,ht⟩:=id h;rcases hy with⟨hg,hz⟩ | ⟨hg,rfl⟩
  ·rw[zfO ht hg];simp only[if_true];unfold zdet at hz;rw[ho]at hz;obtain⟨vc,h1,hvc⟩:=hz;obtain⟨v,W',F',hrun,hbl,hF1,hF2,hV⟩:=bsQ_run hm (fun x=>zhZ ht x) h1 hvc;refine zhf (v:=v) (W':=W') (by simp_all) (by simp[execOp,ho,hrun]) ?_;obtain⟨m1,m2⟩:=hm.dropL (F':=F') [] hbl hF1 (fun b hb=>by
    simp_all)
   have e1:drop σ.objs []=σ.objs:=by rfl
   rw[e1]at m1;exact hK _ _ (Rel.put hsz hdf m1 (za7.refl _ _) m2 ht (fun _=>AV.noRef_nil _) hd hV)
  ·rw[zfO ht hg];grind [FW_fn,put_und]
 ·have hq:QY c.P c.N ops o V σ:=by
   refine⟨hy.1,?_⟩;rcases hy.2 with⟨hg,hz⟩ | h2
   ·grind [zdet]
   simp_all
  exact zmC h (qgwp_gwp (zlA.2 ⟨V,hq,rfl⟩):gwp c.P c.N ops o σ (fun σ'=>σ'=σ.put o.dst V σ.objs)) (fun σ' a' W' e hr=>by simp_all) hX

def zlJ:Op->Bool
 | .call {callee:=.builtin _,..}=>true
 | .call _=>false
 | .next .. =>false
 | .binOp .. =>false
 | _=>true
theorem kindO_simple{P:Program}{own:Option (List (TypeId×Nat))}{dst:Nat}{ρ:Operand->AV}{O:zbI}{op:Op}(h:zlJ op=true):zpk P own dst ρ O op=match zl4 P own dst ρ O op with | some r=>.eff r | none=>.q :=by
 cases op with
 | call cl=>
  obtain⟨callee,args,ts⟩:=cl;cases callee with
  | builtin b=>rfl
  | value f=>simp[zlJ]at h
  | invoke r m=>rfl
 | next it b=>simp[zlJ]at h
 | binOp=>simp[zlJ]at h
 | _=>rfl
noncomputable def swp0(P:Program)(N:NP)(o:Oper)(σ:St)(K:St->Prop):Prop:=
 zlJ o.op=true/\match zl4 P (zru N o.dst) (o.dst.getD 0) (St.ev σ.tmps) σ.objs o.op with
 | some r=>ewp N o r σ K
 | none=>qwp P N o σ K
noncomputable def swp(P:Program)(N:NP)(o:Oper)(σ:St)(K:St->Prop):Prop:=
 swp0 P N o σ K\/ ∃f as,zn3 (St.ev σ.tmps) o.op=some (f,as)/\(cwp P N f as o.dst σ K\/gcall P N f as o.dst σ K\/zGW P N f as o.dst σ K)
theorem swp_owp{P:Program}{N:NP}{o:Oper}{σ:St}{K:St->Prop}(h:swp P N o σ K):owp P N o σ K:=by
 rcases h with h | ⟨f,as,ho,h⟩
 rotate_left
 ·unfold owp;rw[zvk ho];exact .inr h
 obtain⟨h1,h2⟩:=h;grind [owp,kindO_simple]
noncomputable def sgwp(P:Program)(N:NP)(ops:Array Oper)(o:Oper)(σ:St)(K:St->Prop):Prop:=
 match zcZ ops o σ.tmps with
 | some (some t)=>(t=true->swp P N o σ K)/\(t=false->zdc N o.dst/\K (σ.put o.dst .und σ.objs))
 | _=>False
theorem sgwp_gwp{P:Program}{N:NP}{ops:Array Oper}{o:Oper}{σ:St}{K:St->Prop}(h:sgwp P N ops o σ K):gwp P N ops o σ K:=by
 grind [sgwp,gwp,swp_owp]
theorem ewp_mono'{N:NP}{o:Oper}{r:Option (Prop×AV×Nat×AO×List Nat×Bool)}{σ:St}{K K':St->Prop}(h:ewp N o r σ K)(hk: ∀σ,K σ->K' σ):ewp N o r σ K':=by
 unfold ewp at h ⊢;grind
theorem qwp_mono'{P:Program}{N:NP}{o:Oper}{σ:St}{K K':St->Prop}(h:qwp P N o σ K)(hk: ∀σ,K σ->K' σ):qwp P N o σ K':=by
 grind [qwp]
theorem cwp_mono'{P:Program}{N:NP}{f:FuncId}{args:List AV}{dst:Option Nat}{σ:St}{K K':St->Prop}(h:cwp P N f args dst σ K)(hk: ∀σ,K σ->K' σ):cwp P N f args dst σ K':=by
 grind [cwp]
theorem gcall_mono'{P:Program}{N:NP}{f:FuncId}{args:List AV}{dst:Option Nat}{σ:St}{K K':St->Prop}(h:gcall P N f args dst σ K)(hk: ∀σ,K σ->K' σ):gcall P N f args dst σ K':=by
 obtain⟨r,ca,Oi,Post,h1,h2,h3,h4,h5,h6,h7⟩:=h;exact⟨r,ca,Oi,Post,h1,h2,h3,h4,h5,h6,fun V Oo new hp=>⟨(h7 V Oo new hp).1,(h7 V Oo new hp).2.1,hk _ (h7 V Oo new hp).2.2⟩⟩
theorem gcallX_mono'{P:Program}{N:NP}{f:FuncId}{args:List AV}{dst:Option Nat}{σ:St}{K K':St->Prop}(h:zGW P N f args dst σ K)(hk: ∀σ,K σ->K' σ):zGW P N f args dst σ K':=by
 obtain⟨r,ca,Oi,Post,PX,h1,h2,h3,h4,h5,h6,h7,h8⟩:=h;exact⟨r,ca,Oi,Post,PX,h1,h2,h3,h4,h5,h6,fun V Oo new hp=>⟨(h7 V Oo new hp).1,(h7 V Oo new hp).2.1,hk _ (h7 V Oo new hp).2.2⟩,h8⟩
theorem swp_mono{P:Program}{N:NP}{o:Oper}{σ:St}{K K':St->Prop}(h:swp P N o σ K)(hk: ∀σ,K σ->K' σ):swp P N o σ K':=by
 rcases h with h | ⟨f,as,ho,h⟩
 rotate_left
 ·exact .inr ⟨f,as,ho,h.imp (fun h=>cwp_mono' h hk) (Or.imp (fun h=>gcall_mono' h hk) (fun h=>gcallX_mono' h hk))⟩
 obtain⟨h1,h2⟩:=h;refine .inl ⟨h1,?_⟩;grind [ewp_mono',qwp_mono']
theorem zja{P:Program}{N:NP}{ops:Array Oper}{o:Oper}{σ:St}{K K':St->Prop}(h:sgwp P N ops o σ K)(hk: ∀σ,K σ->K' σ):sgwp P N ops o σ K':=by
 grind [sgwp,swp_mono]
theorem zxv{σ:St}{x y:Option Nat}{V U:AV}{O O':zbI}(h: ∀d,x=some d->y≠some d):(σ.put x V O).put y U O'=(σ.put y U O').put x V O':=by
 cases x with
 | none=>rfl
 | some d=>
  cases y with
  | none=>rfl
  | some d'=>
   have hne:d'≠d:=fun e=>h d rfl (by rw[e]);simp only[St.put,St.mk.injEq,and_true];grind [upd]
theorem effE_congr{P:Program}{own:Option (List (TypeId×Nat))}{dst:Nat}{ρ ρ':Operand->AV}{O:zbI}{op:Op}(h: ∀x∈op.operands,ρ x=ρ' x):zl4 P own dst ρ O op=zl4 P own dst ρ' O op:=by
 cases op with
 | buildSlice t len parts=>
  have h': ∀p∈parts.toList,ρ p.2=ρ' p.2:=fun p hp=>h p.2 (by grind [Op.operands]);simp only[zl4,bsE2];cases own with
  | none=>simp only[bsE,ziJ parts.toList _ h']
  | some tys=>simp only[bsD,ziJ parts.toList _ h']
 | call cl=>
  obtain⟨callee,args,ts⟩:=cl;cases callee with
  | builtin b=>
   have hm: ∀x∈args.toList,ρ x=ρ' x:=fun x hx=>h x (by
    grind [Op.operands,Call.operands])
   cases b <;> try rfl
   case append=>
    grind [zl4,apE,apD,apS,apT]
   case delete=>
    grind [zl4,mdE]
   grind [zl4,clE]
  | value f=>rfl
  | invoke r m=>rfl
 | makeMap t n=>cases n <;> rfl
 | box t x=>
  have:=h x (by grind [Op.operands]);cases own <;> simp[zl4,bxE,this]
 | next it b=>
  have:=h it (by grind [Op.operands]);cases b <;> simp[zl4,nsE,this]
 | _=>
  first
   | rfl
   | (simp only[Op.operands,List.mem_toArray,List.mem_cons,List.not_mem_nil,or_false,forall_eq_or_imp,forall_eq]at h; simp[zl4,stE2,stE,stD,muE,meE,esE,rgE,msE,h])
theorem zv4{P:Program}{N:NP}{ops:Array Oper}{o:Oper}{σ:St}{d:Nat}{V:AV}{K:St->Prop}(hl:d∉o.looksAt ops)(hd:o.dst≠some d)(hdead:σ.tmps d= .dead)(h:sgwp P N ops o (σ.put (some d) V σ.objs) K):
  sgwp P N ops o σ (fun σ'=>σ'.tmps d= .dead /\K (σ'.put (some d) V σ'.objs)):=by
 have hl': ∀d',(some d:Option Nat)=some d'->d'∉o.looksAt ops:=fun d' e=>by simp_all
 have hcomm: ∀U O',(σ.put (some d) V σ.objs).put o.dst U O'=(σ.put o.dst U O').put (some d) V O':=fun U O'=>zxv (fun d' e=>by simp_all);have hdead': ∀U O',(σ.put o.dst U O').tmps d= .dead :=fun U O'=>by
  grind [zd1]
 have hev:=zsC (V:=V) (O:=σ.objs) (σ:=σ) (o:=o) hl';unfold sgwp at h ⊢;rw[zoj hl']at h;split at h
 ·rename_i t hg;refine⟨fun e=> ?_,fun e=>⟨(h.2 e).1,hdead' _ _,?_⟩⟩
  ·rcases h.1 e with h3 | ⟨f,as,ho,h3⟩
   rotate_left
   ·rw[zse hev]at ho;refine .inr ⟨f,as,ho,?_⟩;rcases h3 with h3 | h3 | h3
    ·left;unfold cwp at h3 ⊢;have hobj:(σ.put (some d) V σ.objs).objs =σ.objs:=rfl;rw[hobj]at h3;split at h3
     ·obtain⟨a1,a2,U,a3,a4,a5⟩:=h3;refine⟨a1,a2,U,a3,a4,hdead' _ _,?_⟩;rw[hcomm]at a5;exact a5
     omega
    ·right; left;obtain⟨r,ca,Oi,Post,a1,a2,a3,a4,a5,a6,a7⟩:=h3;refine⟨r,ca,Oi,Post,a1,a2,a3,a4,fun i j hij hn=> ?_,a6,fun U Oo new hp=> ?_⟩
     ·obtain⟨b1,b2⟩:=a5 i j hij hn;refine⟨b1,fun t=> ?_⟩;by_cases ht:t=d
      ·subst ht; rw[hdead]; trivial
      ·have:=b2 t;grind [zd1]
     ·obtain⟨b1,b2,b3⟩:=a7 U Oo new hp;refine⟨b1,b2,hdead' _ _,?_⟩;have b4:K ((σ.put (some d) V σ.objs).put o.dst (U.ren r) (zhK σ.objs r Oo)):=b3;rw[hcomm]at b4;exact b4
    ·right; right;obtain⟨r,ca,Oi,Post,PX,a1,a2,a3,a4,a5,a6,a7,a8⟩:=h3;refine⟨r,ca,Oi,Post,PX,a1,a2,a3,a4,fun i j hij hn=> ?_,a6,fun U Oo new hp=> ?_,a8⟩
     ·obtain⟨b1,b2⟩:=a5 i j hij hn;refine⟨b1,fun t=> ?_⟩;by_cases ht:t=d
      ·subst ht; rw[hdead]; trivial
      ·have:=b2 t;grind [zd1]
     ·obtain⟨b1,b2,b3⟩:=a7 U Oo new hp;refine⟨b1,b2,hdead' _ _,?_⟩;have b4:K ((σ.put (some d) V σ.objs).put o.dst (U.ren r) (zhK σ.objs r Oo)):=b3;rw[hcomm]at b4;exact b4
   obtain⟨h1,h2⟩:=h3;refine .inl ⟨h1,?_⟩;have he:zl4 P (zru N o.dst) (o.dst.getD 0) (St.ev (σ.put (some d) V σ.objs).tmps) (σ.put (some d) V σ.objs).objs o.op=zl4 P (zru N o.dst) (o.dst.getD 0) (St.ev σ.tmps) σ.objs o.op:=effE_congr hev;rw[he]at h2;split at h2
   ·unfold ewp at h2 ⊢;split at h2
    ·rename_i vc U id x ids isNew;obtain⟨a1,a2,a3,a4⟩:=h2;refine⟨a1,fun hn=>⟨(a2 hn).1,fun t=> ?_⟩,a3,hdead' _ _,?_⟩
     ·by_cases ht:t=d
      ·subst ht; rw[hdead]; trivial
      ·have:=(a2 hn).2 t;grind [zd1]
     ·rw[hcomm]at a4; exact a4
    omega
   ·unfold qwp at h2 ⊢;have hq:zeu P (o.dst.getD 0) (St.ev (σ.put (some d) V σ.objs).tmps) (σ.put (some d) V σ.objs).objs o.op=zeu P (o.dst.getD 0) (St.ev σ.tmps) σ.objs o.op:=zvV o.op hev;rw[hq]at h2;split at h2
    ·rename_i vc U n hs;obtain⟨a1,a2,a3,a4⟩:=h2;refine⟨a1,fun hn=>⟨(a2 hn).1,fun t=> ?_⟩,a3,hdead' _ _,?_⟩
     ·by_cases ht:t=d
      ·subst ht; rw[hdead]; trivial
      ·have:=(a2 hn).2 t;grind [zd1]
     ·rw[hcomm]at a4; exact a4
    omega
  ·have:=(h.2 e).2;rw[hcomm]at this;exact this
 omega

structure Ord where
 steps:List (Nat×Option (List Nat))
def Ord.pi(r:Ord):List Nat:=r.steps.map (·.1)
def Ord.isQ(r:Ord)(k:Nat):Bool:=match r.steps.lookup k with | some none=>true | _=>false
def Ord.lateOf(r:Ord)(k:Nat):List Nat:=match r.steps.lookup k with | some (some l)=>l | _=>[]
theorem zpm{α:Type}: ∀ {l:List (Nat×α)} {k:Nat} {x:α},l.lookup k=some x->(k,x)∈l
 | [],_,_,h=>by cases h
 | (a,b)::r,k,x,h=>by
  rw[List.lookup_cons]at h;by_cases e:k=a
  ·simp_all
  ·have:(k==a)=false:=by simpa using e
   rw[this]at h;exact List.mem_cons_of_mem _ (zpm h)
theorem Ord.isQ_step{r:Ord}{k:Nat}(h:r.isQ k=true):(k,none)∈r.steps:=by
 grind [Ord.isQ,zpm]
theorem Ord.isQ_mem{r:Ord}{k:Nat}(h:r.isQ k=true):k∈r.pi:=by
 unfold Ord.isQ at h;split at h
 ·rename_i e; exact List.mem_map.2 ⟨_,zpm e,rfl⟩
 ·cases h
section
variable {P:Program} {N:NP} {ops:Array Oper} {md:Region.Mode} {r:Ord}
def lateZ(P:Program)(N:NP)(ops:Array Oper)(listed:Array Bool)(l:List Nat)(σ:St):Prop:=
 ∀i∈l,listed.getD i false=true-> ∀oi,ops[i]? =some oi-> ∃d,oi.dst=some d/\ZY P N ops oi (σ.tmps d) σ
def zOp(P:Program)(N:NP)(r:Ord)(ops:Array Oper)(listed:Array Bool)(i:Nat)(K:St->Prop)(σ:St):Prop:=
 match ops[i]? with
 | none=>K σ
 | some o=>if r.isQ i then ∃V,ZY P N ops o V σ/\K (σ.put o.dst V σ.objs)
  else if r.lateOf i=[]then gwp P N ops o σ K else sgwp P N ops o σ (fun σ'=>lateZ P N ops listed (r.lateOf i) σ'/\K σ')
def zAny(P:Program)(N:NP)(md:Region.Mode)(r:Ord)(ops:Array Oper)(K:St->Prop):Nat->Array Bool->St->Prop
 | 0,listed,σ=>Region.ready md ops listed=[]/\K σ
 | fuel+1,listed,σ=>(Region.ready md ops listed=[]->K σ)/\ ∀i∈Region.ready md ops listed,zOp P N r ops listed i (zAny P N md r ops K fuel (listed.setIfInBounds i true)) σ

theorem znD{c:Ctx}{K:St->Prop}{Q:Exit->Act->World->Prop}{R:Option Nat}{n:Nat}(hK: ∀σ' a' W',K σ'->Rel c σ' a' W'->Q .normal a' W')(hX: ∀v σ' a' W',pxS c.N v σ'.objs->Rel c σ' a' W'->Q (.panic [{v:=v,recovered:=false}]) a' W'):
  ∀(fuel:Nat) (listed:Array Bool) (σ:St) (a:Act) (W:World),Rel c σ a W->zAny c.P c.N md r ops K fuel listed σ->wpAnyIn (FW R) n c.P md ops Q fuel listed a W
 | 0,_,_,_,_,hr,h=>⟨h.1,hK _ _ _ h.2 hr⟩
 | fuel+1,listed,σ,a,W,hr,h=>by
  refine⟨fun h0=>hK _ _ _ (h.1 h0) hr,fun i hi=> ?_⟩;have h1:=h.2 i hi;unfold zOp at h1;unfold wpOpIn;split
  ·rename_i ho;rw[ho]at h1;exact znD hK hX fuel _ _ _ _ hr h1
  ·rename_i o ho;rw[ho]at h1;simp only at h1;split at h1
   ·obtain⟨V,hy,hk⟩:=h1;exact zww hr hy (fun a' W' hr'=>znD hK hX fuel _ _ _ _ hr' hk) hX
   ·have h2:gwp c.P c.N ops o σ (zAny c.P c.N md r ops K fuel (listed.setIfInBounds i true)):=by
     split at h1
     ·exact h1
     ·exact zhp (sgwp_gwp h1) (fun _ h=>h.2)
    exact zmC hr h2 (fun σ' a' W' hk hr'=>znD hK hX fuel _ _ _ _ hr' hk) hX

def zsL(md:Region.Mode)(ops:Array Oper)(i:Nat):Nat->Nat->Bool
 | 0,k=>zka md ops k i
 | n+1,k=>zka md ops k i||(List.range ops.size).any fun m=>zka md ops k m&&zsL md ops i n m
def maskB(md:Region.Mode)(ops:Array Oper)(k:Nat):List Nat->Nat
 | []=>0
 | j::r=>bif zka md ops k j then 2 ^ j||| maskB md ops k r else maskB md ops k r
def upsN(md:Region.Mode)(ops:Array Oper):Nat->Nat->Nat
 | 0,S=>S
 | m+1,S=>upsN md ops m (bif S.testBit m then S||| maskB md ops m (List.range ops.size)else S)
def reachB(md:Region.Mode)(ops:Array Oper)(k i:Nat):Bool:=(upsN md ops ops.size (maskB md ops k (List.range ops.size))).testBit i
def zgw(md:Region.Mode)(ops:Array Oper)(k i:Nat):Bool:=reachB md ops k i||zsL md ops i 6 k
theorem zEd{k i:Nat}: ∀ {l:List Nat},(maskB md ops k l).testBit i=true->zka md ops k i=true
 | [],h=>by simp[maskB]at h
 | j::r,h=>by
  unfold maskB at h;cases e:zka md ops k j with
  | false=>rw[e]at h; exact zEd (l:=r) h
  | true=>
   rw[e]at h;simp only[cond_true,Nat.testBit_or,Nat.testBit_two_pow,Bool.or_eq_true,decide_eq_true_eq]at h;rcases h with h | h
   ·exact h▸e
   ·exact zEd (l:=r) h
theorem zHs{listed:Array Bool}(hc:ziy md ops listed){i:Nat}: ∀(n S:Nat),(∀j,S.testBit j=true->listed.getD j false=true)->(upsN md ops n S).testBit i=true->listed.getD i false=true
 | 0,_,hS,h=>hS _ h
 | m+1,S,hS,h=>by
  unfold upsN at h;refine zHs hc m _ ?_ h;intro j hj;cases e:S.testBit m with
  | false=>rw[e]at hj; exact hS _ hj
  | true=>
   rw[e]at hj;simp only[cond_true,Nat.testBit_or,Bool.or_eq_true]at hj;rcases hj with hj | hj
   ·exact hS _ hj
   ·exact zc8 hc (zEd hj) (hS _ e)
theorem znR{listed:Array Bool}(hc:ziy md ops listed){i:Nat}: ∀(n:Nat) {k:Nat},zsL md ops i n k=true->listed.getD k false=true->listed.getD i false=true
 | 0,k,h,hk=>zc8 hc h hk
 | n+1,k,h,hk=>by
  simp only[zsL,Bool.or_eq_true,List.any_eq_true,Bool.and_eq_true]at h;rcases h with h | ⟨m,_,h1,h2⟩
  ·exact zc8 hc h hk
  ·exact znR hc n h2 (zc8 hc h1 hk)
theorem zo7{listed:Array Bool}(hc:ziy md ops listed){k i:Nat}(h:zgw md ops k i=true)(hk:k∈Region.ready md ops listed):listed.getD i false=true:=by
 unfold zgw at h;rw[Bool.or_eq_true]at h;rcases h with h | h
 ·exact zHs hc _ _ (fun j hj=>zcu (zEd hj) hk) h
 ·grind [zsL,zcu,znR]

def ssaB(md:Region.Mode)(ops:Array Oper)(i:Nat):Bool:=
 match ops[i]? with
 | some oi=>match oi.dst with
  | some d=>(List.range ops.size).all fun j=>match ops[j]? with
   | some oj=>(decide (j=i)|| !(oj.dst==some d))&&(!(oj.looksAt ops).contains d||zka md ops j i)
   | none=>true
  | none=>false
 | none=>false
theorem zjd{i:Nat}(h:ssaB md ops i=true): ∃oi d,ops[i]? =some oi/\oi.dst=some d/\ ∀(j:Nat) (oj:Oper),ops[j]? =some oj->(j≠i->oj.dst≠some d)/\(d∈oj.looksAt ops->zka md ops j i=true):=by
 unfold ssaB at h;grind

def ordGo(md:Region.Mode)(ops:Array Oper)(r:Ord):List Nat->Option Nat->List Nat->Bool
 | _,_,[]=>true
 | done,prev,k::rest=>(match ops[k]? with | some o=>o.after.all fun e=> !Region.binds md e||done.contains e.on | none=>false)&& !done.contains k&&
   (if r.isQ k then prev.isNone else match prev with | some p=>zka md ops k p | none=>true)&&ordGo md ops r (k::done) (if r.isQ k then none else some k) rest
def ordB(md:Region.Mode)(ops:Array Oper)(r:Ord):Bool:=
 Region.noSelect ops&&(List.range ops.size).all (fun i=>r.pi.contains i)&&r.pi.all (fun i=>decide (i<ops.size))&&
 r.pi.all (fun i=> !r.isQ i||ssaB md ops i)&&r.pi.length==ops.size&&r.steps.all (fun p=>r.steps.lookup p.1==some p.2)&&
 r.pi.all (fun k=>r.isQ k||r.pi.all fun i=> !r.isQ i||(r.lateOf k).contains i||zgw md ops k i)&&
 ordGo md ops r [] none r.pi

theorem zHW{K:St->Prop}(hss: ∀i,r.isQ i=true->ssaB md ops i=true)(hlate: ∀k i,k<ops.size->r.isQ k=false->r.isQ i=true->i∈r.lateOf k\/zgw md ops k i=true){i:Nat}{oi:Oper}{d:Nat}{V:AV}(hi:ops[i]? =some oi)(hd:oi.dst=some d)(hiA:r.isQ i=true):
  ∀(fuel:Nat) (listed:Array Bool) (σ:St),ziy md ops listed->listed.size=ops.size->listed.getD i false=false->
   i∈Region.ready md ops listed->σ.tmps d= .dead ->ZY P N ops oi V σ->zAny P N md r ops K fuel (listed.setIfInBounds i true) (σ.put (some d) V σ.objs)->zAny P N md r ops K (fuel+1) listed σ:=by
 obtain⟨oi',d',hi',hd',hssa⟩:=zjd (hss i hiA);rw[hi]at hi';cases hi';rw[hd]at hd';cases hd';have hput:oi.dst=some d:=hd;intro fuel
 induction fuel with
 | zero=>
  intro listed σ hcl hsz hun hr hdead hy H;refine⟨fun h=>(by simp_all),fun j hj=> ?_⟩;by_cases hji:j=i
  ·grind [zOp]
  ·have:=ready_mono hj hji;rw[H.1]at this;cases this
 | succ fuel ih=>
  intro listed σ hcl hsz hun hr hdead hy H;refine⟨fun h=>(by simp_all),fun j hj=> ?_⟩;by_cases hji:j=i
  ·grind [zOp]
  ·have h1:=H.2 j (ready_mono hj hji);obtain⟨hjun,oj,hoj,hall⟩:=mem_ready.1 hj;have hjs:j<ops.size:=(Array.getElem?_eq_some_iff.1 hoj).1;have hjl:listed.getD j false=false:=by
    simp_all
   have hnotj:d∉oj.looksAt ops:=fun hm=>by
    grind [zcu]
   have hdj:oj.dst≠some d:=(hssa j oj hoj).1 hji;have hnoti:d∉oi.looksAt ops:=fun hm=>by
    grind [zcu]
   have hputl: ∀d',(some d:Option Nat)=some d'->d'∉oj.looksAt ops:=fun d' e=>by simp_all
   have hcl':=zfw hcl hj;have hun':(listed.setIfInBounds j true).getD i false=false:=by simp_all
   have hr':=ready_mono hr (Ne.symm hji);have hsz':(listed.setIfInBounds j true).size =ops.size:=by grind
   unfold zOp at h1 ⊢;rw[hoj]at h1 ⊢;simp only at h1 ⊢;by_cases hjA:r.isQ j=true
   ·simp only[hjA,if_true]at h1 ⊢;obtain⟨U,hu,hk⟩:=h1;obtain⟨oj',dj,hj',hdj',hssj⟩:=zjd (hss j hjA);rw[hoj]at hj';cases hj';rw[zqZ hputl]at hu;refine⟨U,hu,ih _ _ hcl' hsz' hun' hr' ?_ ?_ ?_⟩
    ·grind [zd1]
    ·grind [zqZ,zcu]
    ·rw[Array.setIfInBounds_comm _ _ hji];have:(σ.put (some d) V σ.objs).put oj.dst U σ.objs=(σ.put oj.dst U σ.objs).put (some d) V σ.objs:=zxv (fun d' e=>by simp_all);have hk':zAny P N md r ops K fuel ((listed.setIfInBounds i true).setIfInBounds j true) ((σ.put (some d) V σ.objs).put oj.dst U σ.objs):=hk;rw[this]at hk';exact hk'
   ·simp only[hjA,if_false]at h1 ⊢;have hjA':r.isQ j=false:=(by grind);have hil:i∈r.lateOf j:=by
     grind [zo7]
    have hne:r.lateOf j≠[]:=fun e=>by simp_all
    simp only[hne,if_false,Bool.false_eq_true]at h1 ⊢;refine zja (zv4 hnotj hdj hdead h1) ?_;rintro σ' ⟨hd1,hl1,hk⟩;have hseti:(listed.setIfInBounds i true).getD i false=true:=by
     have:i<listed.size:=(by grind);simp[this]
    refine⟨fun i' hi' hlis oi' hoi'=> ?_,ih _ _ hcl' hsz' hun' hr' hd1 ?_ ?_⟩
    ·obtain⟨d2,hd2,hz2⟩:=hl1 i' hi' (getD_set_true hlis) oi' hoi';grind [zd1,zqZ,zc8]
    ·obtain⟨d2,hd2,hz2⟩:=hl1 i hil hseti oi hi;rw[hd]at hd2;cases hd2;have e1:(σ'.put (some d) V σ'.objs).tmps d=V:=(by simp[St.put,upd]);grind [zqZ]
    grind [Array.setIfInBounds_comm]

def lateA(P:Program)(N:NP)(ops:Array Oper)(l:List Nat)(σ:St):Prop:= ∀i∈l,∀oi,ops[i]? =some oi-> ∃d,oi.dst=some d/\ZY P N ops oi (σ.tmps d) σ
def zlwp(P:Program)(N:NP)(r:Ord)(ops:Array Oper):List Nat->St->(St->Prop)->Prop
 | [],σ,K=>K σ
 | k::rest,σ,K=>match ops[k]? with
  | some o=>if r.isQ k then ∃V,ZY P N ops o V σ/\zlwp P N r ops rest (σ.put o.dst V σ.objs) K
   else if r.lateOf k=[]then gwp P N ops o σ (fun σ'=>zlwp P N r ops rest σ' K)
   else sgwp P N ops o σ (fun σ'=>lateA P N ops (r.lateOf k) σ'/\zlwp P N r ops rest σ' K)
  | none=>False
theorem ztJ: ∀(l done:List Nat) (prev:Option Nat),ordGo md ops r done prev l=true-> ∀j∈l,j∉done
 | [],_,_,_=>by simp
 | k::rest,done,prev,h=>by
  simp only[ordGo,Bool.and_eq_true,Bool.not_eq_true',List.contains_eq_mem,decide_eq_false_iff_not]at h;obtain⟨⟨⟨_,h2⟩,_⟩,h4⟩:=h;intro j hj;rcases List.mem_cons.1 hj with rfl | hj
  ·exact h2
  ·exact fun hm=>ztJ rest _ _ h4 j hj (List.mem_cons_of_mem _ hm)
theorem ztI: ∀(l done:List Nat) (p:Nat),ordGo md ops r done (some p) l=true-> ∀j∈l,r.isQ j=false/\ ∃q∈p::l,zka md ops j q=true
 | [],_,_,_=>by simp
 | k::rest,done,p,h=>by
  simp only[ordGo,Bool.and_eq_true,Bool.not_eq_true']at h;obtain⟨⟨⟨_,h2⟩,h3⟩,h4⟩:=h;have hq:r.isQ k=false:=by
   simp_all
  simp only[hq,Bool.false_eq_true,if_false]at h3 h4;intro j hj;rcases List.mem_cons.1 hj with rfl | hj
  ·simp_all
  ·obtain⟨e1,q,e2,e3⟩:=ztI rest _ _ h4 j hj;grind

theorem zxZ{K:St->Prop}(hss: ∀i,r.isQ i=true->ssaB md ops i=true)(hlate: ∀k i,k<ops.size->r.isQ k=false->r.isQ i=true->i∈r.lateOf k\/zgw md ops k i=true):
  ∀(l done:List Nat) (prev:Option Nat) (listed:Array Bool) (σ:St),ordGo md ops r done prev l=true->(∀j,j<ops.size->j∈done\/j∈l)->(∀j∈done,j<ops.size)->(∀j∈l,j<ops.size)->listed.size=ops.size->(∀j,j<ops.size->listed.getD j false=decide (j∈done))->
   ziy md ops listed->(∀i∈l,r.isQ i=true-> ∀oi d,ops[i]? =some oi->oi.dst=some d->σ.tmps d= .dead)->zlwp P N r ops l σ K->zAny P N md r ops K l.length listed σ
 | [],done,prev,listed,σ,_,hall,_,_,hsz,hlis,_,_,h=>by
  refine⟨?_,h⟩;rw[List.eq_nil_iff_forall_not_mem];grind [mem_ready]
 | k::rest,done,prev,listed,σ,hgo,hall,hdl,hll,hsz,hlis,hcl,hdead,h=>by
  have hnew:=ztJ _ _ _ hgo;have hgo':=hgo;simp only[ordGo,Bool.and_eq_true,Bool.not_eq_true',List.contains_eq_mem,decide_eq_false_iff_not]at hgo';obtain⟨⟨⟨g1,g2⟩,g3⟩,g4⟩:=hgo';split at g1
  case h_2=>cases g1
  rename_i o ho;have hk:k<ops.size:=(Array.getElem?_eq_some_iff.1 ho).1;have hun:listed.getD k false=false:=by simp_all
  have hready:k∈Region.ready md ops listed:=by
   grind [mem_ready,Array.all_eq_true_iff_forall_mem]
  have hsz':(listed.setIfInBounds k true).size =ops.size:=by grind
  have hlis': ∀j,j<ops.size->(listed.setIfInBounds k true).getD j false=decide (j∈k::done):=by
   intro j hj;by_cases hjk:j=k
   ·simp_all
   ·rw[getD_set_ne false (fun e=>hjk e.symm),hlis j hj];simp[hjk]
  have hall': ∀j,j<ops.size->j∈k::done\/j∈rest:=by
   grind
  have hdl': ∀j∈k::done,j<ops.size:=fun j hj=>by
   grind
  have hll': ∀j∈rest,j<ops.size:=fun j hj=>hll j (List.mem_cons_of_mem _ hj);have hcl':=zfw hcl hready;simp only[zlwp,ho]at h;by_cases hkA:r.isQ k=true
  ·simp only[hkA,if_true]at h g4;obtain⟨V,hy,hK⟩:=h;obtain⟨oi,d,hoi,hd,hssa⟩:=zjd (hss k hkA);rw[ho]at hoi;cases hoi;have hdk:=hdead k (by simp) hkA o d ho hd;refine zHW hss hlate ho hd hkA rest.length listed σ hcl hsz hun hready hdk hy ?_;rw[hd]at hK;refine zxZ hss hlate rest (k::done) none _ _ g4 hall' hdl' hll' hsz' hlis' hcl' (fun i hi hiq oi' d' hoi' hd'=> ?_) hK;grind [ztJ,zd1]
  ·have hkA':r.isQ k=false:=by grind
   simp only[hkA',Bool.false_eq_true,if_false]at h g4;have hch:=ztI rest _ _ g4;refine⟨fun h=>(by simp_all),fun j hj=> ?_⟩;have hjk:j=k:=by
    grind [mem_ready,zcu]
   subst hjk;unfold zOp;rw[ho];simp only[hkA',Bool.false_eq_true,if_false];have ih:=fun σ' hz=>zxZ (K:=K) hss hlate rest (j::done) (some j) (listed.setIfInBounds j true) σ' g4 hall' hdl' hll' hsz' hlis' hcl' (fun i hi hiq=>by simp_all) hz;split at h
   ·grind [zhp]
   ·rename_i hl;simp only[hl,if_false];exact zja h (fun σ' hz=>⟨fun i hi _ oi hoi=>hz.1 i hi oi hoi,ih σ' hz.2⟩)

theorem zvZ{c:Ctx}{σ:St}{a:Act}{W:World}{K:St->Prop}{Q:Exit->Act->World->Prop}{R:Option Nat}{n:Nat}(hB:ordB md ops r=true)(hK: ∀σ' a' W',K σ'->Rel c σ' a' W'->Q .normal a' W')(hX: ∀v σ' a' W',pxS c.N v σ'.objs->Rel c σ' a' W'->Q (.panic [{v:=v,recovered:=false}]) a' W')(hr:Rel c σ a W)
  (hdead: ∀i∈r.pi,r.isQ i=true-> ∀oi d,ops[i]? =some oi->oi.dst=some d->σ.tmps d= .dead) (h:zlwp c.P c.N r ops r.pi σ K):wpAnyIn (FW R) n c.P md ops Q ops.size (Array.replicate ops.size false) a W:=by
 simp only[ordB,Bool.and_eq_true,List.all_eq_true,List.mem_range,decide_eq_true_eq,Bool.or_eq_true,Bool.not_eq_true',beq_iff_eq,List.contains_eq_mem]at hB;obtain⟨⟨⟨⟨⟨⟨⟨_,h2⟩,h3⟩,h4⟩,h5⟩,_⟩,h6⟩,h7⟩:=hB;have hq: ∀i,r.isQ i=true->i∈r.pi:=fun i hi=>Ord.isQ_mem hi;have hss: ∀i,r.isQ i=true->ssaB md ops i=true:=fun i hi=>(h4 i (hq i hi)).resolve_left (by simp[hi]);have hlate: ∀k i,k<ops.size->r.isQ k=false->r.isQ i=true->i∈r.lateOf k\/zgw md ops k i=true:=fun k i hk hkq hi=>by
  grind
 refine znD (r:=r) hK hX ops.size _ _ a W hr ?_;have:=zxZ (P:=c.P) (N:=c.N) (K:=K) hss hlate r.pi [] none (Array.replicate ops.size false) σ h7 (fun j hj=>.inr (h2 j hj)) (by simp) h3 (by simp) (fun j hj=>by simp[hj]) (fun j o ho hj=>by
  rw[Array.getD_eq_getD_getElem?,Array.getElem?_replicate]at hj; grind) hdead h
 simp_all
theorem ztH(hB:ordB md ops r=true): ∀p∈r.steps,r.steps.lookup p.1=some p.2:=by
 grind [ordB]
end
end Go.Aw
