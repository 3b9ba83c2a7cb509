/- Machinery. Conditions: those of each. -/
import Derived.Test.YtplfjjgkbnolhaaGreatDoorGQv
import Derived.Laws.Slices
set_option linter.unusedSimpArgs false
set_option linter.unusedVariables false
/-
 LOOK-UPS IN MAPS, SLICES OF PLAIN SLICES, FUNCTION VALUES, THE LESSER OF TWO INTEGERS.
 Conditions: those of 'qsem'; over any program.
-/
namespace Go.Aw
open Go.RowKit

theorem zvX{W:World}{F:Nat->Prop}: ∀(cs:List D) (us vs:List Value),zgx cs=some us->zav W F cs vs->vs=us
 | [],us,vs,h,hr=>by simp only[zgx,Option.some.injEq]at h; simp only[zav]at hr; rw[hr,h]
 | .lit v::r,us,vs,h,hr=>by
  simp only[zgx,Option.map_eq_some_iff]at h;obtain⟨us',h1,rfl⟩:=h;simp only[zav,Rd]at hr;obtain⟨u,rest,rfl,rfl,h2⟩:=hr;rw[zvX r us' rest h1 h2]
 | .sl _::_,_,_,h,_ | .ptr _::_,_,_,h,_ | .agg _::_,_,_,h,_ | .ifc _ _::_,_,_,h,_ | .clo _ _ _::_,_,_,h,_ | .mp .. ::_,_,_,h,_=>by simp[zgx]at h
theorem ztm: ∀(cs ds:List D) (vs:List Value),zgx cs=some vs->zgx ds=some vs->cs=ds
 | [],ds,vs,h,h'=>by
  simp only[zgx,Option.some.injEq]at h;subst h;cases ds with
  | nil=>rfl
  | cons d ds=>cases d <;> simp[zgx]at h'
 | .lit v::r,ds,vs,h,h'=>by
  simp only[zgx,Option.map_eq_some_iff]at h;obtain⟨us',h1,rfl⟩:=h;cases ds with
  | nil=>simp[zgx]at h'
  | cons d ds=>
   cases d <;> simp[zgx]at h';obtain⟨h2,rfl⟩:=h';rw[ztm r ds us' h1 h2]
 | .sl _::_,_,_,h,_ | .ptr _::_,_,_,h,_ | .agg _::_,_,_,h,_ | .ifc _ _::_,_,_,h,_ | .clo _ _ _::_,_,_,h,_ | .mp .. ::_,_,_,h,_=>by simp[zgx]at h
theorem zrQ{W:World}{F:Nat->Prop}{d:D}{u v:Value}(h:d.valOf=some v)(hr:Rd W F d u):u=v:=by
 cases d with
 | lit x=>simp only[Rd]at hr; subst hr; cases u <;> simp[D.valOf]at h <;> exact h
 | agg cs=>
  simp only[D.valOf,Option.map_eq_some_iff]at h;obtain⟨us,h1,rfl⟩:=h;simp only[Rd]at hr;obtain⟨vs,rfl,h2⟩:=hr;rw[zvX cs us vs h1 h2]
 | _=>simp[D.valOf]at h
theorem valOf_inj{d d':D}{v:Value}(h:d.valOf=some v)(h':d'.valOf=some v):d=d':=by
 cases d with
 | lit x=>
  cases d' with
  | lit y=>cases x <;> simp[D.valOf]at h <;> cases y <;> simp[D.valOf]at h' <;> first | rw[h,h'] | rw[h]
  | agg cs=>
   simp only[D.valOf,Option.map_eq_some_iff]at h';obtain⟨us,_,rfl⟩:=h';cases x <;> simp[D.valOf]at h
  | _=>simp[D.valOf]at h'
 | agg cs=>
  simp only[D.valOf,Option.map_eq_some_iff]at h;obtain⟨us,h1,rfl⟩:=h;cases d' with
  | lit y=>cases y <;> simp[D.valOf]at h'
  | agg ds=>
   simp only[D.valOf,Option.map_eq_some_iff]at h';obtain⟨us',h2,h3⟩:=h';obtain rfl:us'=us:=by simpa using h3
   rw[ztm cs ds _ h1 h2]
  | _=>simp[D.valOf]at h'
 | _=>simp[D.valOf]at h

theorem zcO{ks:List D}{k:D}:zeN ks k<ks.length↔k∈ks:=by
 classical
 unfold zeN;rw[List.findIdx_lt_length];constructor
 ·rintro⟨x,hx,h⟩;rw[decide_eq_true_eq]at h;rw[<-h]; exact hx
 ·intro h; exact⟨k,h,by simp⟩
theorem kidx_get{ks:List D}{k:D}(h:k∈ks):ks[zeN ks k]? =some k:=by
 classical
 have h1:=zcO.2 h;rw[List.getElem?_eq_getElem h1];have h2:decide (ks[zeN ks k]=k)=true:=List.findIdx_getElem (w:=h1);rw[decide_eq_true_eq]at h2;rw[h2]
theorem kidx_eq{ks:List D}{k:D}{j:Nat}(hn:ks.Nodup)(h:ks[j]? =some k):zeN ks k=j:=by
 have hm:k∈ks:=List.mem_of_getElem? h;have h1:=kidx_get hm;have h2:=(List.getElem?_eq_some_iff.1 h1);have h3:=(List.getElem?_eq_some_iff.1 h);exact(List.getElem_inj hn).1 (h2.2.trans h3.2.symm)

theorem zav.get?{W:World}{F:Nat->Prop}: ∀(ds:List D) (vs:List Value) (j:Nat),zav W F ds vs->(∀v,vs[j]? =some v-> ∃d,ds[j]? =some d/\Rd W F d v)/\(∀d,ds[j]? =some d-> ∃v,vs[j]? =some v/\Rd W F d v)
 | [],vs,j,h=>by simp only[zav]at h; subst h; simp
 | d::ds,vs,j,h=>by
  simp only[zav]at h;obtain⟨v,rest,rfl,h1,h2⟩:=h;cases j with
  | zero=>simp[h1]
  | succ j=>simpa using zav.get? ds rest j h2

theorem zrG{W:World}{F:Nat->Prop}{P:Program}{kt:TypeId}{es:Array MapEntry}{ks:List D}{k:D}{x:Value}(K:zj0 P kt)(hk:zd3 P kt k)(hks: ∀y∈ks,zd3 P kt y)(hr:Rd W F k x)(hr':zav W F ks (es.toList.map (·.key)))(hn:ks.Nodup)(w:World):
  (∀em,(Instr.checkKey em 10000 kt x).run P w= .ok () w)/\(Instr.keyThatStays x x).run P w= .ok x w/\
  ((k∉ks/\(Instr.findKey kt x es.toList).run P w= .ok none w/\ ∀e∈es.toList,e.key≠x)\/(k∈ks/\ ∃e,es.toList[zeN ks k]? =some e/\e.key=x/\(Instr.findKey kt x es.toList).run P w= .ok (some (zeN ks k,e.val)) w)):=by
 obtain⟨v,l,hv,hl⟩:=hk;obtain rfl:=zrQ hv hr;have hes: ∀e∈es.toList,∃l,keyOf P kt e.key=some l:=by
  intro e he;obtain⟨j,hj⟩:=List.mem_iff_getElem?.1 he;obtain⟨d,h1,h2⟩:=(zav.get? ks _ j hr').1 e.key (by simp[List.getElem?_map,hj]);obtain⟨v',l',h3,h4⟩:=hks d (List.mem_of_getElem? h1);rw[zrQ h3 h2];exact⟨l',h4⟩
 refine⟨fun em=>K.check w em hl,K.stays w hl,?_⟩;rcases K.find w hl es.toList hes with⟨h1,h2⟩ | ⟨j,e,h1,h2,h3⟩
 ·refine .inl ⟨fun hm=> ?_,h1,h2⟩;obtain⟨j,hj⟩:=List.mem_iff_getElem?.1 hm;obtain⟨u,h3,h4⟩:=(zav.get? ks _ j hr').2 k hj;rw[List.getElem?_map,Option.map_eq_some_iff]at h3;obtain⟨e,h5,rfl⟩:=h3;exact h2 e (List.mem_of_getElem? h5) (zrQ hv h4)
 ·obtain⟨d,h4,h5⟩:=(zav.get? ks _ j hr').1 e.key (by simp[List.getElem?_map,h2]);obtain⟨v',l',h6,_⟩:=hks d (List.mem_of_getElem? h4);have h7:v'=x:=(zrQ h6 h5).symm.trans h3;subst h7;obtain rfl:=valOf_inj h6 hv;have h8:=kidx_eq hn h4;exact .inr ⟨List.mem_of_getElem? h4,e,by rw[h8]; exact h2,h3,by rw[h8]; exact h1⟩

section
variable {c:Ctx} {O:zbI} {W:World} {F:Nat->Prop} {η:Nat->Value} {S:Nat->List Nat} {dst:Nat} {ρ:Operand->AV} {a:Operand->Value} {o:Oper} {vc:Prop} {V:AV} {n:Option AO}

theorem rd_cellD(v:Value):Rd W F (cellD v) v:=by
 unfold cellD;split
 ·simp only[Rd]; exact⟨⟨none,0,rfl,Nat.le_refl _,fun h=>absurd rfl h⟩,by simp⟩
 ·simp only[Rd]
theorem zrb: ∀vs:List Value,zav W F (vs.map cellD) vs
 | []=>by simp only[List.map_nil,zav]
 | v::vs=>by simp only[List.map_cons,zav]; exact⟨v,vs,rfl,rd_cellD v,zrb vs⟩
theorem rd_valD(v:Value):Rd W F (valD v) v:=by
 unfold valD;split
 ·rename_i cs; simp only[Rd]; exact⟨cs.toList,rfl,zrb _⟩
 ·exact rd_cellD v
theorem zeroD_run{P:Program}{t:TypeId}{z:D}(h:zrA P t=some z): ∃v,(∀w,(zeroValue t).run P w= .ok v w)/\ ∀W F,Rd W F z v:=by
 unfold zrA at h;split at h
 ·rename_i i hi;simp only[Option.map_eq_some_iff]at h;obtain⟨u,h1,rfl⟩:=h;exact⟨u,fun w=>by simp[zeroValue,typeInfo,hi,h1],fun W F=>rd_valD u⟩
 ·cases h

theorem mapOf_rd(hm:Mem c O W F η S){x:AV}{v:Value}{ks vs:List D}(h:zaL O W F η x v)(hx:mapOf O x=some (ks,vs)):
  ∃b es clock,v= .map (some b)/\W.heap[b]? =some (.map es clock)/\zav W F ks (es.toList.map (·.key))/\zav W F vs (es.toList.map (·.val))/\ks.Nodup:=by
 unfold mapOf at hx;split at hx
 ·rename_i ks' vs' bs clock;simp only[Option.some.injEq,Prod.mk.injEq]at hx;obtain⟨rfl,rfl⟩:=hx;simp only[zaL,Rd]at h;obtain⟨b,es,h1,_,h2,h3,h4,_,h5⟩:=h;exact⟨b,es,clock,h1,h2,h3,h4,h5.1⟩
 ·rename_i id;split at hx
  ·rename_i ks' vs' bs clock hO;simp only[Option.some.injEq,Prod.mk.injEq]at hx;obtain⟨rfl,rfl⟩:=hx;simp only[zaL]at h;obtain⟨b,h1,_,es,h2,h3,h4,_,h5⟩:=hm.obj id _ hO;exact⟨b,es,clock,(h _ hO rfl).trans h1,h2,h3,h4,h5.1⟩
  ·cases hx
 ·cases hx

theorem q_lookup(hm:Mem c O W F η S)(hρ: ∀x,zaL O W F η (ρ x) (a x))(t:TypeId)(m x:Operand)(ok:Bool)(ho:o.op= .lookup t m x ok)(hq:zeu c.P dst ρ O (.lookup t m x ok)=some (vc,V,n))(hvc:vc):
  zeM c O W F η dst ((execOp a o).run c.P W) V n:=by
 simp only[zeu]at hq;split at hq
 case h_2=>cases hq
 rename_i kt et ht;split at hq
 case h_2=>cases hq
 rename_i z hz;split at hq
 case h_2=>cases hq
 rename_i ks vs k hmap hx;simp only[Option.some.injEq,Prod.mk.injEq]at hq;obtain⟨rfl,rfl,rfl⟩:=hq;obtain⟨K,hk,hks⟩:=hvc;obtain⟨b,es,clock,h1,h2,h3,h4,h5⟩:=mapOf_rd hm (hρ m) hmap;have hxr:=hρ x;rw[hx]at hxr;simp only[zaL]at hxr;obtain⟨f1,_,f2⟩:=zrG K hk hks hxr h3 h5 W;obtain⟨zv,z1,z2⟩:=zeroD_run hz;have key: ∃v r,(Instr.lookup t (a m) (a x) ok).run c.P W= .ok (if ok then .tuple #[v,.bool r]else v) W/\Rd W F ((zjZ ks vs k).getD z) v/\r=(zjZ ks vs k).isSome :=by
  rcases f2 with⟨g1,g2,_⟩ | ⟨g1,e,g2,g3,g4⟩
  ·have:zjZ ks vs k=none:=by unfold zjZ; rw[if_neg (fun h=>g1 (zcO.1 h))]
   rw[this];exact⟨zv,false,by rw[h1]; simp[Instr.lookup,run_underlying ht,MapKept.run_getObj_map h2,f1,g2,z1,Result.andThen],z2 W F,rfl⟩
  ·obtain⟨d,g5,g6⟩:=(zav.get? vs _ (zeN ks k) h4).1 e.val (by simp[List.getElem?_map,g2]);have:zjZ ks vs k=some d:=by unfold zjZ; rw[if_pos (zcO.2 g1)]; exact g5
   rw[this];exact⟨e.val,true,by rw[h1]; simp[Instr.lookup,run_underlying ht,MapKept.run_getObj_map h2,f1,g4,Result.andThen],g6,rfl⟩
 obtain⟨v,r,k1,k2,k3⟩:=key;refine zeM.same hm (v:=if ok then .tuple #[v,.bool r]else v) (by simp[execOp,ho,k1]) ?_;cases ok
 ·simpa [zaL]using k2
 ·simp only[if_true,zaL,zaN,Rd];exact⟨[v,.bool r],by simp,v,_,rfl,k2,.bool r,_,rfl,by rw[k3],rfl⟩

theorem zqJ: ∀(xs:List AV) (ds:List D) (vs:List Value),zwy xs=some ds->zaN O W F η xs vs->zav W F ds vs
 | xs,ds,vs,h,hr=>by rw[zj2 xs ds h,zaN.of_ds]at hr; exact hr

theorem q_makeFunc(hm:Mem c O W F η S)(hρ: ∀x,zaL O W F η (ρ x) (a x))(f:Fn)(fs cs:Array Operand)(ho:o.op= .makeFunc f fs cs):zeM c O W F η dst ((execOp a o).run c.P W) (mkClo f (fs.toList.map ρ) (cs.toList.map ρ)) none:=by
 have hmap: ∀xs:List Operand,zaN O W F η (xs.map ρ) (xs.map a):=by
  intro xs
  induction xs with
  | nil=>simp[zaN]
  | cons x xs ih=>simp only[List.map_cons,zaN]; exact⟨_,_,rfl,hρ x,ih⟩
 refine zeM.same hm (v:=.func f (fs.map a) (cs.map a)) (by simp[execOp,ho,Instr.makeFunc]) ?_;have e1:fs.map a=(fs.toList.map a).toArray :=by rw[<-Array.toList_map]
 have e2:cs.map a=(cs.toList.map a).toArray :=by rw[<-Array.toList_map]
 rw[e1,e2];unfold mkClo;split
 ·rename_i x y h1 h2;simp only[zaL,Rd];exact⟨_,_,rfl,zqJ _ _ _ h1 (hmap _),zqJ _ _ _ h2 (hmap _)⟩
 ·simp only[zaL];exact⟨_,_,rfl,hmap _,hmap _⟩

theorem q_min(hm:Mem c O W F η S)(hρ: ∀x,zaL O W F η (ρ x) (a x))(args:Array Operand)(ts:Array TypeId)(ho:o.op= .call {callee:=.builtin .min,args:=args,argTypes:=ts})(hq:zeu c.P dst ρ O (.call {callee:=.builtin .min,args:=args,argTypes:=ts})=some (vc,V,n)):
  zeM c O W F η dst ((execOp a o).run c.P W) V n:=by
 simp only[zeu]at hq;split at hq
 case h_2=>cases hq
 rename_i x y t t' h1 h2;split at hq
 case h_2=>cases hq
 rename_i k' k u j v hu hx hy;simp only[Option.some.injEq,Prod.mk.injEq]at hq;obtain⟨rfl,rfl,rfl⟩:=hq;have hxr:=hρ x;have hyr:=hρ y;rw[hx]at hxr;rw[hy]at hyr;simp only[zaL,Rd]at hxr hyr;have ea:args=#[x,y]:=by rw[<-h1]
 subst ea;refine zeM.same hm (v:=.int k (if v<u then v else u)) ?_ (by simp[zaL,Rd]);simp[execOp,ho,resolve,invoke,builtin,Builtin.min_,Builtin.min2,hxr,hyr]

theorem q_max(hm:Mem c O W F η S)(hρ: ∀x,zaL O W F η (ρ x) (a x))(args:Array Operand)(ts:Array TypeId)(ho:o.op= .call {callee:=.builtin .max,args:=args,argTypes:=ts})(hq:zeu c.P dst ρ O (.call {callee:=.builtin .max,args:=args,argTypes:=ts})=some (vc,V,n)):
  zeM c O W F η dst ((execOp a o).run c.P W) V n:=by
 simp only[zeu]at hq;split at hq
 case h_2=>cases hq
 rename_i x y t t' h1 h2;split at hq
 case h_2=>cases hq
 rename_i k' k u j v hu hx hy;simp only[Option.some.injEq,Prod.mk.injEq]at hq;obtain⟨rfl,rfl,rfl⟩:=hq;have hxr:=hρ x;have hyr:=hρ y;rw[hx]at hxr;rw[hy]at hyr;simp only[zaL,Rd]at hxr hyr;have ea:args=#[x,y]:=by rw[<-h1]
 subst ea;refine zeM.same hm (v:=.int k (if v>u then v else u)) ?_ (by simp[zaL,Rd]);simp[execOp,ho,resolve,invoke,builtin,Builtin.max_,Builtin.max2,hxr,hyr]

theorem zll(hρ: ∀x,zaL O W F η (ρ x) (a x)){x:Option Operand}{l:Option Int}(h:intO ρ x=some l):(l=none/\x.map a=none)\/ ∃i k,l=some i/\x.map a=some (.int k i):=by
 unfold intO at h;split at h
 ·simp only[Option.some.injEq]at h; exact .inl ⟨h.symm,rfl⟩
 ·rename_i x;split at h
  ·rename_i k i hx;simp only[Option.some.injEq]at h;have hr:=hρ x;rw[hx]at hr;simp only[zaL,Rd]at hr;exact .inr ⟨i,k,h.symm,by simp[hr]⟩
  ·cases h

theorem q_slice(hm:Mem c O W F η S)(hρ: ∀x,zaL O W F η (ρ x) (a x))(t:TypeId)(x:Operand)(lo hi mx:Option Operand)(ho:o.op= .slice t x lo hi mx)(hq:zeu c.P dst ρ O (.slice t x lo hi mx)=some (vc,V,n))(hvc:vc):
  zeM c O W F η dst ((execOp a o).run c.P W) V n:=by
 simp only[zeu]at hq;split at hq
 case h_4=>cases hq
 case h_3=>
  rename_i s hel hx;split at hq
  case h_2=>cases hq
  rename_i l h ht hl hh;simp only[Option.some.injEq,Prod.mk.injEq]at hq;obtain⟨rfl,rfl,rfl⟩:=hq;obtain⟨v1,v2,v3⟩:=hvc;have hxr:=hρ x;rw[hx]at hxr;simp only[zaL,Rd]at hxr;have hrun:(Instr.sliceAt t (a x) (lo.map a) (hi.map a) none).run c.P W= .ok (.string (s.extract (l.getD 0).toNat (h.getD s.size).toNat)) W:=by
   rw[hxr];rcases zll hρ hl with⟨rfl,e1⟩ | ⟨l',kl,rfl,e1⟩ <;> rcases zll hρ hh with⟨rfl,e2⟩ | ⟨h',kh,rfl,e2⟩ <;> simp only[Option.getD_some,Option.getD_none]at v1 v2 v3 ⊢ <;> rw[e1,e2,run_sliceAt_string (t:=t) (h:=ht)]
   ·simp[Instr.slice,run_underlying ht,Instr.sliceBounds,run_sliceBound,Result.andThen]
   ·have eh:(h'.toNat:Int)=h':=Int.toNat_of_nonneg (by omega);simp[Instr.slice,run_underlying ht,Instr.sliceBounds,run_sliceBound,eh,v1,v2,v3,(by omega:0<=h'),Result.andThen]
   ·simp[Instr.slice,run_underlying ht,Instr.sliceBounds,run_sliceBound,v1,v2,v3,Result.andThen]
   ·have eh:(h'.toNat:Int)=h':=Int.toNat_of_nonneg (by omega);simp[Instr.slice,run_underlying ht,Instr.sliceBounds,run_sliceBound,eh,v1,v2,v3,(by omega:0<=h'),Result.andThen]
  exact zeM.same hm (v:=.string (s.extract (l.getD 0).toNat (h.getD s.size).toNat)) (by simp[execOp,ho,hrun,Result.andThen]) (by simp[zaL,Rd])
 case h_2=>
  rename_i e ag sz id m0 hel hx;split at hq
  case h_2=>cases hq
  rename_i e' k dep es l h hO hl hh;simp only[Option.some.injEq,Prod.mk.injEq]at hq;obtain⟨rfl,rfl,rfl⟩:=hq;obtain⟨⟨rfl,hpos,rfl⟩,v2,v3,v4⟩:=hvc;obtain⟨hu,hlay⟩:=zk9 hel;obtain⟨d,i,i2,i3,i4,_⟩:=ze4 hlay;have hxr:=hρ x;rw[hx]at hxr;simp only[zaL]at hxr;have hv:=(hxr _ _ _ _ hO).2 rfl;have hob:=hm.obj id _ hO;have hg: ∃g cap,η id= .slice (some ⟨g,0,none⟩) es.length cap/\es.length<=cap:=by
   cases dep with
   | flat=>
    rcases hob.2.2 with⟨_,r5,_⟩ | ⟨g,cap,_,_,r4,_,a1,_⟩
    ·rw[r5]at hpos; cases hpos
    ·exact⟨g,cap,r4,a1⟩
   | deep tys hs=>
    rcases hob.2.2 with⟨_,r5,_⟩ | ⟨g,cap,_,_,r4,_,a1,_⟩
    ·rw[r5]at hpos; cases hpos
    ·exact⟨g,cap,r4,a1⟩
  obtain⟨g,cap,hη,hcap⟩:=hg;rw[hη]at hv;have eel:c.P.elem t=e:=by simp[Program.elem,hu]
  have hsz: ∀w,(sizeOf e).run c.P w= .ok k w:=fun w=>by simp[sizeOf,typeInfo,i3,i4]
  have ht:c.P.underlying t=some (.slice (c.P.elem t)):=by rw[eel]; exact hu
  have hrun:(Instr.sliceAt t (a x) (lo.map a) (hi.map a) ((none:Option Operand).map a)).run c.P W= .ok (sliced (some ⟨g,0,none⟩) (l.getD 0).toNat (h.getD es.length).toNat cap k) W:=by
   rw[hv,run_sliceAt_slice (t:=t) (h:=ht)];rcases zll hρ hl with⟨rfl,e1⟩ | ⟨l',kl,rfl,e1⟩ <;> rcases zll hρ hh with⟨rfl,e2⟩ | ⟨h',kh,rfl,e2⟩ <;>
    simp only[Option.getD_none,Option.getD_some]at v2 v3 v4 ⊢ <;> rw[e1,e2,Option.map_none]
   ·rw[run_slice_all (t:=t) (a:=some ⟨g,0,none⟩) (len:=es.length) (cap:=cap) (ht:=ht),eel,hsz]; simp[Result.andThen]
   ·rw[run_slice_h (t:=t) (a:=some ⟨g,0,none⟩) (len:=es.length) (cap:=cap) (ht:=ht) (h0:=by omega) (h2:=by omega),eel,hsz]; simp[Result.andThen]
   ·rw[run_slice_l (t:=t) (a:=some ⟨g,0,none⟩) (len:=es.length) (cap:=cap) (ht:=ht) (h0:=by omega) (h1:=by omega),eel,hsz]; simp[Result.andThen]
   ·rw[run_slice_lh (t:=t) (a:=some ⟨g,0,none⟩) (len:=es.length) (cap:=cap) (ht:=ht) (h0:=by omega) (h1:=by omega) (h2:=by omega),eel,hsz]; simp[Result.andThen]
  refine zeM.same hm (v:=sliced (some ⟨g,0,none⟩) (l.getD 0).toNat (h.getD es.length).toNat cap k) (by simp only[Option.map_none]at hrun; simp[execOp,ho,hrun,Result.andThen]) ?_;simp only[zaL];intro e2 k2 dep2 es2 ho2;rw[hO]at ho2;simp only[Option.some.injEq,AO.arr.injEq]at ho2;obtain⟨rfl,rfl,rfl,rfl⟩:=ho2;refine⟨Nat.le_refl _,fun _=>⟨g,_,cap,hη,?_⟩⟩;simp[sliced,Addr.add_lit]
 rename_i e ag sz es hel hx;split at hq
 case h_2=>cases hq
 rename_i l h m hl hh hmx;simp only[Option.some.injEq,Prod.mk.injEq]at hq;obtain⟨rfl,rfl,rfl⟩:=hq;obtain⟨v1,v2,v3,v4,v5,v6⟩:=hvc;obtain⟨hu,hlay⟩:=zk9 hel;obtain⟨d,i,i2,i3,i4,_⟩:=ze4 hlay;have hxr:=hρ x;rw[hx]at hxr;simp only[zaL,Rd]at hxr;obtain⟨⟨ad,cap,hv,hcap,hr⟩,hmax⟩:=hxr;have eel:c.P.elem t=e:=by simp[Program.elem,hu]
 have hsz: ∀w,(sizeOf e).run c.P w= .ok sz w:=fun w=>by simp[sizeOf,typeInfo,i3,i4]
 have ht:c.P.underlying t=some (.slice (c.P.elem t)):=by rw[eel]; exact hu
 have hrun: ∃mm,(h.getD es.length).toNat <=mm/\(Instr.sliceAt t (a x) (lo.map a) (hi.map a) (mx.map a)).run c.P W= .ok (sliced ad (l.getD 0).toNat (h.getD es.length).toNat mm sz) W:=by
  rw[hv,run_sliceAt_slice (t:=t) (h:=ht)];rcases zll hρ hl with⟨rfl,e1⟩ | ⟨l',kl,rfl,e1⟩ <;> rcases zll hρ hh with⟨rfl,e2⟩ | ⟨h',kh,rfl,e2⟩ <;> rcases zll hρ hmx with⟨rfl,e3⟩ | ⟨m',km,rfl,e3⟩ <;>
   simp only[Option.getD_none,Option.getD_some,Option.isSome_some,Option.isSome_none,Bool.false_eq_true,imp_false,not_true_eq_false,and_false,forall_const,implies_true,and_true]at v2 v3 v4 v5 v6 ⊢ <;> rw[e1,e2,e3] <;> first | (exfalso; simp at v6; done) | skip
  ·exact⟨cap,by simpa using hcap,by rw[run_slice_all (t:=t) (a:=ad) (len:=es.length) (cap:=cap) (ht:=ht),eel,hsz]; simp[Result.andThen]⟩
  ·exact⟨cap,by omega,by rw[run_slice_h (t:=t) (a:=ad) (len:=es.length) (cap:=cap) (ht:=ht) (h0:=by omega) (h2:=by omega),eel,hsz]; simp[Result.andThen]⟩
  ·refine⟨m'.toNat,by omega,?_⟩;have q1:(m'.toNat:Int)=m':=by omega
   simp[Instr.slice,run_underlying ht,Instr.sliceBounds,run_sliceBound,sliced,eel,hsz,Result.andThen,q1,(by omega:0<=m'),(by omega:m'<=(cap:Int)),(by omega:0<=h'),v4]
  ·exact⟨cap,by simpa using hcap,by rw[run_slice_l (t:=t) (a:=ad) (len:=es.length) (cap:=cap) (ht:=ht) (h0:=by omega) (h1:=by omega),eel,hsz]; simp[Result.andThen]⟩
  ·exact⟨cap,by omega,by rw[run_slice_lh (t:=t) (a:=ad) (len:=es.length) (cap:=cap) (ht:=ht) (h0:=by omega) (h1:=by omega) (h2:=by omega),eel,hsz]; simp[Result.andThen]⟩
  ·refine⟨m'.toNat,by omega,?_⟩;have q1:(m'.toNat:Int)=m':=by omega
   have q2:(h'.toNat:Int)=h':=by omega
   simp[Instr.slice,run_underlying ht,Instr.sliceBounds,run_sliceBound,sliced,eel,hsz,Result.andThen,q1,q2,(by omega:0<=m'),(by omega:m'<=(cap:Int)),(by omega:0<=h'),v4,v2,v3]
 obtain⟨mm,hmm,hrun⟩:=hrun;obtain⟨l0,hl0⟩: ∃l0,(l.getD 0).toNat =l0:=⟨_,rfl⟩;obtain⟨h0,hh0⟩: ∃h0,(h.getD es.length).toNat =h0:=⟨_,rfl⟩;have hlen:h0<=es.length:=by omega
 have hlh:l0<=h0:=by omega
 rw[hl0,hh0]at hrun ⊢;rw[hh0]at hmm;refine zeM.same hm (v:=sliced ad l0 h0 mm sz) (by simp[execOp,ho,hrun]) ?_;have hsl:((es.drop l0).take (h0-l0)).length =h0-l0:=by rw[List.length_take,List.length_drop]; omega
 simp only[zaL,Rd,hsl];refine⟨⟨if mm=l0 then ad else ad.map (·.add (l0*sz)),mm-l0,rfl,by omega,fun hne=> ?_⟩,by omega⟩;obtain⟨b,off,k,rfl,hF,hrows⟩:=hr (by omega);have hk:k=sz:=by
  obtain⟨g1,_⟩:=zbJ.get es off 0 (es.getD 0 []) hrows (by rw[List.getD,List.getElem?_eq_getElem (show 0<es.length by omega)]; simp);rw[<-g1];exact v1 _ (by rw[List.getD,List.getElem?_eq_getElem (show 0<es.length by omega)]; simp)
 subst hk;rw[if_neg (by omega)];exact⟨b,off+l0*k,k,by simp[Addr.add_lit],hF,zbJ.mid es off l0 (h0-l0) hrows⟩

theorem q_entry(hm:Mem c O W F η S)(hρ: ∀x,zaL O W F η (ρ x) (a x))(it:Operand)(ho:o.op= .entry it)(hq:zeu c.P dst ρ O (.entry it)=some (vc,V,n)):
  zeM c O W F η dst ((execOp a o).run c.P W) V n:=by
 simp only[zeu]at hq;split at hq
 case h_2=>cases hq
 rename_i id hid;split at hq
 case h_2=>cases hq
 rename_i ks vs bs clock seen hO;split at hq
 case h_2=>cases hq
 rename_i j hj;simp only[Option.some.injEq,Prod.mk.injEq]at hq;obtain⟨_,rfl,rfl⟩:=hq;have hx:=hρ it;rw[hid]at hx;simp only[zaL]at hx;obtain⟨r,b,h1,_,h3,_,⟨es,h4,h5,h6,h7,h8⟩,h9⟩:=hm.obj id _ hO;have hav:=(hx _ hO rfl).trans h1;have hjl:j<bs.length:=h9 j (List.mem_of_getLast? hj);have hlen:bs.length=es.toList.length:=by rw[h7]; simp
 obtain⟨e,he⟩: ∃e,es.toList[j]? =some e:=⟨_,List.getElem?_eq_getElem (by omega)⟩;have heb:bs.getD j 0=e.born:=by rw[h7,List.getD,List.getElem?_map,he]; rfl
 have hback:((seen.map (bs.getD · 0)).toArray).back? =some e.born:=by
  rw[List.back?_toArray,List.getLast?_map,hj];simp only[Option.map_some,heb]
 have hfind:es.find? (fun x=>x.born==e.born)=some e:=by
  have:es=es.toList.toArray:=by simp
  rw[this,List.find?_toArray];rw[List.find?_eq_some_iff_getElem];refine⟨by simp,j,by omega,?_,fun i hi=> ?_⟩
  ·have:=(List.getElem?_eq_some_iff.1 he).2; exact this
  ·have h10:=(List.pairwise_iff_getElem.1 h8.2.1) i j (by omega) hjl hi;have e1:bs[i]'(by omega)=(es.toList[i]'(by omega)).born :=by
    have:bs[i]? =(es.toList.map (·.born))[i]? :=(by rw[<-h7]);rw[List.getElem?_eq_getElem (by omega),List.getElem?_map,List.getElem?_eq_getElem (by omega:i<es.toList.length)]at this;simpa using this
   have e2:bs[j]=e.born:=by rw[List.getD,List.getElem?_eq_getElem hjl]at heb; simpa using heb
   simp only[Bool.not_eq_true',beq_eq_false_iff_ne,ne_eq];rw[<-e1,<-e2];exact h10
 obtain⟨kd,k1,k2⟩:=(zav.get? ks _ j h5).1 e.key (by simp[List.getElem?_map,he]);obtain⟨vd,v1,v2⟩:=(zav.get? vs _ j h6).1 e.val (by simp[List.getElem?_map,he]);refine zeM.same hm (v:=.tuple #[e.key,e.val]) ?_ ?_
 ·have heb':bs[j]?.getD 0=e.born:=by simpa [List.getD]using heb
  simp[execOp,ho,hav,Instr.entry,getObj,Sem.run,h3,hj,heb',h4,hfind]
 ·simp only[zaL,zaN];rw[List.getD,k1,List.getD,v1];exact⟨[e.key,e.val],by simp,e.key,_,rfl,k2,e.val,_,rfl,v2,rfl⟩
end
end Go.Aw
