/- Machinery. Conditions: those of each. -/
import Derived.Test.YtplfjjgkbnolhaaGreatDoorGQ
import Derived.Laws.Cells
set_option linter.unusedSimpArgs false
set_option linter.unusedVariables false
/-
 THE OPERATIONS THAT READ AND MAKE ARE WHAT 'qsem' SAYS: one law an operation.
 Conditions: those of 'qsem'; over any program.
-/
namespace Go.Aw
open Go.RowKit

section
variable {W:World} {F:Nat->Prop}
theorem zbd.get{b:Nat}: ∀(cs:List D) (off j:Nat) (d:D),zbd W F cs b off->cs[j]? =some d-> ∃v,W.cell? ⟨b,off+j,none⟩=some v/\Rd W F d v
 | [],_,_,_,_,h=>by simp at h
 | x::cs,off,0,d,hr,h=>by
  simp only[zbd]at hr;simp only[List.getElem?_cons_zero,Option.some.injEq]at h;subst h;exact hr.1
 | x::cs,off,j+1,d,hr,h=>by
  simp only[zbd]at hr;obtain⟨v,h1,h2⟩:=zbd.get cs (off+1) j d hr.2 (by simpa using h);exact⟨v,by rw[show off+(j+1)=off+1+j by omega]; exact h1,h2⟩
theorem zbd.drop{b:Nat}: ∀(cs:List D) (off o:Nat),zbd W F cs b off->zbd W F (cs.drop o) b (off+o)
 | cs,off,0,h=>by simpa using h
 | [],off,o+1,_=>by simp[zbd]
 | x::cs,off,o+1,h=>by
  simp only[zbd]at h;rw[List.drop_succ_cons,show off+(o+1)=off+1+o by omega];exact zbd.drop cs (off+1) o h.2
theorem zbd.vals{b:Nat}: ∀(cs:List D) (off:Nat),zbd W F cs b off-> ∃vs:List Value,zav W F cs vs/\ ∀j v,vs[j]? =some v->W.cell? ⟨b,off+j,none⟩=some v
 | [],_,_=>⟨[],by simp only[zav],by simp⟩
 | x::cs,off,h=>by
  simp only[zbd]at h;obtain⟨⟨v,h1,h2⟩,h3⟩:=h;obtain⟨vs,h4,h5⟩:=zbd.vals cs (off+1) h3;refine⟨v::vs,by simp only[zav]; exact⟨v,vs,rfl,h2,h4⟩,?_⟩;intro j u hj;cases j with
  | zero=>simp only[List.getElem?_cons_zero,Option.some.injEq]at hj; subst hj; simpa using h1
  | succ j=>rw[show off+(j+1)=off+1+j by omega]; exact h5 j u (by simpa using hj)
theorem zbd.take{b:Nat}(cs:List D)(off n:Nat)(h:zbd W F cs b off):zbd W F (cs.take n) b off:=by
 induction cs generalizing off n with
 | nil=>simp[zbd]
 | cons x cs ih=>
  cases n with
  | zero=>simp[zbd]
  | succ n=>
   simp only[zbd,List.take_succ_cons]at h ⊢;exact⟨h.1,ih (off+1) n h.2⟩
theorem zbJ.get{b k:Nat}: ∀(es:List (List D)) (off i:Nat) (e:List D),zbJ W F k es b off->es[i]? =some e->e.length=k/\zbd W F e b (off+i*k)
 | [],_,_,_,_,h=>by simp at h
 | x::es,off,0,e,hr,h=>by
  simp only[zbJ]at hr;simp only[List.getElem?_cons_zero,Option.some.injEq]at h;subst h;simpa using hr.1
 | x::es,off,i+1,e,hr,h=>by
  simp only[zbJ]at hr;obtain⟨h1,h2⟩:=zbJ.get es (off+k) i e hr.2 (by simpa using h);exact⟨h1,by rw[show off+(i+1)*k=off+k+i*k by rw[Nat.add_mul]; omega]; exact h2⟩
theorem zav.get{F':Nat->Prop}: ∀(ds:List D) (vs:List Value) (j:Nat) (d:D),zav W F' ds vs->ds[j]? =some d-> ∃v,vs[j]? =some v/\Rd W F' d v
 | [],_,_,_,_,h=>by simp at h
 | x::ds,vs,j,d,hr,h=>by
  simp only[zav]at hr;obtain⟨v,rest,rfl,h1,h2⟩:=hr;cases j with
  | zero=>simp only[List.getElem?_cons_zero,Option.some.injEq]at h; subst h; exact⟨v,rfl,h1⟩
  | succ j=>simpa using zav.get ds rest j d h2 (by simpa using h)
theorem zav.drop{F':Nat->Prop}: ∀(ds:List D) (vs:List Value) (o:Nat),zav W F' ds vs->zav W F' (ds.drop o) (vs.drop o)
 | ds,vs,0,h=>by simpa using h
 | [],vs,o+1,h=>by simp only[zav]at h; subst h; simp[zav]
 | x::ds,vs,o+1,h=>by
  simp only[zav]at h;obtain⟨v,rest,rfl,_,h2⟩:=h;simpa using zav.drop ds rest o h2
theorem zav.take{F':Nat->Prop}: ∀(ds:List D) (vs:List Value) (n:Nat),zav W F' ds vs->zav W F' (ds.take n) (vs.take n)
 | ds,vs,0,h=>by simp[zav]
 | [],vs,n+1,h=>by simp only[zav]at h; subst h; simp[zav]
 | x::ds,vs,n+1,h=>by
  simp only[zav]at h;obtain⟨v,rest,rfl,h1,h2⟩:=h;simp only[List.take_succ_cons,zav];exact⟨v,_,rfl,h1,zav.take ds rest n h2⟩
end

section
variable {O:zbI} {W:World} {F:Nat->Prop} {η:Nat->Value}
theorem zaN.get: ∀(xs:List AV) (vs:List Value) (j:Nat) (x:AV),zaN O W F η xs vs->xs[j]? =some x-> ∃v,vs[j]? =some v/\zaL O W F η x v
 | [],_,_,_,_,h=>by simp at h
 | y::xs,vs,j,x,hr,h=>by
  simp only[zaN]at hr;obtain⟨v,rest,rfl,h1,h2⟩:=hr;cases j with
  | zero=>simp only[List.getElem?_cons_zero,Option.some.injEq]at h; subst h; exact⟨v,rfl,h1⟩
  | succ j=>simpa using zaN.get xs rest j x h2 (by simpa using h)
theorem zaN.length: ∀(xs:List AV) (vs:List Value),zaN O W F η xs vs->vs.length=xs.length
 | [],vs,h=>by simp only[zaN]at h; simp[h]
 | x::xs,vs,h=>by
  simp only[zaN]at h;obtain⟨v,rest,rfl,_,h2⟩:=h;simp[zaN.length xs rest h2]
theorem zaN.drop: ∀(xs:List AV) (vs:List Value) (o:Nat),zaN O W F η xs vs->zaN O W F η (xs.drop o) (vs.drop o)
 | xs,vs,0,h=>by simpa using h
 | [],vs,o+1,h=>by simp only[zaN]at h; subst h; simp[zaN]
 | x::xs,vs,o+1,h=>by
  simp only[zaN]at h;obtain⟨v,rest,rfl,_,h2⟩:=h;simpa using zaN.drop xs rest o h2
theorem zaN.take: ∀(xs:List AV) (vs:List Value) (n:Nat),zaN O W F η xs vs->zaN O W F η (xs.take n) (vs.take n)
 | xs,vs,0,h=>by simp[zaN]
 | [],vs,n+1,h=>by simp only[zaN]at h; subst h; simp[zaN]
 | x::xs,vs,n+1,h=>by
  simp only[zaN]at h;obtain⟨v,rest,rfl,h1,h2⟩:=h;simp only[List.take_succ_cons,zaN];exact⟨v,_,rfl,h1,zaN.take xs rest n h2⟩
theorem zaN.append: ∀(a b:List AV) (vs:List Value),zaN O W F η (a++b) vs↔ ∃x y,vs=x++y/\zaN O W F η a x/\zaN O W F η b y
 | [],b,vs=>by
  simp only[List.nil_append,zaN];exact⟨fun h=>⟨[],vs,rfl,rfl,h⟩,fun⟨x,y,h1,h2,h3⟩=>by subst h2; subst h1; exact h3⟩
 | d::a,b,vs=>by
  simp only[List.cons_append,zaN,zaN.append a b];constructor
  ·rintro⟨v,rest,rfl,h1,x,y,rfl,h2,h3⟩;exact⟨v::x,y,rfl,⟨v,x,rfl,h1,h2⟩,h3⟩
  ·rintro⟨x,y,rfl,⟨v,x',rfl,h1,h2⟩,h3⟩;exact⟨v,x'++y,rfl,h1,x',y,rfl,h2,h3⟩
theorem zaN.of_ds: ∀(ds:List D) (vs:List Value),zaN O W F η (ds.map .d) vs↔zav W F ds vs
 | [],vs=>by simp only[List.map_nil,zaN,zav]
 | d::ds,vs=>by simp only[List.map_cons,zaN,zav,zaL,zaN.of_ds ds]
theorem zj2: ∀(cs:List AV) (ds:List D),zwy cs=some ds->cs=ds.map .d
 | [],ds,h=>by simp only[zwy,Option.some.injEq]at h; subst h; rfl
 | .d x::r,ds,h=>by
  simp only[zwy,Option.map_eq_some_iff]at h;obtain⟨y,h1,rfl⟩:=h;rw[zj2 r y h1]; rfl
 | .dead ::_,_,h | .und ::_,_,h | .nils ::_,_,h | .emp ::_,_,h | .ar .. ::_,_,h | .ep .. ::_,_,h | .bp .. ::_,_,h | .mo _::_,_,h | .agg _::_,_,h | .clo .. ::_,_,h | .tup _::_,_,h=>by simp[zwy]at h
theorem ziw(cs:List AV)(vs:List Value)(h:zaN O W F η cs vs):zaL O W F η (zu0 cs) (.agg vs.toArray):=by
 unfold zu0;split
 ·rename_i ds hd;rw[zj2 cs ds hd,zaN.of_ds]at h;simp only[zaL,Rd];exact⟨vs,rfl,h⟩
 ·simp only[zaL];exact⟨vs,rfl,h⟩
theorem relV_cellAV(v:Value):zaL O W F η (zdB v) v:=by
 unfold zdB;split <;> simp[zaL,Rd]
theorem zdY: ∀vs:List Value,zaN O W F η (vs.map zdB) vs
 | []=>by simp only[List.map_nil,zaN]
 | v::vs=>by simp only[List.map_cons,zaN]; exact⟨v,vs,rfl,relV_cellAV v,zdY vs⟩
theorem relV_constAV(v:Value):zaL O W F η (zjM v) v:=by
 unfold zjM;split
 ·rename_i cs;have:=ziw (O:=O) (W:=W) (F:=F) (η:=η) _ _ (zdY cs.toList);simpa using this
 ·simp[zaL]
 ·simp[zaL]
 ·simp[zaL,Rd]
theorem zhZ{tmps:Nat->AV}{a:Act}(h: ∀t,zaL O W F η (tmps t) (a.tmps.getD t undef))(x:Operand):zaL O W F η (St.ev tmps x) (a.eval x):=by
 cases x with
 | tmp t=>exact h t
 | const v=>exact relV_constAV v
 | global g=>simp[St.ev,Act.eval,zaL,Rd]
 | func f=>simp only[St.ev,Act.eval,zaL,Rd,zav]; exact⟨[],[],rfl,rfl,rfl⟩
end

theorem ze4{P:Program}{t:TypeId}{ag:Bool}{n:Nat}(h:lay P t=some (ag,n)):
  ∃d i,P.underlying t=some d/\P.info? t=some i/\i.size=n/\ ∀w,(isAgg t).run P w= .ok ag w:=by
 unfold lay at h;split at h
 ·rename_i d i fs h1 h2;simp only[Option.some.injEq,Prod.mk.injEq]at h;exact⟨_,_,h1,h2,h.2,fun w=>by simp[isAgg,run_underlying h1,h.1]⟩
 ·rename_i d i fs h1 h2;simp only[Option.some.injEq,Prod.mk.injEq]at h;exact⟨_,_,h1,h2,h.2,fun w=>by simp[isAgg,run_underlying h1,h.1]⟩
 ·rename_i d i hd hn h1 h2;simp only[Option.some.injEq,Prod.mk.injEq]at h;refine⟨_,_,h1,h2,h.2,fun w=> ?_⟩;simp only[isAgg,Sem.run_bind,run_underlying h1,Result.andThen_ok];simp[h.1]
 ·cases h

def addO(O:zbI)(dst:Nat)(n:Option AO):zbI:=match n with | none=>O | some o=>upd O dst (some o)
def newOf(dst:Nat)(n:Option AO):List Nat:=match n with | none=>[] | some _=>[dst]
def zeM(c:Ctx)(O:zbI)(W:World)(F:Nat->Prop)(η:Nat->Value)(dst:Nat)(r:Result Next)(V:AV)(n:Option AO):Prop:=
 ∃v W' F' η' S',r= .ok (.value v) W'/\Mem c (addO O dst n) W' F' η' S'/\za7 O (addO O dst n) η η' (newOf dst n)/\(∀b,F b->F' b/\W'.heap[b]? =W.heap[b]?)/\
  zaL (addO O dst n) W' F' η' V v/\(n=none->W'=W/\F'=F/\η'=η)

section
variable {c:Ctx} {O:zbI} {W:World} {F:Nat->Prop} {η:Nat->Value} {S:Nat->List Nat} {dst:Nat} {ρ:Operand->AV} {a:Operand->Value} {o:Oper} {vc:Prop} {V:AV} {n:Option AO}
theorem zeM.same{r:Result Next}{v:Value}(hm:Mem c O W F η S)(hr:r= .ok (.value v) W)(hv:zaL O W F η V v):zeM c O W F η dst r V none:=
 ⟨v,W,F,η,S,hr,hm,za7.refl O η,fun _ h=>⟨h,rfl⟩,hv,fun _=>⟨rfl,rfl,rfl⟩⟩

theorem q_move(hm:Mem c O W F η S)(hρ: ∀x,zaL O W F η (ρ x) (a x))(x:Operand)(ho:o.op= .move x\/o.op= .assign x):zeM c O W F η dst ((execOp a o).run c.P W) (ρ x) none:=by
 refine zeM.same hm (v:=a x) ?_ (hρ x);rcases ho with ho | ho <;> simp[execOp,ho]

theorem q_pick(hm:Mem c O W F η S)(hρ: ∀x,zaL O W F η (ρ x) (a x))(x y z:Operand)(ho:o.op= .pick x y z)(hq:zeu c.P dst ρ O (.pick x y z)=some (vc,V,n)):
  zeM c O W F η dst ((execOp a o).run c.P W) V n:=by
 simp only[zeu]at hq;split at hq
 ·rename_i t ht;simp only[Option.some.injEq,Prod.mk.injEq]at hq;obtain⟨_,rfl,rfl⟩:=hq;have h1:=hρ x;rw[ht]at h1;simp only[zaL,Rd]at h1;cases t
  ·refine zeM.same hm (v:=a z) ?_ (hρ z);simp[execOp,ho,h1,asBool]
  ·refine zeM.same hm (v:=a y) ?_ (hρ y);simp[execOp,ho,h1,asBool]
 ·cases hq

theorem zgG{P:Program}{W:World}{t:TypeId}{n:Nat}(hl:lay P t=some (false,n)){ad:Addr}{v:Value}(h:W.cell? ad=some v):(loadVar t ad).run P W= .ok v W:=by
 obtain⟨d,i,h1,h2,h3,h4⟩:=ze4 hl;simp[loadVar,h4,h]
theorem zi7{P:Program}{W:World}{t:TypeId}{n:Nat}(hl:lay P t=some (true,n)){b off:Nat}{vs:List Value}(hn:vs.length=n)(h: ∀j v,vs[j]? =some v->W.cell? ⟨b,off+j,none⟩=some v):
  (loadVar t ⟨b,off,none⟩).run P W= .ok (.agg vs.toArray) W:=by
 obtain⟨d,i,h1,h2,h3,h4⟩:=ze4 hl;have h5:=run_loadCells_list (P:=P) W ⟨b,off,none⟩ vs (fun j v hj=>by rw[Addr.add_lit]; exact h j v hj);simp[loadVar,h4,sizeOf,typeInfo,h2,h3,<-hn,h5]

theorem List.head_of_drop{α:Type}(l:List α)(o:Nat)(x:α)(h:o<l.length):l[o]? =some ((l.drop o).headD x):=by
 have:(l.drop o)[0]? =l[o]? :=by simp
 rw[<-this];cases hd:l.drop o with
 | nil=>have:=congrArg List.length hd; simp at this; omega
 | cons y r=>simp

theorem List.head_zero{α:Type}(l:List α)(x:α)(h:0<l.length):l[0]? =some (l.headD x):=by
 cases l with
 | nil=>simp at h
 | cons y r=>simp

theorem box_cells{b:Nat}{cur:Array Value}{e:TypeId}(h:W.heap[b]? =some (.cells cur e (0,0)))(off:Nat): ∀j v,(cur.toList.drop off)[j]? =some v->W.cell? ⟨b,off+j,none⟩=some v:=by
 intro j v hj;simp only[World.cell?,h];simpa using hj

theorem arr_elem{e:TypeId}{k:Nat}{es:List (List D)}{v:Value}{s:List Nat}(h:zfv W (OwnVals (Own W F [])) e k es v s){i:Nat}(hi:i<es.length):
  ∃g cap,v= .slice (some ⟨g,0,none⟩) es.length cap/\(es.getD i []).length =k/\zbd W F (es.getD i []) g (i*k):=by
 obtain⟨h1,h2,h3⟩:=h;rcases h3 with⟨_,rfl,_⟩ | ⟨g,cap,cur,s1,rfl,hh,a1,a2,a3,rfl,a5⟩
 ·simp at hi
 ·have hr:=zbJ.of_vals (W:=W) (b:=g) F es (cur.toList.take (es.length*k)) 0 h2 (fun j v hj=>by
    rw[List.getElem?_take]at hj;split at hj
    ·simp only[World.cell?,hh,Nat.zero_add]; simpa using hj
    ·cases hj) (OwnVals.rd _ _ _ (fun x v s' _ hx=>hx.1) a5)
  obtain⟨h4,h5⟩:=zbJ.get es 0 i (es.getD i []) hr (by simp[List.getD,List.getElem?_eq_getElem hi]);exact⟨g,cap,rfl,h4,by simpa using h5⟩

theorem zdA.get{tys:List (TypeId×Nat)}{hs:List (Nat×AV)}: ∀(ds:List D) (i:Nat) (vs:List Value) (s:List Nat) {j:Nat},zdA O W F η tys hs i ds vs s->j<ds.length->
  ∃v,vs[j]? =some v/\(match hs.lookup (i+j)with | some x=>zaL O W F η x v | none=>True)
 | [],_,_,_,_,_,h=>by simp at h
 | d::ds,i,vs,s,j,h,hj=>by
  simp only[zdA]at h;obtain⟨v,rest,s1,s2,rfl,_,h3,h4⟩:=h;cases j with
  | zero=>
   refine⟨v,rfl,?_⟩;rw[Nat.add_zero];cases hl:hs.lookup i with
   | none=>trivial
   | some x=>rw[hl]at h3; exact h3.1
  | succ j=>
   obtain⟨u,h5,h6⟩:=zdA.get ds (i+1) rest s2 h4 (by simpa using hj);exact⟨u,by simpa using h5,by rw[show i+(j+1)=i+1+j by omega]; exact h6⟩

theorem zE8{g:Nat}: ∀ {cs:List AV} {vs:List Value} {ds:List D},zaN O W F η cs vs->gloR g cs vs=some ds->Rd W F (.ptr ds) (.pointer (some ⟨g,0,none⟩))
 | [],vs,ds,_,h=>by simp[gloR]at h
 | x::cs,vs,ds,hr,h=>by
  simp only[zaN]at hr;obtain⟨v,rest,rfl,h1,h2⟩:=hr;unfold gloR at h;split at h
  ·rename_i heq1 heq2;obtain⟨rfl,rfl⟩:=List.cons.inj heq1;obtain⟨rfl,rfl⟩:=List.cons.inj heq2;split at h
   ·rename_i hb;subst hb;cases h;simpa only[zaL]using h1
   ·exact zE8 h2 h
  ·rename_i heq1 heq2;obtain⟨rfl,rfl⟩:=List.cons.inj heq1;obtain⟨rfl,rfl⟩:=List.cons.inj heq2;exact zE8 h2 h
  ·cases h
theorem q_load(hm:Mem c O W F η S)(hρ: ∀x,zaL O W F η (ρ x) (a x))(t:TypeId)(x:Operand)(ho:o.op= .load t x)(hq:zeu c.P dst ρ O (.load t x)=some (vc,V,n))(hvc:vc):
  zeM c O W F η dst ((execOp a o).run c.P W) V n:=by
 simp only[zeu]at hq;split at hq
 case h_2=>cases hq
 rename_i ag sz hl;have hx:=hρ x;split at hq
 ·-- a pointer to plain cells
  rename_i cs hcs;rw[hcs]at hx;simp only[zaL,Rd]at hx;obtain⟨b,off,hp,hF,hc⟩:=hx;cases ag
  ·simp only[Bool.false_eq_true,if_false,Option.some.injEq,Prod.mk.injEq]at hq;obtain⟨rfl,rfl,rfl⟩:=hq;obtain⟨v,h1,h2⟩:=zbd.get cs off 0 _ hc (List.head_zero cs default (by omega));refine zeM.same hm (v:=v) ?_ h2;simp[execOp,ho,Instr.loadAt,hp,Instr.sureAddr,zgG hl (ad:=⟨b,off,none⟩) (by simpa using h1)]
  ·simp only[if_true,Option.some.injEq,Prod.mk.injEq]at hq;obtain⟨rfl,rfl,rfl⟩:=hq;obtain⟨vs,h1,h2⟩:=zbd.vals _ off (zbd.take cs off sz hc);refine zeM.same hm (v:=.agg vs.toArray) ?_ ⟨vs,rfl,h1⟩;simp[execOp,ho,Instr.loadAt,hp,Instr.sureAddr,zi7 hl (by rw[zav.length _ _ h1,List.length_take]; omega) h2]
 ·-- a package's variable
  rename_i g hcs;rw[hcs]at hx;split at hq
  case h_2=>cases hq
  rename_i gcs gvs hO;split at hq
  case h_2=>cases hq
  rename_i cs hg;have hgl:=zE8 (hm.obj 7777777 _ hO).2 hg;simp only[zaL,Rd]at hx;rw[<-hx]at hgl;simp only[Rd]at hgl;obtain⟨b,off,hp,hF,hc⟩:=hgl;cases ag
  ·simp only[Bool.false_eq_true,if_false,Option.some.injEq,Prod.mk.injEq]at hq;obtain⟨rfl,rfl,rfl⟩:=hq;obtain⟨v,h1,h2⟩:=zbd.get cs off 0 _ hc (List.head_zero cs default (by omega));refine zeM.same hm (v:=v) ?_ h2;simp[execOp,ho,Instr.loadAt,hp,Instr.sureAddr,zgG hl (ad:=⟨b,off,none⟩) (by simpa using h1)]
  ·simp only[if_true,Option.some.injEq,Prod.mk.injEq]at hq;obtain⟨rfl,rfl,rfl⟩:=hq;obtain⟨vs,h1,h2⟩:=zbd.vals _ off (zbd.take cs off sz hc);refine zeM.same hm (v:=.agg vs.toArray) ?_ ⟨vs,rfl,h1⟩;simp[execOp,ho,Instr.loadAt,hp,Instr.sureAddr,zi7 hl (by rw[zav.length _ _ h1,List.length_take]; omega) h2]
 ·-- an own variable
  rename_i id off hcs;rw[hcs]at hx;split at hq
  case h_2=>cases hq
  rename_i cs hO;simp only[zaL]at hx;obtain⟨b,hη,hp⟩:=hx cs hO;obtain⟨b',cur,e,h1,h2,h3,h4⟩:=hm.obj id _ hO;rw[hη]at h1;simp only[Value.pointer.injEq,Option.some.injEq,Addr.mk.injEq,and_true]at h1;subst h1;have hlen:=zaN.length _ _ h4;cases ag
  ·simp only[Bool.false_eq_true,if_false,Option.some.injEq,Prod.mk.injEq]at hq;obtain⟨rfl,rfl,rfl⟩:=hq;obtain⟨v,h5,h6⟩:=zaN.get cs _ off _ h4 (List.head_of_drop cs off .dead hvc);refine zeM.same hm (v:=v) ?_ h6;have:=box_cells h3 off 0 v (by simpa using h5);simp[execOp,ho,Instr.loadAt,hp,Instr.sureAddr,zgG hl (ad:=⟨b,off,none⟩) (by simpa using this)]
  ·simp only[if_true,Option.some.injEq,Prod.mk.injEq]at hq;obtain⟨rfl,rfl,rfl⟩:=hq;have h5:=zaN.take _ _ sz (zaN.drop _ _ off h4);refine zeM.same hm (v:=.agg ((cur.toList.drop off).take sz).toArray) ?_ (ziw _ _ h5);have:=zi7 (P:=c.P) (W:=W) hl (b:=b) (off:=off) (vs:=(cur.toList.drop off).take sz) (by rw[List.length_take,List.length_drop,hlen]; omega)
    (fun j v hj=>box_cells h3 off j v (by rw[List.getElem?_take]at hj; split at hj <;> first | exact hj | cases hj))
   simp[execOp,ho,Instr.loadAt,hp,Instr.sureAddr,this]
 ·-- an own array's element
  rename_i id m i off hcs;rw[hcs]at hx;split at hq
  case h_3=>cases hq
  case h_2=>
   rename_i e k tys hs es hO;split at hq
   ·cases hq
   rename_i hag;split at hq
   case h_2=>cases hq
   rename_i y hy;simp only[Option.some.injEq,Prod.mk.injEq]at hq;obtain⟨rfl,rfl,rfl⟩:=hq;obtain⟨hm',hi,hk⟩:=hvc;simp only[zaL]at hx;obtain⟨g,len,cap,h1,h2⟩:=(hx _ _ _ _ hO).2 hm';obtain⟨r1,r2,r3⟩:=hm.obj id _ hO;rcases r3 with⟨_,r5,_⟩ | ⟨g',cap',cur,s1,r4,hh,a1,a2,a3,a4,a5⟩
   ·rw[r5]at hi; simp at hi
   rw[h1]at r4;simp only[Value.slice.injEq,Option.some.injEq,Addr.mk.injEq,and_true]at r4;obtain⟨rfl,rfl,rfl⟩:=r4;have hfl:i*k+off<es.flatten.length:=by
    have: ∀(es:List (List D)),(∀x∈es,x.length=k)->es.flatten.length=es.length*k:=by
     intro es
     induction es with
     | nil=>simp
     | cons e es ih=>intro h; rw[List.flatten_cons,List.length_append,ih (fun x hx=>h x (by simp[hx])),h e (by simp),List.length_cons,Nat.add_mul]; omega
    rw[this es r2];have:i*k+k<=es.length*k:=(by rw[<-Nat.succ_mul]; exact Nat.mul_le_mul_right k hi);omega
   obtain⟨v,h3,h4⟩:=zdA.get (j:=i*k+off) es.flatten 0 _ _ a5 hfl;rw[Nat.zero_add,hy]at h4;rw[List.getElem?_take]at h3;split at h3
   case isFalse=>cases h3
   refine zeM.same hm (v:=v) ?_ h4;have:W.cell? ⟨g,i*k+off,none⟩=some v:=by simp only[World.cell?,hh]; simpa using h3
   cases ag
   ·simp[execOp,ho,Instr.loadAt,h2,Instr.sureAddr,zgG hl this]
   ·simp at hag
  rename_i e k es hO;simp only[zaL]at hx;have hrel:=hm.obj id _ hO;have key: ∀(hm':m=es.length) (hi:i<es.length),∃g,a x= .pointer (some ⟨g,i*k+off,none⟩)/\(es.getD i []).length =k/\zbd W F ((es.getD i []).drop off) g (i*k+off):=by
   intro hm' hi;obtain⟨g,cap,h1,h2,h3⟩:=arr_elem hrel hi;obtain⟨g',len,cap',h4,h5⟩:=(hx _ _ _ _ hO).2 hm';rw[h1]at h4;simp only[Value.slice.injEq,Option.some.injEq,Addr.mk.injEq,and_true]at h4;obtain⟨rfl,_,_⟩:=h4;exact⟨g,h5,h2,zbd.drop _ _ off h3⟩
  cases ag
  ·simp only[Bool.false_eq_true,if_false,Option.some.injEq,Prod.mk.injEq]at hq;obtain⟨rfl,rfl,rfl⟩:=hq;obtain⟨g,hp,h2,h3⟩:=key hvc.1 hvc.2.1;obtain⟨v,h5,h6⟩:=zbd.get _ _ 0 _ h3 (List.head_zero _ default (by rw[List.length_drop]; omega));refine zeM.same hm (v:=v) ?_ h6;simp[execOp,ho,Instr.loadAt,hp,Instr.sureAddr,zgG hl (ad:=⟨g,i*k+off,none⟩) (by simpa using h5)]
  ·simp only[if_true,Option.some.injEq,Prod.mk.injEq]at hq;obtain⟨rfl,rfl,rfl⟩:=hq;obtain⟨g,hp,h2,h3⟩:=key hvc.1 hvc.2.1;obtain⟨vs,h5,h6⟩:=zbd.vals _ _ (zbd.take _ _ sz h3);refine zeM.same hm (v:=.agg vs.toArray) ?_ ⟨vs,rfl,h5⟩;simp[execOp,ho,Instr.loadAt,hp,Instr.sureAddr,zi7 hl (by rw[zav.length _ _ h5,List.length_take,List.length_drop]; omega) h6]
 ·cases hq
end
end Go.Aw
