/- Machinery. Conditions: those of each. -/
import Derived.Test.YtplfjjgkbnolhaaGreatDoorGQ
import Derived.Laws.Cells
set_option linter.unusedSimpArgs false
set_option linter.unusedVariables false
/-
 THE OPERATIONS THAT READ AND MAKE ARE WHAT 'qsem' SAYS: one law an operation.
 Conditions: those of 'qsem'; over any program.
-/
namespace Go.Aw
open Go.RowKit

section
variable {W:World} {F:Nat→Prop}
theorem RdCells.get{b:Nat}: ∀(cs:List D) (off j:Nat) (d:D),RdCells W F cs b off→cs[j]? =some d→ ∃v,W.cell? ⟨b,off+j,none⟩=some v∧Rd W F d v
 | [],_,_,_,_,h=>by simp at h
 | x::cs,off,0,d,hr,h=>by
  simp only[RdCells]at hr;simp only[List.getElem?_cons_zero,Option.some.injEq]at h;subst h;exact hr.1
 | x::cs,off,j+1,d,hr,h=>by
  simp only[RdCells]at hr;obtain⟨v,h1,h2⟩:=RdCells.get cs (off+1) j d hr.2 (by simpa using h);exact⟨v,by rw[show off+(j+1)=off+1+j by omega]; exact h1,h2⟩
theorem RdCells.drop{b:Nat}: ∀(cs:List D) (off o:Nat),RdCells W F cs b off→RdCells W F (cs.drop o) b (off+o)
 | cs,off,0,h=>by simpa using h
 | [],off,o+1,_=>by simp[RdCells]
 | x::cs,off,o+1,h=>by
  simp only[RdCells]at h;rw[List.drop_succ_cons,show off+(o+1)=off+1+o by omega];exact RdCells.drop cs (off+1) o h.2
theorem RdCells.vals{b:Nat}: ∀(cs:List D) (off:Nat),RdCells W F cs b off→ ∃vs:List Value,RdVals W F cs vs∧ ∀j v,vs[j]? =some v→W.cell? ⟨b,off+j,none⟩=some v
 | [],_,_=>⟨[],by simp only[RdVals],by simp⟩
 | x::cs,off,h=>by
  simp only[RdCells]at h;obtain⟨⟨v,h1,h2⟩,h3⟩:=h;obtain⟨vs,h4,h5⟩:=RdCells.vals cs (off+1) h3;refine⟨v::vs,by simp only[RdVals]; exact⟨v,vs,rfl,h2,h4⟩,?_⟩;intro j u hj;cases j with
  | zero=>simp only[List.getElem?_cons_zero,Option.some.injEq]at hj; subst hj; simpa using h1
  | succ j=>rw[show off+(j+1)=off+1+j by omega]; exact h5 j u (by simpa using hj)
theorem RdCells.take{b:Nat}(cs:List D)(off n:Nat)(h:RdCells W F cs b off):RdCells W F (cs.take n) b off:=by
 induction cs generalizing off n with
 | nil=>simp[RdCells]
 | cons x cs ih=>
  cases n with
  | zero=>simp[RdCells]
  | succ n=>
   simp only[RdCells,List.take_succ_cons]at h ⊢;exact⟨h.1,ih (off+1) n h.2⟩
theorem RdRows.get{b k:Nat}: ∀(es:List (List D)) (off i:Nat) (e:List D),RdRows W F k es b off→es[i]? =some e→e.length=k∧RdCells W F e b (off+i*k)
 | [],_,_,_,_,h=>by simp at h
 | x::es,off,0,e,hr,h=>by
  simp only[RdRows]at hr;simp only[List.getElem?_cons_zero,Option.some.injEq]at h;subst h;simpa using hr.1
 | x::es,off,i+1,e,hr,h=>by
  simp only[RdRows]at hr;obtain⟨h1,h2⟩:=RdRows.get es (off+k) i e hr.2 (by simpa using h);exact⟨h1,by rw[show off+(i+1)*k=off+k+i*k by rw[Nat.add_mul]; omega]; exact h2⟩
theorem RdVals.get{F':Nat→Prop}: ∀(ds:List D) (vs:List Value) (j:Nat) (d:D),RdVals W F' ds vs→ds[j]? =some d→ ∃v,vs[j]? =some v∧Rd W F' d v
 | [],_,_,_,_,h=>by simp at h
 | x::ds,vs,j,d,hr,h=>by
  simp only[RdVals]at hr;obtain⟨v,rest,rfl,h1,h2⟩:=hr;cases j with
  | zero=>simp only[List.getElem?_cons_zero,Option.some.injEq]at h; subst h; exact⟨v,rfl,h1⟩
  | succ j=>simpa using RdVals.get ds rest j d h2 (by simpa using h)
theorem RdVals.drop{F':Nat→Prop}: ∀(ds:List D) (vs:List Value) (o:Nat),RdVals W F' ds vs→RdVals W F' (ds.drop o) (vs.drop o)
 | ds,vs,0,h=>by simpa using h
 | [],vs,o+1,h=>by simp only[RdVals]at h; subst h; simp[RdVals]
 | x::ds,vs,o+1,h=>by
  simp only[RdVals]at h;obtain⟨v,rest,rfl,_,h2⟩:=h;simpa using RdVals.drop ds rest o h2
theorem RdVals.take{F':Nat→Prop}: ∀(ds:List D) (vs:List Value) (n:Nat),RdVals W F' ds vs→RdVals W F' (ds.take n) (vs.take n)
 | ds,vs,0,h=>by simp[RdVals]
 | [],vs,n+1,h=>by simp only[RdVals]at h; subst h; simp[RdVals]
 | x::ds,vs,n+1,h=>by
  simp only[RdVals]at h;obtain⟨v,rest,rfl,h1,h2⟩:=h;simp only[List.take_succ_cons,RdVals];exact⟨v,_,rfl,h1,RdVals.take ds rest n h2⟩
end

section
variable {O:Objs} {W:World} {F:Nat→Prop} {η:Nat→Value}
theorem RelVs.get: ∀(xs:List AV) (vs:List Value) (j:Nat) (x:AV),RelVs O W F η xs vs→xs[j]? =some x→ ∃v,vs[j]? =some v∧RelV O W F η x v
 | [],_,_,_,_,h=>by simp at h
 | y::xs,vs,j,x,hr,h=>by
  simp only[RelVs]at hr;obtain⟨v,rest,rfl,h1,h2⟩:=hr;cases j with
  | zero=>simp only[List.getElem?_cons_zero,Option.some.injEq]at h; subst h; exact⟨v,rfl,h1⟩
  | succ j=>simpa using RelVs.get xs rest j x h2 (by simpa using h)
theorem RelVs.length: ∀(xs:List AV) (vs:List Value),RelVs O W F η xs vs→vs.length=xs.length
 | [],vs,h=>by simp only[RelVs]at h; simp[h]
 | x::xs,vs,h=>by
  simp only[RelVs]at h;obtain⟨v,rest,rfl,_,h2⟩:=h;simp[RelVs.length xs rest h2]
theorem RelVs.drop: ∀(xs:List AV) (vs:List Value) (o:Nat),RelVs O W F η xs vs→RelVs O W F η (xs.drop o) (vs.drop o)
 | xs,vs,0,h=>by simpa using h
 | [],vs,o+1,h=>by simp only[RelVs]at h; subst h; simp[RelVs]
 | x::xs,vs,o+1,h=>by
  simp only[RelVs]at h;obtain⟨v,rest,rfl,_,h2⟩:=h;simpa using RelVs.drop xs rest o h2
theorem RelVs.take: ∀(xs:List AV) (vs:List Value) (n:Nat),RelVs O W F η xs vs→RelVs O W F η (xs.take n) (vs.take n)
 | xs,vs,0,h=>by simp[RelVs]
 | [],vs,n+1,h=>by simp only[RelVs]at h; subst h; simp[RelVs]
 | x::xs,vs,n+1,h=>by
  simp only[RelVs]at h;obtain⟨v,rest,rfl,h1,h2⟩:=h;simp only[List.take_succ_cons,RelVs];exact⟨v,_,rfl,h1,RelVs.take xs rest n h2⟩
theorem RelVs.append: ∀(a b:List AV) (vs:List Value),RelVs O W F η (a++b) vs↔ ∃x y,vs=x++y∧RelVs O W F η a x∧RelVs O W F η b y
 | [],b,vs=>by
  simp only[List.nil_append,RelVs];exact⟨fun h=>⟨[],vs,rfl,rfl,h⟩,fun⟨x,y,h1,h2,h3⟩=>by subst h2; subst h1; exact h3⟩
 | d::a,b,vs=>by
  simp only[List.cons_append,RelVs,RelVs.append a b];constructor
  ·rintro⟨v,rest,rfl,h1,x,y,rfl,h2,h3⟩;exact⟨v::x,y,rfl,⟨v,x,rfl,h1,h2⟩,h3⟩
  ·rintro⟨x,y,rfl,⟨v,x',rfl,h1,h2⟩,h3⟩;exact⟨v,x'++y,rfl,h1,x',y,rfl,h2,h3⟩
theorem RelVs.of_ds: ∀(ds:List D) (vs:List Value),RelVs O W F η (ds.map .d) vs↔RdVals W F ds vs
 | [],vs=>by simp only[List.map_nil,RelVs,RdVals]
 | d::ds,vs=>by simp only[List.map_cons,RelVs,RdVals,RelV,RelVs.of_ds ds]
theorem allD_some: ∀(cs:List AV) (ds:List D),allD cs=some ds→cs=ds.map .d
 | [],ds,h=>by simp only[allD,Option.some.injEq]at h; subst h; rfl
 | .d x::r,ds,h=>by
  simp only[allD,Option.map_eq_some_iff]at h;obtain⟨y,h1,rfl⟩:=h;rw[allD_some r y h1]; rfl
 | .dead ::_,_,h | .und ::_,_,h | .nils ::_,_,h | .emp ::_,_,h | .ar .. ::_,_,h | .ep .. ::_,_,h | .bp .. ::_,_,h | .mo _::_,_,h | .agg _::_,_,h | .clo .. ::_,_,h | .tup _::_,_,h=>by simp[allD]at h
theorem relV_mkAgg(cs:List AV)(vs:List Value)(h:RelVs O W F η cs vs):RelV O W F η (mkAgg cs) (.agg vs.toArray):=by
 unfold mkAgg;split
 ·rename_i ds hd;rw[allD_some cs ds hd,RelVs.of_ds]at h;simp only[RelV,Rd];exact⟨vs,rfl,h⟩
 ·simp only[RelV];exact⟨vs,rfl,h⟩
theorem relV_cellAV(v:Value):RelV O W F η (cellAV v) v:=by
 unfold cellAV;split <;> simp[RelV,Rd]
theorem relVs_cellAV: ∀vs:List Value,RelVs O W F η (vs.map cellAV) vs
 | []=>by simp only[List.map_nil,RelVs]
 | v::vs=>by simp only[List.map_cons,RelVs]; exact⟨v,vs,rfl,relV_cellAV v,relVs_cellAV vs⟩
theorem relV_constAV(v:Value):RelV O W F η (constAV v) v:=by
 unfold constAV;split
 ·rename_i cs;have:=relV_mkAgg (O:=O) (W:=W) (F:=F) (η:=η) _ _ (relVs_cellAV cs.toList);simpa using this
 ·simp[RelV]
 ·simp[RelV]
 ·simp[RelV,Rd]
theorem relV_ev{tmps:Nat→AV}{a:Act}(h: ∀t,RelV O W F η (tmps t) (a.tmps.getD t undef))(x:Operand):RelV O W F η (St.ev tmps x) (a.eval x):=by
 cases x with
 | tmp t=>exact h t
 | const v=>exact relV_constAV v
 | global g=>simp[St.ev,Act.eval,RelV,Rd]
 | func f=>simp only[St.ev,Act.eval,RelV,Rd,RdVals]; exact⟨[],[],rfl,rfl,rfl⟩
end

theorem lay_some{P:Program}{t:TypeId}{ag:Bool}{n:Nat}(h:lay P t=some (ag,n)):
  ∃d i,P.underlying t=some d∧P.info? t=some i∧i.size=n∧ ∀w,(isAgg t).run P w= .ok ag w:=by
 unfold lay at h;split at h
 ·rename_i d i fs h1 h2;simp only[Option.some.injEq,Prod.mk.injEq]at h;exact⟨_,_,h1,h2,h.2,fun w=>by simp[isAgg,run_underlying h1,h.1]⟩
 ·rename_i d i fs h1 h2;simp only[Option.some.injEq,Prod.mk.injEq]at h;exact⟨_,_,h1,h2,h.2,fun w=>by simp[isAgg,run_underlying h1,h.1]⟩
 ·rename_i d i hd hn h1 h2;simp only[Option.some.injEq,Prod.mk.injEq]at h;refine⟨_,_,h1,h2,h.2,fun w=> ?_⟩;simp only[isAgg,Sem.run_bind,run_underlying h1,Result.andThen_ok];simp[h.1]
 ·cases h

def addO(O:Objs)(dst:Nat)(n:Option AO):Objs:=match n with | none=>O | some o=>upd O dst (some o)
def newOf(dst:Nat)(n:Option AO):List Nat:=match n with | none=>[] | some _=>[dst]
def QRes(c:Ctx)(O:Objs)(W:World)(F:Nat→Prop)(η:Nat→Value)(dst:Nat)(r:Result Next)(V:AV)(n:Option AO):Prop:=
 ∃v W' F' η' S',r= .ok (.value v) W'∧Mem c (addO O dst n) W' F' η' S'∧Keeps O (addO O dst n) η η' (newOf dst n)∧(∀b,F b→F' b∧W'.heap[b]? =W.heap[b]?)∧
  RelV (addO O dst n) W' F' η' V v∧(n=none→W'=W∧F'=F∧η'=η)

section
variable {c:Ctx} {O:Objs} {W:World} {F:Nat→Prop} {η:Nat→Value} {S:Nat→List Nat} {dst:Nat} {ρ:Operand→AV} {a:Operand→Value} {o:Oper} {vc:Prop} {V:AV} {n:Option AO}
theorem QRes.same{r:Result Next}{v:Value}(hm:Mem c O W F η S)(hr:r= .ok (.value v) W)(hv:RelV O W F η V v):QRes c O W F η dst r V none:=
 ⟨v,W,F,η,S,hr,hm,Keeps.refl O η,fun _ h=>⟨h,rfl⟩,hv,fun _=>⟨rfl,rfl,rfl⟩⟩

theorem q_move(hm:Mem c O W F η S)(hρ: ∀x,RelV O W F η (ρ x) (a x))(x:Operand)(ho:o.op= .move x∨o.op= .assign x):QRes c O W F η dst ((execOp a o).run c.P W) (ρ x) none:=by
 refine QRes.same hm (v:=a x) ?_ (hρ x);rcases ho with ho | ho <;> simp[execOp,ho]

theorem q_pick(hm:Mem c O W F η S)(hρ: ∀x,RelV O W F η (ρ x) (a x))(x y z:Operand)(ho:o.op= .pick x y z)(hq:qsem c.P dst ρ O (.pick x y z)=some (vc,V,n)):
  QRes c O W F η dst ((execOp a o).run c.P W) V n:=by
 simp only[qsem]at hq;split at hq
 ·rename_i t ht;simp only[Option.some.injEq,Prod.mk.injEq]at hq;obtain⟨_,rfl,rfl⟩:=hq;have h1:=hρ x;rw[ht]at h1;simp only[RelV,Rd]at h1;cases t
  ·refine QRes.same hm (v:=a z) ?_ (hρ z);simp[execOp,ho,h1,asBool]
  ·refine QRes.same hm (v:=a y) ?_ (hρ y);simp[execOp,ho,h1,asBool]
 ·cases hq

theorem run_loadVar_one{P:Program}{W:World}{t:TypeId}{n:Nat}(hl:lay P t=some (false,n)){ad:Addr}{v:Value}(h:W.cell? ad=some v):(loadVar t ad).run P W= .ok v W:=by
 obtain⟨d,i,h1,h2,h3,h4⟩:=lay_some hl;simp[loadVar,h4,h]
theorem run_loadVar_agg{P:Program}{W:World}{t:TypeId}{n:Nat}(hl:lay P t=some (true,n)){b off:Nat}{vs:List Value}(hn:vs.length=n)(h: ∀j v,vs[j]? =some v→W.cell? ⟨b,off+j,none⟩=some v):
  (loadVar t ⟨b,off,none⟩).run P W= .ok (.agg vs.toArray) W:=by
 obtain⟨d,i,h1,h2,h3,h4⟩:=lay_some hl;have h5:=run_loadCells_list (P:=P) W ⟨b,off,none⟩ vs (fun j v hj=>by rw[Addr.add_lit]; exact h j v hj);simp[loadVar,h4,sizeOf,typeInfo,h2,h3,←hn,h5]

theorem List.head_of_drop{α:Type}(l:List α)(o:Nat)(x:α)(h:o<l.length):l[o]? =some ((l.drop o).headD x):=by
 have:(l.drop o)[0]? =l[o]? :=by simp
 rw[←this];cases hd:l.drop o with
 | nil=>have:=congrArg List.length hd; simp at this; omega
 | cons y r=>simp

theorem List.head_zero{α:Type}(l:List α)(x:α)(h:0<l.length):l[0]? =some (l.headD x):=by
 cases l with
 | nil=>simp at h
 | cons y r=>simp

theorem box_cells{b:Nat}{cur:Array Value}{e:TypeId}(h:W.heap[b]? =some (.cells cur e (0,0)))(off:Nat): ∀j v,(cur.toList.drop off)[j]? =some v→W.cell? ⟨b,off+j,none⟩=some v:=by
 intro j v hj;simp only[World.cell?,h];simpa using hj

theorem arr_elem{e:TypeId}{k:Nat}{es:List (List D)}{v:Value}{s:List Nat}(h:OwnSl W (OwnVals (Own W F [])) e k es v s){i:Nat}(hi:i<es.length):
  ∃g cap,v= .slice (some ⟨g,0,none⟩) es.length cap∧(es.getD i []).length =k∧RdCells W F (es.getD i []) g (i*k):=by
 obtain⟨h1,h2,h3⟩:=h;rcases h3 with⟨_,rfl,_⟩ | ⟨g,cap,cur,s1,rfl,hh,a1,a2,a3,rfl,a5⟩
 ·simp at hi
 ·have hr:=RdRows.of_vals (W:=W) (b:=g) F es (cur.toList.take (es.length*k)) 0 h2 (fun j v hj=>by
    rw[List.getElem?_take]at hj;split at hj
    ·simp only[World.cell?,hh,Nat.zero_add]; simpa using hj
    ·cases hj) (OwnVals.rd _ _ _ (fun x v s' _ hx=>hx.1) a5)
  obtain⟨h4,h5⟩:=RdRows.get es 0 i (es.getD i []) hr (by simp[List.getD,List.getElem?_eq_getElem hi]);exact⟨g,cap,rfl,h4,by simpa using h5⟩

theorem OwnHs.get{tys:List (TypeId×Nat)}{hs:List (Nat×AV)}: ∀(ds:List D) (i:Nat) (vs:List Value) (s:List Nat) {j:Nat},OwnHs O W F η tys hs i ds vs s→j<ds.length→
  ∃v,vs[j]? =some v∧(match hs.lookup (i+j)with | some x=>RelV O W F η x v | none=>True)
 | [],_,_,_,_,_,h=>by simp at h
 | d::ds,i,vs,s,j,h,hj=>by
  simp only[OwnHs]at h;obtain⟨v,rest,s1,s2,rfl,_,h3,h4⟩:=h;cases j with
  | zero=>
   refine⟨v,rfl,?_⟩;rw[Nat.add_zero];cases hl:hs.lookup i with
   | none=>trivial
   | some x=>rw[hl]at h3; exact h3.1
  | succ j=>
   obtain⟨u,h5,h6⟩:=OwnHs.get ds (i+1) rest s2 h4 (by simpa using hj);exact⟨u,by simpa using h5,by rw[show i+(j+1)=i+1+j by omega]; exact h6⟩

theorem q_load(hm:Mem c O W F η S)(hρ: ∀x,RelV O W F η (ρ x) (a x))(t:TypeId)(x:Operand)(ho:o.op= .load t x)(hq:qsem c.P dst ρ O (.load t x)=some (vc,V,n))(hvc:vc):
  QRes c O W F η dst ((execOp a o).run c.P W) V n:=by
 simp only[qsem]at hq;split at hq
 case h_2=>cases hq
 rename_i ag sz hl;have hx:=hρ x;split at hq
 ·-- a pointer to plain cells
  rename_i cs hcs;rw[hcs]at hx;simp only[RelV,Rd]at hx;obtain⟨b,off,hp,hF,hc⟩:=hx;cases ag
  ·simp only[Bool.false_eq_true,if_false,Option.some.injEq,Prod.mk.injEq]at hq;obtain⟨rfl,rfl,rfl⟩:=hq;obtain⟨v,h1,h2⟩:=RdCells.get cs off 0 _ hc (List.head_zero cs default (by omega));refine QRes.same hm (v:=v) ?_ h2;simp[execOp,ho,Instr.loadAt,hp,Instr.sureAddr,run_loadVar_one hl (ad:=⟨b,off,none⟩) (by simpa using h1)]
  ·simp only[if_true,Option.some.injEq,Prod.mk.injEq]at hq;obtain⟨rfl,rfl,rfl⟩:=hq;obtain⟨vs,h1,h2⟩:=RdCells.vals _ off (RdCells.take cs off sz hc);refine QRes.same hm (v:=.agg vs.toArray) ?_ ⟨vs,rfl,h1⟩;simp[execOp,ho,Instr.loadAt,hp,Instr.sureAddr,run_loadVar_agg hl (by rw[RdVals.length _ _ h1,List.length_take]; omega) h2]
 ·-- an own variable
  rename_i id off hcs;rw[hcs]at hx;split at hq
  case h_2=>cases hq
  rename_i cs hO;simp only[RelV]at hx;obtain⟨b,hη,hp⟩:=hx cs hO;obtain⟨b',cur,e,h1,h2,h3,h4⟩:=hm.obj id _ hO;rw[hη]at h1;simp only[Value.pointer.injEq,Option.some.injEq,Addr.mk.injEq,and_true]at h1;subst h1;have hlen:=RelVs.length _ _ h4;cases ag
  ·simp only[Bool.false_eq_true,if_false,Option.some.injEq,Prod.mk.injEq]at hq;obtain⟨rfl,rfl,rfl⟩:=hq;obtain⟨v,h5,h6⟩:=RelVs.get cs _ off _ h4 (List.head_of_drop cs off .dead hvc);refine QRes.same hm (v:=v) ?_ h6;have:=box_cells h3 off 0 v (by simpa using h5);simp[execOp,ho,Instr.loadAt,hp,Instr.sureAddr,run_loadVar_one hl (ad:=⟨b,off,none⟩) (by simpa using this)]
  ·simp only[if_true,Option.some.injEq,Prod.mk.injEq]at hq;obtain⟨rfl,rfl,rfl⟩:=hq;have h5:=RelVs.take _ _ sz (RelVs.drop _ _ off h4);refine QRes.same hm (v:=.agg ((cur.toList.drop off).take sz).toArray) ?_ (relV_mkAgg _ _ h5);have:=run_loadVar_agg (P:=c.P) (W:=W) hl (b:=b) (off:=off) (vs:=(cur.toList.drop off).take sz) (by rw[List.length_take,List.length_drop,hlen]; omega)
    (fun j v hj=>box_cells h3 off j v (by rw[List.getElem?_take]at hj; split at hj <;> first | exact hj | cases hj))
   simp[execOp,ho,Instr.loadAt,hp,Instr.sureAddr,this]
 ·-- an own array's element
  rename_i id m i off hcs;rw[hcs]at hx;split at hq
  case h_3=>cases hq
  case h_2=>
   rename_i e k tys hs es hO;split at hq
   ·cases hq
   rename_i hag;split at hq
   case h_2=>cases hq
   rename_i y hy;simp only[Option.some.injEq,Prod.mk.injEq]at hq;obtain⟨rfl,rfl,rfl⟩:=hq;obtain⟨hm',hi,hk⟩:=hvc;simp only[RelV]at hx;obtain⟨g,len,cap,h1,h2⟩:=(hx _ _ _ _ hO).2 hm';obtain⟨r1,r2,r3⟩:=hm.obj id _ hO;rcases r3 with⟨_,r5,_⟩ | ⟨g',cap',cur,s1,r4,hh,a1,a2,a3,a4,a5⟩
   ·rw[r5]at hi; simp at hi
   rw[h1]at r4;simp only[Value.slice.injEq,Option.some.injEq,Addr.mk.injEq,and_true]at r4;obtain⟨rfl,rfl,rfl⟩:=r4;have hfl:i*k+off<es.flatten.length:=by
    have: ∀(es:List (List D)),(∀x∈es,x.length=k)→es.flatten.length=es.length*k:=by
     intro es
     induction es with
     | nil=>simp
     | cons e es ih=>intro h; rw[List.flatten_cons,List.length_append,ih (fun x hx=>h x (by simp[hx])),h e (by simp),List.length_cons,Nat.add_mul]; omega
    rw[this es r2];have:i*k+k≤es.length*k:=(by rw[←Nat.succ_mul]; exact Nat.mul_le_mul_right k hi);omega
   obtain⟨v,h3,h4⟩:=OwnHs.get (j:=i*k+off) es.flatten 0 _ _ a5 hfl;rw[Nat.zero_add,hy]at h4;rw[List.getElem?_take]at h3;split at h3
   case isFalse=>cases h3
   refine QRes.same hm (v:=v) ?_ h4;have:W.cell? ⟨g,i*k+off,none⟩=some v:=by simp only[World.cell?,hh]; simpa using h3
   cases ag
   ·simp[execOp,ho,Instr.loadAt,h2,Instr.sureAddr,run_loadVar_one hl this]
   ·simp at hag
  rename_i e k es hO;simp only[RelV]at hx;have hrel:=hm.obj id _ hO;have key: ∀(hm':m=es.length) (hi:i<es.length),∃g,a x= .pointer (some ⟨g,i*k+off,none⟩)∧(es.getD i []).length =k∧RdCells W F ((es.getD i []).drop off) g (i*k+off):=by
   intro hm' hi;obtain⟨g,cap,h1,h2,h3⟩:=arr_elem hrel hi;obtain⟨g',len,cap',h4,h5⟩:=(hx _ _ _ _ hO).2 hm';rw[h1]at h4;simp only[Value.slice.injEq,Option.some.injEq,Addr.mk.injEq,and_true]at h4;obtain⟨rfl,_,_⟩:=h4;exact⟨g,h5,h2,RdCells.drop _ _ off h3⟩
  cases ag
  ·simp only[Bool.false_eq_true,if_false,Option.some.injEq,Prod.mk.injEq]at hq;obtain⟨rfl,rfl,rfl⟩:=hq;obtain⟨g,hp,h2,h3⟩:=key hvc.1 hvc.2.1;obtain⟨v,h5,h6⟩:=RdCells.get _ _ 0 _ h3 (List.head_zero _ default (by rw[List.length_drop]; omega));refine QRes.same hm (v:=v) ?_ h6;simp[execOp,ho,Instr.loadAt,hp,Instr.sureAddr,run_loadVar_one hl (ad:=⟨g,i*k+off,none⟩) (by simpa using h5)]
  ·simp only[if_true,Option.some.injEq,Prod.mk.injEq]at hq;obtain⟨rfl,rfl,rfl⟩:=hq;obtain⟨g,hp,h2,h3⟩:=key hvc.1 hvc.2.1;obtain⟨vs,h5,h6⟩:=RdCells.vals _ _ (RdCells.take _ _ sz h3);refine QRes.same hm (v:=.agg vs.toArray) ?_ ⟨vs,rfl,h5⟩;simp[execOp,ho,Instr.loadAt,hp,Instr.sureAddr,run_loadVar_agg hl (by rw[RdVals.length _ _ h5,List.length_take,List.length_drop]; omega) h6]
 ·cases hq
end
end Go.Aw
