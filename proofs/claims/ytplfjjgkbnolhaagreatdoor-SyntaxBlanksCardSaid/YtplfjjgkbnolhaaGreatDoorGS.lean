/- Machinery. Conditions: those of each. -/
import Derived.Test.YtplfjjgkbnolhaaGreatDoorGD
set_option linter.unusedSimpArgs false
set_option linter.unusedVariables false
/-
 ABSTRACT STATES: what a frame's temporaries and the call's own objects (variables, arrays, maps) stand for, and how this reads in a concrete frame and world.
 Conditions: none; definitions and laws over any program.
-/
namespace Go.Aw
open Go.RowKit

inductive AV where
 | dead
 | und
 | d (x:D)
 | nils
 | emp
 | ar (id n:Nat)
 | ep (id n i off:Nat)
 | sub (id n lo hi:Nat)
 | bp (id off:Nat)
 | mo (id:Nat)
 | yv (id:Nat)
 | agg (cs:List AV)
 | clo (f:Fn) (first cap:List AV)
 | tup (vs:List AV)
 deriving Inhabited

structure ExtC (W W':World) (F F':Nat->Prop) (s:List Nat) (lim:Nat):Prop where
 os:W'.os=W.os
 tape:W'.tape=W.tape
 output:W'.output=W.output
 size:W.heap.size<=W'.heap.size
 frz: ∀b,F b->F' b/\W'.heap[b]? =W.heap[b]?
 same: ∀b∈s,W'.heap[b]? =W.heap[b]?
 apart: ∀b∈s,¬F' b
 flt: ∀b,F' b->b<W'.heap.size
 low: ∀b,b<lim->W'.heap[b]? =W.heap[b]?
 lim: ∀b,F' b->b<lim->F b
structure XJ (lim:Nat) where
 J:World->(Nat->Prop)->List Nat->Prop
 st: ∀W W' F F' s,J W F s->ExtC W W' F F' s lim->J W' F' s

inductive Dep where
 | flat
 | deep (tys:List (TypeId×Nat)) (hs:List (Nat×AV))
 deriving Inhabited
inductive AO where
 | box (cs:List AV)
 | arr (e:TypeId) (k:Nat) (dep:Dep) (es:List (List D))
 | map (ks vs:List D) (bs:List Nat) (clock:Nat)
 | it (ks vs:List D) (bs:List Nat) (clock:Nat) (seen:List Nat)
 | ext (lim:Nat) (fam:List (List D)->XJ lim) (stop:XJ lim) (l:Nat) (rest:List (List D))
 | gh (cs:List AV) (vs:List Value)
 | sit (s:ByteArray) (pos:Nat)
 deriving Inhabited

abbrev zbI:=Nat->Option AO
def AO.isH:AO->Bool
 | .map .. | .it .. | .sit .. =>true
 | _=>false

mutual
def zaL(O:zbI)(W:World)(F:Nat->Prop)(η:Nat->Value):AV->Value->Prop
 | .dead,_=>True
 | .und,v=>v=undef
 | .d x,v=>Rd W F x v
 | .nils,v=>v= .slice none 0 0
 | .emp,v=> ∃b,v= .slice (some ⟨b,0,none⟩) 0 0
 | .ar id n,v=> ∀e k dep es,O id=some (.arr e k dep es)->n<=es.length/\(n=es.length->v=η id)
 | .ep id n i off,v=> ∀e k dep es,O id=some (.arr e k dep es)->n<=es.length/\(n=es.length-> ∃g len cap,η id= .slice (some ⟨g,0,none⟩) len cap/\v= .pointer (some ⟨g,i*k+off,none⟩))
 | .sub id n lo hi,v=> ∀e k dep es,O id=some (.arr e k dep es)->n<=es.length/\(n=es.length-> ∃g len cap,η id= .slice (some ⟨g,0,none⟩) len cap/\v= .slice (if cap=lo then some ⟨g,0,none⟩else some ⟨g,lo*k,none⟩) (hi-lo) (cap-lo))
 | .bp id off,v=> ∀cs,O id=some (.box cs)-> ∃b,η id= .pointer (some ⟨b,0,none⟩)/\v= .pointer (some ⟨b,off,none⟩)
 | .mo id,v=> ∀o,O id=some o->o.isH=true->v=η id
 | .yv id,v=> ∀lim fam stop l rest,O id=some (.ext lim fam stop l rest)->v= .func (.yield l) #[] #[]
 | .agg cs,v=> ∃vs:List Value,v= .agg vs.toArray/\zaN O W F η cs vs
 | .clo f fs cs,v=> ∃a b:List Value,v= .func f a.toArray b.toArray/\zaN O W F η fs a/\zaN O W F η cs b
 | .tup cs,v=> ∃vs:List Value,v= .tuple vs.toArray/\zaN O W F η cs vs
def zaN(O:zbI)(W:World)(F:Nat->Prop)(η:Nat->Value):List AV->List Value->Prop
 | [],vs=>vs=[]
 | x::xs,vs=> ∃v rest,vs=v::rest/\zaL O W F η x v/\zaN O W F η xs rest
end

mutual
def AV.noRef(l:List Nat):AV->Prop
 | .dead | .und | .d _ | .nils | .emp =>True
 | .ar id _ | .ep id _ _ _ | .sub id _ _ _ | .bp id _ | .mo id | .yv id=>id∉l
 | .agg cs | .tup cs=>AV.noRefs l cs
 | .clo _ fs cs=>AV.noRefs l fs/\AV.noRefs l cs
def AV.noRefs(l:List Nat):List AV->Prop
 | []=>True
 | x::xs=>AV.noRef l x/\AV.noRefs l xs
end
def AO.noRef(l:List Nat):AO->Prop
 | .box cs=>AV.noRefs l cs
 | .gh cs _=>AV.noRefs l cs
 | .arr _ _ (.deep _ hs) _=>AV.noRefs l (hs.map (·.2))
 | _=>True

def OwnVals(R:D->Value->List Nat->Prop):List D->List Value->List Nat->Prop
 | [],vs,s=>vs=[]/\s=[]
 | d::ds,vs,s=> ∃v rest s1 s2,vs=v::rest/\s=s1++s2/\R d v s1/\OwnVals R ds rest s2

def zfv(W:World)(C:List D->List Value->List Nat->Prop)(e:TypeId)(k:Nat)(es:List (List D))(v:Value)(s:List Nat):Prop:=
 es.length<=maxLen/\(∀x∈es,x.length=k)/\
 (((∃ad,v= .slice ad 0 0)/\es=[]/\s=[])\/
  ∃g cap cur s1,v= .slice (some ⟨g,0,none⟩) es.length cap/\W.heap[g]? =some (.cells cur e (0,0))/\es.length<=cap/\cap<=maxLen/\cur.size=cap*k/\s=g::s1/\
   C es.flatten (cur.toList.take (es.length*k)) s1)

def Own(W:World)(F:Nat->Prop):List (TypeId×Nat)->D->Value->List Nat->Prop
 | [],x,v,s=>Rd W F x v/\s=[]
 | (e,k)::r,.sl es,v,s=>zfv W (OwnVals (Own W F r)) e k es v s
 | _::_,x,v,s=>Rd W F x v/\s=[]

def zdA(O:zbI)(W:World)(F:Nat->Prop)(η:Nat->Value)(tys:List (TypeId×Nat))(hs:List (Nat×AV)):Nat->List D->List Value->List Nat->Prop
 | _,[],vs,s=>vs=[]/\s=[]
 | i,d::ds,vs,s=> ∃v rest s1 s2,vs=v::rest/\s=s1++s2/\(match hs.lookup i with
   | some x=>zaL O W F η x v/\s1=[]
   | none=>Own W F tys d v s1)/\zdA O W F η tys hs (i+1) ds rest s2

def zFQ(W:World)(F:Nat->Prop)(vs:List Value):Prop:= ∀b cells,Value.tuple #[.pointer (some ⟨b,0,none⟩),.agg cells]∈vs->F b/\ ∃e z,W.heap[b]? =some (.cells cells e z)
theorem zFQ.mono{W W':World}{F F':Nat->Prop}{vs:List Value}(hF: ∀b,F b->F' b/\W'.heap[b]? =W.heap[b]?)(h:zFQ W F vs):zFQ W' F' vs:=fun b cells hm=>by
 obtain⟨h1,e,z,h2⟩:=h b cells hm;exact⟨(hF b h1).1,e,z,by rw[(hF b h1).2]; exact h2⟩
def zwv(W:World)(F:Nat->Prop)(b:Nat)(ks vs:List D)(bs:List Nat)(clock:Nat):Prop:=
 ∃es,W.heap[b]? =some (.map es clock)/\zav W F ks (es.toList.map (·.key))/\zav W F vs (es.toList.map (·.val))/\bs=es.toList.map (·.born)/\zxd ks bs clock

def zj1(O:zbI)(W:World)(F:Nat->Prop)(η:Nat->Value)(v:Value)(s:List Nat):AO->Prop
 | .box cs=> ∃b cur e,v= .pointer (some ⟨b,0,none⟩)/\s=[b]/\W.heap[b]? =some (.cells cur e (0,0))/\zaN O W F η cs cur.toList
 | .arr e k .flat es=>zfv W (OwnVals (Own W F [])) e k es v s
 | .arr e k (.deep tys hs) es=>zfv W (zdA O W F η tys hs 0) e k es v s
 | .map ks vs bs clock=> ∃b,v= .map (some b)/\s=[b]/\zwv W F b ks vs bs clock
 | .it ks vs bs clock seen=> ∃r b,v= .pointer (some ⟨r,0,none⟩)/\s=[r]/\W.heap[r]? =some (.mapIter (some b) clock (seen.map (bs.getD · 0)).toArray clock)/\F b/\zwv W F b ks vs bs clock/\ ∀j∈seen,j<bs.length
 | .ext _ fam _ _ rest=>(fam rest).J W F s
 | .gh cs vs=>(s=[]/\zFQ W F vs)/\zaN O W F η cs vs
 | .sit b pos=> ∃r,v= .pointer (some ⟨r,0,none⟩)/\s=[r]/\W.heap[r]? =some (.stringIter b pos)

structure NP where
 n:Nat
 pins:List Nat
 top:Bool
 own:List (Nat×List (TypeId×Nat))
 px:Value->List (Nat×AO)->Prop
structure Ctx where
 P:Program
 N:NP
 W0:World
 F0:Nat->Prop
 O0:Nat->Prop
 Z:List (Nat×Obj)
 ds:List Nat
 pv:Nat->Value
 dl:List Deferred

structure Mem (c:Ctx) (O:zbI) (W:World) (F:Nat->Prop) (η:Nat->Value) (S:Nat->List Nat):Prop where
 os:W.os=c.W0.os
 tape:W.tape=c.W0.tape
 output:W.output=c.W0.output
 size:c.W0.heap.size<=W.heap.size
 old: ∀b,b<c.W0.heap.size-> ¬c.O0 b->W.heap[b]? =c.W0.heap[b]?
 f0: ∀b,c.F0 b->F b
 flt: ∀b,F b->b<W.heap.size
 fold: ∀b,F b->b<c.W0.heap.size->c.F0 b\/c.O0 b
 obj: ∀id o,O id=some o->zj1 O W F η (η id) (S id) o
 gone: ∀id,O id=none->S id=[]
 apart: ∀id b,b∈S id-> ¬F b/\b<W.heap.size/\(b<c.W0.heap.size->c.O0 b)
 sep: ∀id id' b,b∈S id->b∈S id'->id=id'
 nd: ∀id,(S id).Nodup
 hid: ∀p∈c.Z,W.heap[p.1]? =some p.2/\ ¬F p.1/\(∀id,p.1∉S id)/\c.W0.heap.size<=p.1
 lim: ∀id lim fam stop l rest,O id=some (.ext lim fam stop l rest)->lim<=c.W0.heap.size/\ ∀id' b,b∈S id'->id'≠id->lim<=b
 zd: ∀D∈c.ds,(D,Obj.deferred (some []))∈c.Z

structure St where
 tmps:Nat->AV
 objs:zbI

structure Rel (c:Ctx) (σ:St) (a:Act) (W:World):Prop where
 size:a.tmps.size=c.N.n/\ ∀t∈c.N.pins,a.tmps.getD t undef=c.pv t
 defers:a.defers=(c.ds.map fun D=>{target:=.collected D,args:=#[]})++c.dl
 mem: ∃F η S,Mem c σ.objs W F η S/\ ∀t,zaL σ.objs W F η (σ.tmps t) (a.tmps.getD t undef)

def tm:List (Nat×AV)->Nat->AV
 | [],_=>.dead
 | (i,x)::r,t=>if t=i then x else tm r t
def om:List (Nat×AO)->zbI
 | [],_=>none
 | (i,x)::r,t=>if t=i then some x else om r t
def pxS(N:NP)(v:Value)(O:zbI):Prop:= ∃o,O=om o/\N.px v o
def litV:D->Option Value
 | .ifc t (.lit l)=>(match l with | .int k n=>some (.iface t (.int k n)) | _=>none)
 | _=>none
def pncE(ρ:Operand->AV):Op->Option Value
 | .panic x=>match ρ x with | .d d=>litV d | _=>none
 | _=>none

def upd{α:Type}(f:Nat->α)(i:Nat)(x:α):Nat->α:=fun j=>if j=i then x else f j

def za7(O O':zbI)(η η':Nat->Value)(new:List Nat):Prop:=
 ∀id o',O' id=some o'->id∈new\/ ∃o,O id=some o/\
  match o,o' with
  | .box _,.box _=>η' id=η id
  | .map ..,.map .. =>η' id=η id
  | .it ..,.it .. =>η' id=η id
  | .ext lim _ _ l _,.ext lim' _ _ l' _=>lim=lim'/\l=l'
  | .gh ..,.gh .. =>True
  | .sit ..,.sit .. =>η' id=η id
  | .arr e k _ es,.arr e' k' _ es'=>es.length<=es'.length/\(es.length=es'.length->e=e'/\k=k'/\η' id=η id)
  | _,_=>False

section
variable {O O':zbI} {W W':World} {F F':Nat->Prop} {η η':Nat->Value} {new:List Nat}
mutual
theorem zaL.pres(hk:za7 O O' η η' new)(hF: ∀b,F b->F' b/\W'.heap[b]? =W.heap[b]?): ∀(x:AV) (v:Value),x.noRef new->zaL O W F η x v->zaL O' W' F' η' x v
 | .dead,_,_,_=>by simp only[zaL]
 | .und,_,_,h=>h
 | .d x,v,_,h=>Rd.mono hF x v h
 | .nils,_,_,h=>h
 | .emp,_,_,h=>h
 | .ar id n,v,hn,h=>by
  simp only[zaL,AV.noRef]at*;intro e k dep es ho;rcases hk id _ ho with h1 | ⟨o,h1,h2⟩
  ·exact absurd h1 hn
  ·cases o with
   | arr e0 k0 d0 es0=>
    obtain⟨hle,h3⟩:=h _ _ _ _ h1;refine⟨Nat.le_trans hle h2.1,fun hl=> ?_⟩;have hl0:es0.length=es.length:=Nat.le_antisymm h2.1 (by omega);rw[(h2.2 hl0).2.2];exact h3 (by omega)
   | box=>exact h2.elim
   | map=>exact h2.elim
   | it=>exact h2.elim
   | ext=>exact h2.elim
   | gh=>exact h2.elim
   | sit=>exact h2.elim
 | .ep id n i off,v,hn,h=>by
  simp only[zaL,AV.noRef]at*;intro e k dep es ho;rcases hk id _ ho with h1 | ⟨o,h1,h2⟩
  ·exact absurd h1 hn
  ·cases o with
   | arr e0 k0 d0 es0=>
    obtain⟨hle,h3⟩:=h _ _ _ _ h1;refine⟨Nat.le_trans hle h2.1,fun hl=> ?_⟩;have hl0:es0.length=es.length:=Nat.le_antisymm h2.1 (by omega);rw[(h2.2 hl0).2.2,<-(h2.2 hl0).2.1];exact h3 (by omega)
   | box=>exact h2.elim
   | map=>exact h2.elim
   | it=>exact h2.elim
   | ext=>exact h2.elim
   | gh=>exact h2.elim
   | sit=>exact h2.elim
 | .sub id n lo hi,v,hn,h=>by
  simp only[zaL,AV.noRef]at*;intro e k dep es ho;rcases hk id _ ho with h1 | ⟨o,h1,h2⟩
  ·exact absurd h1 hn
  ·cases o with
   | arr e0 k0 d0 es0=>
    obtain⟨hle,h3⟩:=h _ _ _ _ h1;refine⟨Nat.le_trans hle h2.1,fun hl=> ?_⟩;have hl0:es0.length=es.length:=Nat.le_antisymm h2.1 (by omega);rw[(h2.2 hl0).2.2,<-(h2.2 hl0).2.1];exact h3 (by omega)
   | box=>exact h2.elim
   | map=>exact h2.elim
   | it=>exact h2.elim
   | ext=>exact h2.elim
   | gh=>exact h2.elim
   | sit=>exact h2.elim
 | .bp id off,v,hn,h=>by
  simp only[zaL,AV.noRef]at*;intro cs ho;rcases hk id _ ho with h1 | ⟨o,h1,h2⟩
  ·exact absurd h1 hn
  ·cases o with
   | box cs0=>simp only at h2; rw[h2]; exact h _ h1
   | arr=>exact h2.elim
   | map=>exact h2.elim
   | it=>exact h2.elim
   | ext=>exact h2.elim
   | gh=>exact h2.elim
   | sit=>exact h2.elim
 | .mo id,v,hn,h=>by
  simp only[zaL,AV.noRef]at*;intro o' ho hh;rcases hk id _ ho with h1 | ⟨o,h1,h2⟩
  ·exact absurd h1 hn
  ·cases o' with
   | map=>cases o <;> simp only at h2 <;> first | exact h2.elim | (rw[h2]; exact h _ h1 rfl)
   | it=>cases o <;> simp only at h2 <;> first | exact h2.elim | (rw[h2]; exact h _ h1 rfl)
   | sit=>cases o <;> simp only at h2 <;> first | exact h2.elim | (rw[h2]; exact h _ h1 rfl)
   | _=>simp[AO.isH]at hh
 | .yv id,v,hn,h=>by
  simp only[zaL,AV.noRef]at*;intro lim fam stop l rest ho;rcases hk id _ ho with h1 | ⟨o,h1,h2⟩
  ·exact absurd h1 hn
  ·cases o with
   | ext=>simp only at h2; rw[<-h2.2]; exact h _ _ _ _ _ h1
   | arr=>exact h2.elim
   | box=>exact h2.elim
   | map=>exact h2.elim
   | it=>exact h2.elim
   | gh=>exact h2.elim
   | sit=>exact h2.elim
 | .agg cs,v,hn,h=>by
  simp only[zaL,AV.noRef]at*;obtain⟨vs,h1,h2⟩:=h;exact⟨vs,h1,zaN.pres hk hF cs vs hn h2⟩
 | .clo f fs cs,v,hn,h=>by
  simp only[zaL,AV.noRef]at*;obtain⟨a,b,h1,h2,h3⟩:=h;exact⟨a,b,h1,zaN.pres hk hF fs a hn.1 h2,zaN.pres hk hF cs b hn.2 h3⟩
 | .tup cs,v,hn,h=>by
  simp only[zaL,AV.noRef]at*;obtain⟨vs,h1,h2⟩:=h;exact⟨vs,h1,zaN.pres hk hF cs vs hn h2⟩
theorem zaN.pres(hk:za7 O O' η η' new)(hF: ∀b,F b->F' b/\W'.heap[b]? =W.heap[b]?): ∀(xs:List AV) (vs:List Value),AV.noRefs new xs->zaN O W F η xs vs->zaN O' W' F' η' xs vs
 | [],_,_,h=>h
 | x::xs,vs,hn,h=>by
  simp only[zaN,AV.noRefs]at*;obtain⟨v,rest,h1,h2,h3⟩:=h;exact⟨v,rest,h1,zaL.pres hk hF x v hn.1 h2,zaN.pres hk hF xs rest hn.2 h3⟩
end
end
end Go.Aw
