/- Machinery. Conditions: those of each. -/
import Derived.Test.YtplfjjgkbnolhaaGreatDoorGN
import Derived.Tactics2
import Derived.OrdersIn
import Derived.TacticsIn
import Derived.OwnWalkIn
set_option linter.unusedSimpArgs false
set_option linter.unusedVariables false
/-
 CONTRACTS OF FUNCTIONS THAT ARE HANDED OWN OBJECTS, AND HAND SUCH BACK.
 Conditions: none; over any program.
-/
namespace Go.Aw
open Go.RowKit

def noO:Nat->Prop:=fun _=>False
def N0:NP:=⟨0,[],true,[],fun _ _=>False⟩
def lkN{α:Type}:List (Nat×α)->Nat->Option α
 | [],_=>none
 | (i,x)::r,d=>if d=i then some x else lkN r d
def lkI:List (Nat×Nat)->Nat->Option Nat
 | [],_=>none
 | (i,j)::r,d=>if d=j then some i else lkI r d

mutual
def AV.ren(r:List (Nat×Nat)):AV->AV
 | .ar id n=>match lkN r id with | some j=>.ar j n | none=>.dead
 | .ep id n i off=>match lkN r id with | some j=>.ep j n i off | none=>.dead
 | .sub id n i off=>match lkN r id with | some j=>.sub j n i off | none=>.dead
 | .bp id off=>match lkN r id with | some j=>.bp j off | none=>.dead
 | .mo id=>match lkN r id with | some j=>.mo j | none=>.dead
 | .yv id=>match lkN r id with | some j=>.yv j | none=>.dead
 | .agg cs=>.agg (AV.renL r cs)
 | .clo f fs cs=>.clo f (AV.renL r fs) (AV.renL r cs)
 | .tup cs=>.tup (AV.renL r cs)
 | .d x=>.d x
 | .nils =>.nils
 | .emp =>.emp
 | .und =>.und
 | .dead =>.dead
def AV.renL(r:List (Nat×Nat)):List AV->List AV
 | []=>[]
 | x::xs=>AV.ren r x::AV.renL r xs
end
def renH(r:List (Nat×Nat)):List (Nat×AV)->List (Nat×AV)
 | []=>[]
 | (i,x)::hs=>(i,x.ren r)::renH r hs
def AO.ren(r:List (Nat×Nat)):AO->AO
 | .box cs=>.box (AV.renL r cs)
 | .gh cs vs=>.gh (AV.renL r cs) vs
 | .arr e k (.deep tys hs) es=>.arr e k (.deep tys (renH r hs)) es
 | o=>o
theorem zoD(r:List (Nat×Nat))(i:Nat): ∀hs:List (Nat×AV),(renH r hs).lookup i=(hs.lookup i).map (AV.ren r)
 | []=>rfl
 | (j,x)::hs=>by
  simp only[renH,List.lookup_cons];cases h:i==j
  ·exact zoD r i hs
  ·rfl

theorem AO.ren_arr{r:List (Nat×Nat)}{o:AO}{e:TypeId}{k:Nat}{dep:Dep}{es:List (List D)}(h:o.ren r= .arr e k dep es): ∃dep',o= .arr e k dep' es:=by
 cases o with
 | arr e' k' dep' es'=>cases dep' <;> simp only[AO.ren,AO.arr.injEq]at h <;> obtain⟨rfl,rfl,_,rfl⟩:=h <;> exact⟨_,rfl⟩
 | _=>simp[AO.ren]at h
theorem AO.ren_box{r:List (Nat×Nat)}{o:AO}{cs:List AV}(h:o.ren r= .box cs): ∃cs',o= .box cs'/\cs=AV.renL r cs':=by
 cases o with
 | box cs'=>simp only[AO.ren,AO.box.injEq]at h; exact⟨cs',rfl,h.symm⟩
 | arr e' k' dep' es'=>cases dep' <;> simp[AO.ren]at h
 | _=>simp[AO.ren]at h
theorem AO.ren_ext{r:List (Nat×Nat)}{o:AO}{lim:Nat}{fam:List (List D)->XJ lim}{stop:XJ lim}{l:Nat}{rest:List (List D)}(h:o.ren r= .ext lim fam stop l rest):o= .ext lim fam stop l rest:=by
 cases o with
 | arr e' k' dep' es'=>cases dep' <;> simp[AO.ren]at h
 | ext=>exact h
 | _=>simp[AO.ren]at h
theorem AO.ren_isH{r:List (Nat×Nat)}{o:AO}:(o.ren r).isH =o.isH:=by
 cases o with
 | arr e' k' dep' es'=>cases dep' <;> rfl
 | _=>rfl

section
variable {O Oc:zbI} {W:World} {F:Nat->Prop} {η ηc:Nat->Value} {r:List (Nat×Nat)}
def RenIn(r:List (Nat×Nat))(Oc O:zbI)(ηc η:Nat->Value):Prop:= ∀id o,Oc id=some o-> ∃j,lkN r id=some j/\O j=some (o.ren r)/\η j=ηc id
def zvg(r:List (Nat×Nat))(Oc O:zbI)(ηc η:Nat->Value):Prop:= ∀id j o',lkN r id=some j->O j=some o'-> ∃o,Oc id=some o/\o'=o.ren r/\η j=ηc id
mutual
theorem zaL.renIn(h:RenIn r Oc O ηc η): ∀(x:AV) (v:Value),zaL O W F η (x.ren r) v->zaL Oc W F ηc x v
 | .dead,_,_=>by simp only[zaL]
 | .und,_,hx=>hx
 | .d _,_,hx=>hx
 | .nils,_,hx=>hx
 | .emp,_,hx=>hx
 | .ar id n,v,hx=>by
  simp only[zaL];intro e k dep es ho;obtain⟨j,h1,h2,h3⟩:=h id _ ho;simp only[AV.ren,h1,zaL]at hx;cases dep with
  | flat=>rw[<-h3]; exact hx _ _ _ _ h2
  | deep tys hs=>rw[<-h3]; exact hx _ _ _ _ h2
 | .ep id n i off,v,hx=>by
  simp only[zaL];intro e k dep es ho;obtain⟨j,h1,h2,h3⟩:=h id _ ho;simp only[AV.ren,h1,zaL]at hx;cases dep with
  | flat=>rw[<-h3]; exact hx _ _ _ _ h2
  | deep tys hs=>rw[<-h3]; exact hx _ _ _ _ h2
 | .sub id n i off,v,hx=>by
  simp only[zaL];intro e k dep es ho;obtain⟨j,h1,h2,h3⟩:=h id _ ho;simp only[AV.ren,h1,zaL]at hx;cases dep with
  | flat=>rw[<-h3]; exact hx _ _ _ _ h2
  | deep tys hs=>rw[<-h3]; exact hx _ _ _ _ h2
 | .bp id off,v,hx=>by
  simp only[zaL];intro cs ho;obtain⟨j,h1,h2,h3⟩:=h id _ ho;simp only[AV.ren,h1,zaL]at hx;rw[<-h3]; exact hx _ h2
 | .mo id,v,hx=>by
  simp only[zaL];intro o ho hH;obtain⟨j,h1,h2,h3⟩:=h id _ ho;simp only[AV.ren,h1,zaL]at hx;rw[<-h3]; exact hx _ h2 (by rw[AO.ren_isH]; exact hH)
 | .yv id,v,hx=>by
  simp only[zaL];intro lim fam stop l rest ho;obtain⟨j,h1,h2,h3⟩:=h id _ ho;simp only[AV.ren,h1,zaL]at hx;exact hx _ _ _ _ _ h2
 | .agg cs,v,hx=>by
  simp only[AV.ren,zaL]at hx ⊢;obtain⟨vs,h1,h2⟩:=hx;exact⟨vs,h1,zaN.renIn h cs vs h2⟩
 | .clo f fs cs,v,hx=>by
  simp only[AV.ren,zaL]at hx ⊢;obtain⟨a,b,h1,h2,h3⟩:=hx;exact⟨a,b,h1,zaN.renIn h fs a h2,zaN.renIn h cs b h3⟩
 | .tup cs,v,hx=>by
  simp only[AV.ren,zaL]at hx ⊢;obtain⟨vs,h1,h2⟩:=hx;exact⟨vs,h1,zaN.renIn h cs vs h2⟩
theorem zaN.renIn(h:RenIn r Oc O ηc η): ∀(xs:List AV) (vs:List Value),zaN O W F η (AV.renL r xs) vs->zaN Oc W F ηc xs vs
 | [],_,hx=>hx
 | x::xs,vs,hx=>by
  simp only[AV.renL,zaN]at hx ⊢;obtain⟨v,rest,h1,h2,h3⟩:=hx;exact⟨v,rest,h1,zaL.renIn h x v h2,zaN.renIn h xs rest h3⟩
end
mutual
theorem zaL.renOut(h:zvg r Oc O ηc η): ∀(x:AV) (v:Value),zaL Oc W F ηc x v->zaL O W F η (x.ren r) v
 | .dead,_,_=>by simp only[AV.ren,zaL]
 | .und,_,hx=>hx
 | .d _,_,hx=>hx
 | .nils,_,hx=>hx
 | .emp,_,hx=>hx
 | .ar id n,v,hx=>by
  simp only[AV.ren];cases h1:lkN r id with
  | none=>simp only[zaL]
  | some j=>
   simp only[zaL];intro e k dep es ho;obtain⟨o,h2,h3,h4⟩:=h id j _ h1 ho;obtain⟨dep',rfl⟩:=AO.ren_arr h3.symm;simp only[zaL]at hx;rw[h4]; exact hx _ _ _ _ h2
 | .ep id n i off,v,hx=>by
  simp only[AV.ren];cases h1:lkN r id with
  | none=>simp only[zaL]
  | some j=>
   simp only[zaL];intro e k dep es ho;obtain⟨o,h2,h3,h4⟩:=h id j _ h1 ho;obtain⟨dep',rfl⟩:=AO.ren_arr h3.symm;simp only[zaL]at hx;rw[h4]; exact hx _ _ _ _ h2
 | .sub id n i off,v,hx=>by
  simp only[AV.ren];cases h1:lkN r id with
  | none=>simp only[zaL]
  | some j=>
   simp only[zaL];intro e k dep es ho;obtain⟨o,h2,h3,h4⟩:=h id j _ h1 ho;obtain⟨dep',rfl⟩:=AO.ren_arr h3.symm;simp only[zaL]at hx;rw[h4]; exact hx _ _ _ _ h2
 | .bp id off,v,hx=>by
  simp only[AV.ren];cases h1:lkN r id with
  | none=>simp only[zaL]
  | some j=>
   simp only[zaL];intro cs ho;obtain⟨o,h2,h3,h4⟩:=h id j _ h1 ho;obtain⟨cs',rfl,_⟩:=AO.ren_box h3.symm;simp only[zaL]at hx;rw[h4]; exact hx _ h2
 | .mo id,v,hx=>by
  simp only[AV.ren];cases h1:lkN r id with
  | none=>simp only[zaL]
  | some j=>
   simp only[zaL];intro o' ho hH;obtain⟨o,h2,h3,h4⟩:=h id j _ h1 ho;subst h3;simp only[zaL]at hx;rw[h4]; exact hx _ h2 (by rw[<-AO.ren_isH]; exact hH)
 | .yv id,v,hx=>by
  simp only[AV.ren];cases h1:lkN r id with
  | none=>simp only[zaL]
  | some j=>
   simp only[zaL];intro lim fam stop l rest ho;obtain⟨o,h2,h3,h4⟩:=h id j _ h1 ho;have:=AO.ren_ext h3.symm;subst this;simp only[zaL]at hx;exact hx _ _ _ _ _ h2
 | .agg cs,v,hx=>by
  simp only[AV.ren,zaL]at hx ⊢;obtain⟨vs,h1,h2⟩:=hx;exact⟨vs,h1,zaN.renOut h cs vs h2⟩
 | .clo f fs cs,v,hx=>by
  simp only[AV.ren,zaL]at hx ⊢;obtain⟨a,b,h1,h2,h3⟩:=hx;exact⟨a,b,h1,zaN.renOut h fs a h2,zaN.renOut h cs b h3⟩
 | .tup cs,v,hx=>by
  simp only[AV.ren,zaL]at hx ⊢;obtain⟨vs,h1,h2⟩:=hx;exact⟨vs,h1,zaN.renOut h cs vs h2⟩
theorem zaN.renOut(h:zvg r Oc O ηc η): ∀(xs:List AV) (vs:List Value),zaN Oc W F ηc xs vs->zaN O W F η (AV.renL r xs) vs
 | [],_,hx=>hx
 | x::xs,vs,hx=>by
  simp only[AV.renL,zaN]at hx ⊢;obtain⟨v,rest,h1,h2,h3⟩:=hx;exact⟨v,rest,h1,zaL.renOut h x v h2,zaN.renOut h xs rest h3⟩
end
theorem zdA.ren{O O':zbI}{η η':Nat->Value}{tys:List (TypeId×Nat)}{hs hs':List (Nat×AV)}(hx: ∀i,(hs.lookup i=none/\hs'.lookup i=none)\/ ∃x x',hs.lookup i=some x/\hs'.lookup i=some x'/\ ∀v,zaL O W F η x v->zaL O' W F η' x' v):
  ∀(ds:List D) (i:Nat) (vs:List Value) (s:List Nat),zdA O W F η tys hs i ds vs s->zdA O' W F η' tys hs' i ds vs s
 | [],_,_,_,h=>h
 | d::ds,i,vs,s,h=>by
  simp only[zdA]at h ⊢;obtain⟨v,rest,s1,s2,h1,h2,h3,h4⟩:=h;refine⟨v,rest,s1,s2,h1,h2,?_,zdA.ren hx ds (i+1) rest s2 h4⟩;rcases hx i with⟨e1,e2⟩ | ⟨x,x',e1,e2,e3⟩
  ·rw[e1]at h3; rw[e2]; exact h3
  ·rw[e1]at h3; rw[e2]; exact⟨e3 v h3.1,h3.2⟩
theorem zj1.renIn(h:RenIn r Oc O ηc η){v:Value}{s:List Nat}{o:AO}(ho:zj1 O W F η v s (o.ren r)):zj1 Oc W F ηc v s o:=by
 cases o with
 | box cs=>
  obtain⟨b,cur,e,h1,h2,h3,h4⟩:=ho;exact⟨b,cur,e,h1,h2,h3,zaN.renIn h cs _ h4⟩
 | arr e k dep es=>
  cases dep with
  | flat=>exact ho
  | deep tys hs=>
   refine zfv.mono (fun _ _=>rfl) (fun xs vs s' _=>zdA.ren (fun i=> ?_) xs 0 vs s') ho;rw[zoD];cases hs.lookup i with
   | none=>exact .inl ⟨rfl,rfl⟩
   | some x=>exact .inr ⟨_,x,rfl,rfl,fun v=>zaL.renIn h x v⟩
 | map=>exact ho
 | it=>exact ho
 | sit=>exact ho
 | ext=>exact ho
 | gh cs vs=>exact⟨ho.1,zaN.renIn h cs _ ho.2⟩
theorem zj1.renOut(h:zvg r Oc O ηc η){v:Value}{s:List Nat}{o:AO}(ho:zj1 Oc W F ηc v s o):zj1 O W F η v s (o.ren r):=by
 cases o with
 | box cs=>
  obtain⟨b,cur,e,h1,h2,h3,h4⟩:=ho;exact⟨b,cur,e,h1,h2,h3,zaN.renOut h cs _ h4⟩
 | arr e k dep es=>
  cases dep with
  | flat=>exact ho
  | deep tys hs=>
   refine zfv.mono (fun _ _=>rfl) (fun xs vs s' _=>zdA.ren (fun i=> ?_) xs 0 vs s') ho;rw[zoD];cases hs.lookup i with
   | none=>exact .inl ⟨rfl,rfl⟩
   | some x=>exact .inr ⟨x,_,rfl,rfl,fun v=>zaL.renOut h x v⟩
 | map=>exact ho
 | it=>exact ho
 | sit=>exact ho
 | ext=>exact ho
 | gh cs vs=>exact⟨ho.1,zaN.renOut h cs _ ho.2⟩
end

def FnG(P:Program)(f:FuncId)(args:List AV)(Oi:zbI)(Post:AV->zbI->List Nat->Prop):Prop:=
 (∀W as,(callFunc f as).run P W= .ok (.enter f as) W)/\
 ∀(W:World) (F O0:Nat->Prop) (η:Nat->Value) (S:Nat->List Nat) (vs:List Value),Mem ⟨P,N0,W,F,O0,[],[],fun _=>undef,[]⟩ Oi W F η S->(∀b,O0 b↔ ∃id,b∈S id)->zaN Oi W F η args vs->
  Calls P f vs.toArray W fun e W'=> ∃v V Oo new F' η' S',e= .returned v/\Post V Oo new/\(∀i∈new,∀lim fam stop l rest,Oo i≠some (.ext lim fam stop l rest))/\Mem ⟨P,N0,W,F,O0,[],[],fun _=>undef,[]⟩ Oo W' F' η' S'/\zaL Oo W' F' η' V v/\za7 Oi Oo η η' new

def FnX(P:Program)(f:FuncId)(args:List AV)(Oi:zbI)(Post:AV->zbI->List Nat->Prop)(PX:Value->Prop):Prop:=
 (∀W as,(callFunc f as).run P W= .ok (.enter f as) W)/\
 ∀(W:World) (F O0:Nat->Prop) (η:Nat->Value) (S:Nat->List Nat) (vs:List Value),Mem ⟨P,N0,W,F,O0,[],[],fun _=>undef,[]⟩ Oi W F η S->(∀b,O0 b↔ ∃id,b∈S id)->zaN Oi W F η args vs->
  Calls P f vs.toArray W fun e W'=>(∃v V Oo new F' η' S',e= .returned v/\Post V Oo new/\(∀i∈new,∀lim fam stop l rest,Oo i≠some (.ext lim fam stop l rest))/\Mem ⟨P,N0,W,F,O0,[],[],fun _=>undef,[]⟩ Oo W' F' η' S'/\zaL Oo W' F' η' V v/\za7 Oi Oo η η' new)\/
   ∃v F' η' S',e= .panicked [{v:=v,recovered:=false}]/\PX v/\Mem ⟨P,N0,W,F,O0,[],[],fun _=>undef,[]⟩ (fun _=>none) W' F' η' S'

def zpV(r:List (Nat×Nat)):Prop:=(r.map (·.1)).Nodup /\(r.map (·.2)).Nodup
theorem zqv{α:Type}: ∀ {r:List (Nat×α)} {i:Nat} {j:α},lkN r i=some j->(i,j)∈r
 | (a,b)::r,i,j,h=>by
  simp only[lkN]at h;split at h
  ·rename_i e; cases h; subst e; simp
  ·exact List.mem_cons_of_mem _ (zqv h)
theorem lkI_mem: ∀ {r:List (Nat×Nat)} {i j:Nat},lkI r j=some i->(i,j)∈r
 | (a,b)::r,i,j,h=>by
  simp only[lkI]at h;split at h
  ·rename_i e; cases h; subst e; simp
  ·exact List.mem_cons_of_mem _ (lkI_mem h)
theorem znq: ∀ {r:List (Nat×Nat)} {i j:Nat},(r.map (·.1)).Nodup ->(i,j)∈r->lkN r i=some j
 | (a,b)::r,i,j,hn,h=>by
  simp only[List.map_cons,List.nodup_cons]at hn;simp only[lkN];rcases List.mem_cons.1 h with h' | h'
  ·cases h'; simp
  ·have:i≠a:=by intro e; subst e; exact hn.1 (List.mem_map.2 ⟨(i,j),h',rfl⟩)
   rw[if_neg this]; exact znq hn.2 h'
theorem zqu: ∀ {r:List (Nat×Nat)} {i j:Nat},(r.map (·.2)).Nodup ->(i,j)∈r->lkI r j=some i
 | (a,b)::r,i,j,hn,h=>by
  simp only[List.map_cons,List.nodup_cons]at hn;simp only[lkI];rcases List.mem_cons.1 h with h' | h'
  ·cases h'; simp
  ·have:j≠b:=by intro e; subst e; exact hn.1 (List.mem_map.2 ⟨(i,j),h',rfl⟩)
   rw[if_neg this]; exact zqu hn.2 h'
theorem zpV.iff{r:List (Nat×Nat)}(h:zpV r){i j:Nat}:lkN r i=some j↔lkI r j=some i:=
 ⟨fun e=>zqu h.2 (zqv e),fun e=>znq h.1 (lkI_mem e)⟩

mutual
theorem AV.noRef_of{l:List Nat}: ∀x:AV,(∀j∈l,x.noRef [j])->x.noRef l
 | .dead,_ | .und,_ | .d _,_ | .nils,_ | .emp,_=>by simp[AV.noRef]
 | .ar id n,h | .ep id _ _ _,h | .sub id _ _ _,h | .bp id _,h | .mo id,h | .yv id,h=>by
  simp only[AV.noRef]at h ⊢;intro hm;exact h id hm (by simp)
 | .agg cs,h | .tup cs,h=>by simp only[AV.noRef]at h ⊢; exact AV.noRefs_of cs h
 | .clo f fs cs,h=>by simp only[AV.noRef]at h ⊢; exact⟨AV.noRefs_of fs (fun j hj=>(h j hj).1),AV.noRefs_of cs (fun j hj=>(h j hj).2)⟩
theorem AV.noRefs_of{l:List Nat}: ∀xs:List AV,(∀j∈l,AV.noRefs [j] xs)->AV.noRefs l xs
 | [],_=>by simp[AV.noRefs]
 | x::xs,h=>by simp only[AV.noRefs]at h ⊢; exact⟨AV.noRef_of x (fun j hj=>(h j hj).1),AV.noRefs_of xs (fun j hj=>(h j hj).2)⟩
end
theorem noRefO_of{l:List Nat}{o:AO}(h: ∀j∈l,o.noRef [j]):o.noRef l:=by
 cases o with
 | box cs=>exact AV.noRefs_of cs h
 | arr e k dep es=>cases dep with
  | flat=>trivial
  | deep tys hs=>exact AV.noRefs_of _ h
 | map=>trivial
 | it=>trivial
 | sit=>trivial
 | ext=>trivial
 | gh cs vs=>exact AV.noRefs_of cs h

def zhK(O:zbI)(r:List (Nat×Nat))(Oo:zbI):zbI:=fun j=>match lkI r j with | some i=>(Oo i).map (AO.ren r) | none=>O j
def zbk{α:Type}(f:Nat->α)(r:List (Nat×Nat))(g:Nat->α):Nat->α:=fun j=>match lkI r j with | some i=>g i | none=>f j

section
variable {c:Ctx} {O:zbI} {W:World} {F:Nat->Prop} {η:Nat->Value} {S:Nat->List Nat}
theorem Mem.enter(hm:Mem c O W F η S){r:List (Nat×Nat)}(hr:zpV r){Oi:zbI}(hin: ∀id o,Oi id=some o-> ∃j,lkN r id=some j/\O j=some (o.ren r)):
  Mem ⟨c.P,N0,W,F,fun b=> ∃id j,Oi id≠none/\lkN r id=some j/\b∈S j,[],[],fun _=>undef,[]⟩ Oi W F (fun id=>match lkN r id with | some j=>η j | none=>undef) (fun id=>match Oi id,lkN r id with | some _,some j=>S j | _,_=>[]):=by
 have hS: ∀id b,b∈(match Oi id,lkN r id with | some _,some j=>S j | _,_=>[])-> ∃j,Oi id≠none/\lkN r id=some j/\b∈S j:=by
  intro id b hb;split at hb
  ·rename_i o j h1 h2; exact⟨j,by rw[h1]; simp,h2,hb⟩
  ·simp at hb
 have hlim:=hm.size;refine⟨rfl,rfl,rfl,Nat.le_refl _,fun _ _ _=>rfl,fun _ h=>h,hm.flt,fun b hb _=>.inl hb,?_,?_,?_,?_,?_,by simp,?_,by simp⟩
 ·intro id o ho;obtain⟨j,h1,h2⟩:=hin id o ho;simp only[ho,h1];refine zj1.renIn (r:=r) (O:=O) (η:=η) (fun id' o' ho'=> ?_) (hm.obj j _ h2);obtain⟨j',h3,h4⟩:=hin id' o' ho';exact⟨j',h3,h4,by simp[h3]⟩
 ·intro id ho; simp[ho]
 ·intro id b hb;obtain⟨j,h1,h2,h3⟩:=hS id b hb;obtain⟨a1,a2,a3⟩:=hm.apart j b h3;exact⟨a1,a2,fun _=>⟨id,j,h1,h2,h3⟩⟩
 ·intro id id' b h1 h2;obtain⟨j,a1,a2,a3⟩:=hS id b h1;obtain⟨j',b1,b2,b3⟩:=hS id' b h2;have:j=j':=hm.sep j j' b a3 b3;subst this;have e1:=hr.iff.1 a2;have e2:=hr.iff.1 b2;rw[e1]at e2;exact Option.some.inj e2
 ·intro id;split
  ·exact hm.nd _
  ·simp
 ·intro id lim fam stop l rest ho;obtain⟨j,h1,h2⟩:=hin id _ ho;obtain⟨l1,l2⟩:=hm.lim j _ _ _ _ _ h2;refine⟨Nat.le_trans l1 hlim,fun id' b hb hne=> ?_⟩;obtain⟨j',b1,b2,b3⟩:=hS id' b hb;refine l2 j' b b3 ?_;rintro rfl;have e1:=hr.iff.1 h1;have e2:=hr.iff.1 b2;rw[e1]at e2;exact hne (Option.some.inj e2).symm

theorem Mem.back(hm:Mem c O W F η S){r:List (Nat×Nat)}(hr:zpV r){Oi Oo:zbI}(hin: ∀id o,Oi id=some o-> ∃j,lkN r id=some j/\O j=some (o.ren r))(hfr: ∀i j,lkN r i=some j->Oi i=none->O j=none/\ ∀id o,O id=some o->o.noRef [j])
  {W':World} {F':Nat->Prop} {η1:Nat->Value} {S1:Nat->List Nat} {new:List Nat}
  (hb:Mem ⟨c.P,N0,W,F,fun b=> ∃id j,Oi id≠none/\lkN r id=some j/\b∈S j,[],[],fun _=>undef,[]⟩ Oo W' F' η1 S1) (hdom: ∀i o,Oo i=some o-> ∃j,lkN r i=some j) (hnew: ∀i∈new,Oi i=none) (hnx: ∀i∈new,∀lim fam stop l rest,Oo i≠some (.ext lim fam stop l rest))
  (hk:za7 Oi Oo (fun id=>match lkN r id with | some j=>η j | none=>undef) η1 new):
  ∃new',(∀j∈new',∃i,lkN r i=some j/\Oi i=none)/\Mem c (zhK O r Oo) W' F' (zbk η r η1) (zbk S r S1)/\za7 O (zhK O r Oo) η (zbk η r η1) new'/\(∀b,F b->F' b/\W'.heap[b]? =W.heap[b]?)/\zvg r Oo (zhK O r Oo) η1 (zbk η r η1):=by
 have hI: ∀ {i j},lkN r i=some j->lkI r j=some i:=fun h=>hr.iff.1 h;have hN: ∀ {i j},lkI r j=some i->lkN r i=some j:=fun h=>hr.iff.2 h;have hS1: ∀i b,b∈S1 i-> ∃j,lkN r i=some j:=by
  intro i b hb';cases ho:Oo i with
  | none=>rw[hb.gone i ho]at hb'; simp at hb'
  | some o=>exact hdom i o ho
 have hsome: ∀j o,lkI r j≠none->zhK O r Oo j=some o-> ∃i o',lkN r i=some j/\Oo i=some o'/\o=o'.ren r:=by
  intro j o hj ho;unfold zhK at ho;split at ho
  ·rename_i i hi;rw[Option.map_eq_some_iff]at ho;obtain⟨o',h1,h2⟩:=ho;exact⟨i,o',hN hi,h1,h2.symm⟩
  ·rename_i hi; exact absurd hi hj
 have hout:zvg r Oo (zhK O r Oo) η1 (zbk η r η1):=by
  intro i j o' hij ho;unfold zhK at ho;unfold zbk;rw[hI hij]at ho ⊢;simp only[Option.map_eq_some_iff]at ho;obtain⟨o,h1,h2⟩:=ho;exact⟨o,h1,h2.symm,rfl⟩
 refine⟨r.filterMap (fun p=>match Oi p.1 with | none=>some p.2 | some _=>none),?_,?_⟩
 ·intro j hj;obtain⟨p,hp,h1⟩:=List.mem_filterMap.1 hj;split at h1
  ·rename_i h2; cases h1; exact⟨p.1,znq hr.1 hp,h2⟩
  ·cases h1
 have hmemnew: ∀i j,lkN r i=some j->Oi i=none->j∈r.filterMap (fun p=>match Oi p.1 with | none=>some p.2 | some _=>none):=fun i j h1 h2=>List.mem_filterMap.2 ⟨(i,j),zqv h1,by simp[h2]⟩;have hkk:za7 O (zhK O r Oo) η (zbk η r η1) (r.filterMap (fun p=>match Oi p.1 with | none=>some p.2 | some _=>none)):=by
  intro j o ho;by_cases hj:lkI r j=none
  ·right;have e1:zhK O r Oo j=O j:=by unfold zhK; rw[hj]
   have e2:zbk η r η1 j=η j:=by unfold zbk; rw[hj]
   rw[e1]at ho;refine⟨o,ho,?_⟩;cases o <;> simp[e2]
  ·obtain⟨i,o',h1,h2,rfl⟩:=hsome j o hj ho;cases hi:Oi i with
   | none=>exact .inl (hmemnew i j h1 hi)
   | some oi=>
    right;obtain⟨j',h3,h4⟩:=hin i oi hi;rw[h1]at h3;cases h3;refine⟨oi.ren r,h4,?_⟩;have e2:zbk η r η1 j=η1 i:=(by unfold zbk; rw[hI h1]);rcases hk i o' h2 with h5 | ⟨o2,h5,h6⟩
    ·rw[hnew i h5]at hi; cases hi
    ·rw[hi]at h5;cases h5;rw[e2];simp only[h1]at h6;cases oi with
     | arr e k dep es=>
      cases o' with
      | arr e' k' dep' es'=>cases dep <;> cases dep' <;> exact h6
      | _=>exact h6.elim
     | box=>cases o' <;> first | exact h6 | exact h6.elim
     | map=>cases o' <;> first | exact h6 | exact h6.elim
     | it=>cases o' <;> first | exact h6 | exact h6.elim
     | sit=>cases o' <;> first | exact h6 | exact h6.elim
     | ext=>cases o' <;> first | exact h6 | exact h6.elim
     | gh=>cases o' <;> first | exact h6 | exact h6.elim
 have hO0: ∀b,(∃id j,Oi id≠none/\lkN r id=some j/\b∈S j)-> ∃j,lkI r j≠none/\b∈S j:=fun b ⟨id,j,_,h2,h3⟩=>⟨j,by rw[hI h2]; simp,h3⟩;obtain⟨m1,m2⟩:=Mem.update (W':=W') (F':=F') (O':=zhK O r Oo) (η':=zbk η r η1) (S':=zbk S r S1) hm (fun j=>lkI r j≠none) _ hb.os hb.tape hb.output hb.size
  (fun b hlt hT=>hb.old b hlt (fun h=>by obtain⟨j,h1,h2⟩:=hO0 b h; exact hT j h1 h2)) hb.f0
  (fun b hF=>by
   by_cases hlt:b<W.heap.size
   ·rcases hb.fold b hF hlt with h | h
    ·exact .inl h
    ·obtain⟨j,h1,h2⟩:=hO0 b h;exact .inr (.inr ⟨j,h1,h2⟩)
   ·exact .inr (.inl ⟨Nat.le_of_not_lt hlt,hb.flt b hF⟩))
  (fun j hj=>by
   have hj:lkI r j=none:=Classical.not_not.1 hj;exact⟨by unfold zhK; rw[hj],by unfold zbk; rw[hj],by unfold zbk; rw[hj]⟩)
  (fun j hj b hbm=>by
   cases hi:lkI r j with
   | none=>exact absurd hi hj
   | some i=>
    simp only[zbk,hi]at hbm;obtain⟨a1,a2,a3⟩:=hb.apart i b hbm;refine⟨a1,?_⟩;by_cases hlt:b<W.heap.size
    ·obtain⟨j',h1,h2⟩:=hO0 b (a3 hlt);exact .inl ⟨j',h1,h2⟩
    ·exact .inr ⟨Nat.le_of_not_lt hlt,a2⟩)
  (fun j j' b hj hj' h1 h2=>by
   cases hi:lkI r j with
   | none=>exact absurd hi hj
   | some i=>
    cases hi':lkI r j' with
    | none=>exact absurd hi' hj'
    | some i'=>
     simp only[zbk,hi]at h1;simp only[zbk,hi']at h2;have:=hb.sep i i' b h1 h2;subst this;have e1:=hN hi;rw[hN hi']at e1;exact(Option.some.inj e1).symm)
  (fun j hj=>by
   cases hi:lkI r j with
   | none=>exact absurd hi hj
   | some i=>simp only[zbk,hi]; exact hb.nd i)
  (fun j hj ho=>by
   cases hi:lkI r j with
   | none=>exact absurd hi hj
   | some i=>
    simp only[zhK,hi,Option.map_eq_none_iff]at ho;simp only[zbk,hi];exact hb.gone i ho)
  hkk
  (fun id o ho hT=>noRefO_of (fun j hj=>by
   obtain⟨p,hp,h1⟩:=List.mem_filterMap.1 hj;split at h1
   ·rename_i h2; cases h1; exact(hfr p.1 _ (znq hr.1 hp) h2).2 id o ho
   ·cases h1))
  (fun j o hj ho hF=>by
   obtain⟨i,o',h1,h2,rfl⟩:=hsome j o hj ho;have e2:zbk η r η1 j=η1 i:=by unfold zbk; rw[hI h1]
   have e3:zbk S r S1 j=S1 i:=by unfold zbk; rw[hI h1]
   rw[e2,e3];exact zj1.renOut hout (hb.obj i _ h2))
  (fun j lim fam stop l rest hj ho=>by
   obtain⟨i,o',h1,h2,h3⟩:=hsome j _ hj ho;have:=AO.ren_ext h3.symm;subst this;obtain⟨q1,q2⟩:=hb.lim i _ _ _ _ _ h2;rcases hk i _ h2 with h5 | ⟨o2,h5,h6⟩
   ·exact absurd h2 (hnx i h5 _ _ _ _ _)
   ·cases o2 with
    | ext lim2 fam2 stop2 l2 rest2=>
     obtain⟨rfl,_⟩:=h6;obtain⟨j',h7,h8⟩:=hin i _ h5;rw[h1]at h7;cases h7;obtain⟨l1,l2⟩:=hm.lim j _ _ _ _ _ h8;refine⟨l1,fun j' b hb' hne=> ?_⟩;cases hi':lkI r j' with
     | none=>simp only[zbk,hi']at hb'; exact l2 j' b hb' hne
     | some i'=>
      simp only[zbk,hi']at hb';refine q2 i' b hb' ?_;rintro rfl;have e1:=hN hi';rw[h1]at e1;exact hne (Option.some.inj e1).symm
    | _=>exact h6.elim)
 exact⟨m1,hkk,m2,hout⟩
end
end Go.Aw
