/- Machinery. Conditions: those of each. -/
import Derived.Test.YtplfjjgkbnolhaaGreatDoorGU
set_option linter.unusedSimpArgs false
set_option linter.unusedVariables false
/-
 OWN ARRAYS WHOSE SLICES ARE OWN TOO: opened, closed, appended to, zdG.
 Conditions: those of each law; over any program.
-/
namespace Go.Aw
open Go.RowKit

def zj6:List (TypeId×Nat)->Dep
 | []=>.flat
 | p::r=>.deep (p::r) []

section
variable {O O':zbI} {W W':World} {F F':Nat->Prop} {η η':Nat->Value}

theorem zfv.congr{C C':List D->List Value->List Nat->Prop}{e:TypeId}{k:Nat}{es:List (List D)}{v:Value}{s:List Nat}(hC: ∀xs vs s,C xs vs s↔C' xs vs s):zfv W C e k es v s↔zfv W C' e k es v s:=by
 have:C=C':=by grind
 rw[this]
theorem zkD{r:List (TypeId×Nat)}{e:TypeId}{k:Nat}{xs:List (List D)}{v:Value}{s:List Nat}:zj1 O W F η v s (.arr e k (zj6 r) xs)↔zfv W (OwnVals (Own W F r)) e k xs v s:=by
 cases r with
 | nil=>exact Iff.rfl
 | cons p r=>exact zfv.congr (fun xs vs s=>ziZ xs 0 vs s)

def znF(O:zbI)(W:World)(F:Nat->Prop)(η:Nat->Value)(tys:List (TypeId×Nat))(hs:List (Nat×AV))(i:Nat)(d:D)(v:Value)(s:List Nat):Prop:=
 match hs.lookup i with
 | some x=>zaL O W F η x v/\s=[]
 | none=>Own W F tys d v s

theorem znF.mono{tys:List (TypeId×Nat)}{hs hs':List (Nat×AV)}{i:Nat}{d:D}{v:Value}{s:List Nat}(hl:hs'.lookup i=hs.lookup i)(hx: ∀x∈hs.map (·.2),∀v,zaL O W F η x v->zaL O' W' F' η' x v)
  (hF: ∀b,F b->F' b/\W'.heap[b]? =W.heap[b]?) (hb': ∀b∈s,W'.heap[b]? =W.heap[b]?) (h:znF O W F η tys hs i d v s):znF O' W' F' η' tys hs' i d v s:=by
 unfold znF at h ⊢;rw[hl];cases hl':hs.lookup i with
 | none=>grind [Own.mono]
 | some x=>rw[hl']at h; exact⟨hx x (List.mem_map.2 ⟨(i,x),zqw hl',rfl⟩) v h.1,h.2⟩

theorem zdA.mono'{tys:List (TypeId×Nat)}{hs hs':List (Nat×AV)}(hx: ∀x∈hs.map (·.2),∀v,zaL O W F η x v->zaL O' W' F' η' x v)(hF: ∀b,F b->F' b/\W'.heap[b]? =W.heap[b]?):
  ∀(ds:List D) (i:Nat) (vs:List Value) (s:List Nat),(∀m,i<=m->m<i+ds.length->hs'.lookup m=hs.lookup m)->(∀b∈s,W'.heap[b]? =W.heap[b]?)->zdA O W F η tys hs i ds vs s->zdA O' W' F' η' tys hs' i ds vs s
 | [],_,_,_,_,_,h=>h
 | d::ds,i,vs,s,hl,hb,h=>by
  simp only[zdA]at h ⊢;obtain⟨v,rest,s1,s2,h1,rfl,h3,h4⟩:=h;refine⟨v,rest,s1,s2,h1,rfl,?_,zdA.mono' hx hF ds (i+1) rest s2 (fun m h1 h2=>hl m (by omega) (by simp only[List.length_cons]; omega)) (fun b hb'=>hb b (by simp[hb'])) h4⟩;exact znF.mono (hl i (Nat.le_refl _) (by simp)) hx hF (fun b hb'=>hb b (by simp[hb'])) h3

theorem zdA.pick{tys:List (TypeId×Nat)}{hs:List (Nat×AV)}: ∀(ds:List D) (i:Nat) (vs:List Value) (s:List Nat) (j:Nat) (d:D),zdA O W F η tys hs i ds vs s->ds[j]? =some d->
  ∃v sa s1 sb,vs[j]? =some v/\s=sa++s1++sb/\znF O W F η tys hs (i+j) d v s1/\
   ∀(O':zbI) (W':World) (F':Nat->Prop) (η':Nat->Value) (hs':List (Nat×AV)) (d':D) (v':Value) (s1':List Nat),(∀m,m≠i+j->hs'.lookup m=hs.lookup m)->(∀x∈hs.map (·.2),∀v,zaL O W F η x v->zaL O' W' F' η' x v)->
    (∀b,F b->F' b/\W'.heap[b]? =W.heap[b]?)->(∀b∈sa++sb,W'.heap[b]? =W.heap[b]?)->znF O' W' F' η' tys hs' (i+j) d' v' s1'->zdA O' W' F' η' tys hs' i (ds.set j d') (vs.set j v') (sa++s1'++sb)
 | [],_,_,_,_,_,_,h=>by simp at h
 | d0::ds,i,vs,s,0,d,h,hd=>by
  simp only[zdA]at h;obtain⟨v,rest,s1,s2,rfl,rfl,h3,h4⟩:=h;simp only[List.getElem?_cons_zero,Option.some.injEq]at hd;subst hd;refine⟨v,[],s1,s2,rfl,by simp,h3,fun O' W' F' η' hs' d' v' s1' hl hx hF hb hc=> ?_⟩;simp only[List.set_cons_zero,zdA,List.nil_append];refine⟨v',rest,s1',s2,rfl,rfl,hc,zdA.mono' hx hF ds (i+1) rest s2 (fun m h1 h2=>hl m (by omega)) (fun b hb'=>hb b (by simp[hb'])) h4⟩
 | d0::ds,i,vs,s,j+1,d,h,hd=>by
  simp only[zdA]at h;obtain⟨v0,rest,s1,s2,rfl,rfl,h3,h4⟩:=h;obtain⟨v,sa,sm,sb,h5,h6,h7,h8⟩:=zdA.pick ds (i+1) rest s2 j d h4 (by simpa using hd);subst h6;refine⟨v,s1++sa,sm,sb,by simpa using h5,by simp[List.append_assoc],by rw[show i+(j+1)=i+1+j by omega]; exact h7,fun O' W' F' η' hs' d' v' s1' hl hx hF hb hc=> ?_⟩;simp only[List.set_cons_succ,zdA];refine⟨v0,_,s1,sa++s1'++sb,rfl,by simp[List.append_assoc],znF.mono (hl i (by omega)) hx hF (fun b hb'=>hb b (by simp[hb'])) h3,?_⟩;exact h8 O' W' F' η' hs' d' v' s1' (fun m hm=>hl m (by omega)) hx hF (fun b hb'=>hb b (by simp at hb' ⊢; rcases hb' with h | h <;> simp[h])) (by rw[show i+1+j=i+(j+1) by omega]; exact hc)

theorem OwnVals.append{R:D->Value->List Nat->Prop}: ∀(xs ys:List D) (us vs:List Value) (s s':List Nat),OwnVals R xs us s->OwnVals R ys vs s'->OwnVals R (xs++ys) (us++vs) (s++s')
 | [],ys,us,vs,s,s',h,h'=>by grind [OwnVals]
 | x::xs,ys,us,vs,s,s',h,h'=>by
  simp only[OwnVals,List.cons_append]at h ⊢;obtain⟨v,rest,s1,s2,rfl,rfl,h3,h4⟩:=h;exact⟨v,rest++vs,s1,s2++s',rfl,by simp,h3,OwnVals.append xs ys rest vs s2 s' h4 h'⟩
theorem OwnVals.length{R:D->Value->List Nat->Prop}: ∀(xs:List D) (vs:List Value) (s:List Nat),OwnVals R xs vs s->vs.length=xs.length
 | [],vs,s,h=>by simp only[OwnVals]at h; simp[h.1]
 | x::xs,vs,s,h=>by
  simp only[OwnVals]at h;obtain⟨v,rest,s1,s2,rfl,_,_,h4⟩:=h;simp[OwnVals.length xs rest s2 h4]

theorem zsJ{k:Nat}: ∀(es:List (List D)) (i j:Nat),(∀x∈es,x.length=k)->i<es.length->j<k->es.flatten[i*k+j]? =(es.getD i [])[j]?
 | [],i,j,_,h,_=>by simp at h
 | e::es,0,j,hk,_,hj=>by
  grind
 | e::es,i+1,j,hk,h,hj=>by
  have h1:e.length=k:=hk e (by simp);have ih:=zsJ es i j (fun x hx=>hk x (by simp[hx])) (by simpa using h) hj;grind
theorem zjw{k:Nat}(d:D): ∀(es:List (List D)) (i j:Nat),(∀x∈es,x.length=k)->i<es.length->j<k->(es.set i ((es.getD i []).set j d)).flatten =es.flatten.set (i*k+j) d
 | [],i,j,_,h,_=>by simp at h
 | e::es,0,j,hk,_,hj=>by
  simp_all
 | e::es,i+1,j,hk,h,hj=>by
  have h1:e.length=k:=hk e (by simp);have ih:=zjw d es i j (fun x hx=>hk x (by simp[hx])) (by simpa using h) hj;grind
theorem zm7{α:Type}: ∀(l:List α) (j:Nat) (x:α),l[j]? =some x->l.set j x=l
 | [],_,_,h=>by simp at h
 | y::l,0,x,h=>by simp_all
 | y::l,j+1,x,h=>by simp at h ⊢; exact zm7 l j x h
end

section
variable {c:Ctx} {O:zbI} {W:World} {F:Nat->Prop} {η:Nat->Value} {S:Nat->List Nat}

theorem zwA(hm:Mem c O W F η S){id:Nat}{e:TypeId}{k:Nat}{tys:List (TypeId×Nat)}{hs:List (Nat×AV)}{es:List (List D)}(hO:O id=some (.arr e k (.deep tys hs) es)){i j:Nat}{d:D}(hi:i<es.length)(hj:j<k)(hd:(es.getD i [])[j]? =some d):
  ∃g cap cur v sa s1 sb,η id= .slice (some ⟨g,0,none⟩) es.length cap/\W.heap[g]? =some (.cells cur e (0,0))/\S id=g::(sa++s1++sb)/\cur[i*k+j]? =some v/\i*k+j<es.length*k/\es.length*k<=cur.size/\znF O W F η tys hs (i*k+j) d v s1/\
   ∀(O':zbI) (W':World) (F':Nat->Prop) (η':Nat->Value) (hs':List (Nat×AV)) (d':D) (v':Value) (s1':List Nat),(∀m,m≠i*k+j->hs'.lookup m=hs.lookup m)->(∀x∈hs.map (·.2),∀v,zaL O W F η x v->zaL O' W' F' η' x v)->
    (∀b,F b->F' b/\W'.heap[b]? =W.heap[b]?)->(∀b∈sa++sb,W'.heap[b]? =W.heap[b]?)->znF O' W' F' η' tys hs' (i*k+j) d' v' s1'->W'.heap[g]? =some (.cells (cur.setIfInBounds (i*k+j) v') e (0,0))->
    zj1 O' W' F' η' (η id) (g::(sa++s1'++sb)) (.arr e k (.deep tys hs') (es.set i ((es.getD i []).set j d'))):=by
 obtain⟨r1,r2,r3⟩:=hm.obj id _ hO;rcases r3 with⟨_,rfl,_⟩ | ⟨g,cap,cur,s0,r4,hh,a1,a2,a3,a4,a5⟩
 ·simp at hi
 have hfl:=zsJ es i j r2 hi hj;rw[hd]at hfl;have hlt:i*k+j<es.length*k:=by
  have:i*k+k<=es.length*k:=by rw[<-Nat.succ_mul]; exact Nat.mul_le_mul_right k hi
  omega
 have hcur:es.length*k<=cur.size:=by rw[a3]; exact Nat.mul_le_mul_right k a1
 obtain⟨v,sa,s1,sb,h1,rfl,h3,h4⟩:=zdA.pick es.flatten 0 _ _ (i*k+j) d a5 hfl;rw[Nat.zero_add]at h3 h4;refine⟨g,cap,cur,v,sa,s1,sb,r4,hh,a4,?_,hlt,hcur,h3,fun O' W' F' η' hs' d' v' s1' q1 q2 q3 q4 q5 q6=> ?_⟩
 ·grind
 ·refine⟨by grind,fun x hx=> ?_,.inr ⟨g,cap,_,_,by grind,q6,by grind,a2,by grind,rfl,?_⟩⟩
  ·grind
  grind [zjw,List.take_set]

theorem Rel.openT{σ:St}{a:Act}(h:Rel c σ a W){id nw i j:Nat}{e e':TypeId}{k k':Nat}{r:List (TypeId×Nat)}{hs:List (Nat×AV)}{es xs:List (List D)}(hO:σ.objs id=some (.arr e k (.deep ((e',k')::r) hs) es))(hi:i<es.length)(hj:j<k)
  (hl:hs.lookup (i*k+j)=none) (hd:(es.getD i [])[j]? =some (.sl xs)) (hf:zff nw σ.objs) (hn: ∀t,(σ.tmps t).noRef [nw]):
  Rel c ⟨σ.tmps,upd (upd σ.objs id (some (.arr e k (.deep ((e',k')::r) ((i*k+j,.ar nw xs.length)::hs)) es))) nw (some (.arr e' k' (zj6 r) xs))⟩ a W:=by
 obtain⟨hsz,hdf,F,η,S,hm,hr⟩:=h;obtain⟨g,cap,cur,v,sa,s1,sb,h1,h2,h3,h4,h5,h6,h7,h8⟩:=zwA hm hO hi hj hd;have hne:id≠nw:=by rintro rfl; rw[hf.1]at hO; cases hO
 have h7':zfv W (OwnVals (Own W F r)) e' k' xs v s1:=by
  unfold znF at h7;rw[hl]at h7;exact h7
 have hnd:=hm.nd id;rw[h3]at hnd;obtain⟨O',hO'⟩: ∃O',upd (upd σ.objs id (some (.arr e k (.deep ((e',k')::r) ((i*k+j,.ar nw xs.length)::hs)) es))) nw (some (AO.arr e' k' (zj6 r) xs))=O':=⟨_,rfl⟩;rw[hO'];have e1:O' nw=some (.arr e' k' (zj6 r) xs):=by rw[<-hO']; simp[upd]
 have e2:O' id=some (.arr e k (.deep ((e',k')::r) ((i*k+j,.ar nw xs.length)::hs)) es):=by rw[<-hO']; simp[upd,hne]
 have e3: ∀x,¬(x=id\/x=nw)->O' x=σ.objs x:=fun x hx=>by rw[<-hO']; grind [upd]
 have hk:za7 σ.objs O' η (upd η nw v) [nw]:=by
  intro x o ho;by_cases hx:x=nw
  ·simp_all
  ·right;by_cases hx2:x=id
   ·grind [upd]
   ·rw[e3 x (by omega)]at ho;refine⟨o,ho,?_⟩;cases o <;> simp[upd,hx]
 have hF0: ∀b,F b->F b/\W.heap[b]? =W.heap[b]? :=fun b hb=>⟨hb,rfl⟩;obtain⟨m1,m2⟩:=Mem.update (W':=W) (F':=F) (O':=O') (η':=upd η nw v) (S':=upd (upd S id (g::(sa++sb))) nw s1) hm (fun x=>x=id\/x=nw) [nw] rfl rfl rfl (Nat.le_refl _) (fun _ _ _=>rfl) (fun _ h=>h) (fun _ h=>.inl h)
  (fun x hx=>by
   grind [upd])
  (fun x hx b hb=>by
   have hb':b∈S id:=by
    grind [upd]
   exact⟨(hm.apart id b hb').1,.inl ⟨id,.inl rfl,hb'⟩⟩)
  (fun x y b hx hy hbx hby=>by
   grind [upd])
  (fun x hx=>by
   grind [upd])
  (fun x hx ho=>by
   grind)
  hk (fun x o ho hx=>hf.2 x o ho)
  (fun x o hx ho hF=>by
   rcases hx with rfl | rfl
   ·rw[e2]at ho;cases ho;have hηx:upd η nw v x=η x:=(by simp[upd,hne]);have hSx:upd (upd S x (g::(sa++sb))) nw s1 x=g::(sa++[]++sb):=(by simp[upd,hne]);rw[hηx,hSx];have hset:es.set i ((es.getD i []).set j (.sl xs))=es:=by
     grind [zm7]
    have:=h8 O' W F (upd η nw v) ((i*k+j,.ar nw xs.length)::hs) (.sl xs) v [] (fun m hm=>by grind) (fun x hx v' hv'=>zaL.pres hk hF0 x v' (zqA (hf.2 _ _ hO) x hx) hv') hF0 (fun _ _=>rfl)
     (by
      grind [znF,zaL,upd])
     (by
      grind [Array.ext',Array.toList_setIfInBounds,zm7])
    simp_all
   grind [upd,zkD])
  (fun x lim fam stop l rest hx ho=>by
   grind)
 exact⟨hsz,hdf,F,_,_,m1,fun t=>zaL.pres hk m2 _ _ (hn t) (hr t)⟩

def rmH(c:Nat):List (Nat×AV)->List (Nat×AV)
 | []=>[]
 | (i,x)::r=>if i=c then rmH c r else(i,x)::rmH c r
theorem zkF(c m:Nat): ∀hs:List (Nat×AV),(rmH c hs).lookup m=if m=c then none else hs.lookup m
 | []=>by simp[rmH]
 | (i,x)::r=>by
  simp only[rmH];by_cases h:i=c
  ·subst h;rw[if_pos rfl,zkF i m r];grind
  ·rw[if_neg h,List.lookup_cons];by_cases hm:m=i
   ·simp_all
   ·have:(m==i)=false:=beq_eq_false_iff_ne.2 hm;rw[List.lookup_cons,this];exact zkF c m r

theorem zD8(hm:Mem c O W F η S){id:Nat}{e:TypeId}{k:Nat}{dep:Dep}{es:List (List D)}(hO:O id=some (.arr e k dep es)){i j:Nat}(hi:i<es.length)(hj:j<k): ∃d,(es.getD i [])[j]? =some d:=by
 obtain⟨_,_,r2,_⟩:=(hm.obj id _ hO).arr;simp_all

theorem zF1{cur:Array Value}{n:Nat}{v:Value}(h:cur[n]? =some v):cur.setIfInBounds n v=cur:=by grind

theorem Rel.closeT{σ:St}{a:Act}(h:Rel c σ a W){id nw i j:Nat}{e e':TypeId}{k k':Nat}{r:List (TypeId×Nat)}{hs:List (Nat×AV)}{es xs:List (List D)}(hO:σ.objs id=some (.arr e k (.deep ((e',k')::r) hs) es))(hi:i<es.length)(hj:j<k)
  (hnw:σ.objs nw=some (.arr e' k' (zj6 r) xs)) (hl:hs.lookup (i*k+j)=some (.ar nw xs.length)) (hne:id≠nw):
  Rel c ⟨σ.tmps,upd (upd σ.objs id (some (.arr e k (.deep ((e',k')::r) (rmH (i*k+j) hs)) (es.set i ((es.getD i []).set j (.sl xs)))))) nw none⟩ a W:=by
 obtain⟨hsz,hdf,F,η,S,hm,hr⟩:=h;obtain⟨d,hd⟩:=zD8 hm hO hi hj;obtain⟨g,cap,cur,v,sa,s1,sb,h1,h2,h3,h4,h5,h6,h7,h8⟩:=zwA hm hO hi hj hd;unfold znF at h7;rw[hl]at h7;obtain⟨h7,rfl⟩:=h7;simp only[zaL]at h7;have hv:=(h7 _ _ _ _ hnw).2 rfl;have hrel:=zkD.1 (hm.obj nw _ hnw);obtain⟨O',hO'⟩: ∃O',upd (upd σ.objs id (some (.arr e k (.deep ((e',k')::r) (rmH (i*k+j) hs)) (es.set i ((es.getD i []).set j (.sl xs)))))) nw (none:Option AO)=O':=⟨_,rfl⟩;rw[hO'];have e1:O' nw=none:=by rw[<-hO']; simp[upd]
 have e2:O' id=some (.arr e k (.deep ((e',k')::r) (rmH (i*k+j) hs)) (es.set i ((es.getD i []).set j (.sl xs)))):=by rw[<-hO']; simp[upd,hne]
 have e3: ∀x,¬(x=id\/x=nw)->O' x=σ.objs x:=fun x hx=>by rw[<-hO']; grind [upd]
 have hk:za7 σ.objs O' η η []:=by
  intro x o ho;right;by_cases hx:x=nw
  ·simp_all
  ·by_cases hx2:x=id
   ·grind
   ·rw[e3 x (by omega)]at ho;refine⟨o,ho,?_⟩;cases o <;> simp
 have hF0: ∀b,F b->F b/\W.heap[b]? =W.heap[b]? :=fun b hb=>⟨hb,rfl⟩;obtain⟨m1,m2⟩:=Mem.update (W':=W) (F':=F) (O':=O') (η':=η) (S':=upd (upd S id (g::(sa++S nw++sb))) nw []) hm (fun x=>x=id\/x=nw) [] rfl rfl rfl (Nat.le_refl _) (fun _ _ _=>rfl) (fun _ h=>h) (fun _ h=>.inl h)
  (fun x hx=>by
   grind [upd])
  (fun x hx b hb=>by
   rcases hx with rfl | rfl
   ·simp only[upd,if_neg hne,if_true]at hb;have:b∈S x\/b∈S nw:=by
     grind
    rcases this with hb | hb
    ·exact⟨(hm.apart _ b hb).1,.inl ⟨x,.inl rfl,hb⟩⟩
    ·exact⟨(hm.apart _ b hb).1,.inl ⟨nw,.inr rfl,hb⟩⟩
   ·simp[upd]at hb)
  (fun x y b hx hy hbx hby=>by
   grind [upd])
  (fun x hx=>by
   rcases hx with rfl | rfl
   ·simp only[upd,if_neg hne,if_true];have hnd:=hm.nd x;have hnd2:=hm.nd nw;have hdis: ∀b,b∈S x->b∈S nw->False:=fun b hb hb'=>hne (hm.sep x nw b hb hb');grind
   ·simp[upd])
  (fun x hx ho=>by
   grind [upd])
  hk (fun x o ho hx=>AO.noRef_nil o)
  (fun x o hx ho hF=>by
   rcases hx with rfl | rfl
   ·rw[e2]at ho;cases ho;have hSx:upd (upd S x (g::(sa++S nw++sb))) nw [] x=g::(sa++S nw++sb):=(by simp[upd,hne]);rw[hSx];exact h8 O' W F η (rmH (i*k+j) hs) (.sl xs) v (S nw) (fun m hm=>by rw[zkF,if_neg hm]) (fun x hx v' hv'=>zaL.pres hk hF0 x v' (AV.noRef_nil _) hv') hF0 (fun _ _=>rfl)
     (by
      unfold znF;rw[zkF,if_pos rfl,hv];exact hrel)
     (by rw[h2,zF1 h4])
   simp_all)
  (fun x lim fam stop l rest hx ho=>by
   grind)
 exact⟨hsz,hdf,F,_,_,m1,fun t=>zaL.pres hk m2 _ _ (AV.noRef_nil _) (hr t)⟩

def zFv(c:Nat)(y:AV):List (Nat×AV)->List (Nat×AV)
 | []=>[]
 | (i,x)::r=>if i=c then(i,y)::zFv c y r else(i,x)::zFv c y r
theorem zB9(c m:Nat)(y:AV): ∀hs:List (Nat×AV),(zFv c y hs).lookup m=if m=c then(hs.lookup c).map fun _=>y else hs.lookup m
 | []=>by simp[zFv]
 | (i,x)::r=>by
  have ih:=zB9 c m y r;simp only[zFv];by_cases h:i=c
  ·subst h;rw[if_pos rfl,List.lookup_cons,List.lookup_cons,List.lookup_cons,ih];by_cases hm:m=i
   ·subst hm; simp
   ·have:(m==i)=false:=beq_eq_false_iff_ne.2 hm;simp[this,hm]
  ·rw[if_neg h,List.lookup_cons,List.lookup_cons,List.lookup_cons,ih];have h2:(c==i)=false:=beq_eq_false_iff_ne.2 (fun e=>h e.symm);rw[h2];by_cases hm:m=i
   ·subst hm; simp[h]
   ·have:(m==i)=false:=beq_eq_false_iff_ne.2 hm;simp[this]
def stD(P:Program)(ρ:Operand->AV)(O:zbI)(t:TypeId)(x v:Operand):Option (Prop×Nat×AO):=
 match lay P t,ρ x with
 | some (false,1),.ep id m i off=>match O id with
  | some (.arr e k (.deep tys hs) es)=>some ((m=es.length/\i<es.length/\off<k)/\(hs.lookup (i*k+off)).isSome =true/\(ρ v).one O,id,.arr e k (.deep tys (zFv (i*k+off) (ρ v) hs)) es)
  | _=>none
 | _,_=>none

theorem stD_sound(hm:Mem c O W F η S){ρ:Operand->AV}{a:Operand->Value}(hρ: ∀x,zaL O W F η (ρ x) (a x)){t:TypeId}{x v:Operand}{vc:Prop}{id:Nat}{o':AO}(h:stD c.P ρ O t x v=some (vc,id,o'))(hvc:vc):
  ∃W',(Instr.storeAt t (a x) (a v)).run c.P W= .ok () W'/\Mem c (upd O id (some o')) W' F η S/\za7 O (upd O id (some o')) η η []/\ ∀b,F b->F b/\W'.heap[b]? =W.heap[b]? :=by
 unfold stD at h;split at h
 case h_2=>cases h
 rename_i id' m i off hlay hid;split at h
 case h_2=>cases h
 rename_i e k tys hs es hO;simp only[Option.some.injEq,Prod.mk.injEq]at h;obtain⟨rfl,rfl,rfl⟩:=h;obtain⟨⟨hmm,hi,hoff⟩,hhole,hone⟩:=hvc;have hx:=hρ x;rw[hid]at hx;simp only[zaL]at hx;obtain⟨g0,len,cap0,hη,hp⟩:=(hx _ _ _ _ hO).2 hmm;obtain⟨d,hd⟩:=zD8 hm hO hi hoff;obtain⟨g,cap,cur,u,sa,s1,sb,h1,h2,h3,h4,h5,h6,h7,h8⟩:=zwA hm hO hi hoff hd;rw[h1]at hη;simp only[Value.slice.injEq,Option.some.injEq,Addr.mk.injEq,and_true]at hη;obtain⟨rfl,_,_⟩:=hη;have hcells:(a v).cells =#[a v]:=ztG hm (hρ v) hone;have hones: ∀u∈(a v).cells.toList,u.oneCell'=true:=zjD hm [ρ v] _ (by grind [zaN]) ⟨hone,trivial⟩;have hrun:=zoI (P:=c.P) hlay (off:=i*k+off) h2 (v:=a v) (by simp_all) (by omega) hones;have hs0:s1=[]:=by
  grind [znF]
 subst hs0;have hk:za7 O (upd O id' (some (.arr e k (.deep tys (zFv (i*k+off) (ρ v) hs)) es))) η (upd η id' (η id')) []:=by
  rw[zcb];intro j o ho;by_cases hj:j=id'
  ·grind [upd]
  ·simp only[upd,if_neg hj]at ho;exact za7.refl O η j o ho
 have hset:=setRow_heap W g cur (cur.toList.take (i*k+off)++(a v).cells.toList ++cur.toList.drop (i*k+off+1)).toArray e (0,0) h2;obtain⟨f1,f2,f3,f4⟩:=zgh W g (cur.toList.take (i*k+off)++(a v).cells.toList ++cur.toList.drop (i*k+off+1)).toArray;have hother: ∀b,b≠g->(W.setRow g (cur.toList.take (i*k+off)++(a v).cells.toList ++cur.toList.drop (i*k+off+1)).toArray).heap[b]? =W.heap[b]? :=fun b hb=>setRow_other W g b _ hb;obtain⟨m1,m2⟩:=Mem.change (F':=F) hm id' (some (.arr e k (.deep tys (zFv (i*k+off) (ρ v) hs)) es)) (η id') (S id') [] f1 f2 f3 (by omega)
  (fun j _ hj=>hother j (by simp_all)) (fun _ h=>h) (fun _ h=>.inl h) (fun j hj=>(hm.apart id' j hj).1) (hm.nd id') (fun j hj=>.inl hj) (fun h=>by cases h) hk
  (fun j o _ _=>AO.noRef_nil o)
  (fun o ho hF=>by
   cases ho;rw[zcb]at hk ⊢;have hset2:es.set i ((es.getD i []).set off d)=es:=by
    grind [zm7]
   have hnd:=hm.nd id';rw[h3,List.nodup_cons]at hnd;have:=h8 (upd O id' (some (.arr e k (.deep tys (zFv (i*k+off) (ρ v) hs)) es))) _ F η (zFv (i*k+off) (ρ v) hs) d (a v) [] (fun m hm=>by
     rw[zB9,if_neg hm]) (fun x hx v' hv'=>zaL.pres hk hF x v' (AV.noRef_nil _) hv') hF
    (fun b hb=>hother b (by grind))
    (by
     obtain⟨y0,hy0⟩:=Option.isSome_iff_exists.1 hhole;unfold znF;rw[zB9,if_pos rfl,hy0];exact⟨zaL.pres hk hF _ _ (AV.noRef_nil _) (hρ v),rfl⟩)
    (by
     rw[hset];congr 2;grind [Array.toList_setIfInBounds,List.set_eq_take_append_cons_drop])
   simp_all)
 grind [zcb]
end
end Go.Aw
