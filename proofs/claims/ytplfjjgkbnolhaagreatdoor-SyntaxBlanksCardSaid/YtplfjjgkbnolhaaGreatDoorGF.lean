/- Machinery. Conditions: those of each. -/
import Derived.Test.YtplfjjgkbnolhaaGreatDoorGM
set_option linter.unusedSimpArgs false
set_option linter.unusedVariables false
/-
 OWN THINGS READ AS PLAIN DATA: 'frz'.
 Conditions: none; over any program.
-/
namespace Go.Aw
open Go.RowKit

def znG(O:zbI):AV->Option (Prop×D×List Nat)
 | .d x=>some (True,x,[])
 | .nils =>some (True,.sl [],[])
 | .emp =>some (True,.sl [],[])
 | .ar id n=>match O id with
  | some (.arr _ _ .flat es)=>some (n=es.length,.sl es,[id])
  | some (.arr _ _ (.deep _ []) es)=>some (n=es.length,.sl es,[id])
  | _=>none
 | .mo id=>match O id with
  | some (.map ks vs bs clock)=>some (True,.mp ks vs bs clock,[id])
  | _=>none
 | .sub id n lo hi=>match O id with
  | some (.arr _ _ .flat es)=>some (n=es.length/\lo<=hi/\hi<=es.length,.sl ((es.drop lo).take (hi-lo)),[id])
  | _=>none
 | .agg cs=>(frzcL cs).map fun r=>(r.1,.agg r.2.1,r.2.2)
 | _=>none
where frzcL:List AV->Option (Prop×List D×List Nat)
 | []=>some (True,[],[])
 | x::xs=>match znG O x,frzcL xs with
  | some (p,y,l),some (q,ys,m)=>some (p/\q,y::ys,l++m)
  | _,_=>none
def frz(O:zbI):AV->Option (Prop×D×List Nat)
 | .bp id off=>match O id with
  | some (.box cs)=>(znG.frzcL O cs).map fun r=>(r.1,.ptr (r.2.1.drop off),id::r.2.2)
  | _=>none
 | .agg cs=>(frzL cs).map fun r=>(r.1,.agg r.2.1,r.2.2)
 | .clo f fs cs=>match frzL fs,frzL cs with
  | some (p,a,l),some (q,b,m)=>some (p/\q,.clo f a b,l++m)
  | _,_=>none
 | x=>znG O x
where frzL:List AV->Option (Prop×List D×List Nat)
 | []=>some (True,[],[])
 | x::xs=>match frz O x,frzL xs with
  | some (p,y,l),some (q,ys,m)=>some (p/\q,y::ys,l++m)
  | _,_=>none

theorem zav.drop'{W:World}{F:Nat->Prop}: ∀(ds:List D) (vs:List Value) (n:Nat),zav W F ds vs->zav W F (ds.drop n) (vs.drop n)
 | _,_,0,h=>h
 | [],vs,n+1,h=>by simp only[zav]at h; subst h; simp only[List.drop_nil,zav]
 | d::ds,vs,n+1,h=>by
  simp only[zav]at h;obtain⟨v,rest,rfl,_,h2⟩:=h;exact zav.drop' ds rest n h2

theorem ziZ{O:zbI}{W:World}{F:Nat->Prop}{η:Nat->Value}{tys:List (TypeId×Nat)}: ∀(ds:List D) (i:Nat) (vs:List Value) (s:List Nat),zdA O W F η tys [] i ds vs s↔OwnVals (Own W F tys) ds vs s
 | [],_,_,_=>by simp only[zdA,OwnVals]
 | d::ds,i,vs,s=>by simp only[zdA,OwnVals,List.lookup_nil,ziZ ds]

section
variable {c:Ctx} {O:zbI} {W:World} {F F':Nat->Prop} {η:Nat->Value} {S:Nat->List Nat}
mutual
theorem zog(hm:Mem c O W F η S)(hF: ∀b,F b->F' b): ∀(x:AV) (v:Value) (r:Prop×D×List Nat),zaL O W F η x v->znG O x=some r->r.1->(∀id∈r.2.2,∀b∈S id,F' b)->Rd W F' r.2.1 v
 | .d x,v,r,h,hr,_,_=>by
  simp only[znG,Option.some.injEq]at hr;subst hr;simp only[zaL]at h;exact Rd.mono (fun b hb=>⟨hF b hb,rfl⟩) x v h
 | .nils,v,r,h,hr,_,_=>by
  simp only[znG,Option.some.injEq]at hr;subst hr;simp only[zaL]at h;subst h;simp only[Rd];exact⟨⟨none,0,rfl,Nat.le_refl _,fun h=>absurd rfl h⟩,by simp⟩
 | .emp,v,r,h,hr,_,_=>by
  simp only[znG,Option.some.injEq]at hr;subst hr;simp only[zaL]at h;obtain⟨b,rfl⟩:=h;simp only[Rd];exact⟨⟨some ⟨b,0,none⟩,0,rfl,Nat.le_refl _,fun h=>absurd rfl h⟩,by simp⟩
 | .ar id n,v,r,h,hr,hvc,hs=>by
  simp only[znG]at hr;split at hr
  ·rename_i e k es hO;simp only[Option.some.injEq]at hr;subst hr;simp only[zaL]at h;rw[(h _ _ _ _ hO).2 hvc];have hrel:=hm.obj id _ hO;exact zfv.rd (fun b hb=>hs id (by simp) b hb) (fun xs vs s' hs'=>OwnVals.rd xs vs s' (fun x v s'' hs'' hx=>Own.rd hF [] x v s'' (fun b hb=>hs id (by simp) b (hs' b (hs'' b hb))) hx)) hrel
  ·rename_i e k tys es hO;simp only[Option.some.injEq]at hr;subst hr;simp only[zaL]at h;rw[(h _ _ _ _ hO).2 hvc];have hrel:=hm.obj id _ hO;exact zfv.rd (fun b hb=>hs id (by simp) b hb) (fun xs vs s' hs' hx=>OwnVals.rd xs vs s' (fun x v s'' hs'' hx=>Own.rd hF tys x v s'' (fun b hb=>hs id (by simp) b (hs' b (hs'' b hb))) hx) ((ziZ _ _ _ _).1 hx)) hrel
  ·cases hr
 | .mo id,v,r,h,hr,hvc,hs=>by
  simp only[znG]at hr;split at hr
  ·rename_i ks vs bs clock hO;simp only[Option.some.injEq]at hr;subst hr;simp only[zaL]at h;rw[h _ hO rfl];obtain⟨b,h1,h2,es,h3,h4,h5,h6⟩:=hm.obj id _ hO;simp only[Rd];have hF': ∀b,F b->F' b/\W.heap[b]? =W.heap[b]? :=fun b hb=>⟨hF b hb,rfl⟩;exact⟨b,es,h1,hs id (by simp) b (by rw[h2]; simp),h3,zav.mono hF' _ _ h4,zav.mono hF' _ _ h5,h6⟩
  ·cases hr
 | .sub id n lo hi,v,r,h,hr,hvc,hs=>by
  simp only[znG]at hr;split at hr
  ·rename_i e k es hO;simp only[Option.some.injEq]at hr;subst hr;obtain⟨rfl,hle,hle2⟩:=hvc;simp only[zaL]at h;obtain⟨g,len,cap,h1,rfl⟩:=(h _ _ _ _ hO).2 rfl;have hrel:=hm.obj id _ hO;have hk:=hrel.2.1;have hfull:Rd W F' (.sl es) (η id):=zfv.rd (fun b hb=>hs id (by simp) b hb) (fun xs vs s' hs'=>OwnVals.rd xs vs s' (fun x v s'' hs'' hx=>Own.rd hF [] x v s'' (fun b hb=>hs id (by simp) b (hs' b (hs'' b hb))) hx)) hrel;simp only[Rd]at hfull ⊢;obtain⟨⟨ad,cap',e1,hcap,hr⟩,hmax⟩:=hfull;rw[h1]at e1;simp only[Value.slice.injEq]at e1;obtain⟨rfl,rfl,rfl⟩:=e1;have hsl:((es.drop lo).take (hi-lo)).length =hi-lo:=by rw[List.length_take,List.length_drop]; omega
   rw[hsl];refine⟨⟨_,cap-lo,rfl,by omega,fun hne=> ?_⟩,by omega⟩;obtain⟨b,off,k',e2,hFb,hrows⟩:=hr (by omega);simp only[Option.some.injEq,Addr.mk.injEq,and_true]at e2;obtain⟨rfl,rfl⟩:=e2;have hkk:k'=k:=by
    obtain⟨e0,es0,rfl⟩: ∃e0 es0,es=e0::es0:=List.exists_cons_of_ne_nil (by rintro rfl; simp at hle2; omega);simp only[zbJ]at hrows;rw[<-hrows.1.1]; exact hk e0 (by simp)
   subst hkk;rw[if_neg (by omega)];exact⟨g,lo*k',k',rfl,hFb,by have:=zbJ.mid es 0 lo (hi-lo) hrows; rwa [Nat.zero_add]at this⟩
  ·cases hr
 | .agg cs,v,r,h,hr,hvc,hs=>by
  simp only[znG,Option.map_eq_some_iff]at hr;obtain⟨r',h1,rfl⟩:=hr;simp only[zaL]at h;obtain⟨vs,rfl,h2⟩:=h;simp only[Rd];exact⟨vs,rfl,zwV hm hF cs vs r' h2 h1 hvc hs⟩
 | .dead,_,_,_,hr,_,_ | .und,_,_,_,hr,_,_ | .ep ..,_,_,_,hr,_,_ | .bp ..,_,_,_,hr,_,_ | .yv _,_,_,_,hr,_,_ | .clo ..,_,_,_,hr,_,_ | .tup _,_,_,_,hr,_,_=>by simp[znG]at hr
theorem zwV(hm:Mem c O W F η S)(hF: ∀b,F b->F' b): ∀(xs:List AV) (vs:List Value) (r:Prop×List D×List Nat),zaN O W F η xs vs->znG.frzcL O xs=some r->r.1->(∀id∈r.2.2,∀b∈S id,F' b)->zav W F' r.2.1 vs
 | [],vs,r,h,hr,_,_=>by
  simp only[znG.frzcL,Option.some.injEq]at hr;subst hr;simpa only[zaN,zav]using h
 | x::xs,vs,r,h,hr,hvc,hs=>by
  simp only[znG.frzcL]at hr;split at hr
  ·rename_i p y l q ys m h1 h2;simp only[Option.some.injEq]at hr;subst hr;simp only[zaN]at h;obtain⟨v,rest,rfl,h3,h4⟩:=h;simp only[zav];exact⟨v,rest,rfl,zog hm hF x v _ h3 h1 hvc.1 (fun id hid=>hs id (List.mem_append.2 (.inl hid))),zwV hm hF xs rest _ h4 h2 hvc.2 (fun id hid=>hs id (List.mem_append.2 (.inr hid)))⟩
  ·cases hr
end

mutual
theorem zsO(hm:Mem c O W F η S)(hF: ∀b,F b->F' b): ∀(x:AV) (v:Value) (r:Prop×D×List Nat),zaL O W F η x v->frz O x=some r->r.1->(∀id∈r.2.2,∀b∈S id,F' b)->Rd W F' r.2.1 v
 | .bp id off,v,r,h,hr,hvc,hs=>by
  simp only[frz]at hr;split at hr
  ·rename_i cs hO;simp only[Option.map_eq_some_iff]at hr;obtain⟨r',h1,rfl⟩:=hr;simp only[zaL]at h;obtain⟨b,hη,rfl⟩:=h _ hO;obtain⟨b',cur,e,h2,h3,h4,h5⟩:=hm.obj id _ hO;rw[hη]at h2;simp only[Value.pointer.injEq,Option.some.injEq,Addr.mk.injEq,and_true]at h2;subst h2;have h6:=zwV hm hF cs _ r' h5 h1 hvc (fun id' hid=>hs id' (by simp[hid]));simp only[Rd];refine⟨b,off,rfl,hs id (by simp) b (by rw[h3]; simp),?_⟩;refine zbd.of_vals F' _ (cur.toList.drop off) off (fun j v hj=> ?_) (zav.drop' _ _ off h6);simp only[World.cell?,h4];rw[List.getElem?_drop]at hj;simpa using hj
  ·cases hr
 | .agg cs,v,r,h,hr,hvc,hs=>by
  simp only[frz,Option.map_eq_some_iff]at hr;obtain⟨r',h1,rfl⟩:=hr;simp only[zaL]at h;obtain⟨vs,rfl,h2⟩:=h;simp only[Rd];exact⟨vs,rfl,zmx hm hF cs vs r' h2 h1 hvc hs⟩
 | .clo f fs cs,v,r,h,hr,hvc,hs=>by
  simp only[frz]at hr;split at hr
  ·rename_i p a l q b m h1 h2;simp only[Option.some.injEq]at hr;subst hr;simp only[zaL]at h;obtain⟨x,y,rfl,h3,h4⟩:=h;simp only[Rd];exact⟨x,y,rfl,zmx hm hF fs x _ h3 h1 hvc.1 (fun id hid=>hs id (List.mem_append.2 (.inl hid))),zmx hm hF cs y _ h4 h2 hvc.2 (fun id hid=>hs id (List.mem_append.2 (.inr hid)))⟩
  ·cases hr
 | .d x,v,r,h,hr,hvc,hs=>zog hm hF (.d x) v r h (by simpa only[frz]using hr) hvc hs
 | .nils,v,r,h,hr,hvc,hs=>zog hm hF .nils v r h (by simpa only[frz]using hr) hvc hs
 | .emp,v,r,h,hr,hvc,hs=>zog hm hF .emp v r h (by simpa only[frz]using hr) hvc hs
 | .ar id n,v,r,h,hr,hvc,hs=>zog hm hF (.ar id n) v r h (by simpa only[frz]using hr) hvc hs
 | .mo id,v,r,h,hr,hvc,hs=>zog hm hF (.mo id) v r h (by simpa only[frz]using hr) hvc hs
 | .sub id n lo hi,v,r,h,hr,hvc,hs=>zog hm hF (.sub id n lo hi) v r h (by simpa only[frz]using hr) hvc hs
 | .dead,_,_,_,hr,_,_ | .und,_,_,_,hr,_,_ | .ep ..,_,_,_,hr,_,_ | .yv _,_,_,_,hr,_,_ | .tup _,_,_,_,hr,_,_=>by simp[frz,znG]at hr
theorem zmx(hm:Mem c O W F η S)(hF: ∀b,F b->F' b): ∀(xs:List AV) (vs:List Value) (r:Prop×List D×List Nat),zaN O W F η xs vs->frz.frzL O xs=some r->r.1->(∀id∈r.2.2,∀b∈S id,F' b)->zav W F' r.2.1 vs
 | [],vs,r,h,hr,_,_=>by
  simp only[frz.frzL,Option.some.injEq]at hr;subst hr;simpa only[zaN,zav]using h
 | x::xs,vs,r,h,hr,hvc,hs=>by
  simp only[frz.frzL]at hr;split at hr
  ·rename_i p y l q ys m h1 h2;simp only[Option.some.injEq]at hr;subst hr;simp only[zaN]at h;obtain⟨v,rest,rfl,h3,h4⟩:=h;simp only[zav];exact⟨v,rest,rfl,zsO hm hF x v _ h3 h1 hvc.1 (fun id hid=>hs id (List.mem_append.2 (.inl hid))),zmx hm hF xs rest _ h4 h2 hvc.2 (fun id hid=>hs id (List.mem_append.2 (.inr hid)))⟩
  ·cases hr
end

end
end Go.Aw
