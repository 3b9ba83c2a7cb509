/- Machinery. Conditions: those of each. -/
import Derived.Test.YtplfjjgkbnolhaaGreatDoorGCh
import Derived.Scope
set_option linter.unusedSimpArgs false
set_option linter.unusedVariables false
/-
 THE SAME: CODE. Steps of the proof alone.
 Conditions: none; over any program under 'mixedOrders'.
-/
namespace Go.Aw
open Go.RowKit

def zry(K:EK)(Q:EQ):EQ
 | .normal,t,o=>K t o
 | e,t,o=>Q e t o
def zlk(id:Nat)(Q:EQ):EQ
 | .exit id',t,o=>if id'=id then Q .normal t o else Q (.exit id') t o
 | e,t,o=>Q e t o
def noGo(Q:EQ):EQ
 | .goto _,_,_=>False
 | e,t,o=>Q e t o
def keepT(t:TL):List Nat->TL
 | []=>[]
 | i::r=>(i,tm t i)::keepT t r
inductive Gh where
 | keep (ts:List Nat)
 | adT (u id:Nat) (e:TypeId) (k:Nat)
 | adB (b i id:Nat) (e:TypeId) (k:Nat)
 | adTd (u id:Nat) (e:TypeId) (k:Nat) (r:List (TypeId×Nat))
 | adBd (b i id:Nat) (e:TypeId) (k:Nat) (r:List (TypeId×Nat))
 | opn (id i j nw:Nat) (xs:List (List D))
 | cls (id i j nw:Nat)
 | frz (id:Nat)
 | ord (r:Ord)
 | chn
 | rnm (r:List (Nat×Nat))
 | flt (r:Ord) (f:Flo)
 | tre (r:Ord) (T:OT)
 | toD (id i j:Nat) (x:D)
 | toF (id i j:Nat)
 | adH (id i j nw:Nat) (e:TypeId) (k:Nat)
def renT(r:List (Nat×Nat)):TL->TL
 | []=>[]
 | (i,x)::l=>(i,x.ren r)::renT r l
theorem tm_renT(r:List (Nat×Nat))(i:Nat): ∀t:TL,tm (renT r t) i=(tm t i).ren r
 | []=>by rfl
 | (j,x)::l=>by
  simp only[renT,tm];split
  ·rfl
  ·exact tm_renT r i l
def moD:D->AV
 | .mp ks vs bs clock=>.d (.mp ks vs bs clock)
 | _=>.dead
def bpD(off:Nat)(d:D):AV:=match off,d with
 | 0,.ptr ds=>.d (.ptr ds)
 | _,_=>.dead
def AV.fz(id:Nat)(d:D)(m:Option Nat):AV->AV
 | .ar i n=>if i=id then(if some n=m then .d d else .dead)else .ar i n
 | .mo i=>if i=id then(if m=none then moD d else .dead)else .mo i
 | .tup cs=>.tup (fzL cs)
 | .agg cs=>zu0 (fzL cs)
 | .clo f fs cs=>mkClo f (fzL fs) (fzL cs)
 | .bp i off=>if i=id then bpD off d else .bp i off
 | x=>x
where fzL:List AV->List AV
 | []=>[]
 | x::xs=>AV.fz id d m x::fzL xs
def fzT(id:Nat)(d:D)(m:Option Nat):TL->TL
 | []=>[]
 | (i,x)::r=>(i,x.fz id d m)::fzT id d m r
def fzH(id:Nat)(d:D)(m:Option Nat):List (Nat×AV)->List (Nat×AV)
 | []=>[]
 | (i,x)::r=>(i,x.fz id d m)::fzH id d m r
def AO.fz(id:Nat)(d:D)(m:Option Nat):AO->AO
 | .box cs=>.box (AV.fz.fzL id d m cs)
 | .gh cs vs=>.gh (AV.fz.fzL id d m cs) vs
 | .arr e k (.deep tys hs) es=>.arr e k (.deep tys (fzH id d m hs)) es
 | o=>o
def fzO(id:Nat)(d:D)(m:Option Nat):OL->OL
 | []=>[]
 | (i,x)::r=>(i,x.fz id d m)::fzO id d m r
def zgq:AO->Option (D×Option Nat)
 | .arr _ _ .flat es=>some (.sl es,some es.length)
 | .arr _ _ (.deep _ []) es=>some (.sl es,some es.length)
 | .map ks vs bs clock=>some (.mp ks vs bs clock,none)
 | .box cs=>(zwy cs).map fun ds=>(.ptr ds,none)
 | _=>none
def zpg:AV->Bool
 | .nils =>true
 | _=>false
def isNilO:Option AV->Bool
 | some .nils =>true
 | _=>false
def gh1(g:Gh)(t:TL)(o:OL):Option (Prop×TL×OL):=
 match g with
 | .keep ts=>some (True,keepT t ts,o)
 | .adT u id e k=>some (zpg (tm t u)=true/\zjA id o/\zjB id t,(u,.ar id 0)::t,(id,.arr e k .flat [])::o)
 | .adB b i id e k=>match om o b with
  | some (.box cs)=>some (zpg (cs.getD i .dead)=true/\zjA id o/\zjB id t,t,(b,.box (cs.set i (.ar id 0)))::zdb [b] ((id,.arr e k .flat [])::o))
  | _=>none
 | .adTd u id e k r=>some (zpg (tm t u)=true/\zjA id o/\zjB id t,(u,.ar id 0)::t,(id,.arr e k (zj6 r) [])::o)
 | .adBd b i id e k r=>match om o b with
  | some (.box cs)=>some (zpg (cs.getD i .dead)=true/\zjA id o/\zjB id t,t,(b,.box (cs.set i (.ar id 0)))::zdb [b] ((id,.arr e k (zj6 r) [])::o))
  | _=>none
 | .opn id i j nw xs=>match om o id with
  | some (.arr e k (.deep ((e',k')::r) hs) es)=>some ((i<es.length/\j<k/\hs.lookup (i*k+j)=none/\(es.getD i [])[j]? =some (.sl xs))/\zjA nw o/\zjB nw t,t,
    (nw,.arr e' k' (zj6 r) xs)::(id,.arr e k (.deep ((e',k')::r) ((i*k+j,.ar nw xs.length)::hs)) es)::zdb [id] o)
  | _=>none
 | .cls id i j nw=>match om o id,om o nw with
  | some (.arr e k (.deep ((e',k')::r) hs) es),some (.arr e2 k2 dep xs)=>some ((i<es.length/\j<k/\hs.lookup (i*k+j)=some (.ar nw xs.length))/\(e2=e'/\k2=k'/\dep=zj6 r)/\id≠nw,t,
    (id,.arr e k (.deep ((e',k')::r) (rmH (i*k+j) hs)) (es.set i ((es.getD i []).set j (.sl xs))))::zdb [id,nw] o)
  | _,_=>none
 | .frz id=>match om o id with
  | some ob=>match zgq ob with
   | some (d,m)=>some (True,fzT id d m t,fzO id d m (zdb [id] o))
   | none=>none
  | none=>none
 | .ord _=>some (True,t,o)
 | .chn =>some (True,t,o)
 | .rnm r=>some (zpV r/\domR r o,renT r t,zID r o)
 | .flt _ _=>some (True,t,o)
 | .tre _ _=>some (True,t,o)
 | .toD id i j x=>match om o id with
  | some (.arr e k .flat es)=>some ((i<es.length/\j<k)/\(es.getD i [])[j]? =some x,t,(id,.arr e k (.deep [] [(i*k+j,.d x)]) es)::zdb [id] o)
  | _=>none
 | .toF id i j=>match om o id with
  | some (.arr e k (.deep [] [(q,.d x)]) es)=>some (i<es.length/\j<k/\q=i*k+j,t,(id,.arr e k .flat (es.set i ((es.getD i []).set j x)))::zdb [id] o)
  | _=>none
 | .adH id i j nw e' k'=>match om o id with
  | some (.arr e k (.deep tys hs) es)=>some (((i<es.length/\j<k)/\isNilO (hs.lookup (i*k+j))=true)/\zjA nw o/\zjB nw t,t,(id,.arr e k (.deep tys (zFv (i*k+j) (.ar nw 0) hs)) es)::zdb [id] ((nw,.arr e' k' .flat [])::o))
  | _=>none
def ghE(l:List Gh)(K:EK)(t:TL)(o:OL):Prop:=
 match l with
 | []=>K t o
 | g::gs=>match gh1 g t o with
  | some (p,t',o')=>p/\ghE gs K t' o'
  | none=>False
def eCond(x:AV)(K K':EK)(t:TL)(o:OL):Prop:=
 match x with
 | .d (.lit (.bool b))=>if b=true then K t o else K' t o
 | _=>False
def PxOk(N:NP)(Q:EQ):Prop:= ∀v o,N.px v o->Q (.panic [{v:=v,recovered:=false}]) [] o
noncomputable def ELoop(P:Program)(N:NP)(x:Code)(Q:EQ)(t:TL)(o:OL):Prop:=PxOk N Q->AWp P N (.loop x) (liftQ Q) ⟨tm t,om o⟩
noncomputable def zrZ(P:Program)(N:NP)(x:Code)(Q:EQ)(t:TL)(o:OL):Prop:=PxOk N Q->AWp P N x (liftQ Q) ⟨tm t,om o⟩
noncomputable def eDrawn(P:Program)(N:NP)(l2:List Gh)(ops:Array Oper)(K:EK)(t:TL)(o:OL):Prop:=
 match l2 with
 | [.ord r]=>ordB .any ops r=true/\eZ P N ops r.steps K (zjR (zk8 ops r.steps) t) o
 | [.flt r f]=>ordFB .any ops r f=true/\fltOk P N ops f.fs/\eZF P N ops f.of r.steps K (zjR (fltD ops f.fs) (zjR (zk8 ops r.steps) t)) o
 | [.chn,.ord r]=>ordB .any ops r=true/\eZC P N ops r.steps K [] (zjR (zk8 ops r.steps) t) o
 | [.tre r T]=>ordTB .any ops r T=true/\eZT P N r ops T K (zjR (zk8 ops r.steps) t) o
 | _=>zsx .any ops (znT ops.toList)=true/\eDr P N ops (znT ops.toList) 0 ops.toList K t o
noncomputable def eReg(P:Program)(N:NP)(l l2:List Gh)(ops:Array Oper)(draw:Bool)(Q:EQ)(t:TL)(o:OL):Prop:=
 match draw with
 | false=>match l2 with
  | [.chn]=>eCh P N ops ops.toList (ghE l (Q .normal)) [] t o
  | _=>eOps P N ops ops.toList (ghE l (Q .normal)) t o
 | true=>eDrawn P N l2 ops (ghE l (Q .normal)) t o
noncomputable def eC(P:Program)(N:NP)(L:Nat->List Gh):Code->EQ->TL->OL->Prop
 | .skip,Q,t,o=>Q .normal t o
 | .label _,Q,t,o=>Q .normal t o
 | .exit id,Q,t,o=>Q (.exit id) t o
 | .ret,Q,t,o=>Q .ret t o
 | .seq x y,Q,t,o=>eC P N L x (zry (eC P N L y Q) Q) t o
 | .block id x,Q,t,o=>eC P N L x (zlk id Q) t o
 | .cond x y z,Q,t,o=>eCond (St.ev (tm t) x) (eC P N L y Q) (eC P N L z Q) t o
 | .region id ops draw,Q,t,o=>ghE (L (id+1000)) (eReg P N (L id) (L (id+2000)) ops draw Q) t o
 | .loop x,Q,t,o=>ELoop P N x Q t o
 | .rangeFunc f ps x y,Q,t,o=>zrZ P N (.rangeFunc f ps x y) Q t o
 | .scope x,Q,t,o=>eC P N L x (noGo Q) t o
 | .goto l,Q,t,o=>Q (.goto l) t o
 | .refuse w,Q,t,o=>zrZ P N (.refuse w) Q t o

theorem keepT_sub(t:TL)(ts:List Nat)(o:OL):Sub ⟨tm t,om o⟩ ⟨tm (keepT t ts),om o⟩:=by
 refine znd (fun i=> ?_) (fun _=>.inr rfl)
 induction ts with
 | nil=>exact .inl rfl
 | cons j r ih=>
  grind [keepT,tm]

theorem zaN.setD{O:zbI}{W:World}{F:Nat->Prop}{η:Nat->Value}: ∀(cs:List AV) (vs:List Value) (i:Nat) (x:AV),zaN O W F η cs vs->(∀v,zaL O W F η (cs.getD i .dead) v->zaL O W F η x v)->zaN O W F η (cs.set i x) vs
 | [],_,_,_,h,_=>by simpa using h
 | y::cs,vs,0,x,h,hx=>by
  grind [zaN]
 | y::cs,vs,i+1,x,h,hx=>by
  simp only[zaN,List.set_cons_succ]at h ⊢;obtain⟨v,rest,h1,h2,h3⟩:=h;exact⟨v,rest,h1,h2,zaN.setD cs rest i x h3 (fun v hv=>hx v (by simpa using hv))⟩
theorem Rel.adopt{c:Ctx}{σ:St}{a:Act}{W:World}(h:Rel c σ a W){id:Nat}(hf:zff id σ.objs)(hn: ∀t,(σ.tmps t).noRef [id])(e:TypeId)(k:Nat)(r:List (TypeId×Nat)){tmps':Nat->AV}
  (ht: ∀t,tmps' t=σ.tmps t\/(σ.tmps t= .nils /\tmps' t= .ar id 0)):Rel c ⟨tmps',upd σ.objs id (some (.arr e k (zj6 r) []))⟩ a W:=by
 obtain⟨hsz,hdf,F,η,S,hm,hr⟩:=h;have hk:=za7.newA σ.objs η id (.arr e k (zj6 r) []) (.slice none 0 0);obtain⟨m1,m2⟩:=Mem.change (W':=W) (F':=F) hm id (some (.arr e k (zj6 r) [])) (.slice none 0 0) [] [id] rfl rfl rfl (Nat.le_refl _) (fun _ _ _=>rfl) (fun _ h=>h) (fun _ h=>.inl h) (by simp) (by simp) (by simp) (fun _=>rfl) hk
  (fun i o ho _=>hf.2 i o ho) (fun o ho _=>by cases ho; exact zkD.2 ⟨by simp,by simp,.inl ⟨⟨_,rfl⟩,rfl,rfl⟩⟩)
 refine⟨hsz,hdf,F,_,_,m1,fun t=> ?_⟩;grind [zaL.pres,zaL,upd]
theorem Rel.adoptB{c:Ctx}{σ:St}{a:Act}{W:World}(h:Rel c σ a W){id b i:Nat}{cs:List AV}(hb:σ.objs b=some (.box cs))(hi:zpg (cs.getD i .dead)=true)(hf:zff id σ.objs)(hn: ∀t,(σ.tmps t).noRef [id])(e:TypeId)(k:Nat)(r:List (TypeId×Nat)):
  Rel c ⟨σ.tmps,upd (upd σ.objs id (some (.arr e k (zj6 r) []))) b (some (.box (cs.set i (.ar id 0))))⟩ a W:=by
 obtain⟨hsz,hdf,F,η,S,hm,hr⟩:=h;have hbi:b≠id:=by rintro rfl; rw[hf.1]at hb; cases hb
 have hk:=za7.newA σ.objs η id (.arr e k (zj6 r) []) (.slice none 0 0);obtain⟨m1,m2⟩:=Mem.change (W':=W) (F':=F) hm id (some (.arr e k (zj6 r) [])) (.slice none 0 0) [] [id] rfl rfl rfl (Nat.le_refl _) (fun _ _ _=>rfl) (fun _ h=>h) (fun _ h=>.inl h) (by simp) (by simp) (by simp) (fun _=>rfl) hk
  (fun i o ho _=>hf.2 i o ho) (fun o ho _=>by cases ho; exact zkD.2 ⟨by simp,by simp,.inl ⟨⟨_,rfl⟩,rfl,rfl⟩⟩)
 have hb1:upd σ.objs id (some (AO.arr e k (zj6 r) [])) b=some (.box cs):=by simp[upd,hbi,hb]
 have hk2:za7 (upd σ.objs id (some (.arr e k (zj6 r) []))) (upd (upd σ.objs id (some (.arr e k (zj6 r) []))) b (some (.box (cs.set i (.ar id 0))))) (upd η id (.slice none 0 0)) (upd (upd η id (.slice none 0 0)) b (upd η id (.slice none 0 0) b)) []:=by
  rw[zcb];intro j o' ho;by_cases hj:j=b
  ·grind [upd]
  ·simp only[upd,if_neg hj]at ho;exact za7.refl _ _ j o' ho
 obtain⟨n1,n2⟩:=Mem.change (W':=W) (F':=F) m1 b (some (.box (cs.set i (.ar id 0)))) (upd η id (.slice none 0 0) b) (upd S id [] b) [] rfl rfl rfl (Nat.le_refl _) (fun _ _ _=>rfl) (fun _ h=>h) (fun _ h=>.inl h) (fun x hx=>(m1.apart b x hx).1) (m1.nd b) (fun x hx=>.inl hx) (fun h=>by cases h) hk2
  (fun i o _ _=>AO.noRef_nil o) (fun o ho _=>by
   cases ho;obtain⟨g,cur,ty,h1,h2,h3,h4⟩:=m1.obj b _ hb1;refine⟨g,cur,ty,h1,h2,h3,?_⟩;grind [upd,zaN.pres,AV.noRefs_nil,zaN.setD,zpg,zaL])
 exact⟨hsz,hdf,F,_,_,n1,fun t=>zaL.pres hk2 n2 _ _ (AV.noRef_nil _) (zaL.pres hk m2 _ _ (hn t) (hr t))⟩

section
variable {O O':zbI} {W:World} {F F':Nat->Prop} {η:Nat->Value}
mutual
theorem zaL.fz{id:Nat}{d:D}{m:Option Nat}(hF: ∀b,F b->F' b)(hO: ∀j o',O' j=some o'->j≠id/\ ∃o,O j=some o/\o'=o.fz id d m)(hd: ∀n v,zaL O W F η (.ar id n) v->some n=m->Rd W F' d v)(hd': ∀v,zaL O W F η (.mo id) v->m=none->zaL O' W F' η (moD d) v)(hd3: ∀off v,zaL O W F η (.bp id off) v->zaL O' W F' η (bpD off d) v):
  ∀(x:AV) (v:Value),zaL O W F η x v->zaL O' W F' η (x.fz id d m) v
 | .dead,_,_=>by simp only[AV.fz,zaL]
 | .und,_,h=>h
 | .nils,_,h=>h
 | .emp,_,h=>h
 | .d x,v,h=>Rd.mono (fun b hb=>⟨hF b hb,rfl⟩) x v h
 | .ar i n,v,h=>by
  simp only[AV.fz];split
  ·grind [zaL]
  ·simp only[zaL]at h ⊢;intro e k dep es ho;obtain⟨_,o,h1,h2⟩:=hO _ _ ho;cases o with
   | arr e' k' dep' es'=>cases dep' <;> simp only[AO.fz,AO.arr.injEq]at h2 <;> obtain⟨rfl,rfl,_,rfl⟩:=h2 <;> exact h _ _ _ _ h1
   | _=>simp[AO.fz]at h2
 | .ep i n a b,v,h=>by
  simp only[AV.fz,zaL]at h ⊢;intro e k dep es ho;obtain⟨_,o,h1,h2⟩:=hO _ _ ho;cases o with
  | arr e' k' dep' es'=>cases dep' <;> simp only[AO.fz,AO.arr.injEq]at h2 <;> obtain⟨rfl,rfl,_,rfl⟩:=h2 <;> exact h _ _ _ _ h1
  | _=>simp[AO.fz]at h2
 | .sub i n a b,v,h=>by
  simp only[AV.fz,zaL]at h ⊢;intro e k dep es ho;obtain⟨_,o,h1,h2⟩:=hO _ _ ho;cases o with
  | arr e' k' dep' es'=>cases dep' <;> simp only[AO.fz,AO.arr.injEq]at h2 <;> obtain⟨rfl,rfl,_,rfl⟩:=h2 <;> exact h _ _ _ _ h1
  | _=>simp[AO.fz]at h2
 | .bp i off,v,h=>by
  simp only[AV.fz];split
  ·rename_i e; subst e; exact hd3 off v h
  simp only[zaL]at h ⊢;intro cs ho;obtain⟨_,o,h1,h2⟩:=hO _ _ ho;cases o with
  | box cs'=>exact h _ h1
  | arr e' k' dep' es'=>cases dep' <;> simp[AO.fz]at h2
  | _=>simp[AO.fz]at h2
 | .mo i,v,h=>by
  simp only[AV.fz];split
  ·grind [zaL]
  ·simp only[zaL]at h ⊢;intro o' ho hH;obtain⟨_,o,h1,h2⟩:=hO _ _ ho;refine h _ h1 ?_;rw[h2]at hH;cases o with
   | arr e' k' dep' es'=>cases dep' <;> simp[AO.fz,AO.isH]at hH
   | box=>simp[AO.fz,AO.isH]at hH
   | ext=>simp[AO.fz,AO.isH]at hH
   | gh=>simp[AO.fz,AO.isH]at hH
   | _=>rfl
 | .yv i,v,h=>by
  simp only[AV.fz,zaL]at h ⊢;intro lim fam stop l rest ho;obtain⟨_,o,h1,h2⟩:=hO _ _ ho;cases o with
  | ext=>grind [AO.fz]
  | arr e' k' dep' es'=>cases dep' <;> simp[AO.fz]at h2
  | _=>simp[AO.fz]at h2
 | .agg cs,v,h=>by
  simp only[zaL]at h;obtain⟨vs,rfl,h2⟩:=h;simp only[AV.fz];exact ziw _ _ (zaN.fz hF hO hd hd' hd3 cs vs h2)
 | .clo f fs cs,v,h=>by
  simp only[zaL]at h;obtain⟨a,b,rfl,h2,h3⟩:=h;have h4:=zaN.fz hF hO hd hd' hd3 fs a h2;have h5:=zaN.fz hF hO hd hd' hd3 cs b h3;grind [AV.fz,mkClo,zaL,Rd,zqJ]
 | .tup cs,v,h=>by
  simp only[AV.fz,zaL]at h ⊢;obtain⟨vs,rfl,h2⟩:=h;exact⟨vs,rfl,zaN.fz hF hO hd hd' hd3 cs vs h2⟩
theorem zaN.fz{id:Nat}{d:D}{m:Option Nat}(hF: ∀b,F b->F' b)(hO: ∀j o',O' j=some o'->j≠id/\ ∃o,O j=some o/\o'=o.fz id d m)(hd: ∀n v,zaL O W F η (.ar id n) v->some n=m->Rd W F' d v)(hd': ∀v,zaL O W F η (.mo id) v->m=none->zaL O' W F' η (moD d) v)(hd3: ∀off v,zaL O W F η (.bp id off) v->zaL O' W F' η (bpD off d) v):
  ∀(xs:List AV) (vs:List Value),zaN O W F η xs vs->zaN O' W F' η (AV.fz.fzL id d m xs) vs
 | [],_,h=>h
 | x::xs,vs,h=>by
  simp only[zaN,AV.fz.fzL]at h ⊢;obtain⟨v,rest,h1,h2,h3⟩:=h;exact⟨v,rest,h1,zaL.fz hF hO hd hd' hd3 x v h2,zaN.fz hF hO hd hd' hd3 xs rest h3⟩
end
end
theorem zvy(id:Nat)(d:D)(m:Option Nat)(i:Nat): ∀hs:List (Nat×AV),(fzH id d m hs).lookup i=(hs.lookup i).map (AV.fz id d m)
 | []=>rfl
 | (j,x)::hs=>by
  simp only[fzH,List.lookup_cons];cases h:i==j
  ·exact zvy id d m i hs
  ·rfl
theorem tm_fzT(id:Nat)(d:D)(m:Option Nat)(i:Nat): ∀t:TL,tm (fzT id d m t) i=(tm t i).fz id d m
 | []=>by rfl
 | (j,x)::r=>by
  simp only[fzT,tm];split
  ·rfl
  ·exact tm_fzT id d m i r
theorem om_fzO(id:Nat)(d:D)(m:Option Nat)(i:Nat): ∀o:OL,om (fzO id d m o) i=(om o i).map (AO.fz id d m)
 | []=>rfl
 | (j,x)::r=>by
  simp only[fzO,om];split
  ·rfl
  ·exact om_fzO id d m i r

theorem zvx(O:zbI): ∀(cs:List AV) (ds:List D),zwy cs=some ds-> ∃p,znG.frzcL O cs=some (p,ds,[])/\p
 | [],ds,h=>by cases h; exact⟨True,rfl,trivial⟩
 | x::cs,ds,h=>by
  cases x with
  | d x=>
   simp only[zwy,Option.map_eq_some_iff]at h;obtain⟨r,h1,rfl⟩:=h;obtain⟨p,h2,h3⟩:=zvx O cs r h1;exact⟨True/\p,by simp only[znG.frzcL,znG,h2,List.nil_append],trivial,h3⟩
  | _=>simp[zwy]at h
theorem Rel.frzO{c:Ctx}{t:TL}{o:OL}{a:Act}{W:World}(h:Rel c ⟨tm t,om o⟩ a W){id:Nat}{ob:AO}{d:D}{m:Option Nat}(hO:om o id=some ob)(hd:zgq ob=some (d,m)):Rel c ⟨tm (fzT id d m t),om (fzO id d m (zdb [id] o))⟩ a W:=by
 obtain⟨hsz,hdf,F,η,S,hm,hr⟩:=h;have hO': ∀j o',om (fzO id d m (zdb [id] o)) j=some o'->j≠id/\ ∃ob,om o j=some ob/\o'=ob.fz id d m:=by
  grind [om_fzO,zpt,Option.map_eq_some_iff]
 have hFF: ∀b,F b->(F b\/b∈S id):=fun b hb=>.inl hb;have hrd: ∀r:Prop×D×List Nat,∀x v,zaL (om o) W F η x v->Aw.frz (om o) x=some r->r.1->(∀i∈r.2.2,i=id)->Rd W (fun b=>F b\/b∈S id) r.2.1 v:=fun r x v h1 h2 h3 h4=>zsO (F':=fun b=>F b\/b∈S id) hm hFF x v r h1 h2 h3 (fun i hi b hb=>.inr (by grind));have hd1: ∀n v,zaL (om o) W F η (.ar id n) v->some n=m->Rd W (fun b=>F b\/b∈S id) d v:=by
  intro n v hv hn;cases ob with
  | arr e k dep es=>
   cases dep with
   | flat=>
    simp only[zgq,Option.some.injEq,Prod.mk.injEq]at hd;obtain⟨rfl,rfl⟩:=hd;exact hrd _ _ v hv (by simp only[Aw.frz,znG,hO]; rfl) (Option.some.inj hn) (by simp)
   | deep tys hs=>
    cases hs with
    | nil=>
     simp only[zgq,Option.some.injEq,Prod.mk.injEq]at hd;obtain⟨rfl,rfl⟩:=hd;exact hrd _ _ v hv (by simp only[Aw.frz,znG,hO]; rfl) (Option.some.inj hn) (by simp)
    | cons p hs=>simp[zgq]at hd
  | map ks vs bs clock=>
   grind [zgq]
  | box cs=>simp only[zgq,Option.map_eq_some_iff,Prod.mk.injEq]at hd; obtain⟨_,_,_,rfl⟩:=hd; cases hn
  | _=>simp[zgq]at hd
 have hd2: ∀v,zaL (om o) W F η (.mo id) v->m=none->zaL (om (fzO id d m (zdb [id] o))) W (fun b=>F b\/b∈S id) η (moD d) v:=by
  intro v hv hn;cases ob with
  | map ks vs bs clock=>
   simp only[zgq,Option.some.injEq,Prod.mk.injEq]at hd;obtain⟨rfl,rfl⟩:=hd;exact hrd _ _ v hv (by simp only[Aw.frz,znG,hO]; rfl) trivial (by simp)
  | arr e k dep es=>
   cases dep with
   | flat=>grind [zgq]
   | deep tys hs=>
    cases hs with
    | nil=>grind [zgq]
    | cons p hs=>simp[zgq]at hd
  | box cs=>
   simp only[zgq,Option.map_eq_some_iff,Prod.mk.injEq]at hd;obtain⟨ds,_,rfl,_⟩:=hd;simp only[moD,zaL]
  | _=>simp[zgq]at hd
 have hd3: ∀off v,zaL (om o) W F η (.bp id off) v->zaL (om (fzO id d m (zdb [id] o))) W (fun b=>F b\/b∈S id) η (bpD off d) v:=by
  intro off v hv;unfold bpD;split
  ·rename_i ds;cases ob with
   | box cs=>
    simp only[zgq,Option.map_eq_some_iff,Prod.mk.injEq,D.ptr.injEq]at hd;obtain⟨ds',h1,rfl,_⟩:=hd;obtain⟨p,h2,h3⟩:=zvx (om o) cs _ h1;exact hrd (p,.ptr (ds'.drop 0),[id]) _ v hv (by simp only[Aw.frz,hO,h2,Option.map_some]) h3 (by simp)
   | arr e k dep es=>
    cases dep with
    | flat=>simp[zgq]at hd
    | deep tys hs=>cases hs <;> simp[zgq]at hd
   | _=>simp[zgq]at hd
  ·simp only[zaL]
 have hV:=fun x v=>zaL.fz (O:=om o) (O':=om (fzO id d m (zdb [id] o))) (W:=W) (F:=F) (F':=fun b=>F b\/b∈S id) (η:=η) hFF hO' hd1 hd2 hd3 x v;have hVs:=fun x v=>zaN.fz (O:=om o) (O':=om (fzO id d m (zdb [id] o))) (W:=W) (F:=F) (F':=fun b=>F b\/b∈S id) (η:=η) hFF hO' hd1 hd2 hd3 x v;have hk:za7 (om o) (om (fzO id d m (zdb [id] o))) η η []:=by
  intro j o' ho;right;obtain⟨_,ob',h1,h2⟩:=hO' j o' ho;refine⟨ob',h1,?_⟩;subst h2;cases ob' with
  | arr e k dep es=>cases dep <;> simp[AO.fz]
  | _=>simp[AO.fz]
 have hnone: ∀j,om o j=none->om (fzO id d m (zdb [id] o)) j=none:=by
  grind [om_fzO,zpt]
 obtain⟨m1,m2⟩:=Mem.update (W':=W) (F':=fun b=>F b\/b∈S id) (O':=om (fzO id d m (zdb [id] o))) (η':=η) (S':=upd S id []) hm (fun _=>True) [] rfl rfl rfl (Nat.le_refl _) (fun _ _ _=>rfl) (fun _ h=>.inl h)
  (fun b hb=>by
   grind)
  (fun x hx=>absurd trivial hx)
  (fun x _ b hb=>by
   simp only[upd]at hb;split at hb
   ·simp at hb
   ·rename_i hne;refine⟨fun hF=> ?_,.inl ⟨x,trivial,hb⟩⟩;rcases hF with hF | hF
    ·exact(hm.apart x b hb).1 hF
    ·exact hne (hm.sep x id b hb hF))
  (fun x y b _ _ hx hy=>by
   simp only[upd]at hx hy;split at hx
   ·simp at hx
   ·split at hy
    ·simp at hy
    ·exact hm.sep x y b hx hy)
  (fun x _=>by
   simp only[upd];split
   ·simp
   ·exact hm.nd x)
  (fun x _ ho=>by
   simp only[upd];split
   ·rfl
   ·rename_i hne;refine hm.gone x ?_;cases h:om o x with
    | none=>exact h
    | some y=>
     grind [om_fzO,zpt])
  hk (fun _ _ _ hx=>absurd trivial hx)
  (fun x o' _ ho hF=>by
   obtain⟨hne,ob',h1,rfl⟩:=hO' x o' ho;simp only[upd,if_neg hne];have hrel:=hm.obj x _ h1;cases ob' with
   | box cs=>
    obtain⟨b,cur,e,g1,g2,g3,g4⟩:=hrel;exact⟨b,cur,e,g1,g2,g3,hVs cs _ g4⟩
   | gh cs vs=>exact⟨⟨hrel.1.1,hrel.1.2.mono hF⟩,hVs cs _ hrel.2⟩
   | arr e k dep es=>
    cases dep with
    | flat=>exact zfv.mono (fun _ _=>rfl) (fun xs vs s' hs'=>OwnVals.mono xs vs s' (fun x v s'' hs''=>Own.mono hF [] x v s'' (fun _ _=>rfl))) hrel
    | deep tys hs=>
     refine zfv.mono (fun _ _=>rfl) (fun xs vs s' _ hx=> ?_) hrel;have h1:zdA (om o) W (fun b=>F b\/b∈S id) η tys hs 0 xs vs s':=zdA.mono (fun x _ v hv=>zaL.pres (za7.refl _ _) hF x v (AV.noRef_nil _) hv) xs 0 vs s' (fun x v s'' _=>Own.mono hF tys x v s'' (fun _ _=>rfl)) hx;refine zdA.ren (fun i=> ?_) xs 0 vs s' h1;rw[zvy];cases hs.lookup i with
     | none=>simp_all
     | some y=>exact .inr ⟨y,_,rfl,rfl,fun v hv=>zaL.fz (F:=fun b=>F b\/b∈S id) (fun b hb=>hb) hO' (fun n v h=>hd1 n v (by simpa only[zaL]using h)) (fun v h=>hd2 v (by simpa only[zaL]using h)) (fun off v h=>hd3 off v (by simpa only[zaL]using h)) y v hv⟩
   | map=>
    exact zj1.mono hk hF (AO.noRef_nil _) (fun _ _=>rfl) (by intro _ _ _ _ _ h; cases h) hrel
   | it=>
    exact zj1.mono hk hF (AO.noRef_nil _) (fun _ _=>rfl) (by intro _ _ _ _ _ h; cases h) hrel
   | sit=>
    exact zj1.mono hk hF (AO.noRef_nil _) (fun _ _=>rfl) (by intro _ _ _ _ _ h; cases h) hrel
   | ext lim fam stop l rest=>
    obtain⟨l1,l2⟩:=hm.lim x _ _ _ _ _ h1;refine zj1.mono hk hF (AO.noRef_nil _) (fun _ _=>rfl) (fun lim' fam' stop' l' rest' h=> ?_) hrel;cases h;refine⟨rfl,rfl,rfl,Nat.le_refl _,hF,fun _ _=>rfl,fun b hb hf=> ?_,fun b hf=> ?_,fun _ _=>rfl,fun b hf hlt=> ?_⟩
    ·rcases hf with hf | hf
     ·exact(hm.apart x b hb).1 hf
     ·exact hne (hm.sep x id b hb hf)
    ·rcases hf with hf | hf
     ·exact hm.flt b hf
     ·exact(hm.apart id b hf).2.1
    grind)
  (fun x lim fam stop l rest _ ho=>by
   obtain⟨hne,ob',h1,h2⟩:=hO' x _ ho;cases ob' with
   | ext=>
    simp only[AO.fz]at h2;rw[<-h2]at h1;obtain⟨l1,l2⟩:=hm.lim x _ _ _ _ _ h1;grind [upd]
   | arr e k dep es=>cases dep <;> simp[AO.fz]at h2
   | _=>simp[AO.fz]at h2)
 exact⟨hsz,hdf,_,η,_,m1,fun i=>by grind [tm_fzT]⟩

theorem Rel.rnm{c:Ctx}{t:TL}{o:OL}{a:Act}{W:World}(h:Rel c ⟨tm t,om o⟩ a W){r:List (Nat×Nat)}(hr:zpV r)(hd:domR r o):Rel c ⟨tm (renT r t),om (zID r o)⟩ a W:=by
 obtain⟨hsz,hdf,F,η,S,hm,ht⟩:=h;have hI: ∀ {i j},lkN r i=some j->lkI r j=some i:=fun h=>hr.iff.1 h;have hN: ∀ {i j},lkI r j=some i->lkN r i=some j:=fun h=>hr.iff.2 h;have hom: ∀j o',om (zID r o) j=some o'-> ∃i x,lkN r i=some j/\om o i=some x/\o'=x.ren r:=by
  grind [zjC,ztF,Option.map_eq_some_iff]
 let η':Nat->Value:=fun j=>match lkI r j with | some i=>η i | none=>undef
 let S':Nat->List Nat:=fun j=>match lkI r j with | some i=>S i | none=>[]
 have eη: ∀ {i j},lkN r i=some j->η' j=η i:=fun h=>by grind
 have eS: ∀ {i j},lkN r i=some j->S' j=S i:=fun h=>by grind
 have hS: ∀j b,b∈S' j-> ∃i,lkN r i=some j/\b∈S i:=by
  grind
 have hout:zvg r (om o) (om (zID r o)) η η':=by
  intro i j o' hij ho;grind
 refine⟨hsz,hdf,F,η',S',⟨hm.os,hm.tape,hm.output,hm.size,hm.old,hm.f0,hm.flt,hm.fold,?_,?_,?_,?_,?_,?_,?_,hm.zd⟩,fun i=> ?_⟩
 ·intro j o' ho;obtain⟨i,x,h1,h2,rfl⟩:=hom j o' ho;rw[eη h1,eS h1];exact zj1.renOut hout (hm.obj i x h2)
 ·intro j hj;cases hi:lkI r j with
  | none=>grind
  | some i=>
   have hj:om (zID r o) j=none:=hj;rw[ztF hr (hN hi),Option.map_eq_none_iff]at hj;simp only[S',hi];exact hm.gone i hj
 ·intro j b hb;obtain⟨i,_,h2⟩:=hS j b hb;exact hm.apart i b h2
 ·intro j j' b hb hb';obtain⟨i,h1,h2⟩:=hS j b hb;obtain⟨i',h3,h4⟩:=hS j' b hb';have:=hm.sep i i' b h2 h4;simp_all
 ·intro j;simp only[S'];split
  ·exact hm.nd _
  ·simp
 ·intro p hp;obtain⟨z1,z2,z3,z4⟩:=hm.hid p hp;grind
 ·intro j lim fam stop l rest ho;obtain⟨i,x,h1,h2,h3⟩:=hom j _ ho;have:=AO.ren_ext h3.symm;subst this;obtain⟨l1,l2⟩:=hm.lim i _ _ _ _ _ h2;grind
 grind [tm_renT,zaL.renOut]

theorem gh1_sub{c:Ctx}{g:Gh}{t t':TL}{o o':OL}{p:Prop}{a:Act}{W:World}(h:gh1 g t o=some (p,t',o'))(hp:p)(hr:Rel c ⟨tm t,om o⟩ a W):Rel c ⟨tm t',om o'⟩ a W:=by
 cases g with
 | keep ts=>
  simp only[gh1,Option.some.injEq,Prod.mk.injEq]at h;obtain⟨_,rfl,rfl⟩:=h;exact keepT_sub t ts o c a W hr
 | adT u id e k=>
  simp only[gh1,Option.some.injEq,Prod.mk.injEq]at h;obtain⟨rfl,rfl,rfl⟩:=h;obtain⟨h1,h2,h3⟩:=hp;have:=hr.adopt (zeq _ h2) (zer _ h3) e k [] (tmps':=tm ((u,.ar id 0)::t)) (fun i=>by
   grind [tm,zpg])
  rw[<-znY];exact this
 | adB b i id e k=>
  simp only[gh1]at h;split at h
  ·rename_i cs hcs;simp only[Option.some.injEq,Prod.mk.injEq]at h;obtain⟨rfl,rfl,rfl⟩:=h;obtain⟨h1,h2,h3⟩:=hp;have:=hr.adoptB hcs h1 (zeq _ h2) (zer _ h3) e k [];have e1:upd (upd (om o) id (some (.arr e k .flat []))) b (some (.box (cs.set i (.ar id 0))))=om ((b,.box (cs.set i (.ar id 0)))::zdb [b] ((id,.arr e k .flat [])::o)):=by
    rw[znY];have:=zkU b (.box (cs.set i (.ar id 0))) [] ((id,.arr e k .flat [])::o);rw[<-this,<-ze2];congr 1
   rw[<-e1];exact this
  ·cases h
 | adTd u id e k r=>
  simp only[gh1,Option.some.injEq,Prod.mk.injEq]at h;obtain⟨rfl,rfl,rfl⟩:=h;obtain⟨h1,h2,h3⟩:=hp;have:=hr.adopt (zeq _ h2) (zer _ h3) e k r (tmps':=tm ((u,.ar id 0)::t)) (fun i=>by
   grind [tm,zpg])
  rw[<-znY];exact this
 | adBd b i id e k r=>
  simp only[gh1]at h;split at h
  ·rename_i cs hcs;simp only[Option.some.injEq,Prod.mk.injEq]at h;obtain⟨rfl,rfl,rfl⟩:=h;obtain⟨h1,h2,h3⟩:=hp;have:=hr.adoptB hcs h1 (zeq _ h2) (zer _ h3) e k r;grind [znY,zuA]
  ·cases h
 | opn id i j nw xs=>
  simp only[gh1]at h;split at h
  ·rename_i e k e' k' r hs es ho;simp only[Option.some.injEq,Prod.mk.injEq]at h;obtain⟨rfl,rfl,rfl⟩:=h;obtain⟨⟨h1,h2,h3,h4⟩,h5,h6⟩:=hp;have:=hr.openT ho h1 h2 h3 h4 (zeq _ h5) (zer _ h6);grind [zuA,znY]
  ·cases h
 | cls id i j nw=>
  simp only[gh1]at h;split at h
  ·rename_i e k e' k' r hs es e2 k2 dep xs ho hw;simp only[Option.some.injEq,Prod.mk.injEq]at h;obtain⟨rfl,rfl,rfl⟩:=h;obtain⟨⟨h1,h2,h3⟩,⟨rfl,rfl,rfl⟩,h4⟩:=hp;have:=hr.closeT ho h1 h2 hw h3 h4;have e1:upd (upd (om o) id (some (.arr e k (.deep ((e2,k2)::r) (rmH (i*k+j) hs)) (es.set i ((es.getD i []).set j (.sl xs)))))) nw none=om ((id,.arr e k (.deep ((e2,k2)::r) (rmH (i*k+j) hs)) (es.set i ((es.getD i []).set j (.sl xs))))::zdb [id,nw] o):=by
    grind [upd,om,zpt]
   simp_all
  ·cases h
 | frz id=>
  simp only[gh1]at h;split at h
  ·rename_i ob ho;split at h
   ·rename_i d m hd;simp only[Option.some.injEq,Prod.mk.injEq]at h;obtain⟨_,rfl,rfl⟩:=h;exact hr.frzO ho hd
   ·cases h
  ·cases h
 | ord r=>
  grind [gh1]
 | chn=>
  grind [gh1]
 | rnm r=>
  simp only[gh1,Option.some.injEq,Prod.mk.injEq]at h;obtain⟨rfl,rfl,rfl⟩:=h;exact hr.rnm hp.1 hp.2
 | flt r f=>
  grind [gh1]
 | tre r T=>
  grind [gh1]
 | toD id i j x=>
  simp only[gh1]at h;split at h
  ·rename_i e k es ho;simp only[Option.some.injEq,Prod.mk.injEq]at h;obtain⟨rfl,rfl,rfl⟩:=h;obtain⟨⟨h1,h2⟩,h3⟩:=hp;have:=hr.toD ho h1 h2 h3;rw[zuA]at this;exact this
  ·cases h
 | toF id i j=>
  simp only[gh1]at h;split at h
  ·rename_i e k q x es ho;simp only[Option.some.injEq,Prod.mk.injEq]at h;obtain⟨rfl,rfl,rfl⟩:=h;obtain⟨h1,h2,rfl⟩:=hp;have:=hr.toF ho h1 h2;rw[zuA]at this;exact this
  ·cases h
 | adH id i j nw e' k'=>
  simp only[gh1]at h;split at h
  ·rename_i e k tys hs es ho;simp only[Option.some.injEq,Prod.mk.injEq]at h;obtain⟨rfl,rfl,rfl⟩:=h;obtain⟨⟨⟨h1,h2⟩,h4⟩,h5,h6⟩:=hp;have h3:hs.lookup (i*k+j)=some .nils :=by
    unfold isNilO at h4;grind
   have:=hr.adoptH (e':=e') (k':=k') ho h1 h2 h3 (zeq _ h5) (zer _ h6);have e1:upd (upd (om o) nw (some (.arr e' k' .flat []))) id (some (.arr e k (.deep tys (zFv (i*k+j) (.ar nw 0) hs)) es))=om ((id,.arr e k (.deep tys (zFv (i*k+j) (.ar nw 0) hs)) es)::zdb [id] ((nw,.arr e' k' .flat [])::o)):=by
    rw[znY];have:=zkU id (.arr e k (.deep tys (zFv (i*k+j) (.ar nw 0) hs)) es) [] ((nw,.arr e' k' .flat [])::o);rw[<-this,<-ze2];congr 1
   rw[<-e1];exact this
  ·cases h
theorem ghE_sub{c:Ctx}{K:EK}{a:Act}{W:World}: ∀(l:List Gh) (t:TL) (o:OL),ghE l K t o->Rel c ⟨tm t,om o⟩ a W-> ∃t' o',K t' o'/\Rel c ⟨tm t',om o'⟩ a W
 | [],t,o,h,hr=>⟨t,o,h,hr⟩
 | g::gs,t,o,h,hr=>by
  simp only[ghE]at h;split at h
  ·rename_i p t' o' hg;exact ghE_sub gs t' o' h.2 (gh1_sub hg h.1 hr)
  grind

theorem wpIn_scope{F:Fence}{n:Nat}{P:Program}{Q:Exit->Act->World->Prop}{a:Act}{w:World}{c:Code}(h:c.wpIn F n P (Exit.noGoto Q) a w):(Code.scope c).wpIn F n P Q a w:=by
 intro b k cs hro hb hr;have h0:(lone (b.atR a (.code (.scope c)::k)) cs w).fenced P F:=fenced_calm hb hr rfl;have hs:step P (lone (b.atR a (.code (.scope c)::k)) cs w)= .next (lone (b.atR a (.code c:: .inScope c::k)) cs w):=step_lone_go (by simp[stepG,stepG.exec,Frame.atR])
 have hi: ∀a₁ w₁,step P (lone (b.atR a₁ (.inScope c::k)) cs w₁)= .next (lone (b.atR a₁ k) cs w₁):=fun a₁ w₁=>step_lone_go (by simp[stepG,stepG.exec,Frame.atR])
 obtain⟨e,a₁,w₁,hq,harr⟩:=h b (.inScope c::k) cs hro hb hr;cases e with
 | normal=>exact⟨.normal,a₁,w₁,hq,.head h0 hs (StepsIn.trans harr (.one (fenced_calm hb hr rfl) (hi _ _)))⟩
 | exit id=>
  have hx:exitTo id (.inScope c::k)=exitTo id k:=by simp[exitTo]
  exact⟨.exit id,a₁,w₁,hq,fun k' hk=>.head h0 hs (harr.1 k' (by rw[hx]; exact hk)),
   fun hr' hk=>let ⟨k₁,h1,h2⟩:=harr.2 hr' (by rw[hx]; exact hk); ⟨k₁,h1,.head h0 hs h2⟩⟩
 | goto l=>exact hq.elim
 | ret=>exact⟨_,a₁,w₁,hq,.of_steps (.one h0 hs) harr⟩
 | panic ch=>exact⟨_,a₁,w₁,hq,.of_steps (.one h0 hs) harr⟩
 | outgrown=>exact⟨_,a₁,w₁,hq,.of_steps (.one h0 hs) harr⟩
theorem PxOk.then{N:NP}{K:EK}{Q:EQ}(h:PxOk N Q):PxOk N (zry K Q):=h
theorem PxOk.block{N:NP}{id:Nat}{Q:EQ}(h:PxOk N Q):PxOk N (zlk id Q):=h
theorem zBm{P:Program}{N:NP}{L:Nat->List Gh}(hmix:P.follows .mixedOrders =true): ∀(code:Code) (Q:EQ) (t:TL) (o:OL),PxOk N Q->eC P N L code Q t o->AWp P N code (liftQ Q) ⟨tm t,om o⟩
 | .skip,Q,t,o,hX,h=>fun R n c hT hP hN a W hr=>wpIn_skip ⟨_,⟨t,o,rfl,h⟩,hr.x⟩
 | .label _,Q,t,o,hX,h=>fun R n c hT hP hN a W hr=>wpIn_label ⟨_,⟨t,o,rfl,h⟩,hr.x⟩
 | .exit _,Q,t,o,hX,h=>fun R n c hT hP hN a W hr=>wpIn_exit ⟨_,⟨t,o,rfl,h⟩,hr.x⟩
 | .ret,Q,t,o,hX,h=>fun R n c hT hP hN a W hr=>wpIn_ret ⟨_,⟨t,o,rfl,h⟩,hr.x⟩
 | .goto _,Q,t,o,hX,h=>fun R n c hT hP hN a W hr=>wpIn_goto ⟨_,⟨t,o,rfl,h⟩,hr.x⟩
 | .seq x y,Q,t,o,hX,h=>fun R n c hT hP hN a W hr=>by
  simp only[eC]at h;refine wpIn_seq (wpIn_mono (zBm hmix x _ t o hX.then h R n c hT hP hN a W hr) ?_);rintro e a' W' ⟨σ',⟨t',o',rfl,h1⟩,Ds,hD,h2⟩;cases e with
  | normal=>
   refine wpIn_mono (zBm hmix y Q t' o' hX h1 R n (c.more Ds) hT hP hN a' W' h2) ?_;rintro e a'' W'' ⟨σ'',h3,h4⟩;exact⟨σ'',h3,h4.x hD⟩
  | _=>exact⟨_,⟨t',o',rfl,h1⟩,Ds,hD,h2⟩
 | .block id x,Q,t,o,hX,h=>fun R n c hT hP hN a W hr=>by
  simp only[eC]at h;refine wpIn_block (wpIn_mono (zBm hmix x _ t o hX.block h R n c hT hP hN a W hr) ?_);rintro e _ _ ⟨σ',⟨t',o',rfl,h1⟩,h2⟩;cases e with
  | exit id'=>
   simp only[zlk]at h1;simp only[Exit.inBlock];split at h1 <;> rename_i hid <;> simp only[hid,if_true,if_false]
   ·exact⟨_,⟨t',o',rfl,h1⟩,h2⟩
   ·exact⟨_,⟨t',o',rfl,h1⟩,h2⟩
  | _=>exact⟨_,⟨t',o',rfl,h1⟩,h2⟩
 | .cond x y z,Q,t,o,hX,h=>fun R n c hT hP hN a W hr=>by
  simp only[eC,eCond]at h;split at h
  ·rename_i b hb;obtain⟨_,_,F,η,S,hm,ht⟩:=id hr;have h1:=zhZ ht x;rw[show(St.mk (tm t) (om o)).tmps =tm t from rfl,hb]at h1;simp only[zaL,Rd]at h1;refine wpIn_cond_split h1 (fun hb'=> ?_) (fun hb'=> ?_)
   ·exact zBm hmix y Q t o hX ((iteE h).1 hb') R n c hT hP hN a W hr
   ·exact zBm hmix z Q t o hX ((iteE h).2 hb') R n c hT hP hN a W hr
  grind
 | .region id ops draw,Q,t,o,hX,h=>fun R n c hT hP hN a W hr=>by
  subst hP;subst hN;have fin: ∀σ' a' W',zlp (ghE (L id) (Q .normal)) σ'->Rel c σ' a' W'-> ∃σ'',liftQ Q .normal σ''/\zzJ c σ'' a' W':=by
   rintro _ a' W' ⟨t',o',rfl,h1⟩ h2;obtain⟨t'',o'',h3,h4⟩:=ghE_sub _ _ _ h1 h2;exact⟨_,⟨t'',o'',rfl,h3⟩,h4.x⟩
  have hX': ∀v σ' a' W',pxS c.N v σ'.objs->Rel c σ' a' W'-> ∃σ'',liftQ Q (.panic [{v:=v,recovered:=false}]) σ''/\zzJ c σ'' a' W':=by
   rintro v σ' a' W' ⟨o',h1,h2⟩ h3;obtain⟨tmps,objs⟩:=σ';simp only at h1;subst h1;exact⟨_,⟨[],o',rfl,hX v o' h2⟩,(znd (σ:=⟨tmps,om o'⟩) (σ':=⟨tm [],om o'⟩) (fun _=>.inl rfl) (fun _=>.inr rfl) _ _ _ h3).x⟩
  simp only[eC]at h;obtain⟨t,o,h,hr⟩:=ghE_sub _ _ _ h hr;simp only[eReg]at h;cases draw
  ·simp only at h;split at h
   ·exact wpIn_region_list (zsy (Q:=fun e a' W'=> ∃σ',liftQ Q e σ'/\zzJ c σ' a' W') (fun t o a' W' hk hr'=>fin _ a' W' ⟨t,o,rfl,hk⟩ hr') hX' ops.toList [] t o a W (wfC_nil t) hr h)
   ·exact wpIn_region_list (zto (Q:=fun e a' W'=> ∃σ',liftQ Q e σ'/\zzJ c σ' a' W') fin hX' ops.toList _ a W hr (eOps_lwp ops.toList t o h))
  ·simp only[eDrawn]at h;refine wpIn_region_any hmix ?_;have hr':Rel c ⟨tm t,om o⟩ a {W with drawn:=W.drawn+1}:=hr.heap rfl rfl rfl rfl;split at h
   ·rename_i r _;obtain⟨hB,h⟩:=h;refine zvZ (r:=r) (σ:=⟨tm (zjR (zk8 ops r.steps) t),om o⟩) (K:=zlp (ghE (L id) (Q .normal))) hB fin hX' (zpj t _ o c a _ hr') (fun i hi hq oi d hoi hd=>zqt t _ (zmn _ (Ord.isQ_step hq) hoi hd)) ?_;exact zsA (r:=r) (ztH hB) r.steps (fun p hp=>hp) _ o h
   ·rename_i r f _;obtain⟨hB,hfo,h⟩:=h;have hdd: ∀(d:Nat),d∈zk8 ops r.steps->tm (zjR (fltD ops f.fs) (zjR (zk8 ops r.steps) t)) d= .dead :=fun d hd=>by
     grind [zrJ]
    have hsub:Sub ⟨tm t,om o⟩ ⟨tm (zjR (fltD ops f.fs) (zjR (zk8 ops r.steps) t)),om o⟩:=fun c a W hr=>zpj _ _ o c a W (zpj t _ o c a W hr);refine region_ordF (r:=r) (f:=f) (σ:=⟨tm (zjR (fltD ops f.fs) (zjR (zk8 ops r.steps) t)),om o⟩) (K:=zlp (ghE (L id) (Q .normal))) hB (fltOk_ok hfo) fin hX' (hsub c a _ hr') (fun i hi hq oi d hoi hd=>hdd d (zmn _ (Ord.isQ_step hq) hoi hd)) (fun i hi d ty hd=> ?_) ?_
    ·exact zqt _ _ (fltD_mem hd hi)
    ·exact zo3 (r:=r) (f:=f) (ordFB_lookup hB) r.steps (fun p hp=>hp) _ o h
   ·rename_i r _;obtain⟨hB,h⟩:=h;refine zvZ (r:=r) (σ:=⟨tm (zjR (zk8 ops r.steps) t),om o⟩) (K:=weakK (ghE (L id) (Q .normal))) hB (fun σ' a' W' ⟨t',o',hs,hk⟩ hr2=>fin _ a' W' ⟨t',o',rfl,hk⟩ (hs _ _ _ hr2)) hX' (zpj t _ o c a _ hr') (fun i hi hq oi d hoi hd=>zqt t _ (zmn _ (Ord.isQ_step hq) hoi hd)) ?_;exact eZC_zlwp (r:=r) (ztH hB) r.steps (fun p hp=>hp) [] _ o (wfC_nil _) h
   ·rename_i r T _;obtain⟨hB,h⟩:=h;refine region_ordT (r:=r) (T:=T) (σ:=⟨tm (zjR (zk8 ops r.steps) t),om o⟩) (K:=zlp (ghE (L id) (Q .normal))) hB fin hX' (zpj t _ o c a _ hr') (fun i hi hq oi d hoi hd=>zqt t _ (zmn _ (Ord.isQ_step hq) hoi hd)) ?_;exact eZT_zT T _ o h
   obtain⟨hB,h⟩:=h;refine zpW (nA:=znT ops.toList) (K:=zlp (ghE (L id) (Q .normal))) fin hX' ops.size _ _ a _ hr' ?_;have:=aAny_lex (P:=c.P) (N:=c.N) (K:=zlp (ghE (L id) (Q .normal))) hB ops.toList 0 (Array.replicate ops.size false) ⟨tm t,om o⟩ (by simp) (by simp) (fun j=>by
    rw[Array.getD_eq_getD_getElem?,Array.getElem?_replicate]; grind) (fun j o ho hj=>by
     rw[Array.getD_eq_getD_getElem?,Array.getElem?_replicate]at hj; grind) (zwP ops.toList 0 t o h)
   omega
 | .loop _,_,_,_,hX,h=>h hX
 | .rangeFunc ..,_,_,_,hX,h=>h hX
 | .scope x,Q,t,o,hX,h=>fun R n c hT hP hN a W hr=>by
  simp only[eC]at h;refine wpIn_scope (wpIn_mono (zBm hmix x (noGo Q) t o hX h R n c hT hP hN a W hr) ?_);rintro e _ _ ⟨σ',⟨t',o',rfl,h1⟩,h2⟩;cases e with
  | goto l=>exact h1.elim
  | _=>exact⟨_,⟨t',o',rfl,h1⟩,h2⟩
 | .refuse _,_,_,_,hX,h=>h hX

theorem zfz{P:Program}{n:Nat}{pins:List Nat}{top:Bool}{own:List (Nat×List (TypeId×Nat))}{L:Nat->List Gh}(hmix:P.follows .mixedOrders =true)(code:Code)(Q:EQ)(t:TL)(o:OL)(h:eC P ⟨n,pins,top,own,fun _ _=>False⟩ L code Q t o):AWp P ⟨n,pins,top,own,fun _ _=>False⟩ code (liftQ Q) ⟨tm t,om o⟩:=
 zBm hmix code Q t o (fun _ _ h=>h.elim) h

def nextE(i n:Nat)(I:Prop)(s:TL×OL)(t:TL)(o:OL):Prop:=i<n/\I/\zuM (tm t) s.1/\zwd (om o) s.2
theorem za1{P:Program}{N:NP}(L:Nat->List Gh)(hmix:P.follows .mixedOrders =true){x:Code}{Q:EQ}{t:TL}{o:OL}(n:Nat)(I:Nat->Prop)(S:Nat->TL×OL)(hI0:I 0)(h0:zuM (tm t) (S 0).1)(h0':zwd (om o) (S 0).2)
  (hs: ∀i,i<=n->I i->eC P N L x (zry (nextE i n (I (i+1)) (S (i+1))) Q) (S i).1 (S i).2):ELoop P N x Q t o:=by
 intro hX R m c hT hP hN a W hr;refine zrl (fun i a W=>I i/\zzJ c ⟨tm (S i).1,om (S i).2⟩ a W) n ⟨hI0,(zzH (σ:=⟨tm t,om o⟩) h0 h0' c a W hr).x⟩ (fun i a W hi hI=> ?_);obtain⟨hI1,Ds,hD,hI2⟩:=hI;refine wpIn_mono (zBm hmix x _ _ _ hX.then (hs i hi hI1) R m (c.more Ds) hT hP hN a W hI2) ?_;rintro e a' W' ⟨σ',⟨t',o',rfl,h1⟩,Es,hE,h2⟩;cases e with
 | normal=>exact⟨h1.1,h1.2.1,zzJ.x hD ⟨Es,hE,zzH (σ:=⟨tm t',om o'⟩) h1.2.2.1 h1.2.2.2 _ a' W' h2⟩⟩
 | _=>exact⟨_,⟨t',o',rfl,h1⟩,zzJ.x hD ⟨Es,hE,h2⟩⟩

noncomputable def rsE(P:Program)(t:TL)(o:OL):List ResultVar->Option (Prop×List D):=resQ P ⟨tm t,om o⟩
def eRet(V:AV)(r:Option (Prop×List D)):Prop:=
 match r with
 | some (vc,xs)=>vc/\zu4 xs=V
 | none=>False
noncomputable def retE(P:Program)(rs:Array ResultVar)(V:AV):EQ
 | .ret,t,o=>eRet V (resQ P ⟨tm t,om o⟩ rs.toList)
 | .normal,t,o=>eRet V (resQ P ⟨tm t,om o⟩ rs.toList)
 | _,_,_=>False
theorem FnP.of_eC{P:Program}{f:Nat}{fn:Func}{code:Code}{ds:List D}{V:AV}(L:Nat->List Gh){own:List (Nat×List (TypeId×Nat))}(hmix:P.follows .mixedOrders =true)(hf:P.funcs[f]? =some fn)(hb:fn.body=some code)
  (hc: ∀as W,(callFunc f as).run P W= .ok (.enter f as) W) {N:Nat} (hN:fn.ntmps=N) (hN':ds.length<=N) {rs:Array ResultVar} (hrs:fn.results=rs) (h:D.okL ds->eC P ⟨N,[],true,own,fun _ _=>False⟩ L code (retE P rs V) (zl2 0 ds) []):FnP P f ds V []:=by
 subst hN;subst hrs;refine FnP.intro' own hmix hf hb (fun W as=>hc as W) hN' (fun hok=>AWp.mono (zfz hmix code _ _ _ (h hok)) ?_);rintro e σ ⟨t,o,rfl,h1⟩;unfold retE at h1;unfold retQ;split at h1 <;> first | exact h1.elim | exact h1

def D.ones:List D->Prop
 | []=>True
 | x::xs=>x.one/\D.ones xs
theorem D.ones_iff: ∀l:List D,D.ones l↔ ∀x∈l,x.one
 | []=>by simp[D.ones]
 | x::l=>by simp[D.ones,D.ones_iff l]
theorem rowsOk_nil(k:Nat):zcY k []=True:=by simp[zcY]
theorem rowsOk_cons(k:Nat)(y:List D)(ys:List (List D)):zcY k (y::ys)=((y.length=k/\D.ones y)/\zcY k ys):=by simp[zcY,D.ones_iff]
end Go.Aw
