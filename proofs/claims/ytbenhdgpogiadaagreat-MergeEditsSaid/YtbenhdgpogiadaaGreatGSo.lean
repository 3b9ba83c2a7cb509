/- Machinery. Conditions: those of each. -/
import Derived.Test.YtbenhdgpogiadaaGreatGD
set_option linter.unusedSimpArgs false
set_option linter.unusedVariables false
/-
 PLAIN LAW: sorted lists with keys, merged; how lists of changes act on them.
-/
namespace Go.Aw
structure TOrd {κ:Type} (lt:κ->κ->Bool):Prop where
 irr: ∀a,lt a a=false
 tr: ∀a b c,lt a b=true->lt b c=true->lt a c=true
 conn: ∀a b,lt a b=false->lt b a=false->a=b
section
variable {κ α:Type} {lt:κ->κ->Bool} {key:α->κ}
theorem TOrd.asymm(o:TOrd lt){a b:κ}(h:lt a b=true):lt b a=false:=by
 cases h':lt b a with
 | false=>rfl
 | true=>have:=o.tr _ _ _ h h'; rw[o.irr]at this; cases this
theorem TOrd.ne(o:TOrd lt){a b:κ}(h:lt a b=true):a≠b:=fun e=>by rw[e,o.irr]at h; cases h
def Srt(lt:κ->κ->Bool)(key:α->κ)(l:List α):Prop:=l.Pairwise fun x y=>lt (key x) (key y)=true
variable [DecidableEq κ]
def lkp(key:α->κ)(l:List α)(k:κ):Option α:=l.find? fun x=>decide (key x=k)
theorem zxa(k:κ):lkp key [] k=none:=rfl
theorem zeH(x:α)(l:List α)(k:κ):lkp key (x::l) k=if key x=k then some x else lkp key l k:=by
 unfold lkp;by_cases h:key x=k
 ·rw[List.find?_cons_of_pos (by simpa using h),if_pos h]
 ·rw[List.find?_cons_of_neg (by simpa using h),if_neg h]
theorem zeI{l:List α}{k:κ}{x:α}(h:lkp key l k=some x):x∈l/\key x=k:=by
 unfold lkp at h;exact⟨List.mem_of_find?_eq_some h,by simpa using List.find?_some h⟩
theorem zlr{l:List α}{k:κ}:lkp key l k=none↔ ∀x∈l,key x≠k:=by
 unfold lkp;rw[List.find?_eq_none];simp
theorem zyM(o:TOrd lt): ∀ {l:List α} {x:α},Srt lt key l->x∈l->lkp key l (key x)=some x
 | y::r,x,hs,hx=>by
  obtain⟨h1,h2⟩:=List.pairwise_cons.1 hs;rw[zeH];rcases List.mem_cons.1 hx with rfl | hx
  ·rw[if_pos rfl]
  ·rw[if_neg (o.ne (h1 x hx)),zyM o h2 hx]
theorem zyc(o:TOrd lt){l:List α}{k:κ}(h: ∀x∈l,lt k (key x)=true):lkp key l k=none:=zlr.2 fun x hx e=>by have:=h x hx; rw[e,o.irr]at this; cases this
theorem Srt.ext(o:TOrd lt): ∀ {l l':List α},Srt lt key l->Srt lt key l'->(∀k,lkp key l k=lkp key l' k)->l=l'
 | [],[],_,_,_=>rfl
 | [],y::r,_,_,h=>by have:=h (key y); rw[zxa,zeH,if_pos rfl]at this; cases this
 | x::r,[],_,_,h=>by have:=h (key x); rw[zxa,zeH,if_pos rfl]at this; cases this
 | x::r,y::r',h1,h2,h=>by
  have hx:=zeI ((h (key x)).symm.trans (by rw[zeH,if_pos rfl]));have hy:=zeI ((h (key y)).trans (by rw[zeH,if_pos rfl]));obtain⟨a1,a2⟩:=List.pairwise_cons.1 h1;obtain⟨b1,b2⟩:=List.pairwise_cons.1 h2;have e:x=y:=by
   rcases List.mem_cons.1 hx.1 with e | hx1
   ·exact e
   rcases List.mem_cons.1 hy.1 with e | hy1
   ·exact e.symm
   have:=o.asymm (b1 x hx1);rw[a1 y hy1]at this; cases this
  subst e;rw[Srt.ext o a2 b2 (fun k=> ?_)];have:=h k;rw[zeH,zeH]at this;by_cases hk:key x=k
  ·rw[<-hk,zyc o a1,zyc o b1]
  ·rwa [if_neg hk,if_neg hk]at this
def zpT(lt:κ->κ->Bool)(key:α->κ):List α->α->List α
 | [],x=>[x]
 | y::r,x=>if lt (key x) (key y)=true then x::y::r else if lt (key y) (key x)=true then y::zpT lt key r x else x::r
def zyC(key:α->κ):List α->κ->List α
 | [],_=>[]
 | y::r,k=>if key y=k then r else y::zyC key r k
omit [DecidableEq κ] in
theorem zxh{l:List α}{x z:α}(h:z∈zpT lt key l x):z=x\/z∈l:=by
 induction l with
 | nil=>simp only[zpT,List.mem_singleton]at h; exact .inl h
 | cons y r ih=>
  simp only[zpT]at h;split at h
  ·rcases List.mem_cons.1 h with h | h
   ·exact .inl h
   ·exact .inr h
  split at h
  ·rcases List.mem_cons.1 h with h | h
   ·exact .inr (h▸List.mem_cons_self)
   ·rcases ih h with h | h
    ·exact .inl h
    ·exact .inr (List.mem_cons_of_mem _ h)
  ·rcases List.mem_cons.1 h with h | h
   ·exact .inl h
   ·exact .inr (List.mem_cons_of_mem _ h)
omit [DecidableEq κ] in
theorem Srt.ins(o:TOrd lt): ∀ {l:List α} (x:α),Srt lt key l->Srt lt key (zpT lt key l x)
 | [],x,_=>by simp[zpT,Srt]
 | y::r,x,h=>by
  obtain⟨h1,h2⟩:=List.pairwise_cons.1 h;simp only[zpT];split
  ·rename_i hlt;refine List.pairwise_cons.2 ⟨fun z hz=> ?_,h⟩;rcases List.mem_cons.1 hz with rfl | hz
   ·exact hlt
   ·exact o.tr _ _ _ hlt (h1 z hz)
  split
  ·rename_i hlt;refine List.pairwise_cons.2 ⟨fun z hz=> ?_,Srt.ins o x h2⟩;rcases zxh hz with rfl | hz
   ·exact hlt
   ·exact h1 z hz
  ·rename_i h3 h4;have e:=o.conn _ _ (by simpa using h3) (by simpa using h4);refine List.pairwise_cons.2 ⟨fun z hz=> ?_,h2⟩;rw[e]; exact h1 z hz
theorem zym(o:TOrd lt): ∀ {l:List α} (x:α) (k:κ),Srt lt key l->lkp key (zpT lt key l x) k=if k=key x then some x else lkp key l k
 | [],x,k,_=>by
  rw[zpT,zeH,zxa];by_cases h:key x=k
  ·rw[if_pos h,if_pos h.symm]
  ·rw[if_neg h,if_neg (Ne.symm h)]
 | y::r,x,k,h=>by
  obtain⟨h1,h2⟩:=List.pairwise_cons.1 h;simp only[zpT];split
  ·rename_i hlt;rw[zeH];by_cases hk:key x=k
   ·rw[if_pos hk,if_pos hk.symm]
   ·rw[if_neg hk,if_neg (Ne.symm hk)]
  split
  ·rename_i hlt;rw[zeH,zym o x k h2,zeH];by_cases hk:k=key x
   ·have:key y≠k:=fun e=>by rw[<-e]at hk; rw[hk,o.irr]at hlt; cases hlt
    rw[if_neg this,if_pos hk,if_pos hk]
   ·rw[if_neg hk,if_neg hk]
  ·rename_i h3 h4;have e:=o.conn _ _ (by simpa using h3) (by simpa using h4);rw[zeH,zeH,e];by_cases hk:key y=k
   ·rw[if_pos hk,if_pos hk.symm]
   ·rw[if_neg hk,if_neg hk,if_neg (Ne.symm hk)]
theorem zxi{l:List α}{k:κ}{z:α}(h:z∈zyC key l k):z∈l:=by
 induction l with
 | nil=>simp[zyC]at h
 | cons y r ih=>
  simp only[zyC]at h;split at h
  ·exact List.mem_cons_of_mem _ h
  ·rcases List.mem_cons.1 h with h | h
   ·exact h▸List.mem_cons_self
   ·exact List.mem_cons_of_mem _ (ih h)
theorem Srt.del: ∀ {l:List α} (k:κ),Srt lt key l->Srt lt key (zyC key l k)
 | [],_,_=>by simp[zyC,Srt]
 | y::r,k,h=>by
  obtain⟨h1,h2⟩:=List.pairwise_cons.1 h;simp only[zyC];split
  ·exact h2
  ·exact List.pairwise_cons.2 ⟨fun z hz=>h1 z (zxi hz),Srt.del k h2⟩
theorem zzO(o:TOrd lt): ∀ {l:List α} (k0 k:κ),Srt lt key l->lkp key (zyC key l k0) k=if k=k0 then none else lkp key l k
 | [],k0,k,_=>by rw[zyC,zxa]; split <;> rfl
 | y::r,k0,k,h=>by
  obtain⟨h1,h2⟩:=List.pairwise_cons.1 h;simp only[zyC];split
  ·rename_i e;rw[zeH];by_cases hk:k=k0
   ·rw[if_pos hk,hk,<-e,zyc o h1]
   ·rw[if_neg hk,if_neg (fun e'=>hk (e'.symm.trans e))]
  ·rename_i e;rw[zeH,zzO o k0 k h2,zeH];by_cases hk:k=k0
   ·rw[if_pos hk,if_neg (fun e'=>e (e'.trans hk)),if_pos hk]
   ·rw[if_neg hk,if_neg hk]
def insD(lt:κ->κ->Bool)(key:α->κ)(x:α):List α->List α
 | []=>[x]
 | y::r=>if lt (key y) (key x)=true then y::insD lt key x r else x::y::r
def zl7(lt:κ->κ->Bool)(key:α->κ)(l:List α):List α:=l.foldr (insD lt key) []
omit [DecidableEq κ] in
theorem zsY(x:α): ∀l:List α,(insD lt key x l).Perm (x::l)
 | []=>List.Perm.refl _
 | y::r=>by
  simp only[insD];split
  ·exact((zsY x r).cons y).trans (List.Perm.swap x y r)
  ·exact List.Perm.refl _
omit [DecidableEq κ] in
theorem zcn: ∀l:List α,(zl7 lt key l).Perm l
 | []=>List.Perm.refl _
 | x::l=>(zsY x _).trans ((zcn l).cons x)
omit [DecidableEq κ] in
theorem insD_srt(o:TOrd lt)(x:α): ∀ {l:List α},Srt lt key l->(∀y∈l,key y≠key x)->Srt lt key (insD lt key x l)
 | [],_,_=>by simp[insD,Srt]
 | y::r,h,hn=>by
  obtain⟨h1,h2⟩:=List.pairwise_cons.1 h;simp only[insD];split
  ·rename_i hlt;refine List.pairwise_cons.2 ⟨fun z hz=> ?_,insD_srt o x h2 (fun z hz=>hn z (List.mem_cons_of_mem _ hz))⟩;rcases List.mem_cons.1 ((zsY x r).mem_iff.1 hz)with rfl | hz
   ·exact hlt
   ·exact h1 z hz
  ·rename_i hlt;have hxy:lt (key x) (key y)=true:=by
    cases hq:lt (key x) (key y)with
    | true=>rfl
    | false=>exact absurd (o.conn _ _ (by simpa using hlt) hq) (hn y List.mem_cons_self)
   refine List.pairwise_cons.2 ⟨fun z hz=> ?_,h⟩;rcases List.mem_cons.1 hz with rfl | hz
   ·exact hxy
   ·exact o.tr _ _ _ hxy (h1 z hz)
omit [DecidableEq κ] in
theorem zm9(o:TOrd lt): ∀ {l:List α},(l.map key).Nodup ->Srt lt key (zl7 lt key l)
 | [],_=>by simp[zl7,Srt]
 | x::l,h=>by
  rw[List.map_cons]at h;obtain⟨h1,h2⟩:=List.nodup_cons.1 h;refine insD_srt o x (zm9 o h2) (fun y hy e=> ?_);exact h1 (List.mem_map.2 ⟨y,(zcn l).mem_iff.1 hy,e⟩)
omit [DecidableEq κ] in
theorem Srt.nodup(o:TOrd lt){l:List α}(h:Srt lt key l):(l.map key).Nodup :=by
 unfold Srt at h;exact List.pairwise_map.2 (h.imp fun{a b} hab=>o.ne hab)
theorem zrj(o:TOrd lt){l l':List α}(hn:(l.map key).Nodup)(hp:l.Perm l')(hs:l'.Pairwise fun x y=>lt (key y) (key x)=false):l'=zl7 lt key l:=by
 have hn':(l'.map key).Nodup :=(hp.map key).nodup_iff.1 hn;have hs':Srt lt key l':=by
  have h1:=List.pairwise_map.1 hn';exact(hs.and h1).imp fun{a b} ⟨p,q⟩=>by
   cases hq:lt (key a) (key b)with
   | true=>rfl
   | false=>exact absurd (o.conn _ _ hq p) q
 refine Srt.ext o hs' (zm9 o hn) (fun k=> ?_);have hp2:=hp.symm.trans (zcn (lt:=lt) (key:=key) l).symm;cases h1:lkp key l' k with
 | none=>
  symm;rw[zlr]at h1 ⊢;exact fun x hx=>h1 x (hp2.mem_iff.2 hx)
 | some x=>
  obtain⟨hx,rfl⟩:=zeI h1;exact(zyM o (zm9 o hn) (hp2.mem_iff.1 hx)).symm
variable {β:Type}
def zyn(lt:κ->κ->Bool)(key:α->κ)(g c:α->List β)(b:α->α->List β):Nat->List α->List α->List β
 | 0,_,_=>[]
 | _+1,[],[]=>[]
 | n+1,x::xs,[]=>g x++zyn lt key g c b n xs []
 | n+1,[],y::ys=>c y++zyn lt key g c b n [] ys
 | n+1,x::xs,y::ys=>if lt (key x) (key y)=true then g x++zyn lt key g c b n xs (y::ys)else if lt (key y) (key x)=true then c y++zyn lt key g c b n (x::xs) ys else b x y++zyn lt key g c b n xs ys
def mrgM(lt:κ->κ->Bool)(key:α->κ)(g c:α->List β)(b:α->α->List β)(xs ys:List α):List β:=zyn lt key g c b (xs.length+ys.length) xs ys
theorem zx8(o:TOrd lt){S γ:Type}(act:S->β->Option S)(ans:S->κ->Option γ)(Good:S->Prop)(v:α->γ){g c:α->List β}{b:α->α->List β}{A B:α->Prop}
  (hg: ∀s x,Good s->A x->ans s (key x)=some (v x)-> ∃s',(g x).foldlM act s=some s'/\Good s'/\ ∀k,ans s' k=if k=key x then none else ans s k)
  (hc: ∀s y,Good s->B y->ans s (key y)=none-> ∃s',(c y).foldlM act s=some s'/\Good s'/\ ∀k,ans s' k=if k=key y then some (v y)else ans s k)
  (hb: ∀s x y,Good s->A x->B y->key x=key y->ans s (key x)=some (v x)-> ∃s',(b x y).foldlM act s=some s'/\Good s'/\ ∀k,ans s' k=if k=key y then some (v y)else ans s k):
  ∀(n:Nat) (xs ys:List α) (s:S),xs.length+ys.length<=n->Srt lt key xs->Srt lt key ys->(∀x∈xs,A x)->(∀y∈ys,B y)->Good s->(∀x∈xs,ans s (key x)=some (v x))->(∀y∈ys,(∀x∈xs,key x≠key y)->ans s (key y)=none)->
   ∃s',(zyn lt key g c b n xs ys).foldlM act s=some s'/\Good s'/\ ∀k,ans s' k=match lkp key ys k with | some y=>some (v y) | none=>if (lkp key xs k).isSome then none else ans s k
 | 0,[],[],s,_,_,_,_,_,hG,_,_=>⟨s,rfl,hG,fun k=>rfl⟩
 | 0,_::_,_,_,h,_,_,_,_,_,_,_=>by simp at h
 | 0,[],_::_,_,h,_,_,_,_,_,_,_=>by simp at h
 | n+1,[],[],s,_,_,_,_,_,hG,_,_=>⟨s,rfl,hG,fun k=>rfl⟩
 | n+1,x::xs,[],s,hn,h1,h2,hA,hB,hG,hx,hy=>by
  obtain⟨p1,p2⟩:=List.pairwise_cons.1 h1;obtain⟨s1,e1,G1,a1⟩:=hg s x hG (hA x List.mem_cons_self) (hx x List.mem_cons_self);obtain⟨s2,e2,G2,a2⟩:=zx8 o act ans Good v hg hc hb n xs [] s1 (by simp at hn ⊢; omega) p2 h2 (fun z hz=>hA z (List.mem_cons_of_mem _ hz)) hB G1
   (fun z hz=>by rw[a1,if_neg (o.ne (p1 z hz)).symm]; exact hx z (List.mem_cons_of_mem _ hz)) (by simp)
  refine⟨s2,?_,G2,fun k=> ?_⟩
  ·simp only[zyn];rw[List.foldlM_append,e1]; exact e2
  ·rw[a2,a1,zxa];simp only;rw[zeH];by_cases hk:k=key x
   ·rw[if_pos hk,if_pos hk.symm]; simp
   ·rw[if_neg hk,if_neg (Ne.symm hk)]
 | n+1,[],y::ys,s,hn,h1,h2,hA,hB,hG,hx,hy=>by
  obtain⟨q1,q2⟩:=List.pairwise_cons.1 h2;obtain⟨s1,e1,G1,a1⟩:=hc s y hG (hB y List.mem_cons_self) (hy y List.mem_cons_self (by simp));obtain⟨s2,e2,G2,a2⟩:=zx8 o act ans Good v hg hc hb n [] ys s1 (by simp at hn ⊢; omega) h1 q2 hA (fun z hz=>hB z (List.mem_cons_of_mem _ hz)) G1
   (by simp) (fun z hz _=>by rw[a1,if_neg (o.ne (q1 z hz)).symm]; exact hy z (List.mem_cons_of_mem _ hz) (by simp))
  refine⟨s2,?_,G2,fun k=> ?_⟩
  ·simp only[zyn];rw[List.foldlM_append,e1]; exact e2
  ·rw[a2,a1,zeH];by_cases hk:k=key y
   ·rw[if_pos hk,if_pos hk.symm,hk,zyc o q1]; simp[zxa]
   ·rw[if_neg hk,if_neg (Ne.symm hk)]
 | n+1,x::xs,y::ys,s,hn,h1,h2,hA,hB,hG,hx,hy=>by
  obtain⟨p1,p2⟩:=List.pairwise_cons.1 h1;obtain⟨q1,q2⟩:=List.pairwise_cons.1 h2;simp only[zyn];cases hxy:lt (key x) (key y)with
  | true=>
   obtain⟨s1,e1,G1,a1⟩:=hg s x hG (hA x List.mem_cons_self) (hx x List.mem_cons_self);have hlow: ∀z∈y::ys,lt (key x) (key z)=true:=fun z hz=>by
    rcases List.mem_cons.1 hz with rfl | hz
    ·exact hxy
    ·exact o.tr _ _ _ hxy (q1 z hz)
   obtain⟨s2,e2,G2,a2⟩:=zx8 o act ans Good v hg hc hb n xs (y::ys) s1 (by simp at hn ⊢; omega) p2 h2 (fun z hz=>hA z (List.mem_cons_of_mem _ hz)) hB G1
    (fun z hz=>by rw[a1,if_neg (o.ne (p1 z hz)).symm]; exact hx z (List.mem_cons_of_mem _ hz))
    (fun z hz hne=>by
     rw[a1,if_neg (o.ne (hlow z hz)).symm];exact hy z hz (fun w hw=>by
      rcases List.mem_cons.1 hw with rfl | hw
      ·exact o.ne (hlow z hz)
      ·exact hne w hw))
   refine⟨s2,?_,G2,fun k=> ?_⟩
   ·rw[if_pos rfl,List.foldlM_append,e1]; exact e2
   ·rw[a2,a1,zeH (key:=key) x xs];by_cases hk:k=key x
    ·rw[if_pos hk,if_pos hk.symm,hk,zyc o hlow]; simp
    ·rw[if_neg hk,if_neg (Ne.symm hk)]
  | false=>
   rw[if_neg (by simp)];cases hyx:lt (key y) (key x)with
   | true=>
    have hlow: ∀z∈x::xs,lt (key y) (key z)=true:=fun z hz=>by
     rcases List.mem_cons.1 hz with rfl | hz
     ·exact hyx
     ·exact o.tr _ _ _ hyx (p1 z hz)
    obtain⟨s1,e1,G1,a1⟩:=hc s y hG (hB y List.mem_cons_self) (hy y List.mem_cons_self (fun z hz=>(o.ne (hlow z hz)).symm));obtain⟨s2,e2,G2,a2⟩:=zx8 o act ans Good v hg hc hb n (x::xs) ys s1 (by simp at hn ⊢; omega) h1 q2 hA (fun z hz=>hB z (List.mem_cons_of_mem _ hz)) G1
     (fun z hz=>by rw[a1,if_neg (o.ne (hlow z hz)).symm]; exact hx z hz)
     (fun z hz hne=>by rw[a1,if_neg (o.ne (q1 z hz)).symm]; exact hy z (List.mem_cons_of_mem _ hz) hne)
    refine⟨s2,?_,G2,fun k=> ?_⟩
    ·rw[if_pos rfl,List.foldlM_append,e1]; exact e2
    ·rw[a2,a1,zeH (key:=key) y ys];by_cases hk:k=key y
     ·rw[if_pos hk,if_pos hk.symm,hk,zyc o q1,zyc o hlow]; simp
     ·rw[if_neg hk,if_neg (Ne.symm hk)]
   | false=>
    have e:=o.conn _ _ hxy hyx;obtain⟨s1,e1,G1,a1⟩:=hb s x y hG (hA x List.mem_cons_self) (hB y List.mem_cons_self) e (hx x List.mem_cons_self);obtain⟨s2,e2,G2,a2⟩:=zx8 o act ans Good v hg hc hb n xs ys s1 (by simp at hn ⊢; omega) p2 q2 (fun z hz=>hA z (List.mem_cons_of_mem _ hz)) (fun z hz=>hB z (List.mem_cons_of_mem _ hz)) G1
     (fun z hz=>by rw[a1,if_neg (by rw[<-e]; exact(o.ne (p1 z hz)).symm)]; exact hx z (List.mem_cons_of_mem _ hz))
     (fun z hz hne=>by
      rw[a1,if_neg (o.ne (q1 z hz)).symm];exact hy z (List.mem_cons_of_mem _ hz) (fun w hw=>by
       rcases List.mem_cons.1 hw with rfl | hw
       ·rw[e]; exact o.ne (q1 z hz)
       ·exact hne w hw))
    refine⟨s2,?_,G2,fun k=> ?_⟩
    ·rw[if_neg (by simp),List.foldlM_append,e1]; exact e2
    ·rw[a2,a1,zeH (key:=key) y ys,zeH (key:=key) x xs];by_cases hk:k=key y
     ·rw[if_pos hk,if_pos hk.symm,hk,zyc o q1,zyc o (by rw[<-e]; exact p1)]; simp
     ·have hkx: ¬key x=k:=(by rw[e]; exact Ne.symm hk);rw[if_neg hk,if_neg (Ne.symm hk),if_neg hkx]
end
end Go.Aw
