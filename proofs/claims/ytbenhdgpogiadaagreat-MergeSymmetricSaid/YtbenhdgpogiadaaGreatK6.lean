/-
 CONTRACTS and plain laws. Conditions: those of each law.
-/
import Derived.Test.YtbenhdgpogiadaaGreatK4
import Derived.Test.YtbenhdgpogiadaaGreatK3
import Derived.Test.YtbenhdgpogiadaaGreatK5
import Derived.Test.YtbenhdgpogiadaaGreatK2
import Derived.Test.YtbenhdgpogiadaaGreatGFp
set_option linter.unusedSimpArgs false
set_option linter.unusedVariables false
namespace Go.Proofs.YtbenhdgpogiadaaGreat
open Go.Aw
structure Place where
 module:Str
 part:Part
 deriving DecidableEq
def ltQ(a b:Place):Bool:=ltS a.module b.module||(decide (a.module=b.module)&&ltP a.part b.part)
theorem zlZ:TOrd ltQ:={
 irr:=fun a=>by simp[ltQ,zrt.irr,zuJ.irr]
 tr:=fun a b c h1 h2=>by
  simp only[ltQ,Bool.or_eq_true,decide_eq_true_eq,Bool.and_eq_true]at h1 h2 ⊢;rcases h1 with h1 | ⟨e1,h1⟩
  ·rcases h2 with h2 | ⟨e2,h2⟩
   ·exact .inl (zrt.tr _ _ _ h1 h2)
   ·exact .inl (e2▸h1)
  ·rcases h2 with h2 | ⟨e2,h2⟩
   ·exact .inl (e1▸h2)
   ·exact .inr ⟨e1.trans e2,zuJ.tr _ _ _ h1 h2⟩
 conn:=fun a b h1 h2=>by
  simp only[ltQ,Bool.or_eq_false_iff,decide_eq_false_iff_not,Bool.and_eq_false_iff]at h1 h2;obtain⟨a1,a2⟩:=a;obtain⟨b1,b2⟩:=b;simp only at h1 h2;have e:=zrt.conn a1 b1 h1.1 h2.1;subst e;have:=zuJ.conn a2 b2 (h1.2.resolve_left (fun h=>h rfl)) (h2.2.resolve_left (fun h=>h rfl));rw[this]}
instance:DecidableEq Module:=fun m n=>decidable_of_iff (zm4 m n=true) (zuh m n)
/-! ### Lists with keys -/
section
variable {κ α:Type} [DecidableEq κ] {lt:κ->κ->Bool} {key:α->κ}
theorem zvI: ∀ {l:List α},(l.map key).Nodup -> ∀ {x:α},x∈l->lkp key l (key x)=some x
 | [],_,_,hx=>by cases hx
 | y::l,h,x,hx=>by
  rw[List.map_cons,List.nodup_cons]at h;rw[zeH];rcases List.mem_cons.1 hx with rfl | hx
  ·rw[if_pos rfl]
  ·rw[if_neg (fun e=>h.1 (List.mem_map.2 ⟨x,hx,e.symm⟩)),zvI h.2 hx]
theorem lkp_id(l:List κ)(k:κ):lkp id l k=if k∈l then some k else none:=by
 cases h:lkp id l k with
 | none=>
  rw[if_neg];intro hk;exact zlr.1 h k hk rfl
 | some x=>
  obtain⟨h1,h2⟩:=zeI h;simp only[id]at h2;subst h2;rw[if_pos h1]
theorem zxI(o:TOrd lt){l l':List κ}(h:Srt lt id l)(h':Srt lt id l')(e: ∀k,k∈l↔k∈l'):l=l':=by
 refine Srt.ext o h h' fun k=> ?_;rw[lkp_id,lkp_id];by_cases hk:k∈l
 ·rw[if_pos hk,if_pos ((e k).1 hk)]
 ·rw[if_neg hk,if_neg (fun h=>hk ((e k).2 h))]
theorem mem_put(o:TOrd lt){l:List κ}(h:Srt lt id l)(x k:κ):k∈zpT lt id l x↔k=x\/k∈l:=by
 have h1:=zym o x k h;rw[lkp_id,lkp_id]at h1;simp only[id]at h1;by_cases hk:k=x
 ·rw[if_pos hk]at h1;by_cases hm:k∈zpT lt id l x
  ·exact⟨fun _=>.inl hk,fun _=>hm⟩
  ·rw[if_neg hm]at h1; cases h1
 ·rw[if_neg hk]at h1;by_cases hm:k∈zpT lt id l x
  ·rw[if_pos hm]at h1;by_cases hl:k∈l
   ·simp[hm,hl]
   ·rw[if_neg hl]at h1; cases h1
  ·rw[if_neg hm]at h1;by_cases hl:k∈l
   ·rw[if_pos hl]at h1; cases h1
   ·simp[hm,hl,hk]
/-- A list as a set in order. -/
def setS(lt:κ->κ->Bool)(l:List κ):List κ:=l.foldl (zpT lt id) []
theorem zui(o:TOrd lt): ∀(l s:List κ),Srt lt id s->Srt lt id (l.foldl (zpT lt id) s)/\ ∀k,k∈l.foldl (zpT lt id) s↔k∈l\/k∈s
 | [],s,h=>⟨h,fun k=>by simp⟩
 | x::l,s,h=>by
  obtain⟨h1,h2⟩:=zui o l (zpT lt id s x) (h.ins o x);refine⟨h1,fun k=> ?_⟩;rw[List.foldl_cons,h2 k,mem_put o h,List.mem_cons];constructor
  ·rintro(h | h | h)
   ·exact .inl (.inr h)
   ·exact .inl (.inl h)
   ·exact .inr h
  ·rintro((h | h) | h)
   ·exact .inr (.inl h)
   ·exact .inl h
   ·exact .inr (.inr h)
theorem zjG(o:TOrd lt)(l:List κ):Srt lt id (setS lt l):=(zui o l [] List.Pairwise.nil).1
theorem zgy(o:TOrd lt){l:List κ}{k:κ}:k∈setS lt l↔k∈l:=by
 unfold setS;rw[(zui o l [] List.Pairwise.nil).2 k];simp
theorem setS_eq(o:TOrd lt){l s:List κ}(h:Srt lt id s)(e: ∀k,k∈s↔k∈l):s=setS lt l:=zxI o h (zjG o l) fun k=>(e k).trans (zgy o).symm
end
/-! ### Contents -/
def zbB(n:Str):Place:=⟨n,zc7⟩
def plI(n:Str)(x:Item):Place:=⟨n,zbg x⟩
def itM(x:Item):Module:={zdP with items:=[x]}
def hdM(m:Module):Module:={m with items:=[]}
def zmp(m:Module):List (Place×Module):=(zbB m.name,hdM m)::m.items.map fun x=>(plI m.name x,itM x)
def ent(l:List Module):List (Place×Module):=l.flatMap zmp
abbrev zrY:=Place->Option Module
def zbc(l:List Module):zrY:=fun p=>(lkp Module.name l p.module).bind fun m=>if p.part=zc7 then some (hdM m)else(lkp zbg m.items p.part).map itM
theorem zz7{x y:Item}(h:itM x=itM y):x=y:=by
 have:=congrArg Module.items h;simpa [itM]using this
/-- What an entry is. -/
def IsEnt(l:List Module)(p:Place)(c:Module):Prop:= ∃m∈l,(p=zbB m.name/\c=hdM m)\/ ∃x∈m.items,p=plI m.name x/\c=itM x
theorem zjS{l:List Module}{p:Place}{c:Module}:(p,c)∈ent l↔IsEnt l p c:=by
 unfold ent IsEnt zmp;simp only[List.mem_flatMap,List.mem_cons,List.mem_map,Prod.mk.injEq];constructor
 ·rintro⟨m,hm,h | ⟨x,hx,h1,h2⟩⟩
  ·exact⟨m,hm,.inl h⟩
  ·exact⟨m,hm,.inr ⟨x,hx,h1.symm,h2.symm⟩⟩
 ·rintro⟨m,hm,h | ⟨x,hx,h1,h2⟩⟩
  ·exact⟨m,hm,.inl h⟩
  ·exact⟨m,hm,.inr ⟨x,hx,h1.symm,h2.symm⟩⟩
theorem zek{l:List Module}{p:Place}{c:Module}(h:zbc l p=some c):IsEnt l p c:=by
 unfold zbc at h;rw[Option.bind_eq_some_iff]at h;obtain⟨m,hm,h⟩:=h;obtain⟨h1,h2⟩:=zeI hm;obtain⟨pm,pp⟩:=p;simp only at h2 h;subst h2;refine⟨m,h1,?_⟩;by_cases hp:pp=zc7
 ·rw[if_pos hp]at h;cases h;exact .inl ⟨by rw[hp]; rfl,rfl⟩
 ·rw[if_neg hp,Option.map_eq_some_iff]at h;obtain⟨x,hx,rfl⟩:=h;obtain⟨h3,h4⟩:=zeI hx;exact .inr ⟨x,h3,by rw[<-h4]; rfl,rfl⟩
theorem zjN{l:List Module}(h:Parted l){p:Place}{c:Module}(he:IsEnt l p c):zbc l p=some c:=by
 obtain⟨m,hm,⟨rfl,rfl⟩ | ⟨x,hx,rfl,rfl⟩⟩:=he
 ·unfold zbc zbB;simp only[zvI h.names hm,Option.bind_some,if_true]
 ·unfold zbc plI;simp only[zvI h.names hm,Option.bind_some,if_neg (zlW (h.kinds m hm x hx)),zvI (h.parts m hm) hx,Option.map_some]
theorem cont_iff{l:List Module}(h:Parted l){p:Place}{c:Module}:zbc l p=some c↔IsEnt l p c:=⟨zek,zjN h⟩
def zey(l:List Module):List Place:=(ent l).map Prod.fst
theorem zq8{l:List Module}(h:Parted l){p:Place}:p∈zey l↔zbc l p≠none:=by
 unfold zey;rw[List.mem_map];constructor
 ·rintro⟨⟨q,c⟩,hq,rfl⟩;rw[zjN h (zjS.1 hq)];simp
 ·intro hc;obtain⟨c,hc⟩:=Option.ne_none_iff_exists'.1 hc;exact⟨(p,c),zjS.2 (zek hc),rfl⟩
theorem keysM_nodup{m:Module}(h:(m.items.map zbg).Nodup)(hk: ∀x∈m.items,x.kind.1≠0):((zmp m).map Prod.fst).Nodup :=by
 unfold zmp;rw[List.map_cons,List.map_map,List.nodup_cons];refine⟨?_,?_⟩
 ·rw[List.mem_map];rintro⟨x,hx,e⟩;have:=congrArg Place.part e;exact zlW (hk x hx) this
 ·have e:m.items.map (Prod.fst∘fun x=>(plI m.name x,itM x))=(m.items.map zbg).map fun p=>(⟨m.name,p⟩:Place):=by
   rw[List.map_map]; rfl
  rw[e];refine List.Pairwise.map _ (fun a b hab e=>hab ?_) h;have:=congrArg Place.part e;exact this
theorem zvE{m:Module}{p:Place}(h:p∈(zmp m).map Prod.fst):p.module=m.name:=by
 unfold zmp at h;rw[List.map_cons,List.map_map,List.mem_cons,List.mem_map]at h;rcases h with rfl | ⟨x,_,rfl⟩ <;> rfl
theorem zqs: ∀ {l:List Module},Parted l->(zey l).Nodup
 | [],_=>List.nodup_nil
 | m::r,h=>by
  have hr:Parted r:=⟨(List.nodup_cons.1 (List.map_cons▸h.names)).2,fun q hq=>h.parts q (List.mem_cons_of_mem _ hq),fun q hq=>h.kinds q (List.mem_cons_of_mem _ hq)⟩;unfold zey ent;rw[List.flatMap_cons,List.map_append,List.nodup_append];refine⟨keysM_nodup (h.parts m (by simp)) (h.kinds m (by simp)),zqs hr,?_⟩;intro a ha b hb e;subst e;have h1:=zvE ha;rw[List.mem_map]at hb;obtain⟨q,hq,rfl⟩:=hb;rw[List.mem_flatMap]at hq;obtain⟨z,hz,hq⟩:=hq;have h2:=zvE (List.mem_map.2 ⟨q,hq,rfl⟩);have hn:=(List.nodup_cons.1 (List.map_cons▸h.names)).1;exact hn (List.mem_map.2 ⟨z,hz,by rw[<-h2,h1]⟩)
theorem lkp_ent{l:List Module}(h:Parted l)(p:Place):lkp Prod.fst (ent l) p=(zbc l p).map fun c=>(p,c):=by
 cases hc:zbc l p with
 | some c=>exact zvI (x:=(p,c)) (zqs h) (zjS.2 (zek hc))
 | none=>
  refine zlr.2 fun x hx e=> ?_;subst e;rw[zjN h (zjS.1 hx)]at hc;cases hc
/-! ### Kinds above 0 -/
structure PK (l:List Module):Prop where
 kinds: ∀m∈l,∀x∈m.items,0<x.kind.1
theorem zzc{x:Item}(h:0<x.kind.1):ltP zc7 (zbg x)=true:=by
 unfold ltP;have:zc7.kind.1<(zbg x).kind.1 :=h;simp[this]
theorem Parted.of_good{l:List Module}(h:Good l)(hk:Kinds l):Parted l:=⟨h.srt.nodup zrt,fun m hm=>(h.parts m hm).nodup zuJ,hk.kinds⟩
theorem PK.kd{l:List Module}(h:PK l):Kinds l:=⟨fun m hm x hx e=>by have:=h.kinds m hm x hx; omega⟩
theorem ltQ_head{n k:Str}(h:ltQ (zbB n) (zbB k)=true):ltS n k=true:=by
 simp only[ltQ,zbB,Bool.or_eq_true,Bool.and_eq_true,zuJ.irr]at h;rcases h with h | ⟨_,h⟩
 ·exact h
 ·cases h
theorem ltQ_part{n:Str}{a b:Part}(h:ltQ ⟨n,a⟩ ⟨n,b⟩=true):ltP a b=true:=by
 simp only[ltQ,Bool.or_eq_true,Bool.and_eq_true,zrt.irr]at h;rcases h with h | ⟨_,h⟩
 ·cases h
 ·exact h
theorem zsQ: ∀ {l:List Module},Srt ltQ Prod.fst (ent l)->Good l
 | [],_=>⟨List.Pairwise.nil,fun m hm=>by cases hm⟩
 | m::r,h=>by
  unfold ent Srt at h;rw[List.flatMap_cons,List.pairwise_append]at h;obtain⟨h1,h2,h3⟩:=h;have hr:Good r:=zsQ h2;refine⟨List.pairwise_cons.2 ⟨fun z hz=> ?_,hr.srt⟩,fun z hz=> ?_⟩
  ·have ha:(zbB m.name,hdM m)∈zmp m:=by unfold zmp; simp
   have hb:(zbB z.name,hdM z)∈r.flatMap zmp:=List.mem_flatMap.2 ⟨z,hz,by unfold zmp; simp⟩;exact ltQ_head (h3 _ ha _ hb)
  ·rcases List.mem_cons.1 hz with rfl | hz
   ·unfold zmp at h1;have h4:=(List.pairwise_cons.1 h1).2;rw[List.pairwise_map]at h4;exact h4.imp fun{a b} hab=>ltQ_part hab
   ·exact hr.parts z hz
theorem zwK{a b:List Module}(ha:Good a)(hb:Good b)(ka:Kinds a)(kb:Kinds b)(h: ∀p,zbc a p=zbc b p):a=b:=by
 refine ha.ext hb fun k=> ?_;have key: ∀ {a b:List Module},Good a->Good b->Kinds a->Kinds b->(∀p,zbc a p=zbc b p)-> ∀m,lkp Module.name a k=some m->lkp Module.name b k=some m:=by
  intro a b ha hb ka kb h m hm;have h1:=h (zbB k);have e1:zbc a (zbB k)=some (hdM m):=by unfold zbc zbB; simp only[hm,Option.bind_some,if_true]
  rw[e1]at h1;cases hn:lkp Module.name b k with
  | none=>
   have e2:zbc b (zbB k)=none:=by unfold zbc zbB; simp only[hn,Option.bind_none]
   rw[e2]at h1;cases h1
  | some m'=>
   have e2:zbc b (zbB k)=some (hdM m'):=by unfold zbc zbB; simp only[hn,Option.bind_some,if_true]
   rw[e2,Option.some.injEq]at h1;have hi:m.items=m'.items:=by
    refine Srt.ext zuJ (ha.at hm).1 (hb.at hn).1 fun q=> ?_;by_cases hq:q=zc7
    ·subst hq;rw[zlr.2 fun x hx=>zlW (ka.kinds m (zeI hm).1 x hx),zlr.2 fun x hx=>zlW (kb.kinds m' (zeI hn).1 x hx)]
    ·have h2:=h ⟨k,q⟩;unfold zbc at h2;simp only[hm,hn,Option.bind_some,if_neg hq]at h2;cases e3:lkp zbg m.items q with
     | none=>
      rw[e3,Option.map_none]at h2;cases e4:lkp zbg m'.items q with
      | none=>rfl
      | some y=>rw[e4]at h2; cases h2
     | some x=>
      rw[e3,Option.map_some]at h2;cases e4:lkp zbg m'.items q with
      | none=>rw[e4]at h2; cases h2
      | some y=>
       rw[e4,Option.map_some,Option.some.injEq]at h2;rw[zz7 h2]
   obtain⟨n1,c1,p1,i1⟩:=m;obtain⟨n2,c2,p2,i2⟩:=m';simp only[hdM,Module.mk.injEq,and_true]at h1 hi;obtain⟨rfl,rfl,rfl⟩:=h1;subst hi;rfl
 cases hm:lkp Module.name a k with
 | some m=>exact(key ha hb ka kb h m hm).symm
 | none=>
  cases hn:lkp Module.name b k with
  | none=>rfl
  | some m=>rw[key hb ha kb ka (fun p=>(h p).symm) m hn]at hm; cases hm
theorem zvB{l:List Module}{p:Place}{c:Module}:IsEnt (zcC l) p c↔IsEnt l p c:=by
 unfold IsEnt zcC;constructor
 ·rintro⟨m,hm,h⟩;obtain⟨q,hq,rfl⟩:=List.mem_map.1 hm;refine⟨q,(zcn l).mem_iff.1 hq,?_⟩;rcases h with h | ⟨x,hx,h⟩
  ·exact .inl h
  ·exact .inr ⟨x,(zcn q.items).mem_iff.1 hx,h⟩
 ·rintro⟨m,hm,h⟩;refine⟨zl5 m,List.mem_map.2 ⟨m,(zcn l).mem_iff.2 hm,rfl⟩,?_⟩;rcases h with h | ⟨x,hx,h⟩
  ·exact .inl h
  ·exact .inr ⟨x,(zcn m.items).mem_iff.2 hx,h⟩
theorem zzX{l:List Module}(h:Parted l)(p:Place):zbc (zcC l) p=zbc l p:=by
 have hp:=Parted.of_good (ziv h) (zlv h);cases hc:zbc l p with
 | some c=>exact(cont_iff hp).2 (zvB.2 (zek hc))
 | none=>
  cases hd:zbc (zcC l) p with
  | none=>rfl
  | some c=>rw[zjN h (zvB.1 (zek hd))]at hc; cases hc
/-! ### Sides -/
def zfo(b x y:zrY)(p:Place):Nat:=if b p=x p then(if b p=y p then 0 else 2)else if b p=y p then 1 else if x p=y p then 3 else 4
def zfF(b x y:zrY):zrY:=fun p=>if zfo b x y p=2 then y p else x p
def zop(b x y:zrY)(p:Place):Prop:=p≠zbB p.module/\zfF b x y (zbB p.module)=none/\zfo b x y (zbB p.module)≠4/\(zfF b x y p≠none\/zfo b x y p=4)
instance (b x y:zrY) (p:Place):Decidable (zop b x y p):=by unfold zop; infer_instance
def zee(b x y:zrY)(p:Place):List Place:=(if zfo b x y p=4 then [p]else [])++(if zop b x y p then [zbB p.module]else [])
def confP(b x y:zrY)(ps:List Place):List Place:=setS ltQ (ps.flatMap (zee b x y))
theorem mem_step{b x y:zrY}{p q:Place}:q∈zee b x y p↔(q=p/\zfo b x y p=4)\/(q=zbB p.module/\zop b x y p):=by
 unfold zee;rw[List.mem_append];by_cases h1:zfo b x y p=4 <;> by_cases h2:zop b x y p <;> simp[h1,h2]
theorem mem_conf{b x y:zrY}{ps:List Place}{q:Place}:q∈confP b x y ps↔ ∃p∈ps,(q=p/\zfo b x y p=4)\/(q=zbB p.module/\zop b x y p):=by
 unfold confP;rw[zgy zlZ,List.mem_flatMap];constructor
 ·rintro⟨p,hp,h⟩; exact⟨p,hp,mem_step.1 h⟩
 ·rintro⟨p,hp,h⟩; exact⟨p,hp,mem_step.2 h⟩
/-! ### The merged file -/
def addL:List Module->List Item->List Module
 | [],_=>[]
 | [m],its=>[{m with items:=m.items++its}]
 | m::n::r,its=>m::addL (n::r) its
theorem zr3: ∀(A:List Module) (w:Module) (its:List Item),addL (A++[w]) its=A++[{w with items:=w.items++its}]
 | [],w,its=>rfl
 | [a],w,its=>rfl
 | a::b::A,w,its=>by
  have:=zr3 (b::A) w its;simp only[List.cons_append]at this ⊢;rw[addL,this]
def zrm(g:zrY)(acc:List Module)(p:Place):List Module:=match g p with
 | none=>acc
 | some m=>if p.part=zc7 then acc++[m]else addL acc m.items
def build(g:zrY)(ps:List Place):List Module:=ps.foldl (zrm g) []
def entG(g:zrY)(p:Place):Option (Place×Module):=(g p).map fun c=>(p,c)
structure Shape (g:zrY):Prop where
 hd: ∀p m,g p=some m->p.part=zc7->m.name=p.module/\m.items=[]
 it: ∀p m,g p=some m->p.part≠zc7-> ∃x,m=itM x/\zbg x=p.part/\0<x.kind.1
 head: ∀p m,g p=some m->g (zbB p.module)≠none
theorem zgY(a b:List Module):ent (a++b)=ent a++ent b:=List.flatMap_append
theorem zqb(m:Module):ent [m]=zmp m:=by simp[ent]
theorem zoU{g:zrY}{ps:List Place}(hs:Srt ltQ id ps)(hg:Shape g)(hc: ∀p,g p≠none->p∈ps): ∀n,n<=ps.length->ent (build g (ps.take n))=(ps.take n).filterMap (entG g)
 | 0,_=>rfl
 | n+1,h=>by
  have ih:=zoU hs hg hc n (by omega);have hn:n<ps.length:=by omega
  rw[List.take_succ_eq_append_getElem hn,List.filterMap_append];unfold build at ih ⊢;rw[List.foldl_append];obtain⟨M,hM⟩:=zX ((ps.take n).foldl (zrm g) []);obtain⟨p,hp⟩:=zX (ps[n]);rw[hM]at ih ⊢;rw[hp];show ent (zrm g M p)=_++[p].filterMap (entG g);have hlt: ∀q∈ps,ltQ q p=true->q∈ps.take n:=by
   intro q hq hl;obtain⟨j,hj,rfl⟩:=List.getElem_of_mem hq;rcases Nat.lt_or_ge j n with hjn | hjn
   ·rw[List.mem_take_iff_getElem]; exact⟨j,by omega,rfl⟩
   ·rcases Nat.eq_or_lt_of_le hjn with e | hjn
    ·subst e; rw[hp,zlZ.irr]at hl; cases hl
    ·have:=(List.pairwise_iff_getElem.1 hs) n j hn hj hjn;simp only[id,hp]at this;rw[zlZ.asymm this]at hl; cases hl
  have hpre: ∀q∈ps.take n,ltQ q p=true:=by
   intro q hq;rw[List.mem_take_iff_getElem]at hq;obtain⟨j,hj,rfl⟩:=hq;have:=(List.pairwise_iff_getElem.1 hs) j n (by omega) hn (by omega);simpa [hp]using this
  cases hgp:g p with
  | none=>simp[zrm,hgp,entG,ih]
  | some m=>
   have e1:[p].filterMap (entG g)=[(p,m)]:=by simp[entG,hgp]
   rw[e1];by_cases hz:p.part=zc7
   ·obtain⟨h1,h2⟩:=hg.hd p m hgp hz;have e2:zrm g M p=M++[m]:=(by simp[zrm,hgp,hz]);have e3:hdM m=m:=(by unfold hdM; rw[<-h2]);have e4:zbB m.name=p:=(by rw[h1]; unfold zbB; rw[<-hz]);rw[e2,zgY,ih,zqb,zmp,h2,e3,e4];rfl
   ·obtain⟨x,rfl,h2,h3⟩:=hg.it p m hgp hz;have hh:=hg.head p _ hgp;have hlh:ltQ (zbB p.module) p=true:=by
     unfold ltQ zbB;simp only[Bool.or_eq_true,Bool.and_eq_true,decide_true,true_and];right;rw[<-h2]; exact zzc h3
    have hin:=hlt _ (hc _ hh) hlh;obtain⟨c,hcc⟩:=Option.ne_none_iff_exists'.1 hh;have hE:(zbB p.module,c)∈ent M:=by
     rw[ih,List.mem_filterMap];exact⟨_,hin,by simp[entG,hcc]⟩
    have hsE:Srt ltQ Prod.fst (ent M):=by
     rw[ih];unfold Srt;rw[List.pairwise_filterMap];refine(List.Pairwise.sublist (List.take_sublist _ _) hs).imp ?_;intro a b hab a' ha b' hb;simp only[entG,Option.map_eq_some_iff]at ha hb;obtain⟨_,_,rfl⟩:=ha;obtain⟨_,_,rfl⟩:=hb;exact hab
    rcases List.eq_nil_or_concat M with hnil | ⟨A,w,hw⟩
    ·rw[hnil]at hE; cases hE
    ·rw[List.concat_eq_append]at hw;subst hw;have e2:zrm g (A++[w]) p=A++[{w with items:=w.items++[x]}]:=by
      simp only[zrm,hgp,if_neg hz];exact zr3 _ _ _
     have hwn:w.name=p.module:=by
      have hwE:(zbB w.name,hdM w)∈ent (A++[w]):=zjS.2 ⟨w,by simp,.inl ⟨rfl,rfl⟩⟩;have hwp:ltQ (zbB w.name) p=true:=by
       rw[ih,List.mem_filterMap]at hwE;obtain⟨q,hq,e⟩:=hwE;simp only[entG,Option.map_eq_some_iff,Prod.mk.injEq]at e;obtain⟨_,_,e,_⟩:=e;rw[<-e]; exact hpre q hq
      obtain⟨z,hz',hcase⟩:=zjS.1 hE;have hzn:z.name=p.module:=by
       rcases hcase with⟨e,_⟩ | ⟨_,_,e,_⟩
       ·exact(congrArg Place.module e).symm
       ·exact(congrArg Place.module e).symm
      rcases List.mem_append.1 hz' with hzA | hzw
      ·rw[zgY,zqb]at hsE;have h4:=(List.pairwise_append.1 hsE).2.2 (zbB z.name,hdM z) (zjS.2 ⟨z,hzA,.inl ⟨rfl,rfl⟩⟩) (zbB w.name,hdM w) (by unfold zmp; simp);have h5:=ltQ_head h4;rw[hzn]at h5;simp only[ltQ,zbB,Bool.or_eq_true,Bool.and_eq_true,decide_eq_true_eq]at hwp;rcases hwp with h6 | ⟨h6,_⟩
       ·rw[zrt.asymm h5]at h6; cases h6
       ·exact of_decide_eq_true h6
      ·simp only[List.mem_singleton]at hzw;rw[<-hzw]; exact hzn
     rw[e2,zgY,zqb,<-ih,zgY,zqb,List.append_assoc];congr 1;unfold zmp;simp only[List.map_append,List.map_cons,List.map_nil,List.cons_append,List.cons.injEq];refine⟨rfl,?_⟩;congr 2;have:plI w.name x=p:=(by unfold plI; rw[hwn,h2]);rw[this]
theorem build_law{g:zrY}{ps:List Place}(hs:Srt ltQ id ps)(hg:Shape g)(hc: ∀p,g p≠none->p∈ps):Good (build g ps)/\PK (build g ps)/\ ∀p,zbc (build g ps) p=g p:=by
 have h:=zoU hs hg hc ps.length (Nat.le_refl _);rw[List.take_length]at h;have hsE:Srt ltQ Prod.fst (ent (build g ps)):=by
  rw[h];unfold Srt;rw[List.pairwise_filterMap];refine List.Pairwise.imp ?_ hs;intro a b hab a' ha b' hb;simp only[entG,Option.map_eq_some_iff]at ha hb;obtain⟨_,_,rfl⟩:=ha;obtain⟨_,_,rfl⟩:=hb;exact hab
 have hG:=zsQ hsE;have hmem: ∀p c,(p,c)∈ent (build g ps)↔g p=some c:=by
  intro p c;rw[h,List.mem_filterMap];simp only[entG,Option.map_eq_some_iff,Prod.mk.injEq];constructor
  ·rintro⟨q,_,c',h1,rfl,rfl⟩; exact h1
  ·intro h1; exact⟨p,hc p (by rw[h1]; simp),c,h1,rfl,rfl⟩
 have hK:PK (build g ps):=by
  refine⟨fun m hm x hx=> ?_⟩;have h1:=(hmem _ _).1 (zjS.2 ⟨m,hm,.inr ⟨x,hx,rfl,rfl⟩⟩);by_cases hz:(plI m.name x).part =zc7
  ·have:=(hg.hd _ _ h1 hz).2;simp[itM]at this
  ·obtain⟨y,h2,_,h3⟩:=hg.it _ _ h1 hz;rw[zz7 h2]; exact h3
 have hP:=Parted.of_good hG hK.kd;refine⟨hG,hK,fun p=> ?_⟩;cases hgp:g p with
 | some c=>exact zjN hP (zjS.1 ((hmem p c).2 hgp))
 | none=>
  cases hd:zbc (build g ps) p with
  | none=>rfl
  | some c=>
   have:=(hmem p c).1 (zjS.2 (zek hd));rw[hgp]at this; cases this
structure Fl (l:List Module):Prop where
 part:Parted l
 pk:PK l
theorem Fl.head{l:List Module}(h:Fl l){p:Place}(hp:zbc l p≠none):zbc l (zbB p.module)≠none:=by
 obtain⟨c,hc⟩:=Option.ne_none_iff_exists'.1 hp;obtain⟨m,hm,⟨rfl,_⟩ | ⟨x,hx,rfl,_⟩⟩:=zek hc
 ·show zbc l (zbB m.name)≠none;rw[zjN h.part ⟨m,hm,.inl ⟨rfl,rfl⟩⟩]; simp
 ·show zbc l (zbB m.name)≠none;rw[zjN h.part ⟨m,hm,.inl ⟨rfl,rfl⟩⟩]; simp
theorem Fl.hd{l:List Module}(h:Fl l){p:Place}{m:Module}(hc:zbc l p=some m)(hz:p.part=zc7):m.name=p.module/\m.items=[]:=by
 obtain⟨q,hq,⟨rfl,rfl⟩ | ⟨x,hx,rfl,_⟩⟩:=zek hc
 ·exact⟨rfl,rfl⟩
 ·exact absurd hz (zlW (h.part.kinds q hq x hx))
theorem Fl.it{l:List Module}(h:Fl l){p:Place}{m:Module}(hc:zbc l p=some m)(hz:p.part≠zc7): ∃x,m=itM x/\zbg x=p.part/\0<x.kind.1:=by
 obtain⟨q,hq,⟨rfl,rfl⟩ | ⟨x,hx,rfl,rfl⟩⟩:=zek hc
 ·exact absurd rfl hz
 ·exact⟨x,rfl,rfl,h.pk.kinds q hq x hx⟩
def zoQ(fs:List (List Module)):List Place:=setS ltQ (fs.flatMap zey)
theorem zn1(fs:List (List Module)):Srt ltQ id (zoQ fs):=zjG zlZ _
theorem mem_all{fs:List (List Module)}(h: ∀f∈fs,Parted f){p:Place}:p∈zoQ fs↔ ∃f∈fs,zbc f p≠none:=by
 unfold zoQ;rw[zgy zlZ,List.mem_flatMap];constructor
 ·rintro⟨f,hf,h1⟩; exact⟨f,hf,(zq8 (h f hf)).1 h1⟩
 ·rintro⟨f,hf,h1⟩; exact⟨f,hf,(zq8 (h f hf)).2 h1⟩
def zc0(a b:List Module):List Place:=(zoQ [a,b]).filter fun p=>decide (zbc a p≠zbc b p)
theorem zfE{a b:List Module}(ha:Parted a)(hb:Parted b){p:Place}:p∈zc0 a b↔zbc a p≠zbc b p:=by
 unfold zc0;rw[List.mem_filter,decide_eq_true_eq,mem_all (by simp[ha,hb])];constructor
 ·exact fun h=>h.2
 ·intro h;refine⟨?_,h⟩;by_cases h1:zbc a p=none
  ·exact⟨b,by simp,fun h2=>h (h1.trans h2.symm)⟩
  ·exact⟨a,by simp,h1⟩
/-! ### Sides -/
section
variable {b x y:zrY} {p:Place}
theorem zhS:zfo b x y p=4↔b p≠x p/\b p≠y p/\x p≠y p:=by
 unfold zfo;split
 ·split <;> simp_all
 ·split
  ·simp_all
  ·split <;> simp_all
theorem zgH:zfo b x y p=2↔b p=x p/\b p≠y p:=by
 unfold zfo;split
 ·split <;> simp_all
 ·split
  ·simp_all
  ·split <;> simp_all
theorem zqL:zfo b y x p=4↔zfo b x y p=4:=by
 rw[zhS,zhS];exact⟨fun⟨h1,h2,h3⟩=>⟨h2,h1,h3.symm⟩,fun⟨h1,h2,h3⟩=>⟨h2,h1,h3.symm⟩⟩
theorem zmM(h:zfo b x y p≠4):zfF b y x p=zfF b x y p:=by
 unfold zfF;rw[Ne,zhS]at h;by_cases h1:zfo b x y p=2
 ·have h2:=zgH.1 h1;rw[if_pos h1,if_neg (fun h3=>h2.2 (zgH.1 h3).1)]
 ·rw[if_neg h1];rw[zgH]at h1;by_cases h3:zfo b y x p=2
  ·rw[if_pos h3]
  ·rw[if_neg h3];rw[zgH]at h3;by_cases e1:b p=x p
   ·by_cases e2:b p=y p
    ·rw[<-e1,<-e2]
    ·exact absurd ⟨e1,e2⟩ h1
   ·by_cases e2:b p=y p
    ·exact absurd ⟨e2,e1⟩ h3
    ·by_cases e3:x p=y p
     ·exact e3.symm
     ·exact absurd ⟨e1,e2,e3⟩ h
theorem lost_comm:zop b y x p↔zop b x y p:=by
 have key: ∀ {x y:zrY},zop b x y p->zop b y x p:=by
  rintro x y ⟨h1,h2,h3,h4⟩;refine⟨h1,by rw[zmM h3]; exact h2,fun e=>h3 (zqL.1 e),?_⟩;by_cases h5:zfo b x y p=4
  ·exact .inr (zqL.2 h5)
  ·rw[zmM h5];rcases h4 with h4 | h4
   ·exact .inl h4
   ·exact absurd h4 h5
 exact⟨key,key⟩
theorem zmN:zfF b x y p=x p\/zfF b x y p=y p:=by
 unfold zfF;split
 ·exact .inr rfl
 ·exact .inl rfl
end
/-! ### Merged -/
structure Got where
 f:List Module
 l:List Place
 e:Int
section
variable (b x y:List Module)
def zdy:List Place:=confP (zbc b) (zbc x) (zbc y) (zoQ [b,x,y])
def zbA:List Module:=build (zfF (zbc b) (zbc x) (zbc y)) (zoQ [b,x,y])
def zbk:Got:=if zdy b x y≠[]then⟨[],zdy b x y,170⟩else if zbi (zbA b x y)=true then⟨zbA b x y,[],0⟩else⟨[],[],100⟩
end
section
variable {b x y:List Module} (hb:Fl b) (hx:Fl x) (hy:Fl y)
include hb hx hy
theorem zxe{p:Place}:p∈zoQ [b,x,y]↔zbc b p≠none\/zbc x p≠none\/zbc y p≠none:=by
 rw[mem_all (by simp[hb.part,hx.part,hy.part])];simp
theorem zpG{p:Place}(h:zfo (zbc b) (zbc x) (zbc y) p=4):p∈zoQ [b,x,y]:=by
 rw[zxe hb hx hy];obtain⟨h1,_,_⟩:=zhS.1 h;by_cases h2:zbc b p=none
 ·rw[h2]at h1; exact .inr (.inl h1.symm)
 ·exact .inl h2
theorem zrK{p:Place}(h:zfF (zbc b) (zbc x) (zbc y) p≠none):p∈zoQ [b,x,y]:=by
 rw[zxe hb hx hy];rcases zmN (b:=zbc b) (x:=zbc x) (y:=zbc y) (p:=p)with e | e
 ·rw[e]at h; exact .inr (.inl h)
 ·rw[e]at h; exact .inr (.inr h)
theorem zkm{q:Place}:q∈zdy b x y↔zfo (zbc b) (zbc x) (zbc y) q=4\/ ∃p,q=zbB p.module/\zop (zbc b) (zbc x) (zbc y) p:=by
 unfold zdy;rw[mem_conf];constructor
 ·rintro⟨p,_,⟨rfl,h⟩ | ⟨h1,h2⟩⟩
  ·exact .inl h
  ·exact .inr ⟨p,h1,h2⟩
 ·rintro(h | ⟨p,h1,h2⟩)
  ·exact⟨q,zpG hb hx hy h,.inl ⟨rfl,h⟩⟩
  ·refine⟨p,?_,.inr ⟨h1,h2⟩⟩;rcases h2.2.2.2 with h | h
   ·exact zrK hb hx hy h
   ·exact zpG hb hx hy h
theorem zqB(h:zdy b x y=[])(p:Place):zfo (zbc b) (zbc x) (zbc y) p≠4/\ ¬zop (zbc b) (zbc x) (zbc y) p:=by
 constructor
 ·intro h1;have:=(zkm hb hx hy (q:=p)).2 (.inl h1);rw[h]at this; cases this
 ·intro h1;have:=(zkm hb hx hy (q:=zbB p.module)).2 (.inr ⟨p,rfl,h1⟩);rw[h]at this; cases this
theorem zvK(h:zdy b x y=[]):Shape (zfF (zbc b) (zbc x) (zbc y)):=by
 refine⟨fun p m hm hz=> ?_,fun p m hm hz=> ?_,fun p m hm hn=> ?_⟩
 ·rcases zmN (b:=zbc b) (x:=zbc x) (y:=zbc y) (p:=p)with e | e
  ·exact hx.hd (e.symm.trans hm) hz
  ·exact hy.hd (e.symm.trans hm) hz
 ·rcases zmN (b:=zbc b) (x:=zbc x) (y:=zbc y) (p:=p)with e | e
  ·exact hx.it (e.symm.trans hm) hz
  ·exact hy.it (e.symm.trans hm) hz
 ·refine(zqB hb hx hy h p).2 ⟨fun e=> ?_,hn,(zqB hb hx hy h _).1,.inl (by rw[hm]; simp)⟩;rw[<-e]at hn;rw[hn]at hm; cases hm
theorem zdg(h:zdy b x y=[]):Good (zbA b x y)/\PK (zbA b x y)/\ ∀p,zbc (zbA b x y) p=zfF (zbc b) (zbc x) (zbc y) p:=
 build_law (zn1 _) (zvK hb hx hy h) fun p hp=>zrK hb hx hy hp
theorem zfQ(h:zdy b x y=[]):Fl (zbA b x y):=by
 obtain⟨h1,h2,_⟩:=zdg hb hx hy h;exact⟨Parted.of_good h1 h2.kd,h2⟩
theorem zsr:zdy b y x=zdy b x y:=by
 refine zxI zlZ (zjG zlZ _) (zjG zlZ _) fun q=> ?_;have h1:=zkm hb hx hy (q:=q);have h2:=zkm hb hy hx (q:=q);show q∈zdy b y x↔q∈zdy b x y;rw[h1,h2,zqL];exact or_congr Iff.rfl ⟨fun⟨p,a,c⟩=>⟨p,a,lost_comm.1 c⟩,fun⟨p,a,c⟩=>⟨p,a,lost_comm.2 c⟩⟩
theorem zz9:zbk b y x=zbk b x y:=by
 unfold zbk;rw[zsr hb hx hy];by_cases h:zdy b x y=[]
 ·have h':zdy b y x=[]:=(zsr hb hx hy).trans h;have e:zbA b y x=zbA b x y:=by
   obtain⟨a1,a2,a3⟩:=zdg hb hx hy h;obtain⟨c1,c2,c3⟩:=zdg hb hy hx h';refine zwK c1 a1 c2.kd a2.kd fun p=> ?_;rw[a3,c3,zmM (zqB hb hx hy h p).1]
  rw[e]
 ·rw[if_pos h,if_pos h]
/-- A merge without conflicts whose contents are those of a file. -/
theorem zxj{h:List Module}(hh:Fl h)(h1: ∀p,zfF (zbc b) (zbc x) (zbc y) p=zbc h p)(h4: ∀p,zfo (zbc b) (zbc x) (zbc y) p≠4):zbk b x y=if zbi (zcC h)=true then⟨zcC h,[],0⟩else⟨[],[],100⟩:=by
 have hc:zdy b x y=[]:=by
  refine List.eq_nil_iff_forall_not_mem.2 fun q hq=> ?_;rcases(zkm hb hx hy).1 hq with h5 | ⟨p,_,h5,h6,_,h7⟩
  ·exact h4 q h5
  ·rcases h7 with h7 | h7
   ·rw[h1]at h6 h7;exact hh.head h7 h6
   ·exact h4 p h7
 obtain⟨a1,a2,a3⟩:=zdg hb hx hy hc;have e:zbA b x y=zcC h:=by
  refine zwK a1 (ziv hh.part) a2.kd (zlv hh.part) fun p=> ?_;rw[a3,zzX hh.part,h1]
 unfold zbk;rw[if_neg (by simp[hc]),e]
end
theorem neutral1{b x:List Module}(hb:Fl b)(hx:Fl x):zbk b b x=if zbi (zcC x)=true then⟨zcC x,[],0⟩else⟨[],[],100⟩:=by
 refine zxj hb hb hx hx (fun p=> ?_) (fun p h=> ?_)
 ·unfold zfF;by_cases h:zbc b p=zbc x p
  ·split
   ·rfl
   ·exact h
  ·rw[if_pos (zgH.2 ⟨rfl,h⟩)]
 ·exact(zhS.1 h).1 rfl
theorem neutral2{b x:List Module}(hb:Fl b)(hx:Fl x):zbk b x b=if zbi (zcC x)=true then⟨zcC x,[],0⟩else⟨[],[],100⟩:=by
 rw[zz9 hb hb hx,neutral1 hb hx]
theorem neutral3{b x:List Module}(hb:Fl b)(hx:Fl x):zbk b x x=if zbi (zcC x)=true then⟨zcC x,[],0⟩else⟨[],[],100⟩:=by
 refine zxj hb hx hx hx (fun p=> ?_) (fun p h=> ?_)
 ·unfold zfF;split <;> rfl
 ·exact(zhS.1 h).2.2 rfl
theorem repeats1{b x y:List Module}(hb:Fl b)(hx:Fl x)(hy:Fl y)(h:zdy b x y=[])(hv:zbi (zbA b x y)=true):zbk b (zbA b x y) y=⟨zbA b x y,[],0⟩:=by
 obtain⟨a1,a2,a3⟩:=zdg hb hx hy h;have hM:=zfQ hb hx hy h;have e:=zks a1;have key: ∀p,zbc b p=zbc (zbA b x y) p\/zbc b p=zbc y p\/zbc (zbA b x y) p=zbc y p:=by
  intro p;rw[a3];have h4:=(zqB hb hx hy h p).1;rw[Ne,zhS]at h4;unfold zfF;by_cases h2:zfo (zbc b) (zbc x) (zbc y) p=2
  ·rw[if_pos h2]; exact .inr (.inr rfl)
  ·rw[if_neg h2];by_cases e1:zbc b p=zbc x p
   ·exact .inl e1
   ·by_cases e2:zbc b p=zbc y p
    ·exact .inr (.inl e2)
    ·by_cases e3:zbc x p=zbc y p
     ·exact .inr (.inr e3)
     ·exact absurd ⟨e1,e2,e3⟩ h4
 rw[zxj hb hM hy hM (fun p=> ?_) (fun p h4=> ?_),e,if_pos hv]
 ·have h2:zfo (zbc b) (zbc (zbA b x y)) (zbc y) p≠2:=by
   rw[Ne,zgH,a3];rintro⟨h5,h6⟩;unfold zfF at h5;by_cases h2:zfo (zbc b) (zbc x) (zbc y) p=2
   ·rw[if_pos h2]at h5; exact h6 h5
   ·rw[if_neg h2]at h5;exact h2 (zgH.2 ⟨h5,h6⟩)
  unfold zfF;rw[if_neg h2]
 ·obtain⟨h5,h6,h7⟩:=zhS.1 h4;rcases key p with k | k | k
  ·exact h5 k
  ·exact h6 k
  ·exact h7 k
theorem repeats2{b x y:List Module}(hb:Fl b)(hx:Fl x)(hy:Fl y)(h:zdy b x y=[])(hv:zbi (zbA b x y)=true):zbk b (zbA b x y) x=⟨zbA b x y,[],0⟩:=by
 have h':zdy b y x=[]:=(zsr hb hx hy).trans h;have e:zbA b y x=zbA b x y:=by
  obtain⟨a1,a2,a3⟩:=zdg hb hx hy h;obtain⟨c1,c2,c3⟩:=zdg hb hy hx h';refine zwK c1 a1 c2.kd a2.kd fun p=> ?_;rw[a3,c3,zmM (zqB hb hx hy h p).1]
 have:=repeats1 hb hy hx h' (by rw[e]; exact hv);rw[e]at this;exact this
/-! ### Provenance -/
section
variable {b x y:List Module} (hb:Fl b) (hx:Fl x) (hy:Fl y) (h:zdy b x y=[])
include hb hx hy h
theorem prov_from{p:Place}(hp:p∈zc0 b (zbA b x y)):p∈zc0 b x\/p∈zc0 b y:=by
 rw[zfE hb.part (zfQ hb hx hy h).part,(zdg hb hx hy h).2.2]at hp;rw[zfE hb.part hx.part,zfE hb.part hy.part];rcases zmN (b:=zbc b) (x:=zbc x) (y:=zbc y) (p:=p)with e | e
 ·rw[e]at hp; exact .inl hp
 ·rw[e]at hp; exact .inr hp
theorem prov_ours{p:Place}(hp:p∈zc0 b x):p∈zc0 b (zbA b x y)/\p∉zc0 x (zbA b x y):=by
 rw[zfE hb.part hx.part]at hp;have hM:=zfQ hb hx hy h;rw[zfE hb.part hM.part,zfE hx.part hM.part,(zdg hb hx hy h).2.2];have:zfF (zbc b) (zbc x) (zbc y) p=zbc x p:=by
  unfold zfF;rw[if_neg (fun h2=>hp (zgH.1 h2).1)]
 rw[this];exact⟨hp,fun h=>h rfl⟩
theorem prov_theirs{p:Place}(hp:p∈zc0 b y):p∈zc0 b (zbA b x y)/\p∉zc0 y (zbA b x y):=by
 rw[zfE hb.part hy.part]at hp;have hM:=zfQ hb hx hy h;rw[zfE hb.part hM.part,zfE hy.part hM.part,(zdg hb hx hy h).2.2];have:zfF (zbc b) (zbc x) (zbc y) p=zbc y p:=by
  rw[<-zmM (zqB hb hx hy h p).1];unfold zfF;rw[if_neg (fun h2=>hp (zgH.1 h2).1)]
 rw[this];exact⟨hp,fun h=>h rfl⟩
end
/-! ### Conflicts -/
theorem conf_both{b x y:List Module}(hb:Fl b)(hx:Fl x)(hy:Fl y){p:Place}(h1:p∈zc0 b x)(h2:p∈zc0 b y)(h3:p∈zc0 x y):p∈zdy b x y:=by
 rw[zfE hb.part hx.part]at h1;rw[zfE hb.part hy.part]at h2;rw[zfE hx.part hy.part]at h3;exact(zkm hb hx hy).2 (.inl (zhS.2 ⟨h1,h2,h3⟩))
theorem conf_why{b x y:List Module}(hb:Fl b)(hx:Fl x)(hy:Fl y){p:Place}(hp:p∈zdy b x y)(hn: ¬(p∈zc0 b x/\p∈zc0 b y/\p∈zc0 x y)):
  p.part=zc7/\ ∃q∈zc0 x y,q.module=p.module/\q≠p/\
   ((zbc x (zbB p.module)=none/\zbc y (zbB p.module)≠none/\q∈zc0 b y)\/(zbc y (zbB p.module)=none/\zbc x (zbB p.module)≠none/\q∈zc0 b x)):=by
 simp only[zfE hb.part hx.part,zfE hb.part hy.part,zfE hx.part hy.part]at hn ⊢;rcases(zkm hb hx hy).1 hp with h | ⟨q,rfl,h1,h2,h3,h4⟩
 ·exact absurd (zhS.1 h) hn
 refine⟨rfl,q,?_⟩;show _/\q.module=q.module/\_/\((zbc x (zbB q.module)=none/\zbc y (zbB q.module)≠none/\_)\/(zbc y (zbB q.module)=none/\zbc x (zbB q.module)≠none/\_));have nx:zbc x (zbB q.module)=none->zbc x q=none:=fun e=>Classical.byContradiction fun h=>hx.head h e;have ny:zbc y (zbB q.module)=none->zbc y q=none:=fun e=>Classical.byContradiction fun h=>hy.head h e;have nb:zbc b (zbB q.module)=none->zbc b q=none:=fun e=>Classical.byContradiction fun h=>hb.head h e;have h4':zfF (zbc b) (zbc x) (zbc y) q≠none\/(zbc b q≠zbc x q/\zbc b q≠zbc y q/\zbc x q≠zbc y q):=h4.imp id zhS.1;by_cases h5:zfo (zbc b) (zbc x) (zbc y) (zbB q.module)=2
 ·obtain⟨e1,e2⟩:=zgH.1 h5;have e3:zbc y (zbB q.module)=none:=by unfold zfF at h2; rw[if_pos h5]at h2; exact h2
  have e4:zbc x (zbB q.module)≠none:=by rw[<-e1]; intro e; exact e2 (e.trans e3.symm)
  have e5:=ny e3;have hq:zbc x q≠zbc y q/\zbc b q≠zbc x q:=by
   rcases h4' with h6 | ⟨a1,_,a3⟩
   ·by_cases h7:zfo (zbc b) (zbc x) (zbc y) q=2
    ·unfold zfF at h6; rw[if_pos h7]at h6; exact absurd e5 h6
    ·unfold zfF at h6; rw[if_neg h7]at h6;rw[zgH]at h7;refine⟨by rw[e5]; exact h6,fun e=>h7 ⟨e,?_⟩⟩;rw[e,e5]; exact h6
   ·exact⟨a3,a1⟩
  exact⟨hq.1,rfl,h1,.inr ⟨e3,e4,hq.2⟩⟩
 ·have e3:zbc x (zbB q.module)=none:=by unfold zfF at h2; rw[if_neg h5]at h2; exact h2
  have e5:=nx e3;rw[zgH]at h5;have hq:zbc y q≠none/\zbc b q≠zbc y q:=by
   rcases h4' with h6 | ⟨a1,a2,a3⟩
   ·by_cases h7:zfo (zbc b) (zbc x) (zbc y) q=2
    ·have h8:=zgH.1 h7;unfold zfF at h6; rw[if_pos h7]at h6; exact⟨h6,h8.2⟩
    ·unfold zfF at h6; rw[if_neg h7]at h6; exact absurd e5 h6
   ·exact⟨fun e=>a3 (e5.trans e.symm),a2⟩
  have e4:zbc y (zbB q.module)≠none:=fun e=>hq.1 (ny e);exact⟨by rw[e5]; exact hq.1.symm,rfl,h1,.inl ⟨e3,e4,hq.2⟩⟩
/-! ### Sizes -/
theorem zgA{α:Type}[DecidableEq α]: ∀ {l l':List α},l.Nodup->(∀a∈l,a∈l')->l.length<=l'.length
 | [],_,_,_=>Nat.zero_le _
 | a::l,l',h,hs=>by
  rw[List.nodup_cons]at h;have h1:=zgA (l':=l'.erase a) h.2 fun b hb=>by
   rw[List.mem_erase_of_ne (show b≠a from fun e=>h.1 (e▸hb))];exact hs b (List.mem_cons_of_mem _ hb)
  have h2:=hs a (by simp);rw[List.length_erase_of_mem h2]at h1;have:=List.length_pos_of_mem h2;simp only[List.length_cons];omega
/-- Where the items of a merged file come from. -/
theorem zts{b x y:List Module}(hb:Fl b)(hx:Fl x)(hy:Fl y)(h:zdy b x y=[]){m:Module}(hm:m∈zbA b x y){i:Item}(hi:i∈m.items): ∃z,(z∈x\/z∈y)/\z.name=m.name/\i∈z.items:=by
 have hM:=zfQ hb hx hy h;have h1:=zjN hM.part (p:=plI m.name i) ⟨m,hm,.inr ⟨i,hi,rfl,rfl⟩⟩;rw[(zdg hb hx hy h).2.2]at h1;have key: ∀ {l:List Module},zbc l (plI m.name i)=some (itM i)-> ∃z∈l,z.name=m.name/\i∈z.items:=by
  intro l hl;obtain⟨z,hz,⟨_,e⟩ | ⟨j,hj,e1,e2⟩⟩:=zek hl
  ·have:=congrArg Module.items e;simp[itM,hdM]at this
  ·rw[zz7 e2];exact⟨z,hz,(congrArg Place.module e1).symm,hj⟩
 rcases zmN (b:=zbc b) (x:=zbc x) (y:=zbc y) (p:=plI m.name i)with e | e
 ·obtain⟨z,a1,a2,a3⟩:=key (e.symm.trans h1);exact⟨z,.inl a1,a2,a3⟩
 ·obtain⟨z,a1,a2,a3⟩:=key (e.symm.trans h1);exact⟨z,.inr a1,a2,a3⟩
theorem merged_mod{b x y:List Module}(hb:Fl b)(hx:Fl x)(hy:Fl y)(h:zdy b x y=[]){m:Module}(hm:m∈zbA b x y): ∃z,(z∈x\/z∈y)/\z.name=m.name:=by
 have hM:=zfQ hb hx hy h;have h1:=zjN hM.part (p:=zbB m.name) ⟨m,hm,.inl ⟨rfl,rfl⟩⟩;rw[(zdg hb hx hy h).2.2]at h1;have key: ∀ {l:List Module},zbc l (zbB m.name)=some (hdM m)-> ∃z∈l,z.name=m.name:=by
  intro l hl;obtain⟨z,hz,⟨e,_⟩ | ⟨j,hj,e1,_⟩⟩:=zek hl
  ·exact⟨z,hz,(congrArg Place.module e).symm⟩
  ·exact⟨z,hz,(congrArg Place.module e1).symm⟩
 rcases zmN (b:=zbc b) (x:=zbc x) (y:=zbc y) (p:=zbB m.name)with e | e
 ·obtain⟨z,a1,a2⟩:=key (e.symm.trans h1);exact⟨z,.inl a1,a2⟩
 ·obtain⟨z,a1,a2⟩:=key (e.symm.trans h1);exact⟨z,.inr a1,a2⟩
theorem zvL{b x y:List Module}(hb:Fl b)(hx:Fl x)(hy:Fl y)(h:zdy b x y=[]):(zbA b x y).length <=x.length+y.length:=by
 have hM:=zfQ hb hx hy h;have:=zgA (l':=x.map Module.name++y.map Module.name) hM.part.names fun n hn=>by
  obtain⟨m,hm,rfl⟩:=List.mem_map.1 hn;obtain⟨z,hz,e⟩:=merged_mod hb hx hy h hm;rw[List.mem_append,<-e];exact hz.imp (fun h=>List.mem_map.2 ⟨z,h,rfl⟩) (fun h=>List.mem_map.2 ⟨z,h,rfl⟩)
 simpa using this
def zqq(l:List Module)(n:Str):List Item:=match lkp Module.name l n with | some m=>m.items | none=>[]
theorem ztb{l:List Module}(h:Parted l){z:Module}(hz:z∈l):zqq l z.name=z.items:=by unfold zqq; rw[zvI h.names hz]
theorem zta{l:List Module}{k:Nat}(h: ∀m∈l,m.items.length<=k)(n:Str):(zqq l n).length <=k:=by
 unfold zqq;split
 ·rename_i m hm; exact h m (zeI hm).1
 ·exact Nat.zero_le _
theorem merged_items{b x y:List Module}(hb:Fl b)(hx:Fl x)(hy:Fl y)(h:zdy b x y=[]){k:Nat}(kx: ∀m∈x,m.items.length<=k)(ky: ∀m∈y,m.items.length<=k){m:Module}(hm:m∈zbA b x y):m.items.length<=2*k:=by
 have hM:=zfQ hb hx hy h;have:=zgA (l':=(zqq x m.name).map zbg++(zqq y m.name).map zbg) (hM.part.parts m hm) fun p hp=>by
  obtain⟨i,hi,rfl⟩:=List.mem_map.1 hp;obtain⟨z,hz,e,hi'⟩:=zts hb hx hy h hm hi;rw[List.mem_append,<-e];refine hz.imp (fun h=> ?_) (fun h=> ?_)
  ·rw[ztb hx.part h]; exact List.mem_map.2 ⟨i,hi',rfl⟩
  ·rw[ztb hy.part h]; exact List.mem_map.2 ⟨i,hi',rfl⟩
 simp only[List.length_map,List.length_append]at this;have h1:=zta kx m.name;have h2:=zta ky m.name;omega
section
open Go.Aw Go.Sort Go.RowKit Go.Shelf
set_option maxRecDepth 100000
def Tryz.sortPlace_ren:Go.Shelf.Ren:=⟨fun | 6=>182 | 15=>171 | 14=>236 | 28=>223 | 29=>224 | 20=>268 | 21=>269 | 22=>270 | 23=>271 | 24=>272 | 25=>273 | 26=>274 | 27=>275 | 46=>293 | 47=>260 | 48=>261 | 49=>294 | 50=>295 | 57=>300 | n=>n,fun | 22=>147 | 24=>166 | 25=>270 | 3=>3 | 39=>253 | 0=>0 | 53=>307 | 55=>309 | 4=>4 | 46=>301 | 45=>300 | 50=>234 | 5=>5 | 9=>9 | 66=>337 | 70=>341 | 76=>362 | 77=>289 | n=>n,fun | n=>n⟩
theorem Tryz.sortPlace:Go.Proofs.SlLaysF0.n6 Tryz.prog Tryz.sortPlace_ren:={
 mixed:=by kernel_rfl
 f6:=⟨Tryz.f182.name,by decide,Tryz.func182.trans (congrArg some (by kernel_rfl))⟩
 f14:=⟨Tryz.f236.name,by decide,Tryz.func236.trans (congrArg some (by kernel_rfl))⟩
 f15:=Tryz.func171.trans (congrArg some (by kernel_rfl))
 f20:=⟨Tryz.f268.name,by decide,Tryz.func268.trans (congrArg some (by kernel_rfl))⟩
 f21:=⟨Tryz.f269.name,by decide,Tryz.func269.trans (congrArg some (by kernel_rfl))⟩
 f22:=⟨Tryz.f270.name,by decide,Tryz.func270.trans (congrArg some (by kernel_rfl))⟩
 f23:=⟨Tryz.f271.name,by decide,Tryz.func271.trans (congrArg some (by kernel_rfl))⟩
 f24:=⟨Tryz.f272.name,by decide,Tryz.func272.trans (congrArg some (by kernel_rfl))⟩
 f25:=⟨Tryz.f273.name,by decide,Tryz.func273.trans (congrArg some (by kernel_rfl))⟩
 f26:=⟨Tryz.f274.name,by decide,Tryz.func274.trans (congrArg some (by kernel_rfl))⟩
 f27:=⟨Tryz.f275.name,by decide,Tryz.func275.trans (congrArg some (by kernel_rfl))⟩
 f28:=Tryz.func223.trans (congrArg some (by kernel_rfl))
 f29:=Tryz.func224.trans (congrArg some (by kernel_rfl))
 f46:=⟨Tryz.f293.name,by decide,Tryz.func293.trans (congrArg some (by kernel_rfl))⟩
 f47:=Tryz.func260.trans (congrArg some (by kernel_rfl))
 f48:=Tryz.func261.trans (congrArg some (by kernel_rfl))
 f49:=⟨Tryz.f294.name,by decide,Tryz.func294.trans (congrArg some (by kernel_rfl))⟩
 f50:=⟨Tryz.f295.name,by decide,Tryz.func295.trans (congrArg some (by kernel_rfl))⟩
 f57:=⟨Tryz.f300.name,by decide,Tryz.func300.trans (congrArg some (by kernel_rfl))⟩
 t0:=Tryz.underlying0
 a0:=Tryz.isAgg0
 z0:=Tryz.sizeOf0
 v0:=Tryz.zeroValue0
 t3:=Tryz.underlying3
 a3:=Tryz.isAgg3
 z3:=Tryz.sizeOf3
 v3:=Tryz.zeroValue3
 t4:=Tryz.underlying4
 a4:=Tryz.isAgg4
 z4:=Tryz.sizeOf4
 v4:=Tryz.zeroValue4
 t5:=Tryz.underlying5
 a5:=Tryz.isAgg5
 z5:=Tryz.sizeOf5
 v5:=Tryz.zeroValue5
 t9:=Tryz.underlying9
 a9:=Tryz.isAgg9
 z9:=Tryz.sizeOf9
 v9:=Tryz.zeroValue9
 t22:=Tryz.underlying147
 a22:=Tryz.isAgg147
 z22:=Tryz.sizeOf147
 v22:=Tryz.zeroValue147
 t25:=Tryz.underlying270
 a25:=Tryz.isAgg270
 z25:=Tryz.sizeOf270
 v25:=Tryz.zeroValue270
 t39:=Tryz.underlying253
 a39:=Tryz.isAgg253
 z39:=Tryz.sizeOf253
 v39:=Tryz.zeroValue253
 t45:=Tryz.underlying300
 a45:=Tryz.isAgg300
 z45:=Tryz.sizeOf300
 v45:=Tryz.zeroValue300
 t46:=Tryz.underlying301
 a46:=Tryz.isAgg301
 z46:=Tryz.sizeOf301
 v46:=Tryz.zeroValue301
 t50:=Tryz.underlying234
 a50:=Tryz.isAgg234
 z50:=Tryz.sizeOf234
 v50:=Tryz.zeroValue234
 t53:=Tryz.underlying307
 a53:=Tryz.isAgg307
 z53:=Tryz.sizeOf307
 v53:=Tryz.zeroValue307
 t55:=Tryz.underlying309
 a55:=Tryz.isAgg309
 z55:=Tryz.sizeOf309
 v55:=Tryz.zeroValue309
 t66:=Tryz.underlying337
 a66:=Tryz.isAgg337
 z66:=Tryz.sizeOf337
 v66:=Tryz.zeroValue337
 t70:=Tryz.underlying341
 a70:=Tryz.isAgg341
 z70:=Tryz.sizeOf341
 v70:=Tryz.zeroValue341
 t76:=Tryz.underlying362
 a76:=Tryz.isAgg362
 z76:=Tryz.sizeOf362
 v76:=Tryz.zeroValue362
 t77:=Tryz.underlying289
 a77:=Tryz.isAgg289
 z77:=Tryz.sizeOf289
 v77:=Tryz.zeroValue289}
def zaE(p:Place):List D:=[eS p.module,eI p.part.kind.1,eS p.part.name]
set_option maxHeartbeats 4000000 in
theorem place_w(am:ByteArray)(ak:Int)(an:ByteArray)(bm:ByteArray)(bk:Int)(bn:ByteArray)(w:World):Calls Tryz.prog 180 #[.agg #[.string am,.int .i64 ak,.string an],.agg #[.string bm,.int .i64 bk,.string bn]] w fun e w'=>
  e= .returned (.int .i64 (orI [zsi am bm,zh1 ak bk,zsi an bn]))/\ ∃q os',w'=grow (w.drewN q) os':=by
 go_enter Tryz.func180,Tryz.ntmps180
 go_wp2;refine wp_region_still_tail 19 zat (by kernel_rfl) ?_;obtain⟨W,hW⟩: ∃W:World,W={((w.alloc (.cells #[.string am,.int .i64 ak,.string an] 166)).alloc (.cells #[.string bm,.int .i64 bk,.string bn] 166))with drawn:=((w.alloc (.cells #[.string am,.int .i64 ak,.string an] 166)).alloc (.cells #[.string bm,.int .i64 bk,.string bn] 166)).drawn +1}:=⟨_,rfl⟩;rw[<-hW];obtain⟨c0,c1,hG⟩:=two_w w _ _ W hW;have a0:W.cell? ⟨w.heap.size,0,none⟩=some (.string am):=by simp[World.cell?,c0]
 have a1:W.cell? ⟨w.heap.size,1,none⟩=some (.int .i64 ak):=by simp[World.cell?,c0]
 have a2:W.cell? ⟨w.heap.size,2,none⟩=some (.string an):=by simp[World.cell?,c0]
 have b0:W.cell? ⟨w.heap.size+1,0,none⟩=some (.string bm):=by simp[World.cell?,c1]
 have b1:W.cell? ⟨w.heap.size+1,1,none⟩=some (.int .i64 bk):=by simp[World.cell?,c1]
 have b2:W.cell? ⟨w.heap.size+1,2,none⟩=some (.string bn):=by simp[World.cell?,c1]
 clear hW c0 c1;simp only[List.take_succ_cons,List.take_zero,List.drop_succ_cons,List.drop_zero]
 repeat still_step
 still_call (cmpS_w _ _ _)
 repeat still_step
 still_call (cmpI_w _ _ _)
 repeat still_step
 still_call (cmpS_w _ _ _)
 repeat still_step
 try refine wpStill_nil ?_
 generalize hx:zsi am bm=x at*;generalize hy:zh1 ak bk=y at*;generalize hz:zsi an bn=z at*;clear a0 a1 a2 b0 b1 b2;obtain⟨q,os',rfl⟩:=hG;generalize hWW:grow (w.drewN q) os'=W;have hor: ∀W',W'=W.alloc (.cells #[.int .i64 x,.int .i64 y,.int .i64 z] 3)->Calls Tryz.prog 154 #[.slice (some ⟨W.heap.size,0,none⟩) 3 3] W' fun e w'=>e= .returned (.int .i64 (orI [x,y,z]))/\w'=W':=by
  rintro W' rfl;have hh:=World.alloc_heap_new W (.cells #[.int .i64 x,.int .i64 y,.int .i64 z] 3);exact or_w x y z _ _ _ (by simp only[World.cell?,hh]; rfl) (by simp only[World.cell?,hh]; rfl) (by simp only[World.cell?,hh]; rfl)
 generalize hr:orI [x,y,z]=r at*
 go_wp2_with (go_at_call 154; refine(hor _ rfl).mono ?_; rintro e w' ⟨rfl,rfl⟩)
 go_ret;refine⟨by rw[hx,hy,hz,hr]; rfl,q,os'++#[.cells #[.int .i64 x,.int .i64 y,.int .i64 z] 3],?_⟩;rw[alloc_eq_grow,<-hWW,grow_grow]
def cmpQ(a b:Place):Int:=orI [zsi a.module.1 b.module.1,zh1 a.part.kind.1 b.part.kind.1,zsi a.part.name.1 b.part.name.1]
theorem orI_cons(x:Int)(l:List Int):orI (x::l)=if x=0 then orI l else x:=by
 unfold orI;rw[List.find?_cons];by_cases h:x=0
 ·simp[h]
 ·have hx:(x !=0)=true:=by simpa using h
  rw[if_neg h,hx];rfl
theorem cmpQ_eq(a b:Place):cmpQ a b=if zsi a.module.1 b.module.1=0 then zyB a.part b.part else zsi a.module.1 b.module.1:=by
 unfold cmpQ zyB;rw[orI_cons]
theorem zwG(a b:Place):cmpQ a b<0↔ltQ a b=true:=by
 rw[cmpQ_eq];have h0:=zoY a.module b.module;have h1:=zwE a.module b.module;have h2:=zwF a.part b.part;unfold ltQ;rw[Bool.or_eq_true,Bool.and_eq_true,decide_eq_true_eq,<-h1,<-h2,<-h0];by_cases h:zsi a.module.1 b.module.1=0
 ·rw[if_pos h];simp[h]
 ·rw[if_neg h];simp[h]
theorem swoQ{α:Type}(f:α->Place):SWO (ltOf fun a b=>cmpQ (f a) (f b)):=by
 have e: ∀a b,ltOf (fun a b=>cmpQ (f a) (f b)) a b=ltQ (f a) (f b):=fun a b=>by
  unfold ltOf;rw[Bool.eq_iff_iff,decide_eq_true_eq]; exact zwG _ _
 refine{irrefl:=fun a=>by rw[e]; exact zlZ.irr _,trans:=fun a b c h1 h2=>by rw[e]at*; exact zlZ.tr _ _ _ h1 h2,ntrans:=fun a b c h1 h2=> ?_};rw[e]at*;cases h:ltQ (f a) (f c)with
 | false=>rfl
 | true=>
  cases hb:ltQ (f b) (f a)with
  | true=>rw[zlZ.tr _ _ _ hb h]at h2; cases h2
  | false=>have:=zlZ.conn _ _ h1 hb; rw[this,h2]at h; cases h
theorem sortQ_c(l:List Place)(hl:l.length<4611686018427387904):FnL Tryz.prog 182 [.ar 0 l.length,.d (.clo (.func 180) [] [])] [(0,.arr 166 3 .flat (l.map zaE))]
  (fun V ol new=>V= .tup []/\(∃l':List Place,l.Perm l'/\(l'.Pairwise fun x y=> ¬cmpQ y x<0)/\ol=[(0,.arr 166 3 .flat (l'.map zaE))])/\new=[]):=by
 refine zxH Tryz.sortPlace zaE id cmpQ 3 (by omega) (fun x=>rfl) (fun x d hd=> ?_) Tryz.isAgg166 Tryz.sizeOf166 swoQ 180 (fun bs w=>Tryz.call180 bs w) (fun bs w=>Tryz.call182 bs w) (fun W F x y ra rb h1 h2 w=> ?_) l hl
 ·simp only[zaE,eS,eI,List.mem_cons,List.not_mem_nil,or_false]at hd;rcases hd with rfl | rfl | rfl
  all_goals simp[D.one,Value.oneCell']
 ·simp only[zaE,eI,eS,zav,Aw.Rd]at h1 h2;obtain⟨_,_,rfl,rfl,_,_,rfl,rfl,_,_,rfl,rfl,rfl⟩:=h1;obtain⟨_,_,rfl,rfl,_,_,rfl,rfl,_,_,rfl,rfl,rfl⟩:=h2;exact place_w x.module.1 x.part.kind.1 x.part.name.1 y.module.1 y.part.kind.1 y.part.name.1 w
/-- A sorted list,once. -/
theorem not_cmpQ{l:List Place}(h:l.Pairwise fun x y=> ¬cmpQ y x<0)(hn:l.Nodup):Srt ltQ id l:=by
 unfold Srt;refine(List.Pairwise.and h hn).imp ?_;rintro a b ⟨h1,h2⟩;rw[zwG]at h1;cases hab:ltQ a b with
 | true=>exact hab
 | false=>exact absurd (zlZ.conn a b hab (by simpa using h1)) h2
end
open Nat renaming reduceEqDiff->pE,reduceLT->pL,reduceAdd->pA,reduceSub->pS,reduceMul->pM,reduceLeDiff->pD
open Int renaming reduceToNat->qT,reduceGT->qG,reduceLT->qL,reduceGE->qH,reduceBNe->qN,reduceBEq->qB,reduceLE->qE,reduceNe->qO,reduceAdd->qA,reduceNeg->qM
set_option maxRecDepth 100000
set_option maxHeartbeats 4000000
/-! ### Maps whose keys are places -/
theorem zpi:zj0 Tryz.prog 166:=Go.Maps.Keyed.of_law (deep_law_laid (P:=Tryz.prog) (by kernel_rfl) (m:=3) (by omega) (Nat.le_of_ble_eq_true (by kernel_rfl)) (by kernel_rfl) (by kernel_rfl))
theorem fsQ:fsOf Tryz.prog 166=some ([(9,0),(66,1)],true):=by kernel_rfl
theorem fsPt:fsOf Tryz.prog 66=some ([(3,0),(9,1)],true):=by kernel_rfl
theorem keyQ:Tryz.prog.keyType 166=true:=by kernel_rfl
theorem cellsQ:Tryz.prog.cellsOf 166=3:=by kernel_rfl
theorem cellsPt:Tryz.prog.cellsOf 66=2:=by kernel_rfl
theorem cellsS:Tryz.prog.cellsOf 9=1:=by kernel_rfl
theorem zvD{n:Nat}{t:TypeId}{fs:List (TypeId×Nat)}{a b:Value}{r:List Value}(hf:fsOf Tryz.prog t=some (fs,true))(hc:(a::b::r).length =Tryz.prog.cellsOf t):
  Tryz.prog.keyLits (n+1) t (a::b::r)=(fs.mapM fun x=>Tryz.prog.keyLits n x.1 (((a::b::r).drop x.2).take (Tryz.prog.cellsOf x.1))).map List.flatten:=by
 unfold fsOf at hf;split at hf
 ·rename_i fs' hu;simp only[Option.some.injEq,Prod.mk.injEq]at hf;obtain⟨h1,h2⟩:=hf
  conv=>lhs; unfold Program.keyLits
  rw[hu];simp only[hc,h2,and_self,if_true];rw[<-h1,List.mapM_map];rfl
 ·cases hf
def zcM(p:Place):D:=.agg (zaE p)
theorem lits_part(n:Nat)(p:Part):Tryz.prog.keyLits (n+2) 66 [.int .i64 p.kind.1,.string p.name.1]=some [.int .i64 p.kind.1,.string p.name.1.data.toList]:=by
 rw[zvD fsPt (by rw[cellsPt]; rfl)];have h1:Tryz.prog.keyLits (n+1) 3 [Value.int .i64 p.kind.1]=some [Lit.int .i64 p.kind.1]:=by simp[Program.keyLits,tU3,p.kind.2]
 have h2:Tryz.prog.keyLits (n+1) 9 [Value.string p.name.1]=some [Lit.string p.name.1.data.toList]:=by simp[Program.keyLits,tU9,p.name.2]
 simp[cellsI,cellsS,h1,h2]
theorem lits_place(n:Nat)(p:Place):Tryz.prog.keyLits (n+3) 166 [.string p.module.1,.int .i64 p.part.kind.1,.string p.part.name.1]=some [.string p.module.1.data.toList,.int .i64 p.part.kind.1,.string p.part.name.1.data.toList]:=by
 rw[zvD fsQ (by rw[cellsQ]; rfl)];have h1:Tryz.prog.keyLits (n+2) 9 [Value.string p.module.1]=some [Lit.string p.module.1.data.toList]:=by simp[Program.keyLits,tU9,p.module.2]
 have h2:=lits_part n p.part;simp[cellsPt,cellsS,h1,h2]
theorem sizeT2: ∃n,Tryz.prog.types.size=n+2:=⟨_,(by kernel_rfl:Tryz.prog.types.size=(Tryz.prog.types.size-2)+2)⟩
theorem ztc(p:Place):zd3 Tryz.prog 166 (.agg [.lit (.string p.module.1),.lit (.int .i64 p.part.kind.1),.lit (.string p.part.name.1)]):=by
 obtain⟨n,hn⟩:=sizeT2;have hl:=lits_place n p;refine⟨.agg #[.string p.module.1,.int .i64 p.part.kind.1,.string p.part.name.1],.string (keyBytes [.string p.module.1.data.toList,.int .i64 p.part.kind.1,.string p.part.name.1.data.toList]),rfl,?_⟩;have hf:=fsQ;unfold fsOf at hf;split at hf
 ·rename_i fs hu;have hform:Value.formed Tryz.prog 166 (.agg #[.string p.module.1,.int .i64 p.part.kind.1,.string p.part.name.1])=true:=by
   simp[Value.formed,hu,cellsQ]
  unfold keyOf;rw[hu];simp only[keyQ,hform,Bool.and_self,if_true];have hc:(Value.agg #[.string p.module.1,.int .i64 p.part.kind.1,.string p.part.name.1]).cells.toList =[.string p.module.1,.int .i64 p.part.kind.1,.string p.part.name.1]:=rfl;rw[hc,hn,show n+2+1=n+3 from rfl,hl];rfl
 ·cases hf
theorem zsz{p q:Place}(h:zcM p=zcM q):p=q:=by
 obtain⟨⟨m,hm⟩,⟨⟨k,hk⟩,⟨n,hn⟩⟩⟩:=p;obtain⟨⟨m',hm'⟩,⟨⟨k',hk'⟩,⟨n',hn'⟩⟩⟩:=q;simp only[zcM,zaE,eS,eI,D.agg.injEq,List.cons.injEq,D.lit.injEq,Value.string.injEq,Value.int.injEq,true_and,and_true]at h;obtain⟨rfl,rfl,rfl⟩:=h;rfl
section
variable {α:Type}
def qK(l:List (Place×α)):List D:=l.map fun e=>zcM e.1
def qV(f:α->D)(l:List (Place×α)):List D:=l.map fun e=>f e.2
theorem zrw(l:List (Place×α)): ∀y∈qK l,zd3 Tryz.prog 166 y:=fun y hy=>by
 obtain⟨e,_,rfl⟩:=List.mem_map.1 hy;exact ztc e.1
theorem mem_qK{l:List (Place×α)}{p:Place}:zcM p∈qK l↔p∈l.map Prod.fst:=by
 unfold qK;rw[List.mem_map,List.mem_map];exact⟨fun⟨e,h1,h2⟩=>⟨e,h1,zsz h2⟩,fun⟨e,h1,h2⟩=>⟨e,h1,by rw[h2]⟩⟩
theorem mget_q(f:α->D): ∀(l:List (Place×α)) (p:Place),zjZ (qK l) (qV f l) (zcM p)=(lkp Prod.fst l p).map fun e=>f e.2
 | [],p=>by simp[qK,qV,zjz,zxa]
 | e::l,p=>by
  have ih:=mget_q f l p;unfold qK qV at ih ⊢;rw[List.map_cons,List.map_cons,zhM,zeH,ih];by_cases h:e.1=p
  ·rw[if_pos (by rw[h]),if_pos h]; rfl
  ·rw[if_neg (fun h'=>h (zsz h')),if_neg h]
theorem put_q(f:α->D){l:List (Place×α)}{p:Place}{x:α}(h:p∉l.map Prod.fst):zgQ (qK l) (zcM p)=qK (l++[(p,x)])/\zjk (qK l) (qV f l) (zcM p) (f x)=qV f (l++[(p,x)])/\
  zjs (qK l) (List.range l.length) l.length (zcM p)=List.range (l++[(p,x)]).length /\zjT (qK l) l.length (zcM p)=(l++[(p,x)]).length :=by
 have hn:zcM p∉qK l:=fun h'=>h (mem_qK.1 h');have: ¬zeN (qK l) (zcM p)<(qK l).length :=fun h'=>hn (zcO.1 h');refine⟨by rw[zdt hn]; simp[qK],by rw[zdu hn]; simp[qV],?_,?_⟩
 ·simp only[zjs,if_neg this,List.length_append,List.length_cons,List.length_nil,Nat.zero_add,List.range_succ]
 ·simp only[zjT,if_neg this,List.length_append,List.length_cons,List.length_nil,Nat.zero_add]
end
/-! ### Contents -/
/-- The nil slice as plain data. -/
def ztw:D:=.lit (.slice none 0 0)
/-- A content: a head has no items,an item's module has no parameters: both nil. -/
def cM(m:Module):List D:=if m.items.isEmpty=true then [eS m.name,eS m.clock,zd5 m.params,ztw]else [eS m.name,eS m.clock,ztw,zbR m.items]
def eM(m:Module):D:=.agg (cM m)
theorem eM_hd(m:Module):eM (hdM m)= .agg [eS m.name,eS m.clock,zd5 m.params,ztw]:=rfl
theorem eM_it(x:Item):eM (itM x)= .agg [.lit (.string ByteArray.empty),.lit (.string ByteArray.empty),ztw,.sl [zaK x]]:=rfl
def wkD(a b:D):Prop:= ∀W F v,Rd W F a v->Rd W F b v
theorem wk_nil:wkD ztw (.sl []):=fun W F v h=>by
 simp only[ztw,Rd]at h;subst h;simp only[Rd];exact⟨⟨none,0,rfl,Nat.le_refl _,fun h=>absurd rfl h⟩,by simp⟩
theorem zjX(a:D):wkD a a:=fun _ _ _ h=>h
theorem wk_row{a b:D}{n m:D}{p q:D}{i j:D}(h1:wkD a b)(h2:wkD n m)(h3:wkD p q)(h4:wkD i j):wkD (.sl [[a,n,p,i]]) (.sl [[b,m,q,j]]):=fun W F v h=>by
 simp only[Rd,List.length_cons,List.length_nil]at h ⊢;obtain⟨⟨ad,cap,e1,e2,e3⟩,e4⟩:=h;refine⟨⟨ad,cap,e1,e2,fun hn=> ?_⟩,e4⟩;obtain⟨bb,off,k,f1,f2,f3⟩:=e3 hn;refine⟨bb,off,k,f1,f2,?_⟩;simp only[zbJ,zbd,List.length_cons,List.length_nil,and_true]at f3 ⊢;obtain⟨g0,⟨v1,c1,r1⟩,⟨v2,c2,r2⟩,⟨v3,c3,r3⟩,⟨v4,c4,r4⟩⟩:=f3;exact⟨g0,⟨v1,c1,h1 _ _ _ r1⟩,⟨v2,c2,h2 _ _ _ r2⟩,⟨v3,c3,h3 _ _ _ r3⟩,⟨v4,c4,h4 _ _ _ r4⟩⟩
/-- The cells of a content say more than those of the module. -/
theorem cM_row{m:Module}(h:m.items=[]\/m.params=[]): ∃a n p i:D,cM m=[a,n,p,i]/\(a.one/\n.one/\p.one/\i.one)/\wkD (.sl [[a,n,p,i]]) (.sl [zaC m]):=by
 obtain⟨nm,ck,ps,its⟩:=m;simp only at h;cases its with
 | nil=>exact⟨_,_,_,_,rfl,⟨rfl,rfl,trivial,rfl⟩,wk_row (zjX _) (zjX _) (zjX _) wk_nil⟩
 | cons x r=>
  have hp:ps=[]:=h.resolve_left (by simp);subst hp;exact⟨_,_,_,_,rfl,⟨rfl,rfl,rfl,trivial⟩,wk_row (zjX _) (zjX _) wk_nil (zjX _)⟩
theorem zss{l:List Module}{p:Place}{m:Module}(h:zbc l p=some m):m.items=[]\/m.params=[]:=by
 obtain⟨q,_,⟨_,rfl⟩ | ⟨x,_,_,rfl⟩⟩:=zek h
 ·exact .inl rfl
 ·exact .inr rfl
def mapQ(l:List (Place×Module)):AO:=.map (qK l) (qV eM l) (List.range l.length) l.length
def zdl(f:List Module):D:=.mp (qK (ent f)) (qV eM (ent f)) (List.range (ent f).length) (ent f).length
theorem zpq{f:List Module}(h:Parted f)(p:Place):zjZ (qK (ent f)) (qV eM (ent f)) (zcM p)=(zbc f p).map eM:=by
 rw[mget_q,lkp_ent h];cases zbc f p <;> rfl
theorem fresh_q{f:List Module}(h:Parted f){A B:List (Place×Module)}{p:Place}{c:Module}(e:ent f=A++(p,c)::B):p∉A.map Prod.fst:=by
 have hn:=zqs h;unfold zey at hn;rw[e,List.map_append,List.map_cons,List.nodup_append]at hn;intro hp;exact hn.2.2 p hp p (by simp) rfl
theorem ent_split{f:List Module}{i:Nat}(h:i<f.length):ent f=ent (f.take i)++(zmp f[i]++ent (f.drop (i+1))):=by
 rw[<-zqb f[i],<-zgY,<-zgY];congr 1;rw[List.singleton_append,List.getElem_cons_drop,List.take_append_drop]
theorem ent_take{f:List Module}{i:Nat}(h:i<f.length):ent (f.take (i+1))=ent (f.take i)++zmp f[i]:=by
 rw[List.take_succ_eq_append_getElem h,zgY,zqb]
theorem entM_take{m:Module}{k:Nat}(h:k<m.items.length):(zmp m).take (k+2)=(zmp m).take (k+1)++[(plI m.name m.items[k],itM m.items[k])]:=by
 unfold zmp;rw[List.take_succ_cons,List.take_succ_cons,List.cons_append,List.take_succ_eq_append_getElem (by simpa using h),List.getElem_map]
theorem entM_split{m:Module}{k:Nat}(h:k<m.items.length):zmp m=(zmp m).take (k+1)++(plI m.name m.items[k],itM m.items[k])::(zmp m).drop (k+2):=by
 conv=>lhs; rw[<-List.take_append_drop (k+2) (zmp m),entM_take h]
 simp
theorem contentsOf_c(f:List Module)(hp:Parted f):FnP Tryz.prog 176 [.agg [zax f]] (.d (zdl f)) []:=by
 refine FnP.of_eC (own:=[]) (fun i=>[]) zat Tryz.func176 rfl Tryz.call176 Tryz.ntmps176 (Nat.le_of_ble_eq_true rfl) Tryz.results176 (fun hok=> ?_);have hl:f.length<=9223372036854775807/\ ∀m∈f,m.items.length<=9223372036854775807:=by
  have h1:=(zaM hok).1;simp only[D.ok,D.okL]at h1;have hm:=(za9 h1.1);refine⟨hm.1,fun m hm'=> ?_⟩;have h2:=hm.2 m hm';have h3:=(zaM (zaM (zaM (zaM h2).2).2).2).1;exact(za9 h3).1
 simp(maxSteps:=4000000) only[ZE,↓reduceIte,pE,pL,pA,pS,pM,pD,zN,qT,qG,qL,qH,qN,qB,qE,qO,qA,qM];refine za1 (fun _=>[]) zat f.length (fun _=>True) (fun i=>([(1,.bp 1 0),(3,.mo 8),(10,.d (zax f)),(11,.d (eI f.length)),(12,.d (eI i))],
  [(1,.box [.d (zax f)]),(8,mapQ (ent (f.take i)))])) trivial ?_ ?_ (fun i hi _=> ?_)
 ·simp only[ZE,↓reduceIte,pE,pL,pA,pS,pM,pD]
 ·have e:ent []=[]:=rfl;simp only[ZE,↓reduceIte,pE,pL,pA,pS,pM,pD,List.take_zero,e,mapQ,qK,qV,List.map_nil,List.length_nil,List.range_zero]
 rcases Nat.lt_or_ge i f.length with h | h
 ·have hw:=zaq (show i<9223372036854775807 by omega);obtain⟨m,hm⟩:=zX (f[i]);have hs:=ent_split h;have ht:=ent_take h;rw[hm]at hs ht;have hml:m.items.length<=9223372036854775807:=hl.2 m (hm▸List.getElem_mem h);obtain⟨E,hE⟩:=zX (ent (f.take i));rw[hE]at hs ht;rw[hE,ht];have hk0:=ztc (zbB m.name);have hf0:zbB m.name∉E.map Prod.fst:=fresh_q hp (A:=E) (B:=m.items.map (fun x=>(plI m.name x,itM x))++ent (f.drop (i+1))) hs;have hp0:=zkl (put_q eM (x:=hdM m) hf0);have e0:(zmp m).take 1=[(zbB m.name,hdM m)]:=rfl;rw[<-e0,eM_hd]at hp0;simp(maxSteps:=4000000) only[ZE,↓reduceIte,pE,pL,pA,pS,pM,pD,zcM,zaE,zbB,zc7,emp,ztw,List.map_nil]at hp0;simp(maxSteps:=4000000) only[ZE,↓reduceIte,pE,pL,pA,pS,pM,pD,zbB,zc7,emp]at hk0;simp(maxSteps:=4000000) only[ZE,↓reduceIte,pE,pL,pA,pS,pM,pD,zaw h,zaa h,zai h,hm,zN,qT,qG,qL,qH,qN,qB,qE,qO,qA,qM,mapQ,zpi,hk0,hp0];refine⟨fun y hy=>zrw _ y hy,?_⟩;refine za1 (fun _=>[]) zat m.items.length (fun _=>True) (fun k=>([(1,.bp 1 0),(3,.mo 8),(5,.bp 5 0),(10,.d (zax f)),(11,.d (eI f.length)),(12,.d (eI i)),(28,.d (zbR m.items)),(29,.d (eI m.items.length)),(30,.d (eI k))],
   [(1,.box [.d (zax f)]),(5,.box [.d (eS m.name),.d (eS m.clock),.d (zd5 m.params),.d (zbR m.items)]),(8,mapQ (E++(zmp m).take (k+1)))])) trivial ?_ ?_ (fun k hk _=> ?_)
  ·simp only[ZE,↓reduceIte,pE,pL,pA,pS,pM,pD,List.length_map]
  ·simp only[ZE,↓reduceIte,pE,pL,pA,pS,pM,pD,mapQ]
  rcases Nat.lt_or_ge k m.items.length with h' | h'
  ·have hw':=zaq (show k<9223372036854775807 by omega);have ht':=entM_take h';have hs':=entM_split h';obtain⟨x,hx⟩:=zX (m.items[k]);rw[hx]at ht' hs';obtain⟨G,hG⟩:=zX ((zmp m).take (k+1));rw[hG]at ht' hs';rw[hG,show k+1+1=k+2 from rfl,ht',<-List.append_assoc];have hk1:=ztc (plI m.name x);have hsp:ent f=(E++G)++(plI m.name x,itM x)::((zmp m).drop (k+2)++ent (f.drop (i+1))):=by
    rw[hs]
    conv=>lhs; rw[hs']
    simp only[List.append_assoc,List.cons_append]
   have hf1:plI m.name x∉(E++G).map Prod.fst:=fresh_q hp hsp;have hp1:=zkl (put_q eM (x:=itM x) hf1);obtain⟨z,hz⟩:=zX ((plI m.name x,itM x));rw[hz,eM_it]at hp1;rw[hz];simp(maxSteps:=4000000) only[ZE,↓reduceIte,pE,pL,pA,pS,pM,pD,zcM,zaE,plI,zbg,ztw]at hp1;simp(maxSteps:=4000000) only[ZE,↓reduceIte,pE,pL,pA,pS,pM,pD,plI,zbg]at hk1;simp(maxSteps:=4000000) only[ZE,↓reduceIte,pE,pL,pA,pS,pM,pD,zaw h',zaa h',zai h',hx,zN,qT,qG,qL,qH,qN,qB,qE,qO,qA,qM,mapQ,zpi,hk1,hp1,hw'];exact⟨fun y hy=>zrw _ y hy,h'⟩
  ·have:k=m.items.length:=by omega
   subst this;have hfull:(zmp m).take (m.items.length+1)=zmp m:=List.take_of_length_le (by simp[zmp]);simp(maxSteps:=4000000) only[ZE,↓reduceIte,pE,pL,pA,pS,pM,pD,zaI h',zN,qT,qG,qL,qH,qN,qB,qE,qO,qA,qM,hw,mapQ,hfull];exact h
 ·have:i=f.length:=by omega
  subst this;simp(maxSteps:=4000000) only[ZE,↓reduceIte,pE,pL,pA,pS,pM,pD,zaI h,zN,qT,qG,qL,qH,qN,qB,qE,qO,qA,qM,mapQ,List.take_length,zdl]
set_option maxHeartbeats 1000000
instance:Inhabited Place:=⟨⟨emp,zc7⟩⟩
def zqF(l:List Place)(js:List Nat):List Place:=js.map fun j=>l.getD j default
def eYq(p:Place):List D:=[zcM p]
theorem keysQ_it(l:List Place)(vs:List D)(bs:List Nat)(clock:Nat):zoR Tryz.prog 235 [.ptr [.mp (l.map zcM) vs bs clock]] (fun pre=> ∃js:List Nat,js.Nodup/\(∀j∈js,j<l.length)/\pre=(zqF l js).map eYq) (fun xs=> ∃js:List Nat,js.Nodup/\(∀j∈js,j<l.length)/\(∀j,j<l.length->j∈js)/\xs=(zqF l js).map eYq):=by
 intro lim fam stop lp hY;have:=FnL.of_eC (P:=Tryz.prog) (args:=[.yv 0,.d (.ptr [.mp (l.map zcM) vs bs clock])]) (os:=[(0,.ext lim fam stop lp [])]) (PL:=fun _ ol new=>(∃xs,(∃js:List Nat,js.Nodup/\(∀j∈js,j<l.length)/\(∀j,j<l.length->j∈js)/\xs=(zqF l js).map eYq)/\ol=[(0,.ext lim fam stop lp xs)]/\new=[])\/(ol=[(0,.ext lim (fun _=>stop) stop lp [])]/\new=[])) (own:=[]) (fun _=>[]) [0] zat Tryz.func235 rfl Tryz.call235 Tryz.ntmps235 (Nat.le_of_ble_eq_true rfl) Tryz.results235 ?_
 ·refine this.mono ?_;rintro V Oo new ⟨ol,rfl,⟨xs,h1,rfl,h2⟩ | ⟨rfl,h2⟩⟩
  ·exact .inl ⟨xs,h1,rfl,h2⟩
  ·exact .inr ⟨rfl,h2⟩
 simp only[ZE,↓reduceIte,pE,pL,pA,pS,pM,pD];refine zgR (fun _ _=>[]) zat l.length (fun i (js:List Nat)=>js.length=i/\js.Nodup/\ ∀j∈js,j<l.length) (fun i js=>([(0,.yv 0),(5,.mo 5)],[(0,.ext lim fam stop lp ((zqF l js).map eYq)),(5,.it (l.map zcM) vs bs clock js)])) [] ?_ ?_ ?_ (fun i js hi hI=> ?_)
 ·simp
 ·simp only[ZE,↓reduceIte,pE,pL,pA,pS,pM,pD]
 ·simp only[ZE,↓reduceIte,pE,pL,pA,pS,pM,pD,zqF,List.map_nil]
 obtain⟨h1,h2,h3⟩:=hI;simp only[ZE,↓reduceIte,pE,pL,pA,pS,pM,pD];refine⟨by simp only[ZE,↓reduceIte,pE,pL,pA,pS,pM,pD],fun j hj hjs=> ?_,fun hall=> ?_⟩
 ·have hj':j<l.length:=by simpa using hj
  have hD:l.getD j default=l[j]:=by simp[List.getD,hj']
  have hkj:(l.map zcM).getD j default=D.agg [.lit (.string l[j].module.1),.lit (.int .i64 l[j].part.kind.1),.lit (.string l[j].part.name.1)]:=by
   simp[List.getD,hj',zcM,zaE,eI,eS]
  have hlen:i<l.length:=by
   have:=zdr l.length (j::js) (List.nodup_cons.2 ⟨hjs,h2⟩) (fun k hk=>by
    rcases List.mem_cons.1 hk with rfl | hk
    ·exact hj'
    ·exact h3 k hk)
   simp at this; omega
  have hnew:(js++[j]).Nodup /\ ∀k∈js++[j],k<l.length:=by
   refine⟨List.nodup_append.2 ⟨h2,by simp,fun a ha b hb e=> ?_⟩,fun k hk=> ?_⟩
   ·simp at hb; subst hb; subst e; exact hjs ha
   ·rcases List.mem_append.1 hk with hk | hk
    ·exact h3 k hk
    ·simp at hk; subst hk; exact hj'
  have hpick:(zqF l js).map eYq++[[D.agg [.lit (.string l[j].module.1),.lit (.int .i64 l[j].part.kind.1),.lit (.string l[j].part.name.1)]]]=(zqF l (js++[j])).map eYq:=by
   simp only[zqF,List.map_append,List.map_cons,List.map_nil,hD];rfl
  simp only[ZE,↓reduceIte,pE,pL,pA,pS,pM,pD,hkj,List.getLast?_singleton,Option.some_or];refine⟨_,hY,?_,?_,?_⟩
  ·exact⟨js++[j],hnew.1,hnew.2,hpick⟩
  ·simp only[ZE,↓reduceIte,pE,pL,pA,pS,pM,pD,zep,hpick];refine⟨hlen,js++[j],⟨by simp[h1],hnew⟩,?_⟩;simp only[ZE,↓reduceIte,pE,pL,pA,pS,pM,pD]
  ·simp only[ZE,↓reduceIte,pE,pL,pA,pS,pM,pD];refine⟨[3,5],[],?_⟩;simp only[ZE,↓reduceIte,pE,pL,pA,pS,pM,pD]
 ·simp only[ZE,↓reduceIte,pE,pL,pA,pS,pM,pD];refine⟨[5],[],?_⟩;simp only[ZE,↓reduceIte,pE,pL,pA,pS,pM,pD];exact .inl ⟨_,⟨js,h2,h3,fun j hj=>hall j (by simpa using hj),rfl⟩,rfl⟩
theorem keysQ_c(l:List Place)(vs:List D)(bs:List Nat)(clock:Nat):FnP Tryz.prog 179 [.mp (l.map zcM) vs bs clock] (.d (.clo (.func 235) [] [.ptr [.mp (l.map zcM) vs bs clock]])) []:=by
 refine FnP.of_eC (own:=[]) (fun _=>[]) zat Tryz.func179 rfl Tryz.call179 Tryz.ntmps179 (Nat.le_of_ble_eq_true rfl) Tryz.results179 (fun hok=> ?_);simp only[ZE,↓reduceIte,pE,pL,pA,pS,pM,pD]
def rowQ:List D->List D
 | [.agg cs]=>cs
 | _=>[]
theorem rowQ_pick(l:List Place)(js:List Nat):((zqF l js).map eYq).map rowQ=(zqF l js).map zaE:=by
 rw[List.map_map]; rfl
theorem appendSeqQ_c(l:List Place)(vs:List D)(bs:List Nat)(clock:Nat)(hl:l.length<=4000000):FnL Tryz.prog 267 [.nils,.d (.clo (.func 235) [] [.ptr [.mp (l.map zcM) vs bs clock]])] [] (fun V ol new=> ∃l':List Place,l'.Perm l/\V= .ar 90 l'.length/\ol=[(90,.arr 166 3 .flat (l'.map zaE))]/\new=[90]):=by
 refine FnL.of_eC (own:=[]) (fun id=>if id=0 then [.adB 2 0 90 166 3]else []) [] zat Tryz.func267 rfl Tryz.call267 Tryz.ntmps267 (Nat.le_of_ble_eq_true rfl) Tryz.results267 ?_;simp only[ZE,↓reduceIte,pE,pL,pA,pS,pM,pD];refine zq4 zat (fun _=>[]) rfl (by simp only[ZE,↓reduceIte,pE,pL,pA,pS,pM,pD]) (keysQ_it l vs bs clock) (fun pre=>[(2,.box [.ar 90 pre.length]),(90,.arr 166 3 .flat (pre.map rowQ))]) ?_ ?_ ?_ ?_ ?_
 ·simp only[ZE,↓reduceIte,pE,pL,pA,pS,pM,pD]
 ·intro pre; simp[zdU,zie]
 ·simp only[ZE,↓reduceIte,pE,pL,pA,pS,pM,pD,psOk,zeQ]
 ·rintro pre x ⟨js,h1,h2,h3⟩;have hlen:(pre++[x]).length =js.length:=by rw[h3]; simp[zqF]
  have hjl:=zdr l.length js h1 h2;simp only[List.length_append,List.length_cons,List.length_nil]at hlen;obtain⟨p,rfl⟩: ∃p,x=eYq p:=by
   have:x∈(zqF l js).map eYq:=by rw[<-h3]; simp
   obtain⟨p,_,rfl⟩:=List.mem_map.1 this;exact⟨p,rfl⟩
  simp only[eYq,zcM,zaE,ZE,↓reduceIte,pE,pL,pA,pS,pM,pD,zve,zl0,zdU,zie,zrn,zeQ];refine⟨⟨by omega,by omega⟩,by simp,by simp,?_⟩;rw[List.map_append]; rfl
 ·rintro xs ⟨js,h1,h2,h3,rfl⟩;simp only[ZE,↓reduceIte,pE,pL,pA,pS,pM,pD];refine⟨[2],[90],?_⟩;simp only[ZE,↓reduceIte,pE,pL,pA,pS,pM,pD];refine⟨zqF l js,?_,rfl,by rw[rowQ_pick]⟩;have:=(ziu h1 h2 h3).map fun j=>l.getD j default;rw[zgf]at this;exact this
theorem collectQ_c(l:List Place)(vs:List D)(bs:List Nat)(clock:Nat)(hl:l.length<=4000000):FnL Tryz.prog 234 [.d (.clo (.func 235) [] [.ptr [.mp (l.map zcM) vs bs clock]])] [] (fun V ol new=> ∃l':List Place,l'.Perm l/\V= .ar 90 l'.length/\ol=[(90,.arr 166 3 .flat (l'.map zaE))]/\new=[90]):=by
 refine FnL.of_eC (own:=[]) (fun id=>[]) [] zat Tryz.func234 rfl Tryz.call234 Tryz.ntmps234 (Nat.le_of_ble_eq_true rfl) Tryz.results234 ?_;simp only[ZE,↓reduceIte,pE,pL,pA,pS,pM,pD];refine EFn.g ⟨[(90,90)],[.nils,.d (.clo (.func 235) [] [.ptr [.mp (l.map zcM) vs bs clock]])],_,_,appendSeqQ_c l vs bs clock hl,?_⟩;simp only[ZE,↓reduceIte,pE,pL,pA,pS,pM,pD];rintro V ol new ⟨l',hp,rfl,rfl,rfl⟩;simp only[ZE,↓reduceIte,pE,pL,pA,pS,pM,pD];refine⟨[],[90],?_⟩;simp only[ZE,↓reduceIte,pE,pL,pA,pS,pM,pD];exact⟨l',hp,rfl,rfl⟩
theorem sortedQ_o(l:List Place)(hn:l.Nodup)(vs:List D)(bs:List Nat)(clock:Nat)(hl:l.length<=4000000):FnL Tryz.prog 178 [.d (.clo (.func 235) [] [.ptr [.mp (l.map zcM) vs bs clock]]),.d (.clo (.func 180) [] [])] [] (fun V ol new=>V= .ar 90 (setS ltQ l).length /\ol=[(90,.arr 166 3 .flat ((setS ltQ l).map zaE))]/\new=[90]):=by
 refine FnL.of_eC (own:=[]) (fun id=>[]) [] zat Tryz.func178 rfl Tryz.call178 Tryz.ntmps178 (Nat.le_of_ble_eq_true rfl) Tryz.results178 ?_;simp only[ZE,↓reduceIte,pE,pL,pA,pS,pM,pD];refine EFn.g ⟨[(90,90)],[.d (.clo (.func 235) [] [.ptr [.mp (l.map zcM) vs bs clock]])],_,_,collectQ_c l vs bs clock hl,?_⟩;simp only[ZE,↓reduceIte,pE,pL,pA,pS,pM,pD];rintro V ol new ⟨l',hp,rfl,rfl,rfl⟩;simp only[ZE,↓reduceIte,pE,pL,pA,pS,pM,pD];refine EFn.g ⟨[(0,90)],[.ar 0 l'.length,.d (.clo (.func 180) [] [])],_,_,sortQ_c l' (by have:=hp.length_eq; omega),?_⟩;simp only[ZE,↓reduceIte,pE,pL,pA,pS,pM,pD];rintro V ol new ⟨rfl,⟨r,h1,h2,rfl⟩,rfl⟩;have hr:r=setS ltQ l:=setS_eq zlZ (not_cmpQ h2 (h1.nodup_iff.1 (hp.nodup_iff.2 hn))) fun k=>(h1.mem_iff.symm.trans hp.mem_iff);subst hr;rw[h1.length_eq];simp only[ZE,↓reduceIte,pE,pL,pA,pS,pM,pD];refine⟨[],[90],?_⟩;simp only[ZE,↓reduceIte,pE,pL,pA,pS,pM,pD]
set_option maxHeartbeats 4000000
theorem sameF_one(m n:Module):zl6 [m] [n]=decide (some m=some n):=by
 rw[Bool.eq_iff_iff,zm3,decide_eq_true_eq];simp
theorem same_w{m n:Module}(hm:m.items=[]\/m.params=[])(hn:n.items=[]\/n.params=[]): ∃a b c d a' b' c' d':D,eM m= .agg [a,b,c,d]/\eM n= .agg [a',b',c',d']/\(a.one/\b.one/\c.one/\d.one)/\(a'.one/\b'.one/\c'.one/\d'.one)/\
  FnP Tryz.prog 19 [.agg [.sl [[a,b,c,d]]],.agg [.sl [[a',b',c',d']]]] (.d (eB (decide (some m=some n)))) []:=by
 obtain⟨a,b,c,d,e1,o1,w1⟩:=cM_row hm;obtain⟨a',b',c',d',e2,o2,w2⟩:=cM_row hn;refine⟨a,b,c,d,a',b',c',d',by unfold eM; rw[e1],by unfold eM; rw[e2],o1,o2,?_⟩;rw[<-sameF_one];refine FnP.weak (zh6 [m] [n]) fun W F vs h=> ?_;simp only[zav,Rd]at h;obtain⟨v1,r1,rfl,⟨u1,rfl,x1,y1,rfl,h1,rfl⟩,v2,r2,rfl,⟨u2,rfl,x2,y2,rfl,h2,rfl⟩,rfl⟩:=h;have g1:=w1 W F x1 (by simp only[Rd]; exact h1);have g2:=w2 W F x2 (by simp only[Rd]; exact h2);show zav W F [.agg [.sl [zaC m]],.agg [.sl [zaC n]]] _;unfold zav;refine⟨_,_,rfl,?_,?_⟩
 ·unfold Rd;exact⟨_,rfl,by unfold zav; exact⟨_,_,rfl,g1,by unfold zav; rfl⟩⟩
 ·unfold zav;refine⟨_,_,rfl,?_,by unfold zav; rfl⟩;unfold Rd;exact⟨_,rfl,by unfold zav; exact⟨_,_,rfl,g2,by unfold zav; rfl⟩⟩
theorem zwT(f g:List Module)(hf:Parted f)(hg:Parted g)(p:Place):FnP Tryz.prog 139 [zdl f,zdl g,.agg (zaE p)] (.d (eB (decide (zbc f p=zbc g p)))) []:=by
 refine FnP.of_eC (own:=[]) (fun i=>[]) zat Tryz.func139 rfl Tryz.call139 Tryz.ntmps139 (Nat.le_of_ble_eq_true rfl) Tryz.results139 (fun hok=> ?_);have hk:=ztc p;have m1:=zpq hf p;have m2:=zpq hg p;cases h1:zbc f p with
 | none=>
  rw[h1]at m1;cases h2:zbc g p with
  | none=>
   rw[h2]at m2;rw[decide_eq_true (show(none:Option Module)=none from rfl)];simp(maxSteps:=4000000) only[ZE,↓reduceIte,pE,pL,pA,pS,pM,pD,zcM,zaE,Option.map_none]at m1 m2;simp(maxSteps:=4000000) only[ZE,↓reduceIte,pE,pL,pA,pS,pM,pD,zaE,zdl,zpi,hk,m1,m2,Option.getD_none,Option.isSome_none];exact⟨fun y hy=>zrw _ y hy,fun y hy=>zrw _ y hy⟩
  | some n=>
   obtain⟨a,b,c,d,e2,⟨o1,o2,o3,o4⟩,_⟩:=cM_row (zss h2);have e2':eM n= .agg [a,b,c,d]:=by unfold eM; rw[e2]
   rw[h2,Option.map_some,e2']at m2;rw[decide_eq_false (show ¬(none:Option Module)=some n by simp)];simp(maxSteps:=4000000) only[ZE,↓reduceIte,pE,pL,pA,pS,pM,pD,zcM,zaE,Option.map_none]at m1 m2;simp(maxSteps:=4000000) only[ZE,↓reduceIte,pE,pL,pA,pS,pM,pD,zaE,zdl,zpi,hk,m1,m2,Option.getD_none,Option.isSome_none,Option.getD_some,Option.isSome_some];exact⟨fun y hy=>zrw _ y hy,fun y hy=>zrw _ y hy,o1,o2,o3,o4⟩
 | some m=>
  cases h2:zbc g p with
  | none=>
   obtain⟨a,b,c,d,e2,⟨o1,o2,o3,o4⟩,_⟩:=cM_row (zss h1);have e2':eM m= .agg [a,b,c,d]:=by unfold eM; rw[e2]
   rw[h1,Option.map_some,e2']at m1;rw[h2]at m2;rw[decide_eq_false (show ¬some m=(none:Option Module) by simp)];simp(maxSteps:=4000000) only[ZE,↓reduceIte,pE,pL,pA,pS,pM,pD,zcM,zaE,Option.map_none]at m1 m2;simp(maxSteps:=4000000) only[ZE,↓reduceIte,pE,pL,pA,pS,pM,pD,zaE,zdl,zpi,hk,m1,m2,Option.getD_none,Option.isSome_none,Option.getD_some,Option.isSome_some];exact⟨fun y hy=>zrw _ y hy,⟨o1,o2,o3,o4⟩,fun y hy=>zrw _ y hy⟩
  | some n=>
   obtain⟨a,b,c,d,a',b',c',d',e1,e2,⟨o1,o2,o3,o4⟩,⟨q1,q2,q3,q4⟩,sc⟩:=same_w (zss h1) (zss h2);rw[h1,Option.map_some,e1]at m1;rw[h2,Option.map_some,e2]at m2;obtain⟨r,hr⟩:=zX (decide (some m=some n));rw[hr]at sc ⊢;simp(maxSteps:=4000000) only[ZE,↓reduceIte,pE,pL,pA,pS,pM,pD,zcM,zaE]at m1 m2;simp(maxSteps:=4000000) only[ZE,↓reduceIte,pE,pL,pA,pS,pM,pD]at sc;simp(maxSteps:=4000000) only[ZE,↓reduceIte,pE,pL,pA,pS,pM,pD,zaE,zdl,zpi,hk,m1,m2,Option.getD_none,Option.isSome_none,Option.getD_some,Option.isSome_some];refine⟨fun y hy=>zrw _ y hy,⟨o1,o2,o3,o4⟩,fun y hy=>zrw _ y hy,⟨q1,q2,q3,q4⟩,⟨o1,o2,o3,o4⟩,⟨q1,q2,q3,q4⟩,?_⟩;refine EFn.p ?_;simp(maxSteps:=4000000) only[ZE,↓reduceIte,pE,pL,pA,pS,pM,pD];refine zar.i sc ?_;cases r <;> simp(maxSteps:=4000000) only[ZE,↓reduceIte,pE,pL,pA,pS,pM,pD]
/-! ### All places -/
def addQ(L:List Place)(p:Place):List Place:=if p∈L then L else L++[p]
def zpX(L ps:List Place):List Place:=ps.foldl addQ L
theorem addsQ_law: ∀(ps L:List Place),L.Nodup->(zpX L ps).Nodup /\ ∀p,p∈zpX L ps↔p∈L\/p∈ps
 | [],L,h=>⟨h,fun p=>by simp[zpX]⟩
 | q::ps,L,h=>by
  have h1:(addQ L q).Nodup /\ ∀p,p∈addQ L q↔p∈L\/p=q:=by
   unfold addQ;by_cases hq:q∈L
   ·rw[if_pos hq];refine⟨h,fun p=>⟨.inl,?_⟩⟩;rintro(hp | rfl)
    ·exact hp
    ·exact hq
   ·rw[if_neg hq];refine⟨List.nodup_append.2 ⟨h,by simp,fun a ha b hb e=> ?_⟩,fun p=>by simp⟩;simp only[List.mem_singleton]at hb;subst hb; subst e; exact hq ha
  obtain⟨h2,h3⟩:=addsQ_law ps (addQ L q) h1.1;refine⟨h2,fun p=> ?_⟩;show p∈zpX (addQ L q) ps↔_;rw[h3,h1.2,List.mem_cons,or_assoc]
theorem addsQ_snoc(L ps:List Place)(q:Place):zpX L (ps++[q])=addQ (zpX L ps) q:=by
 unfold zpX;rw[List.foldl_append]; rfl
def tQ(L:List Place):List D:=L.map fun _=>D.lit (.bool true)
def setO(L:List Place):AO:=.map (L.map zcM) (tQ L) (List.range L.length) L.length
theorem put_set(L:List Place)(p:Place):zgQ (L.map zcM) (zcM p)=(addQ L p).map zcM/\zjk (L.map zcM) (tQ L) (zcM p) (.lit (.bool true))=tQ (addQ L p)/\
  zjs (L.map zcM) (List.range L.length) L.length (zcM p)=List.range (addQ L p).length /\zjT (L.map zcM) L.length (zcM p)=(addQ L p).length :=by
 unfold addQ;by_cases h:p∈L
 ·rw[if_pos h];have hm:zcM p∈L.map zcM:=List.mem_map.2 ⟨p,h,rfl⟩;have hlt:=zcO.2 hm;refine⟨by simp only[zgQ,if_pos hlt],?_,by simp only[zjs,if_pos hlt],by simp only[zjT,if_pos hlt]⟩;simp only[zjk,if_pos hlt];refine List.ext_getElem (by simp) fun i h1 h2=> ?_;rw[List.getElem_set];split
  ·simp[tQ]
  ·rfl
 ·rw[if_neg h];have hm:zcM p∉L.map zcM:=fun h'=>by
   obtain⟨q,h1,h2⟩:=List.mem_map.1 h';exact h (zsz h2▸h1)
  have hlt: ¬zeN (L.map zcM) (zcM p)<(L.map zcM).length :=fun h'=>hm (zcO.1 h');refine⟨by rw[zdt hm]; simp,by rw[zdu hm]; simp[tQ],?_,?_⟩
  ·simp only[zjs,if_neg hlt,List.length_append,List.length_cons,List.length_nil,Nat.zero_add,List.range_succ]
  ·simp only[zjT,if_neg hlt,List.length_append,List.length_cons,List.length_nil,Nat.zero_add]
theorem setK_ok(L:List Place): ∀y∈L.map zcM,zd3 Tryz.prog 166 y:=fun y hy=>by
 obtain⟨e,_,rfl⟩:=List.mem_map.1 hy;exact ztc e
def zu5(l:List Place)(js:List Nat):List Place:=js.map fun j=>l.getD j default
theorem pickF_mem{l:List Place}{js:List Nat}(h: ∀j∈js,j<l.length)(hall: ∀j,j<l.length->j∈js)(p:Place):p∈zu5 l js↔p∈l:=by
 unfold zu5;rw[List.mem_map];constructor
 ·rintro⟨j,hj,rfl⟩;simp[List.getD,h j hj]
 ·intro hp;obtain⟨j,hj,rfl⟩:=List.getElem_of_mem hp;exact⟨j,hall j hj,by simp[List.getD,hj]⟩
theorem qK_keys(f:List Module):qK (ent f)=(zey f).map zcM:=by unfold qK zey; rw[List.map_map]; rfl
theorem allp_o(fs:List (List Module))(hl:(fs.flatMap zey).length <=4000000)(hn:fs.length<=1000):FnL Tryz.prog 137 [.d (.sl (fs.map fun f=>[zdl f]))] [] (fun V ol new=>V= .ar 90 (zoQ fs).length /\ol=[(90,.arr 166 3 .flat ((zoQ fs).map zaE))]/\new=[90]):=by
 refine FnL.of_eC (own:=[]) (fun i=>[]) [] zat Tryz.func137 rfl Tryz.call137 Tryz.ntmps137 (Nat.le_of_ble_eq_true rfl) Tryz.results137 ?_;simp(maxSteps:=4000000) only[ZE,↓reduceIte,pE,pL,pA,pS,pM,pD,zN,qT,qG,qL,qH,qN,qB,qE,qO,qA,qM,List.length_map];refine zgR (fun _ _=>[]) zat fs.length (fun i (L:List Place)=>L.Nodup/\ ∀p,p∈L↔p∈(fs.take i).flatMap zey) (fun i L=>([(3,.mo 7),(8,.d (.sl (fs.map fun f=>[zdl f]))),(9,.d (eI fs.length)),(10,.d (eI i))],[(7,setO L)])) [] ?_ ?_ ?_ (fun i L hi hI=> ?_)
 ·simp
 ·simp only[ZE,↓reduceIte,pE,pL,pA,pS,pM,pD]
 ·simp only[ZE,↓reduceIte,pE,pL,pA,pS,pM,pD,setO,tQ,List.map_nil,List.length_nil,List.range_zero]
 obtain⟨hnd,hmem⟩:=hI;rcases Nat.lt_or_ge i fs.length with h | h
 ·have hw:=zaq (show i<9223372036854775807 by omega);obtain⟨f,hf⟩:=zX (fs[i]);have hel:(ent f).length =(zey f).length :=by unfold zey; rw[List.length_map]
  simp(maxSteps:=4000000) only[ZE,↓reduceIte,pE,pL,pA,pS,pM,pD,zaw h,zai h,zaa h,hf,zN,qT,qG,qL,qH,qN,qB,qE,qO,qA,qM,zdl,setO,qK_keys,hel];refine zgR (fun _ _=>[]) zat (zey f).length (fun k (js:List Nat)=>js.length=k/\js.Nodup/\ ∀j∈js,j<(zey f).length)
   (fun k js=>([(3,.mo 7),(8,.d (.sl (fs.map fun f=>[zdl f]))),(9,.d (eI fs.length)),(10,.d (eI i)),(15,.mo 15)],[(7,setO (zpX L (zu5 (zey f) js))),(15,.it ((zey f).map zcM) (qV eM (ent f)) (List.range (zey f).length) (zey f).length js)])) [] ?_ ?_ ?_ (fun k js hk hI=> ?_)
  ·simp
  ·simp only[ZE,↓reduceIte,pE,pL,pA,pS,pM,pD,zdl,qK_keys]
  ·simp only[ZE,↓reduceIte,pE,pL,pA,pS,pM,pD,setO,zu5,zpX,List.map_nil,List.foldl_nil]
  obtain⟨h1,h2,h3⟩:=hI;simp(maxSteps:=4000000) only[ZE,↓reduceIte,pE,pL,pA,pS,pM,pD,setO];refine⟨by simp only[ZE,↓reduceIte,pE,pL,pA,pS,pM,pD],fun j hj hjs=> ?_,fun hall=> ?_⟩
  ·have hj':j<(zey f).length :=by simpa using hj
   obtain⟨p,hp⟩:=zX ((zey f)[j]);have hD:(zey f).getD j default=p:=by simp[List.getD,hj',hp]
   have hkj:((zey f).map zcM).getD j default=D.agg [.lit (.string p.module.1),.lit (.int .i64 p.part.kind.1),.lit (.string p.part.name.1)]:=by
    simp[List.getD,hj',hp,zcM,zaE,eI,eS]
   have hlen:k<(zey f).length :=by
    have:=zdr (zey f).length (j::js) (List.nodup_cons.2 ⟨hjs,h2⟩) (fun a ha=>by
     rcases List.mem_cons.1 ha with rfl | ha
     ·exact hj'
     ·exact h3 a ha)
    simp at this; omega
   have hnew:(js++[j]).Nodup /\ ∀a∈js++[j],a<(zey f).length :=by
    refine⟨List.nodup_append.2 ⟨h2,by simp,fun a ha b hb e=> ?_⟩,fun a ha=> ?_⟩
    ·simp at hb; subst hb; subst e; exact hjs ha
    ·rcases List.mem_append.1 ha with ha | ha
     ·exact h3 a ha
     ·simp at ha; subst ha; exact hj'
   have hpick:addQ (zpX L (zu5 (zey f) js)) p=zpX L (zu5 (zey f) (js++[j])):=by
    rw[<-addsQ_snoc];unfold zu5;rw[List.map_append,List.map_cons,List.map_nil,hD]
   have hput:=zkl (put_set (zpX L (zu5 (zey f) js)) p);rw[hpick]at hput;have hk:=ztc p;simp(maxSteps:=4000000) only[ZE,↓reduceIte,pE,pL,pA,pS,pM,pD,zcM,zaE]at hput;simp(maxSteps:=4000000) only[ZE,↓reduceIte,pE,pL,pA,pS,pM,pD,hkj,List.getLast?_append,List.getLast?_singleton,Option.some_or,zpi,hk,hput,setO];refine⟨fun y hy=>setK_ok _ y hy,?_⟩;simp only[zep];refine⟨hlen,js++[j],⟨by simp[h1],hnew⟩,?_⟩;simp only[ZE,↓reduceIte,pE,pL,pA,pS,pM,pD,setO]
  ·have hall': ∀j,j<(zey f).length ->j∈js:=fun j hj=>hall j (by simpa using hj);obtain⟨g1,g2⟩:=addsQ_law (zu5 (zey f) js) L hnd;simp(maxSteps:=4000000) only[ZE,↓reduceIte,pE,pL,pA,pS,pM,pD,zN,qT,qG,qL,qH,qN,qB,qE,qO,qA,qM,hw];simp only[zep];refine⟨h,zpX L (zu5 (zey f) js),⟨g1,fun p=> ?_⟩,?_⟩
   ·rw[g2,hmem,pickF_mem h3 hall',List.take_succ_eq_append_getElem h,List.flatMap_append,List.mem_append,hf];simp
   ·simp only[ZE,↓reduceIte,pE,pL,pA,pS,pM,pD,setO,zdl,qK_keys]
 ·have:i=fs.length:=by omega
  subst this;rw[List.take_length]at hmem;have hLl:L.length<=4000000:=Nat.le_trans (zgA hnd fun p hp=>(hmem p).1 hp) hl;have kc:=keysQ_c L (tQ L) (List.range L.length) L.length;have so:=sortedQ_o L hnd (tQ L) (List.range L.length) L.length hLl;have hset:setS ltQ L=zoQ fs:=zxI zlZ (zjG zlZ L) (zn1 fs) fun p=>by
   unfold zoQ;rw[zgy zlZ,zgy zlZ,hmem]
  rw[hset]at so;simp(maxSteps:=4000000) only[ZE,↓reduceIte,pE,pL,pA,pS,pM,pD,zaI h,zN,qT,qG,qL,qH,qN,qB,qE,qO,qA,qM,setO];refine EFn.p ?_;simp(maxSteps:=4000000) only[ZE,↓reduceIte,pE,pL,pA,pS,pM,pD];refine zar.i kc ?_;simp(maxSteps:=4000000) only[ZE,↓reduceIte,pE,pL,pA,pS,pM,pD];refine EFn.g ⟨[(90,90)],[.d (.clo (.func 235) [] [.ptr [.mp (L.map zcM) (tQ L) (List.range L.length) L.length]]),.d (.clo (.func 180) [] [])],_,_,so,?_⟩;simp(maxSteps:=4000000) only[ZE,↓reduceIte,pE,pL,pA,pS,pM,pD];rintro V ol new ⟨rfl,rfl,rfl⟩;simp(maxSteps:=4000000) only[ZE,↓reduceIte,pE,pL,pA,pS,pM,pD];refine⟨[],[90],?_⟩;simp(maxSteps:=4000000) only[ZE,↓reduceIte,pE,pL,pA,pS,pM,pD]
theorem allp_c(fs:List (List Module))(hl:(fs.flatMap zey).length <=4000000)(hn:fs.length<=1000):FnP Tryz.prog 137 [.sl (fs.map fun f=>[zdl f])] (.d (.sl ((zoQ fs).map zaE))) []:=by
 have h:=allp_o fs hl hn;rw[<-List.length_map (f:=zaE)]at h;exact FnP.of_arr h
/-! ### Opened -/
def openR(fs:List (List Module)):AV:=if fs.all ze8=true then .tup [.d (.sl (fs.map fun f=>[zdl f])),.d (eI 0)]else .tup [.d (.sl []),.d (eI 1)]
theorem rowsOk_cont(fs:List (List Module)):zcY 1 (fs.map fun f=>[zdl f]):=fun y hy=>by
 obtain⟨f,_,rfl⟩:=List.mem_map.1 hy;exact⟨rfl,fun x hx=>by simp only[List.mem_singleton]at hx; subst hx; simp[zdl,D.one]⟩
structure Sz (f:List Module):Prop where
 len:f.length<=4000000
 items: ∀m∈f,m.items.length<=4000000
theorem zrN(fs:List (List Module))(hs: ∀f∈fs,Sz f)(hn:fs.length<=1000):FnP Tryz.prog 135 [.sl (fs.map fun f=>[zax f])] (openR fs) []:=by
 refine FnP.of_eC (own:=[]) (fun i=>if i=2 then [.adT 4 100 211 1]else []) zat Tryz.func135 rfl Tryz.call135 Tryz.ntmps135 (Nat.le_of_ble_eq_true rfl) Tryz.results135 (fun hok=> ?_);simp(maxSteps:=4000000) only[ZE,↓reduceIte,pE,pL,pA,pS,pM,pD,zN,qT,qG,qL,qH,qN,qB,qE,qO,qA,qM,List.length_map];refine za1 (fun i=>[]) zat fs.length (fun i=>(fs.take i).all ze8=true) (fun i=>([(4,.ar 100 i),(7,.d (.sl (fs.map fun f=>[zax f]))),(8,.d (eI fs.length)),(9,.d (eI i))],[(100,.arr 211 1 .flat ((fs.take i).map fun f=>[zdl f]))])) (by simp) ?_ ?_ (fun i hi hI=> ?_)
 ·simp only[ZE,↓reduceIte,pE,pL,pA,pS,pM,pD]
 ·simp only[ZE,↓reduceIte,pE,pL,pA,pS,pM,pD,List.take_zero,List.map_nil]
 rcases Nat.lt_or_ge i fs.length with h | h
 ·have hw:=zaq (show i<9223372036854775807 by omega);obtain⟨f,hf⟩:=zX (fs[i]);have hfm:f∈fs:=hf▸List.getElem_mem h;have pc:=zii f (hs f hfm).len (hs f hfm).items;cases hb:ze8 f with
  | false=>
   have hall:fs.all ze8=false:=by
    rw[List.all_eq_false];exact⟨f,hfm,by simp[hb]⟩
   rw[hb]at pc;simp(maxSteps:=4000000) only[ZE,↓reduceIte,pE,pL,pA,pS,pM,pD,zaw h,zai h,zaa h,hf,zN,qT,qG,qL,qH,qN,qB,qE,qO,qA,qM];refine EFn.p ?_;simp(maxSteps:=4000000) only[ZE,↓reduceIte,pE,pL,pA,pS,pM,pD];refine zar.i pc ?_;simp(maxSteps:=4000000) only[ZE,↓reduceIte,pE,pL,pA,pS,pM,pD,openR,hall,Bool.false_eq_true]
  | true=>
   rw[hb]at pc;have cc:=contentsOf_c f ((zbU f).1 hb);have hr:=rowsOk_cont [f];have hlt:(fs.take i).length =i:=by rw[List.length_take]; omega
   rw[List.take_succ_eq_append_getElem h,hf,List.map_append,List.all_append];simp only[List.map_cons,List.map_nil]at hr;simp(maxSteps:=4000000) only[ZE,↓reduceIte,pE,pL,pA,pS,pM,pD,zdl]at hr;simp(maxSteps:=4000000) only[ZE,↓reduceIte,pE,pL,pA,pS,pM,pD,zaw h,zai h,zaa h,hf,zN,qT,qG,qL,qH,qN,qB,qE,qO,qA,qM,List.map_cons,List.map_nil];refine EFn.p ?_;simp(maxSteps:=4000000) only[ZE,↓reduceIte,pE,pL,pA,pS,pM,pD];refine zar.i pc ?_;simp(maxSteps:=4000000) only[ZE,↓reduceIte,pE,pL,pA,pS,pM,pD];refine EFn.p ?_;simp(maxSteps:=4000000) only[ZE,↓reduceIte,pE,pL,pA,pS,pM,pD];refine zar.i cc ?_;simp(maxSteps:=4000000) only[ZE,↓reduceIte,pE,pL,pA,pS,pM,pD,zdl,hw,zN,qT,qG,qL,qH,qN,qB,qE,qO,qA,qM,List.length_map,hlt];exact⟨⟨by omega,by omega⟩,h,by rw[hI]; simp[hb]⟩
 ·have:i=fs.length:=by omega
  subst this;rw[List.take_length]at hI;simp(maxSteps:=4000000) only[ZE,↓reduceIte,pE,pL,pA,pS,pM,pD,zaI h,zN,qT,qG,qL,qH,qN,qB,qE,qO,qA,qM,openR,hI,List.take_length,List.length_map]
def eC3(b x y:List Module):D:=.sl [[zdl b],[zdl x],[zdl y]]
theorem side_c(b x y:List Module)(hb:Parted b)(hx:Parted x)(hy:Parted y)(p:Place):FnP Tryz.prog 147 [eC3 b x y,.agg (zaE p)] (.d (eI (zfo (zbc b) (zbc x) (zbc y) p:Nat))) []:=by
 refine FnP.of_eC (own:=[]) (fun i=>[]) zat Tryz.func147 rfl Tryz.call147 Tryz.ntmps147 (Nat.le_of_ble_eq_true rfl) Tryz.results147 (fun hok=> ?_);have c1:=zwT b x hb hx p;have c2:=zwT b y hb hy p;have c3:=zwT x y hx hy p;obtain⟨d1,h1⟩: ∃d,decide (zbc b p=zbc x p)=d:=⟨_,rfl⟩;obtain⟨d2,h2⟩: ∃d,decide (zbc b p=zbc y p)=d:=⟨_,rfl⟩;obtain⟨d3,h3⟩: ∃d,decide (zbc x p=zbc y p)=d:=⟨_,rfl⟩;have hs:zfo (zbc b) (zbc x) (zbc y) p=if d1=true then(if d2=true then 0 else 2)else if d2=true then 1 else if d3=true then 3 else 4:=by
  rw[<-h1,<-h2,<-h3];simp only[decide_eq_true_eq];rfl
 rw[hs];rw[h1]at c1;rw[h2]at c2;rw[h3]at c3;obtain⟨B,hB⟩:=zX (zdl b);obtain⟨X,hX⟩:=zX (zdl x);obtain⟨Y,hY⟩:=zX (zdl y);rw[hB,hX]at c1;rw[hB,hY]at c2;rw[hX,hY]at c3;unfold eC3;rw[hB,hX,hY];simp(maxSteps:=4000000) only[ZE,↓reduceIte,pE,pL,pA,pS,pM,pD,zaE]at c1 c2 c3;have w1:IntKind.i64.wrap 1=1:=by decide
 have w2:IntKind.i64.wrap 2=2:=by decide
 have w3:IntKind.i64.wrap 3=3:=by decide
 cases d1 <;> cases d2
 ·cases d3
  all_goals {
   simp(maxSteps:=4000000) only[ZE,↓reduceIte,pE,pL,pA,pS,pM,pD,zN,qT,qG,qL,qH,qN,qB,qE,qO,qA,qM,zaE];refine⟨by kernel_rfl,zaz.i c1 ?_⟩;simp(maxSteps:=4000000) only[ZE,↓reduceIte,pE,pL,pA,pS,pM,pD,zN,qT,qG,qL,qH,qN,qB,qE,qO,qA,qM,w1];refine⟨by kernel_rfl,zaz.i c2 ?_⟩;simp(maxSteps:=4000000) only[ZE,↓reduceIte,pE,pL,pA,pS,pM,pD,zN,qT,qG,qL,qH,qN,qB,qE,qO,qA,qM,w1,w2,w3];refine⟨by kernel_rfl,zaz.i c3 ?_⟩;simp(maxSteps:=4000000) only[ZE,↓reduceIte,pE,pL,pA,pS,pM,pD,zN,qT,qG,qL,qH,qN,qB,qE,qO,qA,qM]
  }
 all_goals {
  simp(maxSteps:=4000000) only[ZE,↓reduceIte,pE,pL,pA,pS,pM,pD,zN,qT,qG,qL,qH,qN,qB,qE,qO,qA,qM,zaE];refine⟨by kernel_rfl,zaz.i c1 ?_⟩;simp(maxSteps:=4000000) only[ZE,↓reduceIte,pE,pL,pA,pS,pM,pD,zN,qT,qG,qL,qH,qN,qB,qE,qO,qA,qM,w1];refine⟨by kernel_rfl,zaz.i c2 ?_⟩;simp(maxSteps:=4000000) only[ZE,↓reduceIte,pE,pL,pA,pS,pM,pD,zN,qT,qG,qL,qH,qN,qB,qE,qO,qA,qM,w1,w2,w3];kernel_rfl}
def zsf(r:Option Module):D:=(r.map eM).getD (.agg (zaC zdP))
/-- Four cells. -/
def Row4(x:D):Prop:= ∃a n q i:D,x= .agg [a,n,q,i]/\a.one/\n.one/\q.one/\i.one
theorem zpA{l:List Module}{p:Place}{r:Option Module}(hr:zbc l p=r):Row4 (zsf r):=by
 cases r with
 | none=>exact⟨_,_,_,_,rfl,rfl,rfl,trivial,trivial⟩
 | some m=>
  obtain⟨a,n,q,i,e,ho,_⟩:=cM_row (zss hr);exact⟨a,n,q,i,by show eM m=_; unfold eM; rw[e],ho⟩
theorem merged_c(b x y:List Module)(hb:Parted b)(hx:Parted x)(hy:Parted y)(p:Place):FnP Tryz.prog 142 [eC3 b x y,.agg (zaE p)] (.tup [.d (zsf (zfF (zbc b) (zbc x) (zbc y) p)),.d (eB (zfF (zbc b) (zbc x) (zbc y) p).isSome)]) []:=by
 refine FnP.of_eC (own:=[]) (fun i=>[]) zat Tryz.func142 rfl Tryz.call142 Tryz.ntmps142 (Nat.le_of_ble_eq_true rfl) Tryz.results142 (fun hok=> ?_);have sc:=side_c b x y hb hx hy p;have hk:=ztc p;have key: ∀l,Parted l-> ∃s,zjZ (qK (ent l)) (qV eM (ent l)) (zcM p)=s/\s.isSome=(zbc l p).isSome /\s.getD (.agg (zaC zdP))=zsf (zbc l p):=fun l hl=>by
  refine⟨_,rfl,?_,?_⟩
  ·rw[zpq hl p]; cases zbc l p <;> rfl
  ·rw[zpq hl p]; rfl
 obtain⟨n,hn⟩:=zX (zfo (zbc b) (zbc x) (zbc y) p);rw[hn]at sc;by_cases h2:n=2
 ·have hm:zfF (zbc b) (zbc x) (zbc y) p=zbc y p:=by unfold zfF; rw[if_pos (hn.trans h2)]
  have h0:((n:Int)==2)=true:=by rw[h2]; rfl
  obtain⟨s,e1,e2,e3⟩:=key y hy;obtain⟨a,nn,q,i,e4,o1,o2,o3,o4⟩:=zpA (l:=y) (p:=p) rfl;rw[e4]at e3;rw[hm,e4,<-e2];simp(maxSteps:=4000000) only[ZE,↓reduceIte,pE,pL,pA,pS,pM,pD,eC3,zaE,zdl]at sc;simp(maxSteps:=4000000) only[ZE,↓reduceIte,pE,pL,pA,pS,pM,pD,zcM,zaE]at e1;simp(maxSteps:=4000000) only[ZE,↓reduceIte,pE,pL,pA,pS,pM,pD,zdP,emp,List.map_nil]at e3;simp(maxSteps:=4000000) only[ZE,↓reduceIte,pE,pL,pA,pS,pM,pD,zN,qT,qG,qL,qH,qN,qB,qE,qO,qA,qM,zaE,eC3,zdl];refine EFn.p ?_;simp(maxSteps:=4000000) only[ZE,↓reduceIte,pE,pL,pA,pS,pM,pD];refine zar.i sc ?_;simp(maxSteps:=4000000) only[ZE,↓reduceIte,pE,pL,pA,pS,pM,pD,zN,qT,qG,qL,qH,qN,qB,qE,qO,qA,qM,h0,zpi,hk,e1,e3];exact⟨fun z hz=>zrw _ z hz,o1,o2,o3,o4⟩
 ·have hm:zfF (zbc b) (zbc x) (zbc y) p=zbc x p:=by unfold zfF; rw[if_neg (fun h=>h2 (hn.symm.trans h))]
  have h0:((n:Int)==2)=false:=by
   rw[beq_eq_false_iff_ne]; omega
  obtain⟨s,e1,e2,e3⟩:=key x hx;obtain⟨a,nn,q,i,e4,o1,o2,o3,o4⟩:=zpA (l:=x) (p:=p) rfl;rw[e4]at e3;rw[hm,e4,<-e2];simp(maxSteps:=4000000) only[ZE,↓reduceIte,pE,pL,pA,pS,pM,pD,eC3,zaE,zdl]at sc;simp(maxSteps:=4000000) only[ZE,↓reduceIte,pE,pL,pA,pS,pM,pD,zcM,zaE]at e1;simp(maxSteps:=4000000) only[ZE,↓reduceIte,pE,pL,pA,pS,pM,pD,zdP,emp,List.map_nil]at e3;simp(maxSteps:=4000000) only[ZE,↓reduceIte,pE,pL,pA,pS,pM,pD,zN,qT,qG,qL,qH,qN,qB,qE,qO,qA,qM,zaE,eC3,zdl];refine EFn.p ?_;simp(maxSteps:=4000000) only[ZE,↓reduceIte,pE,pL,pA,pS,pM,pD];refine zar.i sc ?_;simp(maxSteps:=4000000) only[ZE,↓reduceIte,pE,pL,pA,pS,pM,pD,zN,qT,qG,qL,qH,qN,qB,qE,qO,qA,qM,h0,zpi,hk,e1,e3];exact⟨fun z hz=>zrw _ z hz,o1,o2,o3,o4⟩
/-! ### Neighbours that are equal,once -/
def zuQ(acc:List Place)(x:Place):List Place:=if acc.getLast?=some x then acc else acc++[x]
def dd(l:List Place):List Place:=l.foldl zuQ []
theorem zwM(l:List Place)(x:Place):dd (l++[x])=zuQ (dd l) x:=by unfold dd; rw[List.foldl_append]; rfl
theorem dd_last(l:List Place)(x:Place):(dd (l++[x])).getLast? =some x:=by
 rw[zwM];unfold zuQ;split
 ·assumption
 ·simp
theorem dd_take{l:List Place}{k:Nat}(h:k+1<l.length):dd (l.take (k+2))=if l[k+1]=l[k]then dd (l.take (k+1))else dd (l.take (k+1))++[l[k+1]]:=by
 rw[List.take_succ_eq_append_getElem h,zwM];have hl:(dd (l.take (k+1))).getLast? =some l[k]:=by
  rw[List.take_succ_eq_append_getElem (show k<l.length by omega)];exact dd_last _ _
 unfold zuQ;rw[hl];by_cases e:l[k+1]=l[k]
 ·rw[if_pos e,if_pos (by rw[e])]
 ·rw[if_neg e,if_neg (fun h=>e (Option.some.inj h).symm)]
theorem dd_len(l:List Place):(dd l).length <=l.length:=by
 have key: ∀n,n<=l.length->(dd (l.take n)).length <=n:=by
  intro n
  induction n with
  | zero=>intro _; simp[dd]
  | succ n ih=>
   intro h;have:=ih (by omega);rw[List.take_succ_eq_append_getElem (by omega),zwM];unfold zuQ;split
   ·omega
   ·rw[List.length_append]; simp only[List.length_cons,List.length_nil]; omega
 have:=key l.length (Nat.le_refl _);rwa [List.take_length]at this
theorem dd_mem(l:List Place)(p:Place):p∈dd l↔p∈l:=by
 have key: ∀(l acc:List Place),p∈l.foldl zuQ acc↔p∈acc\/p∈l:=by
  intro l
  induction l with
  | nil=>intro acc; simp
  | cons x l ih=>
   intro acc;rw[List.foldl_cons,ih,List.mem_cons];unfold zuQ;split
   ·rename_i h;have:=List.mem_of_getLast? h;constructor
    ·rintro(h | h)
     ·exact .inl h
     ·exact .inr (.inr h)
    ·rintro(h | rfl | h)
     ·exact .inl h
     ·exact .inl this
     ·exact .inr h
   ·rw[List.mem_append,List.mem_singleton,or_assoc]
 unfold dd;rw[key];simp
/-- Of a sorted list it is a strictly sorted one. -/
theorem dd_srt{l:List Place}(h:l.Pairwise fun x y=> ¬cmpQ y x<0):Srt ltQ id (dd l):=by
 have key: ∀n,n<=l.length->Srt ltQ id (dd (l.take n)):=by
  intro n
  induction n with
  | zero=>intro _; exact List.Pairwise.nil
  | succ n ih=>
   intro hn;have h1:=ih (by omega);rw[List.take_succ_eq_append_getElem (by omega),zwM];unfold zuQ;split
   ·exact h1
   ·rename_i hne;unfold Srt;rw[List.pairwise_append];refine⟨h1,List.pairwise_singleton _ _,fun a ha b hb=> ?_⟩;simp only[List.mem_singleton]at hb;subst hb;have ha':=(dd_mem _ _).1 ha;rw[List.mem_take_iff_getElem]at ha';obtain⟨j,hj,rfl⟩:=ha';have h2:=(List.pairwise_iff_getElem.1 h) j n (by omega) (by omega) (by omega);rw[zwG]at h2;have h2':ltQ l[n] l[j]=false:=(by simpa using h2);show ltQ l[j] l[n]=true;cases hlt:ltQ l[j] l[n]with
    | true=>rfl
    | false=>
     have e:=zlZ.conn _ _ hlt h2';exfalso
     -- then l[j] = l[n] is the last one
     have hn0:0<n:=(by omega);obtain⟨m,rfl⟩: ∃m,n=m+1:=⟨n-1,by omega⟩;have hl:(dd (l.take (m+1))).getLast? =some l[m]:=by
      rw[List.take_succ_eq_append_getElem (show m<l.length by omega)];exact dd_last _ _
     have hm:l[m]=l[m+1]:=by
      by_cases hjm:j=m
      ·subst hjm; exact e
      ·have h3:=(List.pairwise_iff_getElem.1 h) j m (by omega) (by omega) (by omega);have h4:=(List.pairwise_iff_getElem.1 h) m (m+1) (by omega) (by omega) (by omega);rw[zwG]at h3 h4;rw[e]at h3;have h3':ltQ l[m] l[m+1]=false:=(by simpa using h3);have h4':ltQ l[m+1] l[m]=false:=(by simpa using h4);exact zlZ.conn _ _ h3' h4'
     exact hne (by rw[hl,hm])
 have:=key l.length (Nat.le_refl _);rwa [List.take_length]at this
theorem dd_set{l:List Place}(h:l.Pairwise fun x y=> ¬cmpQ y x<0):dd l=setS ltQ l:=setS_eq zlZ (dd_srt h) fun k=>dd_mem l k
theorem zhN(p q:Place):(decide (p.module=q.module)&&(p.part.kind.val==q.part.kind.val&&decide (p.part.name=q.part.name)))=decide (p=q):=by
 rw[Bool.eq_iff_iff];simp only[Bool.and_eq_true,decide_eq_true_eq,beq_iff_eq];obtain⟨m,⟨⟨k,hk⟩,n⟩⟩:=p;obtain⟨m',⟨⟨k',hk'⟩,n'⟩⟩:=q;simp only[Place.mk.injEq,Part.mk.injEq,Subtype.mk.injEq]
theorem compactQ_c(l:List Place)(hl:l.length<=4000000):FnL Tryz.prog 183 [.ar 0 l.length] [(0,.arr 166 3 .flat (l.map zaE))] (fun V ol new=>V= .d (.sl ((dd l).map zaE))/\ol=[]/\new=[]):=by
 refine FnL.of_eC (own:=[]) (fun i=>[]) [] zat Tryz.func183 rfl Tryz.call183 Tryz.ntmps183 (Nat.le_of_ble_eq_true rfl) Tryz.results183 ?_;rcases Nat.lt_or_ge l.length 2 with h2 | h2
 ·have d2:decide ((l.length:Int)<2)=true:=decide_eq_true (by omega);have e:dd l=l:=by
   match l,h2 with
   | [],_=>rfl
   | [a],_=>simp[dd,zuQ]
   | a::b::r,h=>simp only[List.length_cons]at h; omega
  rw[e];simp(maxSteps:=4000000) only[ZE,↓reduceIte,pE,pL,pA,pS,pM,pD,zN,qT,qG,qL,qH,qN,qB,qE,qO,qA,qM,List.length_map,d2];refine⟨[0],[],?_⟩;simp(maxSteps:=4000000) only[ZE,↓reduceIte,pE,pL,pA,pS,pM,pD]
 ·have d2:decide ((l.length:Int)<2)=false:=decide_eq_false (by omega);simp(maxSteps:=4000000) only[ZE,↓reduceIte,pE,pL,pA,pS,pM,pD,zN,qT,qG,qL,qH,qN,qB,qE,qO,qA,qM,List.length_map,d2];refine za1 (fun _=>[]) zat (l.length-1) (fun i=>dd (l.take (i+1))=l.take (i+1)) (fun i=>([(0,.ar 0 l.length),(3,.d (eI ((i+1:Nat):Int)))],[(0,.arr 166 3 .flat (l.map zaE))])) ?_ ?_ ?_ (fun i hi hI=> ?_)
  ·rw[List.take_succ_eq_append_getElem (show 0<l.length by omega)];simp[dd,zuQ]
  ·simp(maxSteps:=4000000) only[ZE,↓reduceIte,pE,pL,pA,pS,pM,pD]
  ·simp(maxSteps:=4000000) only[ZE,↓reduceIte,pE,pL,pA,pS,pM,pD]
  rcases Nat.lt_or_ge i (l.length-1)with h | h
  ·have hk1:i+1<l.length:=by omega
   have hk0:i<l.length:=by omega
   have hw1:IntKind.i64.wrap (((i+1:Nat):Int)-1)=(i:Int):=by rw[show((i+1:Nat):Int)-1=(i:Int) by omega]; exact zaQ (by omega) (by omega)
   have hw2:IntKind.i64.wrap (((i+1:Nat):Int)+1)=((i+1+1:Nat):Int):=zaq (by omega);obtain⟨p,hp⟩:=zX (l[i+1]);obtain⟨q,hq⟩:=zX (l[i]);have ht:=dd_take hk1;rw[hp,hq,hI]at ht;by_cases e:p=q
   ·rw[if_pos e]at ht;have hpq:=zhN p q;rw[decide_eq_true e]at hpq;have hc1:(0<=((i+1:Nat):Int)):=(by omega);simp(maxSteps:=4000000) only[ZE,↓reduceIte,pE,pL,pA,pS,pM,pD,zN,qT,qG,qL,qH,qN,qB,qE,qO,qA,qM,List.length_map,zaw hk1,zai hk1,zaa hk1,zai hk0,zaa hk0,hp,hq,hw1,zaE,hpq,Int.toNat_natCast];refine⟨by kernel_rfl,hk1,hk0,⟨by omega,by omega,by omega,by omega⟩,?_⟩;refine zgR (X:=List Place) (fun _ _=>[]) zat (l.length-(i+1)-1) (fun j (A:List Place)=>A.length=l.length/\A.take (dd (l.take (i+1+j+1))).length =dd (l.take (i+1+j+1))/\(dd (l.take (i+1+j+1))).length <=i+1+j/\ ∀r,i+1+j<=r->A[r]? =l[r]?)
     (fun j A=>([(0,.ar 0 l.length),(3,.d (eI ((dd (l.take (i+1+j+1))).length :Nat))),(4,.sub 0 l.length (i+1) l.length),(5,.d (eI ((j+1:Nat):Int)))],[(0,.arr 166 3 .flat (A.map zaE))])) l ?_ ?_ ?_ (fun j A hj hJ=> ?_)
    ·have e2:(dd (l.take (i+1+0+1))).length =i+1:=by
      rw[show i+1+0+1=i+2 from rfl,ht,List.length_take,Nat.min_eq_left (by omega)]
     refine⟨rfl,?_,by omega,fun _ _=>rfl⟩;rw[e2,show i+1+0+1=i+2 from rfl,ht]
    ·rw[show i+1+0+1=i+2 from rfl,ht,List.length_take,Nat.min_eq_left (by omega)];simp(maxSteps:=4000000) only[ZE,↓reduceIte,pE,pL,pA,pS,pM,pD,Int.natCast_zero,Nat.zero_add]
    ·simp(maxSteps:=4000000) only[ZE,↓reduceIte,pE,pL,pA,pS,pM,pD]
    obtain⟨hA1,hA2,hK1,hA3⟩:=hJ;rcases Nat.lt_or_ge j (l.length-(i+1)-1)with hjl | hjl
    ·have hr1:i+1+(j+1)<l.length:=(by omega);have hr0:i+1+j<l.length:=(by omega);have hlt:decide (((j+1:Nat):Int)<((l.length-(i+1):Nat):Int))=true:=decide_eq_true (by omega);have hw3:IntKind.i64.wrap (((j+1:Nat):Int)-1)=(j:Int):=(by rw[show((j+1:Nat):Int)-1=(j:Int) by omega]; exact zaQ (by omega) (by omega));have hw4:IntKind.i64.wrap (((j+1:Nat):Int)+1)=((j+1+1:Nat):Int):=zaq (by omega);obtain⟨p1,hp1⟩:=zX (l[i+1+(j+1)]);obtain⟨p0,hp0⟩:=zX (l[i+1+j]);have hB1:i+1+(j+1)<A.length:=(by omega);have hB0:i+1+j<A.length:=(by omega);have hq1:A[i+1+(j+1)]=p1:=by
      have:=hA3 (i+1+(j+1)) (by omega);rw[List.getElem?_eq_getElem hB1,List.getElem?_eq_getElem hr1,hp1]at this;exact Option.some.inj this
     have hq0:A[i+1+j]=p0:=by
      have:=hA3 (i+1+j) (Nat.le_refl _);rw[List.getElem?_eq_getElem hB0,List.getElem?_eq_getElem hr0,hp0]at this;exact Option.some.inj this
     have ht1:dd (l.take (i+1+(j+1)+1))=if p1=p0 then dd (l.take (i+1+j+1))else dd (l.take (i+1+j+1))++[p1]:=by
      have:=dd_take (l:=l) (k:=i+1+j) (by omega);rw[show i+1+j+2=i+1+(j+1)+1 by omega]at this;rw[this,<-hp1,<-hp0];rfl
     have hKle:=dd_len (l.take (i+1+j+1));rw[List.length_take,Nat.min_eq_left (by omega)]at hKle;obtain⟨K,hK⟩:=zX (dd (l.take (i+1+j+1)));rw[hK]at hA2 hKle hK1 ht1;have hpq1:=zhN p1 p0;by_cases e1:p1=p0
     ·rw[if_pos e1]at ht1;rw[decide_eq_true e1]at hpq1;simp(maxSteps:=4000000) only[ZE,↓reduceIte,pE,pL,pA,pS,pM,pD,zN,qT,qG,qL,qH,qN,qB,qE,qO,qA,qM,List.length_map,hlt,hA1,zai hB1,zaa hB1,zai hB0,zaa hB0,hq1,hq0,hw3,hw4,hK,zaE,hpq1,Int.toNat_natCast];refine⟨by kernel_rfl,⟨⟨by omega,by omega⟩,Nat.le_refl _⟩,hr1,⟨⟨by omega,by omega⟩,Nat.le_refl _⟩,hr0,?_⟩;simp only[zep];refine⟨hjl,A,⟨hA1,by rw[ht1]; exact hA2,by rw[ht1]; omega,fun r hr=>hA3 r (by omega)⟩,?_⟩;rw[ht1];simp(maxSteps:=4000000) only[ZE,↓reduceIte,pE,pL,pA,pS,pM,pD]
     ·rw[if_neg e1]at ht1;rw[decide_eq_false e1]at hpq1;have hKA:K.length<A.length:=(by omega);have hKl:K.length<l.length:=(by omega);have hw5:IntKind.i64.wrap ((K.length:Int)+1)=((K.length+1:Nat):Int):=zaq (by omega);have hset:(A.map zaE).set K.length (zaE p1)=(A.set K.length p1).map zaE:=(by rw[List.map_set]);simp only[ZE,↓reduceIte,pE,pL,pA,pS,pM,pD,zaE]at hset;have hlen2:(K++[p1]).length =K.length+1:=(by simp);simp(maxSteps:=4000000) only[ZE,↓reduceIte,pE,pL,pA,pS,pM,pD,zN,qT,qG,qL,qH,qN,qB,qE,qO,qA,qM,List.length_map,hlt,hA1,zai hB1,zaa hB1,zai hB0,zaa hB0,hq1,hq0,hw3,hw4,hK,zaE,hpq1,Int.toNat_natCast,zai hKl,hw5,zaa hKA,hset,Nat.zero_add];refine⟨by kernel_rfl,⟨⟨by omega,by omega⟩,Nat.le_refl _⟩,hr1,⟨⟨by omega,by omega⟩,Nat.le_refl _⟩,hr0,⟨⟨by omega,by omega⟩,Nat.le_refl _⟩,hr1,hKl,?_⟩;simp only[zep];refine⟨hjl,A.set K.length p1,⟨by rw[List.length_set]; exact hA1,?_,by rw[ht1,hlen2]; omega,fun r hr=> ?_⟩,?_⟩
      ·rw[ht1,hlen2,List.set_eq_take_append_cons_drop,if_pos hKA,hA2];rw[show K++p1::List.drop (K.length+1) A=(K++[p1])++List.drop (K.length+1) A by simp];exact List.take_left' hlen2
      ·rw[List.getElem?_set_ne (by omega)];exact hA3 r (by omega)
      ·rw[ht1,hlen2];simp(maxSteps:=4000000) only[ZE,↓reduceIte,pE,pL,pA,pS,pM,pD]
    ·have hj2:i+1+j+1=l.length:=(by omega);rw[hj2,List.take_length]at hA2 hK1;have hlt:decide (((j+1:Nat):Int)<((l.length-(i+1):Nat):Int))=false:=decide_eq_false (by omega);rw[hj2,List.take_length];obtain⟨K,hK⟩:=zX (dd l);rw[hK]at hA2 hK1 ⊢;simp(maxSteps:=4000000) only[ZE,↓reduceIte,pE,pL,pA,pS,pM,pD,zN,qT,qG,qL,qH,qN,qB,qE,qO,qA,qM,List.length_map,hlt,hA1,Int.toNat_natCast];have hz:(A.map zaE).take K.length=K.map zaE:=(by rw[<-List.map_take,hA2]);have hd:(A.map zaE).drop l.length=[]:=List.drop_eq_nil_of_le (by rw[List.length_map]; omega);have hKA:K.length<=l.length:=(by omega);rw[hz,hd,List.append_nil];have hl3:(K.map zaE++List.replicate (l.length-K.length) [D.lit (Value.string ByteArray.empty),D.lit (Value.int IntKind.i64 0),D.lit (Value.string ByteArray.empty)]).length =l.length:=by
      rw[List.length_append,List.length_map,List.length_replicate]; omega
     obtain⟨R,hR⟩:=zX (K.map zaE++List.replicate (l.length-K.length) [D.lit (Value.string ByteArray.empty),D.lit (Value.int IntKind.i64 0),D.lit (Value.string ByteArray.empty)]);rw[hR]at hl3 ⊢;have hRt:R.take K.length=K.map zaE:=(by rw[<-hR]; exact List.take_left' (by rw[List.length_map]));rw[hl3];refine⟨⟨by omega,by omega,by omega,by omega⟩,⟨hKA,Nat.le_refl _⟩,⟨⟨rfl,by omega⟩,by omega,by omega⟩,?_⟩;refine⟨[0],[],?_⟩;simp(maxSteps:=4000000) only[ZE,↓reduceIte,pE,pL,pA,pS,pM,pD,hl3,List.drop_zero,Nat.sub_zero,hRt];exact⟨Nat.zero_le _,hKA⟩
   ·rw[if_neg e]at ht;have hpq:=zhN p q;rw[decide_eq_false e]at hpq;simp(maxSteps:=4000000) only[ZE,↓reduceIte,pE,pL,pA,pS,pM,pD,zN,qT,qG,qL,qH,qN,qB,qE,qO,qA,qM,List.length_map,zaw hk1,zai hk1,zaa hk1,zai hk0,zaa hk0,hp,hq,hw1,hw2,zaE,hpq,Int.toNat_natCast];refine⟨by kernel_rfl,hk1,hk0,h,?_⟩;rw[ht,List.take_succ_eq_append_getElem hk1,hp]
  ·have hi1:i+1=l.length:=by omega
   rw[hi1,List.take_length]at hI;rw[hi1];have hge:decide ((l.length:Int)<(l.length:Int))=false:=decide_eq_false (by omega);simp(maxSteps:=4000000) only[ZE,↓reduceIte,pE,pL,pA,pS,pM,pD,hge,zN,qT,qG,qL,qH,qN,qB,qE,qO,qA,qM,List.length_map];refine⟨[0],[],?_⟩;simp(maxSteps:=4000000) only[ZE,↓reduceIte,pE,pL,pA,pS,pM,pD,hI]
structure K3 where
 a:Nat
 b:Nat
 c:Nat
def K3.ok(k:K3):Prop:=k.a<256/\k.b<256/\k.c<256
def nameX:Nat->Str
 | 0=>st [120,100]
 | 1=>st [120,101]
 | 2=>st [120,102]
 | _=>st [120,103]
def nameQ:Nat->Str
 | 0=>st [113,100]
 | 1=>st [113,101]
 | 2=>st [113,102]
 | _=>st [113,103]
def clockN:Nat->Str
 | 0=>st [99,108,107]
 | 1=>st [97,117,120]
 | _=>st [115,108,111,119]
def sR1:Str:=st [114]
def sS1:Str:=st [115]
def fItem(name:Str)(n:Nat):Item:={zaU with kind:=⟨4,rfl⟩,name:=name,width:=⟨((1+n % 2:Nat):Int),emp⟩,a:=.mk 14 name zbj zbj []}
def notE(e:Expr):Expr:=.mk 2 emp zbj zbj [e]
def zoC(m:Module):List Nat:=(List.range m.items.length).filter fun i=>decide ((m.items.getD i zaU).kind.1 =4)
def chI(k:K3)(x:Item):Item:=if k.b % 6=2 then{x with init:=⟨((k.a % 2:Nat):Int),emp⟩}else if k.b % 6=3 then{x with rule:=⟨3,sS1,((k.a % 3:Nat):Int)⟩}else if k.b % 6=4 then{x with a:=notE x.a}else{x with rule:=⟨((k.a % 2:Nat):Int),emp,0⟩}
def qPart(k:K3):Part:=⟨⟨4,rfl⟩,nameQ (k.c % 4)⟩
def atQ(m:Module)(k:K3):Int:=zgM (fun x=>decide (zbg x=qPart k)) m.items
def zfM(m:Module)(k:K3):Nat:=(zoC m).getD (k.c % (zoC m).length) 0
def regM(m:Module)(k:K3):Module:=
 if k.b % 6=0/\atQ m k<0 then{m with items:=m.items++[fItem (nameQ (k.c % 4)) k.a]}
 else if k.b % 6=1/\0<=atQ m k then{m with items:=m.items.eraseIdx (atQ m k).toNat}
 else if (zoC m).length =0 then m
 else{m with items:=m.items.set (zfM m k) (chI k (m.items.getD (zfM m k) zaU))}
def zf2(k:K3)(x:Item):Item:=if x.kind.1=8 then{x with b:=notE x.b}else if x.kind.1=3 then{x with depth:=⟨((1+k.c % 8:Nat):Int),emp⟩}else x
def zu1(m:Module)(k:K3):Module:=
 if k.a % 8=5 then{m with clock:=clockN (k.c % 3)}
 else if k.a % 8=4 then{m with items:=m.items.map (zf2 k)}
 else regM m k
def newM(k:K3):Module:=⟨nameX (k.c % 4),clockN 0,[],[fItem sR1 k.b]⟩
def atX(f:List Module)(k:K3):Int:=zgM (fun m=>decide (m.name=nameX (k.c % 4))) f
def edS(f:List Module)(k:K3):List Module:=
 if k.a % 8=7/\atX f k<0 then f++[newM k]
 else if k.a % 8=6/\0<=atX f k then f.eraseIdx (atX f k).toNat
 else if f.length=0 then f
 else f.set (k.b % f.length) (zu1 (f.getD (k.b % f.length) zdP) k)
def zfc(f:List Module)(l:List K3):List Module:=(l.take 6).foldl edS f
/-! ### What stays -/
structure Gi (n:Nat) (f:List Module):Prop where
 len:f.length<=2+n
 fine: ∀m∈f,Fine (60+n) m
 part:Parted f
 pk:PK f
theorem Gi.fl{n:Nat}{f:List Module}(h:Gi n f):Fl f:=⟨h.part,h.pk⟩
theorem zrI{α:Type}{p:α->Bool}{l:List α}(h:zgM p l<0): ∀x∈l,p x=false:=by
 intro x hx;cases hp:p x with
 | false=>rfl
 | true=>
  have:=zf0 p l;rw[List.any_eq_true.2 ⟨x,hx,hp⟩,decide_eq_true_eq]at this;omega
theorem gi_made(x:Raw):Gi 0 (zdG x):=by
 have h:=zzR x;refine⟨h.len,h.fine,(zbU _).1 h.part,⟨?_⟩⟩;have:((zdG x).all fun m=>m.items.all fun y=>decide (0<y.kind.1))=true:=by
  rcases zc5 x with⟨mem,h⟩ | ⟨q,h⟩ | ⟨q,mem,h⟩ | ⟨q,mem,h⟩
  ·rw[h]; cases mem <;> kernel_rfl
  ·rw[h]; cases q <;> kernel_rfl
  ·rw[h]; cases q <;> cases mem <;> kernel_rfl
  ·rw[h]; cases q <;> cases mem <;> kernel_rfl
 intro m hm y hy;rw[List.all_eq_true]at this;have h2:=this m hm;rw[List.all_eq_true]at h2;simpa using h2 y hy
theorem sz_not(e:Expr):sz (notE e)=sz e+1:=by unfold notE; rw[zec]; simp
theorem sz_leaf(o:Int)(n:Str)(k w:Num):sz (.mk o n k w [])=1:=by rw[zec]; simp
theorem chI_part(k:K3)(x:Item):zbg (chI k x)=zbg x:=by
 unfold chI
 (repeat' split) <;> rfl
theorem chI_kind(k:K3)(x:Item):(chI k x).kind =x.kind:=by
 unfold chI
 (repeat' split) <;> rfl
theorem chI_sz(k:K3)(x:Item):sz (chI k x).a +sz (chI k x).b +sz (chI k x).c <=sz x.a+sz x.b+sz x.c+1/\(chI k x).args =x.args/\(chI k x).ports =x.ports:=by
 unfold chI;split
 ·exact⟨by simp only; omega,rfl,rfl⟩
 split
 ·exact⟨by simp only; omega,rfl,rfl⟩
 split
 ·exact⟨by simp only[sz_not]; omega,rfl,rfl⟩
 ·exact⟨by simp only; omega,rfl,rfl⟩
theorem putI3_part(k:K3)(x:Item):zbg (zf2 k x)=zbg x:=by
 unfold zf2
 (repeat' split) <;> rfl
theorem putI3_kind(k:K3)(x:Item):(zf2 k x).kind =x.kind:=by
 unfold zf2
 (repeat' split) <;> rfl
theorem putI3_sz(k:K3)(x:Item):sz (zf2 k x).a +sz (zf2 k x).b +sz (zf2 k x).c <=sz x.a+sz x.b+sz x.c+1/\(zf2 k x).args =x.args/\(zf2 k x).ports =x.ports:=by
 unfold zf2;split
 ·exact⟨by simp only[sz_not]; omega,rfl,rfl⟩
 split
 ·exact⟨by simp only; omega,rfl,rfl⟩
 ·exact⟨by omega,rfl,rfl⟩
theorem fItem_sz(s:Str)(n:Nat):sz (fItem s n).a +sz (fItem s n).b +sz (fItem s n).c <=50:=by
 have h:=zh9;unfold fItem;simp only[sz_leaf];show 1+sz zbQ+sz zbQ<=50;omega
/-- What an zfc module is. -/
structure Gm (n:Nat) (m:Module):Prop where
 fine:Fine n m
 part:(m.items.map zbg).Nodup
 pk: ∀x∈m.items,0<x.kind.1
theorem Gm.items{n:Nat}{m:Module}(h:Gm n m){l:List Item}(hl:l.length<=n+1)(hp:(l.map zbg).Nodup)(hx: ∀y∈l,0<y.kind.1/\sz y.a+sz y.b+sz y.c<=n+1/\y.args.length<=n+1/\y.ports.length<=n+1):Gm (n+1) {m with items:=l}:=
 ⟨⟨hl,Nat.le_succ_of_le h.fine.params,fun y hy=>(hx y hy).2.1,fun y hy=>(hx y hy).2.2.1,fun y hy=>(hx y hy).2.2.2⟩,hp,fun y hy=>(hx y hy).1⟩
theorem Gm.old{n:Nat}{m:Module}(h:Gm n m){y:Item}(hy:y∈m.items):0<y.kind.1/\sz y.a+sz y.b+sz y.c<=n+1/\y.args.length<=n+1/\y.ports.length<=n+1:=
 ⟨h.pk y hy,Nat.le_succ_of_le (h.fine.sizes y hy),Nat.le_succ_of_le (h.fine.args y hy),Nat.le_succ_of_le (h.fine.ports y hy)⟩
theorem Gm.up{n:Nat}{m:Module}(h:Gm n m):Gm (n+1) m:=⟨h.fine.mono (Nat.le_succ n),h.part,h.pk⟩
theorem regsL_lt{m:Module}{i:Nat}(h:i∈zoC m):i<m.items.length:=by
 unfold zoC at h;exact List.mem_range.1 (List.mem_filter.1 h).1
theorem zlC{m:Module}(k:K3)(h:(zoC m).length ≠0):zfM m k<m.items.length:=by
 unfold zfM;have hlt:k.c % (zoC m).length <(zoC m).length :=Nat.mod_lt _ (by omega);have:(zoC m).getD (k.c % (zoC m).length) 0=(zoC m)[k.c % (zoC m).length]:=by simp[List.getD,hlt]
 rw[this];exact regsL_lt (List.getElem_mem hlt)
theorem gm_reg{n:Nat}(hn:60<=n){m:Module}(h:Gm n m)(k:K3):Gm (n+1) (regM m k)/\(regM m k).name =m.name:=by
 unfold regM;split
 ·rename_i hc;refine⟨h.items ?_ ?_ ?_,rfl⟩
  ·rw[List.length_append]; have:=h.fine.items; simp only[List.length_cons,List.length_nil]; omega
  ·rw[List.map_append,List.nodup_append];refine⟨h.part,by simp,fun a ha b hb e=> ?_⟩;simp only[List.map_cons,List.map_nil,List.mem_singleton]at hb;subst hb; subst e;obtain⟨y,hy,e⟩:=List.mem_map.1 ha;have h2:=zrI hc.2 y hy;rw[decide_eq_false_iff_not]at h2;exact h2 e
  ·intro y hy;rcases List.mem_append.1 hy with hy | hy
   ·exact h.old hy
   ·simp only[List.mem_singleton]at hy;subst hy;exact⟨by show(0:Int)<4; decide,Nat.le_trans (fItem_sz _ _) (by omega),by show 0<=_; omega,by show 0<=_; omega⟩
 split
 ·refine⟨h.items ?_ ?_ ?_,rfl⟩
  ·have:=List.length_eraseIdx_le m.items (atQ m k).toNat; have:=h.fine.items; omega
  ·exact List.Nodup.sublist ((List.eraseIdx_sublist _ _).map _) h.part
  ·exact fun y hy=>h.old (List.mem_of_mem_eraseIdx hy)
 split
 ·exact⟨h.up,rfl⟩
 ·rename_i hr;have hlt:=zlC k hr;have hg:m.items.getD (zfM m k) zaU=m.items[zfM m k]:=by simp[List.getD,hlt]
  refine⟨h.items ?_ ?_ ?_,rfl⟩
  ·rw[List.length_set]; have:=h.fine.items; omega
  ·have e:(m.items.set (zfM m k) (chI k (m.items.getD (zfM m k) zaU))).map zbg=m.items.map zbg:=by
    rw[List.map_set,chI_part,hg,<-List.getElem_map zbg (h:=by simpa using hlt),List.set_getElem_self]
   rw[e]; exact h.part
  ·intro y hy;rcases List.mem_or_eq_of_mem_set hy with hy | rfl
   ·exact h.old hy
   ·rw[hg];have ho:=List.getElem_mem hlt;obtain⟨s1,s2,s3⟩:=chI_sz k m.items[zfM m k];have:=h.fine.sizes _ ho;refine⟨by rw[chI_kind]; exact h.pk _ ho,by omega,?_,?_⟩
    ·rw[s2]; exact Nat.le_succ_of_le (h.fine.args _ ho)
    ·rw[s3]; exact Nat.le_succ_of_le (h.fine.ports _ ho)
theorem gm_mod{n:Nat}(hn:60<=n){m:Module}(h:Gm n m)(k:K3):Gm (n+1) (zu1 m k)/\(zu1 m k).name =m.name:=by
 unfold zu1;split
 ·have hu:=h.up;exact⟨⟨⟨hu.fine.items,hu.fine.params,hu.fine.sizes,hu.fine.args,hu.fine.ports⟩,hu.part,hu.pk⟩,rfl⟩
 split
 ·refine⟨h.items ?_ ?_ ?_,rfl⟩
  ·rw[List.length_map]; exact Nat.le_succ_of_le h.fine.items
  ·have e:(m.items.map (zf2 k)).map zbg=m.items.map zbg:=by
    rw[List.map_map];exact List.map_congr_left fun y _=>putI3_part k y
   rw[e]; exact h.part
  ·intro y hy;obtain⟨z,hz,rfl⟩:=List.mem_map.1 hy;obtain⟨s1,s2,s3⟩:=putI3_sz k z;have:=h.fine.sizes _ hz;refine⟨by rw[putI3_kind]; exact h.pk _ hz,by omega,?_,?_⟩
   ·rw[s2]; exact Nat.le_succ_of_le (h.fine.args _ hz)
   ·rw[s3]; exact Nat.le_succ_of_le (h.fine.ports _ hz)
 ·exact gm_reg hn h k
theorem Gi.gm{n:Nat}{f:List Module}(h:Gi n f){m:Module}(hm:m∈f):Gm (60+n) m:=⟨h.fine m hm,h.part.parts m hm,h.pk.kinds m hm⟩
theorem Gi.of{n:Nat}{f:List Module}(hl:f.length<=2+n)(hn:(f.map Module.name).Nodup)(h: ∀m∈f,Gm (60+n) m):Gi n f:=
 ⟨hl,fun m hm=>(h m hm).fine,⟨hn,fun m hm=>(h m hm).part,fun m hm x hx e=>by have:=(h m hm).pk x hx; omega⟩,⟨fun m hm=>(h m hm).pk⟩⟩
theorem gi_step{n:Nat}{f:List Module}(h:Gi n f)(k:K3):Gi (n+1) (edS f k):=by
 have hl:=h.len;unfold edS;split
 ·rename_i hc;refine Gi.of ?_ ?_ ?_
  ·rw[List.length_append]; simp only[List.length_cons,List.length_nil]; omega
  ·rw[List.map_append,List.nodup_append];refine⟨h.part.names,by simp,fun a ha b hb e=> ?_⟩;simp only[List.map_cons,List.map_nil,List.mem_singleton]at hb;subst hb; subst e;obtain⟨y,hy,e⟩:=List.mem_map.1 ha;have h2:=zrI hc.2 y hy;rw[decide_eq_false_iff_not]at h2;exact h2 e
  ·intro m hm;rcases List.mem_append.1 hm with hm | hm
   ·exact(h.gm hm).up
   ·simp only[List.mem_singleton]at hm;subst hm;refine⟨⟨by show 1<=_; omega,by show 0<=_; omega,fun x hx=> ?_,fun x hx=> ?_,fun x hx=> ?_⟩,by simp[newM],fun x hx=> ?_⟩
    all_goals
     simp only[newM,List.mem_singleton]at hx;subst hx
    ·exact Nat.le_trans (fItem_sz _ _) (by omega)
    ·show 0<=_; omega
    ·show 0<=_; omega
    ·show(0:Int)<4; decide
 split
 ·refine Gi.of ?_ ?_ fun m hm=>(h.gm (List.mem_of_mem_eraseIdx hm)).up
  ·have:=List.length_eraseIdx_le f (atX f k).toNat; omega
  ·exact List.Nodup.sublist ((List.eraseIdx_sublist _ _).map _) h.part.names
 split
 ·exact Gi.of (by omega) h.part.names fun m hm=>(h.gm hm).up
 ·rename_i h0;have hlt:k.b % f.length<f.length:=Nat.mod_lt _ (by omega);have hg:f.getD (k.b % f.length) zdP=f[k.b % f.length]:=by simp[List.getD,hlt]
  have hm0:=List.getElem_mem hlt;obtain⟨g1,g2⟩:=gm_mod (by omega) (h.gm hm0) k;rw[hg];refine Gi.of ?_ ?_ ?_
  ·rw[List.length_set]; omega
  ·rw[List.map_set,g2,<-List.getElem_map Module.name (h:=by simpa using hlt),List.set_getElem_self];exact h.part.names
  ·intro m hm;rcases List.mem_or_eq_of_mem_set hm with hm | rfl
   ·exact(h.gm hm).up
   ·exact g1
theorem Gi.mono{n k:Nat}(h:n<=k){f:List Module}(g:Gi n f):Gi k f:=⟨by have:=g.len; omega,fun m hm=>(g.fine m hm).mono (by omega),g.part,g.pk⟩
theorem gi_fold: ∀(l:List K3) (n:Nat) (f:List Module),Gi n f->Gi (n+l.length) (l.foldl edS f)
 | [],n,f,h=>h
 | k::l,n,f,h=>by
  have:=gi_fold l (n+1) _ (gi_step h k);rw[List.foldl_cons,List.length_cons,show n+(l.length+1)=n+1+l.length by omega];exact this
theorem gi_edited{n:Nat}{f:List Module}(h:Gi n f)(l:List K3):Gi (n+6) (zfc f l):=
 (gi_fold (l.take 6) n f h).mono (by rw[List.length_take]; omega)
theorem ztr{b x y:List Module}{n:Nat}(hb:Gi n b)(hx:Gi n x)(hy:Gi n y)(h:zdy b x y=[]): ∀m∈zbA b x y,Fine (2*(60+n)) m:=by
 intro m hm;have hpar:m.params.length<=60+n:=by
  have hM:=zfQ hb.fl hx.fl hy.fl h;have h1:=zjN hM.part (p:=zbB m.name) ⟨m,hm,.inl ⟨rfl,rfl⟩⟩;rw[(zdg hb.fl hx.fl hy.fl h).2.2]at h1;have key: ∀ {l:List Module},Gi n l->zbc l (zbB m.name)=some (hdM m)->m.params.length<=60+n:=by
   intro l hl he;obtain⟨z,hz,⟨_,e⟩ | ⟨j,hj,e1,_⟩⟩:=zek he
   ·have:=(hl.fine z hz).params;have e2:=congrArg Module.params e;simp only[hdM]at e2;rw[e2]; exact this
   ·have:=congrArg Place.part e1;exact absurd this.symm (zlW (hl.part.kinds z hz j hj))
  rcases zmN (b:=zbc b) (x:=zbc x) (y:=zbc y) (p:=zbB m.name)with e | e
  ·exact key hx (e.symm.trans h1)
  ·exact key hy (e.symm.trans h1)
 have hit: ∀i∈m.items,∃z,(∃l,Gi n l/\z∈l)/\i∈z.items:=by
  intro i hi;obtain⟨z,hz,_,hi'⟩:=zts hb.fl hx.fl hy.fl h hm hi;rcases hz with hz | hz
  ·exact⟨z,⟨x,hx,hz⟩,hi'⟩
  ·exact⟨z,⟨y,hy,hz⟩,hi'⟩
 have hil:=merged_items hb.fl hx.fl hy.fl h (fun m hm=>(hx.fine m hm).items) (fun m hm=>(hy.fine m hm).items) hm;refine⟨hil,by omega,fun i hi=> ?_,fun i hi=> ?_,fun i hi=> ?_⟩
 all_goals
  obtain⟨z,⟨l,hl,hz⟩,hi'⟩:=hit i hi;have hf:=hl.fine z hz
 ·have:=hf.sizes i hi'; omega
 ·have:=hf.args i hi'; omega
 ·have:=hf.ports i hi'; omega
theorem zq9{b x y:List Module}{n:Nat}(hn:n<=100)(hb:Gi n b)(hx:Gi n x)(hy:Gi n y)(h:zdy b x y=[]):Small (zbA b x y):=
 zeX (n:=2*(60+n)) (by omega) (by have:=zvL hb.fl hx.fl hy.fl h; have:=hx.len; have:=hy.len; omega) (ztr hb hx hy h)
theorem gi_small{f:List Module}{n:Nat}(hn:n<=100)(h:Gi n f):Small f:=zeX (n:=60+n) (by omega) (by have:=h.len; omega) h.fine
theorem not_c(e:Expr):FnP Tryz.prog 174 [.agg (zbx e)] (.d (.agg (zbx (notE e)))) []:=by
 refine FnP.of_eC (own:=[]) (fun _=>[]) zat Tryz.func174 rfl Tryz.call174 Tryz.ntmps174 (Nat.le_of_ble_eq_true rfl) Tryz.results174 (fun hok=> ?_);cases e with
 | mk o n k w a=>
  simp(maxSteps:=4000000) only[ZE,↓reduceIte,pE,pL,pA,pS,pM,pD,zN,qT,qG,qL,qH,qN,qB,qE,qO,qA,qM,notE,Expr.op,Expr.name,Expr.k,Expr.w,Expr.args,zbj,emp,Int.reduceEq,not_false_eq_true,List.map_cons,List.map_nil]
theorem further_c(s:Str)(n:Nat)(hn:n<=1000):FnP Tryz.prog 133 [eS s,eI n] (.d (.agg (zaK (fItem s n)))) []:=by
 refine FnP.of_eC (own:=[]) (fun _=>[]) zat Tryz.func133 rfl Tryz.call133 Tryz.ntmps133 (Nat.le_of_ble_eq_true rfl) Tryz.results133 (fun hok=> ?_);have hm:(n:Int).tmod 2=((n % 2:Nat):Int):=(Int.ofNat_tmod n 2).symm;have hw:IntKind.i64.wrap (1+((n % 2:Nat):Int))=((1+n % 2:Nat):Int):=by rw[zaQ (by omega) (by omega)]; omega
 simp(maxSteps:=4000000) only[ZE,↓reduceIte,pE,pL,pA,pS,pM,pD,zN,qT,qG,qL,qH,qN,qB,qE,qO,qA,qM,hm,hw,fItem,zaU,zbQ,Expr.op,Expr.name,Expr.k,Expr.w,Expr.args,zbj,emp,Int.reduceEq,not_false_eq_true,List.map_nil]
def zrx(m:Module)(n:Nat):List Nat:=(List.range n).filter fun i=>decide ((m.items.getD i zaU).kind.1 =4)
theorem regsT_len(m:Module)(n:Nat):(zrx m n).length <=n:=by
 unfold zrx;have:=List.length_filter_le (fun i=>decide ((m.items.getD i zaU).kind.1 =4)) (List.range n);rwa [List.length_range]at this
def zcF(l:List Nat):List (List D):=l.map fun(i:Nat)=>[D.lit (.int .i64 (i:Int))]
theorem regs_c(m:Module)(hl:m.items.length<=1000000):FnP Tryz.prog 233 [.agg (zaC m)] (.d (.sl (zcF (zoC m)))) []:=by
 refine FnP.of_eC (own:=[]) (fun _=>[]) zat Tryz.func233 rfl Tryz.call233 Tryz.ntmps233 (Nat.le_of_ble_eq_true rfl) Tryz.results233 (fun hok=> ?_);simp(maxSteps:=4000000) only[ZE,↓reduceIte,pE,pL,pA,pS,pM,pD,zN,qT,qG,qL,qH,qN,qB,qE,qO,qA,qM];refine za1 (fun _=>[]) zat m.items.length (fun _=>True) (fun i=>([(1,.bp 1 0),(3,.ar 5 (zrx m i).length),(4,.d (eI i))],[(1,.box [.d (eS m.name),.d (eS m.clock),.d (zd5 m.params),.d (zbR m.items)]),(5,.arr 3 1 .flat (zcF (zrx m i)))])) trivial ?_ ?_ (fun i hi _=> ?_)
 ·simp(maxSteps:=4000000) only[ZE,↓reduceIte,pE,pL,pA,pS,pM,pD,zrx,List.range_zero,List.filter_nil]
 ·simp(maxSteps:=4000000) only[ZE,↓reduceIte,pE,pL,pA,pS,pM,pD,zrx,List.range_zero,List.filter_nil,zcF,List.map_nil]
 rcases Nat.lt_or_ge i m.items.length with h | h
 ·have hw:=zaq (show i<9223372036854775807 by omega);obtain⟨x,hx⟩:=zX (m.items[i]);have hg:m.items.getD i zaU=x:=by simp[List.getD,h,hx]
  have hst:zrx m (i+1)=if x.kind.1=4 then zrx m i++[i]else zrx m i:=by
   unfold zrx;rw[List.range_succ,List.filter_append];by_cases hk:x.kind.1=4
   ·rw[if_pos hk,List.filter_cons_of_pos (by rw[hg]; exact decide_eq_true hk)]; rfl
   ·rw[if_neg hk,List.filter_cons_of_neg (by rw[hg,decide_eq_false hk]; simp)]; simp
  have hL:=regsT_len m i;obtain⟨L,hLe⟩:=zX (zrx m i);rw[hLe]at hst hL;rw[hst,hLe];by_cases hk:x.kind.1=4
  ·have hk':(x.kind.1==4)=true:=by rw[hk]; rfl
   rw[if_pos hk];have hn:zcF (L++[i])=zcF L++[[D.lit (.int .i64 (i:Int))]]:=by unfold zcF; rw[List.map_append]; rfl
   have hnl:(zcF L).length =L.length:=by unfold zcF; rw[List.length_map]
   rw[hn];simp(maxSteps:=4000000) only[ZE,↓reduceIte,pE,pL,pA,pS,pM,pD,zaw h,zai h,zaa h,hx,zN,qT,qG,qL,qH,qN,qB,qE,qO,qA,qM,List.length_map,hk',hw,hnl,List.length_append];exact⟨⟨by omega,by omega⟩,h⟩
  ·have hk':(x.kind.1==4)=false:=beq_eq_false_iff_ne.2 hk;rw[if_neg hk];simp(maxSteps:=4000000) only[ZE,↓reduceIte,pE,pL,pA,pS,pM,pD,zaw h,zai h,zaa h,hx,zN,qT,qG,qL,qH,qN,qB,qE,qO,qA,qM,List.length_map,hk',hw];exact h
 ·have:i=m.items.length:=by omega
  subst this;simp(maxSteps:=4000000) only[ZE,↓reduceIte,pE,pL,pA,pS,pM,pD,zaI h,zN,qT,qG,qL,qH,qN,qB,qE,qO,qA,qM,List.length_map,zoC,zrx,zcF]
end Go.Proofs.YtbenhdgpogiadaaGreat
