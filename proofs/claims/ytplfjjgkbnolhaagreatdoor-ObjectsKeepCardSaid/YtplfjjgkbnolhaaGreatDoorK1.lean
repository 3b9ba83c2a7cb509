/- Contracts and laws. Conditions: those of each. -/
import Derived.Test.YtplfjjgkbnolhaaGreatDoorGD
set_option linter.unusedSimpArgs false
set_option linter.unusedVariables false
namespace Go.Proofs.YtplfjjgkbnolhaaGreatDoor
open Go.Aw
def W64:Nat:=18446744073709551616
def stepAN(h w:Nat):Nat:=(h ^^^ w)*15485907386658061715 % W64
def stepN(h w:Nat):Nat:=(stepAN h w ^^^ (stepAN h w / 4294967296))*11562461410679940143 % W64
theorem xor_lt{a b:Nat}(ha:a<W64)(hb:b<W64):a ^^^ b<W64:=Nat.xor_lt_two_pow (n:=64) ha hb
theorem mul_inj{c d:Nat}(hcd:c*d % W64=1){x y:Nat}(hx:x<W64)(hy:y<W64)(h:x*c % W64=y*c % W64):x=y:=by
 have key: ∀z:Nat,z<W64→(z*c % W64)*d % W64=z:=by
  intro z hz;rw[Nat.mod_mul_mod,Nat.mul_assoc,Nat.mul_mod,hcd,Nat.mul_one,Nat.mod_mod,Nat.mod_eq_of_lt hz]
 rw[←key x hx,←key y hy,h]
theorem shr_inj{x y:Nat}(hx:x<W64)(hy:y<W64)(h:x ^^^ (x / 4294967296)=y ^^^ (y / 4294967296)):x=y:=by
 have key: ∀z:Nat,z<W64→(z ^^^ (z / 4294967296)) ^^^ ((z ^^^ (z / 4294967296)) / 4294967296)=z:=by
  intro z hz;have h0: ∀a:Nat,a / 4294967296=a>>>32:=fun a=>by rw[Nat.shiftRight_eq_div_pow]
  rw[h0,h0,Nat.shiftRight_xor_distrib,←Nat.shiftRight_add];have hz3:z>>>(32+32)=0:=by rw[Nat.shiftRight_eq_div_pow]; unfold W64 at hz; omega
  rw[hz3,Nat.xor_zero,Nat.xor_assoc,Nat.xor_self,Nat.xor_zero]
 rw[←key x hx,←key y hy,h]
theorem stepN_lt(h w:Nat):stepN h w<W64:=by unfold stepN; exact Nat.mod_lt _ (by decide)
theorem mod_lt64(a:Nat):a % W64<W64:=Nat.mod_lt _ (by decide)
theorem div_lt64{a:Nat}(h:a<W64):a / 4294967296<W64:=by unfold W64 at*; omega
theorem inv1:15485907386658061715*14982988110149298331 % W64=1:=by decide
theorem inv2:11562461410679940143*10636502746458383055 % W64=1:=by decide
theorem mix_inj{a b x y:Nat}(hx:x<W64)(hy:y<W64)(ha:x*15485907386658061715 % W64=a)(hb:y*15485907386658061715 % W64=b)
  (e:(a ^^^ (a / 4294967296))*11562461410679940143 % W64=(b ^^^ (b / 4294967296))*11562461410679940143 % W64):x=y:=by
 have la:a<W64:=ha▸mod_lt64 _;have lb:b<W64:=hb▸mod_lt64 _;have h1:=mul_inj inv2 (xor_lt la (div_lt64 la)) (xor_lt lb (div_lt64 lb)) e;have h2:=shr_inj la lb h1;subst h2;exact mul_inj inv1 hx hy (ha.trans hb.symm)
theorem stepN_inj{h w h' w':Nat}(a1:h<W64)(a2:w<W64)(a3:h'<W64)(a4:w'<W64)(e:stepN h w=stepN h' w'):h ^^^ w=h' ^^^ w':=
 mix_inj (xor_lt a1 a2) (xor_lt a3 a4) rfl rfl e
theorem stepN_h{h w h':Nat}(hh:h<W64)(hw:w<W64)(hh':h'<W64)(e:stepN h w=stepN h' w):h=h':=by
 have:=stepN_inj hh hw hh' hw e;have h2:(h ^^^ w) ^^^ w=(h' ^^^ w) ^^^ w:=by rw[this]
 simpa [Nat.xor_assoc]using h2
theorem stepN_w{h w w':Nat}(hh:h<W64)(hw:w<W64)(hw':w'<W64)(e:stepN h w=stepN h w'):w=w':=by
 have:=stepN_inj hh hw hh hw' e;have h2:h ^^^ (h ^^^ w)=h ^^^ (h ^^^ w'):=by rw[this]
 simpa [←Nat.xor_assoc]using h2
def foldN(a:Nat)(l:List Nat):Nat:=l.foldl stepN a
theorem foldN_lt: ∀(l:List Nat) {a:Nat},a<W64→foldN a l<W64
 | [],_,h=>h
 | _::l,_,_=>foldN_lt l (stepN_lt _ _)
theorem foldN_inj: ∀(l:List Nat) {a b:Nat},a<W64→b<W64→(∀w∈l,w<W64)→foldN a l=foldN b l→a=b
 | [],_,_,_,_,_,h=>h
 | w::l,a,b,ha,hb,hl,h=>stepN_h ha (hl w (by simp)) hb (foldN_inj l (stepN_lt _ _) (stepN_lt _ _) (fun x hx=>hl x (by simp[hx])) h)
theorem foldN_set{ws:List Nat}{a:Nat}(ha:a<W64)(h: ∀w∈ws,w<W64){k v:Nat}(hk:k<ws.length)(hv:v<W64)(hne:ws[k]≠v):foldN a ws≠foldN a (ws.set k v):=by
 intro e2;have s1:foldN a ws=foldN a (ws.take k++ws[k]::ws.drop (k+1)):=by simp
 have s2:ws.set k v=ws.take k++v::ws.drop (k+1):=List.set_eq_take_append_cons_drop.trans (by rw[if_pos hk]);rw[s2,s1]at e2;simp only[foldN,List.foldl_append,List.foldl_cons]at e2;have hd: ∀w∈ws.drop (k+1),w<W64:=fun w hw=>h w (List.mem_of_mem_drop hw);have e3:=foldN_inj (ws.drop (k+1)) (stepN_lt _ _) (stepN_lt _ _) hd e2;exact hne (stepN_w (foldN_lt (ws.take k) ha) (h _ (by simp)) hv e3)
def wordN:List Nat→Nat
 | []=>0
 | b::r=>b+256*wordN r
theorem wordN_lt: ∀ {l:List Nat},(∀b∈l,b<256)→wordN l<256 ^ l.length
 | [],_=>by simp[wordN]
 | b::r,h=>by
  have h1:=wordN_lt (l:=r) (fun x hx=>h x (by simp[hx]));have h2:=h b (by simp);simp only[wordN,List.length_cons,Nat.pow_succ];omega
theorem wordN_set: ∀ {l:List Nat} {k v:Nat},(∀b∈l,b<256)→(hk:k<l.length)→v<256→l[k]≠v→wordN l≠wordN (l.set k v)
 | b::r,0,v,h,_,hv,hne=>by
  have h2:=h b (by simp);simp only[List.getElem_cons_zero]at hne;simp only[List.set_cons_zero,wordN];omega
 | b::r,k+1,v,h,hk,hv,hne=>by
  have h1:=wordN_set (l:=r) (k:=k) (v:=v) (fun x hx=>h x (by simp[hx])) (by simpa using hk) hv (by simpa using hne);simp only[List.set_cons_succ,wordN];omega
def wordsB(l:List Nat):List Nat:=(List.range ((l.length+7) / 8)).map fun i=>wordN ((l.drop (8*i)).take 8)
def digB(l:List Nat):Nat:=stepN (foldN 422944466291 (wordsB l)) (l.length % W64)
theorem digB_lt(l:List Nat):digB l<W64:=stepN_lt _ _
theorem wordsB_lt{l:List Nat}(h: ∀b∈l,b<256): ∀w∈wordsB l,w<W64:=by
 intro w hw;simp only[wordsB,List.mem_map]at hw;obtain⟨i,_,rfl⟩:=hw;have h1:=wordN_lt (l:=(l.drop (8*i)).take 8) (fun b hb=>h b (List.mem_of_mem_drop (List.mem_of_mem_take hb)));have h2:((l.drop (8*i)).take 8).length ≤8:=by simp; omega
 have h3:256 ^ ((l.drop (8*i)).take 8).length ≤256 ^ 8:=Nat.pow_le_pow_right (by decide) h2;have:(256:Nat) ^ 8=W64:=by decide
 omega
theorem wordsB_set{l:List Nat}{k v:Nat}(hk:k<l.length):wordsB (l.set k v)=(wordsB l).set (k / 8) (wordN (((l.drop (8*(k / 8))).take 8).set (k % 8) v)):=by
 apply List.ext_getElem
 ·simp[wordsB]
 intro i h1 h2;simp only[wordsB,List.getElem_map,List.getElem_range,List.getElem_set];have hi:i<(l.length+7) / 8:=by simpa [wordsB]using h1
 by_cases h:k / 8=i
 ·subst h;rw[if_pos rfl];congr 1;apply List.ext_getElem
  ·simp
  intro j j1 j2;simp only[List.getElem_take,List.getElem_drop,List.getElem_set];have hj:j<8:=by simp at j1; omega
  by_cases hj2:k=8*(k / 8)+j
  ·rw[if_pos hj2,if_pos (by omega)]
  ·rw[if_neg hj2,if_neg (by omega)]
 ·rw[if_neg h];congr 1;apply List.ext_getElem
  ·simp
  intro j j1 j2;simp only[List.getElem_take,List.getElem_drop,List.getElem_set];have hj:j<8:=by simp at j1; omega
  rw[if_neg (by omega)]
theorem digB_set{l:List Nat}(h: ∀b∈l,b<256){k v:Nat}(hk:k<l.length)(hv:v<256)(hne:l[k]≠v):digB l≠digB (l.set k v):=by
 intro e;unfold digB at e;rw[List.length_set]at e;have hk8:k / 8<(wordsB l).length :=by simp[wordsB]; omega
 have e2:=stepN_h (foldN_lt _ (by decide)) (Nat.mod_lt _ (by decide)) (foldN_lt _ (by decide)) e;rw[wordsB_set hk]at e2;have hb: ∀b∈(l.drop (8*(k / 8))).take 8,b<256:=fun b hb=>h b (List.mem_of_mem_drop (List.mem_of_mem_take hb));have hl:k % 8<((l.drop (8*(k / 8))).take 8).length :=by simp; omega
 refine foldN_set (by decide) (wordsB_lt h) hk8 ?_ ?_ e2
 ·have h1:=wordN_lt (l:=((l.drop (8*(k / 8))).take 8).set (k % 8) v) (fun b hb'=>by
   rcases List.mem_or_eq_of_mem_set hb' with h1 | rfl
   ·exact hb b h1
   ·exact hv)
  have h2:(((l.drop (8*(k / 8))).take 8).set (k % 8) v).length ≤8:=by simp; omega
  have h3:256 ^ (((l.drop (8*(k / 8))).take 8).set (k % 8) v).length ≤256 ^ 8:=Nat.pow_le_pow_right (by decide) h2;have:(256:Nat) ^ 8=W64:=by decide
  omega
 ·have e3:(wordsB l)[k / 8]=wordN ((l.drop (8*(k / 8))).take 8):=by simp[wordsB]
  rw[e3];refine wordN_set hb hl hv ?_;have e4:((l.drop (8*(k / 8))).take 8)[k % 8]=l[k]:=by
   simp only[List.getElem_take,List.getElem_drop];congr 1;omega
  rw[e4];exact hne
abbrev Obj:=Nat×List Nat
def okS(s:List Obj):Prop:=s.Pairwise fun a b=>a.1<b.1
def lk:List Obj→Nat→Option (List Nat)
 | [],_=>none
 | x::r,id=>if x.1=id then some x.2 else lk r id
theorem lk_none{s:List Obj}{id:Nat}:lk s id=none↔ ∀x∈s,x.1≠id:=by
 induction s with
 | nil=>simp[lk]
 | cons x r ih=>
  simp only[lk,List.forall_mem_cons];split
  ·rename_i h; simp[h]
  ·rename_i h; rw[ih]; simp[h]
theorem lk_mem{s:List Obj}(h:okS s){x:Obj}:x∈s↔lk s x.1=some x.2:=by
 induction s with
 | nil=>simp[lk]
 | cons y r ih=>
  have h':=List.pairwise_cons.1 h;simp only[lk,List.mem_cons];split
  ·rename_i e;constructor
   ·rintro(rfl | hx)
    ·rfl
    ·have:=h'.1 x hx; omega
   ·intro e2;left;cases x; cases y;simp_all
  ·rename_i e;rw[ih h'.2];constructor
   ·rintro(rfl | hx)
    ·exact absurd rfl e
    ·exact hx
   ·exact .inr
theorem ext_S{s t:List Obj}(hs:okS s)(ht:okS t)(h: ∀id,lk s id=lk t id):s=t:=by
 have hm: ∀x,x∈s↔x∈t:=fun x=>by rw[lk_mem hs,lk_mem ht,h]
 induction s generalizing t with
 | nil=>
  cases t with
  | nil=>rfl
  | cons y t=>exact absurd ((hm y).2 (by simp)) (by simp)
 | cons x s ih=>
  cases t with
  | nil=>exact absurd ((hm x).1 (by simp)) (by simp)
  | cons y t=>
   have a:=List.pairwise_cons.1 hs;have b:=List.pairwise_cons.1 ht;have e:x=y:=by
    have m1:=(hm x).1 (by simp);have m2:=(hm y).2 (by simp);rcases List.mem_cons.1 m1 with e | m1
    ·exact e
    ·rcases List.mem_cons.1 m2 with e | m2
     ·exact e.symm
     ·have:=a.1 y m2; have:=b.1 x m1; omega
   subst e;congr 1;have hne1: ∀z∈s,z≠x:=fun z hz e=>by have:=a.1 z hz; rw[e]at this; omega
   have hne2: ∀z∈t,z≠x:=fun z hz e=>by have:=b.1 z hz; rw[e]at this; omega
   have hm': ∀z,z∈s↔z∈t:=fun z=>by
    have:=hm z;simp only[List.mem_cons]at this;constructor
    ·intro hz; exact(this.1 (.inr hz)).resolve_left (hne1 z hz)
    ·intro hz; exact(this.2 (.inr hz)).resolve_left (hne2 z hz)
   refine ih a.2 b.2 (fun id=> ?_) hm';cases h1:lk s id with
   | none=>
    symm;rw[lk_none]at h1 ⊢;exact fun z hz=>h1 z ((hm' z).2 hz)
   | some d=>
    have:=(lk_mem a.2 (x:=(id,d))).2 h1;exact((lk_mem b.2 (x:=(id,d))).1 ((hm' _).1 this)).symm
def insS(o:Obj):List Obj→List Obj
 | []=>[o]
 | x::r=>if x.1<o.1 then x::insS o r else if x.1=o.1 then o::r else o::x::r
theorem insS_mem{o:Obj}: ∀ {s:List Obj} {x:Obj},x∈insS o s→x=o∨x∈s
 | [],x,h=>by simp[insS]at h; exact .inl h
 | y::r,x,h=>by
  simp only[insS]at h;split at h
  ·rcases List.mem_cons.1 h with h | h
   ·exact .inr (by simp[h])
   ·exact(insS_mem h).imp id (fun h=>by simp[h])
  ·split at h
   ·rcases List.mem_cons.1 h with h | h
    ·exact .inl h
    ·exact .inr (by simp[h])
   ·exact List.mem_cons.1 h
theorem okS_ins{o:Obj}: ∀ {s:List Obj},okS s→okS (insS o s)
 | [],_=>by simp[insS,okS]
 | y::r,h=>by
  have h':=List.pairwise_cons.1 h;simp only[insS];split
  ·rename_i hl;refine List.pairwise_cons.2 ⟨fun x hx=> ?_,okS_ins h'.2⟩;rcases insS_mem hx with rfl | hx
   ·exact hl
   ·exact h'.1 x hx
  ·split
   ·rename_i e;exact List.pairwise_cons.2 ⟨fun x hx=>by have:=h'.1 x hx; omega,h'.2⟩
   ·refine List.pairwise_cons.2 ⟨fun x hx=> ?_,h⟩;rcases List.mem_cons.1 hx with rfl | hx
    ·omega
    ·have:=h'.1 x hx; omega
theorem lk_ins{o:Obj}: ∀ {s:List Obj},okS s→ ∀id,lk (insS o s) id=if id=o.1 then some o.2 else lk s id
 | [],_,id=>by simp only[insS,lk]; simp[eq_comm]
 | y::r,h,id=>by
  have h':=List.pairwise_cons.1 h;simp only[insS];split
  ·rename_i hl;simp only[lk,lk_ins h'.2];split
   ·rename_i e; rw[if_neg (by omega)]
   ·rfl
  ·split
   ·rename_i e;simp only[lk];by_cases hi:id=o.1
    ·rw[if_pos hi.symm,if_pos hi]
    ·rw[if_neg (Ne.symm hi),if_neg hi,if_neg (by omega)]
   ·simp only[lk];by_cases hi:id=o.1
    ·rw[if_pos hi.symm,if_pos hi]
    ·rw[if_neg (Ne.symm hi),if_neg hi]
def soundB(o:Obj):Bool:=decide (o.1=digB o.2)
def getS(s:List Obj)(id:Nat):Option (List Nat):=match lk s id with | some d=>if id=digB d then some d else none | none=>none
def putS(s:List Obj)(data:List Nat):List Obj:=match getS s (digB data)with | some _=>s | none=>insS (digB data,data) s
theorem okS_put{s:List Obj}(h:okS s)(a:List Nat):okS (putS s a):=by
 unfold putS; split
 ·exact h
 ·exact okS_ins h
theorem lk_put{s:List Obj}(h:okS s)(a:List Nat)(id:Nat):lk (putS s a) id=if id=digB a then some ((getS s id).getD a)else lk s id:=by
 unfold putS;by_cases hi:id=digB a
 ·subst hi;rw[if_pos rfl];split
  ·rename_i d hd;rw[hd];unfold getS at hd;split at hd
   ·rename_i d' h1;split at hd
    ·cases hd; exact h1
    ·cases hd
   ·cases hd
  ·rename_i hn;rw[lk_ins h,if_pos rfl,hn]; rfl
 ·rw[if_neg hi];split
  ·rfl
  ·rw[lk_ins h,if_neg hi]
theorem getS_put{s:List Obj}(h:okS s)(a:List Nat)(id:Nat):getS (putS s a) id=if id=digB a then some ((getS s id).getD a)else getS s id:=by
 have h1:=lk_put h a id;by_cases hi:id=digB a
 ·rw[if_pos hi]at h1 ⊢;unfold getS at h1 ⊢;rw[h1];simp only;rw[if_pos];cases h2:lk s id with
  | none=>simp only[h2,Option.getD_none]; exact hi
  | some d=>
   simp only[h2];split
   ·rename_i h3; simpa using h3
   ·simpa using hi
 ·rw[if_neg hi]at h1 ⊢;unfold getS;rw[h1]
theorem put_put'{s:List Obj}(h:okS s){a b:List Nat}(hne:digB a≠digB b):putS (putS s a) b=putS (putS s b) a:=by
 refine ext_S (okS_put (okS_put h a) b) (okS_put (okS_put h b) a) (fun id=> ?_);rw[lk_put (okS_put h a),lk_put (okS_put h b),lk_put h,lk_put h,getS_put h,getS_put h];by_cases h1:id=digB a
 ·subst h1;rw[if_neg hne,if_pos rfl,if_pos rfl,if_neg hne]
 ·by_cases h2:id=digB b
  ·subst h2;rw[if_pos rfl,if_neg h1,if_neg h1,if_pos rfl]
  ·simp[h1,h2]
theorem put_again{s:List Obj}(h:okS s)(a:List Nat):putS (putS s a) a=putS s a:=by
 have hg:=getS_put h a (digB a);rw[if_pos rfl]at hg;generalize putS s a=p at hg ⊢;unfold putS;rw[hg]
def pickO:Option (List Nat)→Option (List Nat)→Nat→Option (List Nat)
 | none,y,_=>y
 | x,none,_=>x
 | some d,some e,id=>if ¬id=digB d∧id=digB e then some e else some d
def uniS:List Obj→List Obj→List Obj
 | [],b=>b
 | a,[]=>a
 | x::a,y::b=>if x.1<y.1 then x::uniS a (y::b)else if y.1<x.1 then y::uniS (x::a) b else(if !soundB x&&soundB y then y else x)::uniS a b
termination_by a b=>a.length+b.length
theorem uniS_mem: ∀(a b:List Obj) {x:Obj},x∈uniS a b→x∈a∨x∈b
 | [],b,x,h=>by rw[uniS]at h; exact .inr h
 | p::a,[],x,h=>by rw[uniS]at h; exact .inl h; simp
 | p::a,q::b,x,h=>by
  rw[uniS]at h;split at h
  ·rcases List.mem_cons.1 h with h | h
   ·exact .inl (by simp[h])
   ·exact(uniS_mem a (q::b) h).imp (fun h=>by simp[h]) id
  ·split at h
   ·rcases List.mem_cons.1 h with h | h
    ·exact .inr (by simp[h])
    ·exact(uniS_mem (p::a) b h).imp id (fun h=>by simp[h])
   ·rcases List.mem_cons.1 h with h | h
    ·subst h;split
     ·exact .inr (by simp)
     ·exact .inl (by simp)
    ·exact(uniS_mem a b h).imp (fun h=>by simp[h]) (fun h=>by simp[h])
termination_by a b=>a.length+b.length
theorem okS_uni: ∀(a b:List Obj),okS a→okS b→okS (uniS a b)
 | [],b,_,hb=>by rw[uniS]; exact hb
 | p::a,[],ha,_=>by rw[uniS]; exact ha; simp
 | p::a,q::b,ha,hb=>by
  have a':=List.pairwise_cons.1 ha;have b':=List.pairwise_cons.1 hb;rw[uniS];split
  ·rename_i h;refine List.pairwise_cons.2 ⟨fun x hx=> ?_,okS_uni a (q::b) a'.2 hb⟩;rcases uniS_mem a (q::b) hx with hx | hx
   ·exact a'.1 x hx
   ·rcases List.mem_cons.1 hx with rfl | hx
    ·exact h
    ·have:=b'.1 x hx; omega
  ·split
   ·rename_i h;refine List.pairwise_cons.2 ⟨fun x hx=> ?_,okS_uni (p::a) b ha b'.2⟩;rcases uniS_mem (p::a) b hx with hx | hx
    ·rcases List.mem_cons.1 hx with rfl | hx
     ·exact h
     ·have:=a'.1 x hx; omega
    ·exact b'.1 x hx
   ·rename_i h1 h2;refine List.pairwise_cons.2 ⟨fun x hx=> ?_,okS_uni a b a'.2 b'.2⟩;have e:p.1=q.1:=(by omega);rcases uniS_mem a b hx with hx | hx
    ·have:=a'.1 x hx; split <;> omega
    ·have:=b'.1 x hx; split <;> omega
termination_by a b=>a.length+b.length
theorem lk_uni: ∀(a b:List Obj),okS a→okS b→ ∀id,lk (uniS a b) id=pickO (lk a id) (lk b id) id
 | [],b,_,_,id=>by rw[uniS]; rfl
 | p::a,[],_,_,id=>by
  rw[uniS]
  ·simp only[lk];split <;> (try rfl);cases lk a id <;> rfl
  ·simp
 | p::a,q::b,ha,hb,id=>by
  have a':=List.pairwise_cons.1 ha;have b':=List.pairwise_cons.1 hb;have la: ∀n,n≤p.1→lk a n=none:=fun n hn=>lk_none.2 fun x hx e=>by have:=a'.1 x hx; omega
  have lb: ∀n,n≤q.1→lk b n=none:=fun n hn=>lk_none.2 fun x hx e=>by have:=b'.1 x hx; omega
  rw[uniS];split
  ·rename_i h;simp only[lk,lk_uni a (q::b) a'.2 hb];by_cases h1:p.1=id
   ·subst h1;rw[if_pos rfl,if_pos rfl,if_neg (by omega),lb _ (by omega)]; rfl
   ·rw[if_neg h1,if_neg h1]
  ·split
   ·rename_i h;simp only[lk,lk_uni (p::a) b ha b'.2];by_cases h1:q.1=id
    ·subst h1;rw[if_pos rfl,if_pos rfl,if_neg (by omega),la _ (by omega)]; rfl
    ·rw[if_neg h1,if_neg h1]
   ·rename_i h1 h2;have e:p.1=q.1:=(by omega);simp only[lk,lk_uni a b a'.2 b'.2];by_cases hp:p.1=id
    ·subst hp;have hq:q.1=p.1:=e.symm;rw[if_pos rfl,if_pos hq];simp only[pickO];by_cases s1:p.1=digB p.2
     ·have c0: ¬(!soundB p&&soundB q)=true:=(by simp[soundB,s1]);simp only[if_neg c0];rw[if_pos trivial,if_neg (fun h=>h.1 s1)]
     ·by_cases s2:q.1=digB q.2
      ·have h3:p.1=digB q.2:=(by omega);have c1:(!soundB p&&soundB q)=true:=(by simp[soundB,s1,s2]);simp only[if_pos c1];rw[if_pos hq,if_pos ⟨s1,h3⟩]
      ·have h3: ¬p.1=digB q.2:=(by omega);have c0: ¬(!soundB p&&soundB q)=true:=(by simp[soundB,s2]);simp only[if_neg c0];rw[if_pos trivial,if_neg (fun h=>h3 h.2)]
    ·have hq: ¬q.1=id:=(by omega);have: ¬(if (!soundB p&&soundB q)=true then q else p).1 =id:=(by split <;> assumption);rw[if_neg hp,if_neg hq,if_neg this]
termination_by a b=>a.length+b.length
def keepS(s:List Obj)(ids:List Nat):List Obj:=s.filter fun o=>ids.contains o.1
theorem okS_keep{s:List Obj}(h:okS s)(ids:List Nat):okS (keepS s ids):=List.Pairwise.filter _ h
theorem lk_keep: ∀ {s:List Obj},okS s→ ∀(ids:List Nat) (id:Nat),lk (keepS s ids) id=if ids.contains id=true then lk s id else none
 | [],_,ids,id=>by simp[keepS,lk]
 | x::s,h,ids,id=>by
  have h':=List.pairwise_cons.1 h;have ih:=lk_keep h'.2 ids id;unfold keepS at ih ⊢;rw[List.filter_cons];by_cases hx:x.1=id
  ·subst hx;by_cases hc:ids.contains x.1=true
   ·rw[if_pos hc,if_pos hc]; simp[lk]
   ·rw[if_neg hc,if_neg hc]at*; exact ih
  ·split
   ·simp only[lk,if_neg hx]; exact ih
   ·simp only[lk,if_neg hx]; exact ih
end Go.Proofs.YtplfjjgkbnolhaaGreatDoor
