/-
 CONTRACTS and plain laws. Conditions: those of each law.
-/
import Derived.Test.YtbenhdgpogiadaaGreatNK8
set_option linter.unusedSimpArgs false
set_option linter.unusedVariables false
namespace Go.Proofs.YtbenhdgpogiadaaGreat
open Go.Aw
inductive Way (E:Nat->Nat->Prop):Nat->Nat->Prop where
 | one {i j:Nat}:E i j->Way E i j
 | more {i j k:Nat}:E i j->Way E j k->Way E i k
/-! ### Rounds -/
/-- At least as much is done. -/
def geD(d d':List Bool):Prop:= ∀j,d.getD j false=true->d'.getD j false=true
def undone(d:List Bool):Nat:=d.countP fun b=> !b
/-- A module has an instance of another one. -/
def zhx(l:List Module)(i j:Nat):Prop:= ∃x∈(l.getD i zdP).items,zbE l x=some j
/-- What a search that did not find its end knows. -/
structure Searched (l:List Module) (to:Nat) (es:List Nat) (s s':List Nat):Prop where
 sub: ∀k∈s,k∈s'
 es: ∀j∈es,j∈s'
 to:to∈s'->to∈s
 closed: ∀k∈s',k∉s-> ∀j,zhx l k j->j∈s'
theorem zhP{l:List Module}{to n:Nat}{rec:Nat->List Nat->Bool×List Nat}
  (hs: ∀i s,sup l s (rec i s).2)
  (hrec: ∀i s s',i<l.length->(∀k∈s,k<l.length)->zev l s<n->rec i s=(false,s')->Searched l to [] s s'/\ ∀j,zhx l i j->j∈s'):
  ∀(r:List Item) (s s':List Nat),(∀k∈s,k<l.length)->zev l s<=n->zbH l rec to r s=(false,s')->Searched l to [] s s'/\ ∀x∈r,∀j,zbE l x=some j->j∈s'
 | [],s,s',_,_,h=>by
  simp only[zbH,Prod.mk.injEq,true_and]at h;subst h;exact⟨⟨fun _ h=>h,by simp,fun h=>h,fun k h1 h2=>absurd h1 h2⟩,by simp⟩
 | x::r,s,s',hb,hu,h=>by
  have ih:=zhP hs hrec r;unfold zbH at h;cases hi:zbE l x with
  | none=>
   rw[hi]at h;obtain⟨h1,h2⟩:=ih s s' hb hu h;refine⟨h1,fun y hy j hj=> ?_⟩;rcases List.mem_cons.1 hy with rfl | hy
   ·rw[hi]at hj; cases hj
   ·exact h2 y hy j hj
  | some i=>
   rw[hi]at h;simp only at h;have hil:=(ziN hi).1;by_cases hc:s.contains i=true
   ·rw[if_pos hc]at h;obtain⟨h1,h2⟩:=ih s s' hb hu h;refine⟨h1,fun y hy j hj=> ?_⟩;rcases List.mem_cons.1 hy with rfl | hy
    ·rw[hi]at hj; cases hj;exact h1.sub _ (by simpa using hc)
    ·exact h2 y hy j hj
   ·rw[if_neg hc]at h;have hc':s.contains i=false:=(by simpa using hc);by_cases ht:i=to
    ·rw[if_pos ht]at h; simp at h
    ·rw[if_neg ht]at h;have hlt:=zng hil hc';have hb': ∀k∈s++[i],k<l.length:=fun k hk=>by
      rcases List.mem_append.1 hk with hk | hk
      ·exact hb k hk
      ·simp at hk; omega
     have hsup:=hs i (s++[i]);cases hq:rec i (s++[i])with
     | mk b s1=>
      rw[hq]at h hsup;cases b with
      | true=>simp at h
      | false=>
       simp only at h;obtain⟨g1,g2⟩:=hrec i (s++[i]) s1 hil hb' (by omega) hq;have hu1:zev l s1<=n:=by
        have:=znf (l:=l) (a:=s) (b:=s1) (fun k hk=>g1.sub k (by simp[hk]));omega
       obtain⟨h1,h2⟩:=ih s1 s' (hsup.2 hb') hu1 h;have hi1:i∈s1:=g1.sub i (by simp);refine⟨⟨fun k hk=>h1.sub k (g1.sub k (by simp[hk])),by simp,fun hto=> ?_,fun k hk hks j hj=> ?_⟩,fun y hy j hj=> ?_⟩
       ·have:=g1.to (h1.to hto);rcases List.mem_append.1 this with h3 | h3
        ·exact h3
        ·simp at h3; exact absurd h3.symm ht
       ·by_cases hk1:k∈s1
        ·by_cases hki:k=i
         ·subst hki; exact h1.sub j (g2 j hj)
         ·exact h1.sub j (g1.closed k hk1 (by simp[hks,hki]) j hj)
        ·exact h1.closed k hk hk1 j hj
       ·rcases List.mem_cons.1 hy with rfl | hy
        ·rw[hi]at hj; cases hj;exact h1.sub _ hi1
        ·exact h2 y hy j hj
theorem zi2(l:List Module)(to:Nat): ∀(n i:Nat) (s s':List Nat),i<l.length->(∀k∈s,k<l.length)->zev l s<n->zc1 l to n i s=(false,s')->Searched l to [] s s'/\ ∀j,zhx l i j->j∈s'
 | 0,_,_,_,_,_,hn,_=>by omega
 | n+1,i,s,s',hi,hb,hn,h=>by
  obtain⟨h1,h2⟩:=zhP (n:=n) (fun i s=>zi3 l to n i s) (fun i s s' a b c d=>zi2 l to n i s s' a b c d) (l.getD i zdP).items s s' hb (by omega) h;exact⟨h1,fun j ⟨x,hx,hj⟩=>h2 x hx j hj⟩
theorem zqx{l:List Module}{i:Nat}(hi:i<l.length)(h:loops l i=false): ¬Way (zhx l) i i:=by
 unfold loops at h;cases hq:zc1 l i (l.length+1) i []with
 | mk b s'=>
  rw[hq]at h;simp only at h;subst h;have hu:zev l []<l.length+1:=by
   unfold zev;have:=List.countP_le_length (l:=List.range l.length) (p:=fun k=> !([]:List Nat).contains k);rw[List.length_range]at this;omega
  obtain⟨h1,h2⟩:=zi2 l i _ i [] s' hi (by simp) hu hq;have key: ∀a b,Way (zhx l) a b->(∀j,zhx l a j->j∈s')->b∈s':=by
   intro a b hw
   induction hw with
   | one e=>intro ha; exact ha _ e
   | more e _ ih=>intro ha; exact ih (fun j hj=>h1.closed _ (ha _ e) (by simp) j hj)
  intro hw;have:=h1.to (key i i hw h2);simp at this
end Go.Proofs.YtbenhdgpogiadaaGreat
