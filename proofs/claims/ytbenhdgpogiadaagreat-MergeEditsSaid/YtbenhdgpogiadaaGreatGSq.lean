/- Machinery. Conditions: those of each. -/
import Derived.Test.YtbenhdgpogiadaaGreatGSo
set_option linter.unusedSimpArgs false
set_option linter.unusedVariables false
/-
 PLAIN LAW: where the changes of merged lists come from.
-/
namespace Go.Aw
section
variable {κ α β:Type} {lt:κ->κ->Bool} {key:α->κ}
theorem zzW(o:TOrd lt){g c:α->List β}{b:α->α->List β}{e:β}: ∀(n:Nat) (xs ys:List α),Srt lt key xs->Srt lt key ys->e∈zyn lt key g c b n xs ys->
  (∃x∈xs,(∀y∈ys,key y≠key x)/\e∈g x)\/(∃y∈ys,(∀x∈xs,key x≠key y)/\e∈c y)\/ ∃x∈xs,∃y∈ys,key x=key y/\e∈b x y
 | 0,_,_,_,_,h=>by simp[zyn]at h
 | _+1,[],[],_,_,h=>by simp[zyn]at h
 | n+1,x::xs,[],hx,hy,h=>by
  simp only[zyn,List.mem_append]at h;rcases h with h | h
  ·exact .inl ⟨x,List.mem_cons_self,by simp,h⟩
  ·rcases zzW o n xs [] (List.pairwise_cons.1 hx).2 hy h with⟨z,hz,h⟩ | ⟨z,hz,h⟩ | ⟨z,hz,w,hw,h⟩
   ·exact .inl ⟨z,List.mem_cons_of_mem _ hz,h⟩
   ·simp at hz
   ·simp at hw
 | n+1,[],y::ys,hx,hy,h=>by
  simp only[zyn,List.mem_append]at h;rcases h with h | h
  ·exact .inr (.inl ⟨y,List.mem_cons_self,by simp,h⟩)
  ·rcases zzW o n [] ys hx (List.pairwise_cons.1 hy).2 h with⟨z,hz,h⟩ | ⟨z,hz,h⟩ | ⟨z,hz,w,hw,h⟩
   ·simp at hz
   ·exact .inr (.inl ⟨z,List.mem_cons_of_mem _ hz,by simp,h.2⟩)
   ·simp at hz
 | n+1,x::xs,y::ys,hx,hy,h=>by
  obtain⟨x1,x2⟩:=List.pairwise_cons.1 hx;obtain⟨y1,y2⟩:=List.pairwise_cons.1 hy;simp only[zyn]at h;split at h
  ·rename_i hl;have hne: ∀z∈y::ys,key z≠key x:=fun z hz e=>by
    rcases List.mem_cons.1 hz with rfl | hz
    ·rw[e,o.irr]at hl; cases hl
    ·have:=o.tr _ _ _ hl (y1 z hz); rw[e,o.irr]at this; cases this
   rcases List.mem_append.1 h with h | h
   ·exact .inl ⟨x,List.mem_cons_self,hne,h⟩
   ·rcases zzW o n xs (y::ys) x2 hy h with⟨z,hz,h⟩ | ⟨z,hz,h1,h2⟩ | ⟨z,hz,h⟩
    ·exact .inl ⟨z,List.mem_cons_of_mem _ hz,h⟩
    ·exact .inr (.inl ⟨z,hz,fun w hw=>by
      rcases List.mem_cons.1 hw with rfl | hw
      ·exact Ne.symm (hne z hz)
      ·exact h1 w hw,h2⟩)
    ·exact .inr (.inr ⟨z,List.mem_cons_of_mem _ hz,h⟩)
  split at h
  ·rename_i _ hl;have hne: ∀z∈x::xs,key z≠key y:=fun z hz e=>by
    rcases List.mem_cons.1 hz with rfl | hz
    ·rw[e,o.irr]at hl; cases hl
    ·have:=o.tr _ _ _ hl (x1 z hz); rw[e,o.irr]at this; cases this
   rcases List.mem_append.1 h with h | h
   ·exact .inr (.inl ⟨y,List.mem_cons_self,hne,h⟩)
   ·rcases zzW o n (x::xs) ys hx y2 h with⟨z,hz,h1,h2⟩ | ⟨z,hz,h⟩ | ⟨z,hz,w,hw,h⟩
    ·exact .inl ⟨z,hz,fun w hw=>by
      rcases List.mem_cons.1 hw with rfl | hw
      ·exact Ne.symm (hne z hz)
      ·exact h1 w hw,h2⟩
    ·exact .inr (.inl ⟨z,List.mem_cons_of_mem _ hz,h⟩)
    ·exact .inr (.inr ⟨z,hz,w,List.mem_cons_of_mem _ hw,h⟩)
  ·rename_i h1 h2;have he:=o.conn _ _ (by simpa using h1) (by simpa using h2);rcases List.mem_append.1 h with h | h
   ·exact .inr (.inr ⟨x,List.mem_cons_self,y,List.mem_cons_self,he,h⟩)
   ·rcases zzW o n xs ys x2 y2 h with⟨z,hz,h1,h2⟩ | ⟨z,hz,h1,h2⟩ | ⟨z,hz,w,hw,h⟩
    ·exact .inl ⟨z,List.mem_cons_of_mem _ hz,fun w hw=>by
      rcases List.mem_cons.1 hw with rfl | hw
      ·rw[<-he]; exact o.ne (x1 z hz)
      ·exact h1 w hw,h2⟩
    ·exact .inr (.inl ⟨z,List.mem_cons_of_mem _ hz,fun w hw=>by
      rcases List.mem_cons.1 hw with rfl | hw
      ·rw[he]; exact o.ne (y1 z hz)
      ·exact h1 w hw,h2⟩)
    ·exact .inr (.inr ⟨z,List.mem_cons_of_mem _ hz,w,List.mem_cons_of_mem _ hw,h⟩)
end
end Go.Aw
