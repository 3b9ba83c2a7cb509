/-
 MACHINERY: abstract states of a call and an evaluator on them, sound for every program. Conditions: those of each law.
-/
import Derived.Test.YtnnhfhodbfgfdaaGreatGSo
set_option linter.unusedSimpArgs false
set_option linter.unusedVariables false
/-
 PLAIN LAW: merged lists hold no change twice.
-/
namespace Go.Aw
section
variable {κ α β γ : Type} {lt : κ → κ → Bool} {key : α → κ}
theorem mrgF_mem (o : TOrd lt) {g c : α → List β} {b : α → α → List β} {e : β} : ∀ (n : Nat) (xs ys : List α), e ∈ mrgF lt key g c b n xs ys → (∃ x ∈ xs, e ∈ g x) ∨ (∃ y ∈ ys, e ∈ c y) ∨ ∃ x ∈ xs, ∃ y ∈ ys, key x = key y ∧ e ∈ b x y
 | 0, _, _, h => by simp [mrgF] at h
 | _ + 1, [], [], h => by simp [mrgF] at h
 | n + 1, x :: xs, [], h => by
  simp only [mrgF, List.mem_append] at h
  rcases h with h | h
  ·exact .inl ⟨x, List.mem_cons_self, h⟩
  ·rcases mrgF_mem o n xs [] h with ⟨z, hz, h⟩ | ⟨z, hz, h⟩ | ⟨z, hz, w, hw, h⟩
   ·exact .inl ⟨z, List.mem_cons_of_mem _ hz, h⟩
   ·simp at hz
   ·simp at hw
 | n + 1, [], y :: ys, h => by
  simp only [mrgF, List.mem_append] at h
  rcases h with h | h
  ·exact .inr (.inl ⟨y, List.mem_cons_self, h⟩)
  ·rcases mrgF_mem o n [] ys h with ⟨z, hz, h⟩ | ⟨z, hz, h⟩ | ⟨z, hz, w, hw, h⟩
   ·simp at hz
   ·exact .inr (.inl ⟨z, List.mem_cons_of_mem _ hz, h⟩)
   ·simp at hz
 | n + 1, x :: xs, y :: ys, h => by
  simp only [mrgF] at h
  split at h
  ·rcases List.mem_append.1 h with h | h
   ·exact .inl ⟨x, List.mem_cons_self, h⟩
   ·rcases mrgF_mem o n xs (y :: ys) h with ⟨z, hz, h⟩ | h | ⟨z, hz, h⟩
    ·exact .inl ⟨z, List.mem_cons_of_mem _ hz, h⟩
    ·exact .inr (.inl h)
    ·exact .inr (.inr ⟨z, List.mem_cons_of_mem _ hz, h⟩)
  split at h
  ·rcases List.mem_append.1 h with h | h
   ·exact .inr (.inl ⟨y, List.mem_cons_self, h⟩)
   ·rcases mrgF_mem o n (x :: xs) ys h with h | ⟨z, hz, h⟩ | ⟨z, hz, w, hw, h⟩
    ·exact .inl h
    ·exact .inr (.inl ⟨z, List.mem_cons_of_mem _ hz, h⟩)
    ·exact .inr (.inr ⟨z, hz, w, List.mem_cons_of_mem _ hw, h⟩)
  ·rename_i h1 h2
   rcases List.mem_append.1 h with h | h
   ·exact .inr (.inr ⟨x, List.mem_cons_self, y, List.mem_cons_self, o.conn _ _ (by simpa using h1) (by simpa using h2), h⟩)
   ·rcases mrgF_mem o n xs ys h with ⟨z, hz, h⟩ | ⟨z, hz, h⟩ | ⟨z, hz, w, hw, h⟩
    ·exact .inl ⟨z, List.mem_cons_of_mem _ hz, h⟩
    ·exact .inr (.inl ⟨z, List.mem_cons_of_mem _ hz, h⟩)
    ·exact .inr (.inr ⟨z, List.mem_cons_of_mem _ hz, w, List.mem_cons_of_mem _ hw, h⟩)
theorem nodup_app_tag {t : β → κ} {f : β → γ} (hft : ∀ e e', f e = f e' → t e = t e') {l r : List β} {k : κ} (h1 : (l.map f).Nodup) (h2 : (r.map f).Nodup) (hl : ∀ e ∈ l, t e = k) (hr : ∀ e ∈ r, t e ≠ k) : ((l ++ r).map f).Nodup := by
 rw [List.map_append]
 refine List.nodup_append.2 ⟨h1, h2, fun a ha b hb e => ?_⟩
 obtain ⟨x, hx, rfl⟩ := List.mem_map.1 ha
 obtain ⟨y, hy, rfl⟩ := List.mem_map.1 hb
 exact hr y hy ((hft _ _ e).symm.trans (hl x hx))
theorem mrgF_nodup (o : TOrd lt) {g c : α → List β} {b : α → α → List β} {t : β → κ} {f : β → γ} (hft : ∀ e e', f e = f e' → t e = t e')
  (tg : ∀ x, ∀ e ∈ g x, t e = key x) (tc : ∀ y, ∀ e ∈ c y, t e = key y) (tb : ∀ x y, ∀ e ∈ b x y, t e = key y) {A B : α → Prop}
  (ng : ∀ x, A x → ((g x).map f).Nodup) (nc : ∀ y, B y → ((c y).map f).Nodup) (nb : ∀ x y, A x → B y → ((b x y).map f).Nodup) :
  ∀ (n : Nat) (xs ys : List α), Srt lt key xs → Srt lt key ys → (∀ x ∈ xs, A x) → (∀ y ∈ ys, B y) → ((mrgF lt key g c b n xs ys).map f).Nodup := by
 have tags : ∀ (n : Nat) (xs ys : List α) (k : κ), (∀ x ∈ xs, lt k (key x) = true) → (∀ y ∈ ys, lt k (key y) = true) → ∀ e ∈ mrgF lt key g c b n xs ys, t e ≠ k := by
  intro n xs ys k hx hy e he
  rcases mrgF_mem o n xs ys he with ⟨z, hz, h⟩ | ⟨z, hz, h⟩ | ⟨z, hz, w, hw, _, h⟩
  ·rw [tg z e h]; exact (o.ne (hx z hz)).symm
  ·rw [tc z e h]; exact (o.ne (hy z hz)).symm
  ·rw [tb z w e h]; exact (o.ne (hy w hw)).symm
 intro n
 induction n with
 | zero => intro xs ys _ _ _ _; exact List.nodup_nil
 | succ n ih =>
  intro xs ys hxs hys hA hB
  cases xs with
  | nil => cases ys with
   | nil => exact List.nodup_nil
   | cons y ys =>
    obtain ⟨q1, q2⟩ := List.pairwise_cons.1 hys
    exact nodup_app_tag hft (nc y (hB y List.mem_cons_self)) (ih [] ys hxs q2 hA (fun z hz => hB z (List.mem_cons_of_mem _ hz))) (tc y) (tags n [] ys _ (by simp) q1)
  | cons x xs =>
   obtain ⟨p1, p2⟩ := List.pairwise_cons.1 hxs
   cases ys with
   | nil => exact nodup_app_tag hft (ng x (hA x List.mem_cons_self)) (ih xs [] p2 hys (fun z hz => hA z (List.mem_cons_of_mem _ hz)) hB) (tg x) (tags n xs [] _ p1 (by simp))
   | cons y ys =>
    obtain ⟨q1, q2⟩ := List.pairwise_cons.1 hys
    simp only [mrgF]
    split
    ·rename_i h
     refine nodup_app_tag hft (ng x (hA x List.mem_cons_self)) (ih xs (y :: ys) p2 hys (fun z hz => hA z (List.mem_cons_of_mem _ hz)) hB) (tg x) (tags n xs (y :: ys) _ p1 (fun z hz => ?_))
     rcases List.mem_cons.1 hz with rfl | hz
     ·exact h
     ·exact o.tr _ _ _ h (q1 z hz)
    split
    ·rename_i h
     refine nodup_app_tag hft (nc y (hB y List.mem_cons_self)) (ih (x :: xs) ys hxs q2 hA (fun z hz => hB z (List.mem_cons_of_mem _ hz))) (tc y) (tags n (x :: xs) ys _ (fun z hz => ?_) q1)
     rcases List.mem_cons.1 hz with rfl | hz
     ·exact h
     ·exact o.tr _ _ _ h (p1 z hz)
    ·rename_i h1 h2
     have e := o.conn _ _ (by simpa using h1) (by simpa using h2)
     exact nodup_app_tag hft (nb x y (hA x List.mem_cons_self) (hB y List.mem_cons_self)) (ih xs ys p2 q2 (fun z hz => hA z (List.mem_cons_of_mem _ hz)) (fun z hz => hB z (List.mem_cons_of_mem _ hz))) (tb x y) (tags n xs ys _ (by rw [← e]; exact p1) q1)
end
end Go.Aw
