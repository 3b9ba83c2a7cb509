/-
  DeltaParts: the parts of a list, applied one after the other, in any order, have the effect of the whole list; all but the last one have the asked size.
  Conditions: none.
-/
import Derived.Test.YtcamhcnjomddbaaK1
import Derived.Test.YtcamhcnjomddbaaK2
import Derived.Test.YtcamhcnjomddbaaGL
import Derived.Test.YtcamhcnjomddbaaRows
set_option linter.unusedSimpArgs false
set_option linter.unusedVariables false
/-
  PLAIN: sets of frames by their words' positions; lists applied; differences.
-/
namespace Go.Proofs.Ytcamhcnjomddbaa
open Go.Aw
def Pos.lt (a b : Pos) : Prop := a.p < b.p ∨ (a.p = b.p ∧ (a.f < b.f ∨ (a.f = b.f ∧ a.w < b.w)))
theorem Pos.lt_ne {a b : Pos} (h : a.lt b) : a ≠ b := by rintro rfl; unfold Pos.lt at h; omega
theorem zipIdx_range {α : Type} (l : List α) (d : α) : l.zipIdx = (List.range l.length).map fun j => (l.getD j d, j) := by
  apply List.ext_getElem (by simp)
  intro i h1 h2
  simp at h1
  simp [List.getD, h1]
def posA (A : Frames) : List Pos := (wordsA A).map (·.1)
theorem wordsA_eq (A : Frames) : wordsA A = (List.range A.length).flatMap fun (i : Nat) => (List.range (A.getD i []).length).flatMap fun (j : Nat) => (List.range ((A.getD i []).getD j []).length).map fun (k : Nat) => ((⟨i, j, k⟩ : Pos), ((A.getD i []).getD j []).getD k 0) := by
  unfold wordsA wordsR wordsF
  rw [zipIdx_range A [], List.flatMap_map]
  congr 1; funext i
  rw [zipIdx_range (A.getD i []) [], List.flatMap_map]
  congr 1; funext j
  rw [zipIdx_range ((A.getD i []).getD j []) 0, List.map_map]
  rfl
theorem mem_posA {A : Frames} {p : Pos} : p ∈ posA A ↔ ∃ i j k : Nat, i < A.length ∧ j < (A.getD i []).length ∧ k < ((A.getD i []).getD j []).length ∧ p = ⟨i, j, k⟩ := by
  unfold posA
  rw [wordsA_eq]
  simp only [List.mem_map, List.mem_flatMap, List.mem_range]
  constructor
  · rintro ⟨q, ⟨i, h1, j, h2, k, h3, rfl⟩, rfl⟩
    exact ⟨i, j, k, h1, h2, h3, rfl⟩
  · rintro ⟨i, j, k, h1, h2, h3, rfl⟩
    exact ⟨_, ⟨i, h1, j, h2, k, h3, rfl⟩, rfl⟩
theorem posA_lt (A : Frames) : (posA A).Pairwise Pos.lt := by
  unfold posA
  rw [wordsA_eq, List.pairwise_map, List.pairwise_flatMap]
  refine ⟨fun i _ => ?_, ?_⟩
  · rw [List.pairwise_flatMap]
    refine ⟨fun j _ => ?_, ?_⟩
    · rw [List.pairwise_map]
      refine List.pairwise_lt_range.imp fun h => ?_
      exact .inr ⟨rfl, .inr ⟨rfl, Int.ofNat_lt.2 h⟩⟩
    · refine List.pairwise_lt_range.imp fun h => ?_
      simp only [List.mem_map, List.mem_range]
      rintro _ ⟨k, _, rfl⟩ _ ⟨k', _, rfl⟩
      exact .inr ⟨rfl, .inl (Int.ofNat_lt.2 h)⟩
  · refine List.pairwise_lt_range.imp fun h => ?_
    simp only [List.mem_flatMap, List.mem_map, List.mem_range]
    rintro _ ⟨j, _, k, _, rfl⟩ _ ⟨j', _, k', _, rfl⟩
    exact .inl (Int.ofNat_lt.2 h)
theorem posA_nodup (A : Frames) : (posA A).Nodup := by
  rw [List.nodup_iff_pairwise_ne]
  exact (posA_lt A).imp fun h => Pos.lt_ne h
theorem wordsA_pos (A : Frames) : wordsA A = (posA A).map fun p => (p, wordAt A p) := by
  unfold posA
  rw [List.map_map, wordsA_eq]
  simp only [List.map_flatMap, List.map_map]
  rfl
theorem getD_shape (A : Frames) (i : Nat) : (shape A).getD i [] = (A.getD i []).map List.length := by
  simp only [shape, List.getD, List.getElem?_map]
  cases A[i]? <;> rfl
theorem getD_map_len (r : List (List Nat)) (j : Nat) : (r.map List.length).getD j 0 = (r.getD j []).length := by
  simp only [List.getD, List.getElem?_map]
  cases r[j]? <;> rfl
theorem posA_shape {A B : Frames} (h : shape A = shape B) : posA A = posA B := by
  unfold posA
  have e1 : ∀ i, (A.getD i []).map List.length = (B.getD i []).map List.length := fun i => by rw [← getD_shape, ← getD_shape, h]
  have e2 : ∀ i, (A.getD i []).length = (B.getD i []).length := fun i => by simpa using congrArg List.length (e1 i)
  have e3 : ∀ i j, ((A.getD i []).getD j []).length = ((B.getD i []).getD j []).length := fun i j => by rw [← getD_map_len, ← getD_map_len, e1]
  rw [wordsA_eq, wordsA_eq, shape_len h]
  simp only [List.map_flatMap, List.map_map, e2, e3]
  rfl
theorem getD_set {α : Type} (l : List α) (i i' : Nat) (x d : α) : (l.set i x).getD i' d = if i' = i ∧ i < l.length then x else l.getD i' d := by
  simp only [List.getD, List.getElem?_set]
  by_cases h : i = i'
  · subst h
    by_cases h2 : i < l.length
    · simp [h2]
    · simp [h2]
  · simp [h, Ne.symm h]
theorem wordAt_setW {A : Frames} {i j k v : Nat} (h1 : i < A.length) (h2 : j < (A.getD i []).length) (h3 : k < ((A.getD i []).getD j []).length) (i' j' k' : Nat) :
    wordAt (setW A i j k v) ⟨i', j', k'⟩ = if i' = i ∧ j' = j ∧ k' = k then v else wordAt A ⟨i', j', k'⟩ := by
  unfold wordAt setW
  simp only [Int.toNat_natCast, getD_set]
  by_cases e1 : i' = i
  · subst e1
    simp only [true_and, h1, if_true]
    rw [getD_set]
    by_cases e2 : j' = j
    · subst e2
      simp only [true_and, h2, if_true]
      rw [getD_set]
      by_cases e3 : k' = k
      · subst e3; simp only [true_and, h3, if_true]
      · simp only [e3, false_and, if_false]
    · simp only [e2, false_and, if_false]
  · simp only [e1, false_and, if_false]
theorem ext_words {A B : Frames} (hs : shape A = shape B) (h : ∀ p ∈ posA A, wordAt A p = wordAt B p) : A = B := by
  apply List.ext_getElem (shape_len hs)
  intro i h1 h2
  have hr := shape_row hs h1 h2
  have e1 : A.getD i [] = A[i] := by simp [List.getD, h1]
  have e2 : B.getD i [] = B[i] := by simp [List.getD, h2]
  apply List.ext_getElem (by simpa using congrArg List.length hr)
  intro j h3 h4
  have e3 : A[i].getD j [] = A[i][j] := by simp [List.getD, h3]
  have e4 : B[i].getD j [] = B[i][j] := by simp [List.getD, h4]
  have hl : A[i][j].length = B[i][j].length := by
    have := congrArg (fun l => l[j]?) hr
    simpa [h3, h4] using this
  apply List.ext_getElem hl
  intro k h5 h6
  have := h ⟨i, j, k⟩ (mem_posA.2 ⟨i, j, k, h1, by rw [e1]; exact h3, by rw [e1, e3]; exact h5, rfl⟩)
  simp only [wordAt, Int.toNat_natCast, e1, e2, e3, e4] at this
  simpa [List.getD, h5, h6] using this
theorem fit1_iff {A : Frames} {q : Patch} : fit1 A q ↔ posOf q ∈ posA A := by
  rw [mem_posA]
  unfold fit1 posOf
  constructor
  · rintro ⟨⟨a1, a2⟩, ⟨b1, b2⟩, c1, c2⟩
    refine ⟨q.p.toNat, q.f.toNat, q.w.toNat, by omega, by omega, by omega, ?_⟩
    simp only [Pos.mk.injEq]; omega
  · rintro ⟨i, j, k, h1, h2, h3, e⟩
    simp only [Pos.mk.injEq] at e
    obtain ⟨e1, e2, e3⟩ := e
    rw [e1, e2, e3]
    simp only [Int.toNat_natCast]
    omega

/-! ### xor of words -/
def W64 : Nat := 18446744073709551616
theorem xorN_eq {a b : Nat} (ha : a < W64) (hb : b < W64) : xorN a b = a ^^^ b := by
  unfold xorN xorU
  have h : (BitVec.ofInt IntKind.u64.bits (a : Int) ^^^ BitVec.ofInt IntKind.u64.bits (b : Int)).toNat = a ^^^ b := by
    show (BitVec.ofInt 64 (a : Int) ^^^ BitVec.ofInt 64 (b : Int)).toNat = a ^^^ b
    simp only [BitVec.toNat_xor, BitVec.ofInt_natCast, BitVec.toNat_ofNat]
    unfold W64 at ha hb
    rw [Nat.mod_eq_of_lt (by simpa using ha), Nat.mod_eq_of_lt (by simpa using hb)]
  rw [h, wrap_u]
  · simp
  · exact Nat.xor_lt_two_pow (n := 64) ha hb
theorem xorN_lt (a b : Nat) : xorN a b < W64 := by
  unfold xorN xorU W64
  simp only [IntKind.wrap, IntKind.bits, IntKind.signed]
  simp
  omega
theorem xorN_zero {a b : Nat} (ha : a < W64) (hb : b < W64) : xorN a b = 0 ↔ a = b := by
  rw [xorN_eq ha hb]
  constructor
  · intro h
    have := congrArg (· ^^^ b) h
    simpa [Nat.xor_assoc] using this
  · rintro rfl; simp
theorem xorN_back {a b : Nat} (ha : a < W64) (hb : b < W64) : xorN a (xorN a b) = b := by
  rw [xorN_eq ha (xorN_lt _ _), xorN_eq ha hb, ← Nat.xor_assoc]; simp
theorem xorN_comm (a b : Nat) : xorN a b = xorN b a := by unfold xorN xorU; rw [BitVec.xor_comm]
def bnd (A : Frames) : Prop := ∀ p, wordAt A p < W64

/-! ### Lists applied -/
theorem wordAt_apply1 {A : Frames} {q : Patch} (hq : posOf q ∈ posA A) {p : Pos} (hp : p ∈ posA A) : wordAt (apply1 A q) p = if p = posOf q then xorN (wordAt A p) q.x else wordAt A p := by
  obtain ⟨i, j, k, h1, h2, h3, e⟩ := mem_posA.1 hq
  obtain ⟨i', j', k', _, _, _, rfl⟩ := mem_posA.1 hp
  have e' := e
  simp only [posOf, Pos.mk.injEq] at e'
  obtain ⟨e1, e2, e3⟩ := e'
  unfold apply1
  rw [e, e1, e2, e3]
  simp only [Int.toNat_natCast]
  rw [wordAt_setW h1 h2 h3]
  by_cases h : i' = i ∧ j' = j ∧ k' = k
  · obtain ⟨rfl, rfl, rfl⟩ := h
    simp
  · rw [if_neg h, if_neg]
    intro hh
    simp only [Pos.mk.injEq] at hh
    omega
theorem posA_apply1 (A : Frames) (q : Patch) : posA (apply1 A q) = posA A := posA_shape (shape_apply1 A q)
def valL (l : List Patch) (p : Pos) : Option Nat := (l.find? fun q => posOf q = p).map (·.x)
theorem wordAt_applyL : ∀ (l : List Patch) (A : Frames), (∀ q ∈ l, posOf q ∈ posA A) → (l.map posOf).Nodup → ∀ p ∈ posA A, wordAt (applyL A l) p = match valL l p with | some x => xorN (wordAt A p) x | none => wordAt A p
  | [], A, _, _, p, _ => by simp [applyL, valL]
  | q :: l, A, hf, hn, p, hp => by
    simp only [List.map_cons, List.nodup_cons] at hn
    have hp' : p ∈ posA (apply1 A q) := by rw [posA_apply1]; exact hp
    have ih := wordAt_applyL l (apply1 A q) (fun q' h' => by rw [posA_apply1]; exact hf q' (by simp [h'])) hn.2 p hp'
    have hA : applyL A (q :: l) = applyL (apply1 A q) l := rfl
    rw [hA, ih, wordAt_apply1 (hf q (by simp)) hp]
    by_cases h : posOf q = p
    · subst h
      have h2 : valL l (posOf q) = none := by
        unfold valL
        rw [Option.map_eq_none_iff, List.find?_eq_none]
        intro q' hq' e
        exact hn.1 (List.mem_map.2 ⟨q', hq', by simpa using e⟩)
      have h3 : valL (q :: l) (posOf q) = some q.x := by simp [valL]
      rw [h2, h3]
      simp
    · have h3 : valL (q :: l) p = valL l p := by simp [valL, List.find?_cons, h]
      rw [h3, if_neg (Ne.symm h)]
theorem valL_some {l : List Patch} (hn : (l.map posOf).Nodup) {q : Patch} (hq : q ∈ l) : valL l (posOf q) = some q.x := by
  induction l with
  | nil => cases hq
  | cons q' l ih =>
    simp only [List.map_cons, List.nodup_cons] at hn
    rcases List.mem_cons.1 hq with rfl | hq
    · simp [valL]
    · have : posOf q' ≠ posOf q := fun e => hn.1 (List.mem_map.2 ⟨q, hq, e.symm⟩)
      simp only [valL, List.find?_cons, this, decide_false]
      exact ih hn.2 hq
theorem valL_none {l : List Patch} {p : Pos} : valL l p = none ↔ ∀ q ∈ l, posOf q ≠ p := by
  unfold valL
  rw [Option.map_eq_none_iff, List.find?_eq_none]
  simp
end Go.Proofs.Ytcamhcnjomddbaa

/-
  PLAIN: what package delta applies is what the reference applies; differences lead.
-/
namespace Go.Proofs.Ytcamhcnjomddbaa
open Go.Aw
theorem xorN_0 {a : Nat} (ha : a < W64) : xorN a 0 = a := by
  rw [xorN_eq ha (by unfold W64; omega)]; simp
theorem valR_filter (R : Ents) (p q : Pos) (h : p ≠ q) : valR (R.filter fun e => posOf e.1 ≠ q) p = valR R p := by
  unfold valR
  rw [List.find?_filter]
  congr 2
  congr 1
  funext e
  by_cases h2 : posOf e.1 = p
  · simp [h2, h]
  · simp [h2]
theorem runW_spec : ∀ (ws : List (Pos × Nat)) (A : Frames) (R : Ents), (ws.map (·.1)).Nodup → (∀ q ∈ ws, q.1 ∈ posA A) →
    shape (ws.foldl stepW (A, R)).1 = shape A ∧ (∀ p ∈ posA A, wordAt (ws.foldl stepW (A, R)).1 p = if p ∈ ws.map (·.1) then xorN (wordAt A p) (valR R p) else wordAt A p) ∧
      (ws.foldl stepW (A, R)).2 = R.filter fun e => posOf e.1 ∉ ws.map (·.1)
  | [], A, R, _, _ => by
    refine ⟨rfl, fun p _ => by simp, ?_⟩
    exact (List.filter_eq_self.2 (fun e _ => by simp)).symm
  | q :: ws, A, R, hn, hi => by
    simp only [List.map_cons, List.nodup_cons] at hn
    obtain ⟨A1, R1, h1⟩ : ∃ A1 R1, stepW (A, R) q = (A1, R1) := ⟨_, _, rfl⟩
    have hA1 : A1 = setW A q.1.p.toNat q.1.f.toNat q.1.w.toNat (xorN (wordAt A q.1) (valR R q.1)) := by
      have := congrArg Prod.fst h1; exact this.symm
    have hR1 : R1 = R.filter fun e => posOf e.1 ≠ q.1 := by
      have := congrArg Prod.snd h1; exact this.symm
    have hsh : shape A1 = shape A := by rw [hA1]; exact shape_setW _ _ _ _ _
    have hpos : posA A1 = posA A := posA_shape hsh
    obtain ⟨i1, i2, i3⟩ := runW_spec ws A1 R1 hn.2 (fun q' h' => by rw [hpos]; exact hi q' (by simp [h']))
    rw [List.foldl_cons, h1]
    obtain ⟨i, j, k, g1, g2, g3, hq⟩ := mem_posA.1 (hi q (by simp))
    have hw : ∀ p ∈ posA A, wordAt A1 p = if p = q.1 then xorN (wordAt A q.1) (valR R q.1) else wordAt A p := by
      intro p hp
      obtain ⟨i', j', k', _, _, _, rfl⟩ := mem_posA.1 hp
      rw [hA1, hq]
      simp only [Int.toNat_natCast]
      rw [wordAt_setW g1 g2 g3]
      by_cases h : i' = i ∧ j' = j ∧ k' = k
      · obtain ⟨rfl, rfl, rfl⟩ := h; simp
      · rw [if_neg h, if_neg]
        intro hh
        simp only [Pos.mk.injEq] at hh
        omega
    refine ⟨i1.trans hsh, fun p hp => ?_, ?_⟩
    · rw [i2 p (by rw [hpos]; exact hp), hw p hp]
      by_cases h : p = q.1
      · subst h
        rw [if_neg hn.1]
        simp
      · rw [if_neg h]
        have : valR R1 p = valR R p := by rw [hR1]; exact valR_filter R p q.1 h
        rw [this]
        by_cases h2 : p ∈ ws.map (·.1)
        · rw [if_pos h2, if_pos (by rw [List.map_cons]; exact List.mem_cons_of_mem _ h2)]
        · rw [if_neg h2, if_neg (by rw [List.map_cons, List.mem_cons]; exact fun h' => h'.elim h h2)]
    · rw [i3, hR1, List.filter_filter]
      congr 1
      funext e
      by_cases h : posOf e.1 = q.1 <;> simp [h]
theorem applyL_nodup {l : List Patch} (h : Normal l) : (l.map posOf).Nodup := normal_nodup h
theorem valR_zip (l : List Patch) (p : Pos) : valR l.zipIdx p = (valL l p).getD 0 := by
  unfold valR valL
  have : ∀ k, (l.zipIdx k).find? (fun e => decide (posOf e.1 = p)) = ((l.zipIdx k).find? fun e => decide (posOf e.1 = p)) := fun _ => rfl
  have h : ∀ (l : List Patch) (k : Nat), ((l.zipIdx k).find? fun e => decide (posOf e.1 = p)).map (·.1.x) = (l.find? fun q => decide (posOf q = p)).map (·.x) := by
    intro l
    induction l with
    | nil => intro k; rfl
    | cons q l ih =>
      intro k
      rw [List.zipIdx_cons, List.find?_cons, List.find?_cons]
      by_cases h : posOf q = p
      · simp [h]
      · simp only [h, decide_false]; exact ih (k + 1)
  rw [h]
theorem applyD_eq {A : Frames} (hb : bnd A) (l : List Patch) : applyD A l = applyIn A l := by
  unfold applyD applyIn
  by_cases hN : Normal l
  · simp only [hN, if_true]
    have hws : ((wordsA A).map (·.1)).Nodup := posA_nodup A
    obtain ⟨h1, h2, h3⟩ := runW_spec (wordsA A) A l.zipIdx hws (fun q hq => List.mem_map.2 ⟨q, hq, rfl⟩)
    have hfit : (runW l A (wordsA A)).2 = [] ↔ ∀ q ∈ l, fit1 A q := by
      unfold runW
      rw [h3, List.filter_eq_nil_iff]
      constructor
      · intro h q hq
        obtain ⟨k, hk, rfl⟩ := List.getElem_of_mem hq
        have := h (l[k], k) (by simp [List.mk_mem_zipIdx_iff_getElem?, hk])
        simp only [decide_not, Bool.not_eq_true', decide_eq_false_iff_not, Decidable.not_not] at this
        exact fit1_iff.2 this
      · intro h e he
        have := fit1_iff.1 (h e.1 (List.fst_mem_of_mem_zipIdx he))
        have h5 : posOf e.1 ∈ (wordsA A).map (·.1) := this
        simpa only [decide_not, Bool.not_eq_true', decide_eq_false_iff_not, Decidable.not_not] using h5
    by_cases hF : ∀ q ∈ l, fit1 A q
    · have hFits : Fits A l := ⟨hF, hN⟩
      rw [if_pos (hfit.2 hF), if_pos hFits]
      congr 1
      refine ext_words (by rw [shape_applyL]; exact h1) (fun p hp => ?_)
      have hp' : p ∈ posA A := by rw [← posA_shape h1]; exact hp
      have h4 := h2 p hp'
      have h5 : p ∈ (wordsA A).map (·.1) := hp'
      rw [if_pos h5] at h4
      have h6 := wordAt_applyL l A (fun q hq => fit1_iff.1 (hF q hq)) (normal_nodup hN) p hp'
      show wordAt ((wordsA A).foldl stepW (A, l.zipIdx)).1 p = _
      rw [h4, h6, valR_zip]
      cases valL l p with
      | none => exact xorN_0 (hb p)
      | some x => rfl
    · have hFits : ¬ Fits A l := fun h => hF h.1
      rw [if_neg (fun h => hF (hfit.1 h)), if_neg hFits]
  · have hFits : ¬ Fits A l := fun h => hN h.2
    simp only [hN, if_false, if_neg hFits]

/-! ### Differences -/
def xorAt (f g : Frames) (p : Pos) : Nat := xorN (wordAt f p) (wordAt g p)
def dl (f g : Frames) : List Patch := (posA f).filterMap fun p => if xorAt f g p = 0 then none else some ⟨p.p, p.f, p.w, xorAt f g p⟩
theorem diffL_dl (f g : Frames) : diffL g (wordsA f) = dl f g := by
  unfold diffL dl
  rw [wordsA_pos, List.filterMap_map]
  rfl
theorem diffR_dl {f g : Frames} (h : shape f = shape g) : diffR f g = (dl f g, 0) := by
  unfold diffR
  rw [if_pos h, diffL_dl]
theorem mem_dl {f g : Frames} {q : Patch} : q ∈ dl f g ↔ posOf q ∈ posA f ∧ xorAt f g (posOf q) = q.x ∧ q.x ≠ 0 := by
  unfold dl
  rw [List.mem_filterMap]
  constructor
  · rintro ⟨p, hp, h⟩
    split at h
    · cases h
    · rename_i hx
      cases h
      exact ⟨hp, rfl, hx⟩
  · rintro ⟨h1, h2, h3⟩
    refine ⟨posOf q, h1, ?_⟩
    rw [h2, if_neg h3]
    rfl
theorem Patch.lt_of {a b : Patch} : a.lt b ↔ (posOf a).lt (posOf b) := Iff.rfl
theorem normal_of {l : List Patch} (h1 : ∀ q ∈ l, q.x ≠ 0) (h2 : l.Pairwise Patch.lt) : Normal l := by
  intro i hi
  have e1 : l.getD i default = l[i] := by simp [List.getD, hi]
  rw [e1]
  refine ⟨h1 _ (by simp), fun h0 => ?_⟩
  have hi' : i - 1 < l.length := by omega
  have e2 : l.getD (i - 1) default = l[i - 1] := by simp [List.getD, hi']
  rw [e2]
  exact List.pairwise_iff_getElem.1 h2 (i - 1) i hi' hi (by omega)
theorem normal_iff {l : List Patch} : Normal l ↔ (∀ q ∈ l, q.x ≠ 0) ∧ l.Pairwise Patch.lt := by
  constructor
  · intro h
    refine ⟨fun q hq => ?_, List.pairwise_iff_getElem.2 fun i j hi hj hij => normal_lt h i j hij hj⟩
    obtain ⟨i, hi, rfl⟩ := List.getElem_of_mem hq
    have := (h i hi).1
    simpa [List.getD, hi] using this
  · rintro ⟨h1, h2⟩; exact normal_of h1 h2
theorem dl_pairwise (f g : Frames) : (dl f g).Pairwise Patch.lt := by
  unfold dl
  rw [List.pairwise_filterMap]
  refine (posA_lt f).imp ?_
  intro a b hab x hx y hy
  split at hx
  · cases hx
  · split at hy
    · cases hy
    · cases hx; cases hy
      exact hab
theorem dl_normal (f g : Frames) : Normal (dl f g) := normal_of (fun q hq => (mem_dl.1 hq).2.2) (dl_pairwise f g)
theorem dl_fits (f g : Frames) : Fits f (dl f g) := ⟨fun q hq => fit1_iff.2 (mem_dl.1 hq).1, dl_normal f g⟩
theorem valL_dl {f g : Frames} {p : Pos} (hp : p ∈ posA f) : valL (dl f g) p = if xorAt f g p = 0 then none else some (xorAt f g p) := by
  split
  · rename_i h
    rw [valL_none]
    rintro q hq rfl
    obtain ⟨_, h2, h3⟩ := mem_dl.1 hq
    exact h3 (h2.symm.trans h)
  · rename_i h
    have hq : (⟨p.p, p.f, p.w, xorAt f g p⟩ : Patch) ∈ dl f g := mem_dl.2 ⟨hp, rfl, h⟩
    exact valL_some (normal_nodup (dl_normal f g)) hq
theorem apply_dl {f g : Frames} (hs : shape f = shape g) (hf : bnd f) (hg : bnd g) : applyIn f (dl f g) = (g, 0) := by
  unfold applyIn
  rw [if_pos (dl_fits f g)]
  congr 1
  refine ext_words (by rw [shape_applyL, hs]) (fun p hp => ?_)
  have hp' : p ∈ posA f := by rw [← posA_shape (shape_applyL (dl f g) f)]; exact hp
  rw [wordAt_applyL _ _ (fun q hq => (mem_dl.1 hq).1) (normal_nodup (dl_normal f g)) p hp', valL_dl hp']
  by_cases h : xorAt f g p = 0
  · rw [if_pos h]
    exact (xorN_zero (hf p) (hg p)).1 h
  · rw [if_neg h]
    exact xorN_back (hf p) (hg p)
theorem dl_nil {f g : Frames} (hs : shape f = shape g) (hf : bnd f) (hg : bnd g) : dl f g = [] ↔ f = g := by
  constructor
  · intro h
    refine ext_words hs (fun p hp => ?_)
    refine (xorN_zero (hf p) (hg p)).1 ?_
    by_cases h0 : xorAt f g p = 0
    · exact h0
    · have : (⟨p.p, p.f, p.w, xorAt f g p⟩ : Patch) ∈ dl f g := mem_dl.2 ⟨hp, rfl, h0⟩
      rw [h] at this; cases this
  · rintro rfl
    rw [List.eq_nil_iff_forall_not_mem]
    intro q hq
    obtain ⟨_, h2, h3⟩ := mem_dl.1 hq
    refine h3 (h2.symm.trans ?_)
    exact (xorN_zero (hf _) (hf _)).2 rfl
/-- Less patches lead elsewhere. -/
theorem apply_less {f g : Frames} (hs : shape f = shape g) (hf : bnd f) (hg : bnd g) {l : List Patch} (hl : l.Sublist (dl f g)) : Fits f l ∧ ((∃ q ∈ dl f g, q ∉ l) → (applyIn f l).1 ≠ g) := by
  have hN : Normal l := normal_of (fun q hq => (mem_dl.1 (hl.subset hq)).2.2) ((dl_pairwise f g).sublist hl)
  have hF : Fits f l := ⟨fun q hq => (dl_fits f g).1 q (hl.subset hq), hN⟩
  refine ⟨hF, ?_⟩
  rintro ⟨q, hq, hql⟩ he
  unfold applyIn at he
  rw [if_pos hF] at he
  obtain ⟨h1, h2, h3⟩ := mem_dl.1 hq
  have := wordAt_applyL l f (fun q' hq' => (mem_dl.1 (hl.subset hq')).1) (normal_nodup hN) (posOf q) h1
  have hn : valL l (posOf q) = none := by
    rw [valL_none]
    intro q' hq' e
    obtain ⟨_, g2, _⟩ := mem_dl.1 (hl.subset hq')
    rw [e, h2] at g2
    refine hql ?_
    have : q' = q := by
      cases q'; cases q
      simp only [posOf, Pos.mk.injEq] at e
      obtain ⟨rfl, rfl, rfl⟩ := e
      simp only at g2
      rw [g2]
    rw [← this]; exact hq'
  rw [hn] at this
  simp only at he this
  rw [he] at this
  refine h3 (h2.symm.trans ((xorN_zero (hf _) (hg _)).2 ?_))
  exact this.symm
end Go.Proofs.Ytcamhcnjomddbaa

/-
  PLAIN: the sets that the laws make: their sizes, their words' bounds.
-/
namespace Go.Proofs.Ytcamhcnjomddbaa
open Go.Aw
theorem bnd_of {A : Frames} (h : ∀ r ∈ A, ∀ ws ∈ r, ∀ x ∈ ws, x < W64) : bnd A := by
  intro p
  unfold wordAt
  have key : ∀ (ws : List Nat) (k : Nat), (∀ x ∈ ws, x < W64) → ws.getD k 0 < W64 := by
    intro ws k hw
    rcases Nat.lt_or_ge k ws.length with h1 | h1
    · simp only [List.getD, List.getElem?_eq_getElem h1, Option.getD_some]; exact hw _ (by simp)
    · simp [List.getD, List.getElem?_eq_none h1, W64]
  rcases Nat.lt_or_ge p.p.toNat A.length with h1 | h1
  · have e1 : A.getD p.p.toNat [] = A[p.p.toNat] := by simp [List.getD, h1]
    rw [e1]
    rcases Nat.lt_or_ge p.f.toNat A[p.p.toNat].length with h2 | h2
    · have e2 : A[p.p.toNat].getD p.f.toNat [] = A[p.p.toNat][p.f.toNat] := by simp [List.getD, h2]
      rw [e2]
      exact key _ _ (h _ (List.getElem_mem h1) _ (List.getElem_mem h2))
    · have e2 : A[p.p.toNat].getD p.f.toNat [] = [] := by simp [List.getD, List.getElem?_eq_none h2]
      rw [e2]; simp [W64]
  · have e1 : A.getD p.p.toNat [] = [] := by simp [List.getD, List.getElem?_eq_none h1]
    rw [e1]; simp [W64]
theorem bnd_setW {A : Frames} (h : bnd A) (i j k v : Nat) (hv : v < W64) : bnd (setW A i j k v) := by
  intro p
  have h0 := h p
  unfold wordAt setW at *
  rw [getD_set]
  split
  · rename_i e1
    rw [getD_set]
    split
    · rename_i e2
      rw [getD_set]
      split
      · exact hv
      · rw [e1.1, e2.1] at h0; exact h0
    · rw [e1.1] at h0; exact h0
  · exact h0
theorem bnd_changedL : ∀ (l : List (Nat × Nat)) {A : Frames}, bnd A → (∀ c ∈ l, c.2 < W64) → bnd (changedL A l)
  | [], A, h, _ => h
  | c :: l, A, h, hc => by
    show bnd (changedL (changed1 A c) l)
    refine bnd_changedL l ?_ (fun c' h' => hc c' (by simp [h']))
    unfold changed1 setNth
    split
    · exact bnd_setW h _ _ _ _ (hc c (by simp))
    · exact h
theorem mem_made {bs ws : List Nat} {r : List (List Nat)} (h : r ∈ made bs ws) : ∃ i, i < 4 ∧ i < bs.length ∧ r = madeRow ws (bs.getD i 0) (cntM bs i) (bs.getD i 0 % 5) := by
  unfold made madeTo at h
  simp only [List.mem_map, List.mem_range] at h
  obtain ⟨i, hi, rfl⟩ := h
  exact ⟨i, by omega, by omega, rfl⟩
theorem made_bnd {bs ws : List Nat} (hw : ∀ w ∈ ws, w < W64) : bnd (made bs ws) := by
  refine bnd_of (fun r hr f hf x hx => ?_)
  obtain ⟨i, hi, _, rfl⟩ := mem_made hr
  unfold madeRow at hf
  simp only [List.mem_map, List.mem_range] at hf
  obtain ⟨j, hj, rfl⟩ := hf
  unfold madeF at hx
  simp only [List.mem_map, List.mem_range] at hx
  obtain ⟨t, ht, rfl⟩ := hx
  have h1 := cntM_le bs i
  have h2 := cntR_le (bs.getD i 0) j
  have h3 := lenM_le (bs.getD i 0) j
  have h4 : j < 5 := by omega
  unfold wordM
  rcases Nat.lt_or_ge (cntM bs i + cntR (bs.getD i 0) j + t) ws.length with h5 | h5
  · rw [List.getD_eq_getElem?_getD, List.getElem?_eq_getElem h5]; exact hw _ (List.getElem_mem h5)
  · rw [List.getD_eq_getElem?_getD, List.getElem?_eq_none h5]; show _ < W64; unfold W64; simp only [Option.getD_none]; omega
theorem made_small (bs ws : List Nat) : small (made bs ws) := by
  refine ⟨?_, fun r hr => ?_⟩
  · unfold made; rw [madeTo_len]; omega
  · obtain ⟨i, hi, _, rfl⟩ := mem_made hr
    refine ⟨by rw [madeRow_len]; omega, fun f hf => ?_⟩
    unfold madeRow at hf
    simp only [List.mem_map, List.mem_range] at hf
    obtain ⟨j, hj, rfl⟩ := hf
    rw [madeF_len]
    have := lenM_le (bs.getD i 0) j
    omega
theorem sum_le {l : List Nat} {m : Nat} (h : ∀ x ∈ l, x ≤ m) : l.sum ≤ l.length * m := by
  induction l with
  | nil => simp
  | cons x l ih =>
    have h1 := h x (by simp)
    have h2 := ih (fun y hy => h y (by simp [hy]))
    simp only [List.sum_cons, List.length_cons, Nat.add_mul, Nat.one_mul]
    omega
theorem made_words (bs ws : List Nat) : nWords (made bs ws) ≤ 64 := by
  unfold nWords
  have h1 : ∀ x ∈ (shape (made bs ws)).map List.sum, x ≤ 16 := by
    intro x hx
    simp only [shape, List.map_map, List.mem_map] at hx
    obtain ⟨r, hr, rfl⟩ := hx
    obtain ⟨i, hi, _, rfl⟩ := mem_made hr
    have h2 : ∀ y ∈ (madeRow ws (bs.getD i 0) (cntM bs i) (bs.getD i 0 % 5)).map List.length, y ≤ 4 := by
      intro y hy
      simp only [madeRow, List.map_map, List.mem_map, List.mem_range] at hy
      obtain ⟨j, _, rfl⟩ := hy
      simp only [Function.comp, madeF_len]
      exact lenM_le _ _
    have h3 := sum_le h2
    simp only [List.length_map, madeRow_len] at h3
    simp only [Function.comp]
    omega
  have h4 := sum_le h1
  simp only [List.length_map, shape] at h4
  have : (made bs ws).length ≤ 4 := by unfold made; rw [madeTo_len]; omega
  simp only [shape]
  omega
theorem words_le {A : Frames} (h : nWords A ≤ 64) : (wordsA A).length ≤ 2000000 := by rw [wordsA_len]; omega
theorem nWords_shape {A B : Frames} (h : shape A = shape B) : nWords A = nWords B := by unfold nWords; rw [h]
theorem dl_len (f g : Frames) : (dl f g).length ≤ nWords f := by
  rw [← wordsA_len]
  unfold dl posA
  refine Nat.le_trans (List.length_filterMap_le _ _) (by simp)
theorem posA_in {A : Frames} (hs : small A) {p : Pos} (h : p ∈ posA A) : posIn p := by
  obtain ⟨i, j, k, h1, h2, h3, rfl⟩ := mem_posA.1 h
  have e1 : A.getD i [] = A[i] := by simp [List.getD, h1]
  rw [e1] at h2 h3
  have e2 : A[i].getD j [] = A[i][j] := by simp [List.getD, h2]
  rw [e2] at h3
  obtain ⟨a1, a2⟩ := hs
  obtain ⟨b1, b2⟩ := a2 A[i] (by simp)
  have := b2 A[i][j] (by simp)
  exact ⟨wf_nat (by omega), wf_nat (by omega), wf_nat (by omega)⟩
theorem dl_in {f g : Frames} (hs : small f) : ∀ q ∈ dl f g, posIn (posOf q) := fun _ hq => posA_in hs (mem_dl.1 hq).1
end Go.Proofs.Ytcamhcnjomddbaa

/-
  ARGUMENTS OF THE LAWS AS DATA.
-/
namespace Go.Proofs.Ytcamhcnjomddbaa
open Go.Aw Go.ChangeShapes Go.WideShapes Go.ChangeAt Go.RowKit
set_option maxRecDepth 100000
theorem own : ownKnob Try.prog.godebug = none := by kernel_rfl
theorem laidOut : laidOutB Try.prog = true := by kernel_rfl
def shRaw : ASh := .agg [.sl [.int .u8], .sl [.int .u64]]
def shCh : ASh := .one (.sl [.int .u64, .int .u64])
theorem raw_of {d : D} (h : shRaw.fits d) : ∃ bs ws : List Nat, d = eMade bs ws ∧ (∀ b ∈ bs, b < 256) ∧ ∀ w ∈ ws, w < W64 := by
  obtain ⟨ds, rfl, h⟩ := h
  obtain ⟨a, b, rfl, h1, h2⟩ := fitsL_2 h
  obtain ⟨bs, rfl, hb⟩ := fits_sl (enc := fun b : Nat => [eByte b]) (p := fun b => b < 256) (fun e he => by
    obtain ⟨x, rfl, hx⟩ := fitsL_1 he
    obtain ⟨n, rfl, hn⟩ := fits_u8 hx
    exact ⟨n, rfl, hn⟩) h1
  obtain ⟨ws, rfl, hw⟩ := fits_sl (enc := fun b : Nat => [eU b]) (p := fun b => b < W64) (fun e he => by
    obtain ⟨x, rfl, hx⟩ := fitsL_1 he
    obtain ⟨n, rfl, hn⟩ := fits_u64 hx
    exact ⟨n, rfl, hn⟩) h2
  exact ⟨bs, ws, rfl, hb, hw⟩
theorem changes_of {d : D} (h : shCh.fits d) : ∃ l : List (Nat × Nat), d = eChanges l ∧ ∀ c ∈ l, c.1 < W64 ∧ c.2 < W64 := by
  obtain ⟨l, rfl, hl⟩ := fits_sl (enc := eChange) (p := fun c => c.1 < W64 ∧ c.2 < W64) (fun e he => by
    obtain ⟨x, y, rfl, hx, hy⟩ := fitsL_2 he
    obtain ⟨n, rfl, hn⟩ := fits_u64 hx
    obtain ⟨m, rfl, hm⟩ := fits_u64 hy
    exact ⟨(n, m), rfl, hn, hm⟩) h
  exact ⟨l, rfl, hl⟩
theorem bytes_of {d : D} (h : Sh.fits (.sl [.int .u8]) d) : ∃ l : List Nat, d = eBytes l ∧ ∀ b ∈ l, b < 256 := by
  obtain ⟨l, rfl, hl⟩ := fits_sl (enc := fun b : Nat => [eByte b]) (p := fun b => b < 256) (fun e he => by
    obtain ⟨x, rfl, hx⟩ := fitsL_1 he
    obtain ⟨n, rfl, hn⟩ := fits_u8 hx
    exact ⟨n, rfl, hn⟩) h
  exact ⟨l, rfl, hl⟩
def shPatch : List Sh := [.int .i64, .int .i64, .int .i64, .int .u64]
theorem patches_of {d : D} (h : Sh.fits (.sl shPatch) d) : ∃ l : List Patch, d = ePatches l ∧ ∀ q ∈ l, posIn (posOf q) ∧ q.x < W64 := by
  obtain ⟨l, rfl, hl⟩ := fits_sl (enc := ePatch) (p := fun q => posIn (posOf q) ∧ q.x < W64) (fun e he => by
    obtain ⟨x, y, z, u, rfl, hx, hy, hz, hu⟩ := fitsL_4 he
    obtain ⟨a, rfl, ha, _⟩ := fits_i64 hx
    obtain ⟨b, rfl, hb, _⟩ := fits_i64 hy
    obtain ⟨c, rfl, hc, _⟩ := fits_i64 hz
    obtain ⟨n, rfl, hn⟩ := fits_u64 hu
    exact ⟨⟨a, b, c, n⟩, rfl, ⟨ha, hb, hc⟩, hn⟩) h
  exact ⟨l, rfl, hl⟩
end Go.Proofs.Ytcamhcnjomddbaa

/-
  PLAIN: differences the other way round; lists applied twice; compositions.
-/
namespace Go.Proofs.Ytcamhcnjomddbaa
open Go.Aw Go.Sort
theorem xorAt_comm (f g : Frames) (p : Pos) : xorAt f g p = xorAt g f p := xorN_comm _ _
theorem dl_comm {f g : Frames} (h : shape f = shape g) : dl g f = dl f g := by
  unfold dl
  rw [posA_shape h]
  congr 1; funext p; rw [xorAt_comm]
theorem bnd_applyL : ∀ (l : List Patch) {A : Frames}, bnd A → bnd (applyL A l)
  | [], _, h => h
  | q :: l, A, h => bnd_applyL l (bnd_setW h _ _ _ _ (xorN_lt _ _))
theorem xorN_lt64 (a b : Nat) : xorN a b < W64 := xorN_lt a b
theorem xorN_assoc {a b c : Nat} (ha : a < W64) (hb : b < W64) (hc : c < W64) : xorN (xorN a b) c = xorN a (xorN b c) := by
  rw [xorN_eq (xorN_lt _ _) hc, xorN_eq ha hb, xorN_eq ha (xorN_lt _ _), xorN_eq hb hc, Nat.xor_assoc]
theorem xorN_self {a : Nat} (ha : a < W64) : xorN a a = 0 := (xorN_zero ha ha).2 rfl
theorem xorN_twice {a x : Nat} (ha : a < W64) (hx : x < W64) : xorN (xorN a x) x = a := by rw [xorN_assoc ha hx hx, xorN_self hx, xorN_0 ha]
theorem fits_applyL {A : Frames} {l : List Patch} (h : Fits A l) : Fits (applyL A l) l := by
  refine ⟨fun q hq => fit1_iff.2 ?_, h.2⟩
  rw [posA_shape (shape_applyL l A)]
  exact fit1_iff.1 (h.1 q hq)
theorem apply_twice {A : Frames} {l : List Patch} (hb : bnd A) (hx : ∀ q ∈ l, q.x < W64) (h : Fits A l) : applyIn (applyL A l) l = (A, 0) := by
  unfold applyIn
  rw [if_pos (fits_applyL h)]
  congr 1
  refine ext_words (by rw [shape_applyL, shape_applyL]) (fun p hp => ?_)
  have hs := shape_applyL l (applyL A l)
  rw [posA_shape hs] at hp
  have hp' : p ∈ posA A := by rw [posA_shape (shape_applyL l A)] at hp; exact hp
  rw [wordAt_applyL l _ (fun q hq => fit1_iff.1 ((fits_applyL h).1 q hq)) (normal_nodup h.2) p hp, wordAt_applyL l A (fun q hq => fit1_iff.1 (h.1 q hq)) (normal_nodup h.2) p hp']
  cases hv : valL l p with
  | none => rfl
  | some x =>
    simp only
    have : x < W64 := by
      unfold valL at hv
      obtain ⟨q, hq, rfl⟩ := Option.map_eq_some_iff.1 hv
      exact hx q (List.mem_of_find?_eq_some hq)
    exact xorN_twice (hb p) this
theorem fits_nil (A : Frames) : Fits A [] := ⟨by simp, by intro i hi; simp at hi⟩

/-! ### Compositions -/
theorem getE_addE (E : PEnts) (p p' : Pos) (x : Nat) : getE (addE E p x) p' = if p = p' then xorN (getE E p) x else getE E p' := by
  unfold addE
  split
  · rename_i h
    have hp : E[E.findIdx fun e => e.1 = p].1 = p := by simpa using List.findIdx_getElem (w := h)
    have hbefore : ∀ j (hj : j < E.findIdx fun e => e.1 = p), (E[j]'(by omega)).1 ≠ p := by
      intro j hj
      have := List.not_of_lt_findIdx hj
      simpa using this
    have gen : ∀ (i v : Nat) (h : i < E.length), E[i].1 = p → (∀ j (hj : j < i), (E[j]'(by omega)).1 ≠ p) → getE (E.set i (p, v)) p' = if p = p' then v else getE E p' := by
      intro i v h hp hbefore
      unfold getE
      by_cases e : p = p'
      · subst e
        rw [if_pos rfl]
        have : (E.set i (p, v)).find? (fun e => decide (e.1 = p)) = some (p, v) := by
          rw [List.find?_eq_some_iff_getElem]
          refine ⟨by simp, i, by simpa using h, by simp, fun j hj => ?_⟩
          rw [List.getElem_set_ne (by omega)]
          have := hbefore j hj
          simpa using this
        rw [this]
        rfl
      · rw [if_neg e]
        congr 2
        have key : ∀ (E : PEnts) (i : Nat) (h : i < E.length), E[i].1 = p → (E.set i (p, v)).find? (fun e => decide (e.1 = p')) = E.find? fun e => decide (e.1 = p') := by
          intro E
          induction E with
          | nil => intro i h; simp at h
          | cons y E ih =>
            intro i h hy
            cases i with
            | zero =>
              simp only [List.getElem_cons_zero] at hy
              rw [List.set_cons_zero, List.find?_cons, List.find?_cons]
              simp [e, hy]
            | succ i =>
              rw [List.set_cons_succ, List.find?_cons, List.find?_cons]
              rw [ih i (by simpa using h) (by simpa using hy)]
        exact key E i h hp
    exact gen _ _ h hp hbefore
  · rename_i h
    have hno : ∀ e ∈ E, e.1 ≠ p := by
      intro e he h2
      exact h (List.findIdx_lt_length_of_exists ⟨e, he, by simpa using h2⟩)
    unfold getE
    rw [List.find?_append]
    by_cases e : p = p'
    · subst e
      rw [if_pos rfl]
      have : E.find? (fun e => decide (e.1 = p)) = none := by
        rw [List.find?_eq_none]; intro y hy; simpa using hno y hy
      rw [this]
      simp
    · rw [if_neg e]
      cases E.find? fun e => decide (e.1 = p') with
      | none => simp [e]
      | some y => simp
def accX (a : Nat) (p : Pos) (l : List Patch) : Nat := l.foldl (fun a q => if posOf q = p then xorN a q.x else a) a
theorem getE_entsOf (l : List Patch) (p : Pos) : getE (entsOf l) p = accX 0 p l := by
  have : ∀ (l : List Patch) (E : PEnts), getE (l.foldl (fun E q => addE E (posOf q) q.x) E) p = accX (getE E p) p l := by
    intro l
    induction l with
    | nil => intro E; rfl
    | cons q l ih =>
      intro E
      rw [List.foldl_cons, ih, getE_addE, accX, accX, List.foldl_cons]
      split
      · rename_i h; rw [h]
      · rfl
  exact this l []
theorem accX_val {l : List Patch} (hn : (l.map posOf).Nodup) (a : Nat) (p : Pos) : accX a p l = match valL l p with | some x => xorN a x | none => a := by
  induction l generalizing a with
  | nil => rfl
  | cons q l ih =>
    simp only [List.map_cons, List.nodup_cons] at hn
    have hs : accX a p (q :: l) = accX (if posOf q = p then xorN a q.x else a) p l := rfl
    rw [hs, ih hn.2]
    by_cases h : posOf q = p
    · have h1 : valL (q :: l) p = some q.x := by simp [valL, h]
      have h2 : valL l p = none := by
        rw [valL_none]
        intro q' hq' e
        exact hn.1 (List.mem_map.2 ⟨q', hq', e.trans h.symm⟩)
      rw [h1, h2, if_pos h]
    · have h1 : valL (q :: l) p = valL l p := by simp [valL, h]
      rw [h1, if_neg h]
theorem accX_app (a : Nat) (p : Pos) (l m : List Patch) : accX a p (l ++ m) = accX (accX a p l) p m := by simp [accX]
theorem getE_mem {E : PEnts} {p : Pos} (h : getE E p ≠ 0) : p ∈ E.map (·.1) := by
  unfold getE at h
  cases hf : E.find? fun e => decide (e.1 = p) with
  | none => rw [hf] at h; exact absurd rfl h
  | some e =>
    have h1 := List.mem_of_find?_eq_some hf
    have h2 := List.find?_some hf
    exact List.mem_map.2 ⟨e, h1, by simpa using h2⟩
theorem addE_nodup {E : PEnts} (h : (E.map (·.1)).Nodup) (p : Pos) (x : Nat) : ((addE E p x).map (·.1)).Nodup := by
  unfold addE
  split
  · rename_i hi
    have hp : E[E.findIdx fun e => e.1 = p].1 = p := by simpa using List.findIdx_getElem (w := hi)
    have : (E.set (E.findIdx fun e => e.1 = p) (p, xorN (getE E p) x)).map (·.1) = E.map (·.1) := by
      apply List.ext_getElem (by simp)
      intro k h1 h2
      rw [List.getElem_map, List.getElem_map, List.getElem_set]
      split
      · rename_i e; subst e; exact hp.symm
      · rfl
    rw [this]; exact h
  · rename_i hi
    rw [List.map_append, List.nodup_append]
    refine ⟨h, by simp, ?_⟩
    intro a ha b hb
    simp only [List.map_cons, List.map_nil, List.mem_singleton] at hb
    subst hb
    rintro rfl
    obtain ⟨e, he, h2⟩ := List.mem_map.1 ha
    exact hi (List.findIdx_lt_length_of_exists ⟨e, he, by simpa using h2⟩)
theorem entsOf_nodup (l : List Patch) : ((entsOf l).map (·.1)).Nodup := by
  have : ∀ (l : List Patch) (E : PEnts), (E.map (·.1)).Nodup → ((l.foldl (fun E q => addE E (posOf q) q.x) E).map (·.1)).Nodup := by
    intro l
    induction l with
    | nil => intro E h; exact h
    | cons q l ih => intro E h; exact ih _ (addE_nodup h _ _)
  exact this l [] (by simp)
theorem sortP_lt {l : List Pos} (h : l.Nodup) : (sortP l).Pairwise Pos.lt := by
  have h1 : (sortP l).Pairwise fun x y => (!(ltOf cmpPos) y x) = true := by
    unfold sortP
    refine List.pairwise_mergeSort (fun a b c hab hbc => ?_) (fun a b => ?_) l
    · simp only [Bool.not_eq_true'] at *
      exact swoPos.ntrans c b a hbc hab
    · cases h2 : ltOf cmpPos b a with
      | false => simp
      | true =>
        have h3 := (ltOf_pos b a).1 h2
        have : ltOf cmpPos a b = false := by
          rw [ltOf_posF]; intro h4; unfold posLt at h3 h4; omega
        simp [this]
  have h2 : (sortP l).Nodup := ((List.mergeSort_perm l _).nodup_iff).2 h
  rw [List.nodup_iff_pairwise_ne] at h2
  refine (h1.and h2).imp ?_
  rintro a b ⟨h3, h4⟩
  have h5 : ¬ posLt b a := by simpa [ltOf_posF] using h3
  obtain ⟨a1, a2, a3⟩ := a
  obtain ⟨b1, b2, b3⟩ := b
  unfold posLt at h5
  unfold Pos.lt
  simp only [ne_eq, Pos.mk.injEq] at *
  omega
theorem sorted_ext : ∀ (l m : List Patch), l.Pairwise Patch.lt → m.Pairwise Patch.lt → (∀ q, q ∈ l ↔ q ∈ m) → l = m
  | [], [], _, _, _ => rfl
  | [], q :: m, _, _, h => by have := (h q).2 (by simp); cases this
  | q :: l, [], _, _, h => by have := (h q).1 (by simp); cases this
  | q :: l, r :: m, h1, h2, h => by
    rw [List.pairwise_cons] at h1 h2
    have hasym : ∀ {a b : Patch}, a.lt b → ¬ b.lt a := by
      intro a b h3 h4; unfold Patch.lt at h3 h4; omega
    have hqr : q = r := by
      rcases List.mem_cons.1 ((h q).1 (by simp)) with e | e
      · exact e
      · rcases List.mem_cons.1 ((h r).2 (by simp)) with e2 | e2
        · exact e2.symm
        · exact absurd (h1.1 r e2) (hasym (h2.1 q e))
    subst hqr
    congr 1
    refine sorted_ext l m h1.2 h2.2 (fun x => ?_)
    have hx := h x
    constructor
    · intro hm
      rcases List.mem_cons.1 (hx.1 (by simp [hm])) with e | e
      · subst e; exact absurd rfl (fun e => Patch.lt_pos (h1.1 _ hm) e)
      · exact e
    · intro hm
      rcases List.mem_cons.1 (hx.2 (by simp [hm])) with e | e
      · subst e; exact absurd rfl (fun e => Patch.lt_pos (h2.1 _ hm) e)
      · exact e
theorem mem_outE {E : PEnts} {q : Patch} : q ∈ outE E (sortP (E.map (·.1))) ↔ getE E (posOf q) = q.x ∧ q.x ≠ 0 := by
  unfold outE
  rw [List.mem_filterMap]
  constructor
  · rintro ⟨p, hp, h⟩
    split at h
    · cases h
    · rename_i hx; cases h; exact ⟨rfl, hx⟩
  · rintro ⟨h1, h2⟩
    refine ⟨posOf q, ?_, ?_⟩
    · unfold sortP
      exact (List.mergeSort_perm _ _).mem_iff.2 (getE_mem (by rw [h1]; exact h2))
    · rw [h1, if_neg h2]; rfl
theorem outE_lt (E : PEnts) (h : (E.map (·.1)).Nodup) : (outE E (sortP (E.map (·.1)))).Pairwise Patch.lt := by
  unfold outE
  rw [List.pairwise_filterMap]
  refine (sortP_lt h).imp ?_
  intro a b hab x hx y hy
  split at hx
  · cases hx
  · split at hy
    · cases hy
    · cases hx; cases hy; exact hab
def sumAt (l m : List Patch) (p : Pos) : Nat := accX 0 p (l ++ m)
/-- What a composition holds. -/
theorem mem_compose {l m : List Patch} (hl : Normal l) (hm : Normal m) (q : Patch) : q ∈ (composeR l m).1 ↔ sumAt l m (posOf q) = q.x ∧ q.x ≠ 0 := by
  unfold composeR
  rw [if_pos ⟨hl, hm⟩]
  show q ∈ outE _ _ ↔ _
  rw [mem_outE, getE_entsOf]
  rfl
theorem compose_lt {l m : List Patch} (hl : Normal l) (hm : Normal m) : (composeR l m).1.Pairwise Patch.lt := by
  unfold composeR
  rw [if_pos ⟨hl, hm⟩]
  exact outE_lt _ (entsOf_nodup _)
theorem compose_ok {l m : List Patch} (hl : Normal l) (hm : Normal m) : (composeR l m).2 = 0 := by
  unfold composeR
  rw [if_pos ⟨hl, hm⟩]
theorem compose_eq {l m k : List Patch} (hl : Normal l) (hm : Normal m) (hk : k.Pairwise Patch.lt) (h : ∀ q, q ∈ k ↔ sumAt l m (posOf q) = q.x ∧ q.x ≠ 0) : composeR l m = (k, 0) := by
  have h1 : (composeR l m).1 = k := sorted_ext _ _ (compose_lt hl hm) hk (fun q => by rw [mem_compose hl hm, h])
  rw [← h1, ← compose_ok hl hm]
theorem sumAt_val {l m : List Patch} (hl : Normal l) (hm : Normal m) (p : Pos) : sumAt l m p = (match valL m p with | some y => xorN (match valL l p with | some x => xorN 0 x | none => 0) y | none => (match valL l p with | some x => xorN 0 x | none => 0)) := by
  unfold sumAt
  rw [accX_app, accX_val (normal_nodup hm), accX_val (normal_nodup hl)]
theorem xor0N {a : Nat} (ha : a < W64) : xorN 0 a = a := by rw [xorN_comm, xorN_0 ha]
theorem valL_dl' {f g : Frames} (p : Pos) : valL (dl f g) p = if p ∈ posA f ∧ xorAt f g p ≠ 0 then some (xorAt f g p) else none := by
  by_cases h : p ∈ posA f
  · rw [valL_dl h]
    by_cases h2 : xorAt f g p = 0 <;> simp [h, h2]
  · rw [if_neg (fun h2 => h h2.1), valL_none]
    rintro q hq rfl
    exact h (mem_dl.1 hq).1
theorem compose_dl {f g h : Frames} (hfg : shape f = shape g) (hf : bnd f) (hg : bnd g) (hh : bnd h) : composeR (dl f g) (dl g h) = (dl f h, 0) := by
  refine compose_eq (dl_normal _ _) (dl_normal _ _) (dl_pairwise _ _) (fun q => ?_)
  rw [mem_dl, sumAt_val (dl_normal _ _) (dl_normal _ _), valL_dl', valL_dl', ← posA_shape hfg]
  have key : xorN (xorAt f g (posOf q)) (xorAt g h (posOf q)) = xorAt f h (posOf q) := by
    unfold xorAt
    rw [xorN_assoc (hf _) (hg _) (xorN_lt _ _), xorN_back (hg _) (hh _)]
  have l1 : xorAt f g (posOf q) < W64 := xorN_lt _ _
  have l2 : xorAt g h (posOf q) < W64 := xorN_lt _ _
  generalize xorAt f g (posOf q) = a at *
  generalize xorAt g h (posOf q) = b at *
  generalize xorAt f h (posOf q) = c at *
  by_cases hp : posOf q ∈ posA f
  · by_cases h1 : a = 0
    · rw [h1, xor0N l2] at key
      by_cases h2 : b = 0
      · simp [hp, h1, h2, ← key]
        try omega
      · simp [hp, h1, h2, ← key, xor0N l2]
    · by_cases h2 : b = 0
      · rw [h2, xorN_0 l1] at key
        simp [hp, h1, h2, xor0N l1, ← key]
      · simp [hp, h1, h2, xor0N l1, key]
  · simp [hp]
    omega
theorem compose_self {l : List Patch} (hl : Normal l) (hx : ∀ q ∈ l, q.x < W64) : composeR l l = ([], 0) := by
  refine compose_eq hl hl List.Pairwise.nil (fun q => ?_)
  have : sumAt l l (posOf q) = 0 := by
    rw [sumAt_val hl hl]
    cases hv : valL l (posOf q) with
    | none => rfl
    | some x =>
      have hx' : x < W64 := by
        unfold valL at hv
        obtain ⟨q, hq, rfl⟩ := Option.map_eq_some_iff.1 hv
        exact hx q (List.mem_of_find?_eq_some hq)
      simp only
      rw [xor0N hx', xorN_self hx']
  rw [this]
  simp
  omega
theorem dl_x (f g : Frames) : ∀ q ∈ dl f g, q.x < W64 := by
  intro q hq
  obtain ⟨_, h, _⟩ := mem_dl.1 hq
  rw [← h]; exact xorN_lt _ _
end Go.Proofs.Ytcamhcnjomddbaa

/-
  PLAIN: the parts of a list, in any order, have the effect of the whole list.
-/
namespace Go.Proofs.Ytcamhcnjomddbaa
open Go.Aw
theorem chunk_len (n : Nat) (l : List Patch) (k : Nat) : (chunk n l k).length = min n (l.length - k * n) := by unfold chunk; simp
theorem chunks_flatten (n : Nat) (hn : 0 < n) (l : List Patch) : (chunks n l).flatten = l := by
  have key : ∀ m, ((List.range m).map (chunk n l)).flatten = l.take (m * n) := by
    intro m
    induction m with
    | zero => simp
    | succ m ih =>
      rw [List.range_succ, List.map_append, List.flatten_append, ih]
      simp only [List.map_cons, List.map_nil, List.flatten_cons, List.flatten_nil, List.append_nil, chunk]
      rw [Nat.add_mul, Nat.one_mul, List.take_add]
  unfold chunks
  rw [key]
  refine List.take_of_length_le ?_
  rcases Nat.lt_or_ge (nCh l.length n * n) l.length with h | h
  · have := (nCh_lt (L := l.length) (k := nCh l.length n) hn).2 h; omega
  · exact h
/-- The parts, in the order o. -/
def inOrder (P : List (List Patch)) (o : List Nat) : List Patch := (o.map fun k => P.getD k []).flatten
theorem inOrder_perm {P : List (List Patch)} {o : List Nat} (h : o.Perm (List.range P.length)) : (inOrder P o).Perm P.flatten := by
  unfold inOrder
  have h1 : (o.map fun k => P.getD k []).Perm ((List.range P.length).map fun k => P.getD k []) := h.map _
  rw [range_getD] at h1
  exact h1.flatten
theorem applyL_app (A : Frames) (l m : List Patch) : applyL A (l ++ m) = applyL (applyL A l) m := by simp [applyL]
theorem apply_perm {f g : Frames} (hs : shape f = shape g) (hf : bnd f) (hg : bnd g) {l : List Patch} (h : l.Perm (dl f g)) : applyL f l = g := by
  have h0 := apply_dl hs hf hg
  unfold applyIn at h0
  rw [if_pos (dl_fits f g)] at h0
  have h1 : applyL f (dl f g) = g := congrArg Prod.fst h0
  rw [← h1]
  refine ext_words (by rw [shape_applyL, shape_applyL]) (fun p hp => ?_)
  rw [posA_shape (shape_applyL l f)] at hp
  have hnd := normal_nodup (dl_normal f g)
  have hnl : (l.map posOf).Nodup := ((h.map posOf).nodup_iff).2 hnd
  rw [wordAt_applyL l f (fun q hq => (mem_dl.1 (h.mem_iff.1 hq)).1) hnl p hp, wordAt_applyL (dl f g) f (fun q hq => (mem_dl.1 hq).1) hnd p hp]
  have : valL l p = valL (dl f g) p := by
    cases hv : valL (dl f g) p with
    | none =>
      rw [valL_none] at hv ⊢
      exact fun q hq => hv q (h.mem_iff.1 hq)
    | some x =>
      unfold valL at hv
      obtain ⟨q, hq, rfl⟩ := Option.map_eq_some_iff.1 hv
      have hq1 := List.mem_of_find?_eq_some hq
      have hq2 : posOf q = p := by simpa using List.find?_some hq
      rw [← hq2]
      exact valL_some hnl (h.mem_iff.2 hq1)
  rw [this]
theorem chunk_sub (n : Nat) (l : List Patch) (k : Nat) : (chunk n l k).Sublist l := (List.take_sublist _ _).trans (List.drop_sublist _ _)
theorem chunk_fits {f g A : Frames} (hs : shape A = shape f) (n k : Nat) : Fits A (chunk n (dl f g) k) := by
  refine ⟨fun q hq => fit1_iff.2 ?_, ?_⟩
  · rw [posA_shape hs]; exact (mem_dl.1 ((chunk_sub n _ k).subset hq)).1
  · exact normal_of (fun q hq => (mem_dl.1 ((chunk_sub n _ k).subset hq)).2.2) ((dl_pairwise f g).sublist (chunk_sub n _ k))
theorem chunk_apply {f g A : Frames} (hs : shape A = shape f) (n k : Nat) : applyIn A (chunk n (dl f g) k) = (applyL A (chunk n (dl f g) k), 0) := by
  unfold applyIn; rw [if_pos (chunk_fits hs n k)]
theorem inOrder_step (P : List (List Patch)) (o : List Nat) (i : Nat) (h : i < o.length) : inOrder P (o.take (i + 1)) = inOrder P (o.take i) ++ P.getD o[i] [] := by
  rw [List.take_succ_eq_append_getElem h, inOrder, inOrder, List.map_append, List.flatten_append]; simp
theorem inOrder_le {P : List (List Patch)} {o : List Nat} (h : o.Perm (List.range P.length)) (i : Nat) : (inOrder P (o.take i)).length ≤ P.flatten.length := by
  have h1 := (inOrder_perm h).length_eq
  have h2 : inOrder P o = inOrder P (o.take i) ++ inOrder P (o.drop i) := by
    unfold inOrder
    rw [← List.flatten_append, ← List.map_append, List.take_append_drop]
  rw [h2, List.length_append] at h1
  omega
end Go.Proofs.Ytcamhcnjomddbaa

/-
  THE LAW DeltaParts, by its callees' contracts.
-/
namespace Go.Proofs.Ytcamhcnjomddbaa
open Go.Aw
set_option maxRecDepth 100000
set_option maxHeartbeats 4000000
def askN (ks : List Nat) : Nat := if 0 < ks.length then 1 + ks.getD 0 0 % 9 else 1
theorem parts_c (bs ws : List Nat) (ch : List (Nat × Nat)) (ks : List Nat) (hb : ∀ b ∈ bs, b < 256) (hw : ∀ w ∈ ws, w < W64) (hc : ∀ c ∈ ch, c.2 < W64) (hk : ∀ b ∈ ks, b < 256) : FnP Try.prog 8 [eMade bs ws, eChanges ch, eBytes ks] (.d (eB true)) [] := by
  refine FnP.of_eC (own := []) (fun id => []) mixed Try.func8 rfl Try.call8 Try.ntmps8 (Nat.le_of_ble_eq_true rfl) Try.results8 (fun hok => ?_)
  simp (config := { maxSteps := 4000000 }) only [SE, TF, KD, GE, eq_self, ne_eq, implies_true, forall_const, if_true, if_false, cond_true, cond_false, forall_eq, List.replicate, ↓reduceIte, Nat.reduceEqDiff, Nat.reduceLT, Nat.reduceAdd, Nat.reduceSub, Nat.reduceMul, Nat.reduceLeDiff, eMade, eBytes, eByte, eChanges, eChange, ePR, ePS, eApplied, eCh, eParts, eNats]
  refine EFn.p ?_
  simp (config := { maxSteps := 4000000 }) only [SE, TF, KD, GE, eq_self, ne_eq, implies_true, forall_const, if_true, if_false, cond_true, cond_false, forall_eq, List.replicate, ↓reduceIte, Nat.reduceEqDiff, Nat.reduceLT, Nat.reduceAdd, Nat.reduceSub, Nat.reduceMul, Nat.reduceLeDiff, eMade, eBytes, eByte, eChanges, eChange, ePR, ePS, eApplied, eCh, eParts, eNats]
  refine ECall.i (examples_c) ?_
  by_cases g1 : (ch.length : Int) > 40
  · simp (config := { maxSteps := 4000000 }) only [SE, TF, KD, GE, eq_self, ne_eq, implies_true, forall_const, if_true, if_false, cond_true, cond_false, forall_eq, List.replicate, ↓reduceIte, Nat.reduceEqDiff, Nat.reduceLT, Nat.reduceAdd, Nat.reduceSub, Nat.reduceMul, Nat.reduceLeDiff, eMade, eBytes, eByte, eChanges, eChange, ePR, ePS, eApplied, eCh, eParts, eNats, g1]
  simp (config := { maxSteps := 4000000 }) only [SE, TF, KD, GE, eq_self, ne_eq, implies_true, forall_const, if_true, if_false, cond_true, cond_false, forall_eq, List.replicate, ↓reduceIte, Nat.reduceEqDiff, Nat.reduceLT, Nat.reduceAdd, Nat.reduceSub, Nat.reduceMul, Nat.reduceLeDiff, eMade, eBytes, eByte, eChanges, eChange, ePR, ePS, eApplied, eCh, eParts, eNats, g1]
  have hm := made_c bs ws hb
  have hsm := made_small bs ws
  have hnw := made_words bs ws
  have hbf := made_bnd (bs := bs) hw
  generalize made bs ws = f at *
  refine EFn.p ?_
  simp (config := { maxSteps := 4000000 }) only [SE, TF, KD, GE, eq_self, ne_eq, implies_true, forall_const, if_true, if_false, cond_true, cond_false, forall_eq, List.replicate, ↓reduceIte, Nat.reduceEqDiff, Nat.reduceLT, Nat.reduceAdd, Nat.reduceSub, Nat.reduceMul, Nat.reduceLeDiff, eMade, eBytes, eByte, eChanges, eChange, ePR, ePS, eApplied, eCh, eParts, eNats]
  have hc := hm
  simp (config := { maxSteps := 4000000 }) only [SE, TF, KD, GE, eq_self, ne_eq, implies_true, forall_const, if_true, if_false, cond_true, cond_false, forall_eq, List.replicate, ↓reduceIte, Nat.reduceEqDiff, Nat.reduceLT, Nat.reduceAdd, Nat.reduceSub, Nat.reduceMul, Nat.reduceLeDiff, eMade, eBytes, eByte, eChanges, eChange, ePR, ePS, eApplied, eCh, eParts, eNats] at hc
  refine ECall.i hc ?_
  clear hc
  simp (config := { maxSteps := 4000000 }) only [SE, TF, KD, GE, eq_self, ne_eq, implies_true, forall_const, if_true, if_false, cond_true, cond_false, forall_eq, List.replicate, ↓reduceIte, Nat.reduceEqDiff, Nat.reduceLT, Nat.reduceAdd, Nat.reduceSub, Nat.reduceMul, Nat.reduceLeDiff, eMade, eBytes, eByte, eChanges, eChange, ePR, ePS, eApplied, eCh, eParts, eNats]
  have hg := changed_c f ch hsm (by omega)
  have hsg := shape_changedL ch f
  have hbg := bnd_changedL ch hbf hc
  generalize changedL f ch = g at *
  refine EFn.p ?_
  simp (config := { maxSteps := 4000000 }) only [SE, TF, KD, GE, eq_self, ne_eq, implies_true, forall_const, if_true, if_false, cond_true, cond_false, forall_eq, List.replicate, ↓reduceIte, Nat.reduceEqDiff, Nat.reduceLT, Nat.reduceAdd, Nat.reduceSub, Nat.reduceMul, Nat.reduceLeDiff, eMade, eBytes, eByte, eChanges, eChange, ePR, ePS, eApplied, eCh, eParts, eNats]
  have hc := hg
  simp (config := { maxSteps := 4000000 }) only [SE, TF, KD, GE, eq_self, ne_eq, implies_true, forall_const, if_true, if_false, cond_true, cond_false, forall_eq, List.replicate, ↓reduceIte, Nat.reduceEqDiff, Nat.reduceLT, Nat.reduceAdd, Nat.reduceSub, Nat.reduceMul, Nat.reduceLeDiff, eMade, eBytes, eByte, eChanges, eChange, ePR, ePS, eApplied, eCh, eParts, eNats] at hc
  refine ECall.i hc ?_
  clear hc
  simp (config := { maxSteps := 4000000 }) only [SE, TF, KD, GE, eq_self, ne_eq, implies_true, forall_const, if_true, if_false, cond_true, cond_false, forall_eq, List.replicate, ↓reduceIte, Nat.reduceEqDiff, Nat.reduceLT, Nat.reduceAdd, Nat.reduceSub, Nat.reduceMul, Nat.reduceLeDiff, eMade, eBytes, eByte, eChanges, eChange, ePR, ePS, eApplied, eCh, eParts, eNats]
  have hd := diffW_c f g (words_le hnw)
  rw [diffR_dl hsg.symm] at hd
  have hld := dl_len f g
  have hin := dl_in (g := g) hsm
  obtain ⟨n, hn⟩ : ∃ n, askN ks = n := ⟨_, rfl⟩
  have hn1 : 0 < n ∧ n ≤ 9 := by
    rw [← hn]; unfold askN
    split
    · have := Nat.mod_lt (ks.getD 0 0) (show 0 < 9 by omega); omega
    · omega
  have hsp := splitW_c (dl f g) n (by omega) (by omega)
  have hspl : splitR (dl f g) (n : Int) = (chunks n (dl f g), 0) := by
    unfold splitR
    rw [if_neg (by omega)]
    rfl
  rw [hspl] at hsp
  obtain ⟨P, hP⟩ : ∃ P, chunks n (dl f g) = P := ⟨_, rfl⟩
  have hPl : P.length ≤ (dl f g).length := by rw [← hP, chunks_len]; exact nCh_le hn1.1
  have hsh := shuffledW_c P.length ks (by omega) hk
  have hop := shuf_perm ks P.length
  have hol := shuf_len ks P.length
  generalize shuf ks P.length = o at *
  rw [hP] at hsp
  refine EFn.p ?_
  simp (config := { maxSteps := 4000000 }) only [SE, TF, KD, GE, eq_self, ne_eq, implies_true, forall_const, if_true, if_false, cond_true, cond_false, forall_eq, List.replicate, ↓reduceIte, Nat.reduceEqDiff, Nat.reduceLT, Nat.reduceAdd, Nat.reduceSub, Nat.reduceMul, Nat.reduceLeDiff, eMade, eBytes, eByte, eChanges, eChange, ePR, ePS, eApplied, eCh, eParts, eNats]
  have hc := hd
  simp (config := { maxSteps := 4000000 }) only [SE, TF, KD, GE, eq_self, ne_eq, implies_true, forall_const, if_true, if_false, cond_true, cond_false, forall_eq, List.replicate, ↓reduceIte, Nat.reduceEqDiff, Nat.reduceLT, Nat.reduceAdd, Nat.reduceSub, Nat.reduceMul, Nat.reduceLeDiff, eMade, eBytes, eByte, eChanges, eChange, ePR, ePS, eApplied, eCh, eParts, eNats] at hc
  refine ECall.i hc ?_
  clear hc
  have hsp' := hsp
  simp only [SE, TF, KD, GE, eq_self, ne_eq, implies_true, forall_const, if_true, if_false, cond_true, cond_false, forall_eq, List.replicate, ↓reduceIte, Nat.reduceEqDiff, Nat.reduceLT, Nat.reduceAdd, Nat.reduceSub, Nat.reduceMul, Nat.reduceLeDiff, eMade, eBytes, eByte, eChanges, eChange, ePR, ePS, eApplied, eCh, eParts, eNats] at hsp'
  rcases Nat.lt_or_ge 0 ks.length with h0 | h0
  case' inl =>
    have hb0 : ks[0] < 256 := hk _ (List.getElem_mem h0)
    have e0 : ks.getD 0 0 = ks[0] := by simp [List.getD, h0]
    have hlen0 : decide ((ks.length : Int) > 0) = true := by simp; omega
    have hi0 : (0 ≤ (0 : Int) ∧ (0 : Int) < (ks.length : Int)) = True := by simp; omega
    obtain ⟨r, hr⟩ : ∃ r, ks[0] % 9 = r := ⟨_, rfl⟩
    have hr9 : r < 9 := by rw [← hr]; exact Nat.mod_lt _ (by omega)
    have hnr : n = 1 + r := by rw [← hn, askN, if_pos h0, e0, hr]
    have hrem : Int.tmod ((ks[0] : Nat) : Int) 9 = (r : Int) := by rw [← hr]; rfl
    have hw8 : IntKind.u8.wrap (r : Int) = (r : Int) := wrap_u8 (by omega)
    have hwi : IntKind.i64.wrap (r : Int) = (r : Int) := wrap_i (by omega)
    have hwa : IntKind.i64.wrap (1 + (r : Int)) = (n : Int) := by
      rw [wrap_id (by omega) (by omega), hnr]; omega
    simp (config := { maxSteps := 4000000 }) only [SE, TF, KD, GE, eq_self, ne_eq, implies_true, forall_const, if_true, if_false, cond_true, cond_false, forall_eq, List.replicate, ↓reduceIte, Nat.reduceEqDiff, Nat.reduceLT, Nat.reduceAdd, Nat.reduceSub, Nat.reduceMul, Nat.reduceLeDiff, eMade, eBytes, eByte, eChanges, eChange, ePR, ePS, eApplied, eCh, eParts, eNats, hlen0, hi0, getD_map h0, h0, hrem, hw8, hwi, hwa, Nat.zero_add, Int.natCast_one, Int.reduceToNat, Int.reduceGT, Int.reduceLT, Int.reduceGE, Int.reduceBNe, Int.reduceBEq, Int.reduceLE, Int.reduceNe, Int.reduceAdd, Int.reduceNeg]
    refine ⟨by omega, by omega, ?_⟩
    refine EFn.p ?_
    simp (config := { maxSteps := 4000000 }) only [SE, TF, KD, GE, eq_self, ne_eq, implies_true, forall_const, if_true, if_false, cond_true, cond_false, forall_eq, List.replicate, ↓reduceIte, Nat.reduceEqDiff, Nat.reduceLT, Nat.reduceAdd, Nat.reduceSub, Nat.reduceMul, Nat.reduceLeDiff, eMade, eBytes, eByte, eChanges, eChange, ePR, ePS, eApplied, eCh, eParts, eNats]
    refine ECall.i (hsp') ?_
  case' inr =>
    have hlen0 : decide ((ks.length : Int) > 0) = false := decide_eq_false (by omega)
    have hn1' : n = 1 := by rw [← hn, askN, if_neg (by omega)]
    have hn1i : (1 : Int) = (n : Int) := by rw [hn1']; rfl
    simp (config := { maxSteps := 4000000 }) only [SE, TF, KD, GE, eq_self, ne_eq, implies_true, forall_const, if_true, if_false, cond_true, cond_false, forall_eq, List.replicate, ↓reduceIte, Nat.reduceEqDiff, Nat.reduceLT, Nat.reduceAdd, Nat.reduceSub, Nat.reduceMul, Nat.reduceLeDiff, eMade, eBytes, eByte, eChanges, eChange, ePR, ePS, eApplied, eCh, eParts, eNats, hlen0]
    rw [show ((11 : Nat), AV.d (D.lit (Value.int IntKind.i64 1))) = (11, AV.d (D.lit (Value.int IntKind.i64 (n : Int)))) by rw [hn1i]]
    refine EFn.p ?_
    simp (config := { maxSteps := 4000000 }) only [SE, TF, KD, GE, eq_self, ne_eq, implies_true, forall_const, if_true, if_false, cond_true, cond_false, forall_eq, List.replicate, ↓reduceIte, Nat.reduceEqDiff, Nat.reduceLT, Nat.reduceAdd, Nat.reduceSub, Nat.reduceMul, Nat.reduceLeDiff, eMade, eBytes, eByte, eChanges, eChange, ePR, ePS, eApplied, eCh, eParts, eNats, hlen0]
    refine ECall.i (by rw [← hn1i] at hsp'; exact hsp') ?_
  all_goals
    simp (config := { maxSteps := 4000000 }) only [SE, TF, KD, GE, eq_self, ne_eq, implies_true, forall_const, if_true, if_false, cond_true, cond_false, forall_eq, List.replicate, ↓reduceIte, Nat.reduceEqDiff, Nat.reduceLT, Nat.reduceAdd, Nat.reduceSub, Nat.reduceMul, Nat.reduceLeDiff, eMade, eBytes, eByte, eChanges, eChange, ePR, ePS, eApplied, eCh, eParts, eNats]
    refine EFn.p ?_
    simp (config := { maxSteps := 4000000 }) only [SE, TF, KD, GE, eq_self, ne_eq, implies_true, forall_const, if_true, if_false, cond_true, cond_false, forall_eq, List.replicate, ↓reduceIte, Nat.reduceEqDiff, Nat.reduceLT, Nat.reduceAdd, Nat.reduceSub, Nat.reduceMul, Nat.reduceLeDiff, eMade, eBytes, eByte, eChanges, eChange, ePR, ePS, eApplied, eCh, eParts, eNats]
    have hc := hsh
    simp (config := { maxSteps := 4000000 }) only [SE, TF, KD, GE, eq_self, ne_eq, implies_true, forall_const, if_true, if_false, cond_true, cond_false, forall_eq, List.replicate, ↓reduceIte, Nat.reduceEqDiff, Nat.reduceLT, Nat.reduceAdd, Nat.reduceSub, Nat.reduceMul, Nat.reduceLeDiff, eMade, eBytes, eByte, eChanges, eChange, ePR, ePS, eApplied, eCh, eParts, eNats] at hc
    refine ECall.i hc ?_
    clear hc
    simp (config := { maxSteps := 4000000 }) only [SE, TF, KD, GE, eq_self, ne_eq, implies_true, forall_const, if_true, if_false, cond_true, cond_false, forall_eq, List.replicate, ↓reduceIte, Nat.reduceEqDiff, Nat.reduceLT, Nat.reduceAdd, Nat.reduceSub, Nat.reduceMul, Nat.reduceLeDiff, eMade, eBytes, eByte, eChanges, eChange, ePR, ePS, eApplied, eCh, eParts, eNats]
    refine eloop (fun id => []) mixed o.length (fun i => True) (fun i => ([(7, .d (eB true)), (9, .d (eSet g)), (10, .bp 10 0), (11, .d (eI n)), (12, .bp 12 0), (13, .d (eNats o)), (14, .d (eSet (applyL f (inOrder P (o.take i))))), (15, .d (eI ((inOrder P (o.take i)).length))), (16, .d (eI i))], [(10, .box [.d (ePatches (dl f g)), .d (eI 0)]), (12, .box [.d (.sl (P.map eCh)), .d (eI 0)])])) ?_ ?_ ?_ (fun i hi _ => ?_)
    · trivial
    · simp [SE, TF, KD, GE, eq_self, ne_eq, implies_true, forall_const, if_true, if_false, cond_true, cond_false, forall_eq, List.replicate, ↓reduceIte, Nat.reduceEqDiff, Nat.reduceLT, Nat.reduceAdd, Nat.reduceSub, Nat.reduceMul, Nat.reduceLeDiff, inOrder, applyL, eNats]
    · simp [SE, TF, KD, GE, eq_self, ne_eq, implies_true, forall_const, if_true, if_false, cond_true, cond_false, forall_eq, List.replicate, ↓reduceIte, Nat.reduceEqDiff, Nat.reduceLT, Nat.reduceAdd, Nat.reduceSub, Nat.reduceMul, Nat.reduceLeDiff, eCh]
    rcases Nat.lt_or_ge i o.length with h1 | h1
    · have hw1 := wrap_succ (show i < 9223372036854775807 by omega)
      have hoi : o[i] < P.length := by
        have : o[i] ∈ List.range P.length := hop.mem_iff.1 (List.getElem_mem h1)
        exact List.mem_range.1 this
      obtain ⟨k, hkk⟩ : ∃ k, o[i] = k := ⟨_, rfl⟩
      rw [hkk] at hoi
      have hstep := inOrder_step P o i h1
      have hPk : P.getD k [] = P[k] := by simp [List.getD, hoi]
      have hPc : P[k] = chunk n (dl f g) k := by
        have h2 : k < (chunks n (dl f g)).length := by rw [hP]; exact hoi
        have := chunks_get n (dl f g) k h2
        rw [← this]
        simp only [hP]
      obtain ⟨L, hL⟩ : ∃ L, P[k] = L := ⟨_, rfl⟩
      rw [hkk, hPk, hL] at hstep
      have hsA := shape_applyL (inOrder P (o.take i)) f
      have hbA := bnd_applyL (inOrder P (o.take i)) hbf
      have hap := applyW_c (applyL f (inOrder P (o.take i))) L (small_shape hsA.symm hsm) (fun q hq => hin q ((chunk_sub n (dl f g) k).subset (by rw [← hPc, hL]; exact hq)))
      rw [applyD_eq hbA, ← hL, hPc, chunk_apply hsA n k, ← hPc, hL, ← applyL_app, ← hstep] at hap
      have hle := inOrder_le hop (i + 1)
      have hfl : P.flatten = dl f g := by rw [← hP]; exact chunks_flatten n hn1.1 _
      rw [hstep, List.length_append, hfl] at hle
      have hLlen : L.length = min n ((dl f g).length - k * n) := by rw [← hL, hPc, chunk_len]
      have hlast : k * n < (dl f g).length := (nCh_lt hn1.1).1 (by rw [← chunks_len, hP]; exact hoi)
      have hnext : k + 1 < P.length ↔ (k + 1) * n < (dl f g).length := by rw [← hP, chunks_len]; exact nCh_lt hn1.1
      rw [show (k + 1) * n = k * n + n by rw [Nat.add_mul, Nat.one_mul]] at hnext
      obtain ⟨kn, hkn⟩ : ∃ kn, k * n = kn := ⟨_, rfl⟩
      rw [hkn] at hLlen hlast hnext
      have hL0 : ((L.length : Int) == 0) = false := by rw [beq_eq_false_iff_ne]; omega
      have hLn : decide ((L.length : Int) > (n : Int)) = false := decide_eq_false (by omega)
      have hsum : IntKind.i64.wrap (((inOrder P (o.take i)).length : Int) + (L.length : Int)) = ((inOrder P (o.take (i + 1))).length : Int) := by
        rw [wrap_id (by omega) (by omega), hstep, List.length_append]; omega
      have hPm : IntKind.i64.wrap ((P.length : Int) - 1) = ((P.length - 1 : Nat) : Int) := by rw [wrap_id (by omega) (by omega)]; omega
      by_cases hlt : L.length < n
      · have hlt' : decide ((L.length : Int) < (n : Int)) = true := by simp; omega
        have hkl : k = P.length - 1 := by
          by_cases hk2 : k + 1 < P.length
          · have h5 := hnext.1 hk2
            rw [hLlen] at hlt
            omega
          · omega
        have hne : ((k : Int) != ((P.length - 1 : Nat) : Int)) = false := by rw [← hkl]; simp
        simp (config := { maxSteps := 4000000 }) only [SE, TF, KD, GE, eq_self, ne_eq, implies_true, forall_const, if_true, if_false, cond_true, cond_false, forall_eq, List.replicate, ↓reduceIte, Nat.reduceEqDiff, Nat.reduceLT, Nat.reduceAdd, Nat.reduceSub, Nat.reduceMul, Nat.reduceLeDiff, eMade, eBytes, eByte, eChanges, eChange, ePR, ePS, eApplied, eCh, eParts, eNats, dec_lt h1, getD_map h1, lt_int h1, hkk, getD_map hoi, lt_int hoi, hL]
        refine ⟨by kernel_rfl, ?_⟩
        refine EFn.p ?_
        simp (config := { maxSteps := 4000000 }) only [SE, TF, KD, GE, eq_self, ne_eq, implies_true, forall_const, if_true, if_false, cond_true, cond_false, forall_eq, List.replicate, ↓reduceIte, Nat.reduceEqDiff, Nat.reduceLT, Nat.reduceAdd, Nat.reduceSub, Nat.reduceMul, Nat.reduceLeDiff, eMade, eBytes, eByte, eChanges, eChange, ePR, ePS, eApplied, eCh, eParts, eNats]
        have hc := hap
        simp (config := { maxSteps := 4000000 }) only [SE, TF, KD, GE, eq_self, ne_eq, implies_true, forall_const, if_true, if_false, cond_true, cond_false, forall_eq, List.replicate, ↓reduceIte, Nat.reduceEqDiff, Nat.reduceLT, Nat.reduceAdd, Nat.reduceSub, Nat.reduceMul, Nat.reduceLeDiff, eMade, eBytes, eByte, eChanges, eChange, ePR, ePS, eApplied, eCh, eParts, eNats] at hc
        refine ECall.i hc ?_
        clear hc
        simp (config := { maxSteps := 4000000 }) only [SE, TF, KD, GE, eq_self, ne_eq, implies_true, forall_const, if_true, if_false, cond_true, cond_false, forall_eq, List.replicate, ↓reduceIte, Nat.reduceEqDiff, Nat.reduceLT, Nat.reduceAdd, Nat.reduceSub, Nat.reduceMul, Nat.reduceLeDiff, eMade, eBytes, eByte, eChanges, eChange, ePR, ePS, eApplied, eCh, eParts, eNats, dec_lt h1, getD_map h1, lt_int h1, hkk, getD_map hoi, lt_int hoi, hL, hL0, hLn, hlt', hPm, hne, hsum, hw1, h1]
        kernel_rfl
      · have hlt' : decide ((L.length : Int) < (n : Int)) = false := by simp; omega
        simp (config := { maxSteps := 4000000 }) only [SE, TF, KD, GE, eq_self, ne_eq, implies_true, forall_const, if_true, if_false, cond_true, cond_false, forall_eq, List.replicate, ↓reduceIte, Nat.reduceEqDiff, Nat.reduceLT, Nat.reduceAdd, Nat.reduceSub, Nat.reduceMul, Nat.reduceLeDiff, eMade, eBytes, eByte, eChanges, eChange, ePR, ePS, eApplied, eCh, eParts, eNats, dec_lt h1, getD_map h1, lt_int h1, hkk, getD_map hoi, lt_int hoi, hL]
        refine ⟨by kernel_rfl, ?_⟩
        refine EFn.p ?_
        simp (config := { maxSteps := 4000000 }) only [SE, TF, KD, GE, eq_self, ne_eq, implies_true, forall_const, if_true, if_false, cond_true, cond_false, forall_eq, List.replicate, ↓reduceIte, Nat.reduceEqDiff, Nat.reduceLT, Nat.reduceAdd, Nat.reduceSub, Nat.reduceMul, Nat.reduceLeDiff, eMade, eBytes, eByte, eChanges, eChange, ePR, ePS, eApplied, eCh, eParts, eNats]
        have hc := hap
        simp (config := { maxSteps := 4000000 }) only [SE, TF, KD, GE, eq_self, ne_eq, implies_true, forall_const, if_true, if_false, cond_true, cond_false, forall_eq, List.replicate, ↓reduceIte, Nat.reduceEqDiff, Nat.reduceLT, Nat.reduceAdd, Nat.reduceSub, Nat.reduceMul, Nat.reduceLeDiff, eMade, eBytes, eByte, eChanges, eChange, ePR, ePS, eApplied, eCh, eParts, eNats] at hc
        refine ECall.i hc ?_
        clear hc
        simp (config := { maxSteps := 4000000 }) only [SE, TF, KD, GE, eq_self, ne_eq, implies_true, forall_const, if_true, if_false, cond_true, cond_false, forall_eq, List.replicate, ↓reduceIte, Nat.reduceEqDiff, Nat.reduceLT, Nat.reduceAdd, Nat.reduceSub, Nat.reduceMul, Nat.reduceLeDiff, eMade, eBytes, eByte, eChanges, eChange, ePR, ePS, eApplied, eCh, eParts, eNats, dec_lt h1, getD_map h1, lt_int h1, hkk, getD_map hoi, lt_int hoi, hL, hL0, hLn, hlt', hsum, hw1, h1]
        kernel_rfl
    · have hio : i = o.length := by omega
      subst hio
      have hfin : applyL f (inOrder P o) = g := apply_perm hsg.symm hbf hbg (by
        have h6 : (chunks n (dl f g)).flatten = dl f g := chunks_flatten n hn1.1 _
        rw [hP] at h6
        rw [← h6]; exact inOrder_perm hop)
      have hlen : (inOrder P o).length = (dl f g).length := by
        have h6 : (chunks n (dl f g)).flatten = dl f g := chunks_flatten n hn1.1 _
        rw [hP] at h6
        rw [(inOrder_perm hop).length_eq, h6]
      have hsm2 := same_c g g
      rw [decide_eq_true rfl] at hsm2
      have hqq : (((dl f g).length : Int) == ((dl f g).length : Int)) = true := by simp
      simp (config := { maxSteps := 4000000 }) only [SE, TF, KD, GE, eq_self, ne_eq, implies_true, forall_const, if_true, if_false, cond_true, cond_false, forall_eq, List.replicate, ↓reduceIte, Nat.reduceEqDiff, Nat.reduceLT, Nat.reduceAdd, Nat.reduceSub, Nat.reduceMul, Nat.reduceLeDiff, eMade, eBytes, eByte, eChanges, eChange, ePR, ePS, eApplied, eCh, eParts, eNats, dec_ge h1, List.take_length, hlen, hfin, hqq]
      refine EFn.p ?_
      simp (config := { maxSteps := 4000000 }) only [SE, TF, KD, GE, eq_self, ne_eq, implies_true, forall_const, if_true, if_false, cond_true, cond_false, forall_eq, List.replicate, ↓reduceIte, Nat.reduceEqDiff, Nat.reduceLT, Nat.reduceAdd, Nat.reduceSub, Nat.reduceMul, Nat.reduceLeDiff, eMade, eBytes, eByte, eChanges, eChange, ePR, ePS, eApplied, eCh, eParts, eNats]
      have hc := hsm2
      simp (config := { maxSteps := 4000000 }) only [SE, TF, KD, GE, eq_self, ne_eq, implies_true, forall_const, if_true, if_false, cond_true, cond_false, forall_eq, List.replicate, ↓reduceIte, Nat.reduceEqDiff, Nat.reduceLT, Nat.reduceAdd, Nat.reduceSub, Nat.reduceMul, Nat.reduceLeDiff, eMade, eBytes, eByte, eChanges, eChange, ePR, ePS, eApplied, eCh, eParts, eNats] at hc
      refine ECall.i hc ?_
      clear hc
      simp (config := { maxSteps := 4000000 }) only [SE, TF, KD, GE, eq_self, ne_eq, implies_true, forall_const, if_true, if_false, cond_true, cond_false, forall_eq, List.replicate, ↓reduceIte, Nat.reduceEqDiff, Nat.reduceLT, Nat.reduceAdd, Nat.reduceSub, Nat.reduceMul, Nat.reduceLeDiff, eMade, eBytes, eByte, eChanges, eChange, ePR, ePS, eApplied, eCh, eParts, eNats]
end Go.Proofs.Ytcamhcnjomddbaa

/-
  DeltaParts: the parts of a list, applied one after the other, in any order, have the effect of the whole list; all but the last one have the asked size.
  Conditions: none.
-/
namespace Go.Proofs.Ytcamhcnjomddbaa
open Go.Aw Go.ChangeShapes Go.WideShapes Go.ChangeAt Go.RowKit
set_option maxRecDepth 100000
theorem parts_lifted (os : Os) (started : os.Started) (H : Type) (enc : TypeId × Value → H) :
    ReturnsInHanded {} Try.checked os 8 .any (Rows.deltaPartsSpec.pre6 enc Try.prog Try.f8 Rows.deltaPartsRow.domain false) (Rows.deltaPartsSpec.post enc Try.prog Try.f8 false true false false) := by
  refine returnsInHanded_of_change (C := Try.checked) own started (by kernel_rfl) Try.func8
    (ChangeSpec.witness6 (enc := enc) (C := Try.checked) false ⟨#[], #[.agg #[.slice none 0 0, .slice none 0 0], .slice none 0 0, .slice none 0 0], []⟩ 8 (by kernel_rfl) (by kernel_rfl) (by kernel_rfl) (by kernel_rfl)) ?_
  intro W base args ds gs before hval hW _ _
  refine law_post (P := Try.prog) (n := 8) (ss := [shRaw, shCh, .one (.sl [.int .u8])]) laidOut (of_decide_eq_true (by kernel_rfl)) (tb := 4) (by kernel_rfl) Try.underlying4 (by kernel_rfl) rfl hval hW (fun hl => ?_) (fun Ds hD _ => ?_)
  · match ds, hl with
    | [_, _, _], _ => rfl
  · obtain ⟨a, b, c, rfl, ha, hb, hc⟩ := fitsA_3 hD
    obtain ⟨bs, ws, rfl, h1, h2⟩ := raw_of ha
    obtain ⟨ch, rfl, h3⟩ := changes_of hb
    obtain ⟨k, rfl, h4⟩ := bytes_of hc
    exact parts_c bs ws ch k h1 h2 (fun c hc => (h3 c hc).2) h4
theorem parts_holds : Rows.DeltaPartsSaid :=
  OpenClaim.holds_of_wide 8 Try.f8 rfl rfl rfl rfl rfl rfl rfl ⟨rfl, rfl, rfl, rfl, rfl⟩ rfl rfl rfl rfl rfl (by kernel_rfl) Try.func8 (by kernel_rfl)
    (of_decide_eq_true (by kernel_rfl)) (by unfold Func.isWrapper; first | (rw [if_pos (by decide +kernel)]; kernel_rfl) | (rw [if_neg (by decide +kernel)]; exact ⟨rfl, rfl⟩))
    (fun os started H enc _ => parts_lifted os started H enc)
end Go.Proofs.Ytcamhcnjomddbaa
