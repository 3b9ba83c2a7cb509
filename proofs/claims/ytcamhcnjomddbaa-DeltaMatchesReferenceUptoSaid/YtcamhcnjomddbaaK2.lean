/-
  CONTRACTS of the functions that the law reaches, and plain laws on what they compute. Conditions: those of each law.
-/
import Derived.Test.YtcamhcnjomddbaaK1
import Derived.Test.YtcamhcnjomddbaaGL
import Derived.Test.YtcamhcnjomddbaaRows
import Derived.WalkKit
import Derived.Shelf.RegionOpenPlain
import Derived.Shelf.SlSortCmp.QuietGrown
import Derived.StillTailTactics
import Derived.Handy
import Derived.Below
import Derived.Test.YtcamhcnjomddbaaGP
import Derived.Shelf.SlSortCmp.NoneTotal
import Derived.Ground.SlsfProg
import Derived.Shelf.Spec.SlicesGrow
import Derived.Ground.Names8Prog
set_option linter.unusedSimpArgs false
set_option linter.unusedVariables false
/-
  PLAIN: sets of frames by their words' positions; lists applied; differences.
-/
namespace Go.Proofs.Ytcamhcnjomddbaa
open Go.Aw
def Pos.lt (a b : Pos) : Prop := a.p < b.p ∨ (a.p = b.p ∧ (a.f < b.f ∨ (a.f = b.f ∧ a.w < b.w)))
theorem Pos.lt_ne {a b : Pos} (h : a.lt b) : a ≠ b := by rintro rfl; unfold Pos.lt at h; omega
theorem zipIdx_range {α : Type} (l : List α) (d : α) : l.zipIdx = (List.range l.length).map fun j => (l.getD j d, j) := by
  apply List.ext_getElem (by simp)
  intro i h1 h2
  simp at h1
  simp [List.getD, h1]
def posA (A : Frames) : List Pos := (wordsA A).map (·.1)
theorem wordsA_eq (A : Frames) : wordsA A = (List.range A.length).flatMap fun (i : Nat) => (List.range (A.getD i []).length).flatMap fun (j : Nat) => (List.range ((A.getD i []).getD j []).length).map fun (k : Nat) => ((⟨i, j, k⟩ : Pos), ((A.getD i []).getD j []).getD k 0) := by
  unfold wordsA wordsR wordsF
  rw [zipIdx_range A [], List.flatMap_map]
  congr 1; funext i
  rw [zipIdx_range (A.getD i []) [], List.flatMap_map]
  congr 1; funext j
  rw [zipIdx_range ((A.getD i []).getD j []) 0, List.map_map]
  rfl
theorem mem_posA {A : Frames} {p : Pos} : p ∈ posA A ↔ ∃ i j k : Nat, i < A.length ∧ j < (A.getD i []).length ∧ k < ((A.getD i []).getD j []).length ∧ p = ⟨i, j, k⟩ := by
  unfold posA
  rw [wordsA_eq]
  simp only [List.mem_map, List.mem_flatMap, List.mem_range]
  constructor
  · rintro ⟨q, ⟨i, h1, j, h2, k, h3, rfl⟩, rfl⟩
    exact ⟨i, j, k, h1, h2, h3, rfl⟩
  · rintro ⟨i, j, k, h1, h2, h3, rfl⟩
    exact ⟨_, ⟨i, h1, j, h2, k, h3, rfl⟩, rfl⟩
theorem posA_lt (A : Frames) : (posA A).Pairwise Pos.lt := by
  unfold posA
  rw [wordsA_eq, List.pairwise_map, List.pairwise_flatMap]
  refine ⟨fun i _ => ?_, ?_⟩
  · rw [List.pairwise_flatMap]
    refine ⟨fun j _ => ?_, ?_⟩
    · rw [List.pairwise_map]
      refine List.pairwise_lt_range.imp fun h => ?_
      exact .inr ⟨rfl, .inr ⟨rfl, Int.ofNat_lt.2 h⟩⟩
    · refine List.pairwise_lt_range.imp fun h => ?_
      simp only [List.mem_map, List.mem_range]
      rintro _ ⟨k, _, rfl⟩ _ ⟨k', _, rfl⟩
      exact .inr ⟨rfl, .inl (Int.ofNat_lt.2 h)⟩
  · refine List.pairwise_lt_range.imp fun h => ?_
    simp only [List.mem_flatMap, List.mem_map, List.mem_range]
    rintro _ ⟨j, _, k, _, rfl⟩ _ ⟨j', _, k', _, rfl⟩
    exact .inl (Int.ofNat_lt.2 h)
theorem posA_nodup (A : Frames) : (posA A).Nodup := by
  rw [List.nodup_iff_pairwise_ne]
  exact (posA_lt A).imp fun h => Pos.lt_ne h
theorem wordsA_pos (A : Frames) : wordsA A = (posA A).map fun p => (p, wordAt A p) := by
  unfold posA
  rw [List.map_map, wordsA_eq]
  simp only [List.map_flatMap, List.map_map]
  rfl
theorem getD_shape (A : Frames) (i : Nat) : (shape A).getD i [] = (A.getD i []).map List.length := by
  simp only [shape, List.getD, List.getElem?_map]
  cases A[i]? <;> rfl
theorem getD_map_len (r : List (List Nat)) (j : Nat) : (r.map List.length).getD j 0 = (r.getD j []).length := by
  simp only [List.getD, List.getElem?_map]
  cases r[j]? <;> rfl
theorem posA_shape {A B : Frames} (h : shape A = shape B) : posA A = posA B := by
  unfold posA
  have e1 : ∀ i, (A.getD i []).map List.length = (B.getD i []).map List.length := fun i => by rw [← getD_shape, ← getD_shape, h]
  have e2 : ∀ i, (A.getD i []).length = (B.getD i []).length := fun i => by simpa using congrArg List.length (e1 i)
  have e3 : ∀ i j, ((A.getD i []).getD j []).length = ((B.getD i []).getD j []).length := fun i j => by rw [← getD_map_len, ← getD_map_len, e1]
  rw [wordsA_eq, wordsA_eq, shape_len h]
  simp only [List.map_flatMap, List.map_map, e2, e3]
  rfl
theorem getD_set {α : Type} (l : List α) (i i' : Nat) (x d : α) : (l.set i x).getD i' d = if i' = i ∧ i < l.length then x else l.getD i' d := by
  simp only [List.getD, List.getElem?_set]
  by_cases h : i = i'
  · subst h
    by_cases h2 : i < l.length
    · simp [h2]
    · simp [h2]
  · simp [h, Ne.symm h]
theorem wordAt_setW {A : Frames} {i j k v : Nat} (h1 : i < A.length) (h2 : j < (A.getD i []).length) (h3 : k < ((A.getD i []).getD j []).length) (i' j' k' : Nat) :
    wordAt (setW A i j k v) ⟨i', j', k'⟩ = if i' = i ∧ j' = j ∧ k' = k then v else wordAt A ⟨i', j', k'⟩ := by
  unfold wordAt setW
  simp only [Int.toNat_natCast, getD_set]
  by_cases e1 : i' = i
  · subst e1
    simp only [true_and, h1, if_true]
    rw [getD_set]
    by_cases e2 : j' = j
    · subst e2
      simp only [true_and, h2, if_true]
      rw [getD_set]
      by_cases e3 : k' = k
      · subst e3; simp only [true_and, h3, if_true]
      · simp only [e3, false_and, if_false]
    · simp only [e2, false_and, if_false]
  · simp only [e1, false_and, if_false]
theorem ext_words {A B : Frames} (hs : shape A = shape B) (h : ∀ p ∈ posA A, wordAt A p = wordAt B p) : A = B := by
  apply List.ext_getElem (shape_len hs)
  intro i h1 h2
  have hr := shape_row hs h1 h2
  have e1 : A.getD i [] = A[i] := by simp [List.getD, h1]
  have e2 : B.getD i [] = B[i] := by simp [List.getD, h2]
  apply List.ext_getElem (by simpa using congrArg List.length hr)
  intro j h3 h4
  have e3 : A[i].getD j [] = A[i][j] := by simp [List.getD, h3]
  have e4 : B[i].getD j [] = B[i][j] := by simp [List.getD, h4]
  have hl : A[i][j].length = B[i][j].length := by
    have := congrArg (fun l => l[j]?) hr
    simpa [h3, h4] using this
  apply List.ext_getElem hl
  intro k h5 h6
  have := h ⟨i, j, k⟩ (mem_posA.2 ⟨i, j, k, h1, by rw [e1]; exact h3, by rw [e1, e3]; exact h5, rfl⟩)
  simp only [wordAt, Int.toNat_natCast, e1, e2, e3, e4] at this
  simpa [List.getD, h5, h6] using this
theorem fit1_iff {A : Frames} {q : Patch} : fit1 A q ↔ posOf q ∈ posA A := by
  rw [mem_posA]
  unfold fit1 posOf
  constructor
  · rintro ⟨⟨a1, a2⟩, ⟨b1, b2⟩, c1, c2⟩
    refine ⟨q.p.toNat, q.f.toNat, q.w.toNat, by omega, by omega, by omega, ?_⟩
    simp only [Pos.mk.injEq]; omega
  · rintro ⟨i, j, k, h1, h2, h3, e⟩
    simp only [Pos.mk.injEq] at e
    obtain ⟨e1, e2, e3⟩ := e
    rw [e1, e2, e3]
    simp only [Int.toNat_natCast]
    omega

/-! ### xor of words -/
def W64 : Nat := 18446744073709551616
theorem xorN_eq {a b : Nat} (ha : a < W64) (hb : b < W64) : xorN a b = a ^^^ b := by
  unfold xorN xorU
  have h : (BitVec.ofInt IntKind.u64.bits (a : Int) ^^^ BitVec.ofInt IntKind.u64.bits (b : Int)).toNat = a ^^^ b := by
    show (BitVec.ofInt 64 (a : Int) ^^^ BitVec.ofInt 64 (b : Int)).toNat = a ^^^ b
    simp only [BitVec.toNat_xor, BitVec.ofInt_natCast, BitVec.toNat_ofNat]
    unfold W64 at ha hb
    rw [Nat.mod_eq_of_lt (by simpa using ha), Nat.mod_eq_of_lt (by simpa using hb)]
  rw [h, wrap_u]
  · simp
  · exact Nat.xor_lt_two_pow (n := 64) ha hb
theorem xorN_lt (a b : Nat) : xorN a b < W64 := by
  unfold xorN xorU W64
  simp only [IntKind.wrap, IntKind.bits, IntKind.signed]
  simp
  omega
theorem xorN_zero {a b : Nat} (ha : a < W64) (hb : b < W64) : xorN a b = 0 ↔ a = b := by
  rw [xorN_eq ha hb]
  constructor
  · intro h
    have := congrArg (· ^^^ b) h
    simpa [Nat.xor_assoc] using this
  · rintro rfl; simp
theorem xorN_back {a b : Nat} (ha : a < W64) (hb : b < W64) : xorN a (xorN a b) = b := by
  rw [xorN_eq ha (xorN_lt _ _), xorN_eq ha hb, ← Nat.xor_assoc]; simp
theorem xorN_comm (a b : Nat) : xorN a b = xorN b a := by unfold xorN xorU; rw [BitVec.xor_comm]
def bnd (A : Frames) : Prop := ∀ p, wordAt A p < W64

/-! ### Lists applied -/
theorem wordAt_apply1 {A : Frames} {q : Patch} (hq : posOf q ∈ posA A) {p : Pos} (hp : p ∈ posA A) : wordAt (apply1 A q) p = if p = posOf q then xorN (wordAt A p) q.x else wordAt A p := by
  obtain ⟨i, j, k, h1, h2, h3, e⟩ := mem_posA.1 hq
  obtain ⟨i', j', k', _, _, _, rfl⟩ := mem_posA.1 hp
  have e' := e
  simp only [posOf, Pos.mk.injEq] at e'
  obtain ⟨e1, e2, e3⟩ := e'
  unfold apply1
  rw [e, e1, e2, e3]
  simp only [Int.toNat_natCast]
  rw [wordAt_setW h1 h2 h3]
  by_cases h : i' = i ∧ j' = j ∧ k' = k
  · obtain ⟨rfl, rfl, rfl⟩ := h
    simp
  · rw [if_neg h, if_neg]
    intro hh
    simp only [Pos.mk.injEq] at hh
    omega
theorem posA_apply1 (A : Frames) (q : Patch) : posA (apply1 A q) = posA A := posA_shape (shape_apply1 A q)
def valL (l : List Patch) (p : Pos) : Option Nat := (l.find? fun q => posOf q = p).map (·.x)
theorem wordAt_applyL : ∀ (l : List Patch) (A : Frames), (∀ q ∈ l, posOf q ∈ posA A) → (l.map posOf).Nodup → ∀ p ∈ posA A, wordAt (applyL A l) p = match valL l p with | some x => xorN (wordAt A p) x | none => wordAt A p
  | [], A, _, _, p, _ => by simp [applyL, valL]
  | q :: l, A, hf, hn, p, hp => by
    simp only [List.map_cons, List.nodup_cons] at hn
    have hp' : p ∈ posA (apply1 A q) := by rw [posA_apply1]; exact hp
    have ih := wordAt_applyL l (apply1 A q) (fun q' h' => by rw [posA_apply1]; exact hf q' (by simp [h'])) hn.2 p hp'
    have hA : applyL A (q :: l) = applyL (apply1 A q) l := rfl
    rw [hA, ih, wordAt_apply1 (hf q (by simp)) hp]
    by_cases h : posOf q = p
    · subst h
      have h2 : valL l (posOf q) = none := by
        unfold valL
        rw [Option.map_eq_none_iff, List.find?_eq_none]
        intro q' hq' e
        exact hn.1 (List.mem_map.2 ⟨q', hq', by simpa using e⟩)
      have h3 : valL (q :: l) (posOf q) = some q.x := by simp [valL]
      rw [h2, h3]
      simp
    · have h3 : valL (q :: l) p = valL l p := by simp [valL, List.find?_cons, h]
      rw [h3, if_neg (Ne.symm h)]
theorem valL_some {l : List Patch} (hn : (l.map posOf).Nodup) {q : Patch} (hq : q ∈ l) : valL l (posOf q) = some q.x := by
  induction l with
  | nil => cases hq
  | cons q' l ih =>
    simp only [List.map_cons, List.nodup_cons] at hn
    rcases List.mem_cons.1 hq with rfl | hq
    · simp [valL]
    · have : posOf q' ≠ posOf q := fun e => hn.1 (List.mem_map.2 ⟨q, hq, e.symm⟩)
      simp only [valL, List.find?_cons, this, decide_false]
      exact ih hn.2 hq
theorem valL_none {l : List Patch} {p : Pos} : valL l p = none ↔ ∀ q ∈ l, posOf q ≠ p := by
  unfold valL
  rw [Option.map_eq_none_iff, List.find?_eq_none]
  simp
end Go.Proofs.Ytcamhcnjomddbaa

/-
  PLAIN: what package delta applies is what the reference applies; differences lead.
-/
namespace Go.Proofs.Ytcamhcnjomddbaa
open Go.Aw
theorem xorN_0 {a : Nat} (ha : a < W64) : xorN a 0 = a := by
  rw [xorN_eq ha (by unfold W64; omega)]; simp
theorem valR_filter (R : Ents) (p q : Pos) (h : p ≠ q) : valR (R.filter fun e => posOf e.1 ≠ q) p = valR R p := by
  unfold valR
  rw [List.find?_filter]
  congr 2
  congr 1
  funext e
  by_cases h2 : posOf e.1 = p
  · simp [h2, h]
  · simp [h2]
theorem runW_spec : ∀ (ws : List (Pos × Nat)) (A : Frames) (R : Ents), (ws.map (·.1)).Nodup → (∀ q ∈ ws, q.1 ∈ posA A) →
    shape (ws.foldl stepW (A, R)).1 = shape A ∧ (∀ p ∈ posA A, wordAt (ws.foldl stepW (A, R)).1 p = if p ∈ ws.map (·.1) then xorN (wordAt A p) (valR R p) else wordAt A p) ∧
      (ws.foldl stepW (A, R)).2 = R.filter fun e => posOf e.1 ∉ ws.map (·.1)
  | [], A, R, _, _ => by
    refine ⟨rfl, fun p _ => by simp, ?_⟩
    exact (List.filter_eq_self.2 (fun e _ => by simp)).symm
  | q :: ws, A, R, hn, hi => by
    simp only [List.map_cons, List.nodup_cons] at hn
    obtain ⟨A1, R1, h1⟩ : ∃ A1 R1, stepW (A, R) q = (A1, R1) := ⟨_, _, rfl⟩
    have hA1 : A1 = setW A q.1.p.toNat q.1.f.toNat q.1.w.toNat (xorN (wordAt A q.1) (valR R q.1)) := by
      have := congrArg Prod.fst h1; exact this.symm
    have hR1 : R1 = R.filter fun e => posOf e.1 ≠ q.1 := by
      have := congrArg Prod.snd h1; exact this.symm
    have hsh : shape A1 = shape A := by rw [hA1]; exact shape_setW _ _ _ _ _
    have hpos : posA A1 = posA A := posA_shape hsh
    obtain ⟨i1, i2, i3⟩ := runW_spec ws A1 R1 hn.2 (fun q' h' => by rw [hpos]; exact hi q' (by simp [h']))
    rw [List.foldl_cons, h1]
    obtain ⟨i, j, k, g1, g2, g3, hq⟩ := mem_posA.1 (hi q (by simp))
    have hw : ∀ p ∈ posA A, wordAt A1 p = if p = q.1 then xorN (wordAt A q.1) (valR R q.1) else wordAt A p := by
      intro p hp
      obtain ⟨i', j', k', _, _, _, rfl⟩ := mem_posA.1 hp
      rw [hA1, hq]
      simp only [Int.toNat_natCast]
      rw [wordAt_setW g1 g2 g3]
      by_cases h : i' = i ∧ j' = j ∧ k' = k
      · obtain ⟨rfl, rfl, rfl⟩ := h; simp
      · rw [if_neg h, if_neg]
        intro hh
        simp only [Pos.mk.injEq] at hh
        omega
    refine ⟨i1.trans hsh, fun p hp => ?_, ?_⟩
    · rw [i2 p (by rw [hpos]; exact hp), hw p hp]
      by_cases h : p = q.1
      · subst h
        rw [if_neg hn.1]
        simp
      · rw [if_neg h]
        have : valR R1 p = valR R p := by rw [hR1]; exact valR_filter R p q.1 h
        rw [this]
        by_cases h2 : p ∈ ws.map (·.1)
        · rw [if_pos h2, if_pos (by rw [List.map_cons]; exact List.mem_cons_of_mem _ h2)]
        · rw [if_neg h2, if_neg (by rw [List.map_cons, List.mem_cons]; exact fun h' => h'.elim h h2)]
    · rw [i3, hR1, List.filter_filter]
      congr 1
      funext e
      by_cases h : posOf e.1 = q.1 <;> simp [h]
theorem applyL_nodup {l : List Patch} (h : Normal l) : (l.map posOf).Nodup := normal_nodup h
theorem valR_zip (l : List Patch) (p : Pos) : valR l.zipIdx p = (valL l p).getD 0 := by
  unfold valR valL
  have : ∀ k, (l.zipIdx k).find? (fun e => decide (posOf e.1 = p)) = ((l.zipIdx k).find? fun e => decide (posOf e.1 = p)) := fun _ => rfl
  have h : ∀ (l : List Patch) (k : Nat), ((l.zipIdx k).find? fun e => decide (posOf e.1 = p)).map (·.1.x) = (l.find? fun q => decide (posOf q = p)).map (·.x) := by
    intro l
    induction l with
    | nil => intro k; rfl
    | cons q l ih =>
      intro k
      rw [List.zipIdx_cons, List.find?_cons, List.find?_cons]
      by_cases h : posOf q = p
      · simp [h]
      · simp only [h, decide_false]; exact ih (k + 1)
  rw [h]
theorem applyD_eq {A : Frames} (hb : bnd A) (l : List Patch) : applyD A l = applyIn A l := by
  unfold applyD applyIn
  by_cases hN : Normal l
  · simp only [hN, if_true]
    have hws : ((wordsA A).map (·.1)).Nodup := posA_nodup A
    obtain ⟨h1, h2, h3⟩ := runW_spec (wordsA A) A l.zipIdx hws (fun q hq => List.mem_map.2 ⟨q, hq, rfl⟩)
    have hfit : (runW l A (wordsA A)).2 = [] ↔ ∀ q ∈ l, fit1 A q := by
      unfold runW
      rw [h3, List.filter_eq_nil_iff]
      constructor
      · intro h q hq
        obtain ⟨k, hk, rfl⟩ := List.getElem_of_mem hq
        have := h (l[k], k) (by simp [List.mk_mem_zipIdx_iff_getElem?, hk])
        simp only [decide_not, Bool.not_eq_true', decide_eq_false_iff_not, Decidable.not_not] at this
        exact fit1_iff.2 this
      · intro h e he
        have := fit1_iff.1 (h e.1 (List.fst_mem_of_mem_zipIdx he))
        have h5 : posOf e.1 ∈ (wordsA A).map (·.1) := this
        simpa only [decide_not, Bool.not_eq_true', decide_eq_false_iff_not, Decidable.not_not] using h5
    by_cases hF : ∀ q ∈ l, fit1 A q
    · have hFits : Fits A l := ⟨hF, hN⟩
      rw [if_pos (hfit.2 hF), if_pos hFits]
      congr 1
      refine ext_words (by rw [shape_applyL]; exact h1) (fun p hp => ?_)
      have hp' : p ∈ posA A := by rw [← posA_shape h1]; exact hp
      have h4 := h2 p hp'
      have h5 : p ∈ (wordsA A).map (·.1) := hp'
      rw [if_pos h5] at h4
      have h6 := wordAt_applyL l A (fun q hq => fit1_iff.1 (hF q hq)) (normal_nodup hN) p hp'
      show wordAt ((wordsA A).foldl stepW (A, l.zipIdx)).1 p = _
      rw [h4, h6, valR_zip]
      cases valL l p with
      | none => exact xorN_0 (hb p)
      | some x => rfl
    · have hFits : ¬ Fits A l := fun h => hF h.1
      rw [if_neg (fun h => hF (hfit.1 h)), if_neg hFits]
  · have hFits : ¬ Fits A l := fun h => hN h.2
    simp only [hN, if_false, if_neg hFits]

/-! ### Differences -/
def xorAt (f g : Frames) (p : Pos) : Nat := xorN (wordAt f p) (wordAt g p)
def dl (f g : Frames) : List Patch := (posA f).filterMap fun p => if xorAt f g p = 0 then none else some ⟨p.p, p.f, p.w, xorAt f g p⟩
theorem diffL_dl (f g : Frames) : diffL g (wordsA f) = dl f g := by
  unfold diffL dl
  rw [wordsA_pos, List.filterMap_map]
  rfl
theorem diffR_dl {f g : Frames} (h : shape f = shape g) : diffR f g = (dl f g, 0) := by
  unfold diffR
  rw [if_pos h, diffL_dl]
theorem mem_dl {f g : Frames} {q : Patch} : q ∈ dl f g ↔ posOf q ∈ posA f ∧ xorAt f g (posOf q) = q.x ∧ q.x ≠ 0 := by
  unfold dl
  rw [List.mem_filterMap]
  constructor
  · rintro ⟨p, hp, h⟩
    split at h
    · cases h
    · rename_i hx
      cases h
      exact ⟨hp, rfl, hx⟩
  · rintro ⟨h1, h2, h3⟩
    refine ⟨posOf q, h1, ?_⟩
    rw [h2, if_neg h3]
    rfl
theorem Patch.lt_of {a b : Patch} : a.lt b ↔ (posOf a).lt (posOf b) := Iff.rfl
theorem normal_of {l : List Patch} (h1 : ∀ q ∈ l, q.x ≠ 0) (h2 : l.Pairwise Patch.lt) : Normal l := by
  intro i hi
  have e1 : l.getD i default = l[i] := by simp [List.getD, hi]
  rw [e1]
  refine ⟨h1 _ (by simp), fun h0 => ?_⟩
  have hi' : i - 1 < l.length := by omega
  have e2 : l.getD (i - 1) default = l[i - 1] := by simp [List.getD, hi']
  rw [e2]
  exact List.pairwise_iff_getElem.1 h2 (i - 1) i hi' hi (by omega)
theorem normal_iff {l : List Patch} : Normal l ↔ (∀ q ∈ l, q.x ≠ 0) ∧ l.Pairwise Patch.lt := by
  constructor
  · intro h
    refine ⟨fun q hq => ?_, List.pairwise_iff_getElem.2 fun i j hi hj hij => normal_lt h i j hij hj⟩
    obtain ⟨i, hi, rfl⟩ := List.getElem_of_mem hq
    have := (h i hi).1
    simpa [List.getD, hi] using this
  · rintro ⟨h1, h2⟩; exact normal_of h1 h2
theorem dl_pairwise (f g : Frames) : (dl f g).Pairwise Patch.lt := by
  unfold dl
  rw [List.pairwise_filterMap]
  refine (posA_lt f).imp ?_
  intro a b hab x hx y hy
  split at hx
  · cases hx
  · split at hy
    · cases hy
    · cases hx; cases hy
      exact hab
theorem dl_normal (f g : Frames) : Normal (dl f g) := normal_of (fun q hq => (mem_dl.1 hq).2.2) (dl_pairwise f g)
theorem dl_fits (f g : Frames) : Fits f (dl f g) := ⟨fun q hq => fit1_iff.2 (mem_dl.1 hq).1, dl_normal f g⟩
theorem valL_dl {f g : Frames} {p : Pos} (hp : p ∈ posA f) : valL (dl f g) p = if xorAt f g p = 0 then none else some (xorAt f g p) := by
  split
  · rename_i h
    rw [valL_none]
    rintro q hq rfl
    obtain ⟨_, h2, h3⟩ := mem_dl.1 hq
    exact h3 (h2.symm.trans h)
  · rename_i h
    have hq : (⟨p.p, p.f, p.w, xorAt f g p⟩ : Patch) ∈ dl f g := mem_dl.2 ⟨hp, rfl, h⟩
    exact valL_some (normal_nodup (dl_normal f g)) hq
theorem apply_dl {f g : Frames} (hs : shape f = shape g) (hf : bnd f) (hg : bnd g) : applyIn f (dl f g) = (g, 0) := by
  unfold applyIn
  rw [if_pos (dl_fits f g)]
  congr 1
  refine ext_words (by rw [shape_applyL, hs]) (fun p hp => ?_)
  have hp' : p ∈ posA f := by rw [← posA_shape (shape_applyL (dl f g) f)]; exact hp
  rw [wordAt_applyL _ _ (fun q hq => (mem_dl.1 hq).1) (normal_nodup (dl_normal f g)) p hp', valL_dl hp']
  by_cases h : xorAt f g p = 0
  · rw [if_pos h]
    exact (xorN_zero (hf p) (hg p)).1 h
  · rw [if_neg h]
    exact xorN_back (hf p) (hg p)
theorem dl_nil {f g : Frames} (hs : shape f = shape g) (hf : bnd f) (hg : bnd g) : dl f g = [] ↔ f = g := by
  constructor
  · intro h
    refine ext_words hs (fun p hp => ?_)
    refine (xorN_zero (hf p) (hg p)).1 ?_
    by_cases h0 : xorAt f g p = 0
    · exact h0
    · have : (⟨p.p, p.f, p.w, xorAt f g p⟩ : Patch) ∈ dl f g := mem_dl.2 ⟨hp, rfl, h0⟩
      rw [h] at this; cases this
  · rintro rfl
    rw [List.eq_nil_iff_forall_not_mem]
    intro q hq
    obtain ⟨_, h2, h3⟩ := mem_dl.1 hq
    refine h3 (h2.symm.trans ?_)
    exact (xorN_zero (hf _) (hf _)).2 rfl
/-- Less patches lead elsewhere. -/
theorem apply_less {f g : Frames} (hs : shape f = shape g) (hf : bnd f) (hg : bnd g) {l : List Patch} (hl : l.Sublist (dl f g)) : Fits f l ∧ ((∃ q ∈ dl f g, q ∉ l) → (applyIn f l).1 ≠ g) := by
  have hN : Normal l := normal_of (fun q hq => (mem_dl.1 (hl.subset hq)).2.2) ((dl_pairwise f g).sublist hl)
  have hF : Fits f l := ⟨fun q hq => (dl_fits f g).1 q (hl.subset hq), hN⟩
  refine ⟨hF, ?_⟩
  rintro ⟨q, hq, hql⟩ he
  unfold applyIn at he
  rw [if_pos hF] at he
  obtain ⟨h1, h2, h3⟩ := mem_dl.1 hq
  have := wordAt_applyL l f (fun q' hq' => (mem_dl.1 (hl.subset hq')).1) (normal_nodup hN) (posOf q) h1
  have hn : valL l (posOf q) = none := by
    rw [valL_none]
    intro q' hq' e
    obtain ⟨_, g2, _⟩ := mem_dl.1 (hl.subset hq')
    rw [e, h2] at g2
    refine hql ?_
    have : q' = q := by
      cases q'; cases q
      simp only [posOf, Pos.mk.injEq] at e
      obtain ⟨rfl, rfl, rfl⟩ := e
      simp only at g2
      rw [g2]
    rw [← this]; exact hq'
  rw [hn] at this
  simp only at he this
  rw [he] at this
  refine h3 (h2.symm.trans ((xorN_zero (hf _) (hg _)).2 ?_))
  exact this.symm
end Go.Proofs.Ytcamhcnjomddbaa

/-
  CONTRACTS: sets made of bytes and words.
-/
namespace Go.Proofs.Ytcamhcnjomddbaa
open Go.Aw
set_option maxRecDepth 100000
set_option maxHeartbeats 2000000
def eByte (b : Nat) : D := .lit (.int .u8 b)
def eBytes (bs : List Nat) : D := .sl (bs.map fun b => [eByte b])
def eMade (bs ws : List Nat) : D := .agg [eBytes bs, eWords ws]
def wordM (ws : List Nat) (n : Nat) : Nat := ws.getD n n
def madeF (ws : List Nat) (n k : Nat) : List Nat := (List.range k).map fun t => wordM ws (n + t)
def lenM (b j : Nat) : Nat := (b / 5 + j) % 5
def cntR (b : Nat) : Nat → Nat
  | 0 => 0
  | j + 1 => cntR b j + lenM b j
def madeRow (ws : List Nat) (b n m : Nat) : List (List Nat) := (List.range m).map fun j => madeF ws (n + cntR b j) (lenM b j)
def cntM (bs : List Nat) : Nat → Nat
  | 0 => 0
  | i + 1 => cntM bs i + cntR (bs.getD i 0) (bs.getD i 0 % 5)
def madeTo (bs ws : List Nat) (m : Nat) : Frames := (List.range m).map fun i => madeRow ws (bs.getD i 0) (cntM bs i) (bs.getD i 0 % 5)
def made (bs ws : List Nat) : Frames := madeTo bs ws (min 4 bs.length)
theorem madeF_step (ws : List Nat) (n k : Nat) : madeF ws n (k + 1) = madeF ws n k ++ [wordM ws (n + k)] := by simp [madeF, List.range_succ]
theorem madeRow_step (ws : List Nat) (b n m : Nat) : madeRow ws b n (m + 1) = madeRow ws b n m ++ [madeF ws (n + cntR b m) (lenM b m)] := by simp [madeRow, List.range_succ]
theorem madeTo_step (bs ws : List Nat) (m : Nat) : madeTo bs ws (m + 1) = madeTo bs ws m ++ [madeRow ws (bs.getD m 0) (cntM bs m) (bs.getD m 0 % 5)] := by simp [madeTo, List.range_succ]
theorem lenM_le (b j : Nat) : lenM b j ≤ 4 := by unfold lenM; omega
theorem cntR_le (b : Nat) : ∀ j, cntR b j ≤ 4 * j
  | 0 => Nat.le_refl _
  | j + 1 => by have := cntR_le b j; have := lenM_le b j; simp only [cntR]; omega
theorem cntM_le (bs : List Nat) : ∀ i, cntM bs i ≤ 16 * i
  | 0 => Nat.le_refl _
  | i + 1 => by have := cntM_le bs i; have := cntR_le (bs.getD i 0) (bs.getD i 0 % 5); have : bs.getD i 0 % 5 ≤ 4 := by omega
                simp only [cntM]; omega
theorem madeF_len (ws : List Nat) (n k : Nat) : (madeF ws n k).length = k := by simp [madeF]
theorem madeRow_len (ws : List Nat) (b n m : Nat) : (madeRow ws b n m).length = m := by simp [madeRow]
theorem madeTo_len (bs ws : List Nat) (m : Nat) : (madeTo bs ws m).length = m := by simp [madeTo]
theorem wrap_u8 {n : Nat} (h : n < 256) : IntKind.u8.wrap (n : Int) = n := by
  simp only [IntKind.wrap, IntKind.bits, IntKind.signed]
  simp
  omega
theorem wrap_i {n : Nat} (h : n ≤ 9223372036854775807) : IntKind.i64.wrap (n : Int) = n := wrap_id (by omega) (by omega)

theorem made_c (bs ws : List Nat) (hb : ∀ b ∈ bs, b < 256) : FnP Try.prog 13 [eMade bs ws] (.d (eSet (made bs ws))) [] := by
  refine FnP.of_eC (own := []) (fun id => []) mixed Try.func13 rfl Try.call13 Try.ntmps13 (Nat.le_of_ble_eq_true rfl) Try.results13 (fun hok => ?_)
  have hok1 := (okL_cons hok).1
  simp only [eMade, D.ok] at hok1
  obtain ⟨hlb, _⟩ := ok_map (okL_cons hok1).1
  have hlw := ok_len (okL_cons (okL_cons hok1).2).1
  simp only [List.length_map] at hlw
  simp only [SE, TF, KD, GE, eq_self, ne_eq, implies_true, forall_const, if_true, if_false, cond_true, cond_false, forall_eq, List.replicate, ↓reduceIte, Nat.reduceEqDiff, Nat.reduceLT, Nat.reduceAdd, Nat.reduceSub, Nat.reduceMul, Nat.reduceLeDiff, eMade, eBytes, eByte]
  refine eloop (fun id => []) mixed (min 4 bs.length) (fun i => True) (fun i => ([(1, .bp 1 0), (3, .ar 11 i), (4, .d (eI (cntM bs i))), (5, .d (eI i))], [(1, .box [.d (eBytes bs), .d (eWords ws)]), (11, .arr 60 1 .flat (rSet (madeTo bs ws i)))])) ?_ ?_ ?_ (fun i hi hI => ?_)
  · trivial
  · simp [SE, TF, KD, GE, eq_self, ne_eq, implies_true, forall_const, if_true, if_false, cond_true, cond_false, forall_eq, List.replicate, ↓reduceIte, Nat.reduceEqDiff, Nat.reduceLT, Nat.reduceAdd, Nat.reduceSub, Nat.reduceMul, Nat.reduceLeDiff, cntM]
  · simp [SE, TF, KD, GE, eq_self, ne_eq, implies_true, forall_const, if_true, if_false, cond_true, cond_false, forall_eq, List.replicate, ↓reduceIte, Nat.reduceEqDiff, Nat.reduceLT, Nat.reduceAdd, Nat.reduceSub, Nat.reduceMul, Nat.reduceLeDiff, eBytes, eByte, madeTo, rSet]
  rcases Nat.lt_or_ge i (min 4 bs.length) with h | h
  · have h1 : i < bs.length := by omega
    have hw := wrap_succ (show i < 9223372036854775807 by omega)
    have hi4 : decide ((i : Int) < 4) = true := by simp; omega
    simp only [SE, TF, KD, GE, eq_self, ne_eq, implies_true, forall_const, if_true, if_false, cond_true, cond_false, forall_eq, List.replicate, ↓reduceIte, Nat.reduceEqDiff, Nat.reduceLT, Nat.reduceAdd, Nat.reduceSub, Nat.reduceMul, Nat.reduceLeDiff, eBytes, eByte, dec_lt h1, hi4]
    obtain ⟨b, hbi⟩ : ∃ b, bs[i] = b := ⟨_, rfl⟩
    have hbD : bs.getD i 0 = b := by simp [List.getD, h1, hbi]
    have hb256 : b < 256 := by rw [← hbi]; exact hb _ (by simp)
    obtain ⟨n, hn⟩ : ∃ n, cntM bs i = n := ⟨_, rfl⟩
    have hn64 : n ≤ 64 := by have := cntM_le bs i; omega
    have htm : ((b : Int)).tmod 5 = ((b % 5 : Nat) : Int) := rfl
    have hwm : IntKind.i64.wrap ((b % 5 : Nat) : Int) = ((b % 5 : Nat) : Int) := wrap_i (by omega)
    rw [hn]
    refine eloop (fun id => if id = 10 then [.adB 8 0 91 63 1] else []) mixed (b % 5) (fun j => True) (fun j => ([(1, .bp 1 0), (3, .ar 11 i), (4, .d (eI (n + cntR b j : Nat))), (5, .d (eI i)), (6, .ar 23 j), (7, .d (eI j))], [(1, .box [.d (eBytes bs), .d (eWords ws)]), (11, .arr 60 1 .flat (rSet (madeTo bs ws i))), (23, .arr 62 1 .flat (rRow (madeRow ws b n j)))])) ?_ ?_ ?_ (fun j hj hJ => ?_)
    · trivial
    · simp [SE, TF, KD, GE, eq_self, ne_eq, implies_true, forall_const, if_true, if_false, cond_true, cond_false, forall_eq, List.replicate, ↓reduceIte, Nat.reduceEqDiff, Nat.reduceLT, Nat.reduceAdd, Nat.reduceSub, Nat.reduceMul, Nat.reduceLeDiff, cntR]
    · simp [SE, TF, KD, GE, eq_self, ne_eq, implies_true, forall_const, if_true, if_false, cond_true, cond_false, forall_eq, List.replicate, ↓reduceIte, Nat.reduceEqDiff, Nat.reduceLT, Nat.reduceAdd, Nat.reduceSub, Nat.reduceMul, Nat.reduceLeDiff, eBytes, eByte, madeRow, rRow]
    have hlt : ∀ x y : Nat, decide ((x : Int) < (y : Int)) = decide (x < y) := by intro x y; simp
    rcases Nat.lt_or_ge j (b % 5) with h2 | h2
    · have hw2 := wrap_succ (show j < 9223372036854775807 by omega)
      have hd2 := dec_lt h2
      simp only [SE, TF, KD, GE, eq_self, ne_eq, implies_true, forall_const, if_true, if_false, cond_true, cond_false, forall_eq, List.replicate, ↓reduceIte, Nat.reduceEqDiff, Nat.reduceLT, Nat.reduceAdd, Nat.reduceSub, Nat.reduceMul, Nat.reduceLeDiff, eBytes, eByte, lt_int h1, getD_map h1, hbi, htm, hwm, hd2]
      refine ⟨by decide, ?_⟩
      obtain ⟨N, hN⟩ : ∃ N, n + cntR b j = N := ⟨_, rfl⟩
      have hN64 : N ≤ 128 := by have := cntR_le b j; omega
      have htd : ((b : Int)).tdiv 5 = ((b / 5 : Nat) : Int) := rfl
      have hw3 : IntKind.u8.wrap (j : Int) = (j : Int) := wrap_u8 (by omega)
      have hw3' : IntKind.u8.wrap ((b / 5 : Nat) : Int) = ((b / 5 : Nat) : Int) := wrap_u8 (by omega)
      have hw4 : IntKind.u8.wrap (((b / 5 : Nat) : Int) + (j : Int)) = ((b / 5 + j : Nat) : Int) := by rw [← Int.natCast_add, wrap_u8 (by omega)]
      have hw5 : IntKind.i64.wrap ((b / 5 + j : Nat) : Int) = ((b / 5 + j : Nat) : Int) := wrap_i (by omega)
      have htm5 : (((b / 5 + j : Nat) : Int)).tmod 5 = ((lenM b j : Nat) : Int) := rfl
      have hlen := lenM_le b j
      rw [hN]
      refine eloop (fun id => []) mixed (lenM b j) (fun k => True) (fun k => ([(1, .bp 1 0), (3, .ar 11 i), (4, .d (eI (N + k : Nat))), (5, .d (eI i)), (6, .ar 23 j), (7, .d (eI j)), (8, .bp 8 0), (9, .d (eI k))], [(1, .box [.d (eBytes bs), .d (eWords ws)]), (11, .arr 60 1 .flat (rSet (madeTo bs ws i))), (23, .arr 62 1 .flat (rRow (madeRow ws b n j))), (8, .box [.ar 91 k]), (91, .arr 63 1 .flat (rWords (madeF ws N k)))])) ?_ ?_ ?_ (fun k hk hK => ?_)
      · trivial
      · simp [SE, TF, KD, GE, eq_self, ne_eq, implies_true, forall_const, if_true, if_false, cond_true, cond_false, forall_eq, List.replicate, ↓reduceIte, Nat.reduceEqDiff, Nat.reduceLT, Nat.reduceAdd, Nat.reduceSub, Nat.reduceMul, Nat.reduceLeDiff]
      · simp [SE, TF, KD, GE, eq_self, ne_eq, implies_true, forall_const, if_true, if_false, cond_true, cond_false, forall_eq, List.replicate, ↓reduceIte, Nat.reduceEqDiff, Nat.reduceLT, Nat.reduceAdd, Nat.reduceSub, Nat.reduceMul, Nat.reduceLeDiff, eBytes, eByte, madeF, rWords]
      rcases Nat.lt_or_ge k (lenM b j) with h3 | h3
      · have hw6 := wrap_succ (show k < 9223372036854775807 by omega)
        have hw7 : IntKind.u64.wrap ((N + k : Nat) : Int) = ((N + k : Nat) : Int) := by
          simp only [IntKind.wrap, IntKind.bits, IntKind.signed]; simp; omega
        have hw8 := wrap_succ (show N + k < 9223372036854775807 by omega)
        have hd3 := dec_lt h3
        rcases Nat.lt_or_ge (N + k) ws.length with h4 | h4
        · have hwm2 : wordM ws (N + k) = ws[N + k] := by simp [wordM, List.getD, h4]
          simp only [SE, TF, KD, GE, eq_self, ne_eq, implies_true, forall_const, if_true, if_false, cond_true, cond_false, forall_eq, List.replicate, ↓reduceIte, Nat.reduceEqDiff, Nat.reduceLT, Nat.reduceAdd, Nat.reduceSub, Nat.reduceMul, Nat.reduceLeDiff, eBytes, eByte, lt_int h1, getD_map h1, hbi, htd, hw3, hw3', hw4, hw5, htm5, hd3, hw6, hw7, hw8, dec_lt h4, lt_int h4, getD_map h4]
          have hm1 : rWords (madeF ws N k) ++ [[D.lit (.int .u64 (wordM ws (N + k) : Nat))]] = rWords (madeF ws N (k + 1)) := by rw [madeF_step]; simp [rWords, eU]
          rw [hwm2] at hm1
          rw [hm1]
          simp only [rWords_len, madeF_len]
          exact ⟨by decide, by decide, ⟨⟨by omega, by omega⟩, trivial⟩, trivial, h3, rfl, trivial, trivial⟩
        · have hwm2 : wordM ws (N + k) = N + k := by simp [wordM, List.getD, h4]
          simp only [SE, TF, KD, GE, eq_self, ne_eq, implies_true, forall_const, if_true, if_false, cond_true, cond_false, forall_eq, List.replicate, ↓reduceIte, Nat.reduceEqDiff, Nat.reduceLT, Nat.reduceAdd, Nat.reduceSub, Nat.reduceMul, Nat.reduceLeDiff, eBytes, eByte, lt_int h1, getD_map h1, hbi, htd, hw3, hw3', hw4, hw5, htm5, hd3, hw6, hw7, hw8, dec_ge h4]
          have hm1 : rWords (madeF ws N k) ++ [[D.lit (.int .u64 (wordM ws (N + k) : Nat))]] = rWords (madeF ws N (k + 1)) := by rw [madeF_step]; simp [rWords, eU]
          rw [hwm2] at hm1
          rw [hm1]
          simp only [rWords_len, madeF_len]
          exact ⟨by decide, by decide, ⟨⟨by omega, by omega⟩, trivial⟩, trivial, h3, rfl, trivial, trivial⟩
      · simp only [SE, TF, KD, GE, eq_self, ne_eq, implies_true, forall_const, if_true, if_false, cond_true, cond_false, forall_eq, List.replicate, ↓reduceIte, Nat.reduceEqDiff, Nat.reduceLT, Nat.reduceAdd, Nat.reduceSub, Nat.reduceMul, Nat.reduceLeDiff, eBytes, eByte, lt_int h1, getD_map h1, hbi, htd, hw3, hw3', hw4, hw5, htm5, dec_ge h3, hw2]
        have : k = lenM b j := by omega
        subst this
        have hm2 : rRow (madeRow ws b n j) ++ [[D.sl (rWords (madeF ws N (lenM b j)))]] = rRow (madeRow ws b n (j + 1)) := by rw [madeRow_step, hN]; simp [rRow, rWords, eFrame, eWords]
        rw [hm2]
        simp only [rWords_len, madeF_len, rRow_len, madeRow_len, cntR, ← hN, Nat.add_assoc]
        exact ⟨by decide, by decide, trivial, ⟨⟨by omega, by omega⟩, trivial⟩, h2, ⟨trivial, trivial⟩, trivial⟩
    · simp only [SE, TF, KD, GE, eq_self, ne_eq, implies_true, forall_const, if_true, if_false, cond_true, cond_false, forall_eq, List.replicate, ↓reduceIte, Nat.reduceEqDiff, Nat.reduceLT, Nat.reduceAdd, Nat.reduceSub, Nat.reduceMul, Nat.reduceLeDiff, eBytes, eByte, lt_int h1, getD_map h1, hbi, htm, hwm, dec_ge h2, hw]
      have : j = b % 5 := by omega
      subst this
      have hm3 : rSet (madeTo bs ws i) ++ [[D.sl (rRow (madeRow ws b n (b % 5)))]] = rSet (madeTo bs ws (i + 1)) := by rw [madeTo_step, hbD, hn]; simp [rSet, rRow, eRow]
      rw [hm3]
      simp only [rRow_len, madeRow_len, rSet_len, madeTo_len, cntM, hn, hbD]
      exact ⟨by decide, trivial, ⟨⟨by omega, by omega⟩, trivial⟩, h, ⟨trivial, trivial⟩, trivial⟩
  · have hm : min 4 bs.length = i := by omega
    rcases Nat.lt_or_ge i bs.length with h1 | h1
    · have hi4 : decide ((i : Int) < 4) = false := by simp; omega
      simp only [SE, TF, KD, GE, eq_self, ne_eq, implies_true, forall_const, if_true, if_false, cond_true, cond_false, forall_eq, List.replicate, ↓reduceIte, Nat.reduceEqDiff, Nat.reduceLT, Nat.reduceAdd, Nat.reduceSub, Nat.reduceMul, Nat.reduceLeDiff, eBytes, eByte, made, hm, dec_lt h1, hi4]
      exact ⟨by rw [rSet_len, madeTo_len], rfl⟩
    · simp only [SE, TF, KD, GE, eq_self, ne_eq, implies_true, forall_const, if_true, if_false, cond_true, cond_false, forall_eq, List.replicate, ↓reduceIte, Nat.reduceEqDiff, Nat.reduceLT, Nat.reduceAdd, Nat.reduceSub, Nat.reduceMul, Nat.reduceLeDiff, eBytes, eByte, made, hm, dec_ge h1]
      exact ⟨by rw [rSet_len, madeTo_len], rfl⟩
end Go.Proofs.Ytcamhcnjomddbaa

/-
  PLAIN: the sets that the laws make: their sizes, their words' bounds.
-/
namespace Go.Proofs.Ytcamhcnjomddbaa
open Go.Aw
theorem bnd_of {A : Frames} (h : ∀ r ∈ A, ∀ ws ∈ r, ∀ x ∈ ws, x < W64) : bnd A := by
  intro p
  unfold wordAt
  have key : ∀ (ws : List Nat) (k : Nat), (∀ x ∈ ws, x < W64) → ws.getD k 0 < W64 := by
    intro ws k hw
    rcases Nat.lt_or_ge k ws.length with h1 | h1
    · simp only [List.getD, List.getElem?_eq_getElem h1, Option.getD_some]; exact hw _ (by simp)
    · simp [List.getD, List.getElem?_eq_none h1, W64]
  rcases Nat.lt_or_ge p.p.toNat A.length with h1 | h1
  · have e1 : A.getD p.p.toNat [] = A[p.p.toNat] := by simp [List.getD, h1]
    rw [e1]
    rcases Nat.lt_or_ge p.f.toNat A[p.p.toNat].length with h2 | h2
    · have e2 : A[p.p.toNat].getD p.f.toNat [] = A[p.p.toNat][p.f.toNat] := by simp [List.getD, h2]
      rw [e2]
      exact key _ _ (h _ (List.getElem_mem h1) _ (List.getElem_mem h2))
    · have e2 : A[p.p.toNat].getD p.f.toNat [] = [] := by simp [List.getD, List.getElem?_eq_none h2]
      rw [e2]; simp [W64]
  · have e1 : A.getD p.p.toNat [] = [] := by simp [List.getD, List.getElem?_eq_none h1]
    rw [e1]; simp [W64]
theorem bnd_setW {A : Frames} (h : bnd A) (i j k v : Nat) (hv : v < W64) : bnd (setW A i j k v) := by
  intro p
  have h0 := h p
  unfold wordAt setW at *
  rw [getD_set]
  split
  · rename_i e1
    rw [getD_set]
    split
    · rename_i e2
      rw [getD_set]
      split
      · exact hv
      · rw [e1.1, e2.1] at h0; exact h0
    · rw [e1.1] at h0; exact h0
  · exact h0
theorem bnd_changedL : ∀ (l : List (Nat × Nat)) {A : Frames}, bnd A → (∀ c ∈ l, c.2 < W64) → bnd (changedL A l)
  | [], A, h, _ => h
  | c :: l, A, h, hc => by
    show bnd (changedL (changed1 A c) l)
    refine bnd_changedL l ?_ (fun c' h' => hc c' (by simp [h']))
    unfold changed1 setNth
    split
    · exact bnd_setW h _ _ _ _ (hc c (by simp))
    · exact h
theorem mem_made {bs ws : List Nat} {r : List (List Nat)} (h : r ∈ made bs ws) : ∃ i, i < 4 ∧ i < bs.length ∧ r = madeRow ws (bs.getD i 0) (cntM bs i) (bs.getD i 0 % 5) := by
  unfold made madeTo at h
  simp only [List.mem_map, List.mem_range] at h
  obtain ⟨i, hi, rfl⟩ := h
  exact ⟨i, by omega, by omega, rfl⟩
theorem made_bnd {bs ws : List Nat} (hw : ∀ w ∈ ws, w < W64) : bnd (made bs ws) := by
  refine bnd_of (fun r hr f hf x hx => ?_)
  obtain ⟨i, hi, _, rfl⟩ := mem_made hr
  unfold madeRow at hf
  simp only [List.mem_map, List.mem_range] at hf
  obtain ⟨j, hj, rfl⟩ := hf
  unfold madeF at hx
  simp only [List.mem_map, List.mem_range] at hx
  obtain ⟨t, ht, rfl⟩ := hx
  have h1 := cntM_le bs i
  have h2 := cntR_le (bs.getD i 0) j
  have h3 := lenM_le (bs.getD i 0) j
  have h4 : j < 5 := by omega
  unfold wordM
  rcases Nat.lt_or_ge (cntM bs i + cntR (bs.getD i 0) j + t) ws.length with h5 | h5
  · rw [List.getD_eq_getElem?_getD, List.getElem?_eq_getElem h5]; exact hw _ (List.getElem_mem h5)
  · rw [List.getD_eq_getElem?_getD, List.getElem?_eq_none h5]; show _ < W64; unfold W64; simp only [Option.getD_none]; omega
theorem made_small (bs ws : List Nat) : small (made bs ws) := by
  refine ⟨?_, fun r hr => ?_⟩
  · unfold made; rw [madeTo_len]; omega
  · obtain ⟨i, hi, _, rfl⟩ := mem_made hr
    refine ⟨by rw [madeRow_len]; omega, fun f hf => ?_⟩
    unfold madeRow at hf
    simp only [List.mem_map, List.mem_range] at hf
    obtain ⟨j, hj, rfl⟩ := hf
    rw [madeF_len]
    have := lenM_le (bs.getD i 0) j
    omega
theorem sum_le {l : List Nat} {m : Nat} (h : ∀ x ∈ l, x ≤ m) : l.sum ≤ l.length * m := by
  induction l with
  | nil => simp
  | cons x l ih =>
    have h1 := h x (by simp)
    have h2 := ih (fun y hy => h y (by simp [hy]))
    simp only [List.sum_cons, List.length_cons, Nat.add_mul, Nat.one_mul]
    omega
theorem made_words (bs ws : List Nat) : nWords (made bs ws) ≤ 64 := by
  unfold nWords
  have h1 : ∀ x ∈ (shape (made bs ws)).map List.sum, x ≤ 16 := by
    intro x hx
    simp only [shape, List.map_map, List.mem_map] at hx
    obtain ⟨r, hr, rfl⟩ := hx
    obtain ⟨i, hi, _, rfl⟩ := mem_made hr
    have h2 : ∀ y ∈ (madeRow ws (bs.getD i 0) (cntM bs i) (bs.getD i 0 % 5)).map List.length, y ≤ 4 := by
      intro y hy
      simp only [madeRow, List.map_map, List.mem_map, List.mem_range] at hy
      obtain ⟨j, _, rfl⟩ := hy
      simp only [Function.comp, madeF_len]
      exact lenM_le _ _
    have h3 := sum_le h2
    simp only [List.length_map, madeRow_len] at h3
    simp only [Function.comp]
    omega
  have h4 := sum_le h1
  simp only [List.length_map, shape] at h4
  have : (made bs ws).length ≤ 4 := by unfold made; rw [madeTo_len]; omega
  simp only [shape]
  omega
theorem words_le {A : Frames} (h : nWords A ≤ 64) : (wordsA A).length ≤ 2000000 := by rw [wordsA_len]; omega
theorem nWords_shape {A B : Frames} (h : shape A = shape B) : nWords A = nWords B := by unfold nWords; rw [h]
theorem dl_len (f g : Frames) : (dl f g).length ≤ nWords f := by
  rw [← wordsA_len]
  unfold dl posA
  refine Nat.le_trans (List.length_filterMap_le _ _) (by simp)
theorem posA_in {A : Frames} (hs : small A) {p : Pos} (h : p ∈ posA A) : posIn p := by
  obtain ⟨i, j, k, h1, h2, h3, rfl⟩ := mem_posA.1 h
  have e1 : A.getD i [] = A[i] := by simp [List.getD, h1]
  rw [e1] at h2 h3
  have e2 : A[i].getD j [] = A[i][j] := by simp [List.getD, h2]
  rw [e2] at h3
  obtain ⟨a1, a2⟩ := hs
  obtain ⟨b1, b2⟩ := a2 A[i] (by simp)
  have := b2 A[i][j] (by simp)
  exact ⟨wf_nat (by omega), wf_nat (by omega), wf_nat (by omega)⟩
theorem dl_in {f g : Frames} (hs : small f) : ∀ q ∈ dl f g, posIn (posOf q) := fun _ hq => posA_in hs (mem_dl.1 hq).1
end Go.Proofs.Ytcamhcnjomddbaa

/-
  ARGUMENTS OF THE LAWS AS DATA.
-/
namespace Go.Proofs.Ytcamhcnjomddbaa
open Go.Aw Go.ChangeShapes Go.WideShapes Go.ChangeAt Go.RowKit
set_option maxRecDepth 100000
theorem own : ownKnob Try.prog.godebug = none := by kernel_rfl
theorem laidOut : laidOutB Try.prog = true := by kernel_rfl
def shRaw : ASh := .agg [.sl [.int .u8], .sl [.int .u64]]
def shCh : ASh := .one (.sl [.int .u64, .int .u64])
theorem raw_of {d : D} (h : shRaw.fits d) : ∃ bs ws : List Nat, d = eMade bs ws ∧ (∀ b ∈ bs, b < 256) ∧ ∀ w ∈ ws, w < W64 := by
  obtain ⟨ds, rfl, h⟩ := h
  obtain ⟨a, b, rfl, h1, h2⟩ := fitsL_2 h
  obtain ⟨bs, rfl, hb⟩ := fits_sl (enc := fun b : Nat => [eByte b]) (p := fun b => b < 256) (fun e he => by
    obtain ⟨x, rfl, hx⟩ := fitsL_1 he
    obtain ⟨n, rfl, hn⟩ := fits_u8 hx
    exact ⟨n, rfl, hn⟩) h1
  obtain ⟨ws, rfl, hw⟩ := fits_sl (enc := fun b : Nat => [eU b]) (p := fun b => b < W64) (fun e he => by
    obtain ⟨x, rfl, hx⟩ := fitsL_1 he
    obtain ⟨n, rfl, hn⟩ := fits_u64 hx
    exact ⟨n, rfl, hn⟩) h2
  exact ⟨bs, ws, rfl, hb, hw⟩
theorem changes_of {d : D} (h : shCh.fits d) : ∃ l : List (Nat × Nat), d = eChanges l ∧ ∀ c ∈ l, c.1 < W64 ∧ c.2 < W64 := by
  obtain ⟨l, rfl, hl⟩ := fits_sl (enc := eChange) (p := fun c => c.1 < W64 ∧ c.2 < W64) (fun e he => by
    obtain ⟨x, y, rfl, hx, hy⟩ := fitsL_2 he
    obtain ⟨n, rfl, hn⟩ := fits_u64 hx
    obtain ⟨m, rfl, hm⟩ := fits_u64 hy
    exact ⟨(n, m), rfl, hn, hm⟩) h
  exact ⟨l, rfl, hl⟩
theorem bytes_of {d : D} (h : Sh.fits (.sl [.int .u8]) d) : ∃ l : List Nat, d = eBytes l ∧ ∀ b ∈ l, b < 256 := by
  obtain ⟨l, rfl, hl⟩ := fits_sl (enc := fun b : Nat => [eByte b]) (p := fun b => b < 256) (fun e he => by
    obtain ⟨x, rfl, hx⟩ := fitsL_1 he
    obtain ⟨n, rfl, hn⟩ := fits_u8 hx
    exact ⟨n, rfl, hn⟩) h
  exact ⟨l, rfl, hl⟩
def shPatch : List Sh := [.int .i64, .int .i64, .int .i64, .int .u64]
theorem patches_of {d : D} (h : Sh.fits (.sl shPatch) d) : ∃ l : List Patch, d = ePatches l ∧ ∀ q ∈ l, posIn (posOf q) ∧ q.x < W64 := by
  obtain ⟨l, rfl, hl⟩ := fits_sl (enc := ePatch) (p := fun q => posIn (posOf q) ∧ q.x < W64) (fun e he => by
    obtain ⟨x, y, z, u, rfl, hx, hy, hz, hu⟩ := fitsL_4 he
    obtain ⟨a, rfl, ha, _⟩ := fits_i64 hx
    obtain ⟨b, rfl, hb, _⟩ := fits_i64 hy
    obtain ⟨c, rfl, hc, _⟩ := fits_i64 hz
    obtain ⟨n, rfl, hn⟩ := fits_u64 hu
    exact ⟨⟨a, b, c, n⟩, rfl, ⟨ha, hb, hc⟩, hn⟩) h
  exact ⟨l, rfl, hl⟩
end Go.Proofs.Ytcamhcnjomddbaa

/-
  CONTRACTS: lists split.
-/
namespace Go.Proofs.Ytcamhcnjomddbaa
open Go.Aw
set_option maxRecDepth 100000
set_option maxHeartbeats 1000000
def nCh (L n : Nat) : Nat := (L + n - 1) / n
def chunk (n : Nat) (l : List Patch) (k : Nat) : List Patch := (l.drop (k * n)).take n
def chunks (n : Nat) (l : List Patch) : List (List Patch) := (List.range (nCh l.length n)).map (chunk n l)
theorem nCh_lt {L n k : Nat} (hn : 0 < n) : k < nCh L n ↔ k * n < L := by
  unfold nCh
  rw [Nat.lt_iff_add_one_le, Nat.le_div_iff_mul_le hn, Nat.add_mul, Nat.one_mul]
  omega
theorem chunks_len (n : Nat) (l : List Patch) : (chunks n l).length = nCh l.length n := by simp [chunks]
theorem chunks_get (n : Nat) (l : List Patch) (k : Nat) (h : k < (chunks n l).length) : (chunks n l)[k] = chunk n l k := by simp [chunks]
theorem nCh_le {L n : Nat} (hn : 0 < n) : nCh L n ≤ L := by
  rcases Nat.eq_zero_or_pos (nCh L n) with h | h
  · omega
  · have := (nCh_lt (L := L) (k := nCh L n - 1) hn).1 (by omega)
    have h2 := Nat.le_mul_of_pos_right (nCh L n - 1) hn
    omega
def eCh (c : List Patch) : List D := [ePatches c]

theorem chunk_it (l : List Patch) (n : Nat) (hn : 0 < n) (hn2 : n ≤ 9223372036854775807) (hl : l.length ≤ 2000000) : IterP Try.prog 71 [.ptr [ePatches l], .ptr [eI n]] (fun pre => pre <+: (chunks n l).map eCh) (fun xs => xs = (chunks n l).map eCh) := by
  intro lim fam stop lp hY
  have := FnL.of_eC (P := Try.prog) (args := [.yv 0, .d (.ptr [ePatches l]), .d (.ptr [eI n])]) (os := [(0, .ext lim fam stop lp [])]) (PL := fun _ ol new => (∃ xs, xs = (chunks n l).map eCh ∧ ol = [(0, .ext lim fam stop lp xs)] ∧ new = []) ∨ (ol = [(0, .ext lim (fun _ => stop) stop lp [])] ∧ new = [])) (own := []) (fun _ => []) [0] mixed Try.func71 rfl Try.call71 Try.ntmps71 (Nat.le_of_ble_eq_true rfl) Try.results71 ?_
  · refine this.mono ?_
    rintro V Oo new ⟨ol, rfl, ⟨xs, h1, rfl, h2⟩ | ⟨rfl, h2⟩⟩
    · exact .inl ⟨xs, h1, rfl, h2⟩
    · exact .inr ⟨rfl, h2⟩
  simp only [SE, TF, KD, GE, eq_self, ne_eq, implies_true, forall_const, if_true, if_false, cond_true, cond_false, forall_eq, List.replicate, ↓reduceIte, Nat.reduceEqDiff, Nat.reduceLT, Nat.reduceAdd, Nat.reduceSub, Nat.reduceMul, Nat.reduceLeDiff]
  refine eloop (fun _ => []) mixed (nCh l.length n) (fun k => True) (fun k => ([(0, .yv 0), (1, .d (.ptr [ePatches l])), (2, .d (.ptr [eI n])), (4, .d (eI ((k * n : Nat) : Int)))], [(0, .ext lim fam stop lp (((chunks n l).take k).map eCh))])) ?_ ?_ ?_ (fun k hk hK => ?_)
  · trivial
  · simp [SE, TF, KD, GE, eq_self, ne_eq, implies_true, forall_const, if_true, if_false, cond_true, cond_false, forall_eq, List.replicate, ↓reduceIte, Nat.reduceEqDiff, Nat.reduceLT, Nat.reduceAdd, Nat.reduceSub, Nat.reduceMul, Nat.reduceLeDiff]
  · simp [SE, TF, KD, GE, eq_self, ne_eq, implies_true, forall_const, if_true, if_false, cond_true, cond_false, forall_eq, List.replicate, ↓reduceIte, Nat.reduceEqDiff, Nat.reduceLT, Nat.reduceAdd, Nat.reduceSub, Nat.reduceMul, Nat.reduceLeDiff]
  rcases Nat.lt_or_ge k (nCh l.length n) with h | h
  · have hkn := (nCh_lt hn).1 h
    have hlt : decide (((k * n : Nat) : Int) < (l.length : Int)) = true := dec_lt hkn
    obtain ⟨m, hm⟩ : ∃ m, min n (l.length - k * n) = m := ⟨_, rfl⟩
    have hmin : (if ((((l.length - k * n : Nat)) : Int) < (n : Int)) then (((l.length - k * n : Nat)) : Int) else (n : Int)) = (m : Int) := by
      split <;> omega
    have hdl : ((((l.map ePatch).drop (k * n)).take (l.length - k * n)).length : Int) = ((l.length - k * n : Nat) : Int) := by
      simp
    have hwm : IntKind.i64.wrap (((k * n : Nat) : Int) + (m : Int)) = ((k * n + m : Nat) : Int) := by rw [wrap_id (by omega) (by omega)]; omega
    have hkn2 : (k + 1) * n ≤ 9223372036854775807 := by
      rcases Nat.eq_zero_or_pos k with h0 | h0
      · subst h0; simpa using hn2
      · have h1 := Nat.le_mul_of_pos_left n h0
        rw [Nat.add_mul, Nat.one_mul]; omega
    have hwn : IntKind.i64.wrap (((k * n : Nat) : Int) + (n : Int)) = (((k + 1) * n : Nat) : Int) := by
      have : (k + 1) * n = k * n + n := by rw [Nat.add_mul, Nat.one_mul]
      rw [this] at hkn2 ⊢
      rw [wrap_id (by omega) (by omega)]; omega
    have hch : (List.take (k * n + m - k * n) (List.drop (k * n) (List.map ePatch l))) = (chunk n l k).map ePatch := by
      rw [Nat.add_sub_cancel_left, chunk, List.map_take, List.map_drop, ← hm]
      have : (List.drop (k * n) (List.map ePatch l)).length = l.length - k * n := by simp
      rw [← this]
      exact (List.take_eq_take_min).symm
    have hrow : ∀ e, e ∈ List.map ePatch l → e.length = 4 := by
      intro e he; obtain ⟨q, _, rfl⟩ := List.mem_map.1 he; rfl
    have hk' : k < (chunks n l).length := by rw [chunks_len]; exact h
    have hstep : ((chunks n l).take (k + 1)).map eCh = ((chunks n l).take k).map eCh ++ [[D.sl ((chunk n l k).map ePatch)]] := by
      rw [List.take_succ_eq_append_getElem hk', List.map_append, chunks_get]; rfl
    simp only [SE, TF, KD, GE, eq_self, ne_eq, implies_true, forall_const, if_true, if_false, cond_true, cond_false, forall_eq, List.replicate, ↓reduceIte, Nat.reduceEqDiff, Nat.reduceLT, Nat.reduceAdd, Nat.reduceSub, Nat.reduceMul, Nat.reduceLeDiff, hlt, hdl, hmin, hwm, Int.toNat_natCast, hch]
    refine ⟨by kernel_rfl, ⟨hrow, by omega, by omega, by omega⟩, ⟨hrow, by omega, by omega, by omega, by omega⟩, _, hY, ?_, ?_, ?_⟩
    · rw [← hstep]
      exact (List.take_prefix _ _).map _
    · simp only [SE, TF, KD, GE, eq_self, ne_eq, implies_true, forall_const, if_true, if_false, cond_true, cond_false, forall_eq, List.replicate, ↓reduceIte, Nat.reduceEqDiff, Nat.reduceLT, Nat.reduceAdd, Nat.reduceSub, Nat.reduceMul, Nat.reduceLeDiff, hwn, hstep, h]
    · simp only [SE, TF, KD, GE, eq_self, ne_eq, implies_true, forall_const, if_true, if_false, cond_true, cond_false, forall_eq, List.replicate, ↓reduceIte, Nat.reduceEqDiff, Nat.reduceLT, Nat.reduceAdd, Nat.reduceSub, Nat.reduceMul, Nat.reduceLeDiff]
      refine ⟨[], [], ?_⟩
      simp only [SE, TF, KD, GE, eq_self, ne_eq, implies_true, forall_const, if_true, if_false, cond_true, cond_false, forall_eq, List.replicate, ↓reduceIte, Nat.reduceEqDiff, Nat.reduceLT, Nat.reduceAdd, Nat.reduceSub, Nat.reduceMul, Nat.reduceLeDiff]
  · have : ¬ k * n < l.length := fun hx => by have := (nCh_lt hn).2 hx; omega
    have hlt : decide (((k * n : Nat) : Int) < (l.length : Int)) = false := dec_ge (by omega)
    simp only [SE, TF, KD, GE, eq_self, ne_eq, implies_true, forall_const, if_true, if_false, cond_true, cond_false, forall_eq, List.replicate, ↓reduceIte, Nat.reduceEqDiff, Nat.reduceLT, Nat.reduceAdd, Nat.reduceSub, Nat.reduceMul, Nat.reduceLeDiff, hlt]
    refine ⟨[], [], ?_⟩
    simp only [SE, TF, KD, GE, eq_self, ne_eq, implies_true, forall_const, if_true, if_false, cond_true, cond_false, forall_eq, List.replicate, ↓reduceIte, Nat.reduceEqDiff, Nat.reduceLT, Nat.reduceAdd, Nat.reduceSub, Nat.reduceMul, Nat.reduceLeDiff]
    exact .inl ⟨_, rfl, by rw [List.take_of_length_le (by rw [chunks_len]; omega)]⟩

theorem chunk_c (l : List Patch) (n : Nat) (hn : 0 < n) : FnP Try.prog 57 [ePatches l, eI n] (.d (.clo (.func 71) [] [.ptr [ePatches l], .ptr [eI n]])) [] := by
  refine FnP.of_eC (own := []) (fun _ => []) mixed Try.func57 rfl Try.call57 Try.ntmps57 (Nat.le_of_ble_eq_true rfl) Try.results57 (fun hok => ?_)
  have h1 : decide ((n : Int) < 1) = false := by simp; omega
  simp only [SE, TF, KD, GE, eq_self, ne_eq, implies_true, forall_const, if_true, if_false, cond_true, cond_false, forall_eq, List.replicate, ↓reduceIte, Nat.reduceEqDiff, Nat.reduceLT, Nat.reduceAdd, Nat.reduceSub, Nat.reduceMul, Nat.reduceLeDiff, h1]

def splitR (l : List Patch) (n : Int) : List (List Patch) × Int := if n < 1 then ([], 1) else (chunks n.toNat l, 0)
def eParts (p : List (List Patch)) : D := .sl (p.map eCh)
theorem split_c (l : List Patch) (n : Int) (hn2 : n ≤ 9223372036854775807) (hl : l.length ≤ 2000000) : FnP Try.prog 43 [ePatches l, eI n] (.tup [.d (eParts (splitR l n).1), .d (eI (splitR l n).2)]) [] := by
  refine FnP.of_eC (own := []) (fun id => if id = 3 then [.adB 6 0 90 28 1] else []) mixed Try.func43 rfl Try.call43 Try.ntmps43 (Nat.le_of_ble_eq_true rfl) Try.results43 (fun hok => ?_)
  by_cases h : n < 1
  · simp only [SE, TF, KD, GE, eq_self, ne_eq, implies_true, forall_const, if_true, if_false, cond_true, cond_false, forall_eq, List.replicate, ↓reduceIte, Nat.reduceEqDiff, Nat.reduceLT, Nat.reduceAdd, Nat.reduceSub, Nat.reduceMul, Nat.reduceLeDiff, h, splitR, eParts]
  · obtain ⟨N, rfl⟩ := Int.eq_ofNat_of_zero_le (show 0 ≤ n by omega)
    have hN : 0 < N := by omega
    simp only [SE, TF, KD, GE, eq_self, ne_eq, implies_true, forall_const, if_true, if_false, cond_true, cond_false, forall_eq, List.replicate, ↓reduceIte, Nat.reduceEqDiff, Nat.reduceLT, Nat.reduceAdd, Nat.reduceSub, Nat.reduceMul, Nat.reduceLeDiff, h]
    refine EFn.p ?_
    simp only [SE, TF, KD, GE, eq_self, ne_eq, implies_true, forall_const, if_true, if_false, cond_true, cond_false, forall_eq, List.replicate, ↓reduceIte, Nat.reduceEqDiff, Nat.reduceLT, Nat.reduceAdd, Nat.reduceSub, Nat.reduceMul, Nat.reduceLeDiff, ECall]
    refine ⟨_, chunk_c l N hN, ?_⟩
    simp only [SE, TF, KD, GE, eq_self, ne_eq, implies_true, forall_const, if_true, if_false, cond_true, cond_false, forall_eq, List.replicate, ↓reduceIte, Nat.reduceEqDiff, Nat.reduceLT, Nat.reduceAdd, Nat.reduceSub, Nat.reduceMul, Nat.reduceLeDiff]
    refine erange mixed (fun _ => []) rfl (by simp only [SE, TF, KD, GE, eq_self, ne_eq, implies_true, forall_const, if_true, if_false, cond_true, cond_false, forall_eq, List.replicate, ↓reduceIte, Nat.reduceEqDiff, Nat.reduceLT, Nat.reduceAdd, Nat.reduceSub, Nat.reduceMul, Nat.reduceLeDiff]) (chunk_it l N hN (by omega) hl) (fun pre => [(6, .box [.ar 90 pre.length]), (90, .arr 28 1 .flat (((chunks N l).take pre.length).map eCh))]) ?_ ?_ ?_ ?_ ?_
    · simp only [SE, TF, KD, GE, eq_self, ne_eq, implies_true, forall_const, if_true, if_false, cond_true, cond_false, forall_eq, List.replicate, ↓reduceIte, Nat.reduceEqDiff, Nat.reduceLT, Nat.reduceAdd, Nat.reduceSub, Nat.reduceMul, Nat.reduceLeDiff, List.length_nil, List.take_zero, List.map_nil]
    · intro pre; simp [noExtL, isExt]
    · simp only [SE, TF, KD, GE, eq_self, ne_eq, implies_true, forall_const, if_true, if_false, cond_true, cond_false, forall_eq, List.replicate, ↓reduceIte, Nat.reduceEqDiff, Nat.reduceLT, Nat.reduceAdd, Nat.reduceSub, Nat.reduceMul, Nat.reduceLeDiff, psOk, keysT]
    · intro pre x hA
      obtain ⟨hlt, hx, htk⟩ := pre_next hA
      have hlen : ((chunks N l).take pre.length).length = pre.length := by simp; omega
      have hc : (chunks N l).length ≤ 2000000 := by rw [chunks_len]; have := nCh_le (L := l.length) hN; omega
      subst hx
      rw [htk]
      simp only [eCh, SE, TF, KD, GE, eq_self, ne_eq, implies_true, forall_const, if_true, if_false, cond_true, cond_false, forall_eq, List.replicate, ↓reduceIte, Nat.reduceEqDiff, Nat.reduceLT, Nat.reduceAdd, Nat.reduceSub, Nat.reduceMul, Nat.reduceLeDiff, zipL, roundE, noExtL, isExt, bodyE, keysT, hlen]
      refine ⟨⟨by omega, by omega⟩, by simp; omega, ?_, ?_⟩
      · simp
      · rw [List.map_append]; rfl
    · rintro xs rfl
      have : ((chunks N l).map eCh).length = (chunks N l).length := by simp
      simp only [this, List.take_length, SE, TF, KD, GE, eq_self, ne_eq, implies_true, forall_const, if_true, if_false, cond_true, cond_false, forall_eq, List.replicate, ↓reduceIte, Nat.reduceEqDiff, Nat.reduceLT, Nat.reduceAdd, Nat.reduceSub, Nat.reduceMul, Nat.reduceLeDiff, splitR, h, eParts, Int.toNat_natCast]
end Go.Proofs.Ytcamhcnjomddbaa

/-
  THE COMPARISON OF POSITIONS, WALKED: what the world is behind it.
-/
namespace Go.Proofs.Ytcamhcnjomddbaa
open Go.Aw Go.Sort Go.RowKit
set_option maxRecDepth 100000
theorem nan_w (x : Int) (w : World) : Calls Try.prog 77 #[.int .i64 x] w fun e w' => e = .returned (.bool false) ∧ w' = w := by
  go_enter Try.func77, Try.ntmps77
  go_wp2
  go_ret
  exact ⟨by simp, rfl⟩
set_option maxHeartbeats 1000000 in
theorem cmp_w (x y : Int) (w : World) : Calls Try.prog 70 #[.int .i64 x, .int .i64 y] w fun e w' => e = .returned (.int .i64 (cmpI x y)) ∧ w' = w := by
  go_enter Try.func70, Try.ntmps70
  go_wp2_with (go_at_call 77; refine (nan_w _ _).mono ?_; rintro e w' ⟨rfl, hw⟩; rw [hw])
  all_goals (go_ret; refine ⟨?_, rfl⟩; unfold cmpI; (repeat' split) <;> first | rfl | (exfalso; omega))
set_option maxHeartbeats 2000000 in
theorem or_w (x y z : Int) (b cap : Nat) (w : World) (h0 : w.cell? ⟨b, 0, none⟩ = some (.int .i64 x)) (h1 : w.cell? ⟨b, 1, none⟩ = some (.int .i64 y)) (h2 : w.cell? ⟨b, 2, none⟩ = some (.int .i64 z)) :
    Calls Try.prog 69 #[.slice (some ⟨b, 0, none⟩) 3 cap] w fun e w' => e = .returned (.int .i64 (orI [x, y, z])) ∧ w' = w := by
  go_enter Try.func69, Try.ntmps69
  go_wp2
  go_rounds 4
  all_goals go_ret
  all_goals refine ⟨?_, rfl⟩
  all_goals simp_all [orI]
theorem two_w (w : World) (o1 o2 : Obj) (W : World) (hW : W = { ((w.alloc o1).alloc o2) with drawn := ((w.alloc o1).alloc o2).drawn + 1 }) :
    W.heap[w.heap.size]? = some o1 ∧ W.heap[w.heap.size + 1]? = some o2 ∧ ∃ q os', W = grow (w.drewN q) os' := by
  subst hW
  refine ⟨?_, ?_, 1, #[o1, o2], ?_⟩
  · show ((w.alloc o1).alloc o2).heap[w.heap.size]? = _
    exact (Go.RowKit.Below.heap_alloc _ _ _ (by simp)).trans (World.alloc_heap_new w _)
  · show ((w.alloc o1).alloc o2).heap[w.heap.size + 1]? = _
    have := World.alloc_heap_new (w.alloc o1) o2
    rwa [World.size_alloc] at this
  · rw [alloc_eq_grow, alloc_eq_grow, grow_grow]; rfl
set_option maxHeartbeats 4000000 in
theorem compare_w (a b : Pos) (w : World) : Calls Try.prog 56 #[.agg #[.int .i64 a.p, .int .i64 a.f, .int .i64 a.w], .agg #[.int .i64 b.p, .int .i64 b.f, .int .i64 b.w]] w fun e w' =>
    e = .returned (.int .i64 (cmpPos a b)) ∧ ∃ q os', w' = grow (w.drewN q) os' := by
  unfold cmpPos
  go_enter Try.func56, Try.ntmps56
  go_wp2
  refine wp_region_still_tail 15 mixed (by kernel_rfl) ?_
  obtain ⟨W, hW⟩ : ∃ W : World, W = { ((w.alloc (.cells #[.int .i64 a.p, .int .i64 a.f, .int .i64 a.w] 91)).alloc (.cells #[.int .i64 b.p, .int .i64 b.f, .int .i64 b.w] 91)) with drawn := ((w.alloc (.cells #[.int .i64 a.p, .int .i64 a.f, .int .i64 a.w] 91)).alloc (.cells #[.int .i64 b.p, .int .i64 b.f, .int .i64 b.w] 91)).drawn + 1 } := ⟨_, rfl⟩
  rw [← hW]
  obtain ⟨c0, c1, hG⟩ := two_w w _ _ W hW
  have a0 : W.cell? ⟨w.heap.size, 0, none⟩ = some (.int .i64 a.p) := by simp [World.cell?, c0]
  have a1 : W.cell? ⟨w.heap.size, 1, none⟩ = some (.int .i64 a.f) := by simp [World.cell?, c0]
  have a2 : W.cell? ⟨w.heap.size, 2, none⟩ = some (.int .i64 a.w) := by simp [World.cell?, c0]
  have b0 : W.cell? ⟨w.heap.size + 1, 0, none⟩ = some (.int .i64 b.p) := by simp [World.cell?, c1]
  have b1 : W.cell? ⟨w.heap.size + 1, 1, none⟩ = some (.int .i64 b.f) := by simp [World.cell?, c1]
  have b2 : W.cell? ⟨w.heap.size + 1, 2, none⟩ = some (.int .i64 b.w) := by simp [World.cell?, c1]
  clear hW c0 c1
  simp only [List.take_succ_cons, List.take_zero, List.drop_succ_cons, List.drop_zero]
  repeat still_step
  still_call (cmp_w _ _ _)
  repeat still_step
  still_call (cmp_w _ _ _)
  repeat still_step
  still_call (cmp_w _ _ _)
  repeat still_step
  try refine wpStill_nil ?_
  generalize hx : cmpI a.p b.p = x at *
  generalize hy : cmpI a.f b.f = y at *
  generalize hz : cmpI a.w b.w = z at *
  clear a0 a1 a2 b0 b1 b2
  obtain ⟨q, os', rfl⟩ := hG
  generalize hWW : grow (w.drewN q) os' = W
  have hor : ∀ W', W' = W.alloc (.cells #[.int .i64 x, .int .i64 y, .int .i64 z] 3) → Calls Try.prog 69 #[.slice (some ⟨W.heap.size, 0, none⟩) 3 3] W' fun e w' => e = .returned (.int .i64 (orI [x, y, z])) ∧ w' = W' := by
    rintro W' rfl
    have hh := World.alloc_heap_new W (.cells #[.int .i64 x, .int .i64 y, .int .i64 z] 3)
    exact or_w x y z _ _ _ (by simp only [World.cell?, hh]; rfl) (by simp only [World.cell?, hh]; rfl) (by simp only [World.cell?, hh]; rfl)
  generalize hr : orI [x, y, z] = r at *
  go_wp2_with (go_at_call 69; refine (hor _ rfl).mono ?_; rintro e w' ⟨rfl, rfl⟩)
  go_ret
  refine ⟨by rw [hx, hy, hz, hr]; rfl, q, os' ++ #[.cells #[.int .i64 x, .int .i64 y, .int .i64 z] 3], ?_⟩
  rw [alloc_eq_grow, ← hWW, grow_grow]
end Go.Proofs.Ytcamhcnjomddbaa

/-
  THE POSITIONS SORTED, BY THE SHELF.
-/
namespace Go.Proofs.Ytcamhcnjomddbaa
open Go.Aw Go.Sort Go.RowKit Go.Shelf
set_option maxRecDepth 100000
def encP (p : Pos) : List Value := [.int .i64 p.p, .int .i64 p.f, .int .i64 p.w]
def posLt (a b : Pos) : Prop := a.p < b.p ∨ (a.p = b.p ∧ (a.f < b.f ∨ (a.f = b.f ∧ a.w < b.w)))
theorem cmpPos_lt (a b : Pos) : cmpPos a b < 0 ↔ posLt a b := by
  unfold cmpPos orI cmpI posLt
  repeat' split
  all_goals simp_all
  all_goals omega
theorem ltOf_pos (a b : Pos) : ltOf cmpPos a b = true ↔ posLt a b := by unfold ltOf; rw [decide_eq_true_eq]; exact cmpPos_lt a b
theorem ltOf_posF (a b : Pos) : ltOf cmpPos a b = false ↔ ¬ posLt a b := by rw [← ltOf_pos]; simp
theorem swoPos : SWO (ltOf cmpPos) := {
  irrefl := fun x => by rw [ltOf_posF]; unfold posLt; omega
  trans := fun x y z h1 h2 => by rw [ltOf_pos] at *; unfold posLt at *; omega
  ntrans := fun x y z h1 h2 => by rw [ltOf_posF] at *; unfold posLt at *; omega }
theorem posTotal (x y : Pos) (h1 : ltOf cmpPos x y = false) (h2 : ltOf cmpPos y x = false) : x = y := by
  rw [ltOf_posF] at *
  obtain ⟨a, b, c⟩ := x
  obtain ⟨a', b', c'⟩ := y
  unfold posLt at *
  simp only [Pos.mk.injEq] at *
  omega
noncomputable def sortP (l : List Pos) : List Pos := l.mergeSort fun x y => !(ltOf cmpPos) y x

theorem flatMap3 (enc : Pos → List Value) (h : ∀ x, (enc x).length = 3) : ∀ (l : List Pos) (t : Nat), (l.flatMap enc)[t]? = (l[t / 3]?).bind fun x => (enc x)[t % 3]?
  | [], t => by simp
  | x :: l, t => by
    rw [List.flatMap_cons]
    rcases Nat.lt_or_ge t 3 with ht | ht
    · rw [List.getElem?_append_left (by rw [h]; exact ht), Nat.div_eq_of_lt ht, Nat.mod_eq_of_lt ht]
      simp
    · obtain ⟨s, rfl⟩ : ∃ s, t = s + 3 := ⟨t - 3, by omega⟩
      rw [List.getElem?_append_right (by rw [h]; omega), h, Nat.add_sub_cancel, flatMap3 enc h l s, Nat.add_mod_right]
      rw [show (s + 3) / 3 = s / 3 + 1 by omega]
      simp
theorem flatK_list (l : List Pos) : (flatK encP 3 l.toArray).toList = l.flatMap encP := by
  apply List.ext_getElem?
  intro t
  rw [flatMap3 encP (fun _ => rfl)]
  by_cases ht : t < l.length * 3
  · have h3 : t / 3 < l.length := by omega
    have h4 : t % 3 < 3 := Nat.mod_lt _ (by omega)
    have h5 : t % 3 < (encP l[t / 3]).length := h4
    rw [List.getElem?_eq_getElem h3]
    simp only [Option.bind_some]
    rw [List.getElem?_eq_getElem h5]
    simp [flatK, ht, h3, getElem!_pos, h5]
  · rw [List.getElem?_eq_none (by simp; omega), List.getElem?_eq_none (show l.length ≤ t / 3 by omega)]
    rfl

def Try.sortPos_ren : Go.Shelf.Ren := ⟨fun | 6 => 67 | 15 => 76 | 14 => 75 | 28 => 86 | 29 => 87 | 20 => 78 | 21 => 79 | 22 => 80 | 23 => 81 | 24 => 82 | 25 => 83 | 26 => 84 | 27 => 85 | 46 => 88 | 47 => 89 | 48 => 90 | 49 => 91 | 50 => 92 | 57 => 93 | n => n, fun | 22 => 96 | 24 => 91 | 25 => 101 | 3 => 3 | 39 => 123 | 0 => 0 | 53 => 135 | 55 => 63 | 4 => 4 | 46 => 128 | 45 => 127 | 50 => 132 | 5 => 5 | 9 => 9 | 66 => 137 | 70 => 141 | 76 => 143 | 77 => 144 | n => n, fun | n => n⟩
theorem Try.sortPos : Go.Proofs.SlLaysF0.n6 Try.prog Try.sortPos_ren := {
  mixed := by kernel_rfl
  f6 := ⟨Try.f67.name, by decide, Try.func67.trans (congrArg some (by kernel_rfl))⟩
  f14 := ⟨Try.f75.name, by decide, Try.func75.trans (congrArg some (by kernel_rfl))⟩
  f15 := Try.func76.trans (congrArg some (by kernel_rfl))
  f20 := ⟨Try.f78.name, by decide, Try.func78.trans (congrArg some (by kernel_rfl))⟩
  f21 := ⟨Try.f79.name, by decide, Try.func79.trans (congrArg some (by kernel_rfl))⟩
  f22 := ⟨Try.f80.name, by decide, Try.func80.trans (congrArg some (by kernel_rfl))⟩
  f23 := ⟨Try.f81.name, by decide, Try.func81.trans (congrArg some (by kernel_rfl))⟩
  f24 := ⟨Try.f82.name, by decide, Try.func82.trans (congrArg some (by kernel_rfl))⟩
  f25 := ⟨Try.f83.name, by decide, Try.func83.trans (congrArg some (by kernel_rfl))⟩
  f26 := ⟨Try.f84.name, by decide, Try.func84.trans (congrArg some (by kernel_rfl))⟩
  f27 := ⟨Try.f85.name, by decide, Try.func85.trans (congrArg some (by kernel_rfl))⟩
  f28 := Try.func86.trans (congrArg some (by kernel_rfl))
  f29 := Try.func87.trans (congrArg some (by kernel_rfl))
  f46 := ⟨Try.f88.name, by decide, Try.func88.trans (congrArg some (by kernel_rfl))⟩
  f47 := Try.func89.trans (congrArg some (by kernel_rfl))
  f48 := Try.func90.trans (congrArg some (by kernel_rfl))
  f49 := ⟨Try.f91.name, by decide, Try.func91.trans (congrArg some (by kernel_rfl))⟩
  f50 := ⟨Try.f92.name, by decide, Try.func92.trans (congrArg some (by kernel_rfl))⟩
  f57 := ⟨Try.f93.name, by decide, Try.func93.trans (congrArg some (by kernel_rfl))⟩
  t0 := Try.underlying0
  a0 := Try.isAgg0
  z0 := Try.sizeOf0
  v0 := Try.zeroValue0
  t3 := Try.underlying3
  a3 := Try.isAgg3
  z3 := Try.sizeOf3
  v3 := Try.zeroValue3
  t4 := Try.underlying4
  a4 := Try.isAgg4
  z4 := Try.sizeOf4
  v4 := Try.zeroValue4
  t5 := Try.underlying5
  a5 := Try.isAgg5
  z5 := Try.sizeOf5
  v5 := Try.zeroValue5
  t9 := Try.underlying9
  a9 := Try.isAgg9
  z9 := Try.sizeOf9
  v9 := Try.zeroValue9
  t22 := Try.underlying96
  a22 := Try.isAgg96
  z22 := Try.sizeOf96
  v22 := Try.zeroValue96
  t25 := Try.underlying101
  a25 := Try.isAgg101
  z25 := Try.sizeOf101
  v25 := Try.zeroValue101
  t39 := Try.underlying123
  a39 := Try.isAgg123
  z39 := Try.sizeOf123
  v39 := Try.zeroValue123
  t45 := Try.underlying127
  a45 := Try.isAgg127
  z45 := Try.sizeOf127
  v45 := Try.zeroValue127
  t46 := Try.underlying128
  a46 := Try.isAgg128
  z46 := Try.sizeOf128
  v46 := Try.zeroValue128
  t50 := Try.underlying132
  a50 := Try.isAgg132
  z50 := Try.sizeOf132
  v50 := Try.zeroValue132
  t53 := Try.underlying135
  a53 := Try.isAgg135
  z53 := Try.sizeOf135
  v53 := Try.zeroValue135
  t55 := Try.underlying63
  a55 := Try.isAgg63
  z55 := Try.sizeOf63
  v55 := Try.zeroValue63
  t66 := Try.underlying137
  a66 := Try.isAgg137
  z66 := Try.sizeOf137
  v66 := Try.zeroValue137
  t70 := Try.underlying141
  a70 := Try.isAgg141
  z70 := Try.sizeOf141
  v70 := Try.zeroValue141
  t76 := Try.underlying143
  a76 := Try.isAgg143
  z76 := Try.sizeOf143
  v76 := Try.zeroValue143
  t77 := Try.underlying144
  a77 := Try.isAgg144
  z77 := Try.sizeOf144
  v77 := Try.zeroValue144 }
theorem putCells_take (F cur : Array Value) (h : F.size ≤ cur.size) : (putCells id 0 F cur).toList.take F.size = F.toList := by
  apply List.ext_getElem?
  intro t
  rw [List.getElem?_take]
  split
  · rename_i ht
    have h2 : t < cur.size := by omega
    simp [putCells, ht, h2, getElem!_pos]
  · rename_i ht
    rw [List.getElem?_eq_none (by simpa using ht)]
theorem putCells_size (F cur : Array Value) : (putCells id 0 F cur).size = cur.size := by simp [putCells]

/-- The world behind the sorting. -/
theorem sortW_heap {enc : Pos → List Value} {k m g : Nat} {d : Array Pos} {os : Array Obj} {W : World} {cur : Array Value} {e : TypeId} (hg : W.heap[g]? = some (.cells cur e (0, 0))) :
    (∀ b, b < W.heap.size → b ≠ g → (sortWorldK enc k W g 0 m d os).heap[b]? = W.heap[b]?) ∧ (sortWorldK enc k W g 0 m d os).heap[g]? = some (.cells (putCells id 0 (flatK enc k d) cur) e (0, 0)) ∧
      W.heap.size ≤ (sortWorldK enc k W g 0 m d os).heap.size := by
  have hlt : g < W.heap.size := (Array.getElem?_eq_some_iff.1 hg).1
  have hh : (sortWorldK enc k W g 0 m d os).heap = W.heap.modify g (onCells (putCells id 0 (flatK enc k d))) ++ os := rfl
  rw [hh]
  refine ⟨fun b hb hne => ?_, ?_, by simp⟩
  · rw [Array.getElem?_append_left (by simpa using hb), Array.getElem?_modify, if_neg (Ne.symm hne)]
  · rw [Array.getElem?_append_left (by simpa using hlt), Array.getElem?_modify, if_pos rfl, hg]
    rfl

theorem rdPos {W : World} {F : Nat → Prop} : ∀ (l : List Pos) (vs : List Value), RdVals W F (l.map ePos).flatten vs ↔ vs = l.flatMap encP
  | [], vs => by simp [RdVals]
  | p :: l, vs => by
    have ih := rdPos (W := W) (F := F) l
    simp only [List.map_cons, List.flatten_cons, ePos, eI, List.cons_append, List.nil_append, RdVals, Aw.Rd, List.flatMap_cons, encP]
    constructor
    · rintro ⟨v, r, rfl, rfl, v2, r2, rfl, rfl, v3, r3, rfl, rfl, h⟩
      rw [(ih r3).1 (by simpa [ePos, eI] using h)]
    · rintro rfl
      refine ⟨_, _, rfl, rfl, _, _, rfl, rfl, _, _, rfl, rfl, ?_⟩
      have := (ih (l.flatMap encP)).2 rfl
      simpa [ePos, eI] using this

theorem sortP_length (l : List Pos) : (sortP l).length = l.length := by simp [sortP]

theorem sort_c (l : List Pos) (hl : l.length < 4611686018427387904) : FnL Try.prog 67 [.ar 0 l.length, .d (.clo (.func 56) [] [])] [(0, .arr 91 3 .flat (l.map ePos))] (fun V ol new => V = .tup [] ∧ ol = [(0, .arr 91 3 .flat ((sortP l).map ePos))] ∧ new = []) := by
  refine ⟨fun W bs => Try.call67 bs W, ?_⟩
  intro W F O0 η S vs hm hO hr
  simp only [RelVs, RelV] at hr
  obtain ⟨v0, r0, rfl, hv0, v1, r1, rfl, hv1, rfl⟩ := hr
  have hobj := hm.obj 0 _ (by simp only [om, if_true]; rfl)
  have e0 : v0 = η 0 := (hv0 91 3 .flat (l.map ePos) (by simp [om])).2 (by simp)
  have fin : ∀ (W' : World) (F' : Nat → Prop), Mem ⟨Try.prog, N0, W, F, O0, [], [], fun _ => undef⟩ (om [(0, .arr 91 3 .flat ((sortP l).map ePos))]) W' F' η S →
      ∃ v' V Oo new F' η' S', Ending.returned (.tuple #[]) = .returned v' ∧ (∃ ol, Oo = om ol ∧ (V = AV.tup [] ∧ ol = [(0, AO.arr 91 3 .flat ((sortP l).map ePos))] ∧ new = [])) ∧ (∀ i ∈ new, ∀ lim fam stop l rest, Oo i ≠ some (.ext lim fam stop l rest)) ∧
        Mem ⟨Try.prog, N0, W, F, O0, [], [], fun _ => undef⟩ Oo W' F' η' S' ∧ RelV Oo W' F' η' V v' ∧ Keeps (om [(0, .arr 91 3 .flat (l.map ePos))]) Oo η η' new := by
    intro W' F' m1
    refine ⟨_, .tup [], _, [], F', η, S, rfl, ⟨_, rfl, rfl, rfl, rfl⟩, by simp, m1, by simp [RelV, RelVs], ?_⟩
    intro id o' ho
    simp only [om] at ho
    split at ho
    · rename_i h0
      subst h0
      cases ho
      exact .inr ⟨_, by simp only [om, if_true]; rfl, by simp [sortP_length]⟩
    · cases ho
  have e1 : v1 = .func (.func 56) #[] #[] := by
    simp only [Aw.Rd, RdVals] at hv1
    obtain ⟨a, b, rfl, rfl, rfl⟩ := hv1
    rfl
  subst e0 e1
  obtain ⟨_, hk, hcase⟩ := hobj
  rcases hcase with ⟨hn, hes, hs⟩ | ⟨g, cap, cur, s1, hv, hg, hle, hcap, hcur, hs, hC⟩
  · have : l = [] := by simpa using hes
    subst this
    obtain ⟨ad, hn⟩ := hn
    rw [hn]
    refine (AnyF.slices_SortFunc_none Try.sortPos ad 0 _ W).mono ?_
    rintro e W' ⟨rfl, hW⟩
    subst hW
    exact fin _ F (by simpa [sortP] using hm)
  · obtain ⟨hC2, rfl⟩ := (own0 _ _ _).1 hC
    have hcells := (rdPos l _).1 hC2
    rw [List.length_map] at hv hcells
    rw [hv]
    have hsz : (flatK encP 3 l.toArray).size = l.length * 3 := by simp
    have hH : HoldsK encP 3 W g 0 l.toArray := by
      intro j hj
      rw [hsz] at hj
      have hjc : j < cur.size := by rw [hcur, List.length_map] at *; omega
      have e2 : cur[j]? = (flatK encP 3 l.toArray)[j]? := by
        have h1 := congrArg (fun x => x[j]?) hcells
        rw [← flatK_list] at h1
        simp only [List.getElem?_take, hj, if_true, Array.getElem?_toList] at h1
        exact h1
      refine ⟨?_, by simp [World.frozen?, hg]⟩
      simp only [World.cell?, hg, Nat.zero_add]
      have : (flatK encP 3 l.toArray)[j]! = (flatK encP 3 l.toArray)[j]'(by rw [hsz]; exact hj) := getElem!_pos _ j (by rw [hsz]; exact hj)
      simp only [id, this]
      rw [show (({ block := g, off := j, spot := none } : Addr).spot.isSome) = false from rfl]
      simp only [Bool.false_eq_true, if_false, e2]
      rw [Array.getElem?_eq_getElem]
    have hsort := AnyQ.slices_SortFunc_total Try.sortPos 3 Try.isAgg91 Try.sizeOf91 encP (fun _ => rfl) (fun x v hv => by simp [encP] at hv; rcases hv with rfl | rfl | rfl <;> rfl) cmpPos swoPos 56 #[] g 0 cap l.toArray W (fun bs w => Try.call56 bs w) (fun m os dk _ x y => by simpa [encP] using compare_w x y _) hH (Array.getElem?_eq_some_iff.1 hg).1 (by simpa using hl) posTotal
    change Calls Try.prog 67 _ _ _ at hsort
    refine hsort.mono ?_
    rintro e W' ⟨rfl, n, os, hW⟩
    obtain ⟨b1, b2, b3⟩ := sortW_heap (enc := encP) (k := 3) (m := n) (d := (l.toArray.toList.mergeSort fun x y => !(ltOf cmpPos) y x).toArray) (os := os) hg
    have f1 : W'.os = W.os := by rw [hW]; rfl
    have f2 : W'.tape = W.tape := by rw [hW]; rfl
    have f3 : W'.output = W.output := by rw [hW]; rfl
    rw [← hW] at b1 b2 b3
    clear hW hsort
    have hk2 : Keeps (om [(0, .arr 91 3 .flat (l.map ePos))]) (upd (om [(0, .arr 91 3 .flat (l.map ePos))]) 0 (some (.arr 91 3 .flat ((sortP l).map ePos)))) η (upd η 0 (η 0)) [] := by
      intro id o' ho
      simp only [upd, om] at ho
      split at ho
      · rename_i h0
        subst h0
        cases ho
        exact .inr ⟨_, by simp only [om, if_true]; rfl, by simp [sortP_length, upd]⟩
      · rename_i h0
        cases ho
    obtain ⟨m1, m2⟩ := hm.change (W' := W') (F' := F) 0 (some (.arr 91 3 .flat ((sortP l).map ePos))) (η 0) (S 0) [] f1 f2 f3 b3
      (fun b hb hne => b1 b hb (fun e => hne (by rw [hs, e]; simp))) (fun _ h => h) (fun _ h => .inl h) (fun b hb => (hm.apart 0 b hb).1) (hm.nd 0) (fun b hb => .inl hb) (fun h => by cases h) hk2 (fun id o ho hne => by simp [om] at ho; exact absurd ho.1 hne) (fun o ho hF => by
        cases ho
        refine ⟨by simp [sortP_length]; simpa using Nat.le_trans hle hcap, fun x hx => ?_, .inr ⟨g, cap, _, [], ?_, b2, ?_, hcap, ?_, hs, ?_⟩⟩
        · obtain ⟨p, _, rfl⟩ := List.mem_map.1 hx; rfl
        · rw [hv, List.length_map, sortP_length]
        · simpa [sortP_length] using hle
        · rw [putCells_size, hcur]
        · refine (own0 _ _ _).2 ⟨(rdPos _ _).2 ?_, rfl⟩
          have hsz2 : (flatK encP 3 (sortP l).toArray).size = l.length * 3 := by simp [sortP_length]
          have hle2 : (flatK encP 3 (sortP l).toArray).size ≤ cur.size := by rw [hsz2, hcur]; exact Nat.mul_le_mul_right _ (by simpa using hle)
          have := putCells_take _ cur hle2
          rw [flatK_list, hsz2] at this
          rw [List.length_map, sortP_length]
          exact this)
    have u1 : upd (om [(0, .arr 91 3 .flat (l.map ePos))]) 0 (some (.arr 91 3 .flat ((sortP l).map ePos))) = om [(0, .arr 91 3 .flat ((sortP l).map ePos))] := by
      funext id
      simp only [upd, om]
      split
      · rfl
      · rfl
    have u2 : upd η 0 (η 0) = η := by funext id; simp only [upd]; split <;> simp_all
    have u3 : upd S 0 (S 0) = S := by funext id; simp only [upd]; split <;> simp_all
    rw [u1, u2, u3] at m1
    exact fin _ F m1
end Go.Proofs.Ytcamhcnjomddbaa

/-
  CONTRACTS: lists one behind the other.
-/
namespace Go.Proofs.Ytcamhcnjomddbaa
open Go.Aw Go.RowKit Go.Shelf
set_option maxRecDepth 100000
set_option maxHeartbeats 1000000
def Try.growP_ren : Go.Shelf.Ren := ⟨fun | 4 => 65 | n => n, fun | 22 => 28 | 25 => 65 | 3 => 3 | 4 => 4 | 9 => 9 | 20 => 20 | 0 => 0 | n => n, fun | n => n⟩
theorem Try.growP : Go.Proofs.Lays8.n4 Try.prog Try.growP_ren := {
  mixed := by kernel_rfl
  f4 := ⟨Try.f65.name, by decide, Try.func65.trans (congrArg some (by kernel_rfl))⟩
  t0 := Try.underlying0
  a0 := Try.isAgg0
  z0 := Try.sizeOf0
  v0 := Try.zeroValue0
  t3 := Try.underlying3
  a3 := Try.isAgg3
  z3 := Try.sizeOf3
  v3 := Try.zeroValue3
  t4 := Try.underlying4
  a4 := Try.isAgg4
  z4 := Try.sizeOf4
  v4 := Try.zeroValue4
  t9 := Try.underlying9
  a9 := Try.isAgg9
  z9 := Try.sizeOf9
  v9 := Try.zeroValue9
  t20 := Try.underlying20
  a20 := Try.isAgg20
  z20 := Try.sizeOf20
  v20 := Try.zeroValue20
  t22 := Try.underlying28
  a22 := Try.isAgg28
  z22 := Try.sizeOf28
  v22 := Try.zeroValue28 }

def infoB (P : Program) (t : TypeId) (s b : Nat) : Bool := match P.info? t with
  | some i => i.size == s && i.bytes == b && (match i.zero with | some z => z.cells.size == s | none => false)
  | none => false
theorem infoB_some {P : Program} {t : TypeId} {s b : Nat} (h : infoB P t s b = true) : ∃ i z, P.info? t = some i ∧ i.zero = some z ∧ i.size = s ∧ i.bytes = b ∧ z.cells.size = s := by
  unfold infoB at h
  split at h
  · rename_i i hi
    simp only [Bool.and_eq_true, beq_iff_eq] at h
    obtain ⟨⟨h1, h2⟩, h3⟩ := h
    split at h3
    · rename_i z hz
      exact ⟨i, z, hi, hz, h1, h2, by simpa using h3⟩
    · cases h3
  · cases h
theorem info65 : ∃ i z, Try.prog.info? 65 = some i ∧ i.zero = some z ∧ i.size = 4 ∧ i.bytes = 32 ∧ z.cells.size = 4 := infoB_some (by kernel_rfl)
theorem grow_c (n : Nat) (hn : n ≤ 2000000) : FnL Try.prog 65 [.nils, .d (eI n)] [] (fun V ol new => V = .ar 5 0 ∧ ol = [(5, .arr 65 4 .flat [])] ∧ new = [5]) := by
  refine ⟨fun W bs => Try.call65 bs W, ?_⟩
  intro W F O0 η S vs hm hO hr
  simp only [RelVs, RelV, Rd, eI] at hr
  obtain ⟨v0, r0, rfl, rfl, v1, r1, rfl, rfl, rfl⟩ := hr
  have fin : ∀ (W' : World) (v : Value) (S' : Nat → List Nat), Mem ⟨Try.prog, N0, W, F, O0, [], [], fun _ => undef⟩ (upd (om []) 5 (some (.arr 65 4 .flat []))) W' F (upd η 5 v) S' →
      ∃ v' V Oo new F' η' S', Ending.returned v = .returned v' ∧ (∃ ol, Oo = om ol ∧ (V = AV.ar 5 0 ∧ ol = [(5, AO.arr 65 4 .flat [])] ∧ new = [5])) ∧ (∀ i ∈ new, ∀ lim fam stop l rest, Oo i ≠ some (.ext lim fam stop l rest)) ∧
        Mem ⟨Try.prog, N0, W, F, O0, [], [], fun _ => undef⟩ Oo W' F' η' S' ∧ RelV Oo W' F' η' V v' ∧ Keeps (om []) Oo η η' new := by
    intro W' v S' m1
    have hk := Keeps.newA (om []) η 5 (.arr 65 4 .flat []) v
    rw [upd_om] at m1 hk
    refine ⟨v, .ar 5 0, om [(5, .arr 65 4 .flat [])], [5], F, _, _, rfl, ⟨_, rfl, rfl, rfl, rfl⟩, ?_, m1, ?_, hk⟩
    · intro i hi lim fam stop l rest h
      simp at hi
      subst hi
      simp [om] at h
    · simp only [RelV]
      intro e k dep es ho
      simp only [om, if_true, Option.some.injEq, AO.arr.injEq] at ho
      obtain ⟨rfl, rfl, rfl, rfl⟩ := ho
      simp [upd]
  rcases Nat.eq_zero_or_pos n with h0 | h0
  · subst h0
    refine (Any8.slices_Grow_room Try.growP none 0 0 0 W (Nat.le_refl _) (by omega) (by omega) (Nat.le_refl _)).mono ?_
    rintro e W' ⟨rfl, hW⟩
    subst hW
    obtain ⟨m1, m2⟩ := hm.change (W' := W') (F' := F) 5 (some (.arr 65 4 .flat [])) (.slice none 0 0) [] [5] rfl rfl rfl (Nat.le_refl _) (fun _ _ _ => rfl) (fun _ h => h) (fun _ h => .inl h) (by simp) (by simp) (by simp) (fun h => by cases h) (Keeps.newA _ _ _ _ _) (fun _ _ h => by simp [om] at h)
      (fun o ho _ => by cases ho; exact ⟨Nat.zero_le _, by simp, .inl ⟨⟨_, rfl⟩, rfl, rfl⟩⟩)
    exact fin _ _ _ m1
  · obtain ⟨i, z, i1, i2, i3, i4, i5⟩ := info65
    refine (Any8.slices_Grow_grow Try.growP i z i1 i2 (by omega) none 0 0 n [] W (Nat.le_refl _) (by omega) (by rw [i4]; omega) (by omega) (by simp) (fun _ => rfl) (fun _ h => by cases h)).mono ?_
    rintro e W' ⟨rfl, rfl⟩
    have hcap := grownCap_ge W (0 + n) 0 (Try.growP_ren.t 25)
    have hcap2 := grownCap_le_maxLen W (0 + n) 0 (Try.growP_ren.t 25) (by unfold maxLen; omega)
    refine fin _ _ _ (hm.newArr (W' := W.drew.alloc _) (cap := grownCap W (0 + n) 0 (Try.growP_ren.t 25)) (es := []) [5] rfl rfl rfl rfl (by simp) (Nat.zero_le _) hcap2 ?_ ?_ (Keeps.newA _ _ _ _ _) (fun _ _ h => by simp [om] at h)).1
    · simp only [List.size_toArray, Array.size_append, size_zeroCells, i5]
      simp only [List.length_nil]
      omega
    · simp [RdVals]

def lenTo (ps : List (List Patch)) (i : Nat) : Nat := ((ps.take i).map List.length).sum
theorem lenTo_succ (ps : List (List Patch)) (i : Nat) (h : i < ps.length) : lenTo ps (i + 1) = lenTo ps i + ps[i].length := by
  simp only [lenTo, List.take_succ_eq_append_getElem h, List.map_append, List.sum_append, List.map_cons, List.map_nil, List.sum_cons, List.sum_nil, Nat.add_zero]
theorem lenTo_le (ps : List (List Patch)) (i : Nat) : lenTo ps i ≤ (ps.map List.length).sum := by
  conv => rhs; rw [← List.take_append_drop i ps, List.map_append, List.sum_append]
  exact Nat.le_add_right _ _
theorem lenTo_flat (ps : List (List Patch)) (i : Nat) : ((ps.take i).flatten).length = lenTo ps i := by
  simp [lenTo, List.length_flatten]
def rPatches (l : List Patch) : List (List D) := l.map ePatch
theorem rowsOk_patches (l : List Patch) : rowsOk 4 (List.map ePatch l) := by
  intro y hy
  obtain ⟨q, _, rfl⟩ := List.mem_map.1 hy
  simp [SE, TF, KD, GE, eq_self, ne_eq, implies_true, forall_const, if_true, if_false, cond_true, cond_false, forall_eq, List.replicate, ↓reduceIte, Nat.reduceEqDiff, Nat.reduceLT, Nat.reduceAdd, Nat.reduceSub, Nat.reduceMul, Nat.reduceLeDiff]
theorem concat_c (ps : List (List Patch)) (hp : ps.length ≤ 2000000) (ht : (ps.map List.length).sum ≤ 2000000) : FnP Try.prog 53 [eParts ps] (.d (ePatches ps.flatten)) [] := by
  refine FnP.of_eC (own := []) (fun id => []) mixed Try.func53 rfl Try.call53 Try.ntmps53 (Nat.le_of_ble_eq_true rfl) Try.results53 (fun hok => ?_)
  simp only [SE, TF, KD, GE, eq_self, ne_eq, implies_true, forall_const, if_true, if_false, cond_true, cond_false, forall_eq, List.replicate, ↓reduceIte, Nat.reduceEqDiff, Nat.reduceLT, Nat.reduceAdd, Nat.reduceSub, Nat.reduceMul, Nat.reduceLeDiff, eParts, eCh]
  refine eloop (fun _ => []) mixed ps.length (fun i => True) (fun i => ([(0, .d (eParts ps)), (3, .d (eI (lenTo ps i))), (9, .d (eParts ps)), (10, .d (eI ps.length)), (11, .d (eI i))], [])) ?_ ?_ ?_ (fun i hi hI => ?_)
  · trivial
  · simp [SE, TF, KD, GE, eq_self, ne_eq, implies_true, forall_const, if_true, if_false, cond_true, cond_false, forall_eq, List.replicate, ↓reduceIte, Nat.reduceEqDiff, Nat.reduceLT, Nat.reduceAdd, Nat.reduceSub, Nat.reduceMul, Nat.reduceLeDiff, eParts, eCh, lenTo]
  · simp [SE, TF, KD, GE, eq_self, ne_eq, implies_true, forall_const, if_true, if_false, cond_true, cond_false, forall_eq, List.replicate, ↓reduceIte, Nat.reduceEqDiff, Nat.reduceLT, Nat.reduceAdd, Nat.reduceSub, Nat.reduceMul, Nat.reduceLeDiff]
  rcases Nat.lt_or_ge i ps.length with h | h
  · have hw := wrap_succ (show i < 9223372036854775807 by omega)
    have h1 := lenTo_succ ps i h
    have h2 := lenTo_le ps (i + 1)
    have hw2 : IntKind.i64.wrap ((lenTo ps i : Int) + (ps[i].length : Int)) = ((lenTo ps (i + 1) : Nat) : Int) := by rw [h1, ← Int.natCast_add, wrap_id (by omega) (by omega)]
    have h3 : decide (((lenTo ps (i + 1) : Nat) : Int) < 0) = false := by simp
    simp only [SE, TF, KD, GE, eq_self, ne_eq, implies_true, forall_const, if_true, if_false, cond_true, cond_false, forall_eq, List.replicate, ↓reduceIte, Nat.reduceEqDiff, Nat.reduceLT, Nat.reduceAdd, Nat.reduceSub, Nat.reduceMul, Nat.reduceLeDiff, eParts, eCh, dec_lt h, getD_map h, lt_int h, hw, hw2, h3, h]
  · have : i = ps.length := by omega
    subst this
    have h2 := lenTo_le ps ps.length
    simp only [SE, TF, KD, GE, eq_self, ne_eq, implies_true, forall_const, if_true, if_false, cond_true, cond_false, forall_eq, List.replicate, ↓reduceIte, Nat.reduceEqDiff, Nat.reduceLT, Nat.reduceAdd, Nat.reduceSub, Nat.reduceMul, Nat.reduceLeDiff, eParts, eCh, dec_ge h]
    refine EFn.g ⟨[(5, 90)], [.nils, .d (eI (lenTo ps ps.length))], _, _, grow_c _ (by omega), ?_⟩
    simp only [SE, TF, KD, GE, eq_self, ne_eq, implies_true, forall_const, if_true, if_false, cond_true, cond_false, forall_eq, List.replicate, ↓reduceIte, Nat.reduceEqDiff, Nat.reduceLT, Nat.reduceAdd, Nat.reduceSub, Nat.reduceMul, Nat.reduceLeDiff]
    rintro V ol new ⟨rfl, rfl, rfl⟩
    simp only [SE, TF, KD, GE, eq_self, ne_eq, implies_true, forall_const, if_true, if_false, cond_true, cond_false, forall_eq, List.replicate, ↓reduceIte, Nat.reduceEqDiff, Nat.reduceLT, Nat.reduceAdd, Nat.reduceSub, Nat.reduceMul, Nat.reduceLeDiff]
    refine eloop (fun _ => []) mixed ps.length (fun i => True) (fun i => ([(6, .ar 90 (lenTo ps i)), (25, .d (eParts ps)), (26, .d (eI ps.length)), (27, .d (eI i))], [(90, .arr 65 4 .flat (rPatches (ps.take i).flatten))])) ?_ ?_ ?_ (fun i hi hI => ?_)
    · trivial
    · simp [SE, TF, KD, GE, eq_self, ne_eq, implies_true, forall_const, if_true, if_false, cond_true, cond_false, forall_eq, List.replicate, ↓reduceIte, Nat.reduceEqDiff, Nat.reduceLT, Nat.reduceAdd, Nat.reduceSub, Nat.reduceMul, Nat.reduceLeDiff, eParts, eCh, lenTo]
    · simp [SE, TF, KD, GE, eq_self, ne_eq, implies_true, forall_const, if_true, if_false, cond_true, cond_false, forall_eq, List.replicate, ↓reduceIte, Nat.reduceEqDiff, Nat.reduceLT, Nat.reduceAdd, Nat.reduceSub, Nat.reduceMul, Nat.reduceLeDiff, rPatches]
    rcases Nat.lt_or_ge i ps.length with h | h
    · have hw := wrap_succ (show i < 9223372036854775807 by omega)
      have h1 := lenTo_succ ps i h
      have h2 := lenTo_le ps (i + 1)
      have h3 : (rPatches (ps.take i).flatten).length = lenTo ps i := by rw [rPatches, List.length_map, lenTo_flat]
      have h4 : rPatches (ps.take i).flatten ++ ps[i].map ePatch = rPatches (ps.take (i + 1)).flatten := by
        rw [List.take_succ_eq_append_getElem h, List.flatten_append, rPatches, rPatches, List.map_append]; simp only [List.flatten_cons, List.flatten_nil, List.append_nil]
      simp only [SE, TF, KD, GE, eq_self, ne_eq, implies_true, forall_const, if_true, if_false, cond_true, cond_false, forall_eq, List.replicate, ↓reduceIte, Nat.reduceEqDiff, Nat.reduceLT, Nat.reduceAdd, Nat.reduceSub, Nat.reduceMul, Nat.reduceLeDiff, eParts, eCh, dec_lt h, getD_map h, lt_int h, hw, h3, h4]
      rw [h1] at *
      exact ⟨⟨rowsOk_patches _, ⟨by omega, by omega⟩⟩, h, rfl⟩
    · have : i = ps.length := by omega
      subst this
      have h3 : (rPatches (ps.take ps.length).flatten).length = lenTo ps ps.length := by rw [rPatches, List.length_map, lenTo_flat]
      simp only [SE, TF, KD, GE, eq_self, ne_eq, implies_true, forall_const, if_true, if_false, cond_true, cond_false, forall_eq, List.replicate, ↓reduceIte, Nat.reduceEqDiff, Nat.reduceLT, Nat.reduceAdd, Nat.reduceSub, Nat.reduceMul, Nat.reduceLeDiff, eParts, eCh, dec_ge h, h3]
      rw [List.take_length]; rfl
end Go.Proofs.Ytcamhcnjomddbaa

/-
  CONTRACTS: digests of package delta.
-/
namespace Go.Proofs.Ytcamhcnjomddbaa
open Go.Aw
set_option maxRecDepth 100000
set_option maxHeartbeats 1000000
def eUs (ws : List Int) : List (List D) := ws.map fun w => [eUI w]
theorem add_c (s : Int) (ws : List Int) (hn : ws.length ≤ 9223372036854775807) : FnL Try.prog 72 [.bp 0 0, .ar 1 ws.length] [(0, .box [.d (eUI s)]), (1, .arr 63 1 .flat (eUs ws))] (fun V ol new => V = .tup [] ∧ ol = [(0, .box [.d (eUI (ws.foldl stepI s))])] ∧ new = []) := by
  refine FnL.of_eC (own := []) (fun _ => []) [0] mixed Try.func72 rfl Try.call72 Try.ntmps72 (Nat.le_of_ble_eq_true rfl) Try.results72 ?_
  simp only [SE, TF, KD, GE, eq_self, ne_eq, implies_true, forall_const, if_true, if_false, cond_true, cond_false, forall_eq, List.replicate, ↓reduceIte, Nat.reduceEqDiff, Nat.reduceLT, Nat.reduceAdd, Nat.reduceSub, Nat.reduceMul, Nat.reduceLeDiff, eUs]
  refine eloop (fun _ => []) mixed ws.length (fun i => True) (fun i => ([(0, .bp 0 0), (7, .ar 1 ws.length), (8, .d (eI ws.length)), (9, .d (eI i))], [(0, .box [.d (eUI ((ws.take i).foldl stepI s))]), (1, .arr 63 1 .flat (eUs ws))])) ?_ ?_ ?_ (fun i hi hI => ?_)
  · trivial
  · simp [SE, TF, KD, GE, eq_self, ne_eq, implies_true, forall_const, if_true, if_false, cond_true, cond_false, forall_eq, List.replicate, ↓reduceIte, Nat.reduceEqDiff, Nat.reduceLT, Nat.reduceAdd, Nat.reduceSub, Nat.reduceMul, Nat.reduceLeDiff]
  · simp only [SE, TF, KD, GE, eq_self, ne_eq, implies_true, forall_const, if_true, if_false, cond_true, cond_false, forall_eq, List.replicate, ↓reduceIte, Nat.reduceEqDiff, Nat.reduceLT, Nat.reduceAdd, Nat.reduceSub, Nat.reduceMul, Nat.reduceLeDiff, eUs, List.take_zero, List.foldl_nil]
  rcases Nat.lt_or_ge i ws.length with h | h
  · have hw := wrap_succ (show i < 9223372036854775807 by omega)
    simp only [SE, TF, KD, GE, eq_self, ne_eq, implies_true, forall_const, if_true, if_false, cond_true, cond_false, forall_eq, List.replicate, ↓reduceIte, Nat.reduceEqDiff, Nat.reduceLT, Nat.reduceAdd, Nat.reduceSub, Nat.reduceMul, Nat.reduceLeDiff, eUs, dec_lt h, getD_map h, lt_int h, hw, Int.reduceLE]
    refine ⟨h, h, ?_⟩
    simp only [List.take_succ_eq_append_getElem h, List.foldl_append, List.foldl_cons, List.foldl_nil, stepI, stepA, xorU]
  · simp only [SE, TF, KD, GE, eq_self, ne_eq, implies_true, forall_const, if_true, if_false, cond_true, cond_false, forall_eq, List.replicate, ↓reduceIte, Nat.reduceEqDiff, Nat.reduceLT, Nat.reduceAdd, Nat.reduceSub, Nat.reduceMul, Nat.reduceLeDiff, eUs, dec_ge h]
    refine ⟨[1], [], ?_⟩
    simp only [SE, TF, KD, GE, eq_self, ne_eq, implies_true, forall_const, if_true, if_false, cond_true, cond_false, forall_eq, List.replicate, ↓reduceIte, Nat.reduceEqDiff, Nat.reduceLT, Nat.reduceAdd, Nat.reduceSub, Nat.reduceMul, Nat.reduceLeDiff, List.take_of_length_le h]

theorem words_c (l : List Int) : FnP Try.prog 58 [eInts l] (.d (eUI (wordsI l))) [] := by
  refine FnP.of_eC (own := []) (fun _ => []) mixed Try.func58 rfl Try.call58 Try.ntmps58 (Nat.le_of_ble_eq_true rfl) Try.results58 (fun hok => ?_)
  obtain ⟨hl, _⟩ := ok_map (okL_cons hok).1
  simp only [SE, TF, KD, GE, eq_self, ne_eq, implies_true, forall_const, if_true, if_false, cond_true, cond_false, forall_eq, List.replicate, ↓reduceIte, Nat.reduceEqDiff, Nat.reduceLT, Nat.reduceAdd, Nat.reduceSub, Nat.reduceMul, Nat.reduceLeDiff]
  refine eloop (fun _ => []) mixed l.length (fun i => True) (fun i => ([(0, .d (eInts l)), (3, .bp 3 0), (4, .clo (.func 72) [.bp 3 0] []), (8, .d (eInts l)), (9, .d (eI l.length)), (10, .d (eI i))], [(3, .box [.d (eUI ((l.take i).foldl (fun h x => stepI h (IntKind.u64.wrap x)) 512970876019))])])) ?_ ?_ ?_ (fun i hi hI => ?_)
  · trivial
  · simp [SE, TF, KD, GE, eq_self, ne_eq, implies_true, forall_const, if_true, if_false, cond_true, cond_false, forall_eq, List.replicate, ↓reduceIte, Nat.reduceEqDiff, Nat.reduceLT, Nat.reduceAdd, Nat.reduceSub, Nat.reduceMul, Nat.reduceLeDiff]
  · simp [SE, TF, KD, GE, eq_self, ne_eq, implies_true, forall_const, if_true, if_false, cond_true, cond_false, forall_eq, List.replicate, ↓reduceIte, Nat.reduceEqDiff, Nat.reduceLT, Nat.reduceAdd, Nat.reduceSub, Nat.reduceMul, Nat.reduceLeDiff]
  have call : ∀ (s w : Int) (N : NP) (u : Nat) (dst : Option Nat) (K : EK) (t : TL) (o : OL), om o 3 = some (.box [.d (eUI s)]) → om o u = some (.arr 63 1 .flat [[eUI w]]) → u ≠ 3 → dstOk N dst → K (consO dst (.tup []) t) ((3, .box [.d (eUI (stepI s w))]) :: dropO [3, u] o) → EFn Try.prog N 72 [.bp 3 0, .ar u 1] dst K t o := by
    intro s w N u dst K t o h1 h2 h3 h4 h5
    refine EFn.g ⟨[(0, 3), (1, u)], [.bp 0 0, .ar 1 1], _, _, add_c s [w] (by simp), ?_, ?_, ?_, ?_, h4, ?_⟩
    · simp only [SE, TF, KD, GE, eq_self, ne_eq, implies_true, forall_const, if_true, if_false, cond_true, cond_false, forall_eq, List.replicate, ↓reduceIte, Nat.reduceEqDiff, Nat.reduceLT, Nat.reduceAdd, Nat.reduceSub, Nat.reduceMul, Nat.reduceLeDiff]
    · simp [RenOk, Ne.symm h3]
    · simp only [SE, TF, KD, GE, eq_self, ne_eq, implies_true, forall_const, if_true, if_false, cond_true, cond_false, forall_eq, List.replicate, ↓reduceIte, Nat.reduceEqDiff, Nat.reduceLT, Nat.reduceAdd, Nat.reduceSub, Nat.reduceMul, Nat.reduceLeDiff, eUs, h1, h2]
    · simp only [SE, TF, KD, GE, eq_self, ne_eq, implies_true, forall_const, if_true, if_false, cond_true, cond_false, forall_eq, List.replicate, ↓reduceIte, Nat.reduceEqDiff, Nat.reduceLT, Nat.reduceAdd, Nat.reduceSub, Nat.reduceMul, Nat.reduceLeDiff, eUs]
    · rintro V ol new ⟨rfl, rfl, rfl⟩
      simp only [SE, TF, KD, GE, eq_self, ne_eq, implies_true, forall_const, if_true, if_false, cond_true, cond_false, forall_eq, List.replicate, ↓reduceIte, Nat.reduceEqDiff, Nat.reduceLT, Nat.reduceAdd, Nat.reduceSub, Nat.reduceMul, Nat.reduceLeDiff]
      simpa [SE, TF, KD, GE, eq_self, ne_eq, implies_true, forall_const, if_true, if_false, cond_true, cond_false, forall_eq, List.replicate, ↓reduceIte, Nat.reduceEqDiff, Nat.reduceLT, Nat.reduceAdd, Nat.reduceSub, Nat.reduceMul, Nat.reduceLeDiff] using h5
  rcases Nat.lt_or_ge i l.length with h | h
  · have hw := wrap_succ (show i < 9223372036854775807 by omega)
    simp only [SE, TF, KD, GE, eq_self, ne_eq, implies_true, forall_const, if_true, if_false, cond_true, cond_false, forall_eq, List.replicate, ↓reduceIte, Nat.reduceEqDiff, Nat.reduceLT, Nat.reduceAdd, Nat.reduceSub, Nat.reduceMul, Nat.reduceLeDiff, dec_lt h, getD_map h, lt_int h, hw]
    refine call ((l.take i).foldl (fun h x => stepI h (IntKind.u64.wrap x)) 512970876019) (IntKind.u64.wrap l[i]) _ 17 _ _ _ _ ?_ ?_ (by decide) ?_ ?_
    · simp only [SE, TF, KD, GE, eq_self, ne_eq, implies_true, forall_const, if_true, if_false, cond_true, cond_false, forall_eq, List.replicate, ↓reduceIte, Nat.reduceEqDiff, Nat.reduceLT, Nat.reduceAdd, Nat.reduceSub, Nat.reduceMul, Nat.reduceLeDiff]
    · simp only [SE, TF, KD, GE, eq_self, ne_eq, implies_true, forall_const, if_true, if_false, cond_true, cond_false, forall_eq, List.replicate, ↓reduceIte, Nat.reduceEqDiff, Nat.reduceLT, Nat.reduceAdd, Nat.reduceSub, Nat.reduceMul, Nat.reduceLeDiff]
    · simp only [SE, TF, KD, GE, eq_self, ne_eq, implies_true, forall_const, if_true, if_false, cond_true, cond_false, forall_eq, List.replicate, ↓reduceIte, Nat.reduceEqDiff, Nat.reduceLT, Nat.reduceAdd, Nat.reduceSub, Nat.reduceMul, Nat.reduceLeDiff]
    · simp only [SE, TF, KD, GE, eq_self, ne_eq, implies_true, forall_const, if_true, if_false, cond_true, cond_false, forall_eq, List.replicate, ↓reduceIte, Nat.reduceEqDiff, Nat.reduceLT, Nat.reduceAdd, Nat.reduceSub, Nat.reduceMul, Nat.reduceLeDiff, hw]
      refine ⟨h, ?_⟩
      simp only [List.take_succ_eq_append_getElem h, List.foldl_append, List.foldl_cons, List.foldl_nil]
  · simp only [SE, TF, KD, GE, eq_self, ne_eq, implies_true, forall_const, if_true, if_false, cond_true, cond_false, forall_eq, List.replicate, ↓reduceIte, Nat.reduceEqDiff, Nat.reduceLT, Nat.reduceAdd, Nat.reduceSub, Nat.reduceMul, Nat.reduceLeDiff, dec_ge h]
    refine call ((l.take i).foldl (fun h x => stepI h (IntKind.u64.wrap x)) 512970876019) (IntKind.u64.wrap l.length) _ 24 _ _ _ _ ?_ ?_ (by decide) ?_ ?_
    · simp only [SE, TF, KD, GE, eq_self, ne_eq, implies_true, forall_const, if_true, if_false, cond_true, cond_false, forall_eq, List.replicate, ↓reduceIte, Nat.reduceEqDiff, Nat.reduceLT, Nat.reduceAdd, Nat.reduceSub, Nat.reduceMul, Nat.reduceLeDiff]
    · simp only [SE, TF, KD, GE, eq_self, ne_eq, implies_true, forall_const, if_true, if_false, cond_true, cond_false, forall_eq, List.replicate, ↓reduceIte, Nat.reduceEqDiff, Nat.reduceLT, Nat.reduceAdd, Nat.reduceSub, Nat.reduceMul, Nat.reduceLeDiff]
    · simp only [SE, TF, KD, GE, eq_self, ne_eq, implies_true, forall_const, if_true, if_false, cond_true, cond_false, forall_eq, List.replicate, ↓reduceIte, Nat.reduceEqDiff, Nat.reduceLT, Nat.reduceAdd, Nat.reduceSub, Nat.reduceMul, Nat.reduceLeDiff]
    · simp only [SE, TF, KD, GE, eq_self, ne_eq, implies_true, forall_const, if_true, if_false, cond_true, cond_false, forall_eq, List.replicate, ↓reduceIte, Nat.reduceEqDiff, Nat.reduceLT, Nat.reduceAdd, Nat.reduceSub, Nat.reduceMul, Nat.reduceLeDiff, List.take_of_length_le h, wordsI]

theorem digestOf_c (ws : List Nat) (hb : ws.length ≤ 2000000) : FnP Try.prog 44 [.agg (eFrame ws)] (.d (eUI (digI ws))) [] := by
  refine FnP.of_eC (own := []) (fun id => if id = 1 then [.adT 3 90 3 1] else []) mixed Try.func44 rfl Try.call44 Try.ntmps44 (Nat.le_of_ble_eq_true rfl) Try.results44 (fun hok => ?_)
  simp only [SE, TF, KD, GE, eq_self, ne_eq, implies_true, forall_const, if_true, if_false, cond_true, cond_false, forall_eq, List.replicate, ↓reduceIte, Nat.reduceEqDiff, Nat.reduceLT, Nat.reduceAdd, Nat.reduceSub, Nat.reduceMul, Nat.reduceLeDiff]
  refine eloop (fun _ => []) mixed ws.length (fun i => True) (fun i => ([(3, .ar 90 i), (7, .d (eWords ws)), (8, .d (eI ws.length)), (9, .d (eI i))], [(90, .arr 3 1 .flat ((ws.take i).map fun w => [eI (toI w)]))])) ?_ ?_ ?_ (fun i hi hI => ?_)
  · trivial
  · simp [SE, TF, KD, GE, eq_self, ne_eq, implies_true, forall_const, if_true, if_false, cond_true, cond_false, forall_eq, List.replicate, ↓reduceIte, Nat.reduceEqDiff, Nat.reduceLT, Nat.reduceAdd, Nat.reduceSub, Nat.reduceMul, Nat.reduceLeDiff]
  · simp [SE, TF, KD, GE, eq_self, ne_eq, implies_true, forall_const, if_true, if_false, cond_true, cond_false, forall_eq, List.replicate, ↓reduceIte, Nat.reduceEqDiff, Nat.reduceLT, Nat.reduceAdd, Nat.reduceSub, Nat.reduceMul, Nat.reduceLeDiff]
  rcases Nat.lt_or_ge i ws.length with h | h
  · have hw := wrap_succ (show i < 9223372036854775807 by omega)
    have hlen := take_len ws i (by omega)
    simp only [SE, TF, KD, GE, eq_self, ne_eq, implies_true, forall_const, if_true, if_false, cond_true, cond_false, forall_eq, List.replicate, ↓reduceIte, Nat.reduceEqDiff, Nat.reduceLT, Nat.reduceAdd, Nat.reduceSub, Nat.reduceMul, Nat.reduceLeDiff, dec_lt h, getD_map h, lt_int h, hlen, hw]
    refine ⟨by omega, h, ?_⟩
    exact congrArg _ ((take_map_snoc (fun w => [D.lit (.int .i64 (toI w))]) ws i h))
  · simp only [SE, TF, KD, GE, eq_self, ne_eq, implies_true, forall_const, if_true, if_false, cond_true, cond_false, forall_eq, List.replicate, ↓reduceIte, Nat.reduceEqDiff, Nat.reduceLT, Nat.reduceAdd, Nat.reduceSub, Nat.reduceMul, Nat.reduceLeDiff, dec_ge h, take_len ws i hi]
    refine EFn.p ?_
    simp only [SE, TF, KD, GE, eq_self, ne_eq, implies_true, forall_const, if_true, if_false, cond_true, cond_false, forall_eq, List.replicate, ↓reduceIte, Nat.reduceEqDiff, Nat.reduceLT, Nat.reduceAdd, Nat.reduceSub, Nat.reduceMul, Nat.reduceLeDiff, ECall, dec_ge h, take_len ws i hi]
    rw [List.take_of_length_le h]
    refine ⟨_, by have := words_c (ws.map toI); simp only [eInts, List.map_map] at this; exact this, ?_⟩
    simp only [SE, TF, KD, GE, eq_self, ne_eq, implies_true, forall_const, if_true, if_false, cond_true, cond_false, forall_eq, List.replicate, ↓reduceIte, Nat.reduceEqDiff, Nat.reduceLT, Nat.reduceAdd, Nat.reduceSub, Nat.reduceMul, Nat.reduceLeDiff, digI]
end Go.Proofs.Ytcamhcnjomddbaa

/-
  CONTRACTS: digests of package delta; stale frames.
-/
namespace Go.Proofs.Ytcamhcnjomddbaa
open Go.Aw
set_option maxRecDepth 100000
set_option maxHeartbeats 1000000
theorem digests_c (A : Frames) (hs : small A) : FnP Try.prog 26 [eSet A] (.d (eDig (digests A))) [] := by
  refine FnP.of_eC (own := []) (fun id => if id = 1 then [.adT 3 90 23 1] else if id = 5 then [.keep [3, 5, 6, 9, 10, 11], .adT 6 91 63 1] else []) mixed Try.func26 rfl Try.call26 Try.ntmps26 (Nat.le_of_ble_eq_true rfl) Try.results26 (fun hok => ?_)
  obtain ⟨hs1, hs2⟩ := hs
  simp only [SE, TF, KD, GE, eq_self, ne_eq, implies_true, forall_const, if_true, if_false, cond_true, cond_false, forall_eq, List.replicate, ↓reduceIte, Nat.reduceEqDiff, Nat.reduceLT, Nat.reduceAdd, Nat.reduceSub, Nat.reduceMul, Nat.reduceLeDiff]
  refine eloop (fun id => if id = 5 then [.keep [3, 5, 6, 9, 10, 11], .adT 6 91 63 1] else []) mixed A.length (fun i => True) (fun i => ([(3, .ar 90 i), (9, .d (eSet A)), (10, .d (eI A.length)), (11, .d (eI i))], [(90, .arr 23 1 .flat ((A.take i).map fun r => [.sl ((r.map digI).map fun x => [eUI x])]))])) ?_ ?_ ?_ (fun i hi hI => ?_)
  · trivial
  · simp [SE, TF, KD, GE, eq_self, ne_eq, implies_true, forall_const, if_true, if_false, cond_true, cond_false, forall_eq, List.replicate, ↓reduceIte, Nat.reduceEqDiff, Nat.reduceLT, Nat.reduceAdd, Nat.reduceSub, Nat.reduceMul, Nat.reduceLeDiff]
  · simp [SE, TF, KD, GE, eq_self, ne_eq, implies_true, forall_const, if_true, if_false, cond_true, cond_false, forall_eq, List.replicate, ↓reduceIte, Nat.reduceEqDiff, Nat.reduceLT, Nat.reduceAdd, Nat.reduceSub, Nat.reduceMul, Nat.reduceLeDiff]
  have hlen := take_len A i (by omega)
  rcases Nat.lt_or_ge i A.length with h | h
  · have hw := wrap_succ (show i < 9223372036854775807 by omega)
    obtain ⟨h2, h3⟩ := hs2 A[i] (by simp)
    simp only [SE, TF, KD, GE, eq_self, ne_eq, implies_true, forall_const, if_true, if_false, cond_true, cond_false, forall_eq, List.replicate, ↓reduceIte, Nat.reduceEqDiff, Nat.reduceLT, Nat.reduceAdd, Nat.reduceSub, Nat.reduceMul, Nat.reduceLeDiff, dec_lt h, getD_map h, lt_int h]
    refine eloop (fun _ => []) mixed A[i].length (fun j => True) (fun j => ([(3, .ar 90 i), (6, .ar 91 j), (9, .d (eSet A)), (10, .d (eI A.length)), (11, .d (eI i)), (15, .d (.sl (A[i].map eFrame))), (16, .d (eI A[i].length)), (17, .d (eI j))],
      [(90, .arr 23 1 .flat ((A.take i).map fun r => [.sl ((r.map digI).map fun x => [eUI x])])), (91, .arr 63 1 .flat (((A[i].take j).map fun ws => [eUI (digI ws)])))])) ?_ ?_ ?_ (fun j hj hJ => ?_)
    · trivial
    · simp [SE, TF, KD, GE, eq_self, ne_eq, implies_true, forall_const, if_true, if_false, cond_true, cond_false, forall_eq, List.replicate, ↓reduceIte, Nat.reduceEqDiff, Nat.reduceLT, Nat.reduceAdd, Nat.reduceSub, Nat.reduceMul, Nat.reduceLeDiff]
    · simp [SE, TF, KD, GE, eq_self, ne_eq, implies_true, forall_const, if_true, if_false, cond_true, cond_false, forall_eq, List.replicate, ↓reduceIte, Nat.reduceEqDiff, Nat.reduceLT, Nat.reduceAdd, Nat.reduceSub, Nat.reduceMul, Nat.reduceLeDiff]
    have hlen' := take_len A[i] j (by omega)
    rcases Nat.lt_or_ge j A[i].length with h' | h'
    · have hw' := wrap_succ (show j < 9223372036854775807 by omega)
      simp only [SE, TF, KD, GE, eq_self, ne_eq, implies_true, forall_const, if_true, if_false, cond_true, cond_false, forall_eq, List.replicate, ↓reduceIte, Nat.reduceEqDiff, Nat.reduceLT, Nat.reduceAdd, Nat.reduceSub, Nat.reduceMul, Nat.reduceLeDiff, getD_map h, lt_int h, dec_lt h', getD_map h', lt_int h']
      refine EFn.p ?_
      simp only [SE, TF, KD, GE, eq_self, ne_eq, implies_true, forall_const, if_true, if_false, cond_true, cond_false, forall_eq, List.replicate, ↓reduceIte, Nat.reduceEqDiff, Nat.reduceLT, Nat.reduceAdd, Nat.reduceSub, Nat.reduceMul, Nat.reduceLeDiff, ECall, getD_map h, lt_int h, dec_lt h', getD_map h', lt_int h']
      refine ⟨_, digestOf_c _ (h3 _ (by simp)), ?_⟩
      simp only [SE, TF, KD, GE, eq_self, ne_eq, implies_true, forall_const, if_true, if_false, cond_true, cond_false, forall_eq, List.replicate, ↓reduceIte, Nat.reduceEqDiff, Nat.reduceLT, Nat.reduceAdd, Nat.reduceSub, Nat.reduceMul, Nat.reduceLeDiff, hlen', hw', getD_map h, getD_map h']
      refine ⟨⟨by omega, by omega⟩, h', ?_⟩
      exact congrArg _ ((take_map_snoc (fun ws => [D.lit (.int .u64 (digI ws))]) A[i] j h'))
    · simp only [SE, TF, KD, GE, eq_self, ne_eq, implies_true, forall_const, if_true, if_false, cond_true, cond_false, forall_eq, List.replicate, ↓reduceIte, Nat.reduceEqDiff, Nat.reduceLT, Nat.reduceAdd, Nat.reduceSub, Nat.reduceMul, Nat.reduceLeDiff, getD_map h, lt_int h, dec_ge h', hlen, hlen', hw]
      rw [List.take_of_length_le h']
      refine ⟨⟨by omega, by omega⟩, h, ?_⟩
      have := take_map_snoc (fun r : List (List Nat) => [D.sl ((r.map digI).map fun x => [D.lit (.int .u64 x)])]) A i h
      simp only [List.map_map] at this ⊢
      exact congrArg _ this
  · simp only [SE, TF, KD, GE, eq_self, ne_eq, implies_true, forall_const, if_true, if_false, cond_true, cond_false, forall_eq, List.replicate, ↓reduceIte, Nat.reduceEqDiff, Nat.reduceLT, Nat.reduceAdd, Nat.reduceSub, Nat.reduceMul, Nat.reduceLeDiff, dec_ge h, hlen]
    rw [List.take_of_length_le h]
    simp [digests, Function.comp_def]

/-! ### Stale frames -/
def staleAt (R : List (List Int)) (A : Frames) (i j : Nat) : Bool :=
  !decide (i < R.length ∧ j < (R.getD i []).length ∧ (R.getD i []).getD j 0 = digI ((A.getD i []).getD j []))
def staleRow (R : List (List Int)) (A : Frames) (i j : Nat) : List (Int × Int) := ((List.range j).filter (staleAt R A i)).map fun k : Nat => ((i : Int), (k : Int))
def staleTo (R : List (List Int)) (A : Frames) : Nat → List (Int × Int)
  | 0 => []
  | i + 1 => staleTo R A i ++ staleRow R A i (A.getD i []).length
def stale (R : List (List Int)) (A : Frames) : List (Int × Int) := staleTo R A A.length
theorem staleRow_le (R : List (List Int)) (A : Frames) (i j : Nat) : (staleRow R A i j).length ≤ j := by
  simp only [staleRow, List.length_map]
  have := List.length_filter_le (staleAt R A i) (List.range j)
  simpa using this
theorem staleTo_le (R : List (List Int)) (A : Frames) (hs : small A) : ∀ i, (staleTo R A i).length ≤ i * 2000000
  | 0 => by simp [staleTo]
  | i + 1 => by
    have h1 := staleTo_le R A hs i
    have h2 := staleRow_le R A i (A.getD i []).length
    have h3 : (A.getD i []).length ≤ 2000000 := by
      rcases Nat.lt_or_ge i A.length with h | h
      · simp only [List.getD, h, List.getElem?_eq_getElem, Option.getD_some]; exact (hs.2 _ (by simp)).1
      · simp [List.getD, List.getElem?_eq_none h]
    simp only [staleTo, List.length_append]
    omega
theorem staleRow_succ (R : List (List Int)) (A : Frames) (i j : Nat) : staleRow R A i (j + 1) = if staleAt R A i j then staleRow R A i j ++ [((i : Int), (j : Int))] else staleRow R A i j := by
  simp only [staleRow, List.range_succ, List.filter_append, List.filter_cons, List.filter_nil, List.map_append]
  split <;> simp
theorem getD_get {α : Type} {l : List α} {i : Nat} (h : i < l.length) (d : α) : l.getD i d = l[i] := by simp [List.getD, h]
theorem ge_t {i n : Nat} (h : n ≤ i) : ((i : Int) ≥ (n : Int)) = True := by simp; omega
theorem ge_f {i n : Nat} (h : i < n) : ((i : Int) ≥ (n : Int)) = False := by simp; omega
theorem staleAt_in {R : List (List Int)} {A : Frames} {i j : Nat} (hR : i < R.length) (hR' : j < R[i].length) (h : i < A.length) (h' : j < A[i].length) : staleAt R A i j = !decide (R[i][j] = digI A[i][j]) := by
  simp only [staleAt, getD_get hR, getD_get h, getD_get hR', getD_get h', hR, hR', true_and]
theorem staleAt_row {R : List (List Int)} {A : Frames} {i j : Nat} (hR : i < R.length) (hR' : R[i].length ≤ j) : staleAt R A i j = true := by
  simp only [staleAt, getD_get hR, hR, true_and, Nat.not_lt.2 hR', false_and, decide_false, Bool.not_false]
theorem staleAt_out {R : List (List Int)} {A : Frames} {i j : Nat} (hR : R.length ≤ i) : staleAt R A i j = true := by
  simp only [staleAt, Nat.not_lt.2 hR, false_and, decide_false, Bool.not_false]
def rPairs (l : List (Int × Int)) : List (List D) := l.map ePair
theorem rPairs_len (l : List (Int × Int)) : (rPairs l).length = l.length := by simp [rPairs]
theorem rPairs_ar (l m : List (Int × Int)) (x : Int × Int) : AV.ar 8 ((rPairs (l ++ m)).length + 1) = AV.ar 8 (l ++ (m ++ [x])).length := by
  simp [rPairs, Nat.add_assoc]
theorem rPairs_snoc (l m : List (Int × Int)) (i j : Int) : rPairs (l ++ m) ++ [[D.lit (.int .i64 i), D.lit (.int .i64 j)]] = rPairs (l ++ (m ++ [(i, j)])) := by simp [rPairs, ePair, eI]

theorem rstale_c (R : List (List Int)) (A : Frames) (hs : small A) : FnP Try.prog 30 [eDig R, eSet A] (.d (ePairs (stale R A))) [] := by
  refine FnP.of_eC (own := []) (fun _ => []) mixed Try.func30 rfl Try.call30 Try.ntmps30 (Nat.le_of_ble_eq_true rfl) Try.results30 (fun hok => ?_)
  have hs' := hs
  obtain ⟨hs1, hs2⟩ := hs
  simp only [SE, TF, KD, GE, eq_self, ne_eq, implies_true, forall_const, if_true, if_false, cond_true, cond_false, forall_eq, List.replicate, ↓reduceIte, Nat.reduceEqDiff, Nat.reduceLT, Nat.reduceAdd, Nat.reduceSub, Nat.reduceMul, Nat.reduceLeDiff]
  refine eloop (fun _ => []) mixed A.length (fun i => True) (fun i => ([(0, .d (eDig R)), (1, .d (eSet A)), (5, .ar 8 (staleTo R A i).length), (6, .d (eI i))], [(8, .arr 70 2 .flat (rPairs (staleTo R A i)))])) ?_ ?_ ?_ (fun i hi hI => ?_)
  · trivial
  · simp [SE, TF, KD, GE, eq_self, ne_eq, implies_true, forall_const, if_true, if_false, cond_true, cond_false, forall_eq, List.replicate, ↓reduceIte, Nat.reduceEqDiff, Nat.reduceLT, Nat.reduceAdd, Nat.reduceSub, Nat.reduceMul, Nat.reduceLeDiff, staleTo]
  · simp [SE, TF, KD, GE, eq_self, ne_eq, implies_true, forall_const, if_true, if_false, cond_true, cond_false, forall_eq, List.replicate, ↓reduceIte, Nat.reduceEqDiff, Nat.reduceLT, Nat.reduceAdd, Nat.reduceSub, Nat.reduceMul, Nat.reduceLeDiff, staleTo, rPairs]
  rcases Nat.lt_or_ge i A.length with h | h
  · have hw := wrap_succ (show i < 9223372036854775807 by omega)
    obtain ⟨h2, h3⟩ := hs2 A[i] (by simp)
    have hA : A.getD i [] = A[i] := getD_get h _
    simp only [SE, TF, KD, GE, eq_self, ne_eq, implies_true, forall_const, if_true, if_false, cond_true, cond_false, forall_eq, List.replicate, ↓reduceIte, Nat.reduceEqDiff, Nat.reduceLT, Nat.reduceAdd, Nat.reduceSub, Nat.reduceMul, Nat.reduceLeDiff, dec_lt h]
    refine eloop (fun _ => []) mixed A[i].length (fun j => True) (fun j => ([(0, .d (eDig R)), (1, .d (eSet A)), (5, .ar 8 (staleTo R A i ++ staleRow R A i j).length), (6, .d (eI i)), (7, .d (eI j))], [(8, .arr 70 2 .flat (rPairs (staleTo R A i ++ staleRow R A i j)))])) ?_ ?_ ?_ (fun j hj hJ => ?_)
    · trivial
    · simp [SE, TF, KD, GE, eq_self, ne_eq, implies_true, forall_const, if_true, if_false, cond_true, cond_false, forall_eq, List.replicate, ↓reduceIte, Nat.reduceEqDiff, Nat.reduceLT, Nat.reduceAdd, Nat.reduceSub, Nat.reduceMul, Nat.reduceLeDiff, staleRow]
    · simp [SE, TF, KD, GE, eq_self, ne_eq, implies_true, forall_const, if_true, if_false, cond_true, cond_false, forall_eq, List.replicate, ↓reduceIte, Nat.reduceEqDiff, Nat.reduceLT, Nat.reduceAdd, Nat.reduceSub, Nat.reduceMul, Nat.reduceLeDiff, staleRow, rPairs]
    have hl := staleTo_le R A hs' i
    have hl' := staleRow_le R A i j
    rcases Nat.lt_or_ge j A[i].length with h' | h'
    · have hw' := wrap_succ (show j < 9223372036854775807 by omega)
      have hsuc := staleRow_succ R A i j
      have fin : ∀ K : Prop, K → (((((rPairs (staleTo R A i ++ staleRow R A i j)).length + 1) * 16 ≤ 140737488355328 ∧ (rPairs (staleTo R A i ++ staleRow R A i j)).length ≤ 140737488355327) ∧ (staleTo R A i ++ staleRow R A i j).length = (rPairs (staleTo R A i ++ staleRow R A i j)).length) ∧ K) := fun K k => by
        refine ⟨?_, k⟩
        rw [rPairs_len, List.length_append]
        omega
      rcases Nat.lt_or_ge i R.length with hR | hR
      · rcases Nat.lt_or_ge j R[i].length with hR' | hR'
        · have hst := staleAt_in (A := A) hR hR' h h'
          simp only [SE, TF, KD, GE, eq_self, ne_eq, implies_true, forall_const, if_true, if_false, cond_true, cond_false, forall_eq, List.replicate, ↓reduceIte, Nat.reduceEqDiff, Nat.reduceLT, Nat.reduceAdd, Nat.reduceSub, Nat.reduceMul, Nat.reduceLeDiff, ECall', dec_lt h, dec_lt h', getD_map h, getD_map h', lt_int h, lt_int h', ge_f hR, ge_f hR', getD_map hR, getD_map hR', lt_int hR, lt_int hR', Bool.false_eq_true]
          refine ⟨by kernel_rfl, _, rdig_c _ (h3 _ (by simp)), ?_⟩
          by_cases hd : R[i][j] = digI A[i][j]
          · have hb : (R[i][j] != digI A[i][j]) = false := by simp [hd]
            simp only [hd, decide_true, Bool.not_true] at hst
            simp only [SE, TF, KD, GE, eq_self, ne_eq, implies_true, forall_const, if_true, if_false, cond_true, cond_false, forall_eq, List.replicate, ↓reduceIte, Nat.reduceEqDiff, Nat.reduceLT, Nat.reduceAdd, Nat.reduceSub, Nat.reduceMul, Nat.reduceLeDiff, hb, hw', hsuc, hst]
            exact h'
          · have hb : (R[i][j] != digI A[i][j]) = true := by simp [hd]
            simp only [hd, decide_false, Bool.not_false] at hst
            simp only [SE, TF, KD, GE, eq_self, ne_eq, implies_true, forall_const, if_true, if_false, cond_true, cond_false, forall_eq, List.replicate, ↓reduceIte, Nat.reduceEqDiff, Nat.reduceLT, Nat.reduceAdd, Nat.reduceSub, Nat.reduceMul, Nat.reduceLeDiff, hb, hw', hsuc, hst]
            refine fin _ ⟨h', ?_, ?_⟩
            · exact rPairs_ar _ _ _
            · rw [rPairs_snoc]
        · have hst := staleAt_row (A := A) hR hR'
          simp only [SE, TF, KD, GE, eq_self, ne_eq, implies_true, forall_const, if_true, if_false, cond_true, cond_false, forall_eq, List.replicate, ↓reduceIte, Nat.reduceEqDiff, Nat.reduceLT, Nat.reduceAdd, Nat.reduceSub, Nat.reduceMul, Nat.reduceLeDiff, ECall', dec_lt h, dec_lt h', getD_map h, getD_map h', lt_int h, lt_int h', ge_f hR, ge_t hR', getD_map hR, lt_int hR, Bool.false_eq_true, hw', hsuc, hst]
          refine ⟨by kernel_rfl, fin _ ⟨h', ?_, ?_⟩⟩
          · exact rPairs_ar _ _ _
          · rw [rPairs_snoc]
      · have hst := staleAt_out (A := A) (j := j) hR
        simp only [SE, TF, KD, GE, eq_self, ne_eq, implies_true, forall_const, if_true, if_false, cond_true, cond_false, forall_eq, List.replicate, ↓reduceIte, Nat.reduceEqDiff, Nat.reduceLT, Nat.reduceAdd, Nat.reduceSub, Nat.reduceMul, Nat.reduceLeDiff, ECall', dec_lt h, dec_lt h', getD_map h, getD_map h', lt_int h, lt_int h', ge_t hR, Bool.false_eq_true, hw', hsuc, hst]
        refine ⟨by kernel_rfl, fin _ ⟨h', ?_, ?_⟩⟩
        · exact rPairs_ar _ _ _
        · rw [rPairs_snoc]
    · have : j = A[i].length := by omega
      subst this
      simp only [SE, TF, KD, GE, eq_self, ne_eq, implies_true, forall_const, if_true, if_false, cond_true, cond_false, forall_eq, List.replicate, ↓reduceIte, Nat.reduceEqDiff, Nat.reduceLT, Nat.reduceAdd, Nat.reduceSub, Nat.reduceMul, Nat.reduceLeDiff, dec_lt h, getD_map h, lt_int h, dec_ge h', hw, staleTo, hA]
      exact h
  · have : i = A.length := by omega
    subst this
    simp only [SE, TF, KD, GE, eq_self, ne_eq, implies_true, forall_const, if_true, if_false, cond_true, cond_false, forall_eq, List.replicate, ↓reduceIte, Nat.reduceEqDiff, Nat.reduceLT, Nat.reduceAdd, Nat.reduceSub, Nat.reduceMul, Nat.reduceLeDiff, dec_ge h, stale]
    exact ⟨(rPairs_len _).symm, rfl⟩

theorem stale_c (R : List (List Int)) (A : Frames) (hs : small A) : FnP Try.prog 29 [eDig R, eSet A] (.d (ePairs (stale R A))) [] := by
  refine FnP.of_eC (own := []) (fun id => if id = 1 then [.adT 5 8 70 2] else []) mixed Try.func29 rfl Try.call29 Try.ntmps29 (Nat.le_of_ble_eq_true rfl) Try.results29 (fun hok => ?_)
  have hs' := hs
  obtain ⟨hs1, hs2⟩ := hs
  simp only [SE, TF, KD, GE, eq_self, ne_eq, implies_true, forall_const, if_true, if_false, cond_true, cond_false, forall_eq, List.replicate, ↓reduceIte, Nat.reduceEqDiff, Nat.reduceLT, Nat.reduceAdd, Nat.reduceSub, Nat.reduceMul, Nat.reduceLeDiff]
  refine eloop (fun _ => []) mixed A.length (fun i => True) (fun i => ([(0, .d (eDig R)), (10, .d (eSet A)), (11, .d (eI A.length)), (5, .ar 8 (staleTo R A i).length), (12, .d (eI i))], [(8, .arr 70 2 .flat (rPairs (staleTo R A i)))])) ?_ ?_ ?_ (fun i hi hI => ?_)
  · trivial
  · simp [SE, TF, KD, GE, eq_self, ne_eq, implies_true, forall_const, if_true, if_false, cond_true, cond_false, forall_eq, List.replicate, ↓reduceIte, Nat.reduceEqDiff, Nat.reduceLT, Nat.reduceAdd, Nat.reduceSub, Nat.reduceMul, Nat.reduceLeDiff, staleTo]
  · simp [SE, TF, KD, GE, eq_self, ne_eq, implies_true, forall_const, if_true, if_false, cond_true, cond_false, forall_eq, List.replicate, ↓reduceIte, Nat.reduceEqDiff, Nat.reduceLT, Nat.reduceAdd, Nat.reduceSub, Nat.reduceMul, Nat.reduceLeDiff, staleTo, rPairs]
  rcases Nat.lt_or_ge i A.length with h | h
  · have hw := wrap_succ (show i < 9223372036854775807 by omega)
    obtain ⟨h2, h3⟩ := hs2 A[i] (by simp)
    have hA : A.getD i [] = A[i] := getD_get h _
    simp only [SE, TF, KD, GE, eq_self, ne_eq, implies_true, forall_const, if_true, if_false, cond_true, cond_false, forall_eq, List.replicate, ↓reduceIte, Nat.reduceEqDiff, Nat.reduceLT, Nat.reduceAdd, Nat.reduceSub, Nat.reduceMul, Nat.reduceLeDiff, dec_lt h, getD_map h, lt_int h]
    refine eloop (fun _ => []) mixed A[i].length (fun j => True) (fun j => ([(0, .d (eDig R)), (10, .d (eSet A)), (11, .d (eI A.length)), (5, .ar 8 (staleTo R A i ++ staleRow R A i j).length), (12, .d (eI i)), (6, .d (eI i)), (17, .d (.sl (A[i].map eFrame))), (18, .d (eI A[i].length)), (19, .d (eI j))], [(8, .arr 70 2 .flat (rPairs (staleTo R A i ++ staleRow R A i j)))])) ?_ ?_ ?_ (fun j hj hJ => ?_)
    · trivial
    · simp [SE, TF, KD, GE, eq_self, ne_eq, implies_true, forall_const, if_true, if_false, cond_true, cond_false, forall_eq, List.replicate, ↓reduceIte, Nat.reduceEqDiff, Nat.reduceLT, Nat.reduceAdd, Nat.reduceSub, Nat.reduceMul, Nat.reduceLeDiff, staleRow]
    · simp [SE, TF, KD, GE, eq_self, ne_eq, implies_true, forall_const, if_true, if_false, cond_true, cond_false, forall_eq, List.replicate, ↓reduceIte, Nat.reduceEqDiff, Nat.reduceLT, Nat.reduceAdd, Nat.reduceSub, Nat.reduceMul, Nat.reduceLeDiff, staleRow, rPairs]
    have hl := staleTo_le R A hs' i
    have hl' := staleRow_le R A i j
    rcases Nat.lt_or_ge j A[i].length with h' | h'
    · have hw' := wrap_succ (show j < 9223372036854775807 by omega)
      have hsuc := staleRow_succ R A i j
      have fin : ∀ K : Prop, K → (((((rPairs (staleTo R A i ++ staleRow R A i j)).length + 1) * 16 ≤ 140737488355328 ∧ (rPairs (staleTo R A i ++ staleRow R A i j)).length ≤ 140737488355327) ∧ (staleTo R A i ++ staleRow R A i j).length = (rPairs (staleTo R A i ++ staleRow R A i j)).length) ∧ K) := fun K k => by
        refine ⟨?_, k⟩
        rw [rPairs_len, List.length_append]
        omega
      rcases Nat.lt_or_ge i R.length with hR | hR
      · rcases Nat.lt_or_ge j R[i].length with hR' | hR'
        · have hst := staleAt_in (A := A) hR hR' h h'
          simp only [SE, TF, KD, GE, eq_self, ne_eq, implies_true, forall_const, if_true, if_false, cond_true, cond_false, forall_eq, List.replicate, ↓reduceIte, Nat.reduceEqDiff, Nat.reduceLT, Nat.reduceAdd, Nat.reduceSub, Nat.reduceMul, Nat.reduceLeDiff, ECall', dec_lt h, dec_lt h', getD_map h, getD_map h', lt_int h, lt_int h', ge_f hR, ge_f hR', getD_map hR, getD_map hR', lt_int hR, lt_int hR', Bool.false_eq_true]
          refine ⟨by kernel_rfl, _, digestOf_c _ (h3 _ (by simp)), ?_⟩
          by_cases hd : R[i][j] = digI A[i][j]
          · have hb : (R[i][j] != digI A[i][j]) = false := by simp [hd]
            simp only [hd, decide_true, Bool.not_true] at hst
            simp only [SE, TF, KD, GE, eq_self, ne_eq, implies_true, forall_const, if_true, if_false, cond_true, cond_false, forall_eq, List.replicate, ↓reduceIte, Nat.reduceEqDiff, Nat.reduceLT, Nat.reduceAdd, Nat.reduceSub, Nat.reduceMul, Nat.reduceLeDiff, hb, hw', hsuc, hst]
            exact h'
          · have hb : (R[i][j] != digI A[i][j]) = true := by simp [hd]
            simp only [hd, decide_false, Bool.not_false] at hst
            simp only [SE, TF, KD, GE, eq_self, ne_eq, implies_true, forall_const, if_true, if_false, cond_true, cond_false, forall_eq, List.replicate, ↓reduceIte, Nat.reduceEqDiff, Nat.reduceLT, Nat.reduceAdd, Nat.reduceSub, Nat.reduceMul, Nat.reduceLeDiff, hb, hw', hsuc, hst]
            refine fin _ ⟨h', ?_, ?_⟩
            · exact rPairs_ar _ _ _
            · rw [rPairs_snoc]
        · have hst := staleAt_row (A := A) hR hR'
          simp only [SE, TF, KD, GE, eq_self, ne_eq, implies_true, forall_const, if_true, if_false, cond_true, cond_false, forall_eq, List.replicate, ↓reduceIte, Nat.reduceEqDiff, Nat.reduceLT, Nat.reduceAdd, Nat.reduceSub, Nat.reduceMul, Nat.reduceLeDiff, ECall', dec_lt h, dec_lt h', getD_map h, getD_map h', lt_int h, lt_int h', ge_f hR, ge_t hR', getD_map hR, lt_int hR, Bool.false_eq_true, hw', hsuc, hst]
          refine ⟨by kernel_rfl, fin _ ⟨h', ?_, ?_⟩⟩
          · exact rPairs_ar _ _ _
          · rw [rPairs_snoc]
      · have hst := staleAt_out (A := A) (j := j) hR
        simp only [SE, TF, KD, GE, eq_self, ne_eq, implies_true, forall_const, if_true, if_false, cond_true, cond_false, forall_eq, List.replicate, ↓reduceIte, Nat.reduceEqDiff, Nat.reduceLT, Nat.reduceAdd, Nat.reduceSub, Nat.reduceMul, Nat.reduceLeDiff, ECall', dec_lt h, dec_lt h', getD_map h, getD_map h', lt_int h, lt_int h', ge_t hR, Bool.false_eq_true, hw', hsuc, hst]
        refine ⟨by kernel_rfl, fin _ ⟨h', ?_, ?_⟩⟩
        · exact rPairs_ar _ _ _
        · rw [rPairs_snoc]
    · have : j = A[i].length := by omega
      subst this
      simp only [SE, TF, KD, GE, eq_self, ne_eq, implies_true, forall_const, if_true, if_false, cond_true, cond_false, forall_eq, List.replicate, ↓reduceIte, Nat.reduceEqDiff, Nat.reduceLT, Nat.reduceAdd, Nat.reduceSub, Nat.reduceMul, Nat.reduceLeDiff, dec_lt h, getD_map h, lt_int h, dec_ge h', hw, staleTo, hA]
      exact h
  · have : i = A.length := by omega
    subst this
    simp only [SE, TF, KD, GE, eq_self, ne_eq, implies_true, forall_const, if_true, if_false, cond_true, cond_false, forall_eq, List.replicate, ↓reduceIte, Nat.reduceEqDiff, Nat.reduceLT, Nat.reduceAdd, Nat.reduceSub, Nat.reduceMul, Nat.reduceLeDiff, dec_ge h, stale]
    exact ⟨(rPairs_len _).symm, rfl⟩
end Go.Proofs.Ytcamhcnjomddbaa

/-
  CONTRACTS: the law's own wrappers.
-/
namespace Go.Proofs.Ytcamhcnjomddbaa
open Go.Aw
set_option maxRecDepth 100000
set_option maxHeartbeats 1000000
def ePR (r : List Patch × Int) : D := .agg [ePatches r.1, eI r.2]
def ePS (r : List (List Patch) × Int) : D := .agg [eParts r.1, eI r.2]
theorem diffW_c (old now : Frames) (hn : (wordsA old).length ≤ 2000000) : FnP Try.prog 17 [eSet old, eSet now] (.d (ePR (diffR old now))) [] := by
  refine FnP.of_eC (own := []) (fun id => []) mixed Try.func17 rfl Try.call17 Try.ntmps17 (Nat.le_of_ble_eq_true rfl) Try.results17 (fun hok => ?_)
  simp only [SE, TF, KD, GE, eq_self, ne_eq, implies_true, forall_const, if_true, if_false, cond_true, cond_false, forall_eq, List.replicate, ↓reduceIte, Nat.reduceEqDiff, Nat.reduceLT, Nat.reduceAdd, Nat.reduceSub, Nat.reduceMul, Nat.reduceLeDiff]
  refine EFn.p ?_
  simp only [SE, TF, KD, GE, eq_self, ne_eq, implies_true, forall_const, if_true, if_false, cond_true, cond_false, forall_eq, List.replicate, ↓reduceIte, Nat.reduceEqDiff, Nat.reduceLT, Nat.reduceAdd, Nat.reduceSub, Nat.reduceMul, Nat.reduceLeDiff, ECall]
  refine ⟨_, diff_c _ _ hn, ?_⟩
  simp only [SE, TF, KD, GE, eq_self, ne_eq, implies_true, forall_const, if_true, if_false, cond_true, cond_false, forall_eq, List.replicate, ↓reduceIte, Nat.reduceEqDiff, Nat.reduceLT, Nat.reduceAdd, Nat.reduceSub, Nat.reduceMul, Nat.reduceLeDiff, ePR]
theorem applyW_c (A : Frames) (l : List Patch) (hs : small A) (hin : ∀ q ∈ l, posIn (posOf q)) : FnP Try.prog 19 [eSet A, ePatches l] (.d (eApplied (applyD A l))) [] := by
  refine FnP.of_eC (own := []) (fun id => []) mixed Try.func19 rfl Try.call19 Try.ntmps19 (Nat.le_of_ble_eq_true rfl) Try.results19 (fun hok => ?_)
  simp only [SE, TF, KD, GE, eq_self, ne_eq, implies_true, forall_const, if_true, if_false, cond_true, cond_false, forall_eq, List.replicate, ↓reduceIte, Nat.reduceEqDiff, Nat.reduceLT, Nat.reduceAdd, Nat.reduceSub, Nat.reduceMul, Nat.reduceLeDiff]
  refine EFn.p ?_
  simp only [SE, TF, KD, GE, eq_self, ne_eq, implies_true, forall_const, if_true, if_false, cond_true, cond_false, forall_eq, List.replicate, ↓reduceIte, Nat.reduceEqDiff, Nat.reduceLT, Nat.reduceAdd, Nat.reduceSub, Nat.reduceMul, Nat.reduceLeDiff, ECall]
  refine ⟨_, apply_c _ _ hs hin, ?_⟩
  simp only [SE, TF, KD, GE, eq_self, ne_eq, implies_true, forall_const, if_true, if_false, cond_true, cond_false, forall_eq, List.replicate, ↓reduceIte, Nat.reduceEqDiff, Nat.reduceLT, Nat.reduceAdd, Nat.reduceSub, Nat.reduceMul, Nat.reduceLeDiff, eApplied]
theorem splitW_c (l : List Patch) (n : Int) (hn2 : n ≤ 9223372036854775807) (hl : l.length ≤ 2000000) : FnP Try.prog 24 [ePatches l, eI n] (.d (ePS (splitR l n))) [] := by
  refine FnP.of_eC (own := []) (fun id => []) mixed Try.func24 rfl Try.call24 Try.ntmps24 (Nat.le_of_ble_eq_true rfl) Try.results24 (fun hok => ?_)
  simp only [SE, TF, KD, GE, eq_self, ne_eq, implies_true, forall_const, if_true, if_false, cond_true, cond_false, forall_eq, List.replicate, ↓reduceIte, Nat.reduceEqDiff, Nat.reduceLT, Nat.reduceAdd, Nat.reduceSub, Nat.reduceMul, Nat.reduceLeDiff]
  refine EFn.p ?_
  simp only [SE, TF, KD, GE, eq_self, ne_eq, implies_true, forall_const, if_true, if_false, cond_true, cond_false, forall_eq, List.replicate, ↓reduceIte, Nat.reduceEqDiff, Nat.reduceLT, Nat.reduceAdd, Nat.reduceSub, Nat.reduceMul, Nat.reduceLeDiff, ECall]
  refine ⟨_, split_c _ _ hn2 hl, ?_⟩
  simp only [SE, TF, KD, GE, eq_self, ne_eq, implies_true, forall_const, if_true, if_false, cond_true, cond_false, forall_eq, List.replicate, ↓reduceIte, Nat.reduceEqDiff, Nat.reduceLT, Nat.reduceAdd, Nat.reduceSub, Nat.reduceMul, Nat.reduceLeDiff, ePS, eParts, eCh]
theorem samePatchesW_c (a b : List Patch × Int) : FnP Try.prog 16 [ePR a, ePR b] (.d (eB (a.2 == b.2 && decide (a.1 = b.1)))) [] := by
  refine FnP.of_eC (own := []) (fun id => []) mixed Try.func16 rfl Try.call16 Try.ntmps16 (Nat.le_of_ble_eq_true rfl) Try.results16 (fun hok => ?_)
  by_cases h : a.2 = b.2
  · have h' : (a.2 == b.2) = true := by simp [h]
    simp only [SE, TF, KD, GE, eq_self, ne_eq, implies_true, forall_const, if_true, if_false, cond_true, cond_false, forall_eq, List.replicate, ↓reduceIte, Nat.reduceEqDiff, Nat.reduceLT, Nat.reduceAdd, Nat.reduceSub, Nat.reduceMul, Nat.reduceLeDiff, ePR, h']
    refine EFn.p ?_
    simp only [SE, TF, KD, GE, eq_self, ne_eq, implies_true, forall_const, if_true, if_false, cond_true, cond_false, forall_eq, List.replicate, ↓reduceIte, Nat.reduceEqDiff, Nat.reduceLT, Nat.reduceAdd, Nat.reduceSub, Nat.reduceMul, Nat.reduceLeDiff, ECall]
    refine ⟨_, samePatches_c _ _, ?_⟩
    simp only [SE, TF, KD, GE, eq_self, ne_eq, implies_true, forall_const, if_true, if_false, cond_true, cond_false, forall_eq, List.replicate, ↓reduceIte, Nat.reduceEqDiff, Nat.reduceLT, Nat.reduceAdd, Nat.reduceSub, Nat.reduceMul, Nat.reduceLeDiff, Bool.true_and]
  · have h' : (a.2 == b.2) = false := by simp [h]
    simp only [SE, TF, KD, GE, eq_self, ne_eq, implies_true, forall_const, if_true, if_false, cond_true, cond_false, forall_eq, List.replicate, ↓reduceIte, Nat.reduceEqDiff, Nat.reduceLT, Nat.reduceAdd, Nat.reduceSub, Nat.reduceMul, Nat.reduceLeDiff, ePR, h', Bool.false_and]
theorem sameSetW_c (a b : Frames × Int) : FnP Try.prog 18 [eApplied a, eApplied b] (.d (eB (a.2 == b.2 && decide (a.1 = b.1)))) [] := by
  refine FnP.of_eC (own := []) (fun id => []) mixed Try.func18 rfl Try.call18 Try.ntmps18 (Nat.le_of_ble_eq_true rfl) Try.results18 (fun hok => ?_)
  by_cases h : a.2 = b.2
  · have h' : (a.2 == b.2) = true := by simp [h]
    simp only [SE, TF, KD, GE, eq_self, ne_eq, implies_true, forall_const, if_true, if_false, cond_true, cond_false, forall_eq, List.replicate, ↓reduceIte, Nat.reduceEqDiff, Nat.reduceLT, Nat.reduceAdd, Nat.reduceSub, Nat.reduceMul, Nat.reduceLeDiff, eApplied, h']
    refine EFn.p ?_
    simp only [SE, TF, KD, GE, eq_self, ne_eq, implies_true, forall_const, if_true, if_false, cond_true, cond_false, forall_eq, List.replicate, ↓reduceIte, Nat.reduceEqDiff, Nat.reduceLT, Nat.reduceAdd, Nat.reduceSub, Nat.reduceMul, Nat.reduceLeDiff, ECall]
    refine ⟨_, same_c _ _, ?_⟩
    simp only [SE, TF, KD, GE, eq_self, ne_eq, implies_true, forall_const, if_true, if_false, cond_true, cond_false, forall_eq, List.replicate, ↓reduceIte, Nat.reduceEqDiff, Nat.reduceLT, Nat.reduceAdd, Nat.reduceSub, Nat.reduceMul, Nat.reduceLeDiff, Bool.true_and]
  · have h' : (a.2 == b.2) = false := by simp [h]
    simp only [SE, TF, KD, GE, eq_self, ne_eq, implies_true, forall_const, if_true, if_false, cond_true, cond_false, forall_eq, List.replicate, ↓reduceIte, Nat.reduceEqDiff, Nat.reduceLT, Nat.reduceAdd, Nat.reduceSub, Nat.reduceMul, Nat.reduceLeDiff, eApplied, h', Bool.false_and]

end Go.Proofs.Ytcamhcnjomddbaa

/-
  CONTRACTS: a map's keys, in whatever order; sorted.
-/
namespace Go.Proofs.Ytcamhcnjomddbaa
open Go.Aw
set_option maxRecDepth 100000
set_option maxHeartbeats 1000000
theorem nodup_lt : ∀ (n : Nat) (js : List Nat), js.Nodup → (∀ j ∈ js, j < n) → js.length ≤ n
  | 0, js, _, h => by
    cases js with
    | nil => simp
    | cons j r => exact absurd (h j (by simp)) (by omega)
  | n + 1, js, hn, h => by
    have h1 := nodup_lt n (js.erase n) (hn.erase n) (fun j hj => by
      have h2 := (List.Nodup.mem_erase_iff hn).1 hj
      have := h j h2.2
      omega)
    rw [List.length_erase] at h1
    split at h1 <;> omega
theorem nodup_perm {n : Nat} {js : List Nat} (hn : js.Nodup) (h : ∀ j ∈ js, j < n) (ha : ∀ j, j < n → j ∈ js) : js.Perm (List.range n) :=
  (List.perm_ext_iff_of_nodup hn List.nodup_range).2 fun j => by rw [List.mem_range]; exact ⟨h j, ha j⟩
theorem range_getD {α : Type} (l : List α) (d : α) : (List.range l.length).map (fun j => l.getD j d) = l := by
  apply List.ext_getElem (by simp)
  intro i h1 h2
  simp [List.getD, h2]
def pickJ (l : List Pos) (js : List Nat) : List Pos := js.map fun j => l.getD j default
def eYk (p : Pos) : List D := [eKey p]
theorem keys_it (l : List Pos) (vs : List D) (bs : List Nat) (clock : Nat) : IterP Try.prog 68 [.ptr [.mp (l.map eKey) vs bs clock]] (fun pre => ∃ js : List Nat, js.Nodup ∧ (∀ j ∈ js, j < l.length) ∧ pre = (pickJ l js).map eYk) (fun xs => ∃ js : List Nat, js.Nodup ∧ (∀ j ∈ js, j < l.length) ∧ (∀ j, j < l.length → j ∈ js) ∧ xs = (pickJ l js).map eYk) := by
  intro lim fam stop lp hY
  have := FnL.of_eC (P := Try.prog) (args := [.yv 0, .d (.ptr [.mp (l.map eKey) vs bs clock])]) (os := [(0, .ext lim fam stop lp [])]) (PL := fun _ ol new => (∃ xs, (∃ js : List Nat, js.Nodup ∧ (∀ j ∈ js, j < l.length) ∧ (∀ j, j < l.length → j ∈ js) ∧ xs = (pickJ l js).map eYk) ∧ ol = [(0, .ext lim fam stop lp xs)] ∧ new = []) ∨ (ol = [(0, .ext lim (fun _ => stop) stop lp [])] ∧ new = [])) (own := []) (fun _ => []) [0] mixed Try.func68 rfl Try.call68 Try.ntmps68 (Nat.le_of_ble_eq_true rfl) Try.results68 ?_
  · refine this.mono ?_
    rintro V Oo new ⟨ol, rfl, ⟨xs, h1, rfl, h2⟩ | ⟨rfl, h2⟩⟩
    · exact .inl ⟨xs, h1, rfl, h2⟩
    · exact .inr ⟨rfl, h2⟩
  simp only [SE, TF, KD, GE, eq_self, ne_eq, implies_true, forall_const, if_true, if_false, cond_true, cond_false, forall_eq, List.replicate, ↓reduceIte, Nat.reduceEqDiff, Nat.reduceLT, Nat.reduceAdd, Nat.reduceSub, Nat.reduceMul, Nat.reduceLeDiff]
  refine eloopX (fun _ _ => []) mixed l.length (fun i (js : List Nat) => js.length = i ∧ js.Nodup ∧ ∀ j ∈ js, j < l.length) (fun i js => ([(0, .yv 0), (5, .mo 5)], [(0, .ext lim fam stop lp ((pickJ l js).map eYk)), (5, .it (l.map eKey) vs bs clock js)])) [] ?_ ?_ ?_ (fun i js hi hI => ?_)
  · simp
  · simp [SE, TF, KD, GE, eq_self, ne_eq, implies_true, forall_const, if_true, if_false, cond_true, cond_false, forall_eq, List.replicate, ↓reduceIte, Nat.reduceEqDiff, Nat.reduceLT, Nat.reduceAdd, Nat.reduceSub, Nat.reduceMul, Nat.reduceLeDiff]
  · simp [SE, TF, KD, GE, eq_self, ne_eq, implies_true, forall_const, if_true, if_false, cond_true, cond_false, forall_eq, List.replicate, ↓reduceIte, Nat.reduceEqDiff, Nat.reduceLT, Nat.reduceAdd, Nat.reduceSub, Nat.reduceMul, Nat.reduceLeDiff, pickJ]
  obtain ⟨h1, h2, h3⟩ := hI
  simp only [SE, TF, KD, GE, eq_self, ne_eq, implies_true, forall_const, if_true, if_false, cond_true, cond_false, forall_eq, List.replicate, ↓reduceIte, Nat.reduceEqDiff, Nat.reduceLT, Nat.reduceAdd, Nat.reduceSub, Nat.reduceMul, Nat.reduceLeDiff]
  refine ⟨by simp only [SE, TF, KD, GE, eq_self, ne_eq, implies_true, forall_const, if_true, if_false, cond_true, cond_false, forall_eq, List.replicate, ↓reduceIte, Nat.reduceEqDiff, Nat.reduceLT, Nat.reduceAdd, Nat.reduceSub, Nat.reduceMul, Nat.reduceLeDiff], fun j hj hjs => ?_, fun hall => ?_⟩
  · have hj' : j < l.length := by simpa using hj
    have hD : l.getD j default = l[j] := by simp [List.getD, hj']
    have hkj : (l.map eKey).getD j default = D.agg [.lit (.int .i64 l[j].p), .lit (.int .i64 l[j].f), .lit (.int .i64 l[j].w)] := by
      simp [List.getD, hj', eKey, ePos, eI]
    have hlen : i < l.length := by
      have := nodup_lt l.length (j :: js) (List.nodup_cons.2 ⟨hjs, h2⟩) (fun k hk => by
        rcases List.mem_cons.1 hk with rfl | hk
        · exact hj'
        · exact h3 k hk)
      simp at this; omega
    have hnew : (js ++ [j]).Nodup ∧ ∀ k ∈ js ++ [j], k < l.length := by
      refine ⟨List.nodup_append.2 ⟨h2, by simp, fun a ha b hb e => ?_⟩, fun k hk => ?_⟩
      · simp at hb; subst hb; subst e; exact hjs ha
      · rcases List.mem_append.1 hk with hk | hk
        · exact h3 k hk
        · simp at hk; subst hk; exact hj'
    have hpick : (pickJ l js).map eYk ++ [[D.agg [.lit (.int .i64 l[j].p), .lit (.int .i64 l[j].f), .lit (.int .i64 l[j].w)]]] = (pickJ l (js ++ [j])).map eYk := by
      simp only [pickJ, List.map_append, List.map_cons, List.map_nil, hD]
      rfl
    simp only [SE, TF, KD, GE, eq_self, ne_eq, implies_true, forall_const, if_true, if_false, cond_true, cond_false, forall_eq, List.replicate, ↓reduceIte, Nat.reduceEqDiff, Nat.reduceLT, Nat.reduceAdd, Nat.reduceSub, Nat.reduceMul, Nat.reduceLeDiff, hkj, List.getLast?_singleton, Option.some_or]
    refine ⟨_, hY, ?_, ?_, ?_⟩
    · exact ⟨js ++ [j], hnew.1, hnew.2, hpick⟩
    · simp only [SE, TF, KD, GE, eq_self, ne_eq, implies_true, forall_const, if_true, if_false, cond_true, cond_false, forall_eq, List.replicate, ↓reduceIte, Nat.reduceEqDiff, Nat.reduceLT, Nat.reduceAdd, Nat.reduceSub, Nat.reduceMul, Nat.reduceLeDiff, nextX, hpick]
      refine ⟨hlen, js ++ [j], ⟨by simp [h1], hnew⟩, ?_⟩
      simp only [SE, TF, KD, GE, eq_self, ne_eq, implies_true, forall_const, if_true, if_false, cond_true, cond_false, forall_eq, List.replicate, ↓reduceIte, Nat.reduceEqDiff, Nat.reduceLT, Nat.reduceAdd, Nat.reduceSub, Nat.reduceMul, Nat.reduceLeDiff]
    · simp only [SE, TF, KD, GE, eq_self, ne_eq, implies_true, forall_const, if_true, if_false, cond_true, cond_false, forall_eq, List.replicate, ↓reduceIte, Nat.reduceEqDiff, Nat.reduceLT, Nat.reduceAdd, Nat.reduceSub, Nat.reduceMul, Nat.reduceLeDiff]
      refine ⟨[3, 5], [], ?_⟩
      simp only [SE, TF, KD, GE, eq_self, ne_eq, implies_true, forall_const, if_true, if_false, cond_true, cond_false, forall_eq, List.replicate, ↓reduceIte, Nat.reduceEqDiff, Nat.reduceLT, Nat.reduceAdd, Nat.reduceSub, Nat.reduceMul, Nat.reduceLeDiff]
  · simp only [SE, TF, KD, GE, eq_self, ne_eq, implies_true, forall_const, if_true, if_false, cond_true, cond_false, forall_eq, List.replicate, ↓reduceIte, Nat.reduceEqDiff, Nat.reduceLT, Nat.reduceAdd, Nat.reduceSub, Nat.reduceMul, Nat.reduceLeDiff]
    refine ⟨[5], [], ?_⟩
    simp only [SE, TF, KD, GE, eq_self, ne_eq, implies_true, forall_const, if_true, if_false, cond_true, cond_false, forall_eq, List.replicate, ↓reduceIte, Nat.reduceEqDiff, Nat.reduceLT, Nat.reduceAdd, Nat.reduceSub, Nat.reduceMul, Nat.reduceLeDiff]
    exact .inl ⟨_, ⟨js, h2, h3, fun j hj => hall j (by simpa using hj), rfl⟩, rfl⟩

theorem keys_c (l : List Pos) (vs : List D) (bs : List Nat) (clock : Nat) : FnP Try.prog 55 [.mp (l.map eKey) vs bs clock] (.d (.clo (.func 68) [] [.ptr [.mp (l.map eKey) vs bs clock]])) [] := by
  refine FnP.of_eC (own := []) (fun _ => []) mixed Try.func55 rfl Try.call55 Try.ntmps55 (Nat.le_of_ble_eq_true rfl) Try.results55 (fun hok => ?_)
  simp only [SE, TF, KD, GE, eq_self, ne_eq, implies_true, forall_const, if_true, if_false, cond_true, cond_false, forall_eq, List.replicate, ↓reduceIte, Nat.reduceEqDiff, Nat.reduceLT, Nat.reduceAdd, Nat.reduceSub, Nat.reduceMul, Nat.reduceLeDiff]

def rowOf : List D → List D
  | [.agg cs] => cs
  | _ => []
theorem rowOf_pick (l : List Pos) (js : List Nat) : ((pickJ l js).map eYk).map rowOf = (pickJ l js).map ePos := by
  rw [List.map_map]; rfl
theorem appendSeq_c (l : List Pos) (vs : List D) (bs : List Nat) (clock : Nat) (hl : l.length ≤ 4000000) : FnL Try.prog 74 [.nils, .d (.clo (.func 68) [] [.ptr [.mp (l.map eKey) vs bs clock]])] [] (fun V ol new => ∃ l' : List Pos, l'.Perm l ∧ V = .ar 90 l'.length ∧ ol = [(90, .arr 91 3 .flat (l'.map ePos))] ∧ new = [90]) := by
  refine FnL.of_eC (own := []) (fun id => if id = 0 then [.adB 2 0 90 91 3] else []) [] mixed Try.func74 rfl Try.call74 Try.ntmps74 (Nat.le_of_ble_eq_true rfl) Try.results74 ?_
  simp only [SE, TF, KD, GE, eq_self, ne_eq, implies_true, forall_const, if_true, if_false, cond_true, cond_false, forall_eq, List.replicate, ↓reduceIte, Nat.reduceEqDiff, Nat.reduceLT, Nat.reduceAdd, Nat.reduceSub, Nat.reduceMul, Nat.reduceLeDiff]
  refine erange mixed (fun _ => []) rfl (by simp only [SE, TF, KD, GE, eq_self, ne_eq, implies_true, forall_const, if_true, if_false, cond_true, cond_false, forall_eq, List.replicate, ↓reduceIte, Nat.reduceEqDiff, Nat.reduceLT, Nat.reduceAdd, Nat.reduceSub, Nat.reduceMul, Nat.reduceLeDiff]) (keys_it l vs bs clock) (fun pre => [(2, .box [.ar 90 pre.length]), (90, .arr 91 3 .flat (pre.map rowOf))]) ?_ ?_ ?_ ?_ ?_
  · simp only [SE, TF, KD, GE, eq_self, ne_eq, implies_true, forall_const, if_true, if_false, cond_true, cond_false, forall_eq, List.replicate, ↓reduceIte, Nat.reduceEqDiff, Nat.reduceLT, Nat.reduceAdd, Nat.reduceSub, Nat.reduceMul, Nat.reduceLeDiff]
  · intro pre; simp [noExtL, isExt]
  · simp only [SE, TF, KD, GE, eq_self, ne_eq, implies_true, forall_const, if_true, if_false, cond_true, cond_false, forall_eq, List.replicate, ↓reduceIte, Nat.reduceEqDiff, Nat.reduceLT, Nat.reduceAdd, Nat.reduceSub, Nat.reduceMul, Nat.reduceLeDiff, psOk, keysT]
  · rintro pre x ⟨js, h1, h2, h3⟩
    have hlen : (pre ++ [x]).length = js.length := by rw [h3]; simp [pickJ]
    have hjl := nodup_lt l.length js h1 h2
    simp only [List.length_append, List.length_cons, List.length_nil] at hlen
    obtain ⟨p, rfl⟩ : ∃ p, x = eYk p := by
      have : x ∈ (pickJ l js).map eYk := by rw [← h3]; simp
      obtain ⟨p, _, rfl⟩ := List.mem_map.1 this
      exact ⟨p, rfl⟩
    simp only [eYk, eKey, SE, TF, KD, GE, eq_self, ne_eq, implies_true, forall_const, if_true, if_false, cond_true, cond_false, forall_eq, List.replicate, ↓reduceIte, Nat.reduceEqDiff, Nat.reduceLT, Nat.reduceAdd, Nat.reduceSub, Nat.reduceMul, Nat.reduceLeDiff, zipL, roundE, noExtL, isExt, bodyE, keysT]
    refine ⟨⟨by omega, by omega⟩, by simp, by simp, ?_⟩
    rw [List.map_append]; rfl
  · rintro xs ⟨js, h1, h2, h3, rfl⟩
    simp only [SE, TF, KD, GE, eq_self, ne_eq, implies_true, forall_const, if_true, if_false, cond_true, cond_false, forall_eq, List.replicate, ↓reduceIte, Nat.reduceEqDiff, Nat.reduceLT, Nat.reduceAdd, Nat.reduceSub, Nat.reduceMul, Nat.reduceLeDiff]
    refine ⟨[2], [90], ?_⟩
    simp only [SE, TF, KD, GE, eq_self, ne_eq, implies_true, forall_const, if_true, if_false, cond_true, cond_false, forall_eq, List.replicate, ↓reduceIte, Nat.reduceEqDiff, Nat.reduceLT, Nat.reduceAdd, Nat.reduceSub, Nat.reduceMul, Nat.reduceLeDiff]
    refine ⟨pickJ l js, ?_, rfl, by rw [rowOf_pick]⟩
    have := (nodup_perm h1 h2 h3).map fun j => l.getD j default
    rw [range_getD] at this
    exact this

theorem collect_c (l : List Pos) (vs : List D) (bs : List Nat) (clock : Nat) (hl : l.length ≤ 4000000) : FnL Try.prog 66 [.d (.clo (.func 68) [] [.ptr [.mp (l.map eKey) vs bs clock]])] [] (fun V ol new => ∃ l' : List Pos, l'.Perm l ∧ V = .ar 90 l'.length ∧ ol = [(90, .arr 91 3 .flat (l'.map ePos))] ∧ new = [90]) := by
  refine FnL.of_eC (own := []) (fun id => []) [] mixed Try.func66 rfl Try.call66 Try.ntmps66 (Nat.le_of_ble_eq_true rfl) Try.results66 ?_
  simp only [SE, TF, KD, GE, eq_self, ne_eq, implies_true, forall_const, if_true, if_false, cond_true, cond_false, forall_eq, List.replicate, ↓reduceIte, Nat.reduceEqDiff, Nat.reduceLT, Nat.reduceAdd, Nat.reduceSub, Nat.reduceMul, Nat.reduceLeDiff]
  refine EFn.g ⟨[(90, 90)], [.nils, .d (.clo (.func 68) [] [.ptr [.mp (l.map eKey) vs bs clock]])], _, _, appendSeq_c l vs bs clock hl, ?_⟩
  simp only [SE, TF, KD, GE, eq_self, ne_eq, implies_true, forall_const, if_true, if_false, cond_true, cond_false, forall_eq, List.replicate, ↓reduceIte, Nat.reduceEqDiff, Nat.reduceLT, Nat.reduceAdd, Nat.reduceSub, Nat.reduceMul, Nat.reduceLeDiff]
  rintro V ol new ⟨l', hp, rfl, rfl, rfl⟩
  simp only [SE, TF, KD, GE, eq_self, ne_eq, implies_true, forall_const, if_true, if_false, cond_true, cond_false, forall_eq, List.replicate, ↓reduceIte, Nat.reduceEqDiff, Nat.reduceLT, Nat.reduceAdd, Nat.reduceSub, Nat.reduceMul, Nat.reduceLeDiff]
  refine ⟨[], [90], ?_⟩
  simp only [SE, TF, KD, GE, eq_self, ne_eq, implies_true, forall_const, if_true, if_false, cond_true, cond_false, forall_eq, List.replicate, ↓reduceIte, Nat.reduceEqDiff, Nat.reduceLT, Nat.reduceAdd, Nat.reduceSub, Nat.reduceMul, Nat.reduceLeDiff]
  exact ⟨l', hp, rfl, rfl⟩

theorem sortP_perm {l l' : List Pos} (h : l.Perm l') : sortP l = sortP l' := by
  unfold sortP
  have tr : ∀ a b c : Pos, (!(ltOf cmpPos) b a) = true → (!(ltOf cmpPos) c b) = true → (!(ltOf cmpPos) c a) = true := by
    intro a b c h1 h2
    simp only [Bool.not_eq_true'] at *
    exact swoPos.ntrans _ _ _ h2 h1
  have to : ∀ a b : Pos, ((!(ltOf cmpPos) b a) || (!(ltOf cmpPos) a b)) = true := by
    intro a b
    simp only [Bool.or_eq_true, Bool.not_eq_true']
    rw [ltOf_posF, ltOf_posF]
    unfold posLt
    omega
  refine List.Perm.eq_of_pairwise (le := fun a b => !(ltOf cmpPos) b a) ?_ ?_ ?_ ?_
  · intro a b _ _ h1 h2
    simp only [Bool.not_eq_true'] at h1 h2
    exact posTotal a b h2 h1
  · exact List.pairwise_mergeSort tr to l
  · exact List.pairwise_mergeSort tr to l'
  · exact (List.mergeSort_perm l _).trans (h.trans (List.mergeSort_perm l' _).symm)

theorem sorted_c (l : List Pos) (vs : List D) (bs : List Nat) (clock : Nat) (hl : l.length ≤ 4000000) : FnP Try.prog 54 [.clo (.func 68) [] [.ptr [.mp (l.map eKey) vs bs clock]], .clo (.func 56) [] []] (.d (.sl ((sortP l).map ePos))) [] := by
  refine FnP.of_eC (own := []) (fun id => []) mixed Try.func54 rfl Try.call54 Try.ntmps54 (Nat.le_of_ble_eq_true rfl) Try.results54 (fun hok => ?_)
  simp only [SE, TF, KD, GE, eq_self, ne_eq, implies_true, forall_const, if_true, if_false, cond_true, cond_false, forall_eq, List.replicate, ↓reduceIte, Nat.reduceEqDiff, Nat.reduceLT, Nat.reduceAdd, Nat.reduceSub, Nat.reduceMul, Nat.reduceLeDiff]
  refine EFn.g ⟨[(90, 90)], [.d (.clo (.func 68) [] [.ptr [.mp (l.map eKey) vs bs clock]])], _, _, collect_c l vs bs clock hl, ?_⟩
  simp only [SE, TF, KD, GE, eq_self, ne_eq, implies_true, forall_const, if_true, if_false, cond_true, cond_false, forall_eq, List.replicate, ↓reduceIte, Nat.reduceEqDiff, Nat.reduceLT, Nat.reduceAdd, Nat.reduceSub, Nat.reduceMul, Nat.reduceLeDiff]
  rintro V ol new ⟨l', hp, rfl, rfl, rfl⟩
  simp only [SE, TF, KD, GE, eq_self, ne_eq, implies_true, forall_const, if_true, if_false, cond_true, cond_false, forall_eq, List.replicate, ↓reduceIte, Nat.reduceEqDiff, Nat.reduceLT, Nat.reduceAdd, Nat.reduceSub, Nat.reduceMul, Nat.reduceLeDiff]
  refine EFn.g ⟨[(0, 90)], [.ar 0 l'.length, .d (.clo (.func 56) [] [])], _, _, sort_c l' (by have := hp.length_eq; omega), ?_⟩
  simp only [SE, TF, KD, GE, eq_self, ne_eq, implies_true, forall_const, if_true, if_false, cond_true, cond_false, forall_eq, List.replicate, ↓reduceIte, Nat.reduceEqDiff, Nat.reduceLT, Nat.reduceAdd, Nat.reduceSub, Nat.reduceMul, Nat.reduceLeDiff]
  rintro V ol new ⟨rfl, rfl, rfl⟩
  simp only [SE, TF, KD, GE, eq_self, ne_eq, implies_true, forall_const, if_true, if_false, cond_true, cond_false, forall_eq, List.replicate, ↓reduceIte, Nat.reduceEqDiff, Nat.reduceLT, Nat.reduceAdd, Nat.reduceSub, Nat.reduceMul, Nat.reduceLeDiff]
  exact ⟨(sortP_length l').symm, by rw [sortP_perm hp]⟩
end Go.Proofs.Ytcamhcnjomddbaa

/-
  CONTRACTS: lists composed by package delta.
-/
namespace Go.Proofs.Ytcamhcnjomddbaa
open Go.Aw
set_option maxRecDepth 100000
set_option maxHeartbeats 2000000
abbrev PEnts := List (Pos × Nat)
def eKE (E : PEnts) : List D := E.map fun e => eKey e.1
def eVE (E : PEnts) : List D := E.map fun e => eU e.2
def getE (E : PEnts) (p : Pos) : Nat := ((E.find? fun e => e.1 = p).map (·.2)).getD 0
def addE (E : PEnts) (p : Pos) (x : Nat) : PEnts := if E.findIdx (fun e => e.1 = p) < E.length then E.set (E.findIdx fun e => e.1 = p) (p, xorN (getE E p) x) else E ++ [(p, xorN (getE E p) x)]
def entsOf (l : List Patch) : PEnts := l.foldl (fun E q => addE E (posOf q) q.x) []
def patchOf (p : Pos) (x : Nat) : Patch := ⟨p.p, p.f, p.w, x⟩
def outE (E : PEnts) (ps : List Pos) : List Patch := ps.filterMap fun p => if getE E p = 0 then none else some (patchOf p (getE E p))
noncomputable def composeR (l m : List Patch) : List Patch × Int := if Normal l ∧ Normal m then (outE (entsOf (l ++ m)) (sortP ((entsOf (l ++ m)).map (·.1))), 0) else ([], 490)

theorem kidx_e (E : PEnts) (p : Pos) : kidx (eKE E) (eKey p) = E.findIdx fun e => e.1 = p := by
  unfold kidx eKE
  rw [List.findIdx_map]
  congr 1
  funext e
  exact decide_eq_decide.2 ⟨fun h => eKey_inj h, fun h => by simp only [h]⟩
theorem mget_E (E : PEnts) (p : Pos) : (mget (eKE E) (eVE E) (eKey p)).getD (.lit (.int .u64 0)) = .lit (.int .u64 (getE E p)) := by
  classical
  have := mget_find (key := fun e : Pos × Nat => eKey e.1) (val := fun e : Pos × Nat => eU e.2) (l := E) (eKey p)
  unfold eKE eVE
  rw [this]
  have e1 : (fun x : Pos × Nat => decide (eKey x.1 = eKey p)) = fun e => decide (e.1 = p) := by
    funext e
    exact decide_eq_decide.2 ⟨fun h => eKey_inj h, fun h => by rw [h]⟩
  rw [e1, getE]
  cases E.find? fun e => decide (e.1 = p) <;> rfl
theorem idxOf_range {n j : Nat} (h : j < n) : (List.range n).idxOf j = j := by
  have h1 : (List.range n).idxOf j < (List.range n).length := List.idxOf_lt_length_of_mem (List.mem_range.2 h)
  have h2 := List.getElem_idxOf h1
  rwa [List.getElem_range] at h2
theorem addE_len (E : PEnts) (p : Pos) (x : Nat) : (addE E p x).length ≤ E.length + 1 := by
  unfold addE; split <;> simp
theorem entsOf_snoc (l : List Patch) (q : Patch) : entsOf (l ++ [q]) = addE (entsOf l) (posOf q) q.x := by simp [entsOf]
theorem entsOf_len (l : List Patch) : (entsOf l).length ≤ l.length := by
  have : ∀ (n : Nat), (entsOf (l.take n)).length ≤ n := by
    intro n
    induction n with
    | zero => simp [entsOf]
    | succ n ih =>
      rcases Nat.lt_or_ge n l.length with h | h
      · rw [List.take_succ_eq_append_getElem h, entsOf_snoc]
        have := addE_len (entsOf (l.take n)) (posOf l[n]) l[n].x
        omega
      · rw [List.take_of_length_le (by omega)]
        rw [List.take_of_length_le h] at ih
        omega
  have h := this l.length
  rwa [List.take_length] at h
/-- The entry of a key, made if there is none, and written. -/
theorem entry_step (E : PEnts) (p : Pos) (x : Nat) :
    (stB (eKE E) (List.range E.length) E.length (eKey p) ∈ putB (eKE E) (List.range E.length) E.length (eKey p)) ∧
    AO.map (putK (eKE E) (eKey p)) ((entV (eKE E) (eVE E) (eKey p) (.lit (.int .u64 0))).set ((putB (eKE E) (List.range E.length) E.length (eKey p)).idxOf (stB (eKE E) (List.range E.length) E.length (eKey p))) (.lit (.int .u64 (xorN (getE E p) x))))
      (putB (eKE E) (List.range E.length) E.length (eKey p)) (putC (eKE E) E.length (eKey p)) = AO.map (eKE (addE E p x)) (eVE (addE E p x)) (List.range (addE E p x).length) (addE E p x).length := by
  have hlen : (eKE E).length = E.length := by simp [eKE]
  unfold putK entV putB stB putC addE
  rw [kidx_e, hlen]
  by_cases h : E.findIdx (fun e => e.1 = p) < E.length
  · simp only [if_pos h]
    have hj : (List.range E.length).getD (E.findIdx fun e => e.1 = p) 0 = E.findIdx fun e => e.1 = p := by simp [List.getD, h]
    have hp : E[E.findIdx fun e => e.1 = p].1 = p := by simpa using List.findIdx_getElem (w := h)
    rw [hj, idxOf_range h]
    refine ⟨List.mem_range.2 h, ?_⟩
    simp only [List.length_set]
    congr 1
    · simp only [eKE, List.map_set]
      rw [show eKey p = (E.map fun e => eKey e.1)[E.findIdx fun e => e.1 = p]'(by simpa using h) by simp [hp], List.set_getElem_self]
    · simp only [eVE, List.map_set, eU]
  · simp only [if_neg h]
    have hn : (List.range E.length ++ [E.length]) = List.range (E.length + 1) := by rw [List.range_succ]
    rw [hn, idxOf_range (Nat.lt_succ_self _)]
    refine ⟨by simp, ?_⟩
    simp only [List.length_append, List.length_singleton]
    congr 1
    · simp [eKE]
    · have : E.length = (eVE E).length := by simp [eVE]
      rw [this, List.set_append_right _ _ (Nat.le_refl _)]
      simp [eVE, eU]

theorem mget_put (E : PEnts) (k z : D) : (mget (putK (eKE E) k) (entV (eKE E) (eVE E) k z) k).getD z = (mget (eKE E) (eVE E) k).getD z := by
  unfold putK entV
  by_cases h : kidx (eKE E) k < (eKE E).length
  · simp only [if_pos h]
  · simp only [if_neg h]
    have h2 : k ∉ eKE E := fun hm => h (kidx_lt.2 hm)
    have h3 : kidx (eKE E ++ [k]) k = (eKE E).length := by
      unfold kidx
      rw [List.findIdx_append]
      have : ¬ (eKE E).findIdx (fun x => @decide (x = k) (Classical.propDecidable _)) < (eKE E).length := by
        intro h4
        exact h (by unfold kidx; exact h4)
      rw [if_neg this]
      simp
    unfold mget
    rw [h3, if_neg h, if_pos (by simp)]
    have : (eKE E).length = (eVE E).length := by simp [eKE, eVE]
    rw [this, List.getElem?_append_right (Nat.le_refl _)]
    simp
theorem entsOf_mem (l : List Patch) : ∀ e ∈ entsOf l, ∃ q ∈ l, posOf q = e.1 := by
  have : ∀ (l : List Patch) (E : PEnts), ∀ e ∈ l.foldl (fun E q => addE E (posOf q) q.x) E, (∃ q ∈ l, posOf q = e.1) ∨ ∃ e' ∈ E, e'.1 = e.1 := by
    intro l
    induction l with
    | nil => intro E e he; exact .inr ⟨e, he, rfl⟩
    | cons q l ih =>
      intro E e he
      rcases ih _ e he with ⟨q', h1, h2⟩ | ⟨e', h1, h2⟩
      · exact .inl ⟨q', List.mem_cons_of_mem _ h1, h2⟩
      · replace h1 : e' ∈ addE E (posOf q) q.x := h1
        unfold addE at h1
        split at h1
        · rcases List.mem_or_eq_of_mem_set h1 with h1 | h1
          · exact .inr ⟨e', h1, h2⟩
          · subst h1; exact .inl ⟨q, by simp, h2⟩
        · rcases List.mem_append.1 h1 with h1 | h1
          · exact .inr ⟨e', h1, h2⟩
          · simp at h1; subst h1; exact .inl ⟨q, by simp, h2⟩
  intro e he
  rcases this l [] e he with h | ⟨e', h, _⟩
  · exact h
  · cases h
theorem outE_le (E : PEnts) (ps : List Pos) : (outE E ps).length ≤ ps.length := List.length_filterMap_le _ _
theorem compose_c (l m : List Patch) (hl : l.length ≤ 1000000) (hm : m.length ≤ 1000000) (hin : ∀ q ∈ l ++ m, posIn (posOf q)) : FnP Try.prog 40 [ePatches l, ePatches m] (.tup [.d (ePatches (composeR l m).1), .d (eI (composeR l m).2)]) [] := by
  refine FnP.of_eC (own := []) (fun id => if id = 9 then [.adT 9 90 65 4] else if id = 1010 then [.frz 21] else []) mixed Try.func40 rfl Try.call40 Try.ntmps40 (Nat.le_of_ble_eq_true rfl) Try.results40 (fun hok => ?_)
  simp only [SE, TF, KD, GE, eq_self, ne_eq, implies_true, forall_const, if_true, if_false, cond_true, cond_false, forall_eq, List.replicate, ↓reduceIte, Nat.reduceEqDiff, Nat.reduceLT, Nat.reduceAdd, Nat.reduceSub, Nat.reduceMul, Nat.reduceLeDiff]
  refine EFn.p ?_
  simp only [SE, TF, KD, GE, eq_self, ne_eq, implies_true, forall_const, if_true, if_false, cond_true, cond_false, forall_eq, List.replicate, ↓reduceIte, Nat.reduceEqDiff, Nat.reduceLT, Nat.reduceAdd, Nat.reduceSub, Nat.reduceMul, Nat.reduceLeDiff, ECall]
  refine ⟨_, normal2_c _, ?_⟩
  by_cases hN : Normal l
  · simp only [SE, TF, KD, GE, eq_self, ne_eq, implies_true, forall_const, if_true, if_false, cond_true, cond_false, forall_eq, List.replicate, ↓reduceIte, Nat.reduceEqDiff, Nat.reduceLT, Nat.reduceAdd, Nat.reduceSub, Nat.reduceMul, Nat.reduceLeDiff, hN, decide_true]
    refine EFn.p ?_
    simp only [SE, TF, KD, GE, eq_self, ne_eq, implies_true, forall_const, if_true, if_false, cond_true, cond_false, forall_eq, List.replicate, ↓reduceIte, Nat.reduceEqDiff, Nat.reduceLT, Nat.reduceAdd, Nat.reduceSub, Nat.reduceMul, Nat.reduceLeDiff, ECall]
    refine ⟨_, normal2_c _, ?_⟩
    by_cases hM : Normal m
    · simp only [SE, TF, KD, GE, eq_self, ne_eq, implies_true, forall_const, if_true, if_false, cond_true, cond_false, forall_eq, List.replicate, ↓reduceIte, Nat.reduceEqDiff, Nat.reduceLT, Nat.reduceAdd, Nat.reduceSub, Nat.reduceMul, Nat.reduceLeDiff, hM, decide_true]
      refine EFn.p ?_
      simp only [SE, TF, KD, GE, eq_self, ne_eq, implies_true, forall_const, if_true, if_false, cond_true, cond_false, forall_eq, List.replicate, ↓reduceIte, Nat.reduceEqDiff, Nat.reduceLT, Nat.reduceAdd, Nat.reduceSub, Nat.reduceMul, Nat.reduceLeDiff, ECall]
      refine ⟨_, concat_c [l, m] (by simp) (by simp; omega), ?_⟩
      have hfl : [l, m].flatten = l ++ m := by simp
      obtain ⟨c, hc⟩ : ∃ c, l ++ m = c := ⟨_, rfl⟩
      have hcl : c.length ≤ 2000000 := by rw [← hc]; simp; omega
      simp only [SE, TF, KD, GE, eq_self, ne_eq, implies_true, forall_const, if_true, if_false, cond_true, cond_false, forall_eq, List.replicate, ↓reduceIte, Nat.reduceEqDiff, Nat.reduceLT, Nat.reduceAdd, Nat.reduceSub, Nat.reduceMul, Nat.reduceLeDiff, hfl, hc]
      refine eloop (fun id => if id = 2007 then [.ord ⟨[(0, none), (1, none), (2, none), (3, none), (4, none), (5, none), (6, none), (7, some [3, 6]), (8, some [3, 6]), (9, some [])]⟩] else []) mixed c.length (fun i => True) (fun i => ([(6, .mo 21), (25, .d (ePatches c)), (26, .d (eI c.length)), (27, .d (eI i))], [(21, .map (eKE (entsOf (c.take i))) (eVE (entsOf (c.take i))) (List.range (entsOf (c.take i)).length) (entsOf (c.take i)).length)])) ?_ ?_ ?_ (fun i hi hI => ?_)
      · trivial
      · simp [SE, TF, KD, GE, eq_self, ne_eq, implies_true, forall_const, if_true, if_false, cond_true, cond_false, forall_eq, List.replicate, ↓reduceIte, Nat.reduceEqDiff, Nat.reduceLT, Nat.reduceAdd, Nat.reduceSub, Nat.reduceMul, Nat.reduceLeDiff]
      · simp [SE, TF, KD, GE, eq_self, ne_eq, implies_true, forall_const, if_true, if_false, cond_true, cond_false, forall_eq, List.replicate, ↓reduceIte, Nat.reduceEqDiff, Nat.reduceLT, Nat.reduceAdd, Nat.reduceSub, Nat.reduceMul, Nat.reduceLeDiff, entsOf, eKE, eVE]
      rcases Nat.lt_or_ge i c.length with h | h
      · have hw := wrap_succ (show i < 9223372036854775807 by omega)
        obtain ⟨E, hE⟩ : ∃ E, entsOf (c.take i) = E := ⟨_, rfl⟩
        have hstep : entsOf (c.take (i + 1)) = addE E (posOf c[i]) c[i].x := by rw [List.take_succ_eq_append_getElem h, entsOf_snoc, hE]
        have hmg := mget_E E (posOf c[i])
        have hxor := xorU_N (getE E (posOf c[i])) c[i].x
        unfold xorU at hxor
        obtain ⟨s1, s2⟩ := entry_step E (posOf c[i]) c[i].x
        simp only [eKey, ePos, eI, posOf] at hmg hxor s1 s2
        simp only [SE, TF, KD, GE, eq_self, ne_eq, implies_true, forall_const, if_true, if_false, cond_true, cond_false, forall_eq, List.replicate, ↓reduceIte, Nat.reduceEqDiff, Nat.reduceLT, Nat.reduceAdd, Nat.reduceSub, Nat.reduceMul, Nat.reduceLeDiff, ECall', dec_lt h, getD_map h, lt_int h, hw, hE, hstep]
        refine ⟨by kernel_rfl, _, of_c _, ?_⟩
        simp only [SE, TF, KD, GE, eq_self, ne_eq, implies_true, forall_const, if_true, if_false, cond_true, cond_false, forall_eq, List.replicate, ↓reduceIte, Nat.reduceEqDiff, Nat.reduceLT, Nat.reduceAdd, Nat.reduceSub, Nat.reduceMul, Nat.reduceLeDiff, hw, hmg, hxor]
        have hinc : ∀ q ∈ c, posIn (posOf q) := by rw [← hc]; exact hin
        have kx := keyOk_pos (hinc c[i] (by simp))
        have kE : ∀ y, y ∈ eKE E → KeyOk Try.prog 91 y := by
          intro y hy
          obtain ⟨e, he, rfl⟩ := List.mem_map.1 hy
          rw [← hE] at he
          obtain ⟨q, hq, h2⟩ := entsOf_mem _ e he
          rw [← h2]
          exact keyOk_pos (hinc q (List.mem_of_mem_take hq))
        simp only [eKey, ePos, eI, posOf] at kx
        have kP : ∀ y, y ∈ putK (eKE E) (D.agg [D.lit (.int .i64 c[i].p), D.lit (.int .i64 c[i].f), D.lit (.int .i64 c[i].w)]) → KeyOk Try.prog 91 y := by
          intro y hy
          unfold putK at hy
          split at hy
          · exact kE y hy
          · rcases List.mem_append.1 hy with hy | hy
            · exact kE y hy
            · simp only [List.mem_singleton] at hy; subst hy; exact kx
        have mp := mget_put E (D.agg [D.lit (.int .i64 c[i].p), D.lit (.int .i64 c[i].f), D.lit (.int .i64 c[i].w)]) (.lit (.int .u64 0))
        rw [hmg] at mp
        rw [mp]
        exact ⟨⟨keyed91, kx, kE⟩, ⟨keyed91, kx, kE⟩, ⟨⟨keyed91, kx, kP⟩, rfl⟩, ⟨⟨keyed91, kx, kP⟩, rfl⟩, ⟨Int.natCast_nonneg _, s1⟩, h, s2⟩
      · have : i = c.length := by omega
        subst this
        have hinc : ∀ q ∈ c, posIn (posOf q) := by rw [← hc]; exact hin
        obtain ⟨E, hE⟩ : ∃ E, entsOf c = E := ⟨_, rfl⟩
        have hEl : E.length ≤ 2000000 := by rw [← hE]; exact Nat.le_trans (entsOf_len c) hcl
        have hks : eKE E = (E.map (·.1)).map eKey := by simp [eKE]
        have hkin : ∀ p ∈ E.map (·.1), posIn p := by
          intro p hp
          obtain ⟨e, he, rfl⟩ := List.mem_map.1 hp
          rw [← hE] at he
          obtain ⟨q, hq, h2⟩ := entsOf_mem _ e he
          rw [← h2]
          exact hinc q hq
        have kE : ∀ y, y ∈ (E.map (·.1)).map eKey → KeyOk Try.prog 91 y := by
          intro y hy
          obtain ⟨p, hp, rfl⟩ := List.mem_map.1 hy
          exact keyOk_pos (hkin p hp)
        have hmg := mget_E E
        rw [hks] at hmg
        obtain ⟨ks, hksd⟩ : ∃ ks, E.map (·.1) = ks := ⟨_, rfl⟩
        have hksl : ks.length ≤ 2000000 := by rw [← hksd]; simpa using hEl
        rw [hksd] at hks hkin kE hmg
        simp only [SE, TF, KD, GE, eq_self, ne_eq, implies_true, forall_const, if_true, if_false, cond_true, cond_false, forall_eq, List.replicate, ↓reduceIte, Nat.reduceEqDiff, Nat.reduceLT, Nat.reduceAdd, Nat.reduceSub, Nat.reduceMul, Nat.reduceLeDiff, dec_ge h, List.take_length, hE, hks]
        refine EFn.p ?_
        simp only [SE, TF, KD, GE, eq_self, ne_eq, implies_true, forall_const, if_true, if_false, cond_true, cond_false, forall_eq, List.replicate, ↓reduceIte, Nat.reduceEqDiff, Nat.reduceLT, Nat.reduceAdd, Nat.reduceSub, Nat.reduceMul, Nat.reduceLeDiff, ECall]
        refine ⟨_, keys_c ks _ _ _, ?_⟩
        simp only [SE, TF, KD, GE, eq_self, ne_eq, implies_true, forall_const, if_true, if_false, cond_true, cond_false, forall_eq, List.replicate, ↓reduceIte, Nat.reduceEqDiff, Nat.reduceLT, Nat.reduceAdd, Nat.reduceSub, Nat.reduceMul, Nat.reduceLeDiff]
        refine EFn.p ?_
        simp only [SE, TF, KD, GE, eq_self, ne_eq, implies_true, forall_const, if_true, if_false, cond_true, cond_false, forall_eq, List.replicate, ↓reduceIte, Nat.reduceEqDiff, Nat.reduceLT, Nat.reduceAdd, Nat.reduceSub, Nat.reduceMul, Nat.reduceLeDiff, ECall]
        refine ⟨_, sorted_c ks _ _ _ (by omega), ?_⟩
        simp only [SE, TF, KD, GE, eq_self, ne_eq, implies_true, forall_const, if_true, if_false, cond_true, cond_false, forall_eq, List.replicate, ↓reduceIte, Nat.reduceEqDiff, Nat.reduceLT, Nat.reduceAdd, Nat.reduceSub, Nat.reduceMul, Nat.reduceLeDiff]
        obtain ⟨sp, hsp⟩ : ∃ sp, sortP ks = sp := ⟨_, rfl⟩
        have hspl : sp.length ≤ 2000000 := by rw [← hsp, sortP_length]; exact hksl
        have hspin : ∀ p ∈ sp, posIn p := by
          intro p hp
          rw [← hsp] at hp
          exact hkin p ((List.mergeSort_perm ks _).mem_iff.1 hp)
        have hres : composeR l m = (outE E sp, 0) := by
          rw [composeR, if_pos ⟨hN, hM⟩, hc, hE, hksd, hsp]
        rw [hsp, hres]
        refine eloop (fun _ => []) mixed sp.length (fun i => True) (fun i => ([(6, .d (.mp (ks.map eKey) (eVE E) (List.range E.length) E.length)), (9, .ar 90 (outE E (sp.take i)).length), (43, .d (.sl (sp.map ePos))), (44, .d (eI sp.length)), (45, .d (eI i))], [(90, .arr 65 4 .flat (rPatches (outE E (sp.take i))))])) ?_ ?_ ?_ (fun i hi hI => ?_)
        · trivial
        · simp [SE, TF, KD, GE, eq_self, ne_eq, implies_true, forall_const, if_true, if_false, cond_true, cond_false, forall_eq, List.replicate, ↓reduceIte, Nat.reduceEqDiff, Nat.reduceLT, Nat.reduceAdd, Nat.reduceSub, Nat.reduceMul, Nat.reduceLeDiff, outE]
        · simp [SE, TF, KD, GE, eq_self, ne_eq, implies_true, forall_const, if_true, if_false, cond_true, cond_false, forall_eq, List.replicate, ↓reduceIte, Nat.reduceEqDiff, Nat.reduceLT, Nat.reduceAdd, Nat.reduceSub, Nat.reduceMul, Nat.reduceLeDiff, outE, rPatches]
        rcases Nat.lt_or_ge i sp.length with h | h
        · have hw := wrap_succ (show i < 9223372036854775807 by omega)
          have hmi := hmg sp[i]
          have kx := keyOk_pos (hspin sp[i] (by simp))
          have hol := outE_le E (sp.take i)
          have hstep : outE E (sp.take (i + 1)) = outE E (sp.take i) ++ (if getE E sp[i] = 0 then none else some (patchOf sp[i] (getE E sp[i]))).toList := by
            rw [List.take_succ_eq_append_getElem h, outE, outE, List.filterMap_append]
            simp only [List.filterMap_cons, List.filterMap_nil]
            split <;> simp_all
          simp only [eKey, ePos, eI] at hmi kx
          by_cases hz : getE E sp[i] = 0
          · have hz' : ((getE E sp[i] : Int) != 0) = false := by simp [hz]
            rw [if_pos hz] at hstep
            simp only [SE, TF, KD, GE, eq_self, ne_eq, implies_true, forall_const, if_true, if_false, cond_true, cond_false, forall_eq, List.replicate, ↓reduceIte, Nat.reduceEqDiff, Nat.reduceLT, Nat.reduceAdd, Nat.reduceSub, Nat.reduceMul, Nat.reduceLeDiff, dec_lt h, getD_map h, lt_int h, hw, hmi, hz', hstep, Option.toList_none]
            exact ⟨⟨keyed91, kx, kE⟩, h⟩
          · have hz' : ((getE E sp[i] : Int) != 0) = true := by simp [hz]
            rw [if_neg hz] at hstep
            have hr : rPatches (outE E (sp.take i)) ++ [[D.lit (.int .i64 sp[i].p), D.lit (.int .i64 sp[i].f), D.lit (.int .i64 sp[i].w), D.lit (.int .u64 (getE E sp[i]))]] = rPatches (outE E (sp.take (i + 1))) := by
              rw [hstep]; simp [rPatches, patchOf, ePatch, eI, eU]
            have hrl : ∀ x, (rPatches x).length = x.length := fun x => by simp [rPatches]
            simp only [SE, TF, KD, GE, eq_self, ne_eq, implies_true, forall_const, if_true, if_false, cond_true, cond_false, forall_eq, List.replicate, ↓reduceIte, Nat.reduceEqDiff, Nat.reduceLT, Nat.reduceAdd, Nat.reduceSub, Nat.reduceMul, Nat.reduceLeDiff, dec_lt h, getD_map h, lt_int h, hw, hmi, hz', hr, hrl]
            refine ⟨⟨keyed91, kx, kE⟩, ?_⟩
            rw [List.length_take] at hol
            refine ⟨⟨by omega, by omega⟩, h, ?_⟩
            rw [hstep]; simp
        · have : i = sp.length := by omega
          subst this
          simp only [SE, TF, KD, GE, eq_self, ne_eq, implies_true, forall_const, if_true, if_false, cond_true, cond_false, forall_eq, List.replicate, ↓reduceIte, Nat.reduceEqDiff, Nat.reduceLT, Nat.reduceAdd, Nat.reduceSub, Nat.reduceMul, Nat.reduceLeDiff, dec_ge h, List.take_length]
          exact ⟨by simp [rPatches], rfl⟩
    · have : ¬ (Normal l ∧ Normal m) := fun h => hM h.2
      simp only [SE, TF, KD, GE, eq_self, ne_eq, implies_true, forall_const, if_true, if_false, cond_true, cond_false, forall_eq, List.replicate, ↓reduceIte, Nat.reduceEqDiff, Nat.reduceLT, Nat.reduceAdd, Nat.reduceSub, Nat.reduceMul, Nat.reduceLeDiff, hM, decide_false, composeR, this]
  · have : ¬ (Normal l ∧ Normal m) := fun h => hN h.1
    simp only [SE, TF, KD, GE, eq_self, ne_eq, implies_true, forall_const, if_true, if_false, cond_true, cond_false, forall_eq, List.replicate, ↓reduceIte, Nat.reduceEqDiff, Nat.reduceLT, Nat.reduceAdd, Nat.reduceSub, Nat.reduceMul, Nat.reduceLeDiff, hN, decide_false, composeR, this]
end Go.Proofs.Ytcamhcnjomddbaa

/-
  CONTRACTS: composed; the examples.
-/
namespace Go.Proofs.Ytcamhcnjomddbaa
open Go.Aw
set_option maxRecDepth 100000
set_option maxHeartbeats 2000000
theorem composeW_c (l m : List Patch) (hl : l.length ≤ 1000000) (hm : m.length ≤ 1000000) (hin : ∀ q ∈ l ++ m, posIn (posOf q)) : FnP Try.prog 21 [ePatches l, ePatches m] (.d (ePR (composeR l m))) [] := by
  refine FnP.of_eC (own := []) (fun id => []) mixed Try.func21 rfl Try.call21 Try.ntmps21 (Nat.le_of_ble_eq_true rfl) Try.results21 (fun hok => ?_)
  simp only [SE, TF, KD, GE, eq_self, ne_eq, implies_true, forall_const, if_true, if_false, cond_true, cond_false, forall_eq, List.replicate, ↓reduceIte, Nat.reduceEqDiff, Nat.reduceLT, Nat.reduceAdd, Nat.reduceSub, Nat.reduceMul, Nat.reduceLeDiff]
  refine EFn.p ?_
  simp only [SE, TF, KD, GE, eq_self, ne_eq, implies_true, forall_const, if_true, if_false, cond_true, cond_false, forall_eq, List.replicate, ↓reduceIte, Nat.reduceEqDiff, Nat.reduceLT, Nat.reduceAdd, Nat.reduceSub, Nat.reduceMul, Nat.reduceLeDiff, ECall]
  refine ⟨_, compose_c _ _ hl hm hin, ?_⟩
  simp only [SE, TF, KD, GE, eq_self, ne_eq, implies_true, forall_const, if_true, if_false, cond_true, cond_false, forall_eq, List.replicate, ↓reduceIte, Nat.reduceEqDiff, Nat.reduceLT, Nat.reduceAdd, Nat.reduceSub, Nat.reduceMul, Nat.reduceLeDiff, ePR]

def exA : Frames := [[[1, 2], [3]]]
def exB : Frames := [[[1, 6], [3]]]
def exQ : List Patch := [⟨0, 0, 1, 4⟩]
theorem smallA : small exA := by unfold small exA; decide
theorem smallB : small exB := by unfold small exB; decide
theorem inQ : ∀ q ∈ exQ, posIn (posOf q) := by intro q hq; simp [exQ] at hq; subst hq; exact ⟨wf_nat (n := 0) (by omega), wf_nat (n := 0) (by omega), wf_nat (n := 1) (by omega)⟩
theorem exDiff : diffR exA exB = (exQ, 0) := by kernel_rfl
theorem exApp1 : applyD exA exQ = (exB, 0) := by kernel_rfl
theorem exApp2 : applyD exB exQ = (exA, 0) := by kernel_rfl
theorem exDiff2 : diffR exA [] = ([], 490) := by kernel_rfl
theorem exApp3 : applyD [] exQ = ([], 490) := by kernel_rfl
theorem exSplit : splitR exQ 1 = ([exQ], 0) := by kernel_rfl
theorem exSplit0 : splitR exQ 0 = ([], 1) := by kernel_rfl
theorem exStale : stale (digests exA) exB = [(0, 0)] := by kernel_rfl
theorem exStale2 : stale (digests exB) exB = [] := by kernel_rfl
theorem exEnts : entsOf (exQ ++ exQ) = [(⟨0, 0, 1⟩, 0)] := by kernel_rfl
theorem exNormal : Normal exQ := of_decide_eq_true (by kernel_rfl)
theorem exComp : composeR exQ exQ = ([], 0) := by
  rw [composeR, if_pos ⟨exNormal, exNormal⟩, exEnts]
  simp [sortP, outE, getE]

theorem nW : (wordsA exA).length ≤ 2000000 := Nat.le_of_ble_eq_true (by kernel_rfl)
theorem eqQ : (0 == 0 && decide ((exQ : List Patch) = exQ)) = true := by simp
theorem eq_self_b (a : Int) : (a == a) = true := by simp
theorem inQQ : ∀ q ∈ exQ ++ exQ, posIn (posOf q) := by intro q hq; rcases List.mem_append.1 hq with h | h <;> exact inQ q h
theorem samePW_self (a : List Patch × Int) : FnP Try.prog 16 [ePR a, ePR a] (.d (eB true)) [] := by
  have := samePatchesW_c a a
  rwa [show (a.2 == a.2 && decide (a.1 = a.1)) = true by simp] at this
theorem sameSW_self (a : Frames × Int) : FnP Try.prog 18 [eApplied a, eApplied a] (.d (eB true)) [] := by
  have := sameSetW_c a a
  rwa [show (a.2 == a.2 && decide (a.1 = a.1)) = true by simp] at this
theorem samePairs_self (a : List (Int × Int)) : FnP Try.prog 28 [ePairs a, ePairs a] (.d (eB true)) [] := by
  have := samePairs_c a a
  rwa [show decide (a = a) = true by simp] at this
theorem small0 : small [] := by unfold small; simp
theorem digs (A : Frames) (h : small A) : FnP Try.prog 26 [eSet A] (.d (eDig (digests A))) [] := digests_c A h
theorem examples_c : FnP Try.prog 11 [] (.d (eB true)) [] := by
  refine FnP.of_eC (own := []) (fun id => if id = 1003 then [.frz 14, .frz 20, .frz 22] else []) mixed Try.func11 rfl Try.call11 Try.ntmps11 (Nat.le_of_ble_eq_true rfl) Try.results11 (fun hok => ?_)
  have hD := diffW_c exA exB nW
  rw [exDiff] at hD
  have hD2 := diffW_c exA [] nW
  rw [exDiff2] at hD2
  have hA1 := applyW_c exA exQ smallA inQ
  rw [exApp1] at hA1
  have hA2 := applyW_c exB exQ smallB inQ
  rw [exApp2] at hA2
  have hA3 := applyW_c [] exQ small0 inQ
  rw [exApp3] at hA3
  have hC := composeW_c exQ exQ (by decide) (by decide) inQQ
  rw [exComp] at hC
  have hS1 := splitW_c exQ 1 (by decide) (by decide)
  rw [exSplit] at hS1
  have hS0 := splitW_c exQ 0 (by decide) (by decide)
  rw [exSplit0] at hS0
  have hG1 := digests_c exA smallA
  have hT1 := stale_c (digests exA) exB smallB
  rw [exStale] at hT1
  have hG2 := digests_c exB smallB
  have hT2 := stale_c (digests exB) exB smallB
  rw [exStale2] at hT2
  generalize digests exA = g1 at hG1 hT1
  generalize digests exB = g2 at hG2 hT2
  simp (config := { maxSteps := 4000000 }) only [SE, TF, KD, GE, eq_self, ne_eq, implies_true, forall_const, if_true, if_false, cond_true, cond_false, forall_eq, List.replicate, ↓reduceIte, Nat.reduceEqDiff, Nat.reduceLT, Nat.reduceAdd, Nat.reduceSub, Nat.reduceMul, Nat.reduceLeDiff, exA, exB, exQ, ePR, ePS, eApplied, eCh, eParts]
  refine EFn.p ?_
  simp (config := { maxSteps := 4000000 }) only [SE, TF, KD, GE, eq_self, ne_eq, implies_true, forall_const, if_true, if_false, cond_true, cond_false, forall_eq, List.replicate, ↓reduceIte, Nat.reduceEqDiff, Nat.reduceLT, Nat.reduceAdd, Nat.reduceSub, Nat.reduceMul, Nat.reduceLeDiff, exA, exB, exQ, ePR, ePS, eApplied, eCh, eParts]
  have hc := hD
  simp (config := { maxSteps := 4000000 }) only [SE, TF, KD, GE, eq_self, ne_eq, implies_true, forall_const, if_true, if_false, cond_true, cond_false, forall_eq, List.replicate, ↓reduceIte, Nat.reduceEqDiff, Nat.reduceLT, Nat.reduceAdd, Nat.reduceSub, Nat.reduceMul, Nat.reduceLeDiff, exA, exB, exQ, ePR, ePS, eApplied, eCh, eParts] at hc
  refine ECall.i hc ?_
  clear hc
  simp (config := { maxSteps := 4000000 }) only [SE, TF, KD, GE, eq_self, ne_eq, implies_true, forall_const, if_true, if_false, cond_true, cond_false, forall_eq, List.replicate, ↓reduceIte, Nat.reduceEqDiff, Nat.reduceLT, Nat.reduceAdd, Nat.reduceSub, Nat.reduceMul, Nat.reduceLeDiff, exA, exB, exQ, ePR, ePS, eApplied, eCh, eParts]
  refine EFn.p ?_
  simp (config := { maxSteps := 4000000 }) only [SE, TF, KD, GE, eq_self, ne_eq, implies_true, forall_const, if_true, if_false, cond_true, cond_false, forall_eq, List.replicate, ↓reduceIte, Nat.reduceEqDiff, Nat.reduceLT, Nat.reduceAdd, Nat.reduceSub, Nat.reduceMul, Nat.reduceLeDiff, exA, exB, exQ, ePR, ePS, eApplied, eCh, eParts]
  have hc := hA1
  simp (config := { maxSteps := 4000000 }) only [SE, TF, KD, GE, eq_self, ne_eq, implies_true, forall_const, if_true, if_false, cond_true, cond_false, forall_eq, List.replicate, ↓reduceIte, Nat.reduceEqDiff, Nat.reduceLT, Nat.reduceAdd, Nat.reduceSub, Nat.reduceMul, Nat.reduceLeDiff, exA, exB, exQ, ePR, ePS, eApplied, eCh, eParts] at hc
  refine ECall.i hc ?_
  clear hc
  simp (config := { maxSteps := 4000000 }) only [SE, TF, KD, GE, eq_self, ne_eq, implies_true, forall_const, if_true, if_false, cond_true, cond_false, forall_eq, List.replicate, ↓reduceIte, Nat.reduceEqDiff, Nat.reduceLT, Nat.reduceAdd, Nat.reduceSub, Nat.reduceMul, Nat.reduceLeDiff, exA, exB, exQ, ePR, ePS, eApplied, eCh, eParts]
  refine EFn.p ?_
  simp (config := { maxSteps := 4000000 }) only [SE, TF, KD, GE, eq_self, ne_eq, implies_true, forall_const, if_true, if_false, cond_true, cond_false, forall_eq, List.replicate, ↓reduceIte, Nat.reduceEqDiff, Nat.reduceLT, Nat.reduceAdd, Nat.reduceSub, Nat.reduceMul, Nat.reduceLeDiff, exA, exB, exQ, ePR, ePS, eApplied, eCh, eParts]
  have hc := hA2
  simp (config := { maxSteps := 4000000 }) only [SE, TF, KD, GE, eq_self, ne_eq, implies_true, forall_const, if_true, if_false, cond_true, cond_false, forall_eq, List.replicate, ↓reduceIte, Nat.reduceEqDiff, Nat.reduceLT, Nat.reduceAdd, Nat.reduceSub, Nat.reduceMul, Nat.reduceLeDiff, exA, exB, exQ, ePR, ePS, eApplied, eCh, eParts] at hc
  refine ECall.i hc ?_
  clear hc
  simp (config := { maxSteps := 4000000 }) only [SE, TF, KD, GE, eq_self, ne_eq, implies_true, forall_const, if_true, if_false, cond_true, cond_false, forall_eq, List.replicate, ↓reduceIte, Nat.reduceEqDiff, Nat.reduceLT, Nat.reduceAdd, Nat.reduceSub, Nat.reduceMul, Nat.reduceLeDiff, exA, exB, exQ, ePR, ePS, eApplied, eCh, eParts]
  refine EFn.p ?_
  simp (config := { maxSteps := 4000000 }) only [SE, TF, KD, GE, eq_self, ne_eq, implies_true, forall_const, if_true, if_false, cond_true, cond_false, forall_eq, List.replicate, ↓reduceIte, Nat.reduceEqDiff, Nat.reduceLT, Nat.reduceAdd, Nat.reduceSub, Nat.reduceMul, Nat.reduceLeDiff, exA, exB, exQ, ePR, ePS, eApplied, eCh, eParts]
  have hc := samePW_self (exQ, 0)
  simp (config := { maxSteps := 4000000 }) only [SE, TF, KD, GE, eq_self, ne_eq, implies_true, forall_const, if_true, if_false, cond_true, cond_false, forall_eq, List.replicate, ↓reduceIte, Nat.reduceEqDiff, Nat.reduceLT, Nat.reduceAdd, Nat.reduceSub, Nat.reduceMul, Nat.reduceLeDiff, exA, exB, exQ, ePR, ePS, eApplied, eCh, eParts] at hc
  refine ECall.i hc ?_
  clear hc
  simp (config := { maxSteps := 4000000 }) only [SE, TF, KD, GE, eq_self, ne_eq, implies_true, forall_const, if_true, if_false, cond_true, cond_false, forall_eq, List.replicate, ↓reduceIte, Nat.reduceEqDiff, Nat.reduceLT, Nat.reduceAdd, Nat.reduceSub, Nat.reduceMul, Nat.reduceLeDiff, exA, exB, exQ, ePR, ePS, eApplied, eCh, eParts]
  refine EFn.p ?_
  simp (config := { maxSteps := 4000000 }) only [SE, TF, KD, GE, eq_self, ne_eq, implies_true, forall_const, if_true, if_false, cond_true, cond_false, forall_eq, List.replicate, ↓reduceIte, Nat.reduceEqDiff, Nat.reduceLT, Nat.reduceAdd, Nat.reduceSub, Nat.reduceMul, Nat.reduceLeDiff, exA, exB, exQ, ePR, ePS, eApplied, eCh, eParts]
  have hc := sameSW_self (exB, 0)
  simp (config := { maxSteps := 4000000 }) only [SE, TF, KD, GE, eq_self, ne_eq, implies_true, forall_const, if_true, if_false, cond_true, cond_false, forall_eq, List.replicate, ↓reduceIte, Nat.reduceEqDiff, Nat.reduceLT, Nat.reduceAdd, Nat.reduceSub, Nat.reduceMul, Nat.reduceLeDiff, exA, exB, exQ, ePR, ePS, eApplied, eCh, eParts] at hc
  refine ECall.i hc ?_
  clear hc
  simp (config := { maxSteps := 4000000 }) only [SE, TF, KD, GE, eq_self, ne_eq, implies_true, forall_const, if_true, if_false, cond_true, cond_false, forall_eq, List.replicate, ↓reduceIte, Nat.reduceEqDiff, Nat.reduceLT, Nat.reduceAdd, Nat.reduceSub, Nat.reduceMul, Nat.reduceLeDiff, exA, exB, exQ, ePR, ePS, eApplied, eCh, eParts]
  refine EFn.p ?_
  simp (config := { maxSteps := 4000000 }) only [SE, TF, KD, GE, eq_self, ne_eq, implies_true, forall_const, if_true, if_false, cond_true, cond_false, forall_eq, List.replicate, ↓reduceIte, Nat.reduceEqDiff, Nat.reduceLT, Nat.reduceAdd, Nat.reduceSub, Nat.reduceMul, Nat.reduceLeDiff, exA, exB, exQ, ePR, ePS, eApplied, eCh, eParts]
  have hc := sameSW_self (exA, 0)
  simp (config := { maxSteps := 4000000 }) only [SE, TF, KD, GE, eq_self, ne_eq, implies_true, forall_const, if_true, if_false, cond_true, cond_false, forall_eq, List.replicate, ↓reduceIte, Nat.reduceEqDiff, Nat.reduceLT, Nat.reduceAdd, Nat.reduceSub, Nat.reduceMul, Nat.reduceLeDiff, exA, exB, exQ, ePR, ePS, eApplied, eCh, eParts] at hc
  refine ECall.i hc ?_
  clear hc
  simp (config := { maxSteps := 4000000 }) only [SE, TF, KD, GE, eq_self, ne_eq, implies_true, forall_const, if_true, if_false, cond_true, cond_false, forall_eq, List.replicate, ↓reduceIte, Nat.reduceEqDiff, Nat.reduceLT, Nat.reduceAdd, Nat.reduceSub, Nat.reduceMul, Nat.reduceLeDiff, exA, exB, exQ, ePR, ePS, eApplied, eCh, eParts]
  refine EFn.p ?_
  simp (config := { maxSteps := 4000000 }) only [SE, TF, KD, GE, eq_self, ne_eq, implies_true, forall_const, if_true, if_false, cond_true, cond_false, forall_eq, List.replicate, ↓reduceIte, Nat.reduceEqDiff, Nat.reduceLT, Nat.reduceAdd, Nat.reduceSub, Nat.reduceMul, Nat.reduceLeDiff, exA, exB, exQ, ePR, ePS, eApplied, eCh, eParts]
  have hc := hD2
  simp (config := { maxSteps := 4000000 }) only [SE, TF, KD, GE, eq_self, ne_eq, implies_true, forall_const, if_true, if_false, cond_true, cond_false, forall_eq, List.replicate, ↓reduceIte, Nat.reduceEqDiff, Nat.reduceLT, Nat.reduceAdd, Nat.reduceSub, Nat.reduceMul, Nat.reduceLeDiff, exA, exB, exQ, ePR, ePS, eApplied, eCh, eParts] at hc
  refine ECall.i hc ?_
  clear hc
  simp (config := { maxSteps := 4000000 }) only [SE, TF, KD, GE, eq_self, ne_eq, implies_true, forall_const, if_true, if_false, cond_true, cond_false, forall_eq, List.replicate, ↓reduceIte, Nat.reduceEqDiff, Nat.reduceLT, Nat.reduceAdd, Nat.reduceSub, Nat.reduceMul, Nat.reduceLeDiff, exA, exB, exQ, ePR, ePS, eApplied, eCh, eParts]
  refine EFn.p ?_
  simp (config := { maxSteps := 4000000 }) only [SE, TF, KD, GE, eq_self, ne_eq, implies_true, forall_const, if_true, if_false, cond_true, cond_false, forall_eq, List.replicate, ↓reduceIte, Nat.reduceEqDiff, Nat.reduceLT, Nat.reduceAdd, Nat.reduceSub, Nat.reduceMul, Nat.reduceLeDiff, exA, exB, exQ, ePR, ePS, eApplied, eCh, eParts]
  have hc := hA3
  simp (config := { maxSteps := 4000000 }) only [SE, TF, KD, GE, eq_self, ne_eq, implies_true, forall_const, if_true, if_false, cond_true, cond_false, forall_eq, List.replicate, ↓reduceIte, Nat.reduceEqDiff, Nat.reduceLT, Nat.reduceAdd, Nat.reduceSub, Nat.reduceMul, Nat.reduceLeDiff, exA, exB, exQ, ePR, ePS, eApplied, eCh, eParts] at hc
  refine ECall.i hc ?_
  clear hc
  simp (config := { maxSteps := 4000000 }) only [SE, TF, KD, GE, eq_self, ne_eq, implies_true, forall_const, if_true, if_false, cond_true, cond_false, forall_eq, List.replicate, ↓reduceIte, Nat.reduceEqDiff, Nat.reduceLT, Nat.reduceAdd, Nat.reduceSub, Nat.reduceMul, Nat.reduceLeDiff, exA, exB, exQ, ePR, ePS, eApplied, eCh, eParts]
  refine EFn.p ?_
  simp (config := { maxSteps := 4000000 }) only [SE, TF, KD, GE, eq_self, ne_eq, implies_true, forall_const, if_true, if_false, cond_true, cond_false, forall_eq, List.replicate, ↓reduceIte, Nat.reduceEqDiff, Nat.reduceLT, Nat.reduceAdd, Nat.reduceSub, Nat.reduceMul, Nat.reduceLeDiff, exA, exB, exQ, ePR, ePS, eApplied, eCh, eParts]
  have hc := hC
  simp (config := { maxSteps := 4000000 }) only [SE, TF, KD, GE, eq_self, ne_eq, implies_true, forall_const, if_true, if_false, cond_true, cond_false, forall_eq, List.replicate, ↓reduceIte, Nat.reduceEqDiff, Nat.reduceLT, Nat.reduceAdd, Nat.reduceSub, Nat.reduceMul, Nat.reduceLeDiff, exA, exB, exQ, ePR, ePS, eApplied, eCh, eParts] at hc
  refine ECall.i hc ?_
  clear hc
  simp (config := { maxSteps := 4000000 }) only [SE, TF, KD, GE, eq_self, ne_eq, implies_true, forall_const, if_true, if_false, cond_true, cond_false, forall_eq, List.replicate, ↓reduceIte, Nat.reduceEqDiff, Nat.reduceLT, Nat.reduceAdd, Nat.reduceSub, Nat.reduceMul, Nat.reduceLeDiff, exA, exB, exQ, ePR, ePS, eApplied, eCh, eParts]
  refine EFn.p ?_
  simp (config := { maxSteps := 4000000 }) only [SE, TF, KD, GE, eq_self, ne_eq, implies_true, forall_const, if_true, if_false, cond_true, cond_false, forall_eq, List.replicate, ↓reduceIte, Nat.reduceEqDiff, Nat.reduceLT, Nat.reduceAdd, Nat.reduceSub, Nat.reduceMul, Nat.reduceLeDiff, exA, exB, exQ, ePR, ePS, eApplied, eCh, eParts]
  have hc := hS1
  simp (config := { maxSteps := 4000000 }) only [SE, TF, KD, GE, eq_self, ne_eq, implies_true, forall_const, if_true, if_false, cond_true, cond_false, forall_eq, List.replicate, ↓reduceIte, Nat.reduceEqDiff, Nat.reduceLT, Nat.reduceAdd, Nat.reduceSub, Nat.reduceMul, Nat.reduceLeDiff, exA, exB, exQ, ePR, ePS, eApplied, eCh, eParts] at hc
  refine ECall.i hc ?_
  clear hc
  simp (config := { maxSteps := 4000000 }) only [SE, TF, KD, GE, eq_self, ne_eq, implies_true, forall_const, if_true, if_false, cond_true, cond_false, forall_eq, List.replicate, ↓reduceIte, Nat.reduceEqDiff, Nat.reduceLT, Nat.reduceAdd, Nat.reduceSub, Nat.reduceMul, Nat.reduceLeDiff, exA, exB, exQ, ePR, ePS, eApplied, eCh, eParts]
  refine EFn.p ?_
  simp (config := { maxSteps := 4000000 }) only [SE, TF, KD, GE, eq_self, ne_eq, implies_true, forall_const, if_true, if_false, cond_true, cond_false, forall_eq, List.replicate, ↓reduceIte, Nat.reduceEqDiff, Nat.reduceLT, Nat.reduceAdd, Nat.reduceSub, Nat.reduceMul, Nat.reduceLeDiff, exA, exB, exQ, ePR, ePS, eApplied, eCh, eParts]
  have hc := hS0
  simp (config := { maxSteps := 4000000 }) only [SE, TF, KD, GE, eq_self, ne_eq, implies_true, forall_const, if_true, if_false, cond_true, cond_false, forall_eq, List.replicate, ↓reduceIte, Nat.reduceEqDiff, Nat.reduceLT, Nat.reduceAdd, Nat.reduceSub, Nat.reduceMul, Nat.reduceLeDiff, exA, exB, exQ, ePR, ePS, eApplied, eCh, eParts] at hc
  refine ECall.i hc ?_
  clear hc
  simp (config := { maxSteps := 4000000 }) only [SE, TF, KD, GE, eq_self, ne_eq, implies_true, forall_const, if_true, if_false, cond_true, cond_false, forall_eq, List.replicate, ↓reduceIte, Nat.reduceEqDiff, Nat.reduceLT, Nat.reduceAdd, Nat.reduceSub, Nat.reduceMul, Nat.reduceLeDiff, exA, exB, exQ, ePR, ePS, eApplied, eCh, eParts]
  refine EFn.p ?_
  simp (config := { maxSteps := 4000000 }) only [SE, TF, KD, GE, eq_self, ne_eq, implies_true, forall_const, if_true, if_false, cond_true, cond_false, forall_eq, List.replicate, ↓reduceIte, Nat.reduceEqDiff, Nat.reduceLT, Nat.reduceAdd, Nat.reduceSub, Nat.reduceMul, Nat.reduceLeDiff, exA, exB, exQ, ePR, ePS, eApplied, eCh, eParts]
  have hc := hG1
  simp (config := { maxSteps := 4000000 }) only [SE, TF, KD, GE, eq_self, ne_eq, implies_true, forall_const, if_true, if_false, cond_true, cond_false, forall_eq, List.replicate, ↓reduceIte, Nat.reduceEqDiff, Nat.reduceLT, Nat.reduceAdd, Nat.reduceSub, Nat.reduceMul, Nat.reduceLeDiff, exA, exB, exQ, ePR, ePS, eApplied, eCh, eParts] at hc
  refine ECall.i hc ?_
  clear hc
  simp (config := { maxSteps := 4000000 }) only [SE, TF, KD, GE, eq_self, ne_eq, implies_true, forall_const, if_true, if_false, cond_true, cond_false, forall_eq, List.replicate, ↓reduceIte, Nat.reduceEqDiff, Nat.reduceLT, Nat.reduceAdd, Nat.reduceSub, Nat.reduceMul, Nat.reduceLeDiff, exA, exB, exQ, ePR, ePS, eApplied, eCh, eParts]
  refine EFn.p ?_
  simp (config := { maxSteps := 4000000 }) only [SE, TF, KD, GE, eq_self, ne_eq, implies_true, forall_const, if_true, if_false, cond_true, cond_false, forall_eq, List.replicate, ↓reduceIte, Nat.reduceEqDiff, Nat.reduceLT, Nat.reduceAdd, Nat.reduceSub, Nat.reduceMul, Nat.reduceLeDiff, exA, exB, exQ, ePR, ePS, eApplied, eCh, eParts]
  have hc := hT1
  simp (config := { maxSteps := 4000000 }) only [SE, TF, KD, GE, eq_self, ne_eq, implies_true, forall_const, if_true, if_false, cond_true, cond_false, forall_eq, List.replicate, ↓reduceIte, Nat.reduceEqDiff, Nat.reduceLT, Nat.reduceAdd, Nat.reduceSub, Nat.reduceMul, Nat.reduceLeDiff, exA, exB, exQ, ePR, ePS, eApplied, eCh, eParts] at hc
  refine ECall.i hc ?_
  clear hc
  simp (config := { maxSteps := 4000000 }) only [SE, TF, KD, GE, eq_self, ne_eq, implies_true, forall_const, if_true, if_false, cond_true, cond_false, forall_eq, List.replicate, ↓reduceIte, Nat.reduceEqDiff, Nat.reduceLT, Nat.reduceAdd, Nat.reduceSub, Nat.reduceMul, Nat.reduceLeDiff, exA, exB, exQ, ePR, ePS, eApplied, eCh, eParts]
  refine EFn.p ?_
  simp (config := { maxSteps := 4000000 }) only [SE, TF, KD, GE, eq_self, ne_eq, implies_true, forall_const, if_true, if_false, cond_true, cond_false, forall_eq, List.replicate, ↓reduceIte, Nat.reduceEqDiff, Nat.reduceLT, Nat.reduceAdd, Nat.reduceSub, Nat.reduceMul, Nat.reduceLeDiff, exA, exB, exQ, ePR, ePS, eApplied, eCh, eParts]
  have hc := samePairs_self [(0, 0)]
  simp (config := { maxSteps := 4000000 }) only [SE, TF, KD, GE, eq_self, ne_eq, implies_true, forall_const, if_true, if_false, cond_true, cond_false, forall_eq, List.replicate, ↓reduceIte, Nat.reduceEqDiff, Nat.reduceLT, Nat.reduceAdd, Nat.reduceSub, Nat.reduceMul, Nat.reduceLeDiff, exA, exB, exQ, ePR, ePS, eApplied, eCh, eParts] at hc
  refine ECall.i hc ?_
  clear hc
  simp (config := { maxSteps := 4000000 }) only [SE, TF, KD, GE, eq_self, ne_eq, implies_true, forall_const, if_true, if_false, cond_true, cond_false, forall_eq, List.replicate, ↓reduceIte, Nat.reduceEqDiff, Nat.reduceLT, Nat.reduceAdd, Nat.reduceSub, Nat.reduceMul, Nat.reduceLeDiff, exA, exB, exQ, ePR, ePS, eApplied, eCh, eParts]
  refine EFn.p ?_
  simp (config := { maxSteps := 4000000 }) only [SE, TF, KD, GE, eq_self, ne_eq, implies_true, forall_const, if_true, if_false, cond_true, cond_false, forall_eq, List.replicate, ↓reduceIte, Nat.reduceEqDiff, Nat.reduceLT, Nat.reduceAdd, Nat.reduceSub, Nat.reduceMul, Nat.reduceLeDiff, exA, exB, exQ, ePR, ePS, eApplied, eCh, eParts]
  have hc := hG2
  simp (config := { maxSteps := 4000000 }) only [SE, TF, KD, GE, eq_self, ne_eq, implies_true, forall_const, if_true, if_false, cond_true, cond_false, forall_eq, List.replicate, ↓reduceIte, Nat.reduceEqDiff, Nat.reduceLT, Nat.reduceAdd, Nat.reduceSub, Nat.reduceMul, Nat.reduceLeDiff, exA, exB, exQ, ePR, ePS, eApplied, eCh, eParts] at hc
  refine ECall.i hc ?_
  clear hc
  simp (config := { maxSteps := 4000000 }) only [SE, TF, KD, GE, eq_self, ne_eq, implies_true, forall_const, if_true, if_false, cond_true, cond_false, forall_eq, List.replicate, ↓reduceIte, Nat.reduceEqDiff, Nat.reduceLT, Nat.reduceAdd, Nat.reduceSub, Nat.reduceMul, Nat.reduceLeDiff, exA, exB, exQ, ePR, ePS, eApplied, eCh, eParts]
  refine EFn.p ?_
  simp (config := { maxSteps := 4000000 }) only [SE, TF, KD, GE, eq_self, ne_eq, implies_true, forall_const, if_true, if_false, cond_true, cond_false, forall_eq, List.replicate, ↓reduceIte, Nat.reduceEqDiff, Nat.reduceLT, Nat.reduceAdd, Nat.reduceSub, Nat.reduceMul, Nat.reduceLeDiff, exA, exB, exQ, ePR, ePS, eApplied, eCh, eParts]
  have hc := hT2
  simp (config := { maxSteps := 4000000 }) only [SE, TF, KD, GE, eq_self, ne_eq, implies_true, forall_const, if_true, if_false, cond_true, cond_false, forall_eq, List.replicate, ↓reduceIte, Nat.reduceEqDiff, Nat.reduceLT, Nat.reduceAdd, Nat.reduceSub, Nat.reduceMul, Nat.reduceLeDiff, exA, exB, exQ, ePR, ePS, eApplied, eCh, eParts] at hc
  refine ECall.i hc ?_
  clear hc
  simp (config := { maxSteps := 4000000 }) only [SE, TF, KD, GE, eq_self, ne_eq, implies_true, forall_const, if_true, if_false, cond_true, cond_false, forall_eq, List.replicate, ↓reduceIte, Nat.reduceEqDiff, Nat.reduceLT, Nat.reduceAdd, Nat.reduceSub, Nat.reduceMul, Nat.reduceLeDiff, exA, exB, exQ, ePR, ePS, eApplied, eCh, eParts]
end Go.Proofs.Ytcamhcnjomddbaa

/-
  CONTRACTS: orders drawn from bytes.
-/
namespace Go.Proofs.Ytcamhcnjomddbaa
open Go.Aw
set_option maxRecDepth 100000
set_option maxHeartbeats 2000000
def shufK (ks : List Nat) (i : Nat) : Nat := if i < ks.length then ks.getD i 0 % (i + 1) else 0
def shuf (ks : List Nat) : Nat → List Nat
  | 0 => []
  | i + 1 => (shuf ks i).take (shufK ks i) ++ i :: (shuf ks i).drop (shufK ks i)
theorem shufK_le (ks : List Nat) (i : Nat) : shufK ks i ≤ i := by
  unfold shufK
  split
  · have := Nat.mod_lt (ks.getD i 0) (show 0 < i + 1 by omega); omega
  · omega
theorem shuf_perm (ks : List Nat) : ∀ n, (shuf ks n).Perm (List.range n)
  | 0 => List.Perm.refl _
  | n + 1 => by
    rw [List.range_succ, shuf]
    refine List.perm_middle.trans ?_
    rw [List.take_append_drop]
    exact ((shuf_perm ks n).cons n).trans (List.perm_append_singleton n (List.range n)).symm
theorem shuf_len (ks : List Nat) (n : Nat) : (shuf ks n).length = n := by have := (shuf_perm ks n).length_eq; simpa using this
def eNats (l : List Nat) : D := .sl (l.map fun x : Nat => [eI (x : Int)])
theorem shuffled_c (n : Nat) (ks : List Nat) (hn : n ≤ 2000000) (hk : ∀ b ∈ ks, b < 256) : FnP Try.prog 47 [eI n, eBytes ks] (.d (eNats (shuf ks n))) [] := by
  refine FnP.of_eC (own := []) (fun id => if id = 1 then [.frz 8] else if id = 8 then [.frz 30] else if id = 2008 then [.ord ⟨[(0, none), (1, none), (2, none), (3, none), (5, none), (6, none), (8, none), (9, none), (10, none), (4, some [5, 6, 8, 9, 10]), (7, some [1, 2, 8, 9, 10]), (11, some [0, 1, 2, 3, 5]), (12, some [])]⟩] else []) mixed Try.func47 rfl Try.call47 Try.ntmps47 (Nat.le_of_ble_eq_true rfl) Try.results47 (fun hok => ?_)
  obtain ⟨hlk, _⟩ := ok_map (okL_cons (okL_cons hok).2).1
  simp (config := { maxSteps := 4000000 }) only [SE, TF, KD, GE, eq_self, ne_eq, implies_true, forall_const, if_true, if_false, cond_true, cond_false, forall_eq, List.replicate, ↓reduceIte, Nat.reduceEqDiff, Nat.reduceLT, Nat.reduceAdd, Nat.reduceSub, Nat.reduceMul, Nat.reduceLeDiff, eBytes, eByte]
  refine eloop (fun id => if id = 1 then [.frz 8] else if id = 8 then [.frz 30] else if id = 2008 then [.ord ⟨[(0, none), (1, none), (2, none), (3, none), (5, none), (6, none), (8, none), (9, none), (10, none), (4, some [5, 6, 8, 9, 10]), (7, some [1, 2, 8, 9, 10]), (11, some [0, 1, 2, 3, 5]), (12, some [])]⟩] else []) mixed n (fun i => True) (fun i => ([(0, .d (eI n)), (1, .d (eBytes ks)), (5, .d (eNats (shuf ks i))), (6, .d (eI i))], [])) ?_ ?_ ?_ (fun i hi hI => ?_)
  · trivial
  · simp [SE, TF, KD, GE, eq_self, ne_eq, implies_true, forall_const, if_true, if_false, cond_true, cond_false, forall_eq, List.replicate, ↓reduceIte, Nat.reduceEqDiff, Nat.reduceLT, Nat.reduceAdd, Nat.reduceSub, Nat.reduceMul, Nat.reduceLeDiff, shuf, eNats, eBytes, eByte]
  · simp [SE, TF, KD, GE, eq_self, ne_eq, implies_true, forall_const, if_true, if_false, cond_true, cond_false, forall_eq, List.replicate, ↓reduceIte, Nat.reduceEqDiff, Nat.reduceLT, Nat.reduceAdd, Nat.reduceSub, Nat.reduceMul, Nat.reduceLeDiff]
  rcases Nat.lt_or_ge i n with h | h
  · have hw := wrap_succ (show i < 9223372036854775807 by omega)
    have hsl := shuf_len ks i
    have hkl := shufK_le ks i
    obtain ⟨o, ho⟩ : ∃ o, shuf ks i = o := ⟨_, rfl⟩
    obtain ⟨k, hkk⟩ : ∃ k, shufK ks i = k := ⟨_, rfl⟩
    rw [ho] at hsl
    rw [hkk] at hkl
    have hnext : shuf ks (i + 1) = o.take k ++ i :: o.drop k := by rw [shuf, ho, hkk]
    have h0 : Int.toNat 0 = 0 := rfl
    have e1 : List.take k (List.map (fun x : Nat => [D.lit (Value.int IntKind.i64 (x : Int))]) o) = (o.take k).map fun x : Nat => [D.lit (Value.int IntKind.i64 (x : Int))] := List.map_take.symm
    have e2 : List.take (o.length - k) (List.drop k (List.map (fun x : Nat => [D.lit (Value.int IntKind.i64 (x : Int))]) o)) = (o.drop k).map fun x : Nat => [D.lit (Value.int IntKind.i64 (x : Int))] := by
      rw [List.take_of_length_le (by simp), ← List.map_drop]
    have hrow : ∀ l : List Nat, rowsOk 1 (l.map fun x : Nat => [D.lit (Value.int IntKind.i64 (x : Int))]) := by
      intro l e he
      obtain ⟨q, _, rfl⟩ := List.mem_map.1 he
      exact ⟨rfl, fun x hx => by simp at hx; subst hx; rfl⟩
    have hrow1 : ∀ l : List Nat, ∀ e, e ∈ (l.map fun x : Nat => [D.lit (Value.int IntKind.i64 (x : Int))]) → e.length = 1 := by
      intro l e he; obtain ⟨q, _, rfl⟩ := List.mem_map.1 he; rfl
    have hll : ((o.take k).length + 1) + (o.drop k).length = i + 1 := by simp; omega
    rcases Nat.lt_or_ge i ks.length with h1 | h1
    · have hb : ks[i] < 256 := hk _ (List.getElem_mem h1)
      have hk1 : IntKind.i64.wrap ((ks[i] : Nat) : Int) = ((ks[i] : Nat) : Int) := wrap_i (by omega)
      have hk2 : Int.tmod ((ks[i] : Nat) : Int) ((i + 1 : Nat) : Int) = (k : Int) := by
        rw [← hkk, shufK, if_pos h1]
        have : ks.getD i 0 = ks[i] := by simp [List.getD, h1]
        rw [this]; rfl
      simp (config := { maxSteps := 4000000 }) only [SE, TF, KD, GE, eq_self, ne_eq, implies_true, forall_const, if_true, if_false, cond_true, cond_false, forall_eq, List.replicate, ↓reduceIte, Nat.reduceEqDiff, Nat.reduceLT, Nat.reduceAdd, Nat.reduceSub, Nat.reduceMul, Nat.reduceLeDiff, eBytes, eByte, eNats, dec_lt h, dec_lt h1, getD_map h1, lt_int h1, hk1, hw, hk2, ho, h0, Nat.sub_zero, e1, e2, hnext]
      have hc : List.map (fun x : Nat => [D.lit (Value.int IntKind.i64 (x : Int))]) (o.take k) ++ [[D.lit (Value.int IntKind.i64 (i : Int))]] ++ List.map (fun x : Nat => [D.lit (Value.int IntKind.i64 (x : Int))]) (o.drop k) = List.map (fun x : Nat => [D.lit (Value.int IntKind.i64 (x : Int))]) (o.take k ++ i :: o.drop k) := by simp
      refine ⟨by omega, by kernel_rfl, ⟨hrow1 _, by omega, by omega, by omega, by omega⟩, ⟨hrow1 _, by omega, by omega, by omega⟩, ⟨hrow _, by simp; omega, by simp; omega⟩, ⟨hrow1 _, by omega, by omega, by omega⟩, ⟨by simp; omega, by simp; omega⟩, ⟨hrow1 _, by omega, by omega, by omega⟩, ⟨hrow _, ⟨by simp; omega, by simp; omega⟩, by simp⟩, ⟨hrow1 _, by omega, by omega, by omega, by omega⟩, h, ?_⟩
      rw [if_pos (by simp only [List.length_append, List.length_map, List.length_singleton]), hc]
    · have hk3 : k = 0 := by rw [← hkk, shufK, if_neg (by omega)]
      simp (config := { maxSteps := 4000000 }) only [SE, TF, KD, GE, eq_self, ne_eq, implies_true, forall_const, if_true, if_false, cond_true, cond_false, forall_eq, List.replicate, ↓reduceIte, Nat.reduceEqDiff, Nat.reduceLT, Nat.reduceAdd, Nat.reduceSub, Nat.reduceMul, Nat.reduceLeDiff, eBytes, eByte, eNats, dec_lt h, dec_ge h1, hw, ho, h0, Nat.sub_zero, e1, e2, hnext]
      refine ⟨by kernel_rfl, ⟨hrow1 _, by omega, by omega, by omega, by omega⟩, ⟨hrow1 _, by omega, by omega, by omega⟩, ⟨hrow1 _, by omega, by omega, by omega⟩, ⟨hrow1 _, by omega, by omega, by omega⟩, ⟨?_, by simp; omega, by simp; omega⟩, ⟨hrow1 _, by omega, by omega, by omega, by omega⟩, h, ?_⟩
      · rw [List.take_of_length_le (by simp)]; exact hrow o
      · rw [if_pos (by simp; omega), List.take_of_length_le (by simp), hk3]
        simp
  · have : i = n := by omega
    subst this
    simp (config := { maxSteps := 4000000 }) only [SE, TF, KD, GE, eq_self, ne_eq, implies_true, forall_const, if_true, if_false, cond_true, cond_false, forall_eq, List.replicate, ↓reduceIte, Nat.reduceEqDiff, Nat.reduceLT, Nat.reduceAdd, Nat.reduceSub, Nat.reduceMul, Nat.reduceLeDiff, eBytes, eByte, eNats, dec_ge h]
theorem shuffledW_c (n : Nat) (ks : List Nat) (hn : n ≤ 2000000) (hk : ∀ b ∈ ks, b < 256) : FnP Try.prog 33 [eI n, eBytes ks] (.d (eNats (shuf ks n))) [] := by
  refine FnP.of_eC (own := []) (fun id => []) mixed Try.func33 rfl Try.call33 Try.ntmps33 (Nat.le_of_ble_eq_true rfl) Try.results33 (fun hok => ?_)
  simp (config := { maxSteps := 4000000 }) only [SE, TF, KD, GE, eq_self, ne_eq, implies_true, forall_const, if_true, if_false, cond_true, cond_false, forall_eq, List.replicate, ↓reduceIte, Nat.reduceEqDiff, Nat.reduceLT, Nat.reduceAdd, Nat.reduceSub, Nat.reduceMul, Nat.reduceLeDiff, eBytes, eByte]
  refine EFn.p ?_
  simp (config := { maxSteps := 4000000 }) only [SE, TF, KD, GE, eq_self, ne_eq, implies_true, forall_const, if_true, if_false, cond_true, cond_false, forall_eq, List.replicate, ↓reduceIte, Nat.reduceEqDiff, Nat.reduceLT, Nat.reduceAdd, Nat.reduceSub, Nat.reduceMul, Nat.reduceLeDiff, eBytes, eByte, eNats]
  have hc := shuffled_c n ks hn hk
  simp (config := { maxSteps := 4000000 }) only [SE, TF, KD, GE, eq_self, ne_eq, implies_true, forall_const, if_true, if_false, cond_true, cond_false, forall_eq, List.replicate, ↓reduceIte, Nat.reduceEqDiff, Nat.reduceLT, Nat.reduceAdd, Nat.reduceSub, Nat.reduceMul, Nat.reduceLeDiff, eBytes, eByte, eNats] at hc
  refine ECall.i hc ?_
  clear hc
  simp (config := { maxSteps := 4000000 }) only [SE, TF, KD, GE, eq_self, ne_eq, implies_true, forall_const, if_true, if_false, cond_true, cond_false, forall_eq, List.replicate, ↓reduceIte, Nat.reduceEqDiff, Nat.reduceLT, Nat.reduceAdd, Nat.reduceSub, Nat.reduceMul, Nat.reduceLeDiff, eNats]
end Go.Proofs.Ytcamhcnjomddbaa

/-
  CONTRACTS: words counted; lists of lists compared; what the law takes for small.
-/
namespace Go.Proofs.Ytcamhcnjomddbaa
open Go.Aw
set_option maxRecDepth 100000
set_option maxHeartbeats 2000000
def rowCnt (r : List (List Nat)) : Nat := r.length + (r.map List.length).sum
def cntF (F : Frames) : Nat := F.length + (F.map rowCnt).sum
theorem sum_take_le : ∀ (l : List Nat) (i : Nat), (l.take i).sum ≤ l.sum
  | [], _ => by simp
  | _ :: _, 0 => by simp
  | x :: l, i + 1 => by have := sum_take_le l i; simp only [List.take_succ_cons, List.sum_cons]; omega
theorem sum_take_step (l : List Nat) (i : Nat) (h : i < l.length) : (l.take (i + 1)).sum = (l.take i).sum + l[i] := by
  rw [List.take_succ_eq_append_getElem h, List.sum_append]; simp
def cntTo (F : Frames) (i : Nat) : Nat := F.length + ((F.map rowCnt).take i).sum
def cntRow (F : Frames) (i j : Nat) : Nat := cntTo F i + (F.getD i []).length + (((F.getD i []).map List.length).take j).sum
theorem count_c (F : Frames) (hb : cntF F ≤ 2000000000) : FnP Try.prog 34 [eSet F] (.d (eI (cntF F))) [] := by
  refine FnP.of_eC (own := []) (fun id => []) mixed Try.func34 rfl Try.call34 Try.ntmps34 (Nat.le_of_ble_eq_true rfl) Try.results34 (fun hok => ?_)
  have hF : F.length ≤ cntF F := by unfold cntF; omega
  simp (config := { maxSteps := 4000000 }) only [SE, TF, KD, GE, eq_self, ne_eq, implies_true, forall_const, if_true, if_false, cond_true, cond_false, forall_eq, List.replicate, ↓reduceIte, Nat.reduceEqDiff, Nat.reduceLT, Nat.reduceAdd, Nat.reduceSub, Nat.reduceMul, Nat.reduceLeDiff]
  refine eloop (fun _ => []) mixed F.length (fun i => True) (fun i => ([(0, .d (eSet F)), (3, .d (eI (cntTo F i))), (4, .d (eI i))], [])) ?_ ?_ ?_ (fun i hi hI => ?_)
  · trivial
  · simp [SE, TF, KD, GE, eq_self, ne_eq, implies_true, forall_const, if_true, if_false, cond_true, cond_false, forall_eq, List.replicate, ↓reduceIte, Nat.reduceEqDiff, Nat.reduceLT, Nat.reduceAdd, Nat.reduceSub, Nat.reduceMul, Nat.reduceLeDiff, cntTo]
  · simp [SE, TF, KD, GE, eq_self, ne_eq, implies_true, forall_const, if_true, if_false, cond_true, cond_false, forall_eq, List.replicate, ↓reduceIte, Nat.reduceEqDiff, Nat.reduceLT, Nat.reduceAdd, Nat.reduceSub, Nat.reduceMul, Nat.reduceLeDiff]
  rcases Nat.lt_or_ge i F.length with h | h
  · have hw := wrap_succ (show i < 9223372036854775807 by omega)
    have e1 : F.getD i [] = F[i] := by simp [List.getD, h]
    have hst := sum_take_step (F.map rowCnt) i (by simpa using h)
    have hle := sum_take_le (F.map rowCnt) (i + 1)
    rw [List.getElem_map] at hst
    have hrow : rowCnt F[i] = F[i].length + (F[i].map List.length).sum := rfl
    have hto : cntTo F (i + 1) = cntTo F i + rowCnt F[i] := by unfold cntTo; rw [hst]; omega
    have htole : cntTo F (i + 1) ≤ cntF F := by unfold cntTo cntF; omega
    have ha : IntKind.i64.wrap ((cntTo F i : Int) + (F[i].length : Int)) = ((cntRow F i 0 : Nat) : Int) := by
      unfold cntRow
      rw [e1, wrap_id (by omega) (by omega)]; simp
    simp (config := { maxSteps := 4000000 }) only [SE, TF, KD, GE, eq_self, ne_eq, implies_true, forall_const, if_true, if_false, cond_true, cond_false, forall_eq, List.replicate, ↓reduceIte, Nat.reduceEqDiff, Nat.reduceLT, Nat.reduceAdd, Nat.reduceSub, Nat.reduceMul, Nat.reduceLeDiff, dec_lt h, getD_map h, lt_int h, ha]
    refine eloop (fun _ => []) mixed F[i].length (fun j => True) (fun j => ([(0, .d (eSet F)), (3, .d (eI (cntRow F i j))), (4, .d (eI i)), (5, .d (eI j))], [])) ?_ ?_ ?_ (fun j hj hJ => ?_)
    · trivial
    · simp [SE, TF, KD, GE, eq_self, ne_eq, implies_true, forall_const, if_true, if_false, cond_true, cond_false, forall_eq, List.replicate, ↓reduceIte, Nat.reduceEqDiff, Nat.reduceLT, Nat.reduceAdd, Nat.reduceSub, Nat.reduceMul, Nat.reduceLeDiff]
    · simp [SE, TF, KD, GE, eq_self, ne_eq, implies_true, forall_const, if_true, if_false, cond_true, cond_false, forall_eq, List.replicate, ↓reduceIte, Nat.reduceEqDiff, Nat.reduceLT, Nat.reduceAdd, Nat.reduceSub, Nat.reduceMul, Nat.reduceLeDiff]
    have hsle := sum_take_le (F[i].map List.length) j
    rcases Nat.lt_or_ge j F[i].length with h' | h'
    · have hw' := wrap_succ (show j < 9223372036854775807 by omega)
      have hst2 := sum_take_step (F[i].map List.length) j (by simpa using h')
      have hle2 := sum_take_le (F[i].map List.length) (j + 1)
      rw [List.getElem_map] at hst2
      have hb2 : IntKind.i64.wrap ((cntRow F i j : Int) + (F[i][j].length : Int)) = ((cntRow F i (j + 1) : Nat) : Int) := by
        unfold cntRow
        rw [e1, hst2, wrap_id (by omega) (by omega)]; omega
      simp (config := { maxSteps := 4000000 }) only [SE, TF, KD, GE, eq_self, ne_eq, implies_true, forall_const, if_true, if_false, cond_true, cond_false, forall_eq, List.replicate, ↓reduceIte, Nat.reduceEqDiff, Nat.reduceLT, Nat.reduceAdd, Nat.reduceSub, Nat.reduceMul, Nat.reduceLeDiff, dec_lt h, getD_map h, lt_int h, dec_lt h', getD_map h', lt_int h', hb2, hw']
      exact h'
    · have hfin : cntRow F i j = cntTo F (i + 1) := by
        unfold cntRow
        rw [e1, List.take_of_length_le (by simpa using h'), hto, hrow]; omega
      simp (config := { maxSteps := 4000000 }) only [SE, TF, KD, GE, eq_self, ne_eq, implies_true, forall_const, if_true, if_false, cond_true, cond_false, forall_eq, List.replicate, ↓reduceIte, Nat.reduceEqDiff, Nat.reduceLT, Nat.reduceAdd, Nat.reduceSub, Nat.reduceMul, Nat.reduceLeDiff, dec_lt h, getD_map h, lt_int h, dec_ge h', hw, hfin]
      exact h
  · have hfin : cntTo F i = cntF F := by
      unfold cntTo cntF
      rw [List.take_of_length_le (by simpa using h)]
    simp (config := { maxSteps := 4000000 }) only [SE, TF, KD, GE, eq_self, ne_eq, implies_true, forall_const, if_true, if_false, cond_true, cond_false, forall_eq, List.replicate, ↓reduceIte, Nat.reduceEqDiff, Nat.reduceLT, Nat.reduceAdd, Nat.reduceSub, Nat.reduceMul, Nat.reduceLeDiff, dec_ge h, hfin]

def samePts (a b : List (List Patch) × Int) : Bool := a.2 == b.2 && decide (a.1 = b.1)
theorem sameParts_c (a b : List (List Patch) × Int) : FnP Try.prog 23 [ePS a, ePS b] (.d (eB (samePts a b))) [] := by
  refine FnP.of_eC (own := []) (fun id => []) mixed Try.func23 rfl Try.call23 Try.ntmps23 (Nat.le_of_ble_eq_true rfl) Try.results23 (fun hok => ?_)
  have hok1 := (okL_cons hok).1
  simp only [ePS, D.ok] at hok1
  obtain ⟨hla, _⟩ := ok_map (okL_cons hok1).1
  by_cases h1 : a.2 = b.2
  · have h1' : (a.2 != b.2) = false := by simp [h1]
    have h1'' : (a.2 == b.2) = true := by simp [h1]
    by_cases h2 : a.1.length = b.1.length
    · have h2' : ((a.1.length : Int) != (b.1.length : Int)) = false := by simp [h2]
      simp (config := { maxSteps := 4000000 }) only [SE, TF, KD, GE, eq_self, ne_eq, implies_true, forall_const, if_true, if_false, cond_true, cond_false, forall_eq, List.replicate, ↓reduceIte, Nat.reduceEqDiff, Nat.reduceLT, Nat.reduceAdd, Nat.reduceSub, Nat.reduceMul, Nat.reduceLeDiff, ePS, eParts, eCh, h1', h2']
      refine eloop (fun _ => []) mixed a.1.length (fun i => a.1.take i = b.1.take i) (fun i => ([(2, .bp 2 0), (3, .bp 3 0), (5, .d (eI i))], [(2, .box [.d (eParts a.1), .d (eI a.2)]), (3, .box [.d (eParts b.1), .d (eI b.2)])])) ?_ ?_ ?_ (fun i hi hI => ?_)
      · simp
      · simp [SE, TF, KD, GE, eq_self, ne_eq, implies_true, forall_const, if_true, if_false, cond_true, cond_false, forall_eq, List.replicate, ↓reduceIte, Nat.reduceEqDiff, Nat.reduceLT, Nat.reduceAdd, Nat.reduceSub, Nat.reduceMul, Nat.reduceLeDiff]
      · simp [SE, TF, KD, GE, eq_self, ne_eq, implies_true, forall_const, if_true, if_false, cond_true, cond_false, forall_eq, List.replicate, ↓reduceIte, Nat.reduceEqDiff, Nat.reduceLT, Nat.reduceAdd, Nat.reduceSub, Nat.reduceMul, Nat.reduceLeDiff, eParts, eCh]
      rcases Nat.lt_or_ge i a.1.length with h | h
      · have hw := wrap_succ (show i < 9223372036854775807 by omega)
        have hB : i < b.1.length := by omega
        have hsp := samePatches_c a.1[i] b.1[i]
        simp only [SE, TF, KD, GE, eq_self, ne_eq, implies_true, forall_const, if_true, if_false, cond_true, cond_false, forall_eq, List.replicate, ↓reduceIte, Nat.reduceEqDiff, Nat.reduceLT, Nat.reduceAdd, Nat.reduceSub, Nat.reduceMul, Nat.reduceLeDiff] at hsp
        simp (config := { maxSteps := 4000000 }) only [SE, TF, KD, GE, eq_self, ne_eq, implies_true, forall_const, if_true, if_false, cond_true, cond_false, forall_eq, List.replicate, ↓reduceIte, Nat.reduceEqDiff, Nat.reduceLT, Nat.reduceAdd, Nat.reduceSub, Nat.reduceMul, Nat.reduceLeDiff, eParts, eCh, dec_lt h, getD_map h, lt_int h, getD_map hB, lt_int hB]
        refine ⟨by kernel_rfl, ECall'.i hsp ?_⟩
        simp (config := { maxSteps := 4000000 }) only [SE, TF, KD, GE, eq_self, ne_eq, implies_true, forall_const, if_true, if_false, cond_true, cond_false, forall_eq, List.replicate, ↓reduceIte, Nat.reduceEqDiff, Nat.reduceLT, Nat.reduceAdd, Nat.reduceSub, Nat.reduceMul, Nat.reduceLeDiff, eParts, eCh, hw]
        refine iteI (fun h3 => ?_) (fun h3 => ⟨h, take_step h hB hI (by simpa using h3)⟩)
        have : samePts a b = false := by
          unfold samePts
          rw [h1'', Bool.true_and, decide_eq_false]
          intro e
          have := congrArg (fun l => l[i]?) e
          simp [h, hB] at this
          simp [this] at h3
        rw [this]
      · have : samePts a b = true := by
          unfold samePts
          rw [h1'', Bool.true_and, decide_eq_true (take_end h h2 hI)]
        simp (config := { maxSteps := 4000000 }) only [SE, TF, KD, GE, eq_self, ne_eq, implies_true, forall_const, if_true, if_false, cond_true, cond_false, forall_eq, List.replicate, ↓reduceIte, Nat.reduceEqDiff, Nat.reduceLT, Nat.reduceAdd, Nat.reduceSub, Nat.reduceMul, Nat.reduceLeDiff, eParts, eCh, dec_ge h, this]
    · have h2' : ((a.1.length : Int) != (b.1.length : Int)) = true := by simp; omega
      have : samePts a b = false := by
        unfold samePts
        rw [h1'', Bool.true_and, decide_eq_false]
        intro e; exact h2 (by rw [e])
      simp (config := { maxSteps := 4000000 }) only [SE, TF, KD, GE, eq_self, ne_eq, implies_true, forall_const, if_true, if_false, cond_true, cond_false, forall_eq, List.replicate, ↓reduceIte, Nat.reduceEqDiff, Nat.reduceLT, Nat.reduceAdd, Nat.reduceSub, Nat.reduceMul, Nat.reduceLeDiff, ePS, eParts, eCh, h1', h2', this]
  · have h1' : (a.2 != b.2) = true := by simp [h1]
    have : samePts a b = false := by
      unfold samePts
      have : (a.2 == b.2) = false := by simp [h1]
      rw [this, Bool.false_and]
    simp (config := { maxSteps := 4000000 }) only [SE, TF, KD, GE, eq_self, ne_eq, implies_true, forall_const, if_true, if_false, cond_true, cond_false, forall_eq, List.replicate, ↓reduceIte, Nat.reduceEqDiff, Nat.reduceLT, Nat.reduceAdd, Nat.reduceSub, Nat.reduceMul, Nat.reduceLeDiff, ePS, eParts, eCh, h1', this]
end Go.Proofs.Ytcamhcnjomddbaa
