/-
  CONTRACTS of the functions that the law reaches, and plain laws on what they compute. Conditions: those of each law.
-/
import Derived.Test.YtcamhcnjomddbaaK2
set_option linter.unusedSimpArgs false
set_option linter.unusedVariables false
/-
  CONTRACTS: differences, in the reference; small arguments.
-/
namespace Go.Proofs.Ytcamhcnjomddbaa
open Go.Aw
set_option maxRecDepth 100000
set_option maxHeartbeats 2000000
theorem to_k {B : Frames} {i j k : Nat} (h1 : i < B.length) (h2 : j < B[i].length) (h3 : k < B[i][j].length) : wordsTo B i j (k + 1) = wordsTo B i j k ++ [(⟨i, j, k⟩, B[i][j][k])] := by
  have hA : B.getD i [] = B[i] := by simp [List.getD, h1]
  have hB : B[i].getD j [] = B[i][j] := by simp [List.getD, h2]
  simp only [wordsTo, hA, hB, wordsF_step i j B[i][j] k h3, List.append_assoc]
theorem to_j {B : Frames} {i j : Nat} (h1 : i < B.length) (h2 : j < B[i].length) : wordsTo B i (j + 1) 0 = wordsTo B i j B[i][j].length := by
  have hA : B.getD i [] = B[i] := by simp [List.getD, h1]
  have hB : B[i].getD j [] = B[i][j] := by simp [List.getD, h2]
  simp only [wordsTo, hA, hB, wordsR_step i B[i] j h2, List.take_length, List.take_zero]
  simp [wordsF]
theorem to_i {B : Frames} {i : Nat} (h1 : i < B.length) : wordsTo B (i + 1) 0 0 = wordsTo B i B[i].length 0 := by
  have hA : B.getD i [] = B[i] := by simp [List.getD, h1]
  simp only [wordsTo, hA, wordsA_step B i h1, List.take_length, List.take_zero]
  simp [wordsF, wordsR]
theorem to_end (B : Frames) : wordsTo B B.length 0 0 = wordsA B := by
  simp [wordsTo, wordsF, wordsR]
theorem to_zero (B : Frames) : wordsTo B 0 0 0 = [] := by
  simp [wordsTo, wordsF, wordsR, wordsA]
theorem diffL_app (now : Frames) (l m : List (Pos × Nat)) : diffL now (l ++ m) = diffL now l ++ diffL now m := by simp [diffL]
def outN (now : Frames) (l : List (Pos × Nat)) : List (List D) := (diffL now l).map ePatch
theorem outN_len (now : Frames) (l : List (Pos × Nat)) : (outN now l).length = (diffL now l).length := by simp [outN]
theorem diffIn_c (old now : Frames) (hs : small old) (hn : nWords old ≤ 2000000) : FnP Try.prog 15 [eSet old, eSet now] (.d (ePR (diffR old now))) [] := by
  refine FnP.of_eC (own := []) (fun id => if id = 3 then [.adB 5 0 90 65 4] else []) mixed Try.func15 rfl Try.call15 Try.ntmps15 (Nat.le_of_ble_eq_true rfl) Try.results15 (fun hok => ?_)
  have hsc := shape_c old now
  simp only [SE, TF, KD, GE, eq_self, ne_eq, implies_true, forall_const, if_true, if_false, cond_true, cond_false, forall_eq, List.replicate, ↓reduceIte, Nat.reduceEqDiff, Nat.reduceLT, Nat.reduceAdd, Nat.reduceSub, Nat.reduceMul, Nat.reduceLeDiff] at hsc
  have hlo := hs.1
  simp (config := { maxSteps := 4000000 }) only [SE, TF, KD, GE, eq_self, ne_eq, implies_true, forall_const, if_true, if_false, cond_true, cond_false, forall_eq, List.replicate, ↓reduceIte, Nat.reduceEqDiff, Nat.reduceLT, Nat.reduceAdd, Nat.reduceSub, Nat.reduceMul, Nat.reduceLeDiff]
  refine EFn.p ?_
  simp (config := { maxSteps := 4000000 }) only [SE, TF, KD, GE, eq_self, ne_eq, implies_true, forall_const, if_true, if_false, cond_true, cond_false, forall_eq, List.replicate, ↓reduceIte, Nat.reduceEqDiff, Nat.reduceLT, Nat.reduceAdd, Nat.reduceSub, Nat.reduceMul, Nat.reduceLeDiff]
  refine ECall.i (hsc) ?_
  by_cases hsh : shape old = shape now
  · have hR : diffR old now = (diffL now (wordsA old), 0) := by unfold diffR; rw [if_pos hsh]
    rw [hR]
    simp (config := { maxSteps := 4000000 }) only [SE, TF, KD, GE, eq_self, ne_eq, implies_true, forall_const, if_true, if_false, cond_true, cond_false, forall_eq, List.replicate, ↓reduceIte, Nat.reduceEqDiff, Nat.reduceLT, Nat.reduceAdd, Nat.reduceSub, Nat.reduceMul, Nat.reduceLeDiff, hsh, decide_true]
    refine eloop (fun _ => []) mixed old.length (fun i => True) (fun i => ([(0, .d (eSet old)), (1, .d (eSet now)), (4, .bp 4 0), (5, .bp 5 0), (6, .d (eI i))], [(4, .box [.nils, .d (eI 0)]), (5, .box [.ar 90 (outN now (wordsTo old i 0 0)).length, .d (eI 0)]), (90, .arr 65 4 .flat (outN now (wordsTo old i 0 0)))])) ?_ ?_ ?_ (fun i hi hI => ?_)
    · trivial
    · simp [SE, TF, KD, GE, eq_self, ne_eq, implies_true, forall_const, if_true, if_false, cond_true, cond_false, forall_eq, List.replicate, ↓reduceIte, Nat.reduceEqDiff, Nat.reduceLT, Nat.reduceAdd, Nat.reduceSub, Nat.reduceMul, Nat.reduceLeDiff]
    · simp [SE, TF, KD, GE, eq_self, ne_eq, implies_true, forall_const, if_true, if_false, cond_true, cond_false, forall_eq, List.replicate, ↓reduceIte, Nat.reduceEqDiff, Nat.reduceLT, Nat.reduceAdd, Nat.reduceSub, Nat.reduceMul, Nat.reduceLeDiff, to_zero, outN, diffL]
    rcases Nat.lt_or_ge i old.length with h1 | h1
    · have hw1 := wrap_succ (show i < 9223372036854775807 by omega)
      obtain ⟨hlr, hlw⟩ := hs.2 old[i] (List.getElem_mem h1)
      simp (config := { maxSteps := 4000000 }) only [SE, TF, KD, GE, eq_self, ne_eq, implies_true, forall_const, if_true, if_false, cond_true, cond_false, forall_eq, List.replicate, ↓reduceIte, Nat.reduceEqDiff, Nat.reduceLT, Nat.reduceAdd, Nat.reduceSub, Nat.reduceMul, Nat.reduceLeDiff, dec_lt h1]
      refine eloop (fun _ => []) mixed old[i].length (fun j => True) (fun j => ([(0, .d (eSet old)), (1, .d (eSet now)), (4, .bp 4 0), (5, .bp 5 0), (6, .d (eI i)), (7, .d (eI j))], [(4, .box [.nils, .d (eI 0)]), (5, .box [.ar 90 (outN now (wordsTo old i j 0)).length, .d (eI 0)]), (90, .arr 65 4 .flat (outN now (wordsTo old i j 0)))])) ?_ ?_ ?_ (fun j hj hJ => ?_)
      · trivial
      · simp [SE, TF, KD, GE, eq_self, ne_eq, implies_true, forall_const, if_true, if_false, cond_true, cond_false, forall_eq, List.replicate, ↓reduceIte, Nat.reduceEqDiff, Nat.reduceLT, Nat.reduceAdd, Nat.reduceSub, Nat.reduceMul, Nat.reduceLeDiff]
      · simp [SE, TF, KD, GE, eq_self, ne_eq, implies_true, forall_const, if_true, if_false, cond_true, cond_false, forall_eq, List.replicate, ↓reduceIte, Nat.reduceEqDiff, Nat.reduceLT, Nat.reduceAdd, Nat.reduceSub, Nat.reduceMul, Nat.reduceLeDiff]
      rcases Nat.lt_or_ge j old[i].length with h2 | h2
      · have hw2 := wrap_succ (show j < 9223372036854775807 by omega)
        have hlk := hlw old[i][j] (List.getElem_mem h2)
        simp (config := { maxSteps := 4000000 }) only [SE, TF, KD, GE, eq_self, ne_eq, implies_true, forall_const, if_true, if_false, cond_true, cond_false, forall_eq, List.replicate, ↓reduceIte, Nat.reduceEqDiff, Nat.reduceLT, Nat.reduceAdd, Nat.reduceSub, Nat.reduceMul, Nat.reduceLeDiff, dec_lt h1, getD_map h1, lt_int h1, dec_lt h2]
        refine eloop (fun id => []) mixed old[i][j].length (fun k => True) (fun k => ([(0, .d (eSet old)), (1, .d (eSet now)), (4, .bp 4 0), (5, .bp 5 0), (6, .d (eI i)), (7, .d (eI j)), (8, .d (eI k))], [(4, .box [.nils, .d (eI 0)]), (5, .box [.ar 90 (outN now (wordsTo old i j k)).length, .d (eI 0)]), (90, .arr 65 4 .flat (outN now (wordsTo old i j k)))])) ?_ ?_ ?_ (fun k hk hK => ?_)
        · trivial
        · simp [SE, TF, KD, GE, eq_self, ne_eq, implies_true, forall_const, if_true, if_false, cond_true, cond_false, forall_eq, List.replicate, ↓reduceIte, Nat.reduceEqDiff, Nat.reduceLT, Nat.reduceAdd, Nat.reduceSub, Nat.reduceMul, Nat.reduceLeDiff]
        · simp [SE, TF, KD, GE, eq_self, ne_eq, implies_true, forall_const, if_true, if_false, cond_true, cond_false, forall_eq, List.replicate, ↓reduceIte, Nat.reduceEqDiff, Nat.reduceLT, Nat.reduceAdd, Nat.reduceSub, Nat.reduceMul, Nat.reduceLeDiff]
        rcases Nat.lt_or_ge k old[i][j].length with h3 | h3
        · have hw3 := wrap_succ (show k < 9223372036854775807 by omega)
          obtain ⟨b1, b2, b3⟩ := shape_in hsh h1 h2 h3
          have hst := to_k h1 h2 h3
          have hwa : wordAt now ⟨i, j, k⟩ = now[i][j][k] := by simp [wordAt, List.getD, b1, b2, b3]
          have hxor := xorU_N old[i][j][k] now[i][j][k]
          unfold xorU at hxor
          have hlen : (diffL now (wordsTo old i j k)).length ≤ 2000000 := by
            have a1 := diffL_le now (wordsTo old i j k)
            have a2 := (wordsTo_pre old i j k h1 h2).length_le
            rw [wordsA_len] at a2
            omega
          by_cases hz : xorN old[i][j][k] now[i][j][k] = 0
          · have hz' : (((xorN old[i][j][k] now[i][j][k] : Nat) : Int) != 0) = false := by simp [hz]
            have hout : outN now (wordsTo old i j (k + 1)) = outN now (wordsTo old i j k) := by
              rw [hst, outN, diffL_app]
              simp [diffL, diff1, hwa, hz, outN]
            simp (config := { maxSteps := 4000000 }) only [SE, TF, KD, GE, eq_self, ne_eq, implies_true, forall_const, if_true, if_false, cond_true, cond_false, forall_eq, List.replicate, ↓reduceIte, Nat.reduceEqDiff, Nat.reduceLT, Nat.reduceAdd, Nat.reduceSub, Nat.reduceMul, Nat.reduceLeDiff, dec_lt h1, getD_map h1, lt_int h1, dec_lt h2, getD_map h2, lt_int h2, dec_lt h3, getD_map h3, lt_int h3, getD_map b1, lt_int b1, getD_map b2, lt_int b2, getD_map b3, lt_int b3, hxor, hz', hw3, hout, h3]
            show drawB _ _ _ = true
            kernel_rfl
          · have hz' : (((xorN old[i][j][k] now[i][j][k] : Nat) : Int) != 0) = true := by simp [hz]
            have hout : outN now (wordsTo old i j (k + 1)) = outN now (wordsTo old i j k) ++ [[eI i, eI j, eI k, eU (xorN old[i][j][k] now[i][j][k])]] := by
              rw [hst, outN, diffL_app]
              simp [diffL, diff1, hwa, hz, outN, ePatch]
            simp (config := { maxSteps := 4000000 }) only [SE, TF, KD, GE, eq_self, ne_eq, implies_true, forall_const, if_true, if_false, cond_true, cond_false, forall_eq, List.replicate, ↓reduceIte, Nat.reduceEqDiff, Nat.reduceLT, Nat.reduceAdd, Nat.reduceSub, Nat.reduceMul, Nat.reduceLeDiff, dec_lt h1, getD_map h1, lt_int h1, dec_lt h2, getD_map h2, lt_int h2, dec_lt h3, getD_map h3, lt_int h3, getD_map b1, lt_int b1, getD_map b2, lt_int b2, getD_map b3, lt_int b3, hxor, hz', hw3, hout, h3]
            refine ⟨by kernel_rfl, ⟨by rw [outN_len]; omega, by rw [outN_len]; omega⟩, by simp, ?_⟩
            rw [List.length_append, List.length_singleton]
        · have hke : k = old[i][j].length := by omega
          subst hke
          simp (config := { maxSteps := 4000000 }) only [SE, TF, KD, GE, eq_self, ne_eq, implies_true, forall_const, if_true, if_false, cond_true, cond_false, forall_eq, List.replicate, ↓reduceIte, Nat.reduceEqDiff, Nat.reduceLT, Nat.reduceAdd, Nat.reduceSub, Nat.reduceMul, Nat.reduceLeDiff, dec_lt h1, getD_map h1, lt_int h1, dec_lt h2, getD_map h2, lt_int h2, dec_ge h3, hw2, to_j h1 h2]
          exact h2
      · have hje : j = old[i].length := by omega
        subst hje
        simp (config := { maxSteps := 4000000 }) only [SE, TF, KD, GE, eq_self, ne_eq, implies_true, forall_const, if_true, if_false, cond_true, cond_false, forall_eq, List.replicate, ↓reduceIte, Nat.reduceEqDiff, Nat.reduceLT, Nat.reduceAdd, Nat.reduceSub, Nat.reduceMul, Nat.reduceLeDiff, dec_lt h1, getD_map h1, lt_int h1, dec_ge h2, hw1, to_i h1]
        exact h1
    · have hie : i = old.length := by omega
      subst hie
      simp (config := { maxSteps := 4000000 }) only [SE, TF, KD, GE, eq_self, ne_eq, implies_true, forall_const, if_true, if_false, cond_true, cond_false, forall_eq, List.replicate, ↓reduceIte, Nat.reduceEqDiff, Nat.reduceLT, Nat.reduceAdd, Nat.reduceSub, Nat.reduceMul, Nat.reduceLeDiff, dec_ge h1, to_end, ePR]
      rfl
  · have hR : diffR old now = ([], 490) := by unfold diffR; rw [if_neg hsh]
    rw [hR]
    simp (config := { maxSteps := 4000000 }) only [SE, TF, KD, GE, eq_self, ne_eq, implies_true, forall_const, if_true, if_false, cond_true, cond_false, forall_eq, List.replicate, ↓reduceIte, Nat.reduceEqDiff, Nat.reduceLT, Nat.reduceAdd, Nat.reduceSub, Nat.reduceMul, Nat.reduceLeDiff, hsh, decide_false, ePR]
def oddCnt (F : Frames) (l m : List Patch) (R : List (List Int)) : Nat := cntF F + l.length + m.length + R.length
def smallN (F : Frames) (l m : List Patch) (R : List (List Int)) : Nat := oddCnt F l m R + (R.map List.length).sum
def eOdd (F : Frames) (l m : List Patch) (n : Int) (R : List (List Int)) : D := .agg [eSet F, ePatches l, ePatches m, eI n, eDig R]
theorem small_c (F : Frames) (l m : List Patch) (n : Int) (R : List (List Int)) (hb : smallN F l m R ≤ 2000000000) : FnP Try.prog 12 [eOdd F l m n R] (.d (eB (decide (smallN F l m R ≤ 400)))) [] := by
  refine FnP.of_eC (own := []) (fun id => []) mixed Try.func12 rfl Try.call12 Try.ntmps12 (Nat.le_of_ble_eq_true rfl) Try.results12 (fun hok => ?_)
  have hb1 : oddCnt F l m R ≤ 2000000000 := by unfold smallN at hb; omega
  have hcn := count_c F (by unfold oddCnt at hb1; omega)
  simp only [SE, TF, KD, GE, eq_self, ne_eq, implies_true, forall_const, if_true, if_false, cond_true, cond_false, forall_eq, List.replicate, ↓reduceIte, Nat.reduceEqDiff, Nat.reduceLT, Nat.reduceAdd, Nat.reduceSub, Nat.reduceMul, Nat.reduceLeDiff] at hcn
  have hR : R.length ≤ 2000000000 := by unfold oddCnt at hb1; omega
  have w1 : IntKind.i64.wrap ((cntF F : Int) + (l.length : Int)) = ((cntF F + l.length : Nat) : Int) := by
    unfold oddCnt at hb1; rw [wrap_id (by omega) (by omega)]; omega
  have w2 : IntKind.i64.wrap (((cntF F + l.length : Nat) : Int) + (m.length : Int)) = ((cntF F + l.length + m.length : Nat) : Int) := by
    unfold oddCnt at hb1; rw [wrap_id (by omega) (by omega)]; omega
  have w3 : IntKind.i64.wrap (((cntF F + l.length + m.length : Nat) : Int) + (R.length : Int)) = ((oddCnt F l m R : Nat) : Int) := by
    unfold oddCnt at *; rw [wrap_id (by omega) (by omega)]; omega
  simp (config := { maxSteps := 4000000 }) only [SE, TF, KD, GE, eq_self, ne_eq, implies_true, forall_const, if_true, if_false, cond_true, cond_false, forall_eq, List.replicate, ↓reduceIte, Nat.reduceEqDiff, Nat.reduceLT, Nat.reduceAdd, Nat.reduceSub, Nat.reduceMul, Nat.reduceLeDiff, eOdd]
  refine ⟨by kernel_rfl, ECall'.i hcn ?_⟩
  simp (config := { maxSteps := 4000000 }) only [SE, TF, KD, GE, eq_self, ne_eq, implies_true, forall_const, if_true, if_false, cond_true, cond_false, forall_eq, List.replicate, ↓reduceIte, Nat.reduceEqDiff, Nat.reduceLT, Nat.reduceAdd, Nat.reduceSub, Nat.reduceMul, Nat.reduceLeDiff, w1, w2, w3]
  refine eloop (fun _ => []) mixed R.length (fun i => True) (fun i => ([(1, .bp 1 0), (3, .d (eI ((oddCnt F l m R + ((R.map List.length).take i).sum : Nat)))), (4, .d (eI i))], [(1, .box [.d (eSet F), .d (ePatches l), .d (ePatches m), .d (eI n), .d (eDig R)])])) ?_ ?_ ?_ (fun i hi hI => ?_)
  · trivial
  · simp [SE, TF, KD, GE, eq_self, ne_eq, implies_true, forall_const, if_true, if_false, cond_true, cond_false, forall_eq, List.replicate, ↓reduceIte, Nat.reduceEqDiff, Nat.reduceLT, Nat.reduceAdd, Nat.reduceSub, Nat.reduceMul, Nat.reduceLeDiff]
  · simp [SE, TF, KD, GE, eq_self, ne_eq, implies_true, forall_const, if_true, if_false, cond_true, cond_false, forall_eq, List.replicate, ↓reduceIte, Nat.reduceEqDiff, Nat.reduceLT, Nat.reduceAdd, Nat.reduceSub, Nat.reduceMul, Nat.reduceLeDiff]
  have hle := sum_take_le (R.map List.length) i
  rcases Nat.lt_or_ge i R.length with h | h
  · have hw := wrap_succ (show i < 9223372036854775807 by omega)
    have hst := sum_take_step (R.map List.length) i (by simpa using h)
    have hle2 := sum_take_le (R.map List.length) (i + 1)
    rw [List.getElem_map] at hst
    have hsum : IntKind.i64.wrap (((oddCnt F l m R + ((R.map List.length).take i).sum : Nat) : Int) + (R[i].length : Int)) = ((oddCnt F l m R + ((R.map List.length).take (i + 1)).sum : Nat) : Int) := by
      unfold smallN at hb
      rw [hst, wrap_id (by omega) (by omega)]; omega
    simp (config := { maxSteps := 4000000 }) only [SE, TF, KD, GE, eq_self, ne_eq, implies_true, forall_const, if_true, if_false, cond_true, cond_false, forall_eq, List.replicate, ↓reduceIte, Nat.reduceEqDiff, Nat.reduceLT, Nat.reduceAdd, Nat.reduceSub, Nat.reduceMul, Nat.reduceLeDiff, dec_lt h, getD_map h, lt_int h, hsum, hw]
    exact h
  · have hfin : oddCnt F l m R + ((R.map List.length).take i).sum = smallN F l m R := by
      unfold smallN
      rw [List.take_of_length_le (by simpa using h)]
    have hd : decide (((smallN F l m R : Nat) : Int) ≤ 400) = decide (smallN F l m R ≤ 400) := decide_eq_decide.2 (by omega)
    simp (config := { maxSteps := 4000000 }) only [SE, TF, KD, GE, eq_self, ne_eq, implies_true, forall_const, if_true, if_false, cond_true, cond_false, forall_eq, List.replicate, ↓reduceIte, Nat.reduceEqDiff, Nat.reduceLT, Nat.reduceAdd, Nat.reduceSub, Nat.reduceMul, Nat.reduceLeDiff, dec_ge h, hfin, hd]
end Go.Proofs.Ytcamhcnjomddbaa

/-
  PLAIN: differences the other way round; lists applied twice; compositions.
-/
namespace Go.Proofs.Ytcamhcnjomddbaa
open Go.Aw Go.Sort
theorem xorAt_comm (f g : Frames) (p : Pos) : xorAt f g p = xorAt g f p := xorN_comm _ _
theorem dl_comm {f g : Frames} (h : shape f = shape g) : dl g f = dl f g := by
  unfold dl
  rw [posA_shape h]
  congr 1; funext p; rw [xorAt_comm]
theorem bnd_applyL : ∀ (l : List Patch) {A : Frames}, bnd A → bnd (applyL A l)
  | [], _, h => h
  | q :: l, A, h => bnd_applyL l (bnd_setW h _ _ _ _ (xorN_lt _ _))
theorem xorN_lt64 (a b : Nat) : xorN a b < W64 := xorN_lt a b
theorem xorN_assoc {a b c : Nat} (ha : a < W64) (hb : b < W64) (hc : c < W64) : xorN (xorN a b) c = xorN a (xorN b c) := by
  rw [xorN_eq (xorN_lt _ _) hc, xorN_eq ha hb, xorN_eq ha (xorN_lt _ _), xorN_eq hb hc, Nat.xor_assoc]
theorem xorN_self {a : Nat} (ha : a < W64) : xorN a a = 0 := (xorN_zero ha ha).2 rfl
theorem xorN_twice {a x : Nat} (ha : a < W64) (hx : x < W64) : xorN (xorN a x) x = a := by rw [xorN_assoc ha hx hx, xorN_self hx, xorN_0 ha]
theorem fits_applyL {A : Frames} {l : List Patch} (h : Fits A l) : Fits (applyL A l) l := by
  refine ⟨fun q hq => fit1_iff.2 ?_, h.2⟩
  rw [posA_shape (shape_applyL l A)]
  exact fit1_iff.1 (h.1 q hq)
theorem apply_twice {A : Frames} {l : List Patch} (hb : bnd A) (hx : ∀ q ∈ l, q.x < W64) (h : Fits A l) : applyIn (applyL A l) l = (A, 0) := by
  unfold applyIn
  rw [if_pos (fits_applyL h)]
  congr 1
  refine ext_words (by rw [shape_applyL, shape_applyL]) (fun p hp => ?_)
  have hs := shape_applyL l (applyL A l)
  rw [posA_shape hs] at hp
  have hp' : p ∈ posA A := by rw [posA_shape (shape_applyL l A)] at hp; exact hp
  rw [wordAt_applyL l _ (fun q hq => fit1_iff.1 ((fits_applyL h).1 q hq)) (normal_nodup h.2) p hp, wordAt_applyL l A (fun q hq => fit1_iff.1 (h.1 q hq)) (normal_nodup h.2) p hp']
  cases hv : valL l p with
  | none => rfl
  | some x =>
    simp only
    have : x < W64 := by
      unfold valL at hv
      obtain ⟨q, hq, rfl⟩ := Option.map_eq_some_iff.1 hv
      exact hx q (List.mem_of_find?_eq_some hq)
    exact xorN_twice (hb p) this
theorem fits_nil (A : Frames) : Fits A [] := ⟨by simp, by intro i hi; simp at hi⟩

/-! ### Compositions -/
theorem getE_addE (E : PEnts) (p p' : Pos) (x : Nat) : getE (addE E p x) p' = if p = p' then xorN (getE E p) x else getE E p' := by
  unfold addE
  split
  · rename_i h
    have hp : E[E.findIdx fun e => e.1 = p].1 = p := by simpa using List.findIdx_getElem (w := h)
    have hbefore : ∀ j (hj : j < E.findIdx fun e => e.1 = p), (E[j]'(by omega)).1 ≠ p := by
      intro j hj
      have := List.not_of_lt_findIdx hj
      simpa using this
    have gen : ∀ (i v : Nat) (h : i < E.length), E[i].1 = p → (∀ j (hj : j < i), (E[j]'(by omega)).1 ≠ p) → getE (E.set i (p, v)) p' = if p = p' then v else getE E p' := by
      intro i v h hp hbefore
      unfold getE
      by_cases e : p = p'
      · subst e
        rw [if_pos rfl]
        have : (E.set i (p, v)).find? (fun e => decide (e.1 = p)) = some (p, v) := by
          rw [List.find?_eq_some_iff_getElem]
          refine ⟨by simp, i, by simpa using h, by simp, fun j hj => ?_⟩
          rw [List.getElem_set_ne (by omega)]
          have := hbefore j hj
          simpa using this
        rw [this]
        rfl
      · rw [if_neg e]
        congr 2
        have key : ∀ (E : PEnts) (i : Nat) (h : i < E.length), E[i].1 = p → (E.set i (p, v)).find? (fun e => decide (e.1 = p')) = E.find? fun e => decide (e.1 = p') := by
          intro E
          induction E with
          | nil => intro i h; simp at h
          | cons y E ih =>
            intro i h hy
            cases i with
            | zero =>
              simp only [List.getElem_cons_zero] at hy
              rw [List.set_cons_zero, List.find?_cons, List.find?_cons]
              simp [e, hy]
            | succ i =>
              rw [List.set_cons_succ, List.find?_cons, List.find?_cons]
              rw [ih i (by simpa using h) (by simpa using hy)]
        exact key E i h hp
    exact gen _ _ h hp hbefore
  · rename_i h
    have hno : ∀ e ∈ E, e.1 ≠ p := by
      intro e he h2
      exact h (List.findIdx_lt_length_of_exists ⟨e, he, by simpa using h2⟩)
    unfold getE
    rw [List.find?_append]
    by_cases e : p = p'
    · subst e
      rw [if_pos rfl]
      have : E.find? (fun e => decide (e.1 = p)) = none := by
        rw [List.find?_eq_none]; intro y hy; simpa using hno y hy
      rw [this]
      simp
    · rw [if_neg e]
      cases E.find? fun e => decide (e.1 = p') with
      | none => simp [e]
      | some y => simp
def accX (a : Nat) (p : Pos) (l : List Patch) : Nat := l.foldl (fun a q => if posOf q = p then xorN a q.x else a) a
theorem getE_entsOf (l : List Patch) (p : Pos) : getE (entsOf l) p = accX 0 p l := by
  have : ∀ (l : List Patch) (E : PEnts), getE (l.foldl (fun E q => addE E (posOf q) q.x) E) p = accX (getE E p) p l := by
    intro l
    induction l with
    | nil => intro E; rfl
    | cons q l ih =>
      intro E
      rw [List.foldl_cons, ih, getE_addE, accX, accX, List.foldl_cons]
      split
      · rename_i h; rw [h]
      · rfl
  exact this l []
theorem accX_val {l : List Patch} (hn : (l.map posOf).Nodup) (a : Nat) (p : Pos) : accX a p l = match valL l p with | some x => xorN a x | none => a := by
  induction l generalizing a with
  | nil => rfl
  | cons q l ih =>
    simp only [List.map_cons, List.nodup_cons] at hn
    have hs : accX a p (q :: l) = accX (if posOf q = p then xorN a q.x else a) p l := rfl
    rw [hs, ih hn.2]
    by_cases h : posOf q = p
    · have h1 : valL (q :: l) p = some q.x := by simp [valL, h]
      have h2 : valL l p = none := by
        rw [valL_none]
        intro q' hq' e
        exact hn.1 (List.mem_map.2 ⟨q', hq', e.trans h.symm⟩)
      rw [h1, h2, if_pos h]
    · have h1 : valL (q :: l) p = valL l p := by simp [valL, h]
      rw [h1, if_neg h]
theorem accX_app (a : Nat) (p : Pos) (l m : List Patch) : accX a p (l ++ m) = accX (accX a p l) p m := by simp [accX]
theorem getE_mem {E : PEnts} {p : Pos} (h : getE E p ≠ 0) : p ∈ E.map (·.1) := by
  unfold getE at h
  cases hf : E.find? fun e => decide (e.1 = p) with
  | none => rw [hf] at h; exact absurd rfl h
  | some e =>
    have h1 := List.mem_of_find?_eq_some hf
    have h2 := List.find?_some hf
    exact List.mem_map.2 ⟨e, h1, by simpa using h2⟩
theorem addE_nodup {E : PEnts} (h : (E.map (·.1)).Nodup) (p : Pos) (x : Nat) : ((addE E p x).map (·.1)).Nodup := by
  unfold addE
  split
  · rename_i hi
    have hp : E[E.findIdx fun e => e.1 = p].1 = p := by simpa using List.findIdx_getElem (w := hi)
    have : (E.set (E.findIdx fun e => e.1 = p) (p, xorN (getE E p) x)).map (·.1) = E.map (·.1) := by
      apply List.ext_getElem (by simp)
      intro k h1 h2
      rw [List.getElem_map, List.getElem_map, List.getElem_set]
      split
      · rename_i e; subst e; exact hp.symm
      · rfl
    rw [this]; exact h
  · rename_i hi
    rw [List.map_append, List.nodup_append]
    refine ⟨h, by simp, ?_⟩
    intro a ha b hb
    simp only [List.map_cons, List.map_nil, List.mem_singleton] at hb
    subst hb
    rintro rfl
    obtain ⟨e, he, h2⟩ := List.mem_map.1 ha
    exact hi (List.findIdx_lt_length_of_exists ⟨e, he, by simpa using h2⟩)
theorem entsOf_nodup (l : List Patch) : ((entsOf l).map (·.1)).Nodup := by
  have : ∀ (l : List Patch) (E : PEnts), (E.map (·.1)).Nodup → ((l.foldl (fun E q => addE E (posOf q) q.x) E).map (·.1)).Nodup := by
    intro l
    induction l with
    | nil => intro E h; exact h
    | cons q l ih => intro E h; exact ih _ (addE_nodup h _ _)
  exact this l [] (by simp)
theorem sortP_lt {l : List Pos} (h : l.Nodup) : (sortP l).Pairwise Pos.lt := by
  have h1 : (sortP l).Pairwise fun x y => (!(ltOf cmpPos) y x) = true := by
    unfold sortP
    refine List.pairwise_mergeSort (fun a b c hab hbc => ?_) (fun a b => ?_) l
    · simp only [Bool.not_eq_true'] at *
      exact swoPos.ntrans c b a hbc hab
    · cases h2 : ltOf cmpPos b a with
      | false => simp
      | true =>
        have h3 := (ltOf_pos b a).1 h2
        have : ltOf cmpPos a b = false := by
          rw [ltOf_posF]; intro h4; unfold posLt at h3 h4; omega
        simp [this]
  have h2 : (sortP l).Nodup := ((List.mergeSort_perm l _).nodup_iff).2 h
  rw [List.nodup_iff_pairwise_ne] at h2
  refine (h1.and h2).imp ?_
  rintro a b ⟨h3, h4⟩
  have h5 : ¬ posLt b a := by simpa [ltOf_posF] using h3
  obtain ⟨a1, a2, a3⟩ := a
  obtain ⟨b1, b2, b3⟩ := b
  unfold posLt at h5
  unfold Pos.lt
  simp only [ne_eq, Pos.mk.injEq] at *
  omega
theorem sorted_ext : ∀ (l m : List Patch), l.Pairwise Patch.lt → m.Pairwise Patch.lt → (∀ q, q ∈ l ↔ q ∈ m) → l = m
  | [], [], _, _, _ => rfl
  | [], q :: m, _, _, h => by have := (h q).2 (by simp); cases this
  | q :: l, [], _, _, h => by have := (h q).1 (by simp); cases this
  | q :: l, r :: m, h1, h2, h => by
    rw [List.pairwise_cons] at h1 h2
    have hasym : ∀ {a b : Patch}, a.lt b → ¬ b.lt a := by
      intro a b h3 h4; unfold Patch.lt at h3 h4; omega
    have hqr : q = r := by
      rcases List.mem_cons.1 ((h q).1 (by simp)) with e | e
      · exact e
      · rcases List.mem_cons.1 ((h r).2 (by simp)) with e2 | e2
        · exact e2.symm
        · exact absurd (h1.1 r e2) (hasym (h2.1 q e))
    subst hqr
    congr 1
    refine sorted_ext l m h1.2 h2.2 (fun x => ?_)
    have hx := h x
    constructor
    · intro hm
      rcases List.mem_cons.1 (hx.1 (by simp [hm])) with e | e
      · subst e; exact absurd rfl (fun e => Patch.lt_pos (h1.1 _ hm) e)
      · exact e
    · intro hm
      rcases List.mem_cons.1 (hx.2 (by simp [hm])) with e | e
      · subst e; exact absurd rfl (fun e => Patch.lt_pos (h2.1 _ hm) e)
      · exact e
theorem mem_outE {E : PEnts} {q : Patch} : q ∈ outE E (sortP (E.map (·.1))) ↔ getE E (posOf q) = q.x ∧ q.x ≠ 0 := by
  unfold outE
  rw [List.mem_filterMap]
  constructor
  · rintro ⟨p, hp, h⟩
    split at h
    · cases h
    · rename_i hx; cases h; exact ⟨rfl, hx⟩
  · rintro ⟨h1, h2⟩
    refine ⟨posOf q, ?_, ?_⟩
    · unfold sortP
      exact (List.mergeSort_perm _ _).mem_iff.2 (getE_mem (by rw [h1]; exact h2))
    · rw [h1, if_neg h2]; rfl
theorem outE_lt (E : PEnts) (h : (E.map (·.1)).Nodup) : (outE E (sortP (E.map (·.1)))).Pairwise Patch.lt := by
  unfold outE
  rw [List.pairwise_filterMap]
  refine (sortP_lt h).imp ?_
  intro a b hab x hx y hy
  split at hx
  · cases hx
  · split at hy
    · cases hy
    · cases hx; cases hy; exact hab
def sumAt (l m : List Patch) (p : Pos) : Nat := accX 0 p (l ++ m)
/-- What a composition holds. -/
theorem mem_compose {l m : List Patch} (hl : Normal l) (hm : Normal m) (q : Patch) : q ∈ (composeR l m).1 ↔ sumAt l m (posOf q) = q.x ∧ q.x ≠ 0 := by
  unfold composeR
  rw [if_pos ⟨hl, hm⟩]
  show q ∈ outE _ _ ↔ _
  rw [mem_outE, getE_entsOf]
  rfl
theorem compose_lt {l m : List Patch} (hl : Normal l) (hm : Normal m) : (composeR l m).1.Pairwise Patch.lt := by
  unfold composeR
  rw [if_pos ⟨hl, hm⟩]
  exact outE_lt _ (entsOf_nodup _)
theorem compose_ok {l m : List Patch} (hl : Normal l) (hm : Normal m) : (composeR l m).2 = 0 := by
  unfold composeR
  rw [if_pos ⟨hl, hm⟩]
theorem compose_eq {l m k : List Patch} (hl : Normal l) (hm : Normal m) (hk : k.Pairwise Patch.lt) (h : ∀ q, q ∈ k ↔ sumAt l m (posOf q) = q.x ∧ q.x ≠ 0) : composeR l m = (k, 0) := by
  have h1 : (composeR l m).1 = k := sorted_ext _ _ (compose_lt hl hm) hk (fun q => by rw [mem_compose hl hm, h])
  rw [← h1, ← compose_ok hl hm]
theorem sumAt_val {l m : List Patch} (hl : Normal l) (hm : Normal m) (p : Pos) : sumAt l m p = (match valL m p with | some y => xorN (match valL l p with | some x => xorN 0 x | none => 0) y | none => (match valL l p with | some x => xorN 0 x | none => 0)) := by
  unfold sumAt
  rw [accX_app, accX_val (normal_nodup hm), accX_val (normal_nodup hl)]
theorem xor0N {a : Nat} (ha : a < W64) : xorN 0 a = a := by rw [xorN_comm, xorN_0 ha]
theorem valL_dl' {f g : Frames} (p : Pos) : valL (dl f g) p = if p ∈ posA f ∧ xorAt f g p ≠ 0 then some (xorAt f g p) else none := by
  by_cases h : p ∈ posA f
  · rw [valL_dl h]
    by_cases h2 : xorAt f g p = 0 <;> simp [h, h2]
  · rw [if_neg (fun h2 => h h2.1), valL_none]
    rintro q hq rfl
    exact h (mem_dl.1 hq).1
theorem compose_dl {f g h : Frames} (hfg : shape f = shape g) (hf : bnd f) (hg : bnd g) (hh : bnd h) : composeR (dl f g) (dl g h) = (dl f h, 0) := by
  refine compose_eq (dl_normal _ _) (dl_normal _ _) (dl_pairwise _ _) (fun q => ?_)
  rw [mem_dl, sumAt_val (dl_normal _ _) (dl_normal _ _), valL_dl', valL_dl', ← posA_shape hfg]
  have key : xorN (xorAt f g (posOf q)) (xorAt g h (posOf q)) = xorAt f h (posOf q) := by
    unfold xorAt
    rw [xorN_assoc (hf _) (hg _) (xorN_lt _ _), xorN_back (hg _) (hh _)]
  have l1 : xorAt f g (posOf q) < W64 := xorN_lt _ _
  have l2 : xorAt g h (posOf q) < W64 := xorN_lt _ _
  generalize xorAt f g (posOf q) = a at *
  generalize xorAt g h (posOf q) = b at *
  generalize xorAt f h (posOf q) = c at *
  by_cases hp : posOf q ∈ posA f
  · by_cases h1 : a = 0
    · rw [h1, xor0N l2] at key
      by_cases h2 : b = 0
      · simp [hp, h1, h2, ← key]
        try omega
      · simp [hp, h1, h2, ← key, xor0N l2]
    · by_cases h2 : b = 0
      · rw [h2, xorN_0 l1] at key
        simp [hp, h1, h2, xor0N l1, ← key]
      · simp [hp, h1, h2, xor0N l1, key]
  · simp [hp]
    omega
theorem compose_self {l : List Patch} (hl : Normal l) (hx : ∀ q ∈ l, q.x < W64) : composeR l l = ([], 0) := by
  refine compose_eq hl hl List.Pairwise.nil (fun q => ?_)
  have : sumAt l l (posOf q) = 0 := by
    rw [sumAt_val hl hl]
    cases hv : valL l (posOf q) with
    | none => rfl
    | some x =>
      have hx' : x < W64 := by
        unfold valL at hv
        obtain ⟨q, hq, rfl⟩ := Option.map_eq_some_iff.1 hv
        exact hx q (List.mem_of_find?_eq_some hq)
      simp only
      rw [xor0N hx', xorN_self hx']
  rw [this]
  simp
  omega
theorem dl_x (f g : Frames) : ∀ q ∈ dl f g, q.x < W64 := by
  intro q hq
  obtain ⟨_, h, _⟩ := mem_dl.1 hq
  rw [← h]; exact xorN_lt _ _
end Go.Proofs.Ytcamhcnjomddbaa

/-
  PLAIN: compositions made by going through both lists at once.
-/
namespace Go.Proofs.Ytcamhcnjomddbaa
open Go.Aw
theorem accX_none {l : List Patch} {p : Pos} (h : ∀ q ∈ l, posOf q ≠ p) (a : Nat) : accX a p l = a := by
  induction l generalizing a with
  | nil => rfl
  | cons q l ih =>
    have hs : accX a p (q :: l) = accX (if posOf q = p then xorN a q.x else a) p l := rfl
    rw [hs, if_neg (h q (by simp)), ih (fun q' h' => h q' (by simp [h']))]
theorem accX_one (a : Nat) (p : Pos) (q : Patch) : accX a p [q] = if posOf q = p then xorN a q.x else a := rfl
theorem normal_take {l : List Patch} (h : Normal l) (i : Nat) : Normal (l.take i) := by
  rw [normal_iff] at h ⊢
  exact ⟨fun q hq => h.1 q (List.mem_of_mem_take hq), h.2.sublist (List.take_sublist _ _)⟩
theorem compose_ext {l0 m0 l' m' : List Patch} (h0 : Normal l0) (h1 : Normal m0) (h2 : Normal l') (h3 : Normal m') (P : Pos) (v : Nat)
    (hs : ∀ p, sumAt l' m' p = if P = p then v else sumAt l0 m0 p) (hlt : ∀ q ∈ l0 ++ m0, (posOf q).lt P) :
    (composeR l' m').1 = (composeR l0 m0).1 ++ (if v = 0 then [] else [patchOf P v]) := by
  have hne : ∀ q ∈ l0 ++ m0, posOf q ≠ P := fun q hq => Pos.lt_ne (hlt q hq)
  have hz : sumAt l0 m0 P = 0 := by unfold sumAt; exact accX_none hne 0
  have hmem : ∀ q ∈ (composeR l0 m0).1, (posOf q).lt P := by
    intro q hq
    obtain ⟨a, b⟩ := (mem_compose h0 h1 q).1 hq
    by_cases hex : ∃ q' ∈ l0 ++ m0, posOf q' = posOf q
    · obtain ⟨q', hq', e⟩ := hex
      rw [← e]; exact hlt q' hq'
    · exfalso
      have : sumAt l0 m0 (posOf q) = 0 := by unfold sumAt; exact accX_none (fun q' hq' e => hex ⟨q', hq', e⟩) 0
      rw [this] at a
      exact b a.symm
  have := compose_eq (k := (composeR l0 m0).1 ++ (if v = 0 then [] else [patchOf P v])) h2 h3 ?_ ?_
  · rw [this]
  · rw [List.pairwise_append]
    refine ⟨compose_lt h0 h1, by split <;> simp, fun a ha b hb => ?_⟩
    split at hb
    · cases hb
    · simp only [List.mem_singleton] at hb
      subst hb
      exact hmem a ha
  · intro q
    rw [List.mem_append, mem_compose h0 h1, hs]
    constructor
    · rintro (⟨a, b⟩ | h)
      · have : P ≠ posOf q := by
          intro e
          rw [← e, hz] at a
          exact b a.symm
        rw [if_neg this]; exact ⟨a, b⟩
      · split at h
        · cases h
        · rename_i hv
          simp only [List.mem_singleton] at h
          subst h
          exact ⟨if_pos (show P = posOf (patchOf P v) from rfl), hv⟩
    · rintro ⟨a, b⟩
      by_cases e : P = posOf q
      · rw [if_pos e] at a
        right
        rw [if_neg (by rw [a]; exact b), List.mem_singleton, a, e]
        rfl
      · rw [if_neg e] at a
        exact .inl ⟨a, b⟩
/-- What is composed of the first ones. -/
noncomputable def part (l m : List Patch) (i k : Nat) : List Patch := (composeR (l.take i) (m.take k)).1
def ahead (l m : List Patch) (i k : Nat) : Prop := (∀ q ∈ l.take i, ∀ h : k < m.length, q.lt m[k]) ∧ (∀ q ∈ m.take k, ∀ h : i < l.length, q.lt l[i])
theorem mem_take_lt {l : List Patch} (h : Normal l) {i : Nat} (hi : i < l.length) : ∀ q ∈ l.take i, q.lt l[i] := by
  intro q hq
  obtain ⟨j, hj, rfl⟩ := List.mem_take_iff_getElem.1 hq
  exact normal_lt h j i (by omega) hi
theorem mem_take_succ {l : List Patch} {i : Nat} (hi : i < l.length) {q : Patch} (h : q ∈ l.take (i + 1)) : q ∈ l.take i ∨ q = l[i] := by
  rw [List.take_succ_eq_append_getElem hi] at h
  rcases List.mem_append.1 h with h | h
  · exact .inl h
  · exact .inr (List.mem_singleton.1 h)
section
variable {l m : List Patch} {i k : Nat}
theorem part_left (hl : Normal l) (hm : Normal m) (hx : ∀ q ∈ l, q.x < W64) (ha : ahead l m i k) (hi : i < l.length) : part l m (i + 1) k = part l m i k ++ [l[i]] := by
  have hxi := hx l[i] (List.getElem_mem hi)
  have h0 : l[i].x ≠ 0 := (normal_iff.1 hl).1 _ (List.getElem_mem hi)
  have := compose_ext (normal_take hl i) (normal_take hm k) (normal_take hl (i + 1)) (normal_take hm k) (posOf l[i]) l[i].x (fun p => ?_) (fun q hq => ?_)
  · rw [if_neg h0] at this
    exact this
  · unfold sumAt
    rw [List.take_succ_eq_append_getElem hi, List.append_assoc, accX_app, accX_app, accX_app, accX_one]
    by_cases e : posOf l[i] = p
    · subst e
      rw [if_pos rfl, if_pos rfl, accX_none (fun q hq => Patch.lt_pos (mem_take_lt hl hi q hq)), xor0N hxi, accX_none (fun q hq => Patch.lt_pos (ha.2 q hq hi))]
    · rw [if_neg e, if_neg e]
  · rcases List.mem_append.1 hq with h | h
    · exact mem_take_lt hl hi q h
    · exact ha.2 q h hi
theorem part_right (hl : Normal l) (hm : Normal m) (hx : ∀ q ∈ m, q.x < W64) (ha : ahead l m i k) (hk : k < m.length) : part l m i (k + 1) = part l m i k ++ [m[k]] := by
  have hxi := hx m[k] (List.getElem_mem hk)
  have h0 : m[k].x ≠ 0 := (normal_iff.1 hm).1 _ (List.getElem_mem hk)
  have := compose_ext (normal_take hl i) (normal_take hm k) (normal_take hl i) (normal_take hm (k + 1)) (posOf m[k]) m[k].x (fun p => ?_) (fun q hq => ?_)
  · rw [if_neg h0] at this
    exact this
  · unfold sumAt
    rw [List.take_succ_eq_append_getElem hk, ← List.append_assoc, accX_app, accX_one, accX_app]
    by_cases e : posOf m[k] = p
    · subst e
      rw [if_pos rfl, if_pos rfl, accX_none (fun q hq => Patch.lt_pos (ha.1 q hq hk)), accX_none (fun q hq => Patch.lt_pos (mem_take_lt hm hk q hq)), xor0N hxi]
    · rw [if_neg e, if_neg e]
  · rcases List.mem_append.1 hq with h | h
    · exact ha.1 q h hk
    · exact mem_take_lt hm hk q h
theorem part_both (hl : Normal l) (hm : Normal m) (hx : ∀ q ∈ l, q.x < W64) (ha : ahead l m i k) (hi : i < l.length) (hk : k < m.length) (hp : posOf l[i] = posOf m[k]) : part l m (i + 1) (k + 1) = part l m i k ++ (if xorN l[i].x m[k].x = 0 then [] else [patchOf (posOf l[i]) (xorN l[i].x m[k].x)]) := by
  have hxi := hx l[i] (List.getElem_mem hi)
  refine compose_ext (normal_take hl i) (normal_take hm k) (normal_take hl (i + 1)) (normal_take hm (k + 1)) (posOf l[i]) (xorN l[i].x m[k].x) (fun p => ?_) (fun q hq => ?_)
  · unfold sumAt
    rw [List.take_succ_eq_append_getElem hi, List.take_succ_eq_append_getElem hk, ← List.append_assoc, accX_app, accX_one, accX_app, accX_app, accX_app, accX_one, ← hp]
    by_cases e : posOf l[i] = p
    · subst e
      rw [if_pos rfl, if_pos rfl, if_pos rfl, accX_none (fun q hq => Patch.lt_pos (mem_take_lt hl hi q hq)), xor0N hxi, accX_none (fun q hq => Patch.lt_pos (ha.2 q hq hi))]
    · rw [if_neg e, if_neg e, if_neg e]
  · rcases List.mem_append.1 hq with h | h
    · exact mem_take_lt hl hi q h
    · exact ha.2 q h hi
theorem ahead_left (hl : Normal l) (ha : ahead l m i k) (hi : i < l.length) (h : ∀ hk : k < m.length, l[i].lt m[k]) : ahead l m (i + 1) k := by
  refine ⟨fun q hq hk => ?_, fun q hq h2 => ?_⟩
  · rcases mem_take_succ hi hq with h3 | rfl
    · exact ha.1 q h3 hk
    · exact h hk
  · exact Patch.lt_trans (ha.2 q hq hi) (normal_lt hl i (i + 1) (by omega) h2)
theorem ahead_right (hm : Normal m) (ha : ahead l m i k) (hk : k < m.length) (h : ∀ hi : i < l.length, m[k].lt l[i]) : ahead l m i (k + 1) := by
  refine ⟨fun q hq h2 => ?_, fun q hq hi => ?_⟩
  · exact Patch.lt_trans (ha.1 q hq hk) (normal_lt hm k (k + 1) (by omega) h2)
  · rcases mem_take_succ hk hq with h3 | rfl
    · exact ha.2 q h3 hi
    · exact h hi
theorem Patch.lt_same {a b c : Patch} (h : posOf a = posOf b) (h2 : b.lt c) : a.lt c := by
  simp only [posOf, Pos.mk.injEq] at h; unfold Patch.lt at *; omega
theorem ahead_both (hl : Normal l) (hm : Normal m) (ha : ahead l m i k) (hi : i < l.length) (hk : k < m.length) (hp : posOf l[i] = posOf m[k]) : ahead l m (i + 1) (k + 1) := by
  refine ⟨fun q hq h2 => ?_, fun q hq h2 => ?_⟩
  · have h4 := normal_lt hm k (k + 1) (by omega) h2
    rcases mem_take_succ hi hq with h3 | rfl
    · exact Patch.lt_trans (ha.1 q h3 hk) h4
    · exact Patch.lt_same hp h4
  · have h4 := normal_lt hl i (i + 1) (by omega) h2
    rcases mem_take_succ hk hq with h3 | rfl
    · exact Patch.lt_trans (ha.2 q h3 hi) h4
    · exact Patch.lt_same hp.symm h4
theorem part_zero (l m : List Patch) : part l m 0 0 = [] := by
  unfold part
  have h : Normal [] := by intro i hi; simp at hi
  have := compose_eq (l := []) (m := []) (k := []) h h List.Pairwise.nil (fun q => by simp [sumAt, accX]; omega)
  simp only [List.take_zero, this]
theorem part_end (l m : List Patch) : part l m l.length m.length = (composeR l m).1 := by unfold part; rw [List.take_length, List.take_length]
theorem ahead_zero (l m : List Patch) : ahead l m 0 0 := ⟨by simp, by simp⟩
theorem part_len (l m : List Patch) (i k : Nat) : (part l m i k).length ≤ l.length + m.length := by
  unfold part composeR
  split
  · refine Nat.le_trans (outE_le _ _) ?_
    have h1 : (sortP ((entsOf (l.take i ++ m.take k)).map (·.1))).length = (entsOf (l.take i ++ m.take k)).length := by rw [sortP_length]; simp
    have h2 := entsOf_len (l.take i ++ m.take k)
    simp only [List.length_append, List.length_take] at h2
    omega
  · simp
end
theorem not_lt_pos {a b : Patch} (h1 : ¬ a.lt b) (h2 : ¬ b.lt a) : posOf a = posOf b := by
  unfold Patch.lt at *
  simp only [posOf, Pos.mk.injEq]
  omega
end Go.Proofs.Ytcamhcnjomddbaa

/-
  CONTRACTS: compositions, in the reference.
-/
namespace Go.Proofs.Ytcamhcnjomddbaa
open Go.Aw
set_option maxRecDepth 100000
set_option maxHeartbeats 4000000
theorem composeIn_c (l m : List Patch) (hl0 : l.length ≤ 1000000) (hm0 : m.length ≤ 1000000) (hlx : ∀ q ∈ l, q.x < W64) (hmx : ∀ q ∈ m, q.x < W64) : FnP Try.prog 22 [ePatches l, ePatches m] (.d (ePR (composeR l m))) [] := by
  refine FnP.of_eC (own := []) (fun id => if id = 3 then [.adB 5 0 90 65 4] else []) mixed Try.func22 rfl Try.call22 Try.ntmps22 (Nat.le_of_ble_eq_true rfl) Try.results22 (fun hok => ?_)
  have hnl := normal_c l
  have hnm := normal_c m
  simp only [SE, TF, KD, GE, eq_self, ne_eq, implies_true, forall_const, if_true, if_false, cond_true, cond_false, forall_eq, List.replicate, ↓reduceIte, Nat.reduceEqDiff, Nat.reduceLT, Nat.reduceAdd, Nat.reduceSub, Nat.reduceMul, Nat.reduceLeDiff] at hnl hnm
  simp (config := { maxSteps := 4000000 }) only [SE, TF, KD, GE, eq_self, ne_eq, implies_true, forall_const, if_true, if_false, cond_true, cond_false, forall_eq, List.replicate, ↓reduceIte, Nat.reduceEqDiff, Nat.reduceLT, Nat.reduceAdd, Nat.reduceSub, Nat.reduceMul, Nat.reduceLeDiff]
  refine EFn.p ?_
  simp (config := { maxSteps := 4000000 }) only [SE, TF, KD, GE, eq_self, ne_eq, implies_true, forall_const, if_true, if_false, cond_true, cond_false, forall_eq, List.replicate, ↓reduceIte, Nat.reduceEqDiff, Nat.reduceLT, Nat.reduceAdd, Nat.reduceSub, Nat.reduceMul, Nat.reduceLeDiff]
  refine ECall.i (hnl) ?_
  by_cases hl : Normal l
  · by_cases hm : Normal m
    · have hR : (composeR l m).2 = 0 := compose_ok hl hm
      obtain ⟨c0, c1, hc⟩ : ∃ c0 c1, composeR l m = (c0, c1) := ⟨_, _, rfl⟩
      have hend := part_end l m
      rw [hc] at hR hend
      simp only at hR hend
      subst hR
      rw [hc]
      simp (config := { maxSteps := 4000000 }) only [SE, TF, KD, GE, eq_self, ne_eq, implies_true, forall_const, if_true, if_false, cond_true, cond_false, forall_eq, List.replicate, ↓reduceIte, Nat.reduceEqDiff, Nat.reduceLT, Nat.reduceAdd, Nat.reduceSub, Nat.reduceMul, Nat.reduceLeDiff, hl, decide_true]
      refine EFn.p ?_
      simp (config := { maxSteps := 4000000 }) only [SE, TF, KD, GE, eq_self, ne_eq, implies_true, forall_const, if_true, if_false, cond_true, cond_false, forall_eq, List.replicate, ↓reduceIte, Nat.reduceEqDiff, Nat.reduceLT, Nat.reduceAdd, Nat.reduceSub, Nat.reduceMul, Nat.reduceLeDiff]
      refine ECall.i (hnm) ?_
      simp (config := { maxSteps := 4000000 }) only [SE, TF, KD, GE, eq_self, ne_eq, implies_true, forall_const, if_true, if_false, cond_true, cond_false, forall_eq, List.replicate, ↓reduceIte, Nat.reduceEqDiff, Nat.reduceLT, Nat.reduceAdd, Nat.reduceSub, Nat.reduceMul, Nat.reduceLeDiff, hm, decide_true]
      refine eloopX (X := Nat × Nat) (fun _ id => if id = 2013 then [.ord ⟨[(0, none), (1, none), (2, none), (3, none), (4, none), (5, none), (6, none), (7, some [2, 3, 4]), (8, some []), (9, some [])]⟩] else if id = 2016 then [.ord ⟨[(0, none), (1, none), (2, none), (3, none), (4, none), (5, none), (6, none), (7, some [2, 3, 4]), (8, some []), (9, some [])]⟩] else []) mixed (l.length + m.length) (fun t x => x.1 ≤ l.length ∧ x.2 ≤ m.length ∧ t ≤ x.1 + x.2 ∧ ahead l m x.1 x.2) (fun _ x => ([(0, .d (ePatches l)), (1, .d (ePatches m)), (4, .bp 4 0), (5, .bp 5 0), (6, .d (eI x.1)), (7, .d (eI x.2))], [(4, .box [.nils, .d (eI 0)]), (5, .box [.ar 90 (part l m x.1 x.2).length, .d (eI 0)]), (90, .arr 65 4 .flat ((part l m x.1 x.2).map ePatch))])) (0, 0) ?_ ?_ ?_ (fun t x ht hI => ?_)
      · exact ⟨Nat.zero_le _, Nat.zero_le _, Nat.zero_le _, ahead_zero l m⟩
      · simp [SE, TF, KD, GE, eq_self, ne_eq, implies_true, forall_const, if_true, if_false, cond_true, cond_false, forall_eq, List.replicate, ↓reduceIte, Nat.reduceEqDiff, Nat.reduceLT, Nat.reduceAdd, Nat.reduceSub, Nat.reduceMul, Nat.reduceLeDiff]
      · simp [SE, TF, KD, GE, eq_self, ne_eq, implies_true, forall_const, if_true, if_false, cond_true, cond_false, forall_eq, List.replicate, ↓reduceIte, Nat.reduceEqDiff, Nat.reduceLT, Nat.reduceAdd, Nat.reduceSub, Nat.reduceMul, Nat.reduceLeDiff, part_zero]
      obtain ⟨i, k⟩ := x
      obtain ⟨hi, hk, htk, ha⟩ := hI
      simp only at hi hk htk ha
      have hpl := part_len l m i k
      have wi := wrap_succ (show i < 9223372036854775807 by omega)
      have wk := wrap_succ (show k < 9223372036854775807 by omega)
      rcases Nat.lt_or_ge i l.length with h1 | h1
      · rcases Nat.lt_or_ge k m.length with h2 | h2
        · have hke : ((k : Int) == (m.length : Int)) = false := by simp; omega
          have hie : ((i : Int) == (l.length : Int)) = false := by simp; omega
          have hless := less_c l[i] m[k]
          have hless2 := less_c m[k] l[i]
          simp only [SE, TF, KD, GE, eq_self, ne_eq, implies_true, forall_const, if_true, if_false, cond_true, cond_false, forall_eq, List.replicate, ↓reduceIte, Nat.reduceEqDiff, Nat.reduceLT, Nat.reduceAdd, Nat.reduceSub, Nat.reduceMul, Nat.reduceLeDiff] at hless hless2
          simp (config := { maxSteps := 4000000 }) only [SE, TF, KD, GE, eq_self, ne_eq, implies_true, forall_const, if_true, if_false, cond_true, cond_false, forall_eq, List.replicate, ↓reduceIte, Nat.reduceEqDiff, Nat.reduceLT, Nat.reduceAdd, Nat.reduceSub, Nat.reduceMul, Nat.reduceLeDiff, dec_lt h1, hke, getD_map h1, lt_int h1, getD_map h2, lt_int h2]
          refine ⟨by kernel_rfl, ECall'.i hless ?_⟩
          by_cases g1 : l[i].lt m[k]
          · simp (config := { maxSteps := 4000000 }) only [SE, TF, KD, GE, eq_self, ne_eq, implies_true, forall_const, if_true, if_false, cond_true, cond_false, forall_eq, List.replicate, ↓reduceIte, Nat.reduceEqDiff, Nat.reduceLT, Nat.reduceAdd, Nat.reduceSub, Nat.reduceMul, Nat.reduceLeDiff, dec_lt h1, hke, getD_map h1, lt_int h1, getD_map h2, lt_int h2, g1, decide_true, wi]
            have hp := part_left hl hm hlx ha h1
            refine ⟨by kernel_rfl, ⟨by omega, by omega⟩, by simp, by omega, (i + 1, k), ⟨h1, hk, by omega, ahead_left hl ha h1 (fun _ => g1)⟩, ?_, ?_⟩
            · simp (config := { maxSteps := 4000000 }) only [SE, TF, KD, GE, eq_self, ne_eq, implies_true, forall_const, if_true, if_false, cond_true, cond_false, forall_eq, List.replicate, ↓reduceIte, Nat.reduceEqDiff, Nat.reduceLT, Nat.reduceAdd, Nat.reduceSub, Nat.reduceMul, Nat.reduceLeDiff, hp]
            · simp (config := { maxSteps := 4000000 }) only [SE, TF, KD, GE, eq_self, ne_eq, implies_true, forall_const, if_true, if_false, cond_true, cond_false, forall_eq, List.replicate, ↓reduceIte, Nat.reduceEqDiff, Nat.reduceLT, Nat.reduceAdd, Nat.reduceSub, Nat.reduceMul, Nat.reduceLeDiff, hp, List.map_append, List.length_append]
          · simp (config := { maxSteps := 4000000 }) only [SE, TF, KD, GE, eq_self, ne_eq, implies_true, forall_const, if_true, if_false, cond_true, cond_false, forall_eq, List.replicate, ↓reduceIte, Nat.reduceEqDiff, Nat.reduceLT, Nat.reduceAdd, Nat.reduceSub, Nat.reduceMul, Nat.reduceLeDiff, dec_lt h1, hke, hie, getD_map h1, lt_int h1, getD_map h2, lt_int h2, g1, decide_false]
            refine ⟨by kernel_rfl, ECall'.i hless2 ?_⟩
            by_cases g2 : m[k].lt l[i]
            · simp (config := { maxSteps := 4000000 }) only [SE, TF, KD, GE, eq_self, ne_eq, implies_true, forall_const, if_true, if_false, cond_true, cond_false, forall_eq, List.replicate, ↓reduceIte, Nat.reduceEqDiff, Nat.reduceLT, Nat.reduceAdd, Nat.reduceSub, Nat.reduceMul, Nat.reduceLeDiff, dec_lt h1, hke, hie, getD_map h1, lt_int h1, getD_map h2, lt_int h2, g2, decide_true, wk]
              have hp := part_right hl hm hmx ha h2
              refine ⟨by kernel_rfl, ⟨by omega, by omega⟩, by simp, by omega, (i, k + 1), ⟨hi, h2, by omega, ahead_right hm ha h2 (fun _ => g2)⟩, ?_, ?_⟩
              · simp (config := { maxSteps := 4000000 }) only [SE, TF, KD, GE, eq_self, ne_eq, implies_true, forall_const, if_true, if_false, cond_true, cond_false, forall_eq, List.replicate, ↓reduceIte, Nat.reduceEqDiff, Nat.reduceLT, Nat.reduceAdd, Nat.reduceSub, Nat.reduceMul, Nat.reduceLeDiff, hp]
              · simp (config := { maxSteps := 4000000 }) only [SE, TF, KD, GE, eq_self, ne_eq, implies_true, forall_const, if_true, if_false, cond_true, cond_false, forall_eq, List.replicate, ↓reduceIte, Nat.reduceEqDiff, Nat.reduceLT, Nat.reduceAdd, Nat.reduceSub, Nat.reduceMul, Nat.reduceLeDiff, hp, List.map_append, List.length_append]
            · have hpp := not_lt_pos g1 g2
              have hp := part_both hl hm hlx ha h1 h2 hpp
              have hxor := xorU_N l[i].x m[k].x
              unfold xorU at hxor
              have ha' := ahead_both hl hm ha h1 h2 hpp
              by_cases hz : xorN l[i].x m[k].x = 0
              · have hz' : (((xorN l[i].x m[k].x : Nat) : Int) != 0) = false := by simp [hz]
                rw [if_pos hz, List.append_nil] at hp
                simp (config := { maxSteps := 4000000 }) only [SE, TF, KD, GE, eq_self, ne_eq, implies_true, forall_const, if_true, if_false, cond_true, cond_false, forall_eq, List.replicate, ↓reduceIte, Nat.reduceEqDiff, Nat.reduceLT, Nat.reduceAdd, Nat.reduceSub, Nat.reduceMul, Nat.reduceLeDiff, dec_lt h1, hke, hie, getD_map h1, lt_int h1, getD_map h2, lt_int h2, g2, decide_false, wi, wk, hxor, hz']
                refine ⟨by kernel_rfl, by omega, (i + 1, k + 1), ⟨h1, h2, by omega, ha'⟩, ?_, ?_⟩
                · simp (config := { maxSteps := 4000000 }) only [SE, TF, KD, GE, eq_self, ne_eq, implies_true, forall_const, if_true, if_false, cond_true, cond_false, forall_eq, List.replicate, ↓reduceIte, Nat.reduceEqDiff, Nat.reduceLT, Nat.reduceAdd, Nat.reduceSub, Nat.reduceMul, Nat.reduceLeDiff, hp]
                · simp (config := { maxSteps := 4000000 }) only [SE, TF, KD, GE, eq_self, ne_eq, implies_true, forall_const, if_true, if_false, cond_true, cond_false, forall_eq, List.replicate, ↓reduceIte, Nat.reduceEqDiff, Nat.reduceLT, Nat.reduceAdd, Nat.reduceSub, Nat.reduceMul, Nat.reduceLeDiff, hp]
              · have hz' : (((xorN l[i].x m[k].x : Nat) : Int) != 0) = true := by simp [hz]
                rw [if_neg hz] at hp
                simp (config := { maxSteps := 4000000 }) only [SE, TF, KD, GE, eq_self, ne_eq, implies_true, forall_const, if_true, if_false, cond_true, cond_false, forall_eq, List.replicate, ↓reduceIte, Nat.reduceEqDiff, Nat.reduceLT, Nat.reduceAdd, Nat.reduceSub, Nat.reduceMul, Nat.reduceLeDiff, dec_lt h1, hke, hie, getD_map h1, lt_int h1, getD_map h2, lt_int h2, g2, decide_false, wi, wk, hxor, hz']
                refine ⟨by kernel_rfl, ⟨by omega, by omega⟩, by simp, by omega, (i + 1, k + 1), ⟨h1, h2, by omega, ha'⟩, ?_, ?_⟩
                · simp (config := { maxSteps := 4000000 }) only [SE, TF, KD, GE, eq_self, ne_eq, implies_true, forall_const, if_true, if_false, cond_true, cond_false, forall_eq, List.replicate, ↓reduceIte, Nat.reduceEqDiff, Nat.reduceLT, Nat.reduceAdd, Nat.reduceSub, Nat.reduceMul, Nat.reduceLeDiff, hp]
                · simp (config := { maxSteps := 4000000 }) only [SE, TF, KD, GE, eq_self, ne_eq, implies_true, forall_const, if_true, if_false, cond_true, cond_false, forall_eq, List.replicate, ↓reduceIte, Nat.reduceEqDiff, Nat.reduceLT, Nat.reduceAdd, Nat.reduceSub, Nat.reduceMul, Nat.reduceLeDiff, hp, List.map_append, List.length_append, patchOf]
        · have hke : ((k : Int) == (m.length : Int)) = true := by simp; omega
          simp (config := { maxSteps := 4000000 }) only [SE, TF, KD, GE, eq_self, ne_eq, implies_true, forall_const, if_true, if_false, cond_true, cond_false, forall_eq, List.replicate, ↓reduceIte, Nat.reduceEqDiff, Nat.reduceLT, Nat.reduceAdd, Nat.reduceSub, Nat.reduceMul, Nat.reduceLeDiff, dec_lt h1, hke, getD_map h1, lt_int h1, wi]
          refine ⟨by kernel_rfl, ?_⟩
          have hp := part_left hl hm hlx ha h1
          refine ⟨by kernel_rfl, ⟨by omega, by omega⟩, by simp, by omega, (i + 1, k), ⟨h1, hk, by omega, ahead_left hl ha h1 (fun hk => absurd hk (by omega))⟩, ?_, ?_⟩
          · simp (config := { maxSteps := 4000000 }) only [SE, TF, KD, GE, eq_self, ne_eq, implies_true, forall_const, if_true, if_false, cond_true, cond_false, forall_eq, List.replicate, ↓reduceIte, Nat.reduceEqDiff, Nat.reduceLT, Nat.reduceAdd, Nat.reduceSub, Nat.reduceMul, Nat.reduceLeDiff, hp]
          · simp (config := { maxSteps := 4000000 }) only [SE, TF, KD, GE, eq_self, ne_eq, implies_true, forall_const, if_true, if_false, cond_true, cond_false, forall_eq, List.replicate, ↓reduceIte, Nat.reduceEqDiff, Nat.reduceLT, Nat.reduceAdd, Nat.reduceSub, Nat.reduceMul, Nat.reduceLeDiff, hp, List.map_append, List.length_append]
      · rcases Nat.lt_or_ge k m.length with h2 | h2
        · have hke : ((k : Int) == (m.length : Int)) = false := by simp; omega
          have hie : ((i : Int) == (l.length : Int)) = true := by simp; omega
          simp (config := { maxSteps := 4000000 }) only [SE, TF, KD, GE, eq_self, ne_eq, implies_true, forall_const, if_true, if_false, cond_true, cond_false, forall_eq, List.replicate, ↓reduceIte, Nat.reduceEqDiff, Nat.reduceLT, Nat.reduceAdd, Nat.reduceSub, Nat.reduceMul, Nat.reduceLeDiff, dec_ge h1, dec_lt h2, hke, hie, getD_map h2, lt_int h2, wk]
          refine ⟨by kernel_rfl, by kernel_rfl, ?_⟩
          have hp := part_right hl hm hmx ha h2
          refine ⟨by kernel_rfl, ⟨by omega, by omega⟩, by simp, by omega, (i, k + 1), ⟨hi, h2, by omega, ahead_right hm ha h2 (fun hi => absurd hi (by omega))⟩, ?_, ?_⟩
          · simp (config := { maxSteps := 4000000 }) only [SE, TF, KD, GE, eq_self, ne_eq, implies_true, forall_const, if_true, if_false, cond_true, cond_false, forall_eq, List.replicate, ↓reduceIte, Nat.reduceEqDiff, Nat.reduceLT, Nat.reduceAdd, Nat.reduceSub, Nat.reduceMul, Nat.reduceLeDiff, hp]
          · simp (config := { maxSteps := 4000000 }) only [SE, TF, KD, GE, eq_self, ne_eq, implies_true, forall_const, if_true, if_false, cond_true, cond_false, forall_eq, List.replicate, ↓reduceIte, Nat.reduceEqDiff, Nat.reduceLT, Nat.reduceAdd, Nat.reduceSub, Nat.reduceMul, Nat.reduceLeDiff, hp, List.map_append, List.length_append]
        · have e1 : i = l.length := by omega
          have e2 : k = m.length := by omega
          subst e1 e2
          simp (config := { maxSteps := 4000000 }) only [SE, TF, KD, GE, eq_self, ne_eq, implies_true, forall_const, if_true, if_false, cond_true, cond_false, forall_eq, List.replicate, ↓reduceIte, Nat.reduceEqDiff, Nat.reduceLT, Nat.reduceAdd, Nat.reduceSub, Nat.reduceMul, Nat.reduceLeDiff, dec_ge h1, dec_ge h2, hend, ePR]
    · have hR : composeR l m = ([], 490) := by unfold composeR; rw [if_neg (fun h => hm h.2)]
      rw [hR]
      simp (config := { maxSteps := 4000000 }) only [SE, TF, KD, GE, eq_self, ne_eq, implies_true, forall_const, if_true, if_false, cond_true, cond_false, forall_eq, List.replicate, ↓reduceIte, Nat.reduceEqDiff, Nat.reduceLT, Nat.reduceAdd, Nat.reduceSub, Nat.reduceMul, Nat.reduceLeDiff, hl, decide_true]
      refine EFn.p ?_
      simp (config := { maxSteps := 4000000 }) only [SE, TF, KD, GE, eq_self, ne_eq, implies_true, forall_const, if_true, if_false, cond_true, cond_false, forall_eq, List.replicate, ↓reduceIte, Nat.reduceEqDiff, Nat.reduceLT, Nat.reduceAdd, Nat.reduceSub, Nat.reduceMul, Nat.reduceLeDiff]
      refine ECall.i (hnm) ?_
      simp (config := { maxSteps := 4000000 }) only [SE, TF, KD, GE, eq_self, ne_eq, implies_true, forall_const, if_true, if_false, cond_true, cond_false, forall_eq, List.replicate, ↓reduceIte, Nat.reduceEqDiff, Nat.reduceLT, Nat.reduceAdd, Nat.reduceSub, Nat.reduceMul, Nat.reduceLeDiff, hm, decide_false, ePR]
  · have hR : composeR l m = ([], 490) := by unfold composeR; rw [if_neg (fun h => hl h.1)]
    rw [hR]
    simp (config := { maxSteps := 4000000 }) only [SE, TF, KD, GE, eq_self, ne_eq, implies_true, forall_const, if_true, if_false, cond_true, cond_false, forall_eq, List.replicate, ↓reduceIte, Nat.reduceEqDiff, Nat.reduceLT, Nat.reduceAdd, Nat.reduceSub, Nat.reduceMul, Nat.reduceLeDiff, hl, decide_false, ePR]
end Go.Proofs.Ytcamhcnjomddbaa

/-
  PLAIN: a list cut into parts, one element after the other.
-/
namespace Go.Proofs.Ytcamhcnjomddbaa
open Go.Aw
def partsTo (n : Nat) (l : List Patch) : Nat → List (List Patch)
  | 0 => []
  | i + 1 => if i % n = 0 then partsTo n l i ++ [[l.getD i default]] else (partsTo n l i).set ((partsTo n l i).length - 1) ((partsTo n l i).getD ((partsTo n l i).length - 1) [] ++ [l.getD i default])
def partsAt (n : Nat) (l : List Patch) (K r : Nat) : List (List Patch) := (List.range K).map (chunk n l) ++ (if r = 0 then [] else [(l.drop (K * n)).take r])
theorem take_step1 (l : List Patch) (a r : Nat) (h : a + r < l.length) : (l.drop a).take (r + 1) = (l.drop a).take r ++ [l.getD (a + r) default] := by
  have h1 : r < (l.drop a).length := by simp; omega
  rw [List.take_succ_eq_append_getElem h1]
  simp [List.getD, h]
theorem partsAt_full (n : Nat) (l : List Patch) (K : Nat) : (List.range K).map (chunk n l) ++ [(l.drop (K * n)).take n] = partsAt n l (K + 1) 0 := by
  unfold partsAt
  rw [List.range_succ, List.map_append]
  simp [chunk]
theorem partsTo_at (n : Nat) (hn : 0 < n) (l : List Patch) : ∀ i, i ≤ l.length → partsTo n l i = partsAt n l (i / n) (i % n)
  | 0, _ => by simp [partsTo, partsAt]
  | i + 1, hi => by
    have ih := partsTo_at n hn l i (by omega)
    obtain ⟨K, hK⟩ : ∃ K, i / n = K := ⟨_, rfl⟩
    obtain ⟨r, hr⟩ : ∃ r, i % n = r := ⟨_, rfl⟩
    have hrn : r < n := by rw [← hr]; exact Nat.mod_lt _ hn
    have hir : i = K * n + r := by rw [← hK, ← hr, Nat.mul_comm]; exact (Nat.div_add_mod i n).symm
    rw [hK, hr] at ih
    have hstep : partsTo n l (i + 1) = (List.range K).map (chunk n l) ++ [(l.drop (K * n)).take (r + 1)] := by
      have hts := take_step1 l (K * n) r (by omega)
      rw [← hir] at hts
      rw [partsTo, hr]
      by_cases h0 : r = 0
      · rw [if_pos h0, ih, hts]
        subst h0
        simp [partsAt]
      · have hl : (partsAt n l K r).length = K + 1 := by simp [partsAt, h0]
        rw [if_neg h0, ih, hl, Nat.add_sub_cancel, hts]
        unfold partsAt
        rw [if_neg h0]
        have hlen : ((List.range K).map (chunk n l)).length = K := by simp
        rw [List.set_append_right _ _ (by rw [hlen]; exact Nat.le_refl _), hlen, Nat.sub_self]
        simp [List.getD]
    rw [hstep]
    by_cases h1 : r + 1 = n
    · have e1 : (i + 1) / n = K + 1 := by rw [hir, Nat.add_assoc, h1, ← Nat.succ_mul]; exact Nat.mul_div_cancel _ hn
      have e2 : (i + 1) % n = 0 := by rw [hir, Nat.add_assoc, h1, ← Nat.succ_mul]; exact Nat.mul_mod_left _ _
      rw [e1, e2, h1, partsAt_full]
    · have hlt : r + 1 < n := by omega
      have e1 : (i + 1) / n = K := by
        rw [hir, Nat.add_assoc, Nat.add_comm, Nat.add_mul_div_right _ _ hn, Nat.div_eq_of_lt hlt, Nat.zero_add]
      have e2 : (i + 1) % n = r + 1 := by
        rw [hir, Nat.add_assoc, Nat.add_comm, Nat.add_mul_mod_self_right, Nat.mod_eq_of_lt hlt]
      rw [e1, e2, partsAt, if_neg (by omega)]
theorem partsTo_end (n : Nat) (hn : 0 < n) (l : List Patch) : partsTo n l l.length = chunks n l := by
  rw [partsTo_at n hn l _ (Nat.le_refl _)]
  obtain ⟨K, hK⟩ : ∃ K, l.length / n = K := ⟨_, rfl⟩
  obtain ⟨r, hr⟩ : ∃ r, l.length % n = r := ⟨_, rfl⟩
  have hrn : r < n := by rw [← hr]; exact Nat.mod_lt _ hn
  have hir : l.length = K * n + r := by rw [← hK, ← hr, Nat.mul_comm]; exact (Nat.div_add_mod _ n).symm
  rw [hK, hr]
  unfold partsAt chunks
  have hc : nCh l.length n = if r = 0 then K else K + 1 := by
    unfold nCh
    rw [hir]
    split
    · rename_i h0; subst h0
      rw [Nat.add_zero, Nat.add_sub_assoc (by omega), Nat.add_comm, Nat.add_mul_div_right _ _ hn, Nat.div_eq_of_lt (by omega), Nat.zero_add]
    · rename_i h0
      have : K * n + r + n - 1 = (r - 1) + (K + 1) * n := by rw [Nat.add_mul, Nat.one_mul]; omega
      rw [this, Nat.add_mul_div_right _ _ hn, Nat.div_eq_of_lt (by omega), Nat.zero_add]
  rw [hc]
  by_cases h0 : r = 0
  · simp [h0]
  · rw [if_neg h0, if_neg h0, List.range_succ, List.map_append]
    congr 1
    simp only [List.map_cons, List.map_nil, chunk]
    rw [List.take_of_length_le (by simp; omega), List.take_of_length_le (by simp; omega)]
theorem partsTo_len (n : Nat) (l : List Patch) : ∀ i, (partsTo n l i).length ≤ i
  | 0 => by simp [partsTo]
  | i + 1 => by
    have ih := partsTo_len n l i
    rw [partsTo]
    split <;> simp <;> omega
theorem partsTo_pos (n : Nat) (hn : 0 < n) (l : List Patch) (i : Nat) (h : i % n ≠ 0) (hi : i ≤ l.length) : 0 < (partsTo n l i).length := by
  rw [partsTo_at n hn l i hi]
  simp [partsAt, h]
end Go.Proofs.Ytcamhcnjomddbaa

/-
  CONTRACTS: lists cut into parts, in the reference.
-/
namespace Go.Proofs.Ytcamhcnjomddbaa
open Go.Aw
set_option maxRecDepth 100000
set_option maxHeartbeats 4000000
def rPs (P : List (List Patch)) : List (List D) := P.map eCh
theorem rPs_len (P : List (List Patch)) : (rPs P).length = P.length := by simp [rPs]
theorem chunk_len' (n : Nat) (l : List Patch) (k : Nat) : (chunk n l k).length = min n (l.length - k * n) := by unfold chunk; simp
theorem splitIn_c (l : List Patch) (n : Int) (hn2 : n ≤ 9223372036854775807) (hl : l.length ≤ 1000000) : FnP Try.prog 25 [ePatches l, eI n] (.d (ePS (splitR l n))) [] := by
  refine FnP.of_eC (own := [(24, [(65, 4)])]) (fun id => if id = 3 then [.adBd 5 0 90 28 1 [(65, 4)]] else []) mixed Try.func25 rfl Try.call25 Try.ntmps25 (Nat.le_of_ble_eq_true rfl) Try.results25 (fun hok => ?_)
  by_cases hn : n < 1
  · simp (config := { maxSteps := 4000000 }) only [SE, TF, KD, GE, eq_self, ne_eq, implies_true, forall_const, if_true, if_false, cond_true, cond_false, forall_eq, List.replicate, ↓reduceIte, Nat.reduceEqDiff, Nat.reduceLT, Nat.reduceAdd, Nat.reduceSub, Nat.reduceMul, Nat.reduceLeDiff, hn, splitR, ePS, eParts]
  · obtain ⟨N, rfl⟩ := Int.eq_ofNat_of_zero_le (show 0 ≤ n by omega)
    have hN : 0 < N := by omega
    simp (config := { maxSteps := 4000000 }) only [SE, TF, KD, GE, eq_self, ne_eq, implies_true, forall_const, if_true, if_false, cond_true, cond_false, forall_eq, List.replicate, ↓reduceIte, Nat.reduceEqDiff, Nat.reduceLT, Nat.reduceAdd, Nat.reduceSub, Nat.reduceMul, Nat.reduceLeDiff, hn]
    refine eloopL (fun i id => if id = 1009 then [.opn 90 ((partsTo N l (i + 1)).length - 1) 0 91 ((if i % N = 0 then [] else (partsTo N l i).getD ((partsTo N l i).length - 1) []).map ePatch)] else if id = 9 then [.cls 90 ((partsTo N l (i + 1)).length - 1) 0 91] else if id = 2009 then [.ord ⟨[(0, none), (1, none), (2, none), (3, none), (4, none), (5, none), (6, none), (7, none), (8, none), (9, none), (10, none), (11, none), (12, none), (13, none), (14, none), (15, none), (16, none), (17, none), (18, none), (19, some [0, 1, 2, 3, 4, 5, 6, 7, 8, 9, 10, 11, 14, 15, 16]), (20, some []), (21, some [])]⟩] else []) mixed l.length (fun i => True) (fun i => ([(0, .d (ePatches l)), (1, .d (eI N)), (4, .bp 4 0), (5, .bp 5 0), (6, .d (eI i))], [(4, .box [.nils, .d (eI 0)]), (5, .box [.ar 90 (partsTo N l i).length, .d (eI 0)]), (90, .arr 28 1 (.deep [(65, 4)] []) (rPs (partsTo N l i)))])) ?_ ?_ ?_ (fun i hi hI => ?_)
    · trivial
    · simp [SE, TF, KD, GE, eq_self, ne_eq, implies_true, forall_const, if_true, if_false, cond_true, cond_false, forall_eq, List.replicate, ↓reduceIte, Nat.reduceEqDiff, Nat.reduceLT, Nat.reduceAdd, Nat.reduceSub, Nat.reduceMul, Nat.reduceLeDiff]
    · simp [SE, TF, KD, GE, eq_self, ne_eq, implies_true, forall_const, if_true, if_false, cond_true, cond_false, forall_eq, List.replicate, ↓reduceIte, Nat.reduceEqDiff, Nat.reduceLT, Nat.reduceAdd, Nat.reduceSub, Nat.reduceMul, Nat.reduceLeDiff, partsTo, rPs]
    rcases Nat.lt_or_ge i l.length with h | h
    · have hw := wrap_succ (show i < 9223372036854775807 by omega)
      have hplen := partsTo_len N l i
      have hrem : Int.tmod (i : Int) (N : Int) = ((i % N : Nat) : Int) := rfl
      have hd : l.getD i default = l[i] := by simp [List.getD, h]
      by_cases hz : i % N = 0
      · have hz' : (((i % N : Nat) : Int) == 0) = true := by simp [hz]
        have hst : partsTo N l (i + 1) = partsTo N l i ++ [[l[i]]] := by rw [partsTo, if_pos hz, hd]
        obtain ⟨P, hP⟩ : ∃ P, partsTo N l i = P := ⟨_, rfl⟩
        rw [hP] at hst hplen
        have hm1 : IntKind.i64.wrap (((P.length + 1 : Nat) : Int) - 1) = (P.length : Int) := by rw [wrap_id (by omega) (by omega)]; omega
        have hlp : (0 ≤ (P.length : Int) ∧ (P.length : Int) < ((P.length + 1 : Nat) : Int)) = True := by simp; omega
        simp (config := { maxSteps := 4000000 }) only [SE, TF, KD, GE, eq_self, ne_eq, implies_true, forall_const, if_true, if_false, cond_true, cond_false, forall_eq, List.replicate, ↓reduceIte, Nat.reduceEqDiff, Nat.reduceLT, Nat.reduceAdd, Nat.reduceSub, Nat.reduceMul, Nat.reduceLeDiff, dec_lt h, hrem, hz', hw, hP, hst, hz, rPs_len, List.length_append, Nat.add_sub_cancel, getD_map h, lt_int h, hm1, hlp, Int.toNat_natCast]
        have hg : (rPs P ++ [[D.sl []]]).getD P.length [] = [D.sl []] := by
          have : P.length = (rPs P).length := (rPs_len P).symm
          rw [this]; simp [List.getD]
        have hs : ∀ x y : List D, (rPs P ++ [x]).set P.length y = rPs P ++ [y] := by
          intro x y
          have : P.length = (rPs P).length := (rPs_len P).symm
          rw [this, List.set_append_right _ _ (Nat.le_refl _), Nat.sub_self]; rfl
        rw [hg, hs]
        refine ⟨by omega, ⟨by omega, by omega⟩, ⟨by omega, rfl⟩, by kernel_rfl, by omega, by omega, by omega, h, ?_⟩
        simp [rPs, eCh, ePatches, ePatch, eI, eU]
      · have hz' : (((i % N : Nat) : Int) == 0) = false := by rw [beq_eq_false_iff_ne]; omega
        have hpos := partsTo_pos N hN l i hz hi
        have hst : partsTo N l (i + 1) = (partsTo N l i).set ((partsTo N l i).length - 1) ((partsTo N l i).getD ((partsTo N l i).length - 1) [] ++ [l[i]]) := by rw [partsTo, if_neg hz, hd]
        obtain ⟨P, hP⟩ : ∃ P, partsTo N l i = P := ⟨_, rfl⟩
        rw [hP] at hst hplen hpos
        obtain ⟨K, hK⟩ : ∃ K, P.length - 1 = K := ⟨_, rfl⟩
        have hKP : K < P.length := by omega
        rw [hK] at hst
        have hgP : P.getD K [] = P[K] := by simp [List.getD, hKP]
        rw [hgP] at hst
        have hm1 : IntKind.i64.wrap ((P.length : Int) - 1) = (K : Int) := by rw [wrap_id (by omega) (by omega)]; omega
        have hlp : (0 ≤ (K : Int) ∧ (K : Int) < (P.length : Int)) = True := by simp; omega
        have hPK : P[K].length ≤ i := by
          have h3 : P[K] ∈ partsTo N l i := by rw [hP]; exact List.getElem_mem hKP
          rw [partsTo_at N hN l i hi] at h3
          unfold partsAt at h3
          rcases List.mem_append.1 h3 with h4 | h4
          · obtain ⟨k, hk, e⟩ := List.mem_map.1 h4
            rw [← e, chunk_len']
            have := List.mem_range.1 hk
            have h6 := Nat.div_mul_le_self i N
            have h7 : N ≤ i := by
              rcases Nat.lt_or_ge i N with h8 | h8
              · rw [Nat.div_eq_of_lt h8] at this; omega
              · exact h8
            omega
          · split at h4
            · cases h4
            · simp only [List.mem_singleton] at h4
              rw [h4, List.length_take]
              have := Nat.mod_le i N
              omega
        simp (config := { maxSteps := 4000000 }) only [SE, TF, KD, GE, eq_self, ne_eq, implies_true, forall_const, if_true, if_false, cond_true, cond_false, forall_eq, List.replicate, ↓reduceIte, Nat.reduceEqDiff, Nat.reduceLT, Nat.reduceAdd, Nat.reduceSub, Nat.reduceMul, Nat.reduceLeDiff, dec_lt h, hrem, hz', hw, hP, hst, hz, rPs_len, List.length_set, hK, hgP, getD_map h, lt_int h, hm1, hlp, Int.toNat_natCast]
        have hg : (rPs P).getD K [] = [D.sl (List.map ePatch P[K])] := by simp [rPs, List.getD, hKP, eCh, ePatches]
        rw [hg]
        refine ⟨by omega, ⟨hKP, rfl⟩, by kernel_rfl, hKP, ⟨by omega, by omega⟩, ⟨hKP, by simp⟩, ⟨hKP, by simp⟩, h, ?_⟩
        simp [rPs, eCh, ePatches, ePatch, eI, eU, List.map_set]
    · have : i = l.length := by omega
      subst this
      simp (config := { maxSteps := 4000000 }) only [SE, TF, KD, GE, eq_self, ne_eq, implies_true, forall_const, if_true, if_false, cond_true, cond_false, forall_eq, List.replicate, ↓reduceIte, Nat.reduceEqDiff, Nat.reduceLT, Nat.reduceAdd, Nat.reduceSub, Nat.reduceMul, Nat.reduceLeDiff, dec_ge h, splitR, hn, ePS, eParts, partsTo_end N hN, Int.toNat_natCast, rPs_len]
      rfl
end Go.Proofs.Ytcamhcnjomddbaa

/-
  PLAIN: what a list of patches holds at a position, found by going through it.
-/
namespace Go.Proofs.Ytcamhcnjomddbaa
open Go.Aw
def lastX (l : List Patch) (p : Pos) : Nat := l.foldl (fun a q => if posOf q = p then q.x else a) 0
theorem lastX_step (l : List Patch) (p : Pos) (j : Nat) (h : j < l.length) : lastX (l.take (j + 1)) p = if posOf l[j] = p then l[j].x else lastX (l.take j) p := by
  rw [List.take_succ_eq_append_getElem h, lastX, List.foldl_append]; rfl
theorem lastX_val {l : List Patch} (hn : (l.map posOf).Nodup) (p : Pos) : lastX l p = (valL l p).getD 0 := by
  have key : ∀ (l : List Patch) (a : Nat), (l.map posOf).Nodup → l.foldl (fun a q => if posOf q = p then q.x else a) a = (valL l p).getD a := by
    intro l
    induction l with
    | nil => intro a _; rfl
    | cons q l ih =>
      intro a hn
      simp only [List.map_cons, List.nodup_cons] at hn
      rw [List.foldl_cons, ih _ hn.2]
      by_cases h : posOf q = p
      · have h1 : valL (q :: l) p = some q.x := by simp [valL, h]
        have h2 : valL l p = none := by
          rw [valL_none]
          intro q' hq' e
          exact hn.1 (List.mem_map.2 ⟨q', hq', e.trans h.symm⟩)
        rw [h1, h2, if_pos h]; rfl
      · have h1 : valL (q :: l) p = valL l p := by simp [valL, h]
        rw [h1, if_neg h]
  exact key l 0 hn
/-- Where a list was applied, words differ by what it holds. -/
theorem applied_word {A : Frames} {l : List Patch} (hb : bnd A) (hx : ∀ q ∈ l, q.x < W64) (h : Fits A l) {p : Pos} (hp : p ∈ posA A) : xorN (wordAt (applyL A l) p) (wordAt A p) = lastX l p := by
  rw [lastX_val (normal_nodup h.2), wordAt_applyL l A (fun q hq => fit1_iff.1 (h.1 q hq)) (normal_nodup h.2) p hp]
  cases hv : valL l p with
  | none => exact xorN_self (hb p)
  | some x =>
    have : x < W64 := by
      unfold valL at hv
      obtain ⟨q, hq, rfl⟩ := Option.map_eq_some_iff.1 hv
      exact hx q (List.mem_of_find?_eq_some hq)
    simp only [Option.getD_some]
    rw [xorN_comm (wordAt A p) x, xorN_twice this (hb p)]
end Go.Proofs.Ytcamhcnjomddbaa

/-
  PLAIN: digests of frames that differ in one word differ; stale frames.
-/
namespace Go.Proofs.Ytcamhcnjomddbaa
open Go.Aw
theorem mulU {x : Nat} {c : Nat} : IntKind.u64.wrap ((x : Int) * (c : Int)) = ((x * c % W64 : Nat) : Int) := by
  unfold W64
  simp only [IntKind.wrap, IntKind.bits, IntKind.signed]
  simp
theorem mul_inj {c d : Nat} (hcd : c * d % W64 = 1) {x y : Nat} (hx : x < W64) (hy : y < W64) (h : x * c % W64 = y * c % W64) : x = y := by
  have key : ∀ z : Nat, z < W64 → (z * c % W64) * d % W64 = z := by
    intro z hz
    rw [Nat.mod_mul_mod, Nat.mul_assoc, Nat.mul_mod, hcd, Nat.mul_one, Nat.mod_mod, Nat.mod_eq_of_lt hz]
  rw [← key x hx, ← key y hy, h]
theorem shr_inj {x y : Nat} (hx : x < W64) (hy : y < W64) (h : xorN x (x / 4294967296) = xorN y (y / 4294967296)) : x = y := by
  have key : ∀ z : Nat, z < W64 → xorN (xorN z (z / 4294967296)) (xorN z (z / 4294967296) / 4294967296) = z := by
    intro z hz
    have h0 : ∀ a : Nat, a / 4294967296 = a >>> 32 := fun a => by rw [Nat.shiftRight_eq_div_pow]
    have hz2 : z >>> 32 < W64 := by rw [← h0]; unfold W64 at *; omega
    rw [h0, h0, xorN_eq hz hz2, Nat.shiftRight_xor_distrib, ← Nat.shiftRight_add]
    have hz3 : z >>> (32 + 32) = 0 := by rw [Nat.shiftRight_eq_div_pow]; unfold W64 at hz; omega
    have hl : z ^^^ z >>> 32 < W64 := Nat.xor_lt_two_pow (n := 64) hz hz2
    rw [hz3, Nat.xor_zero, xorN_eq hl hz2, Nat.xor_assoc, Nat.xor_self, Nat.xor_zero]
  rw [← key x hx, ← key y hy, h]
def stepAN (h w : Nat) : Nat := xorN h w * 15485907386658061715 % W64
def stepN (h w : Nat) : Nat := xorN (stepAN h w) (stepAN h w / 4294967296) * 11562461410679940143 % W64
theorem stepA_N (h w : Nat) : stepA h w = (stepAN h w : Int) := by
  unfold stepA stepAN
  rw [xorU_N]
  exact mulU (c := 15485907386658061715)
theorem fdivN (a : Nat) : Int.fdiv (a : Int) (2 ^ (min (Int.toNat 32) IntKind.u64.bits)) = ((a / 4294967296 : Nat) : Int) := by
  have e : (2 : Int) ^ (min (Int.toNat 32) IntKind.u64.bits) = ((4294967296 : Nat) : Int) := rfl
  rw [e, Int.fdiv_eq_ediv_of_nonneg _ (by omega)]
  rfl
theorem stepI_N (h w : Nat) : stepI h w = (stepN h w : Int) := by
  unfold stepI
  rw [stepA_N, fdivN, xorU_N]
  unfold stepN
  exact mulU (c := 11562461410679940143)
theorem stepN_lt (h w : Nat) : stepN h w < W64 := by unfold stepN; exact Nat.mod_lt _ (by decide)
theorem stepN_inj {h w h' w' : Nat} (e : stepN h w = stepN h' w') : xorN h w = xorN h' w' := by
  unfold stepN stepAN at e
  have h1 := mul_inj (d := 10636502746458383055) (by decide) (xorN_lt _ _) (xorN_lt _ _) e
  have h2 := shr_inj (Nat.mod_lt _ (by decide)) (Nat.mod_lt _ (by decide)) h1
  exact mul_inj (d := 14982988110149298331) (by decide) (xorN_lt _ _) (xorN_lt _ _) h2
theorem xorN_cancel {a b c : Nat} (ha : a < W64) (hb : b < W64) (hc : c < W64) (h : xorN a b = xorN a c) : b = c := by
  rw [← xorN_back ha hb, h, xorN_back ha hc]
theorem stepN_h {h w h' : Nat} (hh : h < W64) (hw : w < W64) (hh' : h' < W64) (e : stepN h w = stepN h' w) : h = h' := by
  have := stepN_inj e
  rw [xorN_comm h, xorN_comm h'] at this
  exact xorN_cancel hw hh hh' this
theorem stepN_w {h w w' : Nat} (hh : h < W64) (hw : w < W64) (hw' : w' < W64) (e : stepN h w = stepN h w') : w = w' := xorN_cancel hh hw hw' (stepN_inj e)
def foldN (a : Nat) (l : List Nat) : Nat := l.foldl stepN a
theorem foldN_lt : ∀ (l : List Nat) {a : Nat}, a < W64 → foldN a l < W64
  | [], _, h => h
  | _ :: l, _, _ => foldN_lt l (stepN_lt _ _)
theorem wrap_toI {w : Nat} (h : w < W64) : IntKind.u64.wrap (toI w) = w := by
  unfold toI W64 at *
  simp only [IntKind.wrap, IntKind.bits, IntKind.signed]
  simp
  omega
theorem fold_N : ∀ (l : List Nat) (a : Nat), (∀ w ∈ l, w < W64) → (l.map toI).foldl (fun h x => stepI h (IntKind.u64.wrap x)) (a : Int) = (foldN a l : Int)
  | [], _, _ => rfl
  | w :: l, a, h => by
    rw [List.map_cons, List.foldl_cons, wrap_toI (h w (by simp)), stepI_N, fold_N l _ (fun x hx => h x (by simp [hx]))]
    rfl
theorem digI_N {ws : List Nat} (h : ∀ w ∈ ws, w < W64) : digI ws = (stepN (foldN 512970876019 ws) (ws.length % W64) : Int) := by
  unfold digI wordsI
  have e : IntKind.u64.wrap (((ws.map toI).length : Nat) : Int) = ((ws.length % W64 : Nat) : Int) := by
    rw [List.length_map]
    unfold W64
    simp only [IntKind.wrap, IntKind.bits, IntKind.signed]
    simp
  have h2 := fold_N ws 512970876019 h
  rw [e, show (512970876019 : Int) = ((512970876019 : Nat) : Int) from rfl, h2, stepI_N]
theorem foldN_inj : ∀ (l : List Nat) {a b : Nat}, a < W64 → b < W64 → (∀ w ∈ l, w < W64) → foldN a l = foldN b l → a = b
  | [], _, _, _, _, _, h => h
  | w :: l, a, b, ha, hb, hl, h => stepN_h ha (hl w (by simp)) hb (foldN_inj l (stepN_lt _ _) (stepN_lt _ _) (fun x hx => hl x (by simp [hx])) h)
/-- One word set to another one: another digest. -/
theorem digI_set {ws : List Nat} (h : ∀ w ∈ ws, w < W64) {k v : Nat} (hk : k < ws.length) (hv : v < W64) (hne : ws[k] ≠ v) : digI ws ≠ digI (ws.set k v) := by
  intro e
  have h' : ∀ w ∈ ws.set k v, w < W64 := by
    intro w hw
    rcases List.mem_or_eq_of_mem_set hw with hw | rfl
    · exact h w hw
    · exact hv
  rw [digI_N h, digI_N h', List.length_set] at e
  have e1 : stepN (foldN 512970876019 ws) (ws.length % W64) = stepN (foldN 512970876019 (ws.set k v)) (ws.length % W64) := by omega
  have e2 := stepN_h (foldN_lt ws (by decide)) (Nat.mod_lt _ (by decide)) (foldN_lt _ (by decide)) e1
  have s1 : foldN 512970876019 ws = foldN 512970876019 (ws.take k ++ ws[k] :: ws.drop (k + 1)) := by simp
  have s2 : ws.set k v = ws.take k ++ v :: ws.drop (k + 1) := List.set_eq_take_append_cons_drop.trans (by rw [if_pos hk])
  rw [s2] at e2
  rw [s1] at e2
  simp only [foldN, List.foldl_append, List.foldl_cons] at e2
  have hd : ∀ w ∈ ws.drop (k + 1), w < W64 := fun w hw => h w (List.mem_of_mem_drop hw)
  have e3 := foldN_inj (ws.drop (k + 1)) (stepN_lt _ _) (stepN_lt _ _) hd e2
  exact hne (stepN_w (foldN_lt (ws.take k) (by decide)) (h _ (by simp)) hv e3)

/-! ### Stale frames -/
def frs (A : Frames) : List (Nat × Nat) := (List.range A.length).flatMap fun i => (List.range (A.getD i []).length).map fun j => (i, j)
theorem staleTo_eq (R : List (List Int)) (A : Frames) (n : Nat) : staleTo R A n = (List.range n).flatMap fun i => staleRow R A i (A.getD i []).length := by
  induction n with
  | zero => rfl
  | succ n ih => simp only [staleTo, ih, List.range_succ, List.flatMap_append, List.flatMap_cons, List.flatMap_nil, List.append_nil]
theorem stale_eq (R : List (List Int)) (A : Frames) : stale R A = ((frs A).filter fun q => staleAt R A q.1 q.2).map fun q => ((q.1 : Int), (q.2 : Int)) := by
  unfold stale frs
  rw [staleTo_eq, List.filter_flatMap, List.map_flatMap]
  congr 1; funext i
  rw [staleRow, List.filter_map, List.map_map]
  rfl
theorem mem_frs {A : Frames} {q : Nat × Nat} : q ∈ frs A ↔ q.1 < A.length ∧ q.2 < (A.getD q.1 []).length := by
  unfold frs
  simp only [List.mem_flatMap, List.mem_range, List.mem_map]
  constructor
  · rintro ⟨i, hi, j, hj, rfl⟩; exact ⟨hi, hj⟩
  · rintro ⟨h1, h2⟩; exact ⟨q.1, h1, q.2, h2, rfl⟩
theorem frs_nodup (A : Frames) : (frs A).Nodup := by
  unfold frs
  rw [List.nodup_iff_pairwise_ne, List.pairwise_flatMap]
  refine ⟨fun i _ => ?_, ?_⟩
  · rw [List.pairwise_map]
    refine List.pairwise_lt_range.imp fun h e => ?_
    simp only [Prod.mk.injEq] at e
    omega
  · refine List.pairwise_lt_range.imp fun h => ?_
    simp only [List.mem_map, List.mem_range]
    rintro _ ⟨j, _, rfl⟩ _ ⟨j', _, rfl⟩ e
    simp only [Prod.mk.injEq] at e
    omega
theorem filter_one {α : Type} [DecidableEq α] {l : List α} {x : α} {p : α → Bool} (hn : l.Nodup) (hx : x ∈ l) (hp : ∀ y ∈ l, p y = true ↔ y = x) : l.filter p = [x] := by
  induction l with
  | nil => cases hx
  | cons y l ih =>
    rw [List.nodup_cons] at hn
    rw [List.filter_cons]
    by_cases h : y = x
    · subst h
      rw [if_pos ((hp y (by simp)).2 rfl)]
      congr 1
      rw [List.filter_eq_nil_iff]
      intro z hz hz2
      have := (hp z (by simp [hz])).1 hz2
      subst this
      exact hn.1 hz
    · rw [if_neg (fun h2 => h ((hp y (by simp)).1 h2))]
      exact ih hn.2 ((List.mem_cons.1 hx).resolve_left (Ne.symm h)) (fun z hz => hp z (by simp [hz]))
theorem staleAt_dig {f g : Frames} (h : shape f = shape g) {i j : Nat} (h1 : i < g.length) (h2 : j < (g.getD i []).length) : staleAt (digests f) g i j = !decide (digI ((f.getD i []).getD j []) = digI ((g.getD i []).getD j [])) := by
  have h1' : i < f.length := by rw [shape_len h]; exact h1
  have e1 : (digests f).getD i [] = (f.getD i []).map digI := by simp [digests, List.getD, h1']
  have hlen : (f.getD i []).length = (g.getD i []).length := by
    have : ((shape f).getD i []).length = ((shape g).getD i []).length := by rw [h]
    rw [getD_shape, getD_shape, List.length_map, List.length_map] at this
    exact this
  have h2' : j < (f.getD i []).length := by omega
  have e2 : ((digests f).getD i []).getD j 0 = digI ((f.getD i []).getD j []) := by
    rw [e1]
    simp only [List.getD, List.getElem?_map]
    have : ((f[i]?.getD [])[j]?) = some ((f.getD i [])[j]'h2') := by
      rw [← List.getD_eq_getElem?_getD]; exact List.getElem?_eq_getElem h2'
    rw [this]
    rfl
  unfold staleAt
  rw [e2]
  have h3 : i < (digests f).length := by simpa [digests] using h1'
  have h4 : j < ((digests f).getD i []).length := by rw [e1]; simpa using h2'
  congr 1
  exact decide_eq_decide.2 ⟨fun x => x.2.2, fun x => ⟨h3, h4, x⟩⟩
theorem stale_self (f : Frames) : stale (digests f) f = [] := by
  rw [stale_eq]
  have : (frs f).filter (fun q => staleAt (digests f) f q.1 q.2) = [] := by
    rw [List.filter_eq_nil_iff]
    intro q hq
    obtain ⟨h1, h2⟩ := mem_frs.1 hq
    rw [staleAt_dig rfl h1 h2]
    simp
  rw [this]; rfl
end Go.Proofs.Ytcamhcnjomddbaa

/-
  PLAIN: sets that differ in one word: their difference, their stale frames.
-/
namespace Go.Proofs.Ytcamhcnjomddbaa
open Go.Aw
theorem frame_setW {f : Frames} {i j k v : Nat} (h1 : i < f.length) (h2 : j < (f.getD i []).length) (a b : Nat) :
    ((setW f i j k v).getD a []).getD b [] = if a = i ∧ b = j then (((f.getD i []).getD j []).set k v) else (f.getD a []).getD b [] := by
  unfold setW
  rw [getD_set]
  by_cases e1 : a = i
  · subst e1
    simp only [h1, and_self, if_true, true_and]
    rw [getD_set]
    by_cases e2 : b = j
    · subst e2; simp only [h2, and_self, if_true]
    · simp only [e2, false_and, if_false]
  · simp only [e1, false_and, if_false]
def wordsLt (f : Frames) : Prop := ∀ i j, ∀ w ∈ (f.getD i []).getD j [], w < W64
theorem wordsLt_of {f : Frames} (h : bnd f) : wordsLt f := by
  intro i j w hw
  obtain ⟨k, hk, rfl⟩ := List.getElem_of_mem hw
  have := h ⟨i, j, k⟩
  simp only [wordAt, Int.toNat_natCast] at this
  rwa [List.getD_eq_getElem?_getD, List.getElem?_eq_getElem hk] at this
theorem one_word {f : Frames} (hb : bnd f) {i j k v : Nat} (h1 : i < f.length) (h2 : j < (f.getD i []).length) (h3 : k < ((f.getD i []).getD j []).length) (hv : v < W64) (hne : wordAt f ⟨i, j, k⟩ ≠ v) :
    dl f (setW f i j k v) = [⟨i, j, k, xorN (wordAt f ⟨i, j, k⟩) v⟩] ∧ stale (digests f) (setW f i j k v) = [((i : Int), (j : Int))] := by
  have hs : shape f = shape (setW f i j k v) := (shape_setW _ _ _ _ _).symm
  have hp : (⟨i, j, k⟩ : Pos) ∈ posA f := mem_posA.2 ⟨i, j, k, h1, h2, h3, rfl⟩
  constructor
  · refine sorted_ext _ _ (dl_pairwise _ _) (by simp) (fun q => ?_)
    rw [mem_dl, List.mem_singleton]
    have hx : ∀ p ∈ posA f, xorAt f (setW f i j k v) p = if p = ⟨i, j, k⟩ then xorN (wordAt f ⟨i, j, k⟩) v else 0 := by
      intro p hp
      obtain ⟨i', j', k', _, _, _, rfl⟩ := mem_posA.1 hp
      unfold xorAt
      rw [wordAt_setW h1 h2 h3]
      by_cases e : i' = i ∧ j' = j ∧ k' = k
      · obtain ⟨rfl, rfl, rfl⟩ := e; simp
      · rw [if_neg e, if_neg, xorN_self (hb _)]
        intro hh
        simp only [Pos.mk.injEq] at hh
        omega
    constructor
    · rintro ⟨a1, a2, a3⟩
      rw [hx _ a1] at a2
      split at a2
      · rename_i e
        simp only [posOf, Pos.mk.injEq] at e
        obtain ⟨e1, e2, e3⟩ := e
        cases q
        simp only at *
        subst e1 e2 e3 a2
        rfl
      · exact absurd a2.symm a3
    · rintro rfl
      refine ⟨hp, ?_, ?_⟩
      · show xorAt _ _ ⟨i, j, k⟩ = _
        rw [hx _ hp, if_pos rfl]
      · intro h0
        exact hne ((xorN_zero (hb _) hv).1 h0)
  · rw [stale_eq]
    have hmem : (i, j) ∈ frs (setW f i j k v) := by
      rw [mem_frs]
      refine ⟨by rw [← shape_len hs]; exact h1, ?_⟩
      have : ((shape f).getD i []).length = ((shape (setW f i j k v)).getD i []).length := by rw [hs]
      rw [getD_shape, getD_shape, List.length_map, List.length_map] at this
      show j < _
      rw [← this]; exact h2
    rw [filter_one (frs_nodup _) hmem]
    · rfl
    · rintro ⟨a, b⟩ hab
      obtain ⟨g1, g2⟩ := mem_frs.1 hab
      rw [staleAt_dig hs g1 g2, frame_setW h1 h2]
      simp only [Bool.not_eq_true', decide_eq_false_iff_not, Prod.mk.injEq]
      constructor
      · intro h
        by_cases e : a = i ∧ b = j
        · exact e
        · rw [if_neg e] at h
          exact absurd rfl h
      · rintro ⟨rfl, rfl⟩
        rw [if_pos ⟨rfl, rfl⟩]
        refine digI_set (wordsLt_of hb a b) h3 hv ?_
        intro e
        refine hne ?_
        simp only [wordAt, Int.toNat_natCast]
        rw [List.getD_eq_getElem?_getD, List.getElem?_eq_getElem h3]
        exact e
/-- A set changed once. -/
theorem changed_one {f : Frames} (hb : bnd f) (c : Nat × Nat) (hc : c.2 < W64) :
    (dl f (changedL f [c]) = [] ∧ stale (digests f) (changedL f [c]) = []) ∨ ∃ q : Patch, dl f (changedL f [c]) = [q] ∧ stale (digests f) (changedL f [c]) = [(q.p, q.f)] := by
  show (dl f (setNth f (c.1 % 64) c.2) = [] ∧ _) ∨ _
  have hch : changedL f [c] = setNth f (c.1 % 64) c.2 := rfl
  rw [hch]
  unfold setNth
  split
  · rename_i p w hp
    have hm : (p, w) ∈ wordsA f := List.mem_of_getElem? hp
    rw [wordsA_pos] at hm
    obtain ⟨p', hp', e⟩ := List.mem_map.1 hm
    cases e
    obtain ⟨i, j, k, h1, h2, h3, rfl⟩ := mem_posA.1 hp'
    simp only [Int.toNat_natCast]
    by_cases hne : wordAt f ⟨i, j, k⟩ = c.2
    · left
      have : setW f i j k c.2 = f := by
        refine ext_words (shape_setW _ _ _ _ _) (fun p hp => ?_)
        rw [posA_shape (shape_setW f i j k c.2)] at hp
        obtain ⟨i', j', k', _, _, _, rfl⟩ := mem_posA.1 hp
        rw [wordAt_setW h1 h2 h3]
        split
        · rename_i e; obtain ⟨rfl, rfl, rfl⟩ := e; exact hne.symm
        · rfl
      rw [this]
      exact ⟨(dl_nil rfl hb hb).2 rfl, stale_self f⟩
    · right
      obtain ⟨a, b⟩ := one_word hb h1 h2 h3 hc hne
      exact ⟨_, a, b⟩
  · left
    exact ⟨(dl_nil rfl hb hb).2 rfl, stale_self f⟩
end Go.Proofs.Ytcamhcnjomddbaa

/-
  PLAIN: lists and sets that are refused.
-/
namespace Go.Proofs.Ytcamhcnjomddbaa
open Go.Aw
theorem shape_more (f : Frames) : shape f ≠ shape (f ++ [[]]) ∧ shape (f ++ [[]]) ≠ shape f := by
  constructor
  · intro h; have := shape_len h; simp at this
  · intro h; have := shape_len h; simp at this
theorem diffR_no {f g : Frames} (h : shape f ≠ shape g) : diffR f g = ([], 490) := by unfold diffR; rw [if_neg h]
def farL (f g : Frames) : List Patch := dl f g ++ [⟨f.length, 0, 0, 1⟩]
theorem farL_normal (f g : Frames) : Normal (farL f g) := by
  refine normal_of (fun q hq => ?_) ?_
  · rcases List.mem_append.1 hq with h | h
    · exact (mem_dl.1 h).2.2
    · simp only [List.mem_singleton] at h; subst h; exact Nat.one_ne_zero
  · unfold farL
    rw [List.pairwise_append]
    refine ⟨dl_pairwise f g, by simp, fun a ha b hb => ?_⟩
    simp only [List.mem_singleton] at hb
    subst hb
    obtain ⟨i, j, k, h1, _, _, e⟩ := mem_posA.1 (mem_dl.1 ha).1
    simp only [posOf, Pos.mk.injEq] at e
    exact .inl (by rw [e.1]; simp only; omega)
theorem far_refused (f g : Frames) : applyIn f (farL f g) = ([], 490) := by
  unfold applyIn
  rw [if_neg]
  intro h
  have := h.1 ⟨f.length, 0, 0, 1⟩ (by unfold farL; simp)
  unfold fit1 at this
  have := this.1.2
  simp only at this
  omega
theorem odd_refused (f : Frames) : applyIn f [⟨0, 0, -1, 1⟩] = ([], 490) := by
  unfold applyIn
  rw [if_neg]
  intro h
  have := h.1 ⟨0, 0, -1, 1⟩ (by simp)
  unfold fit1 at this
  have := this.2.2.1
  simp only at this
  omega
theorem not_normal_apply {f : Frames} {l : List Patch} (h : ¬ Normal l) : applyIn f l = ([], 490) := by
  unfold applyIn; rw [if_neg (fun h2 => h h2.2)]
theorem not_normal_l {l m : List Patch} (h : ¬ Normal l) : composeR l m = ([], 490) := by
  unfold composeR; rw [if_neg (fun h2 => h h2.1)]
theorem not_normal_r {l m : List Patch} (h : ¬ Normal m) : composeR l m = ([], 490) := by
  unfold composeR; rw [if_neg (fun h2 => h h2.2)]
def oddL (l : List Patch) (p : Patch) : List (List Patch) := [l ++ [p], [⟨p.p, p.f, p.w, 0⟩], [p, p], [p, ⟨p.p, p.f, p.w - 1, 1⟩]]
theorem oddL_no {l : List Patch} {p : Patch} (hp : p ∈ l) : ∀ m ∈ oddL l p, ¬ Normal m := by
  intro m hm h
  rw [normal_iff] at h
  have irr : ∀ q : Patch, ¬ q.lt q := fun q h => Patch.lt_pos h rfl
  simp only [oddL, List.mem_cons, List.not_mem_nil, or_false] at hm
  rcases hm with rfl | rfl | rfl | rfl
  · rw [List.pairwise_append] at h
    exact irr p (h.2.2.2 p hp p (by simp))
  · exact h.1 ⟨p.p, p.f, p.w, 0⟩ (by simp) rfl
  · have := h.2
    simp at this
    exact irr p this
  · have := h.2
    simp at this
    unfold Patch.lt at this
    simp only at this
    omega
theorem wf_i64 {n : Int} (h0 : -9223372036854775808 ≤ n) (h1 : n ≤ 9223372036854775807) : (Lit.int .i64 n).wf = true := by
  simp [Lit.wf, IntKind.min, IntKind.max, IntKind.bits, IntKind.signed]
  omega
theorem oddL_in {f g : Frames} (hs : small f) {p : Patch} (hp : p ∈ dl f g) : ∀ m ∈ oddL (dl f g) p, ∀ q ∈ m, posIn (posOf q) := by
  intro m hm q hq
  have hin := dl_in (g := g) hs
  obtain ⟨a, b, c⟩ := hin p hp
  obtain ⟨i, j, k, _, _, _, e⟩ := mem_posA.1 (mem_dl.1 hp).1
  simp only [posOf, Pos.mk.injEq] at e a b c
  simp only [oddL, List.mem_cons, List.not_mem_nil, or_false] at hm
  have hw : (Lit.int .i64 (p.w - 1)).wf = true := by
    rw [e.2.2] at c ⊢
    simp [Lit.wf, IntKind.min, IntKind.max, IntKind.bits, IntKind.signed] at c ⊢
    omega
  rcases hm with rfl | rfl | rfl | rfl
  · rcases List.mem_append.1 hq with h | h
    · exact hin q h
    · simp only [List.mem_singleton] at h; subst h; exact hin _ hp
  · simp only [List.mem_singleton] at hq; subst hq; exact ⟨a, b, c⟩
  · simp at hq; subst hq; exact hin _ hp
  · simp at hq
    rcases hq with rfl | rfl
    · exact hin _ hp
    · exact ⟨a, b, hw⟩
theorem oddL_len {f g : Frames} {p : Patch} : ∀ m ∈ oddL (dl f g) p, m.length ≤ nWords f + 2 := by
  intro m hm
  have := dl_len f g
  simp only [oddL, List.mem_cons, List.not_mem_nil, or_false] at hm
  rcases hm with rfl | rfl | rfl | rfl <;> simp <;> omega
theorem nWords_more (f : Frames) : nWords (f ++ [[]]) = nWords f := by simp [nWords, shape]
theorem farL_in {f g : Frames} (hs : small f) : ∀ q ∈ farL f g, posIn (posOf q) := by
  intro q hq
  rcases List.mem_append.1 hq with h | h
  · exact dl_in hs q h
  · simp only [List.mem_singleton] at h
    subst h
    exact ⟨wf_nat hs.1, wf_nat (n := 0) (by omega), wf_nat (n := 0) (by omega)⟩
theorem farL_len (f g : Frames) : (farL f g).length ≤ nWords f + 1 := by
  have := dl_len f g
  unfold farL; simp; omega
end Go.Proofs.Ytcamhcnjomddbaa

/-
  PLAIN: the parts of a list, in any order, have the effect of the whole list.
-/
namespace Go.Proofs.Ytcamhcnjomddbaa
open Go.Aw
theorem chunk_len (n : Nat) (l : List Patch) (k : Nat) : (chunk n l k).length = min n (l.length - k * n) := by unfold chunk; simp
theorem chunks_flatten (n : Nat) (hn : 0 < n) (l : List Patch) : (chunks n l).flatten = l := by
  have key : ∀ m, ((List.range m).map (chunk n l)).flatten = l.take (m * n) := by
    intro m
    induction m with
    | zero => simp
    | succ m ih =>
      rw [List.range_succ, List.map_append, List.flatten_append, ih]
      simp only [List.map_cons, List.map_nil, List.flatten_cons, List.flatten_nil, List.append_nil, chunk]
      rw [Nat.add_mul, Nat.one_mul, List.take_add]
  unfold chunks
  rw [key]
  refine List.take_of_length_le ?_
  rcases Nat.lt_or_ge (nCh l.length n * n) l.length with h | h
  · have := (nCh_lt (L := l.length) (k := nCh l.length n) hn).2 h; omega
  · exact h
/-- The parts, in the order o. -/
def inOrder (P : List (List Patch)) (o : List Nat) : List Patch := (o.map fun k => P.getD k []).flatten
theorem inOrder_perm {P : List (List Patch)} {o : List Nat} (h : o.Perm (List.range P.length)) : (inOrder P o).Perm P.flatten := by
  unfold inOrder
  have h1 : (o.map fun k => P.getD k []).Perm ((List.range P.length).map fun k => P.getD k []) := h.map _
  rw [range_getD] at h1
  exact h1.flatten
theorem applyL_app (A : Frames) (l m : List Patch) : applyL A (l ++ m) = applyL (applyL A l) m := by simp [applyL]
theorem apply_perm {f g : Frames} (hs : shape f = shape g) (hf : bnd f) (hg : bnd g) {l : List Patch} (h : l.Perm (dl f g)) : applyL f l = g := by
  have h0 := apply_dl hs hf hg
  unfold applyIn at h0
  rw [if_pos (dl_fits f g)] at h0
  have h1 : applyL f (dl f g) = g := congrArg Prod.fst h0
  rw [← h1]
  refine ext_words (by rw [shape_applyL, shape_applyL]) (fun p hp => ?_)
  rw [posA_shape (shape_applyL l f)] at hp
  have hnd := normal_nodup (dl_normal f g)
  have hnl : (l.map posOf).Nodup := ((h.map posOf).nodup_iff).2 hnd
  rw [wordAt_applyL l f (fun q hq => (mem_dl.1 (h.mem_iff.1 hq)).1) hnl p hp, wordAt_applyL (dl f g) f (fun q hq => (mem_dl.1 hq).1) hnd p hp]
  have : valL l p = valL (dl f g) p := by
    cases hv : valL (dl f g) p with
    | none =>
      rw [valL_none] at hv ⊢
      exact fun q hq => hv q (h.mem_iff.1 hq)
    | some x =>
      unfold valL at hv
      obtain ⟨q, hq, rfl⟩ := Option.map_eq_some_iff.1 hv
      have hq1 := List.mem_of_find?_eq_some hq
      have hq2 : posOf q = p := by simpa using List.find?_some hq
      rw [← hq2]
      exact valL_some hnl (h.mem_iff.2 hq1)
  rw [this]
theorem chunk_sub (n : Nat) (l : List Patch) (k : Nat) : (chunk n l k).Sublist l := (List.take_sublist _ _).trans (List.drop_sublist _ _)
theorem chunk_fits {f g A : Frames} (hs : shape A = shape f) (n k : Nat) : Fits A (chunk n (dl f g) k) := by
  refine ⟨fun q hq => fit1_iff.2 ?_, ?_⟩
  · rw [posA_shape hs]; exact (mem_dl.1 ((chunk_sub n _ k).subset hq)).1
  · exact normal_of (fun q hq => (mem_dl.1 ((chunk_sub n _ k).subset hq)).2.2) ((dl_pairwise f g).sublist (chunk_sub n _ k))
theorem chunk_apply {f g A : Frames} (hs : shape A = shape f) (n k : Nat) : applyIn A (chunk n (dl f g) k) = (applyL A (chunk n (dl f g) k), 0) := by
  unfold applyIn; rw [if_pos (chunk_fits hs n k)]
theorem inOrder_step (P : List (List Patch)) (o : List Nat) (i : Nat) (h : i < o.length) : inOrder P (o.take (i + 1)) = inOrder P (o.take i) ++ P.getD o[i] [] := by
  rw [List.take_succ_eq_append_getElem h, inOrder, inOrder, List.map_append, List.flatten_append]; simp
theorem inOrder_le {P : List (List Patch)} {o : List Nat} (h : o.Perm (List.range P.length)) (i : Nat) : (inOrder P (o.take i)).length ≤ P.flatten.length := by
  have h1 := (inOrder_perm h).length_eq
  have h2 : inOrder P o = inOrder P (o.take i) ++ inOrder P (o.drop i) := by
    unfold inOrder
    rw [← List.flatten_append, ← List.map_append, List.take_append_drop]
  rw [h2, List.length_append] at h1
  omega
end Go.Proofs.Ytcamhcnjomddbaa
