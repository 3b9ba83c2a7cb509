/-
  DeltaMatchesReference, where the arguments hold together at most 1048576 values: differences, applied lists, compositions, parts, digests and stale frames are as in the reference.
  Conditions: the bound on the arguments alone.
-/
import Derived.Test.YtcamhcnjomddbaaK2
import Derived.Test.YtcamhcnjomddbaaK3
set_option linter.unusedSimpArgs false
set_option linter.unusedVariables false
/-
  THE LAW DeltaMatchesReference, by its callees' contracts.
-/
namespace Go.Proofs.Ytcamhcnjomddbaa
open Go.Aw
set_option maxRecDepth 100000
set_option maxHeartbeats 8000000
theorem small_of_cnt {F : Frames} (h : cntF F ≤ 2000000) : small F := by
  have h1 : F.length ≤ cntF F := by unfold cntF; omega
  have mem : ∀ (l : List Nat) (x : Nat), x ∈ l → x ≤ l.sum := by
    intro l
    induction l with
    | nil => intro x hx; cases hx
    | cons y l ih =>
      intro x hx
      simp only [List.sum_cons]
      rcases List.mem_cons.1 hx with rfl | hx
      · omega
      · have := ih x hx; omega
  refine ⟨by omega, fun r hr => ?_⟩
  have h2 := mem (F.map rowCnt) (rowCnt r) (List.mem_map.2 ⟨r, hr, rfl⟩)
  unfold cntF at h
  unfold rowCnt at h2
  refine ⟨by unfold rowCnt at h; omega, fun w hw => ?_⟩
  have h3 := mem (r.map List.length) w.length (List.mem_map.2 ⟨w, hw, rfl⟩)
  unfold rowCnt at h
  omega
theorem wrap_le (x : Int) : IntKind.i64.wrap x ≤ 9223372036854775807 := by
  simp only [IntKind.wrap, IntKind.bits, IntKind.signed]
  simp
  omega
theorem samePts_self (a : List (List Patch) × Int) : FnP Try.prog 23 [ePS a, ePS a] (.d (eB true)) [] := by
  have := sameParts_c a a
  rwa [show samePts a a = true by simp [samePts]] at this
theorem matches_c (bs ws : List Nat) (ch : List (Nat × Nat)) (F : Frames) (l m : List Patch) (n : Int) (R : List (List Int)) (hb : ∀ b ∈ bs, b < 256) (hw : ∀ w ∈ ws, w < W64) (hc : ∀ c ∈ ch, c.2 < W64)
    (hF : ∀ r ∈ F, ∀ w ∈ r, ∀ x ∈ w, x < W64) (hl : ∀ q ∈ l, posIn (posOf q) ∧ q.x < W64) (hm : ∀ q ∈ m, posIn (posOf q) ∧ q.x < W64) (hn : n ≤ 9223372036854775807) (hsz : smallN F l m R ≤ 1500000) :
    FnP Try.prog 3 [eMade bs ws, eChanges ch, eOdd F l m n R] (.d (eB true)) [] := by
  refine FnP.of_eC (own := []) (fun id => []) mixed Try.func3 rfl Try.call3 Try.ntmps3 (Nat.le_of_ble_eq_true rfl) Try.results3 (fun hok => ?_)
  have hbF := bnd_of hF
  have hszl : cntF F + l.length + m.length + R.length ≤ 1500000 := by unfold smallN oddCnt at hsz; omega
  have hsF := small_of_cnt (F := F) (by omega)
  have hsmc := small_c F l m n R (by omega)
  simp only [SE, TF, KD, GE, eq_self, ne_eq, implies_true, forall_const, if_true, if_false, cond_true, cond_false, forall_eq, List.replicate, ↓reduceIte, Nat.reduceEqDiff, Nat.reduceLT, Nat.reduceAdd, Nat.reduceSub, Nat.reduceMul, Nat.reduceLeDiff, eMade, eBytes, eByte, eChanges, eChange, ePR, eApplied, ePS, eParts, eCh, eOdd] at hsmc
  simp (config := { maxSteps := 4000000 }) only [SE, TF, KD, GE, eq_self, ne_eq, implies_true, forall_const, if_true, if_false, cond_true, cond_false, forall_eq, List.replicate, ↓reduceIte, Nat.reduceEqDiff, Nat.reduceLT, Nat.reduceAdd, Nat.reduceSub, Nat.reduceMul, Nat.reduceLeDiff, eMade, eBytes, eByte, eChanges, eChange, ePR, eApplied, ePS, eParts, eCh, eOdd]
  refine EFn.p ?_
  simp (config := { maxSteps := 4000000 }) only [SE, TF, KD, GE, eq_self, ne_eq, implies_true, forall_const, if_true, if_false, cond_true, cond_false, forall_eq, List.replicate, ↓reduceIte, Nat.reduceEqDiff, Nat.reduceLT, Nat.reduceAdd, Nat.reduceSub, Nat.reduceMul, Nat.reduceLeDiff, eMade, eBytes, eByte, eChanges, eChange, ePR, eApplied, ePS, eParts, eCh, eOdd]
  refine ECall.i (examples_c) ?_
  simp (config := { maxSteps := 4000000 }) only [SE, TF, KD, GE, eq_self, ne_eq, implies_true, forall_const, if_true, if_false, cond_true, cond_false, forall_eq, List.replicate, ↓reduceIte, Nat.reduceEqDiff, Nat.reduceLT, Nat.reduceAdd, Nat.reduceSub, Nat.reduceMul, Nat.reduceLeDiff, eMade, eBytes, eByte, eChanges, eChange, ePR, eApplied, ePS, eParts, eCh, eOdd]
  refine EFn.p ?_
  simp (config := { maxSteps := 4000000 }) only [SE, TF, KD, GE, eq_self, ne_eq, implies_true, forall_const, if_true, if_false, cond_true, cond_false, forall_eq, List.replicate, ↓reduceIte, Nat.reduceEqDiff, Nat.reduceLT, Nat.reduceAdd, Nat.reduceSub, Nat.reduceMul, Nat.reduceLeDiff, eMade, eBytes, eByte, eChanges, eChange, ePR, eApplied, ePS, eParts, eCh, eOdd]
  refine ECall.i (hsmc) ?_
  by_cases g0 : smallN F l m R ≤ 400
  · have hs4 : cntF F + l.length + m.length + R.length ≤ 400 := by unfold smallN oddCnt at g0; omega
    by_cases g1 : (ch.length : Int) > 40
    · simp (config := { maxSteps := 4000000 }) only [SE, TF, KD, GE, eq_self, ne_eq, implies_true, forall_const, if_true, if_false, cond_true, cond_false, forall_eq, List.replicate, ↓reduceIte, Nat.reduceEqDiff, Nat.reduceLT, Nat.reduceAdd, Nat.reduceSub, Nat.reduceMul, Nat.reduceLeDiff, eMade, eBytes, eByte, eChanges, eChange, ePR, eApplied, ePS, eParts, eCh, eOdd, g0, g1]
    simp (config := { maxSteps := 4000000 }) only [SE, TF, KD, GE, eq_self, ne_eq, implies_true, forall_const, if_true, if_false, cond_true, cond_false, forall_eq, List.replicate, ↓reduceIte, Nat.reduceEqDiff, Nat.reduceLT, Nat.reduceAdd, Nat.reduceSub, Nat.reduceMul, Nat.reduceLeDiff, eMade, eBytes, eByte, eChanges, eChange, ePR, eApplied, ePS, eParts, eCh, eOdd, g0, g1]
    have hmd := made_c bs ws hb
    have hsm := made_small bs ws
    have hnw := made_words bs ws
    have hbf := made_bnd (bs := bs) hw
    generalize made bs ws = f at *
    refine EFn.p ?_
    simp (config := { maxSteps := 4000000 }) only [SE, TF, KD, GE, eq_self, ne_eq, implies_true, forall_const, if_true, if_false, cond_true, cond_false, forall_eq, List.replicate, ↓reduceIte, Nat.reduceEqDiff, Nat.reduceLT, Nat.reduceAdd, Nat.reduceSub, Nat.reduceMul, Nat.reduceLeDiff, eMade, eBytes, eByte, eChanges, eChange, ePR, eApplied, ePS, eParts, eCh, eOdd]
    have hc := hmd
    simp (config := { maxSteps := 4000000 }) only [SE, TF, KD, GE, eq_self, ne_eq, implies_true, forall_const, if_true, if_false, cond_true, cond_false, forall_eq, List.replicate, ↓reduceIte, Nat.reduceEqDiff, Nat.reduceLT, Nat.reduceAdd, Nat.reduceSub, Nat.reduceMul, Nat.reduceLeDiff, eMade, eBytes, eByte, eChanges, eChange, ePR, eApplied, ePS, eParts, eCh, eOdd] at hc
    refine ECall.i hc ?_
    clear hc
    simp (config := { maxSteps := 4000000 }) only [SE, TF, KD, GE, eq_self, ne_eq, implies_true, forall_const, if_true, if_false, cond_true, cond_false, forall_eq, List.replicate, ↓reduceIte, Nat.reduceEqDiff, Nat.reduceLT, Nat.reduceAdd, Nat.reduceSub, Nat.reduceMul, Nat.reduceLeDiff, eMade, eBytes, eByte, eChanges, eChange, ePR, eApplied, ePS, eParts, eCh, eOdd]
    have hg := changed_c f ch hsm (by omega)
    have hsg := shape_changedL ch f
    have hbg := bnd_changedL ch hbf hc
    generalize changedL f ch = g at *
    have hsg2 := small_shape hsg.symm hsm
    refine EFn.p ?_
    simp (config := { maxSteps := 4000000 }) only [SE, TF, KD, GE, eq_self, ne_eq, implies_true, forall_const, if_true, if_false, cond_true, cond_false, forall_eq, List.replicate, ↓reduceIte, Nat.reduceEqDiff, Nat.reduceLT, Nat.reduceAdd, Nat.reduceSub, Nat.reduceMul, Nat.reduceLeDiff, eMade, eBytes, eByte, eChanges, eChange, ePR, eApplied, ePS, eParts, eCh, eOdd]
    have hc := hg
    simp (config := { maxSteps := 4000000 }) only [SE, TF, KD, GE, eq_self, ne_eq, implies_true, forall_const, if_true, if_false, cond_true, cond_false, forall_eq, List.replicate, ↓reduceIte, Nat.reduceEqDiff, Nat.reduceLT, Nat.reduceAdd, Nat.reduceSub, Nat.reduceMul, Nat.reduceLeDiff, eMade, eBytes, eByte, eChanges, eChange, ePR, eApplied, ePS, eParts, eCh, eOdd] at hc
    refine ECall.i hc ?_
    clear hc
    simp (config := { maxSteps := 4000000 }) only [SE, TF, KD, GE, eq_self, ne_eq, implies_true, forall_const, if_true, if_false, cond_true, cond_false, forall_eq, List.replicate, ↓reduceIte, Nat.reduceEqDiff, Nat.reduceLT, Nat.reduceAdd, Nat.reduceSub, Nat.reduceMul, Nat.reduceLeDiff, eMade, eBytes, eByte, eChanges, eChange, ePR, eApplied, ePS, eParts, eCh, eOdd]
    have hd := diffIn_c f g hsm (by omega)
    rw [diffR_dl hsg.symm] at hd
    have hD := diffW_c f g (words_le hnw)
    rw [diffR_dl hsg.symm] at hD
    have hld := dl_len f g
    have hinD := dl_in (g := g) hsm
    have hxD := dl_x f g
    have hP1 := samePW_self (dl f g, 0)
    have hDF := diffW_c f F (words_le hnw)
    have hIF := diffIn_c f F hsm (by omega)
    have hP2 := samePW_self (diffR f F)
    have hA1 := applyW_c f (dl f g) hsm hinD
    rw [applyD_eq hbf] at hA1
    have hA2 := applyIn_c f (dl f g) hsm
    have hA3 := sameSW_self (applyIn f (dl f g))
    have hB1 := applyW_c f l hsm (fun q hq => (hl q hq).1)
    rw [applyD_eq hbf] at hB1
    have hB2 := applyIn_c f l hsm
    have hB3 := sameSW_self (applyIn f l)
    have hC1 := applyW_c F l hsF (fun q hq => (hl q hq).1)
    rw [applyD_eq hbF] at hC1
    have hC2 := applyIn_c F l hsF
    have hC3 := sameSW_self (applyIn F l)
    have hE1 := composeW_c (dl f g) l (by omega) (by omega) (fun q hq => (List.mem_append.1 hq).elim (hinD q) (fun h => (hl q h).1))
    have hE2 := composeIn_c (dl f g) l (by omega) (by omega) hxD (fun q hq => (hl q hq).2)
    have hE3 := samePW_self (composeR (dl f g) l)
    have hG1 := composeW_c l m (by omega) (by omega) (fun q hq => (List.mem_append.1 hq).elim (fun h => (hl q h).1) (fun h => (hm q h).1))
    have hG2 := composeIn_c l m (by omega) (by omega) (fun q hq => (hl q hq).2) (fun q hq => (hm q hq).2)
    have hG3 := samePW_self (composeR l m)
    have hH1 := splitW_c (dl f g) n hn (by omega)
    have hH2 := splitIn_c (dl f g) n hn (by omega)
    have hH3 := samePts_self (splitR (dl f g) n)
    obtain ⟨q0, hq0⟩ : ∃ q0, IntKind.i64.wrap ((BitVec.ofInt IntKind.i64.bits n &&& BitVec.ofInt IntKind.i64.bits 7).toNat : Int) = q0 := ⟨_, rfl⟩
    obtain ⟨q1, hq1⟩ : ∃ q1, IntKind.i64.wrap (1 + q0) = q1 := ⟨_, rfl⟩
    have hq1l : q1 ≤ 9223372036854775807 := by rw [← hq1]; exact wrap_le _
    have hJ1 := splitW_c l q1 hq1l (by omega)
    have hJ2 := splitIn_c l q1 hq1l (by omega)
    have hJ3 := samePts_self (splitR l q1)
    have hT1 := digests_c f hsm
    have hT2 := rdigests_c f hsm
    have hS1 := stale_c (digests f) f hsm
    have hS2 := rstale_c (digests f) f hsm
    have hS3 := samePairs_self (stale (digests f) f)
    have hU1 := stale_c R f hsm
    have hU2 := rstale_c R f hsm
    have hU3 := samePairs_self (stale R f)
    have hV1 := stale_c (digests f) g hsg2
    have hV2 := rstale_c (digests f) g hsg2
    have hV3 := samePairs_self (stale (digests f) g)
    have hW1 := stale_c (digests f) F hsF
    have hW2 := rstale_c (digests f) F hsF
    have hW3 := samePairs_self (stale (digests f) F)
    generalize applyIn f (dl f g) = A1 at *
    generalize applyIn f l = A2 at *
    generalize applyIn F l = A3 at *
    generalize composeR (dl f g) l = A4 at *
    generalize composeR l m = A5 at *
    generalize splitR (dl f g) n = A6 at *
    generalize splitR l q1 = A7 at *
    generalize diffR f F = A8 at *
    generalize stale (digests f) f = B1 at *
    generalize stale R f = B2 at *
    generalize stale (digests f) g = B3 at *
    generalize stale (digests f) F = B4 at *
    generalize digests f = DF at *
    generalize dl f g = dd at *
    simp only [SE, TF, KD, GE, eq_self, ne_eq, implies_true, forall_const, if_true, if_false, cond_true, cond_false, forall_eq, List.replicate, ↓reduceIte, Nat.reduceEqDiff, Nat.reduceLT, Nat.reduceAdd, Nat.reduceSub, Nat.reduceMul, Nat.reduceLeDiff, eMade, eBytes, eByte, eChanges, eChange, ePR, eApplied, ePS, eParts, eCh, eOdd] at hd hD hP1 hDF hIF hP2 hA1 hA2 hA3 hB1 hB2 hB3 hC1 hC2 hC3 hE1 hE2 hE3 hG1 hG2 hG3 hH1 hH2 hH3 hJ1 hJ2 hJ3 hT1 hT2 hS1 hS2 hS3 hU1 hU2 hU3 hV1 hV2 hV3 hW1 hW2 hW3
    refine EFn.p ?_
    simp (config := { maxSteps := 4000000 }) only [SE, TF, KD, GE, eq_self, ne_eq, implies_true, forall_const, if_true, if_false, cond_true, cond_false, forall_eq, List.replicate, ↓reduceIte, Nat.reduceEqDiff, Nat.reduceLT, Nat.reduceAdd, Nat.reduceSub, Nat.reduceMul, Nat.reduceLeDiff, eMade, eBytes, eByte, eChanges, eChange, ePR, eApplied, ePS, eParts, eCh, eOdd]
    refine ECall.i (hd) ?_
    simp (config := { maxSteps := 4000000 }) only [SE, TF, KD, GE, eq_self, ne_eq, implies_true, forall_const, if_true, if_false, cond_true, cond_false, forall_eq, List.replicate, ↓reduceIte, Nat.reduceEqDiff, Nat.reduceLT, Nat.reduceAdd, Nat.reduceSub, Nat.reduceMul, Nat.reduceLeDiff, eMade, eBytes, eByte, eChanges, eChange, ePR, eApplied, ePS, eParts, eCh, eOdd]
    refine ⟨by kernel_rfl, ECall'.i hD ?_⟩
    simp (config := { maxSteps := 4000000 }) only [SE, TF, KD, GE, eq_self, ne_eq, implies_true, forall_const, if_true, if_false, cond_true, cond_false, forall_eq, List.replicate, ↓reduceIte, Nat.reduceEqDiff, Nat.reduceLT, Nat.reduceAdd, Nat.reduceSub, Nat.reduceMul, Nat.reduceLeDiff, eMade, eBytes, eByte, eChanges, eChange, ePR, eApplied, ePS, eParts, eCh, eOdd]
    refine ECall'.i hP1 ?_
    simp (config := { maxSteps := 4000000 }) only [SE, TF, KD, GE, eq_self, ne_eq, implies_true, forall_const, if_true, if_false, cond_true, cond_false, forall_eq, List.replicate, ↓reduceIte, Nat.reduceEqDiff, Nat.reduceLT, Nat.reduceAdd, Nat.reduceSub, Nat.reduceMul, Nat.reduceLeDiff, eMade, eBytes, eByte, eChanges, eChange, ePR, eApplied, ePS, eParts, eCh, eOdd]
    refine ECall'.i hDF ?_
    simp (config := { maxSteps := 4000000 }) only [SE, TF, KD, GE, eq_self, ne_eq, implies_true, forall_const, if_true, if_false, cond_true, cond_false, forall_eq, List.replicate, ↓reduceIte, Nat.reduceEqDiff, Nat.reduceLT, Nat.reduceAdd, Nat.reduceSub, Nat.reduceMul, Nat.reduceLeDiff, eMade, eBytes, eByte, eChanges, eChange, ePR, eApplied, ePS, eParts, eCh, eOdd]
    refine ECall'.i hIF ?_
    simp (config := { maxSteps := 4000000 }) only [SE, TF, KD, GE, eq_self, ne_eq, implies_true, forall_const, if_true, if_false, cond_true, cond_false, forall_eq, List.replicate, ↓reduceIte, Nat.reduceEqDiff, Nat.reduceLT, Nat.reduceAdd, Nat.reduceSub, Nat.reduceMul, Nat.reduceLeDiff, eMade, eBytes, eByte, eChanges, eChange, ePR, eApplied, ePS, eParts, eCh, eOdd]
    refine ECall'.i hP2 ?_
    simp (config := { maxSteps := 4000000 }) only [SE, TF, KD, GE, eq_self, ne_eq, implies_true, forall_const, if_true, if_false, cond_true, cond_false, forall_eq, List.replicate, ↓reduceIte, Nat.reduceEqDiff, Nat.reduceLT, Nat.reduceAdd, Nat.reduceSub, Nat.reduceMul, Nat.reduceLeDiff, eMade, eBytes, eByte, eChanges, eChange, ePR, eApplied, ePS, eParts, eCh, eOdd]
    refine ECall'.i hA1 ?_
    simp (config := { maxSteps := 4000000 }) only [SE, TF, KD, GE, eq_self, ne_eq, implies_true, forall_const, if_true, if_false, cond_true, cond_false, forall_eq, List.replicate, ↓reduceIte, Nat.reduceEqDiff, Nat.reduceLT, Nat.reduceAdd, Nat.reduceSub, Nat.reduceMul, Nat.reduceLeDiff, eMade, eBytes, eByte, eChanges, eChange, ePR, eApplied, ePS, eParts, eCh, eOdd]
    refine ECall'.i hA2 ?_
    simp (config := { maxSteps := 4000000 }) only [SE, TF, KD, GE, eq_self, ne_eq, implies_true, forall_const, if_true, if_false, cond_true, cond_false, forall_eq, List.replicate, ↓reduceIte, Nat.reduceEqDiff, Nat.reduceLT, Nat.reduceAdd, Nat.reduceSub, Nat.reduceMul, Nat.reduceLeDiff, eMade, eBytes, eByte, eChanges, eChange, ePR, eApplied, ePS, eParts, eCh, eOdd]
    refine ECall'.i hA3 ?_
    simp (config := { maxSteps := 4000000 }) only [SE, TF, KD, GE, eq_self, ne_eq, implies_true, forall_const, if_true, if_false, cond_true, cond_false, forall_eq, List.replicate, ↓reduceIte, Nat.reduceEqDiff, Nat.reduceLT, Nat.reduceAdd, Nat.reduceSub, Nat.reduceMul, Nat.reduceLeDiff, eMade, eBytes, eByte, eChanges, eChange, ePR, eApplied, ePS, eParts, eCh, eOdd]
    refine ECall'.i hB1 ?_
    simp (config := { maxSteps := 4000000 }) only [SE, TF, KD, GE, eq_self, ne_eq, implies_true, forall_const, if_true, if_false, cond_true, cond_false, forall_eq, List.replicate, ↓reduceIte, Nat.reduceEqDiff, Nat.reduceLT, Nat.reduceAdd, Nat.reduceSub, Nat.reduceMul, Nat.reduceLeDiff, eMade, eBytes, eByte, eChanges, eChange, ePR, eApplied, ePS, eParts, eCh, eOdd]
    refine ECall'.i hB2 ?_
    simp (config := { maxSteps := 4000000 }) only [SE, TF, KD, GE, eq_self, ne_eq, implies_true, forall_const, if_true, if_false, cond_true, cond_false, forall_eq, List.replicate, ↓reduceIte, Nat.reduceEqDiff, Nat.reduceLT, Nat.reduceAdd, Nat.reduceSub, Nat.reduceMul, Nat.reduceLeDiff, eMade, eBytes, eByte, eChanges, eChange, ePR, eApplied, ePS, eParts, eCh, eOdd]
    refine ECall'.i hB3 ?_
    simp (config := { maxSteps := 4000000 }) only [SE, TF, KD, GE, eq_self, ne_eq, implies_true, forall_const, if_true, if_false, cond_true, cond_false, forall_eq, List.replicate, ↓reduceIte, Nat.reduceEqDiff, Nat.reduceLT, Nat.reduceAdd, Nat.reduceSub, Nat.reduceMul, Nat.reduceLeDiff, eMade, eBytes, eByte, eChanges, eChange, ePR, eApplied, ePS, eParts, eCh, eOdd]
    refine ECall'.i hC1 ?_
    simp (config := { maxSteps := 4000000 }) only [SE, TF, KD, GE, eq_self, ne_eq, implies_true, forall_const, if_true, if_false, cond_true, cond_false, forall_eq, List.replicate, ↓reduceIte, Nat.reduceEqDiff, Nat.reduceLT, Nat.reduceAdd, Nat.reduceSub, Nat.reduceMul, Nat.reduceLeDiff, eMade, eBytes, eByte, eChanges, eChange, ePR, eApplied, ePS, eParts, eCh, eOdd]
    refine ECall'.i hC2 ?_
    simp (config := { maxSteps := 4000000 }) only [SE, TF, KD, GE, eq_self, ne_eq, implies_true, forall_const, if_true, if_false, cond_true, cond_false, forall_eq, List.replicate, ↓reduceIte, Nat.reduceEqDiff, Nat.reduceLT, Nat.reduceAdd, Nat.reduceSub, Nat.reduceMul, Nat.reduceLeDiff, eMade, eBytes, eByte, eChanges, eChange, ePR, eApplied, ePS, eParts, eCh, eOdd]
    refine ECall'.i hC3 ?_
    simp (config := { maxSteps := 4000000 }) only [SE, TF, KD, GE, eq_self, ne_eq, implies_true, forall_const, if_true, if_false, cond_true, cond_false, forall_eq, List.replicate, ↓reduceIte, Nat.reduceEqDiff, Nat.reduceLT, Nat.reduceAdd, Nat.reduceSub, Nat.reduceMul, Nat.reduceLeDiff, eMade, eBytes, eByte, eChanges, eChange, ePR, eApplied, ePS, eParts, eCh, eOdd]
    refine ⟨by kernel_rfl, ECall'.i hE1 ?_⟩
    simp (config := { maxSteps := 4000000 }) only [SE, TF, KD, GE, eq_self, ne_eq, implies_true, forall_const, if_true, if_false, cond_true, cond_false, forall_eq, List.replicate, ↓reduceIte, Nat.reduceEqDiff, Nat.reduceLT, Nat.reduceAdd, Nat.reduceSub, Nat.reduceMul, Nat.reduceLeDiff, eMade, eBytes, eByte, eChanges, eChange, ePR, eApplied, ePS, eParts, eCh, eOdd]
    refine ECall'.i hE2 ?_
    simp (config := { maxSteps := 4000000 }) only [SE, TF, KD, GE, eq_self, ne_eq, implies_true, forall_const, if_true, if_false, cond_true, cond_false, forall_eq, List.replicate, ↓reduceIte, Nat.reduceEqDiff, Nat.reduceLT, Nat.reduceAdd, Nat.reduceSub, Nat.reduceMul, Nat.reduceLeDiff, eMade, eBytes, eByte, eChanges, eChange, ePR, eApplied, ePS, eParts, eCh, eOdd]
    refine ECall'.i hE3 ?_
    simp (config := { maxSteps := 4000000 }) only [SE, TF, KD, GE, eq_self, ne_eq, implies_true, forall_const, if_true, if_false, cond_true, cond_false, forall_eq, List.replicate, ↓reduceIte, Nat.reduceEqDiff, Nat.reduceLT, Nat.reduceAdd, Nat.reduceSub, Nat.reduceMul, Nat.reduceLeDiff, eMade, eBytes, eByte, eChanges, eChange, ePR, eApplied, ePS, eParts, eCh, eOdd]
    refine ECall'.i hG1 ?_
    simp (config := { maxSteps := 4000000 }) only [SE, TF, KD, GE, eq_self, ne_eq, implies_true, forall_const, if_true, if_false, cond_true, cond_false, forall_eq, List.replicate, ↓reduceIte, Nat.reduceEqDiff, Nat.reduceLT, Nat.reduceAdd, Nat.reduceSub, Nat.reduceMul, Nat.reduceLeDiff, eMade, eBytes, eByte, eChanges, eChange, ePR, eApplied, ePS, eParts, eCh, eOdd]
    refine ECall'.i hG2 ?_
    simp (config := { maxSteps := 4000000 }) only [SE, TF, KD, GE, eq_self, ne_eq, implies_true, forall_const, if_true, if_false, cond_true, cond_false, forall_eq, List.replicate, ↓reduceIte, Nat.reduceEqDiff, Nat.reduceLT, Nat.reduceAdd, Nat.reduceSub, Nat.reduceMul, Nat.reduceLeDiff, eMade, eBytes, eByte, eChanges, eChange, ePR, eApplied, ePS, eParts, eCh, eOdd]
    refine ECall'.i hG3 ?_
    simp (config := { maxSteps := 4000000 }) only [SE, TF, KD, GE, eq_self, ne_eq, implies_true, forall_const, if_true, if_false, cond_true, cond_false, forall_eq, List.replicate, ↓reduceIte, Nat.reduceEqDiff, Nat.reduceLT, Nat.reduceAdd, Nat.reduceSub, Nat.reduceMul, Nat.reduceLeDiff, eMade, eBytes, eByte, eChanges, eChange, ePR, eApplied, ePS, eParts, eCh, eOdd]
    refine ECall'.i hH1 ?_
    simp (config := { maxSteps := 4000000 }) only [SE, TF, KD, GE, eq_self, ne_eq, implies_true, forall_const, if_true, if_false, cond_true, cond_false, forall_eq, List.replicate, ↓reduceIte, Nat.reduceEqDiff, Nat.reduceLT, Nat.reduceAdd, Nat.reduceSub, Nat.reduceMul, Nat.reduceLeDiff, eMade, eBytes, eByte, eChanges, eChange, ePR, eApplied, ePS, eParts, eCh, eOdd]
    refine ECall'.i hH2 ?_
    simp (config := { maxSteps := 4000000 }) only [SE, TF, KD, GE, eq_self, ne_eq, implies_true, forall_const, if_true, if_false, cond_true, cond_false, forall_eq, List.replicate, ↓reduceIte, Nat.reduceEqDiff, Nat.reduceLT, Nat.reduceAdd, Nat.reduceSub, Nat.reduceMul, Nat.reduceLeDiff, eMade, eBytes, eByte, eChanges, eChange, ePR, eApplied, ePS, eParts, eCh, eOdd]
    refine ECall'.i hH3 ?_
    simp (config := { maxSteps := 4000000 }) only [SE, TF, KD, GE, eq_self, ne_eq, implies_true, forall_const, if_true, if_false, cond_true, cond_false, forall_eq, List.replicate, ↓reduceIte, Nat.reduceEqDiff, Nat.reduceLT, Nat.reduceAdd, Nat.reduceSub, Nat.reduceMul, Nat.reduceLeDiff, eMade, eBytes, eByte, eChanges, eChange, ePR, eApplied, ePS, eParts, eCh, eOdd, hq0, hq1]
    refine ECall'.i hJ1 ?_
    simp (config := { maxSteps := 4000000 }) only [SE, TF, KD, GE, eq_self, ne_eq, implies_true, forall_const, if_true, if_false, cond_true, cond_false, forall_eq, List.replicate, ↓reduceIte, Nat.reduceEqDiff, Nat.reduceLT, Nat.reduceAdd, Nat.reduceSub, Nat.reduceMul, Nat.reduceLeDiff, eMade, eBytes, eByte, eChanges, eChange, ePR, eApplied, ePS, eParts, eCh, eOdd, hq0, hq1]
    refine ECall'.i hJ2 ?_
    simp (config := { maxSteps := 4000000 }) only [SE, TF, KD, GE, eq_self, ne_eq, implies_true, forall_const, if_true, if_false, cond_true, cond_false, forall_eq, List.replicate, ↓reduceIte, Nat.reduceEqDiff, Nat.reduceLT, Nat.reduceAdd, Nat.reduceSub, Nat.reduceMul, Nat.reduceLeDiff, eMade, eBytes, eByte, eChanges, eChange, ePR, eApplied, ePS, eParts, eCh, eOdd, hq0, hq1]
    refine ECall'.i hJ3 ?_
    simp (config := { maxSteps := 4000000 }) only [SE, TF, KD, GE, eq_self, ne_eq, implies_true, forall_const, if_true, if_false, cond_true, cond_false, forall_eq, List.replicate, ↓reduceIte, Nat.reduceEqDiff, Nat.reduceLT, Nat.reduceAdd, Nat.reduceSub, Nat.reduceMul, Nat.reduceLeDiff, eMade, eBytes, eByte, eChanges, eChange, ePR, eApplied, ePS, eParts, eCh, eOdd, hq0, hq1]
    refine EFn.p ?_
    simp (config := { maxSteps := 4000000 }) only [SE, TF, KD, GE, eq_self, ne_eq, implies_true, forall_const, if_true, if_false, cond_true, cond_false, forall_eq, List.replicate, ↓reduceIte, Nat.reduceEqDiff, Nat.reduceLT, Nat.reduceAdd, Nat.reduceSub, Nat.reduceMul, Nat.reduceLeDiff, eMade, eBytes, eByte, eChanges, eChange, ePR, eApplied, ePS, eParts, eCh, eOdd]
    refine ECall.i (hT1) ?_
    simp (config := { maxSteps := 4000000 }) only [SE, TF, KD, GE, eq_self, ne_eq, implies_true, forall_const, if_true, if_false, cond_true, cond_false, forall_eq, List.replicate, ↓reduceIte, Nat.reduceEqDiff, Nat.reduceLT, Nat.reduceAdd, Nat.reduceSub, Nat.reduceMul, Nat.reduceLeDiff, eMade, eBytes, eByte, eChanges, eChange, ePR, eApplied, ePS, eParts, eCh, eOdd]
    refine EFn.p ?_
    simp (config := { maxSteps := 4000000 }) only [SE, TF, KD, GE, eq_self, ne_eq, implies_true, forall_const, if_true, if_false, cond_true, cond_false, forall_eq, List.replicate, ↓reduceIte, Nat.reduceEqDiff, Nat.reduceLT, Nat.reduceAdd, Nat.reduceSub, Nat.reduceMul, Nat.reduceLeDiff, eMade, eBytes, eByte, eChanges, eChange, ePR, eApplied, ePS, eParts, eCh, eOdd]
    refine ECall.i (hT2) ?_
    simp (config := { maxSteps := 4000000 }) only [SE, TF, KD, GE, eq_self, ne_eq, implies_true, forall_const, if_true, if_false, cond_true, cond_false, forall_eq, List.replicate, ↓reduceIte, Nat.reduceEqDiff, Nat.reduceLT, Nat.reduceAdd, Nat.reduceSub, Nat.reduceMul, Nat.reduceLeDiff, eMade, eBytes, eByte, eChanges, eChange, ePR, eApplied, ePS, eParts, eCh, eOdd]
    refine EFn.p ?_
    simp (config := { maxSteps := 4000000 }) only [SE, TF, KD, GE, eq_self, ne_eq, implies_true, forall_const, if_true, if_false, cond_true, cond_false, forall_eq, List.replicate, ↓reduceIte, Nat.reduceEqDiff, Nat.reduceLT, Nat.reduceAdd, Nat.reduceSub, Nat.reduceMul, Nat.reduceLeDiff, eMade, eBytes, eByte, eChanges, eChange, ePR, eApplied, ePS, eParts, eCh, eOdd]
    refine ECall.i (hS1) ?_
    simp (config := { maxSteps := 4000000 }) only [SE, TF, KD, GE, eq_self, ne_eq, implies_true, forall_const, if_true, if_false, cond_true, cond_false, forall_eq, List.replicate, ↓reduceIte, Nat.reduceEqDiff, Nat.reduceLT, Nat.reduceAdd, Nat.reduceSub, Nat.reduceMul, Nat.reduceLeDiff, eMade, eBytes, eByte, eChanges, eChange, ePR, eApplied, ePS, eParts, eCh, eOdd]
    refine EFn.p ?_
    simp (config := { maxSteps := 4000000 }) only [SE, TF, KD, GE, eq_self, ne_eq, implies_true, forall_const, if_true, if_false, cond_true, cond_false, forall_eq, List.replicate, ↓reduceIte, Nat.reduceEqDiff, Nat.reduceLT, Nat.reduceAdd, Nat.reduceSub, Nat.reduceMul, Nat.reduceLeDiff, eMade, eBytes, eByte, eChanges, eChange, ePR, eApplied, ePS, eParts, eCh, eOdd]
    refine ECall.i (hS2) ?_
    simp (config := { maxSteps := 4000000 }) only [SE, TF, KD, GE, eq_self, ne_eq, implies_true, forall_const, if_true, if_false, cond_true, cond_false, forall_eq, List.replicate, ↓reduceIte, Nat.reduceEqDiff, Nat.reduceLT, Nat.reduceAdd, Nat.reduceSub, Nat.reduceMul, Nat.reduceLeDiff, eMade, eBytes, eByte, eChanges, eChange, ePR, eApplied, ePS, eParts, eCh, eOdd]
    refine EFn.p ?_
    simp (config := { maxSteps := 4000000 }) only [SE, TF, KD, GE, eq_self, ne_eq, implies_true, forall_const, if_true, if_false, cond_true, cond_false, forall_eq, List.replicate, ↓reduceIte, Nat.reduceEqDiff, Nat.reduceLT, Nat.reduceAdd, Nat.reduceSub, Nat.reduceMul, Nat.reduceLeDiff, eMade, eBytes, eByte, eChanges, eChange, ePR, eApplied, ePS, eParts, eCh, eOdd]
    refine ECall.i (hS3) ?_
    simp (config := { maxSteps := 4000000 }) only [SE, TF, KD, GE, eq_self, ne_eq, implies_true, forall_const, if_true, if_false, cond_true, cond_false, forall_eq, List.replicate, ↓reduceIte, Nat.reduceEqDiff, Nat.reduceLT, Nat.reduceAdd, Nat.reduceSub, Nat.reduceMul, Nat.reduceLeDiff, eMade, eBytes, eByte, eChanges, eChange, ePR, eApplied, ePS, eParts, eCh, eOdd]
    refine ⟨by kernel_rfl, ECall'.i hU1 ?_⟩
    simp (config := { maxSteps := 4000000 }) only [SE, TF, KD, GE, eq_self, ne_eq, implies_true, forall_const, if_true, if_false, cond_true, cond_false, forall_eq, List.replicate, ↓reduceIte, Nat.reduceEqDiff, Nat.reduceLT, Nat.reduceAdd, Nat.reduceSub, Nat.reduceMul, Nat.reduceLeDiff, eMade, eBytes, eByte, eChanges, eChange, ePR, eApplied, ePS, eParts, eCh, eOdd]
    refine ECall'.i hU2 ?_
    simp (config := { maxSteps := 4000000 }) only [SE, TF, KD, GE, eq_self, ne_eq, implies_true, forall_const, if_true, if_false, cond_true, cond_false, forall_eq, List.replicate, ↓reduceIte, Nat.reduceEqDiff, Nat.reduceLT, Nat.reduceAdd, Nat.reduceSub, Nat.reduceMul, Nat.reduceLeDiff, eMade, eBytes, eByte, eChanges, eChange, ePR, eApplied, ePS, eParts, eCh, eOdd]
    refine ECall'.i hU3 ?_
    simp (config := { maxSteps := 4000000 }) only [SE, TF, KD, GE, eq_self, ne_eq, implies_true, forall_const, if_true, if_false, cond_true, cond_false, forall_eq, List.replicate, ↓reduceIte, Nat.reduceEqDiff, Nat.reduceLT, Nat.reduceAdd, Nat.reduceSub, Nat.reduceMul, Nat.reduceLeDiff, eMade, eBytes, eByte, eChanges, eChange, ePR, eApplied, ePS, eParts, eCh, eOdd]
    refine ECall'.i hV1 ?_
    simp (config := { maxSteps := 4000000 }) only [SE, TF, KD, GE, eq_self, ne_eq, implies_true, forall_const, if_true, if_false, cond_true, cond_false, forall_eq, List.replicate, ↓reduceIte, Nat.reduceEqDiff, Nat.reduceLT, Nat.reduceAdd, Nat.reduceSub, Nat.reduceMul, Nat.reduceLeDiff, eMade, eBytes, eByte, eChanges, eChange, ePR, eApplied, ePS, eParts, eCh, eOdd]
    refine ECall'.i hV2 ?_
    simp (config := { maxSteps := 4000000 }) only [SE, TF, KD, GE, eq_self, ne_eq, implies_true, forall_const, if_true, if_false, cond_true, cond_false, forall_eq, List.replicate, ↓reduceIte, Nat.reduceEqDiff, Nat.reduceLT, Nat.reduceAdd, Nat.reduceSub, Nat.reduceMul, Nat.reduceLeDiff, eMade, eBytes, eByte, eChanges, eChange, ePR, eApplied, ePS, eParts, eCh, eOdd]
    refine ECall'.i hV3 ?_
    simp (config := { maxSteps := 4000000 }) only [SE, TF, KD, GE, eq_self, ne_eq, implies_true, forall_const, if_true, if_false, cond_true, cond_false, forall_eq, List.replicate, ↓reduceIte, Nat.reduceEqDiff, Nat.reduceLT, Nat.reduceAdd, Nat.reduceSub, Nat.reduceMul, Nat.reduceLeDiff, eMade, eBytes, eByte, eChanges, eChange, ePR, eApplied, ePS, eParts, eCh, eOdd]
    refine ECall'.i hW1 ?_
    simp (config := { maxSteps := 4000000 }) only [SE, TF, KD, GE, eq_self, ne_eq, implies_true, forall_const, if_true, if_false, cond_true, cond_false, forall_eq, List.replicate, ↓reduceIte, Nat.reduceEqDiff, Nat.reduceLT, Nat.reduceAdd, Nat.reduceSub, Nat.reduceMul, Nat.reduceLeDiff, eMade, eBytes, eByte, eChanges, eChange, ePR, eApplied, ePS, eParts, eCh, eOdd]
    refine ECall'.i hW2 ?_
    simp (config := { maxSteps := 4000000 }) only [SE, TF, KD, GE, eq_self, ne_eq, implies_true, forall_const, if_true, if_false, cond_true, cond_false, forall_eq, List.replicate, ↓reduceIte, Nat.reduceEqDiff, Nat.reduceLT, Nat.reduceAdd, Nat.reduceSub, Nat.reduceMul, Nat.reduceLeDiff, eMade, eBytes, eByte, eChanges, eChange, ePR, eApplied, ePS, eParts, eCh, eOdd]
    refine ECall'.i hW3 ?_
    simp (config := { maxSteps := 4000000 }) only [SE, TF, KD, GE, eq_self, ne_eq, implies_true, forall_const, if_true, if_false, cond_true, cond_false, forall_eq, List.replicate, ↓reduceIte, Nat.reduceEqDiff, Nat.reduceLT, Nat.reduceAdd, Nat.reduceSub, Nat.reduceMul, Nat.reduceLeDiff, eMade, eBytes, eByte, eChanges, eChange, ePR, eApplied, ePS, eParts, eCh, eOdd]
  · simp (config := { maxSteps := 4000000 }) only [SE, TF, KD, GE, eq_self, ne_eq, implies_true, forall_const, if_true, if_false, cond_true, cond_false, forall_eq, List.replicate, ↓reduceIte, Nat.reduceEqDiff, Nat.reduceLT, Nat.reduceAdd, Nat.reduceSub, Nat.reduceMul, Nat.reduceLeDiff, eMade, eBytes, eByte, eChanges, eChange, ePR, eApplied, ePS, eParts, eCh, eOdd, g0]
end Go.Proofs.Ytcamhcnjomddbaa

/-
  DeltaMatchesReference, where the arguments hold together at most 1048576 values: differences, applied lists, compositions, parts, digests and stale frames are as in the reference.
  Conditions: the bound on the arguments alone.
-/
namespace Go.Proofs.Ytcamhcnjomddbaa
open Go.Aw Go.ChangeShapes Go.WideShapes Go.ChangeAt Go.RowKit
set_option maxRecDepth 100000
mutual
theorem bulk_le {H : Type} : ∀ d : DataW H, dwBulk d ≤ Rows.uptoBulk d
  | .lit (.string b) => by simp only [dwBulk, Rows.uptoBulk]; exact Nat.le_refl _
  | .lit (.bool _) => by simp only [dwBulk, Rows.uptoBulk]; exact Nat.le_refl _
  | .lit (.int _ _) => by simp only [dwBulk, Rows.uptoBulk]; exact Nat.le_refl _
  | .lit (.float _ _) => by simp only [dwBulk, Rows.uptoBulk]; exact Nat.le_refl _
  | .lit .nil => by simp only [dwBulk, Rows.uptoBulk]; exact Nat.le_refl _
  | .nil => by simp only [dwBulk, Rows.uptoBulk]; exact Nat.le_refl _
  | .ptr d => by have := bulk_le d; simp only [dwBulk, Rows.uptoBulk]; omega
  | .slice a b => by have := bulk_leAll a; have := bulk_leAll b; simp only [dwBulk, Rows.uptoBulk]; omega
  | .agg a => by have := bulk_leAll a; simp only [dwBulk, Rows.uptoBulk]; omega
  | .iface _ d => by have := bulk_le d; simp only [dwBulk, Rows.uptoBulk]; omega
  | .map _ => by simp only [dwBulk, Rows.uptoBulk]; omega
  | .held _ => by simp only [dwBulk, Rows.uptoBulk]; exact Nat.le_refl _
theorem bulk_leAll {H : Type} : ∀ ds : List (DataW H), dwBulkAll ds ≤ Rows.uptoBulkAll ds
  | [] => by simp only [dwBulkAll, Rows.uptoBulkAll]; exact Nat.le_refl _
  | d :: ds => by have := bulk_le d; have := bulk_leAll ds; simp only [dwBulkAll, Rows.uptoBulkAll]; omega
end
theorem bulkLL_map {X : Type} (f : X → List D) : ∀ l : List X, D.bulkLL (l.map f) = (l.map fun x => D.bulkL (f x)).sum
  | [] => rfl
  | x :: l => by simp only [List.map_cons, D.bulkLL, List.sum_cons, bulkLL_map f l]
theorem sum_le_sum {X : Type} (f g : X → Nat) (h : ∀ x, f x ≤ g x) : ∀ l : List X, (l.map f).sum ≤ (l.map g).sum
  | [] => Nat.le_refl _
  | x :: l => by have := h x; have := sum_le_sum f g h l; simp only [List.map_cons, List.sum_cons]; omega
theorem sum_one {X : Type} (f : X → Nat) : ∀ l : List X, (l.map fun x => f x + 1).sum = (l.map f).sum + l.length
  | [] => rfl
  | x :: l => by have := sum_one f l; simp only [List.map_cons, List.sum_cons, List.length_cons]; omega
theorem bulk_row (r : List (List Nat)) : D.bulkL (eRow r) = ((r.map List.length).sum + r.length) + 1 := by
  simp only [eRow, D.bulkL, D.bulk, bulkLL_map]
  have : ∀ w : List Nat, D.bulkL (eFrame w) = w.length + 1 := by
    intro w
    simp only [eFrame, eWords, D.bulkL, D.bulk, bulkLL_map]
    have : ∀ w : List Nat, (w.map fun _ => 1 + 0).sum = w.length := by
      intro w
      induction w with
      | nil => rfl
      | cons x w ih => simp only [List.map_cons, List.sum_cons, List.length_cons, ih]; omega
    simp only [eU, D.bulk, litBulk, this, Nat.add_zero]
  simp only [this, sum_one, Nat.add_zero]
theorem bulk_set (F : Frames) : cntF F ≤ D.bulk (eSet F) := by
  simp only [eSet, D.bulk, bulkLL_map, bulk_row, sum_one]
  unfold cntF
  have : (F.map rowCnt).sum = (F.map fun r => (r.map List.length).sum + r.length).sum := by
    congr 1; congr 1; funext r; unfold rowCnt; omega
  omega
theorem bulk_patches (l : List Patch) : l.length ≤ D.bulk (ePatches l) := by
  simp only [ePatches, D.bulk, bulkLL_map]
  have : l.length ≤ (l.map fun x => D.bulkL (ePatch x)).sum := by
    induction l with
    | nil => exact Nat.le_refl _
    | cons x l ih => simp only [List.map_cons, List.sum_cons, List.length_cons, ePatch, D.bulkL, D.bulk, eI, eU, litBulk] at ih ⊢; omega
  omega
theorem bulk_dig (R : List (List Int)) : R.length + (R.map List.length).sum ≤ D.bulk (eDig R) := by
  simp only [eDig, D.bulk, bulkLL_map]
  have h1 : ∀ r : List Int, r.length + 1 ≤ D.bulkL [D.sl (r.map fun x => [eUI x])] := by
    intro r
    simp only [D.bulkL, D.bulk, bulkLL_map]
    have : r.length ≤ (r.map fun x => D.bulk (eUI x) + 0).sum := by
      induction r with
      | nil => exact Nat.le_refl _
      | cons x r ih => simp only [List.map_cons, List.sum_cons, List.length_cons, D.bulk, eUI, litBulk] at ih ⊢; omega
    omega
  have h2 := sum_le_sum _ _ h1 R
  rw [sum_one] at h2
  omega
theorem bulk_odd (F : Frames) (l m : List Patch) (n : Int) (R : List (List Int)) : smallN F l m R ≤ D.bulk (eOdd F l m n R) := by
  have h1 := bulk_set F
  have h2 := bulk_patches l
  have h3 := bulk_patches m
  have h4 := bulk_dig R
  unfold eOdd smallN oddCnt
  simp only [D.bulk, D.bulkL] at *
  omega
def shOdd : ASh := .agg [.sl [.sl [.sl [.int .u64]]], .sl shPatch, .sl shPatch, .int .i64, .sl [.sl [.int .u64]]]
theorem fitsL_5 {s t u v w : Sh} {ds : List D} (h : Sh.fitsL [s, t, u, v, w] ds) : ∃ a b c d e, ds = [a, b, c, d, e] ∧ s.fits a ∧ t.fits b ∧ u.fits c ∧ v.fits d ∧ w.fits e := by
  simp only [Sh.fitsL] at h
  obtain ⟨a, _, rfl, h1, b, _, rfl, h2, c, _, rfl, h3, d, _, rfl, h4, e, _, rfl, h5, rfl⟩ := h
  exact ⟨a, b, c, d, e, rfl, h1, h2, h3, h4, h5⟩
theorem frames_of {d : D} (h : Sh.fits (.sl [.sl [.sl [.int .u64]]]) d) : ∃ F : Frames, d = eSet F ∧ ∀ r ∈ F, ∀ w ∈ r, ∀ x ∈ w, x < W64 := by
  obtain ⟨l, rfl, hl⟩ := fits_sl (enc := eRow) (p := fun r => ∀ w ∈ r, ∀ x ∈ w, x < W64) (fun e he => by
    obtain ⟨y, rfl, hy⟩ := fitsL_1 he
    obtain ⟨r, rfl, hr⟩ := fits_sl (enc := eFrame) (p := fun w => ∀ x ∈ w, x < W64) (fun e he => by
      obtain ⟨z, rfl, hz⟩ := fitsL_1 he
      obtain ⟨w, rfl, hw⟩ := fits_sl (enc := fun x : Nat => [eU x]) (p := fun x => x < W64) (fun e he => by
        obtain ⟨u, rfl, hu⟩ := fitsL_1 he
        obtain ⟨k, rfl, hk⟩ := fits_u64 hu
        exact ⟨k, rfl, hk⟩) hz
      exact ⟨w, rfl, hw⟩) hy
    exact ⟨r, rfl, hr⟩) h
  exact ⟨l, rfl, hl⟩
theorem report_of {d : D} (h : Sh.fits (.sl [.sl [.int .u64]]) d) : ∃ R : List (List Int), d = eDig R := by
  obtain ⟨l, rfl, _⟩ := fits_sl (enc := fun r : List Int => [D.sl (r.map fun x => [eUI x])]) (p := fun _ => True) (fun e he => by
    obtain ⟨y, rfl, hy⟩ := fitsL_1 he
    obtain ⟨r, rfl, _⟩ := fits_sl (enc := fun x : Int => [eUI x]) (p := fun _ => True) (fun e he => by
      obtain ⟨u, rfl, hu⟩ := fitsL_1 he
      simp only [Sh.fits] at hu
      obtain ⟨k, rfl, _⟩ := hu
      exact ⟨k, rfl, trivial⟩) hy
    exact ⟨r, rfl, trivial⟩) h
  exact ⟨l, rfl⟩
theorem odd_of {d : D} (h : shOdd.fits d) : ∃ F l m n R, d = eOdd F l m n R ∧ (∀ r ∈ F, ∀ w ∈ r, ∀ x ∈ w, x < W64) ∧ (∀ q ∈ l, posIn (posOf q) ∧ q.x < W64) ∧ (∀ q ∈ m, posIn (posOf q) ∧ q.x < W64) ∧ n ≤ 9223372036854775807 := by
  obtain ⟨ds, rfl, h⟩ := h
  obtain ⟨a, b, c, d, e, rfl, h1, h2, h3, h4, h5⟩ := fitsL_5 h
  obtain ⟨F, rfl, g1⟩ := frames_of h1
  obtain ⟨l, rfl, g2⟩ := patches_of h2
  obtain ⟨m, rfl, g3⟩ := patches_of h3
  obtain ⟨n, rfl, _, _, g4⟩ := fits_i64 h4
  obtain ⟨R, rfl⟩ := report_of h5
  exact ⟨F, l, m, n, R, rfl, g1, g2, g3, g4⟩
theorem matches_lifted (os : Os) (started : os.Started) (H : Type) (enc : TypeId × Value → H) (F : Stop.Interp) :
    ReturnsInHanded {} Try.checked os 3 .any ((Rows.OpenSpec.upto Rows.deltaMatchesReferenceSpec).pre6 enc Try.prog Try.f3 Rows.deltaMatchesReferenceUptoRow.domain false) (((Rows.OpenSpec.upto Rows.deltaMatchesReferenceSpec).at F).post enc Try.prog Try.f3 false true false false) := by
  refine returnsInHanded_of_cond (C := Try.checked) (s := Rows.OpenSpec.upto Rows.deltaMatchesReferenceSpec) (k := Rows.uptoSmall) rfl own started (by kernel_rfl) Try.func3
    (OpenSpec.witness (enc := enc) (C := Try.checked) (s := Rows.OpenSpec.upto Rows.deltaMatchesReferenceSpec) (k := Rows.uptoSmall) rfl false ⟨#[], #[.agg #[.slice none 0 0, .slice none 0 0], .slice none 0 0, .agg #[.slice none 0 0, .slice none 0 0, .slice none 0 0, .int .i64 0, .slice none 0 0]], []⟩ 8 (by kernel_rfl) (by kernel_rfl) (by kernel_rfl)
      (x := ([.agg [.nil, .nil], .nil, .agg [.nil, .nil, .nil, .lit (.int .i64 0), .nil]], [], [])) (by kernel_rfl) rfl (by kernel_rfl)) ?_
  intro W base args ds gs before hval hW _ hk _
  have hgs : gs = [] := by
    obtain ⟨p, q, _, hV, _⟩ := hW
    exact (trodVars_none hV).1
  subst hgs
  rw [List.append_nil] at hk
  have hbk : Rows.uptoBulkAll ds ≤ 1048576 := of_decide_eq_true hk
  refine law_post (P := Try.prog) (n := 8) (s := Rows.deltaMatchesReferenceSpec) (ss := [shRaw, shCh, shOdd]) laidOut (of_decide_eq_true (by kernel_rfl)) (tb := 4) (by kernel_rfl) Try.underlying4 (by kernel_rfl) rfl hval hW (fun hl => ?_) (fun Ds hD hB => ?_)
  · match ds, hl with
    | [_, _, _], _ => rfl
  · obtain ⟨a, b, c, rfl, ha, hb, hc⟩ := fitsA_3 hD
    obtain ⟨bs, ws, rfl, h1, h2⟩ := raw_of ha
    obtain ⟨ch, rfl, h3⟩ := changes_of hb
    obtain ⟨F', l, m, n, R, rfl, g1, g2, g3, g4⟩ := odd_of hc
    have h5 := bulk_odd F' l m n R
    have h6 := bulk_leAll ds
    simp only [D.bulkL] at hB
    exact matches_c bs ws ch F' l m n R h1 h2 (fun c hc => (h3 c hc).2) g1 g2 g3 g4 (by omega)
theorem matches_holds : Rows.DeltaMatchesReferenceUptoSaid :=
  OpenClaim.holds_of_cond 3 Try.f3 rfl rfl rfl rfl rfl rfl rfl ⟨rfl, rfl, rfl, rfl, rfl⟩ rfl rfl rfl rfl rfl (by kernel_rfl) Try.func3 (by kernel_rfl)
    (of_decide_eq_true (by kernel_rfl)) (by unfold Func.isWrapper; first | (rw [if_pos (by decide +kernel)]; kernel_rfl) | (rw [if_neg (by decide +kernel)]; exact ⟨rfl, rfl⟩))
    (fun os started H enc _ F => matches_lifted os started H enc F)
end Go.Proofs.Ytcamhcnjomddbaa
