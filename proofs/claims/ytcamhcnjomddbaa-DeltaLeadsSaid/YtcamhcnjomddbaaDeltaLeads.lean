/-
  DeltaLeads: the difference between two sets of the same shape, applied to the first one, gives the second one; it has a patch for each word that differs, and without any one of its patches it leads elsewhere.
  Conditions: none.
-/
import Derived.Test.YtcamhcnjomddbaaK2
set_option linter.unusedSimpArgs false
set_option linter.unusedVariables false
/-
  THE LAW DeltaLeads, by its callees' contracts.
-/
namespace Go.Proofs.Ytcamhcnjomddbaa
open Go.Aw
set_option maxRecDepth 100000
set_option maxHeartbeats 2000000
def eU8 (k : Nat) : D := .lit (.int .u8 k)
theorem leads_c (bs ws : List Nat) (ch : List (Nat × Nat)) (k : Nat) (hb : ∀ b ∈ bs, b < 256) (hw : ∀ w ∈ ws, w < W64) (hc : ∀ c ∈ ch, c.2 < W64) (hk : k < 256) : FnP Try.prog 4 [eMade bs ws, eChanges ch, eU8 k] (.d (eB true)) [] := by
  refine FnP.of_eC (own := []) (fun id => if id = 2014 then [.ord ⟨[(0, none), (1, none), (2, none), (3, none), (4, none), (6, none), (7, none), (8, none), (9, none), (10, none), (5, some [1, 6, 7, 8, 9, 10]), (11, some [1, 2, 3, 6, 8]), (12, some [])]⟩] else []) mixed Try.func4 rfl Try.call4 Try.ntmps4 (Nat.le_of_ble_eq_true rfl) Try.results4 (fun hok => ?_)
  simp (config := { maxSteps := 4000000 }) only [SE, TF, KD, GE, eq_self, ne_eq, implies_true, forall_const, if_true, if_false, cond_true, cond_false, forall_eq, List.replicate, ↓reduceIte, Nat.reduceEqDiff, Nat.reduceLT, Nat.reduceAdd, Nat.reduceSub, Nat.reduceMul, Nat.reduceLeDiff, eMade, eU8, eBytes, eByte, eChanges, eChange, ePR, eApplied]
  refine EFn.p ?_
  simp (config := { maxSteps := 4000000 }) only [SE, TF, KD, GE, eq_self, ne_eq, implies_true, forall_const, if_true, if_false, cond_true, cond_false, forall_eq, List.replicate, ↓reduceIte, Nat.reduceEqDiff, Nat.reduceLT, Nat.reduceAdd, Nat.reduceSub, Nat.reduceMul, Nat.reduceLeDiff, eMade, eU8, eBytes, eByte, eChanges, eChange, ePR, eApplied]
  refine ECall.i (examples_c) ?_
  simp (config := { maxSteps := 4000000 }) only [SE, TF, KD, GE, eq_self, ne_eq, implies_true, forall_const, if_true, if_false, cond_true, cond_false, forall_eq, List.replicate, ↓reduceIte, Nat.reduceEqDiff, Nat.reduceLT, Nat.reduceAdd, Nat.reduceSub, Nat.reduceMul, Nat.reduceLeDiff, eMade, eU8, eBytes, eByte, eChanges, eChange, ePR, eApplied]
  refine iteI (fun h => ?_) (fun h => ?_)
  · trivial
  have hm := made_c bs ws hb
  have hsm := made_small bs ws
  have hnw := made_words bs ws
  have hbf := made_bnd (bs := bs) hw
  generalize made bs ws = f at *
  refine EFn.p ?_
  simp (config := { maxSteps := 4000000 }) only [SE, TF, KD, GE, eq_self, ne_eq, implies_true, forall_const, if_true, if_false, cond_true, cond_false, forall_eq, List.replicate, ↓reduceIte, Nat.reduceEqDiff, Nat.reduceLT, Nat.reduceAdd, Nat.reduceSub, Nat.reduceMul, Nat.reduceLeDiff, eMade, eU8, eBytes, eByte, eChanges, eChange, ePR, eApplied]
  have hc := hm
  simp (config := { maxSteps := 4000000 }) only [SE, TF, KD, GE, eq_self, ne_eq, implies_true, forall_const, if_true, if_false, cond_true, cond_false, forall_eq, List.replicate, ↓reduceIte, Nat.reduceEqDiff, Nat.reduceLT, Nat.reduceAdd, Nat.reduceSub, Nat.reduceMul, Nat.reduceLeDiff, eMade, eU8, eBytes, eByte, eChanges, eChange, ePR, eApplied] at hc
  refine ECall.i hc ?_
  clear hc
  simp (config := { maxSteps := 4000000 }) only [SE, TF, KD, GE, eq_self, ne_eq, implies_true, forall_const, if_true, if_false, cond_true, cond_false, forall_eq, List.replicate, ↓reduceIte, Nat.reduceEqDiff, Nat.reduceLT, Nat.reduceAdd, Nat.reduceSub, Nat.reduceMul, Nat.reduceLeDiff, eMade, eU8, eBytes, eByte, eChanges, eChange, ePR, eApplied]
  have hg := changed_c f ch hsm (by omega)
  have hsg := shape_changedL ch f
  have hbg := bnd_changedL ch hbf hc
  generalize changedL f ch = g at *
  refine EFn.p ?_
  simp (config := { maxSteps := 4000000 }) only [SE, TF, KD, GE, eq_self, ne_eq, implies_true, forall_const, if_true, if_false, cond_true, cond_false, forall_eq, List.replicate, ↓reduceIte, Nat.reduceEqDiff, Nat.reduceLT, Nat.reduceAdd, Nat.reduceSub, Nat.reduceMul, Nat.reduceLeDiff, eMade, eU8, eBytes, eByte, eChanges, eChange, ePR, eApplied]
  have hc := hg
  simp (config := { maxSteps := 4000000 }) only [SE, TF, KD, GE, eq_self, ne_eq, implies_true, forall_const, if_true, if_false, cond_true, cond_false, forall_eq, List.replicate, ↓reduceIte, Nat.reduceEqDiff, Nat.reduceLT, Nat.reduceAdd, Nat.reduceSub, Nat.reduceMul, Nat.reduceLeDiff, eMade, eU8, eBytes, eByte, eChanges, eChange, ePR, eApplied] at hc
  refine ECall.i hc ?_
  clear hc
  simp (config := { maxSteps := 4000000 }) only [SE, TF, KD, GE, eq_self, ne_eq, implies_true, forall_const, if_true, if_false, cond_true, cond_false, forall_eq, List.replicate, ↓reduceIte, Nat.reduceEqDiff, Nat.reduceLT, Nat.reduceAdd, Nat.reduceSub, Nat.reduceMul, Nat.reduceLeDiff, eMade, eU8, eBytes, eByte, eChanges, eChange, ePR, eApplied]
  have hd := diffW_c f g (words_le hnw)
  rw [diffR_dl hsg.symm] at hd
  refine EFn.p ?_
  simp (config := { maxSteps := 4000000 }) only [SE, TF, KD, GE, eq_self, ne_eq, implies_true, forall_const, if_true, if_false, cond_true, cond_false, forall_eq, List.replicate, ↓reduceIte, Nat.reduceEqDiff, Nat.reduceLT, Nat.reduceAdd, Nat.reduceSub, Nat.reduceMul, Nat.reduceLeDiff, eMade, eU8, eBytes, eByte, eChanges, eChange, ePR, eApplied]
  have hc := hd
  simp (config := { maxSteps := 4000000 }) only [SE, TF, KD, GE, eq_self, ne_eq, implies_true, forall_const, if_true, if_false, cond_true, cond_false, forall_eq, List.replicate, ↓reduceIte, Nat.reduceEqDiff, Nat.reduceLT, Nat.reduceAdd, Nat.reduceSub, Nat.reduceMul, Nat.reduceLeDiff, eMade, eU8, eBytes, eByte, eChanges, eChange, ePR, eApplied] at hc
  refine ECall.i hc ?_
  clear hc
  have hap := applyW_c f (dl f g) hsm (dl_in hsm)
  rw [applyD_eq hbf, apply_dl hsg.symm hbf hbg] at hap
  have hst := sameSW_self (g, 0)
  have hsa := same_c f g
  simp only [SE, TF, KD, GE, eq_self, ne_eq, implies_true, forall_const, if_true, if_false, cond_true, cond_false, forall_eq, List.replicate, ↓reduceIte, Nat.reduceEqDiff, Nat.reduceLT, Nat.reduceAdd, Nat.reduceSub, Nat.reduceMul, Nat.reduceLeDiff, eMade, eU8, eBytes, eByte, eChanges, eChange, ePR, eApplied] at hap hst hsa
  simp (config := { maxSteps := 4000000 }) only [SE, TF, KD, GE, eq_self, ne_eq, implies_true, forall_const, if_true, if_false, cond_true, cond_false, forall_eq, List.replicate, ↓reduceIte, Nat.reduceEqDiff, Nat.reduceLT, Nat.reduceAdd, Nat.reduceSub, Nat.reduceMul, Nat.reduceLeDiff, eMade, eU8, eBytes, eByte, eChanges, eChange, ePR, eApplied]
  refine ⟨by kernel_rfl, ECall'.i hap ?_⟩
  simp (config := { maxSteps := 4000000 }) only [SE, TF, KD, GE, eq_self, ne_eq, implies_true, forall_const, if_true, if_false, cond_true, cond_false, forall_eq, List.replicate, ↓reduceIte, Nat.reduceEqDiff, Nat.reduceLT, Nat.reduceAdd, Nat.reduceSub, Nat.reduceMul, Nat.reduceLeDiff, eMade, eU8, eBytes, eByte, eChanges, eChange, ePR, eApplied]
  refine ECall'.i hst ?_
  simp (config := { maxSteps := 4000000 }) only [SE, TF, KD, GE, eq_self, ne_eq, implies_true, forall_const, if_true, if_false, cond_true, cond_false, forall_eq, List.replicate, ↓reduceIte, Nat.reduceEqDiff, Nat.reduceLT, Nat.reduceAdd, Nat.reduceSub, Nat.reduceMul, Nat.reduceLeDiff, eMade, eU8, eBytes, eByte, eChanges, eChange, ePR, eApplied]
  refine ECall'.i hsa ?_
  have hz : (((dl f g).length : Int) == 0) = decide (f = g) := by
    rw [Bool.eq_iff_iff, beq_iff_eq, decide_eq_true_eq, ← dl_nil hsg.symm hbf hbg, ← List.length_eq_zero_iff]; omega
  simp (config := { maxSteps := 4000000 }) only [SE, TF, KD, GE, eq_self, ne_eq, implies_true, forall_const, if_true, if_false, cond_true, cond_false, forall_eq, List.replicate, ↓reduceIte, Nat.reduceEqDiff, Nat.reduceLT, Nat.reduceAdd, Nat.reduceSub, Nat.reduceMul, Nat.reduceLeDiff, eMade, eU8, eBytes, eByte, eChanges, eChange, ePR, eApplied, hz]
  refine iteI (fun h1 => ?_) (fun h1 => ?_)
  · trivial
  have hfg : f ≠ g := by simpa using h1
  have hpos : 0 < (dl f g).length := by
    have : dl f g ≠ [] := fun e => hfg ((dl_nil hsg.symm hbf hbg).1 e)
    exact List.length_pos_iff.2 this
  have hlen := dl_len f g
  obtain ⟨i, hi⟩ : ∃ i, k % (dl f g).length = i := ⟨_, rfl⟩
  have hin : i < (dl f g).length := by rw [← hi]; exact Nat.mod_lt _ hpos
  have hk1 : IntKind.i64.wrap (k : Int) = k := wrap_i (by omega)
  have hk2 : (k : Int).tmod ((dl f g).length : Int) = (i : Int) := by
    rw [show (k : Int).tmod ((dl f g).length : Int) = ((k % (dl f g).length : Nat) : Int) from rfl, hi]
  have hk3 := wrap_succ (show i < 9223372036854775807 by omega)
  have e1 : List.take i (List.map ePatch (dl f g)) = ((dl f g).take i).map ePatch := List.map_take.symm
  have e2 : List.take ((dl f g).length - (i + 1)) (List.drop (i + 1) (List.map ePatch (dl f g))) = ((dl f g).drop (i + 1)).map ePatch := by
    rw [List.take_of_length_le (by simp), ← List.map_drop]
  have hrow : ∀ l : List Patch, rowsOk 4 (l.map ePatch) := by
    intro l e he
    obtain ⟨q, _, rfl⟩ := List.mem_map.1 he
    exact ⟨rfl, fun x hx => by simp [ePatch, eI, eU] at hx; rcases hx with rfl | rfl | rfl | rfl <;> rfl⟩
  have hrow4 : ∀ e, e ∈ List.map ePatch (dl f g) → e.length = 4 := by
    intro e he; obtain ⟨q, _, rfl⟩ := List.mem_map.1 he; rfl
  obtain ⟨less, hless⟩ : ∃ less, (dl f g).take i ++ (dl f g).drop (i + 1) = less := ⟨_, rfl⟩
  have hsub : less.Sublist (dl f g) := by
    rw [← hless, ← List.eraseIdx_eq_take_drop_succ]; exact List.eraseIdx_sublist _ _
  obtain ⟨hF, hne⟩ := apply_less hsg.symm hbf hbg hsub
  have hll : less.length ≤ (dl f g).length := hsub.length_le
  have e3 : ((dl f g).take i).map ePatch ++ ((dl f g).drop (i + 1)).map ePatch = less.map ePatch := by rw [← List.map_append, hless]
  have e4 : ((dl f g).take i).length + ((dl f g).drop (i + 1)).length = less.length := by rw [← hless, List.length_append]
  have h0 : Int.toNat 0 = 0 := rfl
  simp (config := { maxSteps := 4000000 }) only [SE, TF, KD, GE, eq_self, ne_eq, implies_true, forall_const, if_true, if_false, cond_true, cond_false, forall_eq, List.replicate, ↓reduceIte, Nat.reduceEqDiff, Nat.reduceLT, Nat.reduceAdd, Nat.reduceSub, Nat.reduceMul, Nat.reduceLeDiff, eMade, eU8, eBytes, eByte, eChanges, eChange, ePR, eApplied, hk1, hk2, hk3, h0, Nat.sub_zero, e1, e2, e3, e4]
  refine ⟨by omega, by kernel_rfl, ⟨hrow4, by omega, by omega, by omega, by omega⟩, ⟨hrow4, by omega, by omega, by omega⟩, ⟨hrow _, by simp; omega, by simp; omega⟩, ⟨hrow4, by omega, by omega, by omega⟩, ⟨hrow _, by omega, by omega⟩, ?_⟩
  have hap2 := applyW_c f less hsm (fun q hq => dl_in hsm q (hsub.subset hq))
  rw [applyD_eq hbf] at hap2
  have hA : applyIn f less = (applyL f less, 0) := by unfold applyIn; rw [if_pos hF]
  have hneq : applyL f less ≠ g := by
    have := hne ⟨(dl f g)[i], by simp, ?_⟩
    · rw [hA] at this; exact this
    · intro hm
      rw [← hless] at hm
      have hlt := normal_lt (dl_normal f g)
      rcases List.mem_append.1 hm with hm | hm
      · obtain ⟨j, hj, e⟩ := List.mem_take_iff_getElem.1 hm
        have := hlt j i (by omega) hin
        rw [e] at this
        exact Patch.lt_pos this rfl
      · obtain ⟨j, hj, e⟩ := List.mem_drop_iff_getElem.1 hm
        have := hlt i (i + 1 + j) (by omega) (by omega)
        rw [e] at this
        exact Patch.lt_pos this rfl
  rw [hA] at hap2
  generalize applyL f less = h at *
  have hsa2 := same_c h g
  rw [decide_eq_false hneq] at hsa2
  refine EFn.p ?_
  simp (config := { maxSteps := 4000000 }) only [SE, TF, KD, GE, eq_self, ne_eq, implies_true, forall_const, if_true, if_false, cond_true, cond_false, forall_eq, List.replicate, ↓reduceIte, Nat.reduceEqDiff, Nat.reduceLT, Nat.reduceAdd, Nat.reduceSub, Nat.reduceMul, Nat.reduceLeDiff, eMade, eU8, eBytes, eByte, eChanges, eChange, ePR, eApplied]
  have hc := hap2
  simp (config := { maxSteps := 4000000 }) only [SE, TF, KD, GE, eq_self, ne_eq, implies_true, forall_const, if_true, if_false, cond_true, cond_false, forall_eq, List.replicate, ↓reduceIte, Nat.reduceEqDiff, Nat.reduceLT, Nat.reduceAdd, Nat.reduceSub, Nat.reduceMul, Nat.reduceLeDiff, eMade, eU8, eBytes, eByte, eChanges, eChange, ePR, eApplied] at hc
  refine ECall.i hc ?_
  clear hc
  simp (config := { maxSteps := 4000000 }) only [SE, TF, KD, GE, eq_self, ne_eq, implies_true, forall_const, if_true, if_false, cond_true, cond_false, forall_eq, List.replicate, ↓reduceIte, Nat.reduceEqDiff, Nat.reduceLT, Nat.reduceAdd, Nat.reduceSub, Nat.reduceMul, Nat.reduceLeDiff, eMade, eU8, eBytes, eByte, eChanges, eChange, ePR, eApplied]
  refine EFn.p ?_
  simp (config := { maxSteps := 4000000 }) only [SE, TF, KD, GE, eq_self, ne_eq, implies_true, forall_const, if_true, if_false, cond_true, cond_false, forall_eq, List.replicate, ↓reduceIte, Nat.reduceEqDiff, Nat.reduceLT, Nat.reduceAdd, Nat.reduceSub, Nat.reduceMul, Nat.reduceLeDiff, eMade, eU8, eBytes, eByte, eChanges, eChange, ePR, eApplied]
  have hc := hsa2
  simp (config := { maxSteps := 4000000 }) only [SE, TF, KD, GE, eq_self, ne_eq, implies_true, forall_const, if_true, if_false, cond_true, cond_false, forall_eq, List.replicate, ↓reduceIte, Nat.reduceEqDiff, Nat.reduceLT, Nat.reduceAdd, Nat.reduceSub, Nat.reduceMul, Nat.reduceLeDiff, eMade, eU8, eBytes, eByte, eChanges, eChange, ePR, eApplied] at hc
  refine ECall.i hc ?_
  clear hc
  simp (config := { maxSteps := 4000000 }) only [SE, TF, KD, GE, eq_self, ne_eq, implies_true, forall_const, if_true, if_false, cond_true, cond_false, forall_eq, List.replicate, ↓reduceIte, Nat.reduceEqDiff, Nat.reduceLT, Nat.reduceAdd, Nat.reduceSub, Nat.reduceMul, Nat.reduceLeDiff, eMade, eU8, eBytes, eByte, eChanges, eChange, ePR, eApplied]
end Go.Proofs.Ytcamhcnjomddbaa

/-
  DeltaLeads: the difference between two sets of the same shape, applied to the first one, gives the second one; it has a patch for each word that differs, and without any one of its patches it leads elsewhere.
  Conditions: none.
-/
namespace Go.Proofs.Ytcamhcnjomddbaa
open Go.Aw Go.ChangeShapes Go.WideShapes Go.ChangeAt Go.RowKit
set_option maxRecDepth 100000
theorem leads_lifted (os : Os) (started : os.Started) (H : Type) (enc : TypeId × Value → H) :
    ReturnsInHanded {} Try.checked os 4 .any (Rows.deltaLeadsSpec.pre6 enc Try.prog Try.f4 Rows.deltaLeadsRow.domain false) (Rows.deltaLeadsSpec.post enc Try.prog Try.f4 false true false false) := by
  refine returnsInHanded_of_change (C := Try.checked) own started (by kernel_rfl) Try.func4
    (ChangeSpec.witness6 (enc := enc) (C := Try.checked) false ⟨#[], #[.agg #[.slice none 0 0, .slice none 0 0], .slice none 0 0, .int .u8 0], []⟩ 8 (by kernel_rfl) (by kernel_rfl) (by kernel_rfl) (by kernel_rfl)) ?_
  intro W base args ds gs before hval hW _ _
  refine law_post (P := Try.prog) (n := 8) (ss := [shRaw, shCh, .one (.int .u8)]) laidOut (of_decide_eq_true (by kernel_rfl)) (tb := 4) (by kernel_rfl) Try.underlying4 (by kernel_rfl) rfl hval hW (fun hl => ?_) (fun Ds hD _ => ?_)
  · match ds, hl with
    | [_, _, _], _ => rfl
  · obtain ⟨a, b, c, rfl, ha, hb, hc⟩ := fitsA_3 hD
    obtain ⟨bs, ws, rfl, h1, h2⟩ := raw_of ha
    obtain ⟨ch, rfl, h3⟩ := changes_of hb
    obtain ⟨k, rfl, h4⟩ := fits_u8 hc
    exact leads_c bs ws ch k h1 h2 (fun c hc => (h3 c hc).2) h4
theorem leads_holds : Rows.DeltaLeadsSaid :=
  OpenClaim.holds_of_wide 4 Try.f4 rfl rfl rfl rfl rfl rfl rfl ⟨rfl, rfl, rfl, rfl, rfl⟩ rfl rfl rfl rfl rfl (by kernel_rfl) Try.func4 (by kernel_rfl)
    (of_decide_eq_true (by kernel_rfl)) (by unfold Func.isWrapper; first | (rw [if_pos (by decide +kernel)]; kernel_rfl) | (rw [if_neg (by decide +kernel)]; exact ⟨rfl, rfl⟩))
    (fun os started H enc _ => leads_lifted os started H enc)
end Go.Proofs.Ytcamhcnjomddbaa
