/-
 CONTRACTS of the functions that the law reaches, and plain laws on what they compute. Conditions: those of each law.
-/
import Derived.Test.YtejpmjnefokdoaaK1
set_option linter.unusedSimpArgs false
set_option linter.unusedVariables false
namespace Go.Proofs.Ytejpmjnefokdoaa
open Go.Aw
open Nat renaming reduceEqDiff → pE, reduceLT → pL, reduceAdd → pA, reduceSub → pS, reduceMul → pM, reduceLeDiff → pD
open Int renaming reduceToNat → qT, reduceGT → qG, reduceLT → qL, reduceGE → qH, reduceBNe → qN, reduceBEq → qB, reduceLE → qE, reduceNe → qO, reduceAdd → qA, reduceNeg → qM
set_option maxRecDepth 100000
set_option maxHeartbeats 1000000
theorem rowsOk_nums (l : List Num) : rowsOk 2 (l.map eNum) := by
 intro y hy
 obtain ⟨q, _, rfl⟩ := List.mem_map.1 hy
 simp [eNum, eI, eS, D.one, Value.oneCell']
theorem clone_c (l : List Num) (hl : l.length ≤ 2000000) : FnP Try.prog 76 [eNums l] (.d (eNums l)) [] := by
 refine FnP.of_eC (own := []) (fun _ => []) mixed Try.func76 rfl Try.call76 Try.ntmps76 (Nat.le_of_ble_eq_true rfl) Try.results76 (fun hok => ?_)
 simp (maxSteps := 4000000) only [ZE,↓reduceIte,pE,pL,pA,pS,pM,pD]
 refine ⟨by simp [dstOk], fun b hb => ?_⟩
 cases b with
 | true =>
  have := hb rfl
  simp (maxSteps := 4000000) only [ZE,↓reduceIte,pE,pL,pA,pS,pM,pD, this]
 | false =>
  simp (maxSteps := 4000000) only [ZE,↓reduceIte,pE,pL,pA,pS,pM,pD]
  exact ⟨⟨rowsOk_nums l, by omega, by omega⟩, by omega⟩
def numsE (e : Expr) : List Num := if (e.op == 1) = true then [e.k, e.w] else if (e.op == 12) = true then [e.k, e.w] else if (e.op == 13) = true then [e.w] else []
def numHead (x : Item) : List Num := if x.kind.1 = 1 ∨ x.kind.1 = 2 ∨ x.kind.1 = 5 then [x.width] else if x.kind.1 = 3 ∨ x.kind.1 = 6 then [x.width, x.depth] else if x.kind.1 = 4 then [x.width, x.init] else if x.kind.1 = 9 then x.args else []
def numbers (x : Item) : List Num := numHead x ++ (Expr.allL (uses x)).flatMap numsE
theorem numbers_c (x : Item) (hl : (numbers x).length ≤ 2000000) : FnP Try.prog 66 [.agg (eItem x)] (.d (eNums (numbers x))) [] := by
 have uc := uses_c x
 simp only [ZE,↓reduceIte,pE,pL,pA,pS,pM,pD] at uc
 by_cases e : x.kind.1 = 1
 ·refine FnP.of_eC (own := []) (fun i => if i = 6 then [.rnm [(1, 1), (3, 3), (13, 100)]] else if i = 9 then [.rnm [(1, 1), (3, 3), (21, 100)]] else if i = 11 then [.rnm [(1, 1), (3, 3), (28, 100)]] else if i = 14 then [.keep [36, 3, 1]] else []) mixed Try.func66 rfl Try.call66 Try.ntmps66 (Nat.le_of_ble_eq_true rfl) Try.results66 (fun hok => ?_)
  have hx : D.okL (eItem x) := by simpa only [D.okL, D.ok, and_true] using hok
  simp only [e] at uc
  simp (maxSteps := 4000000) only [ZE,↓reduceIte,pE,pL,pA,pS,pM,pD, e, zN,qT,qG,qL,qH,qN,qB,qE,qO,qA,qM]
  refine EFn.p ?_
  simp only [ZE,↓reduceIte,pE,pL,pA,pS,pM,pD]
  refine ECall.i uc ?_
  simp only [ZE,↓reduceIte,pE,pL,pA,pS,pM,pD]
  refine EFn.p ?_
  simp (maxSteps := 4000000) only [ZE,↓reduceIte,pE,pL,pA,pS,pM,pD]
  have hc := all_fc (uses x)
  simp (maxSteps := 4000000) only [ZE,↓reduceIte,pE,pL,pA,pS,pM,pD] at hc
  refine ECall.i hc ?_
  clear hc
  simp only [ZE,↓reduceIte,pE,pL,pA,pS,pM,pD]
  obtain ⟨r, hr⟩ : ∃ r : Nat → List Num, ∀ k, r k = numHead x ++ ((Expr.allL (uses x)).take k).flatMap numsE := ⟨fun k => numHead x ++ ((Expr.allL (uses x)).take k).flatMap numsE, fun _ => rfl⟩
  have hr0 : r 0 = [x.width] := by rw [hr]; simp [numHead, e]
  have hlen : ∀ k, (r k).length ≤ 2000000 := fun k => by
   refine Nat.le_trans ?_ hl
   rw [hr, numbers, List.length_append, List.length_append]
   refine Nat.add_le_add_left ?_ _
   conv => rhs; rw [← List.take_append_drop k (Expr.allL (uses x)), List.flatMap_append, List.length_append]
   exact Nat.le_add_right _ _
  refine eAll (fun _ _ => []) (uses x) (uses_ok hx) rfl (by simp only [ZE,↓reduceIte,pE,pL,pA,pS,pM,pD]) (fun k => [(3, .box [.ar 100 (r k).length]), (1, .box ((eItem x).map .d)), (100, .arr 47 2 .flat ((r k).map eNum))]) (fun _ => True) trivial ?_ ?_ rfl (fun k hk _ => ?_) (fun _ => ?_)
  ·simp (maxSteps := 4000000) only [ZE,↓reduceIte,pE,pL,pA,pS,pM,pD, hr0, e]
  ·simp only [ZE,↓reduceIte,pE,pL,pA,pS,pM,pD]
  ·have hs : r (k + 1) = r k ++ numsE (Expr.allL (uses x))[k] := by rw [hr, hr, List.take_succ_eq_append_getElem hk, List.flatMap_append]; simp only [List.flatMap_cons, List.flatMap_nil, List.append_nil, List.append_assoc]
   have h1 := hlen (k + 1)
   rw [hs, List.length_append] at h1
   have hrw := rowsOk_nums (r k)
   by_cases o1 : ((Expr.allL (uses x))[k].op == 1) = true
   ·simp only [numsE, o1, if_true, List.length_cons, List.length_nil] at h1
    simp only [ZE,↓reduceIte,pE,pL,pA,pS,pM,pD, eA, zN,qT,qG,qL,qH,qN,qB,qE,qO,qA,qM, hs, e, o1, numsE, List.map_append, List.length_append, hrw, true_and]
    omega
   replace o1 := Bool.eq_false_iff.2 o1
   by_cases o2 : ((Expr.allL (uses x))[k].op == 12) = true
   ·simp only [numsE, o1, o2, if_true, List.length_cons, List.length_nil] at h1
    simp only [ZE,↓reduceIte,pE,pL,pA,pS,pM,pD, eA, zN,qT,qG,qL,qH,qN,qB,qE,qO,qA,qM, hs, e, o1, o2, numsE, List.map_append, List.length_append, hrw, true_and]
    omega
   replace o2 := Bool.eq_false_iff.2 o2
   by_cases o3 : ((Expr.allL (uses x))[k].op == 13) = true
   ·simp only [numsE, o1, o2, o3, if_true, List.length_cons, List.length_nil] at h1
    simp only [ZE,↓reduceIte,pE,pL,pA,pS,pM,pD, eA, zN,qT,qG,qL,qH,qN,qB,qE,qO,qA,qM, hs, e, o1, o2, o3, numsE, List.map_append, List.length_append, hrw, true_and]
    omega
   replace o3 := Bool.eq_false_iff.2 o3
   simp only [ZE,↓reduceIte,pE,pL,pA,pS,pM,pD, eA, zN,qT,qG,qL,qH,qN,qB,qE,qO,qA,qM, hs, e, o1, o2, o3, numsE]
  ·simp only [ZE,↓reduceIte,pE,pL,pA,pS,pM,pD, zN,qT,qG,qL,qH,qN,qB,qE,qO,qA,qM, e]
   rw [hr, List.take_length, numbers]
 by_cases e : x.kind.1 = 2
 ·refine FnP.of_eC (own := []) (fun i => if i = 6 then [.rnm [(1, 1), (3, 3), (13, 100)]] else if i = 9 then [.rnm [(1, 1), (3, 3), (21, 100)]] else if i = 11 then [.rnm [(1, 1), (3, 3), (28, 100)]] else if i = 14 then [.keep [36, 3, 1]] else []) mixed Try.func66 rfl Try.call66 Try.ntmps66 (Nat.le_of_ble_eq_true rfl) Try.results66 (fun hok => ?_)
  have hx : D.okL (eItem x) := by simpa only [D.okL, D.ok, and_true] using hok
  simp only [e] at uc
  simp (maxSteps := 4000000) only [ZE,↓reduceIte,pE,pL,pA,pS,pM,pD, e, zN,qT,qG,qL,qH,qN,qB,qE,qO,qA,qM]
  refine EFn.p ?_
  simp only [ZE,↓reduceIte,pE,pL,pA,pS,pM,pD]
  refine ECall.i uc ?_
  simp only [ZE,↓reduceIte,pE,pL,pA,pS,pM,pD]
  refine EFn.p ?_
  simp (maxSteps := 4000000) only [ZE,↓reduceIte,pE,pL,pA,pS,pM,pD]
  have hc := all_fc (uses x)
  simp (maxSteps := 4000000) only [ZE,↓reduceIte,pE,pL,pA,pS,pM,pD] at hc
  refine ECall.i hc ?_
  clear hc
  simp only [ZE,↓reduceIte,pE,pL,pA,pS,pM,pD]
  obtain ⟨r, hr⟩ : ∃ r : Nat → List Num, ∀ k, r k = numHead x ++ ((Expr.allL (uses x)).take k).flatMap numsE := ⟨fun k => numHead x ++ ((Expr.allL (uses x)).take k).flatMap numsE, fun _ => rfl⟩
  have hr0 : r 0 = [x.width] := by rw [hr]; simp [numHead, e]
  have hlen : ∀ k, (r k).length ≤ 2000000 := fun k => by
   refine Nat.le_trans ?_ hl
   rw [hr, numbers, List.length_append, List.length_append]
   refine Nat.add_le_add_left ?_ _
   conv => rhs; rw [← List.take_append_drop k (Expr.allL (uses x)), List.flatMap_append, List.length_append]
   exact Nat.le_add_right _ _
  refine eAll (fun _ _ => []) (uses x) (uses_ok hx) rfl (by simp only [ZE,↓reduceIte,pE,pL,pA,pS,pM,pD]) (fun k => [(3, .box [.ar 100 (r k).length]), (1, .box ((eItem x).map .d)), (100, .arr 47 2 .flat ((r k).map eNum))]) (fun _ => True) trivial ?_ ?_ rfl (fun k hk _ => ?_) (fun _ => ?_)
  ·simp (maxSteps := 4000000) only [ZE,↓reduceIte,pE,pL,pA,pS,pM,pD, hr0, e]
  ·simp only [ZE,↓reduceIte,pE,pL,pA,pS,pM,pD]
  ·have hs : r (k + 1) = r k ++ numsE (Expr.allL (uses x))[k] := by rw [hr, hr, List.take_succ_eq_append_getElem hk, List.flatMap_append]; simp only [List.flatMap_cons, List.flatMap_nil, List.append_nil, List.append_assoc]
   have h1 := hlen (k + 1)
   rw [hs, List.length_append] at h1
   have hrw := rowsOk_nums (r k)
   by_cases o1 : ((Expr.allL (uses x))[k].op == 1) = true
   ·simp only [numsE, o1, if_true, List.length_cons, List.length_nil] at h1
    simp only [ZE,↓reduceIte,pE,pL,pA,pS,pM,pD, eA, zN,qT,qG,qL,qH,qN,qB,qE,qO,qA,qM, hs, e, o1, numsE, List.map_append, List.length_append, hrw, true_and]
    omega
   replace o1 := Bool.eq_false_iff.2 o1
   by_cases o2 : ((Expr.allL (uses x))[k].op == 12) = true
   ·simp only [numsE, o1, o2, if_true, List.length_cons, List.length_nil] at h1
    simp only [ZE,↓reduceIte,pE,pL,pA,pS,pM,pD, eA, zN,qT,qG,qL,qH,qN,qB,qE,qO,qA,qM, hs, e, o1, o2, numsE, List.map_append, List.length_append, hrw, true_and]
    omega
   replace o2 := Bool.eq_false_iff.2 o2
   by_cases o3 : ((Expr.allL (uses x))[k].op == 13) = true
   ·simp only [numsE, o1, o2, o3, if_true, List.length_cons, List.length_nil] at h1
    simp only [ZE,↓reduceIte,pE,pL,pA,pS,pM,pD, eA, zN,qT,qG,qL,qH,qN,qB,qE,qO,qA,qM, hs, e, o1, o2, o3, numsE, List.map_append, List.length_append, hrw, true_and]
    omega
   replace o3 := Bool.eq_false_iff.2 o3
   simp only [ZE,↓reduceIte,pE,pL,pA,pS,pM,pD, eA, zN,qT,qG,qL,qH,qN,qB,qE,qO,qA,qM, hs, e, o1, o2, o3, numsE]
  ·simp only [ZE,↓reduceIte,pE,pL,pA,pS,pM,pD, zN,qT,qG,qL,qH,qN,qB,qE,qO,qA,qM, e]
   rw [hr, List.take_length, numbers]
 by_cases e : x.kind.1 = 5
 ·refine FnP.of_eC (own := []) (fun i => if i = 6 then [.rnm [(1, 1), (3, 3), (13, 100)]] else if i = 9 then [.rnm [(1, 1), (3, 3), (21, 100)]] else if i = 11 then [.rnm [(1, 1), (3, 3), (28, 100)]] else if i = 14 then [.keep [36, 3, 1]] else []) mixed Try.func66 rfl Try.call66 Try.ntmps66 (Nat.le_of_ble_eq_true rfl) Try.results66 (fun hok => ?_)
  have hx : D.okL (eItem x) := by simpa only [D.okL, D.ok, and_true] using hok
  simp only [e] at uc
  simp (maxSteps := 4000000) only [ZE,↓reduceIte,pE,pL,pA,pS,pM,pD, e, zN,qT,qG,qL,qH,qN,qB,qE,qO,qA,qM]
  refine EFn.p ?_
  simp only [ZE,↓reduceIte,pE,pL,pA,pS,pM,pD]
  refine ECall.i uc ?_
  simp only [ZE,↓reduceIte,pE,pL,pA,pS,pM,pD]
  refine EFn.p ?_
  simp (maxSteps := 4000000) only [ZE,↓reduceIte,pE,pL,pA,pS,pM,pD]
  have hc := all_fc (uses x)
  simp (maxSteps := 4000000) only [ZE,↓reduceIte,pE,pL,pA,pS,pM,pD] at hc
  refine ECall.i hc ?_
  clear hc
  simp only [ZE,↓reduceIte,pE,pL,pA,pS,pM,pD]
  obtain ⟨r, hr⟩ : ∃ r : Nat → List Num, ∀ k, r k = numHead x ++ ((Expr.allL (uses x)).take k).flatMap numsE := ⟨fun k => numHead x ++ ((Expr.allL (uses x)).take k).flatMap numsE, fun _ => rfl⟩
  have hr0 : r 0 = [x.width] := by rw [hr]; simp [numHead, e]
  have hlen : ∀ k, (r k).length ≤ 2000000 := fun k => by
   refine Nat.le_trans ?_ hl
   rw [hr, numbers, List.length_append, List.length_append]
   refine Nat.add_le_add_left ?_ _
   conv => rhs; rw [← List.take_append_drop k (Expr.allL (uses x)), List.flatMap_append, List.length_append]
   exact Nat.le_add_right _ _
  refine eAll (fun _ _ => []) (uses x) (uses_ok hx) rfl (by simp only [ZE,↓reduceIte,pE,pL,pA,pS,pM,pD]) (fun k => [(3, .box [.ar 100 (r k).length]), (1, .box ((eItem x).map .d)), (100, .arr 47 2 .flat ((r k).map eNum))]) (fun _ => True) trivial ?_ ?_ rfl (fun k hk _ => ?_) (fun _ => ?_)
  ·simp (maxSteps := 4000000) only [ZE,↓reduceIte,pE,pL,pA,pS,pM,pD, hr0, e]
  ·simp only [ZE,↓reduceIte,pE,pL,pA,pS,pM,pD]
  ·have hs : r (k + 1) = r k ++ numsE (Expr.allL (uses x))[k] := by rw [hr, hr, List.take_succ_eq_append_getElem hk, List.flatMap_append]; simp only [List.flatMap_cons, List.flatMap_nil, List.append_nil, List.append_assoc]
   have h1 := hlen (k + 1)
   rw [hs, List.length_append] at h1
   have hrw := rowsOk_nums (r k)
   by_cases o1 : ((Expr.allL (uses x))[k].op == 1) = true
   ·simp only [numsE, o1, if_true, List.length_cons, List.length_nil] at h1
    simp only [ZE,↓reduceIte,pE,pL,pA,pS,pM,pD, eA, zN,qT,qG,qL,qH,qN,qB,qE,qO,qA,qM, hs, e, o1, numsE, List.map_append, List.length_append, hrw, true_and]
    omega
   replace o1 := Bool.eq_false_iff.2 o1
   by_cases o2 : ((Expr.allL (uses x))[k].op == 12) = true
   ·simp only [numsE, o1, o2, if_true, List.length_cons, List.length_nil] at h1
    simp only [ZE,↓reduceIte,pE,pL,pA,pS,pM,pD, eA, zN,qT,qG,qL,qH,qN,qB,qE,qO,qA,qM, hs, e, o1, o2, numsE, List.map_append, List.length_append, hrw, true_and]
    omega
   replace o2 := Bool.eq_false_iff.2 o2
   by_cases o3 : ((Expr.allL (uses x))[k].op == 13) = true
   ·simp only [numsE, o1, o2, o3, if_true, List.length_cons, List.length_nil] at h1
    simp only [ZE,↓reduceIte,pE,pL,pA,pS,pM,pD, eA, zN,qT,qG,qL,qH,qN,qB,qE,qO,qA,qM, hs, e, o1, o2, o3, numsE, List.map_append, List.length_append, hrw, true_and]
    omega
   replace o3 := Bool.eq_false_iff.2 o3
   simp only [ZE,↓reduceIte,pE,pL,pA,pS,pM,pD, eA, zN,qT,qG,qL,qH,qN,qB,qE,qO,qA,qM, hs, e, o1, o2, o3, numsE]
  ·simp only [ZE,↓reduceIte,pE,pL,pA,pS,pM,pD, zN,qT,qG,qL,qH,qN,qB,qE,qO,qA,qM, e]
   rw [hr, List.take_length, numbers]
 by_cases e : x.kind.1 = 3
 ·refine FnP.of_eC (own := []) (fun i => if i = 6 then [.rnm [(1, 1), (3, 3), (13, 100)]] else if i = 9 then [.rnm [(1, 1), (3, 3), (21, 100)]] else if i = 11 then [.rnm [(1, 1), (3, 3), (28, 100)]] else if i = 14 then [.keep [36, 3, 1]] else []) mixed Try.func66 rfl Try.call66 Try.ntmps66 (Nat.le_of_ble_eq_true rfl) Try.results66 (fun hok => ?_)
  have hx : D.okL (eItem x) := by simpa only [D.okL, D.ok, and_true] using hok
  simp only [e] at uc
  simp (maxSteps := 4000000) only [ZE,↓reduceIte,pE,pL,pA,pS,pM,pD, e, zN,qT,qG,qL,qH,qN,qB,qE,qO,qA,qM]
  refine EFn.p ?_
  simp only [ZE,↓reduceIte,pE,pL,pA,pS,pM,pD]
  refine ECall.i uc ?_
  simp only [ZE,↓reduceIte,pE,pL,pA,pS,pM,pD]
  refine EFn.p ?_
  simp (maxSteps := 4000000) only [ZE,↓reduceIte,pE,pL,pA,pS,pM,pD]
  have hc := all_fc (uses x)
  simp (maxSteps := 4000000) only [ZE,↓reduceIte,pE,pL,pA,pS,pM,pD] at hc
  refine ECall.i hc ?_
  clear hc
  simp only [ZE,↓reduceIte,pE,pL,pA,pS,pM,pD]
  obtain ⟨r, hr⟩ : ∃ r : Nat → List Num, ∀ k, r k = numHead x ++ ((Expr.allL (uses x)).take k).flatMap numsE := ⟨fun k => numHead x ++ ((Expr.allL (uses x)).take k).flatMap numsE, fun _ => rfl⟩
  have hr0 : r 0 = [x.width, x.depth] := by rw [hr]; simp [numHead, e]
  have hlen : ∀ k, (r k).length ≤ 2000000 := fun k => by
   refine Nat.le_trans ?_ hl
   rw [hr, numbers, List.length_append, List.length_append]
   refine Nat.add_le_add_left ?_ _
   conv => rhs; rw [← List.take_append_drop k (Expr.allL (uses x)), List.flatMap_append, List.length_append]
   exact Nat.le_add_right _ _
  refine eAll (fun _ _ => []) (uses x) (uses_ok hx) rfl (by simp only [ZE,↓reduceIte,pE,pL,pA,pS,pM,pD]) (fun k => [(3, .box [.ar 100 (r k).length]), (1, .box ((eItem x).map .d)), (100, .arr 47 2 .flat ((r k).map eNum))]) (fun _ => True) trivial ?_ ?_ rfl (fun k hk _ => ?_) (fun _ => ?_)
  ·simp (maxSteps := 4000000) only [ZE,↓reduceIte,pE,pL,pA,pS,pM,pD, hr0, e]
  ·simp only [ZE,↓reduceIte,pE,pL,pA,pS,pM,pD]
  ·have hs : r (k + 1) = r k ++ numsE (Expr.allL (uses x))[k] := by rw [hr, hr, List.take_succ_eq_append_getElem hk, List.flatMap_append]; simp only [List.flatMap_cons, List.flatMap_nil, List.append_nil, List.append_assoc]
   have h1 := hlen (k + 1)
   rw [hs, List.length_append] at h1
   have hrw := rowsOk_nums (r k)
   by_cases o1 : ((Expr.allL (uses x))[k].op == 1) = true
   ·simp only [numsE, o1, if_true, List.length_cons, List.length_nil] at h1
    simp only [ZE,↓reduceIte,pE,pL,pA,pS,pM,pD, eA, zN,qT,qG,qL,qH,qN,qB,qE,qO,qA,qM, hs, e, o1, numsE, List.map_append, List.length_append, hrw, true_and]
    omega
   replace o1 := Bool.eq_false_iff.2 o1
   by_cases o2 : ((Expr.allL (uses x))[k].op == 12) = true
   ·simp only [numsE, o1, o2, if_true, List.length_cons, List.length_nil] at h1
    simp only [ZE,↓reduceIte,pE,pL,pA,pS,pM,pD, eA, zN,qT,qG,qL,qH,qN,qB,qE,qO,qA,qM, hs, e, o1, o2, numsE, List.map_append, List.length_append, hrw, true_and]
    omega
   replace o2 := Bool.eq_false_iff.2 o2
   by_cases o3 : ((Expr.allL (uses x))[k].op == 13) = true
   ·simp only [numsE, o1, o2, o3, if_true, List.length_cons, List.length_nil] at h1
    simp only [ZE,↓reduceIte,pE,pL,pA,pS,pM,pD, eA, zN,qT,qG,qL,qH,qN,qB,qE,qO,qA,qM, hs, e, o1, o2, o3, numsE, List.map_append, List.length_append, hrw, true_and]
    omega
   replace o3 := Bool.eq_false_iff.2 o3
   simp only [ZE,↓reduceIte,pE,pL,pA,pS,pM,pD, eA, zN,qT,qG,qL,qH,qN,qB,qE,qO,qA,qM, hs, e, o1, o2, o3, numsE]
  ·simp only [ZE,↓reduceIte,pE,pL,pA,pS,pM,pD, zN,qT,qG,qL,qH,qN,qB,qE,qO,qA,qM, e]
   rw [hr, List.take_length, numbers]
 by_cases e : x.kind.1 = 6
 ·refine FnP.of_eC (own := []) (fun i => if i = 6 then [.rnm [(1, 1), (3, 3), (13, 100)]] else if i = 9 then [.rnm [(1, 1), (3, 3), (21, 100)]] else if i = 11 then [.rnm [(1, 1), (3, 3), (28, 100)]] else if i = 14 then [.keep [36, 3, 1]] else []) mixed Try.func66 rfl Try.call66 Try.ntmps66 (Nat.le_of_ble_eq_true rfl) Try.results66 (fun hok => ?_)
  have hx : D.okL (eItem x) := by simpa only [D.okL, D.ok, and_true] using hok
  simp only [e] at uc
  simp (maxSteps := 4000000) only [ZE,↓reduceIte,pE,pL,pA,pS,pM,pD, e, zN,qT,qG,qL,qH,qN,qB,qE,qO,qA,qM]
  refine EFn.p ?_
  simp only [ZE,↓reduceIte,pE,pL,pA,pS,pM,pD]
  refine ECall.i uc ?_
  simp only [ZE,↓reduceIte,pE,pL,pA,pS,pM,pD]
  refine EFn.p ?_
  simp (maxSteps := 4000000) only [ZE,↓reduceIte,pE,pL,pA,pS,pM,pD]
  have hc := all_fc (uses x)
  simp (maxSteps := 4000000) only [ZE,↓reduceIte,pE,pL,pA,pS,pM,pD] at hc
  refine ECall.i hc ?_
  clear hc
  simp only [ZE,↓reduceIte,pE,pL,pA,pS,pM,pD]
  obtain ⟨r, hr⟩ : ∃ r : Nat → List Num, ∀ k, r k = numHead x ++ ((Expr.allL (uses x)).take k).flatMap numsE := ⟨fun k => numHead x ++ ((Expr.allL (uses x)).take k).flatMap numsE, fun _ => rfl⟩
  have hr0 : r 0 = [x.width, x.depth] := by rw [hr]; simp [numHead, e]
  have hlen : ∀ k, (r k).length ≤ 2000000 := fun k => by
   refine Nat.le_trans ?_ hl
   rw [hr, numbers, List.length_append, List.length_append]
   refine Nat.add_le_add_left ?_ _
   conv => rhs; rw [← List.take_append_drop k (Expr.allL (uses x)), List.flatMap_append, List.length_append]
   exact Nat.le_add_right _ _
  refine eAll (fun _ _ => []) (uses x) (uses_ok hx) rfl (by simp only [ZE,↓reduceIte,pE,pL,pA,pS,pM,pD]) (fun k => [(3, .box [.ar 100 (r k).length]), (1, .box ((eItem x).map .d)), (100, .arr 47 2 .flat ((r k).map eNum))]) (fun _ => True) trivial ?_ ?_ rfl (fun k hk _ => ?_) (fun _ => ?_)
  ·simp (maxSteps := 4000000) only [ZE,↓reduceIte,pE,pL,pA,pS,pM,pD, hr0, e]
  ·simp only [ZE,↓reduceIte,pE,pL,pA,pS,pM,pD]
  ·have hs : r (k + 1) = r k ++ numsE (Expr.allL (uses x))[k] := by rw [hr, hr, List.take_succ_eq_append_getElem hk, List.flatMap_append]; simp only [List.flatMap_cons, List.flatMap_nil, List.append_nil, List.append_assoc]
   have h1 := hlen (k + 1)
   rw [hs, List.length_append] at h1
   have hrw := rowsOk_nums (r k)
   by_cases o1 : ((Expr.allL (uses x))[k].op == 1) = true
   ·simp only [numsE, o1, if_true, List.length_cons, List.length_nil] at h1
    simp only [ZE,↓reduceIte,pE,pL,pA,pS,pM,pD, eA, zN,qT,qG,qL,qH,qN,qB,qE,qO,qA,qM, hs, e, o1, numsE, List.map_append, List.length_append, hrw, true_and]
    omega
   replace o1 := Bool.eq_false_iff.2 o1
   by_cases o2 : ((Expr.allL (uses x))[k].op == 12) = true
   ·simp only [numsE, o1, o2, if_true, List.length_cons, List.length_nil] at h1
    simp only [ZE,↓reduceIte,pE,pL,pA,pS,pM,pD, eA, zN,qT,qG,qL,qH,qN,qB,qE,qO,qA,qM, hs, e, o1, o2, numsE, List.map_append, List.length_append, hrw, true_and]
    omega
   replace o2 := Bool.eq_false_iff.2 o2
   by_cases o3 : ((Expr.allL (uses x))[k].op == 13) = true
   ·simp only [numsE, o1, o2, o3, if_true, List.length_cons, List.length_nil] at h1
    simp only [ZE,↓reduceIte,pE,pL,pA,pS,pM,pD, eA, zN,qT,qG,qL,qH,qN,qB,qE,qO,qA,qM, hs, e, o1, o2, o3, numsE, List.map_append, List.length_append, hrw, true_and]
    omega
   replace o3 := Bool.eq_false_iff.2 o3
   simp only [ZE,↓reduceIte,pE,pL,pA,pS,pM,pD, eA, zN,qT,qG,qL,qH,qN,qB,qE,qO,qA,qM, hs, e, o1, o2, o3, numsE]
  ·simp only [ZE,↓reduceIte,pE,pL,pA,pS,pM,pD, zN,qT,qG,qL,qH,qN,qB,qE,qO,qA,qM, e]
   rw [hr, List.take_length, numbers]
 by_cases e : x.kind.1 = 4
 ·refine FnP.of_eC (own := []) (fun i => if i = 6 then [.rnm [(1, 1), (3, 3), (13, 100)]] else if i = 9 then [.rnm [(1, 1), (3, 3), (21, 100)]] else if i = 11 then [.rnm [(1, 1), (3, 3), (28, 100)]] else if i = 14 then [.keep [36, 3, 1]] else []) mixed Try.func66 rfl Try.call66 Try.ntmps66 (Nat.le_of_ble_eq_true rfl) Try.results66 (fun hok => ?_)
  have hx : D.okL (eItem x) := by simpa only [D.okL, D.ok, and_true] using hok
  simp only [e] at uc
  simp (maxSteps := 4000000) only [ZE,↓reduceIte,pE,pL,pA,pS,pM,pD, e, zN,qT,qG,qL,qH,qN,qB,qE,qO,qA,qM]
  refine EFn.p ?_
  simp only [ZE,↓reduceIte,pE,pL,pA,pS,pM,pD]
  refine ECall.i uc ?_
  simp only [ZE,↓reduceIte,pE,pL,pA,pS,pM,pD]
  refine EFn.p ?_
  simp (maxSteps := 4000000) only [ZE,↓reduceIte,pE,pL,pA,pS,pM,pD]
  have hc := all_fc (uses x)
  simp (maxSteps := 4000000) only [ZE,↓reduceIte,pE,pL,pA,pS,pM,pD] at hc
  refine ECall.i hc ?_
  clear hc
  simp only [ZE,↓reduceIte,pE,pL,pA,pS,pM,pD]
  obtain ⟨r, hr⟩ : ∃ r : Nat → List Num, ∀ k, r k = numHead x ++ ((Expr.allL (uses x)).take k).flatMap numsE := ⟨fun k => numHead x ++ ((Expr.allL (uses x)).take k).flatMap numsE, fun _ => rfl⟩
  have hr0 : r 0 = [x.width, x.init] := by rw [hr]; simp [numHead, e]
  have hlen : ∀ k, (r k).length ≤ 2000000 := fun k => by
   refine Nat.le_trans ?_ hl
   rw [hr, numbers, List.length_append, List.length_append]
   refine Nat.add_le_add_left ?_ _
   conv => rhs; rw [← List.take_append_drop k (Expr.allL (uses x)), List.flatMap_append, List.length_append]
   exact Nat.le_add_right _ _
  refine eAll (fun _ _ => []) (uses x) (uses_ok hx) rfl (by simp only [ZE,↓reduceIte,pE,pL,pA,pS,pM,pD]) (fun k => [(3, .box [.ar 100 (r k).length]), (1, .box ((eItem x).map .d)), (100, .arr 47 2 .flat ((r k).map eNum))]) (fun _ => True) trivial ?_ ?_ rfl (fun k hk _ => ?_) (fun _ => ?_)
  ·simp (maxSteps := 4000000) only [ZE,↓reduceIte,pE,pL,pA,pS,pM,pD, hr0, e]
  ·simp only [ZE,↓reduceIte,pE,pL,pA,pS,pM,pD]
  ·have hs : r (k + 1) = r k ++ numsE (Expr.allL (uses x))[k] := by rw [hr, hr, List.take_succ_eq_append_getElem hk, List.flatMap_append]; simp only [List.flatMap_cons, List.flatMap_nil, List.append_nil, List.append_assoc]
   have h1 := hlen (k + 1)
   rw [hs, List.length_append] at h1
   have hrw := rowsOk_nums (r k)
   by_cases o1 : ((Expr.allL (uses x))[k].op == 1) = true
   ·simp only [numsE, o1, if_true, List.length_cons, List.length_nil] at h1
    simp only [ZE,↓reduceIte,pE,pL,pA,pS,pM,pD, eA, zN,qT,qG,qL,qH,qN,qB,qE,qO,qA,qM, hs, e, o1, numsE, List.map_append, List.length_append, hrw, true_and]
    omega
   replace o1 := Bool.eq_false_iff.2 o1
   by_cases o2 : ((Expr.allL (uses x))[k].op == 12) = true
   ·simp only [numsE, o1, o2, if_true, List.length_cons, List.length_nil] at h1
    simp only [ZE,↓reduceIte,pE,pL,pA,pS,pM,pD, eA, zN,qT,qG,qL,qH,qN,qB,qE,qO,qA,qM, hs, e, o1, o2, numsE, List.map_append, List.length_append, hrw, true_and]
    omega
   replace o2 := Bool.eq_false_iff.2 o2
   by_cases o3 : ((Expr.allL (uses x))[k].op == 13) = true
   ·simp only [numsE, o1, o2, o3, if_true, List.length_cons, List.length_nil] at h1
    simp only [ZE,↓reduceIte,pE,pL,pA,pS,pM,pD, eA, zN,qT,qG,qL,qH,qN,qB,qE,qO,qA,qM, hs, e, o1, o2, o3, numsE, List.map_append, List.length_append, hrw, true_and]
    omega
   replace o3 := Bool.eq_false_iff.2 o3
   simp only [ZE,↓reduceIte,pE,pL,pA,pS,pM,pD, eA, zN,qT,qG,qL,qH,qN,qB,qE,qO,qA,qM, hs, e, o1, o2, o3, numsE]
  ·simp only [ZE,↓reduceIte,pE,pL,pA,pS,pM,pD, zN,qT,qG,qL,qH,qN,qB,qE,qO,qA,qM, e]
   rw [hr, List.take_length, numbers]
 have e1 : (x.kind.1 == 1) = false := by simpa using ‹¬ x.kind.1 = 1›
 have e2 : (x.kind.1 == 2) = false := by simpa using ‹¬ x.kind.1 = 2›
 have e3 : (x.kind.1 == 3) = false := by simpa using ‹¬ x.kind.1 = 3›
 have e4 : (x.kind.1 == 4) = false := by simpa using ‹¬ x.kind.1 = 4›
 have e5 : (x.kind.1 == 5) = false := by simpa using ‹¬ x.kind.1 = 5›
 have e6 : (x.kind.1 == 6) = false := by simpa using ‹¬ x.kind.1 = 6›
 by_cases e : x.kind.1 = 9
 ·refine FnP.of_eC (own := []) (fun i => if i = 14 then [.keep [36, 3, 1]] else []) mixed Try.func66 rfl Try.call66 Try.ntmps66 (Nat.le_of_ble_eq_true rfl) Try.results66 (fun hok => ?_)
  have hx : D.okL (eItem x) := by simpa only [D.okL, D.ok, and_true] using hok
  have hu : Expr.allL (uses x) = [] := by simp [uses, usesN, e, Expr.allL]
  have hn : numbers x = x.args := by rw [numbers, hu]; simp [numHead, e]
  rw [hn] at hl
  simp only [e] at uc
  simp (maxSteps := 4000000) only [ZE,↓reduceIte,pE,pL,pA,pS,pM,pD, e, zN,qT,qG,qL,qH,qN,qB,qE,qO,qA,qM]
  refine EFn.p ?_
  simp only [ZE,↓reduceIte,pE,pL,pA,pS,pM,pD]
  have cc := clone_c x.args hl
  simp only [ZE,↓reduceIte,pE,pL,pA,pS,pM,pD] at cc
  refine ECall.i cc ?_
  simp only [ZE,↓reduceIte,pE,pL,pA,pS,pM,pD]
  refine EFn.p ?_
  simp only [ZE,↓reduceIte,pE,pL,pA,pS,pM,pD, e]
  refine ECall.i uc ?_
  simp only [ZE,↓reduceIte,pE,pL,pA,pS,pM,pD]
  refine EFn.p ?_
  simp (maxSteps := 4000000) only [ZE,↓reduceIte,pE,pL,pA,pS,pM,pD]
  have hc := all_fc (uses x)
  simp (maxSteps := 4000000) only [ZE,↓reduceIte,pE,pL,pA,pS,pM,pD] at hc
  refine ECall.i hc ?_
  clear hc
  simp only [ZE,↓reduceIte,pE,pL,pA,pS,pM,pD]
  refine eAll (fun _ _ => []) (uses x) (uses_ok hx) rfl (by simp only [ZE,↓reduceIte,pE,pL,pA,pS,pM,pD]) (fun k => [(3, .box [.d (eNums x.args)]), (1, .box ((eItem x).map .d))]) (fun _ => True) trivial ?_ ?_ rfl (fun k hk _ => ?_) (fun _ => ?_)
  ·simp (maxSteps := 4000000) only [ZE,↓reduceIte,pE,pL,pA,pS,pM,pD, e]
  ·simp only [ZE,↓reduceIte,pE,pL,pA,pS,pM,pD]
  ·rw [hu] at hk; cases hk
  ·simp only [ZE,↓reduceIte,pE,pL,pA,pS,pM,pD, zN,qT,qG,qL,qH,qN,qB,qE,qO,qA,qM, hn]
 have e9 : (x.kind.1 == 9) = false := by simpa using e
 refine FnP.of_eC (own := []) (fun i => if i = 1014 then [.adB 3 0 100 47 2] else if i = 14 then [.keep [36, 3, 1]] else []) mixed Try.func66 rfl Try.call66 Try.ntmps66 (Nat.le_of_ble_eq_true rfl) Try.results66 (fun hok => ?_)
 have hx : D.okL (eItem x) := by simpa only [D.okL, D.ok, and_true] using hok
 simp (maxSteps := 4000000) only [ZE,↓reduceIte,pE,pL,pA,pS,pM,pD, e1, e2, e3, e4, e5, e6, e9, zN,qT,qG,qL,qH,qN,qB,qE,qO,qA,qM]
 refine EFn.p ?_
 simp only [ZE,↓reduceIte,pE,pL,pA,pS,pM,pD]
 refine ECall.i uc ?_
 simp only [ZE,↓reduceIte,pE,pL,pA,pS,pM,pD]
 refine EFn.p ?_
 simp (maxSteps := 4000000) only [ZE,↓reduceIte,pE,pL,pA,pS,pM,pD]
 have hc := all_fc (uses x)
 simp (maxSteps := 4000000) only [ZE,↓reduceIte,pE,pL,pA,pS,pM,pD] at hc
 refine ECall.i hc ?_
 clear hc
 simp only [ZE,↓reduceIte,pE,pL,pA,pS,pM,pD]
 have n1 := beq_eq_false_iff_ne.1 e1
 have n2 := beq_eq_false_iff_ne.1 e2
 have n3 := beq_eq_false_iff_ne.1 e3
 have n4 := beq_eq_false_iff_ne.1 e4
 have n5 := beq_eq_false_iff_ne.1 e5
 have n6 := beq_eq_false_iff_ne.1 e6
 obtain ⟨r, hr⟩ : ∃ r : Nat → List Num, ∀ k, r k = numHead x ++ ((Expr.allL (uses x)).take k).flatMap numsE := ⟨fun k => numHead x ++ ((Expr.allL (uses x)).take k).flatMap numsE, fun _ => rfl⟩
 have hr0 : r 0 = [] := by rw [hr]; simp [numHead, n1, n2, n3, n4, n5, n6, e]
 have hlen : ∀ k, (r k).length ≤ 2000000 := fun k => by
  refine Nat.le_trans ?_ hl
  rw [hr, numbers, List.length_append, List.length_append]
  refine Nat.add_le_add_left ?_ _
  conv => rhs; rw [← List.take_append_drop k (Expr.allL (uses x)), List.flatMap_append, List.length_append]
  exact Nat.le_add_right _ _
 refine eAll (fun _ _ => []) (uses x) (uses_ok hx) rfl (by simp only [ZE,↓reduceIte,pE,pL,pA,pS,pM,pD]) (fun k => [(3, .box [.ar 100 (r k).length]), (1, .box ((eItem x).map .d)), (100, .arr 47 2 .flat ((r k).map eNum))]) (fun _ => True) trivial ?_ ?_ rfl (fun k hk _ => ?_) (fun _ => ?_)
 ·simp (maxSteps := 4000000) only [ZE,↓reduceIte,pE,pL,pA,pS,pM,pD, hr0, n1, n2, n3, n4, n5, n6, e]
 ·simp only [ZE,↓reduceIte,pE,pL,pA,pS,pM,pD]
 ·have hs : r (k + 1) = r k ++ numsE (Expr.allL (uses x))[k] := by rw [hr, hr, List.take_succ_eq_append_getElem hk, List.flatMap_append]; simp only [List.flatMap_cons, List.flatMap_nil, List.append_nil, List.append_assoc]
  have h1 := hlen (k + 1)
  rw [hs, List.length_append] at h1
  have hrw := rowsOk_nums (r k)
  by_cases o1 : ((Expr.allL (uses x))[k].op == 1) = true
  ·simp only [numsE, o1, if_true, List.length_cons, List.length_nil] at h1
   simp only [ZE,↓reduceIte,pE,pL,pA,pS,pM,pD, eA, zN,qT,qG,qL,qH,qN,qB,qE,qO,qA,qM, hs, n1, n2, n3, n4, n5, n6, e, o1, numsE, List.map_append, List.length_append, hrw, true_and]
   omega
  replace o1 := Bool.eq_false_iff.2 o1
  by_cases o2 : ((Expr.allL (uses x))[k].op == 12) = true
  ·simp only [numsE, o1, o2, if_true, List.length_cons, List.length_nil] at h1
   simp only [ZE,↓reduceIte,pE,pL,pA,pS,pM,pD, eA, zN,qT,qG,qL,qH,qN,qB,qE,qO,qA,qM, hs, n1, n2, n3, n4, n5, n6, e, o1, o2, numsE, List.map_append, List.length_append, hrw, true_and]
   omega
  replace o2 := Bool.eq_false_iff.2 o2
  by_cases o3 : ((Expr.allL (uses x))[k].op == 13) = true
  ·simp only [numsE, o1, o2, o3, if_true, List.length_cons, List.length_nil] at h1
   simp only [ZE,↓reduceIte,pE,pL,pA,pS,pM,pD, eA, zN,qT,qG,qL,qH,qN,qB,qE,qO,qA,qM, hs, n1, n2, n3, n4, n5, n6, e, o1, o2, o3, numsE, List.map_append, List.length_append, hrw, true_and]
   omega
  replace o3 := Bool.eq_false_iff.2 o3
  simp only [ZE,↓reduceIte,pE,pL,pA,pS,pM,pD, eA, zN,qT,qG,qL,qH,qN,qB,qE,qO,qA,qM, hs, n1, n2, n3, n4, n5, n6, e, o1, o2, o3, numsE]
 ·simp only [ZE,↓reduceIte,pE,pL,pA,pS,pM,pD, zN,qT,qG,qL,qH,qN,qB,qE,qO,qA,qM, n1, n2, n3, n4, n5, n6, e]
  rw [hr, List.take_length, numbers]
end Go.Proofs.Ytejpmjnefokdoaa

namespace Go.Proofs.Ytejpmjnefokdoaa
open Go.Aw
open Nat renaming reduceEqDiff → pE, reduceLT → pL, reduceAdd → pA, reduceSub → pS, reduceMul → pM, reduceLeDiff → pD
open Int renaming reduceToNat → qT, reduceGT → qG, reduceLT → qL, reduceGE → qH, reduceBNe → qN, reduceBEq → qB, reduceLE → qE, reduceNe → qO, reduceAdd → qA, reduceNeg → qM
set_option maxRecDepth 100000
set_option maxHeartbeats 1000000
theorem getD_tk (l : List Str) (s : Str) : ((get (tk l) s).map eB).getD (.lit (.bool false)) = .lit (.bool (has l s)) := by
 rw [get_tk]
 cases h : has l s <;> simp [eB]
def lostE (m : Module) (e : Expr) : Bool := (e.op == 14 && !(has (takens m.items) e.name && has [1, 3] (kindOf m e.name)) && !has [4, 5] (kindOf m e.name)) || (e.op == 15 && !has [6] (kindOf m e.name))
def lostB (m : Module) (b : Bind) : Bool := !has [1, 2, 3] (kindOf m b.chan)
theorem lost1_c (m : Module) (b : Bind) : FnP Try.prog 69 [.agg (eBind b), .ptr (eScope m)] (.d (eB (lostB m b))) [] := by
 refine FnP.of_eC (own := []) chL mixed Try.func69 rfl Try.call69 Try.ntmps69 (Nat.le_of_ble_eq_true rfl) Try.results69 (fun hok => ?_)
 have hc := is_c m b.chan [1, 2, 3]
 simp only [ZE,↓reduceIte,pE,pL,pA,pS,pM,pD, eScope, sMp] at hc
 simp (maxSteps := 4000000) only [ZE,↓reduceIte,pE,pL,pA,pS,pM,pD, eScope, sMp]
 refine EFn.p ?_
 simp only [ZE,↓reduceIte,pE,pL,pA,pS,pM,pD]
 refine ECall.i hc ?_
 simp only [ZE,↓reduceIte,pE,pL,pA,pS,pM,pD, lostB]
def lostT (l : List Module) (m : Module) (x : Item) : Bool :=
 if x.kind.1 = 7 then !has [1, 3] (kindOf m x.name) else if x.kind.1 = 8 then !has [2, 3] (kindOf m x.name)
 else if x.kind.1 = 9 then !(findM l x.of).isSome || x.ports.any (lostB m) else if x.kind.1 = 4 ∨ x.kind.1 = 6 then (x.rule.kind == 2 || x.rule.kind == 3) && !isName x.rule.from'.1 else false
def lostN (m : Module) (n : Num) : Bool := (!decide (n.p.1 = { data := #[] })) && !has m.params n.p
def lost (l : List Module) (m : Module) (x : Item) : Bool := (numbers x).any (lostN m) || (Expr.allL (uses x)).any (lostE m) || lostT l m x
theorem lost_c (l : List Module) (ks vs : List D) (bs : List Nat) (cl : Nat) (m : Module) (x : Item) (hl : (numbers x).length ≤ 2000000) : FnP Try.prog 52 [.agg (eFile l ks vs bs cl), .agg (eScope m), .agg (eItem x)] (.d (eB (lost l m x))) [] := by
 refine FnP.of_eC (own := []) chL mixed Try.func52 rfl Try.call52 Try.ntmps52 (Nat.le_of_ble_eq_true rfl) Try.results52 (fun hok => ?_)
 have hx : D.okL (eItem x) := by
  have := (okL_cons (okL_cons (okL_cons hok).2).2).1
  simpa only [D.ok] using this
 have uc := uses_c x
 have nc := numbers_c x hl
 simp only [ZE,↓reduceIte,pE,pL,pA,pS,pM,pD] at uc nc
 simp (maxSteps := 4000000) only [ZE,↓reduceIte,pE,pL,pA,pS,pM,pD, zN,qT,qG,qL,qH,qN,qB,qE,qO,qA,qM, eScope, sMp, eFile, eScopes, eIdx]
 refine EFn.p ?_
 simp only [ZE,↓reduceIte,pE,pL,pA,pS,pM,pD]
 refine ECall.i nc ?_
 simp only [ZE,↓reduceIte,pE,pL,pA,pS,pM,pD]
 refine eloop chL mixed (numbers x).length (fun i => ∀ n ∈ (numbers x).take i, lostN m n = false) (fun i => ([(3, .bp 3 0), (4, .bp 4 0), (5, .bp 5 0), (6, .bp 6 0), (14, .d (eNums (numbers x))), (15, .d (eI (numbers x).length)), (16, .d (eI i))],
  [(6, .box [.d (eB false)]), (5, .box ((eItem x).map .d)), (4, .box ((eScope m).map .d)), (3, .box ((eFile l ks vs bs cl).map .d))])) (by simp) ?_ ?_ (fun i hi hI => ?_)
 ·simp only [ZE,↓reduceIte,pE,pL,pA,pS,pM,pD]
 ·simp only [ZE,↓reduceIte,pE,pL,pA,pS,pM,pD, eFile, eScopes, eIdx, sMp, eScope]
 rcases Nat.lt_or_ge i (numbers x).length with h | h
 ·have hw := wrap_succ (show i < 9223372036854775807 by omega)
  have hc := containsS_c m.params (numbers x)[i].p
  simp only [ZE,↓reduceIte,pE,pL,pA,pS,pM,pD] at hc
  simp (maxSteps := 4000000) only [ZE,↓reduceIte,pE,pL,pA,pS,pM,pD, dec_lt h, getD_map h, lt_int h, zN,qT,qG,qL,qH,qN,qB,qE,qO,qA,qM, eFile, eScopes, eIdx, sMp, eScope]
  refine ECallC.i (fun _ => hc) ?_
  simp only [ZE,↓reduceIte,pE,pL,pA,pS,pM,pD, hw]
  refine iteI (fun hb => ?_) (fun hb => ⟨h, fun n hn => ?_⟩)
  ·have : (numbers x).any (lostN m) = true := List.any_eq_true.2 ⟨_, List.getElem_mem h, by simpa only [lostN] using hb⟩
   simp only [lost, this, Bool.true_or]
  ·rw [List.take_succ_eq_append_getElem h, List.mem_append, List.mem_singleton] at hn
   rcases hn with hn | rfl
   ·exact hI n hn
   ·simpa only [lostN] using hb
 ·have : i = (numbers x).length := by omega
  subst this
  have hN : (numbers x).any (lostN m) = false := List.any_eq_false.2 fun n hn => by
   rw [hI n (by rw [List.take_length]; exact hn)]; simp
  simp (maxSteps := 4000000) only [ZE,↓reduceIte,pE,pL,pA,pS,pM,pD, dec_ge h, zN,qT,qG,qL,qH,qN,qB,qE,qO,qA,qM]
  refine EFn.p ?_
  simp only [ZE,↓reduceIte,pE,pL,pA,pS,pM,pD]
  refine ECall.i uc ?_
  simp only [ZE,↓reduceIte,pE,pL,pA,pS,pM,pD]
  refine EFn.p ?_
  simp (maxSteps := 4000000) only [ZE,↓reduceIte,pE,pL,pA,pS,pM,pD]
  have hc := all_fc (uses x)
  simp (maxSteps := 4000000) only [ZE,↓reduceIte,pE,pL,pA,pS,pM,pD] at hc
  refine ECall.i hc ?_
  clear hc
  simp only [ZE,↓reduceIte,pE,pL,pA,pS,pM,pD]
  refine eAll (fun _ => chL) (uses x) (uses_ok hx) rfl (by simp only [ZE,↓reduceIte,pE,pL,pA,pS,pM,pD]) (fun _ => [(6, .box [.d (eB false)]), (5, .box ((eItem x).map .d)), (4, .box ((eScope m).map .d)), (3, .box ((eFile l ks vs bs cl).map .d))]) (fun k => ∀ e ∈ (Expr.allL (uses x)).take k, lostE m e = false) (by simp) ?_ ?_ rfl (fun k hk hI => ?_) (fun hI => ?_)
  ·simp only [ZE,↓reduceIte,pE,pL,pA,pS,pM,pD, eFile, eScopes, eIdx, sMp, eScope]
  ·simp only [ZE,↓reduceIte,pE,pL,pA,pS,pM,pD]
  ·obtain ⟨e, he⟩ : ∃ e, (Expr.allL (uses x))[k] = e := ⟨_, rfl⟩
   have c1 := is_c m e.name [1, 3]
   have c2 := is_c m e.name [4, 5]
   have c3 := is_c m e.name [6]
   simp only [ZE,↓reduceIte,pE,pL,pA,pS,pM,pD, eScope, sMp] at c1 c2 c3
   rw [he]
   simp only [ZE,↓reduceIte,pE,pL,pA,pS,pM,pD, eA, zN,qT,qG,qL,qH,qN,qB,qE,qO,qA,qM, eFile, eScopes, eIdx, sMp, eScope, mget_s, keyedS, keyOkS, getD_tk]
   refine ⟨fun y hy => sK_ok _ y hy, ECallC.i (fun _ => c1) ?_⟩
   simp only [ZE,↓reduceIte,pE,pL,pA,pS,pM,pD, zN,qT,qG,qL,qH,qN,qB,qE,qO,qA,qM]
   refine ECallC.i (fun _ => c2) ?_
   simp only [ZE,↓reduceIte,pE,pL,pA,pS,pM,pD, zN,qT,qG,qL,qH,qN,qB,qE,qO,qA,qM]
   refine ECallC.i (fun _ => c3) ?_
   simp only [ZE,↓reduceIte,pE,pL,pA,pS,pM,pD, zN,qT,qG,qL,qH,qN,qB,qE,qO,qA,qM]
   refine iteI (fun hb => ?_) (fun hb n hn => ?_)
   ·have : (Expr.allL (uses x)).any (lostE m) = true := List.any_eq_true.2 ⟨e, he ▸ List.getElem_mem hk, by
     rw [← hb]; simp only [lostE]⟩
    simp only [lost, this, Bool.true_or, Bool.or_true]
   ·rw [List.take_succ_eq_append_getElem hk, List.mem_append, List.mem_singleton, he] at hn
    rcases hn with hn | rfl
    ·exact hI n hn
    ·rw [← hb]; simp only [lostE]
  ·have hE : (Expr.allL (uses x)).any (lostE m) = false := List.any_eq_false.2 fun e he => by
    rw [hI e (by rw [List.take_length]; exact he)]; simp
   have hT : lost l m x = lostT l m x := by simp only [lost, hN, hE, Bool.false_or]
   rw [hT]
   have c7 := is_c m x.name [1, 3]
   have c8 := is_c m x.name [2, 3]
   have c9 := containsFB_c x.ports 69 (.ptr (eScope m)) (lostB m) (fun b _ => lost1_c m b)
   have c4 := name_c' x.rule.from'.1
   simp only [ZE,↓reduceIte,pE,pL,pA,pS,pM,pD, eScope, sMp] at c7 c8 c9 c4
   by_cases k7 : x.kind.1 = 7
   ·simp (maxSteps := 4000000) only [ZE,↓reduceIte,pE,pL,pA,pS,pM,pD, k7, zN,qT,qG,qL,qH,qN,qB,qE,qO,qA,qM, eFile, eScopes, eIdx, sMp, eScope, mget_s, keyedS, keyOkS]
    refine EFn.p ?_
    simp only [ZE,↓reduceIte,pE,pL,pA,pS,pM,pD]
    refine ECall.i c7 ?_
    simp only [ZE,↓reduceIte,pE,pL,pA,pS,pM,pD, lostT, k7]
   by_cases k8 : x.kind.1 = 8
   ·simp (maxSteps := 4000000) only [ZE,↓reduceIte,pE,pL,pA,pS,pM,pD, k8, zN,qT,qG,qL,qH,qN,qB,qE,qO,qA,qM, eFile, eScopes, eIdx, sMp, eScope, mget_s, keyedS, keyOkS]
    refine EFn.p ?_
    simp only [ZE,↓reduceIte,pE,pL,pA,pS,pM,pD]
    refine ECall.i c8 ?_
    simp only [ZE,↓reduceIte,pE,pL,pA,pS,pM,pD, lostT, k8, zN,qT,qG,qL,qH,qN,qB,qE,qO,qA,qM, Int.reduceEq]
   by_cases k9 : x.kind.1 = 9
   ·simp (maxSteps := 4000000) only [ZE,↓reduceIte,pE,pL,pA,pS,pM,pD, k9, zN,qT,qG,qL,qH,qN,qB,qE,qO,qA,qM, eFile, eScopes, eIdx, sMp, eScope, mget_s, keyedS, keyOkS]
    refine ⟨fun y hy => sK_ok _ y hy, ECallC.i (fun _ => c9) ?_⟩
    simp (maxSteps := 4000000) only [ZE,↓reduceIte,pE,pL,pA,pS,pM,pD, lostT, k9, zN,qT,qG,qL,qH,qN,qB,qE,qO,qA,qM, Int.reduceEq, findM, Option.isSome_map]
   by_cases k4 : x.kind.1 = 4
   ·simp (maxSteps := 4000000) only [ZE,↓reduceIte,pE,pL,pA,pS,pM,pD, k4, zN,qT,qG,qL,qH,qN,qB,qE,qO,qA,qM, eFile, eScopes, eIdx, sMp, eScope]
    refine ECallC.i (fun _ => c4) ?_
    simp (maxSteps := 4000000) only [ZE,↓reduceIte,pE,pL,pA,pS,pM,pD, lostT, k4, zN,qT,qG,qL,qH,qN,qB,qE,qO,qA,qM, or_true, true_or, Int.reduceEq]
   by_cases k6 : x.kind.1 = 6
   ·simp (maxSteps := 4000000) only [ZE,↓reduceIte,pE,pL,pA,pS,pM,pD, k6, zN,qT,qG,qL,qH,qN,qB,qE,qO,qA,qM, eFile, eScopes, eIdx, sMp, eScope]
    refine ECallC.i (fun _ => c4) ?_
    simp (maxSteps := 4000000) only [ZE,↓reduceIte,pE,pL,pA,pS,pM,pD, lostT, k6, zN,qT,qG,qL,qH,qN,qB,qE,qO,qA,qM, or_true, true_or, Int.reduceEq]
   have e7 : (x.kind.1 == 7) = false := by simpa using k7
   have e8 : (x.kind.1 == 8) = false := by simpa using k8
   have e9 : (x.kind.1 == 9) = false := by simpa using k9
   have e4 : (x.kind.1 == 4) = false := by simpa using k4
   have e6 : (x.kind.1 == 6) = false := by simpa using k6
   simp (maxSteps := 4000000) only [ZE,↓reduceIte,pE,pL,pA,pS,pM,pD, e7, e8, e9, e4, e6, zN,qT,qG,qL,qH,qN,qB,qE,qO,qA,qM, lostT, k7, k8, k9, k4, k6, or_self]
end Go.Proofs.Ytejpmjnefokdoaa

namespace Go.Proofs.Ytejpmjnefokdoaa
open Go.Aw
open Nat renaming reduceEqDiff → pE, reduceLT → pL, reduceAdd → pA, reduceSub → pS, reduceMul → pM, reduceLeDiff → pD
open Int renaming reduceToNat → qT, reduceGT → qG, reduceLT → qL, reduceGE → qH, reduceBNe → qN, reduceBEq → qB, reduceLE → qE, reduceNe → qO, reduceAdd → qA, reduceNeg → qM
set_option maxRecDepth 100000
set_option maxHeartbeats 1000000
/-- An entry of a map written anew, or one more. -/
def aput {α : Type} (l : List (Str × α)) (s : Str) (x : α) : List (Str × α) :=
 match l with
 | [] => [(s, x)]
 | p :: r => if p.1 = s then (s, x) :: r else p :: aput r s x
theorem get_nil {α : Type} (s : Str) : get ([] : List (Str × α)) s = none := rfl
theorem get_cons {α : Type} (p : Str × α) (l : List (Str × α)) (s : Str) : get (p :: l) s = if p.1 = s then some p.2 else get l s := by
 simp only [get, List.find?_cons]
 by_cases h : p.1 = s <;> simp [h]
theorem get_aput {α : Type} (l : List (Str × α)) (s : Str) (x : α) (t : Str) : get (aput l s x) t = if s = t then some x else get l t := by
 induction l with
 | nil => simp only [aput, get_cons, get_nil]
 | cons p r ih =>
  simp only [aput]
  split
  ·rename_i h
   simp only [get_cons, h]
   split <;> rfl
  ·rename_i h
   simp only [get_cons, ih]
   by_cases h1 : s = t
   ·subst h1; simp [h]
   ·simp [h1]
theorem aput_none {α : Type} {l : List (Str × α)} {s : Str} {x : α} (h : get l s = none) : aput l s x = l ++ [(s, x)] := by
 induction l with
 | nil => rfl
 | cons p r ih =>
  rw [get_cons] at h
  split at h
  ·cases h
  ·rename_i h1
   simp only [aput, if_neg h1, ih h, List.cons_append]
theorem aput_some {α : Type} (f : α → D) {l : List (Str × α)} {s : Str} {x : α} (h : get l s ≠ none) : sK (aput l s x) = sK l ∧ sV f (aput l s x) = (sV f l).set (kidx (sK l) (.lit (.string s.1))) (f x) ∧ (aput l s x).length = l.length := by
 induction l with
 | nil => exact absurd rfl h
 | cons p r ih =>
  rw [get_cons] at h
  simp only [aput]
  by_cases h1 : p.1 = s
  ·simp only [h1, if_true, sK, sV, List.map_cons, kidx_cons, List.set_cons_zero, List.length_cons, and_self]
  ·simp only [if_neg h1] at h ⊢
   obtain ⟨a1, a2, a3⟩ := ih h
   simp only [sK, sV, List.map_cons, kidx_cons, if_neg (str_ne h1), List.set_cons_succ, List.length_cons] at a1 a2 ⊢
   exact ⟨by rw [a1], by rw [a2], by rw [a3]⟩
theorem put_a {α : Type} (f : α → D) (l : List (Str × α)) (s : Str) (x : α) : putK (sK l) (.lit (.string s.1)) = sK (aput l s x) ∧ putV (sK l) (sV f l) (.lit (.string s.1)) (f x) = sV f (aput l s x) ∧
  putB (sK l) (List.range l.length) l.length (.lit (.string s.1)) = List.range (aput l s x).length ∧ putC (sK l) l.length (.lit (.string s.1)) = (aput l s x).length := by
 by_cases h : get l s = none
 ·rw [aput_none h]; exact put_s f h
 ·have hm : (D.lit (.string s.1)) ∈ sK l := by
   by_cases hm : (D.lit (.string s.1)) ∈ sK l
   ·exact hm
   ·exact absurd (get_none.2 hm) h
  have hlt := kidx_lt.2 hm
  obtain ⟨a1, a2, a3⟩ := aput_some f (x := x) h
  refine ⟨by simp only [putK, if_pos hlt, a1], by simp only [putV, if_pos hlt, a2], by simp only [putB, if_pos hlt, a3], by simp only [putC, if_pos hlt, a3]⟩
theorem mapEq {a a' : List D} {b b' : List D} {c c' : List Nat} {d d' : Nat} (h : a = a' ∧ b = b' ∧ c = c' ∧ d = d') : AO.map a b c d = AO.map a' b' c' d' := by
 obtain ⟨h1, h2, h3, h4⟩ := h; rw [h1, h2, h3, h4]
theorem getD_eI (o : Option Int) : (o.map eI).getD (.lit (.int .i64 0)) = eI (o.getD 0) := by cases o <;> rfl
/-- How often each port is bound. -/
def cntStep (acc : List (Str × Int)) (b : Bind) : List (Str × Int) := aput acc b.port (inc ((get acc b.port).getD 0))
def cnts (l : List Bind) : List (Str × Int) := l.foldl cntStep []
theorem cnts_get (l : List Bind) (hl : l.length ≤ 9223372036854775807) (s : Str) : (get (cnts l) s).getD 0 = (l.countP (fun b => decide (b.port = s)) : Nat) := by
 have key : ∀ n, n ≤ l.length → (get ((l.take n).foldl cntStep []) s).getD 0 = ((l.take n).countP (fun b => decide (b.port = s)) : Nat) := by
  intro n
  induction n with
  | zero => intro _; simp [get_nil]
  | succ n ih =>
   intro h
   have ih := ih (by omega)
   have hn : n < l.length := by omega
   rw [List.take_succ_eq_append_getElem hn, List.foldl_append, List.countP_append]
   obtain ⟨acc, hacc⟩ : ∃ acc, (l.take n).foldl cntStep [] = acc := ⟨_, rfl⟩
   rw [hacc] at ih ⊢
   simp only [List.foldl_cons, List.foldl_nil, List.countP_cons, List.countP_nil, Nat.zero_add]
   unfold cntStep
   rw [get_aput]
   by_cases hp : l[n].port = s
   ·simp only [hp, if_true, decide_true, Option.getD_some]
    rw [ih, inc]
    have hle : (l.take n).countP (fun b => decide (b.port = s)) ≤ n := Nat.le_trans List.countP_le_length (by rw [List.length_take]; omega)
    rw [wrap_id (by omega) (by omega)]
    omega
   ·simp only [hp, if_false, decide_false, Bool.false_eq_true, Nat.add_zero]
    exact ih
 have := key l.length (Nat.le_refl _)
 rwa [List.take_length] at this
def isPort (x : Item) : Bool := x.kind.1 == 1 || x.kind.1 == 2
def portStep (acc : List (Str × Bool)) (x : Item) : List (Str × Bool) := if isPort x = true then aput acc x.name true else acc
def portsM (m : Module) : List (Str × Bool) := m.items.foldl portStep []
def misfit (l : List Module) (x : Item) : Bool :=
 match findM l x.of with
 | none => false
 | some i => (portsM (l.getD i.toNat ⟨emp, emp, [], []⟩)).any (fun p => (get (cnts x.ports) p.1).getD 0 != 1) ||
   ((x.args.length : Int) != ((l.getD i.toNat ⟨emp, emp, [], []⟩).params.length : Int) || (x.ports.length : Int) != ((portsM (l.getD i.toNat ⟨emp, emp, [], []⟩)).length : Int))
theorem nodup_lt : ∀ (n : Nat) (js : List Nat), js.Nodup → (∀ j ∈ js, j < n) → js.length ≤ n
 | 0, js, _, h => by
  cases js with
  | nil => simp
  | cons j r => exact absurd (h j (by simp)) (by omega)
 | n + 1, js, hn, h => by
  have h1 := nodup_lt n (js.erase n) (hn.erase n) (fun j hj => by
   have h2 := (List.Nodup.mem_erase_iff hn).1 hj
   have := h j h2.2
   omega)
  rw [List.length_erase] at h1
  split at h1 <;> omega
/-- One entry more of a map has come. -/
def seenOk {α : Type} (l : List α) (p : α → Bool) (i : Nat) (js : List Nat) : Prop := js.length = i ∧ js.Nodup ∧ (∀ j ∈ js, j < l.length) ∧ ∀ j ∈ js, ∀ h : j < l.length, p l[j] = false
theorem seenOk_nil {α : Type} (l : List α) (p : α → Bool) : seenOk l p 0 [] := ⟨rfl, List.nodup_nil, by simp, by simp⟩
theorem seenOk_lt {α : Type} {l : List α} {p : α → Bool} {i j : Nat} {js : List Nat} (h : seenOk l p i js) (hj : j < l.length) (hjs : j ∉ js) : i < l.length := by
 obtain ⟨h1, h2, h3, _⟩ := h
 have := nodup_lt l.length (j :: js) (List.nodup_cons.2 ⟨hjs, h2⟩) (fun k hk => by
  rcases List.mem_cons.1 hk with rfl | hk
  ·exact hj
  ·exact h3 k hk)
 simp at this; omega
theorem seenOk_more {α : Type} {l : List α} {p : α → Bool} {i j : Nat} {js : List Nat} (h : seenOk l p i js) (hj : j < l.length) (hjs : j ∉ js) (hp : p l[j] = false) : seenOk l p (i + 1) (js ++ [j]) := by
 obtain ⟨h1, h2, h3, h4⟩ := h
 refine ⟨by simp [h1], List.nodup_append.2 ⟨h2, by simp, fun a ha b hb e => ?_⟩, fun k hk => ?_, fun k hk hk' => ?_⟩
 ·simp at hb; subst hb; subst e; exact hjs ha
 ·rcases List.mem_append.1 hk with hk | hk
  ·exact h3 k hk
  ·simp at hk; subst hk; exact hj
 ·rcases List.mem_append.1 hk with hk | hk
  ·exact h4 k hk hk'
  ·simp at hk; subst hk; exact hp
theorem seenOk_all {α : Type} {l : List α} {p : α → Bool} {i : Nat} {js : List Nat} (h : seenOk l p i js) (ha : ∀ j, j < l.length → j ∈ js) : l.any p = false := by
 rw [List.any_eq_false]
 intro x hx
 obtain ⟨j, hj, rfl⟩ := List.getElem_of_mem hx
 rw [h.2.2.2 j (ha j hj) hj]; simp
theorem sK_getD {α : Type} (l : List (Str × α)) (j : Nat) (h : j < l.length) : (sK l).getD j default = .lit (.string l[j].1.1) := by simp [sK, List.getD, h]
theorem sK_length {α : Type} (l : List (Str × α)) : (sK l).length = l.length := by simp [sK]
theorem sV_length {α : Type} (f : α → D) (l : List (Str × α)) : (sV f l).length = l.length := by simp [sV]
theorem misfit_c (l : List Module) (ks vs : List D) (bs : List Nat) (cl : Nat) (x : Item) : FnP Try.prog 55 [.agg (eFile l ks vs bs cl), .agg (eItem x)] (.d (eB (misfit l x))) [] := by
 cases hf : get (idxs l) x.of with
 | none =>
  refine FnP.of_eC (own := []) (fun _ => []) mixed Try.func55 rfl Try.call55 Try.ntmps55 (Nat.le_of_ble_eq_true rfl) Try.results55 (fun hok => ?_)
  simp (maxSteps := 4000000) only [ZE,↓reduceIte,pE,pL,pA,pS,pM,pD, zN,qT,qG,qL,qH,qN,qB,qE,qO,qA,qM, eFile, eScopes, eIdx, sMp, mget_s, keyedS, keyOkS, hf]
  refine ⟨fun y hy => sK_ok _ y hy, ?_⟩
  have : findM l x.of = none := hf
  simp only [misfit, this]
 | some i =>
  obtain ⟨k, hk, rfl, hn⟩ := findM_lt hf
  obtain ⟨m, hm⟩ : ∃ m, l[k] = m := ⟨_, rfl⟩
  have hp : misfit l x = ((portsM m).any (fun p => (get (cnts x.ports) p.1).getD 0 != 1) || ((x.args.length : Int) != (m.params.length : Int) || (x.ports.length : Int) != ((portsM m).length : Int))) := by
   have : findM l x.of = some (k : Int) := hf
   have e : l.getD k ⟨emp, emp, [], []⟩ = m := by simp [List.getD, hk, hm]
   simp only [misfit, this, Int.toNat_natCast, e]
  rw [hp]
  refine FnP.of_eC (own := []) (fun i => if i = 2022 then [.chn, .ord ⟨[(0, none), (1, none), (2, none), (3, none), (4, none), (5, none), (6, none), (7, none), (8, none), (9, none), (10, none), (11, none), (12, none), (13, none), (14, none), (15, none), (16, none), (17, none), (18, none), (19, none), (20, none)]⟩] else if i = 1017 then [.frz 38] else chL i) mixed Try.func55 rfl Try.call55 Try.ntmps55 (Nat.le_of_ble_eq_true rfl) Try.results55 (fun hok => ?_)
  have hx : D.okL (eItem x) := by
   have := (okL_cons (okL_cons hok).2).1
   simpa only [D.ok] using this
  have hpl : x.ports.length ≤ 9223372036854775807 := by
   simp only [eItem, D.okL] at hx
   have h1 := (okL_app (okL_app (okL_app (okL_app (okL_app (okL_app (okL_app hx.2.2).2).2).2).2).2).2).2
   simp only [D.okL] at h1
   exact (ok_map h1.2.2.1).1
  simp (maxSteps := 4000000) only [ZE,↓reduceIte,pE,pL,pA,pS,pM,pD, zN,qT,qG,qL,qH,qN,qB,qE,qO,qA,qM, eFile, eScopes, eIdx, sMp, mget_s, keyedS, keyOkS, hf]
  refine ⟨fun y hy => sK_ok _ y hy, ?_⟩
  refine eloop chL mixed x.ports.length (fun _ => True) (fun i => ([(2, .bp 2 0), (3, .bp 3 0), (5, .d (eI k)), (7, .mo 24), (26, .d (eBinds x.ports)), (27, .d (eI x.ports.length)), (28, .d (eI i))],
   [(24, .map (sK ((x.ports.take i).foldl cntStep [])) (sV eI ((x.ports.take i).foldl cntStep [])) (List.range ((x.ports.take i).foldl cntStep []).length) ((x.ports.take i).foldl cntStep []).length), (3, .box ((eItem x).map .d)), (2, .box ((eFile l ks vs bs cl).map .d))])) trivial ?_ ?_ (fun i hi _ => ?_)
  ·simp only [ZE,↓reduceIte,pE,pL,pA,pS,pM,pD]
  ·simp only [ZE,↓reduceIte,pE,pL,pA,pS,pM,pD, eFile, eScopes, eIdx, sMp, eScope, mget_s, keyedS, keyOkS, List.take_zero, List.foldl_nil]
   rfl
  rcases Nat.lt_or_ge i x.ports.length with h | h
  ·have hw := wrap_succ (show i < 9223372036854775807 by omega)
   obtain ⟨acc, hacc⟩ : ∃ acc, (x.ports.take i).foldl cntStep [] = acc := ⟨_, rfl⟩
   have hs := foldl_step cntStep [] x.ports i h
   rw [hacc] at hs
   rw [hacc, hs]
   simp (maxSteps := 4000000) only [ZE,↓reduceIte,pE,pL,pA,pS,pM,pD, dec_lt h, getD_map h, lt_int h, getD_eI, hw, eFile, eScopes, eIdx, sMp, eScope, mget_s, keyedS, keyOkS]
   exact ⟨fun y hy => sK_ok _ y hy, fun y hy => sK_ok _ y hy, h, mapEq (put_a eI _ _ _)⟩
  ·have : i = x.ports.length := by omega
   subst this
   have hmi : m.items.length ≤ 9223372036854775807 := by
    have := (okL_cons hok).1
    simp only [eFile, D.ok, D.okL, eScopes] at this
    have h2 := (ok_map this.1).2 m (hm ▸ List.getElem_mem hk)
    simp only [eScope, D.okL] at h2
    exact (ok_map h2.2.2.2.1).1
   simp (maxSteps := 4000000) only [ZE,↓reduceIte,pE,pL,pA,pS,pM,pD, dec_ge h, List.take_length, lt_int hk, getD_map hk, hm, eFile, eScopes, eIdx, sMp, eScope, mget_s, keyedS, keyOkS]
   refine eloop chL mixed m.items.length (fun _ => True) (fun i => ([(2, .bp 2 0), (3, .bp 3 0), (5, .d (eI k)), (7, .mo 24), (10, .mo 38), (45, .d (eItems m.items)), (46, .d (eI m.items.length)), (47, .d (eI i))],
    [(38, .map (sK ((m.items.take i).foldl portStep [])) (sV eB ((m.items.take i).foldl portStep [])) (List.range ((m.items.take i).foldl portStep []).length) ((m.items.take i).foldl portStep []).length),
     (24, .map (sK (cnts x.ports)) (sV eI (cnts x.ports)) (List.range (cnts x.ports).length) (cnts x.ports).length), (3, .box ((eItem x).map .d)), (2, .box ((eFile l ks vs bs cl).map .d))])) trivial ?_ ?_ (fun i hi _ => ?_)
   ·simp only [ZE,↓reduceIte,pE,pL,pA,pS,pM,pD]
   ·simp only [ZE,↓reduceIte,pE,pL,pA,pS,pM,pD, eFile, eScopes, eIdx, sMp, eScope, mget_s, keyedS, keyOkS, List.take_zero, List.foldl_nil, cnts]
    rfl
   rcases Nat.lt_or_ge i m.items.length with h' | h'
   ·have hw := wrap_succ (show i < 9223372036854775807 by omega)
    obtain ⟨acc, hacc⟩ : ∃ acc, (m.items.take i).foldl portStep [] = acc := ⟨_, rfl⟩
    have hs := foldl_step portStep [] m.items i h'
    rw [hacc] at hs
    rw [hacc, hs]
    obtain ⟨b, hb⟩ : ∃ b, (m.items[i].kind.1 == 1 || m.items[i].kind.1 == 2) = b := ⟨_, rfl⟩
    have hb' : isPort m.items[i] = b := hb
    simp (maxSteps := 4000000) only [ZE,↓reduceIte,pE,pL,pA,pS,pM,pD, dec_lt h', getD_map h', lt_int h', hw, zN,qT,qG,qL,qH,qN,qB,qE,qO,qA,qM, hb, eFile, eScopes, eIdx, sMp, eScope, mget_s, keyedS, keyOkS, portStep, hb']
    refine iteI (fun hb1 => ?_) (fun hb1 => ?_)
    ·rw [if_pos hb1]
     exact ⟨fun y hy => sK_ok _ y hy, h', mapEq (put_a eB _ _ _)⟩
    ·rw [if_neg (by rw [hb1]; simp)]
     exact ⟨h', rfl⟩
   ·have : i = m.items.length := by omega
    subst this
    simp (maxSteps := 4000000) only [ZE,↓reduceIte,pE,pL,pA,pS,pM,pD, dec_ge h', List.take_length, lt_int hk, getD_map hk, hm, eFile, eScopes, eIdx, sMp, eScope, mget_s, keyedS, keyOkS]
    have hP : m.items.foldl portStep [] = portsM m := rfl
    rw [hP]
    refine eloopX (fun _ i => if i = 2022 then [.chn, .ord ⟨[(0, none), (1, none), (2, none), (3, none), (4, none), (5, none), (6, none), (7, none), (8, none), (9, none), (10, none), (11, none), (12, none), (13, none), (14, none), (15, none), (16, none), (17, none), (18, none), (19, none), (20, none)]⟩] else if i = 1017 then [.frz 38] else chL i) mixed (portsM m).length (seenOk (portsM m) (fun p => (get (cnts x.ports) p.1).getD 0 != 1)) (fun i js => ([(2, .bp 2 0), (3, .bp 3 0), (5, .d (eI k)), (7, .mo 24), (10, .d (sMp eB (portsM m))), (64, .mo 64)],
     [(64, .it (sK (portsM m)) (sV eB (portsM m)) (List.range (portsM m).length) (portsM m).length js), (24, .map (sK (cnts x.ports)) (sV eI (cnts x.ports)) (List.range (cnts x.ports).length) (cnts x.ports).length), (3, .box ((eItem x).map .d)), (2, .box ((eFile l ks vs bs cl).map .d))])) [] (seenOk_nil _ _) ?_ ?_ (fun i js hi hI => ?_)
    ·simp only [ZE,↓reduceIte,pE,pL,pA,pS,pM,pD, eFile, eScopes, eIdx, sMp, eScope, mget_s, keyedS, keyOkS]
    ·simp only [ZE,↓reduceIte,pE,pL,pA,pS,pM,pD, eFile, eScopes, eIdx, sMp, eScope, mget_s, keyedS, keyOkS]
    simp only [ZE,↓reduceIte,pE,pL,pA,pS,pM,pD]
    refine ⟨by simp only [ZE,↓reduceIte,pE,pL,pA,pS,pM,pD], fun j hj hjs => ?_, fun hall => ?_⟩
    ·have hj' : j < (portsM m).length := by simpa [sK_length] using hj
     have hlt := seenOk_lt hI hj' hjs
     have hk' := sK_getD (portsM m) j hj'
     simp (maxSteps := 4000000) only [ZE,↓reduceIte,pE,pL,pA,pS,pM,pD, hk', List.getLast?_singleton, Option.some_or, eFile, eScopes, eIdx, sMp, eScope, mget_s, keyedS, keyOkS, getD_eI, nextX]
     refine ⟨fun y hy => sK_ok _ y hy, iteI (fun hb => ?_) (fun hb => ⟨hlt, _, seenOk_more hI hj' hjs hb, rfl⟩)⟩
     have : (portsM m).any (fun p => (get (cnts x.ports) p.1).getD 0 != 1) = true := List.any_eq_true.2 ⟨_, List.getElem_mem hj', hb⟩
     rw [this, Bool.true_or]
    ·have hany := seenOk_all hI (fun j hj => hall j (by simpa [sK_length] using hj))
     simp (maxSteps := 4000000) only [ZE,↓reduceIte,pE,pL,pA,pS,pM,pD, eFile, eScopes, eIdx, sMp, eScope, mget_s, keyedS, keyOkS, lt_int hk, getD_map hk, hm, sV_length, sK_length, zN,qT,qG,qL,qH,qN,qB,qE,qO,qA,qM]
     refine ⟨by kernel_rfl, ?_⟩
     rw [hany, Bool.false_or]
end Go.Proofs.Ytejpmjnefokdoaa

namespace Go.Proofs.Ytejpmjnefokdoaa
open Go.Aw
open Nat renaming reduceEqDiff → pE, reduceLT → pL, reduceAdd → pA, reduceSub → pS, reduceMul → pM, reduceLeDiff → pD
open Int renaming reduceToNat → qT, reduceGT → qG, reduceLT → qL, reduceGE → qH, reduceBNe → qN, reduceBEq → qB, reduceLE → qE, reduceNe → qO, reduceAdd → qA, reduceNeg → qM
set_option maxRecDepth 100000
set_option maxHeartbeats 1000000
/-- One expression more is looked at. -/
def visitE (m : Module) (rec : List Str → List Expr → List Str) (acc : List Str) (e : Expr) : List Str :=
 if ((e.op != 14 && e.op != 15) || has acc e.name) = true then acc else if has [5] (kindOf m e.name) = true then rec (acc ++ [e.name]) [(declOf m e.name).a] else acc ++ [e.name]
def visit (m : Module) : Nat → List Str → List Expr → List Str
 | 0, acc, _ => acc
 | n + 1, acc, l => (Expr.allL l).foldl (visitE m (visit m n)) acc
/-- How many declared names are not yet among them. -/
def left (m : Module) (acc : List Str) : Nat := (firsts m.items).countP fun p => !has acc p.1
def mo (id : Nat) (acc : List Str) : Nat × AO := (id, .map (sK (tk acc)) (sV eB (tk acc)) (List.range (tk acc).length) (tk acc).length)
theorem has_app (a b : List Str) (s : Str) : has (a ++ b) s = (has a s || has b s) := by simp [has]
theorem left_le (m : Module) {a b : List Str} (h : ∀ s, has a s = true → has b s = true) : left m b ≤ left m a := by
 unfold left
 refine List.countP_mono_left fun p _ hp => ?_
 simp only [Bool.not_eq_true'] at hp ⊢
 cases ha : has a p.1 with
 | false => rfl
 | true => rw [h _ ha] at hp; cases hp
theorem left_lt (m : Module) {a : List Str} {s : Str} (hg : get (firsts m.items) s ≠ none) (ha : has a s = false) : left m (a ++ [s]) < left m a := by
 unfold left
 have : ∀ l : List (Str × Item), get l s ≠ none → l.countP (fun p => !has (a ++ [s]) p.1) < l.countP (fun p => !has a p.1) := by
  intro l
  induction l with
  | nil => intro h; exact absurd rfl h
  | cons p r ih =>
   intro h
   rw [get_cons] at h
   have hle : r.countP (fun p => !has (a ++ [s]) p.1) ≤ r.countP (fun p => !has a p.1) := List.countP_mono_left fun p _ hp => by
    simp only [Bool.not_eq_true', has_app, Bool.or_eq_false_iff] at hp ⊢
    exact hp.1
   simp only [List.countP_cons]
   by_cases h1 : p.1 = s
   ·have e1 : (!has (a ++ [s]) p.1) = false := by simp [has_app, h1, has]
    have e2 : (!has a p.1) = true := by rw [h1, ha]; rfl
    rw [e1, e2]
    simp only [Bool.false_eq_true, if_false, if_true, Nat.add_zero]
    omega
   ·rw [if_neg h1] at h
    have := ih h
    have e1 : (!has (a ++ [s]) p.1) = (!has a p.1) := by
     have : ¬ p.1 = s := h1
     simp [has_app, has, this]
    rw [e1]
    omega
 exact this _ hg
theorem visitE_sup {m : Module} {rec : List Str → List Expr → List Str} (hr : ∀ a l s, has a s = true → has (rec a l) s = true) (a : List Str) (e : Expr) (s : Str) (h : has a s = true) : has (visitE m rec a e) s = true := by
 unfold visitE
 split
 ·exact h
 ·split
  ·exact hr _ _ _ (by rw [has_app, h, Bool.true_or])
  ·rw [has_app, h, Bool.true_or]
theorem foldl_sup {m : Module} {rec : List Str → List Expr → List Str} (hr : ∀ a l s, has a s = true → has (rec a l) s = true) : ∀ (l : List Expr) (a : List Str) (s : Str), has a s = true → has (l.foldl (visitE m rec) a) s = true
 | [], _, _, h => h
 | e :: l, a, s, h => by rw [List.foldl_cons]; exact foldl_sup hr l _ s (visitE_sup hr a e s h)
theorem visit_sup (m : Module) : ∀ (n : Nat) (a : List Str) (l : List Expr) (s : Str), has a s = true → has (visit m n a l) s = true
 | 0, _, _, _, h => h
 | n + 1, a, l, s, h => foldl_sup (visit_sup m n) (Expr.allL l) a s h
theorem kind_decl {m : Module} {s : Str} (h : has [5] (kindOf m s) = true) : get (firsts m.items) s ≠ none := by
 intro hg
 simp [kindOf, declOf, hg, zItem, has] at h
theorem firsts_mem (l : List Item) : ∀ p ∈ firsts l, p.2 ∈ l := by
 have : ∀ (r : List Item) (acc : List (Str × Item)), (∀ p ∈ acc, p.2 ∈ l) → (∀ x ∈ r, x ∈ l) → ∀ p ∈ r.foldl firstStep acc, p.2 ∈ l := by
  intro r
  induction r with
  | nil => intro acc h _; exact h
  | cons x r ih =>
   intro acc h hr
   rw [List.foldl_cons]
   refine ih _ (fun p hp => ?_) (fun y hy => hr y (List.mem_cons_of_mem _ hy))
   unfold firstStep at hp
   split at hp
   ·rcases List.mem_append.1 hp with hp | hp
    ·exact h p hp
    ·simp at hp; subst hp; exact hr x (by simp)
   ·exact h p hp
 exact this l [] (by simp) (fun _ h => h)
theorem get_mem {α : Type} {l : List (Str × α)} {s : Str} {x : α} (h : get l s = some x) : (s, x) ∈ l := by
 unfold get at h
 rw [Option.map_eq_some_iff] at h
 obtain ⟨p, h1, rfl⟩ := h
 have := List.find?_some h1
 have e : p.1 = s := of_decide_eq_true this
 rw [← e]
 exact List.mem_of_find?_eq_some h1
theorem decl_ok {m : Module} (hm : D.okL (eScope m)) (s : Str) (h : get (firsts m.items) s ≠ none) : D.okL (eItem (declOf m s)) := by
 cases hg : get (firsts m.items) s with
 | none => exact absurd hg h
 | some x =>
  have : declOf m s = x := by rw [declOf, hg]; rfl
  rw [this]
  simp only [eScope, D.okL] at hm
  exact (ok_map hm.2.2.2.1).2 x (firsts_mem _ _ (get_mem hg))
theorem exprs1_ok {e : Expr} (h : D.okL (eExpr e)) : (eExprs [e]).ok := by
 simp only [eExprs, D.ok, List.map_cons, List.map_nil, List.length_cons, List.length_nil]
 exact ⟨by unfold maxLen; omega, okLL_of fun y hy => by simp at hy; subst hy; exact h⟩
theorem dep1_c (m : Module) : ∀ (n : Nat) (l : List Expr) (acc : List Str) (hok : (eExprs l).ok) (hm : D.okL (eScope m)) (hn : left m acc < n),
  FnL Try.prog 71 [.d (eExprs l), .bp 1 0, .bp 2 0, .bp 3 0] [(1, .box [.mo 5]), (2, .box ((eScope m).map .d)), (3, .box [.clo (.func 71) [] [.bp 1 0, .bp 2 0, .bp 3 0]]), mo 5 acc]
   (fun V ol new => V = .tup [] ∧ ol = [(1, .box [.mo 6]), (2, .box ((eScope m).map .d)), (3, .box [.clo (.func 71) [] [.bp 1 0, .bp 2 0, .bp 3 0]]), mo 6 (visit m n acc l)] ∧ new = [6])
 | 0, _, _, _, _, hn => by omega
 | n + 1, l, acc, hok, hm, hn => by
  refine FnL.of_eC (own := []) (fun i => if i = 0 then [.rnm [(1, 1), (2, 2), (3, 3), (5, 6)]] else chL i) [1, 2, 3] mixed Try.func71 rfl Try.call71 Try.ntmps71 (Nat.le_of_ble_eq_true rfl) Try.results71 ?_
  simp (maxSteps := 4000000) only [ZE,↓reduceIte,pE,pL,pA,pS,pM,pD, mo]
  refine EFn.p ?_
  simp (maxSteps := 4000000) only [ZE,↓reduceIte,pE,pL,pA,pS,pM,pD]
  have hc := all_fc l
  simp (maxSteps := 4000000) only [ZE,↓reduceIte,pE,pL,pA,pS,pM,pD] at hc
  refine ECall.i hc ?_
  clear hc
  simp only [ZE,↓reduceIte,pE,pL,pA,pS,pM,pD]
  refine eAll (fun _ i => if i = 5 then [.rnm [(1, 1), (2, 2), (3, 3), (7, 6), (5, 5)]] else chL i) l hok rfl (by simp only [ZE,↓reduceIte,pE,pL,pA,pS,pM,pD]) (fun k => [(1, .box [.mo 6]), (2, .box ((eScope m).map .d)), (3, .box [.clo (.func 71) [] [.bp 1 0, .bp 2 0, .bp 3 0]]), mo 6 (((Expr.allL l).take k).foldl (visitE m (visit m n)) acc)]) (fun k => ∀ s, has acc s = true → has (((Expr.allL l).take k).foldl (visitE m (visit m n)) acc) s = true) (fun s hs => hs) ?_ ?_ rfl (fun k hk hI => ?_) (fun hI => ?_)
  ·simp only [ZE,↓reduceIte,pE,pL,pA,pS,pM,pD, mo, eFile, eScopes, eIdx, sMp, eScope, mget_s, keyedS, keyOkS, List.take_zero, List.foldl_nil]
  ·simp only [ZE,↓reduceIte,pE,pL,pA,pS,pM,pD]
  ·obtain ⟨e, he⟩ : ∃ e, (Expr.allL l)[k] = e := ⟨_, rfl⟩
   obtain ⟨a, ha⟩ : ∃ a, ((Expr.allL l).take k).foldl (visitE m (visit m n)) acc = a := ⟨_, rfl⟩
   have hs := foldl_step (visitE m (visit m n)) acc (Expr.allL l) k hk
   rw [ha, he] at hs
   rw [ha] at hI
   have hI' : ∀ s, has acc s = true → has (visitE m (visit m n) a e) s = true := fun s h => visitE_sup (visit_sup m n) a e s (hI s h)
   rw [ha, hs, he]
   have c1 := is_c m e.name [5]
   simp only [ZE,↓reduceIte,pE,pL,pA,pS,pM,pD, eFile, eScopes, eIdx, sMp, eScope, mget_s, keyedS, keyOkS] at c1
   by_cases g : ((e.op != 14 && e.op != 15) || has a e.name) = true
   ·have hv : visitE m (visit m n) a e = a := by unfold visitE; rw [if_pos g]
    rw [hv] at hI' ⊢
    simp only [ZE,↓reduceIte,pE,pL,pA,pS,pM,pD, eA, mo, zN,qT,qG,qL,qH,qN,qB,qE,qO,qA,qM, eFile, eScopes, eIdx, sMp, eScope, mget_s, keyedS, keyOkS, getD_tk, g]
    exact ⟨fun _ y hy => sK_ok _ y hy, hI⟩
   replace g := Bool.eq_false_iff.2 g
   have g2 : has a e.name = false := (Bool.or_eq_false_iff.1 g).2
   have hgn : get (tk a) e.name = none := by rw [get_tk, if_neg (by rw [g2]; simp)]
   have hput : AO.map (putK (sK (tk a)) (.lit (.string e.name.1))) (putV (sK (tk a)) (sV eB (tk a)) (.lit (.string e.name.1)) (.lit (.bool true))) (putB (sK (tk a)) (List.range (tk a).length) (tk a).length (.lit (.string e.name.1))) (putC (sK (tk a)) (tk a).length (.lit (.string e.name.1))) =
     AO.map (sK (tk (a ++ [e.name]))) (sV eB (tk (a ++ [e.name]))) (List.range (tk (a ++ [e.name])).length) (tk (a ++ [e.name])).length := by
    have := mapEq (put_s eB (x := true) hgn)
    simpa only [tk, List.map_append, List.map_cons, List.map_nil, eB] using this
   simp only [ZE,↓reduceIte,pE,pL,pA,pS,pM,pD, eA, mo, zN,qT,qG,qL,qH,qN,qB,qE,qO,qA,qM, eFile, eScopes, eIdx, sMp, eScope, mget_s, keyedS, keyOkS, getD_tk, g, hput]
   refine ⟨fun _ y hy => sK_ok _ y hy, fun y hy => sK_ok _ y hy, ?_⟩
   refine EFn.p ?_
   simp only [ZE,↓reduceIte,pE,pL,pA,pS,pM,pD, eFile, eScopes, eIdx, sMp, eScope, mget_s, keyedS, keyOkS]
   refine ECall.i c1 ?_
   simp only [ZE,↓reduceIte,pE,pL,pA,pS,pM,pD, eFile, eScopes, eIdx, sMp, eScope, mget_s, keyedS, keyOkS, zItem_raw, getD_item]
   refine iteI (fun hb => ?_) (fun hb => ?_)
   ·have hv : visitE m (visit m n) a e = visit m n (a ++ [e.name]) [(declOf m e.name).a] := by unfold visitE; rw [if_neg (by rw [g]; simp), if_pos hb]
    rw [hv] at hI' ⊢
    have hlt := left_lt m (kind_decl hb) g2
    have hle := left_le m (a := acc) (b := a) hI
    have hc := dep1_c m n [(declOf m e.name).a] (a ++ [e.name]) (exprs1_ok (item_ok (decl_ok hm e.name (kind_decl hb))).1) hm (by omega)
    simp only [ZE,↓reduceIte,pE,pL,pA,pS,pM,pD, eFile, eScopes, eIdx, sMp, eScope, mget_s, keyedS, keyOkS, mo, declOf] at hc
    refine ⟨fun y hy => sK_ok _ y hy, ?_⟩
    refine EFn.g ⟨[(1, 1), (2, 2), (3, 3), (5, 6), (6, 7)], _, _, _, hc, ?_⟩
    simp only [ZE,↓reduceIte,pE,pL,pA,pS,pM,pD, eFile, eScopes, eIdx, sMp, eScope, mget_s, keyedS, keyOkS]
    rintro V ol new ⟨rfl, rfl, rfl⟩
    simp only [ZE,↓reduceIte,pE,pL,pA,pS,pM,pD, eFile, eScopes, eIdx, sMp, eScope, mget_s, keyedS, keyOkS, declOf]
    simp only [declOf] at hI'
    exact hI'
   ·have hv : visitE m (visit m n) a e = a ++ [e.name] := by unfold visitE; rw [if_neg (by rw [g]; simp), if_neg (by rw [hb]; simp)]
    rw [hv] at hI' ⊢
    exact ⟨rfl, hI'⟩
  ·simp only [ZE,↓reduceIte,pE,pL,pA,pS,pM,pD, mo]
   refine ⟨[], [6], ?_⟩
   simp only [ZE,↓reduceIte,pE,pL,pA,pS,pM,pD, mo, List.take_length]
   rfl
def dependsL (m : Module) (l : List Expr) : List Str := visit m ((firsts m.items).length + 1) [] l
theorem depends_c (m : Module) (l : List Expr) : FnP Try.prog 54 [.agg (eScope m), eExprs l] (.d (sMp eB (tk (dependsL m l)))) [] := by
 refine FnP.of_eC (own := []) (fun _ => []) mixed Try.func54 rfl Try.call54 Try.ntmps54 (Nat.le_of_ble_eq_true rfl) Try.results54 (fun hok => ?_)
 have hm : D.okL (eScope m) := by simpa only [D.ok] using (okL_cons hok).1
 have hl := (okL_cons (okL_cons hok).2).1
 have hc := dep1_c m ((firsts m.items).length + 1) l [] hl hm (Nat.lt_succ_of_le List.countP_le_length)
 have e0 : tk [] = [] := rfl
 have e1 : sK ([] : List (Str × Bool)) = [] := rfl
 have e2 : sV eB ([] : List (Str × Bool)) = [] := rfl
 simp only [ZE,↓reduceIte,pE,pL,pA,pS,pM,pD, eFile, eScopes, eIdx, sMp, eScope, mget_s, keyedS, keyOkS, mo, e0, e1, e2, List.length_nil, List.range_zero] at hc
 simp (maxSteps := 4000000) only [ZE,↓reduceIte,pE,pL,pA,pS,pM,pD, eFile, eScopes, eIdx, sMp, eScope, mget_s, keyedS, keyOkS]
 refine EFn.g ⟨[(1, 5), (2, 2), (3, 6), (5, 7), (6, 20)], _, _, _, hc, ?_⟩
 simp only [ZE,↓reduceIte,pE,pL,pA,pS,pM,pD, eFile, eScopes, eIdx, sMp, eScope, mget_s, keyedS, keyOkS]
 rintro V ol new ⟨rfl, rfl, rfl⟩
 simp only [ZE,↓reduceIte,pE,pL,pA,pS,pM,pD, eFile, eScopes, eIdx, sMp, eScope, mget_s, keyedS, keyOkS, dependsL]
end Go.Proofs.Ytejpmjnefokdoaa

namespace Go.Proofs.Ytejpmjnefokdoaa
open Go.Aw
open Nat renaming reduceEqDiff → pE, reduceLT → pL, reduceAdd → pA, reduceSub → pS, reduceMul → pM, reduceLeDiff → pD
open Int renaming reduceToNat → qT, reduceGT → qG, reduceLT → qL, reduceGE → qH, reduceBNe → qN, reduceBEq → qB, reduceLE → qE, reduceNe → qO, reduceAdd → qA, reduceNeg → qM
set_option maxRecDepth 100000
set_option maxHeartbeats 1000000
def startN (m : Module) (e : Expr) : List Str := if has [5] (kindOf m e.name) = true then dependsL m [(declOf m e.name).a] else [e.name]
def wordN (m : Module) (n : Str) : Bool := has [1, 3] (kindOf m n)
def earlyE (m : Module) (e : Expr) : Bool := e.op == 14 && (startN m e).any (wordN m)
def early (m : Module) (x : Item) : Bool := (Expr.allL [x.a]).any (earlyE m)
theorem tk_length (l : List Str) : (tk l).length = l.length := by simp [tk]
theorem tk_get (l : List Str) (j : Nat) (h : j < l.length) : (tk l)[j]'(by rw [tk_length]; exact h) = (l[j], true) := by simp [tk]
theorem early_c (m : Module) (x : Item) : FnP Try.prog 56 [.agg (eScope m), .agg (eItem x)] (.d (eB (early m x))) [] := by
 refine FnP.of_eC (own := []) (fun i => if i = 1007 then [.frz 16] else if i = 1 then [.keep [11, 4, 3, 2]] else chL i) mixed Try.func56 rfl Try.call56 Try.ntmps56 (Nat.le_of_ble_eq_true rfl) Try.results56 (fun hok => ?_)
 have hx : D.okL (eItem x) := by simpa only [D.ok] using (okL_cons (okL_cons hok).2).1
 have hxa := exprs1_ok (item_ok hx).1
 simp (maxSteps := 4000000) only [ZE,↓reduceIte,pE,pL,pA,pS,pM,pD, eFile, eScopes, eIdx, sMp, eScope, mget_s, keyedS, keyOkS]
 have ac := all_fc [x.a]
 simp only [ZE,↓reduceIte,pE,pL,pA,pS,pM,pD, List.map_cons, List.map_nil] at ac
 refine EFn.p ?_
 simp only [ZE,↓reduceIte,pE,pL,pA,pS,pM,pD, eFile, eScopes, eIdx, sMp, eScope, mget_s, keyedS, keyOkS]
 refine ECall.i ac ?_
 simp only [ZE,↓reduceIte,pE,pL,pA,pS,pM,pD, eFile, eScopes, eIdx, sMp, eScope, mget_s, keyedS, keyOkS]
 refine eAll (fun _ i => if i = 1007 then [.frz 16] else chL i) [x.a] hxa rfl (by simp only [ZE,↓reduceIte,pE,pL,pA,pS,pM,pD]) (fun _ => [(4, .box [.d (eB false)]), (3, .box ((eItem x).map .d)), (2, .box ((eScope m).map .d))]) (fun k => ∀ e ∈ (Expr.allL [x.a]).take k, earlyE m e = false) (by simp) ?_ ?_ rfl (fun k hk hI => ?_) (fun hI => ?_)
 ·simp only [ZE,↓reduceIte,pE,pL,pA,pS,pM,pD, eFile, eScopes, eIdx, sMp, eScope, mget_s, keyedS, keyOkS]
 ·simp only [ZE,↓reduceIte,pE,pL,pA,pS,pM,pD]
 ·obtain ⟨e, he⟩ : ∃ e, (Expr.allL [x.a])[k] = e := ⟨_, rfl⟩
  have hI' : earlyE m e = false → ∀ y ∈ (Expr.allL [x.a]).take (k + 1), earlyE m y = false := fun h y hy => by
   rw [List.take_succ_eq_append_getElem hk, List.mem_append, List.mem_singleton, he] at hy
   rcases hy with hy | rfl
   ·exact hI y hy
   ·exact h
  have hT : earlyE m e = true → early m x = true := fun h => List.any_eq_true.2 ⟨e, he ▸ List.getElem_mem hk, h⟩
  rw [he]
  by_cases g : (e.op != 14) = true
  ·simp only [ZE,↓reduceIte,pE,pL,pA,pS,pM,pD, eA, zN,qT,qG,qL,qH,qN,qB,qE,qO,qA,qM, eFile, eScopes, eIdx, sMp, eScope, mget_s, keyedS, keyOkS, g]
   exact hI' (by simp only [earlyE, bne, Bool.not_eq_true'] at g ⊢; rw [g]; rfl)
  replace g := Bool.eq_false_iff.2 g
  have ge : (e.op == 14) = true := by simpa only [bne, Bool.not_eq_false'] using g
  have c1 := is_c m e.name [5]
  simp only [ZE,↓reduceIte,pE,pL,pA,pS,pM,pD, eFile, eScopes, eIdx, sMp, eScope, mget_s, keyedS, keyOkS] at c1
  simp only [ZE,↓reduceIte,pE,pL,pA,pS,pM,pD, eA, zN,qT,qG,qL,qH,qN,qB,qE,qO,qA,qM, eFile, eScopes, eIdx, sMp, eScope, mget_s, keyedS, keyOkS, g]
  obtain ⟨p1, p2, p3, p4⟩ : putK [] (.lit (.string e.name.1)) = sK (tk [e.name]) ∧ putV [] [] (.lit (.string e.name.1)) (.lit (.bool true)) = sV eB (tk [e.name]) ∧ putB [] [] 0 (.lit (.string e.name.1)) = List.range (tk [e.name]).length ∧ putC [] 0 (.lit (.string e.name.1)) = (tk [e.name]).length := put_s eB (l := []) (x := true) rfl
  refine EFn.p ?_
  simp only [ZE,↓reduceIte,pE,pL,pA,pS,pM,pD, eFile, eScopes, eIdx, sMp, eScope, mget_s, keyedS, keyOkS, p1, p2, p3, p4]
  refine ECall.i c1 ?_
  simp only [ZE,↓reduceIte,pE,pL,pA,pS,pM,pD, eFile, eScopes, eIdx, sMp, eScope, mget_s, keyedS, keyOkS, zItem_raw, getD_item]
  refine iteI (fun hb => ?_) (fun hb => ?_)
  ·have hst : startN m e = dependsL m [(declOf m e.name).a] := if_pos hb
   have dc := depends_c m [(declOf m e.name).a]
   simp only [ZE,↓reduceIte,pE,pL,pA,pS,pM,pD, eFile, eScopes, eIdx, sMp, eScope, mget_s, keyedS, keyOkS, List.map_cons, List.map_nil, declOf] at dc
   refine ⟨fun y hy => sK_ok _ y hy, ?_⟩
   refine EFn.p ?_
   simp only [ZE,↓reduceIte,pE,pL,pA,pS,pM,pD, eFile, eScopes, eIdx, sMp, eScope, mget_s, keyedS, keyOkS]
   refine ECall.i dc ?_
   simp only [ZE,↓reduceIte,pE,pL,pA,pS,pM,pD, eFile, eScopes, eIdx, sMp, eScope, mget_s, keyedS, keyOkS]
   obtain ⟨L, hL⟩ : ∃ L, dependsL m [((get (firsts m.items) e.name).getD zItem).a] = L := ⟨_, rfl⟩
   have hst' : startN m e = L := hst.trans hL
   rw [hL]
   refine eloopX (fun _ i => if i = 1007 then [.frz 16] else chL i) mixed (tk (L)).length (seenOk (tk (L)) (fun p => wordN m p.1)) (fun i js => ([(2, .bp 2 0), (3, .bp 3 0), (4, .bp 4 0), (11, .d (.clo (.func 75) [] [.ptr [eExprs [x.a]]])), (35, .mo 35)],
    [(35, .it (sK (tk (L))) (sV eB (tk (L))) (List.range (tk (L)).length) (tk (L)).length js), (4, .box [.d (eB false)]), (3, .box ((eItem x).map .d)), (2, .box ((eScope m).map .d))])) [] (seenOk_nil _ _) ?_ ?_ (fun i js hi hI2 => ?_)
   ·simp only [ZE,↓reduceIte,pE,pL,pA,pS,pM,pD, eFile, eScopes, eIdx, sMp, eScope, mget_s, keyedS, keyOkS]
   ·simp only [ZE,↓reduceIte,pE,pL,pA,pS,pM,pD, eFile, eScopes, eIdx, sMp, eScope, mget_s, keyedS, keyOkS]
   simp only [ZE,↓reduceIte,pE,pL,pA,pS,pM,pD]
   refine ⟨by simp only [ZE,↓reduceIte,pE,pL,pA,pS,pM,pD], fun j hj hjs => ?_, fun hall => ?_⟩
   ·have hj' : j < (tk (L)).length := by simpa [sK_length] using hj
    have hlt := seenOk_lt hI2 hj' hjs
    have hk' := sK_getD (tk (L)) j hj'
    have c2 := is_c m (tk (L))[j].1 [1, 3]
    simp only [ZE,↓reduceIte,pE,pL,pA,pS,pM,pD, eFile, eScopes, eIdx, sMp, eScope, mget_s, keyedS, keyOkS] at c2
    simp (maxSteps := 4000000) only [ZE,↓reduceIte,pE,pL,pA,pS,pM,pD, hk', List.getLast?_singleton, Option.some_or, eFile, eScopes, eIdx, sMp, eScope, mget_s, keyedS, keyOkS, nextX]
    refine EFn.p ?_
    simp only [ZE,↓reduceIte,pE,pL,pA,pS,pM,pD, eFile, eScopes, eIdx, sMp, eScope, mget_s, keyedS, keyOkS]
    refine ECall.i c2 ?_
    simp only [ZE,↓reduceIte,pE,pL,pA,pS,pM,pD, eFile, eScopes, eIdx, sMp, eScope, mget_s, keyedS, keyOkS, nextX]
    refine iteI (fun hw => ?_) (fun hw => ⟨hlt, _, seenOk_more hI2 hj' hjs hw, rfl⟩)
    have h1 : (tk (L)).any (fun p => wordN m p.1) = true := List.any_eq_true.2 ⟨_, List.getElem_mem hj', hw⟩
    have h2 : earlyE m e = true := by
     simp only [earlyE, ge, hst', Bool.true_and]
     simpa only [tk, List.any_map, Function.comp_def] using h1
    rw [hT h2]
   ·have hany := seenOk_all hI2 (fun j hj => hall j (by simpa [sK_length] using hj))
    simp (maxSteps := 4000000) only [ZE,↓reduceIte,pE,pL,pA,pS,pM,pD, eFile, eScopes, eIdx, sMp, eScope, mget_s, keyedS, keyOkS]
    refine hI' ?_
    simp only [earlyE, ge, hst', Bool.true_and]
    simpa only [tk, List.any_map, Function.comp_def] using hany
  ·have hst' : startN m e = [e.name] := if_neg (by rw [hb]; simp)
   obtain ⟨L, hL⟩ : ∃ L, [e.name] = L := ⟨_, rfl⟩
   rw [hL] at hst' ⊢
   refine eloopX (fun _ i => if i = 1007 then [.frz 16] else chL i) mixed (tk (L)).length (seenOk (tk (L)) (fun p => wordN m p.1)) (fun i js => ([(2, .bp 2 0), (3, .bp 3 0), (4, .bp 4 0), (11, .d (.clo (.func 75) [] [.ptr [eExprs [x.a]]])), (35, .mo 35)],
    [(35, .it (sK (tk (L))) (sV eB (tk (L))) (List.range (tk (L)).length) (tk (L)).length js), (4, .box [.d (eB false)]), (3, .box ((eItem x).map .d)), (2, .box ((eScope m).map .d))])) [] (seenOk_nil _ _) ?_ ?_ (fun i js hi hI2 => ?_)
   ·simp only [ZE,↓reduceIte,pE,pL,pA,pS,pM,pD, eFile, eScopes, eIdx, sMp, eScope, mget_s, keyedS, keyOkS]
   ·simp only [ZE,↓reduceIte,pE,pL,pA,pS,pM,pD, eFile, eScopes, eIdx, sMp, eScope, mget_s, keyedS, keyOkS]
   simp only [ZE,↓reduceIte,pE,pL,pA,pS,pM,pD]
   refine ⟨by simp only [ZE,↓reduceIte,pE,pL,pA,pS,pM,pD], fun j hj hjs => ?_, fun hall => ?_⟩
   ·have hj' : j < (tk (L)).length := by simpa [sK_length] using hj
    have hlt := seenOk_lt hI2 hj' hjs
    have hk' := sK_getD (tk (L)) j hj'
    have c2 := is_c m (tk (L))[j].1 [1, 3]
    simp only [ZE,↓reduceIte,pE,pL,pA,pS,pM,pD, eFile, eScopes, eIdx, sMp, eScope, mget_s, keyedS, keyOkS] at c2
    simp (maxSteps := 4000000) only [ZE,↓reduceIte,pE,pL,pA,pS,pM,pD, hk', List.getLast?_singleton, Option.some_or, eFile, eScopes, eIdx, sMp, eScope, mget_s, keyedS, keyOkS, nextX]
    refine EFn.p ?_
    simp only [ZE,↓reduceIte,pE,pL,pA,pS,pM,pD, eFile, eScopes, eIdx, sMp, eScope, mget_s, keyedS, keyOkS]
    refine ECall.i c2 ?_
    simp only [ZE,↓reduceIte,pE,pL,pA,pS,pM,pD, eFile, eScopes, eIdx, sMp, eScope, mget_s, keyedS, keyOkS, nextX]
    refine iteI (fun hw => ?_) (fun hw => ⟨hlt, _, seenOk_more hI2 hj' hjs hw, rfl⟩)
    have h1 : (tk (L)).any (fun p => wordN m p.1) = true := List.any_eq_true.2 ⟨_, List.getElem_mem hj', hw⟩
    have h2 : earlyE m e = true := by
     simp only [earlyE, ge, hst', Bool.true_and]
     simpa only [tk, List.any_map, Function.comp_def] using h1
    rw [hT h2]
   ·have hany := seenOk_all hI2 (fun j hj => hall j (by simpa [sK_length] using hj))
    simp (maxSteps := 4000000) only [ZE,↓reduceIte,pE,pL,pA,pS,pM,pD, eFile, eScopes, eIdx, sMp, eScope, mget_s, keyedS, keyOkS]
    refine hI' ?_
    simp only [earlyE, ge, hst', Bool.true_and]
    simpa only [tk, List.any_map, Function.comp_def] using hany
 ·simp only [ZE,↓reduceIte,pE,pL,pA,pS,pM,pD, zN,qT,qG,qL,qH,qN,qB,qE,qO,qA,qM, eFile, eScopes, eIdx, sMp, eScope, mget_s, keyedS, keyOkS]
  have : early m x = false := List.any_eq_false.2 fun e he => by
   rw [hI e (by rw [List.take_length]; exact he)]; simp
  rw [this]
end Go.Proofs.Ytejpmjnefokdoaa

namespace Go.Proofs.Ytejpmjnefokdoaa
open Go.Aw
open Nat renaming reduceEqDiff → pE, reduceLT → pL, reduceAdd → pA, reduceSub → pS, reduceMul → pM, reduceLeDiff → pD
open Int renaming reduceToNat → qT, reduceGT → qG, reduceLT → qL, reduceGE → qH, reduceBNe → qN, reduceBEq → qB, reduceLE → qE, reduceNe → qO, reduceAdd → qA, reduceNeg → qM
set_option maxRecDepth 100000
set_option maxHeartbeats 1000000
/-! ### Sets of numbers -/
def iK (l : List Nat) : List D := l.map fun (n : Nat) => D.lit (.int .i64 (n : Int))
def iV (l : List Nat) : List D := l.map fun _ => D.lit (.bool true)
theorem iK_ok (l : List Nat) (h : ∀ n ∈ l, n ≤ 9223372036854775807) : ∀ y ∈ iK l, KeyOk Try.prog 3 y := by
 intro y hy
 obtain ⟨n, hn, rfl⟩ := List.mem_map.1 hy
 have := h n hn
 refine keyOkI ?_
 simp only [Lit.wf, Bool.and_eq_true, decide_eq_true_eq]
 have h1 : IntKind.i64.min = -9223372036854775808 := by decide
 have h2 : IntKind.i64.max = 9223372036854775807 := by decide
 rw [h1, h2]
 omega
def hasI (l : List Nat) (z : Int) : Bool := l.any fun n => (n : Int) == z
theorem hasI_nat (l : List Nat) (n : Nat) : hasI l n = l.contains n := by
 rw [Bool.eq_iff_iff]
 simp only [hasI, List.any_eq_true, beq_iff_eq, List.contains_eq_mem, decide_eq_true_eq]
 constructor
 ·rintro ⟨x, h1, h2⟩; have : x = n := by omega
  subst this; exact h1
 ·intro h; exact ⟨n, h, rfl⟩
theorem mget_i : ∀ (l : List Nat) (z : Int), (mget (iK l) (iV l) (.lit (.int .i64 z))).getD (.lit (.bool false)) = .lit (.bool (hasI l z))
 | [], z => by simp [iK, iV, mget_nil, hasI]
 | a :: l, z => by
  have ih := mget_i l z
  simp only [iK, iV, List.map_cons, mget_cons, hasI, List.any_cons] at ih ⊢
  by_cases h : (a : Int) = z
  ·subst h; simp
  ·have h' : ¬ (D.lit (.int .i64 a) = D.lit (.int .i64 z)) := by simp; exact h
   rw [if_neg h', ih]
   simp [h]
theorem put_i {l : List Nat} {n : Nat} (h : l.contains n = false) : AO.map (putK (iK l) (.lit (.int .i64 n))) (putV (iK l) (iV l) (.lit (.int .i64 n)) (.lit (.bool true))) (putB (iK l) (List.range l.length) l.length (.lit (.int .i64 n))) (putC (iK l) l.length (.lit (.int .i64 n))) =
  AO.map (iK (l ++ [n])) (iV (l ++ [n])) (List.range (l ++ [n]).length) (l ++ [n]).length := by
 have hn : (D.lit (.int .i64 n)) ∉ iK l := by
  intro hm
  obtain ⟨a, ha, e⟩ := List.mem_map.1 hm
  simp only [D.lit.injEq, Value.int.injEq, true_and] at e
  have : a = n := by omega
  subst this
  simp at h; exact h ha
 have hk : ¬ kidx (iK l) (.lit (.int .i64 n)) < (iK l).length := fun h' => hn (kidx_lt.1 h')
 rw [putK_new hn, putV_new hn, putB, putC, if_neg hk, if_neg hk]
 simp only [iK, iV, List.map_append, List.map_cons, List.map_nil, List.length_append, List.length_cons, List.length_nil, Nat.zero_add, List.range_succ]
/-! ### Which modules a module reaches -/
def instOf (l : List Module) (x : Item) : Option Nat := if x.kind.1 = 9 then (findM l x.of).map Int.toNat else none
def reachI (l : List Module) (rec : Nat → List Nat → Bool × List Nat) (to : Nat) : List Item → List Nat → Bool × List Nat
 | [], s => (false, s)
 | x :: r, s => match instOf l x with
  | none => reachI l rec to r s
  | some i => if s.contains i = true then reachI l rec to r s else if i = to then (true, s ++ [i]) else
   match rec i (s ++ [i]) with
   | (true, s') => (true, s')
   | (false, s') => reachI l rec to r s'
def reach (l : List Module) (to : Nat) : Nat → Nat → List Nat → Bool × List Nat
 | 0, _, s => (false, s)
 | n + 1, i, s => reachI l (reach l to n) to (l.getD i ⟨emp, emp, [], []⟩).items s
def unseen (l : List Module) (s : List Nat) : Nat := (List.range l.length).countP fun k => !s.contains k
theorem instOf_lt {l : List Module} {x : Item} {i : Nat} (h : instOf l x = some i) : i < l.length ∧ findM l x.of = some (i : Int) := by
 unfold instOf at h
 split at h
 ·rw [Option.map_eq_some_iff] at h
  obtain ⟨z, h1, h2⟩ := h
  obtain ⟨k, hk, rfl, _⟩ := findM_lt h1
  simp only [Int.toNat_natCast] at h2
  subst h2
  exact ⟨hk, h1⟩
 ·cases h
/-- Later ones have more of them, and only modules. -/
def sup (l : List Module) (a b : List Nat) : Prop := (∀ k ∈ a, k ∈ b) ∧ ((∀ k ∈ a, k < l.length) → ∀ k ∈ b, k < l.length)
theorem sup_refl (l : List Module) (a : List Nat) : sup l a a := ⟨fun _ h => h, fun h => h⟩
theorem sup_trans {l : List Module} {a b c : List Nat} (h : sup l a b) (h' : sup l b c) : sup l a c := ⟨fun k hk => h'.1 k (h.1 k hk), fun ha => h'.2 (h.2 ha)⟩
theorem sup_app {l : List Module} {a : List Nat} {i : Nat} (hi : i < l.length) : sup l a (a ++ [i]) := ⟨fun k hk => by simp [hk], fun ha k hk => by
 rcases List.mem_append.1 hk with hk | hk
 ·exact ha k hk
 ·simp at hk; subst hk; exact hi⟩
theorem reachI_sup {l : List Module} {rec : Nat → List Nat → Bool × List Nat} {to : Nat} (hr : ∀ i s, sup l s (rec i s).2) : ∀ (r : List Item) (s : List Nat), sup l s (reachI l rec to r s).2
 | [], s => sup_refl l s
 | x :: r, s => by
  unfold reachI
  split
  ·exact reachI_sup hr r s
  ·rename_i i hi
   have hi' := (instOf_lt hi).1
   split
   ·exact reachI_sup hr r s
   ·split
    ·exact sup_app hi'
    ·have h1 := hr i (s ++ [i])
     split
     ·rename_i s' e; rw [e] at h1; exact sup_trans (sup_app hi') h1
     ·rename_i s' e; rw [e] at h1; exact sup_trans (sup_app hi') (sup_trans h1 (reachI_sup hr r s'))
theorem reach_sup (l : List Module) (to : Nat) : ∀ (n i : Nat) (s : List Nat), sup l s (reach l to n i s).2
 | 0, _, s => sup_refl l s
 | n + 1, _, s => reachI_sup (fun i s => reach_sup l to n i s) _ s
theorem unseen_le {l : List Module} {a b : List Nat} (h : ∀ k ∈ a, k ∈ b) : unseen l b ≤ unseen l a := by
 unfold unseen
 refine List.countP_mono_left fun k _ hk => ?_
 simp only [Bool.not_eq_true', List.contains_eq_mem, decide_eq_false_iff_not] at hk ⊢
 exact fun h' => hk (h k h')
theorem unseen_lt {l : List Module} {a : List Nat} {i : Nat} (hi : i < l.length) (ha : a.contains i = false) : unseen l (a ++ [i]) < unseen l a := by
 have : ∀ n, i < n → (List.range n).countP (fun k => !(a ++ [i]).contains k) < (List.range n).countP (fun k => !a.contains k) := by
  intro n
  induction n with
  | zero => intro h; omega
  | succ n ih =>
   intro h
   have hle : (List.range n).countP (fun k => !(a ++ [i]).contains k) ≤ (List.range n).countP (fun k => !a.contains k) := List.countP_mono_left fun k _ hk => by
    simp only [Bool.not_eq_true', List.contains_eq_mem, decide_eq_false_iff_not, List.mem_append] at hk ⊢
    exact fun h' => hk (.inl h')
   simp only [List.range_succ, List.countP_append, List.countP_cons, List.countP_nil, Nat.zero_add]
   by_cases hn : n = i
   ·subst hn
    have e1 : (!(a ++ [n]).contains n) = false := by simp
    have e2 : (!a.contains n) = true := by rw [ha]; rfl
    rw [e1, e2]
    simp only [Bool.false_eq_true, if_false, if_true, Nat.add_zero]
    omega
   ·have := ih (by omega)
    have e1 : (!(a ++ [i]).contains n) = (!a.contains n) := by simp [hn]
    rw [e1]
    omega
 exact this _ hi
theorem reach_c (l : List Module) (ks vs : List D) (bs : List Nat) (cl : Nat) (to : Nat) (hok : D.ok (eScopes l)) (n : Nat) : ∀ (i : Nat) (s : List Nat) (hi : i < l.length) (hs : ∀ k ∈ s, k < l.length) (hn : unseen l s < n),
  FnL Try.prog 48 [.agg [.d (eScopes l), .d (eIdx l), .mo 1], .d (eI i), .d (eI to), .mo 0] [(0, .map (iK s) (iV s) (List.range s.length) s.length), (1, .map ks vs bs cl)]
   (fun V ol new => V = .d (eB (reach l to n i s).1) ∧ ol = [(0, .map (iK (reach l to n i s).2) (iV (reach l to n i s).2) (List.range (reach l to n i s).2.length) (reach l to n i s).2.length), (1, .map ks vs bs cl)] ∧ new = []) := by
 induction n with
 | zero => intro _ _ _ _ hn; omega
 | succ n ih =>
  intro i s hi hs hn
  obtain ⟨m, hm⟩ : ∃ m, l[i] = m := ⟨_, rfl⟩
  have hR : reach l to (n + 1) i s = reachI l (reach l to n) to m.items s := by
   have : l.getD i ⟨emp, emp, [], []⟩ = m := by simp [List.getD, hi, hm]
   rw [reach, this]
  rw [hR]
  have hll : l.length ≤ 9223372036854775807 := (ok_map hok).1
  have hml : m.items.length ≤ 9223372036854775807 := by
   have h2 := (ok_map hok).2 m (hm ▸ List.getElem_mem hi)
   simp only [eScope, D.okL] at h2
   exact (ok_map h2.2.2.2.1).1
  obtain ⟨R, hR'⟩ : ∃ R, reachI l (reach l to n) to m.items s = R := ⟨_, rfl⟩
  rw [hR']
  refine FnL.of_eC (own := []) (fun i => if i = 2007 then [] else chL i) [0, 3] mixed Try.func48 rfl Try.call48 Try.ntmps48 (Nat.le_of_ble_eq_true rfl) Try.results48 ?_
  simp (maxSteps := 4000000) only [ZE,↓reduceIte,pE,pL,pA,pS,pM,pD, eFile, eScopes, eIdx, sMp, eScope, mget_s, keyedS, keyOkS, lt_int hi, getD_map hi, hm, zN,qT,qG,qL,qH,qN,qB,qE,qO,qA,qM]
  refine eloopX (X := List Nat) (fun _ i => if i = 2007 then [] else chL i) mixed m.items.length (fun j s' => reachI l (reach l to n) to (m.items.drop j) s' = R ∧ sup l s s') (fun j s' => ([(0, .agg [.d (eScopes l), .d (eIdx l), .mo 1]), (1, .d (eI i)), (2, .d (eI to)), (3, .mo 0), (4, .bp 4 0), (19, .d (eItems m.items)), (20, .d (eI m.items.length)), (21, .d (eI j))],
   [(4, .box [.d (eScopes l), .d (eIdx l), .mo 1]), (0, .map (iK s') (iV s') (List.range s'.length) s'.length), (1, .map ks vs bs cl)])) s ⟨by rw [List.drop_zero]; exact hR', sup_refl l s⟩ ?_ ?_ (fun j s' hj hI => ?_)
  ·simp only [ZE,↓reduceIte,pE,pL,pA,pS,pM,pD, eFile, eScopes, eIdx, sMp, eScope, mget_s, keyedS, keyOkS]
  ·simp only [ZE,↓reduceIte,pE,pL,pA,pS,pM,pD, eFile, eScopes, eIdx, sMp, eScope, mget_s, keyedS, keyOkS]
  obtain ⟨hI1, hI2⟩ := hI
  have hs' := hI2.2 hs
  rcases Nat.lt_or_ge j m.items.length with h | h
  ·have hw := wrap_succ (show j < 9223372036854775807 by omega)
   rw [List.drop_eq_getElem_cons h, reachI] at hI1
   obtain ⟨x, hx⟩ : ∃ x, m.items[j] = x := ⟨_, rfl⟩
   rw [hx] at hI1
   by_cases k9 : x.kind.1 = 9
   ·cases hf : get (idxs l) x.of with
    | none =>
     have hin : instOf l x = none := by unfold instOf; rw [if_pos k9]; simp [findM, hf]
     rw [hin] at hI1
     simp (maxSteps := 4000000) only [ZE,↓reduceIte,pE,pL,pA,pS,pM,pD, dec_lt h, getD_map h, lt_int h, hx, zN,qT,qG,qL,qH,qN,qB,qE,qO,qA,qM, hw, k9, hf, eFile, eScopes, eIdx, sMp, eScope, mget_s, keyedS, keyOkS, nextX, mget_i]
     exact ⟨fun y hy => sK_ok _ y hy, h, s', ⟨hI1, hI2⟩, rfl⟩
    | some z =>
     obtain ⟨k, hk, rfl, _⟩ := findM_lt (l := l) (n := x.of) hf
     have hin : instOf l x = some k := by unfold instOf; rw [if_pos k9]; simp [findM, hf]
     rw [hin] at hI1
     simp only at hI1
     have hkok := iK_ok s' (fun n hn => Nat.le_trans (Nat.le_of_lt (hs' n hn)) hll)
     have hk1 := iK_ok [k] (fun n hn => by simp at hn; subst hn; exact Nat.le_trans (Nat.le_of_lt hk) hll) (.lit (.int .i64 k)) (by simp [iK])
     cases hc : s'.contains k with
     | true =>
      rw [hc] at hI1
      simp (maxSteps := 4000000) only [ZE,↓reduceIte,pE,pL,pA,pS,pM,pD, dec_lt h, getD_map h, lt_int h, hx, zN,qT,qG,qL,qH,qN,qB,qE,qO,qA,qM, hw, k9, hf, eFile, eScopes, eIdx, sMp, eScope, mget_s, keyedS, keyOkS, nextX, mget_i, hasI_nat, hc, keyedI, hk1, hkok]
      exact ⟨fun y hy => sK_ok _ y hy, hkok, h, s', ⟨hI1, hI2⟩, rfl⟩
     | false =>
      rw [hc] at hI1
      simp only [Bool.false_eq_true, if_false] at hI1
      have hput := put_i hc
      by_cases hto : k = to
      ·rw [if_pos hto] at hI1
       have hto' : ((k : Int) == (to : Int)) = true := by simp [hto]
       simp (maxSteps := 4000000) only [ZE,↓reduceIte,pE,pL,pA,pS,pM,pD, dec_lt h, getD_map h, lt_int h, hx, zN,qT,qG,qL,qH,qN,qB,qE,qO,qA,qM, hw, k9, hf, eFile, eScopes, eIdx, sMp, eScope, mget_s, keyedS, keyOkS, nextX, mget_i, hasI_nat, hc, hput, hto', keyedI, hk1, hkok]
       refine ⟨fun y hy => sK_ok _ y hy, hkok, hkok, [4, 10], [], ?_⟩
       simp only [ZE,↓reduceIte,pE,pL,pA,pS,pM,pD, ← hI1]
      ·rw [if_neg hto] at hI1
       have hto' : ((k : Int) == (to : Int)) = false := by simp; omega
       simp (maxSteps := 4000000) only [ZE,↓reduceIte,pE,pL,pA,pS,pM,pD, dec_lt h, getD_map h, lt_int h, hx, zN,qT,qG,qL,qH,qN,qB,qE,qO,qA,qM, hw, k9, hf, eFile, eScopes, eIdx, sMp, eScope, mget_s, keyedS, keyOkS, nextX, mget_i, hasI_nat, hc, hput, hto', keyedI, hk1, hkok]
       refine ⟨fun y hy => sK_ok _ y hy, hkok, hkok, ?_⟩
       have hsup : sup l s' (s' ++ [k]) := sup_app hk
       have hun := unseen_lt hk hc
       have hle := unseen_le (l := l) hI2.1
       have hcc := ih k (s' ++ [k]) hk (hsup.2 hs') (by omega)
       have hsr := reach_sup l to n k (s' ++ [k])
       obtain ⟨⟨b, s2⟩, hr⟩ : ∃ r, reach l to n k (s' ++ [k]) = r := ⟨_, rfl⟩
       rw [hr] at hcc hI1 hsr
       simp only [ZE,↓reduceIte,pE,pL,pA,pS,pM,pD, eFile, eScopes, eIdx, sMp, eScope, mget_s, keyedS, keyOkS] at hcc
       refine EFn.g ⟨[(0, 0), (1, 1)], _, _, _, hcc, ?_⟩
       simp only [ZE,↓reduceIte,pE,pL,pA,pS,pM,pD, eFile, eScopes, eIdx, sMp, eScope, mget_s, keyedS, keyOkS]
       rintro V ol new ⟨rfl, rfl, rfl⟩
       cases b with
       | true =>
        simp only [ZE,↓reduceIte,pE,pL,pA,pS,pM,pD, eFile, eScopes, eIdx, sMp, eScope, mget_s, keyedS, keyOkS]
        refine ⟨[4, 10], [], ?_⟩
        simp only at hI1
        simp only [ZE,↓reduceIte,pE,pL,pA,pS,pM,pD, ← hI1]
       | false =>
        simp only [ZE,↓reduceIte,pE,pL,pA,pS,pM,pD, eFile, eScopes, eIdx, sMp, eScope, mget_s, keyedS, keyOkS, hw, nextX]
        exact ⟨h, s2, ⟨hI1, sup_trans hI2 (sup_trans hsup hsr)⟩, rfl⟩
   ·have hin : instOf l x = none := by unfold instOf; rw [if_neg k9]
    have k9' : (x.kind.1 != 9) = true := by simpa using k9
    rw [hin] at hI1
    have hkok := iK_ok s' (fun n hn => Nat.le_trans (Nat.le_of_lt (hs' n hn)) hll)
    cases hf : get (idxs l) x.of with
    | none =>
     simp (maxSteps := 4000000) only [ZE,↓reduceIte,pE,pL,pA,pS,pM,pD, dec_lt h, getD_map h, lt_int h, hx, zN,qT,qG,qL,qH,qN,qB,qE,qO,qA,qM, hw, k9', hf, eFile, eScopes, eIdx, sMp, eScope, mget_s, keyedS, keyOkS, nextX, mget_i]
     exact ⟨fun y hy => sK_ok _ y hy, h, s', ⟨hI1, hI2⟩, rfl⟩
    | some z =>
     obtain ⟨k, hk, rfl, _⟩ := findM_lt (l := l) (n := x.of) hf
     simp (maxSteps := 4000000) only [ZE,↓reduceIte,pE,pL,pA,pS,pM,pD, dec_lt h, getD_map h, lt_int h, hx, zN,qT,qG,qL,qH,qN,qB,qE,qO,qA,qM, hw, k9', hf, eFile, eScopes, eIdx, sMp, eScope, mget_s, keyedS, keyOkS, nextX, mget_i]
     exact ⟨fun y hy => sK_ok _ y hy, h, s', ⟨hI1, hI2⟩, rfl⟩
  ·have : j = m.items.length := by omega
   subst this
   rw [List.drop_length, reachI] at hI1
   simp (maxSteps := 4000000) only [ZE,↓reduceIte,pE,pL,pA,pS,pM,pD, dec_ge h, eFile, eScopes, eIdx, sMp, eScope, mget_s, keyedS, keyOkS]
   refine ⟨[4], [], ?_⟩
   simp only [ZE,↓reduceIte,pE,pL,pA,pS,pM,pD, ← hI1]
end Go.Proofs.Ytejpmjnefokdoaa

namespace Go.Proofs.Ytejpmjnefokdoaa
open Go.Aw
open Nat renaming reduceEqDiff → pE, reduceLT → pL, reduceAdd → pA, reduceSub → pS, reduceMul → pM, reduceLeDiff → pD
open Int renaming reduceToNat → qT, reduceGT → qG, reduceLT → qL, reduceGE → qH, reduceBNe → qN, reduceBEq → qB, reduceLE → qE, reduceNe → qO, reduceAdd → qA, reduceNeg → qM
set_option maxRecDepth 100000
set_option maxHeartbeats 1000000
/-! ### Maps whose keys are problems -/
theorem keyedP : Keyed' Try.prog 42 := Go.Maps.Keyed.of_law (deep_law_laid (P := Try.prog) (by kernel_rfl) (m := 3) (by omega) (Nat.le_of_ble_eq_true (by kernel_rfl)) (by kernel_rfl) (by kernel_rfl))
def probIn (p : Problem) : Prop := (Lit.int .i64 p.code).wf = true ∧ (Lit.int .i64 p.module).wf = true ∧ (Lit.int .i64 p.item).wf = true
def fsOf (P : Program) (t : TypeId) : Option (List (TypeId × Nat) × Bool) := match P.underlying t with
 | some (.struct fs) => some (fs.toList.map fun f => (f.type, f.offset), fs.all (·.name != "_"))
 | _ => none
theorem fsP : fsOf Try.prog 42 = some ([(3, 0), (3, 1), (3, 2)], true) := by kernel_rfl
theorem keyP : Try.prog.keyType 42 = true := by kernel_rfl
theorem cellsP : Try.prog.cellsOf 42 = 3 := by kernel_rfl
theorem cellsI : Try.prog.cellsOf 3 = 1 := by kernel_rfl
theorem sizeT : ∃ n, Try.prog.types.size = n + 1 := ⟨_, (by kernel_rfl : Try.prog.types.size = (Try.prog.types.size - 1) + 1)⟩
def eKey (p : Problem) : D := .agg (eProb p)
theorem keyOk_prob {p : Problem} (h : probIn p) : KeyOk Try.prog 42 (eKey p) := by
 have hf := fsP
 unfold fsOf at hf
 split at hf
 ·rename_i fs hu
  simp only [Option.some.injEq, Prod.mk.injEq] at hf
  obtain ⟨h1, h2⟩ := hf
  obtain ⟨n, hn⟩ := sizeT
  have hmap : ∀ (g : TypeId × Nat → Option (List Lit)), fs.toList.mapM (fun f => g (f.type, f.offset)) = List.mapM g [(3, 0), (3, 1), (3, 2)] := by
   intro g
   rw [← h1, List.mapM_map]
   rfl
  have one : ∀ x, (Lit.int .i64 x).wf = true → Try.prog.keyLits (n + 1) 3 [Value.int .i64 x] = some [Lit.int .i64 x] := by
   intro x hx
   simp [Program.keyLits, tU3, hx]
  have : Try.prog.keyLits (Try.prog.types.size + 1) 42 [Value.int .i64 p.code, .int .i64 p.module, .int .i64 p.item] = some [.int .i64 p.code, .int .i64 p.module, .int .i64 p.item] := by
   rw [hn]
   unfold Program.keyLits
   rw [hu]
   simp only [List.length_cons, List.length_nil, cellsP, h2, and_self, if_true]
   have := hmap (fun x => Program.keyLits Try.prog (n + 1) x.1 ((List.drop x.2 [Value.int .i64 p.code, .int .i64 p.module, .int .i64 p.item]).take (Try.prog.cellsOf x.1)))
   simp only at this
   rw [this]
   simp [cellsI, one _ h.1, one _ h.2.1, one _ h.2.2]
  refine ⟨.agg #[.int .i64 p.code, .int .i64 p.module, .int .i64 p.item], .string (keyBytes [.int .i64 p.code, .int .i64 p.module, .int .i64 p.item]), rfl, ?_⟩
  have hform : Value.formed Try.prog 42 (.agg #[.int .i64 p.code, .int .i64 p.module, .int .i64 p.item]) = true := by
   simp [Value.formed, hu, cellsP]
  unfold keyOf
  rw [hu]
  simp only [keyP, hform, Bool.and_self, if_true]
  have hc : (Value.agg #[.int .i64 p.code, .int .i64 p.module, .int .i64 p.item]).cells.toList = [Value.int .i64 p.code, .int .i64 p.module, .int .i64 p.item] := rfl
  rw [hc, this]
  rfl
 ·cases hf
theorem eKey_inj {p q : Problem} (h : eKey p = eKey q) : p = q := by
 obtain ⟨a, b, c⟩ := p
 obtain ⟨a', b', c'⟩ := q
 simp [eKey, eProb, eI] at h
 simp [h]
def pK (l : List Problem) : List D := l.map eKey
def pV (l : List Problem) : List D := l.map fun _ => D.lit (.bool true)
def pMap (l : List Problem) : AO := .map (pK l) (pV l) (List.range l.length) l.length
def addP (l : List Problem) (p : Problem) : List Problem := if p ∈ l then l else l ++ [p]
def addIf (l : List Problem) (b : Bool) (p : Problem) : List Problem := if b = true then addP l p else l
theorem addP_in {l : List Problem} {p : Problem} (h : ∀ q ∈ l, probIn q) (hp : probIn p) : ∀ q ∈ addP l p, probIn q := by
 intro q hq
 unfold addP at hq
 split at hq
 ·exact h q hq
 ·rcases List.mem_append.1 hq with hq | hq
  ·exact h q hq
  ·simp at hq; subst hq; exact hp
theorem addIf_in {l : List Problem} {b : Bool} {p : Problem} (h : ∀ q ∈ l, probIn q) (hp : probIn p) : ∀ q ∈ addIf l b p, probIn q := by
 unfold addIf
 split
 ·exact addP_in h hp
 ·exact h
theorem pK_ok {l : List Problem} (h : ∀ q ∈ l, probIn q) : ∀ y ∈ pK l, KeyOk Try.prog 42 y := by
 intro y hy
 obtain ⟨q, hq, rfl⟩ := List.mem_map.1 hy
 exact keyOk_prob (h q hq)
theorem put_p (l : List Problem) (p : Problem) : AO.map (putK (pK l) (eKey p)) (putV (pK l) (pV l) (eKey p) (.lit (.bool true))) (putB (pK l) (List.range l.length) l.length (eKey p)) (putC (pK l) l.length (eKey p)) = pMap (addP l p) := by
 have hmem : eKey p ∈ pK l ↔ p ∈ l := by
  constructor
  ·intro h
   obtain ⟨q, hq, e⟩ := List.mem_map.1 h
   rw [← eKey_inj e]; exact hq
  ·intro h; exact List.mem_map_of_mem h
 unfold addP
 by_cases h : p ∈ l
 ·rw [if_pos h]
  have hlt := kidx_lt.2 (hmem.2 h)
  have hset : (pV l).set (kidx (pK l) (eKey p)) (D.lit (.bool true)) = pV l := by
   apply List.ext_getElem (by simp)
   intro i h1 h2
   rw [List.getElem_set]
   split
   ·simp [pV]
   ·rfl
  simp only [putK, putV, putB, putC, if_pos hlt, hset, pMap]
 ·rw [if_neg h]
  have hn : eKey p ∉ pK l := fun h' => h (hmem.1 h')
  have hk : ¬ kidx (pK l) (eKey p) < (pK l).length := fun h' => hn (kidx_lt.1 h')
  rw [putK_new hn, putV_new hn, putB, putC, if_neg hk, if_neg hk]
  simp only [pMap, pK, pV, List.map_append, List.map_cons, List.map_nil, List.length_append, List.length_cons, List.length_nil, Nat.zero_add, List.range_succ]
theorem report_c (l : List Module) (F : List Problem) (hF : ∀ q ∈ F, probIn q) (b : Bool) (p : Problem) (hp : probIn p) :
  FnL Try.prog 47 [.agg [.d (eScopes l), .d (eIdx l), .mo 1], .d (eI p.code), .d (eI p.module), .d (eI p.item), .d (eB b)] [(1, pMap F)] (fun V ol new => V = .tup [] ∧ ol = [(1, pMap (addIf F b p))] ∧ new = []) := by
 have hput := put_p F p
 have hk := keyOk_prob hp
 simp only [eKey, ZE,↓reduceIte,pE,pL,pA,pS,pM,pD, pMap] at hput hk
 refine FnL.of_eC (own := []) (fun _ => []) [0] mixed Try.func47 rfl Try.call47 Try.ntmps47 (Nat.le_of_ble_eq_true rfl) Try.results47 ?_
 cases b with
 | true =>
  simp (maxSteps := 4000000) only [ZE,↓reduceIte,pE,pL,pA,pS,pM,pD, pMap, keyedP, hk, hput, eFile, eScopes, eIdx, sMp, eScope, mget_s, keyedS, keyOkS]
  refine ⟨pK_ok hF, [5], [], ?_⟩
  simp only [ZE,↓reduceIte,pE,pL,pA,pS,pM,pD, addIf, eFile, eScopes, eIdx, sMp, eScope, mget_s, keyedS, keyOkS]
 | false =>
  simp (maxSteps := 4000000) only [ZE,↓reduceIte,pE,pL,pA,pS,pM,pD, pMap, eFile, eScopes, eIdx, sMp, eScope, mget_s, keyedS, keyOkS]
  refine ⟨[5], [], ?_⟩
  simp only [ZE,↓reduceIte,pE,pL,pA,pS,pM,pD, addIf, eFile, eScopes, eIdx, sMp, eScope, mget_s, keyedS, keyOkS]
/-! ### Heads -/
def badPar (ps : List Str) (k : Nat) : Bool := !isName (ps.getD k emp).1 || has (ps.take k) (ps.getD k emp)
def badHd (l : List Module) (i : Nat) (m : Module) : Bool := !isName m.name.1 || !isName m.clock.1 || decide ((findM l m.name).getD 0 < (i : Int))
def badHead (l : List Module) (i : Nat) (m : Module) : Bool := badHd l i m || (List.range m.params.length).any (badPar m.params)
def loops (l : List Module) (i : Nat) : Bool := (reach l i (l.length + 1) i []).1
def headF (l : List Module) (i : Nat) (m : Module) (F : List Problem) : List Problem := addIf (addIf F (badHead l i m) ⟨1, i, -1⟩) (loops l i) ⟨7, i, -1⟩
theorem wf_nat {n : Nat} (h : n ≤ 9223372036854775807) : (Lit.int .i64 (n : Int)).wf = true := by
 simp only [Lit.wf, Bool.and_eq_true, decide_eq_true_eq]
 have h1 : IntKind.i64.min = -9223372036854775808 := by decide
 have h2 : IntKind.i64.max = 9223372036854775807 := by decide
 rw [h1, h2]
 omega
theorem head_c (l : List Module) (i : Nat) (m : Module) (hok : D.ok (eScopes l)) (hm : D.okL (eModule m)) (hi : i < l.length) (F : List Problem) (hF : ∀ q ∈ F, probIn q) :
  FnL Try.prog 33 [.agg [.d (eScopes l), .d (eIdx l), .mo 1], .d (eI i), .d (.agg (eModule m))] [(1, pMap F)] (fun V ol new => V = .tup [] ∧ ol = [(1, pMap (headF l i m F))] ∧ new = []) := by
 have hll : l.length ≤ 9223372036854775807 := (ok_map hok).1
 have hpl : m.params.length ≤ 9223372036854775807 := by
  simp only [eModule, D.okL] at hm
  exact (ok_map hm.2.2.1).1
 refine FnL.of_eC (own := []) (fun i => if i = 2007 then [] else if i = 2008 then [.ord ⟨[(0, none), (1, none), (2, none), (3, none), (4, none), (5, some [0, 1, 2, 3, 4]), (6, some [0, 1]), (7, some [])]⟩] else chL i) [0] mixed Try.func33 rfl Try.call33 Try.ntmps33 (Nat.le_of_ble_eq_true rfl) Try.results33 ?_
 have n1 := name_c' m.name.1
 have n2 := name_c' m.clock.1
 simp only [ZE,↓reduceIte,pE,pL,pA,pS,pM,pD] at n1 n2
 simp (maxSteps := 4000000) only [ZE,↓reduceIte,pE,pL,pA,pS,pM,pD, eFile, eScopes, eIdx, sMp, eScope, mget_s, keyedS, keyOkS, zN,qT,qG,qL,qH,qN,qB,qE,qO,qA,qM, pMap]
 refine EFn.p ?_
 simp only [ZE,↓reduceIte,pE,pL,pA,pS,pM,pD, eFile, eScopes, eIdx, sMp, eScope, mget_s, keyedS, keyOkS, zN,qT,qG,qL,qH,qN,qB,qE,qO,qA,qM]
 refine ECall.i n1 ?_
 simp only [ZE,↓reduceIte,pE,pL,pA,pS,pM,pD, eFile, eScopes, eIdx, sMp, eScope, mget_s, keyedS, keyOkS, zN,qT,qG,qL,qH,qN,qB,qE,qO,qA,qM]
 refine ECallC.i (fun _ => n2) ?_
 simp only [ZE,↓reduceIte,pE,pL,pA,pS,pM,pD, eFile, eScopes, eIdx, sMp, eScope, mget_s, keyedS, keyOkS, zN,qT,qG,qL,qH,qN,qB,qE,qO,qA,qM, getD_eI]
 refine ⟨fun _ y hy => sK_ok _ y hy, ?_⟩
 refine eloop (fun i => if i = 2007 then [] else if i = 2008 then [.ord ⟨[(0, none), (1, none), (2, none), (3, none), (4, none), (5, some [0, 1, 2, 3, 4]), (6, some [0, 1]), (7, some [])]⟩] else chL i) mixed m.params.length (fun _ => True) (fun j => ([(0, .agg [.d (eScopes l), .d (eIdx l), .mo 1]), (1, .d (eI i)), (3, .bp 3 0), (5, .bp 5 0), (6, .d (eB (badHd l i m || (List.range j).any (badPar m.params)))), (29, .d (eStrs m.params)), (30, .d (eI m.params.length)), (31, .d (eI j))],
  [(5, .box ((eModule m).map .d)), (3, .box [.d (eScopes l), .d (eIdx l), .mo 1]), (1, pMap F)])) trivial ?_ ?_ (fun j hj _ => ?_)
 ·simp only [ZE,↓reduceIte,pE,pL,pA,pS,pM,pD, eFile, eScopes, eIdx, sMp, eScope, mget_s, keyedS, keyOkS, badHd, List.range_zero, List.any_nil, findM]
  rfl
 ·simp only [ZE,↓reduceIte,pE,pL,pA,pS,pM,pD, eFile, eScopes, eIdx, sMp, eScope, mget_s, keyedS, keyOkS, pMap]
 rcases Nat.lt_or_ge j m.params.length with h | h
 ·have hw := wrap_succ (show j < 9223372036854775807 by omega)
  have hg : m.params.getD j emp = m.params[j] := by simp [List.getD, h]
  have n3 := name_c' m.params[j].1
  have c3 := containsS_c (m.params.take j) m.params[j]
  simp only [ZE,↓reduceIte,pE,pL,pA,pS,pM,pD] at n3 c3
  obtain ⟨B, hB⟩ : ∃ B, (badHd l i m || (List.range j).any (badPar m.params)) = B := ⟨_, rfl⟩
  have hs : (badHd l i m || (List.range (j + 1)).any (badPar m.params)) = (B || !isName m.params[j].1 || has (m.params.take j) m.params[j]) := by
   rw [List.range_succ, List.any_append, ← Bool.or_assoc, hB]
   simp only [List.any_cons, List.any_nil, Bool.or_false, badPar, hg, Bool.or_assoc]
  rw [hB, hs]
  simp (maxSteps := 4000000) only [ZE,↓reduceIte,pE,pL,pA,pS,pM,pD, dec_lt h, getD_map h, lt_int h, hw, zN,qT,qG,qL,qH,qN,qB,qE,qO,qA,qM, eFile, eScopes, eIdx, sMp, eScope, mget_s, keyedS, keyOkS, pMap]
  refine ECallC.i (fun _ => n3) ?_
  simp only [ZE,↓reduceIte,pE,pL,pA,pS,pM,pD, eFile, eScopes, eIdx, sMp, eScope, mget_s, keyedS, keyOkS, zN,qT,qG,qL,qH,qN,qB,qE,qO,qA,qM, ← List.map_take, Nat.sub_zero]
  refine ⟨fun _ => ⟨fun e he => ?_, by omega, by omega, by omega⟩, ECallC.i (fun _ => c3) ?_⟩
  ·obtain ⟨q, _, rfl⟩ := List.mem_map.1 he; rfl
  simp only [ZE,↓reduceIte,pE,pL,pA,pS,pM,pD, eFile, eScopes, eIdx, sMp, eScope, mget_s, keyedS, keyOkS, zN,qT,qG,qL,qH,qN,qB,qE,qO,qA,qM]
  exact h
 ·have : j = m.params.length := by omega
  subst this
  have hbad : (badHd l i m || (List.range m.params.length).any (badPar m.params)) = badHead l i m := rfl
  rw [hbad]
  have r1 := report_c l F hF (badHead l i m) ⟨1, i, -1⟩ ⟨rfl, wf_nat (by omega), rfl⟩
  have r2 := report_c l (addIf F (badHead l i m) ⟨1, i, -1⟩) (addIf_in hF ⟨rfl, wf_nat (by omega), rfl⟩) (loops l i) ⟨7, i, -1⟩ ⟨rfl, wf_nat (by omega), rfl⟩
  simp only [ZE,↓reduceIte,pE,pL,pA,pS,pM,pD, eFile, eScopes, eIdx, sMp, eScope, mget_s, keyedS, keyOkS, pMap, loops] at r1 r2
  simp (maxSteps := 4000000) only [ZE,↓reduceIte,pE,pL,pA,pS,pM,pD, dec_ge h, eFile, eScopes, eIdx, sMp, eScope, mget_s, keyedS, keyOkS, pMap]
  refine EFn.g ⟨[(1, 1)], _, _, _, r1, ?_⟩
  simp only [ZE,↓reduceIte,pE,pL,pA,pS,pM,pD, eFile, eScopes, eIdx, sMp, eScope, mget_s, keyedS, keyOkS]
  rintro V ol new ⟨rfl, rfl, rfl⟩
  have rc := reach_c l (pK (addIf F (badHead l i m) ⟨1, i, -1⟩)) (pV (addIf F (badHead l i m) ⟨1, i, -1⟩)) (List.range (addIf F (badHead l i m) ⟨1, i, -1⟩).length) (addIf F (badHead l i m) ⟨1, i, -1⟩).length i hok (l.length + 1) i [] hi (by simp) (Nat.lt_succ_of_le (by
   simp [unseen]))
  have e0 : iK [] = [] := rfl
  have e1 : iV [] = [] := rfl
  simp only [ZE,↓reduceIte,pE,pL,pA,pS,pM,pD, eFile, eScopes, eIdx, sMp, eScope, mget_s, keyedS, keyOkS, e0, e1, List.length_nil, List.range_zero] at rc
  simp (maxSteps := 4000000) only [ZE,↓reduceIte,pE,pL,pA,pS,pM,pD, eFile, eScopes, eIdx, sMp, eScope, mget_s, keyedS, keyOkS]
  refine ⟨by kernel_rfl, EFn.g ⟨[(0, 60), (1, 1)], _, _, _, rc, ?_⟩⟩
  simp only [ZE,↓reduceIte,pE,pL,pA,pS,pM,pD, eFile, eScopes, eIdx, sMp, eScope, mget_s, keyedS, keyOkS]
  rintro V ol new ⟨rfl, rfl, rfl⟩
  simp only [ZE,↓reduceIte,pE,pL,pA,pS,pM,pD, eFile, eScopes, eIdx, sMp, eScope, mget_s, keyedS, keyOkS]
  refine EFn.g ⟨[(1, 1)], _, _, _, r2, ?_⟩
  simp only [ZE,↓reduceIte,pE,pL,pA,pS,pM,pD, eFile, eScopes, eIdx, sMp, eScope, mget_s, keyedS, keyOkS]
  rintro V ol new ⟨rfl, rfl, rfl⟩
  simp only [ZE,↓reduceIte,pE,pL,pA,pS,pM,pD, eFile, eScopes, eIdx, sMp, eScope, mget_s, keyedS, keyOkS]
  refine ⟨[3, 5, 60], [], ?_⟩
  simp only [ZE,↓reduceIte,pE,pL,pA,pS,pM,pD, headF, loops]
end Go.Proofs.Ytejpmjnefokdoaa
