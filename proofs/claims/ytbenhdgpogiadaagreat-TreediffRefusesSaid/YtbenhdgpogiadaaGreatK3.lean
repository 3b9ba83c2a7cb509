/-
 CONTRACTS of the functions that the law reaches, and plain laws on what they compute. Conditions: those of each law.
-/
import Derived.Test.YtbenhdgpogiadaaGreatK2
import Derived.Test.YtbenhdgpogiadaaGreatK1
import Derived.WalkKit
import Derived.Shelf.RegionOpenPlain
import Derived.Shelf.SlSortCmp.QuietGrown
import Derived.StillTailTactics
import Derived.Handy
import Derived.Laws.Cover1
import Derived.Laws.Rows
import Derived.Shelf.SlicesQ.Load
import Derived.Below
import Derived.Test.YtbenhdgpogiadaaGreatGSr
import Derived.Ground.SlsfProg
set_option linter.unusedSimpArgs false
set_option linter.unusedVariables false
namespace Go.Proofs.YtbenhdgpogiadaaGreat
open Go.Aw
open Nat renaming reduceEqDiff → pE, reduceLT → pL, reduceAdd → pA, reduceSub → pS, reduceMul → pM, reduceLeDiff → pD
open Int renaming reduceToNat → qT, reduceGT → qG, reduceLT → qL, reduceGE → qH, reduceBNe → qN, reduceBEq → qB, reduceLE → qE, reduceNe → qO, reduceAdd → qA, reduceNeg → qM
set_option maxRecDepth 100000
set_option maxHeartbeats 20000000
/-- Lists equal, element by element. -/
def eqL {α : Type} (p : α → α → Bool) : List α → List α → Bool
 | [], [] => true
 | x :: a, y :: b => p x y && eqL p a b
 | _, _ => false
theorem eqL_len {α : Type} {p : α → α → Bool} : ∀ {a b : List α}, a.length ≠ b.length → eqL p a b = false
 | [], [], h => absurd rfl h
 | [], _ :: _, _ => rfl
 | _ :: _, [], _ => rfl
 | x :: a, y :: b, h => by
  rw [eqL, eqL_len (a := a) (b := b) (by simpa using h), Bool.and_false]
theorem eqL_bad {α : Type} {p : α → α → Bool} : ∀ {a b : List α} {i : Nat} (h : i < a.length) (h' : i < b.length), p a[i] b[i] = false → eqL p a b = false
 | x :: a, y :: b, 0, _, _, hp => by rw [eqL]; simp only [List.getElem_cons_zero] at hp; rw [hp]; rfl
 | x :: a, y :: b, i + 1, h, h', hp => by
  rw [eqL, eqL_bad (a := a) (b := b) (i := i) (by simpa using h) (by simpa using h') (by simpa using hp), Bool.and_false]
theorem eqL_good {α : Type} {p : α → α → Bool} : ∀ {a b : List α}, a.length = b.length → (∀ i (h : i < a.length) (h' : i < b.length), p a[i] b[i] = true) → eqL p a b = true
 | [], [], _, _ => rfl
 | [], _ :: _, h, _ => by simp at h
 | _ :: _, [], h, _ => by simp at h
 | x :: a, y :: b, h, hp => by
  have h0 := hp 0 (by simp) (by simp)
  simp only [List.getElem_cons_zero] at h0
  rw [eqL, h0, eqL_good (by simpa using h) (fun i h1 h2 => by
   have := hp (i + 1) (by rw [List.length_cons]; omega) (by rw [List.length_cons]; omega)
   simpa only [List.getElem_cons_succ] using this)]; rfl
theorem eqL_dec {α : Type} [DecidableEq α] : ∀ a b : List α, eqL (fun x y => decide (x = y)) a b = decide (a = b)
 | [], [] => by simp [eqL]
 | [], _ :: _ => by simp [eqL]
 | _ :: _, [] => by simp [eqL]
 | x :: a, y :: b => by rw [eqL, eqL_dec a b, Bool.eq_iff_iff]; simp
theorem eqfExpr_c (a b : List Expr) (hla : a.length ≤ 9223372036854775807) (g : Nat) (p : Expr → Expr → Bool) (hf : ∀ x ∈ a, ∀ y ∈ b, FnP Tryz.prog g [.agg (eExpr x), .agg (eExpr y)] (.d (eB (p x y))) []) : FnP Tryz.prog 168 [.sl (a.map eExpr), .sl (b.map eExpr), .clo (.func g) [] []] (.d (eB (eqL p a b))) [] := by
 refine FnP.of_eC (own := []) (fun _ => []) mixed Tryz.func168 rfl Tryz.call168 Tryz.ntmps168 (Nat.le_of_ble_eq_true rfl) Tryz.results168 (fun hok => ?_)
 by_cases hab : a.length = b.length
 ·have h0 : ((a.length : Int) != (b.length : Int)) = false := by simp [hab]
  simp (maxSteps := 4000000) only [ZE,↓reduceIte,pE,pL,pA,pS,pM,pD, zN,qT,qG,qL,qH,qN,qB,qE,qO,qA,qM, h0, List.length_map]
  refine eloop (fun _ => []) mixed a.length (fun i => ∀ j (h : j < a.length) (h' : j < b.length), j < i → p a[j] b[j] = true) (fun i => ([(1, .d (.sl (b.map eExpr))), (2, .d (.clo (.func g) [] [])), (15, .d (.sl (a.map eExpr))), (16, .d (eI a.length)), (17, .d (eI i))], [])) (by intro j _ _ h; omega) (by simp only [ZE,↓reduceIte,pE,pL,pA,pS,pM,pD, zN,qT,qG,qL,qH,qN,qB,qE,qO,qA,qM, List.length_map]) (by simp only [ZE,↓reduceIte,pE,pL,pA,pS,pM,pD]) (fun i hi hI => ?_)
  rcases Nat.lt_or_ge i a.length with h | h
  ·have hw := wrap_succ (show i < 9223372036854775807 by omega)
   have h' : i < b.length := by omega
   have hc := hf a[i] (List.getElem_mem h) b[i] (List.getElem_mem h')
   obtain ⟨q, hq⟩ : ∃ q, p a[i] b[i] = q := ⟨_, rfl⟩
   rw [hq] at hc
   simp only [ZE,↓reduceIte,pE,pL,pA,pS,pM,pD] at hc
   simp (maxSteps := 4000000) only [ZE,↓reduceIte,pE,pL,pA,pS,pM,pD, dec_lt h, getD_map h, lt_int h, getD_map h', lt_int h', hw, zN,qT,qG,qL,qH,qN,qB,qE,qO,qA,qM, List.length_map]
   refine EFn.p ?_
   simp only [ZE,↓reduceIte,pE,pL,pA,pS,pM,pD, zN,qT,qG,qL,qH,qN,qB,qE,qO,qA,qM]
   refine ECall.i hc ?_
   cases q with
   | true =>
    simp only [ZE,↓reduceIte,pE,pL,pA,pS,pM,pD, zN,qT,qG,qL,qH,qN,qB,qE,qO,qA,qM, hw]
    refine ⟨h, fun j h1 h2 hj => ?_⟩
    rcases Nat.lt_succ_iff_lt_or_eq.1 hj with hj | rfl
    ·exact hI j h1 h2 hj
    ·exact hq
   | false =>
    have e := eqL_bad h h' hq
    simp only [ZE,↓reduceIte,pE,pL,pA,pS,pM,pD, zN,qT,qG,qL,qH,qN,qB,qE,qO,qA,qM, e]
  ·have : i = a.length := by omega
   subst this
   have e := eqL_good hab (fun i h1 h2 => hI i h1 h2 h1)
   simp (maxSteps := 4000000) only [ZE,↓reduceIte,pE,pL,pA,pS,pM,pD, dec_ge h, zN,qT,qG,qL,qH,qN,qB,qE,qO,qA,qM, e]
 ·have h0 : ((a.length : Int) != (b.length : Int)) = true := by simp; omega
  have e := eqL_len (p := p) hab
  simp (maxSteps := 4000000) only [ZE,↓reduceIte,pE,pL,pA,pS,pM,pD, zN,qT,qG,qL,qH,qN,qB,qE,qO,qA,qM, h0, e, List.length_map]
theorem eqfItem_c (a b : List Item) (hla : a.length ≤ 9223372036854775807) (g : Nat) (p : Item → Item → Bool) (hf : ∀ x ∈ a, ∀ y ∈ b, FnP Tryz.prog g [.agg (eItem x), .agg (eItem y)] (.d (eB (p x y))) []) : FnP Tryz.prog 62 [.sl (a.map eItem), .sl (b.map eItem), .clo (.func g) [] []] (.d (eB (eqL p a b))) [] := by
 refine FnP.of_eC (own := []) (fun _ => []) mixed Tryz.func62 rfl Tryz.call62 Tryz.ntmps62 (Nat.le_of_ble_eq_true rfl) Tryz.results62 (fun hok => ?_)
 by_cases hab : a.length = b.length
 ·have h0 : ((a.length : Int) != (b.length : Int)) = false := by simp [hab]
  simp (maxSteps := 4000000) only [ZE,↓reduceIte,pE,pL,pA,pS,pM,pD, zN,qT,qG,qL,qH,qN,qB,qE,qO,qA,qM, h0, List.length_map]
  refine eloop (fun _ => []) mixed a.length (fun i => ∀ j (h : j < a.length) (h' : j < b.length), j < i → p a[j] b[j] = true) (fun i => ([(1, .d (.sl (b.map eItem))), (2, .d (.clo (.func g) [] [])), (15, .d (.sl (a.map eItem))), (16, .d (eI a.length)), (17, .d (eI i))], [])) (by intro j _ _ h; omega) (by simp only [ZE,↓reduceIte,pE,pL,pA,pS,pM,pD, zN,qT,qG,qL,qH,qN,qB,qE,qO,qA,qM, List.length_map]) (by simp only [ZE,↓reduceIte,pE,pL,pA,pS,pM,pD]) (fun i hi hI => ?_)
  rcases Nat.lt_or_ge i a.length with h | h
  ·have hw := wrap_succ (show i < 9223372036854775807 by omega)
   have h' : i < b.length := by omega
   have hc := hf a[i] (List.getElem_mem h) b[i] (List.getElem_mem h')
   obtain ⟨q, hq⟩ : ∃ q, p a[i] b[i] = q := ⟨_, rfl⟩
   rw [hq] at hc
   simp only [ZE,↓reduceIte,pE,pL,pA,pS,pM,pD] at hc
   simp (maxSteps := 4000000) only [ZE,↓reduceIte,pE,pL,pA,pS,pM,pD, dec_lt h, getD_map h, lt_int h, getD_map h', lt_int h', hw, zN,qT,qG,qL,qH,qN,qB,qE,qO,qA,qM, List.length_map]
   refine EFn.p ?_
   simp only [ZE,↓reduceIte,pE,pL,pA,pS,pM,pD, zN,qT,qG,qL,qH,qN,qB,qE,qO,qA,qM]
   refine ECall.i hc ?_
   cases q with
   | true =>
    simp only [ZE,↓reduceIte,pE,pL,pA,pS,pM,pD, zN,qT,qG,qL,qH,qN,qB,qE,qO,qA,qM, hw]
    refine ⟨h, fun j h1 h2 hj => ?_⟩
    rcases Nat.lt_succ_iff_lt_or_eq.1 hj with hj | rfl
    ·exact hI j h1 h2 hj
    ·exact hq
   | false =>
    have e := eqL_bad h h' hq
    simp only [ZE,↓reduceIte,pE,pL,pA,pS,pM,pD, zN,qT,qG,qL,qH,qN,qB,qE,qO,qA,qM, e]
  ·have : i = a.length := by omega
   subst this
   have e := eqL_good hab (fun i h1 h2 => hI i h1 h2 h1)
   simp (maxSteps := 4000000) only [ZE,↓reduceIte,pE,pL,pA,pS,pM,pD, dec_ge h, zN,qT,qG,qL,qH,qN,qB,qE,qO,qA,qM, e]
 ·have h0 : ((a.length : Int) != (b.length : Int)) = true := by simp; omega
  have e := eqL_len (p := p) hab
  simp (maxSteps := 4000000) only [ZE,↓reduceIte,pE,pL,pA,pS,pM,pD, zN,qT,qG,qL,qH,qN,qB,qE,qO,qA,qM, h0, e, List.length_map]
theorem eqfModule_c (a b : List Module) (hla : a.length ≤ 9223372036854775807) (g : Nat) (p : Module → Module → Bool) (hf : ∀ x ∈ a, ∀ y ∈ b, FnP Tryz.prog g [.agg (eModule x), .agg (eModule y)] (.d (eB (p x y))) []) : FnP Tryz.prog 59 [.sl (a.map eModule), .sl (b.map eModule), .clo (.func g) [] []] (.d (eB (eqL p a b))) [] := by
 refine FnP.of_eC (own := []) (fun _ => []) mixed Tryz.func59 rfl Tryz.call59 Tryz.ntmps59 (Nat.le_of_ble_eq_true rfl) Tryz.results59 (fun hok => ?_)
 by_cases hab : a.length = b.length
 ·have h0 : ((a.length : Int) != (b.length : Int)) = false := by simp [hab]
  simp (maxSteps := 4000000) only [ZE,↓reduceIte,pE,pL,pA,pS,pM,pD, zN,qT,qG,qL,qH,qN,qB,qE,qO,qA,qM, h0, List.length_map]
  refine eloop (fun _ => []) mixed a.length (fun i => ∀ j (h : j < a.length) (h' : j < b.length), j < i → p a[j] b[j] = true) (fun i => ([(1, .d (.sl (b.map eModule))), (2, .d (.clo (.func g) [] [])), (15, .d (.sl (a.map eModule))), (16, .d (eI a.length)), (17, .d (eI i))], [])) (by intro j _ _ h; omega) (by simp only [ZE,↓reduceIte,pE,pL,pA,pS,pM,pD, zN,qT,qG,qL,qH,qN,qB,qE,qO,qA,qM, List.length_map]) (by simp only [ZE,↓reduceIte,pE,pL,pA,pS,pM,pD]) (fun i hi hI => ?_)
  rcases Nat.lt_or_ge i a.length with h | h
  ·have hw := wrap_succ (show i < 9223372036854775807 by omega)
   have h' : i < b.length := by omega
   have hc := hf a[i] (List.getElem_mem h) b[i] (List.getElem_mem h')
   obtain ⟨q, hq⟩ : ∃ q, p a[i] b[i] = q := ⟨_, rfl⟩
   rw [hq] at hc
   simp only [ZE,↓reduceIte,pE,pL,pA,pS,pM,pD] at hc
   simp (maxSteps := 4000000) only [ZE,↓reduceIte,pE,pL,pA,pS,pM,pD, dec_lt h, getD_map h, lt_int h, getD_map h', lt_int h', hw, zN,qT,qG,qL,qH,qN,qB,qE,qO,qA,qM, List.length_map]
   refine EFn.p ?_
   simp only [ZE,↓reduceIte,pE,pL,pA,pS,pM,pD, zN,qT,qG,qL,qH,qN,qB,qE,qO,qA,qM]
   refine ECall.i hc ?_
   cases q with
   | true =>
    simp only [ZE,↓reduceIte,pE,pL,pA,pS,pM,pD, zN,qT,qG,qL,qH,qN,qB,qE,qO,qA,qM, hw]
    refine ⟨h, fun j h1 h2 hj => ?_⟩
    rcases Nat.lt_succ_iff_lt_or_eq.1 hj with hj | rfl
    ·exact hI j h1 h2 hj
    ·exact hq
   | false =>
    have e := eqL_bad h h' hq
    simp only [ZE,↓reduceIte,pE,pL,pA,pS,pM,pD, zN,qT,qG,qL,qH,qN,qB,qE,qO,qA,qM, e]
  ·have : i = a.length := by omega
   subst this
   have e := eqL_good hab (fun i h1 h2 => hI i h1 h2 h1)
   simp (maxSteps := 4000000) only [ZE,↓reduceIte,pE,pL,pA,pS,pM,pD, dec_ge h, zN,qT,qG,qL,qH,qN,qB,qE,qO,qA,qM, e]
 ·have h0 : ((a.length : Int) != (b.length : Int)) = true := by simp; omega
  have e := eqL_len (p := p) hab
  simp (maxSteps := 4000000) only [ZE,↓reduceIte,pE,pL,pA,pS,pM,pD, zN,qT,qG,qL,qH,qN,qB,qE,qO,qA,qM, h0, e, List.length_map]
theorem key_str (x y : Str) : decide (x.1 = y.1) = decide (x = y) := str_eq x y
theorem equalStr_c (a b : List Str) (hla : a.length ≤ 9223372036854775807) : FnP Tryz.prog 116 [.sl (a.map fun x => [eS x]), .sl (b.map fun x => [eS x])] (.d (eB (decide (a = b)))) [] := by
 rw [← eqL_dec]
 refine FnP.of_eC (own := []) (fun _ => []) mixed Tryz.func116 rfl Tryz.call116 Tryz.ntmps116 (Nat.le_of_ble_eq_true rfl) Tryz.results116 (fun hok => ?_)
 by_cases hab : a.length = b.length
 ·have h0 : ((a.length : Int) != (b.length : Int)) = false := by simp [hab]
  simp (maxSteps := 4000000) only [ZE,↓reduceIte,pE,pL,pA,pS,pM,pD, zN,qT,qG,qL,qH,qN,qB,qE,qO,qA,qM, h0, List.length_map]
  refine eloop (fun _ => []) mixed a.length (fun i => ∀ j (h : j < a.length) (h' : j < b.length), j < i → decide (a[j] = b[j]) = true) (fun i => ([(0, .d (.sl (a.map fun x => [eS x]))), (1, .d (.sl (b.map fun x => [eS x]))), (12, .d (eI a.length)), (13, .d (eI i))], [])) (by intro j _ _ h; omega) (by simp only [ZE,↓reduceIte,pE,pL,pA,pS,pM,pD, zN,qT,qG,qL,qH,qN,qB,qE,qO,qA,qM, List.length_map]) (by simp only [ZE,↓reduceIte,pE,pL,pA,pS,pM,pD]) (fun i hi hI => ?_)
  rcases Nat.lt_or_ge i a.length with h | h
  ·have hw := wrap_succ (show i < 9223372036854775807 by omega)
   have h' : i < b.length := by omega
   have key := key_str a[i] b[i]
   obtain ⟨q, hq⟩ : ∃ q, decide (a[i] = b[i]) = q := ⟨_, rfl⟩
   rw [hq] at key
   simp (maxSteps := 4000000) only [ZE,↓reduceIte,pE,pL,pA,pS,pM,pD, dec_lt h, getD_map h, lt_int h, getD_map h', lt_int h', hw, zN,qT,qG,qL,qH,qN,qB,qE,qO,qA,qM, List.length_map, key]
   refine ⟨by kernel_rfl, ?_⟩
   cases q with
   | true =>
    simp only [ZE,↓reduceIte,pE,pL,pA,pS,pM,pD]
    refine ⟨h, fun j h1 h2 hj => ?_⟩
    rcases Nat.lt_succ_iff_lt_or_eq.1 hj with hj | rfl
    ·exact hI j h1 h2 hj
    ·exact hq
   | false =>
    have e := eqL_bad (p := fun x y : Str => decide (x = y)) h h' hq
    simp only [ZE,↓reduceIte,pE,pL,pA,pS,pM,pD, e]
  ·have : i = a.length := by omega
   subst this
   have e := eqL_good (p := fun x y : Str => decide (x = y)) hab (fun i h1 h2 => hI i h1 h2 h1)
   simp (maxSteps := 4000000) only [ZE,↓reduceIte,pE,pL,pA,pS,pM,pD, dec_ge h, zN,qT,qG,qL,qH,qN,qB,qE,qO,qA,qM, e]
 ·have h0 : ((a.length : Int) != (b.length : Int)) = true := by simp; omega
  have e := eqL_len (p := fun x y : Str => decide (x = y)) hab
  simp (maxSteps := 4000000) only [ZE,↓reduceIte,pE,pL,pA,pS,pM,pD, zN,qT,qG,qL,qH,qN,qB,qE,qO,qA,qM, h0, e, List.length_map]
theorem key_num (x y : Num) : (x.n == y.n && decide (x.p = y.p)) = decide (x = y) := by
 obtain ⟨a, b⟩ := x
 obtain ⟨c, d⟩ := y
 rw [Bool.eq_iff_iff]; simp
theorem key_bind (x y : Bind) : (decide (x.port = y.port) && decide (x.chan = y.chan)) = decide (x = y) := by
 obtain ⟨a, b⟩ := x
 obtain ⟨c, d⟩ := y
 rw [Bool.eq_iff_iff]; simp
theorem equalNum_c (a b : List Num) (hla : a.length ≤ 9223372036854775807) : FnP Tryz.prog 117 [.sl (a.map fun x => eNum x), .sl (b.map fun x => eNum x)] (.d (eB (decide (a = b)))) [] := by
 rw [← eqL_dec]
 refine FnP.of_eC (own := []) (fun _ => []) mixed Tryz.func117 rfl Tryz.call117 Tryz.ntmps117 (Nat.le_of_ble_eq_true rfl) Tryz.results117 (fun hok => ?_)
 by_cases hab : a.length = b.length
 ·have h0 : ((a.length : Int) != (b.length : Int)) = false := by simp [hab]
  simp (maxSteps := 4000000) only [ZE,↓reduceIte,pE,pL,pA,pS,pM,pD, zN,qT,qG,qL,qH,qN,qB,qE,qO,qA,qM, h0, List.length_map]
  refine eloop (fun _ => []) mixed a.length (fun i => ∀ j (h : j < a.length) (h' : j < b.length), j < i → decide (a[j] = b[j]) = true) (fun i => ([(0, .d (.sl (a.map fun x => eNum x))), (1, .d (.sl (b.map fun x => eNum x))), (12, .d (eI a.length)), (13, .d (eI i))], [])) (by intro j _ _ h; omega) (by simp only [ZE,↓reduceIte,pE,pL,pA,pS,pM,pD, zN,qT,qG,qL,qH,qN,qB,qE,qO,qA,qM, List.length_map]) (by simp only [ZE,↓reduceIte,pE,pL,pA,pS,pM,pD]) (fun i hi hI => ?_)
  rcases Nat.lt_or_ge i a.length with h | h
  ·have hw := wrap_succ (show i < 9223372036854775807 by omega)
   have h' : i < b.length := by omega
   have key := key_num a[i] b[i]
   obtain ⟨q, hq⟩ : ∃ q, decide (a[i] = b[i]) = q := ⟨_, rfl⟩
   rw [hq] at key
   simp (maxSteps := 4000000) only [ZE,↓reduceIte,pE,pL,pA,pS,pM,pD, dec_lt h, getD_map h, lt_int h, getD_map h', lt_int h', hw, zN,qT,qG,qL,qH,qN,qB,qE,qO,qA,qM, List.length_map, key]
   refine ⟨by kernel_rfl, ?_⟩
   cases q with
   | true =>
    simp only [ZE,↓reduceIte,pE,pL,pA,pS,pM,pD]
    refine ⟨h, fun j h1 h2 hj => ?_⟩
    rcases Nat.lt_succ_iff_lt_or_eq.1 hj with hj | rfl
    ·exact hI j h1 h2 hj
    ·exact hq
   | false =>
    have e := eqL_bad (p := fun x y : Num => decide (x = y)) h h' hq
    simp only [ZE,↓reduceIte,pE,pL,pA,pS,pM,pD, e]
  ·have : i = a.length := by omega
   subst this
   have e := eqL_good (p := fun x y : Num => decide (x = y)) hab (fun i h1 h2 => hI i h1 h2 h1)
   simp (maxSteps := 4000000) only [ZE,↓reduceIte,pE,pL,pA,pS,pM,pD, dec_ge h, zN,qT,qG,qL,qH,qN,qB,qE,qO,qA,qM, e]
 ·have h0 : ((a.length : Int) != (b.length : Int)) = true := by simp; omega
  have e := eqL_len (p := fun x y : Num => decide (x = y)) hab
  simp (maxSteps := 4000000) only [ZE,↓reduceIte,pE,pL,pA,pS,pM,pD, zN,qT,qG,qL,qH,qN,qB,qE,qO,qA,qM, h0, e, List.length_map]
theorem equalBind_c (a b : List Bind) (hla : a.length ≤ 9223372036854775807) : FnP Tryz.prog 118 [.sl (a.map fun x => eBind x), .sl (b.map fun x => eBind x)] (.d (eB (decide (a = b)))) [] := by
 rw [← eqL_dec]
 refine FnP.of_eC (own := []) (fun _ => []) mixed Tryz.func118 rfl Tryz.call118 Tryz.ntmps118 (Nat.le_of_ble_eq_true rfl) Tryz.results118 (fun hok => ?_)
 by_cases hab : a.length = b.length
 ·have h0 : ((a.length : Int) != (b.length : Int)) = false := by simp [hab]
  simp (maxSteps := 4000000) only [ZE,↓reduceIte,pE,pL,pA,pS,pM,pD, zN,qT,qG,qL,qH,qN,qB,qE,qO,qA,qM, h0, List.length_map]
  refine eloop (fun _ => []) mixed a.length (fun i => ∀ j (h : j < a.length) (h' : j < b.length), j < i → decide (a[j] = b[j]) = true) (fun i => ([(0, .d (.sl (a.map fun x => eBind x))), (1, .d (.sl (b.map fun x => eBind x))), (12, .d (eI a.length)), (13, .d (eI i))], [])) (by intro j _ _ h; omega) (by simp only [ZE,↓reduceIte,pE,pL,pA,pS,pM,pD, zN,qT,qG,qL,qH,qN,qB,qE,qO,qA,qM, List.length_map]) (by simp only [ZE,↓reduceIte,pE,pL,pA,pS,pM,pD]) (fun i hi hI => ?_)
  rcases Nat.lt_or_ge i a.length with h | h
  ·have hw := wrap_succ (show i < 9223372036854775807 by omega)
   have h' : i < b.length := by omega
   have key := key_bind a[i] b[i]
   obtain ⟨q, hq⟩ : ∃ q, decide (a[i] = b[i]) = q := ⟨_, rfl⟩
   rw [hq] at key
   simp (maxSteps := 4000000) only [ZE,↓reduceIte,pE,pL,pA,pS,pM,pD, dec_lt h, getD_map h, lt_int h, getD_map h', lt_int h', hw, zN,qT,qG,qL,qH,qN,qB,qE,qO,qA,qM, List.length_map, key]
   refine ⟨by kernel_rfl, ?_⟩
   cases q with
   | true =>
    simp only [ZE,↓reduceIte,pE,pL,pA,pS,pM,pD]
    refine ⟨h, fun j h1 h2 hj => ?_⟩
    rcases Nat.lt_succ_iff_lt_or_eq.1 hj with hj | rfl
    ·exact hI j h1 h2 hj
    ·exact hq
   | false =>
    have e := eqL_bad (p := fun x y : Bind => decide (x = y)) h h' hq
    simp only [ZE,↓reduceIte,pE,pL,pA,pS,pM,pD, e]
  ·have : i = a.length := by omega
   subst this
   have e := eqL_good (p := fun x y : Bind => decide (x = y)) hab (fun i h1 h2 => hI i h1 h2 h1)
   simp (maxSteps := 4000000) only [ZE,↓reduceIte,pE,pL,pA,pS,pM,pD, dec_ge h, zN,qT,qG,qL,qH,qN,qB,qE,qO,qA,qM, e]
 ·have h0 : ((a.length : Int) != (b.length : Int)) = true := by simp; omega
  have e := eqL_len (p := fun x y : Bind => decide (x = y)) hab
  simp (maxSteps := 4000000) only [ZE,↓reduceIte,pE,pL,pA,pS,pM,pD, zN,qT,qG,qL,qH,qN,qB,qE,qO,qA,qM, h0, e, List.length_map]
theorem eqL_E : ∀ a b : List Expr, eqL sameE a b = sameEL a b
 | [], [] => by simp [eqL, sameEL]
 | [], _ :: _ => by simp [eqL, sameEL]
 | _ :: _, [] => by simp [eqL, sameEL]
 | x :: a, y :: b => by rw [eqL, sameEL, eqL_E a b]
theorem eqL_I : ∀ a b : List Item, eqL sameI a b = sameIs a b
 | [], [] => by simp [eqL, sameIs]
 | [], _ :: _ => by simp [eqL, sameIs]
 | _ :: _, [] => by simp [eqL, sameIs]
 | x :: a, y :: b => by rw [eqL, sameIs, eqL_I a b]
theorem eqL_M : ∀ a b : List Module, eqL sameM a b = sameF a b
 | [], [] => by simp [eqL, sameF]
 | [], _ :: _ => by simp [eqL, sameF]
 | _ :: _, [] => by simp [eqL, sameF]
 | x :: a, y :: b => by rw [eqL, sameF, eqL_M a b]
theorem expr_lens (e : Expr) (h : D.ok (.agg (eExpr e))) : e.args.length ≤ 9223372036854775807 := by
 rw [eExpr_eq] at h
 simp only [D.ok, D.okL] at h
 exact (ok_map h.2.2.2.2.2.2.1).1
/-- Expressions compared. -/
theorem sameE_c : ∀ (n : Nat) (a b : Expr), sz a < n → FnP Tryz.prog 119 [.agg (eExpr a), .agg (eExpr b)] (.d (eB (sameE a b))) []
 | 0, _, _, h => by omega
 | n + 1, .mk o m k w a, .mk o' m' k' w' a', hn => by
  refine FnP.of_eC (own := []) (fun i => if i = 2001 then [.chn] else []) mixed Tryz.func119 rfl Tryz.call119 Tryz.ntmps119 (Nat.le_of_ble_eq_true rfl) Tryz.results119 (fun hok => ?_)
  have hla : a.length ≤ 9223372036854775807 := expr_lens (.mk o m k w a) (okL_cons hok).1
  have hs : (a.map sz).sum < n := by rw [sz_mk] at hn; omega
  have ec := eqfExpr_c a a' hla 119 sameE (fun x hx y hy => sameE_c n x y (by have := sum_mem hx; omega))
  rw [eqL_E] at ec
  have hS : sameE (.mk o m k w a) (.mk o' m' k' w' a') = ((o == o' && decide (m = m') && decide (k = k') && decide (w = w')) && sameEL a a') := by rw [sameE]
  rw [hS]
  have k1 := key_num k k'
  have k2 := key_num w w'
  simp only [ZE,↓reduceIte,pE,pL,pA,pS,pM,pD] at ec
  simp (maxSteps := 4000000) only [ZE,↓reduceIte,pE,pL,pA,pS,pM,pD, op_mk, name_mk, k_mk, w_mk, args_mk, k1, k2]
  refine ECallC.i (fun _ => ec) ?_
  simp only [ZE,↓reduceIte,pE,pL,pA,pS,pM,pD]
theorem sameH_c (m n : Module) : FnP Tryz.prog 61 [.agg (eModule m), .agg (eModule n)] (.d (eB (sameH m n))) [] := by
 refine FnP.of_eC (own := []) (fun i => if i = 2001 then [.chn] else []) mixed Tryz.func61 rfl Tryz.call61 Tryz.ntmps61 (Nat.le_of_ble_eq_true rfl) Tryz.results61 (fun hok => ?_)
 have hla : m.params.length ≤ 9223372036854775807 := by
  have := (okL_cons hok).1
  simp only [eModule, eStrs, D.ok, D.okL] at this
  exact (ok_map this.2.2.1).1
 have ec := equalStr_c m.params n.params hla
 unfold sameH
 simp only [ZE,↓reduceIte,pE,pL,pA,pS,pM,pD] at ec
 simp (maxSteps := 4000000) only [ZE,↓reduceIte,pE,pL,pA,pS,pM,pD, zN,qT,qG,qL,qH,qN,qB,qE,qO,qA,qM]
 refine ECallC.i (fun _ => ec) ?_
 simp only [ZE,↓reduceIte,pE,pL,pA,pS,pM,pD]
theorem part_key (x y : Item) : (x.kind.1 == y.kind.1 && decide (x.name = y.name)) = decide (partI x = partI y) := part_eq (partI x) (partI y)
theorem tof_c (x : Item) : FnP Tryz.prog 111 [.agg (eItem x)] (.d (.agg (ePart (partI x)))) [] := by
 refine FnP.of_eC (own := []) (fun _ => []) mixed Tryz.func111 rfl Tryz.call111 Tryz.ntmps111 (Nat.le_of_ble_eq_true rfl) Tryz.results111 (fun hok => ?_)
 simp (maxSteps := 4000000) only [ZE,↓reduceIte,pE,pL,pA,pS,pM,pD, ePart, partI]
theorem key_rule (x y : Rule) : (x.kind == y.kind && decide (x.from' = y.from') && (x.n == y.n)) = decide (x = y) := by
 obtain ⟨a, b, c⟩ := x
 obtain ⟨a', b', c'⟩ := y
 rw [Bool.eq_iff_iff]; simp [and_assoc]
end Go.Proofs.YtbenhdgpogiadaaGreat

namespace Go.Proofs.YtbenhdgpogiadaaGreat
open Go.Aw
open Nat renaming reduceEqDiff → pE, reduceLT → pL, reduceAdd → pA, reduceSub → pS, reduceMul → pM, reduceLeDiff → pD
open Int renaming reduceToNat → qT, reduceGT → qG, reduceLT → qL, reduceGE → qH, reduceBNe → qN, reduceBEq → qB, reduceLE → qE, reduceNe → qO, reduceAdd → qA, reduceNeg → qM
set_option maxRecDepth 100000
set_option maxHeartbeats 40000000
theorem sameI_c (x y : Item) : FnP Tryz.prog 63 [.agg (eItem x), .agg (eItem y)] (.d (eB (sameI x y))) [] := by
 refine FnP.of_eC (own := []) (fun i => if i = 2001 then [.chn] else if i = 2002 then [.chn, .ord ⟨[(0, none), (1, none), (2, none), (3, none), (4, none), (5, none), (6, none), (7, none), (8, none), (9, none), (10, none), (11, none), (12, none), (13, none), (14, none), (15, none), (16, none), (17, none), (18, none), (19, none), (20, none), (21, none), (22, none), (23, none), (24, none), (25, none), (26, none), (27, none), (28, none), (29, none), (30, none), (31, none), (32, none), (33, none), (34, none), (35, none), (36, none), (37, none), (38, none), (39, none), (40, none), (41, none), (42, none), (43, none), (44, none), (45, none), (46, none), (47, none), (48, none), (49, none), (50, none), (51, none), (52, none), (53, none), (54, none), (55, none), (56, none), (57, none)]⟩] else []) mixed Tryz.func63 rfl Tryz.call63 Tryz.ntmps63 (Nat.le_of_ble_eq_true rfl) Tryz.results63 (fun hok => ?_)
 have hl : x.args.length ≤ 9223372036854775807 ∧ x.ports.length ≤ 9223372036854775807 := by
  have := (okL_cons hok).1
  simp only [eItem, eNum, eExpr_eq, eRule, eNums, eBinds, List.cons_append, List.nil_append, D.ok, D.okL] at this
  obtain ⟨_, _, _, _, _, _, _, _, _, _, _, _, _, _, _, _, _, _, _, _, _, _, _, _, _, _, _, _, _, _, _, _, _, h1, h2, _⟩ := this
  exact ⟨(ok_map h1).1, (ok_map h2).1⟩
 have c1 := tof_c x
 have c2 := tof_c y
 have c3 := equalNum_c x.args y.args hl.1
 have c4 := equalBind_c x.ports y.ports hl.2
 have c5 := sameE_c _ x.a y.a (Nat.lt_succ_self _)
 have c6 := sameE_c _ x.b y.b (Nat.lt_succ_self _)
 have c7 := sameE_c _ x.c y.c (Nat.lt_succ_self _)
 have k0 := part_key x y
 have k1 := key_num x.width y.width
 have k2 := key_num x.depth y.depth
 have k3 := key_num x.init y.init
 have k4 := key_rule x.rule y.rule
 simp only [ZE,↓reduceIte,pE,pL,pA,pS,pM,pD, ePart, partI] at c1 c2 c3 c4 c5 c6 c7
 simp (maxSteps := 4000000) only [ZE,↓reduceIte,pE,pL,pA,pS,pM,pD, zN,qT,qG,qL,qH,qN,qB,qE,qO,qA,qM, k1, k2, k3]
 refine ⟨by kernel_rfl, ECallC.i (fun _ => c1) ?_⟩
 simp only [ZE,↓reduceIte,pE,pL,pA,pS,pM,pD, zN,qT,qG,qL,qH,qN,qB,qE,qO,qA,qM]
 refine ECallC.i (fun _ => c2) ?_
 simp only [ZE,↓reduceIte,pE,pL,pA,pS,pM,pD, zN,qT,qG,qL,qH,qN,qB,qE,qO,qA,qM, k0, k4]
 refine ECallC.i (fun _ => c3) ?_
 simp only [ZE,↓reduceIte,pE,pL,pA,pS,pM,pD, zN,qT,qG,qL,qH,qN,qB,qE,qO,qA,qM]
 refine ECallC.i (fun _ => c4) ?_
 simp only [ZE,↓reduceIte,pE,pL,pA,pS,pM,pD, zN,qT,qG,qL,qH,qN,qB,qE,qO,qA,qM]
 refine ECallC.i (fun _ => c5) ?_
 simp only [ZE,↓reduceIte,pE,pL,pA,pS,pM,pD, zN,qT,qG,qL,qH,qN,qB,qE,qO,qA,qM]
 refine ECallC.i (fun _ => c6) ?_
 simp only [ZE,↓reduceIte,pE,pL,pA,pS,pM,pD, zN,qT,qG,qL,qH,qN,qB,qE,qO,qA,qM]
 refine ECallC.i (fun _ => c7) ?_
 simp only [ZE,↓reduceIte,pE,pL,pA,pS,pM,pD, zN,qT,qG,qL,qH,qN,qB,qE,qO,qA,qM]
 have k4' : (x.rule.kind == y.rule.kind && (decide (x.rule.from' = y.rule.from') && x.rule.n == y.rule.n)) = decide (x.rule = y.rule) := by
  rw [← Bool.and_assoc]; exact k4
 rw [k4']
 rfl
end Go.Proofs.YtbenhdgpogiadaaGreat

namespace Go.Proofs.YtbenhdgpogiadaaGreat
open Go.Aw Go.Sort Go.RowKit
set_option maxRecDepth 100000
def cmpB (x y : ByteArray) : Int := if Op.bytesLess x.toList y.toList = true then -1 else if (!(Op.bytesLess x.toList y.toList || x.toList == y.toList)) = true then 1 else 0
theorem nanI_w (x : Int) (w : World) : Calls Tryz.prog 210 #[.int .i64 x] w fun e w' => e = .returned (.bool false) ∧ w' = w := by
 go_enter Tryz.func210, Tryz.ntmps210
 go_wp2
 go_ret
 exact ⟨by simp, rfl⟩
set_option maxHeartbeats 1000000 in
theorem cmpI_w (x y : Int) (w : World) : Calls Tryz.prog 155 #[.int .i64 x, .int .i64 y] w fun e w' => e = .returned (.int .i64 (cmpI x y)) ∧ w' = w := by
 go_enter Tryz.func155, Tryz.ntmps155
 go_wp2_with (go_at_call 210; refine (nanI_w _ _).mono ?_; rintro e w' ⟨rfl, hw⟩; rw [hw])
 all_goals (go_ret; refine ⟨?_, rfl⟩; unfold cmpI; (repeat' split) <;> first | rfl | (exfalso; omega))
theorem nanS_w (x : ByteArray) (w : World) : Calls Tryz.prog 167 #[.string x] w fun e w' => e = .returned (.bool false) ∧ w' = w := by
 go_enter Tryz.func167, Tryz.ntmps167
 go_wp2
 go_ret
 exact ⟨by simp, rfl⟩
set_option maxHeartbeats 1000000 in
theorem cmpS_w (x y : ByteArray) (w : World) : Calls Tryz.prog 115 #[.string x, .string y] w fun e w' => e = .returned (.int .i64 (cmpB x y)) ∧ w' = w := by
 go_enter Tryz.func115, Tryz.ntmps115
 go_wp2_with (go_at_call 167; refine (nanS_w _ _).mono ?_; rintro e w' ⟨rfl, hw⟩; rw [hw])
 all_goals (go_ret; refine ⟨?_, rfl⟩; unfold cmpB; simp_all)
set_option maxHeartbeats 2000000 in
theorem or2_w (x y : Int) (b cap : Nat) (w : World) (h0 : w.cell? ⟨b, 0, none⟩ = some (.int .i64 x)) (h1 : w.cell? ⟨b, 1, none⟩ = some (.int .i64 y)) :
  Calls Tryz.prog 154 #[.slice (some ⟨b, 0, none⟩) 2 cap] w fun e w' => e = .returned (.int .i64 (orI [x, y])) ∧ w' = w := by
 go_enter Tryz.func154, Tryz.ntmps154
 go_wp2
 go_rounds 3
 all_goals go_ret
 all_goals refine ⟨?_, rfl⟩
 all_goals simp_all [orI]
set_option maxHeartbeats 4000000 in
theorem part_w (ak : Int) (an : ByteArray) (bk : Int) (bn : ByteArray) (w : World) : Calls Tryz.prog 110 #[.agg #[.int .i64 ak, .string an], .agg #[.int .i64 bk, .string bn]] w fun e w' =>
  e = .returned (.int .i64 (orI [cmpI ak bk, cmpB an bn])) ∧ ∃ q os', w' = grow (w.drewN q) os' := by
 go_enter Tryz.func110, Tryz.ntmps110
 go_wp2
 refine wp_region_still_tail 10 mixed (by kernel_rfl) ?_
 obtain ⟨W, hW⟩ : ∃ W : World, W = { ((w.alloc (.cells #[.int .i64 ak, .string an] 66)).alloc (.cells #[.int .i64 bk, .string bn] 66)) with drawn := ((w.alloc (.cells #[.int .i64 ak, .string an] 66)).alloc (.cells #[.int .i64 bk, .string bn] 66)).drawn + 1 } := ⟨_, rfl⟩
 rw [← hW]
 obtain ⟨c0, c1, hG⟩ := two_w w _ _ W hW
 have a0 : W.cell? ⟨w.heap.size, 0, none⟩ = some (.int .i64 ak) := by simp [World.cell?, c0]
 have a1 : W.cell? ⟨w.heap.size, 1, none⟩ = some (.string an) := by simp [World.cell?, c0]
 have b0 : W.cell? ⟨w.heap.size + 1, 0, none⟩ = some (.int .i64 bk) := by simp [World.cell?, c1]
 have b1 : W.cell? ⟨w.heap.size + 1, 1, none⟩ = some (.string bn) := by simp [World.cell?, c1]
 clear hW c0 c1
 simp only [List.take_succ_cons, List.take_zero, List.drop_succ_cons, List.drop_zero]
 repeat still_step
 still_call (cmpI_w _ _ _)
 repeat still_step
 still_call (cmpS_w _ _ _)
 repeat still_step
 try refine wpStill_nil ?_
 generalize hx : cmpI ak bk = x at *
 generalize hy : cmpB an bn = y at *
 clear a0 a1 b0 b1
 obtain ⟨q, os', rfl⟩ := hG
 generalize hWW : grow (w.drewN q) os' = W
 have hor : ∀ W', W' = W.alloc (.cells #[.int .i64 x, .int .i64 y] 3) → Calls Tryz.prog 154 #[.slice (some ⟨W.heap.size, 0, none⟩) 2 2] W' fun e w' => e = .returned (.int .i64 (orI [x, y])) ∧ w' = W' := by
  rintro W' rfl
  have hh := World.alloc_heap_new W (.cells #[.int .i64 x, .int .i64 y] 3)
  exact or2_w x y _ _ _ (by simp only [World.cell?, hh]; rfl) (by simp only [World.cell?, hh]; rfl)
 generalize hr : orI [x, y] = r at *
 go_wp2_with (go_at_call 154; refine (hor _ rfl).mono ?_; rintro e w' ⟨rfl, rfl⟩)
 go_ret
 refine ⟨by rw [hx, hy, hr]; rfl, q, os' ++ #[.cells #[.int .i64 x, .int .i64 y] 3], ?_⟩
 rw [alloc_eq_grow, ← hWW, grow_grow]
theorem of_w (row : Array Value) (hsz : row.size = 35) (k : Int) (s : ByteArray) (h0 : row[0]? = some (.int .i64 k)) (h1 : row[1]? = some (.string s)) (w : World) :
  Calls Tryz.prog 111 #[.agg row] w fun e w' => e = .returned (.agg #[.int .i64 k, .string s]) ∧ ∃ os', w' = grow w os' := by
 have g0 : row[0]'(by omega) = .int .i64 k := by simpa [hsz] using h0
 have g1 : row[1]'(by omega) = .string s := by simpa [hsz] using h1
 go_enter Tryz.func111, Tryz.ntmps111
 go_wp2
 refine bodyPost_ret (v := .agg #[.int .i64 k, .string s]) (results_cell_row rfl _ _ (w.heap.size + 1) 66 #[.int .i64 k, .string s] (0, 0) _ rfl (heap_alloc2_new _ _ _) Tryz.underlying66 rfl (by kernel_rfl)) rfl ⟨rfl, #[.cells row 64, .cells #[.int .i64 k, .string s] 66], ?_⟩
 rw [alloc_eq_grow, alloc_eq_grow, grow_grow]; rfl
theorem quiet_load_row {P : Program} {o : Oper} {a : Act} {C : World → Prop} {K : Act → Prop} (ty : TypeId) (x : Operand) (ho : o.op = .load ty x)
  (g : Nat) (hx : a.eval x = .pointer (some ⟨g, 0, none⟩)) (t : TypeId) (cs : Array Value) (fr : Nat × Nat) (d : TypeDesc) (hg : ∀ w, C w → w.heap[g]? = some (.cells cs t fr))
  (hu : P.underlying ty = some d) (hd : (match d with | .struct _ | .array _ _ => true | _ => false) = true) (hi : (P.info? ty).map (·.size) = some cs.size)
  (h : K (a.put o.dst (.agg cs))) : o.quiet P a C K := by
 refine ⟨.agg cs, fun w hw => ?_, h⟩
 unfold Oper.quietAt execOp
 simp only [ho, hx, Instr.loadAt, Instr.sureAddr, Sem.run_bind, Sem.run_pure, Result.andThen_ok, run_loadVar_row w g t ty cs fr d (hg w hw) hu hd hi]
 exact ⟨rfl, rfl⟩
theorem heap_grown {w : World} {g : Nat} {o : Obj} (h : w.heap[g]? = some o) : ∀ w', (∃ p : GrownBy, w' = grow (w.drewN p.n) p.os) → w'.heap[g]? = some o := by
 rintro w' ⟨p, rfl⟩
 have hb : g < w.heap.size := (Array.getElem?_eq_some_iff.1 h).1
 show (w.heap ++ p.os)[g]? = some o
 rw [Array.getElem?_append_left hb]; exact h
theorem item_w (ra rb : Array Value) (sa : ra.size = 35) (sb : rb.size = 35) (ak bk : Int) (an bn : ByteArray) (a0 : ra[0]? = some (.int .i64 ak)) (a1 : ra[1]? = some (.string an)) (b0 : rb[0]? = some (.int .i64 bk)) (b1 : rb[1]? = some (.string bn)) (w : World) :
  Calls Tryz.prog 53 #[.agg ra, .agg rb] w fun e w' => e = .returned (.int .i64 (orI [cmpI ak bk, cmpB an bn])) ∧ ∃ q os', w' = grow (w.drewN q) os' := by
 go_enter Tryz.func53, Tryz.ntmps53
 go_wp2
 obtain ⟨wq, hwq⟩ : ∃ wq, (w.alloc (.cells ra 64)).alloc (.cells rb 64) = wq := ⟨_, rfl⟩
 have l1 := heap_grown (w := wq) (g := w.heap.size) (o := .cells ra 64 (0, 0)) (by rw [← hwq]; exact (Go.RowKit.Below.heap_alloc _ _ _ (by simp)).trans (World.alloc_heap_new w _))
 have l2 := heap_grown (w := wq) (g := w.heap.size + 1) (o := .cells rb 64 (0, 0)) (by rw [← hwq]; exact heap_alloc2_new _ _ _)
 have o1 : ∀ W, Calls Tryz.prog 111 #[.agg ra] W fun e w' => e = .returned (.agg #[.int .i64 ak, .string an]) ∧ ∃ q os', w' = grow (W.drewN q) os' := fun W => (of_w ra sa ak an a0 a1 W).mono fun _ _ ⟨he, os', hq⟩ => ⟨he, 0, os', hq⟩
 have o2 : ∀ W, Calls Tryz.prog 111 #[.agg rb] W fun e w' => e = .returned (.agg #[.int .i64 bk, .string bn]) ∧ ∃ q os', w' = grow (W.drewN q) os' := fun W => (of_w rb sb bk bn b0 b1 W).mono fun _ _ ⟨he, os', hq⟩ => ⟨he, 0, os', hq⟩
 have o3 := part_w ak an bk bn
 have hm := mixed
 rw [hwq]
 refine wp_region_quiet_grown (by assumption) (by kernel_rfl) ?_
 refine wpQuiet_step (fun K hK => ?_)
 refine Eq.mpr (if_pos rfl) (quiet_load_row 64 _ rfl w.heap.size rfl 64 ra (0, 0) _ l1 Tryz.underlying64 rfl (by rw [sa]; kernel_rfl) (hK _ ?_))
 clear hK K
 quiet_step ((exact Calls.grown_of (o1 _)))
 refine wpQuiet_step (fun K hK => ?_)
 refine Eq.mpr (if_pos rfl) (quiet_load_row 64 _ rfl (w.heap.size + 1) rfl 64 rb (0, 0) _ l2 Tryz.underlying64 rfl (by rw [sb]; kernel_rfl) (hK _ ?_))
 clear hK K
 quiet_step ((exact Calls.grown_of (o2 _)))
 quiet_step ((exact Calls.grown_of (o3 _)))
 quiet_step (skip)
 refine wpQuiet_nil ?_
 rintro _ ⟨⟨nq, osq⟩, rfl⟩
 go_wp2
 go_ret
 refine ⟨rfl, nq, #[.cells ra 64, .cells rb 64] ++ osq, ?_⟩
 have e1 : grow (grow w #[.cells ra 64]) #[.cells rb 64] = grow w #[.cells ra 64, .cells rb 64] := by rw [grow_grow]; rfl
 rw [← hwq, alloc_eq_grow, alloc_eq_grow, e1]
 show grow (grow (w.drewN nq) #[.cells ra 64, .cells rb 64]) osq = _
 rw [grow_grow]
theorem name_w (ra rb : Array Value) (sa : ra.size = 4) (sb : rb.size = 4) (an bn : ByteArray) (a0 : ra[0]? = some (.string an)) (b0 : rb[0]? = some (.string bn)) (w : World) :
  Calls Tryz.prog 57 #[.agg ra, .agg rb] w fun e w' => e = .returned (.int .i64 (cmpB an bn)) ∧ ∃ q os', w' = grow (w.drewN q) os' := by
 have g0 : ra[0]'(by omega) = .string an := by simpa [sa] using a0
 have g1 : rb[0]'(by omega) = .string bn := by simpa [sb] using b0
 go_enter Tryz.func57, Tryz.ntmps57
 go_wp2_with (go_at_call 115; refine (cmpS_w _ _ _).mono ?_; rintro e w' ⟨rfl, rfl⟩)
 go_ret
 refine ⟨rfl, 0, #[.cells ra 53, .cells rb 53], ?_⟩
 rw [alloc_eq_grow, alloc_eq_grow, grow_grow]; rfl
end Go.Proofs.YtbenhdgpogiadaaGreat

namespace Go.Proofs.YtbenhdgpogiadaaGreat
open Go.Aw Go.Sort Go.RowKit Go.Shelf
set_option maxRecDepth 100000
def Tryz.sortItem_ren : Go.Shelf.Ren := ⟨fun | 6 => 130 | 15 => 171 | 14 => 173 | 28 => 223 | 29 => 224 | 20 => 225 | 21 => 226 | 22 => 227 | 23 => 228 | 24 => 229 | 25 => 230 | 26 => 231 | 27 => 232 | 46 => 264 | 47 => 260 | 48 => 261 | 49 => 265 | 50 => 266 | 57 => 292 | n => n, fun | 22 => 51 | 24 => 64 | 25 => 109 | 3 => 3 | 39 => 253 | 0 => 0 | 53 => 307 | 55 => 309 | 4 => 4 | 46 => 301 | 45 => 300 | 50 => 234 | 5 => 5 | 9 => 9 | 66 => 337 | 70 => 341 | 76 => 362 | 77 => 289 | n => n, fun | n => n⟩
theorem Tryz.sortItem : Go.Proofs.SlLaysF0.n6 Tryz.prog Tryz.sortItem_ren := {
 mixed := by kernel_rfl
 f6 := ⟨Tryz.f130.name, by decide, Tryz.func130.trans (congrArg some (by kernel_rfl))⟩
 f14 := ⟨Tryz.f173.name, by decide, Tryz.func173.trans (congrArg some (by kernel_rfl))⟩
 f15 := Tryz.func171.trans (congrArg some (by kernel_rfl))
 f20 := ⟨Tryz.f225.name, by decide, Tryz.func225.trans (congrArg some (by kernel_rfl))⟩
 f21 := ⟨Tryz.f226.name, by decide, Tryz.func226.trans (congrArg some (by kernel_rfl))⟩
 f22 := ⟨Tryz.f227.name, by decide, Tryz.func227.trans (congrArg some (by kernel_rfl))⟩
 f23 := ⟨Tryz.f228.name, by decide, Tryz.func228.trans (congrArg some (by kernel_rfl))⟩
 f24 := ⟨Tryz.f229.name, by decide, Tryz.func229.trans (congrArg some (by kernel_rfl))⟩
 f25 := ⟨Tryz.f230.name, by decide, Tryz.func230.trans (congrArg some (by kernel_rfl))⟩
 f26 := ⟨Tryz.f231.name, by decide, Tryz.func231.trans (congrArg some (by kernel_rfl))⟩
 f27 := ⟨Tryz.f232.name, by decide, Tryz.func232.trans (congrArg some (by kernel_rfl))⟩
 f28 := Tryz.func223.trans (congrArg some (by kernel_rfl))
 f29 := Tryz.func224.trans (congrArg some (by kernel_rfl))
 f46 := ⟨Tryz.f264.name, by decide, Tryz.func264.trans (congrArg some (by kernel_rfl))⟩
 f47 := Tryz.func260.trans (congrArg some (by kernel_rfl))
 f48 := Tryz.func261.trans (congrArg some (by kernel_rfl))
 f49 := ⟨Tryz.f265.name, by decide, Tryz.func265.trans (congrArg some (by kernel_rfl))⟩
 f50 := ⟨Tryz.f266.name, by decide, Tryz.func266.trans (congrArg some (by kernel_rfl))⟩
 f57 := ⟨Tryz.f292.name, by decide, Tryz.func292.trans (congrArg some (by kernel_rfl))⟩
 t0 := Tryz.underlying0
 a0 := Tryz.isAgg0
 z0 := Tryz.sizeOf0
 v0 := Tryz.zeroValue0
 t3 := Tryz.underlying3
 a3 := Tryz.isAgg3
 z3 := Tryz.sizeOf3
 v3 := Tryz.zeroValue3
 t4 := Tryz.underlying4
 a4 := Tryz.isAgg4
 z4 := Tryz.sizeOf4
 v4 := Tryz.zeroValue4
 t5 := Tryz.underlying5
 a5 := Tryz.isAgg5
 z5 := Tryz.sizeOf5
 v5 := Tryz.zeroValue5
 t9 := Tryz.underlying9
 a9 := Tryz.isAgg9
 z9 := Tryz.sizeOf9
 v9 := Tryz.zeroValue9
 t22 := Tryz.underlying51
 a22 := Tryz.isAgg51
 z22 := Tryz.sizeOf51
 v22 := Tryz.zeroValue51
 t25 := Tryz.underlying109
 a25 := Tryz.isAgg109
 z25 := Tryz.sizeOf109
 v25 := Tryz.zeroValue109
 t39 := Tryz.underlying253
 a39 := Tryz.isAgg253
 z39 := Tryz.sizeOf253
 v39 := Tryz.zeroValue253
 t45 := Tryz.underlying300
 a45 := Tryz.isAgg300
 z45 := Tryz.sizeOf300
 v45 := Tryz.zeroValue300
 t46 := Tryz.underlying301
 a46 := Tryz.isAgg301
 z46 := Tryz.sizeOf301
 v46 := Tryz.zeroValue301
 t50 := Tryz.underlying234
 a50 := Tryz.isAgg234
 z50 := Tryz.sizeOf234
 v50 := Tryz.zeroValue234
 t53 := Tryz.underlying307
 a53 := Tryz.isAgg307
 z53 := Tryz.sizeOf307
 v53 := Tryz.zeroValue307
 t55 := Tryz.underlying309
 a55 := Tryz.isAgg309
 z55 := Tryz.sizeOf309
 v55 := Tryz.zeroValue309
 t66 := Tryz.underlying337
 a66 := Tryz.isAgg337
 z66 := Tryz.sizeOf337
 v66 := Tryz.zeroValue337
 t70 := Tryz.underlying341
 a70 := Tryz.isAgg341
 z70 := Tryz.sizeOf341
 v70 := Tryz.zeroValue341
 t76 := Tryz.underlying362
 a76 := Tryz.isAgg362
 z76 := Tryz.sizeOf362
 v76 := Tryz.zeroValue362
 t77 := Tryz.underlying289
 a77 := Tryz.isAgg289
 z77 := Tryz.sizeOf289
 v77 := Tryz.zeroValue289 }
def Tryz.sortMod_ren : Go.Shelf.Ren := ⟨fun | 6 => 127 | 15 => 171 | 14 => 170 | 28 => 223 | 29 => 224 | 20 => 215 | 21 => 216 | 22 => 217 | 23 => 218 | 24 => 219 | 25 => 220 | 26 => 221 | 27 => 222 | 46 => 259 | 47 => 260 | 48 => 261 | 49 => 262 | 50 => 263 | 57 => 291 | n => n, fun | 22 => 28 | 24 => 53 | 25 => 113 | 3 => 3 | 39 => 253 | 0 => 0 | 53 => 307 | 55 => 309 | 4 => 4 | 46 => 301 | 45 => 300 | 50 => 234 | 5 => 5 | 9 => 9 | 66 => 337 | 70 => 341 | 76 => 362 | 77 => 289 | n => n, fun | n => n⟩
theorem Tryz.sortMod : Go.Proofs.SlLaysF0.n6 Tryz.prog Tryz.sortMod_ren := {
 mixed := by kernel_rfl
 f6 := ⟨Tryz.f127.name, by decide, Tryz.func127.trans (congrArg some (by kernel_rfl))⟩
 f14 := ⟨Tryz.f170.name, by decide, Tryz.func170.trans (congrArg some (by kernel_rfl))⟩
 f15 := Tryz.func171.trans (congrArg some (by kernel_rfl))
 f20 := ⟨Tryz.f215.name, by decide, Tryz.func215.trans (congrArg some (by kernel_rfl))⟩
 f21 := ⟨Tryz.f216.name, by decide, Tryz.func216.trans (congrArg some (by kernel_rfl))⟩
 f22 := ⟨Tryz.f217.name, by decide, Tryz.func217.trans (congrArg some (by kernel_rfl))⟩
 f23 := ⟨Tryz.f218.name, by decide, Tryz.func218.trans (congrArg some (by kernel_rfl))⟩
 f24 := ⟨Tryz.f219.name, by decide, Tryz.func219.trans (congrArg some (by kernel_rfl))⟩
 f25 := ⟨Tryz.f220.name, by decide, Tryz.func220.trans (congrArg some (by kernel_rfl))⟩
 f26 := ⟨Tryz.f221.name, by decide, Tryz.func221.trans (congrArg some (by kernel_rfl))⟩
 f27 := ⟨Tryz.f222.name, by decide, Tryz.func222.trans (congrArg some (by kernel_rfl))⟩
 f28 := Tryz.func223.trans (congrArg some (by kernel_rfl))
 f29 := Tryz.func224.trans (congrArg some (by kernel_rfl))
 f46 := ⟨Tryz.f259.name, by decide, Tryz.func259.trans (congrArg some (by kernel_rfl))⟩
 f47 := Tryz.func260.trans (congrArg some (by kernel_rfl))
 f48 := Tryz.func261.trans (congrArg some (by kernel_rfl))
 f49 := ⟨Tryz.f262.name, by decide, Tryz.func262.trans (congrArg some (by kernel_rfl))⟩
 f50 := ⟨Tryz.f263.name, by decide, Tryz.func263.trans (congrArg some (by kernel_rfl))⟩
 f57 := ⟨Tryz.f291.name, by decide, Tryz.func291.trans (congrArg some (by kernel_rfl))⟩
 t0 := Tryz.underlying0
 a0 := Tryz.isAgg0
 z0 := Tryz.sizeOf0
 v0 := Tryz.zeroValue0
 t3 := Tryz.underlying3
 a3 := Tryz.isAgg3
 z3 := Tryz.sizeOf3
 v3 := Tryz.zeroValue3
 t4 := Tryz.underlying4
 a4 := Tryz.isAgg4
 z4 := Tryz.sizeOf4
 v4 := Tryz.zeroValue4
 t5 := Tryz.underlying5
 a5 := Tryz.isAgg5
 z5 := Tryz.sizeOf5
 v5 := Tryz.zeroValue5
 t9 := Tryz.underlying9
 a9 := Tryz.isAgg9
 z9 := Tryz.sizeOf9
 v9 := Tryz.zeroValue9
 t22 := Tryz.underlying28
 a22 := Tryz.isAgg28
 z22 := Tryz.sizeOf28
 v22 := Tryz.zeroValue28
 t25 := Tryz.underlying113
 a25 := Tryz.isAgg113
 z25 := Tryz.sizeOf113
 v25 := Tryz.zeroValue113
 t39 := Tryz.underlying253
 a39 := Tryz.isAgg253
 z39 := Tryz.sizeOf253
 v39 := Tryz.zeroValue253
 t45 := Tryz.underlying300
 a45 := Tryz.isAgg300
 z45 := Tryz.sizeOf300
 v45 := Tryz.zeroValue300
 t46 := Tryz.underlying301
 a46 := Tryz.isAgg301
 z46 := Tryz.sizeOf301
 v46 := Tryz.zeroValue301
 t50 := Tryz.underlying234
 a50 := Tryz.isAgg234
 z50 := Tryz.sizeOf234
 v50 := Tryz.zeroValue234
 t53 := Tryz.underlying307
 a53 := Tryz.isAgg307
 z53 := Tryz.sizeOf307
 v53 := Tryz.zeroValue307
 t55 := Tryz.underlying309
 a55 := Tryz.isAgg309
 z55 := Tryz.sizeOf309
 v55 := Tryz.zeroValue309
 t66 := Tryz.underlying337
 a66 := Tryz.isAgg337
 z66 := Tryz.sizeOf337
 v66 := Tryz.zeroValue337
 t70 := Tryz.underlying341
 a70 := Tryz.isAgg341
 z70 := Tryz.sizeOf341
 v70 := Tryz.zeroValue341
 t76 := Tryz.underlying362
 a76 := Tryz.isAgg362
 z76 := Tryz.sizeOf362
 v76 := Tryz.zeroValue362
 t77 := Tryz.underlying289
 a77 := Tryz.isAgg289
 z77 := Tryz.sizeOf289
 v77 := Tryz.zeroValue289 }
def cmpP (a b : Part) : Int := orI [cmpI a.kind.1 b.kind.1, cmpB a.name.1 b.name.1]
def cmpN (a b : Str) : Int := cmpB a.1 b.1
theorem cmpB_lt (a b : Str) : cmpB a.1 b.1 < 0 ↔ ltS a b = true := by
 unfold cmpB ltS
 repeat' split
 all_goals simp_all
theorem cmpB_zero (a b : Str) : cmpB a.1 b.1 = 0 ↔ a = b := by
 unfold cmpB
 constructor
 ·intro h
  split at h
  ·cases h
  split at h
  ·cases h
  ·rename_i h1 h2
   simp only [Bool.not_eq_true', Bool.not_eq_false, Bool.or_eq_true, beq_iff_eq] at h1 h2
   rcases h2 with h2 | h2
   ·exact absurd h2 h1
   ·exact toList_inj h2
 ·rintro rfl
  have := bytes_irr a.1.toList
  simp [this]
theorem cmpP_lt (a b : Part) : cmpP a b < 0 ↔ ltP a b = true := by
 unfold cmpP orI cmpI ltP
 have h1 := cmpB_lt a.name b.name
 rcases Int.lt_trichotomy a.kind.1 b.kind.1 with h | h | h
 ·have : a.kind.1 ≠ b.kind.1 := by omega
  simp [h]
 ·rw [h]
  simp only [Int.lt_irrefl, if_false, decide_false, Bool.false_or, decide_true, Bool.true_and]
  rw [← h1]
  by_cases h0 : cmpB a.name.1 b.name.1 = 0
  ·simp [h0]
  ·simp [h0]
 ·have h2 : ¬ a.kind.1 < b.kind.1 := by omega
  have h3 : ¬ a.kind.1 = b.kind.1 := by omega
  simp [h, h2, h3]
theorem swoP {α : Type} (f : α → Part) : SWO (ltOf fun a b => cmpP (f a) (f b)) := by
 have e : ∀ a b, ltOf (fun a b => cmpP (f a) (f b)) a b = ltP (f a) (f b) := fun a b => by
  unfold ltOf
  rw [Bool.eq_iff_iff, decide_eq_true_eq]; exact cmpP_lt _ _
 refine { irrefl := fun a => by rw [e]; exact ordP.irr _, trans := fun a b c h1 h2 => by rw [e] at *; exact ordP.tr _ _ _ h1 h2, ntrans := fun a b c h1 h2 => ?_ }
 rw [e] at *
 cases h : ltP (f a) (f c) with
 | false => rfl
 | true =>
  cases hb : ltP (f b) (f a) with
  | true => rw [ordP.tr _ _ _ hb h] at h2; cases h2
  | false => have := ordP.conn _ _ h1 hb; rw [this, h2] at h; cases h
theorem swoN {α : Type} (f : α → Str) : SWO (ltOf fun a b => cmpN (f a) (f b)) := by
 have e : ∀ a b, ltOf (fun a b => cmpN (f a) (f b)) a b = ltS (f a) (f b) := fun a b => by
  unfold ltOf
  rw [Bool.eq_iff_iff, decide_eq_true_eq]; exact cmpB_lt _ _
 refine { irrefl := fun a => by rw [e]; exact ordS.irr _, trans := fun a b c h1 h2 => by rw [e] at *; exact ordS.tr _ _ _ h1 h2, ntrans := fun a b c h1 h2 => ?_ }
 rw [e] at *
 cases h : ltS (f a) (f c) with
 | false => rfl
 | true =>
  cases hb : ltS (f b) (f a) with
  | true => rw [ordS.tr _ _ _ hb h] at h2; cases h2
  | false => have := ordS.conn _ _ h1 hb; rw [this, h2] at h; cases h
theorem sortI_c (l : List Item) (hl : l.length < 4611686018427387904) : FnL Tryz.prog 130 [.ar 0 l.length, .d (.clo (.func 53) [] [])] [(0, .arr 64 35 .flat (l.map eItem))]
  (fun V ol new => V = .tup [] ∧ (∃ l' : List Item, l.Perm l' ∧ (l'.Pairwise fun x y => ¬ cmpP (partI y) (partI x) < 0) ∧ ol = [(0, .arr 64 35 .flat (l'.map eItem))]) ∧ new = []) := by
 refine sort_own Tryz.sortItem eItem partI cmpP 35 (by omega) (fun x => by simp [eItem, eNum, eExpr_eq, eRule]) (fun x d hd => ?_) Tryz.isAgg64 Tryz.sizeOf64 swoP 53 (fun bs w => Tryz.call53 bs w) (fun bs w => Tryz.call130 bs w) (fun W F x y ra rb h1 h2 w => ?_) l hl
 ·simp only [eItem, eNum, eExpr_eq, eRule, eI, eS, eNums, eBinds, List.cons_append, List.nil_append, List.mem_cons, List.not_mem_nil, or_false] at hd
  repeat' (rcases hd with rfl | hd)
  all_goals (try subst hd)
  all_goals simp [D.one, Value.oneCell']
 ·have l1 := RdVals.length _ _ h1
  have l2 := RdVals.length _ _ h2
  have e35 : ∀ x : Item, (eItem x).length = 35 := fun x => by simp [eItem, eNum, eExpr_eq, eRule]
  rw [e35] at l1 l2
  have g : ∀ (x : Item) (r : List Value), RdVals W F (eItem x) r → r[0]? = some (.int .i64 x.kind.1) ∧ r[1]? = some (.string x.name.1) := fun x r h => by
   unfold eItem at h
   simp only [eI, eS, RdVals, Aw.Rd] at h
   obtain ⟨v, r1, rfl, rfl, v2, r2, rfl, rfl, _⟩ := h
   exact ⟨rfl, rfl⟩
  obtain ⟨p1, p2⟩ := g x ra h1
  obtain ⟨q1, q2⟩ := g y rb h2
  exact item_w ra.toArray rb.toArray (by simpa using l1) (by simpa using l2) x.kind.1 y.kind.1 x.name.1 y.name.1 (by simpa using p1) (by simpa using p2) (by simpa using q1) (by simpa using q2) w
theorem sortM_c (l : List Module) (hl : l.length < 4611686018427387904) : FnL Tryz.prog 127 [.ar 0 l.length, .d (.clo (.func 57) [] [])] [(0, .arr 53 4 .flat (l.map eModule))]
  (fun V ol new => V = .tup [] ∧ (∃ l' : List Module, l.Perm l' ∧ (l'.Pairwise fun x y => ¬ cmpN y.name x.name < 0) ∧ ol = [(0, .arr 53 4 .flat (l'.map eModule))]) ∧ new = []) := by
 refine sort_own Tryz.sortMod eModule Module.name cmpN 4 (by omega) (fun x => rfl) (fun x d hd => ?_) Tryz.isAgg53 Tryz.sizeOf53 swoN 57 (fun bs w => Tryz.call57 bs w) (fun bs w => Tryz.call127 bs w) (fun W F x y ra rb h1 h2 w => ?_) l hl
 ·simp only [eModule, eS, eStrs, eItems, List.mem_cons, List.not_mem_nil, or_false] at hd
  rcases hd with rfl | rfl | rfl | rfl
  all_goals simp [D.one, Value.oneCell']
 ·have l1 := RdVals.length _ _ h1
  have l2 := RdVals.length _ _ h2
  have g : ∀ (x : Module) (r : List Value), RdVals W F (eModule x) r → r[0]? = some (.string x.name.1) := fun x r h => by
   unfold eModule at h
   simp only [eS, RdVals, Aw.Rd] at h
   obtain ⟨v, r1, rfl, rfl, _⟩ := h
   rfl
  exact name_w ra.toArray rb.toArray (by simpa [eModule] using l1) (by simpa [eModule] using l2) x.name.1 y.name.1 (by simpa using g x ra h1) (by simpa using g y rb h2) w
end Go.Proofs.YtbenhdgpogiadaaGreat

namespace Go.Proofs.YtbenhdgpogiadaaGreat
open Go.Aw
open Nat renaming reduceEqDiff → pE, reduceLT → pL, reduceAdd → pA, reduceSub → pS, reduceMul → pM, reduceLeDiff → pD
open Int renaming reduceToNat → qT, reduceGT → qG, reduceLT → qL, reduceGE → qH, reduceBNe → qN, reduceBEq → qB, reduceLE → qE, reduceNe → qO, reduceAdd → qA, reduceNeg → qM
set_option maxRecDepth 100000
set_option maxHeartbeats 4000000
def rowOfD : List D → List D
 | [.agg cs] => cs
 | _ => []
def yItem (x : Item) : List D := [.agg (eItem x)]
theorem rowItem (l : List Item) : (l.map yItem).map rowOfD = l.map eItem := by rw [List.map_map]; rfl
theorem valuesItem_it (l : List Item) (hl : l.length ≤ 4000000) : IterP Tryz.prog 131 [.ptr [.sl (l.map eItem)]] (fun pre => ∃ i, i ≤ l.length ∧ pre = (l.take i).map yItem) (fun xs => xs = l.map yItem) := by
 intro lim fam stop lp hY
 have := FnL.of_eC (P := Tryz.prog) (args := [.yv 0, .d (.ptr [.sl (l.map eItem)])]) (os := [(0, .ext lim fam stop lp [])]) (PL := fun _ ol new => (∃ xs, xs = l.map yItem ∧ ol = [(0, .ext lim fam stop lp xs)] ∧ new = []) ∨ (ol = [(0, .ext lim (fun _ => stop) stop lp [])] ∧ new = [])) (own := []) (fun _ => []) [0] mixed Tryz.func131 rfl Tryz.call131 Tryz.ntmps131 (Nat.le_of_ble_eq_true rfl) Tryz.results131 ?_
 ·refine this.mono ?_
  rintro V Oo new ⟨ol, rfl, ⟨xs, h1, rfl, h2⟩ | ⟨rfl, h2⟩⟩
  ·exact .inl ⟨xs, h1, rfl, h2⟩
  ·exact .inr ⟨rfl, h2⟩
 simp only [ZE,↓reduceIte,pE,pL,pA,pS,pM,pD, zN,qT,qG,qL,qH,qN,qB,qE,qO,qA,qM]
 refine eloop (fun _ => []) mixed l.length (fun _ => True) (fun i => ([(0, .yv 0), (5, .d (.sl (l.map eItem))), (6, .d (eI l.length)), (7, .d (eI i))], [(0, .ext lim fam stop lp ((l.take i).map yItem))])) trivial ?_ ?_ (fun i hi _ => ?_)
 ·simp only [ZE,↓reduceIte,pE,pL,pA,pS,pM,pD, zN,qT,qG,qL,qH,qN,qB,qE,qO,qA,qM, List.length_map]
 ·simp only [ZE,↓reduceIte,pE,pL,pA,pS,pM,pD, List.take_zero, List.map_nil]
 rcases Nat.lt_or_ge i l.length with h | h
 ·have hw := wrap_succ (show i < 9223372036854775807 by omega)
  have ht : (l.take (i + 1)).map yItem = (l.take i).map yItem ++ [yItem l[i]] := by rw [List.take_succ_eq_append_getElem h, List.map_append]; rfl
  rw [ht]
  simp (maxSteps := 4000000) only [ZE,↓reduceIte,pE,pL,pA,pS,pM,pD, dec_lt h, getD_map h, lt_int h, zN,qT,qG,qL,qH,qN,qB,qE,qO,qA,qM, yItem, List.length_map]
  refine ⟨_, hY, ⟨i + 1, h, ?_⟩, ?_, ?_⟩
  ·rw [ht]
   simp only [ZE,↓reduceIte,pE,pL,pA,pS,pM,pD, yItem]
  ·simp only [ZE,↓reduceIte,pE,pL,pA,pS,pM,pD, zN,qT,qG,qL,qH,qN,qB,qE,qO,qA,qM, hw]
   exact h
  ·simp only [ZE,↓reduceIte,pE,pL,pA,pS,pM,pD, zN,qT,qG,qL,qH,qN,qB,qE,qO,qA,qM]
   refine ⟨[4], [], ?_⟩
   simp only [ZE,↓reduceIte,pE,pL,pA,pS,pM,pD]
 ·have : i = l.length := by omega
  subst this
  simp (maxSteps := 4000000) only [ZE,↓reduceIte,pE,pL,pA,pS,pM,pD, dec_ge h, zN,qT,qG,qL,qH,qN,qB,qE,qO,qA,qM, List.take_length]
  refine ⟨[], [], ?_⟩
  simp only [ZE,↓reduceIte,pE,pL,pA,pS,pM,pD]
  exact .inl ⟨_, rfl, rfl⟩
theorem appendSeqItem_c (l : List Item) (hl : l.length ≤ 4000000) : FnL Tryz.prog 172 [.nils, .d (.clo (.func 131) [] [.ptr [.sl (l.map eItem)]])] [] (fun V ol new => V = .ar 90 l.length ∧ ol = [(90, .arr 64 35 .flat (l.map eItem))] ∧ new = [90]) := by
 refine FnL.of_eC (own := []) (fun id => if id = 0 then [.adB 2 0 90 64 35] else []) [] mixed Tryz.func172 rfl Tryz.call172 Tryz.ntmps172 (Nat.le_of_ble_eq_true rfl) Tryz.results172 ?_
 simp only [ZE,↓reduceIte,pE,pL,pA,pS,pM,pD]
 refine erange mixed (fun _ => []) rfl (by simp only [ZE,↓reduceIte,pE,pL,pA,pS,pM,pD]) (valuesItem_it l hl) (fun pre => [(2, .box [.ar 90 pre.length]), (90, .arr 64 35 .flat (pre.map rowOfD))]) ?_ ?_ ?_ ?_ ?_
 ·simp only [ZE,↓reduceIte,pE,pL,pA,pS,pM,pD]
 ·intro pre; simp [noExtL, isExt]
 ·simp only [ZE,↓reduceIte,pE,pL,pA,pS,pM,pD, psOk, keysT]
 ·rintro pre x ⟨i, hi, h3⟩
  have hlen : (pre ++ [x]).length ≤ 4000000 := by rw [h3, List.length_map, List.length_take]; omega
  simp only [List.length_append, List.length_cons, List.length_nil] at hlen
  obtain ⟨p, rfl⟩ : ∃ p, x = yItem p := by
   have : x ∈ (l.take i).map yItem := by rw [← h3]; simp
   obtain ⟨p, _, rfl⟩ := List.mem_map.1 this
   exact ⟨p, rfl⟩
  simp only [yItem, ZE,↓reduceIte,pE,pL,pA,pS,pM,pD, zipL, roundE, noExtL, isExt, bodyE, keysT]
  refine ⟨⟨by omega, by omega⟩, by simp, by simp, ?_⟩
  rw [List.map_append]; rfl
 ·rintro xs rfl
  simp only [ZE,↓reduceIte,pE,pL,pA,pS,pM,pD]
  refine ⟨[2], [90], ?_⟩
  simp only [ZE,↓reduceIte,pE,pL,pA,pS,pM,pD, List.length_map]
  rw [rowItem]
theorem collectItem_c (l : List Item) (hl : l.length ≤ 4000000) : FnL Tryz.prog 129 [.d (.clo (.func 131) [] [.ptr [.sl (l.map eItem)]])] [] (fun V ol new => V = .ar 90 l.length ∧ ol = [(90, .arr 64 35 .flat (l.map eItem))] ∧ new = [90]) := by
 refine FnL.of_eC (own := []) (fun id => []) [] mixed Tryz.func129 rfl Tryz.call129 Tryz.ntmps129 (Nat.le_of_ble_eq_true rfl) Tryz.results129 ?_
 simp only [ZE,↓reduceIte,pE,pL,pA,pS,pM,pD]
 refine EFn.g ⟨[(90, 90)], [.nils, .d (.clo (.func 131) [] [.ptr [.sl (l.map eItem)]])], _, _, appendSeqItem_c l hl, ?_⟩
 simp only [ZE,↓reduceIte,pE,pL,pA,pS,pM,pD]
 rintro V ol new ⟨rfl, rfl, rfl⟩
 simp only [ZE,↓reduceIte,pE,pL,pA,pS,pM,pD]
 refine ⟨[], [90], ?_⟩
 simp only [ZE,↓reduceIte,pE,pL,pA,pS,pM,pD]
theorem sortedItem_c (l : List Item) (hl : l.length ≤ 4000000) : FnL Tryz.prog 77 [.d (.clo (.func 131) [] [.ptr [.sl (l.map eItem)]]), .d (.clo (.func 53) [] [])] [] (fun V ol new => V = .ar 90 l.length ∧ (∃ l' : List Item, l.Perm l' ∧ (l'.Pairwise fun x y => ¬ cmpP (partI y) (partI x) < 0) ∧ ol = [(90, .arr 64 35 .flat (l'.map eItem))]) ∧ new = [90]) := by
 refine FnL.of_eC (own := []) (fun id => []) [] mixed Tryz.func77 rfl Tryz.call77 Tryz.ntmps77 (Nat.le_of_ble_eq_true rfl) Tryz.results77 ?_
 simp only [ZE,↓reduceIte,pE,pL,pA,pS,pM,pD]
 refine EFn.g ⟨[(90, 90)], [.d (.clo (.func 131) [] [.ptr [.sl (l.map eItem)]])], _, _, collectItem_c l hl, ?_⟩
 simp only [ZE,↓reduceIte,pE,pL,pA,pS,pM,pD]
 rintro V ol new ⟨rfl, rfl, rfl⟩
 simp only [ZE,↓reduceIte,pE,pL,pA,pS,pM,pD]
 refine EFn.g ⟨[(0, 90)], [.ar 0 l.length, .d (.clo (.func 53) [] [])], _, _, sortI_c l (by omega), ?_⟩
 simp only [ZE,↓reduceIte,pE,pL,pA,pS,pM,pD]
 rintro V ol new ⟨rfl, ⟨l', hp, hs, rfl⟩, rfl⟩
 simp only [ZE,↓reduceIte,pE,pL,pA,pS,pM,pD]
 refine ⟨[], [90], ?_⟩
 simp only [ZE,↓reduceIte,pE,pL,pA,pS,pM,pD]
 exact ⟨l', hp, hs, rfl⟩
def yModule (x : Module) : List D := [.agg (eModule x)]
theorem rowModule (l : List Module) : (l.map yModule).map rowOfD = l.map eModule := by rw [List.map_map]; rfl
theorem valuesModule_it (l : List Module) (hl : l.length ≤ 4000000) : IterP Tryz.prog 128 [.ptr [.sl (l.map eModule)]] (fun pre => ∃ i, i ≤ l.length ∧ pre = (l.take i).map yModule) (fun xs => xs = l.map yModule) := by
 intro lim fam stop lp hY
 have := FnL.of_eC (P := Tryz.prog) (args := [.yv 0, .d (.ptr [.sl (l.map eModule)])]) (os := [(0, .ext lim fam stop lp [])]) (PL := fun _ ol new => (∃ xs, xs = l.map yModule ∧ ol = [(0, .ext lim fam stop lp xs)] ∧ new = []) ∨ (ol = [(0, .ext lim (fun _ => stop) stop lp [])] ∧ new = [])) (own := []) (fun _ => []) [0] mixed Tryz.func128 rfl Tryz.call128 Tryz.ntmps128 (Nat.le_of_ble_eq_true rfl) Tryz.results128 ?_
 ·refine this.mono ?_
  rintro V Oo new ⟨ol, rfl, ⟨xs, h1, rfl, h2⟩ | ⟨rfl, h2⟩⟩
  ·exact .inl ⟨xs, h1, rfl, h2⟩
  ·exact .inr ⟨rfl, h2⟩
 simp only [ZE,↓reduceIte,pE,pL,pA,pS,pM,pD, zN,qT,qG,qL,qH,qN,qB,qE,qO,qA,qM]
 refine eloop (fun _ => []) mixed l.length (fun _ => True) (fun i => ([(0, .yv 0), (5, .d (.sl (l.map eModule))), (6, .d (eI l.length)), (7, .d (eI i))], [(0, .ext lim fam stop lp ((l.take i).map yModule))])) trivial ?_ ?_ (fun i hi _ => ?_)
 ·simp only [ZE,↓reduceIte,pE,pL,pA,pS,pM,pD, zN,qT,qG,qL,qH,qN,qB,qE,qO,qA,qM, List.length_map]
 ·simp only [ZE,↓reduceIte,pE,pL,pA,pS,pM,pD, List.take_zero, List.map_nil]
 rcases Nat.lt_or_ge i l.length with h | h
 ·have hw := wrap_succ (show i < 9223372036854775807 by omega)
  have ht : (l.take (i + 1)).map yModule = (l.take i).map yModule ++ [yModule l[i]] := by rw [List.take_succ_eq_append_getElem h, List.map_append]; rfl
  rw [ht]
  simp (maxSteps := 4000000) only [ZE,↓reduceIte,pE,pL,pA,pS,pM,pD, dec_lt h, getD_map h, lt_int h, zN,qT,qG,qL,qH,qN,qB,qE,qO,qA,qM, yModule, List.length_map]
  refine ⟨_, hY, ⟨i + 1, h, ?_⟩, ?_, ?_⟩
  ·rw [ht]
   simp only [ZE,↓reduceIte,pE,pL,pA,pS,pM,pD, yModule]
  ·simp only [ZE,↓reduceIte,pE,pL,pA,pS,pM,pD, zN,qT,qG,qL,qH,qN,qB,qE,qO,qA,qM, hw]
   exact h
  ·simp only [ZE,↓reduceIte,pE,pL,pA,pS,pM,pD, zN,qT,qG,qL,qH,qN,qB,qE,qO,qA,qM]
   refine ⟨[4], [], ?_⟩
   simp only [ZE,↓reduceIte,pE,pL,pA,pS,pM,pD]
 ·have : i = l.length := by omega
  subst this
  simp (maxSteps := 4000000) only [ZE,↓reduceIte,pE,pL,pA,pS,pM,pD, dec_ge h, zN,qT,qG,qL,qH,qN,qB,qE,qO,qA,qM, List.take_length]
  refine ⟨[], [], ?_⟩
  simp only [ZE,↓reduceIte,pE,pL,pA,pS,pM,pD]
  exact .inl ⟨_, rfl, rfl⟩
theorem appendSeqModule_c (l : List Module) (hl : l.length ≤ 4000000) : FnL Tryz.prog 169 [.nils, .d (.clo (.func 128) [] [.ptr [.sl (l.map eModule)]])] [] (fun V ol new => V = .ar 90 l.length ∧ ol = [(90, .arr 53 4 .flat (l.map eModule))] ∧ new = [90]) := by
 refine FnL.of_eC (own := []) (fun id => if id = 0 then [.adB 2 0 90 53 4] else []) [] mixed Tryz.func169 rfl Tryz.call169 Tryz.ntmps169 (Nat.le_of_ble_eq_true rfl) Tryz.results169 ?_
 simp only [ZE,↓reduceIte,pE,pL,pA,pS,pM,pD]
 refine erange mixed (fun _ => []) rfl (by simp only [ZE,↓reduceIte,pE,pL,pA,pS,pM,pD]) (valuesModule_it l hl) (fun pre => [(2, .box [.ar 90 pre.length]), (90, .arr 53 4 .flat (pre.map rowOfD))]) ?_ ?_ ?_ ?_ ?_
 ·simp only [ZE,↓reduceIte,pE,pL,pA,pS,pM,pD]
 ·intro pre; simp [noExtL, isExt]
 ·simp only [ZE,↓reduceIte,pE,pL,pA,pS,pM,pD, psOk, keysT]
 ·rintro pre x ⟨i, hi, h3⟩
  have hlen : (pre ++ [x]).length ≤ 4000000 := by rw [h3, List.length_map, List.length_take]; omega
  simp only [List.length_append, List.length_cons, List.length_nil] at hlen
  obtain ⟨p, rfl⟩ : ∃ p, x = yModule p := by
   have : x ∈ (l.take i).map yModule := by rw [← h3]; simp
   obtain ⟨p, _, rfl⟩ := List.mem_map.1 this
   exact ⟨p, rfl⟩
  simp only [yModule, ZE,↓reduceIte,pE,pL,pA,pS,pM,pD, zipL, roundE, noExtL, isExt, bodyE, keysT]
  refine ⟨⟨by omega, by omega⟩, by simp, by simp, ?_⟩
  rw [List.map_append]; rfl
 ·rintro xs rfl
  simp only [ZE,↓reduceIte,pE,pL,pA,pS,pM,pD]
  refine ⟨[2], [90], ?_⟩
  simp only [ZE,↓reduceIte,pE,pL,pA,pS,pM,pD, List.length_map]
  rw [rowModule]
theorem collectModule_c (l : List Module) (hl : l.length ≤ 4000000) : FnL Tryz.prog 126 [.d (.clo (.func 128) [] [.ptr [.sl (l.map eModule)]])] [] (fun V ol new => V = .ar 90 l.length ∧ ol = [(90, .arr 53 4 .flat (l.map eModule))] ∧ new = [90]) := by
 refine FnL.of_eC (own := []) (fun id => []) [] mixed Tryz.func126 rfl Tryz.call126 Tryz.ntmps126 (Nat.le_of_ble_eq_true rfl) Tryz.results126 ?_
 simp only [ZE,↓reduceIte,pE,pL,pA,pS,pM,pD]
 refine EFn.g ⟨[(90, 90)], [.nils, .d (.clo (.func 128) [] [.ptr [.sl (l.map eModule)]])], _, _, appendSeqModule_c l hl, ?_⟩
 simp only [ZE,↓reduceIte,pE,pL,pA,pS,pM,pD]
 rintro V ol new ⟨rfl, rfl, rfl⟩
 simp only [ZE,↓reduceIte,pE,pL,pA,pS,pM,pD]
 refine ⟨[], [90], ?_⟩
 simp only [ZE,↓reduceIte,pE,pL,pA,pS,pM,pD]
theorem sortedModule_c (l : List Module) (hl : l.length ≤ 4000000) : FnL Tryz.prog 75 [.d (.clo (.func 128) [] [.ptr [.sl (l.map eModule)]]), .d (.clo (.func 57) [] [])] [] (fun V ol new => V = .ar 90 l.length ∧ (∃ l' : List Module, l.Perm l' ∧ (l'.Pairwise fun x y => ¬ cmpN y.name x.name < 0) ∧ ol = [(90, .arr 53 4 .flat (l'.map eModule))]) ∧ new = [90]) := by
 refine FnL.of_eC (own := []) (fun id => []) [] mixed Tryz.func75 rfl Tryz.call75 Tryz.ntmps75 (Nat.le_of_ble_eq_true rfl) Tryz.results75 ?_
 simp only [ZE,↓reduceIte,pE,pL,pA,pS,pM,pD]
 refine EFn.g ⟨[(90, 90)], [.d (.clo (.func 128) [] [.ptr [.sl (l.map eModule)]])], _, _, collectModule_c l hl, ?_⟩
 simp only [ZE,↓reduceIte,pE,pL,pA,pS,pM,pD]
 rintro V ol new ⟨rfl, rfl, rfl⟩
 simp only [ZE,↓reduceIte,pE,pL,pA,pS,pM,pD]
 refine EFn.g ⟨[(0, 90)], [.ar 0 l.length, .d (.clo (.func 57) [] [])], _, _, sortM_c l (by omega), ?_⟩
 simp only [ZE,↓reduceIte,pE,pL,pA,pS,pM,pD]
 rintro V ol new ⟨rfl, ⟨l', hp, hs, rfl⟩, rfl⟩
 simp only [ZE,↓reduceIte,pE,pL,pA,pS,pM,pD]
 refine ⟨[], [90], ?_⟩
 simp only [ZE,↓reduceIte,pE,pL,pA,pS,pM,pD]
 exact ⟨l', hp, hs, rfl⟩
end Go.Proofs.YtbenhdgpogiadaaGreat

namespace Go.Proofs.YtbenhdgpogiadaaGreat
open Go.Aw
open Nat renaming reduceEqDiff → pE, reduceLT → pL, reduceAdd → pA, reduceSub → pS, reduceMul → pM, reduceLeDiff → pD
open Int renaming reduceToNat → qT, reduceGT → qG, reduceLT → qL, reduceGE → qH, reduceBNe → qN, reduceBEq → qB, reduceLE → qE, reduceNe → qO, reduceAdd → qA, reduceNeg → qM
set_option maxRecDepth 100000
set_option maxHeartbeats 20000000
theorem valuesItem_c (l : List Item) : FnP Tryz.prog 78 [.sl (l.map eItem)] (.d (.clo (.func 131) [] [.ptr [.sl (l.map eItem)]])) [] := by
 refine FnP.of_eC (own := []) (fun _ => []) mixed Tryz.func78 rfl Tryz.call78 Tryz.ntmps78 (Nat.le_of_ble_eq_true rfl) Tryz.results78 (fun hok => ?_)
 simp (maxSteps := 4000000) only [ZE,↓reduceIte,pE,pL,pA,pS,pM,pD, zN,qT,qG,qL,qH,qN,qB,qE,qO,qA,qM]
theorem valuesModule_c (l : List Module) : FnP Tryz.prog 76 [.sl (l.map eModule)] (.d (.clo (.func 128) [] [.ptr [.sl (l.map eModule)]])) [] := by
 refine FnP.of_eC (own := []) (fun _ => []) mixed Tryz.func76 rfl Tryz.call76 Tryz.ntmps76 (Nat.le_of_ble_eq_true rfl) Tryz.results76 (fun hok => ?_)
 simp (maxSteps := 4000000) only [ZE,↓reduceIte,pE,pL,pA,pS,pM,pD, zN,qT,qG,qL,qH,qN,qB,qE,qO,qA,qM]
theorem not_cmpP {x y : Part} (h : ¬ cmpP x y < 0) : ltP x y = false := by
 cases hq : ltP x y with
 | false => rfl
 | true => exact absurd ((cmpP_lt x y).2 hq) h
theorem not_cmpN {x y : Str} (h : ¬ cmpN x y < 0) : ltS x y = false := by
 cases hq : ltS x y with
 | false => rfl
 | true => exact absurd ((cmpB_lt x y).2 hq) h
/-- Items with one place each, sorted, as data. -/
theorem sortedItem_p (l : List Item) (hl : l.length ≤ 4000000) (hn : (l.map partI).Nodup) : FnP Tryz.prog 77 [.clo (.func 131) [] [.ptr [.sl (l.map eItem)]], .clo (.func 53) [] []] (.d (.sl ((sortK ltP partI l).map eItem))) [] := by
 refine FnP.of_eC (own := []) (fun i => if i = 2 then [.frz 90] else []) mixed Tryz.func77 rfl Tryz.call77 Tryz.ntmps77 (Nat.le_of_ble_eq_true rfl) Tryz.results77 (fun hok => ?_)
 simp only [ZE,↓reduceIte,pE,pL,pA,pS,pM,pD]
 refine EFn.g ⟨[(90, 90)], [.d (.clo (.func 131) [] [.ptr [.sl (l.map eItem)]])], _, _, collectItem_c l hl, ?_⟩
 simp only [ZE,↓reduceIte,pE,pL,pA,pS,pM,pD]
 rintro V ol new ⟨rfl, rfl, rfl⟩
 simp only [ZE,↓reduceIte,pE,pL,pA,pS,pM,pD]
 refine EFn.g ⟨[(0, 90)], [.ar 0 l.length, .d (.clo (.func 53) [] [])], _, _, sortI_c l (by omega), ?_⟩
 simp only [ZE,↓reduceIte,pE,pL,pA,pS,pM,pD]
 rintro V ol new ⟨rfl, ⟨l', hp, hs, rfl⟩, rfl⟩
 have e : l' = sortK ltP partI l := sortK_unique ordP hn hp (hs.imp fun {a b} h => not_cmpP h)
 have hll : l.length = (l'.map eItem).length := by rw [List.length_map]; exact hp.length_eq
 rw [← e]
 simp only [ZE,↓reduceIte,pE,pL,pA,pS,pM,pD, List.length_map]
 rw [if_pos hp.length_eq]
 simp only [ZE,↓reduceIte,pE,pL,pA,pS,pM,pD]
/-! ### Files in normal form -/
def nrmL (L : List Module) (i : Nat) : List Module := (L.take i).map normM ++ L.drop i
theorem nrmL_len (L : List Module) (i : Nat) : (nrmL L i).length = L.length := by simp [nrmL]; omega
theorem nrmL_zero (L : List Module) : nrmL L 0 = L := by simp [nrmL]
theorem nrmL_all (L : List Module) : nrmL L L.length = L.map normM := by simp [nrmL]
theorem nrmL_at (L : List Module) (i : Nat) (h : i < L.length) : (nrmL L i).getD i zMod = L[i] := by
 unfold nrmL
 rw [List.getD_eq_getElem?_getD, List.getElem?_append_right (by simp; omega)]
 simp [List.length_take, Nat.min_eq_left (Nat.le_of_lt h), h]
theorem nrmL_step (L : List Module) (i : Nat) (h : i < L.length) : nrmL L (i + 1) = (nrmL L i).set i (normM L[i]) := by
 unfold nrmL
 rw [List.take_succ_eq_append_getElem h, List.map_append]
 have hl : ((L.take i).map normM).length = i := by simp; omega
 rw [List.set_append_right _ _ (by omega), hl, Nat.sub_self, List.drop_eq_getElem_cons h, List.set_cons_zero]
 simp only [List.map_cons, List.map_nil, List.append_assoc, List.cons_append, List.nil_append]
theorem normal_c (l : List Module) (hn : (l.map Module.name).Nodup) (hp : ∀ m ∈ l, (m.items.map partI).Nodup) (hl : l.length ≤ 4000000) (hi : ∀ m ∈ l, m.items.length ≤ 4000000) : FnP Tryz.prog 24 [.agg [eModules l]] (.d (.agg [eModules (normF l)])) [] := by
 refine FnP.of_eC (own := []) (fun i => if i = 1007 then [.frz 90] else []) mixed Tryz.func24 rfl Tryz.call24 Tryz.ntmps24 (Nat.le_of_ble_eq_true rfl) Tryz.results24 (fun hok => ?_)
 have vc := valuesModule_c l
 simp only [ZE,↓reduceIte,pE,pL,pA,pS,pM,pD, zN,qT,qG,qL,qH,qN,qB,qE,qO,qA,qM]
 refine EFn.p ?_
 simp only [ZE,↓reduceIte,pE,pL,pA,pS,pM,pD, zN,qT,qG,qL,qH,qN,qB,qE,qO,qA,qM]
 refine ECall.i vc ?_
 simp only [ZE,↓reduceIte,pE,pL,pA,pS,pM,pD, zN,qT,qG,qL,qH,qN,qB,qE,qO,qA,qM]
 refine EFn.g ⟨[(90, 90)], [.d (.clo (.func 128) [] [.ptr [.sl (l.map eModule)]]), .d (.clo (.func 57) [] [])], _, _, sortedModule_c l hl, ?_⟩
 simp only [ZE,↓reduceIte,pE,pL,pA,pS,pM,pD]
 rintro V ol new ⟨rfl, ⟨L, hL, hs, rfl⟩, rfl⟩
 have e : L = sortK ltS Module.name l := sortK_unique ordS hn hL (hs.imp fun {a b} h => not_cmpN h)
 have hLl : L.length = l.length := hL.length_eq.symm
 have hnF : normF l = L.map normM := by unfold normF; rw [e]
 rw [hnF, ← nrmL_all]
 simp only [ZE,↓reduceIte,pE,pL,pA,pS,pM,pD, zN,qT,qG,qL,qH,qN,qB,qE,qO,qA,qM, hLl]
 have hpL : ∀ i (h : i < L.length), (L[i].items.map partI).Nodup ∧ L[i].items.length ≤ 4000000 := fun i h => by
  have hm : L[i] ∈ l := hL.mem_iff.2 (List.getElem_mem h)
  exact ⟨hp _ hm, hi _ hm⟩
 refine eloop (fun i => if i = 2005 then [.ord ⟨[(0, none), (1, none), (2, none), (3, none), (4, none), (5, none), (6, none), (7, none), (8, none), (9, some [])]⟩] else []) mixed l.length (fun _ => True) (fun i => ([(2, .bp 2 0), (3, .bp 3 0), (12, .ar 90 l.length), (13, .d (eI l.length)), (14, .d (eI i))], [(2, .box [.nils]), (3, .box [.ar 90 l.length]), (90, .arr 53 4 .flat ((nrmL L i).map eModule))])) trivial ?_ ?_ (fun i hi' _ => ?_)
 ·simp only [ZE,↓reduceIte,pE,pL,pA,pS,pM,pD]
 ·simp only [ZE,↓reduceIte,pE,pL,pA,pS,pM,pD, nrmL_zero]
 rcases Nat.lt_or_ge i l.length with h | h
 ·have hw := wrap_succ (show i < 9223372036854775807 by omega)
  have hiL : i < L.length := by omega
  obtain ⟨hnd, hll⟩ := hpL i hiL
  rw [nrmL_step L i hiL]
  have hat := nrmL_at L i hiL
  have hnl := nrmL_len L i
  obtain ⟨R, hR⟩ : ∃ R, nrmL L i = R := ⟨_, rfl⟩
  obtain ⟨m, hm⟩ : ∃ m, L[i] = m := ⟨_, rfl⟩
  rw [hR, hm] at hat
  rw [hR] at hnl
  rw [hm] at hnd hll
  rw [hR, hm]
  have hiR : i < R.length := by omega
  have hRi : R[i] = m := by
   rw [List.getD_eq_getElem?_getD, List.getElem?_eq_getElem hiR] at hat
   exact hat
  have ic := valuesItem_c m.items
  have sc := sortedItem_p m.items hll hnd
  have hset : (R.map eModule).set i ((eModule m).set 3 (.sl ((sortK ltP partI m.items).map eItem))) = (R.set i (normM m)).map eModule := by rw [List.map_set]; rfl
  try simp only [ZE,↓reduceIte,pE,pL,pA,pS,pM,pD] at sc
  simp (maxSteps := 4000000) only [ZE,↓reduceIte,pE,pL,pA,pS,pM,pD, dec_lt h, lt_int h, getD_map hiR, hRi, zN,qT,qG,qL,qH,qN,qB,qE,qO,qA,qM, List.length_map, hnl, hLl]
  refine ⟨h, by kernel_rfl, ECall'.i ic ?_⟩
  simp only [ZE,↓reduceIte,pE,pL,pA,pS,pM,pD, zN,qT,qG,qL,qH,qN,qB,qE,qO,qA,qM]
  refine ECall'.i sc ?_
  simp only [ZE,↓reduceIte,pE,pL,pA,pS,pM,pD] at hset
  simp only [ZE,↓reduceIte,pE,pL,pA,pS,pM,pD, zN,qT,qG,qL,qH,qN,qB,qE,qO,qA,qM, hw, hset, getD_map hiR, hRi, List.length_map, hnl, hLl]
  exact ⟨⟨by omega, by omega⟩, h⟩
 ·have : i = l.length := by omega
  subst this
  simp (maxSteps := 4000000) only [ZE,↓reduceIte,pE,pL,pA,pS,pM,pD, dec_ge h, zN,qT,qG,qL,qH,qN,qB,qE,qO,qA,qM, List.length_map, nrmL_len, hLl]
end Go.Proofs.YtbenhdgpogiadaaGreat

namespace Go.Proofs.YtbenhdgpogiadaaGreat
open Go.Aw
open Nat renaming reduceEqDiff → pE, reduceLT → pL, reduceAdd → pA, reduceSub → pS, reduceMul → pM, reduceLeDiff → pD
open Int renaming reduceToNat → qT, reduceGT → qG, reduceLT → qL, reduceGE → qH, reduceBNe → qN, reduceBEq → qB, reduceLE → qE, reduceNe → qO, reduceAdd → qA, reduceNeg → qM
set_option maxRecDepth 100000
set_option maxHeartbeats 20000000
def eEdit (e : Edit) : List D := eS e.module :: (ePart e.part ++ (eB e.has :: (eItem e.to ++ eModule e.head)))
/-- A collector of edits. -/
def dfO (a b : Nat) (l : List Edit) : OL := [(a, .box [.ar b l.length]), (b, .arr 69 43 .flat (l.map eEdit))]
theorem dfO_app (a b : Nat) (l : List Edit) (e : Edit) : dfO a b (l ++ [e]) = [(a, .box [.ar b (l.length + 1)]), (b, .arr 69 43 .flat (l.map eEdit ++ [eEdit e]))] := by
 unfold dfO
 rw [List.map_append, List.length_append]; rfl
theorem dhead_c (l : List Edit) (hl : l.length ≤ 4000000) (m : Module) : FnL Tryz.prog 69 [.bp 0 0, .d (.agg (eModule m))] (dfO 0 1 l) (fun V ol new => V = .tup [] ∧ ol = dfO 0 40 (l ++ [eHead m]) ∧ new = [40]) := by
 refine FnL.of_eC (own := []) (fun i => if i = 0 then [.rnm [(0, 0), (1, 40), (3, 3)]] else if i = 2003 then [.flt ⟨[(0, none), (1, none), (2, none), (3, none), (4, none), (5, none), (6, none), (7, none), (8, none), (9, some [0]), (10, none), (11, none), (12, some [])]⟩ ⟨[], []⟩] else []) [0] mixed Tryz.func69 rfl Tryz.call69 Tryz.ntmps69 (Nat.le_of_ble_eq_true rfl) Tryz.results69 ?_
 have hz : eEdit (eHead m) = eS m.name :: (ePart zPart ++ (eB true :: (eItem zItem ++ eModule { m with items := [] }))) := rfl
 simp only [dfO_app, hz]
 simp only [ZE,↓reduceIte,pE,pL,pA,pS,pM,pD, zN,qT,qG,qL,qH,qN,qB,qE,qO,qA,qM, dfO, ePart, zPart, zItem, zExpr, zNum, emp, op_mk, name_mk, k_mk, w_mk, args_mk, List.map_nil]
 refine ⟨by kernel_rfl, ⟨by omega, by omega⟩, by simp, [3], [40], ?_⟩
 simp only [ZE,↓reduceIte,pE,pL,pA,pS,pM,pD]
/-- A collector in a box, a name. -/
def dfN (d b n : Nat) (name : Str) (q : Nat) (l : List Edit) : OL := dfO d q l ++ [(b, .box [.bp d 0]), (n, .box [.d (eS name)])]
theorem dset_c (l : List Edit) (hl : l.length ≤ 4000000) (n : Str) (x : Item) : FnL Tryz.prog 120 [.d (.agg (eItem x)), .bp 1 0, .bp 2 0] (dfN 0 1 2 n 4 l) (fun V ol new => V = .tup [] ∧ ol = dfN 0 1 2 n 40 (l ++ [eSet n x]) ∧ new = [40]) := by
 refine FnL.of_eK 1999 [0] (own := []) (fun i => if i = 0 then [.rnm [(0, 0), (1, 1), (2, 2), (3, 3), (4, 40), (1999, 1999)]] else if i = 2001 then [.flt ⟨[(0, none), (1, none), (2, none), (3, none), (4, none), (5, none), (6, none), (7, none), (8, none), (9, none), (10, none), (11, some [0]), (12, none), (13, none), (14, some [])]⟩ ⟨[], []⟩] else []) [1, 2] mixed Tryz.func120 rfl Tryz.call120 Tryz.ntmps120 (Nat.le_of_ble_eq_true rfl) Tryz.results120 (by simp [dfN, dfO, freeO, AO.noRef, AV.noRefs, AV.noRef]) (fun gs => ?_)
 have hz : eEdit (eSet n x) = eS n :: (ePart (partI x) ++ (eB true :: (eItem x ++ eModule zMod))) := rfl
 have oc := tof_c x
 simp only [ZE,↓reduceIte,pE,pL,pA,pS,pM,pD, ePart, partI] at oc
 unfold dfN
 simp only [dfO_app, hz]
 simp only [ZE,↓reduceIte,pE,pL,pA,pS,pM,pD, zN,qT,qG,qL,qH,qN,qB,qE,qO,qA,qM, dfO, ePart, zPart, zItem, zMod, zExpr, zNum, emp, op_mk, name_mk, k_mk, w_mk, args_mk, partI, List.map_nil]
 refine ⟨by kernel_rfl, ECall'.i oc ?_⟩
 simp only [ZE,↓reduceIte,pE,pL,pA,pS,pM,pD, zN,qT,qG,qL,qH,qN,qB,qE,qO,qA,qM]
 refine ⟨⟨by omega, by omega⟩, by simp, [3, 1999], [40], ?_⟩
 simp only [ZE,↓reduceIte,pE,pL,pA,pS,pM,pD]
theorem drem_c (l : List Edit) (hl : l.length ≤ 4000000) (n : Str) (x : Item) : FnL Tryz.prog 122 [.d (.agg (eItem x)), .bp 1 0, .bp 2 0] (dfN 0 1 2 n 4 l) (fun V ol new => V = .tup [] ∧ ol = dfN 0 1 2 n 40 (l ++ [eRem n x]) ∧ new = [40]) := by
 refine FnL.of_eK 1999 [0] (own := []) (fun i => if i = 0 then [.rnm [(0, 0), (1, 1), (2, 2), (3, 3), (4, 40), (1999, 1999)]] else if i = 2001 then [.flt ⟨[(0, none), (1, none), (2, none), (3, none), (4, none), (5, none), (6, none), (7, none), (8, none), (9, none), (10, some [0]), (11, none), (12, none), (13, some [])]⟩ ⟨[], []⟩] else []) [1, 2] mixed Tryz.func122 rfl Tryz.call122 Tryz.ntmps122 (Nat.le_of_ble_eq_true rfl) Tryz.results122 (by simp [dfN, dfO, freeO, AO.noRef, AV.noRefs, AV.noRef]) (fun gs => ?_)
 have hz : eEdit (eRem n x) = eS n :: (ePart (partI x) ++ (eB false :: (eItem zItem ++ eModule zMod))) := rfl
 have oc := tof_c x
 simp only [ZE,↓reduceIte,pE,pL,pA,pS,pM,pD, ePart, partI] at oc
 unfold dfN
 simp only [dfO_app, hz]
 simp only [ZE,↓reduceIte,pE,pL,pA,pS,pM,pD, zN,qT,qG,qL,qH,qN,qB,qE,qO,qA,qM, dfO, ePart, zPart, zItem, zMod, zExpr, zNum, emp, op_mk, name_mk, k_mk, w_mk, args_mk, partI, List.map_nil]
 refine ⟨by kernel_rfl, ECall'.i oc ?_⟩
 simp only [ZE,↓reduceIte,pE,pL,pA,pS,pM,pD, zN,qT,qG,qL,qH,qN,qB,qE,qO,qA,qM]
 refine ⟨⟨by omega, by omega⟩, by simp, [3, 1999], [40], ?_⟩
 simp only [ZE,↓reduceIte,pE,pL,pA,pS,pM,pD]
end Go.Proofs.YtbenhdgpogiadaaGreat

namespace Go.Proofs.YtbenhdgpogiadaaGreat
open Go.Aw
open Nat renaming reduceEqDiff → pE, reduceLT → pL, reduceAdd → pA, reduceSub → pS, reduceMul → pM, reduceLeDiff → pD
open Int renaming reduceToNat → qT, reduceGT → qG, reduceLT → qL, reduceGE → qH, reduceBNe → qN, reduceBEq → qB, reduceLE → qE, reduceNe → qO, reduceAdd → qA, reduceNeg → qM
set_option maxRecDepth 100000
set_option maxHeartbeats 20000000
def setB (b n : Nat) : AO := .box [.clo (.func 120) [] [.bp b 0, .bp n 0]]
def bothE (n : Str) (x y : Item) : List Edit := if sameI x y = true then [] else [eSet n y]
theorem dboth_c (l : List Edit) (hl : l.length ≤ 4000000) (n : Str) (x y : Item) : FnL Tryz.prog 123 [.d (.agg (eItem x)), .d (.agg (eItem y)), .bp 103 0] (dfN 100 101 102 n 104 l ++ [(103, setB 101 102)])
  (fun V ol new => V = .tup [] ∧ ol = dfN 100 101 102 n 114 (l ++ bothE n x y) ++ [(103, setB 101 102)] ∧ new = [114]) := by
 refine FnL.of_eK 1999 [100, 101, 102] (own := []) (fun i => if i = 0 then [.rnm [(100, 100), (101, 101), (102, 102), (104, 114), (103, 103), (3, 3), (4, 4), (1999, 1999)]] else if i = 2 then [.rnm [(100, 100), (101, 101), (102, 102), (115, 114), (103, 103), (3, 3), (4, 4), (1999, 1999)]] else []) [2] mixed Tryz.func123 rfl Tryz.call123 Tryz.ntmps123 (Nat.le_of_ble_eq_true rfl) Tryz.results123 (by simp [dfN, dfO, setB, freeO, AO.noRef, AV.noRefs, AV.noRef]) (fun gs => ?_)
 have ic := sameI_c x y
 have sc := dset_c l hl n y
 unfold bothE
 rcases Bool.eq_false_or_eq_true (sameI x y) with hs | hs
 ·rw [hs] at ic ⊢
  simp only [ZE,↓reduceIte,pE,pL,pA,pS,pM,pD] at ic
  simp only [ZE,↓reduceIte,pE,pL,pA,pS,pM,pD, zN,qT,qG,qL,qH,qN,qB,qE,qO,qA,qM, dfN, dfO, setB, List.append_nil]
  refine EFn.p ?_
  simp only [ZE,↓reduceIte,pE,pL,pA,pS,pM,pD, zN,qT,qG,qL,qH,qN,qB,qE,qO,qA,qM]
  refine ECall.i ic ?_
  simp only [ZE,↓reduceIte,pE,pL,pA,pS,pM,pD, zN,qT,qG,qL,qH,qN,qB,qE,qO,qA,qM]
  refine ⟨[3, 4, 1999], [114], ?_⟩
  simp only [ZE,↓reduceIte,pE,pL,pA,pS,pM,pD]
 ·rw [hs] at ic ⊢
  simp only [ZE,↓reduceIte,pE,pL,pA,pS,pM,pD] at ic
  simp only [ZE,↓reduceIte,pE,pL,pA,pS,pM,pD, dfN, dfO] at sc
  simp only [ZE,↓reduceIte,pE,pL,pA,pS,pM,pD, zN,qT,qG,qL,qH,qN,qB,qE,qO,qA,qM, dfN, dfO, setB]
  refine EFn.p ?_
  simp only [ZE,↓reduceIte,pE,pL,pA,pS,pM,pD, zN,qT,qG,qL,qH,qN,qB,qE,qO,qA,qM]
  refine ECall.i ic ?_
  simp only [ZE,↓reduceIte,pE,pL,pA,pS,pM,pD, zN,qT,qG,qL,qH,qN,qB,qE,qO,qA,qM]
  refine EFn.g ⟨[(0, 100), (1, 101), (2, 102), (4, 114), (40, 115)], _, _, _, sc, ?_⟩
  simp only [ZE,↓reduceIte,pE,pL,pA,pS,pM,pD]
  rintro V ol new ⟨rfl, rfl, rfl⟩
  simp only [ZE,↓reduceIte,pE,pL,pA,pS,pM,pD]
  refine ⟨[3, 4, 1999], [114], ?_⟩
  simp only [ZE,↓reduceIte,pE,pL,pA,pS,pM,pD]
end Go.Proofs.YtbenhdgpogiadaaGreat

namespace Go.Proofs.YtbenhdgpogiadaaGreat
open Go.Aw
open Nat renaming reduceEqDiff → pE, reduceLT → pL, reduceAdd → pA, reduceSub → pS, reduceMul → pM, reduceLeDiff → pD
open Int renaming reduceToNat → qT, reduceGT → qG, reduceLT → qL, reduceGE → qH, reduceBNe → qN, reduceBEq → qB, reduceLE → qE, reduceNe → qO, reduceAdd → qA, reduceNeg → qM
set_option maxRecDepth 100000
set_option maxHeartbeats 20000000
theorem sameM_c (m n : Module) : FnP Tryz.prog 60 [.agg (eModule m), .agg (eModule n)] (.d (eB (sameM m n))) [] := by
 refine FnP.of_eC (own := []) (fun i => if i = 2001 then [.chn] else []) mixed Tryz.func60 rfl Tryz.call60 Tryz.ntmps60 (Nat.le_of_ble_eq_true rfl) Tryz.results60 (fun hok => ?_)
 have hl : m.items.length ≤ 9223372036854775807 := by
  have := (okL_cons hok).1
  simp only [eModule, eItems, D.ok, D.okL] at this
  exact (ok_map this.2.2.2.1).1
 have c1 := sameH_c m n
 have c2 := eqfItem_c m.items n.items hl 63 sameI (fun x _ y _ => sameI_c x y)
 rw [eqL_I] at c2
 simp only [eModule, ZE,↓reduceIte,pE,pL,pA,pS,pM,pD] at c1 c2
 simp (maxSteps := 4000000) only [ZE,↓reduceIte,pE,pL,pA,pS,pM,pD, zN,qT,qG,qL,qH,qN,qB,qE,qO,qA,qM]
 refine EFn.p ?_
 simp only [ZE,↓reduceIte,pE,pL,pA,pS,pM,pD, zN,qT,qG,qL,qH,qN,qB,qE,qO,qA,qM]
 refine ECall.i c1 ?_
 simp only [ZE,↓reduceIte,pE,pL,pA,pS,pM,pD, zN,qT,qG,qL,qH,qN,qB,qE,qO,qA,qM]
 refine ECallC.i (fun _ => c2) ?_
 simp only [ZE,↓reduceIte,pE,pL,pA,pS,pM,pD, zN,qT,qG,qL,qH,qN,qB,qE,qO,qA,qM, sameM]
theorem same_c (f g : List Module) : FnP Tryz.prog 19 [.agg [eModules f], .agg [eModules g]] (.d (eB (sameF f g))) [] := by
 refine FnP.of_eC (own := []) (fun _ => []) mixed Tryz.func19 rfl Tryz.call19 Tryz.ntmps19 (Nat.le_of_ble_eq_true rfl) Tryz.results19 (fun hok => ?_)
 have hl : f.length ≤ 9223372036854775807 := by
  have := (okL_cons hok).1
  simp only [D.ok, D.okL] at this
  exact (ok_map this.1).1
 have c2 := eqfModule_c f g hl 60 sameM (fun x _ y _ => sameM_c x y)
 rw [eqL_M] at c2
 simp (maxSteps := 4000000) only [ZE,↓reduceIte,pE,pL,pA,pS,pM,pD, zN,qT,qG,qL,qH,qN,qB,qE,qO,qA,qM]
 refine EFn.p ?_
 simp only [ZE,↓reduceIte,pE,pL,pA,pS,pM,pD, zN,qT,qG,qL,qH,qN,qB,qE,qO,qA,qM]
 refine ECall.i c2 ?_
 simp only [ZE,↓reduceIte,pE,pL,pA,pS,pM,pD, zN,qT,qG,qL,qH,qN,qB,qE,qO,qA,qM]
end Go.Proofs.YtbenhdgpogiadaaGreat

namespace Go.Proofs.YtbenhdgpogiadaaGreat
open Go.Aw
open Nat renaming reduceEqDiff → pE, reduceLT → pL, reduceAdd → pA, reduceSub → pS, reduceMul → pM, reduceLeDiff → pD
open Int renaming reduceToNat → qT, reduceGT → qG, reduceLT → qL, reduceGE → qH, reduceBNe → qN, reduceBEq → qB, reduceLE → qE, reduceNe → qO, reduceAdd → qA, reduceNeg → qM
set_option maxRecDepth 100000
set_option maxHeartbeats 20000000
theorem nanI_c (x : Int) : FnP Tryz.prog 210 [eI x] (.d (eB false)) [] := by
 refine FnP.of_eC (own := []) (fun _ => []) mixed Tryz.func210 rfl Tryz.call210 Tryz.ntmps210 (Nat.le_of_ble_eq_true rfl) Tryz.results210 (fun hok => ?_)
 simp (maxSteps := 4000000) only [ZE,↓reduceIte,pE,pL,pA,pS,pM,pD, zN,qT,qG,qL,qH,qN,qB,qE,qO,qA,qM]
theorem cmpI_c (x y : Int) : FnP Tryz.prog 155 [eI x, eI y] (.d (eI (cmpI x y))) [] := by
 refine FnP.of_eC (own := []) (fun _ => []) mixed Tryz.func155 rfl Tryz.call155 Tryz.ntmps155 (Nat.le_of_ble_eq_true rfl) Tryz.results155 (fun hok => ?_)
 have n1 := nanI_c x
 have n2 := nanI_c y
 simp only [ZE,↓reduceIte,pE,pL,pA,pS,pM,pD] at n1 n2
 unfold cmpI
 simp (maxSteps := 4000000) only [ZE,↓reduceIte,pE,pL,pA,pS,pM,pD, zN,qT,qG,qL,qH,qN,qB,qE,qO,qA,qM]
 refine EFn.p ?_
 simp only [ZE,↓reduceIte,pE,pL,pA,pS,pM,pD, zN,qT,qG,qL,qH,qN,qB,qE,qO,qA,qM]
 refine ECall.i n1 ?_
 simp only [ZE,↓reduceIte,pE,pL,pA,pS,pM,pD, zN,qT,qG,qL,qH,qN,qB,qE,qO,qA,qM]
 refine EFn.p ?_
 simp only [ZE,↓reduceIte,pE,pL,pA,pS,pM,pD, zN,qT,qG,qL,qH,qN,qB,qE,qO,qA,qM]
 refine ECall.i n2 ?_
 by_cases h : x < y
 ·have d : decide (x < y) = true := decide_eq_true h
  simp only [ZE,↓reduceIte,pE,pL,pA,pS,pM,pD, zN,qT,qG,qL,qH,qN,qB,qE,qO,qA,qM, d, h]
 ·have d : decide (x < y) = false := decide_eq_false h
  by_cases h' : y < x
  ·have d' : decide (x > y) = true := decide_eq_true h'
   simp only [ZE,↓reduceIte,pE,pL,pA,pS,pM,pD, zN,qT,qG,qL,qH,qN,qB,qE,qO,qA,qM, d, d', h, h']
  ·have d' : decide (x > y) = false := decide_eq_false h'
   simp only [ZE,↓reduceIte,pE,pL,pA,pS,pM,pD, zN,qT,qG,qL,qH,qN,qB,qE,qO,qA,qM, d, d', h, h']
theorem nanS_c (x : Str) : FnP Tryz.prog 167 [eS x] (.d (eB false)) [] := by
 refine FnP.of_eC (own := []) (fun _ => []) mixed Tryz.func167 rfl Tryz.call167 Tryz.ntmps167 (Nat.le_of_ble_eq_true rfl) Tryz.results167 (fun hok => ?_)
 simp (maxSteps := 4000000) only [ZE,↓reduceIte,pE,pL,pA,pS,pM,pD, zN,qT,qG,qL,qH,qN,qB,qE,qO,qA,qM]
theorem cmpS_c (x y : Str) : FnP Tryz.prog 115 [eS x, eS y] (.d (eI (cmpB x.1 y.1))) [] := by
 refine FnP.of_eC (own := []) (fun _ => []) mixed Tryz.func115 rfl Tryz.call115 Tryz.ntmps115 (Nat.le_of_ble_eq_true rfl) Tryz.results115 (fun hok => ?_)
 have n1 := nanS_c x
 have n2 := nanS_c y
 simp only [ZE,↓reduceIte,pE,pL,pA,pS,pM,pD] at n1 n2
 simp (maxSteps := 4000000) only [ZE,↓reduceIte,pE,pL,pA,pS,pM,pD, zN,qT,qG,qL,qH,qN,qB,qE,qO,qA,qM]
 refine EFn.p ?_
 simp only [ZE,↓reduceIte,pE,pL,pA,pS,pM,pD, zN,qT,qG,qL,qH,qN,qB,qE,qO,qA,qM]
 refine ECall.i n1 ?_
 simp only [ZE,↓reduceIte,pE,pL,pA,pS,pM,pD, zN,qT,qG,qL,qH,qN,qB,qE,qO,qA,qM]
 refine EFn.p ?_
 simp only [ZE,↓reduceIte,pE,pL,pA,pS,pM,pD, zN,qT,qG,qL,qH,qN,qB,qE,qO,qA,qM]
 refine ECall.i n2 ?_
 simp only [ZE,↓reduceIte,pE,pL,pA,pS,pM,pD, zN,qT,qG,qL,qH,qN,qB,qE,qO,qA,qM]
 have e : (x.1.toList == y.1.toList) = decide (x = y) := by
  rw [Bool.eq_iff_iff, beq_iff_eq, decide_eq_true_eq]
  exact ⟨toList_inj, fun h => by rw [h]⟩
 unfold cmpB
 rw [e]
 (repeat' split) <;> rfl
theorem or2_c (x y : Int) : FnP Tryz.prog 154 [.sl [[eI x], [eI y]]] (.d (eI (orI [x, y]))) [] := by
 refine FnP.of_eC (own := []) (fun _ => []) mixed Tryz.func154 rfl Tryz.call154 Tryz.ntmps154 (Nat.le_of_ble_eq_true rfl) Tryz.results154 (fun hok => ?_)
 simp (maxSteps := 4000000) only [ZE,↓reduceIte,pE,pL,pA,pS,pM,pD, zN,qT,qG,qL,qH,qN,qB,qE,qO,qA,qM]
 refine eloop (fun _ => []) mixed 2 (fun i => (1 ≤ i → x = 0) ∧ (2 ≤ i → y = 0)) (fun i => ([(3, .d (eI 0)), (6, .d (.sl [[eI x], [eI y]])), (7, .d (eI 2)), (8, .d (eI i))], [])) ⟨by omega, by omega⟩ (by simp only [ZE,↓reduceIte,pE,pL,pA,pS,pM,pD]) (by simp only [ZE,↓reduceIte,pE,pL,pA,pS,pM,pD]) (fun i hi hI => ?_)
 match i, hi with
 | 0, _ =>
  rcases Bool.eq_false_or_eq_true (x != 0) with h | h
  ·have e : orI [x, y] = x := by simp [orI, h]
   simp (maxSteps := 4000000) only [ZE,↓reduceIte,pE,pL,pA,pS,pM,pD, zN,qT,qG,qL,qH,qN,qB,qE,qO,qA,qM, h, e]
  ·have hx : x = 0 := by simpa using h
   simp (maxSteps := 4000000) only [ZE,↓reduceIte,pE,pL,pA,pS,pM,pD, zN,qT,qG,qL,qH,qN,qB,qE,qO,qA,qM, h]
   first | exact ⟨hx, by rw [show IntKind.i64.wrap 1 = 1 from by decide]⟩ | exact ⟨⟨hx, hy⟩, by rw [show IntKind.i64.wrap 2 = 2 from by decide]⟩
 | 1, _ =>
  have hx := hI.1 (by omega)
  rcases Bool.eq_false_or_eq_true (y != 0) with h | h
  ·have e : orI [x, y] = y := by simp [orI, hx, h]
   simp (maxSteps := 4000000) only [ZE,↓reduceIte,pE,pL,pA,pS,pM,pD, zN,qT,qG,qL,qH,qN,qB,qE,qO,qA,qM, h, e]
  ·have hy : y = 0 := by simpa using h
   simp (maxSteps := 4000000) only [ZE,↓reduceIte,pE,pL,pA,pS,pM,pD, zN,qT,qG,qL,qH,qN,qB,qE,qO,qA,qM, h]
   first | exact ⟨hx, by rw [show IntKind.i64.wrap 1 = 1 from by decide]⟩ | exact ⟨⟨hx, hy⟩, by rw [show IntKind.i64.wrap 2 = 2 from by decide]⟩
 | 2, _ =>
  have hx := hI.1 (by omega)
  have hy := hI.2 (by omega)
  have e : orI [x, y] = 0 := by simp [orI, hx, hy]
  simp (maxSteps := 4000000) only [ZE,↓reduceIte,pE,pL,pA,pS,pM,pD, zN,qT,qG,qL,qH,qN,qB,qE,qO,qA,qM, e]
theorem part_c (a b : Part) : FnP Tryz.prog 110 [.agg (ePart a), .agg (ePart b)] (.d (eI (cmpP a b))) [] := by
 refine FnP.of_eC (own := []) (fun i => if i = 2001 then [.ord ⟨[(0, none), (1, none), (2, none), (3, none), (4, none), (5, none), (6, none), (7, none), (8, none), (9, none), (10, none), (11, none), (12, none)]⟩] else []) mixed Tryz.func110 rfl Tryz.call110 Tryz.ntmps110 (Nat.le_of_ble_eq_true rfl) Tryz.results110 (fun hok => ?_)
 have c1 := cmpI_c a.kind.1 b.kind.1
 have c2 := cmpS_c a.name b.name
 have c3 := or2_c (cmpI a.kind.1 b.kind.1) (cmpB a.name.1 b.name.1)
 simp only [ZE,↓reduceIte,pE,pL,pA,pS,pM,pD] at c1 c2 c3
 unfold cmpP
 simp (maxSteps := 4000000) only [ZE,↓reduceIte,pE,pL,pA,pS,pM,pD, zN,qT,qG,qL,qH,qN,qB,qE,qO,qA,qM, ePart]
 refine ⟨by kernel_rfl, ECall'.i c1 ?_⟩
 simp only [ZE,↓reduceIte,pE,pL,pA,pS,pM,pD, zN,qT,qG,qL,qH,qN,qB,qE,qO,qA,qM]
 refine ECall'.i c2 ?_
 simp only [ZE,↓reduceIte,pE,pL,pA,pS,pM,pD, zN,qT,qG,qL,qH,qN,qB,qE,qO,qA,qM]
 refine ECall'.i c3 ?_
 simp only [ZE,↓reduceIte,pE,pL,pA,pS,pM,pD, zN,qT,qG,qL,qH,qN,qB,qE,qO,qA,qM]
theorem byItem_c (x y : Item) : FnP Tryz.prog 53 [.agg (eItem x), .agg (eItem y)] (.d (eI (cmpP (partI x) (partI y)))) [] := by
 refine FnP.of_eC (own := []) (fun i => if i = 2001 then [.ord ⟨[(0, none), (1, none), (2, none), (3, none), (4, none), (5, none)]⟩] else []) mixed Tryz.func53 rfl Tryz.call53 Tryz.ntmps53 (Nat.le_of_ble_eq_true rfl) Tryz.results53 (fun hok => ?_)
 have c1 := tof_c x
 have c2 := tof_c y
 have c3 := part_c (partI x) (partI y)
 simp only [ZE,↓reduceIte,pE,pL,pA,pS,pM,pD] at c1 c2 c3
 simp (maxSteps := 4000000) only [ZE,↓reduceIte,pE,pL,pA,pS,pM,pD, zN,qT,qG,qL,qH,qN,qB,qE,qO,qA,qM]
 refine ⟨by kernel_rfl, ECall'.i c1 ?_⟩
 simp only [ZE,↓reduceIte,pE,pL,pA,pS,pM,pD, zN,qT,qG,qL,qH,qN,qB,qE,qO,qA,qM]
 refine ECall'.i c2 ?_
 simp only [ZE,↓reduceIte,pE,pL,pA,pS,pM,pD, zN,qT,qG,qL,qH,qN,qB,qE,qO,qA,qM]
 refine ECall'.i c3 ?_
 simp only [ZE,↓reduceIte,pE,pL,pA,pS,pM,pD, zN,qT,qG,qL,qH,qN,qB,qE,qO,qA,qM]
theorem byName_c (x y : Module) : FnP Tryz.prog 57 [.agg (eModule x), .agg (eModule y)] (.d (eI (cmpN x.name y.name))) [] := by
 refine FnP.of_eC (own := []) (fun _ => []) mixed Tryz.func57 rfl Tryz.call57 Tryz.ntmps57 (Nat.le_of_ble_eq_true rfl) Tryz.results57 (fun hok => ?_)
 have c1 := cmpS_c x.name y.name
 simp only [ZE,↓reduceIte,pE,pL,pA,pS,pM,pD] at c1
 unfold cmpN
 simp (maxSteps := 4000000) only [ZE,↓reduceIte,pE,pL,pA,pS,pM,pD, zN,qT,qG,qL,qH,qN,qB,qE,qO,qA,qM]
 refine EFn.p ?_
 simp only [ZE,↓reduceIte,pE,pL,pA,pS,pM,pD, zN,qT,qG,qL,qH,qN,qB,qE,qO,qA,qM]
 refine ECall.i c1 ?_
 simp only [ZE,↓reduceIte,pE,pL,pA,pS,pM,pD, zN,qT,qG,qL,qH,qN,qB,qE,qO,qA,qM]
theorem cmpP_zero (a b : Part) : cmpP a b = 0 ↔ a = b := by
 constructor
 ·intro h
  refine ordP.conn _ _ ?_ ?_
  ·cases hq : ltP a b with
   | false => rfl
   | true => have := (cmpP_lt a b).2 hq; omega
  ·unfold cmpP orI cmpI at h
   obtain ⟨a1, a2⟩ := a
   obtain ⟨b1, b2⟩ := b
   simp only at h
   unfold ltP
   simp only [Bool.or_eq_false_iff, decide_eq_false_iff_not, Bool.and_eq_false_iff]
   rcases Int.lt_trichotomy a1.1 b1.1 with h1 | h1 | h1
   ·simp [h1] at h
   ·rw [h1] at h
    simp only [Int.lt_irrefl, if_false] at h
    by_cases h0 : cmpB a2.1 b2.1 = 0
    ·have e := (cmpB_zero a2 b2).1 h0
     subst e
     exact ⟨by omega, .inr (ordS.irr _)⟩
    ·simp [h0] at h
   ·have h2 : ¬ a1.1 < b1.1 := by omega
    simp [h1, h2] at h
 ·rintro rfl
  have h1 := ordP.irr a
  have h0 := (cmpB_zero a.name a.name).2 rfl
  simp [cmpP, orI, cmpI, h0]
end Go.Proofs.YtbenhdgpogiadaaGreat

namespace Go.Proofs.YtbenhdgpogiadaaGreat
open Go.Aw
open Nat renaming reduceEqDiff → pE, reduceLT → pL, reduceAdd → pA, reduceSub → pS, reduceMul → pM, reduceLeDiff → pD
open Int renaming reduceToNat → qT, reduceGT → qG, reduceLT → qL, reduceGE → qH, reduceBNe → qN, reduceBEq → qB, reduceLE → qE, reduceNe → qO, reduceAdd → qA, reduceNeg → qM
set_option maxRecDepth 100000
set_option maxHeartbeats 20000000
/-- How many elements are ahead of a key. -/
def lowN {α κ : Type} (lt : κ → κ → Bool) (key : α → κ) (l : List α) (k : κ) : Nat := l.countP fun x => lt (key x) k
section
variable {α κ : Type} {lt : κ → κ → Bool} {key : α → κ}
theorem low_eq {l : List α} {k : κ} {i : Nat} (hi : i ≤ l.length) (h4 : ∀ q (h : q < l.length), q < i → lt (key l[q]) k = true) (h5 : ∀ q (h : q < l.length), i ≤ q → lt (key l[q]) k = false) : lowN lt key l k = i := by
 unfold lowN
 rw [← List.take_append_drop i l, List.countP_append]
 have a : (l.take i).countP (fun x => lt (key x) k) = (l.take i).length := by
  rw [List.countP_eq_length]
  intro x hx
  obtain ⟨q, hq, rfl⟩ := List.getElem_of_mem hx
  rw [List.length_take] at hq
  rw [List.getElem_take]
  exact h4 q (by omega) (by omega)
 have b : (l.drop i).countP (fun x => lt (key x) k) = 0 := by
  rw [List.countP_eq_zero]
  intro x hx
  obtain ⟨q, hq, rfl⟩ := List.getElem_of_mem hx
  rw [List.length_drop] at hq
  rw [List.getElem_drop, h5 (i + q) (by omega) (by omega)]
  simp
 rw [a, b, List.length_take]
 omega
theorem lkp_at [DecidableEq κ] (o : TOrd lt) {l : List α} (hs : Srt lt key l) {k : κ} {i : Nat} (h4 : ∀ q (h : q < l.length), q < i → lt (key l[q]) k = true) (h5 : ∀ q (h : q < l.length), i ≤ q → lt (key l[q]) k = false) : (lkp key l k).isSome = true ↔ ∃ h : i < l.length, key l[i] = k := by
 constructor
 ·intro h
  obtain ⟨x, hx⟩ := Option.isSome_iff_exists.1 h
  obtain ⟨hm, hk⟩ := lkp_some hx
  obtain ⟨q, hq, rfl⟩ := List.getElem_of_mem hm
  have hqi : ¬ q < i := fun hlt => by have := h4 q hq hlt; rw [hk, o.irr] at this; cases this
  by_cases e : q = i
  ·subst e; exact ⟨hq, hk⟩
  ·have hiq : i < q := by omega
   have h1 := List.pairwise_iff_getElem.1 hs i q (by omega) hq hiq
   have h2 := h5 i (by omega) (Nat.le_refl _)
   rw [hk, h2] at h1; cases h1
 ·rintro ⟨h, rfl⟩
  rw [lkp_mem o hs (List.getElem_mem h)]; rfl
end
theorem bsModule_c (l : List Module) (hl : l.length ≤ 4000000) (z : Module) (hs : Srt ltS Module.name l) : FnL Tryz.prog 156 [.ar 100 l.length, .d (.agg (eModule z)), .d (.clo (.func 57) [] [])] [(100, .arr 53 4 .flat (l.map eModule))] (fun V ol new => V = .tup [.d (eI (lowN ltS Module.name l (Module.name z))), .d (eB (lkp Module.name l (Module.name z)).isSome)] ∧ ol = [(100, .arr 53 4 .flat (l.map eModule))] ∧ new = []) := by
 refine FnL.of_eC (own := []) (fun i => if i = 2008 then [.ord ⟨[(0, none), (1, none), (2, none), (3, none), (4, none), (5, none), (6, none), (7, none), (8, none), (9, none), (10, none), (11, none), (12, none), (13, none), (14, none), (15, none)]⟩] else []) [0] mixed Tryz.func156 rfl Tryz.call156 Tryz.ntmps156 (Nat.le_of_ble_eq_true rfl) Tryz.results156 ?_
 simp only [ZE,↓reduceIte,pE,pL,pA,pS,pM,pD, zN,qT,qG,qL,qH,qN,qB,qE,qO,qA,qM]
 have hL := fun (q : Nat) (h : q < l.length) => byName_c l[q] z
 refine eloopX (X := Nat × Nat) (fun _ i => []) mixed l.length (fun r X => X.1 ≤ X.2 ∧ X.2 ≤ l.length ∧ X.2 - X.1 + r ≤ l.length ∧ (∀ q (h : q < l.length), q < X.1 → ltS (Module.name l[q]) (Module.name z) = true) ∧ (∀ q (h : q < l.length), X.2 ≤ q → ltS (Module.name l[q]) (Module.name z) = false))
  (fun r X => ([(0, .ar 100 l.length), (2, .d (.clo (.func 57) [] [])), (4, .bp 4 0), (8, .d (eI l.length)), (9, .d (eI X.1)), (10, .d (eI X.2))], [(4, .box ((eModule z).map .d)), (100, .arr 53 4 .flat (l.map eModule))])) (0, l.length) ?_ ?_ ?_ (fun r X hr hI => ?_)
 ·exact ⟨Nat.zero_le _, Nat.le_refl _, by omega, by intro q _ h; omega, by intro q h h'; omega⟩
 ·simp only [ZE,↓reduceIte,pE,pL,pA,pS,pM,pD]
 ·simp only [ZE,↓reduceIte,pE,pL,pA,pS,pM,pD]
 obtain ⟨i, j⟩ := X
 obtain ⟨h1, h2, h3, h4, h5⟩ := hI
 simp only at h1 h2 h3 h4 h5
 rcases Nat.lt_or_ge i j with h | h
 ·have d1 : decide ((i : Int) < (j : Int)) = true := by simp; omega
  have hh : (i + j) / 2 < l.length := by omega
  have w1 : IntKind.i64.wrap ((i : Int) + (j : Int)) = ((i + j : Nat) : Int) := by rw [← Int.natCast_add]; exact wrap_id (by omega) (by omega)
  have w2 : IntKind.u64.wrap ((i + j : Nat) : Int) = ((i + j : Nat) : Int) := by simp only [IntKind.wrap, IntKind.bits, IntKind.signed]; simp; omega
  have wh : IntKind.i64.wrap ((IntKind.u64.wrap ((i + j : Nat) : Int)).fdiv (2 ^ min 1 IntKind.u64.bits)) = (((i + j) / 2 : Nat) : Int) := by
   rw [w2, show (2 : Int) ^ min 1 IntKind.u64.bits = 2 from by decide, Int.fdiv_eq_ediv_of_nonneg _ (by omega), show ((i + j : Nat) : Int) / 2 = (((i + j) / 2 : Nat) : Int) from by omega]
   exact wrap_id (by omega) (by omega)
  obtain ⟨m, hm⟩ : ∃ m, (i + j) / 2 = m := ⟨_, rfl⟩
  rw [hm] at wh hh
  have hw := wrap_succ (show m < 9223372036854775807 by omega)
  obtain ⟨x, hx⟩ : ∃ x, l[m] = x := ⟨_, rfl⟩
  have hc := hL m hh
  rw [hx] at hc
  obtain ⟨c, hcc⟩ : ∃ c, cmpN x.name z.name = c := ⟨_, rfl⟩
  have hlt : c < 0 ↔ ltS (Module.name x) (Module.name z) = true := by rw [← hcc]; exact cmpB_lt _ _
  rw [hcc] at hc
  simp only [ZE,↓reduceIte,pE,pL,pA,pS,pM,pD] at hc
  simp only [ZE,↓reduceIte,pE,pL,pA,pS,pM,pD, zN,qT,qG,qL,qH,qN,qB,qE,qO,qA,qM, d1, w1, wh, lt_int hh, getD_map hh, hx, List.length_map]
  refine ⟨by kernel_rfl, hh, EFn.p ?_⟩
  simp only [ZE,↓reduceIte,pE,pL,pA,pS,pM,pD, zN,qT,qG,qL,qH,qN,qB,qE,qO,qA,qM]
  refine ECall.i hc ?_
  by_cases hneg : c < 0
  ·have dn : decide (c < 0) = true := decide_eq_true hneg
   simp only [ZE,↓reduceIte,pE,pL,pA,pS,pM,pD, zN,qT,qG,qL,qH,qN,qB,qE,qO,qA,qM, dn, hw]
   simp only [nextX]
   refine ⟨by omega, (m + 1, j), ⟨by simp only; omega, h2, by simp only; omega, fun q hq hqm => ?_, h5⟩, ?_⟩
   ·rcases Nat.lt_succ_iff_lt_or_eq.1 hqm with hlt' | rfl
    ·exact ordS.tr _ _ _ (by have := List.pairwise_iff_getElem.1 hs q m hq hh hlt'; rw [hx] at this; exact this) (hlt.1 hneg)
    ·rw [hx]; exact hlt.1 hneg
   ·simp only [ZE,↓reduceIte,pE,pL,pA,pS,pM,pD]
  ·have dn : decide (c < 0) = false := decide_eq_false hneg
   simp only [ZE,↓reduceIte,pE,pL,pA,pS,pM,pD, zN,qT,qG,qL,qH,qN,qB,qE,qO,qA,qM, dn]
   have hnl : ltS (Module.name x) (Module.name z) = false := by
    cases hq : ltS (Module.name x) (Module.name z) with
    | false => rfl
    | true => exact absurd (hlt.2 hq) hneg
   simp only [nextX]
   refine ⟨by omega, (i, m), ⟨by simp only; omega, by simp only; omega, by simp only; omega, h4, fun q hq hqm => ?_⟩, ?_⟩
   ·rcases Nat.lt_or_ge m q with hlt' | hge
    ·cases hq2 : ltS (Module.name l[q]) (Module.name z) with
     | false => rfl
     | true =>
      have h1 := List.pairwise_iff_getElem.1 hs m q hh hq hlt'
      rw [hx] at h1
      have := ordS.tr _ _ _ h1 hq2
      rw [hnl] at this; cases this
    ·have : q = m := by simp only at hqm; omega
     subst this
     rw [hx]; exact hnl
   ·simp only [ZE,↓reduceIte,pE,pL,pA,pS,pM,pD]
 ·have e : i = j := by omega
  subst e
  have d1 : decide ((i : Int) < (i : Int)) = false := by simp
  have lw := low_eq h2 h4 h5
  have lk := lkp_at ordS hs h4 h5
  rw [lw]
  rcases Nat.lt_or_ge i l.length with hin | hin
  ·obtain ⟨x, hx⟩ : ∃ x, l[i] = x := ⟨_, rfl⟩
   have hc := hL i hin
   rw [hx] at hc
   obtain ⟨c, hcc⟩ : ∃ c, cmpN x.name z.name = c := ⟨_, rfl⟩
   have hzero : c = 0 ↔ Module.name x = Module.name z := by rw [← hcc]; exact cmpB_zero _ _
   have hfound : (lkp Module.name l (Module.name z)).isSome = (c == 0) := by
    rw [Bool.eq_iff_iff, lk, beq_iff_eq, hzero]
    exact ⟨fun ⟨_, h⟩ => by rw [hx] at h; exact h, fun h => ⟨hin, by rw [hx]; exact h⟩⟩
   rw [hcc] at hc
   rw [hfound]
   simp only [ZE,↓reduceIte,pE,pL,pA,pS,pM,pD] at hc
   simp (maxSteps := 4000000) only [ZE,↓reduceIte,pE,pL,pA,pS,pM,pD, d1, dec_lt hin, lt_int hin, getD_map hin, hx, zN,qT,qG,qL,qH,qN,qB,qE,qO,qA,qM, List.length_map]
   refine ⟨by kernel_rfl, hin, ECall'.i hc ?_⟩
   simp only [ZE,↓reduceIte,pE,pL,pA,pS,pM,pD, zN,qT,qG,qL,qH,qN,qB,qE,qO,qA,qM]
   refine ⟨[4], [], ?_⟩
   simp only [ZE,↓reduceIte,pE,pL,pA,pS,pM,pD]
  ·have hfound : (lkp Module.name l (Module.name z)).isSome = false := by
    cases hq : (lkp Module.name l (Module.name z)).isSome with
    | false => rfl
    | true => obtain ⟨h, _⟩ := lk.1 hq; omega
   rw [hfound]
   simp (maxSteps := 4000000) only [ZE,↓reduceIte,pE,pL,pA,pS,pM,pD, d1, dec_ge hin, zN,qT,qG,qL,qH,qN,qB,qE,qO,qA,qM, List.length_map]
   refine ⟨by kernel_rfl, [4], [], ?_⟩
   simp only [ZE,↓reduceIte,pE,pL,pA,pS,pM,pD]
theorem bsItem_c (l : List Item) (hl : l.length ≤ 4000000) (z : Item) (hs : Srt ltP partI l) : FnL Tryz.prog 158 [.ar 100 l.length, .d (.agg (eItem z)), .d (.clo (.func 53) [] [])] [(100, .arr 64 35 .flat (l.map eItem))] (fun V ol new => V = .tup [.d (eI (lowN ltP partI l (partI z))), .d (eB (lkp partI l (partI z)).isSome)] ∧ ol = [(100, .arr 64 35 .flat (l.map eItem))] ∧ new = []) := by
 refine FnL.of_eC (own := []) (fun i => if i = 2008 then [.ord ⟨[(0, none), (1, none), (2, none), (3, none), (4, none), (5, none), (6, none), (7, none), (8, none), (9, none), (10, none), (11, none), (12, none), (13, none), (14, none), (15, none)]⟩] else []) [0] mixed Tryz.func158 rfl Tryz.call158 Tryz.ntmps158 (Nat.le_of_ble_eq_true rfl) Tryz.results158 ?_
 simp only [ZE,↓reduceIte,pE,pL,pA,pS,pM,pD, zN,qT,qG,qL,qH,qN,qB,qE,qO,qA,qM]
 have hL := fun (q : Nat) (h : q < l.length) => byItem_c l[q] z
 refine eloopX (X := Nat × Nat) (fun _ i => []) mixed l.length (fun r X => X.1 ≤ X.2 ∧ X.2 ≤ l.length ∧ X.2 - X.1 + r ≤ l.length ∧ (∀ q (h : q < l.length), q < X.1 → ltP (partI l[q]) (partI z) = true) ∧ (∀ q (h : q < l.length), X.2 ≤ q → ltP (partI l[q]) (partI z) = false))
  (fun r X => ([(0, .ar 100 l.length), (2, .d (.clo (.func 53) [] [])), (4, .bp 4 0), (8, .d (eI l.length)), (9, .d (eI X.1)), (10, .d (eI X.2))], [(4, .box ((eItem z).map .d)), (100, .arr 64 35 .flat (l.map eItem))])) (0, l.length) ?_ ?_ ?_ (fun r X hr hI => ?_)
 ·exact ⟨Nat.zero_le _, Nat.le_refl _, by omega, by intro q _ h; omega, by intro q h h'; omega⟩
 ·simp only [ZE,↓reduceIte,pE,pL,pA,pS,pM,pD]
 ·simp only [ZE,↓reduceIte,pE,pL,pA,pS,pM,pD]
 obtain ⟨i, j⟩ := X
 obtain ⟨h1, h2, h3, h4, h5⟩ := hI
 simp only at h1 h2 h3 h4 h5
 rcases Nat.lt_or_ge i j with h | h
 ·have d1 : decide ((i : Int) < (j : Int)) = true := by simp; omega
  have hh : (i + j) / 2 < l.length := by omega
  have w1 : IntKind.i64.wrap ((i : Int) + (j : Int)) = ((i + j : Nat) : Int) := by rw [← Int.natCast_add]; exact wrap_id (by omega) (by omega)
  have w2 : IntKind.u64.wrap ((i + j : Nat) : Int) = ((i + j : Nat) : Int) := by simp only [IntKind.wrap, IntKind.bits, IntKind.signed]; simp; omega
  have wh : IntKind.i64.wrap ((IntKind.u64.wrap ((i + j : Nat) : Int)).fdiv (2 ^ min 1 IntKind.u64.bits)) = (((i + j) / 2 : Nat) : Int) := by
   rw [w2, show (2 : Int) ^ min 1 IntKind.u64.bits = 2 from by decide, Int.fdiv_eq_ediv_of_nonneg _ (by omega), show ((i + j : Nat) : Int) / 2 = (((i + j) / 2 : Nat) : Int) from by omega]
   exact wrap_id (by omega) (by omega)
  obtain ⟨m, hm⟩ : ∃ m, (i + j) / 2 = m := ⟨_, rfl⟩
  rw [hm] at wh hh
  have hw := wrap_succ (show m < 9223372036854775807 by omega)
  obtain ⟨x, hx⟩ : ∃ x, l[m] = x := ⟨_, rfl⟩
  have hc := hL m hh
  rw [hx] at hc
  obtain ⟨c, hcc⟩ : ∃ c, cmpP (partI x) (partI z) = c := ⟨_, rfl⟩
  have hlt : c < 0 ↔ ltP (partI x) (partI z) = true := by rw [← hcc]; exact cmpP_lt _ _
  rw [hcc] at hc
  simp only [ZE,↓reduceIte,pE,pL,pA,pS,pM,pD] at hc
  simp only [ZE,↓reduceIte,pE,pL,pA,pS,pM,pD, zN,qT,qG,qL,qH,qN,qB,qE,qO,qA,qM, d1, w1, wh, lt_int hh, getD_map hh, hx, List.length_map]
  refine ⟨by kernel_rfl, hh, EFn.p ?_⟩
  simp only [ZE,↓reduceIte,pE,pL,pA,pS,pM,pD, zN,qT,qG,qL,qH,qN,qB,qE,qO,qA,qM]
  refine ECall.i hc ?_
  by_cases hneg : c < 0
  ·have dn : decide (c < 0) = true := decide_eq_true hneg
   simp only [ZE,↓reduceIte,pE,pL,pA,pS,pM,pD, zN,qT,qG,qL,qH,qN,qB,qE,qO,qA,qM, dn, hw]
   simp only [nextX]
   refine ⟨by omega, (m + 1, j), ⟨by simp only; omega, h2, by simp only; omega, fun q hq hqm => ?_, h5⟩, ?_⟩
   ·rcases Nat.lt_succ_iff_lt_or_eq.1 hqm with hlt' | rfl
    ·exact ordP.tr _ _ _ (by have := List.pairwise_iff_getElem.1 hs q m hq hh hlt'; rw [hx] at this; exact this) (hlt.1 hneg)
    ·rw [hx]; exact hlt.1 hneg
   ·simp only [ZE,↓reduceIte,pE,pL,pA,pS,pM,pD]
  ·have dn : decide (c < 0) = false := decide_eq_false hneg
   simp only [ZE,↓reduceIte,pE,pL,pA,pS,pM,pD, zN,qT,qG,qL,qH,qN,qB,qE,qO,qA,qM, dn]
   have hnl : ltP (partI x) (partI z) = false := by
    cases hq : ltP (partI x) (partI z) with
    | false => rfl
    | true => exact absurd (hlt.2 hq) hneg
   simp only [nextX]
   refine ⟨by omega, (i, m), ⟨by simp only; omega, by simp only; omega, by simp only; omega, h4, fun q hq hqm => ?_⟩, ?_⟩
   ·rcases Nat.lt_or_ge m q with hlt' | hge
    ·cases hq2 : ltP (partI l[q]) (partI z) with
     | false => rfl
     | true =>
      have h1 := List.pairwise_iff_getElem.1 hs m q hh hq hlt'
      rw [hx] at h1
      have := ordP.tr _ _ _ h1 hq2
      rw [hnl] at this; cases this
    ·have : q = m := by simp only at hqm; omega
     subst this
     rw [hx]; exact hnl
   ·simp only [ZE,↓reduceIte,pE,pL,pA,pS,pM,pD]
 ·have e : i = j := by omega
  subst e
  have d1 : decide ((i : Int) < (i : Int)) = false := by simp
  have lw := low_eq h2 h4 h5
  have lk := lkp_at ordP hs h4 h5
  rw [lw]
  rcases Nat.lt_or_ge i l.length with hin | hin
  ·obtain ⟨x, hx⟩ : ∃ x, l[i] = x := ⟨_, rfl⟩
   have hc := hL i hin
   rw [hx] at hc
   obtain ⟨c, hcc⟩ : ∃ c, cmpP (partI x) (partI z) = c := ⟨_, rfl⟩
   have hzero : c = 0 ↔ partI x = partI z := by rw [← hcc]; exact cmpP_zero _ _
   have hfound : (lkp partI l (partI z)).isSome = (c == 0) := by
    rw [Bool.eq_iff_iff, lk, beq_iff_eq, hzero]
    exact ⟨fun ⟨_, h⟩ => by rw [hx] at h; exact h, fun h => ⟨hin, by rw [hx]; exact h⟩⟩
   rw [hcc] at hc
   rw [hfound]
   simp only [ZE,↓reduceIte,pE,pL,pA,pS,pM,pD] at hc
   simp (maxSteps := 4000000) only [ZE,↓reduceIte,pE,pL,pA,pS,pM,pD, d1, dec_lt hin, lt_int hin, getD_map hin, hx, zN,qT,qG,qL,qH,qN,qB,qE,qO,qA,qM, List.length_map]
   refine ⟨by kernel_rfl, hin, ECall'.i hc ?_⟩
   simp only [ZE,↓reduceIte,pE,pL,pA,pS,pM,pD, zN,qT,qG,qL,qH,qN,qB,qE,qO,qA,qM]
   refine ⟨[4], [], ?_⟩
   simp only [ZE,↓reduceIte,pE,pL,pA,pS,pM,pD]
  ·have hfound : (lkp partI l (partI z)).isSome = false := by
    cases hq : (lkp partI l (partI z)).isSome with
    | false => rfl
    | true => obtain ⟨h, _⟩ := lk.1 hq; omega
   rw [hfound]
   simp (maxSteps := 4000000) only [ZE,↓reduceIte,pE,pL,pA,pS,pM,pD, d1, dec_ge hin, zN,qT,qG,qL,qH,qN,qB,qE,qO,qA,qM, List.length_map]
   refine ⟨by kernel_rfl, [4], [], ?_⟩
   simp only [ZE,↓reduceIte,pE,pL,pA,pS,pM,pD]
end Go.Proofs.YtbenhdgpogiadaaGreat

namespace Go.Proofs.YtbenhdgpogiadaaGreat
open Go.Aw
open Nat renaming reduceEqDiff → pE, reduceLT → pL, reduceAdd → pA, reduceSub → pS, reduceMul → pM, reduceLeDiff → pD
open Int renaming reduceToNat → qT, reduceGT → qG, reduceLT → qL, reduceGE → qH, reduceBNe → qN, reduceBEq → qB, reduceLE → qE, reduceNe → qO, reduceAdd → qA, reduceNeg → qM
set_option maxRecDepth 100000
set_option maxHeartbeats 40000000
theorem gt_succ (n : Nat) : decide (((n + 1 : Nat) : Int) > 0) = true := decide_eq_true (by omega)
theorem lt_succ0 (n : Nat) : ((0 : Int) < ((n + 1 : Nat) : Int)) = True := eq_true (by omega)
theorem one_le_succ (n : Nat) : ((1 : Int) ≤ ((n + 1 : Nat) : Int)) = True := eq_true (by omega)
theorem succ_ne (n : Nat) : (((n + 1 : Nat) : Int) == 0) = false := beq_eq_false_iff_ne.2 (by omega)
theorem takeM {α β : Type} (f : α → β) (l : List α) : List.take (l.length + 1 - 1) (l.map f) = l.map f := by
 rw [Nat.add_sub_cancel]; exact List.take_of_length_le (by rw [List.length_map]; exact Nat.le_refl _)
theorem rowI (x : Item) (l : List Item) : ∀ e : List D, e = eItem x ∨ e ∈ l.map eItem → e.length = 35 := by
 rintro e (rfl | h)
 ·simp [eItem, eNum, eExpr_eq, eRule]
 ·obtain ⟨p, _, rfl⟩ := List.mem_map.1 h; simp [eItem, eNum, eExpr_eq, eRule]
def mI (n : Str) (m : Nat) (xs ys : List Item) : List Edit := mrgF ltP partI (fun x => [eRem n x]) (fun y => [eSet n y]) (fun x y => bothE n x y) m xs ys
theorem itemsD_mI (n : Str) (a b : List Item) : itemsD n a b = mI n (a.length + b.length) a b := rfl
def pairI : List AV := [.d (.clo (.func 53) [] []), .clo (.func 122) [] [.bp 101 0, .bp 102 0], .clo (.func 120) [] [.bp 101 0, .bp 102 0], .clo (.func 123) [] [.bp 103 0]]
theorem cmpP_gt {a b : Part} : 0 < cmpP a b ↔ ltP b a = true := by
 have h1 := cmpP_lt a b
 have h0 := cmpP_zero a b
 constructor
 ·intro h
  cases hq : ltP b a with
  | true => rfl
  | false =>
   have := ordP.conn a b (by cases hr : ltP a b with | false => rfl | true => have := h1.2 hr; omega) hq
   have := h0.2 this
   omega
 ·intro h
  have h2 : ¬ cmpP a b < 0 := fun hc => by have := ordP.asymm (h1.1 hc); rw [h] at this; cases this
  have h3 : cmpP a b ≠ 0 := fun hc => by have := h0.1 hc; subst this; rw [ordP.irr] at h; cases h
  omega
theorem mergeI_c (l : List Edit) (n : Str) (a b : List Item) (hl : (l ++ itemsD n a b).length ≤ 4000000) : FnL Tryz.prog 121 [.d (.sl (a.map eItem)), .d (.sl (b.map eItem)), .agg pairI] (dfN 100 101 102 n 104 l ++ [(103, setB 101 102)])
  (fun V ol new => V = .tup [] ∧ ol = dfN 100 101 102 n 114 (l ++ itemsD n a b) ++ [(103, setB 101 102)] ∧ new = [114]) := by
 refine FnL.of_eK 1999 [100, 101, 102, 103] (own := []) (fun i => if i = 0 then [.rnm [(100, 100), (101, 101), (102, 102), (104, 114), (103, 103), (5, 5), (1999, 1999)]] else []) [] mixed Tryz.func121 rfl Tryz.call121 Tryz.ntmps121 (Nat.le_of_ble_eq_true rfl) Tryz.results121 (by simp [dfN, dfO, setB, pairI, freeO, AO.noRef, AV.noRefs, AV.noRef]) (fun gs => ?_)
 simp only [ZE,↓reduceIte,pE,pL,pA,pS,pM,pD, zN,qT,qG,qL,qH,qN,qB,qE,qO,qA,qM, dfN, dfO, setB, pairI]
 refine eloopX (X := List Item × List Item × List Edit) (fun _ i => if i = 5 then [.rnm [(100, 100), (101, 101), (102, 102), (115, 114), (103, 103), (5, 5), (1999, 1999)]] else if i = 8 then [.rnm [(100, 100), (101, 101), (102, 102), (115, 114), (103, 103), (5, 5), (1999, 1999)]] else if i = 2 then [.rnm [(100, 100), (101, 101), (102, 102), (115, 114), (103, 103), (5, 5), (1999, 1999)]] else if i = 2004 then [.ord ⟨[(0, none), (1, none), (2, none), (3, none), (4, none), (5, none), (6, none), (7, none), (8, none), (9, none), (10, none), (11, none), (12, none), (13, none), (14, none), (15, none), (16, none), (17, none), (18, none), (19, none), (20, none)]⟩] else if i = 2007 then [.ord ⟨[(0, none), (1, none), (2, none), (3, none), (4, none), (5, none), (6, none), (7, none), (8, none), (9, none), (10, none), (11, none), (12, none), (13, none), (14, none), (15, none)]⟩] else if i = 2003 then [.ord ⟨[(0, none), (1, none), (2, none), (3, none), (4, some [2, 3]), (5, some [])]⟩] else []) mixed (a.length + b.length)
  (fun r X => X.1.length + X.2.1.length + r ≤ a.length + b.length ∧ X.2.2 ++ mI n (a.length + b.length - r) X.1 X.2.1 = l ++ itemsD n a b)
  (fun r X => ([(0, .d (.sl (X.1.map eItem))), (1, .d (.sl (X.2.1.map eItem))), (5, .bp 5 0)], [(5, .box pairI), (1999, .gh [.bp 100 0, .bp 101 0, .bp 102 0, .bp 103 0] gs), (100, .box [.ar 114 X.2.2.length]), (114, .arr 69 43 .flat (X.2.2.map eEdit)), (101, .box [.bp 100 0]), (102, .box [.d (eS n)]), (103, setB 101 102)])) (a, b, l) ?_ ?_ ?_ (fun r X hr hI => ?_)
 ·exact ⟨by simp, by rw [itemsD_mI]; rfl⟩
 ·simp only [ZE,↓reduceIte,pE,pL,pA,pS,pM,pD, zN,qT,qG,qL,qH,qN,qB,qE,qO,qA,qM, pairI, setB]
 ·simp only [ZE,↓reduceIte,pE,pL,pA,pS,pM,pD, zN,qT,qG,qL,qH,qN,qB,qE,qO,qA,qM, pairI, setB]
 obtain ⟨xs, ys, es⟩ := X
 obtain ⟨hn, he⟩ := hI
 simp only at hn he
 have hes : es.length ≤ 4000000 := by rw [← he, List.length_append] at hl; omega
 match xs, ys with
 | [], [] =>
  have e : es = l ++ itemsD n a b := by rw [← he]; cases (a.length + b.length - r) <;> simp [mI, mrgF]
  subst e
  simp only [pairI, setB]
  simp (maxSteps := 4000000) only [ZE,↓reduceIte,pE,pL,pA,pS,pM,pD, zN,qT,qG,qL,qH,qN,qB,qE,qO,qA,qM]
  refine ⟨[5, 1999], [114], ?_⟩
  simp only [ZE,↓reduceIte,pE,pL,pA,pS,pM,pD]
 | x :: xs, [] =>
  obtain ⟨m, hm⟩ : ∃ m, a.length + b.length - r = m + 1 := ⟨a.length + b.length - r - 1, by simp at hn; omega⟩
  have hm' : a.length + b.length - (r + 1) = m := by omega
  have hmi : mI n (m + 1) (x :: xs) [] = [eRem n x] ++ mI n m xs [] := rfl
  rw [hm, hmi, ← List.append_assoc] at he
  have hel : (es ++ [eRem n x]).length = es.length + 1 := by rw [List.length_append]; rfl
  have rc := drem_c es hes n x
  simp only [dfN, dfO] at rc
  simp only [pairI, setB]
  simp (maxSteps := 4000000) only [ZE,↓reduceIte,pE,pL,pA,pS,pM,pD, zN,qT,qG,qL,qH,qN,qB,qE,qO,qA,qM, gt_succ, lt_succ0, List.length_map]
  refine ⟨by kernel_rfl, by kernel_rfl, EFn.g ⟨[(0, 100), (1, 101), (2, 102), (4, 114), (40, 115)], _, _, _, rc, ?_⟩⟩
  simp only [ZE,↓reduceIte,pE,pL,pA,pS,pM,pD]
  rintro V ol new ⟨rfl, rfl, rfl⟩
  simp only [ZE,↓reduceIte,pE,pL,pA,pS,pM,pD, zN,qT,qG,qL,qH,qN,qB,qE,qO,qA,qM, one_le_succ, takeM]
  have rx := rowI x xs
  simp only [ZE,↓reduceIte,pE,pL,pA,pS,pM,pD] at rx
  refine ⟨⟨rx, Int.le_refl _⟩, ?_⟩
  simp only [nextX]
  refine ⟨by simp at hn; omega, (xs, [], es ++ [eRem n x]), ⟨by simp at hn ⊢; omega, by rw [hm']; exact he⟩, ?_⟩
  simp only [ZE,↓reduceIte,pE,pL,pA,pS,pM,pD, pairI, setB]
 | [], y :: ys =>
  obtain ⟨m, hm⟩ : ∃ m, a.length + b.length - r = m + 1 := ⟨a.length + b.length - r - 1, by simp at hn; omega⟩
  have hm' : a.length + b.length - (r + 1) = m := by omega
  have hmi : mI n (m + 1) [] (y :: ys) = [eSet n y] ++ mI n m [] ys := rfl
  rw [hm, hmi, ← List.append_assoc] at he
  have rc := dset_c es hes n y
  simp only [dfN, dfO] at rc
  simp only [pairI, setB]
  simp (maxSteps := 4000000) only [ZE,↓reduceIte,pE,pL,pA,pS,pM,pD, zN,qT,qG,qL,qH,qN,qB,qE,qO,qA,qM, gt_succ, lt_succ0, succ_ne, List.length_map]
  refine ⟨by kernel_rfl, by kernel_rfl, by kernel_rfl, EFn.g ⟨[(0, 100), (1, 101), (2, 102), (4, 114), (40, 115)], _, _, _, rc, ?_⟩⟩
  simp only [ZE,↓reduceIte,pE,pL,pA,pS,pM,pD]
  rintro V ol new ⟨rfl, rfl, rfl⟩
  simp only [ZE,↓reduceIte,pE,pL,pA,pS,pM,pD, zN,qT,qG,qL,qH,qN,qB,qE,qO,qA,qM, one_le_succ, takeM]
  have rx := rowI y ys
  simp only [ZE,↓reduceIte,pE,pL,pA,pS,pM,pD] at rx
  refine ⟨⟨rx, Int.le_refl _⟩, ?_⟩
  simp only [nextX]
  refine ⟨by simp at hn; omega, ([], ys, es ++ [eSet n y]), ⟨by simp at hn ⊢; omega, by rw [hm']; exact he⟩, ?_⟩
  simp only [ZE,↓reduceIte,pE,pL,pA,pS,pM,pD, pairI, setB]
 | x :: xs, y :: ys =>
  obtain ⟨m, hm⟩ : ∃ m, a.length + b.length - r = m + 1 := ⟨a.length + b.length - r - 1, by simp at hn; omega⟩
  have hm' : a.length + b.length - (r + 1) = m := by omega
  rw [hm] at he
  have ic := byItem_c x y
  obtain ⟨c, hc⟩ : ∃ c, cmpP (partI x) (partI y) = c := ⟨_, rfl⟩
  have hlt : c < 0 ↔ ltP (partI x) (partI y) = true := by rw [← hc]; exact cmpP_lt _ _
  have hgt : 0 < c ↔ ltP (partI y) (partI x) = true := by rw [← hc]; exact cmpP_gt
  rw [hc] at ic
  simp only [ZE,↓reduceIte,pE,pL,pA,pS,pM,pD] at ic
  by_cases h1 : c < 0
  ·have hmi : mI n (m + 1) (x :: xs) (y :: ys) = [eRem n x] ++ mI n m xs (y :: ys) := by simp only [mI, mrgF, hlt.1 h1, if_true]
   have d1 : decide (c < 0) = true := decide_eq_true h1
   rw [hmi, ← List.append_assoc] at he
   have rc := drem_c es hes n x
   simp only [dfN, dfO] at rc
   simp only [pairI, setB]
   simp (maxSteps := 4000000) only [ZE,↓reduceIte,pE,pL,pA,pS,pM,pD, zN,qT,qG,qL,qH,qN,qB,qE,qO,qA,qM, gt_succ, lt_succ0, succ_ne, List.length_map]
   refine ⟨by kernel_rfl, ECall'.i ic ?_⟩
   simp only [ZE,↓reduceIte,pE,pL,pA,pS,pM,pD, zN,qT,qG,qL,qH,qN,qB,qE,qO,qA,qM, d1, lt_succ0]
   refine ⟨by kernel_rfl, EFn.g ⟨[(0, 100), (1, 101), (2, 102), (4, 114), (40, 115)], _, _, _, rc, ?_⟩⟩
   simp only [ZE,↓reduceIte,pE,pL,pA,pS,pM,pD]
   rintro V ol new ⟨rfl, rfl, rfl⟩
   simp only [ZE,↓reduceIte,pE,pL,pA,pS,pM,pD, zN,qT,qG,qL,qH,qN,qB,qE,qO,qA,qM, one_le_succ, takeM]
   have rx := rowI x xs
   simp only [ZE,↓reduceIte,pE,pL,pA,pS,pM,pD] at rx
   refine ⟨⟨rx, Int.le_refl _⟩, ?_⟩
   simp only [nextX]
   refine ⟨by simp at hn; omega, (xs, y :: ys, es ++ [eRem n x]), ⟨by simp at hn ⊢; omega, by rw [hm']; exact he⟩, ?_⟩
   simp only [ZE,↓reduceIte,pE,pL,pA,pS,pM,pD, pairI, setB]
  have d1 : decide (c < 0) = false := decide_eq_false h1
  have h1' : ltP (partI x) (partI y) = false := by
   cases hq : ltP (partI x) (partI y) with
   | false => rfl
   | true => exact absurd (hlt.2 hq) h1
  by_cases h2 : 0 < c
  ·have hmi : mI n (m + 1) (x :: xs) (y :: ys) = [eSet n y] ++ mI n m (x :: xs) ys := by simp only [mI, mrgF, h1', hgt.1 h2, if_true, Bool.false_eq_true, if_false]
   have d2 : decide (c > 0) = true := decide_eq_true h2
   rw [hmi, ← List.append_assoc] at he
   have rc := dset_c es hes n y
   simp only [dfN, dfO] at rc
   simp only [pairI, setB]
   simp (maxSteps := 4000000) only [ZE,↓reduceIte,pE,pL,pA,pS,pM,pD, zN,qT,qG,qL,qH,qN,qB,qE,qO,qA,qM, gt_succ, lt_succ0, succ_ne, List.length_map]
   refine ⟨by kernel_rfl, ECall'.i ic ?_⟩
   simp only [ZE,↓reduceIte,pE,pL,pA,pS,pM,pD, zN,qT,qG,qL,qH,qN,qB,qE,qO,qA,qM, d1, lt_succ0, succ_ne, List.length_map]
   refine ⟨by kernel_rfl, ECall'.i ic ?_⟩
   simp only [ZE,↓reduceIte,pE,pL,pA,pS,pM,pD, zN,qT,qG,qL,qH,qN,qB,qE,qO,qA,qM, d2, lt_succ0, succ_ne, List.length_map]
   refine ⟨by kernel_rfl, EFn.g ⟨[(0, 100), (1, 101), (2, 102), (4, 114), (40, 115)], _, _, _, rc, ?_⟩⟩
   simp only [ZE,↓reduceIte,pE,pL,pA,pS,pM,pD]
   rintro V ol new ⟨rfl, rfl, rfl⟩
   simp only [ZE,↓reduceIte,pE,pL,pA,pS,pM,pD, zN,qT,qG,qL,qH,qN,qB,qE,qO,qA,qM, one_le_succ, takeM]
   have rx := rowI y ys
   simp only [ZE,↓reduceIte,pE,pL,pA,pS,pM,pD] at rx
   refine ⟨⟨rx, Int.le_refl _⟩, ?_⟩
   simp only [nextX]
   refine ⟨by simp at hn; omega, (x :: xs, ys, es ++ [eSet n y]), ⟨by simp at hn ⊢; omega, by rw [hm']; exact he⟩, ?_⟩
   simp only [ZE,↓reduceIte,pE,pL,pA,pS,pM,pD, pairI, setB]
  ·have h2' : ltP (partI y) (partI x) = false := by
    cases hq : ltP (partI y) (partI x) with
    | false => rfl
    | true => exact absurd (hgt.2 hq) h2
   have hmi : mI n (m + 1) (x :: xs) (y :: ys) = bothE n x y ++ mI n m xs ys := by simp only [mI, mrgF, h1', h2', Bool.false_eq_true, if_false]
   have d2 : decide (c > 0) = false := decide_eq_false h2
   rw [hmi, ← List.append_assoc] at he
   have rc := dboth_c es hes n x y
   simp only [dfN, dfO, setB, List.cons_append, List.nil_append] at rc
   simp only [pairI, setB]
   simp (maxSteps := 4000000) only [ZE,↓reduceIte,pE,pL,pA,pS,pM,pD, zN,qT,qG,qL,qH,qN,qB,qE,qO,qA,qM, gt_succ, lt_succ0, succ_ne, List.length_map]
   refine ⟨by kernel_rfl, ECall'.i ic ?_⟩
   simp only [ZE,↓reduceIte,pE,pL,pA,pS,pM,pD, zN,qT,qG,qL,qH,qN,qB,qE,qO,qA,qM, d1, lt_succ0, succ_ne, List.length_map]
   refine ⟨by kernel_rfl, ECall'.i ic ?_⟩
   simp only [ZE,↓reduceIte,pE,pL,pA,pS,pM,pD, zN,qT,qG,qL,qH,qN,qB,qE,qO,qA,qM, d2, lt_succ0, succ_ne, List.length_map]
   refine ⟨by kernel_rfl, EFn.g ⟨[(100, 100), (101, 101), (102, 102), (103, 103), (104, 114), (114, 115)], _, _, _, rc, ?_⟩⟩
   simp only [ZE,↓reduceIte,pE,pL,pA,pS,pM,pD]
   rintro V ol new ⟨rfl, rfl, rfl⟩
   simp only [ZE,↓reduceIte,pE,pL,pA,pS,pM,pD, zN,qT,qG,qL,qH,qN,qB,qE,qO,qA,qM, one_le_succ, takeM]
   have rx := rowI x xs
   have ry := rowI y ys
   simp only [ZE,↓reduceIte,pE,pL,pA,pS,pM,pD] at rx ry
   refine ⟨by kernel_rfl, ⟨rx, Int.le_refl _⟩, ⟨ry, Int.le_refl _⟩, ⟨ry, Int.le_refl _⟩, ?_⟩
   simp only [nextX]
   refine ⟨by simp at hn; omega, (xs, ys, es ++ bothE n x y), ⟨by simp at hn ⊢; omega, by rw [hm']; exact he⟩, ?_⟩
   simp only [ZE,↓reduceIte,pE,pL,pA,pS,pM,pD, pairI, setB]
end Go.Proofs.YtbenhdgpogiadaaGreat
