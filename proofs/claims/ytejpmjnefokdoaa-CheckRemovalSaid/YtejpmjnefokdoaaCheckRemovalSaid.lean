/-
  CheckRemoval: if a take, a put, or an instance that binds a port is removed from a valid file, the file is no longer valid; and so if a port is removed, or an item is doubled.
  Conditions: none.
-/
import Derived.Test.YtejpmjnefokdoaaGL
import Derived.Test.YtejpmjnefokdoaaK4
import Derived.Test.YtejpmjnefokdoaaRows
import Derived.Test.YtejpmjnefokdoaaK5
set_option linter.unusedSimpArgs false
set_option linter.unusedVariables false
/-
  ARGUMENTS OF THE LAWS AS DATA.
-/
namespace Go.Proofs.Ytejpmjnefokdoaa
open Go.Aw Go.ChangeShapes Go.WideShapes Go.ChangeAt Go.RowKit
set_option maxRecDepth 100000
theorem own : ownKnob Try.prog.godebug = none := by kernel_rfl
theorem laidOut : laidOutB Try.prog = true := by kernel_rfl
def shRaw : ASh := .agg [.int .u8, .int .u8, .sl [.int .u8]]
def shK2 : ASh := .agg [.int .u8, .int .u8]
def shK4 : ASh := .agg [.int .u8, .int .u8, .int .u8, .int .u8]
def shB : ASh := .one (.sl [.int .u8])
theorem fitsL_3 {s t u : Sh} {ds : List D} (h : Sh.fitsL [s, t, u] ds) : ∃ a b c, ds = [a, b, c] ∧ s.fits a ∧ t.fits b ∧ u.fits c := by
  simp only [Sh.fitsL] at h
  obtain ⟨a, r, rfl, h1, b, r2, rfl, h2, c, r3, rfl, h3, rfl⟩ := h
  exact ⟨a, b, c, rfl, h1, h2, h3⟩
theorem bytes_of {d : D} (h : Sh.fits (.sl [.int .u8]) d) : ∃ l : List Nat, d = eBytes l ∧ ∀ b ∈ l, b < 256 := by
  obtain ⟨l, rfl, hl⟩ := fits_sl (enc := fun b : Nat => [eU8 b]) (p := fun b => b < 256) (fun e he => by
    obtain ⟨x, rfl, hx⟩ := fitsL_1 he
    obtain ⟨n, rfl, hn⟩ := fits_u8 hx
    exact ⟨n, rfl, hn⟩) h
  exact ⟨l, rfl, hl⟩
theorem raw_of {d : D} (h : shRaw.fits d) : ∃ x : Raw, d = eRaw x ∧ x.ok := by
  obtain ⟨ds, rfl, h⟩ := h
  obtain ⟨a, b, c, rfl, h1, h2, h3⟩ := fitsL_3 h
  obtain ⟨k, rfl, hk⟩ := fits_u8 h1
  obtain ⟨w, rfl, hw⟩ := fits_u8 h2
  obtain ⟨l, rfl, hl⟩ := bytes_of h3
  exact ⟨⟨k, w, l⟩, rfl, hk, hw, hl⟩
theorem k2_of {d : D} (h : shK2.fits d) : ∃ a b : Nat, d = .agg [eU8 a, eU8 b] ∧ a < 256 ∧ b < 256 := by
  obtain ⟨ds, rfl, h⟩ := h
  obtain ⟨a, b, rfl, h1, h2⟩ := fitsL_2 h
  obtain ⟨k, rfl, hk⟩ := fits_u8 h1
  obtain ⟨w, rfl, hw⟩ := fits_u8 h2
  exact ⟨k, w, rfl, hk, hw⟩
theorem k4_of {d : D} (h : shK4.fits d) : ∃ a b c e : Nat, d = .agg [eU8 a, eU8 b, eU8 c, eU8 e] ∧ a < 256 ∧ b < 256 ∧ c < 256 ∧ e < 256 := by
  obtain ⟨ds, rfl, h⟩ := h
  obtain ⟨a, b, c, e, rfl, h1, h2, h3, h4⟩ := fitsL_4 h
  obtain ⟨a, rfl, ha⟩ := fits_u8 h1
  obtain ⟨b, rfl, hb⟩ := fits_u8 h2
  obtain ⟨c, rfl, hc⟩ := fits_u8 h3
  obtain ⟨e, rfl, he⟩ := fits_u8 h4
  exact ⟨a, b, c, e, rfl, ha, hb, hc, he⟩
end Go.Proofs.Ytejpmjnefokdoaa

/-
  CONTRACTS: CheckRemoval.
-/
namespace Go.Proofs.Ytejpmjnefokdoaa
open Go.Aw
open Nat renaming reduceEqDiff → pE, reduceLT → pL, reduceAdd → pA, reduceSub → pS, reduceMul → pM, reduceLeDiff → pD
open Int renaming reduceToNat → qT, reduceGT → qG, reduceLT → qL, reduceGE → qH, reduceBNe → qN, reduceBEq → qB, reduceLE → qE, reduceNe → qO, reduceAdd → qA, reduceNeg → qM
set_option maxRecDepth 100000
set_option maxHeartbeats 40000000
theorem removal_w (x : Raw) (k0 k1 : Nat) (h0 : k0 < 256) (h1 : k1 < 256) (f : List Module) (m : Module) (y : Item) (i n : Nat) (hc : FnP Try.prog 9 [eRaw x] (.d (.agg [eModules f])) []) (hf : f.length ≤ 1000) (hi : i < f.length) (hki : k0 % f.length = i) (hm : f[i] = m) (hl : m.items.length ≤ 800) (hn : n < m.items.length) (hkn : k1 % m.items.length = n) (hy : m.items[n] = y)
    (hv : FnP Try.prog 12 [.agg [eModules f]] (.d (eB true)) []) (h2 : FnP Try.prog 12 [.agg [eModules (f.set i { m with items := m.items ++ [y] })]] (.d (eB false)) [])
    (h3 : y.kind.1 = 7 ∨ y.kind.1 = 8 ∨ y.kind.1 = 9 ∨ y.kind.1 = 1 ∨ y.kind.1 = 2 → FnP Try.prog 12 [.agg [eModules (f.set i { m with items := m.items.take n ++ m.items.drop (n + 1) })]] (.d (eB false)) []) : FnP Try.prog 7 [eRaw x, .agg [eU8 k0, eU8 k1]] (.d (eB true)) [] := by
  refine FnP.of_eC (own := []) (fun i => if i = 2011 then [.flt ⟨[(0, none), (1, none), (2, none), (5, none), (6, none), (7, none), (3, some [5, 6, 7]), (4, none), (8, some [4]), (9, none), (12, some [9]), (13, some [])]⟩ ⟨[10, 11], [(12, [10]), (13, [11])]⟩] else if i = 2012 then [.flt ⟨[(0, none), (1, none), (4, some [1]), (5, some [])]⟩ ⟨[2, 3], [(4, [2]), (5, [3])]⟩] else if i = 2013 then [.flt ⟨[(0, none), (1, none), (2, none), (3, none), (4, none), (6, none), (7, none), (8, none), (9, none), (10, none), (5, some [6, 7, 8, 9, 10]), (11, some []), (12, none), (13, some [])]⟩ ⟨[], []⟩] else if i = 2014 then [.flt ⟨[(0, none), (1, none), (2, none), (4, none), (5, none), (3, some [4, 5]), (6, some []), (7, none), (8, some [])]⟩ ⟨[], []⟩] else if i = 14 then [.frz 70, .frz 81] else []) mixed Try.func7 rfl Try.call7 Try.ntmps7 (Nat.le_of_ble_eq_true rfl) Try.results7 (fun hok => ?_)
  have ex := examples_c
  have e1 : IntKind.i64.wrap (k0 : Int) = (k0 : Int) := wrap_id (by omega) (by omega)
  have e2 : IntKind.i64.wrap (k1 : Int) = (k1 : Int) := wrap_id (by omega) (by omega)
  have r1 : (k0 : Int).tmod (f.length : Int) = (i : Int) := by rw [← hki]; exact (Int.ofNat_tmod _ _).symm
  have r2 : (k1 : Int).tmod (m.items.length : Int) = (n : Int) := by rw [← hkn]; exact (Int.ofNat_tmod _ _).symm
  have w1 : IntKind.i64.wrap ((n : Int) + 1) = ((n + 1 : Nat) : Int) := wrap_id (by omega) (by omega)
  have z1 : ¬ (f.length : Int) = 0 := by omega
  have z2 : ¬ (m.items.length : Int) = 0 := by omega
  have z3 : ((m.items.length : Int) == 0) = false := by rw [beq_eq_false_iff_ne]; omega
  simp only [ZE, zA, zB, zC, zD, zF, zG, zH, zI, zJ, List.replicate, ↓reduceIte, pE, pL, pA, pS, pM, pD, eRaw, List.map_set, List.map_append, List.map_cons, List.map_nil, List.map_take, List.map_drop] at ex hc hv h2
  simp (maxSteps := 4000000) only [ZE, zA, zB, zC, zD, zF, zG, zH, zI, zJ, List.replicate, ↓reduceIte, pE, pL, pA, pS, pM, pD, Nat.zero_add, Int.natCast_one, qT, qG, qL, qH, qN, qB, qE, qO, qA, qM, eRaw]
  refine EFn.p ?_
  simp only [ZE, zA, zB, zC, zD, zF, zG, zH, zI, zJ, List.replicate, ↓reduceIte, pE, pL, pA, pS, pM, pD, Nat.zero_add, Int.natCast_one, qT, qG, qL, qH, qN, qB, qE, qO, qA, qM]
  refine ECall.i ex ?_
  simp only [ZE, zA, zB, zC, zD, zF, zG, zH, zI, zJ, List.replicate, ↓reduceIte, pE, pL, pA, pS, pM, pD, Nat.zero_add, Int.natCast_one, qT, qG, qL, qH, qN, qB, qE, qO, qA, qM]
  refine EFn.p ?_
  simp only [ZE, zA, zB, zC, zD, zF, zG, zH, zI, zJ, List.replicate, ↓reduceIte, pE, pL, pA, pS, pM, pD, Nat.zero_add, Int.natCast_one, qT, qG, qL, qH, qN, qB, qE, qO, qA, qM]
  refine ECall.i hc ?_
  simp only [ZE, zA, zB, zC, zD, zF, zG, zH, zI, zJ, List.replicate, ↓reduceIte, pE, pL, pA, pS, pM, pD, Nat.zero_add, Int.natCast_one, qT, qG, qL, qH, qN, qB, qE, qO, qA, qM, e1, r1, z1, z3, not_false_eq_true, getD_map hi, lt_int hi, List.length_map, hm]
  refine EFn.p ?_
  simp only [ZE, zA, zB, zC, zD, zF, zG, zH, zI, zJ, List.replicate, ↓reduceIte, pE, pL, pA, pS, pM, pD, Nat.zero_add, Int.natCast_one, qT, qG, qL, qH, qN, qB, qE, qO, qA, qM]
  refine ECall.i hv ?_
  simp (maxSteps := 8000000) only [ZE, zA, zB, zC, zD, zF, zG, zH, zI, zJ, List.replicate, ↓reduceIte, pE, pL, pA, pS, pM, pD, Nat.zero_add, Int.natCast_one, qT, qG, qL, qH, qN, qB, qE, qO, qA, qM, e2, r2, z2, not_false_eq_true, getD_map hn, lt_int hn, List.length_map, hy, w1, Int.toNat_natCast, Nat.sub_zero, List.length_append, List.length_take, List.length_drop, List.length_cons, List.length_nil, lt_int hi, hm]
  clear hc hv ex
  have ro : rowsOk 4 (f.map eModule) := by
    intro q hq
    obtain ⟨z, _, rfl⟩ := List.mem_map.1 hq
    simp [eModule, eS, eStrs, eItems, D.one, Value.oneCell']
  have ri := rowsOk_items m.items
  have rt : rowsOk 35 ((m.items.map eItem).take n) := fun q hq => ri q (List.mem_of_mem_take hq)
  have rd : rowsOk 35 (((m.items.map eItem).drop (n + 1)).take (m.items.length - (n + 1))) := fun q hq => ri q (List.mem_of_mem_drop (List.mem_of_mem_take hq))
  have q35 : ∀ e ∈ m.items.map eItem, e.length = 35 := fun e he => by
    obtain ⟨q, _, rfl⟩ := List.mem_map.1 he
    exact eItem_len q
  have tk : ((m.items.map eItem).drop (n + 1)).take (m.items.length - (n + 1)) = (m.items.map eItem).drop (n + 1) := List.take_of_length_le (by simp)
  refine ⟨by kernel_rfl, ⟨ro, by omega, by omega⟩, ⟨ro, by omega, by omega⟩, by kernel_rfl, by kernel_rfl, ⟨q35, by omega, by omega, by omega⟩, ⟨q35, by omega, by omega, by omega⟩, ⟨rt, by omega, by omega⟩, ⟨q35, by omega, by omega, by omega⟩, ⟨rd, by omega, by omega⟩, by kernel_rfl, ⟨ri, by omega, by omega⟩, ⟨by omega, by omega⟩, hi, hi, EFn.p ?_⟩
  have dr : ((f.map eModule).getD i []).drop 4 = [] := by simp [List.getD_eq_getElem?_getD, hi, eModule]
  simp only [ZE, zA, zB, zC, zD, zF, zG, zH, zI, zJ, List.replicate, ↓reduceIte, pE, pL, pA, pS, pM, pD, Nat.zero_add, Int.natCast_one, qT, qG, qL, qH, qN, qB, qE, qO, qA, qM, dr, tk, List.length_set, List.length_map]
  refine ECall.i h2 ?_
  by_cases k7 : y.kind.1 = 7
  · have f7 : (y.kind.1 == 7) = true := by rw [k7]; rfl
    have h3' := h3 (by omega)
    simp only [ZE, zA, zB, zC, zD, zF, zG, zH, zI, zJ, List.replicate, ↓reduceIte, pE, pL, pA, pS, pM, pD, eRaw, List.map_set, List.map_append, List.map_cons, List.map_nil, List.map_take, List.map_drop] at h3'
    simp only [ZE, zA, zB, zC, zD, zF, zG, zH, zI, zJ, List.replicate, ↓reduceIte, pE, pL, pA, pS, pM, pD, Nat.zero_add, Int.natCast_one, qT, qG, qL, qH, qN, qB, qE, qO, qA, qM, f7, dr, tk, List.length_set, List.length_map]
    refine EFn.p ?_
    simp only [ZE, zA, zB, zC, zD, zF, zG, zH, zI, zJ, List.replicate, ↓reduceIte, pE, pL, pA, pS, pM, pD, Nat.zero_add, Int.natCast_one, qT, qG, qL, qH, qN, qB, qE, qO, qA, qM, dr, tk, List.length_set, List.length_map]
    refine ECall.i h3' ?_
    simp only [ZE, zA, zB, zC, zD, zF, zG, zH, zI, zJ, List.replicate, ↓reduceIte, pE, pL, pA, pS, pM, pD, Nat.zero_add, Int.natCast_one, qT, qG, qL, qH, qN, qB, qE, qO, qA, qM]
  have f7 : (y.kind.1 == 7) = false := by rw [beq_eq_false_iff_ne]; exact k7
  by_cases k8 : y.kind.1 = 8
  · have f8 : (y.kind.1 == 8) = true := by rw [k8]; rfl
    have h3' := h3 (by omega)
    simp only [ZE, zA, zB, zC, zD, zF, zG, zH, zI, zJ, List.replicate, ↓reduceIte, pE, pL, pA, pS, pM, pD, eRaw, List.map_set, List.map_append, List.map_cons, List.map_nil, List.map_take, List.map_drop] at h3'
    simp only [ZE, zA, zB, zC, zD, zF, zG, zH, zI, zJ, List.replicate, ↓reduceIte, pE, pL, pA, pS, pM, pD, Nat.zero_add, Int.natCast_one, qT, qG, qL, qH, qN, qB, qE, qO, qA, qM, f7, f8, dr, tk, List.length_set, List.length_map]
    refine EFn.p ?_
    simp only [ZE, zA, zB, zC, zD, zF, zG, zH, zI, zJ, List.replicate, ↓reduceIte, pE, pL, pA, pS, pM, pD, Nat.zero_add, Int.natCast_one, qT, qG, qL, qH, qN, qB, qE, qO, qA, qM, dr, tk, List.length_set, List.length_map]
    refine ECall.i h3' ?_
    simp only [ZE, zA, zB, zC, zD, zF, zG, zH, zI, zJ, List.replicate, ↓reduceIte, pE, pL, pA, pS, pM, pD, Nat.zero_add, Int.natCast_one, qT, qG, qL, qH, qN, qB, qE, qO, qA, qM]
  have f8 : (y.kind.1 == 8) = false := by rw [beq_eq_false_iff_ne]; exact k8
  by_cases k9 : y.kind.1 = 9
  · have f9 : (y.kind.1 == 9) = true := by rw [k9]; rfl
    have h3' := h3 (by omega)
    simp only [ZE, zA, zB, zC, zD, zF, zG, zH, zI, zJ, List.replicate, ↓reduceIte, pE, pL, pA, pS, pM, pD, eRaw, List.map_set, List.map_append, List.map_cons, List.map_nil, List.map_take, List.map_drop] at h3'
    simp only [ZE, zA, zB, zC, zD, zF, zG, zH, zI, zJ, List.replicate, ↓reduceIte, pE, pL, pA, pS, pM, pD, Nat.zero_add, Int.natCast_one, qT, qG, qL, qH, qN, qB, qE, qO, qA, qM, f7, f8, f9, dr, tk, List.length_set, List.length_map]
    refine EFn.p ?_
    simp only [ZE, zA, zB, zC, zD, zF, zG, zH, zI, zJ, List.replicate, ↓reduceIte, pE, pL, pA, pS, pM, pD, Nat.zero_add, Int.natCast_one, qT, qG, qL, qH, qN, qB, qE, qO, qA, qM, dr, tk, List.length_set, List.length_map]
    refine ECall.i h3' ?_
    simp only [ZE, zA, zB, zC, zD, zF, zG, zH, zI, zJ, List.replicate, ↓reduceIte, pE, pL, pA, pS, pM, pD, Nat.zero_add, Int.natCast_one, qT, qG, qL, qH, qN, qB, qE, qO, qA, qM]
  have f9 : (y.kind.1 == 9) = false := by rw [beq_eq_false_iff_ne]; exact k9
  by_cases k1 : y.kind.1 = 1
  · have f1 : (y.kind.1 == 1) = true := by rw [k1]; rfl
    have h3' := h3 (by omega)
    simp only [ZE, zA, zB, zC, zD, zF, zG, zH, zI, zJ, List.replicate, ↓reduceIte, pE, pL, pA, pS, pM, pD, eRaw, List.map_set, List.map_append, List.map_cons, List.map_nil, List.map_take, List.map_drop] at h3'
    simp only [ZE, zA, zB, zC, zD, zF, zG, zH, zI, zJ, List.replicate, ↓reduceIte, pE, pL, pA, pS, pM, pD, Nat.zero_add, Int.natCast_one, qT, qG, qL, qH, qN, qB, qE, qO, qA, qM, f7, f8, f9, f1, dr, tk, List.length_set, List.length_map]
    refine EFn.p ?_
    simp only [ZE, zA, zB, zC, zD, zF, zG, zH, zI, zJ, List.replicate, ↓reduceIte, pE, pL, pA, pS, pM, pD, Nat.zero_add, Int.natCast_one, qT, qG, qL, qH, qN, qB, qE, qO, qA, qM, dr, tk, List.length_set, List.length_map]
    refine ECall.i h3' ?_
    simp only [ZE, zA, zB, zC, zD, zF, zG, zH, zI, zJ, List.replicate, ↓reduceIte, pE, pL, pA, pS, pM, pD, Nat.zero_add, Int.natCast_one, qT, qG, qL, qH, qN, qB, qE, qO, qA, qM]
  have f1 : (y.kind.1 == 1) = false := by rw [beq_eq_false_iff_ne]; exact k1
  by_cases k2 : y.kind.1 = 2
  · have f2 : (y.kind.1 == 2) = true := by rw [k2]; rfl
    have h3' := h3 (by omega)
    simp only [ZE, zA, zB, zC, zD, zF, zG, zH, zI, zJ, List.replicate, ↓reduceIte, pE, pL, pA, pS, pM, pD, eRaw, List.map_set, List.map_append, List.map_cons, List.map_nil, List.map_take, List.map_drop] at h3'
    simp only [ZE, zA, zB, zC, zD, zF, zG, zH, zI, zJ, List.replicate, ↓reduceIte, pE, pL, pA, pS, pM, pD, Nat.zero_add, Int.natCast_one, qT, qG, qL, qH, qN, qB, qE, qO, qA, qM, f7, f8, f9, f1, f2, dr, tk, List.length_set, List.length_map]
    refine EFn.p ?_
    simp only [ZE, zA, zB, zC, zD, zF, zG, zH, zI, zJ, List.replicate, ↓reduceIte, pE, pL, pA, pS, pM, pD, Nat.zero_add, Int.natCast_one, qT, qG, qL, qH, qN, qB, qE, qO, qA, qM, dr, tk, List.length_set, List.length_map]
    refine ECall.i h3' ?_
    simp only [ZE, zA, zB, zC, zD, zF, zG, zH, zI, zJ, List.replicate, ↓reduceIte, pE, pL, pA, pS, pM, pD, Nat.zero_add, Int.natCast_one, qT, qG, qL, qH, qN, qB, qE, qO, qA, qM]
  have f2 : (y.kind.1 == 2) = false := by rw [beq_eq_false_iff_ne]; exact k2
  simp only [ZE, zA, zB, zC, zD, zF, zG, zH, zI, zJ, List.replicate, ↓reduceIte, pE, pL, pA, pS, pM, pD, Nat.zero_add, Int.natCast_one, qT, qG, qL, qH, qN, qB, qE, qO, qA, qM, f7, f8, f9, f1, f2]
end Go.Proofs.Ytejpmjnefokdoaa

/-
  CheckRemoval answers true.
-/
namespace Go.Proofs.Ytejpmjnefokdoaa
open Go.Aw
theorem wts_tidy {L : List Module} : ∀ r : List Item, (∀ y ∈ r, Tidy L y) → wts r ≤ 3 * r.length
  | [], _ => by simp [wts]
  | y :: r, h => by
    have h1 := wts_tidy r (fun z hz => h z (List.mem_cons_of_mem _ hz))
    have h2 := (h y List.mem_cons_self).ports
    rw [wts_cons, List.length_cons]
    unfold wt
    omega
theorem small_set {L l : List Module} (hl : l.length ≤ 1000) (h : ∀ m ∈ l, m.items.length ≤ 20 ∧ ∀ y ∈ m.items, Tidy L y) (i : Nat) (m : Module) (r : List Item) (hr : r.length ≤ 900) (ht : ∀ y ∈ r, Tidy L y) : Small (l.set i { m with items := r }) := by
  refine { len := by simpa using hl, items := fun m' hm => ?_, nums := fun m' hm x hx => ?_ }
  · rcases List.mem_or_eq_of_mem_set hm with h1 | h1
    · have := (h m' h1).1; omega
    · rw [h1]; exact hr
  · have hx' : Tidy L x := by
      rcases List.mem_or_eq_of_mem_set hm with h1 | h1
      · exact (h m' h1).2 x hx
      · rw [h1] at hx; exact ht x hx
    exact numbers_len x hx'.a hx'.b hx'.c hx'.args
theorem small_tidy {L l : List Module} (hl : l.length ≤ 1000) (h : ∀ m ∈ l, m.items.length ≤ 20 ∧ ∀ y ∈ m.items, Tidy L y) : Small l := by
  refine { len := hl, items := fun m' hm => ?_, nums := fun m' hm x hx => ?_ }
  · have := (h m' hm).1; omega
  · have hx' := (h m' hm).2 x hx
    exact numbers_len x hx'.a hx'.b hx'.c hx'.args
theorem removal_c (x : Raw) (hx : x.ok) (k0 k1 : Nat) (h0 : k0 < 256) (h1 : k1 < 256) : FnP Try.prog 7 [eRaw x, .agg [eU8 k0, eU8 k1]] (.d (eB true)) [] := by
  obtain ⟨hl2, hl0, hT⟩ := tidy_made x
  have hv := valid_made x
  have hmc := made_c x hx
  obtain ⟨f, hf⟩ : ∃ f, made x = f := ⟨_, rfl⟩
  rw [hf] at hl2 hl0 hT hv hmc
  clear hf
  have hi : k0 % f.length < f.length := Nat.mod_lt _ hl0
  obtain ⟨i, hki⟩ : ∃ i, k0 % f.length = i := ⟨_, rfl⟩
  rw [hki] at hi
  obtain ⟨⟨hm0, hm20⟩, ht⟩ := hT f[i] (List.getElem_mem hi)
  have hn : k1 % f[i].items.length < f[i].items.length := Nat.mod_lt _ hm0
  obtain ⟨n, hkn⟩ : ∃ n, k1 % f[i].items.length = n := ⟨_, rfl⟩
  rw [hkn] at hn
  have hy : f[i].items[n] ∈ f[i].items := List.getElem_mem hn
  have hT' : ∀ m ∈ f, m.items.length ≤ 20 ∧ ∀ y ∈ m.items, Tidy f y := fun m hm => ⟨(hT m hm).1.2, (hT m hm).2⟩
  have hw : wts f[i].items ≤ 1000000000 := by
    have := wts_tidy _ ht; omega
  have hsp : f[i].items = f[i].items.take n ++ f[i].items[n] :: f[i].items.drop (n + 1) := by
    rw [← List.drop_eq_getElem_cons hn, List.take_append_drop]
  have ht2 : ∀ y ∈ f[i].items ++ [f[i].items[n]], Tidy f y := by
    intro y hy'
    rcases List.mem_append.1 hy' with h | h
    · exact ht y h
    · simp only [List.mem_singleton] at h
      rw [h]; exact ht _ hy
  have ht3 : ∀ y ∈ f[i].items.take n ++ f[i].items.drop (n + 1), Tidy f y := by
    intro y hy'
    rcases List.mem_append.1 hy' with h | h
    · exact ht y (List.mem_of_mem_take h)
    · exact ht y (List.mem_of_mem_drop h)
  refine removal_w x k0 k1 h0 h1 f f[i] f[i].items[n] i n hmc (by omega) hi hki rfl (by omega) hn hkn rfl ?_ ?_ (fun hk => ?_)
  · have := valid_c f (small_tidy (by omega) hT')
    rwa [hv] at this
  · have h2 := valid_c (f.set i { f[i] with items := f[i].items ++ [f[i].items[n]] }) (small_set (by omega) hT' i _ _ (by simp; omega) ht2)
    have h3 : valid (f.set i { f[i] with items := f[i].items ++ [f[i].items[n]] }) = false := twice_bad hv hi hy (by
      have := wts_tidy _ ht2
      simp only [List.length_append, List.length_cons, List.length_nil] at this
      omega)
    rwa [h3] at h2
  · have h2 := valid_c (f.set i { f[i] with items := f[i].items.take n ++ f[i].items.drop (n + 1) }) (small_set (by omega) hT' i _ _ (by simp; omega) ht3)
    have h3 : valid (f.set i { f[i] with items := f[i].items.take n ++ f[i].items.drop (n + 1) }) = false := by
      by_cases hp : f[i].items[n].kind.1 = 1 ∨ f[i].items[n].kind.1 = 2
      · exact less_port hv hi hsp hp hw
      · exact less_use hv hi hsp (by rcases hk with h | h | h | h | h
                                     · exact .inl h
                                     · exact .inr (.inl h)
                                     · exact .inr (.inr h)
                                     · exact absurd (.inl h) hp
                                     · exact absurd (.inr h) hp) (ht _ hy).inst hw
    rwa [h3] at h2
end Go.Proofs.Ytejpmjnefokdoaa

/-
  CheckRemoval: if a take, a put, or an instance that binds a port is removed from a valid file, the file is no longer valid; and so if a port is removed, or an item is doubled.
  Conditions: none.
-/
namespace Go.Proofs.Ytejpmjnefokdoaa
open Go.Aw Go.ChangeShapes Go.WideShapes Go.ChangeAt Go.RowKit
set_option maxRecDepth 100000
theorem removal_lifted (os : Os) (started : os.Started) (H : Type) (enc : TypeId × Value → H) :
    ReturnsInHanded {} Try.checked os 7 .any (Rows.checkRemovalSpec.pre6 enc Try.prog Try.f7 Rows.checkRemovalRow.domain false) (Rows.checkRemovalSpec.post enc Try.prog Try.f7 false true false false) := by
  refine returnsInHanded_of_change (C := Try.checked) own started (by kernel_rfl) Try.func7
    (ChangeSpec.witness6 (enc := enc) (C := Try.checked) false ⟨#[], #[.agg #[.int .u8 0, .int .u8 0, .slice none 0 0], .agg #[.int .u8 0, .int .u8 0]], []⟩ 8 (by kernel_rfl) (by kernel_rfl) (by kernel_rfl) (by kernel_rfl)) ?_
  intro W base args ds gs before hval hW _ _
  refine law_post (P := Try.prog) (n := 8) (ss := [shRaw, shK2]) laidOut (of_decide_eq_true (by kernel_rfl)) (tb := 4) (by kernel_rfl) Try.underlying4 (by kernel_rfl) rfl hval hW (fun hl => ?_) (fun Ds hD _ => ?_)
  · match ds, hl with
    | [_, _], _ => rfl
  · obtain ⟨a, b, rfl, ha, hb⟩ := fitsA_2 hD
    obtain ⟨x, rfl, hx⟩ := raw_of ha
    obtain ⟨k0, k1, rfl, h0, h1⟩ := k2_of hb
    exact removal_c x hx k0 k1 h0 h1
theorem removal_holds : Rows.CheckRemovalSaid :=
  OpenClaim.holds_of_wide 7 Try.f7 rfl rfl rfl rfl rfl rfl rfl ⟨rfl, rfl, rfl, rfl, rfl⟩ rfl rfl rfl rfl rfl (by kernel_rfl) Try.func7 (by kernel_rfl)
    (of_decide_eq_true (by kernel_rfl)) (by unfold Func.isWrapper; first | (rw [if_pos (by decide +kernel)]; kernel_rfl) | (rw [if_neg (by decide +kernel)]; exact ⟨rfl, rfl⟩))
    (fun os started H enc _ => removal_lifted os started H enc)
end Go.Proofs.Ytejpmjnefokdoaa
