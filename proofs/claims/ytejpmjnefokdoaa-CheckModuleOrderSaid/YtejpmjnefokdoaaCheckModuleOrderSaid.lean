/-
  CheckModuleOrder: if the modules of a file without two modules of one name are put into another order, it has the same problems at the modules' new indices.
  Conditions: none.
-/
import Derived.Test.YtejpmjnefokdoaaGL
import Derived.Test.YtejpmjnefokdoaaK4
import Derived.Test.YtejpmjnefokdoaaRows
import Derived.Test.YtejpmjnefokdoaaK5
set_option linter.unusedSimpArgs false
set_option linter.unusedVariables false
/-
  ARGUMENTS OF THE LAWS AS DATA.
-/
namespace Go.Proofs.Ytejpmjnefokdoaa
open Go.Aw Go.ChangeShapes Go.WideShapes Go.ChangeAt Go.RowKit
set_option maxRecDepth 100000
theorem own : ownKnob Try.prog.godebug = none := by kernel_rfl
theorem laidOut : laidOutB Try.prog = true := by kernel_rfl
def shRaw : ASh := .agg [.int .u8, .int .u8, .sl [.int .u8]]
def shK2 : ASh := .agg [.int .u8, .int .u8]
def shK4 : ASh := .agg [.int .u8, .int .u8, .int .u8, .int .u8]
def shB : ASh := .one (.sl [.int .u8])
theorem fitsL_3 {s t u : Sh} {ds : List D} (h : Sh.fitsL [s, t, u] ds) : ∃ a b c, ds = [a, b, c] ∧ s.fits a ∧ t.fits b ∧ u.fits c := by
  simp only [Sh.fitsL] at h
  obtain ⟨a, r, rfl, h1, b, r2, rfl, h2, c, r3, rfl, h3, rfl⟩ := h
  exact ⟨a, b, c, rfl, h1, h2, h3⟩
theorem bytes_of {d : D} (h : Sh.fits (.sl [.int .u8]) d) : ∃ l : List Nat, d = eBytes l ∧ ∀ b ∈ l, b < 256 := by
  obtain ⟨l, rfl, hl⟩ := fits_sl (enc := fun b : Nat => [eU8 b]) (p := fun b => b < 256) (fun e he => by
    obtain ⟨x, rfl, hx⟩ := fitsL_1 he
    obtain ⟨n, rfl, hn⟩ := fits_u8 hx
    exact ⟨n, rfl, hn⟩) h
  exact ⟨l, rfl, hl⟩
theorem raw_of {d : D} (h : shRaw.fits d) : ∃ x : Raw, d = eRaw x ∧ x.ok := by
  obtain ⟨ds, rfl, h⟩ := h
  obtain ⟨a, b, c, rfl, h1, h2, h3⟩ := fitsL_3 h
  obtain ⟨k, rfl, hk⟩ := fits_u8 h1
  obtain ⟨w, rfl, hw⟩ := fits_u8 h2
  obtain ⟨l, rfl, hl⟩ := bytes_of h3
  exact ⟨⟨k, w, l⟩, rfl, hk, hw, hl⟩
theorem k2_of {d : D} (h : shK2.fits d) : ∃ a b : Nat, d = .agg [eU8 a, eU8 b] ∧ a < 256 ∧ b < 256 := by
  obtain ⟨ds, rfl, h⟩ := h
  obtain ⟨a, b, rfl, h1, h2⟩ := fitsL_2 h
  obtain ⟨k, rfl, hk⟩ := fits_u8 h1
  obtain ⟨w, rfl, hw⟩ := fits_u8 h2
  exact ⟨k, w, rfl, hk, hw⟩
theorem k4_of {d : D} (h : shK4.fits d) : ∃ a b c e : Nat, d = .agg [eU8 a, eU8 b, eU8 c, eU8 e] ∧ a < 256 ∧ b < 256 ∧ c < 256 ∧ e < 256 := by
  obtain ⟨ds, rfl, h⟩ := h
  obtain ⟨a, b, c, e, rfl, h1, h2, h3, h4⟩ := fitsL_4 h
  obtain ⟨a, rfl, ha⟩ := fits_u8 h1
  obtain ⟨b, rfl, hb⟩ := fits_u8 h2
  obtain ⟨c, rfl, hc⟩ := fits_u8 h3
  obtain ⟨e, rfl, he⟩ := fits_u8 h4
  exact ⟨a, b, c, e, rfl, ha, hb, hc, he⟩
end Go.Proofs.Ytejpmjnefokdoaa

/-
  CONTRACTS: a file of which one part is another one.
-/
namespace Go.Proofs.Ytejpmjnefokdoaa
open Go.Aw
open Nat renaming reduceEqDiff → pE, reduceLT → pL, reduceAdd → pA, reduceSub → pS, reduceMul → pM, reduceLeDiff → pD
open Int renaming reduceToNat → qT, reduceGT → qG, reduceLT → qL, reduceGE → qH, reduceBNe → qN, reduceBEq → qB, reduceLE → qE, reduceNe → qO, reduceAdd → qA, reduceNeg → qM
set_option maxRecDepth 100000
set_option maxHeartbeats 20000000
def kindN (n : Nat) : I64 := if h : n ≤ 9223372036854775807 then ⟨(n : Int), wf_nat h⟩ else ⟨0, rfl⟩
theorem kindN_1 {n : Nat} (h : n ≤ 1000) : (kindN n).1 = (n : Int) := by unfold kindN; rw [dif_pos (by omega)]
def spoilI (k1 k3 : Nat) (s : Str) (x : Item) : Item :=
  if k1 % 12 = 4 then { x with name := s } else if k1 % 12 = 5 then { x with kind := kindN (k3 % 11) } else if k1 % 12 = 6 then { x with width := ⟨x.width.n, s⟩ }
  else if k1 % 12 = 7 then { x with a := .mk 14 s zNum zNum [] } else if k1 % 12 = 8 then { x with a := .mk (k3 % 20 : Nat) s zNum zNum [x.a] }
  else if k1 % 12 = 9 then { x with rule := ⟨(k3 % 6 : Nat) - 1, s, 0⟩ } else if k1 % 12 = 10 then { x with of := s } else if k1 % 12 = 11 then { x with ports := x.ports ++ [⟨sX, s⟩] } else x
def spoilL (k1 k3 : Nat) (s : Str) (l : List Item) (n : Nat) (x : Item) : List Item := (if k1 % 12 < 4 then l ++ [x] else l).set n (spoilI k1 k3 s x)
def spoilM (k1 k2 k3 : Nat) (s : Str) (m : Module) : Module :=
  if m.items.length = 0 ∨ k1 % 16 < 4 then
    (if k1 % 4 = 0 then { m with name := s } else if k1 % 4 = 1 then { m with clock := s } else if k1 % 4 = 2 then { m with params := m.params ++ [s] } else { m with items := m.items ++ [{ zItem with kind := kindN (k2 % 11), name := s }] })
  else { m with items := spoilL k1 k3 s m.items (k2 % m.items.length) (m.items.getD (k2 % m.items.length) zItem) }
theorem rowsOk_strs (l : List Str) : rowsOk 1 (l.map fun s => [D.lit (.string s.1)]) := by
  intro y hy
  obtain ⟨q, _, rfl⟩ := List.mem_map.1 hy
  simp [D.one, Value.oneCell']
theorem rowsOk_mods (l : List Module) : rowsOk 4 (l.map eModule) := by
  intro y hy
  obtain ⟨q, _, rfl⟩ := List.mem_map.1 hy
  simp [eModule, eS, eStrs, eItems, D.one, Value.oneCell']
theorem rowsOk_binds (l : List Bind) : rowsOk 2 (l.map eBind) := by
  intro y hy
  obtain ⟨q, _, rfl⟩ := List.mem_map.1 hy
  simp [eBind, eS, D.one, Value.oneCell']
theorem spoil0_c (f : List Module) (k0 k1 k2 k3 : Nat) (s : Str) (h0 : k0 < 256) (h1 : k1 < 256) (h2 : k2 < 256) (h3 : k3 < 256) (hf : f.length ≤ 1000) (i : Nat) (hi : i < f.length) (hki : k0 % f.length = i) (m : Module) (hm : f[i] = m) (hl : m.items.length ≤ 800) (hp : m.params.length ≤ 800)
    (hc : m.items.length = 0 ∨ k1 % 16 < 4) : FnP Try.prog 10 [.agg [eModules f], .agg [eU8 k0, eU8 k1, eU8 k2, eU8 k3], eS s] (.d (.agg [eModules (f.set i (spoilM k1 k2 k3 s m))])) [] := by
  refine FnP.of_eC (own := []) (fun i => if i = 1016 then [.frz 34] else if i = 1039 then [.frz 34] else if i = 15 then [.frz 73] else if i = 37 then [.frz 157] else if i = 31 then [.frz 138] else if i = 29 then [.adB 11 14 99 50 7, .frz 99] else []) mixed Try.func10 rfl Try.call10 Try.ntmps10 (Nat.le_of_ble_eq_true rfl) Try.results10 (fun hok => ?_)
  have e1 : IntKind.i64.wrap (k0 : Int) = (k0 : Int) := wrap_id (by omega) (by omega)
  have e2 : IntKind.i64.wrap (k2 : Int) = (k2 : Int) := wrap_id (by omega) (by omega)
  have r1 : (k0 : Int).tmod (f.length : Int) = (i : Int) := by rw [← hki]; exact (Int.ofNat_tmod _ _).symm
  have m16 : (k1 : Int).tmod 16 = ((k1 % 16 : Nat) : Int) := (Int.ofNat_tmod _ _).symm
  have m4 : (k1 : Int).tmod 4 = ((k1 % 4 : Nat) : Int) := (Int.ofNat_tmod _ _).symm
  have m12 : (k1 : Int).tmod 12 = ((k1 % 12 : Nat) : Int) := (Int.ofNat_tmod _ _).symm
  have z1 : ¬ (f.length : Int) = 0 := by omega
  have z2 : ((f.length : Int) == 0) = false := by rw [beq_eq_false_iff_ne]; omega
  have ro := rowsOk_mods f
  have ri := rowsOk_items m.items
  have m11 : (k2 : Int).tmod 11 = ((k2 % 11 : Nat) : Int) := (Int.ofNat_tmod _ _).symm
  have e11 : IntKind.i64.wrap ((k2 % 11 : Nat) : Int) = ((k2 % 11 : Nat) : Int) := wrap_id (by omega) (by omega)
  rw [spoilM, if_pos hc]
  by_cases hz : m.items.length = 0
  · have hz' : ((m.items.length : Int) == 0) = true := by simp [hz]
    by_cases b0 : k1 % 4 = 0
    · have g0 : (((k1 % 4 : Nat) : Int) == 0) = true := by simp [b0]
      rw [if_pos b0]
      simp (maxSteps := 4000000) only [ZE, List.replicate, ↓reduceIte, pE, pL, pA, pS, pM, pD, Nat.zero_add, Int.natCast_one, qT, qG, qL, qH, qN, qB, qE, qO, qA, qM, e1, e2, r1, m16, m4, m12, z1, z2, not_false_eq_true, getD_map hi, lt_int hi, List.length_map, hm, hz', g0, List.length_append, List.length_map, List.length_cons, List.length_nil, List.length_set, List.map_set, List.map_append, List.map_cons, List.map_nil]
      repeat' apply And.intro
      all_goals first | assumption | omega | simp only [ZE, List.replicate, ↓reduceIte, pE, pL, pA, pS, pM, pD, List.length_append, List.length_map, List.length_cons, List.length_nil, List.length_set, List.map_set, List.map_append, List.map_cons, List.map_nil]
    have g0 : (((k1 % 4 : Nat) : Int) == 0) = false := by simp; omega
    rw [if_neg b0]
    by_cases b1 : k1 % 4 = 1
    · have g1 : (((k1 % 4 : Nat) : Int) == 1) = true := by simp [b1]
      rw [if_pos b1]
      simp (maxSteps := 4000000) only [ZE, List.replicate, ↓reduceIte, pE, pL, pA, pS, pM, pD, Nat.zero_add, Int.natCast_one, qT, qG, qL, qH, qN, qB, qE, qO, qA, qM, e1, e2, r1, m16, m4, m12, z1, z2, not_false_eq_true, getD_map hi, lt_int hi, List.length_map, hm, hz', g0, g1, List.length_append, List.length_map, List.length_cons, List.length_nil, List.length_set, List.map_set, List.map_append, List.map_cons, List.map_nil]
      repeat' apply And.intro
      all_goals first | assumption | omega | simp only [ZE, List.replicate, ↓reduceIte, pE, pL, pA, pS, pM, pD, List.length_append, List.length_map, List.length_cons, List.length_nil, List.length_set, List.map_set, List.map_append, List.map_cons, List.map_nil]
    have g1 : (((k1 % 4 : Nat) : Int) == 1) = false := by simp; omega
    rw [if_neg b1]
    by_cases b2 : k1 % 4 = 2
    · have g2 : (((k1 % 4 : Nat) : Int) == 2) = true := by simp [b2]
      rw [if_pos b2]
      have rp := rowsOk_strs m.params
      simp (maxSteps := 4000000) only [ZE, List.replicate, ↓reduceIte, pE, pL, pA, pS, pM, pD, Nat.zero_add, Int.natCast_one, qT, qG, qL, qH, qN, qB, qE, qO, qA, qM, e1, e2, r1, m16, m4, m12, z1, z2, not_false_eq_true, getD_map hi, lt_int hi, List.length_map, hm, hz', g0, g1, g2, List.length_append, List.length_map, List.length_cons, List.length_nil, List.length_set, List.map_set, List.map_append, List.map_cons, List.map_nil]
      repeat' apply And.intro
      all_goals first | assumption | omega | simp only [ZE, List.replicate, ↓reduceIte, pE, pL, pA, pS, pM, pD, List.length_append, List.length_map, List.length_cons, List.length_nil, List.length_set, List.map_set, List.map_append, List.map_cons, List.map_nil]
    have g2 : (((k1 % 4 : Nat) : Int) == 2) = false := by simp; omega
    rw [if_neg b2]
    have k11 : (kindN (k2 % 11)).1 = ((k2 % 11 : Nat) : Int) := kindN_1 (by omega)
    simp (maxSteps := 4000000) only [ZE, List.replicate, ↓reduceIte, pE, pL, pA, pS, pM, pD, Nat.zero_add, Int.natCast_one, qT, qG, qL, qH, qN, qB, qE, qO, qA, qM, e1, e2, r1, m16, m4, m12, z1, z2, not_false_eq_true, getD_map hi, lt_int hi, List.length_map, hm, hz', g0, g1, g2, m11, e11, k11, op_mk, name_mk, k_mk, w_mk, args_mk, zExpr, zNum, emp, zItem, List.length_append, List.length_map, List.length_cons, List.length_nil, List.length_set, List.map_set, List.map_append, List.map_cons, List.map_nil]
    repeat' apply And.intro
    all_goals first | assumption | omega | simp only [ZE, List.replicate, ↓reduceIte, pE, pL, pA, pS, pM, pD, List.length_append, List.length_map, List.length_cons, List.length_nil, List.length_set, List.map_set, List.map_append, List.map_cons, List.map_nil]
  · have hz' : ((m.items.length : Int) == 0) = false := by rw [beq_eq_false_iff_ne]; omega
    have c1 : decide (((k1 % 16 : Nat) : Int) < 4) = true := by
      rcases hc with h | h
      · exact absurd h hz
      · simp; omega
    by_cases b0 : k1 % 4 = 0
    · have g0 : (((k1 % 4 : Nat) : Int) == 0) = true := by simp [b0]
      rw [if_pos b0]
      simp (maxSteps := 4000000) only [ZE, List.replicate, ↓reduceIte, pE, pL, pA, pS, pM, pD, Nat.zero_add, Int.natCast_one, qT, qG, qL, qH, qN, qB, qE, qO, qA, qM, e1, e2, r1, m16, m4, m12, z1, z2, not_false_eq_true, getD_map hi, lt_int hi, List.length_map, hm, hz', c1, g0, List.length_append, List.length_map, List.length_cons, List.length_nil, List.length_set, List.map_set, List.map_append, List.map_cons, List.map_nil]
      repeat' apply And.intro
      all_goals first | assumption | omega | simp only [ZE, List.replicate, ↓reduceIte, pE, pL, pA, pS, pM, pD, List.length_append, List.length_map, List.length_cons, List.length_nil, List.length_set, List.map_set, List.map_append, List.map_cons, List.map_nil]
    have g0 : (((k1 % 4 : Nat) : Int) == 0) = false := by simp; omega
    rw [if_neg b0]
    by_cases b1 : k1 % 4 = 1
    · have g1 : (((k1 % 4 : Nat) : Int) == 1) = true := by simp [b1]
      rw [if_pos b1]
      simp (maxSteps := 4000000) only [ZE, List.replicate, ↓reduceIte, pE, pL, pA, pS, pM, pD, Nat.zero_add, Int.natCast_one, qT, qG, qL, qH, qN, qB, qE, qO, qA, qM, e1, e2, r1, m16, m4, m12, z1, z2, not_false_eq_true, getD_map hi, lt_int hi, List.length_map, hm, hz', c1, g0, g1, List.length_append, List.length_map, List.length_cons, List.length_nil, List.length_set, List.map_set, List.map_append, List.map_cons, List.map_nil]
      repeat' apply And.intro
      all_goals first | assumption | omega | simp only [ZE, List.replicate, ↓reduceIte, pE, pL, pA, pS, pM, pD, List.length_append, List.length_map, List.length_cons, List.length_nil, List.length_set, List.map_set, List.map_append, List.map_cons, List.map_nil]
    have g1 : (((k1 % 4 : Nat) : Int) == 1) = false := by simp; omega
    rw [if_neg b1]
    by_cases b2 : k1 % 4 = 2
    · have g2 : (((k1 % 4 : Nat) : Int) == 2) = true := by simp [b2]
      rw [if_pos b2]
      have rp := rowsOk_strs m.params
      simp (maxSteps := 4000000) only [ZE, List.replicate, ↓reduceIte, pE, pL, pA, pS, pM, pD, Nat.zero_add, Int.natCast_one, qT, qG, qL, qH, qN, qB, qE, qO, qA, qM, e1, e2, r1, m16, m4, m12, z1, z2, not_false_eq_true, getD_map hi, lt_int hi, List.length_map, hm, hz', c1, g0, g1, g2, List.length_append, List.length_map, List.length_cons, List.length_nil, List.length_set, List.map_set, List.map_append, List.map_cons, List.map_nil]
      repeat' apply And.intro
      all_goals first | assumption | omega | simp only [ZE, List.replicate, ↓reduceIte, pE, pL, pA, pS, pM, pD, List.length_append, List.length_map, List.length_cons, List.length_nil, List.length_set, List.map_set, List.map_append, List.map_cons, List.map_nil]
    have g2 : (((k1 % 4 : Nat) : Int) == 2) = false := by simp; omega
    rw [if_neg b2]
    have k11 : (kindN (k2 % 11)).1 = ((k2 % 11 : Nat) : Int) := kindN_1 (by omega)
    simp (maxSteps := 4000000) only [ZE, List.replicate, ↓reduceIte, pE, pL, pA, pS, pM, pD, Nat.zero_add, Int.natCast_one, qT, qG, qL, qH, qN, qB, qE, qO, qA, qM, e1, e2, r1, m16, m4, m12, z1, z2, not_false_eq_true, getD_map hi, lt_int hi, List.length_map, hm, hz', c1, g0, g1, g2, m11, e11, k11, op_mk, name_mk, k_mk, w_mk, args_mk, zExpr, zNum, emp, zItem, List.length_append, List.length_map, List.length_cons, List.length_nil, List.length_set, List.map_set, List.map_append, List.map_cons, List.map_nil]
    repeat' apply And.intro
    all_goals first | assumption | omega | simp only [ZE, List.replicate, ↓reduceIte, pE, pL, pA, pS, pM, pD, List.length_append, List.length_map, List.length_cons, List.length_nil, List.length_set, List.map_set, List.map_append, List.map_cons, List.map_nil]
theorem spoil1_c (f : List Module) (k0 k1 k2 k3 : Nat) (s : Str) (h0 : k0 < 256) (h1 : k1 < 256) (h2 : k2 < 256) (h3 : k3 < 256) (hf : f.length ≤ 1000) (i : Nat) (hi : i < f.length) (hki : k0 % f.length = i) (m : Module) (hm : f[i] = m) (hl : m.items.length ≤ 800) (n : Nat) (hn : n < m.items.length) (hkn : k2 % m.items.length = n) (x : Item) (hx : m.items[n] = x) (hp : x.ports.length ≤ 800)
    (hc : ¬ k1 % 16 < 4) : FnP Try.prog 10 [.agg [eModules f], .agg [eU8 k0, eU8 k1, eU8 k2, eU8 k3], eS s] (.d (.agg [eModules (f.set i { m with items := spoilL k1 k3 s m.items n x })])) [] := by
  refine FnP.of_eC (own := []) (fun i => if i = 1016 then [.frz 34] else if i = 1039 then [.frz 34] else if i = 15 then [.frz 73] else if i = 37 then [.frz 157] else if i = 31 then [.frz 138] else if i = 29 then [.adB 11 14 99 50 7, .frz 99] else []) mixed Try.func10 rfl Try.call10 Try.ntmps10 (Nat.le_of_ble_eq_true rfl) Try.results10 (fun hok => ?_)
  have e1 : IntKind.i64.wrap (k0 : Int) = (k0 : Int) := wrap_id (by omega) (by omega)
  have e2 : IntKind.i64.wrap (k2 : Int) = (k2 : Int) := wrap_id (by omega) (by omega)
  have r1 : (k0 : Int).tmod (f.length : Int) = (i : Int) := by rw [← hki]; exact (Int.ofNat_tmod _ _).symm
  have m16 : (k1 : Int).tmod 16 = ((k1 % 16 : Nat) : Int) := (Int.ofNat_tmod _ _).symm
  have m4 : (k1 : Int).tmod 4 = ((k1 % 4 : Nat) : Int) := (Int.ofNat_tmod _ _).symm
  have m12 : (k1 : Int).tmod 12 = ((k1 % 12 : Nat) : Int) := (Int.ofNat_tmod _ _).symm
  have z1 : ¬ (f.length : Int) = 0 := by omega
  have z2 : ((f.length : Int) == 0) = false := by rw [beq_eq_false_iff_ne]; omega
  have ro := rowsOk_mods f
  have ri := rowsOk_items m.items
  have m11 : (k3 : Int).tmod 11 = ((k3 % 11 : Nat) : Int) := (Int.ofNat_tmod _ _).symm
  have e11 : IntKind.i64.wrap ((k3 % 11 : Nat) : Int) = ((k3 % 11 : Nat) : Int) := wrap_id (by omega) (by omega)
  have k11 : (kindN (k3 % 11)).1 = ((k3 % 11 : Nat) : Int) := kindN_1 (by omega)
  have m20 : (k3 : Int).tmod 20 = ((k3 % 20 : Nat) : Int) := (Int.ofNat_tmod _ _).symm
  have e20 : IntKind.i64.wrap ((k3 % 20 : Nat) : Int) = ((k3 % 20 : Nat) : Int) := wrap_id (by omega) (by omega)
  have m6 : (k3 : Int).tmod 6 = ((k3 % 6 : Nat) : Int) := (Int.ofNat_tmod _ _).symm
  have e6 : IntKind.i64.wrap ((k3 % 6 : Nat) : Int) = ((k3 % 6 : Nat) : Int) := wrap_id (by omega) (by omega)
  have s6 : IntKind.i64.wrap (((k3 % 6 : Nat) : Int) - 1) = ((k3 % 6 : Nat) : Int) - 1 := wrap_id (by omega) (by omega)
  have r2 : (k2 : Int).tmod (m.items.length : Int) = (n : Int) := by rw [← hkn]; exact (Int.ofNat_tmod _ _).symm
  have z3 : ¬ (m.items.length : Int) = 0 := by omega
  have hz' : ((m.items.length : Int) == 0) = false := by rw [beq_eq_false_iff_ne]; omega
  have c1 : decide (((k1 % 16 : Nat) : Int) < 4) = false := by simp; omega
  have rp := rowsOk_binds x.ports
  by_cases b4 : k1 % 12 = 4
  · have g4 : (((k1 % 12 : Nat) : Int) == 4) = true := by simp [b4]
    have hI : spoilL k1 k3 s m.items n x = m.items.set n ({ x with name := s }) := by
      unfold spoilL spoilI
      simp [b4]
    rw [hI]
    simp (maxSteps := 4000000) only [ZE, List.replicate, ↓reduceIte, pE, pL, pA, pS, pM, pD, Nat.zero_add, Int.natCast_one, qT, qG, qL, qH, qN, qB, qE, qO, qA, qM, e1, e2, r1, m16, m4, m12, z1, z2, not_false_eq_true, getD_map hi, lt_int hi, List.length_map, hm, hz', c1, r2, z3, getD_map hn, lt_int hn, hx, Int.toNat_natCast, g4, e1, List.length_append, List.length_map, List.length_cons, List.length_nil, List.length_set, List.map_set, List.map_append, List.map_cons, List.map_nil]
    repeat' apply And.intro
    all_goals first | assumption | omega | simp only [ZE, List.replicate, ↓reduceIte, pE, pL, pA, pS, pM, pD, List.length_append, List.length_map, List.length_cons, List.length_nil, List.length_set, List.map_set, List.map_append, List.map_cons, List.map_nil]
  have g4 : (((k1 % 12 : Nat) : Int) == 4) = false := by simp; omega
  by_cases b5 : k1 % 12 = 5
  · have g5 : (((k1 % 12 : Nat) : Int) == 5) = true := by simp [b5]
    have hI : spoilL k1 k3 s m.items n x = m.items.set n ({ x with kind := kindN (k3 % 11) }) := by
      unfold spoilL spoilI
      simp [b5]
    rw [hI]
    simp (maxSteps := 4000000) only [ZE, List.replicate, ↓reduceIte, pE, pL, pA, pS, pM, pD, Nat.zero_add, Int.natCast_one, qT, qG, qL, qH, qN, qB, qE, qO, qA, qM, e1, e2, r1, m16, m4, m12, z1, z2, not_false_eq_true, getD_map hi, lt_int hi, List.length_map, hm, hz', c1, r2, z3, getD_map hn, lt_int hn, hx, Int.toNat_natCast, g4,g5, m11, e11, k11, List.length_append, List.length_map, List.length_cons, List.length_nil, List.length_set, List.map_set, List.map_append, List.map_cons, List.map_nil]
    repeat' apply And.intro
    all_goals first | assumption | omega | simp only [ZE, List.replicate, ↓reduceIte, pE, pL, pA, pS, pM, pD, List.length_append, List.length_map, List.length_cons, List.length_nil, List.length_set, List.map_set, List.map_append, List.map_cons, List.map_nil]
  have g5 : (((k1 % 12 : Nat) : Int) == 5) = false := by simp; omega
  by_cases b6 : k1 % 12 = 6
  · have g6 : (((k1 % 12 : Nat) : Int) == 6) = true := by simp [b6]
    have hI : spoilL k1 k3 s m.items n x = m.items.set n ({ x with width := ⟨x.width.n, s⟩ }) := by
      unfold spoilL spoilI
      simp [b6]
    rw [hI]
    simp (maxSteps := 4000000) only [ZE, List.replicate, ↓reduceIte, pE, pL, pA, pS, pM, pD, Nat.zero_add, Int.natCast_one, qT, qG, qL, qH, qN, qB, qE, qO, qA, qM, e1, e2, r1, m16, m4, m12, z1, z2, not_false_eq_true, getD_map hi, lt_int hi, List.length_map, hm, hz', c1, r2, z3, getD_map hn, lt_int hn, hx, Int.toNat_natCast, g4, g5,g6, e1, List.length_append, List.length_map, List.length_cons, List.length_nil, List.length_set, List.map_set, List.map_append, List.map_cons, List.map_nil]
    repeat' apply And.intro
    all_goals first | assumption | omega | simp only [ZE, List.replicate, ↓reduceIte, pE, pL, pA, pS, pM, pD, List.length_append, List.length_map, List.length_cons, List.length_nil, List.length_set, List.map_set, List.map_append, List.map_cons, List.map_nil]
  have g6 : (((k1 % 12 : Nat) : Int) == 6) = false := by simp; omega
  by_cases b7 : k1 % 12 = 7
  · have g7 : (((k1 % 12 : Nat) : Int) == 7) = true := by simp [b7]
    have hI : spoilL k1 k3 s m.items n x = m.items.set n ({ x with a := .mk 14 s zNum zNum [] }) := by
      unfold spoilL spoilI
      simp [b7]
    rw [hI]
    simp (maxSteps := 4000000) only [ZE, List.replicate, ↓reduceIte, pE, pL, pA, pS, pM, pD, Nat.zero_add, Int.natCast_one, qT, qG, qL, qH, qN, qB, qE, qO, qA, qM, e1, e2, r1, m16, m4, m12, z1, z2, not_false_eq_true, getD_map hi, lt_int hi, List.length_map, hm, hz', c1, r2, z3, getD_map hn, lt_int hn, hx, Int.toNat_natCast, g4, g5, g6,g7, op_mk, name_mk, k_mk, w_mk, args_mk, zExpr, zNum, emp, zItem, List.length_append, List.length_map, List.length_cons, List.length_nil, List.length_set, List.map_set, List.map_append, List.map_cons, List.map_nil]
    repeat' apply And.intro
    all_goals first | assumption | omega | simp only [ZE, List.replicate, ↓reduceIte, pE, pL, pA, pS, pM, pD, List.length_append, List.length_map, List.length_cons, List.length_nil, List.length_set, List.map_set, List.map_append, List.map_cons, List.map_nil]
  have g7 : (((k1 % 12 : Nat) : Int) == 7) = false := by simp; omega
  by_cases b8 : k1 % 12 = 8
  · have g8 : (((k1 % 12 : Nat) : Int) == 8) = true := by simp [b8]
    have hI : spoilL k1 k3 s m.items n x = m.items.set n ({ x with a := .mk (k3 % 20 : Nat) s zNum zNum [x.a] }) := by
      unfold spoilL spoilI
      simp [b8]
    rw [hI]
    simp (maxSteps := 4000000) only [ZE, List.replicate, ↓reduceIte, pE, pL, pA, pS, pM, pD, Nat.zero_add, Int.natCast_one, qT, qG, qL, qH, qN, qB, qE, qO, qA, qM, e1, e2, r1, m16, m4, m12, z1, z2, not_false_eq_true, getD_map hi, lt_int hi, List.length_map, hm, hz', c1, r2, z3, getD_map hn, lt_int hn, hx, Int.toNat_natCast, g4, g5, g6, g7,g8, m20, e20, op_mk, name_mk, k_mk, w_mk, args_mk, zExpr, zNum, emp, zItem, List.length_append, List.length_map, List.length_cons, List.length_nil, List.length_set, List.map_set, List.map_append, List.map_cons, List.map_nil]
    repeat' apply And.intro
    all_goals first | assumption | omega | simp only [ZE, List.replicate, ↓reduceIte, pE, pL, pA, pS, pM, pD, List.length_append, List.length_map, List.length_cons, List.length_nil, List.length_set, List.map_set, List.map_append, List.map_cons, List.map_nil]
  have g8 : (((k1 % 12 : Nat) : Int) == 8) = false := by simp; omega
  by_cases b9 : k1 % 12 = 9
  · have g9 : (((k1 % 12 : Nat) : Int) == 9) = true := by simp [b9]
    have hI : spoilL k1 k3 s m.items n x = m.items.set n ({ x with rule := ⟨(k3 % 6 : Nat) - 1, s, 0⟩ }) := by
      unfold spoilL spoilI
      simp [b9]
    rw [hI]
    simp (maxSteps := 4000000) only [ZE, List.replicate, ↓reduceIte, pE, pL, pA, pS, pM, pD, Nat.zero_add, Int.natCast_one, qT, qG, qL, qH, qN, qB, qE, qO, qA, qM, e1, e2, r1, m16, m4, m12, z1, z2, not_false_eq_true, getD_map hi, lt_int hi, List.length_map, hm, hz', c1, r2, z3, getD_map hn, lt_int hn, hx, Int.toNat_natCast, g4, g5, g6, g7, g8,g9, m6, e6, s6, op_mk, name_mk, k_mk, w_mk, args_mk, zExpr, zNum, emp, zItem, List.length_append, List.length_map, List.length_cons, List.length_nil, List.length_set, List.map_set, List.map_append, List.map_cons, List.map_nil]
    repeat' apply And.intro
    all_goals first | assumption | omega | simp only [ZE, List.replicate, ↓reduceIte, pE, pL, pA, pS, pM, pD, List.length_append, List.length_map, List.length_cons, List.length_nil, List.length_set, List.map_set, List.map_append, List.map_cons, List.map_nil]
  have g9 : (((k1 % 12 : Nat) : Int) == 9) = false := by simp; omega
  by_cases b10 : k1 % 12 = 10
  · have g10 : (((k1 % 12 : Nat) : Int) == 10) = true := by simp [b10]
    have hI : spoilL k1 k3 s m.items n x = m.items.set n ({ x with of := s }) := by
      unfold spoilL spoilI
      simp [b10]
    rw [hI]
    simp (maxSteps := 4000000) only [ZE, List.replicate, ↓reduceIte, pE, pL, pA, pS, pM, pD, Nat.zero_add, Int.natCast_one, qT, qG, qL, qH, qN, qB, qE, qO, qA, qM, e1, e2, r1, m16, m4, m12, z1, z2, not_false_eq_true, getD_map hi, lt_int hi, List.length_map, hm, hz', c1, r2, z3, getD_map hn, lt_int hn, hx, Int.toNat_natCast, g4, g5, g6, g7, g8, g9,g10, e1, List.length_append, List.length_map, List.length_cons, List.length_nil, List.length_set, List.map_set, List.map_append, List.map_cons, List.map_nil]
    repeat' apply And.intro
    all_goals first | assumption | omega | simp only [ZE, List.replicate, ↓reduceIte, pE, pL, pA, pS, pM, pD, List.length_append, List.length_map, List.length_cons, List.length_nil, List.length_set, List.map_set, List.map_append, List.map_cons, List.map_nil]
  have g10 : (((k1 % 12 : Nat) : Int) == 10) = false := by simp; omega
  by_cases b11 : k1 % 12 = 11
  · have g11 : (((k1 % 12 : Nat) : Int) == 11) = true := by simp [b11]
    have hI : spoilL k1 k3 s m.items n x = m.items.set n ({ x with ports := x.ports ++ [⟨sX, s⟩] }) := by
      unfold spoilL spoilI
      simp [b11]
    rw [hI]
    simp (maxSteps := 4000000) only [ZE, List.replicate, ↓reduceIte, pE, pL, pA, pS, pM, pD, Nat.zero_add, Int.natCast_one, qT, qG, qL, qH, qN, qB, qE, qO, qA, qM, e1, e2, r1, m16, m4, m12, z1, z2, not_false_eq_true, getD_map hi, lt_int hi, List.length_map, hm, hz', c1, r2, z3, getD_map hn, lt_int hn, hx, Int.toNat_natCast, g4, g5, g6, g7, g8, g9, g10,g11, sX, st, List.length_append, List.length_map, List.length_cons, List.length_nil, List.length_set, List.map_set, List.map_append, List.map_cons, List.map_nil]
    repeat' apply And.intro
    all_goals first | assumption | omega | simp only [ZE, List.replicate, ↓reduceIte, pE, pL, pA, pS, pM, pD, List.length_append, List.length_map, List.length_cons, List.length_nil, List.length_set, List.map_set, List.map_append, List.map_cons, List.map_nil]
  have g11 : (((k1 % 12 : Nat) : Int) == 11) = false := by simp; omega
  have ga : ∀ r, (m.items.map eItem ++ r).getD n [] = eItem x := fun r => by
    rw [List.getD_eq_getElem?_getD, List.getElem?_append_left (by simpa using hn), List.getElem?_eq_getElem (by simpa using hn), List.getElem_map, hx]; rfl
  have hI : spoilL k1 k3 s m.items n x = (m.items ++ [x]).set n x := by
    unfold spoilL spoilI
    rw [if_pos (by omega), if_neg b4, if_neg b5, if_neg b6, if_neg b7, if_neg b8, if_neg b9, if_neg b10, if_neg b11]
  rw [hI]
  simp (maxSteps := 4000000) only [ZE, List.replicate, ↓reduceIte, pE, pL, pA, pS, pM, pD, Nat.zero_add, Int.natCast_one, qT, qG, qL, qH, qN, qB, qE, qO, qA, qM, e1, e2, r1, m16, m4, m12, z1, z2, not_false_eq_true, getD_map hi, lt_int hi, List.length_map, hm, hz', c1, r2, z3, getD_map hn, lt_int hn, hx, Int.toNat_natCast, g4, g5, g6, g7, g8, g9, g10, g11, ga, List.length_append, List.length_map, List.length_cons, List.length_nil, List.length_set, List.map_set, List.map_append, List.map_cons, List.map_nil]
  repeat' apply And.intro
  all_goals first | assumption | omega | simp only [ZE, List.replicate, ↓reduceIte, pE, pL, pA, pS, pM, pD, List.length_append, List.length_map, List.length_cons, List.length_nil, List.length_set, List.map_set, List.map_append, List.map_cons, List.map_nil]
end Go.Proofs.Ytejpmjnefokdoaa

/-
  CONTRACTS: problems put in order.
-/
namespace Go.Proofs.Ytejpmjnefokdoaa
open Go.Aw
open Nat renaming reduceEqDiff → pE, reduceLT → pL, reduceAdd → pA, reduceSub → pS, reduceMul → pM, reduceLeDiff → pD
open Int renaming reduceToNat → qT, reduceGT → qG, reduceLT → qL, reduceGE → qH, reduceBNe → qN, reduceBEq → qB, reduceLE → qE, reduceNe → qO, reduceAdd → qA, reduceNeg → qM
set_option maxRecDepth 100000
set_option maxHeartbeats 20000000
def befB (q p : Problem) : Bool := decide (q.module < p.module) || (q.module == p.module && (decide (q.item < p.item) || (q.item == p.item && decide (q.code ≤ p.code))))
def placeP (acc : List Problem) (p : Problem) : Nat := (acc.takeWhile (befB · p)).length
def ordStep (acc : List Problem) (p : Problem) : List Problem := acc.take (placeP acc p) ++ [p] ++ acc.drop (placeP acc p)
def ordered (l : List Problem) : List Problem := l.foldl ordStep []
theorem placeP_le (acc : List Problem) (p : Problem) : placeP acc p ≤ acc.length := (List.takeWhile_prefix _).length_le
theorem placeP_eq {p : Problem} : ∀ {acc : List Problem} {k : Nat}, k ≤ acc.length → (∀ j (h : j < acc.length), j < k → befB acc[j] p = true) → (∀ h : k < acc.length, befB acc[k] p = false) → placeP acc p = k
  | [], k, hk, _, _ => by simp at hk; subst hk; rfl
  | q :: r, 0, _, _, h2 => by
    have := h2 (by simp)
    simp only [List.getElem_cons_zero] at this
    unfold placeP
    rw [List.takeWhile_cons, this]; rfl
  | q :: r, k + 1, hk, h1, h2 => by
    have h0 := h1 0 (by simp) (by omega)
    simp only [List.getElem_cons_zero] at h0
    have ih := placeP_eq (p := p) (acc := r) (k := k) (by simpa using hk) (fun j h hj => by
      have := h1 (j + 1) (by rw [List.length_cons]; omega) (by omega)
      rwa [List.getElem_cons_succ] at this) (fun h => by
      have := h2 (by rw [List.length_cons]; omega)
      rwa [List.getElem_cons_succ] at this)
    unfold placeP at ih ⊢
    rw [List.takeWhile_cons, h0]
    simp only [if_true, List.length_cons]
    rw [ih]
theorem ordStep_len (acc : List Problem) (p : Problem) : (ordStep acc p).length = acc.length + 1 := by
  have := placeP_le acc p
  simp only [ordStep, List.length_append, List.length_take, List.length_cons, List.length_nil, List.length_drop]
  omega
theorem ord_len : ∀ (l acc : List Problem), (l.foldl ordStep acc).length = acc.length + l.length
  | [], acc => rfl
  | p :: r, acc => by rw [List.foldl_cons, ord_len r, ordStep_len, List.length_cons]; omega
theorem befB_le (q p : Problem) : befB q p = true ↔ lePos q p := by
  unfold lePos
  rw [Bool.not_eq_true', ltOf_posF]
  unfold befB posLt
  simp only [Bool.or_eq_true, Bool.and_eq_true, decide_eq_true_eq, beq_iff_eq]
  omega
theorem lePos_trans {a b c : Problem} (h1 : lePos a b) (h2 : lePos b c) : lePos a c := by
  rw [← befB_le] at *
  unfold befB at *
  simp only [Bool.or_eq_true, Bool.and_eq_true, decide_eq_true_eq, beq_iff_eq] at *
  omega
theorem lePos_total {a b : Problem} (h : ¬ lePos a b) : lePos b a := by
  rw [← befB_le] at *
  unfold befB at *
  simp only [Bool.or_eq_true, Bool.and_eq_true, decide_eq_true_eq, beq_iff_eq] at *
  omega
theorem take_while (p : Problem) (acc : List Problem) : acc.take (placeP acc p) = acc.takeWhile (befB · p) := by
  unfold placeP
  exact (List.prefix_iff_eq_take.1 (List.takeWhile_prefix _)).symm
theorem drop_while (p : Problem) (acc : List Problem) : acc.drop (placeP acc p) = acc.dropWhile (befB · p) := by
  have h := List.takeWhile_append_dropWhile (p := (befB · p)) (l := acc)
  have h2 := List.take_append_drop (placeP acc p) acc
  rw [take_while] at h2
  conv at h2 => rhs; rw [← h]
  exact List.append_cancel_left h2
theorem drop_ge (p : Problem) : ∀ {acc : List Problem}, acc.Pairwise lePos → ∀ q ∈ acc.dropWhile (befB · p), lePos p q
  | [], _, q, h => by simp at h
  | a :: r, hs, q, h => by
    rw [List.dropWhile_cons] at h
    split at h
    · exact drop_ge p (List.pairwise_cons.1 hs).2 q h
    · rename_i hn
      have hpa : lePos p a := lePos_total (fun h' => hn ((befB_le _ _).2 h'))
      rcases List.mem_cons.1 h with rfl | h
      · exact hpa
      · exact lePos_trans hpa ((List.pairwise_cons.1 hs).1 q h)
theorem take_le (p : Problem) : ∀ {acc : List Problem}, ∀ q ∈ acc.takeWhile (befB · p), lePos q p
  | [], q, h => by simp at h
  | a :: r, q, h => by
    rw [List.takeWhile_cons] at h
    split at h
    · rename_i hb
      rcases List.mem_cons.1 h with rfl | h
      · exact (befB_le _ _).1 hb
      · exact take_le p q h
    · simp at h
theorem ordStep_sorted {acc : List Problem} (h : acc.Pairwise lePos) (p : Problem) : (ordStep acc p).Pairwise lePos := by
  unfold ordStep
  rw [take_while, drop_while, List.append_assoc, List.pairwise_append]
  have ht := h.sublist (List.takeWhile_sublist (befB · p))
  have hd := h.sublist (List.dropWhile_sublist (befB · p))
  refine ⟨ht, ?_, fun a ha b hb => ?_⟩
  · rw [List.singleton_append, List.pairwise_cons]
    exact ⟨fun q hq => drop_ge p h q hq, hd⟩
  · have h1 := take_le p a ha
    rcases List.mem_append.1 hb with hb | hb
    · simp only [List.mem_singleton] at hb
      rw [hb]; exact h1
    · exact lePos_trans h1 (drop_ge p h b hb)
theorem ordStep_perm (acc : List Problem) (p : Problem) : (ordStep acc p).Perm (p :: acc) := by
  unfold ordStep
  have h := List.take_append_drop (placeP acc p) acc
  conv => rhs; rw [← h]
  rw [List.append_assoc]
  exact List.perm_middle
theorem ord_sorted : ∀ (l : List Problem) {acc : List Problem}, acc.Pairwise lePos → (l.foldl ordStep acc).Pairwise lePos
  | [], _, h => h
  | p :: r, _, h => ord_sorted r (ordStep_sorted h p)
theorem ord_perm : ∀ (l acc : List Problem), (l.foldl ordStep acc).Perm (l ++ acc)
  | [], _ => List.Perm.refl _
  | p :: r, acc => ((ord_perm r (ordStep acc p)).trans ((ordStep_perm acc p).append_left r)).trans List.perm_middle
theorem ordered_sorted (l : List Problem) : (ordered l).Pairwise lePos := ord_sorted l List.Pairwise.nil
theorem ordered_perm (l : List Problem) : (ordered l).Perm l := by
  have := ord_perm l []
  rwa [List.append_nil] at this
theorem rowsOk_probs (l : List Problem) : rowsOk 3 (l.map eProb) := by
  intro y hy
  obtain ⟨q, _, rfl⟩ := List.mem_map.1 hy
  simp [eProb, eI, D.one, Value.oneCell']
theorem foldl_at (l : List Problem) (i : Nat) (h : i < l.length) : (l.take (i + 1)).foldl ordStep [] = ordStep ((l.take i).foldl ordStep []) l[i] := by
  rw [List.take_succ_eq_append_getElem h, List.foldl_append]; rfl
theorem ordered_c (l : List Problem) (hl : l.length ≤ 100000) : FnP Try.prog 16 [eProbs l] (.d (eProbs (ordered l))) [] := by
  refine FnP.of_eC (own := []) (fun i => if i = 1 then [.frz 6] else []) mixed Try.func16 rfl Try.call16 Try.ntmps16 (Nat.le_of_ble_eq_true rfl) Try.results16 (fun hok => ?_)
  simp (maxSteps := 4000000) only [ZE, List.replicate, ↓reduceIte, pE, pL, pA, pS, pM, pD, Nat.zero_add, Int.natCast_one, qT, qG, qL, qH, qN, qB, qE, qO, qA, qM]
  refine eloop (fun i => if i = 2008 then [.ord ⟨[(1, none), (2, none), (3, none), (5, none), (6, none), (7, none), (8, none), (9, none), (11, none), (12, none), (13, none), (0, some [1, 2, 3, 5, 6, 7, 8, 9, 11, 12, 13]), (4, some [5, 6, 7, 8, 9, 11, 12, 13]), (10, some [11, 12, 13]), (14, some []), (15, some [])]⟩] else if i = 8 then [.frz 84] else []) mixed l.length (fun _ => True) (fun i => ([(0, .d (eProbs l)), (3, .d (eProbs ((l.take i).foldl ordStep []))), (4, .d (eI i))], [])) trivial ?_ ?_ (fun i hi _ => ?_)
  · simp only [ZE, List.replicate, ↓reduceIte, pE, pL, pA, pS, pM, pD, List.take_zero, List.foldl_nil, List.map_nil]
  · simp only [ZE, List.replicate, ↓reduceIte, pE, pL, pA, pS, pM, pD]
  rcases Nat.lt_or_ge i l.length with h | h
  · have hw := wrap_succ (show i < 9223372036854775807 by omega)
    have hacc := ord_len (l.take i) []
    obtain ⟨p, hp⟩ : ∃ p, l[i] = p := ⟨_, rfl⟩
    rw [foldl_at l i h, hp]
    obtain ⟨acc, ha⟩ : ∃ acc, (l.take i).foldl ordStep [] = acc := ⟨_, rfl⟩
    rw [ha] at hacc ⊢
    simp only [List.length_nil, Nat.zero_add, List.length_take] at hacc
    have hal : acc.length = i := by omega
    simp (maxSteps := 4000000) only [ZE, List.replicate, ↓reduceIte, pE, pL, pA, pS, pM, pD, dec_lt h, Nat.zero_add, Int.natCast_one, qT, qG, qL, qH, qN, qB, qE, qO, qA, qM]
    refine eloop (fun i => if i = 2008 then [.ord ⟨[(1, none), (2, none), (3, none), (5, none), (6, none), (7, none), (8, none), (9, none), (11, none), (12, none), (13, none), (0, some [1, 2, 3, 5, 6, 7, 8, 9, 11, 12, 13]), (4, some [5, 6, 7, 8, 9, 11, 12, 13]), (10, some [11, 12, 13]), (14, some []), (15, some [])]⟩] else if i = 8 then [.frz 84] else []) mixed acc.length (fun k => ∀ j (hj : j < acc.length), j < k → befB acc[j] p = true) (fun k => ([(0, .d (eProbs l)), (3, .d (eProbs acc)), (4, .d (eI i)), (5, .d (eI k))], [])) (fun j _ h => by omega) ?_ ?_ (fun k hk hI => ?_)
    · simp only [ZE, List.replicate, ↓reduceIte, pE, pL, pA, pS, pM, pD]
    · simp only [ZE, List.replicate, ↓reduceIte, pE, pL, pA, pS, pM, pD]
    rcases Nat.lt_or_ge k acc.length with h' | h'
    · have hw' := wrap_succ (show k < 9223372036854775807 by omega)
      obtain ⟨q, hq⟩ : ∃ q, acc[k] = q := ⟨_, rfl⟩
      by_cases A : q.module < p.module
      · have dA : decide (q.module < p.module) = true := by simpa using A
        have hb : befB q p = true := by unfold befB; simp [dA]
        simp (maxSteps := 4000000) only [ZE, List.replicate, ↓reduceIte, pE, pL, pA, pS, pM, pD, dec_lt h', getD_map h', lt_int h', dec_lt h, getD_map h, lt_int h, hw', Nat.zero_add, Int.natCast_one, qT, qG, qL, qH, qN, qB, qE, qO, qA, qM, hq, hp, dA, List.append_eq, List.cons_append, List.nil_append]
        refine ⟨by kernel_rfl, h', fun j hj hjk => ?_⟩
        rcases Nat.lt_succ_iff_lt_or_eq.1 hjk with hj' | rfl
        · exact hI j hj hj'
        · rw [hq]; exact hb
      have dA : decide (q.module < p.module) = false := by simpa using A
      by_cases B : q.module = p.module
      · have dB : (q.module == p.module) = true := by simpa using B
        by_cases C : q.item < p.item
        · have dC : decide (q.item < p.item) = true := by simpa using C
          have hb : befB q p = true := by unfold befB; simp [dA, dB, dC]
          simp (maxSteps := 4000000) only [ZE, List.replicate, ↓reduceIte, pE, pL, pA, pS, pM, pD, dec_lt h', getD_map h', lt_int h', dec_lt h, getD_map h, lt_int h, hw', Nat.zero_add, Int.natCast_one, qT, qG, qL, qH, qN, qB, qE, qO, qA, qM, hq, hp, dA, dB, dC, List.append_eq, List.cons_append, List.nil_append]
          refine ⟨by kernel_rfl, h', fun j hj hjk => ?_⟩
          rcases Nat.lt_succ_iff_lt_or_eq.1 hjk with hj' | rfl
          · exact hI j hj hj'
          · rw [hq]; exact hb
        have dC : decide (q.item < p.item) = false := by simpa using C
        by_cases D : q.item = p.item
        · have dD : (q.item == p.item) = true := by simpa using D
          by_cases E : q.code ≤ p.code
          · have dE : decide (q.code ≤ p.code) = true := by simpa using E
            have hb : befB q p = true := by unfold befB; simp [dA, dB, dC, dD, dE]
            simp (maxSteps := 4000000) only [ZE, List.replicate, ↓reduceIte, pE, pL, pA, pS, pM, pD, dec_lt h', getD_map h', lt_int h', dec_lt h, getD_map h, lt_int h, hw', Nat.zero_add, Int.natCast_one, qT, qG, qL, qH, qN, qB, qE, qO, qA, qM, hq, hp, dA, dB, dC, dD, dE, List.append_eq, List.cons_append, List.nil_append]
            refine ⟨by kernel_rfl, h', fun j hj hjk => ?_⟩
            rcases Nat.lt_succ_iff_lt_or_eq.1 hjk with hj' | rfl
            · exact hI j hj hj'
            · rw [hq]; exact hb
          have dE : decide (q.code ≤ p.code) = false := by simpa using E
          have hpl : placeP acc p = k := placeP_eq hk (fun j hj hjk => hI j hj hjk) (fun hh => by rw [hq]; unfold befB; simp [dA, dB, dC, dD, dE])
          rw [ordStep, hpl]
          simp (maxSteps := 4000000) only [ZE, List.replicate, ↓reduceIte, pE, pL, pA, pS, pM, pD, dA, dB, dC, dD, dE, dec_lt h', getD_map h', lt_int h', hq, dec_lt h, getD_map h, lt_int h, hw, Nat.zero_add, Int.natCast_one, qT, qG, qL, qH, qN, qB, qE, qO, qA, qM, hp, List.append_eq, List.cons_append, List.nil_append]
          refine ⟨by kernel_rfl, by kernel_rfl, ?_⟩
          have hv : ∀ e ∈ acc.map eProb, e.length = 3 := fun e he => by obtain ⟨q, _, rfl⟩ := List.mem_map.1 he; rfl
          have htd : (acc.drop k).take (acc.length - k) = acc.drop k := List.take_of_length_le (by rw [List.length_drop]; omega)
          simp only [Nat.sub_zero, ← List.map_take, ← List.map_drop, htd, List.length_append, List.length_map, List.length_cons, List.length_nil, List.length_take, List.length_drop, Nat.min_eq_left hk, if_true, List.map_append, List.map_cons, List.map_nil]
          repeat' apply And.intro
          all_goals first | assumption | exact rowsOk_probs _ | omega | simp only [List.map_append, List.map_cons, List.map_nil, eProb, eI, List.append_assoc]
        · have dD : (q.item == p.item) = false := by simpa using D
          have hpl : placeP acc p = k := placeP_eq hk (fun j hj hjk => hI j hj hjk) (fun hh => by rw [hq]; unfold befB; simp [dA, dB, dC, dD])
          rw [ordStep, hpl]
          simp (maxSteps := 4000000) only [ZE, List.replicate, ↓reduceIte, pE, pL, pA, pS, pM, pD, dA, dB, dC, dD, dec_lt h', getD_map h', lt_int h', hq, dec_lt h, getD_map h, lt_int h, hw, Nat.zero_add, Int.natCast_one, qT, qG, qL, qH, qN, qB, qE, qO, qA, qM, hp, List.append_eq, List.cons_append, List.nil_append]
          refine ⟨by kernel_rfl, by kernel_rfl, ?_⟩
          have hv : ∀ e ∈ acc.map eProb, e.length = 3 := fun e he => by obtain ⟨q, _, rfl⟩ := List.mem_map.1 he; rfl
          have htd : (acc.drop k).take (acc.length - k) = acc.drop k := List.take_of_length_le (by rw [List.length_drop]; omega)
          simp only [Nat.sub_zero, ← List.map_take, ← List.map_drop, htd, List.length_append, List.length_map, List.length_cons, List.length_nil, List.length_take, List.length_drop, Nat.min_eq_left hk, if_true, List.map_append, List.map_cons, List.map_nil]
          repeat' apply And.intro
          all_goals first | assumption | exact rowsOk_probs _ | omega | simp only [List.map_append, List.map_cons, List.map_nil, eProb, eI, List.append_assoc]
      · have dB : (q.module == p.module) = false := by simpa using B
        have hpl : placeP acc p = k := placeP_eq hk (fun j hj hjk => hI j hj hjk) (fun hh => by rw [hq]; unfold befB; simp [dA, dB])
        rw [ordStep, hpl]
        simp (maxSteps := 4000000) only [ZE, List.replicate, ↓reduceIte, pE, pL, pA, pS, pM, pD, dA, dB, dec_lt h', getD_map h', lt_int h', hq, dec_lt h, getD_map h, lt_int h, hw, Nat.zero_add, Int.natCast_one, qT, qG, qL, qH, qN, qB, qE, qO, qA, qM, hp, List.append_eq, List.cons_append, List.nil_append]
        refine ⟨by kernel_rfl, by kernel_rfl, ?_⟩
        have hv : ∀ e ∈ acc.map eProb, e.length = 3 := fun e he => by obtain ⟨q, _, rfl⟩ := List.mem_map.1 he; rfl
        have htd : (acc.drop k).take (acc.length - k) = acc.drop k := List.take_of_length_le (by rw [List.length_drop]; omega)
        simp only [Nat.sub_zero, ← List.map_take, ← List.map_drop, htd, List.length_append, List.length_map, List.length_cons, List.length_nil, List.length_take, List.length_drop, Nat.min_eq_left hk, if_true, List.map_append, List.map_cons, List.map_nil]
        repeat' apply And.intro
        all_goals first | assumption | exact rowsOk_probs _ | omega | simp only [List.map_append, List.map_cons, List.map_nil, eProb, eI, List.append_assoc]
    · have hkl : k = acc.length := by omega
      have hpl : placeP acc p = k := placeP_eq hk (fun j hj hjk => hI j hj hjk) (fun hh => absurd hh (by omega))
      rw [ordStep, hpl]
      simp (maxSteps := 4000000) only [ZE, List.replicate, ↓reduceIte, pE, pL, pA, pS, pM, pD, dec_ge h', dec_lt h, getD_map h, lt_int h, hw, Nat.zero_add, Int.natCast_one, qT, qG, qL, qH, qN, qB, qE, qO, qA, qM, hp, List.append_eq, List.cons_append, List.nil_append]
      refine ⟨by kernel_rfl, by kernel_rfl, ?_⟩
      have hv : ∀ e ∈ acc.map eProb, e.length = 3 := fun e he => by obtain ⟨q, _, rfl⟩ := List.mem_map.1 he; rfl
      have htd : (acc.drop k).take (acc.length - k) = acc.drop k := List.take_of_length_le (by rw [List.length_drop]; omega)
      simp only [Nat.sub_zero, ← List.map_take, ← List.map_drop, htd, List.length_append, List.length_map, List.length_cons, List.length_nil, List.length_take, List.length_drop, Nat.min_eq_left hk, if_true, List.map_append, List.map_cons, List.map_nil]
      repeat' apply And.intro
      all_goals first | assumption | exact rowsOk_probs _ | omega | simp only [List.map_append, List.map_cons, List.map_nil, eProb, eI, List.append_assoc]
  · have : i = l.length := by omega
    subst this
    simp (maxSteps := 4000000) only [ZE, List.replicate, ↓reduceIte, pE, pL, pA, pS, pM, pD, dec_ge h, Nat.zero_add, Int.natCast_one, qT, qG, qL, qH, qN, qB, qE, qO, qA, qM, List.take_length, ordered]
end Go.Proofs.Ytejpmjnefokdoaa

/-
  PLAIN LAW: modules in another order.
-/
namespace Go.Proofs.Ytejpmjnefokdoaa
open Go.Aw
theorem findM_two (a b : Module) (n : Str) : findM [a, b] n = if a.name = n then some 0 else if b.name = n then some 1 else none := by
  rw [findM_eq, List.findIdx?_cons, List.findIdx?_cons, List.findIdx?_nil]
  by_cases h : a.name = n
  · simp [h]
  · by_cases h' : b.name = n
    · rw [if_neg h, if_pos h']; simp [h, h']
    · rw [if_neg h, if_neg h']; simp [h, h']
theorem modOf_two (a b : Module) (n : Str) : modOf [a, b] n = if a.name = n then some a else if b.name = n then some b else none := by
  unfold modOf
  rw [findM_two]
  split
  · rfl
  split
  · rfl
  · rfl
theorem alike_swap {a b : Module} (h : a.name ≠ b.name) : Alike [a, b] [b, a] := by
  intro n
  rw [modOf_two, modOf_two]
  by_cases h1 : a.name = n
  · have h2 : ¬ b.name = n := fun h2 => h (h1.trans h2.symm)
    rw [if_pos h1, if_neg h2, if_pos h1]
    exact OR.refl' _
  · rw [if_neg h1]
    by_cases h2 : b.name = n
    · rw [if_pos h2, if_pos h2]; exact OR.refl' _
    · rw [if_neg h2, if_neg h2, if_neg h1]; exact OR.refl' _
def ex01 (i : Nat) : Nat := if i = 0 then 1 else if i = 1 then 0 else i
theorem ex01_inj {i j : Nat} (h : ex01 i = ex01 j) : i = j := by
  unfold ex01 at h
  split at h <;> split at h <;> (try split at h) <;> (try split at h) <;> omega
theorem contains_ex (s : List Nat) (i : Nat) : (s.map ex01).contains (ex01 i) = s.contains i := by
  rw [Bool.eq_iff_iff, List.contains_iff_mem, List.contains_iff_mem, List.mem_map]
  constructor
  · rintro ⟨j, hj, he⟩
    rw [← ex01_inj he]; exact hj
  · intro h; exact ⟨i, h, rfl⟩
theorem instOf_swap {a b : Module} (h : a.name ≠ b.name) (x : Item) : instOf [b, a] x = (instOf [a, b] x).map ex01 := by
  unfold instOf
  split
  · rw [findM_two, findM_two]
    by_cases h1 : a.name = x.of
    · have h2 : ¬ b.name = x.of := fun h2 => h (h1.trans h2.symm)
      rw [if_neg h2, if_pos h1, if_pos h1]; rfl
    · rw [if_neg h1, if_neg h1]
      by_cases h2 : b.name = x.of
      · rw [if_pos h2, if_pos h2]; rfl
      · rw [if_neg h2, if_neg h2]; rfl
  · rfl
theorem reachI_swap {a b : Module} (h : a.name ≠ b.name) {rec rec' : Nat → List Nat → Bool × List Nat} {to : Nat} (hr : ∀ i s, rec' (ex01 i) (s.map ex01) = ((rec i s).1, (rec i s).2.map ex01)) : ∀ (r : List Item) (s : List Nat), reachI [b, a] rec' (ex01 to) r (s.map ex01) = ((reachI [a, b] rec to r s).1, (reachI [a, b] rec to r s).2.map ex01)
  | [], s => rfl
  | x :: r, s => by
    have ih := reachI_swap h (rec := rec) (rec' := rec') (to := to) hr r
    unfold reachI
    rw [instOf_swap h]
    cases hi : instOf [a, b] x with
    | none => exact ih s
    | some i =>
      simp only [Option.map_some]
      rw [contains_ex]
      cases hc : s.contains i with
      | true => simp only [if_true]; exact ih s
      | false =>
        simp only [Bool.false_eq_true, if_false]
        have hs : s.map ex01 ++ [ex01 i] = (s ++ [i]).map ex01 := by simp
        by_cases ht : i = to
        · rw [if_pos ht, if_pos (by rw [ht]), hs]
        · rw [if_neg ht, if_neg (fun e => ht (ex01_inj e)), hs, hr]
          cases hq : rec i (s ++ [i]) with
          | mk bb s' =>
            cases bb
            · exact ih s'
            · rfl
theorem getD_swap (a b : Module) (i : Nat) : [b, a].getD (ex01 i) zMod = [a, b].getD i zMod := by
  match i with
  | 0 => rfl
  | 1 => rfl
  | i + 2 => rfl
theorem reach_swap {a b : Module} (h : a.name ≠ b.name) (to : Nat) : ∀ (n i : Nat) (s : List Nat), reach [b, a] (ex01 to) n (ex01 i) (s.map ex01) = ((reach [a, b] to n i s).1, (reach [a, b] to n i s).2.map ex01)
  | 0, _, _ => rfl
  | n + 1, i, s => by
    unfold reach
    have e := getD_swap a b i
    unfold zMod at e
    rw [e]
    exact reachI_swap h (fun i s => reach_swap h to n i s) _ s
theorem loops_swap {a b : Module} (h : a.name ≠ b.name) (i : Nat) : loops [b, a] (ex01 i) = loops [a, b] i := by
  unfold loops
  have := reach_swap h i 3 i []
  show (reach [b, a] (ex01 i) 3 (ex01 i) []).1 = (reach [a, b] i 3 i []).1
  rw [List.map_nil] at this
  rw [this]
theorem isHead_0 {a b : Module} (h : a.name ≠ b.name) (c : Int) : isHead [a, b] 0 a c ↔ isHead [b, a] 1 a c := by
  have e1 : badHead [a, b] 0 a = badHead [b, a] 1 a := by
    unfold badHead badHd
    rw [findM_two, findM_two, if_pos rfl, if_neg (fun e => h e.symm), if_pos rfl]; rfl
  have e2 : loops [b, a] 1 = loops [a, b] 0 := loops_swap h 0
  unfold isHead
  rw [e1, e2]
theorem isHead_1 {a b : Module} (h : a.name ≠ b.name) (c : Int) : isHead [a, b] 1 b c ↔ isHead [b, a] 0 b c := (isHead_0 (fun e => h e.symm) c).symm
def RR (l : List Module) (i : Nat) (m : Module) (c it : Int) : Prop := (isHead l i m c ∧ it = -1) ∨ ∃ (k : Nat) (hk : k < m.items.length), isCode l m k m.items[k] c ∧ it = k
theorem modHas_RR (l : List Module) (i : Nat) (m : Module) (q : Problem) : modHas l i m q ↔ q.module = i ∧ RR l i m q.code q.item := Iff.rfl
theorem RR_of {l l' : List Module} {i i' : Nat} {m : Module} (ha : Alike l l') (hh : ∀ c, isHead l i m c ↔ isHead l' i' m c) (c it : Int) : RR l i m c it ↔ RR l' i' m c it := by
  unfold RR
  rw [hh]
  constructor
  · rintro (h | ⟨k, hk, h1, h2⟩)
    · exact .inl h
    · exact .inr ⟨k, hk, (isCode_al ha _ _ _ _).1 h1, h2⟩
  · rintro (h | ⟨k, hk, h1, h2⟩)
    · exact .inl h
    · exact .inr ⟨k, hk, (isCode_al ha _ _ _ _).2 h1, h2⟩
theorem mem_two {a b : Module} {q : Problem} : q ∈ found [a, b] ↔ (q.module = 0 ∧ RR [a, b] 0 a q.code q.item) ∨ (q.module = 1 ∧ RR [a, b] 1 b q.code q.item) := by
  rw [mem_found]
  constructor
  · rintro ⟨i, hi, h⟩
    match i, hi with
    | 0, _ => exact .inl h
    | 1, _ => exact .inr h
  · rintro (h | h)
    · exact ⟨0, by simp, h⟩
    · exact ⟨1, by simp, h⟩
def mvP (to : List Int) (p : Problem) : Problem := { p with module := to.getD p.module.toNat 0 }
def permF (f : List Module) (to : List Int) : List Module := (List.range to.length).foldl (fun g i => g.set (to.getD i 0).toNat (f.getD i zMod)) f
theorem check_mod {l : List Module} {p : Problem} (h : p ∈ check l) : 0 ≤ p.module ∧ p.module < (l.length : Int) := by
  rw [mem_check, mem_found] at h
  obtain ⟨i, hi, h⟩ := h
  rw [h.1]; omega
theorem swap_check {a b : Module} (h : a.name ≠ b.name) : check [b, a] = ordered ((check [a, b]).map (mvP [1, 0])) := by
  have hm : ∀ {l : List Module} {p : Problem}, l.length = 2 → p ∈ check l → p.module = 0 ∨ p.module = 1 := fun hl hp => by
    have := check_mod hp; omega
  have hinj : ((check [a, b]).map (mvP [1, 0])).Nodup := by
    refine List.pairwise_map.2 ((nodup_check [a, b]).imp_of_mem ?_)
    intro p q hp hq hpq e
    apply hpq
    have h1 := hm rfl hp
    have h2 := hm rfl hq
    cases p; cases q
    unfold mvP at e
    simp only [Problem.mk.injEq] at e h1 h2 ⊢
    obtain ⟨e1, e2, e3⟩ := e
    refine ⟨e1, ?_, e3⟩
    rcases h1 with h1 | h1 <;> rcases h2 with h2 | h2 <;> rw [h1, h2] <;> rw [h1, h2] at e2 <;> simp at e2
  refine sorted_ext (nodup_check _) ((ordered_perm _).nodup_iff.2 hinj) (sortP_sorted _) (ordered_sorted _) (fun q => ?_)
  rw [(ordered_perm _).mem_iff, List.mem_map, mem_check, mem_two]
  have al := alike_swap h
  constructor
  · rintro (⟨h1, h2⟩ | ⟨h1, h2⟩)
    · refine ⟨⟨q.code, 1, q.item⟩, ?_, ?_⟩
      · rw [mem_check, mem_two]
        exact .inr ⟨rfl, (RR_of al (isHead_1 h) _ _).2 h2⟩
      · cases q; simp only at h1; subst h1; rfl
    · refine ⟨⟨q.code, 0, q.item⟩, ?_, ?_⟩
      · rw [mem_check, mem_two]
        exact .inl ⟨rfl, (RR_of al (isHead_0 h) _ _).2 h2⟩
      · cases q; simp only at h1; subst h1; rfl
  · rintro ⟨p, hp, rfl⟩
    rw [mem_check, mem_two] at hp
    rcases hp with ⟨h1, h2⟩ | ⟨h1, h2⟩
    · refine .inr ⟨?_, (RR_of al (isHead_0 h) _ _).1 h2⟩
      unfold mvP; rw [h1]; rfl
    · refine .inl ⟨?_, (RR_of al (isHead_1 h) _ _).1 h2⟩
      unfold mvP; rw [h1]; rfl
theorem ident_check {l : List Module} {to : List Int} (h : ∀ p ∈ check l, mvP to p = p) : check l = ordered ((check l).map (mvP to)) := by
  have : (check l).map (mvP to) = check l := by
    conv => rhs; rw [← List.map_id (check l)]
    exact List.map_congr_left h
  rw [this]
  exact sorted_unique (ordered_perm _).symm (sortP_sorted _) (ordered_sorted _)
theorem shuf_one (l : List Nat) : shuf 1 l = [0] := by
  have h : slot l 0 = 0 := by have := slot_le l 0; omega
  unfold shuf
  rw [List.range_succ, List.range_zero]
  simp [shufStep, h]
theorem shuf_two (l : List Nat) : shuf 2 l = [0, 1] ∨ shuf 2 l = [1, 0] := by
  have h : slot l 0 = 0 := by have := slot_le l 0; omega
  have h1 := slot_le l 1
  unfold shuf
  rw [List.range_succ, List.range_succ, List.range_zero]
  simp only [List.nil_append, List.singleton_append, List.foldl_cons, List.foldl_nil, shufStep, h, List.take_nil, List.drop_nil, List.append_nil]
  have : slot l 1 = 0 ∨ slot l 1 = 1 := by omega
  rcases this with h2 | h2
  · right; rw [h2]; rfl
  · left; rw [h2]; rfl
theorem diff_two {a b : Module} (h : diff [a, b] = true) : a.name ≠ b.name := by
  intro e
  unfold diff at h
  rw [List.all_eq_true] at h
  have := h 1 (by simp)
  unfold idxP at this
  have hg : [a, b].getD 1 (⟨emp, emp, [], []⟩ : Module) = b := rfl
  rw [hg, List.findIdx?_cons, e] at this
  simp at this
theorem order_law {f : List Module} (hd : diff f = true) (h2 : f.length ≤ 2) (l : List Nat) : samePs (check (permF f (shuf f.length l))) (ordered ((check f).map (mvP (shuf f.length l)))) = true := by
  unfold samePs
  rw [decide_eq_true_eq]
  match f, h2 with
  | [], _ =>
    have e : shuf ([] : List Module).length l = [] := rfl
    rw [e]
    exact ident_check (l := []) (fun p hp => by
      have h0 := check_mod hp
      have h1 : (([] : List Module).length : Int) = 0 := rfl
      omega)
  | [a], _ =>
    have e : shuf [a].length l = [0] := shuf_one l
    rw [e]
    refine ident_check (l := [a]) (fun p hp => ?_)
    have := check_mod hp
    have h0 : p.module = 0 := by simp at this; omega
    cases p; simp only at h0; subst h0; rfl
  | [a, b], _ =>
    have e : shuf [a, b].length l = shuf 2 l := rfl
    rw [e]
    rcases shuf_two l with h | h
    · rw [h]
      refine ident_check (l := [a, b]) (fun p hp => ?_)
      have := check_mod hp
      have h0 : p.module = 0 ∨ p.module = 1 := by simp at this; omega
      cases p; simp only at h0
      rcases h0 with h0 | h0 <;> subst h0 <;> rfl
    · rw [h]
      exact swap_check (diff_two hd)
theorem diff_bad {f : List Module} (hd : diff f = false) : valid f = false := by
  rw [← Bool.not_eq_true]
  intro hv
  unfold diff at hd
  rw [List.all_eq_false] at hd
  obtain ⟨i, hi, h⟩ := hd
  have hi' : i < f.length := List.mem_range.1 hi
  have hg : f.getD i ⟨emp, emp, [], []⟩ = f[i] := by simp [List.getD, hi']
  rw [hg] at h
  have h1 := ((valid_iff f).1 hv i hi').1
  unfold headBad badHead badHd at h1
  simp only [Bool.or_eq_false_iff] at h1
  have h2 := h1.1.1.2
  rw [findM_eq] at h2
  unfold idxP at h
  cases hf : f.findIdx? (fun m => decide (m.name = f[i].name)) with
  | none =>
    rw [List.findIdx?_eq_none_iff] at hf
    have := hf f[i] (List.getElem_mem hi')
    simp at this
  | some j =>
    rw [hf] at h h2
    rw [List.findIdx?_eq_some_iff_getElem] at hf
    obtain ⟨hj, h3, h4⟩ := hf
    simp only [beq_iff_eq, Option.map_some, Option.getD_some, decide_eq_false_iff_not] at h h2
    have hji : ¬ i < j := fun hij => by have := h4 i hij; simp at this
    apply h
    omega
end Go.Proofs.Ytejpmjnefokdoaa

/-
  CONTRACTS: CheckModuleOrder.
-/
namespace Go.Proofs.Ytejpmjnefokdoaa
open Go.Aw
open Nat renaming reduceEqDiff → pE, reduceLT → pL, reduceAdd → pA, reduceSub → pS, reduceMul → pM, reduceLeDiff → pD
open Int renaming reduceToNat → qT, reduceGT → qG, reduceLT → qL, reduceGE → qH, reduceBNe → qN, reduceBEq → qB, reduceLE → qE, reduceNe → qO, reduceAdd → qA, reduceNeg → qM
set_option maxRecDepth 100000
set_option maxHeartbeats 40000000
def str9 (j : Nat) : Str := [sA, sB, sC, sR, sT, sX, sTop, sCell, st [113]].getD j emp
theorem lit9 (j : Nat) (h : j < 9) : ([sA, sB, sC, sR, sT, sX, sTop, sCell, st [113]].map fun s => [eS s]).getD j [] = [eS (str9 j)] := by
  rw [getD_map (by simpa using h)]
  unfold str9
  rw [List.getD_eq_getElem?_getD, List.getElem?_eq_getElem (by simpa using h)]; rfl
theorem permF_len (f : List Module) (to : List Int) (k : Nat) : ((List.range k).foldl (fun g i => g.set (to.getD i 0).toNat (f.getD i zMod)) f).length = f.length := by
  induction k with
  | zero => rfl
  | succ k ih => rw [List.range_succ, List.foldl_append]; simp only [List.foldl_cons, List.foldl_nil, List.length_set]; exact ih
theorem permF_step (f : List Module) (to : List Int) (k : Nat) : (List.range (k + 1)).foldl (fun g i => g.set (to.getD i 0).toNat (f.getD i zMod)) f = ((List.range k).foldl (fun g i => g.set (to.getD i 0).toNat (f.getD i zMod)) f).set (to.getD k 0).toNat (f.getD k zMod) := by
  rw [List.range_succ, List.foldl_append]; rfl
theorem order_w (x : Raw) (k0 k1 k2 k3 : Nat) (ord : List Nat) (h2 : k2 < 256) (h3 : k3 < 256) (f F : List Module) (to : List Int)
    (hc : FnP Try.prog 9 [eRaw x] (.d (.agg [eModules f])) [])
    (hs : k3 % 4 > 0 → FnP Try.prog 10 [.agg [eModules f], .agg [eU8 k0, eU8 k1, eU8 k2, eU8 k3], eS (str9 (k2 % 9))] (.d (.agg [eModules F])) []) (hF : ¬ k3 % 4 > 0 → F = f)
    (hl : F.length ≤ 1000) (hv : diff F = false → FnP Try.prog 12 [.agg [eModules F]] (.d (eB false)) [])
    (sc : FnP Try.prog 13 [eI F.length, eBytes ord] (.d (eInts to)) []) (hto : to.length = F.length) (ht : ∀ i < F.length, 0 ≤ to.getD i 0 ∧ to.getD i 0 < F.length)
    (c1 : FnP Try.prog 14 [.agg [eModules F]] (.d (eProbs (check F))) []) (hcl : (check F).length ≤ 100000) (c2 : FnP Try.prog 14 [.agg [eModules (permF F to)]] (.d (eProbs (check (permF F to)))) [])
    (hsame : diff F = true → samePs (check (permF F to)) (ordered ((check F).map (mvP to))) = true) : FnP Try.prog 3 [eRaw x, .agg [eU8 k0, eU8 k1, eU8 k2, eU8 k3], eBytes ord] (.d (eB true)) [] := by
  refine FnP.of_eC (own := []) (fun i => if i = 2006 then [.ord ⟨[(0, none), (1, none), (2, none), (3, none), (4, none), (5, none), (6, none), (7, none), (8, none), (9, some [])]⟩] else []) mixed Try.func3 rfl Try.call3 Try.ntmps3 (Nat.le_of_ble_eq_true rfl) Try.results3 (fun hok => ?_)
  have ex := examples_c
  have dc := diff_c F
  have m4 : (k3 : Int).tmod 4 = ((k3 % 4 : Nat) : Int) := (Int.ofNat_tmod _ _).symm
  have m9 : (k2 : Int).tmod 9 = ((k2 % 9 : Nat) : Int) := (Int.ofNat_tmod _ _).symm
  have hj : k2 % 9 < 9 := Nat.mod_lt _ (by omega)
  have l9 := lit9 _ hj
  have b9 : (0 ≤ ((k2 % 9 : Nat) : Int) ∧ ((k2 % 9 : Nat) : Int) < 9) = True := by simp; omega
  simp only [List.map_cons, List.map_nil, eS, sA, sB, sC, sR, sT, sX, sTop, sCell, st] at l9
  simp only [ZE, List.replicate, ↓reduceIte, pE, pL, pA, pS, pM, pD, eRaw, eMods] at ex hc dc sc c1 c2
  simp (maxSteps := 4000000) only [ZE, List.replicate, ↓reduceIte, pE, pL, pA, pS, pM, pD, Nat.zero_add, Int.natCast_one, qT, qG, qL, qH, qN, qB, qE, qO, qA, qM, eRaw]
  refine EFn.p ?_
  simp only [ZE, List.replicate, ↓reduceIte, pE, pL, pA, pS, pM, pD, Nat.zero_add, Int.natCast_one, qT, qG, qL, qH, qN, qB, qE, qO, qA, qM]
  refine ECall.i ex ?_
  simp only [ZE, List.replicate, ↓reduceIte, pE, pL, pA, pS, pM, pD, Nat.zero_add, Int.natCast_one, qT, qG, qL, qH, qN, qB, qE, qO, qA, qM]
  refine EFn.p ?_
  simp only [ZE, List.replicate, ↓reduceIte, pE, pL, pA, pS, pM, pD, Nat.zero_add, Int.natCast_one, qT, qG, qL, qH, qN, qB, qE, qO, qA, qM]
  refine ECall.i hc ?_
  by_cases hk : k3 % 4 > 0
  · have hs' := hs hk
    simp only [ZE, List.replicate, ↓reduceIte, pE, pL, pA, pS, pM, pD] at hs'
    have d4 : decide (((k3 % 4 : Nat) : Int) > 0) = true := by simp; omega
    simp only [ZE, List.replicate, ↓reduceIte, pE, pL, pA, pS, pM, pD, Nat.zero_add, Int.natCast_one, qT, qG, qL, qH, qN, qB, qE, qO, qA, qM, m4, m9, d4, GT.gt, l9, b9, Int.toNat_natCast]
    refine ⟨by omega, by kernel_rfl, by omega, ECall'.i hs' ?_⟩
    simp only [ZE, List.replicate, ↓reduceIte, pE, pL, pA, pS, pM, pD, Nat.zero_add, Int.natCast_one, qT, qG, qL, qH, qN, qB, qE, qO, qA, qM]
    refine EFn.p ?_
    simp only [ZE, List.replicate, ↓reduceIte, pE, pL, pA, pS, pM, pD, Nat.zero_add, Int.natCast_one, qT, qG, qL, qH, qN, qB, qE, qO, qA, qM, eMods]
    refine ECall.i dc ?_
    by_cases hd : diff F = true
    · simp only [ZE, List.replicate, ↓reduceIte, pE, pL, pA, pS, pM, pD, Nat.zero_add, Int.natCast_one, qT, qG, qL, qH, qN, qB, qE, qO, qA, qM, hd, List.length_map]
      refine EFn.p ?_
      simp only [ZE, List.replicate, ↓reduceIte, pE, pL, pA, pS, pM, pD, Nat.zero_add, Int.natCast_one, qT, qG, qL, qH, qN, qB, qE, qO, qA, qM]
      refine ECall.i sc ?_
      simp only [ZE, List.replicate, ↓reduceIte, pE, pL, pA, pS, pM, pD, Nat.zero_add, Int.natCast_one, qT, qG, qL, qH, qN, qB, qE, qO, qA, qM, List.length_map]
      refine ⟨⟨rowsOk_mods F, by omega, by omega⟩, ?_⟩
      refine eloop (fun i => if i = 2014 then [.ord ⟨[(0, none), (1, none), (2, none), (3, none), (4, none), (5, none), (6, none), (7, none), (8, none), (9, none), (10, none), (11, none), (12, some [])]⟩] else []) mixed F.length (fun _ => True) (fun i => ([(7, .d (eB true)), (8, .bp 8 0), (9, .d (eInts to)), (10, .bp 10 0), (11, .d (eI i))], [(8, .box [.d (eModules F)]), (10, .box [.ar 48 F.length]), (48, .arr 38 4 .flat (((List.range i).foldl (fun g i => g.set (to.getD i 0).toNat (F.getD i zMod)) F).map eModule))])) trivial ?_ ?_ (fun i hi _ => ?_)
      · simp only [ZE, List.replicate, ↓reduceIte, pE, pL, pA, pS, pM, pD]
      · simp only [ZE, List.replicate, ↓reduceIte, pE, pL, pA, pS, pM, pD, List.range_zero, List.foldl_nil]
      rcases Nat.lt_or_ge i F.length with h | h
      · have hw := wrap_succ (show i < 9223372036854775807 by omega)
        have hGl := permF_len F to i
        rw [permF_step]
        obtain ⟨G, hG⟩ : ∃ G, (List.range i).foldl (fun g i => g.set (to.getD i 0).toNat (F.getD i zMod)) F = G := ⟨_, rfl⟩
        rw [hG] at hGl ⊢
        have hFi : F.getD i zMod = F[i] := by simp [List.getD, h]
        have hti : i < to.length := by omega
        have hz := ht i h
        have hto2 : to.getD i 0 = to[i] := by simp [List.getD, hti]
        rw [hFi, hto2, List.map_set]
        rw [hto2] at hz
        obtain ⟨z, hzz⟩ : ∃ z, to[i] = z := ⟨_, rfl⟩
        rw [hzz] at hz ⊢
        have hzl : z.toNat < G.length := by omega
        have dr : ((G.map eModule).getD z.toNat []).drop 4 = [] := by simp [List.getD_eq_getElem?_getD, hzl, eModule]
        simp (maxSteps := 4000000) only [ZE, List.replicate, ↓reduceIte, pE, pL, pA, pS, pM, pD, dec_lt h, dec_lt hti, getD_map h, getD_map hti, lt_int h, lt_int hti, hw, Nat.zero_add, Int.natCast_one, qT, qG, qL, qH, qN, qB, qE, qO, qA, qM, hzz, List.length_map, hGl, dr]
        exact ⟨by kernel_rfl, hz, by omega, h⟩
      · have : i = F.length := by omega
        subst this
        have hpl := permF_len F to to.length
        have hpe : (List.range F.length).foldl (fun g i => g.set (to.getD i 0).toNat (F.getD i zMod)) F = permF F to := by rw [← hto]; rfl
        have hpl2 : (permF F to).length = F.length := hpl
        have os := ordered_c ((check F).map (mvP to)) (by simpa using hcl)
        have sm := same_c (check (permF F to)) (ordered ((check F).map (mvP to)))
        rw [hsame hd] at sm
        obtain ⟨PF, hPF⟩ : ∃ PF, permF F to = PF := ⟨_, rfl⟩
        rw [hPF] at c2 hpl2 hpe sm
        rw [hpe]
        obtain ⟨CP, hCP⟩ : ∃ CP, check PF = CP := ⟨_, rfl⟩
        rw [hCP] at c2 sm
        obtain ⟨OC, hOC⟩ : ∃ OC, ordered ((check F).map (mvP to)) = OC := ⟨_, rfl⟩
        rw [hOC] at os sm
        obtain ⟨CF, hCF⟩ : ∃ CF, check F = CF := ⟨_, rfl⟩
        have hmo : ∀ p ∈ CF, 0 ≤ p.module ∧ p.module < (F.length : Int) := fun p hp => by rw [← hCF] at hp; exact check_mod hp
        rw [hCF] at c1 os hcl
        simp only [ZE, List.replicate, ↓reduceIte, pE, pL, pA, pS, pM, pD, List.map_map, Function.comp_def] at os sm c2
        have dge : decide ((F.length : Int) < (to.length : Int)) = false := by simp; omega
        simp (maxSteps := 4000000) only [ZE, List.replicate, ↓reduceIte, pE, pL, pA, pS, pM, pD, dge, Nat.zero_add, Int.natCast_one, qT, qG, qL, qH, qN, qB, qE, qO, qA, qM]
        refine EFn.p ?_
        simp only [ZE, List.replicate, ↓reduceIte, pE, pL, pA, pS, pM, pD, Nat.zero_add, Int.natCast_one, qT, qG, qL, qH, qN, qB, qE, qO, qA, qM]
        refine ECall.i c1 ?_
        simp only [ZE, List.replicate, ↓reduceIte, pE, pL, pA, pS, pM, pD, Nat.zero_add, Int.natCast_one, qT, qG, qL, qH, qN, qB, qE, qO, qA, qM]
        refine eloop (fun i => []) mixed CF.length (fun _ => True) (fun i => ([(7, .d (eB true)), (9, .d (eInts to)), (10, .bp 10 0), (12, .d (eProbs CF)), (13, .ar 73 i), (14, .d (eI i))], [(10, .box [.ar 48 F.length]), (48, .arr 38 4 .flat (PF.map eModule)), (73, .arr 42 3 .flat ((CF.take i).map fun p => eProb (mvP to p)))])) trivial ?_ ?_ (fun i hi _ => ?_)
        · simp only [ZE, List.replicate, ↓reduceIte, pE, pL, pA, pS, pM, pD]
        · simp only [ZE, List.replicate, ↓reduceIte, pE, pL, pA, pS, pM, pD, List.take_zero]
        rcases Nat.lt_or_ge i CF.length with h | h
        · have hw := wrap_succ (show i < 9223372036854775807 by omega)
          obtain ⟨m0, m1⟩ := hmo CF[i] (List.getElem_mem h)
          have d0 : decide (CF[i].module < 0) = false := by simp; omega
          have d1 : decide (CF[i].module ≥ (to.length : Int)) = false := by simp; omega
          have ht' : (CF.take (i + 1)).map (fun p => eProb (mvP to p)) = (CF.take i).map (fun p => eProb (mvP to p)) ++ [eProb (mvP to CF[i])] := by rw [List.take_succ_eq_append_getElem h, List.map_append]; rfl
          rw [ht']
          have hL : ((CF.take i).map fun p => eProb (mvP to p)).length = i := by rw [List.length_map, List.length_take]; omega
          obtain ⟨R, hR⟩ : ∃ R, (CF.take i).map (fun p => eProb (mvP to p)) = R := ⟨_, rfl⟩
          rw [hR] at hL ⊢
          have hk2 : CF[i].module.toNat < to.length := by omega
          have ht3 : to.getD CF[i].module.toNat 0 = to[CF[i].module.toNat] := by simp [List.getD, hk2]
          have in3 : (0 ≤ CF[i].module ∧ CF[i].module < (to.length : Int)) = True := by simp; omega
          simp (maxSteps := 4000000) only [ZE, List.replicate, ↓reduceIte, pE, pL, pA, pS, pM, pD, dec_lt h, getD_map h, lt_int h, hw, Nat.zero_add, Int.natCast_one, qT, qG, qL, qH, qN, qB, qE, qO, qA, qM, d0, d1, hL, getD_map hk2, in3, mvP, ht3]
          exact ⟨⟨by omega, by omega⟩, h⟩
        · have : i = CF.length := by omega
          subst this
          simp (maxSteps := 4000000) only [ZE, List.replicate, ↓reduceIte, pE, pL, pA, pS, pM, pD, dec_ge h, Nat.zero_add, Int.natCast_one, qT, qG, qL, qH, qN, qB, qE, qO, qA, qM, List.take_length]
          refine EFn.p ?_
          simp only [ZE, List.replicate, ↓reduceIte, pE, pL, pA, pS, pM, pD, Nat.zero_add, Int.natCast_one, qT, qG, qL, qH, qN, qB, qE, qO, qA, qM, List.length_map, hpl2]
          refine ECall.i c2 ?_
          simp only [ZE, List.replicate, ↓reduceIte, pE, pL, pA, pS, pM, pD, Nat.zero_add, Int.natCast_one, qT, qG, qL, qH, qN, qB, qE, qO, qA, qM]
          refine EFn.p ?_
          simp only [ZE, List.replicate, ↓reduceIte, pE, pL, pA, pS, pM, pD, Nat.zero_add, Int.natCast_one, qT, qG, qL, qH, qN, qB, qE, qO, qA, qM, List.length_map]
          refine ECall.i os ?_
          simp only [ZE, List.replicate, ↓reduceIte, pE, pL, pA, pS, pM, pD, Nat.zero_add, Int.natCast_one, qT, qG, qL, qH, qN, qB, qE, qO, qA, qM]
          refine EFn.p ?_
          simp only [ZE, List.replicate, ↓reduceIte, pE, pL, pA, pS, pM, pD, Nat.zero_add, Int.natCast_one, qT, qG, qL, qH, qN, qB, qE, qO, qA, qM]
          refine ECall.i sm ?_
          simp only [ZE, List.replicate, ↓reduceIte, pE, pL, pA, pS, pM, pD, Nat.zero_add, Int.natCast_one, qT, qG, qL, qH, qN, qB, qE, qO, qA, qM]
    · have hv' := hv (by simpa using hd)
      have hd' : diff F = false := by simpa using hd
      simp only [ZE, List.replicate, ↓reduceIte, pE, pL, pA, pS, pM, pD] at hv'
      simp only [ZE, List.replicate, ↓reduceIte, pE, pL, pA, pS, pM, pD, Nat.zero_add, Int.natCast_one, qT, qG, qL, qH, qN, qB, qE, qO, qA, qM, hd']
      refine EFn.p ?_
      simp only [ZE, List.replicate, ↓reduceIte, pE, pL, pA, pS, pM, pD, Nat.zero_add, Int.natCast_one, qT, qG, qL, qH, qN, qB, qE, qO, qA, qM]
      refine ECall.i hv' ?_
      simp only [ZE, List.replicate, ↓reduceIte, pE, pL, pA, pS, pM, pD, Nat.zero_add, Int.natCast_one, qT, qG, qL, qH, qN, qB, qE, qO, qA, qM]
  · have := hF hk
    subst this
    have d4 : decide (((k3 % 4 : Nat) : Int) > 0) = false := by simp; omega
    simp only [ZE, List.replicate, ↓reduceIte, pE, pL, pA, pS, pM, pD, Nat.zero_add, Int.natCast_one, qT, qG, qL, qH, qN, qB, qE, qO, qA, qM, m4, d4, GT.gt]
    refine ⟨by omega,EFn.p ?_⟩
    simp only [ZE, List.replicate, ↓reduceIte, pE, pL, pA, pS, pM, pD, Nat.zero_add, Int.natCast_one, qT, qG, qL, qH, qN, qB, qE, qO, qA, qM, eMods]
    refine ECall.i dc ?_
    by_cases hd : diff F = true
    · simp only [ZE, List.replicate, ↓reduceIte, pE, pL, pA, pS, pM, pD, Nat.zero_add, Int.natCast_one, qT, qG, qL, qH, qN, qB, qE, qO, qA, qM, hd, List.length_map]
      refine EFn.p ?_
      simp only [ZE, List.replicate, ↓reduceIte, pE, pL, pA, pS, pM, pD, Nat.zero_add, Int.natCast_one, qT, qG, qL, qH, qN, qB, qE, qO, qA, qM]
      refine ECall.i sc ?_
      simp only [ZE, List.replicate, ↓reduceIte, pE, pL, pA, pS, pM, pD, Nat.zero_add, Int.natCast_one, qT, qG, qL, qH, qN, qB, qE, qO, qA, qM, List.length_map]
      refine ⟨⟨rowsOk_mods F, by omega, by omega⟩, ?_⟩
      refine eloop (fun i => if i = 2014 then [.ord ⟨[(0, none), (1, none), (2, none), (3, none), (4, none), (5, none), (6, none), (7, none), (8, none), (9, none), (10, none), (11, none), (12, some [])]⟩] else []) mixed F.length (fun _ => True) (fun i => ([(7, .d (eB true)), (8, .bp 8 0), (9, .d (eInts to)), (10, .bp 10 0), (11, .d (eI i))], [(8, .box [.d (eModules F)]), (10, .box [.ar 48 F.length]), (48, .arr 38 4 .flat (((List.range i).foldl (fun g i => g.set (to.getD i 0).toNat (F.getD i zMod)) F).map eModule))])) trivial ?_ ?_ (fun i hi _ => ?_)
      · simp only [ZE, List.replicate, ↓reduceIte, pE, pL, pA, pS, pM, pD]
      · simp only [ZE, List.replicate, ↓reduceIte, pE, pL, pA, pS, pM, pD, List.range_zero, List.foldl_nil]
      rcases Nat.lt_or_ge i F.length with h | h
      · have hw := wrap_succ (show i < 9223372036854775807 by omega)
        have hGl := permF_len F to i
        rw [permF_step]
        obtain ⟨G, hG⟩ : ∃ G, (List.range i).foldl (fun g i => g.set (to.getD i 0).toNat (F.getD i zMod)) F = G := ⟨_, rfl⟩
        rw [hG] at hGl ⊢
        have hFi : F.getD i zMod = F[i] := by simp [List.getD, h]
        have hti : i < to.length := by omega
        have hz := ht i h
        have hto2 : to.getD i 0 = to[i] := by simp [List.getD, hti]
        rw [hFi, hto2, List.map_set]
        rw [hto2] at hz
        obtain ⟨z, hzz⟩ : ∃ z, to[i] = z := ⟨_, rfl⟩
        rw [hzz] at hz ⊢
        have hzl : z.toNat < G.length := by omega
        have dr : ((G.map eModule).getD z.toNat []).drop 4 = [] := by simp [List.getD_eq_getElem?_getD, hzl, eModule]
        simp (maxSteps := 4000000) only [ZE, List.replicate, ↓reduceIte, pE, pL, pA, pS, pM, pD, dec_lt h, dec_lt hti, getD_map h, getD_map hti, lt_int h, lt_int hti, hw, Nat.zero_add, Int.natCast_one, qT, qG, qL, qH, qN, qB, qE, qO, qA, qM, hzz, List.length_map, hGl, dr]
        exact ⟨by kernel_rfl, hz, by omega, h⟩
      · have : i = F.length := by omega
        subst this
        have hpl := permF_len F to to.length
        have hpe : (List.range F.length).foldl (fun g i => g.set (to.getD i 0).toNat (F.getD i zMod)) F = permF F to := by rw [← hto]; rfl
        have hpl2 : (permF F to).length = F.length := hpl
        have os := ordered_c ((check F).map (mvP to)) (by simpa using hcl)
        have sm := same_c (check (permF F to)) (ordered ((check F).map (mvP to)))
        rw [hsame hd] at sm
        obtain ⟨PF, hPF⟩ : ∃ PF, permF F to = PF := ⟨_, rfl⟩
        rw [hPF] at c2 hpl2 hpe sm
        rw [hpe]
        obtain ⟨CP, hCP⟩ : ∃ CP, check PF = CP := ⟨_, rfl⟩
        rw [hCP] at c2 sm
        obtain ⟨OC, hOC⟩ : ∃ OC, ordered ((check F).map (mvP to)) = OC := ⟨_, rfl⟩
        rw [hOC] at os sm
        obtain ⟨CF, hCF⟩ : ∃ CF, check F = CF := ⟨_, rfl⟩
        have hmo : ∀ p ∈ CF, 0 ≤ p.module ∧ p.module < (F.length : Int) := fun p hp => by rw [← hCF] at hp; exact check_mod hp
        rw [hCF] at c1 os hcl
        simp only [ZE, List.replicate, ↓reduceIte, pE, pL, pA, pS, pM, pD, List.map_map, Function.comp_def] at os sm c2
        have dge : decide ((F.length : Int) < (to.length : Int)) = false := by simp; omega
        simp (maxSteps := 4000000) only [ZE, List.replicate, ↓reduceIte, pE, pL, pA, pS, pM, pD, dge, Nat.zero_add, Int.natCast_one, qT, qG, qL, qH, qN, qB, qE, qO, qA, qM]
        refine EFn.p ?_
        simp only [ZE, List.replicate, ↓reduceIte, pE, pL, pA, pS, pM, pD, Nat.zero_add, Int.natCast_one, qT, qG, qL, qH, qN, qB, qE, qO, qA, qM]
        refine ECall.i c1 ?_
        simp only [ZE, List.replicate, ↓reduceIte, pE, pL, pA, pS, pM, pD, Nat.zero_add, Int.natCast_one, qT, qG, qL, qH, qN, qB, qE, qO, qA, qM]
        refine eloop (fun i => []) mixed CF.length (fun _ => True) (fun i => ([(7, .d (eB true)), (9, .d (eInts to)), (10, .bp 10 0), (12, .d (eProbs CF)), (13, .ar 73 i), (14, .d (eI i))], [(10, .box [.ar 48 F.length]), (48, .arr 38 4 .flat (PF.map eModule)), (73, .arr 42 3 .flat ((CF.take i).map fun p => eProb (mvP to p)))])) trivial ?_ ?_ (fun i hi _ => ?_)
        · simp only [ZE, List.replicate, ↓reduceIte, pE, pL, pA, pS, pM, pD]
        · simp only [ZE, List.replicate, ↓reduceIte, pE, pL, pA, pS, pM, pD, List.take_zero]
        rcases Nat.lt_or_ge i CF.length with h | h
        · have hw := wrap_succ (show i < 9223372036854775807 by omega)
          obtain ⟨m0, m1⟩ := hmo CF[i] (List.getElem_mem h)
          have d0 : decide (CF[i].module < 0) = false := by simp; omega
          have d1 : decide (CF[i].module ≥ (to.length : Int)) = false := by simp; omega
          have ht' : (CF.take (i + 1)).map (fun p => eProb (mvP to p)) = (CF.take i).map (fun p => eProb (mvP to p)) ++ [eProb (mvP to CF[i])] := by rw [List.take_succ_eq_append_getElem h, List.map_append]; rfl
          rw [ht']
          have hL : ((CF.take i).map fun p => eProb (mvP to p)).length = i := by rw [List.length_map, List.length_take]; omega
          obtain ⟨R, hR⟩ : ∃ R, (CF.take i).map (fun p => eProb (mvP to p)) = R := ⟨_, rfl⟩
          rw [hR] at hL ⊢
          have hk2 : CF[i].module.toNat < to.length := by omega
          have ht3 : to.getD CF[i].module.toNat 0 = to[CF[i].module.toNat] := by simp [List.getD, hk2]
          have in3 : (0 ≤ CF[i].module ∧ CF[i].module < (to.length : Int)) = True := by simp; omega
          simp (maxSteps := 4000000) only [ZE, List.replicate, ↓reduceIte, pE, pL, pA, pS, pM, pD, dec_lt h, getD_map h, lt_int h, hw, Nat.zero_add, Int.natCast_one, qT, qG, qL, qH, qN, qB, qE, qO, qA, qM, d0, d1, hL, getD_map hk2, in3, mvP, ht3]
          exact ⟨⟨by omega, by omega⟩, h⟩
        · have : i = CF.length := by omega
          subst this
          simp (maxSteps := 4000000) only [ZE, List.replicate, ↓reduceIte, pE, pL, pA, pS, pM, pD, dec_ge h, Nat.zero_add, Int.natCast_one, qT, qG, qL, qH, qN, qB, qE, qO, qA, qM, List.take_length]
          refine EFn.p ?_
          simp only [ZE, List.replicate, ↓reduceIte, pE, pL, pA, pS, pM, pD, Nat.zero_add, Int.natCast_one, qT, qG, qL, qH, qN, qB, qE, qO, qA, qM, List.length_map, hpl2]
          refine ECall.i c2 ?_
          simp only [ZE, List.replicate, ↓reduceIte, pE, pL, pA, pS, pM, pD, Nat.zero_add, Int.natCast_one, qT, qG, qL, qH, qN, qB, qE, qO, qA, qM]
          refine EFn.p ?_
          simp only [ZE, List.replicate, ↓reduceIte, pE, pL, pA, pS, pM, pD, Nat.zero_add, Int.natCast_one, qT, qG, qL, qH, qN, qB, qE, qO, qA, qM, List.length_map]
          refine ECall.i os ?_
          simp only [ZE, List.replicate, ↓reduceIte, pE, pL, pA, pS, pM, pD, Nat.zero_add, Int.natCast_one, qT, qG, qL, qH, qN, qB, qE, qO, qA, qM]
          refine EFn.p ?_
          simp only [ZE, List.replicate, ↓reduceIte, pE, pL, pA, pS, pM, pD, Nat.zero_add, Int.natCast_one, qT, qG, qL, qH, qN, qB, qE, qO, qA, qM]
          refine ECall.i sm ?_
          simp only [ZE, List.replicate, ↓reduceIte, pE, pL, pA, pS, pM, pD, Nat.zero_add, Int.natCast_one, qT, qG, qL, qH, qN, qB, qE, qO, qA, qM]
    · have hv' := hv (by simpa using hd)
      have hd' : diff F = false := by simpa using hd
      simp only [ZE, List.replicate, ↓reduceIte, pE, pL, pA, pS, pM, pD] at hv'
      simp only [ZE, List.replicate, ↓reduceIte, pE, pL, pA, pS, pM, pD, Nat.zero_add, Int.natCast_one, qT, qG, qL, qH, qN, qB, qE, qO, qA, qM, hd']
      refine EFn.p ?_
      simp only [ZE, List.replicate, ↓reduceIte, pE, pL, pA, pS, pM, pD, Nat.zero_add, Int.natCast_one, qT, qG, qL, qH, qN, qB, qE, qO, qA, qM]
      refine ECall.i hv' ?_
      simp only [ZE, List.replicate, ↓reduceIte, pE, pL, pA, pS, pM, pD, Nat.zero_add, Int.natCast_one, qT, qG, qL, qH, qN, qB, qE, qO, qA, qM]
end Go.Proofs.Ytejpmjnefokdoaa

/-
  PLAIN LAW: sizes of generated and changed files.
-/
namespace Go.Proofs.Ytejpmjnefokdoaa
open Go.Aw
theorem numbers_le (x : Item) (ha : sz x.a + sz x.b + sz x.c ≤ 1000) (hr : x.args.length ≤ 1000) : (numbers x).length ≤ 2000000 := by
  unfold numbers
  rw [List.length_append]
  have h1 : (numHead x).length ≤ 1000 := by
    unfold numHead
    split
    · simp
    split
    · simp
    split
    · simp
    split
    · exact hr
    · simp
  have h2 : (Expr.allL (uses x)).length ≤ 1000 := by
    have := (allL_pre [x.a, x.b, x.c] (usesN x.kind.1)).length_le
    rw [allL_len [x.a, x.b, x.c]] at this
    simp only [List.map_cons, List.map_nil, List.sum_cons, List.sum_nil] at this
    unfold uses
    omega
  have h3 : ∀ r : List Expr, (r.flatMap numsE).length ≤ 2 * r.length := by
    intro r
    induction r with
    | nil => simp
    | cons q r ih =>
      rw [List.flatMap_cons, List.length_append, List.length_cons]
      have : (numsE q).length ≤ 2 := by
        unfold numsE
        split
        · simp
        split
        · simp
        split
        · simp
        · simp
      omega
  have := h3 (Expr.allL (uses x))
  omega
structure Fine (n : Nat) (m : Module) : Prop where
  items : m.items.length ≤ n
  params : m.params.length ≤ n
  sizes : ∀ x ∈ m.items, sz x.a + sz x.b + sz x.c ≤ n
  args : ∀ x ∈ m.items, x.args.length ≤ n
  ports : ∀ x ∈ m.items, x.ports.length ≤ n
theorem small_fine {n : Nat} (hn : n ≤ 900) {l : List Module} (hl : l.length ≤ 1000) (h : ∀ m ∈ l, Fine n m) : Small l :=
  { len := hl, items := fun m hm => Nat.le_trans (h m hm).items hn, nums := fun m hm x hx => numbers_le x (by have := (h m hm).sizes x hx; omega) (by have := (h m hm).args x hx; omega) }
theorem Fine.mono {n k : Nat} (h : n ≤ k) {m : Module} (f : Fine n m) : Fine k m :=
  ⟨Nat.le_trans f.items h, Nat.le_trans f.params h, fun x hx => Nat.le_trans (f.sizes x hx) h, fun x hx => Nat.le_trans (f.args x hx) h, fun x hx => Nat.le_trans (f.ports x hx) h⟩
theorem params_made (x : Raw) : ∀ m ∈ made x, m.params.length ≤ 60 := by
  have : ((made x).all fun m => decide (m.params.length ≤ 60)) = true := by
    rcases made_shape x with ⟨mem, h⟩ | ⟨q, h⟩ | ⟨q, mem, h⟩ | ⟨q, mem, h⟩
    · rw [h]; cases mem <;> kernel_rfl
    · rw [h]; cases q <;> kernel_rfl
    · rw [h]; cases q <;> cases mem <;> kernel_rfl
    · rw [h]; cases q <;> cases mem <;> kernel_rfl
  intro m hm
  rw [List.all_eq_true] at this
  simpa using this m hm
theorem fine_made (x : Raw) : ∀ m ∈ made x, Fine 60 m := fun m hm => by
  obtain ⟨_, _, h⟩ := tidy_made x
  obtain ⟨⟨_, h1⟩, h2⟩ := h m hm
  refine ⟨by omega, params_made x m hm, fun y hy => ?_, fun y hy => ?_, fun y hy => ?_⟩
  · have := (h2 y hy).a; have := (h2 y hy).b; have := (h2 y hy).c; omega
  · have := (h2 y hy).args; omega
  · have := (h2 y hy).ports; omega
theorem spoilI_fine (k1 k3 : Nat) (s : Str) (x : Item) : sz (spoilI k1 k3 s x).a + sz (spoilI k1 k3 s x).b + sz (spoilI k1 k3 s x).c ≤ sz x.a + sz x.b + sz x.c + 1 ∧ (spoilI k1 k3 s x).args.length = x.args.length ∧ (spoilI k1 k3 s x).ports.length ≤ x.ports.length + 1 := by
  unfold spoilI
  split
  · exact ⟨Nat.le_succ _, rfl, Nat.le_succ _⟩
  split
  · exact ⟨Nat.le_succ _, rfl, Nat.le_succ _⟩
  split
  · exact ⟨Nat.le_succ _, rfl, Nat.le_succ _⟩
  split
  · refine ⟨?_, rfl, by simp⟩
    simp only [sz_mk, List.map_nil, List.sum_nil]
    omega
  split
  · refine ⟨?_, rfl, by simp⟩
    simp only [sz_mk, List.map_cons, List.map_nil, List.sum_cons, List.sum_nil]
    omega
  split
  · exact ⟨Nat.le_succ _, rfl, by simp⟩
  split
  · exact ⟨Nat.le_succ _, rfl, by simp⟩
  split
  · exact ⟨Nat.le_succ _, rfl, by simp⟩
  · exact ⟨Nat.le_succ _, rfl, Nat.le_succ _⟩
theorem spoil_fine {n : Nat} (hn : 2 ≤ n) (k1 k2 k3 : Nat) (s : Str) {m : Module} (h : Fine n m) : Fine (n + 1) (spoilM k1 k2 k3 s m) := by
  have h' := h.mono (Nat.le_succ n)
  unfold spoilM
  split
  · split
    · exact ⟨h'.items, h'.params, h'.sizes, h'.args, h'.ports⟩
    split
    · exact ⟨h'.items, h'.params, h'.sizes, h'.args, h'.ports⟩
    split
    · exact ⟨h'.items, by have := h.params; simp; omega, h'.sizes, h'.args, h'.ports⟩
    · refine ⟨by have := h.items; simp; omega, h'.params, fun x hx => ?_, fun x hx => ?_, fun x hx => ?_⟩
      all_goals rcases List.mem_append.1 hx with hx | hx
      · exact h'.sizes x hx
      · simp only [List.mem_singleton] at hx
        subst hx
        show sz zExpr + sz zExpr + sz zExpr ≤ n + 1
        unfold zExpr; simp only [sz_mk, List.map_nil, List.sum_nil]; omega
      · exact h'.args x hx
      · simp only [List.mem_singleton] at hx
        subst hx
        exact Nat.zero_le _
      · exact h'.ports x hx
      · simp only [List.mem_singleton] at hx
        subst hx
        exact Nat.zero_le _
  · rename_i hc
    have hlen : k2 % m.items.length < m.items.length := Nat.mod_lt _ (by
      have := (not_or.1 hc).1; omega)
    have hg : m.items.getD (k2 % m.items.length) zItem = m.items[k2 % m.items.length] := by simp [List.getD, hlen]
    have hmem : m.items.getD (k2 % m.items.length) zItem ∈ m.items := by rw [hg]; exact List.getElem_mem hlen
    obtain ⟨x0, hx0⟩ : ∃ x0, m.items.getD (k2 % m.items.length) zItem = x0 := ⟨_, rfl⟩
    rw [hx0] at hmem ⊢
    have hall : ∀ x ∈ spoilL k1 k3 s m.items (k2 % m.items.length) x0, x ∈ m.items ∨ x = spoilI k1 k3 s x0 := by
      intro x hx
      unfold spoilL at hx
      rcases List.mem_or_eq_of_mem_set hx with h1 | h1
      · split at h1
        · rcases List.mem_append.1 h1 with h2 | h2
          · exact .inl h2
          · simp only [List.mem_singleton] at h2; rw [h2]; exact .inl hmem
        · exact .inl h1
      · exact .inr h1
    obtain ⟨s1, s2, s3⟩ := spoilI_fine k1 k3 s x0
    refine ⟨?_, h'.params, fun x hx => ?_, fun x hx => ?_, fun x hx => ?_⟩
    · have := h.items
      show (spoilL _ _ _ _ _ _).length ≤ n + 1
      unfold spoilL
      rw [List.length_set]
      split
      · simp; omega
      · omega
    · rcases hall x hx with h1 | h1
      · exact h'.sizes x h1
      · rw [h1]; have := h.sizes x0 hmem; omega
    · rcases hall x hx with h1 | h1
      · exact h'.args x h1
      · rw [h1]; have := h.args x0 hmem; omega
    · rcases hall x hx with h1 | h1
      · exact h'.ports x h1
      · rw [h1]; have := h.ports x0 hmem; omega
end Go.Proofs.Ytejpmjnefokdoaa

/-
  CheckModuleOrder answers true.
-/
namespace Go.Proofs.Ytejpmjnefokdoaa
open Go.Aw
theorem spoil_c (f : List Module) (k0 k1 k2 k3 : Nat) (s : Str) (h0 : k0 < 256) (h1 : k1 < 256) (h2 : k2 < 256) (h3 : k3 < 256) (hf : f.length ≤ 1000) (i : Nat) (hi : i < f.length) (hki : k0 % f.length = i) (hF : Fine 800 f[i]) :
    FnP Try.prog 10 [.agg [eModules f], .agg [eU8 k0, eU8 k1, eU8 k2, eU8 k3], eS s] (.d (.agg [eModules (f.set i (spoilM k1 k2 k3 s f[i]))])) [] := by
  by_cases hc : f[i].items.length = 0 ∨ k1 % 16 < 4
  · exact spoil0_c f k0 k1 k2 k3 s h0 h1 h2 h3 hf i hi hki f[i] rfl hF.items hF.params hc
  · have hn : k2 % f[i].items.length < f[i].items.length := Nat.mod_lt _ (by have := (not_or.1 hc).1; omega)
    have hg : f[i].items.getD (k2 % f[i].items.length) zItem = f[i].items[k2 % f[i].items.length] := by simp [List.getD, hn]
    have e : spoilM k1 k2 k3 s f[i] = { f[i] with items := spoilL k1 k3 s f[i].items (k2 % f[i].items.length) f[i].items[k2 % f[i].items.length] } := by
      unfold spoilM
      rw [if_neg hc, hg]
    rw [e]
    exact spoil1_c f k0 k1 k2 k3 s h0 h1 h2 h3 hf i hi hki f[i] rfl hF.items _ hn rfl _ rfl (hF.ports _ (List.getElem_mem hn)) (not_or.1 hc).2
theorem permF_mem {f : List Module} {to : List Int} (h : to.length ≤ f.length) : ∀ m ∈ permF f to, m ∈ f := by
  have key : ∀ k, k ≤ f.length → ∀ m ∈ (List.range k).foldl (fun g i => g.set (to.getD i 0).toNat (f.getD i zMod)) f, m ∈ f := by
    intro k
    induction k with
    | zero => intro _ m hm; exact hm
    | succ k ih =>
      intro hk m hm
      rw [permF_step] at hm
      rcases List.mem_or_eq_of_mem_set hm with h1 | h1
      · exact ih (by omega) m h1
      · rw [h1, List.getD_eq_getElem?_getD, List.getElem?_eq_getElem (show k < f.length by omega)]
        exact List.getElem_mem _
  exact key to.length h
theorem check_len {l : List Module} (hS : Small l) (h2 : l.length ≤ 2) : (check l).length ≤ 100000 := by
  have h := (found_ok hS l.length (Nat.le_refl _)).2
  rw [List.take_length] at h
  have e : l.zipIdx.foldl (modF l) [] = found l := rfl
  rw [check_length, ← e]
  omega
theorem shuf_in {n : Nat} (h : n ≤ 2) (l : List Nat) : ∀ i < n, 0 ≤ (shuf n l).getD i 0 ∧ (shuf n l).getD i 0 < n := by
  intro i hi
  match n, h with
  | 0, _ => omega
  | 1, _ =>
    rw [shuf_one]
    have : i = 0 := by omega
    subst this
    exact ⟨by decide, by decide⟩
  | 2, _ =>
    have hi' : i = 0 ∨ i = 1 := by omega
    rcases shuf_two l with e | e <;> rw [e] <;> rcases hi' with rfl | rfl <;> exact ⟨by decide, by decide⟩
theorem order_c (x : Raw) (hx : x.ok) (k0 k1 k2 k3 : Nat) (h0 : k0 < 256) (h1 : k1 < 256) (h2 : k2 < 256) (h3 : k3 < 256) (ord : List Nat) (hord : ∀ b ∈ ord, b < 256) : FnP Try.prog 3 [eRaw x, .agg [eU8 k0, eU8 k1, eU8 k2, eU8 k3], eBytes ord] (.d (eB true)) [] := by
  obtain ⟨hl2, hl0, _⟩ := tidy_made x
  have hfine := fine_made x
  have hmc := made_c x hx
  obtain ⟨f, hf⟩ : ∃ f, made x = f := ⟨_, rfl⟩
  rw [hf] at hl2 hl0 hmc hfine
  clear hf
  have hi : k0 % f.length < f.length := Nat.mod_lt _ hl0
  obtain ⟨i, hki⟩ : ∃ i, k0 % f.length = i := ⟨_, rfl⟩
  rw [hki] at hi
  have hsp := spoil_c f k0 k1 k2 k3 (str9 (k2 % 9)) h0 h1 h2 h3 (by omega) i hi hki ((hfine _ (List.getElem_mem hi)).mono (by omega))
  obtain ⟨F, hFd, hFl, hFf, hs, hF⟩ : ∃ F : List Module, (F = if k3 % 4 > 0 then f.set i (spoilM k1 k2 k3 (str9 (k2 % 9)) f[i]) else f) ∧ F.length = f.length ∧ (∀ m ∈ F, Fine 61 m) ∧
      (k3 % 4 > 0 → FnP Try.prog 10 [.agg [eModules f], .agg [eU8 k0, eU8 k1, eU8 k2, eU8 k3], eS (str9 (k2 % 9))] (.d (.agg [eModules F])) []) ∧ (¬ k3 % 4 > 0 → F = f) := by
    refine ⟨_, rfl, ?_, ?_, fun h => ?_, fun h => if_neg h⟩
    · split <;> simp
    · intro m hm
      split at hm
      · rcases List.mem_or_eq_of_mem_set hm with h4 | h4
        · exact (hfine m h4).mono (by omega)
        · rw [h4]; exact spoil_fine (by omega) _ _ _ _ (hfine _ (List.getElem_mem hi))
      · exact (hfine m hm).mono (by omega)
    · rw [if_pos h]; exact hsp
  have hto := shuf_len ord F.length
  have hSm : Small F := small_fine (n := 61) (by omega) (by omega) hFf
  have hpl : (permF F (shuf F.length ord)).length = F.length := permF_len _ _ _
  have hSp : Small (permF F (shuf F.length ord)) := small_fine (n := 61) (by omega) (by omega) (fun m hm => hFf m (permF_mem (by rw [show (shuf F.length ord).length = F.length from hto]; exact Nat.le_refl _) m hm))
  refine order_w x k0 k1 k2 k3 ord h2 h3 f F (shuf F.length ord) hmc hs hF (by omega) (fun hd => ?_) (shuf_c F.length ord (by omega) hord) hto (shuf_in (by omega) ord) (check_c F hSm) (check_len hSm (by omega)) (check_c _ hSp) (fun hd => order_law hd (by omega) ord)
  have := valid_c F hSm
  rwa [diff_bad hd] at this
end Go.Proofs.Ytejpmjnefokdoaa

/-
  CheckModuleOrder: if the modules of a file without two modules of one name are put into another order, it has the same problems at the modules' new indices.
  Conditions: none.
-/
namespace Go.Proofs.Ytejpmjnefokdoaa
open Go.Aw Go.ChangeShapes Go.WideShapes Go.ChangeAt Go.RowKit
set_option maxRecDepth 100000
theorem order_lifted (os : Os) (started : os.Started) (H : Type) (enc : TypeId × Value → H) :
    ReturnsInHanded {} Try.checked os 3 .any (Rows.checkModuleOrderSpec.pre6 enc Try.prog Try.f3 Rows.checkModuleOrderRow.domain false) (Rows.checkModuleOrderSpec.post enc Try.prog Try.f3 false true false false) := by
  refine returnsInHanded_of_change (C := Try.checked) own started (by kernel_rfl) Try.func3
    (ChangeSpec.witness6 (enc := enc) (C := Try.checked) false ⟨#[], #[.agg #[.int .u8 0, .int .u8 0, .slice none 0 0], .agg #[.int .u8 0, .int .u8 0, .int .u8 0, .int .u8 0], .slice none 0 0], []⟩ 8 (by kernel_rfl) (by kernel_rfl) (by kernel_rfl) (by kernel_rfl)) ?_
  intro W base args ds gs before hval hW _ _
  refine law_post (P := Try.prog) (n := 8) (ss := [shRaw, shK4, shB]) laidOut (of_decide_eq_true (by kernel_rfl)) (tb := 4) (by kernel_rfl) Try.underlying4 (by kernel_rfl) rfl hval hW (fun hl => ?_) (fun Ds hD _ => ?_)
  · match ds, hl with
    | [_, _, _], _ => rfl
  · obtain ⟨a, b, c, rfl, ha, hb, hc⟩ := fitsA_3 hD
    obtain ⟨x, rfl, hx⟩ := raw_of ha
    obtain ⟨k0, k1, k2, k3, rfl, h0, h1, h2, h3⟩ := k4_of hb
    obtain ⟨ord, rfl, hord⟩ := bytes_of hc
    exact order_c x hx k0 k1 k2 k3 h0 h1 h2 h3 ord hord
theorem order_holds : Rows.CheckModuleOrderSaid :=
  OpenClaim.holds_of_wide 3 Try.f3 rfl rfl rfl rfl rfl rfl rfl ⟨rfl, rfl, rfl, rfl, rfl⟩ rfl rfl rfl rfl rfl (by kernel_rfl) Try.func3 (by kernel_rfl)
    (of_decide_eq_true (by kernel_rfl)) (by unfold Func.isWrapper; first | (rw [if_pos (by decide +kernel)]; kernel_rfl) | (rw [if_neg (by decide +kernel)]; exact ⟨rfl, rfl⟩))
    (fun os started H enc _ => order_lifted os started H enc)
end Go.Proofs.Ytejpmjnefokdoaa
