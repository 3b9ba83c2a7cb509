/-
 CheckLocality, where the arguments hold together at most 1048576 values: if an item that is neither a port nor an instance is appended to a module, the problems of all other modules stay.
 Conditions: the bound on the arguments alone.
-/
import Derived.Test.YtejpmjnefokdoaaGL
import Derived.Test.YtejpmjnefokdoaaK4
import Derived.Test.YtejpmjnefokdoaaRows
import Derived.Test.YtejpmjnefokdoaaGLr
import Derived.Test.YtejpmjnefokdoaaK5
import Derived.Test.YtejpmjnefokdoaaK3
set_option linter.unusedSimpArgs false
set_option linter.unusedVariables false
/-
 ARGUMENTS OF THE LAWS AS DATA.
-/
namespace Go.Proofs.Ytejpmjnefokdoaa
open Go.Aw Go.ChangeShapes Go.WideShapes Go.ChangeAt Go.RowKit
set_option maxRecDepth 100000
theorem own : ownKnob Try.prog.godebug = none := by kernel_rfl
theorem laidOut : laidOutB Try.prog = true := by kernel_rfl
def shRaw : ASh := .agg [.int .u8, .int .u8, .sl [.int .u8]]
def shK2 : ASh := .agg [.int .u8, .int .u8]
def shK4 : ASh := .agg [.int .u8, .int .u8, .int .u8, .int .u8]
def shB : ASh := .one (.sl [.int .u8])
theorem fitsL_3 {s t u : Sh} {ds : List D} (h : Sh.fitsL [s, t, u] ds) : ∃ a b c, ds = [a, b, c] ∧ s.fits a ∧ t.fits b ∧ u.fits c := by
 simp only [Sh.fitsL] at h
 obtain ⟨a, r, rfl, h1, b, r2, rfl, h2, c, r3, rfl, h3, rfl⟩ := h
 exact ⟨a, b, c, rfl, h1, h2, h3⟩
theorem bytes_of {d : D} (h : Sh.fits (.sl [.int .u8]) d) : ∃ l : List Nat, d = eBytes l ∧ ∀ b ∈ l, b < 256 := by
 obtain ⟨l, rfl, hl⟩ := fits_sl (enc := fun b : Nat => [eU8 b]) (p := fun b => b < 256) (fun e he => by
  obtain ⟨x, rfl, hx⟩ := fitsL_1 he
  obtain ⟨n, rfl, hn⟩ := fits_u8 hx
  exact ⟨n, rfl, hn⟩) h
 exact ⟨l, rfl, hl⟩
theorem raw_of {d : D} (h : shRaw.fits d) : ∃ x : Raw, d = eRaw x ∧ x.ok := by
 obtain ⟨ds, rfl, h⟩ := h
 obtain ⟨a, b, c, rfl, h1, h2, h3⟩ := fitsL_3 h
 obtain ⟨k, rfl, hk⟩ := fits_u8 h1
 obtain ⟨w, rfl, hw⟩ := fits_u8 h2
 obtain ⟨l, rfl, hl⟩ := bytes_of h3
 exact ⟨⟨k, w, l⟩, rfl, hk, hw, hl⟩
theorem k2_of {d : D} (h : shK2.fits d) : ∃ a b : Nat, d = .agg [eU8 a, eU8 b] ∧ a < 256 ∧ b < 256 := by
 obtain ⟨ds, rfl, h⟩ := h
 obtain ⟨a, b, rfl, h1, h2⟩ := fitsL_2 h
 obtain ⟨k, rfl, hk⟩ := fits_u8 h1
 obtain ⟨w, rfl, hw⟩ := fits_u8 h2
 exact ⟨k, w, rfl, hk, hw⟩
theorem k4_of {d : D} (h : shK4.fits d) : ∃ a b c e : Nat, d = .agg [eU8 a, eU8 b, eU8 c, eU8 e] ∧ a < 256 ∧ b < 256 ∧ c < 256 ∧ e < 256 := by
 obtain ⟨ds, rfl, h⟩ := h
 obtain ⟨a, b, c, e, rfl, h1, h2, h3, h4⟩ := fitsL_4 h
 obtain ⟨a, rfl, ha⟩ := fits_u8 h1
 obtain ⟨b, rfl, hb⟩ := fits_u8 h2
 obtain ⟨c, rfl, hc⟩ := fits_u8 h3
 obtain ⟨e, rfl, he⟩ := fits_u8 h4
 exact ⟨a, b, c, e, rfl, ha, hb, hc, he⟩
end Go.Proofs.Ytejpmjnefokdoaa

/-
 ITEMS AND FILES AS ARGUMENTS: data of a recursive type.
-/
namespace Go.Proofs.Ytejpmjnefokdoaa
open Go.Aw Go.ChangeShapes Go.WideShapes Go.ChangeAt Go.RowKit
set_option maxRecDepth 100000
def sI : Sx := .int .i64
def shNum : List Sx := [sI, .str]
def shE : List Sx := [sI, .str, sI, .str, sI, .str, .rc]
def shRule : List Sx := [sI, .str, sI]
def shBind : List Sx := [.str, .str]
def shItem : List Sx := sI :: .str :: (shNum ++ (shNum ++ (shNum ++ (shE ++ (shE ++ (shE ++ (shRule ++ [.str, .sl shNum, .sl shBind])))))))
def shMod : List Sx := [.str, .str, .sl [.str], .sl shItem]
def shFile : List Sx := [.sl shMod]
theorem rec_type : Try.prog.underlying 48 = some (.slice 50) := Try.underlying48
theorem rec_shape : shapesX Try.prog 48 8 50 = some shE := by kernel_rfl
theorem rec_len : shE.length = Try.prog.cellsOf 50 := by kernel_rfl
section
variable {Q : D → Prop}
theorem fits_int {d : D} (h : Sx.fits Q sI d) : ∃ n : I64, d = eI n.1 := by
 simp only [sI, Sx.fits] at h
 obtain ⟨n, rfl, h⟩ := h
 exact ⟨⟨n, h⟩, rfl⟩
theorem fits_str {d : D} (h : Sx.fits Q .str d) : ∃ s : Str, d = eS s := by
 simp only [Sx.fits] at h
 obtain ⟨s, rfl, h⟩ := h
 exact ⟨⟨s, h⟩, rfl⟩
theorem fits_slX {X : Type} {ss : List Sx} {enc : X → List D} (h : ∀ e, Sx.fitsL Q ss e → ∃ x, e = enc x) {d : D} (hd : Sx.fits Q (.sl ss) d) : ∃ l : List X, d = .sl (l.map enc) := by
 simp only [Sx.fits] at hd
 obtain ⟨es, rfl, he⟩ := hd
 obtain ⟨l, rfl, _⟩ := list_of (p := fun _ => True) (fun e h' => by obtain ⟨x, hx⟩ := h e h'; exact ⟨x, hx, trivial⟩) es he
 exact ⟨l, rfl⟩
theorem fits_app {s1 s2 : List Sx} {ds : List D} : Sx.fitsL Q (s1 ++ s2) ds → ∃ d1 d2, ds = d1 ++ d2 ∧ Sx.fitsL Q s1 d1 ∧ Sx.fitsL Q s2 d2 := by
 induction s1 generalizing ds with
 | nil => intro h; exact ⟨[], ds, rfl, by simp only [Sx.fitsL], h⟩
 | cons s r ih =>
  intro h
  rw [List.cons_append] at h
  simp only [Sx.fitsL] at h
  obtain ⟨d, t, rfl, h1, h2⟩ := h
  obtain ⟨d1, d2, rfl, h3, h4⟩ := ih h2
  exact ⟨d :: d1, d2, rfl, by simp only [Sx.fitsL]; exact ⟨d, d1, rfl, h1, h3⟩, h4⟩
theorem num_of {ds : List D} (h : Sx.fitsL Q shNum ds) : ∃ x : Num, ds = eNum x := by
 simp only [shNum, Sx.fitsL] at h
 obtain ⟨a, _, rfl, h1, b, _, rfl, h2, rfl⟩ := h
 obtain ⟨n, rfl⟩ := fits_int h1
 obtain ⟨s, rfl⟩ := fits_str h2
 exact ⟨⟨n.1, s⟩, rfl⟩
theorem bind_of {ds : List D} (h : Sx.fitsL Q shBind ds) : ∃ x : Bind, ds = eBind x := by
 simp only [shBind, Sx.fitsL] at h
 obtain ⟨a, _, rfl, h1, b, _, rfl, h2, rfl⟩ := h
 obtain ⟨n, rfl⟩ := fits_str h1
 obtain ⟨s, rfl⟩ := fits_str h2
 exact ⟨⟨n, s⟩, rfl⟩
theorem rule_of {ds : List D} (h : Sx.fitsL Q shRule ds) : ∃ x : Rule, ds = eRule x := by
 simp only [shRule, Sx.fitsL] at h
 obtain ⟨a, _, rfl, h1, b, _, rfl, h2, c, _, rfl, h3, rfl⟩ := h
 obtain ⟨n, rfl⟩ := fits_int h1
 obtain ⟨s, rfl⟩ := fits_str h2
 obtain ⟨k, rfl⟩ := fits_int h3
 exact ⟨⟨n.1, s, k.1⟩, rfl⟩
theorem expr_of (hQ : ∀ d, Q d → ∃ l : List Expr, d = eExprs l) {ds : List D} (h : Sx.fitsL Q shE ds) : ∃ e : Expr, ds = eExpr e := by
 simp only [shE, Sx.fitsL] at h
 obtain ⟨a, _, rfl, h1, b, _, rfl, h2, c, _, rfl, h3, d, _, rfl, h4, e, _, rfl, h5, f, _, rfl, h6, g, _, rfl, h7, rfl⟩ := h
 obtain ⟨o, rfl⟩ := fits_int h1
 obtain ⟨n, rfl⟩ := fits_str h2
 obtain ⟨k, rfl⟩ := fits_int h3
 obtain ⟨kp, rfl⟩ := fits_str h4
 obtain ⟨w, rfl⟩ := fits_int h5
 obtain ⟨wp, rfl⟩ := fits_str h6
 simp only [Sx.fits] at h7
 obtain ⟨l, rfl⟩ := hQ _ h7
 exact ⟨.mk o.1 n ⟨k.1, kp⟩ ⟨w.1, wp⟩ l, by rw [eExpr_eq]; rfl⟩
theorem item_of (hQ : ∀ d, Q d → ∃ l : List Expr, d = eExprs l) {ds : List D} (h : Sx.fitsL Q shItem ds) : ∃ x : Item, ds = eItem x := by
 unfold shItem at h
 simp only [Sx.fitsL] at h
 obtain ⟨a, _, rfl, h1, b, _, rfl, h2, h⟩ := h
 obtain ⟨w, _, rfl, hw, h⟩ := fits_app h
 obtain ⟨d, _, rfl, hd, h⟩ := fits_app h
 obtain ⟨i, _, rfl, hi, h⟩ := fits_app h
 obtain ⟨ea, _, rfl, hea, h⟩ := fits_app h
 obtain ⟨eb, _, rfl, heb, h⟩ := fits_app h
 obtain ⟨ec, _, rfl, hec, h⟩ := fits_app h
 obtain ⟨ru, _, rfl, hru, h⟩ := fits_app h
 simp only [Sx.fitsL] at h
 obtain ⟨o, _, rfl, ho, ar, _, rfl, har, po, _, rfl, hpo, rfl⟩ := h
 obtain ⟨k, rfl⟩ := fits_int h1
 obtain ⟨n, rfl⟩ := fits_str h2
 obtain ⟨w, rfl⟩ := num_of hw
 obtain ⟨d, rfl⟩ := num_of hd
 obtain ⟨i, rfl⟩ := num_of hi
 obtain ⟨ea, rfl⟩ := expr_of hQ hea
 obtain ⟨eb, rfl⟩ := expr_of hQ heb
 obtain ⟨ec, rfl⟩ := expr_of hQ hec
 obtain ⟨ru, rfl⟩ := rule_of hru
 obtain ⟨o, rfl⟩ := fits_str ho
 obtain ⟨ar, rfl⟩ := fits_slX (fun e he => num_of he) har
 obtain ⟨po, rfl⟩ := fits_slX (fun e he => bind_of he) hpo
 exact ⟨⟨k, n, w, d, i, ea, eb, ec, ru, o, ar, po⟩, rfl⟩
theorem mod_of (hQ : ∀ d, Q d → ∃ l : List Expr, d = eExprs l) {ds : List D} (h : Sx.fitsL Q shMod ds) : ∃ x : Module, ds = eModule x := by
 simp only [shMod, Sx.fitsL] at h
 obtain ⟨a, _, rfl, h1, b, _, rfl, h2, c, _, rfl, h3, d, _, rfl, h4, rfl⟩ := h
 obtain ⟨n, rfl⟩ := fits_str h1
 obtain ⟨k, rfl⟩ := fits_str h2
 obtain ⟨ps, rfl⟩ := fits_slX (enc := fun s : Str => [eS s]) (fun e he => by
  simp only [Sx.fitsL] at he
  obtain ⟨x, _, rfl, hx, rfl⟩ := he
  obtain ⟨s, rfl⟩ := fits_str hx
  exact ⟨s, rfl⟩) h3
 obtain ⟨its, rfl⟩ := fits_slX (fun e he => item_of hQ he) h4
 exact ⟨⟨n, k, ps, its⟩, rfl⟩
end
theorem recP_exprs : ∀ (k : Nat) (d : D), recP shE k d → ∃ l : List Expr, d = eExprs l
 | 0, _, h => by simp only [recP] at h
 | k + 1, d, h => by
  obtain ⟨es, rfl, he⟩ := h
  obtain ⟨l, rfl, _⟩ := list_of (p := fun _ => True) (fun e h' => by
   obtain ⟨x, hx⟩ := expr_of (recP_exprs k) h'
   exact ⟨x, hx, trivial⟩) es he
  exact ⟨l, rfl⟩
end Go.Proofs.Ytejpmjnefokdoaa

/-
 CONTRACTS: a file of which one part is another one.
-/
namespace Go.Proofs.Ytejpmjnefokdoaa
open Go.Aw
open Nat renaming reduceEqDiff → pE, reduceLT → pL, reduceAdd → pA, reduceSub → pS, reduceMul → pM, reduceLeDiff → pD
open Int renaming reduceToNat → qT, reduceGT → qG, reduceLT → qL, reduceGE → qH, reduceBNe → qN, reduceBEq → qB, reduceLE → qE, reduceNe → qO, reduceAdd → qA, reduceNeg → qM
set_option maxRecDepth 100000
set_option maxHeartbeats 20000000
def kindN (n : Nat) : I64 := if h : n ≤ 9223372036854775807 then ⟨(n : Int), wf_nat h⟩ else ⟨0, rfl⟩
theorem kindN_1 {n : Nat} (h : n ≤ 1000) : (kindN n).1 = (n : Int) := by unfold kindN; rw [dif_pos (by omega)]
def spoilI (k1 k3 : Nat) (s : Str) (x : Item) : Item :=
 if k1 % 12 = 4 then { x with name := s } else if k1 % 12 = 5 then { x with kind := kindN (k3 % 11) } else if k1 % 12 = 6 then { x with width := ⟨x.width.n, s⟩ }
 else if k1 % 12 = 7 then { x with a := .mk 14 s zNum zNum [] } else if k1 % 12 = 8 then { x with a := .mk (k3 % 20 : Nat) s zNum zNum [x.a] }
 else if k1 % 12 = 9 then { x with rule := ⟨(k3 % 6 : Nat) - 1, s, 0⟩ } else if k1 % 12 = 10 then { x with of := s } else if k1 % 12 = 11 then { x with ports := x.ports ++ [⟨sX, s⟩] } else x
def spoilL (k1 k3 : Nat) (s : Str) (l : List Item) (n : Nat) (x : Item) : List Item := (if k1 % 12 < 4 then l ++ [x] else l).set n (spoilI k1 k3 s x)
def spoilM (k1 k2 k3 : Nat) (s : Str) (m : Module) : Module :=
 if m.items.length = 0 ∨ k1 % 16 < 4 then
  (if k1 % 4 = 0 then { m with name := s } else if k1 % 4 = 1 then { m with clock := s } else if k1 % 4 = 2 then { m with params := m.params ++ [s] } else { m with items := m.items ++ [{ zItem with kind := kindN (k2 % 11), name := s }] })
 else { m with items := spoilL k1 k3 s m.items (k2 % m.items.length) (m.items.getD (k2 % m.items.length) zItem) }
theorem rowsOk_strs (l : List Str) : rowsOk 1 (l.map fun s => [D.lit (.string s.1)]) := by
 intro y hy
 obtain ⟨q, _, rfl⟩ := List.mem_map.1 hy
 simp [D.one, Value.oneCell']
theorem rowsOk_mods (l : List Module) : rowsOk 4 (l.map eModule) := by
 intro y hy
 obtain ⟨q, _, rfl⟩ := List.mem_map.1 hy
 simp [eModule, eS, eStrs, eItems, D.one, Value.oneCell']
theorem rowsOk_binds (l : List Bind) : rowsOk 2 (l.map eBind) := by
 intro y hy
 obtain ⟨q, _, rfl⟩ := List.mem_map.1 hy
 simp [eBind, eS, D.one, Value.oneCell']
theorem spoil0_c (f : List Module) (k0 k1 k2 k3 : Nat) (s : Str) (h0 : k0 < 256) (h1 : k1 < 256) (h2 : k2 < 256) (h3 : k3 < 256) (hf : f.length ≤ 1000) (i : Nat) (hi : i < f.length) (hki : k0 % f.length = i) (m : Module) (hm : f[i] = m) (hl : m.items.length ≤ 800) (hp : m.params.length ≤ 800)
  (hc : m.items.length = 0 ∨ k1 % 16 < 4) : FnP Try.prog 10 [.agg [eModules f], .agg [eU8 k0, eU8 k1, eU8 k2, eU8 k3], eS s] (.d (.agg [eModules (f.set i (spoilM k1 k2 k3 s m))])) [] := by
 refine FnP.of_eC (own := []) (fun i => if i = 1016 then [.frz 34] else if i = 1039 then [.frz 34] else if i = 15 then [.frz 73] else if i = 37 then [.frz 157] else if i = 31 then [.frz 138] else if i = 29 then [.adB 11 14 99 50 7, .frz 99] else []) mixed Try.func10 rfl Try.call10 Try.ntmps10 (Nat.le_of_ble_eq_true rfl) Try.results10 (fun hok => ?_)
 have e1 : IntKind.i64.wrap (k0 : Int) = (k0 : Int) := wrap_id (by omega) (by omega)
 have e2 : IntKind.i64.wrap (k2 : Int) = (k2 : Int) := wrap_id (by omega) (by omega)
 have r1 : (k0 : Int).tmod (f.length : Int) = (i : Int) := by rw [← hki]; exact (Int.ofNat_tmod _ _).symm
 have m16 : (k1 : Int).tmod 16 = ((k1 % 16 : Nat) : Int) := (Int.ofNat_tmod _ _).symm
 have m4 : (k1 : Int).tmod 4 = ((k1 % 4 : Nat) : Int) := (Int.ofNat_tmod _ _).symm
 have m12 : (k1 : Int).tmod 12 = ((k1 % 12 : Nat) : Int) := (Int.ofNat_tmod _ _).symm
 have z1 : ¬ (f.length : Int) = 0 := by omega
 have z2 : ((f.length : Int) == 0) = false := by rw [beq_eq_false_iff_ne]; omega
 have ro := rowsOk_mods f
 have ri := rowsOk_items m.items
 have m11 : (k2 : Int).tmod 11 = ((k2 % 11 : Nat) : Int) := (Int.ofNat_tmod _ _).symm
 have e11 : IntKind.i64.wrap ((k2 % 11 : Nat) : Int) = ((k2 % 11 : Nat) : Int) := wrap_id (by omega) (by omega)
 rw [spoilM, if_pos hc]
 by_cases hz : m.items.length = 0
 ·have hz' : ((m.items.length : Int) == 0) = true := by simp [hz]
  by_cases b0 : k1 % 4 = 0
  ·have g0 : (((k1 % 4 : Nat) : Int) == 0) = true := by simp [b0]
   rw [if_pos b0]
   simp (maxSteps := 4000000) only [ZE,↓reduceIte,pE,pL,pA,pS,pM,pD, zN,qT,qG,qL,qH,qN,qB,qE,qO,qA,qM, e1, e2, r1, m16, m4, m12, z1, z2, not_false_eq_true, getD_map hi, lt_int hi, List.length_map, hm, hz', g0, List.length_append, List.length_map, List.length_cons, List.length_nil, List.length_set, List.map_set, List.map_append, List.map_cons, List.map_nil]
   repeat' apply And.intro
   all_goals first | assumption | omega | simp only [ZE,↓reduceIte,pE,pL,pA,pS,pM,pD, List.length_append, List.length_map, List.length_cons, List.length_nil, List.length_set, List.map_set, List.map_append, List.map_cons, List.map_nil]
  have g0 : (((k1 % 4 : Nat) : Int) == 0) = false := by simp; omega
  rw [if_neg b0]
  by_cases b1 : k1 % 4 = 1
  ·have g1 : (((k1 % 4 : Nat) : Int) == 1) = true := by simp [b1]
   rw [if_pos b1]
   simp (maxSteps := 4000000) only [ZE,↓reduceIte,pE,pL,pA,pS,pM,pD, zN,qT,qG,qL,qH,qN,qB,qE,qO,qA,qM, e1, e2, r1, m16, m4, m12, z1, z2, not_false_eq_true, getD_map hi, lt_int hi, List.length_map, hm, hz', g0, g1, List.length_append, List.length_map, List.length_cons, List.length_nil, List.length_set, List.map_set, List.map_append, List.map_cons, List.map_nil]
   repeat' apply And.intro
   all_goals first | assumption | omega | simp only [ZE,↓reduceIte,pE,pL,pA,pS,pM,pD, List.length_append, List.length_map, List.length_cons, List.length_nil, List.length_set, List.map_set, List.map_append, List.map_cons, List.map_nil]
  have g1 : (((k1 % 4 : Nat) : Int) == 1) = false := by simp; omega
  rw [if_neg b1]
  by_cases b2 : k1 % 4 = 2
  ·have g2 : (((k1 % 4 : Nat) : Int) == 2) = true := by simp [b2]
   rw [if_pos b2]
   have rp := rowsOk_strs m.params
   simp (maxSteps := 4000000) only [ZE,↓reduceIte,pE,pL,pA,pS,pM,pD, zN,qT,qG,qL,qH,qN,qB,qE,qO,qA,qM, e1, e2, r1, m16, m4, m12, z1, z2, not_false_eq_true, getD_map hi, lt_int hi, List.length_map, hm, hz', g0, g1, g2, List.length_append, List.length_map, List.length_cons, List.length_nil, List.length_set, List.map_set, List.map_append, List.map_cons, List.map_nil]
   repeat' apply And.intro
   all_goals first | assumption | omega | simp only [ZE,↓reduceIte,pE,pL,pA,pS,pM,pD, List.length_append, List.length_map, List.length_cons, List.length_nil, List.length_set, List.map_set, List.map_append, List.map_cons, List.map_nil]
  have g2 : (((k1 % 4 : Nat) : Int) == 2) = false := by simp; omega
  rw [if_neg b2]
  have k11 : (kindN (k2 % 11)).1 = ((k2 % 11 : Nat) : Int) := kindN_1 (by omega)
  simp (maxSteps := 4000000) only [ZE,↓reduceIte,pE,pL,pA,pS,pM,pD, zN,qT,qG,qL,qH,qN,qB,qE,qO,qA,qM, e1, e2, r1, m16, m4, m12, z1, z2, not_false_eq_true, getD_map hi, lt_int hi, List.length_map, hm, hz', g0, g1, g2, m11, e11, k11, op_mk, name_mk, k_mk, w_mk, args_mk, zExpr, zNum, emp, zItem, List.length_append, List.length_map, List.length_cons, List.length_nil, List.length_set, List.map_set, List.map_append, List.map_cons, List.map_nil]
  repeat' apply And.intro
  all_goals first | assumption | omega | simp only [ZE,↓reduceIte,pE,pL,pA,pS,pM,pD, List.length_append, List.length_map, List.length_cons, List.length_nil, List.length_set, List.map_set, List.map_append, List.map_cons, List.map_nil]
 ·have hz' : ((m.items.length : Int) == 0) = false := by rw [beq_eq_false_iff_ne]; omega
  have c1 : decide (((k1 % 16 : Nat) : Int) < 4) = true := by
   rcases hc with h | h
   ·exact absurd h hz
   ·simp; omega
  by_cases b0 : k1 % 4 = 0
  ·have g0 : (((k1 % 4 : Nat) : Int) == 0) = true := by simp [b0]
   rw [if_pos b0]
   simp (maxSteps := 4000000) only [ZE,↓reduceIte,pE,pL,pA,pS,pM,pD, zN,qT,qG,qL,qH,qN,qB,qE,qO,qA,qM, e1, e2, r1, m16, m4, m12, z1, z2, not_false_eq_true, getD_map hi, lt_int hi, List.length_map, hm, hz', c1, g0, List.length_append, List.length_map, List.length_cons, List.length_nil, List.length_set, List.map_set, List.map_append, List.map_cons, List.map_nil]
   repeat' apply And.intro
   all_goals first | assumption | omega | simp only [ZE,↓reduceIte,pE,pL,pA,pS,pM,pD, List.length_append, List.length_map, List.length_cons, List.length_nil, List.length_set, List.map_set, List.map_append, List.map_cons, List.map_nil]
  have g0 : (((k1 % 4 : Nat) : Int) == 0) = false := by simp; omega
  rw [if_neg b0]
  by_cases b1 : k1 % 4 = 1
  ·have g1 : (((k1 % 4 : Nat) : Int) == 1) = true := by simp [b1]
   rw [if_pos b1]
   simp (maxSteps := 4000000) only [ZE,↓reduceIte,pE,pL,pA,pS,pM,pD, zN,qT,qG,qL,qH,qN,qB,qE,qO,qA,qM, e1, e2, r1, m16, m4, m12, z1, z2, not_false_eq_true, getD_map hi, lt_int hi, List.length_map, hm, hz', c1, g0, g1, List.length_append, List.length_map, List.length_cons, List.length_nil, List.length_set, List.map_set, List.map_append, List.map_cons, List.map_nil]
   repeat' apply And.intro
   all_goals first | assumption | omega | simp only [ZE,↓reduceIte,pE,pL,pA,pS,pM,pD, List.length_append, List.length_map, List.length_cons, List.length_nil, List.length_set, List.map_set, List.map_append, List.map_cons, List.map_nil]
  have g1 : (((k1 % 4 : Nat) : Int) == 1) = false := by simp; omega
  rw [if_neg b1]
  by_cases b2 : k1 % 4 = 2
  ·have g2 : (((k1 % 4 : Nat) : Int) == 2) = true := by simp [b2]
   rw [if_pos b2]
   have rp := rowsOk_strs m.params
   simp (maxSteps := 4000000) only [ZE,↓reduceIte,pE,pL,pA,pS,pM,pD, zN,qT,qG,qL,qH,qN,qB,qE,qO,qA,qM, e1, e2, r1, m16, m4, m12, z1, z2, not_false_eq_true, getD_map hi, lt_int hi, List.length_map, hm, hz', c1, g0, g1, g2, List.length_append, List.length_map, List.length_cons, List.length_nil, List.length_set, List.map_set, List.map_append, List.map_cons, List.map_nil]
   repeat' apply And.intro
   all_goals first | assumption | omega | simp only [ZE,↓reduceIte,pE,pL,pA,pS,pM,pD, List.length_append, List.length_map, List.length_cons, List.length_nil, List.length_set, List.map_set, List.map_append, List.map_cons, List.map_nil]
  have g2 : (((k1 % 4 : Nat) : Int) == 2) = false := by simp; omega
  rw [if_neg b2]
  have k11 : (kindN (k2 % 11)).1 = ((k2 % 11 : Nat) : Int) := kindN_1 (by omega)
  simp (maxSteps := 4000000) only [ZE,↓reduceIte,pE,pL,pA,pS,pM,pD, zN,qT,qG,qL,qH,qN,qB,qE,qO,qA,qM, e1, e2, r1, m16, m4, m12, z1, z2, not_false_eq_true, getD_map hi, lt_int hi, List.length_map, hm, hz', c1, g0, g1, g2, m11, e11, k11, op_mk, name_mk, k_mk, w_mk, args_mk, zExpr, zNum, emp, zItem, List.length_append, List.length_map, List.length_cons, List.length_nil, List.length_set, List.map_set, List.map_append, List.map_cons, List.map_nil]
  repeat' apply And.intro
  all_goals first | assumption | omega | simp only [ZE,↓reduceIte,pE,pL,pA,pS,pM,pD, List.length_append, List.length_map, List.length_cons, List.length_nil, List.length_set, List.map_set, List.map_append, List.map_cons, List.map_nil]
theorem spoil1_c (f : List Module) (k0 k1 k2 k3 : Nat) (s : Str) (h0 : k0 < 256) (h1 : k1 < 256) (h2 : k2 < 256) (h3 : k3 < 256) (hf : f.length ≤ 1000) (i : Nat) (hi : i < f.length) (hki : k0 % f.length = i) (m : Module) (hm : f[i] = m) (hl : m.items.length ≤ 800) (n : Nat) (hn : n < m.items.length) (hkn : k2 % m.items.length = n) (x : Item) (hx : m.items[n] = x) (hp : x.ports.length ≤ 800)
  (hc : ¬ k1 % 16 < 4) : FnP Try.prog 10 [.agg [eModules f], .agg [eU8 k0, eU8 k1, eU8 k2, eU8 k3], eS s] (.d (.agg [eModules (f.set i { m with items := spoilL k1 k3 s m.items n x })])) [] := by
 refine FnP.of_eC (own := []) (fun i => if i = 1016 then [.frz 34] else if i = 1039 then [.frz 34] else if i = 15 then [.frz 73] else if i = 37 then [.frz 157] else if i = 31 then [.frz 138] else if i = 29 then [.adB 11 14 99 50 7, .frz 99] else []) mixed Try.func10 rfl Try.call10 Try.ntmps10 (Nat.le_of_ble_eq_true rfl) Try.results10 (fun hok => ?_)
 have e1 : IntKind.i64.wrap (k0 : Int) = (k0 : Int) := wrap_id (by omega) (by omega)
 have e2 : IntKind.i64.wrap (k2 : Int) = (k2 : Int) := wrap_id (by omega) (by omega)
 have r1 : (k0 : Int).tmod (f.length : Int) = (i : Int) := by rw [← hki]; exact (Int.ofNat_tmod _ _).symm
 have m16 : (k1 : Int).tmod 16 = ((k1 % 16 : Nat) : Int) := (Int.ofNat_tmod _ _).symm
 have m4 : (k1 : Int).tmod 4 = ((k1 % 4 : Nat) : Int) := (Int.ofNat_tmod _ _).symm
 have m12 : (k1 : Int).tmod 12 = ((k1 % 12 : Nat) : Int) := (Int.ofNat_tmod _ _).symm
 have z1 : ¬ (f.length : Int) = 0 := by omega
 have z2 : ((f.length : Int) == 0) = false := by rw [beq_eq_false_iff_ne]; omega
 have ro := rowsOk_mods f
 have ri := rowsOk_items m.items
 have m11 : (k3 : Int).tmod 11 = ((k3 % 11 : Nat) : Int) := (Int.ofNat_tmod _ _).symm
 have e11 : IntKind.i64.wrap ((k3 % 11 : Nat) : Int) = ((k3 % 11 : Nat) : Int) := wrap_id (by omega) (by omega)
 have k11 : (kindN (k3 % 11)).1 = ((k3 % 11 : Nat) : Int) := kindN_1 (by omega)
 have m20 : (k3 : Int).tmod 20 = ((k3 % 20 : Nat) : Int) := (Int.ofNat_tmod _ _).symm
 have e20 : IntKind.i64.wrap ((k3 % 20 : Nat) : Int) = ((k3 % 20 : Nat) : Int) := wrap_id (by omega) (by omega)
 have m6 : (k3 : Int).tmod 6 = ((k3 % 6 : Nat) : Int) := (Int.ofNat_tmod _ _).symm
 have e6 : IntKind.i64.wrap ((k3 % 6 : Nat) : Int) = ((k3 % 6 : Nat) : Int) := wrap_id (by omega) (by omega)
 have s6 : IntKind.i64.wrap (((k3 % 6 : Nat) : Int) - 1) = ((k3 % 6 : Nat) : Int) - 1 := wrap_id (by omega) (by omega)
 have r2 : (k2 : Int).tmod (m.items.length : Int) = (n : Int) := by rw [← hkn]; exact (Int.ofNat_tmod _ _).symm
 have z3 : ¬ (m.items.length : Int) = 0 := by omega
 have hz' : ((m.items.length : Int) == 0) = false := by rw [beq_eq_false_iff_ne]; omega
 have c1 : decide (((k1 % 16 : Nat) : Int) < 4) = false := by simp; omega
 have rp := rowsOk_binds x.ports
 by_cases b4 : k1 % 12 = 4
 ·have g4 : (((k1 % 12 : Nat) : Int) == 4) = true := by simp [b4]
  have hI : spoilL k1 k3 s m.items n x = m.items.set n ({ x with name := s }) := by
   unfold spoilL spoilI
   simp [b4]
  rw [hI]
  simp (maxSteps := 4000000) only [ZE,↓reduceIte,pE,pL,pA,pS,pM,pD, zN,qT,qG,qL,qH,qN,qB,qE,qO,qA,qM, e1, e2, r1, m16, m4, m12, z1, z2, not_false_eq_true, getD_map hi, lt_int hi, List.length_map, hm, hz', c1, r2, z3, getD_map hn, lt_int hn, hx, Int.toNat_natCast, g4, e1, List.length_append, List.length_map, List.length_cons, List.length_nil, List.length_set, List.map_set, List.map_append, List.map_cons, List.map_nil]
  repeat' apply And.intro
  all_goals first | assumption | omega | simp only [ZE,↓reduceIte,pE,pL,pA,pS,pM,pD, List.length_append, List.length_map, List.length_cons, List.length_nil, List.length_set, List.map_set, List.map_append, List.map_cons, List.map_nil]
 have g4 : (((k1 % 12 : Nat) : Int) == 4) = false := by simp; omega
 by_cases b5 : k1 % 12 = 5
 ·have g5 : (((k1 % 12 : Nat) : Int) == 5) = true := by simp [b5]
  have hI : spoilL k1 k3 s m.items n x = m.items.set n ({ x with kind := kindN (k3 % 11) }) := by
   unfold spoilL spoilI
   simp [b5]
  rw [hI]
  simp (maxSteps := 4000000) only [ZE,↓reduceIte,pE,pL,pA,pS,pM,pD, zN,qT,qG,qL,qH,qN,qB,qE,qO,qA,qM, e1, e2, r1, m16, m4, m12, z1, z2, not_false_eq_true, getD_map hi, lt_int hi, List.length_map, hm, hz', c1, r2, z3, getD_map hn, lt_int hn, hx, Int.toNat_natCast, g4,g5, m11, e11, k11, List.length_append, List.length_map, List.length_cons, List.length_nil, List.length_set, List.map_set, List.map_append, List.map_cons, List.map_nil]
  repeat' apply And.intro
  all_goals first | assumption | omega | simp only [ZE,↓reduceIte,pE,pL,pA,pS,pM,pD, List.length_append, List.length_map, List.length_cons, List.length_nil, List.length_set, List.map_set, List.map_append, List.map_cons, List.map_nil]
 have g5 : (((k1 % 12 : Nat) : Int) == 5) = false := by simp; omega
 by_cases b6 : k1 % 12 = 6
 ·have g6 : (((k1 % 12 : Nat) : Int) == 6) = true := by simp [b6]
  have hI : spoilL k1 k3 s m.items n x = m.items.set n ({ x with width := ⟨x.width.n, s⟩ }) := by
   unfold spoilL spoilI
   simp [b6]
  rw [hI]
  simp (maxSteps := 4000000) only [ZE,↓reduceIte,pE,pL,pA,pS,pM,pD, zN,qT,qG,qL,qH,qN,qB,qE,qO,qA,qM, e1, e2, r1, m16, m4, m12, z1, z2, not_false_eq_true, getD_map hi, lt_int hi, List.length_map, hm, hz', c1, r2, z3, getD_map hn, lt_int hn, hx, Int.toNat_natCast, g4, g5,g6, e1, List.length_append, List.length_map, List.length_cons, List.length_nil, List.length_set, List.map_set, List.map_append, List.map_cons, List.map_nil]
  repeat' apply And.intro
  all_goals first | assumption | omega | simp only [ZE,↓reduceIte,pE,pL,pA,pS,pM,pD, List.length_append, List.length_map, List.length_cons, List.length_nil, List.length_set, List.map_set, List.map_append, List.map_cons, List.map_nil]
 have g6 : (((k1 % 12 : Nat) : Int) == 6) = false := by simp; omega
 by_cases b7 : k1 % 12 = 7
 ·have g7 : (((k1 % 12 : Nat) : Int) == 7) = true := by simp [b7]
  have hI : spoilL k1 k3 s m.items n x = m.items.set n ({ x with a := .mk 14 s zNum zNum [] }) := by
   unfold spoilL spoilI
   simp [b7]
  rw [hI]
  simp (maxSteps := 4000000) only [ZE,↓reduceIte,pE,pL,pA,pS,pM,pD, zN,qT,qG,qL,qH,qN,qB,qE,qO,qA,qM, e1, e2, r1, m16, m4, m12, z1, z2, not_false_eq_true, getD_map hi, lt_int hi, List.length_map, hm, hz', c1, r2, z3, getD_map hn, lt_int hn, hx, Int.toNat_natCast, g4, g5, g6,g7, op_mk, name_mk, k_mk, w_mk, args_mk, zExpr, zNum, emp, zItem, List.length_append, List.length_map, List.length_cons, List.length_nil, List.length_set, List.map_set, List.map_append, List.map_cons, List.map_nil]
  repeat' apply And.intro
  all_goals first | assumption | omega | simp only [ZE,↓reduceIte,pE,pL,pA,pS,pM,pD, List.length_append, List.length_map, List.length_cons, List.length_nil, List.length_set, List.map_set, List.map_append, List.map_cons, List.map_nil]
 have g7 : (((k1 % 12 : Nat) : Int) == 7) = false := by simp; omega
 by_cases b8 : k1 % 12 = 8
 ·have g8 : (((k1 % 12 : Nat) : Int) == 8) = true := by simp [b8]
  have hI : spoilL k1 k3 s m.items n x = m.items.set n ({ x with a := .mk (k3 % 20 : Nat) s zNum zNum [x.a] }) := by
   unfold spoilL spoilI
   simp [b8]
  rw [hI]
  simp (maxSteps := 4000000) only [ZE,↓reduceIte,pE,pL,pA,pS,pM,pD, zN,qT,qG,qL,qH,qN,qB,qE,qO,qA,qM, e1, e2, r1, m16, m4, m12, z1, z2, not_false_eq_true, getD_map hi, lt_int hi, List.length_map, hm, hz', c1, r2, z3, getD_map hn, lt_int hn, hx, Int.toNat_natCast, g4, g5, g6, g7,g8, m20, e20, op_mk, name_mk, k_mk, w_mk, args_mk, zExpr, zNum, emp, zItem, List.length_append, List.length_map, List.length_cons, List.length_nil, List.length_set, List.map_set, List.map_append, List.map_cons, List.map_nil]
  repeat' apply And.intro
  all_goals first | assumption | omega | simp only [ZE,↓reduceIte,pE,pL,pA,pS,pM,pD, List.length_append, List.length_map, List.length_cons, List.length_nil, List.length_set, List.map_set, List.map_append, List.map_cons, List.map_nil]
 have g8 : (((k1 % 12 : Nat) : Int) == 8) = false := by simp; omega
 by_cases b9 : k1 % 12 = 9
 ·have g9 : (((k1 % 12 : Nat) : Int) == 9) = true := by simp [b9]
  have hI : spoilL k1 k3 s m.items n x = m.items.set n ({ x with rule := ⟨(k3 % 6 : Nat) - 1, s, 0⟩ }) := by
   unfold spoilL spoilI
   simp [b9]
  rw [hI]
  simp (maxSteps := 4000000) only [ZE,↓reduceIte,pE,pL,pA,pS,pM,pD, zN,qT,qG,qL,qH,qN,qB,qE,qO,qA,qM, e1, e2, r1, m16, m4, m12, z1, z2, not_false_eq_true, getD_map hi, lt_int hi, List.length_map, hm, hz', c1, r2, z3, getD_map hn, lt_int hn, hx, Int.toNat_natCast, g4, g5, g6, g7, g8,g9, m6, e6, s6, op_mk, name_mk, k_mk, w_mk, args_mk, zExpr, zNum, emp, zItem, List.length_append, List.length_map, List.length_cons, List.length_nil, List.length_set, List.map_set, List.map_append, List.map_cons, List.map_nil]
  repeat' apply And.intro
  all_goals first | assumption | omega | simp only [ZE,↓reduceIte,pE,pL,pA,pS,pM,pD, List.length_append, List.length_map, List.length_cons, List.length_nil, List.length_set, List.map_set, List.map_append, List.map_cons, List.map_nil]
 have g9 : (((k1 % 12 : Nat) : Int) == 9) = false := by simp; omega
 by_cases b10 : k1 % 12 = 10
 ·have g10 : (((k1 % 12 : Nat) : Int) == 10) = true := by simp [b10]
  have hI : spoilL k1 k3 s m.items n x = m.items.set n ({ x with of := s }) := by
   unfold spoilL spoilI
   simp [b10]
  rw [hI]
  simp (maxSteps := 4000000) only [ZE,↓reduceIte,pE,pL,pA,pS,pM,pD, zN,qT,qG,qL,qH,qN,qB,qE,qO,qA,qM, e1, e2, r1, m16, m4, m12, z1, z2, not_false_eq_true, getD_map hi, lt_int hi, List.length_map, hm, hz', c1, r2, z3, getD_map hn, lt_int hn, hx, Int.toNat_natCast, g4, g5, g6, g7, g8, g9,g10, e1, List.length_append, List.length_map, List.length_cons, List.length_nil, List.length_set, List.map_set, List.map_append, List.map_cons, List.map_nil]
  repeat' apply And.intro
  all_goals first | assumption | omega | simp only [ZE,↓reduceIte,pE,pL,pA,pS,pM,pD, List.length_append, List.length_map, List.length_cons, List.length_nil, List.length_set, List.map_set, List.map_append, List.map_cons, List.map_nil]
 have g10 : (((k1 % 12 : Nat) : Int) == 10) = false := by simp; omega
 by_cases b11 : k1 % 12 = 11
 ·have g11 : (((k1 % 12 : Nat) : Int) == 11) = true := by simp [b11]
  have hI : spoilL k1 k3 s m.items n x = m.items.set n ({ x with ports := x.ports ++ [⟨sX, s⟩] }) := by
   unfold spoilL spoilI
   simp [b11]
  rw [hI]
  simp (maxSteps := 4000000) only [ZE,↓reduceIte,pE,pL,pA,pS,pM,pD, zN,qT,qG,qL,qH,qN,qB,qE,qO,qA,qM, e1, e2, r1, m16, m4, m12, z1, z2, not_false_eq_true, getD_map hi, lt_int hi, List.length_map, hm, hz', c1, r2, z3, getD_map hn, lt_int hn, hx, Int.toNat_natCast, g4, g5, g6, g7, g8, g9, g10,g11, sX, st, List.length_append, List.length_map, List.length_cons, List.length_nil, List.length_set, List.map_set, List.map_append, List.map_cons, List.map_nil]
  repeat' apply And.intro
  all_goals first | assumption | omega | simp only [ZE,↓reduceIte,pE,pL,pA,pS,pM,pD, List.length_append, List.length_map, List.length_cons, List.length_nil, List.length_set, List.map_set, List.map_append, List.map_cons, List.map_nil]
 have g11 : (((k1 % 12 : Nat) : Int) == 11) = false := by simp; omega
 have ga : ∀ r, (m.items.map eItem ++ r).getD n [] = eItem x := fun r => by
  rw [List.getD_eq_getElem?_getD, List.getElem?_append_left (by simpa using hn), List.getElem?_eq_getElem (by simpa using hn), List.getElem_map, hx]; rfl
 have hI : spoilL k1 k3 s m.items n x = (m.items ++ [x]).set n x := by
  unfold spoilL spoilI
  rw [if_pos (by omega), if_neg b4, if_neg b5, if_neg b6, if_neg b7, if_neg b8, if_neg b9, if_neg b10, if_neg b11]
 rw [hI]
 simp (maxSteps := 4000000) only [ZE,↓reduceIte,pE,pL,pA,pS,pM,pD, zN,qT,qG,qL,qH,qN,qB,qE,qO,qA,qM, e1, e2, r1, m16, m4, m12, z1, z2, not_false_eq_true, getD_map hi, lt_int hi, List.length_map, hm, hz', c1, r2, z3, getD_map hn, lt_int hn, hx, Int.toNat_natCast, g4, g5, g6, g7, g8, g9, g10, g11, ga, List.length_append, List.length_map, List.length_cons, List.length_nil, List.length_set, List.map_set, List.map_append, List.map_cons, List.map_nil]
 repeat' apply And.intro
 all_goals first | assumption | omega | simp only [ZE,↓reduceIte,pE,pL,pA,pS,pM,pD, List.length_append, List.length_map, List.length_cons, List.length_nil, List.length_set, List.map_set, List.map_append, List.map_cons, List.map_nil]
end Go.Proofs.Ytejpmjnefokdoaa

/-
 PLAIN LAW: sizes of generated and changed files.
-/
namespace Go.Proofs.Ytejpmjnefokdoaa
open Go.Aw
theorem numbers_le (x : Item) (ha : sz x.a + sz x.b + sz x.c ≤ 1000) (hr : x.args.length ≤ 1000) : (numbers x).length ≤ 2000000 := by
 unfold numbers
 rw [List.length_append]
 have h1 : (numHead x).length ≤ 1000 := by
  unfold numHead
  split
  ·simp
  split
  ·simp
  split
  ·simp
  split
  ·exact hr
  ·simp
 have h2 : (Expr.allL (uses x)).length ≤ 1000 := by
  have := (allL_pre [x.a, x.b, x.c] (usesN x.kind.1)).length_le
  rw [allL_len [x.a, x.b, x.c]] at this
  simp only [List.map_cons, List.map_nil, List.sum_cons, List.sum_nil] at this
  unfold uses
  omega
 have h3 : ∀ r : List Expr, (r.flatMap numsE).length ≤ 2 * r.length := by
  intro r
  induction r with
  | nil => simp
  | cons q r ih =>
   rw [List.flatMap_cons, List.length_append, List.length_cons]
   have : (numsE q).length ≤ 2 := by
    unfold numsE
    split
    ·simp
    split
    ·simp
    split
    ·simp
    ·simp
   omega
 have := h3 (Expr.allL (uses x))
 omega
structure Fine (n : Nat) (m : Module) : Prop where
 items : m.items.length ≤ n
 params : m.params.length ≤ n
 sizes : ∀ x ∈ m.items, sz x.a + sz x.b + sz x.c ≤ n
 args : ∀ x ∈ m.items, x.args.length ≤ n
 ports : ∀ x ∈ m.items, x.ports.length ≤ n
theorem small_fine {n : Nat} (hn : n ≤ 900) {l : List Module} (hl : l.length ≤ 1000) (h : ∀ m ∈ l, Fine n m) : Small l :=
 { len := hl, items := fun m hm => Nat.le_trans (h m hm).items hn, nums := fun m hm x hx => numbers_le x (by have := (h m hm).sizes x hx; omega) (by have := (h m hm).args x hx; omega) }
theorem Fine.mono {n k : Nat} (h : n ≤ k) {m : Module} (f : Fine n m) : Fine k m :=
 ⟨Nat.le_trans f.items h, Nat.le_trans f.params h, fun x hx => Nat.le_trans (f.sizes x hx) h, fun x hx => Nat.le_trans (f.args x hx) h, fun x hx => Nat.le_trans (f.ports x hx) h⟩
theorem params_made (x : Raw) : ∀ m ∈ made x, m.params.length ≤ 60 := by
 have : ((made x).all fun m => decide (m.params.length ≤ 60)) = true := by
  rcases made_shape x with ⟨mem, h⟩ | ⟨q, h⟩ | ⟨q, mem, h⟩ | ⟨q, mem, h⟩
  ·rw [h]; cases mem <;> kernel_rfl
  ·rw [h]; cases q <;> kernel_rfl
  ·rw [h]; cases q <;> cases mem <;> kernel_rfl
  ·rw [h]; cases q <;> cases mem <;> kernel_rfl
 intro m hm
 rw [List.all_eq_true] at this
 simpa using this m hm
theorem fine_made (x : Raw) : ∀ m ∈ made x, Fine 60 m := fun m hm => by
 obtain ⟨_, _, h⟩ := tidy_made x
 obtain ⟨⟨_, h1⟩, h2⟩ := h m hm
 refine ⟨by omega, params_made x m hm, fun y hy => ?_, fun y hy => ?_, fun y hy => ?_⟩
 ·have := (h2 y hy).a; have := (h2 y hy).b; have := (h2 y hy).c; omega
 ·have := (h2 y hy).args; omega
 ·have := (h2 y hy).ports; omega
theorem spoilI_fine (k1 k3 : Nat) (s : Str) (x : Item) : sz (spoilI k1 k3 s x).a + sz (spoilI k1 k3 s x).b + sz (spoilI k1 k3 s x).c ≤ sz x.a + sz x.b + sz x.c + 1 ∧ (spoilI k1 k3 s x).args.length = x.args.length ∧ (spoilI k1 k3 s x).ports.length ≤ x.ports.length + 1 := by
 unfold spoilI
 split
 ·exact ⟨Nat.le_succ _, rfl, Nat.le_succ _⟩
 split
 ·exact ⟨Nat.le_succ _, rfl, Nat.le_succ _⟩
 split
 ·exact ⟨Nat.le_succ _, rfl, Nat.le_succ _⟩
 split
 ·refine ⟨?_, rfl, by simp⟩
  simp only [sz_mk, List.map_nil, List.sum_nil]
  omega
 split
 ·refine ⟨?_, rfl, by simp⟩
  simp only [sz_mk, List.map_cons, List.map_nil, List.sum_cons, List.sum_nil]
  omega
 split
 ·exact ⟨Nat.le_succ _, rfl, by simp⟩
 split
 ·exact ⟨Nat.le_succ _, rfl, by simp⟩
 split
 ·exact ⟨Nat.le_succ _, rfl, by simp⟩
 ·exact ⟨Nat.le_succ _, rfl, Nat.le_succ _⟩
theorem spoil_fine {n : Nat} (hn : 2 ≤ n) (k1 k2 k3 : Nat) (s : Str) {m : Module} (h : Fine n m) : Fine (n + 1) (spoilM k1 k2 k3 s m) := by
 have h' := h.mono (Nat.le_succ n)
 unfold spoilM
 split
 ·split
  ·exact ⟨h'.items, h'.params, h'.sizes, h'.args, h'.ports⟩
  split
  ·exact ⟨h'.items, h'.params, h'.sizes, h'.args, h'.ports⟩
  split
  ·exact ⟨h'.items, by have := h.params; simp; omega, h'.sizes, h'.args, h'.ports⟩
  ·refine ⟨by have := h.items; simp; omega, h'.params, fun x hx => ?_, fun x hx => ?_, fun x hx => ?_⟩
   all_goals rcases List.mem_append.1 hx with hx | hx
   ·exact h'.sizes x hx
   ·simp only [List.mem_singleton] at hx
    subst hx
    show sz zExpr + sz zExpr + sz zExpr ≤ n + 1
    unfold zExpr; simp only [sz_mk, List.map_nil, List.sum_nil]; omega
   ·exact h'.args x hx
   ·simp only [List.mem_singleton] at hx
    subst hx
    exact Nat.zero_le _
   ·exact h'.ports x hx
   ·simp only [List.mem_singleton] at hx
    subst hx
    exact Nat.zero_le _
 ·rename_i hc
  have hlen : k2 % m.items.length < m.items.length := Nat.mod_lt _ (by
   have := (not_or.1 hc).1; omega)
  have hg : m.items.getD (k2 % m.items.length) zItem = m.items[k2 % m.items.length] := by simp [List.getD, hlen]
  have hmem : m.items.getD (k2 % m.items.length) zItem ∈ m.items := by rw [hg]; exact List.getElem_mem hlen
  obtain ⟨x0, hx0⟩ : ∃ x0, m.items.getD (k2 % m.items.length) zItem = x0 := ⟨_, rfl⟩
  rw [hx0] at hmem ⊢
  have hall : ∀ x ∈ spoilL k1 k3 s m.items (k2 % m.items.length) x0, x ∈ m.items ∨ x = spoilI k1 k3 s x0 := by
   intro x hx
   unfold spoilL at hx
   rcases List.mem_or_eq_of_mem_set hx with h1 | h1
   ·split at h1
    ·rcases List.mem_append.1 h1 with h2 | h2
     ·exact .inl h2
     ·simp only [List.mem_singleton] at h2; rw [h2]; exact .inl hmem
    ·exact .inl h1
   ·exact .inr h1
  obtain ⟨s1, s2, s3⟩ := spoilI_fine k1 k3 s x0
  refine ⟨?_, h'.params, fun x hx => ?_, fun x hx => ?_, fun x hx => ?_⟩
  ·have := h.items
   show (spoilL _ _ _ _ _ _).length ≤ n + 1
   unfold spoilL
   rw [List.length_set]
   split
   ·simp; omega
   ·omega
  ·rcases hall x hx with h1 | h1
   ·exact h'.sizes x h1
   ·rw [h1]; have := h.sizes x0 hmem; omega
  ·rcases hall x hx with h1 | h1
   ·exact h'.args x h1
   ·rw [h1]; have := h.args x0 hmem; omega
  ·rcases hall x hx with h1 | h1
   ·exact h'.ports x h1
   ·rw [h1]; have := h.ports x0 hmem; omega
end Go.Proofs.Ytejpmjnefokdoaa

/-
 A changed part of a file; how many problems there are.
-/
namespace Go.Proofs.Ytejpmjnefokdoaa
open Go.Aw
theorem spoil_c (f : List Module) (k0 k1 k2 k3 : Nat) (s : Str) (h0 : k0 < 256) (h1 : k1 < 256) (h2 : k2 < 256) (h3 : k3 < 256) (hf : f.length ≤ 1000) (i : Nat) (hi : i < f.length) (hki : k0 % f.length = i) (hF : Fine 800 f[i]) :
  FnP Try.prog 10 [.agg [eModules f], .agg [eU8 k0, eU8 k1, eU8 k2, eU8 k3], eS s] (.d (.agg [eModules (f.set i (spoilM k1 k2 k3 s f[i]))])) [] := by
 by_cases hc : f[i].items.length = 0 ∨ k1 % 16 < 4
 ·exact spoil0_c f k0 k1 k2 k3 s h0 h1 h2 h3 hf i hi hki f[i] rfl hF.items hF.params hc
 ·have hn : k2 % f[i].items.length < f[i].items.length := Nat.mod_lt _ (by have := (not_or.1 hc).1; omega)
  have hg : f[i].items.getD (k2 % f[i].items.length) zItem = f[i].items[k2 % f[i].items.length] := by simp [List.getD, hn]
  have e : spoilM k1 k2 k3 s f[i] = { f[i] with items := spoilL k1 k3 s f[i].items (k2 % f[i].items.length) f[i].items[k2 % f[i].items.length] } := by
   unfold spoilM
   rw [if_neg hc, hg]
  rw [e]
  exact spoil1_c f k0 k1 k2 k3 s h0 h1 h2 h3 hf i hi hki f[i] rfl hF.items _ hn rfl _ rfl (hF.ports _ (List.getElem_mem hn)) (not_or.1 hc).2
theorem check_len {l : List Module} (hS : Small l) (h2 : l.length ≤ 2) : (check l).length ≤ 100000 := by
 have h := (found_ok hS l.length (Nat.le_refl _)).2
 rw [List.take_length] at h
 have e : l.zipIdx.foldl (modF l) [] = found l := rfl
 rw [check_length, ← e]
 omega
end Go.Proofs.Ytejpmjnefokdoaa

/-
 CONTRACTS: a name swapped, a register or wire renamed.
-/
namespace Go.Proofs.Ytejpmjnefokdoaa
open Go.Aw
open Nat renaming reduceEqDiff → pE, reduceLT → pL, reduceAdd → pA, reduceSub → pS, reduceMul → pM, reduceLeDiff → pD
open Int renaming reduceToNat → qT, reduceGT → qG, reduceLT → qL, reduceGE → qH, reduceBNe → qN, reduceBEq → qB, reduceLE → qE, reduceNe → qO, reduceAdd → qA, reduceNeg → qM
set_option maxRecDepth 100000
set_option maxHeartbeats 4000000
mutual
def swapE (o n : Str) : Expr → Expr
 | .mk p s k w a => .mk p (if ((p == 14 || p == 15) && decide (s = o)) = true then n else s) k w (swapL o n a)
def swapL (o n : Str) : List Expr → List Expr
 | [] => []
 | e :: r => swapE o n e :: swapL o n r
end
theorem swapL_map (o n : Str) : ∀ l : List Expr, swapL o n l = l.map (swapE o n)
 | [] => by simp [swapL]
 | e :: r => by simp [swapL, swapL_map o n r]
def swN (o n : Str) (e : Expr) : Str := if ((e.op == 14 || e.op == 15) && decide (e.name = o)) = true then n else e.name
theorem swapE_eq (o n : Str) (e : Expr) : swapE o n e = .mk e.op (swN o n e) e.k e.w (e.args.map (swapE o n)) := by
 cases e; rw [swapE, swapL_map]; rfl
theorem sz_args (e : Expr) : sz e = (e.args.map sz).sum + 1 := by cases e; rw [sz_mk]; rfl
theorem sz_pos (e : Expr) : 0 < sz e := by rw [sz_args]; omega
theorem sum_mem {l : List Expr} : ∀ {x : Expr}, x ∈ l → sz x ≤ (l.map sz).sum := by
 induction l with
 | nil => intro x h; simp at h
 | cons y r ih =>
  intro x h
  rw [List.map_cons, List.sum_cons]
  rcases List.mem_cons.1 h with rfl | h
  ·omega
  ·have := ih h; omega
theorem sum_len : ∀ l : List Expr, l.length ≤ (l.map sz).sum
 | [] => by simp
 | y :: r => by
  have := sum_len r
  have := sz_pos y
  rw [List.map_cons, List.sum_cons, List.length_cons]; omega
theorem rowsOk_exprs (l : List Expr) : rowsOk 7 (l.map eExpr) := by
 intro y hy
 obtain ⟨q, _, rfl⟩ := List.mem_map.1 hy
 simp [eExpr_eq, eI, eS, D.one, Value.oneCell']
theorem swap_c (o n : Str) (m : Nat) : ∀ e : Expr, sz e < m → m ≤ 1000000 → FnP Try.prog 40 [.agg (eExpr e), .agg [eS o, eS n]] (.d (.agg (eExpr (swapE o n e)))) [] := by
 induction m with
 | zero => intro e h; omega
 | succ m ih =>
  intro e hk hm
  obtain ⟨p, s, k, w, a⟩ := e
  rw [sz_mk] at hk
  have hal := sum_len a
  refine FnP.of_eC (own := []) (fun i => if i = 2001 then [.chn] else []) mixed Try.func40 rfl Try.call40 Try.ntmps40 (Nat.le_of_ble_eq_true rfl) Try.results40 (fun hok => ?_)
  rw [swapE_eq]
  by_cases h1 : ((p == 14 || p == 15) && decide (s = o)) = true
  ·have hs : swN o n (.mk p s k w a) = n := by unfold swN; exact if_pos h1
   rw [hs]
   simp (maxSteps := 4000000) only [ZE,↓reduceIte,pE,pL,pA,pS,pM,pD, zN,qT,qG,qL,qH,qN,qB,qE,qO,qA,qM, op_mk, name_mk, k_mk, w_mk, args_mk, h1]

   refine eloop (fun i => if i = 2007 then [.ord ⟨[(0, none), (1, none), (2, none), (3, none), (4, none), (5, none), (6, none), (7, none), (8, none), (9, some []), (10, some [])]⟩] else []) mixed a.length (fun _ => True) (fun i => ([(2, .bp 2 0), (3, .bp 3 0), (4, .bp 4 0), (5, .ar 25 i), (6, .d (eI i))], [(2, .box ((eExpr (.mk p n k w a)).map .d)), (3, .box [.d (eS o), .d (eS n)]), (4, .box [.d (eI 0), .d (eS emp), .d (eI 0), .d (eS emp), .d (eI 0), .d (eS emp), .nils]), (25, .arr 50 7 .flat ((a.take i).map fun x => eExpr (swapE o n x)))])) trivial ?_ ?_ (fun i hi _ => ?_)
   ·simp (maxSteps := 4000000) only [ZE,↓reduceIte,pE,pL,pA,pS,pM,pD, op_mk, name_mk, k_mk, w_mk, args_mk, zExpr, zNum, emp]
   ·simp (maxSteps := 4000000) only [ZE,↓reduceIte,pE,pL,pA,pS,pM,pD, op_mk, name_mk, k_mk, w_mk, args_mk, zExpr, zNum, emp, List.take_zero]
   rcases Nat.lt_or_ge i a.length with h | h
   ·have hw := wrap_succ (show i < 9223372036854775807 by omega)
    have hc := ih a[i] (by have := sum_mem (List.getElem_mem h); omega) (by omega)
    have ht : (a.take (i + 1)).map (fun x => eExpr (swapE o n x)) = (a.take i).map (fun x => eExpr (swapE o n x)) ++ [eExpr (swapE o n a[i])] := by rw [List.take_succ_eq_append_getElem h, List.map_append]; rfl
    rw [ht]
    obtain ⟨z, hz⟩ : ∃ z, swapE o n a[i] = z := ⟨_, rfl⟩
    rw [hz] at hc ⊢
    have hL : ((a.take i).map fun x => eExpr (swapE o n x)).length = i := by rw [List.length_map, List.length_take]; omega
    obtain ⟨R, hR⟩ : ∃ R, (a.take i).map (fun x => eExpr (swapE o n x)) = R := ⟨_, rfl⟩
    rw [hR] at hL ⊢
    simp only [ZE,↓reduceIte,pE,pL,pA,pS,pM,pD] at hc
    simp (maxSteps := 4000000) only [ZE,↓reduceIte,pE,pL,pA,pS,pM,pD, dec_lt h, getD_map h, lt_int h, hw, zN,qT,qG,qL,qH,qN,qB,qE,qO,qA,qM, op_mk, name_mk, k_mk, w_mk, args_mk, zExpr, zNum, emp, hL]
    refine ⟨by kernel_rfl, ECall'.i hc ?_⟩
    simp (maxSteps := 4000000) only [ZE,↓reduceIte,pE,pL,pA,pS,pM,pD, zN,qT,qG,qL,qH,qN,qB,qE,qO,qA,qM, hL, hw, op_mk, name_mk, k_mk, w_mk, args_mk, zExpr, zNum, emp]
    exact ⟨⟨by omega, by omega⟩, h⟩
   ·have : i = a.length := by omega
    subst this
    simp (maxSteps := 4000000) only [ZE,↓reduceIte,pE,pL,pA,pS,pM,pD, dec_ge h, zN,qT,qG,qL,qH,qN,qB,qE,qO,qA,qM, op_mk, name_mk, k_mk, w_mk, args_mk, zExpr, zNum, emp, List.take_length]
    simp only [List.map_map, Function.comp_def, eExpr_eq, eI, eS]
  ·have hs : swN o n (.mk p s k w a) = s := by unfold swN; exact if_neg h1
   rw [hs]
   have h1' := Bool.eq_false_iff.2 h1
   simp (maxSteps := 4000000) only [ZE,↓reduceIte,pE,pL,pA,pS,pM,pD, zN,qT,qG,qL,qH,qN,qB,qE,qO,qA,qM, op_mk, name_mk, k_mk, w_mk, args_mk, h1']
   refine eloop (fun i => if i = 2007 then [.ord ⟨[(0, none), (1, none), (2, none), (3, none), (4, none), (5, none), (6, none), (7, none), (8, none), (9, some []), (10, some [])]⟩] else []) mixed a.length (fun _ => True) (fun i => ([(2, .bp 2 0), (3, .bp 3 0), (4, .bp 4 0), (5, .ar 25 i), (6, .d (eI i))], [(2, .box ((eExpr (.mk p s k w a)).map .d)), (3, .box [.d (eS o), .d (eS n)]), (4, .box [.d (eI 0), .d (eS emp), .d (eI 0), .d (eS emp), .d (eI 0), .d (eS emp), .nils]), (25, .arr 50 7 .flat ((a.take i).map fun x => eExpr (swapE o n x)))])) trivial ?_ ?_ (fun i hi _ => ?_)
   ·simp (maxSteps := 4000000) only [ZE,↓reduceIte,pE,pL,pA,pS,pM,pD, op_mk, name_mk, k_mk, w_mk, args_mk, zExpr, zNum, emp]
   ·simp (maxSteps := 4000000) only [ZE,↓reduceIte,pE,pL,pA,pS,pM,pD, op_mk, name_mk, k_mk, w_mk, args_mk, zExpr, zNum, emp, List.take_zero]
   rcases Nat.lt_or_ge i a.length with h | h
   ·have hw := wrap_succ (show i < 9223372036854775807 by omega)
    have hc := ih a[i] (by have := sum_mem (List.getElem_mem h); omega) (by omega)
    have ht : (a.take (i + 1)).map (fun x => eExpr (swapE o n x)) = (a.take i).map (fun x => eExpr (swapE o n x)) ++ [eExpr (swapE o n a[i])] := by rw [List.take_succ_eq_append_getElem h, List.map_append]; rfl
    rw [ht]
    obtain ⟨z, hz⟩ : ∃ z, swapE o n a[i] = z := ⟨_, rfl⟩
    rw [hz] at hc ⊢
    have hL : ((a.take i).map fun x => eExpr (swapE o n x)).length = i := by rw [List.length_map, List.length_take]; omega
    obtain ⟨R, hR⟩ : ∃ R, (a.take i).map (fun x => eExpr (swapE o n x)) = R := ⟨_, rfl⟩
    rw [hR] at hL ⊢
    simp only [ZE,↓reduceIte,pE,pL,pA,pS,pM,pD] at hc
    simp (maxSteps := 4000000) only [ZE,↓reduceIte,pE,pL,pA,pS,pM,pD, dec_lt h, getD_map h, lt_int h, hw, zN,qT,qG,qL,qH,qN,qB,qE,qO,qA,qM, op_mk, name_mk, k_mk, w_mk, args_mk, zExpr, zNum, emp, hL]
    refine ⟨by kernel_rfl, ECall'.i hc ?_⟩
    simp (maxSteps := 4000000) only [ZE,↓reduceIte,pE,pL,pA,pS,pM,pD, zN,qT,qG,qL,qH,qN,qB,qE,qO,qA,qM, hL, hw, op_mk, name_mk, k_mk, w_mk, args_mk, zExpr, zNum, emp]
    exact ⟨⟨by omega, by omega⟩, h⟩
   ·have : i = a.length := by omega
    subst this
    simp (maxSteps := 4000000) only [ZE,↓reduceIte,pE,pL,pA,pS,pM,pD, dec_ge h, zN,qT,qG,qL,qH,qN,qB,qE,qO,qA,qM, op_mk, name_mk, k_mk, w_mk, args_mk, zExpr, zNum, emp, List.take_length]
    simp only [List.map_map, Function.comp_def, eExpr_eq, eI, eS]
end Go.Proofs.Ytejpmjnefokdoaa

/-
 CONTRACTS: all expressions within expressions, as a list.
-/
namespace Go.Proofs.Ytejpmjnefokdoaa
open Go.Aw
open Nat renaming reduceEqDiff → pE, reduceLT → pL, reduceAdd → pA, reduceSub → pS, reduceMul → pM, reduceLeDiff → pD
open Int renaming reduceToNat → qT, reduceGT → qG, reduceLT → qL, reduceGE → qH, reduceBNe → qN, reduceBEq → qB, reduceLE → qE, reduceNe → qO, reduceAdd → qA, reduceNeg → qM
set_option maxRecDepth 100000
set_option maxHeartbeats 4000000
theorem allL_args_le (l : List Expr) (i : Nat) (h : i < l.length) : (Expr.allL (l.take i)).length + 1 + (Expr.allL l[i].args).length ≤ (Expr.allL l).length := by
 have h1 := (allL_pre l (i + 1)).length_le
 rw [allL_step l i h, List.length_append, List.length_cons] at h1
 omega
theorem all_c (m : Nat) : ∀ l : List Expr, (Expr.allL l).length < m → m ≤ 10000000 → FnP Try.prog 17 [eExprs l] (.d (eExprs (Expr.allL l))) [] := by
 induction m with
 | zero => intro l h; omega
 | succ m ih =>
  intro l hl hm
  refine FnP.of_eC (own := []) (fun _ => []) mixed Try.func17 rfl Try.call17 Try.ntmps17 (Nat.le_of_ble_eq_true rfl) Try.results17 (fun hok => ?_)
  have hll := (ok_map (okL_cons hok).1).1
  simp (maxSteps := 4000000) only [ZE,↓reduceIte,pE,pL,pA,pS,pM,pD, zN,qT,qG,qL,qH,qN,qB,qE,qO,qA,qM]
  refine eloop (fun _ => []) mixed l.length (fun _ => True) (fun i => ([(0, .d (eExprs l)), (3, .ar 5 (Expr.allL (l.take i)).length), (4, .d (eI i))], [(5, .arr 50 7 .flat ((Expr.allL (l.take i)).map eExpr))])) trivial ?_ ?_ (fun i hi _ => ?_)
  ·simp only [ZE,↓reduceIte,pE,pL,pA,pS,pM,pD, List.take_zero, Expr.allL, List.length_nil]
  ·simp only [ZE,↓reduceIte,pE,pL,pA,pS,pM,pD, List.take_zero, Expr.allL]
  rcases Nat.lt_or_ge i l.length with h | h
  ·have hw := wrap_succ (show i < 9223372036854775807 by omega)
   have hle := allL_args_le l i h
   have hc := ih l[i].args (by omega) (by omega)
   rw [allL_step l i h]
   obtain ⟨R, hR⟩ : ∃ R, Expr.allL (l.take i) = R := ⟨_, rfl⟩
   obtain ⟨L, hL⟩ : ∃ L, Expr.allL l[i].args = L := ⟨_, rfl⟩
   rw [hR, hL] at hle
   rw [hL] at hc
   rw [hR, hL]
   have rl := rowsOk_exprs L
   simp only [ZE,↓reduceIte,pE,pL,pA,pS,pM,pD] at hc
   simp (maxSteps := 4000000) only [ZE,↓reduceIte,pE,pL,pA,pS,pM,pD, dec_lt h, getD_map h, lt_int h, hw, zN,qT,qG,qL,qH,qN,qB,qE,qO,qA,qM]
   refine ⟨⟨by omega, by omega⟩, EFn.p ?_⟩
   simp only [ZE,↓reduceIte,pE,pL,pA,pS,pM,pD, zN,qT,qG,qL,qH,qN,qB,qE,qO,qA,qM]
   refine ECall.i hc ?_
   simp only [ZE,↓reduceIte,pE,pL,pA,pS,pM,pD, zN,qT,qG,qL,qH,qN,qB,qE,qO,qA,qM, hw, List.length_append, List.length_cons, List.map_append, List.map_cons]
   exact ⟨⟨rl, by omega, by omega⟩, h, by rw [show R.length + 1 + L.length = R.length + (L.length + 1) by omega], by rw [List.append_assoc]; rfl⟩
  ·have : i = l.length := by omega
   subst this
   simp (maxSteps := 4000000) only [ZE,↓reduceIte,pE,pL,pA,pS,pM,pD, dec_ge h, zN,qT,qG,qL,qH,qN,qB,qE,qO,qA,qM, List.take_length]
end Go.Proofs.Ytejpmjnefokdoaa

/-
 PLAIN LAW: an item appended to a module leaves the problems of the others.
-/
namespace Go.Proofs.Ytejpmjnefokdoaa
open Go.Aw
def appI (l : List Module) (i : Nat) (z : Item) : List Module := l.set i { l.getD i zMod with items := (l.getD i zMod).items ++ [z] }
theorem appI_names (l : List Module) (i : Nat) (z : Item) : (appI l i z).map (·.name) = l.map (·.name) := by
 unfold appI
 rw [List.map_set]
 apply List.ext_getElem
 ·simp
 ·intro j h1 h2
  rw [List.getElem_set]
  split
  ·rename_i e
   subst e
   rw [List.getElem_map]
   have hj : i < l.length := by simpa using h2
   simp [List.getD, hj]
  ·rfl
theorem appI_at (l : List Module) (i : Nat) (z : Item) (j : Nat) (h : j ≠ i) : (appI l i z).getD j zMod = l.getD j zMod := by
 unfold appI
 rw [List.getD_eq_getElem?_getD, List.getElem?_set_ne (fun e => h e.symm), List.getD_eq_getElem?_getD]
theorem appI_self {l : List Module} {i : Nat} (hi : i < l.length) (z : Item) : (appI l i z).getD i zMod = { l.getD i zMod with items := (l.getD i zMod).items ++ [z] } := by
 unfold appI
 rw [List.getD_eq_getElem?_getD, List.getElem?_set_self hi]; rfl
theorem pe_app {m : Module} {z : Item} (h1 : z.kind.1 ≠ 1) (h2 : z.kind.1 ≠ 2) : PE m { m with items := m.items ++ [z] } := by
 have hk : has [1, 2] z.kind.1 = false := by simp [has, h1, h2]
 refine ⟨fun n => ?_, ?_, rfl⟩
 ·unfold pk
  rw [kindOf_eq, kindOf_eq]
  simp only [List.find?_append]
  cases m.items.find? (decl n) with
  | some y => rfl
  | none =>
   cases hd : decl n z with
   | true => rw [List.find?_cons_of_pos hd]; simp [has, zItem, h1, h2]
   | false => rw [List.find?_cons_of_neg (by simp [hd])]; rfl
 ·unfold portsM
  rw [List.foldl_append]
  have : isPort z = false := by simp [isPort, h1, h2]
  simp [portStep, this]
theorem alike_app {l : List Module} {i : Nat} (hi : i < l.length) {z : Item} (h1 : z.kind.1 ≠ 1) (h2 : z.kind.1 ≠ 2) : Alike l (appI l i z) := by
 intro n
 unfold modOf
 rw [findM_names (appI_names l i z)]
 cases findM l n with
 | none => exact trivial
 | some k =>
  simp only [Option.map_some]
  by_cases hk : k.toNat = i
  ·rw [hk, appI_self hi]
   exact pe_app h1 h2
  ·rw [appI_at _ _ _ _ hk]
   exact PE.rfl' _
theorem instOf_app (l : List Module) (i : Nat) (z x : Item) : instOf (appI l i z) x = instOf l x := by
 unfold instOf
 rw [findM_names (appI_names l i z)]
theorem reachI_al {l l' : List Module} (hi : ∀ x, instOf l' x = instOf l x) {rec rec' : Nat → List Nat → Bool × List Nat} {to : Nat} (hr : ∀ i s, rec' i s = rec i s) : ∀ (r : List Item) (s : List Nat), reachI l' rec' to r s = reachI l rec to r s
 | [], _ => rfl
 | x :: r, s => by
  have ih := reachI_al hi (to := to) hr r
  unfold reachI
  rw [hi]
  cases instOf l x with
  | none => exact ih s
  | some i =>
   simp only
   rw [ih, hr]
   split
   ·rfl
   split
   ·rfl
   cases rec i (s ++ [i]) with
   | mk b s' =>
    cases b
    ·exact ih s'
    ·rfl
theorem reachI_end {l : List Module} {rec : Nat → List Nat → Bool × List Nat} {to : Nat} {z : Item} (hz : instOf l z = none) : ∀ (r : List Item) (s : List Nat), reachI l rec to (r ++ [z]) s = reachI l rec to r s
 | [], s => by simp [reachI, hz]
 | x :: r, s => by
  have ih := reachI_end (rec := rec) (to := to) hz r
  rw [List.cons_append]
  unfold reachI
  cases instOf l x with
  | none => exact ih s
  | some i =>
   simp only
   rw [ih]
   split
   ·rfl
   split
   ·rfl
   cases rec i (s ++ [i]) with
   | mk b s' =>
    cases b
    ·exact ih s'
    ·rfl
theorem reach_app {l : List Module} {i : Nat} (hi : i < l.length) {z : Item} (h9 : z.kind.1 ≠ 9) (to : Nat) : ∀ (n k : Nat) (s : List Nat), reach (appI l i z) to n k s = reach l to n k s
 | 0, _, _ => rfl
 | n + 1, k, s => by
  have ih := reach_app hi h9 to n
  have hz : instOf l z = none := by unfold instOf; rw [if_neg h9]
  show reachI (appI l i z) (reach (appI l i z) to n) to ((appI l i z).getD k zMod).items s = reachI l (reach l to n) to (l.getD k zMod).items s
  rw [reachI_al (instOf_app l i z) ih]
  by_cases hk : k = i
  ·subst hk
   rw [appI_self hi]
   exact reachI_end hz _ _
  ·rw [appI_at _ _ _ _ hk]
theorem loops_app {l : List Module} {i : Nat} (hi : i < l.length) {z : Item} (h9 : z.kind.1 ≠ 9) (k : Nat) : loops (appI l i z) k = loops l k := by
 unfold loops
 have : (appI l i z).length = l.length := by simp [appI]
 rw [this, reach_app hi h9]
theorem isHead_app {l : List Module} {i : Nat} (hi : i < l.length) {z : Item} (h9 : z.kind.1 ≠ 9) (k : Nat) (m : Module) (c : Int) : isHead (appI l i z) k m c ↔ isHead l k m c := by
 unfold isHead badHead badHd
 rw [loops_app hi h9, findM_names (appI_names l i z)]
def others (i : Nat) (l : List Problem) : List Problem := l.filter fun p => p.module != (i : Int)
theorem modHas_app {l : List Module} {i : Nat} (hi : i < l.length) {z : Item} (h1 : z.kind.1 ≠ 1) (h2 : z.kind.1 ≠ 2) (h9 : z.kind.1 ≠ 9) (k : Nat) (m : Module) (q : Problem) : modHas (appI l i z) k m q ↔ modHas l k m q := by
 have al := alike_app hi h1 h2
 unfold modHas
 simp only [isHead_app hi h9, isCode_al al]
theorem others_app {l : List Module} {i : Nat} (hi : i < l.length) {z : Item} (h1 : z.kind.1 ≠ 1) (h2 : z.kind.1 ≠ 2) (h9 : z.kind.1 ≠ 9) : others i (check l) = others i (check (appI l i z)) := by
 unfold others
 have hlen : (appI l i z).length = l.length := by simp [appI]
 refine sorted_ext ((nodup_check _).filter _) ((nodup_check _).filter _) ((sortP_sorted _).filter _) ((sortP_sorted _).filter _) (fun q => ?_)
 rw [List.mem_filter, List.mem_filter, mem_check, mem_check, mem_found, mem_found]
 have key : ∀ k (hk : k < l.length) (hk' : k < (appI l i z).length), k ≠ i → (appI l i z)[k] = l[k] := by
  intro k hk hk' hki
  have := appI_at l i z k hki
  rwa [List.getD_eq_getElem?_getD, List.getD_eq_getElem?_getD, List.getElem?_eq_getElem hk, List.getElem?_eq_getElem hk'] at this
 constructor
 ·rintro ⟨⟨k, hk, h⟩, hm⟩
  have hki : k ≠ i := fun e => by
   have := h.1
   simp only [bne_iff_ne, ne_eq] at hm
   exact hm (by rw [this, e])
  refine ⟨⟨k, by omega, ?_⟩, hm⟩
  rw [key k hk (by omega) hki, modHas_app hi h1 h2 h9]
  exact h
 ·rintro ⟨⟨k, hk, h⟩, hm⟩
  have hki : k ≠ i := fun e => by
   have := h.1
   simp only [bne_iff_ne, ne_eq] at hm
   exact hm (by rw [this, e])
  refine ⟨⟨k, by omega, ?_⟩, hm⟩
  rw [key k (by omega) hk hki, modHas_app hi h1 h2 h9] at h
  exact h
end Go.Proofs.Ytejpmjnefokdoaa

/-
 CONTRACTS: CheckLocality.
-/
namespace Go.Proofs.Ytejpmjnefokdoaa
open Go.Aw
open Nat renaming reduceEqDiff → pE, reduceLT → pL, reduceAdd → pA, reduceSub → pS, reduceMul → pM, reduceLeDiff → pD
open Int renaming reduceToNat → qT, reduceGT → qG, reduceLT → qL, reduceGE → qH, reduceBNe → qN, reduceBEq → qB, reduceLE → qE, reduceNe → qO, reduceAdd → qA, reduceNeg → qM
set_option maxRecDepth 100000
set_option maxHeartbeats 40000000
theorem others_step (i : Nat) (l : List Problem) (k : Nat) (h : k < l.length) : others i (l.take (k + 1)) = if (l[k].module != (i : Int)) = true then others i (l.take k) ++ [l[k]] else others i (l.take k) := by
 unfold others
 rw [List.take_succ_eq_append_getElem h, List.filter_append]
 by_cases hm : (l[k].module != (i : Int)) = true
 ·rw [if_pos hm]; simp [hm]
 ·rw [if_neg hm]; simp [hm]
theorem others_len (i : Nat) (l : List Problem) (k : Nat) : (others i (l.take k)).length ≤ l.length := by
 have h1 := List.length_filter_le (fun p : Problem => p.module != (i : Int)) (l.take k)
 unfold others
 rw [List.length_take] at h1
 omega
def sQ : Str := st [113]
theorem local_w (x : Raw) (k0 k1 k2 k3 : Nat) (z : Item) (h3 : k3 < 256) (f F : List Module) (i : Nat)
  (hc : FnP Try.prog 9 [eRaw x] (.d (.agg [eModules f])) [])
  (hs : FnP Try.prog 10 [.agg [eModules f], .agg [eU8 k0, eU8 k1, eU8 k2, eU8 k3], eS sQ] (.d (.agg [eModules F])) [])
  (hl : F.length ≤ 1000) (hi : i < F.length) (hki : k3 % F.length = i) (m : Module) (hm : F[i] = m) (hml : m.items.length ≤ 800)
  (ha : FnP Try.prog 17 [eExprs [z.a, z.b, z.c]] (.d (eExprs (Expr.allL [z.a, z.b, z.c]))) [])
  (c1 : z.kind.1 ≠ 1 → z.kind.1 ≠ 2 → z.kind.1 ≠ 9 → (Expr.allL [z.a, z.b, z.c]).length ≤ 100 → FnP Try.prog 14 [.agg [eModules F]] (.d (eProbs (check F))) [] ∧ FnP Try.prog 14 [.agg [eModules (F.set i { m with items := m.items ++ [z] })]] (.d (eProbs (check (F.set i { m with items := m.items ++ [z] })))) [] ∧ (check F).length ≤ 100000 ∧ (check (F.set i { m with items := m.items ++ [z] })).length ≤ 100000 ∧ samePs (others i (check F)) (others i (check (F.set i { m with items := m.items ++ [z] }))) = true) :
  FnP Try.prog 4 [eRaw x, .agg [eU8 k0, eU8 k1, eU8 k2, eU8 k3], .agg (eItem z)] (.d (eB true)) [] := by
 refine FnP.of_eC (own := []) (fun i => if i = 2004 then [.flt ⟨[(0, none), (1, none), (2, none), (3, none), (5, some [])]⟩ ⟨[4], [(5, [4])]⟩] else if i = 2010 then [.flt ⟨[(0, none), (1, none), (2, none), (4, none), (5, none), (3, some [4, 5]), (6, some []), (7, none), (8, some [])]⟩ ⟨[], []⟩] else if i = 10 then [.keep [7, 8, 9, 10, 11], .frz 77] else if i = 11 then [.keep [7, 8, 9, 10], .frz 64] else if i = 2012 then [.ord ⟨[(0, none), (1, none), (2, none), (3, none), (4, some []), (5, some [])]⟩] else []) mixed Try.func4 rfl Try.call4 Try.ntmps4 (Nat.le_of_ble_eq_true rfl) Try.results4 (fun hok => ?_)
 have ex := examples_c
 simp only [ZE,↓reduceIte,pE,pL,pA,pS,pM,pD, eRaw, sQ, st] at ex hc hs
 have e3 : IntKind.i64.wrap (k3 : Int) = (k3 : Int) := wrap_id (by omega) (by omega)
 have r3 : (k3 : Int).tmod (F.length : Int) = (i : Int) := by rw [← hki]; exact (Int.ofNat_tmod _ _).symm
 have z1 : ¬ (F.length : Int) = 0 := by omega
 have z2 : ((F.length : Int) == 0) = false := by rw [beq_eq_false_iff_ne]; omega
 by_cases q1 : z.kind.1 = 1
 ·have g1 : (z.kind.1 == 1) = true := by simp [q1]
  simp (maxSteps := 4000000) only [ZE,↓reduceIte,pE,pL,pA,pS,pM,pD, zN,qT,qG,qL,qH,qN,qB,qE,qO,qA,qM, eRaw]
  refine EFn.p ?_
  simp only [ZE,↓reduceIte,pE,pL,pA,pS,pM,pD, zN,qT,qG,qL,qH,qN,qB,qE,qO,qA,qM]
  refine ECall.i ex ?_
  simp only [ZE,↓reduceIte,pE,pL,pA,pS,pM,pD, zN,qT,qG,qL,qH,qN,qB,qE,qO,qA,qM]
  refine ⟨by kernel_rfl, ECall'.i hc ?_⟩
  simp only [ZE,↓reduceIte,pE,pL,pA,pS,pM,pD, zN,qT,qG,qL,qH,qN,qB,qE,qO,qA,qM]
  refine ECall'.i hs ?_
  simp only [ZE,↓reduceIte,pE,pL,pA,pS,pM,pD, zN,qT,qG,qL,qH,qN,qB,qE,qO,qA,qM, g1]
 have g1 : (z.kind.1 == 1) = false := by simpa using q1
 by_cases q2 : z.kind.1 = 2
 ·have g2 : (z.kind.1 == 2) = true := by simp [q2]
  simp (maxSteps := 4000000) only [ZE,↓reduceIte,pE,pL,pA,pS,pM,pD, zN,qT,qG,qL,qH,qN,qB,qE,qO,qA,qM, eRaw]
  refine EFn.p ?_
  simp only [ZE,↓reduceIte,pE,pL,pA,pS,pM,pD, zN,qT,qG,qL,qH,qN,qB,qE,qO,qA,qM]
  refine ECall.i ex ?_
  simp only [ZE,↓reduceIte,pE,pL,pA,pS,pM,pD, zN,qT,qG,qL,qH,qN,qB,qE,qO,qA,qM]
  refine ⟨by kernel_rfl, ECall'.i hc ?_⟩
  simp only [ZE,↓reduceIte,pE,pL,pA,pS,pM,pD, zN,qT,qG,qL,qH,qN,qB,qE,qO,qA,qM]
  refine ECall'.i hs ?_
  simp only [ZE,↓reduceIte,pE,pL,pA,pS,pM,pD, zN,qT,qG,qL,qH,qN,qB,qE,qO,qA,qM, g1, g2]
 have g2 : (z.kind.1 == 2) = false := by simpa using q2
 by_cases q9 : z.kind.1 = 9
 ·have g9 : (z.kind.1 == 9) = true := by simp [q9]
  simp (maxSteps := 4000000) only [ZE,↓reduceIte,pE,pL,pA,pS,pM,pD, zN,qT,qG,qL,qH,qN,qB,qE,qO,qA,qM, eRaw]
  refine EFn.p ?_
  simp only [ZE,↓reduceIte,pE,pL,pA,pS,pM,pD, zN,qT,qG,qL,qH,qN,qB,qE,qO,qA,qM]
  refine ECall.i ex ?_
  simp only [ZE,↓reduceIte,pE,pL,pA,pS,pM,pD, zN,qT,qG,qL,qH,qN,qB,qE,qO,qA,qM]
  refine ⟨by kernel_rfl, ECall'.i hc ?_⟩
  simp only [ZE,↓reduceIte,pE,pL,pA,pS,pM,pD, zN,qT,qG,qL,qH,qN,qB,qE,qO,qA,qM]
  refine ECall'.i hs ?_
  simp only [ZE,↓reduceIte,pE,pL,pA,pS,pM,pD, zN,qT,qG,qL,qH,qN,qB,qE,qO,qA,qM, g1, g2, g9]
 have g9 : (z.kind.1 == 9) = false := by simpa using q9
 by_cases hL : (Expr.allL [z.a, z.b, z.c]).length ≤ 100
 ·obtain ⟨d1, d2, l1, l2, sm⟩ := c1 q1 q2 q9 hL
  have d100 : decide (((Expr.allL [z.a, z.b, z.c]).length : Int) > 100) = false := by simp; omega
  obtain ⟨L, hLe⟩ : ∃ L, Expr.allL [z.a, z.b, z.c] = L := ⟨_, rfl⟩
  rw [hLe] at ha d100
  obtain ⟨A, hA⟩ : ∃ A, check F = A := ⟨_, rfl⟩
  obtain ⟨B, hB⟩ : ∃ B, check (F.set i { m with items := m.items ++ [z] }) = B := ⟨_, rfl⟩
  rw [hA] at d1 l1 sm
  rw [hB] at d2 l2 sm
  have sc := same_c (others i A) (others i B)
  rw [sm] at sc
  simp only [ZE,↓reduceIte,pE,pL,pA,pS,pM,pD, List.map_set, List.map_append, List.map_cons, List.map_nil] at d1 d2 sc ha
  simp (maxSteps := 4000000) only [ZE,↓reduceIte,pE,pL,pA,pS,pM,pD, zN,qT,qG,qL,qH,qN,qB,qE,qO,qA,qM, eRaw]
  refine EFn.p ?_
  simp only [ZE,↓reduceIte,pE,pL,pA,pS,pM,pD, zN,qT,qG,qL,qH,qN,qB,qE,qO,qA,qM]
  refine ECall.i ex ?_
  simp only [ZE,↓reduceIte,pE,pL,pA,pS,pM,pD, zN,qT,qG,qL,qH,qN,qB,qE,qO,qA,qM]
  refine ⟨by kernel_rfl, ECall'.i hc ?_⟩
  simp only [ZE,↓reduceIte,pE,pL,pA,pS,pM,pD, zN,qT,qG,qL,qH,qN,qB,qE,qO,qA,qM]
  refine ECall'.i hs ?_
  simp only [ZE,↓reduceIte,pE,pL,pA,pS,pM,pD, zN,qT,qG,qL,qH,qN,qB,qE,qO,qA,qM, g1, g2, g9]
  refine EFn.p ?_
  simp only [ZE,↓reduceIte,pE,pL,pA,pS,pM,pD, zN,qT,qG,qL,qH,qN,qB,qE,qO,qA,qM]
  refine ECall.i ha ?_
  simp (maxSteps := 8000000) only [ZE,↓reduceIte,pE,pL,pA,pS,pM,pD, zN,qT,qG,qL,qH,qN,qB,qE,qO,qA,qM, d100, z2, e3, r3, z1, getD_map hi, lt_int hi, hm, List.length_map, List.length_append, List.length_cons, List.length_nil, List.length_set]
  refine ⟨⟨rowsOk_mods F, by omega, by omega⟩, hi, by kernel_rfl, ⟨rowsOk_items m.items, by omega, by omega⟩, ⟨by omega, by omega⟩, hi, by kernel_rfl, ECall'.i d1 ?_⟩
  simp only [ZE,↓reduceIte,pE,pL,pA,pS,pM,pD, zN,qT,qG,qL,qH,qN,qB,qE,qO,qA,qM]
  refine ECall'.i d2 ?_
  simp only [ZE,↓reduceIte,pE,pL,pA,pS,pM,pD, zN,qT,qG,qL,qH,qN,qB,qE,qO,qA,qM]
  have hoA := others_len i A
  have hoB := others_len i B
  refine eloop (fun _ => []) mixed A.length (fun _ => True) (fun k => ([(7, .d (eB true)), (9, .d (eI i)), (12, .d (eProbs A)), (13, .d (eProbs B)), (14, .ar 91 (others i (A.take k)).length), (15, .ar 92 0), (16, .d (eI k))], [(91, .arr 42 3 .flat ((others i (A.take k)).map eProb)), (92, .arr 42 3 .flat [])])) trivial ?_ ?_ (fun k hk _ => ?_)
  ·simp only [ZE,↓reduceIte,pE,pL,pA,pS,pM,pD, List.take_zero, others, List.filter_nil, List.length_nil]
  ·simp only [ZE,↓reduceIte,pE,pL,pA,pS,pM,pD, List.take_zero, others, List.filter_nil, List.map_nil]
  rcases Nat.lt_or_ge k A.length with h | h
  ·have hw := wrap_succ (show k < 9223372036854775807 by omega)
   have ho := hoA k
   rw [others_step _ _ _ h]
   obtain ⟨R, hR⟩ : ∃ R, others i (A.take k) = R := ⟨_, rfl⟩
   rw [hR] at ho ⊢
   rcases Bool.eq_false_or_eq_true (A[k].module != (i : Int)) with hm' | hm'
   ·rw [if_pos hm']
    simp (maxSteps := 4000000) only [ZE,↓reduceIte,pE,pL,pA,pS,pM,pD, dec_lt h, getD_map h, lt_int h, hw, zN,qT,qG,qL,qH,qN,qB,qE,qO,qA,qM, hm', List.length_append, List.length_cons, List.length_nil, List.map_append, List.map_cons, List.map_nil]
    exact ⟨⟨by omega, by omega⟩, h⟩
   ·rw [if_neg (by rw [hm']; simp)]
    simp (maxSteps := 4000000) only [ZE,↓reduceIte,pE,pL,pA,pS,pM,pD, dec_lt h, getD_map h, lt_int h, hw, zN,qT,qG,qL,qH,qN,qB,qE,qO,qA,qM, hm']
    exact h
  ·have : k = A.length := by omega
   subst this
   simp (maxSteps := 4000000) only [ZE,↓reduceIte,pE,pL,pA,pS,pM,pD, dec_ge h, zN,qT,qG,qL,qH,qN,qB,qE,qO,qA,qM, List.take_length]
   refine eloop (fun _ => []) mixed B.length (fun _ => True) (fun k => ([(7, .d (eB true)), (9, .d (eI i)), (13, .d (eProbs B)), (14, .ar 91 (others i A).length), (15, .ar 92 (others i (B.take k)).length), (17, .d (eI k))], [(91, .arr 42 3 .flat ((others i A).map eProb)), (92, .arr 42 3 .flat ((others i (B.take k)).map eProb))])) trivial ?_ ?_ (fun k hk _ => ?_)
   ·simp only [ZE,↓reduceIte,pE,pL,pA,pS,pM,pD, List.take_zero, others, List.filter_nil, List.length_nil]
   ·simp only [ZE,↓reduceIte,pE,pL,pA,pS,pM,pD, List.take_zero, others, List.filter_nil, List.map_nil]
   rcases Nat.lt_or_ge k B.length with h | h
   ·have hw := wrap_succ (show k < 9223372036854775807 by omega)
    have ho := hoB k
    rw [others_step _ _ _ h]
    obtain ⟨R, hR⟩ : ∃ R, others i (B.take k) = R := ⟨_, rfl⟩
    rw [hR] at ho ⊢
    rcases Bool.eq_false_or_eq_true (B[k].module != (i : Int)) with hm' | hm'
    ·rw [if_pos hm']
     simp (maxSteps := 4000000) only [ZE,↓reduceIte,pE,pL,pA,pS,pM,pD, dec_lt h, getD_map h, lt_int h, hw, zN,qT,qG,qL,qH,qN,qB,qE,qO,qA,qM, hm', List.length_append, List.length_cons, List.length_nil, List.map_append, List.map_cons, List.map_nil]
     exact ⟨⟨by omega, by omega⟩, h⟩
    ·rw [if_neg (by rw [hm']; simp)]
     simp (maxSteps := 4000000) only [ZE,↓reduceIte,pE,pL,pA,pS,pM,pD, dec_lt h, getD_map h, lt_int h, hw, zN,qT,qG,qL,qH,qN,qB,qE,qO,qA,qM, hm']
     exact h
   ·have : k = B.length := by omega
    subst this
    simp (maxSteps := 4000000) only [ZE,↓reduceIte,pE,pL,pA,pS,pM,pD, dec_ge h, zN,qT,qG,qL,qH,qN,qB,qE,qO,qA,qM, List.take_length]
    refine EFn.p ?_
    simp only [ZE,↓reduceIte,pE,pL,pA,pS,pM,pD, zN,qT,qG,qL,qH,qN,qB,qE,qO,qA,qM, List.length_map]
    refine ECall.i sc ?_
    simp only [ZE,↓reduceIte,pE,pL,pA,pS,pM,pD, zN,qT,qG,qL,qH,qN,qB,qE,qO,qA,qM]
 ·have d100 : decide (((Expr.allL [z.a, z.b, z.c]).length : Int) > 100) = true := by simp; omega
  obtain ⟨L, hLe⟩ : ∃ L, Expr.allL [z.a, z.b, z.c] = L := ⟨_, rfl⟩
  rw [hLe] at ha d100
  simp only [ZE,↓reduceIte,pE,pL,pA,pS,pM,pD] at ha
  simp (maxSteps := 4000000) only [ZE,↓reduceIte,pE,pL,pA,pS,pM,pD, zN,qT,qG,qL,qH,qN,qB,qE,qO,qA,qM, eRaw]
  refine EFn.p ?_
  simp only [ZE,↓reduceIte,pE,pL,pA,pS,pM,pD, zN,qT,qG,qL,qH,qN,qB,qE,qO,qA,qM]
  refine ECall.i ex ?_
  simp only [ZE,↓reduceIte,pE,pL,pA,pS,pM,pD, zN,qT,qG,qL,qH,qN,qB,qE,qO,qA,qM]
  refine ⟨by kernel_rfl, ECall'.i hc ?_⟩
  simp only [ZE,↓reduceIte,pE,pL,pA,pS,pM,pD, zN,qT,qG,qL,qH,qN,qB,qE,qO,qA,qM]
  refine ECall'.i hs ?_
  simp only [ZE,↓reduceIte,pE,pL,pA,pS,pM,pD, zN,qT,qG,qL,qH,qN,qB,qE,qO,qA,qM, g1, g2, g9]
  refine EFn.p ?_
  simp only [ZE,↓reduceIte,pE,pL,pA,pS,pM,pD, zN,qT,qG,qL,qH,qN,qB,qE,qO,qA,qM]
  refine ECall.i ha ?_
  simp only [ZE,↓reduceIte,pE,pL,pA,pS,pM,pD, zN,qT,qG,qL,qH,qN,qB,qE,qO,qA,qM, d100, List.length_map]
end Go.Proofs.Ytejpmjnefokdoaa

/-
 CheckLocality answers true.
-/
namespace Go.Proofs.Ytejpmjnefokdoaa
open Go.Aw
theorem numbers_z {z : Item} (h9 : z.kind.1 ≠ 9) (hL : (Expr.allL [z.a, z.b, z.c]).length ≤ 100) : (numbers z).length ≤ 2000000 := by
 have e : numbers z = numbers { z with args := [] } := by
  unfold numbers numHead uses
  simp [h9]
 rw [e]
 refine numbers_le _ ?_ (Nat.zero_le _)
 rw [allL_len] at hL
 simp only [List.map_cons, List.map_nil, List.sum_cons, List.sum_nil] at hL
 show sz z.a + sz z.b + sz z.c ≤ 1000
 omega
theorem local_c (x : Raw) (hx : x.ok) (k0 k1 k2 k3 : Nat) (h0 : k0 < 256) (h1 : k1 < 256) (h2 : k2 < 256) (h3 : k3 < 256) (z : Item) (hz : (Expr.allL [z.a, z.b, z.c]).length ≤ 2000000) : FnP Try.prog 4 [eRaw x, .agg [eU8 k0, eU8 k1, eU8 k2, eU8 k3], .agg (eItem z)] (.d (eB true)) [] := by
 obtain ⟨hl2, hl0, _⟩ := tidy_made x
 have hfine := fine_made x
 have hmc := made_c x hx
 obtain ⟨f, hf⟩ : ∃ f, made x = f := ⟨_, rfl⟩
 rw [hf] at hl2 hl0 hmc hfine
 clear hf
 have hi : k0 % f.length < f.length := Nat.mod_lt _ hl0
 obtain ⟨i, hki⟩ : ∃ i, k0 % f.length = i := ⟨_, rfl⟩
 rw [hki] at hi
 have hsp := spoil_c f k0 k1 k2 k3 sQ h0 h1 h2 h3 (by omega) i hi hki ((hfine _ (List.getElem_mem hi)).mono (by omega))
 obtain ⟨F, hFd⟩ : ∃ F, f.set i (spoilM k1 k2 k3 sQ f[i]) = F := ⟨_, rfl⟩
 have hFl : F.length = f.length := by rw [← hFd]; simp
 have hFf : ∀ m ∈ F, Fine 61 m := by
  rw [← hFd]
  intro m hm
  rcases List.mem_or_eq_of_mem_set hm with h4 | h4
  ·exact (hfine m h4).mono (by omega)
  ·rw [h4]; exact spoil_fine (by omega) _ _ _ _ (hfine _ (List.getElem_mem hi))
 rw [hFd] at hsp
 clear hFd
 have hj : k3 % F.length < F.length := Nat.mod_lt _ (by omega)
 obtain ⟨j, hkj⟩ : ∃ j, k3 % F.length = j := ⟨_, rfl⟩
 rw [hkj] at hj
 have hFj := hFf F[j] (List.getElem_mem hj)
 refine local_w x k0 k1 k2 k3 z h3 f F j hmc hsp (by omega) hj hkj F[j] rfl (by have := hFj.items; omega) (all_c _ _ (Nat.lt_succ_self _) (by omega)) (fun q1 q2 q9 hL => ?_)
 have hSm : Small F := small_fine (n := 61) (by omega) (by omega) hFf
 have eA : appI F j z = F.set j { F[j] with items := F[j].items ++ [z] } := by
  unfold appI
  have : F.getD j zMod = F[j] := by simp [List.getD, hj]
  rw [this]
 have hSg : Small (appI F j z) := by
  rw [eA]
  refine { len := by rw [List.length_set]; omega, items := fun m hm => ?_, nums := fun m hm y hy => ?_ }
  ·rcases List.mem_or_eq_of_mem_set hm with h4 | h4
   ·exact hSm.items m h4
   ·have := hFj.items
    rw [h4]; simp; omega
  ·rcases List.mem_or_eq_of_mem_set hm with h4 | h4
   ·exact hSm.nums m h4 y hy
   ·rw [h4] at hy
    rcases List.mem_append.1 hy with h5 | h5
    ·exact hSm.nums _ (List.getElem_mem hj) y h5
    ·simp only [List.mem_singleton] at h5
     rw [h5]; exact numbers_z q9 hL
 have hAl : (appI F j z).length ≤ 2 := by rw [eA, List.length_set]; omega
 have ho := others_app hj q1 q2 q9
 rw [← eA]
 refine ⟨check_c F hSm, check_c _ hSg, check_len hSm (by omega), check_len hSg hAl, ?_⟩
 unfold samePs
 rw [ho]
 exact decide_eq_true rfl
end Go.Proofs.Ytejpmjnefokdoaa

/-
 PLAIN LAW: how much an item holds.
-/
namespace Go.Proofs.Ytejpmjnefokdoaa
open Go.Aw
mutual
theorem sz_bulk : ∀ e : Expr, sz e ≤ D.bulkL (eExpr e)
 | .mk o n k w a => by
  have := sz_bulkL a
  rw [sz_mk, eExpr]
  simp only [D.bulkL, D.bulk, eI, eS, litBulk]
  omega
theorem sz_bulkL : ∀ l : List Expr, (l.map sz).sum ≤ D.bulkLL (eExprL l)
 | [] => by simp
 | e :: r => by
  have := sz_bulk e
  have := sz_bulkL r
  simp only [List.map_cons, List.sum_cons, eExprL, D.bulkLL]
  omega
end
theorem item_bulk (z : Item) : (Expr.allL [z.a, z.b, z.c]).length ≤ D.bulkL (eItem z) := by
 have h1 := sz_bulk z.a
 have h2 := sz_bulk z.b
 have h3 := sz_bulk z.c
 rw [allL_len]
 simp only [List.map_cons, List.map_nil, List.sum_cons, List.sum_nil]
 unfold eItem
 simp only [D.bulkL, bulkL_app]
 omega
end Go.Proofs.Ytejpmjnefokdoaa

/-
 BOUNDED ARGUMENTS: how much they hold; arguments of the laws beside a recursive type.
-/
namespace Go.Proofs.Ytejpmjnefokdoaa
open Go.Aw Go.ChangeShapes Go.WideShapes Go.ChangeAt Go.RowKit
set_option maxRecDepth 100000
mutual
theorem bulk_le {H : Type} : ∀ d : DataW H, dwBulk d ≤ Rows.uptoBulk d
 | .lit (.string b) => by simp only [dwBulk, Rows.uptoBulk]; exact Nat.le_refl _
 | .lit (.bool _) => by simp only [dwBulk, Rows.uptoBulk]; exact Nat.le_refl _
 | .lit (.int _ _) => by simp only [dwBulk, Rows.uptoBulk]; exact Nat.le_refl _
 | .lit (.float _ _) => by simp only [dwBulk, Rows.uptoBulk]; exact Nat.le_refl _
 | .lit .nil => by simp only [dwBulk, Rows.uptoBulk]; exact Nat.le_refl _
 | .nil => by simp only [dwBulk, Rows.uptoBulk]; exact Nat.le_refl _
 | .ptr d => by have := bulk_le d; simp only [dwBulk, Rows.uptoBulk]; omega
 | .slice a b => by have := bulk_leAll a; have := bulk_leAll b; simp only [dwBulk, Rows.uptoBulk]; omega
 | .agg a => by have := bulk_leAll a; simp only [dwBulk, Rows.uptoBulk]; omega
 | .iface _ d => by have := bulk_le d; simp only [dwBulk, Rows.uptoBulk]; omega
 | .map _ => by simp only [dwBulk, Rows.uptoBulk]; omega
 | .held _ => by simp only [dwBulk, Rows.uptoBulk]; exact Nat.le_refl _
theorem bulk_leAll {H : Type} : ∀ ds : List (DataW H), dwBulkAll ds ≤ Rows.uptoBulkAll ds
 | [] => by simp only [dwBulkAll, Rows.uptoBulkAll]; exact Nat.le_refl _
 | d :: ds => by have := bulk_le d; have := bulk_leAll ds; simp only [dwBulkAll, Rows.uptoBulkAll]; omega
end
def shRawX : List Sx := [.int .u8, .int .u8, .sl [.int .u8]]
def shK4X : List Sx := [.int .u8, .int .u8, .int .u8, .int .u8]
section
variable {Q : D → Prop}
theorem fitsX_u8 {d : D} (h : Sx.fits Q (.int .u8) d) : ∃ n : Nat, d = .lit (.int .u8 n) ∧ n < 256 := by
 simp only [Sx.fits] at h
 obtain ⟨n, rfl, h⟩ := h
 have : 0 ≤ n ∧ n ≤ 255 := by simpa [Lit.wf, IntKind.min, IntKind.max, IntKind.bits, IntKind.signed] using h
 exact ⟨n.toNat, by rw [Int.toNat_of_nonneg this.1], by omega⟩
theorem bytesX_of {d : D} (h : Sx.fits Q (.sl [.int .u8]) d) : ∃ l : List Nat, d = eBytes l ∧ ∀ b ∈ l, b < 256 := by
 simp only [Sx.fits] at h
 obtain ⟨es, rfl, he⟩ := h
 obtain ⟨l, rfl, hl⟩ := list_of (enc := fun b : Nat => [eU8 b]) (p := fun b => b < 256) (fun e h' => by
  simp only [Sx.fitsL] at h'
  obtain ⟨x, _, rfl, hx, rfl⟩ := h'
  obtain ⟨n, rfl, hn⟩ := fitsX_u8 hx
  exact ⟨n, rfl, hn⟩) es he
 exact ⟨l, rfl, hl⟩
theorem rawX_of {d : D} (h : AShX.fits Q (.agg shRawX) d) : ∃ x : Raw, d = eRaw x ∧ x.ok := by
 obtain ⟨ds, rfl, h⟩ := h
 simp only [shRawX, Sx.fitsL] at h
 obtain ⟨a, _, rfl, h1, b, _, rfl, h2, c, _, rfl, h3, rfl⟩ := h
 obtain ⟨k, rfl, hk⟩ := fitsX_u8 h1
 obtain ⟨w, rfl, hw⟩ := fitsX_u8 h2
 obtain ⟨l, rfl, hl⟩ := bytesX_of h3
 exact ⟨⟨k, w, l⟩, rfl, hk, hw, hl⟩
theorem k4X_of {d : D} (h : AShX.fits Q (.agg shK4X) d) : ∃ a b c e : Nat, d = .agg [eU8 a, eU8 b, eU8 c, eU8 e] ∧ a < 256 ∧ b < 256 ∧ c < 256 ∧ e < 256 := by
 obtain ⟨ds, rfl, h⟩ := h
 simp only [shK4X, Sx.fitsL] at h
 obtain ⟨a, _, rfl, h1, b, _, rfl, h2, c, _, rfl, h3, e, _, rfl, h4, rfl⟩ := h
 obtain ⟨a, rfl, ha⟩ := fitsX_u8 h1
 obtain ⟨b, rfl, hb⟩ := fitsX_u8 h2
 obtain ⟨c, rfl, hc⟩ := fitsX_u8 h3
 obtain ⟨e, rfl, he⟩ := fitsX_u8 h4
 exact ⟨a, b, c, e, rfl, ha, hb, hc, he⟩
end
def zNumV : List Value := [.int .i64 0, .string ByteArray.empty]
def zExprV : List Value := [.int .i64 0, .string ByteArray.empty, .int .i64 0, .string ByteArray.empty, .int .i64 0, .string ByteArray.empty, .slice none 0 0]
def zeroItem : List Value := [.int .i64 0, .string ByteArray.empty] ++ (zNumV ++ (zNumV ++ (zNumV ++ (zExprV ++ (zExprV ++ (zExprV ++ [.int .i64 0, .string ByteArray.empty, .int .i64 0, .string ByteArray.empty, .slice none 0 0, .slice none 0 0]))))))
def zNumW {H : Type} : DataW H := .agg [.lit (.int .i64 0), .lit (.string [])]
def zExprW {H : Type} : DataW H := .agg [.lit (.int .i64 0), .lit (.string []), zNumW, zNumW, .nil]
def zeroItemW {H : Type} : List (DataW H) := [.lit (.int .i64 0), .lit (.string []), zNumW, zNumW, zNumW, zExprW, zExprW, zExprW, .agg [.lit (.int .i64 0), .lit (.string []), .lit (.int .i64 0)], .lit (.string []), .nil, .nil]
end Go.Proofs.Ytejpmjnefokdoaa

/-
 CheckLocality, where the arguments hold together at most 1048576 values: if an item that is neither a port nor an instance is appended to a module, the problems of all other modules stay.
 Conditions: the bound on the arguments alone.
-/
namespace Go.Proofs.Ytejpmjnefokdoaa
open Go.Aw Go.ChangeShapes Go.WideShapes Go.ChangeAt Go.RowKit
set_option maxRecDepth 100000
theorem local_lifted (os : Os) (started : os.Started) (H : Type) (enc : TypeId × Value → H) (F : Stop.Interp) :
  ReturnsInHanded {} Try.checked os 4 .any ((Rows.OpenSpec.upto Rows.checkLocalitySpec).pre6 enc Try.prog Try.f4 Rows.checkLocalityUptoRow.domain false) (((Rows.OpenSpec.upto Rows.checkLocalitySpec).at F).post enc Try.prog Try.f4 false true false false) := by
 refine returnsInHanded_of_cond (C := Try.checked) (s := Rows.OpenSpec.upto Rows.checkLocalitySpec) (k := Rows.uptoSmall) rfl own started (by kernel_rfl) Try.func4
  (OpenSpec.witness (enc := enc) (C := Try.checked) (s := Rows.OpenSpec.upto Rows.checkLocalitySpec) (k := Rows.uptoSmall) rfl false ⟨#[], #[.agg #[.int .u8 0, .int .u8 0, .slice none 0 0], .agg #[.int .u8 0, .int .u8 0, .int .u8 0, .int .u8 0], .agg zeroItem.toArray], []⟩ 8 (by kernel_rfl) (by kernel_rfl) (by kernel_rfl)
   (x := ([.agg [.lit (.int .u8 0), .lit (.int .u8 0), .nil], .agg [.lit (.int .u8 0), .lit (.int .u8 0), .lit (.int .u8 0), .lit (.int .u8 0)], .agg zeroItemW], [], [])) (by kernel_rfl) rfl (by kernel_rfl)) ?_
 intro W base args ds gs before hval hW _ hk _
 have hgs : gs = [] := by
  obtain ⟨p, q, _, hV, _⟩ := hW
  exact (trodVars_none hV).1
 subst hgs
 rw [List.append_nil] at hk
 have hbk : Rows.uptoBulkAll ds ≤ 1048576 := of_decide_eq_true hk
 refine law_postX (P := Try.prog) (tr := 48) (R := shE) (N := 8) (n := 12) (s := Rows.checkLocalitySpec) rec_type rec_shape rec_len (by simp [shE]) (ss := [.agg shRawX, .agg shK4X, .agg shItem]) laidOut (of_decide_eq_true (by kernel_rfl)) (tb := 4) (by kernel_rfl) Try.underlying4 (by kernel_rfl) rfl hval hW (fun hl => ?_) (fun k Ds hD hB => ?_)
 ·match ds, hl with
  | [_, _, _], _ => rfl
 ·obtain ⟨a, _, rfl, ha, b, _, rfl, hb, c, _, rfl, hc, rfl⟩ := hD
  obtain ⟨x, rfl, hx⟩ := rawX_of ha
  obtain ⟨k0, k1, k2, k3, rfl, h0, h1, h2, h3⟩ := k4X_of hb
  obtain ⟨cs, rfl, hc⟩ := hc
  obtain ⟨z, rfl⟩ := item_of (recP_exprs k) hc
  have h5 := item_bulk z
  have h6 := bulk_leAll ds
  simp only [D.bulkL, D.bulk] at hB
  exact local_c x hx k0 k1 k2 k3 h0 h1 h2 h3 z (by omega)
theorem local_holds : Rows.CheckLocalityUptoSaid :=
 OpenClaim.holds_of_cond 4 Try.f4 rfl rfl rfl rfl rfl rfl rfl ⟨rfl, rfl, rfl, rfl, rfl⟩ rfl rfl rfl rfl rfl (by kernel_rfl) Try.func4 (by kernel_rfl)
  (of_decide_eq_true (by kernel_rfl)) (by unfold Func.isWrapper; first | (rw [if_pos (by decide +kernel)]; kernel_rfl) | (rw [if_neg (by decide +kernel)]; exact ⟨rfl, rfl⟩))
  (fun os started H enc _ F => local_lifted os started H enc F)
end Go.Proofs.Ytejpmjnefokdoaa
