/-
 CheckCycles, where the arguments hold together at most 1048576 values: in a valid file the wires of each module, and the modules, can be ordered such that each uses earlier ones alone.
 Conditions: the bound on the arguments alone.
-/
import Derived.Test.YtejpmjnefokdoaaGL
import Derived.Test.YtejpmjnefokdoaaK4
import Derived.Test.YtejpmjnefokdoaaRows
import Derived.Test.YtejpmjnefokdoaaGLr
import Derived.Test.YtejpmjnefokdoaaK5
import Derived.Test.YtejpmjnefokdoaaK3
set_option linter.unusedSimpArgs false
set_option linter.unusedVariables false
/-
 ARGUMENTS OF THE LAWS AS DATA.
-/
namespace Go.Proofs.Ytejpmjnefokdoaa
open Go.Aw Go.ChangeShapes Go.WideShapes Go.ChangeAt Go.RowKit
set_option maxRecDepth 100000
theorem own : ownKnob Try.prog.godebug = none := by kernel_rfl
theorem laidOut : laidOutB Try.prog = true := by kernel_rfl
def shRaw : ASh := .agg [.int .u8, .int .u8, .sl [.int .u8]]
def shK2 : ASh := .agg [.int .u8, .int .u8]
def shK4 : ASh := .agg [.int .u8, .int .u8, .int .u8, .int .u8]
def shB : ASh := .one (.sl [.int .u8])
theorem fitsL_3 {s t u : Sh} {ds : List D} (h : Sh.fitsL [s, t, u] ds) : ∃ a b c, ds = [a, b, c] ∧ s.fits a ∧ t.fits b ∧ u.fits c := by
 simp only [Sh.fitsL] at h
 obtain ⟨a, r, rfl, h1, b, r2, rfl, h2, c, r3, rfl, h3, rfl⟩ := h
 exact ⟨a, b, c, rfl, h1, h2, h3⟩
theorem bytes_of {d : D} (h : Sh.fits (.sl [.int .u8]) d) : ∃ l : List Nat, d = eBytes l ∧ ∀ b ∈ l, b < 256 := by
 obtain ⟨l, rfl, hl⟩ := fits_sl (enc := fun b : Nat => [eU8 b]) (p := fun b => b < 256) (fun e he => by
  obtain ⟨x, rfl, hx⟩ := fitsL_1 he
  obtain ⟨n, rfl, hn⟩ := fits_u8 hx
  exact ⟨n, rfl, hn⟩) h
 exact ⟨l, rfl, hl⟩
theorem raw_of {d : D} (h : shRaw.fits d) : ∃ x : Raw, d = eRaw x ∧ x.ok := by
 obtain ⟨ds, rfl, h⟩ := h
 obtain ⟨a, b, c, rfl, h1, h2, h3⟩ := fitsL_3 h
 obtain ⟨k, rfl, hk⟩ := fits_u8 h1
 obtain ⟨w, rfl, hw⟩ := fits_u8 h2
 obtain ⟨l, rfl, hl⟩ := bytes_of h3
 exact ⟨⟨k, w, l⟩, rfl, hk, hw, hl⟩
theorem k2_of {d : D} (h : shK2.fits d) : ∃ a b : Nat, d = .agg [eU8 a, eU8 b] ∧ a < 256 ∧ b < 256 := by
 obtain ⟨ds, rfl, h⟩ := h
 obtain ⟨a, b, rfl, h1, h2⟩ := fitsL_2 h
 obtain ⟨k, rfl, hk⟩ := fits_u8 h1
 obtain ⟨w, rfl, hw⟩ := fits_u8 h2
 exact ⟨k, w, rfl, hk, hw⟩
theorem k4_of {d : D} (h : shK4.fits d) : ∃ a b c e : Nat, d = .agg [eU8 a, eU8 b, eU8 c, eU8 e] ∧ a < 256 ∧ b < 256 ∧ c < 256 ∧ e < 256 := by
 obtain ⟨ds, rfl, h⟩ := h
 obtain ⟨a, b, c, e, rfl, h1, h2, h3, h4⟩ := fitsL_4 h
 obtain ⟨a, rfl, ha⟩ := fits_u8 h1
 obtain ⟨b, rfl, hb⟩ := fits_u8 h2
 obtain ⟨c, rfl, hc⟩ := fits_u8 h3
 obtain ⟨e, rfl, he⟩ := fits_u8 h4
 exact ⟨a, b, c, e, rfl, ha, hb, hc, he⟩
end Go.Proofs.Ytejpmjnefokdoaa

/-
 ITEMS AND FILES AS ARGUMENTS: data of a recursive type.
-/
namespace Go.Proofs.Ytejpmjnefokdoaa
open Go.Aw Go.ChangeShapes Go.WideShapes Go.ChangeAt Go.RowKit
set_option maxRecDepth 100000
def sI : Sx := .int .i64
def shNum : List Sx := [sI, .str]
def shE : List Sx := [sI, .str, sI, .str, sI, .str, .rc]
def shRule : List Sx := [sI, .str, sI]
def shBind : List Sx := [.str, .str]
def shItem : List Sx := sI :: .str :: (shNum ++ (shNum ++ (shNum ++ (shE ++ (shE ++ (shE ++ (shRule ++ [.str, .sl shNum, .sl shBind])))))))
def shMod : List Sx := [.str, .str, .sl [.str], .sl shItem]
def shFile : List Sx := [.sl shMod]
theorem rec_type : Try.prog.underlying 48 = some (.slice 50) := Try.underlying48
theorem rec_shape : shapesX Try.prog 48 8 50 = some shE := by kernel_rfl
theorem rec_len : shE.length = Try.prog.cellsOf 50 := by kernel_rfl
section
variable {Q : D → Prop}
theorem fits_int {d : D} (h : Sx.fits Q sI d) : ∃ n : I64, d = eI n.1 := by
 simp only [sI, Sx.fits] at h
 obtain ⟨n, rfl, h⟩ := h
 exact ⟨⟨n, h⟩, rfl⟩
theorem fits_str {d : D} (h : Sx.fits Q .str d) : ∃ s : Str, d = eS s := by
 simp only [Sx.fits] at h
 obtain ⟨s, rfl, h⟩ := h
 exact ⟨⟨s, h⟩, rfl⟩
theorem fits_slX {X : Type} {ss : List Sx} {enc : X → List D} (h : ∀ e, Sx.fitsL Q ss e → ∃ x, e = enc x) {d : D} (hd : Sx.fits Q (.sl ss) d) : ∃ l : List X, d = .sl (l.map enc) := by
 simp only [Sx.fits] at hd
 obtain ⟨es, rfl, he⟩ := hd
 obtain ⟨l, rfl, _⟩ := list_of (p := fun _ => True) (fun e h' => by obtain ⟨x, hx⟩ := h e h'; exact ⟨x, hx, trivial⟩) es he
 exact ⟨l, rfl⟩
theorem fits_app {s1 s2 : List Sx} {ds : List D} : Sx.fitsL Q (s1 ++ s2) ds → ∃ d1 d2, ds = d1 ++ d2 ∧ Sx.fitsL Q s1 d1 ∧ Sx.fitsL Q s2 d2 := by
 induction s1 generalizing ds with
 | nil => intro h; exact ⟨[], ds, rfl, by simp only [Sx.fitsL], h⟩
 | cons s r ih =>
  intro h
  rw [List.cons_append] at h
  simp only [Sx.fitsL] at h
  obtain ⟨d, t, rfl, h1, h2⟩ := h
  obtain ⟨d1, d2, rfl, h3, h4⟩ := ih h2
  exact ⟨d :: d1, d2, rfl, by simp only [Sx.fitsL]; exact ⟨d, d1, rfl, h1, h3⟩, h4⟩
theorem num_of {ds : List D} (h : Sx.fitsL Q shNum ds) : ∃ x : Num, ds = eNum x := by
 simp only [shNum, Sx.fitsL] at h
 obtain ⟨a, _, rfl, h1, b, _, rfl, h2, rfl⟩ := h
 obtain ⟨n, rfl⟩ := fits_int h1
 obtain ⟨s, rfl⟩ := fits_str h2
 exact ⟨⟨n.1, s⟩, rfl⟩
theorem bind_of {ds : List D} (h : Sx.fitsL Q shBind ds) : ∃ x : Bind, ds = eBind x := by
 simp only [shBind, Sx.fitsL] at h
 obtain ⟨a, _, rfl, h1, b, _, rfl, h2, rfl⟩ := h
 obtain ⟨n, rfl⟩ := fits_str h1
 obtain ⟨s, rfl⟩ := fits_str h2
 exact ⟨⟨n, s⟩, rfl⟩
theorem rule_of {ds : List D} (h : Sx.fitsL Q shRule ds) : ∃ x : Rule, ds = eRule x := by
 simp only [shRule, Sx.fitsL] at h
 obtain ⟨a, _, rfl, h1, b, _, rfl, h2, c, _, rfl, h3, rfl⟩ := h
 obtain ⟨n, rfl⟩ := fits_int h1
 obtain ⟨s, rfl⟩ := fits_str h2
 obtain ⟨k, rfl⟩ := fits_int h3
 exact ⟨⟨n.1, s, k.1⟩, rfl⟩
theorem expr_of (hQ : ∀ d, Q d → ∃ l : List Expr, d = eExprs l) {ds : List D} (h : Sx.fitsL Q shE ds) : ∃ e : Expr, ds = eExpr e := by
 simp only [shE, Sx.fitsL] at h
 obtain ⟨a, _, rfl, h1, b, _, rfl, h2, c, _, rfl, h3, d, _, rfl, h4, e, _, rfl, h5, f, _, rfl, h6, g, _, rfl, h7, rfl⟩ := h
 obtain ⟨o, rfl⟩ := fits_int h1
 obtain ⟨n, rfl⟩ := fits_str h2
 obtain ⟨k, rfl⟩ := fits_int h3
 obtain ⟨kp, rfl⟩ := fits_str h4
 obtain ⟨w, rfl⟩ := fits_int h5
 obtain ⟨wp, rfl⟩ := fits_str h6
 simp only [Sx.fits] at h7
 obtain ⟨l, rfl⟩ := hQ _ h7
 exact ⟨.mk o.1 n ⟨k.1, kp⟩ ⟨w.1, wp⟩ l, by rw [eExpr_eq]; rfl⟩
theorem item_of (hQ : ∀ d, Q d → ∃ l : List Expr, d = eExprs l) {ds : List D} (h : Sx.fitsL Q shItem ds) : ∃ x : Item, ds = eItem x := by
 unfold shItem at h
 simp only [Sx.fitsL] at h
 obtain ⟨a, _, rfl, h1, b, _, rfl, h2, h⟩ := h
 obtain ⟨w, _, rfl, hw, h⟩ := fits_app h
 obtain ⟨d, _, rfl, hd, h⟩ := fits_app h
 obtain ⟨i, _, rfl, hi, h⟩ := fits_app h
 obtain ⟨ea, _, rfl, hea, h⟩ := fits_app h
 obtain ⟨eb, _, rfl, heb, h⟩ := fits_app h
 obtain ⟨ec, _, rfl, hec, h⟩ := fits_app h
 obtain ⟨ru, _, rfl, hru, h⟩ := fits_app h
 simp only [Sx.fitsL] at h
 obtain ⟨o, _, rfl, ho, ar, _, rfl, har, po, _, rfl, hpo, rfl⟩ := h
 obtain ⟨k, rfl⟩ := fits_int h1
 obtain ⟨n, rfl⟩ := fits_str h2
 obtain ⟨w, rfl⟩ := num_of hw
 obtain ⟨d, rfl⟩ := num_of hd
 obtain ⟨i, rfl⟩ := num_of hi
 obtain ⟨ea, rfl⟩ := expr_of hQ hea
 obtain ⟨eb, rfl⟩ := expr_of hQ heb
 obtain ⟨ec, rfl⟩ := expr_of hQ hec
 obtain ⟨ru, rfl⟩ := rule_of hru
 obtain ⟨o, rfl⟩ := fits_str ho
 obtain ⟨ar, rfl⟩ := fits_slX (fun e he => num_of he) har
 obtain ⟨po, rfl⟩ := fits_slX (fun e he => bind_of he) hpo
 exact ⟨⟨k, n, w, d, i, ea, eb, ec, ru, o, ar, po⟩, rfl⟩
theorem mod_of (hQ : ∀ d, Q d → ∃ l : List Expr, d = eExprs l) {ds : List D} (h : Sx.fitsL Q shMod ds) : ∃ x : Module, ds = eModule x := by
 simp only [shMod, Sx.fitsL] at h
 obtain ⟨a, _, rfl, h1, b, _, rfl, h2, c, _, rfl, h3, d, _, rfl, h4, rfl⟩ := h
 obtain ⟨n, rfl⟩ := fits_str h1
 obtain ⟨k, rfl⟩ := fits_str h2
 obtain ⟨ps, rfl⟩ := fits_slX (enc := fun s : Str => [eS s]) (fun e he => by
  simp only [Sx.fitsL] at he
  obtain ⟨x, _, rfl, hx, rfl⟩ := he
  obtain ⟨s, rfl⟩ := fits_str hx
  exact ⟨s, rfl⟩) h3
 obtain ⟨its, rfl⟩ := fits_slX (fun e he => item_of hQ he) h4
 exact ⟨⟨n, k, ps, its⟩, rfl⟩
end
theorem recP_exprs : ∀ (k : Nat) (d : D), recP shE k d → ∃ l : List Expr, d = eExprs l
 | 0, _, h => by simp only [recP] at h
 | k + 1, d, h => by
  obtain ⟨es, rfl, he⟩ := h
  obtain ⟨l, rfl, _⟩ := list_of (p := fun _ => True) (fun e h' => by
   obtain ⟨x, hx⟩ := expr_of (recP_exprs k) h'
   exact ⟨x, hx, trivial⟩) es he
  exact ⟨l, rfl⟩
end Go.Proofs.Ytejpmjnefokdoaa

/-
 CONTRACTS: modules settled in rounds.
-/
namespace Go.Proofs.Ytejpmjnefokdoaa
open Go.Aw
open Nat renaming reduceEqDiff → pE, reduceLT → pL, reduceAdd → pA, reduceSub → pS, reduceMul → pM, reduceLeDiff → pD
open Int renaming reduceToNat → qT, reduceGT → qG, reduceLT → qL, reduceGE → qH, reduceBNe → qN, reduceBEq → qB, reduceLE → qE, reduceNe → qO, reduceAdd → qA, reduceNeg → qM
set_option maxRecDepth 100000
set_option maxHeartbeats 40000000
theorem idxP_lt {α : Type} (p : α → Bool) (l : List α) : idxP p l < (l.length : Int) := by
 unfold idxP
 split
 ·rename_i i hi
  have := (List.findIdx?_eq_some_iff_findIdx_eq.1 hi).1
  omega
 ·omega
theorem settled_c (l : List Module) (hl : l.length ≤ 1000000) (hil : ∀ m ∈ l, m.items.length ≤ 1000000) : FnP Try.prog 19 [eMods l] (.d (eB (settledL l))) [] := by
 refine FnP.of_eC (own := []) (fun _ => []) mixed Try.func19 rfl Try.call19 Try.ntmps19 (Nat.le_of_ble_eq_true rfl) Try.results19 (fun hok => ?_)
 obtain ⟨n, hn⟩ : ∃ n, l.length = n := ⟨_, rfl⟩
 have r0 := rounds_zero n (readyM l)
 simp (maxSteps := 4000000) only [ZE,↓reduceIte,pE,pL,pA,pS,pM,pD, eMods, zN,qT,qG,qL,qH,qN,qB,qE,qO,qA,qM, List.length_map, hn]
 refine ⟨⟨by omega, by omega⟩, ?_⟩
 refine eloop (fun _ => []) mixed n (fun _ => True) (fun r => ([(1, .bp 1 0), (3, .ar 14 n), (4, .d (eI r))], [(1, .box [.d (eModules l)]), (14, .arr 4 1 .flat (eBs (roundsD n (readyM l) r)))])) trivial ?_ ?_ (fun r hr _ => ?_)
 ·simp only [ZE,↓reduceIte,pE,pL,pA,pS,pM,pD, zN,qT,qG,qL,qH,qN,qB,qE,qO,qA,qM]
 ·simp only [ZE,↓reduceIte,pE,pL,pA,pS,pM,pD, zN,qT,qG,qL,qH,qN,qB,qE,qO,qA,qM, r0]
 rcases Nat.lt_or_ge r n with h | h
 ·have hw := wrap_succ (show r < 9223372036854775807 by omega)
  have hD := rounds_len n (readyM l) r
  rw [rounds_succ]
  obtain ⟨D, hDD⟩ : ∃ D, roundsD n (readyM l) r = D := ⟨_, rfl⟩
  rw [hDD] at hD ⊢
  simp (maxSteps := 4000000) only [ZE,↓reduceIte,pE,pL,pA,pS,pM,pD, dec_lt h, hw, zN,qT,qG,qL,qH,qN,qB,qE,qO,qA,qM, List.length_map, hn]
  refine eloop (fun _ => []) mixed n (fun _ => True) (fun i => ([(1, .bp 1 0), (3, .ar 14 n), (4, .d (eI r)), (5, .d (eI i))], [(1, .box [.d (eModules l)]), (14, .arr 4 1 .flat (eBs ((List.range i).foldl (stepD (readyM l)) D)))])) trivial ?_ ?_ (fun i hi _ => ?_)
  ·simp only [ZE,↓reduceIte,pE,pL,pA,pS,pM,pD, zN,qT,qG,qL,qH,qN,qB,qE,qO,qA,qM]
  ·simp only [ZE,↓reduceIte,pE,pL,pA,pS,pM,pD, zN,qT,qG,qL,qH,qN,qB,qE,qO,qA,qM, List.range_zero, List.foldl_nil]
  rcases Nat.lt_or_ge i n with hin | hin
  ·have hw' := wrap_succ (show i < 9223372036854775807 by omega)
   have hil' : i < l.length := by omega
   rw [steps_succ]
   obtain ⟨d, hd⟩ : ∃ d, (List.range i).foldl (stepD (readyM l)) D = d := ⟨_, rfl⟩
   have hdl : d.length = n := by rw [← hd, steps_len, hD]
   rw [hd]
   have el : (eBs d).length = n := by rw [eBs_len, hdl]
   obtain ⟨m, hm⟩ : ∃ m, l[i] = m := ⟨_, rfl⟩
   have hml := hil m (hm ▸ List.getElem_mem hil')
   have hgm : l.getD i zMod = m := by rw [← hm]; simp [List.getD, hil']
   simp (maxSteps := 4000000) only [ZE,↓reduceIte,pE,pL,pA,pS,pM,pD, dec_lt hin, lt_int hin, getD_map hil', lt_int hin, hw', zN,qT,qG,qL,qH,qN,qB,qE,qO,qA,qM, List.length_map, hn]
   refine eloop (fun _ => []) mixed m.items.length (fun _ => True) (fun k => ([(1, .bp 1 0), (3, .ar 14 n), (4, .d (eI r)), (5, .d (eI i)), (6, .d (eB ((m.items.take k).foldl (readyX l d) true))), (7, .d (eI k))], [(1, .box [.d (eModules l)]), (14, .arr 4 1 .flat (eBs d))])) trivial ?_ ?_ (fun k hk _ => ?_)
   ·simp only [ZE,↓reduceIte,pE,pL,pA,pS,pM,pD, zN,qT,qG,qL,qH,qN,qB,qE,qO,qA,qM, List.take_zero, List.foldl_nil]
   ·simp only [ZE,↓reduceIte,pE,pL,pA,pS,pM,pD, zN,qT,qG,qL,qH,qN,qB,qE,qO,qA,qM]
   rcases Nat.lt_or_ge k m.items.length with hkl | hkl
   ·have hw2 := wrap_succ (show k < 9223372036854775807 by omega)
    obtain ⟨x, hx⟩ : ∃ x, m.items[k] = x := ⟨_, rfl⟩
    have hfs : (m.items.take (k + 1)).foldl (readyX l d) true = readyX l d ((m.items.take k).foldl (readyX l d) true) x := by rw [List.take_succ_eq_append_getElem hkl, List.foldl_append, hx]; rfl
    rw [hfs]
    obtain ⟨acc, hacc⟩ : ∃ acc, (m.items.take k).foldl (readyX l d) true = acc := ⟨_, rfl⟩
    rw [hacc]
    by_cases h9 : x.kind.1 = 9
    ·have g9 : (x.kind.1 == 9) = true := by simp [h9]
     have fc := find_c l x.of
     have hzl := idxP_lt (fun m : Module => decide (m.name = x.of)) l
     obtain ⟨z, hz⟩ : ∃ z, idxP (fun m : Module => decide (m.name = x.of)) l = z := ⟨_, rfl⟩
     rw [hz] at fc hzl
     have hX : readyX l d acc x = (acc && decide (z ≥ 0) && d.getD z.toNat false) := by unfold readyX; rw [if_pos h9, hz]
     rw [hX]
     simp only [ZE,↓reduceIte,pE,pL,pA,pS,pM,pD, eMods] at fc
     cases acc with
     | false =>
      simp (maxSteps := 4000000) only [ZE,↓reduceIte,pE,pL,pA,pS,pM,pD, dec_lt hkl, getD_map hil', lt_int hin, getD_map hkl, lt_int hkl, hm, hx, g9, hw2, zN,qT,qG,qL,qH,qN,qB,qE,qO,qA,qM, List.length_map, hn, el]
      refine EFn.p ?_
      simp only [ZE,↓reduceIte,pE,pL,pA,pS,pM,pD, zN,qT,qG,qL,qH,qN,qB,qE,qO,qA,qM]
      refine ECall.i fc ?_
      simp only [ZE,↓reduceIte,pE,pL,pA,pS,pM,pD, zN,qT,qG,qL,qH,qN,qB,qE,qO,qA,qM, hw2, Bool.false_and]
      exact hkl
     | true =>
      by_cases hz0 : z ≥ 0
      ·have dz : decide (z ≥ 0) = true := decide_eq_true hz0
       have inz : (0 ≤ z ∧ z < (n : Int)) = True := by simp; omega
       have hgz := eBs_getD (d := d) (i := z.toNat) (by omega)
       simp (maxSteps := 4000000) only [ZE,↓reduceIte,pE,pL,pA,pS,pM,pD, dec_lt hkl, getD_map hil', lt_int hin, getD_map hkl, lt_int hkl, hm, hx, g9, hw2, zN,qT,qG,qL,qH,qN,qB,qE,qO,qA,qM, List.length_map, hn, el]
       refine EFn.p ?_
       simp only [ZE,↓reduceIte,pE,pL,pA,pS,pM,pD, zN,qT,qG,qL,qH,qN,qB,qE,qO,qA,qM]
       refine ECall.i fc ?_
       simp only [ZE,↓reduceIte,pE,pL,pA,pS,pM,pD, zN,qT,qG,qL,qH,qN,qB,qE,qO,qA,qM, hw2, Bool.true_and, dz, inz, hgz]
       exact ⟨⟨el.symm, hz0, by rw [el]; omega⟩, ⟨el.symm, by rw [el]; omega⟩, hkl⟩
      ·have dz : decide (z ≥ 0) = false := decide_eq_false hz0
       simp (maxSteps := 4000000) only [ZE,↓reduceIte,pE,pL,pA,pS,pM,pD, dec_lt hkl, getD_map hil', lt_int hin, getD_map hkl, lt_int hkl, hm, hx, g9, hw2, zN,qT,qG,qL,qH,qN,qB,qE,qO,qA,qM, List.length_map, hn, el]
       refine EFn.p ?_
       simp only [ZE,↓reduceIte,pE,pL,pA,pS,pM,pD, zN,qT,qG,qL,qH,qN,qB,qE,qO,qA,qM]
       refine ECall.i fc ?_
       simp only [ZE,↓reduceIte,pE,pL,pA,pS,pM,pD, zN,qT,qG,qL,qH,qN,qB,qE,qO,qA,qM, hw2, Bool.true_and, dz, Bool.false_and]
       exact hkl
    ·have g9 : (x.kind.1 == 9) = false := by simpa using h9
     have hX : readyX l d acc x = acc := by unfold readyX; rw [if_neg h9]
     rw [hX]
     simp (maxSteps := 4000000) only [ZE,↓reduceIte,pE,pL,pA,pS,pM,pD, dec_lt hkl, getD_map hil', lt_int hin, getD_map hkl, lt_int hkl, hm, hx, g9, hw2, zN,qT,qG,qL,qH,qN,qB,qE,qO,qA,qM, List.length_map, hn, el]
     exact hkl
   ·have : k = m.items.length := by omega
    subst this
    have hrm : m.items.foldl (readyX l d) true = readyM l d i := by unfold readyM; rw [hgm]
    have hgd := eBs_getD (d := d) (i := i) (by omega)
    have hsd : stepD (readyM l) d i = d.set i (d.getD i false || readyM l d i) := rfl
    rw [hsd]
    obtain ⟨a, ha⟩ : ∃ a, readyM l d i = a := ⟨_, rfl⟩
    obtain ⟨b, hb⟩ : ∃ b, d.getD i false = b := ⟨_, rfl⟩
    rw [ha] at hrm ⊢
    rw [hb] at hgd ⊢
    cases b with
    | true =>
     simp (maxSteps := 4000000) only [ZE,↓reduceIte,pE,pL,pA,pS,pM,pD, dec_ge hkl, getD_map hil', lt_int hin, lt_int hin, hm, hw', zN,qT,qG,qL,qH,qN,qB,qE,qO,qA,qM, List.length_map, hn, el, List.take_length, hrm, hgd, eBs_set, Bool.true_or]
     exact hin
    | false =>
     simp (maxSteps := 4000000) only [ZE,↓reduceIte,pE,pL,pA,pS,pM,pD, dec_ge hkl, getD_map hil', lt_int hin, lt_int hin, hm, hw', zN,qT,qG,qL,qH,qN,qB,qE,qO,qA,qM, List.length_map, hn, el, List.take_length, hrm, hgd, eBs_set, Bool.false_or]
     exact hin
  ·have : i = n := by omega
   subst this
   simp (maxSteps := 4000000) only [ZE,↓reduceIte,pE,pL,pA,pS,pM,pD, dec_ge hin, zN,qT,qG,qL,qH,qN,qB,qE,qO,qA,qM, hw, List.length_map, hn]
   exact h
 ·have : r = n := by omega
  subst this
  have hD := rounds_len r (readyM l) r
  have hset : settledL l = (roundsD r (readyM l) r).all id := by unfold settledL; rw [hn]
  rw [hset]
  obtain ⟨D, hDD⟩ : ∃ D, roundsD r (readyM l) r = D := ⟨_, rfl⟩
  rw [hDD] at hD ⊢
  have el : (eBs D).length = r := by rw [eBs_len, hD]
  simp (maxSteps := 4000000) only [ZE,↓reduceIte,pE,pL,pA,pS,pM,pD, dec_ge h, zN,qT,qG,qL,qH,qN,qB,qE,qO,qA,qM, List.length_map, hn, el]
  refine eloop (fun _ => []) mixed r (fun i => ∀ j < i, D.getD j false = true) (fun i => ([(1, .bp 1 0), (3, .ar 14 r), (10, .d (eI i))], [(1, .box [.d (eModules l)]), (14, .arr 4 1 .flat (eBs D))])) (by simp) (by simp only [ZE,↓reduceIte,pE,pL,pA,pS,pM,pD, zN,qT,qG,qL,qH,qN,qB,qE,qO,qA,qM]) (by simp only [ZE,↓reduceIte,pE,pL,pA,pS,pM,pD]) (fun i hi hI => ?_)
  rcases Nat.lt_or_ge i r with hin | hin
  ·have hw' := wrap_succ (show i < 9223372036854775807 by omega)
   have hgd := eBs_getD (d := D) (i := i) (by omega)
   obtain ⟨b, hb⟩ : ∃ b, D.getD i false = b := ⟨_, rfl⟩
   rw [hb] at hgd
   cases b with
   | true =>
    simp (maxSteps := 4000000) only [ZE,↓reduceIte,pE,pL,pA,pS,pM,pD, dec_lt hin, lt_int hin, hw', zN,qT,qG,qL,qH,qN,qB,qE,qO,qA,qM, el, hgd]
    refine ⟨hin, hin, fun j hj => ?_⟩
    rcases Nat.lt_succ_iff_lt_or_eq.1 hj with hj | rfl
    ·exact hI j hj
    ·exact hb
   | false =>
    have hf : D.all id = false := by
     rw [List.all_eq_false]
     have hlt : i < D.length := by omega
     refine ⟨D[i], List.getElem_mem hlt, ?_⟩
     rw [List.getD_eq_getElem?_getD, List.getElem?_eq_getElem hlt] at hb
     simp only [Option.getD_some] at hb
     rw [hb]; simp
    simp (maxSteps := 4000000) only [ZE,↓reduceIte,pE,pL,pA,pS,pM,pD, dec_lt hin, lt_int hin, hw', zN,qT,qG,qL,qH,qN,qB,qE,qO,qA,qM, el, hgd, hf]
    exact hin
  ·have hf : D.all id = true := by
    rw [List.all_eq_true]
    intro b hb
    obtain ⟨j, hj, rfl⟩ := List.getElem_of_mem hb
    have := hI j (by omega)
    rw [List.getD_eq_getElem?_getD, List.getElem?_eq_getElem hj] at this
    simpa using this
   simp (maxSteps := 4000000) only [ZE,↓reduceIte,pE,pL,pA,pS,pM,pD, dec_ge hin, zN,qT,qG,qL,qH,qN,qB,qE,qO,qA,qM, el, hf]
end Go.Proofs.Ytejpmjnefokdoaa

/-
 CONTRACTS: wires settled in rounds.
-/
namespace Go.Proofs.Ytejpmjnefokdoaa
open Go.Aw
open Nat renaming reduceEqDiff → pE, reduceLT → pL, reduceAdd → pA, reduceSub → pS, reduceMul → pM, reduceLeDiff → pD
open Int renaming reduceToNat → qT, reduceGT → qG, reduceLT → qL, reduceGE → qH, reduceBNe → qN, reduceBEq → qB, reduceLE → qE, reduceNe → qO, reduceAdd → qA, reduceNeg → qM
set_option maxRecDepth 100000
set_option maxHeartbeats 40000000
theorem zip_step {α β : Type} (f : β → α × Nat → β) (a : β) (l : List α) (j : Nat) (h : j < l.length) : (l.zipIdx.take (j + 1)).foldl f a = f ((l.zipIdx.take j).foldl f a) (l[j], j) := by
 have hz : j < l.zipIdx.length := by simpa using h
 rw [List.take_succ_eq_append_getElem hz, List.foldl_append]
 simp [List.getElem_zipIdx]
theorem acyclic_c (m : Module) (hml : m.items.length ≤ 1000000) (hall : ∀ x ∈ m.items, (Expr.allL [x.a]).length ≤ 10000000 ∧ FnP Try.prog 17 [eExprs [x.a]] (.d (eExprs (Expr.allL [x.a]))) []) : FnP Try.prog 20 [.agg (eModule m)] (.d (eB (acyclicM m))) [] := by
 refine FnP.of_eC (own := []) (fun _ => []) mixed Try.func20 rfl Try.call20 Try.ntmps20 (Nat.le_of_ble_eq_true rfl) Try.results20 (fun hok => ?_)
 obtain ⟨n, hn⟩ : ∃ n, m.items.length = n := ⟨_, rfl⟩
 have r0 := rounds_zero n (readyA m)
 simp (maxSteps := 4000000) only [ZE,↓reduceIte,pE,pL,pA,pS,pM,pD, zN,qT,qG,qL,qH,qN,qB,qE,qO,qA,qM, List.length_map, hn]
 refine ⟨⟨by omega, by omega⟩, ?_⟩
 refine eloop (fun _ => []) mixed (n + 1) (fun _ => True) (fun r => ([(1, .bp 1 0), (3, .ar 14 n), (4, .d (eI r))], [(1, .box ((eModule m).map .d)), (14, .arr 4 1 .flat (eBs (roundsD n (readyA m) r)))])) trivial ?_ ?_ (fun r hr _ => ?_)
 ·simp only [ZE,↓reduceIte,pE,pL,pA,pS,pM,pD, zN,qT,qG,qL,qH,qN,qB,qE,qO,qA,qM]
 ·simp only [ZE,↓reduceIte,pE,pL,pA,pS,pM,pD, zN,qT,qG,qL,qH,qN,qB,qE,qO,qA,qM, r0]
 rcases Nat.lt_or_ge r (n + 1) with h | h
 ·have hw := wrap_succ (show r < 9223372036854775807 by omega)
  have hD := rounds_len n (readyA m) r
  have dle : decide ((r : Int) ≤ (n : Int)) = true := by simp; omega
  rw [rounds_succ]
  obtain ⟨D, hDD⟩ : ∃ D, roundsD n (readyA m) r = D := ⟨_, rfl⟩
  rw [hDD] at hD ⊢
  simp (maxSteps := 4000000) only [ZE,↓reduceIte,pE,pL,pA,pS,pM,pD, dle, hw, zN,qT,qG,qL,qH,qN,qB,qE,qO,qA,qM, List.length_map, hn]
  refine eloop (fun _ => []) mixed n (fun _ => True) (fun i => ([(1, .bp 1 0), (3, .ar 14 n), (4, .d (eI r)), (5, .d (eI i))], [(1, .box ((eModule m).map .d)), (14, .arr 4 1 .flat (eBs ((List.range i).foldl (stepD (readyA m)) D)))])) trivial ?_ ?_ (fun i hi _ => ?_)
  ·simp only [ZE,↓reduceIte,pE,pL,pA,pS,pM,pD, zN,qT,qG,qL,qH,qN,qB,qE,qO,qA,qM]
  ·simp only [ZE,↓reduceIte,pE,pL,pA,pS,pM,pD, zN,qT,qG,qL,qH,qN,qB,qE,qO,qA,qM, List.range_zero, List.foldl_nil]
  rcases Nat.lt_or_ge i n with hin | hin
  ·have hw' := wrap_succ (show i < 9223372036854775807 by omega)
   have hil' : i < m.items.length := by omega
   rw [steps_succ]
   obtain ⟨d, hd⟩ : ∃ d, (List.range i).foldl (stepD (readyA m)) D = d := ⟨_, rfl⟩
   have hdl : d.length = n := by rw [← hd, steps_len, hD]
   rw [hd]
   have el : (eBs d).length = n := by rw [eBs_len, hdl]
   obtain ⟨x, hx⟩ : ∃ x, m.items[i] = x := ⟨_, rfl⟩
   obtain ⟨hLb, ac⟩ := hall x (hx ▸ List.getElem_mem hil')
   have hgm : m.items.getD i zItem = x := by rw [← hx]; simp [List.getD, hil']
   have hrA : readyA m d i = if x.kind.1 = 5 then (Expr.allL [x.a]).foldl (readyE m d) true else true := by unfold readyA; rw [hgm]
   obtain ⟨L, hL⟩ : ∃ L, Expr.allL [x.a] = L := ⟨_, rfl⟩
   rw [hL] at ac hLb hrA
   simp only [ZE,↓reduceIte,pE,pL,pA,pS,pM,pD] at ac
   have hsd : stepD (readyA m) d i = d.set i (d.getD i false || readyA m d i) := rfl
   have hgd := eBs_getD (d := d) (i := i) (by omega)
   rw [hsd, hrA]
   have hL1 : 0 < L.length := by rw [← hL]; rw [Expr.allL, Expr.all_eq]; simp
   by_cases h5 : x.kind.1 = 5
   ·have g5 : (x.kind.1 == 5) = true := by simp [h5]
    rw [if_pos h5]
    simp (maxSteps := 4000000) only [ZE,↓reduceIte,pE,pL,pA,pS,pM,pD, dec_lt hin, lt_int hin, getD_map hil', hx, zN,qT,qG,qL,qH,qN,qB,qE,qO,qA,qM, List.length_map, hn]
    refine EFn.p ?_
    simp only [ZE,↓reduceIte,pE,pL,pA,pS,pM,pD, zN,qT,qG,qL,qH,qN,qB,qE,qO,qA,qM]
    refine ECall.i ac ?_
    simp only [ZE,↓reduceIte,pE,pL,pA,pS,pM,pD, zN,qT,qG,qL,qH,qN,qB,qE,qO,qA,qM]
    refine eloop (fun _ => []) mixed L.length (fun _ => True) (fun k => ([(1, .bp 1 0), (3, .ar 14 n), (4, .d (eI r)), (5, .d (eI i)), (6, .d (eExprs L)), (7, .d (eB ((L.take k).foldl (readyE m d) true))), (8, .d (eI k))], [(1, .box ((eModule m).map .d)), (14, .arr 4 1 .flat (eBs d))])) trivial ?_ ?_ (fun k hk _ => ?_)
    ·simp only [ZE,↓reduceIte,pE,pL,pA,pS,pM,pD, zN,qT,qG,qL,qH,qN,qB,qE,qO,qA,qM, List.take_zero, List.foldl_nil]
    ·simp only [ZE,↓reduceIte,pE,pL,pA,pS,pM,pD, zN,qT,qG,qL,qH,qN,qB,qE,qO,qA,qM]
    rcases Nat.lt_or_ge k L.length with hkl | hkl
    ·have hw2 := wrap_succ (show k < 9223372036854775807 by omega)
     obtain ⟨e, he⟩ : ∃ e, L[k] = e := ⟨_, rfl⟩
     have hfs : (L.take (k + 1)).foldl (readyE m d) true = m.items.zipIdx.foldl (readyN d e) ((L.take k).foldl (readyE m d) true) := by rw [List.take_succ_eq_append_getElem hkl, List.foldl_append, he]; rfl
     rw [hfs]
     obtain ⟨acc, hacc⟩ : ∃ acc, (L.take k).foldl (readyE m d) true = acc := ⟨_, rfl⟩
     rw [hacc]
     simp (maxSteps := 4000000) only [ZE,↓reduceIte,pE,pL,pA,pS,pM,pD, dec_lt hkl, lt_int hkl, lt_int hin, getD_map hil', hx, g5, zN,qT,qG,qL,qH,qN,qB,qE,qO,qA,qM, List.length_map, hn]
     refine eloop (fun i => if i = 2016 then [.chn, .ord ⟨[(0, none), (1, none), (2, none), (3, none), (4, none), (5, none), (6, none), (7, none), (8, none), (9, none), (10, none), (11, none), (12, none), (13, none), (14, none), (15, none), (16, none), (17, none), (18, none), (19, none), (20, none), (21, none), (22, none), (23, none), (24, none), (25, none), (26, none), (27, none), (28, none)]⟩] else []) mixed n (fun _ => True) (fun j => ([(1, .bp 1 0), (3, .ar 14 n), (4, .d (eI r)), (5, .d (eI i)), (6, .d (eExprs L)), (7, .d (eB ((m.items.zipIdx.take j).foldl (readyN d e) acc))), (8, .d (eI k)), (9, .d (eI j))], [(1, .box ((eModule m).map .d)), (14, .arr 4 1 .flat (eBs d))])) trivial ?_ ?_ (fun j hj _ => ?_)
     ·simp only [ZE,↓reduceIte,pE,pL,pA,pS,pM,pD, zN,qT,qG,qL,qH,qN,qB,qE,qO,qA,qM, List.take_zero, List.foldl_nil]
     ·simp only [ZE,↓reduceIte,pE,pL,pA,pS,pM,pD, zN,qT,qG,qL,qH,qN,qB,qE,qO,qA,qM]
     rcases Nat.lt_or_ge j n with hjn | hjn
     ·have hw3 := wrap_succ (show j < 9223372036854775807 by omega)
      have hjn' : j < m.items.length := by omega
      rw [zip_step _ _ _ _ hjn']
      obtain ⟨y, hy⟩ : ∃ y, m.items[j] = y := ⟨_, rfl⟩
      obtain ⟨q, hq⟩ : ∃ q, (m.items.zipIdx.take j).foldl (readyN d e) acc = q := ⟨_, rfl⟩
      rw [hq, hy]
      have hgj := eBs_getD (d := d) (i := j) (by omega)
      have hN : readyN d e q (y, j) = if (e.op == 14 && y.kind.1 == 5 && decide (y.name = e.name)) = true then (q && d.getD j false) else q := rfl
      rw [hN]
      obtain ⟨w, hcw⟩ : ∃ w, (e.op == 14 && y.kind.1 == 5 && decide (y.name = e.name)) = w := ⟨_, rfl⟩
      rw [hcw]
      cases w with
      | false =>
       rw [if_neg (by simp)]
       simp (maxSteps := 4000000) only [ZE,↓reduceIte,pE,pL,pA,pS,pM,pD, dec_lt hjn, lt_int hjn, getD_map hjn', hy, he, getD_map hkl, lt_int hkl, hcw, hw3, zN,qT,qG,qL,qH,qN,qB,qE,qO,qA,qM, List.length_map, hn]
       exact ⟨by kernel_rfl, hjn⟩
      | true =>
       rw [if_pos rfl]
       cases q with
       | true =>
        simp (maxSteps := 4000000) only [ZE,↓reduceIte,pE,pL,pA,pS,pM,pD, dec_lt hjn, lt_int hjn, getD_map hjn', hy, he, getD_map hkl, lt_int hkl, hcw, hw3, zN,qT,qG,qL,qH,qN,qB,qE,qO,qA,qM, List.length_map, hn, el, hgj, Bool.true_and]
        exact ⟨by kernel_rfl, hjn⟩
       | false =>
        simp (maxSteps := 4000000) only [ZE,↓reduceIte,pE,pL,pA,pS,pM,pD, dec_lt hjn, lt_int hjn, getD_map hjn', hy, he, getD_map hkl, lt_int hkl, hcw, hw3, zN,qT,qG,qL,qH,qN,qB,qE,qO,qA,qM, List.length_map, hn, el, Bool.false_and]
        exact ⟨by kernel_rfl, hjn⟩
     ·have : j = n := by omega
      subst this
      have hzt : m.items.zipIdx.take j = m.items.zipIdx := List.take_of_length_le (by simp; omega)
      simp (maxSteps := 4000000) only [ZE,↓reduceIte,pE,pL,pA,pS,pM,pD, dec_ge hjn, zN,qT,qG,qL,qH,qN,qB,qE,qO,qA,qM, hw2, List.length_map, hn, hzt]
      exact hkl
    ·have : k = L.length := by omega
     subst this
     rw [List.take_length]
     obtain ⟨a, ha⟩ : ∃ a, L.foldl (readyE m d) true = a := ⟨_, rfl⟩
     obtain ⟨b, hb⟩ : ∃ b, d.getD i false = b := ⟨_, rfl⟩
     rw [ha]
     rw [hb] at hgd ⊢
     cases b with
     | true =>
      simp (maxSteps := 4000000) only [ZE,↓reduceIte,pE,pL,pA,pS,pM,pD, dec_ge hkl, lt_int hin, hw', zN,qT,qG,qL,qH,qN,qB,qE,qO,qA,qM, List.length_map, hn, el, hgd, eBs_set, Bool.true_or]
      exact hin
     | false =>
      simp (maxSteps := 4000000) only [ZE,↓reduceIte,pE,pL,pA,pS,pM,pD, dec_ge hkl, lt_int hin, hw', zN,qT,qG,qL,qH,qN,qB,qE,qO,qA,qM, List.length_map, hn, el, hgd, eBs_set, Bool.false_or]
      exact hin
   ·have g5 : (x.kind.1 == 5) = false := by simpa using h5
    rw [if_neg h5]
    obtain ⟨b, hb⟩ : ∃ b, d.getD i false = b := ⟨_, rfl⟩
    rw [hb] at hgd ⊢
    simp (maxSteps := 4000000) only [ZE,↓reduceIte,pE,pL,pA,pS,pM,pD, dec_lt hin, lt_int hin, getD_map hil', hx, zN,qT,qG,qL,qH,qN,qB,qE,qO,qA,qM, List.length_map, hn]
    refine EFn.p ?_
    simp only [ZE,↓reduceIte,pE,pL,pA,pS,pM,pD, zN,qT,qG,qL,qH,qN,qB,qE,qO,qA,qM]
    refine ECall.i ac ?_
    simp only [ZE,↓reduceIte,pE,pL,pA,pS,pM,pD, zN,qT,qG,qL,qH,qN,qB,qE,qO,qA,qM]
    refine eloop (fun _ => []) mixed 0 (fun _ => True) (fun k => ([(1, .bp 1 0), (3, .ar 14 n), (4, .d (eI r)), (5, .d (eI i)), (6, .d (eExprs L)), (7, .d (eB true)), (8, .d (eI 0))], [(1, .box ((eModule m).map .d)), (14, .arr 4 1 .flat (eBs d))])) trivial ?_ ?_ (fun k hk _ => ?_)
    ·simp only [ZE,↓reduceIte,pE,pL,pA,pS,pM,pD, zN,qT,qG,qL,qH,qN,qB,qE,qO,qA,qM]
    ·simp only [ZE,↓reduceIte,pE,pL,pA,pS,pM,pD, zN,qT,qG,qL,qH,qN,qB,qE,qO,qA,qM]
    have : k = 0 := by omega
    subst this
    have dl0 : decide ((0 : Int) < (L.length : Int)) = true := by simp; omega
    cases b with
    | true =>
     simp (maxSteps := 4000000) only [ZE,↓reduceIte,pE,pL,pA,pS,pM,pD, dl0, lt_int hin, getD_map hil', hx, g5, hw', zN,qT,qG,qL,qH,qN,qB,qE,qO,qA,qM, List.length_map, hn, el, hgd, eBs_set, Bool.true_or]
     exact hin
    | false =>
     simp (maxSteps := 4000000) only [ZE,↓reduceIte,pE,pL,pA,pS,pM,pD, dl0, lt_int hin, getD_map hil', hx, g5, hw', zN,qT,qG,qL,qH,qN,qB,qE,qO,qA,qM, List.length_map, hn, el, hgd, eBs_set, Bool.false_or]
     exact hin
  ·have : i = n := by omega
   subst this
   simp (maxSteps := 4000000) only [ZE,↓reduceIte,pE,pL,pA,pS,pM,pD, dec_ge hin, zN,qT,qG,qL,qH,qN,qB,qE,qO,qA,qM, hw, List.length_map, hn]
   exact h
 ·have hrn : r = n + 1 := by omega
  have dle : decide ((r : Int) ≤ (n : Int)) = false := by simp; omega
  have hD := rounds_len n (readyA m) r
  have hset : acyclicM m = (roundsD n (readyA m) r).all id := by unfold acyclicM; rw [hn, hrn]
  rw [hset]
  clear hset
  obtain ⟨D, hDD⟩ : ∃ D, roundsD n (readyA m) r = D := ⟨_, rfl⟩
  rw [hDD] at hD ⊢
  have el : (eBs D).length = n := by rw [eBs_len, hD]
  simp (maxSteps := 4000000) only [ZE,↓reduceIte,pE,pL,pA,pS,pM,pD, dle, zN,qT,qG,qL,qH,qN,qB,qE,qO,qA,qM, List.length_map, hn, el]
  refine eloop (fun _ => []) mixed n (fun i => ∀ j < i, D.getD j false = true) (fun i => ([(1, .bp 1 0), (3, .ar 14 n), (10, .d (eI i))], [(1, .box ((eModule m).map .d)), (14, .arr 4 1 .flat (eBs D))])) (by simp) (by simp only [ZE,↓reduceIte,pE,pL,pA,pS,pM,pD, zN,qT,qG,qL,qH,qN,qB,qE,qO,qA,qM]) (by simp only [ZE,↓reduceIte,pE,pL,pA,pS,pM,pD]) (fun i hi hI => ?_)
  rcases Nat.lt_or_ge i n with hin | hin
  ·have hw' := wrap_succ (show i < 9223372036854775807 by omega)
   have hgd := eBs_getD (d := D) (i := i) (by omega)
   obtain ⟨b, hb⟩ : ∃ b, D.getD i false = b := ⟨_, rfl⟩
   rw [hb] at hgd
   cases b with
   | true =>
    simp (maxSteps := 4000000) only [ZE,↓reduceIte,pE,pL,pA,pS,pM,pD, dec_lt hin, lt_int hin, hw', zN,qT,qG,qL,qH,qN,qB,qE,qO,qA,qM, el, hgd]
    refine ⟨hin, hin, fun j hj => ?_⟩
    rcases Nat.lt_succ_iff_lt_or_eq.1 hj with hj | rfl
    ·exact hI j hj
    ·exact hb
   | false =>
    have hf : D.all id = false := by
     rw [List.all_eq_false]
     have hlt : i < D.length := by omega
     refine ⟨D[i], List.getElem_mem hlt, ?_⟩
     rw [List.getD_eq_getElem?_getD, List.getElem?_eq_getElem hlt] at hb
     simp only [Option.getD_some] at hb
     rw [hb]; simp
    simp (maxSteps := 4000000) only [ZE,↓reduceIte,pE,pL,pA,pS,pM,pD, dec_lt hin, lt_int hin, hw', zN,qT,qG,qL,qH,qN,qB,qE,qO,qA,qM, el, hgd, hf]
    exact hin
  ·have hf : D.all id = true := by
    rw [List.all_eq_true]
    intro b hb
    obtain ⟨j, hj, rfl⟩ := List.getElem_of_mem hb
    have := hI j (by omega)
    rw [List.getD_eq_getElem?_getD, List.getElem?_eq_getElem hj] at this
    simpa using this
   simp (maxSteps := 4000000) only [ZE,↓reduceIte,pE,pL,pA,pS,pM,pD, dec_ge hin, zN,qT,qG,qL,qH,qN,qB,qE,qO,qA,qM, el, hf]
end Go.Proofs.Ytejpmjnefokdoaa

/-
 CONTRACTS: a name swapped, a register or wire renamed.
-/
namespace Go.Proofs.Ytejpmjnefokdoaa
open Go.Aw
open Nat renaming reduceEqDiff → pE, reduceLT → pL, reduceAdd → pA, reduceSub → pS, reduceMul → pM, reduceLeDiff → pD
open Int renaming reduceToNat → qT, reduceGT → qG, reduceLT → qL, reduceGE → qH, reduceBNe → qN, reduceBEq → qB, reduceLE → qE, reduceNe → qO, reduceAdd → qA, reduceNeg → qM
set_option maxRecDepth 100000
set_option maxHeartbeats 4000000
mutual
def swapE (o n : Str) : Expr → Expr
 | .mk p s k w a => .mk p (if ((p == 14 || p == 15) && decide (s = o)) = true then n else s) k w (swapL o n a)
def swapL (o n : Str) : List Expr → List Expr
 | [] => []
 | e :: r => swapE o n e :: swapL o n r
end
theorem swapL_map (o n : Str) : ∀ l : List Expr, swapL o n l = l.map (swapE o n)
 | [] => by simp [swapL]
 | e :: r => by simp [swapL, swapL_map o n r]
def swN (o n : Str) (e : Expr) : Str := if ((e.op == 14 || e.op == 15) && decide (e.name = o)) = true then n else e.name
theorem swapE_eq (o n : Str) (e : Expr) : swapE o n e = .mk e.op (swN o n e) e.k e.w (e.args.map (swapE o n)) := by
 cases e; rw [swapE, swapL_map]; rfl
theorem sz_args (e : Expr) : sz e = (e.args.map sz).sum + 1 := by cases e; rw [sz_mk]; rfl
theorem sz_pos (e : Expr) : 0 < sz e := by rw [sz_args]; omega
theorem sum_mem {l : List Expr} : ∀ {x : Expr}, x ∈ l → sz x ≤ (l.map sz).sum := by
 induction l with
 | nil => intro x h; simp at h
 | cons y r ih =>
  intro x h
  rw [List.map_cons, List.sum_cons]
  rcases List.mem_cons.1 h with rfl | h
  ·omega
  ·have := ih h; omega
theorem sum_len : ∀ l : List Expr, l.length ≤ (l.map sz).sum
 | [] => by simp
 | y :: r => by
  have := sum_len r
  have := sz_pos y
  rw [List.map_cons, List.sum_cons, List.length_cons]; omega
theorem rowsOk_exprs (l : List Expr) : rowsOk 7 (l.map eExpr) := by
 intro y hy
 obtain ⟨q, _, rfl⟩ := List.mem_map.1 hy
 simp [eExpr_eq, eI, eS, D.one, Value.oneCell']
theorem swap_c (o n : Str) (m : Nat) : ∀ e : Expr, sz e < m → m ≤ 1000000 → FnP Try.prog 40 [.agg (eExpr e), .agg [eS o, eS n]] (.d (.agg (eExpr (swapE o n e)))) [] := by
 induction m with
 | zero => intro e h; omega
 | succ m ih =>
  intro e hk hm
  obtain ⟨p, s, k, w, a⟩ := e
  rw [sz_mk] at hk
  have hal := sum_len a
  refine FnP.of_eC (own := []) (fun i => if i = 2001 then [.chn] else []) mixed Try.func40 rfl Try.call40 Try.ntmps40 (Nat.le_of_ble_eq_true rfl) Try.results40 (fun hok => ?_)
  rw [swapE_eq]
  by_cases h1 : ((p == 14 || p == 15) && decide (s = o)) = true
  ·have hs : swN o n (.mk p s k w a) = n := by unfold swN; exact if_pos h1
   rw [hs]
   simp (maxSteps := 4000000) only [ZE,↓reduceIte,pE,pL,pA,pS,pM,pD, zN,qT,qG,qL,qH,qN,qB,qE,qO,qA,qM, op_mk, name_mk, k_mk, w_mk, args_mk, h1]

   refine eloop (fun i => if i = 2007 then [.ord ⟨[(0, none), (1, none), (2, none), (3, none), (4, none), (5, none), (6, none), (7, none), (8, none), (9, some []), (10, some [])]⟩] else []) mixed a.length (fun _ => True) (fun i => ([(2, .bp 2 0), (3, .bp 3 0), (4, .bp 4 0), (5, .ar 25 i), (6, .d (eI i))], [(2, .box ((eExpr (.mk p n k w a)).map .d)), (3, .box [.d (eS o), .d (eS n)]), (4, .box [.d (eI 0), .d (eS emp), .d (eI 0), .d (eS emp), .d (eI 0), .d (eS emp), .nils]), (25, .arr 50 7 .flat ((a.take i).map fun x => eExpr (swapE o n x)))])) trivial ?_ ?_ (fun i hi _ => ?_)
   ·simp (maxSteps := 4000000) only [ZE,↓reduceIte,pE,pL,pA,pS,pM,pD, op_mk, name_mk, k_mk, w_mk, args_mk, zExpr, zNum, emp]
   ·simp (maxSteps := 4000000) only [ZE,↓reduceIte,pE,pL,pA,pS,pM,pD, op_mk, name_mk, k_mk, w_mk, args_mk, zExpr, zNum, emp, List.take_zero]
   rcases Nat.lt_or_ge i a.length with h | h
   ·have hw := wrap_succ (show i < 9223372036854775807 by omega)
    have hc := ih a[i] (by have := sum_mem (List.getElem_mem h); omega) (by omega)
    have ht : (a.take (i + 1)).map (fun x => eExpr (swapE o n x)) = (a.take i).map (fun x => eExpr (swapE o n x)) ++ [eExpr (swapE o n a[i])] := by rw [List.take_succ_eq_append_getElem h, List.map_append]; rfl
    rw [ht]
    obtain ⟨z, hz⟩ : ∃ z, swapE o n a[i] = z := ⟨_, rfl⟩
    rw [hz] at hc ⊢
    have hL : ((a.take i).map fun x => eExpr (swapE o n x)).length = i := by rw [List.length_map, List.length_take]; omega
    obtain ⟨R, hR⟩ : ∃ R, (a.take i).map (fun x => eExpr (swapE o n x)) = R := ⟨_, rfl⟩
    rw [hR] at hL ⊢
    simp only [ZE,↓reduceIte,pE,pL,pA,pS,pM,pD] at hc
    simp (maxSteps := 4000000) only [ZE,↓reduceIte,pE,pL,pA,pS,pM,pD, dec_lt h, getD_map h, lt_int h, hw, zN,qT,qG,qL,qH,qN,qB,qE,qO,qA,qM, op_mk, name_mk, k_mk, w_mk, args_mk, zExpr, zNum, emp, hL]
    refine ⟨by kernel_rfl, ECall'.i hc ?_⟩
    simp (maxSteps := 4000000) only [ZE,↓reduceIte,pE,pL,pA,pS,pM,pD, zN,qT,qG,qL,qH,qN,qB,qE,qO,qA,qM, hL, hw, op_mk, name_mk, k_mk, w_mk, args_mk, zExpr, zNum, emp]
    exact ⟨⟨by omega, by omega⟩, h⟩
   ·have : i = a.length := by omega
    subst this
    simp (maxSteps := 4000000) only [ZE,↓reduceIte,pE,pL,pA,pS,pM,pD, dec_ge h, zN,qT,qG,qL,qH,qN,qB,qE,qO,qA,qM, op_mk, name_mk, k_mk, w_mk, args_mk, zExpr, zNum, emp, List.take_length]
    simp only [List.map_map, Function.comp_def, eExpr_eq, eI, eS]
  ·have hs : swN o n (.mk p s k w a) = s := by unfold swN; exact if_neg h1
   rw [hs]
   have h1' := Bool.eq_false_iff.2 h1
   simp (maxSteps := 4000000) only [ZE,↓reduceIte,pE,pL,pA,pS,pM,pD, zN,qT,qG,qL,qH,qN,qB,qE,qO,qA,qM, op_mk, name_mk, k_mk, w_mk, args_mk, h1']
   refine eloop (fun i => if i = 2007 then [.ord ⟨[(0, none), (1, none), (2, none), (3, none), (4, none), (5, none), (6, none), (7, none), (8, none), (9, some []), (10, some [])]⟩] else []) mixed a.length (fun _ => True) (fun i => ([(2, .bp 2 0), (3, .bp 3 0), (4, .bp 4 0), (5, .ar 25 i), (6, .d (eI i))], [(2, .box ((eExpr (.mk p s k w a)).map .d)), (3, .box [.d (eS o), .d (eS n)]), (4, .box [.d (eI 0), .d (eS emp), .d (eI 0), .d (eS emp), .d (eI 0), .d (eS emp), .nils]), (25, .arr 50 7 .flat ((a.take i).map fun x => eExpr (swapE o n x)))])) trivial ?_ ?_ (fun i hi _ => ?_)
   ·simp (maxSteps := 4000000) only [ZE,↓reduceIte,pE,pL,pA,pS,pM,pD, op_mk, name_mk, k_mk, w_mk, args_mk, zExpr, zNum, emp]
   ·simp (maxSteps := 4000000) only [ZE,↓reduceIte,pE,pL,pA,pS,pM,pD, op_mk, name_mk, k_mk, w_mk, args_mk, zExpr, zNum, emp, List.take_zero]
   rcases Nat.lt_or_ge i a.length with h | h
   ·have hw := wrap_succ (show i < 9223372036854775807 by omega)
    have hc := ih a[i] (by have := sum_mem (List.getElem_mem h); omega) (by omega)
    have ht : (a.take (i + 1)).map (fun x => eExpr (swapE o n x)) = (a.take i).map (fun x => eExpr (swapE o n x)) ++ [eExpr (swapE o n a[i])] := by rw [List.take_succ_eq_append_getElem h, List.map_append]; rfl
    rw [ht]
    obtain ⟨z, hz⟩ : ∃ z, swapE o n a[i] = z := ⟨_, rfl⟩
    rw [hz] at hc ⊢
    have hL : ((a.take i).map fun x => eExpr (swapE o n x)).length = i := by rw [List.length_map, List.length_take]; omega
    obtain ⟨R, hR⟩ : ∃ R, (a.take i).map (fun x => eExpr (swapE o n x)) = R := ⟨_, rfl⟩
    rw [hR] at hL ⊢
    simp only [ZE,↓reduceIte,pE,pL,pA,pS,pM,pD] at hc
    simp (maxSteps := 4000000) only [ZE,↓reduceIte,pE,pL,pA,pS,pM,pD, dec_lt h, getD_map h, lt_int h, hw, zN,qT,qG,qL,qH,qN,qB,qE,qO,qA,qM, op_mk, name_mk, k_mk, w_mk, args_mk, zExpr, zNum, emp, hL]
    refine ⟨by kernel_rfl, ECall'.i hc ?_⟩
    simp (maxSteps := 4000000) only [ZE,↓reduceIte,pE,pL,pA,pS,pM,pD, zN,qT,qG,qL,qH,qN,qB,qE,qO,qA,qM, hL, hw, op_mk, name_mk, k_mk, w_mk, args_mk, zExpr, zNum, emp]
    exact ⟨⟨by omega, by omega⟩, h⟩
   ·have : i = a.length := by omega
    subst this
    simp (maxSteps := 4000000) only [ZE,↓reduceIte,pE,pL,pA,pS,pM,pD, dec_ge h, zN,qT,qG,qL,qH,qN,qB,qE,qO,qA,qM, op_mk, name_mk, k_mk, w_mk, args_mk, zExpr, zNum, emp, List.take_length]
    simp only [List.map_map, Function.comp_def, eExpr_eq, eI, eS]
end Go.Proofs.Ytejpmjnefokdoaa

/-
 CONTRACTS: all expressions within expressions, as a list.
-/
namespace Go.Proofs.Ytejpmjnefokdoaa
open Go.Aw
open Nat renaming reduceEqDiff → pE, reduceLT → pL, reduceAdd → pA, reduceSub → pS, reduceMul → pM, reduceLeDiff → pD
open Int renaming reduceToNat → qT, reduceGT → qG, reduceLT → qL, reduceGE → qH, reduceBNe → qN, reduceBEq → qB, reduceLE → qE, reduceNe → qO, reduceAdd → qA, reduceNeg → qM
set_option maxRecDepth 100000
set_option maxHeartbeats 4000000
theorem allL_args_le (l : List Expr) (i : Nat) (h : i < l.length) : (Expr.allL (l.take i)).length + 1 + (Expr.allL l[i].args).length ≤ (Expr.allL l).length := by
 have h1 := (allL_pre l (i + 1)).length_le
 rw [allL_step l i h, List.length_append, List.length_cons] at h1
 omega
theorem all_c (m : Nat) : ∀ l : List Expr, (Expr.allL l).length < m → m ≤ 10000000 → FnP Try.prog 17 [eExprs l] (.d (eExprs (Expr.allL l))) [] := by
 induction m with
 | zero => intro l h; omega
 | succ m ih =>
  intro l hl hm
  refine FnP.of_eC (own := []) (fun _ => []) mixed Try.func17 rfl Try.call17 Try.ntmps17 (Nat.le_of_ble_eq_true rfl) Try.results17 (fun hok => ?_)
  have hll := (ok_map (okL_cons hok).1).1
  simp (maxSteps := 4000000) only [ZE,↓reduceIte,pE,pL,pA,pS,pM,pD, zN,qT,qG,qL,qH,qN,qB,qE,qO,qA,qM]
  refine eloop (fun _ => []) mixed l.length (fun _ => True) (fun i => ([(0, .d (eExprs l)), (3, .ar 5 (Expr.allL (l.take i)).length), (4, .d (eI i))], [(5, .arr 50 7 .flat ((Expr.allL (l.take i)).map eExpr))])) trivial ?_ ?_ (fun i hi _ => ?_)
  ·simp only [ZE,↓reduceIte,pE,pL,pA,pS,pM,pD, List.take_zero, Expr.allL, List.length_nil]
  ·simp only [ZE,↓reduceIte,pE,pL,pA,pS,pM,pD, List.take_zero, Expr.allL]
  rcases Nat.lt_or_ge i l.length with h | h
  ·have hw := wrap_succ (show i < 9223372036854775807 by omega)
   have hle := allL_args_le l i h
   have hc := ih l[i].args (by omega) (by omega)
   rw [allL_step l i h]
   obtain ⟨R, hR⟩ : ∃ R, Expr.allL (l.take i) = R := ⟨_, rfl⟩
   obtain ⟨L, hL⟩ : ∃ L, Expr.allL l[i].args = L := ⟨_, rfl⟩
   rw [hR, hL] at hle
   rw [hL] at hc
   rw [hR, hL]
   have rl := rowsOk_exprs L
   simp only [ZE,↓reduceIte,pE,pL,pA,pS,pM,pD] at hc
   simp (maxSteps := 4000000) only [ZE,↓reduceIte,pE,pL,pA,pS,pM,pD, dec_lt h, getD_map h, lt_int h, hw, zN,qT,qG,qL,qH,qN,qB,qE,qO,qA,qM]
   refine ⟨⟨by omega, by omega⟩, EFn.p ?_⟩
   simp only [ZE,↓reduceIte,pE,pL,pA,pS,pM,pD, zN,qT,qG,qL,qH,qN,qB,qE,qO,qA,qM]
   refine ECall.i hc ?_
   simp only [ZE,↓reduceIte,pE,pL,pA,pS,pM,pD, zN,qT,qG,qL,qH,qN,qB,qE,qO,qA,qM, hw, List.length_append, List.length_cons, List.map_append, List.map_cons]
   exact ⟨⟨rl, by omega, by omega⟩, h, by rw [show R.length + 1 + L.length = R.length + (L.length + 1) by omega], by rw [List.append_assoc]; rfl⟩
  ·have : i = l.length := by omega
   subst this
   simp (maxSteps := 4000000) only [ZE,↓reduceIte,pE,pL,pA,pS,pM,pD, dec_ge h, zN,qT,qG,qL,qH,qN,qB,qE,qO,qA,qM, List.take_length]
end Go.Proofs.Ytejpmjnefokdoaa

/-
 CONTRACTS: the size of a file.
-/
namespace Go.Proofs.Ytejpmjnefokdoaa
open Go.Aw
open Nat renaming reduceEqDiff → pE, reduceLT → pL, reduceAdd → pA, reduceSub → pS, reduceMul → pM, reduceLeDiff → pD
open Int renaming reduceToNat → qT, reduceGT → qG, reduceLT → qL, reduceGE → qH, reduceBNe → qN, reduceBEq → qB, reduceLE → qE, reduceNe → qO, reduceAdd → qA, reduceNeg → qM
set_option maxRecDepth 100000
set_option maxHeartbeats 8000000
def sizeI (x : Item) : Nat := (Expr.allL [x.a, x.b, x.c]).length + x.ports.length + x.args.length
def sizeM (m : Module) : Nat := m.items.length + m.params.length + (m.items.map sizeI).sum
def sizeF (l : List Module) : Nat := (l.map sizeM).sum
theorem take_sum {α : Type} (f : α → Nat) (l : List α) (i : Nat) (h : i < l.length) : ((l.take (i + 1)).map f).sum = ((l.take i).map f).sum + f l[i] := by
 rw [List.take_succ_eq_append_getElem h, List.map_append, List.sum_append]; simp
theorem take_sum_le {α : Type} (f : α → Nat) (l : List α) (i : Nat) : ((l.take i).map f).sum ≤ (l.map f).sum := by
 conv => rhs; rw [← List.take_append_drop i l, List.map_append, List.sum_append]
 omega
theorem size_c (l : List Module) (hB : sizeF l ≤ 9000000) (hl : l.length ≤ 9000000) : FnP Try.prog 18 [.agg [eModules l]] (.d (eI (sizeF l))) [] := by
 refine FnP.of_eC (own := []) (fun _ => []) mixed Try.func18 rfl Try.call18 Try.ntmps18 (Nat.le_of_ble_eq_true rfl) Try.results18 (fun hok => ?_)
 simp (maxSteps := 4000000) only [ZE,↓reduceIte,pE,pL,pA,pS,pM,pD, zN,qT,qG,qL,qH,qN,qB,qE,qO,qA,qM]
 refine eloop (fun _ => []) mixed l.length (fun _ => True) (fun i => ([(1, .bp 1 0), (3, .d (eI (((l.take i).map sizeM).sum : Nat))), (4, .d (eI i))], [(1, .box [.d (eModules l)])])) trivial ?_ ?_ (fun i hi _ => ?_)
 ·simp only [ZE,↓reduceIte,pE,pL,pA,pS,pM,pD, List.take_zero, List.map_nil, List.sum_nil, Int.natCast_zero]
 ·simp only [ZE,↓reduceIte,pE,pL,pA,pS,pM,pD]
 rcases Nat.lt_or_ge i l.length with h | h
 ·have hw := wrap_succ (show i < 9223372036854775807 by omega)
  have hs := take_sum sizeM l i h
  have hle := take_sum_le sizeM l (i + 1)
  obtain ⟨S, hS⟩ : ∃ S, ((l.take i).map sizeM).sum = S := ⟨_, rfl⟩
  obtain ⟨m, hm⟩ : ∃ m, l[i] = m := ⟨_, rfl⟩
  rw [hS, hm] at hs
  rw [hs] at hle ⊢
  rw [hS]
  have hB' : S + sizeM m ≤ 9000000 := Nat.le_trans hle hB
  unfold sizeM at hB'
  have w1 : IntKind.i64.wrap ((m.items.length : Int) + (m.params.length : Int)) = ((m.items.length + m.params.length : Nat) : Int) := wrap_id (by omega) (by omega)
  have w2 : IntKind.i64.wrap ((S : Int) + ((m.items.length + m.params.length : Nat) : Int)) = ((S + (m.items.length + m.params.length) : Nat) : Int) := wrap_id (by omega) (by omega)
  simp (maxSteps := 4000000) only [ZE,↓reduceIte,pE,pL,pA,pS,pM,pD, dec_lt h, getD_map h, lt_int h, hm, w1, w2, zN,qT,qG,qL,qH,qN,qB,qE,qO,qA,qM]
  refine eloop (fun i => if i = 2010 then [.ord ⟨[(0, none), (1, none), (2, none), (3, none), (4, none), (5, none), (6, none), (7, none), (8, none), (9, none), (10, none), (11, none), (12, none), (13, none), (14, none), (15, none), (16, none), (17, none), (18, none), (19, none), (20, none), (21, none), (22, none), (23, none), (24, none), (25, none), (26, none), (27, none), (28, none), (29, none), (30, none), (31, none), (32, none), (33, none), (34, none), (35, none), (36, none), (37, none), (38, none), (39, some [])]⟩] else []) mixed m.items.length (fun _ => True) (fun k => ([(1, .bp 1 0), (3, .d (eI ((S + (m.items.length + m.params.length) + ((m.items.take k).map sizeI).sum : Nat) : Int))), (4, .d (eI i)), (5, .bp 5 0), (6, .d (eI k))], [(5, .box ((eModule m).map .d)), (1, .box [.d (eModules l)])])) trivial ?_ ?_ (fun k hk _ => ?_)
  ·simp only [ZE,↓reduceIte,pE,pL,pA,pS,pM,pD, List.take_zero, List.map_nil, List.sum_nil, Nat.add_zero]
  ·simp only [ZE,↓reduceIte,pE,pL,pA,pS,pM,pD]
  rcases Nat.lt_or_ge k m.items.length with h' | h'
  ·have hw' := wrap_succ (show k < 9223372036854775807 by omega)
   have hs' := take_sum sizeI m.items k h'
   have hle' := take_sum_le sizeI m.items (k + 1)
   obtain ⟨x, hx⟩ : ∃ x, m.items[k] = x := ⟨_, rfl⟩
   obtain ⟨T, hT⟩ : ∃ T, ((m.items.take k).map sizeI).sum = T := ⟨_, rfl⟩
   rw [hT, hx] at hs'
   rw [hs'] at hle' ⊢
   rw [hT]
   have hTx : T + sizeI x ≤ 9000000 := by omega
   unfold sizeI at hTx
   have ac := all_c 9500000 [x.a, x.b, x.c] (by omega) (by omega)
   have hsi : sizeI x = (Expr.allL [x.a, x.b, x.c]).length + x.ports.length + x.args.length := rfl
   rw [hsi]
   have hbnd : S + (m.items.length + m.params.length) + T + ((Expr.allL [x.a, x.b, x.c]).length + x.ports.length + x.args.length) ≤ 30000000 := by omega
   obtain ⟨L, hL⟩ : ∃ L, Expr.allL [x.a, x.b, x.c] = L := ⟨_, rfl⟩
   rw [hL] at ac hbnd ⊢
   obtain ⟨N, hN⟩ : ∃ N, S + (m.items.length + m.params.length) = N := ⟨_, rfl⟩
   rw [hN] at hbnd ⊢
   have v1 : IntKind.i64.wrap ((L.length : Int) + (x.ports.length : Int)) = ((L.length + x.ports.length : Nat) : Int) := wrap_id (by omega) (by omega)
   have v2 : IntKind.i64.wrap (((L.length + x.ports.length : Nat) : Int) + (x.args.length : Int)) = ((L.length + x.ports.length + x.args.length : Nat) : Int) := wrap_id (by omega) (by omega)
   have v3 : IntKind.i64.wrap (((N + T : Nat) : Int) + ((L.length + x.ports.length + x.args.length : Nat) : Int)) = ((N + (T + (L.length + x.ports.length + x.args.length)) : Nat) : Int) := by
    rw [wrap_id (by omega) (by omega)]; omega
   simp only [ZE,↓reduceIte,pE,pL,pA,pS,pM,pD, List.map_cons, List.map_nil] at ac
   simp (maxSteps := 4000000) only [ZE,↓reduceIte,pE,pL,pA,pS,pM,pD, dec_lt h', getD_map h', lt_int h', hx, hw', zN,qT,qG,qL,qH,qN,qB,qE,qO,qA,qM]
   refine ⟨by kernel_rfl, ECall'.i ac ?_⟩
   simp (maxSteps := 4000000) only [ZE,↓reduceIte,pE,pL,pA,pS,pM,pD, zN,qT,qG,qL,qH,qN,qB,qE,qO,qA,qM, v1, v2, v3, hw', List.length_map, getD_map h', lt_int h', hx]
   exact h'
  ·have : k = m.items.length := by omega
   subst this
   have e : S + (m.items.length + m.params.length) + (m.items.map sizeI).sum = S + sizeM m := by unfold sizeM; omega
   simp (maxSteps := 4000000) only [ZE,↓reduceIte,pE,pL,pA,pS,pM,pD, dec_ge h', zN,qT,qG,qL,qH,qN,qB,qE,qO,qA,qM, hw, List.take_length, e]
   exact h
 ·have : i = l.length := by omega
  subst this
  have e : (l.map sizeM).sum = sizeF l := rfl
  simp (maxSteps := 4000000) only [ZE,↓reduceIte,pE,pL,pA,pS,pM,pD, dec_ge h, zN,qT,qG,qL,qH,qN,qB,qE,qO,qA,qM, List.take_length, e]
end Go.Proofs.Ytejpmjnefokdoaa

/-
 CONTRACTS: a file of which one part is another one.
-/
namespace Go.Proofs.Ytejpmjnefokdoaa
open Go.Aw
open Nat renaming reduceEqDiff → pE, reduceLT → pL, reduceAdd → pA, reduceSub → pS, reduceMul → pM, reduceLeDiff → pD
open Int renaming reduceToNat → qT, reduceGT → qG, reduceLT → qL, reduceGE → qH, reduceBNe → qN, reduceBEq → qB, reduceLE → qE, reduceNe → qO, reduceAdd → qA, reduceNeg → qM
set_option maxRecDepth 100000
set_option maxHeartbeats 20000000
def kindN (n : Nat) : I64 := if h : n ≤ 9223372036854775807 then ⟨(n : Int), wf_nat h⟩ else ⟨0, rfl⟩
theorem kindN_1 {n : Nat} (h : n ≤ 1000) : (kindN n).1 = (n : Int) := by unfold kindN; rw [dif_pos (by omega)]
def spoilI (k1 k3 : Nat) (s : Str) (x : Item) : Item :=
 if k1 % 12 = 4 then { x with name := s } else if k1 % 12 = 5 then { x with kind := kindN (k3 % 11) } else if k1 % 12 = 6 then { x with width := ⟨x.width.n, s⟩ }
 else if k1 % 12 = 7 then { x with a := .mk 14 s zNum zNum [] } else if k1 % 12 = 8 then { x with a := .mk (k3 % 20 : Nat) s zNum zNum [x.a] }
 else if k1 % 12 = 9 then { x with rule := ⟨(k3 % 6 : Nat) - 1, s, 0⟩ } else if k1 % 12 = 10 then { x with of := s } else if k1 % 12 = 11 then { x with ports := x.ports ++ [⟨sX, s⟩] } else x
def spoilL (k1 k3 : Nat) (s : Str) (l : List Item) (n : Nat) (x : Item) : List Item := (if k1 % 12 < 4 then l ++ [x] else l).set n (spoilI k1 k3 s x)
def spoilM (k1 k2 k3 : Nat) (s : Str) (m : Module) : Module :=
 if m.items.length = 0 ∨ k1 % 16 < 4 then
  (if k1 % 4 = 0 then { m with name := s } else if k1 % 4 = 1 then { m with clock := s } else if k1 % 4 = 2 then { m with params := m.params ++ [s] } else { m with items := m.items ++ [{ zItem with kind := kindN (k2 % 11), name := s }] })
 else { m with items := spoilL k1 k3 s m.items (k2 % m.items.length) (m.items.getD (k2 % m.items.length) zItem) }
theorem rowsOk_strs (l : List Str) : rowsOk 1 (l.map fun s => [D.lit (.string s.1)]) := by
 intro y hy
 obtain ⟨q, _, rfl⟩ := List.mem_map.1 hy
 simp [D.one, Value.oneCell']
theorem rowsOk_mods (l : List Module) : rowsOk 4 (l.map eModule) := by
 intro y hy
 obtain ⟨q, _, rfl⟩ := List.mem_map.1 hy
 simp [eModule, eS, eStrs, eItems, D.one, Value.oneCell']
theorem rowsOk_binds (l : List Bind) : rowsOk 2 (l.map eBind) := by
 intro y hy
 obtain ⟨q, _, rfl⟩ := List.mem_map.1 hy
 simp [eBind, eS, D.one, Value.oneCell']
theorem spoil0_c (f : List Module) (k0 k1 k2 k3 : Nat) (s : Str) (h0 : k0 < 256) (h1 : k1 < 256) (h2 : k2 < 256) (h3 : k3 < 256) (hf : f.length ≤ 1000) (i : Nat) (hi : i < f.length) (hki : k0 % f.length = i) (m : Module) (hm : f[i] = m) (hl : m.items.length ≤ 800) (hp : m.params.length ≤ 800)
  (hc : m.items.length = 0 ∨ k1 % 16 < 4) : FnP Try.prog 10 [.agg [eModules f], .agg [eU8 k0, eU8 k1, eU8 k2, eU8 k3], eS s] (.d (.agg [eModules (f.set i (spoilM k1 k2 k3 s m))])) [] := by
 refine FnP.of_eC (own := []) (fun i => if i = 1016 then [.frz 34] else if i = 1039 then [.frz 34] else if i = 15 then [.frz 73] else if i = 37 then [.frz 157] else if i = 31 then [.frz 138] else if i = 29 then [.adB 11 14 99 50 7, .frz 99] else []) mixed Try.func10 rfl Try.call10 Try.ntmps10 (Nat.le_of_ble_eq_true rfl) Try.results10 (fun hok => ?_)
 have e1 : IntKind.i64.wrap (k0 : Int) = (k0 : Int) := wrap_id (by omega) (by omega)
 have e2 : IntKind.i64.wrap (k2 : Int) = (k2 : Int) := wrap_id (by omega) (by omega)
 have r1 : (k0 : Int).tmod (f.length : Int) = (i : Int) := by rw [← hki]; exact (Int.ofNat_tmod _ _).symm
 have m16 : (k1 : Int).tmod 16 = ((k1 % 16 : Nat) : Int) := (Int.ofNat_tmod _ _).symm
 have m4 : (k1 : Int).tmod 4 = ((k1 % 4 : Nat) : Int) := (Int.ofNat_tmod _ _).symm
 have m12 : (k1 : Int).tmod 12 = ((k1 % 12 : Nat) : Int) := (Int.ofNat_tmod _ _).symm
 have z1 : ¬ (f.length : Int) = 0 := by omega
 have z2 : ((f.length : Int) == 0) = false := by rw [beq_eq_false_iff_ne]; omega
 have ro := rowsOk_mods f
 have ri := rowsOk_items m.items
 have m11 : (k2 : Int).tmod 11 = ((k2 % 11 : Nat) : Int) := (Int.ofNat_tmod _ _).symm
 have e11 : IntKind.i64.wrap ((k2 % 11 : Nat) : Int) = ((k2 % 11 : Nat) : Int) := wrap_id (by omega) (by omega)
 rw [spoilM, if_pos hc]
 by_cases hz : m.items.length = 0
 ·have hz' : ((m.items.length : Int) == 0) = true := by simp [hz]
  by_cases b0 : k1 % 4 = 0
  ·have g0 : (((k1 % 4 : Nat) : Int) == 0) = true := by simp [b0]
   rw [if_pos b0]
   simp (maxSteps := 4000000) only [ZE,↓reduceIte,pE,pL,pA,pS,pM,pD, zN,qT,qG,qL,qH,qN,qB,qE,qO,qA,qM, e1, e2, r1, m16, m4, m12, z1, z2, not_false_eq_true, getD_map hi, lt_int hi, List.length_map, hm, hz', g0, List.length_append, List.length_map, List.length_cons, List.length_nil, List.length_set, List.map_set, List.map_append, List.map_cons, List.map_nil]
   repeat' apply And.intro
   all_goals first | assumption | omega | simp only [ZE,↓reduceIte,pE,pL,pA,pS,pM,pD, List.length_append, List.length_map, List.length_cons, List.length_nil, List.length_set, List.map_set, List.map_append, List.map_cons, List.map_nil]
  have g0 : (((k1 % 4 : Nat) : Int) == 0) = false := by simp; omega
  rw [if_neg b0]
  by_cases b1 : k1 % 4 = 1
  ·have g1 : (((k1 % 4 : Nat) : Int) == 1) = true := by simp [b1]
   rw [if_pos b1]
   simp (maxSteps := 4000000) only [ZE,↓reduceIte,pE,pL,pA,pS,pM,pD, zN,qT,qG,qL,qH,qN,qB,qE,qO,qA,qM, e1, e2, r1, m16, m4, m12, z1, z2, not_false_eq_true, getD_map hi, lt_int hi, List.length_map, hm, hz', g0, g1, List.length_append, List.length_map, List.length_cons, List.length_nil, List.length_set, List.map_set, List.map_append, List.map_cons, List.map_nil]
   repeat' apply And.intro
   all_goals first | assumption | omega | simp only [ZE,↓reduceIte,pE,pL,pA,pS,pM,pD, List.length_append, List.length_map, List.length_cons, List.length_nil, List.length_set, List.map_set, List.map_append, List.map_cons, List.map_nil]
  have g1 : (((k1 % 4 : Nat) : Int) == 1) = false := by simp; omega
  rw [if_neg b1]
  by_cases b2 : k1 % 4 = 2
  ·have g2 : (((k1 % 4 : Nat) : Int) == 2) = true := by simp [b2]
   rw [if_pos b2]
   have rp := rowsOk_strs m.params
   simp (maxSteps := 4000000) only [ZE,↓reduceIte,pE,pL,pA,pS,pM,pD, zN,qT,qG,qL,qH,qN,qB,qE,qO,qA,qM, e1, e2, r1, m16, m4, m12, z1, z2, not_false_eq_true, getD_map hi, lt_int hi, List.length_map, hm, hz', g0, g1, g2, List.length_append, List.length_map, List.length_cons, List.length_nil, List.length_set, List.map_set, List.map_append, List.map_cons, List.map_nil]
   repeat' apply And.intro
   all_goals first | assumption | omega | simp only [ZE,↓reduceIte,pE,pL,pA,pS,pM,pD, List.length_append, List.length_map, List.length_cons, List.length_nil, List.length_set, List.map_set, List.map_append, List.map_cons, List.map_nil]
  have g2 : (((k1 % 4 : Nat) : Int) == 2) = false := by simp; omega
  rw [if_neg b2]
  have k11 : (kindN (k2 % 11)).1 = ((k2 % 11 : Nat) : Int) := kindN_1 (by omega)
  simp (maxSteps := 4000000) only [ZE,↓reduceIte,pE,pL,pA,pS,pM,pD, zN,qT,qG,qL,qH,qN,qB,qE,qO,qA,qM, e1, e2, r1, m16, m4, m12, z1, z2, not_false_eq_true, getD_map hi, lt_int hi, List.length_map, hm, hz', g0, g1, g2, m11, e11, k11, op_mk, name_mk, k_mk, w_mk, args_mk, zExpr, zNum, emp, zItem, List.length_append, List.length_map, List.length_cons, List.length_nil, List.length_set, List.map_set, List.map_append, List.map_cons, List.map_nil]
  repeat' apply And.intro
  all_goals first | assumption | omega | simp only [ZE,↓reduceIte,pE,pL,pA,pS,pM,pD, List.length_append, List.length_map, List.length_cons, List.length_nil, List.length_set, List.map_set, List.map_append, List.map_cons, List.map_nil]
 ·have hz' : ((m.items.length : Int) == 0) = false := by rw [beq_eq_false_iff_ne]; omega
  have c1 : decide (((k1 % 16 : Nat) : Int) < 4) = true := by
   rcases hc with h | h
   ·exact absurd h hz
   ·simp; omega
  by_cases b0 : k1 % 4 = 0
  ·have g0 : (((k1 % 4 : Nat) : Int) == 0) = true := by simp [b0]
   rw [if_pos b0]
   simp (maxSteps := 4000000) only [ZE,↓reduceIte,pE,pL,pA,pS,pM,pD, zN,qT,qG,qL,qH,qN,qB,qE,qO,qA,qM, e1, e2, r1, m16, m4, m12, z1, z2, not_false_eq_true, getD_map hi, lt_int hi, List.length_map, hm, hz', c1, g0, List.length_append, List.length_map, List.length_cons, List.length_nil, List.length_set, List.map_set, List.map_append, List.map_cons, List.map_nil]
   repeat' apply And.intro
   all_goals first | assumption | omega | simp only [ZE,↓reduceIte,pE,pL,pA,pS,pM,pD, List.length_append, List.length_map, List.length_cons, List.length_nil, List.length_set, List.map_set, List.map_append, List.map_cons, List.map_nil]
  have g0 : (((k1 % 4 : Nat) : Int) == 0) = false := by simp; omega
  rw [if_neg b0]
  by_cases b1 : k1 % 4 = 1
  ·have g1 : (((k1 % 4 : Nat) : Int) == 1) = true := by simp [b1]
   rw [if_pos b1]
   simp (maxSteps := 4000000) only [ZE,↓reduceIte,pE,pL,pA,pS,pM,pD, zN,qT,qG,qL,qH,qN,qB,qE,qO,qA,qM, e1, e2, r1, m16, m4, m12, z1, z2, not_false_eq_true, getD_map hi, lt_int hi, List.length_map, hm, hz', c1, g0, g1, List.length_append, List.length_map, List.length_cons, List.length_nil, List.length_set, List.map_set, List.map_append, List.map_cons, List.map_nil]
   repeat' apply And.intro
   all_goals first | assumption | omega | simp only [ZE,↓reduceIte,pE,pL,pA,pS,pM,pD, List.length_append, List.length_map, List.length_cons, List.length_nil, List.length_set, List.map_set, List.map_append, List.map_cons, List.map_nil]
  have g1 : (((k1 % 4 : Nat) : Int) == 1) = false := by simp; omega
  rw [if_neg b1]
  by_cases b2 : k1 % 4 = 2
  ·have g2 : (((k1 % 4 : Nat) : Int) == 2) = true := by simp [b2]
   rw [if_pos b2]
   have rp := rowsOk_strs m.params
   simp (maxSteps := 4000000) only [ZE,↓reduceIte,pE,pL,pA,pS,pM,pD, zN,qT,qG,qL,qH,qN,qB,qE,qO,qA,qM, e1, e2, r1, m16, m4, m12, z1, z2, not_false_eq_true, getD_map hi, lt_int hi, List.length_map, hm, hz', c1, g0, g1, g2, List.length_append, List.length_map, List.length_cons, List.length_nil, List.length_set, List.map_set, List.map_append, List.map_cons, List.map_nil]
   repeat' apply And.intro
   all_goals first | assumption | omega | simp only [ZE,↓reduceIte,pE,pL,pA,pS,pM,pD, List.length_append, List.length_map, List.length_cons, List.length_nil, List.length_set, List.map_set, List.map_append, List.map_cons, List.map_nil]
  have g2 : (((k1 % 4 : Nat) : Int) == 2) = false := by simp; omega
  rw [if_neg b2]
  have k11 : (kindN (k2 % 11)).1 = ((k2 % 11 : Nat) : Int) := kindN_1 (by omega)
  simp (maxSteps := 4000000) only [ZE,↓reduceIte,pE,pL,pA,pS,pM,pD, zN,qT,qG,qL,qH,qN,qB,qE,qO,qA,qM, e1, e2, r1, m16, m4, m12, z1, z2, not_false_eq_true, getD_map hi, lt_int hi, List.length_map, hm, hz', c1, g0, g1, g2, m11, e11, k11, op_mk, name_mk, k_mk, w_mk, args_mk, zExpr, zNum, emp, zItem, List.length_append, List.length_map, List.length_cons, List.length_nil, List.length_set, List.map_set, List.map_append, List.map_cons, List.map_nil]
  repeat' apply And.intro
  all_goals first | assumption | omega | simp only [ZE,↓reduceIte,pE,pL,pA,pS,pM,pD, List.length_append, List.length_map, List.length_cons, List.length_nil, List.length_set, List.map_set, List.map_append, List.map_cons, List.map_nil]
theorem spoil1_c (f : List Module) (k0 k1 k2 k3 : Nat) (s : Str) (h0 : k0 < 256) (h1 : k1 < 256) (h2 : k2 < 256) (h3 : k3 < 256) (hf : f.length ≤ 1000) (i : Nat) (hi : i < f.length) (hki : k0 % f.length = i) (m : Module) (hm : f[i] = m) (hl : m.items.length ≤ 800) (n : Nat) (hn : n < m.items.length) (hkn : k2 % m.items.length = n) (x : Item) (hx : m.items[n] = x) (hp : x.ports.length ≤ 800)
  (hc : ¬ k1 % 16 < 4) : FnP Try.prog 10 [.agg [eModules f], .agg [eU8 k0, eU8 k1, eU8 k2, eU8 k3], eS s] (.d (.agg [eModules (f.set i { m with items := spoilL k1 k3 s m.items n x })])) [] := by
 refine FnP.of_eC (own := []) (fun i => if i = 1016 then [.frz 34] else if i = 1039 then [.frz 34] else if i = 15 then [.frz 73] else if i = 37 then [.frz 157] else if i = 31 then [.frz 138] else if i = 29 then [.adB 11 14 99 50 7, .frz 99] else []) mixed Try.func10 rfl Try.call10 Try.ntmps10 (Nat.le_of_ble_eq_true rfl) Try.results10 (fun hok => ?_)
 have e1 : IntKind.i64.wrap (k0 : Int) = (k0 : Int) := wrap_id (by omega) (by omega)
 have e2 : IntKind.i64.wrap (k2 : Int) = (k2 : Int) := wrap_id (by omega) (by omega)
 have r1 : (k0 : Int).tmod (f.length : Int) = (i : Int) := by rw [← hki]; exact (Int.ofNat_tmod _ _).symm
 have m16 : (k1 : Int).tmod 16 = ((k1 % 16 : Nat) : Int) := (Int.ofNat_tmod _ _).symm
 have m4 : (k1 : Int).tmod 4 = ((k1 % 4 : Nat) : Int) := (Int.ofNat_tmod _ _).symm
 have m12 : (k1 : Int).tmod 12 = ((k1 % 12 : Nat) : Int) := (Int.ofNat_tmod _ _).symm
 have z1 : ¬ (f.length : Int) = 0 := by omega
 have z2 : ((f.length : Int) == 0) = false := by rw [beq_eq_false_iff_ne]; omega
 have ro := rowsOk_mods f
 have ri := rowsOk_items m.items
 have m11 : (k3 : Int).tmod 11 = ((k3 % 11 : Nat) : Int) := (Int.ofNat_tmod _ _).symm
 have e11 : IntKind.i64.wrap ((k3 % 11 : Nat) : Int) = ((k3 % 11 : Nat) : Int) := wrap_id (by omega) (by omega)
 have k11 : (kindN (k3 % 11)).1 = ((k3 % 11 : Nat) : Int) := kindN_1 (by omega)
 have m20 : (k3 : Int).tmod 20 = ((k3 % 20 : Nat) : Int) := (Int.ofNat_tmod _ _).symm
 have e20 : IntKind.i64.wrap ((k3 % 20 : Nat) : Int) = ((k3 % 20 : Nat) : Int) := wrap_id (by omega) (by omega)
 have m6 : (k3 : Int).tmod 6 = ((k3 % 6 : Nat) : Int) := (Int.ofNat_tmod _ _).symm
 have e6 : IntKind.i64.wrap ((k3 % 6 : Nat) : Int) = ((k3 % 6 : Nat) : Int) := wrap_id (by omega) (by omega)
 have s6 : IntKind.i64.wrap (((k3 % 6 : Nat) : Int) - 1) = ((k3 % 6 : Nat) : Int) - 1 := wrap_id (by omega) (by omega)
 have r2 : (k2 : Int).tmod (m.items.length : Int) = (n : Int) := by rw [← hkn]; exact (Int.ofNat_tmod _ _).symm
 have z3 : ¬ (m.items.length : Int) = 0 := by omega
 have hz' : ((m.items.length : Int) == 0) = false := by rw [beq_eq_false_iff_ne]; omega
 have c1 : decide (((k1 % 16 : Nat) : Int) < 4) = false := by simp; omega
 have rp := rowsOk_binds x.ports
 by_cases b4 : k1 % 12 = 4
 ·have g4 : (((k1 % 12 : Nat) : Int) == 4) = true := by simp [b4]
  have hI : spoilL k1 k3 s m.items n x = m.items.set n ({ x with name := s }) := by
   unfold spoilL spoilI
   simp [b4]
  rw [hI]
  simp (maxSteps := 4000000) only [ZE,↓reduceIte,pE,pL,pA,pS,pM,pD, zN,qT,qG,qL,qH,qN,qB,qE,qO,qA,qM, e1, e2, r1, m16, m4, m12, z1, z2, not_false_eq_true, getD_map hi, lt_int hi, List.length_map, hm, hz', c1, r2, z3, getD_map hn, lt_int hn, hx, Int.toNat_natCast, g4, e1, List.length_append, List.length_map, List.length_cons, List.length_nil, List.length_set, List.map_set, List.map_append, List.map_cons, List.map_nil]
  repeat' apply And.intro
  all_goals first | assumption | omega | simp only [ZE,↓reduceIte,pE,pL,pA,pS,pM,pD, List.length_append, List.length_map, List.length_cons, List.length_nil, List.length_set, List.map_set, List.map_append, List.map_cons, List.map_nil]
 have g4 : (((k1 % 12 : Nat) : Int) == 4) = false := by simp; omega
 by_cases b5 : k1 % 12 = 5
 ·have g5 : (((k1 % 12 : Nat) : Int) == 5) = true := by simp [b5]
  have hI : spoilL k1 k3 s m.items n x = m.items.set n ({ x with kind := kindN (k3 % 11) }) := by
   unfold spoilL spoilI
   simp [b5]
  rw [hI]
  simp (maxSteps := 4000000) only [ZE,↓reduceIte,pE,pL,pA,pS,pM,pD, zN,qT,qG,qL,qH,qN,qB,qE,qO,qA,qM, e1, e2, r1, m16, m4, m12, z1, z2, not_false_eq_true, getD_map hi, lt_int hi, List.length_map, hm, hz', c1, r2, z3, getD_map hn, lt_int hn, hx, Int.toNat_natCast, g4,g5, m11, e11, k11, List.length_append, List.length_map, List.length_cons, List.length_nil, List.length_set, List.map_set, List.map_append, List.map_cons, List.map_nil]
  repeat' apply And.intro
  all_goals first | assumption | omega | simp only [ZE,↓reduceIte,pE,pL,pA,pS,pM,pD, List.length_append, List.length_map, List.length_cons, List.length_nil, List.length_set, List.map_set, List.map_append, List.map_cons, List.map_nil]
 have g5 : (((k1 % 12 : Nat) : Int) == 5) = false := by simp; omega
 by_cases b6 : k1 % 12 = 6
 ·have g6 : (((k1 % 12 : Nat) : Int) == 6) = true := by simp [b6]
  have hI : spoilL k1 k3 s m.items n x = m.items.set n ({ x with width := ⟨x.width.n, s⟩ }) := by
   unfold spoilL spoilI
   simp [b6]
  rw [hI]
  simp (maxSteps := 4000000) only [ZE,↓reduceIte,pE,pL,pA,pS,pM,pD, zN,qT,qG,qL,qH,qN,qB,qE,qO,qA,qM, e1, e2, r1, m16, m4, m12, z1, z2, not_false_eq_true, getD_map hi, lt_int hi, List.length_map, hm, hz', c1, r2, z3, getD_map hn, lt_int hn, hx, Int.toNat_natCast, g4, g5,g6, e1, List.length_append, List.length_map, List.length_cons, List.length_nil, List.length_set, List.map_set, List.map_append, List.map_cons, List.map_nil]
  repeat' apply And.intro
  all_goals first | assumption | omega | simp only [ZE,↓reduceIte,pE,pL,pA,pS,pM,pD, List.length_append, List.length_map, List.length_cons, List.length_nil, List.length_set, List.map_set, List.map_append, List.map_cons, List.map_nil]
 have g6 : (((k1 % 12 : Nat) : Int) == 6) = false := by simp; omega
 by_cases b7 : k1 % 12 = 7
 ·have g7 : (((k1 % 12 : Nat) : Int) == 7) = true := by simp [b7]
  have hI : spoilL k1 k3 s m.items n x = m.items.set n ({ x with a := .mk 14 s zNum zNum [] }) := by
   unfold spoilL spoilI
   simp [b7]
  rw [hI]
  simp (maxSteps := 4000000) only [ZE,↓reduceIte,pE,pL,pA,pS,pM,pD, zN,qT,qG,qL,qH,qN,qB,qE,qO,qA,qM, e1, e2, r1, m16, m4, m12, z1, z2, not_false_eq_true, getD_map hi, lt_int hi, List.length_map, hm, hz', c1, r2, z3, getD_map hn, lt_int hn, hx, Int.toNat_natCast, g4, g5, g6,g7, op_mk, name_mk, k_mk, w_mk, args_mk, zExpr, zNum, emp, zItem, List.length_append, List.length_map, List.length_cons, List.length_nil, List.length_set, List.map_set, List.map_append, List.map_cons, List.map_nil]
  repeat' apply And.intro
  all_goals first | assumption | omega | simp only [ZE,↓reduceIte,pE,pL,pA,pS,pM,pD, List.length_append, List.length_map, List.length_cons, List.length_nil, List.length_set, List.map_set, List.map_append, List.map_cons, List.map_nil]
 have g7 : (((k1 % 12 : Nat) : Int) == 7) = false := by simp; omega
 by_cases b8 : k1 % 12 = 8
 ·have g8 : (((k1 % 12 : Nat) : Int) == 8) = true := by simp [b8]
  have hI : spoilL k1 k3 s m.items n x = m.items.set n ({ x with a := .mk (k3 % 20 : Nat) s zNum zNum [x.a] }) := by
   unfold spoilL spoilI
   simp [b8]
  rw [hI]
  simp (maxSteps := 4000000) only [ZE,↓reduceIte,pE,pL,pA,pS,pM,pD, zN,qT,qG,qL,qH,qN,qB,qE,qO,qA,qM, e1, e2, r1, m16, m4, m12, z1, z2, not_false_eq_true, getD_map hi, lt_int hi, List.length_map, hm, hz', c1, r2, z3, getD_map hn, lt_int hn, hx, Int.toNat_natCast, g4, g5, g6, g7,g8, m20, e20, op_mk, name_mk, k_mk, w_mk, args_mk, zExpr, zNum, emp, zItem, List.length_append, List.length_map, List.length_cons, List.length_nil, List.length_set, List.map_set, List.map_append, List.map_cons, List.map_nil]
  repeat' apply And.intro
  all_goals first | assumption | omega | simp only [ZE,↓reduceIte,pE,pL,pA,pS,pM,pD, List.length_append, List.length_map, List.length_cons, List.length_nil, List.length_set, List.map_set, List.map_append, List.map_cons, List.map_nil]
 have g8 : (((k1 % 12 : Nat) : Int) == 8) = false := by simp; omega
 by_cases b9 : k1 % 12 = 9
 ·have g9 : (((k1 % 12 : Nat) : Int) == 9) = true := by simp [b9]
  have hI : spoilL k1 k3 s m.items n x = m.items.set n ({ x with rule := ⟨(k3 % 6 : Nat) - 1, s, 0⟩ }) := by
   unfold spoilL spoilI
   simp [b9]
  rw [hI]
  simp (maxSteps := 4000000) only [ZE,↓reduceIte,pE,pL,pA,pS,pM,pD, zN,qT,qG,qL,qH,qN,qB,qE,qO,qA,qM, e1, e2, r1, m16, m4, m12, z1, z2, not_false_eq_true, getD_map hi, lt_int hi, List.length_map, hm, hz', c1, r2, z3, getD_map hn, lt_int hn, hx, Int.toNat_natCast, g4, g5, g6, g7, g8,g9, m6, e6, s6, op_mk, name_mk, k_mk, w_mk, args_mk, zExpr, zNum, emp, zItem, List.length_append, List.length_map, List.length_cons, List.length_nil, List.length_set, List.map_set, List.map_append, List.map_cons, List.map_nil]
  repeat' apply And.intro
  all_goals first | assumption | omega | simp only [ZE,↓reduceIte,pE,pL,pA,pS,pM,pD, List.length_append, List.length_map, List.length_cons, List.length_nil, List.length_set, List.map_set, List.map_append, List.map_cons, List.map_nil]
 have g9 : (((k1 % 12 : Nat) : Int) == 9) = false := by simp; omega
 by_cases b10 : k1 % 12 = 10
 ·have g10 : (((k1 % 12 : Nat) : Int) == 10) = true := by simp [b10]
  have hI : spoilL k1 k3 s m.items n x = m.items.set n ({ x with of := s }) := by
   unfold spoilL spoilI
   simp [b10]
  rw [hI]
  simp (maxSteps := 4000000) only [ZE,↓reduceIte,pE,pL,pA,pS,pM,pD, zN,qT,qG,qL,qH,qN,qB,qE,qO,qA,qM, e1, e2, r1, m16, m4, m12, z1, z2, not_false_eq_true, getD_map hi, lt_int hi, List.length_map, hm, hz', c1, r2, z3, getD_map hn, lt_int hn, hx, Int.toNat_natCast, g4, g5, g6, g7, g8, g9,g10, e1, List.length_append, List.length_map, List.length_cons, List.length_nil, List.length_set, List.map_set, List.map_append, List.map_cons, List.map_nil]
  repeat' apply And.intro
  all_goals first | assumption | omega | simp only [ZE,↓reduceIte,pE,pL,pA,pS,pM,pD, List.length_append, List.length_map, List.length_cons, List.length_nil, List.length_set, List.map_set, List.map_append, List.map_cons, List.map_nil]
 have g10 : (((k1 % 12 : Nat) : Int) == 10) = false := by simp; omega
 by_cases b11 : k1 % 12 = 11
 ·have g11 : (((k1 % 12 : Nat) : Int) == 11) = true := by simp [b11]
  have hI : spoilL k1 k3 s m.items n x = m.items.set n ({ x with ports := x.ports ++ [⟨sX, s⟩] }) := by
   unfold spoilL spoilI
   simp [b11]
  rw [hI]
  simp (maxSteps := 4000000) only [ZE,↓reduceIte,pE,pL,pA,pS,pM,pD, zN,qT,qG,qL,qH,qN,qB,qE,qO,qA,qM, e1, e2, r1, m16, m4, m12, z1, z2, not_false_eq_true, getD_map hi, lt_int hi, List.length_map, hm, hz', c1, r2, z3, getD_map hn, lt_int hn, hx, Int.toNat_natCast, g4, g5, g6, g7, g8, g9, g10,g11, sX, st, List.length_append, List.length_map, List.length_cons, List.length_nil, List.length_set, List.map_set, List.map_append, List.map_cons, List.map_nil]
  repeat' apply And.intro
  all_goals first | assumption | omega | simp only [ZE,↓reduceIte,pE,pL,pA,pS,pM,pD, List.length_append, List.length_map, List.length_cons, List.length_nil, List.length_set, List.map_set, List.map_append, List.map_cons, List.map_nil]
 have g11 : (((k1 % 12 : Nat) : Int) == 11) = false := by simp; omega
 have ga : ∀ r, (m.items.map eItem ++ r).getD n [] = eItem x := fun r => by
  rw [List.getD_eq_getElem?_getD, List.getElem?_append_left (by simpa using hn), List.getElem?_eq_getElem (by simpa using hn), List.getElem_map, hx]; rfl
 have hI : spoilL k1 k3 s m.items n x = (m.items ++ [x]).set n x := by
  unfold spoilL spoilI
  rw [if_pos (by omega), if_neg b4, if_neg b5, if_neg b6, if_neg b7, if_neg b8, if_neg b9, if_neg b10, if_neg b11]
 rw [hI]
 simp (maxSteps := 4000000) only [ZE,↓reduceIte,pE,pL,pA,pS,pM,pD, zN,qT,qG,qL,qH,qN,qB,qE,qO,qA,qM, e1, e2, r1, m16, m4, m12, z1, z2, not_false_eq_true, getD_map hi, lt_int hi, List.length_map, hm, hz', c1, r2, z3, getD_map hn, lt_int hn, hx, Int.toNat_natCast, g4, g5, g6, g7, g8, g9, g10, g11, ga, List.length_append, List.length_map, List.length_cons, List.length_nil, List.length_set, List.map_set, List.map_append, List.map_cons, List.map_nil]
 repeat' apply And.intro
 all_goals first | assumption | omega | simp only [ZE,↓reduceIte,pE,pL,pA,pS,pM,pD, List.length_append, List.length_map, List.length_cons, List.length_nil, List.length_set, List.map_set, List.map_append, List.map_cons, List.map_nil]
end Go.Proofs.Ytejpmjnefokdoaa

/-
 PLAIN LAW: sizes of generated and changed files.
-/
namespace Go.Proofs.Ytejpmjnefokdoaa
open Go.Aw
theorem numbers_le (x : Item) (ha : sz x.a + sz x.b + sz x.c ≤ 1000) (hr : x.args.length ≤ 1000) : (numbers x).length ≤ 2000000 := by
 unfold numbers
 rw [List.length_append]
 have h1 : (numHead x).length ≤ 1000 := by
  unfold numHead
  split
  ·simp
  split
  ·simp
  split
  ·simp
  split
  ·exact hr
  ·simp
 have h2 : (Expr.allL (uses x)).length ≤ 1000 := by
  have := (allL_pre [x.a, x.b, x.c] (usesN x.kind.1)).length_le
  rw [allL_len [x.a, x.b, x.c]] at this
  simp only [List.map_cons, List.map_nil, List.sum_cons, List.sum_nil] at this
  unfold uses
  omega
 have h3 : ∀ r : List Expr, (r.flatMap numsE).length ≤ 2 * r.length := by
  intro r
  induction r with
  | nil => simp
  | cons q r ih =>
   rw [List.flatMap_cons, List.length_append, List.length_cons]
   have : (numsE q).length ≤ 2 := by
    unfold numsE
    split
    ·simp
    split
    ·simp
    split
    ·simp
    ·simp
   omega
 have := h3 (Expr.allL (uses x))
 omega
structure Fine (n : Nat) (m : Module) : Prop where
 items : m.items.length ≤ n
 params : m.params.length ≤ n
 sizes : ∀ x ∈ m.items, sz x.a + sz x.b + sz x.c ≤ n
 args : ∀ x ∈ m.items, x.args.length ≤ n
 ports : ∀ x ∈ m.items, x.ports.length ≤ n
theorem small_fine {n : Nat} (hn : n ≤ 900) {l : List Module} (hl : l.length ≤ 1000) (h : ∀ m ∈ l, Fine n m) : Small l :=
 { len := hl, items := fun m hm => Nat.le_trans (h m hm).items hn, nums := fun m hm x hx => numbers_le x (by have := (h m hm).sizes x hx; omega) (by have := (h m hm).args x hx; omega) }
theorem Fine.mono {n k : Nat} (h : n ≤ k) {m : Module} (f : Fine n m) : Fine k m :=
 ⟨Nat.le_trans f.items h, Nat.le_trans f.params h, fun x hx => Nat.le_trans (f.sizes x hx) h, fun x hx => Nat.le_trans (f.args x hx) h, fun x hx => Nat.le_trans (f.ports x hx) h⟩
theorem params_made (x : Raw) : ∀ m ∈ made x, m.params.length ≤ 60 := by
 have : ((made x).all fun m => decide (m.params.length ≤ 60)) = true := by
  rcases made_shape x with ⟨mem, h⟩ | ⟨q, h⟩ | ⟨q, mem, h⟩ | ⟨q, mem, h⟩
  ·rw [h]; cases mem <;> kernel_rfl
  ·rw [h]; cases q <;> kernel_rfl
  ·rw [h]; cases q <;> cases mem <;> kernel_rfl
  ·rw [h]; cases q <;> cases mem <;> kernel_rfl
 intro m hm
 rw [List.all_eq_true] at this
 simpa using this m hm
theorem fine_made (x : Raw) : ∀ m ∈ made x, Fine 60 m := fun m hm => by
 obtain ⟨_, _, h⟩ := tidy_made x
 obtain ⟨⟨_, h1⟩, h2⟩ := h m hm
 refine ⟨by omega, params_made x m hm, fun y hy => ?_, fun y hy => ?_, fun y hy => ?_⟩
 ·have := (h2 y hy).a; have := (h2 y hy).b; have := (h2 y hy).c; omega
 ·have := (h2 y hy).args; omega
 ·have := (h2 y hy).ports; omega
theorem spoilI_fine (k1 k3 : Nat) (s : Str) (x : Item) : sz (spoilI k1 k3 s x).a + sz (spoilI k1 k3 s x).b + sz (spoilI k1 k3 s x).c ≤ sz x.a + sz x.b + sz x.c + 1 ∧ (spoilI k1 k3 s x).args.length = x.args.length ∧ (spoilI k1 k3 s x).ports.length ≤ x.ports.length + 1 := by
 unfold spoilI
 split
 ·exact ⟨Nat.le_succ _, rfl, Nat.le_succ _⟩
 split
 ·exact ⟨Nat.le_succ _, rfl, Nat.le_succ _⟩
 split
 ·exact ⟨Nat.le_succ _, rfl, Nat.le_succ _⟩
 split
 ·refine ⟨?_, rfl, by simp⟩
  simp only [sz_mk, List.map_nil, List.sum_nil]
  omega
 split
 ·refine ⟨?_, rfl, by simp⟩
  simp only [sz_mk, List.map_cons, List.map_nil, List.sum_cons, List.sum_nil]
  omega
 split
 ·exact ⟨Nat.le_succ _, rfl, by simp⟩
 split
 ·exact ⟨Nat.le_succ _, rfl, by simp⟩
 split
 ·exact ⟨Nat.le_succ _, rfl, by simp⟩
 ·exact ⟨Nat.le_succ _, rfl, Nat.le_succ _⟩
theorem spoil_fine {n : Nat} (hn : 2 ≤ n) (k1 k2 k3 : Nat) (s : Str) {m : Module} (h : Fine n m) : Fine (n + 1) (spoilM k1 k2 k3 s m) := by
 have h' := h.mono (Nat.le_succ n)
 unfold spoilM
 split
 ·split
  ·exact ⟨h'.items, h'.params, h'.sizes, h'.args, h'.ports⟩
  split
  ·exact ⟨h'.items, h'.params, h'.sizes, h'.args, h'.ports⟩
  split
  ·exact ⟨h'.items, by have := h.params; simp; omega, h'.sizes, h'.args, h'.ports⟩
  ·refine ⟨by have := h.items; simp; omega, h'.params, fun x hx => ?_, fun x hx => ?_, fun x hx => ?_⟩
   all_goals rcases List.mem_append.1 hx with hx | hx
   ·exact h'.sizes x hx
   ·simp only [List.mem_singleton] at hx
    subst hx
    show sz zExpr + sz zExpr + sz zExpr ≤ n + 1
    unfold zExpr; simp only [sz_mk, List.map_nil, List.sum_nil]; omega
   ·exact h'.args x hx
   ·simp only [List.mem_singleton] at hx
    subst hx
    exact Nat.zero_le _
   ·exact h'.ports x hx
   ·simp only [List.mem_singleton] at hx
    subst hx
    exact Nat.zero_le _
 ·rename_i hc
  have hlen : k2 % m.items.length < m.items.length := Nat.mod_lt _ (by
   have := (not_or.1 hc).1; omega)
  have hg : m.items.getD (k2 % m.items.length) zItem = m.items[k2 % m.items.length] := by simp [List.getD, hlen]
  have hmem : m.items.getD (k2 % m.items.length) zItem ∈ m.items := by rw [hg]; exact List.getElem_mem hlen
  obtain ⟨x0, hx0⟩ : ∃ x0, m.items.getD (k2 % m.items.length) zItem = x0 := ⟨_, rfl⟩
  rw [hx0] at hmem ⊢
  have hall : ∀ x ∈ spoilL k1 k3 s m.items (k2 % m.items.length) x0, x ∈ m.items ∨ x = spoilI k1 k3 s x0 := by
   intro x hx
   unfold spoilL at hx
   rcases List.mem_or_eq_of_mem_set hx with h1 | h1
   ·split at h1
    ·rcases List.mem_append.1 h1 with h2 | h2
     ·exact .inl h2
     ·simp only [List.mem_singleton] at h2; rw [h2]; exact .inl hmem
    ·exact .inl h1
   ·exact .inr h1
  obtain ⟨s1, s2, s3⟩ := spoilI_fine k1 k3 s x0
  refine ⟨?_, h'.params, fun x hx => ?_, fun x hx => ?_, fun x hx => ?_⟩
  ·have := h.items
   show (spoilL _ _ _ _ _ _).length ≤ n + 1
   unfold spoilL
   rw [List.length_set]
   split
   ·simp; omega
   ·omega
  ·rcases hall x hx with h1 | h1
   ·exact h'.sizes x h1
   ·rw [h1]; have := h.sizes x0 hmem; omega
  ·rcases hall x hx with h1 | h1
   ·exact h'.args x h1
   ·rw [h1]; have := h.args x0 hmem; omega
  ·rcases hall x hx with h1 | h1
   ·exact h'.ports x h1
   ·rw [h1]; have := h.ports x0 hmem; omega
end Go.Proofs.Ytejpmjnefokdoaa

/-
 A changed part of a file; how many problems there are.
-/
namespace Go.Proofs.Ytejpmjnefokdoaa
open Go.Aw
theorem spoil_c (f : List Module) (k0 k1 k2 k3 : Nat) (s : Str) (h0 : k0 < 256) (h1 : k1 < 256) (h2 : k2 < 256) (h3 : k3 < 256) (hf : f.length ≤ 1000) (i : Nat) (hi : i < f.length) (hki : k0 % f.length = i) (hF : Fine 800 f[i]) :
  FnP Try.prog 10 [.agg [eModules f], .agg [eU8 k0, eU8 k1, eU8 k2, eU8 k3], eS s] (.d (.agg [eModules (f.set i (spoilM k1 k2 k3 s f[i]))])) [] := by
 by_cases hc : f[i].items.length = 0 ∨ k1 % 16 < 4
 ·exact spoil0_c f k0 k1 k2 k3 s h0 h1 h2 h3 hf i hi hki f[i] rfl hF.items hF.params hc
 ·have hn : k2 % f[i].items.length < f[i].items.length := Nat.mod_lt _ (by have := (not_or.1 hc).1; omega)
  have hg : f[i].items.getD (k2 % f[i].items.length) zItem = f[i].items[k2 % f[i].items.length] := by simp [List.getD, hn]
  have e : spoilM k1 k2 k3 s f[i] = { f[i] with items := spoilL k1 k3 s f[i].items (k2 % f[i].items.length) f[i].items[k2 % f[i].items.length] } := by
   unfold spoilM
   rw [if_neg hc, hg]
  rw [e]
  exact spoil1_c f k0 k1 k2 k3 s h0 h1 h2 h3 hf i hi hki f[i] rfl hF.items _ hn rfl _ rfl (hF.ports _ (List.getElem_mem hn)) (not_or.1 hc).2
theorem check_len {l : List Module} (hS : Small l) (h2 : l.length ≤ 2) : (check l).length ≤ 100000 := by
 have h := (found_ok hS l.length (Nat.le_refl _)).2
 rw [List.take_length] at h
 have e : l.zipIdx.foldl (modF l) [] = found l := rfl
 rw [check_length, ← e]
 omega
end Go.Proofs.Ytejpmjnefokdoaa

/-
 CONTRACTS: CheckCycles.
-/
namespace Go.Proofs.Ytejpmjnefokdoaa
open Go.Aw
open Nat renaming reduceEqDiff → pE, reduceLT → pL, reduceAdd → pA, reduceSub → pS, reduceMul → pM, reduceLeDiff → pD
open Int renaming reduceToNat → qT, reduceGT → qG, reduceLT → qL, reduceGE → qH, reduceBNe → qN, reduceBEq → qB, reduceLE → qE, reduceNe → qO, reduceAdd → qA, reduceNeg → qM
set_option maxRecDepth 100000
set_option maxHeartbeats 40000000
def eFs (Q : List (List Module)) : D := .sl (Q.map fun q => [.sl (q.map eModule)])
theorem cycles_w (x : Raw) (k0 k1 k2 k3 : Nat) (g0 g1 f : List Module)
  (hc : FnP Try.prog 9 [eRaw x] (.d (.agg [eModules g0])) [])
  (hs : FnP Try.prog 10 [.agg [eModules g0], .agg [eU8 k0, eU8 k1, eU8 k2, eU8 k3], eS sT] (.d (.agg [eModules g1])) [])
  (sc : FnP Try.prog 18 [.agg [eModules f]] (.d (eI (sizeF f))) [])
  (hv : FnP Try.prog 12 [.agg [eModules g0]] (.d (eB true)) [])
  (hq : sizeF f ≤ 300 → f.length ≤ 20 → ∀ q ∈ [g0, g1, f], q.length ≤ 1000000 ∧ ∃ b, FnP Try.prog 12 [.agg [eModules q]] (.d (eB b)) [] ∧ (b = true → FnP Try.prog 19 [.agg [eModules q]] (.d (eB true)) [] ∧ ∀ m ∈ q, FnP Try.prog 20 [.agg (eModule m)] (.d (eB true)) [])) :
  FnP Try.prog 5 [eRaw x, .agg [eU8 k0, eU8 k1, eU8 k2, eU8 k3], .agg [eModules f]] (.d (eB true)) [] := by
 refine FnP.of_eC (own := []) (fun i => if i = 2006 then [.ord ⟨[(0, none), (1, none), (2, none), (3, none), (4, none), (5, none), (6, none), (7, none), (8, none)]⟩] else []) mixed Try.func5 rfl Try.call5 Try.ntmps5 (Nat.le_of_ble_eq_true rfl) Try.results5 (fun hok => ?_)
 have ex := examples_c
 simp only [ZE,↓reduceIte,pE,pL,pA,pS,pM,pD, eRaw, sT, st] at ex hc hs sc hv
 obtain ⟨S, hS⟩ : ∃ S, sizeF f = S := ⟨_, rfl⟩
 rw [hS] at sc hq
 by_cases h300 : S ≤ 300
 ·have d300 : decide ((S : Int) > 300) = false := by simp; omega
  by_cases h20 : f.length ≤ 20
  ·have d20 : decide ((f.length : Int) > 20) = false := by simp; omega
   have hq := hq h300 h20
   have hlq : ∀ q ∈ [g0, g1, f], q.length ≤ 1000000 := fun q h => (hq q h).1
   simp (maxSteps := 4000000) only [ZE,↓reduceIte,pE,pL,pA,pS,pM,pD, zN,qT,qG,qL,qH,qN,qB,qE,qO,qA,qM, eRaw]
   refine EFn.p ?_
   simp only [ZE,↓reduceIte,pE,pL,pA,pS,pM,pD, zN,qT,qG,qL,qH,qN,qB,qE,qO,qA,qM]
   refine ECall.i ex ?_
   simp only [ZE,↓reduceIte,pE,pL,pA,pS,pM,pD, zN,qT,qG,qL,qH,qN,qB,qE,qO,qA,qM]
   refine EFn.p ?_
   simp only [ZE,↓reduceIte,pE,pL,pA,pS,pM,pD, zN,qT,qG,qL,qH,qN,qB,qE,qO,qA,qM]
   refine ECall.i sc ?_
   simp only [ZE,↓reduceIte,pE,pL,pA,pS,pM,pD, zN,qT,qG,qL,qH,qN,qB,qE,qO,qA,qM, List.length_map, d300, d20]
   refine ⟨by kernel_rfl, ECall'.i hc ?_⟩
   simp only [ZE,↓reduceIte,pE,pL,pA,pS,pM,pD, zN,qT,qG,qL,qH,qN,qB,qE,qO,qA,qM]
   refine ECall'.i hc ?_
   simp only [ZE,↓reduceIte,pE,pL,pA,pS,pM,pD, zN,qT,qG,qL,qH,qN,qB,qE,qO,qA,qM]
   refine ECall'.i hs ?_
   simp only [ZE,↓reduceIte,pE,pL,pA,pS,pM,pD, zN,qT,qG,qL,qH,qN,qB,qE,qO,qA,qM]
   refine EFn.p ?_
   simp only [ZE,↓reduceIte,pE,pL,pA,pS,pM,pD, zN,qT,qG,qL,qH,qN,qB,qE,qO,qA,qM]
   refine ECall.i hv ?_
   simp only [ZE,↓reduceIte,pE,pL,pA,pS,pM,pD, zN,qT,qG,qL,qH,qN,qB,qE,qO,qA,qM]
   obtain ⟨Q, hQ⟩ : ∃ Q, [g0, g1, f] = Q := ⟨_, rfl⟩
   have hQl : Q.length = 3 := by rw [← hQ]; rfl
   have hQm : Q.map (fun q => [D.sl (q.map eModule)]) = [[D.sl (g0.map eModule)], [D.sl (g1.map eModule)], [D.sl (f.map eModule)]] := by rw [← hQ]; rfl
   rw [hQ] at hq
   refine eloop (fun _ => []) mixed 3 (fun _ => True) (fun i => ([(7, .d (eB true)), (8, .d (.sl (Q.map fun q => [D.sl (q.map eModule)]))), (9, .d (eI i))], [])) trivial ?_ ?_ (fun i hi _ => ?_)
   ·simp only [ZE,↓reduceIte,pE,pL,pA,pS,pM,pD, hQm]
   ·simp only [ZE,↓reduceIte,pE,pL,pA,pS,pM,pD]
   rcases Nat.lt_or_ge i 3 with h | h
   ·have hw := wrap_succ (show i < 9223372036854775807 by omega)
    have hiQ : i < Q.length := by omega
    have dl : decide ((i : Int) < 3) = true := by simp; omega
    have inI : (0 ≤ (i : Int) ∧ (i : Int) < 3) = True := by simp; omega
    obtain ⟨hql, b, hvb, hrest⟩ := hq Q[i] (List.getElem_mem hiQ)
    obtain ⟨q, hqq⟩ : ∃ q, Q[i] = q := ⟨_, rfl⟩
    rw [hqq] at hql hvb hrest
    cases b with
    | false =>
     simp only [ZE,↓reduceIte,pE,pL,pA,pS,pM,pD] at hvb
     simp (maxSteps := 4000000) only [ZE,↓reduceIte,pE,pL,pA,pS,pM,pD, dl, inI, hQl, getD_map hiQ, hqq, zN,qT,qG,qL,qH,qN,qB,qE,qO,qA,qM, List.length_map]
     refine EFn.p ?_
     simp only [ZE,↓reduceIte,pE,pL,pA,pS,pM,pD, zN,qT,qG,qL,qH,qN,qB,qE,qO,qA,qM]
     refine ECall.i hvb ?_
     simp only [ZE,↓reduceIte,pE,pL,pA,pS,pM,pD, zN,qT,qG,qL,qH,qN,qB,qE,qO,qA,qM, hw]
     exact h
    | true =>
     obtain ⟨hse, hac⟩ := hrest rfl
     simp only [ZE,↓reduceIte,pE,pL,pA,pS,pM,pD] at hvb hse
     simp (maxSteps := 4000000) only [ZE,↓reduceIte,pE,pL,pA,pS,pM,pD, dl, inI, hQl, getD_map hiQ, hqq, zN,qT,qG,qL,qH,qN,qB,qE,qO,qA,qM, List.length_map]
     refine EFn.p ?_
     simp only [ZE,↓reduceIte,pE,pL,pA,pS,pM,pD, zN,qT,qG,qL,qH,qN,qB,qE,qO,qA,qM]
     refine ECall.i hvb ?_
     simp only [ZE,↓reduceIte,pE,pL,pA,pS,pM,pD, zN,qT,qG,qL,qH,qN,qB,qE,qO,qA,qM, inI, hQl, getD_map hiQ, hqq, List.length_map]
     refine EFn.p ?_
     simp only [ZE,↓reduceIte,pE,pL,pA,pS,pM,pD, zN,qT,qG,qL,qH,qN,qB,qE,qO,qA,qM]
     refine ECall.i hse ?_
     simp only [ZE,↓reduceIte,pE,pL,pA,pS,pM,pD, zN,qT,qG,qL,qH,qN,qB,qE,qO,qA,qM, inI, hQl, getD_map hiQ, hqq, List.length_map]
     refine eloop (fun _ => []) mixed q.length (fun _ => True) (fun j => ([(7, .d (eB true)), (8, .d (.sl (Q.map fun q => [D.sl (q.map eModule)]))), (9, .d (eI i)), (10, .d (eI j))], [])) trivial ?_ ?_ (fun j hj _ => ?_)
     ·simp only [ZE,↓reduceIte,pE,pL,pA,pS,pM,pD]
     ·simp only [ZE,↓reduceIte,pE,pL,pA,pS,pM,pD]
     rcases Nat.lt_or_ge j q.length with hjl | hjl
     ·have hw2 := wrap_succ (show j < 9223372036854775807 by omega)
      have ha := hac q[j] (List.getElem_mem hjl)
      obtain ⟨m, hm⟩ : ∃ m, q[j] = m := ⟨_, rfl⟩
      rw [hm] at ha
      simp only [ZE,↓reduceIte,pE,pL,pA,pS,pM,pD] at ha
      simp (maxSteps := 4000000) only [ZE,↓reduceIte,pE,pL,pA,pS,pM,pD, dl, inI, hQl, getD_map hiQ, hqq, dec_lt hjl, lt_int hjl, getD_map hjl, hm, zN,qT,qG,qL,qH,qN,qB,qE,qO,qA,qM, List.length_map]
      refine EFn.p ?_
      simp only [ZE,↓reduceIte,pE,pL,pA,pS,pM,pD, zN,qT,qG,qL,qH,qN,qB,qE,qO,qA,qM]
      refine ECall.i ha ?_
      simp only [ZE,↓reduceIte,pE,pL,pA,pS,pM,pD, zN,qT,qG,qL,qH,qN,qB,qE,qO,qA,qM, hw2]
      exact hjl
     ·have : j = q.length := by omega
      subst this
      simp (maxSteps := 4000000) only [ZE,↓reduceIte,pE,pL,pA,pS,pM,pD, dl, inI, hQl, getD_map hiQ, hqq, dec_ge hjl, zN,qT,qG,qL,qH,qN,qB,qE,qO,qA,qM, List.length_map, hw]
      exact h
   ·have : i = 3 := by omega
    subst this
    simp (maxSteps := 4000000) only [ZE,↓reduceIte,pE,pL,pA,pS,pM,pD, zN,qT,qG,qL,qH,qN,qB,qE,qO,qA,qM, List.length_map, hQl]
  ·have d20 : decide ((f.length : Int) > 20) = true := by simp; omega
   simp (maxSteps := 4000000) only [ZE,↓reduceIte,pE,pL,pA,pS,pM,pD, zN,qT,qG,qL,qH,qN,qB,qE,qO,qA,qM, eRaw]
   refine EFn.p ?_
   simp only [ZE,↓reduceIte,pE,pL,pA,pS,pM,pD, zN,qT,qG,qL,qH,qN,qB,qE,qO,qA,qM]
   refine ECall.i ex ?_
   simp only [ZE,↓reduceIte,pE,pL,pA,pS,pM,pD, zN,qT,qG,qL,qH,qN,qB,qE,qO,qA,qM]
   refine EFn.p ?_
   simp only [ZE,↓reduceIte,pE,pL,pA,pS,pM,pD, zN,qT,qG,qL,qH,qN,qB,qE,qO,qA,qM]
   refine ECall.i sc ?_
   simp only [ZE,↓reduceIte,pE,pL,pA,pS,pM,pD, zN,qT,qG,qL,qH,qN,qB,qE,qO,qA,qM, List.length_map, d300, d20]
 ·have d300 : decide ((S : Int) > 300) = true := by simp; omega
  simp (maxSteps := 4000000) only [ZE,↓reduceIte,pE,pL,pA,pS,pM,pD, zN,qT,qG,qL,qH,qN,qB,qE,qO,qA,qM, eRaw]
  refine EFn.p ?_
  simp only [ZE,↓reduceIte,pE,pL,pA,pS,pM,pD, zN,qT,qG,qL,qH,qN,qB,qE,qO,qA,qM]
  refine ECall.i ex ?_
  simp only [ZE,↓reduceIte,pE,pL,pA,pS,pM,pD, zN,qT,qG,qL,qH,qN,qB,qE,qO,qA,qM]
  refine EFn.p ?_
  simp only [ZE,↓reduceIte,pE,pL,pA,pS,pM,pD, zN,qT,qG,qL,qH,qN,qB,qE,qO,qA,qM]
  refine ECall.i sc ?_
  simp only [ZE,↓reduceIte,pE,pL,pA,pS,pM,pD, zN,qT,qG,qL,qH,qN,qB,qE,qO,qA,qM, List.length_map, d300]
end Go.Proofs.Ytejpmjnefokdoaa

/-
 PLAIN LAW: how much an item holds.
-/
namespace Go.Proofs.Ytejpmjnefokdoaa
open Go.Aw
mutual
theorem sz_bulk : ∀ e : Expr, sz e ≤ D.bulkL (eExpr e)
 | .mk o n k w a => by
  have := sz_bulkL a
  rw [sz_mk, eExpr]
  simp only [D.bulkL, D.bulk, eI, eS, litBulk]
  omega
theorem sz_bulkL : ∀ l : List Expr, (l.map sz).sum ≤ D.bulkLL (eExprL l)
 | [] => by simp
 | e :: r => by
  have := sz_bulk e
  have := sz_bulkL r
  simp only [List.map_cons, List.sum_cons, eExprL, D.bulkLL]
  omega
end
theorem item_bulk (z : Item) : (Expr.allL [z.a, z.b, z.c]).length ≤ D.bulkL (eItem z) := by
 have h1 := sz_bulk z.a
 have h2 := sz_bulk z.b
 have h3 := sz_bulk z.c
 rw [allL_len]
 simp only [List.map_cons, List.map_nil, List.sum_cons, List.sum_nil]
 unfold eItem
 simp only [D.bulkL, bulkL_app]
 omega
end Go.Proofs.Ytejpmjnefokdoaa

/-
 PLAIN LAW: rounds settle what has no cycle.
-/
namespace Go.Proofs.Ytejpmjnefokdoaa
open Go.Aw
inductive Way (E : Nat → Nat → Prop) : Nat → Nat → Prop where
 | one {i j : Nat} : E i j → Way E i j
 | more {i j k : Nat} : E i j → Way E j k → Way E i k
theorem Way.snoc {E : Nat → Nat → Prop} {i j k : Nat} (h : Way E i j) (h' : E j k) : Way E i k := by
 induction h with
 | one h1 => exact .more h1 (.one h')
 | more h1 _ ih => exact .more h1 (ih h')
theorem way_run {E : Nat → Nat → Prop} {s : Nat → Nat} (h : ∀ k, E (s k) (s (k + 1))) (a : Nat) : ∀ b, Way E (s a) (s (a + b + 1))
 | 0 => .one (h a)
 | b + 1 => (way_run h a b).snoc (h (a + b + 1))
theorem run_back {n : Nat} {E : Nat → Nat → Prop} {s : Nat → Nat} (hs : ∀ k, s k < n) (h : ∀ k, E (s k) (s (k + 1))) : ∃ i, i < n ∧ Way E i i := by
 refine Classical.byContradiction fun hn => ?_
 have hne : ∀ a b, a < b → s a ≠ s b := fun a b hab e => by
  apply hn
  have := way_run h a (b - a - 1)
  rw [show a + (b - a - 1) + 1 = b by omega, ← e] at this
  exact ⟨s a, hs a, this⟩
 have hnd : ((List.range (n + 1)).map s).Nodup := by
  refine List.pairwise_map.2 (List.Pairwise.imp (fun {a b} hab => hne a b hab) List.pairwise_lt_range)
 have := nodup_lt n _ hnd (fun j hj => by
  obtain ⟨k, _, rfl⟩ := List.mem_map.1 hj
  exact hs k)
 simp at this
 omega
theorem has_end {n : Nat} {E : Nat → Nat → Prop} (hE : ∀ i j, E i j → j < n) (hc : ∀ i, i < n → ¬ Way E i i) (U : Nat → Prop) (i0 : Nat) (h0 : U i0) (hi0 : i0 < n) : ∃ i, i < n ∧ U i ∧ ∀ j, E i j → ¬ U j := by
 refine Classical.byContradiction fun hn => ?_
 have hstep : ∀ p : {i : Nat // i < n ∧ U i}, ∃ q : {i : Nat // i < n ∧ U i}, E p.1 q.1 := fun p => by
  refine Classical.byContradiction fun hq => ?_
  apply hn
  refine ⟨p.1, p.2.1, p.2.2, fun j hj hu => ?_⟩
  exact hq ⟨⟨j, hE _ _ hj, hu⟩, hj⟩
 let nx : {i : Nat // i < n ∧ U i} → {i : Nat // i < n ∧ U i} := fun p => Classical.choose (hstep p)
 have hnx : ∀ p, E p.1 (nx p).1 := fun p => Classical.choose_spec (hstep p)
 let s : Nat → {i : Nat // i < n ∧ U i} := fun k => Nat.rec ⟨i0, hi0, h0⟩ (fun _ p => nx p) k
 obtain ⟨i, hi, hw⟩ := run_back (s := fun k => (s k).1) (fun k => (s k).2.1) (fun k => hnx (s k))
 exact hc i hi hw
def geD (d d' : List Bool) : Prop := ∀ j, d.getD j false = true → d'.getD j false = true
theorem stepD_ge (ready : List Bool → Nat → Bool) (d : List Bool) (i : Nat) : geD d (stepD ready d i) := by
 intro j hj
 unfold stepD
 by_cases e : i = j
 ·subst e
  have hi : i < d.length := by
   rcases Nat.lt_or_ge i d.length with h | h
   ·exact h
   ·rw [List.getD_eq_getElem?_getD, List.getElem?_eq_none h] at hj; simp at hj
  rw [hj, List.getD_eq_getElem?_getD, List.getElem?_set_self hi]; rfl
 ·rw [List.getD_eq_getElem?_getD, List.getElem?_set_ne e, ← List.getD_eq_getElem?_getD]; exact hj
theorem steps_ge (ready : List Bool → Nat → Bool) : ∀ (l : List Nat) (d : List Bool), geD d (l.foldl (stepD ready) d)
 | [], _ => fun _ h => h
 | i :: r, d => fun j h => by rw [List.foldl_cons]; exact steps_ge ready r _ j (stepD_ge ready d i j h)
def undone (d : List Bool) : Nat := d.countP fun b => !b
theorem steps_one {n : Nat} {d : List Bool} {ready : List Bool → Nat → Bool} {i : Nat} (hr : ∀ d', d'.length = n → geD d d' → ready d' i = true) (hi : i < n) : ∀ (l : List Nat) (d' : List Bool), d'.length = n → geD d d' → i ∈ l → (l.foldl (stepD ready) d').getD i false = true
 | [], _, _, _, h => by simp at h
 | k :: r, d', hl, hg, h => by
  rw [List.foldl_cons]
  by_cases e : k = i
  ·subst e
   refine steps_ge ready r _ k ?_
   unfold stepD
   rw [hr d' hl hg, Bool.or_true, List.getD_eq_getElem?_getD, List.getElem?_set_self (by omega)]; rfl
  ·refine steps_one hr hi r _ (by rw [stepD_len]; exact hl) (fun j hj => stepD_ge ready d' k j (hg j hj)) ?_
   rcases List.mem_cons.1 h with h | h
   ·exact absurd h.symm e
   ·exact h
theorem rounds_all {n : Nat} {E : Nat → Nat → Prop} (hE : ∀ i j, E i j → j < n) (hc : ∀ i, i < n → ¬ Way E i i) {ready : List Bool → Nat → Bool}
  (hr : ∀ d i, i < n → d.length = n → (∀ j, E i j → d.getD j false = true) → ready d i = true) : ∀ k, (roundsD n ready k).length = n ∧ ∃ S : List Nat, S.Nodup ∧ (∀ i ∈ S, i < n) ∧ min k n ≤ S.length ∧ ∀ i ∈ S, (roundsD n ready k).getD i false = true
 | 0 => ⟨by simp [roundsD], [], List.nodup_nil, by simp, by simp, by simp⟩
 | k + 1 => by
  obtain ⟨hl, S, h1, h2, h3, h4⟩ := rounds_all hE hc hr k
  have e : roundsD n ready (k + 1) = roundD n ready (roundsD n ready k) := by unfold roundsD; rw [List.range_succ, List.foldl_append]; rfl
  obtain ⟨d, hd⟩ : ∃ d, roundsD n ready k = d := ⟨_, rfl⟩
  rw [e, hd]
  rw [hd] at hl h4
  refine ⟨by unfold roundD; rw [steps_len]; exact hl, ?_⟩
  have hge := steps_ge ready (List.range n) d
  by_cases hall : ∀ i, i < n → d.getD i false = true
  ·refine ⟨List.range n, List.nodup_range, fun i hi => List.mem_range.1 hi, by rw [List.length_range]; omega, fun i hi => hge i (hall i (List.mem_range.1 hi))⟩
  ·obtain ⟨i0, hi0⟩ := Classical.not_forall.1 hall
   have hi0' : i0 < n ∧ ¬ d.getD i0 false = true := by
    refine Classical.byContradiction fun hn => hi0 fun hlt => Classical.byContradiction fun hf => hn ⟨hlt, hf⟩
   obtain ⟨i, hi, hu, hj⟩ := has_end hE hc (fun i => ¬ d.getD i false = true) i0 hi0'.2 hi0'.1
   have hdone : (roundD n ready d).getD i false = true := by
    unfold roundD
    refine steps_one (d := d) (n := n) (fun d' hl' hg' => hr d' i hi hl' (fun j hij => hg' j (Classical.byContradiction fun hf => hj j hij hf))) hi _ d hl (fun _ h => h) (List.mem_range.2 hi)
   have hni : i ∉ S := fun h => hu (h4 i h)
   refine ⟨i :: S, List.nodup_cons.2 ⟨hni, h1⟩, fun j hj => ?_, by rw [List.length_cons]; omega, fun j hj => ?_⟩
   ·rcases List.mem_cons.1 hj with rfl | hj
    ·exact hi
    ·exact h2 j hj
   ·rcases List.mem_cons.1 hj with rfl | hj
    ·exact hdone
    ·exact hge j (h4 j hj)
theorem rounds_settle {n : Nat} {E : Nat → Nat → Prop} (hE : ∀ i j, E i j → j < n) (hc : ∀ i, i < n → ¬ Way E i i) {ready : List Bool → Nat → Bool}
  (hr : ∀ d i, i < n → d.length = n → (∀ j, E i j → d.getD j false = true) → ready d i = true) {k : Nat} (hk : n ≤ k) : ∀ i, i < n → (roundsD n ready k).getD i false = true := by
 obtain ⟨_, S, h1, h2, h3, h4⟩ := rounds_all hE hc hr k
 have hS : S.Perm (List.range n) := by
  have hle : n ≤ S.length := by omega
  have h5 := nodup_lt n S h1 h2
  refine (List.perm_ext_iff_of_nodup h1 List.nodup_range).2 fun j => ⟨fun h => List.mem_range.2 (h2 j h), fun h => ?_⟩
  refine Classical.byContradiction fun hn => ?_
  have := nodup_lt n (j :: S) (List.nodup_cons.2 ⟨hn, h1⟩) (fun i hi => by
   rcases List.mem_cons.1 hi with rfl | hi
   ·exact List.mem_range.1 h
   ·exact h2 i hi)
  rw [List.length_cons] at this
  omega
 intro i hi
 exact h4 i (hS.mem_iff.2 (List.mem_range.2 hi))
end Go.Proofs.Ytejpmjnefokdoaa

/-
 PLAIN LAW: in a valid file the modules can be ordered.
-/
namespace Go.Proofs.Ytejpmjnefokdoaa
open Go.Aw
def EdgeM (l : List Module) (i j : Nat) : Prop := ∃ x ∈ (l.getD i zMod).items, instOf l x = some j
structure Searched (l : List Module) (to : Nat) (es : List Nat) (s s' : List Nat) : Prop where
 sub : ∀ k ∈ s, k ∈ s'
 es : ∀ j ∈ es, j ∈ s'
 to : to ∈ s' → to ∈ s
 closed : ∀ k ∈ s', k ∉ s → ∀ j, EdgeM l k j → j ∈ s'
theorem reachI_false {l : List Module} {to n : Nat} {rec : Nat → List Nat → Bool × List Nat}
  (hs : ∀ i s, sup l s (rec i s).2)
  (hrec : ∀ i s s', i < l.length → (∀ k ∈ s, k < l.length) → unseen l s < n → rec i s = (false, s') → Searched l to [] s s' ∧ ∀ j, EdgeM l i j → j ∈ s') :
  ∀ (r : List Item) (s s' : List Nat), (∀ k ∈ s, k < l.length) → unseen l s ≤ n → reachI l rec to r s = (false, s') → Searched l to [] s s' ∧ ∀ x ∈ r, ∀ j, instOf l x = some j → j ∈ s'
 | [], s, s', _, _, h => by
  simp only [reachI, Prod.mk.injEq, true_and] at h
  subst h
  exact ⟨⟨fun _ h => h, by simp, fun h => h, fun k h1 h2 => absurd h1 h2⟩, by simp⟩
 | x :: r, s, s', hb, hu, h => by
  have ih := reachI_false hs hrec r
  unfold reachI at h
  cases hi : instOf l x with
  | none =>
   rw [hi] at h
   obtain ⟨h1, h2⟩ := ih s s' hb hu h
   refine ⟨h1, fun y hy j hj => ?_⟩
   rcases List.mem_cons.1 hy with rfl | hy
   ·rw [hi] at hj; cases hj
   ·exact h2 y hy j hj
  | some i =>
   rw [hi] at h
   simp only at h
   have hil := (instOf_lt hi).1
   by_cases hc : s.contains i = true
   ·rw [if_pos hc] at h
    obtain ⟨h1, h2⟩ := ih s s' hb hu h
    refine ⟨h1, fun y hy j hj => ?_⟩
    rcases List.mem_cons.1 hy with rfl | hy
    ·rw [hi] at hj; cases hj
     exact h1.sub _ (by simpa using hc)
    ·exact h2 y hy j hj
   ·rw [if_neg hc] at h
    have hc' : s.contains i = false := by simpa using hc
    by_cases ht : i = to
    ·rw [if_pos ht] at h; simp at h
    ·rw [if_neg ht] at h
     have hlt := unseen_lt hil hc'
     have hb' : ∀ k ∈ s ++ [i], k < l.length := fun k hk => by
      rcases List.mem_append.1 hk with hk | hk
      ·exact hb k hk
      ·simp at hk; omega
     have hsup := hs i (s ++ [i])
     cases hq : rec i (s ++ [i]) with
     | mk b s1 =>
      rw [hq] at h hsup
      cases b with
      | true => simp at h
      | false =>
       simp only at h
       obtain ⟨g1, g2⟩ := hrec i (s ++ [i]) s1 hil hb' (by omega) hq
       have hu1 : unseen l s1 ≤ n := by
        have := unseen_le (l := l) (a := s) (b := s1) (fun k hk => g1.sub k (by simp [hk]))
        omega
       obtain ⟨h1, h2⟩ := ih s1 s' (hsup.2 hb') hu1 h
       have hi1 : i ∈ s1 := g1.sub i (by simp)
       refine ⟨⟨fun k hk => h1.sub k (g1.sub k (by simp [hk])), by simp, fun hto => ?_, fun k hk hks j hj => ?_⟩, fun y hy j hj => ?_⟩
       ·have := g1.to (h1.to hto)
        rcases List.mem_append.1 this with h3 | h3
        ·exact h3
        ·simp at h3; exact absurd h3.symm ht
       ·by_cases hk1 : k ∈ s1
        ·by_cases hki : k = i
         ·subst hki; exact h1.sub j (g2 j hj)
         ·exact h1.sub j (g1.closed k hk1 (by simp [hks, hki]) j hj)
        ·exact h1.closed k hk hk1 j hj
       ·rcases List.mem_cons.1 hy with rfl | hy
        ·rw [hi] at hj; cases hj
         exact h1.sub _ hi1
        ·exact h2 y hy j hj
theorem reach_false (l : List Module) (to : Nat) : ∀ (n i : Nat) (s s' : List Nat), i < l.length → (∀ k ∈ s, k < l.length) → unseen l s < n → reach l to n i s = (false, s') → Searched l to [] s s' ∧ ∀ j, EdgeM l i j → j ∈ s'
 | 0, _, _, _, _, _, hn, _ => by omega
 | n + 1, i, s, s', hi, hb, hn, h => by
  obtain ⟨h1, h2⟩ := reachI_false (n := n) (fun i s => reach_sup l to n i s) (fun i s s' a b c d => reach_false l to n i s s' a b c d) (l.getD i zMod).items s s' hb (by omega) h
  exact ⟨h1, fun j ⟨x, hx, hj⟩ => h2 x hx j hj⟩
theorem loops_none {l : List Module} {i : Nat} (hi : i < l.length) (h : loops l i = false) : ¬ Way (EdgeM l) i i := by
 unfold loops at h
 cases hq : reach l i (l.length + 1) i [] with
 | mk b s' =>
  rw [hq] at h
  simp only at h
  subst h
  have hu : unseen l [] < l.length + 1 := by
   unfold unseen
   have := List.countP_le_length (l := List.range l.length) (p := fun k => !([] : List Nat).contains k)
   rw [List.length_range] at this
   omega
  obtain ⟨h1, h2⟩ := reach_false l i _ i [] s' hi (by simp) hu hq
  have key : ∀ a b, Way (EdgeM l) a b → (∀ j, EdgeM l a j → j ∈ s') → b ∈ s' := by
   intro a b hw
   induction hw with
   | one e => intro ha; exact ha _ e
   | more e _ ih => intro ha; exact ih (fun j hj => h1.closed _ (ha _ e) (by simp) j hj)
  intro hw
  have := h1.to (key i i hw h2)
  simp at this
theorem idxP_findM (l : List Module) (n : Str) : idxP (fun m : Module => decide (m.name = n)) l = match findM l n with | some i => i | none => -1 := by
 rw [findM_eq]
 unfold idxP
 cases l.findIdx? (fun m : Module => decide (m.name = n)) <;> rfl
theorem settled_law {l : List Module} (hv : valid l = true) : settledL l = true := by
 have hE : ∀ i j, EdgeM l i j → j < l.length := fun i j ⟨x, _, h⟩ => (instOf_lt h).1
 have hc : ∀ i, i < l.length → ¬ Way (EdgeM l) i i := fun i hi => by
  have h := ((valid_iff l).1 hv i hi).1
  unfold headBad at h
  simp only [Bool.or_eq_false_iff] at h
  exact loops_none hi h.2
 have hr : ∀ d i, i < l.length → d.length = l.length → (∀ j, EdgeM l i j → d.getD j false = true) → readyM l d i = true := by
  intro d i hi hd hj
  have hg : l.getD i zMod = l[i] := by simp [List.getD, hi]
  unfold readyM
  have key : ∀ r : List Item, (∀ x ∈ r, x ∈ l[i].items) → r.foldl (readyX l d) true = true := by
   intro r
   induction r with
   | nil => intro _; rfl
   | cons x r ih =>
    intro hr
    rw [List.foldl_cons]
    have hx := hr x List.mem_cons_self
    have : readyX l d true x = true := by
     unfold readyX
     split
     ·rename_i h9
      have hl := lost_T (mem_ok hv hi hx).2.1
      unfold lostT at hl
      simp only [h9, Int.reduceEq, if_false, if_true, Bool.or_eq_false_iff, Bool.not_eq_false'] at hl
      obtain ⟨z, hz⟩ := Option.isSome_iff_exists.1 hl.1
      obtain ⟨k, hk, rfl, _⟩ := findM_lt hz
      have hinst : instOf l x = some k := by unfold instOf; rw [if_pos h9, hz]; simp
      have he : EdgeM l i k := ⟨x, by rw [hg]; exact hx, hinst⟩
      rw [idxP_findM, hz]
      simp only [Int.toNat_natCast, hj k he, Bool.and_true, Bool.true_and, decide_eq_true_eq]
      omega
     ·rfl
    rw [this]
    exact ih (fun y hy => hr y (List.mem_cons_of_mem _ hy))
  rw [hg]
  exact key _ (fun _ h => h)
 have hall := rounds_settle hE hc hr (Nat.le_refl l.length)
 have hlen := (rounds_all hE hc hr l.length).1
 unfold settledL
 rw [List.all_eq_true]
 intro b hb
 obtain ⟨i, hi, rfl⟩ := List.getElem_of_mem hb
 have := hall i (by omega)
 rw [List.getD_eq_getElem?_getD, List.getElem?_eq_getElem hi] at this
 exact this
end Go.Proofs.Ytejpmjnefokdoaa

/-
 PLAIN LAW: in a valid file the wires of a module can be ordered.
-/
namespace Go.Proofs.Ytejpmjnefokdoaa
open Go.Aw
def isRef (e : Expr) : Prop := e.op = 14 ∨ e.op = 15
structure Seen (m : Module) (es : List Expr) (a s : List Str) : Prop where
 sub : ∀ n, has a n = true → has s n = true
 es : ∀ e ∈ es, isRef e → has s e.name = true
 closed : ∀ n, has s n = true → has a n = false → has [5] (kindOf m n) = true → ∀ e ∈ Expr.allL [(declOf m n).a], isRef e → has s e.name = true
theorem seen_fold {m : Module} {n : Nat} (hrec : ∀ a l, left m a < n → Seen m (Expr.allL l) a (visit m n a l)) : ∀ (es : List Expr) (a : List Str), left m a ≤ n → Seen m es a (es.foldl (visitE m (visit m n)) a)
 | [], a, _ => ⟨fun _ h => h, by simp, fun k h1 h2 => by rw [List.foldl_nil] at h1; rw [h1] at h2; cases h2⟩
 | e :: r, a, hl => by
  rw [List.foldl_cons]
  have hstep : Seen m [e] a (visitE m (visit m n) a e) := by
   unfold visitE
   by_cases h1 : ((e.op != 14 && e.op != 15) || has a e.name) = true
   ·rw [if_pos h1]
    refine ⟨fun _ h => h, fun q hq hr => ?_, fun k h2 h3 => by rw [h2] at h3; cases h3⟩
    simp only [List.mem_singleton] at hq
    subst hq
    rcases (Bool.or_eq_true _ _).mp h1 with h2 | h2
    ·simp only [Bool.and_eq_true, bne_iff_ne, ne_eq] at h2
     rcases hr with hr | hr
     ·exact absurd hr h2.1
     ·exact absurd hr h2.2
    ·exact h2
   ·rw [if_neg h1]
    have hna : has a e.name = false := by
     simp only [Bool.or_eq_true, not_or, Bool.not_eq_true] at h1
     exact h1.2
    have hone : has (a ++ [e.name]) e.name = true := by rw [has_app]; simp [has]
    by_cases h2 : has [5] (kindOf m e.name) = true
    ·rw [if_pos h2]
     have hlt := left_lt m (kind_decl h2) hna
     obtain ⟨g1, g2, g3⟩ := hrec (a ++ [e.name]) [(declOf m e.name).a] (by omega)
     refine ⟨fun k hk => g1 k (by rw [has_app, hk]; rfl), fun q hq _ => ?_, fun k hk hka hk5 q hq hr => ?_⟩
     ·simp only [List.mem_singleton] at hq
      subst hq
      exact g1 _ hone
     ·by_cases hke : has (a ++ [e.name]) k = true
      ·have : k = e.name := by
        rw [has_app, hka, Bool.false_or] at hke
        simpa [has] using hke
       subst this
       exact g2 q hq hr
      ·exact g3 k hk (by simpa using hke) hk5 q hq hr
    ·rw [if_neg h2]
     refine ⟨fun k hk => by rw [has_app, hk]; rfl, fun q hq _ => ?_, fun k hk hka hk5 q hq hr => ?_⟩
     ·simp only [List.mem_singleton] at hq
      subst hq
      exact hone
     ·rw [has_app, hka, Bool.false_or] at hk
      have : k = e.name := by simpa [has] using hk
      subst this
      exact absurd hk5 h2
  have hle : left m (visitE m (visit m n) a e) ≤ n := Nat.le_trans (left_le m hstep.sub) hl
  obtain ⟨g1, g2, g3⟩ := seen_fold hrec r _ hle
  refine ⟨fun k hk => g1 k (hstep.sub k hk), fun q hq hr => ?_, fun k hk hka hk5 q hq hr => ?_⟩
  ·rcases List.mem_cons.1 hq with rfl | hq
   ·exact g1 _ (hstep.es q (by simp) hr)
   ·exact g2 q hq hr
  ·by_cases hk1 : has (visitE m (visit m n) a e) k = true
   ·exact g1 _ (hstep.closed k hk1 hka hk5 q hq hr)
   ·exact g3 k hk (by simpa using hk1) hk5 q hq hr
theorem seen_visit (m : Module) : ∀ (n : Nat) (a : List Str) (l : List Expr), left m a < n → Seen m (Expr.allL l) a (visit m n a l)
 | 0, _, _, h => by omega
 | n + 1, a, l, h => by
  rw [visit]
  exact seen_fold (fun a l h => seen_visit m n a l h) _ a (by omega)
theorem seen_depends (m : Module) (l : List Expr) : Seen m (Expr.allL l) [] (dependsL m l) := seen_visit m _ [] l (Nat.lt_succ_of_le List.countP_le_length)
def EdgeW (m : Module) (i j : Nat) : Prop := ∃ x y, m.items[i]? = some x ∧ x.kind.1 = 5 ∧ m.items[j]? = some y ∧ y.kind.1 = 5 ∧ ∃ e ∈ Expr.allL [x.a], e.op = 14 ∧ y.name = e.name
theorem wire_decl {l : List Module} (hv : valid l = true) {i : Nat} (hi : i < l.length) {y : Item} (hy : y ∈ l[i].items) (h5 : y.kind.1 = 5) : declOf l[i] y.name = y ∧ has [5] (kindOf l[i] y.name) = true := by
 obtain ⟨A, B, hm⟩ := List.append_of_mem hy
 have hd : decl y.name y = true := by unfold decl declares; simp [h5]
 have hf := find_self hv hi hm hd
 have e : declOf l[i] y.name = y := by rw [declOf_eq, hf]; rfl
 exact ⟨e, by unfold kindOf; rw [e, h5]; rfl⟩
theorem wires_none {l : List Module} (hv : valid l = true) {i : Nat} (hi : i < l.length) (k : Nat) : ¬ Way (EdgeW l[i]) k k := by
 intro hw
 obtain ⟨x, hx, h5⟩ : ∃ x, l[i].items[k]? = some x ∧ x.kind.1 = 5 := by
  cases hw with
  | one e => obtain ⟨x, _, h1, h2, _⟩ := e; exact ⟨x, h1, h2⟩
  | more e _ => obtain ⟨x, _, h1, h2, _⟩ := e; exact ⟨x, h1, h2⟩
 have hxm : x ∈ l[i].items := List.mem_of_getElem? hx
 have hb := (mem_ok hv hi hxm).2.2
 unfold kindBad at hb
 rw [if_pos h5] at hb
 obtain ⟨g1, g2, g3⟩ := seen_depends l[i] [x.a]
 have key : ∀ a b, Way (EdgeW l[i]) a b → (∀ z, l[i].items[a]? = some z → ∀ e ∈ Expr.allL [z.a], isRef e → has (dependsL l[i] [x.a]) e.name = true) → ∃ y, l[i].items[b]? = some y ∧ has (dependsL l[i] [x.a]) y.name = true := by
  intro a b hw
  induction hw with
  | one e =>
   intro ha
   obtain ⟨u, y, h1, h2, h3, h4, q, hq, h6, h7⟩ := e
   exact ⟨y, h3, by rw [h7]; exact ha u h1 q hq (.inl h6)⟩
  | more e _ ih =>
   intro ha
   obtain ⟨u, y, h1, h2, h3, h4, q, hq, h6, h7⟩ := e
   refine ih (fun z hz p hp hr => ?_)
   rw [h3] at hz
   cases hz
   have hy : y ∈ l[i].items := List.mem_of_getElem? h3
   obtain ⟨d1, d2⟩ := wire_decl hv hi hy h4
   refine g3 y.name (by rw [h7]; exact ha u h1 q hq (.inl h6)) rfl d2 p (by rw [d1]; exact hp) hr
 obtain ⟨y, h1, h2⟩ := key k k hw (fun z hz e he hr => by
  rw [hx] at hz
  cases hz
  exact g2 e he hr)
 rw [hx] at h1
 cases h1
 rw [hb] at h2
 cases h2
theorem foldl_true {α : Type} {f : Bool → α → Bool} : ∀ (l : List α), (∀ x ∈ l, f true x = true) → l.foldl f true = true
 | [], _ => rfl
 | x :: r, h => by
  rw [List.foldl_cons, h x List.mem_cons_self]
  exact foldl_true r fun y hy => h y (List.mem_cons_of_mem _ hy)
theorem acyclic_law {l : List Module} (hv : valid l = true) {i : Nat} (hi : i < l.length) : acyclicM l[i] = true := by
 have hE : ∀ a b, EdgeW l[i] a b → b < l[i].items.length := fun a b ⟨_, y, _, _, h, _⟩ => (List.getElem?_eq_some_iff.1 h).1
 have hr : ∀ d k, k < l[i].items.length → d.length = l[i].items.length → (∀ j, EdgeW l[i] k j → d.getD j false = true) → readyA l[i] d k = true := by
  intro d k hk _ hj
  have hg : l[i].items.getD k zItem = l[i].items[k] := by simp [List.getD, hk]
  unfold readyA
  rw [hg]
  split
  ·rename_i h5
   refine foldl_true _ fun e he => ?_
   unfold readyE
   refine foldl_true _ fun p hp => ?_
   unfold readyN
   split
   ·rename_i hc
    simp only [Bool.and_eq_true, beq_iff_eq, decide_eq_true_eq] at hc
    rw [List.mem_zipIdx_iff_getElem?] at hp
    have : EdgeW l[i] k p.2 := ⟨l[i].items[k], p.1, by simp [hk], h5, hp, hc.1.2, e, he, hc.1.1, hc.2⟩
    rw [hj _ this]; rfl
   ·rfl
  ·rfl
 have hall := rounds_settle hE (fun k _ => wires_none hv hi k) hr (Nat.le_succ l[i].items.length)
 have hlen := (rounds_all hE (fun k _ => wires_none hv hi k) hr (l[i].items.length + 1)).1
 unfold acyclicM
 rw [List.all_eq_true]
 intro b hb
 obtain ⟨j, hj, rfl⟩ := List.getElem_of_mem hb
 have := hall j (by omega)
 rw [List.getD_eq_getElem?_getD, List.getElem?_eq_getElem hj] at this
 exact this
end Go.Proofs.Ytejpmjnefokdoaa

/-
 CheckCycles answers true.
-/
namespace Go.Proofs.Ytejpmjnefokdoaa
open Go.Aw
theorem sum_mem_le {X : Type} (g : X → Nat) : ∀ {l : List X} {x : X}, x ∈ l → g x ≤ (l.map g).sum
 | y :: l, x, h => by
  rw [List.map_cons, List.sum_cons]
  rcases List.mem_cons.1 h with rfl | h
  ·omega
  ·have := sum_mem_le g h; omega
theorem fine_size {f : List Module} (h : sizeF f ≤ 300) : ∀ m ∈ f, Fine 300 m := by
 intro m hm
 have h1 : sizeM m ≤ sizeF f := sum_mem_le sizeM hm
 have h2 : ∀ x ∈ m.items, sizeI x ≤ 300 := fun x hx => by
  have := sum_mem_le sizeI hx
  unfold sizeM at h1
  omega
 unfold sizeM at h1
 refine ⟨by omega, by omega, fun x hx => ?_, fun x hx => ?_, fun x hx => ?_⟩
 ·have := h2 x hx
  unfold sizeI at this
  rw [allL_len] at this
  simp only [List.map_cons, List.map_nil, List.sum_cons, List.sum_nil] at this
  omega
 ·have := h2 x hx
  unfold sizeI at this
  omega
 ·have := h2 x hx
  unfold sizeI at this
  omega
theorem cyc_q (q : List Module) (hl : q.length ≤ 1000) (hF : ∀ m ∈ q, Fine 300 m) : q.length ≤ 1000000 ∧ ∃ b, FnP Try.prog 12 [.agg [eModules q]] (.d (eB b)) [] ∧ (b = true → FnP Try.prog 19 [.agg [eModules q]] (.d (eB true)) [] ∧ ∀ m ∈ q, FnP Try.prog 20 [.agg (eModule m)] (.d (eB true)) []) := by
 refine ⟨by omega, valid q, valid_c q (small_fine (n := 300) (by omega) hl hF), fun hv => ⟨?_, fun m hm => ?_⟩⟩
 ·have := settled_c q (by omega) (fun m hm => by have := (hF m hm).items; omega)
  rw [settled_law hv] at this
  exact this
 ·have hml := (hF m hm).items
  have := acyclic_c m (by omega) (fun x hx => by
   have h1 := (hF m hm).sizes x hx
   have h2 : (Expr.allL [x.a]).length ≤ 300 := by
    rw [allL_len]
    simp only [List.map_cons, List.map_nil, List.sum_cons, List.sum_nil]
    omega
   exact ⟨by omega, all_c _ _ (Nat.lt_succ_self _) (by omega)⟩)
  obtain ⟨i, hi, rfl⟩ := List.getElem_of_mem hm
  rw [acyclic_law hv hi] at this
  exact this
theorem cycles_c (x : Raw) (hx : x.ok) (k0 k1 k2 k3 : Nat) (h0 : k0 < 256) (h1 : k1 < 256) (h2 : k2 < 256) (h3 : k3 < 256) (f : List Module) (hB : sizeF f ≤ 2000000) (hl : f.length ≤ 2000000) : FnP Try.prog 5 [eRaw x, .agg [eU8 k0, eU8 k1, eU8 k2, eU8 k3], .agg [eModules f]] (.d (eB true)) [] := by
 obtain ⟨hl2, hl0, _⟩ := tidy_made x
 have hfine := fine_made x
 have hmc := made_c x hx
 have hvm := valid_made x
 obtain ⟨g, hg⟩ : ∃ g, made x = g := ⟨_, rfl⟩
 rw [hg] at hl2 hl0 hmc hfine hvm
 clear hg
 have hi : k0 % g.length < g.length := Nat.mod_lt _ hl0
 obtain ⟨i, hki⟩ : ∃ i, k0 % g.length = i := ⟨_, rfl⟩
 rw [hki] at hi
 have hsp := spoil_c g k0 k1 k2 k3 sT h0 h1 h2 h3 (by omega) i hi hki ((hfine _ (List.getElem_mem hi)).mono (by omega))
 have hg300 : ∀ m ∈ g, Fine 300 m := fun m hm => (hfine m hm).mono (by omega)
 have hv := valid_c g (small_fine (n := 300) (by omega) (by omega) hg300)
 rw [hvm] at hv
 refine cycles_w x k0 k1 k2 k3 g _ f hmc hsp (size_c f (by omega) (by omega)) hv (fun hs hf q hq => ?_)
 simp only [List.mem_cons, List.not_mem_nil, or_false] at hq
 rcases hq with rfl | rfl | rfl
 ·exact cyc_q _ (by omega) hg300
 ·refine cyc_q _ (by rw [List.length_set]; omega) (fun m hm => ?_)
  rcases List.mem_or_eq_of_mem_set hm with h4 | h4
  ·exact hg300 m h4
  ·rw [h4]; exact (spoil_fine (by omega) _ _ _ _ (hfine _ (List.getElem_mem hi))).mono (by omega)
 ·exact cyc_q _ (by omega) (fine_size hs)
theorem bulkLL_ge {X : Type} (f : X → List D) (g : X → Nat) (h : ∀ x, g x ≤ D.bulkL (f x)) : ∀ l : List X, (l.map g).sum ≤ D.bulkLL (l.map f)
 | [] => by simp
 | x :: l => by
  have := h x
  have := bulkLL_ge f g h l
  simp only [List.map_cons, List.sum_cons, D.bulkLL]
  omega
theorem sum_ones {X : Type} : ∀ l : List X, (l.map fun _ => 1).sum = l.length
 | [] => rfl
 | _ :: l => by rw [List.map_cons, List.sum_cons, sum_ones l, List.length_cons]; omega
theorem size_item (x : Item) : sizeI x + 1 ≤ D.bulkL (eItem x) := by
 have h1 := sz_bulk x.a
 have h2 := sz_bulk x.b
 have h3 := sz_bulk x.c
 have h4 := bulkLL_ge eNum (fun _ => 1) (fun n => by simp only [eNum, D.bulkL, D.bulk, eI, eS, litBulk]; omega) x.args
 have h5 := bulkLL_ge eBind (fun _ => 1) (fun n => by simp only [eBind, D.bulkL, D.bulk, eS, litBulk]; omega) x.ports
 rw [sum_ones] at h4 h5
 unfold sizeI
 rw [allL_len]
 simp only [List.map_cons, List.map_nil, List.sum_cons, List.sum_nil]
 unfold eItem
 simp only [D.bulkL, bulkL_app, D.bulk, eNums, eBinds, eI, litBulk]
 omega
theorem sum_add {X : Type} (g : X → Nat) : ∀ l : List X, (l.map fun x => g x + 1).sum = (l.map g).sum + l.length
 | [] => rfl
 | x :: l => by rw [List.map_cons, List.sum_cons, sum_add g l, List.map_cons, List.sum_cons, List.length_cons]; omega
theorem size_mod (m : Module) : sizeM m + 1 ≤ D.bulkL (eModule m) := by
 have h4 := bulkLL_ge (fun s : Str => [eS s]) (fun _ => 1) (fun n => by simp only [D.bulkL, D.bulk, eS, litBulk]; omega) m.params
 have h5 := bulkLL_ge eItem (fun x => sizeI x + 1) size_item m.items
 rw [sum_ones] at h4
 rw [sum_add sizeI] at h5
 have h6 : 1 ≤ D.bulk (eS m.name) := by simp only [D.bulk, eS, litBulk]; omega
 unfold sizeM eModule
 simp only [D.bulkL, D.bulk, eStrs, eItems]
 omega
theorem file_bulk (l : List Module) : sizeF l + l.length ≤ D.bulk (eModules l) := by
 have h5 := bulkLL_ge eModule (fun x => sizeM x + 1) size_mod l
 rw [sum_add sizeM] at h5
 unfold sizeF eModules
 simp only [D.bulk]
 omega
end Go.Proofs.Ytejpmjnefokdoaa

/-
 BOUNDED ARGUMENTS: how much they hold; arguments of the laws beside a recursive type.
-/
namespace Go.Proofs.Ytejpmjnefokdoaa
open Go.Aw Go.ChangeShapes Go.WideShapes Go.ChangeAt Go.RowKit
set_option maxRecDepth 100000
mutual
theorem bulk_le {H : Type} : ∀ d : DataW H, dwBulk d ≤ Rows.uptoBulk d
 | .lit (.string b) => by simp only [dwBulk, Rows.uptoBulk]; exact Nat.le_refl _
 | .lit (.bool _) => by simp only [dwBulk, Rows.uptoBulk]; exact Nat.le_refl _
 | .lit (.int _ _) => by simp only [dwBulk, Rows.uptoBulk]; exact Nat.le_refl _
 | .lit (.float _ _) => by simp only [dwBulk, Rows.uptoBulk]; exact Nat.le_refl _
 | .lit .nil => by simp only [dwBulk, Rows.uptoBulk]; exact Nat.le_refl _
 | .nil => by simp only [dwBulk, Rows.uptoBulk]; exact Nat.le_refl _
 | .ptr d => by have := bulk_le d; simp only [dwBulk, Rows.uptoBulk]; omega
 | .slice a b => by have := bulk_leAll a; have := bulk_leAll b; simp only [dwBulk, Rows.uptoBulk]; omega
 | .agg a => by have := bulk_leAll a; simp only [dwBulk, Rows.uptoBulk]; omega
 | .iface _ d => by have := bulk_le d; simp only [dwBulk, Rows.uptoBulk]; omega
 | .map _ => by simp only [dwBulk, Rows.uptoBulk]; omega
 | .held _ => by simp only [dwBulk, Rows.uptoBulk]; exact Nat.le_refl _
theorem bulk_leAll {H : Type} : ∀ ds : List (DataW H), dwBulkAll ds ≤ Rows.uptoBulkAll ds
 | [] => by simp only [dwBulkAll, Rows.uptoBulkAll]; exact Nat.le_refl _
 | d :: ds => by have := bulk_le d; have := bulk_leAll ds; simp only [dwBulkAll, Rows.uptoBulkAll]; omega
end
def shRawX : List Sx := [.int .u8, .int .u8, .sl [.int .u8]]
def shK4X : List Sx := [.int .u8, .int .u8, .int .u8, .int .u8]
section
variable {Q : D → Prop}
theorem fitsX_u8 {d : D} (h : Sx.fits Q (.int .u8) d) : ∃ n : Nat, d = .lit (.int .u8 n) ∧ n < 256 := by
 simp only [Sx.fits] at h
 obtain ⟨n, rfl, h⟩ := h
 have : 0 ≤ n ∧ n ≤ 255 := by simpa [Lit.wf, IntKind.min, IntKind.max, IntKind.bits, IntKind.signed] using h
 exact ⟨n.toNat, by rw [Int.toNat_of_nonneg this.1], by omega⟩
theorem bytesX_of {d : D} (h : Sx.fits Q (.sl [.int .u8]) d) : ∃ l : List Nat, d = eBytes l ∧ ∀ b ∈ l, b < 256 := by
 simp only [Sx.fits] at h
 obtain ⟨es, rfl, he⟩ := h
 obtain ⟨l, rfl, hl⟩ := list_of (enc := fun b : Nat => [eU8 b]) (p := fun b => b < 256) (fun e h' => by
  simp only [Sx.fitsL] at h'
  obtain ⟨x, _, rfl, hx, rfl⟩ := h'
  obtain ⟨n, rfl, hn⟩ := fitsX_u8 hx
  exact ⟨n, rfl, hn⟩) es he
 exact ⟨l, rfl, hl⟩
theorem rawX_of {d : D} (h : AShX.fits Q (.agg shRawX) d) : ∃ x : Raw, d = eRaw x ∧ x.ok := by
 obtain ⟨ds, rfl, h⟩ := h
 simp only [shRawX, Sx.fitsL] at h
 obtain ⟨a, _, rfl, h1, b, _, rfl, h2, c, _, rfl, h3, rfl⟩ := h
 obtain ⟨k, rfl, hk⟩ := fitsX_u8 h1
 obtain ⟨w, rfl, hw⟩ := fitsX_u8 h2
 obtain ⟨l, rfl, hl⟩ := bytesX_of h3
 exact ⟨⟨k, w, l⟩, rfl, hk, hw, hl⟩
theorem k4X_of {d : D} (h : AShX.fits Q (.agg shK4X) d) : ∃ a b c e : Nat, d = .agg [eU8 a, eU8 b, eU8 c, eU8 e] ∧ a < 256 ∧ b < 256 ∧ c < 256 ∧ e < 256 := by
 obtain ⟨ds, rfl, h⟩ := h
 simp only [shK4X, Sx.fitsL] at h
 obtain ⟨a, _, rfl, h1, b, _, rfl, h2, c, _, rfl, h3, e, _, rfl, h4, rfl⟩ := h
 obtain ⟨a, rfl, ha⟩ := fitsX_u8 h1
 obtain ⟨b, rfl, hb⟩ := fitsX_u8 h2
 obtain ⟨c, rfl, hc⟩ := fitsX_u8 h3
 obtain ⟨e, rfl, he⟩ := fitsX_u8 h4
 exact ⟨a, b, c, e, rfl, ha, hb, hc, he⟩
end
def zNumV : List Value := [.int .i64 0, .string ByteArray.empty]
def zExprV : List Value := [.int .i64 0, .string ByteArray.empty, .int .i64 0, .string ByteArray.empty, .int .i64 0, .string ByteArray.empty, .slice none 0 0]
def zeroItem : List Value := [.int .i64 0, .string ByteArray.empty] ++ (zNumV ++ (zNumV ++ (zNumV ++ (zExprV ++ (zExprV ++ (zExprV ++ [.int .i64 0, .string ByteArray.empty, .int .i64 0, .string ByteArray.empty, .slice none 0 0, .slice none 0 0]))))))
def zNumW {H : Type} : DataW H := .agg [.lit (.int .i64 0), .lit (.string [])]
def zExprW {H : Type} : DataW H := .agg [.lit (.int .i64 0), .lit (.string []), zNumW, zNumW, .nil]
def zeroItemW {H : Type} : List (DataW H) := [.lit (.int .i64 0), .lit (.string []), zNumW, zNumW, zNumW, zExprW, zExprW, zExprW, .agg [.lit (.int .i64 0), .lit (.string []), .lit (.int .i64 0)], .lit (.string []), .nil, .nil]
end Go.Proofs.Ytejpmjnefokdoaa

/-
 CheckCycles, where the arguments hold together at most 1048576 values: in a valid file the wires of each module, and the modules, can be ordered such that each uses earlier ones alone.
 Conditions: the bound on the arguments alone.
-/
namespace Go.Proofs.Ytejpmjnefokdoaa
open Go.Aw Go.ChangeShapes Go.WideShapes Go.ChangeAt Go.RowKit
set_option maxRecDepth 100000
theorem cycles_lifted (os : Os) (started : os.Started) (H : Type) (enc : TypeId × Value → H) (F : Stop.Interp) :
  ReturnsInHanded {} Try.checked os 5 .any ((Rows.OpenSpec.upto Rows.checkCyclesSpec).pre6 enc Try.prog Try.f5 Rows.checkCyclesUptoRow.domain false) (((Rows.OpenSpec.upto Rows.checkCyclesSpec).at F).post enc Try.prog Try.f5 false true false false) := by
 refine returnsInHanded_of_cond (C := Try.checked) (s := Rows.OpenSpec.upto Rows.checkCyclesSpec) (k := Rows.uptoSmall) rfl own started (by kernel_rfl) Try.func5
  (OpenSpec.witness (enc := enc) (C := Try.checked) (s := Rows.OpenSpec.upto Rows.checkCyclesSpec) (k := Rows.uptoSmall) rfl false ⟨#[], #[.agg #[.int .u8 0, .int .u8 0, .slice none 0 0], .agg #[.int .u8 0, .int .u8 0, .int .u8 0, .int .u8 0], .agg #[.slice none 0 0]], []⟩ 8 (by kernel_rfl) (by kernel_rfl) (by kernel_rfl)
   (x := ([.agg [.lit (.int .u8 0), .lit (.int .u8 0), .nil], .agg [.lit (.int .u8 0), .lit (.int .u8 0), .lit (.int .u8 0), .lit (.int .u8 0)], .agg [.nil]], [], [])) (by kernel_rfl) rfl (by kernel_rfl)) ?_
 intro W base args ds gs before hval hW _ hk _
 have hgs : gs = [] := by
  obtain ⟨p, q, _, hV, _⟩ := hW
  exact (trodVars_none hV).1
 subst hgs
 rw [List.append_nil] at hk
 have hbk : Rows.uptoBulkAll ds ≤ 1048576 := of_decide_eq_true hk
 refine law_postX (P := Try.prog) (tr := 48) (R := shE) (N := 8) (n := 12) (s := Rows.checkCyclesSpec) rec_type rec_shape rec_len (by simp [shE]) (ss := [.agg shRawX, .agg shK4X, .agg shFile]) laidOut (of_decide_eq_true (by kernel_rfl)) (tb := 4) (by kernel_rfl) Try.underlying4 (by kernel_rfl) rfl hval hW (fun hl => ?_) (fun k Ds hD hB => ?_)
 ·match ds, hl with
  | [_, _, _], _ => rfl
 ·obtain ⟨a, _, rfl, ha, b, _, rfl, hb, c, _, rfl, hc, rfl⟩ := hD
  obtain ⟨x, rfl, hx⟩ := rawX_of ha
  obtain ⟨k0, k1, k2, k3, rfl, h0, h1, h2, h3⟩ := k4X_of hb
  obtain ⟨cs, rfl, hc⟩ := hc
  simp only [shFile, Sx.fitsL] at hc
  obtain ⟨fd, _, rfl, hc, rfl⟩ := hc
  obtain ⟨f, rfl⟩ := fits_slX (fun e he => mod_of (recP_exprs k) he) hc
  have h5 := file_bulk f
  simp only [eModules, D.bulk] at h5
  have h6 := bulk_leAll ds
  simp only [D.bulkL, D.bulk] at hB
  exact cycles_c x hx k0 k1 k2 k3 h0 h1 h2 h3 f (by omega) (by omega)
theorem cycles_holds : Rows.CheckCyclesUptoSaid :=
 OpenClaim.holds_of_cond 5 Try.f5 rfl rfl rfl rfl rfl rfl rfl ⟨rfl, rfl, rfl, rfl, rfl⟩ rfl rfl rfl rfl rfl (by kernel_rfl) Try.func5 (by kernel_rfl)
  (of_decide_eq_true (by kernel_rfl)) (by unfold Func.isWrapper; first | (rw [if_pos (by decide +kernel)]; kernel_rfl) | (rw [if_neg (by decide +kernel)]; exact ⟨rfl, rfl⟩))
  (fun os started H enc _ F => cycles_lifted os started H enc F)
end Go.Proofs.Ytejpmjnefokdoaa
