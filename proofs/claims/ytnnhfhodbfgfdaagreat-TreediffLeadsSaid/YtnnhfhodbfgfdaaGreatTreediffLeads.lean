/-
 TreediffLeads: the edits from a file to another one, applied to the first one, give the normal form of the other one; no part is edited twice, and there are no edits exactly if the normal forms are equal.
 Conditions: none.
-/
import Derived.Test.YtnnhfhodbfgfdaaGreatGL
import Derived.Test.YtnnhfhodbfgfdaaGreatK2
import Derived.Test.YtnnhfhodbfgfdaaGreatRows
import Derived.Test.YtnnhfhodbfgfdaaGreatK5
set_option linter.unusedSimpArgs false
set_option linter.unusedVariables false
/-
 ARGUMENTS OF THE LAWS AS DATA.
-/
namespace Go.Proofs.YtnnhfhodbfgfdaaGreat
open Go.Aw Go.ChangeShapes Go.WideShapes Go.ChangeAt Go.RowKit
set_option maxRecDepth 100000
theorem own : ownKnob Tryz.prog.godebug = none := by kernel_rfl
theorem laidOut : laidOutB Tryz.prog = true := by kernel_rfl
def shRaw : ASh := .agg [.int .u8, .int .u8, .sl [.int .u8]]
def shK2 : ASh := .agg [.int .u8, .int .u8]
def shK4 : ASh := .agg [.int .u8, .int .u8, .int .u8, .int .u8]
def shB : ASh := .one (.sl [.int .u8])
theorem fitsL_3 {s t u : Sh} {ds : List D} (h : Sh.fitsL [s, t, u] ds) : ∃ a b c, ds = [a, b, c] ∧ s.fits a ∧ t.fits b ∧ u.fits c := by
 simp only [Sh.fitsL] at h
 obtain ⟨a, r, rfl, h1, b, r2, rfl, h2, c, r3, rfl, h3, rfl⟩ := h
 exact ⟨a, b, c, rfl, h1, h2, h3⟩
theorem bytes_of {d : D} (h : Sh.fits (.sl [.int .u8]) d) : ∃ l : List Nat, d = eBytes l ∧ ∀ b ∈ l, b < 256 := by
 obtain ⟨l, rfl, hl⟩ := fits_sl (enc := fun b : Nat => [eU8 b]) (p := fun b => b < 256) (fun e he => by
  obtain ⟨x, rfl, hx⟩ := fitsL_1 he
  obtain ⟨n, rfl, hn⟩ := fits_u8 hx
  exact ⟨n, rfl, hn⟩) h
 exact ⟨l, rfl, hl⟩
theorem raw_of {d : D} (h : shRaw.fits d) : ∃ x : Raw, d = eRaw x ∧ x.ok := by
 obtain ⟨ds, rfl, h⟩ := h
 obtain ⟨a, b, c, rfl, h1, h2, h3⟩ := fitsL_3 h
 obtain ⟨k, rfl, hk⟩ := fits_u8 h1
 obtain ⟨w, rfl, hw⟩ := fits_u8 h2
 obtain ⟨l, rfl, hl⟩ := bytes_of h3
 exact ⟨⟨k, w, l⟩, rfl, hk, hw, hl⟩
end Go.Proofs.YtnnhfhodbfgfdaaGreat

/-
 ARGUMENTS OF THE LAWS AS DATA: pairs of files that are changed step by step.
-/
namespace Go.Proofs.YtnnhfhodbfgfdaaGreat
open Go.Aw Go.ChangeShapes Go.WideShapes Go.ChangeAt Go.RowKit
set_option maxRecDepth 100000
def shPair : ASh := .agg [.int .u8, .int .u8, .sl [.int .u8], .int .u8, .int .u8, .sl [.int .u8], .sl [.int .u8, .int .u8, .int .u8, .int .u8], .sl [.int .u8, .int .u8, .int .u8, .int .u8]]
def eZ2 (x y : Raw) (l m : List K4) : D := .agg [eU8 x.kind, eU8 x.w, eBytes x.l, eU8 y.kind, eU8 y.w, eBytes y.l, .sl (l.map eK4), .sl (m.map eK4)]
theorem k4s_of {d : D} (h : Sh.fits (.sl [.int .u8, .int .u8, .int .u8, .int .u8]) d) : ∃ l : List K4, d = .sl (l.map eK4) ∧ ∀ k ∈ l, k.ok := by
 obtain ⟨l, rfl, hl⟩ := fits_sl (enc := eK4) (p := K4.ok) (fun e0 h0 => by
  obtain ⟨a, b, c, e, rfl, h1, h2, h3, h4⟩ := fitsL_4 h0
  obtain ⟨a, rfl, ha⟩ := fits_u8 h1
  obtain ⟨b, rfl, hb⟩ := fits_u8 h2
  obtain ⟨c, rfl, hc⟩ := fits_u8 h3
  obtain ⟨e, rfl, he⟩ := fits_u8 h4
  exact ⟨⟨a, b, c, e⟩, rfl, ha, hb, hc, he⟩) h
 exact ⟨l, rfl, hl⟩
theorem pair_of {d : D} (h : shPair.fits d) : ∃ x y l m, d = eZ2 x y l m ∧ x.ok ∧ y.ok ∧ (∀ k ∈ l, k.ok) ∧ ∀ k ∈ m, k.ok := by
 obtain ⟨ds, rfl, h⟩ := h
 simp only [Sh.fitsL] at h
 obtain ⟨a, _, rfl, h1, b, _, rfl, h2, c, _, rfl, h3, a', _, rfl, h4, b', _, rfl, h5, c', _, rfl, h6, l, _, rfl, h7, m, _, rfl, h8, rfl⟩ := h
 obtain ⟨k, rfl, hk⟩ := fits_u8 h1
 obtain ⟨w, rfl, hw⟩ := fits_u8 h2
 obtain ⟨bs, rfl, hbs⟩ := bytes_of h3
 obtain ⟨k', rfl, hk'⟩ := fits_u8 h4
 obtain ⟨w', rfl, hw'⟩ := fits_u8 h5
 obtain ⟨bs', rfl, hbs'⟩ := bytes_of h6
 obtain ⟨l, rfl, hl⟩ := k4s_of h7
 obtain ⟨m, rfl, hm⟩ := k4s_of h8
 exact ⟨⟨k, w, bs⟩, ⟨k', w', bs'⟩, l, m, rfl, ⟨hk, hw, hbs⟩, ⟨hk', hw', hbs'⟩, hl, hm⟩
end Go.Proofs.YtnnhfhodbfgfdaaGreat

/-
 CONTRACTS: TreediffLeads.
-/
namespace Go.Proofs.YtnnhfhodbfgfdaaGreat
open Go.Aw
open Nat renaming reduceEqDiff → pE, reduceLT → pL, reduceAdd → pA, reduceSub → pS, reduceMul → pM, reduceLeDiff → pD
open Int renaming reduceToNat → qT, reduceGT → qG, reduceLT → qL, reduceGE → qH, reduceBNe → qN, reduceBEq → qB, reduceLE → qE, reduceNe → qO, reduceAdd → qA, reduceNeg → qM
set_option maxRecDepth 100000
set_option maxHeartbeats 40000000
theorem sameF_self (a : List Module) : sameF a a = true := (sameF_iff a a).2 rfl
theorem diffF_self {a : List Module} : diffF a a = [] := diffN_self _
theorem normal_s (a : List Module) (h : Sm a) : FnP Tryz.prog 20 [.agg [eModules a]] (.d (.agg [eModules (normF a)])) [] := normal_c a h.nok.names h.nok.parts h.nok.len h.nok.items
theorem diff_s (a b : List Module) (h : Sm a) (h' : Sm b) : FnP Tryz.prog 17 [.agg [eModules a], .agg [eModules b]] (.d (.sl ((diffF a b).map eEdit))) [] := diff_c a b h.nok h'.nok (by have := h.diff h'; omega)
theorem part_ne {p q : Part} (h : p ≠ q) : (p.kind.val == q.kind.val && decide (p.name = q.name)) = false := (part_eq p q).trans (decide_eq_false h)
theorem leads_c (x y : Raw) (hx : x.ok) (hy : y.ok) (l m : List K4) (hl : ∀ k ∈ l, k.ok) (hm : ∀ k ∈ m, k.ok) : FnP Tryz.prog 4 [eZ2 x y l m] (.d (eB true)) [] := by
 refine FnP.of_eC (own := []) (fun i => if i = 2004 then [.flt ⟨[(0, none), (1, none), (2, none), (3, none), (4, none), (5, none), (6, none), (7, none), (8, none), (9, none), (12, some []), (13, some [])]⟩ ⟨[10, 11], [(12, [10]), (13, [11])]⟩] else if i = 2007 then [.ord ⟨[(0, none), (1, none), (2, none), (3, none), (4, none), (5, none), (6, none), (7, none), (8, none), (9, none), (10, none), (11, none), (12, none), (13, none), (14, none), (15, none), (16, none), (17, none)]⟩] else if i = 2017 then [.ord ⟨[(0, none), (1, none), (2, none), (3, none), (4, none), (5, none), (6, none), (7, none), (8, none), (9, none), (10, none), (11, none), (12, none)]⟩] else []) mixed Tryz.func4 rfl Tryz.call4 Tryz.ntmps4 (Nat.le_of_ble_eq_true rfl) Tryz.results4 (fun hok => ?_)
 have s1 := spoiled_c x hx l hl
 have s2 := spoiled_c y hy m hm
 have sma := sm_spoiled x l
 have smb := sm_spoiled y m
 obtain ⟨a, ha⟩ : ∃ a, spoiled x l = a := ⟨_, rfl⟩
 obtain ⟨b, hb⟩ : ∃ b, spoiled y m = b := ⟨_, rfl⟩
 rw [ha] at s1 sma
 rw [hb] at s2 smb
 have dc := diff_s a b sma smb
 have ac := applied_c a sma (diffF a b) (by have := sma.diff smb; omega)
 rw [leads_law sma.part smb.part] at ac
 have hE := sma.diff smb
 have tw := twice_law sma.part smb.part
 have em := empty_law sma.part smb.part
 obtain ⟨E, hEE⟩ : ∃ E, diffF a b = E := ⟨_, rfl⟩
 rw [hEE] at dc ac hE tw em
 have nb := normal_s b smb
 have na := normal_s a sma
 have sb := same_c (normF b) (normF b)
 rw [sameF_self] at sb
 have dd := diff_s a a sma sma
 rw [diffF_self] at dd
 have sab := same_c (normF a) (normF b)
 have hsame : sameF (normF a) (normF b) = ((E.length : Int) == 0) := by
  rw [Bool.eq_iff_iff, sameF_iff, ← em, beq_iff_eq]
  constructor
  ·intro h; rw [h]; rfl
  ·intro h; exact List.eq_nil_of_length_eq_zero (by omega)
 rw [hsame] at sab
 simp only [appD] at ac
 simp only [List.map_nil] at dd
 simp (maxSteps := 4000000) only [ZE,↓reduceIte,pE,pL,pA,pS,pM,pD, eRaw] at s1 s2
 simp (maxSteps := 4000000) only [ZE,↓reduceIte,pE,pL,pA,pS,pM,pD] at ac nb na sb sab dc dd
 simp (maxSteps := 4000000) only [ZE,↓reduceIte,pE,pL,pA,pS,pM,pD, zN,qT,qG,qL,qH,qN,qB,qE,qO,qA,qM, eZ2]
 refine EFn.p ?_
 simp (maxSteps := 4000000) only [ZE,↓reduceIte,pE,pL,pA,pS,pM,pD, zN,qT,qG,qL,qH,qN,qB,qE,qO,qA,qM]
 refine ECall.i examples_c ?_
 simp (maxSteps := 4000000) only [ZE,↓reduceIte,pE,pL,pA,pS,pM,pD, zN,qT,qG,qL,qH,qN,qB,qE,qO,qA,qM]
 refine ⟨by kernel_rfl, ECall'.i s1 ?_⟩
 simp (maxSteps := 4000000) only [ZE,↓reduceIte,pE,pL,pA,pS,pM,pD, zN,qT,qG,qL,qH,qN,qB,qE,qO,qA,qM]
 refine ECall'.i s2 ?_
 simp (maxSteps := 4000000) only [ZE,↓reduceIte,pE,pL,pA,pS,pM,pD, zN,qT,qG,qL,qH,qN,qB,qE,qO,qA,qM]
 refine EFn.p ?_
 simp (maxSteps := 4000000) only [ZE,↓reduceIte,pE,pL,pA,pS,pM,pD, zN,qT,qG,qL,qH,qN,qB,qE,qO,qA,qM]
 refine ECall.i dc ?_
 simp (maxSteps := 4000000) only [ZE,↓reduceIte,pE,pL,pA,pS,pM,pD, zN,qT,qG,qL,qH,qN,qB,qE,qO,qA,qM]
 refine EFn.p ?_
 simp (maxSteps := 4000000) only [ZE,↓reduceIte,pE,pL,pA,pS,pM,pD, zN,qT,qG,qL,qH,qN,qB,qE,qO,qA,qM]
 refine ECall.i ac ?_
 simp (maxSteps := 4000000) only [ZE,↓reduceIte,pE,pL,pA,pS,pM,pD, zN,qT,qG,qL,qH,qN,qB,qE,qO,qA,qM]
 refine ⟨by kernel_rfl, ECall'.i nb ?_⟩
 simp (maxSteps := 4000000) only [ZE,↓reduceIte,pE,pL,pA,pS,pM,pD, zN,qT,qG,qL,qH,qN,qB,qE,qO,qA,qM]
 refine ECall'.i sb ?_
 simp (maxSteps := 4000000) only [ZE,↓reduceIte,pE,pL,pA,pS,pM,pD, zN,qT,qG,qL,qH,qN,qB,qE,qO,qA,qM]
 refine ECall'.i dd ?_
 simp (maxSteps := 4000000) only [ZE,↓reduceIte,pE,pL,pA,pS,pM,pD, zN,qT,qG,qL,qH,qN,qB,qE,qO,qA,qM]
 refine eloop (fun _ => []) mixed E.length (fun _ => True) (fun i => ([(3, .d (eB true)), (4, .bp 4 0), (5, .bp 5 0), (6, .d (.sl (E.map eEdit))), (8, .d (eI i))], [(4, .box [.d (eModules a)]), (5, .box [.d (eModules b)])])) trivial ?_ ?_ (fun i hi _ => ?_)
 ·simp only [ZE,↓reduceIte,pE,pL,pA,pS,pM,pD, zN,qT,qG,qL,qH,qN,qB,qE,qO,qA,qM]
 ·simp only [ZE,↓reduceIte,pE,pL,pA,pS,pM,pD]
 rcases Nat.lt_or_ge i E.length with h | h
 ·have hw := wrap_succ (show i < 9223372036854775807 by omega)
  simp (maxSteps := 4000000) only [ZE,↓reduceIte,pE,pL,pA,pS,pM,pD, dec_lt h, zN,qT,qG,qL,qH,qN,qB,qE,qO,qA,qM, List.length_map]
  refine eloop (fun i => if i = 2015 then [.ord ⟨[(0, none), (1, none), (2, none), (3, none), (4, none), (5, none), (6, none), (7, none), (8, none), (9, none), (10, none), (11, none), (12, none), (13, none), (14, none), (15, none), (16, none), (17, none), (18, none), (19, none), (20, none), (21, none), (22, none), (23, none)]⟩] else []) mixed i (fun _ => True) (fun k => ([(3, .d (eB true)), (4, .bp 4 0), (5, .bp 5 0), (6, .d (.sl (E.map eEdit))), (8, .d (eI i)), (9, .d (eI k))], [(4, .box [.d (eModules a)]), (5, .box [.d (eModules b)])])) trivial ?_ ?_ (fun k hk _ => ?_)
  ·simp only [ZE,↓reduceIte,pE,pL,pA,pS,pM,pD, zN,qT,qG,qL,qH,qN,qB,qE,qO,qA,qM]
  ·simp only [ZE,↓reduceIte,pE,pL,pA,pS,pM,pD]
  rcases Nat.lt_or_ge k i with h' | h'
  ·have hw' := wrap_succ (show k < 9223372036854775807 by omega)
   have hkE : k < E.length := by omega
   obtain ⟨p, hp⟩ : ∃ p, E[i] = p := ⟨_, rfl⟩
   obtain ⟨q, hq⟩ : ∃ q, E[k] = q := ⟨_, rfl⟩
   have hne : ¬ (p.module = q.module ∧ p.part = q.part) := fun hc => by
    rw [List.nodup_iff_pairwise_ne, List.pairwise_iff_getElem] at tw
    have := tw k i (by rw [List.length_map]; omega) (by rw [List.length_map]; omega) h'
    simp only [List.getElem_map, hp, hq] at this
    exact this (by unfold tgt; rw [hc.1, hc.2])
   by_cases hmod : p.module = q.module
   ·have hpt := part_ne (fun hc => hne ⟨hmod, hc⟩)
    have dm : decide (p.module = q.module) = true := decide_eq_true hmod
    simp (maxSteps := 4000000) only [ZE,↓reduceIte,pE,pL,pA,pS,pM,pD, dec_lt h', lt_int h, lt_int hkE, getD_map h, getD_map hkE, hp, hq, eEdit, ePart, zN,qT,qG,qL,qH,qN,qB,qE,qO,qA,qM, List.length_map, dm, hpt, hw']
    trace_state
    exact ⟨by kernel_rfl, h'⟩
   ·have dm : decide (p.module = q.module) = false := decide_eq_false hmod
    simp (maxSteps := 4000000) only [ZE,↓reduceIte,pE,pL,pA,pS,pM,pD, dec_lt h', lt_int h, lt_int hkE, getD_map h, getD_map hkE, hp, hq, eEdit, ePart, zN,qT,qG,qL,qH,qN,qB,qE,qO,qA,qM, List.length_map, dm, hw']
    exact ⟨by kernel_rfl, h'⟩
  ·have : k = i := by omega
   subst this
   simp (maxSteps := 4000000) only [ZE,↓reduceIte,pE,pL,pA,pS,pM,pD, dec_ge h', zN,qT,qG,qL,qH,qN,qB,qE,qO,qA,qM, hw]
   exact h
 ·have : i = E.length := by omega
  subst this
  simp (maxSteps := 4000000) only [ZE,↓reduceIte,pE,pL,pA,pS,pM,pD, dec_ge h, zN,qT,qG,qL,qH,qN,qB,qE,qO,qA,qM, List.length_map]
  refine ⟨by kernel_rfl, ECall'.i na ?_⟩
  simp (maxSteps := 4000000) only [ZE,↓reduceIte,pE,pL,pA,pS,pM,pD, zN,qT,qG,qL,qH,qN,qB,qE,qO,qA,qM]
  refine ECall'.i nb ?_
  simp (maxSteps := 4000000) only [ZE,↓reduceIte,pE,pL,pA,pS,pM,pD, zN,qT,qG,qL,qH,qN,qB,qE,qO,qA,qM]
  refine ECall'.i sab ?_
  simp (maxSteps := 4000000) only [ZE,↓reduceIte,pE,pL,pA,pS,pM,pD, zN,qT,qG,qL,qH,qN,qB,qE,qO,qA,qM]
end Go.Proofs.YtnnhfhodbfgfdaaGreat

/-
 TreediffLeads: the edits from a file to another one, applied to the first one, give the normal form of the other one; no part is edited twice, and there are no edits exactly if the normal forms are equal.
 Conditions: none.
-/
namespace Go.Proofs.YtnnhfhodbfgfdaaGreat
open Go.Aw Go.ChangeShapes Go.WideShapes Go.ChangeAt Go.RowKit
set_option maxRecDepth 100000
theorem leads_lifted (os : Os) (started : os.Started) (H : Type) (enc : TypeId × Value → H) :
  ReturnsInHanded {} Tryz.checked os 4 .any (Rows.treediffLeadsSpec.pre6 enc Tryz.prog Tryz.f4 Rows.treediffLeadsRow.domain false) (Rows.treediffLeadsSpec.post enc Tryz.prog Tryz.f4 false true false false) := by
 refine returnsInHanded_of_change (C := Tryz.checked) own started (by kernel_rfl) Tryz.func4
  (ChangeSpec.witness6 (enc := enc) (C := Tryz.checked) false ⟨#[], #[.agg #[.int .u8 0, .int .u8 0, .slice none 0 0, .int .u8 0, .int .u8 0, .slice none 0 0, .slice none 0 0, .slice none 0 0]], []⟩ 8 (by kernel_rfl) (by kernel_rfl) (by kernel_rfl) (by kernel_rfl)) ?_
 intro W base args ds gs before hval hW _ _
 refine law_post (P := Tryz.prog) (n := 8) (ss := [shPair]) laidOut (of_decide_eq_true (by kernel_rfl)) (tb := 4) (by kernel_rfl) Tryz.underlying4 (by kernel_rfl) rfl hval hW (fun hl => ?_) (fun Ds hD _ => ?_)
 ·match ds, hl with
  | [_], _ => rfl
 ·obtain ⟨a, rfl, ha⟩ := fitsA_1 hD
  obtain ⟨x, y, l, m, rfl, hx, hy, hl, hm⟩ := pair_of ha
  exact leads_c x y hx hy l m hl hm
theorem leads_holds : Rows.TreediffLeadsSaid :=
 OpenClaim.holds_of_wide 4 Tryz.f4 rfl rfl rfl rfl rfl rfl rfl ⟨rfl, rfl, rfl, rfl, rfl⟩ rfl rfl rfl rfl rfl (by kernel_rfl) Tryz.func4 (by kernel_rfl)
  (of_decide_eq_true (by kernel_rfl)) (by unfold Func.isWrapper; first | (rw [if_pos (by decide +kernel)]; kernel_rfl) | (rw [if_neg (by decide +kernel)]; exact ⟨rfl, rfl⟩))
  (fun os started H enc _ => leads_lifted os started H enc)
end Go.Proofs.YtnnhfhodbfgfdaaGreat
