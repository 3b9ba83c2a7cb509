/-
  CheckRenaming: if a register or wire of a valid file is renamed, at its declaration and in all expressions of its module, to a name that the module does not use, the file stays valid; to a name that is declared already it does not.
  Conditions: none.
-/
import Derived.Test.YtejpmjnefokdoaaGL
import Derived.Test.YtejpmjnefokdoaaK4
import Derived.Test.YtejpmjnefokdoaaRows
import Derived.Test.YtejpmjnefokdoaaK5
set_option linter.unusedSimpArgs false
set_option linter.unusedVariables false
/-
  ARGUMENTS OF THE LAWS AS DATA.
-/
namespace Go.Proofs.Ytejpmjnefokdoaa
open Go.Aw Go.ChangeShapes Go.WideShapes Go.ChangeAt Go.RowKit
set_option maxRecDepth 100000
theorem own : ownKnob Try.prog.godebug = none := by kernel_rfl
theorem laidOut : laidOutB Try.prog = true := by kernel_rfl
def shRaw : ASh := .agg [.int .u8, .int .u8, .sl [.int .u8]]
def shK2 : ASh := .agg [.int .u8, .int .u8]
def shK4 : ASh := .agg [.int .u8, .int .u8, .int .u8, .int .u8]
def shB : ASh := .one (.sl [.int .u8])
theorem fitsL_3 {s t u : Sh} {ds : List D} (h : Sh.fitsL [s, t, u] ds) : ∃ a b c, ds = [a, b, c] ∧ s.fits a ∧ t.fits b ∧ u.fits c := by
  simp only [Sh.fitsL] at h
  obtain ⟨a, r, rfl, h1, b, r2, rfl, h2, c, r3, rfl, h3, rfl⟩ := h
  exact ⟨a, b, c, rfl, h1, h2, h3⟩
theorem bytes_of {d : D} (h : Sh.fits (.sl [.int .u8]) d) : ∃ l : List Nat, d = eBytes l ∧ ∀ b ∈ l, b < 256 := by
  obtain ⟨l, rfl, hl⟩ := fits_sl (enc := fun b : Nat => [eU8 b]) (p := fun b => b < 256) (fun e he => by
    obtain ⟨x, rfl, hx⟩ := fitsL_1 he
    obtain ⟨n, rfl, hn⟩ := fits_u8 hx
    exact ⟨n, rfl, hn⟩) h
  exact ⟨l, rfl, hl⟩
theorem raw_of {d : D} (h : shRaw.fits d) : ∃ x : Raw, d = eRaw x ∧ x.ok := by
  obtain ⟨ds, rfl, h⟩ := h
  obtain ⟨a, b, c, rfl, h1, h2, h3⟩ := fitsL_3 h
  obtain ⟨k, rfl, hk⟩ := fits_u8 h1
  obtain ⟨w, rfl, hw⟩ := fits_u8 h2
  obtain ⟨l, rfl, hl⟩ := bytes_of h3
  exact ⟨⟨k, w, l⟩, rfl, hk, hw, hl⟩
theorem k2_of {d : D} (h : shK2.fits d) : ∃ a b : Nat, d = .agg [eU8 a, eU8 b] ∧ a < 256 ∧ b < 256 := by
  obtain ⟨ds, rfl, h⟩ := h
  obtain ⟨a, b, rfl, h1, h2⟩ := fitsL_2 h
  obtain ⟨k, rfl, hk⟩ := fits_u8 h1
  obtain ⟨w, rfl, hw⟩ := fits_u8 h2
  exact ⟨k, w, rfl, hk, hw⟩
theorem k4_of {d : D} (h : shK4.fits d) : ∃ a b c e : Nat, d = .agg [eU8 a, eU8 b, eU8 c, eU8 e] ∧ a < 256 ∧ b < 256 ∧ c < 256 ∧ e < 256 := by
  obtain ⟨ds, rfl, h⟩ := h
  obtain ⟨a, b, c, e, rfl, h1, h2, h3, h4⟩ := fitsL_4 h
  obtain ⟨a, rfl, ha⟩ := fits_u8 h1
  obtain ⟨b, rfl, hb⟩ := fits_u8 h2
  obtain ⟨c, rfl, hc⟩ := fits_u8 h3
  obtain ⟨e, rfl, he⟩ := fits_u8 h4
  exact ⟨a, b, c, e, rfl, ha, hb, hc, he⟩
end Go.Proofs.Ytejpmjnefokdoaa

/-
  CONTRACTS: a name swapped, a register or wire renamed.
-/
namespace Go.Proofs.Ytejpmjnefokdoaa
open Go.Aw
open Nat renaming reduceEqDiff → pE, reduceLT → pL, reduceAdd → pA, reduceSub → pS, reduceMul → pM, reduceLeDiff → pD
open Int renaming reduceToNat → qT, reduceGT → qG, reduceLT → qL, reduceGE → qH, reduceBNe → qN, reduceBEq → qB, reduceLE → qE, reduceNe → qO, reduceAdd → qA, reduceNeg → qM
set_option maxRecDepth 100000
set_option maxHeartbeats 4000000
mutual
def swapE (o n : Str) : Expr → Expr
  | .mk p s k w a => .mk p (if ((p == 14 || p == 15) && decide (s = o)) = true then n else s) k w (swapL o n a)
def swapL (o n : Str) : List Expr → List Expr
  | [] => []
  | e :: r => swapE o n e :: swapL o n r
end
theorem swapL_map (o n : Str) : ∀ l : List Expr, swapL o n l = l.map (swapE o n)
  | [] => by simp [swapL]
  | e :: r => by simp [swapL, swapL_map o n r]
def swN (o n : Str) (e : Expr) : Str := if ((e.op == 14 || e.op == 15) && decide (e.name = o)) = true then n else e.name
theorem swapE_eq (o n : Str) (e : Expr) : swapE o n e = .mk e.op (swN o n e) e.k e.w (e.args.map (swapE o n)) := by
  cases e; rw [swapE, swapL_map]; rfl
theorem sz_args (e : Expr) : sz e = (e.args.map sz).sum + 1 := by cases e; rw [sz_mk]; rfl
theorem sz_pos (e : Expr) : 0 < sz e := by rw [sz_args]; omega
theorem sum_mem {l : List Expr} : ∀ {x : Expr}, x ∈ l → sz x ≤ (l.map sz).sum := by
  induction l with
  | nil => intro x h; simp at h
  | cons y r ih =>
    intro x h
    rw [List.map_cons, List.sum_cons]
    rcases List.mem_cons.1 h with rfl | h
    · omega
    · have := ih h; omega
theorem sum_len : ∀ l : List Expr, l.length ≤ (l.map sz).sum
  | [] => by simp
  | y :: r => by
    have := sum_len r
    have := sz_pos y
    rw [List.map_cons, List.sum_cons, List.length_cons]; omega
theorem rowsOk_exprs (l : List Expr) : rowsOk 7 (l.map eExpr) := by
  intro y hy
  obtain ⟨q, _, rfl⟩ := List.mem_map.1 hy
  simp [eExpr_eq, eI, eS, D.one, Value.oneCell']
theorem swap_c (o n : Str) (m : Nat) : ∀ e : Expr, sz e < m → m ≤ 1000000 → FnP Try.prog 40 [.agg (eExpr e), .agg [eS o, eS n]] (.d (.agg (eExpr (swapE o n e)))) [] := by
  induction m with
  | zero => intro e h; omega
  | succ m ih =>
    intro e hk hm
    obtain ⟨p, s, k, w, a⟩ := e
    rw [sz_mk] at hk
    have hal := sum_len a
    refine FnP.of_eC (own := []) (fun i => if i = 2001 then [.chn] else []) mixed Try.func40 rfl Try.call40 Try.ntmps40 (Nat.le_of_ble_eq_true rfl) Try.results40 (fun hok => ?_)
    rw [swapE_eq]
    by_cases h1 : ((p == 14 || p == 15) && decide (s = o)) = true
    · have hs : swN o n (.mk p s k w a) = n := by unfold swN; exact if_pos h1
      rw [hs]
      simp (maxSteps := 4000000) only [ZE, zA, zB, zC, zD, zF, zG, zH, zI, zJ, List.replicate, ↓reduceIte, pE, pL, pA, pS, pM, pD, Nat.zero_add, Int.natCast_one, qT, qG, qL, qH, qN, qB, qE, qO, qA, qM, op_mk, name_mk, k_mk, w_mk, args_mk, h1]

      refine eloop (fun i => if i = 2007 then [.ord ⟨[(0, none), (1, none), (2, none), (3, none), (4, none), (5, none), (6, none), (7, none), (8, none), (9, some []), (10, some [])]⟩] else []) mixed a.length (fun _ => True) (fun i => ([(2, .bp 2 0), (3, .bp 3 0), (4, .bp 4 0), (5, .ar 25 i), (6, .d (eI i))], [(2, .box ((eExpr (.mk p n k w a)).map .d)), (3, .box [.d (eS o), .d (eS n)]), (4, .box [.d (eI 0), .d (eS emp), .d (eI 0), .d (eS emp), .d (eI 0), .d (eS emp), .nils]), (25, .arr 50 7 .flat ((a.take i).map fun x => eExpr (swapE o n x)))])) trivial ?_ ?_ (fun i hi _ => ?_)
      · simp (maxSteps := 4000000) only [ZE, zA, zB, zC, zD, zF, zG, zH, zI, zJ, List.replicate, ↓reduceIte, pE, pL, pA, pS, pM, pD, op_mk, name_mk, k_mk, w_mk, args_mk, zExpr, zNum, emp]
      · simp (maxSteps := 4000000) only [ZE, zA, zB, zC, zD, zF, zG, zH, zI, zJ, List.replicate, ↓reduceIte, pE, pL, pA, pS, pM, pD, op_mk, name_mk, k_mk, w_mk, args_mk, zExpr, zNum, emp, List.take_zero]
      rcases Nat.lt_or_ge i a.length with h | h
      · have hw := wrap_succ (show i < 9223372036854775807 by omega)
        have hc := ih a[i] (by have := sum_mem (List.getElem_mem h); omega) (by omega)
        have ht : (a.take (i + 1)).map (fun x => eExpr (swapE o n x)) = (a.take i).map (fun x => eExpr (swapE o n x)) ++ [eExpr (swapE o n a[i])] := by rw [List.take_succ_eq_append_getElem h, List.map_append]; rfl
        rw [ht]
        obtain ⟨z, hz⟩ : ∃ z, swapE o n a[i] = z := ⟨_, rfl⟩
        rw [hz] at hc ⊢
        have hL : ((a.take i).map fun x => eExpr (swapE o n x)).length = i := by rw [List.length_map, List.length_take]; omega
        obtain ⟨R, hR⟩ : ∃ R, (a.take i).map (fun x => eExpr (swapE o n x)) = R := ⟨_, rfl⟩
        rw [hR] at hL ⊢
        simp only [ZE, zA, zB, zC, zD, zF, zG, zH, zI, zJ, List.replicate, ↓reduceIte, pE, pL, pA, pS, pM, pD] at hc
        simp (maxSteps := 4000000) only [ZE, zA, zB, zC, zD, zF, zG, zH, zI, zJ, List.replicate, ↓reduceIte, pE, pL, pA, pS, pM, pD, dec_lt h, getD_map h, lt_int h, hw, Nat.zero_add, Int.natCast_one, qT, qG, qL, qH, qN, qB, qE, qO, qA, qM, op_mk, name_mk, k_mk, w_mk, args_mk, zExpr, zNum, emp, hL]
        refine ⟨by kernel_rfl, ECall'.i hc ?_⟩
        simp (maxSteps := 4000000) only [ZE, zA, zB, zC, zD, zF, zG, zH, zI, zJ, List.replicate, ↓reduceIte, pE, pL, pA, pS, pM, pD, Nat.zero_add, Int.natCast_one, qT, qG, qL, qH, qN, qB, qE, qO, qA, qM, hL, hw, op_mk, name_mk, k_mk, w_mk, args_mk, zExpr, zNum, emp]
        exact ⟨⟨by omega, by omega⟩, h⟩
      · have : i = a.length := by omega
        subst this
        simp (maxSteps := 4000000) only [ZE, zA, zB, zC, zD, zF, zG, zH, zI, zJ, List.replicate, ↓reduceIte, pE, pL, pA, pS, pM, pD, dec_ge h, Nat.zero_add, Int.natCast_one, qT, qG, qL, qH, qN, qB, qE, qO, qA, qM, op_mk, name_mk, k_mk, w_mk, args_mk, zExpr, zNum, emp, List.take_length]
        simp only [List.map_map, Function.comp_def, eExpr_eq, eI, eS]
    · have hs : swN o n (.mk p s k w a) = s := by unfold swN; exact if_neg h1
      rw [hs]
      have h1' := Bool.eq_false_iff.2 h1
      simp (maxSteps := 4000000) only [ZE, zA, zB, zC, zD, zF, zG, zH, zI, zJ, List.replicate, ↓reduceIte, pE, pL, pA, pS, pM, pD, Nat.zero_add, Int.natCast_one, qT, qG, qL, qH, qN, qB, qE, qO, qA, qM, op_mk, name_mk, k_mk, w_mk, args_mk, h1']
      refine eloop (fun i => if i = 2007 then [.ord ⟨[(0, none), (1, none), (2, none), (3, none), (4, none), (5, none), (6, none), (7, none), (8, none), (9, some []), (10, some [])]⟩] else []) mixed a.length (fun _ => True) (fun i => ([(2, .bp 2 0), (3, .bp 3 0), (4, .bp 4 0), (5, .ar 25 i), (6, .d (eI i))], [(2, .box ((eExpr (.mk p s k w a)).map .d)), (3, .box [.d (eS o), .d (eS n)]), (4, .box [.d (eI 0), .d (eS emp), .d (eI 0), .d (eS emp), .d (eI 0), .d (eS emp), .nils]), (25, .arr 50 7 .flat ((a.take i).map fun x => eExpr (swapE o n x)))])) trivial ?_ ?_ (fun i hi _ => ?_)
      · simp (maxSteps := 4000000) only [ZE, zA, zB, zC, zD, zF, zG, zH, zI, zJ, List.replicate, ↓reduceIte, pE, pL, pA, pS, pM, pD, op_mk, name_mk, k_mk, w_mk, args_mk, zExpr, zNum, emp]
      · simp (maxSteps := 4000000) only [ZE, zA, zB, zC, zD, zF, zG, zH, zI, zJ, List.replicate, ↓reduceIte, pE, pL, pA, pS, pM, pD, op_mk, name_mk, k_mk, w_mk, args_mk, zExpr, zNum, emp, List.take_zero]
      rcases Nat.lt_or_ge i a.length with h | h
      · have hw := wrap_succ (show i < 9223372036854775807 by omega)
        have hc := ih a[i] (by have := sum_mem (List.getElem_mem h); omega) (by omega)
        have ht : (a.take (i + 1)).map (fun x => eExpr (swapE o n x)) = (a.take i).map (fun x => eExpr (swapE o n x)) ++ [eExpr (swapE o n a[i])] := by rw [List.take_succ_eq_append_getElem h, List.map_append]; rfl
        rw [ht]
        obtain ⟨z, hz⟩ : ∃ z, swapE o n a[i] = z := ⟨_, rfl⟩
        rw [hz] at hc ⊢
        have hL : ((a.take i).map fun x => eExpr (swapE o n x)).length = i := by rw [List.length_map, List.length_take]; omega
        obtain ⟨R, hR⟩ : ∃ R, (a.take i).map (fun x => eExpr (swapE o n x)) = R := ⟨_, rfl⟩
        rw [hR] at hL ⊢
        simp only [ZE, zA, zB, zC, zD, zF, zG, zH, zI, zJ, List.replicate, ↓reduceIte, pE, pL, pA, pS, pM, pD] at hc
        simp (maxSteps := 4000000) only [ZE, zA, zB, zC, zD, zF, zG, zH, zI, zJ, List.replicate, ↓reduceIte, pE, pL, pA, pS, pM, pD, dec_lt h, getD_map h, lt_int h, hw, Nat.zero_add, Int.natCast_one, qT, qG, qL, qH, qN, qB, qE, qO, qA, qM, op_mk, name_mk, k_mk, w_mk, args_mk, zExpr, zNum, emp, hL]
        refine ⟨by kernel_rfl, ECall'.i hc ?_⟩
        simp (maxSteps := 4000000) only [ZE, zA, zB, zC, zD, zF, zG, zH, zI, zJ, List.replicate, ↓reduceIte, pE, pL, pA, pS, pM, pD, Nat.zero_add, Int.natCast_one, qT, qG, qL, qH, qN, qB, qE, qO, qA, qM, hL, hw, op_mk, name_mk, k_mk, w_mk, args_mk, zExpr, zNum, emp]
        exact ⟨⟨by omega, by omega⟩, h⟩
      · have : i = a.length := by omega
        subst this
        simp (maxSteps := 4000000) only [ZE, zA, zB, zC, zD, zF, zG, zH, zI, zJ, List.replicate, ↓reduceIte, pE, pL, pA, pS, pM, pD, dec_ge h, Nat.zero_add, Int.natCast_one, qT, qG, qL, qH, qN, qB, qE, qO, qA, qM, op_mk, name_mk, k_mk, w_mk, args_mk, zExpr, zNum, emp, List.take_length]
        simp only [List.map_map, Function.comp_def, eExpr_eq, eI, eS]
end Go.Proofs.Ytejpmjnefokdoaa

/-
  PLAIN LAW: a register or wire renamed in a generated file.
-/
namespace Go.Proofs.Ytejpmjnefokdoaa
open Go.Aw
set_option maxRecDepth 100000
def ren1 (o n : Str) (x : Item) : Item := { x with name := if ((x.kind.1 == 4 || x.kind.1 == 5) && decide (x.name = o)) = true then n else x.name, a := swapE o n x.a, b := swapE o n x.b, c := swapE o n x.c }
def renM (o n : Str) (m : Module) : Module := { m with items := m.items.map (ren1 o n) }
def sF9 : Str := st [102, 114, 101, 115, 104, 57]
def sw (o n : Str) (s : Str) : Str := if s = o then n else s
theorem allL_one (e : Expr) : Expr.allL [e] = e.all := by simp [Expr.allL]
mutual
theorem all_swap (o n : Str) : ∀ e : Expr, (swapE o n e).all = e.all.map (swapE o n)
  | .mk p s k w a => by
    have h := allL_swap o n a
    rw [Expr.all, List.map_cons, ← h]
    conv => lhs; rw [swapE]
    rw [Expr.all, ← swapE]
theorem allL_swap (o n : Str) : ∀ l : List Expr, Expr.allL (swapL o n l) = (Expr.allL l).map (swapE o n)
  | [] => by simp [swapL, Expr.allL]
  | e :: r => by rw [swapL, Expr.allL, Expr.allL, List.map_append, all_swap o n e, allL_swap o n r]
end
theorem sz_swap (o n : Str) (e : Expr) : sz (swapE o n e) = sz e := by unfold sz; rw [all_swap, List.length_map]
theorem has_map {a : List Str} (o n : Str) {s : Str} (h : has a s = true) : has (a.map (sw o n)) (sw o n s) = true := by
  rw [has_iff] at *
  exact List.mem_map.2 ⟨s, h, rfl⟩
theorem swN_sw {o n : Str} {e : Expr} (h : e.op = 14 ∨ e.op = 15) : swN o n e = sw o n e.name := by
  unfold swN sw
  have : (e.op == 14 || e.op == 15) = true := by rcases h with h | h <;> rw [h] <;> rfl
  rw [this, Bool.true_and]
  by_cases e1 : e.name = o
  · rw [if_pos (by simpa using e1), if_pos e1]
  · rw [if_neg (by simpa using e1), if_neg e1]
theorem okQ_swap {a b ps : List Str} (o n : Str) {q : Expr} (h : okQ a b ps q = true) : okQ (a.map (sw o n)) (b.map (sw o n)) ps (swapE o n q) = true := by
  unfold okQ at *
  simp only [Bool.and_eq_true, Bool.or_eq_true, bne_iff_ne, ne_eq] at h
  obtain ⟨⟨⟨h1, h2⟩, h3⟩, h4⟩ := h
  have e1 : (swapE o n q).op = q.op := by rw [swapE_eq]; rfl
  have e2 : (swapE o n q).args.length = q.args.length := by rw [swapE_eq]; simp [Expr.args]
  have e3 : (swapE o n q).name = swN o n q := by rw [swapE_eq]; rfl
  have e4 : numsE (swapE o n q) = numsE q := by unfold numsE; rw [swapE_eq]; rfl
  rw [e1, e2, e3, e4]
  simp only [Bool.and_eq_true, Bool.or_eq_true, bne_iff_ne, ne_eq]
  refine ⟨⟨⟨h1, ?_⟩, ?_⟩, h4⟩
  · by_cases ho : q.op = 14
    · right
      rw [swN_sw (.inl ho)]
      exact has_map o n (by rcases h2 with h2 | h2; exact absurd ho h2; exact h2)
    · exact .inl ho
  · by_cases ho : q.op = 15
    · right
      rw [swN_sw (.inr ho)]
      exact has_map o n (by rcases h3 with h3 | h3; exact absurd ho h3; exact h3)
    · exact .inl ho
theorem okE_swap {a b ps : List Str} (o n : Str) {e : Expr} (h : okE a b ps e = true) : okE (a.map (sw o n)) (b.map (sw o n)) ps (swapE o n e) = true := by
  unfold okE at *
  rw [all_swap, List.all_eq_true]
  rw [List.all_eq_true] at h
  intro q hq
  obtain ⟨p, hp, rfl⟩ := List.mem_map.1 hq
  exact okQ_swap o n (h p hp)
theorem one_reg {a b ps : List Str} {x : Item} (hk : x.kind.1 = 4) (h : okE a b ps x.a = true) : (uses x).all (okE a b ps) = true := by
  rw [uses_reg hk, List.all_cons, List.all_nil, Bool.and_true]; exact h
theorem one_wire {a b ps : List Str} {x : Item} (hk : x.kind.1 = 5) (h : okE a b ps x.a = true) : (uses x).all (okE a b ps) = true := by
  rw [uses_wire hk, List.all_cons, List.all_nil, Bool.and_true]; exact h
theorem one_take {a b ps : List Str} {x : Item} (hk : x.kind.1 = 7) (h : okE a b ps x.a = true) : (uses x).all (okE a b ps) = true := by
  rw [uses_take hk, List.all_cons, List.all_nil, Bool.and_true]; exact h
theorem two_put {a b ps : List Str} {x : Item} (hk : x.kind.1 = 8) (h : okE a b ps x.a = true) (h' : okE a b ps x.b = true) : (uses x).all (okE a b ps) = true := by
  rw [uses_put hk, List.all_cons, List.all_cons, List.all_nil, Bool.and_true, h, h']; rfl
theorem three_mem {a b ps : List Str} {x : Item} (hk : x.kind.1 = 6) (h : okE a b ps x.a = true) (h' : okE a b ps x.b = true) (h'' : okE a b ps x.c = true) : (uses x).all (okE a b ps) = true := by
  rw [uses_mem hk, List.all_cons, List.all_cons, List.all_cons, List.all_nil, Bool.and_true, h, h', h'']; rfl
theorem depth_ok (x : Raw) (m : Module) (hm : m.params = []) : ([rawW x, depthN x.l] : List Num).all (okN m.params) = true := by
  rw [hm]
  show (okN [] (rawW x) && (okN [] (depthN x.l) && true)) = true
  rw [rawW_ok, show okN [] (depthN x.l) = true from okN_nat _ _]; rfl
theorem early_regs {m : Module} {x : Item} {a b ps : List Str} (h : okE a b ps x.a = true) (hs : (a.all fun n => !has [5] (kindOf m n) && !wordN m n) = true) : early m x = false := by
  refine early_ok h fun n hn => .inl ?_
  rw [List.all_eq_true] at hs
  have := hs n hn
  simpa using this
theorem gk (x : Raw) (ns b : List Str) (d a : Nat) (hn : 0 < ns.length := by simp) : okE ns b [] (gen x.l ns (rawW x) d a) = true := gok x.l ns b [] _ (rawW_ok x) hn d a
theorem ck (x : Raw) (ns b : List Str) (d a : Nat) (hn : 0 < ns.length := by simp) : okE ns b [] (cond x.l ns (rawW x) d a) = true := cok x.l ns b [] _ (rawW_ok x) hn d a
def regs : List Str := [sR, sS, sT]
theorem regs_of {o : Str} (h : has regs o = true) : o = sR ∨ o = sS ∨ o = sT := by
  have := has_mem h
  simpa [regs] using this
theorem rtop0_items (mem : Bool) (x : Raw) (o : Str) (ho : has regs o = true) : ((renM o sF9 (top0 mem x)).items.zipIdx.any fun q => itemBad [renM o sF9 (top0 mem x)] (renM o sF9 (top0 mem x)) q.2 q.1) = false := by
  have h2 := okE_swap o sF9 (gk x [sR, sS, sT, sA] [] 1 2)
  have h4 := okE_swap o sF9 (gk x [sS, sR, sA] [] 1 4)
  have h6 := okE_swap o sF9 (gk x [sR, sS] [] 1 6)
  have h8 := okE_swap o sF9 (gk x [sR, sS, sT, sA] [] 1 8)
  have h12 := okE_swap o sF9 (ck x [sR, sS, sT, sA] [] 1 12)
  have h14 := okE_swap o sF9 (gk x [sR, sS, sT, sA] [] 0 14)
  have h16 := okE_swap o sF9 (gk x [sR, sS, sT, sA] [] 1 16)
  have h18 := okE_swap o sF9 (ck x [sR, sS] [] 1 18)
  have h20 := okE_swap o sF9 (ck x [sR, sS, sT, sA] [] 1 20)
  have h20m := okE_swap o sF9 (ck x [sR, sS, sT, sA] [sM] 1 20)
  have hd := okE_swap o sF9 (data_ok x.l (rawW x) sA (rawW_ok x))
  have h22 := okE_swap o sF9 (ck x [sR, sS] [] 1 22)
  have h24 := okE_swap o sF9 (gk x [sR, sS] [] 1 24)
  cases mem
  · rcases regs_of ho with rfl | rfl | rfl <;>
    exact zip_cons (item_fit [] [] (by kernel_rfl) (by kernel_rfl) (.inl (by kernel_rfl)) (by kernel_rfl) (by kernel_rfl) (by kernel_rfl) (by kernel_rfl) (by kernel_rfl)) <| zip_cons (item_fit [] [] (by kernel_rfl) (by kernel_rfl) (.inl (by kernel_rfl)) (by kernel_rfl) (by kernel_rfl) (by kernel_rfl) (by kernel_rfl) (by kernel_rfl)) <| zip_cons (item_fit _ _ (by kernel_rfl) (by kernel_rfl) (.inr (ruleOf_ok _).1) (one_reg rfl h2) (by kernel_rfl) (by kernel_rfl) (ruleOf_ok (byteL x.l 3)).2 (by kernel_rfl)) <| zip_cons (item_fit _ _ (by kernel_rfl) (by kernel_rfl) (.inr (ruleOf_ok _).1) (one_reg rfl h4) (by kernel_rfl) (by kernel_rfl) (ruleOf_ok (byteL x.l 5)).2 (by kernel_rfl)) <| zip_cons (item_fit _ _ (by kernel_rfl) (by kernel_rfl) (.inl (by kernel_rfl)) (one_wire rfl h6) (by kernel_rfl) (by kernel_rfl) (by kernel_rfl) (wire_ok h6 (by kernel_rfl) (by kernel_rfl))) <| zip_cons (item_fit _ _ (by kernel_rfl) (by kernel_rfl) (.inl (by kernel_rfl)) (one_take rfl h18) (by kernel_rfl) (by kernel_rfl) (by kernel_rfl) (early_regs h18 (by kernel_rfl))) <| zip_cons (item_fit _ _ (by kernel_rfl) (by kernel_rfl) (.inl (by kernel_rfl)) (two_put rfl h20 h8) (by kernel_rfl) (by kernel_rfl) (by kernel_rfl) (by kernel_rfl)) <| zip_nil
  · rcases regs_of ho with rfl | rfl | rfl <;>
    exact zip_cons (item_fit [] [] (by kernel_rfl) (by kernel_rfl) (.inl (by kernel_rfl)) (by kernel_rfl) (by kernel_rfl) (by kernel_rfl) (by kernel_rfl) (by kernel_rfl)) <| zip_cons (item_fit [] [] (by kernel_rfl) (by kernel_rfl) (.inl (by kernel_rfl)) (by kernel_rfl) (by kernel_rfl) (by kernel_rfl) (by kernel_rfl) (by kernel_rfl)) <| zip_cons (item_fit _ _ (by kernel_rfl) (by kernel_rfl) (.inr (ruleOf_ok _).1) (one_reg rfl h2) (by kernel_rfl) (by kernel_rfl) (ruleOf_ok (byteL x.l 3)).2 (by kernel_rfl)) <| zip_cons (item_fit _ _ (by kernel_rfl) (by kernel_rfl) (.inr (ruleOf_ok _).1) (one_reg rfl h4) (by kernel_rfl) (by kernel_rfl) (ruleOf_ok (byteL x.l 5)).2 (by kernel_rfl)) <| zip_cons (item_fit _ _ (by kernel_rfl) (by kernel_rfl) (.inl (by kernel_rfl)) (one_wire rfl h6) (by kernel_rfl) (by kernel_rfl) (by kernel_rfl) (wire_ok h6 (by kernel_rfl) (by kernel_rfl))) <| zip_cons (item_fit _ _ (by kernel_rfl) (by kernel_rfl) (.inr (ruleOf_ok _).1) (three_mem rfl h12 h14 h16) (by kernel_rfl) (depth_ok x _ rfl) (ruleOf_ok (byteL x.l 3)).2 (by kernel_rfl)) <| zip_cons (item_fit _ _ (by kernel_rfl) (by kernel_rfl) (.inl (by kernel_rfl)) (one_take rfl h18) (by kernel_rfl) (by kernel_rfl) (by kernel_rfl) (early_regs h18 (by kernel_rfl))) <| zip_cons (item_fit _ _ (by kernel_rfl) (by kernel_rfl) (.inl (by kernel_rfl)) (two_put rfl h20m hd) (by kernel_rfl) (by kernel_rfl) (by kernel_rfl) (by kernel_rfl)) <| zip_nil
theorem rtop2_items (q mem : Bool) (x : Raw) (o : Str) (ho : has regs o = true) : ((renM o sF9 (top2 mem x)).items.zipIdx.any fun p => itemBad (two q (renM o sF9 (top2 mem x)) (cellM x.l)) (renM o sF9 (top2 mem x)) p.2 p.1) = false := by
  have h2 := okE_swap o sF9 (gk x [sR, sS, sT, sC] [] 1 2)
  have h4 := okE_swap o sF9 (gk x [sS, sR, sC] [] 1 4)
  have h6 := okE_swap o sF9 (gk x [sR, sS] [] 1 6)
  have h8 := okE_swap o sF9 (gk x [sR, sS, sT, sC] [] 1 8)
  have h12 := okE_swap o sF9 (ck x [sR, sS, sT, sC] [] 1 12)
  have h14 := okE_swap o sF9 (gk x [sR, sS, sT, sC] [] 0 14)
  have h16 := okE_swap o sF9 (gk x [sR, sS, sT, sC] [] 1 16)
  have h18 := okE_swap o sF9 (ck x [sR, sS] [] 1 18)
  have h20 := okE_swap o sF9 (ck x [sR, sS, sT, sC] [] 1 20)
  have h20m := okE_swap o sF9 (ck x [sR, sS, sT, sC] [sM] 1 20)
  have hd := okE_swap o sF9 (data_ok x.l (rawW x) sC (rawW_ok x))
  have h22 := okE_swap o sF9 (ck x [sR, sS] [] 1 22)
  have h24 := okE_swap o sF9 (gk x [sR, sS] [] 1 24)
  cases mem
  · rcases regs_of ho with rfl | rfl | rfl <;> cases q <;>
    exact zip_cons (item_fit [] [] (by kernel_rfl) (by kernel_rfl) (.inl (by kernel_rfl)) (by kernel_rfl) (by kernel_rfl) (by kernel_rfl) (by kernel_rfl) (by kernel_rfl)) <| zip_cons (item_fit [] [] (by kernel_rfl) (by kernel_rfl) (.inl (by kernel_rfl)) (by kernel_rfl) (by kernel_rfl) (by kernel_rfl) (by kernel_rfl) (by kernel_rfl)) <| zip_cons (item_fit [] [] (by kernel_rfl) (by kernel_rfl) (.inl (by kernel_rfl)) (by kernel_rfl) (by kernel_rfl) (by kernel_rfl) (by kernel_rfl) (by kernel_rfl)) <| zip_cons (item_fit [] [] (by kernel_rfl) (by kernel_rfl) (.inl (by kernel_rfl)) (by kernel_rfl) (by kernel_rfl) (by kernel_rfl) (by kernel_rfl) (by kernel_rfl)) <| zip_cons (item_fit _ _ (by kernel_rfl) (by kernel_rfl) (.inr (ruleOf_ok _).1) (one_reg rfl h2) (by kernel_rfl) (by kernel_rfl) (ruleOf_ok (byteL x.l 3)).2 (by kernel_rfl)) <| zip_cons (item_fit _ _ (by kernel_rfl) (by kernel_rfl) (.inr (ruleOf_ok _).1) (one_reg rfl h4) (by kernel_rfl) (by kernel_rfl) (ruleOf_ok (byteL x.l 5)).2 (by kernel_rfl)) <| zip_cons (item_fit _ _ (by kernel_rfl) (by kernel_rfl) (.inl (by kernel_rfl)) (one_wire rfl h6) (by kernel_rfl) (by kernel_rfl) (by kernel_rfl) (wire_ok h6 (by kernel_rfl) (by kernel_rfl))) <| zip_cons (item_fit _ _ (by kernel_rfl) (by kernel_rfl) (.inl (by kernel_rfl)) (one_take rfl h18) (by kernel_rfl) (by kernel_rfl) (by kernel_rfl) (early_regs h18 (by kernel_rfl))) <| zip_cons (item_fit _ _ (by kernel_rfl) (by kernel_rfl) (.inl (by kernel_rfl)) (two_put rfl h20 h8) (by kernel_rfl) (by kernel_rfl) (by kernel_rfl) (by kernel_rfl)) <| zip_nil
  · rcases regs_of ho with rfl | rfl | rfl <;> cases q <;>
    exact zip_cons (item_fit [] [] (by kernel_rfl) (by kernel_rfl) (.inl (by kernel_rfl)) (by kernel_rfl) (by kernel_rfl) (by kernel_rfl) (by kernel_rfl) (by kernel_rfl)) <| zip_cons (item_fit [] [] (by kernel_rfl) (by kernel_rfl) (.inl (by kernel_rfl)) (by kernel_rfl) (by kernel_rfl) (by kernel_rfl) (by kernel_rfl) (by kernel_rfl)) <| zip_cons (item_fit [] [] (by kernel_rfl) (by kernel_rfl) (.inl (by kernel_rfl)) (by kernel_rfl) (by kernel_rfl) (by kernel_rfl) (by kernel_rfl) (by kernel_rfl)) <| zip_cons (item_fit [] [] (by kernel_rfl) (by kernel_rfl) (.inl (by kernel_rfl)) (by kernel_rfl) (by kernel_rfl) (by kernel_rfl) (by kernel_rfl) (by kernel_rfl)) <| zip_cons (item_fit _ _ (by kernel_rfl) (by kernel_rfl) (.inr (ruleOf_ok _).1) (one_reg rfl h2) (by kernel_rfl) (by kernel_rfl) (ruleOf_ok (byteL x.l 3)).2 (by kernel_rfl)) <| zip_cons (item_fit _ _ (by kernel_rfl) (by kernel_rfl) (.inr (ruleOf_ok _).1) (one_reg rfl h4) (by kernel_rfl) (by kernel_rfl) (ruleOf_ok (byteL x.l 5)).2 (by kernel_rfl)) <| zip_cons (item_fit _ _ (by kernel_rfl) (by kernel_rfl) (.inl (by kernel_rfl)) (one_wire rfl h6) (by kernel_rfl) (by kernel_rfl) (by kernel_rfl) (wire_ok h6 (by kernel_rfl) (by kernel_rfl))) <| zip_cons (item_fit _ _ (by kernel_rfl) (by kernel_rfl) (.inr (ruleOf_ok _).1) (three_mem rfl h12 h14 h16) (by kernel_rfl) (depth_ok x _ rfl) (ruleOf_ok (byteL x.l 3)).2 (by kernel_rfl)) <| zip_cons (item_fit _ _ (by kernel_rfl) (by kernel_rfl) (.inl (by kernel_rfl)) (one_take rfl h18) (by kernel_rfl) (by kernel_rfl) (by kernel_rfl) (early_regs h18 (by kernel_rfl))) <| zip_cons (item_fit _ _ (by kernel_rfl) (by kernel_rfl) (.inl (by kernel_rfl)) (two_put rfl h20m hd) (by kernel_rfl) (by kernel_rfl) (by kernel_rfl) (by kernel_rfl)) <| zip_nil
theorem rtop3_items (q mem : Bool) (x : Raw) (o : Str) (ho : has regs o = true) : ((renM o sF9 (top3 mem x)).items.zipIdx.any fun p => itemBad (two q (renM o sF9 (top3 mem x)) (cellM x.l)) (renM o sF9 (top3 mem x)) p.2 p.1) = false := by
  have h2 := okE_swap o sF9 (gk x [sR, sS, sT, sD] [] 1 2)
  have h4 := okE_swap o sF9 (gk x [sS, sR, sD] [] 1 4)
  have h6 := okE_swap o sF9 (gk x [sR, sS] [] 1 6)
  have h8 := okE_swap o sF9 (gk x [sR, sS, sT, sD] [] 1 8)
  have h12 := okE_swap o sF9 (ck x [sR, sS, sT, sD] [] 1 12)
  have h14 := okE_swap o sF9 (gk x [sR, sS, sT, sD] [] 0 14)
  have h16 := okE_swap o sF9 (gk x [sR, sS, sT, sD] [] 1 16)
  have h18 := okE_swap o sF9 (ck x [sR, sS] [] 1 18)
  have h20 := okE_swap o sF9 (ck x [sR, sS, sT, sD] [] 1 20)
  have h20m := okE_swap o sF9 (ck x [sR, sS, sT, sD] [sM] 1 20)
  have hd := okE_swap o sF9 (data_ok x.l (rawW x) sD (rawW_ok x))
  have h22 := okE_swap o sF9 (ck x [sR, sS] [] 1 22)
  have h24 := okE_swap o sF9 (gk x [sR, sS] [] 1 24)
  cases mem
  · rcases regs_of ho with rfl | rfl | rfl <;> cases q <;>
    exact zip_cons (item_fit [] [] (by kernel_rfl) (by kernel_rfl) (.inl (by kernel_rfl)) (by kernel_rfl) (by kernel_rfl) (by kernel_rfl) (by kernel_rfl) (by kernel_rfl)) <| zip_cons (item_fit [] [] (by kernel_rfl) (by kernel_rfl) (.inl (by kernel_rfl)) (by kernel_rfl) (by kernel_rfl) (by kernel_rfl) (by kernel_rfl) (by kernel_rfl)) <| zip_cons (item_fit [] [] (by kernel_rfl) (by kernel_rfl) (.inl (by kernel_rfl)) (by kernel_rfl) (by kernel_rfl) (by kernel_rfl) (by kernel_rfl) (by kernel_rfl)) <| zip_cons (item_fit [] [] (by kernel_rfl) (by kernel_rfl) (.inl (by kernel_rfl)) (by kernel_rfl) (by kernel_rfl) (by kernel_rfl) (by kernel_rfl) (by kernel_rfl)) <| zip_cons (item_fit _ _ (by kernel_rfl) (by kernel_rfl) (.inr (ruleOf_ok _).1) (one_reg rfl h2) (by kernel_rfl) (by kernel_rfl) (ruleOf_ok (byteL x.l 3)).2 (by kernel_rfl)) <| zip_cons (item_fit _ _ (by kernel_rfl) (by kernel_rfl) (.inr (ruleOf_ok _).1) (one_reg rfl h4) (by kernel_rfl) (by kernel_rfl) (ruleOf_ok (byteL x.l 5)).2 (by kernel_rfl)) <| zip_cons (item_fit _ _ (by kernel_rfl) (by kernel_rfl) (.inl (by kernel_rfl)) (one_wire rfl h6) (by kernel_rfl) (by kernel_rfl) (by kernel_rfl) (wire_ok h6 (by kernel_rfl) (by kernel_rfl))) <| zip_cons (item_fit _ _ (by kernel_rfl) (by kernel_rfl) (.inl (by kernel_rfl)) (one_take rfl h18) (by kernel_rfl) (by kernel_rfl) (by kernel_rfl) (early_regs h18 (by kernel_rfl))) <| zip_cons (item_fit _ _ (by kernel_rfl) (by kernel_rfl) (.inl (by kernel_rfl)) (two_put rfl h20 h8) (by kernel_rfl) (by kernel_rfl) (by kernel_rfl) (by kernel_rfl)) <| zip_cons (item_fit _ _ (by kernel_rfl) (by kernel_rfl) (.inl (by kernel_rfl)) (two_put rfl h22 h24) (by kernel_rfl) (by kernel_rfl) (by kernel_rfl) (by kernel_rfl)) <| zip_nil
  · rcases regs_of ho with rfl | rfl | rfl <;> cases q <;>
    exact zip_cons (item_fit [] [] (by kernel_rfl) (by kernel_rfl) (.inl (by kernel_rfl)) (by kernel_rfl) (by kernel_rfl) (by kernel_rfl) (by kernel_rfl) (by kernel_rfl)) <| zip_cons (item_fit [] [] (by kernel_rfl) (by kernel_rfl) (.inl (by kernel_rfl)) (by kernel_rfl) (by kernel_rfl) (by kernel_rfl) (by kernel_rfl) (by kernel_rfl)) <| zip_cons (item_fit [] [] (by kernel_rfl) (by kernel_rfl) (.inl (by kernel_rfl)) (by kernel_rfl) (by kernel_rfl) (by kernel_rfl) (by kernel_rfl) (by kernel_rfl)) <| zip_cons (item_fit [] [] (by kernel_rfl) (by kernel_rfl) (.inl (by kernel_rfl)) (by kernel_rfl) (by kernel_rfl) (by kernel_rfl) (by kernel_rfl) (by kernel_rfl)) <| zip_cons (item_fit _ _ (by kernel_rfl) (by kernel_rfl) (.inr (ruleOf_ok _).1) (one_reg rfl h2) (by kernel_rfl) (by kernel_rfl) (ruleOf_ok (byteL x.l 3)).2 (by kernel_rfl)) <| zip_cons (item_fit _ _ (by kernel_rfl) (by kernel_rfl) (.inr (ruleOf_ok _).1) (one_reg rfl h4) (by kernel_rfl) (by kernel_rfl) (ruleOf_ok (byteL x.l 5)).2 (by kernel_rfl)) <| zip_cons (item_fit _ _ (by kernel_rfl) (by kernel_rfl) (.inl (by kernel_rfl)) (one_wire rfl h6) (by kernel_rfl) (by kernel_rfl) (by kernel_rfl) (wire_ok h6 (by kernel_rfl) (by kernel_rfl))) <| zip_cons (item_fit _ _ (by kernel_rfl) (by kernel_rfl) (.inr (ruleOf_ok _).1) (three_mem rfl h12 h14 h16) (by kernel_rfl) (depth_ok x _ rfl) (ruleOf_ok (byteL x.l 3)).2 (by kernel_rfl)) <| zip_cons (item_fit _ _ (by kernel_rfl) (by kernel_rfl) (.inl (by kernel_rfl)) (one_take rfl h18) (by kernel_rfl) (by kernel_rfl) (by kernel_rfl) (early_regs h18 (by kernel_rfl))) <| zip_cons (item_fit _ _ (by kernel_rfl) (by kernel_rfl) (.inl (by kernel_rfl)) (two_put rfl h20m hd) (by kernel_rfl) (by kernel_rfl) (by kernel_rfl) (by kernel_rfl)) <| zip_cons (item_fit _ _ (by kernel_rfl) (by kernel_rfl) (.inl (by kernel_rfl)) (two_put rfl h22 h24) (by kernel_rfl) (by kernel_rfl) (by kernel_rfl) (by kernel_rfl)) <| zip_nil
theorem rcell_items (l : List Module) (b : List Nat) (o : Str) (ho : has [sR, sT] o = true) : ((renM o sF9 (cellM b)).items.zipIdx.any fun q => itemBad l (renM o sF9 (cellM b)) q.2 q.1) = false := by
  have h7 := okE_swap o sF9 (gok b [sR, sX] [] [sW] wN wN_ok (by simp) 1 7)
  have h9 := okE_swap o sF9 (gok b [sR] [] [sW] wN wN_ok (by simp) 1 9)
  have h11 := okE_swap o sF9 (cok b [sR, sT] [] [sW] wN wN_ok (by simp) 1 11)
  have h13 := okE_swap o sF9 (cok b [sR, sX, sT] [] [sW] wN wN_ok (by simp) 1 13)
  have h15 := okE_swap o sF9 (gok b [sR, sX, sT] [] [sW] wN wN_ok (by simp) 1 15)
  have ho' : o = sR ∨ o = sT := by have := has_mem ho; simpa using this
  rcases ho' with rfl | rfl <;>
  exact zip_cons (item_fit [] [] (by kernel_rfl) (by kernel_rfl) (.inl (by kernel_rfl)) (by kernel_rfl) (by kernel_rfl) (by kernel_rfl) (by kernel_rfl) (by kernel_rfl)) <| zip_cons (item_fit [] [] (by kernel_rfl) (by kernel_rfl) (.inl (by kernel_rfl)) (by kernel_rfl) (by kernel_rfl) (by kernel_rfl) (by kernel_rfl) (by kernel_rfl)) <| zip_cons (item_fit _ _ (by kernel_rfl) (by kernel_rfl) (.inr (ruleOf_ok _).1) (one_reg rfl h7) (by kernel_rfl) (by kernel_rfl) (ruleOf_ok (byteL b 8)).2 (by kernel_rfl)) <|
    zip_cons (item_fit _ _ (by kernel_rfl) (by kernel_rfl) (.inl (by kernel_rfl)) (one_wire rfl h9) (by kernel_rfl) (by kernel_rfl) (by kernel_rfl) (wire_ok h9 (by kernel_rfl) (by kernel_rfl))) <|
    zip_cons (item_fit _ _ (by kernel_rfl) (by kernel_rfl) (.inl (by kernel_rfl)) (one_take rfl h11) (by kernel_rfl) (by kernel_rfl) (by kernel_rfl) (early_ok h11 fun n hn => by
      simp only [List.map_cons, List.map_nil, List.mem_cons, List.not_mem_nil, or_false] at hn
      rcases hn with rfl | rfl
      · exact .inl ⟨(by kernel_rfl), (by kernel_rfl)⟩
      · exact .inr ⟨(by kernel_rfl), _, _, h9, (by kernel_rfl), (by kernel_rfl)⟩)) <|
    zip_cons (item_fit _ _ (by kernel_rfl) (by kernel_rfl) (.inl (by kernel_rfl)) (two_put rfl h13 h15) (by kernel_rfl) (by kernel_rfl) (by kernel_rfl) (by kernel_rfl)) zip_nil
theorem ctop1_items (q : Bool) (x : Raw) (o : Str) (ho : has [sR, sT] o = true) : ((top1 x).items.zipIdx.any fun p => itemBad (two q (top1 x) (renM o sF9 (cellM x.l))) (top1 x) p.2 p.1) = false := by
  have ho' : o = sR ∨ o = sT := by have := has_mem ho; simpa using this
  rcases ho' with rfl | rfl <;> cases q <;>
  exact zip_cons (item_fit [] [] (by kernel_rfl) (by kernel_rfl) (.inl (by kernel_rfl)) (by kernel_rfl) (by kernel_rfl) (by kernel_rfl) (by kernel_rfl) (by kernel_rfl)) <| zip_cons (item_fit [] [] (by kernel_rfl) (by kernel_rfl) (.inl (by kernel_rfl)) (by kernel_rfl) (by kernel_rfl) (by kernel_rfl) (by kernel_rfl) (by kernel_rfl)) <| zip_cons (item_fit [] [] (by kernel_rfl) (by kernel_rfl) (.inl (by kernel_rfl)) (by kernel_rfl) (by kernel_rfl) (by kernel_rfl) (by kernel_rfl) (by kernel_rfl)) <| zip_cons (item_fit [] [] (by kernel_rfl) (by kernel_rfl) (.inl (by kernel_rfl)) (by kernel_rfl) (by kernel_rfl) (by kernel_rfl) (by kernel_rfl) (by kernel_rfl)) <| zip_cons (item_fit [] [] (by kernel_rfl) (by kernel_rfl) (.inl (by kernel_rfl)) (by kernel_rfl) (by kernel_rfl) (by kernel_rfl) (by kernel_rfl) (by kernel_rfl)) <| zip_nil
theorem ctop2_items (q mem : Bool) (x : Raw) (o : Str) (ho : has [sR, sT] o = true) : ((top2 mem x).items.zipIdx.any fun p => itemBad (two q (top2 mem x) (renM o sF9 (cellM x.l))) (top2 mem x) p.2 p.1) = false := by
  have h2 := gk x [sR, sS, sT, sC] [] 1 2
  have h4 := gk x [sS, sR, sC] [] 1 4
  have h6 := gk x [sR, sS] [] 1 6
  have h8 := gk x [sR, sS, sT, sC] [] 1 8
  have h12 := ck x [sR, sS, sT, sC] [] 1 12
  have h14 := gk x [sR, sS, sT, sC] [] 0 14
  have h16 := gk x [sR, sS, sT, sC] [] 1 16
  have h18 := ck x [sR, sS] [] 1 18
  have h20 := ck x [sR, sS, sT, sC] [] 1 20
  have h20m := ck x [sR, sS, sT, sC] [sM] 1 20
  have hd := data_ok x.l (rawW x) sC (rawW_ok x)
  have h22 := ck x [sR, sS] [] 1 22
  have h24 := gk x [sR, sS] [] 1 24
  have ho' : o = sR ∨ o = sT := by have := has_mem ho; simpa using this
  cases mem
  · rcases ho' with rfl | rfl <;> cases q <;>
    exact zip_cons (item_fit [] [] (by kernel_rfl) (by kernel_rfl) (.inl (by kernel_rfl)) (by kernel_rfl) (by kernel_rfl) (by kernel_rfl) (by kernel_rfl) (by kernel_rfl)) <| zip_cons (item_fit [] [] (by kernel_rfl) (by kernel_rfl) (.inl (by kernel_rfl)) (by kernel_rfl) (by kernel_rfl) (by kernel_rfl) (by kernel_rfl) (by kernel_rfl)) <| zip_cons (item_fit [] [] (by kernel_rfl) (by kernel_rfl) (.inl (by kernel_rfl)) (by kernel_rfl) (by kernel_rfl) (by kernel_rfl) (by kernel_rfl) (by kernel_rfl)) <| zip_cons (item_fit [] [] (by kernel_rfl) (by kernel_rfl) (.inl (by kernel_rfl)) (by kernel_rfl) (by kernel_rfl) (by kernel_rfl) (by kernel_rfl) (by kernel_rfl)) <| zip_cons (item_fit _ _ (by kernel_rfl) (by kernel_rfl) (.inr (ruleOf_ok _).1) (one_reg rfl h2) (by kernel_rfl) (by kernel_rfl) (ruleOf_ok (byteL x.l 3)).2 (by kernel_rfl)) <| zip_cons (item_fit _ _ (by kernel_rfl) (by kernel_rfl) (.inr (ruleOf_ok _).1) (one_reg rfl h4) (by kernel_rfl) (by kernel_rfl) (ruleOf_ok (byteL x.l 5)).2 (by kernel_rfl)) <| zip_cons (item_fit _ _ (by kernel_rfl) (by kernel_rfl) (.inl (by kernel_rfl)) (one_wire rfl h6) (by kernel_rfl) (by kernel_rfl) (by kernel_rfl) (wire_ok h6 (by kernel_rfl) (by kernel_rfl))) <| zip_cons (item_fit _ _ (by kernel_rfl) (by kernel_rfl) (.inl (by kernel_rfl)) (one_take rfl h18) (by kernel_rfl) (by kernel_rfl) (by kernel_rfl) (early_regs h18 (by kernel_rfl))) <| zip_cons (item_fit _ _ (by kernel_rfl) (by kernel_rfl) (.inl (by kernel_rfl)) (two_put rfl h20 h8) (by kernel_rfl) (by kernel_rfl) (by kernel_rfl) (by kernel_rfl)) <| zip_nil
  · rcases ho' with rfl | rfl <;> cases q <;>
    exact zip_cons (item_fit [] [] (by kernel_rfl) (by kernel_rfl) (.inl (by kernel_rfl)) (by kernel_rfl) (by kernel_rfl) (by kernel_rfl) (by kernel_rfl) (by kernel_rfl)) <| zip_cons (item_fit [] [] (by kernel_rfl) (by kernel_rfl) (.inl (by kernel_rfl)) (by kernel_rfl) (by kernel_rfl) (by kernel_rfl) (by kernel_rfl) (by kernel_rfl)) <| zip_cons (item_fit [] [] (by kernel_rfl) (by kernel_rfl) (.inl (by kernel_rfl)) (by kernel_rfl) (by kernel_rfl) (by kernel_rfl) (by kernel_rfl) (by kernel_rfl)) <| zip_cons (item_fit [] [] (by kernel_rfl) (by kernel_rfl) (.inl (by kernel_rfl)) (by kernel_rfl) (by kernel_rfl) (by kernel_rfl) (by kernel_rfl) (by kernel_rfl)) <| zip_cons (item_fit _ _ (by kernel_rfl) (by kernel_rfl) (.inr (ruleOf_ok _).1) (one_reg rfl h2) (by kernel_rfl) (by kernel_rfl) (ruleOf_ok (byteL x.l 3)).2 (by kernel_rfl)) <| zip_cons (item_fit _ _ (by kernel_rfl) (by kernel_rfl) (.inr (ruleOf_ok _).1) (one_reg rfl h4) (by kernel_rfl) (by kernel_rfl) (ruleOf_ok (byteL x.l 5)).2 (by kernel_rfl)) <| zip_cons (item_fit _ _ (by kernel_rfl) (by kernel_rfl) (.inl (by kernel_rfl)) (one_wire rfl h6) (by kernel_rfl) (by kernel_rfl) (by kernel_rfl) (wire_ok h6 (by kernel_rfl) (by kernel_rfl))) <| zip_cons (item_fit _ _ (by kernel_rfl) (by kernel_rfl) (.inr (ruleOf_ok _).1) (three_mem rfl h12 h14 h16) (by kernel_rfl) (depth_ok x _ rfl) (ruleOf_ok (byteL x.l 3)).2 (by kernel_rfl)) <| zip_cons (item_fit _ _ (by kernel_rfl) (by kernel_rfl) (.inl (by kernel_rfl)) (one_take rfl h18) (by kernel_rfl) (by kernel_rfl) (by kernel_rfl) (early_regs h18 (by kernel_rfl))) <| zip_cons (item_fit _ _ (by kernel_rfl) (by kernel_rfl) (.inl (by kernel_rfl)) (two_put rfl h20m hd) (by kernel_rfl) (by kernel_rfl) (by kernel_rfl) (by kernel_rfl)) <| zip_nil
theorem ctop3_items (q mem : Bool) (x : Raw) (o : Str) (ho : has [sR, sT] o = true) : ((top3 mem x).items.zipIdx.any fun p => itemBad (two q (top3 mem x) (renM o sF9 (cellM x.l))) (top3 mem x) p.2 p.1) = false := by
  have h2 := gk x [sR, sS, sT, sD] [] 1 2
  have h4 := gk x [sS, sR, sD] [] 1 4
  have h6 := gk x [sR, sS] [] 1 6
  have h8 := gk x [sR, sS, sT, sD] [] 1 8
  have h12 := ck x [sR, sS, sT, sD] [] 1 12
  have h14 := gk x [sR, sS, sT, sD] [] 0 14
  have h16 := gk x [sR, sS, sT, sD] [] 1 16
  have h18 := ck x [sR, sS] [] 1 18
  have h20 := ck x [sR, sS, sT, sD] [] 1 20
  have h20m := ck x [sR, sS, sT, sD] [sM] 1 20
  have hd := data_ok x.l (rawW x) sD (rawW_ok x)
  have h22 := ck x [sR, sS] [] 1 22
  have h24 := gk x [sR, sS] [] 1 24
  have ho' : o = sR ∨ o = sT := by have := has_mem ho; simpa using this
  cases mem
  · rcases ho' with rfl | rfl <;> cases q <;>
    exact zip_cons (item_fit [] [] (by kernel_rfl) (by kernel_rfl) (.inl (by kernel_rfl)) (by kernel_rfl) (by kernel_rfl) (by kernel_rfl) (by kernel_rfl) (by kernel_rfl)) <| zip_cons (item_fit [] [] (by kernel_rfl) (by kernel_rfl) (.inl (by kernel_rfl)) (by kernel_rfl) (by kernel_rfl) (by kernel_rfl) (by kernel_rfl) (by kernel_rfl)) <| zip_cons (item_fit [] [] (by kernel_rfl) (by kernel_rfl) (.inl (by kernel_rfl)) (by kernel_rfl) (by kernel_rfl) (by kernel_rfl) (by kernel_rfl) (by kernel_rfl)) <| zip_cons (item_fit [] [] (by kernel_rfl) (by kernel_rfl) (.inl (by kernel_rfl)) (by kernel_rfl) (by kernel_rfl) (by kernel_rfl) (by kernel_rfl) (by kernel_rfl)) <| zip_cons (item_fit _ _ (by kernel_rfl) (by kernel_rfl) (.inr (ruleOf_ok _).1) (one_reg rfl h2) (by kernel_rfl) (by kernel_rfl) (ruleOf_ok (byteL x.l 3)).2 (by kernel_rfl)) <| zip_cons (item_fit _ _ (by kernel_rfl) (by kernel_rfl) (.inr (ruleOf_ok _).1) (one_reg rfl h4) (by kernel_rfl) (by kernel_rfl) (ruleOf_ok (byteL x.l 5)).2 (by kernel_rfl)) <| zip_cons (item_fit _ _ (by kernel_rfl) (by kernel_rfl) (.inl (by kernel_rfl)) (one_wire rfl h6) (by kernel_rfl) (by kernel_rfl) (by kernel_rfl) (wire_ok h6 (by kernel_rfl) (by kernel_rfl))) <| zip_cons (item_fit _ _ (by kernel_rfl) (by kernel_rfl) (.inl (by kernel_rfl)) (one_take rfl h18) (by kernel_rfl) (by kernel_rfl) (by kernel_rfl) (early_regs h18 (by kernel_rfl))) <| zip_cons (item_fit _ _ (by kernel_rfl) (by kernel_rfl) (.inl (by kernel_rfl)) (two_put rfl h20 h8) (by kernel_rfl) (by kernel_rfl) (by kernel_rfl) (by kernel_rfl)) <| zip_cons (item_fit _ _ (by kernel_rfl) (by kernel_rfl) (.inl (by kernel_rfl)) (two_put rfl h22 h24) (by kernel_rfl) (by kernel_rfl) (by kernel_rfl) (by kernel_rfl)) <| zip_nil
  · rcases ho' with rfl | rfl <;> cases q <;>
    exact zip_cons (item_fit [] [] (by kernel_rfl) (by kernel_rfl) (.inl (by kernel_rfl)) (by kernel_rfl) (by kernel_rfl) (by kernel_rfl) (by kernel_rfl) (by kernel_rfl)) <| zip_cons (item_fit [] [] (by kernel_rfl) (by kernel_rfl) (.inl (by kernel_rfl)) (by kernel_rfl) (by kernel_rfl) (by kernel_rfl) (by kernel_rfl) (by kernel_rfl)) <| zip_cons (item_fit [] [] (by kernel_rfl) (by kernel_rfl) (.inl (by kernel_rfl)) (by kernel_rfl) (by kernel_rfl) (by kernel_rfl) (by kernel_rfl) (by kernel_rfl)) <| zip_cons (item_fit [] [] (by kernel_rfl) (by kernel_rfl) (.inl (by kernel_rfl)) (by kernel_rfl) (by kernel_rfl) (by kernel_rfl) (by kernel_rfl) (by kernel_rfl)) <| zip_cons (item_fit _ _ (by kernel_rfl) (by kernel_rfl) (.inr (ruleOf_ok _).1) (one_reg rfl h2) (by kernel_rfl) (by kernel_rfl) (ruleOf_ok (byteL x.l 3)).2 (by kernel_rfl)) <| zip_cons (item_fit _ _ (by kernel_rfl) (by kernel_rfl) (.inr (ruleOf_ok _).1) (one_reg rfl h4) (by kernel_rfl) (by kernel_rfl) (ruleOf_ok (byteL x.l 5)).2 (by kernel_rfl)) <| zip_cons (item_fit _ _ (by kernel_rfl) (by kernel_rfl) (.inl (by kernel_rfl)) (one_wire rfl h6) (by kernel_rfl) (by kernel_rfl) (by kernel_rfl) (wire_ok h6 (by kernel_rfl) (by kernel_rfl))) <| zip_cons (item_fit _ _ (by kernel_rfl) (by kernel_rfl) (.inr (ruleOf_ok _).1) (three_mem rfl h12 h14 h16) (by kernel_rfl) (depth_ok x _ rfl) (ruleOf_ok (byteL x.l 3)).2 (by kernel_rfl)) <| zip_cons (item_fit _ _ (by kernel_rfl) (by kernel_rfl) (.inl (by kernel_rfl)) (one_take rfl h18) (by kernel_rfl) (by kernel_rfl) (by kernel_rfl) (early_regs h18 (by kernel_rfl))) <| zip_cons (item_fit _ _ (by kernel_rfl) (by kernel_rfl) (.inl (by kernel_rfl)) (two_put rfl h20m hd) (by kernel_rfl) (by kernel_rfl) (by kernel_rfl) (by kernel_rfl)) <| zip_cons (item_fit _ _ (by kernel_rfl) (by kernel_rfl) (.inl (by kernel_rfl)) (two_put rfl h22 h24) (by kernel_rfl) (by kernel_rfl) (by kernel_rfl) (by kernel_rfl)) <| zip_nil
theorem vr0 (mem : Bool) (x : Raw) (o : Str) (ho : has regs o = true) : valid [renM o sF9 (top0 mem x)] = true := by
  rw [valid_eq]
  have h : headBad [renM o sF9 (top0 mem x)] 0 (renM o sF9 (top0 mem x)) = false := by
    rcases regs_of ho with rfl | rfl | rfl <;> cases mem <;> exact head_good (clockOf_name _) (by kernel_rfl) (by kernel_rfl) (by kernel_rfl) (by kernel_rfl)
  show (!(modBad [renM o sF9 (top0 mem x)] (renM o sF9 (top0 mem x), 0) || false)) = true
  unfold modBad
  simp only [h, rtop0_items mem x o ho]; rfl
theorem vr2 (q mem : Bool) (x : Raw) (o : Str) (ho : has regs o = true) : valid (two q (renM o sF9 (top2 mem x)) (cellM x.l)) = true := by
  refine valid_two_of ?_ ?_ (rtop2_items q mem x o ho) (cell_items _ x.l)
  · rcases regs_of ho with rfl | rfl | rfl <;> cases q <;> cases mem <;> exact head_good (clockOf_name _) (by kernel_rfl) (by kernel_rfl) (by kernel_rfl) (by kernel_rfl)
  · rcases regs_of ho with rfl | rfl | rfl <;> cases q <;> cases mem <;> exact head_good (clockOf_name _) (by kernel_rfl) (by kernel_rfl) (by kernel_rfl) (by kernel_rfl)
theorem vr3 (q mem : Bool) (x : Raw) (o : Str) (ho : has regs o = true) : valid (two q (renM o sF9 (top3 mem x)) (cellM x.l)) = true := by
  refine valid_two_of ?_ ?_ (rtop3_items q mem x o ho) (cell_items _ x.l)
  · rcases regs_of ho with rfl | rfl | rfl <;> cases q <;> cases mem <;> exact head_good (clockOf_name _) (by kernel_rfl) (by kernel_rfl) (by kernel_rfl) (by kernel_rfl)
  · rcases regs_of ho with rfl | rfl | rfl <;> cases q <;> cases mem <;> exact head_good (clockOf_name _) (by kernel_rfl) (by kernel_rfl) (by kernel_rfl) (by kernel_rfl)
theorem vc1 (q : Bool) (x : Raw) (o : Str) (ho : has [sR, sT] o = true) : valid (two q (top1 x) (renM o sF9 (cellM x.l))) = true := by
  have ho' : o = sR ∨ o = sT := by have := has_mem ho; simpa using this
  refine valid_two_of ?_ ?_ (ctop1_items q x o ho) (rcell_items _ x.l o ho)
  · rcases ho' with rfl | rfl <;> cases q <;> exact head_good (clockOf_name _) (by kernel_rfl) (by kernel_rfl) (by kernel_rfl) (by kernel_rfl)
  · rcases ho' with rfl | rfl <;> cases q <;> exact head_good (clockOf_name _) (by kernel_rfl) (by kernel_rfl) (by kernel_rfl) (by kernel_rfl)
theorem vc2 (q mem : Bool) (x : Raw) (o : Str) (ho : has [sR, sT] o = true) : valid (two q (top2 mem x) (renM o sF9 (cellM x.l))) = true := by
  have ho' : o = sR ∨ o = sT := by have := has_mem ho; simpa using this
  refine valid_two_of ?_ ?_ (ctop2_items q mem x o ho) (rcell_items _ x.l o ho)
  · rcases ho' with rfl | rfl <;> cases q <;> cases mem <;> exact head_good (clockOf_name _) (by kernel_rfl) (by kernel_rfl) (by kernel_rfl) (by kernel_rfl)
  · rcases ho' with rfl | rfl <;> cases q <;> cases mem <;> exact head_good (clockOf_name _) (by kernel_rfl) (by kernel_rfl) (by kernel_rfl) (by kernel_rfl)
theorem vc3 (q mem : Bool) (x : Raw) (o : Str) (ho : has [sR, sT] o = true) : valid (two q (top3 mem x) (renM o sF9 (cellM x.l))) = true := by
  have ho' : o = sR ∨ o = sT := by have := has_mem ho; simpa using this
  refine valid_two_of ?_ ?_ (ctop3_items q mem x o ho) (rcell_items _ x.l o ho)
  · rcases ho' with rfl | rfl <;> cases q <;> cases mem <;> exact head_good (clockOf_name _) (by kernel_rfl) (by kernel_rfl) (by kernel_rfl) (by kernel_rfl)
  · rcases ho' with rfl | rfl <;> cases q <;> cases mem <;> exact head_good (clockOf_name _) (by kernel_rfl) (by kernel_rfl) (by kernel_rfl) (by kernel_rfl)
def regsIn (rs : List Str) (m : Module) : Bool := m.items.all fun y => !(y.kind.1 == 4 || y.kind.1 == 5) || has rs y.name
theorem regs_in {rs : List Str} {m : Module} (h : regsIn rs m = true) {y : Item} (hy : y ∈ m.items) (hk : y.kind.1 = 4 ∨ y.kind.1 = 5) : has rs y.name = true := by
  unfold regsIn at h
  rw [List.all_eq_true] at h
  have := h y hy
  rcases hk with hk | hk <;> simpa [hk] using this
theorem in0 (mem : Bool) (x : Raw) : regsIn regs (top0 mem x) = true := by cases mem <;> kernel_rfl
theorem in1 (x : Raw) : regsIn [] (top1 x) = true := by kernel_rfl
theorem in2 (mem : Bool) (x : Raw) : regsIn regs (top2 mem x) = true := by cases mem <;> kernel_rfl
theorem in3 (mem : Bool) (x : Raw) : regsIn regs (top3 mem x) = true := by cases mem <;> kernel_rfl
theorem inC (b : List Nat) : regsIn [sR, sT] (cellM b) = true := by kernel_rfl
theorem two_cases {q : Bool} {a b : Module} {i : Nat} (hi : i < (two q a b).length) : ((two q a b)[i] = a ∧ ∀ m, (two q a b).set i m = two q m b) ∨ ((two q a b)[i] = b ∧ ∀ m, (two q a b).set i m = two q a m) := by
  cases q
  · match i, hi with
    | 0, _ => exact .inr ⟨rfl, fun _ => rfl⟩
    | 1, _ => exact .inl ⟨rfl, fun _ => rfl⟩
  · match i, hi with
    | 0, _ => exact .inl ⟨rfl, fun _ => rfl⟩
    | 1, _ => exact .inr ⟨rfl, fun _ => rfl⟩
theorem ren_good (x : Raw) {f : List Module} (hf : made x = f) {i : Nat} (hi : i < f.length) {y : Item} (hy : y ∈ f[i].items) (hk : y.kind.1 = 4 ∨ y.kind.1 = 5) : valid (f.set i (renM y.name sF9 f[i])) = true := by
  rcases made_shape x with ⟨mem, h⟩ | ⟨q, h⟩ | ⟨q, mem, h⟩ | ⟨q, mem, h⟩
  · rw [hf] at h
    subst h
    have h0 : i = 0 := by simp at hi; omega
    subst h0
    exact vr0 mem x _ (regs_in (in0 mem x) hy hk)
  · rw [hf] at h
    subst h
    rcases two_cases hi with ⟨h1, h2⟩ | ⟨h1, h2⟩
    · rw [h1] at hy
      have := regs_in (in1 x) hy hk
      simp [has] at this
    · rw [h1] at hy ⊢
      rw [h2]
      exact vc1 q x _ (regs_in (inC x.l) hy hk)
  · rw [hf] at h
    subst h
    rcases two_cases hi with ⟨h1, h2⟩ | ⟨h1, h2⟩
    · rw [h1] at hy ⊢
      rw [h2]
      exact vr2 q mem x _ (regs_in (in2 mem x) hy hk)
    · rw [h1] at hy ⊢
      rw [h2]
      exact vc2 q mem x _ (regs_in (inC x.l) hy hk)
  · rw [hf] at h
    subst h
    rcases two_cases hi with ⟨h1, h2⟩ | ⟨h1, h2⟩
    · rw [h1] at hy ⊢
      rw [h2]
      exact vr3 q mem x _ (regs_in (in3 mem x) hy hk)
    · rw [h1] at hy ⊢
      rw [h2]
      exact vc3 q mem x _ (regs_in (inC x.l) hy hk)
def port0 (m : Module) : Bool := match m.items with | y :: _ => y.kind.1 == 1 || y.kind.1 == 2 | [] => false
theorem port0_made (x : Raw) : (made x).all port0 = true := by
  rcases made_shape x with ⟨mem, h⟩ | ⟨q, h⟩ | ⟨q, mem, h⟩ | ⟨q, mem, h⟩
  · rw [h]; cases mem <;> kernel_rfl
  · rw [h]; cases q <;> kernel_rfl
  · rw [h]; cases q <;> cases mem <;> kernel_rfl
  · rw [h]; cases q <;> cases mem <;> kernel_rfl
theorem ren_bad {l : List Module} {i : Nat} (hi : i < l.length) {z y : Item} {r : List Item} (hm : l[i].items = z :: r) (hz : z.kind.1 = 1 ∨ z.kind.1 = 2) (hy : y ∈ l[i].items) (hk : y.kind.1 = 4 ∨ y.kind.1 = 5) : valid (l.set i (renM y.name z.name l[i])) = false := by
  rw [← Bool.not_eq_true]
  intro hv
  have hyr : y ∈ r := by
    rw [hm] at hy
    rcases List.mem_cons.1 hy with rfl | h
    · omega
    · exact h
  obtain ⟨A, B, hr⟩ := List.append_of_mem hyr
  have hi' : i < (l.set i (renM y.name z.name l[i])).length := by simpa using hi
  have he : (l.set i (renM y.name z.name l[i]))[i] = renM y.name z.name l[i] := by simp
  have hit : (l.set i (renM y.name z.name l[i]))[i].items = ((ren1 y.name z.name z) :: A.map (ren1 y.name z.name)) ++ ren1 y.name z.name y :: B.map (ren1 y.name z.name) := by
    rw [he]; simp only [renM, hm, hr, List.map_cons, List.map_append, List.cons_append]
  have h1 := itemV_ok hv hi' hit
  have hky : (ren1 y.name z.name y).kind.1 = 4 ∨ (ren1 y.name z.name y).kind.1 = 5 := hk
  have hd : declares (ren1 y.name z.name y).kind.1 = true := by
    rcases hky with h | h <;> rw [h] <;> rfl
  have h2 := (item_parts h1).1 hd
  unfold badName at h2
  simp only [Bool.or_eq_false_iff] at h2
  have h3 := h2.1.1
  rw [hit, List.take_left] at h3
  rw [List.any_eq_false] at h3
  apply h3 (ren1 y.name z.name z) (by simp)
  have n1 : (ren1 y.name z.name z).name = z.name := by
    unfold ren1
    have : (z.kind.1 == 4 || z.kind.1 == 5) = false := by rcases hz with h | h <;> rw [h] <;> rfl
    simp [this]
  have n2 : (ren1 y.name z.name y).name = z.name := by
    unfold ren1
    have : (y.kind.1 == 4 || y.kind.1 == 5) = true := by rcases hk with h | h <;> rw [h] <;> rfl
    simp [this]
  have dz : declares (ren1 y.name z.name z).kind.1 = true := by
    have hz' : (ren1 y.name z.name z).kind.1 = 1 ∨ (ren1 y.name z.name z).kind.1 = 2 := hz
    rcases hz' with h | h <;> rw [h] <;> rfl
  unfold sameDecl
  rw [dz, n1, n2]; simp
end Go.Proofs.Ytejpmjnefokdoaa

/-
  CONTRACTS: a register or wire of a module renamed; CheckRenaming.
-/
namespace Go.Proofs.Ytejpmjnefokdoaa
open Go.Aw
open Nat renaming reduceEqDiff → pE, reduceLT → pL, reduceAdd → pA, reduceSub → pS, reduceMul → pM, reduceLeDiff → pD
open Int renaming reduceToNat → qT, reduceGT → qG, reduceLT → qL, reduceGE → qH, reduceBNe → qN, reduceBEq → qB, reduceLE → qE, reduceNe → qO, reduceAdd → qA, reduceNeg → qM
set_option maxRecDepth 100000
set_option maxHeartbeats 20000000
theorem ren1_eq (o n : Str) (x : Item) : eItem (ren1 o n x) = eI x.kind.1 :: eS (if ((x.kind.1 == 4 || x.kind.1 == 5) && decide (x.name = o)) = true then n else x.name) :: (eNum x.width ++ (eNum x.depth ++ (eNum x.init ++ (eExpr (swapE o n x.a) ++ (eExpr (swapE o n x.b) ++ (eExpr (swapE o n x.c) ++ (eRule x.rule ++ [eS x.of, eNums x.args, eBinds x.ports]))))))) := rfl
theorem renM_c (o n : Str) (m : Module) (hl : m.items.length ≤ 1000) (hs : ∀ x ∈ m.items, sz x.a ≤ 1000 ∧ sz x.b ≤ 1000 ∧ sz x.c ≤ 1000) : FnP Try.prog 21 [.agg (eModule m), .agg [eS o, eS n]] (.d (.agg (eModule (renM o n m)))) [] := by
  have hr : eModule (renM o n m) = [eS m.name, eS m.clock, eStrs m.params, .sl (m.items.map fun x => eItem (ren1 o n x))] := by simp [renM, eModule, eItems, Function.comp_def]
  rw [hr]
  refine FnP.of_eC (own := []) (fun _ => []) mixed Try.func21 rfl Try.call21 Try.ntmps21 (Nat.le_of_ble_eq_true rfl) Try.results21 (fun hok => ?_)
  simp (maxSteps := 4000000) only [ZE, zA, zB, zC, zD, zF, zG, zH, zI, zJ, List.replicate, ↓reduceIte, pE, pL, pA, pS, pM, pD, Nat.zero_add, Int.natCast_one, qT, qG, qL, qH, qN, qB, qE, qO, qA, qM]
  refine eloop (fun i => if i = 2006 then [.chn] else []) mixed m.items.length (fun _ => True) (fun i => ([(2, .bp 2 0), (3, .bp 3 0), (4, .bp 4 0), (5, .ar 8 i), (6, .d (eI i))], [(2, .box ((eModule m).map .d)), (3, .box [.d (eS o), .d (eS n)]), (4, .box [.d (eS emp), .d (eS emp), .nils, .nils]), (8, .arr 56 35 .flat ((m.items.take i).map fun x => eItem (ren1 o n x)))])) trivial ?_ ?_ (fun i hi _ => ?_)
  · simp (maxSteps := 4000000) only [ZE, zA, zB, zC, zD, zF, zG, zH, zI, zJ, List.replicate, ↓reduceIte, pE, pL, pA, pS, pM, pD, op_mk, name_mk, k_mk, w_mk, args_mk, zExpr, zNum, emp, zItem]
  · simp (maxSteps := 4000000) only [ZE, zA, zB, zC, zD, zF, zG, zH, zI, zJ, List.replicate, ↓reduceIte, pE, pL, pA, pS, pM, pD, op_mk, name_mk, k_mk, w_mk, args_mk, zExpr, zNum, emp, zItem, List.take_zero]
  rcases Nat.lt_or_ge i m.items.length with h | h
  · have hw := wrap_succ (show i < 9223372036854775807 by omega)
    obtain ⟨s1, s2, s3⟩ := hs m.items[i] (List.getElem_mem h)
    have ca := swap_c o n 10000 m.items[i].a (by omega) (by omega)
    have cb := swap_c o n 10000 m.items[i].b (by omega) (by omega)
    have cc := swap_c o n 10000 m.items[i].c (by omega) (by omega)
    have ht : (m.items.take (i + 1)).map (fun x => eItem (ren1 o n x)) = (m.items.take i).map (fun x => eItem (ren1 o n x)) ++ [eItem (ren1 o n m.items[i])] := by rw [List.take_succ_eq_append_getElem h, List.map_append]; rfl
    rw [ht, ren1_eq]
    have hL : ((m.items.take i).map fun x => eItem (ren1 o n x)).length = i := by rw [List.length_map, List.length_take]; omega
    obtain ⟨R, hR⟩ : ∃ R, (m.items.take i).map (fun x => eItem (ren1 o n x)) = R := ⟨_, rfl⟩
    rw [hR] at hL ⊢
    obtain ⟨ya, hya⟩ : ∃ y, swapE o n m.items[i].a = y := ⟨_, rfl⟩
    obtain ⟨yb, hyb⟩ : ∃ y, swapE o n m.items[i].b = y := ⟨_, rfl⟩
    obtain ⟨yc, hyc⟩ : ∃ y, swapE o n m.items[i].c = y := ⟨_, rfl⟩
    rw [hya] at ca ⊢
    rw [hyb] at cb ⊢
    rw [hyc] at cc ⊢
    simp only [ZE, zA, zB, zC, zD, zF, zG, zH, zI, zJ, List.replicate, ↓reduceIte, pE, pL, pA, pS, pM, pD] at ca cb cc
    rcases Bool.eq_false_or_eq_true ((m.items[i].kind.1 == 4 || m.items[i].kind.1 == 5) && decide (m.items[i].name = o)) with h1 | h1
    all_goals
      rw [h1]
      simp (maxSteps := 4000000) only [ZE, zA, zB, zC, zD, zF, zG, zH, zI, zJ, List.replicate, ↓reduceIte, pE, pL, pA, pS, pM, pD, dec_lt h, getD_map h, lt_int h, hw, Nat.zero_add, Int.natCast_one, qT, qG, qL, qH, qN, qB, qE, qO, qA, qM, op_mk, name_mk, k_mk, w_mk, args_mk, zExpr, zNum, emp, zItem, hL, h1, Bool.false_eq_true]
      refine EFn.p ?_
      simp only [ZE, zA, zB, zC, zD, zF, zG, zH, zI, zJ, List.replicate, ↓reduceIte, pE, pL, pA, pS, pM, pD, Nat.zero_add, Int.natCast_one, qT, qG, qL, qH, qN, qB, qE, qO, qA, qM]
      refine ECall.i ca ?_
      simp only [ZE, zA, zB, zC, zD, zF, zG, zH, zI, zJ, List.replicate, ↓reduceIte, pE, pL, pA, pS, pM, pD, Nat.zero_add, Int.natCast_one, qT, qG, qL, qH, qN, qB, qE, qO, qA, qM]
      refine EFn.p ?_
      simp only [ZE, zA, zB, zC, zD, zF, zG, zH, zI, zJ, List.replicate, ↓reduceIte, pE, pL, pA, pS, pM, pD, Nat.zero_add, Int.natCast_one, qT, qG, qL, qH, qN, qB, qE, qO, qA, qM]
      refine ECall.i cb ?_
      simp only [ZE, zA, zB, zC, zD, zF, zG, zH, zI, zJ, List.replicate, ↓reduceIte, pE, pL, pA, pS, pM, pD, Nat.zero_add, Int.natCast_one, qT, qG, qL, qH, qN, qB, qE, qO, qA, qM]
      refine EFn.p ?_
      simp only [ZE, zA, zB, zC, zD, zF, zG, zH, zI, zJ, List.replicate, ↓reduceIte, pE, pL, pA, pS, pM, pD, Nat.zero_add, Int.natCast_one, qT, qG, qL, qH, qN, qB, qE, qO, qA, qM]
      refine ECall.i cc ?_
      simp (maxSteps := 4000000) only [ZE, zA, zB, zC, zD, zF, zG, zH, zI, zJ, List.replicate, ↓reduceIte, pE, pL, pA, pS, pM, pD, Nat.zero_add, Int.natCast_one, qT, qG, qL, qH, qN, qB, qE, qO, qA, qM, hL, hw, op_mk, name_mk, k_mk, w_mk, args_mk, zExpr, zNum, emp, zItem]
      exact ⟨⟨by omega, by omega⟩, h⟩
  · have : i = m.items.length := by omega
    subst this
    simp (maxSteps := 4000000) only [ZE, zA, zB, zC, zD, zF, zG, zH, zI, zJ, List.replicate, ↓reduceIte, pE, pL, pA, pS, pM, pD, dec_ge h, Nat.zero_add, Int.natCast_one, qT, qG, qL, qH, qN, qB, qE, qO, qA, qM, op_mk, name_mk, k_mk, w_mk, args_mk, zExpr, zNum, emp, zItem, List.take_length]
theorem renaming_w (x : Raw) (k0 k1 : Nat) (h0 : k0 < 256) (h1 : k1 < 256) (f : List Module) (m : Module) (y z : Item) (i n : Nat) (hc : FnP Try.prog 9 [eRaw x] (.d (.agg [eModules f])) []) (hf : f.length ≤ 1000) (hi : i < f.length) (hki : k0 % f.length = i) (hm : f[i] = m) (hl : m.items.length ≤ 800) (hn : n < m.items.length) (hkn : k1 % m.items.length = n) (hy : m.items[n] = y) (hz : m.items[0] = z)
    (hv : FnP Try.prog 12 [.agg [eModules f]] (.d (eB true)) []) (M1 M2 : Module)
    (r1 : FnP Try.prog 21 [.agg (eModule m), .agg [eS y.name, eS sF9]] (.d (.agg (eModule M1))) [])
    (r2 : FnP Try.prog 21 [.agg (eModule m), .agg [eS y.name, eS z.name]] (.d (.agg (eModule M2))) [])
    (h2 : y.kind.1 = 4 ∨ y.kind.1 = 5 → FnP Try.prog 12 [.agg [eModules (f.set i M1)]] (.d (eB true)) [])
    (h3 : y.kind.1 = 4 ∨ y.kind.1 = 5 → FnP Try.prog 12 [.agg [eModules (f.set i M2)]] (.d (eB false)) []) : FnP Try.prog 6 [eRaw x, .agg [eU8 k0, eU8 k1]] (.d (eB true)) [] := by
  refine FnP.of_eC (own := []) (fun i => if i = 2012 then [.flt ⟨[(0, none), (1, none), (2, none), (5, none), (6, none), (7, none), (3, some [5, 6, 7]), (4, none), (8, some [4]), (9, none), (12, some [9]), (13, some [])]⟩ ⟨[10, 11], [(12, [10]), (13, [11])]⟩] else if i = 2009 then [.flt ⟨[(0, none), (1, none), (2, none), (3, none), (4, none), (5, none), (6, none), (7, none), (8, none), (9, none), (10, none), (12, some [])]⟩ ⟨[11], [(12, [11])]⟩] else if i = 2013 then [.ord ⟨[(0, none), (1, none), (2, none), (3, none), (4, none), (5, none), (6, none), (7, none), (8, none), (9, some [])]⟩] else if i = 2014 then [.ord ⟨[(0, none), (1, none), (2, none), (3, none), (4, none), (5, none), (6, none), (7, none), (8, none), (9, none), (10, none), (11, none), (12, none), (13, none), (14, some [])]⟩] else []) mixed Try.func6 rfl Try.call6 Try.ntmps6 (Nat.le_of_ble_eq_true rfl) Try.results6 (fun hok => ?_)
  have ex := examples_c
  have e1 : IntKind.i64.wrap (k0 : Int) = (k0 : Int) := wrap_id (by omega) (by omega)
  have e2 : IntKind.i64.wrap (k1 : Int) = (k1 : Int) := wrap_id (by omega) (by omega)
  have t1 : (k0 : Int).tmod (f.length : Int) = (i : Int) := by rw [← hki]; exact (Int.ofNat_tmod _ _).symm
  have t2 : (k1 : Int).tmod (m.items.length : Int) = (n : Int) := by rw [← hkn]; exact (Int.ofNat_tmod _ _).symm
  have z1 : ¬ (f.length : Int) = 0 := by omega
  have z2 : ¬ (m.items.length : Int) = 0 := by omega
  have z3 : ((m.items.length : Int) == 0) = false := by rw [beq_eq_false_iff_ne]; omega
  have hn0 : 0 < m.items.length := by omega
  simp only [ZE, zA, zB, zC, zD, zF, zG, zH, zI, zJ, List.replicate, ↓reduceIte, pE, pL, pA, pS, pM, pD, eRaw, List.map_set, sF9, st] at ex hc hv r1 r2
  simp (maxSteps := 4000000) only [ZE, zA, zB, zC, zD, zF, zG, zH, zI, zJ, List.replicate, ↓reduceIte, pE, pL, pA, pS, pM, pD, Nat.zero_add, Int.natCast_one, qT, qG, qL, qH, qN, qB, qE, qO, qA, qM, eRaw]
  refine EFn.p ?_
  simp only [ZE, zA, zB, zC, zD, zF, zG, zH, zI, zJ, List.replicate, ↓reduceIte, pE, pL, pA, pS, pM, pD, Nat.zero_add, Int.natCast_one, qT, qG, qL, qH, qN, qB, qE, qO, qA, qM]
  refine ECall.i ex ?_
  simp only [ZE, zA, zB, zC, zD, zF, zG, zH, zI, zJ, List.replicate, ↓reduceIte, pE, pL, pA, pS, pM, pD, Nat.zero_add, Int.natCast_one, qT, qG, qL, qH, qN, qB, qE, qO, qA, qM]
  refine EFn.p ?_
  simp only [ZE, zA, zB, zC, zD, zF, zG, zH, zI, zJ, List.replicate, ↓reduceIte, pE, pL, pA, pS, pM, pD, Nat.zero_add, Int.natCast_one, qT, qG, qL, qH, qN, qB, qE, qO, qA, qM]
  refine ECall.i hc ?_
  simp only [ZE, zA, zB, zC, zD, zF, zG, zH, zI, zJ, List.replicate, ↓reduceIte, pE, pL, pA, pS, pM, pD, Nat.zero_add, Int.natCast_one, qT, qG, qL, qH, qN, qB, qE, qO, qA, qM, e1, t1, z1, z3, not_false_eq_true, getD_map hi, lt_int hi, List.length_map, hm]
  refine EFn.p ?_
  simp only [ZE, zA, zB, zC, zD, zF, zG, zH, zI, zJ, List.replicate, ↓reduceIte, pE, pL, pA, pS, pM, pD, Nat.zero_add, Int.natCast_one, qT, qG, qL, qH, qN, qB, qE, qO, qA, qM]
  refine ECall.i hv ?_
  by_cases k4 : y.kind.1 = 4
  · have f4 : (y.kind.1 != 4) = false := by rw [k4]; rfl
    have g2 := h2 (.inl k4)
    have g3 := h3 (.inl k4)
    simp only [ZE, zA, zB, zC, zD, zF, zG, zH, zI, zJ, List.replicate, ↓reduceIte, pE, pL, pA, pS, pM, pD, List.map_set] at g2 g3
    simp (maxSteps := 8000000) only [ZE, zA, zB, zC, zD, zF, zG, zH, zI, zJ, List.replicate, ↓reduceIte, pE, pL, pA, pS, pM, pD, Nat.zero_add, Int.natCast_one, qT, qG, qL, qH, qN, qB, qE, qO, qA, qM, e2, t2, z2, not_false_eq_true, getD_map hn, lt_int hn, List.length_map, hy, lt_int hi, hm, f4, getD_map hn0, hz]
    have ro : rowsOk 4 (f.map eModule) := by
      intro q hq
      obtain ⟨z, _, rfl⟩ := List.mem_map.1 hq
      simp [eModule, eS, eStrs, eItems, D.one, Value.oneCell']
    refine ⟨by kernel_rfl, by kernel_rfl, ⟨ro, by omega, by omega⟩, ⟨ro, by omega, by omega⟩, by kernel_rfl, ECall'.i r1 ?_⟩
    simp (maxSteps := 8000000) only [ZE, zA, zB, zC, zD, zF, zG, zH, zI, zJ, List.replicate, ↓reduceIte, pE, pL, pA, pS, pM, pD, Nat.zero_add, Int.natCast_one, qT, qG, qL, qH, qN, qB, qE, qO, qA, qM, lt_int hi, List.length_map, lt_int hn0, getD_map hn0, hz]
    refine ⟨hi, by kernel_rfl, by omega, ECall'.i r2 ?_⟩
    have dr : ((f.map eModule).getD i []).drop 4 = [] := by simp [List.getD_eq_getElem?_getD, hi, eModule]
    simp (maxSteps := 8000000) only [ZE, zA, zB, zC, zD, zF, zG, zH, zI, zJ, List.replicate, ↓reduceIte, pE, pL, pA, pS, pM, pD, Nat.zero_add, Int.natCast_one, qT, qG, qL, qH, qN, qB, qE, qO, qA, qM, lt_int hi, hi, List.length_map, dr, List.length_set]
    refine EFn.p ?_
    simp only [ZE, zA, zB, zC, zD, zF, zG, zH, zI, zJ, List.replicate, ↓reduceIte, pE, pL, pA, pS, pM, pD, Nat.zero_add, Int.natCast_one, qT, qG, qL, qH, qN, qB, qE, qO, qA, qM, dr, List.length_set, List.length_map]
    refine ECall.i g2 ?_
    simp only [ZE, zA, zB, zC, zD, zF, zG, zH, zI, zJ, List.replicate, ↓reduceIte, pE, pL, pA, pS, pM, pD, Nat.zero_add, Int.natCast_one, qT, qG, qL, qH, qN, qB, qE, qO, qA, qM]
    refine EFn.p ?_
    simp only [ZE, zA, zB, zC, zD, zF, zG, zH, zI, zJ, List.replicate, ↓reduceIte, pE, pL, pA, pS, pM, pD, Nat.zero_add, Int.natCast_one, qT, qG, qL, qH, qN, qB, qE, qO, qA, qM, dr, List.length_set, List.length_map]
    refine ECall.i g3 ?_
    simp only [ZE, zA, zB, zC, zD, zF, zG, zH, zI, zJ, List.replicate, ↓reduceIte, pE, pL, pA, pS, pM, pD, Nat.zero_add, Int.natCast_one, qT, qG, qL, qH, qN, qB, qE, qO, qA, qM]
  have f4 : (y.kind.1 != 4) = true := by simpa using k4
  by_cases k5 : y.kind.1 = 5
  · have f5 : (y.kind.1 != 5) = false := by rw [k5]; rfl
    have g2 := h2 (.inr k5)
    have g3 := h3 (.inr k5)
    simp only [ZE, zA, zB, zC, zD, zF, zG, zH, zI, zJ, List.replicate, ↓reduceIte, pE, pL, pA, pS, pM, pD, List.map_set] at g2 g3
    simp (maxSteps := 8000000) only [ZE, zA, zB, zC, zD, zF, zG, zH, zI, zJ, List.replicate, ↓reduceIte, pE, pL, pA, pS, pM, pD, Nat.zero_add, Int.natCast_one, qT, qG, qL, qH, qN, qB, qE, qO, qA, qM, e2, t2, z2, not_false_eq_true, getD_map hn, lt_int hn, List.length_map, hy, lt_int hi, hm, f4, f5, getD_map hn0, hz]
    have ro : rowsOk 4 (f.map eModule) := by
      intro q hq
      obtain ⟨z, _, rfl⟩ := List.mem_map.1 hq
      simp [eModule, eS, eStrs, eItems, D.one, Value.oneCell']
    refine ⟨by kernel_rfl, by kernel_rfl, ⟨ro, by omega, by omega⟩, ⟨ro, by omega, by omega⟩, by kernel_rfl, ECall'.i r1 ?_⟩
    simp (maxSteps := 8000000) only [ZE, zA, zB, zC, zD, zF, zG, zH, zI, zJ, List.replicate, ↓reduceIte, pE, pL, pA, pS, pM, pD, Nat.zero_add, Int.natCast_one, qT, qG, qL, qH, qN, qB, qE, qO, qA, qM, lt_int hi, List.length_map, lt_int hn0, getD_map hn0, hz]
    refine ⟨hi, by kernel_rfl, by omega, ECall'.i r2 ?_⟩
    have dr : ((f.map eModule).getD i []).drop 4 = [] := by simp [List.getD_eq_getElem?_getD, hi, eModule]
    simp (maxSteps := 8000000) only [ZE, zA, zB, zC, zD, zF, zG, zH, zI, zJ, List.replicate, ↓reduceIte, pE, pL, pA, pS, pM, pD, Nat.zero_add, Int.natCast_one, qT, qG, qL, qH, qN, qB, qE, qO, qA, qM, lt_int hi, hi, List.length_map, dr, List.length_set]
    refine EFn.p ?_
    simp only [ZE, zA, zB, zC, zD, zF, zG, zH, zI, zJ, List.replicate, ↓reduceIte, pE, pL, pA, pS, pM, pD, Nat.zero_add, Int.natCast_one, qT, qG, qL, qH, qN, qB, qE, qO, qA, qM, dr, List.length_set, List.length_map]
    refine ECall.i g2 ?_
    simp only [ZE, zA, zB, zC, zD, zF, zG, zH, zI, zJ, List.replicate, ↓reduceIte, pE, pL, pA, pS, pM, pD, Nat.zero_add, Int.natCast_one, qT, qG, qL, qH, qN, qB, qE, qO, qA, qM]
    refine EFn.p ?_
    simp only [ZE, zA, zB, zC, zD, zF, zG, zH, zI, zJ, List.replicate, ↓reduceIte, pE, pL, pA, pS, pM, pD, Nat.zero_add, Int.natCast_one, qT, qG, qL, qH, qN, qB, qE, qO, qA, qM, dr, List.length_set, List.length_map]
    refine ECall.i g3 ?_
    simp only [ZE, zA, zB, zC, zD, zF, zG, zH, zI, zJ, List.replicate, ↓reduceIte, pE, pL, pA, pS, pM, pD, Nat.zero_add, Int.natCast_one, qT, qG, qL, qH, qN, qB, qE, qO, qA, qM]
  have f5 : (y.kind.1 != 5) = true := by simpa using k5
  simp (maxSteps := 8000000) only [ZE, zA, zB, zC, zD, zF, zG, zH, zI, zJ, List.replicate, ↓reduceIte, pE, pL, pA, pS, pM, pD, Nat.zero_add, Int.natCast_one, qT, qG, qL, qH, qN, qB, qE, qO, qA, qM, e2, t2, z2, not_false_eq_true, getD_map hn, lt_int hn, List.length_map, hy, lt_int hi, hm, f4, f5]
  show ordFB _ _ _ _ = true
  kernel_rfl
end Go.Proofs.Ytejpmjnefokdoaa

/-
  CheckRenaming answers true.
-/
namespace Go.Proofs.Ytejpmjnefokdoaa
open Go.Aw
theorem small_ren {L l : List Module} (hl : l.length ≤ 1000) (h : ∀ m ∈ l, m.items.length ≤ 20 ∧ ∀ y ∈ m.items, Tidy L y) {i : Nat} (hi : i < l.length) (o n : Str) : Small (l.set i (renM o n l[i])) := by
  have hm' := h l[i] (List.getElem_mem hi)
  refine { len := by simpa using hl, items := fun m hm => ?_, nums := fun m hm x hx => ?_ }
  · rcases List.mem_or_eq_of_mem_set hm with h1 | h1
    · have := (h m h1).1; omega
    · rw [h1]
      have := hm'.1
      simp only [renM, List.length_map]; omega
  · rcases List.mem_or_eq_of_mem_set hm with h1 | h1
    · have hx' := (h m h1).2 x hx
      exact numbers_len x hx'.a hx'.b hx'.c hx'.args
    · rw [h1] at hx
      obtain ⟨y, hy, rfl⟩ := List.mem_map.1 hx
      have hx' := hm'.2 y hy
      refine numbers_len _ ?_ ?_ ?_ hx'.args
      · show sz (swapE o n y.a) ≤ 20; rw [sz_swap]; exact hx'.a
      · show sz (swapE o n y.b) ≤ 20; rw [sz_swap]; exact hx'.b
      · show sz (swapE o n y.c) ≤ 20; rw [sz_swap]; exact hx'.c
theorem small_tidy2 {L l : List Module} (hl : l.length ≤ 1000) (h : ∀ m ∈ l, m.items.length ≤ 20 ∧ ∀ y ∈ m.items, Tidy L y) : Small l := by
  refine { len := hl, items := fun m' hm => ?_, nums := fun m' hm x hx => ?_ }
  · have := (h m' hm).1; omega
  · have hx' := (h m' hm).2 x hx
    exact numbers_len x hx'.a hx'.b hx'.c hx'.args
theorem renaming_c (x : Raw) (hx : x.ok) (k0 k1 : Nat) (h0 : k0 < 256) (h1 : k1 < 256) : FnP Try.prog 6 [eRaw x, .agg [eU8 k0, eU8 k1]] (.d (eB true)) [] := by
  obtain ⟨hl2, hl0, hT⟩ := tidy_made x
  have hv := valid_made x
  have hmc := made_c x hx
  have hp := port0_made x
  obtain ⟨f, hf⟩ : ∃ f, made x = f := ⟨_, rfl⟩
  have hrg := fun (i : Nat) (hi : i < f.length) (y : Item) (hy : y ∈ f[i].items) (hk : y.kind.1 = 4 ∨ y.kind.1 = 5) => ren_good x hf hi hy hk
  rw [hf] at hl2 hl0 hT hv hmc hp
  clear hf
  have hi : k0 % f.length < f.length := Nat.mod_lt _ hl0
  obtain ⟨i, hki⟩ : ∃ i, k0 % f.length = i := ⟨_, rfl⟩
  rw [hki] at hi
  obtain ⟨⟨hm0, hm20⟩, ht⟩ := hT f[i] (List.getElem_mem hi)
  have hn : k1 % f[i].items.length < f[i].items.length := Nat.mod_lt _ hm0
  obtain ⟨n, hkn⟩ : ∃ n, k1 % f[i].items.length = n := ⟨_, rfl⟩
  rw [hkn] at hn
  have hy : f[i].items[n] ∈ f[i].items := List.getElem_mem hn
  have hT' : ∀ m ∈ f, m.items.length ≤ 20 ∧ ∀ y ∈ m.items, Tidy f y := fun m hm => ⟨(hT m hm).1.2, (hT m hm).2⟩
  have hs : ∀ x ∈ f[i].items, sz x.a ≤ 1000 ∧ sz x.b ≤ 1000 ∧ sz x.c ≤ 1000 := fun x hx => by
    have h := ht x hx
    have := h.a; have := h.b; have := h.c
    omega
  have hp0 : port0 f[i] = true := List.all_eq_true.1 hp _ (List.getElem_mem hi)
  obtain ⟨z, r, hzr⟩ : ∃ z r, f[i].items = z :: r := by
    cases h : f[i].items with
    | nil => rw [h] at hm0; simp at hm0
    | cons z r => exact ⟨z, r, rfl⟩
  have hz0 : f[i].items[0] = z := by simp [hzr]
  have hzk : z.kind.1 = 1 ∨ z.kind.1 = 2 := by
    unfold port0 at hp0
    rw [hzr] at hp0
    simpa using hp0
  refine renaming_w x k0 k1 h0 h1 f f[i] f[i].items[n] z i n hmc (by omega) hi hki rfl (by omega) hn hkn rfl hz0 ?_ _ _ (renM_c _ _ _ (by omega) hs) (renM_c _ _ _ (by omega) hs) (fun hk => ?_) (fun hk => ?_)
  · have := valid_c f (small_tidy2 (by omega) hT')
    rwa [hv] at this
  · have h2 := valid_c _ (small_ren (by omega) hT' hi f[i].items[n].name sF9)
    rwa [hrg i hi _ hy hk] at h2
  · have h2 := valid_c _ (small_ren (by omega) hT' hi f[i].items[n].name z.name)
    rwa [ren_bad hi hzr hzk hy hk] at h2
end Go.Proofs.Ytejpmjnefokdoaa

/-
  CheckRenaming: if a register or wire of a valid file is renamed, at its declaration and in all expressions of its module, to a name that the module does not use, the file stays valid; to a name that is declared already it does not.
  Conditions: none.
-/
namespace Go.Proofs.Ytejpmjnefokdoaa
open Go.Aw Go.ChangeShapes Go.WideShapes Go.ChangeAt Go.RowKit
set_option maxRecDepth 100000
theorem renaming_lifted (os : Os) (started : os.Started) (H : Type) (enc : TypeId × Value → H) :
    ReturnsInHanded {} Try.checked os 6 .any (Rows.checkRenamingSpec.pre6 enc Try.prog Try.f6 Rows.checkRenamingRow.domain false) (Rows.checkRenamingSpec.post enc Try.prog Try.f6 false true false false) := by
  refine returnsInHanded_of_change (C := Try.checked) own started (by kernel_rfl) Try.func6
    (ChangeSpec.witness6 (enc := enc) (C := Try.checked) false ⟨#[], #[.agg #[.int .u8 0, .int .u8 0, .slice none 0 0], .agg #[.int .u8 0, .int .u8 0]], []⟩ 8 (by kernel_rfl) (by kernel_rfl) (by kernel_rfl) (by kernel_rfl)) ?_
  intro W base args ds gs before hval hW _ _
  refine law_post (P := Try.prog) (n := 8) (ss := [shRaw, shK2]) laidOut (of_decide_eq_true (by kernel_rfl)) (tb := 4) (by kernel_rfl) Try.underlying4 (by kernel_rfl) rfl hval hW (fun hl => ?_) (fun Ds hD _ => ?_)
  · match ds, hl with
    | [_, _], _ => rfl
  · obtain ⟨a, b, rfl, ha, hb⟩ := fitsA_2 hD
    obtain ⟨x, rfl, hx⟩ := raw_of ha
    obtain ⟨k0, k1, rfl, h0, h1⟩ := k2_of hb
    exact renaming_c x hx k0 k1 h0 h1
theorem renaming_holds : Rows.CheckRenamingSaid :=
  OpenClaim.holds_of_wide 6 Try.f6 rfl rfl rfl rfl rfl rfl rfl ⟨rfl, rfl, rfl, rfl, rfl⟩ rfl rfl rfl rfl rfl (by kernel_rfl) Try.func6 (by kernel_rfl)
    (of_decide_eq_true (by kernel_rfl)) (by unfold Func.isWrapper; first | (rw [if_pos (by decide +kernel)]; kernel_rfl) | (rw [if_neg (by decide +kernel)]; exact ⟨rfl, rfl⟩))
    (fun os started H enc _ => renaming_lifted os started H enc)
end Go.Proofs.Ytejpmjnefokdoaa
