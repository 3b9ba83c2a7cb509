/-
 CONTRACTS of the functions that the law reaches, and plain laws on what they compute. Conditions: those of each law.
-/
import Derived.Test.YtejpmjnefokdoaaK3
import Derived.Test.YtejpmjnefokdoaaK1
set_option linter.unusedSimpArgs false
set_option linter.unusedVariables false
namespace Go.Proofs.Ytejpmjnefokdoaa
open Go.Aw
open Nat renaming reduceEqDiff → pE, reduceLT → pL, reduceAdd → pA, reduceSub → pS, reduceMul → pM, reduceLeDiff → pD
open Int renaming reduceToNat → qT, reduceGT → qG, reduceLT → qL, reduceGE → qH, reduceBNe → qN, reduceBEq → qB, reduceLE → qE, reduceNe → qO, reduceAdd → qA, reduceNeg → qM
set_option maxRecDepth 100000
set_option maxHeartbeats 8000000
theorem op_mk (o : Int) (n : Str) (k w : Num) (a : List Expr) : (Expr.mk o n k w a).op = o := rfl
theorem name_mk (o : Int) (n : Str) (k w : Num) (a : List Expr) : (Expr.mk o n k w a).name = n := rfl
theorem k_mk (o : Int) (n : Str) (k w : Num) (a : List Expr) : (Expr.mk o n k w a).k = k := rfl
theorem w_mk (o : Int) (n : Str) (k w : Num) (a : List Expr) : (Expr.mk o n k w a).w = w := rfl
theorem args_mk (o : Int) (n : Str) (k w : Num) (a : List Expr) : (Expr.mk o n k w a).args = a := rfl
def portI (kind : I64) (name : Str) (w : Num) : Item := { zItem with kind := kind, name := name, width := w }
def wireI (name : Str) (w : Num) (e : Expr) : Item := { zItem with kind := ⟨5, rfl⟩, name := name, width := w, a := e }
def takeI (name : Str) (e : Expr) : Item := { zItem with kind := ⟨7, rfl⟩, name := name, a := e }
def putI (name : Str) (e x : Expr) : Item := { zItem with kind := ⟨8, rfl⟩, name := name, a := e, b := x }
def wN : Num := ⟨0, sW⟩
def cellM (l : List Nat) : Module := ⟨sCell, clockOf (byteL l 5), [sW], [portI ⟨1, rfl⟩ sX wN, portI ⟨2, rfl⟩ sY wN, regI sR l 7 [sR, sX] wN, wireI sT wN (gen l [sR] wN 1 9), takeI sX (cond l [sR, sT] wN 1 11), putI sY (cond l [sR, sX, sT] wN 1 13) (gen l [sR, sX, sT] wN 1 15)]⟩
theorem cell_c (l : List Nat) (hb : ∀ b ∈ l, b < 256) : FnP Try.prog 30 [eBytes l] (.d (.agg (eModule (cellM l)))) [] := by
 refine FnP.of_eC (own := []) (fun i => if i = 2002 then [.flt ⟨[(0, none), (1, none), (2, none), (3, none), (4, none), (5, none), (8, some [3, 4, 5]), (9, some [])]⟩ ⟨[6, 7], [(8, [6]), (9, [7])]⟩] else if i = 2003 then [.ord ⟨[(0, none), (1, none), (2, none), (3, none), (4, none), (5, none), (6, none), (7, none), (8, none), (9, none), (10, none), (11, none), (12, none), (13, none), (14, none), (15, none), (16, none), (17, none), (18, none), (19, none), (20, none), (21, none), (22, none), (23, none), (24, none), (25, none), (26, none), (27, none), (28, none), (29, none), (30, none), (31, none), (32, none), (33, none), (34, none), (35, some [])]⟩] else []) mixed Try.func30 rfl Try.call30 Try.ntmps30 (Nat.le_of_ble_eq_true rfl) Try.results30 (fun hok => ?_)
 have a1 := at_c l 5 hb (by omega)
 have k1 := clock_c (byteL l 5)
 have r1 := reg_c sR l [sR, sX] wN hb (by simp) (by simp) 7 (by omega)
 have g1 := gen1_c l [sR] wN hb (by simp) (by simp) 9 (by omega)
 have c1 := cond1_c l [sR, sT] wN hb (by simp) (by simp) 11 (by omega)
 have c2 := cond1_c l [sR, sX, sT] wN hb (by simp) (by simp) 13 (by omega)
 have g2 := gen1_c l [sR, sX, sT] wN hb (by simp) (by simp) 15 (by omega)
 rw [cellM]
 obtain ⟨e1, h1⟩ : ∃ e, clockOf (byteL l 5) = e := ⟨_, rfl⟩
 obtain ⟨e2, h2⟩ : ∃ e, regI sR l 7 [sR, sX] wN = e := ⟨_, rfl⟩
 obtain ⟨e3, h3⟩ : ∃ e, gen l [sR] wN 1 9 = e := ⟨_, rfl⟩
 obtain ⟨e4, h4⟩ : ∃ e, cond l [sR, sT] wN 1 11 = e := ⟨_, rfl⟩
 obtain ⟨e5, h5⟩ : ∃ e, cond l [sR, sX, sT] wN 1 13 = e := ⟨_, rfl⟩
 obtain ⟨e6, h6⟩ : ∃ e, gen l [sR, sX, sT] wN 1 15 = e := ⟨_, rfl⟩
 rw [h1] at k1 ⊢
 rw [h2] at r1 ⊢
 rw [h3] at g1 ⊢
 rw [h4] at c1 ⊢
 rw [h5] at c2 ⊢
 rw [h6] at g2 ⊢
 clear h1 h2 h3 h4 h5 h6
 simp only [ZE,↓reduceIte,pE,pL,pA,pS,pM,pD, eAt, eCtx, List.map_cons, List.map_nil, sR, sX, sT, sW, wN, st, emp] at a1 k1 r1 g1 c1 c2 g2
 simp (maxSteps := 4000000) only [ZE,↓reduceIte,pE,pL,pA,pS,pM,pD, zN,qT,qG,qL,qH,qN,qB,qE,qO,qA,qM]
 refine ⟨by kernel_rfl, by kernel_rfl, ECall'.i a1 ?_⟩
 simp only [ZE,↓reduceIte,pE,pL,pA,pS,pM,pD, zN,qT,qG,qL,qH,qN,qB,qE,qO,qA,qM]
 refine ECall'.i k1 ?_
 simp only [ZE,↓reduceIte,pE,pL,pA,pS,pM,pD, zN,qT,qG,qL,qH,qN,qB,qE,qO,qA,qM]
 refine ECall'.i r1 ?_
 simp only [ZE,↓reduceIte,pE,pL,pA,pS,pM,pD, zN,qT,qG,qL,qH,qN,qB,qE,qO,qA,qM]
 refine ECall'.i g1 ?_
 simp only [ZE,↓reduceIte,pE,pL,pA,pS,pM,pD, zN,qT,qG,qL,qH,qN,qB,qE,qO,qA,qM]
 refine ECall'.i c1 ?_
 simp only [ZE,↓reduceIte,pE,pL,pA,pS,pM,pD, zN,qT,qG,qL,qH,qN,qB,qE,qO,qA,qM]
 refine ECall'.i c2 ?_
 simp only [ZE,↓reduceIte,pE,pL,pA,pS,pM,pD, zN,qT,qG,qL,qH,qN,qB,qE,qO,qA,qM]
 refine ECall'.i g2 ?_
 simp only [ZE,↓reduceIte,pE,pL,pA,pS,pM,pD, zN,qT,qG,qL,qH,qN,qB,qE,qO,qA,qM, portI, wireI, takeI, putI, zItem, zExpr, sCell, wN, sW, sX, sY, sT, st, op_mk, name_mk, k_mk, w_mk, args_mk, zNum, emp, Int.reduceEq, not_false_eq_true]
 trace_state
def ownHead (l : List Nat) (w : Num) (c0 : Str) : List Item := [regI sR l 2 [sR, sS, sT, c0] w, regI sS l 4 [sS, sR, c0] w, wireI sT w (gen l [sR, sS] w 1 6)]
def depthN (l : List Nat) : Num := ⟨if byteL l 1 % 2 = 0 then 2 else 4, emp⟩
def memI (l : List Nat) (w : Num) (c0 : Str) : Item := { zItem with kind := ⟨6, rfl⟩, name := sM, width := w, depth := depthN l, a := cond l [sR, sS, sT, c0] w 1 12, b := gen l [sR, sS, sT, c0] w 0 14, c := gen l [sR, sS, sT, c0] w 1 16, rule := ruleOf (byteL l 3) }
def ownMem (l : List Nat) (w : Num) (c0 : Str) : List Item := if byteL l 0 % 2 = 1 then [memI l w c0] else []
def ownData (l : List Nat) (w : Num) (c0 : Str) : Expr := if byteL l 0 % 2 = 1 then .mk 5 emp zNum zNum [gen l [sR, sS, sT, c0] w 1 8, .mk 15 sM zNum zNum [gen l [sR, sS] w 0 10]] else gen l [sR, sS, sT, c0] w 1 8
def ownTail (l : List Nat) (w : Num) (c0 c1 : Str) : List Item := [takeI c0 (cond l [sR, sS] w 1 18), putI c1 (cond l [sR, sS, sT, c0] w 1 20) (ownData l w c0)]
def ownL (l : List Nat) (w : Num) (c0 c1 : Str) : List Item := ownHead l w c0 ++ ownMem l w c0 ++ ownTail l w c0 c1
theorem own_c (l : List Nat) (w : Num) (c0 c1 : Str) (hb : ∀ b ∈ l, b < 256) : FnP Try.prog 26 [eBytes l, .agg (eNum w), ePair c0 c1] (.d (eItems (ownL l w c0 c1))) [] := by
 refine FnP.of_eC (own := []) (fun i => if i = 2001 then [.flt ⟨[(0, none), (1, none), (2, none), (3, none), (4, none), (5, none), (6, none), (7, none), (10, some [3, 4, 5, 6, 7]), (11, some [])]⟩ ⟨[8, 9], [(10, [8]), (11, [9])]⟩] else if i = 2002 then [.ord ⟨[(0, none), (1, none), (2, none), (3, none), (4, none), (5, none), (6, none), (7, none), (8, none), (9, none), (10, none), (11, none), (12, none), (13, none), (14, none), (15, none), (16, some []), (17, some [])]⟩] else if i = 2007 then [.ord ⟨[(0, none), (1, none), (2, none), (3, none), (4, none), (5, none), (6, none), (7, none), (8, none), (9, none), (10, none), (11, none), (12, none), (13, none), (14, none), (15, none), (16, none), (17, none), (18, none), (19, none), (20, none), (21, none), (22, none), (23, none), (24, some []), (25, some [])]⟩] else if i = 2008 then [.ord ⟨[(0, none), (1, none), (2, none), (3, none), (4, none), (5, none), (6, none), (7, none), (8, none), (9, none), (10, none), (11, none), (12, none), (13, none), (14, none), (15, some []), (16, some [])]⟩] else if i = 2005 then [.chn] else if i = 2006 then [.chn] else []) mixed Try.func26 rfl Try.call26 Try.ntmps26 (Nat.le_of_ble_eq_true rfl) Try.results26 (fun hok => ?_)
 have a0 := at_c l 0 hb (by omega)
 have a1 := at_c l 1 hb (by omega)
 have a3 := at_c l 3 hb (by omega)
 have r1 := reg_c sR l [sR, sS, sT, c0] w hb (by simp) (by simp) 2 (by omega)
 have r2 := reg_c sS l [sS, sR, c0] w hb (by simp) (by simp) 4 (by omega)
 have g6 := gen1_c l [sR, sS] w hb (by simp) (by simp) 6 (by omega)
 have g8 := gen1_c l [sR, sS, sT, c0] w hb (by simp) (by simp) 8 (by omega)
 have g10 := gen0_c l [sR, sS] w hb (by simp) (by simp) 10 (by omega)
 have c12 := cond1_c l [sR, sS, sT, c0] w hb (by simp) (by simp) 12 (by omega)
 have g14 := gen0_c l [sR, sS, sT, c0] w hb (by simp) (by simp) 14 (by omega)
 have g16 := gen1_c l [sR, sS, sT, c0] w hb (by simp) (by simp) 16 (by omega)
 have c18 := cond1_c l [sR, sS] w hb (by simp) (by simp) 18 (by omega)
 have c20 := cond1_c l [sR, sS, sT, c0] w hb (by simp) (by simp) 20 (by omega)
 have u3 := rule_c (byteL l 3) (byteL_lt hb _)
 rw [ownL, ownHead, ownTail, ownMem, ownData, memI, depthN]
 obtain ⟨x1, h1⟩ : ∃ e, regI sR l 2 [sR, sS, sT, c0] w = e := ⟨_, rfl⟩
 obtain ⟨x2, h2⟩ : ∃ e, regI sS l 4 [sS, sR, c0] w = e := ⟨_, rfl⟩
 obtain ⟨x3, h3⟩ : ∃ e, gen l [sR, sS] w 1 6 = e := ⟨_, rfl⟩
 obtain ⟨x4, h4⟩ : ∃ e, gen l [sR, sS, sT, c0] w 1 8 = e := ⟨_, rfl⟩
 obtain ⟨x5, h5⟩ : ∃ e, gen l [sR, sS] w 0 10 = e := ⟨_, rfl⟩
 obtain ⟨x6, h6⟩ : ∃ e, cond l [sR, sS, sT, c0] w 1 12 = e := ⟨_, rfl⟩
 obtain ⟨x7, h7⟩ : ∃ e, gen l [sR, sS, sT, c0] w 0 14 = e := ⟨_, rfl⟩
 obtain ⟨x8, h8⟩ : ∃ e, gen l [sR, sS, sT, c0] w 1 16 = e := ⟨_, rfl⟩
 obtain ⟨x9, h9⟩ : ∃ e, cond l [sR, sS] w 1 18 = e := ⟨_, rfl⟩
 obtain ⟨x10, h10⟩ : ∃ e, cond l [sR, sS, sT, c0] w 1 20 = e := ⟨_, rfl⟩
 obtain ⟨x11, h11⟩ : ∃ e, ruleOf (byteL l 3) = e := ⟨_, rfl⟩
 rw [h1] at r1 ⊢
 rw [h2] at r2 ⊢
 rw [h3] at g6 ⊢
 rw [h4] at g8 ⊢
 rw [h5] at g10 ⊢
 rw [h6] at c12 ⊢
 rw [h7] at g14 ⊢
 rw [h8] at g16 ⊢
 rw [h9] at c18 ⊢
 rw [h10] at c20 ⊢
 rw [h11] at u3 ⊢
 have hm : (byteL l 0 : Int).tmod 2 = ((byteL l 0 % 2 : Nat) : Int) := (Int.ofNat_tmod _ 2).symm
 have hm1 : (byteL l 1 : Int).tmod 2 = ((byteL l 1 % 2 : Nat) : Int) := (Int.ofNat_tmod _ 2).symm
 clear h1 h2 h3 h4 h5 h6 h7 h8 h9 h10 h11
 simp only [ZE,↓reduceIte,pE,pL,pA,pS,pM,pD, eAt, eCtx, ePair, List.map_cons, List.map_nil, sR, sS, sT, st, emp] at a0 a1 a3 r1 r2 g6 g8 g10 c12 g14 g16 c18 c20 u3
 by_cases hodd : byteL l 0 % 2 = 1
 ·have ho : (((byteL l 0 % 2 : Nat) : Int) == 1) = true := by simp [hodd]
  rw [if_pos hodd, if_pos hodd]
  simp (maxSteps := 4000000) only [ZE,↓reduceIte,pE,pL,pA,pS,pM,pD, zN,qT,qG,qL,qH,qN,qB,qE,qO,qA,qM, ePair]
  refine ⟨by kernel_rfl, by kernel_rfl, ECall'.i r1 ?_⟩
  simp only [ZE,↓reduceIte,pE,pL,pA,pS,pM,pD, zN,qT,qG,qL,qH,qN,qB,qE,qO,qA,qM]
  refine ECall'.i r2 ?_
  simp only [ZE,↓reduceIte,pE,pL,pA,pS,pM,pD, zN,qT,qG,qL,qH,qN,qB,qE,qO,qA,qM]
  refine ECall'.i g6 ?_
  simp only [ZE,↓reduceIte,pE,pL,pA,pS,pM,pD, zN,qT,qG,qL,qH,qN,qB,qE,qO,qA,qM]
  refine EFn.p ?_
  simp only [ZE,↓reduceIte,pE,pL,pA,pS,pM,pD, zN,qT,qG,qL,qH,qN,qB,qE,qO,qA,qM]
  refine ECall.i g8 ?_
  simp only [ZE,↓reduceIte,pE,pL,pA,pS,pM,pD, zN,qT,qG,qL,qH,qN,qB,qE,qO,qA,qM]
  refine EFn.p ?_
  simp only [ZE,↓reduceIte,pE,pL,pA,pS,pM,pD, zN,qT,qG,qL,qH,qN,qB,qE,qO,qA,qM]
  refine ECall.i a0 ?_
  simp only [ZE,↓reduceIte,pE,pL,pA,pS,pM,pD, zN,qT,qG,qL,qH,qN,qB,qE,qO,qA,qM, hm, ho, Int.reduceEq, not_false_eq_true]
  refine EFn.p ?_
  simp only [ZE,↓reduceIte,pE,pL,pA,pS,pM,pD, zN,qT,qG,qL,qH,qN,qB,qE,qO,qA,qM]
  refine ECall.i g10 ?_
  simp only [ZE,↓reduceIte,pE,pL,pA,pS,pM,pD, zN,qT,qG,qL,qH,qN,qB,qE,qO,qA,qM, Int.reduceEq, not_false_eq_true]
  refine ⟨by kernel_rfl, ECall'.i a1 ?_⟩
  by_cases hd : byteL l 1 % 2 = 0
  ·have hm2 : (byteL l 1 : Int).tmod 2 = 0 := by rw [hm1, hd]; rfl
   have hw1 : IntKind.u64.wrap 0 = 0 := by decide
   have hw2 : IntKind.i64.wrap (2 * 2 ^ (min 0 IntKind.i64.bits)) = 2 := by decide
   rw [if_pos hd]
   simp only [ZE,↓reduceIte,pE,pL,pA,pS,pM,pD, zN,qT,qG,qL,qH,qN,qB,qE,qO,qA,qM, Int.reduceEq, not_false_eq_true, hm2, hw1, hw2]
   refine ECall'.i c12 ?_
   simp only [ZE,↓reduceIte,pE,pL,pA,pS,pM,pD, zN,qT,qG,qL,qH,qN,qB,qE,qO,qA,qM]
   refine ECall'.i g14 ?_
   simp only [ZE,↓reduceIte,pE,pL,pA,pS,pM,pD, zN,qT,qG,qL,qH,qN,qB,qE,qO,qA,qM]
   refine ECall'.i g16 ?_
   simp only [ZE,↓reduceIte,pE,pL,pA,pS,pM,pD, zN,qT,qG,qL,qH,qN,qB,qE,qO,qA,qM]
   refine ECall'.i a3 ?_
   simp only [ZE,↓reduceIte,pE,pL,pA,pS,pM,pD, zN,qT,qG,qL,qH,qN,qB,qE,qO,qA,qM]
   refine ECall'.i u3 ?_
   simp only [ZE,↓reduceIte,pE,pL,pA,pS,pM,pD, zN,qT,qG,qL,qH,qN,qB,qE,qO,qA,qM]
   refine ⟨by kernel_rfl, ECall'.i c18 ?_⟩
   simp only [ZE,↓reduceIte,pE,pL,pA,pS,pM,pD, zN,qT,qG,qL,qH,qN,qB,qE,qO,qA,qM]
   refine ECall'.i c20 ?_
   simp only [ZE,↓reduceIte,pE,pL,pA,pS,pM,pD, zN,qT,qG,qL,qH,qN,qB,qE,qO,qA,qM, wireI, takeI, putI, zItem, zExpr, sM, sT, st, op_mk, name_mk, k_mk, w_mk, args_mk, zNum, emp, Int.reduceEq, not_false_eq_true]
  ·have hm2 : (byteL l 1 : Int).tmod 2 = 1 := by rw [hm1]; omega
   have hw1 : IntKind.u64.wrap 1 = 1 := by decide
   have hw2 : IntKind.i64.wrap (2 * 2 ^ (min 1 IntKind.i64.bits)) = 4 := by decide
   rw [if_neg hd]
   simp only [ZE,↓reduceIte,pE,pL,pA,pS,pM,pD, zN,qT,qG,qL,qH,qN,qB,qE,qO,qA,qM, Int.reduceEq, not_false_eq_true, hm2, hw1, hw2]
   refine ECall'.i c12 ?_
   simp only [ZE,↓reduceIte,pE,pL,pA,pS,pM,pD, zN,qT,qG,qL,qH,qN,qB,qE,qO,qA,qM]
   refine ECall'.i g14 ?_
   simp only [ZE,↓reduceIte,pE,pL,pA,pS,pM,pD, zN,qT,qG,qL,qH,qN,qB,qE,qO,qA,qM]
   refine ECall'.i g16 ?_
   simp only [ZE,↓reduceIte,pE,pL,pA,pS,pM,pD, zN,qT,qG,qL,qH,qN,qB,qE,qO,qA,qM]
   refine ECall'.i a3 ?_
   simp only [ZE,↓reduceIte,pE,pL,pA,pS,pM,pD, zN,qT,qG,qL,qH,qN,qB,qE,qO,qA,qM]
   refine ECall'.i u3 ?_
   simp only [ZE,↓reduceIte,pE,pL,pA,pS,pM,pD, zN,qT,qG,qL,qH,qN,qB,qE,qO,qA,qM]
   refine ⟨by kernel_rfl, ECall'.i c18 ?_⟩
   simp only [ZE,↓reduceIte,pE,pL,pA,pS,pM,pD, zN,qT,qG,qL,qH,qN,qB,qE,qO,qA,qM]
   refine ECall'.i c20 ?_
   simp only [ZE,↓reduceIte,pE,pL,pA,pS,pM,pD, zN,qT,qG,qL,qH,qN,qB,qE,qO,qA,qM, wireI, takeI, putI, zItem, zExpr, sM, sT, st, op_mk, name_mk, k_mk, w_mk, args_mk, zNum, emp, Int.reduceEq, not_false_eq_true]
 ·have ho : (((byteL l 0 % 2 : Nat) : Int) == 1) = false := by
   have : byteL l 0 % 2 = 0 := by omega
   rw [this]; rfl
  rw [if_neg hodd, if_neg hodd]
  simp (maxSteps := 4000000) only [ZE,↓reduceIte,pE,pL,pA,pS,pM,pD, zN,qT,qG,qL,qH,qN,qB,qE,qO,qA,qM, ePair]
  refine ⟨by kernel_rfl, by kernel_rfl, ECall'.i r1 ?_⟩
  simp only [ZE,↓reduceIte,pE,pL,pA,pS,pM,pD, zN,qT,qG,qL,qH,qN,qB,qE,qO,qA,qM]
  refine ECall'.i r2 ?_
  simp only [ZE,↓reduceIte,pE,pL,pA,pS,pM,pD, zN,qT,qG,qL,qH,qN,qB,qE,qO,qA,qM]
  refine ECall'.i g6 ?_
  simp only [ZE,↓reduceIte,pE,pL,pA,pS,pM,pD, zN,qT,qG,qL,qH,qN,qB,qE,qO,qA,qM]
  refine EFn.p ?_
  simp only [ZE,↓reduceIte,pE,pL,pA,pS,pM,pD, zN,qT,qG,qL,qH,qN,qB,qE,qO,qA,qM]
  refine ECall.i g8 ?_
  simp only [ZE,↓reduceIte,pE,pL,pA,pS,pM,pD, zN,qT,qG,qL,qH,qN,qB,qE,qO,qA,qM]
  refine EFn.p ?_
  simp only [ZE,↓reduceIte,pE,pL,pA,pS,pM,pD, zN,qT,qG,qL,qH,qN,qB,qE,qO,qA,qM]
  refine ECall.i a0 ?_
  simp only [ZE,↓reduceIte,pE,pL,pA,pS,pM,pD, zN,qT,qG,qL,qH,qN,qB,qE,qO,qA,qM, hm, ho, Int.reduceEq, not_false_eq_true]
  refine ⟨by kernel_rfl, ECall'.i c18 ?_⟩
  simp only [ZE,↓reduceIte,pE,pL,pA,pS,pM,pD, zN,qT,qG,qL,qH,qN,qB,qE,qO,qA,qM]
  refine ECall'.i c20 ?_
  simp only [ZE,↓reduceIte,pE,pL,pA,pS,pM,pD, zN,qT,qG,qL,qH,qN,qB,qE,qO,qA,qM, wireI, takeI, putI, zItem, zExpr, sM, sT, st, op_mk, name_mk, k_mk, w_mk, args_mk, zNum, emp, Int.reduceEq, not_false_eq_true]
end Go.Proofs.Ytejpmjnefokdoaa

namespace Go.Proofs.Ytejpmjnefokdoaa
open Go.Aw
open Nat renaming reduceEqDiff → pE, reduceLT → pL, reduceAdd → pA, reduceSub → pS, reduceMul → pM, reduceLeDiff → pD
open Int renaming reduceToNat → qT, reduceGT → qG, reduceLT → qL, reduceGE → qH, reduceBNe → qN, reduceBEq → qB, reduceLE → qE, reduceNe → qO, reduceAdd → qA, reduceNeg → qM
set_option maxRecDepth 100000
set_option maxHeartbeats 20000000
structure Raw where
 kind : Nat
 w : Nat
 l : List Nat
def Raw.ok (x : Raw) : Prop := x.kind < 256 ∧ x.w < 256 ∧ ∀ b ∈ x.l, b < 256
def eRaw (x : Raw) : D := .agg [eU8 x.kind, eU8 x.w, eBytes x.l]
def rawW (x : Raw) : Num := ⟨(1 + x.w % 4 : Nat), emp⟩
def rawC (x : Raw) : Num := ⟨(1 + x.w / 4 % 4 : Nat), emp⟩
def chanI (name : Str) (w d : Num) : Item := { zItem with kind := ⟨3, rfl⟩, name := name, width := w, depth := d }
def inA (x : Raw) : Item := portI ⟨1, rfl⟩ sA (rawW x)
def outB (x : Raw) : Item := portI ⟨2, rfl⟩ sB (rawW x)
def chC (x : Raw) : Item := chanI sC (rawW x) (rawC x)
def chD (x : Raw) : Item := chanI sD (rawW x) ⟨2, emp⟩
def topItems (x : Raw) : List Item :=
 if x.kind % 4 = 0 then [inA x, outB x] ++ ownL x.l (rawW x) sA sB
 else if x.kind % 4 = 1 then [inA x, outB x, chC x, instI sU (rawW x) sA sC, instI sVV (rawW x) sC sB]
 else if x.kind % 4 = 2 then [inA x, outB x, chC x, instI sU (rawW x) sA sC] ++ ownL x.l (rawW x) sC sB
 else [outB x, chC x, chD x, instI sU (rawW x) sC sD] ++ ownL x.l (rawW x) sD sC ++ [putI sB (cond x.l [sR, sS] (rawW x) 1 22) (gen x.l [sR, sS] (rawW x) 1 24)]
def topM (x : Raw) : Module := ⟨sTop, clockOf (1 + x.w / 16), [], topItems x⟩
def made (x : Raw) : List Module := if x.kind % 4 = 0 then [topM x] else if x.kind / 4 % 2 = 1 then [topM x, cellM x.l] else [cellM x.l, topM x]
theorem ownL_len (l : List Nat) (w : Num) (c0 c1 : Str) : (ownL l w c0 c1).length ≤ 10 := by
 simp only [ownL, ownHead, ownTail, ownMem, List.length_append, List.length_cons, List.length_nil]
 split <;> simp
theorem rowsOk_items (l : List Item) : rowsOk 35 (l.map eItem) := by
 intro y hy
 obtain ⟨q, _, rfl⟩ := List.mem_map.1 hy
 simp [eItem, eNum, eExpr_eq, eRule, eI, eS, eNums, eBinds, D.one, Value.oneCell']
theorem u8_id {n : Nat} (h : n < 256) : IntKind.u8.wrap (n : Int) = (n : Int) := by
 have hb : IntKind.u8.bits = 8 := rfl
 have hs : IntKind.u8.signed = false := rfl
 simp only [IntKind.wrap, hb, hs, Bool.false_and, Bool.false_eq_true, if_false]
 omega
theorem made_c (x : Raw) (hx : x.ok) : FnP Try.prog 9 [eRaw x] (.d (.agg [eModules (made x)])) [] := by
 obtain ⟨hk, hw, hb⟩ := hx
 refine FnP.of_eC (own := []) (fun i => if i = 11 then [.frz 80] else if i = 16 then [.frz 112] else if i = 9 then [.frz 53] else if i = 2004 then [.flt ⟨[(0, none), (1, none), (2, none), (3, none), (6, some [2, 3]), (7, some [])]⟩ ⟨[4, 5], [(6, [4]), (7, [5])]⟩] else if i = 2005 then [.flt ⟨[(0, none), (1, none), (2, none), (3, none), (4, none), (5, none), (8, some [3, 4, 5]), (9, some [])]⟩ ⟨[6, 7], [(8, [6]), (9, [7])]⟩] else if i = 2011 then [.ord ⟨[(0, none), (1, none), (3, none), (4, none), (5, none), (6, none), (7, none), (2, some [3, 4, 5, 6, 7]), (8, some []), (9, some []), (10, some [])]⟩] else if i = 2014 then [.ord ⟨[(0, none), (1, none), (2, none), (3, none), (4, none), (5, none), (6, none), (7, none), (8, none), (9, none), (10, some []), (11, some [])]⟩] else if i = 2016 then [.ord ⟨[(0, none), (1, none), (2, none), (3, none), (4, none), (5, none), (7, none), (8, none), (9, none), (10, none), (11, none), (6, some [7, 8, 9, 10, 11]), (12, some []), (13, some []), (14, some [])]⟩] else if i = 2008 then [.ord ⟨[(0, none), (1, none), (2, none), (3, none), (4, none), (5, none), (7, none), (8, none), (9, none), (10, none), (11, none), (6, some [7, 8, 9, 10, 11]), (12, some []), (13, some []), (14, some [])]⟩] else if i = 2009 then [.ord ⟨[(0, none), (1, none), (2, none), (3, none), (4, none), (5, none), (6, none), (7, none), (8, none), (9, none), (10, none), (11, none), (12, none), (13, some []), (14, some []), (15, some [])]⟩] else if i = 2018 then [.ord ⟨[(0, none), (1, none), (2, none), (3, none), (4, none), (5, none), (6, some [])]⟩] else if i = 2019 then [.ord ⟨[(0, none), (1, none), (2, none), (3, none), (4, none), (5, none), (6, some [])]⟩] else if i = 2012 then [.chn] else if i = 2007 then [.chn] else []) mixed Try.func9 rfl Try.call9 Try.ntmps9 (Nat.le_of_ble_eq_true rfl) Try.results9 (fun hok => ?_)
 have w4 : (x.w : Int).tmod 4 = ((x.w % 4 : Nat) : Int) := (Int.ofNat_tmod _ 4).symm
 have w44 : (x.w : Int).tdiv 4 = ((x.w / 4 : Nat) : Int) := (Int.ofNat_tdiv _ 4).symm
 have w444 : ((x.w / 4 : Nat) : Int).tmod 4 = ((x.w / 4 % 4 : Nat) : Int) := (Int.ofNat_tmod _ 4).symm
 have w16 : (x.w : Int).tdiv 16 = ((x.w / 16 : Nat) : Int) := (Int.ofNat_tdiv _ 16).symm
 have k4 : (x.kind : Int).tmod 4 = ((x.kind % 4 : Nat) : Int) := (Int.ofNat_tmod _ 4).symm
 have kd : (x.kind : Int).tdiv 4 = ((x.kind / 4 : Nat) : Int) := (Int.ofNat_tdiv _ 4).symm
 have kd2 : ((x.kind / 4 : Nat) : Int).tmod 2 = ((x.kind / 4 % 2 : Nat) : Int) := (Int.ofNat_tmod _ 2).symm
 have v1 : IntKind.i64.wrap ((x.w % 4 : Nat) : Int) = ((x.w % 4 : Nat) : Int) := wrap_id (by omega) (by omega)
 have v2 : IntKind.i64.wrap (1 + ((x.w % 4 : Nat) : Int)) = ((1 + x.w % 4 : Nat) : Int) := wrap_id (by omega) (by omega)
 have v3 : IntKind.i64.wrap ((x.w / 4 % 4 : Nat) : Int) = ((x.w / 4 % 4 : Nat) : Int) := wrap_id (by omega) (by omega)
 have v4 : IntKind.i64.wrap (1 + ((x.w / 4 % 4 : Nat) : Int)) = ((1 + x.w / 4 % 4 : Nat) : Int) := wrap_id (by omega) (by omega)
 have v5 : IntKind.i64.wrap ((x.w / 16 : Nat) : Int) = ((x.w / 16 : Nat) : Int) := wrap_id (by omega) (by omega)
 have v6 : IntKind.i64.wrap (1 + ((x.w / 16 : Nat) : Int)) = ((1 + x.w / 16 : Nat) : Int) := wrap_id (by omega) (by omega)
 have u1 : IntKind.u8.wrap ((x.w / 4 : Nat) : Int) = ((x.w / 4 : Nat) : Int) := u8_id (by omega)
 have u2 : IntKind.u8.wrap ((x.w / 16 : Nat) : Int) = ((x.w / 16 : Nat) : Int) := u8_id (by omega)
 have u3 : IntKind.u8.wrap ((x.kind / 4 : Nat) : Int) = ((x.kind / 4 : Nat) : Int) := u8_id (by omega)
 have kc := clock_c (1 + x.w / 16)
 simp only [ZE,↓reduceIte,pE,pL,pA,pS,pM,pD] at kc
 have o0 := own_c x.l (rawW x) sA sB hb
 have o2 := own_c x.l (rawW x) sC sB hb
 have o3 := own_c x.l (rawW x) sD sC hb
 have l0 := ownL_len x.l (rawW x) sA sB
 have l2 := ownL_len x.l (rawW x) sC sB
 have l3 := ownL_len x.l (rawW x) sD sC
 obtain ⟨O0, q0⟩ : ∃ L, ownL x.l (rawW x) sA sB = L := ⟨_, rfl⟩
 obtain ⟨O2, q2⟩ : ∃ L, ownL x.l (rawW x) sC sB = L := ⟨_, rfl⟩
 obtain ⟨O3, q3⟩ : ∃ L, ownL x.l (rawW x) sD sC = L := ⟨_, rfl⟩
 rw [q0] at o0 l0
 rw [q2] at o2 l2
 rw [q3] at o3 l3
 have i1 := inst_c sU (rawW x) sA sC
 have i2 := inst_c sVV (rawW x) sC sB
 have i3 := inst_c sU (rawW x) sC sD
 have c22 := cond1_c x.l [sR, sS] (rawW x) hb (by simp) (by simp) 22 (by omega)
 have g24 := gen1_c x.l [sR, sS] (rawW x) hb (by simp) (by simp) 24 (by omega)
 have cm := cell_c x.l hb
 obtain ⟨y22, h22⟩ : ∃ e, cond x.l [sR, sS] (rawW x) 1 22 = e := ⟨_, rfl⟩
 obtain ⟨y24, h24⟩ : ∃ e, gen x.l [sR, sS] (rawW x) 1 24 = e := ⟨_, rfl⟩
 rw [h22] at c22
 rw [h24] at g24
 simp only [ZE,↓reduceIte,pE,pL,pA,pS,pM,pD, ePair, eAt, eCtx, List.map_cons, List.map_nil, rawW, sA, sB, sC, sD, sU, sVV, sR, sS, st, emp] at o0 o2 o3 i1 i2 i3 c22 g24 cm
 by_cases b0 : x.kind % 4 = 0
 ·have h0 : (((x.kind % 4 : Nat) : Int) == 0) = true := by simp [b0]
  rw [made, if_pos b0, topM, topItems, if_pos b0, q0]
  simp (maxSteps := 4000000) only [ZE,↓reduceIte,pE,pL,pA,pS,pM,pD, eRaw, zN,qT,qG,qL,qH,qN,qB,qE,qO,qA,qM, Int.reduceEq, not_false_eq_true, w4, w44, w444, w16, v1, v2, v3, v4, v5, v6, u1, u2, u3, k4, kd, kd2]
  refine EFn.p ?_
  simp only [ZE,↓reduceIte,pE,pL,pA,pS,pM,pD, zN,qT,qG,qL,qH,qN,qB,qE,qO,qA,qM]
  refine ECall.i kc ?_
  simp only [ZE,↓reduceIte,pE,pL,pA,pS,pM,pD, zN,qT,qG,qL,qH,qN,qB,qE,qO,qA,qM, Int.reduceEq, not_false_eq_true, w4, w44, w444, w16, v1, v2, v3, v4, v5, v6, u1, u2, u3, k4, kd, kd2, h0]
  refine ⟨by kernel_rfl, by kernel_rfl, by kernel_rfl, ECall'.i o0 ?_⟩
  simp only [ZE,↓reduceIte,pE,pL,pA,pS,pM,pD, zN,qT,qG,qL,qH,qN,qB,qE,qO,qA,qM]
  refine ⟨ECall'.i o0 ?_, ?_⟩
  ·simp only [ZE,↓reduceIte,pE,pL,pA,pS,pM,pD]
  have ro := rowsOk_items O0
  have e2 : 2 + O0.length = O0.length + 1 + 1 := by omega
  simp only [ZE,↓reduceIte,pE,pL,pA,pS,pM,pD, zN,qT,qG,qL,qH,qN,qB,qE,qO,qA,qM, e2, topM, rawW, rawC, inA, outB, chC, chD, portI, chanI, instI, putI, zItem, zExpr, sA, sB, sC, sD, sU, sVV, sX, sY, sCell, sTop, st, op_mk, name_mk, k_mk, w_mk, args_mk, zNum, emp, Int.reduceEq, not_false_eq_true]
  exact ⟨ro, by omega, by omega⟩
 have h0 : (((x.kind % 4 : Nat) : Int) == 0) = false := by simp; omega
 by_cases b9 : x.kind / 4 % 2 = 1
 ·have h9 : (((x.kind / 4 % 2 : Nat) : Int) == 1) = true := by simp [b9]
  rw [made, if_neg b0, if_pos b9, topM, topItems, if_neg b0]
  by_cases b1 : x.kind % 4 = 1
  ·have h1 : (((x.kind % 4 : Nat) : Int) == 1) = true := by simp [b1]
   rw [if_pos b1]
   simp (maxSteps := 4000000) only [ZE,↓reduceIte,pE,pL,pA,pS,pM,pD, eRaw, zN,qT,qG,qL,qH,qN,qB,qE,qO,qA,qM, Int.reduceEq, not_false_eq_true, w4, w44, w444, w16, v1, v2, v3, v4, v5, v6, u1, u2, u3, k4, kd, kd2]
   refine EFn.p ?_
   simp only [ZE,↓reduceIte,pE,pL,pA,pS,pM,pD, zN,qT,qG,qL,qH,qN,qB,qE,qO,qA,qM]
   refine ECall.i kc ?_
   simp only [ZE,↓reduceIte,pE,pL,pA,pS,pM,pD, zN,qT,qG,qL,qH,qN,qB,qE,qO,qA,qM, Int.reduceEq, not_false_eq_true, w4, w44, w444, w16, v1, v2, v3, v4, v5, v6, u1, u2, u3, k4, kd, kd2, h0, h1, h9]
   refine ⟨by kernel_rfl, by kernel_rfl, by kernel_rfl, ECall'.i i1 ?_⟩
   simp only [ZE,↓reduceIte,pE,pL,pA,pS,pM,pD, zN,qT,qG,qL,qH,qN,qB,qE,qO,qA,qM]
   refine ECall'.i i2 ?_
   simp only [ZE,↓reduceIte,pE,pL,pA,pS,pM,pD, zN,qT,qG,qL,qH,qN,qB,qE,qO,qA,qM, w4, w44, w444, w16, v1, v2, v3, v4, v5, v6, u1, u2, u3, k4, kd, kd2, h9, Int.reduceEq, not_false_eq_true]
   refine ⟨by kernel_rfl, ECall'.i cm ?_⟩
   simp only [ZE,↓reduceIte,pE,pL,pA,pS,pM,pD, zN,qT,qG,qL,qH,qN,qB,qE,qO,qA,qM, topM, rawW, rawC, inA, outB, chC, chD, portI, chanI, instI, putI, zItem, zExpr, sA, sB, sC, sD, sU, sVV, sX, sY, sCell, sTop, st, op_mk, name_mk, k_mk, w_mk, args_mk, zNum, emp, Int.reduceEq, not_false_eq_true]
  have h1 : (((x.kind % 4 : Nat) : Int) == 1) = false := by simp; omega
  rw [if_neg b1]
  by_cases b2 : x.kind % 4 = 2
  ·have h2 : (((x.kind % 4 : Nat) : Int) == 2) = true := by simp [b2]
   rw [if_pos b2, q2]
   simp (maxSteps := 4000000) only [ZE,↓reduceIte,pE,pL,pA,pS,pM,pD, eRaw, zN,qT,qG,qL,qH,qN,qB,qE,qO,qA,qM, Int.reduceEq, not_false_eq_true, w4, w44, w444, w16, v1, v2, v3, v4, v5, v6, u1, u2, u3, k4, kd, kd2]
   refine EFn.p ?_
   simp only [ZE,↓reduceIte,pE,pL,pA,pS,pM,pD, zN,qT,qG,qL,qH,qN,qB,qE,qO,qA,qM]
   refine ECall.i kc ?_
   simp only [ZE,↓reduceIte,pE,pL,pA,pS,pM,pD, zN,qT,qG,qL,qH,qN,qB,qE,qO,qA,qM, Int.reduceEq, not_false_eq_true, w4, w44, w444, w16, v1, v2, v3, v4, v5, v6, u1, u2, u3, k4, kd, kd2, h0, h1, h2, h9]
   refine ⟨by kernel_rfl, by kernel_rfl, by kernel_rfl, ECall'.i i1 ?_⟩
   simp only [ZE,↓reduceIte,pE,pL,pA,pS,pM,pD, zN,qT,qG,qL,qH,qN,qB,qE,qO,qA,qM]
   refine ECall'.i o2 ?_
   simp only [ZE,↓reduceIte,pE,pL,pA,pS,pM,pD, zN,qT,qG,qL,qH,qN,qB,qE,qO,qA,qM]
   refine ⟨ECall'.i o2 ?_, ?_⟩
   ·simp only [ZE,↓reduceIte,pE,pL,pA,pS,pM,pD]
   have ro := rowsOk_items O2
   have e4 : 4 + O2.length = O2.length + 1 + 1 + 1 + 1 := by omega
   try simp only [ZE,↓reduceIte,pE,pL,pA,pS,pM,pD, zN,qT,qG,qL,qH,qN,qB,qE,qO,qA,qM, w4, w44, w444, w16, v1, v2, v3, v4, v5, v6, u1, u2, u3, k4, kd, kd2, h9, e4, Int.reduceEq, not_false_eq_true]
   refine ⟨⟨ro, by omega, by omega⟩, by kernel_rfl, ECall'.i cm ?_⟩
   simp only [ZE,↓reduceIte,pE,pL,pA,pS,pM,pD, zN,qT,qG,qL,qH,qN,qB,qE,qO,qA,qM, topM, rawW, rawC, inA, outB, chC, chD, portI, chanI, instI, putI, zItem, zExpr, sA, sB, sC, sD, sU, sVV, sX, sY, sCell, sTop, st, op_mk, name_mk, k_mk, w_mk, args_mk, zNum, emp, Int.reduceEq, not_false_eq_true]
  have h2 : (((x.kind % 4 : Nat) : Int) == 2) = false := by simp; omega
  rw [if_neg b2, q3, h22, h24]
  simp (maxSteps := 4000000) only [ZE,↓reduceIte,pE,pL,pA,pS,pM,pD, eRaw, zN,qT,qG,qL,qH,qN,qB,qE,qO,qA,qM, Int.reduceEq, not_false_eq_true, w4, w44, w444, w16, v1, v2, v3, v4, v5, v6, u1, u2, u3, k4, kd, kd2]
  refine EFn.p ?_
  simp only [ZE,↓reduceIte,pE,pL,pA,pS,pM,pD, zN,qT,qG,qL,qH,qN,qB,qE,qO,qA,qM]
  refine ECall.i kc ?_
  simp only [ZE,↓reduceIte,pE,pL,pA,pS,pM,pD, zN,qT,qG,qL,qH,qN,qB,qE,qO,qA,qM, Int.reduceEq, not_false_eq_true, w4, w44, w444, w16, v1, v2, v3, v4, v5, v6, u1, u2, u3, k4, kd, kd2, h0, h1, h2, h9]
  refine ⟨by kernel_rfl, by kernel_rfl, by kernel_rfl, ECall'.i i3 ?_⟩
  simp only [ZE,↓reduceIte,pE,pL,pA,pS,pM,pD, zN,qT,qG,qL,qH,qN,qB,qE,qO,qA,qM]
  refine ECall'.i o3 ?_
  simp only [ZE,↓reduceIte,pE,pL,pA,pS,pM,pD, zN,qT,qG,qL,qH,qN,qB,qE,qO,qA,qM]
  refine ⟨ECall'.i o3 ?_, ?_⟩
  ·simp only [ZE,↓reduceIte,pE,pL,pA,pS,pM,pD]
  have ro := rowsOk_items O3
  have e4 : 4 + O3.length = O3.length + 1 + 1 + 1 + 1 := by omega
  try simp only [ZE,↓reduceIte,pE,pL,pA,pS,pM,pD, zN,qT,qG,qL,qH,qN,qB,qE,qO,qA,qM, e4]
  refine ⟨⟨ro, by omega, by omega⟩, by kernel_rfl, ECall'.i c22 ?_⟩
  simp only [ZE,↓reduceIte,pE,pL,pA,pS,pM,pD, zN,qT,qG,qL,qH,qN,qB,qE,qO,qA,qM, e4]
  refine ECall'.i g24 ?_
  simp only [ZE,↓reduceIte,pE,pL,pA,pS,pM,pD, zN,qT,qG,qL,qH,qN,qB,qE,qO,qA,qM, w4, w44, w444, w16, v1, v2, v3, v4, v5, v6, u1, u2, u3, k4, kd, kd2, h9, e4, Int.reduceEq, not_false_eq_true, List.length_append]
  refine ⟨⟨by omega, by omega⟩, by kernel_rfl, ECall'.i cm ?_⟩
  simp only [ZE,↓reduceIte,pE,pL,pA,pS,pM,pD, zN,qT,qG,qL,qH,qN,qB,qE,qO,qA,qM, List.map_append, topM, rawW, rawC, inA, outB, chC, chD, portI, chanI, instI, putI, zItem, zExpr, sA, sB, sC, sD, sU, sVV, sX, sY, sCell, sTop, st, op_mk, name_mk, k_mk, w_mk, args_mk, zNum, emp, Int.reduceEq, not_false_eq_true]
 ·have h9 : (((x.kind / 4 % 2 : Nat) : Int) == 1) = false := by simp; omega
  rw [made, if_neg b0, if_neg b9, topM, topItems, if_neg b0]
  by_cases b1 : x.kind % 4 = 1
  ·have h1 : (((x.kind % 4 : Nat) : Int) == 1) = true := by simp [b1]
   rw [if_pos b1]
   simp (maxSteps := 4000000) only [ZE,↓reduceIte,pE,pL,pA,pS,pM,pD, eRaw, zN,qT,qG,qL,qH,qN,qB,qE,qO,qA,qM, Int.reduceEq, not_false_eq_true, w4, w44, w444, w16, v1, v2, v3, v4, v5, v6, u1, u2, u3, k4, kd, kd2]
   refine EFn.p ?_
   simp only [ZE,↓reduceIte,pE,pL,pA,pS,pM,pD, zN,qT,qG,qL,qH,qN,qB,qE,qO,qA,qM]
   refine ECall.i kc ?_
   simp only [ZE,↓reduceIte,pE,pL,pA,pS,pM,pD, zN,qT,qG,qL,qH,qN,qB,qE,qO,qA,qM, Int.reduceEq, not_false_eq_true, w4, w44, w444, w16, v1, v2, v3, v4, v5, v6, u1, u2, u3, k4, kd, kd2, h0, h1, h9]
   refine ⟨by kernel_rfl, by kernel_rfl, by kernel_rfl, ECall'.i i1 ?_⟩
   simp only [ZE,↓reduceIte,pE,pL,pA,pS,pM,pD, zN,qT,qG,qL,qH,qN,qB,qE,qO,qA,qM]
   refine ECall'.i i2 ?_
   simp only [ZE,↓reduceIte,pE,pL,pA,pS,pM,pD, zN,qT,qG,qL,qH,qN,qB,qE,qO,qA,qM, w4, w44, w444, w16, v1, v2, v3, v4, v5, v6, u1, u2, u3, k4, kd, kd2, h9, Int.reduceEq, not_false_eq_true]
   refine ⟨by kernel_rfl, ECall'.i cm ?_⟩
   simp only [ZE,↓reduceIte,pE,pL,pA,pS,pM,pD, zN,qT,qG,qL,qH,qN,qB,qE,qO,qA,qM, topM, rawW, rawC, inA, outB, chC, chD, portI, chanI, instI, putI, zItem, zExpr, sA, sB, sC, sD, sU, sVV, sX, sY, sCell, sTop, st, op_mk, name_mk, k_mk, w_mk, args_mk, zNum, emp, Int.reduceEq, not_false_eq_true]
  have h1 : (((x.kind % 4 : Nat) : Int) == 1) = false := by simp; omega
  rw [if_neg b1]
  by_cases b2 : x.kind % 4 = 2
  ·have h2 : (((x.kind % 4 : Nat) : Int) == 2) = true := by simp [b2]
   rw [if_pos b2, q2]
   simp (maxSteps := 4000000) only [ZE,↓reduceIte,pE,pL,pA,pS,pM,pD, eRaw, zN,qT,qG,qL,qH,qN,qB,qE,qO,qA,qM, Int.reduceEq, not_false_eq_true, w4, w44, w444, w16, v1, v2, v3, v4, v5, v6, u1, u2, u3, k4, kd, kd2]
   refine EFn.p ?_
   simp only [ZE,↓reduceIte,pE,pL,pA,pS,pM,pD, zN,qT,qG,qL,qH,qN,qB,qE,qO,qA,qM]
   refine ECall.i kc ?_
   simp only [ZE,↓reduceIte,pE,pL,pA,pS,pM,pD, zN,qT,qG,qL,qH,qN,qB,qE,qO,qA,qM, Int.reduceEq, not_false_eq_true, w4, w44, w444, w16, v1, v2, v3, v4, v5, v6, u1, u2, u3, k4, kd, kd2, h0, h1, h2, h9]
   refine ⟨by kernel_rfl, by kernel_rfl, by kernel_rfl, ECall'.i i1 ?_⟩
   simp only [ZE,↓reduceIte,pE,pL,pA,pS,pM,pD, zN,qT,qG,qL,qH,qN,qB,qE,qO,qA,qM]
   refine ECall'.i o2 ?_
   simp only [ZE,↓reduceIte,pE,pL,pA,pS,pM,pD, zN,qT,qG,qL,qH,qN,qB,qE,qO,qA,qM]
   refine ⟨ECall'.i o2 ?_, ?_⟩
   ·simp only [ZE,↓reduceIte,pE,pL,pA,pS,pM,pD]
   have ro := rowsOk_items O2
   have e4 : 4 + O2.length = O2.length + 1 + 1 + 1 + 1 := by omega
   try simp only [ZE,↓reduceIte,pE,pL,pA,pS,pM,pD, zN,qT,qG,qL,qH,qN,qB,qE,qO,qA,qM, w4, w44, w444, w16, v1, v2, v3, v4, v5, v6, u1, u2, u3, k4, kd, kd2, h9, e4, Int.reduceEq, not_false_eq_true]
   refine ⟨⟨ro, by omega, by omega⟩, by kernel_rfl, ECall'.i cm ?_⟩
   simp only [ZE,↓reduceIte,pE,pL,pA,pS,pM,pD, zN,qT,qG,qL,qH,qN,qB,qE,qO,qA,qM, topM, rawW, rawC, inA, outB, chC, chD, portI, chanI, instI, putI, zItem, zExpr, sA, sB, sC, sD, sU, sVV, sX, sY, sCell, sTop, st, op_mk, name_mk, k_mk, w_mk, args_mk, zNum, emp, Int.reduceEq, not_false_eq_true]
  have h2 : (((x.kind % 4 : Nat) : Int) == 2) = false := by simp; omega
  rw [if_neg b2, q3, h22, h24]
  simp (maxSteps := 4000000) only [ZE,↓reduceIte,pE,pL,pA,pS,pM,pD, eRaw, zN,qT,qG,qL,qH,qN,qB,qE,qO,qA,qM, Int.reduceEq, not_false_eq_true, w4, w44, w444, w16, v1, v2, v3, v4, v5, v6, u1, u2, u3, k4, kd, kd2]
  refine EFn.p ?_
  simp only [ZE,↓reduceIte,pE,pL,pA,pS,pM,pD, zN,qT,qG,qL,qH,qN,qB,qE,qO,qA,qM]
  refine ECall.i kc ?_
  simp only [ZE,↓reduceIte,pE,pL,pA,pS,pM,pD, zN,qT,qG,qL,qH,qN,qB,qE,qO,qA,qM, Int.reduceEq, not_false_eq_true, w4, w44, w444, w16, v1, v2, v3, v4, v5, v6, u1, u2, u3, k4, kd, kd2, h0, h1, h2, h9]
  refine ⟨by kernel_rfl, by kernel_rfl, by kernel_rfl, ECall'.i i3 ?_⟩
  simp only [ZE,↓reduceIte,pE,pL,pA,pS,pM,pD, zN,qT,qG,qL,qH,qN,qB,qE,qO,qA,qM]
  refine ECall'.i o3 ?_
  simp only [ZE,↓reduceIte,pE,pL,pA,pS,pM,pD, zN,qT,qG,qL,qH,qN,qB,qE,qO,qA,qM]
  refine ⟨ECall'.i o3 ?_, ?_⟩
  ·simp only [ZE,↓reduceIte,pE,pL,pA,pS,pM,pD]
  have ro := rowsOk_items O3
  have e4 : 4 + O3.length = O3.length + 1 + 1 + 1 + 1 := by omega
  try simp only [ZE,↓reduceIte,pE,pL,pA,pS,pM,pD, zN,qT,qG,qL,qH,qN,qB,qE,qO,qA,qM, e4]
  refine ⟨⟨ro, by omega, by omega⟩, by kernel_rfl, ECall'.i c22 ?_⟩
  simp only [ZE,↓reduceIte,pE,pL,pA,pS,pM,pD, zN,qT,qG,qL,qH,qN,qB,qE,qO,qA,qM, e4]
  refine ECall'.i g24 ?_
  simp only [ZE,↓reduceIte,pE,pL,pA,pS,pM,pD, zN,qT,qG,qL,qH,qN,qB,qE,qO,qA,qM, w4, w44, w444, w16, v1, v2, v3, v4, v5, v6, u1, u2, u3, k4, kd, kd2, h9, e4, Int.reduceEq, not_false_eq_true, List.length_append]
  refine ⟨⟨by omega, by omega⟩, by kernel_rfl, ECall'.i cm ?_⟩
  simp only [ZE,↓reduceIte,pE,pL,pA,pS,pM,pD, zN,qT,qG,qL,qH,qN,qB,qE,qO,qA,qM, List.map_append, topM, rawW, rawC, inA, outB, chC, chD, portI, chanI, instI, putI, zItem, zExpr, sA, sB, sC, sD, sU, sVV, sX, sY, sCell, sTop, st, op_mk, name_mk, k_mk, w_mk, args_mk, zNum, emp, Int.reduceEq, not_false_eq_true]
end Go.Proofs.Ytejpmjnefokdoaa

namespace Go.Proofs.Ytejpmjnefokdoaa
open Go.Aw
open Nat renaming reduceEqDiff → pE, reduceLT → pL, reduceAdd → pA, reduceSub → pS, reduceMul → pM, reduceLeDiff → pD
open Int renaming reduceToNat → qT, reduceGT → qG, reduceLT → qL, reduceGE → qH, reduceBNe → qN, reduceBEq → qB, reduceLE → qE, reduceNe → qO, reduceAdd → qA, reduceNeg → qM
set_option maxRecDepth 100000
set_option maxHeartbeats 4000000
def eMods (l : List Module) : D := .agg [eModules l]
theorem find_c (l : List Module) (n : Str) : FnP Try.prog 31 [eMods l, eS n] (.d (eI (idxP (fun m : Module => decide (m.name = n)) l))) [] := by
 refine FnP.of_eC (own := []) (fun _ => []) mixed Try.func31 rfl Try.call31 Try.ntmps31 (Nat.le_of_ble_eq_true rfl) Try.results31 (fun hok => ?_)
 have hl : l.length ≤ 9223372036854775807 := by
  have := (okL_cons hok).1
  simp only [eMods, D.ok, D.okL] at this
  exact (ok_map this.1).1
 simp (maxSteps := 4000000) only [ZE,↓reduceIte,pE,pL,pA,pS,pM,pD, eMods, zN,qT,qG,qL,qH,qN,qB,qE,qO,qA,qM]
 refine eloop (fun _ => []) mixed l.length (fun i => ∀ j (_ : j < i) (hj : j < l.length), decide (l[j].name = n) = false) (fun i => ([(1, .d (eS n)), (2, .bp 2 0), (5, .d (eI i))], [(2, .box [.d (eModules l)])])) (by simp) (by simp only [ZE,↓reduceIte,pE,pL,pA,pS,pM,pD, zN,qT,qG,qL,qH,qN,qB,qE,qO,qA,qM]) (by simp only [ZE,↓reduceIte,pE,pL,pA,pS,pM,pD]) (fun i hi hI => ?_)
 rcases Nat.lt_or_ge i l.length with h | h
 ·have hw := wrap_succ (show i < 9223372036854775807 by omega)
  simp (maxSteps := 4000000) only [ZE,↓reduceIte,pE,pL,pA,pS,pM,pD, dec_lt h, getD_map h, lt_int h, hw, zN,qT,qG,qL,qH,qN,qB,qE,qO,qA,qM]
  refine iteI (fun h3 => ?_) (fun h3 => ⟨h, fun j hj hj' => ?_⟩)
  ·rw [idxP_some h h3 hI]
  ·rcases Nat.lt_succ_iff_lt_or_eq.1 hj with hj | rfl
   ·exact hI j hj hj'
   ·exact h3
 ·simp (maxSteps := 4000000) only [ZE,↓reduceIte,pE,pL,pA,pS,pM,pD, dec_ge h, zN,qT,qG,qL,qH,qN,qB,qE,qO,qA,qM]
  rw [idxP_none (fun j hj => hI j (by omega) hj)]
def samePs (a b : List Problem) : Bool := decide (a = b)
theorem same_c (a b : List Problem) : FnP Try.prog 15 [eProbs a, eProbs b] (.d (eB (samePs a b))) [] := by
 refine FnP.of_eC (own := []) (fun _ => []) mixed Try.func15 rfl Try.call15 Try.ntmps15 (Nat.le_of_ble_eq_true rfl) Try.results15 (fun hok => ?_)
 have hl : a.length ≤ 9223372036854775807 := (ok_map (okL_cons hok).1).1
 by_cases hab : a.length = b.length
 ·have h0 : ((a.length : Int) != (b.length : Int)) = false := by simp [hab]
  simp (maxSteps := 4000000) only [ZE,↓reduceIte,pE,pL,pA,pS,pM,pD, zN,qT,qG,qL,qH,qN,qB,qE,qO,qA,qM, h0]
  refine eloop (fun _ => []) mixed a.length (fun i => a.take i = b.take i) (fun i => ([(0, .d (eProbs a)), (1, .d (eProbs b)), (5, .d (eI i))], [])) (by simp) (by simp only [ZE,↓reduceIte,pE,pL,pA,pS,pM,pD, zN,qT,qG,qL,qH,qN,qB,qE,qO,qA,qM]) (by simp only [ZE,↓reduceIte,pE,pL,pA,pS,pM,pD]) (fun i hi hI => ?_)
  rcases Nat.lt_or_ge i a.length with h | h
  ·have hw := wrap_succ (show i < 9223372036854775807 by omega)
   have h' : i < b.length := by omega
   simp (maxSteps := 4000000) only [ZE,↓reduceIte,pE,pL,pA,pS,pM,pD, dec_lt h, getD_map h, lt_int h, getD_map h', lt_int h', hw, zN,qT,qG,qL,qH,qN,qB,qE,qO,qA,qM]
   refine ⟨by kernel_rfl, iteI (fun h3 => ?_) (fun h3 => ⟨h, ?_⟩)⟩
   ·have : samePs a b = false := by
     unfold samePs
     rw [decide_eq_false_iff_not]
     rintro rfl
     simp at h3
    rw [this]
   ·have he : a[i] = b[i] := by
     simp only [Bool.not_eq_false', Bool.and_eq_true, beq_iff_eq] at h3
     obtain ⟨e1, e2, e3⟩ := h3
     generalize a[i] = p at *
     generalize b[i] = q at *
     cases p; cases q; simp_all
    rw [List.take_succ_eq_append_getElem h, List.take_succ_eq_append_getElem h', hI, he]
  ·have : i = a.length := by omega
   subst this
   simp (maxSteps := 4000000) only [ZE,↓reduceIte,pE,pL,pA,pS,pM,pD, dec_ge h, zN,qT,qG,qL,qH,qN,qB,qE,qO,qA,qM]
   have : samePs a b = true := by
    unfold samePs
    rw [decide_eq_true_eq]
    rw [List.take_length, hab, List.take_length] at hI
    exact hI
   rw [this]
 ·have h0 : ((a.length : Int) != (b.length : Int)) = true := by simp; omega
  have : samePs a b = false := by
   unfold samePs
   rw [decide_eq_false_iff_not]
   rintro rfl
   exact hab rfl
  simp (maxSteps := 4000000) only [ZE,↓reduceIte,pE,pL,pA,pS,pM,pD, zN,qT,qG,qL,qH,qN,qB,qE,qO,qA,qM, h0, this]
/-- No two modules have one name. -/
def diff (l : List Module) : Bool := (List.range l.length).all fun i => idxP (fun m : Module => decide (m.name = (l.getD i ⟨emp, emp, [], []⟩).name)) l == (i : Int)
theorem diff_c (l : List Module) : FnP Try.prog 11 [eMods l] (.d (eB (diff l))) [] := by
 refine FnP.of_eC (own := []) (fun _ => []) mixed Try.func11 rfl Try.call11 Try.ntmps11 (Nat.le_of_ble_eq_true rfl) Try.results11 (fun hok => ?_)
 have hl : l.length ≤ 9223372036854775807 := by
  have := (okL_cons hok).1
  simp only [eMods, D.ok, D.okL] at this
  exact (ok_map this.1).1
 simp (maxSteps := 4000000) only [ZE,↓reduceIte,pE,pL,pA,pS,pM,pD, eMods, zN,qT,qG,qL,qH,qN,qB,qE,qO,qA,qM]
 refine eloop (fun _ => []) mixed l.length (fun i => ∀ j < i, (idxP (fun m : Module => decide (m.name = (l.getD j ⟨emp, emp, [], []⟩).name)) l == (j : Int)) = true) (fun i => ([(1, .bp 1 0), (3, .d (eI i))], [(1, .box [.d (eModules l)])])) (by simp) (by simp only [ZE,↓reduceIte,pE,pL,pA,pS,pM,pD, zN,qT,qG,qL,qH,qN,qB,qE,qO,qA,qM]) (by simp only [ZE,↓reduceIte,pE,pL,pA,pS,pM,pD]) (fun i hi hI => ?_)
 rcases Nat.lt_or_ge i l.length with h | h
 ·have hw := wrap_succ (show i < 9223372036854775807 by omega)
  have fc := find_c l l[i].name
  have hg : l.getD i ⟨emp, emp, [], []⟩ = l[i] := by simp [List.getD, h]
  obtain ⟨z, hz⟩ : ∃ z, idxP (fun m : Module => decide (m.name = l[i].name)) l = z := ⟨_, rfl⟩
  rw [hz] at fc
  simp only [ZE,↓reduceIte,pE,pL,pA,pS,pM,pD, eMods] at fc
  simp (maxSteps := 4000000) only [ZE,↓reduceIte,pE,pL,pA,pS,pM,pD, dec_lt h, getD_map h, lt_int h, hw, zN,qT,qG,qL,qH,qN,qB,qE,qO,qA,qM]
  refine ⟨by kernel_rfl, ECall'.i fc ?_⟩
  simp only [ZE,↓reduceIte,pE,pL,pA,pS,pM,pD, zN,qT,qG,qL,qH,qN,qB,qE,qO,qA,qM, hw]
  refine iteI (fun h3 => ?_) (fun h3 => ⟨h, fun j hj => ?_⟩)
  ·have : diff l = false := by
    unfold diff
    rw [List.all_eq_false]
    refine ⟨i, List.mem_range.2 h, ?_⟩
    rw [hg, hz]
    simpa only [bne, Bool.not_eq_true', Bool.not_eq_true] using h3
   rw [this]
  ·rcases Nat.lt_succ_iff_lt_or_eq.1 hj with hj | rfl
   ·exact hI j hj
   ·rw [hg, hz]
    simpa only [bne, Bool.not_eq_false'] using h3
 ·simp (maxSteps := 4000000) only [ZE,↓reduceIte,pE,pL,pA,pS,pM,pD, dec_ge h, zN,qT,qG,qL,qH,qN,qB,qE,qO,qA,qM]
  have : diff l = true := by
   unfold diff
   rw [List.all_eq_true]
   intro j hj
   exact hI j (by have := List.mem_range.1 hj; omega)
  rw [this]
/-! ### Shuffled -/
def slot (l : List Nat) (i : Nat) : Nat := if i < l.length then l.getD i 0 % (i + 1) else 0
def shufStep (l : List Nat) (acc : List Int) (i : Nat) : List Int := acc.take (slot l i) ++ [(i : Int)] ++ acc.drop (slot l i)
def shuf (n : Nat) (l : List Nat) : List Int := (List.range n).foldl (shufStep l) []
theorem slot_le (l : List Nat) (i : Nat) : slot l i ≤ i := by
 unfold slot
 split
 ·have := Nat.mod_lt (l.getD i 0) (show i + 1 > 0 by omega)
  omega
 ·omega
theorem shufStep_len (l : List Nat) (acc : List Int) (i : Nat) (h : slot l i ≤ acc.length) : (shufStep l acc i).length = acc.length + 1 := by
 simp only [shufStep, List.length_append, List.length_take, List.length_cons, List.length_nil, List.length_drop]
 omega
theorem shuf_len (l : List Nat) : ∀ n, ((List.range n).foldl (shufStep l) []).length = n
 | 0 => rfl
 | n + 1 => by
  rw [List.range_succ, List.foldl_append]
  simp only [List.foldl_cons, List.foldl_nil]
  have := shuf_len l n
  rw [shufStep_len _ _ _ (by rw [this]; exact slot_le l n), this]
theorem rowsOk_ints (l : List Int) : rowsOk 1 (l.map fun s => [D.lit (.int .i64 s)]) := by
 intro y hy
 obtain ⟨q, _, rfl⟩ := List.mem_map.1 hy
 simp [D.one, Value.oneCell']
theorem shuf_c (n : Nat) (l : List Nat) (hn : n ≤ 1000000) (hb : ∀ b ∈ l, b < 256) : FnP Try.prog 13 [eI n, eBytes l] (.d (eInts (shuf n l))) [] := by
 refine FnP.of_eC (own := []) (fun i => if i = 1 then [.frz 8] else []) mixed Try.func13 rfl Try.call13 Try.ntmps13 (Nat.le_of_ble_eq_true rfl) Try.results13 (fun hok => ?_)
 simp (maxSteps := 4000000) only [ZE,↓reduceIte,pE,pL,pA,pS,pM,pD, zN,qT,qG,qL,qH,qN,qB,qE,qO,qA,qM]
 refine eloop (fun i => if i = 2008 then [.ord ⟨[(1, none), (2, none), (3, none), (5, none), (6, none), (8, none), (9, none), (10, none), (0, some [1, 2, 3, 5, 6, 8, 9, 10]), (4, some [5, 6, 8, 9, 10]), (7, some [8, 9, 10]), (11, some []), (12, some [])]⟩] else if i = 8 then [.frz 26] else []) mixed n (fun _ => True) (fun i => ([(0, .d (eI n)), (1, .d (eBytes l)), (5, .d (eInts ((List.range i).foldl (shufStep l) []))), (6, .d (eI i))], [])) trivial ?_ ?_ (fun i hi _ => ?_)
 ·simp only [ZE,↓reduceIte,pE,pL,pA,pS,pM,pD, List.range_zero, List.foldl_nil, List.map_nil]
 ·simp only [ZE,↓reduceIte,pE,pL,pA,pS,pM,pD]
 obtain ⟨acc, hacc⟩ : ∃ acc, (List.range i).foldl (shufStep l) [] = acc := ⟨_, rfl⟩
 have hlen : acc.length = i := hacc ▸ shuf_len l i
 have hs : (List.range (i + 1)).foldl (shufStep l) [] = shufStep l acc i := by rw [List.range_succ, List.foldl_append, hacc]; rfl
 rw [hacc, hs]
 rcases Nat.lt_or_ge i n with h | h
 ·have hw := wrap_succ (show i < 9223372036854775807 by omega)
  have hsl := slot_le l i
  obtain ⟨k, hk⟩ : ∃ k, slot l i = k := ⟨_, rfl⟩
  rw [hk] at hsl
  rw [shufStep, hk]
  rcases Nat.lt_or_ge i l.length with h1 | h1
  ·have hk1 : k = l[i] % (i + 1) := by rw [← hk, slot, if_pos h1]; simp [List.getD, h1]
   have hlt := hb _ (List.getElem_mem h1)
   have hwb : IntKind.i64.wrap (l[i] : Int) = (l[i] : Int) := wrap_id (by omega) (by omega)
   have hm : (l[i] : Int).tmod ((i + 1 : Nat) : Int) = (k : Int) := by rw [hk1]; exact (Int.ofNat_tmod _ _).symm
   have hne : ¬ ((i + 1 : Nat) : Int) = 0 := by omega
   simp (maxSteps := 4000000) only [ZE,↓reduceIte,pE,pL,pA,pS,pM,pD, dec_lt h, dec_lt h1, getD_map h1, lt_int h1, hw, hwb, hm, hne, zN,qT,qG,qL,qH,qN,qB,qE,qO,qA,qM, Int.toNat_natCast]
   refine ⟨by kernel_rfl, ?_⟩
   have hk' : k ≤ acc.length := by omega
   have hv : ∀ e ∈ acc.map (fun s => [D.lit (.int .i64 s)]), e.length = 1 := fun e he => by obtain ⟨q, _, rfl⟩ := List.mem_map.1 he; rfl
   have htd : (acc.drop k).take (acc.length - k) = acc.drop k := List.take_of_length_le (by rw [List.length_drop]; omega)
   have hV : (∀ e ∈ acc.map (fun s => [D.lit (.int .i64 s)]), e.length = 1) ∧ 0 ≤ (k : Int) ∧ (k : Int) ≤ (acc.length : Int) ∧ (acc.length : Int) ≤ (acc.length : Int) := ⟨hv, by omega, by omega, by omega⟩
   simp only [Nat.sub_zero, ← List.map_take, ← List.map_drop, htd, List.length_append, List.length_map, List.length_cons, List.length_nil, List.length_take, List.length_drop, Nat.min_eq_left hk', if_true, List.map_append, List.map_cons, List.map_nil]
   refine ⟨hV, hV, hV, ⟨rowsOk_ints _, by omega, by omega⟩, hV, ⟨by omega, by omega⟩, hV, ⟨rowsOk_ints _, by omega, by omega⟩, h, trivial⟩
  ·have hk0 : k = 0 := by rw [← hk, slot, if_neg (by omega)]
   subst hk0
   simp (maxSteps := 4000000) only [ZE,↓reduceIte,pE,pL,pA,pS,pM,pD, dec_lt h, dec_ge h1, hw, zN,qT,qG,qL,qH,qN,qB,qE,qO,qA,qM]
   refine ⟨by kernel_rfl, ?_⟩
   have hv : ∀ e ∈ acc.map (fun s => [D.lit (.int .i64 s)]), e.length = 1 := fun e he => by obtain ⟨q, _, rfl⟩ := List.mem_map.1 he; rfl
   have hV : (∀ e ∈ acc.map (fun s => [D.lit (.int .i64 s)]), e.length = 1) ∧ 0 ≤ (acc.length : Int) ∧ (acc.length : Int) ≤ (acc.length : Int) := ⟨hv, by omega, by omega⟩
   have htd : acc.take acc.length = acc := List.take_length
   have hc : 1 + acc.length = acc.length + 1 := by omega
   simp only [Nat.sub_zero, ← List.map_take, htd, List.length_map, hc, if_true]
   refine ⟨hV, hV, hV, hV, hV, ⟨rowsOk_ints _, by omega, by omega⟩, h, trivial⟩
 ·have : i = n := by omega
  subst this
  simp (maxSteps := 4000000) only [ZE,↓reduceIte,pE,pL,pA,pS,pM,pD, dec_ge h, zN,qT,qG,qL,qH,qN,qB,qE,qO,qA,qM, shuf, hacc]
end Go.Proofs.Ytejpmjnefokdoaa

namespace Go.Proofs.Ytejpmjnefokdoaa
open Go.Aw
open Nat renaming reduceEqDiff → pE, reduceLT → pL, reduceAdd → pA, reduceSub → pS, reduceMul → pM, reduceLeDiff → pD
open Int renaming reduceToNat → qT, reduceGT → qG, reduceLT → qL, reduceGE → qH, reduceBNe → qN, reduceBEq → qB, reduceLE → qE, reduceNe → qO, reduceAdd → qA, reduceNeg → qM
set_option maxRecDepth 100000
set_option maxHeartbeats 2000000
def refE (s : Str) : Expr := .mk 14 s zNum zNum []
theorem ref_c (s : Str) : FnP Try.prog 23 [eS s] (.d (.agg (eExpr (refE s)))) [] := by
 refine FnP.of_eC (own := []) (fun _ => []) mixed Try.func23 rfl Try.call23 Try.ntmps23 (Nat.le_of_ble_eq_true rfl) Try.results23 (fun hok => ?_)
 simp (maxSteps := 4000000) only [ZE,↓reduceIte,pE,pL,pA,pS,pM,pD, refE, zNum, emp, Expr.op, Expr.name, Expr.k, Expr.w, Expr.args, List.map_nil]
def n4 : Num := ⟨4, emp⟩
def oneE : Expr := .mk 1 emp ⟨1, emp⟩ ⟨1, emp⟩ []
def simM : Module := ⟨sTop, sClk, [], [{ zItem with kind := ⟨1, rfl⟩, name := sA, width := n4 }, { zItem with kind := ⟨2, rfl⟩, name := sB, width := n4 }, { zItem with kind := ⟨4, rfl⟩, name := sR, width := n4, a := .mk 6 emp zNum zNum [refE sR, refE sA] }, { zItem with kind := ⟨8, rfl⟩, name := sB, a := oneE, b := refE sR }, { zItem with kind := ⟨7, rfl⟩, name := sA, a := oneE }]⟩
theorem simple_c : FnP Try.prog 22 [] (.d (.agg (eModule simM))) [] := by
 refine FnP.of_eC (own := []) (fun i => if i = 2002 then [.ord ⟨[(0, none), (1, none), (2, none), (3, none), (4, none), (5, none), (6, none), (7, none), (8, none), (9, none), (10, none), (11, none), (12, none), (13, none), (14, none), (15, none), (16, none), (17, some [])]⟩] else []) mixed Try.func22 rfl Try.call22 Try.ntmps22 (Nat.le_of_ble_eq_true rfl) Try.results22 (fun hok => ?_)
 have r1 := ref_c sR
 have r2 := ref_c sA
 rw [simM]
 obtain ⟨e1, h1⟩ : ∃ e, refE sR = e := ⟨_, rfl⟩
 obtain ⟨e2, h2⟩ : ∃ e, refE sA = e := ⟨_, rfl⟩
 rw [h1] at r1 ⊢
 rw [h2] at r2 ⊢
 simp only [ZE,↓reduceIte,pE,pL,pA,pS,pM,pD, sR, sA, st] at r1 r2
 simp (maxSteps := 4000000) only [ZE,↓reduceIte,pE,pL,pA,pS,pM,pD, zN,qT,qG,qL,qH,qN,qB,qE,qO,qA,qM]
 refine ⟨by kernel_rfl, ECall'.i r1 ?_⟩
 simp only [ZE,↓reduceIte,pE,pL,pA,pS,pM,pD, zN,qT,qG,qL,qH,qN,qB,qE,qO,qA,qM]
 refine ECall'.i r2 ?_
 simp only [ZE,↓reduceIte,pE,pL,pA,pS,pM,pD, zN,qT,qG,qL,qH,qN,qB,qE,qO,qA,qM]
 refine ECall'.i r1 ?_
 simp only [ZE,↓reduceIte,pE,pL,pA,pS,pM,pD, zN,qT,qG,qL,qH,qN,qB,qE,qO,qA,qM, oneE, n4, zItem, zExpr, sTop, sClk, sR, sA, sB, st, op_mk, name_mk, k_mk, w_mk, args_mk, zNum, emp, Int.reduceEq, not_false_eq_true]
end Go.Proofs.Ytejpmjnefokdoaa

namespace Go.Proofs.Ytejpmjnefokdoaa
open Go.Aw
theorem addP_ne (F : List Problem) (p : Problem) : addP F p ≠ [] := by
 unfold addP
 split
 ·rename_i h
  intro h'
  rw [h'] at h
  exact absurd h (by simp)
 ·simp
theorem addIf_nil (F : List Problem) (b : Bool) (p : Problem) : addIf F b p = [] ↔ F = [] ∧ b = false := by
 unfold addIf
 cases b
 ·simp
 ·simp [addP_ne]
theorem foldl_nil {α β : Type} (f : List β → α → List β) (g : α → Bool) (h : ∀ F x, f F x = [] ↔ F = [] ∧ g x = false) : ∀ (l : List α) (F : List β), l.foldl f F = [] ↔ F = [] ∧ ∀ x ∈ l, g x = false
 | [], F => by simp
 | a :: r, F => by
  rw [List.foldl_cons, foldl_nil f g h r, h]
  simp [and_assoc]
def kindBad (l : List Module) (m : Module) (x : Item) : Bool :=
 if x.kind.1 = 5 then has (dependsL m [x.a]) x.name
 else if x.kind.1 = 1 then (ends l m x.name).1 != 1 || (ends l m x.name).2 != 0
 else if x.kind.1 = 2 then (ends l m x.name).1 != 0 || (ends l m x.name).2 != 1
 else if x.kind.1 = 3 then (ends l m x.name).1 != 1 || (ends l m x.name).2 != 1
 else if x.kind.1 = 9 then misfit l x
 else if x.kind.1 = 7 then early m x else false
def itemBad (l : List Module) (m : Module) (k : Nat) (x : Item) : Bool := (declares x.kind.1 && badName m k x) || malformed x || lost l m x || kindBad l m x
theorem itemK_nil (l : List Module) (i k : Nat) (m : Module) (x : Item) (F : List Problem) : itemK l i k m x F = [] ↔ F = [] ∧ kindBad l m x = false := by
 unfold itemK kindBad
 split
 ·exact addIf_nil _ _ _
 split
 ·exact addIf_nil _ _ _
 split
 ·exact addIf_nil _ _ _
 split
 ·exact addIf_nil _ _ _
 split
 ·exact addIf_nil _ _ _
 split
 ·exact addIf_nil _ _ _
 ·simp
theorem itemD_nil (i k : Nat) (m : Module) (x : Item) (F : List Problem) : itemD i k m x F = [] ↔ F = [] ∧ (declares x.kind.1 && badName m k x) = false := by
 unfold itemD
 cases declares x.kind.1
 ·simp
 ·simp [addIf_nil]
theorem itemF_nil (l : List Module) (i k : Nat) (m : Module) (x : Item) (F : List Problem) : itemF l i k m x F = [] ↔ F = [] ∧ itemBad l m k x = false := by
 rw [itemF, itemK_nil, addIf_nil, addIf_nil, itemD_nil, itemBad]
 simp only [Bool.or_eq_false_iff, and_assoc]
def headBad (l : List Module) (i : Nat) (m : Module) : Bool := badHead l i m || loops l i
def modBad (l : List Module) (p : Module × Nat) : Bool := headBad l p.2 p.1 || p.1.items.zipIdx.any fun q => itemBad l p.1 q.2 q.1
theorem modF_nil (l : List Module) (F : List Problem) (p : Module × Nat) : modF l F p = [] ↔ F = [] ∧ modBad l p = false := by
 rw [modF, itemsF, List.take_length, foldl_nil _ (fun q : Item × Nat => itemBad l p.1 q.2 q.1) (fun F x => itemF_nil l p.2 x.2 p.1 x.1 F), headF, addIf_nil, addIf_nil, modBad, headBad]
 simp only [Bool.or_eq_false_iff, and_assoc, List.any_eq_false, Bool.not_eq_true]
theorem valid_eq (l : List Module) : valid l = !(l.zipIdx.any (modBad l)) := by
 rw [valid, Bool.eq_iff_iff]
 simp only [beq_iff_eq, List.length_eq_zero_iff, Bool.not_eq_true', List.any_eq_false, Bool.not_eq_true, found]
 rw [foldl_nil _ (modBad l) (modF_nil l)]
 simp
/-- A valid file, part by part. -/
theorem valid_iff (l : List Module) : valid l = true ↔ ∀ (i : Nat) (h : i < l.length), headBad l i l[i] = false ∧ ∀ (k : Nat) (hk : k < l[i].items.length), itemBad l l[i] k l[i].items[k] = false := by
 rw [valid_eq]
 simp only [Bool.not_eq_true', List.any_eq_false, Bool.not_eq_true, modBad, Bool.or_eq_false_iff]
 constructor
 ·intro h i hi
  have h1 := h (l[i], i) (by rw [List.mem_zipIdx_iff_getElem?]; simp [hi])
  refine ⟨h1.1, fun k hk => h1.2 (l[i].items[k], k) ?_⟩
  rw [List.mem_zipIdx_iff_getElem?]
  simp [hk]
 ·intro h p hp
  rw [List.mem_zipIdx_iff_getElem?] at hp
  obtain ⟨hi, hp⟩ := List.getElem?_eq_some_iff.1 hp
  have h1 := h p.2 hi
  rw [hp] at h1
  refine ⟨h1.1, fun q hq => ?_⟩
  rw [List.mem_zipIdx_iff_getElem?] at hq
  obtain ⟨hk, hq⟩ := List.getElem?_eq_some_iff.1 hq
  have h2 := h1.2 q.2 hk
  rw [hq] at h2
  exact h2
end Go.Proofs.Ytejpmjnefokdoaa

namespace Go.Proofs.Ytejpmjnefokdoaa
open Go.Aw
def okN (ps : List Str) (n : Num) : Bool := decide (n.p = emp) || has ps n.p
def okQ (a b ps : List Str) (q : Expr) : Bool := arity q.op == (q.args.length : Int) && (q.op != 14 || has a q.name) && (q.op != 15 || has b q.name) && (numsE q).all (okN ps)
def okE (a b ps : List Str) (e : Expr) : Bool := e.all.all (okQ a b ps)
theorem okE_mk (a b ps : List Str) (o : Int) (n : Str) (k w : Num) (r : List Expr) : okE a b ps (.mk o n k w r) = (okQ a b ps (.mk o n k w r) && (Expr.allL r).all (okQ a b ps)) := by
 rw [okE, Expr.all_eq, List.all_cons]; rfl
theorem allL_all (f : Expr → Bool) : ∀ r : List Expr, (Expr.allL r).all f = r.all fun e => e.all.all f
 | [] => by simp [Expr.allL]
 | e :: r => by rw [Expr.allL, List.all_append, List.all_cons, allL_all f r]
theorem has_getD {ns : List Str} (i : Nat) (h : i < ns.length) : has ns (ns.getD i emp) = true := by
 unfold has
 rw [List.any_eq_true]
 refine ⟨ns[i], List.getElem_mem h, ?_⟩
 rw [List.getD_eq_getElem?_getD, List.getElem?_eq_getElem h]
 simp
theorem has_sub {a b : List Str} (h : ∀ s ∈ a, s ∈ b) {s : Str} (hs : has a s = true) : has b s = true := by
 unfold has at *
 rw [List.any_eq_true] at *
 obtain ⟨x, hx, he⟩ := hs
 exact ⟨x, h x hx, he⟩
theorem okN_nat (ps : List Str) (k : Int) : okN ps ⟨k, emp⟩ = true := by simp [okN]
theorem leaf_ok (l : List Nat) (ns ps b : List Str) (w : Num) (hw : okN ps w = true) (hn : 0 < ns.length) (a : Nat) : okE ns b ps (leaf l ns w a) = true := by
 unfold leaf
 split
 ·rw [okE_mk]
  simp only [okQ, Expr.op, Expr.args, Expr.name, numsE, has_getD _ (Nat.mod_lt _ hn)]
  rfl
 ·rw [okE_mk]
  simp only [okQ, Expr.op, Expr.args, Expr.name, Expr.k, Expr.w, numsE]
  simp [okN_nat, hw, arity, Expr.allL]
theorem okQ_plain (a b ps : List Str) (o : Int) (r : List Expr) (h : (arity o == (r.length : Int)) = true) (h14 : (o != 14) = true) (h15 : (o != 15) = true) (w : Num) (hw : okN ps w = true) : okQ a b ps (.mk o emp zNum w r) = true := by
 have hz : okN ps zNum = true := okN_nat ps 0
 have e : numsE (.mk o emp zNum w r) = (if (o == 1) = true then [zNum, w] else if (o == 12) = true then [zNum, w] else if (o == 13) = true then [w] else []) := rfl
 have e2 : okQ a b ps (.mk o emp zNum w r) = (arity o == (r.length : Int) && (o != 14 || has a emp) && (o != 15 || has b emp) && (numsE (.mk o emp zNum w r)).all (okN ps)) := rfl
 rw [e2, e, h, h14, h15]
 simp only [Bool.true_or, Bool.true_and]
 by_cases h1 : (o == 1) = true
 ·rw [if_pos h1]; simp [hz, hw]
 rw [if_neg h1]
 by_cases h2 : (o == 12) = true
 ·rw [if_pos h2]; simp [hz, hw]
 rw [if_neg h2]
 by_cases h3 : (o == 13) = true
 ·rw [if_pos h3]; simp [hw]
 rw [if_neg h3]; rfl
theorem condOf_ok (a b ps : List Str) (x y : Expr) (hx : okE a b ps x = true) (hy : okE a b ps y = true) (k : Nat) : okE a b ps (condOf x y k) = true := by
 have hz : okN ps zNum = true := okN_nat ps 0
 have h1 : okN ps ⟨1, emp⟩ = true := okN_nat ps 1
 unfold okE at hx hy
 unfold condOf
 split
 ·rw [okE_mk, okQ_plain _ _ _ _ _ rfl rfl rfl _ hz, allL_all]; simp [hx, hy]
 split
 ·rw [okE_mk, okQ_plain _ _ _ _ _ rfl rfl rfl _ hz, allL_all]; simp [hx, hy]
 split
 ·rw [okE_mk, okQ_plain _ _ _ _ _ rfl rfl rfl _ h1, allL_all]; simp [hx]
 ·rw [okE_mk]
  simp only [okQ, Expr.op, Expr.args, Expr.name, Expr.k, Expr.w, numsE]
  simp [h1, arity, Expr.allL]
theorem nodeOf_ok (a b ps : List Str) (x y c : Expr) (hx : okE a b ps x = true) (hy : okE a b ps y = true) (hc : okE a b ps c = true) (k : Nat) : okE a b ps (nodeOf x y c k) = true := by
 have hz : okN ps zNum = true := okN_nat ps 0
 unfold okE at hx hy hc
 unfold nodeOf
 split
 ·rw [okE_mk, okQ_plain _ _ _ _ _ rfl rfl rfl _ hz, allL_all]; simp [hx]
 split
 ·rw [okE_mk, okQ_plain _ _ _ _ _ rfl rfl rfl _ hz, allL_all]; simp [hx, hy]
 split
 ·rw [okE_mk, okQ_plain _ _ _ _ _ rfl rfl rfl _ hz, allL_all]; simp [hx, hy]
 split
 ·rw [okE_mk, okQ_plain _ _ _ _ _ rfl rfl rfl _ hz, allL_all]; simp [hx, hy]
 split
 ·rw [okE_mk, okQ_plain _ _ _ _ _ rfl rfl rfl _ hz, allL_all]; simp [hx, hy]
 split
 ·rw [okE_mk, okQ_plain _ _ _ _ _ rfl rfl rfl _ hz, allL_all]; simp [hx, hy]
 ·rw [okE_mk, okQ_plain _ _ _ _ _ rfl rfl rfl _ hz, allL_all]; simp [hx, hy, hc]
theorem gen_ok (l : List Nat) (ns ps b : List Str) (w : Num) (hw : okN ps w = true) (hn : 0 < ns.length) : ∀ (d a : Nat), okE ns b ps (gen l ns w d a) = true
 | 0, a => leaf_ok l ns ps b w hw hn a
 | d + 1, a => by
  unfold gen
  split
  ·exact leaf_ok l ns ps b w hw hn a
  ·exact nodeOf_ok _ _ _ _ _ _ (gen_ok l ns ps b w hw hn d _) (gen_ok l ns ps b w hw hn d _) (condOf_ok _ _ _ _ _ (gen_ok l ns ps b w hw hn d _) (leaf_ok l ns ps b w hw hn _) _) _
theorem cond_ok (l : List Nat) (ns ps b : List Str) (w : Num) (hw : okN ps w = true) (hn : 0 < ns.length) (d a : Nat) : okE ns b ps (cond l ns w d a) = true :=
 condOf_ok _ _ _ _ _ (gen_ok l ns ps b w hw hn d _) (leaf_ok l ns ps b w hw hn _) _
/-! ### What follows for the module -/
theorem okE_bad {a b ps : List Str} {e : Expr} (h : okE a b ps e = true) : ∀ q ∈ e.all, badE q = false ∧ (numsE q).any (fun n => !okN ps n) = false ∧ (q.op = 14 → has a q.name = true) ∧ (q.op = 15 → has b q.name = true) := by
 intro q hq
 unfold okE at h
 rw [List.all_eq_true] at h
 have h1 := h q hq
 unfold okQ at h1
 simp only [Bool.and_eq_true, Bool.or_eq_true, bne_iff_ne, ne_eq] at h1
 obtain ⟨⟨⟨h2, h3⟩, h4⟩, h5⟩ := h1
 refine ⟨by unfold badE; rw [h2]; rfl, ?_, fun ho => by rcases h3 with h3 | h3; exact absurd ho h3; exact h3, fun ho => by rcases h4 with h4 | h4; exact absurd ho h4; exact h4⟩
 rw [List.all_eq_true] at h5
 rw [List.any_eq_false]
 intro n hn
 rw [h5 n hn]; simp
theorem lostN_ok (m : Module) (n : Num) : lostN m n = !okN m.params n := by
 unfold lostN okN
 have e : decide (n.p.1 = { data := #[] }) = decide (n.p = emp) := by
  rw [decide_eq_decide]
  exact ⟨fun h => Subtype.ext h, fun h => by rw [h]; rfl⟩
 rw [e, Bool.not_or]
/-- References to these names, memories of these names, are found in the module. -/
def refsOk (m : Module) (a b : List Str) : Bool := a.all (fun n => (has (takens m.items) n && has [1, 3] (kindOf m n)) || has [4, 5] (kindOf m n)) && b.all (fun n => has [6] (kindOf m n))
theorem lostE_ok {m : Module} {a b : List Str} (hr : refsOk m a b = true) {q : Expr} (h14 : q.op = 14 → has a q.name = true) (h15 : q.op = 15 → has b q.name = true) : lostE m q = false := by
 unfold refsOk at hr
 simp only [Bool.and_eq_true, List.all_eq_true] at hr
 unfold lostE
 rw [Bool.or_eq_false_iff]
 refine ⟨?_, ?_⟩
 ·by_cases ho : q.op = 14
  ·have h1 := h14 ho
   unfold has at h1
   rw [List.any_eq_true] at h1
   obtain ⟨n, hn, e⟩ := h1
   have e' : q.name = n := of_decide_eq_true e
   have h2 := hr.1 n hn
   rw [← e'] at h2
   rcases (Bool.or_eq_true _ _).mp h2 with h3 | h3 <;> simp [h3]
  ·simp [ho]
 ·by_cases ho : q.op = 15
  ·have h1 := h15 ho
   unfold has at h1
   rw [List.any_eq_true] at h1
   obtain ⟨n, hn, e⟩ := h1
   have e' : q.name = n := of_decide_eq_true e
   have h2 := hr.2 n hn
   rw [← e'] at h2
   simp [h2]
  ·simp [ho]
/-- The expressions of an item fit, and the rest of what is asked of it holds. -/
theorem item_good {l : List Module} {m : Module} {k : Nat} {x : Item} (a b : List Str) (h0 : (declares x.kind.1 && badName m k x) = false) (h1 : 1 ≤ x.kind.1 ∧ x.kind.1 ≤ 9) (hru : x.kind.1 = 4 ∨ x.kind.1 = 6 → 0 ≤ x.rule.kind ∧ x.rule.kind ≤ 3)
  (hu : (uses x).all (okE a b m.params) = true) (hr : refsOk m a b = true) (hn : (numHead x).all (okN m.params) = true) (hT : lostT l m x = false) (hk : kindBad l m x = false) : itemBad l m k x = false := by
 have hu' : (Expr.allL (uses x)).all (okQ a b m.params) = true := by rw [allL_all]; exact hu
 have hq : ∀ q ∈ Expr.allL (uses x), badE q = false ∧ (numsE q).any (fun n => !okN m.params n) = false ∧ lostE m q = false := by
  intro q hq
  rw [List.all_eq_true] at hu'
  have h2 : okQ a b m.params q = true := hu' q hq
  unfold okQ at h2
  simp only [Bool.and_eq_true, Bool.or_eq_true, bne_iff_ne, ne_eq] at h2
  obtain ⟨⟨⟨h3, h4⟩, h5⟩, h6⟩ := h2
  refine ⟨by unfold badE; rw [h3]; rfl, ?_, lostE_ok hr (fun ho => by rcases h4 with h4 | h4; exact absurd ho h4; exact h4) (fun ho => by rcases h5 with h5 | h5; exact absurd ho h5; exact h5)⟩
  rw [List.all_eq_true] at h6
  rw [List.any_eq_false]
  intro n hn
  rw [h6 n hn]; simp
 unfold itemBad
 simp only [Bool.or_eq_false_iff]
 refine ⟨⟨⟨h0, ?_⟩, ?_⟩, hk⟩
 ·unfold malformed
  simp only [Bool.or_eq_false_iff]
  refine ⟨⟨⟨by simp; omega, by simp; omega⟩, ?_⟩, ?_⟩
  ·rw [List.any_eq_false]
   intro q h; rw [(hq q h).1]; simp
  ·by_cases h4 : x.kind.1 = 4 ∨ x.kind.1 = 6
   ·have := hru h4
    have e1 : decide (x.rule.kind < 0) = false := by simp; omega
    have e2 : decide (x.rule.kind > 3) = false := by simp; omega
    rw [e1, e2]; simp
   ·have e1 : (x.kind.1 == 4) = false := by simp; omega
    have e2 : (x.kind.1 == 6) = false := by simp; omega
    rw [e1, e2]; rfl
 ·unfold lost
  simp only [Bool.or_eq_false_iff]
  refine ⟨⟨?_, ?_⟩, hT⟩
  ·unfold numbers
   rw [List.any_append, Bool.or_eq_false_iff]
   constructor
   ·rw [List.any_eq_false]
    intro n h
    rw [List.all_eq_true] at hn
    rw [lostN_ok, hn n h]; simp
   ·rw [List.any_flatMap, List.any_eq_false]
    intro q h
    have h2 := (hq q h).2.1
    have e : lostN m = fun n => !okN m.params n := by funext n; exact lostN_ok m n
    rw [e, h2]; simp
  ·rw [List.any_eq_false]
   intro q h; rw [(hq q h).2.2]; simp
end Go.Proofs.Ytejpmjnefokdoaa

namespace Go.Proofs.Ytejpmjnefokdoaa
open Go.Aw
set_option maxRecDepth 100000
def lessM : Module := { simM with items := simM.items.take 4 }
def loopM : Module := ⟨sTop, sClk, [], [{ zItem with kind := ⟨5, rfl⟩, name := sT, a := refE sT }, { zItem with kind := ⟨9, rfl⟩, name := sU, of := sTop }]⟩
theorem found_sim : found [simM] = [] := by kernel_rfl
theorem found_less : found [lessM] = [⟨5, 0, 0⟩, ⟨3, 0, 2⟩] := by kernel_rfl
theorem found_loop : found [loopM] = [⟨7, 0, -1⟩, ⟨4, 0, 0⟩] := by kernel_rfl
theorem found_two : ((found [simM, simM]).length == 0) = false := by kernel_rfl
theorem sortP_done {l : List Problem} (h : l.Pairwise fun x y => ¬ posLt y x) : sortP l = l := by
 unfold sortP
 apply List.mergeSort_of_pairwise
 refine h.imp ?_
 intro x y hxy
 rw [(ltOf_posF y x).2 hxy]; rfl
theorem check_less : check [lessM] = [⟨5, 0, 0⟩, ⟨3, 0, 2⟩] := by
 rw [check, found_less]
 apply sortP_done
 simp [posLt]
theorem check_loop : check [loopM] = [⟨7, 0, -1⟩, ⟨4, 0, 0⟩] := by
 rw [check, found_loop]
 apply sortP_done
 simp [posLt]
theorem valid_sim : valid [simM] = true := by rw [valid, found_sim]; rfl
theorem valid_two : valid [simM, simM] = false := found_two
theorem small_of (l : List Module) (h1 : l.length ≤ 1000) (h2 : (l.all fun m => decide (m.items.length ≤ 900) && m.items.all fun x => decide ((numbers x).length ≤ 2000000)) = true) : Small l := by
 rw [List.all_eq_true] at h2
 refine { len := h1, items := fun m hm => ?_, nums := fun m hm x hx => ?_ }
 ·have := h2 m hm
  simp only [Bool.and_eq_true, decide_eq_true_eq] at this
  exact this.1
 ·have := h2 m hm
  simp only [Bool.and_eq_true, decide_eq_true_eq, List.all_eq_true] at this
  exact this.2 x hx
theorem small_sim : Small [simM] := small_of _ (by simp) (by kernel_rfl)
theorem small_less : Small [lessM] := small_of _ (by simp) (by kernel_rfl)
theorem small_loop : Small [loopM] := small_of _ (by simp) (by kernel_rfl)
theorem small_two : Small [simM, simM] := small_of _ (by simp) (by kernel_rfl)
end Go.Proofs.Ytejpmjnefokdoaa

namespace Go.Proofs.Ytejpmjnefokdoaa
open Go.Aw
open Nat renaming reduceEqDiff → pE, reduceLT → pL, reduceAdd → pA, reduceSub → pS, reduceMul → pM, reduceLeDiff → pD
open Int renaming reduceToNat → qT, reduceGT → qG, reduceLT → qL, reduceGE → qH, reduceBNe → qN, reduceBEq → qB, reduceLE → qE, reduceNe → qO, reduceAdd → qA, reduceNeg → qM
set_option maxRecDepth 100000
set_option maxHeartbeats 2000000
theorem examples_c : FnP Try.prog 8 [] (.d (eB true)) [] := by
 refine FnP.of_eC (own := []) (fun _ => []) mixed Try.func8 rfl Try.call8 Try.ntmps8 (Nat.le_of_ble_eq_true rfl) Try.results8 (fun hok => ?_)
 have s1 := simple_c
 have v1 := valid_c [simM] small_sim
 have v2 := valid_c [simM, simM] small_two
 have k1 := check_c [lessM] small_less
 have k2 := check_c [loopM] small_loop
 have p1 := same_c [⟨5, 0, 0⟩, ⟨3, 0, 2⟩] [⟨5, 0, 0⟩, ⟨3, 0, 2⟩]
 have p2 := same_c [⟨7, 0, -1⟩, ⟨4, 0, 0⟩] [⟨7, 0, -1⟩, ⟨4, 0, 0⟩]
 have q1 : samePs [⟨5, 0, 0⟩, ⟨3, 0, 2⟩] [⟨5, 0, 0⟩, ⟨3, 0, 2⟩] = true := by kernel_rfl
 have q2 : samePs [⟨7, 0, -1⟩, ⟨4, 0, 0⟩] [⟨7, 0, -1⟩, ⟨4, 0, 0⟩] = true := by kernel_rfl
 rw [valid_sim] at v1
 rw [valid_two] at v2
 rw [check_less] at k1
 rw [check_loop] at k2
 rw [q1] at p1
 rw [q2] at p2
 have r1 := ref_c sT
 have n1 := name_c' ⟨#[97, 49]⟩
 have n2 := name_c' ⟨#[49, 97]⟩
 have n3 := name_c' ⟨#[]⟩
 have n4 := name_c' ⟨#[97, 98, 99, 100, 101, 102, 103, 104, 105, 106, 107, 108, 109, 110, 111, 112, 113]⟩
 rw [show isName ⟨#[97, 49]⟩ = true from by kernel_rfl] at n1
 rw [show isName ⟨#[49, 97]⟩ = false from by kernel_rfl] at n2
 rw [show isName ⟨#[]⟩ = false from by kernel_rfl] at n3
 rw [show isName ⟨#[97, 98, 99, 100, 101, 102, 103, 104, 105, 106, 107, 108, 109, 110, 111, 112, 113]⟩ = false from by kernel_rfl] at n4
 have h4 : simM.items.length = 5 := rfl
 rw [loopM] at k2
 rw [lessM] at k1
 obtain ⟨m, hm⟩ : ∃ m, simM = m := ⟨_, rfl⟩
 obtain ⟨e1, h1⟩ : ∃ e, refE sT = e := ⟨_, rfl⟩
 rw [hm] at s1 v1 v2 k1 h4
 rw [h1] at k2 r1
 clear hm h1
 simp only [ZE,↓reduceIte,pE,pL,pA,pS,pM,pD, zN,qT,qG,qL,qH,qN,qB,qE,qO,qA,qM, eModules, eModule, eItems, List.map_cons, List.map_nil, List.map_take, zItem, zExpr, sTop, sClk, sT, sU, st, op_mk, name_mk, k_mk, w_mk, args_mk, zNum, emp, Int.reduceEq, not_false_eq_true] at s1 v1 v2 k1 k2 p1 p2 r1 n1 n2 n3 n4
 simp (maxSteps := 4000000) only [ZE,↓reduceIte,pE,pL,pA,pS,pM,pD, zN,qT,qG,qL,qH,qN,qB,qE,qO,qA,qM]
 refine EFn.p ?_
 simp only [ZE,↓reduceIte,pE,pL,pA,pS,pM,pD, zN,qT,qG,qL,qH,qN,qB,qE,qO,qA,qM]
 refine ECall.i s1 ?_
 simp only [ZE,↓reduceIte,pE,pL,pA,pS,pM,pD, zN,qT,qG,qL,qH,qN,qB,qE,qO,qA,qM, h4, List.length_map]
 refine ⟨fun e he => by
  obtain ⟨q, _, rfl⟩ := List.mem_map.1 he
  exact eItem_len q, ?_⟩
 refine EFn.p ?_
 simp only [ZE,↓reduceIte,pE,pL,pA,pS,pM,pD, zN,qT,qG,qL,qH,qN,qB,qE,qO,qA,qM]
 refine ECall.i k1 ?_
 simp only [ZE,↓reduceIte,pE,pL,pA,pS,pM,pD, zN,qT,qG,qL,qH,qN,qB,qE,qO,qA,qM]
 refine EFn.p ?_
 simp only [ZE,↓reduceIte,pE,pL,pA,pS,pM,pD, zN,qT,qG,qL,qH,qN,qB,qE,qO,qA,qM]
 refine ECall.i v1 ?_
 simp only [ZE,↓reduceIte,pE,pL,pA,pS,pM,pD, zN,qT,qG,qL,qH,qN,qB,qE,qO,qA,qM]
 refine EFn.p ?_
 simp only [ZE,↓reduceIte,pE,pL,pA,pS,pM,pD, zN,qT,qG,qL,qH,qN,qB,qE,qO,qA,qM]
 refine ECall.i p1 ?_
 simp only [ZE,↓reduceIte,pE,pL,pA,pS,pM,pD, zN,qT,qG,qL,qH,qN,qB,qE,qO,qA,qM]
 refine EFn.p ?_
 simp only [ZE,↓reduceIte,pE,pL,pA,pS,pM,pD, zN,qT,qG,qL,qH,qN,qB,qE,qO,qA,qM]
 refine ECall.i r1 ?_
 simp only [ZE,↓reduceIte,pE,pL,pA,pS,pM,pD, zN,qT,qG,qL,qH,qN,qB,qE,qO,qA,qM]
 refine EFn.p ?_
 simp only [ZE,↓reduceIte,pE,pL,pA,pS,pM,pD, zN,qT,qG,qL,qH,qN,qB,qE,qO,qA,qM]
 refine ECall.i k2 ?_
 simp only [ZE,↓reduceIte,pE,pL,pA,pS,pM,pD, zN,qT,qG,qL,qH,qN,qB,qE,qO,qA,qM]
 refine EFn.p ?_
 simp only [ZE,↓reduceIte,pE,pL,pA,pS,pM,pD, zN,qT,qG,qL,qH,qN,qB,qE,qO,qA,qM]
 refine ECall.i p2 ?_
 simp only [ZE,↓reduceIte,pE,pL,pA,pS,pM,pD, zN,qT,qG,qL,qH,qN,qB,qE,qO,qA,qM]
 refine EFn.p ?_
 simp only [ZE,↓reduceIte,pE,pL,pA,pS,pM,pD, zN,qT,qG,qL,qH,qN,qB,qE,qO,qA,qM]
 refine ECall.i n1 ?_
 simp only [ZE,↓reduceIte,pE,pL,pA,pS,pM,pD, zN,qT,qG,qL,qH,qN,qB,qE,qO,qA,qM]
 refine EFn.p ?_
 simp only [ZE,↓reduceIte,pE,pL,pA,pS,pM,pD, zN,qT,qG,qL,qH,qN,qB,qE,qO,qA,qM]
 refine ECall.i n2 ?_
 simp only [ZE,↓reduceIte,pE,pL,pA,pS,pM,pD, zN,qT,qG,qL,qH,qN,qB,qE,qO,qA,qM]
 refine EFn.p ?_
 simp only [ZE,↓reduceIte,pE,pL,pA,pS,pM,pD, zN,qT,qG,qL,qH,qN,qB,qE,qO,qA,qM]
 refine ECall.i n3 ?_
 simp only [ZE,↓reduceIte,pE,pL,pA,pS,pM,pD, zN,qT,qG,qL,qH,qN,qB,qE,qO,qA,qM]
 refine EFn.p ?_
 simp only [ZE,↓reduceIte,pE,pL,pA,pS,pM,pD, zN,qT,qG,qL,qH,qN,qB,qE,qO,qA,qM]
 refine ECall.i n4 ?_
 simp only [ZE,↓reduceIte,pE,pL,pA,pS,pM,pD, zN,qT,qG,qL,qH,qN,qB,qE,qO,qA,qM]
 refine EFn.p ?_
 simp only [ZE,↓reduceIte,pE,pL,pA,pS,pM,pD, zN,qT,qG,qL,qH,qN,qB,qE,qO,qA,qM]
 refine ECall.i v2 ?_
 simp only [ZE,↓reduceIte,pE,pL,pA,pS,pM,pD, zN,qT,qG,qL,qH,qN,qB,qE,qO,qA,qM]
end Go.Proofs.Ytejpmjnefokdoaa

namespace Go.Proofs.Ytejpmjnefokdoaa
open Go.Aw
def zMod : Module := ⟨emp, emp, [], []⟩
def stepD (ready : List Bool → Nat → Bool) (d : List Bool) (i : Nat) : List Bool := d.set i (d.getD i false || ready d i)
def roundD (n : Nat) (ready : List Bool → Nat → Bool) (d : List Bool) : List Bool := (List.range n).foldl (stepD ready) d
def roundsD (n : Nat) (ready : List Bool → Nat → Bool) (k : Nat) : List Bool := (List.range k).foldl (fun d _ => roundD n ready d) (List.replicate n false)
theorem stepD_len (ready : List Bool → Nat → Bool) (d : List Bool) (i : Nat) : (stepD ready d i).length = d.length := by simp [stepD]
theorem steps_len (ready : List Bool → Nat → Bool) : ∀ (l : List Nat) (d : List Bool), (l.foldl (stepD ready) d).length = d.length
 | [], _ => rfl
 | i :: r, d => by rw [List.foldl_cons, steps_len ready r, stepD_len]
def readyX (l : List Module) (d : List Bool) (acc : Bool) (x : Item) : Bool :=
 if x.kind.1 = 9 then (acc && decide (idxP (fun m : Module => decide (m.name = x.of)) l ≥ 0) && d.getD (idxP (fun m : Module => decide (m.name = x.of)) l).toNat false) else acc
def readyM (l : List Module) (d : List Bool) (i : Nat) : Bool := (l.getD i zMod).items.foldl (readyX l d) true
def settledL (l : List Module) : Bool := (roundsD l.length (readyM l) l.length).all id
def readyN (d : List Bool) (e : Expr) (acc : Bool) (p : Item × Nat) : Bool := if (e.op == 14 && p.1.kind.1 == 5 && decide (p.1.name = e.name)) = true then (acc && d.getD p.2 false) else acc
def readyE (m : Module) (d : List Bool) (acc : Bool) (e : Expr) : Bool := m.items.zipIdx.foldl (readyN d e) acc
def readyA (m : Module) (d : List Bool) (i : Nat) : Bool := if (m.items.getD i zItem).kind.1 = 5 then (Expr.allL [(m.items.getD i zItem).a]).foldl (readyE m d) true else true
def acyclicM (m : Module) : Bool := (roundsD m.items.length (readyA m) (m.items.length + 1)).all id
theorem rounds_len (n : Nat) (rd : List Bool → Nat → Bool) : ∀ r, (roundsD n rd r).length = n
 | 0 => by simp [roundsD]
 | r + 1 => by
  have e : roundsD n rd (r + 1) = roundD n rd (roundsD n rd r) := by unfold roundsD; rw [List.range_succ, List.foldl_append]; rfl
  rw [e]; unfold roundD; rw [steps_len]; exact rounds_len n rd r
theorem rounds_succ (n : Nat) (rd : List Bool → Nat → Bool) (r : Nat) : roundsD n rd (r + 1) = (List.range n).foldl (stepD rd) (roundsD n rd r) := by
 have e : roundsD n rd (r + 1) = roundD n rd (roundsD n rd r) := by unfold roundsD; rw [List.range_succ, List.foldl_append]; rfl
 rw [e]; rfl
theorem steps_succ (rd : List Bool → Nat → Bool) (d : List Bool) (i : Nat) : (List.range (i + 1)).foldl (stepD rd) d = stepD rd ((List.range i).foldl (stepD rd) d) i := by
 rw [List.range_succ, List.foldl_append]; rfl
def eBs (d : List Bool) : List (List D) := d.map fun b => [D.lit (.bool b)]
theorem eBs_len (d : List Bool) : (eBs d).length = d.length := by simp [eBs]
theorem eBs_set (d : List Bool) (i : Nat) (b : Bool) : (eBs d).set i [D.lit (.bool b)] = eBs (d.set i b) := by simp [eBs, List.map_set]
theorem eBs_getD {d : List Bool} {i : Nat} (h : i < d.length) : (eBs d).getD i [] = [D.lit (.bool (d.getD i false))] := by simp [eBs, List.getD, h]
theorem rounds_zero (n : Nat) (rd : List Bool → Nat → Bool) : eBs (roundsD n rd 0) = List.replicate n [D.lit (.bool false)] := by simp [eBs, roundsD]
end Go.Proofs.Ytejpmjnefokdoaa

namespace Go.Proofs.Ytejpmjnefokdoaa
open Go.Aw
theorem get_append {α : Type} (a b : List (Str × α)) (s : Str) : get (a ++ b) s = (get a s).or (get b s) := by
 unfold get
 rw [List.find?_append]
 cases a.find? _ <;> simp
theorem get_one {α : Type} (s n : Str) (x : α) : get [(s, x)] n = if s = n then some x else none := by
 unfold get
 by_cases h : s = n
 ·rw [if_pos h, List.find?_cons_of_pos (by simpa using h)]; rfl
 ·rw [if_neg h, List.find?_cons_of_neg (by simpa using h)]; rfl
/-- Does an item declare a name? -/
def decl (n : Str) (x : Item) : Bool := declares x.kind.1 && decide (x.name = n)
theorem firsts_get' (n : Str) : ∀ (l : List Item) (acc : List (Str × Item)), get (l.foldl firstStep acc) n = (get acc n).or (l.find? (decl n))
 | [], acc => by simp
 | x :: r, acc => by
  rw [List.foldl_cons, firsts_get' n r]
  unfold firstStep
  by_cases hn : x.name = n
  ·by_cases hd : declares x.kind.1 = true
   ·have hp : decl n x = true := by simp [decl, hd, hn]
    rw [List.find?_cons_of_pos hp, hd, hn]
    cases hg : get acc n with
    | none => simp [get_append, hg, get_one, hn]
    | some y => simp [hg]
   ·have hp : ¬ decl n x = true := by simp [decl, hd]
    rw [List.find?_cons_of_neg hp]
    simp [hd]
  ·have hp : ¬ decl n x = true := by simp [decl, hn]
   rw [List.find?_cons_of_neg hp]
   split
   ·rw [get_append, get_one, if_neg hn]; simp
   ·rfl
theorem firsts_get (n : Str) (l : List Item) : get (firsts l) n = l.find? (decl n) := by
 rw [firsts, firsts_get']; rfl
theorem declOf_eq (m : Module) (n : Str) : declOf m n = (m.items.find? (decl n)).getD zItem := by rw [declOf, firsts_get]
theorem kindOf_eq (m : Module) (n : Str) : kindOf m n = ((m.items.find? (decl n)).getD zItem).kind.1 := by rw [kindOf, declOf_eq]
theorem idxs_get' (n : Str) : ∀ (l : List Module) (j : Nat) (acc : List (Str × Int)), get ((l.zipIdx j).foldl idxStep acc) n = (get acc n).or ((l.findIdx? (fun m => decide (m.name = n))).map fun (i : Nat) => ((i + j : Nat) : Int))
 | [], j, acc => by simp
 | m :: r, j, acc => by
  rw [List.zipIdx_cons, List.foldl_cons, idxs_get' n r]
  have e : ∀ i : Nat, ((i + (j + 1) : Nat) : Int) = ((i + 1 + j : Nat) : Int) := fun i => by omega
  by_cases hn : m.name = n
  ·have hf : (m :: r).findIdx? (fun m => decide (m.name = n)) = some 0 := by rw [List.findIdx?_cons]; simp [hn]
   rw [hf]
   unfold idxStep
   cases hg : get acc n with
   | none => rw [if_pos (by simp [hn, hg]), get_append, hg, hn, get_one]; simp
   | some y => rw [if_neg (by simp [hn, hg]), hg]; simp
  ·have hf : (m :: r).findIdx? (fun m => decide (m.name = n)) = (r.findIdx? (fun m => decide (m.name = n))).map (· + 1) := by rw [List.findIdx?_cons]; simp [hn]
   rw [hf]
   have hs : get (idxStep acc (m, j)) n = get acc n := by
    unfold idxStep
    split
    ·rw [get_append, get_one, if_neg hn]; simp
    ·rfl
   rw [hs, Option.map_map]
   simp only [Function.comp_def, e]
theorem findM_eq (l : List Module) (n : Str) : findM l n = (l.findIdx? (fun m => decide (m.name = n))).map fun (i : Nat) => (i : Int) := by
 rw [findM, idxs, idxs_get']; simp [get]
theorem findIdx_map {α β : Type} (f : α → β) (p : β → Bool) (l : List α) : l.findIdx? (fun a => p (f a)) = (l.map f).findIdx? p := by
 rw [List.findIdx?_map]; rfl
theorem findM_names {l l' : List Module} (h : l.map (·.name) = l'.map (·.name)) (n : Str) : findM l n = findM l' n := by
 rw [findM_eq, findM_eq, findIdx_map (fun m : Module => m.name) (fun s => decide (s = n)) l, findIdx_map (fun m : Module => m.name) (fun s => decide (s = n)) l', h]
/-! ### Ends as sums -/
def c1B (l : List Module) (x : Item) (n : Str) (b : Bind) : Bool := decide (b.chan = n) && portOf l x b.port == 1
def c2B (l : List Module) (x : Item) (n : Str) (b : Bind) : Bool := decide (b.chan = n) && portOf l x b.port == 2
def c1 (l : List Module) (n : Str) (x : Item) : Nat := (if (x.kind.1 == 7 && decide (x.name = n)) = true then 1 else 0) + x.ports.countP (c1B l x n)
def c2 (l : List Module) (n : Str) (x : Item) : Nat := (if (x.kind.1 == 8 && decide (x.name = n)) = true then 1 else 0) + x.ports.countP (c2B l x n)
theorem inc_nat {a : Nat} (h : a ≤ 1000000000) : inc (a : Int) = ((a + 1 : Nat) : Int) := by
 unfold inc; rw [wrap_id (by omega) (by omega)]; omega
theorem endB_sum (l : List Module) (x : Item) (n : Str) : ∀ (r : List Bind) (a b : Nat), a + b + r.length ≤ 1000000000 → r.foldl (endB l x n) ((a : Int), (b : Int)) = (((a + r.countP (c1B l x n) : Nat) : Int), ((b + r.countP (c2B l x n) : Nat) : Int))
 | [], a, b, _ => by simp
 | p :: r, a, b, h => by
  rw [List.length_cons] at h
  rw [List.foldl_cons, List.countP_cons, List.countP_cons]
  by_cases h1 : (decide (p.chan = n) && portOf l x p.port == 1) = true
  ·have h2 : c2B l x n p = false := by
    unfold c2B
    simp only [Bool.and_eq_true, beq_iff_eq] at h1
    rw [h1.2]; simp
   have h1' : c1B l x n p = true := h1
   have hs : endB l x n ((a : Int), (b : Int)) p = (((a + 1 : Nat) : Int), (b : Int)) := by
    unfold endB; rw [if_pos h1, inc_nat (by omega)]
   rw [hs, endB_sum l x n r (a + 1) b (by omega), h1', h2]
   simp only [if_true, Bool.false_eq_true, if_false]
   rw [show a + 1 + r.countP (c1B l x n) = a + (r.countP (c1B l x n) + 1) by omega]
   rfl
  ·have h1' : c1B l x n p = false := by simpa [c1B] using h1
   rw [h1']
   by_cases h2 : (decide (p.chan = n) && portOf l x p.port == 2) = true
   ·have h2' : c2B l x n p = true := h2
    have hs : endB l x n ((a : Int), (b : Int)) p = ((a : Int), ((b + 1 : Nat) : Int)) := by
     unfold endB; rw [if_neg h1, if_pos h2, inc_nat (by omega)]
    rw [hs, endB_sum l x n r a (b + 1) (by omega), h2']
    simp only [if_true, Bool.false_eq_true, if_false]
    rw [show b + 1 + r.countP (c2B l x n) = b + (r.countP (c2B l x n) + 1) by omega]
    rfl
   ·have h2' : c2B l x n p = false := by simpa [c2B] using h2
    have hs : endB l x n ((a : Int), (b : Int)) p = ((a : Int), (b : Int)) := by
     unfold endB; rw [if_neg h1, if_neg h2]
    rw [hs, endB_sum l x n r a b (by omega), h2']
    rfl
def wt (x : Item) : Nat := 1 + x.ports.length
theorem countP2 (l : List Module) (x : Item) (n : Str) : ∀ r : List Bind, r.countP (c1B l x n) + r.countP (c2B l x n) ≤ r.length
 | [] => by simp
 | p :: r => by
  have := countP2 l x n r
  rw [List.countP_cons, List.countP_cons, List.length_cons]
  by_cases h1 : c1B l x n p = true
  ·have h2 : c2B l x n p = false := by
    unfold c1B at h1; unfold c2B
    simp only [Bool.and_eq_true, beq_iff_eq] at h1
    rw [h1.2]; simp
   rw [h1, h2]; simp; omega
  ·simp only [Bool.not_eq_true] at h1
   rw [h1]; simp
   split <;> omega
theorem c_wt (l : List Module) (n : Str) (x : Item) : c1 l n x + c2 l n x ≤ wt x := by
 have := countP2 l x n x.ports
 unfold c1 c2 wt
 by_cases h7 : (x.kind.1 == 7 && decide (x.name = n)) = true
 ·have h8 : (x.kind.1 == 8 && decide (x.name = n)) = false := by
   simp only [Bool.and_eq_true, beq_iff_eq] at h7
   rw [h7.1]; rfl
  rw [if_pos h7, h8]; simp; omega
 ·rw [if_neg h7]
  split <;> omega
theorem endX_sum (l : List Module) (n : Str) (x : Item) (a b : Nat) (h : a + b + wt x ≤ 1000000000) : endX l n ((a : Int), (b : Int)) x = (((a + c1 l n x : Nat) : Int), ((b + c2 l n x : Nat) : Int)) := by
 unfold wt at h
 unfold endX endI c1 c2
 by_cases h7 : (x.kind.1 == 7 && decide (x.name = n)) = true
 ·have h8 : (x.kind.1 == 8 && decide (x.name = n)) = false := by
   simp only [Bool.and_eq_true, beq_iff_eq] at h7
   rw [h7.1]; rfl
  rw [if_pos h7, if_pos h7, h8, inc_nat (by omega), endB_sum l x n _ (a + 1) b (by omega)]
  simp only [Bool.false_eq_true, if_false, Nat.zero_add, Nat.add_assoc]
 ·rw [if_neg h7, if_neg h7]
  by_cases h8 : (x.kind.1 == 8 && decide (x.name = n)) = true
  ·rw [if_pos h8, if_pos h8, inc_nat (by omega), endB_sum l x n _ a (b + 1) (by omega)]
   simp only [Nat.zero_add, Nat.add_assoc]
  ·rw [if_neg h8, if_neg h8, endB_sum l x n _ a b (by omega)]
   simp only [Nat.zero_add]
def c1s (l : List Module) (n : Str) (r : List Item) : Nat := (r.map (c1 l n)).sum
def c2s (l : List Module) (n : Str) (r : List Item) : Nat := (r.map (c2 l n)).sum
def wts (r : List Item) : Nat := (r.map wt).sum
theorem endXs_sum (l : List Module) (n : Str) : ∀ (r : List Item) (a b : Nat), a + b + wts r ≤ 1000000000 → r.foldl (endX l n) ((a : Int), (b : Int)) = (((a + c1s l n r : Nat) : Int), ((b + c2s l n r : Nat) : Int))
 | [], a, b, _ => by simp [c1s, c2s]
 | x :: r, a, b, h => by
  have hx := c_wt l n x
  simp only [wts, List.map_cons, List.sum_cons] at h
  rw [List.foldl_cons, endX_sum l n x a b (by omega), endXs_sum l n r _ _ (by unfold wts; omega)]
  simp only [c1s, c2s, List.map_cons, List.sum_cons, Nat.add_assoc]
theorem ends_sum (l : List Module) (m : Module) (n : Str) (h : wts m.items ≤ 1000000000) : ends l m n = ((c1s l n m.items : Int), (c2s l n m.items : Int)) := by
 have := endXs_sum l n m.items 0 0 (by omega)
 simpa [ends] using this
end Go.Proofs.Ytejpmjnefokdoaa

namespace Go.Proofs.Ytejpmjnefokdoaa
open Go.Aw
def withItems (l : List Module) (i : Nat) (m : Module) (r : List Item) : List Module := l.set i { m with items := r }
theorem itemV_ok {l : List Module} (hv : valid l = true) {i : Nat} (hi : i < l.length) {A B : List Item} {x : Item} (hm : l[i].items = A ++ x :: B) : itemBad l l[i] A.length x = false := by
 have h := ((valid_iff l).1 hv i hi).2 A.length (by rw [hm]; simp)
 have e : l[i].items[A.length]'(by rw [hm]; simp) = x := by
  simp only [hm]; simp
 rwa [e] at h
theorem item_parts {l : List Module} {m : Module} {k : Nat} {x : Item} (h : itemBad l m k x = false) : (declares x.kind.1 = true → badName m k x = false) ∧ malformed x = false ∧ lost l m x = false ∧ kindBad l m x = false := by
 unfold itemBad at h
 simp only [Bool.or_eq_false_iff] at h
 obtain ⟨⟨⟨h1, h2⟩, h3⟩, h4⟩ := h
 exact ⟨fun hd => by rwa [hd, Bool.true_and] at h1, h2, h3, h4⟩
theorem mem_ok {l : List Module} (hv : valid l = true) {i : Nat} (hi : i < l.length) {x : Item} (hx : x ∈ l[i].items) : malformed x = false ∧ lost l l[i] x = false ∧ kindBad l l[i] x = false := by
 obtain ⟨A, B, hm⟩ := List.append_of_mem hx
 exact (item_parts (itemV_ok hv hi hm)).2
theorem lost_T {l : List Module} {m : Module} {x : Item} (h : lost l m x = false) : lostT l m x = false := by
 unfold lost at h
 simp only [Bool.or_eq_false_iff] at h
 exact h.2
theorem uniq {l : List Module} (hv : valid l = true) {i : Nat} (hi : i < l.length) {A B : List Item} {y : Item} (hm : l[i].items = A ++ y :: B) {n : Str} (hy : decl n y = true) : ∀ x ∈ A ++ B, decl n x = false := by
 intro x hx
 unfold decl at hy
 simp only [Bool.and_eq_true, decide_eq_true_eq] at hy
 rw [← Bool.not_eq_true]
 intro hd
 unfold decl at hd
 simp only [Bool.and_eq_true, decide_eq_true_eq] at hd
 rcases List.mem_append.1 hx with hx | hx
 ·have h := (item_parts (itemV_ok hv hi hm)).1 hy.1
  unfold badName at h
  simp only [Bool.or_eq_false_iff] at h
  have h1 := h.1.1
  rw [hm, List.take_left, List.any_eq_false] at h1
  apply h1 x hx
  simp [sameDecl, hd, hy]
 ·obtain ⟨B1, B2, rfl⟩ := List.append_of_mem hx
  have hm' : l[i].items = (A ++ y :: B1) ++ x :: B2 := by rw [hm]; simp
  have h := (item_parts (itemV_ok hv hi hm')).1 hd.1
  unfold badName at h
  simp only [Bool.or_eq_false_iff] at h
  have h1 := h.1.1
  rw [hm', List.take_left, List.any_eq_false] at h1
  apply h1 y (by simp)
  simp [sameDecl, hd, hy]
theorem find_none {A B : List Item} {n : Str} (h : ∀ x ∈ A ++ B, decl n x = false) : (A ++ B).find? (decl n) = none := by
 rw [List.find?_eq_none]
 intro x hx
 rw [h x hx]; simp
theorem find_self {l : List Module} (hv : valid l = true) {i : Nat} (hi : i < l.length) {A B : List Item} {y : Item} (hm : l[i].items = A ++ y :: B) {n : Str} (hy : decl n y = true) : l[i].items.find? (decl n) = some y := by
 have h := uniq hv hi hm hy
 have hA : A.find? (decl n) = none := by
  rw [List.find?_eq_none]
  intro x hx
  rw [h x (List.mem_append_left _ hx)]; simp
 rw [hm, List.find?_append, hA, List.find?_cons_of_pos hy]; rfl
theorem find_other {A B : List Item} {y : Item} {n : Str} (hy : decl n y = false) : (A ++ y :: B).find? (decl n) = (A ++ B).find? (decl n) := by
 rw [List.find?_append, List.find?_append, List.find?_cons_of_neg (by rw [hy]; simp)]
/-! ### Ports of modules -/
def pk (m : Module) (n : Str) : Int := if has [1, 2] (kindOf m n) = true then kindOf m n else 0
theorem portOf_pk (l : List Module) (x : Item) (n : Str) : portOf l x n = match findM l x.of with | some i => if (x.kind.1 == 9) = true then pk (l.getD i.toNat zMod) n else 0 | none => 0 := by
 unfold portOf pk
 cases findM l x.of with
 | none => rfl
 | some i =>
  simp only [zMod]
  by_cases h9 : (x.kind.1 == 9) = true
  ·simp only [h9, Bool.true_and, if_true]
   rfl
  ·simp [h9]
theorem portOf_set {l : List Module} {i : Nat} (hi : i < l.length) {r : List Item} (hp : ∀ n, pk { l[i] with items := r } n = pk l[i] n) (x : Item) (n : Str) : portOf (withItems l i l[i] r) x n = portOf l x n := by
 have hn : (withItems l i l[i] r).map (·.name) = l.map (·.name) := by
  unfold withItems
  rw [List.map_set]
  apply List.ext_getElem
  ·simp
  ·intro j h1 h2
   rw [List.getElem_set]
   split
   ·rename_i e; subst e; simp
   ·rfl
 rw [portOf_pk, portOf_pk, findM_names hn]
 cases findM l x.of with
 | none => rfl
 | some j =>
  simp only []
  split
  ·unfold withItems
   by_cases hj : i = j.toNat
   ·subst hj
    rw [List.getD_eq_getElem?_getD, List.getElem?_set_self hi, List.getD_eq_getElem?_getD, List.getElem?_eq_getElem hi]
    exact hp n
   ·rw [List.getD_eq_getElem?_getD, List.getElem?_set_ne hj, List.getD_eq_getElem?_getD]
  ·rfl
theorem c_set {l l' : List Module} (h : ∀ x n, portOf l' x n = portOf l x n) (n : Str) (x : Item) : c1 l' n x = c1 l n x ∧ c2 l' n x = c2 l n x := by
 have h1 : c1B l' x n = c1B l x n := by funext b; unfold c1B; rw [h]
 have h2 : c2B l' x n = c2B l x n := by funext b; unfold c2B; rw [h]
 unfold c1 c2
 rw [h1, h2]; exact ⟨rfl, rfl⟩
theorem c1s_app (l : List Module) (n : Str) (a b : List Item) : c1s l n (a ++ b) = c1s l n a + c1s l n b := by simp [c1s]
theorem c2s_app (l : List Module) (n : Str) (a b : List Item) : c2s l n (a ++ b) = c2s l n a + c2s l n b := by simp [c2s]
theorem c1s_cons (l : List Module) (n : Str) (x : Item) (b : List Item) : c1s l n (x :: b) = c1 l n x + c1s l n b := by simp [c1s]
theorem c2s_cons (l : List Module) (n : Str) (x : Item) (b : List Item) : c2s l n (x :: b) = c2 l n x + c2s l n b := by simp [c2s]
theorem cs_set {l l' : List Module} (h : ∀ x n, portOf l' x n = portOf l x n) (n : Str) (r : List Item) : c1s l' n r = c1s l n r ∧ c2s l' n r = c2s l n r := by
 have h1 : c1 l' n = c1 l n := by funext x; exact (c_set h n x).1
 have h2 : c2 l' n = c2 l n := by funext x; exact (c_set h n x).2
 unfold c1s c2s
 rw [h1, h2]; exact ⟨rfl, rfl⟩
theorem ends_same {l l' : List Module} {m m' : Module} {z : Item} (hk : z.kind.1 = 1 ∨ z.kind.1 = 2 ∨ z.kind.1 = 3) (h1 : kindBad l m z = false) (h2 : kindBad l' m' z = false) : ends l m z.name = ends l' m' z.name := by
 unfold kindBad at h1 h2
 apply Prod.ext
 ·rcases hk with hk | hk | hk
  all_goals
   simp [hk] at h1 h2
   rw [h1.1, h2.1]
 ·rcases hk with hk | hk | hk
  all_goals
   simp [hk] at h1 h2
   rw [h1.2, h2.2]
theorem wts_app (a b : List Item) : wts (a ++ b) = wts a + wts b := by simp [wts]
theorem wts_cons (x : Item) (b : List Item) : wts (x :: b) = wt x + wts b := by simp [wts]
theorem set_at {l : List Module} {i : Nat} (hi : i < l.length) (r : List Item) : ∃ hi' : i < (withItems l i l[i] r).length, (withItems l i l[i] r)[i] = { l[i] with items := r } := by
 unfold withItems
 exact ⟨by simpa using hi, by simp⟩
/-- The ends of a name change: the file is no longer valid. -/
theorem ends_bad {l : List Module} (hv : valid l = true) {i : Nat} (hi : i < l.length) {r : List Item} (hp : ∀ n, pk { l[i] with items := r } n = pk l[i] n) {z : Item} (hk : z.kind.1 = 1 ∨ z.kind.1 = 2 ∨ z.kind.1 = 3) (hz : z ∈ l[i].items) (hz' : z ∈ r)
  (hw : wts l[i].items ≤ 1000000000) (hw' : wts r ≤ 1000000000) (hc : c1s l z.name r + c2s l z.name r ≠ c1s l z.name l[i].items + c2s l z.name l[i].items) : valid (withItems l i l[i] r) = false := by
 rw [← Bool.not_eq_true]
 intro hv'
 obtain ⟨hi', e⟩ := set_at hi r
 have h1 := (mem_ok hv hi hz).2.2
 have h2 := (mem_ok hv' hi' (x := z) (by rw [e]; exact hz')).2.2
 have h3 := ends_same hk h1 h2
 rw [e, ends_sum _ _ _ hw, ends_sum _ _ _ hw'] at h3
 have h4 := cs_set (portOf_set hi hp) z.name r
 rw [h4.1, h4.2] at h3
 have h5 := congrArg Prod.fst h3
 have h6 := congrArg Prod.snd h3
 simp only [] at h5 h6
 omega
theorem pk_find {m m' : Module} {n : Str} (h : m'.items.find? (decl n) = m.items.find? (decl n)) : pk m' n = pk m n := by
 unfold pk; rw [kindOf_eq, kindOf_eq, h]
theorem pk_less {l : List Module} (hv : valid l = true) {i : Nat} (hi : i < l.length) {A B : List Item} {y : Item} (hm : l[i].items = A ++ y :: B) (h1 : y.kind.1 ≠ 1) (h2 : y.kind.1 ≠ 2) (n : Str) : pk { l[i] with items := A ++ B } n = pk l[i] n := by
 cases hd : decl n y with
 | false => exact pk_find (by rw [hm, find_other hd])
 | true =>
  have e1 := find_self hv hi hm hd
  have e2 := find_none (uniq hv hi hm hd)
  unfold pk
  rw [kindOf_eq, kindOf_eq, e1, e2]
  simp [has, zItem, h1, h2]
theorem kind_find {m : Module} {n : Str} {ks : List Int} (h : has ks (kindOf m n) = true) (h0 : has ks 0 = false) : ∃ z ∈ m.items, decl n z = true ∧ has ks z.kind.1 = true := by
 rw [kindOf_eq] at h
 cases hf : m.items.find? (decl n) with
 | none => rw [hf] at h; simp only [Option.getD_none, zItem] at h; rw [h0] at h; exact absurd h (by simp)
 | some z =>
  rw [hf] at h
  exact ⟨z, List.mem_of_find?_eq_some hf, List.find?_some hf, h⟩
theorem decl_name {n : Str} {z : Item} (h : decl n z = true) : z.name = n := by
 unfold decl at h
 simp only [Bool.and_eq_true, decide_eq_true_eq] at h
 exact h.2
/-- What uses an end of something: its name, and that it does. -/
theorem use_end {l : List Module} {m : Module} {y : Item} (hl : lost l m y = false) (hk : y.kind.1 = 7 ∨ y.kind.1 = 8 ∨ y.kind.1 = 9) (h9 : y.kind.1 = 9 → ∃ b ∈ y.ports, portOf l y b.port = 1 ∨ portOf l y b.port = 2) :
  ∃ z ∈ m.items, (z.kind.1 = 1 ∨ z.kind.1 = 2 ∨ z.kind.1 = 3) ∧ 0 < c1 l z.name y + c2 l z.name y := by
 have ht := lost_T hl
 unfold lostT at ht
 rcases hk with hk | hk | hk
 ·simp only [hk, if_true, Bool.not_eq_false'] at ht
  obtain ⟨z, hz, hd, hz2⟩ := kind_find ht (by decide)
  have hn := decl_name hd
  refine ⟨z, hz, by simp [has] at hz2; omega, ?_⟩
  unfold c1
  rw [hn]; simp [hk]
  omega
 ·simp only [hk, if_true, Bool.not_eq_false', Int.reduceEq, if_false] at ht
  obtain ⟨z, hz, hd, hz2⟩ := kind_find ht (by decide)
  have hn := decl_name hd
  refine ⟨z, hz, by simp [has] at hz2; omega, ?_⟩
  unfold c2
  rw [hn]; simp [hk]
  omega
 ·obtain ⟨b, hb, hp⟩ := h9 hk
  simp only [hk, if_true, Int.reduceEq, if_false, Bool.or_eq_false_iff, List.any_eq_false] at ht
  have h1 := ht.2 b hb
  unfold lostB at h1
  simp only [Bool.not_eq_true, Bool.not_eq_false'] at h1
  obtain ⟨z, hz, hd, hz2⟩ := kind_find h1 (by decide)
  have hn := decl_name hd
  refine ⟨z, hz, by simp [has] at hz2; omega, ?_⟩
  rw [hn]
  rcases hp with hp | hp
  ·have : 0 < y.ports.countP (c1B l y b.chan) := List.countP_pos_iff.2 ⟨b, hb, by simp [c1B, hp]⟩
   unfold c1; omega
  ·have : 0 < y.ports.countP (c2B l y b.chan) := List.countP_pos_iff.2 ⟨b, hb, by simp [c2B, hp]⟩
   unfold c2; omega
/-- A take, a put, or an instance that binds a port is removed. -/
theorem less_use {l : List Module} (hv : valid l = true) {i : Nat} (hi : i < l.length) {A B : List Item} {y : Item} (hm : l[i].items = A ++ y :: B) (hk : y.kind.1 = 7 ∨ y.kind.1 = 8 ∨ y.kind.1 = 9) (h9 : y.kind.1 = 9 → ∃ b ∈ y.ports, portOf l y b.port = 1 ∨ portOf l y b.port = 2)
  (hw : wts l[i].items ≤ 1000000000) : valid (withItems l i l[i] (A ++ B)) = false := by
 have hy : y ∈ l[i].items := by rw [hm]; simp
 obtain ⟨z, hz, hzk, hc⟩ := use_end (mem_ok hv hi hy).2.1 hk h9
 have hz' : z ∈ A ++ B := by
  rw [hm] at hz
  simp only [List.mem_append, List.mem_cons] at hz ⊢
  rcases hz with h | h | h
  ·exact Or.inl h
  ·subst h; omega
  ·exact Or.inr h
 have y1 : y.kind.1 ≠ 1 := by clear h9; omega
 have y2 : y.kind.1 ≠ 2 := by clear h9; omega
 refine ends_bad hv hi (pk_less hv hi hm y1 y2) hzk hz hz' hw ?_ ?_
 ·rw [hm, wts_app, wts_cons] at hw
  rw [wts_app]; omega
 ·rw [hm, c1s_app, c2s_app, c1s_app, c2s_app, c1s_cons, c2s_cons]
  omega
theorem sum_pos (f : Item → Nat) : ∀ (r : List Item), 0 < (r.map f).sum → ∃ x ∈ r, 0 < f x
 | [], h => by simp at h
 | x :: r, h => by
  rw [List.map_cons, List.sum_cons] at h
  by_cases h0 : 0 < f x
  ·exact ⟨x, List.mem_cons_self, h0⟩
  ·obtain ⟨z, hz, h1⟩ := sum_pos f r (by omega)
   exact ⟨z, List.mem_cons_of_mem _ hz, h1⟩
theorem pk_kind {l : List Module} {x : Item} {n : Str} (h : portOf l x n = 1 ∨ portOf l x n = 2) : x.kind.1 = 9 := by
 rw [portOf_pk] at h
 cases hf : findM l x.of with
 | none => rw [hf] at h; simp at h
 | some j =>
  rw [hf] at h
  simp only [] at h
  by_cases h9 : (x.kind.1 == 9) = true
  ·simpa using h9
  ·rw [if_neg h9] at h; omega
/-- What has an end of a name that is not declared is lost. -/
theorem lost_end {l l' : List Module} {m' : Module} {n : Str} {x : Item} (hc : 0 < c1 l n x + c2 l n x) (hf : m'.items.find? (decl n) = none) : lost l' m' x = true := by
 have hk : kindOf m' n = 0 := by rw [kindOf_eq, hf]; rfl
 have hp : ∀ b ∈ x.ports, b.chan = n → x.kind.1 = 9 → lostT l' m' x = true := by
  intro b hb hn h9
  unfold lostT
  simp only [h9, Int.reduceEq, if_false, if_true, Bool.or_eq_true, List.any_eq_true]
  exact Or.inr ⟨b, hb, by unfold lostB; rw [hn, hk]; rfl⟩
 have key : lostT l' m' x = true := by
  unfold c1 c2 at hc
  by_cases h7 : (x.kind.1 == 7 && decide (x.name = n)) = true
  ·simp only [Bool.and_eq_true, beq_iff_eq, decide_eq_true_eq] at h7
   unfold lostT
   rw [if_pos h7.1, h7.2, hk]; rfl
  by_cases h8 : (x.kind.1 == 8 && decide (x.name = n)) = true
  ·simp only [Bool.and_eq_true, beq_iff_eq, decide_eq_true_eq] at h8
   unfold lostT
   rw [if_neg (by omega), if_pos h8.1, h8.2, hk]; rfl
  rw [if_neg h7, if_neg h8] at hc
  by_cases h1 : 0 < x.ports.countP (c1B l x n)
  ·obtain ⟨b, hb, h2⟩ := List.countP_pos_iff.1 h1
   unfold c1B at h2
   simp only [Bool.and_eq_true, beq_iff_eq, decide_eq_true_eq] at h2
   exact hp b hb h2.1 (pk_kind (Or.inl h2.2))
  ·obtain ⟨b, hb, h2⟩ := List.countP_pos_iff.1 (show 0 < x.ports.countP (c2B l x n) by omega)
   unfold c2B at h2
   simp only [Bool.and_eq_true, beq_iff_eq, decide_eq_true_eq] at h2
   exact hp b hb h2.1 (pk_kind (Or.inr h2.2))
 unfold lost
 rw [key]; simp
/-- A port is removed. -/
theorem less_port {l : List Module} (hv : valid l = true) {i : Nat} (hi : i < l.length) {A B : List Item} {y : Item} (hm : l[i].items = A ++ y :: B) (hk : y.kind.1 = 1 ∨ y.kind.1 = 2)
  (hw : wts l[i].items ≤ 1000000000) : valid (withItems l i l[i] (A ++ B)) = false := by
 have hy : y ∈ l[i].items := by rw [hm]; simp
 have hb := (mem_ok hv hi hy).2.2
 have hd : decl y.name y = true := by
  unfold decl declares
  rcases hk with h | h <;> simp [h]
 have hs : 0 < c1s l y.name l[i].items + c2s l y.name l[i].items := by
  unfold kindBad at hb
  rw [ends_sum _ _ _ hw] at hb
  rcases hk with h | h
  ·simp [h] at hb; omega
  ·simp [h] at hb; omega
 have hx : ∃ x ∈ l[i].items, 0 < c1 l y.name x + c2 l y.name x := by
  by_cases h1 : 0 < c1s l y.name l[i].items
  ·obtain ⟨x, hx, h2⟩ := sum_pos _ _ h1
   exact ⟨x, hx, by omega⟩
  ·obtain ⟨x, hx, h2⟩ := sum_pos (c2 l y.name) l[i].items (by unfold c2s at hs; omega)
   exact ⟨x, hx, by omega⟩
 obtain ⟨x, hx, hc⟩ := hx
 rw [← Bool.not_eq_true]
 intro hv'
 obtain ⟨hi', e⟩ := set_at hi (A ++ B)
 have hxy : x ∈ A ++ B := by
  rw [hm] at hx
  simp only [List.mem_append, List.mem_cons] at hx ⊢
  rcases hx with h | h | h
  ·exact Or.inl h
  ·subst h
   exfalso
   have h1 := (mem_ok hv hi hy).2.1
   unfold c1 c2 at hc
   have h7 : (x.kind.1 == 7) = false := by rcases hk with h | h <;> rw [h] <;> rfl
   have h8 : (x.kind.1 == 8) = false := by rcases hk with h | h <;> rw [h] <;> rfl
   have n1 : x.ports.countP (c1B l x x.name) = 0 := by
    rw [List.countP_eq_zero]
    intro b _ h2
    unfold c1B at h2
    simp only [Bool.and_eq_true, beq_iff_eq, decide_eq_true_eq] at h2
    have := pk_kind (Or.inl h2.2)
    omega
   have n2 : x.ports.countP (c2B l x x.name) = 0 := by
    rw [List.countP_eq_zero]
    intro b _ h2
    unfold c2B at h2
    simp only [Bool.and_eq_true, beq_iff_eq, decide_eq_true_eq] at h2
    have := pk_kind (Or.inr h2.2)
    omega
   rw [h7, h8, n1, n2] at hc
   simp at hc
  ·exact Or.inr h
 have h2 := (mem_ok hv' hi' (x := x) (by rw [e]; exact hxy)).2.1
 rw [e, lost_end hc (find_none (uniq hv hi hm hd))] at h2
 exact absurd h2 (by simp)
/-- An item is doubled. -/
theorem twice_bad {l : List Module} (hv : valid l = true) {i : Nat} (hi : i < l.length) {y : Item} (hy : y ∈ l[i].items) (hw : wts (l[i].items ++ [y]) ≤ 1000000000) : valid (withItems l i l[i] (l[i].items ++ [y])) = false := by
 by_cases hd : declares y.kind.1 = true
 ·rw [← Bool.not_eq_true]
  intro hv'
  obtain ⟨hi', e⟩ := set_at hi (l[i].items ++ [y])
  have h := (item_parts (itemV_ok hv' hi' (A := l[i].items) (B := []) (x := y) (by rw [e]))).1 hd
  rw [e] at h
  unfold badName at h
  simp only [Bool.or_eq_false_iff, List.take_left] at h
  have h1 := h.1.1
  rw [List.any_eq_false] at h1
  apply h1 y hy
  simp [sameDecl, hd]
 ·obtain ⟨hmf, hl, _⟩ := mem_ok hv hi hy
  have hk : y.kind.1 = 7 ∨ y.kind.1 = 8 := by
   unfold malformed at hmf
   simp only [Bool.or_eq_false_iff, decide_eq_false_iff_not] at hmf
   unfold declares at hd
   simp at hd
   omega
  obtain ⟨z, hz, hzk, hc⟩ := use_end hl (by omega) (by omega)
  refine ends_bad hv hi (fun n => pk_find ?_) hzk hz (List.mem_append_left _ hz) ?_ hw ?_
  ·have : decl n y = false := by simp [decl, hd]
   simp [List.find?_append, this]
  ·rw [wts_app] at hw; omega
  ·rw [c1s_app, c2s_app, c1s_cons, c2s_cons]
   simp only [c1s, c2s, List.map_nil, List.sum_nil] at *
   omega
end Go.Proofs.Ytejpmjnefokdoaa

namespace Go.Proofs.Ytejpmjnefokdoaa
open Go.Aw
set_option maxRecDepth 100000
def noWire (m : Module) (a : List Str) : Bool := a.all fun n => !has [5] (kindOf m n)
theorem has_mem {a : List Str} {s : Str} (h : has a s = true) : s ∈ a := by
 unfold has at h
 rw [List.any_eq_true] at h
 obtain ⟨n, hn, e⟩ := h
 rw [of_decide_eq_true e]; exact hn
theorem mem_has {a : List Str} {s : Str} (h : s ∈ a) : has a s = true := by
 unfold has
 rw [List.any_eq_true]
 exact ⟨s, h, by simp⟩
theorem dep_fold {m : Module} {a : List Str} (hw : noWire m a = true) (rec : List Str → List Expr → List Str) : ∀ (l : List Expr) (acc : List Str), (∀ q ∈ l, q.op = 14 ∨ q.op = 15 → has a q.name = true) → ∀ s ∈ l.foldl (visitE m rec) acc, s ∈ acc ∨ s ∈ a
 | [], acc, _, s, hs => .inl hs
 | q :: r, acc, h, s, hs => by
  rw [List.foldl_cons] at hs
  have h1 := dep_fold hw rec r _ (fun q hq => h q (List.mem_cons_of_mem _ hq)) s hs
  rcases h1 with h1 | h1
  ·unfold visitE at h1
   split at h1
   ·exact .inl h1
   ·rename_i hn
    have hq : has a q.name = true := h q List.mem_cons_self (by
     simp only [Bool.or_eq_true, Bool.and_eq_true, bne_iff_ne, ne_eq, not_or, not_and] at hn
     by_cases h14 : q.op = 14
     ·exact .inl h14
     ·exact .inr (Decidable.not_not.1 (hn.1 h14)))
    have hk : has [5] (kindOf m q.name) = false := by
     unfold noWire at hw
     rw [List.all_eq_true] at hw
     simpa using hw q.name (has_mem hq)
    rw [hk] at h1
    simp only [Bool.false_eq_true, if_false, List.mem_append, List.mem_singleton] at h1
    rcases h1 with h1 | h1
    ·exact .inl h1
    ·exact .inr (by rw [h1]; exact has_mem hq)
  ·exact .inr h1
theorem okE_names {a b ps : List Str} {e : Expr} (h : okE a b ps e = true) : ∀ q ∈ Expr.allL [e], q.op = 14 ∨ q.op = 15 → has (a ++ b) q.name = true := by
 intro q hq ho
 rw [Expr.allL, Expr.allL, List.append_nil] at hq
 have h1 := (okE_bad h q hq).2.2
 rcases ho with ho | ho
 ·exact has_sub (fun s hs => List.mem_append_left _ hs) (h1.1 ho)
 ·exact has_sub (fun s hs => List.mem_append_right _ hs) (h1.2 ho)
theorem dep_sub {m : Module} {a b ps : List Str} {e : Expr} (h : okE a b ps e = true) (hw : noWire m (a ++ b) = true) : ∀ s ∈ dependsL m [e], s ∈ a ++ b := by
 intro s hs
 unfold dependsL at hs
 rw [visit] at hs
 rcases dep_fold hw _ _ _ (okE_names h) s hs with h1 | h1
 ·simp at h1
 ·exact h1
/-- A wire whose expression refers to other things than wires. -/
theorem wire_ok {m : Module} {x : Item} {a b ps : List Str} (h : okE a b ps x.a = true) (hw : noWire m (a ++ b) = true) (hx : has (a ++ b) x.name = false) : has (dependsL m [x.a]) x.name = false := by
 rw [← Bool.not_eq_true]
 intro h1
 have h2 := mem_has (dep_sub h hw _ (has_mem h1))
 rw [hx] at h2
 exact absurd h2 (by simp)
/-- A take whose condition refers, also through wires, to no channels. -/
theorem early_ok {m : Module} {x : Item} {a b ps : List Str} (h : okE a b ps x.a = true) (hs : ∀ n ∈ a, (has [5] (kindOf m n) = false ∧ wordN m n = false) ∨ (has [5] (kindOf m n) = true ∧ ∃ a' b' : List Str, okE a' b' ps (declOf m n).a = true ∧ noWire m (a' ++ b') = true ∧ (a' ++ b').all (fun s => !wordN m s) = true)) : early m x = false := by
 unfold early
 rw [List.any_eq_false]
 intro q hq
 rw [Expr.allL, Expr.allL, List.append_nil] at hq
 unfold earlyE
 by_cases ho : q.op = 14
 ·have h1 := has_mem ((okE_bad h q hq).2.2.1 ho)
  rw [Bool.not_eq_true, Bool.and_eq_false_iff]
  right
  unfold startN
  rcases hs _ h1 with ⟨h2, h3⟩ | ⟨h2, a', b', h4, h5, h6⟩
  ·rw [h2]; simp [h3]
  ·rw [h2]
   simp only [if_true]
   rw [List.any_eq_false]
   intro s hs
   rw [List.all_eq_true] at h6
   have := h6 s (dep_sub h4 h5 s hs)
   simpa using this
 ·simp [ho]
theorem ruleOf_ok (b : Nat) : (0 ≤ (ruleOf b).kind ∧ (ruleOf b).kind ≤ 3) ∧ (((ruleOf b).kind == 2 || (ruleOf b).kind == 3) && !isName (ruleOf b).from'.1) = false := by
 have hr : isName sR.1 = true := by kernel_rfl
 have hs : isName sS.1 = true := by kernel_rfl
 unfold ruleOf
 split
 ·exact ⟨⟨by decide, by decide⟩, rfl⟩
 split
 ·exact ⟨⟨by show (0 : Int) ≤ 2; decide, by show (2 : Int) ≤ 3; decide⟩, by simp [hr]⟩
 split
 ·exact ⟨⟨by show (0 : Int) ≤ 3; decide, by show (3 : Int) ≤ 3; decide⟩, by simp [hs]⟩
 ·exact ⟨⟨by show (0 : Int) ≤ 1; decide, by show (1 : Int) ≤ 3; decide⟩, by rfl⟩
theorem clockOf_name (b : Nat) : isName (clockOf b).1 = true := by
 have h1 : isName sAux.1 = true := by kernel_rfl
 have h2 : isName sClk.1 = true := by kernel_rfl
 unfold clockOf
 split
 ·exact h1
 ·exact h2
end Go.Proofs.Ytejpmjnefokdoaa

namespace Go.Proofs.Ytejpmjnefokdoaa
open Go.Aw
set_option maxRecDepth 100000
theorem gok (l : List Nat) (ns b ps : List Str) (w : Num) (hw : okN ps w = true) (hn : 0 < ns.length) (d a : Nat) : okE ns b ps (gen l ns w d a) = true := gen_ok l ns ps b w hw hn d a
theorem cok (l : List Nat) (ns b ps : List Str) (w : Num) (hw : okN ps w = true) (hn : 0 < ns.length) (d a : Nat) : okE ns b ps (cond l ns w d a) = true := cond_ok l ns ps b w hw hn d a
theorem item_fit {l : List Module} {m : Module} {k : Nat} {x : Item} (a b : List Str) (h0 : (declares x.kind.1 && badName m k x) = false) (h1 : (decide (1 ≤ x.kind.1) && decide (x.kind.1 ≤ 9)) = true) (hru : (x.kind.1 == 4 || x.kind.1 == 6) = false ∨ (0 ≤ x.rule.kind ∧ x.rule.kind ≤ 3))
  (hu : (uses x).all (okE a b m.params) = true) (hr : refsOk m a b = true) (hn : (numHead x).all (okN m.params) = true) (hT : lostT l m x = false) (hk : kindBad l m x = false) : itemBad l m k x = false := by
 simp only [Bool.and_eq_true, decide_eq_true_eq] at h1
 refine item_good a b h0 h1 (fun h => ?_) hu hr hn hT hk
 rcases hru with h2 | h2
 ·rw [Bool.or_eq_false_iff, beq_eq_false_iff_ne, beq_eq_false_iff_ne] at h2
  omega
 ·exact h2
theorem cell0 (l : List Module) (b : List Nat) : itemBad l (cellM b) 0 (portI ⟨1, rfl⟩ sX wN) = false :=
 item_fit [] [] (by kernel_rfl) (by kernel_rfl) (.inl (by kernel_rfl)) (by kernel_rfl) (by kernel_rfl) (by kernel_rfl) (by kernel_rfl) (by kernel_rfl)
theorem cell1 (l : List Module) (b : List Nat) : itemBad l (cellM b) 1 (portI ⟨2, rfl⟩ sY wN) = false :=
 item_fit [] [] (by kernel_rfl) (by kernel_rfl) (.inl (by kernel_rfl)) (by kernel_rfl) (by kernel_rfl) (by kernel_rfl) (by kernel_rfl) (by kernel_rfl)
theorem wN_ok : okN [sW] wN = true := by kernel_rfl
theorem uses_reg {x : Item} (h : x.kind.1 = 4) : uses x = [x.a] := by unfold uses usesN; simp [h]
theorem uses_wire {x : Item} (h : x.kind.1 = 5) : uses x = [x.a] := by unfold uses usesN; simp [h]
theorem uses_take {x : Item} (h : x.kind.1 = 7) : uses x = [x.a] := by unfold uses usesN; simp [h]
theorem uses_put {x : Item} (h : x.kind.1 = 8) : uses x = [x.a, x.b] := by unfold uses usesN; simp [h]
theorem uses_mem {x : Item} (h : x.kind.1 = 6) : uses x = [x.a, x.b, x.c] := by unfold uses usesN; simp [h]
theorem cell2 (l : List Module) (b : List Nat) : itemBad l (cellM b) 2 (regI sR b 7 [sR, sX] wN) = false := by
 refine item_fit [sR, sX] [] (by kernel_rfl) (by kernel_rfl) (.inr (ruleOf_ok _).1) ?_ (by kernel_rfl) (by kernel_rfl) ?_ (by kernel_rfl)
 ·rw [uses_reg (show (regI sR b 7 [sR, sX] wN).kind.1 = 4 from rfl), List.all_cons, List.all_nil, Bool.and_true]
  exact gok b _ _ _ _ wN_ok (by simp) _ _
 ·exact (ruleOf_ok (byteL b 8)).2
theorem cell3 (l : List Module) (b : List Nat) : itemBad l (cellM b) 3 (wireI sT wN (gen b [sR] wN 1 9)) = false := by
 have h : okE [sR] [] [sW] (gen b [sR] wN 1 9) = true := gok b _ _ _ _ wN_ok (by simp) _ _
 refine item_fit [sR] [] (by kernel_rfl) (by kernel_rfl) (.inl (by kernel_rfl)) ?_ (by kernel_rfl) (by kernel_rfl) (by kernel_rfl) ?_
 ·rw [uses_wire (by rfl), List.all_cons, List.all_nil, Bool.and_true]
  exact h
 ·exact wire_ok (m := cellM b) (x := wireI sT wN (gen b [sR] wN 1 9)) h (by kernel_rfl) (by kernel_rfl)
theorem cell4 (l : List Module) (b : List Nat) : itemBad l (cellM b) 4 (takeI sX (cond b [sR, sT] wN 1 11)) = false := by
 have h : okE [sR, sT] [] [sW] (cond b [sR, sT] wN 1 11) = true := cok b _ _ _ _ wN_ok (by simp) _ _
 refine item_fit [sR, sT] [] (by kernel_rfl) (by kernel_rfl) (.inl (by kernel_rfl)) ?_ (by kernel_rfl) (by kernel_rfl) (by kernel_rfl) ?_
 ·rw [uses_take (by rfl), List.all_cons, List.all_nil, Bool.and_true]
  exact h
 ·refine early_ok (m := cellM b) (x := takeI sX (cond b [sR, sT] wN 1 11)) h ?_
  intro n hn
  simp only [List.mem_cons, List.not_mem_nil, or_false] at hn
  rcases hn with rfl | rfl
  ·exact .inl ⟨by kernel_rfl, by kernel_rfl⟩
  ·refine .inr ⟨by kernel_rfl, [sR], [], gok b _ _ _ _ wN_ok (by simp) 1 9, by kernel_rfl, by kernel_rfl⟩
theorem cell5 (l : List Module) (b : List Nat) : itemBad l (cellM b) 5 (putI sY (cond b [sR, sX, sT] wN 1 13) (gen b [sR, sX, sT] wN 1 15)) = false := by
 refine item_fit [sR, sX, sT] [] (by kernel_rfl) (by kernel_rfl) (.inl (by kernel_rfl)) ?_ (by kernel_rfl) (by kernel_rfl) (by kernel_rfl) (by kernel_rfl)
 rw [uses_put (by rfl), List.all_cons, List.all_cons, List.all_nil, Bool.and_true]
 show (okE [sR, sX, sT] [] [sW] (cond b [sR, sX, sT] wN 1 13) && okE [sR, sX, sT] [] [sW] (gen b [sR, sX, sT] wN 1 15)) = true
 rw [gok b _ _ _ _ wN_ok (by simp) _ _, cok b _ _ _ _ wN_ok (by simp) _ _]; rfl
theorem cell_items (l : List Module) (b : List Nat) : ((cellM b).items.zipIdx.any fun q => itemBad l (cellM b) q.2 q.1) = false := by
 show (itemBad l (cellM b) 0 _ || (itemBad l (cellM b) 1 _ || (itemBad l (cellM b) 2 _ || (itemBad l (cellM b) 3 _ || (itemBad l (cellM b) 4 _ || (itemBad l (cellM b) 5 _ || false)))))) = false
 rw [cell0, cell1, cell2, cell3, cell4, cell5]; rfl
end Go.Proofs.Ytejpmjnefokdoaa

namespace Go.Proofs.Ytejpmjnefokdoaa
open Go.Aw
set_option maxRecDepth 100000
theorem zip_nil {l : List Module} {m : Module} {k : Nat} : (([] : List Item).zipIdx k).any (fun q => itemBad l m q.2 q.1) = false := rfl
theorem zip_cons {l : List Module} {m : Module} {k : Nat} {x : Item} {r : List Item} (h1 : itemBad l m k x = false) (h2 : (r.zipIdx (k + 1)).any (fun q => itemBad l m q.2 q.1) = false) : ((x :: r).zipIdx k).any (fun q => itemBad l m q.2 q.1) = false := by
 rw [List.zipIdx_cons, List.any_cons, h1, h2]; rfl
def dataT (mem : Bool) (l : List Nat) (w : Num) (c0 : Str) : Expr := match mem with
 | true => .mk 5 emp zNum zNum [gen l [sR, sS, sT, c0] w 1 8, .mk 15 sM zNum zNum [gen l [sR, sS] w 0 10]]
 | false => gen l [sR, sS, sT, c0] w 1 8
def ownT (mem : Bool) (l : List Nat) (w : Num) (c0 c1 : Str) (z : List Item) : List Item := match mem with
 | true => regI sR l 2 [sR, sS, sT, c0] w :: regI sS l 4 [sS, sR, c0] w :: wireI sT w (gen l [sR, sS] w 1 6) :: memI l w c0 :: takeI c0 (cond l [sR, sS] w 1 18) :: putI c1 (cond l [sR, sS, sT, c0] w 1 20) (dataT true l w c0) :: z
 | false => regI sR l 2 [sR, sS, sT, c0] w :: regI sS l 4 [sS, sR, c0] w :: wireI sT w (gen l [sR, sS] w 1 6) :: takeI c0 (cond l [sR, sS] w 1 18) :: putI c1 (cond l [sR, sS, sT, c0] w 1 20) (dataT false l w c0) :: z
theorem ownL_T (l : List Nat) (w : Num) (c0 c1 : Str) (z : List Item) : ∃ mem, ownL l w c0 c1 ++ z = ownT mem l w c0 c1 z := by
 unfold ownL ownHead ownMem ownTail ownData
 by_cases h : byteL l 0 % 2 = 1
 ·refine ⟨true, ?_⟩
  simp only [if_pos h]; rfl
 ·refine ⟨false, ?_⟩
  simp only [if_neg h]; rfl
theorem rawW_ok (x : Raw) : okN [] (rawW x) = true := okN_nat _ _
theorem data_ok (l : List Nat) (w : Num) (c0 : Str) (hw : okN [] w = true) : okE [sR, sS, sT, c0] [sM] [] (dataT true l w c0) = true := by
 show okE [sR, sS, sT, c0] [sM] [] (.mk 5 emp zNum zNum [gen l [sR, sS, sT, c0] w 1 8, .mk 15 sM zNum zNum [gen l [sR, sS] w 0 10]]) = true
 have h1 : okE [sR, sS, sT, c0] [sM] [] (gen l [sR, sS, sT, c0] w 1 8) = true := gok l _ _ _ _ hw (by simp) _ _
 have h2 : okE [sR, sS] [sM] [] (gen l [sR, sS] w 0 10) = true := gok l _ _ _ _ hw (by simp) _ _
 have h2' : okE [sR, sS, sT, c0] [sM] [] (gen l [sR, sS] w 0 10) = true := by
  unfold okE at *
  rw [List.all_eq_true] at *
  intro q hq
  have h3 := h2 q hq
  unfold okQ at *
  simp only [Bool.and_eq_true, Bool.or_eq_true] at *
  refine ⟨⟨⟨h3.1.1.1, ?_⟩, h3.1.2⟩, h3.2⟩
  rcases h3.1.1.2 with h4 | h4
  ·exact .inl h4
  ·refine .inr (has_sub (fun s hs => ?_) h4)
   simp only [List.mem_cons, List.not_mem_nil, or_false] at hs ⊢
   rcases hs with h | h
   ·exact .inl h
   ·exact .inr (.inl h)
 have hz : okN [] zNum = true := okN_nat _ 0
 unfold okE at h1 h2'
 rw [okE_mk, okQ_plain _ _ _ _ _ rfl rfl rfl _ hz, allL_all, List.all_cons, List.all_cons, List.all_nil, h1, Expr.all_eq, List.all_cons]
 simp only [Bool.true_and, Bool.and_true, Expr.args]
 rw [allL_all, List.all_cons, List.all_nil, h2']
 simp only [Bool.and_true]
 rfl
def top0 (mem : Bool) (x : Raw) : Module := ⟨sTop, clockOf (1 + x.w / 16), [], inA x :: outB x :: ownT mem x.l (rawW x) sA sB []⟩
theorem top0_items (mem : Bool) (x : Raw) : ((top0 mem x).items.zipIdx.any fun q => itemBad [top0 mem x] (top0 mem x) q.2 q.1) = false := by
 cases mem
 ·refine zip_cons ?_ (zip_cons ?_ (zip_cons ?_ (zip_cons ?_ (zip_cons ?_ (zip_cons ?_ (zip_cons ?_ zip_nil))))))
  ·exact item_fit [] [] (by kernel_rfl) (by kernel_rfl) (.inl (by kernel_rfl)) (by kernel_rfl) (by kernel_rfl) (by kernel_rfl) (by kernel_rfl) (by kernel_rfl)
  ·exact item_fit [] [] (by kernel_rfl) (by kernel_rfl) (.inl (by kernel_rfl)) (by kernel_rfl) (by kernel_rfl) (by kernel_rfl) (by kernel_rfl) (by kernel_rfl)
  ·refine item_fit [sR, sS, sT, sA] [] (by kernel_rfl) (by kernel_rfl) (.inr (ruleOf_ok _).1) ?_ (by kernel_rfl) (by kernel_rfl) (ruleOf_ok (byteL x.l 3)).2 (by kernel_rfl)
   rw [uses_reg (by rfl), List.all_cons, List.all_nil, Bool.and_true]
   exact gok x.l _ _ _ _ (rawW_ok x) (by simp) _ _
  ·refine item_fit [sS, sR, sA] [] (by kernel_rfl) (by kernel_rfl) (.inr (ruleOf_ok _).1) ?_ (by kernel_rfl) (by kernel_rfl) (ruleOf_ok (byteL x.l 5)).2 (by kernel_rfl)
   rw [uses_reg (by rfl), List.all_cons, List.all_nil, Bool.and_true]
   exact gok x.l _ _ _ _ (rawW_ok x) (by simp) _ _
  ·have h : okE [sR, sS] [] [] (gen x.l [sR, sS] (rawW x) 1 6) = true := gok x.l _ _ _ _ (rawW_ok x) (by simp) _ _
   refine item_fit [sR, sS] [] (by kernel_rfl) (by kernel_rfl) (.inl (by kernel_rfl)) ?_ (by kernel_rfl) (by kernel_rfl) (by kernel_rfl) ?_
   ·rw [uses_wire (by rfl), List.all_cons, List.all_nil, Bool.and_true]
    exact h
   ·exact wire_ok (x := wireI sT (rawW x) (gen x.l [sR, sS] (rawW x) 1 6)) h (by kernel_rfl) (by kernel_rfl)
  ·have h : okE [sR, sS] [] [] (cond x.l [sR, sS] (rawW x) 1 18) = true := cok x.l _ _ _ _ (rawW_ok x) (by simp) _ _
   refine item_fit [sR, sS] [] (by kernel_rfl) (by kernel_rfl) (.inl (by kernel_rfl)) ?_ (by kernel_rfl) (by kernel_rfl) (by kernel_rfl) ?_
   ·rw [uses_take (by rfl), List.all_cons, List.all_nil, Bool.and_true]
    exact h
   ·refine early_ok (x := takeI sA (cond x.l [sR, sS] (rawW x) 1 18)) h ?_
    intro n hn
    simp only [List.mem_cons, List.not_mem_nil, or_false] at hn
    rcases hn with rfl | rfl
    ·exact .inl ⟨by kernel_rfl, by kernel_rfl⟩
    ·exact .inl ⟨by kernel_rfl, by kernel_rfl⟩
  ·refine item_fit [sR, sS, sT, sA] [] (by kernel_rfl) (by kernel_rfl) (.inl (by kernel_rfl)) ?_ (by kernel_rfl) (by kernel_rfl) (by kernel_rfl) (by kernel_rfl)
   rw [uses_put (by rfl), List.all_cons, List.all_cons, List.all_nil, Bool.and_true]
   show (okE [sR, sS, sT, sA] [] [] (cond x.l [sR, sS, sT, sA] (rawW x) 1 20) && okE [sR, sS, sT, sA] [] [] (gen x.l [sR, sS, sT, sA] (rawW x) 1 8)) = true
   rw [cok x.l _ _ _ _ (rawW_ok x) (by simp) _ _, gok x.l _ _ _ _ (rawW_ok x) (by simp) _ _]; rfl
 ·refine zip_cons ?_ (zip_cons ?_ (zip_cons ?_ (zip_cons ?_ (zip_cons ?_ (zip_cons ?_ (zip_cons ?_ (zip_cons ?_ zip_nil)))))))
  ·exact item_fit [] [] (by kernel_rfl) (by kernel_rfl) (.inl (by kernel_rfl)) (by kernel_rfl) (by kernel_rfl) (by kernel_rfl) (by kernel_rfl) (by kernel_rfl)
  ·exact item_fit [] [] (by kernel_rfl) (by kernel_rfl) (.inl (by kernel_rfl)) (by kernel_rfl) (by kernel_rfl) (by kernel_rfl) (by kernel_rfl) (by kernel_rfl)
  ·refine item_fit [sR, sS, sT, sA] [] (by kernel_rfl) (by kernel_rfl) (.inr (ruleOf_ok _).1) ?_ (by kernel_rfl) (by kernel_rfl) (ruleOf_ok (byteL x.l 3)).2 (by kernel_rfl)
   rw [uses_reg (by rfl), List.all_cons, List.all_nil, Bool.and_true]
   exact gok x.l _ _ _ _ (rawW_ok x) (by simp) _ _
  ·refine item_fit [sS, sR, sA] [] (by kernel_rfl) (by kernel_rfl) (.inr (ruleOf_ok _).1) ?_ (by kernel_rfl) (by kernel_rfl) (ruleOf_ok (byteL x.l 5)).2 (by kernel_rfl)
   rw [uses_reg (by rfl), List.all_cons, List.all_nil, Bool.and_true]
   exact gok x.l _ _ _ _ (rawW_ok x) (by simp) _ _
  ·have h : okE [sR, sS] [] [] (gen x.l [sR, sS] (rawW x) 1 6) = true := gok x.l _ _ _ _ (rawW_ok x) (by simp) _ _
   refine item_fit [sR, sS] [] (by kernel_rfl) (by kernel_rfl) (.inl (by kernel_rfl)) ?_ (by kernel_rfl) (by kernel_rfl) (by kernel_rfl) ?_
   ·rw [uses_wire (by rfl), List.all_cons, List.all_nil, Bool.and_true]
    exact h
   ·exact wire_ok (x := wireI sT (rawW x) (gen x.l [sR, sS] (rawW x) 1 6)) h (by kernel_rfl) (by kernel_rfl)
  ·refine item_fit [sR, sS, sT, sA] [] (by kernel_rfl) (by kernel_rfl) (.inr (ruleOf_ok _).1) ?_ (by kernel_rfl) ?_ (ruleOf_ok (byteL x.l 3)).2 (by kernel_rfl)
   ·rw [uses_mem (by rfl), List.all_cons, List.all_cons, List.all_cons, List.all_nil, Bool.and_true]
    show (okE [sR, sS, sT, sA] [] [] (cond x.l [sR, sS, sT, sA] (rawW x) 1 12) && (okE [sR, sS, sT, sA] [] [] (gen x.l [sR, sS, sT, sA] (rawW x) 0 14) && okE [sR, sS, sT, sA] [] [] (gen x.l [sR, sS, sT, sA] (rawW x) 1 16))) = true
    rw [gok x.l _ _ _ _ (rawW_ok x) (by simp) _ _, gok x.l _ _ _ _ (rawW_ok x) (by simp) _ _, cok x.l _ _ _ _ (rawW_ok x) (by simp) _ _]; rfl
   ·show (okN [] (rawW x) && (okN [] (depthN x.l) && true)) = true
    rw [rawW_ok, show okN [] (depthN x.l) = true from okN_nat _ _]; rfl
  ·have h : okE [sR, sS] [] [] (cond x.l [sR, sS] (rawW x) 1 18) = true := cok x.l _ _ _ _ (rawW_ok x) (by simp) _ _
   refine item_fit [sR, sS] [] (by kernel_rfl) (by kernel_rfl) (.inl (by kernel_rfl)) ?_ (by kernel_rfl) (by kernel_rfl) (by kernel_rfl) ?_
   ·rw [uses_take (by rfl), List.all_cons, List.all_nil, Bool.and_true]
    exact h
   ·refine early_ok (x := takeI sA (cond x.l [sR, sS] (rawW x) 1 18)) h ?_
    intro n hn
    simp only [List.mem_cons, List.not_mem_nil, or_false] at hn
    rcases hn with rfl | rfl
    ·exact .inl ⟨by kernel_rfl, by kernel_rfl⟩
    ·exact .inl ⟨by kernel_rfl, by kernel_rfl⟩
  ·refine item_fit [sR, sS, sT, sA] [sM] (by kernel_rfl) (by kernel_rfl) (.inl (by kernel_rfl)) ?_ (by kernel_rfl) (by kernel_rfl) (by kernel_rfl) (by kernel_rfl)
   rw [uses_put (by rfl), List.all_cons, List.all_cons, List.all_nil, Bool.and_true]
   show (okE [sR, sS, sT, sA] [sM] [] (cond x.l [sR, sS, sT, sA] (rawW x) 1 20) && okE [sR, sS, sT, sA] [sM] [] (dataT true x.l (rawW x) sA)) = true
   rw [cok x.l _ _ _ _ (rawW_ok x) (by simp) _ _, data_ok _ _ _ (rawW_ok x)]; rfl
end Go.Proofs.Ytejpmjnefokdoaa

namespace Go.Proofs.Ytejpmjnefokdoaa
open Go.Aw
set_option maxRecDepth 100000
def two (o : Bool) (a b : Module) : List Module := match o with
 | true => [a, b]
 | false => [b, a]
def top1 (x : Raw) : Module := ⟨sTop, clockOf (1 + x.w / 16), [], [inA x, outB x, chC x, instI sU (rawW x) sA sC, instI sVV (rawW x) sC sB]⟩
theorem top1_items (o : Bool) (x : Raw) : ((top1 x).items.zipIdx.any fun q => itemBad (two o (top1 x) (cellM x.l)) (top1 x) q.2 q.1) = false := by
 cases o
 ·refine zip_cons ?_ (zip_cons ?_ (zip_cons ?_ (zip_cons ?_ (zip_cons ?_ zip_nil))))
  ·exact item_fit [] [] (by kernel_rfl) (by kernel_rfl) (.inl (by kernel_rfl)) (by kernel_rfl) (by kernel_rfl) (by kernel_rfl) (by kernel_rfl) (by kernel_rfl)
  ·exact item_fit [] [] (by kernel_rfl) (by kernel_rfl) (.inl (by kernel_rfl)) (by kernel_rfl) (by kernel_rfl) (by kernel_rfl) (by kernel_rfl) (by kernel_rfl)
  ·exact item_fit [] [] (by kernel_rfl) (by kernel_rfl) (.inl (by kernel_rfl)) (by kernel_rfl) (by kernel_rfl) (by kernel_rfl) (by kernel_rfl) (by kernel_rfl)
  ·exact item_fit [] [] (by kernel_rfl) (by kernel_rfl) (.inl (by kernel_rfl)) (by kernel_rfl) (by kernel_rfl) (by kernel_rfl) (by kernel_rfl) (by kernel_rfl)
  ·exact item_fit [] [] (by kernel_rfl) (by kernel_rfl) (.inl (by kernel_rfl)) (by kernel_rfl) (by kernel_rfl) (by kernel_rfl) (by kernel_rfl) (by kernel_rfl)
 ·refine zip_cons ?_ (zip_cons ?_ (zip_cons ?_ (zip_cons ?_ (zip_cons ?_ zip_nil))))
  ·exact item_fit [] [] (by kernel_rfl) (by kernel_rfl) (.inl (by kernel_rfl)) (by kernel_rfl) (by kernel_rfl) (by kernel_rfl) (by kernel_rfl) (by kernel_rfl)
  ·exact item_fit [] [] (by kernel_rfl) (by kernel_rfl) (.inl (by kernel_rfl)) (by kernel_rfl) (by kernel_rfl) (by kernel_rfl) (by kernel_rfl) (by kernel_rfl)
  ·exact item_fit [] [] (by kernel_rfl) (by kernel_rfl) (.inl (by kernel_rfl)) (by kernel_rfl) (by kernel_rfl) (by kernel_rfl) (by kernel_rfl) (by kernel_rfl)
  ·exact item_fit [] [] (by kernel_rfl) (by kernel_rfl) (.inl (by kernel_rfl)) (by kernel_rfl) (by kernel_rfl) (by kernel_rfl) (by kernel_rfl) (by kernel_rfl)
  ·exact item_fit [] [] (by kernel_rfl) (by kernel_rfl) (.inl (by kernel_rfl)) (by kernel_rfl) (by kernel_rfl) (by kernel_rfl) (by kernel_rfl) (by kernel_rfl)
def top2 (mem : Bool) (x : Raw) : Module := ⟨sTop, clockOf (1 + x.w / 16), [], inA x :: outB x :: chC x :: instI sU (rawW x) sA sC :: ownT mem x.l (rawW x) sC sB []⟩
theorem top2_items (o mem : Bool) (x : Raw) : ((top2 mem x).items.zipIdx.any fun q => itemBad (two o (top2 mem x) (cellM x.l)) (top2 mem x) q.2 q.1) = false := by
 cases o <;> cases mem
 ·refine zip_cons ?_ (zip_cons ?_ (zip_cons ?_ (zip_cons ?_ (zip_cons ?_ (zip_cons ?_ (zip_cons ?_ (zip_cons ?_ (zip_cons ?_ zip_nil))))))))
  ·exact item_fit [] [] (by kernel_rfl) (by kernel_rfl) (.inl (by kernel_rfl)) (by kernel_rfl) (by kernel_rfl) (by kernel_rfl) (by kernel_rfl) (by kernel_rfl)
  ·exact item_fit [] [] (by kernel_rfl) (by kernel_rfl) (.inl (by kernel_rfl)) (by kernel_rfl) (by kernel_rfl) (by kernel_rfl) (by kernel_rfl) (by kernel_rfl)
  ·exact item_fit [] [] (by kernel_rfl) (by kernel_rfl) (.inl (by kernel_rfl)) (by kernel_rfl) (by kernel_rfl) (by kernel_rfl) (by kernel_rfl) (by kernel_rfl)
  ·exact item_fit [] [] (by kernel_rfl) (by kernel_rfl) (.inl (by kernel_rfl)) (by kernel_rfl) (by kernel_rfl) (by kernel_rfl) (by kernel_rfl) (by kernel_rfl)
  ·refine item_fit [sR, sS, sT, sC] [] (by kernel_rfl) (by kernel_rfl) (.inr (ruleOf_ok _).1) ?_ (by kernel_rfl) (by kernel_rfl) (ruleOf_ok (byteL x.l 3)).2 (by kernel_rfl)
   rw [uses_reg (by rfl), List.all_cons, List.all_nil, Bool.and_true]
   exact gok x.l _ _ _ _ (rawW_ok x) (by simp) _ _
  ·refine item_fit [sS, sR, sC] [] (by kernel_rfl) (by kernel_rfl) (.inr (ruleOf_ok _).1) ?_ (by kernel_rfl) (by kernel_rfl) (ruleOf_ok (byteL x.l 5)).2 (by kernel_rfl)
   rw [uses_reg (by rfl), List.all_cons, List.all_nil, Bool.and_true]
   exact gok x.l _ _ _ _ (rawW_ok x) (by simp) _ _
  ·have h : okE [sR, sS] [] [] (gen x.l [sR, sS] (rawW x) 1 6) = true := gok x.l _ _ _ _ (rawW_ok x) (by simp) _ _
   refine item_fit [sR, sS] [] (by kernel_rfl) (by kernel_rfl) (.inl (by kernel_rfl)) ?_ (by kernel_rfl) (by kernel_rfl) (by kernel_rfl) ?_
   ·rw [uses_wire (by rfl), List.all_cons, List.all_nil, Bool.and_true]
    exact h
   ·exact wire_ok (x := wireI sT (rawW x) (gen x.l [sR, sS] (rawW x) 1 6)) h (by kernel_rfl) (by kernel_rfl)
  ·have h : okE [sR, sS] [] [] (cond x.l [sR, sS] (rawW x) 1 18) = true := cok x.l _ _ _ _ (rawW_ok x) (by simp) _ _
   refine item_fit [sR, sS] [] (by kernel_rfl) (by kernel_rfl) (.inl (by kernel_rfl)) ?_ (by kernel_rfl) (by kernel_rfl) (by kernel_rfl) ?_
   ·rw [uses_take (by rfl), List.all_cons, List.all_nil, Bool.and_true]
    exact h
   ·refine early_ok (x := takeI sC (cond x.l [sR, sS] (rawW x) 1 18)) h ?_
    intro n hn
    simp only [List.mem_cons, List.not_mem_nil, or_false] at hn
    rcases hn with rfl | rfl
    ·exact .inl ⟨by kernel_rfl, by kernel_rfl⟩
    ·exact .inl ⟨by kernel_rfl, by kernel_rfl⟩
  ·refine item_fit [sR, sS, sT, sC] [] (by kernel_rfl) (by kernel_rfl) (.inl (by kernel_rfl)) ?_ (by kernel_rfl) (by kernel_rfl) (by kernel_rfl) (by kernel_rfl)
   rw [uses_put (by rfl), List.all_cons, List.all_cons, List.all_nil, Bool.and_true]
   show (okE [sR, sS, sT, sC] [] [] (cond x.l [sR, sS, sT, sC] (rawW x) 1 20) && okE [sR, sS, sT, sC] [] [] (gen x.l [sR, sS, sT, sC] (rawW x) 1 8)) = true
   rw [cok x.l _ _ _ _ (rawW_ok x) (by simp) _ _, gok x.l _ _ _ _ (rawW_ok x) (by simp) _ _]; rfl
 ·refine zip_cons ?_ (zip_cons ?_ (zip_cons ?_ (zip_cons ?_ (zip_cons ?_ (zip_cons ?_ (zip_cons ?_ (zip_cons ?_ (zip_cons ?_ (zip_cons ?_ zip_nil)))))))))
  ·exact item_fit [] [] (by kernel_rfl) (by kernel_rfl) (.inl (by kernel_rfl)) (by kernel_rfl) (by kernel_rfl) (by kernel_rfl) (by kernel_rfl) (by kernel_rfl)
  ·exact item_fit [] [] (by kernel_rfl) (by kernel_rfl) (.inl (by kernel_rfl)) (by kernel_rfl) (by kernel_rfl) (by kernel_rfl) (by kernel_rfl) (by kernel_rfl)
  ·exact item_fit [] [] (by kernel_rfl) (by kernel_rfl) (.inl (by kernel_rfl)) (by kernel_rfl) (by kernel_rfl) (by kernel_rfl) (by kernel_rfl) (by kernel_rfl)
  ·exact item_fit [] [] (by kernel_rfl) (by kernel_rfl) (.inl (by kernel_rfl)) (by kernel_rfl) (by kernel_rfl) (by kernel_rfl) (by kernel_rfl) (by kernel_rfl)
  ·refine item_fit [sR, sS, sT, sC] [] (by kernel_rfl) (by kernel_rfl) (.inr (ruleOf_ok _).1) ?_ (by kernel_rfl) (by kernel_rfl) (ruleOf_ok (byteL x.l 3)).2 (by kernel_rfl)
   rw [uses_reg (by rfl), List.all_cons, List.all_nil, Bool.and_true]
   exact gok x.l _ _ _ _ (rawW_ok x) (by simp) _ _
  ·refine item_fit [sS, sR, sC] [] (by kernel_rfl) (by kernel_rfl) (.inr (ruleOf_ok _).1) ?_ (by kernel_rfl) (by kernel_rfl) (ruleOf_ok (byteL x.l 5)).2 (by kernel_rfl)
   rw [uses_reg (by rfl), List.all_cons, List.all_nil, Bool.and_true]
   exact gok x.l _ _ _ _ (rawW_ok x) (by simp) _ _
  ·have h : okE [sR, sS] [] [] (gen x.l [sR, sS] (rawW x) 1 6) = true := gok x.l _ _ _ _ (rawW_ok x) (by simp) _ _
   refine item_fit [sR, sS] [] (by kernel_rfl) (by kernel_rfl) (.inl (by kernel_rfl)) ?_ (by kernel_rfl) (by kernel_rfl) (by kernel_rfl) ?_
   ·rw [uses_wire (by rfl), List.all_cons, List.all_nil, Bool.and_true]
    exact h
   ·exact wire_ok (x := wireI sT (rawW x) (gen x.l [sR, sS] (rawW x) 1 6)) h (by kernel_rfl) (by kernel_rfl)
  ·refine item_fit [sR, sS, sT, sC] [] (by kernel_rfl) (by kernel_rfl) (.inr (ruleOf_ok _).1) ?_ (by kernel_rfl) ?_ (ruleOf_ok (byteL x.l 3)).2 (by kernel_rfl)
   ·rw [uses_mem (by rfl), List.all_cons, List.all_cons, List.all_cons, List.all_nil, Bool.and_true]
    show (okE [sR, sS, sT, sC] [] [] (cond x.l [sR, sS, sT, sC] (rawW x) 1 12) && (okE [sR, sS, sT, sC] [] [] (gen x.l [sR, sS, sT, sC] (rawW x) 0 14) && okE [sR, sS, sT, sC] [] [] (gen x.l [sR, sS, sT, sC] (rawW x) 1 16))) = true
    rw [gok x.l _ _ _ _ (rawW_ok x) (by simp) _ _, gok x.l _ _ _ _ (rawW_ok x) (by simp) _ _, cok x.l _ _ _ _ (rawW_ok x) (by simp) _ _]; rfl
   ·show (okN [] (rawW x) && (okN [] (depthN x.l) && true)) = true
    rw [rawW_ok, show okN [] (depthN x.l) = true from okN_nat _ _]; rfl
  ·have h : okE [sR, sS] [] [] (cond x.l [sR, sS] (rawW x) 1 18) = true := cok x.l _ _ _ _ (rawW_ok x) (by simp) _ _
   refine item_fit [sR, sS] [] (by kernel_rfl) (by kernel_rfl) (.inl (by kernel_rfl)) ?_ (by kernel_rfl) (by kernel_rfl) (by kernel_rfl) ?_
   ·rw [uses_take (by rfl), List.all_cons, List.all_nil, Bool.and_true]
    exact h
   ·refine early_ok (x := takeI sC (cond x.l [sR, sS] (rawW x) 1 18)) h ?_
    intro n hn
    simp only [List.mem_cons, List.not_mem_nil, or_false] at hn
    rcases hn with rfl | rfl
    ·exact .inl ⟨by kernel_rfl, by kernel_rfl⟩
    ·exact .inl ⟨by kernel_rfl, by kernel_rfl⟩
  ·refine item_fit [sR, sS, sT, sC] [sM] (by kernel_rfl) (by kernel_rfl) (.inl (by kernel_rfl)) ?_ (by kernel_rfl) (by kernel_rfl) (by kernel_rfl) (by kernel_rfl)
   rw [uses_put (by rfl), List.all_cons, List.all_cons, List.all_nil, Bool.and_true]
   show (okE [sR, sS, sT, sC] [sM] [] (cond x.l [sR, sS, sT, sC] (rawW x) 1 20) && okE [sR, sS, sT, sC] [sM] [] (dataT true x.l (rawW x) sC)) = true
   rw [cok x.l _ _ _ _ (rawW_ok x) (by simp) _ _, data_ok _ _ _ (rawW_ok x)]; rfl
 ·refine zip_cons ?_ (zip_cons ?_ (zip_cons ?_ (zip_cons ?_ (zip_cons ?_ (zip_cons ?_ (zip_cons ?_ (zip_cons ?_ (zip_cons ?_ zip_nil))))))))
  ·exact item_fit [] [] (by kernel_rfl) (by kernel_rfl) (.inl (by kernel_rfl)) (by kernel_rfl) (by kernel_rfl) (by kernel_rfl) (by kernel_rfl) (by kernel_rfl)
  ·exact item_fit [] [] (by kernel_rfl) (by kernel_rfl) (.inl (by kernel_rfl)) (by kernel_rfl) (by kernel_rfl) (by kernel_rfl) (by kernel_rfl) (by kernel_rfl)
  ·exact item_fit [] [] (by kernel_rfl) (by kernel_rfl) (.inl (by kernel_rfl)) (by kernel_rfl) (by kernel_rfl) (by kernel_rfl) (by kernel_rfl) (by kernel_rfl)
  ·exact item_fit [] [] (by kernel_rfl) (by kernel_rfl) (.inl (by kernel_rfl)) (by kernel_rfl) (by kernel_rfl) (by kernel_rfl) (by kernel_rfl) (by kernel_rfl)
  ·refine item_fit [sR, sS, sT, sC] [] (by kernel_rfl) (by kernel_rfl) (.inr (ruleOf_ok _).1) ?_ (by kernel_rfl) (by kernel_rfl) (ruleOf_ok (byteL x.l 3)).2 (by kernel_rfl)
   rw [uses_reg (by rfl), List.all_cons, List.all_nil, Bool.and_true]
   exact gok x.l _ _ _ _ (rawW_ok x) (by simp) _ _
  ·refine item_fit [sS, sR, sC] [] (by kernel_rfl) (by kernel_rfl) (.inr (ruleOf_ok _).1) ?_ (by kernel_rfl) (by kernel_rfl) (ruleOf_ok (byteL x.l 5)).2 (by kernel_rfl)
   rw [uses_reg (by rfl), List.all_cons, List.all_nil, Bool.and_true]
   exact gok x.l _ _ _ _ (rawW_ok x) (by simp) _ _
  ·have h : okE [sR, sS] [] [] (gen x.l [sR, sS] (rawW x) 1 6) = true := gok x.l _ _ _ _ (rawW_ok x) (by simp) _ _
   refine item_fit [sR, sS] [] (by kernel_rfl) (by kernel_rfl) (.inl (by kernel_rfl)) ?_ (by kernel_rfl) (by kernel_rfl) (by kernel_rfl) ?_
   ·rw [uses_wire (by rfl), List.all_cons, List.all_nil, Bool.and_true]
    exact h
   ·exact wire_ok (x := wireI sT (rawW x) (gen x.l [sR, sS] (rawW x) 1 6)) h (by kernel_rfl) (by kernel_rfl)
  ·have h : okE [sR, sS] [] [] (cond x.l [sR, sS] (rawW x) 1 18) = true := cok x.l _ _ _ _ (rawW_ok x) (by simp) _ _
   refine item_fit [sR, sS] [] (by kernel_rfl) (by kernel_rfl) (.inl (by kernel_rfl)) ?_ (by kernel_rfl) (by kernel_rfl) (by kernel_rfl) ?_
   ·rw [uses_take (by rfl), List.all_cons, List.all_nil, Bool.and_true]
    exact h
   ·refine early_ok (x := takeI sC (cond x.l [sR, sS] (rawW x) 1 18)) h ?_
    intro n hn
    simp only [List.mem_cons, List.not_mem_nil, or_false] at hn
    rcases hn with rfl | rfl
    ·exact .inl ⟨by kernel_rfl, by kernel_rfl⟩
    ·exact .inl ⟨by kernel_rfl, by kernel_rfl⟩
  ·refine item_fit [sR, sS, sT, sC] [] (by kernel_rfl) (by kernel_rfl) (.inl (by kernel_rfl)) ?_ (by kernel_rfl) (by kernel_rfl) (by kernel_rfl) (by kernel_rfl)
   rw [uses_put (by rfl), List.all_cons, List.all_cons, List.all_nil, Bool.and_true]
   show (okE [sR, sS, sT, sC] [] [] (cond x.l [sR, sS, sT, sC] (rawW x) 1 20) && okE [sR, sS, sT, sC] [] [] (gen x.l [sR, sS, sT, sC] (rawW x) 1 8)) = true
   rw [cok x.l _ _ _ _ (rawW_ok x) (by simp) _ _, gok x.l _ _ _ _ (rawW_ok x) (by simp) _ _]; rfl
 ·refine zip_cons ?_ (zip_cons ?_ (zip_cons ?_ (zip_cons ?_ (zip_cons ?_ (zip_cons ?_ (zip_cons ?_ (zip_cons ?_ (zip_cons ?_ (zip_cons ?_ zip_nil)))))))))
  ·exact item_fit [] [] (by kernel_rfl) (by kernel_rfl) (.inl (by kernel_rfl)) (by kernel_rfl) (by kernel_rfl) (by kernel_rfl) (by kernel_rfl) (by kernel_rfl)
  ·exact item_fit [] [] (by kernel_rfl) (by kernel_rfl) (.inl (by kernel_rfl)) (by kernel_rfl) (by kernel_rfl) (by kernel_rfl) (by kernel_rfl) (by kernel_rfl)
  ·exact item_fit [] [] (by kernel_rfl) (by kernel_rfl) (.inl (by kernel_rfl)) (by kernel_rfl) (by kernel_rfl) (by kernel_rfl) (by kernel_rfl) (by kernel_rfl)
  ·exact item_fit [] [] (by kernel_rfl) (by kernel_rfl) (.inl (by kernel_rfl)) (by kernel_rfl) (by kernel_rfl) (by kernel_rfl) (by kernel_rfl) (by kernel_rfl)
  ·refine item_fit [sR, sS, sT, sC] [] (by kernel_rfl) (by kernel_rfl) (.inr (ruleOf_ok _).1) ?_ (by kernel_rfl) (by kernel_rfl) (ruleOf_ok (byteL x.l 3)).2 (by kernel_rfl)
   rw [uses_reg (by rfl), List.all_cons, List.all_nil, Bool.and_true]
   exact gok x.l _ _ _ _ (rawW_ok x) (by simp) _ _
  ·refine item_fit [sS, sR, sC] [] (by kernel_rfl) (by kernel_rfl) (.inr (ruleOf_ok _).1) ?_ (by kernel_rfl) (by kernel_rfl) (ruleOf_ok (byteL x.l 5)).2 (by kernel_rfl)
   rw [uses_reg (by rfl), List.all_cons, List.all_nil, Bool.and_true]
   exact gok x.l _ _ _ _ (rawW_ok x) (by simp) _ _
  ·have h : okE [sR, sS] [] [] (gen x.l [sR, sS] (rawW x) 1 6) = true := gok x.l _ _ _ _ (rawW_ok x) (by simp) _ _
   refine item_fit [sR, sS] [] (by kernel_rfl) (by kernel_rfl) (.inl (by kernel_rfl)) ?_ (by kernel_rfl) (by kernel_rfl) (by kernel_rfl) ?_
   ·rw [uses_wire (by rfl), List.all_cons, List.all_nil, Bool.and_true]
    exact h
   ·exact wire_ok (x := wireI sT (rawW x) (gen x.l [sR, sS] (rawW x) 1 6)) h (by kernel_rfl) (by kernel_rfl)
  ·refine item_fit [sR, sS, sT, sC] [] (by kernel_rfl) (by kernel_rfl) (.inr (ruleOf_ok _).1) ?_ (by kernel_rfl) ?_ (ruleOf_ok (byteL x.l 3)).2 (by kernel_rfl)
   ·rw [uses_mem (by rfl), List.all_cons, List.all_cons, List.all_cons, List.all_nil, Bool.and_true]
    show (okE [sR, sS, sT, sC] [] [] (cond x.l [sR, sS, sT, sC] (rawW x) 1 12) && (okE [sR, sS, sT, sC] [] [] (gen x.l [sR, sS, sT, sC] (rawW x) 0 14) && okE [sR, sS, sT, sC] [] [] (gen x.l [sR, sS, sT, sC] (rawW x) 1 16))) = true
    rw [gok x.l _ _ _ _ (rawW_ok x) (by simp) _ _, gok x.l _ _ _ _ (rawW_ok x) (by simp) _ _, cok x.l _ _ _ _ (rawW_ok x) (by simp) _ _]; rfl
   ·show (okN [] (rawW x) && (okN [] (depthN x.l) && true)) = true
    rw [rawW_ok, show okN [] (depthN x.l) = true from okN_nat _ _]; rfl
  ·have h : okE [sR, sS] [] [] (cond x.l [sR, sS] (rawW x) 1 18) = true := cok x.l _ _ _ _ (rawW_ok x) (by simp) _ _
   refine item_fit [sR, sS] [] (by kernel_rfl) (by kernel_rfl) (.inl (by kernel_rfl)) ?_ (by kernel_rfl) (by kernel_rfl) (by kernel_rfl) ?_
   ·rw [uses_take (by rfl), List.all_cons, List.all_nil, Bool.and_true]
    exact h
   ·refine early_ok (x := takeI sC (cond x.l [sR, sS] (rawW x) 1 18)) h ?_
    intro n hn
    simp only [List.mem_cons, List.not_mem_nil, or_false] at hn
    rcases hn with rfl | rfl
    ·exact .inl ⟨by kernel_rfl, by kernel_rfl⟩
    ·exact .inl ⟨by kernel_rfl, by kernel_rfl⟩
  ·refine item_fit [sR, sS, sT, sC] [sM] (by kernel_rfl) (by kernel_rfl) (.inl (by kernel_rfl)) ?_ (by kernel_rfl) (by kernel_rfl) (by kernel_rfl) (by kernel_rfl)
   rw [uses_put (by rfl), List.all_cons, List.all_cons, List.all_nil, Bool.and_true]
   show (okE [sR, sS, sT, sC] [sM] [] (cond x.l [sR, sS, sT, sC] (rawW x) 1 20) && okE [sR, sS, sT, sC] [sM] [] (dataT true x.l (rawW x) sC)) = true
   rw [cok x.l _ _ _ _ (rawW_ok x) (by simp) _ _, data_ok _ _ _ (rawW_ok x)]; rfl
def top3 (mem : Bool) (x : Raw) : Module := ⟨sTop, clockOf (1 + x.w / 16), [], outB x :: chC x :: chD x :: instI sU (rawW x) sC sD :: ownT mem x.l (rawW x) sD sC [putI sB (cond x.l [sR, sS] (rawW x) 1 22) (gen x.l [sR, sS] (rawW x) 1 24)]⟩
theorem top3_items (o mem : Bool) (x : Raw) : ((top3 mem x).items.zipIdx.any fun q => itemBad (two o (top3 mem x) (cellM x.l)) (top3 mem x) q.2 q.1) = false := by
 cases o <;> cases mem
 ·refine zip_cons ?_ (zip_cons ?_ (zip_cons ?_ (zip_cons ?_ (zip_cons ?_ (zip_cons ?_ (zip_cons ?_ (zip_cons ?_ (zip_cons ?_ (zip_cons ?_ zip_nil)))))))))
  ·exact item_fit [] [] (by kernel_rfl) (by kernel_rfl) (.inl (by kernel_rfl)) (by kernel_rfl) (by kernel_rfl) (by kernel_rfl) (by kernel_rfl) (by kernel_rfl)
  ·exact item_fit [] [] (by kernel_rfl) (by kernel_rfl) (.inl (by kernel_rfl)) (by kernel_rfl) (by kernel_rfl) (by kernel_rfl) (by kernel_rfl) (by kernel_rfl)
  ·exact item_fit [] [] (by kernel_rfl) (by kernel_rfl) (.inl (by kernel_rfl)) (by kernel_rfl) (by kernel_rfl) (by kernel_rfl) (by kernel_rfl) (by kernel_rfl)
  ·exact item_fit [] [] (by kernel_rfl) (by kernel_rfl) (.inl (by kernel_rfl)) (by kernel_rfl) (by kernel_rfl) (by kernel_rfl) (by kernel_rfl) (by kernel_rfl)
  ·refine item_fit [sR, sS, sT, sD] [] (by kernel_rfl) (by kernel_rfl) (.inr (ruleOf_ok _).1) ?_ (by kernel_rfl) (by kernel_rfl) (ruleOf_ok (byteL x.l 3)).2 (by kernel_rfl)
   rw [uses_reg (by rfl), List.all_cons, List.all_nil, Bool.and_true]
   exact gok x.l _ _ _ _ (rawW_ok x) (by simp) _ _
  ·refine item_fit [sS, sR, sD] [] (by kernel_rfl) (by kernel_rfl) (.inr (ruleOf_ok _).1) ?_ (by kernel_rfl) (by kernel_rfl) (ruleOf_ok (byteL x.l 5)).2 (by kernel_rfl)
   rw [uses_reg (by rfl), List.all_cons, List.all_nil, Bool.and_true]
   exact gok x.l _ _ _ _ (rawW_ok x) (by simp) _ _
  ·have h : okE [sR, sS] [] [] (gen x.l [sR, sS] (rawW x) 1 6) = true := gok x.l _ _ _ _ (rawW_ok x) (by simp) _ _
   refine item_fit [sR, sS] [] (by kernel_rfl) (by kernel_rfl) (.inl (by kernel_rfl)) ?_ (by kernel_rfl) (by kernel_rfl) (by kernel_rfl) ?_
   ·rw [uses_wire (by rfl), List.all_cons, List.all_nil, Bool.and_true]
    exact h
   ·exact wire_ok (x := wireI sT (rawW x) (gen x.l [sR, sS] (rawW x) 1 6)) h (by kernel_rfl) (by kernel_rfl)
  ·have h : okE [sR, sS] [] [] (cond x.l [sR, sS] (rawW x) 1 18) = true := cok x.l _ _ _ _ (rawW_ok x) (by simp) _ _
   refine item_fit [sR, sS] [] (by kernel_rfl) (by kernel_rfl) (.inl (by kernel_rfl)) ?_ (by kernel_rfl) (by kernel_rfl) (by kernel_rfl) ?_
   ·rw [uses_take (by rfl), List.all_cons, List.all_nil, Bool.and_true]
    exact h
   ·refine early_ok (x := takeI sD (cond x.l [sR, sS] (rawW x) 1 18)) h ?_
    intro n hn
    simp only [List.mem_cons, List.not_mem_nil, or_false] at hn
    rcases hn with rfl | rfl
    ·exact .inl ⟨by kernel_rfl, by kernel_rfl⟩
    ·exact .inl ⟨by kernel_rfl, by kernel_rfl⟩
  ·refine item_fit [sR, sS, sT, sD] [] (by kernel_rfl) (by kernel_rfl) (.inl (by kernel_rfl)) ?_ (by kernel_rfl) (by kernel_rfl) (by kernel_rfl) (by kernel_rfl)
   rw [uses_put (by rfl), List.all_cons, List.all_cons, List.all_nil, Bool.and_true]
   show (okE [sR, sS, sT, sD] [] [] (cond x.l [sR, sS, sT, sD] (rawW x) 1 20) && okE [sR, sS, sT, sD] [] [] (gen x.l [sR, sS, sT, sD] (rawW x) 1 8)) = true
   rw [cok x.l _ _ _ _ (rawW_ok x) (by simp) _ _, gok x.l _ _ _ _ (rawW_ok x) (by simp) _ _]; rfl
  ·refine item_fit [sR, sS] [] (by kernel_rfl) (by kernel_rfl) (.inl (by kernel_rfl)) ?_ (by kernel_rfl) (by kernel_rfl) (by kernel_rfl) (by kernel_rfl)
   rw [uses_put (by rfl), List.all_cons, List.all_cons, List.all_nil, Bool.and_true]
   show (okE [sR, sS] [] [] (cond x.l [sR, sS] (rawW x) 1 22) && okE [sR, sS] [] [] (gen x.l [sR, sS] (rawW x) 1 24)) = true
   rw [cok x.l _ _ _ _ (rawW_ok x) (by simp) _ _, gok x.l _ _ _ _ (rawW_ok x) (by simp) _ _]; rfl
 ·refine zip_cons ?_ (zip_cons ?_ (zip_cons ?_ (zip_cons ?_ (zip_cons ?_ (zip_cons ?_ (zip_cons ?_ (zip_cons ?_ (zip_cons ?_ (zip_cons ?_ (zip_cons ?_ zip_nil))))))))))
  ·exact item_fit [] [] (by kernel_rfl) (by kernel_rfl) (.inl (by kernel_rfl)) (by kernel_rfl) (by kernel_rfl) (by kernel_rfl) (by kernel_rfl) (by kernel_rfl)
  ·exact item_fit [] [] (by kernel_rfl) (by kernel_rfl) (.inl (by kernel_rfl)) (by kernel_rfl) (by kernel_rfl) (by kernel_rfl) (by kernel_rfl) (by kernel_rfl)
  ·exact item_fit [] [] (by kernel_rfl) (by kernel_rfl) (.inl (by kernel_rfl)) (by kernel_rfl) (by kernel_rfl) (by kernel_rfl) (by kernel_rfl) (by kernel_rfl)
  ·exact item_fit [] [] (by kernel_rfl) (by kernel_rfl) (.inl (by kernel_rfl)) (by kernel_rfl) (by kernel_rfl) (by kernel_rfl) (by kernel_rfl) (by kernel_rfl)
  ·refine item_fit [sR, sS, sT, sD] [] (by kernel_rfl) (by kernel_rfl) (.inr (ruleOf_ok _).1) ?_ (by kernel_rfl) (by kernel_rfl) (ruleOf_ok (byteL x.l 3)).2 (by kernel_rfl)
   rw [uses_reg (by rfl), List.all_cons, List.all_nil, Bool.and_true]
   exact gok x.l _ _ _ _ (rawW_ok x) (by simp) _ _
  ·refine item_fit [sS, sR, sD] [] (by kernel_rfl) (by kernel_rfl) (.inr (ruleOf_ok _).1) ?_ (by kernel_rfl) (by kernel_rfl) (ruleOf_ok (byteL x.l 5)).2 (by kernel_rfl)
   rw [uses_reg (by rfl), List.all_cons, List.all_nil, Bool.and_true]
   exact gok x.l _ _ _ _ (rawW_ok x) (by simp) _ _
  ·have h : okE [sR, sS] [] [] (gen x.l [sR, sS] (rawW x) 1 6) = true := gok x.l _ _ _ _ (rawW_ok x) (by simp) _ _
   refine item_fit [sR, sS] [] (by kernel_rfl) (by kernel_rfl) (.inl (by kernel_rfl)) ?_ (by kernel_rfl) (by kernel_rfl) (by kernel_rfl) ?_
   ·rw [uses_wire (by rfl), List.all_cons, List.all_nil, Bool.and_true]
    exact h
   ·exact wire_ok (x := wireI sT (rawW x) (gen x.l [sR, sS] (rawW x) 1 6)) h (by kernel_rfl) (by kernel_rfl)
  ·refine item_fit [sR, sS, sT, sD] [] (by kernel_rfl) (by kernel_rfl) (.inr (ruleOf_ok _).1) ?_ (by kernel_rfl) ?_ (ruleOf_ok (byteL x.l 3)).2 (by kernel_rfl)
   ·rw [uses_mem (by rfl), List.all_cons, List.all_cons, List.all_cons, List.all_nil, Bool.and_true]
    show (okE [sR, sS, sT, sD] [] [] (cond x.l [sR, sS, sT, sD] (rawW x) 1 12) && (okE [sR, sS, sT, sD] [] [] (gen x.l [sR, sS, sT, sD] (rawW x) 0 14) && okE [sR, sS, sT, sD] [] [] (gen x.l [sR, sS, sT, sD] (rawW x) 1 16))) = true
    rw [gok x.l _ _ _ _ (rawW_ok x) (by simp) _ _, gok x.l _ _ _ _ (rawW_ok x) (by simp) _ _, cok x.l _ _ _ _ (rawW_ok x) (by simp) _ _]; rfl
   ·show (okN [] (rawW x) && (okN [] (depthN x.l) && true)) = true
    rw [rawW_ok, show okN [] (depthN x.l) = true from okN_nat _ _]; rfl
  ·have h : okE [sR, sS] [] [] (cond x.l [sR, sS] (rawW x) 1 18) = true := cok x.l _ _ _ _ (rawW_ok x) (by simp) _ _
   refine item_fit [sR, sS] [] (by kernel_rfl) (by kernel_rfl) (.inl (by kernel_rfl)) ?_ (by kernel_rfl) (by kernel_rfl) (by kernel_rfl) ?_
   ·rw [uses_take (by rfl), List.all_cons, List.all_nil, Bool.and_true]
    exact h
   ·refine early_ok (x := takeI sD (cond x.l [sR, sS] (rawW x) 1 18)) h ?_
    intro n hn
    simp only [List.mem_cons, List.not_mem_nil, or_false] at hn
    rcases hn with rfl | rfl
    ·exact .inl ⟨by kernel_rfl, by kernel_rfl⟩
    ·exact .inl ⟨by kernel_rfl, by kernel_rfl⟩
  ·refine item_fit [sR, sS, sT, sD] [sM] (by kernel_rfl) (by kernel_rfl) (.inl (by kernel_rfl)) ?_ (by kernel_rfl) (by kernel_rfl) (by kernel_rfl) (by kernel_rfl)
   rw [uses_put (by rfl), List.all_cons, List.all_cons, List.all_nil, Bool.and_true]
   show (okE [sR, sS, sT, sD] [sM] [] (cond x.l [sR, sS, sT, sD] (rawW x) 1 20) && okE [sR, sS, sT, sD] [sM] [] (dataT true x.l (rawW x) sD)) = true
   rw [cok x.l _ _ _ _ (rawW_ok x) (by simp) _ _, data_ok _ _ _ (rawW_ok x)]; rfl
  ·refine item_fit [sR, sS] [] (by kernel_rfl) (by kernel_rfl) (.inl (by kernel_rfl)) ?_ (by kernel_rfl) (by kernel_rfl) (by kernel_rfl) (by kernel_rfl)
   rw [uses_put (by rfl), List.all_cons, List.all_cons, List.all_nil, Bool.and_true]
   show (okE [sR, sS] [] [] (cond x.l [sR, sS] (rawW x) 1 22) && okE [sR, sS] [] [] (gen x.l [sR, sS] (rawW x) 1 24)) = true
   rw [cok x.l _ _ _ _ (rawW_ok x) (by simp) _ _, gok x.l _ _ _ _ (rawW_ok x) (by simp) _ _]; rfl
 ·refine zip_cons ?_ (zip_cons ?_ (zip_cons ?_ (zip_cons ?_ (zip_cons ?_ (zip_cons ?_ (zip_cons ?_ (zip_cons ?_ (zip_cons ?_ (zip_cons ?_ zip_nil)))))))))
  ·exact item_fit [] [] (by kernel_rfl) (by kernel_rfl) (.inl (by kernel_rfl)) (by kernel_rfl) (by kernel_rfl) (by kernel_rfl) (by kernel_rfl) (by kernel_rfl)
  ·exact item_fit [] [] (by kernel_rfl) (by kernel_rfl) (.inl (by kernel_rfl)) (by kernel_rfl) (by kernel_rfl) (by kernel_rfl) (by kernel_rfl) (by kernel_rfl)
  ·exact item_fit [] [] (by kernel_rfl) (by kernel_rfl) (.inl (by kernel_rfl)) (by kernel_rfl) (by kernel_rfl) (by kernel_rfl) (by kernel_rfl) (by kernel_rfl)
  ·exact item_fit [] [] (by kernel_rfl) (by kernel_rfl) (.inl (by kernel_rfl)) (by kernel_rfl) (by kernel_rfl) (by kernel_rfl) (by kernel_rfl) (by kernel_rfl)
  ·refine item_fit [sR, sS, sT, sD] [] (by kernel_rfl) (by kernel_rfl) (.inr (ruleOf_ok _).1) ?_ (by kernel_rfl) (by kernel_rfl) (ruleOf_ok (byteL x.l 3)).2 (by kernel_rfl)
   rw [uses_reg (by rfl), List.all_cons, List.all_nil, Bool.and_true]
   exact gok x.l _ _ _ _ (rawW_ok x) (by simp) _ _
  ·refine item_fit [sS, sR, sD] [] (by kernel_rfl) (by kernel_rfl) (.inr (ruleOf_ok _).1) ?_ (by kernel_rfl) (by kernel_rfl) (ruleOf_ok (byteL x.l 5)).2 (by kernel_rfl)
   rw [uses_reg (by rfl), List.all_cons, List.all_nil, Bool.and_true]
   exact gok x.l _ _ _ _ (rawW_ok x) (by simp) _ _
  ·have h : okE [sR, sS] [] [] (gen x.l [sR, sS] (rawW x) 1 6) = true := gok x.l _ _ _ _ (rawW_ok x) (by simp) _ _
   refine item_fit [sR, sS] [] (by kernel_rfl) (by kernel_rfl) (.inl (by kernel_rfl)) ?_ (by kernel_rfl) (by kernel_rfl) (by kernel_rfl) ?_
   ·rw [uses_wire (by rfl), List.all_cons, List.all_nil, Bool.and_true]
    exact h
   ·exact wire_ok (x := wireI sT (rawW x) (gen x.l [sR, sS] (rawW x) 1 6)) h (by kernel_rfl) (by kernel_rfl)
  ·have h : okE [sR, sS] [] [] (cond x.l [sR, sS] (rawW x) 1 18) = true := cok x.l _ _ _ _ (rawW_ok x) (by simp) _ _
   refine item_fit [sR, sS] [] (by kernel_rfl) (by kernel_rfl) (.inl (by kernel_rfl)) ?_ (by kernel_rfl) (by kernel_rfl) (by kernel_rfl) ?_
   ·rw [uses_take (by rfl), List.all_cons, List.all_nil, Bool.and_true]
    exact h
   ·refine early_ok (x := takeI sD (cond x.l [sR, sS] (rawW x) 1 18)) h ?_
    intro n hn
    simp only [List.mem_cons, List.not_mem_nil, or_false] at hn
    rcases hn with rfl | rfl
    ·exact .inl ⟨by kernel_rfl, by kernel_rfl⟩
    ·exact .inl ⟨by kernel_rfl, by kernel_rfl⟩
  ·refine item_fit [sR, sS, sT, sD] [] (by kernel_rfl) (by kernel_rfl) (.inl (by kernel_rfl)) ?_ (by kernel_rfl) (by kernel_rfl) (by kernel_rfl) (by kernel_rfl)
   rw [uses_put (by rfl), List.all_cons, List.all_cons, List.all_nil, Bool.and_true]
   show (okE [sR, sS, sT, sD] [] [] (cond x.l [sR, sS, sT, sD] (rawW x) 1 20) && okE [sR, sS, sT, sD] [] [] (gen x.l [sR, sS, sT, sD] (rawW x) 1 8)) = true
   rw [cok x.l _ _ _ _ (rawW_ok x) (by simp) _ _, gok x.l _ _ _ _ (rawW_ok x) (by simp) _ _]; rfl
  ·refine item_fit [sR, sS] [] (by kernel_rfl) (by kernel_rfl) (.inl (by kernel_rfl)) ?_ (by kernel_rfl) (by kernel_rfl) (by kernel_rfl) (by kernel_rfl)
   rw [uses_put (by rfl), List.all_cons, List.all_cons, List.all_nil, Bool.and_true]
   show (okE [sR, sS] [] [] (cond x.l [sR, sS] (rawW x) 1 22) && okE [sR, sS] [] [] (gen x.l [sR, sS] (rawW x) 1 24)) = true
   rw [cok x.l _ _ _ _ (rawW_ok x) (by simp) _ _, gok x.l _ _ _ _ (rawW_ok x) (by simp) _ _]; rfl
 ·refine zip_cons ?_ (zip_cons ?_ (zip_cons ?_ (zip_cons ?_ (zip_cons ?_ (zip_cons ?_ (zip_cons ?_ (zip_cons ?_ (zip_cons ?_ (zip_cons ?_ (zip_cons ?_ zip_nil))))))))))
  ·exact item_fit [] [] (by kernel_rfl) (by kernel_rfl) (.inl (by kernel_rfl)) (by kernel_rfl) (by kernel_rfl) (by kernel_rfl) (by kernel_rfl) (by kernel_rfl)
  ·exact item_fit [] [] (by kernel_rfl) (by kernel_rfl) (.inl (by kernel_rfl)) (by kernel_rfl) (by kernel_rfl) (by kernel_rfl) (by kernel_rfl) (by kernel_rfl)
  ·exact item_fit [] [] (by kernel_rfl) (by kernel_rfl) (.inl (by kernel_rfl)) (by kernel_rfl) (by kernel_rfl) (by kernel_rfl) (by kernel_rfl) (by kernel_rfl)
  ·exact item_fit [] [] (by kernel_rfl) (by kernel_rfl) (.inl (by kernel_rfl)) (by kernel_rfl) (by kernel_rfl) (by kernel_rfl) (by kernel_rfl) (by kernel_rfl)
  ·refine item_fit [sR, sS, sT, sD] [] (by kernel_rfl) (by kernel_rfl) (.inr (ruleOf_ok _).1) ?_ (by kernel_rfl) (by kernel_rfl) (ruleOf_ok (byteL x.l 3)).2 (by kernel_rfl)
   rw [uses_reg (by rfl), List.all_cons, List.all_nil, Bool.and_true]
   exact gok x.l _ _ _ _ (rawW_ok x) (by simp) _ _
  ·refine item_fit [sS, sR, sD] [] (by kernel_rfl) (by kernel_rfl) (.inr (ruleOf_ok _).1) ?_ (by kernel_rfl) (by kernel_rfl) (ruleOf_ok (byteL x.l 5)).2 (by kernel_rfl)
   rw [uses_reg (by rfl), List.all_cons, List.all_nil, Bool.and_true]
   exact gok x.l _ _ _ _ (rawW_ok x) (by simp) _ _
  ·have h : okE [sR, sS] [] [] (gen x.l [sR, sS] (rawW x) 1 6) = true := gok x.l _ _ _ _ (rawW_ok x) (by simp) _ _
   refine item_fit [sR, sS] [] (by kernel_rfl) (by kernel_rfl) (.inl (by kernel_rfl)) ?_ (by kernel_rfl) (by kernel_rfl) (by kernel_rfl) ?_
   ·rw [uses_wire (by rfl), List.all_cons, List.all_nil, Bool.and_true]
    exact h
   ·exact wire_ok (x := wireI sT (rawW x) (gen x.l [sR, sS] (rawW x) 1 6)) h (by kernel_rfl) (by kernel_rfl)
  ·refine item_fit [sR, sS, sT, sD] [] (by kernel_rfl) (by kernel_rfl) (.inr (ruleOf_ok _).1) ?_ (by kernel_rfl) ?_ (ruleOf_ok (byteL x.l 3)).2 (by kernel_rfl)
   ·rw [uses_mem (by rfl), List.all_cons, List.all_cons, List.all_cons, List.all_nil, Bool.and_true]
    show (okE [sR, sS, sT, sD] [] [] (cond x.l [sR, sS, sT, sD] (rawW x) 1 12) && (okE [sR, sS, sT, sD] [] [] (gen x.l [sR, sS, sT, sD] (rawW x) 0 14) && okE [sR, sS, sT, sD] [] [] (gen x.l [sR, sS, sT, sD] (rawW x) 1 16))) = true
    rw [gok x.l _ _ _ _ (rawW_ok x) (by simp) _ _, gok x.l _ _ _ _ (rawW_ok x) (by simp) _ _, cok x.l _ _ _ _ (rawW_ok x) (by simp) _ _]; rfl
   ·show (okN [] (rawW x) && (okN [] (depthN x.l) && true)) = true
    rw [rawW_ok, show okN [] (depthN x.l) = true from okN_nat _ _]; rfl
  ·have h : okE [sR, sS] [] [] (cond x.l [sR, sS] (rawW x) 1 18) = true := cok x.l _ _ _ _ (rawW_ok x) (by simp) _ _
   refine item_fit [sR, sS] [] (by kernel_rfl) (by kernel_rfl) (.inl (by kernel_rfl)) ?_ (by kernel_rfl) (by kernel_rfl) (by kernel_rfl) ?_
   ·rw [uses_take (by rfl), List.all_cons, List.all_nil, Bool.and_true]
    exact h
   ·refine early_ok (x := takeI sD (cond x.l [sR, sS] (rawW x) 1 18)) h ?_
    intro n hn
    simp only [List.mem_cons, List.not_mem_nil, or_false] at hn
    rcases hn with rfl | rfl
    ·exact .inl ⟨by kernel_rfl, by kernel_rfl⟩
    ·exact .inl ⟨by kernel_rfl, by kernel_rfl⟩
  ·refine item_fit [sR, sS, sT, sD] [sM] (by kernel_rfl) (by kernel_rfl) (.inl (by kernel_rfl)) ?_ (by kernel_rfl) (by kernel_rfl) (by kernel_rfl) (by kernel_rfl)
   rw [uses_put (by rfl), List.all_cons, List.all_cons, List.all_nil, Bool.and_true]
   show (okE [sR, sS, sT, sD] [sM] [] (cond x.l [sR, sS, sT, sD] (rawW x) 1 20) && okE [sR, sS, sT, sD] [sM] [] (dataT true x.l (rawW x) sD)) = true
   rw [cok x.l _ _ _ _ (rawW_ok x) (by simp) _ _, data_ok _ _ _ (rawW_ok x)]; rfl
  ·refine item_fit [sR, sS] [] (by kernel_rfl) (by kernel_rfl) (.inl (by kernel_rfl)) ?_ (by kernel_rfl) (by kernel_rfl) (by kernel_rfl) (by kernel_rfl)
   rw [uses_put (by rfl), List.all_cons, List.all_cons, List.all_nil, Bool.and_true]
   show (okE [sR, sS] [] [] (cond x.l [sR, sS] (rawW x) 1 22) && okE [sR, sS] [] [] (gen x.l [sR, sS] (rawW x) 1 24)) = true
   rw [cok x.l _ _ _ _ (rawW_ok x) (by simp) _ _, gok x.l _ _ _ _ (rawW_ok x) (by simp) _ _]; rfl
/-! ### Heads, and the whole -/
theorem head_good {l : List Module} {i : Nat} {m : Module} (hc : isName m.clock.1 = true) (hn : isName m.name.1 = true) (hf : decide ((findM l m.name).getD 0 < (i : Int)) = false) (hp : (List.range m.params.length).any (badPar m.params) = false) (hl : loops l i = false) : headBad l i m = false := by
 unfold headBad badHead badHd
 rw [hc, hn, hf, hp, hl]; rfl
theorem valid_two_of {o : Bool} {a b : Module} (ha : headBad (two o a b) (bif o then 0 else 1) a = false) (hb : headBad (two o a b) (bif o then 1 else 0) b = false) (ia : (a.items.zipIdx.any fun q => itemBad (two o a b) a q.2 q.1) = false) (ib : (b.items.zipIdx.any fun q => itemBad (two o a b) b q.2 q.1) = false) : valid (two o a b) = true := by
 rw [valid_eq]
 cases o
 ·show (!(modBad [b, a] (b, 0) || (modBad [b, a] (a, 1) || false))) = true
  unfold modBad
  have ha' : headBad [b, a] 1 a = false := ha
  have hb' : headBad [b, a] 0 b = false := hb
  have ia' : (a.items.zipIdx.any fun q => itemBad [b, a] a q.2 q.1) = false := ia
  have ib' : (b.items.zipIdx.any fun q => itemBad [b, a] b q.2 q.1) = false := ib
  simp only [ha', hb', ia', ib']; rfl
 ·show (!(modBad [a, b] (a, 0) || (modBad [a, b] (b, 1) || false))) = true
  unfold modBad
  have ha' : headBad [a, b] 0 a = false := ha
  have hb' : headBad [a, b] 1 b = false := hb
  have ia' : (a.items.zipIdx.any fun q => itemBad [a, b] a q.2 q.1) = false := ia
  have ib' : (b.items.zipIdx.any fun q => itemBad [a, b] b q.2 q.1) = false := ib
  simp only [ha', hb', ia', ib']; rfl
theorem valid1 (o : Bool) (x : Raw) : valid (two o (top1 x) (cellM x.l)) = true := by
 refine valid_two_of ?_ ?_ (top1_items o x) (cell_items _ x.l)
 ·cases o <;> exact head_good (clockOf_name _) (by kernel_rfl) (by kernel_rfl) (by kernel_rfl) (by kernel_rfl)
 ·cases o <;> exact head_good (clockOf_name _) (by kernel_rfl) (by kernel_rfl) (by kernel_rfl) (by kernel_rfl)
theorem valid2 (o mem : Bool) (x : Raw) : valid (two o (top2 mem x) (cellM x.l)) = true := by
 refine valid_two_of ?_ ?_ (top2_items o mem x) (cell_items _ x.l)
 ·cases o <;> cases mem <;> exact head_good (clockOf_name _) (by kernel_rfl) (by kernel_rfl) (by kernel_rfl) (by kernel_rfl)
 ·cases o <;> cases mem <;> exact head_good (clockOf_name _) (by kernel_rfl) (by kernel_rfl) (by kernel_rfl) (by kernel_rfl)
theorem valid3 (o mem : Bool) (x : Raw) : valid (two o (top3 mem x) (cellM x.l)) = true := by
 refine valid_two_of ?_ ?_ (top3_items o mem x) (cell_items _ x.l)
 ·cases o <;> cases mem <;> exact head_good (clockOf_name _) (by kernel_rfl) (by kernel_rfl) (by kernel_rfl) (by kernel_rfl)
 ·cases o <;> cases mem <;> exact head_good (clockOf_name _) (by kernel_rfl) (by kernel_rfl) (by kernel_rfl) (by kernel_rfl)
theorem valid0 (mem : Bool) (x : Raw) : valid [top0 mem x] = true := by
 rw [valid_eq]
 show (!(modBad [top0 mem x] (top0 mem x, 0) || false)) = true
 have h : headBad [top0 mem x] 0 (top0 mem x) = false := by
  cases mem <;> exact head_good (clockOf_name _) (by kernel_rfl) (by kernel_rfl) (by kernel_rfl) (by kernel_rfl)
 unfold modBad
 simp only [h, top0_items]; rfl
/-- What a generated file looks like. -/
theorem made_shape (x : Raw) : (∃ mem, made x = [top0 mem x]) ∨ (∃ o, made x = two o (top1 x) (cellM x.l)) ∨ (∃ o mem, made x = two o (top2 mem x) (cellM x.l)) ∨ (∃ o mem, made x = two o (top3 mem x) (cellM x.l)) := by
 by_cases b0 : x.kind % 4 = 0
 ·left
  obtain ⟨mem, h⟩ := ownL_T x.l (rawW x) sA sB []
  rw [List.append_nil] at h
  refine ⟨mem, ?_⟩
  rw [made, if_pos b0, topM, topItems, if_pos b0, h]; rfl
 right
 have ho : ∀ t : Module, topM x = t → ∃ o, made x = two o t (cellM x.l) := by
  intro t ht
  by_cases b9 : x.kind / 4 % 2 = 1
  ·exact ⟨true, by rw [made, if_neg b0, if_pos b9, ht]; rfl⟩
  ·exact ⟨false, by rw [made, if_neg b0, if_neg b9, ht]; rfl⟩
 by_cases b1 : x.kind % 4 = 1
 ·left
  exact ho _ (by rw [topM, topItems, if_neg b0, if_pos b1]; rfl)
 right
 by_cases b2 : x.kind % 4 = 2
 ·left
  obtain ⟨mem, h⟩ := ownL_T x.l (rawW x) sC sB []
  rw [List.append_nil] at h
  obtain ⟨o, h'⟩ := ho (top2 mem x) (by rw [topM, topItems, if_neg b0, if_neg b1, if_pos b2, h]; rfl)
  exact ⟨o, mem, h'⟩
 ·right
  obtain ⟨mem, h⟩ := ownL_T x.l (rawW x) sD sC [putI sB (cond x.l [sR, sS] (rawW x) 1 22) (gen x.l [sR, sS] (rawW x) 1 24)]
  obtain ⟨o, h'⟩ := ho (top3 mem x) (by rw [topM, topItems, if_neg b0, if_neg b1, if_neg b2, List.append_assoc, h]; rfl)
  exact ⟨o, mem, h'⟩
theorem valid_made (x : Raw) : valid (made x) = true := by
 rcases made_shape x with ⟨mem, h⟩ | ⟨o, h⟩ | ⟨o, mem, h⟩ | ⟨o, mem, h⟩
 ·rw [h]; exact valid0 mem x
 ·rw [h]; exact valid1 o x
 ·rw [h]; exact valid2 o mem x
 ·rw [h]; exact valid3 o mem x
end Go.Proofs.Ytejpmjnefokdoaa
