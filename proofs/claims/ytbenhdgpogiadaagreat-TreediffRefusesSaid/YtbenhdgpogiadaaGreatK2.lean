/-
 CONTRACTS of the functions that the law reaches, and plain laws on what they compute. Conditions: those of each law.
-/
import Derived.Test.YtbenhdgpogiadaaGreatK1
import Derived.WalkKit
import Derived.Shelf.SlSortCmp.QuietGrown
import Derived.StillTailTactics
import Derived.Below
import Derived.Test.YtbenhdgpogiadaaGreatGSo
import Derived.Sort.Walk0
import Derived.Test.YtbenhdgpogiadaaGreatGSp
set_option linter.unusedSimpArgs false
set_option linter.unusedVariables false
namespace Go.Proofs.YtbenhdgpogiadaaGreat
open Go.Aw
open Nat renaming reduceEqDiff → pE, reduceLT → pL, reduceAdd → pA, reduceSub → pS, reduceMul → pM, reduceLeDiff → pD
open Int renaming reduceToNat → qT, reduceGT → qG, reduceLT → qL, reduceGE → qH, reduceBNe → qN, reduceBEq → qB, reduceLE → qE, reduceNe → qO, reduceAdd → qA, reduceNeg → qM
set_option maxRecDepth 100000
set_option maxHeartbeats 8000000
theorem op_mk (o : Int) (n : Str) (k w : Num) (a : List Expr) : (Expr.mk o n k w a).op = o := rfl
theorem name_mk (o : Int) (n : Str) (k w : Num) (a : List Expr) : (Expr.mk o n k w a).name = n := rfl
theorem k_mk (o : Int) (n : Str) (k w : Num) (a : List Expr) : (Expr.mk o n k w a).k = k := rfl
theorem w_mk (o : Int) (n : Str) (k w : Num) (a : List Expr) : (Expr.mk o n k w a).w = w := rfl
theorem args_mk (o : Int) (n : Str) (k w : Num) (a : List Expr) : (Expr.mk o n k w a).args = a := rfl
def portI (kind : I64) (name : Str) (w : Num) : Item := { zItem with kind := kind, name := name, width := w }
def wireI (name : Str) (w : Num) (e : Expr) : Item := { zItem with kind := ⟨5, rfl⟩, name := name, width := w, a := e }
def takeI (name : Str) (e : Expr) : Item := { zItem with kind := ⟨7, rfl⟩, name := name, a := e }
def putI (name : Str) (e x : Expr) : Item := { zItem with kind := ⟨8, rfl⟩, name := name, a := e, b := x }
def wN : Num := ⟨0, sW⟩
def cellM (l : List Nat) : Module := ⟨sCell, clockOf (byteL l 5), [sW], [portI ⟨1, rfl⟩ sX wN, portI ⟨2, rfl⟩ sY wN, regI sR l 7 [sR, sX] wN, wireI sT wN (gen l [sR] wN 1 9), takeI sX (cond l [sR, sT] wN 1 11), putI sY (cond l [sR, sX, sT] wN 1 13) (gen l [sR, sX, sT] wN 1 15)]⟩
theorem cell_c (l : List Nat) (hb : ∀ b ∈ l, b < 256) : FnP Tryz.prog 107 [eBytes l] (.d (.agg (eModule (cellM l)))) [] := by
 refine FnP.of_eC (own := []) (fun i => if i = 2002 then [.flt ⟨[(0, none), (1, none), (2, none), (3, none), (4, none), (5, none), (8, some [3, 4, 5]), (9, some [])]⟩ ⟨[6, 7], [(8, [6]), (9, [7])]⟩] else if i = 2003 then [.ord ⟨[(0, none), (1, none), (2, none), (3, none), (4, none), (5, none), (6, none), (7, none), (8, none), (9, none), (10, none), (11, none), (12, none), (13, none), (14, none), (15, none), (16, none), (17, none), (18, none), (19, none), (20, none), (21, none), (22, none), (23, none), (24, none), (25, none), (26, none), (27, none), (28, none), (29, none), (30, none), (31, none), (32, none), (33, none), (34, none), (35, some [])]⟩] else []) mixed Tryz.func107 rfl Tryz.call107 Tryz.ntmps107 (Nat.le_of_ble_eq_true rfl) Tryz.results107 (fun hok => ?_)
 have a1 := at_c l 5 hb (by omega)
 have k1 := clock_c (byteL l 5)
 have r1 := reg_c sR l [sR, sX] wN hb (by simp) (by simp) 7 (by omega)
 have g1 := gen1_c l [sR] wN hb (by simp) (by simp) 9 (by omega)
 have c1 := cond1_c l [sR, sT] wN hb (by simp) (by simp) 11 (by omega)
 have c2 := cond1_c l [sR, sX, sT] wN hb (by simp) (by simp) 13 (by omega)
 have g2 := gen1_c l [sR, sX, sT] wN hb (by simp) (by simp) 15 (by omega)
 rw [cellM]
 obtain ⟨e1, h1⟩ : ∃ e, clockOf (byteL l 5) = e := ⟨_, rfl⟩
 obtain ⟨e2, h2⟩ : ∃ e, regI sR l 7 [sR, sX] wN = e := ⟨_, rfl⟩
 obtain ⟨e3, h3⟩ : ∃ e, gen l [sR] wN 1 9 = e := ⟨_, rfl⟩
 obtain ⟨e4, h4⟩ : ∃ e, cond l [sR, sT] wN 1 11 = e := ⟨_, rfl⟩
 obtain ⟨e5, h5⟩ : ∃ e, cond l [sR, sX, sT] wN 1 13 = e := ⟨_, rfl⟩
 obtain ⟨e6, h6⟩ : ∃ e, gen l [sR, sX, sT] wN 1 15 = e := ⟨_, rfl⟩
 rw [h1] at k1 ⊢
 rw [h2] at r1 ⊢
 rw [h3] at g1 ⊢
 rw [h4] at c1 ⊢
 rw [h5] at c2 ⊢
 rw [h6] at g2 ⊢
 clear h1 h2 h3 h4 h5 h6
 simp only [ZE,↓reduceIte,pE,pL,pA,pS,pM,pD, eAt, eCtx, List.map_cons, List.map_nil, sR, sX, sT, sW, wN, st, emp] at a1 k1 r1 g1 c1 c2 g2
 simp (maxSteps := 4000000) only [ZE,↓reduceIte,pE,pL,pA,pS,pM,pD, zN,qT,qG,qL,qH,qN,qB,qE,qO,qA,qM]
 refine ⟨by kernel_rfl, by kernel_rfl, ECall'.i a1 ?_⟩
 simp only [ZE,↓reduceIte,pE,pL,pA,pS,pM,pD, zN,qT,qG,qL,qH,qN,qB,qE,qO,qA,qM]
 refine ECall'.i k1 ?_
 simp only [ZE,↓reduceIte,pE,pL,pA,pS,pM,pD, zN,qT,qG,qL,qH,qN,qB,qE,qO,qA,qM]
 refine ECall'.i r1 ?_
 simp only [ZE,↓reduceIte,pE,pL,pA,pS,pM,pD, zN,qT,qG,qL,qH,qN,qB,qE,qO,qA,qM]
 refine ECall'.i g1 ?_
 simp only [ZE,↓reduceIte,pE,pL,pA,pS,pM,pD, zN,qT,qG,qL,qH,qN,qB,qE,qO,qA,qM]
 refine ECall'.i c1 ?_
 simp only [ZE,↓reduceIte,pE,pL,pA,pS,pM,pD, zN,qT,qG,qL,qH,qN,qB,qE,qO,qA,qM]
 refine ECall'.i c2 ?_
 simp only [ZE,↓reduceIte,pE,pL,pA,pS,pM,pD, zN,qT,qG,qL,qH,qN,qB,qE,qO,qA,qM]
 refine ECall'.i g2 ?_
 simp only [ZE,↓reduceIte,pE,pL,pA,pS,pM,pD, zN,qT,qG,qL,qH,qN,qB,qE,qO,qA,qM, portI, wireI, takeI, putI, zItem, zExpr, sCell, wN, sW, sX, sY, sT, st, op_mk, name_mk, k_mk, w_mk, args_mk, zNum, emp, Int.reduceEq, not_false_eq_true]
 trace_state
def ownHead (l : List Nat) (w : Num) (c0 : Str) : List Item := [regI sR l 2 [sR, sS, sT, c0] w, regI sS l 4 [sS, sR, c0] w, wireI sT w (gen l [sR, sS] w 1 6)]
def depthN (l : List Nat) : Num := ⟨if byteL l 1 % 2 = 0 then 2 else 4, emp⟩
def memI (l : List Nat) (w : Num) (c0 : Str) : Item := { zItem with kind := ⟨6, rfl⟩, name := sM, width := w, depth := depthN l, a := cond l [sR, sS, sT, c0] w 1 12, b := gen l [sR, sS, sT, c0] w 0 14, c := gen l [sR, sS, sT, c0] w 1 16, rule := ruleOf (byteL l 3) }
def ownMem (l : List Nat) (w : Num) (c0 : Str) : List Item := if byteL l 0 % 2 = 1 then [memI l w c0] else []
def ownData (l : List Nat) (w : Num) (c0 : Str) : Expr := if byteL l 0 % 2 = 1 then .mk 5 emp zNum zNum [gen l [sR, sS, sT, c0] w 1 8, .mk 15 sM zNum zNum [gen l [sR, sS] w 0 10]] else gen l [sR, sS, sT, c0] w 1 8
def ownTail (l : List Nat) (w : Num) (c0 c1 : Str) : List Item := [takeI c0 (cond l [sR, sS] w 1 18), putI c1 (cond l [sR, sS, sT, c0] w 1 20) (ownData l w c0)]
def ownL (l : List Nat) (w : Num) (c0 c1 : Str) : List Item := ownHead l w c0 ++ ownMem l w c0 ++ ownTail l w c0 c1
theorem own_c (l : List Nat) (w : Num) (c0 c1 : Str) (hb : ∀ b ∈ l, b < 256) : FnP Tryz.prog 103 [eBytes l, .agg (eNum w), ePair c0 c1] (.d (eItems (ownL l w c0 c1))) [] := by
 refine FnP.of_eC (own := []) (fun i => if i = 2001 then [.flt ⟨[(0, none), (1, none), (2, none), (3, none), (4, none), (5, none), (6, none), (7, none), (10, some [3, 4, 5, 6, 7]), (11, some [])]⟩ ⟨[8, 9], [(10, [8]), (11, [9])]⟩] else if i = 2002 then [.ord ⟨[(0, none), (1, none), (2, none), (3, none), (4, none), (5, none), (6, none), (7, none), (8, none), (9, none), (10, none), (11, none), (12, none), (13, none), (14, none), (15, none), (16, some []), (17, some [])]⟩] else if i = 2007 then [.ord ⟨[(0, none), (1, none), (2, none), (3, none), (4, none), (5, none), (6, none), (7, none), (8, none), (9, none), (10, none), (11, none), (12, none), (13, none), (14, none), (15, none), (16, none), (17, none), (18, none), (19, none), (20, none), (21, none), (22, none), (23, none), (24, some []), (25, some [])]⟩] else if i = 2008 then [.ord ⟨[(0, none), (1, none), (2, none), (3, none), (4, none), (5, none), (6, none), (7, none), (8, none), (9, none), (10, none), (11, none), (12, none), (13, none), (14, none), (15, some []), (16, some [])]⟩] else if i = 2005 then [.chn] else if i = 2006 then [.chn] else []) mixed Tryz.func103 rfl Tryz.call103 Tryz.ntmps103 (Nat.le_of_ble_eq_true rfl) Tryz.results103 (fun hok => ?_)
 have a0 := at_c l 0 hb (by omega)
 have a1 := at_c l 1 hb (by omega)
 have a3 := at_c l 3 hb (by omega)
 have r1 := reg_c sR l [sR, sS, sT, c0] w hb (by simp) (by simp) 2 (by omega)
 have r2 := reg_c sS l [sS, sR, c0] w hb (by simp) (by simp) 4 (by omega)
 have g6 := gen1_c l [sR, sS] w hb (by simp) (by simp) 6 (by omega)
 have g8 := gen1_c l [sR, sS, sT, c0] w hb (by simp) (by simp) 8 (by omega)
 have g10 := gen0_c l [sR, sS] w hb (by simp) (by simp) 10 (by omega)
 have c12 := cond1_c l [sR, sS, sT, c0] w hb (by simp) (by simp) 12 (by omega)
 have g14 := gen0_c l [sR, sS, sT, c0] w hb (by simp) (by simp) 14 (by omega)
 have g16 := gen1_c l [sR, sS, sT, c0] w hb (by simp) (by simp) 16 (by omega)
 have c18 := cond1_c l [sR, sS] w hb (by simp) (by simp) 18 (by omega)
 have c20 := cond1_c l [sR, sS, sT, c0] w hb (by simp) (by simp) 20 (by omega)
 have u3 := rule_c (byteL l 3) (byteL_lt hb _)
 rw [ownL, ownHead, ownTail, ownMem, ownData, memI, depthN]
 obtain ⟨x1, h1⟩ : ∃ e, regI sR l 2 [sR, sS, sT, c0] w = e := ⟨_, rfl⟩
 obtain ⟨x2, h2⟩ : ∃ e, regI sS l 4 [sS, sR, c0] w = e := ⟨_, rfl⟩
 obtain ⟨x3, h3⟩ : ∃ e, gen l [sR, sS] w 1 6 = e := ⟨_, rfl⟩
 obtain ⟨x4, h4⟩ : ∃ e, gen l [sR, sS, sT, c0] w 1 8 = e := ⟨_, rfl⟩
 obtain ⟨x5, h5⟩ : ∃ e, gen l [sR, sS] w 0 10 = e := ⟨_, rfl⟩
 obtain ⟨x6, h6⟩ : ∃ e, cond l [sR, sS, sT, c0] w 1 12 = e := ⟨_, rfl⟩
 obtain ⟨x7, h7⟩ : ∃ e, gen l [sR, sS, sT, c0] w 0 14 = e := ⟨_, rfl⟩
 obtain ⟨x8, h8⟩ : ∃ e, gen l [sR, sS, sT, c0] w 1 16 = e := ⟨_, rfl⟩
 obtain ⟨x9, h9⟩ : ∃ e, cond l [sR, sS] w 1 18 = e := ⟨_, rfl⟩
 obtain ⟨x10, h10⟩ : ∃ e, cond l [sR, sS, sT, c0] w 1 20 = e := ⟨_, rfl⟩
 obtain ⟨x11, h11⟩ : ∃ e, ruleOf (byteL l 3) = e := ⟨_, rfl⟩
 rw [h1] at r1 ⊢
 rw [h2] at r2 ⊢
 rw [h3] at g6 ⊢
 rw [h4] at g8 ⊢
 rw [h5] at g10 ⊢
 rw [h6] at c12 ⊢
 rw [h7] at g14 ⊢
 rw [h8] at g16 ⊢
 rw [h9] at c18 ⊢
 rw [h10] at c20 ⊢
 rw [h11] at u3 ⊢
 have hm : (byteL l 0 : Int).tmod 2 = ((byteL l 0 % 2 : Nat) : Int) := (Int.ofNat_tmod _ 2).symm
 have hm1 : (byteL l 1 : Int).tmod 2 = ((byteL l 1 % 2 : Nat) : Int) := (Int.ofNat_tmod _ 2).symm
 clear h1 h2 h3 h4 h5 h6 h7 h8 h9 h10 h11
 simp only [ZE,↓reduceIte,pE,pL,pA,pS,pM,pD, eAt, eCtx, ePair, List.map_cons, List.map_nil, sR, sS, sT, st, emp] at a0 a1 a3 r1 r2 g6 g8 g10 c12 g14 g16 c18 c20 u3
 by_cases hodd : byteL l 0 % 2 = 1
 ·have ho : (((byteL l 0 % 2 : Nat) : Int) == 1) = true := by simp [hodd]
  rw [if_pos hodd, if_pos hodd]
  simp (maxSteps := 4000000) only [ZE,↓reduceIte,pE,pL,pA,pS,pM,pD, zN,qT,qG,qL,qH,qN,qB,qE,qO,qA,qM, ePair]
  refine ⟨by kernel_rfl, by kernel_rfl, ECall'.i r1 ?_⟩
  simp only [ZE,↓reduceIte,pE,pL,pA,pS,pM,pD, zN,qT,qG,qL,qH,qN,qB,qE,qO,qA,qM]
  refine ECall'.i r2 ?_
  simp only [ZE,↓reduceIte,pE,pL,pA,pS,pM,pD, zN,qT,qG,qL,qH,qN,qB,qE,qO,qA,qM]
  refine ECall'.i g6 ?_
  simp only [ZE,↓reduceIte,pE,pL,pA,pS,pM,pD, zN,qT,qG,qL,qH,qN,qB,qE,qO,qA,qM]
  refine EFn.p ?_
  simp only [ZE,↓reduceIte,pE,pL,pA,pS,pM,pD, zN,qT,qG,qL,qH,qN,qB,qE,qO,qA,qM]
  refine ECall.i g8 ?_
  simp only [ZE,↓reduceIte,pE,pL,pA,pS,pM,pD, zN,qT,qG,qL,qH,qN,qB,qE,qO,qA,qM]
  refine EFn.p ?_
  simp only [ZE,↓reduceIte,pE,pL,pA,pS,pM,pD, zN,qT,qG,qL,qH,qN,qB,qE,qO,qA,qM]
  refine ECall.i a0 ?_
  simp only [ZE,↓reduceIte,pE,pL,pA,pS,pM,pD, zN,qT,qG,qL,qH,qN,qB,qE,qO,qA,qM, hm, ho, Int.reduceEq, not_false_eq_true]
  refine EFn.p ?_
  simp only [ZE,↓reduceIte,pE,pL,pA,pS,pM,pD, zN,qT,qG,qL,qH,qN,qB,qE,qO,qA,qM]
  refine ECall.i g10 ?_
  simp only [ZE,↓reduceIte,pE,pL,pA,pS,pM,pD, zN,qT,qG,qL,qH,qN,qB,qE,qO,qA,qM, Int.reduceEq, not_false_eq_true]
  refine ⟨by kernel_rfl, ECall'.i a1 ?_⟩
  by_cases hd : byteL l 1 % 2 = 0
  ·have hm2 : (byteL l 1 : Int).tmod 2 = 0 := by rw [hm1, hd]; rfl
   have hw1 : IntKind.u64.wrap 0 = 0 := by decide
   have hw2 : IntKind.i64.wrap (2 * 2 ^ (min 0 IntKind.i64.bits)) = 2 := by decide
   rw [if_pos hd]
   simp only [ZE,↓reduceIte,pE,pL,pA,pS,pM,pD, zN,qT,qG,qL,qH,qN,qB,qE,qO,qA,qM, Int.reduceEq, not_false_eq_true, hm2, hw1, hw2]
   refine ECall'.i c12 ?_
   simp only [ZE,↓reduceIte,pE,pL,pA,pS,pM,pD, zN,qT,qG,qL,qH,qN,qB,qE,qO,qA,qM]
   refine ECall'.i g14 ?_
   simp only [ZE,↓reduceIte,pE,pL,pA,pS,pM,pD, zN,qT,qG,qL,qH,qN,qB,qE,qO,qA,qM]
   refine ECall'.i g16 ?_
   simp only [ZE,↓reduceIte,pE,pL,pA,pS,pM,pD, zN,qT,qG,qL,qH,qN,qB,qE,qO,qA,qM]
   refine ECall'.i a3 ?_
   simp only [ZE,↓reduceIte,pE,pL,pA,pS,pM,pD, zN,qT,qG,qL,qH,qN,qB,qE,qO,qA,qM]
   refine ECall'.i u3 ?_
   simp only [ZE,↓reduceIte,pE,pL,pA,pS,pM,pD, zN,qT,qG,qL,qH,qN,qB,qE,qO,qA,qM]
   refine ⟨by kernel_rfl, ECall'.i c18 ?_⟩
   simp only [ZE,↓reduceIte,pE,pL,pA,pS,pM,pD, zN,qT,qG,qL,qH,qN,qB,qE,qO,qA,qM]
   refine ECall'.i c20 ?_
   simp only [ZE,↓reduceIte,pE,pL,pA,pS,pM,pD, zN,qT,qG,qL,qH,qN,qB,qE,qO,qA,qM, wireI, takeI, putI, zItem, zExpr, sM, sT, st, op_mk, name_mk, k_mk, w_mk, args_mk, zNum, emp, Int.reduceEq, not_false_eq_true]
  ·have hm2 : (byteL l 1 : Int).tmod 2 = 1 := by rw [hm1]; omega
   have hw1 : IntKind.u64.wrap 1 = 1 := by decide
   have hw2 : IntKind.i64.wrap (2 * 2 ^ (min 1 IntKind.i64.bits)) = 4 := by decide
   rw [if_neg hd]
   simp only [ZE,↓reduceIte,pE,pL,pA,pS,pM,pD, zN,qT,qG,qL,qH,qN,qB,qE,qO,qA,qM, Int.reduceEq, not_false_eq_true, hm2, hw1, hw2]
   refine ECall'.i c12 ?_
   simp only [ZE,↓reduceIte,pE,pL,pA,pS,pM,pD, zN,qT,qG,qL,qH,qN,qB,qE,qO,qA,qM]
   refine ECall'.i g14 ?_
   simp only [ZE,↓reduceIte,pE,pL,pA,pS,pM,pD, zN,qT,qG,qL,qH,qN,qB,qE,qO,qA,qM]
   refine ECall'.i g16 ?_
   simp only [ZE,↓reduceIte,pE,pL,pA,pS,pM,pD, zN,qT,qG,qL,qH,qN,qB,qE,qO,qA,qM]
   refine ECall'.i a3 ?_
   simp only [ZE,↓reduceIte,pE,pL,pA,pS,pM,pD, zN,qT,qG,qL,qH,qN,qB,qE,qO,qA,qM]
   refine ECall'.i u3 ?_
   simp only [ZE,↓reduceIte,pE,pL,pA,pS,pM,pD, zN,qT,qG,qL,qH,qN,qB,qE,qO,qA,qM]
   refine ⟨by kernel_rfl, ECall'.i c18 ?_⟩
   simp only [ZE,↓reduceIte,pE,pL,pA,pS,pM,pD, zN,qT,qG,qL,qH,qN,qB,qE,qO,qA,qM]
   refine ECall'.i c20 ?_
   simp only [ZE,↓reduceIte,pE,pL,pA,pS,pM,pD, zN,qT,qG,qL,qH,qN,qB,qE,qO,qA,qM, wireI, takeI, putI, zItem, zExpr, sM, sT, st, op_mk, name_mk, k_mk, w_mk, args_mk, zNum, emp, Int.reduceEq, not_false_eq_true]
 ·have ho : (((byteL l 0 % 2 : Nat) : Int) == 1) = false := by
   have : byteL l 0 % 2 = 0 := by omega
   rw [this]; rfl
  rw [if_neg hodd, if_neg hodd]
  simp (maxSteps := 4000000) only [ZE,↓reduceIte,pE,pL,pA,pS,pM,pD, zN,qT,qG,qL,qH,qN,qB,qE,qO,qA,qM, ePair]
  refine ⟨by kernel_rfl, by kernel_rfl, ECall'.i r1 ?_⟩
  simp only [ZE,↓reduceIte,pE,pL,pA,pS,pM,pD, zN,qT,qG,qL,qH,qN,qB,qE,qO,qA,qM]
  refine ECall'.i r2 ?_
  simp only [ZE,↓reduceIte,pE,pL,pA,pS,pM,pD, zN,qT,qG,qL,qH,qN,qB,qE,qO,qA,qM]
  refine ECall'.i g6 ?_
  simp only [ZE,↓reduceIte,pE,pL,pA,pS,pM,pD, zN,qT,qG,qL,qH,qN,qB,qE,qO,qA,qM]
  refine EFn.p ?_
  simp only [ZE,↓reduceIte,pE,pL,pA,pS,pM,pD, zN,qT,qG,qL,qH,qN,qB,qE,qO,qA,qM]
  refine ECall.i g8 ?_
  simp only [ZE,↓reduceIte,pE,pL,pA,pS,pM,pD, zN,qT,qG,qL,qH,qN,qB,qE,qO,qA,qM]
  refine EFn.p ?_
  simp only [ZE,↓reduceIte,pE,pL,pA,pS,pM,pD, zN,qT,qG,qL,qH,qN,qB,qE,qO,qA,qM]
  refine ECall.i a0 ?_
  simp only [ZE,↓reduceIte,pE,pL,pA,pS,pM,pD, zN,qT,qG,qL,qH,qN,qB,qE,qO,qA,qM, hm, ho, Int.reduceEq, not_false_eq_true]
  refine ⟨by kernel_rfl, ECall'.i c18 ?_⟩
  simp only [ZE,↓reduceIte,pE,pL,pA,pS,pM,pD, zN,qT,qG,qL,qH,qN,qB,qE,qO,qA,qM]
  refine ECall'.i c20 ?_
  simp only [ZE,↓reduceIte,pE,pL,pA,pS,pM,pD, zN,qT,qG,qL,qH,qN,qB,qE,qO,qA,qM, wireI, takeI, putI, zItem, zExpr, sM, sT, st, op_mk, name_mk, k_mk, w_mk, args_mk, zNum, emp, Int.reduceEq, not_false_eq_true]
end Go.Proofs.YtbenhdgpogiadaaGreat

namespace Go.Proofs.YtbenhdgpogiadaaGreat
open Go.Aw
open Nat renaming reduceEqDiff → pE, reduceLT → pL, reduceAdd → pA, reduceSub → pS, reduceMul → pM, reduceLeDiff → pD
open Int renaming reduceToNat → qT, reduceGT → qG, reduceLT → qL, reduceGE → qH, reduceBNe → qN, reduceBEq → qB, reduceLE → qE, reduceNe → qO, reduceAdd → qA, reduceNeg → qM
set_option maxRecDepth 100000
set_option maxHeartbeats 20000000
structure Raw where
 kind : Nat
 w : Nat
 l : List Nat
def Raw.ok (x : Raw) : Prop := x.kind < 256 ∧ x.w < 256 ∧ ∀ b ∈ x.l, b < 256
def eRaw (x : Raw) : D := .agg [eU8 x.kind, eU8 x.w, eBytes x.l]
def rawW (x : Raw) : Num := ⟨(1 + x.w % 4 : Nat), emp⟩
def rawC (x : Raw) : Num := ⟨(1 + x.w / 4 % 4 : Nat), emp⟩
def chanI (name : Str) (w d : Num) : Item := { zItem with kind := ⟨3, rfl⟩, name := name, width := w, depth := d }
def inA (x : Raw) : Item := portI ⟨1, rfl⟩ sA (rawW x)
def outB (x : Raw) : Item := portI ⟨2, rfl⟩ sB (rawW x)
def chC (x : Raw) : Item := chanI sC (rawW x) (rawC x)
def chD (x : Raw) : Item := chanI sD (rawW x) ⟨2, emp⟩
def topItems (x : Raw) : List Item :=
 if x.kind % 4 = 0 then [inA x, outB x] ++ ownL x.l (rawW x) sA sB
 else if x.kind % 4 = 1 then [inA x, outB x, chC x, instI sU (rawW x) sA sC, instI sVV (rawW x) sC sB]
 else if x.kind % 4 = 2 then [inA x, outB x, chC x, instI sU (rawW x) sA sC] ++ ownL x.l (rawW x) sC sB
 else [outB x, chC x, chD x, instI sU (rawW x) sC sD] ++ ownL x.l (rawW x) sD sC ++ [putI sB (cond x.l [sR, sS] (rawW x) 1 22) (gen x.l [sR, sS] (rawW x) 1 24)]
def topM (x : Raw) : Module := ⟨sTop, clockOf (1 + x.w / 16), [], topItems x⟩
def made (x : Raw) : List Module := if x.kind % 4 = 0 then [topM x] else if x.kind / 4 % 2 = 1 then [topM x, cellM x.l] else [cellM x.l, topM x]
theorem ownL_len (l : List Nat) (w : Num) (c0 c1 : Str) : (ownL l w c0 c1).length ≤ 10 := by
 simp only [ownL, ownHead, ownTail, ownMem, List.length_append, List.length_cons, List.length_nil]
 split <;> simp
theorem rowsOk_items (l : List Item) : rowsOk 35 (l.map eItem) := by
 intro y hy
 obtain ⟨q, _, rfl⟩ := List.mem_map.1 hy
 simp [eItem, eNum, eExpr_eq, eRule, eI, eS, eNums, eBinds, D.one, Value.oneCell']
theorem u8_id {n : Nat} (h : n < 256) : IntKind.u8.wrap (n : Int) = (n : Int) := by
 have hb : IntKind.u8.bits = 8 := rfl
 have hs : IntKind.u8.signed = false := rfl
 simp only [IntKind.wrap, hb, hs, Bool.false_and, Bool.false_eq_true, if_false]
 omega
theorem made_c (x : Raw) (hx : x.ok) : FnP Tryz.prog 50 [eRaw x] (.d (.agg [eModules (made x)])) [] := by
 obtain ⟨hk, hw, hb⟩ := hx
 refine FnP.of_eC (own := []) (fun i => if i = 11 then [.frz 80] else if i = 16 then [.frz 112] else if i = 9 then [.frz 53] else if i = 2004 then [.flt ⟨[(0, none), (1, none), (2, none), (3, none), (6, some [2, 3]), (7, some [])]⟩ ⟨[4, 5], [(6, [4]), (7, [5])]⟩] else if i = 2005 then [.flt ⟨[(0, none), (1, none), (2, none), (3, none), (4, none), (5, none), (8, some [3, 4, 5]), (9, some [])]⟩ ⟨[6, 7], [(8, [6]), (9, [7])]⟩] else if i = 2011 then [.ord ⟨[(0, none), (1, none), (3, none), (4, none), (5, none), (6, none), (7, none), (2, some [3, 4, 5, 6, 7]), (8, some []), (9, some []), (10, some [])]⟩] else if i = 2014 then [.ord ⟨[(0, none), (1, none), (2, none), (3, none), (4, none), (5, none), (6, none), (7, none), (8, none), (9, none), (10, some []), (11, some [])]⟩] else if i = 2016 then [.ord ⟨[(0, none), (1, none), (2, none), (3, none), (4, none), (5, none), (7, none), (8, none), (9, none), (10, none), (11, none), (6, some [7, 8, 9, 10, 11]), (12, some []), (13, some []), (14, some [])]⟩] else if i = 2008 then [.ord ⟨[(0, none), (1, none), (2, none), (3, none), (4, none), (5, none), (7, none), (8, none), (9, none), (10, none), (11, none), (6, some [7, 8, 9, 10, 11]), (12, some []), (13, some []), (14, some [])]⟩] else if i = 2009 then [.ord ⟨[(0, none), (1, none), (2, none), (3, none), (4, none), (5, none), (6, none), (7, none), (8, none), (9, none), (10, none), (11, none), (12, none), (13, some []), (14, some []), (15, some [])]⟩] else if i = 2018 then [.ord ⟨[(0, none), (1, none), (2, none), (3, none), (4, none), (5, none), (6, some [])]⟩] else if i = 2019 then [.ord ⟨[(0, none), (1, none), (2, none), (3, none), (4, none), (5, none), (6, some [])]⟩] else if i = 2012 then [.chn] else if i = 2007 then [.chn] else []) mixed Tryz.func50 rfl Tryz.call50 Tryz.ntmps50 (Nat.le_of_ble_eq_true rfl) Tryz.results50 (fun hok => ?_)
 have w4 : (x.w : Int).tmod 4 = ((x.w % 4 : Nat) : Int) := (Int.ofNat_tmod _ 4).symm
 have w44 : (x.w : Int).tdiv 4 = ((x.w / 4 : Nat) : Int) := (Int.ofNat_tdiv _ 4).symm
 have w444 : ((x.w / 4 : Nat) : Int).tmod 4 = ((x.w / 4 % 4 : Nat) : Int) := (Int.ofNat_tmod _ 4).symm
 have w16 : (x.w : Int).tdiv 16 = ((x.w / 16 : Nat) : Int) := (Int.ofNat_tdiv _ 16).symm
 have k4 : (x.kind : Int).tmod 4 = ((x.kind % 4 : Nat) : Int) := (Int.ofNat_tmod _ 4).symm
 have kd : (x.kind : Int).tdiv 4 = ((x.kind / 4 : Nat) : Int) := (Int.ofNat_tdiv _ 4).symm
 have kd2 : ((x.kind / 4 : Nat) : Int).tmod 2 = ((x.kind / 4 % 2 : Nat) : Int) := (Int.ofNat_tmod _ 2).symm
 have v1 : IntKind.i64.wrap ((x.w % 4 : Nat) : Int) = ((x.w % 4 : Nat) : Int) := wrap_id (by omega) (by omega)
 have v2 : IntKind.i64.wrap (1 + ((x.w % 4 : Nat) : Int)) = ((1 + x.w % 4 : Nat) : Int) := wrap_id (by omega) (by omega)
 have v3 : IntKind.i64.wrap ((x.w / 4 % 4 : Nat) : Int) = ((x.w / 4 % 4 : Nat) : Int) := wrap_id (by omega) (by omega)
 have v4 : IntKind.i64.wrap (1 + ((x.w / 4 % 4 : Nat) : Int)) = ((1 + x.w / 4 % 4 : Nat) : Int) := wrap_id (by omega) (by omega)
 have v5 : IntKind.i64.wrap ((x.w / 16 : Nat) : Int) = ((x.w / 16 : Nat) : Int) := wrap_id (by omega) (by omega)
 have v6 : IntKind.i64.wrap (1 + ((x.w / 16 : Nat) : Int)) = ((1 + x.w / 16 : Nat) : Int) := wrap_id (by omega) (by omega)
 have u1 : IntKind.u8.wrap ((x.w / 4 : Nat) : Int) = ((x.w / 4 : Nat) : Int) := u8_id (by omega)
 have u2 : IntKind.u8.wrap ((x.w / 16 : Nat) : Int) = ((x.w / 16 : Nat) : Int) := u8_id (by omega)
 have u3 : IntKind.u8.wrap ((x.kind / 4 : Nat) : Int) = ((x.kind / 4 : Nat) : Int) := u8_id (by omega)
 have kc := clock_c (1 + x.w / 16)
 simp only [ZE,↓reduceIte,pE,pL,pA,pS,pM,pD] at kc
 have o0 := own_c x.l (rawW x) sA sB hb
 have o2 := own_c x.l (rawW x) sC sB hb
 have o3 := own_c x.l (rawW x) sD sC hb
 have l0 := ownL_len x.l (rawW x) sA sB
 have l2 := ownL_len x.l (rawW x) sC sB
 have l3 := ownL_len x.l (rawW x) sD sC
 obtain ⟨O0, q0⟩ : ∃ L, ownL x.l (rawW x) sA sB = L := ⟨_, rfl⟩
 obtain ⟨O2, q2⟩ : ∃ L, ownL x.l (rawW x) sC sB = L := ⟨_, rfl⟩
 obtain ⟨O3, q3⟩ : ∃ L, ownL x.l (rawW x) sD sC = L := ⟨_, rfl⟩
 rw [q0] at o0 l0
 rw [q2] at o2 l2
 rw [q3] at o3 l3
 have i1 := inst_c sU (rawW x) sA sC
 have i2 := inst_c sVV (rawW x) sC sB
 have i3 := inst_c sU (rawW x) sC sD
 have c22 := cond1_c x.l [sR, sS] (rawW x) hb (by simp) (by simp) 22 (by omega)
 have g24 := gen1_c x.l [sR, sS] (rawW x) hb (by simp) (by simp) 24 (by omega)
 have cm := cell_c x.l hb
 obtain ⟨y22, h22⟩ : ∃ e, cond x.l [sR, sS] (rawW x) 1 22 = e := ⟨_, rfl⟩
 obtain ⟨y24, h24⟩ : ∃ e, gen x.l [sR, sS] (rawW x) 1 24 = e := ⟨_, rfl⟩
 rw [h22] at c22
 rw [h24] at g24
 simp only [ZE,↓reduceIte,pE,pL,pA,pS,pM,pD, ePair, eAt, eCtx, List.map_cons, List.map_nil, rawW, sA, sB, sC, sD, sU, sVV, sR, sS, st, emp] at o0 o2 o3 i1 i2 i3 c22 g24 cm
 by_cases b0 : x.kind % 4 = 0
 ·have h0 : (((x.kind % 4 : Nat) : Int) == 0) = true := by simp [b0]
  rw [made, if_pos b0, topM, topItems, if_pos b0, q0]
  simp (maxSteps := 4000000) only [ZE,↓reduceIte,pE,pL,pA,pS,pM,pD, eRaw, zN,qT,qG,qL,qH,qN,qB,qE,qO,qA,qM, Int.reduceEq, not_false_eq_true, w4, w44, w444, w16, v1, v2, v3, v4, v5, v6, u1, u2, u3, k4, kd, kd2]
  refine EFn.p ?_
  simp only [ZE,↓reduceIte,pE,pL,pA,pS,pM,pD, zN,qT,qG,qL,qH,qN,qB,qE,qO,qA,qM]
  refine ECall.i kc ?_
  simp only [ZE,↓reduceIte,pE,pL,pA,pS,pM,pD, zN,qT,qG,qL,qH,qN,qB,qE,qO,qA,qM, Int.reduceEq, not_false_eq_true, w4, w44, w444, w16, v1, v2, v3, v4, v5, v6, u1, u2, u3, k4, kd, kd2, h0]
  refine ⟨by kernel_rfl, by kernel_rfl, by kernel_rfl, ECall'.i o0 ?_⟩
  simp only [ZE,↓reduceIte,pE,pL,pA,pS,pM,pD, zN,qT,qG,qL,qH,qN,qB,qE,qO,qA,qM]
  refine ⟨ECall'.i o0 ?_, ?_⟩
  ·simp only [ZE,↓reduceIte,pE,pL,pA,pS,pM,pD]
  have ro := rowsOk_items O0
  have e2 : 2 + O0.length = O0.length + 1 + 1 := by omega
  simp only [ZE,↓reduceIte,pE,pL,pA,pS,pM,pD, zN,qT,qG,qL,qH,qN,qB,qE,qO,qA,qM, e2, topM, rawW, rawC, inA, outB, chC, chD, portI, chanI, instI, putI, zItem, zExpr, sA, sB, sC, sD, sU, sVV, sX, sY, sCell, sTop, st, op_mk, name_mk, k_mk, w_mk, args_mk, zNum, emp, Int.reduceEq, not_false_eq_true]
  exact ⟨ro, by omega, by omega⟩
 have h0 : (((x.kind % 4 : Nat) : Int) == 0) = false := by simp; omega
 by_cases b9 : x.kind / 4 % 2 = 1
 ·have h9 : (((x.kind / 4 % 2 : Nat) : Int) == 1) = true := by simp [b9]
  rw [made, if_neg b0, if_pos b9, topM, topItems, if_neg b0]
  by_cases b1 : x.kind % 4 = 1
  ·have h1 : (((x.kind % 4 : Nat) : Int) == 1) = true := by simp [b1]
   rw [if_pos b1]
   simp (maxSteps := 4000000) only [ZE,↓reduceIte,pE,pL,pA,pS,pM,pD, eRaw, zN,qT,qG,qL,qH,qN,qB,qE,qO,qA,qM, Int.reduceEq, not_false_eq_true, w4, w44, w444, w16, v1, v2, v3, v4, v5, v6, u1, u2, u3, k4, kd, kd2]
   refine EFn.p ?_
   simp only [ZE,↓reduceIte,pE,pL,pA,pS,pM,pD, zN,qT,qG,qL,qH,qN,qB,qE,qO,qA,qM]
   refine ECall.i kc ?_
   simp only [ZE,↓reduceIte,pE,pL,pA,pS,pM,pD, zN,qT,qG,qL,qH,qN,qB,qE,qO,qA,qM, Int.reduceEq, not_false_eq_true, w4, w44, w444, w16, v1, v2, v3, v4, v5, v6, u1, u2, u3, k4, kd, kd2, h0, h1, h9]
   refine ⟨by kernel_rfl, by kernel_rfl, by kernel_rfl, ECall'.i i1 ?_⟩
   simp only [ZE,↓reduceIte,pE,pL,pA,pS,pM,pD, zN,qT,qG,qL,qH,qN,qB,qE,qO,qA,qM]
   refine ECall'.i i2 ?_
   simp only [ZE,↓reduceIte,pE,pL,pA,pS,pM,pD, zN,qT,qG,qL,qH,qN,qB,qE,qO,qA,qM, w4, w44, w444, w16, v1, v2, v3, v4, v5, v6, u1, u2, u3, k4, kd, kd2, h9, Int.reduceEq, not_false_eq_true]
   refine ⟨by kernel_rfl, ECall'.i cm ?_⟩
   simp only [ZE,↓reduceIte,pE,pL,pA,pS,pM,pD, zN,qT,qG,qL,qH,qN,qB,qE,qO,qA,qM, topM, rawW, rawC, inA, outB, chC, chD, portI, chanI, instI, putI, zItem, zExpr, sA, sB, sC, sD, sU, sVV, sX, sY, sCell, sTop, st, op_mk, name_mk, k_mk, w_mk, args_mk, zNum, emp, Int.reduceEq, not_false_eq_true]
  have h1 : (((x.kind % 4 : Nat) : Int) == 1) = false := by simp; omega
  rw [if_neg b1]
  by_cases b2 : x.kind % 4 = 2
  ·have h2 : (((x.kind % 4 : Nat) : Int) == 2) = true := by simp [b2]
   rw [if_pos b2, q2]
   simp (maxSteps := 4000000) only [ZE,↓reduceIte,pE,pL,pA,pS,pM,pD, eRaw, zN,qT,qG,qL,qH,qN,qB,qE,qO,qA,qM, Int.reduceEq, not_false_eq_true, w4, w44, w444, w16, v1, v2, v3, v4, v5, v6, u1, u2, u3, k4, kd, kd2]
   refine EFn.p ?_
   simp only [ZE,↓reduceIte,pE,pL,pA,pS,pM,pD, zN,qT,qG,qL,qH,qN,qB,qE,qO,qA,qM]
   refine ECall.i kc ?_
   simp only [ZE,↓reduceIte,pE,pL,pA,pS,pM,pD, zN,qT,qG,qL,qH,qN,qB,qE,qO,qA,qM, Int.reduceEq, not_false_eq_true, w4, w44, w444, w16, v1, v2, v3, v4, v5, v6, u1, u2, u3, k4, kd, kd2, h0, h1, h2, h9]
   refine ⟨by kernel_rfl, by kernel_rfl, by kernel_rfl, ECall'.i i1 ?_⟩
   simp only [ZE,↓reduceIte,pE,pL,pA,pS,pM,pD, zN,qT,qG,qL,qH,qN,qB,qE,qO,qA,qM]
   refine ECall'.i o2 ?_
   simp only [ZE,↓reduceIte,pE,pL,pA,pS,pM,pD, zN,qT,qG,qL,qH,qN,qB,qE,qO,qA,qM]
   refine ⟨ECall'.i o2 ?_, ?_⟩
   ·simp only [ZE,↓reduceIte,pE,pL,pA,pS,pM,pD]
   have ro := rowsOk_items O2
   have e4 : 4 + O2.length = O2.length + 1 + 1 + 1 + 1 := by omega
   try simp only [ZE,↓reduceIte,pE,pL,pA,pS,pM,pD, zN,qT,qG,qL,qH,qN,qB,qE,qO,qA,qM, w4, w44, w444, w16, v1, v2, v3, v4, v5, v6, u1, u2, u3, k4, kd, kd2, h9, e4, Int.reduceEq, not_false_eq_true]
   refine ⟨⟨ro, by omega, by omega⟩, by kernel_rfl, ECall'.i cm ?_⟩
   simp only [ZE,↓reduceIte,pE,pL,pA,pS,pM,pD, zN,qT,qG,qL,qH,qN,qB,qE,qO,qA,qM, topM, rawW, rawC, inA, outB, chC, chD, portI, chanI, instI, putI, zItem, zExpr, sA, sB, sC, sD, sU, sVV, sX, sY, sCell, sTop, st, op_mk, name_mk, k_mk, w_mk, args_mk, zNum, emp, Int.reduceEq, not_false_eq_true]
  have h2 : (((x.kind % 4 : Nat) : Int) == 2) = false := by simp; omega
  rw [if_neg b2, q3, h22, h24]
  simp (maxSteps := 4000000) only [ZE,↓reduceIte,pE,pL,pA,pS,pM,pD, eRaw, zN,qT,qG,qL,qH,qN,qB,qE,qO,qA,qM, Int.reduceEq, not_false_eq_true, w4, w44, w444, w16, v1, v2, v3, v4, v5, v6, u1, u2, u3, k4, kd, kd2]
  refine EFn.p ?_
  simp only [ZE,↓reduceIte,pE,pL,pA,pS,pM,pD, zN,qT,qG,qL,qH,qN,qB,qE,qO,qA,qM]
  refine ECall.i kc ?_
  simp only [ZE,↓reduceIte,pE,pL,pA,pS,pM,pD, zN,qT,qG,qL,qH,qN,qB,qE,qO,qA,qM, Int.reduceEq, not_false_eq_true, w4, w44, w444, w16, v1, v2, v3, v4, v5, v6, u1, u2, u3, k4, kd, kd2, h0, h1, h2, h9]
  refine ⟨by kernel_rfl, by kernel_rfl, by kernel_rfl, ECall'.i i3 ?_⟩
  simp only [ZE,↓reduceIte,pE,pL,pA,pS,pM,pD, zN,qT,qG,qL,qH,qN,qB,qE,qO,qA,qM]
  refine ECall'.i o3 ?_
  simp only [ZE,↓reduceIte,pE,pL,pA,pS,pM,pD, zN,qT,qG,qL,qH,qN,qB,qE,qO,qA,qM]
  refine ⟨ECall'.i o3 ?_, ?_⟩
  ·simp only [ZE,↓reduceIte,pE,pL,pA,pS,pM,pD]
  have ro := rowsOk_items O3
  have e4 : 4 + O3.length = O3.length + 1 + 1 + 1 + 1 := by omega
  try simp only [ZE,↓reduceIte,pE,pL,pA,pS,pM,pD, zN,qT,qG,qL,qH,qN,qB,qE,qO,qA,qM, e4]
  refine ⟨⟨ro, by omega, by omega⟩, by kernel_rfl, ECall'.i c22 ?_⟩
  simp only [ZE,↓reduceIte,pE,pL,pA,pS,pM,pD, zN,qT,qG,qL,qH,qN,qB,qE,qO,qA,qM, e4]
  refine ECall'.i g24 ?_
  simp only [ZE,↓reduceIte,pE,pL,pA,pS,pM,pD, zN,qT,qG,qL,qH,qN,qB,qE,qO,qA,qM, w4, w44, w444, w16, v1, v2, v3, v4, v5, v6, u1, u2, u3, k4, kd, kd2, h9, e4, Int.reduceEq, not_false_eq_true, List.length_append]
  refine ⟨⟨by omega, by omega⟩, by kernel_rfl, ECall'.i cm ?_⟩
  simp only [ZE,↓reduceIte,pE,pL,pA,pS,pM,pD, zN,qT,qG,qL,qH,qN,qB,qE,qO,qA,qM, List.map_append, topM, rawW, rawC, inA, outB, chC, chD, portI, chanI, instI, putI, zItem, zExpr, sA, sB, sC, sD, sU, sVV, sX, sY, sCell, sTop, st, op_mk, name_mk, k_mk, w_mk, args_mk, zNum, emp, Int.reduceEq, not_false_eq_true]
 ·have h9 : (((x.kind / 4 % 2 : Nat) : Int) == 1) = false := by simp; omega
  rw [made, if_neg b0, if_neg b9, topM, topItems, if_neg b0]
  by_cases b1 : x.kind % 4 = 1
  ·have h1 : (((x.kind % 4 : Nat) : Int) == 1) = true := by simp [b1]
   rw [if_pos b1]
   simp (maxSteps := 4000000) only [ZE,↓reduceIte,pE,pL,pA,pS,pM,pD, eRaw, zN,qT,qG,qL,qH,qN,qB,qE,qO,qA,qM, Int.reduceEq, not_false_eq_true, w4, w44, w444, w16, v1, v2, v3, v4, v5, v6, u1, u2, u3, k4, kd, kd2]
   refine EFn.p ?_
   simp only [ZE,↓reduceIte,pE,pL,pA,pS,pM,pD, zN,qT,qG,qL,qH,qN,qB,qE,qO,qA,qM]
   refine ECall.i kc ?_
   simp only [ZE,↓reduceIte,pE,pL,pA,pS,pM,pD, zN,qT,qG,qL,qH,qN,qB,qE,qO,qA,qM, Int.reduceEq, not_false_eq_true, w4, w44, w444, w16, v1, v2, v3, v4, v5, v6, u1, u2, u3, k4, kd, kd2, h0, h1, h9]
   refine ⟨by kernel_rfl, by kernel_rfl, by kernel_rfl, ECall'.i i1 ?_⟩
   simp only [ZE,↓reduceIte,pE,pL,pA,pS,pM,pD, zN,qT,qG,qL,qH,qN,qB,qE,qO,qA,qM]
   refine ECall'.i i2 ?_
   simp only [ZE,↓reduceIte,pE,pL,pA,pS,pM,pD, zN,qT,qG,qL,qH,qN,qB,qE,qO,qA,qM, w4, w44, w444, w16, v1, v2, v3, v4, v5, v6, u1, u2, u3, k4, kd, kd2, h9, Int.reduceEq, not_false_eq_true]
   refine ⟨by kernel_rfl, ECall'.i cm ?_⟩
   simp only [ZE,↓reduceIte,pE,pL,pA,pS,pM,pD, zN,qT,qG,qL,qH,qN,qB,qE,qO,qA,qM, topM, rawW, rawC, inA, outB, chC, chD, portI, chanI, instI, putI, zItem, zExpr, sA, sB, sC, sD, sU, sVV, sX, sY, sCell, sTop, st, op_mk, name_mk, k_mk, w_mk, args_mk, zNum, emp, Int.reduceEq, not_false_eq_true]
  have h1 : (((x.kind % 4 : Nat) : Int) == 1) = false := by simp; omega
  rw [if_neg b1]
  by_cases b2 : x.kind % 4 = 2
  ·have h2 : (((x.kind % 4 : Nat) : Int) == 2) = true := by simp [b2]
   rw [if_pos b2, q2]
   simp (maxSteps := 4000000) only [ZE,↓reduceIte,pE,pL,pA,pS,pM,pD, eRaw, zN,qT,qG,qL,qH,qN,qB,qE,qO,qA,qM, Int.reduceEq, not_false_eq_true, w4, w44, w444, w16, v1, v2, v3, v4, v5, v6, u1, u2, u3, k4, kd, kd2]
   refine EFn.p ?_
   simp only [ZE,↓reduceIte,pE,pL,pA,pS,pM,pD, zN,qT,qG,qL,qH,qN,qB,qE,qO,qA,qM]
   refine ECall.i kc ?_
   simp only [ZE,↓reduceIte,pE,pL,pA,pS,pM,pD, zN,qT,qG,qL,qH,qN,qB,qE,qO,qA,qM, Int.reduceEq, not_false_eq_true, w4, w44, w444, w16, v1, v2, v3, v4, v5, v6, u1, u2, u3, k4, kd, kd2, h0, h1, h2, h9]
   refine ⟨by kernel_rfl, by kernel_rfl, by kernel_rfl, ECall'.i i1 ?_⟩
   simp only [ZE,↓reduceIte,pE,pL,pA,pS,pM,pD, zN,qT,qG,qL,qH,qN,qB,qE,qO,qA,qM]
   refine ECall'.i o2 ?_
   simp only [ZE,↓reduceIte,pE,pL,pA,pS,pM,pD, zN,qT,qG,qL,qH,qN,qB,qE,qO,qA,qM]
   refine ⟨ECall'.i o2 ?_, ?_⟩
   ·simp only [ZE,↓reduceIte,pE,pL,pA,pS,pM,pD]
   have ro := rowsOk_items O2
   have e4 : 4 + O2.length = O2.length + 1 + 1 + 1 + 1 := by omega
   try simp only [ZE,↓reduceIte,pE,pL,pA,pS,pM,pD, zN,qT,qG,qL,qH,qN,qB,qE,qO,qA,qM, w4, w44, w444, w16, v1, v2, v3, v4, v5, v6, u1, u2, u3, k4, kd, kd2, h9, e4, Int.reduceEq, not_false_eq_true]
   refine ⟨⟨ro, by omega, by omega⟩, by kernel_rfl, ECall'.i cm ?_⟩
   simp only [ZE,↓reduceIte,pE,pL,pA,pS,pM,pD, zN,qT,qG,qL,qH,qN,qB,qE,qO,qA,qM, topM, rawW, rawC, inA, outB, chC, chD, portI, chanI, instI, putI, zItem, zExpr, sA, sB, sC, sD, sU, sVV, sX, sY, sCell, sTop, st, op_mk, name_mk, k_mk, w_mk, args_mk, zNum, emp, Int.reduceEq, not_false_eq_true]
  have h2 : (((x.kind % 4 : Nat) : Int) == 2) = false := by simp; omega
  rw [if_neg b2, q3, h22, h24]
  simp (maxSteps := 4000000) only [ZE,↓reduceIte,pE,pL,pA,pS,pM,pD, eRaw, zN,qT,qG,qL,qH,qN,qB,qE,qO,qA,qM, Int.reduceEq, not_false_eq_true, w4, w44, w444, w16, v1, v2, v3, v4, v5, v6, u1, u2, u3, k4, kd, kd2]
  refine EFn.p ?_
  simp only [ZE,↓reduceIte,pE,pL,pA,pS,pM,pD, zN,qT,qG,qL,qH,qN,qB,qE,qO,qA,qM]
  refine ECall.i kc ?_
  simp only [ZE,↓reduceIte,pE,pL,pA,pS,pM,pD, zN,qT,qG,qL,qH,qN,qB,qE,qO,qA,qM, Int.reduceEq, not_false_eq_true, w4, w44, w444, w16, v1, v2, v3, v4, v5, v6, u1, u2, u3, k4, kd, kd2, h0, h1, h2, h9]
  refine ⟨by kernel_rfl, by kernel_rfl, by kernel_rfl, ECall'.i i3 ?_⟩
  simp only [ZE,↓reduceIte,pE,pL,pA,pS,pM,pD, zN,qT,qG,qL,qH,qN,qB,qE,qO,qA,qM]
  refine ECall'.i o3 ?_
  simp only [ZE,↓reduceIte,pE,pL,pA,pS,pM,pD, zN,qT,qG,qL,qH,qN,qB,qE,qO,qA,qM]
  refine ⟨ECall'.i o3 ?_, ?_⟩
  ·simp only [ZE,↓reduceIte,pE,pL,pA,pS,pM,pD]
  have ro := rowsOk_items O3
  have e4 : 4 + O3.length = O3.length + 1 + 1 + 1 + 1 := by omega
  try simp only [ZE,↓reduceIte,pE,pL,pA,pS,pM,pD, zN,qT,qG,qL,qH,qN,qB,qE,qO,qA,qM, e4]
  refine ⟨⟨ro, by omega, by omega⟩, by kernel_rfl, ECall'.i c22 ?_⟩
  simp only [ZE,↓reduceIte,pE,pL,pA,pS,pM,pD, zN,qT,qG,qL,qH,qN,qB,qE,qO,qA,qM, e4]
  refine ECall'.i g24 ?_
  simp only [ZE,↓reduceIte,pE,pL,pA,pS,pM,pD, zN,qT,qG,qL,qH,qN,qB,qE,qO,qA,qM, w4, w44, w444, w16, v1, v2, v3, v4, v5, v6, u1, u2, u3, k4, kd, kd2, h9, e4, Int.reduceEq, not_false_eq_true, List.length_append]
  refine ⟨⟨by omega, by omega⟩, by kernel_rfl, ECall'.i cm ?_⟩
  simp only [ZE,↓reduceIte,pE,pL,pA,pS,pM,pD, zN,qT,qG,qL,qH,qN,qB,qE,qO,qA,qM, List.map_append, topM, rawW, rawC, inA, outB, chC, chD, portI, chanI, instI, putI, zItem, zExpr, sA, sB, sC, sD, sU, sVV, sX, sY, sCell, sTop, st, op_mk, name_mk, k_mk, w_mk, args_mk, zNum, emp, Int.reduceEq, not_false_eq_true]
end Go.Proofs.YtbenhdgpogiadaaGreat

namespace Go.Proofs.YtbenhdgpogiadaaGreat
open Go.Aw
set_option maxRecDepth 100000
def dataT (mem : Bool) (l : List Nat) (w : Num) (c0 : Str) : Expr := match mem with
 | true => .mk 5 emp zNum zNum [gen l [sR, sS, sT, c0] w 1 8, .mk 15 sM zNum zNum [gen l [sR, sS] w 0 10]]
 | false => gen l [sR, sS, sT, c0] w 1 8
def ownT (mem : Bool) (l : List Nat) (w : Num) (c0 c1 : Str) (z : List Item) : List Item := match mem with
 | true => regI sR l 2 [sR, sS, sT, c0] w :: regI sS l 4 [sS, sR, c0] w :: wireI sT w (gen l [sR, sS] w 1 6) :: memI l w c0 :: takeI c0 (cond l [sR, sS] w 1 18) :: putI c1 (cond l [sR, sS, sT, c0] w 1 20) (dataT true l w c0) :: z
 | false => regI sR l 2 [sR, sS, sT, c0] w :: regI sS l 4 [sS, sR, c0] w :: wireI sT w (gen l [sR, sS] w 1 6) :: takeI c0 (cond l [sR, sS] w 1 18) :: putI c1 (cond l [sR, sS, sT, c0] w 1 20) (dataT false l w c0) :: z
theorem ownL_T (l : List Nat) (w : Num) (c0 c1 : Str) (z : List Item) : ∃ mem, ownL l w c0 c1 ++ z = ownT mem l w c0 c1 z := by
 unfold ownL ownHead ownMem ownTail ownData
 by_cases h : byteL l 0 % 2 = 1
 ·refine ⟨true, ?_⟩
  simp only [if_pos h]; rfl
 ·refine ⟨false, ?_⟩
  simp only [if_neg h]; rfl
def top0 (mem : Bool) (x : Raw) : Module := ⟨sTop, clockOf (1 + x.w / 16), [], inA x :: outB x :: ownT mem x.l (rawW x) sA sB []⟩
def two (o : Bool) (a b : Module) : List Module := match o with
 | true => [a, b]
 | false => [b, a]
def top1 (x : Raw) : Module := ⟨sTop, clockOf (1 + x.w / 16), [], [inA x, outB x, chC x, instI sU (rawW x) sA sC, instI sVV (rawW x) sC sB]⟩
def top2 (mem : Bool) (x : Raw) : Module := ⟨sTop, clockOf (1 + x.w / 16), [], inA x :: outB x :: chC x :: instI sU (rawW x) sA sC :: ownT mem x.l (rawW x) sC sB []⟩
def top3 (mem : Bool) (x : Raw) : Module := ⟨sTop, clockOf (1 + x.w / 16), [], outB x :: chC x :: chD x :: instI sU (rawW x) sC sD :: ownT mem x.l (rawW x) sD sC [putI sB (cond x.l [sR, sS] (rawW x) 1 22) (gen x.l [sR, sS] (rawW x) 1 24)]⟩
/-- What a generated file looks like. -/
theorem made_shape (x : Raw) : (∃ mem, made x = [top0 mem x]) ∨ (∃ o, made x = two o (top1 x) (cellM x.l)) ∨ (∃ o mem, made x = two o (top2 mem x) (cellM x.l)) ∨ (∃ o mem, made x = two o (top3 mem x) (cellM x.l)) := by
 by_cases b0 : x.kind % 4 = 0
 ·left
  obtain ⟨mem, h⟩ := ownL_T x.l (rawW x) sA sB []
  rw [List.append_nil] at h
  refine ⟨mem, ?_⟩
  rw [made, if_pos b0, topM, topItems, if_pos b0, h]; rfl
 right
 have ho : ∀ t : Module, topM x = t → ∃ o, made x = two o t (cellM x.l) := by
  intro t ht
  by_cases b9 : x.kind / 4 % 2 = 1
  ·exact ⟨true, by rw [made, if_neg b0, if_pos b9, ht]; rfl⟩
  ·exact ⟨false, by rw [made, if_neg b0, if_neg b9, ht]; rfl⟩
 by_cases b1 : x.kind % 4 = 1
 ·left
  exact ho _ (by rw [topM, topItems, if_neg b0, if_pos b1]; rfl)
 right
 by_cases b2 : x.kind % 4 = 2
 ·left
  obtain ⟨mem, h⟩ := ownL_T x.l (rawW x) sC sB []
  rw [List.append_nil] at h
  obtain ⟨o, h'⟩ := ho (top2 mem x) (by rw [topM, topItems, if_neg b0, if_neg b1, if_pos b2, h]; rfl)
  exact ⟨o, mem, h'⟩
 ·right
  obtain ⟨mem, h⟩ := ownL_T x.l (rawW x) sD sC [putI sB (cond x.l [sR, sS] (rawW x) 1 22) (gen x.l [sR, sS] (rawW x) 1 24)]
  obtain ⟨o, h'⟩ := ho (top3 mem x) (by rw [topM, topItems, if_neg b0, if_neg b1, if_neg b2, List.append_assoc, h]; rfl)
  exact ⟨o, mem, h'⟩
end Go.Proofs.YtbenhdgpogiadaaGreat

namespace Go.Proofs.YtbenhdgpogiadaaGreat
open Go.Aw
set_option maxRecDepth 100000
def sz (e : Expr) : Nat := e.all.length
theorem allL_len : ∀ r : List Expr, (Expr.allL r).length = (r.map sz).sum
 | [] => rfl
 | e :: r => by rw [Expr.allL, List.length_append, List.map_cons, List.sum_cons, allL_len r]; rfl
theorem sz_mk (o : Int) (n : Str) (k w : Num) (r : List Expr) : sz (.mk o n k w r) = (r.map sz).sum + 1 := by
 unfold sz
 rw [Expr.all_eq, List.length_cons, Expr.args, allL_len]; rfl
theorem leaf_sz (l : List Nat) (ns : List Str) (w : Num) (a : Nat) : sz (leaf l ns w a) = 1 := by
 unfold leaf; split <;> rw [sz_mk] <;> rfl
theorem condOf_sz (x y : Expr) (k : Nat) : sz (condOf x y k) ≤ sz x + sz y + 1 := by
 unfold condOf
 split
 ·rw [sz_mk]; simp
 split
 ·rw [sz_mk]; simp
 split
 ·rw [sz_mk]; simp
 ·rw [sz_mk]; simp
theorem nodeOf_sz (x y c : Expr) (k : Nat) : sz (nodeOf x y c k) ≤ sz x + sz y + sz c + 1 := by
 unfold nodeOf
 split
 ·rw [sz_mk]; simp only [List.map_cons, List.map_nil, List.sum_cons, List.sum_nil]; omega
 split
 ·rw [sz_mk]; simp only [List.map_cons, List.map_nil, List.sum_cons, List.sum_nil]; omega
 split
 ·rw [sz_mk]; simp only [List.map_cons, List.map_nil, List.sum_cons, List.sum_nil]; omega
 split
 ·rw [sz_mk]; simp only [List.map_cons, List.map_nil, List.sum_cons, List.sum_nil]; omega
 split
 ·rw [sz_mk]; simp only [List.map_cons, List.map_nil, List.sum_cons, List.sum_nil]; omega
 split
 ·rw [sz_mk]; simp only [List.map_cons, List.map_nil, List.sum_cons, List.sum_nil]; omega
 ·rw [sz_mk]; simp only [List.map_cons, List.map_nil, List.sum_cons, List.sum_nil]; omega
theorem gen0_sz (l : List Nat) (ns : List Str) (w : Num) (a : Nat) : sz (gen l ns w 0 a) ≤ 20 := by
 have := leaf_sz l ns w a
 show sz (leaf l ns w a) ≤ 20
 omega
theorem gen1_sz' (l : List Nat) (ns : List Str) (w : Num) (a : Nat) : sz (gen l ns w 1 a) ≤ 6 := by
 unfold gen
 split
 ·have := leaf_sz l ns w a; omega
 ·have h1 := leaf_sz l ns w (3 * a + 1)
  have h2 := leaf_sz l ns w (3 * a + 2)
  have h3 := leaf_sz l ns w (3 * a + 4)
  have h4 := leaf_sz l ns w (3 * a + 5)
  have h5 := condOf_sz (gen l ns w 0 (3 * a + 4)) (leaf l ns w (3 * a + 5)) (byteL l (3 * a + 3))
  have h6 := nodeOf_sz (gen l ns w 0 (3 * a + 1)) (gen l ns w 0 (3 * a + 2)) (condOf (gen l ns w 0 (3 * a + 4)) (leaf l ns w (3 * a + 5)) (byteL l (3 * a + 3))) (byteL l a)
  simp only [gen] at h5 h6 ⊢
  omega
theorem gen1_sz (l : List Nat) (ns : List Str) (w : Num) (a : Nat) : sz (gen l ns w 1 a) ≤ 20 := Nat.le_trans (gen1_sz' l ns w a) (by decide)
theorem cond1_sz (l : List Nat) (ns : List Str) (w : Num) (a : Nat) : sz (cond l ns w 1 a) ≤ 20 := by
 have h1 := gen1_sz' l ns w (a + 1)
 have h2 := leaf_sz l ns w (a + 2)
 have h3 := condOf_sz (gen l ns w 1 (a + 1)) (leaf l ns w (a + 2)) (byteL l a)
 unfold cond
 omega
theorem data_sz (mem : Bool) (l : List Nat) (w : Num) (c0 : Str) : sz (dataT mem l w c0) ≤ 20 := by
 cases mem
 ·exact gen1_sz _ _ _ _
 ·have h1 := gen1_sz' l [sR, sS, sT, c0] w 8
  have h2 := leaf_sz l [sR, sS] w 10
  show sz (.mk 5 emp zNum zNum [gen l [sR, sS, sT, c0] w 1 8, .mk 15 sM zNum zNum [gen l [sR, sS] w 0 10]]) ≤ 20
  rw [sz_mk, List.map_cons, List.map_cons, List.map_nil, sz_mk, List.map_cons, List.map_nil]
  simp only [List.sum_cons, List.sum_nil, gen] at *
  omega
theorem sz_z : sz zExpr ≤ 20 := by unfold zExpr; rw [sz_mk]; simp
theorem sum_mem {l : List Expr} : ∀ {x : Expr}, x ∈ l → sz x ≤ (l.map sz).sum := by
 induction l with
 | nil => intro x h; simp at h
 | cons y r ih =>
  intro x h
  rw [List.map_cons, List.sum_cons]
  rcases List.mem_cons.1 h with rfl | h
  ·omega
  ·have := ih h; omega
theorem rowsOk_exprs (l : List Expr) : rowsOk 7 (l.map eExpr) := by
 intro y hy
 obtain ⟨q, _, rfl⟩ := List.mem_map.1 hy
 simp [eExpr_eq, eI, eS, D.one, Value.oneCell']
end Go.Proofs.YtbenhdgpogiadaaGreat

namespace Go.Proofs.YtbenhdgpogiadaaGreat
open Go.Aw
/-- The first place of an element with a property. -/
def idxP {α : Type} (p : α → Bool) (l : List α) : Int := match l.findIdx? p with | some i => (i : Int) | none => -1
theorem idxP_some {α : Type} {p : α → Bool} {l : List α} {i : Nat} (h : i < l.length) (hx : p l[i] = true) (hn : ∀ j (_ : j < i) (hj : j < l.length), p l[j] = false) : idxP p l = i := by
 unfold idxP
 have : l.findIdx? p = some i := by
  rw [List.findIdx?_eq_some_iff_getElem]
  exact ⟨h, hx, fun j hj => by rw [hn j hj (by omega)]; simp⟩
 rw [this]
theorem idxP_none {α : Type} {p : α → Bool} {l : List α} (hn : ∀ j (hj : j < l.length), p l[j] = false) : idxP p l = -1 := by
 unfold idxP
 have : l.findIdx? p = none := by
  rw [List.findIdx?_eq_none_iff]
  intro y hy
  obtain ⟨j, hj, rfl⟩ := List.getElem_of_mem hy
  exact hn j hj
 rw [this]
theorem idxP_nonneg {α : Type} (p : α → Bool) (l : List α) : decide (idxP p l ≥ 0) = l.any p := by
 rw [Bool.eq_iff_iff, List.any_eq_true, decide_eq_true_eq]
 unfold idxP
 split
 ·rename_i i h
  rw [List.findIdx?_eq_some_iff_getElem] at h
  obtain ⟨h1, h2, _⟩ := h
  have : ∃ x, x ∈ l ∧ p x = true := ⟨_, List.getElem_mem h1, h2⟩
  simp [this]
 ·rename_i h
  rw [List.findIdx?_eq_none_iff] at h
  have : ¬ ∃ x, x ∈ l ∧ p x = true := fun ⟨x, h1, h2⟩ => by rw [h x h1] at h2; cases h2
  simp [this]
theorem wf_nat {n : Nat} (h : n ≤ 9223372036854775807) : (Lit.int .i64 (n : Int)).wf = true := by
 simp only [Lit.wf, Bool.and_eq_true, decide_eq_true_eq]
 have h1 : IntKind.i64.min = -9223372036854775808 := by decide
 have h2 : IntKind.i64.max = 9223372036854775807 := by decide
 rw [h1, h2]
 omega
end Go.Proofs.YtbenhdgpogiadaaGreat

namespace Go.Proofs.YtbenhdgpogiadaaGreat
open Go.Aw
open Nat renaming reduceEqDiff → pE, reduceLT → pL, reduceAdd → pA, reduceSub → pS, reduceMul → pM, reduceLeDiff → pD
open Int renaming reduceToNat → qT, reduceGT → qG, reduceLT → qL, reduceGE → qH, reduceBNe → qN, reduceBEq → qB, reduceLE → qE, reduceNe → qO, reduceAdd → qA, reduceNeg → qM
set_option maxRecDepth 100000
set_option maxHeartbeats 20000000
def kindN (n : Nat) : I64 := if h : n ≤ 9223372036854775807 then ⟨(n : Int), wf_nat h⟩ else ⟨0, rfl⟩
theorem kindN_1 {n : Nat} (h : n ≤ 1000) : (kindN n).1 = (n : Int) := by unfold kindN; rw [dif_pos (by omega)]
def spoilI (k1 k3 : Nat) (s : Str) (x : Item) : Item :=
 if k1 % 12 = 4 then { x with name := s } else if k1 % 12 = 5 then { x with kind := kindN (k3 % 11) } else if k1 % 12 = 6 then { x with width := ⟨x.width.n, s⟩ }
 else if k1 % 12 = 7 then { x with a := .mk 14 s zNum zNum [] } else if k1 % 12 = 8 then { x with a := .mk (k3 % 20 : Nat) s zNum zNum [x.a] }
 else if k1 % 12 = 9 then { x with rule := ⟨(k3 % 6 : Nat) - 1, s, 0⟩ } else if k1 % 12 = 10 then { x with of := s } else if k1 % 12 = 11 then { x with ports := x.ports ++ [⟨sX, s⟩] } else x
def spoilL (k1 k3 : Nat) (s : Str) (l : List Item) (n : Nat) (x : Item) : List Item := (if k1 % 12 < 4 then l ++ [x] else l).set n (spoilI k1 k3 s x)
def spoilM (k1 k2 k3 : Nat) (s : Str) (m : Module) : Module :=
 if m.items.length = 0 ∨ k1 % 16 < 4 then
  (if k1 % 4 = 0 then { m with name := s } else if k1 % 4 = 1 then { m with clock := s } else if k1 % 4 = 2 then { m with params := m.params ++ [s] } else { m with items := m.items ++ [{ zItem with kind := kindN (k2 % 11), name := s }] })
 else { m with items := spoilL k1 k3 s m.items (k2 % m.items.length) (m.items.getD (k2 % m.items.length) zItem) }
theorem rowsOk_strs (l : List Str) : rowsOk 1 (l.map fun s => [D.lit (.string s.1)]) := by
 intro y hy
 obtain ⟨q, _, rfl⟩ := List.mem_map.1 hy
 simp [D.one, Value.oneCell']
theorem rowsOk_mods (l : List Module) : rowsOk 4 (l.map eModule) := by
 intro y hy
 obtain ⟨q, _, rfl⟩ := List.mem_map.1 hy
 simp [eModule, eS, eStrs, eItems, D.one, Value.oneCell']
theorem rowsOk_binds (l : List Bind) : rowsOk 2 (l.map eBind) := by
 intro y hy
 obtain ⟨q, _, rfl⟩ := List.mem_map.1 hy
 simp [eBind, eS, D.one, Value.oneCell']
theorem spoil0_c (f : List Module) (k0 k1 k2 k3 : Nat) (s : Str) (h0 : k0 < 256) (h1 : k1 < 256) (h2 : k2 < 256) (h3 : k3 < 256) (hf : f.length ≤ 1000) (i : Nat) (hi : i < f.length) (hki : k0 % f.length = i) (m : Module) (hm : f[i] = m) (hl : m.items.length ≤ 800) (hp : m.params.length ≤ 800)
  (hc : m.items.length = 0 ∨ k1 % 16 < 4) : FnP Tryz.prog 33 [.agg [eModules f], .agg [eU8 k0, eU8 k1, eU8 k2, eU8 k3], eS s] (.d (.agg [eModules (f.set i (spoilM k1 k2 k3 s m))])) [] := by
 refine FnP.of_eC (own := []) (fun i => if i = 1016 then [.frz 34] else if i = 1039 then [.frz 34] else if i = 15 then [.frz 73] else if i = 37 then [.frz 157] else if i = 31 then [.frz 138] else if i = 29 then [.adB 11 14 99 58 7, .frz 99] else []) mixed Tryz.func33 rfl Tryz.call33 Tryz.ntmps33 (Nat.le_of_ble_eq_true rfl) Tryz.results33 (fun hok => ?_)
 have e1 : IntKind.i64.wrap (k0 : Int) = (k0 : Int) := wrap_id (by omega) (by omega)
 have e2 : IntKind.i64.wrap (k2 : Int) = (k2 : Int) := wrap_id (by omega) (by omega)
 have r1 : (k0 : Int).tmod (f.length : Int) = (i : Int) := by rw [← hki]; exact (Int.ofNat_tmod _ _).symm
 have m16 : (k1 : Int).tmod 16 = ((k1 % 16 : Nat) : Int) := (Int.ofNat_tmod _ _).symm
 have m4 : (k1 : Int).tmod 4 = ((k1 % 4 : Nat) : Int) := (Int.ofNat_tmod _ _).symm
 have m12 : (k1 : Int).tmod 12 = ((k1 % 12 : Nat) : Int) := (Int.ofNat_tmod _ _).symm
 have z1 : ¬ (f.length : Int) = 0 := by omega
 have z2 : ((f.length : Int) == 0) = false := by rw [beq_eq_false_iff_ne]; omega
 have ro := rowsOk_mods f
 have ri := rowsOk_items m.items
 have m11 : (k2 : Int).tmod 11 = ((k2 % 11 : Nat) : Int) := (Int.ofNat_tmod _ _).symm
 have e11 : IntKind.i64.wrap ((k2 % 11 : Nat) : Int) = ((k2 % 11 : Nat) : Int) := wrap_id (by omega) (by omega)
 rw [spoilM, if_pos hc]
 by_cases hz : m.items.length = 0
 ·have hz' : ((m.items.length : Int) == 0) = true := by simp [hz]
  by_cases b0 : k1 % 4 = 0
  ·have g0 : (((k1 % 4 : Nat) : Int) == 0) = true := by simp [b0]
   rw [if_pos b0]
   simp (maxSteps := 4000000) only [ZE,↓reduceIte,pE,pL,pA,pS,pM,pD, zN,qT,qG,qL,qH,qN,qB,qE,qO,qA,qM, e1, e2, r1, m16, m4, m12, z1, z2, not_false_eq_true, getD_map hi, lt_int hi, List.length_map, hm, hz', g0, List.length_append, List.length_map, List.length_cons, List.length_nil, List.length_set, List.map_set, List.map_append, List.map_cons, List.map_nil]
   repeat' apply And.intro
   all_goals first | assumption | omega | simp only [ZE,↓reduceIte,pE,pL,pA,pS,pM,pD, List.length_append, List.length_map, List.length_cons, List.length_nil, List.length_set, List.map_set, List.map_append, List.map_cons, List.map_nil]
  have g0 : (((k1 % 4 : Nat) : Int) == 0) = false := by simp; omega
  rw [if_neg b0]
  by_cases b1 : k1 % 4 = 1
  ·have g1 : (((k1 % 4 : Nat) : Int) == 1) = true := by simp [b1]
   rw [if_pos b1]
   simp (maxSteps := 4000000) only [ZE,↓reduceIte,pE,pL,pA,pS,pM,pD, zN,qT,qG,qL,qH,qN,qB,qE,qO,qA,qM, e1, e2, r1, m16, m4, m12, z1, z2, not_false_eq_true, getD_map hi, lt_int hi, List.length_map, hm, hz', g0, g1, List.length_append, List.length_map, List.length_cons, List.length_nil, List.length_set, List.map_set, List.map_append, List.map_cons, List.map_nil]
   repeat' apply And.intro
   all_goals first | assumption | omega | simp only [ZE,↓reduceIte,pE,pL,pA,pS,pM,pD, List.length_append, List.length_map, List.length_cons, List.length_nil, List.length_set, List.map_set, List.map_append, List.map_cons, List.map_nil]
  have g1 : (((k1 % 4 : Nat) : Int) == 1) = false := by simp; omega
  rw [if_neg b1]
  by_cases b2 : k1 % 4 = 2
  ·have g2 : (((k1 % 4 : Nat) : Int) == 2) = true := by simp [b2]
   rw [if_pos b2]
   have rp := rowsOk_strs m.params
   simp (maxSteps := 4000000) only [ZE,↓reduceIte,pE,pL,pA,pS,pM,pD, zN,qT,qG,qL,qH,qN,qB,qE,qO,qA,qM, e1, e2, r1, m16, m4, m12, z1, z2, not_false_eq_true, getD_map hi, lt_int hi, List.length_map, hm, hz', g0, g1, g2, List.length_append, List.length_map, List.length_cons, List.length_nil, List.length_set, List.map_set, List.map_append, List.map_cons, List.map_nil]
   repeat' apply And.intro
   all_goals first | assumption | omega | simp only [ZE,↓reduceIte,pE,pL,pA,pS,pM,pD, List.length_append, List.length_map, List.length_cons, List.length_nil, List.length_set, List.map_set, List.map_append, List.map_cons, List.map_nil]
  have g2 : (((k1 % 4 : Nat) : Int) == 2) = false := by simp; omega
  rw [if_neg b2]
  have k11 : (kindN (k2 % 11)).1 = ((k2 % 11 : Nat) : Int) := kindN_1 (by omega)
  simp (maxSteps := 4000000) only [ZE,↓reduceIte,pE,pL,pA,pS,pM,pD, zN,qT,qG,qL,qH,qN,qB,qE,qO,qA,qM, e1, e2, r1, m16, m4, m12, z1, z2, not_false_eq_true, getD_map hi, lt_int hi, List.length_map, hm, hz', g0, g1, g2, m11, e11, k11, op_mk, name_mk, k_mk, w_mk, args_mk, zExpr, zNum, emp, zItem, List.length_append, List.length_map, List.length_cons, List.length_nil, List.length_set, List.map_set, List.map_append, List.map_cons, List.map_nil]
  repeat' apply And.intro
  all_goals first | assumption | omega | simp only [ZE,↓reduceIte,pE,pL,pA,pS,pM,pD, List.length_append, List.length_map, List.length_cons, List.length_nil, List.length_set, List.map_set, List.map_append, List.map_cons, List.map_nil]
 ·have hz' : ((m.items.length : Int) == 0) = false := by rw [beq_eq_false_iff_ne]; omega
  have c1 : decide (((k1 % 16 : Nat) : Int) < 4) = true := by
   rcases hc with h | h
   ·exact absurd h hz
   ·simp; omega
  by_cases b0 : k1 % 4 = 0
  ·have g0 : (((k1 % 4 : Nat) : Int) == 0) = true := by simp [b0]
   rw [if_pos b0]
   simp (maxSteps := 4000000) only [ZE,↓reduceIte,pE,pL,pA,pS,pM,pD, zN,qT,qG,qL,qH,qN,qB,qE,qO,qA,qM, e1, e2, r1, m16, m4, m12, z1, z2, not_false_eq_true, getD_map hi, lt_int hi, List.length_map, hm, hz', c1, g0, List.length_append, List.length_map, List.length_cons, List.length_nil, List.length_set, List.map_set, List.map_append, List.map_cons, List.map_nil]
   repeat' apply And.intro
   all_goals first | assumption | omega | simp only [ZE,↓reduceIte,pE,pL,pA,pS,pM,pD, List.length_append, List.length_map, List.length_cons, List.length_nil, List.length_set, List.map_set, List.map_append, List.map_cons, List.map_nil]
  have g0 : (((k1 % 4 : Nat) : Int) == 0) = false := by simp; omega
  rw [if_neg b0]
  by_cases b1 : k1 % 4 = 1
  ·have g1 : (((k1 % 4 : Nat) : Int) == 1) = true := by simp [b1]
   rw [if_pos b1]
   simp (maxSteps := 4000000) only [ZE,↓reduceIte,pE,pL,pA,pS,pM,pD, zN,qT,qG,qL,qH,qN,qB,qE,qO,qA,qM, e1, e2, r1, m16, m4, m12, z1, z2, not_false_eq_true, getD_map hi, lt_int hi, List.length_map, hm, hz', c1, g0, g1, List.length_append, List.length_map, List.length_cons, List.length_nil, List.length_set, List.map_set, List.map_append, List.map_cons, List.map_nil]
   repeat' apply And.intro
   all_goals first | assumption | omega | simp only [ZE,↓reduceIte,pE,pL,pA,pS,pM,pD, List.length_append, List.length_map, List.length_cons, List.length_nil, List.length_set, List.map_set, List.map_append, List.map_cons, List.map_nil]
  have g1 : (((k1 % 4 : Nat) : Int) == 1) = false := by simp; omega
  rw [if_neg b1]
  by_cases b2 : k1 % 4 = 2
  ·have g2 : (((k1 % 4 : Nat) : Int) == 2) = true := by simp [b2]
   rw [if_pos b2]
   have rp := rowsOk_strs m.params
   simp (maxSteps := 4000000) only [ZE,↓reduceIte,pE,pL,pA,pS,pM,pD, zN,qT,qG,qL,qH,qN,qB,qE,qO,qA,qM, e1, e2, r1, m16, m4, m12, z1, z2, not_false_eq_true, getD_map hi, lt_int hi, List.length_map, hm, hz', c1, g0, g1, g2, List.length_append, List.length_map, List.length_cons, List.length_nil, List.length_set, List.map_set, List.map_append, List.map_cons, List.map_nil]
   repeat' apply And.intro
   all_goals first | assumption | omega | simp only [ZE,↓reduceIte,pE,pL,pA,pS,pM,pD, List.length_append, List.length_map, List.length_cons, List.length_nil, List.length_set, List.map_set, List.map_append, List.map_cons, List.map_nil]
  have g2 : (((k1 % 4 : Nat) : Int) == 2) = false := by simp; omega
  rw [if_neg b2]
  have k11 : (kindN (k2 % 11)).1 = ((k2 % 11 : Nat) : Int) := kindN_1 (by omega)
  simp (maxSteps := 4000000) only [ZE,↓reduceIte,pE,pL,pA,pS,pM,pD, zN,qT,qG,qL,qH,qN,qB,qE,qO,qA,qM, e1, e2, r1, m16, m4, m12, z1, z2, not_false_eq_true, getD_map hi, lt_int hi, List.length_map, hm, hz', c1, g0, g1, g2, m11, e11, k11, op_mk, name_mk, k_mk, w_mk, args_mk, zExpr, zNum, emp, zItem, List.length_append, List.length_map, List.length_cons, List.length_nil, List.length_set, List.map_set, List.map_append, List.map_cons, List.map_nil]
  repeat' apply And.intro
  all_goals first | assumption | omega | simp only [ZE,↓reduceIte,pE,pL,pA,pS,pM,pD, List.length_append, List.length_map, List.length_cons, List.length_nil, List.length_set, List.map_set, List.map_append, List.map_cons, List.map_nil]
theorem spoil1_c (f : List Module) (k0 k1 k2 k3 : Nat) (s : Str) (h0 : k0 < 256) (h1 : k1 < 256) (h2 : k2 < 256) (h3 : k3 < 256) (hf : f.length ≤ 1000) (i : Nat) (hi : i < f.length) (hki : k0 % f.length = i) (m : Module) (hm : f[i] = m) (hl : m.items.length ≤ 800) (n : Nat) (hn : n < m.items.length) (hkn : k2 % m.items.length = n) (x : Item) (hx : m.items[n] = x) (hp : x.ports.length ≤ 800)
  (hc : ¬ k1 % 16 < 4) : FnP Tryz.prog 33 [.agg [eModules f], .agg [eU8 k0, eU8 k1, eU8 k2, eU8 k3], eS s] (.d (.agg [eModules (f.set i { m with items := spoilL k1 k3 s m.items n x })])) [] := by
 refine FnP.of_eC (own := []) (fun i => if i = 1016 then [.frz 34] else if i = 1039 then [.frz 34] else if i = 15 then [.frz 73] else if i = 37 then [.frz 157] else if i = 31 then [.frz 138] else if i = 29 then [.adB 11 14 99 58 7, .frz 99] else []) mixed Tryz.func33 rfl Tryz.call33 Tryz.ntmps33 (Nat.le_of_ble_eq_true rfl) Tryz.results33 (fun hok => ?_)
 have e1 : IntKind.i64.wrap (k0 : Int) = (k0 : Int) := wrap_id (by omega) (by omega)
 have e2 : IntKind.i64.wrap (k2 : Int) = (k2 : Int) := wrap_id (by omega) (by omega)
 have r1 : (k0 : Int).tmod (f.length : Int) = (i : Int) := by rw [← hki]; exact (Int.ofNat_tmod _ _).symm
 have m16 : (k1 : Int).tmod 16 = ((k1 % 16 : Nat) : Int) := (Int.ofNat_tmod _ _).symm
 have m4 : (k1 : Int).tmod 4 = ((k1 % 4 : Nat) : Int) := (Int.ofNat_tmod _ _).symm
 have m12 : (k1 : Int).tmod 12 = ((k1 % 12 : Nat) : Int) := (Int.ofNat_tmod _ _).symm
 have z1 : ¬ (f.length : Int) = 0 := by omega
 have z2 : ((f.length : Int) == 0) = false := by rw [beq_eq_false_iff_ne]; omega
 have ro := rowsOk_mods f
 have ri := rowsOk_items m.items
 have m11 : (k3 : Int).tmod 11 = ((k3 % 11 : Nat) : Int) := (Int.ofNat_tmod _ _).symm
 have e11 : IntKind.i64.wrap ((k3 % 11 : Nat) : Int) = ((k3 % 11 : Nat) : Int) := wrap_id (by omega) (by omega)
 have k11 : (kindN (k3 % 11)).1 = ((k3 % 11 : Nat) : Int) := kindN_1 (by omega)
 have m20 : (k3 : Int).tmod 20 = ((k3 % 20 : Nat) : Int) := (Int.ofNat_tmod _ _).symm
 have e20 : IntKind.i64.wrap ((k3 % 20 : Nat) : Int) = ((k3 % 20 : Nat) : Int) := wrap_id (by omega) (by omega)
 have m6 : (k3 : Int).tmod 6 = ((k3 % 6 : Nat) : Int) := (Int.ofNat_tmod _ _).symm
 have e6 : IntKind.i64.wrap ((k3 % 6 : Nat) : Int) = ((k3 % 6 : Nat) : Int) := wrap_id (by omega) (by omega)
 have s6 : IntKind.i64.wrap (((k3 % 6 : Nat) : Int) - 1) = ((k3 % 6 : Nat) : Int) - 1 := wrap_id (by omega) (by omega)
 have r2 : (k2 : Int).tmod (m.items.length : Int) = (n : Int) := by rw [← hkn]; exact (Int.ofNat_tmod _ _).symm
 have z3 : ¬ (m.items.length : Int) = 0 := by omega
 have hz' : ((m.items.length : Int) == 0) = false := by rw [beq_eq_false_iff_ne]; omega
 have c1 : decide (((k1 % 16 : Nat) : Int) < 4) = false := by simp; omega
 have rp := rowsOk_binds x.ports
 by_cases b4 : k1 % 12 = 4
 ·have g4 : (((k1 % 12 : Nat) : Int) == 4) = true := by simp [b4]
  have hI : spoilL k1 k3 s m.items n x = m.items.set n ({ x with name := s }) := by
   unfold spoilL spoilI
   simp [b4]
  rw [hI]
  simp (maxSteps := 4000000) only [ZE,↓reduceIte,pE,pL,pA,pS,pM,pD, zN,qT,qG,qL,qH,qN,qB,qE,qO,qA,qM, e1, e2, r1, m16, m4, m12, z1, z2, not_false_eq_true, getD_map hi, lt_int hi, List.length_map, hm, hz', c1, r2, z3, getD_map hn, lt_int hn, hx, Int.toNat_natCast, g4, e1, List.length_append, List.length_map, List.length_cons, List.length_nil, List.length_set, List.map_set, List.map_append, List.map_cons, List.map_nil]
  repeat' apply And.intro
  all_goals first | assumption | omega | simp only [ZE,↓reduceIte,pE,pL,pA,pS,pM,pD, List.length_append, List.length_map, List.length_cons, List.length_nil, List.length_set, List.map_set, List.map_append, List.map_cons, List.map_nil]
 have g4 : (((k1 % 12 : Nat) : Int) == 4) = false := by simp; omega
 by_cases b5 : k1 % 12 = 5
 ·have g5 : (((k1 % 12 : Nat) : Int) == 5) = true := by simp [b5]
  have hI : spoilL k1 k3 s m.items n x = m.items.set n ({ x with kind := kindN (k3 % 11) }) := by
   unfold spoilL spoilI
   simp [b5]
  rw [hI]
  simp (maxSteps := 4000000) only [ZE,↓reduceIte,pE,pL,pA,pS,pM,pD, zN,qT,qG,qL,qH,qN,qB,qE,qO,qA,qM, e1, e2, r1, m16, m4, m12, z1, z2, not_false_eq_true, getD_map hi, lt_int hi, List.length_map, hm, hz', c1, r2, z3, getD_map hn, lt_int hn, hx, Int.toNat_natCast, g4,g5, m11, e11, k11, List.length_append, List.length_map, List.length_cons, List.length_nil, List.length_set, List.map_set, List.map_append, List.map_cons, List.map_nil]
  repeat' apply And.intro
  all_goals first | assumption | omega | simp only [ZE,↓reduceIte,pE,pL,pA,pS,pM,pD, List.length_append, List.length_map, List.length_cons, List.length_nil, List.length_set, List.map_set, List.map_append, List.map_cons, List.map_nil]
 have g5 : (((k1 % 12 : Nat) : Int) == 5) = false := by simp; omega
 by_cases b6 : k1 % 12 = 6
 ·have g6 : (((k1 % 12 : Nat) : Int) == 6) = true := by simp [b6]
  have hI : spoilL k1 k3 s m.items n x = m.items.set n ({ x with width := ⟨x.width.n, s⟩ }) := by
   unfold spoilL spoilI
   simp [b6]
  rw [hI]
  simp (maxSteps := 4000000) only [ZE,↓reduceIte,pE,pL,pA,pS,pM,pD, zN,qT,qG,qL,qH,qN,qB,qE,qO,qA,qM, e1, e2, r1, m16, m4, m12, z1, z2, not_false_eq_true, getD_map hi, lt_int hi, List.length_map, hm, hz', c1, r2, z3, getD_map hn, lt_int hn, hx, Int.toNat_natCast, g4, g5,g6, e1, List.length_append, List.length_map, List.length_cons, List.length_nil, List.length_set, List.map_set, List.map_append, List.map_cons, List.map_nil]
  repeat' apply And.intro
  all_goals first | assumption | omega | simp only [ZE,↓reduceIte,pE,pL,pA,pS,pM,pD, List.length_append, List.length_map, List.length_cons, List.length_nil, List.length_set, List.map_set, List.map_append, List.map_cons, List.map_nil]
 have g6 : (((k1 % 12 : Nat) : Int) == 6) = false := by simp; omega
 by_cases b7 : k1 % 12 = 7
 ·have g7 : (((k1 % 12 : Nat) : Int) == 7) = true := by simp [b7]
  have hI : spoilL k1 k3 s m.items n x = m.items.set n ({ x with a := .mk 14 s zNum zNum [] }) := by
   unfold spoilL spoilI
   simp [b7]
  rw [hI]
  simp (maxSteps := 4000000) only [ZE,↓reduceIte,pE,pL,pA,pS,pM,pD, zN,qT,qG,qL,qH,qN,qB,qE,qO,qA,qM, e1, e2, r1, m16, m4, m12, z1, z2, not_false_eq_true, getD_map hi, lt_int hi, List.length_map, hm, hz', c1, r2, z3, getD_map hn, lt_int hn, hx, Int.toNat_natCast, g4, g5, g6,g7, op_mk, name_mk, k_mk, w_mk, args_mk, zExpr, zNum, emp, zItem, List.length_append, List.length_map, List.length_cons, List.length_nil, List.length_set, List.map_set, List.map_append, List.map_cons, List.map_nil]
  repeat' apply And.intro
  all_goals first | assumption | omega | simp only [ZE,↓reduceIte,pE,pL,pA,pS,pM,pD, List.length_append, List.length_map, List.length_cons, List.length_nil, List.length_set, List.map_set, List.map_append, List.map_cons, List.map_nil]
 have g7 : (((k1 % 12 : Nat) : Int) == 7) = false := by simp; omega
 by_cases b8 : k1 % 12 = 8
 ·have g8 : (((k1 % 12 : Nat) : Int) == 8) = true := by simp [b8]
  have hI : spoilL k1 k3 s m.items n x = m.items.set n ({ x with a := .mk (k3 % 20 : Nat) s zNum zNum [x.a] }) := by
   unfold spoilL spoilI
   simp [b8]
  rw [hI]
  simp (maxSteps := 4000000) only [ZE,↓reduceIte,pE,pL,pA,pS,pM,pD, zN,qT,qG,qL,qH,qN,qB,qE,qO,qA,qM, e1, e2, r1, m16, m4, m12, z1, z2, not_false_eq_true, getD_map hi, lt_int hi, List.length_map, hm, hz', c1, r2, z3, getD_map hn, lt_int hn, hx, Int.toNat_natCast, g4, g5, g6, g7,g8, m20, e20, op_mk, name_mk, k_mk, w_mk, args_mk, zExpr, zNum, emp, zItem, List.length_append, List.length_map, List.length_cons, List.length_nil, List.length_set, List.map_set, List.map_append, List.map_cons, List.map_nil]
  repeat' apply And.intro
  all_goals first | assumption | omega | simp only [ZE,↓reduceIte,pE,pL,pA,pS,pM,pD, List.length_append, List.length_map, List.length_cons, List.length_nil, List.length_set, List.map_set, List.map_append, List.map_cons, List.map_nil]
 have g8 : (((k1 % 12 : Nat) : Int) == 8) = false := by simp; omega
 by_cases b9 : k1 % 12 = 9
 ·have g9 : (((k1 % 12 : Nat) : Int) == 9) = true := by simp [b9]
  have hI : spoilL k1 k3 s m.items n x = m.items.set n ({ x with rule := ⟨(k3 % 6 : Nat) - 1, s, 0⟩ }) := by
   unfold spoilL spoilI
   simp [b9]
  rw [hI]
  simp (maxSteps := 4000000) only [ZE,↓reduceIte,pE,pL,pA,pS,pM,pD, zN,qT,qG,qL,qH,qN,qB,qE,qO,qA,qM, e1, e2, r1, m16, m4, m12, z1, z2, not_false_eq_true, getD_map hi, lt_int hi, List.length_map, hm, hz', c1, r2, z3, getD_map hn, lt_int hn, hx, Int.toNat_natCast, g4, g5, g6, g7, g8,g9, m6, e6, s6, op_mk, name_mk, k_mk, w_mk, args_mk, zExpr, zNum, emp, zItem, List.length_append, List.length_map, List.length_cons, List.length_nil, List.length_set, List.map_set, List.map_append, List.map_cons, List.map_nil]
  repeat' apply And.intro
  all_goals first | assumption | omega | simp only [ZE,↓reduceIte,pE,pL,pA,pS,pM,pD, List.length_append, List.length_map, List.length_cons, List.length_nil, List.length_set, List.map_set, List.map_append, List.map_cons, List.map_nil]
 have g9 : (((k1 % 12 : Nat) : Int) == 9) = false := by simp; omega
 by_cases b10 : k1 % 12 = 10
 ·have g10 : (((k1 % 12 : Nat) : Int) == 10) = true := by simp [b10]
  have hI : spoilL k1 k3 s m.items n x = m.items.set n ({ x with of := s }) := by
   unfold spoilL spoilI
   simp [b10]
  rw [hI]
  simp (maxSteps := 4000000) only [ZE,↓reduceIte,pE,pL,pA,pS,pM,pD, zN,qT,qG,qL,qH,qN,qB,qE,qO,qA,qM, e1, e2, r1, m16, m4, m12, z1, z2, not_false_eq_true, getD_map hi, lt_int hi, List.length_map, hm, hz', c1, r2, z3, getD_map hn, lt_int hn, hx, Int.toNat_natCast, g4, g5, g6, g7, g8, g9,g10, e1, List.length_append, List.length_map, List.length_cons, List.length_nil, List.length_set, List.map_set, List.map_append, List.map_cons, List.map_nil]
  repeat' apply And.intro
  all_goals first | assumption | omega | simp only [ZE,↓reduceIte,pE,pL,pA,pS,pM,pD, List.length_append, List.length_map, List.length_cons, List.length_nil, List.length_set, List.map_set, List.map_append, List.map_cons, List.map_nil]
 have g10 : (((k1 % 12 : Nat) : Int) == 10) = false := by simp; omega
 by_cases b11 : k1 % 12 = 11
 ·have g11 : (((k1 % 12 : Nat) : Int) == 11) = true := by simp [b11]
  have hI : spoilL k1 k3 s m.items n x = m.items.set n ({ x with ports := x.ports ++ [⟨sX, s⟩] }) := by
   unfold spoilL spoilI
   simp [b11]
  rw [hI]
  simp (maxSteps := 4000000) only [ZE,↓reduceIte,pE,pL,pA,pS,pM,pD, zN,qT,qG,qL,qH,qN,qB,qE,qO,qA,qM, e1, e2, r1, m16, m4, m12, z1, z2, not_false_eq_true, getD_map hi, lt_int hi, List.length_map, hm, hz', c1, r2, z3, getD_map hn, lt_int hn, hx, Int.toNat_natCast, g4, g5, g6, g7, g8, g9, g10,g11, sX, st, List.length_append, List.length_map, List.length_cons, List.length_nil, List.length_set, List.map_set, List.map_append, List.map_cons, List.map_nil]
  repeat' apply And.intro
  all_goals first | assumption | omega | simp only [ZE,↓reduceIte,pE,pL,pA,pS,pM,pD, List.length_append, List.length_map, List.length_cons, List.length_nil, List.length_set, List.map_set, List.map_append, List.map_cons, List.map_nil]
 have g11 : (((k1 % 12 : Nat) : Int) == 11) = false := by simp; omega
 have ga : ∀ r, (m.items.map eItem ++ r).getD n [] = eItem x := fun r => by
  rw [List.getD_eq_getElem?_getD, List.getElem?_append_left (by simpa using hn), List.getElem?_eq_getElem (by simpa using hn), List.getElem_map, hx]; rfl
 have hI : spoilL k1 k3 s m.items n x = (m.items ++ [x]).set n x := by
  unfold spoilL spoilI
  rw [if_pos (by omega), if_neg b4, if_neg b5, if_neg b6, if_neg b7, if_neg b8, if_neg b9, if_neg b10, if_neg b11]
 rw [hI]
 simp (maxSteps := 4000000) only [ZE,↓reduceIte,pE,pL,pA,pS,pM,pD, zN,qT,qG,qL,qH,qN,qB,qE,qO,qA,qM, e1, e2, r1, m16, m4, m12, z1, z2, not_false_eq_true, getD_map hi, lt_int hi, List.length_map, hm, hz', c1, r2, z3, getD_map hn, lt_int hn, hx, Int.toNat_natCast, g4, g5, g6, g7, g8, g9, g10, g11, ga, List.length_append, List.length_map, List.length_cons, List.length_nil, List.length_set, List.map_set, List.map_append, List.map_cons, List.map_nil]
 repeat' apply And.intro
 all_goals first | assumption | omega | simp only [ZE,↓reduceIte,pE,pL,pA,pS,pM,pD, List.length_append, List.length_map, List.length_cons, List.length_nil, List.length_set, List.map_set, List.map_append, List.map_cons, List.map_nil]
end Go.Proofs.YtbenhdgpogiadaaGreat

namespace Go.Proofs.YtbenhdgpogiadaaGreat
open Go.Aw
open Nat renaming reduceEqDiff → pE, reduceLT → pL, reduceAdd → pA, reduceSub → pS, reduceMul → pM, reduceLeDiff → pD
open Int renaming reduceToNat → qT, reduceGT → qG, reduceLT → qL, reduceGE → qH, reduceBNe → qN, reduceBEq → qB, reduceLE → qE, reduceNe → qO, reduceAdd → qA, reduceNeg → qM
set_option maxRecDepth 100000
set_option maxHeartbeats 4000000
theorem allL_args_le (l : List Expr) (i : Nat) (h : i < l.length) : (Expr.allL (l.take i)).length + 1 + (Expr.allL l[i].args).length ≤ (Expr.allL l).length := by
 have h1 := (allL_pre l (i + 1)).length_le
 rw [allL_step l i h, List.length_append, List.length_cons] at h1
 omega
theorem all_c (m : Nat) : ∀ l : List Expr, (Expr.allL l).length < m → m ≤ 10000000 → FnP Tryz.prog 49 [eExprs l] (.d (eExprs (Expr.allL l))) [] := by
 induction m with
 | zero => intro l h; omega
 | succ m ih =>
  intro l hl hm
  refine FnP.of_eC (own := []) (fun _ => []) mixed Tryz.func49 rfl Tryz.call49 Tryz.ntmps49 (Nat.le_of_ble_eq_true rfl) Tryz.results49 (fun hok => ?_)
  have hll := (ok_map (okL_cons hok).1).1
  simp (maxSteps := 4000000) only [ZE,↓reduceIte,pE,pL,pA,pS,pM,pD, zN,qT,qG,qL,qH,qN,qB,qE,qO,qA,qM]
  refine eloop (fun _ => []) mixed l.length (fun _ => True) (fun i => ([(0, .d (eExprs l)), (3, .ar 5 (Expr.allL (l.take i)).length), (4, .d (eI i))], [(5, .arr 58 7 .flat ((Expr.allL (l.take i)).map eExpr))])) trivial ?_ ?_ (fun i hi _ => ?_)
  ·simp only [ZE,↓reduceIte,pE,pL,pA,pS,pM,pD, List.take_zero, Expr.allL, List.length_nil]
  ·simp only [ZE,↓reduceIte,pE,pL,pA,pS,pM,pD, List.take_zero, Expr.allL]
  rcases Nat.lt_or_ge i l.length with h | h
  ·have hw := wrap_succ (show i < 9223372036854775807 by omega)
   have hle := allL_args_le l i h
   have hc := ih l[i].args (by omega) (by omega)
   rw [allL_step l i h]
   obtain ⟨R, hR⟩ : ∃ R, Expr.allL (l.take i) = R := ⟨_, rfl⟩
   obtain ⟨L, hL⟩ : ∃ L, Expr.allL l[i].args = L := ⟨_, rfl⟩
   rw [hR, hL] at hle
   rw [hL] at hc
   rw [hR, hL]
   have rl := rowsOk_exprs L
   simp only [ZE,↓reduceIte,pE,pL,pA,pS,pM,pD] at hc
   simp (maxSteps := 4000000) only [ZE,↓reduceIte,pE,pL,pA,pS,pM,pD, dec_lt h, getD_map h, lt_int h, hw, zN,qT,qG,qL,qH,qN,qB,qE,qO,qA,qM]
   refine ⟨⟨by omega, by omega⟩, EFn.p ?_⟩
   simp only [ZE,↓reduceIte,pE,pL,pA,pS,pM,pD, zN,qT,qG,qL,qH,qN,qB,qE,qO,qA,qM]
   refine ECall.i hc ?_
   simp only [ZE,↓reduceIte,pE,pL,pA,pS,pM,pD, zN,qT,qG,qL,qH,qN,qB,qE,qO,qA,qM, hw, List.length_append, List.length_cons, List.map_append, List.map_cons]
   exact ⟨⟨rl, by omega, by omega⟩, h, by rw [show R.length + 1 + L.length = R.length + (L.length + 1) by omega], by rw [List.append_assoc]; rfl⟩
  ·have : i = l.length := by omega
   subst this
   simp (maxSteps := 4000000) only [ZE,↓reduceIte,pE,pL,pA,pS,pM,pD, dec_ge h, zN,qT,qG,qL,qH,qN,qB,qE,qO,qA,qM, List.take_length]
end Go.Proofs.YtbenhdgpogiadaaGreat

namespace Go.Proofs.YtbenhdgpogiadaaGreat
open Go.Aw
open Nat renaming reduceEqDiff → pE, reduceLT → pL, reduceAdd → pA, reduceSub → pS, reduceMul → pM, reduceLeDiff → pD
open Int renaming reduceToNat → qT, reduceGT → qG, reduceLT → qL, reduceGE → qH, reduceBNe → qN, reduceBEq → qB, reduceLE → qE, reduceNe → qO, reduceAdd → qA, reduceNeg → qM
set_option maxRecDepth 100000
set_option maxHeartbeats 8000000
def sizeI (x : Item) : Nat := (Expr.allL [x.a, x.b, x.c]).length + x.ports.length + x.args.length
def sizeM (m : Module) : Nat := m.items.length + m.params.length + (m.items.map sizeI).sum
def sizeF (l : List Module) : Nat := (l.map sizeM).sum
theorem take_sum {α : Type} (f : α → Nat) (l : List α) (i : Nat) (h : i < l.length) : ((l.take (i + 1)).map f).sum = ((l.take i).map f).sum + f l[i] := by
 rw [List.take_succ_eq_append_getElem h, List.map_append, List.sum_append]; simp
theorem take_sum_le {α : Type} (f : α → Nat) (l : List α) (i : Nat) : ((l.take i).map f).sum ≤ (l.map f).sum := by
 conv => rhs; rw [← List.take_append_drop i l, List.map_append, List.sum_append]
 omega
theorem size_c (l : List Module) (hB : sizeF l ≤ 9000000) (hl : l.length ≤ 9000000) : FnP Tryz.prog 48 [.agg [eModules l]] (.d (eI (sizeF l))) [] := by
 refine FnP.of_eC (own := []) (fun _ => []) mixed Tryz.func48 rfl Tryz.call48 Tryz.ntmps48 (Nat.le_of_ble_eq_true rfl) Tryz.results48 (fun hok => ?_)
 simp (maxSteps := 4000000) only [ZE,↓reduceIte,pE,pL,pA,pS,pM,pD, zN,qT,qG,qL,qH,qN,qB,qE,qO,qA,qM]
 refine eloop (fun _ => []) mixed l.length (fun _ => True) (fun i => ([(1, .bp 1 0), (3, .d (eI (((l.take i).map sizeM).sum : Nat))), (4, .d (eI i))], [(1, .box [.d (eModules l)])])) trivial ?_ ?_ (fun i hi _ => ?_)
 ·simp only [ZE,↓reduceIte,pE,pL,pA,pS,pM,pD, List.take_zero, List.map_nil, List.sum_nil, Int.natCast_zero]
 ·simp only [ZE,↓reduceIte,pE,pL,pA,pS,pM,pD]
 rcases Nat.lt_or_ge i l.length with h | h
 ·have hw := wrap_succ (show i < 9223372036854775807 by omega)
  have hs := take_sum sizeM l i h
  have hle := take_sum_le sizeM l (i + 1)
  obtain ⟨S, hS⟩ : ∃ S, ((l.take i).map sizeM).sum = S := ⟨_, rfl⟩
  obtain ⟨m, hm⟩ : ∃ m, l[i] = m := ⟨_, rfl⟩
  rw [hS, hm] at hs
  rw [hs] at hle ⊢
  rw [hS]
  have hB' : S + sizeM m ≤ 9000000 := Nat.le_trans hle hB
  unfold sizeM at hB'
  have w1 : IntKind.i64.wrap ((m.items.length : Int) + (m.params.length : Int)) = ((m.items.length + m.params.length : Nat) : Int) := wrap_id (by omega) (by omega)
  have w2 : IntKind.i64.wrap ((S : Int) + ((m.items.length + m.params.length : Nat) : Int)) = ((S + (m.items.length + m.params.length) : Nat) : Int) := wrap_id (by omega) (by omega)
  simp (maxSteps := 4000000) only [ZE,↓reduceIte,pE,pL,pA,pS,pM,pD, dec_lt h, getD_map h, lt_int h, hm, w1, w2, zN,qT,qG,qL,qH,qN,qB,qE,qO,qA,qM]
  refine eloop (fun i => if i = 2010 then [.ord ⟨[(0, none), (1, none), (2, none), (3, none), (4, none), (5, none), (6, none), (7, none), (8, none), (9, none), (10, none), (11, none), (12, none), (13, none), (14, none), (15, none), (16, none), (17, none), (18, none), (19, none), (20, none), (21, none), (22, none), (23, none), (24, none), (25, none), (26, none), (27, none), (28, none), (29, none), (30, none), (31, none), (32, none), (33, none), (34, none), (35, none), (36, none), (37, none), (38, none), (39, some [])]⟩] else []) mixed m.items.length (fun _ => True) (fun k => ([(1, .bp 1 0), (3, .d (eI ((S + (m.items.length + m.params.length) + ((m.items.take k).map sizeI).sum : Nat) : Int))), (4, .d (eI i)), (5, .bp 5 0), (6, .d (eI k))], [(5, .box ((eModule m).map .d)), (1, .box [.d (eModules l)])])) trivial ?_ ?_ (fun k hk _ => ?_)
  ·simp only [ZE,↓reduceIte,pE,pL,pA,pS,pM,pD, List.take_zero, List.map_nil, List.sum_nil, Nat.add_zero]
  ·simp only [ZE,↓reduceIte,pE,pL,pA,pS,pM,pD]
  rcases Nat.lt_or_ge k m.items.length with h' | h'
  ·have hw' := wrap_succ (show k < 9223372036854775807 by omega)
   have hs' := take_sum sizeI m.items k h'
   have hle' := take_sum_le sizeI m.items (k + 1)
   obtain ⟨x, hx⟩ : ∃ x, m.items[k] = x := ⟨_, rfl⟩
   obtain ⟨T, hT⟩ : ∃ T, ((m.items.take k).map sizeI).sum = T := ⟨_, rfl⟩
   rw [hT, hx] at hs'
   rw [hs'] at hle' ⊢
   rw [hT]
   have hTx : T + sizeI x ≤ 9000000 := by omega
   unfold sizeI at hTx
   have ac := all_c 9500000 [x.a, x.b, x.c] (by omega) (by omega)
   have hsi : sizeI x = (Expr.allL [x.a, x.b, x.c]).length + x.ports.length + x.args.length := rfl
   rw [hsi]
   have hbnd : S + (m.items.length + m.params.length) + T + ((Expr.allL [x.a, x.b, x.c]).length + x.ports.length + x.args.length) ≤ 30000000 := by omega
   obtain ⟨L, hL⟩ : ∃ L, Expr.allL [x.a, x.b, x.c] = L := ⟨_, rfl⟩
   rw [hL] at ac hbnd ⊢
   obtain ⟨N, hN⟩ : ∃ N, S + (m.items.length + m.params.length) = N := ⟨_, rfl⟩
   rw [hN] at hbnd ⊢
   have v1 : IntKind.i64.wrap ((L.length : Int) + (x.ports.length : Int)) = ((L.length + x.ports.length : Nat) : Int) := wrap_id (by omega) (by omega)
   have v2 : IntKind.i64.wrap (((L.length + x.ports.length : Nat) : Int) + (x.args.length : Int)) = ((L.length + x.ports.length + x.args.length : Nat) : Int) := wrap_id (by omega) (by omega)
   have v3 : IntKind.i64.wrap (((N + T : Nat) : Int) + ((L.length + x.ports.length + x.args.length : Nat) : Int)) = ((N + (T + (L.length + x.ports.length + x.args.length)) : Nat) : Int) := by
    rw [wrap_id (by omega) (by omega)]; omega
   simp only [ZE,↓reduceIte,pE,pL,pA,pS,pM,pD, List.map_cons, List.map_nil] at ac
   simp (maxSteps := 4000000) only [ZE,↓reduceIte,pE,pL,pA,pS,pM,pD, dec_lt h', getD_map h', lt_int h', hx, hw', zN,qT,qG,qL,qH,qN,qB,qE,qO,qA,qM]
   refine ⟨by kernel_rfl, ECall'.i ac ?_⟩
   simp (maxSteps := 4000000) only [ZE,↓reduceIte,pE,pL,pA,pS,pM,pD, zN,qT,qG,qL,qH,qN,qB,qE,qO,qA,qM, v1, v2, v3, hw', List.length_map, getD_map h', lt_int h', hx]
   exact h'
  ·have : k = m.items.length := by omega
   subst this
   have e : S + (m.items.length + m.params.length) + (m.items.map sizeI).sum = S + sizeM m := by unfold sizeM; omega
   simp (maxSteps := 4000000) only [ZE,↓reduceIte,pE,pL,pA,pS,pM,pD, dec_ge h', zN,qT,qG,qL,qH,qN,qB,qE,qO,qA,qM, hw, List.take_length, e]
   exact h
 ·have : i = l.length := by omega
  subst this
  have e : (l.map sizeM).sum = sizeF l := rfl
  simp (maxSteps := 4000000) only [ZE,↓reduceIte,pE,pL,pA,pS,pM,pD, dec_ge h, zN,qT,qG,qL,qH,qN,qB,qE,qO,qA,qM, List.take_length, e]
end Go.Proofs.YtbenhdgpogiadaaGreat

namespace Go.Proofs.YtbenhdgpogiadaaGreat
open Go.Aw Go.Sort Go.RowKit
set_option maxRecDepth 100000
def cmpI (x y : Int) : Int := if x < y then -1 else if y < x then 1 else 0
def orI (l : List Int) : Int := (l.find? fun x => x != 0).getD 0
theorem two_w (w : World) (o1 o2 : Obj) (W : World) (hW : W = { ((w.alloc o1).alloc o2) with drawn := ((w.alloc o1).alloc o2).drawn + 1 }) :
  W.heap[w.heap.size]? = some o1 ∧ W.heap[w.heap.size + 1]? = some o2 ∧ ∃ q os', W = grow (w.drewN q) os' := by
 subst hW
 refine ⟨?_, ?_, 1, #[o1, o2], ?_⟩
 ·show ((w.alloc o1).alloc o2).heap[w.heap.size]? = _
  exact (Go.RowKit.Below.heap_alloc _ _ _ (by simp)).trans (World.alloc_heap_new w _)
 ·show ((w.alloc o1).alloc o2).heap[w.heap.size + 1]? = _
  have := World.alloc_heap_new (w.alloc o1) o2
  rwa [World.size_alloc] at this
 ·rw [alloc_eq_grow, alloc_eq_grow, grow_grow]; rfl
end Go.Proofs.YtbenhdgpogiadaaGreat

namespace Go.Proofs.YtbenhdgpogiadaaGreat
open Go.Aw
set_option maxRecDepth 100000
/-- An item that is not large. -/
structure Tid (y : Item) : Prop where
 a : sz y.a ≤ 20
 b : sz y.b ≤ 20
 c : sz y.c ≤ 20
 args : y.args.length ≤ 2
 ports : y.ports.length ≤ 2
/-- A module that is not too large. -/
structure Fine (n : Nat) (m : Module) : Prop where
 items : m.items.length ≤ n
 params : m.params.length ≤ n
 sizes : ∀ x ∈ m.items, sz x.a + sz x.b + sz x.c ≤ n
 args : ∀ x ∈ m.items, x.args.length ≤ n
 ports : ∀ x ∈ m.items, x.ports.length ≤ n
theorem Fine.mono {n k : Nat} (h : n ≤ k) {m : Module} (f : Fine n m) : Fine k m :=
 ⟨Nat.le_trans f.items h, Nat.le_trans f.params h, fun x hx => Nat.le_trans (f.sizes x hx) h, fun x hx => Nat.le_trans (f.args x hx) h, fun x hx => Nat.le_trans (f.ports x hx) h⟩
theorem params_made (x : Raw) : ∀ m ∈ made x, m.params.length ≤ 60 := by
 have : ((made x).all fun m => decide (m.params.length ≤ 60)) = true := by
  rcases made_shape x with ⟨mem, h⟩ | ⟨q, h⟩ | ⟨q, mem, h⟩ | ⟨q, mem, h⟩
  ·rw [h]; cases mem <;> kernel_rfl
  ·rw [h]; cases q <;> kernel_rfl
  ·rw [h]; cases q <;> cases mem <;> kernel_rfl
  ·rw [h]; cases q <;> cases mem <;> kernel_rfl
 intro m hm
 rw [List.all_eq_true] at this
 simpa using this m hm
theorem tid_port (k : I64) (n : Str) (w : Num) : Tid (portI k n w) := { a := sz_z, b := sz_z, c := sz_z, args := by simp [portI, zItem], ports := by simp [portI, zItem] }
theorem tid_chan (n : Str) (w d : Num) : Tid (chanI n w d) := { a := sz_z, b := sz_z, c := sz_z, args := by simp [chanI, zItem], ports := by simp [chanI, zItem] }
theorem tid_reg (n : Str) (r : List Nat) (a : Nat) (ns : List Str) (w : Num) : Tid (regI n r a ns w) := { a := gen1_sz _ _ _ _, b := sz_z, c := sz_z, args := by simp [regI, zItem], ports := by simp [regI, zItem] }
theorem tid_wire (n : Str) (w : Num) (e : Expr) (he : sz e ≤ 20) : Tid (wireI n w e) := { a := he, b := sz_z, c := sz_z, args := by simp [wireI, zItem], ports := by simp [wireI, zItem] }
theorem tid_take (n : Str) (e : Expr) (he : sz e ≤ 20) : Tid (takeI n e) := { a := he, b := sz_z, c := sz_z, args := by simp [takeI, zItem], ports := by simp [takeI, zItem] }
theorem tid_put (n : Str) (e z : Expr) (he : sz e ≤ 20) (hz : sz z ≤ 20) : Tid (putI n e z) := { a := he, b := hz, c := sz_z, args := by simp [putI, zItem], ports := by simp [putI, zItem] }
theorem tid_mem (r : List Nat) (w : Num) (c0 : Str) : Tid (memI r w c0) := { a := cond1_sz _ _ _ _, b := gen0_sz _ _ _ _, c := gen1_sz _ _ _ _, args := by simp [memI, zItem], ports := by simp [memI, zItem] }
theorem tid_inst (n : Str) (w : Num) (c0 c1 : Str) : Tid (instI n w c0 c1) := { a := sz_z, b := sz_z, c := sz_z, args := by simp [instI], ports := by simp [instI] }
theorem tid_own (mem : Bool) (r : List Nat) (w : Num) (c0 c1 : Str) (z : List Item) (hz : ∀ y ∈ z, Tid y) : ∀ y ∈ ownT mem r w c0 c1 z, Tid y := by
 cases mem
 ·simp only [ownT, List.forall_mem_cons]
  exact ⟨tid_reg _ _ _ _ _, tid_reg _ _ _ _ _, tid_wire _ _ _ (gen1_sz _ _ _ _), tid_take _ _ (cond1_sz _ _ _ _), tid_put _ _ _ (cond1_sz _ _ _ _) (data_sz _ _ _ _), hz⟩
 ·simp only [ownT, List.forall_mem_cons]
  exact ⟨tid_reg _ _ _ _ _, tid_reg _ _ _ _ _, tid_wire _ _ _ (gen1_sz _ _ _ _), tid_mem _ _ _, tid_take _ _ (cond1_sz _ _ _ _), tid_put _ _ _ (cond1_sz _ _ _ _) (data_sz _ _ _ _), hz⟩
theorem tid_cell (b : List Nat) : ∀ y ∈ (cellM b).items, Tid y := by
 simp only [cellM, List.forall_mem_cons]
 exact ⟨tid_port _ _ _, tid_port _ _ _, tid_reg _ _ _ _ _, tid_wire _ _ _ (gen1_sz _ _ _ _), tid_take _ _ (cond1_sz _ _ _ _), tid_put _ _ _ (cond1_sz _ _ _ _) (gen1_sz _ _ _ _), by simp⟩
theorem tid_made (x : Raw) : (made x).length ≤ 2 ∧ 0 < (made x).length ∧ ∀ m ∈ made x, (0 < m.items.length ∧ m.items.length ≤ 20) ∧ ∀ y ∈ m.items, Tid y := by
 have nil : ∀ y ∈ ([] : List Item), Tid y := by simp
 have hm : ∀ (o : Bool) (a b : Module) (P : Module → Prop), P a → P b → ∀ m ∈ two o a b, P m := by
  intro o a b P ha hb m hm
  cases o
  ·simp only [two, List.mem_cons, List.not_mem_nil, or_false] at hm
   rcases hm with rfl | rfl
   ·exact hb
   ·exact ha
  ·simp only [two, List.mem_cons, List.not_mem_nil, or_false] at hm
   rcases hm with rfl | rfl
   ·exact ha
   ·exact hb
 have hl : ∀ (o : Bool) (a b : Module), (two o a b).length ≤ 2 ∧ 0 < (two o a b).length := by
  intro o a b
  cases o <;> exact ⟨by simp [two], by simp [two]⟩
 rcases made_shape x with ⟨mem, h⟩ | ⟨o, h⟩ | ⟨o, mem, h⟩ | ⟨o, mem, h⟩
 ·rw [h]
  refine ⟨by simp, by simp, fun m hm => ?_⟩
  simp only [List.mem_cons, List.not_mem_nil, or_false] at hm
  subst hm
  refine ⟨by cases mem <;> exact ⟨by simp [top0], by simp [top0, ownT]⟩, ?_⟩
  simp only [top0, List.forall_mem_cons]
  exact ⟨tid_port _ _ _, tid_port _ _ _, tid_own _ _ _ _ _ _ nil⟩
 ·rw [h]
  refine ⟨(hl _ _ _).1, (hl _ _ _).2, hm _ _ _ _ ⟨⟨by simp [top1], by simp [top1]⟩, ?_⟩ ⟨⟨by simp [cellM], by simp [cellM]⟩, tid_cell _⟩⟩
  simp only [top1, List.forall_mem_cons]
  exact ⟨tid_port _ _ _, tid_port _ _ _, tid_chan _ _ _, tid_inst _ _ _ _, tid_inst _ _ _ _, nil⟩
 ·rw [h]
  refine ⟨(hl _ _ _).1, (hl _ _ _).2, hm _ _ _ _ ⟨by cases mem <;> exact ⟨by simp [top2], by simp [top2, ownT]⟩, ?_⟩ ⟨⟨by simp [cellM], by simp [cellM]⟩, tid_cell _⟩⟩
  simp only [top2, List.forall_mem_cons]
  exact ⟨tid_port _ _ _, tid_port _ _ _, tid_chan _ _ _, tid_inst _ _ _ _, tid_own _ _ _ _ _ _ nil⟩
 ·rw [h]
  refine ⟨(hl _ _ _).1, (hl _ _ _).2, hm _ _ _ _ ⟨by cases mem <;> exact ⟨by simp [top3], by simp [top3, ownT]⟩, ?_⟩ ⟨⟨by simp [cellM], by simp [cellM]⟩, tid_cell _⟩⟩
  simp only [top3, List.forall_mem_cons]
  exact ⟨tid_port _ _ _, tid_chan _ _ _, tid_chan _ _ _, tid_inst _ _ _ _, tid_own _ _ _ _ _ _ (by simp only [List.forall_mem_cons]; exact ⟨tid_put _ _ _ (cond1_sz _ _ _ _) (gen1_sz _ _ _ _), nil⟩)⟩
theorem fine_made (x : Raw) : ∀ m ∈ made x, Fine 60 m := fun m hm => by
 obtain ⟨_, _, h⟩ := tid_made x
 obtain ⟨⟨_, h1⟩, h2⟩ := h m hm
 refine ⟨by omega, params_made x m hm, fun y hy => ?_, fun y hy => ?_, fun y hy => ?_⟩
 ·have := (h2 y hy).a; have := (h2 y hy).b; have := (h2 y hy).c; omega
 ·have := (h2 y hy).args; omega
 ·have := (h2 y hy).ports; omega
theorem spoilI_fine (k1 k3 : Nat) (s : Str) (x : Item) : sz (spoilI k1 k3 s x).a + sz (spoilI k1 k3 s x).b + sz (spoilI k1 k3 s x).c ≤ sz x.a + sz x.b + sz x.c + 1 ∧ (spoilI k1 k3 s x).args.length = x.args.length ∧ (spoilI k1 k3 s x).ports.length ≤ x.ports.length + 1 := by
 unfold spoilI
 split
 ·exact ⟨Nat.le_succ _, rfl, Nat.le_succ _⟩
 split
 ·exact ⟨Nat.le_succ _, rfl, Nat.le_succ _⟩
 split
 ·exact ⟨Nat.le_succ _, rfl, Nat.le_succ _⟩
 split
 ·refine ⟨?_, rfl, by simp⟩
  simp only [sz_mk, List.map_nil, List.sum_nil]
  omega
 split
 ·refine ⟨?_, rfl, by simp⟩
  simp only [sz_mk, List.map_cons, List.map_nil, List.sum_cons, List.sum_nil]
  omega
 split
 ·exact ⟨Nat.le_succ _, rfl, by simp⟩
 split
 ·exact ⟨Nat.le_succ _, rfl, by simp⟩
 split
 ·exact ⟨Nat.le_succ _, rfl, by simp⟩
 ·exact ⟨Nat.le_succ _, rfl, Nat.le_succ _⟩
theorem spoil_fine {n : Nat} (hn : 2 ≤ n) (k1 k2 k3 : Nat) (s : Str) {m : Module} (h : Fine n m) : Fine (n + 1) (spoilM k1 k2 k3 s m) := by
 have h' := h.mono (Nat.le_succ n)
 unfold spoilM
 split
 ·split
  ·exact ⟨h'.items, h'.params, h'.sizes, h'.args, h'.ports⟩
  split
  ·exact ⟨h'.items, h'.params, h'.sizes, h'.args, h'.ports⟩
  split
  ·exact ⟨h'.items, by have := h.params; simp; omega, h'.sizes, h'.args, h'.ports⟩
  ·refine ⟨by have := h.items; simp; omega, h'.params, fun x hx => ?_, fun x hx => ?_, fun x hx => ?_⟩
   all_goals rcases List.mem_append.1 hx with hx | hx
   ·exact h'.sizes x hx
   ·simp only [List.mem_singleton] at hx
    subst hx
    show sz zExpr + sz zExpr + sz zExpr ≤ n + 1
    unfold zExpr; simp only [sz_mk, List.map_nil, List.sum_nil]; omega
   ·exact h'.args x hx
   ·simp only [List.mem_singleton] at hx
    subst hx
    exact Nat.zero_le _
   ·exact h'.ports x hx
   ·simp only [List.mem_singleton] at hx
    subst hx
    exact Nat.zero_le _
 ·rename_i hc
  have hlen : k2 % m.items.length < m.items.length := Nat.mod_lt _ (by
   have := (not_or.1 hc).1; omega)
  have hg : m.items.getD (k2 % m.items.length) zItem = m.items[k2 % m.items.length] := by simp [List.getD, hlen]
  have hmem : m.items.getD (k2 % m.items.length) zItem ∈ m.items := by rw [hg]; exact List.getElem_mem hlen
  obtain ⟨x0, hx0⟩ : ∃ x0, m.items.getD (k2 % m.items.length) zItem = x0 := ⟨_, rfl⟩
  rw [hx0] at hmem ⊢
  have hall : ∀ x ∈ spoilL k1 k3 s m.items (k2 % m.items.length) x0, x ∈ m.items ∨ x = spoilI k1 k3 s x0 := by
   intro x hx
   unfold spoilL at hx
   rcases List.mem_or_eq_of_mem_set hx with h1 | h1
   ·split at h1
    ·rcases List.mem_append.1 h1 with h2 | h2
     ·exact .inl h2
     ·simp only [List.mem_singleton] at h2; rw [h2]; exact .inl hmem
    ·exact .inl h1
   ·exact .inr h1
  obtain ⟨s1, s2, s3⟩ := spoilI_fine k1 k3 s x0
  refine ⟨?_, h'.params, fun x hx => ?_, fun x hx => ?_, fun x hx => ?_⟩
  ·have := h.items
   show (spoilL _ _ _ _ _ _).length ≤ n + 1
   unfold spoilL
   rw [List.length_set]
   split
   ·simp; omega
   ·omega
  ·rcases hall x hx with h1 | h1
   ·exact h'.sizes x h1
   ·rw [h1]; have := h.sizes x0 hmem; omega
  ·rcases hall x hx with h1 | h1
   ·exact h'.args x h1
   ·rw [h1]; have := h.args x0 hmem; omega
  ·rcases hall x hx with h1 | h1
   ·exact h'.ports x h1
   ·rw [h1]; have := h.ports x0 hmem; omega
theorem spoil_c (f : List Module) (k0 k1 k2 k3 : Nat) (s : Str) (h0 : k0 < 256) (h1 : k1 < 256) (h2 : k2 < 256) (h3 : k3 < 256) (hf : f.length ≤ 1000) (i : Nat) (hi : i < f.length) (hki : k0 % f.length = i) (hF : Fine 800 f[i]) :
  FnP Tryz.prog 33 [.agg [eModules f], .agg [eU8 k0, eU8 k1, eU8 k2, eU8 k3], eS s] (.d (.agg [eModules (f.set i (spoilM k1 k2 k3 s f[i]))])) [] := by
 by_cases hc : f[i].items.length = 0 ∨ k1 % 16 < 4
 ·exact spoil0_c f k0 k1 k2 k3 s h0 h1 h2 h3 hf i hi hki f[i] rfl hF.items hF.params hc
 ·have hn : k2 % f[i].items.length < f[i].items.length := Nat.mod_lt _ (by have := (not_or.1 hc).1; omega)
  have hg : f[i].items.getD (k2 % f[i].items.length) zItem = f[i].items[k2 % f[i].items.length] := by simp [List.getD, hn]
  have e : spoilM k1 k2 k3 s f[i] = { f[i] with items := spoilL k1 k3 s f[i].items (k2 % f[i].items.length) f[i].items[k2 % f[i].items.length] } := by
   unfold spoilM
   rw [if_neg hc, hg]
  rw [e]
  exact spoil1_c f k0 k1 k2 k3 s h0 h1 h2 h3 hf i hi hki f[i] rfl hF.items _ hn rfl _ rfl (hF.ports _ (List.getElem_mem hn)) (not_or.1 hc).2
end Go.Proofs.YtbenhdgpogiadaaGreat

namespace Go.Proofs.YtbenhdgpogiadaaGreat
open Go.Aw
structure Part where
 kind : I64
 name : Str
 deriving DecidableEq
structure Edit where
 module : Str
 part : Part
 has : Bool
 to : Item
 head : Module
def partI (x : Item) : Part := ⟨x.kind, x.name⟩
def zPart : Part := ⟨⟨0, rfl⟩, emp⟩
def ltS (a b : Str) : Bool := Op.bytesLess a.1.toList b.1.toList
def ltP (a b : Part) : Bool := decide (a.kind.1 < b.kind.1) || (decide (a.kind.1 = b.kind.1) && ltS a.name b.name)
/-! ### Orders -/
theorem bytes_irr : ∀ a : List UInt8, Op.bytesLess a a = false
 | [] => rfl
 | x :: a => by simp [Op.bytesLess, bytes_irr a]
theorem bytes_tr : ∀ a b c : List UInt8, Op.bytesLess a b = true → Op.bytesLess b c = true → Op.bytesLess a c = true
 | _, [], _, h, _ => by simp [Op.bytesLess] at h
 | _, _ :: _, [], _, h => by simp [Op.bytesLess] at h
 | [], _ :: _, _ :: _, _, _ => rfl
 | x :: a, y :: b, z :: c, h1, h2 => by
  simp only [Op.bytesLess, Bool.or_eq_true, decide_eq_true_eq, Bool.and_eq_true, beq_iff_eq] at h1 h2 ⊢
  rcases h1 with h1 | ⟨rfl, h1⟩
  ·rcases h2 with h2 | ⟨rfl, h2⟩
   ·exact .inl (UInt8.lt_trans h1 h2)
   ·exact .inl h1
  ·rcases h2 with h2 | ⟨rfl, h2⟩
   ·exact .inl h2
   ·exact .inr ⟨rfl, bytes_tr a b c h1 h2⟩
theorem bytes_conn : ∀ a b : List UInt8, Op.bytesLess a b = false → Op.bytesLess b a = false → a = b
 | [], [], _, _ => rfl
 | [], _ :: _, h, _ => by simp [Op.bytesLess] at h
 | _ :: _, [], _, h => by simp [Op.bytesLess] at h
 | x :: a, y :: b, h1, h2 => by
  simp only [Op.bytesLess, Bool.or_eq_false_iff, decide_eq_false_iff_not, Bool.and_eq_false_iff, beq_eq_false_iff_ne] at h1 h2
  obtain ⟨p1, p2⟩ := h1
  obtain ⟨q1, q2⟩ := h2
  have e : x = y := UInt8.le_antisymm (UInt8.not_lt.1 q1) (UInt8.not_lt.1 p1)
  subst e
  rw [bytes_conn a b (p2.resolve_left (fun h => h rfl)) (q2.resolve_left (fun h => h rfl))]
theorem toList_inj {a b : Str} (h : a.1.toList = b.1.toList) : a = b := by
 apply Subtype.ext
 rw [Lib.toList_data, Lib.toList_data] at h
 exact ByteArray.ext (Array.toList_inj.1 h)
theorem ordS : TOrd ltS := {
 irr := fun a => bytes_irr _
 tr := fun a b c => bytes_tr _ _ _
 conn := fun a b h1 h2 => toList_inj (bytes_conn _ _ h1 h2) }
theorem ordP : TOrd ltP := {
 irr := fun a => by simp [ltP, ordS.irr]
 tr := fun a b c h1 h2 => by
  simp only [ltP, Bool.or_eq_true, decide_eq_true_eq, Bool.and_eq_true] at h1 h2 ⊢
  rcases h1 with h1 | ⟨e1, h1⟩
  ·rcases h2 with h2 | ⟨e2, h2⟩
   ·exact .inl (by omega)
   ·exact .inl (by omega)
  ·rcases h2 with h2 | ⟨e2, h2⟩
   ·exact .inl (by omega)
   ·exact .inr ⟨by omega, ordS.tr _ _ _ h1 h2⟩
 conn := fun a b h1 h2 => by
  simp only [ltP, Bool.or_eq_false_iff, decide_eq_false_iff_not, Bool.and_eq_false_iff] at h1 h2
  obtain ⟨⟨a1, a2⟩, a3⟩ := a
  obtain ⟨⟨b1, b2⟩, b3⟩ := b
  simp only at h1 h2
  have e : a1 = b1 := by omega
  subst e
  have := ordS.conn a3 b3 (h1.2.resolve_left (fun h => h rfl)) (h2.2.resolve_left (fun h => h rfl))
  rw [this] }
/-! ### Equality of expressions, items, heads -/
mutual
def sameE : Expr → Expr → Bool
 | .mk o n k w a, .mk o' n' k' w' a' => (o == o' && decide (n = n') && decide (k = k') && decide (w = w')) && sameEL a a'
def sameEL : List Expr → List Expr → Bool
 | [], [] => true
 | x :: a, y :: b => sameE x y && sameEL a b
 | _, _ => false
end
mutual
theorem sameE_iff : ∀ a b : Expr, sameE a b = true ↔ a = b
 | .mk o n k w a, .mk o' n' k' w' a' => by
  simp only [sameE, Bool.and_eq_true, beq_iff_eq, decide_eq_true_eq, sameEL_iff a a', Expr.mk.injEq]
  constructor
  ·rintro ⟨⟨⟨⟨h1, h2⟩, h3⟩, h4⟩, h5⟩; exact ⟨h1, h2, h3, h4, h5⟩
  ·rintro ⟨h1, h2, h3, h4, h5⟩; exact ⟨⟨⟨⟨h1, h2⟩, h3⟩, h4⟩, h5⟩
theorem sameEL_iff : ∀ a b : List Expr, sameEL a b = true ↔ a = b
 | [], [] => by simp [sameEL]
 | [], _ :: _ => by simp [sameEL]
 | _ :: _, [] => by simp [sameEL]
 | x :: a, y :: b => by simp only [sameEL, Bool.and_eq_true, sameE_iff x y, sameEL_iff a b, List.cons.injEq]
end
def sameI (x y : Item) : Bool := decide (partI x = partI y) && (decide (x.width = y.width) && decide (x.depth = y.depth) && decide (x.init = y.init)) && decide (x.rule = y.rule) && decide (x.of = y.of) && decide (x.args = y.args) && decide (x.ports = y.ports) && sameE x.a y.a && sameE x.b y.b && sameE x.c y.c
def sameH (m n : Module) : Bool := decide (m.name = n.name) && decide (m.clock = n.clock) && decide (m.params = n.params)
def sameIs : List Item → List Item → Bool
 | [], [] => true
 | x :: a, y :: b => sameI x y && sameIs a b
 | _, _ => false
def sameM (m n : Module) : Bool := sameH m n && sameIs m.items n.items
def sameF : List Module → List Module → Bool
 | [], [] => true
 | x :: a, y :: b => sameM x y && sameF a b
 | _, _ => false
/-! ### Normal forms, differences, edits applied -/
def normM (m : Module) : Module := { m with items := sortK ltP partI m.items }
def normF (l : List Module) : List Module := (sortK ltS Module.name l).map normM
/-- A file whose parts have one place each. -/
structure Parted (l : List Module) : Prop where
 names : (l.map Module.name).Nodup
 parts : ∀ m ∈ l, (m.items.map partI).Nodup
 kinds : ∀ m ∈ l, ∀ x ∈ m.items, x.kind.1 ≠ 0
def eRem (n : Str) (x : Item) : Edit := ⟨n, partI x, false, zItem, zMod⟩
def eSet (n : Str) (x : Item) : Edit := ⟨n, partI x, true, x, zMod⟩
def eHead (m : Module) : Edit := ⟨m.name, zPart, true, zItem, { m with items := [] }⟩
def eGone (n : Str) : Edit := ⟨n, zPart, false, zItem, zMod⟩
def itemsD (n : Str) (a b : List Item) : List Edit := mrgM ltP partI (fun x => [eRem n x]) (fun y => [eSet n y]) (fun x y => if sameI x y = true then [] else [eSet n y]) a b
def headD (m n : Module) : List Edit := if sameH m n = true then [] else [eHead n]
def diffN (a b : List Module) : List Edit := mrgM ltS Module.name (fun m => itemsD m.name m.items [] ++ [eGone m.name]) (fun m => eHead m :: itemsD m.name [] m.items) (fun m n => headD m n ++ itemsD n.name m.items n.items) a b
def diffF (a b : List Module) : List Edit := diffN (normF a) (normF b)
def stepI (l : List Module) (e : Edit) : Option (List Module) :=
 match lkp Module.name l e.module with
 | none => none
 | some m =>
  if e.has = true then if partI e.to ≠ e.part ∨ e.part.kind.1 = 0 then none else some (putS ltS Module.name l { m with items := putS ltP partI m.items e.to })
  else if (lkp partI m.items e.part).isSome = true then some (putS ltS Module.name l { m with items := rmvS partI m.items e.part }) else none
def stepH (l : List Module) (e : Edit) : Option (List Module) :=
 if e.has = true then
  if e.head.name ≠ e.module ∨ e.head.items ≠ [] then none
  else match lkp Module.name l e.module with
   | none => some (putS ltS Module.name l e.head)
   | some m => some (putS ltS Module.name l { m with clock := e.head.clock, params := e.head.params })
 else match lkp Module.name l e.module with
  | none => none
  | some m => if m.items ≠ [] then none else some (rmvS Module.name l e.module)
def stepE (l : List Module) (e : Edit) : Option (List Module) := if e.part = zPart then stepH l e else stepI l e
def applyF (l : List Module) (es : List Edit) : Option (List Module) := es.foldlM stepE (normF l)
end Go.Proofs.YtbenhdgpogiadaaGreat

namespace Go.Proofs.YtbenhdgpogiadaaGreat
open Go.Aw
/-- A file in normal form. -/
structure Good (l : List Module) : Prop where
 srt : Srt ltS Module.name l
 parts : ∀ m ∈ l, Srt ltP partI m.items
structure Kinds (l : List Module) : Prop where
 kinds : ∀ m ∈ l, ∀ x ∈ m.items, x.kind.1 ≠ 0
theorem normF_good {l : List Module} (h : Parted l) : Good (normF l) := by
 refine ⟨?_, fun m hm => ?_⟩
 ·unfold normF Srt
  rw [List.pairwise_map]
  exact sortK_srt ordS h.names
 ·unfold normF at hm
  obtain ⟨n, hn, rfl⟩ := List.mem_map.1 hm
  exact sortK_srt ordP (h.parts n ((sortK_perm l).mem_iff.1 hn))
theorem normM_self {m : Module} (h : Srt ltP partI m.items) : normM m = m := by
 unfold normM
 rw [sortK_self ordP h]
theorem normF_self {l : List Module} (h : Good l) : normF l = l := by
 unfold normF
 rw [sortK_self ordS h.srt]
 have : l.map normM = l.map id := List.map_congr_left fun m hm => normM_self (h.parts m hm)
 rw [this, List.map_id]
theorem normF_len (l : List Module) : (normF l).length = l.length := by unfold normF; rw [List.length_map]; exact (sortK_perm l).length_eq
theorem Good.put {l : List Module} (h : Good l) {m : Module} (hm : Srt ltP partI m.items) : Good (putS ltS Module.name l m) := by
 refine ⟨h.srt.ins ordS m, fun z hz => ?_⟩
 rcases mem_putS hz with rfl | hz
 ·exact hm
 ·exact h.parts z hz
theorem Good.rmv {l : List Module} (h : Good l) (n : Str) : Good (rmvS Module.name l n) := ⟨h.srt.del n, fun z hz => h.parts z (mem_rmvS hz)⟩
theorem Good.at {l : List Module} (h : Good l) {n : Str} {m : Module} (hm : lkp Module.name l n = some m) : Srt ltP partI m.items ∧ m.name = n := ⟨h.parts m (lkp_some hm).1, (lkp_some hm).2⟩
theorem Good.ext {l l' : List Module} (h : Good l) (h' : Good l') (he : ∀ k, lkp Module.name l k = lkp Module.name l' k) : l = l' := Srt.ext ordS h.srt h'.srt he
/-! ### One module's items -/
theorem zPart_ne {x : Item} (h : x.kind.1 ≠ 0) : partI x ≠ zPart := fun e => h (by have := congrArg (fun p : Part => p.kind.1) e; exact this)
/-- What stays while a module's items are changed. -/
structure InMod (s0 : List Module) (n : Str) (m : Module) (s : List Module) : Prop where
 good : Good s
 here : ∃ its, lkp Module.name s n = some { m with items := its }
 rest : ∀ k, k ≠ n → lkp Module.name s k = lkp Module.name s0 k
def ansI (n : Str) (s : List Module) (p : Part) : Option Item := match lkp Module.name s n with | some m => lkp partI m.items p | none => none
/-! ### Files -/
def mOk (m : Module) : Prop := Srt ltP partI m.items ∧ ∀ x ∈ m.items, x.kind.1 ≠ 0
def invertF (a : List Module) (l : List Edit) : Option (List Edit) := (applyF a l).map fun g => diffF g a
end Go.Proofs.YtbenhdgpogiadaaGreat

namespace Go.Proofs.YtbenhdgpogiadaaGreat
open Go.Aw
def tgt (e : Edit) : Str × Part := (e.module, e.part)
end Go.Proofs.YtbenhdgpogiadaaGreat

namespace Go.Proofs.YtbenhdgpogiadaaGreat
open Go.Aw
/-- A module behind an edit of an item. -/
def chg (m : Module) (e : Edit) : Module := { m with items := if e.has = true then putS ltP partI m.items e.to else rmvS partI m.items e.part }
/-- The edit can be done. -/
def fitE (m : Module) (e : Edit) : Prop := if e.has = true then partI e.to = e.part ∧ e.part.kind.1 ≠ 0 else (lkp partI m.items e.part).isSome = true
theorem stepI_some {s s' : List Module} {e : Edit} : stepI s e = some s' ↔ ∃ m, lkp Module.name s e.module = some m ∧ fitE m e ∧ s' = putS ltS Module.name s (chg m e) := by
 unfold stepI
 cases h : lkp Module.name s e.module with
 | none => simp
 | some m =>
  simp only [Option.some.injEq, exists_eq_left']
  unfold fitE chg
  cases hh : e.has with
  | true =>
   simp only [if_true]
   by_cases hc : partI e.to ≠ e.part ∨ e.part.kind.1 = 0
   ·rw [if_pos hc]
    simp only [reduceCtorEq, false_iff, not_and]
    rintro ⟨h1, h2⟩ _
    rcases hc with hc | hc
    ·exact hc h1
    ·exact h2 hc
   ·rw [if_neg hc]
    simp only [not_or, ne_eq, Decidable.not_not] at hc
    simp only [Option.some.injEq]
    exact ⟨fun h => ⟨hc, h.symm⟩, fun h => h.2.symm⟩
  | false =>
   simp only [Bool.false_eq_true, if_false]
   by_cases hc : (lkp partI m.items e.part).isSome = true
   ·rw [if_pos hc]
    simp only [Option.some.injEq]
    exact ⟨fun h => ⟨hc, h.symm⟩, fun h => h.2.symm⟩
   ·rw [if_neg hc]
    simp [hc]
theorem chg_lkp {m : Module} {e : Edit} (h : Srt ltP partI m.items) (hf : fitE m e) (p : Part) : lkp partI (chg m e).items p = if p = e.part then (if e.has = true then some e.to else none) else lkp partI m.items p := by
 unfold chg
 unfold fitE at hf
 by_cases hh : e.has = true
 ·simp only [hh, if_true] at hf ⊢
  rw [lkp_ins ordP _ _ h, hf.1]
 ·simp only [hh, if_false] at hf ⊢
  exact lkp_del ordP _ _ h
theorem lkp_chg {s : List Module} (hs : Good s) {e : Edit} {m : Module} (h : m.name = e.module) (k : Str) : lkp Module.name (putS ltS Module.name s (chg m e)) k = if k = e.module then some (chg m e) else lkp Module.name s k := by
 rw [lkp_ins ordS _ _ hs.srt]
 have : (chg m e).name = e.module := h
 rw [this]
end Go.Proofs.YtbenhdgpogiadaaGreat

namespace Go.Proofs.YtbenhdgpogiadaaGreat
open Go.Aw
theorem lkp_norm {a : List Module} (ha : Parted a) {m : Module} (hm : m ∈ a) : lkp Module.name (normF a) m.name = some (normM m) := by
 have : normM m ∈ normF a := List.mem_map.2 ⟨m, (sortK_perm a).mem_iff.2 hm, rfl⟩
 exact lkp_mem ordS (normF_good ha).srt this
theorem lkp_not {a : List Module} {n : Str} (h : ∀ m ∈ a, m.name ≠ n) : lkp Module.name (normF a) n = none := by
 refine lkp_none.2 fun m hm => ?_
 obtain ⟨y, hy, rfl⟩ := List.mem_map.1 hm
 exact h y ((sortK_perm a).mem_iff.1 hy)
theorem apply_one (a : List Module) (e : Edit) : applyF a [e] = stepE (normF a) e := by
 unfold applyF
 rw [List.foldlM_cons]
 cases stepE (normF a) e <;> rfl
theorem putS_len {l : List Module} {m : Module} (hl : Srt ltS Module.name l) (h : (lkp Module.name l m.name).isSome = true) : (putS ltS Module.name l m).length = l.length := by
 induction l with
 | nil => simp [lkp_nil] at h
 | cons y r ih =>
  obtain ⟨h1, h2⟩ := List.pairwise_cons.1 hl
  simp only [putS]
  split
  ·rename_i hlt
   exfalso
   have : lkp Module.name (y :: r) m.name = none := lkp_low ordS (fun z hz => by
    rcases List.mem_cons.1 hz with rfl | hz
    ·exact hlt
    ·exact ordS.tr _ _ _ hlt (h1 z hz))
   rw [this] at h
   cases h
  split
  ·rename_i hlt
   rw [List.length_cons, List.length_cons, ih h2]
   rw [lkp_cons, if_neg (ordS.ne hlt)] at h
   exact h
  ·rfl
theorem gone_law {a : List Module} (ha : Parted a) {m : Module} (hm : m ∈ a) {x : Item} (hx : x ∈ m.items) : ∃ s, applyF a [eRem m.name x] = some s ∧ s.length = a.length ∧ applyF a [eRem m.name x, eRem m.name x] = none := by
 have hk := ha.kinds m hm x hx
 have hE : ∀ s, stepE s (eRem m.name x) = stepI s (eRem m.name x) := fun s => by
  have : ¬ (eRem m.name x).part = zPart := zPart_ne hk
  unfold stepE; rw [if_neg this]
 have hl := lkp_norm ha hm
 have hin : lkp partI (normM m).items (partI x) = some x := lkp_sortK ordP (ha.parts m hm) hx
 have hs := sortK_srt ordP (ha.parts m hm)
 have f1 : fitE (normM m) (eRem m.name x) := by
  unfold fitE
  simp only [eRem, Bool.false_eq_true, if_false]
  rw [hin]; rfl
 have e1 : stepI (normF a) (eRem m.name x) = some (putS ltS Module.name (normF a) (chg (normM m) (eRem m.name x))) := stepI_some.2 ⟨_, hl, f1, rfl⟩
 have G := normF_good ha
 refine ⟨_, by rw [apply_one, hE, e1], ?_, ?_⟩
 ·rw [putS_len G.srt (by show (lkp Module.name (normF a) m.name).isSome = true; rw [hl]; rfl), normF_len]
 ·unfold applyF
  rw [List.foldlM_cons, hE, e1]
  simp only [Option.bind_eq_bind, Option.bind_some]
  rw [List.foldlM_cons, hE]
  have : stepI (putS ltS Module.name (normF a) (chg (normM m) (eRem m.name x))) (eRem m.name x) = none := by
   cases hq : stepI (putS ltS Module.name (normF a) (chg (normM m) (eRem m.name x))) (eRem m.name x) with
   | none => rfl
   | some s =>
    obtain ⟨m', g1, g2, _⟩ := stepI_some.1 hq
    rw [lkp_chg G (by rfl), if_pos rfl] at g1
    cases g1
    unfold fitE at g2
    simp only [eRem, Bool.false_eq_true, if_false] at g2
    have := chg_lkp hs f1 (partI x)
    simp only [eRem, if_true, Bool.false_eq_true, if_false] at this
    rw [show lkp partI (chg (normM m) { module := m.name, part := partI x, has := false, to := zItem, head := zMod }).items (partI x) = none from this] at g2
    cases g2
  rw [this]; rfl
theorem refuse_head_none {a : List Module} {n : Str} (h : ∀ m ∈ a, m.name ≠ n) : applyF a [eGone n] = none := by
 rw [apply_one]
 unfold stepE stepH
 simp [eGone, lkp_not h]
theorem refuse_head_items {a : List Module} (ha : Parted a) {m : Module} (hm : m ∈ a) {x : Item} (hx : x ∈ m.items) : applyF a [eGone m.name] = none := by
 have : (normM m).items ≠ [] := fun e => by
  have := (sortK_perm (lt := ltP) (key := partI) m.items).mem_iff.2 hx
  rw [show sortK ltP partI m.items = [] from e] at this
  simp at this
 rw [apply_one]
 unfold stepE stepH
 simp [eGone, lkp_norm ha hm, this]
theorem refuse_part {a : List Module} {n : Str} {p : Part} {x : Item} (hz : p ≠ zPart) (h : partI x ≠ p ∨ p.kind.1 = 0) : applyF a [⟨n, p, true, x, zMod⟩] = none := by
 rw [apply_one]
 unfold stepE
 simp only [if_neg hz]
 unfold stepI
 cases lkp Module.name (normF a) n with
 | none => rfl
 | some m =>
  simp only [if_true]
  rw [if_pos h]
theorem refuse_item_none {a : List Module} {n : Str} (h : ∀ m ∈ a, m.name ≠ n) {p : Part} (hz : p ≠ zPart) (b : Bool) (x : Item) : applyF a [⟨n, p, b, x, zMod⟩] = none := by
 rw [apply_one]
 unfold stepE
 simp only [if_neg hz]
 unfold stepI
 simp only [lkp_not h]
theorem refuse_head {a : List Module} {n : Str} {h : Module} (hh : h.name ≠ n ∨ h.items ≠ []) : applyF a [⟨n, zPart, true, zItem, h⟩] = none := by
 rw [apply_one]
 unfold stepE stepH
 simp only [if_true]
 rw [if_pos hh]
end Go.Proofs.YtbenhdgpogiadaaGreat

namespace Go.Proofs.YtbenhdgpogiadaaGreat
open Go.Aw
open Nat renaming reduceEqDiff → pE, reduceLT → pL, reduceAdd → pA, reduceSub → pS, reduceMul → pM, reduceLeDiff → pD
open Int renaming reduceToNat → qT, reduceGT → qG, reduceLT → qL, reduceGE → qH, reduceBNe → qN, reduceBEq → qB, reduceLE → qE, reduceNe → qO, reduceAdd → qA, reduceNeg → qM
set_option maxRecDepth 100000
set_option maxHeartbeats 8000000
def ePart (p : Part) : List D := [eI p.kind.1, eS p.name]
theorem part_eq (a b : Part) : (a.kind.1 == b.kind.1 && decide (a.name = b.name)) = decide (a = b) := by
 obtain ⟨⟨a1, a2⟩, a3⟩ := a
 obtain ⟨⟨b1, b2⟩, b3⟩ := b
 rw [Bool.eq_iff_iff]
 simp
theorem rof_c (x : Item) : FnP Tryz.prog 30 [.agg (eItem x)] (.d (.agg (ePart (partI x)))) [] := by
 refine FnP.of_eC (own := []) (fun _ => []) mixed Tryz.func30 rfl Tryz.call30 Tryz.ntmps30 (Nat.le_of_ble_eq_true rfl) Tryz.results30 (fun hok => ?_)
 simp (maxSteps := 4000000) only [ZE,↓reduceIte,pE,pL,pA,pS,pM,pD, ePart, partI]
theorem rfind_c (l : List Module) (n : Str) : FnP Tryz.prog 43 [.agg [eModules l], eS n] (.d (eI (idxP (fun m : Module => decide (m.name = n)) l))) [] := by
 refine FnP.of_eC (own := []) (fun _ => []) mixed Tryz.func43 rfl Tryz.call43 Tryz.ntmps43 (Nat.le_of_ble_eq_true rfl) Tryz.results43 (fun hok => ?_)
 have hl : l.length ≤ 9223372036854775807 := by
  have := (okL_cons hok).1
  simp only [D.ok, D.okL] at this
  exact (ok_map this.1).1
 simp (maxSteps := 4000000) only [ZE,↓reduceIte,pE,pL,pA,pS,pM,pD, zN,qT,qG,qL,qH,qN,qB,qE,qO,qA,qM]
 refine eloop (fun _ => []) mixed l.length (fun i => ∀ j (_ : j < i) (hj : j < l.length), decide (l[j].name = n) = false) (fun i => ([(1, .d (eS n)), (2, .bp 2 0), (5, .d (eI i))], [(2, .box [.d (eModules l)])])) (by simp) (by simp only [ZE,↓reduceIte,pE,pL,pA,pS,pM,pD, zN,qT,qG,qL,qH,qN,qB,qE,qO,qA,qM]) (by simp only [ZE,↓reduceIte,pE,pL,pA,pS,pM,pD]) (fun i hi hI => ?_)
 rcases Nat.lt_or_ge i l.length with h | h
 ·have hw := wrap_succ (show i < 9223372036854775807 by omega)
  simp (maxSteps := 4000000) only [ZE,↓reduceIte,pE,pL,pA,pS,pM,pD, dec_lt h, getD_map h, lt_int h, hw, zN,qT,qG,qL,qH,qN,qB,qE,qO,qA,qM]
  refine iteI (fun h3 => ?_) (fun h3 => ⟨h, fun j hj hj' => ?_⟩)
  ·rw [idxP_some h h3 hI]
  ·rcases Nat.lt_succ_iff_lt_or_eq.1 hj with hj | rfl
   ·exact hI j hj hj'
   ·exact h3
 ·simp (maxSteps := 4000000) only [ZE,↓reduceIte,pE,pL,pA,pS,pM,pD, dec_ge h, zN,qT,qG,qL,qH,qN,qB,qE,qO,qA,qM]
  rw [idxP_none (fun j hj => hI j (by omega) hj)]
theorem rindex_c (m : Module) (p : Part) : FnP Tryz.prog 58 [.agg (eModule m), .agg (ePart p)] (.d (eI (idxP (fun x => decide (partI x = p)) m.items))) [] := by
 refine FnP.of_eC (own := []) (fun _ => []) mixed Tryz.func58 rfl Tryz.call58 Tryz.ntmps58 (Nat.le_of_ble_eq_true rfl) Tryz.results58 (fun hok => ?_)
 have hl : m.items.length ≤ 9223372036854775807 := by
  have := (okL_cons hok).1
  simp only [eModule, eItems, D.ok, D.okL] at this
  exact (ok_map this.2.2.2.1).1
 simp (maxSteps := 4000000) only [ZE,↓reduceIte,pE,pL,pA,pS,pM,pD, ePart, zN,qT,qG,qL,qH,qN,qB,qE,qO,qA,qM]
 refine eloop (fun _ => []) mixed m.items.length (fun i => ∀ j (_ : j < i) (hj : j < m.items.length), decide (partI m.items[j] = p) = false) (fun i => ([(2, .bp 2 0), (3, .bp 3 0), (5, .d (eI i))], [(2, .box ((eModule m).map .d)), (3, .box ((ePart p).map .d))])) (by simp) (by simp only [ZE,↓reduceIte,pE,pL,pA,pS,pM,pD, ePart, zN,qT,qG,qL,qH,qN,qB,qE,qO,qA,qM]) (by simp only [ZE,↓reduceIte,pE,pL,pA,pS,pM,pD, ePart]) (fun i hi hI => ?_)
 rcases Nat.lt_or_ge i m.items.length with h | h
 ·have hw := wrap_succ (show i < 9223372036854775807 by omega)
  obtain ⟨x, hx⟩ : ∃ x, m.items[i] = x := ⟨_, rfl⟩
  have oc := rof_c x
  have pe' : decide (partI x = p) = (x.kind.1 == p.kind.1 && decide (x.name = p.name)) := (part_eq (partI x) p).symm
  simp only [ZE,↓reduceIte,pE,pL,pA,pS,pM,pD, ePart, partI] at oc
  simp (maxSteps := 4000000) only [ZE,↓reduceIte,pE,pL,pA,pS,pM,pD, dec_lt h, getD_map h, lt_int h, hx, ePart, zN,qT,qG,qL,qH,qN,qB,qE,qO,qA,qM]
  refine ⟨by kernel_rfl, ECall'.i oc ?_⟩
  simp only [ZE,↓reduceIte,pE,pL,pA,pS,pM,pD, zN,qT,qG,qL,qH,qN,qB,qE,qO,qA,qM, hw]
  refine iteI (fun h3 => ?_) (fun h3 => ⟨h, fun j hj hj' => ?_⟩)
  ·rw [idxP_some h (by rw [hx, pe']; exact h3) hI]
  ·rcases Nat.lt_succ_iff_lt_or_eq.1 hj with hj | rfl
   ·exact hI j hj hj'
   ·rw [hx, pe']; exact h3
 ·simp (maxSteps := 4000000) only [ZE,↓reduceIte,pE,pL,pA,pS,pM,pD, dec_ge h, zN,qT,qG,qL,qH,qN,qB,qE,qO,qA,qM]
  rw [idxP_none (fun j hj => hI j (by omega) hj)]
/-! ### Partitioned -/
def okK (m : Module) (k : Nat) : Bool := !((m.items.getD k zItem).kind.1 == 0) && (idxP (fun x => decide (partI x = partI (m.items.getD k zItem))) m.items == (k : Int))
def itemsB (m : Module) : Bool := (List.range m.items.length).all (okK m)
def okM (l : List Module) (i : Nat) : Bool := (idxP (fun m : Module => decide (m.name = (l.getD i zMod).name)) l == (i : Int)) && itemsB (l.getD i zMod)
def partB (l : List Module) : Bool := (List.range l.length).all (okM l)
theorem rpart_c (l : List Module) : FnP Tryz.prog 18 [.agg [eModules l]] (.d (eB (partB l))) [] := by
 refine FnP.of_eC (own := []) (fun _ => []) mixed Tryz.func18 rfl Tryz.call18 Tryz.ntmps18 (Nat.le_of_ble_eq_true rfl) Tryz.results18 (fun hok => ?_)
 have hlb : l.length ≤ 9223372036854775807 ∧ ∀ m ∈ l, m.items.length ≤ 9223372036854775807 := by
  have := (okL_cons hok).1
  simp only [D.ok, D.okL] at this
  obtain ⟨h1, h2⟩ := ok_map this.1
  refine ⟨h1, fun m hm => ?_⟩
  have := h2 m hm
  simp only [eModule, eItems, D.ok, D.okL] at this
  exact (ok_map this.2.2.2.1).1
 simp (maxSteps := 4000000) only [ZE,↓reduceIte,pE,pL,pA,pS,pM,pD, zN,qT,qG,qL,qH,qN,qB,qE,qO,qA,qM]
 refine eloop (fun _ => []) mixed l.length (fun i => ∀ j < i, okM l j = true) (fun i => ([(1, .bp 1 0), (3, .d (eI i))], [(1, .box [.d (eModules l)])])) (by simp) (by simp only [ZE,↓reduceIte,pE,pL,pA,pS,pM,pD, zN,qT,qG,qL,qH,qN,qB,qE,qO,qA,qM]) (by simp only [ZE,↓reduceIte,pE,pL,pA,pS,pM,pD]) (fun i hi hI => ?_)
 rcases Nat.lt_or_ge i l.length with h | h
 ·have hw := wrap_succ (show i < 9223372036854775807 by omega)
  have fc := rfind_c l l[i].name
  have hg : l.getD i zMod = l[i] := by simp [List.getD, h]
  have hml := hlb.2 l[i] (List.getElem_mem h)
  obtain ⟨z, hz⟩ : ∃ z, idxP (fun m : Module => decide (m.name = l[i].name)) l = z := ⟨_, rfl⟩
  have hM : okM l i = ((z == (i : Int)) && itemsB l[i]) := by unfold okM; rw [hg, hz]
  obtain ⟨m, hm⟩ : ∃ m, l[i] = m := ⟨_, rfl⟩
  rw [hz] at fc
  rw [hm] at hml hM fc
  simp only [ZE,↓reduceIte,pE,pL,pA,pS,pM,pD] at fc
  have bad : okM l i = false → partB l = false := fun e => by
   unfold partB
   rw [List.all_eq_false]
   exact ⟨i, List.mem_range.2 h, by rw [e]; simp⟩
  rcases Bool.eq_false_or_eq_true (z == (i : Int)) with hzi | hzi
  ·have hzn : (z != (i : Int)) = false := by rw [bne, hzi]; rfl
   simp (maxSteps := 4000000) only [ZE,↓reduceIte,pE,pL,pA,pS,pM,pD, dec_lt h, getD_map h, lt_int h, hm, hw, zN,qT,qG,qL,qH,qN,qB,qE,qO,qA,qM]
   refine EFn.p ?_
   simp only [ZE,↓reduceIte,pE,pL,pA,pS,pM,pD, zN,qT,qG,qL,qH,qN,qB,qE,qO,qA,qM]
   refine ECall.i fc ?_
   simp only [ZE,↓reduceIte,pE,pL,pA,pS,pM,pD, zN,qT,qG,qL,qH,qN,qB,qE,qO,qA,qM, hzn]
   refine eloop (fun _ => []) mixed m.items.length (fun k => ∀ j < k, okK m j = true) (fun k => ([(1, .bp 1 0), (3, .d (eI i)), (4, .bp 4 0), (5, .d (eI k))], [(1, .box [.d (eModules l)]), (4, .box ((eModule m).map .d))])) (by simp) (by simp only [ZE,↓reduceIte,pE,pL,pA,pS,pM,pD, zN,qT,qG,qL,qH,qN,qB,qE,qO,qA,qM]) (by simp only [ZE,↓reduceIte,pE,pL,pA,pS,pM,pD]) (fun k hk hK => ?_)
   rcases Nat.lt_or_ge k m.items.length with hkl | hkl
   ·have hw2 := wrap_succ (show k < 9223372036854775807 by omega)
    obtain ⟨x, hx⟩ : ∃ x, m.items[k] = x := ⟨_, rfl⟩
    have hgx : m.items.getD k zItem = x := by rw [← hx]; simp [List.getD, hkl]
    have oc := rof_c x
    have ic := rindex_c m (partI x)
    obtain ⟨y, hy⟩ : ∃ y, idxP (fun z => decide (partI z = partI x)) m.items = y := ⟨_, rfl⟩
    have hKk : okK m k = (!(x.kind.1 == 0) && (y == (k : Int))) := by unfold okK; rw [hgx, hy]
    rw [hy] at ic
    simp only [ZE,↓reduceIte,pE,pL,pA,pS,pM,pD, ePart, partI] at oc ic
    have badk : okK m k = false → partB l = false := fun e => bad (by
     rw [hM]
     have : itemsB m = false := by
      unfold itemsB
      rw [List.all_eq_false]
      exact ⟨k, List.mem_range.2 hkl, by rw [e]; simp⟩
     rw [this, Bool.and_false])
    rcases Bool.eq_false_or_eq_true (x.kind.1 == 0) with h0 | h0
    ·have e := badk (by rw [hKk, h0]; rfl)
     simp (maxSteps := 4000000) only [ZE,↓reduceIte,pE,pL,pA,pS,pM,pD, dec_lt hkl, getD_map hkl, lt_int hkl, hx, h0, e, zN,qT,qG,qL,qH,qN,qB,qE,qO,qA,qM]
     show (_ : Bool) = true
     kernel_rfl
    ·rcases Bool.eq_false_or_eq_true (y == (k : Int)) with hyk | hyk
     ·have hyn : (y != (k : Int)) = false := by rw [bne, hyk]; rfl
      simp (maxSteps := 4000000) only [ZE,↓reduceIte,pE,pL,pA,pS,pM,pD, dec_lt hkl, getD_map hkl, lt_int hkl, hx, h0, zN,qT,qG,qL,qH,qN,qB,qE,qO,qA,qM]
      refine ⟨by kernel_rfl, ECall'.i oc ?_⟩
      simp only [ZE,↓reduceIte,pE,pL,pA,pS,pM,pD, zN,qT,qG,qL,qH,qN,qB,qE,qO,qA,qM]
      refine ECall'.i ic ?_
      simp only [ZE,↓reduceIte,pE,pL,pA,pS,pM,pD, zN,qT,qG,qL,qH,qN,qB,qE,qO,qA,qM, hyn, hw2]
      refine ⟨hkl, fun j hj => ?_⟩
      rcases Nat.lt_succ_iff_lt_or_eq.1 hj with hj | rfl
      ·exact hK j hj
      ·rw [hKk, h0, hyk]; rfl
     ·have hyn : (y != (k : Int)) = true := by rw [bne, hyk]; rfl
      have e := badk (by rw [hKk, hyk, Bool.and_false])
      simp (maxSteps := 4000000) only [ZE,↓reduceIte,pE,pL,pA,pS,pM,pD, dec_lt hkl, getD_map hkl, lt_int hkl, hx, h0, zN,qT,qG,qL,qH,qN,qB,qE,qO,qA,qM]
      refine ⟨by kernel_rfl, ECall'.i oc ?_⟩
      simp only [ZE,↓reduceIte,pE,pL,pA,pS,pM,pD, zN,qT,qG,qL,qH,qN,qB,qE,qO,qA,qM]
      refine ECall'.i ic ?_
      simp only [ZE,↓reduceIte,pE,pL,pA,pS,pM,pD, zN,qT,qG,qL,qH,qN,qB,qE,qO,qA,qM, hyn, e]
   ·have hke : k = m.items.length := by omega
    subst hke
    simp (maxSteps := 4000000) only [ZE,↓reduceIte,pE,pL,pA,pS,pM,pD, dec_ge hkl, zN,qT,qG,qL,qH,qN,qB,qE,qO,qA,qM, hw]
    refine ⟨h, fun j hj => ?_⟩
    rcases Nat.lt_succ_iff_lt_or_eq.1 hj with hj | rfl
    ·exact hI j hj
    ·rw [hM, hzi, Bool.true_and]
     unfold itemsB
     rw [List.all_eq_true]
     exact fun q hq => hK q (List.mem_range.1 hq)
  ·have hzn : (z != (i : Int)) = true := by rw [bne, hzi]; rfl
   have e := bad (by rw [hM, hzi]; rfl)
   simp (maxSteps := 4000000) only [ZE,↓reduceIte,pE,pL,pA,pS,pM,pD, dec_lt h, getD_map h, lt_int h, hm, hw, zN,qT,qG,qL,qH,qN,qB,qE,qO,qA,qM]
   refine EFn.p ?_
   simp only [ZE,↓reduceIte,pE,pL,pA,pS,pM,pD, zN,qT,qG,qL,qH,qN,qB,qE,qO,qA,qM]
   refine ECall.i fc ?_
   simp only [ZE,↓reduceIte,pE,pL,pA,pS,pM,pD, zN,qT,qG,qL,qH,qN,qB,qE,qO,qA,qM, hzn, e]
 ·simp (maxSteps := 4000000) only [ZE,↓reduceIte,pE,pL,pA,pS,pM,pD, dec_ge h, zN,qT,qG,qL,qH,qN,qB,qE,qO,qA,qM]
  have : partB l = true := by
   unfold partB
   rw [List.all_eq_true]
   exact fun j hj => hI j (by have := List.mem_range.1 hj; omega)
  rw [this]
theorem idxP_first {α : Type} {p : α → Bool} {l : List α} {k : Nat} (h : idxP p l = (k : Int)) : ∃ h' : k < l.length, p l[k] = true ∧ ∀ j (hj : j < k), p (l[j]'(by omega)) = false := by
 unfold idxP at h
 split at h
 ·rename_i i hi
  have e : i = k := by omega
  subst e
  rw [List.findIdx?_eq_some_iff_getElem] at hi
  obtain ⟨h1, h2, h3⟩ := hi
  exact ⟨h1, h2, fun j hj => by simpa using h3 j hj⟩
 ·omega
theorem partB_iff (l : List Module) : partB l = true ↔ Parted l := by
 unfold partB
 rw [List.all_eq_true]
 have hK : ∀ m : Module, itemsB m = true ↔ (m.items.map partI).Nodup ∧ ∀ x ∈ m.items, x.kind.1 ≠ 0 := by
  intro m
  unfold itemsB
  rw [List.all_eq_true]
  constructor
  ·intro h
   have h' : ∀ k (hk : k < m.items.length), m.items[k].kind.1 ≠ 0 ∧ ∀ j (hj : j < k), partI (m.items[j]'(by omega)) ≠ partI m.items[k] := by
    intro k hk
    have := h k (List.mem_range.2 hk)
    unfold okK at this
    have hg : m.items.getD k zItem = m.items[k] := by simp [List.getD, hk]
    rw [hg, Bool.and_eq_true, beq_iff_eq] at this
    obtain ⟨_, _, h3⟩ := idxP_first this.2
    exact ⟨by simpa using this.1, fun j hj => by simpa using h3 j hj⟩
   refine ⟨?_, fun x hx => ?_⟩
   ·rw [List.nodup_iff_pairwise_ne, List.pairwise_map, List.pairwise_iff_getElem]
    intro i j hi hj hij
    exact (h' j hj).2 i hij
   ·obtain ⟨k, hk, rfl⟩ := List.getElem_of_mem hx
    exact (h' k hk).1
  ·rintro ⟨h1, h2⟩ k hk
   have hk := List.mem_range.1 hk
   have hg : m.items.getD k zItem = m.items[k] := by simp [List.getD, hk]
   unfold okK
   rw [hg, Bool.and_eq_true, beq_iff_eq]
   refine ⟨by simpa using h2 _ (List.getElem_mem hk), ?_⟩
   refine idxP_some hk (by simp) (fun j hj hj' => ?_)
   rw [List.nodup_iff_pairwise_ne, List.pairwise_map, List.pairwise_iff_getElem] at h1
   simpa using h1 j k hj' hk hj
 constructor
 ·intro h
  have h' : ∀ k (hk : k < l.length), (∀ j (hj : j < k), (l[j]'(by omega)).name ≠ l[k].name) ∧ itemsB l[k] = true := by
   intro k hk
   have := h k (List.mem_range.2 hk)
   unfold okM at this
   have hg : l.getD k zMod = l[k] := by simp [List.getD, hk]
   rw [hg, Bool.and_eq_true, beq_iff_eq] at this
   obtain ⟨_, _, h3⟩ := idxP_first this.1
   exact ⟨fun j hj => by simpa using h3 j hj, this.2⟩
  refine ⟨?_, fun m hm => ?_, fun m hm => ?_⟩
  ·rw [List.nodup_iff_pairwise_ne, List.pairwise_map, List.pairwise_iff_getElem]
   intro i j hi hj hij
   exact (h' j hj).1 i hij
  ·obtain ⟨k, hk, rfl⟩ := List.getElem_of_mem hm
   exact ((hK _).1 (h' k hk).2).1
  ·obtain ⟨k, hk, rfl⟩ := List.getElem_of_mem hm
   exact ((hK _).1 (h' k hk).2).2
 ·intro h k hk
  have hk := List.mem_range.1 hk
  have hg : l.getD k zMod = l[k] := by simp [List.getD, hk]
  unfold okM
  rw [hg, Bool.and_eq_true, beq_iff_eq]
  refine ⟨?_, (hK _).2 ⟨h.parts _ (List.getElem_mem hk), h.kinds _ (List.getElem_mem hk)⟩⟩
  refine idxP_some hk (by simp) (fun j hj hj' => ?_)
  have h1 := h.names
  rw [List.nodup_iff_pairwise_ne, List.pairwise_map, List.pairwise_iff_getElem] at h1
  simpa using h1 j k hj' hk hj
/-! ### Generated files are partitioned -/
theorem parted_made (x : Raw) : partB (made x) = true := by
 rcases made_shape x with ⟨mem, h⟩ | ⟨q, h⟩ | ⟨q, mem, h⟩ | ⟨q, mem, h⟩
 ·rw [h]; cases mem <;> kernel_rfl
 ·rw [h]; cases q <;> kernel_rfl
 ·rw [h]; cases q <;> cases mem <;> kernel_rfl
 ·rw [h]; cases q <;> cases mem <;> kernel_rfl
end Go.Proofs.YtbenhdgpogiadaaGreat

namespace Go.Proofs.YtbenhdgpogiadaaGreat
open Go.Aw
open Nat renaming reduceEqDiff → pE, reduceLT → pL, reduceAdd → pA, reduceSub → pS, reduceMul → pM, reduceLeDiff → pD
open Int renaming reduceToNat → qT, reduceGT → qG, reduceLT → qL, reduceGE → qH, reduceBNe → qN, reduceBEq → qB, reduceLE → qE, reduceNe → qO, reduceAdd → qA, reduceNeg → qM
set_option maxRecDepth 100000
set_option maxHeartbeats 40000000
def nameT (j : Nat) : Str := [sA, sB, sC, sR, sS, sT, sX, sTop, sCell, st [113]].getD j emp
theorem litT (j : Nat) (h : j < 10) : ([sA, sB, sC, sR, sS, sT, sX, sTop, sCell, st [113]].map fun s => [eS s]).getD j [] = [eS (nameT j)] := by
 rw [getD_map (by simpa using h)]
 unfold nameT
 rw [List.getD_eq_getElem?_getD, List.getElem?_eq_getElem (by simpa using h)]; rfl
theorem names_c (k : Nat) (hk : k < 256) : FnP Tryz.prog 51 [eU8 k] (.d (eS (nameT (k % 10)))) [] := by
 refine FnP.of_eC (own := []) (fun _ => []) mixed Tryz.func51 rfl Tryz.call51 Tryz.ntmps51 (Nat.le_of_ble_eq_true rfl) Tryz.results51 (fun hok => ?_)
 have m9 : (k : Int).tmod 10 = ((k % 10 : Nat) : Int) := (Int.ofNat_tmod _ _).symm
 have hj : k % 10 < 10 := Nat.mod_lt _ (by omega)
 have l9 := litT _ hj
 have b9 : (0 ≤ ((k % 10 : Nat) : Int) ∧ ((k % 10 : Nat) : Int) < 10) = True := by simp; omega
 simp only [List.map_cons, List.map_nil, eS, sA, sB, sC, sR, sS, sT, sX, sTop, sCell, st] at l9
 simp (maxSteps := 4000000) only [ZE,↓reduceIte,pE,pL,pA,pS,pM,pD, zN,qT,qG,qL,qH,qN,qB,qE,qO,qA,qM, m9, b9, l9]
 exact ⟨by decide, hj⟩
/-! ### Step by step -/
structure K4 where
 a : Nat
 b : Nat
 c : Nat
 d : Nat
def eK4 (k : K4) : List D := [eU8 k.a, eU8 k.b, eU8 k.c, eU8 k.d]
def K4.ok (k : K4) : Prop := k.a < 256 ∧ k.b < 256 ∧ k.c < 256 ∧ k.d < 256
def spG (f : List Module) (k : K4) : List Module := f.set (k.a % f.length) (spoilM k.b k.c k.d (nameT (k.d / 16 % 10)) (f.getD (k.a % f.length) zMod))
def spS (f : List Module) (k : K4) : List Module := if partB (spG f k) = true ∧ sizeF (spG f k) < 300 then spG f k else f
def spoiled (x : Raw) (l : List K4) : List Module := (l.take 4).foldl spS (made x)
theorem size_fine {n : Nat} {m : Module} (h : Fine n m) : sizeM m ≤ 2 * n + n * (3 * n) := by
 have hs : ∀ x ∈ m.items, sizeI x ≤ 3 * n := fun x hx => by
  have h1 := h.sizes x hx
  have h2 := h.args x hx
  have h3 := h.ports x hx
  unfold sizeI
  rw [allL_len]
  simp only [List.map_cons, List.map_nil, List.sum_cons, List.sum_nil]
  omega
 have key : ∀ l : List Item, (∀ x ∈ l, sizeI x ≤ 3 * n) → (l.map sizeI).sum ≤ l.length * (3 * n) := by
  intro l
  induction l with
  | nil => intro _; simp
  | cons x l ih =>
   intro hl
   have h1 := hl x List.mem_cons_self
   have h2 := ih (fun y hy => hl y (List.mem_cons_of_mem _ hy))
   rw [List.map_cons, List.sum_cons, List.length_cons, Nat.add_mul, Nat.one_mul]
   omega
 have h1 := key m.items hs
 have h2 : m.items.length * (3 * n) ≤ n * (3 * n) := Nat.mul_le_mul_right _ h.items
 have h3 := h.items
 have h4 := h.params
 unfold sizeM
 omega
theorem size_fineF {f : List Module} (hl : f.length ≤ 2) {n : Nat} (hn : n ≤ 70) (h : ∀ m ∈ f, Fine n m) : sizeF f ≤ 9000000 := by
 have hm : ∀ m ∈ f, sizeM m ≤ 20000 := fun m hm => by
  have h1 := size_fine ((h m hm).mono hn)
  omega
 match f, hl with
 | [], _ => simp [sizeF]
 | [a], _ => simp only [sizeF, List.map_cons, List.map_nil, List.sum_cons, List.sum_nil]; have := hm a (by simp); omega
 | [a, b], _ => simp only [sizeF, List.map_cons, List.map_nil, List.sum_cons, List.sum_nil]; have := hm a (by simp); have := hm b (by simp); omega
/-- What stays on the way. -/
structure SpI (n : Nat) (f : List Module) : Prop where
 len : f.length ≤ 2
 pos : 0 < f.length
 fine : ∀ m ∈ f, Fine (60 + n) m
 part : partB f = true
theorem spI_made (x : Raw) : SpI 0 (made x) := by
 obtain ⟨h1, h2, _⟩ := tid_made x
 exact ⟨h1, h2, fine_made x, parted_made x⟩
theorem spG_fine {n : Nat} {f : List Module} (h : SpI n f) (k : K4) : ∀ m ∈ spG f k, Fine (60 + (n + 1)) m := by
 have hi : k.a % f.length < f.length := Nat.mod_lt _ h.pos
 intro m hm
 unfold spG at hm
 rcases List.mem_or_eq_of_mem_set hm with h1 | h1
 ·exact (h.fine m h1).mono (by omega)
 ·rw [h1]
  refine spoil_fine (n := 60 + n) (by omega) _ _ _ _ ?_
  have : f.getD (k.a % f.length) zMod = f[k.a % f.length] := by simp [List.getD, hi]
  rw [this]
  exact h.fine _ (List.getElem_mem hi)
theorem spI_step {n : Nat} {f : List Module} (h : SpI n f) (k : K4) : SpI (n + 1) (spS f k) := by
 unfold spS
 split
 ·rename_i hc
  exact ⟨by unfold spG; rw [List.length_set]; exact h.len, by unfold spG; rw [List.length_set]; exact h.pos, spG_fine h k, hc.1⟩
 ·exact ⟨h.len, h.pos, fun m hm => (h.fine m hm).mono (by omega), h.part⟩
theorem spI_fold (x : Raw) (l : List K4) : ∀ n, n ≤ l.length → SpI n ((l.take n).foldl spS (made x))
 | 0, _ => spI_made x
 | n + 1, h => by
  rw [List.take_succ_eq_append_getElem (by omega), List.foldl_append]
  exact spI_step (spI_fold x l n (by omega)) _
theorem spoiled_spI (x : Raw) (l : List K4) : SpI 4 (spoiled x l) := by
 unfold spoiled
 have h := spI_fold x (l.take 4) (l.take 4).length (Nat.le_refl _)
 rw [List.take_length] at h
 have hl : (l.take 4).length ≤ 4 := by rw [List.length_take]; omega
 exact ⟨h.len, h.pos, fun m hm => (h.fine m hm).mono (by omega), h.part⟩
theorem spoiled_c (x : Raw) (hx : x.ok) (l : List K4) (hl : ∀ k ∈ l, k.ok) : FnP Tryz.prog 16 [eRaw x, .sl (l.map eK4)] (.d (.agg [eModules (spoiled x l)])) [] := by
 refine FnP.of_eC (own := []) (fun _ => []) mixed Tryz.func16 rfl Tryz.call16 Tryz.ntmps16 (Nat.le_of_ble_eq_true rfl) Tryz.results16 (fun hok => ?_)
 have mc := made_c x hx
 simp only [ZE,↓reduceIte,pE,pL,pA,pS,pM,pD, eRaw] at mc
 simp (maxSteps := 4000000) only [ZE,↓reduceIte,pE,pL,pA,pS,pM,pD, zN,qT,qG,qL,qH,qN,qB,qE,qO,qA,qM, eRaw]
 refine EFn.p ?_
 simp only [ZE,↓reduceIte,pE,pL,pA,pS,pM,pD, zN,qT,qG,qL,qH,qN,qB,qE,qO,qA,qM]
 refine ECall.i mc ?_
 simp only [ZE,↓reduceIte,pE,pL,pA,pS,pM,pD, zN,qT,qG,qL,qH,qN,qB,qE,qO,qA,qM]
 obtain ⟨L, hL⟩ : ∃ L, l.take 4 = L := ⟨_, rfl⟩
 have hLl : L.length ≤ l.length ∧ L.length ≤ 4 ∧ (L.length < 4 → L.length = l.length) := by rw [← hL, List.length_take]; omega
 have hsp : spoiled x l = L.foldl spS (made x) := by unfold spoiled; rw [hL]
 rw [hsp]
 refine eloop (fun i => if i = 2005 then [.flt ⟨[(0, none), (1, none), (2, none), (3, none), (4, none), (5, none), (6, none), (7, none), (8, none), (9, none), (10, none), (11, none), (12, none), (14, some [])]⟩ ⟨[13], [(14, [13])]⟩] else []) mixed L.length (fun _ => True) (fun i => ([(1, .d (.sl (l.map eK4))), (4, .bp 4 0), (5, .bp 5 0), (6, .d (eI i))], [(4, .box [.nils]), (5, .box [.d (eModules ((L.take i).foldl spS (made x)))])])) trivial ?_ ?_ (fun i hi _ => ?_)
 ·simp only [ZE,↓reduceIte,pE,pL,pA,pS,pM,pD, eK4]
 ·simp only [ZE,↓reduceIte,pE,pL,pA,pS,pM,pD, List.take_zero, List.foldl_nil]
 rcases Nat.lt_or_ge i L.length with h | h
 ·have hw := wrap_succ (show i < 9223372036854775807 by omega)
  have hil : i < l.length := by omega
  have d4 : decide ((i : Int) < 4) = true := by simp; omega
  have hLi : L[i] = l[i] := by subst hL; rw [List.getElem_take]
  have hI := spI_fold x L i (by omega)
  have hst : (L.take (i + 1)).foldl spS (made x) = spS ((L.take i).foldl spS (made x)) l[i] := by
   rw [List.take_succ_eq_append_getElem h, List.foldl_append, hLi]; rfl
  rw [hst]
  obtain ⟨f, hf⟩ : ∃ f, (L.take i).foldl spS (made x) = f := ⟨_, rfl⟩
  rw [hf] at hI ⊢
  obtain ⟨k, hk⟩ : ∃ k, l[i] = k := ⟨_, rfl⟩
  obtain ⟨b0, b1, b2, b3⟩ := hl k (hk ▸ List.getElem_mem hil)
  rw [hk]
  have hj : k.a % f.length < f.length := Nat.mod_lt _ hI.pos
  have hg : f.getD (k.a % f.length) zMod = f[k.a % f.length] := by simp [List.getD, hj]
  have sc := spoil_c f k.a k.b k.c k.d (nameT (k.d / 16 % 10)) b0 b1 b2 b3 (by have := hI.len; omega) _ hj rfl ((hI.fine _ (List.getElem_mem hj)).mono (by omega))
  have eG : f.set (k.a % f.length) (spoilM k.b k.c k.d (nameT (k.d / 16 % 10)) f[k.a % f.length]) = spG f k := by unfold spG; rw [hg]
  rw [eG] at sc
  have hGf := spG_fine hI k
  have hGl : (spG f k).length ≤ 2 := by unfold spG; rw [List.length_set]; exact hI.len
  have zc := size_c (spG f k) (size_fineF hGl (by omega) hGf) (by omega)
  have pc := rpart_c (spG f k)
  have nc := names_c (k.d / 16) (by omega)
  have q16 : (k.d : Int).tdiv 16 = ((k.d / 16 : Nat) : Int) := (Int.ofNat_tdiv _ _).symm
  have w16 : IntKind.u8.wrap ((k.d / 16 : Nat) : Int) = ((k.d / 16 : Nat) : Int) := by
   simp only [IntKind.wrap, IntKind.bits, IntKind.signed]; simp; omega
  have hS : spS f k = if partB (spG f k) = true ∧ sizeF (spG f k) < 300 then spG f k else f := rfl
  rw [hS]
  obtain ⟨g, hgg⟩ : ∃ g, spG f k = g := ⟨_, rfl⟩
  rw [hgg] at sc zc pc ⊢
  obtain ⟨N, hN⟩ : ∃ N, nameT (k.d / 16 % 10) = N := ⟨_, rfl⟩
  rw [hN] at sc nc
  simp only [ZE,↓reduceIte,pE,pL,pA,pS,pM,pD] at sc zc pc nc
  have hkd : ((l.map eK4).getD i []) = eK4 k := by rw [getD_map hil, hk]
  simp (maxSteps := 4000000) only [ZE,↓reduceIte,pE,pL,pA,pS,pM,pD, dec_lt hil, d4, lt_int hil, getD_map hil, hk, eK4, q16, w16, zN,qT,qG,qL,qH,qN,qB,qE,qO,qA,qM, List.length_map]
  refine ⟨by kernel_rfl, by decide, ECall'.i nc ?_⟩
  simp only [ZE,↓reduceIte,pE,pL,pA,pS,pM,pD, zN,qT,qG,qL,qH,qN,qB,qE,qO,qA,qM]
  refine ECall'.i sc ?_
  simp only [ZE,↓reduceIte,pE,pL,pA,pS,pM,pD, zN,qT,qG,qL,qH,qN,qB,qE,qO,qA,qM]
  refine EFn.p ?_
  simp only [ZE,↓reduceIte,pE,pL,pA,pS,pM,pD, zN,qT,qG,qL,qH,qN,qB,qE,qO,qA,qM]
  refine ECall.i pc ?_
  rcases Bool.eq_false_or_eq_true (partB g) with hp | hp
  ·simp only [ZE,↓reduceIte,pE,pL,pA,pS,pM,pD, zN,qT,qG,qL,qH,qN,qB,qE,qO,qA,qM, hp]
   refine EFn.p ?_
   simp only [ZE,↓reduceIte,pE,pL,pA,pS,pM,pD, zN,qT,qG,qL,qH,qN,qB,qE,qO,qA,qM]
   refine ECall.i zc ?_
   rcases Nat.lt_or_ge (sizeF g) 300 with hz | hz
   ·have dz : decide ((sizeF g : Int) < 300) = true := by simp; omega
    simp only [ZE,↓reduceIte,pE,pL,pA,pS,pM,pD, zN,qT,qG,qL,qH,qN,qB,qE,qO,qA,qM, dz, hw, hz]
    exact h
   ·have dz : decide ((sizeF g : Int) < 300) = false := by simp; omega
    have nz : ¬ sizeF g < 300 := by omega
    simp only [ZE,↓reduceIte,pE,pL,pA,pS,pM,pD, zN,qT,qG,qL,qH,qN,qB,qE,qO,qA,qM, dz, hw, nz]
    exact h
  ·simp only [ZE,↓reduceIte,pE,pL,pA,pS,pM,pD, zN,qT,qG,qL,qH,qN,qB,qE,qO,qA,qM, hp, hw]
   exact h
 ·have : i = L.length := by omega
  subst this
  rw [List.take_length]
  rcases Nat.lt_or_ge L.length 4 with h4 | h4
  ·have e := hLl.2.2 h4
   have dl : decide ((L.length : Int) < (l.length : Int)) = false := by simp; omega
   simp (maxSteps := 4000000) only [ZE,↓reduceIte,pE,pL,pA,pS,pM,pD, dl, zN,qT,qG,qL,qH,qN,qB,qE,qO,qA,qM, List.length_map]
  ·have d4 : decide ((L.length : Int) < 4) = false := by simp; omega
   rcases Bool.eq_false_or_eq_true (decide ((L.length : Int) < (l.length : Int))) with dl | dl
   ·simp (maxSteps := 4000000) only [ZE,↓reduceIte,pE,pL,pA,pS,pM,pD, dl, d4, zN,qT,qG,qL,qH,qN,qB,qE,qO,qA,qM, List.length_map]
   ·simp (maxSteps := 4000000) only [ZE,↓reduceIte,pE,pL,pA,pS,pM,pD, dl, zN,qT,qG,qL,qH,qN,qB,qE,qO,qA,qM, List.length_map]
end Go.Proofs.YtbenhdgpogiadaaGreat
