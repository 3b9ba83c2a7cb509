/-
 CONTRACTS of the functions that the law reaches, and plain laws on what they compute. Conditions: those of each law.
-/
import Derived.Test.YtejpmjnefokdoaaK2
import Derived.WalkKit
import Derived.Shelf.RegionOpenPlain
import Derived.Shelf.SlSortCmp.QuietGrown
import Derived.StillTailTactics
import Derived.Handy
import Derived.Below
import Derived.Shelf.SlSortCmp.NoneTotal
import Derived.Ground.SlsfProg
import Derived.Test.YtejpmjnefokdoaaK1
set_option linter.unusedSimpArgs false
set_option linter.unusedVariables false
namespace Go.Proofs.Ytejpmjnefokdoaa
open Go.Aw
open Nat renaming reduceEqDiff → pE, reduceLT → pL, reduceAdd → pA, reduceSub → pS, reduceMul → pM, reduceLeDiff → pD
open Int renaming reduceToNat → qT, reduceGT → qG, reduceLT → qL, reduceGE → qH, reduceBNe → qN, reduceBEq → qB, reduceLE → qE, reduceNe → qO, reduceAdd → qA, reduceNeg → qM
set_option maxRecDepth 100000
set_option maxHeartbeats 20000000
def sameDecl (x y : Item) : Bool := declares y.kind.1 && decide (y.name = x.name)
theorem item1_c (x y : Item) : FnP Try.prog 50 [.agg (eItem y), .ptr (eItem x)] (.d (eB (sameDecl x y))) [] := by
 refine FnP.of_eC (own := []) chL mixed Try.func50 rfl Try.call50 Try.ntmps50 (Nat.le_of_ble_eq_true rfl) Try.results50 (fun hok => ?_)
 have dc := declares_c y.kind.1
 simp only [ZE,↓reduceIte,pE,pL,pA,pS,pM,pD] at dc
 simp (maxSteps := 4000000) only [ZE,↓reduceIte,pE,pL,pA,pS,pM,pD, eFile, eScopes, eIdx, sMp, eScope, mget_s, keyedS, keyOkS]
 refine EFn.p ?_
 simp only [ZE,↓reduceIte,pE,pL,pA,pS,pM,pD]
 refine ECall.i dc ?_
 simp only [ZE,↓reduceIte,pE,pL,pA,pS,pM,pD, sameDecl]
def badName (m : Module) (k : Nat) (x : Item) : Bool := (m.items.take k).any (sameDecl x) || !isName x.name.1 || has m.params x.name
def itemD (i k : Nat) (m : Module) (x : Item) (F : List Problem) : List Problem := if declares x.kind.1 = true then addIf F (badName m k x) ⟨1, i, k⟩ else F
def itemK (l : List Module) (i k : Nat) (m : Module) (x : Item) (F : List Problem) : List Problem :=
 if x.kind.1 = 5 then addIf F (has (dependsL m [x.a]) x.name) ⟨4, i, k⟩
 else if x.kind.1 = 1 then addIf F ((ends l m x.name).1 != 1 || (ends l m x.name).2 != 0) ⟨5, i, k⟩
 else if x.kind.1 = 2 then addIf F ((ends l m x.name).1 != 0 || (ends l m x.name).2 != 1) ⟨5, i, k⟩
 else if x.kind.1 = 3 then addIf F ((ends l m x.name).1 != 1 || (ends l m x.name).2 != 1) ⟨5, i, k⟩
 else if x.kind.1 = 9 then addIf F (misfit l x) ⟨6, i, k⟩
 else if x.kind.1 = 7 then addIf F (early m x) ⟨8, i, k⟩ else F
def itemF (l : List Module) (i k : Nat) (m : Module) (x : Item) (F : List Problem) : List Problem := itemK l i k m x (addIf (addIf (itemD i k m x F) (malformed x) ⟨2, i, k⟩) (lost l m x) ⟨3, i, k⟩)
theorem eItem_len (x : Item) : (eItem x).length = 35 := by simp [eItem, eNum, eExpr_eq, eRule]
def itL (i : Nat) : List Gh := if i = 2005 then [.chn, .ord ⟨[(0, none), (1, none), (2, none), (3, none), (4, none), (5, none), (6, none), (7, none), (8, none), (9, none), (10, none), (11, none), (12, none), (13, none), (14, none), (15, none), (16, none), (17, none), (18, some [])]⟩] else if i = 2006 then [.chn, .ord ⟨[(0, none), (1, none), (2, none), (3, none), (4, none), (5, some [])]⟩] else if i = 2007 then [.chn, .ord ⟨[(0, none), (1, none), (2, none), (3, none), (4, none), (5, none), (6, none), (7, some [])]⟩] else if i = 2011 then [.chn, .ord ⟨[(0, none), (1, none), (2, none), (3, none), (4, none), (5, none), (6, none), (7, none), (8, none), (9, none), (10, none), (11, some [])]⟩] else if i = 2019 then [.chn, .ord ⟨[(0, none), (1, none), (2, none), (3, none), (4, none), (5, none), (6, some [])]⟩] else if i = 2021 then [.chn, .ord ⟨[(0, none), (1, none), (2, none), (3, none), (4, none), (5, none), (6, some [])]⟩] else chL i
theorem item_c (l : List Module) (i k : Nat) (m : Module) (x : Item) (hok : D.ok (eScopes l)) (hi : i < l.length) (hm : l[i] = m) (hk : k < m.items.length) (hx : m.items[k] = x) (hn : (numbers x).length ≤ 2000000) (F : List Problem) (hF : ∀ q ∈ F, probIn q) :
  FnL Try.prog 34 [.agg [.d (eScopes l), .d (eIdx l), .mo 1], .d (eI i), .d (eI k)] [(1, pMap F)] (fun V ol new => V = .tup [] ∧ ol = [(1, pMap (itemF l i k m x F))] ∧ new = []) := by
 have hll : l.length ≤ 9223372036854775807 := (ok_map hok).1
 have hml : m.items.length ≤ 9223372036854775807 := by
  have h2 := (ok_map hok).2 m (hm ▸ List.getElem_mem hi)
  simp only [eScope, D.okL] at h2
  exact (ok_map h2.2.2.2.1).1
 have wi := wf_nat (show i ≤ 9223372036854775807 by omega)
 have wk := wf_nat (show k ≤ 9223372036854775807 by omega)
 have dc := declares_c x.kind.1
 have mc := malformed_c x
 have hin : ∀ c : Int, (Lit.int .i64 c).wf = true → probIn ⟨c, i, k⟩ := fun c hc => ⟨hc, wi, wk⟩
 by_cases e : x.kind.1 = 5
 ·have hd : declares x.kind.1 = true := by rw [e]; rfl
  have hd' : declares 5 = true := rfl
  have hD : itemD i k m x F = addIf F (badName m k x) ⟨1, i, k⟩ := if_pos hd
  have hI : itemF l i k m x F = addIf (addIf (addIf (addIf F (badName m k x) ⟨1, i, k⟩) (malformed x) ⟨2, i, k⟩) (lost l m x) ⟨3, i, k⟩) (has (dependsL m [x.a]) x.name) ⟨4, i, k⟩ := by rw [itemF, hD, itemK]; simp [e]
  rw [hI]
  refine FnL.of_eC (own := []) itL [0] mixed Try.func34 rfl Try.call34 Try.ntmps34 (Nat.le_of_ble_eq_true rfl) Try.results34 ?_
  simp only [ZE,↓reduceIte,pE,pL,pA,pS,pM,pD, hd, e] at dc
  simp (maxSteps := 4000000) only [ZE,↓reduceIte,pE,pL,pA,pS,pM,pD, eFile, eScopes, eIdx, sMp, eScope, mget_s, keyedS, keyOkS, zN,qT,qG,qL,qH,qN,qB,qE,qO,qA,qM, pMap, itL.eq_1, lt_int hi, getD_map hi, hm, lt_int hk, getD_map hk, hx, e]
  refine EFn.p ?_
  simp only [ZE,↓reduceIte,pE,pL,pA,pS,pM,pD, eFile, eScopes, eIdx, sMp, eScope, mget_s, keyedS, keyOkS, zN,qT,qG,qL,qH,qN,qB,qE,qO,qA,qM, pMap, itL.eq_1]
  refine ECall.i dc ?_
  simp only [ZE,↓reduceIte,pE,pL,pA,pS,pM,pD, eFile, eScopes, eIdx, sMp, eScope, mget_s, keyedS, keyOkS, zN,qT,qG,qL,qH,qN,qB,qE,qO,qA,qM, pMap, itL.eq_1, ← List.map_take, Nat.sub_zero, hd']
  have tc := containsFI_c (m.items.take k) 50 (.ptr (eItem x)) (sameDecl x) (fun y _ => item1_c x y)
  have n1 := name_c' x.name.1
  have c1 := containsS_c m.params x.name
  have r1 := report_c l F hF (badName m k x) ⟨1, i, k⟩ (hin 1 rfl)
  have G1 := addIf_in (b := badName m k x) hF (hin 1 rfl)
  obtain ⟨F1, hF1⟩ : ∃ F1, addIf F (badName m k x) ⟨1, i, k⟩ = F1 := ⟨_, rfl⟩
  rw [hF1] at r1 G1 ⊢
  simp only [ZE,↓reduceIte,pE,pL,pA,pS,pM,pD, e] at tc n1 c1
  simp only [ZE,↓reduceIte,pE,pL,pA,pS,pM,pD, eFile, eScopes, eIdx, sMp, eScope, mget_s, keyedS, keyOkS, zN,qT,qG,qL,qH,qN,qB,qE,qO,qA,qM, pMap, itL.eq_1, badName] at r1
  refine ⟨⟨fun y hy => (by obtain ⟨q, _, rfl⟩ := List.mem_map.1 hy; exact eItem_len q), by omega, by omega, by omega⟩, EFn.p ?_⟩
  simp only [ZE,↓reduceIte,pE,pL,pA,pS,pM,pD, eFile, eScopes, eIdx, sMp, eScope, mget_s, keyedS, keyOkS, zN,qT,qG,qL,qH,qN,qB,qE,qO,qA,qM, pMap, itL.eq_1, e]
  refine ECall.i tc ?_
  simp only [ZE,↓reduceIte,pE,pL,pA,pS,pM,pD, eFile, eScopes, eIdx, sMp, eScope, mget_s, keyedS, keyOkS, zN,qT,qG,qL,qH,qN,qB,qE,qO,qA,qM, pMap, itL.eq_1, e]
  refine ⟨by kernel_rfl, ?_⟩
  refine ECallC.i (fun _ => n1) ?_
  simp only [ZE,↓reduceIte,pE,pL,pA,pS,pM,pD, eFile, eScopes, eIdx, sMp, eScope, mget_s, keyedS, keyOkS, zN,qT,qG,qL,qH,qN,qB,qE,qO,qA,qM, pMap, itL.eq_1, e]
  refine ECallC.i (fun _ => c1) ?_
  simp only [ZE,↓reduceIte,pE,pL,pA,pS,pM,pD, eFile, eScopes, eIdx, sMp, eScope, mget_s, keyedS, keyOkS, zN,qT,qG,qL,qH,qN,qB,qE,qO,qA,qM, pMap, itL.eq_1, e]
  refine EFn.g ⟨[(1, 1)], _, _, _, r1, ?_⟩
  simp only [ZE,↓reduceIte,pE,pL,pA,pS,pM,pD, eFile, eScopes, eIdx, sMp, eScope, mget_s, keyedS, keyOkS, zN,qT,qG,qL,qH,qN,qB,qE,qO,qA,qM, pMap, itL.eq_1]
  rintro V ol new ⟨rfl, rfl, rfl⟩
  have r2 := report_c l F1 G1 (malformed x) ⟨2, i, k⟩ (hin 2 rfl)
  have G2 := addIf_in (b := malformed x) G1 (hin 2 rfl)
  have lc := lost_c l (pK (addIf F1 (malformed x) ⟨2, i, k⟩)) (pV (addIf F1 (malformed x) ⟨2, i, k⟩)) (List.range (addIf F1 (malformed x) ⟨2, i, k⟩).length) (addIf F1 (malformed x) ⟨2, i, k⟩).length m x hn
  have r3 := report_c l _ G2 (lost l m x) ⟨3, i, k⟩ (hin 3 rfl)
  have G3 := addIf_in (b := lost l m x) G2 (hin 3 rfl)
  obtain ⟨F3, hF3⟩ : ∃ F3, addIf (addIf F1 (malformed x) ⟨2, i, k⟩) (lost l m x) ⟨3, i, k⟩ = F3 := ⟨_, rfl⟩
  rw [hF3] at r3 G3 ⊢
  have ec := ends_c l (pK F3) (pV F3) (List.range F3.length) F3.length m x.name
  simp only [ZE,↓reduceIte,pE,pL,pA,pS,pM,pD, eFile, eScopes, eIdx, sMp, eScope, mget_s, keyedS, keyOkS, zN,qT,qG,qL,qH,qN,qB,qE,qO,qA,qM, pMap, itL.eq_1, e] at r2 lc r3 ec mc
  try simp only [ZE,↓reduceIte,pE,pL,pA,pS,pM,pD, eFile, eScopes, eIdx, sMp, eScope, mget_s, keyedS, keyOkS, zN,qT,qG,qL,qH,qN,qB,qE,qO,qA,qM, pMap, itL.eq_1, e]
  refine ⟨by kernel_rfl, ?_⟩
  refine ECallC.i (fun _ => mc) ?_
  simp only [ZE,↓reduceIte,pE,pL,pA,pS,pM,pD, eFile, eScopes, eIdx, sMp, eScope, mget_s, keyedS, keyOkS, zN,qT,qG,qL,qH,qN,qB,qE,qO,qA,qM, pMap, itL.eq_1, e]
  refine EFn.g ⟨[(1, 1)], _, _, _, r2, ?_⟩
  simp only [ZE,↓reduceIte,pE,pL,pA,pS,pM,pD, eFile, eScopes, eIdx, sMp, eScope, mget_s, keyedS, keyOkS, zN,qT,qG,qL,qH,qN,qB,qE,qO,qA,qM, pMap, itL.eq_1]
  rintro V ol new ⟨rfl, rfl, rfl⟩
  simp only [ZE,↓reduceIte,pE,pL,pA,pS,pM,pD, eFile, eScopes, eIdx, sMp, eScope, mget_s, keyedS, keyOkS, zN,qT,qG,qL,qH,qN,qB,qE,qO,qA,qM, pMap, itL.eq_1, e]
  refine ⟨by kernel_rfl, ?_⟩
  refine ECallC.i (fun _ => lc) ?_
  simp only [ZE,↓reduceIte,pE,pL,pA,pS,pM,pD, eFile, eScopes, eIdx, sMp, eScope, mget_s, keyedS, keyOkS, zN,qT,qG,qL,qH,qN,qB,qE,qO,qA,qM, pMap, itL.eq_1, e]
  refine EFn.g ⟨[(1, 1)], _, _, _, r3, ?_⟩
  simp only [ZE,↓reduceIte,pE,pL,pA,pS,pM,pD, eFile, eScopes, eIdx, sMp, eScope, mget_s, keyedS, keyOkS, zN,qT,qG,qL,qH,qN,qB,qE,qO,qA,qM, pMap, itL.eq_1]
  rintro V ol new ⟨rfl, rfl, rfl⟩
  simp only [ZE,↓reduceIte,pE,pL,pA,pS,pM,pD, eFile, eScopes, eIdx, sMp, eScope, mget_s, keyedS, keyOkS, zN,qT,qG,qL,qH,qN,qB,qE,qO,qA,qM, pMap, itL.eq_1, e]
  refine EFn.p ?_
  simp only [ZE,↓reduceIte,pE,pL,pA,pS,pM,pD, eFile, eScopes, eIdx, sMp, eScope, mget_s, keyedS, keyOkS, zN,qT,qG,qL,qH,qN,qB,qE,qO,qA,qM, pMap, itL.eq_1, e]
  refine ECall.i ec ?_
  simp only [ZE,↓reduceIte,pE,pL,pA,pS,pM,pD, eFile, eScopes, eIdx, sMp, eScope, mget_s, keyedS, keyOkS, zN,qT,qG,qL,qH,qN,qB,qE,qO,qA,qM, pMap, itL.eq_1, e]
  have r4 := report_c l F3 G3 (has (dependsL m [x.a]) x.name) ⟨4, i, k⟩ (hin 4 rfl)
  simp only [ZE,↓reduceIte,pE,pL,pA,pS,pM,pD, eFile, eScopes, eIdx, sMp, eScope, mget_s, keyedS, keyOkS, zN,qT,qG,qL,qH,qN,qB,qE,qO,qA,qM, pMap, itL.eq_1] at r4
  have pc := depends_c m [x.a]
  simp only [ZE,↓reduceIte,pE,pL,pA,pS,pM,pD, eFile, eScopes, eIdx, sMp, eScope, mget_s, keyedS, keyOkS, zN,qT,qG,qL,qH,qN,qB,qE,qO,qA,qM, pMap, itL.eq_1, List.map_cons, List.map_nil] at pc
  refine ⟨by kernel_rfl, ECallC.i (fun _ => pc) ?_⟩
  simp only [ZE,↓reduceIte,pE,pL,pA,pS,pM,pD, eFile, eScopes, eIdx, sMp, eScope, mget_s, keyedS, keyOkS, zN,qT,qG,qL,qH,qN,qB,qE,qO,qA,qM, pMap, itL.eq_1, getD_tk]
  refine ⟨fun y hy => sK_ok _ y hy, ?_⟩
  refine EFn.g ⟨[(1, 1)], _, _, _, r4, ?_⟩
  simp only [ZE,↓reduceIte,pE,pL,pA,pS,pM,pD, eFile, eScopes, eIdx, sMp, eScope, mget_s, keyedS, keyOkS, zN,qT,qG,qL,qH,qN,qB,qE,qO,qA,qM, pMap, itL.eq_1]
  rintro V ol new ⟨rfl, rfl, rfl⟩
  simp only [ZE,↓reduceIte,pE,pL,pA,pS,pM,pD, eFile, eScopes, eIdx, sMp, eScope, mget_s, keyedS, keyOkS, zN,qT,qG,qL,qH,qN,qB,qE,qO,qA,qM, pMap, itL.eq_1]
  refine ⟨[3, 6, 7], [], ?_⟩
  simp only [ZE,↓reduceIte,pE,pL,pA,pS,pM,pD]
 have n5 := e
 by_cases e : x.kind.1 = 1
 ·have hd : declares x.kind.1 = true := by rw [e]; rfl
  have hd' : declares 1 = true := rfl
  have hD : itemD i k m x F = addIf F (badName m k x) ⟨1, i, k⟩ := if_pos hd
  have hI : itemF l i k m x F = addIf (addIf (addIf (addIf F (badName m k x) ⟨1, i, k⟩) (malformed x) ⟨2, i, k⟩) (lost l m x) ⟨3, i, k⟩) ((ends l m x.name).1 != 1 || (ends l m x.name).2 != 0) ⟨5, i, k⟩ := by rw [itemF, hD, itemK]; simp [e]
  rw [hI]
  refine FnL.of_eC (own := []) itL [0] mixed Try.func34 rfl Try.call34 Try.ntmps34 (Nat.le_of_ble_eq_true rfl) Try.results34 ?_
  simp only [ZE,↓reduceIte,pE,pL,pA,pS,pM,pD, hd, e] at dc
  simp (maxSteps := 4000000) only [ZE,↓reduceIte,pE,pL,pA,pS,pM,pD, eFile, eScopes, eIdx, sMp, eScope, mget_s, keyedS, keyOkS, zN,qT,qG,qL,qH,qN,qB,qE,qO,qA,qM, pMap, itL.eq_1, lt_int hi, getD_map hi, hm, lt_int hk, getD_map hk, hx, e]
  refine EFn.p ?_
  simp only [ZE,↓reduceIte,pE,pL,pA,pS,pM,pD, eFile, eScopes, eIdx, sMp, eScope, mget_s, keyedS, keyOkS, zN,qT,qG,qL,qH,qN,qB,qE,qO,qA,qM, pMap, itL.eq_1]
  refine ECall.i dc ?_
  simp only [ZE,↓reduceIte,pE,pL,pA,pS,pM,pD, eFile, eScopes, eIdx, sMp, eScope, mget_s, keyedS, keyOkS, zN,qT,qG,qL,qH,qN,qB,qE,qO,qA,qM, pMap, itL.eq_1, ← List.map_take, Nat.sub_zero, hd']
  have tc := containsFI_c (m.items.take k) 50 (.ptr (eItem x)) (sameDecl x) (fun y _ => item1_c x y)
  have n1 := name_c' x.name.1
  have c1 := containsS_c m.params x.name
  have r1 := report_c l F hF (badName m k x) ⟨1, i, k⟩ (hin 1 rfl)
  have G1 := addIf_in (b := badName m k x) hF (hin 1 rfl)
  obtain ⟨F1, hF1⟩ : ∃ F1, addIf F (badName m k x) ⟨1, i, k⟩ = F1 := ⟨_, rfl⟩
  rw [hF1] at r1 G1 ⊢
  simp only [ZE,↓reduceIte,pE,pL,pA,pS,pM,pD, e] at tc n1 c1
  simp only [ZE,↓reduceIte,pE,pL,pA,pS,pM,pD, eFile, eScopes, eIdx, sMp, eScope, mget_s, keyedS, keyOkS, zN,qT,qG,qL,qH,qN,qB,qE,qO,qA,qM, pMap, itL.eq_1, badName] at r1
  refine ⟨⟨fun y hy => (by obtain ⟨q, _, rfl⟩ := List.mem_map.1 hy; exact eItem_len q), by omega, by omega, by omega⟩, EFn.p ?_⟩
  simp only [ZE,↓reduceIte,pE,pL,pA,pS,pM,pD, eFile, eScopes, eIdx, sMp, eScope, mget_s, keyedS, keyOkS, zN,qT,qG,qL,qH,qN,qB,qE,qO,qA,qM, pMap, itL.eq_1, e]
  refine ECall.i tc ?_
  simp only [ZE,↓reduceIte,pE,pL,pA,pS,pM,pD, eFile, eScopes, eIdx, sMp, eScope, mget_s, keyedS, keyOkS, zN,qT,qG,qL,qH,qN,qB,qE,qO,qA,qM, pMap, itL.eq_1, e]
  refine ⟨by kernel_rfl, ?_⟩
  refine ECallC.i (fun _ => n1) ?_
  simp only [ZE,↓reduceIte,pE,pL,pA,pS,pM,pD, eFile, eScopes, eIdx, sMp, eScope, mget_s, keyedS, keyOkS, zN,qT,qG,qL,qH,qN,qB,qE,qO,qA,qM, pMap, itL.eq_1, e]
  refine ECallC.i (fun _ => c1) ?_
  simp only [ZE,↓reduceIte,pE,pL,pA,pS,pM,pD, eFile, eScopes, eIdx, sMp, eScope, mget_s, keyedS, keyOkS, zN,qT,qG,qL,qH,qN,qB,qE,qO,qA,qM, pMap, itL.eq_1, e]
  refine EFn.g ⟨[(1, 1)], _, _, _, r1, ?_⟩
  simp only [ZE,↓reduceIte,pE,pL,pA,pS,pM,pD, eFile, eScopes, eIdx, sMp, eScope, mget_s, keyedS, keyOkS, zN,qT,qG,qL,qH,qN,qB,qE,qO,qA,qM, pMap, itL.eq_1]
  rintro V ol new ⟨rfl, rfl, rfl⟩
  have r2 := report_c l F1 G1 (malformed x) ⟨2, i, k⟩ (hin 2 rfl)
  have G2 := addIf_in (b := malformed x) G1 (hin 2 rfl)
  have lc := lost_c l (pK (addIf F1 (malformed x) ⟨2, i, k⟩)) (pV (addIf F1 (malformed x) ⟨2, i, k⟩)) (List.range (addIf F1 (malformed x) ⟨2, i, k⟩).length) (addIf F1 (malformed x) ⟨2, i, k⟩).length m x hn
  have r3 := report_c l _ G2 (lost l m x) ⟨3, i, k⟩ (hin 3 rfl)
  have G3 := addIf_in (b := lost l m x) G2 (hin 3 rfl)
  obtain ⟨F3, hF3⟩ : ∃ F3, addIf (addIf F1 (malformed x) ⟨2, i, k⟩) (lost l m x) ⟨3, i, k⟩ = F3 := ⟨_, rfl⟩
  rw [hF3] at r3 G3 ⊢
  have ec := ends_c l (pK F3) (pV F3) (List.range F3.length) F3.length m x.name
  simp only [ZE,↓reduceIte,pE,pL,pA,pS,pM,pD, eFile, eScopes, eIdx, sMp, eScope, mget_s, keyedS, keyOkS, zN,qT,qG,qL,qH,qN,qB,qE,qO,qA,qM, pMap, itL.eq_1, e] at r2 lc r3 ec mc
  try simp only [ZE,↓reduceIte,pE,pL,pA,pS,pM,pD, eFile, eScopes, eIdx, sMp, eScope, mget_s, keyedS, keyOkS, zN,qT,qG,qL,qH,qN,qB,qE,qO,qA,qM, pMap, itL.eq_1, e]
  refine ⟨by kernel_rfl, ?_⟩
  refine ECallC.i (fun _ => mc) ?_
  simp only [ZE,↓reduceIte,pE,pL,pA,pS,pM,pD, eFile, eScopes, eIdx, sMp, eScope, mget_s, keyedS, keyOkS, zN,qT,qG,qL,qH,qN,qB,qE,qO,qA,qM, pMap, itL.eq_1, e]
  refine EFn.g ⟨[(1, 1)], _, _, _, r2, ?_⟩
  simp only [ZE,↓reduceIte,pE,pL,pA,pS,pM,pD, eFile, eScopes, eIdx, sMp, eScope, mget_s, keyedS, keyOkS, zN,qT,qG,qL,qH,qN,qB,qE,qO,qA,qM, pMap, itL.eq_1]
  rintro V ol new ⟨rfl, rfl, rfl⟩
  simp only [ZE,↓reduceIte,pE,pL,pA,pS,pM,pD, eFile, eScopes, eIdx, sMp, eScope, mget_s, keyedS, keyOkS, zN,qT,qG,qL,qH,qN,qB,qE,qO,qA,qM, pMap, itL.eq_1, e]
  refine ⟨by kernel_rfl, ?_⟩
  refine ECallC.i (fun _ => lc) ?_
  simp only [ZE,↓reduceIte,pE,pL,pA,pS,pM,pD, eFile, eScopes, eIdx, sMp, eScope, mget_s, keyedS, keyOkS, zN,qT,qG,qL,qH,qN,qB,qE,qO,qA,qM, pMap, itL.eq_1, e]
  refine EFn.g ⟨[(1, 1)], _, _, _, r3, ?_⟩
  simp only [ZE,↓reduceIte,pE,pL,pA,pS,pM,pD, eFile, eScopes, eIdx, sMp, eScope, mget_s, keyedS, keyOkS, zN,qT,qG,qL,qH,qN,qB,qE,qO,qA,qM, pMap, itL.eq_1]
  rintro V ol new ⟨rfl, rfl, rfl⟩
  simp only [ZE,↓reduceIte,pE,pL,pA,pS,pM,pD, eFile, eScopes, eIdx, sMp, eScope, mget_s, keyedS, keyOkS, zN,qT,qG,qL,qH,qN,qB,qE,qO,qA,qM, pMap, itL.eq_1, e]
  refine EFn.p ?_
  simp only [ZE,↓reduceIte,pE,pL,pA,pS,pM,pD, eFile, eScopes, eIdx, sMp, eScope, mget_s, keyedS, keyOkS, zN,qT,qG,qL,qH,qN,qB,qE,qO,qA,qM, pMap, itL.eq_1, e]
  refine ECall.i ec ?_
  simp only [ZE,↓reduceIte,pE,pL,pA,pS,pM,pD, eFile, eScopes, eIdx, sMp, eScope, mget_s, keyedS, keyOkS, zN,qT,qG,qL,qH,qN,qB,qE,qO,qA,qM, pMap, itL.eq_1, e]
  have r4 := report_c l F3 G3 ((ends l m x.name).1 != 1 || (ends l m x.name).2 != 0) ⟨5, i, k⟩ (hin 5 rfl)
  simp only [ZE,↓reduceIte,pE,pL,pA,pS,pM,pD, eFile, eScopes, eIdx, sMp, eScope, mget_s, keyedS, keyOkS, zN,qT,qG,qL,qH,qN,qB,qE,qO,qA,qM, pMap, itL.eq_1] at r4
  refine EFn.g ⟨[(1, 1)], _, _, _, r4, ?_⟩
  simp only [ZE,↓reduceIte,pE,pL,pA,pS,pM,pD, eFile, eScopes, eIdx, sMp, eScope, mget_s, keyedS, keyOkS, zN,qT,qG,qL,qH,qN,qB,qE,qO,qA,qM, pMap, itL.eq_1]
  rintro V ol new ⟨rfl, rfl, rfl⟩
  simp only [ZE,↓reduceIte,pE,pL,pA,pS,pM,pD, eFile, eScopes, eIdx, sMp, eScope, mget_s, keyedS, keyOkS, zN,qT,qG,qL,qH,qN,qB,qE,qO,qA,qM, pMap, itL.eq_1]
  refine ⟨[3, 6, 7], [], ?_⟩
  simp only [ZE,↓reduceIte,pE,pL,pA,pS,pM,pD]
 have n1 := e
 by_cases e : x.kind.1 = 2
 ·have hd : declares x.kind.1 = true := by rw [e]; rfl
  have hd' : declares 2 = true := rfl
  have hD : itemD i k m x F = addIf F (badName m k x) ⟨1, i, k⟩ := if_pos hd
  have hI : itemF l i k m x F = addIf (addIf (addIf (addIf F (badName m k x) ⟨1, i, k⟩) (malformed x) ⟨2, i, k⟩) (lost l m x) ⟨3, i, k⟩) ((ends l m x.name).1 != 0 || (ends l m x.name).2 != 1) ⟨5, i, k⟩ := by rw [itemF, hD, itemK]; simp [e]
  rw [hI]
  refine FnL.of_eC (own := []) itL [0] mixed Try.func34 rfl Try.call34 Try.ntmps34 (Nat.le_of_ble_eq_true rfl) Try.results34 ?_
  simp only [ZE,↓reduceIte,pE,pL,pA,pS,pM,pD, hd, e] at dc
  simp (maxSteps := 4000000) only [ZE,↓reduceIte,pE,pL,pA,pS,pM,pD, eFile, eScopes, eIdx, sMp, eScope, mget_s, keyedS, keyOkS, zN,qT,qG,qL,qH,qN,qB,qE,qO,qA,qM, pMap, itL.eq_1, lt_int hi, getD_map hi, hm, lt_int hk, getD_map hk, hx, e]
  refine EFn.p ?_
  simp only [ZE,↓reduceIte,pE,pL,pA,pS,pM,pD, eFile, eScopes, eIdx, sMp, eScope, mget_s, keyedS, keyOkS, zN,qT,qG,qL,qH,qN,qB,qE,qO,qA,qM, pMap, itL.eq_1]
  refine ECall.i dc ?_
  simp only [ZE,↓reduceIte,pE,pL,pA,pS,pM,pD, eFile, eScopes, eIdx, sMp, eScope, mget_s, keyedS, keyOkS, zN,qT,qG,qL,qH,qN,qB,qE,qO,qA,qM, pMap, itL.eq_1, ← List.map_take, Nat.sub_zero, hd']
  have tc := containsFI_c (m.items.take k) 50 (.ptr (eItem x)) (sameDecl x) (fun y _ => item1_c x y)
  have n1 := name_c' x.name.1
  have c1 := containsS_c m.params x.name
  have r1 := report_c l F hF (badName m k x) ⟨1, i, k⟩ (hin 1 rfl)
  have G1 := addIf_in (b := badName m k x) hF (hin 1 rfl)
  obtain ⟨F1, hF1⟩ : ∃ F1, addIf F (badName m k x) ⟨1, i, k⟩ = F1 := ⟨_, rfl⟩
  rw [hF1] at r1 G1 ⊢
  simp only [ZE,↓reduceIte,pE,pL,pA,pS,pM,pD, e] at tc n1 c1
  simp only [ZE,↓reduceIte,pE,pL,pA,pS,pM,pD, eFile, eScopes, eIdx, sMp, eScope, mget_s, keyedS, keyOkS, zN,qT,qG,qL,qH,qN,qB,qE,qO,qA,qM, pMap, itL.eq_1, badName] at r1
  refine ⟨⟨fun y hy => (by obtain ⟨q, _, rfl⟩ := List.mem_map.1 hy; exact eItem_len q), by omega, by omega, by omega⟩, EFn.p ?_⟩
  simp only [ZE,↓reduceIte,pE,pL,pA,pS,pM,pD, eFile, eScopes, eIdx, sMp, eScope, mget_s, keyedS, keyOkS, zN,qT,qG,qL,qH,qN,qB,qE,qO,qA,qM, pMap, itL.eq_1, e]
  refine ECall.i tc ?_
  simp only [ZE,↓reduceIte,pE,pL,pA,pS,pM,pD, eFile, eScopes, eIdx, sMp, eScope, mget_s, keyedS, keyOkS, zN,qT,qG,qL,qH,qN,qB,qE,qO,qA,qM, pMap, itL.eq_1, e]
  refine ⟨by kernel_rfl, ?_⟩
  refine ECallC.i (fun _ => n1) ?_
  simp only [ZE,↓reduceIte,pE,pL,pA,pS,pM,pD, eFile, eScopes, eIdx, sMp, eScope, mget_s, keyedS, keyOkS, zN,qT,qG,qL,qH,qN,qB,qE,qO,qA,qM, pMap, itL.eq_1, e]
  refine ECallC.i (fun _ => c1) ?_
  simp only [ZE,↓reduceIte,pE,pL,pA,pS,pM,pD, eFile, eScopes, eIdx, sMp, eScope, mget_s, keyedS, keyOkS, zN,qT,qG,qL,qH,qN,qB,qE,qO,qA,qM, pMap, itL.eq_1, e]
  refine EFn.g ⟨[(1, 1)], _, _, _, r1, ?_⟩
  simp only [ZE,↓reduceIte,pE,pL,pA,pS,pM,pD, eFile, eScopes, eIdx, sMp, eScope, mget_s, keyedS, keyOkS, zN,qT,qG,qL,qH,qN,qB,qE,qO,qA,qM, pMap, itL.eq_1]
  rintro V ol new ⟨rfl, rfl, rfl⟩
  have r2 := report_c l F1 G1 (malformed x) ⟨2, i, k⟩ (hin 2 rfl)
  have G2 := addIf_in (b := malformed x) G1 (hin 2 rfl)
  have lc := lost_c l (pK (addIf F1 (malformed x) ⟨2, i, k⟩)) (pV (addIf F1 (malformed x) ⟨2, i, k⟩)) (List.range (addIf F1 (malformed x) ⟨2, i, k⟩).length) (addIf F1 (malformed x) ⟨2, i, k⟩).length m x hn
  have r3 := report_c l _ G2 (lost l m x) ⟨3, i, k⟩ (hin 3 rfl)
  have G3 := addIf_in (b := lost l m x) G2 (hin 3 rfl)
  obtain ⟨F3, hF3⟩ : ∃ F3, addIf (addIf F1 (malformed x) ⟨2, i, k⟩) (lost l m x) ⟨3, i, k⟩ = F3 := ⟨_, rfl⟩
  rw [hF3] at r3 G3 ⊢
  have ec := ends_c l (pK F3) (pV F3) (List.range F3.length) F3.length m x.name
  simp only [ZE,↓reduceIte,pE,pL,pA,pS,pM,pD, eFile, eScopes, eIdx, sMp, eScope, mget_s, keyedS, keyOkS, zN,qT,qG,qL,qH,qN,qB,qE,qO,qA,qM, pMap, itL.eq_1, e] at r2 lc r3 ec mc
  try simp only [ZE,↓reduceIte,pE,pL,pA,pS,pM,pD, eFile, eScopes, eIdx, sMp, eScope, mget_s, keyedS, keyOkS, zN,qT,qG,qL,qH,qN,qB,qE,qO,qA,qM, pMap, itL.eq_1, e]
  refine ⟨by kernel_rfl, ?_⟩
  refine ECallC.i (fun _ => mc) ?_
  simp only [ZE,↓reduceIte,pE,pL,pA,pS,pM,pD, eFile, eScopes, eIdx, sMp, eScope, mget_s, keyedS, keyOkS, zN,qT,qG,qL,qH,qN,qB,qE,qO,qA,qM, pMap, itL.eq_1, e]
  refine EFn.g ⟨[(1, 1)], _, _, _, r2, ?_⟩
  simp only [ZE,↓reduceIte,pE,pL,pA,pS,pM,pD, eFile, eScopes, eIdx, sMp, eScope, mget_s, keyedS, keyOkS, zN,qT,qG,qL,qH,qN,qB,qE,qO,qA,qM, pMap, itL.eq_1]
  rintro V ol new ⟨rfl, rfl, rfl⟩
  simp only [ZE,↓reduceIte,pE,pL,pA,pS,pM,pD, eFile, eScopes, eIdx, sMp, eScope, mget_s, keyedS, keyOkS, zN,qT,qG,qL,qH,qN,qB,qE,qO,qA,qM, pMap, itL.eq_1, e]
  refine ⟨by kernel_rfl, ?_⟩
  refine ECallC.i (fun _ => lc) ?_
  simp only [ZE,↓reduceIte,pE,pL,pA,pS,pM,pD, eFile, eScopes, eIdx, sMp, eScope, mget_s, keyedS, keyOkS, zN,qT,qG,qL,qH,qN,qB,qE,qO,qA,qM, pMap, itL.eq_1, e]
  refine EFn.g ⟨[(1, 1)], _, _, _, r3, ?_⟩
  simp only [ZE,↓reduceIte,pE,pL,pA,pS,pM,pD, eFile, eScopes, eIdx, sMp, eScope, mget_s, keyedS, keyOkS, zN,qT,qG,qL,qH,qN,qB,qE,qO,qA,qM, pMap, itL.eq_1]
  rintro V ol new ⟨rfl, rfl, rfl⟩
  simp only [ZE,↓reduceIte,pE,pL,pA,pS,pM,pD, eFile, eScopes, eIdx, sMp, eScope, mget_s, keyedS, keyOkS, zN,qT,qG,qL,qH,qN,qB,qE,qO,qA,qM, pMap, itL.eq_1, e]
  refine EFn.p ?_
  simp only [ZE,↓reduceIte,pE,pL,pA,pS,pM,pD, eFile, eScopes, eIdx, sMp, eScope, mget_s, keyedS, keyOkS, zN,qT,qG,qL,qH,qN,qB,qE,qO,qA,qM, pMap, itL.eq_1, e]
  refine ECall.i ec ?_
  simp only [ZE,↓reduceIte,pE,pL,pA,pS,pM,pD, eFile, eScopes, eIdx, sMp, eScope, mget_s, keyedS, keyOkS, zN,qT,qG,qL,qH,qN,qB,qE,qO,qA,qM, pMap, itL.eq_1, e]
  have r4 := report_c l F3 G3 ((ends l m x.name).1 != 0 || (ends l m x.name).2 != 1) ⟨5, i, k⟩ (hin 5 rfl)
  simp only [ZE,↓reduceIte,pE,pL,pA,pS,pM,pD, eFile, eScopes, eIdx, sMp, eScope, mget_s, keyedS, keyOkS, zN,qT,qG,qL,qH,qN,qB,qE,qO,qA,qM, pMap, itL.eq_1] at r4
  refine EFn.g ⟨[(1, 1)], _, _, _, r4, ?_⟩
  simp only [ZE,↓reduceIte,pE,pL,pA,pS,pM,pD, eFile, eScopes, eIdx, sMp, eScope, mget_s, keyedS, keyOkS, zN,qT,qG,qL,qH,qN,qB,qE,qO,qA,qM, pMap, itL.eq_1]
  rintro V ol new ⟨rfl, rfl, rfl⟩
  simp only [ZE,↓reduceIte,pE,pL,pA,pS,pM,pD, eFile, eScopes, eIdx, sMp, eScope, mget_s, keyedS, keyOkS, zN,qT,qG,qL,qH,qN,qB,qE,qO,qA,qM, pMap, itL.eq_1]
  refine ⟨[3, 6, 7], [], ?_⟩
  simp only [ZE,↓reduceIte,pE,pL,pA,pS,pM,pD]
 have n2 := e
 by_cases e : x.kind.1 = 3
 ·have hd : declares x.kind.1 = true := by rw [e]; rfl
  have hd' : declares 3 = true := rfl
  have hD : itemD i k m x F = addIf F (badName m k x) ⟨1, i, k⟩ := if_pos hd
  have hI : itemF l i k m x F = addIf (addIf (addIf (addIf F (badName m k x) ⟨1, i, k⟩) (malformed x) ⟨2, i, k⟩) (lost l m x) ⟨3, i, k⟩) ((ends l m x.name).1 != 1 || (ends l m x.name).2 != 1) ⟨5, i, k⟩ := by rw [itemF, hD, itemK]; simp [e]
  rw [hI]
  refine FnL.of_eC (own := []) itL [0] mixed Try.func34 rfl Try.call34 Try.ntmps34 (Nat.le_of_ble_eq_true rfl) Try.results34 ?_
  simp only [ZE,↓reduceIte,pE,pL,pA,pS,pM,pD, hd, e] at dc
  simp (maxSteps := 4000000) only [ZE,↓reduceIte,pE,pL,pA,pS,pM,pD, eFile, eScopes, eIdx, sMp, eScope, mget_s, keyedS, keyOkS, zN,qT,qG,qL,qH,qN,qB,qE,qO,qA,qM, pMap, itL.eq_1, lt_int hi, getD_map hi, hm, lt_int hk, getD_map hk, hx, e]
  refine EFn.p ?_
  simp only [ZE,↓reduceIte,pE,pL,pA,pS,pM,pD, eFile, eScopes, eIdx, sMp, eScope, mget_s, keyedS, keyOkS, zN,qT,qG,qL,qH,qN,qB,qE,qO,qA,qM, pMap, itL.eq_1]
  refine ECall.i dc ?_
  simp only [ZE,↓reduceIte,pE,pL,pA,pS,pM,pD, eFile, eScopes, eIdx, sMp, eScope, mget_s, keyedS, keyOkS, zN,qT,qG,qL,qH,qN,qB,qE,qO,qA,qM, pMap, itL.eq_1, ← List.map_take, Nat.sub_zero, hd']
  have tc := containsFI_c (m.items.take k) 50 (.ptr (eItem x)) (sameDecl x) (fun y _ => item1_c x y)
  have n1 := name_c' x.name.1
  have c1 := containsS_c m.params x.name
  have r1 := report_c l F hF (badName m k x) ⟨1, i, k⟩ (hin 1 rfl)
  have G1 := addIf_in (b := badName m k x) hF (hin 1 rfl)
  obtain ⟨F1, hF1⟩ : ∃ F1, addIf F (badName m k x) ⟨1, i, k⟩ = F1 := ⟨_, rfl⟩
  rw [hF1] at r1 G1 ⊢
  simp only [ZE,↓reduceIte,pE,pL,pA,pS,pM,pD, e] at tc n1 c1
  simp only [ZE,↓reduceIte,pE,pL,pA,pS,pM,pD, eFile, eScopes, eIdx, sMp, eScope, mget_s, keyedS, keyOkS, zN,qT,qG,qL,qH,qN,qB,qE,qO,qA,qM, pMap, itL.eq_1, badName] at r1
  refine ⟨⟨fun y hy => (by obtain ⟨q, _, rfl⟩ := List.mem_map.1 hy; exact eItem_len q), by omega, by omega, by omega⟩, EFn.p ?_⟩
  simp only [ZE,↓reduceIte,pE,pL,pA,pS,pM,pD, eFile, eScopes, eIdx, sMp, eScope, mget_s, keyedS, keyOkS, zN,qT,qG,qL,qH,qN,qB,qE,qO,qA,qM, pMap, itL.eq_1, e]
  refine ECall.i tc ?_
  simp only [ZE,↓reduceIte,pE,pL,pA,pS,pM,pD, eFile, eScopes, eIdx, sMp, eScope, mget_s, keyedS, keyOkS, zN,qT,qG,qL,qH,qN,qB,qE,qO,qA,qM, pMap, itL.eq_1, e]
  refine ⟨by kernel_rfl, ?_⟩
  refine ECallC.i (fun _ => n1) ?_
  simp only [ZE,↓reduceIte,pE,pL,pA,pS,pM,pD, eFile, eScopes, eIdx, sMp, eScope, mget_s, keyedS, keyOkS, zN,qT,qG,qL,qH,qN,qB,qE,qO,qA,qM, pMap, itL.eq_1, e]
  refine ECallC.i (fun _ => c1) ?_
  simp only [ZE,↓reduceIte,pE,pL,pA,pS,pM,pD, eFile, eScopes, eIdx, sMp, eScope, mget_s, keyedS, keyOkS, zN,qT,qG,qL,qH,qN,qB,qE,qO,qA,qM, pMap, itL.eq_1, e]
  refine EFn.g ⟨[(1, 1)], _, _, _, r1, ?_⟩
  simp only [ZE,↓reduceIte,pE,pL,pA,pS,pM,pD, eFile, eScopes, eIdx, sMp, eScope, mget_s, keyedS, keyOkS, zN,qT,qG,qL,qH,qN,qB,qE,qO,qA,qM, pMap, itL.eq_1]
  rintro V ol new ⟨rfl, rfl, rfl⟩
  have r2 := report_c l F1 G1 (malformed x) ⟨2, i, k⟩ (hin 2 rfl)
  have G2 := addIf_in (b := malformed x) G1 (hin 2 rfl)
  have lc := lost_c l (pK (addIf F1 (malformed x) ⟨2, i, k⟩)) (pV (addIf F1 (malformed x) ⟨2, i, k⟩)) (List.range (addIf F1 (malformed x) ⟨2, i, k⟩).length) (addIf F1 (malformed x) ⟨2, i, k⟩).length m x hn
  have r3 := report_c l _ G2 (lost l m x) ⟨3, i, k⟩ (hin 3 rfl)
  have G3 := addIf_in (b := lost l m x) G2 (hin 3 rfl)
  obtain ⟨F3, hF3⟩ : ∃ F3, addIf (addIf F1 (malformed x) ⟨2, i, k⟩) (lost l m x) ⟨3, i, k⟩ = F3 := ⟨_, rfl⟩
  rw [hF3] at r3 G3 ⊢
  have ec := ends_c l (pK F3) (pV F3) (List.range F3.length) F3.length m x.name
  simp only [ZE,↓reduceIte,pE,pL,pA,pS,pM,pD, eFile, eScopes, eIdx, sMp, eScope, mget_s, keyedS, keyOkS, zN,qT,qG,qL,qH,qN,qB,qE,qO,qA,qM, pMap, itL.eq_1, e] at r2 lc r3 ec mc
  try simp only [ZE,↓reduceIte,pE,pL,pA,pS,pM,pD, eFile, eScopes, eIdx, sMp, eScope, mget_s, keyedS, keyOkS, zN,qT,qG,qL,qH,qN,qB,qE,qO,qA,qM, pMap, itL.eq_1, e]
  refine ⟨by kernel_rfl, ?_⟩
  refine ECallC.i (fun _ => mc) ?_
  simp only [ZE,↓reduceIte,pE,pL,pA,pS,pM,pD, eFile, eScopes, eIdx, sMp, eScope, mget_s, keyedS, keyOkS, zN,qT,qG,qL,qH,qN,qB,qE,qO,qA,qM, pMap, itL.eq_1, e]
  refine EFn.g ⟨[(1, 1)], _, _, _, r2, ?_⟩
  simp only [ZE,↓reduceIte,pE,pL,pA,pS,pM,pD, eFile, eScopes, eIdx, sMp, eScope, mget_s, keyedS, keyOkS, zN,qT,qG,qL,qH,qN,qB,qE,qO,qA,qM, pMap, itL.eq_1]
  rintro V ol new ⟨rfl, rfl, rfl⟩
  simp only [ZE,↓reduceIte,pE,pL,pA,pS,pM,pD, eFile, eScopes, eIdx, sMp, eScope, mget_s, keyedS, keyOkS, zN,qT,qG,qL,qH,qN,qB,qE,qO,qA,qM, pMap, itL.eq_1, e]
  refine ⟨by kernel_rfl, ?_⟩
  refine ECallC.i (fun _ => lc) ?_
  simp only [ZE,↓reduceIte,pE,pL,pA,pS,pM,pD, eFile, eScopes, eIdx, sMp, eScope, mget_s, keyedS, keyOkS, zN,qT,qG,qL,qH,qN,qB,qE,qO,qA,qM, pMap, itL.eq_1, e]
  refine EFn.g ⟨[(1, 1)], _, _, _, r3, ?_⟩
  simp only [ZE,↓reduceIte,pE,pL,pA,pS,pM,pD, eFile, eScopes, eIdx, sMp, eScope, mget_s, keyedS, keyOkS, zN,qT,qG,qL,qH,qN,qB,qE,qO,qA,qM, pMap, itL.eq_1]
  rintro V ol new ⟨rfl, rfl, rfl⟩
  simp only [ZE,↓reduceIte,pE,pL,pA,pS,pM,pD, eFile, eScopes, eIdx, sMp, eScope, mget_s, keyedS, keyOkS, zN,qT,qG,qL,qH,qN,qB,qE,qO,qA,qM, pMap, itL.eq_1, e]
  refine EFn.p ?_
  simp only [ZE,↓reduceIte,pE,pL,pA,pS,pM,pD, eFile, eScopes, eIdx, sMp, eScope, mget_s, keyedS, keyOkS, zN,qT,qG,qL,qH,qN,qB,qE,qO,qA,qM, pMap, itL.eq_1, e]
  refine ECall.i ec ?_
  simp only [ZE,↓reduceIte,pE,pL,pA,pS,pM,pD, eFile, eScopes, eIdx, sMp, eScope, mget_s, keyedS, keyOkS, zN,qT,qG,qL,qH,qN,qB,qE,qO,qA,qM, pMap, itL.eq_1, e]
  have r4 := report_c l F3 G3 ((ends l m x.name).1 != 1 || (ends l m x.name).2 != 1) ⟨5, i, k⟩ (hin 5 rfl)
  simp only [ZE,↓reduceIte,pE,pL,pA,pS,pM,pD, eFile, eScopes, eIdx, sMp, eScope, mget_s, keyedS, keyOkS, zN,qT,qG,qL,qH,qN,qB,qE,qO,qA,qM, pMap, itL.eq_1] at r4
  refine EFn.g ⟨[(1, 1)], _, _, _, r4, ?_⟩
  simp only [ZE,↓reduceIte,pE,pL,pA,pS,pM,pD, eFile, eScopes, eIdx, sMp, eScope, mget_s, keyedS, keyOkS, zN,qT,qG,qL,qH,qN,qB,qE,qO,qA,qM, pMap, itL.eq_1]
  rintro V ol new ⟨rfl, rfl, rfl⟩
  simp only [ZE,↓reduceIte,pE,pL,pA,pS,pM,pD, eFile, eScopes, eIdx, sMp, eScope, mget_s, keyedS, keyOkS, zN,qT,qG,qL,qH,qN,qB,qE,qO,qA,qM, pMap, itL.eq_1]
  refine ⟨[3, 6, 7], [], ?_⟩
  simp only [ZE,↓reduceIte,pE,pL,pA,pS,pM,pD]
 have n3 := e
 by_cases e : x.kind.1 = 9
 ·have hd : declares x.kind.1 = true := by rw [e]; rfl
  have hd' : declares 9 = true := rfl
  have hD : itemD i k m x F = addIf F (badName m k x) ⟨1, i, k⟩ := if_pos hd
  have hI : itemF l i k m x F = addIf (addIf (addIf (addIf F (badName m k x) ⟨1, i, k⟩) (malformed x) ⟨2, i, k⟩) (lost l m x) ⟨3, i, k⟩) (misfit l x) ⟨6, i, k⟩ := by rw [itemF, hD, itemK]; simp [e]
  rw [hI]
  refine FnL.of_eC (own := []) itL [0] mixed Try.func34 rfl Try.call34 Try.ntmps34 (Nat.le_of_ble_eq_true rfl) Try.results34 ?_
  simp only [ZE,↓reduceIte,pE,pL,pA,pS,pM,pD, hd, e] at dc
  simp (maxSteps := 4000000) only [ZE,↓reduceIte,pE,pL,pA,pS,pM,pD, eFile, eScopes, eIdx, sMp, eScope, mget_s, keyedS, keyOkS, zN,qT,qG,qL,qH,qN,qB,qE,qO,qA,qM, pMap, itL.eq_1, lt_int hi, getD_map hi, hm, lt_int hk, getD_map hk, hx, e]
  refine EFn.p ?_
  simp only [ZE,↓reduceIte,pE,pL,pA,pS,pM,pD, eFile, eScopes, eIdx, sMp, eScope, mget_s, keyedS, keyOkS, zN,qT,qG,qL,qH,qN,qB,qE,qO,qA,qM, pMap, itL.eq_1]
  refine ECall.i dc ?_
  simp only [ZE,↓reduceIte,pE,pL,pA,pS,pM,pD, eFile, eScopes, eIdx, sMp, eScope, mget_s, keyedS, keyOkS, zN,qT,qG,qL,qH,qN,qB,qE,qO,qA,qM, pMap, itL.eq_1, ← List.map_take, Nat.sub_zero, hd']
  have tc := containsFI_c (m.items.take k) 50 (.ptr (eItem x)) (sameDecl x) (fun y _ => item1_c x y)
  have n1 := name_c' x.name.1
  have c1 := containsS_c m.params x.name
  have r1 := report_c l F hF (badName m k x) ⟨1, i, k⟩ (hin 1 rfl)
  have G1 := addIf_in (b := badName m k x) hF (hin 1 rfl)
  obtain ⟨F1, hF1⟩ : ∃ F1, addIf F (badName m k x) ⟨1, i, k⟩ = F1 := ⟨_, rfl⟩
  rw [hF1] at r1 G1 ⊢
  simp only [ZE,↓reduceIte,pE,pL,pA,pS,pM,pD, e] at tc n1 c1
  simp only [ZE,↓reduceIte,pE,pL,pA,pS,pM,pD, eFile, eScopes, eIdx, sMp, eScope, mget_s, keyedS, keyOkS, zN,qT,qG,qL,qH,qN,qB,qE,qO,qA,qM, pMap, itL.eq_1, badName] at r1
  refine ⟨⟨fun y hy => (by obtain ⟨q, _, rfl⟩ := List.mem_map.1 hy; exact eItem_len q), by omega, by omega, by omega⟩, EFn.p ?_⟩
  simp only [ZE,↓reduceIte,pE,pL,pA,pS,pM,pD, eFile, eScopes, eIdx, sMp, eScope, mget_s, keyedS, keyOkS, zN,qT,qG,qL,qH,qN,qB,qE,qO,qA,qM, pMap, itL.eq_1, e]
  refine ECall.i tc ?_
  simp only [ZE,↓reduceIte,pE,pL,pA,pS,pM,pD, eFile, eScopes, eIdx, sMp, eScope, mget_s, keyedS, keyOkS, zN,qT,qG,qL,qH,qN,qB,qE,qO,qA,qM, pMap, itL.eq_1, e]
  refine ⟨by kernel_rfl, ?_⟩
  refine ECallC.i (fun _ => n1) ?_
  simp only [ZE,↓reduceIte,pE,pL,pA,pS,pM,pD, eFile, eScopes, eIdx, sMp, eScope, mget_s, keyedS, keyOkS, zN,qT,qG,qL,qH,qN,qB,qE,qO,qA,qM, pMap, itL.eq_1, e]
  refine ECallC.i (fun _ => c1) ?_
  simp only [ZE,↓reduceIte,pE,pL,pA,pS,pM,pD, eFile, eScopes, eIdx, sMp, eScope, mget_s, keyedS, keyOkS, zN,qT,qG,qL,qH,qN,qB,qE,qO,qA,qM, pMap, itL.eq_1, e]
  refine EFn.g ⟨[(1, 1)], _, _, _, r1, ?_⟩
  simp only [ZE,↓reduceIte,pE,pL,pA,pS,pM,pD, eFile, eScopes, eIdx, sMp, eScope, mget_s, keyedS, keyOkS, zN,qT,qG,qL,qH,qN,qB,qE,qO,qA,qM, pMap, itL.eq_1]
  rintro V ol new ⟨rfl, rfl, rfl⟩
  have r2 := report_c l F1 G1 (malformed x) ⟨2, i, k⟩ (hin 2 rfl)
  have G2 := addIf_in (b := malformed x) G1 (hin 2 rfl)
  have lc := lost_c l (pK (addIf F1 (malformed x) ⟨2, i, k⟩)) (pV (addIf F1 (malformed x) ⟨2, i, k⟩)) (List.range (addIf F1 (malformed x) ⟨2, i, k⟩).length) (addIf F1 (malformed x) ⟨2, i, k⟩).length m x hn
  have r3 := report_c l _ G2 (lost l m x) ⟨3, i, k⟩ (hin 3 rfl)
  have G3 := addIf_in (b := lost l m x) G2 (hin 3 rfl)
  obtain ⟨F3, hF3⟩ : ∃ F3, addIf (addIf F1 (malformed x) ⟨2, i, k⟩) (lost l m x) ⟨3, i, k⟩ = F3 := ⟨_, rfl⟩
  rw [hF3] at r3 G3 ⊢
  have ec := ends_c l (pK F3) (pV F3) (List.range F3.length) F3.length m x.name
  simp only [ZE,↓reduceIte,pE,pL,pA,pS,pM,pD, eFile, eScopes, eIdx, sMp, eScope, mget_s, keyedS, keyOkS, zN,qT,qG,qL,qH,qN,qB,qE,qO,qA,qM, pMap, itL.eq_1, e] at r2 lc r3 ec mc
  try simp only [ZE,↓reduceIte,pE,pL,pA,pS,pM,pD, eFile, eScopes, eIdx, sMp, eScope, mget_s, keyedS, keyOkS, zN,qT,qG,qL,qH,qN,qB,qE,qO,qA,qM, pMap, itL.eq_1, e]
  refine ⟨by kernel_rfl, ?_⟩
  refine ECallC.i (fun _ => mc) ?_
  simp only [ZE,↓reduceIte,pE,pL,pA,pS,pM,pD, eFile, eScopes, eIdx, sMp, eScope, mget_s, keyedS, keyOkS, zN,qT,qG,qL,qH,qN,qB,qE,qO,qA,qM, pMap, itL.eq_1, e]
  refine EFn.g ⟨[(1, 1)], _, _, _, r2, ?_⟩
  simp only [ZE,↓reduceIte,pE,pL,pA,pS,pM,pD, eFile, eScopes, eIdx, sMp, eScope, mget_s, keyedS, keyOkS, zN,qT,qG,qL,qH,qN,qB,qE,qO,qA,qM, pMap, itL.eq_1]
  rintro V ol new ⟨rfl, rfl, rfl⟩
  simp only [ZE,↓reduceIte,pE,pL,pA,pS,pM,pD, eFile, eScopes, eIdx, sMp, eScope, mget_s, keyedS, keyOkS, zN,qT,qG,qL,qH,qN,qB,qE,qO,qA,qM, pMap, itL.eq_1, e]
  refine ⟨by kernel_rfl, ?_⟩
  refine ECallC.i (fun _ => lc) ?_
  simp only [ZE,↓reduceIte,pE,pL,pA,pS,pM,pD, eFile, eScopes, eIdx, sMp, eScope, mget_s, keyedS, keyOkS, zN,qT,qG,qL,qH,qN,qB,qE,qO,qA,qM, pMap, itL.eq_1, e]
  refine EFn.g ⟨[(1, 1)], _, _, _, r3, ?_⟩
  simp only [ZE,↓reduceIte,pE,pL,pA,pS,pM,pD, eFile, eScopes, eIdx, sMp, eScope, mget_s, keyedS, keyOkS, zN,qT,qG,qL,qH,qN,qB,qE,qO,qA,qM, pMap, itL.eq_1]
  rintro V ol new ⟨rfl, rfl, rfl⟩
  simp only [ZE,↓reduceIte,pE,pL,pA,pS,pM,pD, eFile, eScopes, eIdx, sMp, eScope, mget_s, keyedS, keyOkS, zN,qT,qG,qL,qH,qN,qB,qE,qO,qA,qM, pMap, itL.eq_1, e]
  refine EFn.p ?_
  simp only [ZE,↓reduceIte,pE,pL,pA,pS,pM,pD, eFile, eScopes, eIdx, sMp, eScope, mget_s, keyedS, keyOkS, zN,qT,qG,qL,qH,qN,qB,qE,qO,qA,qM, pMap, itL.eq_1, e]
  refine ECall.i ec ?_
  simp only [ZE,↓reduceIte,pE,pL,pA,pS,pM,pD, eFile, eScopes, eIdx, sMp, eScope, mget_s, keyedS, keyOkS, zN,qT,qG,qL,qH,qN,qB,qE,qO,qA,qM, pMap, itL.eq_1, e]
  have r4 := report_c l F3 G3 (misfit l x) ⟨6, i, k⟩ (hin 6 rfl)
  simp only [ZE,↓reduceIte,pE,pL,pA,pS,pM,pD, eFile, eScopes, eIdx, sMp, eScope, mget_s, keyedS, keyOkS, zN,qT,qG,qL,qH,qN,qB,qE,qO,qA,qM, pMap, itL.eq_1] at r4
  have pc := misfit_c l (pK F3) (pV F3) (List.range F3.length) F3.length x
  simp only [ZE,↓reduceIte,pE,pL,pA,pS,pM,pD, eFile, eScopes, eIdx, sMp, eScope, mget_s, keyedS, keyOkS, zN,qT,qG,qL,qH,qN,qB,qE,qO,qA,qM, pMap, itL.eq_1, e] at pc
  refine ⟨by kernel_rfl, ECallC.i (fun _ => pc) ?_⟩
  simp only [ZE,↓reduceIte,pE,pL,pA,pS,pM,pD, eFile, eScopes, eIdx, sMp, eScope, mget_s, keyedS, keyOkS, zN,qT,qG,qL,qH,qN,qB,qE,qO,qA,qM, pMap, itL.eq_1]
  refine EFn.g ⟨[(1, 1)], _, _, _, r4, ?_⟩
  simp only [ZE,↓reduceIte,pE,pL,pA,pS,pM,pD, eFile, eScopes, eIdx, sMp, eScope, mget_s, keyedS, keyOkS, zN,qT,qG,qL,qH,qN,qB,qE,qO,qA,qM, pMap, itL.eq_1]
  rintro V ol new ⟨rfl, rfl, rfl⟩
  simp only [ZE,↓reduceIte,pE,pL,pA,pS,pM,pD, eFile, eScopes, eIdx, sMp, eScope, mget_s, keyedS, keyOkS, zN,qT,qG,qL,qH,qN,qB,qE,qO,qA,qM, pMap, itL.eq_1]
  refine ⟨[3, 6, 7], [], ?_⟩
  simp only [ZE,↓reduceIte,pE,pL,pA,pS,pM,pD]
 have n9 := e
 by_cases e : x.kind.1 = 7
 ·have hd : declares x.kind.1 = false := by rw [e]; rfl
  have hd' : declares 7 = false := rfl
  have hD : itemD i k m x F = F := if_neg (by rw [hd]; simp)
  have hI : itemF l i k m x F = addIf (addIf (addIf F (malformed x) ⟨2, i, k⟩) (lost l m x) ⟨3, i, k⟩) (early m x) ⟨8, i, k⟩ := by rw [itemF, hD, itemK]; simp [e]
  rw [hI]
  refine FnL.of_eC (own := []) itL [0] mixed Try.func34 rfl Try.call34 Try.ntmps34 (Nat.le_of_ble_eq_true rfl) Try.results34 ?_
  simp only [ZE,↓reduceIte,pE,pL,pA,pS,pM,pD, hd, e] at dc
  simp (maxSteps := 4000000) only [ZE,↓reduceIte,pE,pL,pA,pS,pM,pD, eFile, eScopes, eIdx, sMp, eScope, mget_s, keyedS, keyOkS, zN,qT,qG,qL,qH,qN,qB,qE,qO,qA,qM, pMap, itL.eq_1, lt_int hi, getD_map hi, hm, lt_int hk, getD_map hk, hx, e]
  refine EFn.p ?_
  simp only [ZE,↓reduceIte,pE,pL,pA,pS,pM,pD, eFile, eScopes, eIdx, sMp, eScope, mget_s, keyedS, keyOkS, zN,qT,qG,qL,qH,qN,qB,qE,qO,qA,qM, pMap, itL.eq_1]
  refine ECall.i dc ?_
  simp only [ZE,↓reduceIte,pE,pL,pA,pS,pM,pD, eFile, eScopes, eIdx, sMp, eScope, mget_s, keyedS, keyOkS, zN,qT,qG,qL,qH,qN,qB,qE,qO,qA,qM, pMap, itL.eq_1, hd']
  obtain ⟨F1, hF1⟩ : ∃ F1, F = F1 := ⟨_, rfl⟩
  have G1 := hF
  rw [hF1] at G1 ⊢
  have r2 := report_c l F1 G1 (malformed x) ⟨2, i, k⟩ (hin 2 rfl)
  have G2 := addIf_in (b := malformed x) G1 (hin 2 rfl)
  have lc := lost_c l (pK (addIf F1 (malformed x) ⟨2, i, k⟩)) (pV (addIf F1 (malformed x) ⟨2, i, k⟩)) (List.range (addIf F1 (malformed x) ⟨2, i, k⟩).length) (addIf F1 (malformed x) ⟨2, i, k⟩).length m x hn
  have r3 := report_c l _ G2 (lost l m x) ⟨3, i, k⟩ (hin 3 rfl)
  have G3 := addIf_in (b := lost l m x) G2 (hin 3 rfl)
  obtain ⟨F3, hF3⟩ : ∃ F3, addIf (addIf F1 (malformed x) ⟨2, i, k⟩) (lost l m x) ⟨3, i, k⟩ = F3 := ⟨_, rfl⟩
  rw [hF3] at r3 G3 ⊢
  have ec := ends_c l (pK F3) (pV F3) (List.range F3.length) F3.length m x.name
  simp only [ZE,↓reduceIte,pE,pL,pA,pS,pM,pD, eFile, eScopes, eIdx, sMp, eScope, mget_s, keyedS, keyOkS, zN,qT,qG,qL,qH,qN,qB,qE,qO,qA,qM, pMap, itL.eq_1, e] at r2 lc r3 ec mc
  try simp only [ZE,↓reduceIte,pE,pL,pA,pS,pM,pD, eFile, eScopes, eIdx, sMp, eScope, mget_s, keyedS, keyOkS, zN,qT,qG,qL,qH,qN,qB,qE,qO,qA,qM, pMap, itL.eq_1, e]
  refine ⟨by kernel_rfl, ?_⟩
  refine ECallC.i (fun _ => mc) ?_
  simp only [ZE,↓reduceIte,pE,pL,pA,pS,pM,pD, eFile, eScopes, eIdx, sMp, eScope, mget_s, keyedS, keyOkS, zN,qT,qG,qL,qH,qN,qB,qE,qO,qA,qM, pMap, itL.eq_1, e]
  refine EFn.g ⟨[(1, 1)], _, _, _, r2, ?_⟩
  simp only [ZE,↓reduceIte,pE,pL,pA,pS,pM,pD, eFile, eScopes, eIdx, sMp, eScope, mget_s, keyedS, keyOkS, zN,qT,qG,qL,qH,qN,qB,qE,qO,qA,qM, pMap, itL.eq_1]
  rintro V ol new ⟨rfl, rfl, rfl⟩
  simp only [ZE,↓reduceIte,pE,pL,pA,pS,pM,pD, eFile, eScopes, eIdx, sMp, eScope, mget_s, keyedS, keyOkS, zN,qT,qG,qL,qH,qN,qB,qE,qO,qA,qM, pMap, itL.eq_1, e]
  refine ⟨by kernel_rfl, ?_⟩
  refine ECallC.i (fun _ => lc) ?_
  simp only [ZE,↓reduceIte,pE,pL,pA,pS,pM,pD, eFile, eScopes, eIdx, sMp, eScope, mget_s, keyedS, keyOkS, zN,qT,qG,qL,qH,qN,qB,qE,qO,qA,qM, pMap, itL.eq_1, e]
  refine EFn.g ⟨[(1, 1)], _, _, _, r3, ?_⟩
  simp only [ZE,↓reduceIte,pE,pL,pA,pS,pM,pD, eFile, eScopes, eIdx, sMp, eScope, mget_s, keyedS, keyOkS, zN,qT,qG,qL,qH,qN,qB,qE,qO,qA,qM, pMap, itL.eq_1]
  rintro V ol new ⟨rfl, rfl, rfl⟩
  simp only [ZE,↓reduceIte,pE,pL,pA,pS,pM,pD, eFile, eScopes, eIdx, sMp, eScope, mget_s, keyedS, keyOkS, zN,qT,qG,qL,qH,qN,qB,qE,qO,qA,qM, pMap, itL.eq_1, e]
  refine EFn.p ?_
  simp only [ZE,↓reduceIte,pE,pL,pA,pS,pM,pD, eFile, eScopes, eIdx, sMp, eScope, mget_s, keyedS, keyOkS, zN,qT,qG,qL,qH,qN,qB,qE,qO,qA,qM, pMap, itL.eq_1, e]
  refine ECall.i ec ?_
  simp only [ZE,↓reduceIte,pE,pL,pA,pS,pM,pD, eFile, eScopes, eIdx, sMp, eScope, mget_s, keyedS, keyOkS, zN,qT,qG,qL,qH,qN,qB,qE,qO,qA,qM, pMap, itL.eq_1, e]
  have r4 := report_c l F3 G3 (early m x) ⟨8, i, k⟩ (hin 8 rfl)
  simp only [ZE,↓reduceIte,pE,pL,pA,pS,pM,pD, eFile, eScopes, eIdx, sMp, eScope, mget_s, keyedS, keyOkS, zN,qT,qG,qL,qH,qN,qB,qE,qO,qA,qM, pMap, itL.eq_1] at r4
  have pc := early_c m x
  simp only [ZE,↓reduceIte,pE,pL,pA,pS,pM,pD, eFile, eScopes, eIdx, sMp, eScope, mget_s, keyedS, keyOkS, zN,qT,qG,qL,qH,qN,qB,qE,qO,qA,qM, pMap, itL.eq_1, e] at pc
  refine ⟨by kernel_rfl, ECallC.i (fun _ => pc) ?_⟩
  simp only [ZE,↓reduceIte,pE,pL,pA,pS,pM,pD, eFile, eScopes, eIdx, sMp, eScope, mget_s, keyedS, keyOkS, zN,qT,qG,qL,qH,qN,qB,qE,qO,qA,qM, pMap, itL.eq_1]
  refine EFn.g ⟨[(1, 1)], _, _, _, r4, ?_⟩
  simp only [ZE,↓reduceIte,pE,pL,pA,pS,pM,pD, eFile, eScopes, eIdx, sMp, eScope, mget_s, keyedS, keyOkS, zN,qT,qG,qL,qH,qN,qB,qE,qO,qA,qM, pMap, itL.eq_1]
  rintro V ol new ⟨rfl, rfl, rfl⟩
  simp only [ZE,↓reduceIte,pE,pL,pA,pS,pM,pD, eFile, eScopes, eIdx, sMp, eScope, mget_s, keyedS, keyOkS, zN,qT,qG,qL,qH,qN,qB,qE,qO,qA,qM, pMap, itL.eq_1]
  refine ⟨[3, 6, 7], [], ?_⟩
  simp only [ZE,↓reduceIte,pE,pL,pA,pS,pM,pD]
 have n7 := e
 have e5 : (x.kind.1 == 5) = false := by simpa using n5
 have e1 : (x.kind.1 == 1) = false := by simpa using n1
 have e2 : (x.kind.1 == 2) = false := by simpa using n2
 have e3 : (x.kind.1 == 3) = false := by simpa using n3
 have e9 : (x.kind.1 == 9) = false := by simpa using n9
 have e7 : (x.kind.1 == 7) = false := by simpa using n7
 have hK : ∀ F, itemK l i k m x F = F := fun F => by rw [itemK]; simp [n5, n1, n2, n3, n9, n7]
 cases hd : declares x.kind.1 with
 | true =>
  have hD : itemD i k m x F = addIf F (badName m k x) ⟨1, i, k⟩ := if_pos hd
  rw [itemF, hK, hD]
  refine FnL.of_eC (own := []) itL [0] mixed Try.func34 rfl Try.call34 Try.ntmps34 (Nat.le_of_ble_eq_true rfl) Try.results34 ?_
  simp only [ZE,↓reduceIte,pE,pL,pA,pS,pM,pD, hd] at dc
  simp (maxSteps := 4000000) only [ZE,↓reduceIte,pE,pL,pA,pS,pM,pD, eFile, eScopes, eIdx, sMp, eScope, mget_s, keyedS, keyOkS, zN,qT,qG,qL,qH,qN,qB,qE,qO,qA,qM, pMap, itL.eq_1, lt_int hi, getD_map hi, hm, lt_int hk, getD_map hk, hx]
  refine EFn.p ?_
  simp only [ZE,↓reduceIte,pE,pL,pA,pS,pM,pD, eFile, eScopes, eIdx, sMp, eScope, mget_s, keyedS, keyOkS, zN,qT,qG,qL,qH,qN,qB,qE,qO,qA,qM, pMap, itL.eq_1]
  refine ECall.i dc ?_
  simp only [ZE,↓reduceIte,pE,pL,pA,pS,pM,pD, eFile, eScopes, eIdx, sMp, eScope, mget_s, keyedS, keyOkS, zN,qT,qG,qL,qH,qN,qB,qE,qO,qA,qM, pMap, itL.eq_1, ← List.map_take, Nat.sub_zero]
  have tc := containsFI_c (m.items.take k) 50 (.ptr (eItem x)) (sameDecl x) (fun y _ => item1_c x y)
  have n1 := name_c' x.name.1
  have c1 := containsS_c m.params x.name
  have r1 := report_c l F hF (badName m k x) ⟨1, i, k⟩ (hin 1 rfl)
  have G1 := addIf_in (b := badName m k x) hF (hin 1 rfl)
  obtain ⟨F1, hF1⟩ : ∃ F1, addIf F (badName m k x) ⟨1, i, k⟩ = F1 := ⟨_, rfl⟩
  rw [hF1] at r1 G1 ⊢
  simp only [ZE,↓reduceIte,pE,pL,pA,pS,pM,pD, hd] at tc n1 c1
  simp only [ZE,↓reduceIte,pE,pL,pA,pS,pM,pD, eFile, eScopes, eIdx, sMp, eScope, mget_s, keyedS, keyOkS, zN,qT,qG,qL,qH,qN,qB,qE,qO,qA,qM, pMap, itL.eq_1, badName] at r1
  refine ⟨⟨fun y hy => (by obtain ⟨q, _, rfl⟩ := List.mem_map.1 hy; exact eItem_len q), by omega, by omega, by omega⟩, EFn.p ?_⟩
  simp only [ZE,↓reduceIte,pE,pL,pA,pS,pM,pD, eFile, eScopes, eIdx, sMp, eScope, mget_s, keyedS, keyOkS, zN,qT,qG,qL,qH,qN,qB,qE,qO,qA,qM, pMap, itL.eq_1, hd]
  refine ECall.i tc ?_
  simp only [ZE,↓reduceIte,pE,pL,pA,pS,pM,pD, eFile, eScopes, eIdx, sMp, eScope, mget_s, keyedS, keyOkS, zN,qT,qG,qL,qH,qN,qB,qE,qO,qA,qM, pMap, itL.eq_1, hd]
  refine ⟨by kernel_rfl, ?_⟩
  refine ECallC.i (fun _ => n1) ?_
  simp only [ZE,↓reduceIte,pE,pL,pA,pS,pM,pD, eFile, eScopes, eIdx, sMp, eScope, mget_s, keyedS, keyOkS, zN,qT,qG,qL,qH,qN,qB,qE,qO,qA,qM, pMap, itL.eq_1, hd]
  refine ECallC.i (fun _ => c1) ?_
  simp only [ZE,↓reduceIte,pE,pL,pA,pS,pM,pD, eFile, eScopes, eIdx, sMp, eScope, mget_s, keyedS, keyOkS, zN,qT,qG,qL,qH,qN,qB,qE,qO,qA,qM, pMap, itL.eq_1, hd]
  refine EFn.g ⟨[(1, 1)], _, _, _, r1, ?_⟩
  simp only [ZE,↓reduceIte,pE,pL,pA,pS,pM,pD, eFile, eScopes, eIdx, sMp, eScope, mget_s, keyedS, keyOkS, zN,qT,qG,qL,qH,qN,qB,qE,qO,qA,qM, pMap, itL.eq_1]
  rintro V ol new ⟨rfl, rfl, rfl⟩
  have r2 := report_c l F1 G1 (malformed x) ⟨2, i, k⟩ (hin 2 rfl)
  have G2 := addIf_in (b := malformed x) G1 (hin 2 rfl)
  have lc := lost_c l (pK (addIf F1 (malformed x) ⟨2, i, k⟩)) (pV (addIf F1 (malformed x) ⟨2, i, k⟩)) (List.range (addIf F1 (malformed x) ⟨2, i, k⟩).length) (addIf F1 (malformed x) ⟨2, i, k⟩).length m x hn
  have r3 := report_c l _ G2 (lost l m x) ⟨3, i, k⟩ (hin 3 rfl)
  have G3 := addIf_in (b := lost l m x) G2 (hin 3 rfl)
  obtain ⟨F3, hF3⟩ : ∃ F3, addIf (addIf F1 (malformed x) ⟨2, i, k⟩) (lost l m x) ⟨3, i, k⟩ = F3 := ⟨_, rfl⟩
  rw [hF3] at r3 G3 ⊢
  have ec := ends_c l (pK F3) (pV F3) (List.range F3.length) F3.length m x.name
  simp only [ZE,↓reduceIte,pE,pL,pA,pS,pM,pD, eFile, eScopes, eIdx, sMp, eScope, mget_s, keyedS, keyOkS, zN,qT,qG,qL,qH,qN,qB,qE,qO,qA,qM, pMap, itL.eq_1, e5, e1, e2, e3, e9, e7] at r2 lc r3 ec mc
  try simp only [ZE,↓reduceIte,pE,pL,pA,pS,pM,pD, eFile, eScopes, eIdx, sMp, eScope, mget_s, keyedS, keyOkS, zN,qT,qG,qL,qH,qN,qB,qE,qO,qA,qM, pMap, itL.eq_1, e5, e1, e2, e3, e9, e7]
  refine ⟨by kernel_rfl, ?_⟩
  refine ECallC.i (fun _ => mc) ?_
  simp only [ZE,↓reduceIte,pE,pL,pA,pS,pM,pD, eFile, eScopes, eIdx, sMp, eScope, mget_s, keyedS, keyOkS, zN,qT,qG,qL,qH,qN,qB,qE,qO,qA,qM, pMap, itL.eq_1, e5, e1, e2, e3, e9, e7]
  refine EFn.g ⟨[(1, 1)], _, _, _, r2, ?_⟩
  simp only [ZE,↓reduceIte,pE,pL,pA,pS,pM,pD, eFile, eScopes, eIdx, sMp, eScope, mget_s, keyedS, keyOkS, zN,qT,qG,qL,qH,qN,qB,qE,qO,qA,qM, pMap, itL.eq_1]
  rintro V ol new ⟨rfl, rfl, rfl⟩
  simp only [ZE,↓reduceIte,pE,pL,pA,pS,pM,pD, eFile, eScopes, eIdx, sMp, eScope, mget_s, keyedS, keyOkS, zN,qT,qG,qL,qH,qN,qB,qE,qO,qA,qM, pMap, itL.eq_1, e5, e1, e2, e3, e9, e7]
  refine ⟨by kernel_rfl, ?_⟩
  refine ECallC.i (fun _ => lc) ?_
  simp only [ZE,↓reduceIte,pE,pL,pA,pS,pM,pD, eFile, eScopes, eIdx, sMp, eScope, mget_s, keyedS, keyOkS, zN,qT,qG,qL,qH,qN,qB,qE,qO,qA,qM, pMap, itL.eq_1, e5, e1, e2, e3, e9, e7]
  refine EFn.g ⟨[(1, 1)], _, _, _, r3, ?_⟩
  simp only [ZE,↓reduceIte,pE,pL,pA,pS,pM,pD, eFile, eScopes, eIdx, sMp, eScope, mget_s, keyedS, keyOkS, zN,qT,qG,qL,qH,qN,qB,qE,qO,qA,qM, pMap, itL.eq_1]
  rintro V ol new ⟨rfl, rfl, rfl⟩
  simp only [ZE,↓reduceIte,pE,pL,pA,pS,pM,pD, eFile, eScopes, eIdx, sMp, eScope, mget_s, keyedS, keyOkS, zN,qT,qG,qL,qH,qN,qB,qE,qO,qA,qM, pMap, itL.eq_1, e5, e1, e2, e3, e9, e7]
  refine EFn.p ?_
  simp only [ZE,↓reduceIte,pE,pL,pA,pS,pM,pD, eFile, eScopes, eIdx, sMp, eScope, mget_s, keyedS, keyOkS, zN,qT,qG,qL,qH,qN,qB,qE,qO,qA,qM, pMap, itL.eq_1, e5, e1, e2, e3, e9, e7]
  refine ECall.i ec ?_
  simp only [ZE,↓reduceIte,pE,pL,pA,pS,pM,pD, eFile, eScopes, eIdx, sMp, eScope, mget_s, keyedS, keyOkS, zN,qT,qG,qL,qH,qN,qB,qE,qO,qA,qM, pMap, itL.eq_1, e5, e1, e2, e3, e9, e7]
  refine ⟨[3, 6, 7], [], ?_⟩
  simp only [ZE,↓reduceIte,pE,pL,pA,pS,pM,pD]
 | false =>
  have hD : itemD i k m x F = F := if_neg (by rw [hd]; simp)
  rw [itemF, hK, hD]
  refine FnL.of_eC (own := []) itL [0] mixed Try.func34 rfl Try.call34 Try.ntmps34 (Nat.le_of_ble_eq_true rfl) Try.results34 ?_
  simp only [ZE,↓reduceIte,pE,pL,pA,pS,pM,pD, hd] at dc
  simp (maxSteps := 4000000) only [ZE,↓reduceIte,pE,pL,pA,pS,pM,pD, eFile, eScopes, eIdx, sMp, eScope, mget_s, keyedS, keyOkS, zN,qT,qG,qL,qH,qN,qB,qE,qO,qA,qM, pMap, itL.eq_1, lt_int hi, getD_map hi, hm, lt_int hk, getD_map hk, hx]
  refine EFn.p ?_
  simp only [ZE,↓reduceIte,pE,pL,pA,pS,pM,pD, eFile, eScopes, eIdx, sMp, eScope, mget_s, keyedS, keyOkS, zN,qT,qG,qL,qH,qN,qB,qE,qO,qA,qM, pMap, itL.eq_1]
  refine ECall.i dc ?_
  simp only [ZE,↓reduceIte,pE,pL,pA,pS,pM,pD, eFile, eScopes, eIdx, sMp, eScope, mget_s, keyedS, keyOkS, zN,qT,qG,qL,qH,qN,qB,qE,qO,qA,qM, pMap, itL.eq_1]
  obtain ⟨F1, hF1⟩ : ∃ F1, F = F1 := ⟨_, rfl⟩
  have G1 := hF
  rw [hF1] at G1 ⊢
  have r2 := report_c l F1 G1 (malformed x) ⟨2, i, k⟩ (hin 2 rfl)
  have G2 := addIf_in (b := malformed x) G1 (hin 2 rfl)
  have lc := lost_c l (pK (addIf F1 (malformed x) ⟨2, i, k⟩)) (pV (addIf F1 (malformed x) ⟨2, i, k⟩)) (List.range (addIf F1 (malformed x) ⟨2, i, k⟩).length) (addIf F1 (malformed x) ⟨2, i, k⟩).length m x hn
  have r3 := report_c l _ G2 (lost l m x) ⟨3, i, k⟩ (hin 3 rfl)
  have G3 := addIf_in (b := lost l m x) G2 (hin 3 rfl)
  obtain ⟨F3, hF3⟩ : ∃ F3, addIf (addIf F1 (malformed x) ⟨2, i, k⟩) (lost l m x) ⟨3, i, k⟩ = F3 := ⟨_, rfl⟩
  rw [hF3] at r3 G3 ⊢
  have ec := ends_c l (pK F3) (pV F3) (List.range F3.length) F3.length m x.name
  simp only [ZE,↓reduceIte,pE,pL,pA,pS,pM,pD, eFile, eScopes, eIdx, sMp, eScope, mget_s, keyedS, keyOkS, zN,qT,qG,qL,qH,qN,qB,qE,qO,qA,qM, pMap, itL.eq_1, e5, e1, e2, e3, e9, e7] at r2 lc r3 ec mc
  try simp only [ZE,↓reduceIte,pE,pL,pA,pS,pM,pD, eFile, eScopes, eIdx, sMp, eScope, mget_s, keyedS, keyOkS, zN,qT,qG,qL,qH,qN,qB,qE,qO,qA,qM, pMap, itL.eq_1, e5, e1, e2, e3, e9, e7]
  refine ⟨by kernel_rfl, ?_⟩
  refine ECallC.i (fun _ => mc) ?_
  simp only [ZE,↓reduceIte,pE,pL,pA,pS,pM,pD, eFile, eScopes, eIdx, sMp, eScope, mget_s, keyedS, keyOkS, zN,qT,qG,qL,qH,qN,qB,qE,qO,qA,qM, pMap, itL.eq_1, e5, e1, e2, e3, e9, e7]
  refine EFn.g ⟨[(1, 1)], _, _, _, r2, ?_⟩
  simp only [ZE,↓reduceIte,pE,pL,pA,pS,pM,pD, eFile, eScopes, eIdx, sMp, eScope, mget_s, keyedS, keyOkS, zN,qT,qG,qL,qH,qN,qB,qE,qO,qA,qM, pMap, itL.eq_1]
  rintro V ol new ⟨rfl, rfl, rfl⟩
  simp only [ZE,↓reduceIte,pE,pL,pA,pS,pM,pD, eFile, eScopes, eIdx, sMp, eScope, mget_s, keyedS, keyOkS, zN,qT,qG,qL,qH,qN,qB,qE,qO,qA,qM, pMap, itL.eq_1, e5, e1, e2, e3, e9, e7]
  refine ⟨by kernel_rfl, ?_⟩
  refine ECallC.i (fun _ => lc) ?_
  simp only [ZE,↓reduceIte,pE,pL,pA,pS,pM,pD, eFile, eScopes, eIdx, sMp, eScope, mget_s, keyedS, keyOkS, zN,qT,qG,qL,qH,qN,qB,qE,qO,qA,qM, pMap, itL.eq_1, e5, e1, e2, e3, e9, e7]
  refine EFn.g ⟨[(1, 1)], _, _, _, r3, ?_⟩
  simp only [ZE,↓reduceIte,pE,pL,pA,pS,pM,pD, eFile, eScopes, eIdx, sMp, eScope, mget_s, keyedS, keyOkS, zN,qT,qG,qL,qH,qN,qB,qE,qO,qA,qM, pMap, itL.eq_1]
  rintro V ol new ⟨rfl, rfl, rfl⟩
  simp only [ZE,↓reduceIte,pE,pL,pA,pS,pM,pD, eFile, eScopes, eIdx, sMp, eScope, mget_s, keyedS, keyOkS, zN,qT,qG,qL,qH,qN,qB,qE,qO,qA,qM, pMap, itL.eq_1, e5, e1, e2, e3, e9, e7]
  refine EFn.p ?_
  simp only [ZE,↓reduceIte,pE,pL,pA,pS,pM,pD, eFile, eScopes, eIdx, sMp, eScope, mget_s, keyedS, keyOkS, zN,qT,qG,qL,qH,qN,qB,qE,qO,qA,qM, pMap, itL.eq_1, e5, e1, e2, e3, e9, e7]
  refine ECall.i ec ?_
  simp only [ZE,↓reduceIte,pE,pL,pA,pS,pM,pD, eFile, eScopes, eIdx, sMp, eScope, mget_s, keyedS, keyOkS, zN,qT,qG,qL,qH,qN,qB,qE,qO,qA,qM, pMap, itL.eq_1, e5, e1, e2, e3, e9, e7]
  refine ⟨[3, 6, 7], [], ?_⟩
  simp only [ZE,↓reduceIte,pE,pL,pA,pS,pM,pD]
end Go.Proofs.Ytejpmjnefokdoaa

namespace Go.Proofs.Ytejpmjnefokdoaa
open Go.Aw Go.Sort Go.RowKit
def cmpI (x y : Int) : Int := if x < y then -1 else if y < x then 1 else 0
def orI (l : List Int) : Int := (l.find? fun x => x != 0).getD 0
def cmpPos (a b : Problem) : Int := orI [cmpI a.module b.module, cmpI a.item b.item, cmpI a.code b.code]
set_option maxRecDepth 100000
theorem nan_w (x : Int) (w : World) : Calls Try.prog 60 #[.int .i64 x] w fun e w' => e = .returned (.bool false) ∧ w' = w := by
 go_enter Try.func60, Try.ntmps60
 go_wp2
 go_ret
 exact ⟨by simp, rfl⟩
set_option maxHeartbeats 1000000 in
theorem cmp_w (x y : Int) (w : World) : Calls Try.prog 39 #[.int .i64 x, .int .i64 y] w fun e w' => e = .returned (.int .i64 (cmpI x y)) ∧ w' = w := by
 go_enter Try.func39, Try.ntmps39
 go_wp2_with (go_at_call 60; refine (nan_w _ _).mono ?_; rintro e w' ⟨rfl, hw⟩; rw [hw])
 all_goals (go_ret; refine ⟨?_, rfl⟩; unfold cmpI; (repeat' split) <;> first | rfl | (exfalso; omega))
set_option maxHeartbeats 2000000 in
theorem or_w (x y z : Int) (b cap : Nat) (w : World) (h0 : w.cell? ⟨b, 0, none⟩ = some (.int .i64 x)) (h1 : w.cell? ⟨b, 1, none⟩ = some (.int .i64 y)) (h2 : w.cell? ⟨b, 2, none⟩ = some (.int .i64 z)) :
  Calls Try.prog 38 #[.slice (some ⟨b, 0, none⟩) 3 cap] w fun e w' => e = .returned (.int .i64 (orI [x, y, z])) ∧ w' = w := by
 go_enter Try.func38, Try.ntmps38
 go_wp2
 go_rounds 4
 all_goals go_ret
 all_goals refine ⟨?_, rfl⟩
 all_goals simp_all [orI]
theorem two_w (w : World) (o1 o2 : Obj) (W : World) (hW : W = { ((w.alloc o1).alloc o2) with drawn := ((w.alloc o1).alloc o2).drawn + 1 }) :
  W.heap[w.heap.size]? = some o1 ∧ W.heap[w.heap.size + 1]? = some o2 ∧ ∃ q os', W = grow (w.drewN q) os' := by
 subst hW
 refine ⟨?_, ?_, 1, #[o1, o2], ?_⟩
 ·show ((w.alloc o1).alloc o2).heap[w.heap.size]? = _
  exact (Go.RowKit.Below.heap_alloc _ _ _ (by simp)).trans (World.alloc_heap_new w _)
 ·show ((w.alloc o1).alloc o2).heap[w.heap.size + 1]? = _
  have := World.alloc_heap_new (w.alloc o1) o2
  rwa [World.size_alloc] at this
 ·rw [alloc_eq_grow, alloc_eq_grow, grow_grow]; rfl
set_option maxHeartbeats 4000000 in
theorem compare_w (a b : Problem) (w : World) : Calls Try.prog 37 #[.agg #[.int .i64 a.code, .int .i64 a.module, .int .i64 a.item], .agg #[.int .i64 b.code, .int .i64 b.module, .int .i64 b.item]] w fun e w' =>
  e = .returned (.int .i64 (cmpPos a b)) ∧ ∃ q os', w' = grow (w.drewN q) os' := by
 unfold cmpPos
 go_enter Try.func37, Try.ntmps37
 go_wp2
 refine wp_region_still_tail 15 mixed (by kernel_rfl) ?_
 obtain ⟨W, hW⟩ : ∃ W : World, W = { ((w.alloc (.cells #[.int .i64 a.code, .int .i64 a.module, .int .i64 a.item] 42)).alloc (.cells #[.int .i64 b.code, .int .i64 b.module, .int .i64 b.item] 42)) with drawn := ((w.alloc (.cells #[.int .i64 a.code, .int .i64 a.module, .int .i64 a.item] 42)).alloc (.cells #[.int .i64 b.code, .int .i64 b.module, .int .i64 b.item] 42)).drawn + 1 } := ⟨_, rfl⟩
 rw [← hW]
 obtain ⟨c0, c1, hG⟩ := two_w w _ _ W hW
 have a0 : W.cell? ⟨w.heap.size, 0, none⟩ = some (.int .i64 a.code) := by simp [World.cell?, c0]
 have a1 : W.cell? ⟨w.heap.size, 1, none⟩ = some (.int .i64 a.module) := by simp [World.cell?, c0]
 have a2 : W.cell? ⟨w.heap.size, 2, none⟩ = some (.int .i64 a.item) := by simp [World.cell?, c0]
 have b0 : W.cell? ⟨w.heap.size + 1, 0, none⟩ = some (.int .i64 b.code) := by simp [World.cell?, c1]
 have b1 : W.cell? ⟨w.heap.size + 1, 1, none⟩ = some (.int .i64 b.module) := by simp [World.cell?, c1]
 have b2 : W.cell? ⟨w.heap.size + 1, 2, none⟩ = some (.int .i64 b.item) := by simp [World.cell?, c1]
 clear hW c0 c1
 simp only [List.take_succ_cons, List.take_zero, List.drop_succ_cons, List.drop_zero]
 repeat still_step
 still_call (cmp_w _ _ _)
 repeat still_step
 still_call (cmp_w _ _ _)
 repeat still_step
 still_call (cmp_w _ _ _)
 repeat still_step
 try refine wpStill_nil ?_
 generalize hx : cmpI a.module b.module = x at *
 generalize hy : cmpI a.item b.item = y at *
 generalize hz : cmpI a.code b.code = z at *
 clear a0 a1 a2 b0 b1 b2
 obtain ⟨q, os', rfl⟩ := hG
 generalize hWW : grow (w.drewN q) os' = W
 have hor : ∀ W', W' = W.alloc (.cells #[.int .i64 x, .int .i64 y, .int .i64 z] 3) → Calls Try.prog 38 #[.slice (some ⟨W.heap.size, 0, none⟩) 3 3] W' fun e w' => e = .returned (.int .i64 (orI [x, y, z])) ∧ w' = W' := by
  rintro W' rfl
  have hh := World.alloc_heap_new W (.cells #[.int .i64 x, .int .i64 y, .int .i64 z] 3)
  exact or_w x y z _ _ _ (by simp only [World.cell?, hh]; rfl) (by simp only [World.cell?, hh]; rfl) (by simp only [World.cell?, hh]; rfl)
 generalize hr : orI [x, y, z] = r at *
 go_wp2_with (go_at_call 38; refine (hor _ rfl).mono ?_; rintro e w' ⟨rfl, rfl⟩)
 go_ret
 refine ⟨by rw [hx, hy, hz, hr]; rfl, q, os' ++ #[.cells #[.int .i64 x, .int .i64 y, .int .i64 z] 3], ?_⟩
 rw [alloc_eq_grow, ← hWW, grow_grow]
end Go.Proofs.Ytejpmjnefokdoaa

namespace Go.Proofs.Ytejpmjnefokdoaa
open Go.Aw Go.Sort Go.RowKit Go.Shelf
set_option maxRecDepth 100000
instance : Inhabited Problem := ⟨⟨0, 0, 0⟩⟩
def encP (p : Problem) : List Value := [.int .i64 p.code, .int .i64 p.module, .int .i64 p.item]
def posLt (a b : Problem) : Prop := a.module < b.module ∨ (a.module = b.module ∧ (a.item < b.item ∨ (a.item = b.item ∧ a.code < b.code)))
theorem cmpPos_lt (a b : Problem) : cmpPos a b < 0 ↔ posLt a b := by
 unfold cmpPos orI cmpI posLt
 repeat' split
 all_goals simp_all
 all_goals omega
theorem ltOf_pos (a b : Problem) : ltOf cmpPos a b = true ↔ posLt a b := by unfold ltOf; rw [decide_eq_true_eq]; exact cmpPos_lt a b
theorem ltOf_posF (a b : Problem) : ltOf cmpPos a b = false ↔ ¬ posLt a b := by rw [← ltOf_pos]; simp
theorem swoPos : SWO (ltOf cmpPos) := {
 irrefl := fun x => by rw [ltOf_posF]; unfold posLt; omega
 trans := fun x y z h1 h2 => by rw [ltOf_pos] at *; unfold posLt at *; omega
 ntrans := fun x y z h1 h2 => by rw [ltOf_posF] at *; unfold posLt at *; omega }
theorem posTotal (x y : Problem) (h1 : ltOf cmpPos x y = false) (h2 : ltOf cmpPos y x = false) : x = y := by
 rw [ltOf_posF] at *
 obtain ⟨a, b, c⟩ := x
 obtain ⟨a', b', c'⟩ := y
 unfold posLt at *
 simp only [Problem.mk.injEq] at *
 omega
noncomputable def sortP (l : List Problem) : List Problem := l.mergeSort fun x y => !(ltOf cmpPos) y x

theorem flatMap3 (enc : Problem → List Value) (h : ∀ x, (enc x).length = 3) : ∀ (l : List Problem) (t : Nat), (l.flatMap enc)[t]? = (l[t / 3]?).bind fun x => (enc x)[t % 3]?
 | [], t => by simp
 | x :: l, t => by
  rw [List.flatMap_cons]
  rcases Nat.lt_or_ge t 3 with ht | ht
  ·rw [List.getElem?_append_left (by rw [h]; exact ht), Nat.div_eq_of_lt ht, Nat.mod_eq_of_lt ht]
   simp
  ·obtain ⟨s, rfl⟩ : ∃ s, t = s + 3 := ⟨t - 3, by omega⟩
   rw [List.getElem?_append_right (by rw [h]; omega), h, Nat.add_sub_cancel, flatMap3 enc h l s, Nat.add_mod_right]
   rw [show (s + 3) / 3 = s / 3 + 1 by omega]
   simp
theorem flatK_list (l : List Problem) : (flatK encP 3 l.toArray).toList = l.flatMap encP := by
 apply List.ext_getElem?
 intro t
 rw [flatMap3 encP (fun _ => rfl)]
 by_cases ht : t < l.length * 3
 ·have h3 : t / 3 < l.length := by omega
  have h4 : t % 3 < 3 := Nat.mod_lt _ (by omega)
  have h5 : t % 3 < (encP l[t / 3]).length := h4
  rw [List.getElem?_eq_getElem h3]
  simp only [Option.bind_some]
  rw [List.getElem?_eq_getElem h5]
  simp [flatK, ht, h3, getElem!_pos, h5]
 ·rw [List.getElem?_eq_none (by simp; omega), List.getElem?_eq_none (show l.length ≤ t / 3 by omega)]
  rfl

def Try.sortPos_ren : Go.Shelf.Ren := ⟨fun | 6 => 58 | 15 => 74 | 14 => 73 | 28 => 87 | 29 => 88 | 20 => 79 | 21 => 80 | 22 => 81 | 23 => 82 | 24 => 83 | 25 => 84 | 26 => 85 | 27 => 86 | 46 => 90 | 47 => 91 | 48 => 92 | 49 => 93 | 50 => 94 | 57 => 95 | n => n, fun | 22 => 39 | 24 => 42 | 25 => 101 | 3 => 3 | 39 => 106 | 0 => 0 | 53 => 152 | 55 => 154 | 4 => 4 | 46 => 146 | 45 => 145 | 50 => 92 | 5 => 5 | 9 => 9 | 66 => 156 | 70 => 160 | 76 => 162 | 77 => 117 | n => n, fun | n => n⟩
theorem Try.sortPos : Go.Proofs.SlLaysF0.n6 Try.prog Try.sortPos_ren := {
 mixed := by kernel_rfl
 f6 := ⟨Try.f58.name, by decide, Try.func58.trans (congrArg some (by kernel_rfl))⟩
 f14 := ⟨Try.f73.name, by decide, Try.func73.trans (congrArg some (by kernel_rfl))⟩
 f15 := Try.func74.trans (congrArg some (by kernel_rfl))
 f20 := ⟨Try.f79.name, by decide, Try.func79.trans (congrArg some (by kernel_rfl))⟩
 f21 := ⟨Try.f80.name, by decide, Try.func80.trans (congrArg some (by kernel_rfl))⟩
 f22 := ⟨Try.f81.name, by decide, Try.func81.trans (congrArg some (by kernel_rfl))⟩
 f23 := ⟨Try.f82.name, by decide, Try.func82.trans (congrArg some (by kernel_rfl))⟩
 f24 := ⟨Try.f83.name, by decide, Try.func83.trans (congrArg some (by kernel_rfl))⟩
 f25 := ⟨Try.f84.name, by decide, Try.func84.trans (congrArg some (by kernel_rfl))⟩
 f26 := ⟨Try.f85.name, by decide, Try.func85.trans (congrArg some (by kernel_rfl))⟩
 f27 := ⟨Try.f86.name, by decide, Try.func86.trans (congrArg some (by kernel_rfl))⟩
 f28 := Try.func87.trans (congrArg some (by kernel_rfl))
 f29 := Try.func88.trans (congrArg some (by kernel_rfl))
 f46 := ⟨Try.f90.name, by decide, Try.func90.trans (congrArg some (by kernel_rfl))⟩
 f47 := Try.func91.trans (congrArg some (by kernel_rfl))
 f48 := Try.func92.trans (congrArg some (by kernel_rfl))
 f49 := ⟨Try.f93.name, by decide, Try.func93.trans (congrArg some (by kernel_rfl))⟩
 f50 := ⟨Try.f94.name, by decide, Try.func94.trans (congrArg some (by kernel_rfl))⟩
 f57 := ⟨Try.f95.name, by decide, Try.func95.trans (congrArg some (by kernel_rfl))⟩
 t0 := Try.underlying0
 a0 := Try.isAgg0
 z0 := Try.sizeOf0
 v0 := Try.zeroValue0
 t3 := Try.underlying3
 a3 := Try.isAgg3
 z3 := Try.sizeOf3
 v3 := Try.zeroValue3
 t4 := Try.underlying4
 a4 := Try.isAgg4
 z4 := Try.sizeOf4
 v4 := Try.zeroValue4
 t5 := Try.underlying5
 a5 := Try.isAgg5
 z5 := Try.sizeOf5
 v5 := Try.zeroValue5
 t9 := Try.underlying9
 a9 := Try.isAgg9
 z9 := Try.sizeOf9
 v9 := Try.zeroValue9
 t22 := Try.underlying39
 a22 := Try.isAgg39
 z22 := Try.sizeOf39
 v22 := Try.zeroValue39
 t25 := Try.underlying101
 a25 := Try.isAgg101
 z25 := Try.sizeOf101
 v25 := Try.zeroValue101
 t39 := Try.underlying106
 a39 := Try.isAgg106
 z39 := Try.sizeOf106
 v39 := Try.zeroValue106
 t45 := Try.underlying145
 a45 := Try.isAgg145
 z45 := Try.sizeOf145
 v45 := Try.zeroValue145
 t46 := Try.underlying146
 a46 := Try.isAgg146
 z46 := Try.sizeOf146
 v46 := Try.zeroValue146
 t50 := Try.underlying92
 a50 := Try.isAgg92
 z50 := Try.sizeOf92
 v50 := Try.zeroValue92
 t53 := Try.underlying152
 a53 := Try.isAgg152
 z53 := Try.sizeOf152
 v53 := Try.zeroValue152
 t55 := Try.underlying154
 a55 := Try.isAgg154
 z55 := Try.sizeOf154
 v55 := Try.zeroValue154
 t66 := Try.underlying156
 a66 := Try.isAgg156
 z66 := Try.sizeOf156
 v66 := Try.zeroValue156
 t70 := Try.underlying160
 a70 := Try.isAgg160
 z70 := Try.sizeOf160
 v70 := Try.zeroValue160
 t76 := Try.underlying162
 a76 := Try.isAgg162
 z76 := Try.sizeOf162
 v76 := Try.zeroValue162
 t77 := Try.underlying117
 a77 := Try.isAgg117
 z77 := Try.sizeOf117
 v77 := Try.zeroValue117 }
theorem putCells_take (F cur : Array Value) (h : F.size ≤ cur.size) : (putCells id 0 F cur).toList.take F.size = F.toList := by
 apply List.ext_getElem?
 intro t
 rw [List.getElem?_take]
 split
 ·rename_i ht
  have h2 : t < cur.size := by omega
  simp [putCells, ht, h2, getElem!_pos]
 ·rename_i ht
  rw [List.getElem?_eq_none (by simpa using ht)]
theorem putCells_size (F cur : Array Value) : (putCells id 0 F cur).size = cur.size := by simp [putCells]

/-- The world behind the sorting. -/
theorem sortW_heap {enc : Problem → List Value} {k m g : Nat} {d : Array Problem} {os : Array Obj} {W : World} {cur : Array Value} {e : TypeId} (hg : W.heap[g]? = some (.cells cur e (0, 0))) :
  (∀ b, b < W.heap.size → b ≠ g → (sortWorldK enc k W g 0 m d os).heap[b]? = W.heap[b]?) ∧ (sortWorldK enc k W g 0 m d os).heap[g]? = some (.cells (putCells id 0 (flatK enc k d) cur) e (0, 0)) ∧
   W.heap.size ≤ (sortWorldK enc k W g 0 m d os).heap.size := by
 have hlt : g < W.heap.size := (Array.getElem?_eq_some_iff.1 hg).1
 have hh : (sortWorldK enc k W g 0 m d os).heap = W.heap.modify g (onCells (putCells id 0 (flatK enc k d))) ++ os := rfl
 rw [hh]
 refine ⟨fun b hb hne => ?_, ?_, by simp⟩
 ·rw [Array.getElem?_append_left (by simpa using hb), Array.getElem?_modify, if_neg (Ne.symm hne)]
 ·rw [Array.getElem?_append_left (by simpa using hlt), Array.getElem?_modify, if_pos rfl, hg]
  rfl

theorem rdPos {W : World} {F : Nat → Prop} : ∀ (l : List Problem) (vs : List Value), RdVals W F (l.map eProb).flatten vs ↔ vs = l.flatMap encP
 | [], vs => by simp [RdVals]
 | p :: l, vs => by
  have ih := rdPos (W := W) (F := F) l
  simp only [List.map_cons, List.flatten_cons, eProb, eI, List.cons_append, List.nil_append, RdVals, Aw.Rd, List.flatMap_cons, encP]
  constructor
  ·rintro ⟨v, r, rfl, rfl, v2, r2, rfl, rfl, v3, r3, rfl, rfl, h⟩
   rw [(ih r3).1 (by simpa [eProb, eI] using h)]
  ·rintro rfl
   refine ⟨_, _, rfl, rfl, _, _, rfl, rfl, _, _, rfl, rfl, ?_⟩
   have := (ih (l.flatMap encP)).2 rfl
   simpa [eProb, eI] using this

theorem sortP_length (l : List Problem) : (sortP l).length = l.length := by simp [sortP]

theorem sort_c (l : List Problem) (hl : l.length < 4611686018427387904) : FnL Try.prog 58 [.ar 0 l.length, .d (.clo (.func 37) [] [])] [(0, .arr 42 3 .flat (l.map eProb))] (fun V ol new => V = .tup [] ∧ ol = [(0, .arr 42 3 .flat ((sortP l).map eProb))] ∧ new = []) := by
 refine ⟨fun W bs => Try.call58 bs W, ?_⟩
 intro W F O0 η S vs hm hO hr
 simp only [RelVs, RelV] at hr
 obtain ⟨v0, r0, rfl, hv0, v1, r1, rfl, hv1, rfl⟩ := hr
 have hobj := hm.obj 0 _ (by simp only [om, if_true]; rfl)
 have e0 : v0 = η 0 := (hv0 42 3 .flat (l.map eProb) (by simp [om])).2 (by simp)
 have fin : ∀ (W' : World) (F' : Nat → Prop), Mem ⟨Try.prog, N0, W, F, O0, [], [], fun _ => undef⟩ (om [(0, .arr 42 3 .flat ((sortP l).map eProb))]) W' F' η S →
   ∃ v' V Oo new F' η' S', Ending.returned (.tuple #[]) = .returned v' ∧ (∃ ol, Oo = om ol ∧ (V = AV.tup [] ∧ ol = [(0, AO.arr 42 3 .flat ((sortP l).map eProb))] ∧ new = [])) ∧ (∀ i ∈ new, ∀ lim fam stop l rest, Oo i ≠ some (.ext lim fam stop l rest)) ∧
    Mem ⟨Try.prog, N0, W, F, O0, [], [], fun _ => undef⟩ Oo W' F' η' S' ∧ RelV Oo W' F' η' V v' ∧ Keeps (om [(0, .arr 42 3 .flat (l.map eProb))]) Oo η η' new := by
  intro W' F' m1
  refine ⟨_, .tup [], _, [], F', η, S, rfl, ⟨_, rfl, rfl, rfl, rfl⟩, by simp, m1, by simp [RelV, RelVs], ?_⟩
  intro id o' ho
  simp only [om] at ho
  split at ho
  ·rename_i h0
   subst h0
   cases ho
   exact .inr ⟨_, by simp only [om, if_true]; rfl, by simp [sortP_length]⟩
  ·cases ho
 have e1 : v1 = .func (.func 37) #[] #[] := by
  simp only [Aw.Rd, RdVals] at hv1
  obtain ⟨a, b, rfl, rfl, rfl⟩ := hv1
  rfl
 subst e0 e1
 obtain ⟨_, hk, hcase⟩ := hobj
 rcases hcase with ⟨hn, hes, hs⟩ | ⟨g, cap, cur, s1, hv, hg, hle, hcap, hcur, hs, hC⟩
 ·have : l = [] := by simpa using hes
  subst this
  obtain ⟨ad, hn⟩ := hn
  rw [hn]
  refine (AnyF.slices_SortFunc_none Try.sortPos ad 0 _ W).mono ?_
  rintro e W' ⟨rfl, hW⟩
  subst hW
  exact fin _ F (by simpa [sortP] using hm)
 ·obtain ⟨hC2, rfl⟩ := (own0 _ _ _).1 hC
  have hcells := (rdPos l _).1 hC2
  rw [List.length_map] at hv hcells
  rw [hv]
  have hsz : (flatK encP 3 l.toArray).size = l.length * 3 := by simp
  have hH : HoldsK encP 3 W g 0 l.toArray := by
   intro j hj
   rw [hsz] at hj
   have hjc : j < cur.size := by rw [hcur, List.length_map] at *; omega
   have e2 : cur[j]? = (flatK encP 3 l.toArray)[j]? := by
    have h1 := congrArg (fun x => x[j]?) hcells
    rw [← flatK_list] at h1
    simp only [List.getElem?_take, hj, if_true, Array.getElem?_toList] at h1
    exact h1
   refine ⟨?_, by simp [World.frozen?, hg]⟩
   simp only [World.cell?, hg, Nat.zero_add]
   have : (flatK encP 3 l.toArray)[j]! = (flatK encP 3 l.toArray)[j]'(by rw [hsz]; exact hj) := getElem!_pos _ j (by rw [hsz]; exact hj)
   simp only [id, this]
   rw [show (({ block := g, off := j, spot := none } : Addr).spot.isSome) = false from rfl]
   simp only [Bool.false_eq_true, if_false, e2]
   rw [Array.getElem?_eq_getElem]
  have hsort := AnyQ.slices_SortFunc_total Try.sortPos 3 Try.isAgg42 Try.sizeOf42 encP (fun _ => rfl) (fun x v hv => by simp [encP] at hv; rcases hv with rfl | rfl | rfl <;> rfl) cmpPos swoPos 37 #[] g 0 cap l.toArray W (fun bs w => Try.call37 bs w) (fun m os dk _ x y => by simpa [encP] using compare_w x y _) hH (Array.getElem?_eq_some_iff.1 hg).1 (by simpa using hl) posTotal
  change Calls Try.prog 58 _ _ _ at hsort
  refine hsort.mono ?_
  rintro e W' ⟨rfl, n, os, hW⟩
  obtain ⟨b1, b2, b3⟩ := sortW_heap (enc := encP) (k := 3) (m := n) (d := (l.toArray.toList.mergeSort fun x y => !(ltOf cmpPos) y x).toArray) (os := os) hg
  have f1 : W'.os = W.os := by rw [hW]; rfl
  have f2 : W'.tape = W.tape := by rw [hW]; rfl
  have f3 : W'.output = W.output := by rw [hW]; rfl
  rw [← hW] at b1 b2 b3
  clear hW hsort
  have hk2 : Keeps (om [(0, .arr 42 3 .flat (l.map eProb))]) (upd (om [(0, .arr 42 3 .flat (l.map eProb))]) 0 (some (.arr 42 3 .flat ((sortP l).map eProb)))) η (upd η 0 (η 0)) [] := by
   intro id o' ho
   simp only [upd, om] at ho
   split at ho
   ·rename_i h0
    subst h0
    cases ho
    exact .inr ⟨_, by simp only [om, if_true]; rfl, by simp [sortP_length, upd]⟩
   ·rename_i h0
    cases ho
  obtain ⟨m1, m2⟩ := hm.change (W' := W') (F' := F) 0 (some (.arr 42 3 .flat ((sortP l).map eProb))) (η 0) (S 0) [] f1 f2 f3 b3
   (fun b hb hne => b1 b hb (fun e => hne (by rw [hs, e]; simp))) (fun _ h => h) (fun _ h => .inl h) (fun b hb => (hm.apart 0 b hb).1) (hm.nd 0) (fun b hb => .inl hb) (fun h => by cases h) hk2 (fun id o ho hne => by simp [om] at ho; exact absurd ho.1 hne) (fun o ho hF => by
    cases ho
    refine ⟨by simp [sortP_length]; simpa using Nat.le_trans hle hcap, fun x hx => ?_, .inr ⟨g, cap, _, [], ?_, b2, ?_, hcap, ?_, hs, ?_⟩⟩
    ·obtain ⟨p, _, rfl⟩ := List.mem_map.1 hx; rfl
    ·rw [hv, List.length_map, sortP_length]
    ·simpa [sortP_length] using hle
    ·rw [putCells_size, hcur]
    ·refine (own0 _ _ _).2 ⟨(rdPos _ _).2 ?_, rfl⟩
     have hsz2 : (flatK encP 3 (sortP l).toArray).size = l.length * 3 := by simp [sortP_length]
     have hle2 : (flatK encP 3 (sortP l).toArray).size ≤ cur.size := by rw [hsz2, hcur]; exact Nat.mul_le_mul_right _ (by simpa using hle)
     have := putCells_take _ cur hle2
     rw [flatK_list, hsz2] at this
     rw [List.length_map, sortP_length]
     exact this)
  have u1 : upd (om [(0, .arr 42 3 .flat (l.map eProb))]) 0 (some (.arr 42 3 .flat ((sortP l).map eProb))) = om [(0, .arr 42 3 .flat ((sortP l).map eProb))] := by
   funext id
   simp only [upd, om]
   split
   ·rfl
   ·rfl
  have u2 : upd η 0 (η 0) = η := by funext id; simp only [upd]; split <;> simp_all
  have u3 : upd S 0 (S 0) = S := by funext id; simp only [upd]; split <;> simp_all
  rw [u1, u2, u3] at m1
  exact fin _ F m1
end Go.Proofs.Ytejpmjnefokdoaa

namespace Go.Proofs.Ytejpmjnefokdoaa
open Go.Aw
open Nat renaming reduceEqDiff → pE, reduceLT → pL, reduceAdd → pA, reduceSub → pS, reduceMul → pM, reduceLeDiff → pD
open Int renaming reduceToNat → qT, reduceGT → qG, reduceLT → qL, reduceGE → qH, reduceBNe → qN, reduceBEq → qB, reduceLE → qE, reduceNe → qO, reduceAdd → qA, reduceNeg → qM
set_option maxRecDepth 100000
set_option maxHeartbeats 1000000
theorem nodup_perm {n : Nat} {js : List Nat} (hn : js.Nodup) (h : ∀ j ∈ js, j < n) (ha : ∀ j, j < n → j ∈ js) : js.Perm (List.range n) :=
 (List.perm_ext_iff_of_nodup hn List.nodup_range).2 fun j => by rw [List.mem_range]; exact ⟨h j, ha j⟩
theorem range_getD {α : Type} (l : List α) (d : α) : (List.range l.length).map (fun j => l.getD j d) = l := by
 apply List.ext_getElem (by simp)
 intro i h1 h2
 simp [List.getD, h2]
def pickJ (l : List Problem) (js : List Nat) : List Problem := js.map fun j => l.getD j default
def eYk (p : Problem) : List D := [eKey p]
theorem keys_it (l : List Problem) (vs : List D) (bs : List Nat) (clock : Nat) : IterP Try.prog 59 [.ptr [.mp (l.map eKey) vs bs clock]] (fun pre => ∃ js : List Nat, js.Nodup ∧ (∀ j ∈ js, j < l.length) ∧ pre = (pickJ l js).map eYk) (fun xs => ∃ js : List Nat, js.Nodup ∧ (∀ j ∈ js, j < l.length) ∧ (∀ j, j < l.length → j ∈ js) ∧ xs = (pickJ l js).map eYk) := by
 intro lim fam stop lp hY
 have := FnL.of_eC (P := Try.prog) (args := [.yv 0, .d (.ptr [.mp (l.map eKey) vs bs clock])]) (os := [(0, .ext lim fam stop lp [])]) (PL := fun _ ol new => (∃ xs, (∃ js : List Nat, js.Nodup ∧ (∀ j ∈ js, j < l.length) ∧ (∀ j, j < l.length → j ∈ js) ∧ xs = (pickJ l js).map eYk) ∧ ol = [(0, .ext lim fam stop lp xs)] ∧ new = []) ∨ (ol = [(0, .ext lim (fun _ => stop) stop lp [])] ∧ new = [])) (own := []) (fun _ => []) [0] mixed Try.func59 rfl Try.call59 Try.ntmps59 (Nat.le_of_ble_eq_true rfl) Try.results59 ?_
 ·refine this.mono ?_
  rintro V Oo new ⟨ol, rfl, ⟨xs, h1, rfl, h2⟩ | ⟨rfl, h2⟩⟩
  ·exact .inl ⟨xs, h1, rfl, h2⟩
  ·exact .inr ⟨rfl, h2⟩
 simp only [ZE,↓reduceIte,pE,pL,pA,pS,pM,pD]
 refine eloopX (fun _ _ => []) mixed l.length (fun i (js : List Nat) => js.length = i ∧ js.Nodup ∧ ∀ j ∈ js, j < l.length) (fun i js => ([(0, .yv 0), (5, .mo 5)], [(0, .ext lim fam stop lp ((pickJ l js).map eYk)), (5, .it (l.map eKey) vs bs clock js)])) [] ?_ ?_ ?_ (fun i js hi hI => ?_)
 ·simp
 ·simp only [ZE,↓reduceIte,pE,pL,pA,pS,pM,pD]
 ·simp only [ZE,↓reduceIte,pE,pL,pA,pS,pM,pD, pickJ, List.map_nil]
 obtain ⟨h1, h2, h3⟩ := hI
 simp only [ZE,↓reduceIte,pE,pL,pA,pS,pM,pD]
 refine ⟨by simp only [ZE,↓reduceIte,pE,pL,pA,pS,pM,pD], fun j hj hjs => ?_, fun hall => ?_⟩
 ·have hj' : j < l.length := by simpa using hj
  have hD : l.getD j default = l[j] := by simp [List.getD, hj']
  have hkj : (l.map eKey).getD j default = D.agg [.lit (.int .i64 l[j].code), .lit (.int .i64 l[j].module), .lit (.int .i64 l[j].item)] := by
   simp [List.getD, hj', eKey, eProb, eI]
  have hlen : i < l.length := by
   have := nodup_lt l.length (j :: js) (List.nodup_cons.2 ⟨hjs, h2⟩) (fun k hk => by
    rcases List.mem_cons.1 hk with rfl | hk
    ·exact hj'
    ·exact h3 k hk)
   simp at this; omega
  have hnew : (js ++ [j]).Nodup ∧ ∀ k ∈ js ++ [j], k < l.length := by
   refine ⟨List.nodup_append.2 ⟨h2, by simp, fun a ha b hb e => ?_⟩, fun k hk => ?_⟩
   ·simp at hb; subst hb; subst e; exact hjs ha
   ·rcases List.mem_append.1 hk with hk | hk
    ·exact h3 k hk
    ·simp at hk; subst hk; exact hj'
  have hpick : (pickJ l js).map eYk ++ [[D.agg [.lit (.int .i64 l[j].code), .lit (.int .i64 l[j].module), .lit (.int .i64 l[j].item)]]] = (pickJ l (js ++ [j])).map eYk := by
   simp only [pickJ, List.map_append, List.map_cons, List.map_nil, hD]
   rfl
  simp only [ZE,↓reduceIte,pE,pL,pA,pS,pM,pD, hkj, List.getLast?_singleton, Option.some_or]
  refine ⟨_, hY, ?_, ?_, ?_⟩
  ·exact ⟨js ++ [j], hnew.1, hnew.2, hpick⟩
  ·simp only [ZE,↓reduceIte,pE,pL,pA,pS,pM,pD, nextX, hpick]
   refine ⟨hlen, js ++ [j], ⟨by simp [h1], hnew⟩, ?_⟩
   simp only [ZE,↓reduceIte,pE,pL,pA,pS,pM,pD]
  ·simp only [ZE,↓reduceIte,pE,pL,pA,pS,pM,pD]
   refine ⟨[3, 5], [], ?_⟩
   simp only [ZE,↓reduceIte,pE,pL,pA,pS,pM,pD]
 ·simp only [ZE,↓reduceIte,pE,pL,pA,pS,pM,pD]
  refine ⟨[5], [], ?_⟩
  simp only [ZE,↓reduceIte,pE,pL,pA,pS,pM,pD]
  exact .inl ⟨_, ⟨js, h2, h3, fun j hj => hall j (by simpa using hj), rfl⟩, rfl⟩

theorem keys_c (l : List Problem) (vs : List D) (bs : List Nat) (clock : Nat) : FnP Try.prog 36 [.mp (l.map eKey) vs bs clock] (.d (.clo (.func 59) [] [.ptr [.mp (l.map eKey) vs bs clock]])) [] := by
 refine FnP.of_eC (own := []) (fun _ => []) mixed Try.func36 rfl Try.call36 Try.ntmps36 (Nat.le_of_ble_eq_true rfl) Try.results36 (fun hok => ?_)
 simp only [ZE,↓reduceIte,pE,pL,pA,pS,pM,pD]

def rowOf : List D → List D
 | [.agg cs] => cs
 | _ => []
theorem rowOf_pick (l : List Problem) (js : List Nat) : ((pickJ l js).map eYk).map rowOf = (pickJ l js).map eProb := by
 rw [List.map_map]; rfl
theorem appendSeq_c (l : List Problem) (vs : List D) (bs : List Nat) (clock : Nat) (hl : l.length ≤ 4000000) : FnL Try.prog 72 [.nils, .d (.clo (.func 59) [] [.ptr [.mp (l.map eKey) vs bs clock]])] [] (fun V ol new => ∃ l' : List Problem, l'.Perm l ∧ V = .ar 90 l'.length ∧ ol = [(90, .arr 42 3 .flat (l'.map eProb))] ∧ new = [90]) := by
 refine FnL.of_eC (own := []) (fun id => if id = 0 then [.adB 2 0 90 42 3] else []) [] mixed Try.func72 rfl Try.call72 Try.ntmps72 (Nat.le_of_ble_eq_true rfl) Try.results72 ?_
 simp only [ZE,↓reduceIte,pE,pL,pA,pS,pM,pD]
 refine erange mixed (fun _ => []) rfl (by simp only [ZE,↓reduceIte,pE,pL,pA,pS,pM,pD]) (keys_it l vs bs clock) (fun pre => [(2, .box [.ar 90 pre.length]), (90, .arr 42 3 .flat (pre.map rowOf))]) ?_ ?_ ?_ ?_ ?_
 ·simp only [ZE,↓reduceIte,pE,pL,pA,pS,pM,pD]
 ·intro pre; simp [noExtL, isExt]
 ·simp only [ZE,↓reduceIte,pE,pL,pA,pS,pM,pD, psOk, keysT]
 ·rintro pre x ⟨js, h1, h2, h3⟩
  have hlen : (pre ++ [x]).length = js.length := by rw [h3]; simp [pickJ]
  have hjl := nodup_lt l.length js h1 h2
  simp only [List.length_append, List.length_cons, List.length_nil] at hlen
  obtain ⟨p, rfl⟩ : ∃ p, x = eYk p := by
   have : x ∈ (pickJ l js).map eYk := by rw [← h3]; simp
   obtain ⟨p, _, rfl⟩ := List.mem_map.1 this
   exact ⟨p, rfl⟩
  simp only [eYk, eKey, ZE,↓reduceIte,pE,pL,pA,pS,pM,pD, zipL, roundE, noExtL, isExt, bodyE, keysT]
  refine ⟨⟨by omega, by omega⟩, by simp, by simp, ?_⟩
  rw [List.map_append]; rfl
 ·rintro xs ⟨js, h1, h2, h3, rfl⟩
  simp only [ZE,↓reduceIte,pE,pL,pA,pS,pM,pD]
  refine ⟨[2], [90], ?_⟩
  simp only [ZE,↓reduceIte,pE,pL,pA,pS,pM,pD]
  refine ⟨pickJ l js, ?_, rfl, by rw [rowOf_pick]⟩
  have := (nodup_perm h1 h2 h3).map fun j => l.getD j default
  rw [range_getD] at this
  exact this

theorem collect_c (l : List Problem) (vs : List D) (bs : List Nat) (clock : Nat) (hl : l.length ≤ 4000000) : FnL Try.prog 57 [.d (.clo (.func 59) [] [.ptr [.mp (l.map eKey) vs bs clock]])] [] (fun V ol new => ∃ l' : List Problem, l'.Perm l ∧ V = .ar 90 l'.length ∧ ol = [(90, .arr 42 3 .flat (l'.map eProb))] ∧ new = [90]) := by
 refine FnL.of_eC (own := []) (fun id => []) [] mixed Try.func57 rfl Try.call57 Try.ntmps57 (Nat.le_of_ble_eq_true rfl) Try.results57 ?_
 simp only [ZE,↓reduceIte,pE,pL,pA,pS,pM,pD]
 refine EFn.g ⟨[(90, 90)], [.nils, .d (.clo (.func 59) [] [.ptr [.mp (l.map eKey) vs bs clock]])], _, _, appendSeq_c l vs bs clock hl, ?_⟩
 simp only [ZE,↓reduceIte,pE,pL,pA,pS,pM,pD]
 rintro V ol new ⟨l', hp, rfl, rfl, rfl⟩
 simp only [ZE,↓reduceIte,pE,pL,pA,pS,pM,pD]
 refine ⟨[], [90], ?_⟩
 simp only [ZE,↓reduceIte,pE,pL,pA,pS,pM,pD]
 exact ⟨l', hp, rfl, rfl⟩

theorem sortP_perm {l l' : List Problem} (h : l.Perm l') : sortP l = sortP l' := by
 unfold sortP
 have tr : ∀ a b c : Problem, (!(ltOf cmpPos) b a) = true → (!(ltOf cmpPos) c b) = true → (!(ltOf cmpPos) c a) = true := by
  intro a b c h1 h2
  simp only [Bool.not_eq_true'] at *
  exact swoPos.ntrans _ _ _ h2 h1
 have to : ∀ a b : Problem, ((!(ltOf cmpPos) b a) || (!(ltOf cmpPos) a b)) = true := by
  intro a b
  simp only [Bool.or_eq_true, Bool.not_eq_true']
  rw [ltOf_posF, ltOf_posF]
  unfold posLt
  omega
 refine List.Perm.eq_of_pairwise (le := fun a b => !(ltOf cmpPos) b a) ?_ ?_ ?_ ?_
 ·intro a b _ _ h1 h2
  simp only [Bool.not_eq_true'] at h1 h2
  exact posTotal a b h2 h1
 ·exact List.pairwise_mergeSort tr to l
 ·exact List.pairwise_mergeSort tr to l'
 ·exact (List.mergeSort_perm l _).trans (h.trans (List.mergeSort_perm l' _).symm)

theorem sorted_c (l : List Problem) (vs : List D) (bs : List Nat) (clock : Nat) (hl : l.length ≤ 4000000) : FnP Try.prog 35 [.clo (.func 59) [] [.ptr [.mp (l.map eKey) vs bs clock]], .clo (.func 37) [] []] (.d (.sl ((sortP l).map eProb))) [] := by
 refine FnP.of_eC (own := []) (fun id => []) mixed Try.func35 rfl Try.call35 Try.ntmps35 (Nat.le_of_ble_eq_true rfl) Try.results35 (fun hok => ?_)
 simp only [ZE,↓reduceIte,pE,pL,pA,pS,pM,pD]
 refine EFn.g ⟨[(90, 90)], [.d (.clo (.func 59) [] [.ptr [.mp (l.map eKey) vs bs clock]])], _, _, collect_c l vs bs clock hl, ?_⟩
 simp only [ZE,↓reduceIte,pE,pL,pA,pS,pM,pD]
 rintro V ol new ⟨l', hp, rfl, rfl, rfl⟩
 simp only [ZE,↓reduceIte,pE,pL,pA,pS,pM,pD]
 refine EFn.g ⟨[(0, 90)], [.ar 0 l'.length, .d (.clo (.func 37) [] [])], _, _, sort_c l' (by have := hp.length_eq; omega), ?_⟩
 simp only [ZE,↓reduceIte,pE,pL,pA,pS,pM,pD]
 rintro V ol new ⟨rfl, rfl, rfl⟩
 simp only [ZE,↓reduceIte,pE,pL,pA,pS,pM,pD]
 exact ⟨(sortP_length l').symm, by rw [sortP_perm hp]⟩
end Go.Proofs.Ytejpmjnefokdoaa

namespace Go.Proofs.Ytejpmjnefokdoaa
open Go.Aw
open Nat renaming reduceEqDiff → pE, reduceLT → pL, reduceAdd → pA, reduceSub → pS, reduceMul → pM, reduceLeDiff → pD
open Int renaming reduceToNat → qT, reduceGT → qG, reduceLT → qL, reduceGE → qH, reduceBNe → qN, reduceBEq → qB, reduceLE → qE, reduceNe → qO, reduceAdd → qA, reduceNeg → qM
set_option maxRecDepth 100000
set_option maxHeartbeats 2000000
/-- What is found in a module; in all. -/
def itemsF (l : List Module) (i : Nat) (m : Module) (F : List Problem) (k : Nat) : List Problem := (m.items.take k).zipIdx.foldl (fun F p => itemF l i p.2 m p.1 F) F
def modF (l : List Module) (F : List Problem) (p : Module × Nat) : List Problem := itemsF l p.2 p.1 (headF l p.2 p.1 F) p.1.items.length
def found (l : List Module) : List Problem := l.zipIdx.foldl (modF l) []
noncomputable def check (l : List Module) : List Problem := sortP (found l)
theorem zipIdx_step {α β : Type} (f : β → α × Nat → β) (b : β) (l : List α) (i : Nat) (h : i < l.length) : (l.take (i + 1)).zipIdx.foldl f b = f ((l.take i).zipIdx.foldl f b) (l[i], i) := by
 rw [List.take_succ_eq_append_getElem h, List.zipIdx_append, List.foldl_append, List.length_take, Nat.min_eq_left (Nat.le_of_lt h)]
 simp
theorem addIf_len (F : List Problem) (b : Bool) (p : Problem) : (addIf F b p).length ≤ F.length + 1 := by
 unfold addIf addP
 split
 ·split <;> simp
 ·omega
theorem itemF_in {l : List Module} {i k : Nat} {m : Module} {x : Item} {F : List Problem} (hi : i ≤ 9223372036854775807) (hk : k ≤ 9223372036854775807) (h : ∀ q ∈ F, probIn q) : ∀ q ∈ itemF l i k m x F, probIn q := by
 have hin : ∀ c : Int, (Lit.int .i64 c).wf = true → probIn ⟨c, i, k⟩ := fun c hc => ⟨hc, wf_nat hi, wf_nat hk⟩
 have h1 : ∀ q ∈ itemD i k m x F, probIn q := by
  unfold itemD
  split
  ·exact addIf_in h (hin 1 rfl)
  ·exact h
 have h3 := addIf_in (b := lost l m x) (addIf_in (b := malformed x) h1 (hin 2 rfl)) (hin 3 rfl)
 unfold itemF itemK
 (repeat' split) <;> first | exact addIf_in h3 (hin _ rfl) | exact h3
theorem itemF_len (l : List Module) (i k : Nat) (m : Module) (x : Item) (F : List Problem) : (itemF l i k m x F).length ≤ F.length + 4 := by
 have h1 : (itemD i k m x F).length ≤ F.length + 1 := by
  unfold itemD
  split
  ·exact addIf_len _ _ _
  ·omega
 have h2 := addIf_len (itemD i k m x F) (malformed x) ⟨2, i, k⟩
 have h3 := addIf_len (addIf (itemD i k m x F) (malformed x) ⟨2, i, k⟩) (lost l m x) ⟨3, i, k⟩
 have h4 := fun b p => addIf_len (addIf (addIf (itemD i k m x F) (malformed x) ⟨2, i, k⟩) (lost l m x) ⟨3, i, k⟩) b p
 unfold itemF itemK
 (repeat' split) <;> first | omega | exact Nat.le_trans (h4 _ _) (by omega)
theorem headF_in {l : List Module} {i : Nat} {m : Module} {F : List Problem} (hi : i ≤ 9223372036854775807) (h : ∀ q ∈ F, probIn q) : ∀ q ∈ headF l i m F, probIn q :=
 addIf_in (addIf_in h ⟨rfl, wf_nat hi, rfl⟩) ⟨rfl, wf_nat hi, rfl⟩
theorem headF_len (l : List Module) (i : Nat) (m : Module) (F : List Problem) : (headF l i m F).length ≤ F.length + 2 := by
 have h1 := addIf_len F (badHead l i m) ⟨1, i, -1⟩
 have h2 := addIf_len (addIf F (badHead l i m) ⟨1, i, -1⟩) (loops l i) ⟨7, i, -1⟩
 unfold headF; omega
theorem itemsF_succ (l : List Module) (i : Nat) (m : Module) (F : List Problem) (k : Nat) (hk : k < m.items.length) : itemsF l i m F (k + 1) = itemF l i k m m.items[k] (itemsF l i m F k) := by
 unfold itemsF
 rw [zipIdx_step _ _ _ _ hk]
theorem itemsF_in {l : List Module} {i : Nat} {m : Module} {F : List Problem} (hi : i ≤ 9223372036854775807) (hm : m.items.length ≤ 9223372036854775807) (h : ∀ q ∈ F, probIn q) (k : Nat) : k ≤ m.items.length → ∀ q ∈ itemsF l i m F k, probIn q := by
 induction k with
 | zero => intro _; exact h
 | succ k ih =>
  intro hk
  rw [itemsF_succ _ _ _ _ _ (by omega)]
  exact itemF_in hi (by omega) (ih (by omega))
theorem itemsF_len (l : List Module) (i : Nat) (m : Module) (F : List Problem) (k : Nat) : k ≤ m.items.length → (itemsF l i m F k).length ≤ F.length + 4 * k := by
 induction k with
 | zero => intro _; exact Nat.le_refl _
 | succ k ih =>
  intro hk
  rw [itemsF_succ _ _ _ _ _ (by omega)]
  have := ih (by omega)
  have h2 := itemF_len l i k m m.items[k] (itemsF l i m F k)
  omega
/-- Files small enough that all fits. -/
structure Small (l : List Module) : Prop where
 len : l.length ≤ 1000
 items : ∀ m ∈ l, m.items.length ≤ 900
 nums : ∀ m ∈ l, ∀ x ∈ m.items, (numbers x).length ≤ 2000000
theorem idxs_step (l : List Module) (i : Nat) (h : i < l.length) : idxs (l.take (i + 1)) = idxStep (idxs (l.take i)) (l[i], i) := by
 unfold idxs
 exact zipIdx_step idxStep [] l i h
theorem modF_in {l : List Module} {F : List Problem} {i : Nat} {m : Module} (hi : i ≤ 9223372036854775807) (hm : m.items.length ≤ 9223372036854775807) (h : ∀ q ∈ F, probIn q) : ∀ q ∈ modF l F (m, i), probIn q := itemsF_in hi hm (headF_in hi h) _ (Nat.le_refl _)
theorem found_ok {l : List Module} (hS : Small l) (i : Nat) : i ≤ l.length → (∀ q ∈ (l.take i).zipIdx.foldl (modF l) [], probIn q) ∧ ((l.take i).zipIdx.foldl (modF l) []).length ≤ 3602 * i := by
 induction i with
 | zero => intro _; simp
 | succ i ih =>
  intro hi
  obtain ⟨h1, h2⟩ := ih (by omega)
  have hi' : i < l.length := by omega
  rw [zipIdx_step _ _ _ _ hi']
  have hl := hS.len
  have hm := hS.items l[i] (List.getElem_mem hi')
  refine ⟨modF_in (by omega) (by omega) h1, ?_⟩
  have h3 := headF_len l i l[i] ((l.take i).zipIdx.foldl (modF l) [])
  have h4 := itemsF_len l i l[i] (headF l i l[i] ((l.take i).zipIdx.foldl (modF l) [])) l[i].items.length (Nat.le_refl _)
  have e : modF l ((l.take i).zipIdx.foldl (modF l) []) (l[i], i) = itemsF l i l[i] (headF l i l[i] ((l.take i).zipIdx.foldl (modF l) [])) l[i].items.length := rfl
  rw [e]
  omega
theorem okL_of : ∀ {l : List D}, (∀ y ∈ l, y.ok) → D.okL l
 | [], _ => by simp only [D.okL]
 | y :: l, h => by simp only [D.okL]; exact ⟨h y (by simp), okL_of fun z hz => h z (by simp [hz])⟩
theorem eModule_sc {m : Module} (h : D.okL (eModule m)) : D.okL (eScope m) := by
 simp only [eModule, D.okL] at h
 obtain ⟨h1, h2, h3, h4, _⟩ := h
 have hi := (ok_map h4).2
 refine okL_of fun y hy => ?_
 simp only [eScope, List.mem_cons, List.not_mem_nil, or_false] at hy
 rcases hy with rfl | rfl | rfl | rfl | rfl | rfl
 ·exact h1
 ·exact h2
 ·exact h3
 ·exact h4
 ·simp only [sMp, D.ok]
  refine ⟨okL_of fun y hy => ?_, okL_of fun y hy => ?_⟩
  ·obtain ⟨p, _, rfl⟩ := List.mem_map.1 hy; simp only [D.ok]
  ·obtain ⟨p, hp, rfl⟩ := List.mem_map.1 hy
   simp only [eIt, D.ok]
   exact hi p.2 (firsts_mem _ p hp)
 ·simp only [sMp, D.ok]
  refine ⟨okL_of fun y hy => ?_, okL_of fun y hy => ?_⟩
  ·obtain ⟨p, _, rfl⟩ := List.mem_map.1 hy; simp only [D.ok]
  ·obtain ⟨p, _, rfl⟩ := List.mem_map.1 hy; simp only [eB, D.ok]
theorem eScopes_ok {l : List Module} (h : (eModules l).ok) : (eScopes l).ok := by
 have h1 : l.length ≤ maxLen := by simp only [eModules, D.ok, List.length_map] at h; exact h.1
 have h2 := (ok_map h).2
 simp only [eScopes, D.ok, List.length_map]
 exact ⟨h1, okLL_of fun y hy => by
  obtain ⟨m, hm, rfl⟩ := List.mem_map.1 hy
  exact eModule_sc (h2 m hm)⟩
theorem check_c (l : List Module) (hS : Small l) : FnP Try.prog 14 [.agg [eModules l]] (.d (eProbs (check l))) [] := by
 refine FnP.of_eC (own := []) (fun i => if i = 1 then [.adB 3 0 100 90 6] else if i = 2005 then [.ord ⟨[(0, none), (1, none), (2, none), (3, none), (4, none), (5, some []), (6, some []), (7, some [])]⟩] else if i = 1010 then [.frz 100, .frz 11] else chL i) mixed Try.func14 rfl Try.call14 Try.ntmps14 (Nat.le_of_ble_eq_true rfl) Try.results14 (fun hok => ?_)
 have hlen := hS.len
 have e0 : sK ([] : List (Str × Int)) = [] := rfl
 have e1 : sV eI ([] : List (Str × Int)) = [] := rfl
 have e2 : idxs [] = [] := rfl
 simp (maxSteps := 4000000) only [ZE,↓reduceIte,pE,pL,pA,pS,pM,pD, eFile, eScopes, eIdx, sMp, eScope, mget_s, keyedS, keyOkS, zN,qT,qG,qL,qH,qN,qB,qE,qO,qA,qM]
 refine eloop (fun i => if i = 2005 then [.ord ⟨[(0, none), (1, none), (2, none), (3, none), (4, none), (5, some []), (6, some []), (7, some [])]⟩] else chL i) mixed l.length (fun _ => True) (fun i => ([(1, .bp 1 0), (3, .bp 3 0), (15, .d (eModules l)), (16, .d (eI l.length)), (17, .d (eI i))],
  [(1, .box [.d (eModules l)]), (3, .box [.ar 100 i, .mo 11, .mo 12]), (100, .arr 90 6 .flat ((l.take i).map eScope)), (11, .map (sK (idxs (l.take i))) (sV eI (idxs (l.take i))) (List.range (idxs (l.take i)).length) (idxs (l.take i)).length), (12, pMap [])])) trivial ?_ ?_ (fun i hi _ => ?_)
 ·simp only [ZE,↓reduceIte,pE,pL,pA,pS,pM,pD]
 ·simp only [ZE,↓reduceIte,pE,pL,pA,pS,pM,pD, eFile, eScopes, eIdx, sMp, eScope, mget_s, keyedS, keyOkS, List.take_zero, e0, e1, e2, List.length_nil, List.range_zero, List.map_nil, pMap, pK, pV]
 rcases Nat.lt_or_ge i l.length with h | h
 ·have hw := wrap_succ (show i < 9223372036854775807 by omega)
  have sc := scoped_c l[i]
  simp only [ZE,↓reduceIte,pE,pL,pA,pS,pM,pD, eFile, eScopes, eIdx, sMp, eScope, mget_s, keyedS, keyOkS] at sc
  have hst := idxs_step l i h
  obtain ⟨acc, hacc⟩ : ∃ acc, idxs (l.take i) = acc := ⟨_, rfl⟩
  rw [hacc] at hst
  rw [hacc, hst, List.take_succ_eq_append_getElem h, List.map_append]
  simp only [List.map_cons, List.map_nil]
  simp (maxSteps := 4000000) only [ZE,↓reduceIte,pE,pL,pA,pS,pM,pD, dec_lt h, getD_map h, lt_int h, hw, zN,qT,qG,qL,qH,qN,qB,qE,qO,qA,qM, eFile, eScopes, eIdx, sMp, eScope, mget_s, keyedS, keyOkS, pMap]
  refine ⟨by kernel_rfl, ECall'.i sc ?_⟩
  cases hg : get acc l[i].name with
  | none =>
   have e : idxStep acc (l[i], i) = acc ++ [(l[i].name, (i : Int))] := by unfold idxStep; rw [if_pos (by rw [hg]; rfl)]
   rw [e]
   have hput := mapEq (put_s eI (x := (i : Int)) hg)
   simp only [eI] at hput
   simp (maxSteps := 4000000) only [ZE,↓reduceIte,pE,pL,pA,pS,pM,pD, hw, zN,qT,qG,qL,qH,qN,qB,qE,qO,qA,qM, eFile, eScopes, eIdx, sMp, eScope, mget_s, keyedS, keyOkS, pMap, hg, hput, List.length_take, Nat.min_eq_left (Nat.le_of_lt h)]
   exact ⟨⟨by omega, by omega⟩, by simp; omega, fun y hy => sK_ok _ y hy, fun y hy => sK_ok _ y hy, h⟩
  | some z =>
   have e : idxStep acc (l[i], i) = acc := by unfold idxStep; rw [if_neg (by rw [hg]; simp)]
   rw [e]
   simp (maxSteps := 4000000) only [ZE,↓reduceIte,pE,pL,pA,pS,pM,pD, hw, zN,qT,qG,qL,qH,qN,qB,qE,qO,qA,qM, eFile, eScopes, eIdx, sMp, eScope, mget_s, keyedS, keyOkS, pMap, hg, List.length_take, Nat.min_eq_left (Nat.le_of_lt h)]
   exact ⟨⟨by omega, by omega⟩, by simp; omega, fun y hy => sK_ok _ y hy, h⟩
 ·have : i = l.length := by omega
  subst this
  have hml : (eModules l).ok := by
   have := (okL_cons hok).1
   simp only [D.ok, D.okL] at this
   exact this.1
  have hsok := eScopes_ok hml
  have hm2 := (ok_map hml).2
  simp (maxSteps := 4000000) only [ZE,↓reduceIte,pE,pL,pA,pS,pM,pD, dec_ge h, List.take_length, zN,qT,qG,qL,qH,qN,qB,qE,qO,qA,qM, eFile, eScopes, eIdx, sMp, eScope, mget_s, keyedS, keyOkS, pMap]
  refine eloop chL mixed l.length (fun _ => True) (fun i => ([(1, .bp 1 0), (3, .bp 3 0), (46, .d (eModules l)), (47, .d (eI l.length)), (48, .d (eI i))],
   [(1, .box [.d (eModules l)]), (3, .box [.d (eScopes l), .d (eIdx l), .mo 12]), (12, pMap ((l.take i).zipIdx.foldl (modF l) []))])) trivial ?_ ?_ (fun i hi _ => ?_)
  ·simp only [ZE,↓reduceIte,pE,pL,pA,pS,pM,pD]
  ·simp only [ZE,↓reduceIte,pE,pL,pA,pS,pM,pD, eFile, eScopes, eIdx, sMp, eScope, mget_s, keyedS, keyOkS, List.take_zero, List.zipIdx_nil, List.foldl_nil, pMap, pK, pV, List.map_nil, List.length_nil, List.range_zero]
  rcases Nat.lt_or_ge i l.length with h | h
  ·have hw := wrap_succ (show i < 9223372036854775807 by omega)
   obtain ⟨hF1, hF2⟩ := found_ok hS i (Nat.le_of_lt h)
   have hst := zipIdx_step (modF l) [] l i h
   obtain ⟨F, hF⟩ : ∃ F, (l.take i).zipIdx.foldl (modF l) [] = F := ⟨_, rfl⟩
   rw [hF] at hst hF1 hF2
   rw [hF, hst]
   have hmo := hm2 l[i] (List.getElem_mem h)
   have hil := hS.items l[i] (List.getElem_mem h)
   have hc := head_c l i l[i] hsok hmo h F hF1
   have hG := headF_in (l := l) (m := l[i]) (show i ≤ 9223372036854775807 by omega) hF1
   have hlast : modF l F (l[i], i) = itemsF l i l[i] (headF l i l[i] F) l[i].items.length := rfl
   rw [hlast]
   obtain ⟨G, hGe⟩ : ∃ G, headF l i l[i] F = G := ⟨_, rfl⟩
   rw [hGe] at hc hG ⊢
   simp only [ZE,↓reduceIte,pE,pL,pA,pS,pM,pD, eFile, eScopes, eIdx, sMp, eScope, mget_s, keyedS, keyOkS, pMap] at hc
   simp (maxSteps := 4000000) only [ZE,↓reduceIte,pE,pL,pA,pS,pM,pD, dec_lt h, getD_map h, lt_int h, zN,qT,qG,qL,qH,qN,qB,qE,qO,qA,qM, eFile, eScopes, eIdx, sMp, eScope, mget_s, keyedS, keyOkS, pMap]
   refine EFn.g ⟨[(1, 12)], _, _, _, hc, ?_⟩
   simp only [ZE,↓reduceIte,pE,pL,pA,pS,pM,pD, eFile, eScopes, eIdx, sMp, eScope, mget_s, keyedS, keyOkS]
   rintro V ol new ⟨rfl, rfl, rfl⟩
   simp only [ZE,↓reduceIte,pE,pL,pA,pS,pM,pD, eFile, eScopes, eIdx, sMp, eScope, mget_s, keyedS, keyOkS]
   refine eloop chL mixed l[i].items.length (fun _ => True) (fun k => ([(1, .bp 1 0), (3, .bp 3 0), (8, .d (eI i)), (46, .d (eModules l)), (47, .d (eI l.length)), (48, .d (eI i)), (59, .d (eI l[i].items.length)), (60, .d (eI k))],
    [(1, .box [.d (eModules l)]), (3, .box [.d (eScopes l), .d (eIdx l), .mo 12]), (12, pMap (itemsF l i l[i] G k))])) trivial ?_ ?_ (fun k hk _ => ?_)
   ·simp only [ZE,↓reduceIte,pE,pL,pA,pS,pM,pD]
   ·have e : itemsF l i l[i] G 0 = G := rfl
    simp only [ZE,↓reduceIte,pE,pL,pA,pS,pM,pD, eFile, eScopes, eIdx, sMp, eScope, mget_s, keyedS, keyOkS, pMap, e]
   rcases Nat.lt_or_ge k l[i].items.length with h' | h'
   ·have hw' := wrap_succ (show k < 9223372036854775807 by omega)
    have hI := itemsF_in (l := l) (show i ≤ 9223372036854775807 by omega) (show l[i].items.length ≤ 9223372036854775807 by omega) hG k (Nat.le_of_lt h')
    have ic := item_c l i k l[i] l[i].items[k] hsok h rfl h' rfl (hS.nums _ (List.getElem_mem h) _ (List.getElem_mem h')) _ hI
    rw [itemsF_succ _ _ _ _ _ h']
    simp only [ZE,↓reduceIte,pE,pL,pA,pS,pM,pD, eFile, eScopes, eIdx, sMp, eScope, mget_s, keyedS, keyOkS, pMap] at ic
    simp (maxSteps := 4000000) only [ZE,↓reduceIte,pE,pL,pA,pS,pM,pD, dec_lt h', zN,qT,qG,qL,qH,qN,qB,qE,qO,qA,qM, eFile, eScopes, eIdx, sMp, eScope, mget_s, keyedS, keyOkS, pMap, hw']
    refine EFn.g ⟨[(1, 12)], _, _, _, ic, ?_⟩
    simp only [ZE,↓reduceIte,pE,pL,pA,pS,pM,pD, eFile, eScopes, eIdx, sMp, eScope, mget_s, keyedS, keyOkS]
    rintro V ol new ⟨rfl, rfl, rfl⟩
    simp only [ZE,↓reduceIte,pE,pL,pA,pS,pM,pD, eFile, eScopes, eIdx, sMp, eScope, mget_s, keyedS, keyOkS, hw']
    exact h'
   ·have : k = l[i].items.length := by omega
    subst this
    simp (maxSteps := 4000000) only [ZE,↓reduceIte,pE,pL,pA,pS,pM,pD, dec_ge h', zN,qT,qG,qL,qH,qN,qB,qE,qO,qA,qM, eFile, eScopes, eIdx, sMp, eScope, mget_s, keyedS, keyOkS, pMap, hw]
    exact h
  ·have : i = l.length := by omega
   subst this
   have hfd := found_ok hS l.length (Nat.le_refl _)
   rw [List.take_length] at hfd
   have kc := keys_c (found l) (pV (found l)) (List.range (found l).length) (found l).length
   have so := sorted_c (found l) (pV (found l)) (List.range (found l).length) (found l).length (by unfold found; omega)
   have hfe : l.zipIdx.foldl (modF l) [] = found l := rfl
   simp (maxSteps := 4000000) only [ZE,↓reduceIte,pE,pL,pA,pS,pM,pD, dec_ge h, List.take_length, zN,qT,qG,qL,qH,qN,qB,qE,qO,qA,qM, eFile, eScopes, eIdx, sMp, eScope, mget_s, keyedS, keyOkS, pMap, hfe]
   refine EFn.p ?_
   simp only [ZE,↓reduceIte,pE,pL,pA,pS,pM,pD, pK]
   refine ECall.i kc ?_
   simp only [ZE,↓reduceIte,pE,pL,pA,pS,pM,pD]
   refine EFn.p ?_
   simp only [ZE,↓reduceIte,pE,pL,pA,pS,pM,pD]
   refine ECall.i so ?_
   simp only [ZE,↓reduceIte,pE,pL,pA,pS,pM,pD, check]
end Go.Proofs.Ytejpmjnefokdoaa

namespace Go.Proofs.Ytejpmjnefokdoaa
open Go.Aw
open Nat renaming reduceEqDiff → pE, reduceLT → pL, reduceAdd → pA, reduceSub → pS, reduceMul → pM, reduceLeDiff → pD
open Int renaming reduceToNat → qT, reduceGT → qG, reduceLT → qL, reduceGE → qH, reduceBNe → qN, reduceBEq → qB, reduceLE → qE, reduceNe → qO, reduceAdd → qA, reduceNeg → qM
set_option maxRecDepth 100000
set_option maxHeartbeats 1000000
/-- Short strings. -/
def st (s : List UInt8) (h : s.length ≤ 100 := by decide) : Str := ⟨⟨s.toArray⟩, by
 have : (⟨s.toArray⟩ : ByteArray).size = s.length := by simp [ByteArray.size]
 rw [this]; unfold maxLen; omega⟩
def byteL (l : List Nat) (i : Nat) : Nat := if l.length = 0 then 0 else l.getD (i % l.length) 0
theorem byteL_lt {l : List Nat} (h : ∀ b ∈ l, b < 256) (i : Nat) : byteL l i < 256 := by
 unfold byteL
 split
 ·omega
 ·have hl : i % l.length < l.length := Nat.mod_lt _ (by omega)
  have : l.getD (i % l.length) 0 = l[i % l.length] := by simp [List.getD, hl]
  rw [this]
  exact h _ (List.getElem_mem hl)
theorem at_c (l : List Nat) (i : Nat) (hb : ∀ b ∈ l, b < 256) (hi : i < 4611686018427387904) : FnP Try.prog 42 [eBytes l, eI i] (.d (eI (byteL l i))) [] := by
 refine FnP.of_eC (own := []) (fun _ => []) mixed Try.func42 rfl Try.call42 Try.ntmps42 (Nat.le_of_ble_eq_true rfl) Try.results42 (fun hok => ?_)
 have hl : l.length ≤ 9223372036854775807 := (ok_map (okL_cons hok).1).1
 by_cases h : l.length = 0
 ·have h' : ((l.length : Int) == 0) = true := by simpa using h
  simp (maxSteps := 4000000) only [ZE,↓reduceIte,pE,pL,pA,pS,pM,pD, h', zN,qT,qG,qL,qH,qN,qB,qE,qO,qA,qM, byteL, if_pos h]
 ·have h' : ((l.length : Int) == 0) = false := by simpa using h
  have ht : (i : Int).tmod (l.length : Int) = ((i % l.length : Nat) : Int) := (Int.ofNat_tmod i l.length).symm
  have hm : i % l.length < l.length := Nat.mod_lt _ (by omega)
  have hbl : byteL l i = l[i % l.length] := by rw [byteL, if_neg h]; simp [List.getD, hm]
  have hlt := hb _ (List.getElem_mem hm)
  have hw : IntKind.i64.wrap (l[i % l.length] : Int) = (l[i % l.length] : Int) := wrap_id (by omega) (by omega)
  have h0 : ¬ (l.length : Int) = 0 := by omega
  simp (maxSteps := 4000000) only [ZE,↓reduceIte,pE,pL,pA,pS,pM,pD, h', zN,qT,qG,qL,qH,qN,qB,qE,qO,qA,qM, ht, Int.toNat_natCast, getD_map hm, lt_int hm, hw, hbl, h0]
def leaf (l : List Nat) (ns : List Str) (w : Num) (a : Nat) : Expr :=
 if byteL l a % 2 = 0 then .mk 14 (ns.getD (byteL l a / 8 % ns.length) emp) zNum zNum [] else .mk 1 emp ⟨(byteL l a / 8 % 2 : Nat), emp⟩ w []
def condOf (x y : Expr) (b : Nat) : Expr :=
 if b % 4 = 0 then .mk 8 emp zNum zNum [x, y] else if b % 4 = 1 then .mk 9 emp zNum zNum [x, y] else if b % 4 = 2 then .mk 12 emp zNum ⟨1, emp⟩ [x] else .mk 1 emp ⟨1, emp⟩ ⟨1, emp⟩ []
def nodeOf (x y c : Expr) (b : Nat) : Expr :=
 if b / 8 % 7 = 0 then .mk 2 emp zNum zNum [x] else if b / 8 % 7 = 1 then .mk 3 emp zNum zNum [x, y] else if b / 8 % 7 = 2 then .mk 4 emp zNum zNum [x, y] else if b / 8 % 7 = 3 then .mk 5 emp zNum zNum [x, y]
 else if b / 8 % 7 = 4 then .mk 6 emp zNum zNum [x, y] else if b / 8 % 7 = 5 then .mk 7 emp zNum zNum [x, y] else .mk 10 emp zNum zNum [c, x, y]
/-- An expression that bytes say, of some depth. -/
def gen (l : List Nat) (ns : List Str) (w : Num) : Nat → Nat → Expr
 | 0, a => leaf l ns w a
 | d + 1, a => if byteL l a % 8 < 3 then leaf l ns w a else
  nodeOf (gen l ns w d (3 * a + 1)) (gen l ns w d (3 * a + 2)) (condOf (gen l ns w d (3 * a + 4)) (leaf l ns w (3 * a + 5)) (byteL l (3 * a + 3))) (byteL l a)
def cond (l : List Nat) (ns : List Str) (w : Num) (d a : Nat) : Expr := condOf (gen l ns w d (a + 1)) (leaf l ns w (a + 2)) (byteL l a)
def eCtx (ns : List Str) (w : Num) : D := .agg [eStrs ns, eI w.n, eS w.p]
def eAt (a d : Int) : D := .agg [eI a, eI d]
theorem gen0_c (l : List Nat) (ns : List Str) (w : Num) (hb : ∀ b ∈ l, b < 256) (hn : 0 < ns.length) (hn2 : ns.length ≤ 1000) (a : Nat) (ha : a ≤ 1000000) : FnP Try.prog 29 [eBytes l, eAt a 0, eCtx ns w] (.d (.agg (eExpr (gen l ns w 0 a)))) [] := by
 refine FnP.of_eC (own := []) (fun i => if i = 2004 then [.chn, .ord ⟨[(0, none), (1, none), (2, none), (3, none), (4, none), (5, none), (6, none), (7, none), (8, none), (9, none), (10, none), (11, some [])]⟩] else chL i) mixed Try.func29 rfl Try.call29 Try.ntmps29 (Nat.le_of_ble_eq_true rfl) Try.results29 (fun hok => ?_)
 have ac := at_c l a hb (by omega)
 have hB := byteL_lt hb a
 obtain ⟨b, hbb⟩ : ∃ b, byteL l a = b := ⟨_, rfl⟩
 rw [hbb] at ac hB
 simp only [ZE,↓reduceIte,pE,pL,pA,pS,pM,pD] at ac
 have hm : ((b : Int).tmod 2 == 0) = decide (b % 2 = 0) := by
  rw [show ((b : Int).tmod 2) = ((b % 2 : Nat) : Int) from (Int.ofNat_tmod b 2).symm, Bool.eq_iff_iff]; simp; omega
 have hq : (b : Int).tdiv 8 = ((b / 8 : Nat) : Int) := (Int.ofNat_tdiv b 8).symm
 have hwq : IntKind.i64.wrap ((b / 8 : Nat) : Int) = ((b / 8 : Nat) : Int) := wrap_id (by omega) (by omega)
 have hr : ((b / 8 : Nat) : Int).tmod (ns.length : Int) = ((b / 8 % ns.length : Nat) : Int) := (Int.ofNat_tmod _ _).symm
 have hr2 : ((b / 8 : Nat) : Int).tmod 2 = ((b / 8 % 2 : Nat) : Int) := (Int.ofNat_tmod _ _).symm
 have hlt : b / 8 % ns.length < ns.length := Nat.mod_lt _ hn
 have hgt : decide ((ns.length : Int) > 0) = true := by simp; omega
 have hne : ¬ (ns.length : Int) = 0 := by omega
 have hL : gen l ns w 0 a = leaf l ns w a := rfl
 rw [hL, leaf, hbb]
 simp (maxSteps := 4000000) only [ZE,↓reduceIte,pE,pL,pA,pS,pM,pD, eAt, eCtx, zN,qT,qG,qL,qH,qN,qB,qE,qO,qA,qM]
 refine EFn.p ?_
 simp only [ZE,↓reduceIte,pE,pL,pA,pS,pM,pD]
 refine ECall.i ac ?_
 by_cases he : b % 2 = 0
 ·have hg : ns.getD (b / 8 % ns.length) emp = ns[b / 8 % ns.length] := by simp [List.getD, hlt]
  rw [if_pos he, hg]
  simp only [ZE,↓reduceIte,pE,pL,pA,pS,pM,pD, zN,qT,qG,qL,qH,qN,qB,qE,qO,qA,qM, hm, he, decide_true, hgt, hq, hr, hne, hwq, lt_int hlt, getD_map hlt, Int.toNat_natCast, Expr.op, Expr.name, Expr.k, Expr.w, Expr.args, zNum, emp, Int.reduceEq, not_false_eq_true]
  show ordB _ _ _ = true
  kernel_rfl
 ·rw [if_neg he]
  simp only [ZE,↓reduceIte,pE,pL,pA,pS,pM,pD, zN,qT,qG,qL,qH,qN,qB,qE,qO,qA,qM, hm, he, decide_false, hgt, hq, hwq, hr2, Expr.op, Expr.name, Expr.k, Expr.w, Expr.args, zNum, emp, Int.reduceEq, not_false_eq_true]
theorem cond_c (l : List Nat) (ns : List Str) (w : Num) (hb : ∀ b ∈ l, b < 256) (d a : Nat) (ha : a ≤ 1000000)
  (i1 : FnP Try.prog 29 [eBytes l, eAt ((a + 1 : Nat) : Int) d, eCtx ns w] (.d (.agg (eExpr (gen l ns w d (a + 1))))) [])
  (i2 : FnP Try.prog 29 [eBytes l, eAt ((a + 2 : Nat) : Int) 0, eCtx ns w] (.d (.agg (eExpr (gen l ns w 0 (a + 2))))) []) :
  FnP Try.prog 44 [eBytes l, eAt a d, eCtx ns w] (.d (.agg (eExpr (cond l ns w d a)))) [] := by
 refine FnP.of_eC (own := []) (fun i => if i = 2001 then [.flt ⟨[(0, none), (1, none), (2, none), (3, none), (4, none), (5, none), (6, none), (7, none), (8, none), (9, none), (10, none), (11, none), (12, none), (13, none), (14, none), (15, none), (18, some []), (19, some [])]⟩ ⟨[16, 17], [(18, [16]), (19, [17])]⟩] else chL i) mixed Try.func44 rfl Try.call44 Try.ntmps44 (Nat.le_of_ble_eq_true rfl) Try.results44 (fun hok => ?_)
 have ac := at_c l a hb (by omega)
 have hB := byteL_lt hb a
 obtain ⟨b, hbb⟩ : ∃ b, byteL l a = b := ⟨_, rfl⟩
 rw [hbb] at ac hB
 obtain ⟨x, hx⟩ : ∃ x, gen l ns w d (a + 1) = x := ⟨_, rfl⟩
 obtain ⟨y, hy⟩ : ∃ y, leaf l ns w (a + 2) = y := ⟨_, rfl⟩
 have hy' : gen l ns w 0 (a + 2) = y := hy
 rw [cond, hbb, hx, hy]
 rw [hx] at i1
 rw [hy'] at i2
 have w1 : IntKind.i64.wrap ((a : Int) + 1) = ((a + 1 : Nat) : Int) := by rw [← Int.natCast_succ]; exact wrap_id (by omega) (by omega)
 have w2 : IntKind.i64.wrap ((a : Int) + 2) = ((a + 2 : Nat) : Int) := wrap_id (by omega) (by omega)
 have hm : (b : Int).tmod 4 = ((b % 4 : Nat) : Int) := (Int.ofNat_tmod b 4).symm
 simp only [ZE,↓reduceIte,pE,pL,pA,pS,pM,pD, eAt, eCtx] at ac i1 i2
 simp (maxSteps := 4000000) only [ZE,↓reduceIte,pE,pL,pA,pS,pM,pD, eAt, eCtx, zN,qT,qG,qL,qH,qN,qB,qE,qO,qA,qM, w1, w2]
 refine ⟨by kernel_rfl, ECall'.i i1 ?_⟩
 simp (maxSteps := 4000000) only [ZE,↓reduceIte,pE,pL,pA,pS,pM,pD, eAt, eCtx, zN,qT,qG,qL,qH,qN,qB,qE,qO,qA,qM, w1, w2]
 refine ECall'.i i2 ?_
 simp (maxSteps := 4000000) only [ZE,↓reduceIte,pE,pL,pA,pS,pM,pD, eAt, eCtx, zN,qT,qG,qL,qH,qN,qB,qE,qO,qA,qM, w1, w2]
 refine EFn.p ?_
 simp only [ZE,↓reduceIte,pE,pL,pA,pS,pM,pD]
 refine ECall.i ac ?_
 by_cases b0 : b % 4 = 0
 ·have h0 : (((b % 4 : Nat) : Int) == 0) = true := by simp [b0]
  rw [condOf, if_pos b0]
  simp only [ZE,↓reduceIte,pE,pL,pA,pS,pM,pD, zN,qT,qG,qL,qH,qN,qB,qE,qO,qA,qM, hm, h0, Expr.op, Expr.name, Expr.k, Expr.w, Expr.args, zNum, emp, Int.reduceEq, not_false_eq_true]
 have h0 : (((b % 4 : Nat) : Int) == 0) = false := by simp; omega
 by_cases b1 : b % 4 = 1
 ·have h1 : (((b % 4 : Nat) : Int) == 1) = true := by simp [b1]
  rw [condOf, if_neg b0, if_pos b1]
  simp only [ZE,↓reduceIte,pE,pL,pA,pS,pM,pD, zN,qT,qG,qL,qH,qN,qB,qE,qO,qA,qM, hm, h0, h1, Expr.op, Expr.name, Expr.k, Expr.w, Expr.args, zNum, emp, Int.reduceEq, not_false_eq_true]
 have h1 : (((b % 4 : Nat) : Int) == 1) = false := by simp; omega
 by_cases b2 : b % 4 = 2
 ·have h2 : (((b % 4 : Nat) : Int) == 2) = true := by simp [b2]
  rw [condOf, if_neg b0, if_neg b1, if_pos b2]
  simp only [ZE,↓reduceIte,pE,pL,pA,pS,pM,pD, zN,qT,qG,qL,qH,qN,qB,qE,qO,qA,qM, hm, h0, h1, h2, Expr.op, Expr.name, Expr.k, Expr.w, Expr.args, zNum, emp, Int.reduceEq, not_false_eq_true]
 have h2 : (((b % 4 : Nat) : Int) == 2) = false := by simp; omega
 rw [condOf, if_neg b0, if_neg b1, if_neg b2]
 simp only [ZE,↓reduceIte,pE,pL,pA,pS,pM,pD, zN,qT,qG,qL,qH,qN,qB,qE,qO,qA,qM, hm, h0, h1, h2, Expr.op, Expr.name, Expr.k, Expr.w, Expr.args, zNum, emp, Int.reduceEq, not_false_eq_true]
theorem genS_c (l : List Nat) (ns : List Str) (w : Num) (hb : ∀ b ∈ l, b < 256) (hn : 0 < ns.length) (hn2 : ns.length ≤ 1000) (d a : Nat) (hd : d ≤ 100) (ha : a ≤ 100000)
  (i1 : FnP Try.prog 29 [eBytes l, eAt ((3 * a + 1 : Nat) : Int) d, eCtx ns w] (.d (.agg (eExpr (gen l ns w d (3 * a + 1))))) [])
  (i2 : FnP Try.prog 29 [eBytes l, eAt ((3 * a + 2 : Nat) : Int) d, eCtx ns w] (.d (.agg (eExpr (gen l ns w d (3 * a + 2))))) [])
  (i3 : FnP Try.prog 44 [eBytes l, eAt ((3 * a + 3 : Nat) : Int) d, eCtx ns w] (.d (.agg (eExpr (cond l ns w d (3 * a + 3))))) []) :
  FnP Try.prog 29 [eBytes l, eAt a ((d + 1 : Nat) : Int), eCtx ns w] (.d (.agg (eExpr (gen l ns w (d + 1) a)))) [] := by
 refine FnP.of_eC (own := []) (fun i => if i = 2004 then [.chn, .ord ⟨[(0, none), (1, none), (2, none), (3, none), (4, none), (5, none), (6, none), (7, none), (8, none), (9, none), (10, none), (11, some [])]⟩] else if i = 2021 then [.ord ⟨[(0, none), (1, none), (2, none), (3, none), (4, none), (5, none), (6, none), (7, none), (8, none), (9, none), (10, none), (11, none), (12, none), (13, none), (14, none), (15, some [])]⟩] else chL i) mixed Try.func29 rfl Try.call29 Try.ntmps29 (Nat.le_of_ble_eq_true rfl) Try.results29 (fun hok => ?_)
 have ac := at_c l a hb (by omega)
 have hB := byteL_lt hb a
 have hgen : gen l ns w (d + 1) a = if byteL l a % 8 < 3 then leaf l ns w a else nodeOf (gen l ns w d (3 * a + 1)) (gen l ns w d (3 * a + 2)) (cond l ns w d (3 * a + 3)) (byteL l a) := rfl
 obtain ⟨b, hbb⟩ : ∃ b, byteL l a = b := ⟨_, rfl⟩
 obtain ⟨x, hx⟩ : ∃ x, gen l ns w d (3 * a + 1) = x := ⟨_, rfl⟩
 obtain ⟨y, hy⟩ : ∃ y, gen l ns w d (3 * a + 2) = y := ⟨_, rfl⟩
 obtain ⟨z, hz⟩ : ∃ z, cond l ns w d (3 * a + 3) = z := ⟨_, rfl⟩
 rw [hx, hy, hz, hbb] at hgen
 rw [hgen]
 rw [hx] at i1
 rw [hy] at i2
 rw [hz] at i3
 rw [hbb] at ac hB
 have hm : ((b : Int).tmod 2 == 0) = decide (b % 2 = 0) := by
  rw [show ((b : Int).tmod 2) = ((b % 2 : Nat) : Int) from (Int.ofNat_tmod b 2).symm, Bool.eq_iff_iff]; simp; omega
 have hm8 : decide ((b : Int).tmod 8 < 3) = decide (b % 8 < 3) := by
  rw [show ((b : Int).tmod 8) = ((b % 8 : Nat) : Int) from (Int.ofNat_tmod b 8).symm, Bool.eq_iff_iff]; simp; omega
 have hq : (b : Int).tdiv 8 = ((b / 8 : Nat) : Int) := (Int.ofNat_tdiv b 8).symm
 have hwq : IntKind.i64.wrap ((b / 8 : Nat) : Int) = ((b / 8 : Nat) : Int) := wrap_id (by omega) (by omega)
 have hr : ((b / 8 : Nat) : Int).tmod (ns.length : Int) = ((b / 8 % ns.length : Nat) : Int) := (Int.ofNat_tmod _ _).symm
 have hr2 : ((b / 8 : Nat) : Int).tmod 2 = ((b / 8 % 2 : Nat) : Int) := (Int.ofNat_tmod _ _).symm
 have hr7 : ((b / 8 : Nat) : Int).tmod 7 = ((b / 8 % 7 : Nat) : Int) := (Int.ofNat_tmod _ _).symm
 have hlt : b / 8 % ns.length < ns.length := Nat.mod_lt _ hn
 have hgt : decide ((ns.length : Int) > 0) = true := by simp; omega
 have hne : ¬ (ns.length : Int) = 0 := by omega
 have w3 : IntKind.i64.wrap (3 * (a : Int)) = ((3 * a : Nat) : Int) := wrap_id (by omega) (by omega)
 have w1 : IntKind.i64.wrap (((3 * a : Nat) : Int) + 1) = ((3 * a + 1 : Nat) : Int) := wrap_id (by omega) (by omega)
 have w2 : IntKind.i64.wrap (((3 * a : Nat) : Int) + 2) = ((3 * a + 2 : Nat) : Int) := wrap_id (by omega) (by omega)
 have w4 : IntKind.i64.wrap (((3 * a : Nat) : Int) + 3) = ((3 * a + 3 : Nat) : Int) := wrap_id (by omega) (by omega)
 have wd : IntKind.i64.wrap (((d + 1 : Nat) : Int) - 1) = (d : Int) := by rw [show ((d + 1 : Nat) : Int) - 1 = (d : Int) by omega]; exact wrap_id (by omega) (by omega)
 have hd0 : (((d + 1 : Nat) : Int) == 0) = false := by simp; omega
 simp only [ZE,↓reduceIte,pE,pL,pA,pS,pM,pD, eAt, eCtx] at ac i1 i2 i3
 simp (maxSteps := 4000000) only [ZE,↓reduceIte,pE,pL,pA,pS,pM,pD, eAt, eCtx, zN,qT,qG,qL,qH,qN,qB,qE,qO,qA,qM]
 refine EFn.p ?_
 simp only [ZE,↓reduceIte,pE,pL,pA,pS,pM,pD]
 refine ECall.i ac ?_
 by_cases h8 : b % 8 < 3
 ·rw [if_pos h8, leaf, hbb]
  by_cases he : b % 2 = 0
  ·have hg : ns.getD (b / 8 % ns.length) emp = ns[b / 8 % ns.length] := by simp [List.getD, hlt]
   rw [if_pos he, hg]
   simp only [ZE,↓reduceIte,pE,pL,pA,pS,pM,pD, zN,qT,qG,qL,qH,qN,qB,qE,qO,qA,qM, hd0, hm8, h8, hm, he, decide_true, hgt, hq, hr, hne, hwq, lt_int hlt, getD_map hlt, Int.toNat_natCast, Expr.op, Expr.name, Expr.k, Expr.w, Expr.args, zNum, emp, Int.reduceEq, not_false_eq_true]
   show ordB _ _ _ = true
   kernel_rfl
  ·rw [if_neg he]
   simp only [ZE,↓reduceIte,pE,pL,pA,pS,pM,pD, zN,qT,qG,qL,qH,qN,qB,qE,qO,qA,qM, hd0, hm8, h8, hm, he, decide_true, decide_false, hgt, hq, hwq, hr2, Expr.op, Expr.name, Expr.k, Expr.w, Expr.args, zNum, emp, Int.reduceEq, not_false_eq_true]
 ·rw [if_neg h8]
  simp only [ZE,↓reduceIte,pE,pL,pA,pS,pM,pD, zN,qT,qG,qL,qH,qN,qB,qE,qO,qA,qM, hd0, hm8, h8, decide_false, w3, w1, wd, Int.reduceEq, not_false_eq_true]
  refine EFn.p ?_
  simp only [ZE,↓reduceIte,pE,pL,pA,pS,pM,pD]
  refine ECall.i i1 ?_
  simp only [ZE,↓reduceIte,pE,pL,pA,pS,pM,pD, zN,qT,qG,qL,qH,qN,qB,qE,qO,qA,qM, w3, w2, wd]
  refine EFn.p ?_
  simp only [ZE,↓reduceIte,pE,pL,pA,pS,pM,pD]
  refine ECall.i i2 ?_
  rw [nodeOf]
  by_cases e0 : b / 8 % 7 = 0
  ·have h0 : (((b / 8 % 7 : Nat) : Int) == 0) = true := by simp [e0]
   rw [if_pos e0]
   simp only [ZE,↓reduceIte,pE,pL,pA,pS,pM,pD, zN,qT,qG,qL,qH,qN,qB,qE,qO,qA,qM, hq, hwq, hr7, hm, h0, Expr.op, Expr.name, Expr.k, Expr.w, Expr.args, zNum, emp, Int.reduceEq, not_false_eq_true]
  have h0 : (((b / 8 % 7 : Nat) : Int) == 0) = false := by simp; omega
  rw [if_neg e0]
  by_cases e1 : b / 8 % 7 = 1
  ·have h1 : (((b / 8 % 7 : Nat) : Int) == 1) = true := by simp [e1]
   rw [if_pos e1]
   simp only [ZE,↓reduceIte,pE,pL,pA,pS,pM,pD, zN,qT,qG,qL,qH,qN,qB,qE,qO,qA,qM, hq, hwq, hr7, h0, h1, Expr.op, Expr.name, Expr.k, Expr.w, Expr.args, zNum, emp, Int.reduceEq, not_false_eq_true]
  have h1 : (((b / 8 % 7 : Nat) : Int) == 1) = false := by simp; omega
  rw [if_neg e1]
  by_cases e2 : b / 8 % 7 = 2
  ·have h2 : (((b / 8 % 7 : Nat) : Int) == 2) = true := by simp [e2]
   rw [if_pos e2]
   simp only [ZE,↓reduceIte,pE,pL,pA,pS,pM,pD, zN,qT,qG,qL,qH,qN,qB,qE,qO,qA,qM, hq, hwq, hr7, h0, h1, h2, Expr.op, Expr.name, Expr.k, Expr.w, Expr.args, zNum, emp, Int.reduceEq, not_false_eq_true]
  have h2 : (((b / 8 % 7 : Nat) : Int) == 2) = false := by simp; omega
  rw [if_neg e2]
  by_cases e3 : b / 8 % 7 = 3
  ·have h3 : (((b / 8 % 7 : Nat) : Int) == 3) = true := by simp [e3]
   rw [if_pos e3]
   simp only [ZE,↓reduceIte,pE,pL,pA,pS,pM,pD, zN,qT,qG,qL,qH,qN,qB,qE,qO,qA,qM, hq, hwq, hr7, h0, h1, h2, h3, Expr.op, Expr.name, Expr.k, Expr.w, Expr.args, zNum, emp, Int.reduceEq, not_false_eq_true]
  have h3 : (((b / 8 % 7 : Nat) : Int) == 3) = false := by simp; omega
  rw [if_neg e3]
  by_cases e4 : b / 8 % 7 = 4
  ·have h4 : (((b / 8 % 7 : Nat) : Int) == 4) = true := by simp [e4]
   rw [if_pos e4]
   simp only [ZE,↓reduceIte,pE,pL,pA,pS,pM,pD, zN,qT,qG,qL,qH,qN,qB,qE,qO,qA,qM, hq, hwq, hr7, h0, h1, h2, h3, h4, Expr.op, Expr.name, Expr.k, Expr.w, Expr.args, zNum, emp, Int.reduceEq, not_false_eq_true]
  have h4 : (((b / 8 % 7 : Nat) : Int) == 4) = false := by simp; omega
  rw [if_neg e4]
  by_cases e5 : b / 8 % 7 = 5
  ·have h5 : (((b / 8 % 7 : Nat) : Int) == 5) = true := by simp [e5]
   rw [if_pos e5]
   simp only [ZE,↓reduceIte,pE,pL,pA,pS,pM,pD, zN,qT,qG,qL,qH,qN,qB,qE,qO,qA,qM, hq, hwq, hr7, h0, h1, h2, h3, h4, h5, Expr.op, Expr.name, Expr.k, Expr.w, Expr.args, zNum, emp, Int.reduceEq, not_false_eq_true]
  have h5 : (((b / 8 % 7 : Nat) : Int) == 5) = false := by simp; omega
  rw [if_neg e5]
  simp only [ZE,↓reduceIte,pE,pL,pA,pS,pM,pD, zN,qT,qG,qL,qH,qN,qB,qE,qO,qA,qM, hq, hwq, hr7, h0, h1, h2, h3, h4, h5, w3, w4, wd, Expr.op, Expr.name, Expr.k, Expr.w, Expr.args, zNum, emp, Int.reduceEq, not_false_eq_true]
  refine ⟨by kernel_rfl, ECall'.i i3 ?_⟩
  simp only [ZE,↓reduceIte,pE,pL,pA,pS,pM,pD, zN,qT,qG,qL,qH,qN,qB,qE,qO,qA,qM, Expr.op, Expr.name, Expr.k, Expr.w, Expr.args, zNum, emp, Int.reduceEq, not_false_eq_true]
/-- Expressions of depth 1 and conditions. -/
theorem gen1_c (l : List Nat) (ns : List Str) (w : Num) (hb : ∀ b ∈ l, b < 256) (hn : 0 < ns.length) (hn2 : ns.length ≤ 1000) (a : Nat) (ha : a ≤ 10000) : FnP Try.prog 29 [eBytes l, eAt a 1, eCtx ns w] (.d (.agg (eExpr (gen l ns w 1 a)))) [] :=
 genS_c l ns w hb hn hn2 0 a (by omega) (by omega) (gen0_c l ns w hb hn hn2 _ (by omega)) (gen0_c l ns w hb hn hn2 _ (by omega)) (cond_c l ns w hb 0 _ (by omega) (gen0_c l ns w hb hn hn2 _ (by omega)) (gen0_c l ns w hb hn hn2 _ (by omega)))
theorem cond1_c (l : List Nat) (ns : List Str) (w : Num) (hb : ∀ b ∈ l, b < 256) (hn : 0 < ns.length) (hn2 : ns.length ≤ 1000) (a : Nat) (ha : a ≤ 1000) : FnP Try.prog 28 [eBytes l, eI a, eCtx ns w] (.d (.agg (eExpr (cond l ns w 1 a)))) [] := by
 refine FnP.of_eC (own := []) (fun _ => []) mixed Try.func28 rfl Try.call28 Try.ntmps28 (Nat.le_of_ble_eq_true rfl) Try.results28 (fun hok => ?_)
 have cc := cond_c l ns w hb 1 a (by omega) (gen1_c l ns w hb hn hn2 _ (by omega)) (gen0_c l ns w hb hn hn2 _ (by omega))
 simp only [ZE,↓reduceIte,pE,pL,pA,pS,pM,pD, eAt, eCtx, Int.natCast_one] at cc
 simp (maxSteps := 4000000) only [ZE,↓reduceIte,pE,pL,pA,pS,pM,pD, eCtx]
 refine EFn.p ?_
 simp only [ZE,↓reduceIte,pE,pL,pA,pS,pM,pD]
 refine ECall.i cc ?_
 simp only [ZE,↓reduceIte,pE,pL,pA,pS,pM,pD]
end Go.Proofs.Ytejpmjnefokdoaa

namespace Go.Proofs.Ytejpmjnefokdoaa
open Go.Aw
open Nat renaming reduceEqDiff → pE, reduceLT → pL, reduceAdd → pA, reduceSub → pS, reduceMul → pM, reduceLeDiff → pD
open Int renaming reduceToNat → qT, reduceGT → qG, reduceLT → qL, reduceGE → qH, reduceBNe → qN, reduceBEq → qB, reduceLE → qE, reduceNe → qO, reduceAdd → qA, reduceNeg → qM
set_option maxRecDepth 100000
set_option maxHeartbeats 2000000
def valid (l : List Module) : Bool := (found l).length == 0
theorem check_length (l : List Module) : (check l).length = (found l).length := sortP_length _
theorem valid_c (l : List Module) (hS : Small l) : FnP Try.prog 12 [.agg [eModules l]] (.d (eB (valid l))) [] := by
 refine FnP.of_eC (own := []) (fun _ => []) mixed Try.func12 rfl Try.call12 Try.ntmps12 (Nat.le_of_ble_eq_true rfl) Try.results12 (fun hok => ?_)
 have cc := check_c l hS
 simp only [ZE,↓reduceIte,pE,pL,pA,pS,pM,pD] at cc
 have h0 : (((found l).length : Int) == 0) = valid l := by
  rw [valid, Bool.eq_iff_iff]; simp
 simp (maxSteps := 4000000) only [ZE,↓reduceIte,pE,pL,pA,pS,pM,pD]
 refine EFn.p ?_
 simp only [ZE,↓reduceIte,pE,pL,pA,pS,pM,pD]
 refine ECall.i cc ?_
 simp only [ZE,↓reduceIte,pE,pL,pA,pS,pM,pD, check_length, h0]
end Go.Proofs.Ytejpmjnefokdoaa

namespace Go.Proofs.Ytejpmjnefokdoaa
open Go.Aw
open Nat renaming reduceEqDiff → pE, reduceLT → pL, reduceAdd → pA, reduceSub → pS, reduceMul → pM, reduceLeDiff → pD
open Int renaming reduceToNat → qT, reduceGT → qG, reduceLT → qL, reduceGE → qH, reduceBNe → qN, reduceBEq → qB, reduceLE → qE, reduceNe → qO, reduceAdd → qA, reduceNeg → qM
set_option maxRecDepth 100000
set_option maxHeartbeats 4000000
def sA : Str := st [97]
def sB : Str := st [98]
def sC : Str := st [99]
def sD : Str := st [100]
def sM : Str := st [109]
def sR : Str := st [114]
def sS : Str := st [115]
def sT : Str := st [116]
def sU : Str := st [117]
def sVV : Str := st [118]
def sW : Str := st [119]
def sX : Str := st [120]
def sY : Str := st [121]
def sAux : Str := st [97, 117, 120]
def sClk : Str := st [99, 108, 107]
def sCell : Str := st [99, 101, 108, 108]
def sTop : Str := st [116, 111, 112]
def ruleOf (b : Nat) : Rule := if b % 6 = 0 then ⟨0, emp, 0⟩ else if b % 6 = 1 then ⟨2, sR, 0⟩ else if b % 6 = 2 then ⟨3, sS, (b / 6 % 3 : Nat)⟩ else ⟨1, emp, 0⟩
theorem rule_c (b : Nat) (hb : b < 256) : FnP Try.prog 43 [eI b] (.d (.agg (eRule (ruleOf b)))) [] := by
 refine FnP.of_eC (own := []) (fun _ => []) mixed Try.func43 rfl Try.call43 Try.ntmps43 (Nat.le_of_ble_eq_true rfl) Try.results43 (fun hok => ?_)
 have hm : (b : Int).tmod 6 = ((b % 6 : Nat) : Int) := (Int.ofNat_tmod b 6).symm
 have hq : (b : Int).tdiv 6 = ((b / 6 : Nat) : Int) := (Int.ofNat_tdiv b 6).symm
 have hwq : IntKind.i64.wrap ((b / 6 : Nat) : Int) = ((b / 6 : Nat) : Int) := wrap_id (by omega) (by omega)
 have hr : ((b / 6 : Nat) : Int).tmod 3 = ((b / 6 % 3 : Nat) : Int) := (Int.ofNat_tmod _ _).symm
 by_cases b0 : b % 6 = 0
 ·have h0 : (((b % 6 : Nat) : Int) == 0) = true := by simp [b0]
  rw [ruleOf, if_pos b0]
  simp (maxSteps := 4000000) only [ZE,↓reduceIte,pE,pL,pA,pS,pM,pD, zN,qT,qG,qL,qH,qN,qB,qE,qO,qA,qM, hm, h0, Expr.op, Expr.name, Expr.k, Expr.w, Expr.args, zNum, emp, Int.reduceEq, not_false_eq_true]
 have h0 : (((b % 6 : Nat) : Int) == 0) = false := by simp; omega
 by_cases b1 : b % 6 = 1
 ·have h1 : (((b % 6 : Nat) : Int) == 1) = true := by simp [b1]
  rw [ruleOf, if_neg b0, if_pos b1]
  simp (maxSteps := 4000000) only [ZE,↓reduceIte,pE,pL,pA,pS,pM,pD, zN,qT,qG,qL,qH,qN,qB,qE,qO,qA,qM, hm, h0, h1, Expr.op, Expr.name, Expr.k, Expr.w, Expr.args, zNum, emp, Int.reduceEq, not_false_eq_true, sR, st]
 have h1 : (((b % 6 : Nat) : Int) == 1) = false := by simp; omega
 by_cases b2 : b % 6 = 2
 ·have h2 : (((b % 6 : Nat) : Int) == 2) = true := by simp [b2]
  rw [ruleOf, if_neg b0, if_neg b1, if_pos b2]
  simp (maxSteps := 4000000) only [ZE,↓reduceIte,pE,pL,pA,pS,pM,pD, zN,qT,qG,qL,qH,qN,qB,qE,qO,qA,qM, hm, h0, h1, h2, hq, hwq, hr, Expr.op, Expr.name, Expr.k, Expr.w, Expr.args, zNum, emp, Int.reduceEq, not_false_eq_true, sS, st]
 have h2 : (((b % 6 : Nat) : Int) == 2) = false := by simp; omega
 rw [ruleOf, if_neg b0, if_neg b1, if_neg b2]
 simp (maxSteps := 4000000) only [ZE,↓reduceIte,pE,pL,pA,pS,pM,pD, zN,qT,qG,qL,qH,qN,qB,qE,qO,qA,qM, hm, h0, h1, h2, Expr.op, Expr.name, Expr.k, Expr.w, Expr.args, zNum, emp, Int.reduceEq, not_false_eq_true]
def clockOf (b : Nat) : Str := if b % 3 = 0 then sAux else sClk
theorem clock_c (b : Nat) : FnP Try.prog 25 [eI b] (.d (eS (clockOf b))) [] := by
 refine FnP.of_eC (own := []) (fun _ => []) mixed Try.func25 rfl Try.call25 Try.ntmps25 (Nat.le_of_ble_eq_true rfl) Try.results25 (fun hok => ?_)
 have hm : (b : Int).tmod 3 = ((b % 3 : Nat) : Int) := (Int.ofNat_tmod b 3).symm
 by_cases b0 : b % 3 = 0
 ·have h0 : (((b % 3 : Nat) : Int) == 0) = true := by simp [b0]
  rw [clockOf, if_pos b0]
  simp (maxSteps := 4000000) only [ZE,↓reduceIte,pE,pL,pA,pS,pM,pD, zN,qT,qG,qL,qH,qN,qB,qE,qO,qA,qM, hm, h0, Expr.op, Expr.name, Expr.k, Expr.w, Expr.args, zNum, emp, Int.reduceEq, not_false_eq_true, sAux, st]
 have h0 : (((b % 3 : Nat) : Int) == 0) = false := by simp; omega
 rw [clockOf, if_neg b0]
 simp (maxSteps := 4000000) only [ZE,↓reduceIte,pE,pL,pA,pS,pM,pD, zN,qT,qG,qL,qH,qN,qB,qE,qO,qA,qM, hm, h0, Expr.op, Expr.name, Expr.k, Expr.w, Expr.args, zNum, emp, Int.reduceEq, not_false_eq_true, sClk, st]
def regI (name : Str) (l : List Nat) (a : Nat) (ns : List Str) (w : Num) : Item := { zItem with kind := ⟨4, rfl⟩, name := name, width := w, init := ⟨(byteL l a % 2 : Nat), emp⟩, a := gen l ns w 1 a, rule := ruleOf (byteL l (a + 1)) }
theorem reg_c (name : Str) (l : List Nat) (ns : List Str) (w : Num) (hb : ∀ b ∈ l, b < 256) (hn : 0 < ns.length) (hn2 : ns.length ≤ 1000) (a : Nat) (ha : a ≤ 1000) : FnP Try.prog 41 [eS name, eBytes l, eI a, eCtx ns w] (.d (.agg (eItem (regI name l a ns w)))) [] := by
 refine FnP.of_eC (own := []) (fun i => if i = 2001 then [.ord ⟨[(0, none), (1, none), (2, none), (3, none), (4, none), (5, none), (6, none), (7, none), (8, none), (9, none), (10, none), (11, none), (12, none), (13, none), (14, none), (15, none), (16, none), (17, none), (18, none), (19, some [])]⟩] else []) mixed Try.func41 rfl Try.call41 Try.ntmps41 (Nat.le_of_ble_eq_true rfl) Try.results41 (fun hok => ?_)
 have a1 := at_c l a hb (by omega)
 have a2 := at_c l (a + 1) hb (by omega)
 have g1 := gen1_c l ns w hb hn hn2 a (by omega)
 have r1 := rule_c (byteL l (a + 1)) (byteL_lt hb _)
 have w1 : IntKind.i64.wrap ((a : Int) + 1) = ((a + 1 : Nat) : Int) := wrap_id (by omega) (by omega)
 have hm : (byteL l a : Int).tmod 2 = ((byteL l a % 2 : Nat) : Int) := (Int.ofNat_tmod _ 2).symm
 simp only [ZE,↓reduceIte,pE,pL,pA,pS,pM,pD, eAt, eCtx] at a1 a2 g1 r1
 simp (maxSteps := 4000000) only [ZE,↓reduceIte,pE,pL,pA,pS,pM,pD, eCtx, zN,qT,qG,qL,qH,qN,qB,qE,qO,qA,qM, Int.reduceEq, not_false_eq_true]
 refine ⟨by kernel_rfl, ECall'.i a1 ?_⟩
 simp only [ZE,↓reduceIte,pE,pL,pA,pS,pM,pD, zN,qT,qG,qL,qH,qN,qB,qE,qO,qA,qM, Int.reduceEq, not_false_eq_true, true_and]
 refine ECall'.i g1 ?_
 simp only [ZE,↓reduceIte,pE,pL,pA,pS,pM,pD, zN,qT,qG,qL,qH,qN,qB,qE,qO,qA,qM, w1]
 refine ECall'.i a2 ?_
 simp only [ZE,↓reduceIte,pE,pL,pA,pS,pM,pD, zN,qT,qG,qL,qH,qN,qB,qE,qO,qA,qM]
 refine ECall'.i r1 ?_
 simp only [ZE,↓reduceIte,pE,pL,pA,pS,pM,pD, zN,qT,qG,qL,qH,qN,qB,qE,qO,qA,qM, hm, regI, zItem, zExpr, Expr.op, Expr.name, Expr.k, Expr.w, Expr.args, zNum, emp, Int.reduceEq, not_false_eq_true]
def instI (name : Str) (w : Num) (c0 c1 : Str) : Item := { zItem with kind := ⟨9, rfl⟩, name := name, of := sCell, args := [w], ports := [⟨sX, c0⟩, ⟨sY, c1⟩] }
def ePair (a b : Str) : D := .agg [eS a, eS b]
theorem inst_c (name : Str) (w : Num) (c0 c1 : Str) : FnP Try.prog 27 [eS name, .agg (eNum w), ePair c0 c1] (.d (.agg (eItem (instI name w c0 c1)))) [] := by
 refine FnP.of_eC (own := []) chL mixed Try.func27 rfl Try.call27 Try.ntmps27 (Nat.le_of_ble_eq_true rfl) Try.results27 (fun hok => ?_)
 simp (maxSteps := 4000000) only [ZE,↓reduceIte,pE,pL,pA,pS,pM,pD, ePair, zN,qT,qG,qL,qH,qN,qB,qE,qO,qA,qM, instI, zItem, zExpr, Expr.op, Expr.name, Expr.k, Expr.w, Expr.args, zNum, emp, Int.reduceEq, not_false_eq_true, sX, sY, sCell, st]
end Go.Proofs.Ytejpmjnefokdoaa
