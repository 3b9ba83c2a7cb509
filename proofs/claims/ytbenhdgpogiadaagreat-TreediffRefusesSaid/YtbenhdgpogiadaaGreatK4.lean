/-
 CONTRACTS of the functions that the law reaches, and plain laws on what they compute. Conditions: those of each law.
-/
import Derived.Test.YtbenhdgpogiadaaGreatK3
import Derived.Test.YtbenhdgpogiadaaGreatGIn
import Derived.Test.YtbenhdgpogiadaaGreatK1
import Derived.Shelf.RegionOpenPlain
import Derived.WalkKit
import Derived.Deep.LoopGhost
import Derived.Deep.RegionLaw
import Derived.Lib.Walk
import Derived.Lib.SliceRun
import Derived.OwnWalk
import Derived.Shelf.Spec.SlicesInsert
import Derived.Lib.AppendZerosOnto
import Derived.Laws.NewBlocks
import Derived.Test.YtbenhdgpogiadaaGreatGRb
import Derived.Test.YtbenhdgpogiadaaGreatK2
set_option linter.unusedSimpArgs false
set_option linter.unusedVariables false
namespace Go.Proofs.YtbenhdgpogiadaaGreat
open Go.Aw
open Nat renaming reduceEqDiff → pE, reduceLT → pL, reduceAdd → pA, reduceSub → pS, reduceMul → pM, reduceLeDiff → pD
open Int renaming reduceToNat → qT, reduceGT → qG, reduceLT → qL, reduceGE → qH, reduceBNe → qN, reduceBEq → qB, reduceLE → qE, reduceNe → qO, reduceAdd → qA, reduceNeg → qM
set_option maxRecDepth 100000
set_option maxHeartbeats 40000000
theorem items_c (l : List Edit) (n : Str) (a b : List Item) (hl : (l ++ itemsD n a b).length ≤ 4000000) : FnL Tryz.prog 67 [.bp 100 0, .d (eS n), .d (.sl (a.map eItem)), .d (.sl (b.map eItem))] (dfO 100 104 l)
  (fun V ol new => V = .tup [] ∧ ol = dfO 100 114 (l ++ itemsD n a b) ∧ new = [114]) := by
 refine FnL.of_eC (own := []) (fun _ => []) [0] mixed Tryz.func67 rfl Tryz.call67 Tryz.ntmps67 (Nat.le_of_ble_eq_true rfl) Tryz.results67 ?_
 have mc := mergeI_c l n a b hl
 simp only [dfN, dfO, setB, pairI, List.cons_append, List.nil_append] at mc
 simp only [dfO]
 simp (maxSteps := 4000000) only [ZE,↓reduceIte,pE,pL,pA,pS,pM,pD, zN,qT,qG,qL,qH,qN,qB,qE,qO,qA,qM]
 refine EFn.g ⟨[(100, 100), (101, 4), (102, 5), (103, 8), (104, 104), (114, 114)], _, _, _, mc, ?_⟩
 simp only [ZE,↓reduceIte,pE,pL,pA,pS,pM,pD]
 rintro V ol new ⟨rfl, rfl, rfl⟩
 simp only [ZE,↓reduceIte,pE,pL,pA,pS,pM,pD]
 refine ⟨[4, 5, 8], [114], ?_⟩
 simp only [ZE,↓reduceIte,pE,pL,pA,pS,pM,pD]
theorem items_n (l : List Edit) (n : Str) (a : List Item) (hl : (l ++ itemsD n a []).length ≤ 4000000) : FnL Tryz.prog 67 [.bp 100 0, .d (eS n), .d (.sl (a.map eItem)), .nils] (dfO 100 104 l)
  (fun V ol new => V = .tup [] ∧ ol = dfO 100 114 (l ++ itemsD n a []) ∧ new = [114]) :=
 (items_c l n a [] hl).weak fun O W F η vs h => by
  simp only [RelVs] at h ⊢
  obtain ⟨v0, _, rfl, h0, v1, _, rfl, h1, v2, _, rfl, h2, v3, _, rfl, h3, rfl⟩ := h
  exact ⟨_, _, rfl, h0, _, _, rfl, h1, _, _, rfl, h2, _, _, rfl, nils_sl h3, rfl⟩
theorem items_n' (l : List Edit) (n : Str) (b : List Item) (hl : (l ++ itemsD n [] b).length ≤ 4000000) : FnL Tryz.prog 67 [.bp 100 0, .d (eS n), .nils, .d (.sl (b.map eItem))] (dfO 100 104 l)
  (fun V ol new => V = .tup [] ∧ ol = dfO 100 114 (l ++ itemsD n [] b) ∧ new = [114]) :=
 (items_c l n [] b hl).weak fun O W F η vs h => by
  simp only [RelVs] at h ⊢
  obtain ⟨v0, _, rfl, h0, v1, _, rfl, h1, v2, _, rfl, h2, v3, _, rfl, h3, rfl⟩ := h
  exact ⟨_, _, rfl, h0, _, _, rfl, h1, _, _, rfl, nils_sl h2, _, _, rfl, h3, rfl⟩
theorem dgone_c (l : List Edit) (m : Module) (hl : (l ++ (itemsD m.name m.items [] ++ [eGone m.name])).length ≤ 4000000) : FnL Tryz.prog 66 [.d (.agg (eModule m)), .bp 101 0] (dfO 100 104 l ++ [(101, .box [.bp 100 0])])
  (fun V ol new => V = .tup [] ∧ ol = dfO 100 114 (l ++ (itemsD m.name m.items [] ++ [eGone m.name])) ++ [(101, .box [.bp 100 0])] ∧ new = [114]) := by
 refine FnL.of_eK 1999 [100] (own := []) (fun i => if i = 0 then [.rnm [(100, 100), (101, 101), (104, 114), (2, 2), (1999, 1999)]] else if i = 1 then [.rnm [(100, 100), (101, 101), (115, 114), (2, 2), (1999, 1999)]] else if i = 2002 then [.flt ⟨[(0, none), (1, none), (2, none), (3, none), (4, none), (5, none), (6, none), (7, none), (8, none), (9, some [0]), (10, none), (11, none), (12, some [])]⟩ ⟨[], []⟩] else []) [1] mixed Tryz.func66 rfl Tryz.call66 Tryz.ntmps66 (Nat.le_of_ble_eq_true rfl) Tryz.results66 (by simp [dfO, freeO, AO.noRef, AV.noRefs, AV.noRef]) (fun gs => ?_)
 have hl1 : (l ++ itemsD m.name m.items []).length + 1 ≤ 4000000 := by simpa [Nat.add_assoc] using hl
 have mc := items_n l m.name m.items (by omega)
 obtain ⟨L, hL⟩ : ∃ L, l ++ itemsD m.name m.items [] = L := ⟨_, rfl⟩
 rw [← List.append_assoc, hL, dfO_app]
 rw [hL] at mc hl1
 have hz : eEdit (eGone m.name) = eS m.name :: (ePart zPart ++ (eB false :: (eItem zItem ++ eModule zMod))) := rfl
 rw [hz]
 simp only [dfO] at mc
 simp only [ZE,↓reduceIte,pE,pL,pA,pS,pM,pD] at mc
 simp only [ZE,↓reduceIte,pE,pL,pA,pS,pM,pD, zN,qT,qG,qL,qH,qN,qB,qE,qO,qA,qM, dfO, ePart, zPart, zItem, zMod, zExpr, zNum, emp, op_mk, name_mk, k_mk, w_mk, args_mk, partI, List.map_nil]
 refine EFn.g ⟨[(100, 100), (104, 114), (114, 115)], _, _, _, mc, ?_⟩
 simp only [ZE,↓reduceIte,pE,pL,pA,pS,pM,pD]
 rintro V ol new ⟨rfl, rfl, rfl⟩
 simp only [ZE,↓reduceIte,pE,pL,pA,pS,pM,pD, zN,qT,qG,qL,qH,qN,qB,qE,qO,qA,qM, ePart, zPart, zItem, zMod, zExpr, zNum, emp, op_mk, name_mk, k_mk, w_mk, args_mk, partI, List.map_nil]
 refine ⟨by kernel_rfl, ⟨by omega, by omega⟩, by simp, [2, 1999], [114], ?_⟩
 simp only [ZE,↓reduceIte,pE,pL,pA,pS,pM,pD]
theorem dcome_c (l : List Edit) (m : Module) (hl : (l ++ (eHead m :: itemsD m.name [] m.items)).length ≤ 4000000) : FnL Tryz.prog 68 [.d (.agg (eModule m)), .bp 101 0] (dfO 100 104 l ++ [(101, .box [.bp 100 0])])
  (fun V ol new => V = .tup [] ∧ ol = dfO 100 114 (l ++ (eHead m :: itemsD m.name [] m.items)) ++ [(101, .box [.bp 100 0])] ∧ new = [114]) := by
 refine FnL.of_eK 1999 [100] (own := []) (fun i => if i = 0 then [.rnm [(100, 100), (101, 101), (104, 114), (2, 2), (1999, 1999)]] else if i = 1 then [.rnm [(100, 100), (101, 101), (115, 114), (2, 2), (1999, 1999)]] else if i = 2 then [.rnm [(100, 100), (101, 101), (115, 114), (2, 2), (1999, 1999)]] else []) [1] mixed Tryz.func68 rfl Tryz.call68 Tryz.ntmps68 (Nat.le_of_ble_eq_true rfl) Tryz.results68 (by simp [dfO, freeO, AO.noRef, AV.noRefs, AV.noRef]) (fun gs => ?_)
 have e : l ++ (eHead m :: itemsD m.name [] m.items) = (l ++ [eHead m]) ++ itemsD m.name [] m.items := by simp
 rw [e] at hl ⊢
 have hc := dhead_c l (by rw [List.length_append, List.length_append] at hl; omega) m
 have mc := items_n' (l ++ [eHead m]) m.name m.items hl
 simp only [dfO] at mc hc
 simp only [ZE,↓reduceIte,pE,pL,pA,pS,pM,pD] at mc hc
 simp only [ZE,↓reduceIte,pE,pL,pA,pS,pM,pD, zN,qT,qG,qL,qH,qN,qB,qE,qO,qA,qM, dfO]
 refine EFn.g ⟨[(0, 100), (1, 114), (40, 115)], _, _, _, hc, ?_⟩
 simp only [ZE,↓reduceIte,pE,pL,pA,pS,pM,pD]
 rintro V ol new ⟨rfl, rfl, rfl⟩
 simp only [ZE,↓reduceIte,pE,pL,pA,pS,pM,pD, zN,qT,qG,qL,qH,qN,qB,qE,qO,qA,qM]
 refine EFn.g ⟨[(100, 100), (104, 114), (114, 115)], _, _, _, mc, ?_⟩
 simp only [ZE,↓reduceIte,pE,pL,pA,pS,pM,pD]
 rintro V ol new ⟨rfl, rfl, rfl⟩
 simp only [ZE,↓reduceIte,pE,pL,pA,pS,pM,pD]
 refine ⟨[2, 1999], [114], ?_⟩
 simp only [ZE,↓reduceIte,pE,pL,pA,pS,pM,pD]
theorem dmod_c (l : List Edit) (m n : Module) (hl : (l ++ (headD m n ++ itemsD n.name m.items n.items)).length ≤ 4000000) : FnL Tryz.prog 70 [.d (.agg (eModule m)), .d (.agg (eModule n)), .bp 101 0] (dfO 100 104 l ++ [(101, .box [.bp 100 0])])
  (fun V ol new => V = .tup [] ∧ ol = dfO 100 114 (l ++ (headD m n ++ itemsD n.name m.items n.items)) ++ [(101, .box [.bp 100 0])] ∧ new = [114]) := by
 refine FnL.of_eK 1999 [100] (own := []) (fun i => if i = 0 then [.rnm [(100, 100), (101, 101), (104, 114), (3, 3), (4, 4), (1999, 1999)]] else if i = 2 then [.rnm [(100, 100), (101, 101), (115, 114), (3, 3), (4, 4), (1999, 1999)]] else if i = 3 then [.rnm [(100, 100), (101, 101), (115, 114), (3, 3), (4, 4), (1999, 1999)]] else []) [2] mixed Tryz.func70 rfl Tryz.call70 Tryz.ntmps70 (Nat.le_of_ble_eq_true rfl) Tryz.results70 (by simp [dfO, freeO, AO.noRef, AV.noRefs, AV.noRef]) (fun gs => ?_)
 have sc := sameH_c m n
 rcases Bool.eq_false_or_eq_true (sameH m n) with hs | hs
 ·have e : l ++ (headD m n ++ itemsD n.name m.items n.items) = l ++ itemsD n.name m.items n.items := by simp [headD, hs]
  rw [e] at hl ⊢
  have mc := items_c l n.name m.items n.items hl
  rw [hs] at sc
  simp only [dfO] at mc
  simp only [ZE,↓reduceIte,pE,pL,pA,pS,pM,pD] at mc sc
  simp only [ZE,↓reduceIte,pE,pL,pA,pS,pM,pD, zN,qT,qG,qL,qH,qN,qB,qE,qO,qA,qM, dfO]
  refine EFn.p ?_
  simp (maxSteps := 4000000) only [ZE,↓reduceIte,pE,pL,pA,pS,pM,pD, zN,qT,qG,qL,qH,qN,qB,qE,qO,qA,qM]
  refine ECall.i sc ?_
  simp (maxSteps := 4000000) only [ZE,↓reduceIte,pE,pL,pA,pS,pM,pD, zN,qT,qG,qL,qH,qN,qB,qE,qO,qA,qM]
  refine EFn.g ⟨[(100, 100), (104, 114), (114, 115)], _, _, _, mc, ?_⟩
  simp (maxSteps := 4000000) only [ZE,↓reduceIte,pE,pL,pA,pS,pM,pD]
  rintro V ol new ⟨rfl, rfl, rfl⟩
  simp (maxSteps := 4000000) only [ZE,↓reduceIte,pE,pL,pA,pS,pM,pD]
  refine ⟨[3, 4, 1999], [114], ?_⟩
  simp (maxSteps := 4000000) only [ZE,↓reduceIte,pE,pL,pA,pS,pM,pD]
 ·have e : l ++ (headD m n ++ itemsD n.name m.items n.items) = (l ++ [eHead n]) ++ itemsD n.name m.items n.items := by simp [headD, hs]
  rw [e] at hl ⊢
  have hc := dhead_c l (by rw [List.length_append, List.length_append] at hl; omega) n
  have mc := items_c (l ++ [eHead n]) n.name m.items n.items hl
  rw [hs] at sc
  simp only [dfO] at mc hc
  simp only [ZE,↓reduceIte,pE,pL,pA,pS,pM,pD] at mc sc hc
  simp only [ZE,↓reduceIte,pE,pL,pA,pS,pM,pD, zN,qT,qG,qL,qH,qN,qB,qE,qO,qA,qM, dfO]
  refine EFn.p ?_
  simp (maxSteps := 4000000) only [ZE,↓reduceIte,pE,pL,pA,pS,pM,pD, zN,qT,qG,qL,qH,qN,qB,qE,qO,qA,qM]
  refine ECall.i sc ?_
  simp (maxSteps := 4000000) only [ZE,↓reduceIte,pE,pL,pA,pS,pM,pD, zN,qT,qG,qL,qH,qN,qB,qE,qO,qA,qM]
  refine EFn.g ⟨[(0, 100), (1, 114), (40, 115)], _, _, _, hc, ?_⟩
  simp (maxSteps := 4000000) only [ZE,↓reduceIte,pE,pL,pA,pS,pM,pD]
  rintro V ol new ⟨rfl, rfl, rfl⟩
  simp (maxSteps := 4000000) only [ZE,↓reduceIte,pE,pL,pA,pS,pM,pD, zN,qT,qG,qL,qH,qN,qB,qE,qO,qA,qM]
  refine EFn.g ⟨[(100, 100), (104, 114), (114, 115)], _, _, _, mc, ?_⟩
  simp (maxSteps := 4000000) only [ZE,↓reduceIte,pE,pL,pA,pS,pM,pD]
  rintro V ol new ⟨rfl, rfl, rfl⟩
  simp (maxSteps := 4000000) only [ZE,↓reduceIte,pE,pL,pA,pS,pM,pD]
  refine ⟨[3, 4, 1999], [114], ?_⟩
  simp (maxSteps := 4000000) only [ZE,↓reduceIte,pE,pL,pA,pS,pM,pD]
def mM (m : Nat) (xs ys : List Module) : List Edit := mrgF ltS Module.name (fun m => itemsD m.name m.items [] ++ [eGone m.name]) (fun m => eHead m :: itemsD m.name [] m.items) (fun m n => headD m n ++ itemsD n.name m.items n.items) m xs ys
theorem diffN_mM (a b : List Module) : diffN a b = mM (a.length + b.length) a b := rfl
def pairM : List AV := [.d (.clo (.func 57) [] []), .clo (.func 66) [] [.bp 101 0], .clo (.func 68) [] [.bp 101 0], .clo (.func 70) [] [.bp 101 0]]
theorem cmpN_gt {a b : Str} : 0 < cmpN a b ↔ ltS b a = true := by
 have h1 : cmpN a b < 0 ↔ ltS a b = true := cmpB_lt _ _
 have h0 : cmpN a b = 0 ↔ a = b := cmpB_zero _ _
 constructor
 ·intro h
  cases hq : ltS b a with
  | true => rfl
  | false =>
   have := ordS.conn a b (by cases hr : ltS a b with | false => rfl | true => have := h1.2 hr; omega) hq
   have := h0.2 this
   omega
 ·intro h
  have h2 : ¬ cmpN a b < 0 := fun hc => by have := ordS.asymm (h1.1 hc); rw [h] at this; cases this
  have h3 : cmpN a b ≠ 0 := fun hc => by have := h0.1 hc; subst this; rw [ordS.irr] at h; cases h
  omega
theorem rowM (x : Module) (l : List Module) : ∀ e : List D, e = eModule x ∨ e ∈ l.map eModule → e.length = 4 := by
 rintro e (rfl | h)
 ·rfl
 ·obtain ⟨p, _, rfl⟩ := List.mem_map.1 h; rfl
theorem mergeM_c (l : List Edit) (a b : List Module) (hl : (l ++ diffN a b).length ≤ 4000000) : FnL Tryz.prog 65 [.d (.sl (a.map eModule)), .d (.sl (b.map eModule)), .agg pairM] (dfO 100 104 l ++ [(101, .box [.bp 100 0])])
  (fun V ol new => V = .tup [] ∧ ol = dfO 100 114 (l ++ diffN a b) ++ [(101, .box [.bp 100 0])] ∧ new = [114]) := by
 refine FnL.of_eK 1999 [100, 101] (own := []) (fun i => if i = 0 then [.rnm [(100, 100), (101, 101), (104, 114), (5, 5), (1999, 1999)]] else []) [] mixed Tryz.func65 rfl Tryz.call65 Tryz.ntmps65 (Nat.le_of_ble_eq_true rfl) Tryz.results65 (by simp [dfO, pairM, freeO, AO.noRef, AV.noRefs, AV.noRef]) (fun gs => ?_)
 simp only [ZE,↓reduceIte,pE,pL,pA,pS,pM,pD, zN,qT,qG,qL,qH,qN,qB,qE,qO,qA,qM, dfO, pairM]
 refine eloopX (X := List Module × List Module × List Edit) (fun _ i => if i = 5 then [.rnm [(100, 100), (101, 101), (115, 114), (5, 5), (1999, 1999)]] else if i = 8 then [.rnm [(100, 100), (101, 101), (115, 114), (5, 5), (1999, 1999)]] else if i = 2 then [.rnm [(100, 100), (101, 101), (115, 114), (5, 5), (1999, 1999)]] else if i = 2004 then [.ord ⟨[(0, none), (1, none), (2, none), (3, none), (4, none), (5, none), (6, none), (7, none), (8, none), (9, none), (10, none), (11, none), (12, none), (13, none), (14, none), (15, none), (16, none), (17, none), (18, none), (19, none), (20, none)]⟩] else if i = 2007 then [.ord ⟨[(0, none), (1, none), (2, none), (3, none), (4, none), (5, none), (6, none), (7, none), (8, none), (9, none), (10, none), (11, none), (12, none), (13, none), (14, none), (15, none)]⟩] else if i = 2003 then [.ord ⟨[(0, none), (1, none), (2, none), (3, none), (4, some [2, 3]), (5, some [])]⟩] else []) mixed (a.length + b.length)
  (fun r X => X.1.length + X.2.1.length + r ≤ a.length + b.length ∧ X.2.2 ++ mM (a.length + b.length - r) X.1 X.2.1 = l ++ diffN a b)
  (fun r X => ([(0, .d (.sl (X.1.map eModule))), (1, .d (.sl (X.2.1.map eModule))), (5, .bp 5 0)], [(5, .box pairM), (1999, .gh [.bp 100 0, .bp 101 0] gs), (100, .box [.ar 114 X.2.2.length]), (114, .arr 69 43 .flat (X.2.2.map eEdit)), (101, .box [.bp 100 0])])) (a, b, l) ?_ ?_ ?_ (fun r X hr hI => ?_)
 ·exact ⟨by simp, by rw [diffN_mM]; rfl⟩
 ·simp only [ZE,↓reduceIte,pE,pL,pA,pS,pM,pD, zN,qT,qG,qL,qH,qN,qB,qE,qO,qA,qM, pairM]
 ·simp only [ZE,↓reduceIte,pE,pL,pA,pS,pM,pD, zN,qT,qG,qL,qH,qN,qB,qE,qO,qA,qM, pairM]
 obtain ⟨xs, ys, es⟩ := X
 obtain ⟨hn, he⟩ := hI
 simp only at hn he
 have hes : es.length ≤ 4000000 := by rw [← he, List.length_append] at hl; omega
 match xs, ys with
 | [], [] =>
  have e : es = l ++ diffN a b := by rw [← he]; cases (a.length + b.length - r) <;> simp [mM, mrgF]
  subst e
  simp only [pairM]
  simp (maxSteps := 4000000) only [ZE,↓reduceIte,pE,pL,pA,pS,pM,pD, zN,qT,qG,qL,qH,qN,qB,qE,qO,qA,qM]
  refine ⟨[5, 1999], [114], ?_⟩
  simp only [ZE,↓reduceIte,pE,pL,pA,pS,pM,pD]
 | x :: xs, [] =>
  obtain ⟨m, hm⟩ : ∃ m, a.length + b.length - r = m + 1 := ⟨a.length + b.length - r - 1, by simp at hn; omega⟩
  have hm' : a.length + b.length - (r + 1) = m := by omega
  have hmi : mM (m + 1) (x :: xs) [] = (itemsD x.name x.items [] ++ [eGone x.name]) ++ mM m xs [] := rfl
  rw [hm, hmi, ← List.append_assoc] at he
  have rc := dgone_c es x (by rw [← he] at hl; rw [List.length_append] at hl; omega)
  simp only [dfO] at rc
  simp only [pairM]
  simp (maxSteps := 4000000) only [ZE,↓reduceIte,pE,pL,pA,pS,pM,pD, zN,qT,qG,qL,qH,qN,qB,qE,qO,qA,qM, gt_succ, lt_succ0, List.length_map]
  refine ⟨by kernel_rfl, by kernel_rfl, EFn.g ⟨[(100, 100), (101, 101), (104, 114), (114, 115)], _, _, _, rc, ?_⟩⟩
  simp only [ZE,↓reduceIte,pE,pL,pA,pS,pM,pD]
  rintro V ol new ⟨rfl, rfl, rfl⟩
  simp only [ZE,↓reduceIte,pE,pL,pA,pS,pM,pD, zN,qT,qG,qL,qH,qN,qB,qE,qO,qA,qM, one_le_succ, takeM]
  have rx := rowM x xs
  simp only [ZE,↓reduceIte,pE,pL,pA,pS,pM,pD] at rx
  refine ⟨⟨rx, Int.le_refl _⟩, ?_⟩
  simp only [nextX]
  refine ⟨by simp at hn; omega, (xs, [], es ++ (itemsD x.name x.items [] ++ [eGone x.name])), ⟨by simp at hn ⊢; omega, by rw [hm']; exact he⟩, ?_⟩
  simp only [ZE,↓reduceIte,pE,pL,pA,pS,pM,pD, pairM]
 | [], y :: ys =>
  obtain ⟨m, hm⟩ : ∃ m, a.length + b.length - r = m + 1 := ⟨a.length + b.length - r - 1, by simp at hn; omega⟩
  have hm' : a.length + b.length - (r + 1) = m := by omega
  have hmi : mM (m + 1) [] (y :: ys) = (eHead y :: itemsD y.name [] y.items) ++ mM m [] ys := rfl
  rw [hm, hmi, ← List.append_assoc] at he
  have rc := dcome_c es y (by rw [← he] at hl; rw [List.length_append] at hl; omega)
  simp only [dfO] at rc
  simp only [pairM]
  simp (maxSteps := 4000000) only [ZE,↓reduceIte,pE,pL,pA,pS,pM,pD, zN,qT,qG,qL,qH,qN,qB,qE,qO,qA,qM, gt_succ, lt_succ0, succ_ne, List.length_map]
  refine ⟨by kernel_rfl, by kernel_rfl, by kernel_rfl, EFn.g ⟨[(100, 100), (101, 101), (104, 114), (114, 115)], _, _, _, rc, ?_⟩⟩
  simp only [ZE,↓reduceIte,pE,pL,pA,pS,pM,pD]
  rintro V ol new ⟨rfl, rfl, rfl⟩
  simp only [ZE,↓reduceIte,pE,pL,pA,pS,pM,pD, zN,qT,qG,qL,qH,qN,qB,qE,qO,qA,qM, one_le_succ, takeM]
  have rx := rowM y ys
  simp only [ZE,↓reduceIte,pE,pL,pA,pS,pM,pD] at rx
  refine ⟨⟨rx, Int.le_refl _⟩, ?_⟩
  simp only [nextX]
  refine ⟨by simp at hn; omega, ([], ys, es ++ (eHead y :: itemsD y.name [] y.items)), ⟨by simp at hn ⊢; omega, by rw [hm']; exact he⟩, ?_⟩
  simp only [ZE,↓reduceIte,pE,pL,pA,pS,pM,pD, pairM]
 | x :: xs, y :: ys =>
  obtain ⟨m, hm⟩ : ∃ m, a.length + b.length - r = m + 1 := ⟨a.length + b.length - r - 1, by simp at hn; omega⟩
  have hm' : a.length + b.length - (r + 1) = m := by omega
  rw [hm] at he
  have ic := byName_c x y
  obtain ⟨c, hc⟩ : ∃ c, cmpN x.name y.name = c := ⟨_, rfl⟩
  have hlt : c < 0 ↔ ltS x.name y.name = true := by rw [← hc]; exact cmpB_lt _ _
  have hgt : 0 < c ↔ ltS y.name x.name = true := by rw [← hc]; exact cmpN_gt
  rw [hc] at ic
  simp only [ZE,↓reduceIte,pE,pL,pA,pS,pM,pD] at ic
  by_cases h1 : c < 0
  ·have hmi : mM (m + 1) (x :: xs) (y :: ys) = (itemsD x.name x.items [] ++ [eGone x.name]) ++ mM m xs (y :: ys) := by simp only [mM, mrgF, hlt.1 h1, if_true]
   have d1 : decide (c < 0) = true := decide_eq_true h1
   rw [hmi, ← List.append_assoc] at he
   have rc := dgone_c es x (by rw [← he] at hl; rw [List.length_append] at hl; omega)
   simp only [dfO] at rc
   simp only [pairM]
   simp (maxSteps := 4000000) only [ZE,↓reduceIte,pE,pL,pA,pS,pM,pD, zN,qT,qG,qL,qH,qN,qB,qE,qO,qA,qM, gt_succ, lt_succ0, succ_ne, List.length_map]
   refine ⟨by kernel_rfl, ECall'.i ic ?_⟩
   simp only [ZE,↓reduceIte,pE,pL,pA,pS,pM,pD, zN,qT,qG,qL,qH,qN,qB,qE,qO,qA,qM, d1, lt_succ0]
   refine ⟨by kernel_rfl, EFn.g ⟨[(100, 100), (101, 101), (104, 114), (114, 115)], _, _, _, rc, ?_⟩⟩
   simp only [ZE,↓reduceIte,pE,pL,pA,pS,pM,pD]
   rintro V ol new ⟨rfl, rfl, rfl⟩
   simp only [ZE,↓reduceIte,pE,pL,pA,pS,pM,pD, zN,qT,qG,qL,qH,qN,qB,qE,qO,qA,qM, one_le_succ, takeM]
   have rx := rowM x xs
   simp only [ZE,↓reduceIte,pE,pL,pA,pS,pM,pD] at rx
   refine ⟨⟨rx, Int.le_refl _⟩, ?_⟩
   simp only [nextX]
   refine ⟨by simp at hn; omega, (xs, y :: ys, es ++ (itemsD x.name x.items [] ++ [eGone x.name])), ⟨by simp at hn ⊢; omega, by rw [hm']; exact he⟩, ?_⟩
   simp only [ZE,↓reduceIte,pE,pL,pA,pS,pM,pD, pairM]
  have d1 : decide (c < 0) = false := decide_eq_false h1
  have h1' : ltS x.name y.name = false := by
   cases hq : ltS x.name y.name with
   | false => rfl
   | true => exact absurd (hlt.2 hq) h1
  by_cases h2 : 0 < c
  ·have hmi : mM (m + 1) (x :: xs) (y :: ys) = (eHead y :: itemsD y.name [] y.items) ++ mM m (x :: xs) ys := by simp only [mM, mrgF, h1', hgt.1 h2, if_true, Bool.false_eq_true, if_false]
   have d2 : decide (c > 0) = true := decide_eq_true h2
   rw [hmi, ← List.append_assoc] at he
   have rc := dcome_c es y (by rw [← he] at hl; rw [List.length_append] at hl; omega)
   simp only [dfO] at rc
   simp only [pairM]
   simp (maxSteps := 4000000) only [ZE,↓reduceIte,pE,pL,pA,pS,pM,pD, zN,qT,qG,qL,qH,qN,qB,qE,qO,qA,qM, gt_succ, lt_succ0, succ_ne, List.length_map]
   refine ⟨by kernel_rfl, ECall'.i ic ?_⟩
   simp only [ZE,↓reduceIte,pE,pL,pA,pS,pM,pD, zN,qT,qG,qL,qH,qN,qB,qE,qO,qA,qM, d1, lt_succ0, succ_ne, List.length_map]
   refine ⟨by kernel_rfl, ECall'.i ic ?_⟩
   simp only [ZE,↓reduceIte,pE,pL,pA,pS,pM,pD, zN,qT,qG,qL,qH,qN,qB,qE,qO,qA,qM, d2, lt_succ0, succ_ne, List.length_map]
   refine ⟨by kernel_rfl, EFn.g ⟨[(100, 100), (101, 101), (104, 114), (114, 115)], _, _, _, rc, ?_⟩⟩
   simp only [ZE,↓reduceIte,pE,pL,pA,pS,pM,pD]
   rintro V ol new ⟨rfl, rfl, rfl⟩
   simp only [ZE,↓reduceIte,pE,pL,pA,pS,pM,pD, zN,qT,qG,qL,qH,qN,qB,qE,qO,qA,qM, one_le_succ, takeM]
   have rx := rowM y ys
   simp only [ZE,↓reduceIte,pE,pL,pA,pS,pM,pD] at rx
   refine ⟨⟨rx, Int.le_refl _⟩, ?_⟩
   simp only [nextX]
   refine ⟨by simp at hn; omega, (x :: xs, ys, es ++ (eHead y :: itemsD y.name [] y.items)), ⟨by simp at hn ⊢; omega, by rw [hm']; exact he⟩, ?_⟩
   simp only [ZE,↓reduceIte,pE,pL,pA,pS,pM,pD, pairM]
  ·have h2' : ltS y.name x.name = false := by
    cases hq : ltS y.name x.name with
    | false => rfl
    | true => exact absurd (hgt.2 hq) h2
   have hmi : mM (m + 1) (x :: xs) (y :: ys) = (headD x y ++ itemsD y.name x.items y.items) ++ mM m xs ys := by simp only [mM, mrgF, h1', h2', Bool.false_eq_true, if_false]
   have d2 : decide (c > 0) = false := decide_eq_false h2
   rw [hmi, ← List.append_assoc] at he
   have rc := dmod_c es x y (by rw [← he] at hl; rw [List.length_append] at hl; omega)
   simp only [dfO, List.cons_append, List.nil_append] at rc
   simp only [pairM]
   simp (maxSteps := 4000000) only [ZE,↓reduceIte,pE,pL,pA,pS,pM,pD, zN,qT,qG,qL,qH,qN,qB,qE,qO,qA,qM, gt_succ, lt_succ0, succ_ne, List.length_map]
   refine ⟨by kernel_rfl, ECall'.i ic ?_⟩
   simp only [ZE,↓reduceIte,pE,pL,pA,pS,pM,pD, zN,qT,qG,qL,qH,qN,qB,qE,qO,qA,qM, d1, lt_succ0, succ_ne, List.length_map]
   refine ⟨by kernel_rfl, ECall'.i ic ?_⟩
   simp only [ZE,↓reduceIte,pE,pL,pA,pS,pM,pD, zN,qT,qG,qL,qH,qN,qB,qE,qO,qA,qM, d2, lt_succ0, succ_ne, List.length_map]
   refine ⟨by kernel_rfl, EFn.g ⟨[(100, 100), (101, 101), (104, 114), (114, 115)], _, _, _, rc, ?_⟩⟩
   simp only [ZE,↓reduceIte,pE,pL,pA,pS,pM,pD]
   rintro V ol new ⟨rfl, rfl, rfl⟩
   simp only [ZE,↓reduceIte,pE,pL,pA,pS,pM,pD, zN,qT,qG,qL,qH,qN,qB,qE,qO,qA,qM, one_le_succ, takeM]
   have rx := rowM x xs
   have ry := rowM y ys
   simp only [ZE,↓reduceIte,pE,pL,pA,pS,pM,pD] at rx ry
   refine ⟨by kernel_rfl, ⟨rx, Int.le_refl _⟩, ⟨ry, Int.le_refl _⟩, ⟨ry, Int.le_refl _⟩, ?_⟩
   simp only [nextX]
   refine ⟨by simp at hn; omega, (xs, ys, es ++ (headD x y ++ itemsD y.name x.items y.items)), ⟨by simp at hn ⊢; omega, by rw [hm']; exact he⟩, ?_⟩
   simp only [ZE,↓reduceIte,pE,pL,pA,pS,pM,pD, pairM]
end Go.Proofs.YtbenhdgpogiadaaGreat

namespace Go.Proofs.YtbenhdgpogiadaaGreat
open Go.Aw Go.RowKit Go.Lib
set_option maxRecDepth 1000000
structure Hd (p : Prop) : Prop where
 out : p
set_option maxHeartbeats 8000000 in
theorem deleteItem_w : DelW Tryz.prog 160 64 35 := by
 intro W g cap cur n i hg hle hcap hcur hone hi
 obtain ⟨j, hj⟩ : ∃ j, j = i + 1 := ⟨_, rfl⟩
 rw [← hj]
 have mixed := mixed
 have hmx : cap ≤ 9223372036854775807 := hcap
 obtain ⟨i0, z0, t28, hi0, hz0, hzc, hz1, _, _⟩ := appTy_some tA51
 obtain ⟨c, hc⟩ : ∃ c, cur.toList.take (n * 35) = c := ⟨_, rfl⟩
 have hnk : n * 35 ≤ cur.size := by rw [hcur]; exact Nat.mul_le_mul_right _ hle
 have hclen : c.length = n * 35 := by rw [← hc, List.length_take]; exact Nat.min_eq_left hnk
 have hcell : ∀ t, t < n * 35 → W.cell? ⟨g, t, none⟩ = c[t]? := fun t ht => by
  rw [← hc, List.getElem?_take, if_pos ht]
  simp [World.cell?, hg]
 have hsome : ∀ t, t < n * 35 → (W.cell? ⟨g, t, none⟩).isSome = true := fun t ht => by
  rw [hcell t ht, List.getElem?_eq_getElem (by omega)]; rfl
 have hfr : ∀ t, W.frozen? ⟨g, t, none⟩ = false := fun t => by simp [World.frozen?, hg]
 rw [hc] at hone ⊢
 obtain ⟨news, hnews⟩ : ∃ news, news = c.drop (j * 35) := ⟨_, rfl⟩
 have hlen : news.length = (n - j) * 35 := by rw [hnews, List.length_drop, hclen, Nat.sub_mul]
 obtain ⟨A, hA, hsrc⟩ : ∃ A : Addr, (if cap = j then some (⟨g, 0, none⟩ : Addr) else some ⟨g, j * 35, none⟩) = some A ∧ Hd (∀ t u, news[t]? = some u → W.drew.cell? (A.add t) = some u) := by
  by_cases h : cap = j
  ·refine ⟨⟨g, 0, none⟩, by simp [h], ⟨fun t u hu => ?_⟩⟩
   have h0 : news.length = 0 := by rw [hlen, show n - j = 0 by omega, Nat.zero_mul]
   rw [List.length_eq_zero_iff.1 h0] at hu
   simp at hu
  ·refine ⟨⟨g, j * 35, none⟩, by simp [h], ⟨fun t u hu => ?_⟩⟩
   have ht : t < news.length := (List.getElem?_eq_some_iff.1 hu).1
   rw [hlen] at ht
   rw [hnews, List.getElem?_drop] at hu
   rw [Addr.add_lit]
   show W.cell? _ = _
   rw [hcell _ (by omega)]
   exact hu
 have s1 : Hd (news.length = (n - j) * 35) := ⟨hlen⟩
 have s2 : Hd (∀ u ∈ news, u.oneCell' = true) := ⟨fun u hu => hone u (by rw [hnews] at hu; exact List.mem_of_mem_drop hu)⟩
 have s3 : Hd (∀ t, t < news.length → (W.drew.cell? ⟨g, 0 + i * 35 + t, none⟩).isSome = true ∧ W.drew.frozen? ⟨g, 0 + i * 35 + t, none⟩ = false) := ⟨fun t ht => by
  rw [hlen] at ht
  exact ⟨hsome _ (by omega), hfr _⟩⟩
 obtain ⟨W1, hW1⟩ : ∃ W1, W1 = W.drew.setCells g (0 + i * 35) news := ⟨_, rfl⟩
 obtain ⟨zl, hzl⟩ : ∃ zl : List Value, zl = (Builtin.zeroCells z0.cells 1).toList := ⟨_, rfl⟩
 have hzlen : zl.length = 35 := by rw [hzl]; simp [Builtin.zeroCells, hzc]
 have hz1c : ∀ v ∈ zl, v.oneCell' = true := by
  have h0 := Tryz.zeroValue64 W
  have h1 : (zeroValue 64).run Tryz.prog W = .ok z0 W := by simp [zeroValue, typeInfo, hi0, hz0]
  rw [h1] at h0
  cases h0
  rw [hzl]
  intro v hv
  revert v
  rw [← List.all_eq_true]
  kernel_rfl
 have hcl : ∀ ty, (Builtin.clear_ #[51] ty #[.slice (some ⟨g, (i + (n - j)) * 35, none⟩) (n - (i + (n - j))) (cap - (i + (n - j)))]).run Tryz.prog W1 = .ok (.tuple #[]) (W1.setCells g ((n - 1) * 35) zl) := by
  intro ty
  rw [show i + (n - j) = n - 1 by omega, show n - (n - 1) = 1 by omega]
  have hc1 : ∀ t, t < n * 35 → (W1.cell? ⟨g, t, none⟩).isSome = true := fun t ht => by
   rw [hW1]
   have h3 := setCells_at g news (0 + i * 35) W.drew cur 64 (0, 0) hg
   simp only [World.cell?, h3]
   rw [show (({ block := g, off := t, spot := none } : Addr).spot.isSome) = false from rfl]
   simp only [Bool.false_eq_true, if_false]
   rw [Array.getElem?_eq_getElem (by rw [putL_size]; omega)]; rfl
  rw [hzl]
  exact run_clear_k W1 _ _ ty z0 t28 (fun w => by simp [zeroValue, typeInfo, hi0, hz0]) (by rw [← hzl]; exact hz1c) g _ _
   (fun j hj => hc1 _ (by rw [← hzl, hzlen] at hj; omega)) (fun j hj => by rw [hW1, World.frozen?_setCells]; exact hfr _)
 have hW : Hd (W1 = W.drew.setCells g (0 + i * 35) news) := ⟨hW1⟩
 have hij : i ≤ j := by omega
 have hne : ¬ (i = j) := by omega
 have hjn : j ≤ n := by omega
 have hin : i + (n - j) ≤ n := by omega
 have hnc : i + (n - j) ≤ cap := by omega
 have hnz : n - 1 = i + (n - j) := by omega
 have hcn : ¬ (cap = i + (n - j)) := by omega
 have hic : i ≤ cap := by omega
 have hjc : j ≤ cap := by omega
 have X1 : Hd (news = c.drop (j * 35)) := ⟨hnews⟩
 have X2 : Hd (zl.length = 35) := ⟨hzlen⟩
 have hnz' : Hd (n - 1 = i + (n - j)) := ⟨hnz⟩
 clear hnz hj hW1 hcell hsome hnews hlen hone hclen hc hfr hzl hzlen hz1c
 go_enter Tryz.func160, Tryz.ntmps160
 go_wp2_with fail
 go_region_law_o (refine step_append_room rfl (.tmp 22) (.tmp 25) 51 rfl 64 i0 35 t28 hi0 hz1 g 0 i cap (by simp [Act.eval, Act.put]) A (n - j) (cap - j) news (by simp [Act.eval, Act.put]) s1.out hsrc.out s2.out (by omega) s3.out ?_; rw [← hW.out])
 go_wp2
 go_ret
 refine ⟨by rw [hnz'.out]; rfl, zl, X2.out, ?_⟩
 rw [← X1.out, hW.out, Nat.zero_add]
set_option maxHeartbeats 8000000 in
theorem deleteModule_w : DelW Tryz.prog 161 53 4 := by
 intro W g cap cur n i hg hle hcap hcur hone hi
 obtain ⟨j, hj⟩ : ∃ j, j = i + 1 := ⟨_, rfl⟩
 rw [← hj]
 have mixed := mixed
 have hmx : cap ≤ 9223372036854775807 := hcap
 obtain ⟨i0, z0, t28, hi0, hz0, hzc, hz1, _, _⟩ := appTy_some tA28
 obtain ⟨c, hc⟩ : ∃ c, cur.toList.take (n * 4) = c := ⟨_, rfl⟩
 have hnk : n * 4 ≤ cur.size := by rw [hcur]; exact Nat.mul_le_mul_right _ hle
 have hclen : c.length = n * 4 := by rw [← hc, List.length_take]; exact Nat.min_eq_left hnk
 have hcell : ∀ t, t < n * 4 → W.cell? ⟨g, t, none⟩ = c[t]? := fun t ht => by
  rw [← hc, List.getElem?_take, if_pos ht]
  simp [World.cell?, hg]
 have hsome : ∀ t, t < n * 4 → (W.cell? ⟨g, t, none⟩).isSome = true := fun t ht => by
  rw [hcell t ht, List.getElem?_eq_getElem (by omega)]; rfl
 have hfr : ∀ t, W.frozen? ⟨g, t, none⟩ = false := fun t => by simp [World.frozen?, hg]
 rw [hc] at hone ⊢
 obtain ⟨news, hnews⟩ : ∃ news, news = c.drop (j * 4) := ⟨_, rfl⟩
 have hlen : news.length = (n - j) * 4 := by rw [hnews, List.length_drop, hclen, Nat.sub_mul]
 obtain ⟨A, hA, hsrc⟩ : ∃ A : Addr, (if cap = j then some (⟨g, 0, none⟩ : Addr) else some ⟨g, j * 4, none⟩) = some A ∧ Hd (∀ t u, news[t]? = some u → W.drew.cell? (A.add t) = some u) := by
  by_cases h : cap = j
  ·refine ⟨⟨g, 0, none⟩, by simp [h], ⟨fun t u hu => ?_⟩⟩
   have h0 : news.length = 0 := by rw [hlen, show n - j = 0 by omega, Nat.zero_mul]
   rw [List.length_eq_zero_iff.1 h0] at hu
   simp at hu
  ·refine ⟨⟨g, j * 4, none⟩, by simp [h], ⟨fun t u hu => ?_⟩⟩
   have ht : t < news.length := (List.getElem?_eq_some_iff.1 hu).1
   rw [hlen] at ht
   rw [hnews, List.getElem?_drop] at hu
   rw [Addr.add_lit]
   show W.cell? _ = _
   rw [hcell _ (by omega)]
   exact hu
 have s1 : Hd (news.length = (n - j) * 4) := ⟨hlen⟩
 have s2 : Hd (∀ u ∈ news, u.oneCell' = true) := ⟨fun u hu => hone u (by rw [hnews] at hu; exact List.mem_of_mem_drop hu)⟩
 have s3 : Hd (∀ t, t < news.length → (W.drew.cell? ⟨g, 0 + i * 4 + t, none⟩).isSome = true ∧ W.drew.frozen? ⟨g, 0 + i * 4 + t, none⟩ = false) := ⟨fun t ht => by
  rw [hlen] at ht
  exact ⟨hsome _ (by omega), hfr _⟩⟩
 obtain ⟨W1, hW1⟩ : ∃ W1, W1 = W.drew.setCells g (0 + i * 4) news := ⟨_, rfl⟩
 obtain ⟨zl, hzl⟩ : ∃ zl : List Value, zl = (Builtin.zeroCells z0.cells 1).toList := ⟨_, rfl⟩
 have hzlen : zl.length = 4 := by rw [hzl]; simp [Builtin.zeroCells, hzc]
 have hz1c : ∀ v ∈ zl, v.oneCell' = true := by
  have h0 := Tryz.zeroValue53 W
  have h1 : (zeroValue 53).run Tryz.prog W = .ok z0 W := by simp [zeroValue, typeInfo, hi0, hz0]
  rw [h1] at h0
  cases h0
  rw [hzl]
  intro v hv
  revert v
  rw [← List.all_eq_true]
  kernel_rfl
 have hcl : ∀ ty, (Builtin.clear_ #[28] ty #[.slice (some ⟨g, (i + (n - j)) * 4, none⟩) (n - (i + (n - j))) (cap - (i + (n - j)))]).run Tryz.prog W1 = .ok (.tuple #[]) (W1.setCells g ((n - 1) * 4) zl) := by
  intro ty
  rw [show i + (n - j) = n - 1 by omega, show n - (n - 1) = 1 by omega]
  have hc1 : ∀ t, t < n * 4 → (W1.cell? ⟨g, t, none⟩).isSome = true := fun t ht => by
   rw [hW1]
   have h3 := setCells_at g news (0 + i * 4) W.drew cur 53 (0, 0) hg
   simp only [World.cell?, h3]
   rw [show (({ block := g, off := t, spot := none } : Addr).spot.isSome) = false from rfl]
   simp only [Bool.false_eq_true, if_false]
   rw [Array.getElem?_eq_getElem (by rw [putL_size]; omega)]; rfl
  rw [hzl]
  exact run_clear_k W1 _ _ ty z0 t28 (fun w => by simp [zeroValue, typeInfo, hi0, hz0]) (by rw [← hzl]; exact hz1c) g _ _
   (fun j hj => hc1 _ (by rw [← hzl, hzlen] at hj; omega)) (fun j hj => by rw [hW1, World.frozen?_setCells]; exact hfr _)
 have hW : Hd (W1 = W.drew.setCells g (0 + i * 4) news) := ⟨hW1⟩
 have hij : i ≤ j := by omega
 have hne : ¬ (i = j) := by omega
 have hjn : j ≤ n := by omega
 have hin : i + (n - j) ≤ n := by omega
 have hnc : i + (n - j) ≤ cap := by omega
 have hnz : n - 1 = i + (n - j) := by omega
 have hcn : ¬ (cap = i + (n - j)) := by omega
 have hic : i ≤ cap := by omega
 have hjc : j ≤ cap := by omega
 have X1 : Hd (news = c.drop (j * 4)) := ⟨hnews⟩
 have X2 : Hd (zl.length = 4) := ⟨hzlen⟩
 have hnz' : Hd (n - 1 = i + (n - j)) := ⟨hnz⟩
 clear hnz hj hW1 hcell hsome hnews hlen hone hclen hc hfr hzl hzlen hz1c
 go_enter Tryz.func161, Tryz.ntmps161
 go_wp2_with fail
 go_region_law_o (refine step_append_room rfl (.tmp 22) (.tmp 25) 28 rfl 53 i0 4 t28 hi0 hz1 g 0 i cap (by simp [Act.eval, Act.put]) A (n - j) (cap - j) news (by simp [Act.eval, Act.put]) s1.out hsrc.out s2.out (by omega) s3.out ?_; rw [← hW.out])
 go_wp2
 go_ret
 refine ⟨by rw [hnz'.out]; rfl, zl, X2.out, ?_⟩
 rw [← X1.out, hW.out, Nat.zero_add]
end Go.Proofs.YtbenhdgpogiadaaGreat

namespace Go.Proofs.YtbenhdgpogiadaaGreat
open Go.Aw Go.RowKit Go.Lib
set_option maxRecDepth 1000000
set_option maxHeartbeats 8000000 in
/-- At the end, with room. -/
theorem insAModule (g n c vb m vc : Nat) (vs : List Value) (w : World) (hm : 0 < m) (hroom : n + m ≤ c) (hc63 : c ≤ 9223372036854775807) (hvl : vs.length = m * 4)
  (hsp : ∀ j, j < m * 4 → (w.cell? ⟨g, 0 + n * 4 + j, none⟩).isSome = true) (hfz : ∀ j, j < m * 4 → w.frozen? ⟨g, 0 + n * 4 + j, none⟩ = false)
  (hvs : ∀ j v, vs[j]? = some v → w.cell? ⟨vb, j, none⟩ = some v) (h1v : ∀ v ∈ vs, v.oneCell' = true) :
  Calls Tryz.prog 162 #[.slice (some ⟨g, 0, none⟩) n c, .int .i64 n, .slice (some ⟨vb, 0, none⟩) m vc] w fun e w' => e = .returned (.slice (some ⟨g, 0, none⟩) (n + m) c) ∧ w' = w.setCells g (0 + n * 4) vs := by
 obtain ⟨i0, z0, t28, hi0, hz0, hzc, hz1, _, _⟩ := appTy_some tA28
 have mixed := mixed
 have hzz : ¬ ((m : Int) = 0) := by omega
 have hsrc : Src Tryz.prog i0.size 28 (.slice (some ⟨vb, 0, none⟩) m vc) m vs w := by
  rw [hz1]
  exact Src.ofSlice w t28 ⟨vb, 0, none⟩ m vc vs hvl (fun j u hj => by rw [Addr.add_lit, Nat.zero_add]; exact hvs j u hj) h1v
 have hrun : ∀ ty, (Builtin.append_ #[28, 28] ty #[.slice (some ⟨g, 0, none⟩) n c, .slice (some ⟨vb, 0, none⟩) m vc]).run Tryz.prog w = .ok (.slice (some ⟨g, 0, none⟩) (n + m) c) (w.setCells g (0 + n * 4) vs) := fun ty => by
  have h := run_append_room_src w 28 28 ty 53 i0 t28 hi0 g 0 n c _ m vs hsrc hroom (by rw [hz1, hvl]; exact hsp) (by rw [hz1, hvl]; exact hfz)
  rw [hz1] at h
  exact h
 clear hsp hfz hvs h1v hsrc
 go_enter Tryz.func162, Tryz.ntmps162
 go_wp2_with (at_builtin; refine Lib.wpList_append_run _ rfl _ _ _ _ rfl _ _ rfl rfl _ _ (hrun _) ?_)
 go_ret
 exact ⟨rfl, by rw [Nat.zero_add]⟩
set_option maxHeartbeats 8000000 in
/-- At the end, without room. -/
theorem insBModule (base : Option Addr) (n c vb m vc : Nat) (cs vs : List Value) (w : World) (hm : 0 < m) (hnc : n ≤ c) (hroom : c < n + m) (hbig : (n + m) * 80 ≤ 140737488355328) (hcl : cs.length = n * 4) (hvl : vs.length = m * 4) (hnil : base = none → n = 0)
  (hcs : ∀ a, base = some a → ∀ j v, cs[j]? = some v → w.cell? (a.add j) = some v)
  (hvs : ∀ j v, vs[j]? = some v → w.cell? ⟨vb, j, none⟩ = some v) (h1v : ∀ v ∈ vs, v.oneCell' = true) :
  Calls Tryz.prog 162 #[.slice base n c, .int .i64 n, .slice (some ⟨vb, 0, none⟩) m vc] w fun e w' => ∃ (cur' : Array Value), e = .returned (.slice (some ⟨w.heap.size, 0, none⟩) (n + m) (grownCap w (n + m) c 53)) ∧
   w' = w.drew.alloc (.cells ((cs ++ vs).toArray ++ cur') 53) ∧ cur'.size = (grownCap w (n + m) c 53 - (n + m)) * 4 := by
 obtain ⟨i0, z0, t28, hi0, hz0, hzc, hz1, hzb, _⟩ := appTy_some tA28
 have mixed := mixed
 have hzz : ¬ ((m : Int) = 0) := by omega
 have hsrc : Src Tryz.prog i0.size 28 (.slice (some ⟨vb, 0, none⟩) m vc) m vs w := by
  rw [hz1]
  exact Src.ofSlice w t28 ⟨vb, 0, none⟩ m vc vs hvl (fun j u hj => by rw [Addr.add_lit, Nat.zero_add]; exact hvs j u hj) h1v
 have hold : (Builtin.firstCells i0.size n (.slice base n c)).run Tryz.prog w.drew = .ok cs.toArray w.drew := by
  rw [hz1]
  cases base with
  | none =>
   have h0 := hnil rfl
   subst h0
   have hc0 : cs = [] := List.length_eq_zero_iff.1 (by rw [hcl, Nat.zero_mul])
   rw [hc0]
   exact run_firstCells_none w.drew 4 0 0 c
  | some a => exact run_firstCells_some w.drew 4 n a n c cs hcl (fun j v hj => hcs a rfl j v hj)
 obtain ⟨R, hR⟩ : ∃ R : Array Value, R = Builtin.zeroCells z0.cells (grownCap w (n + m) c 53 - (n + m)) := ⟨_, rfl⟩
 have hRs : R.size = (grownCap w (n + m) c 53 - (n + m)) * 4 := by rw [hR]; simp [Builtin.zeroCells, hzc]
 have hrun : ∀ ty, (Builtin.append_ #[28, 28] ty #[.slice base n c, .slice (some ⟨vb, 0, none⟩) m vc]).run Tryz.prog w = .ok (.slice (some ⟨w.heap.size, 0, none⟩) (n + m) (grownCap w (n + m) c 53)) (w.drew.alloc (.cells ((cs ++ vs).toArray ++ R) 53)) := fun ty => by
  have h := run_append_grow_src w 28 28 ty 53 i0 z0 t28 hi0 hz0 base n c cs hold _ m vs hsrc hroom (by omega) (by rw [hzb]; exact growslice_fits hroom hbig)
  rw [← hR] at h
  exact h
 obtain ⟨G, hG⟩ : ∃ G, G = grownCap w (n + m) c 53 := ⟨_, rfl⟩
 rw [← hG] at hrun hRs ⊢
 have XR : Hd (R.size = (G - (n + m)) * 4) := ⟨hRs⟩
 clear hcs hvs h1v hsrc hold hR hG hRs
 go_enter Tryz.func162, Tryz.ntmps162
 cases base with
 | none =>
  have h0 := hnil rfl
  subst h0
  go_wp2_with (at_builtin; refine Lib.wpList_append_run _ rfl _ _ _ _ rfl _ _ rfl rfl _ _ (hrun _) ?_)
  go_ret
  exact ⟨by simp, R, by simp, by rw [XR.out, Nat.zero_add]⟩
 | some a =>
  obtain ⟨ab, ao, asp⟩ := a
  go_wp2_with (at_builtin; refine Lib.wpList_append_run _ rfl _ _ _ _ rfl _ _ rfl rfl _ _ (hrun _) ?_)
  all_goals (go_ret; exact ⟨rfl, R, rfl, XR.out⟩)
set_option maxHeartbeats 16000000 in
/-- In the middle, with room. -/
theorem insCModule (g n c i vb m vc : Nat) (cs vs : List Value) (w : World) (hi : i < n) (hm : 0 < m) (hroom : n + m ≤ c) (hc63 : c ≤ 9223372036854775807) (hvb : vb ≠ g) (hcl : cs.length = n * 4) (hvl : vs.length = m * 4)
  (hcs : ∀ j v, cs[j]? = some v → w.cell? ⟨g, j, none⟩ = some v) (hsp : ∀ j, j < (n + m) * 4 → (w.cell? ⟨g, j, none⟩).isSome = true) (hfz : ∀ j, w.frozen? ⟨g, j, none⟩ = false)
  (hvs : ∀ j v, vs[j]? = some v → w.cell? ⟨vb, j, none⟩ = some v) (h1c : ∀ v ∈ cs, v.oneCell' = true) (h1v : ∀ v ∈ vs, v.oneCell' = true)
  (tA tB : TypeId) (kA kB : Nat) (hsa : w.shape? vb = some (tA, kA)) (hsb : w.shape? g = some (tB, kB)) (hkB : kB ≠ 0) (hfa : w.frozen? ⟨vb, 0, none⟩ = false) (hfe : w.frozen? ⟨vb, kA, none⟩ = false) :
  Calls Tryz.prog 162 #[.slice (some ⟨g, 0, none⟩) n c, .int .i64 i, .slice (some ⟨vb, 0, none⟩) m vc] w fun e w' =>
   e = .returned (.slice (some ⟨g, 0, none⟩) (n + m) c) ∧ w' = (w.drew.setCells g ((i + m) * 4) (cs.drop (i * 4))).setCells g (i * 4) vs := by
 obtain ⟨i0, z0, t28, hi0, hz0, hzc, hz1s, hzb, _⟩ := appTy_some tA28
 have mixed := mixed
 have hz1 : ¬ ((m : Int) = 0) := by omega
 have hz2 : ¬ ((i : Int) = (n : Int)) := by omega
 have hsz : (Tryz.prog.info? 53).map (·.size) = some 4 := by rw [hi0]; simp [hz1s]
 have hov : ∀ lb cb, (callFunc 213 #[.slice (some ⟨vb, 0, none⟩) m vc, .slice (some ⟨g, (i + m) * 4, none⟩) lb cb]).run Tryz.prog w = .ok (.value (.bool false)) w := fun lb cb => by
  rw [run_callFunc_extern Tryz.func213 (by kernel_rfl) (by kernel_rfl) (by kernel_rfl) (e := Extern.SlicesOverlaps.overlaps #[28, 28] #[4]) (by kernel_rfl),
   Lib.run_overlaps_apart w 28 4 53 t28 4 Tryz.sizeOf53 ⟨vb, 0, none⟩ ⟨g, (i + m) * 4, none⟩ m vc lb cb hvb tA tB kA kB hsa hsb hkB hfa hfe]
  rfl
 have hdl : (cs.drop (i * 4)).length = (n - i) * 4 := by rw [List.length_drop, hcl, Nat.sub_mul]
 have hw1 : IntKind.i64.wrap ((i : Int) + (m : Int)) = (i : Int) + (m : Int) := by rw [IntKind.wrap_i64]; omega
 have hb1 : (0 : Int) ≤ (i : Int) + (m : Int) := by omega
 have hin : i ≤ n := by omega
 have htn : ((i : Int) + (m : Int)).toNat = i + m := by omega
 have hb2 : ¬ (c = i + m) := by omega
 have hb3 : (i : Int) ≤ (n : Int) + (m : Int) := by omega
 have hb4 : ¬ (c = i) := by omega
 have hcp1 : ∀ ty dc sc, (Builtin.copy_ #[28, 28] ty #[.slice (some ⟨g, (i + m) * 4, none⟩) (n + m - (i + m)) dc, .slice (some ⟨g, i * 4, none⟩) (n + m - i) sc]).run Tryz.prog w.drew = .ok (goInt (n - i : Nat)) (w.drew.setCells g ((i + m) * 4) (cs.drop (i * 4))) := fun ty dc sc => by
  have hmin : Nat.min (n + m - i) (n + m - (i + m)) = n - i := by simp only [Nat.min_def]; split <;> omega
  have h := run_copy_k w.drew 28 28 ty 53 4 g ((i + m) * 4) (n + m - (i + m)) dc ⟨g, i * 4, none⟩ (n + m - i) sc (cs.drop (i * 4)) t28 hsz (by rw [hdl, hmin])
   (fun j v hj => by rw [Addr.add_lit]; exact hcs (i * 4 + j) v (by rwa [List.getElem?_drop] at hj))
   (fun j hj => hsp _ (by rw [hdl] at hj; omega)) (fun j hj => hfz _) (fun v hv => h1c v (List.mem_of_mem_drop hv))
  rw [hmin] at h
  exact h
 obtain ⟨W1, hW1⟩ : ∃ W1, W1 = w.drew.setCells g ((i + m) * 4) (cs.drop (i * 4)) := ⟨_, rfl⟩
 have hsp1 : ∀ k, k < (n + m) * 4 → (W1.cell? ⟨g, k, none⟩).isSome = true := fun k hk => by
  rw [hW1]
  exact isSome_setCells g _ _ w.drew (fun j hj => hsp ((i + m) * 4 + j) (by rw [hdl] at hj; omega)) _ (hsp k hk)
 have hcp2 : ∀ (W : World), (∀ x, W.cell? x = W1.cell? x) → (∀ x, W.frozen? x = W1.frozen? x) → ∀ ty dc, (Builtin.copy_ #[28, 28] ty #[.slice (some ⟨g, i * 4, none⟩) (n + m - i) dc, .slice (some ⟨vb, 0, none⟩) m vc]).run Tryz.prog W = .ok (goInt m) (W.setCells g (i * 4) vs) := fun W hWc hWf ty dc => by
  have hmin : Nat.min m (n + m - i) = m := by simp only [Nat.min_def]; split <;> omega
  have h := run_copy_k W 28 28 ty 53 4 g (i * 4) (n + m - i) dc ⟨vb, 0, none⟩ m vc vs t28 hsz (by rw [hvl, hmin])
   (fun j v hj => by
    rw [Addr.add_lit, hWc, hW1, World.cell?_setCells_out g _ _ _ _ (fun h _ => absurd h hvb), Nat.zero_add]
    exact hvs j v hj)
   (fun j hj => by rw [hWc]; exact hsp1 _ (by rw [hvl] at hj; omega)) (fun j hj => by rw [hWf, hW1, World.frozen?_setCells]; exact hfz _) h1v
  rw [hmin] at h
  exact h
 rw [← hW1] at hcp1
 have hWW : Hd (W1 = w.drew.setCells g ((i + m) * 4) (cs.drop (i * 4))) := ⟨hW1⟩
 clear hW1 hcs hsp hfz hvs h1c h1v hsp1 hdl hcl hvl
 go_enter Tryz.func162, Tryz.ntmps162
 go_wp2_with (simp only [hov])
 go_region_law_o (refine step_copy_runI rfl _ _ 28 28 rfl _ _ (by simp [Act.eval, Act.put]) (by simp [Act.eval, Act.put]) (hcp1 _ _ _) ?_)
 go_wp2_with (at_builtin; refine wpList_copy_runI _ rfl _ _ 28 28 rfl _ _ rfl rfl (hcp2 _ (fun _ => rfl) (fun _ => rfl) _ _) ?_)
 go_ret
 exact ⟨rfl, by rw [hWW.out]⟩
set_option maxHeartbeats 16000000 in
/-- In the middle, without room. -/
theorem insDModule (g n c i vb m vc : Nat) (cs vs : List Value) (w : World) (hi : i < n) (hm : 0 < m) (hnc : n ≤ c) (hroom : c < n + m) (hbig : (n + m) * 80 ≤ 140737488355328) (hcl : cs.length = n * 4) (hvl : vs.length = m * 4)
  (hcs : ∀ j v, cs[j]? = some v → w.cell? ⟨g, j, none⟩ = some v) (hvs : ∀ j v, vs[j]? = some v → w.cell? ⟨vb, j, none⟩ = some v) (h1c : ∀ v ∈ cs, v.oneCell' = true) (h1v : ∀ v ∈ vs, v.oneCell' = true) :
  Calls Tryz.prog 162 #[.slice (some ⟨g, 0, none⟩) n c, .int .i64 i, .slice (some ⟨vb, 0, none⟩) m vc] w fun e w' => ∃ ROW : Array Value,
   e = .returned (.slice (some ⟨w.heap.size, 0, none⟩) (n + m) (grownCap w (n + m) c 53)) ∧
   w' = (((w.alloc (.cells ROW 53)).drew.setCells w.heap.size (i * 4) vs).drew).setCells w.heap.size ((i + m) * 4) (cs.drop (i * 4)) ∧ ROW.size = grownCap w (n + m) c 53 * 4 ∧ ROW.toList.take (i * 4) = cs.take (i * 4) := by
 obtain ⟨i0, z0, t28, hi0, hz0, hzc, hzs, hzb, _⟩ := appTy_some tA28
 have mixed := mixed
 have hz1 : ¬ ((m : Int) = 0) := by omega
 have hz2 : ¬ ((i : Int) = (n : Int)) := by omega
 have hz3 : (c : Int) < (n : Int) + (m : Int) := by omega
 have hsz : (Tryz.prog.info? 53).map (·.size) = some 4 := by rw [hi0]; simp [hzs]
 have hbw : g < w.heap.size := block_lt_of_cell (hcs 0 _ (List.getElem?_eq_getElem (by omega)))
 have hvw : vb < w.heap.size := block_lt_of_cell (hvs 0 _ (List.getElem?_eq_getElem (by omega)))
 have hkk : (n : Int) + (m : Int) - (i : Int) = ((n + m - i : Nat) : Int) := by omega
 have hik : i + (n + m - i) = n + m := by omega
 have hct : (cs.take (i * 4)).length = i * 4 := by rw [List.length_take, hcl]; omega
 have hold : (Builtin.firstCells i0.size i (.slice (some ⟨g, 0, none⟩) i c)).run Tryz.prog w.drew = .ok (cs.take (i * 4)).toArray w.drew := by
  rw [hzs]
  exact run_firstCells_some w.drew 4 i ⟨g, 0, none⟩ i c (cs.take (i * 4)) hct (fun j v hj => by
   rw [Addr.add_lit, Nat.zero_add]
   rw [List.getElem?_take] at hj
   split at hj
   ·exact hcs j v hj
   ·cases hj)
 obtain ⟨G, hG⟩ : ∃ G, G = grownCap w (n + m) c 53 := ⟨_, rfl⟩
 obtain ⟨ROW, hROW⟩ : ∃ ROW : Array Value, ROW = (cs.take (i * 4)).toArray ++ Builtin.zeroCells z0.cells (n + m - i) ++ Builtin.zeroCells z0.cells (G - (n + m)) := ⟨_, rfl⟩
 have hrz : ∀ ty, (Builtin.append_ #[28, 3] ty #[.slice (some ⟨g, 0, none⟩) i c, .int .i64 ((n : Int) + (m : Int) - (i : Int))]).run Tryz.prog w =
   .ok (.slice (some ⟨w.heap.size, 0, none⟩) (n + m) G) (w.drew.alloc (.cells ROW 53)) := fun ty => by
  have h := Lib.run_append_grow_zeros w 28 3 ty 53 i0 _ .i64 .i64 t28 Tryz.underlying3 hi0 hz0 (some ⟨g, 0, none⟩) i c (cs.take (i * 4)) hold (n + m - i) (by omega) (by rw [hzs]; omega) (by omega) (by omega) (by rw [hzb]; omega) (by rw [hzb, hik]; exact growslice_fits hroom hbig)
  rw [hik] at h
  rw [hkk, hROW, hG]
  exact h
 have hGn : n + m ≤ G := by rw [hG]; exact grownCap_ge w _ _ _
 have hG63 : G ≤ 9223372036854775807 := by
  have := grownCap_le_maxLen w (n + m) c 53 (by unfold maxLen; omega)
  rw [← hG] at this
  unfold maxLen at this
  omega
 have hRs : ROW.size = G * 4 := by
  rw [hROW]
  have hzs : ∀ q, (Builtin.zeroCells z0.cells q).size = q * 4 := fun q => by simp [Builtin.zeroCells, hzc]
  simp only [Array.size_append, List.size_toArray, hct, hzs]
  omega
 have hRt : ROW.toList.take (i * 4) = cs.take (i * 4) := by
  rw [hROW]
  simp only [Array.toList_append, List.append_assoc]
  rw [List.take_left' hct]
 rw [← hG]
 obtain ⟨W1, hW1⟩ : ∃ W1, W1 = w.drew.alloc (.cells ROW 53) := ⟨_, rfl⟩
 rw [← hW1] at hrz
 have hN : ∀ j, j < (n + m) * 4 → (W1.cell? ⟨w.heap.size, j, none⟩).isSome = true := fun j hj => by
  rw [hW1, World.cell?_alloc_at (w := w.drew) ROW _ w.heap.size j rfl, Array.getElem?_eq_getElem (by rw [hRs]; have := Nat.mul_le_mul_right 4 hGn; omega)]; rfl
 have hNf : ∀ j, W1.frozen? ⟨w.heap.size, j, none⟩ = false := fun j => by rw [hW1]; exact World.frozen?_alloc_at (w := w.drew) ROW _ w.heap.size j rfl
 have hOb : ∀ j v, w.cell? ⟨g, j, none⟩ = some v → W1.cell? ⟨g, j, none⟩ = some v := fun j v h => by rw [hW1, World.cell?_alloc_past (w := w.drew) _ g j hbw]; exact h
 have hOv : ∀ j v, w.cell? ⟨vb, j, none⟩ = some v → W1.cell? ⟨vb, j, none⟩ = some v := fun j v h => by rw [hW1, World.cell?_alloc_past (w := w.drew) _ vb j hvw]; exact h
 have hcpA : ∀ (W : World), (∀ x, W.cell? x = W1.cell? x) → (∀ x, W.frozen? x = W1.frozen? x) → ∀ ty dc, (Builtin.copy_ #[28, 28] ty #[.slice (some ⟨w.heap.size, i * 4, none⟩) (n + m - i) dc, .slice (some ⟨vb, 0, none⟩) m vc]).run Tryz.prog W = .ok (goInt m) (W.setCells w.heap.size (i * 4) vs) := fun W hWc hWf ty dc => by
  have hmin : Nat.min m (n + m - i) = m := by simp only [Nat.min_def]; split <;> omega
  have h := run_copy_k W 28 28 ty 53 4 w.heap.size (i * 4) (n + m - i) dc ⟨vb, 0, none⟩ m vc vs t28 hsz (by rw [hvl, hmin])
   (fun j v hj => by rw [Addr.add_lit, hWc, Nat.zero_add]; exact hOv _ v (hvs j v hj))
   (fun j hj => by rw [hWc]; exact hN _ (by rw [hvl] at hj; omega)) (fun j hj => by rw [hWf]; exact hNf _) h1v
  rw [hmin] at h
  exact h
 have hGi : ¬ (G = i) := by omega
 have hGim : ¬ (G = i + m) := by omega
 have hci : ¬ (c = i) := by omega
 have hbN : g ≠ w.heap.size := by omega
 have hdl : (cs.drop (i * 4)).length = (n - i) * 4 := by rw [List.length_drop, hcl, Nat.sub_mul]
 have hcpB : ∀ (W : World), (∀ x, W.cell? x = (W1.setCells w.heap.size (i * 4) vs).cell? x) → (∀ x, W.frozen? x = (W1.setCells w.heap.size (i * 4) vs).frozen? x) → ∀ ty dc sc, (Builtin.copy_ #[28, 28] ty #[.slice (some ⟨w.heap.size, (i + m) * 4, none⟩) (n + m - (i + m)) dc, .slice (some ⟨g, i * 4, none⟩) (n - i) sc]).run Tryz.prog W = .ok (goInt (n - i : Nat)) (W.setCells w.heap.size ((i + m) * 4) (cs.drop (i * 4))) := fun W hWc hWf ty dc sc => by
  have hmin : Nat.min (n - i) (n + m - (i + m)) = n - i := by simp only [Nat.min_def]; split <;> omega
  have h := run_copy_k W 28 28 ty 53 4 w.heap.size ((i + m) * 4) (n + m - (i + m)) dc ⟨g, i * 4, none⟩ (n - i) sc (cs.drop (i * 4)) t28 hsz (by rw [hdl, hmin])
   (fun j v hj => by
    rw [Addr.add_lit, hWc, World.cell?_setCells_out _ _ _ _ _ (fun h _ => absurd h hbN)]
    exact hOb _ v (hcs (i * 4 + j) v (by rwa [List.getElem?_drop] at hj)))
   (fun j hj => by rw [hWc]; exact isSome_setCells _ _ _ _ (fun t ht => hN _ (by rw [hvl] at ht; omega)) _ (hN _ (by rw [hdl] at hj; omega)))
   (fun j hj => by rw [hWf, World.frozen?_setCells]; exact hNf _) (fun v hv => h1c v (List.mem_of_mem_drop hv))
  rw [hmin] at h
  exact h
 subst hW1
 have hE1 : ∀ x, ((w.alloc (.cells ROW 53)).drew).cell? x = (w.drew.alloc (.cells ROW 53)).cell? x := fun x => rfl
 have hE2 : ∀ x, ((w.alloc (.cells ROW 53)).drew).frozen? x = (w.drew.alloc (.cells ROW 53)).frozen? x := fun x => rfl
 have hF1 : ∀ x, (((w.alloc (.cells ROW 53)).drew.setCells w.heap.size (i * 4) vs).drew).cell? x = ((w.drew.alloc (.cells ROW 53)).setCells w.heap.size (i * 4) vs).cell? x := fun x => rfl
 have hF2 : ∀ x, (((w.alloc (.cells ROW 53)).drew.setCells w.heap.size (i * 4) vs).drew).frozen? x = ((w.drew.alloc (.cells ROW 53)).setCells w.heap.size (i * 4) vs).frozen? x := fun x => rfl
 have hw1 : IntKind.i64.wrap ((i : Int) + (m : Int)) = (i : Int) + (m : Int) := by rw [IntKind.wrap_i64]; omega
 have hb1 : (0 : Int) ≤ (i : Int) + (m : Int) := by omega
 have hin : i ≤ n := by omega
 have htn : ((i : Int) + (m : Int)).toNat = i + m := by omega
 have hb3 : (i : Int) ≤ (n : Int) := by omega
 have XR : Hd (ROW.size = G * 4 ∧ ROW.toList.take (i * 4) = cs.take (i * 4)) := ⟨hRs, hRt⟩
 clear hkk hik hold hROW hG hRs hRt hcs hvs h1c h1v hN hNf hOb hOv hct hcl hvl
 go_enter Tryz.func162, Tryz.ntmps162
 go_wp2_with (first
  | (at_builtin; refine Lib.wpList_append_run _ rfl _ _ _ _ rfl _ _ rfl rfl _ _ (hrz _) ?_)
  | (at_builtin; refine wpList_copy_runI _ rfl _ _ 28 28 rfl _ _ rfl rfl (hcpA _ hE1 hE2 _ _) ?_)
  | (at_builtin; refine wpList_copy_runI _ rfl _ _ 28 28 rfl _ _ rfl rfl (hcpB _ (fun _ => rfl) (fun _ => rfl) _ _ _) ?_))
 go_region_law_o (refine step_copy_runI rfl _ _ 28 28 rfl (.slice (some ⟨w.heap.size, (i + m) * 4, none⟩) (n + m - (i + m)) (G - (i + m))) (.slice (some ⟨g, i * 4, none⟩) (n - i) (c - i)) (by simp [Act.eval, Act.put]) (by simp [Act.eval, Act.put]) (hcpB _ hF1 hF2 3 (G - (i + m)) (c - i)) ?_)
 go_wp2
 go_ret
 exact ⟨ROW, rfl, rfl, XR.out⟩
theorem insertModule_w : InsW Tryz.prog 162 53 4 := {
 at1 := by
  intro W g cap cur n i vb vcap vcur hg hle hcap hcur hone hi hn4 hne hvg hvc hvcur hvone
  obtain ⟨c, hc⟩ : ∃ c, cur.toList.take (n * 4) = c := ⟨_, rfl⟩
  obtain ⟨vs, hvs⟩ : ∃ vs, vcur.toList.take 4 = vs := ⟨_, rfl⟩
  rw [hc] at hone ⊢
  rw [hvs] at hvone ⊢
  have hmx : cap ≤ 9223372036854775807 := hcap
  have hnk : n * 4 ≤ cur.size := by rw [hcur]; exact Nat.mul_le_mul_right _ hle
  have hclen : c.length = n * 4 := by rw [← hc, List.length_take]; exact Nat.min_eq_left hnk
  have hvlen : vs.length = 1 * 4 := by rw [← hvs, List.length_take]; exact Nat.min_eq_left (by show _ ≤ vcur.size; omega)
  have hcell : ∀ j v, c[j]? = some v → W.cell? ⟨g, j, none⟩ = some v := fun j v hj => by
   rw [← hc, List.getElem?_take] at hj
   split at hj
   ·rw [← hj]; simp [World.cell?, hg]
   ·cases hj
  have hvcell : ∀ j v, vs[j]? = some v → W.cell? ⟨vb, j, none⟩ = some v := fun j v hj => by
   rw [← hvs, List.getElem?_take] at hj
   split at hj
   ·rw [← hj]; simp [World.cell?, hvg]
   ·cases hj
  have hsp : ∀ j, j < cap * 4 → (W.cell? ⟨g, j, none⟩).isSome = true := fun j hj => by
   simp only [World.cell?, hg]
   rw [show (({ block := g, off := j, spot := none } : Addr).spot.isSome) = false from rfl]
   simp only [Bool.false_eq_true, if_false]
   rw [Array.getElem?_eq_getElem (by omega)]; rfl
  have hfz : ∀ j, W.frozen? ⟨g, j, none⟩ = false := fun t => by simp [World.frozen?, hg]
  have hvfz : ∀ j, W.frozen? ⟨vb, j, none⟩ = false := fun t => by simp [World.frozen?, hvg]
  have hgw : g < W.heap.size := (Array.getElem?_eq_some_iff.1 hg).1
  have hct : cur.toList.take (i * 4) = c.take (i * 4) := by rw [← hc, List.take_take, Nat.min_eq_left (by omega)]
  have hdl : (c.drop (i * 4)).length = (n - i) * 4 := by rw [List.length_drop, hclen, Nat.sub_mul]
  rcases Nat.lt_or_ge i n with h | h
  ·rcases Nat.lt_or_ge cap (n + 1) with h' | h'
   ·refine (insDModule g n cap i vb 1 vcap c vs W h (by omega) hle h' (by omega) hclen hvlen hcell hvcell hone hvone).mono ?_
    rintro e' W' ⟨ROW, rfl, hW, hRs, hRt⟩
    obtain ⟨G, hG⟩ : ∃ G, grownCap W (n + 1) cap 53 = G := ⟨_, rfl⟩
    rw [hG] at hRs ⊢
    have hGn : n + 1 ≤ G := by rw [← hG]; exact grownCap_ge W _ _ _
    have hGm : G ≤ maxLen := by rw [← hG]; exact grownCap_le_maxLen W (n + 1) cap 53 (by unfold maxLen; omega)
    have h0 : (W.alloc (.cells ROW 53)).drew.heap[W.heap.size]? = some (.cells ROW 53 (0, 0)) := World.alloc_heap_new W _
    have h1 := setCells_at W.heap.size vs (i * 4) _ _ _ _ h0
    have h2 := setCells_at W.heap.size (c.drop (i * 4)) ((i + 1) * 4) (((W.alloc (.cells ROW 53)).drew.setCells W.heap.size (i * 4) vs).drew) _ _ _ h1
    obtain ⟨r1, r2, r3, r4⟩ := setCells_rest W.heap.size (c.drop (i * 4)) ((i + 1) * 4) (((W.alloc (.cells ROW 53)).drew.setCells W.heap.size (i * 4) vs).drew)
    obtain ⟨q1, q2, q3, q4⟩ := setCells_rest W.heap.size vs (i * 4) (W.alloc (.cells ROW 53)).drew
    rw [← hW] at h2 r1 r2 r3 r4
    refine ⟨W.heap.size, G, _, rfl, ⟨r1.trans q1, r2.trans q2, r3.trans q3, by rw [r4, show ∀ w : World, w.drew.heap.size = w.heap.size from fun _ => rfl, q4]; simp⟩, fun b hb _ => ?_, h2, .inr (Nat.le_refl _), hGn, hGm, by rw [putL_size, putL_size, hRs], ?_⟩
    ·have hbn : b ≠ W.heap.size := by omega
     rw [hW, setCells_else _ _ _ _ b hbn]
     show (((W.alloc (.cells ROW 53)).drew.setCells W.heap.size (i * 4) vs)).heap[b]? = _
     rw [setCells_else _ _ _ _ b hbn]
     show (W.heap.push _)[b]? = _
     rw [Array.getElem?_push, if_neg hbn]
    ·have hp := putL2 ROW (i * 4) vs (c.drop (i * 4)) (by rw [hvlen, hdl, hRs]; omega)
     rw [hvlen, hdl, hRt] at hp
     rw [show (n + 1) * 4 = i * 4 + 1 * 4 + (n - i) * 4 by omega, show (i + 1) * 4 = i * 4 + 1 * 4 by omega]
     exact hp
   ·refine (insCModule g n cap i vb 1 vcap c vs W h (by omega) h' hmx hne hclen hvlen hcell (fun j hj => hsp j (by omega)) hfz hvcell hone hvone _ _ _ _ (by simp only [World.shape?, hvg]; rfl) (by simp only [World.shape?, hg]; rfl) (by omega) (hvfz 0) (hvfz _)).mono ?_
    rintro e' W' ⟨rfl, hW⟩
    have h1 := setCells_at g (c.drop (i * 4)) ((i + 1) * 4) W.drew _ _ _ hg
    have h2 := setCells_at g vs (i * 4) _ _ _ _ h1
    obtain ⟨r1, r2, r3, r4⟩ := setCells_rest g vs (i * 4) (W.drew.setCells g ((i + 1) * 4) (c.drop (i * 4)))
    obtain ⟨q1, q2, q3, q4⟩ := setCells_rest g (c.drop (i * 4)) ((i + 1) * 4) W.drew
    rw [← hW] at h2 r1 r2 r3 r4
    refine ⟨g, cap, _, rfl, ⟨r1.trans q1, r2.trans q2, r3.trans q3, by rw [r4, q4]; exact Nat.le_refl _⟩, fun b hb hbg => ?_, h2, .inl rfl, h', hcap, by rw [putL_size, putL_size, hcur], ?_⟩
    ·rw [hW, setCells_else _ _ _ _ b hbg, setCells_else _ _ _ _ b hbg]; rfl
    ·have hp := putL2' cur (i * 4) vs (c.drop (i * 4)) (by rw [hvlen, hdl, hcur]; omega)
     rw [hvlen, hdl, hct] at hp
     rw [show (n + 1) * 4 = i * 4 + 1 * 4 + (n - i) * 4 by omega, show (i + 1) * 4 = i * 4 + 1 * 4 by omega]
     exact hp
  ·obtain rfl : i = n := by omega
   have hcd : c.take (i * 4) ++ vs ++ c.drop (i * 4) = c ++ vs := by
    rw [List.take_of_length_le (by omega), List.drop_eq_nil_of_le (by omega), List.append_nil]
   rw [hcd]
   rcases Nat.lt_or_ge cap (i + 1) with h' | h'
   ·refine (insBModule (some ⟨g, 0, none⟩) i cap vb 1 vcap c vs W (by omega) hle h' (by omega) hclen hvlen (by simp) (fun a ha j v hj => by cases ha; rw [Addr.add_lit, Nat.zero_add]; exact hcell j v hj) hvcell hvone).mono ?_
    rintro e' W' ⟨R, rfl, rfl, hRs⟩
    have hGn : i + 1 ≤ grownCap W (i + 1) cap 53 := grownCap_ge W _ _ _
    refine ⟨W.heap.size, _, _, rfl, ⟨rfl, rfl, rfl, by simp⟩, fun b hb _ => ?_, World.alloc_heap_new W.drew _, .inr (Nat.le_refl _), hGn, grownCap_le_maxLen W (i + 1) cap 53 (by unfold maxLen; omega), ?_, ?_⟩
    ·show (W.heap.push _)[b]? = _
     rw [Array.getElem?_push, if_neg (by omega)]
    ·rw [Array.size_append, hRs]; simp only [List.size_toArray, List.length_append, hclen, hvlen]; omega
    ·rw [Array.toList_append]; exact List.take_left' (by simp only [List.length_append, hclen, hvlen]; omega)
   ·refine (insAModule g i cap vb 1 vcap vs W (by omega) h' hmx hvlen (fun j hj => hsp _ (by omega)) (fun j hj => hfz _) hvcell hvone).mono ?_
    rintro e' W' ⟨rfl, hW⟩
    rw [Nat.zero_add] at hW
    have h1 := setCells_at g vs (i * 4) W _ _ _ hg
    obtain ⟨r1, r2, r3, r4⟩ := setCells_rest g vs (i * 4) W
    rw [← hW] at h1 r1 r2 r3 r4
    refine ⟨g, cap, _, rfl, ⟨r1, r2, r3, by rw [r4]; exact Nat.le_refl _⟩, fun b hb hbg => ?_, h1, .inl rfl, h', hcap, by rw [putL_size, hcur], ?_⟩
    ·rw [hW, setCells_else _ _ _ _ b hbg]
    ·have hp := putL1 cur (i * 4) vs (by rw [hvlen, hcur]; omega)
     have hct' : c.take (i * 4) = c := List.take_of_length_le (by omega)
     rw [hvlen, hct, hct'] at hp
     rw [show (i + 1) * 4 = i * 4 + 1 * 4 by omega]
     exact hp
 at0 := by
  intro W ad vb vcap vcur hvg hvc hvcur hvone
  obtain ⟨vs, hvs⟩ : ∃ vs, vcur.toList.take 4 = vs := ⟨_, rfl⟩
  rw [hvs] at hvone ⊢
  have hvlen : vs.length = 1 * 4 := by rw [← hvs, List.length_take]; exact Nat.min_eq_left (by show _ ≤ vcur.size; omega)
  have hvcell : ∀ j v, vs[j]? = some v → W.cell? ⟨vb, j, none⟩ = some v := fun j v hj => by
   rw [← hvs, List.getElem?_take] at hj
   split at hj
   ·rw [← hj]; simp [World.cell?, hvg]
   ·cases hj
  refine (insBModule ad 0 0 vb 1 vcap [] vs W (by omega) (Nat.le_refl _) (by omega) (by omega) (by simp) hvlen (fun _ => rfl) (by simp) hvcell hvone).mono ?_
  rintro e' W' ⟨R, rfl, rfl, hRs⟩
  have hGn : 0 + 1 ≤ grownCap W (0 + 1) 0 53 := grownCap_ge W _ _ _
  refine ⟨W.heap.size, _, _, rfl, ⟨rfl, rfl, rfl, by simp⟩, fun b hb _ => ?_, World.alloc_heap_new W.drew _, .inr (Nat.le_refl _), hGn, grownCap_le_maxLen W (0 + 1) 0 53 (by unfold maxLen; omega), ?_, ?_⟩
  ·show (W.heap.push _)[b]? = _
   rw [Array.getElem?_push, if_neg (by omega)]
  ·rw [Array.size_append, hRs]; simp only [List.size_toArray, List.length_append, List.length_nil, hvlen]; omega
  ·rw [Array.toList_append]; exact List.take_left' (by simp [hvlen]) }
set_option maxHeartbeats 8000000 in
/-- At the end, with room. -/
theorem insAItem (g n c vb m vc : Nat) (vs : List Value) (w : World) (hm : 0 < m) (hroom : n + m ≤ c) (hc63 : c ≤ 9223372036854775807) (hvl : vs.length = m * 35)
  (hsp : ∀ j, j < m * 35 → (w.cell? ⟨g, 0 + n * 35 + j, none⟩).isSome = true) (hfz : ∀ j, j < m * 35 → w.frozen? ⟨g, 0 + n * 35 + j, none⟩ = false)
  (hvs : ∀ j v, vs[j]? = some v → w.cell? ⟨vb, j, none⟩ = some v) (h1v : ∀ v ∈ vs, v.oneCell' = true) :
  Calls Tryz.prog 159 #[.slice (some ⟨g, 0, none⟩) n c, .int .i64 n, .slice (some ⟨vb, 0, none⟩) m vc] w fun e w' => e = .returned (.slice (some ⟨g, 0, none⟩) (n + m) c) ∧ w' = w.setCells g (0 + n * 35) vs := by
 obtain ⟨i0, z0, t28, hi0, hz0, hzc, hz1, _, _⟩ := appTy_some tA51
 have mixed := mixed
 have hzz : ¬ ((m : Int) = 0) := by omega
 have hsrc : Src Tryz.prog i0.size 51 (.slice (some ⟨vb, 0, none⟩) m vc) m vs w := by
  rw [hz1]
  exact Src.ofSlice w t28 ⟨vb, 0, none⟩ m vc vs hvl (fun j u hj => by rw [Addr.add_lit, Nat.zero_add]; exact hvs j u hj) h1v
 have hrun : ∀ ty, (Builtin.append_ #[51, 51] ty #[.slice (some ⟨g, 0, none⟩) n c, .slice (some ⟨vb, 0, none⟩) m vc]).run Tryz.prog w = .ok (.slice (some ⟨g, 0, none⟩) (n + m) c) (w.setCells g (0 + n * 35) vs) := fun ty => by
  have h := run_append_room_src w 51 51 ty 64 i0 t28 hi0 g 0 n c _ m vs hsrc hroom (by rw [hz1, hvl]; exact hsp) (by rw [hz1, hvl]; exact hfz)
  rw [hz1] at h
  exact h
 clear hsp hfz hvs h1v hsrc
 go_enter Tryz.func159, Tryz.ntmps159
 go_wp2_with (at_builtin; refine Lib.wpList_append_run _ rfl _ _ _ _ rfl _ _ rfl rfl _ _ (hrun _) ?_)
 go_ret
 exact ⟨rfl, by rw [Nat.zero_add]⟩
set_option maxHeartbeats 8000000 in
/-- At the end, without room. -/
theorem insBItem (base : Option Addr) (n c vb m vc : Nat) (cs vs : List Value) (w : World) (hm : 0 < m) (hnc : n ≤ c) (hroom : c < n + m) (hbig : (n + m) * 480 ≤ 140737488355328) (hcl : cs.length = n * 35) (hvl : vs.length = m * 35) (hnil : base = none → n = 0)
  (hcs : ∀ a, base = some a → ∀ j v, cs[j]? = some v → w.cell? (a.add j) = some v)
  (hvs : ∀ j v, vs[j]? = some v → w.cell? ⟨vb, j, none⟩ = some v) (h1v : ∀ v ∈ vs, v.oneCell' = true) :
  Calls Tryz.prog 159 #[.slice base n c, .int .i64 n, .slice (some ⟨vb, 0, none⟩) m vc] w fun e w' => ∃ (cur' : Array Value), e = .returned (.slice (some ⟨w.heap.size, 0, none⟩) (n + m) (grownCap w (n + m) c 64)) ∧
   w' = w.drew.alloc (.cells ((cs ++ vs).toArray ++ cur') 64) ∧ cur'.size = (grownCap w (n + m) c 64 - (n + m)) * 35 := by
 obtain ⟨i0, z0, t28, hi0, hz0, hzc, hz1, hzb, _⟩ := appTy_some tA51
 have mixed := mixed
 have hzz : ¬ ((m : Int) = 0) := by omega
 have hsrc : Src Tryz.prog i0.size 51 (.slice (some ⟨vb, 0, none⟩) m vc) m vs w := by
  rw [hz1]
  exact Src.ofSlice w t28 ⟨vb, 0, none⟩ m vc vs hvl (fun j u hj => by rw [Addr.add_lit, Nat.zero_add]; exact hvs j u hj) h1v
 have hold : (Builtin.firstCells i0.size n (.slice base n c)).run Tryz.prog w.drew = .ok cs.toArray w.drew := by
  rw [hz1]
  cases base with
  | none =>
   have h0 := hnil rfl
   subst h0
   have hc0 : cs = [] := List.length_eq_zero_iff.1 (by rw [hcl, Nat.zero_mul])
   rw [hc0]
   exact run_firstCells_none w.drew 35 0 0 c
  | some a => exact run_firstCells_some w.drew 35 n a n c cs hcl (fun j v hj => hcs a rfl j v hj)
 obtain ⟨R, hR⟩ : ∃ R : Array Value, R = Builtin.zeroCells z0.cells (grownCap w (n + m) c 64 - (n + m)) := ⟨_, rfl⟩
 have hRs : R.size = (grownCap w (n + m) c 64 - (n + m)) * 35 := by rw [hR]; simp [Builtin.zeroCells, hzc]
 have hrun : ∀ ty, (Builtin.append_ #[51, 51] ty #[.slice base n c, .slice (some ⟨vb, 0, none⟩) m vc]).run Tryz.prog w = .ok (.slice (some ⟨w.heap.size, 0, none⟩) (n + m) (grownCap w (n + m) c 64)) (w.drew.alloc (.cells ((cs ++ vs).toArray ++ R) 64)) := fun ty => by
  have h := run_append_grow_src w 51 51 ty 64 i0 z0 t28 hi0 hz0 base n c cs hold _ m vs hsrc hroom (by omega) (by rw [hzb]; exact growslice_fits hroom hbig)
  rw [← hR] at h
  exact h
 obtain ⟨G, hG⟩ : ∃ G, G = grownCap w (n + m) c 64 := ⟨_, rfl⟩
 rw [← hG] at hrun hRs ⊢
 have XR : Hd (R.size = (G - (n + m)) * 35) := ⟨hRs⟩
 clear hcs hvs h1v hsrc hold hR hG hRs
 go_enter Tryz.func159, Tryz.ntmps159
 cases base with
 | none =>
  have h0 := hnil rfl
  subst h0
  go_wp2_with (at_builtin; refine Lib.wpList_append_run _ rfl _ _ _ _ rfl _ _ rfl rfl _ _ (hrun _) ?_)
  go_ret
  exact ⟨by simp, R, by simp, by rw [XR.out, Nat.zero_add]⟩
 | some a =>
  obtain ⟨ab, ao, asp⟩ := a
  go_wp2_with (at_builtin; refine Lib.wpList_append_run _ rfl _ _ _ _ rfl _ _ rfl rfl _ _ (hrun _) ?_)
  all_goals (go_ret; exact ⟨rfl, R, rfl, XR.out⟩)
set_option maxHeartbeats 16000000 in
/-- In the middle, with room. -/
theorem insCItem (g n c i vb m vc : Nat) (cs vs : List Value) (w : World) (hi : i < n) (hm : 0 < m) (hroom : n + m ≤ c) (hc63 : c ≤ 9223372036854775807) (hvb : vb ≠ g) (hcl : cs.length = n * 35) (hvl : vs.length = m * 35)
  (hcs : ∀ j v, cs[j]? = some v → w.cell? ⟨g, j, none⟩ = some v) (hsp : ∀ j, j < (n + m) * 35 → (w.cell? ⟨g, j, none⟩).isSome = true) (hfz : ∀ j, w.frozen? ⟨g, j, none⟩ = false)
  (hvs : ∀ j v, vs[j]? = some v → w.cell? ⟨vb, j, none⟩ = some v) (h1c : ∀ v ∈ cs, v.oneCell' = true) (h1v : ∀ v ∈ vs, v.oneCell' = true)
  (tA tB : TypeId) (kA kB : Nat) (hsa : w.shape? vb = some (tA, kA)) (hsb : w.shape? g = some (tB, kB)) (hkB : kB ≠ 0) (hfa : w.frozen? ⟨vb, 0, none⟩ = false) (hfe : w.frozen? ⟨vb, kA, none⟩ = false) :
  Calls Tryz.prog 159 #[.slice (some ⟨g, 0, none⟩) n c, .int .i64 i, .slice (some ⟨vb, 0, none⟩) m vc] w fun e w' =>
   e = .returned (.slice (some ⟨g, 0, none⟩) (n + m) c) ∧ w' = (w.drew.setCells g ((i + m) * 35) (cs.drop (i * 35))).setCells g (i * 35) vs := by
 obtain ⟨i0, z0, t28, hi0, hz0, hzc, hz1s, hzb, _⟩ := appTy_some tA51
 have mixed := mixed
 have hz1 : ¬ ((m : Int) = 0) := by omega
 have hz2 : ¬ ((i : Int) = (n : Int)) := by omega
 have hsz : (Tryz.prog.info? 64).map (·.size) = some 35 := by rw [hi0]; simp [hz1s]
 have hov : ∀ lb cb, (callFunc 211 #[.slice (some ⟨vb, 0, none⟩) m vc, .slice (some ⟨g, (i + m) * 35, none⟩) lb cb]).run Tryz.prog w = .ok (.value (.bool false)) w := fun lb cb => by
  rw [run_callFunc_extern Tryz.func211 (by kernel_rfl) (by kernel_rfl) (by kernel_rfl) (e := Extern.SlicesOverlaps.overlaps #[51, 51] #[4]) (by kernel_rfl),
   Lib.run_overlaps_apart w 51 4 64 t28 35 Tryz.sizeOf64 ⟨vb, 0, none⟩ ⟨g, (i + m) * 35, none⟩ m vc lb cb hvb tA tB kA kB hsa hsb hkB hfa hfe]
  rfl
 have hdl : (cs.drop (i * 35)).length = (n - i) * 35 := by rw [List.length_drop, hcl, Nat.sub_mul]
 have hw1 : IntKind.i64.wrap ((i : Int) + (m : Int)) = (i : Int) + (m : Int) := by rw [IntKind.wrap_i64]; omega
 have hb1 : (0 : Int) ≤ (i : Int) + (m : Int) := by omega
 have hin : i ≤ n := by omega
 have htn : ((i : Int) + (m : Int)).toNat = i + m := by omega
 have hb2 : ¬ (c = i + m) := by omega
 have hb3 : (i : Int) ≤ (n : Int) + (m : Int) := by omega
 have hb4 : ¬ (c = i) := by omega
 have hcp1 : ∀ ty dc sc, (Builtin.copy_ #[51, 51] ty #[.slice (some ⟨g, (i + m) * 35, none⟩) (n + m - (i + m)) dc, .slice (some ⟨g, i * 35, none⟩) (n + m - i) sc]).run Tryz.prog w.drew = .ok (goInt (n - i : Nat)) (w.drew.setCells g ((i + m) * 35) (cs.drop (i * 35))) := fun ty dc sc => by
  have hmin : Nat.min (n + m - i) (n + m - (i + m)) = n - i := by simp only [Nat.min_def]; split <;> omega
  have h := run_copy_k w.drew 51 51 ty 64 35 g ((i + m) * 35) (n + m - (i + m)) dc ⟨g, i * 35, none⟩ (n + m - i) sc (cs.drop (i * 35)) t28 hsz (by rw [hdl, hmin])
   (fun j v hj => by rw [Addr.add_lit]; exact hcs (i * 35 + j) v (by rwa [List.getElem?_drop] at hj))
   (fun j hj => hsp _ (by rw [hdl] at hj; omega)) (fun j hj => hfz _) (fun v hv => h1c v (List.mem_of_mem_drop hv))
  rw [hmin] at h
  exact h
 obtain ⟨W1, hW1⟩ : ∃ W1, W1 = w.drew.setCells g ((i + m) * 35) (cs.drop (i * 35)) := ⟨_, rfl⟩
 have hsp1 : ∀ k, k < (n + m) * 35 → (W1.cell? ⟨g, k, none⟩).isSome = true := fun k hk => by
  rw [hW1]
  exact isSome_setCells g _ _ w.drew (fun j hj => hsp ((i + m) * 35 + j) (by rw [hdl] at hj; omega)) _ (hsp k hk)
 have hcp2 : ∀ (W : World), (∀ x, W.cell? x = W1.cell? x) → (∀ x, W.frozen? x = W1.frozen? x) → ∀ ty dc, (Builtin.copy_ #[51, 51] ty #[.slice (some ⟨g, i * 35, none⟩) (n + m - i) dc, .slice (some ⟨vb, 0, none⟩) m vc]).run Tryz.prog W = .ok (goInt m) (W.setCells g (i * 35) vs) := fun W hWc hWf ty dc => by
  have hmin : Nat.min m (n + m - i) = m := by simp only [Nat.min_def]; split <;> omega
  have h := run_copy_k W 51 51 ty 64 35 g (i * 35) (n + m - i) dc ⟨vb, 0, none⟩ m vc vs t28 hsz (by rw [hvl, hmin])
   (fun j v hj => by
    rw [Addr.add_lit, hWc, hW1, World.cell?_setCells_out g _ _ _ _ (fun h _ => absurd h hvb), Nat.zero_add]
    exact hvs j v hj)
   (fun j hj => by rw [hWc]; exact hsp1 _ (by rw [hvl] at hj; omega)) (fun j hj => by rw [hWf, hW1, World.frozen?_setCells]; exact hfz _) h1v
  rw [hmin] at h
  exact h
 rw [← hW1] at hcp1
 have hWW : Hd (W1 = w.drew.setCells g ((i + m) * 35) (cs.drop (i * 35))) := ⟨hW1⟩
 clear hW1 hcs hsp hfz hvs h1c h1v hsp1 hdl hcl hvl
 go_enter Tryz.func159, Tryz.ntmps159
 go_wp2_with (simp only [hov])
 go_region_law_o (refine step_copy_runI rfl _ _ 51 51 rfl _ _ (by simp [Act.eval, Act.put]) (by simp [Act.eval, Act.put]) (hcp1 _ _ _) ?_)
 go_wp2_with (at_builtin; refine wpList_copy_runI _ rfl _ _ 51 51 rfl _ _ rfl rfl (hcp2 _ (fun _ => rfl) (fun _ => rfl) _ _) ?_)
 go_ret
 exact ⟨rfl, by rw [hWW.out]⟩
set_option maxHeartbeats 16000000 in
/-- In the middle, without room. -/
theorem insDItem (g n c i vb m vc : Nat) (cs vs : List Value) (w : World) (hi : i < n) (hm : 0 < m) (hnc : n ≤ c) (hroom : c < n + m) (hbig : (n + m) * 480 ≤ 140737488355328) (hcl : cs.length = n * 35) (hvl : vs.length = m * 35)
  (hcs : ∀ j v, cs[j]? = some v → w.cell? ⟨g, j, none⟩ = some v) (hvs : ∀ j v, vs[j]? = some v → w.cell? ⟨vb, j, none⟩ = some v) (h1c : ∀ v ∈ cs, v.oneCell' = true) (h1v : ∀ v ∈ vs, v.oneCell' = true) :
  Calls Tryz.prog 159 #[.slice (some ⟨g, 0, none⟩) n c, .int .i64 i, .slice (some ⟨vb, 0, none⟩) m vc] w fun e w' => ∃ ROW : Array Value,
   e = .returned (.slice (some ⟨w.heap.size, 0, none⟩) (n + m) (grownCap w (n + m) c 64)) ∧
   w' = (((w.alloc (.cells ROW 64)).drew.setCells w.heap.size (i * 35) vs).drew).setCells w.heap.size ((i + m) * 35) (cs.drop (i * 35)) ∧ ROW.size = grownCap w (n + m) c 64 * 35 ∧ ROW.toList.take (i * 35) = cs.take (i * 35) := by
 obtain ⟨i0, z0, t28, hi0, hz0, hzc, hzs, hzb, _⟩ := appTy_some tA51
 have mixed := mixed
 have hz1 : ¬ ((m : Int) = 0) := by omega
 have hz2 : ¬ ((i : Int) = (n : Int)) := by omega
 have hz3 : (c : Int) < (n : Int) + (m : Int) := by omega
 have hsz : (Tryz.prog.info? 64).map (·.size) = some 35 := by rw [hi0]; simp [hzs]
 have hbw : g < w.heap.size := block_lt_of_cell (hcs 0 _ (List.getElem?_eq_getElem (by omega)))
 have hvw : vb < w.heap.size := block_lt_of_cell (hvs 0 _ (List.getElem?_eq_getElem (by omega)))
 have hkk : (n : Int) + (m : Int) - (i : Int) = ((n + m - i : Nat) : Int) := by omega
 have hik : i + (n + m - i) = n + m := by omega
 have hct : (cs.take (i * 35)).length = i * 35 := by rw [List.length_take, hcl]; omega
 have hold : (Builtin.firstCells i0.size i (.slice (some ⟨g, 0, none⟩) i c)).run Tryz.prog w.drew = .ok (cs.take (i * 35)).toArray w.drew := by
  rw [hzs]
  exact run_firstCells_some w.drew 35 i ⟨g, 0, none⟩ i c (cs.take (i * 35)) hct (fun j v hj => by
   rw [Addr.add_lit, Nat.zero_add]
   rw [List.getElem?_take] at hj
   split at hj
   ·exact hcs j v hj
   ·cases hj)
 obtain ⟨G, hG⟩ : ∃ G, G = grownCap w (n + m) c 64 := ⟨_, rfl⟩
 obtain ⟨ROW, hROW⟩ : ∃ ROW : Array Value, ROW = (cs.take (i * 35)).toArray ++ Builtin.zeroCells z0.cells (n + m - i) ++ Builtin.zeroCells z0.cells (G - (n + m)) := ⟨_, rfl⟩
 have hrz : ∀ ty, (Builtin.append_ #[51, 3] ty #[.slice (some ⟨g, 0, none⟩) i c, .int .i64 ((n : Int) + (m : Int) - (i : Int))]).run Tryz.prog w =
   .ok (.slice (some ⟨w.heap.size, 0, none⟩) (n + m) G) (w.drew.alloc (.cells ROW 64)) := fun ty => by
  have h := Lib.run_append_grow_zeros w 51 3 ty 64 i0 _ .i64 .i64 t28 Tryz.underlying3 hi0 hz0 (some ⟨g, 0, none⟩) i c (cs.take (i * 35)) hold (n + m - i) (by omega) (by rw [hzs]; omega) (by omega) (by omega) (by rw [hzb]; omega) (by rw [hzb, hik]; exact growslice_fits hroom hbig)
  rw [hik] at h
  rw [hkk, hROW, hG]
  exact h
 have hGn : n + m ≤ G := by rw [hG]; exact grownCap_ge w _ _ _
 have hG63 : G ≤ 9223372036854775807 := by
  have := grownCap_le_maxLen w (n + m) c 64 (by unfold maxLen; omega)
  rw [← hG] at this
  unfold maxLen at this
  omega
 have hRs : ROW.size = G * 35 := by
  rw [hROW]
  have hzs : ∀ q, (Builtin.zeroCells z0.cells q).size = q * 35 := fun q => by simp [Builtin.zeroCells, hzc]
  simp only [Array.size_append, List.size_toArray, hct, hzs]
  omega
 have hRt : ROW.toList.take (i * 35) = cs.take (i * 35) := by
  rw [hROW]
  simp only [Array.toList_append, List.append_assoc]
  rw [List.take_left' hct]
 rw [← hG]
 obtain ⟨W1, hW1⟩ : ∃ W1, W1 = w.drew.alloc (.cells ROW 64) := ⟨_, rfl⟩
 rw [← hW1] at hrz
 have hN : ∀ j, j < (n + m) * 35 → (W1.cell? ⟨w.heap.size, j, none⟩).isSome = true := fun j hj => by
  rw [hW1, World.cell?_alloc_at (w := w.drew) ROW _ w.heap.size j rfl, Array.getElem?_eq_getElem (by rw [hRs]; have := Nat.mul_le_mul_right 35 hGn; omega)]; rfl
 have hNf : ∀ j, W1.frozen? ⟨w.heap.size, j, none⟩ = false := fun j => by rw [hW1]; exact World.frozen?_alloc_at (w := w.drew) ROW _ w.heap.size j rfl
 have hOb : ∀ j v, w.cell? ⟨g, j, none⟩ = some v → W1.cell? ⟨g, j, none⟩ = some v := fun j v h => by rw [hW1, World.cell?_alloc_past (w := w.drew) _ g j hbw]; exact h
 have hOv : ∀ j v, w.cell? ⟨vb, j, none⟩ = some v → W1.cell? ⟨vb, j, none⟩ = some v := fun j v h => by rw [hW1, World.cell?_alloc_past (w := w.drew) _ vb j hvw]; exact h
 have hcpA : ∀ (W : World), (∀ x, W.cell? x = W1.cell? x) → (∀ x, W.frozen? x = W1.frozen? x) → ∀ ty dc, (Builtin.copy_ #[51, 51] ty #[.slice (some ⟨w.heap.size, i * 35, none⟩) (n + m - i) dc, .slice (some ⟨vb, 0, none⟩) m vc]).run Tryz.prog W = .ok (goInt m) (W.setCells w.heap.size (i * 35) vs) := fun W hWc hWf ty dc => by
  have hmin : Nat.min m (n + m - i) = m := by simp only [Nat.min_def]; split <;> omega
  have h := run_copy_k W 51 51 ty 64 35 w.heap.size (i * 35) (n + m - i) dc ⟨vb, 0, none⟩ m vc vs t28 hsz (by rw [hvl, hmin])
   (fun j v hj => by rw [Addr.add_lit, hWc, Nat.zero_add]; exact hOv _ v (hvs j v hj))
   (fun j hj => by rw [hWc]; exact hN _ (by rw [hvl] at hj; omega)) (fun j hj => by rw [hWf]; exact hNf _) h1v
  rw [hmin] at h
  exact h
 have hGi : ¬ (G = i) := by omega
 have hGim : ¬ (G = i + m) := by omega
 have hci : ¬ (c = i) := by omega
 have hbN : g ≠ w.heap.size := by omega
 have hdl : (cs.drop (i * 35)).length = (n - i) * 35 := by rw [List.length_drop, hcl, Nat.sub_mul]
 have hcpB : ∀ (W : World), (∀ x, W.cell? x = (W1.setCells w.heap.size (i * 35) vs).cell? x) → (∀ x, W.frozen? x = (W1.setCells w.heap.size (i * 35) vs).frozen? x) → ∀ ty dc sc, (Builtin.copy_ #[51, 51] ty #[.slice (some ⟨w.heap.size, (i + m) * 35, none⟩) (n + m - (i + m)) dc, .slice (some ⟨g, i * 35, none⟩) (n - i) sc]).run Tryz.prog W = .ok (goInt (n - i : Nat)) (W.setCells w.heap.size ((i + m) * 35) (cs.drop (i * 35))) := fun W hWc hWf ty dc sc => by
  have hmin : Nat.min (n - i) (n + m - (i + m)) = n - i := by simp only [Nat.min_def]; split <;> omega
  have h := run_copy_k W 51 51 ty 64 35 w.heap.size ((i + m) * 35) (n + m - (i + m)) dc ⟨g, i * 35, none⟩ (n - i) sc (cs.drop (i * 35)) t28 hsz (by rw [hdl, hmin])
   (fun j v hj => by
    rw [Addr.add_lit, hWc, World.cell?_setCells_out _ _ _ _ _ (fun h _ => absurd h hbN)]
    exact hOb _ v (hcs (i * 35 + j) v (by rwa [List.getElem?_drop] at hj)))
   (fun j hj => by rw [hWc]; exact isSome_setCells _ _ _ _ (fun t ht => hN _ (by rw [hvl] at ht; omega)) _ (hN _ (by rw [hdl] at hj; omega)))
   (fun j hj => by rw [hWf, World.frozen?_setCells]; exact hNf _) (fun v hv => h1c v (List.mem_of_mem_drop hv))
  rw [hmin] at h
  exact h
 subst hW1
 have hE1 : ∀ x, ((w.alloc (.cells ROW 64)).drew).cell? x = (w.drew.alloc (.cells ROW 64)).cell? x := fun x => rfl
 have hE2 : ∀ x, ((w.alloc (.cells ROW 64)).drew).frozen? x = (w.drew.alloc (.cells ROW 64)).frozen? x := fun x => rfl
 have hF1 : ∀ x, (((w.alloc (.cells ROW 64)).drew.setCells w.heap.size (i * 35) vs).drew).cell? x = ((w.drew.alloc (.cells ROW 64)).setCells w.heap.size (i * 35) vs).cell? x := fun x => rfl
 have hF2 : ∀ x, (((w.alloc (.cells ROW 64)).drew.setCells w.heap.size (i * 35) vs).drew).frozen? x = ((w.drew.alloc (.cells ROW 64)).setCells w.heap.size (i * 35) vs).frozen? x := fun x => rfl
 have hw1 : IntKind.i64.wrap ((i : Int) + (m : Int)) = (i : Int) + (m : Int) := by rw [IntKind.wrap_i64]; omega
 have hb1 : (0 : Int) ≤ (i : Int) + (m : Int) := by omega
 have hin : i ≤ n := by omega
 have htn : ((i : Int) + (m : Int)).toNat = i + m := by omega
 have hb3 : (i : Int) ≤ (n : Int) := by omega
 have XR : Hd (ROW.size = G * 35 ∧ ROW.toList.take (i * 35) = cs.take (i * 35)) := ⟨hRs, hRt⟩
 clear hkk hik hold hROW hG hRs hRt hcs hvs h1c h1v hN hNf hOb hOv hct hcl hvl
 go_enter Tryz.func159, Tryz.ntmps159
 go_wp2_with (first
  | (at_builtin; refine Lib.wpList_append_run _ rfl _ _ _ _ rfl _ _ rfl rfl _ _ (hrz _) ?_)
  | (at_builtin; refine wpList_copy_runI _ rfl _ _ 51 51 rfl _ _ rfl rfl (hcpA _ hE1 hE2 _ _) ?_)
  | (at_builtin; refine wpList_copy_runI _ rfl _ _ 51 51 rfl _ _ rfl rfl (hcpB _ (fun _ => rfl) (fun _ => rfl) _ _ _) ?_))
 go_region_law_o (refine step_copy_runI rfl _ _ 51 51 rfl (.slice (some ⟨w.heap.size, (i + m) * 35, none⟩) (n + m - (i + m)) (G - (i + m))) (.slice (some ⟨g, i * 35, none⟩) (n - i) (c - i)) (by simp [Act.eval, Act.put]) (by simp [Act.eval, Act.put]) (hcpB _ hF1 hF2 3 (G - (i + m)) (c - i)) ?_)
 go_wp2
 go_ret
 exact ⟨ROW, rfl, rfl, XR.out⟩
theorem insertItem_w : InsW Tryz.prog 159 64 35 := {
 at1 := by
  intro W g cap cur n i vb vcap vcur hg hle hcap hcur hone hi hn4 hne hvg hvc hvcur hvone
  obtain ⟨c, hc⟩ : ∃ c, cur.toList.take (n * 35) = c := ⟨_, rfl⟩
  obtain ⟨vs, hvs⟩ : ∃ vs, vcur.toList.take 35 = vs := ⟨_, rfl⟩
  rw [hc] at hone ⊢
  rw [hvs] at hvone ⊢
  have hmx : cap ≤ 9223372036854775807 := hcap
  have hnk : n * 35 ≤ cur.size := by rw [hcur]; exact Nat.mul_le_mul_right _ hle
  have hclen : c.length = n * 35 := by rw [← hc, List.length_take]; exact Nat.min_eq_left hnk
  have hvlen : vs.length = 1 * 35 := by rw [← hvs, List.length_take]; exact Nat.min_eq_left (by show _ ≤ vcur.size; omega)
  have hcell : ∀ j v, c[j]? = some v → W.cell? ⟨g, j, none⟩ = some v := fun j v hj => by
   rw [← hc, List.getElem?_take] at hj
   split at hj
   ·rw [← hj]; simp [World.cell?, hg]
   ·cases hj
  have hvcell : ∀ j v, vs[j]? = some v → W.cell? ⟨vb, j, none⟩ = some v := fun j v hj => by
   rw [← hvs, List.getElem?_take] at hj
   split at hj
   ·rw [← hj]; simp [World.cell?, hvg]
   ·cases hj
  have hsp : ∀ j, j < cap * 35 → (W.cell? ⟨g, j, none⟩).isSome = true := fun j hj => by
   simp only [World.cell?, hg]
   rw [show (({ block := g, off := j, spot := none } : Addr).spot.isSome) = false from rfl]
   simp only [Bool.false_eq_true, if_false]
   rw [Array.getElem?_eq_getElem (by omega)]; rfl
  have hfz : ∀ j, W.frozen? ⟨g, j, none⟩ = false := fun t => by simp [World.frozen?, hg]
  have hvfz : ∀ j, W.frozen? ⟨vb, j, none⟩ = false := fun t => by simp [World.frozen?, hvg]
  have hgw : g < W.heap.size := (Array.getElem?_eq_some_iff.1 hg).1
  have hct : cur.toList.take (i * 35) = c.take (i * 35) := by rw [← hc, List.take_take, Nat.min_eq_left (by omega)]
  have hdl : (c.drop (i * 35)).length = (n - i) * 35 := by rw [List.length_drop, hclen, Nat.sub_mul]
  rcases Nat.lt_or_ge i n with h | h
  ·rcases Nat.lt_or_ge cap (n + 1) with h' | h'
   ·refine (insDItem g n cap i vb 1 vcap c vs W h (by omega) hle h' (by omega) hclen hvlen hcell hvcell hone hvone).mono ?_
    rintro e' W' ⟨ROW, rfl, hW, hRs, hRt⟩
    obtain ⟨G, hG⟩ : ∃ G, grownCap W (n + 1) cap 64 = G := ⟨_, rfl⟩
    rw [hG] at hRs ⊢
    have hGn : n + 1 ≤ G := by rw [← hG]; exact grownCap_ge W _ _ _
    have hGm : G ≤ maxLen := by rw [← hG]; exact grownCap_le_maxLen W (n + 1) cap 64 (by unfold maxLen; omega)
    have h0 : (W.alloc (.cells ROW 64)).drew.heap[W.heap.size]? = some (.cells ROW 64 (0, 0)) := World.alloc_heap_new W _
    have h1 := setCells_at W.heap.size vs (i * 35) _ _ _ _ h0
    have h2 := setCells_at W.heap.size (c.drop (i * 35)) ((i + 1) * 35) (((W.alloc (.cells ROW 64)).drew.setCells W.heap.size (i * 35) vs).drew) _ _ _ h1
    obtain ⟨r1, r2, r3, r4⟩ := setCells_rest W.heap.size (c.drop (i * 35)) ((i + 1) * 35) (((W.alloc (.cells ROW 64)).drew.setCells W.heap.size (i * 35) vs).drew)
    obtain ⟨q1, q2, q3, q4⟩ := setCells_rest W.heap.size vs (i * 35) (W.alloc (.cells ROW 64)).drew
    rw [← hW] at h2 r1 r2 r3 r4
    refine ⟨W.heap.size, G, _, rfl, ⟨r1.trans q1, r2.trans q2, r3.trans q3, by rw [r4, show ∀ w : World, w.drew.heap.size = w.heap.size from fun _ => rfl, q4]; simp⟩, fun b hb _ => ?_, h2, .inr (Nat.le_refl _), hGn, hGm, by rw [putL_size, putL_size, hRs], ?_⟩
    ·have hbn : b ≠ W.heap.size := by omega
     rw [hW, setCells_else _ _ _ _ b hbn]
     show (((W.alloc (.cells ROW 64)).drew.setCells W.heap.size (i * 35) vs)).heap[b]? = _
     rw [setCells_else _ _ _ _ b hbn]
     show (W.heap.push _)[b]? = _
     rw [Array.getElem?_push, if_neg hbn]
    ·have hp := putL2 ROW (i * 35) vs (c.drop (i * 35)) (by rw [hvlen, hdl, hRs]; omega)
     rw [hvlen, hdl, hRt] at hp
     rw [show (n + 1) * 35 = i * 35 + 1 * 35 + (n - i) * 35 by omega, show (i + 1) * 35 = i * 35 + 1 * 35 by omega]
     exact hp
   ·refine (insCItem g n cap i vb 1 vcap c vs W h (by omega) h' hmx hne hclen hvlen hcell (fun j hj => hsp j (by omega)) hfz hvcell hone hvone _ _ _ _ (by simp only [World.shape?, hvg]; rfl) (by simp only [World.shape?, hg]; rfl) (by omega) (hvfz 0) (hvfz _)).mono ?_
    rintro e' W' ⟨rfl, hW⟩
    have h1 := setCells_at g (c.drop (i * 35)) ((i + 1) * 35) W.drew _ _ _ hg
    have h2 := setCells_at g vs (i * 35) _ _ _ _ h1
    obtain ⟨r1, r2, r3, r4⟩ := setCells_rest g vs (i * 35) (W.drew.setCells g ((i + 1) * 35) (c.drop (i * 35)))
    obtain ⟨q1, q2, q3, q4⟩ := setCells_rest g (c.drop (i * 35)) ((i + 1) * 35) W.drew
    rw [← hW] at h2 r1 r2 r3 r4
    refine ⟨g, cap, _, rfl, ⟨r1.trans q1, r2.trans q2, r3.trans q3, by rw [r4, q4]; exact Nat.le_refl _⟩, fun b hb hbg => ?_, h2, .inl rfl, h', hcap, by rw [putL_size, putL_size, hcur], ?_⟩
    ·rw [hW, setCells_else _ _ _ _ b hbg, setCells_else _ _ _ _ b hbg]; rfl
    ·have hp := putL2' cur (i * 35) vs (c.drop (i * 35)) (by rw [hvlen, hdl, hcur]; omega)
     rw [hvlen, hdl, hct] at hp
     rw [show (n + 1) * 35 = i * 35 + 1 * 35 + (n - i) * 35 by omega, show (i + 1) * 35 = i * 35 + 1 * 35 by omega]
     exact hp
  ·obtain rfl : i = n := by omega
   have hcd : c.take (i * 35) ++ vs ++ c.drop (i * 35) = c ++ vs := by
    rw [List.take_of_length_le (by omega), List.drop_eq_nil_of_le (by omega), List.append_nil]
   rw [hcd]
   rcases Nat.lt_or_ge cap (i + 1) with h' | h'
   ·refine (insBItem (some ⟨g, 0, none⟩) i cap vb 1 vcap c vs W (by omega) hle h' (by omega) hclen hvlen (by simp) (fun a ha j v hj => by cases ha; rw [Addr.add_lit, Nat.zero_add]; exact hcell j v hj) hvcell hvone).mono ?_
    rintro e' W' ⟨R, rfl, rfl, hRs⟩
    have hGn : i + 1 ≤ grownCap W (i + 1) cap 64 := grownCap_ge W _ _ _
    refine ⟨W.heap.size, _, _, rfl, ⟨rfl, rfl, rfl, by simp⟩, fun b hb _ => ?_, World.alloc_heap_new W.drew _, .inr (Nat.le_refl _), hGn, grownCap_le_maxLen W (i + 1) cap 64 (by unfold maxLen; omega), ?_, ?_⟩
    ·show (W.heap.push _)[b]? = _
     rw [Array.getElem?_push, if_neg (by omega)]
    ·rw [Array.size_append, hRs]; simp only [List.size_toArray, List.length_append, hclen, hvlen]; omega
    ·rw [Array.toList_append]; exact List.take_left' (by simp only [List.length_append, hclen, hvlen]; omega)
   ·refine (insAItem g i cap vb 1 vcap vs W (by omega) h' hmx hvlen (fun j hj => hsp _ (by omega)) (fun j hj => hfz _) hvcell hvone).mono ?_
    rintro e' W' ⟨rfl, hW⟩
    rw [Nat.zero_add] at hW
    have h1 := setCells_at g vs (i * 35) W _ _ _ hg
    obtain ⟨r1, r2, r3, r4⟩ := setCells_rest g vs (i * 35) W
    rw [← hW] at h1 r1 r2 r3 r4
    refine ⟨g, cap, _, rfl, ⟨r1, r2, r3, by rw [r4]; exact Nat.le_refl _⟩, fun b hb hbg => ?_, h1, .inl rfl, h', hcap, by rw [putL_size, hcur], ?_⟩
    ·rw [hW, setCells_else _ _ _ _ b hbg]
    ·have hp := putL1 cur (i * 35) vs (by rw [hvlen, hcur]; omega)
     have hct' : c.take (i * 35) = c := List.take_of_length_le (by omega)
     rw [hvlen, hct, hct'] at hp
     rw [show (i + 1) * 35 = i * 35 + 1 * 35 by omega]
     exact hp
 at0 := by
  intro W ad vb vcap vcur hvg hvc hvcur hvone
  obtain ⟨vs, hvs⟩ : ∃ vs, vcur.toList.take 35 = vs := ⟨_, rfl⟩
  rw [hvs] at hvone ⊢
  have hvlen : vs.length = 1 * 35 := by rw [← hvs, List.length_take]; exact Nat.min_eq_left (by show _ ≤ vcur.size; omega)
  have hvcell : ∀ j v, vs[j]? = some v → W.cell? ⟨vb, j, none⟩ = some v := fun j v hj => by
   rw [← hvs, List.getElem?_take] at hj
   split at hj
   ·rw [← hj]; simp [World.cell?, hvg]
   ·cases hj
  refine (insBItem ad 0 0 vb 1 vcap [] vs W (by omega) (Nat.le_refl _) (by omega) (by omega) (by simp) hvlen (fun _ => rfl) (by simp) hvcell hvone).mono ?_
  rintro e' W' ⟨R, rfl, rfl, hRs⟩
  have hGn : 0 + 1 ≤ grownCap W (0 + 1) 0 64 := grownCap_ge W _ _ _
  refine ⟨W.heap.size, _, _, rfl, ⟨rfl, rfl, rfl, by simp⟩, fun b hb _ => ?_, World.alloc_heap_new W.drew _, .inr (Nat.le_refl _), hGn, grownCap_le_maxLen W (0 + 1) 0 64 (by unfold maxLen; omega), ?_, ?_⟩
  ·show (W.heap.push _)[b]? = _
   rw [Array.getElem?_push, if_neg (by omega)]
  ·rw [Array.size_append, hRs]; simp only [List.size_toArray, List.length_append, List.length_nil, hvlen]; omega
  ·rw [Array.toList_append]; exact List.take_left' (by simp [hvlen]) }
end Go.Proofs.YtbenhdgpogiadaaGreat

namespace Go.Proofs.YtbenhdgpogiadaaGreat
open Go.Aw
open Nat renaming reduceEqDiff → pE, reduceLT → pL, reduceAdd → pA, reduceSub → pS, reduceMul → pM, reduceLeDiff → pD
open Int renaming reduceToNat → qT, reduceGT → qG, reduceLT → qL, reduceGE → qH, reduceBNe → qN, reduceBEq → qB, reduceLE → qE, reduceNe → qO, reduceAdd → qA, reduceNeg → qM
set_option maxRecDepth 100000
set_option maxHeartbeats 40000000
/-- Files that can be put into normal form. -/
structure NOk (l : List Module) : Prop where
 names : (l.map Module.name).Nodup
 parts : ∀ m ∈ l, (m.items.map partI).Nodup
 len : l.length ≤ 4000000
 items : ∀ m ∈ l, m.items.length ≤ 4000000
theorem diff_c (a b : List Module) (ha : NOk a) (hb : NOk b) (hl : (diffF a b).length ≤ 4000000) : FnP Tryz.prog 21 [.agg [eModules a], .agg [eModules b]] (.d (.sl ((diffF a b).map eEdit))) [] := by
 refine FnP.of_eC (own := []) (fun i => if i = 1 then [.adB 7 0 107 69 43] else if i = 2002 then [.ord ⟨[(0, none), (1, none), (2, none), (3, none), (4, none), (5, none), (6, none), (7, none), (8, none), (9, none), (10, some [])]⟩] else []) mixed Tryz.func21 rfl Tryz.call21 Tryz.ntmps21 (Nat.le_of_ble_eq_true rfl) Tryz.results21 (fun hok => ?_)
 have na := normal_c a ha.names ha.parts ha.len ha.items
 have nb := normal_c b hb.names hb.parts hb.len hb.items
 have mc := mergeM_c [] (normF a) (normF b) (by rw [List.nil_append]; exact hl)
 rw [List.nil_append] at mc
 rw [show diffN (normF a) (normF b) = diffF a b from rfl] at mc
 simp only [dfO, pairM, List.cons_append, List.nil_append] at mc
 simp only [ZE,↓reduceIte,pE,pL,pA,pS,pM,pD] at na nb mc
 simp (maxSteps := 4000000) only [ZE,↓reduceIte,pE,pL,pA,pS,pM,pD, zN,qT,qG,qL,qH,qN,qB,qE,qO,qA,qM]
 refine ⟨by kernel_rfl, ECall'.i na ?_⟩
 simp only [ZE,↓reduceIte,pE,pL,pA,pS,pM,pD, zN,qT,qG,qL,qH,qN,qB,qE,qO,qA,qM]
 refine ECall'.i nb ?_
 simp only [ZE,↓reduceIte,pE,pL,pA,pS,pM,pD, zN,qT,qG,qL,qH,qN,qB,qE,qO,qA,qM]
 refine EFn.g ⟨[(100, 7), (101, 5), (104, 107), (114, 114)], _, _, _, mc, ?_⟩
 simp only [ZE,↓reduceIte,pE,pL,pA,pS,pM,pD]
 rintro V ol new ⟨rfl, rfl, rfl⟩
 simp only [ZE,↓reduceIte,pE,pL,pA,pS,pM,pD, zN,qT,qG,qL,qH,qN,qB,qE,qO,qA,qM]
end Go.Proofs.YtbenhdgpogiadaaGreat

namespace Go.Proofs.YtbenhdgpogiadaaGreat
open Go.Aw
open Nat renaming reduceEqDiff → pE, reduceLT → pL, reduceAdd → pA, reduceSub → pS, reduceMul → pM, reduceLeDiff → pD
open Int renaming reduceToNat → qT, reduceGT → qG, reduceLT → qL, reduceGE → qH, reduceBNe → qN, reduceBEq → qB, reduceLE → qE, reduceNe → qO, reduceAdd → qA, reduceNeg → qM
set_option maxRecDepth 100000
set_option maxHeartbeats 40000000
theorem normalo_c (l : List Module) (h : NOk l) : FnL Tryz.prog 24 [.d (.agg [eModules l])] [] (fun V ol new => V = .agg [.ar 90 l.length] ∧ ol = [(90, .arr 53 4 .flat ((normF l).map eModule))] ∧ new = [90]) := by
 obtain ⟨hn, hp, hl, hi⟩ := h
 refine FnL.of_eB 1999 [] (own := []) (fun i => []) [] mixed Tryz.func24 rfl Tryz.call24 Tryz.ntmps24 (Nat.le_of_ble_eq_true rfl) Tryz.results24 (by simp [freeO, AO.noRef, AV.noRefs, AV.noRef]) (fun gs => ?_)
 have vc := valuesModule_c l
 simp only [ZE,↓reduceIte,pE,pL,pA,pS,pM,pD, zN,qT,qG,qL,qH,qN,qB,qE,qO,qA,qM, retBE.eq_def, eRetB.eq_def, resB.eq_1, resB.eq_2, selB.eq_def]
 refine EFn.p ?_
 simp only [ZE,↓reduceIte,pE,pL,pA,pS,pM,pD, zN,qT,qG,qL,qH,qN,qB,qE,qO,qA,qM]
 refine ECall.i vc ?_
 simp only [ZE,↓reduceIte,pE,pL,pA,pS,pM,pD, zN,qT,qG,qL,qH,qN,qB,qE,qO,qA,qM]
 refine EFn.g ⟨[(90, 90)], [.d (.clo (.func 128) [] [.ptr [.sl (l.map eModule)]]), .d (.clo (.func 57) [] [])], _, _, sortedModule_c l hl, ?_⟩
 simp only [ZE,↓reduceIte,pE,pL,pA,pS,pM,pD]
 rintro V ol new ⟨rfl, ⟨L, hL, hs, rfl⟩, rfl⟩
 have e : L = sortK ltS Module.name l := sortK_unique ordS hn hL (hs.imp fun {a b} h => not_cmpN h)
 have hLl : L.length = l.length := hL.length_eq.symm
 have hnF : normF l = L.map normM := by unfold normF; rw [e]
 rw [hnF, ← nrmL_all]
 simp only [ZE,↓reduceIte,pE,pL,pA,pS,pM,pD, zN,qT,qG,qL,qH,qN,qB,qE,qO,qA,qM, hLl]
 have hpL : ∀ i (h : i < L.length), (L[i].items.map partI).Nodup ∧ L[i].items.length ≤ 4000000 := fun i h => by
  have hm : L[i] ∈ l := hL.mem_iff.2 (List.getElem_mem h)
  exact ⟨hp _ hm, hi _ hm⟩
 refine eloop (fun i => if i = 2005 then [.ord ⟨[(0, none), (1, none), (2, none), (3, none), (4, none), (5, none), (6, none), (7, none), (8, none), (9, some [])]⟩] else []) mixed l.length (fun _ => True) (fun i => ([(2, .bp 2 0), (3, .bp 3 0), (12, .ar 90 l.length), (13, .d (eI l.length)), (14, .d (eI i))], [(2, .box [.nils]), (3, .box [.ar 90 l.length]), (90, .arr 53 4 .flat ((nrmL L i).map eModule)), (1999, .gh [] gs)])) trivial ?_ ?_ (fun i hi' _ => ?_)
 ·simp only [ZE,↓reduceIte,pE,pL,pA,pS,pM,pD]
 ·simp only [ZE,↓reduceIte,pE,pL,pA,pS,pM,pD, nrmL_zero]
 rcases Nat.lt_or_ge i l.length with h | h
 ·have hw := wrap_succ (show i < 9223372036854775807 by omega)
  have hiL : i < L.length := by omega
  obtain ⟨hnd, hll⟩ := hpL i hiL
  rw [nrmL_step L i hiL]
  have hat := nrmL_at L i hiL
  have hnl := nrmL_len L i
  obtain ⟨R, hR⟩ : ∃ R, nrmL L i = R := ⟨_, rfl⟩
  obtain ⟨m, hm⟩ : ∃ m, L[i] = m := ⟨_, rfl⟩
  rw [hR, hm] at hat
  rw [hR] at hnl
  rw [hm] at hnd hll
  rw [hR, hm]
  have hiR : i < R.length := by omega
  have hRi : R[i] = m := by
   rw [List.getD_eq_getElem?_getD, List.getElem?_eq_getElem hiR] at hat
   exact hat
  have ic := valuesItem_c m.items
  have sc := sortedItem_p m.items hll hnd
  have hset : (R.map eModule).set i ((eModule m).set 3 (.sl ((sortK ltP partI m.items).map eItem))) = (R.set i (normM m)).map eModule := by rw [List.map_set]; rfl
  try simp only [ZE,↓reduceIte,pE,pL,pA,pS,pM,pD] at sc
  simp (maxSteps := 4000000) only [ZE,↓reduceIte,pE,pL,pA,pS,pM,pD, dec_lt h, lt_int h, getD_map hiR, hRi, zN,qT,qG,qL,qH,qN,qB,qE,qO,qA,qM, List.length_map, hnl, hLl]
  refine ⟨h, by kernel_rfl, ECall'.i ic ?_⟩
  simp only [ZE,↓reduceIte,pE,pL,pA,pS,pM,pD, zN,qT,qG,qL,qH,qN,qB,qE,qO,qA,qM]
  refine ECall'.i sc ?_
  simp only [ZE,↓reduceIte,pE,pL,pA,pS,pM,pD] at hset
  simp only [ZE,↓reduceIte,pE,pL,pA,pS,pM,pD, zN,qT,qG,qL,qH,qN,qB,qE,qO,qA,qM, hw, hset, getD_map hiR, hRi, List.length_map, hnl, hLl]
  exact ⟨⟨by omega, by omega⟩, h⟩
 ·have : i = l.length := by omega
  subst this
  simp (maxSteps := 4000000) only [ZE,↓reduceIte,pE,pL,pA,pS,pM,pD, dec_ge h, zN,qT,qG,qL,qH,qN,qB,qE,qO,qA,qM, List.length_map, nrmL_len, hLl, retBE.eq_def, eRetB.eq_def, resB.eq_1, resB.eq_2, selB.eq_def]
  refine ⟨[2, 3, 1999], [90], ?_⟩
  simp only [ZE,↓reduceIte,pE,pL,pA,pS,pM,pD, retBE.eq_def, eRetB.eq_def, resB.eq_1, resB.eq_2, selB.eq_def]
end Go.Proofs.YtbenhdgpogiadaaGreat

namespace Go.Proofs.YtbenhdgpogiadaaGreat
open Go.Aw
open Nat renaming reduceEqDiff → pE, reduceLT → pL, reduceAdd → pA, reduceSub → pS, reduceMul → pM, reduceLeDiff → pD
open Int renaming reduceToNat → qT, reduceGT → qG, reduceLT → qL, reduceGE → qH, reduceBNe → qN, reduceBEq → qB, reduceLE → qE, reduceNe → qO, reduceAdd → qA, reduceNeg → qM
set_option maxRecDepth 100000
set_option maxHeartbeats 40000000
section
variable {α κ : Type} [DecidableEq κ] {lt : κ → κ → Bool} {key : α → κ}
omit [DecidableEq κ] in
theorem low_lt {y : α} {r : List α} {k : κ} (h : lt (key y) k = true) : lowN lt key (y :: r) k = lowN lt key r k + 1 := by
 unfold lowN
 rw [List.countP_cons_of_pos (by simpa using h)]
omit [DecidableEq κ] in
theorem low_ge (o : TOrd lt) {y : α} {r : List α} {k : κ} (hs : Srt lt key (y :: r)) (h : lt (key y) k = false) : lowN lt key (y :: r) k = 0 := by
 unfold lowN
 rw [List.countP_eq_zero]
 intro x hx
 obtain ⟨h1, _⟩ := List.pairwise_cons.1 hs
 rcases List.mem_cons.1 hx with rfl | hx
 ·simpa using h
 ·intro hc
  have := o.tr _ _ _ (h1 x hx) (by simpa using hc)
  rw [h] at this; cases this
omit [DecidableEq κ] in
theorem low_le (l : List α) (k : κ) : lowN lt key l k ≤ l.length := List.countP_le_length
theorem low_at (o : TOrd lt) : ∀ {l : List α} {k : κ} {m : α}, Srt lt key l → lkp key l k = some m → ∃ h : lowN lt key l k < l.length, l[lowN lt key l k] = m
 | y :: r, k, m, hs, hm => by
  obtain ⟨h1, h2⟩ := List.pairwise_cons.1 hs
  rw [lkp_cons] at hm
  by_cases e : key y = k
  ·rw [if_pos e] at hm
   cases hm
   have h0 := low_ge o hs (k := k) (by rw [e]; exact o.irr k)
   exact ⟨by rw [h0]; simp, by simp only [h0]; rfl⟩
  ·rw [if_neg e] at hm
   have hk := (lkp_some hm)
   have hlt : lt (key y) k = true := by rw [← hk.2]; exact h1 m hk.1
   obtain ⟨h3, h4⟩ := low_at o h2 hm
   have h0 := low_lt (r := r) hlt
   exact ⟨by rw [h0]; simp; exact h3, by simp only [h0]; simpa using h4⟩
theorem putS_at (o : TOrd lt) : ∀ {l : List α} {x m : α}, Srt lt key l → lkp key l (key x) = some m → putS lt key l x = l.set (lowN lt key l (key x)) x
 | y :: r, x, m, hs, hm => by
  obtain ⟨h1, h2⟩ := List.pairwise_cons.1 hs
  rw [lkp_cons] at hm
  by_cases e : key y = key x
  ·have h0 := low_ge o hs (k := key x) (by rw [e]; exact o.irr _)
   have h3 : lt (key x) (key y) = false := by rw [e]; exact o.irr _
   have h4 : lt (key y) (key x) = false := by rw [e]; exact o.irr _
   rw [h0]
   simp [putS, h3, h4]
  ·rw [if_neg e] at hm
   have hk := (lkp_some hm)
   have hlt : lt (key y) (key x) = true := by rw [← hk.2]; exact h1 m hk.1
   rw [low_lt (r := r) hlt]
   simp [putS, o.asymm hlt, hlt, putS_at o h2 hm]
theorem putS_new (o : TOrd lt) : ∀ {l : List α} {x : α}, Srt lt key l → lkp key l (key x) = none → putS lt key l x = l.take (lowN lt key l (key x)) ++ x :: l.drop (lowN lt key l (key x))
 | [], x, _, _ => by simp [putS, lowN]
 | y :: r, x, hs, hm => by
  obtain ⟨h1, h2⟩ := List.pairwise_cons.1 hs
  rw [lkp_cons] at hm
  by_cases e : key y = key x
  ·rw [if_pos e] at hm; cases hm
  rw [if_neg e] at hm
  cases hlt : lt (key y) (key x) with
  | true =>
   rw [low_lt (r := r) hlt]
   simp [putS, o.asymm hlt, hlt, putS_new o h2 hm]
  | false =>
   have h3 : lt (key x) (key y) = true := by
    cases hq : lt (key x) (key y) with
    | true => rfl
    | false => exact absurd (o.conn _ _ hlt hq) e
   rw [low_ge o hs hlt]
   simp [putS, h3]
theorem rmvS_at (o : TOrd lt) : ∀ {l : List α} {k : κ} {m : α}, Srt lt key l → lkp key l k = some m → rmvS key l k = l.eraseIdx (lowN lt key l k)
 | y :: r, k, m, hs, hm => by
  obtain ⟨h1, h2⟩ := List.pairwise_cons.1 hs
  rw [lkp_cons] at hm
  by_cases e : key y = k
  ·have h0 := low_ge o hs (k := k) (by rw [e]; exact o.irr _)
   rw [h0]
   simp [rmvS, e]
  ·rw [if_neg e] at hm
   have hk := (lkp_some hm)
   have hlt : lt (key y) k = true := by rw [← hk.2]; exact h1 m hk.1
   rw [low_lt (r := r) hlt]
   simp [rmvS, e, rmvS_at o h2 hm]
end
theorem eItem_1 (x : Item) : ∀ d ∈ eItem x, d.one := by
 simp [eItem, eNum, eExpr_eq, eRule, eI, eS, eNums, eBinds, D.one, Value.oneCell']
theorem eModule_1 (x : Module) : ∀ d ∈ eModule x, d.one := by
 simp [eModule, eS, eStrs, eItems, D.one, Value.oneCell']
theorem erase_map {α β : Type} (f : α → β) (l : List α) (i : Nat) : (l.map f).eraseIdx i = (l.eraseIdx i).map f := by
 rw [List.eraseIdx_eq_take_drop_succ, List.eraseIdx_eq_take_drop_succ, List.map_append, List.map_take, List.map_drop]
theorem delItem_c (l : List Item) (i : Nat) (hi : i < l.length) : FnL Tryz.prog 160 [.ar 0 l.length, .d (eI i), .d (eI ((i + 1 : Nat) : Int))] [(0, .arr 64 35 .flat (l.map eItem))]
  (fun V ol new => V = .ar 40 (l.eraseIdx i).length ∧ ol = [(40, .arr 64 35 .flat ((l.eraseIdx i).map eItem))] ∧ new = [40]) := by
 have h := del_own (P := Tryz.prog) (fun args w => Tryz.call160 args w) deleteItem_w (l.map eItem) (fun x hx => by obtain ⟨p, _, rfl⟩ := List.mem_map.1 hx; exact eItem_1 p) i (by rw [List.length_map]; exact hi)
 rw [List.length_map, erase_map, ← List.length_eraseIdx_of_lt hi] at h
 exact h
theorem insItem_c (l : List Item) (x : Item) (i : Nat) (hi : i ≤ l.length) (hl : l.length ≤ 4000000) : FnL Tryz.prog 159 [.ar 0 l.length, .d (eI i), .ar 50 1] [(0, .arr 64 35 .flat (l.map eItem)), (50, .arr 64 35 .flat [eItem x])]
  (fun V ol new => V = .ar 40 (l.take i ++ x :: l.drop i).length ∧ ol = [(40, .arr 64 35 .flat ((l.take i ++ x :: l.drop i).map eItem))] ∧ new = [40]) := by
 have h := ins_own (P := Tryz.prog) (fun args w => Tryz.call159 args w) insertItem_w (l.map eItem) (eItem x) (fun y hy => by
  rcases List.mem_cons.1 hy with rfl | hy
  ·exact eItem_1 x
  ·obtain ⟨p, _, rfl⟩ := List.mem_map.1 hy; exact eItem_1 p) i (by rw [List.length_map]; exact hi) (by rw [List.length_map]; exact hl)
 have e : (l.map eItem).take i ++ eItem x :: (l.map eItem).drop i = (l.take i ++ x :: l.drop i).map eItem := by simp [List.map_take, List.map_drop]
 have e2 : (l.take i ++ x :: l.drop i).length = l.length + 1 := by simp; omega
 rw [List.length_map, e, ← e2] at h
 exact h
theorem delModule_c (l : List Module) (i : Nat) (hi : i < l.length) : FnL Tryz.prog 161 [.ar 0 l.length, .d (eI i), .d (eI ((i + 1 : Nat) : Int))] [(0, .arr 53 4 .flat (l.map eModule))]
  (fun V ol new => V = .ar 40 (l.eraseIdx i).length ∧ ol = [(40, .arr 53 4 .flat ((l.eraseIdx i).map eModule))] ∧ new = [40]) := by
 have h := del_own (P := Tryz.prog) (fun args w => Tryz.call161 args w) deleteModule_w (l.map eModule) (fun x hx => by obtain ⟨p, _, rfl⟩ := List.mem_map.1 hx; exact eModule_1 p) i (by rw [List.length_map]; exact hi)
 rw [List.length_map, erase_map, ← List.length_eraseIdx_of_lt hi] at h
 exact h
theorem insModule_c (l : List Module) (x : Module) (i : Nat) (hi : i ≤ l.length) (hl : l.length ≤ 4000000) : FnL Tryz.prog 162 [.ar 0 l.length, .d (eI i), .ar 50 1] [(0, .arr 53 4 .flat (l.map eModule)), (50, .arr 53 4 .flat [eModule x])]
  (fun V ol new => V = .ar 40 (l.take i ++ x :: l.drop i).length ∧ ol = [(40, .arr 53 4 .flat ((l.take i ++ x :: l.drop i).map eModule))] ∧ new = [40]) := by
 have h := ins_own (P := Tryz.prog) (fun args w => Tryz.call162 args w) insertModule_w (l.map eModule) (eModule x) (fun y hy => by
  rcases List.mem_cons.1 hy with rfl | hy
  ·exact eModule_1 x
  ·obtain ⟨p, _, rfl⟩ := List.mem_map.1 hy; exact eModule_1 p) i (by rw [List.length_map]; exact hi) (by rw [List.length_map]; exact hl)
 have e : (l.map eModule).take i ++ eModule x :: (l.map eModule).drop i = (l.take i ++ x :: l.drop i).map eModule := by simp [List.map_take, List.map_drop]
 have e2 : (l.take i ++ x :: l.drop i).length = l.length + 1 := by simp; omega
 rw [List.length_map, e, ← e2] at h
 exact h
theorem cloneI_c (l : List Item) (hl : l.length ≤ 4000000) : FnL Tryz.prog 157 [.d (.sl (l.map eItem))] [] (fun V ol new => V = .ar 40 l.length ∧ ol = [(40, .arr 64 35 .flat (l.map eItem))] ∧ new = [40]) := by
 refine FnL.of_eC (own := []) (fun i => if i = 2 then [.adT 2 40 64 35] else if i = 3 then [.rnm [(5, 40)]] else []) [] mixed Tryz.func157 rfl Tryz.call157 Tryz.ntmps157 (Nat.le_of_ble_eq_true rfl) Tryz.results157 ?_
 have hr : rowsOk 35 (l.map eItem) := fun y hy => by
  obtain ⟨p, _, rfl⟩ := List.mem_map.1 hy
  exact ⟨by simp [eItem, eNum, eExpr_eq, eRule], eItem_1 p⟩
 simp (maxSteps := 4000000) only [ZE,↓reduceIte,pE,pL,pA,pS,pM,pD, zN,qT,qG,qL,qH,qN,qB,qE,qO,qA,qM, List.length_map]
 refine ⟨by simp [dstOk], fun b hb => ?_⟩
 cases b with
 | true =>
  have hl0 : l = [] := List.map_eq_nil_iff.1 (hb rfl)
  subst hl0
  simp (maxSteps := 4000000) only [ZE,↓reduceIte,pE,pL,pA,pS,pM,pD, zN,qT,qG,qL,qH,qN,qB,qE,qO,qA,qM, List.map_nil]
  refine ⟨[], [40], ?_⟩
  simp only [ZE,↓reduceIte,pE,pL,pA,pS,pM,pD]
 | false =>
  simp (maxSteps := 4000000) only [ZE,↓reduceIte,pE,pL,pA,pS,pM,pD, zN,qT,qG,qL,qH,qN,qB,qE,qO,qA,qM, List.length_map]
  refine ⟨⟨hr, by omega, by omega⟩, [], [40], ?_⟩
  simp only [ZE,↓reduceIte,pE,pL,pA,pS,pM,pD]
end Go.Proofs.YtbenhdgpogiadaaGreat

namespace Go.Proofs.YtbenhdgpogiadaaGreat
open Go.Aw
open Nat renaming reduceEqDiff → pE, reduceLT → pL, reduceAdd → pA, reduceSub → pS, reduceMul → pM, reduceLeDiff → pD
open Int renaming reduceToNat → qT, reduceGT → qG, reduceLT → qL, reduceGE → qH, reduceBNe → qN, reduceBEq → qB, reduceLE → qE, reduceNe → qO, reduceAdd → qA, reduceNeg → qM
set_option maxRecDepth 100000
set_option maxHeartbeats 40000000
def arM (l : List Module) : AO := .arr 53 4 .flat (l.map eModule)
def stepQ (r : Option (List Module)) (V : AV) (ol : OL) (new : List Nat) : Prop :=
 match r with
 | some s => V = .tup [.ar 140 s.length, .d (eB true)] ∧ ol = [(140, .arr 53 4 .flat (s.map eModule))] ∧ new = [140]
 | none => V = .tup [.d (.sl []), .d (eB false)] ∧ ol = [] ∧ new = []
theorem gt_len {n : Nat} (h : 0 < n) : decide ((n : Int) > 0) = true := decide_eq_true (by omega)
theorem gt_len0 : decide (((0 : Nat) : Int) > 0) = false := by decide
theorem thead_c (l : List Module) (hs : Srt ltS Module.name l) (hl : l.length + 1 ≤ 4000000) (e : Edit) : FnL Tryz.prog 101 [.ar 100 l.length, .d (.agg (eEdit e))] [(100, .arr 53 4 .flat (l.map eModule))] (stepQ (stepH l e)) := by
 refine FnL.of_eC (own := []) (fun i => if i = 11 then [.rnm [(100, 140), (3, 3)]] else if i = 2010 then [.flt ⟨[(0, none), (1, none), (2, none), (3, none), (4, none), (5, none), (6, none), (7, none), (8, none), (9, none), (10, none), (11, none), (12, some [2, 3, 7, 8, 9]), (13, none), (14, none), (15, some [])]⟩ ⟨[], []⟩] else []) [0] mixed Tryz.func101 rfl Tryz.call101 Tryz.ntmps101 (Nat.le_of_ble_eq_true rfl) Tryz.results101 ?_
 obtain ⟨mo, pt, has, to, hd⟩ := e
 have bs0 := bsModule_c l (by omega) { zMod with name := mo } hs
 have hz : Module.name { zMod with name := mo } = mo := rfl
 rw [hz] at bs0
 obtain ⟨i, hi⟩ : ∃ i, lowN ltS Module.name l mo = i := ⟨_, rfl⟩
 simp only [hi, zMod] at bs0
 simp (maxSteps := 4000000) only [ZE,↓reduceIte,pE,pL,pA,pS,pM,pD, zN,qT,qG,qL,qH,qN,qB,qE,qO,qA,qM, zMod, emp] at bs0
 have bs := FnL.aggN [.ar 100 l.length] [.d (.clo (.func 57) [] [])] (cs := [.d (.lit (.string mo.val)), .d (.lit (.string ByteArray.empty)), .nils, .nils]) bs0 rfl
 simp only [List.cons_append, List.nil_append] at bs
 clear bs0
 simp only [stepH]
 cases has with
 | false =>
  cases hm : lkp Module.name l mo with
  | none =>
   rw [hm] at bs
   simp (maxSteps := 4000000) only [ZE,↓reduceIte,pE,pL,pA,pS,pM,pD, eEdit, ePart, zN,qT,qG,qL,qH,qN,qB,qE,qO,qA,qM]
   refine EFn.gV [(100, 100)] bs ?_ ?_
   ·simp (maxSteps := 4000000) only [ZE,↓reduceIte,pE,pL,pA,pS,pM,pD]
   rintro V ol new ⟨rfl, rfl, rfl⟩
   simp (maxSteps := 4000000) only [ZE,↓reduceIte,pE,pL,pA,pS,pM,pD, zN,qT,qG,qL,qH,qN,qB,qE,qO,qA,qM]
   refine ⟨[3, 100], [], ?_⟩
   simp (maxSteps := 4000000) only [ZE,↓reduceIte,pE,pL,pA,pS,pM,pD, stepQ]
  | some m =>
   rw [hm] at bs
   obtain ⟨hil, him⟩ := low_at ordS hs hm
   simp only [hi] at hil him
   have hin := rmvS_at ordS hs hm
   rw [hi] at hin
   by_cases h0 : m.items = []
   ·have hw : IntKind.i64.wrap ((i : Int) + 1) = ((i + 1 : Nat) : Int) := wrap_id (by omega) (by omega)
    have dc := delModule_c l i hil
    simp (maxSteps := 4000000) only [ZE,↓reduceIte,pE,pL,pA,pS,pM,pD] at dc
    simp (maxSteps := 4000000) only [ZE,↓reduceIte,pE,pL,pA,pS,pM,pD, eEdit, ePart, zN,qT,qG,qL,qH,qN,qB,qE,qO,qA,qM, h0]
    refine EFn.gV [(100, 100)] bs ?_ ?_
    ·simp (maxSteps := 4000000) only [ZE,↓reduceIte,pE,pL,pA,pS,pM,pD]
    rintro V ol new ⟨rfl, rfl, rfl⟩
    simp (maxSteps := 4000000) only [ZE,↓reduceIte,pE,pL,pA,pS,pM,pD, zN,qT,qG,qL,qH,qN,qB,qE,qO,qA,qM, lt_int hil, getD_map hil, him, h0, List.map_nil, gt_len0, hw]
    refine ⟨hil, EFn.gV [(0, 100), (40, 140)] dc ?_ ?_⟩
    ·simp (maxSteps := 4000000) only [ZE,↓reduceIte,pE,pL,pA,pS,pM,pD]
    rintro V ol new ⟨rfl, rfl, rfl⟩
    simp (maxSteps := 4000000) only [ZE,↓reduceIte,pE,pL,pA,pS,pM,pD, zN,qT,qG,qL,qH,qN,qB,qE,qO,qA,qM]
    refine ⟨[3], [140], ?_⟩
    simp (maxSteps := 4000000) only [ZE,↓reduceIte,pE,pL,pA,pS,pM,pD, stepQ, hin, h0]
   ·have hpos : 0 < m.items.length := List.length_pos_iff.2 h0
    simp (maxSteps := 4000000) only [ZE,↓reduceIte,pE,pL,pA,pS,pM,pD, eEdit, ePart, zN,qT,qG,qL,qH,qN,qB,qE,qO,qA,qM, h0]
    refine EFn.gV [(100, 100)] bs ?_ ?_
    ·simp (maxSteps := 4000000) only [ZE,↓reduceIte,pE,pL,pA,pS,pM,pD]
    rintro V ol new ⟨rfl, rfl, rfl⟩
    simp (maxSteps := 4000000) only [ZE,↓reduceIte,pE,pL,pA,pS,pM,pD, zN,qT,qG,qL,qH,qN,qB,qE,qO,qA,qM, lt_int hil, getD_map hil, him, gt_len hpos, List.length_map]
    refine ⟨hil, [3, 100], [], ?_⟩
    simp (maxSteps := 4000000) only [ZE,↓reduceIte,pE,pL,pA,pS,pM,pD, stepQ, h0, not_false_eq_true]
 | true =>
  by_cases hn : hd.name = mo
  ·by_cases h0 : hd.items = []
   ·have hc : ¬ (hd.name ≠ mo ∨ hd.items ≠ []) := by simp [hn, h0]
    simp only [if_true, if_neg hc]
    have dn : (!decide (hd.name = mo)) = false := by simp [hn]
    cases hm : lkp Module.name l mo with
    | none =>
     rw [hm] at bs
     have hm2 : lkp Module.name l hd.name = none := by rw [hn]; exact hm
     have hpn := putS_new ordS hs hm2
     rw [hn, hi] at hpn
     have hil : i ≤ l.length := by rw [← hi]; exact low_le _ _
     have ic := insModule_c l hd i hil (by omega)
     simp (maxSteps := 4000000) only [ZE,↓reduceIte,pE,pL,pA,pS,pM,pD, h0, List.map_nil] at ic
     simp (maxSteps := 4000000) only [ZE,↓reduceIte,pE,pL,pA,pS,pM,pD, eEdit, ePart, zN,qT,qG,qL,qH,qN,qB,qE,qO,qA,qM, h0, List.map_nil]
     refine EFn.gV [(100, 100)] bs ?_ ?_
     ·simp (maxSteps := 4000000) only [ZE,↓reduceIte,pE,pL,pA,pS,pM,pD]
     rintro V ol new ⟨rfl, rfl, rfl⟩
     simp (maxSteps := 4000000) only [ZE,↓reduceIte,pE,pL,pA,pS,pM,pD, zN,qT,qG,qL,qH,qN,qB,qE,qO,qA,qM, List.map_nil, gt_len0, dn]
     refine EFn.gV [(0, 100), (50, 57), (40, 140)] ic ?_ ?_
     ·simp (maxSteps := 4000000) only [ZE,↓reduceIte,pE,pL,pA,pS,pM,pD]
     rintro V ol new ⟨rfl, rfl, rfl⟩
     simp (maxSteps := 4000000) only [ZE,↓reduceIte,pE,pL,pA,pS,pM,pD, zN,qT,qG,qL,qH,qN,qB,qE,qO,qA,qM]
     refine ⟨[3], [140], ?_⟩
     simp (maxSteps := 4000000) only [ZE,↓reduceIte,pE,pL,pA,pS,pM,pD, stepQ, hpn]
    | some m =>
     rw [hm] at bs
     obtain ⟨hil, him⟩ := low_at ordS hs hm
     simp only [hi] at hil him
     have hmn : ({ m with clock := hd.clock, params := hd.params } : Module).name = mo := (lkp_some hm).2
     have hps := putS_at ordS (x := { m with clock := hd.clock, params := hd.params }) hs (by rw [hmn]; exact hm)
     have hlow : lowN ltS Module.name l ({ m with clock := hd.clock, params := hd.params } : Module).name = i := (congrArg (lowN ltS Module.name l) hmn).trans hi
     rw [hlow] at hps
     simp (maxSteps := 4000000) only [ZE,↓reduceIte,pE,pL,pA,pS,pM,pD, eEdit, ePart, zN,qT,qG,qL,qH,qN,qB,qE,qO,qA,qM, h0, List.map_nil]
     refine EFn.gV [(100, 100)] bs ?_ ?_
     ·simp (maxSteps := 4000000) only [ZE,↓reduceIte,pE,pL,pA,pS,pM,pD]
     rintro V ol new ⟨rfl, rfl, rfl⟩
     have hgd : ∀ x : List D, ((List.map eModule l).set i x).getD i [] = x := fun x => by simp [List.getD, hil]
     have hfin : (List.map eModule l).set i (eModule { m with clock := hd.clock, params := hd.params }) = (l.set i { m with clock := hd.clock, params := hd.params }).map eModule := by rw [List.map_set]
     simp (maxSteps := 4000000) only [ZE,↓reduceIte,pE,pL,pA,pS,pM,pD] at hfin
     simp (maxSteps := 4000000) only [ZE,↓reduceIte,pE,pL,pA,pS,pM,pD, zN,qT,qG,qL,qH,qN,qB,qE,qO,qA,qM, List.map_nil, gt_len0, dn, lt_int hil, getD_map hil, him, List.length_map, List.length_set, hgd, List.set_set, hfin]
     refine ⟨by kernel_rfl, hil, hil, [3], [140], ?_⟩
     simp (maxSteps := 4000000) only [ZE,↓reduceIte,pE,pL,pA,pS,pM,pD, stepQ]
     rw [hps, List.length_set]
     exact ⟨rfl, rfl⟩
   ·have hc : hd.name ≠ mo ∨ hd.items ≠ [] := .inr h0
    simp only [if_true, if_pos hc]
    have dn : (!decide (hd.name = mo)) = false := by simp [hn]
    have hpos : 0 < hd.items.length := List.length_pos_iff.2 h0
    simp (maxSteps := 4000000) only [ZE,↓reduceIte,pE,pL,pA,pS,pM,pD, eEdit, ePart, zN,qT,qG,qL,qH,qN,qB,qE,qO,qA,qM]
    refine EFn.gV [(100, 100)] bs ?_ ?_
    ·simp (maxSteps := 4000000) only [ZE,↓reduceIte,pE,pL,pA,pS,pM,pD]
    rintro V ol new ⟨rfl, rfl, rfl⟩
    simp (maxSteps := 4000000) only [ZE,↓reduceIte,pE,pL,pA,pS,pM,pD, zN,qT,qG,qL,qH,qN,qB,qE,qO,qA,qM, gt_len hpos, dn, List.length_map]
    refine ⟨[3, 100], [], ?_⟩
    simp (maxSteps := 4000000) only [ZE,↓reduceIte,pE,pL,pA,pS,pM,pD, stepQ]
  ·have hc : hd.name ≠ mo ∨ hd.items ≠ [] := .inl hn
   simp only [if_true, if_pos hc]
   have dn : (!decide (hd.name = mo)) = true := by simp [hn]
   simp (maxSteps := 4000000) only [ZE,↓reduceIte,pE,pL,pA,pS,pM,pD, eEdit, ePart, zN,qT,qG,qL,qH,qN,qB,qE,qO,qA,qM]
   refine EFn.gV [(100, 100)] bs ?_ ?_
   ·simp (maxSteps := 4000000) only [ZE,↓reduceIte,pE,pL,pA,pS,pM,pD]
   rintro V ol new ⟨rfl, rfl, rfl⟩
   simp (maxSteps := 4000000) only [ZE,↓reduceIte,pE,pL,pA,pS,pM,pD, zN,qT,qG,qL,qH,qN,qB,qE,qO,qA,qM, dn, List.length_map]
   refine ⟨[3, 100], [], ?_⟩
   simp (maxSteps := 4000000) only [ZE,↓reduceIte,pE,pL,pA,pS,pM,pD, stepQ]
end Go.Proofs.YtbenhdgpogiadaaGreat

namespace Go.Proofs.YtbenhdgpogiadaaGreat
open Go.Aw
open Nat renaming reduceEqDiff → pE, reduceLT → pL, reduceAdd → pA, reduceSub → pS, reduceMul → pM, reduceLeDiff → pD
open Int renaming reduceToNat → qT, reduceGT → qG, reduceLT → qL, reduceGE → qH, reduceBNe → qN, reduceBEq → qB, reduceLE → qE, reduceNe → qO, reduceAdd → qA, reduceNeg → qM
set_option maxRecDepth 100000
set_option maxHeartbeats 40000000
def czI (k : Int) (n : ByteArray) : List AV :=
 [.d (.lit (.int .i64 k)), .d (.lit (.string n)), .d (.lit (.int .i64 0)), .d (.lit (.string ByteArray.empty)), .d (.lit (.int .i64 0)), .d (.lit (.string ByteArray.empty)), .d (.lit (.int .i64 0)), .d (.lit (.string ByteArray.empty)),
  .d (.lit (.int .i64 0)), .d (.lit (.string ByteArray.empty)), .d (.lit (.int .i64 0)), .d (.lit (.string ByteArray.empty)), .d (.lit (.int .i64 0)), .d (.lit (.string ByteArray.empty)), .nils,
  .d (.lit (.int .i64 0)), .d (.lit (.string ByteArray.empty)), .d (.lit (.int .i64 0)), .d (.lit (.string ByteArray.empty)), .d (.lit (.int .i64 0)), .d (.lit (.string ByteArray.empty)), .nils,
  .d (.lit (.int .i64 0)), .d (.lit (.string ByteArray.empty)), .d (.lit (.int .i64 0)), .d (.lit (.string ByteArray.empty)), .d (.lit (.int .i64 0)), .d (.lit (.string ByteArray.empty)), .nils,
  .d (.lit (.int .i64 0)), .d (.lit (.string ByteArray.empty)), .d (.lit (.int .i64 0)), .d (.lit (.string ByteArray.empty)), .nils, .nils]
theorem titem_c (l : List Module) (hs : Srt ltS Module.name l) (hl : l.length + 1 ≤ 4000000) (hsi : ∀ m ∈ l, Srt ltP partI m.items ∧ m.items.length + 1 ≤ 4000000) (e : Edit) : FnL Tryz.prog 100 [.ar 100 l.length, .d (.agg (eEdit e))] [(100, .arr 53 4 .flat (l.map eModule))] (stepQ (stepI l e)) := by
 refine FnL.of_eC (own := []) (fun i => if i = 14 then [.rnm [(100, 140), (3, 3)]] else if i = 1013 then [.frz 42] else if i = 8 then [.rnm [(100, 100), (41, 42), (3, 3)]] else if i = 2002 then [.ord ⟨[(0, none), (1, none), (2, none), (3, none), (4, none), (5, none), (6, none), (7, none), (8, none), (9, none), (10, none), (11, none), (12, none), (13, none), (14, none), (15, none), (16, none), (17, none), (18, none), (19, none)]⟩] else []) [0] mixed Tryz.func100 rfl Tryz.call100 Tryz.ntmps100 (Nat.le_of_ble_eq_true rfl) Tryz.results100 ?_
 obtain ⟨mo, pt, has, to, hd⟩ := e
 have bs0 := bsModule_c l (by omega) { zMod with name := mo } hs
 have hz : Module.name { zMod with name := mo } = mo := rfl
 rw [hz] at bs0
 obtain ⟨i, hi⟩ : ∃ i, lowN ltS Module.name l mo = i := ⟨_, rfl⟩
 simp only [hi, zMod] at bs0
 simp (maxSteps := 4000000) only [ZE,↓reduceIte,pE,pL,pA,pS,pM,pD, zN,qT,qG,qL,qH,qN,qB,qE,qO,qA,qM, zMod, emp] at bs0
 have bs := FnL.aggN [.ar 100 l.length] [.d (.clo (.func 57) [] [])] (cs := [.d (.lit (.string mo.val)), .d (.lit (.string ByteArray.empty)), .nils, .nils]) bs0 rfl
 simp only [List.cons_append, List.nil_append] at bs
 clear bs0
 simp only [stepI]
 cases hm : lkp Module.name l mo with
 | none =>
  rw [hm] at bs
  simp (maxSteps := 4000000) only [ZE,↓reduceIte,pE,pL,pA,pS,pM,pD, eEdit, ePart, zN,qT,qG,qL,qH,qN,qB,qE,qO,qA,qM]
  refine EFn.gV [(100, 100)] bs ?_ ?_
  ·simp (maxSteps := 4000000) only [ZE,↓reduceIte,pE,pL,pA,pS,pM,pD]
  rintro V ol new ⟨rfl, rfl, rfl⟩
  simp (maxSteps := 4000000) only [ZE,↓reduceIte,pE,pL,pA,pS,pM,pD, zN,qT,qG,qL,qH,qN,qB,qE,qO,qA,qM]
  refine ⟨by kernel_rfl, [3, 100], [], ?_⟩
  simp (maxSteps := 4000000) only [ZE,↓reduceIte,pE,pL,pA,pS,pM,pD, stepQ]
 | some m =>
  rw [hm] at bs
  obtain ⟨hil, him⟩ := low_at ordS hs hm
  simp only [hi] at hil him
  have hmn : m.name = mo := (lkp_some hm).2
  obtain ⟨hsm, hlm⟩ := hsi m (lkp_some hm).1
  have cc := cloneI_c m.items (by omega)
  have bi0 := bsItem_c m.items (by omega) { zItem with kind := pt.kind, name := pt.name } hsm
  have hzp : partI { zItem with kind := pt.kind, name := pt.name } = pt := rfl
  rw [hzp] at bi0
  obtain ⟨k, hk⟩ : ∃ k, lowN ltP partI m.items pt = k := ⟨_, rfl⟩
  simp only [hk] at bi0
  simp (maxSteps := 4000000) only [ZE,↓reduceIte,pE,pL,pA,pS,pM,pD, zN,qT,qG,qL,qH,qN,qB,qE,qO,qA,qM, zItem, zExpr, zNum, emp, op_mk, name_mk, k_mk, w_mk, args_mk, List.map_nil] at bi0
  have bi := FnL.aggN [.ar 100 m.items.length] [.d (.clo (.func 53) [] [])] (cs := czI pt.kind.val pt.name.val) bi0 rfl
  simp only [List.cons_append, List.nil_append, czI] at bi
  clear bi0
  cases has with
  | false =>
   simp only [Bool.false_eq_true, if_false]
   cases hx : lkp partI m.items pt with
   | none =>
    rw [hx] at bi
    simp (maxSteps := 4000000) only [ZE,↓reduceIte,pE,pL,pA,pS,pM,pD, eEdit, ePart, zN,qT,qG,qL,qH,qN,qB,qE,qO,qA,qM]
    refine EFn.gV [(100, 100)] bs ?_ ?_
    ·simp (maxSteps := 4000000) only [ZE,↓reduceIte,pE,pL,pA,pS,pM,pD]
    rintro V ol new ⟨rfl, rfl, rfl⟩
    simp (maxSteps := 4000000) only [ZE,↓reduceIte,pE,pL,pA,pS,pM,pD, zN,qT,qG,qL,qH,qN,qB,qE,qO,qA,qM, lt_int hil, getD_map hil, him, List.length_map]
    refine ⟨by kernel_rfl, hil, EFn.gV [(40, 41)] cc ?_ ?_⟩
    ·simp (maxSteps := 4000000) only [ZE,↓reduceIte,pE,pL,pA,pS,pM,pD]
    rintro V ol new ⟨rfl, rfl, rfl⟩
    simp (maxSteps := 4000000) only [ZE,↓reduceIte,pE,pL,pA,pS,pM,pD, zN,qT,qG,qL,qH,qN,qB,qE,qO,qA,qM]
    refine EFn.gV [(100, 41)] bi ?_ ?_
    ·simp (maxSteps := 4000000) only [ZE,↓reduceIte,pE,pL,pA,pS,pM,pD]
    rintro V ol new ⟨rfl, rfl, rfl⟩
    simp (maxSteps := 4000000) only [ZE,↓reduceIte,pE,pL,pA,pS,pM,pD, zN,qT,qG,qL,qH,qN,qB,qE,qO,qA,qM]
    refine ⟨[3, 100, 41], [], ?_⟩
    simp (maxSteps := 4000000) only [ZE,↓reduceIte,pE,pL,pA,pS,pM,pD, stepQ]
   | some x =>
    rw [hx] at bi
    obtain ⟨hkl, hkx⟩ := low_at ordP hsm hx
    simp only [hk] at hkl hkx
    have hrm := rmvS_at ordP hsm hx
    rw [hk] at hrm
    have hw : IntKind.i64.wrap ((k : Int) + 1) = ((k + 1 : Nat) : Int) := wrap_id (by omega) (by omega)
    have dc := delItem_c m.items k hkl
    simp (maxSteps := 4000000) only [ZE,↓reduceIte,pE,pL,pA,pS,pM,pD] at dc
    simp (maxSteps := 4000000) only [ZE,↓reduceIte,pE,pL,pA,pS,pM,pD, eEdit, ePart, zN,qT,qG,qL,qH,qN,qB,qE,qO,qA,qM]
    refine EFn.gV [(100, 100)] bs ?_ ?_
    ·simp (maxSteps := 4000000) only [ZE,↓reduceIte,pE,pL,pA,pS,pM,pD]
    rintro V ol new ⟨rfl, rfl, rfl⟩
    simp (maxSteps := 4000000) only [ZE,↓reduceIte,pE,pL,pA,pS,pM,pD, zN,qT,qG,qL,qH,qN,qB,qE,qO,qA,qM, lt_int hil, getD_map hil, him, List.length_map]
    refine ⟨by kernel_rfl, hil, EFn.gV [(40, 41)] cc ?_ ?_⟩
    ·simp (maxSteps := 4000000) only [ZE,↓reduceIte,pE,pL,pA,pS,pM,pD]
    rintro V ol new ⟨rfl, rfl, rfl⟩
    simp (maxSteps := 4000000) only [ZE,↓reduceIte,pE,pL,pA,pS,pM,pD, zN,qT,qG,qL,qH,qN,qB,qE,qO,qA,qM]
    refine EFn.gV [(100, 41)] bi ?_ ?_
    ·simp (maxSteps := 4000000) only [ZE,↓reduceIte,pE,pL,pA,pS,pM,pD]
    rintro V ol new ⟨rfl, rfl, rfl⟩
    simp (maxSteps := 4000000) only [ZE,↓reduceIte,pE,pL,pA,pS,pM,pD, zN,qT,qG,qL,qH,qN,qB,qE,qO,qA,qM, hw]
    refine EFn.gV [(0, 41), (40, 42)] dc ?_ ?_
    ·simp (maxSteps := 4000000) only [ZE,↓reduceIte,pE,pL,pA,pS,pM,pD]
    rintro V ol new ⟨rfl, rfl, rfl⟩
    rw [hrm]
    have hfin : (List.map eModule l).set i (eModule { m with items := m.items.eraseIdx k }) = (l.set i { m with items := m.items.eraseIdx k }).map eModule := by rw [List.map_set]
    have hps : putS ltS Module.name l { m with items := m.items.eraseIdx k } = l.set i { m with items := m.items.eraseIdx k } := by
     have h := putS_at ordS (x := { m with items := m.items.eraseIdx k }) hs ((congrArg (lkp Module.name l) hmn).trans hm)
     rwa [show lowN ltS Module.name l ({ m with items := m.items.eraseIdx k } : Module).name = i from (congrArg (lowN ltS Module.name l) hmn).trans hi] at h
    simp (maxSteps := 4000000) only [ZE,↓reduceIte,pE,pL,pA,pS,pM,pD] at hfin
    simp (maxSteps := 4000000) only [ZE,↓reduceIte,pE,pL,pA,pS,pM,pD, zN,qT,qG,qL,qH,qN,qB,qE,qO,qA,qM, lt_int hil, getD_map hil, him, List.length_map, hfin]
    refine ⟨hil, [3], [140], ?_⟩
    simp (maxSteps := 4000000) only [ZE,↓reduceIte,pE,pL,pA,pS,pM,pD, stepQ]
    rw [hps, List.length_set]
    exact ⟨rfl, rfl⟩
  | true =>
   have oc := tof_c to
   simp only [ZE,↓reduceIte,pE,pL,pA,pS,pM,pD, ePart, partI] at oc
   by_cases hp : partI to = pt
   ·subst hp
    by_cases h0 : to.kind.1 = 0
    ·have hc : partI to ≠ partI to ∨ (partI to).kind.1 = 0 := .inr h0
     have hk0 : (to.kind.val == 0) = true := beq_iff_eq.2 h0
     simp only [if_true, if_pos hc]
     simp (maxSteps := 4000000) only [ZE,↓reduceIte,pE,pL,pA,pS,pM,pD, eEdit, ePart, zN,qT,qG,qL,qH,qN,qB,qE,qO,qA,qM]
     refine EFn.gV [(100, 100)] bs ?_ ?_
     ·simp (maxSteps := 4000000) only [ZE,↓reduceIte,pE,pL,pA,pS,pM,pD]
     rintro V ol new ⟨rfl, rfl, rfl⟩
     simp (maxSteps := 4000000) only [ZE,↓reduceIte,pE,pL,pA,pS,pM,pD, zN,qT,qG,qL,qH,qN,qB,qE,qO,qA,qM, lt_int hil, getD_map hil, him, List.length_map]
     refine ⟨by kernel_rfl, ECall'.i oc ?_⟩
     simp (maxSteps := 4000000) only [ZE,↓reduceIte,pE,pL,pA,pS,pM,pD, zN,qT,qG,qL,qH,qN,qB,qE,qO,qA,qM, partI, hk0]
     refine ⟨[3, 100], [], ?_⟩
     simp (maxSteps := 4000000) only [ZE,↓reduceIte,pE,pL,pA,pS,pM,pD, stepQ]
    ·have hc : ¬ (partI to ≠ partI to ∨ (partI to).kind.1 = 0) := fun h => h.elim (fun h => h rfl) h0
     have hk0 : (to.kind.val == 0) = false := beq_eq_false_iff_ne.2 h0
     simp only [if_true, if_neg hc]
     cases hx : lkp partI m.items (partI to) with
     | none =>
      rw [hx] at bi
      have hpn := putS_new ordP hsm hx
      rw [hk] at hpn
      have hkl : k ≤ m.items.length := by rw [← hk]; exact low_le _ _
      have ic := insItem_c m.items to k hkl (by omega)
      rw [hpn]
      obtain ⟨its, hits⟩ : ∃ its, m.items.take k ++ to :: m.items.drop k = its := ⟨_, rfl⟩
      rw [hits] at ic ⊢
      simp only [partI] at bi
      simp (maxSteps := 4000000) only [ZE,↓reduceIte,pE,pL,pA,pS,pM,pD] at ic
      simp (maxSteps := 4000000) only [ZE,↓reduceIte,pE,pL,pA,pS,pM,pD, eEdit, ePart, zN,qT,qG,qL,qH,qN,qB,qE,qO,qA,qM]
      refine EFn.gV [(100, 100)] bs ?_ ?_
      ·simp (maxSteps := 4000000) only [ZE,↓reduceIte,pE,pL,pA,pS,pM,pD]
      rintro V ol new ⟨rfl, rfl, rfl⟩
      simp (maxSteps := 4000000) only [ZE,↓reduceIte,pE,pL,pA,pS,pM,pD, zN,qT,qG,qL,qH,qN,qB,qE,qO,qA,qM, lt_int hil, getD_map hil, him, List.length_map]
      refine ⟨by kernel_rfl, ECall'.i oc ?_⟩
      simp (maxSteps := 4000000) only [ZE,↓reduceIte,pE,pL,pA,pS,pM,pD, zN,qT,qG,qL,qH,qN,qB,qE,qO,qA,qM, partI, hk0, lt_int hil, getD_map hil, him, List.length_map]
      refine ⟨hil, EFn.gV [(40, 41)] cc ?_ ?_⟩
      ·simp (maxSteps := 4000000) only [ZE,↓reduceIte,pE,pL,pA,pS,pM,pD]
      rintro V ol new ⟨rfl, rfl, rfl⟩
      simp (maxSteps := 4000000) only [ZE,↓reduceIte,pE,pL,pA,pS,pM,pD, zN,qT,qG,qL,qH,qN,qB,qE,qO,qA,qM]
      refine EFn.gV [(100, 41)] bi ?_ ?_
      ·simp (maxSteps := 4000000) only [ZE,↓reduceIte,pE,pL,pA,pS,pM,pD]
      rintro V ol new ⟨rfl, rfl, rfl⟩
      simp (maxSteps := 4000000) only [ZE,↓reduceIte,pE,pL,pA,pS,pM,pD, zN,qT,qG,qL,qH,qN,qB,qE,qO,qA,qM]
      refine EFn.gV [(0, 41), (50, 80), (40, 42)] ic ?_ ?_
      ·simp (maxSteps := 4000000) only [ZE,↓reduceIte,pE,pL,pA,pS,pM,pD]
      rintro V ol new ⟨rfl, rfl, rfl⟩
      have hfin : (List.map eModule l).set i (eModule { m with items := its }) = (l.set i { m with items := its }).map eModule := by rw [List.map_set]
      have hps : putS ltS Module.name l { m with items := its } = l.set i { m with items := its } := by
       have h := putS_at ordS (x := { m with items := its }) hs ((congrArg (lkp Module.name l) hmn).trans hm)
       rwa [show lowN ltS Module.name l ({ m with items := its } : Module).name = i from (congrArg (lowN ltS Module.name l) hmn).trans hi] at h
      simp (maxSteps := 4000000) only [ZE,↓reduceIte,pE,pL,pA,pS,pM,pD] at hfin
      simp (maxSteps := 4000000) only [ZE,↓reduceIte,pE,pL,pA,pS,pM,pD, zN,qT,qG,qL,qH,qN,qB,qE,qO,qA,qM, lt_int hil, getD_map hil, him, List.length_map, hfin]
      refine ⟨hil, [3], [140], ?_⟩
      simp (maxSteps := 4000000) only [ZE,↓reduceIte,pE,pL,pA,pS,pM,pD, stepQ]
      rw [hps, List.length_set]
      exact ⟨rfl, rfl⟩
     | some x =>
      rw [hx] at bi
      obtain ⟨hkl, hkx⟩ := low_at ordP hsm hx
      simp only [hk] at hkl hkx
      have hpa := putS_at ordP hsm hx
      rw [hk] at hpa
      rw [hpa]
      have hset : (List.map eItem m.items).set k (eItem to) = (m.items.set k to).map eItem := by rw [List.map_set]
      obtain ⟨its, hits⟩ : ∃ its, m.items.set k to = its := ⟨_, rfl⟩
      have hlen : its.length = m.items.length := by rw [← hits, List.length_set]
      rw [hits] at hset ⊢
      simp only [partI] at bi
      simp (maxSteps := 4000000) only [ZE,↓reduceIte,pE,pL,pA,pS,pM,pD] at hset
      simp (maxSteps := 4000000) only [ZE,↓reduceIte,pE,pL,pA,pS,pM,pD, eEdit, ePart, zN,qT,qG,qL,qH,qN,qB,qE,qO,qA,qM]
      refine EFn.gV [(100, 100)] bs ?_ ?_
      ·simp (maxSteps := 4000000) only [ZE,↓reduceIte,pE,pL,pA,pS,pM,pD]
      rintro V ol new ⟨rfl, rfl, rfl⟩
      simp (maxSteps := 4000000) only [ZE,↓reduceIte,pE,pL,pA,pS,pM,pD, zN,qT,qG,qL,qH,qN,qB,qE,qO,qA,qM, lt_int hil, getD_map hil, him, List.length_map]
      refine ⟨by kernel_rfl, ECall'.i oc ?_⟩
      simp (maxSteps := 4000000) only [ZE,↓reduceIte,pE,pL,pA,pS,pM,pD, zN,qT,qG,qL,qH,qN,qB,qE,qO,qA,qM, partI, hk0, lt_int hil, getD_map hil, him, List.length_map]
      refine ⟨hil, EFn.gV [(40, 41)] cc ?_ ?_⟩
      ·simp (maxSteps := 4000000) only [ZE,↓reduceIte,pE,pL,pA,pS,pM,pD]
      rintro V ol new ⟨rfl, rfl, rfl⟩
      simp (maxSteps := 4000000) only [ZE,↓reduceIte,pE,pL,pA,pS,pM,pD, zN,qT,qG,qL,qH,qN,qB,qE,qO,qA,qM]
      refine EFn.gV [(100, 41)] bi ?_ ?_
      ·simp (maxSteps := 4000000) only [ZE,↓reduceIte,pE,pL,pA,pS,pM,pD]
      rintro V ol new ⟨rfl, rfl, rfl⟩
      have hfin : (List.map eModule l).set i (eModule { m with items := its }) = (l.set i { m with items := its }).map eModule := by rw [List.map_set]
      have hps : putS ltS Module.name l { m with items := its } = l.set i { m with items := its } := by
       have h := putS_at ordS (x := { m with items := its }) hs ((congrArg (lkp Module.name l) hmn).trans hm)
       rwa [show lowN ltS Module.name l ({ m with items := its } : Module).name = i from (congrArg (lowN ltS Module.name l) hmn).trans hi] at h
      simp (maxSteps := 4000000) only [ZE,↓reduceIte,pE,pL,pA,pS,pM,pD] at hfin
      simp (maxSteps := 4000000) only [ZE,↓reduceIte,pE,pL,pA,pS,pM,pD, zN,qT,qG,qL,qH,qN,qB,qE,qO,qA,qM, lt_int hil, getD_map hil, him, List.length_map, hfin, lt_int hkl, getD_map hkl, hkx, List.drop_succ_cons, List.drop_zero, hset, hlen]
      refine ⟨hkl, hil, [3], [140], ?_⟩
      simp (maxSteps := 4000000) only [ZE,↓reduceIte,pE,pL,pA,pS,pM,pD, stepQ]
      rw [hps, List.length_set]
      exact ⟨rfl, rfl⟩
   ·have hc : partI to ≠ pt ∨ pt.kind.1 = 0 := .inl hp
    have hne : (to.kind.val == pt.kind.val && decide (to.name = pt.name)) = false := (part_eq (partI to) pt).trans (decide_eq_false hp)
    simp only [if_true, if_pos hc]
    simp (maxSteps := 4000000) only [ZE,↓reduceIte,pE,pL,pA,pS,pM,pD, eEdit, ePart, zN,qT,qG,qL,qH,qN,qB,qE,qO,qA,qM]
    refine EFn.gV [(100, 100)] bs ?_ ?_
    ·simp (maxSteps := 4000000) only [ZE,↓reduceIte,pE,pL,pA,pS,pM,pD]
    rintro V ol new ⟨rfl, rfl, rfl⟩
    simp (maxSteps := 4000000) only [ZE,↓reduceIte,pE,pL,pA,pS,pM,pD, zN,qT,qG,qL,qH,qN,qB,qE,qO,qA,qM, lt_int hil, getD_map hil, him, List.length_map]
    refine ⟨by kernel_rfl, ECall'.i oc ?_⟩
    simp (maxSteps := 4000000) only [ZE,↓reduceIte,pE,pL,pA,pS,pM,pD, zN,qT,qG,qL,qH,qN,qB,qE,qO,qA,qM, hne]
    refine ⟨[3, 100], [], ?_⟩
    simp (maxSteps := 4000000) only [ZE,↓reduceIte,pE,pL,pA,pS,pM,pD, stepQ]
end Go.Proofs.YtbenhdgpogiadaaGreat

namespace Go.Proofs.YtbenhdgpogiadaaGreat
open Go.Aw
open Nat renaming reduceEqDiff → pE, reduceLT → pL, reduceAdd → pA, reduceSub → pS, reduceMul → pM, reduceLeDiff → pD
open Int renaming reduceToNat → qT, reduceGT → qG, reduceLT → qL, reduceGE → qH, reduceBNe → qN, reduceBEq → qB, reduceLE → qE, reduceNe → qO, reduceAdd → qA, reduceNeg → qM
set_option maxRecDepth 100000
set_option maxHeartbeats 40000000
section
variable {α κ : Type} [DecidableEq κ] {lt : κ → κ → Bool} {key : α → κ}
omit [DecidableEq κ] in
theorem putS_le : ∀ (l : List α) (x : α), (putS lt key l x).length ≤ l.length + 1
 | [], x => by simp [putS]
 | y :: r, x => by
  have := putS_le r x
  simp only [putS]
  split
  ·simp
  split
  ·simp only [List.length_cons]; omega
  ·simp
theorem rmvS_le : ∀ (l : List α) (k : κ), (rmvS key l k).length ≤ l.length
 | [], k => by simp [rmvS]
 | y :: r, k => by
  have := rmvS_le r k
  simp only [rmvS]
  split
  ·simp
  ·simp only [List.length_cons]; omega
end
theorem part_z : ∀ p : Part, p.kind.val = 0 → p.name.val = ByteArray.empty → p = zPart := by
 rintro ⟨⟨pk, hk⟩, ⟨pn, hn⟩⟩ q1 q2
 simp only at q1 q2
 subst q1 q2
 rfl
/-- What stays on the way. -/
structure StB (n : Nat) (s : List Module) : Prop where
 good : Good s
 len : s.length ≤ n
 items : ∀ m ∈ s, m.items.length ≤ n
theorem StB.put {n : Nat} {s : List Module} (h : StB n s) {m : Module} (hm : Srt ltP partI m.items) (hl : m.items.length ≤ n + 1) : StB (n + 1) (putS ltS Module.name s m) :=
 ⟨h.good.put hm, Nat.le_trans (putS_le _ _) (Nat.succ_le_succ h.len), fun z hz => by
  rcases mem_putS hz with rfl | hz
  ·exact hl
  ·exact Nat.le_succ_of_le (h.items z hz)⟩
theorem StB.step {n : Nat} {s s' : List Module} (h : StB n s) {e : Edit} (hs : stepE s e = some s') : StB (n + 1) s' := by
 unfold stepE at hs
 split at hs
 ·unfold stepH at hs
  split at hs
  ·split at hs
   ·cases hs
   ·rename_i hc
    have h0 : e.head.items = [] := Classical.byContradiction fun hn => hc (.inr hn)
    split at hs
    ·cases hs
     exact h.put (by rw [h0]; exact List.Pairwise.nil) (by rw [h0]; exact Nat.zero_le _)
    ·rename_i m hm
     cases hs
     exact h.put (h.good.parts m (lkp_some hm).1) (Nat.le_succ_of_le (h.items m (lkp_some hm).1))
  ·split at hs
   ·cases hs
   ·split at hs
    ·cases hs
    ·cases hs
     exact ⟨h.good.rmv _, Nat.le_succ_of_le (Nat.le_trans (rmvS_le _ _) h.len), fun z hz => Nat.le_succ_of_le (h.items z (mem_rmvS hz))⟩
 ·unfold stepI at hs
  split at hs
  ·cases hs
  ·rename_i m hm
   have hsm := h.good.parts m (lkp_some hm).1
   have hlm := h.items m (lkp_some hm).1
   split at hs
   ·split at hs
    ·cases hs
    ·cases hs
     exact h.put (Srt.ins ordP _ hsm) (Nat.le_trans (putS_le _ _) (Nat.succ_le_succ hlm))
   ·split at hs
    ·cases hs
     exact h.put (Srt.del _ hsm) (Nat.le_succ_of_le (Nat.le_trans (rmvS_le _ _) hlm))
    ·cases hs
def applyR (r : Option (List Module)) : AV :=
 match r with
 | some s => .tup [.d (.agg [eModules s]), .d (eI 0)]
 | none => .tup [.d (.agg [.sl []]), .d (eI 160)]
theorem applyF_none {s : List Module} {es : List Edit} {i : Nat} (hi : i < es.length) {x : List Module} (h1 : (es.take i).foldlM stepE s = some x) (h2 : stepE x es[i] = none) : es.foldlM stepE s = none := by
 conv => lhs; rw [← List.take_append_drop i es, List.foldlM_append, h1]
 rw [List.drop_eq_getElem_cons hi]
 show (List.foldlM stepE x (es[i] :: es.drop (i + 1))) = none
 rw [List.foldlM_cons, h2]; rfl
theorem apply_c (a : List Module) (h : NOk a) (hg : Good (normF a)) (es : List Edit) (n : Nat) (hn : a.length ≤ n ∧ ∀ m ∈ a, m.items.length ≤ n) (hl : n + es.length + 1 ≤ 4000000) : FnP Tryz.prog 46 [.agg [eModules a], .sl (es.map eEdit)] (applyR (applyF a es)) [] := by
 refine FnP.of_eC (own := []) (fun i => []) mixed Tryz.func46 rfl Tryz.call46 Tryz.ntmps46 (Nat.le_of_ble_eq_true rfl) Tryz.results46 (fun hok => ?_)
 have nc := normalo_c a h
 simp (maxSteps := 4000000) only [ZE,↓reduceIte,pE,pL,pA,pS,pM,pD, zN,qT,qG,qL,qH,qN,qB,qE,qO,qA,qM]
 refine EFn.gV [(90, 140)] nc ?_ ?_
 ·simp (maxSteps := 4000000) only [ZE,↓reduceIte,pE,pL,pA,pS,pM,pD]
 rintro V ol new ⟨rfl, rfl, rfl⟩
 simp (maxSteps := 4000000) only [ZE,↓reduceIte,pE,pL,pA,pS,pM,pD, zN,qT,qG,qL,qH,qN,qB,qE,qO,qA,qM, List.length_map]
 have hb0 : StB n (normF a) := ⟨hg, by rw [normF_len]; exact hn.1, fun m hm => by
  unfold normF at hm
  obtain ⟨q, hq, rfl⟩ := List.mem_map.1 hm
  have := hn.2 q ((sortK_perm a).mem_iff.1 hq)
  show (sortK ltP partI q.items).length ≤ n
  rw [(sortK_perm q.items).length_eq]; exact this⟩
 have hnl := normF_len a
 rw [← hnl]
 refine eloopX (X := List Module) (fun _ i => if i = 11 then [.rnm [(141, 140), (4, 4), (8, 8)]] else []) mixed es.length (fun i s => (es.take i).foldlM stepE (normF a) = some s ∧ StB (n + i) s)
  (fun i s => ([(4, .bp 4 0), (6, .ar 140 s.length), (15, .d (.sl (es.map eEdit))), (16, .d (eI es.length)), (17, .d (eI i))], [(4, .box [.nils]), (140, .arr 53 4 .flat (s.map eModule))])) (normF a) ?_ ?_ ?_ (fun i s hi hI => ?_)
 ·exact ⟨by simp, hb0⟩
 ·simp only [ZE,↓reduceIte,pE,pL,pA,pS,pM,pD]
 ·simp only [ZE,↓reduceIte,pE,pL,pA,pS,pM,pD]
 obtain ⟨h1, hb⟩ := hI
 rcases Nat.lt_or_ge i es.length with hlt | hge
 ·have hw := wrap_succ (show i < 9223372036854775807 by omega)
  obtain ⟨e, he⟩ : ∃ e, es[i] = e := ⟨_, rfl⟩
  have hstep : (es.take (i + 1)).foldlM stepE (normF a) = stepE s e := by
   rw [List.take_succ_eq_append_getElem hlt, List.foldlM_append, h1, he]
   show List.foldlM stepE s [e] = _
   rw [List.foldlM_cons]
   cases stepE s e <;> rfl
  by_cases hp : e.part = zPart
  ·have hpe : (e.part.kind.val == 0 && decide (e.part.name.val = ByteArray.empty)) = true := by rw [hp]; rfl
   have hse : stepE s e = stepH s e := if_pos hp
   have tc := thead_c s hb.good.srt (by have := hb.len; omega) e
   simp (maxSteps := 4000000) only [ZE,↓reduceIte,pE,pL,pA,pS,pM,pD, eEdit, ePart] at tc
   simp (maxSteps := 4000000) only [ZE,↓reduceIte,pE,pL,pA,pS,pM,pD, dec_lt hlt, lt_int hlt, getD_map hlt, he, eEdit, ePart, zN,qT,qG,qL,qH,qN,qB,qE,qO,qA,qM, List.length_map, hpe]
   refine EFn.gV [(100, 140), (140, 141)] tc ?_ ?_
   ·simp (maxSteps := 4000000) only [ZE,↓reduceIte,pE,pL,pA,pS,pM,pD]
   intro V ol new hq
   cases hr : stepH s e with
   | none =>
    rw [hr] at hq
    obtain ⟨rfl, rfl, rfl⟩ := hq
    have hap : applyF a es = none := applyF_none hlt h1 (by rw [he, hse, hr])
    rw [hap]
    simp (maxSteps := 4000000) only [ZE,↓reduceIte,pE,pL,pA,pS,pM,pD, zN,qT,qG,qL,qH,qN,qB,qE,qO,qA,qM, applyR]
   | some s' =>
    rw [hr] at hq
    obtain ⟨rfl, rfl, rfl⟩ := hq
    simp (maxSteps := 4000000) only [ZE,↓reduceIte,pE,pL,pA,pS,pM,pD, zN,qT,qG,qL,qH,qN,qB,qE,qO,qA,qM, hw]
    simp only [nextX]
    refine ⟨hlt, s', ⟨by rw [hstep, hse, hr], ?_⟩, ?_⟩
    ·have := hb.step (e := e) (by rw [hse, hr]); exact this
    ·simp only [ZE,↓reduceIte,pE,pL,pA,pS,pM,pD]
  ·have hpe : (e.part.kind.val == 0 && decide (e.part.name.val = ByteArray.empty)) = false := by
    cases hq : (e.part.kind.val == 0 && decide (e.part.name.val = ByteArray.empty)) with
    | false => rfl
    | true =>
     rw [Bool.and_eq_true, beq_iff_eq, decide_eq_true_eq] at hq
     exact absurd (part_z e.part hq.1 hq.2) hp
   have hse : stepE s e = stepI s e := if_neg hp
   have tc := titem_c s hb.good.srt (by have := hb.len; omega) (fun m hm => ⟨hb.good.parts m hm, by have := hb.items m hm; omega⟩) e
   simp (maxSteps := 4000000) only [ZE,↓reduceIte,pE,pL,pA,pS,pM,pD, eEdit, ePart] at tc
   simp (maxSteps := 4000000) only [ZE,↓reduceIte,pE,pL,pA,pS,pM,pD, dec_lt hlt, lt_int hlt, getD_map hlt, he, eEdit, ePart, zN,qT,qG,qL,qH,qN,qB,qE,qO,qA,qM, List.length_map, hpe]
   refine EFn.gV [(100, 140), (140, 141)] tc ?_ ?_
   ·simp (maxSteps := 4000000) only [ZE,↓reduceIte,pE,pL,pA,pS,pM,pD]
   intro V ol new hq
   cases hr : stepI s e with
   | none =>
    rw [hr] at hq
    obtain ⟨rfl, rfl, rfl⟩ := hq
    have hap : applyF a es = none := applyF_none hlt h1 (by rw [he, hse, hr])
    rw [hap]
    simp (maxSteps := 4000000) only [ZE,↓reduceIte,pE,pL,pA,pS,pM,pD, zN,qT,qG,qL,qH,qN,qB,qE,qO,qA,qM, applyR]
   | some s' =>
    rw [hr] at hq
    obtain ⟨rfl, rfl, rfl⟩ := hq
    simp (maxSteps := 4000000) only [ZE,↓reduceIte,pE,pL,pA,pS,pM,pD, zN,qT,qG,qL,qH,qN,qB,qE,qO,qA,qM, hw]
    simp only [nextX]
    refine ⟨hlt, s', ⟨by rw [hstep, hse, hr], ?_⟩, ?_⟩
    ·have := hb.step (e := e) (by rw [hse, hr]); exact this
    ·simp only [ZE,↓reduceIte,pE,pL,pA,pS,pM,pD]
 ·have : i = es.length := by omega
  subst this
  rw [List.take_length] at h1
  have hap : applyF a es = some s := h1
  rw [hap]
  simp (maxSteps := 4000000) only [ZE,↓reduceIte,pE,pL,pA,pS,pM,pD, dec_ge hge, zN,qT,qG,qL,qH,qN,qB,qE,qO,qA,qM, List.length_map, applyR]
end Go.Proofs.YtbenhdgpogiadaaGreat

namespace Go.Proofs.YtbenhdgpogiadaaGreat
open Go.Aw
open Nat renaming reduceEqDiff → pE, reduceLT → pL, reduceAdd → pA, reduceSub → pS, reduceMul → pM, reduceLeDiff → pD
open Int renaming reduceToNat → qT, reduceGT → qG, reduceLT → qL, reduceGE → qH, reduceBNe → qN, reduceBEq → qB, reduceLE → qE, reduceNe → qO, reduceAdd → qA, reduceNeg → qM
set_option maxRecDepth 100000
set_option maxHeartbeats 40000000
def kind0 (x : Item) : Bool := x.kind.1 == 0
theorem kind0_c (x : Item) : FnP Tryz.prog 55 [.agg (eItem x)] (.d (eB (kind0 x))) [] := by
 refine FnP.of_eC (own := []) (fun _ => []) mixed Tryz.func55 rfl Tryz.call55 Tryz.ntmps55 (Nat.le_of_ble_eq_true rfl) Tryz.results55 (fun hok => ?_)
 simp (maxSteps := 4000000) only [ZE,↓reduceIte,pE,pL,pA,pS,pM,pD, zN,qT,qG,qL,qH,qN,qB,qE,qO,qA,qM, kind0]
theorem indexK_c (l : List Item) : FnP Tryz.prog 112 [.sl (l.map eItem), .clo (.func 55) [] []] (.d (eI (idxP kind0 l))) [] := by
 refine FnP.of_eC (own := []) chL mixed Tryz.func112 rfl Tryz.call112 Tryz.ntmps112 (Nat.le_of_ble_eq_true rfl) Tryz.results112 (fun hok => ?_)
 obtain ⟨hl, _⟩ := ok_map (okL_cons hok).1
 simp only [ZE,↓reduceIte,pE,pL,pA,pS,pM,pD, zN,qT,qG,qL,qH,qN,qB,qE,qO,qA,qM]
 refine eloop chL mixed l.length (fun i => ∀ j (_ : j < i) (hj : j < l.length), kind0 l[j] = false) (fun i => ([(0, .d (eItems l)), (1, .d (.clo (.func 55) [] [])), (7, .d (eI l.length)), (8, .d (eI i))], [])) (by simp) (by simp only [ZE,↓reduceIte,pE,pL,pA,pS,pM,pD, zN,qT,qG,qL,qH,qN,qB,qE,qO,qA,qM, List.length_map]) (by simp only [ZE,↓reduceIte,pE,pL,pA,pS,pM,pD]) (fun i hi hI => ?_)
 rcases Nat.lt_or_ge i l.length with h | h
 ·have hw := wrap_succ (show i < 9223372036854775807 by omega)
  simp only [ZE,↓reduceIte,pE,pL,pA,pS,pM,pD, dec_lt h, getD_map h, lt_int h, List.length_map]
  have hc := kind0_c l[i]
  simp only [ZE,↓reduceIte,pE,pL,pA,pS,pM,pD] at hc
  refine EFn.p ?_
  simp only [ZE,↓reduceIte,pE,pL,pA,pS,pM,pD]
  refine ECall.i hc ?_
  simp only [ZE,↓reduceIte,pE,pL,pA,pS,pM,pD, hw]
  refine iteI (fun h3 => ?_) (fun h3 => ⟨h, fun j hj hj' => ?_⟩)
  ·rw [idxP_some h h3 hI]
  ·rcases Nat.lt_succ_iff_lt_or_eq.1 hj with hj | rfl
   ·exact hI j hj hj'
   ·exact h3
 ·simp only [ZE,↓reduceIte,pE,pL,pA,pS,pM,pD, dec_ge h, List.length_map]
  rw [idxP_none (fun j hj => hI j (by omega) hj)]
theorem containsK_c (l : List Item) : FnP Tryz.prog 54 [.sl (l.map eItem), .clo (.func 55) [] []] (.d (eB (l.any kind0))) [] := by
 refine FnP.of_eC (own := []) chL mixed Tryz.func54 rfl Tryz.call54 Tryz.ntmps54 (Nat.le_of_ble_eq_true rfl) Tryz.results54 (fun hok => ?_)
 simp only [ZE,↓reduceIte,pE,pL,pA,pS,pM,pD, zN,qT,qG,qL,qH,qN,qB,qE,qO,qA,qM]
 refine EFn.p ?_
 simp (maxSteps := 4000000) only [ZE,↓reduceIte,pE,pL,pA,pS,pM,pD]
 have hc := indexK_c l
 simp (maxSteps := 4000000) only [ZE,↓reduceIte,pE,pL,pA,pS,pM,pD] at hc
 refine ECall.i hc ?_
 clear hc
 simp only [ZE,↓reduceIte,pE,pL,pA,pS,pM,pD, zN,qT,qG,qL,qH,qN,qB,qE,qO,qA,qM, idxP_nonneg]
end Go.Proofs.YtbenhdgpogiadaaGreat
