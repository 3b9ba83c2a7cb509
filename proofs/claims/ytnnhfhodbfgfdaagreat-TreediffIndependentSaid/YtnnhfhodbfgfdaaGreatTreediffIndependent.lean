/-
 TreediffIndependent: edits of items lead to the same file in either order if they concern different parts, and none of them adds or removes a module.
 Conditions: none.
-/
import Derived.Test.YtnnhfhodbfgfdaaGreatGL
import Derived.Test.YtnnhfhodbfgfdaaGreatK2
import Derived.Test.YtnnhfhodbfgfdaaGreatRows
import Derived.Test.YtnnhfhodbfgfdaaGreatK5
set_option linter.unusedSimpArgs false
set_option linter.unusedVariables false
/-
 ARGUMENTS OF THE LAWS AS DATA.
-/
namespace Go.Proofs.YtnnhfhodbfgfdaaGreat
open Go.Aw Go.ChangeShapes Go.WideShapes Go.ChangeAt Go.RowKit
set_option maxRecDepth 100000
theorem own : ownKnob Tryz.prog.godebug = none := by kernel_rfl
theorem laidOut : laidOutB Tryz.prog = true := by kernel_rfl
def shRaw : ASh := .agg [.int .u8,.int .u8,.sl [.int .u8]]
def shK2 : ASh := .agg [.int .u8,.int .u8]
def shK4 : ASh := .agg [.int .u8,.int .u8,.int .u8,.int .u8]
def shB : ASh := .one (.sl [.int .u8])
theorem bytes_of {d : D} (h : Sh.fits (.sl [.int .u8]) d) : ∃ l : List Nat,d = eBytes l ∧ ∀ b ∈ l,b < 256 := by
 obtain ⟨l,rfl,hl⟩ := fits_sl (enc := fun b : Nat => [eU8 b]) (p := fun b => b < 256) (fun e he => by
  obtain ⟨x,rfl,hx⟩ := fitsL_1 he
  obtain ⟨n,rfl,hn⟩ := fits_u8 hx
  exact ⟨n,rfl,hn⟩) h
 exact ⟨l,rfl,hl⟩
def shPair : ASh := .agg [.int .u8,.int .u8,.sl [.int .u8],.int .u8,.int .u8,.sl [.int .u8],.sl [.int .u8,.int .u8,.int .u8,.int .u8],.sl [.int .u8,.int .u8,.int .u8,.int .u8]]
def eZ2 (x y : Raw) (l m : List K4) : D := .agg [eU8 x.kind,eU8 x.w,eBytes x.l,eU8 y.kind,eU8 y.w,eBytes y.l,.sl (l.map eK4),.sl (m.map eK4)]
theorem k4s_of {d : D} (h : Sh.fits (.sl [.int .u8,.int .u8,.int .u8,.int .u8]) d) : ∃ l : List K4,d = .sl (l.map eK4) ∧ ∀ k ∈ l,k.ok := by
 obtain ⟨l,rfl,hl⟩ := fits_sl (enc := eK4) (p := K4.ok) (fun e0 h0 => by
  obtain ⟨a,b,c,e,rfl,h1,h2,h3,h4⟩ := fitsL_4 h0
  obtain ⟨a,rfl,ha⟩ := fits_u8 h1
  obtain ⟨b,rfl,hb⟩ := fits_u8 h2
  obtain ⟨c,rfl,hc⟩ := fits_u8 h3
  obtain ⟨e,rfl,he⟩ := fits_u8 h4
  exact ⟨⟨a,b,c,e⟩,rfl,ha,hb,hc,he⟩) h
 exact ⟨l,rfl,hl⟩
theorem pair_of {d : D} (h : shPair.fits d) : ∃ x y l m,d = eZ2 x y l m ∧ x.ok ∧ y.ok ∧ (∀ k ∈ l,k.ok) ∧ ∀ k ∈ m,k.ok := by
 obtain ⟨ds,rfl,h⟩ := h
 simp only [Sh.fitsL] at h
 obtain ⟨a,_,rfl,h1,b,_,rfl,h2,c,_,rfl,h3,a',_,rfl,h4,b',_,rfl,h5,c',_,rfl,h6,l,_,rfl,h7,m,_,rfl,h8,rfl⟩ := h
 obtain ⟨k,rfl,hk⟩ := fits_u8 h1
 obtain ⟨w,rfl,hw⟩ := fits_u8 h2
 obtain ⟨bs,rfl,hbs⟩ := bytes_of h3
 obtain ⟨k',rfl,hk'⟩ := fits_u8 h4
 obtain ⟨w',rfl,hw'⟩ := fits_u8 h5
 obtain ⟨bs',rfl,hbs'⟩ := bytes_of h6
 obtain ⟨l,rfl,hl⟩ := k4s_of h7
 obtain ⟨m,rfl,hm⟩ := k4s_of h8
 exact ⟨⟨k,w,bs⟩,⟨k',w',bs'⟩,l,m,rfl,⟨hk,hw,hbs⟩,⟨hk',hw',hbs'⟩,hl,hm⟩
open Go.Aw
set_option maxHeartbeats 40000000
theorem sameF_self (a : List Module) : sameF a a = true := (sameF_iff a a).2 rfl
theorem normal_s (a : List Module) (h : Sm a) : FnP Tryz.prog 20 [.agg [eModules a]] (.d (.agg [eModules (normF a)])) [] := normal_c a h.nok.names h.nok.parts h.nok.len h.nok.items
theorem diff_s (a b : List Module) (h : Sm a) (h' : Sm b) : FnP Tryz.prog 17 [.agg [eModules a],.agg [eModules b]] (.d (.sl ((diffF a b).map eEdit))) [] := diff_c a b h.nok h'.nok (by have := h.diff h'; omega)
theorem eEdit_1 (e : Edit) : (eEdit e).length = 43 ∧ ∀ d ∈ eEdit e,d.one := by
 have h1 := eItem_1 e.to
 have h2 := eModule_1 e.head
 have e35 : (eItem e.to).length = 35 := by simp [eItem,eNum,eExpr_eq,eRule]
 refine ⟨by simp [eEdit,ePart,e35,eModule],fun d hd => ?_⟩
 simp only [eEdit,ePart,List.mem_cons,List.mem_append,List.not_mem_nil,or_false] at hd
 rcases hd with rfl | (rfl | rfl) | rfl | hd | hd
 ·simp [eS,D.one,Value.oneCell']
 ·simp [eI,D.one,Value.oneCell']
 ·simp [eS,D.one,Value.oneCell']
 ·simp [eB,D.one,Value.oneCell']
 ·exact h1 d hd
 ·exact h2 d hd
theorem rowsEdit (l : List Edit) : rowsOk 43 (l.map eEdit) := fun y hy => by
 obtain ⟨p,_,rfl⟩ := List.mem_map.1 hy
 exact eEdit_1 p
open Nat renaming reduceEqDiff → pE,reduceLT → pL,reduceAdd → pA,reduceSub → pS,reduceMul → pM,reduceLeDiff → pD
open Int renaming reduceToNat → qT,reduceGT → qG,reduceLT → qL,reduceGE → qH,reduceBNe → qN,reduceBEq → qB,reduceLE → qE,reduceNe → qO,reduceAdd → qA,reduceNeg → qM
theorem rowE (l : List Edit) : ∀ e : List D,e ∈ l.map eEdit → e.length = 43 := fun e he => (rowsEdit l e he).1
theorem independent_c (x y : Raw) (hx : x.ok) (l m : List K4) (hl : ∀ k ∈ l,k.ok) (hm : ∀ k ∈ m,k.ok) (cut : Nat) (hcut : cut < 256) : FnP Tryz.prog 6 [eZ2 x y l m,eU8 cut] (.d (eB true)) [] := by
 refine FnP.of_eC (own := []) (fun i => if i = 2004 then [.flt ⟨[(0,none),(1,none),(2,none),(3,none),(4,none),(5,none),(6,none),(7,none),(8,none),(9,none),(12,some []),(13,some [])]⟩ ⟨[10,11],[(12,[10]),(13,[11])]⟩] else if i = 2012 then [.flt ⟨[(0,none),(1,none),(2,none),(3,none),(5,none),(6,none),(7,none),(4,some [5,6,7]),(8,some []),(9,none)]⟩ ⟨[],[]⟩] else if i = 12 then [.frz 57] else if i = 1018 then [.frz 62] else if i = 2018 then [.flt ⟨[(0,none),(1,none),(2,none),(3,none),(4,none),(5,none),(6,none),(7,none),(8,none),(12,some []),(13,some []),(14,some [])]⟩ ⟨[9,10,11],[(12,[9]),(13,[10]),(14,[11])]⟩] else if i = 2019 then [.ord ⟨[(0,none),(1,none),(2,none),(3,none),(4,none),(5,none),(6,none),(7,none),(8,none),(9,none),(10,none),(11,none),(12,none),(13,none),(14,none),(15,none),(16,none),(17,none),(18,none),(19,none),(20,none),(21,none),(22,none),(23,none),(24,none),(25,none),(26,none),(27,none),(28,none),(29,none),(30,none),(31,none),(32,none),(33,none),(34,none),(35,none),(36,none),(37,none)]⟩] else []) mixed Tryz.func6 rfl Tryz.call6 Tryz.ntmps6 (Nat.le_of_ble_eq_true rfl) Tryz.results6 (fun hok => ?_)
 have s1 := spoiled_c x hx l hl
 have s2 := spoiled_c x hx m hm
 have sma := sm_spoiled x l
 have smb := sm_spoiled x m
 obtain ⟨a,ha⟩ : ∃ a,spoiled x l = a := ⟨_,rfl⟩
 obtain ⟨b,hb⟩ : ∃ b,spoiled x m = b := ⟨_,rfl⟩
 rw [ha] at s1 sma
 rw [hb] at s2 smb
 have dc := diff_s a b sma smb
 have hE := sma.diff smb
 have law := fun (hz : ∀ e ∈ diffF a b,e.part ≠ zPart) (l' : List Edit) (hp : (diffF a b).Perm l') => independent_law sma.part smb.part hz hp
 obtain ⟨E,hEE⟩ : ∃ E,diffF a b = E := ⟨_,rfl⟩
 rw [hEE] at dc hE law
 have nb := normal_s b smb
 have sb := same_c (normF b) (normF b)
 rw [sameF_self] at sb
 simp (maxSteps := 4000000) only [ZE,↓reduceIte,pE,pL,pA,pS,pM,pD,eRaw] at s1 s2
 simp (maxSteps := 4000000) only [ZE,↓reduceIte,pE,pL,pA,pS,pM,pD] at dc nb sb
 simp (maxSteps := 4000000) only [ZE,↓reduceIte,pE,pL,pA,pS,pM,pD,zN,qT,qG,qL,qH,qN,qB,qE,qO,qA,qM,eZ2]
 refine EFn.p ?_
 simp (maxSteps := 4000000) only [ZE,↓reduceIte,pE,pL,pA,pS,pM,pD,zN,qT,qG,qL,qH,qN,qB,qE,qO,qA,qM]
 refine ECall.i examples_c ?_
 simp (maxSteps := 4000000) only [ZE,↓reduceIte,pE,pL,pA,pS,pM,pD,zN,qT,qG,qL,qH,qN,qB,qE,qO,qA,qM]
 refine ⟨by kernel_rfl,ECall'.i s1 ?_⟩
 simp (maxSteps := 4000000) only [ZE,↓reduceIte,pE,pL,pA,pS,pM,pD,zN,qT,qG,qL,qH,qN,qB,qE,qO,qA,qM]
 refine ECall'.i s2 ?_
 simp (maxSteps := 4000000) only [ZE,↓reduceIte,pE,pL,pA,pS,pM,pD,zN,qT,qG,qL,qH,qN,qB,qE,qO,qA,qM]
 refine EFn.p ?_
 simp (maxSteps := 4000000) only [ZE,↓reduceIte,pE,pL,pA,pS,pM,pD,zN,qT,qG,qL,qH,qN,qB,qE,qO,qA,qM]
 refine ECall.i dc ?_
 simp (maxSteps := 4000000) only [ZE,↓reduceIte,pE,pL,pA,pS,pM,pD,zN,qT,qG,qL,qH,qN,qB,qE,qO,qA,qM]
 refine eloop (fun _ => []) mixed E.length (fun i => ∀ j (_ : j < i) (h : j < E.length),E[j].part ≠ zPart) (fun i => ([(1,.d (eU8 cut)),(5,.d (eB true)),(6,.bp 6 0),(7,.bp 7 0),(8,.d (.sl (E.map eEdit))),(9,.d (eI i))],[(6,.box [.d (eModules a)]),(7,.box [.d (eModules b)])])) (by omega) ?_ ?_ (fun i hi hI => ?_)
 ·simp only [ZE,↓reduceIte,pE,pL,pA,pS,pM,pD,zN,qT,qG,qL,qH,qN,qB,qE,qO,qA,qM]
 ·simp only [ZE,↓reduceIte,pE,pL,pA,pS,pM,pD]
 rcases Nat.lt_or_ge i E.length with h | h
 ·have hw := wrap_succ (show i < 9223372036854775807 by omega)
  obtain ⟨e,he⟩ : ∃ e,E[i] = e := ⟨_,rfl⟩
  by_cases hp : e.part = zPart
  ·have hpe : (e.part.kind.val == 0 && decide (e.part.name.val = ByteArray.empty)) = true := by rw [hp]; rfl
   simp (maxSteps := 4000000) only [ZE,↓reduceIte,pE,pL,pA,pS,pM,pD,dec_lt h,lt_int h,getD_map h,he,eEdit,ePart,zN,qT,qG,qL,qH,qN,qB,qE,qO,qA,qM,List.length_map,hpe]
  ·have hpe : (e.part.kind.val == 0 && decide (e.part.name.val = ByteArray.empty)) = false := by
    cases hq : (e.part.kind.val == 0 && decide (e.part.name.val = ByteArray.empty)) with
    | false => rfl
    | true =>
     rw [Bool.and_eq_true,beq_iff_eq,decide_eq_true_eq] at hq
     exact absurd (part_z e.part hq.1 hq.2) hp
   simp (maxSteps := 4000000) only [ZE,↓reduceIte,pE,pL,pA,pS,pM,pD,dec_lt h,lt_int h,getD_map h,he,eEdit,ePart,zN,qT,qG,qL,qH,qN,qB,qE,qO,qA,qM,List.length_map,hpe,hw]
   refine ⟨h,fun j hj hj' => ?_⟩
   rcases Nat.lt_succ_iff_lt_or_eq.1 hj with hj | rfl
   ·exact hI j hj hj'
   ·rw [he]; exact hp
 ·have : i = E.length := by omega
  subst this
  have hz : ∀ e ∈ E,e.part ≠ zPart := fun e he => by
   obtain ⟨j,hj,rfl⟩ := List.getElem_of_mem he
   exact hI j hj hj
  have l0 := law hz E (List.Perm.refl _)
  have hwl : IntKind.i64.wrap ((E.length : Int) + 1) = ((E.length + 1 : Nat) : Int) := wrap_id (by omega) (by omega)
  obtain ⟨n,hn⟩ : ∃ n,cut % (E.length + 1) = n := ⟨_,rfl⟩
  have hnl : n ≤ E.length := by have := Nat.mod_lt cut (show 0 < E.length + 1 by omega); omega
  have hmod : (cut : Int).tmod ((E.length + 1 : Nat) : Int) = (n : Int) := by rw [← hn]; exact (Int.ofNat_tmod _ _).symm
  have l1 := law hz (E.drop n ++ E.take n) (by
   refine List.Perm.trans ?_ List.perm_append_comm
   rw [List.take_append_drop])
  have l2 := law hz E.reverse (List.reverse_perm E).symm
  have a0 := applied_c a sma E (by omega)
  have a1 := applied_c a sma (E.drop n ++ E.take n) (by simp; omega)
  have a2 := applied_c a sma E.reverse (by simp; omega)
  rw [l0] at a0
  rw [l1] at a1
  rw [l2] at a2
  simp only [appD] at a0 a1 a2
  simp (maxSteps := 4000000) only [ZE,↓reduceIte,pE,pL,pA,pS,pM,pD] at a0 a1 a2
  have hcw : IntKind.i64.wrap (cut : Int) = (cut : Int) := wrap_id (by omega) (by omega)
  obtain ⟨A,hA⟩ : ∃ A,E.drop n = A := ⟨_,rfl⟩
  obtain ⟨B,hB⟩ : ∃ B,E.take n = B := ⟨_,rfl⟩
  have hA' : List.take (E.length - n) (List.drop n (List.map eEdit E)) = List.map eEdit A := by
   rw [← List.map_drop,hA]
   exact List.take_of_length_le (by rw [List.length_map,← hA,List.length_drop]; exact Nat.le_refl _)
  have hB' : List.take (n - 0) (List.map eEdit E) = List.map eEdit B := by rw [Nat.sub_zero,← List.map_take,hB]
  have hAl : A.length ≤ 404 := by rw [← hA,List.length_drop]; omega
  have hBl : B.length ≤ 404 := by rw [← hB,List.length_take]; omega
  rw [hA,hB,List.map_append] at a1
  have rE := rowE E
  have rA := rowsEdit A
  have rB := rowsEdit B
  have q1 : ¬ (((E.length + 1 : Nat) : Int) = 0) := by omega
  have q2 : (n : Int) ≤ (E.length : Int) := by omega
  simp (maxSteps := 4000000) only [ZE,↓reduceIte,pE,pL,pA,pS,pM,pD,zN,qT,qG,qL,qH,qN,qB,qE,qO,qA,qM,dec_ge h,List.length_map,hwl,hcw,hmod,hA',hB',List.length_append]
  refine ⟨q1,by kernel_rfl,⟨rE,by omega,q2,Int.le_refl _⟩,⟨rE,by omega,q2,Int.le_refl _⟩,⟨rA,by omega,by omega⟩,⟨rE,by omega,q2,Int.le_refl _⟩,⟨rB,by omega,by omega⟩,?_⟩
  refine ⟨by split <;> trivial,?_⟩
  have hw1 : IntKind.i64.wrap ((E.length : Int) - 1) = (E.length : Int) - 1 := by rw [IntKind.wrap_i64]; omega
  refine eloop (fun _ => []) mixed E.length (fun _ => True) (fun j => ([(5,.d (eB true)),(6,.bp 6 0),(7,.bp 7 0),(8,.d (.sl (E.map eEdit))),(11,.d (.sl (List.map eEdit A ++ List.map eEdit B))),(12,.ar 62 j),(13,.d (eI ((E.length : Int) - 1 - (j : Int))))],[(6,.box [.d (eModules a)]),(7,.box [.d (eModules b)]),(62,.arr 66 43 .flat ((E.reverse.take j).map eEdit))])) trivial ?_ ?_ (fun j hj _ => ?_)
  ·simp only [ZE,↓reduceIte,pE,pL,pA,pS,pM,pD,zN,qT,qG,qL,qH,qN,qB,qE,qO,qA,qM,hw1,Int.sub_zero,Int.natCast_zero]
  ·simp only [ZE,↓reduceIte,pE,pL,pA,pS,pM,pD,List.take_zero,List.map_nil]
  rcases Nat.lt_or_ge j E.length with h3 | h3
  ·obtain ⟨p,hp⟩ : ∃ p,E.length - 1 - j = p := ⟨_,rfl⟩
   have hpz : (E.length : Int) - 1 - (j : Int) = (p : Int) := by omega
   have hpl : p < E.length := by omega
   have dp : decide ((p : Int) ≥ 0) = true := decide_eq_true (by omega)
   have hwp : IntKind.i64.wrap ((p : Int) - 1) = (E.length : Int) - 1 - ((j + 1 : Nat) : Int) := by rw [IntKind.wrap_i64]; omega
   have hRl : (E.reverse.take j).length = j := by rw [List.length_take,List.length_reverse]; omega
   have hR : E.reverse.take (j + 1) = E.reverse.take j ++ [E[p]] := by
    rw [List.take_succ_eq_append_getElem (by rw [List.length_reverse]; exact h3),List.getElem_reverse]
    congr 3
   obtain ⟨R,hRR⟩ : ∃ R,E.reverse.take j = R := ⟨_,rfl⟩
   rw [hR]
   rw [hRR] at hRl ⊢
   obtain ⟨e,he⟩ : ∃ e,E[p] = e := ⟨_,rfl⟩
   have rR := rowsEdit R
   rw [he,List.map_append]
   simp (maxSteps := 4000000) only [ZE,↓reduceIte,pE,pL,pA,pS,pM,pD,zN,qT,qG,qL,qH,qN,qB,qE,qO,qA,qM,hpz,dp,lt_int hpl,getD_map hpl,he,eEdit,ePart,List.length_map,hRl]
   exact ⟨⟨by omega,by omega⟩,h3,by rw [hwp]⟩
  ·have : j = E.length := by omega
   subst this
   have dz : decide ((E.length : Int) - 1 - (E.length : Int) ≥ 0) = false := decide_eq_false (by omega)
   rw [show E.reverse.take E.length = E.reverse from List.take_of_length_le (by simp)]
   simp (maxSteps := 4000000) only [ZE,↓reduceIte,pE,pL,pA,pS,pM,pD,zN,qT,qG,qL,qH,qN,qB,qE,qO,qA,qM,dz,List.length_map,List.length_reverse]
   refine ⟨by kernel_rfl,ECall'.i a0 ?_⟩
   simp (maxSteps := 4000000) only [ZE,↓reduceIte,pE,pL,pA,pS,pM,pD,zN,qT,qG,qL,qH,qN,qB,qE,qO,qA,qM]
   refine ECall'.i a1 ?_
   simp (maxSteps := 4000000) only [ZE,↓reduceIte,pE,pL,pA,pS,pM,pD,zN,qT,qG,qL,qH,qN,qB,qE,qO,qA,qM]
   refine ECall'.i a2 ?_
   simp (maxSteps := 4000000) only [ZE,↓reduceIte,pE,pL,pA,pS,pM,pD,zN,qT,qG,qL,qH,qN,qB,qE,qO,qA,qM]
   refine ⟨by kernel_rfl,ECall'.i sb ?_⟩
   simp (maxSteps := 4000000) only [ZE,↓reduceIte,pE,pL,pA,pS,pM,pD,zN,qT,qG,qL,qH,qN,qB,qE,qO,qA,qM]
   refine ECall'.i sb ?_
   simp (maxSteps := 4000000) only [ZE,↓reduceIte,pE,pL,pA,pS,pM,pD,zN,qT,qG,qL,qH,qN,qB,qE,qO,qA,qM]
   refine ECall'.i nb ?_
   simp (maxSteps := 4000000) only [ZE,↓reduceIte,pE,pL,pA,pS,pM,pD,zN,qT,qG,qL,qH,qN,qB,qE,qO,qA,qM]
   refine ECall'.i sb ?_
   simp (maxSteps := 4000000) only [ZE,↓reduceIte,pE,pL,pA,pS,pM,pD,zN,qT,qG,qL,qH,qN,qB,qE,qO,qA,qM]
theorem independent_lifted (os : Os) (started : os.Started) (H : Type) (enc : TypeId × Value → H) :
  ReturnsInHanded {} Tryz.checked os 6 .any (Rows.treediffIndependentSpec.pre6 enc Tryz.prog Tryz.f6 Rows.treediffIndependentRow.domain false) (Rows.treediffIndependentSpec.post enc Tryz.prog Tryz.f6 false true false false) := by
 refine returnsInHanded_of_change (C := Tryz.checked) own started (by kernel_rfl) Tryz.func6
  (ChangeSpec.witness6 (enc := enc) (C := Tryz.checked) false ⟨#[],#[.agg #[.int .u8 0,.int .u8 0,.slice none 0 0,.int .u8 0,.int .u8 0,.slice none 0 0,.slice none 0 0,.slice none 0 0],.int .u8 0],[]⟩ 8 (by kernel_rfl) (by kernel_rfl) (by kernel_rfl) (by kernel_rfl)) ?_
 intro W base args ds gs before hval hW _ _
 refine law_post (P := Tryz.prog) (n := 8) (ss := [shPair,.one (.int .u8)]) laidOut (of_decide_eq_true (by kernel_rfl)) (tb := 4) (by kernel_rfl) Tryz.underlying4 (by kernel_rfl) rfl hval hW (fun hl => ?_) (fun Ds hD _ => ?_)
 ·match ds,hl with
  | [_,_],_ => rfl
 ·obtain ⟨a,b,rfl,ha,hb⟩ := fitsA_2 hD
  obtain ⟨x,y,l,m,rfl,hx,_,hl,hm⟩ := pair_of ha
  obtain ⟨c,rfl,hc⟩ := fits_u8 hb
  exact independent_c x y hx l m hl hm c hc
theorem independent_holds : Rows.TreediffIndependentSaid :=
 OpenClaim.holds_of_wide 6 Tryz.f6 rfl rfl rfl rfl rfl rfl rfl ⟨rfl,rfl,rfl,rfl,rfl⟩ rfl rfl rfl rfl rfl (by kernel_rfl) Tryz.func6 (by kernel_rfl)
  (of_decide_eq_true (by kernel_rfl)) (by unfold Func.isWrapper; first | (rw [if_pos (by decide +kernel)]; kernel_rfl) | (rw [if_neg (by decide +kernel)]; exact ⟨rfl,rfl⟩))
  (fun os started H enc _ => independent_lifted os started H enc)
end Go.Proofs.YtnnhfhodbfgfdaaGreat
