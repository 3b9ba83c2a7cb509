/-
 TreediffRefuses: the removal of an item or of a module that is not there is refused, and so are the removal of a module with items, an item that does not have the part of its edit, a head with another name or with items, and an edit of an item of a module that is not there.
 Conditions: none.
-/
import Derived.Test.YtbenhdgpogiadaaGreatGL
import Derived.Test.YtbenhdgpogiadaaGreatK2
import Derived.Test.YtbenhdgpogiadaaGreatRows
import Derived.Test.YtbenhdgpogiadaaGreatGJf
import Derived.Test.YtbenhdgpogiadaaGreatK5
set_option linter.unusedSimpArgs false
set_option linter.unusedVariables false
/-
 ARGUMENTS OF THE LAWS AS DATA.
-/
namespace Go.Proofs.YtbenhdgpogiadaaGreat
open Go.Aw Go.ChangeShapes Go.WideShapes Go.ChangeAt Go.RowKit
set_option maxRecDepth 100000
theorem own : ownKnob Tryz.prog.godebug = none := by kernel_rfl
theorem laidOut : laidOutB Tryz.prog = true := by kernel_rfl
def shRaw : ASh := .agg [.int .u8,.int .u8,.sl [.int .u8]]
def shK2 : ASh := .agg [.int .u8,.int .u8]
def shK4 : ASh := .agg [.int .u8,.int .u8,.int .u8,.int .u8]
def shB : ASh := .one (.sl [.int .u8])
theorem bytes_of {d : D} (h : Sh.fits (.sl [.int .u8]) d) : ∃ l : List Nat,d = eBytes l ∧ ∀ b ∈ l,b < 256 := by
 obtain ⟨l,rfl,hl⟩ := fits_sl (enc := fun b : Nat => [eU8 b]) (p := fun b => b < 256) (fun e he => by
  obtain ⟨x,rfl,hx⟩ := fitsL_1 he
  obtain ⟨n,rfl,hn⟩ := fits_u8 hx
  exact ⟨n,rfl,hn⟩) h
 exact ⟨l,rfl,hl⟩
theorem k2_of {d : D} (h : shK2.fits d) : ∃ a b : Nat,d = .agg [eU8 a,eU8 b] ∧ a < 256 ∧ b < 256 := by
 obtain ⟨ds,rfl,h⟩ := h
 obtain ⟨a,b,rfl,h1,h2⟩ := fitsL_2 h
 obtain ⟨k,rfl,hk⟩ := fits_u8 h1
 obtain ⟨w,rfl,hw⟩ := fits_u8 h2
 exact ⟨k,w,rfl,hk,hw⟩
theorem jP1 : laidOutB Tryz.prog = true := laidOut
theorem jP2 : mapsRowed Tryz.prog = true := by kernel_rfl
theorem jP6 : (Tryz.prog.stops == []) = true := by kernel_rfl
theorem jP8 : (Tryz.prog.stopKnobs == []) = true := by kernel_rfl
theorem jP24 : Tryz.prog.stopsHeard = true := by kernel_rfl
theorem jP25 : Tryz.prog.mayEnter = true := by kernel_rfl
def shPair : ASh := .agg [.int .u8,.int .u8,.sl [.int .u8],.int .u8,.int .u8,.sl [.int .u8],.sl [.int .u8,.int .u8,.int .u8,.int .u8],.sl [.int .u8,.int .u8,.int .u8,.int .u8]]
def eZ2 (x y : Raw) (l m : List K4) : D := .agg [eU8 x.kind,eU8 x.w,eBytes x.l,eU8 y.kind,eU8 y.w,eBytes y.l,.sl (l.map eK4),.sl (m.map eK4)]
theorem k4s_of {d : D} (h : Sh.fits (.sl [.int .u8,.int .u8,.int .u8,.int .u8]) d) : ∃ l : List K4,d = .sl (l.map eK4) ∧ ∀ k ∈ l,k.ok := by
 obtain ⟨l,rfl,hl⟩ := fits_sl (enc := eK4) (p := K4.ok) (fun e0 h0 => by
  obtain ⟨a,b,c,e,rfl,h1,h2,h3,h4⟩ := fitsL_4 h0
  obtain ⟨a,rfl,ha⟩ := fits_u8 h1
  obtain ⟨b,rfl,hb⟩ := fits_u8 h2
  obtain ⟨c,rfl,hc⟩ := fits_u8 h3
  obtain ⟨e,rfl,he⟩ := fits_u8 h4
  exact ⟨⟨a,b,c,e⟩,rfl,ha,hb,hc,he⟩) h
 exact ⟨l,rfl,hl⟩
theorem pair_of {d : D} (h : shPair.fits d) : ∃ x y l m,d = eZ2 x y l m ∧ x.ok ∧ y.ok ∧ (∀ k ∈ l,k.ok) ∧ ∀ k ∈ m,k.ok := by
 obtain ⟨ds,rfl,h⟩ := h
 simp only [Sh.fitsL] at h
 obtain ⟨a,_,rfl,h1,b,_,rfl,h2,c,_,rfl,h3,a',_,rfl,h4,b',_,rfl,h5,c',_,rfl,h6,l,_,rfl,h7,m,_,rfl,h8,rfl⟩ := h
 obtain ⟨k,rfl,hk⟩ := fits_u8 h1
 obtain ⟨w,rfl,hw⟩ := fits_u8 h2
 obtain ⟨bs,rfl,hbs⟩ := bytes_of h3
 obtain ⟨k',rfl,hk'⟩ := fits_u8 h4
 obtain ⟨w',rfl,hw'⟩ := fits_u8 h5
 obtain ⟨bs',rfl,hbs'⟩ := bytes_of h6
 obtain ⟨l,rfl,hl⟩ := k4s_of h7
 obtain ⟨m,rfl,hm⟩ := k4s_of h8
 exact ⟨⟨k,w,bs⟩,⟨k',w',bs'⟩,l,m,rfl,⟨hk,hw,hbs⟩,⟨hk',hw',hbs'⟩,hl,hm⟩
open Go.Aw
structure Nm (m : Module) : Prop where
 name : m.name.1.size ≤ 4
 items : ∀ y ∈ m.items,y.name.1.size ≤ 100
def nmOk (m : Module) : Bool := decide (m.name.1.size ≤ 4) && m.items.all fun y => decide (y.name.1.size ≤ 100)
theorem nmOk_iff {m : Module} (h : nmOk m = true) : Nm m := by
 simp only [nmOk,Bool.and_eq_true,decide_eq_true_eq,List.all_eq_true] at h
 exact ⟨h.1,h.2⟩
theorem nm_made (x : Raw) : ∀ m ∈ made x,Nm m := by
 have : ((made x).all nmOk) = true := by
  rcases made_shape x with ⟨mem,h⟩ | ⟨q,h⟩ | ⟨q,mem,h⟩ | ⟨q,mem,h⟩
  ·rw [h]; cases mem <;> kernel_rfl
  ·rw [h]; cases q <;> kernel_rfl
  ·rw [h]; cases q <;> cases mem <;> kernel_rfl
  ·rw [h]; cases q <;> cases mem <;> kernel_rfl
 intro m hm
 rw [List.all_eq_true] at this
 exact nmOk_iff (this m hm)
theorem nameT_size : ∀ j : Nat,(nameT j).1.size ≤ 4
 | 0 | 1 | 2 | 3 | 4 | 5 | 6 | 7 | 8 | 9 => by decide +kernel
 | n + 10 => by
  have : nameT (n + 10) = emp := by unfold nameT; rw [List.getD_eq_getElem?_getD,List.getElem?_eq_none (by simp)]; rfl
  rw [this]; decide +kernel
theorem spoilI_name (k1 k3 : Nat) (s : Str) (x : Item) : (spoilI k1 k3 s x).name = s ∨ (spoilI k1 k3 s x).name = x.name := by
 unfold spoilI
 (repeat' split) <;> first | exact .inl rfl | exact .inr rfl
theorem spoil_nm (k1 k2 k3 : Nat) (s : Str) (hs : s.1.size ≤ 4) {m : Module} (h : Nm m) : Nm (spoilM k1 k2 k3 s m) := by
 unfold spoilM
 split
 ·split
  ·exact ⟨hs,h.items⟩
  split
  ·exact ⟨h.name,h.items⟩
  split
  ·exact ⟨h.name,h.items⟩
  ·refine ⟨h.name,fun y hy => ?_⟩
   rcases List.mem_append.1 hy with hy | hy
   ·exact h.items y hy
   ·simp only [List.mem_singleton] at hy
    subst hy
    exact Nat.le_trans hs (by decide)
 ·rename_i hc
  have hlen : k2 % m.items.length < m.items.length := Nat.mod_lt _ (by
   have := (not_or.1 hc).1; omega)
  have hg : m.items.getD (k2 % m.items.length) zItem = m.items[k2 % m.items.length] := by simp [List.getD,hlen]
  have hmem : m.items.getD (k2 % m.items.length) zItem ∈ m.items := by rw [hg]; exact List.getElem_mem hlen
  obtain ⟨x0,hx0⟩ : ∃ x0,m.items.getD (k2 % m.items.length) zItem = x0 := ⟨_,rfl⟩
  rw [hx0] at hmem ⊢
  refine ⟨h.name,fun y hy => ?_⟩
  have hy' : y ∈ m.items ∨ y = spoilI k1 k3 s x0 := by
   unfold spoilL at hy
   rcases List.mem_or_eq_of_mem_set hy with h1 | h1
   ·split at h1
    ·rcases List.mem_append.1 h1 with h2 | h2
     ·exact .inl h2
     ·simp only [List.mem_singleton] at h2; rw [h2]; exact .inl hmem
    ·exact .inl h1
   ·exact .inr h1
  rcases hy' with hy' | rfl
  ·exact h.items y hy'
  ·rcases spoilI_name k1 k3 s x0 with e | e
   ·rw [e]; exact Nat.le_trans hs (by decide)
   ·rw [e]; exact h.items x0 hmem
theorem nm_step {f : List Module} (h : ∀ m ∈ f,Nm m) (hpos : 0 < f.length) (k : K4) : ∀ m ∈ spS f k,Nm m := by
 intro m hm
 unfold spS at hm
 split at hm
 ·unfold spG at hm
  rcases List.mem_or_eq_of_mem_set hm with h1 | h1
  ·exact h m h1
  ·rw [h1]
   have hi : k.a % f.length < f.length := Nat.mod_lt _ hpos
   have hg : f.getD (k.a % f.length) zMod = f[k.a % f.length] := by simp [List.getD,hi]
   rw [hg]
   exact spoil_nm _ _ _ _ (nameT_size _) (h _ (List.getElem_mem hi))
 ·exact h m hm
theorem nm_fold (x : Raw) (l : List K4) : ∀ n,n ≤ l.length → ∀ m ∈ (l.take n).foldl spS (made x),Nm m
 | 0,_ => nm_made x
 | n + 1,h => by
  rw [List.take_succ_eq_append_getElem (by omega),List.foldl_append]
  exact nm_step (nm_fold x l n (by omega)) (spI_fold x l n (by omega)).pos _
theorem nm_spoiled (x : Raw) (l : List K4) : ∀ m ∈ spoiled x l,Nm m := by
 unfold spoiled
 have h := nm_fold x (l.take 4) (l.take 4).length (Nat.le_refl _)
 rw [List.take_length] at h
 exact h
def sNoOne : Str := st [110,111,32,111,110,101]
def sOther : Str := st [111,116,104,101,114]
theorem nm_no {m : Module} (h : Nm m) : m.name ≠ sNoOne ∧ m.name ≠ sOther := by
 have h1 := h.name
 have e1 : sNoOne.1.size = 6 := by decide +kernel
 have e2 : sOther.1.size = 5 := by decide +kernel
 exact ⟨fun e => by rw [e] at h1; omega,fun e => by rw [e] at h1; omega⟩
open Nat renaming reduceEqDiff → pE,reduceLT → pL,reduceAdd → pA,reduceSub → pS,reduceMul → pM,reduceLeDiff → pD
open Int renaming reduceToNat → qT,reduceGT → qG,reduceLT → qL,reduceGE → qH,reduceBNe → qN,reduceBEq → qB,reduceLE → qE,reduceNe → qO,reduceAdd → qA,reduceNeg → qM
set_option maxHeartbeats 40000000
def zName (n : Str) (h : n.1.size ≤ 100) : Str := ⟨n.1 ++ ⟨#[122]⟩,by rw [ByteArray.size_append]; show _ + 1 ≤ maxLen; unfold maxLen; omega⟩
def sZ : Str := st [122]
def itZ : Item := { zItem with name := sZ }
def hdO : Module := { zMod with name := sOther }
def badL (m : Module) (x : Item) (h : x.name.1.size ≤ 100) : List Edit :=
 [eGone sNoOne,eGone m.name,⟨m.name,⟨x.kind,zName x.name h⟩,true,x,zMod⟩,⟨sNoOne,partI x,true,x,zMod⟩,⟨sNoOne,partI x,false,zItem,zMod⟩,⟨m.name,zPart,true,zItem,m⟩,⟨m.name,zPart,true,zItem,hdO⟩,⟨m.name,⟨⟨0,rfl⟩,sZ⟩,true,itZ,zMod⟩]
theorem bad_none {a : List Module} (ha : Parted a) (hn : ∀ m ∈ a,Nm m) {m : Module} (hm : m ∈ a) {x : Item} (hx : x ∈ m.items) (h : x.name.1.size ≤ 100) : ∀ e ∈ badL m x h,applyF a [e] = none := by
 have hk := ha.kinds m hm x hx
 have h1 : ∀ q ∈ a,q.name ≠ sNoOne := fun q hq => (nm_no (hn q hq)).1
 have hz : partI x ≠ zPart := zPart_ne hk
 intro e he
 simp only [badL,List.mem_cons,List.not_mem_nil,or_false] at he
 rcases he with rfl | rfl | rfl | rfl | rfl | rfl | rfl | rfl
 ·exact refuse_head_none h1
 ·exact refuse_head_items ha hm hx
 ·refine refuse_part (fun e => hk ?_) (.inl fun e => ?_)
  ·have := congrArg (fun p : Part => p.kind.1) e; exact this
  ·have := congrArg (fun p : Part => p.name.1.size) e
   simp only [partI,zName,ByteArray.size_append] at this
   have e1 : (⟨#[122]⟩ : ByteArray).size = 1 := rfl
   omega
 ·exact refuse_item_none h1 hz true x
 ·exact refuse_item_none h1 hz false zItem
 ·exact refuse_head (.inr (List.ne_nil_of_mem hx))
 ·exact refuse_head (.inl (Ne.symm (nm_no (hn m hm)).2))
 ·refine refuse_part (fun e => ?_) (.inr rfl)
  have := congrArg (fun p : Part => p.name.1.size) e
  have e1 : sZ.1.size = 1 := by decide +kernel
  have e2 : zPart.name.1.size = 0 := by decide +kernel
  simp only [e1,e2] at this
  cases this
def nzl : D → AV
 | .sl [] => .nils
 | d => .d d
theorem refuses_c (x y : Raw) (hx : x.ok) (l m : List K4) (hl : ∀ k ∈ l,k.ok) (k0 k1 : Nat) (hk0 : k0 < 256) (hk1 : k1 < 256) : FnP Tryz.prog 5 [eZ2 x y l m,.agg [eU8 k0,eU8 k1]] (.d (eB true)) [] := by
 refine FnP.of_eC (own := []) (fun i => if i = 2005 then [.flt ⟨[(0,none),(1,none),(2,none),(3,none),(4,none),(5,none),(6,none),(7,none),(8,none),(9,none),(10,none),(12,some [])]⟩ ⟨[11],[(12,[11])]⟩] else if i = 2008 then [.flt ⟨[(0,none),(1,none),(2,none),(3,none),(4,none),(5,none),(6,none),(7,none),(8,none),(9,none),(10,none),(12,some [])]⟩ ⟨[11],[(12,[11])]⟩] else if i = 11 then [.frz 87] else []) mixed Tryz.func5 rfl Tryz.call5 Tryz.ntmps5 (Nat.le_of_ble_eq_true rfl) Tryz.results5 (fun hok => ?_)
 have s1 := spoiled_c x hx l hl
 have sma := sm_spoiled x l
 have hnm := nm_spoiled x l
 have hpos := (spoiled_spI x l).pos
 obtain ⟨a,ha⟩ : ∃ a,spoiled x l = a := ⟨_,rfl⟩
 rw [ha] at s1 sma hnm hpos
 have hal := sma.len
 obtain ⟨i,hi⟩ : ∃ i,k0 % a.length = i := ⟨_,rfl⟩
 have hia : i < a.length := by rw [← hi]; exact Nat.mod_lt _ hpos
 obtain ⟨md,hmd⟩ : ∃ md,a[i] = md := ⟨_,rfl⟩
 have hmm : md ∈ a := by rw [← hmd]; exact List.getElem_mem hia
 have c0 : IntKind.i64.wrap (k0 : Int) = (k0 : Int) := wrap_id (by omega) (by omega)
 have c1 : IntKind.i64.wrap (k1 : Int) = (k1 : Int) := wrap_id (by omega) (by omega)
 have m0 : (k0 : Int).tmod (a.length : Int) = (i : Int) := by rw [← hi]; exact (Int.ofNat_tmod _ _).symm
 have n0 : ((a.length : Int) ≠ 0) := by omega
 simp (maxSteps := 4000000) only [ZE,↓reduceIte,pE,pL,pA,pS,pM,pD,eRaw] at s1
 simp (maxSteps := 4000000) only [ZE,↓reduceIte,pE,pL,pA,pS,pM,pD,zN,qT,qG,qL,qH,qN,qB,qE,qO,qA,qM,eZ2]
 refine EFn.p ?_
 simp (maxSteps := 4000000) only [ZE,↓reduceIte,pE,pL,pA,pS,pM,pD,zN,qT,qG,qL,qH,qN,qB,qE,qO,qA,qM]
 refine ECall.i examples_c ?_
 simp (maxSteps := 4000000) only [ZE,↓reduceIte,pE,pL,pA,pS,pM,pD,zN,qT,qG,qL,qH,qN,qB,qE,qO,qA,qM]
 refine EFn.p ?_
 simp (maxSteps := 4000000) only [ZE,↓reduceIte,pE,pL,pA,pS,pM,pD,zN,qT,qG,qL,qH,qN,qB,qE,qO,qA,qM]
 refine ECall.i s1 ?_
 simp (maxSteps := 4000000) only [ZE,↓reduceIte,pE,pL,pA,pS,pM,pD,zN,qT,qG,qL,qH,qN,qB,qE,qO,qA,qM]
 by_cases hit : md.items = []
 ·have z0 : ((md.items.length : Int) == 0) = true := by rw [hit]; rfl
  simp (maxSteps := 4000000) only [ZE,↓reduceIte,pE,pL,pA,pS,pM,pD,zN,qT,qG,qL,qH,qN,qB,qE,qO,qA,qM,List.length_map,c0,m0,lt_int hia,getD_map hia,hmd,z0]
  exact ⟨by kernel_rfl,n0⟩
 ·have hip : 0 < md.items.length := List.length_pos_iff.2 hit
  have z0 : ((md.items.length : Int) == 0) = false := beq_eq_false_iff_ne.2 (by omega)
  obtain ⟨k,hk⟩ : ∃ k,k1 % md.items.length = k := ⟨_,rfl⟩
  have hkl : k < md.items.length := by rw [← hk]; exact Nat.mod_lt _ hip
  obtain ⟨it,hit0⟩ : ∃ it,md.items[k] = it := ⟨_,rfl⟩
  have him : it ∈ md.items := by rw [← hit0]; exact List.getElem_mem hkl
  have m1 : (k1 : Int).tmod (md.items.length : Int) = (k : Int) := by rw [← hk]; exact (Int.ofNat_tmod _ _).symm
  have hsz := (hnm md hmm).items it him
  have bad := bad_none sma.part hnm hmm him hsz
  obtain ⟨s,g1,g2,g3⟩ := gone_law sma.part hmm him
  have oc := rof_c it
  have a1 := applied_c a sma [eRem md.name it] (by simp)
  have a2 := applied_c a sma [eRem md.name it,eRem md.name it] (by simp)
  rw [g1] at a1
  rw [g3] at a2
  simp only [appD] at a1 a2
  simp (maxSteps := 4000000) only [ZE,↓reduceIte,pE,pL,pA,pS,pM,pD,ePart] at oc
  simp (maxSteps := 4000000) only [ZE,↓reduceIte,pE,pL,pA,pS,pM,pD,nzl,badL,eGone,eRem,eEdit,ePart,partI,zPart,zName,sZ,itZ,hdO,sNoOne,sOther,st,zNum,zExpr,zItem,zMod,emp,op_mk,name_mk,k_mk,w_mk,args_mk,List.map_cons,List.map_nil] at a1 a2
  obtain ⟨L,hL⟩ : ∃ L,badL md it hsz = L := ⟨_,rfl⟩
  have hLl : L.length = 8 := by rw [← hL]; rfl
  rw [hL] at bad
  simp (maxSteps := 4000000) only [ZE,↓reduceIte,pE,pL,pA,pS,pM,pD,zN,qT,qG,qL,qH,qN,qB,qE,qO,qA,qM,List.length_map,c0,m0,lt_int hia,getD_map hia,hmd,z0,c1,m1,lt_int hkl,getD_map hkl,hit0]
  refine ⟨by kernel_rfl,?_⟩
  simp (maxSteps := 4000000) only [ZE,↓reduceIte,pE,pL,pA,pS,pM,pD,zN,qT,qG,qL,qH,qN,qB,qE,qO,qA,qM,List.length_map,c0,m0,n0,lt_int hia,getD_map hia,hmd,z0,c1,m1,lt_int hkl,getD_map hkl,hit0]
  refine ⟨by kernel_rfl,by omega,?_⟩
  refine EFn.p ?_
  simp (maxSteps := 4000000) only [ZE,↓reduceIte,pE,pL,pA,pS,pM,pD,zN,qT,qG,qL,qH,qN,qB,qE,qO,qA,qM]
  refine ECall.i oc ?_
  simp (maxSteps := 4000000) only [ZE,↓reduceIte,pE,pL,pA,pS,pM,pD,zN,qT,qG,qL,qH,qN,qB,qE,qO,qA,qM]
  refine ⟨by
   have e1 : (⟨#[122]⟩ : ByteArray).size = 1 := rfl
   have e2 : IntKind.i64.max = 9223372036854775807 := by decide
   rw [e1,e2]
   show ((it.name.1.size + 1 : Nat) : Int) ≤ _
   omega,?_⟩
  refine eloop (fun i => if i = 2015 then [.ord ⟨[(0,none),(1,none),(2,none),(3,none),(4,none),(5,none),(6,none),(7,none),(8,none)]⟩] else []) mixed L.length (fun _ => True) (fun i => ([(5,.d (eB true)),(6,.bp 6 0),(10,.bp 10 0),(11,.d (.sl (L.map eEdit))),(12,.d (eI i))],[(6,.box [.d (eModules a)]),(10,.box ((eEdit (eRem md.name it)).map nzl))])) trivial ?_ ?_ (fun i hi _ => ?_)
  ·simp only [ZE,↓reduceIte,pE,pL,pA,pS,pM,pD,zN,qT,qG,qL,qH,qN,qB,qE,qO,qA,qM,← hL,nzl,badL,eGone,eRem,eEdit,ePart,partI,zPart,zName,sZ,itZ,hdO,sNoOne,sOther,st,zNum,zExpr,zItem,zMod,emp,op_mk,name_mk,k_mk,w_mk,args_mk,List.map_cons,List.map_nil]
  ·simp only [ZE,↓reduceIte,pE,pL,pA,pS,pM,pD,zN,qT,qG,qL,qH,qN,qB,qE,qO,qA,qM,← hL,nzl,badL,eGone,eRem,eEdit,ePart,partI,zPart,zName,sZ,itZ,hdO,sNoOne,sOther,st,zNum,zExpr,zItem,zMod,emp,op_mk,name_mk,k_mk,w_mk,args_mk,List.map_cons,List.map_nil]
  rcases Nat.lt_or_ge i L.length with h | h
  ·have ab := applied_c a sma [L[i]] (by simp)
   rw [bad L[i] (List.getElem_mem h)] at ab
   obtain ⟨e,he⟩ : ∃ e,L[i] = e := ⟨_,rfl⟩
   rw [he] at ab
   simp only [appD,List.map_cons,List.map_nil] at ab
   simp (maxSteps := 4000000) only [ZE,↓reduceIte,pE,pL,pA,pS,pM,pD,eEdit,ePart] at ab
   have hw := wrap_succ (show i < 9223372036854775807 by omega)
   simp (maxSteps := 4000000) only [ZE,↓reduceIte,pE,pL,pA,pS,pM,pD,zN,qT,qG,qL,qH,qN,qB,qE,qO,qA,qM,List.length_map,dec_lt h,lt_int h,getD_map h,he,eEdit,ePart]
   refine ⟨by kernel_rfl,ECall'.i ab ?_⟩
   simp (maxSteps := 4000000) only [ZE,↓reduceIte,pE,pL,pA,pS,pM,pD,zN,qT,qG,qL,qH,qN,qB,qE,qO,qA,qM,hw]
   exact h
  ·have : i = L.length := by omega
   subst this
   simp (maxSteps := 4000000) only [ZE,↓reduceIte,pE,pL,pA,pS,pM,pD,zN,qT,qG,qL,qH,qN,qB,qE,qO,qA,qM,List.length_map,dec_ge h,nzl,badL,eGone,eRem,eEdit,ePart,partI,zPart,zName,sZ,itZ,hdO,sNoOne,sOther,st,zNum,zExpr,zItem,zMod,emp,op_mk,name_mk,k_mk,w_mk,args_mk,List.map_cons,List.map_nil]
   refine EFn.p ?_
   simp (maxSteps := 4000000) only [ZE,↓reduceIte,pE,pL,pA,pS,pM,pD,zN,qT,qG,qL,qH,qN,qB,qE,qO,qA,qM]
   refine ECall.i a1 ?_
   simp (maxSteps := 4000000) only [ZE,↓reduceIte,pE,pL,pA,pS,pM,pD,zN,qT,qG,qL,qH,qN,qB,qE,qO,qA,qM,List.length_map,g2]
   refine EFn.p ?_
   simp (maxSteps := 4000000) only [ZE,↓reduceIte,pE,pL,pA,pS,pM,pD,zN,qT,qG,qL,qH,qN,qB,qE,qO,qA,qM]
   refine ECall.i a2 ?_
   simp (maxSteps := 4000000) only [ZE,↓reduceIte,pE,pL,pA,pS,pM,pD,zN,qT,qG,qL,qH,qN,qB,qE,qO,qA,qM]
theorem refuses_lifted (os : Os) (started : os.Started) (H : Type) (enc : TypeId × Value → H) :
  ReturnsInHanded {} Tryz.checked os 5 .any (Rows.treediffRefusesSpec.pre6 enc Tryz.prog Tryz.f5 Rows.treediffRefusesRow.domain false) (Rows.treediffRefusesSpec.post enc Tryz.prog Tryz.f5 false true false false) := by
 refine returnsInHanded_of_change (C := Tryz.checked) own started (by kernel_rfl) Tryz.func5
  (ChangeSpec.witness6 (enc := enc) (C := Tryz.checked) false ⟨#[],#[.agg #[.int .u8 0,.int .u8 0,.slice none 0 0,.int .u8 0,.int .u8 0,.slice none 0 0,.slice none 0 0,.slice none 0 0],.agg #[.int .u8 0,.int .u8 0]],[]⟩ 8 (by kernel_rfl) (by kernel_rfl) (by kernel_rfl) (by kernel_rfl)) ?_
 intro W base args ds gs before hval hW _ _
 refine law_post (P := Tryz.prog) (n := 8) (ss := [shPair,shK2]) laidOut (of_decide_eq_true (by kernel_rfl)) (tb := 4) (by kernel_rfl) Tryz.underlying4 (by kernel_rfl) rfl hval hW (fun hl => ?_) (fun Ds hD _ => ?_)
 ·match ds,hl with
  | [_,_],_ => rfl
 ·obtain ⟨a,b,rfl,ha,hb⟩ := fitsA_2 hD
  obtain ⟨x,y,l,m,rfl,hx,hy,hl,hm⟩ := pair_of ha
  obtain ⟨k0,k1,rfl,h0,h1⟩ := k2_of hb
  exact refuses_c x y hx l m hl k0 k1 h0 h1
theorem refuses_j0 : jG0 Tryz.prog 5 Tryz.f5 Rows.treediffRefusesSpec Rows.treediffRefusesRow = true := by kernel_rfl
theorem refuses_j1 : jG1 Tryz.prog 5 Tryz.f5 Rows.treediffRefusesSpec Rows.treediffRefusesRow = true := by kernel_rfl
theorem refuses_j2 : jG2 Tryz.prog 5 Tryz.f5 Rows.treediffRefusesSpec Rows.treediffRefusesRow = true := by kernel_rfl
theorem refuses_j3 : jG3 Tryz.prog 5 Tryz.f5 Rows.treediffRefusesSpec Rows.treediffRefusesRow = true := by kernel_rfl
theorem refuses_j4 : jG4 Tryz.prog 5 Tryz.f5 Rows.treediffRefusesSpec Rows.treediffRefusesRow = true := by kernel_rfl
theorem refuses_j5 : jG5 Tryz.prog 5 Tryz.f5 Rows.treediffRefusesSpec Rows.treediffRefusesRow = true := by kernel_rfl
theorem refuses_j6 : jG6 Tryz.prog 5 Tryz.f5 Rows.treediffRefusesSpec Rows.treediffRefusesRow = true := by kernel_rfl
theorem refuses_j7 : jG7 Tryz.prog 5 Tryz.f5 Rows.treediffRefusesSpec Rows.treediffRefusesRow = true := by kernel_rfl
theorem refuses_j8 : jG8 Tryz.prog 5 Tryz.f5 Rows.treediffRefusesSpec Rows.treediffRefusesRow = true := by kernel_rfl
theorem refuses_j : joinedFacts Tryz.prog 5 Tryz.f5 Rows.treediffRefusesSpec Rows.treediffRefusesRow = true := joined_mk jP1 jP2 jP6 jP8 jP24 jP25 refuses_j0 refuses_j1 refuses_j2 refuses_j3 refuses_j4 refuses_j5 refuses_j6 refuses_j7 refuses_j8
theorem refuses_holds : Rows.TreediffRefusesSaid :=
 OpenClaim.holds_of_wide 5 Tryz.f5 rfl rfl rfl rfl rfl rfl rfl ⟨rfl,rfl,rfl,rfl,rfl⟩ rfl rfl rfl rfl rfl (by kernel_rfl) Tryz.func5 refuses_j
  (of_decide_eq_true (by kernel_rfl)) (by unfold Func.isWrapper; first | (rw [if_pos (by decide +kernel)]; kernel_rfl) | (rw [if_neg (by decide +kernel)]; exact ⟨rfl,rfl⟩))
  (fun os started H enc _ => refuses_lifted os started H enc)
end Go.Proofs.YtbenhdgpogiadaaGreat
