/-
 TreediffInverts: the inverse of edits leads back, from what they lead to.
 Conditions: none.
-/
import Derived.Test.YtbenhdgpogiadaaGreatGL
import Derived.Test.YtbenhdgpogiadaaGreatK2
import Derived.Test.YtbenhdgpogiadaaGreatRows
import Derived.Test.YtbenhdgpogiadaaGreatGJf
import Derived.Test.YtbenhdgpogiadaaGreatK5
import Derived.Test.YtbenhdgpogiadaaGreatK3
set_option linter.unusedSimpArgs false
set_option linter.unusedVariables false
/-
 ARGUMENTS OF THE LAWS AS DATA.
-/
namespace Go.Proofs.YtbenhdgpogiadaaGreat
open Go.Aw Go.ChangeShapes Go.WideShapes Go.ChangeAt Go.RowKit
set_option maxRecDepth 100000
theorem own : ownKnob Tryz.prog.godebug = none := by kernel_rfl
theorem laidOut : laidOutB Tryz.prog = true := by kernel_rfl
def shRaw : ASh := .agg [.int .u8,.int .u8,.sl [.int .u8]]
def shK2 : ASh := .agg [.int .u8,.int .u8]
def shK4 : ASh := .agg [.int .u8,.int .u8,.int .u8,.int .u8]
def shB : ASh := .one (.sl [.int .u8])
theorem bytes_of {d : D} (h : Sh.fits (.sl [.int .u8]) d) : ∃ l : List Nat,d = eBytes l ∧ ∀ b ∈ l,b < 256 := by
 obtain ⟨l,rfl,hl⟩ := fits_sl (enc := fun b : Nat => [eU8 b]) (p := fun b => b < 256) (fun e he => by
  obtain ⟨x,rfl,hx⟩ := fitsL_1 he
  obtain ⟨n,rfl,hn⟩ := fits_u8 hx
  exact ⟨n,rfl,hn⟩) h
 exact ⟨l,rfl,hl⟩
theorem jP1 : laidOutB Tryz.prog = true := laidOut
theorem jP2 : mapsRowed Tryz.prog = true := by kernel_rfl
theorem jP6 : (Tryz.prog.stops == []) = true := by kernel_rfl
theorem jP8 : (Tryz.prog.stopKnobs == []) = true := by kernel_rfl
theorem jP24 : Tryz.prog.stopsHeard = true := by kernel_rfl
theorem jP25 : Tryz.prog.mayEnter = true := by kernel_rfl
def shPair : ASh := .agg [.int .u8,.int .u8,.sl [.int .u8],.int .u8,.int .u8,.sl [.int .u8],.sl [.int .u8,.int .u8,.int .u8,.int .u8],.sl [.int .u8,.int .u8,.int .u8,.int .u8]]
def eZ2 (x y : Raw) (l m : List K4) : D := .agg [eU8 x.kind,eU8 x.w,eBytes x.l,eU8 y.kind,eU8 y.w,eBytes y.l,.sl (l.map eK4),.sl (m.map eK4)]
theorem k4s_of {d : D} (h : Sh.fits (.sl [.int .u8,.int .u8,.int .u8,.int .u8]) d) : ∃ l : List K4,d = .sl (l.map eK4) ∧ ∀ k ∈ l,k.ok := by
 obtain ⟨l,rfl,hl⟩ := fits_sl (enc := eK4) (p := K4.ok) (fun e0 h0 => by
  obtain ⟨a,b,c,e,rfl,h1,h2,h3,h4⟩ := fitsL_4 h0
  obtain ⟨a,rfl,ha⟩ := fits_u8 h1
  obtain ⟨b,rfl,hb⟩ := fits_u8 h2
  obtain ⟨c,rfl,hc⟩ := fits_u8 h3
  obtain ⟨e,rfl,he⟩ := fits_u8 h4
  exact ⟨⟨a,b,c,e⟩,rfl,ha,hb,hc,he⟩) h
 exact ⟨l,rfl,hl⟩
theorem pair_of {d : D} (h : shPair.fits d) : ∃ x y l m,d = eZ2 x y l m ∧ x.ok ∧ y.ok ∧ (∀ k ∈ l,k.ok) ∧ ∀ k ∈ m,k.ok := by
 obtain ⟨ds,rfl,h⟩ := h
 simp only [Sh.fitsL] at h
 obtain ⟨a,_,rfl,h1,b,_,rfl,h2,c,_,rfl,h3,a',_,rfl,h4,b',_,rfl,h5,c',_,rfl,h6,l,_,rfl,h7,m,_,rfl,h8,rfl⟩ := h
 obtain ⟨k,rfl,hk⟩ := fits_u8 h1
 obtain ⟨w,rfl,hw⟩ := fits_u8 h2
 obtain ⟨bs,rfl,hbs⟩ := bytes_of h3
 obtain ⟨k',rfl,hk'⟩ := fits_u8 h4
 obtain ⟨w',rfl,hw'⟩ := fits_u8 h5
 obtain ⟨bs',rfl,hbs'⟩ := bytes_of h6
 obtain ⟨l,rfl,hl⟩ := k4s_of h7
 obtain ⟨m,rfl,hm⟩ := k4s_of h8
 exact ⟨⟨k,w,bs⟩,⟨k',w',bs'⟩,l,m,rfl,⟨hk,hw,hbs⟩,⟨hk',hw',hbs'⟩,hl,hm⟩
open Go.Aw
theorem sameF_self (a : List Module) : sameF a a = true := (sameF_iff a a).2 rfl
theorem normal_s (a : List Module) (h : Sm a) : FnP Tryz.prog 24 [.agg [eModules a]] (.d (.agg [eModules (normF a)])) [] := normal_c a h.nok.names h.nok.parts h.nok.len h.nok.items
theorem diff_s (a b : List Module) (h : Sm a) (h' : Sm b) : FnP Tryz.prog 21 [.agg [eModules a],.agg [eModules b]] (.d (.sl ((diffF a b).map eEdit))) [] := diff_c a b h.nok h'.nok (by have := h.diff h'; omega)
open Nat renaming reduceEqDiff → pE,reduceLT → pL,reduceAdd → pA,reduceSub → pS,reduceMul → pM,reduceLeDiff → pD
open Int renaming reduceToNat → qT,reduceGT → qG,reduceLT → qL,reduceGE → qH,reduceBNe → qN,reduceBEq → qB,reduceLE → qE,reduceNe → qO,reduceAdd → qA,reduceNeg → qM
set_option maxHeartbeats 20000000
theorem rsameE_c : ∀ (n : Nat) (a b : Expr),sz a < n → FnP Tryz.prog 124 [.agg (eExpr a),.agg (eExpr b)] (.d (eB (sameE a b))) []
 | 0,_,_,h => by omega
 | n + 1,.mk o m k w a,.mk o' m' k' w' a',hn => by
  refine FnP.of_eC (own := []) (fun i => if i = 2001 then [.chn] else []) mixed Tryz.func124 rfl Tryz.call124 Tryz.ntmps124 (Nat.le_of_ble_eq_true rfl) Tryz.results124 (fun hok => ?_)
  have hla : a.length ≤ 9223372036854775807 := expr_lens (.mk o m k w a) (okL_cons hok).1
  have hs : (a.map sz).sum < n := by rw [sz_mk] at hn; omega
  have ec : ∀ i (h : i < a.length) (h' : i < a'.length),FnP Tryz.prog 124 [.agg (eExpr a[i]),.agg (eExpr a'[i])] (.d (eB (sameE a[i] a'[i]))) [] := fun i h h' => rsameE_c n a[i] a'[i] (by have := sum_mem (List.getElem_mem h); omega)
  have hS : sameE (.mk o m k w a) (.mk o' m' k' w' a') = ((o == o' && decide (m = m') && decide (k = k') && decide (w = w')) && sameEL a a') := by rw [sameE]
  rw [hS,← eqL_E]
  have k1 := key_num k k'
  have k2 := key_num w w'
  obtain ⟨c,hc⟩ : ∃ c,(o == o' && decide (m = m') && decide (k = k') && decide (w = w')) = c := ⟨_,rfl⟩
  have hg : ((((o != o' || !decide (m = m')) || !decide (k = k')) || !decide (w = w')) || ((a.length : Int) != (a'.length : Int))) = !(c && ((a.length : Int) == (a'.length : Int))) := by
   rw [← hc]
   simp only [bne,Bool.not_and]
  rw [hc]
  rcases Bool.eq_false_or_eq_true (c && ((a.length : Int) == (a'.length : Int))) with hcl | hcl
  ·rw [hcl] at hg
   obtain ⟨hc1,hab'⟩ := Bool.and_eq_true_iff.1 hcl
   have hab : a.length = a'.length := by have := beq_iff_eq.1 hab'; omega
   rw [hc1,Bool.true_and]
   simp (maxSteps := 4000000) only [ZE,↓reduceIte,pE,pL,pA,pS,pM,pD,op_mk,name_mk,k_mk,w_mk,args_mk,k1,k2,hg,List.length_map]
   refine eloop (fun _ => []) mixed a.length (fun i => ∀ j (h : j < a.length) (h' : j < a'.length),j < i → sameE a[j] a'[j] = true) (fun i => ([(2,.bp 2 0),(3,.bp 3 0),(5,.d (eI i))],[(2,.box ((eExpr (.mk o m k w a)).map .d)),(3,.box ((eExpr (.mk o' m' k' w' a')).map .d))])) (by intro j _ _ h; omega) (by simp only [ZE,↓reduceIte,pE,pL,pA,pS,pM,pD]) (by simp only [ZE,↓reduceIte,pE,pL,pA,pS,pM,pD,op_mk,name_mk,k_mk,w_mk,args_mk]) (fun i hi hI => ?_)
   rcases Nat.lt_or_ge i a.length with h | h
   ·have hw := wrap_succ (show i < 9223372036854775807 by omega)
    have h' : i < a'.length := by omega
    have hc := ec i h h'
    obtain ⟨q,hq⟩ : ∃ q,sameE a[i] a'[i] = q := ⟨_,rfl⟩
    rw [hq] at hc
    simp only [ZE,↓reduceIte,pE,pL,pA,pS,pM,pD] at hc
    simp (maxSteps := 4000000) only [ZE,↓reduceIte,pE,pL,pA,pS,pM,pD,dec_lt h,getD_map h,lt_int h,getD_map h',lt_int h',hw,zN,qT,qG,qL,qH,qN,qB,qE,qO,qA,qM,List.length_map,op_mk,name_mk,k_mk,w_mk,args_mk]
    refine ⟨by kernel_rfl,ECall'.i hc ?_⟩
    cases q with
    | true =>
     simp only [ZE,↓reduceIte,pE,pL,pA,pS,pM,pD,zN,qT,qG,qL,qH,qN,qB,qE,qO,qA,qM,hw]
     refine ⟨h,fun j h1 h2 hj => ?_⟩
     rcases Nat.lt_succ_iff_lt_or_eq.1 hj with hj | rfl
     ·exact hI j h1 h2 hj
     ·exact hq
    | false =>
     have e := eqL_bad h h' hq
     simp only [ZE,↓reduceIte,pE,pL,pA,pS,pM,pD,zN,qT,qG,qL,qH,qN,qB,qE,qO,qA,qM,e]
   ·have : i = a.length := by omega
    subst this
    have e := eqL_good hab (fun i h1 h2 => hI i h1 h2 h1)
    simp (maxSteps := 4000000) only [ZE,↓reduceIte,pE,pL,pA,pS,pM,pD,dec_ge h,zN,qT,qG,qL,qH,qN,qB,qE,qO,qA,qM,e,List.length_map,op_mk,name_mk,k_mk,w_mk,args_mk]
  ·rw [hcl] at hg
   have e : (c && eqL sameE a a') = false := by
    cases c with
    | false => rfl
    | true =>
     rw [Bool.true_and] at hcl ⊢
     exact eqL_len (fun e => by rw [e] at hcl; simp at hcl)
   rw [e]
   simp (maxSteps := 4000000) only [ZE,↓reduceIte,pE,pL,pA,pS,pM,pD,op_mk,name_mk,k_mk,w_mk,args_mk,k1,k2,hg,List.length_map]
set_option maxHeartbeats 40000000
theorem rsameH_c (m n : Module) : FnP Tryz.prog 74 [.agg (eModule m),.agg (eModule n)] (.d (eB (sameH m n))) [] := by
 refine FnP.of_eC (own := []) (fun i => if i = 2001 then [.chn] else []) mixed Tryz.func74 rfl Tryz.call74 Tryz.ntmps74 (Nat.le_of_ble_eq_true rfl) Tryz.results74 (fun hok => ?_)
 have hla : m.params.length ≤ 9223372036854775807 := by
  have := (okL_cons hok).1
  simp only [eModule,eStrs,D.ok,D.okL] at this
  exact (ok_map this.2.2.1).1
 have hS : sameH m n = ((decide (m.name = n.name) && decide (m.clock = n.clock)) && eqL (fun x y : Str => decide (x = y)) m.params n.params) := by unfold sameH; rw [eqL_dec]
 rw [hS]
 obtain ⟨c,hc⟩ : ∃ c,(decide (m.name = n.name) && decide (m.clock = n.clock)) = c := ⟨_,rfl⟩
 have hg : ((!decide (m.name = n.name) || !decide (m.clock = n.clock)) || ((m.params.length : Int) != (n.params.length : Int))) = !(c && ((m.params.length : Int) == (n.params.length : Int))) := by
  rw [← hc]
  simp only [bne,Bool.not_and]
 rw [hc]
 rcases Bool.eq_false_or_eq_true (c && ((m.params.length : Int) == (n.params.length : Int))) with hcl | hcl
 ·rw [hcl] at hg
  obtain ⟨hc1,hab'⟩ := Bool.and_eq_true_iff.1 hcl
  have hab : m.params.length = n.params.length := by have := beq_iff_eq.1 hab'; omega
  rw [hc1,Bool.true_and]
  simp (maxSteps := 4000000) only [ZE,↓reduceIte,pE,pL,pA,pS,pM,pD,hg,List.length_map]
  refine eloop (fun _ => []) mixed m.params.length (fun i => ∀ j (h : j < m.params.length) (h' : j < n.params.length),j < i → decide (m.params[j] = n.params[j]) = true) (fun i => ([(2,.bp 2 0),(3,.bp 3 0),(5,.d (eI i))],[(2,.box ((eModule m).map .d)),(3,.box ((eModule n).map .d))])) (by intro j _ _ h; omega) (by simp only [ZE,↓reduceIte,pE,pL,pA,pS,pM,pD]) (by simp only [ZE,↓reduceIte,pE,pL,pA,pS,pM,pD]) (fun i hi hI => ?_)
  rcases Nat.lt_or_ge i m.params.length with h | h
  ·have hw := wrap_succ (show i < 9223372036854775807 by omega)
   have h' : i < n.params.length := by omega
   obtain ⟨q,hq⟩ : ∃ q,decide (m.params[i] = n.params[i]) = q := ⟨_,rfl⟩
   simp (maxSteps := 4000000) only [ZE,↓reduceIte,pE,pL,pA,pS,pM,pD,dec_lt h,getD_map h,lt_int h,getD_map h',lt_int h',hw,zN,qT,qG,qL,qH,qN,qB,qE,qO,qA,qM,List.length_map,hq]
   refine ⟨by kernel_rfl,?_⟩
   cases q with
   | true =>
    simp only [ZE,↓reduceIte,pE,pL,pA,pS,pM,pD]
    refine ⟨h,fun j h1 h2 hj => ?_⟩
    rcases Nat.lt_succ_iff_lt_or_eq.1 hj with hj | rfl
    ·exact hI j h1 h2 hj
    ·exact hq
   | false =>
    have e := eqL_bad (p := fun x y : Str => decide (x = y)) h h' hq
    simp only [ZE,↓reduceIte,pE,pL,pA,pS,pM,pD,e]
  ·have : i = m.params.length := by omega
   subst this
   have e := eqL_good (p := fun x y : Str => decide (x = y)) hab (fun i h1 h2 => hI i h1 h2 h1)
   simp (maxSteps := 4000000) only [ZE,↓reduceIte,pE,pL,pA,pS,pM,pD,dec_ge h,zN,qT,qG,qL,qH,qN,qB,qE,qO,qA,qM,e,List.length_map]
 ·rw [hcl] at hg
  have e : (c && eqL (fun x y : Str => decide (x = y)) m.params n.params) = false := by
   cases c with
   | false => rfl
   | true =>
    rw [Bool.true_and] at hcl ⊢
    exact eqL_len (fun e => by rw [e] at hcl; simp at hcl)
  rw [e]
  simp (maxSteps := 4000000) only [ZE,↓reduceIte,pE,pL,pA,pS,pM,pD,hg,List.length_map]
def headB (x y : Item) : Bool := x.kind.1 == y.kind.1 && decide (x.name = y.name) && decide (x.width = y.width) && decide (x.depth = y.depth) && decide (x.init = y.init) && decide (x.rule = y.rule) && decide (x.of = y.of)
theorem sameI_head (x y : Item) : sameI x y = (headB x y && (eqL (fun a b : Num => decide (a = b)) x.args y.args && eqL (fun a b : Bind => decide (a = b)) x.ports y.ports && (sameE x.a y.a && sameE x.b y.b && sameE x.c y.c))) := by
 unfold sameI headB
 rw [eqL_dec,eqL_dec,← part_key]
 simp only [Bool.and_assoc]
theorem rsameI_c (x y : Item) : FnP Tryz.prog 71 [.agg (eItem x),.agg (eItem y)] (.d (eB (sameI x y))) [] := by
 refine FnP.of_eC (own := []) (fun i => if i = 2001 then [.chn] else if i = 2013 then [.chn] else []) mixed Tryz.func71 rfl Tryz.call71 Tryz.ntmps71 (Nat.le_of_ble_eq_true rfl) Tryz.results71 (fun hok => ?_)
 have hl : x.args.length ≤ 9223372036854775807 ∧ x.ports.length ≤ 9223372036854775807 := by
  have := (okL_cons hok).1
  simp only [eItem,eNum,eExpr_eq,eRule,eNums,eBinds,List.cons_append,List.nil_append,D.ok,D.okL] at this
  obtain ⟨_,_,_,_,_,_,_,_,_,_,_,_,_,_,_,_,_,_,_,_,_,_,_,_,_,_,_,_,_,_,_,_,_,h1,h2,_⟩ := this
  exact ⟨(ok_map h1).1,(ok_map h2).1⟩
 have c5 := rsameE_c _ x.a y.a (Nat.lt_succ_self _)
 have c6 := rsameE_c _ x.b y.b (Nat.lt_succ_self _)
 have c7 := rsameE_c _ x.c y.c (Nat.lt_succ_self _)
 have k1 := key_num x.width y.width
 have k2 := key_num x.depth y.depth
 have k3 := key_num x.init y.init
 have k4 : (x.rule.kind == y.rule.kind && (decide (x.rule.from' = y.rule.from') && x.rule.n == y.rule.n)) = decide (x.rule = y.rule) := by
  rw [← Bool.and_assoc]; exact key_rule x.rule y.rule
 rw [sameI_head]
 obtain ⟨c,hc⟩ : ∃ c,headB x y = c := ⟨_,rfl⟩
 rw [hc]
 simp only [ZE,↓reduceIte,pE,pL,pA,pS,pM,pD] at c5 c6 c7
 simp (maxSteps := 4000000) only [ZE,↓reduceIte,pE,pL,pA,pS,pM,pD,zN,qT,qG,qL,qH,qN,qB,qE,qO,qA,qM,k1,k2,k3,k4,List.length_map,List.append_eq]
 have hb : (x.kind.1 != y.kind.1 || !decide (x.name = y.name) || !decide (x.width = y.width) || !decide (x.depth = y.depth) || !decide (x.init = y.init) || !decide (x.rule = y.rule) || !decide (x.of = y.of)) = !c := by
  rw [← hc]; unfold headB; simp only [bne,Bool.not_and]
 refine iteI (fun h3 => ?_) (fun h3 => ?_)
 ·have e : (c && (eqL (fun a b : Num => decide (a = b)) x.args y.args && eqL (fun a b : Bind => decide (a = b)) x.ports y.ports && (sameE x.a y.a && sameE x.b y.b && sameE x.c y.c))) = false := by
   rw [hb] at h3
   cases c with
   | false => rfl
   | true =>
    simp only [Bool.not_true,Bool.false_or,Bool.or_eq_true] at h3
    rcases h3 with h3 | h3
    ·rw [eqL_len (a := x.args) (b := y.args) (fun e => by rw [e] at h3; simp at h3)]; rfl
    ·rw [eqL_len (a := x.ports) (b := y.ports) (fun e => by rw [e] at h3; simp at h3)]; simp
  rw [e]
 ·rw [hb] at h3
  simp only [Bool.or_eq_false_iff,Bool.not_eq_false',bne_eq_false_iff_eq] at h3
  obtain ⟨⟨hc1,ha⟩,hp⟩ := h3
  have hab : x.args.length = y.args.length := by omega
  have hpb : x.ports.length = y.ports.length := by omega
  rw [hc1,Bool.true_and]
  refine eloop (fun _ => []) mixed x.args.length (fun i => ∀ j (h : j < x.args.length) (h' : j < y.args.length),j < i → decide (x.args[j] = y.args[j]) = true) (fun i => ([(2,.bp 2 0),(3,.bp 3 0),(5,.d (eI i))],[(2,.box ((eItem x).map .d)),(3,.box ((eItem y).map .d))])) (by intro j _ _ h; omega) (by simp only [ZE,↓reduceIte,pE,pL,pA,pS,pM,pD]) (by simp only [ZE,↓reduceIte,pE,pL,pA,pS,pM,pD]) (fun i hi hI => ?_)
  rcases Nat.lt_or_ge i x.args.length with h | h
  ·have hw := wrap_succ (show i < 9223372036854775807 by omega)
   have h' : i < y.args.length := by omega
   have key := key_num x.args[i] y.args[i]
   obtain ⟨q,hq⟩ : ∃ q,decide (x.args[i] = y.args[i]) = q := ⟨_,rfl⟩
   rw [hq] at key
   simp (maxSteps := 4000000) only [ZE,↓reduceIte,pE,pL,pA,pS,pM,pD,dec_lt h,getD_map h,lt_int h,getD_map h',lt_int h',hw,zN,qT,qG,qL,qH,qN,qB,qE,qO,qA,qM,List.length_map,key]
   refine ⟨by kernel_rfl,?_⟩
   cases q with
   | true =>
    simp only [ZE,↓reduceIte,pE,pL,pA,pS,pM,pD]
    refine ⟨h,fun j h1 h2 hj => ?_⟩
    rcases Nat.lt_succ_iff_lt_or_eq.1 hj with hj | rfl
    ·exact hI j h1 h2 hj
    ·exact hq
   | false =>
    have e := eqL_bad (p := fun x y : Num => decide (x = y)) h h' hq
    simp only [ZE,↓reduceIte,pE,pL,pA,pS,pM,pD,e,Bool.false_and,Bool.and_false]
  have hi2 : i = x.args.length := by omega
  subst hi2
  have e1 := eqL_good (p := fun x y : Num => decide (x = y)) hab (fun i h1 h2 => hI i h1 h2 h1)
  rw [e1,Bool.true_and]
  simp (maxSteps := 4000000) only [ZE,↓reduceIte,pE,pL,pA,pS,pM,pD,dec_ge h,zN,qT,qG,qL,qH,qN,qB,qE,qO,qA,qM,List.length_map]
  refine eloop (fun _ => []) mixed x.ports.length (fun i => ∀ j (h : j < x.ports.length) (h' : j < y.ports.length),j < i → decide (x.ports[j] = y.ports[j]) = true) (fun i => ([(2,.bp 2 0),(3,.bp 3 0),(6,.d (eI i))],[(2,.box ((eItem x).map .d)),(3,.box ((eItem y).map .d))])) (by intro j _ _ h; omega) (by simp only [ZE,↓reduceIte,pE,pL,pA,pS,pM,pD]) (by simp only [ZE,↓reduceIte,pE,pL,pA,pS,pM,pD]) (fun i hi hI => ?_)
  rcases Nat.lt_or_ge i x.ports.length with h | h
  ·have hw := wrap_succ (show i < 9223372036854775807 by omega)
   have h' : i < y.ports.length := by omega
   have key := key_bind x.ports[i] y.ports[i]
   obtain ⟨q,hq⟩ : ∃ q,decide (x.ports[i] = y.ports[i]) = q := ⟨_,rfl⟩
   rw [hq] at key
   simp (maxSteps := 4000000) only [ZE,↓reduceIte,pE,pL,pA,pS,pM,pD,dec_lt h,getD_map h,lt_int h,getD_map h',lt_int h',hw,zN,qT,qG,qL,qH,qN,qB,qE,qO,qA,qM,List.length_map,key]
   refine ⟨by kernel_rfl,?_⟩
   cases q with
   | true =>
    simp only [ZE,↓reduceIte,pE,pL,pA,pS,pM,pD]
    refine ⟨h,fun j h1 h2 hj => ?_⟩
    rcases Nat.lt_succ_iff_lt_or_eq.1 hj with hj | rfl
    ·exact hI j h1 h2 hj
    ·exact hq
   | false =>
    have e := eqL_bad (p := fun x y : Bind => decide (x = y)) h h' hq
    simp only [ZE,↓reduceIte,pE,pL,pA,pS,pM,pD,e,Bool.false_and,Bool.and_false]
  have hi3 : i = x.ports.length := by omega
  subst hi3
  have e2 := eqL_good (p := fun x y : Bind => decide (x = y)) hpb (fun i h1 h2 => hI i h1 h2 h1)
  rw [e2,Bool.true_and]
  simp (maxSteps := 4000000) only [ZE,↓reduceIte,pE,pL,pA,pS,pM,pD,dec_ge h,zN,qT,qG,qL,qH,qN,qB,qE,qO,qA,qM,List.length_map]
  refine EFn.p ?_
  simp only [ZE,↓reduceIte,pE,pL,pA,pS,pM,pD,zN,qT,qG,qL,qH,qN,qB,qE,qO,qA,qM]
  refine ECall.i c5 ?_
  simp only [ZE,↓reduceIte,pE,pL,pA,pS,pM,pD,zN,qT,qG,qL,qH,qN,qB,qE,qO,qA,qM]
  refine ECallC.i (fun _ => c6) ?_
  simp only [ZE,↓reduceIte,pE,pL,pA,pS,pM,pD,zN,qT,qG,qL,qH,qN,qB,qE,qO,qA,qM]
  refine ECallC.i (fun _ => c7) ?_
  simp only [ZE,↓reduceIte,pE,pL,pA,pS,pM,pD,zN,qT,qG,qL,qH,qN,qB,qE,qO,qA,qM]
theorem rsameM_c (m n : Module) : FnP Tryz.prog 64 [.agg (eModule m),.agg (eModule n)] (.d (eB (sameM m n))) [] := by
 refine FnP.of_eC (own := []) (fun i => if i = 2001 then [.chn] else []) mixed Tryz.func64 rfl Tryz.call64 Tryz.ntmps64 (Nat.le_of_ble_eq_true rfl) Tryz.results64 (fun hok => ?_)
 have hla : m.items.length ≤ 9223372036854775807 := by
  have := (okL_cons hok).1
  simp only [eModule,eItems,D.ok,D.okL] at this
  exact (ok_map this.2.2.2.1).1
 have hc := rsameH_c m n
 have ec : ∀ i (h : i < m.items.length) (h' : i < n.items.length),FnP Tryz.prog 71 [.agg (eItem m.items[i]),.agg (eItem n.items[i])] (.d (eB (sameI m.items[i] n.items[i]))) [] := fun i h h' => rsameI_c _ _
 have hS : sameM m n = (sameH m n && eqL sameI m.items n.items) := by unfold sameM; rw [eqL_I]
 rw [hS]
 obtain ⟨c,hcc⟩ : ∃ c,sameH m n = c := ⟨_,rfl⟩
 rw [hcc] at hc ⊢
 simp only [ZE,↓reduceIte,pE,pL,pA,pS,pM,pD] at hc
 have hg : (!c || ((m.items.length : Int) != (n.items.length : Int))) = !(c && ((m.items.length : Int) == (n.items.length : Int))) := by
  simp only [bne,Bool.not_and]
 rcases Bool.eq_false_or_eq_true (c && ((m.items.length : Int) == (n.items.length : Int))) with hcl | hcl
 ·rw [hcl] at hg
  obtain ⟨hc1,hab'⟩ := Bool.and_eq_true_iff.1 hcl
  have hab : m.items.length = n.items.length := by have := beq_iff_eq.1 hab'; omega
  subst hc1
  have hn : ((m.items.length : Int) != (n.items.length : Int)) = false := by rw [hab]; simp
  rw [Bool.true_and]
  simp (maxSteps := 4000000) only [ZE,↓reduceIte,pE,pL,pA,pS,pM,pD,zN,qT,qG,qL,qH,qN,qB,qE,qO,qA,qM]
  refine EFn.p ?_
  simp only [ZE,↓reduceIte,pE,pL,pA,pS,pM,pD,zN,qT,qG,qL,qH,qN,qB,qE,qO,qA,qM]
  refine ECall.i hc ?_
  simp only [ZE,↓reduceIte,pE,pL,pA,pS,pM,pD,zN,qT,qG,qL,qH,qN,qB,qE,qO,qA,qM,hn,List.length_map]
  refine eloop (fun _ => []) mixed m.items.length (fun i => ∀ j (h : j < m.items.length) (h' : j < n.items.length),j < i → sameI m.items[j] n.items[j] = true) (fun i => ([(2,.bp 2 0),(3,.bp 3 0),(5,.d (eI i))],[(2,.box ((eModule m).map .d)),(3,.box ((eModule n).map .d))])) (by intro j _ _ h; omega) (by simp only [ZE,↓reduceIte,pE,pL,pA,pS,pM,pD]) (by simp only [ZE,↓reduceIte,pE,pL,pA,pS,pM,pD]) (fun i hi hI => ?_)
  rcases Nat.lt_or_ge i m.items.length with h | h
  ·have hw := wrap_succ (show i < 9223372036854775807 by omega)
   have h' : i < n.items.length := by omega
   have hc := ec i h h'
   obtain ⟨q,hq⟩ : ∃ q,sameI m.items[i] n.items[i] = q := ⟨_,rfl⟩
   rw [hq] at hc
   simp only [ZE,↓reduceIte,pE,pL,pA,pS,pM,pD] at hc
   simp (maxSteps := 4000000) only [ZE,↓reduceIte,pE,pL,pA,pS,pM,pD,dec_lt h,getD_map h,lt_int h,getD_map h',lt_int h',hw,zN,qT,qG,qL,qH,qN,qB,qE,qO,qA,qM,List.length_map,Nat.zero_add]
   refine ⟨by kernel_rfl,ECall'.i hc ?_⟩
   cases q with
   | true =>
    simp only [ZE,↓reduceIte,pE,pL,pA,pS,pM,pD,zN,qT,qG,qL,qH,qN,qB,qE,qO,qA,qM,hw]
    refine ⟨h,fun j h1 h2 hj => ?_⟩
    rcases Nat.lt_succ_iff_lt_or_eq.1 hj with hj | rfl
    ·exact hI j h1 h2 hj
    ·exact hq
   | false =>
    have e := eqL_bad h h' hq
    simp only [ZE,↓reduceIte,pE,pL,pA,pS,pM,pD,zN,qT,qG,qL,qH,qN,qB,qE,qO,qA,qM,e]
  ·have : i = m.items.length := by omega
   subst this
   have e := eqL_good hab (fun i h1 h2 => hI i h1 h2 h1)
   simp (maxSteps := 4000000) only [ZE,↓reduceIte,pE,pL,pA,pS,pM,pD,dec_ge h,zN,qT,qG,qL,qH,qN,qB,qE,qO,qA,qM,e,List.length_map,Nat.zero_add]
 ·rw [hcl] at hg
  have e : (c && eqL sameI m.items n.items) = false := by
   cases c with
   | false => rfl
   | true =>
    rw [Bool.true_and] at hcl ⊢
    exact eqL_len (fun e => by rw [e] at hcl; simp at hcl)
  rw [e]
  simp (maxSteps := 4000000) only [ZE,↓reduceIte,pE,pL,pA,pS,pM,pD,zN,qT,qG,qL,qH,qN,qB,qE,qO,qA,qM]
  refine EFn.p ?_
  simp only [ZE,↓reduceIte,pE,pL,pA,pS,pM,pD,zN,qT,qG,qL,qH,qN,qB,qE,qO,qA,qM]
  refine ECall.i hc ?_
  simp only [ZE,↓reduceIte,pE,pL,pA,pS,pM,pD,zN,qT,qG,qL,qH,qN,qB,qE,qO,qA,qM,hg,List.length_map]
def sameD (a b : Edit) : Bool := decide (a.module = b.module) && (decide (a.part = b.part) && ((a.has == b.has) && (sameI a.to b.to && sameM a.head b.head)))
theorem sameD_self (a : Edit) : sameD a a = true := by
 unfold sameD
 rw [sameI_self,(sameM_iff _ _).2 rfl]
 simp
def sameDs : List Edit → List Edit → Bool := eqL sameD
theorem sameDs_self (l : List Edit) : sameDs l l = true := eqL_good rfl (fun i _ _ => sameD_self _)
theorem redits_c (a b : List Edit) (hla : a.length ≤ 9223372036854775807) : FnP Tryz.prog 22 [.sl (a.map eEdit),.sl (b.map eEdit)] (.d (eB (sameDs a b))) [] := by
 refine FnP.of_eC (own := []) (fun _ => []) mixed Tryz.func22 rfl Tryz.call22 Tryz.ntmps22 (Nat.le_of_ble_eq_true rfl) Tryz.results22 (fun hok => ?_)
 unfold sameDs
 by_cases hab : a.length = b.length
 ·have h0 : ((a.length : Int) != (b.length : Int)) = false := by simp [hab]
  simp (maxSteps := 4000000) only [ZE,↓reduceIte,pE,pL,pA,pS,pM,pD,zN,qT,qG,qL,qH,qN,qB,qE,qO,qA,qM,h0,List.length_map]
  refine eloop (fun _ => []) mixed a.length (fun i => ∀ j (h : j < a.length) (h' : j < b.length),j < i → sameD a[j] b[j] = true) (fun i => ([(0,.d (.sl (a.map eEdit))),(1,.d (.sl (b.map eEdit))),(5,.d (eI i))],[])) (by intro j _ _ h; omega) (by simp only [ZE,↓reduceIte,pE,pL,pA,pS,pM,pD]) (by simp only [ZE,↓reduceIte,pE,pL,pA,pS,pM,pD]) (fun i hi hI => ?_)
  rcases Nat.lt_or_ge i a.length with h | h
  ·have hw := wrap_succ (show i < 9223372036854775807 by omega)
   have h' : i < b.length := by omega
   obtain ⟨x,hx⟩ : ∃ x,a[i] = x := ⟨_,rfl⟩
   obtain ⟨y,hy⟩ : ∃ y,b[i] = y := ⟨_,rfl⟩
   have bad : sameD x y = false → eqL sameD a b = false := fun e => eqL_bad h h' (by rw [hx,hy]; exact e)
   have ic := rsameI_c x.to y.to
   have mc := rsameM_c x.head y.head
   have p2 := part_eq x.part y.part
   obtain ⟨b1,e1⟩ : ∃ b1,decide (x.module = y.module) = b1 := ⟨_,rfl⟩
   obtain ⟨b2,e2⟩ : ∃ b2,decide (x.part = y.part) = b2 := ⟨_,rfl⟩
   obtain ⟨b3,e3⟩ : ∃ b3,(x.has == y.has) = b3 := ⟨_,rfl⟩
   obtain ⟨b4,e4⟩ : ∃ b4,sameI x.to y.to = b4 := ⟨_,rfl⟩
   obtain ⟨b5,e5⟩ : ∃ b5,sameM x.head y.head = b5 := ⟨_,rfl⟩
   have hD : sameD x y = (b1 && (b2 && (b3 && (b4 && b5)))) := by unfold sameD; rw [e1,e2,e3,e4,e5]
   rw [e2] at p2
   rw [e4] at ic
   rw [e5] at mc
   have n3 : (x.has != y.has) = !b3 := by rw [← e3]; rfl
   simp only [ZE,↓reduceIte,pE,pL,pA,pS,pM,pD] at ic mc
   cases b1 with
   | false =>
    have e := bad (by rw [hD]; rfl)
    simp (maxSteps := 4000000) only [ZE,↓reduceIte,pE,pL,pA,pS,pM,pD,dec_lt h,getD_map h,lt_int h,getD_map h',lt_int h',hx,hy,hw,zN,qT,qG,qL,qH,qN,qB,qE,qO,qA,qM,List.length_map,List.append_eq,eEdit,ePart,e1,e]
    show (_ : Bool) = true
    kernel_rfl
   | true =>
    cases b2 with
    | false =>
     have e := bad (by rw [hD]; rfl)
     simp (maxSteps := 4000000) only [ZE,↓reduceIte,pE,pL,pA,pS,pM,pD,dec_lt h,getD_map h,lt_int h,getD_map h',lt_int h',hx,hy,hw,zN,qT,qG,qL,qH,qN,qB,qE,qO,qA,qM,List.length_map,List.append_eq,eEdit,ePart,e1,p2,e]
     show (_ : Bool) = true
     kernel_rfl
    | true =>
     cases b3 with
     | false =>
      have e := bad (by rw [hD]; rfl)
      simp (maxSteps := 4000000) only [ZE,↓reduceIte,pE,pL,pA,pS,pM,pD,dec_lt h,getD_map h,lt_int h,getD_map h',lt_int h',hx,hy,hw,zN,qT,qG,qL,qH,qN,qB,qE,qO,qA,qM,List.length_map,List.append_eq,eEdit,ePart,e1,p2,n3,e3,e]
      show (_ : Bool) = true
      kernel_rfl
     | true =>
      cases b4 with
      | false =>
       have e := bad (by rw [hD]; rfl)
       simp (maxSteps := 4000000) only [ZE,↓reduceIte,pE,pL,pA,pS,pM,pD,dec_lt h,getD_map h,lt_int h,getD_map h',lt_int h',hx,hy,hw,zN,qT,qG,qL,qH,qN,qB,qE,qO,qA,qM,List.length_map,List.append_eq,eEdit,ePart,e1,p2,n3,e3]
       refine ⟨by kernel_rfl,ECall'.i ic ?_⟩
       simp only [ZE,↓reduceIte,pE,pL,pA,pS,pM,pD,zN,qT,qG,qL,qH,qN,qB,qE,qO,qA,qM,e]
      | true =>
       simp (maxSteps := 4000000) only [ZE,↓reduceIte,pE,pL,pA,pS,pM,pD,dec_lt h,getD_map h,lt_int h,getD_map h',lt_int h',hx,hy,hw,zN,qT,qG,qL,qH,qN,qB,qE,qO,qA,qM,List.length_map,List.append_eq,eEdit,ePart,e1,p2,n3,e3]
       refine ⟨by kernel_rfl,ECall'.i ic ?_⟩
       simp only [ZE,↓reduceIte,pE,pL,pA,pS,pM,pD,zN,qT,qG,qL,qH,qN,qB,qE,qO,qA,qM,dec_lt h,getD_map h,lt_int h,getD_map h',lt_int h',hx,hy,List.length_map,eEdit,ePart]
       refine ECall'.i mc ?_
       cases b5 with
       | false =>
        have e := bad (by rw [hD]; rfl)
        simp only [ZE,↓reduceIte,pE,pL,pA,pS,pM,pD,zN,qT,qG,qL,qH,qN,qB,qE,qO,qA,qM,e]
       | true =>
        simp only [ZE,↓reduceIte,pE,pL,pA,pS,pM,pD,zN,qT,qG,qL,qH,qN,qB,qE,qO,qA,qM,hw]
        refine ⟨h,fun j h1 h2 hj => ?_⟩
        rcases Nat.lt_succ_iff_lt_or_eq.1 hj with hj | rfl
        ·exact hI j h1 h2 hj
        ·rw [hx,hy,hD]; rfl
  ·have : i = a.length := by omega
   subst this
   have e := eqL_good hab (fun i h1 h2 => hI i h1 h2 h1)
   simp (maxSteps := 4000000) only [ZE,↓reduceIte,pE,pL,pA,pS,pM,pD,dec_ge h,zN,qT,qG,qL,qH,qN,qB,qE,qO,qA,qM,e,List.length_map]
 ·have h0 : ((a.length : Int) != (b.length : Int)) = true := by simp; omega
  have e := eqL_len (p := sameD) hab
  simp (maxSteps := 4000000) only [ZE,↓reduceIte,pE,pL,pA,pS,pM,pD,zN,qT,qG,qL,qH,qN,qB,qE,qO,qA,qM,h0,e,List.length_map]
theorem inverts_c (x y : Raw) (hx : x.ok) (hy : y.ok) (l m : List K4) (hl : ∀ k ∈ l,k.ok) (hm : ∀ k ∈ m,k.ok) : FnP Tryz.prog 4 [eZ2 x y l m] (.d (eB true)) [] := by
 refine FnP.of_eC (own := []) (fun i => if i = 2004 then [.flt ⟨[(0,none),(1,none),(2,none),(3,none),(4,none),(5,none),(6,none),(7,none),(8,none),(9,none),(12,some []),(13,some [])]⟩ ⟨[10,11],[(12,[10]),(13,[11])]⟩] else if i = 2011 then [.ord ⟨[(0,none),(1,none),(2,none),(3,none),(4,none),(5,none),(6,none),(7,none),(8,none),(9,none),(10,none),(11,none),(12,none),(13,none),(14,none),(15,none),(16,none),(17,none),(18,none),(19,none),(20,none),(21,none),(22,none),(23,none),(24,none)]⟩] else []) mixed Tryz.func4 rfl Tryz.call4 Tryz.ntmps4 (Nat.le_of_ble_eq_true rfl) Tryz.results4 (fun hok => ?_)
 have s1 := spoiled_c x hx l hl
 have s2 := spoiled_c y hy m hm
 have sma := sm_spoiled x l
 have smb := sm_spoiled y m
 obtain ⟨a,ha⟩ : ∃ a,spoiled x l = a := ⟨_,rfl⟩
 obtain ⟨b,hb⟩ : ∃ b,spoiled y m = b := ⟨_,rfl⟩
 rw [ha] at s1 sma
 rw [hb] at s2 smb
 have dc := diff_s a b sma smb
 have hE := sma.diff smb
 obtain ⟨r,r1,r2,r3,r4⟩ := inverts_law sma.part smb.part
 obtain ⟨E,hEE⟩ : ∃ E,diffF a b = E := ⟨_,rfl⟩
 rw [hEE] at dc hE r1 r2 r4
 have vc := inverted_c a sma E (by omega)
 rw [r1] at vc
 have ac := applied_c b smb r (by omega)
 rw [r3] at ac
 have vb := inverted_c b smb r (by omega)
 rw [r4] at vb
 have na := normal_s a sma
 have sa := same_c (normF a) (normF a)
 rw [sameF_self] at sa
 have se := redits_c E E (by omega)
 rw [sameDs_self] at se
 simp only [appD,invD] at ac vc vb
 simp (maxSteps := 4000000) only [ZE,↓reduceIte,pE,pL,pA,pS,pM,pD,eRaw] at s1 s2
 simp (maxSteps := 4000000) only [ZE,↓reduceIte,pE,pL,pA,pS,pM,pD] at dc vc ac vb na sa se
 simp (maxSteps := 4000000) only [ZE,↓reduceIte,pE,pL,pA,pS,pM,pD,zN,qT,qG,qL,qH,qN,qB,qE,qO,qA,qM,eZ2]
 refine EFn.p ?_
 simp (maxSteps := 4000000) only [ZE,↓reduceIte,pE,pL,pA,pS,pM,pD,zN,qT,qG,qL,qH,qN,qB,qE,qO,qA,qM]
 refine ECall.i examples_c ?_
 simp (maxSteps := 4000000) only [ZE,↓reduceIte,pE,pL,pA,pS,pM,pD,zN,qT,qG,qL,qH,qN,qB,qE,qO,qA,qM]
 refine ⟨by kernel_rfl,ECall'.i s1 ?_⟩
 simp (maxSteps := 4000000) only [ZE,↓reduceIte,pE,pL,pA,pS,pM,pD,zN,qT,qG,qL,qH,qN,qB,qE,qO,qA,qM]
 refine ECall'.i s2 ?_
 simp (maxSteps := 4000000) only [ZE,↓reduceIte,pE,pL,pA,pS,pM,pD,zN,qT,qG,qL,qH,qN,qB,qE,qO,qA,qM]
 refine EFn.p ?_
 simp (maxSteps := 4000000) only [ZE,↓reduceIte,pE,pL,pA,pS,pM,pD,zN,qT,qG,qL,qH,qN,qB,qE,qO,qA,qM]
 refine ECall.i dc ?_
 simp (maxSteps := 4000000) only [ZE,↓reduceIte,pE,pL,pA,pS,pM,pD,zN,qT,qG,qL,qH,qN,qB,qE,qO,qA,qM]
 refine EFn.p ?_
 simp (maxSteps := 4000000) only [ZE,↓reduceIte,pE,pL,pA,pS,pM,pD,zN,qT,qG,qL,qH,qN,qB,qE,qO,qA,qM]
 refine ECall.i vc ?_
 simp (maxSteps := 4000000) only [ZE,↓reduceIte,pE,pL,pA,pS,pM,pD,zN,qT,qG,qL,qH,qN,qB,qE,qO,qA,qM]
 have hne : ((r.length : Int) != (E.length : Int)) = false := by rw [r2]; exact bne_self_eq_false _
 simp (maxSteps := 4000000) only [ZE,↓reduceIte,pE,pL,pA,pS,pM,pD,zN,qT,qG,qL,qH,qN,qB,qE,qO,qA,qM,List.length_map,hne]
 refine EFn.p ?_
 simp (maxSteps := 4000000) only [ZE,↓reduceIte,pE,pL,pA,pS,pM,pD,zN,qT,qG,qL,qH,qN,qB,qE,qO,qA,qM]
 refine ECall.i ac ?_
 simp (maxSteps := 4000000) only [ZE,↓reduceIte,pE,pL,pA,pS,pM,pD,zN,qT,qG,qL,qH,qN,qB,qE,qO,qA,qM]
 refine EFn.p ?_
 simp (maxSteps := 4000000) only [ZE,↓reduceIte,pE,pL,pA,pS,pM,pD,zN,qT,qG,qL,qH,qN,qB,qE,qO,qA,qM]
 refine ECall.i vb ?_
 simp (maxSteps := 4000000) only [ZE,↓reduceIte,pE,pL,pA,pS,pM,pD,zN,qT,qG,qL,qH,qN,qB,qE,qO,qA,qM]
 refine ⟨by kernel_rfl,ECall'.i na ?_⟩
 simp (maxSteps := 4000000) only [ZE,↓reduceIte,pE,pL,pA,pS,pM,pD,zN,qT,qG,qL,qH,qN,qB,qE,qO,qA,qM]
 refine ECall'.i sa ?_
 simp (maxSteps := 4000000) only [ZE,↓reduceIte,pE,pL,pA,pS,pM,pD,zN,qT,qG,qL,qH,qN,qB,qE,qO,qA,qM]
 refine ECall'.i se ?_
 simp (maxSteps := 4000000) only [ZE,↓reduceIte,pE,pL,pA,pS,pM,pD,zN,qT,qG,qL,qH,qN,qB,qE,qO,qA,qM]
theorem inverts_lifted (os : Os) (started : os.Started) (H : Type) (enc : TypeId × Value → H) :
  ReturnsInHanded {} Tryz.checked os 4 .any (Rows.treediffInvertsSpec.pre6 enc Tryz.prog Tryz.f4 Rows.treediffInvertsRow.domain false) (Rows.treediffInvertsSpec.post enc Tryz.prog Tryz.f4 false true false false) := by
 refine returnsInHanded_of_change (C := Tryz.checked) own started (by kernel_rfl) Tryz.func4
  (ChangeSpec.witness6 (enc := enc) (C := Tryz.checked) false ⟨#[],#[.agg #[.int .u8 0,.int .u8 0,.slice none 0 0,.int .u8 0,.int .u8 0,.slice none 0 0,.slice none 0 0,.slice none 0 0]],[]⟩ 8 (by kernel_rfl) (by kernel_rfl) (by kernel_rfl) (by kernel_rfl)) ?_
 intro W base args ds gs before hval hW _ _
 refine law_post (P := Tryz.prog) (n := 8) (ss := [shPair]) laidOut (of_decide_eq_true (by kernel_rfl)) (tb := 4) (by kernel_rfl) Tryz.underlying4 (by kernel_rfl) rfl hval hW (fun hl => ?_) (fun Ds hD _ => ?_)
 ·match ds,hl with
  | [_],_ => rfl
 ·obtain ⟨a,rfl,ha⟩ := fitsA_1 hD
  obtain ⟨x,y,l,m,rfl,hx,hy,hl,hm⟩ := pair_of ha
  exact inverts_c x y hx hy l m hl hm
theorem inverts_j0 : jG0 Tryz.prog 4 Tryz.f4 Rows.treediffInvertsSpec Rows.treediffInvertsRow = true := by kernel_rfl
theorem inverts_j1 : jG1 Tryz.prog 4 Tryz.f4 Rows.treediffInvertsSpec Rows.treediffInvertsRow = true := by kernel_rfl
theorem inverts_j2 : jG2 Tryz.prog 4 Tryz.f4 Rows.treediffInvertsSpec Rows.treediffInvertsRow = true := by kernel_rfl
theorem inverts_j3 : jG3 Tryz.prog 4 Tryz.f4 Rows.treediffInvertsSpec Rows.treediffInvertsRow = true := by kernel_rfl
theorem inverts_j4 : jG4 Tryz.prog 4 Tryz.f4 Rows.treediffInvertsSpec Rows.treediffInvertsRow = true := by kernel_rfl
theorem inverts_j5 : jG5 Tryz.prog 4 Tryz.f4 Rows.treediffInvertsSpec Rows.treediffInvertsRow = true := by kernel_rfl
theorem inverts_j6 : jG6 Tryz.prog 4 Tryz.f4 Rows.treediffInvertsSpec Rows.treediffInvertsRow = true := by kernel_rfl
theorem inverts_j7 : jG7 Tryz.prog 4 Tryz.f4 Rows.treediffInvertsSpec Rows.treediffInvertsRow = true := by kernel_rfl
theorem inverts_j8 : jG8 Tryz.prog 4 Tryz.f4 Rows.treediffInvertsSpec Rows.treediffInvertsRow = true := by kernel_rfl
theorem inverts_j : joinedFacts Tryz.prog 4 Tryz.f4 Rows.treediffInvertsSpec Rows.treediffInvertsRow = true := joined_mk jP1 jP2 jP6 jP8 jP24 jP25 inverts_j0 inverts_j1 inverts_j2 inverts_j3 inverts_j4 inverts_j5 inverts_j6 inverts_j7 inverts_j8
theorem inverts_holds : Rows.TreediffInvertsSaid :=
 OpenClaim.holds_of_wide 4 Tryz.f4 rfl rfl rfl rfl rfl rfl rfl ⟨rfl,rfl,rfl,rfl,rfl⟩ rfl rfl rfl rfl rfl (by kernel_rfl) Tryz.func4 inverts_j
  (of_decide_eq_true (by kernel_rfl)) (by unfold Func.isWrapper; first | (rw [if_pos (by decide +kernel)]; kernel_rfl) | (rw [if_neg (by decide +kernel)]; exact ⟨rfl,rfl⟩))
  (fun os started H enc _ => inverts_lifted os started H enc)
end Go.Proofs.YtbenhdgpogiadaaGreat
