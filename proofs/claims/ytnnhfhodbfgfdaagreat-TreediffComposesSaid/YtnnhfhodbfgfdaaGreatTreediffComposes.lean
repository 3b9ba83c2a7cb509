/-
 TreediffComposes: the edits from a first file to a second one, and then those from the second one to a third one, lead from the first one to the normal form of the third one.
 Conditions: none.
-/
import Derived.Test.YtnnhfhodbfgfdaaGreatGL
import Derived.Test.YtnnhfhodbfgfdaaGreatK2
import Derived.Test.YtnnhfhodbfgfdaaGreatRows
import Derived.Test.YtnnhfhodbfgfdaaGreatK5
set_option linter.unusedSimpArgs false
set_option linter.unusedVariables false
/-
 ARGUMENTS OF THE LAWS AS DATA.
-/
namespace Go.Proofs.YtnnhfhodbfgfdaaGreat
open Go.Aw Go.ChangeShapes Go.WideShapes Go.ChangeAt Go.RowKit
set_option maxRecDepth 100000
theorem own : ownKnob Tryz.prog.godebug = none := by kernel_rfl
theorem laidOut : laidOutB Tryz.prog = true := by kernel_rfl
def shRaw : ASh := .agg [.int .u8,.int .u8,.sl [.int .u8]]
def shK2 : ASh := .agg [.int .u8,.int .u8]
def shK4 : ASh := .agg [.int .u8,.int .u8,.int .u8,.int .u8]
def shB : ASh := .one (.sl [.int .u8])
theorem fitsL_3 {s t u : Sh} {ds : List D} (h : Sh.fitsL [s,t,u] ds) : ∃ a b c,ds = [a,b,c] ∧ s.fits a ∧ t.fits b ∧ u.fits c := by
 simp only [Sh.fitsL] at h
 obtain ⟨a,r,rfl,h1,b,r2,rfl,h2,c,r3,rfl,h3,rfl⟩ := h
 exact ⟨a,b,c,rfl,h1,h2,h3⟩
theorem bytes_of {d : D} (h : Sh.fits (.sl [.int .u8]) d) : ∃ l : List Nat,d = eBytes l ∧ ∀ b ∈ l,b < 256 := by
 obtain ⟨l,rfl,hl⟩ := fits_sl (enc := fun b : Nat => [eU8 b]) (p := fun b => b < 256) (fun e he => by
  obtain ⟨x,rfl,hx⟩ := fitsL_1 he
  obtain ⟨n,rfl,hn⟩ := fits_u8 hx
  exact ⟨n,rfl,hn⟩) h
 exact ⟨l,rfl,hl⟩
theorem raw_of {d : D} (h : shRaw.fits d) : ∃ x : Raw,d = eRaw x ∧ x.ok := by
 obtain ⟨ds,rfl,h⟩ := h
 obtain ⟨a,b,c,rfl,h1,h2,h3⟩ := fitsL_3 h
 obtain ⟨k,rfl,hk⟩ := fits_u8 h1
 obtain ⟨w,rfl,hw⟩ := fits_u8 h2
 obtain ⟨l,rfl,hl⟩ := bytes_of h3
 exact ⟨⟨k,w,l⟩,rfl,hk,hw,hl⟩
def shPair : ASh := .agg [.int .u8,.int .u8,.sl [.int .u8],.int .u8,.int .u8,.sl [.int .u8],.sl [.int .u8,.int .u8,.int .u8,.int .u8],.sl [.int .u8,.int .u8,.int .u8,.int .u8]]
def eZ2 (x y : Raw) (l m : List K4) : D := .agg [eU8 x.kind,eU8 x.w,eBytes x.l,eU8 y.kind,eU8 y.w,eBytes y.l,.sl (l.map eK4),.sl (m.map eK4)]
theorem k4s_of {d : D} (h : Sh.fits (.sl [.int .u8,.int .u8,.int .u8,.int .u8]) d) : ∃ l : List K4,d = .sl (l.map eK4) ∧ ∀ k ∈ l,k.ok := by
 obtain ⟨l,rfl,hl⟩ := fits_sl (enc := eK4) (p := K4.ok) (fun e0 h0 => by
  obtain ⟨a,b,c,e,rfl,h1,h2,h3,h4⟩ := fitsL_4 h0
  obtain ⟨a,rfl,ha⟩ := fits_u8 h1
  obtain ⟨b,rfl,hb⟩ := fits_u8 h2
  obtain ⟨c,rfl,hc⟩ := fits_u8 h3
  obtain ⟨e,rfl,he⟩ := fits_u8 h4
  exact ⟨⟨a,b,c,e⟩,rfl,ha,hb,hc,he⟩) h
 exact ⟨l,rfl,hl⟩
theorem pair_of {d : D} (h : shPair.fits d) : ∃ x y l m,d = eZ2 x y l m ∧ x.ok ∧ y.ok ∧ (∀ k ∈ l,k.ok) ∧ ∀ k ∈ m,k.ok := by
 obtain ⟨ds,rfl,h⟩ := h
 simp only [Sh.fitsL] at h
 obtain ⟨a,_,rfl,h1,b,_,rfl,h2,c,_,rfl,h3,a',_,rfl,h4,b',_,rfl,h5,c',_,rfl,h6,l,_,rfl,h7,m,_,rfl,h8,rfl⟩ := h
 obtain ⟨k,rfl,hk⟩ := fits_u8 h1
 obtain ⟨w,rfl,hw⟩ := fits_u8 h2
 obtain ⟨bs,rfl,hbs⟩ := bytes_of h3
 obtain ⟨k',rfl,hk'⟩ := fits_u8 h4
 obtain ⟨w',rfl,hw'⟩ := fits_u8 h5
 obtain ⟨bs',rfl,hbs'⟩ := bytes_of h6
 obtain ⟨l,rfl,hl⟩ := k4s_of h7
 obtain ⟨m,rfl,hm⟩ := k4s_of h8
 exact ⟨⟨k,w,bs⟩,⟨k',w',bs'⟩,l,m,rfl,⟨hk,hw,hbs⟩,⟨hk',hw',hbs'⟩,hl,hm⟩
open Go.Aw
set_option maxHeartbeats 40000000
theorem sameF_self (a : List Module) : sameF a a = true := (sameF_iff a a).2 rfl
theorem normal_s (a : List Module) (h : Sm a) : FnP Tryz.prog 20 [.agg [eModules a]] (.d (.agg [eModules (normF a)])) [] := normal_c a h.nok.names h.nok.parts h.nok.len h.nok.items
theorem diff_s (a b : List Module) (h : Sm a) (h' : Sm b) : FnP Tryz.prog 17 [.agg [eModules a],.agg [eModules b]] (.d (.sl ((diffF a b).map eEdit))) [] := diff_c a b h.nok h'.nok (by have := h.diff h'; omega)
open Nat renaming reduceEqDiff → pE,reduceLT → pL,reduceAdd → pA,reduceSub → pS,reduceMul → pM,reduceLeDiff → pD
open Int renaming reduceToNat → qT,reduceGT → qG,reduceLT → qL,reduceGE → qH,reduceBNe → qN,reduceBEq → qB,reduceLE → qE,reduceNe → qO,reduceAdd → qA,reduceNeg → qM
theorem sm_made (x : Raw) : Sm (made x) := by
 have h := spI_made x
 exact ⟨(partB_iff _).1 h.part,h.len,fun m hm => by have := (h.fine m hm).items; omega⟩
theorem eEdit_1 (e : Edit) : (eEdit e).length = 43 ∧ ∀ d ∈ eEdit e,d.one := by
 have h1 := eItem_1 e.to
 have h2 := eModule_1 e.head
 have e35 : (eItem e.to).length = 35 := by simp [eItem,eNum,eExpr_eq,eRule]
 refine ⟨by simp [eEdit,ePart,e35,eModule],fun d hd => ?_⟩
 simp only [eEdit,ePart,List.mem_cons,List.mem_append,List.not_mem_nil,or_false] at hd
 rcases hd with rfl | (rfl | rfl) | rfl | hd | hd
 ·simp [eS,D.one,Value.oneCell']
 ·simp [eI,D.one,Value.oneCell']
 ·simp [eS,D.one,Value.oneCell']
 ·simp [eB,D.one,Value.oneCell']
 ·exact h1 d hd
 ·exact h2 d hd
theorem rowsEdit (l : List Edit) : rowsOk 43 (l.map eEdit) := fun y hy => by
 obtain ⟨p,_,rfl⟩ := List.mem_map.1 hy
 exact eEdit_1 p
theorem composes_c (x y : Raw) (hx : x.ok) (hy : y.ok) (l m : List K4) (hl : ∀ k ∈ l,k.ok) (hm : ∀ k ∈ m,k.ok) (z : Raw) (hz : z.ok) : FnP Tryz.prog 7 [eZ2 x y l m,eRaw z] (.d (eB true)) [] := by
 refine FnP.of_eC (own := []) (fun i => if i = 2004 then [.flt ⟨[(0,none),(1,none),(2,none),(3,none),(4,none),(5,none),(6,none),(7,none),(8,none),(9,none),(10,none),(11,none),(15,some []),(16,some []),(17,some [])]⟩ ⟨[12,13,14],[(15,[12]),(16,[13]),(17,[14])]⟩] else if i = 2005 then [.flt ⟨[(0,none),(1,none),(2,none),(3,none),(5,none),(6,none),(4,some [5,6]),(7,none),(8,some []),(9,none)]⟩ ⟨[],[]⟩] else if i = 5 then [.frz 30] else if i = 2007 then [.ord ⟨[(0,none),(1,none),(2,none),(3,none),(4,none),(5,none),(6,none),(7,none),(8,none),(9,none),(10,none),(11,none),(12,none),(13,none)]⟩] else []) mixed Tryz.func7 rfl Tryz.call7 Tryz.ntmps7 (Nat.le_of_ble_eq_true rfl) Tryz.results7 (fun hok => ?_)
 have s1 := spoiled_c x hx l hl
 have s2 := spoiled_c y hy m hm
 have s3 := made_c z hz
 have sma := sm_spoiled x l
 have smb := sm_spoiled y m
 have smc := sm_made z
 obtain ⟨a,ha⟩ : ∃ a,spoiled x l = a := ⟨_,rfl⟩
 obtain ⟨b,hb⟩ : ∃ b,spoiled y m = b := ⟨_,rfl⟩
 obtain ⟨c,hc⟩ : ∃ c,made z = c := ⟨_,rfl⟩
 rw [ha] at s1 sma
 rw [hb] at s2 smb
 rw [hc] at s3 smc
 have d1 := diff_s a b sma smb
 have d2 := diff_s b c smb smc
 have h1 := sma.diff smb
 have h2 := smb.diff smc
 have cl := composes_law sma.part smb.part smc.part
 obtain ⟨E,hEE⟩ : ∃ E,diffF a b = E := ⟨_,rfl⟩
 obtain ⟨G,hGG⟩ : ∃ G,diffF b c = G := ⟨_,rfl⟩
 rw [hEE] at d1 h1 cl
 rw [hGG] at d2 h2 cl
 have ac := applied_c a sma (E ++ G) (by rw [List.length_append]; omega)
 rw [cl,List.map_append] at ac
 have nc := normal_s c smc
 have sc := same_c (normF c) (normF c)
 rw [sameF_self] at sc
 have rE := rowsEdit E
 have rG := rowsEdit G
 simp only [appD] at ac
 simp (maxSteps := 4000000) only [ZE,↓reduceIte,pE,pL,pA,pS,pM,pD,eRaw] at s1 s2 s3
 simp (maxSteps := 4000000) only [ZE,↓reduceIte,pE,pL,pA,pS,pM,pD] at d1 d2 ac nc sc
 simp (maxSteps := 4000000) only [ZE,↓reduceIte,pE,pL,pA,pS,pM,pD,zN,qT,qG,qL,qH,qN,qB,qE,qO,qA,qM,eZ2,eRaw]
 refine EFn.p ?_
 simp (maxSteps := 4000000) only [ZE,↓reduceIte,pE,pL,pA,pS,pM,pD,zN,qT,qG,qL,qH,qN,qB,qE,qO,qA,qM]
 refine ECall.i examples_c ?_
 simp (maxSteps := 4000000) only [ZE,↓reduceIte,pE,pL,pA,pS,pM,pD,zN,qT,qG,qL,qH,qN,qB,qE,qO,qA,qM]
 refine ⟨by kernel_rfl,ECall'.i s1 ?_⟩
 simp (maxSteps := 4000000) only [ZE,↓reduceIte,pE,pL,pA,pS,pM,pD,zN,qT,qG,qL,qH,qN,qB,qE,qO,qA,qM]
 refine ECall'.i s2 ?_
 simp (maxSteps := 4000000) only [ZE,↓reduceIte,pE,pL,pA,pS,pM,pD,zN,qT,qG,qL,qH,qN,qB,qE,qO,qA,qM]
 refine ECall'.i s3 ?_
 simp (maxSteps := 4000000) only [ZE,↓reduceIte,pE,pL,pA,pS,pM,pD,zN,qT,qG,qL,qH,qN,qB,qE,qO,qA,qM]
 refine ⟨by kernel_rfl,ECall'.i d1 ?_⟩
 simp (maxSteps := 4000000) only [ZE,↓reduceIte,pE,pL,pA,pS,pM,pD,zN,qT,qG,qL,qH,qN,qB,qE,qO,qA,qM,List.length_map]
 refine ⟨⟨rE,by omega,by omega⟩,ECall'.i d2 ?_⟩
 simp (maxSteps := 4000000) only [ZE,↓reduceIte,pE,pL,pA,pS,pM,pD,zN,qT,qG,qL,qH,qN,qB,qE,qO,qA,qM,List.length_map]
 refine ⟨⟨rG,by omega,by omega⟩,?_⟩
 simp (maxSteps := 4000000) only [ZE,↓reduceIte,pE,pL,pA,pS,pM,pD,zN,qT,qG,qL,qH,qN,qB,qE,qO,qA,qM,List.length_map,List.length_append]
 refine EFn.p ?_
 simp (maxSteps := 4000000) only [ZE,↓reduceIte,pE,pL,pA,pS,pM,pD,zN,qT,qG,qL,qH,qN,qB,qE,qO,qA,qM]
 refine ECall.i ac ?_
 simp (maxSteps := 4000000) only [ZE,↓reduceIte,pE,pL,pA,pS,pM,pD,zN,qT,qG,qL,qH,qN,qB,qE,qO,qA,qM]
 refine ⟨by split <;> trivial,by kernel_rfl,ECall'.i nc ?_⟩
 simp (maxSteps := 4000000) only [ZE,↓reduceIte,pE,pL,pA,pS,pM,pD,zN,qT,qG,qL,qH,qN,qB,qE,qO,qA,qM]
 refine ECall'.i sc ?_
 simp (maxSteps := 4000000) only [ZE,↓reduceIte,pE,pL,pA,pS,pM,pD,zN,qT,qG,qL,qH,qN,qB,qE,qO,qA,qM]
theorem composes_lifted (os : Os) (started : os.Started) (H : Type) (enc : TypeId × Value → H) :
  ReturnsInHanded {} Tryz.checked os 7 .any (Rows.treediffComposesSpec.pre6 enc Tryz.prog Tryz.f7 Rows.treediffComposesRow.domain false) (Rows.treediffComposesSpec.post enc Tryz.prog Tryz.f7 false true false false) := by
 refine returnsInHanded_of_change (C := Tryz.checked) own started (by kernel_rfl) Tryz.func7
  (ChangeSpec.witness6 (enc := enc) (C := Tryz.checked) false ⟨#[],#[.agg #[.int .u8 0,.int .u8 0,.slice none 0 0,.int .u8 0,.int .u8 0,.slice none 0 0,.slice none 0 0,.slice none 0 0],.agg #[.int .u8 0,.int .u8 0,.slice none 0 0]],[]⟩ 8 (by kernel_rfl) (by kernel_rfl) (by kernel_rfl) (by kernel_rfl)) ?_
 intro W base args ds gs before hval hW _ _
 refine law_post (P := Tryz.prog) (n := 8) (ss := [shPair,shRaw]) laidOut (of_decide_eq_true (by kernel_rfl)) (tb := 4) (by kernel_rfl) Tryz.underlying4 (by kernel_rfl) rfl hval hW (fun hl => ?_) (fun Ds hD _ => ?_)
 ·match ds,hl with
  | [_,_],_ => rfl
 ·obtain ⟨a,b,rfl,ha,hb⟩ := fitsA_2 hD
  obtain ⟨x,y,l,m,rfl,hx,hy,hl,hm⟩ := pair_of ha
  obtain ⟨z,rfl,hz⟩ := raw_of hb
  exact composes_c x y hx hy l m hl hm z hz
theorem composes_holds : Rows.TreediffComposesSaid :=
 OpenClaim.holds_of_wide 7 Tryz.f7 rfl rfl rfl rfl rfl rfl rfl ⟨rfl,rfl,rfl,rfl,rfl⟩ rfl rfl rfl rfl rfl (by kernel_rfl) Tryz.func7 (by kernel_rfl)
  (of_decide_eq_true (by kernel_rfl)) (by unfold Func.isWrapper; first | (rw [if_pos (by decide +kernel)]; kernel_rfl) | (rw [if_neg (by decide +kernel)]; exact ⟨rfl,rfl⟩))
  (fun os started H enc _ => composes_lifted os started H enc)
end Go.Proofs.YtnnhfhodbfgfdaaGreat
