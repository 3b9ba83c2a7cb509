/-
 CONTRACTS of the functions that the law reaches, and plain laws on what they compute. Conditions: those of each law.
-/
import Derived.Test.YtejpmjnefokdoaaK4
set_option linter.unusedSimpArgs false
set_option linter.unusedVariables false
namespace Go.Proofs.Ytejpmjnefokdoaa
open Go.Aw
set_option maxRecDepth 100000
def sz (e : Expr) : Nat := e.all.length
theorem allL_len : ∀ r : List Expr, (Expr.allL r).length = (r.map sz).sum
 | [] => rfl
 | e :: r => by rw [Expr.allL, List.length_append, List.map_cons, List.sum_cons, allL_len r]; rfl
theorem sz_mk (o : Int) (n : Str) (k w : Num) (r : List Expr) : sz (.mk o n k w r) = (r.map sz).sum + 1 := by
 unfold sz
 rw [Expr.all_eq, List.length_cons, Expr.args, allL_len]; rfl
theorem leaf_sz (l : List Nat) (ns : List Str) (w : Num) (a : Nat) : sz (leaf l ns w a) = 1 := by
 unfold leaf; split <;> rw [sz_mk] <;> rfl
theorem condOf_sz (x y : Expr) (k : Nat) : sz (condOf x y k) ≤ sz x + sz y + 1 := by
 unfold condOf
 split
 ·rw [sz_mk]; simp
 split
 ·rw [sz_mk]; simp
 split
 ·rw [sz_mk]; simp
 ·rw [sz_mk]; simp
theorem nodeOf_sz (x y c : Expr) (k : Nat) : sz (nodeOf x y c k) ≤ sz x + sz y + sz c + 1 := by
 unfold nodeOf
 split
 ·rw [sz_mk]; simp only [List.map_cons, List.map_nil, List.sum_cons, List.sum_nil]; omega
 split
 ·rw [sz_mk]; simp only [List.map_cons, List.map_nil, List.sum_cons, List.sum_nil]; omega
 split
 ·rw [sz_mk]; simp only [List.map_cons, List.map_nil, List.sum_cons, List.sum_nil]; omega
 split
 ·rw [sz_mk]; simp only [List.map_cons, List.map_nil, List.sum_cons, List.sum_nil]; omega
 split
 ·rw [sz_mk]; simp only [List.map_cons, List.map_nil, List.sum_cons, List.sum_nil]; omega
 split
 ·rw [sz_mk]; simp only [List.map_cons, List.map_nil, List.sum_cons, List.sum_nil]; omega
 ·rw [sz_mk]; simp only [List.map_cons, List.map_nil, List.sum_cons, List.sum_nil]; omega
theorem gen0_sz (l : List Nat) (ns : List Str) (w : Num) (a : Nat) : sz (gen l ns w 0 a) ≤ 20 := by
 have := leaf_sz l ns w a
 show sz (leaf l ns w a) ≤ 20
 omega
theorem gen1_sz' (l : List Nat) (ns : List Str) (w : Num) (a : Nat) : sz (gen l ns w 1 a) ≤ 6 := by
 unfold gen
 split
 ·have := leaf_sz l ns w a; omega
 ·have h1 := leaf_sz l ns w (3 * a + 1)
  have h2 := leaf_sz l ns w (3 * a + 2)
  have h3 := leaf_sz l ns w (3 * a + 4)
  have h4 := leaf_sz l ns w (3 * a + 5)
  have h5 := condOf_sz (gen l ns w 0 (3 * a + 4)) (leaf l ns w (3 * a + 5)) (byteL l (3 * a + 3))
  have h6 := nodeOf_sz (gen l ns w 0 (3 * a + 1)) (gen l ns w 0 (3 * a + 2)) (condOf (gen l ns w 0 (3 * a + 4)) (leaf l ns w (3 * a + 5)) (byteL l (3 * a + 3))) (byteL l a)
  simp only [gen] at h5 h6 ⊢
  omega
theorem gen1_sz (l : List Nat) (ns : List Str) (w : Num) (a : Nat) : sz (gen l ns w 1 a) ≤ 20 := Nat.le_trans (gen1_sz' l ns w a) (by decide)
theorem cond1_sz (l : List Nat) (ns : List Str) (w : Num) (a : Nat) : sz (cond l ns w 1 a) ≤ 20 := by
 have h1 := gen1_sz' l ns w (a + 1)
 have h2 := leaf_sz l ns w (a + 2)
 have h3 := condOf_sz (gen l ns w 1 (a + 1)) (leaf l ns w (a + 2)) (byteL l a)
 unfold cond
 omega
theorem data_sz (mem : Bool) (l : List Nat) (w : Num) (c0 : Str) : sz (dataT mem l w c0) ≤ 20 := by
 cases mem
 ·exact gen1_sz _ _ _ _
 ·have h1 := gen1_sz' l [sR, sS, sT, c0] w 8
  have h2 := leaf_sz l [sR, sS] w 10
  show sz (.mk 5 emp zNum zNum [gen l [sR, sS, sT, c0] w 1 8, .mk 15 sM zNum zNum [gen l [sR, sS] w 0 10]]) ≤ 20
  rw [sz_mk, List.map_cons, List.map_cons, List.map_nil, sz_mk, List.map_cons, List.map_nil]
  simp only [List.sum_cons, List.sum_nil, gen] at *
  omega
theorem numbers_len (x : Item) (ha : sz x.a ≤ 20) (hb : sz x.b ≤ 20) (hc : sz x.c ≤ 20) (hr : x.args.length ≤ 2) : (numbers x).length ≤ 2000000 := by
 unfold numbers
 rw [List.length_append]
 have h1 : (numHead x).length ≤ 2 := by
  unfold numHead
  split
  ·simp
  split
  ·simp
  split
  ·simp
  split
  ·exact hr
  ·simp
 have h2 : (Expr.allL (uses x)).length ≤ 60 := by
  have := (allL_pre [x.a, x.b, x.c] (usesN x.kind.1)).length_le
  rw [allL_len [x.a, x.b, x.c]] at this
  simp only [List.map_cons, List.map_nil, List.sum_cons, List.sum_nil] at this
  unfold uses
  omega
 have h3 : ∀ r : List Expr, (r.flatMap numsE).length ≤ 2 * r.length := by
  intro r
  induction r with
  | nil => simp
  | cons q r ih =>
   rw [List.flatMap_cons, List.length_append, List.length_cons]
   have : (numsE q).length ≤ 2 := by
    unfold numsE
    split
    ·simp
    split
    ·simp
    split
    ·simp
    ·simp
   omega
 have := h3 (Expr.allL (uses x))
 omega
structure Tidy (l : List Module) (y : Item) : Prop where
 a : sz y.a ≤ 20
 b : sz y.b ≤ 20
 c : sz y.c ≤ 20
 args : y.args.length ≤ 2
 ports : y.ports.length ≤ 2
 inst : y.kind.1 = 9 → ∃ b ∈ y.ports, portOf l y b.port = 1 ∨ portOf l y b.port = 2
theorem sz_z : sz zExpr ≤ 20 := by unfold zExpr; rw [sz_mk]; simp
theorem tidy_port (l : List Module) (k : I64) (n : Str) (w : Num) (hk : k.1 ≠ 9) : Tidy l (portI k n w) := { a := sz_z, b := sz_z, c := sz_z, args := by simp [portI, zItem], ports := by simp [portI, zItem], inst := fun h => absurd h hk }
theorem tidy_chan (l : List Module) (n : Str) (w d : Num) : Tidy l (chanI n w d) := { a := sz_z, b := sz_z, c := sz_z, args := by simp [chanI, zItem], ports := by simp [chanI, zItem], inst := fun h => by simp [chanI] at h }
theorem tidy_reg (l : List Module) (n : Str) (r : List Nat) (a : Nat) (ns : List Str) (w : Num) : Tidy l (regI n r a ns w) := { a := gen1_sz _ _ _ _, b := sz_z, c := sz_z, args := by simp [regI, zItem], ports := by simp [regI, zItem], inst := fun h => by simp [regI] at h }
theorem tidy_wire (l : List Module) (n : Str) (w : Num) (e : Expr) (he : sz e ≤ 20) : Tidy l (wireI n w e) := { a := he, b := sz_z, c := sz_z, args := by simp [wireI, zItem], ports := by simp [wireI, zItem], inst := fun h => by simp [wireI] at h }
theorem tidy_take (l : List Module) (n : Str) (e : Expr) (he : sz e ≤ 20) : Tidy l (takeI n e) := { a := he, b := sz_z, c := sz_z, args := by simp [takeI, zItem], ports := by simp [takeI, zItem], inst := fun h => by simp [takeI] at h }
theorem tidy_put (l : List Module) (n : Str) (e z : Expr) (he : sz e ≤ 20) (hz : sz z ≤ 20) : Tidy l (putI n e z) := { a := he, b := hz, c := sz_z, args := by simp [putI, zItem], ports := by simp [putI, zItem], inst := fun h => by simp [putI] at h }
theorem tidy_mem (l : List Module) (r : List Nat) (w : Num) (c0 : Str) : Tidy l (memI r w c0) := { a := cond1_sz _ _ _ _, b := gen0_sz _ _ _ _, c := gen1_sz _ _ _ _, args := by simp [memI, zItem], ports := by simp [memI, zItem], inst := fun h => by simp [memI] at h }
theorem tidy_inst (l : List Module) (n : Str) (w : Num) (c0 c1 : Str) (h : portOf l (instI n w c0 c1) sX = 1) : Tidy l (instI n w c0 c1) := { a := sz_z, b := sz_z, c := sz_z, args := by simp [instI], ports := by simp [instI], inst := fun _ => ⟨⟨sX, c0⟩, by simp [instI], .inl h⟩ }
theorem tidy_own (l : List Module) (mem : Bool) (r : List Nat) (w : Num) (c0 c1 : Str) (z : List Item) (hz : ∀ y ∈ z, Tidy l y) : ∀ y ∈ ownT mem r w c0 c1 z, Tidy l y := by
 cases mem
 ·simp only [ownT, List.forall_mem_cons]
  exact ⟨tidy_reg _ _ _ _ _ _, tidy_reg _ _ _ _ _ _, tidy_wire _ _ _ _ (gen1_sz _ _ _ _), tidy_take _ _ _ (cond1_sz _ _ _ _), tidy_put _ _ _ _ (cond1_sz _ _ _ _) (data_sz _ _ _ _), hz⟩
 ·simp only [ownT, List.forall_mem_cons]
  exact ⟨tidy_reg _ _ _ _ _ _, tidy_reg _ _ _ _ _ _, tidy_wire _ _ _ _ (gen1_sz _ _ _ _), tidy_mem _ _ _ _, tidy_take _ _ _ (cond1_sz _ _ _ _), tidy_put _ _ _ _ (cond1_sz _ _ _ _) (data_sz _ _ _ _), hz⟩
theorem tidy_cell (l : List Module) (b : List Nat) : ∀ y ∈ (cellM b).items, Tidy l y := by
 simp only [cellM, List.forall_mem_cons]
 exact ⟨tidy_port _ _ _ _ (by decide), tidy_port _ _ _ _ (by decide), tidy_reg _ _ _ _ _ _, tidy_wire _ _ _ _ (gen1_sz _ _ _ _), tidy_take _ _ _ (cond1_sz _ _ _ _), tidy_put _ _ _ _ (cond1_sz _ _ _ _) (gen1_sz _ _ _ _), by simp⟩
theorem tidy_made (x : Raw) : (made x).length ≤ 2 ∧ 0 < (made x).length ∧ ∀ m ∈ made x, (0 < m.items.length ∧ m.items.length ≤ 20) ∧ ∀ y ∈ m.items, Tidy (made x) y := by
 have nil : ∀ (l : List Module), ∀ y ∈ ([] : List Item), Tidy l y := by simp
 have hm : ∀ (o : Bool) (a b : Module) (P : Module → Prop), P a → P b → ∀ m ∈ two o a b, P m := by
  intro o a b P ha hb m hm
  cases o
  ·simp only [two, List.mem_cons, List.not_mem_nil, or_false] at hm
   rcases hm with rfl | rfl
   ·exact hb
   ·exact ha
  ·simp only [two, List.mem_cons, List.not_mem_nil, or_false] at hm
   rcases hm with rfl | rfl
   ·exact ha
   ·exact hb
 have hl : ∀ (o : Bool) (a b : Module), (two o a b).length ≤ 2 ∧ 0 < (two o a b).length := by
  intro o a b
  cases o <;> exact ⟨by simp [two], by simp [two]⟩
 rcases made_shape x with ⟨mem, h⟩ | ⟨o, h⟩ | ⟨o, mem, h⟩ | ⟨o, mem, h⟩
 ·rw [h]
  refine ⟨by simp, by simp, fun m hm => ?_⟩
  simp only [List.mem_cons, List.not_mem_nil, or_false] at hm
  subst hm
  refine ⟨by cases mem <;> exact ⟨by simp [top0], by simp [top0, ownT]⟩, ?_⟩
  simp only [top0, List.forall_mem_cons]
  exact ⟨tidy_port _ _ _ _ (by decide), tidy_port _ _ _ _ (by decide), tidy_own _ _ _ _ _ _ _ (nil _)⟩
 ·rw [h]
  refine ⟨(hl _ _ _).1, (hl _ _ _).2, hm _ _ _ _ ⟨⟨by simp [top1], by simp [top1]⟩, ?_⟩ ⟨⟨by simp [cellM], by simp [cellM]⟩, tidy_cell _ _⟩⟩
  have p1 : portOf (two o (top1 x) (cellM x.l)) (instI sU (rawW x) sA sC) sX = 1 := by cases o <;> kernel_rfl
  have p2 : portOf (two o (top1 x) (cellM x.l)) (instI sVV (rawW x) sC sB) sX = 1 := by cases o <;> kernel_rfl
  obtain ⟨L, hL⟩ : ∃ L, two o (top1 x) (cellM x.l) = L := ⟨_, rfl⟩
  rw [hL] at p1 p2 ⊢
  simp only [top1, List.forall_mem_cons]
  exact ⟨tidy_port _ _ _ _ (by decide), tidy_port _ _ _ _ (by decide), tidy_chan _ _ _ _, tidy_inst _ _ _ _ _ p1, tidy_inst _ _ _ _ _ p2, nil _⟩
 ·rw [h]
  refine ⟨(hl _ _ _).1, (hl _ _ _).2, hm _ _ _ _ ⟨by cases mem <;> exact ⟨by simp [top2], by simp [top2, ownT]⟩, ?_⟩ ⟨⟨by simp [cellM], by simp [cellM]⟩, tidy_cell _ _⟩⟩
  have p1 : portOf (two o (top2 mem x) (cellM x.l)) (instI sU (rawW x) sA sC) sX = 1 := by cases o <;> cases mem <;> kernel_rfl
  obtain ⟨L, hL⟩ : ∃ L, two o (top2 mem x) (cellM x.l) = L := ⟨_, rfl⟩
  rw [hL] at p1 ⊢
  simp only [top2, List.forall_mem_cons]
  exact ⟨tidy_port _ _ _ _ (by decide), tidy_port _ _ _ _ (by decide), tidy_chan _ _ _ _, tidy_inst _ _ _ _ _ p1, tidy_own _ _ _ _ _ _ _ (nil _)⟩
 ·rw [h]
  refine ⟨(hl _ _ _).1, (hl _ _ _).2, hm _ _ _ _ ⟨by cases mem <;> exact ⟨by simp [top3], by simp [top3, ownT]⟩, ?_⟩ ⟨⟨by simp [cellM], by simp [cellM]⟩, tidy_cell _ _⟩⟩
  have p1 : portOf (two o (top3 mem x) (cellM x.l)) (instI sU (rawW x) sC sD) sX = 1 := by cases o <;> cases mem <;> kernel_rfl
  obtain ⟨L, hL⟩ : ∃ L, two o (top3 mem x) (cellM x.l) = L := ⟨_, rfl⟩
  rw [hL] at p1 ⊢
  simp only [top3, List.forall_mem_cons]
  exact ⟨tidy_port _ _ _ _ (by decide), tidy_chan _ _ _ _, tidy_chan _ _ _ _, tidy_inst _ _ _ _ _ p1, tidy_own _ _ _ _ _ _ _ (by simp only [List.forall_mem_cons]; exact ⟨tidy_put _ _ _ _ (cond1_sz _ _ _ _) (gen1_sz _ _ _ _), nil _⟩)⟩
end Go.Proofs.Ytejpmjnefokdoaa

namespace Go.Proofs.Ytejpmjnefokdoaa
open Go.Aw
/-- The module of a name. -/
def modOf (l : List Module) (n : Str) : Option Module := (findM l n).map fun i => l.getD i.toNat zMod
def portIs (x : Item) (a : Option Module) (n : Str) : Int := match a with | some a => if (x.kind.1 == 9) = true then pk a n else 0 | none => 0
theorem portOf_mod (l : List Module) (x : Item) (n : Str) : portOf l x n = portIs x (modOf l x.of) n := by
 rw [portOf_pk]; unfold modOf portIs; cases findM l x.of <;> rfl
def misIs (x : Item) (a : Option Module) : Bool := match a with
 | none => false
 | some a => (portsM a).any (fun p => (get (cnts x.ports) p.1).getD 0 != 1) || ((x.args.length : Int) != (a.params.length : Int) || (x.ports.length : Int) != ((portsM a).length : Int))
theorem misfit_mod (l : List Module) (x : Item) : misfit l x = misIs x (modOf l x.of) := by
 unfold misfit misIs modOf; cases findM l x.of <;> rfl
/-- Two modules with the same ports and as many parameters. -/
structure PE (a b : Module) : Prop where
 pk : ∀ n, pk a n = pk b n
 ports : portsM a = portsM b
 params : a.params.length = b.params.length
def OR : Option Module → Option Module → Prop
 | none, none => True
 | some a, some b => PE a b
 | _, _ => False
theorem PE.rfl' (a : Module) : PE a a := ⟨fun _ => rfl, rfl, rfl⟩
theorem OR.refl' : ∀ a : Option Module, OR a a
 | none => trivial
 | some a => PE.rfl' a
theorem portIs_or {x : Item} {n : Str} : ∀ {a b : Option Module}, OR a b → portIs x a n = portIs x b n
 | none, none, _ => rfl
 | some a, some b, h => by unfold portIs; simp only; rw [h.pk]
theorem misIs_or {x : Item} : ∀ {a b : Option Module}, OR a b → misIs x a = misIs x b
 | none, none, _ => rfl
 | some a, some b, h => by unfold misIs; simp only; rw [h.ports, h.params]
theorem isSome_or : ∀ {a b : Option Module}, OR a b → a.isSome = b.isSome
 | none, none, _ => rfl
 | some a, some b, _ => rfl
theorem findM_some (l : List Module) (n : Str) : (findM l n).isSome = (modOf l n).isSome := by unfold modOf; cases findM l n <;> rfl
/-- Files in which names lead to modules with the same ports. -/
def Alike (l l' : List Module) : Prop := ∀ n, OR (modOf l n) (modOf l' n)
theorem endB_al {l l' : List Module} (h : Alike l l') (x : Item) (n : Str) : endB l x n = endB l' x n := by
 funext acc b; unfold endB; rw [portOf_mod, portOf_mod, portIs_or (h x.of)]
theorem ends_al {l l' : List Module} (h : Alike l l') (m : Module) (n : Str) : ends l m n = ends l' m n := by
 have : endX l n = endX l' n := by funext acc x; unfold endX; rw [endB_al h]
 unfold ends; rw [this]
theorem misfit_al {l l' : List Module} (h : Alike l l') (x : Item) : misfit l x = misfit l' x := by rw [misfit_mod, misfit_mod, misIs_or (h x.of)]
theorem lost_al {l l' : List Module} (h : Alike l l') (m : Module) (x : Item) : lost l m x = lost l' m x := by
 have e : lostT l m x = lostT l' m x := by unfold lostT; rw [findM_some, findM_some, isSome_or (h x.of)]
 unfold lost; rw [e]
theorem kindBad_al {l l' : List Module} (h : Alike l l') (m : Module) (x : Item) : kindBad l m x = kindBad l' m x := by
 unfold kindBad; rw [ends_al h, misfit_al h]
/-! ### The members of the list of problems -/
theorem mem_addP {F : List Problem} {p q : Problem} : q ∈ addP F p ↔ q ∈ F ∨ q = p := by
 unfold addP
 split
 ·rename_i h
  exact ⟨.inl, fun h' => by rcases h' with h' | rfl; exact h'; exact h⟩
 ·simp
theorem mem_addIf {F : List Problem} {b : Bool} {p q : Problem} : q ∈ addIf F b p ↔ q ∈ F ∨ (b = true ∧ q = p) := by
 unfold addIf
 cases b <;> simp [mem_addP]
theorem nodup_addP {F : List Problem} {p : Problem} (h : F.Nodup) : (addP F p).Nodup := by
 unfold addP
 split
 ·exact h
 ·rename_i hn
  rw [List.nodup_append]
  exact ⟨h, by simp, fun a ha b hb => by simp at hb; subst hb; intro e; subst e; exact hn ha⟩
theorem nodup_addIf {F : List Problem} {b : Bool} {p : Problem} (h : F.Nodup) : (addIf F b p).Nodup := by
 unfold addIf
 split
 ·exact nodup_addP h
 ·exact h
theorem mem_foldl {α β : Type} {f : List β → α → List β} {R : α → β → Prop} (h : ∀ F x q, q ∈ f F x ↔ q ∈ F ∨ R x q) : ∀ (l : List α) (F : List β) (q : β), q ∈ l.foldl f F ↔ q ∈ F ∨ ∃ x ∈ l, R x q
 | [], F, q => by simp
 | a :: r, F, q => by
  rw [List.foldl_cons, mem_foldl h r, h]
  simp [or_assoc]
theorem nodup_foldl {α β : Type} {f : List β → α → List β} (h : ∀ F x, F.Nodup → (f F x).Nodup) : ∀ (l : List α) (F : List β), F.Nodup → (l.foldl f F).Nodup
 | [], _, hF => hF
 | a :: r, F, hF => nodup_foldl h r _ (h F a hF)
def kcode (x : Item) : Int := if x.kind.1 = 5 then 4 else if x.kind.1 = 1 then 5 else if x.kind.1 = 2 then 5 else if x.kind.1 = 3 then 5 else if x.kind.1 = 9 then 6 else 8
theorem mem_itemK {l : List Module} {i k : Nat} {m : Module} {x : Item} {F : List Problem} {q : Problem} : q ∈ itemK l i k m x F ↔ q ∈ F ∨ (kindBad l m x = true ∧ q = ⟨kcode x, i, k⟩) := by
 unfold itemK kindBad kcode
 split
 ·exact mem_addIf
 split
 ·exact mem_addIf
 split
 ·exact mem_addIf
 split
 ·exact mem_addIf
 split
 ·exact mem_addIf
 split
 ·exact mem_addIf
 ·simp
theorem mem_itemD {i k : Nat} {m : Module} {x : Item} {F : List Problem} {q : Problem} : q ∈ itemD i k m x F ↔ q ∈ F ∨ ((declares x.kind.1 && badName m k x) = true ∧ q = ⟨1, i, k⟩) := by
 unfold itemD
 cases declares x.kind.1
 ·simp
 ·simp [mem_addIf]
/-- An item's code of a problem. -/
def isCode (l : List Module) (m : Module) (k : Nat) (x : Item) (c : Int) : Prop :=
 ((declares x.kind.1 && badName m k x) = true ∧ c = 1) ∨ (malformed x = true ∧ c = 2) ∨ (lost l m x = true ∧ c = 3) ∨ (kindBad l m x = true ∧ c = kcode x)
theorem isCode_al {l l' : List Module} (h : Alike l l') (m : Module) (k : Nat) (x : Item) (c : Int) : isCode l m k x c ↔ isCode l' m k x c := by
 unfold isCode; rw [lost_al h, kindBad_al h]
theorem prob_eq (q : Problem) (c : Int) (i k : Int) : q = ⟨c, i, k⟩ ↔ (q.code = c ∧ (q.module = i ∧ q.item = k)) := by
 cases q; simp
theorem mem_itemF {l : List Module} {i k : Nat} {m : Module} {x : Item} {F : List Problem} {q : Problem} : q ∈ itemF l i k m x F ↔ q ∈ F ∨ (isCode l m k x q.code ∧ (q.module = i ∧ q.item = k)) := by
 unfold itemF isCode
 rw [mem_itemK, mem_addIf, mem_addIf, mem_itemD]
 simp only [prob_eq]
 constructor
 ·rintro ((((h | h) | h) | h) | h)
  ·exact .inl h
  ·exact .inr ⟨.inl ⟨h.1, h.2.1⟩, h.2.2⟩
  ·exact .inr ⟨.inr (.inl ⟨h.1, h.2.1⟩), h.2.2⟩
  ·exact .inr ⟨.inr (.inr (.inl ⟨h.1, h.2.1⟩)), h.2.2⟩
  ·exact .inr ⟨.inr (.inr (.inr ⟨h.1, h.2.1⟩)), h.2.2⟩
 ·rintro (h | ⟨h | h | h | h, h'⟩)
  ·exact .inl (.inl (.inl (.inl h)))
  ·exact .inl (.inl (.inl (.inr ⟨h.1, h.2, h'⟩)))
  ·exact .inl (.inl (.inr ⟨h.1, h.2, h'⟩))
  ·exact .inl (.inr ⟨h.1, h.2, h'⟩)
  ·exact .inr ⟨h.1, h.2, h'⟩
/-- A head's code of a problem. -/
def isHead (l : List Module) (i : Nat) (m : Module) (c : Int) : Prop := (badHead l i m = true ∧ c = 1) ∨ (loops l i = true ∧ c = 7)
theorem mem_headF {l : List Module} {i : Nat} {m : Module} {F : List Problem} {q : Problem} : q ∈ headF l i m F ↔ q ∈ F ∨ (isHead l i m q.code ∧ (q.module = i ∧ q.item = -1)) := by
 unfold headF isHead
 rw [mem_addIf, mem_addIf]
 simp only [prob_eq]
 constructor
 ·rintro ((h | h) | h)
  ·exact .inl h
  ·exact .inr ⟨.inl ⟨h.1, h.2.1⟩, h.2.2⟩
  ·exact .inr ⟨.inr ⟨h.1, h.2.1⟩, h.2.2⟩
 ·rintro (h | ⟨h | h, h'⟩)
  ·exact .inl (.inl h)
  ·exact .inl (.inr ⟨h.1, h.2, h'⟩)
  ·exact .inr ⟨h.1, h.2, h'⟩
/-- Has a module this problem? -/
def modHas (l : List Module) (i : Nat) (m : Module) (q : Problem) : Prop :=
 q.module = i ∧ ((isHead l i m q.code ∧ q.item = -1) ∨ ∃ (k : Nat) (hk : k < m.items.length), isCode l m k m.items[k] q.code ∧ q.item = k)
theorem mem_modF {l : List Module} {F : List Problem} {p : Module × Nat} {q : Problem} : q ∈ modF l F p ↔ q ∈ F ∨ modHas l p.2 p.1 q := by
 unfold modF itemsF
 rw [List.take_length, mem_foldl (R := fun (r : Item × Nat) (q : Problem) => isCode l p.1 r.2 r.1 q.code ∧ (q.module = (p.2 : Int) ∧ q.item = (r.2 : Int))) (fun F x q => mem_itemF), mem_headF]
 unfold modHas
 constructor
 ·rintro ((h | h) | ⟨r, hr, h⟩)
  ·exact .inl h
  ·exact .inr ⟨h.2.1, .inl ⟨h.1, h.2.2⟩⟩
  ·rw [List.mem_zipIdx_iff_getElem?] at hr
   obtain ⟨hk, he⟩ := List.getElem?_eq_some_iff.1 hr
   exact .inr ⟨h.2.1, .inr ⟨r.2, hk, by rw [he]; exact h.1, h.2.2⟩⟩
 ·rintro (h | ⟨hm, h | ⟨k, hk, h⟩⟩)
  ·exact .inl (.inl h)
  ·exact .inl (.inr ⟨h.1, hm, h.2⟩)
  ·refine .inr ⟨(p.1.items[k], k), ?_, h.1, hm, h.2⟩
   rw [List.mem_zipIdx_iff_getElem?]
   simp [hk]
theorem mem_found {l : List Module} {q : Problem} : q ∈ found l ↔ ∃ (i : Nat) (h : i < l.length), modHas l i l[i] q := by
 unfold found
 rw [mem_foldl (R := fun p q => modHas l p.2 p.1 q) (fun F x q => mem_modF)]
 simp only [List.not_mem_nil, false_or]
 constructor
 ·rintro ⟨p, hp, h⟩
  rw [List.mem_zipIdx_iff_getElem?] at hp
  obtain ⟨hi, he⟩ := List.getElem?_eq_some_iff.1 hp
  exact ⟨p.2, hi, by rw [he]; exact h⟩
 ·rintro ⟨i, hi, h⟩
  refine ⟨(l[i], i), ?_, h⟩
  rw [List.mem_zipIdx_iff_getElem?]
  simp [hi]
theorem nodup_found (l : List Module) : (found l).Nodup := by
 unfold found
 refine nodup_foldl (fun F p hF => ?_) _ _ List.nodup_nil
 unfold modF itemsF
 refine nodup_foldl (fun F x hF => ?_) _ _ ?_
 ·unfold itemF itemK itemD
  have h0 : (if declares x.1.kind.1 = true then addIf F (badName p.1 x.2 x.1) ⟨1, p.2, x.2⟩ else F).Nodup := by
   split
   ·exact nodup_addIf hF
   ·exact hF
  have h1 := nodup_addIf (b := lost l p.1 x.1) (p := ⟨3, p.2, x.2⟩) (nodup_addIf (b := malformed x.1) (p := ⟨2, p.2, x.2⟩) h0)
  split
  ·exact nodup_addIf h1
  split
  ·exact nodup_addIf h1
  split
  ·exact nodup_addIf h1
  split
  ·exact nodup_addIf h1
  split
  ·exact nodup_addIf h1
  split
  ·exact nodup_addIf h1
  ·exact h1
 ·unfold headF
  exact nodup_addIf (nodup_addIf hF)
/-! ### Lists in order -/
def lePos (a b : Problem) : Prop := (!(ltOf cmpPos) b a) = true
theorem sortP_sorted (l : List Problem) : (sortP l).Pairwise lePos := by
 unfold sortP lePos
 refine List.pairwise_mergeSort (fun a b c h1 h2 => ?_) (fun a b => ?_) l
 ·simp only [Bool.not_eq_true'] at *
  exact swoPos.ntrans _ _ _ h2 h1
 ·simp only [Bool.or_eq_true, Bool.not_eq_true']
  rw [ltOf_posF, ltOf_posF]
  unfold posLt
  omega
theorem sorted_unique {a b : List Problem} (hp : a.Perm b) (ha : a.Pairwise lePos) (hb : b.Pairwise lePos) : a = b := by
 refine List.Perm.eq_of_pairwise (le := fun a b => !(ltOf cmpPos) b a) ?_ ha hb hp
 intro x y _ _ h1 h2
 simp only [Bool.not_eq_true'] at h1 h2
 exact posTotal x y h2 h1
theorem sortP_self (l : List Problem) : (sortP l).Perm l := List.mergeSort_perm l _
theorem mem_check {l : List Module} {q : Problem} : q ∈ check l ↔ q ∈ found l := (sortP_self _).mem_iff
theorem nodup_check (l : List Module) : (check l).Nodup := (sortP_self _).nodup_iff.2 (nodup_found l)
/-- Two lists in order without doubles, of the same members. -/
theorem sorted_ext {a b : List Problem} (na : a.Nodup) (nb : b.Nodup) (ha : a.Pairwise lePos) (hb : b.Pairwise lePos) (h : ∀ q, q ∈ a ↔ q ∈ b) : a = b :=
 sorted_unique ((List.perm_ext_iff_of_nodup na nb).2 h) ha hb
end Go.Proofs.Ytejpmjnefokdoaa
