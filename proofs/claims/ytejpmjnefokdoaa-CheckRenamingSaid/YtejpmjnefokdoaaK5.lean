/-
  CONTRACTS of the functions that the law reaches, and plain laws on what they compute. Conditions: those of each law.
-/
import Derived.Test.YtejpmjnefokdoaaK4
set_option linter.unusedSimpArgs false
set_option linter.unusedVariables false
namespace Go.Proofs.Ytejpmjnefokdoaa
open Go.Aw
set_option maxRecDepth 100000
def sz (e : Expr) : Nat := e.all.length
theorem allL_len : ∀ r : List Expr, (Expr.allL r).length = (r.map sz).sum
  | [] => rfl
  | e :: r => by rw [Expr.allL, List.length_append, List.map_cons, List.sum_cons, allL_len r]; rfl
theorem sz_mk (o : Int) (n : Str) (k w : Num) (r : List Expr) : sz (.mk o n k w r) = (r.map sz).sum + 1 := by
  unfold sz
  rw [Expr.all_eq, List.length_cons, Expr.args, allL_len]; rfl
theorem leaf_sz (l : List Nat) (ns : List Str) (w : Num) (a : Nat) : sz (leaf l ns w a) = 1 := by
  unfold leaf; split <;> rw [sz_mk] <;> rfl
theorem condOf_sz (x y : Expr) (k : Nat) : sz (condOf x y k) ≤ sz x + sz y + 1 := by
  unfold condOf
  split
  · rw [sz_mk]; simp
  split
  · rw [sz_mk]; simp
  split
  · rw [sz_mk]; simp
  · rw [sz_mk]; simp
theorem nodeOf_sz (x y c : Expr) (k : Nat) : sz (nodeOf x y c k) ≤ sz x + sz y + sz c + 1 := by
  unfold nodeOf
  split
  · rw [sz_mk]; simp only [List.map_cons, List.map_nil, List.sum_cons, List.sum_nil]; omega
  split
  · rw [sz_mk]; simp only [List.map_cons, List.map_nil, List.sum_cons, List.sum_nil]; omega
  split
  · rw [sz_mk]; simp only [List.map_cons, List.map_nil, List.sum_cons, List.sum_nil]; omega
  split
  · rw [sz_mk]; simp only [List.map_cons, List.map_nil, List.sum_cons, List.sum_nil]; omega
  split
  · rw [sz_mk]; simp only [List.map_cons, List.map_nil, List.sum_cons, List.sum_nil]; omega
  split
  · rw [sz_mk]; simp only [List.map_cons, List.map_nil, List.sum_cons, List.sum_nil]; omega
  · rw [sz_mk]; simp only [List.map_cons, List.map_nil, List.sum_cons, List.sum_nil]; omega
theorem gen0_sz (l : List Nat) (ns : List Str) (w : Num) (a : Nat) : sz (gen l ns w 0 a) ≤ 20 := by
  have := leaf_sz l ns w a
  show sz (leaf l ns w a) ≤ 20
  omega
theorem gen1_sz' (l : List Nat) (ns : List Str) (w : Num) (a : Nat) : sz (gen l ns w 1 a) ≤ 6 := by
  unfold gen
  split
  · have := leaf_sz l ns w a; omega
  · have h1 := leaf_sz l ns w (3 * a + 1)
    have h2 := leaf_sz l ns w (3 * a + 2)
    have h3 := leaf_sz l ns w (3 * a + 4)
    have h4 := leaf_sz l ns w (3 * a + 5)
    have h5 := condOf_sz (gen l ns w 0 (3 * a + 4)) (leaf l ns w (3 * a + 5)) (byteL l (3 * a + 3))
    have h6 := nodeOf_sz (gen l ns w 0 (3 * a + 1)) (gen l ns w 0 (3 * a + 2)) (condOf (gen l ns w 0 (3 * a + 4)) (leaf l ns w (3 * a + 5)) (byteL l (3 * a + 3))) (byteL l a)
    simp only [gen] at h5 h6 ⊢
    omega
theorem gen1_sz (l : List Nat) (ns : List Str) (w : Num) (a : Nat) : sz (gen l ns w 1 a) ≤ 20 := Nat.le_trans (gen1_sz' l ns w a) (by decide)
theorem cond1_sz (l : List Nat) (ns : List Str) (w : Num) (a : Nat) : sz (cond l ns w 1 a) ≤ 20 := by
  have h1 := gen1_sz' l ns w (a + 1)
  have h2 := leaf_sz l ns w (a + 2)
  have h3 := condOf_sz (gen l ns w 1 (a + 1)) (leaf l ns w (a + 2)) (byteL l a)
  unfold cond
  omega
theorem data_sz (mem : Bool) (l : List Nat) (w : Num) (c0 : Str) : sz (dataT mem l w c0) ≤ 20 := by
  cases mem
  · exact gen1_sz _ _ _ _
  · have h1 := gen1_sz' l [sR, sS, sT, c0] w 8
    have h2 := leaf_sz l [sR, sS] w 10
    show sz (.mk 5 emp zNum zNum [gen l [sR, sS, sT, c0] w 1 8, .mk 15 sM zNum zNum [gen l [sR, sS] w 0 10]]) ≤ 20
    rw [sz_mk, List.map_cons, List.map_cons, List.map_nil, sz_mk, List.map_cons, List.map_nil]
    simp only [List.sum_cons, List.sum_nil, gen] at *
    omega
theorem numbers_len (x : Item) (ha : sz x.a ≤ 20) (hb : sz x.b ≤ 20) (hc : sz x.c ≤ 20) (hr : x.args.length ≤ 2) : (numbers x).length ≤ 2000000 := by
  unfold numbers
  rw [List.length_append]
  have h1 : (numHead x).length ≤ 2 := by
    unfold numHead
    split
    · simp
    split
    · simp
    split
    · simp
    split
    · exact hr
    · simp
  have h2 : (Expr.allL (uses x)).length ≤ 60 := by
    have := (allL_pre [x.a, x.b, x.c] (usesN x.kind.1)).length_le
    rw [allL_len [x.a, x.b, x.c]] at this
    simp only [List.map_cons, List.map_nil, List.sum_cons, List.sum_nil] at this
    unfold uses
    omega
  have h3 : ∀ r : List Expr, (r.flatMap numsE).length ≤ 2 * r.length := by
    intro r
    induction r with
    | nil => simp
    | cons q r ih =>
      rw [List.flatMap_cons, List.length_append, List.length_cons]
      have : (numsE q).length ≤ 2 := by
        unfold numsE
        split
        · simp
        split
        · simp
        split
        · simp
        · simp
      omega
  have := h3 (Expr.allL (uses x))
  omega
structure Tidy (l : List Module) (y : Item) : Prop where
  a : sz y.a ≤ 20
  b : sz y.b ≤ 20
  c : sz y.c ≤ 20
  args : y.args.length ≤ 2
  ports : y.ports.length ≤ 2
  inst : y.kind.1 = 9 → ∃ b ∈ y.ports, portOf l y b.port = 1 ∨ portOf l y b.port = 2
theorem sz_z : sz zExpr ≤ 20 := by unfold zExpr; rw [sz_mk]; simp
theorem tidy_port (l : List Module) (k : I64) (n : Str) (w : Num) (hk : k.1 ≠ 9) : Tidy l (portI k n w) := { a := sz_z, b := sz_z, c := sz_z, args := by simp [portI, zItem], ports := by simp [portI, zItem], inst := fun h => absurd h hk }
theorem tidy_chan (l : List Module) (n : Str) (w d : Num) : Tidy l (chanI n w d) := { a := sz_z, b := sz_z, c := sz_z, args := by simp [chanI, zItem], ports := by simp [chanI, zItem], inst := fun h => by simp [chanI] at h }
theorem tidy_reg (l : List Module) (n : Str) (r : List Nat) (a : Nat) (ns : List Str) (w : Num) : Tidy l (regI n r a ns w) := { a := gen1_sz _ _ _ _, b := sz_z, c := sz_z, args := by simp [regI, zItem], ports := by simp [regI, zItem], inst := fun h => by simp [regI] at h }
theorem tidy_wire (l : List Module) (n : Str) (w : Num) (e : Expr) (he : sz e ≤ 20) : Tidy l (wireI n w e) := { a := he, b := sz_z, c := sz_z, args := by simp [wireI, zItem], ports := by simp [wireI, zItem], inst := fun h => by simp [wireI] at h }
theorem tidy_take (l : List Module) (n : Str) (e : Expr) (he : sz e ≤ 20) : Tidy l (takeI n e) := { a := he, b := sz_z, c := sz_z, args := by simp [takeI, zItem], ports := by simp [takeI, zItem], inst := fun h => by simp [takeI] at h }
theorem tidy_put (l : List Module) (n : Str) (e z : Expr) (he : sz e ≤ 20) (hz : sz z ≤ 20) : Tidy l (putI n e z) := { a := he, b := hz, c := sz_z, args := by simp [putI, zItem], ports := by simp [putI, zItem], inst := fun h => by simp [putI] at h }
theorem tidy_mem (l : List Module) (r : List Nat) (w : Num) (c0 : Str) : Tidy l (memI r w c0) := { a := cond1_sz _ _ _ _, b := gen0_sz _ _ _ _, c := gen1_sz _ _ _ _, args := by simp [memI, zItem], ports := by simp [memI, zItem], inst := fun h => by simp [memI] at h }
theorem tidy_inst (l : List Module) (n : Str) (w : Num) (c0 c1 : Str) (h : portOf l (instI n w c0 c1) sX = 1) : Tidy l (instI n w c0 c1) := { a := sz_z, b := sz_z, c := sz_z, args := by simp [instI], ports := by simp [instI], inst := fun _ => ⟨⟨sX, c0⟩, by simp [instI], .inl h⟩ }
theorem tidy_own (l : List Module) (mem : Bool) (r : List Nat) (w : Num) (c0 c1 : Str) (z : List Item) (hz : ∀ y ∈ z, Tidy l y) : ∀ y ∈ ownT mem r w c0 c1 z, Tidy l y := by
  cases mem
  · simp only [ownT, List.forall_mem_cons]
    exact ⟨tidy_reg _ _ _ _ _ _, tidy_reg _ _ _ _ _ _, tidy_wire _ _ _ _ (gen1_sz _ _ _ _), tidy_take _ _ _ (cond1_sz _ _ _ _), tidy_put _ _ _ _ (cond1_sz _ _ _ _) (data_sz _ _ _ _), hz⟩
  · simp only [ownT, List.forall_mem_cons]
    exact ⟨tidy_reg _ _ _ _ _ _, tidy_reg _ _ _ _ _ _, tidy_wire _ _ _ _ (gen1_sz _ _ _ _), tidy_mem _ _ _ _, tidy_take _ _ _ (cond1_sz _ _ _ _), tidy_put _ _ _ _ (cond1_sz _ _ _ _) (data_sz _ _ _ _), hz⟩
theorem tidy_cell (l : List Module) (b : List Nat) : ∀ y ∈ (cellM b).items, Tidy l y := by
  simp only [cellM, List.forall_mem_cons]
  exact ⟨tidy_port _ _ _ _ (by decide), tidy_port _ _ _ _ (by decide), tidy_reg _ _ _ _ _ _, tidy_wire _ _ _ _ (gen1_sz _ _ _ _), tidy_take _ _ _ (cond1_sz _ _ _ _), tidy_put _ _ _ _ (cond1_sz _ _ _ _) (gen1_sz _ _ _ _), by simp⟩
theorem tidy_made (x : Raw) : (made x).length ≤ 2 ∧ 0 < (made x).length ∧ ∀ m ∈ made x, (0 < m.items.length ∧ m.items.length ≤ 20) ∧ ∀ y ∈ m.items, Tidy (made x) y := by
  have nil : ∀ (l : List Module), ∀ y ∈ ([] : List Item), Tidy l y := by simp
  have hm : ∀ (o : Bool) (a b : Module) (P : Module → Prop), P a → P b → ∀ m ∈ two o a b, P m := by
    intro o a b P ha hb m hm
    cases o
    · simp only [two, List.mem_cons, List.not_mem_nil, or_false] at hm
      rcases hm with rfl | rfl
      · exact hb
      · exact ha
    · simp only [two, List.mem_cons, List.not_mem_nil, or_false] at hm
      rcases hm with rfl | rfl
      · exact ha
      · exact hb
  have hl : ∀ (o : Bool) (a b : Module), (two o a b).length ≤ 2 ∧ 0 < (two o a b).length := by
    intro o a b
    cases o <;> exact ⟨by simp [two], by simp [two]⟩
  rcases made_shape x with ⟨mem, h⟩ | ⟨o, h⟩ | ⟨o, mem, h⟩ | ⟨o, mem, h⟩
  · rw [h]
    refine ⟨by simp, by simp, fun m hm => ?_⟩
    simp only [List.mem_cons, List.not_mem_nil, or_false] at hm
    subst hm
    refine ⟨by cases mem <;> exact ⟨by simp [top0], by simp [top0, ownT]⟩, ?_⟩
    simp only [top0, List.forall_mem_cons]
    exact ⟨tidy_port _ _ _ _ (by decide), tidy_port _ _ _ _ (by decide), tidy_own _ _ _ _ _ _ _ (nil _)⟩
  · rw [h]
    refine ⟨(hl _ _ _).1, (hl _ _ _).2, hm _ _ _ _ ⟨⟨by simp [top1], by simp [top1]⟩, ?_⟩ ⟨⟨by simp [cellM], by simp [cellM]⟩, tidy_cell _ _⟩⟩
    have p1 : portOf (two o (top1 x) (cellM x.l)) (instI sU (rawW x) sA sC) sX = 1 := by cases o <;> kernel_rfl
    have p2 : portOf (two o (top1 x) (cellM x.l)) (instI sVV (rawW x) sC sB) sX = 1 := by cases o <;> kernel_rfl
    obtain ⟨L, hL⟩ : ∃ L, two o (top1 x) (cellM x.l) = L := ⟨_, rfl⟩
    rw [hL] at p1 p2 ⊢
    simp only [top1, List.forall_mem_cons]
    exact ⟨tidy_port _ _ _ _ (by decide), tidy_port _ _ _ _ (by decide), tidy_chan _ _ _ _, tidy_inst _ _ _ _ _ p1, tidy_inst _ _ _ _ _ p2, nil _⟩
  · rw [h]
    refine ⟨(hl _ _ _).1, (hl _ _ _).2, hm _ _ _ _ ⟨by cases mem <;> exact ⟨by simp [top2], by simp [top2, ownT]⟩, ?_⟩ ⟨⟨by simp [cellM], by simp [cellM]⟩, tidy_cell _ _⟩⟩
    have p1 : portOf (two o (top2 mem x) (cellM x.l)) (instI sU (rawW x) sA sC) sX = 1 := by cases o <;> cases mem <;> kernel_rfl
    obtain ⟨L, hL⟩ : ∃ L, two o (top2 mem x) (cellM x.l) = L := ⟨_, rfl⟩
    rw [hL] at p1 ⊢
    simp only [top2, List.forall_mem_cons]
    exact ⟨tidy_port _ _ _ _ (by decide), tidy_port _ _ _ _ (by decide), tidy_chan _ _ _ _, tidy_inst _ _ _ _ _ p1, tidy_own _ _ _ _ _ _ _ (nil _)⟩
  · rw [h]
    refine ⟨(hl _ _ _).1, (hl _ _ _).2, hm _ _ _ _ ⟨by cases mem <;> exact ⟨by simp [top3], by simp [top3, ownT]⟩, ?_⟩ ⟨⟨by simp [cellM], by simp [cellM]⟩, tidy_cell _ _⟩⟩
    have p1 : portOf (two o (top3 mem x) (cellM x.l)) (instI sU (rawW x) sC sD) sX = 1 := by cases o <;> cases mem <;> kernel_rfl
    obtain ⟨L, hL⟩ : ∃ L, two o (top3 mem x) (cellM x.l) = L := ⟨_, rfl⟩
    rw [hL] at p1 ⊢
    simp only [top3, List.forall_mem_cons]
    exact ⟨tidy_port _ _ _ _ (by decide), tidy_chan _ _ _ _, tidy_chan _ _ _ _, tidy_inst _ _ _ _ _ p1, tidy_own _ _ _ _ _ _ _ (by simp only [List.forall_mem_cons]; exact ⟨tidy_put _ _ _ _ (cond1_sz _ _ _ _) (gen1_sz _ _ _ _), nil _⟩)⟩
end Go.Proofs.Ytejpmjnefokdoaa
