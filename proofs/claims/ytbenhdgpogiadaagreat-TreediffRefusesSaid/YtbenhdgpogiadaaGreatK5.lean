/-
 CONTRACTS of the functions that the law reaches, and plain laws on what they compute. Conditions: those of each law.
-/
import Derived.Test.YtbenhdgpogiadaaGreatK1
import Derived.Test.YtbenhdgpogiadaaGreatGSr
import Derived.Test.YtbenhdgpogiadaaGreatGIn
import Derived.Test.YtbenhdgpogiadaaGreatK3
import Derived.Shelf.SlSortCmp.InsertionK
import Derived.Test.YtbenhdgpogiadaaGreatK4
import Derived.Test.YtbenhdgpogiadaaGreatK2
set_option linter.unusedSimpArgs false
set_option linter.unusedVariables false
namespace Go.Proofs.YtbenhdgpogiadaaGreat
open Go.Aw Go.Sort Go.RowKit Go.Lib Go.Shelf
set_option maxRecDepth 1000000
variable {α : Type} [Inhabited α]
/-- What does not change on the way: all but one block of cells. -/
structure Frm (W wr : World) (g : Nat) (e : TypeId) (sz : Nat) : Prop where
 os : wr.os = W.os
 tape : wr.tape = W.tape
 output : wr.output = W.output
 size : W.heap.size ≤ wr.heap.size
 same : ∀ b, b < W.heap.size → b ≠ g → wr.heap[b]? = W.heap[b]?
 cells : ∃ cur, wr.heap[g]? = some (.cells cur e (0, 0)) ∧ cur.size = sz
theorem Frm.grow {W wr : World} {g : Nat} {e : TypeId} {sz : Nat} (h : Frm W wr g e sz) (hg : g < W.heap.size) (q : Nat) (os' : Array Obj) : Frm W (grow (wr.drewN q) os') g e sz := by
 have hb : ∀ b, b < wr.heap.size → (Go.Sort.grow (wr.drewN q) os').heap[b]? = wr.heap[b]? := fun b hb => by
  show (wr.heap ++ os')[b]? = _
  rw [Array.getElem?_append_left hb]
 have hgw : g < wr.heap.size := Nat.lt_of_lt_of_le hg h.size
 refine ⟨h.os, h.tape, h.output, Nat.le_trans h.size (by show wr.heap.size ≤ (wr.heap ++ os').size; simp), fun b hlt hne => ?_, ?_⟩
 ·rw [hb b (Nat.lt_of_lt_of_le hlt h.size), h.same b hlt hne]
 ·rw [hb g hgw]; exact h.cells
theorem Frm.put {W wr : World} {g : Nat} {e : TypeId} {sz : Nat} (h : Frm W wr g e sz) (o : Nat) (vs : List Value) : Frm W (wr.setCells g o vs) g e sz := by
 obtain ⟨r1, r2, r3, r4⟩ := setCells_rest g vs o wr
 obtain ⟨cur, h1, h2⟩ := h.cells
 exact ⟨r1.trans h.os, r2.trans h.tape, r3.trans h.output, by rw [r4]; exact h.size, fun b hlt hne => by rw [setCells_else g vs o wr b hne]; exact h.same b hlt hne, _, setCells_at g vs o wr cur e (0, 0) h1, by rw [putL_size]; exact h2⟩
theorem Frm.drew {W wr : World} {g : Nat} {e : TypeId} {sz : Nat} (h : Frm W wr g e sz) : Frm W wr.drew g e sz := ⟨h.os, h.tape, h.output, h.size, h.same, h.cells⟩
theorem holdsK_grow' {enc : α → List Value} {k : Nat} {wr : World} {g off : Nat} {d : Array α} (h : HoldsK enc k wr g off d) (hg : g < wr.heap.size) (q : Nat) (os' : Array Obj) : HoldsK enc k (grow (wr.drewN q) os') g off d := by
 refine holdsK_grow enc k (wr.drewN q) os' g off d hg ?_
 exact h
theorem setMany_set (enc : α → List Value) (k : Nat) (hk : ∀ x, (enc x).length = k) (d : Array α) (i : Nat) (x : α) (hi : i < d.size) : setMany (flatK enc k d) (i * k) (enc x) = flatK enc k (d.setIfInBounds i x) := by
 have hb : i * k + k ≤ d.size * k := by have := Nat.mul_le_mul_right k (show i + 1 ≤ d.size from hi); rwa [Nat.add_mul, Nat.one_mul] at this
 apply Array.ext
 ·simp
 ·intro t h1 h2
  have ht : t < d.size * k := by simpa using h1
  have hk0 : 0 < k := Nat.pos_of_ne_zero fun h => by subst h; simp at ht
  rw [← getElem!_pos _ t h1, ← getElem!_pos _ t h2, get_setMany _ _ _ t (by simpa using ht), get_flatK _ _ _ t ht, get_flatK _ _ _ t (by simpa using ht), hk]
  have hd : t / k < d.size := Nat.div_lt_of_lt_mul (by rw [Nat.mul_comm]; exact ht)
  by_cases e : t / k = i
  ·have h3 : i * k ≤ t ∧ t < i * k + k := by
    have a1 := Nat.div_add_mod t k
    have a2 := Nat.mod_lt t hk0
    rw [e, Nat.mul_comm] at a1
    omega
   rw [if_pos h3]
   have h4 : t - i * k = t % k := by
    have a1 := Nat.div_add_mod t k
    rw [e, Nat.mul_comm] at a1
    omega
   have hx : (d.setIfInBounds i x)[i]! = x := by
    rw [getElem!_pos (d.setIfInBounds i x) i (by simpa using hi)]
    simp
   rw [h4, e, hx]
  ·have h3 : ¬ (i * k ≤ t ∧ t < i * k + k) := fun ⟨a, b⟩ => e (by
    apply Nat.div_eq_of_lt_le
    ·exact a
    ·rw [Nat.add_mul, Nat.one_mul]; exact b)
   have hx : (d.setIfInBounds i x)[t / k]! = d[t / k]! := by
    rw [getElem!_pos (d.setIfInBounds i x) (t / k) (by simpa using hd), getElem!_pos d (t / k) hd]
    exact Array.getElem_setIfInBounds_ne _ (Ne.symm e)
   rw [if_neg h3, hx]
theorem holdsK_set {enc : α → List Value} {k : Nat} (hk : ∀ x, (enc x).length = k) {W : World} {g off : Nat} {d : Array α} (h : HoldsK enc k W g off d) (i : Nat) (x : α) (hi : i < d.size) : HoldsK enc k (W.setCells g (off + i * k) (enc x)) g off (d.setIfInBounds i x) := by
 have hb : i * k + k ≤ d.size * k := by have := Nat.mul_le_mul_right k (show i + 1 ≤ d.size from hi); rwa [Nat.add_mul, Nat.one_mul] at this
 unfold HoldsK
 rw [← setMany_set enc k hk d i x hi]
 exact holds_setCells_c h (i * k) (enc x) (by rw [hk, size_flatK]; exact hb)
theorem run_clear_n {P : Program} (w : World) (t e ty : TypeId) (z : Value) (ht : P.underlying t = some (.slice e)) (hv : ∀ w, (zeroValue e).run P w = .ok z w) (b o n c : Nat) (hn : 0 < n) (h1 : ∀ v ∈ (Builtin.zeroCells z.cells n).toList, v.oneCell' = true)
  (hc : ∀ j, j < (Builtin.zeroCells z.cells n).toList.length → (w.cell? ⟨b, o + j, none⟩).isSome = true) (hf : ∀ j, j < (Builtin.zeroCells z.cells n).toList.length → w.frozen? ⟨b, o + j, none⟩ = false) :
  (Builtin.clear_ #[t] ty #[.slice (some ⟨b, o, none⟩) n c]).run P w = .ok (.tuple #[]) (w.setCells b o (Builtin.zeroCells z.cells n).toList) := by
 have hst := run_storeCells_cells (P := P) b o (Builtin.zeroCells z.cells n).toList 0 w (by simpa using hc) (by simpa using hf) h1
 simp only [Nat.add_zero] at hst
 obtain ⟨m, rfl⟩ : ∃ m, n = m + 1 := ⟨n - 1, by omega⟩
 simp [Builtin.clear_, run_underlying ht, hv, hst]
theorem zeroCells_one {cells : Array Value} (h0 : 0 < cells.size) (h : ∀ v ∈ cells.toList, v.oneCell' = true) (n : Nat) : ∀ v ∈ (Builtin.zeroCells cells n).toList, v.oneCell' = true := by
 intro v hv
 simp only [Builtin.zeroCells, Array.toList_map, List.mem_map] at hv
 obtain ⟨i, _, rfl⟩ := hv
 have hi : i % cells.size < cells.size := Nat.mod_lt _ h0
 rw [getElem!_pos cells _ hi]
 exact h _ (by simp)
structure Hc (p : Prop) : Prop where
 out : p
def CompQ (d : Array α) (ef : α → α → Bool) (W : World) (g off cap : Nat) (e : TypeId) (sz : Nat) (e' : Ending) (W' : World) : Prop :=
 ∃ m : Nat, e' = .returned (.slice (some ⟨g, off, none⟩) m cap) ∧ Frm W W' g e sz ∧ ((m = d.size ∧ ∀ j, j + 1 < d.size → ef d[j + 1]! d[j]! = false) ∨ (m < d.size ∧ ∃ j, j + 1 < d.size ∧ ef d[j + 1]! d[j]! = true))
set_option maxHeartbeats 8000000 in
theorem compactItem_w {P : Program} (hP : Tryz.prog = P) (enc : α → List Value) (k : Nat) (hk2 : k = 35) (hk : ∀ x, (enc x).length = k) (h1 : ∀ x, ∀ v ∈ enc x, v.oneCell' = true) (ef : α → α → Bool) (gf : Nat) (cb : Array Value) (g off cap sz : Nat) (d : Array α) (W : World)
  (eg : ∀ args w, (callFunc gf args).run P w = .ok (.enter gf args) w)
  (hcmp : ∀ wr, Frm W wr g 64 sz → ∀ x y : α, Calls P gf (#[.agg (enc x).toArray, .agg (enc y).toArray] ++ cb) wr fun e w' => e = .returned (.bool (ef x y)) ∧ ∃ q os', w' = grow (wr.drewN q) os')
  (hH : HoldsK enc k W g off d) (hg : ∃ cur, W.heap[g]? = some (.cells cur 64 (0, 0)) ∧ cur.size = sz) (hcap : d.size ≤ cap) (hmx : cap ≤ 9223372036854775807) (hsz : d.size < 4611686018427387904) :
  Calls P 108 #[.slice (some ⟨g, off, none⟩) d.size cap, .func (.func gf) #[] cb] W (CompQ d ef W g off cap 64 sz) := by
 have F := Tryz.func108
 have mixed := mixed
 have t0 := Tryz.underlying0; have a0 := Tryz.isAgg0; have z0 := Tryz.sizeOf0; have v0 := Tryz.zeroValue0
 have t3 := Tryz.underlying3; have a3 := Tryz.isAgg3; have z3 := Tryz.sizeOf3; have v3 := Tryz.zeroValue3
 have t4 := Tryz.underlying4; have a4 := Tryz.isAgg4; have z4 := Tryz.sizeOf4; have v4 := Tryz.zeroValue4
 have tS := Tryz.underlying51; have aS := Tryz.isAgg51; have zS := Tryz.sizeOf51; have vS := Tryz.zeroValue51
 have aE := Tryz.isAgg64; have zE := Tryz.sizeOf64
 have uS := run_underlying tS
 obtain ⟨i0, zz, _, hi0, hz0, hzc, _, _, _⟩ := appTy_some tA51
 have hz0v : ∀ w, (zeroValue 64).run Tryz.prog w = .ok zz w := fun w => by simp [zeroValue, typeInfo, hi0, hz0]
 have hz1 : ∀ v ∈ zz.cells.toList, v.oneCell' = true := by
  have h0 := Tryz.zeroValue64 W
  rw [hz0v W] at h0
  cases h0
  rw [← List.all_eq_true]
  kernel_rfl
 have ZV : Hc (∀ w, (zeroValue 64).run P w = .ok zz w) := ⟨by rw [← hP]; exact hz0v⟩
 have ZS : Hc (zz.cells.size = k) := ⟨by rw [hk2]; exact hzc⟩
 have ZO : Hc (∀ n, ∀ v ∈ (Builtin.zeroCells zz.cells n).toList, v.oneCell' = true) := ⟨fun n => zeroCells_one (by rw [hzc]; omega) hz1 n⟩
 clear hi0 hz0 hzc hz0v hz1
 rw [← hk2] at zE
 rw [hP] at F mixed t0 a0 z0 v0 t3 a3 z3 v3 t4 a4 z4 v4 tS aS zS vS aE zE uS
 clear hk2
 obtain ⟨cur, hg1, hg2⟩ := hg
 have hgW : g < W.heap.size := (Array.getElem?_eq_some_iff.1 hg1).1
 have F0 : Frm W W g 64 sz := ⟨rfl, rfl, rfl, Nat.le_refl _, fun _ _ _ => rfl, cur, hg1, hg2⟩
 have HC : Hc (∀ wr, Frm W wr g 64 sz → ∀ x y : α, Calls P gf (#[.agg (enc x).toArray, .agg (enc y).toArray] ++ cb) wr fun e w' => e = .returned (.bool (ef x y)) ∧ ∃ q os', w' = grow (wr.drewN q) os') := ⟨hcmp⟩
 have HK : Hc (∀ x, (enc x).length = k) := ⟨hk⟩
 have H1 : Hc (∀ x, ∀ v ∈ enc x, v.oneCell' = true) := ⟨h1⟩
 have HF0 : Hc (Frm W W g 64 sz) := ⟨F0⟩
 have HH0 : Hc (HoldsK enc k W g off d) := ⟨hH⟩
 clear hcmp hk h1 F0 hH hg1 hg2
 by_cases h2 : d.size < 2
 ·have h2z : (d.size : Int) < 2 := by omega
  go_enter F, Tryz.ntmps108
  go_wp2
  go_ret
  exact ⟨d.size, rfl, HF0.out, .inl ⟨rfl, fun j hj => by omega⟩⟩
 ·have h2z : ¬ (d.size : Int) < 2 := by omega
  go_enter F, Tryz.ntmps108
  go_wp2
  go_loopg [5] d.size (fun g1 s5 wr => ∃ kk : Nat, 1 ≤ kk ∧ kk ≤ d.size ∧ d.size - kk ≤ g1 ∧ s5 = .int .i64 kk ∧ Hc (HoldsK enc k wr g off d) ∧ Hc (Frm W wr g 64 sz) ∧ Hc (∀ j, j + 1 < kk → ef d[j + 1]! d[j]! = false))
  case atStart => exact ⟨1, Nat.le_refl _, by omega, by omega, rfl, HH0, HF0, ⟨fun j hj => by omega⟩⟩
  case round =>
   obtain ⟨kk, hk1, hkn, hg1, rfl, HH, HF, HA⟩ := hrel
   by_cases hlt : kk < d.size
   ·obtain ⟨jp, rfl⟩ : ∃ jp, kk = jp + 1 := ⟨kk - 1, by omega⟩
    obtain ⟨xj, hxj⟩ : ∃ x, d[jp + 1]! = x := ⟨_, rfl⟩
    obtain ⟨xp, hxp⟩ : ∃ x, d[jp]! = x := ⟨_, rfl⟩
    have hwp : IntKind.i64.wrap (jp : Int) = (jp : Int) := by rw [IntKind.wrap_i64]; omega
    have jz : (jp : Int) + 1 < (d.size : Int) := by omega
    have jz1 : (jp : Int) < (d.size : Int) := by omega
    have p0 : (0 : Int) ≤ (jp : Int) + 1 := by omega
    have e0 : ((jp : Int) + 1).toNat = jp + 1 := by omega
    have hgw : g < wr.heap.size := Nat.lt_of_lt_of_le hgW HF.out.size
    have lj : ∀ n' os', Sem.run P (loadCellsFrom ⟨g, off + (jp + 1) * k, none⟩ 0 k #[]) (grow (wr.drewN n') os') = .ok (enc xj).toArray (grow (wr.drewN n') os') := fun n' os' => by
     rw [← hxj]; exact run_loadCellsFrom_list P _ _ _ k (HK.out _) (HoldsK.cells (holdsK_grow' HH.out hgw n' os') HK.out (by omega))
    have lp : ∀ n' os', Sem.run P (loadCellsFrom ⟨g, off + jp * k, none⟩ 0 k #[]) (grow (wr.drewN n') os') = .ok (enc xp).toArray (grow (wr.drewN n') os') := fun n' os' => by
     rw [← hxp]; exact run_loadCellsFrom_list P _ _ _ k (HK.out _) (HoldsK.cells (holdsK_grow' HH.out hgw n' os') HK.out (by omega))
    have hcg : ∀ n' os', Calls P gf (#[.agg (enc xj).toArray, .agg (enc xp).toArray] ++ cb) (grow (wr.drewN n') os') fun e w' => e = .returned (.bool (ef xj xp)) ∧ ∃ q os'', w' = grow ((grow (wr.drewN n') os').drewN q) os'' := fun n' os' =>
     HC.out _ (HF.out.grow hgW n' os') xj xp
    have HX : Hc (d[jp + 1]! = xj ∧ d[jp]! = xp) := ⟨hxj, hxp⟩
    clear hxj hxp
    cases hev : ef xj xp with
    | false =>
     rw [hev] at hcg
     go_wp2_with fail
     go_quiet_grown (first | (go_at_fn gf; refine Calls.grown_of (hcg _ _)))
     go_wp2
     go_roundg (d.size - (jp + 1 + 1))
     case measure => omega
     case rel =>
      refine ⟨jp + 1 + 1, by omega, by omega, Nat.le_refl _, by go_num, ⟨holdsK_grow' HH.out hgw _ _⟩, ⟨HF.out.grow hgW _ _⟩, ⟨fun j hj => ?_⟩⟩
      by_cases e : j = jp
      ·subst e; rw [HX.out.1, HX.out.2]; exact hev
      ·exact HA.out j (by omega)
    | true =>
     rw [hev] at hcg
     have hck : ¬ (cap = jp + 1) := by omega
     go_wp2_with fail
     go_quiet_grown (first | (go_at_fn gf; refine Calls.grown_of (hcg _ _)))
     go_wp2
     have HD : Hc (ef d[jp + 1]! d[jp]! = true) := ⟨by rw [HX.out.1, HX.out.2]; exact hev⟩
     have HH2 := holdsK_grow' HH.out hgw nq osq
     have HF2 := HF.out.grow hgW nq osq
     clear lj lp hcg hev HX HA hgw
     generalize grow (wr.drewN nq) osq = wq at HH2 HF2 ⊢
     have HH3 : Hc (HoldsK enc k wq g off d) := ⟨HH2⟩
     have HF3 : Hc (Frm W wq g 64 sz) := ⟨HF2⟩
     clear HH2 HF2 HH HF
     go_loopg [5, 7] d.size (fun g2 s5 s7 wr => ∃ (k5 k7 : Nat), s5 = .int .i64 k5 ∧ s7 = .int .i64 k7 ∧ 1 ≤ k5 ∧ 1 ≤ k7 ∧ k5 ≤ jp + k7 ∧ jp + 1 + k7 ≤ d.size ∧ d.size - (jp + 1 + k7) ≤ g2 ∧ ∃ dk : Array α, dk.size = d.size ∧ Hc (HoldsK enc k wr g off dk) ∧ Hc (Frm W wr g 64 sz))
     case atStart => exact ⟨jp + 1, 1, by go_num, rfl, by omega, Nat.le_refl _, by omega, by omega, by omega, d, rfl, HH3, HF3⟩
     case round =>
      obtain ⟨k5, k7, rfl, rfl, h51, h71, h57, hle, hg2, dk, hdk, HH, HF⟩ := hrel
      by_cases hlt2 : jp + 1 + k7 < d.size
      ·obtain ⟨q, rfl⟩ : ∃ q, k7 = q + 1 := ⟨k7 - 1, by omega⟩
       obtain ⟨xj, hxj⟩ : ∃ x, dk[jp + 1 + (q + 1)]! = x := ⟨_, rfl⟩
       obtain ⟨xp, hxp⟩ : ∃ x, dk[jp + 1 + q]! = x := ⟨_, rfl⟩
       have hwq : IntKind.i64.wrap (q : Int) = (q : Int) := by rw [IntKind.wrap_i64]; omega
       have qz : (q : Int) + 1 < ((d.size - (jp + 1) : Nat) : Int) := by omega
       have qz1 : (q : Int) < ((d.size - (jp + 1) : Nat) : Int) := by omega
       have q0 : (0 : Int) ≤ (q : Int) + 1 := by omega
       have qe0 : ((q : Int) + 1).toNat = q + 1 := by omega
       have hgw : g < wr.heap.size := Nat.lt_of_lt_of_le hgW HF.out.size
       have ea : off + (jp + 1) * k + (q + 1) * k = off + (jp + 1 + (q + 1)) * k := by rw [Nat.add_mul (jp + 1) (q + 1) k]; omega
       have eb : off + (jp + 1) * k + q * k = off + (jp + 1 + q) * k := by rw [Nat.add_mul (jp + 1) q k]; omega
       have lj : ∀ n' os', Sem.run P (loadCellsFrom ⟨g, off + (jp + 1) * k + (q + 1) * k, none⟩ 0 k #[]) (grow (wr.drewN n') os') = .ok (enc xj).toArray (grow (wr.drewN n') os') := fun n' os' => by
        rw [ea, ← hxj]; exact run_loadCellsFrom_list P _ _ _ k (HK.out _) (HoldsK.cells (holdsK_grow' HH.out hgw n' os') HK.out (by omega))
       have lp : ∀ n' os', Sem.run P (loadCellsFrom ⟨g, off + (jp + 1) * k + q * k, none⟩ 0 k #[]) (grow (wr.drewN n') os') = .ok (enc xp).toArray (grow (wr.drewN n') os') := fun n' os' => by
        rw [eb, ← hxp]; exact run_loadCellsFrom_list P _ _ _ k (HK.out _) (HoldsK.cells (holdsK_grow' HH.out hgw n' os') HK.out (by omega))
       have hcg : ∀ n' os', Calls P gf (#[.agg (enc xj).toArray, .agg (enc xp).toArray] ++ cb) (grow (wr.drewN n') os') fun e w' => e = .returned (.bool (ef xj xp)) ∧ ∃ q os'', w' = grow ((grow (wr.drewN n') os').drewN q) os'' := fun n' os' =>
        HC.out _ (HF.out.grow hgW n' os') xj xp
       clear ea eb
       cases hev : ef xj xp with
       | true =>
        rw [hev] at hcg
        go_wp2_with fail
        go_quiet_grown (first | (go_at_fn gf; refine Calls.grown_of (hcg _ _)))
        go_wp2
        go_roundg (d.size - (jp + 1 + (q + 1 + 1)))
        case measure => omega
        case rel => exact ⟨k5, q + 1 + 1, rfl, by go_num, h51, by omega, by omega, by omega, Nat.le_refl _, dk, hdk, ⟨holdsK_grow' HH.out hgw _ _⟩, ⟨HF.out.grow hgW _ _⟩⟩
       | false =>
        rw [hev] at hcg
        go_wp2_with fail
        go_quiet_grown (first | (go_at_fn gf; refine Calls.grown_of (hcg _ _)))
        have HHn : Hc (HoldsK enc k (grow (wr.drewN nq) osq) g off dk) := ⟨holdsK_grow' HH.out hgw nq osq⟩
        have HFn : Hc (Frm W (grow (wr.drewN nq) osq) g 64 sz) := ⟨HF.out.grow hgW nq osq⟩
        have l2 := lj nq osq
        clear lj lp hcg
        generalize grow (wr.drewN nq) osq = wq2 at HHn HFn l2 ⊢
        have hb5 : k5 * k + k ≤ dk.size * k := by have := Nat.mul_le_mul_right k (show k5 + 1 ≤ dk.size by omega); rwa [Nat.add_mul, Nat.one_mul] at this
        have s1 : Sem.run P (storeCells ⟨g, off + k5 * k, none⟩ (enc xj) 0) wq2 = .ok () (wq2.setCells g (off + k5 * k) (enc xj)) := stores_of_holds P HHn.out (k5 * k) _ (by rw [HK.out, size_flatK]; exact hb5) (H1.out _)
        have k5z : (k5 : Int) < (d.size : Int) := by omega
        have hsJ : (enc xj).length = k := HK.out _
        clear hb5
        go_wp2
        go_roundg (d.size - (jp + 1 + (q + 1 + 1)))
        case measure => omega
        case rel => exact ⟨k5 + 1, q + 1 + 1, by go_num, by go_num, by omega, by omega, by omega, by omega, Nat.le_refl _, dk.setIfInBounds k5 xj, by simpa using hdk, ⟨holdsK_set HK.out HHn.out k5 xj (by omega)⟩, ⟨HFn.out.put _ _⟩⟩
      ·have hend : jp + 1 + k7 = d.size := by omega
       have k5z : (k5 : Int) ≤ (d.size : Int) := by omega
       have hck5 : ¬ (cap = k5) := by omega
       have k5c : k5 ≤ cap := by omega
       have hz : ∀ n, (Builtin.zeroCells zz.cells n).toList.length = n * k := fun n => by simp [Builtin.zeroCells, ZS.out]
       have hcl : ∀ ty c, (Builtin.clear_ #[51] ty #[.slice (some ⟨g, off + k5 * k, none⟩) (d.size - k5) c]).run P wr = .ok (.tuple #[]) (wr.setCells g (off + k5 * k) (Builtin.zeroCells zz.cells (d.size - k5)).toList) := fun ty c => by
        have hb5 : ∀ j, j < (d.size - k5) * k → k5 * k + j < dk.size * k := fun j hj => by
         have : k5 * k + (d.size - k5) * k = dk.size * k := by rw [← Nat.add_mul]; congr 1; omega
         omega
        refine run_clear_n wr _ _ ty zz tS ZV.out g _ _ c (by omega) (ZO.out _) (fun j hj => ?_) (fun j hj => ?_)
        ·rw [hz] at hj
         rw [Nat.add_assoc, (HH.out (k5 * k + j) (by rw [size_flatK]; exact hb5 j hj)).1]; rfl
        ·rw [hz] at hj
         rw [Nat.add_assoc]; exact (HH.out (k5 * k + j) (by rw [size_flatK]; exact hb5 j hj)).2
       obtain ⟨ZL, hZL⟩ : ∃ ZL, (Builtin.zeroCells zz.cells (d.size - k5)).toList = ZL := ⟨_, rfl⟩
       rw [hZL] at hcl
       clear hz hZL
       go_wp2
       go_ret
       exact ⟨k5, rfl, HF.out.put _ _, .inr ⟨by omega, jp, by omega, HD.out⟩⟩
   ·have : kk = d.size := by omega
    subst this
    go_wp2
    go_ret
    exact ⟨d.size, rfl, HF.out, .inl ⟨rfl, HA.out⟩⟩
set_option maxHeartbeats 8000000 in
theorem compactModule_w {P : Program} (hP : Tryz.prog = P) (enc : α → List Value) (k : Nat) (hk2 : k = 4) (hk : ∀ x, (enc x).length = k) (h1 : ∀ x, ∀ v ∈ enc x, v.oneCell' = true) (ef : α → α → Bool) (gf : Nat) (cb : Array Value) (g off cap sz : Nat) (d : Array α) (W : World)
  (eg : ∀ args w, (callFunc gf args).run P w = .ok (.enter gf args) w)
  (hcmp : ∀ wr, Frm W wr g 53 sz → ∀ x y : α, Calls P gf (#[.agg (enc x).toArray, .agg (enc y).toArray] ++ cb) wr fun e w' => e = .returned (.bool (ef x y)) ∧ ∃ q os', w' = grow (wr.drewN q) os')
  (hH : HoldsK enc k W g off d) (hg : ∃ cur, W.heap[g]? = some (.cells cur 53 (0, 0)) ∧ cur.size = sz) (hcap : d.size ≤ cap) (hmx : cap ≤ 9223372036854775807) (hsz : d.size < 4611686018427387904) :
  Calls P 113 #[.slice (some ⟨g, off, none⟩) d.size cap, .func (.func gf) #[] cb] W (CompQ d ef W g off cap 53 sz) := by
 have F := Tryz.func113
 have mixed := mixed
 have t0 := Tryz.underlying0; have a0 := Tryz.isAgg0; have z0 := Tryz.sizeOf0; have v0 := Tryz.zeroValue0
 have t3 := Tryz.underlying3; have a3 := Tryz.isAgg3; have z3 := Tryz.sizeOf3; have v3 := Tryz.zeroValue3
 have t4 := Tryz.underlying4; have a4 := Tryz.isAgg4; have z4 := Tryz.sizeOf4; have v4 := Tryz.zeroValue4
 have tS := Tryz.underlying28; have aS := Tryz.isAgg28; have zS := Tryz.sizeOf28; have vS := Tryz.zeroValue28
 have aE := Tryz.isAgg53; have zE := Tryz.sizeOf53
 have uS := run_underlying tS
 obtain ⟨i0, zz, _, hi0, hz0, hzc, _, _, _⟩ := appTy_some tA28
 have hz0v : ∀ w, (zeroValue 53).run Tryz.prog w = .ok zz w := fun w => by simp [zeroValue, typeInfo, hi0, hz0]
 have hz1 : ∀ v ∈ zz.cells.toList, v.oneCell' = true := by
  have h0 := Tryz.zeroValue53 W
  rw [hz0v W] at h0
  cases h0
  rw [← List.all_eq_true]
  kernel_rfl
 have ZV : Hc (∀ w, (zeroValue 53).run P w = .ok zz w) := ⟨by rw [← hP]; exact hz0v⟩
 have ZS : Hc (zz.cells.size = k) := ⟨by rw [hk2]; exact hzc⟩
 have ZO : Hc (∀ n, ∀ v ∈ (Builtin.zeroCells zz.cells n).toList, v.oneCell' = true) := ⟨fun n => zeroCells_one (by rw [hzc]; omega) hz1 n⟩
 clear hi0 hz0 hzc hz0v hz1
 rw [← hk2] at zE
 rw [hP] at F mixed t0 a0 z0 v0 t3 a3 z3 v3 t4 a4 z4 v4 tS aS zS vS aE zE uS
 clear hk2
 obtain ⟨cur, hg1, hg2⟩ := hg
 have hgW : g < W.heap.size := (Array.getElem?_eq_some_iff.1 hg1).1
 have F0 : Frm W W g 53 sz := ⟨rfl, rfl, rfl, Nat.le_refl _, fun _ _ _ => rfl, cur, hg1, hg2⟩
 have HC : Hc (∀ wr, Frm W wr g 53 sz → ∀ x y : α, Calls P gf (#[.agg (enc x).toArray, .agg (enc y).toArray] ++ cb) wr fun e w' => e = .returned (.bool (ef x y)) ∧ ∃ q os', w' = grow (wr.drewN q) os') := ⟨hcmp⟩
 have HK : Hc (∀ x, (enc x).length = k) := ⟨hk⟩
 have H1 : Hc (∀ x, ∀ v ∈ enc x, v.oneCell' = true) := ⟨h1⟩
 have HF0 : Hc (Frm W W g 53 sz) := ⟨F0⟩
 have HH0 : Hc (HoldsK enc k W g off d) := ⟨hH⟩
 clear hcmp hk h1 F0 hH hg1 hg2
 by_cases h2 : d.size < 2
 ·have h2z : (d.size : Int) < 2 := by omega
  go_enter F, Tryz.ntmps113
  go_wp2
  go_ret
  exact ⟨d.size, rfl, HF0.out, .inl ⟨rfl, fun j hj => by omega⟩⟩
 ·have h2z : ¬ (d.size : Int) < 2 := by omega
  go_enter F, Tryz.ntmps113
  go_wp2
  go_loopg [5] d.size (fun g1 s5 wr => ∃ kk : Nat, 1 ≤ kk ∧ kk ≤ d.size ∧ d.size - kk ≤ g1 ∧ s5 = .int .i64 kk ∧ Hc (HoldsK enc k wr g off d) ∧ Hc (Frm W wr g 53 sz) ∧ Hc (∀ j, j + 1 < kk → ef d[j + 1]! d[j]! = false))
  case atStart => exact ⟨1, Nat.le_refl _, by omega, by omega, rfl, HH0, HF0, ⟨fun j hj => by omega⟩⟩
  case round =>
   obtain ⟨kk, hk1, hkn, hg1, rfl, HH, HF, HA⟩ := hrel
   by_cases hlt : kk < d.size
   ·obtain ⟨jp, rfl⟩ : ∃ jp, kk = jp + 1 := ⟨kk - 1, by omega⟩
    obtain ⟨xj, hxj⟩ : ∃ x, d[jp + 1]! = x := ⟨_, rfl⟩
    obtain ⟨xp, hxp⟩ : ∃ x, d[jp]! = x := ⟨_, rfl⟩
    have hwp : IntKind.i64.wrap (jp : Int) = (jp : Int) := by rw [IntKind.wrap_i64]; omega
    have jz : (jp : Int) + 1 < (d.size : Int) := by omega
    have jz1 : (jp : Int) < (d.size : Int) := by omega
    have p0 : (0 : Int) ≤ (jp : Int) + 1 := by omega
    have e0 : ((jp : Int) + 1).toNat = jp + 1 := by omega
    have hgw : g < wr.heap.size := Nat.lt_of_lt_of_le hgW HF.out.size
    have lj : ∀ n' os', Sem.run P (loadCellsFrom ⟨g, off + (jp + 1) * k, none⟩ 0 k #[]) (grow (wr.drewN n') os') = .ok (enc xj).toArray (grow (wr.drewN n') os') := fun n' os' => by
     rw [← hxj]; exact run_loadCellsFrom_list P _ _ _ k (HK.out _) (HoldsK.cells (holdsK_grow' HH.out hgw n' os') HK.out (by omega))
    have lp : ∀ n' os', Sem.run P (loadCellsFrom ⟨g, off + jp * k, none⟩ 0 k #[]) (grow (wr.drewN n') os') = .ok (enc xp).toArray (grow (wr.drewN n') os') := fun n' os' => by
     rw [← hxp]; exact run_loadCellsFrom_list P _ _ _ k (HK.out _) (HoldsK.cells (holdsK_grow' HH.out hgw n' os') HK.out (by omega))
    have hcg : ∀ n' os', Calls P gf (#[.agg (enc xj).toArray, .agg (enc xp).toArray] ++ cb) (grow (wr.drewN n') os') fun e w' => e = .returned (.bool (ef xj xp)) ∧ ∃ q os'', w' = grow ((grow (wr.drewN n') os').drewN q) os'' := fun n' os' =>
     HC.out _ (HF.out.grow hgW n' os') xj xp
    have HX : Hc (d[jp + 1]! = xj ∧ d[jp]! = xp) := ⟨hxj, hxp⟩
    clear hxj hxp
    cases hev : ef xj xp with
    | false =>
     rw [hev] at hcg
     go_wp2_with fail
     go_quiet_grown (first | (go_at_fn gf; refine Calls.grown_of (hcg _ _)))
     go_wp2
     go_roundg (d.size - (jp + 1 + 1))
     case measure => omega
     case rel =>
      refine ⟨jp + 1 + 1, by omega, by omega, Nat.le_refl _, by go_num, ⟨holdsK_grow' HH.out hgw _ _⟩, ⟨HF.out.grow hgW _ _⟩, ⟨fun j hj => ?_⟩⟩
      by_cases e : j = jp
      ·subst e; rw [HX.out.1, HX.out.2]; exact hev
      ·exact HA.out j (by omega)
    | true =>
     rw [hev] at hcg
     have hck : ¬ (cap = jp + 1) := by omega
     go_wp2_with fail
     go_quiet_grown (first | (go_at_fn gf; refine Calls.grown_of (hcg _ _)))
     go_wp2
     have HD : Hc (ef d[jp + 1]! d[jp]! = true) := ⟨by rw [HX.out.1, HX.out.2]; exact hev⟩
     have HH2 := holdsK_grow' HH.out hgw nq osq
     have HF2 := HF.out.grow hgW nq osq
     clear lj lp hcg hev HX HA hgw
     generalize grow (wr.drewN nq) osq = wq at HH2 HF2 ⊢
     have HH3 : Hc (HoldsK enc k wq g off d) := ⟨HH2⟩
     have HF3 : Hc (Frm W wq g 53 sz) := ⟨HF2⟩
     clear HH2 HF2 HH HF
     go_loopg [5, 7] d.size (fun g2 s5 s7 wr => ∃ (k5 k7 : Nat), s5 = .int .i64 k5 ∧ s7 = .int .i64 k7 ∧ 1 ≤ k5 ∧ 1 ≤ k7 ∧ k5 ≤ jp + k7 ∧ jp + 1 + k7 ≤ d.size ∧ d.size - (jp + 1 + k7) ≤ g2 ∧ ∃ dk : Array α, dk.size = d.size ∧ Hc (HoldsK enc k wr g off dk) ∧ Hc (Frm W wr g 53 sz))
     case atStart => exact ⟨jp + 1, 1, by go_num, rfl, by omega, Nat.le_refl _, by omega, by omega, by omega, d, rfl, HH3, HF3⟩
     case round =>
      obtain ⟨k5, k7, rfl, rfl, h51, h71, h57, hle, hg2, dk, hdk, HH, HF⟩ := hrel
      by_cases hlt2 : jp + 1 + k7 < d.size
      ·obtain ⟨q, rfl⟩ : ∃ q, k7 = q + 1 := ⟨k7 - 1, by omega⟩
       obtain ⟨xj, hxj⟩ : ∃ x, dk[jp + 1 + (q + 1)]! = x := ⟨_, rfl⟩
       obtain ⟨xp, hxp⟩ : ∃ x, dk[jp + 1 + q]! = x := ⟨_, rfl⟩
       have hwq : IntKind.i64.wrap (q : Int) = (q : Int) := by rw [IntKind.wrap_i64]; omega
       have qz : (q : Int) + 1 < ((d.size - (jp + 1) : Nat) : Int) := by omega
       have qz1 : (q : Int) < ((d.size - (jp + 1) : Nat) : Int) := by omega
       have q0 : (0 : Int) ≤ (q : Int) + 1 := by omega
       have qe0 : ((q : Int) + 1).toNat = q + 1 := by omega
       have hgw : g < wr.heap.size := Nat.lt_of_lt_of_le hgW HF.out.size
       have ea : off + (jp + 1) * k + (q + 1) * k = off + (jp + 1 + (q + 1)) * k := by rw [Nat.add_mul (jp + 1) (q + 1) k]; omega
       have eb : off + (jp + 1) * k + q * k = off + (jp + 1 + q) * k := by rw [Nat.add_mul (jp + 1) q k]; omega
       have lj : ∀ n' os', Sem.run P (loadCellsFrom ⟨g, off + (jp + 1) * k + (q + 1) * k, none⟩ 0 k #[]) (grow (wr.drewN n') os') = .ok (enc xj).toArray (grow (wr.drewN n') os') := fun n' os' => by
        rw [ea, ← hxj]; exact run_loadCellsFrom_list P _ _ _ k (HK.out _) (HoldsK.cells (holdsK_grow' HH.out hgw n' os') HK.out (by omega))
       have lp : ∀ n' os', Sem.run P (loadCellsFrom ⟨g, off + (jp + 1) * k + q * k, none⟩ 0 k #[]) (grow (wr.drewN n') os') = .ok (enc xp).toArray (grow (wr.drewN n') os') := fun n' os' => by
        rw [eb, ← hxp]; exact run_loadCellsFrom_list P _ _ _ k (HK.out _) (HoldsK.cells (holdsK_grow' HH.out hgw n' os') HK.out (by omega))
       have hcg : ∀ n' os', Calls P gf (#[.agg (enc xj).toArray, .agg (enc xp).toArray] ++ cb) (grow (wr.drewN n') os') fun e w' => e = .returned (.bool (ef xj xp)) ∧ ∃ q os'', w' = grow ((grow (wr.drewN n') os').drewN q) os'' := fun n' os' =>
        HC.out _ (HF.out.grow hgW n' os') xj xp
       clear ea eb
       cases hev : ef xj xp with
       | true =>
        rw [hev] at hcg
        go_wp2_with fail
        go_quiet_grown (first | (go_at_fn gf; refine Calls.grown_of (hcg _ _)))
        go_wp2
        go_roundg (d.size - (jp + 1 + (q + 1 + 1)))
        case measure => omega
        case rel => exact ⟨k5, q + 1 + 1, rfl, by go_num, h51, by omega, by omega, by omega, Nat.le_refl _, dk, hdk, ⟨holdsK_grow' HH.out hgw _ _⟩, ⟨HF.out.grow hgW _ _⟩⟩
       | false =>
        rw [hev] at hcg
        go_wp2_with fail
        go_quiet_grown (first | (go_at_fn gf; refine Calls.grown_of (hcg _ _)))
        have HHn : Hc (HoldsK enc k (grow (wr.drewN nq) osq) g off dk) := ⟨holdsK_grow' HH.out hgw nq osq⟩
        have HFn : Hc (Frm W (grow (wr.drewN nq) osq) g 53 sz) := ⟨HF.out.grow hgW nq osq⟩
        have l2 := lj nq osq
        clear lj lp hcg
        generalize grow (wr.drewN nq) osq = wq2 at HHn HFn l2 ⊢
        have hb5 : k5 * k + k ≤ dk.size * k := by have := Nat.mul_le_mul_right k (show k5 + 1 ≤ dk.size by omega); rwa [Nat.add_mul, Nat.one_mul] at this
        have s1 : Sem.run P (storeCells ⟨g, off + k5 * k, none⟩ (enc xj) 0) wq2 = .ok () (wq2.setCells g (off + k5 * k) (enc xj)) := stores_of_holds P HHn.out (k5 * k) _ (by rw [HK.out, size_flatK]; exact hb5) (H1.out _)
        have k5z : (k5 : Int) < (d.size : Int) := by omega
        have hsJ : (enc xj).length = k := HK.out _
        clear hb5
        go_wp2
        go_roundg (d.size - (jp + 1 + (q + 1 + 1)))
        case measure => omega
        case rel => exact ⟨k5 + 1, q + 1 + 1, by go_num, by go_num, by omega, by omega, by omega, by omega, Nat.le_refl _, dk.setIfInBounds k5 xj, by simpa using hdk, ⟨holdsK_set HK.out HHn.out k5 xj (by omega)⟩, ⟨HFn.out.put _ _⟩⟩
      ·have hend : jp + 1 + k7 = d.size := by omega
       have k5z : (k5 : Int) ≤ (d.size : Int) := by omega
       have hck5 : ¬ (cap = k5) := by omega
       have k5c : k5 ≤ cap := by omega
       have hz : ∀ n, (Builtin.zeroCells zz.cells n).toList.length = n * k := fun n => by simp [Builtin.zeroCells, ZS.out]
       have hcl : ∀ ty c, (Builtin.clear_ #[28] ty #[.slice (some ⟨g, off + k5 * k, none⟩) (d.size - k5) c]).run P wr = .ok (.tuple #[]) (wr.setCells g (off + k5 * k) (Builtin.zeroCells zz.cells (d.size - k5)).toList) := fun ty c => by
        have hb5 : ∀ j, j < (d.size - k5) * k → k5 * k + j < dk.size * k := fun j hj => by
         have : k5 * k + (d.size - k5) * k = dk.size * k := by rw [← Nat.add_mul]; congr 1; omega
         omega
        refine run_clear_n wr _ _ ty zz tS ZV.out g _ _ c (by omega) (ZO.out _) (fun j hj => ?_) (fun j hj => ?_)
        ·rw [hz] at hj
         rw [Nat.add_assoc, (HH.out (k5 * k + j) (by rw [size_flatK]; exact hb5 j hj)).1]; rfl
        ·rw [hz] at hj
         rw [Nat.add_assoc]; exact (HH.out (k5 * k + j) (by rw [size_flatK]; exact hb5 j hj)).2
       obtain ⟨ZL, hZL⟩ : ∃ ZL, (Builtin.zeroCells zz.cells (d.size - k5)).toList = ZL := ⟨_, rfl⟩
       rw [hZL] at hcl
       clear hz hZL
       go_wp2
       go_ret
       exact ⟨k5, rfl, HF.out.put _ _, .inr ⟨by omega, jp, by omega, HD.out⟩⟩
   ·have : kk = d.size := by omega
    subst this
    go_wp2
    go_ret
    exact ⟨d.size, rfl, HF.out, .inl ⟨rfl, HA.out⟩⟩
end Go.Proofs.YtbenhdgpogiadaaGreat

namespace Go.Proofs.YtbenhdgpogiadaaGreat
open Go.Aw Go.Sort Go.RowKit Go.Lib
set_option maxRecDepth 1000000
set_option maxHeartbeats 8000000
theorem rdRows_nil {W : World} {F : Nat → Prop} : ∀ (m b off : Nat), RdRows W F 0 (List.replicate m []) b off
 | 0, _, _ => trivial
 | m + 1, b, off => by
  rw [List.replicate_succ]
  exact ⟨⟨rfl, trivial⟩, rdRows_nil m b (off + 0)⟩
/-- The memory behind a call that gives up its array and keeps a variable. -/
theorem mem_box {P : Program} {W : World} {F O0 : Nat → Prop} {Oi : Objs} {η : Nat → Value} {S : Nat → List Nat} (hm : Mem ⟨P, N0, W, F, O0, [], [], fun _ => undef⟩ Oi W F η S) (hO0 : ∀ b, O0 b ↔ ∃ id, b ∈ S id) {W' : World} {g : Nat} {e : TypeId} {sz : Nat} {cs : List AV} (h3 : Oi 3 = some (.box cs)) (hcs : ∃ ds : List D, cs = ds.map AV.d)
  (hg : g ∈ S 0) (hf : Frm W W' g e sz) : Mem ⟨P, N0, W, F, O0, [], [], fun _ => undef⟩ (om [(3, .box cs)]) W' (fun b => F b ∨ b = g) η (fun i => if i = 3 then S 3 else []) := by
 have hgO : O0 g := (hO0 g).2 ⟨0, hg⟩
 obtain ⟨hgF, hgW, _⟩ := hm.apart 0 g hg
 have hom : ∀ id o, om [(3, AO.box cs)] id = some o → id = 3 ∧ o = .box cs := by
  intro id o ho
  simp only [om] at ho
  split at ho
  ·rename_i h; exact ⟨h, (Option.some.inj ho).symm⟩
  ·cases ho
 have hF : ∀ b, F b → (F b ∨ b = g) ∧ W'.heap[b]? = W.heap[b]? := fun b hb => ⟨.inl hb, hf.same b (hm.flt b hb) (fun h => hgF (h ▸ hb))⟩
 have h3g : ∀ b ∈ S 3, b ≠ g := fun b hb h => by
  have := hm.sep 3 0 b hb (by rw [h]; exact hg)
  cases this
 refine ⟨hf.os, hf.tape, hf.output, hf.size, fun b hb hnb => hf.same b hb (fun h => hnb (h ▸ hgO)), fun b h => .inl h, ?_, ?_, ?_, ?_, ?_, ?_, ?_, by simp, ?_, by simp⟩
 ·rintro b (h | h)
  ·exact Nat.lt_of_lt_of_le (hm.flt b h) hf.size
  ·subst h; exact Nat.lt_of_lt_of_le hgW hf.size
 ·rintro b (h | h) _
  ·exact .inl h
  ·subst h; exact .inr hgO
 ·intro id o ho
  obtain ⟨rfl, rfl⟩ := hom id o ho
  obtain ⟨b, cur, e', q1, q2, q3, q4⟩ := hm.obj 3 _ h3
  obtain ⟨ds, rfl⟩ := hcs
  refine ⟨b, cur, e', q1, by simp only [if_true]; exact q2, ?_, ?_⟩
  ·rw [hf.same b (Array.getElem?_eq_some_iff.1 q3).1 (h3g b (by rw [q2]; simp))]; exact q3
  ·refine RelVs.pres (new := []) (O := om [(3, .box (ds.map AV.d))]) (η := η) (Keeps.refl _ _) hF _ _ ?_ ?_
   ·have : ∀ ds : List D, AV.noRefs [] (ds.map AV.d) := by
     intro ds
     induction ds with
     | nil => trivial
     | cons d ds ih => exact ⟨trivial, ih⟩
    exact this ds
   ·have : ∀ (ds : List D) (vs : List Value), RelVs Oi W F η (ds.map AV.d) vs → RelVs (om [(3, .box (ds.map AV.d))]) W F η (ds.map AV.d) vs := by
     intro ds0 vs
     have key : ∀ (O : Objs) (ds : List D) (vs : List Value), RelVs Oi W F η (ds.map AV.d) vs → RelVs O W F η (ds.map AV.d) vs := by
      intro O ds
      induction ds with
      | nil => intro vs h; simpa [RelVs] using h
      | cons d ds ih =>
       intro vs h
       simp only [List.map_cons, RelVs] at h ⊢
       obtain ⟨v, rest, rfl, a, b⟩ := h
       exact ⟨v, rest, rfl, by simpa only [RelV] using a, ih _ b⟩
     exact key _ ds0 vs
    exact this ds _ q4
 ·intro id ho
  by_cases h : id = 3
  ·subst h; simp [om] at ho
  ·simp [h]
 ·intro id b hb
  by_cases h : id = 3
  ·simp only [h, if_true] at hb
   obtain ⟨a1, a2, a3⟩ := hm.apart 3 b hb
   exact ⟨fun hc => hc.elim a1 (h3g b hb), Nat.lt_of_lt_of_le a2 hf.size, a3⟩
  ·simp [h] at hb
 ·intro id id' b hb hb'
  by_cases h : id = 3
  ·by_cases h' : id' = 3
   ·rw [h, h']
   ·simp [h'] at hb'
  ·simp [h] at hb
 ·intro id
  by_cases h : id = 3
  ·simp only [h, if_true]; exact hm.nd 3
  ·simp [h]
 ·intro id lim fam stop l rest ho
  have := (hom id _ ho).2
  cases this
theorem sameItem_w {P : Program} (hP : Tryz.prog = P) (k : Nat) (hk2 : k = 35) (ra rb : Array Value) (sa : ra.size = k) (sb : rb.size = k) (c : Int) (bx : Nat) (w : World) (hb : w.cell? ⟨bx, 0, none⟩ = some (.func (.func 53) #[] #[]))
  (hi : ∀ W, Calls P 53 #[.agg ra, .agg rb] W fun e w' => e = .returned (.int .i64 c) ∧ ∃ q os', w' = grow (W.drewN q) os') :
  Calls P 109 #[.agg ra, .agg rb, .pointer (some ⟨bx, 0, none⟩)] w fun e w' => e = .returned (.bool (c == 0)) ∧ ∃ q os', w' = grow (w.drewN q) os' := by
 have F := Tryz.func109
 have mixed := mixed
 have t0 := Tryz.underlying0; have a0 := Tryz.isAgg0; have z0 := Tryz.sizeOf0; have v0 := Tryz.zeroValue0
 have t3 := Tryz.underlying3; have a3 := Tryz.isAgg3; have z3 := Tryz.sizeOf3; have v3 := Tryz.zeroValue3
 have t4 := Tryz.underlying4; have a4 := Tryz.isAgg4; have z4 := Tryz.sizeOf4; have v4 := Tryz.zeroValue4
 have aF := Tryz.isAgg109; have zF := Tryz.sizeOf109
 have aE := Tryz.isAgg64; have zE := Tryz.sizeOf64
 rw [← hk2] at zE
 have eg := Tryz.call53
 rw [hP] at F mixed t0 a0 z0 v0 t3 a3 z3 v3 t4 a4 z4 v4 aE zE aF zF eg
 clear hk2
 have hb2 : ((w.alloc (.cells ra 64)).alloc (.cells rb 64)).cell? ⟨bx, 0, none⟩ = some (.func (.func 53) #[] #[]) := cell?_alloc_some _ (cell?_alloc_some _ hb)
 have la : Sem.run P (loadCellsFrom ⟨w.heap.size, 0, none⟩ 0 k #[]) ((w.alloc (.cells ra 64)).alloc (.cells rb 64)) = .ok ra ((w.alloc (.cells ra 64)).alloc (.cells rb 64)) := by
  have h := run_loadCellsFrom_list P ((w.alloc (.cells ra 64)).alloc (.cells rb 64)) ⟨w.heap.size, 0, none⟩ ra.toList k (by rw [Array.length_toList]; exact sa) (fun j v hj => by
   rw [Addr.add_lit]
   refine cell?_alloc_some _ ?_
   simp only [World.cell?, World.alloc_heap_new, Nat.zero_add]
   simpa using hj)
  simpa using h
 have lb : Sem.run P (loadCellsFrom ⟨w.heap.size + 1, 0, none⟩ 0 k #[]) ((w.alloc (.cells ra 64)).alloc (.cells rb 64)) = .ok rb ((w.alloc (.cells ra 64)).alloc (.cells rb 64)) := by
  have hh := World.alloc_heap_new (w.alloc (.cells ra 64)) (.cells rb 64)
  rw [World.size_alloc] at hh
  have h := run_loadCellsFrom_list P ((w.alloc (.cells ra 64)).alloc (.cells rb 64)) ⟨w.heap.size + 1, 0, none⟩ rb.toList k (by rw [Array.length_toList]; exact sb) (fun j v hj => by
   rw [Addr.add_lit]
   simp only [World.cell?, hh, Nat.zero_add]
   simpa using hj)
  simpa using h
 clear hb sa sb
 go_enter F, Tryz.ntmps109
 go_wp2_with (go_at_call 53; refine (hi _).mono ?_; rintro e w' ⟨rfl, q, os', rfl⟩)

 go_ret
 refine ⟨rfl, q, #[.cells ra 64, .cells rb 64] ++ os', ?_⟩
 have e1 : grow (grow w #[.cells ra 64]) #[.cells rb 64] = grow w #[.cells ra 64, .cells rb 64] := by rw [grow_grow]; rfl
 rw [alloc_eq_grow, alloc_eq_grow, e1]
 show grow (grow (w.drewN q) #[.cells ra 64, .cells rb 64]) os' = _
 rw [grow_grow]
theorem sameModule_w {P : Program} (hP : Tryz.prog = P) (k : Nat) (hk2 : k = 4) (ra rb : Array Value) (sa : ra.size = k) (sb : rb.size = k) (c : Int) (bx : Nat) (w : World) (hb : w.cell? ⟨bx, 0, none⟩ = some (.func (.func 57) #[] #[]))
  (hi : ∀ W, Calls P 57 #[.agg ra, .agg rb] W fun e w' => e = .returned (.int .i64 c) ∧ ∃ q os', w' = grow (W.drewN q) os') :
  Calls P 114 #[.agg ra, .agg rb, .pointer (some ⟨bx, 0, none⟩)] w fun e w' => e = .returned (.bool (c == 0)) ∧ ∃ q os', w' = grow (w.drewN q) os' := by
 have F := Tryz.func114
 have mixed := mixed
 have t0 := Tryz.underlying0; have a0 := Tryz.isAgg0; have z0 := Tryz.sizeOf0; have v0 := Tryz.zeroValue0
 have t3 := Tryz.underlying3; have a3 := Tryz.isAgg3; have z3 := Tryz.sizeOf3; have v3 := Tryz.zeroValue3
 have t4 := Tryz.underlying4; have a4 := Tryz.isAgg4; have z4 := Tryz.sizeOf4; have v4 := Tryz.zeroValue4
 have aF := Tryz.isAgg113; have zF := Tryz.sizeOf113
 have aE := Tryz.isAgg53; have zE := Tryz.sizeOf53
 rw [← hk2] at zE
 have eg := Tryz.call57
 rw [hP] at F mixed t0 a0 z0 v0 t3 a3 z3 v3 t4 a4 z4 v4 aE zE aF zF eg
 clear hk2
 have hb2 : ((w.alloc (.cells ra 53)).alloc (.cells rb 53)).cell? ⟨bx, 0, none⟩ = some (.func (.func 57) #[] #[]) := cell?_alloc_some _ (cell?_alloc_some _ hb)
 have la : Sem.run P (loadCellsFrom ⟨w.heap.size, 0, none⟩ 0 k #[]) ((w.alloc (.cells ra 53)).alloc (.cells rb 53)) = .ok ra ((w.alloc (.cells ra 53)).alloc (.cells rb 53)) := by
  have h := run_loadCellsFrom_list P ((w.alloc (.cells ra 53)).alloc (.cells rb 53)) ⟨w.heap.size, 0, none⟩ ra.toList k (by rw [Array.length_toList]; exact sa) (fun j v hj => by
   rw [Addr.add_lit]
   refine cell?_alloc_some _ ?_
   simp only [World.cell?, World.alloc_heap_new, Nat.zero_add]
   simpa using hj)
  simpa using h
 have lb : Sem.run P (loadCellsFrom ⟨w.heap.size + 1, 0, none⟩ 0 k #[]) ((w.alloc (.cells ra 53)).alloc (.cells rb 53)) = .ok rb ((w.alloc (.cells ra 53)).alloc (.cells rb 53)) := by
  have hh := World.alloc_heap_new (w.alloc (.cells ra 53)) (.cells rb 53)
  rw [World.size_alloc] at hh
  have h := run_loadCellsFrom_list P ((w.alloc (.cells ra 53)).alloc (.cells rb 53)) ⟨w.heap.size + 1, 0, none⟩ rb.toList k (by rw [Array.length_toList]; exact sb) (fun j v hj => by
   rw [Addr.add_lit]
   simp only [World.cell?, hh, Nat.zero_add]
   simpa using hj)
  simpa using h
 clear hb sa sb
 go_enter F, Tryz.ntmps114
 go_wp2_with (go_at_call 57; refine (hi _).mono ?_; rintro e w' ⟨rfl, q, os', rfl⟩)

 go_ret
 refine ⟨rfl, q, #[.cells ra 53, .cells rb 53] ++ os', ?_⟩
 have e1 : grow (grow w #[.cells ra 53]) #[.cells rb 53] = grow w #[.cells ra 53, .cells rb 53] := by rw [grow_grow]; rfl
 rw [alloc_eq_grow, alloc_eq_grow, e1]
 show grow (grow (w.drewN q) #[.cells ra 53, .cells rb 53]) os' = _
 rw [grow_grow]
def boxO (f : Nat) : AO := .box [.d (.clo (.func f) [] [])]
theorem item_x {W : World} {F : Nat → Prop} (x y : Item) (ra rb : List Value) (h1 : RdVals W F (eItem x) ra) (h2 : RdVals W F (eItem y) rb) (w : World) : Calls Tryz.prog 53 #[.agg ra.toArray, .agg rb.toArray] w fun e w' => e = .returned (.int .i64 (cmpP (partI x) (partI y))) ∧ ∃ q os', w' = grow (w.drewN q) os' := by
 have l1 := RdVals.length _ _ h1
 have l2 := RdVals.length _ _ h2
 have e35 : ∀ x : Item, (eItem x).length = 35 := fun x => by simp [eItem, eNum, eExpr_eq, eRule]
 rw [e35] at l1 l2
 have g : ∀ (x : Item) (r : List Value), RdVals W F (eItem x) r → r[0]? = some (.int .i64 x.kind.1) ∧ r[1]? = some (.string x.name.1) := fun x r h => by
  unfold eItem at h
  simp only [eI, eS, RdVals, Aw.Rd] at h
  obtain ⟨v, r1, rfl, rfl, v2, r2, rfl, rfl, _⟩ := h
  exact ⟨rfl, rfl⟩
 obtain ⟨p1, p2⟩ := g x ra h1
 obtain ⟨q1, q2⟩ := g y rb h2
 exact item_w ra.toArray rb.toArray (by simpa using l1) (by simpa using l2) x.kind.1 y.kind.1 x.name.1 y.name.1 (by simpa using p1) (by simpa using p2) (by simpa using q1) (by simpa using q2) w
theorem module_x {W : World} {F : Nat → Prop} (x y : Module) (ra rb : List Value) (h1 : RdVals W F (eModule x) ra) (h2 : RdVals W F (eModule y) rb) (w : World) : Calls Tryz.prog 57 #[.agg ra.toArray, .agg rb.toArray] w fun e w' => e = .returned (.int .i64 (cmpN x.name y.name)) ∧ ∃ q os', w' = grow (w.drewN q) os' := by
 have l1 := RdVals.length _ _ h1
 have l2 := RdVals.length _ _ h2
 have g : ∀ (x : Module) (r : List Value), RdVals W F (eModule x) r → r[0]? = some (.string x.name.1) := fun x r h => by
  unfold eModule at h
  simp only [eS, RdVals, Aw.Rd] at h
  obtain ⟨v, r1, rfl, rfl, _⟩ := h
  rfl
 exact name_w ra.toArray rb.toArray (by simpa [eModule] using l1) (by simpa [eModule] using l2) x.name.1 y.name.1 (by simpa using g x ra h1) (by simpa using g y rb h2) w
def compQItem (l : List Item) (V : AV) (ol : OL) (new : List Nat) : Prop :=
 ∃ m, V = .d (.sl (List.replicate m [])) ∧ ol = [(3, boxO 53)] ∧ new = [] ∧ ((m = l.length ∧ ∀ i (h : i + 1 < l.length), partI l[i + 1] ≠ partI l[i]) ∨ (m < l.length ∧ ∃ i, ∃ h : i + 1 < l.length, partI l[i + 1] = partI l[i]))
theorem compactItem_e (ad : Option Addr) (cap : Nat) (v : Value) (W : World) : Calls Tryz.prog 108 #[.slice ad 0 cap, v] W fun e w' => e = .returned (.slice ad 0 cap) ∧ w' = W := by
 go_enter Tryz.func108, Tryz.ntmps108
 go_wp2
 go_ret
 exact ⟨rfl, rfl⟩
theorem compactItem_o (l : List Item) (hl : l.length < 4611686018427387904) : FnL Tryz.prog 108 [.ar 0 l.length, .clo (.func 109) [] [.bp 3 0]] [(0, .arr 64 35 .flat (l.map eItem)), (3, boxO 53)] (compQItem l) := by
 refine ⟨fun W bs => Tryz.call108 bs W, ?_⟩
 intro W F O0 η S vs hm hO0 hr
 simp only [RelVs, RelV] at hr
 obtain ⟨v0, _, rfl, hv0, v1, _, rfl, ⟨fs, cbs, rfl, rfl, vb, _, rfl, hvb, rfl⟩, rfl⟩ := hr
 have e0 : v0 = η 0 := (hv0 64 35 .flat (l.map eItem) (by simp [om])).2 (by simp)
 obtain ⟨bx, q1, q2⟩ := hvb [.d (.clo (.func 53) [] [])] (by simp [om, boxO])
 obtain ⟨b', curb, eb, r1, r2, r3, r4⟩ := hm.obj 3 (boxO 53) (by simp [om])
 rw [q1] at r1
 simp only [Value.pointer.injEq, Option.some.injEq, Addr.mk.injEq, and_true] at r1
 subst r1
 have hbx : W.cell? ⟨bx, 0, none⟩ = some (.func (.func 53) #[] #[]) := by
  simp only [RelVs, RelV, Aw.Rd, RdVals] at r4
  obtain ⟨u, rest, e1, ⟨a, b, rfl, rfl, rfl⟩, rfl⟩ := r4
  simp only [World.cell?, r3]
  have : curb = #[.func (.func 53) #[] #[]] := by apply Array.ext'; simpa using e1
  subst this
  rfl
 have hbW : bx < W.heap.size := (Array.getElem?_eq_some_iff.1 r3).1
 obtain ⟨_, hkk, hcase⟩ := hm.obj 0 (.arr 64 35 .flat (l.map eItem)) (by simp [om])
 subst e0 q2
 have fin : ∀ (g : Nat) (hg : g ∈ S 0) (W' : World) (sz : Nat) (m cap : Nat) (_ : m ≤ cap) (_ : cap ≤ maxLen), Frm W W' g 64 sz → ((m = l.length ∧ ∀ i (h : i + 1 < l.length), partI l[i + 1] ≠ partI l[i]) ∨ (m < l.length ∧ ∃ i, ∃ h : i + 1 < l.length, partI l[i + 1] = partI l[i])) →
   ∃ v V Oo new F' η' S', Ending.returned (.slice (some ⟨g, 0, none⟩) m cap) = .returned v ∧ (∃ ol, Oo = om ol ∧ compQItem l V ol new) ∧ (∀ i ∈ new, ∀ lim fam stop l rest, Oo i ≠ some (.ext lim fam stop l rest)) ∧
    Mem ⟨Tryz.prog, N0, W, F, O0, [], [], fun _ => undef⟩ Oo W' F' η' S' ∧ RelV Oo W' F' η' V v ∧ Keeps (om [(0, .arr 64 35 .flat (l.map eItem)), (3, boxO 53)]) Oo η η' new := by
  intro g hg W' sz m cap hmc hcx hfr hd
  refine ⟨_, .d (.sl (List.replicate m [])), _, [], _, η, _, rfl, ⟨_, rfl, m, rfl, rfl, rfl, hd⟩, by simp, mem_box (cs := [.d (.clo (.func 53) [] [])]) hm hO0 (by simp [om, boxO]) ⟨[_], rfl⟩ hg hfr, ?_, ?_⟩
  ·simp only [RelV, Aw.Rd, List.length_replicate]
   exact ⟨⟨_, cap, rfl, hmc, fun _ => ⟨g, 0, 0, rfl, .inr rfl, rdRows_nil m g 0⟩⟩, Nat.le_trans hmc hcx⟩
  ·intro id o' ho
   simp only [om] at ho
   split at ho
   ·rename_i h3
    subst h3
    cases ho
    exact .inr ⟨_, by simp only [om, boxO]; rfl, rfl⟩
   ·cases ho
 rcases hcase with ⟨⟨ad, hv⟩, hes, hS⟩ | ⟨g, cap, cur, s1, hv, hg, hle, hcap, hcur, hs, hC⟩
 ·have hl0 : l = [] := List.map_eq_nil_iff.1 hes
  subst hl0
  rw [hv]
  refine (compactItem_e ad 0 _ W).mono ?_
  rintro e W' ⟨rfl, rfl⟩
  obtain ⟨m1, _⟩ := hm.dropL (W' := W') (F' := fun b => F b ∨ ∃ id ∈ [0], b ∈ S id) [0] (Below.refl _ _) (fun b hb => .inl hb) (fun b hb => by
    rcases hb with hb | hb
    ·exact .inl hb
    ·exact .inr (.inr hb))
  have hd : drop (om [(0, AO.arr 64 35 .flat ([].map eItem)), (3, boxO 53)]) [0] = om [(3, boxO 53)] := by
   funext id
   simp only [drop, om, List.mem_singleton]
   by_cases h0 : id = 0
   ·subst h0; simp
   ·simp [h0]
  rw [hd] at m1
  refine ⟨_, .d (.sl (List.replicate 0 [])), _, [], _, η, _, rfl, ⟨_, rfl, 0, rfl, rfl, rfl, .inl ⟨rfl, fun i h => by simp at h⟩⟩, by simp, m1, ?_, ?_⟩
  ·simp only [RelV, Aw.Rd, List.length_replicate]
   exact ⟨⟨ad, 0, rfl, Nat.le_refl _, fun h => absurd rfl h⟩, Nat.zero_le _⟩
  ·intro id o' ho
   simp only [om] at ho
   split at ho
   ·rename_i h3
    subst h3
    cases ho
    exact .inr ⟨_, by simp only [om, boxO]; rfl, rfl⟩
   ·cases ho
 ·obtain ⟨hC2, rfl⟩ := (own0 _ _ _).1 hC
  obtain ⟨rows, er, hcells, hrow⟩ := rdVals_rows eItem l _ hC2
  rw [List.length_map] at hv hcells hle
  rw [hv]
  have hgS : g ∈ S 0 := by rw [hs]; simp
  have hbg : bx ≠ g := fun h => by
   have := hm.sep 3 0 bx (by rw [r2]; simp) (by rw [h]; exact hgS)
   cases this
  by_cases hl0 : l = []
  ·subst hl0
   refine (compactItem_e (some ⟨g, 0, none⟩) cap _ W).mono ?_
   rintro e W' ⟨rfl, rfl⟩
   exact fin g hgS W' (cap * 35) 0 cap (Nat.zero_le _) hcap ⟨rfl, rfl, rfl, Nat.le_refl _, fun _ _ _ => rfl, cur, hg, hcur⟩ (.inl ⟨rfl, fun i h => by simp at h⟩)
  have hn : 0 < l.length := List.length_pos_iff.2 hl0
  have : Inhabited (Fin l.length) := ⟨⟨0, hn⟩⟩
  obtain ⟨enc, henc⟩ : ∃ enc : Fin l.length → List Value, ∀ i, enc i = rows[i.1]'(by omega) := ⟨fun i => rows[i.1]'(by omega), fun _ => rfl⟩
  have hrd : ∀ i : Fin l.length, RdVals W F (eItem l[i.1]) (enc i) := fun i => by rw [henc]; exact hrow i.1 i.2 (by omega)
  have hlen : ∀ x : Item, (eItem x).length = 35 := fun x => by simp [eItem, eNum, eExpr_eq, eRule]
  have hek : ∀ i, (enc i).length = 35 := fun i => by rw [RdVals.length _ _ (hrd i), hlen]
  have he1 : ∀ i, ∀ v ∈ enc i, v.oneCell' = true := fun i => rdVals_one _ _ (hrd i) (eItem_1 _)
  obtain ⟨d, hd⟩ : ∃ d : Array (Fin l.length), d = (List.finRange l.length).toArray := ⟨_, rfl⟩
  have hdl : d.toList = List.finRange l.length := by rw [hd]
  have hdz : d.size = l.length := by rw [hd]; simp
  have hda : ∀ j (h : j < l.length), d[j]! = ⟨j, h⟩ := fun j h => by
   rw [getElem!_pos d j (by omega)]
   simp [hd]
  have hfm : d.toList.flatMap enc = rows.flatten := by
   rw [hdl, List.flatMap]
   congr 1
   apply List.ext_getElem (by simp [er])
   intro i h1 h2
   simp [henc]
  have hsz : (flatK enc 35 d).size = l.length * 35 := by simp [hdz]
  have hcur' : l.length * 35 ≤ cur.size := by rw [hcur]; exact Nat.mul_le_mul_right _ hle
  have hH : HoldsK enc 35 W g 0 d := by
   intro j hj
   rw [hsz] at hj
   have hjc : j < cur.size := by omega
   have e2 : cur[j]? = (flatK enc 35 d)[j]? := by
    have h1 := congrArg (fun x => x[j]?) hcells
    rw [← hfm, ← flatK_toList enc 35 (by omega) hek] at h1
    simp only [List.getElem?_take, hj, if_true, Array.getElem?_toList] at h1
    exact h1
   refine ⟨?_, by simp [World.frozen?, hg]⟩
   simp only [World.cell?, hg, Nat.zero_add]
   have : (flatK enc 35 d)[j]! = (flatK enc 35 d)[j]'(by rw [hsz]; exact hj) := getElem!_pos _ j (by rw [hsz]; exact hj)
   simp only [id, this]
   rw [show (({ block := g, off := j, spot := none } : Addr).spot.isSome) = false from rfl]
   simp only [Bool.false_eq_true, if_false, e2]
   rw [Array.getElem?_eq_getElem]
  have hcw := compactItem_w (P := Tryz.prog) rfl enc 35 rfl hek he1 (fun a b => cmpP (partI l[a.1]) (partI l[b.1]) == 0) 109 #[.pointer (some ⟨bx, 0, none⟩)] g 0 cap (cap * 35) d W (fun bs w => Tryz.call109 bs w)
   (fun wr hfr x y => by
    have hb2 : wr.cell? ⟨bx, 0, none⟩ = some (.func (.func 53) #[] #[]) := by
     rw [← hbx]
     simp only [World.cell?, hfr.same bx hbW hbg]
    refine sameItem_w (P := Tryz.prog) rfl 35 rfl (enc x).toArray (enc y).toArray (by simpa using hek x) (by simpa using hek y) _ bx wr hb2 (fun w => ?_)
    exact item_x l[x.1] l[y.1] (enc x) (enc y) (hrd x) (hrd y) w) hH ⟨cur, hg, hcur⟩ (by omega) hcap (by omega)
  rw [hdz] at hcw
  refine hcw.mono ?_
  rintro e' W' ⟨m, rfl, hfr, hd2⟩
  rw [hdz] at hd2
  have hkey : ∀ j (h : j + 1 < l.length), ((fun a b : Fin l.length => cmpP (partI l[a.1]) (partI l[b.1]) == 0) d[j + 1]! d[j]! = true) ↔ partI l[j + 1] = partI l[j] := fun j h => by
   rw [hda (j + 1) h, hda j (by omega)]
   simp only [beq_iff_eq]
   exact cmpP_zero _ _
  refine fin g hgS W' _ m cap ?_ hcap hfr ?_
  ·rcases hd2 with ⟨h, _⟩ | ⟨h, _⟩ <;> omega
  ·rcases hd2 with ⟨h, h'⟩ | ⟨h, j, hj, h'⟩
   ·refine .inl ⟨h, fun j hj hc => ?_⟩
    have := h' j hj
    rw [(hkey j hj).2 hc] at this
    cases this
   ·exact .inr ⟨h, j, hj, (hkey j hj).1 h'⟩
def compQModule (l : List Module) (V : AV) (ol : OL) (new : List Nat) : Prop :=
 ∃ m, V = .d (.sl (List.replicate m [])) ∧ ol = [(3, boxO 57)] ∧ new = [] ∧ ((m = l.length ∧ ∀ i (h : i + 1 < l.length), Module.name l[i + 1] ≠ Module.name l[i]) ∨ (m < l.length ∧ ∃ i, ∃ h : i + 1 < l.length, Module.name l[i + 1] = Module.name l[i]))
theorem compactModule_e (ad : Option Addr) (cap : Nat) (v : Value) (W : World) : Calls Tryz.prog 113 #[.slice ad 0 cap, v] W fun e w' => e = .returned (.slice ad 0 cap) ∧ w' = W := by
 go_enter Tryz.func113, Tryz.ntmps113
 go_wp2
 go_ret
 exact ⟨rfl, rfl⟩
theorem compactModule_o (l : List Module) (hl : l.length < 4611686018427387904) : FnL Tryz.prog 113 [.ar 0 l.length, .clo (.func 114) [] [.bp 3 0]] [(0, .arr 53 4 .flat (l.map eModule)), (3, boxO 57)] (compQModule l) := by
 refine ⟨fun W bs => Tryz.call113 bs W, ?_⟩
 intro W F O0 η S vs hm hO0 hr
 simp only [RelVs, RelV] at hr
 obtain ⟨v0, _, rfl, hv0, v1, _, rfl, ⟨fs, cbs, rfl, rfl, vb, _, rfl, hvb, rfl⟩, rfl⟩ := hr
 have e0 : v0 = η 0 := (hv0 53 4 .flat (l.map eModule) (by simp [om])).2 (by simp)
 obtain ⟨bx, q1, q2⟩ := hvb [.d (.clo (.func 57) [] [])] (by simp [om, boxO])
 obtain ⟨b', curb, eb, r1, r2, r3, r4⟩ := hm.obj 3 (boxO 57) (by simp [om])
 rw [q1] at r1
 simp only [Value.pointer.injEq, Option.some.injEq, Addr.mk.injEq, and_true] at r1
 subst r1
 have hbx : W.cell? ⟨bx, 0, none⟩ = some (.func (.func 57) #[] #[]) := by
  simp only [RelVs, RelV, Aw.Rd, RdVals] at r4
  obtain ⟨u, rest, e1, ⟨a, b, rfl, rfl, rfl⟩, rfl⟩ := r4
  simp only [World.cell?, r3]
  have : curb = #[.func (.func 57) #[] #[]] := by apply Array.ext'; simpa using e1
  subst this
  rfl
 have hbW : bx < W.heap.size := (Array.getElem?_eq_some_iff.1 r3).1
 obtain ⟨_, hkk, hcase⟩ := hm.obj 0 (.arr 53 4 .flat (l.map eModule)) (by simp [om])
 subst e0 q2
 have fin : ∀ (g : Nat) (hg : g ∈ S 0) (W' : World) (sz : Nat) (m cap : Nat) (_ : m ≤ cap) (_ : cap ≤ maxLen), Frm W W' g 53 sz → ((m = l.length ∧ ∀ i (h : i + 1 < l.length), Module.name l[i + 1] ≠ Module.name l[i]) ∨ (m < l.length ∧ ∃ i, ∃ h : i + 1 < l.length, Module.name l[i + 1] = Module.name l[i])) →
   ∃ v V Oo new F' η' S', Ending.returned (.slice (some ⟨g, 0, none⟩) m cap) = .returned v ∧ (∃ ol, Oo = om ol ∧ compQModule l V ol new) ∧ (∀ i ∈ new, ∀ lim fam stop l rest, Oo i ≠ some (.ext lim fam stop l rest)) ∧
    Mem ⟨Tryz.prog, N0, W, F, O0, [], [], fun _ => undef⟩ Oo W' F' η' S' ∧ RelV Oo W' F' η' V v ∧ Keeps (om [(0, .arr 53 4 .flat (l.map eModule)), (3, boxO 57)]) Oo η η' new := by
  intro g hg W' sz m cap hmc hcx hfr hd
  refine ⟨_, .d (.sl (List.replicate m [])), _, [], _, η, _, rfl, ⟨_, rfl, m, rfl, rfl, rfl, hd⟩, by simp, mem_box (cs := [.d (.clo (.func 57) [] [])]) hm hO0 (by simp [om, boxO]) ⟨[_], rfl⟩ hg hfr, ?_, ?_⟩
  ·simp only [RelV, Aw.Rd, List.length_replicate]
   exact ⟨⟨_, cap, rfl, hmc, fun _ => ⟨g, 0, 0, rfl, .inr rfl, rdRows_nil m g 0⟩⟩, Nat.le_trans hmc hcx⟩
  ·intro id o' ho
   simp only [om] at ho
   split at ho
   ·rename_i h3
    subst h3
    cases ho
    exact .inr ⟨_, by simp only [om, boxO]; rfl, rfl⟩
   ·cases ho
 rcases hcase with ⟨⟨ad, hv⟩, hes, hS⟩ | ⟨g, cap, cur, s1, hv, hg, hle, hcap, hcur, hs, hC⟩
 ·have hl0 : l = [] := List.map_eq_nil_iff.1 hes
  subst hl0
  rw [hv]
  refine (compactModule_e ad 0 _ W).mono ?_
  rintro e W' ⟨rfl, rfl⟩
  obtain ⟨m1, _⟩ := hm.dropL (W' := W') (F' := fun b => F b ∨ ∃ id ∈ [0], b ∈ S id) [0] (Below.refl _ _) (fun b hb => .inl hb) (fun b hb => by
    rcases hb with hb | hb
    ·exact .inl hb
    ·exact .inr (.inr hb))
  have hd : drop (om [(0, AO.arr 53 4 .flat ([].map eModule)), (3, boxO 57)]) [0] = om [(3, boxO 57)] := by
   funext id
   simp only [drop, om, List.mem_singleton]
   by_cases h0 : id = 0
   ·subst h0; simp
   ·simp [h0]
  rw [hd] at m1
  refine ⟨_, .d (.sl (List.replicate 0 [])), _, [], _, η, _, rfl, ⟨_, rfl, 0, rfl, rfl, rfl, .inl ⟨rfl, fun i h => by simp at h⟩⟩, by simp, m1, ?_, ?_⟩
  ·simp only [RelV, Aw.Rd, List.length_replicate]
   exact ⟨⟨ad, 0, rfl, Nat.le_refl _, fun h => absurd rfl h⟩, Nat.zero_le _⟩
  ·intro id o' ho
   simp only [om] at ho
   split at ho
   ·rename_i h3
    subst h3
    cases ho
    exact .inr ⟨_, by simp only [om, boxO]; rfl, rfl⟩
   ·cases ho
 ·obtain ⟨hC2, rfl⟩ := (own0 _ _ _).1 hC
  obtain ⟨rows, er, hcells, hrow⟩ := rdVals_rows eModule l _ hC2
  rw [List.length_map] at hv hcells hle
  rw [hv]
  have hgS : g ∈ S 0 := by rw [hs]; simp
  have hbg : bx ≠ g := fun h => by
   have := hm.sep 3 0 bx (by rw [r2]; simp) (by rw [h]; exact hgS)
   cases this
  by_cases hl0 : l = []
  ·subst hl0
   refine (compactModule_e (some ⟨g, 0, none⟩) cap _ W).mono ?_
   rintro e W' ⟨rfl, rfl⟩
   exact fin g hgS W' (cap * 4) 0 cap (Nat.zero_le _) hcap ⟨rfl, rfl, rfl, Nat.le_refl _, fun _ _ _ => rfl, cur, hg, hcur⟩ (.inl ⟨rfl, fun i h => by simp at h⟩)
  have hn : 0 < l.length := List.length_pos_iff.2 hl0
  have : Inhabited (Fin l.length) := ⟨⟨0, hn⟩⟩
  obtain ⟨enc, henc⟩ : ∃ enc : Fin l.length → List Value, ∀ i, enc i = rows[i.1]'(by omega) := ⟨fun i => rows[i.1]'(by omega), fun _ => rfl⟩
  have hrd : ∀ i : Fin l.length, RdVals W F (eModule l[i.1]) (enc i) := fun i => by rw [henc]; exact hrow i.1 i.2 (by omega)
  have hlen : ∀ x : Module, (eModule x).length = 4 := fun x => rfl
  have hek : ∀ i, (enc i).length = 4 := fun i => by rw [RdVals.length _ _ (hrd i), hlen]
  have he1 : ∀ i, ∀ v ∈ enc i, v.oneCell' = true := fun i => rdVals_one _ _ (hrd i) (eModule_1 _)
  obtain ⟨d, hd⟩ : ∃ d : Array (Fin l.length), d = (List.finRange l.length).toArray := ⟨_, rfl⟩
  have hdl : d.toList = List.finRange l.length := by rw [hd]
  have hdz : d.size = l.length := by rw [hd]; simp
  have hda : ∀ j (h : j < l.length), d[j]! = ⟨j, h⟩ := fun j h => by
   rw [getElem!_pos d j (by omega)]
   simp [hd]
  have hfm : d.toList.flatMap enc = rows.flatten := by
   rw [hdl, List.flatMap]
   congr 1
   apply List.ext_getElem (by simp [er])
   intro i h1 h2
   simp [henc]
  have hsz : (flatK enc 4 d).size = l.length * 4 := by simp [hdz]
  have hcur' : l.length * 4 ≤ cur.size := by rw [hcur]; exact Nat.mul_le_mul_right _ hle
  have hH : HoldsK enc 4 W g 0 d := by
   intro j hj
   rw [hsz] at hj
   have hjc : j < cur.size := by omega
   have e2 : cur[j]? = (flatK enc 4 d)[j]? := by
    have h1 := congrArg (fun x => x[j]?) hcells
    rw [← hfm, ← flatK_toList enc 4 (by omega) hek] at h1
    simp only [List.getElem?_take, hj, if_true, Array.getElem?_toList] at h1
    exact h1
   refine ⟨?_, by simp [World.frozen?, hg]⟩
   simp only [World.cell?, hg, Nat.zero_add]
   have : (flatK enc 4 d)[j]! = (flatK enc 4 d)[j]'(by rw [hsz]; exact hj) := getElem!_pos _ j (by rw [hsz]; exact hj)
   simp only [id, this]
   rw [show (({ block := g, off := j, spot := none } : Addr).spot.isSome) = false from rfl]
   simp only [Bool.false_eq_true, if_false, e2]
   rw [Array.getElem?_eq_getElem]
  have hcw := compactModule_w (P := Tryz.prog) rfl enc 4 rfl hek he1 (fun a b => cmpN l[a.1].name l[b.1].name == 0) 114 #[.pointer (some ⟨bx, 0, none⟩)] g 0 cap (cap * 4) d W (fun bs w => Tryz.call114 bs w)
   (fun wr hfr x y => by
    have hb2 : wr.cell? ⟨bx, 0, none⟩ = some (.func (.func 57) #[] #[]) := by
     rw [← hbx]
     simp only [World.cell?, hfr.same bx hbW hbg]
    refine sameModule_w (P := Tryz.prog) rfl 4 rfl (enc x).toArray (enc y).toArray (by simpa using hek x) (by simpa using hek y) _ bx wr hb2 (fun w => ?_)
    exact module_x l[x.1] l[y.1] (enc x) (enc y) (hrd x) (hrd y) w) hH ⟨cur, hg, hcur⟩ (by omega) hcap (by omega)
  rw [hdz] at hcw
  refine hcw.mono ?_
  rintro e' W' ⟨m, rfl, hfr, hd2⟩
  rw [hdz] at hd2
  have hkey : ∀ j (h : j + 1 < l.length), ((fun a b : Fin l.length => cmpN l[a.1].name l[b.1].name == 0) d[j + 1]! d[j]! = true) ↔ Module.name l[j + 1] = Module.name l[j] := fun j h => by
   rw [hda (j + 1) h, hda j (by omega)]
   simp only [beq_iff_eq]
   exact cmpB_zero _ _
  refine fin g hgS W' _ m cap ?_ hcap hfr ?_
  ·rcases hd2 with ⟨h, _⟩ | ⟨h, _⟩ <;> omega
  ·rcases hd2 with ⟨h, h'⟩ | ⟨h, j, hj, h'⟩
   ·refine .inl ⟨h, fun j hj hc => ?_⟩
    have := h' j hj
    rw [(hkey j hj).2 hc] at this
    cases this
   ·exact .inr ⟨h, j, hj, (hkey j hj).1 h'⟩
end Go.Proofs.YtbenhdgpogiadaaGreat

namespace Go.Proofs.YtbenhdgpogiadaaGreat
open Go.Aw
open Nat renaming reduceEqDiff → pE, reduceLT → pL, reduceAdd → pA, reduceSub → pS, reduceMul → pM, reduceLeDiff → pD
open Int renaming reduceToNat → qT, reduceGT → qG, reduceLT → qL, reduceGE → qH, reduceBNe → qN, reduceBEq → qB, reduceLE → qE, reduceNe → qO, reduceAdd → qA, reduceNeg → qM
set_option maxRecDepth 100000
set_option maxHeartbeats 40000000
theorem adj_nodup {α κ : Type} {lt : κ → κ → Bool} {key : α → κ} (o : TOrd lt) {l l' : List α} (hp : l.Perm l') (hs : l'.Pairwise fun x y => lt (key y) (key x) = false) : (∀ i (h : i + 1 < l'.length), key l'[i + 1] ≠ key l'[i]) ↔ (l.map key).Nodup := by
 rw [(hp.map key).nodup_iff]
 constructor
 ·intro h
  rw [List.nodup_iff_pairwise_ne, List.pairwise_iff_getElem]
  intro i j hi hj hij e
  rw [List.length_map] at hi hj
  simp only [List.getElem_map] at e
  have hp' := List.pairwise_iff_getElem.1 hs
  by_cases hj1 : j = i + 1
  ·subst hj1; exact h i hj e.symm
  ·have h1 := hp' i (i + 1) hi (by omega) (by omega)
   have h2 := hp' (i + 1) j (by omega) hj (by omega)
   rw [← e] at h2
   exact h i (by omega) (o.conn _ _ h1 h2)
 ·intro h i hi e
  rw [List.nodup_iff_pairwise_ne, List.pairwise_iff_getElem] at h
  have := h i (i + 1) (by rw [List.length_map]; omega) (by rw [List.length_map]; omega) (by omega)
  simp only [List.getElem_map] at this
  exact this e.symm
theorem uniqueItem_g (l : List Item) (hl : l.length ≤ 4000000) : FnP Tryz.prog 52 [.sl (l.map eItem), .clo (.func 53) [] []] (.d (eB (decide (l.map partI).Nodup))) [] := by
 refine FnP.of_eC (own := []) (fun i => if i = 2001 then [.flt ⟨[(0, none), (1, none), (2, none), (3, some []), (4, none)]⟩ ⟨[], []⟩] else []) mixed Tryz.func52 rfl Tryz.call52 Tryz.ntmps52 (Nat.le_of_ble_eq_true rfl) Tryz.results52 (fun hok => ?_)
 have vc := valuesItem_c l
 simp (maxSteps := 4000000) only [ZE,↓reduceIte,pE,pL,pA,pS,pM,pD, zN,qT,qG,qL,qH,qN,qB,qE,qO,qA,qM]
 refine ⟨by kernel_rfl, ECall'.i vc ?_⟩
 simp (maxSteps := 4000000) only [ZE,↓reduceIte,pE,pL,pA,pS,pM,pD, zN,qT,qG,qL,qH,qN,qB,qE,qO,qA,qM]
 refine EFn.gV [(90, 90)] (sortedItem_c l hl) ?_ ?_
 ·simp (maxSteps := 4000000) only [ZE,↓reduceIte,pE,pL,pA,pS,pM,pD]
 rintro V ol new ⟨rfl, ⟨l', hp, hs, rfl⟩, rfl⟩
 have hn := adj_nodup ordP hp (hs.imp fun {a b} h => not_cmpP h)
 have hll : l'.length = l.length := hp.length_eq.symm
 have cc := compactItem_o l' (by omega)
 rw [hll] at cc
 simp only [boxO] at cc
 simp (maxSteps := 4000000) only [ZE,↓reduceIte,pE,pL,pA,pS,pM,pD, zN,qT,qG,qL,qH,qN,qB,qE,qO,qA,qM]
 refine EFn.gV [(0, 90), (3, 3)] cc ?_ ?_
 ·simp (maxSteps := 4000000) only [ZE,↓reduceIte,pE,pL,pA,pS,pM,pD]
 rintro V ol new ⟨m, rfl, rfl, rfl, hd⟩
 have hd2 : ((m : Int) == (l.length : Int)) = decide (l.map partI).Nodup := by
  rw [Bool.eq_iff_iff, beq_iff_eq, decide_eq_true_eq, ← hn]
  rcases hd with ⟨h, h'⟩ | ⟨h, i, hi, h'⟩
  ·exact ⟨fun _ => h', fun _ => by omega⟩
  ·exact ⟨fun e => by omega, fun h2 => absurd h' (h2 i hi)⟩
 simp only [boxO]
 simp (maxSteps := 4000000) only [ZE,↓reduceIte,pE,pL,pA,pS,pM,pD, zN,qT,qG,qL,qH,qN,qB,qE,qO,qA,qM, List.length_replicate, List.length_map, hd2]
theorem uniqueModule_g (l : List Module) (hl : l.length ≤ 4000000) : FnP Tryz.prog 56 [.sl (l.map eModule), .clo (.func 57) [] []] (.d (eB (decide (l.map Module.name).Nodup))) [] := by
 refine FnP.of_eC (own := []) (fun i => if i = 2001 then [.flt ⟨[(0, none), (1, none), (2, none), (3, some []), (4, none)]⟩ ⟨[], []⟩] else []) mixed Tryz.func56 rfl Tryz.call56 Tryz.ntmps56 (Nat.le_of_ble_eq_true rfl) Tryz.results56 (fun hok => ?_)
 have vc := valuesModule_c l
 simp (maxSteps := 4000000) only [ZE,↓reduceIte,pE,pL,pA,pS,pM,pD, zN,qT,qG,qL,qH,qN,qB,qE,qO,qA,qM]
 refine ⟨by kernel_rfl, ECall'.i vc ?_⟩
 simp (maxSteps := 4000000) only [ZE,↓reduceIte,pE,pL,pA,pS,pM,pD, zN,qT,qG,qL,qH,qN,qB,qE,qO,qA,qM]
 refine EFn.gV [(90, 90)] (sortedModule_c l hl) ?_ ?_
 ·simp (maxSteps := 4000000) only [ZE,↓reduceIte,pE,pL,pA,pS,pM,pD]
 rintro V ol new ⟨rfl, ⟨l', hp, hs, rfl⟩, rfl⟩
 have hn := adj_nodup ordS hp (hs.imp fun {a b} h => not_cmpN h)
 have hll : l'.length = l.length := hp.length_eq.symm
 have cc := compactModule_o l' (by omega)
 rw [hll] at cc
 simp only [boxO] at cc
 simp (maxSteps := 4000000) only [ZE,↓reduceIte,pE,pL,pA,pS,pM,pD, zN,qT,qG,qL,qH,qN,qB,qE,qO,qA,qM]
 refine EFn.gV [(0, 90), (3, 3)] cc ?_ ?_
 ·simp (maxSteps := 4000000) only [ZE,↓reduceIte,pE,pL,pA,pS,pM,pD]
 rintro V ol new ⟨m, rfl, rfl, rfl, hd⟩
 have hd2 : ((m : Int) == (l.length : Int)) = decide (l.map Module.name).Nodup := by
  rw [Bool.eq_iff_iff, beq_iff_eq, decide_eq_true_eq, ← hn]
  rcases hd with ⟨h, h'⟩ | ⟨h, i, hi, h'⟩
  ·exact ⟨fun _ => h', fun _ => by omega⟩
  ·exact ⟨fun e => by omega, fun h2 => absurd h' (h2 i hi)⟩
 simp only [boxO]
 simp (maxSteps := 4000000) only [ZE,↓reduceIte,pE,pL,pA,pS,pM,pD, zN,qT,qG,qL,qH,qN,qB,qE,qO,qA,qM, List.length_replicate, List.length_map, hd2]
theorem partitioned_c (f : List Module) (hl : f.length ≤ 4000000) (hi : ∀ m ∈ f, m.items.length ≤ 4000000) : FnP Tryz.prog 17 [.agg [eModules f]] (.d (eB (partB f))) [] := by
 refine FnP.of_eC (own := []) (fun _ => []) mixed Tryz.func17 rfl Tryz.call17 Tryz.ntmps17 (Nat.le_of_ble_eq_true rfl) Tryz.results17 (fun hok => ?_)
 have uc := uniqueModule_g f hl
 simp only [ZE,↓reduceIte,pE,pL,pA,pS,pM,pD, zN,qT,qG,qL,qH,qN,qB,qE,qO,qA,qM]
 refine eloop (fun _ => []) mixed f.length (fun i => ∀ j (_ : j < i) (h : j < f.length), (f[j].items.map partI).Nodup ∧ ∀ x ∈ f[j].items, x.kind.1 ≠ 0) (fun i => ([(1, .bp 1 0), (6, .d (eModules f)), (7, .d (eI f.length)), (8, .d (eI i))], [(1, .box [.d (eModules f)])])) (by omega) (by simp only [ZE,↓reduceIte,pE,pL,pA,pS,pM,pD, zN,qT,qG,qL,qH,qN,qB,qE,qO,qA,qM, List.length_map]) (by simp only [ZE,↓reduceIte,pE,pL,pA,pS,pM,pD]) (fun i hii hI => ?_)
 rcases Nat.lt_or_ge i f.length with h | h
 ·have hw := wrap_succ (show i < 9223372036854775807 by omega)
  obtain ⟨m, hm⟩ : ∃ m, f[i] = m := ⟨_, rfl⟩
  have hmm : m ∈ f := by rw [← hm]; exact List.getElem_mem h
  have ui := uniqueItem_g m.items (hi m hmm)
  have ci := containsK_c m.items
  by_cases hnd : (m.items.map partI).Nodup
  ·rw [decide_eq_true hnd] at ui
   cases ha : m.items.any kind0 with
   | false =>
    rw [ha] at ci
    simp (maxSteps := 4000000) only [ZE,↓reduceIte,pE,pL,pA,pS,pM,pD] at ui ci
    simp (maxSteps := 4000000) only [ZE,↓reduceIte,pE,pL,pA,pS,pM,pD, dec_lt h, getD_map h, lt_int h, hm, zN,qT,qG,qL,qH,qN,qB,qE,qO,qA,qM, List.length_map]
    refine EFn.p ?_
    simp (maxSteps := 4000000) only [ZE,↓reduceIte,pE,pL,pA,pS,pM,pD, zN,qT,qG,qL,qH,qN,qB,qE,qO,qA,qM]
    refine ECall.i ui ?_
    simp (maxSteps := 4000000) only [ZE,↓reduceIte,pE,pL,pA,pS,pM,pD, zN,qT,qG,qL,qH,qN,qB,qE,qO,qA,qM]
    refine EFn.p ?_
    simp (maxSteps := 4000000) only [ZE,↓reduceIte,pE,pL,pA,pS,pM,pD, zN,qT,qG,qL,qH,qN,qB,qE,qO,qA,qM]
    refine ECall.i ci ?_
    simp (maxSteps := 4000000) only [ZE,↓reduceIte,pE,pL,pA,pS,pM,pD, zN,qT,qG,qL,qH,qN,qB,qE,qO,qA,qM, hw]
    refine ⟨h, fun j hj hj' => ?_⟩
    rcases Nat.lt_succ_iff_lt_or_eq.1 hj with hj | rfl
    ·exact hI j hj hj'
    ·rw [hm]
     refine ⟨hnd, fun x hx h0 => ?_⟩
     have := List.any_eq_false.1 ha x hx
     exact this (by simp [kind0, h0])
   | true =>
    have hf : partB f = false := by
     cases hq : partB f with
     | false => rfl
     | true =>
      obtain ⟨x, hx, hk⟩ := List.any_eq_true.1 ha
      exact absurd (by simpa [kind0] using hk) (((partB_iff f).1 hq).kinds m hmm x hx)
    rw [hf]
    rw [ha] at ci
    simp (maxSteps := 4000000) only [ZE,↓reduceIte,pE,pL,pA,pS,pM,pD] at ui ci
    simp (maxSteps := 4000000) only [ZE,↓reduceIte,pE,pL,pA,pS,pM,pD, dec_lt h, getD_map h, lt_int h, hm, zN,qT,qG,qL,qH,qN,qB,qE,qO,qA,qM, List.length_map]
    refine EFn.p ?_
    simp (maxSteps := 4000000) only [ZE,↓reduceIte,pE,pL,pA,pS,pM,pD, zN,qT,qG,qL,qH,qN,qB,qE,qO,qA,qM]
    refine ECall.i ui ?_
    simp (maxSteps := 4000000) only [ZE,↓reduceIte,pE,pL,pA,pS,pM,pD, zN,qT,qG,qL,qH,qN,qB,qE,qO,qA,qM]
    refine EFn.p ?_
    simp (maxSteps := 4000000) only [ZE,↓reduceIte,pE,pL,pA,pS,pM,pD, zN,qT,qG,qL,qH,qN,qB,qE,qO,qA,qM]
    refine ECall.i ci ?_
    simp (maxSteps := 4000000) only [ZE,↓reduceIte,pE,pL,pA,pS,pM,pD, zN,qT,qG,qL,qH,qN,qB,qE,qO,qA,qM, hw]
  ·have hf : partB f = false := by
    cases hq : partB f with
    | false => rfl
    | true => exact absurd (((partB_iff f).1 hq).parts m hmm) hnd
   rw [hf]
   rw [decide_eq_false hnd] at ui
   simp (maxSteps := 4000000) only [ZE,↓reduceIte,pE,pL,pA,pS,pM,pD] at ui
   simp (maxSteps := 4000000) only [ZE,↓reduceIte,pE,pL,pA,pS,pM,pD, dec_lt h, getD_map h, lt_int h, hm, zN,qT,qG,qL,qH,qN,qB,qE,qO,qA,qM, List.length_map]
   refine EFn.p ?_
   simp (maxSteps := 4000000) only [ZE,↓reduceIte,pE,pL,pA,pS,pM,pD, zN,qT,qG,qL,qH,qN,qB,qE,qO,qA,qM]
   refine ECall.i ui ?_
   simp (maxSteps := 4000000) only [ZE,↓reduceIte,pE,pL,pA,pS,pM,pD, zN,qT,qG,qL,qH,qN,qB,qE,qO,qA,qM]
 ·have hf : partB f = decide (f.map Module.name).Nodup := by
   rw [Bool.eq_iff_iff, decide_eq_true_eq, partB_iff]
   refine ⟨fun hq => hq.names, fun hq => ⟨hq, fun m hm => ?_, fun m hm => ?_⟩⟩
   ·obtain ⟨j, hj, rfl⟩ := List.getElem_of_mem hm
    exact (hI j (by omega) hj).1
   ·obtain ⟨j, hj, rfl⟩ := List.getElem_of_mem hm
    exact (hI j (by omega) hj).2
  rw [hf]
  simp (maxSteps := 4000000) only [ZE,↓reduceIte,pE,pL,pA,pS,pM,pD, dec_ge h, zN,qT,qG,qL,qH,qN,qB,qE,qO,qA,qM, List.length_map]
  refine EFn.p ?_
  simp (maxSteps := 4000000) only [ZE,↓reduceIte,pE,pL,pA,pS,pM,pD, zN,qT,qG,qL,qH,qN,qB,qE,qO,qA,qM]
  refine ECall.i uc ?_
  simp (maxSteps := 4000000) only [ZE,↓reduceIte,pE,pL,pA,pS,pM,pD, zN,qT,qG,qL,qH,qN,qB,qE,qO,qA,qM]
end Go.Proofs.YtbenhdgpogiadaaGreat

namespace Go.Proofs.YtbenhdgpogiadaaGreat
open Go.Aw
open Nat renaming reduceEqDiff → pE, reduceLT → pL, reduceAdd → pA, reduceSub → pS, reduceMul → pM, reduceLeDiff → pD
open Int renaming reduceToNat → qT, reduceGT → qG, reduceLT → qL, reduceGE → qH, reduceBNe → qN, reduceBEq → qB, reduceLE → qE, reduceNe → qO, reduceAdd → qA, reduceNeg → qM
set_option maxRecDepth 100000
set_option maxHeartbeats 40000000
/-! ### How many edits there are -/
theorem mrgF_le {α κ β : Type} {lt : κ → κ → Bool} {key : α → κ} {g c : α → List β} {b : α → α → List β} {w : α → Nat} (hg : ∀ x, (g x).length ≤ w x) (hc : ∀ x, (c x).length ≤ w x) (hb : ∀ x y, (b x y).length ≤ w x + w y) : ∀ (n : Nat) (xs ys : List α), (mrgF lt key g c b n xs ys).length ≤ (xs.map w).sum + (ys.map w).sum
 | 0, _, _ => by simp [mrgF]
 | n + 1, [], [] => by simp [mrgF]
 | n + 1, x :: xs, [] => by
  have h1 := hg x
  have h2 := mrgF_le hg hc hb (lt := lt) (key := key) n xs []
  simp only [mrgF, List.length_append, List.map_cons, List.sum_cons, List.map_nil, List.sum_nil] at *
  omega
 | n + 1, [], y :: ys => by
  have h1 := hc y
  have h2 := mrgF_le hg hc hb (lt := lt) (key := key) n [] ys
  simp only [mrgF, List.length_append, List.map_cons, List.sum_cons, List.map_nil, List.sum_nil] at *
  omega
 | n + 1, x :: xs, y :: ys => by
  have h1 := hg x
  have h2 := hc y
  have h3 := hb x y
  have h4 := mrgF_le hg hc hb (lt := lt) (key := key) n xs (y :: ys)
  have h5 := mrgF_le hg hc hb (lt := lt) (key := key) n (x :: xs) ys
  have h6 := mrgF_le hg hc hb (lt := lt) (key := key) n xs ys
  simp only [mrgF, List.map_cons, List.sum_cons] at *
  split
  ·rw [List.length_append]; omega
  split
  ·rw [List.length_append]; omega
  ·rw [List.length_append]; omega
theorem ones_sum {α : Type} (l : List α) : (l.map fun _ => 1).sum = l.length := by
 induction l with
 | nil => rfl
 | cons x l ih => simp [ih]; omega
theorem itemsD_le (n : Str) (a b : List Item) : (itemsD n a b).length ≤ a.length + b.length := by
 have h := mrgF_le (lt := ltP) (key := partI) (g := fun x => [eRem n x]) (c := fun y => [eSet n y]) (b := fun x y => if sameI x y = true then [] else [eSet n y]) (w := fun _ => 1) (fun _ => Nat.le_refl _) (fun _ => Nat.le_refl _) (fun x y => by split <;> simp) (a.length + b.length) a b
 rw [ones_sum, ones_sum] at h
 exact h
def wM (m : Module) : Nat := m.items.length + 1
theorem diffN_le (a b : List Module) : (diffN a b).length ≤ (a.map wM).sum + (b.map wM).sum :=
 mrgF_le (fun m => by
  have := itemsD_le m.name m.items []
  simp only [List.length_append, List.length_cons, List.length_nil, wM] at *
  omega) (fun m => by
  have := itemsD_le m.name [] m.items
  simp only [List.length_cons, List.length_nil, wM] at *
  omega) (fun x y => by
  have := itemsD_le y.name x.items y.items
  have h2 : (headD x y).length ≤ 1 := by unfold headD; split <;> simp
  simp only [List.length_append, wM] at *
  omega) _ a b
theorem sum_le {α : Type} {w : α → Nat} {k : Nat} : ∀ {l : List α}, (∀ m ∈ l, w m ≤ k) → (l.map w).sum ≤ l.length * k
 | [], _ => by simp
 | x :: l, h => by
  have h1 := h x List.mem_cons_self
  have h2 := sum_le (w := w) (k := k) (l := l) (fun m hm => h m (List.mem_cons_of_mem _ hm))
  rw [List.map_cons, List.sum_cons, List.length_cons, Nat.add_mul, Nat.one_mul]
  omega
/-! ### Small files -/
structure Sm (f : List Module) : Prop where
 part : Parted f
 len : f.length ≤ 2
 items : ∀ m ∈ f, m.items.length ≤ 100
theorem Sm.nok {f : List Module} (h : Sm f) : NOk f := ⟨h.part.names, h.part.parts, by have := h.len; omega, fun m hm => by have := h.items m hm; omega⟩
theorem Sm.good {f : List Module} (h : Sm f) : Good (normF f) := normF_good h.part
theorem normF_items {f : List Module} {k : Nat} (h : ∀ m ∈ f, m.items.length ≤ k) : ∀ m ∈ normF f, m.items.length ≤ k := fun m hm => by
 unfold normF at hm
 obtain ⟨q, hq, rfl⟩ := List.mem_map.1 hm
 have := h q ((sortK_perm f).mem_iff.1 hq)
 show (sortK ltP partI q.items).length ≤ k
 rw [(sortK_perm q.items).length_eq]; exact this
theorem Sm.sum {f : List Module} (h : Sm f) : ((normF f).map wM).sum ≤ 202 := by
 have h1 := sum_le (w := wM) (k := 101) (l := normF f) (fun m hm => by have := normF_items h.items m hm; unfold wM; omega)
 have h2 := normF_len f
 have h3 := h.len
 rw [h2] at h1
 have : f.length * 101 ≤ 2 * 101 := Nat.mul_le_mul_right _ h3
 omega
theorem sm_spoiled (x : Raw) (l : List K4) : Sm (spoiled x l) := by
 have h := spoiled_spI x l
 exact ⟨(partB_iff _).1 h.part, h.len, fun m hm => by have := (h.fine m hm).items; omega⟩
theorem Sm.stb {f : List Module} (h : Sm f) : StB 100 (normF f) := ⟨h.good, by rw [normF_len]; have := h.len; omega, normF_items h.items⟩
theorem stb_fold : ∀ (es : List Edit) {n : Nat} {s s' : List Module}, StB n s → es.foldlM stepE s = some s' → StB (n + es.length) s'
 | [], n, s, s', h, hs => by cases hs; exact h
 | e :: es, n, s, s', h, hs => by
  rw [List.foldlM_cons] at hs
  cases h1 : stepE s e with
  | none => rw [h1] at hs; cases hs
  | some s1 =>
   rw [h1] at hs
   have := stb_fold es (h.step h1) hs
   rw [List.length_cons, show n + (es.length + 1) = n + 1 + es.length by omega]; exact this
theorem Sm.stbA {f g : List Module} (h : Sm f) {es : List Edit} (hg : applyF f es = some g) : StB (100 + es.length) g := stb_fold es h.stb hg
theorem StB.nok {n : Nat} {g : List Module} (h : StB n g) (hn : n ≤ 4000000) : NOk g := ⟨Srt.nodup ordS h.good.srt, fun m hm => Srt.nodup ordP (h.good.parts m hm), by have := h.len; omega, fun m hm => by have := h.items m hm; omega⟩
def appD (r : Option (List Module)) : D :=
 match r with
 | some s => .agg [eModules s, eI 0]
 | none => .agg [.sl [], eI 160]
theorem Sm.apply {a : List Module} (h : Sm a) (es : List Edit) (he : es.length ≤ 1000) : FnP Tryz.prog 46 [.agg [eModules a], .sl (es.map eEdit)] (applyR (applyF a es)) [] :=
 apply_c a h.nok h.good es 100 ⟨by have := h.len; omega, h.items⟩ (by omega)
theorem applied_c (a : List Module) (h : Sm a) (es : List Edit) (he : es.length ≤ 1000) : FnP Tryz.prog 26 [.agg [eModules a], .sl (es.map eEdit)] (.d (appD (applyF a es))) [] := by
 refine FnP.of_eC (own := []) (fun _ => []) mixed Tryz.func26 rfl Tryz.call26 Tryz.ntmps26 (Nat.le_of_ble_eq_true rfl) Tryz.results26 (fun hok => ?_)
 have ac := h.apply es he
 cases hr : applyF a es with
 | none =>
  rw [hr] at ac
  simp only [applyR, ZE,↓reduceIte,pE,pL,pA,pS,pM,pD] at ac
  simp (maxSteps := 4000000) only [ZE,↓reduceIte,pE,pL,pA,pS,pM,pD, zN,qT,qG,qL,qH,qN,qB,qE,qO,qA,qM]
  refine EFn.p ?_
  simp (maxSteps := 4000000) only [ZE,↓reduceIte,pE,pL,pA,pS,pM,pD, zN,qT,qG,qL,qH,qN,qB,qE,qO,qA,qM]
  refine ECall.i ac ?_
  simp (maxSteps := 4000000) only [ZE,↓reduceIte,pE,pL,pA,pS,pM,pD, zN,qT,qG,qL,qH,qN,qB,qE,qO,qA,qM, appD]
 | some s =>
  rw [hr] at ac
  simp only [applyR, ZE,↓reduceIte,pE,pL,pA,pS,pM,pD] at ac
  simp (maxSteps := 4000000) only [ZE,↓reduceIte,pE,pL,pA,pS,pM,pD, zN,qT,qG,qL,qH,qN,qB,qE,qO,qA,qM]
  refine EFn.p ?_
  simp (maxSteps := 4000000) only [ZE,↓reduceIte,pE,pL,pA,pS,pM,pD, zN,qT,qG,qL,qH,qN,qB,qE,qO,qA,qM]
  refine ECall.i ac ?_
  simp (maxSteps := 4000000) only [ZE,↓reduceIte,pE,pL,pA,pS,pM,pD, zN,qT,qG,qL,qH,qN,qB,qE,qO,qA,qM, appD]
def invR (r : Option (List Edit)) : AV :=
 match r with
 | some l => .tup [.d (.sl (l.map eEdit)), .d (eI 0)]
 | none => .tup [.d (.sl []), .d (eI 160)]
theorem invert_c (a : List Module) (h : Sm a) (es : List Edit) (he : es.length ≤ 1000) : FnP Tryz.prog 82 [.agg [eModules a], .sl (es.map eEdit)] (invR (invertF a es)) [] := by
 refine FnP.of_eC (own := []) (fun _ => []) mixed Tryz.func82 rfl Tryz.call82 Tryz.ntmps82 (Nat.le_of_ble_eq_true rfl) Tryz.results82 (fun hok => ?_)
 have ac := h.apply es he
 unfold invertF
 cases hr : applyF a es with
 | none =>
  rw [hr] at ac
  simp only [applyR, ZE,↓reduceIte,pE,pL,pA,pS,pM,pD] at ac
  simp (maxSteps := 4000000) only [ZE,↓reduceIte,pE,pL,pA,pS,pM,pD, zN,qT,qG,qL,qH,qN,qB,qE,qO,qA,qM]
  refine EFn.p ?_
  simp (maxSteps := 4000000) only [ZE,↓reduceIte,pE,pL,pA,pS,pM,pD, zN,qT,qG,qL,qH,qN,qB,qE,qO,qA,qM]
  refine ECall.i ac ?_
  simp (maxSteps := 4000000) only [ZE,↓reduceIte,pE,pL,pA,pS,pM,pD, zN,qT,qG,qL,qH,qN,qB,qE,qO,qA,qM, invR]
 | some g =>
  rw [hr] at ac
  have hb := h.stbA hr
  have hl : (diffF g a).length ≤ 4000000 := by
   have h1 := diffN_le (normF g) (normF a)
   have h2 := h.sum
   rw [normF_self hb.good] at h1
   have h3 := sum_le (w := wM) (k := 1101) (l := g) (fun m hm => by have := hb.items m hm; unfold wM; omega)
   have h4 : g.length * 1101 ≤ 1100 * 1101 := Nat.mul_le_mul_right _ (by have := hb.len; omega)
   unfold diffF
   rw [normF_self hb.good]
   omega
  have dc := diff_c g a (hb.nok (by omega)) h.nok hl
  simp only [applyR, ZE,↓reduceIte,pE,pL,pA,pS,pM,pD] at ac
  simp (maxSteps := 4000000) only [ZE,↓reduceIte,pE,pL,pA,pS,pM,pD] at dc
  simp (maxSteps := 4000000) only [ZE,↓reduceIte,pE,pL,pA,pS,pM,pD, zN,qT,qG,qL,qH,qN,qB,qE,qO,qA,qM]
  refine EFn.p ?_
  simp (maxSteps := 4000000) only [ZE,↓reduceIte,pE,pL,pA,pS,pM,pD, zN,qT,qG,qL,qH,qN,qB,qE,qO,qA,qM]
  refine ECall.i ac ?_
  simp (maxSteps := 4000000) only [ZE,↓reduceIte,pE,pL,pA,pS,pM,pD, zN,qT,qG,qL,qH,qN,qB,qE,qO,qA,qM]
  refine EFn.p ?_
  simp (maxSteps := 4000000) only [ZE,↓reduceIte,pE,pL,pA,pS,pM,pD, zN,qT,qG,qL,qH,qN,qB,qE,qO,qA,qM]
  refine ECall.i dc ?_
  simp (maxSteps := 4000000) only [ZE,↓reduceIte,pE,pL,pA,pS,pM,pD, zN,qT,qG,qL,qH,qN,qB,qE,qO,qA,qM, invR]
def invD (r : Option (List Edit)) : D :=
 match r with
 | some l => .agg [.sl (l.map eEdit), eI 0]
 | none => .agg [.sl [], eI 160]
theorem inverted_c (a : List Module) (h : Sm a) (es : List Edit) (he : es.length ≤ 1000) : FnP Tryz.prog 28 [.agg [eModules a], .sl (es.map eEdit)] (.d (invD (invertF a es))) [] := by
 refine FnP.of_eC (own := []) (fun _ => []) mixed Tryz.func28 rfl Tryz.call28 Tryz.ntmps28 (Nat.le_of_ble_eq_true rfl) Tryz.results28 (fun hok => ?_)
 have ac := invert_c a h es he
 cases hr : invertF a es with
 | none =>
  rw [hr] at ac
  simp only [invR, ZE,↓reduceIte,pE,pL,pA,pS,pM,pD] at ac
  simp (maxSteps := 4000000) only [ZE,↓reduceIte,pE,pL,pA,pS,pM,pD, zN,qT,qG,qL,qH,qN,qB,qE,qO,qA,qM]
  refine EFn.p ?_
  simp (maxSteps := 4000000) only [ZE,↓reduceIte,pE,pL,pA,pS,pM,pD, zN,qT,qG,qL,qH,qN,qB,qE,qO,qA,qM]
  refine ECall.i ac ?_
  simp (maxSteps := 4000000) only [ZE,↓reduceIte,pE,pL,pA,pS,pM,pD, zN,qT,qG,qL,qH,qN,qB,qE,qO,qA,qM, invD]
 | some s =>
  rw [hr] at ac
  simp only [invR, ZE,↓reduceIte,pE,pL,pA,pS,pM,pD] at ac
  simp (maxSteps := 4000000) only [ZE,↓reduceIte,pE,pL,pA,pS,pM,pD, zN,qT,qG,qL,qH,qN,qB,qE,qO,qA,qM]
  refine EFn.p ?_
  simp (maxSteps := 4000000) only [ZE,↓reduceIte,pE,pL,pA,pS,pM,pD, zN,qT,qG,qL,qH,qN,qB,qE,qO,qA,qM]
  refine ECall.i ac ?_
  simp (maxSteps := 4000000) only [ZE,↓reduceIte,pE,pL,pA,pS,pM,pD, zN,qT,qG,qL,qH,qN,qB,qE,qO,qA,qM, invD]
end Go.Proofs.YtbenhdgpogiadaaGreat

namespace Go.Proofs.YtbenhdgpogiadaaGreat
open Go.Aw
open Nat renaming reduceEqDiff → pE, reduceLT → pL, reduceAdd → pA, reduceSub → pS, reduceMul → pM, reduceLeDiff → pD
open Int renaming reduceToNat → qT, reduceGT → qG, reduceLT → qL, reduceGE → qH, reduceBNe → qN, reduceBEq → qB, reduceLE → qE, reduceNe → qO, reduceAdd → qA, reduceNeg → qM
set_option maxRecDepth 100000
set_option maxHeartbeats 40000000
theorem module_c (l : List Item) : FnP Tryz.prog 47 [.sl (l.map eItem)] (.d (.agg [eModules [⟨sM, sClk, [], l⟩]])) [] := by
 refine FnP.of_eC (own := []) (fun _ => []) mixed Tryz.func47 rfl Tryz.call47 Tryz.ntmps47 (Nat.le_of_ble_eq_true rfl) Tryz.results47 (fun hok => ?_)
 simp (maxSteps := 4000000) only [ZE,↓reduceIte,pE,pL,pA,pS,pM,pD, zN,qT,qG,qL,qH,qN,qB,qE,qO,qA,qM, sM, sClk, st, List.map_cons, List.map_nil]
def exR : Item := ⟨⟨4, rfl⟩, st [114], zNum, zNum, zNum, zExpr, zExpr, zExpr, zItem.rule, emp, [], []⟩
def exS : Item := ⟨⟨4, rfl⟩, st [114], zNum, zNum, ⟨1, emp⟩, zExpr, zExpr, zExpr, zItem.rule, emp, [], []⟩
def exT : Item := ⟨⟨5, rfl⟩, st [116], zNum, zNum, zNum, zExpr, zExpr, zExpr, zItem.rule, emp, [], []⟩
def exM (l : List Item) : List Module := [⟨sM, sClk, [], l⟩]
theorem ex1 : diffF (exM [exR]) (exM [exT, exS]) = [eSet sM exS, eSet sM exT] := by kernel_rfl
theorem ex2 : diffF [] (exM [exT, exS]) = [eHead ⟨sM, sClk, [], []⟩, eSet sM exS, eSet sM exT] := by kernel_rfl
theorem ex3 : normF (exM [exT, exS]) = exM [exS, exT] := by kernel_rfl
theorem ex4 : invertF [] [eHead ⟨sM, sClk, [], []⟩, eSet sM exS, eSet sM exT] = some [eRem sM exS, eRem sM exT, eGone sM] := by kernel_rfl
theorem ex5 : partB (exM [exT, exS]) = true := by kernel_rfl
theorem ex6 : partB (exM [exR, exS]) = false := by kernel_rfl
theorem ex7 : sameF (exM [exS, exT]) (exM [exS, exT]) = true := by kernel_rfl
theorem ex8 : sameF (exM [exS, exT]) (exM [exT, exS]) = false := by kernel_rfl
theorem ex9 : (applyF (exM [exR]) [eSet sM exS, eSet sM exT]).isSome = true := by kernel_rfl
theorem ex10 : applyF [] [eSet sM exS, eSet sM exT] = none := by kernel_rfl
theorem ex11 : partB (exM [exR]) = true := by kernel_rfl
theorem sm_ex (l : List Item) (h : partB (exM l) = true) (hl : l.length ≤ 100) : Sm (exM l) := ⟨(partB_iff _).1 h, by simp [exM], fun m hm => by simp [exM] at hm; subst hm; exact hl⟩
theorem sm_nil : Sm [] := ⟨(partB_iff _).1 (by kernel_rfl), by simp, by simp⟩
theorem examples_c : FnP Tryz.prog 14 [] (.d (eB true)) [] := by
 refine FnP.of_eC (own := []) (fun i => if i = 2003 then [.flt ⟨[(0, none), (1, none), (2, none), (3, none), (4, none), (5, none), (6, none), (9, some []), (10, some [])]⟩ ⟨[7, 8], [(9, [7]), (10, [8])]⟩] else if i = 2010 then [.ord ⟨[(0, none), (1, none), (2, none), (3, none), (4, none), (5, none), (6, none), (7, none), (8, none), (9, none), (10, none), (11, none), (12, none), (13, none), (14, none), (15, none), (16, none), (17, none), (18, none), (19, none), (20, none), (21, none), (22, none), (23, none), (24, none), (25, none), (26, none), (27, none), (28, none), (29, none), (30, none), (31, none), (32, none), (33, none), (34, none), (35, none), (36, none), (37, none), (38, none), (39, none), (40, none), (41, none), (42, none), (43, none)]⟩] else []) mixed Tryz.func14 rfl Tryz.call14 Tryz.ntmps14 (Nat.le_of_ble_eq_true rfl) Tryz.results14 (fun hok => ?_)
 have smA := sm_ex [exR] ex11 (by simp)
 have smB := sm_ex [exT, exS] ex5 (by simp)
 have m1 := module_c [exR]
 have m2 := module_c [exT, exS]
 have d1 := diff_c (exM [exR]) (exM [exT, exS]) smA.nok smB.nok (by rw [ex1]; simp)
 rw [ex1] at d1
 have n1 := normal_c (exM [exT, exS]) smB.nok.names smB.nok.parts smB.nok.len smB.nok.items
 rw [ex3] at n1
 have d2 := diff_c [] (exM [exT, exS]) sm_nil.nok smB.nok (by rw [ex2]; simp)
 rw [ex2] at d2
 have v1 := inverted_c [] sm_nil [eHead ⟨sM, sClk, [], []⟩, eSet sM exS, eSet sM exT] (by simp)
 rw [ex4] at v1
 have m3 := module_c [exS, exT]
 have s1 := same_c (exM [exS, exT]) (exM [exS, exT])
 rw [ex7] at s1
 have s2 := same_c (exM [exS, exT]) (exM [exT, exS])
 rw [ex8] at s2
 have p1 := partitioned_c (exM [exT, exS]) (by simp [exM]) (by simp [exM])
 rw [ex5] at p1
 have m4 := module_c [exR, exS]
 have p2 := partitioned_c (exM [exR, exS]) (by simp [exM]) (by simp [exM])
 rw [ex6] at p2
 have a1 := applied_c (exM [exR]) smA [eSet sM exS, eSet sM exT] (by simp)
 obtain ⟨g, hg⟩ := Option.isSome_iff_exists.1 ex9
 rw [hg] at a1
 have a2 := applied_c [] sm_nil [eSet sM exS, eSet sM exT] (by simp)
 rw [ex10] at a2
 simp only [appD, invD] at v1 a1 a2
 simp (maxSteps := 4000000) only [ZE,↓reduceIte,pE,pL,pA,pS,pM,pD, exR, exS, exT, exM, eSet, eRem, eHead, eGone, eEdit, ePart, partI, zPart, sM, sClk, st, zNum, zExpr, zItem, zMod, emp, op_mk, name_mk, k_mk, w_mk, args_mk, List.map_cons, List.map_nil] at m1 m2 d1 n1 d2 v1 m3 s1 s2 p1 m4 p2 a1 a2
 clear smA smB
 simp (maxSteps := 4000000) only [ZE,↓reduceIte,pE,pL,pA,pS,pM,pD, zN,qT,qG,qL,qH,qN,qB,qE,qO,qA,qM]
 refine ⟨by kernel_rfl, ECall'.i m1 ?_⟩
 simp (maxSteps := 4000000) only [ZE,↓reduceIte,pE,pL,pA,pS,pM,pD, zN,qT,qG,qL,qH,qN,qB,qE,qO,qA,qM]
 refine ECall'.i m2 ?_
 simp (maxSteps := 4000000) only [ZE,↓reduceIte,pE,pL,pA,pS,pM,pD, zN,qT,qG,qL,qH,qN,qB,qE,qO,qA,qM]
 refine EFn.p ?_
 simp (maxSteps := 4000000) only [ZE,↓reduceIte,pE,pL,pA,pS,pM,pD, zN,qT,qG,qL,qH,qN,qB,qE,qO,qA,qM]
 refine ECall.i d1 ?_
 simp (maxSteps := 4000000) only [ZE,↓reduceIte,pE,pL,pA,pS,pM,pD, zN,qT,qG,qL,qH,qN,qB,qE,qO,qA,qM]
 refine EFn.p ?_
 simp (maxSteps := 4000000) only [ZE,↓reduceIte,pE,pL,pA,pS,pM,pD, zN,qT,qG,qL,qH,qN,qB,qE,qO,qA,qM]
 refine ECall.i n1 ?_
 simp (maxSteps := 4000000) only [ZE,↓reduceIte,pE,pL,pA,pS,pM,pD, zN,qT,qG,qL,qH,qN,qB,qE,qO,qA,qM]
 refine EFn.p ?_
 simp (maxSteps := 4000000) only [ZE,↓reduceIte,pE,pL,pA,pS,pM,pD, zN,qT,qG,qL,qH,qN,qB,qE,qO,qA,qM]
 refine ECall.i d2 ?_
 simp (maxSteps := 4000000) only [ZE,↓reduceIte,pE,pL,pA,pS,pM,pD, zN,qT,qG,qL,qH,qN,qB,qE,qO,qA,qM]
 refine EFn.p ?_
 simp (maxSteps := 4000000) only [ZE,↓reduceIte,pE,pL,pA,pS,pM,pD, zN,qT,qG,qL,qH,qN,qB,qE,qO,qA,qM]
 refine ECall.i v1 ?_
 simp (maxSteps := 4000000) only [ZE,↓reduceIte,pE,pL,pA,pS,pM,pD, zN,qT,qG,qL,qH,qN,qB,qE,qO,qA,qM]
 trace_state
 refine ⟨by kernel_rfl, ECall'.i m3 ?_⟩
 simp (maxSteps := 4000000) only [ZE,↓reduceIte,pE,pL,pA,pS,pM,pD, zN,qT,qG,qL,qH,qN,qB,qE,qO,qA,qM]
 refine ECall'.i s1 ?_
 simp (maxSteps := 4000000) only [ZE,↓reduceIte,pE,pL,pA,pS,pM,pD, zN,qT,qG,qL,qH,qN,qB,qE,qO,qA,qM]
 refine ECall'.i s2 ?_
 simp (maxSteps := 4000000) only [ZE,↓reduceIte,pE,pL,pA,pS,pM,pD, zN,qT,qG,qL,qH,qN,qB,qE,qO,qA,qM]
 refine EFn.p ?_
 simp (maxSteps := 4000000) only [ZE,↓reduceIte,pE,pL,pA,pS,pM,pD, zN,qT,qG,qL,qH,qN,qB,qE,qO,qA,qM]
 refine ECall.i p1 ?_
 simp (maxSteps := 4000000) only [ZE,↓reduceIte,pE,pL,pA,pS,pM,pD, zN,qT,qG,qL,qH,qN,qB,qE,qO,qA,qM]
 refine EFn.p ?_
 simp (maxSteps := 4000000) only [ZE,↓reduceIte,pE,pL,pA,pS,pM,pD, zN,qT,qG,qL,qH,qN,qB,qE,qO,qA,qM]
 refine ECall.i m4 ?_
 simp (maxSteps := 4000000) only [ZE,↓reduceIte,pE,pL,pA,pS,pM,pD, zN,qT,qG,qL,qH,qN,qB,qE,qO,qA,qM]
 refine EFn.p ?_
 simp (maxSteps := 4000000) only [ZE,↓reduceIte,pE,pL,pA,pS,pM,pD, zN,qT,qG,qL,qH,qN,qB,qE,qO,qA,qM]
 refine ECall.i p2 ?_
 simp (maxSteps := 4000000) only [ZE,↓reduceIte,pE,pL,pA,pS,pM,pD, zN,qT,qG,qL,qH,qN,qB,qE,qO,qA,qM]
 refine EFn.p ?_
 simp (maxSteps := 4000000) only [ZE,↓reduceIte,pE,pL,pA,pS,pM,pD, zN,qT,qG,qL,qH,qN,qB,qE,qO,qA,qM]
 refine ECall.i a1 ?_
 simp (maxSteps := 4000000) only [ZE,↓reduceIte,pE,pL,pA,pS,pM,pD, zN,qT,qG,qL,qH,qN,qB,qE,qO,qA,qM]
 refine EFn.p ?_
 simp (maxSteps := 4000000) only [ZE,↓reduceIte,pE,pL,pA,pS,pM,pD, zN,qT,qG,qL,qH,qN,qB,qE,qO,qA,qM]
 refine ECall.i a2 ?_
 simp (maxSteps := 4000000) only [ZE,↓reduceIte,pE,pL,pA,pS,pM,pD, zN,qT,qG,qL,qH,qN,qB,qE,qO,qA,qM]
end Go.Proofs.YtbenhdgpogiadaaGreat
