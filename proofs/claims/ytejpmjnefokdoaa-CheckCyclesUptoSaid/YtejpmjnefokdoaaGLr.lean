/-
 MACHINERY: abstract states of a call and an evaluator on them, sound for every program. Conditions: those of each law.
-/
import Derived.Test.YtejpmjnefokdoaaGL
set_option linter.unusedSimpArgs false
set_option linter.unusedVariables false
/-
 AS AwL, over types of which one is recursive.
 Conditions: those of each law; over any program.
-/
namespace Go.Aw
open Go.RowKit Go.ChangeShapes Go.WideShapes
inductive Sx where
 | bool
 | int (k : IntKind)
 | str
 | sl (row : List Sx)
 | rc
mutual
def Sx.fits (Q : D → Prop) : Sx → D → Prop
 | .bool, d => ∃ b, d = .lit (.bool b)
 | .int k, d => ∃ n, d = .lit (.int k n) ∧ (Lit.int k n).wf = true
 | .str, d => ∃ s : ByteArray, d = .lit (.string s) ∧ s.size ≤ maxLen
 | .sl row, d => ∃ es : List (List D), d = .sl es ∧ ∀ e ∈ es, Sx.fitsL Q row e
 | .rc, d => Q d
def Sx.fitsL (Q : D → Prop) : List Sx → List D → Prop
 | [], ds => ds = []
 | s :: ss, ds => ∃ d r, ds = d :: r ∧ Sx.fits Q s d ∧ Sx.fitsL Q ss r
end
mutual
theorem Sx.fits_mono {Q Q' : D → Prop} (h : ∀ d, Q d → Q' d) : ∀ (s : Sx) (d : D), s.fits Q d → s.fits Q' d
 | .bool, d, hd => by simpa only [Sx.fits] using hd
 | .int k, d, hd => by simpa only [Sx.fits] using hd
 | .str, d, hd => by simpa only [Sx.fits] using hd
 | .sl row, d, hd => by
  simp only [Sx.fits] at hd ⊢
  obtain ⟨es, e, h1⟩ := hd
  exact ⟨es, e, fun x hx => Sx.fitsL_mono h row x (h1 x hx)⟩
 | .rc, d, hd => by
  simp only [Sx.fits] at hd ⊢
  exact h d hd
theorem Sx.fitsL_mono {Q Q' : D → Prop} (h : ∀ d, Q d → Q' d) : ∀ (ss : List Sx) (ds : List D), Sx.fitsL Q ss ds → Sx.fitsL Q' ss ds
 | [], ds, hd => by simpa only [Sx.fitsL] using hd
 | s :: ss, ds, hd => by
  simp only [Sx.fitsL] at hd ⊢
  obtain ⟨d, r, e, h1, h2⟩ := hd
  exact ⟨d, r, e, Sx.fits_mono h s d h1, Sx.fitsL_mono h ss r h2⟩
end
def recP (R : List Sx) : Nat → D → Prop
 | 0, _ => False
 | k + 1, d => ∃ es, d = .sl es ∧ ∀ e ∈ es, Sx.fitsL (recP R k) R e
theorem recP_mono (R : List Sx) : ∀ (k : Nat) (d : D), recP R k d → recP R (k + 1) d
 | 0, _, h => by simp only [recP] at h
 | k + 1, d, h => by
  obtain ⟨es, e, h1⟩ := h
  exact ⟨es, e, fun x hx => Sx.fitsL_mono (recP_mono R k) R x (h1 x hx)⟩
theorem recP_le (R : List Sx) {k k' : Nat} (h : k ≤ k') (d : D) (hd : recP R k d) : recP R k' d := by
 induction h with
 | refl => exact hd
 | step _ ih => exact recP_mono R _ d ih
def fieldShapesX (f : TypeId → Option (List Sx)) (n : TypeId → Nat) : Nat → List Field → Option (List Sx)
 | _, [] => some []
 | off, x :: r => match f x.type with
  | some s => if x.offset = off ∧ s.length = n x.type then (fieldShapesX f n (off + n x.type) r).map (s ++ ·) else none
  | none => none
def arrShapesX (s : List Sx) : Nat → List Sx
 | 0 => []
 | m + 1 => s ++ arrShapesX s m
theorem arrShapesX_len (s : List Sx) : ∀ m, (arrShapesX s m).length = m * s.length
 | 0 => by simp [arrShapesX]
 | m + 1 => by simp only [arrShapesX, List.length_append, arrShapesX_len s m, Nat.add_mul, Nat.one_mul]; omega
def shapesX (P : Program) (tr : TypeId) : Nat → TypeId → Option (List Sx)
 | 0, _ => none
 | n + 1, t => if t = tr then some [.rc] else match P.underlying t with
  | some .bool => some [.bool]
  | some (.int k) => some [.int k]
  | some .string => some [.str]
  | some (.slice e) => match shapesX P tr n e with
   | some r => if r.length = P.cellsOf e ∧ r ≠ [] then some [.sl r] else none
   | none => none
  | some (.struct fs) => match fieldShapesX (shapesX P tr n) P.cellsOf 0 fs.toList with
   | some r => if r.length = P.cellsOf t then some r else none
   | none => none
  | some (.array m e) => match shapesX P tr n e with
   | some r => if r.length = P.cellsOf e ∧ (arrShapesX r m).length = P.cellsOf t then some (arrShapesX r m) else none
   | none => none
  | _ => none
section
variable {H : Type} {enc : TypeId × Value → H} {P : Program} {tr : TypeId} {w : World} {sp : Nat → Bool} {Q : D → Prop}
theorem fitsL_appX : ∀ {s1 s2 : List Sx} {d1 d2 : List D}, Sx.fitsL Q s1 d1 → Sx.fitsL Q s2 d2 → Sx.fitsL Q (s1 ++ s2) (d1 ++ d2)
 | [], _, _, _, h1, h2 => by simp only [Sx.fitsL] at h1; subst h1; exact h2
 | s :: ss, _, _, _, h1, h2 => by
  simp only [Sx.fitsL] at h1
  obtain ⟨d, r, rfl, h3, h4⟩ := h1
  simp only [List.cons_append, Sx.fitsL]
  exact ⟨d, _, rfl, h3, fitsL_appX h4 h2⟩
theorem fitsL_lenX : ∀ {s : List Sx} {d : List D}, Sx.fitsL Q s d → d.length = s.length
 | [], _, h => by simp only [Sx.fitsL] at h; simp [h]
 | s :: ss, _, h => by
  simp only [Sx.fitsL] at h
  obtain ⟨d, r, rfl, _, h4⟩ := h
  simp [fitsL_lenX h4]
def ReadsX (Q : D → Prop) (w : World) (ss : List Sx) (cs : List Value) (bk : Nat) : Prop := ∃ ds, RdVals w (allF w) ds cs ∧ Sx.fitsL Q ss ds ∧ D.bulkL ds ≤ bk
theorem ReadsX.mono {Q Q' : D → Prop} (h : ∀ d, Q d → Q' d) {ss : List Sx} {cs : List Value} {bk : Nat} (hr : ReadsX Q w ss cs bk) : ReadsX Q' w ss cs bk := by
 obtain ⟨ds, h1, h2, h3⟩ := hr
 exact ⟨ds, h1, Sx.fitsL_mono h _ _ h2, h3⟩
theorem reads_oneX {s : Sx} {v : Value} {d : D} {bk : Nat} (h1 : Rd w (allF w) d v) (h2 : s.fits Q d) (h3 : d.bulk ≤ bk) : ReadsX Q w [s] [v] bk := by
 refine ⟨[d], ?_, ?_, ?_⟩
 ·simp only [RdVals]; exact ⟨v, [], rfl, h1, rfl⟩
 ·simp only [Sx.fitsL]; exact ⟨d, [], rfl, h2, rfl⟩
 ·simpa only [D.bulkL, Nat.add_zero] using h3
theorem fields_rdX {n : Nat} {r : TypeId → List Value → Option (DataW H × List MemPlace)} (ih : ∀ t cs x ss, shapesX P tr n t = some ss → r t cs = some x → ReadsX Q w ss cs (dwBulk x.1)) :
  ∀ (fs : List Field) (off : Nat) (cs : List Value) (xs : List (DataW H × List MemPlace)) (ss : List Sx), fieldShapesX (shapesX P tr n) P.cellsOf off fs = some ss → cs.length = off + ss.length →
   fs.mapM (fun f => r f.type ((cs.drop f.offset).take (P.cellsOf f.type))) = some xs → ReadsX Q w ss (cs.drop off) (dwBulkAll (xs.map (·.1)))
 | [], off, cs, xs, ss, hs, hl, hm => by
  simp only [fieldShapesX, Option.some.injEq] at hs
  subst hs
  simp at hm
  subst hm
  simp only [List.length_nil, Nat.add_zero] at hl
  refine ⟨[], ?_, ?_, ?_⟩
  ·simp only [RdVals]; exact List.drop_of_length_le (by omega)
  ·simp only [Sx.fitsL]
  ·simp [D.bulkL]
 | f :: fs, off, cs, xs, ss, hs, hl, hm => by
  simp only [fieldShapesX] at hs
  split at hs
  ·rename_i s hs1
   split at hs
   ·rename_i hc
    obtain ⟨h1, h2⟩ := hc
    simp only [Option.map_eq_some_iff] at hs
    obtain ⟨ss', h3, rfl⟩ := hs
    rw [List.mapM_cons] at hm
    simp only [Option.bind_eq_bind, Option.bind_eq_some_iff, Option.pure_def, Option.some.injEq] at hm
    obtain ⟨x, hx, xs', hxs, rfl⟩ := hm
    rw [List.length_append] at hl
    rw [h1] at hx
    obtain ⟨d1, a1, a2, a3⟩ := ih _ _ _ _ hs1 hx
    obtain ⟨d2, b1, b2, b3⟩ := fields_rdX ih fs (off + P.cellsOf f.type) cs xs' ss' h3 (by omega) hxs
    refine ⟨d1 ++ d2, ?_, fitsL_appX a2 b2, ?_⟩
    ·have := RdVals.app a1 b1
     rwa [← List.drop_drop, List.take_append_drop] at this
    ·rw [bulkL_app]
     simp only [List.map_cons, dwBulkAll]
     omega
   ·cases hs
  ·cases hs
theorem arr_rdX {e : TypeId} {s : List Sx} {k : Nat} {r : TypeId → List Value → Option (DataW H × List MemPlace)} (ih : ∀ cs x, r e cs = some x → ReadsX Q w s cs (dwBulk x.1)) (hk : s.length = k) :
  ∀ (m i : Nat) (cs : List Value) (xs : List (DataW H × List MemPlace)), cs.length = (i + m) * k → (List.range' i m).mapM (fun i => r e ((cs.drop (i * k)).take k)) = some xs → ReadsX Q w (arrShapesX s m) (cs.drop (i * k)) (dwBulkAll (xs.map (·.1)))
 | 0, i, cs, xs, hl, hm => by
  simp at hm
  subst hm
  refine ⟨[], ?_, ?_, ?_⟩
  ·simp only [RdVals]; exact List.drop_of_length_le (by simp at hl; omega)
  ·simp only [arrShapesX, Sx.fitsL]
  ·simp [D.bulkL]
 | m + 1, i, cs, xs, hl, hm => by
  rw [List.range'_succ, List.mapM_cons] at hm
  simp only [Option.bind_eq_bind, Option.bind_eq_some_iff, Option.pure_def, Option.some.injEq] at hm
  obtain ⟨x, hx, xs', hxs, rfl⟩ := hm
  obtain ⟨d1, a1, a2, a3⟩ := ih _ _ hx
  obtain ⟨d2, b1, b2, b3⟩ := arr_rdX ih hk m (i + 1) cs xs' (by rw [hl]; congr 1; omega) hxs
  refine ⟨d1 ++ d2, ?_, fitsL_appX a2 b2, ?_⟩
  ·have := RdVals.app a1 b1
   rw [Nat.add_mul, Nat.one_mul, ← List.drop_drop, List.take_append_drop] at this
   exact this
  ·rw [bulkL_app]
   simp only [List.map_cons, dwBulkAll]
   omega
theorem rows_rdX {k : Nat} {s : List Sx} {b off : Nat} (hs : s.length = k) : ∀ (xs : List (DataW H)) (i : Nat), (∀ j (hj : j < xs.length), ∃ cs, ReadsX Q w s cs (dwBulk xs[j]) ∧ cs.length = k ∧ ∀ q (hq : q < cs.length), w.cell? ⟨b, off + (i + j) * k + q, none⟩ = some cs[q]) →
  ∃ es : List (List D), es.length = xs.length ∧ RdRows w (allF w) k es b (off + i * k) ∧ (∀ e ∈ es, Sx.fitsL Q s e) ∧ D.bulkLL es ≤ dwBulkAll xs
 | [], i, _ => ⟨[], rfl, by simp only [RdRows], by simp, by simp [D.bulkLL]⟩
 | x :: xs, i, h => by
  obtain ⟨cs, ⟨ds, a1, a2, a3⟩, h2, h3⟩ := h 0 (by simp)
  simp only [Nat.add_zero] at h3
  obtain ⟨es, b1, b2, b3, b4⟩ := rows_rdX hs xs (i + 1) (fun j hj => by
   have := h (j + 1) (by simp; omega)
   simpa [Nat.add_assoc, Nat.add_comm 1 j] using this)
  refine ⟨ds :: es, by simp [b1], ?_, ?_, ?_⟩
  ·simp only [RdRows]
   refine ⟨⟨by rw [fitsL_lenX a2, hs], cells_rd a1 b _ h3⟩, ?_⟩
   rw [Nat.add_mul, Nat.one_mul, ← Nat.add_assoc] at b2
   exact b2
  ·intro e he
   rcases List.mem_cons.1 he with rfl | he
   ·exact a2
   ·exact b3 e he
  ·simp only [D.bulkLL, dwBulkAll]
   simp only [List.getElem_cons_zero] at a3
   omega
theorem slice_partsX {t e : TypeId} {fuel : Nat} {cs : List Value} {x : DataW H × List MemPlace} (ht : P.underlying t = some (.slice e)) (hk0 : 0 < P.cellsOf e) (h : DataW.trod enc P w 0 sp true (fuel + 1) t cs = some x) :
  ∃ (v : Value) (b off : Nat) (elems : List (DataW H × List MemPlace)), cs = [v] ∧ dwBulkAll (elems.map (·.1)) + 1 ≤ dwBulk x.1 ∧
   (∀ j (hj : j < elems.length), ∃ cs, DataW.trod enc P w 0 sp true fuel e cs = some elems[j] ∧ cs.length = P.cellsOf e ∧ ∀ q (hq : q < cs.length), w.cell? ⟨b, off + (0 + j) * P.cellsOf e + q, none⟩ = some cs[q]) ∧
   (∀ es : List (List D), es.length = elems.length → RdRows w (allF w) (P.cellsOf e) es b (off + 0 * P.cellsOf e) → Rd w (allF w) (.sl es) v) := by
 unfold DataW.trod at h
 rw [ht] at h
 split at h <;> simp_all
 ·subst h
  refine ⟨0, 0, [], by simp [dwBulk, dwBulkAll], by simp, fun es he _ => ?_⟩
  have : es = [] := List.length_eq_zero_iff.1 (by simpa using he)
  subst this
  simp only [Rd]; exact ⟨⟨none, 0, rfl, Nat.le_refl _, by simp⟩, by simp⟩
 ·rename_i a len cap _
  rename_i e _
  obtain ⟨⟨hc1, hc2⟩, h⟩ := h
  simp only [Option.bind_eq_some_iff, Option.map_eq_some_iff] at h
  obtain ⟨elems, hel, rest, _, rfl⟩ := h
  have hlen : elems.length = len := by simpa using mapM_some_length hel
  have hone : ∀ j (hj : j < elems.length), ∃ cs, w.cells? 0 (a.add (j * P.cellsOf e)) (P.cellsOf e) = some cs ∧ DataW.trod enc P w 0 sp true fuel e cs = some elems[j] := by
   intro j hj
   have := mapM_some_get hel j j (by rw [List.getElem?_range (by omega)])
   simp only [List.getElem?_eq_getElem hj, Option.bind_eq_some_iff] at this
   exact this
  have hadr : ∀ j, a.spot = none → (a.add (j * P.cellsOf e)).off = a.off + j * P.cellsOf e ∧ (a.add (j * P.cellsOf e)).block = a.block := by
   intro j _
   unfold Addr.add
   split
   ·rename_i h0; simp [h0]
   ·simp
  have hsp : elems.length ≠ 0 → a.spot = none ∧ a.block < w.heap.size := by
   intro h0
   obtain ⟨cs, h1, h2⟩ := hone 0 (by omega)
   obtain ⟨_, h4, h5, _⟩ := cells_get h1 hk0
   simpa [Addr.add] using And.intro h4 h5
  refine ⟨a.block, a.off, elems, by simp only [dwBulk]; omega, fun j hj => ?_, fun es g1 g2 => ?_⟩
  ·obtain ⟨cs, h1, h2⟩ := hone j hj
   obtain ⟨h3, h4, h5, h6⟩ := cells_get h1 hk0
   obtain ⟨h7, h8⟩ := hadr j (hsp (by omega)).1
   refine ⟨cs, by simpa using h2, h3, fun q hq => ?_⟩
   have := h6 q hq
   rw [h7, h8] at this
   simpa using this
  ·simp only [Rd]
   refine ⟨⟨some a, cap, by rw [g1, hlen], by omega, fun h0 => ?_⟩, by omega⟩
   obtain ⟨h1, h2⟩ := hsp (by omega)
   refine ⟨a.block, a.off, P.cellsOf e, ?_, h2, by simpa using g2⟩
   cases a
   simp_all
theorem slice_rdX {t e : TypeId} {fuel : Nat} {cs : List Value} {x : DataW H × List MemPlace} {r : List Sx} (ht : P.underlying t = some (.slice e)) (hk1 : r.length = P.cellsOf e) (hk2 : r ≠ []) (h : DataW.trod enc P w 0 sp true (fuel + 1) t cs = some x)
  (ih : ∀ cs x, DataW.trod enc P w 0 sp true fuel e cs = some x → ReadsX Q w r cs (dwBulk x.1)) : ∃ (es : List (List D)) (v : Value), cs = [v] ∧ Rd w (allF w) (.sl es) v ∧ (∀ e ∈ es, Sx.fitsL Q r e) ∧ D.bulk (.sl es) ≤ dwBulk x.1 := by
 have hk0 : 0 < P.cellsOf e := by rw [← hk1]; exact List.length_pos_iff.2 hk2
 obtain ⟨v, b, off, elems, rfl, h1, h2, h3⟩ := slice_partsX ht hk0 h
 obtain ⟨es, g1, g2, g3, g4⟩ := rows_rdX (Q := Q) (w := w) (k := P.cellsOf e) (s := r) (b := b) (off := off) hk1 (elems.map (·.1)) 0 (fun j hj => by
  rw [List.length_map] at hj
  obtain ⟨cs, h4, h5, h6⟩ := h2 j hj
  exact ⟨cs, by simpa using ih _ _ h4, h5, h6⟩)
 rw [List.length_map] at g1
 exact ⟨es, v, rfl, h3 es g1 g2, g3, by simp only [D.bulk]; omega⟩
theorem trod_readsX {er : TypeId} {R : List Sx} {N : Nat} (hu : P.underlying tr = some (.slice er)) (hR : shapesX P tr N er = some R) (hR1 : R.length = P.cellsOf er) (hR2 : R ≠ []) : ∀ (fuel n : Nat) (t : TypeId) (cs : List Value) (x : DataW H × List MemPlace) (ss : List Sx), shapesX P tr n t = some ss → DataW.trod enc P w 0 sp true fuel t cs = some x → ReadsX (recP R fuel) w ss cs (dwBulk x.1)
 | 0, _, _, _, _, _, _, h => by simp [DataW.trod] at h
 | _ + 1, 0, _, _, _, _, h, _ => by simp [shapesX] at h
 | fuel + 1, n + 1, t, cs, x, ss, hs, h => by
  have hfull := h
  have up : ∀ d, recP R fuel d → recP R (fuel + 1) d := recP_mono R fuel
  unfold shapesX at hs
  split at hs
  ·rename_i htr
   cases hs
   rw [htr] at hfull
   obtain ⟨es, v, rfl, h1, h2, h3⟩ := slice_rdX hu hR1 hR2 hfull (fun cs x hx => trod_readsX hu hR hR1 hR2 fuel N er cs x R hR hx)
   exact reads_oneX h1 (by simp only [Sx.fits]; exact ⟨es, rfl, h2⟩) h3
  rename_i hne
  clear hne
  unfold DataW.trod at h
  split at hs
  ·rename_i ht
   cases hs
   rw [ht] at h
   split at h <;> simp_all
   rename_i b
   subst h
   exact reads_oneX (d := .lit (.bool b)) (by simp [Rd]) (by simp [Sx.fits]) (by simp [D.bulk, litBulk, dwBulk])
  ·rename_i k ht
   cases hs
   rw [ht] at h
   split at h <;> simp_all
   rename_i k' v e
   obtain ⟨⟨h1, h3⟩, h2⟩ := h
   subst h2
   subst e
   exact reads_oneX (d := .lit (.int k v)) (by simp [Rd]) (by simp [Sx.fits, h3]) (by simp [D.bulk, litBulk, dwBulk])
  ·rename_i ht
   cases hs
   rw [ht] at h
   split at h <;> simp_all
   rename_i b
   obtain ⟨h1, h2⟩ := h
   subst h2
   exact reads_oneX (d := .lit (.string b)) (by simp [Rd]) (by simp [Sx.fits, h1]) (by simp [D.bulk, litBulk, dwBulk])
  ·rename_i e ht
   split at hs
   ·rename_i r hr
    split at hs
    ·rename_i hk
     cases hs
     obtain ⟨es, v, rfl, h1, h2, h3⟩ := slice_rdX ht hk.1 hk.2 hfull (fun cs x hx => (trod_readsX hu hR hR1 hR2 fuel n e cs x r hr hx).mono up)
     exact reads_oneX h1 (by simp only [Sx.fits]; exact ⟨es, rfl, h2⟩) h3
    ·cases hs
   ·cases hs
  ·rename_i fs ht
   obtain ⟨h1, xs, h2, h3⟩ := trod_struct ht hfull
   split at hs
   ·rename_i r hr
    split at hs
    ·rename_i hl
     cases hs
     rw [h3]
     have := fields_rdX (Q := recP R (fuel + 1)) (w := w) (n := n) (tr := tr) (r := DataW.trod enc P w 0 sp true fuel) (fun t cs x ss a b => (trod_readsX hu hR hR1 hR2 fuel n t cs x ss a b).mono up) fs.toList 0 cs xs ss hr (by rw [h1, Nat.zero_add]; exact hl.symm) h2
     obtain ⟨ds, a1, a2, a3⟩ := this
     exact ⟨ds, by simpa using a1, a2, by simp only [dwBulk]; omega⟩
    ·cases hs
   ·cases hs
  ·rename_i m e ht
   obtain ⟨h1, xs, h2, h3⟩ := trod_array ht hfull
   split at hs
   ·rename_i r hr
    split at hs
    ·rename_i hl
     cases hs
     rw [h3]
     rw [List.range_eq_range'] at h2
     have := arr_rdX (Q := recP R (fuel + 1)) (w := w) (e := e) (s := r) (k := P.cellsOf e) (r := DataW.trod enc P w 0 sp true fuel) (fun cs x b => (trod_readsX hu hR hR1 hR2 fuel n e cs x r hr b).mono up) hl.1 m 0 cs xs (by rw [h1, Nat.zero_add, ← hl.2, ← hl.1, arrShapesX_len]) h2
     obtain ⟨ds, a1, a2, a3⟩ := this
     exact ⟨ds, by simpa using a1, a2, by simp only [dwBulk]; omega⟩
    ·cases hs
   ·cases hs
  ·cases hs
inductive AShX where
 | one (s : Sx)
 | agg (ss : List Sx)
def AShX.fits (Q : D → Prop) : AShX → D → Prop
 | .one s, d => s.fits Q d
 | .agg ss, d => ∃ ds, d = .agg ds ∧ Sx.fitsL Q ss ds
def fitsAX (Q : D → Prop) : List AShX → List D → Prop
 | [], ds => ds = []
 | s :: ss, ds => ∃ d r, ds = d :: r ∧ s.fits Q d ∧ fitsAX Q ss r
theorem AShX.fits_mono {Q Q' : D → Prop} (h : ∀ d, Q d → Q' d) : ∀ (s : AShX) (d : D), s.fits Q d → s.fits Q' d
 | .one s, d, hd => Sx.fits_mono h s d hd
 | .agg ss, d, ⟨ds, e, hd⟩ => ⟨ds, e, Sx.fitsL_mono h ss ds hd⟩
theorem fitsAX_mono {Q Q' : D → Prop} (h : ∀ d, Q d → Q' d) : ∀ (ss : List AShX) (ds : List D), fitsAX Q ss ds → fitsAX Q' ss ds
 | [], _, hd => hd
 | s :: ss, _, ⟨d, r, e, h1, h2⟩ => ⟨d, r, e, AShX.fits_mono h s d h1, fitsAX_mono h ss r h2⟩
def argShX (P : Program) (tr : TypeId) (n : Nat) (t : TypeId) : Option AShX :=
 match P.underlying t with
 | some (.struct _) | some (.array _ _) => (shapesX P tr n t).map .agg
 | _ => match shapesX P tr n t with
  | some [s] => some (.one s)
  | _ => none
def argShsX (P : Program) (tr : TypeId) (n : Nat) : List TypeId → Option (List AShX)
 | [] => some []
 | t :: ts => match argShX P tr n t, argShsX P tr n ts with
  | some s, some ss => some (s :: ss)
  | _, _ => none
theorem arg_readX {er : TypeId} {R : List Sx} {N : Nat} (hu : P.underlying tr = some (.slice er)) (hR : shapesX P tr N er = some R) (hR1 : R.length = P.cellsOf er) (hR2 : R ≠ []) {n b0 : Nat} {t : TypeId} {v : Value} {d : DataW H} {p : List MemPlace} {s : AShX} (hval : Value.okWide P w .any b0 t v) (h : DataW.Trod enc P w 0 sp true t v d p) (hs : argShX P tr n t = some s) :
  ∃ k D, Rd w (allF w) D v ∧ s.fits (recP R k) D ∧ D.bulk ≤ dwBulk d := by
 obtain ⟨fuel, h⟩ := h
 have key : ∀ cs : Array Value, v = .agg cs → (shapesX P tr n t).map .agg = some s → ∃ k D, Rd w (allF w) D v ∧ s.fits (recP R k) D ∧ D.bulk ≤ dwBulk d := by
  rintro cs rfl h1
  simp only [Option.map_eq_some_iff] at h1
  obtain ⟨ss, h2, rfl⟩ := h1
  obtain ⟨ds, a1, a2, a3⟩ := trod_readsX hu hR hR1 hR2 fuel n t _ _ ss h2 h
  refine ⟨fuel, .agg ds, ?_, ⟨ds, rfl, a2⟩, by simpa only [D.bulk] using a3⟩
  simp only [Rd]
  exact ⟨cs.toList, by simp, by simpa [Value.cells] using a1⟩
 unfold argShX at hs
 unfold Value.okWide at hval
 split at hs
 ·rename_i fs ht
  rw [ht] at hval
  obtain ⟨cs, hv, _⟩ := hval
  exact key cs hv hs
 ·rename_i m e ht
  rw [ht] at hval
  obtain ⟨cs, hv, _⟩ := hval
  exact key cs hv hs
 ·split at hs
  ·rename_i s' hs'
   cases hs
   obtain ⟨ds, a1, a2, a3⟩ := trod_readsX hu hR hR1 hR2 fuel n t _ _ _ hs' h
   simp only [Sx.fitsL] at a2
   obtain ⟨d1, r, rfl, a4, rfl⟩ := a2
   have hc : v.cells.toList = [v] := by
    cases v with
    | agg cs =>
     exfalso
     split at hval
     ·rename_i fs ht; simp_all
     ·rename_i m e ht; simp_all
     ·rename_i n3 n4
      unfold Cell.okWide at hval
      split at hval <;> simp_all
      unfold Cell.ok at hval
      split at hval <;> simp_all
    | _ => simp [Value.cells]
   rw [hc] at a1
   simp only [RdVals] at a1
   obtain ⟨u, r, e1, a5, rfl⟩ := a1
   cases e1
   exact ⟨fuel, d1, a5, a4, by simpa [D.bulkL] using a3⟩
  ·cases hs
theorem args_readX {er : TypeId} {R : List Sx} {N : Nat} (hu : P.underlying tr = some (.slice er)) (hR : shapesX P tr N er = some R) (hR1 : R.length = P.cellsOf er) (hR2 : R ≠ []) {n b0 : Nat} : ∀ {ts : List TypeId} {vs : List Value} {ds : List (DataW H)} {p : List MemPlace} {ss : List AShX}, (∀ (j : Nat) t v, ts[j]? = some t → vs[j]? = some v → Value.okWide P w .any b0 t v) → DataW.TrodAll enc P w 0 sp true ts vs ds p → argShsX P tr n ts = some ss →
  ∃ k Ds, RdVals w (allF w) Ds vs ∧ fitsAX (recP R k) ss Ds ∧ D.bulkL Ds ≤ dwBulkAll ds
 | [], _, _, _, ss, _, h, hs => by
  obtain ⟨rfl, rfl, rfl⟩ := trodAll_nil h
  simp only [argShsX, Option.some.injEq] at hs
  subst hs
  exact ⟨0, [], by simp [RdVals], rfl, by simp [D.bulkL]⟩
 | t :: ts, _, _, _, ss, hv, h, hs => by
  obtain ⟨v, vs, d, ds, p, q, rfl, rfl, rfl, h1, h2⟩ := trodAll_cons h
  simp only [argShsX] at hs
  split at hs
  ·rename_i s ss' e1 e2
   cases hs
   obtain ⟨k1, D1, a1, a2, a3⟩ := arg_readX hu hR hR1 hR2 (hv 0 t v rfl rfl) h1 e1
   obtain ⟨k2, Ds, b1, b2, b3⟩ := args_readX hu hR hR1 hR2 (fun j t' v' x y => hv (j + 1) t' v' (by simpa using x) (by simpa using y)) h2 e2
   exact ⟨max k1 k2, D1 :: Ds, by simp only [RdVals]; exact ⟨v, vs, rfl, a1, b1⟩, ⟨D1, Ds, rfl, AShX.fits_mono (recP_le R (Nat.le_max_left _ _)) _ _ a2, fitsAX_mono (recP_le R (Nat.le_max_right _ _)) _ _ b2⟩, by simp only [D.bulkL, dwBulkAll]; omega⟩
  ·cases hs
theorem law_postX {er : TypeId} {R : List Sx} {N : Nat} (hu : P.underlying tr = some (.slice er)) (hR : shapesX P tr N er = some R) (hR1 : R.length = P.cellsOf er) (hR2 : R ≠ []) {n : Nat} {f : FuncId} {fn : Func} {s : ChangeSpec} {args : Array Value} {ds gs : List (DataW H)} {before : List MemPlace} {b0 : Nat} {ss : List AShX} {tb : TypeId} (hl : laidOutB P = true) (hts : ∀ t ∈ fn.params.toList, P.readableRec t = true ∧ t < P.types.size)
  (hr : fn.resultTypes = #[tb]) (htb : P.underlying tb = some .bool) (hss : argShsX P tr n fn.params.toList = some ss) (hvars : s.vars = [])
  (hval : ∀ (j : Nat) t v, fn.params[j]? = some t → args[j]? = some v → Value.okWide P w .any b0 t v)
  (hW : DataW.Whole enc P fn.params.toList s.vars false w args.toList ds gs before)
  (hspec : ds.length = fn.params.toList.length → s.fn H ds = { results := [.lit (.bool true)], args := ds })
  (hc : ∀ k Ds, fitsAX (recP R k) ss Ds → D.bulkL Ds ≤ dwBulkAll ds → FnP P f Ds (.d (.lit (.bool true))) []) :
  Calls P f args w fun e W' => ∃ v, e = .returned v ∧ s.post enc P fn false true false false w args v W' := by
 have hW' := hW
 obtain ⟨p, q, hA, hV, rfl, hfz, hnd⟩ := hW
 rw [hvars] at hV
 obtain ⟨rfl, rfl⟩ := trodVars_none hV
 obtain ⟨k, Ds, a1, a2, a3⟩ := args_readX hu hR hR1 hR2 (fun j t v x y => hval j t v (by simpa using x) (by simpa using y)) hA hss
 obtain ⟨_, hcall⟩ := hc k Ds a2 a3
 have := hcall w (allF w) args.toList (fun b hb => hb) a1
 rw [Array.toArray_toList] at this
 refine this.mono ?_
 rintro e W' ⟨v, F', η, S, rfl, hm, hv⟩
 simp only [RelV, Rd] at hv
 subst hv
 refine ⟨_, rfl, ?_⟩
 have hb : Below w.heap.size w W' := ⟨hm.os, hm.tape, hm.output, hm.size, fun k hk => hm.old k hk (by simp [noO])⟩
 have hlt : ∀ x ∈ p, x.block < w.heap.size := fun x hx => by simpa using hW'.lt x (by simp [hx])
 replace hspec := hspec (trodAll_len hA)
 simp only [List.append_nil] at *
 refine ⟨ds, [], p, [], p, [], by simpa using hW', ?_, ?_, ?_, ?_, fun h => by cases h⟩
 ·rw [List.append_nil, hspec, hr]
  exact trodAll_mk1 (shut_bool htb _)
 ·rw [List.append_nil, hspec]
  exact trodAll_below hl hb hts hA hlt
 ·rw [List.append_nil, hspec, hvars]
  rfl
 ·exact hb.frame _
end
end Go.Aw
