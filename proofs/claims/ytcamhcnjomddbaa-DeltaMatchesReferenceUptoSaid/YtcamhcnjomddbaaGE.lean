/-
  MACHINERY: abstract states of a call and an evaluator on them, sound for every program. Conditions: those of each law.
-/
import Derived.Test.YtcamhcnjomddbaaGJ
set_option linter.unusedSimpArgs false
set_option linter.unusedVariables false
/-
  THE SAME, ON STATES WRITTEN AS LISTS, FOR COMPUTING: every continuation is a named function that is laid open only when it is given its state.
  Conditions: none; over any program under 'mixedOrders'.
-/
namespace Go.Aw
open Go.RowKit

abbrev TL := List (Nat × AV)
abbrev OL := List (Nat × AO)
abbrev EK := TL → OL → Prop
abbrev EQ := Exit → TL → OL → Prop
def liftK (K : EK) : St → Prop := fun σ => ∃ t o, σ = ⟨tm t, om o⟩ ∧ K t o
def liftQ (Q : EQ) : Exit → St → Prop := fun e σ => ∃ t o, σ = ⟨tm t, om o⟩ ∧ Q e t o

def consO (dst : Option Nat) (V : AV) (t : TL) : TL := match dst with | some d => (d, V) :: t | none => t
def noRefT (d : Nat) : TL → Prop
  | [] => True
  | (_, x) :: r => x.noRef [d] ∧ noRefT d r
def noRefO (d : Nat) : OL → Prop
  | [] => True
  | (i, x) :: r => i ≠ d ∧ x.noRef [d] ∧ noRefO d r
def dropO (l : List Nat) : OL → OL
  | [] => []
  | (i, x) :: r => if i ∈ l then dropO l r else (i, x) :: dropO l r

theorem put_cons (t : TL) (O O' : Objs) (dst : Option Nat) (V : AV) : St.put ⟨tm t, O⟩ dst V O' = ⟨tm (consO dst V t), O'⟩ := by
  cases dst with
  | none => rfl
  | some d => simp only [St.put, consO, upd_tm]
theorem addO_om (o : OL) (d : Nat) (n : Option AO) : addO (om o) d n = om (match n with | some x => (d, x) :: o | none => o) := by
  cases n with
  | none => rfl
  | some x => simp only [addO, upd_om]
theorem noRefT_tm {d : Nat} : ∀ (t : TL), noRefT d t → ∀ i, (tm t i).noRef [d]
  | [], _, _ => by simp [tm, AV.noRef]
  | (j, x) :: r, h, i => by
    simp only [tm]
    split
    · exact h.1
    · exact noRefT_tm r h.2 i
theorem noRefO_om {d : Nat} : ∀ (o : OL), noRefO d o → freshIn d (om o)
  | [], _ => ⟨rfl, fun _ _ h => by simp [om] at h⟩
  | (j, x) :: r, h => by
    obtain ⟨h1, h2, h3⟩ := h
    obtain ⟨a1, a2⟩ := noRefO_om r h3
    refine ⟨?_, ?_⟩
    · simp only [om, if_neg (Ne.symm h1)]; exact a1
    · intro id y hy
      simp only [om] at hy
      split at hy
      · cases hy; exact h2
      · exact a2 id y hy
theorem dropO_om (l : List Nat) : ∀ (o : OL), drop (om o) l = om (dropO l o)
  | [] => by funext i; simp [drop, om, dropO]
  | (j, x) :: r => by
    have ih := dropO_om l r
    funext i
    have ih' := congrFun ih i
    simp only [drop, om, dropO] at ih' ⊢
    by_cases hj : j ∈ l
    · simp only [hj, if_true]
      rw [← ih']
      by_cases hi : i ∈ l
      · simp [hi]
      · simp only [hi, if_false]
        rw [if_neg (by rintro rfl; exact hi hj)]
    · simp only [hj, if_false, om]
      by_cases hi : i = j
      · subst hi; simp [hj]
      · simp only [if_neg hi]; rw [← ih']

theorem dropO_cons (id : Nat) (l : List Nat) : ∀ o : OL, dropO (id :: l) o = dropO [id] (dropO l o)
  | [] => rfl
  | (j, x) :: r => by
    simp only [dropO]
    by_cases h1 : j ∈ l
    · simp only [h1, List.mem_cons, or_true, if_true]; exact dropO_cons id l r
    · simp only [h1, List.mem_cons, or_false, if_false, dropO, List.not_mem_nil]
      rw [dropO_cons id l r]
theorem upd_dropO (id : Nat) (x : AO) (l : List Nat) (o : OL) : upd (om (dropO l o)) id (some x) = om ((id, x) :: dropO (id :: l) o) := by
  rw [dropO_cons, ← upd_om, ← dropO_om [id]]
  funext i
  simp only [upd, drop, List.mem_singleton]
  split <;> rfl

theorem iteI {b : Bool} {A B : Prop} (h1 : b = true → A) (h2 : b = false → B) : if b = true then A else B := by cases b <;> simp_all
theorem iteE {b : Bool} {A B : Prop} (h : if b = true then A else B) : (b = true → A) ∧ (b = false → B) := by cases b <;> simp_all
/-- What is left behind an operation that reads or makes. -/
def eR (N : NP) (dst : Option Nat) (r : Option (Prop × AV × Option AO)) (K : EK) (t : TL) (o : OL) : Prop :=
  match r with
  | some (vc, V, none) => vc ∧ dstOk N dst ∧ K (consO dst V t) o
  | some (vc, V, some x) => vc ∧ (noRefO (dst.getD 0) o ∧ noRefT (dst.getD 0) t) ∧ dstOk N dst ∧ K (consO dst V t) ((dst.getD 0, x) :: o)
  | none => False
/-- A call, by a contract that is to be given. -/
def ECall (P : Program) (N : NP) (f : FuncId) (ds : List D) (ids : List Nat) (dst : Option Nat) (K : EK) (t : TL) (o : OL) : Prop :=
  dstOk N dst ∧ ∃ V, FnP P f ds V [] ∧ pureV V = true ∧ K (consO dst V t) (if flat V then o else dropO ids o)
def eF (P : Program) (N : NP) (f : FuncId) (dst : Option Nat) (r : Option (Prop × List D × List Nat)) (K : EK) (t : TL) (o : OL) : Prop :=
  match r with
  | some (vc, ds, ids) => vc ∧ ECall P N f ds ids dst K t o
  | none => False
/-- What is left behind a store, an append, a slice literal. -/
def eE (N : NP) (dst : Option Nat) (r : Option (Prop × AV × Nat × AO × List Nat × Bool)) (K : EK) (t : TL) (o : OL) : Prop :=
  match r with
  | some (vc, V, id, x, ids, isNew) => vc ∧ (isNew = true → noRefO (dst.getD 0) (dropO ids o) ∧ noRefT (dst.getD 0) t) ∧ dstOk N dst ∧ K (consO dst V t) ((id, x) :: dropO (id :: ids) o)
  | none => False
/-- A call, by a contract on data or by one on own objects. -/
def renO (r : List (Nat × Nat)) : OL → OL
  | [] => []
  | (i, x) :: l => match lkN r i with
    | some j => (j, x.ren r) :: renO r l
    | none => renO r l
def inR (r : List (Nat × Nat)) (o : OL) : OL → Prop
  | [] => True
  | (i, x) :: l => (match lkN r i with | some j => om o j = some (x.ren r) | none => False) ∧ inR r o l
def frR (os : OL) (t : TL) (o : OL) : List (Nat × Nat) → Prop
  | [] => True
  | (i, j) :: r => (match om os i with | some _ => True | none => noRefO j o ∧ noRefT j t) ∧ frR os t o r
def domR (r : List (Nat × Nat)) : OL → Prop
  | [] => True
  | (i, _) :: l => (lkN r i).isSome = true ∧ domR r l
def newR (os : OL) : List Nat → Prop
  | [] => True
  | i :: l => om os i = none ∧ newR os l
/-- A contract on own objects written as lists. -/
def FnL (P : Program) (f : FuncId) (args : List AV) (os : OL) (PL : AV → OL → List Nat → Prop) : Prop := FnG P f args (om os) fun V Oo new => ∃ ol, Oo = om ol ∧ PL V ol new
def eGc (P : Program) (N : NP) (f : FuncId) (args : List AV) (dst : Option Nat) (K : EK) (t : TL) (o : OL) : Prop :=
  ∃ (r : List (Nat × Nat)) (cargs : List AV) (os : OL) (PL : AV → OL → List Nat → Prop), FnL P f cargs os PL ∧ AV.renL r cargs = args ∧ RenOk r ∧ inR r o os ∧ frR os t o r ∧ dstOk N dst ∧
    ∀ V ol new, PL V ol new → domR r ol ∧ newR os new ∧ K (consO dst (V.ren r) t) (renO r ol ++ dropO (r.map (·.2)) o)
def EFn (P : Program) (N : NP) (f : FuncId) (args : List AV) (dst : Option Nat) (K : EK) (t : TL) (o : OL) : Prop :=
  eF P N f dst (frz.frzL (om o) args) K t o ∨ eGc P N f args dst K t o
theorem EFn.p {P : Program} {N : NP} {f : FuncId} {args : List AV} {dst : Option Nat} {K : EK} {t : TL} {o : OL} (h : eF P N f dst (frz.frzL (om o) args) K t o) : EFn P N f args dst K t o := .inl h
theorem EFn.g {P : Program} {N : NP} {f : FuncId} {args : List AV} {dst : Option Nat} {K : EK} {t : TL} {o : OL} (h : eGc P N f args dst K t o) : EFn P N f args dst K t o := .inr h
/-- A call of yield. -/
def EYl (P : Program) (N : NP) (id : Nat) (lim : Nat) (fam : List (List D) → XJ lim) (stop : XJ lim) (l : Nat) (pre : List (List D)) (xs : List D) (ids : List Nat) (dst : Option Nat) (K : EK) (t : TL) (o : OL) : Prop :=
  ∃ A, YieldOk P lim fam stop l A ∧ A (pre ++ [xs]) ∧ K (consO dst (.d (.lit (.bool true))) t) ((id, .ext lim fam stop l (pre ++ [xs])) :: dropO (id :: ids) o) ∧ K (consO dst (.d (.lit (.bool false))) t) ((id, .ext lim (fun _ => stop) stop l []) :: dropO (id :: ids) o)
def eY (P : Program) (N : NP) (id : Nat) (dst : Option Nat) (ob : Option AO) (r : Option (Prop × List D × List Nat)) (K : EK) (t : TL) (o : OL) : Prop :=
  match ob, r with
  | some (.ext lim fam stop l pre), some (vc, xs, ids) => (vc ∧ id ∉ ids) ∧ dstOk N dst ∧ EYl P N id lim fam stop l pre xs ids dst K t o
  | _, _ => False
def ENil (N : NP) (es : List (List D)) (ng : Bool) (dst : Option Nat) (K : EK) (t : TL) (o : OL) : Prop :=
  dstOk N dst ∧ ∀ b : Bool, (b = true → es = []) → K (consO dst (.d (.lit (.bool (b != ng)))) t) o
def ENxt (N : NP) (id : Nat) (ks vs : List D) (bs : List Nat) (clock : Nat) (seen : List Nat) (dst : Option Nat) (K : EK) (t : TL) (o : OL) : Prop :=
  dstOk N dst ∧ (∀ j, j < ks.length → j ∉ seen → K (consO dst (.tup [.d (.lit (.bool true)), .d (ks.getD j default), .d (vs.getD j default)]) t) ((id, .it ks vs bs clock (seen ++ [j])) :: dropO [id] o)) ∧
    ((∀ j, j < ks.length → j ∈ seen) → K (consO dst (.tup [.d (.lit (.bool false))]) t) o)
noncomputable def eO (P : Program) (N : NP) (dst : Option Nat) (op : Op) (K : EK) (t : TL) (o : OL) : Prop :=
  match kindO P (ownOf N dst) (dst.getD 0) (St.ev (tm t)) (om o) op with
  | .call f args => EFn P N f args dst K t o
  | .yld id args => eY P N id dst (om o id) (frz.frzL (om o) args) K t o
  | .nil es ng => ENil N es ng dst K t o
  | .nxt id ks vs bs clock seen => ENxt N id ks vs bs clock seen dst K t o
  | .eff r => eE N dst r K t o
  | .q => eR N dst (qsem P (dst.getD 0) (St.ev (tm t)) (om o) op) K t o
noncomputable def eG (P : Program) (N : NP) (ops : Array Oper) (x : Oper) (K : EK) (t : TL) (o : OL) : Prop :=
  match guardOf ops x (tm t) with
  | some (some b) => if b = true then eO P N x.dst x.op K t o else dstOk N x.dst ∧ K (consO x.dst .und t) o
  | _ => False
noncomputable def eOps (P : Program) (N : NP) (ops : Array Oper) : List Oper → EK → TL → OL → Prop
  | [], K, t, o => K t o
  | x :: rest, K, t, o => eG P N ops x (eOps P N ops rest K) t o

/-- The same where the order is open: the first ones only read. -/
def eR' (N : NP) (dst : Option Nat) (r : Option (Prop × AV × Option AO)) (K : EK) (t : TL) (o : OL) : Prop :=
  match r with
  | some (vc, V, none) => vc ∧ dstOk N dst ∧ K (consO dst V t) o
  | _ => False
def ECall' (P : Program) (N : NP) (f : FuncId) (ds : List D) (ids : List Nat) (dst : Option Nat) (K : EK) (t : TL) (o : OL) : Prop :=
  dstOk N dst ∧ ∃ V, FnP P f ds V [] ∧ pureV V = true ∧ (flat V = true ∨ ids = []) ∧ K (consO dst V t) o
def eF' (P : Program) (N : NP) (f : FuncId) (dst : Option Nat) (r : Option (Prop × List D × List Nat)) (K : EK) (t : TL) (o : OL) : Prop :=
  match r with
  | some (vc, ds, ids) => vc ∧ ECall' P N f ds ids dst K t o
  | none => False
noncomputable def eO' (P : Program) (N : NP) (dst : Option Nat) (op : Op) (K : EK) (t : TL) (o : OL) : Prop :=
  match op with
  | .call { callee := .value (.func f), args, .. } => eF' P N f dst (frz.frzL (om o) (args.toList.map (St.ev (tm t)))) K t o
  | op => eR' N dst (qsem P (dst.getD 0) (St.ev (tm t)) (om o) op) K t o
noncomputable def eG' (P : Program) (N : NP) (ops : Array Oper) (x : Oper) (K : EK) (t : TL) (o : OL) : Prop :=
  match guardOf ops x (tm t) with
  | some (some b) => if b = true then eO' P N x.dst x.op K t o else dstOk N x.dst ∧ K (consO x.dst .und t) o
  | _ => False
noncomputable def eDr (P : Program) (N : NP) (ops : Array Oper) (nA : Nat) : Nat → List Oper → EK → TL → OL → Prop
  | _, [], K, t, o => K t o
  | i, x :: rest, K, t, o => if i < nA then eG' P N ops x (eDr P N ops nA (i + 1) rest K) t o else eG P N ops x (eDr P N ops nA (i + 1) rest K) t o

/-! ### Drawn orders walked in another order -/
def eBq (N : NP) (dst : Option Nat) (r : Option (Prop × AV)) (K : EK) (t : TL) (o : OL) : Prop :=
  match r with
  | some (vc, V) => vc ∧ dstOk N dst ∧ K (consO dst V t) o
  | none => False
noncomputable def eOz (P : Program) (N : NP) (dst : Option Nat) (op : Op) (K : EK) (t : TL) (o : OL) : Prop :=
  match op with
  | .buildSlice ty len parts => eBq N dst (bsQ P (St.ev (tm t)) (om o) ty len parts) K t o
  | op => eO' P N dst op K t o
noncomputable def eGz (P : Program) (N : NP) (ops : Array Oper) (x : Oper) (K : EK) (t : TL) (o : OL) : Prop :=
  match guardOf ops x (tm t) with
  | some (some b) => if b = true then eOz P N x.dst x.op K t o else dstOk N x.dst ∧ K (consO x.dst .und t) o
  | _ => False
def sameAt (d : Nat) (V : AV) (t : TL) (_ : OL) : Prop := tm t d = V
noncomputable def lateO (P : Program) (N : NP) (ops : Array Oper) (oi : Oper) (t : TL) (o : OL) : Prop :=
  match oi.dst with
  | some d => eGz P N ops oi (sameAt d (tm t d)) t o
  | none => False
noncomputable def lateE (P : Program) (N : NP) (ops : Array Oper) : List Nat → TL → OL → Prop
  | [], _, _ => True
  | i :: l, t, o => (match ops[i]? with | some oi => lateO P N ops oi t o | none => True) ∧ lateE P N ops l t o
noncomputable def lateK (P : Program) (N : NP) (ops : Array Oper) (l : List Nat) (K : EK) (t : TL) (o : OL) : Prop := lateE P N ops l t o ∧ K t o
noncomputable def eSo (P : Program) (N : NP) (dst : Option Nat) (op : Op) (K : EK) (t : TL) (o : OL) : Prop :=
  simpleOp op = true ∧ match effE P (ownOf N dst) (dst.getD 0) (St.ev (tm t)) (om o) op with
  | some r => eE N dst r K t o
  | none => eR N dst (qsem P (dst.getD 0) (St.ev (tm t)) (om o) op) K t o
noncomputable def eSg (P : Program) (N : NP) (ops : Array Oper) (x : Oper) (K : EK) (t : TL) (o : OL) : Prop :=
  match guardOf ops x (tm t) with
  | some (some b) => if b = true then eSo P N x.dst x.op K t o else dstOk N x.dst ∧ K (consO x.dst .und t) o
  | _ => False
noncomputable def eZ1 (P : Program) (N : NP) (ops : Array Oper) (q : Option (List Nat)) (x : Oper) (K : EK) (t : TL) (o : OL) : Prop :=
  match q with
  | none => eGz P N ops x K t o
  | some [] => eG P N ops x K t o
  | some (i :: l) => eSg P N ops x (lateK P N ops (i :: l) K) t o
noncomputable def eZ (P : Program) (N : NP) (ops : Array Oper) : List (Nat × Option (List Nat)) → EK → TL → OL → Prop
  | [], K, t, o => K t o
  | (k, q) :: rest, K, t, o => match ops[k]? with
    | some x => eZ1 P N ops q x (eZ P N ops rest K) t o
    | none => False
def dstsQ (ops : Array Oper) : List (Nat × Option (List Nat)) → List Nat
  | [] => []
  | (k, none) :: rest => match ops[k]? with
    | some x => match x.dst with
      | some d => d :: dstsQ ops rest
      | none => dstsQ ops rest
    | none => dstsQ ops rest
  | (_, some _) :: rest => dstsQ ops rest
def killT (ds : List Nat) : TL → TL
  | [] => []
  | (i, x) :: r => if i ∈ ds then killT ds r else (i, x) :: killT ds r

theorem dropO_nil : ∀ o : OL, dropO [] o = o
  | [] => rfl
  | (i, x) :: r => by simp [dropO, dropO_nil r]
theorem upd_om1 (id : Nat) (x : AO) (o : OL) : upd (om o) id (some x) = om ((id, x) :: dropO [id] o) := by
  have := upd_dropO id x [] o
  rwa [dropO_nil] at this
theorem om_mem : ∀ {o : OL} {i : Nat} {x : AO}, om o i = some x → (i, x) ∈ o
  | (j, y) :: r, i, x, h => by
    simp only [om] at h
    split at h
    · rename_i e; cases h; subst e; simp
    · exact List.mem_cons_of_mem _ (om_mem h)
theorem inR_ok {r : List (Nat × Nat)} {o : OL} : ∀ {os : OL}, inR r o os → ∀ i x, om os i = some x → ∃ j, lkN r i = some j ∧ om o j = some (x.ren r)
  | [], _, i, x, h => by simp [om] at h
  | (k, y) :: l, h, i, x, hx => by
    simp only [inR] at h
    simp only [om] at hx
    split at hx
    · rename_i e
      cases hx
      subst e
      obtain ⟨h1, _⟩ := h
      split at h1
      · rename_i j hj; exact ⟨j, hj, h1⟩
      · exact h1.elim
    · exact inR_ok h.2 i x hx
theorem frR_ok {os : OL} {t : TL} {o : OL} : ∀ {r : List (Nat × Nat)}, frR os t o r → ∀ i j, (i, j) ∈ r → om os i = none → noRefO j o ∧ noRefT j t
  | (a, b) :: r, h, i, j, hm, hn => by
    simp only [frR] at h
    rcases List.mem_cons.1 hm with h' | h'
    · cases h'
      rw [hn] at h
      exact h.1
    · exact frR_ok h.2 i j h' hn
theorem domR_ok {r : List (Nat × Nat)} : ∀ {ol : OL}, domR r ol → ∀ i x, om ol i = some x → ∃ j, lkN r i = some j
  | [], _, i, x, h => by simp [om] at h
  | (k, y) :: l, h, i, x, hx => by
    simp only [domR] at h
    simp only [om] at hx
    split at hx
    · rename_i e; subst e; exact Option.isSome_iff_exists.1 h.1
    · exact domR_ok h.2 i x hx
theorem newR_ok {os : OL} : ∀ {l : List Nat}, newR os l → ∀ i ∈ l, om os i = none
  | k :: l, h, i, hi => by
    simp only [newR] at h
    rcases List.mem_cons.1 hi with rfl | hi
    · exact h.1
    · exact newR_ok h.2 i hi
theorem om_append (a b : OL) (i : Nat) : om (a ++ b) i = match om a i with | some x => some x | none => om b i := by
  induction a with
  | nil => rfl
  | cons p a ih =>
    obtain ⟨k, x⟩ := p
    simp only [List.cons_append, om]
    split
    · rfl
    · exact ih
theorem om_renO {r : List (Nat × Nat)} (hr : RenOk r) {i j : Nat} (hij : lkN r i = some j) : ∀ ol : OL, om (renO r ol) j = (om ol i).map (AO.ren r)
  | [] => rfl
  | (k, x) :: l => by
    simp only [renO, om]
    cases hk : lkN r k with
    | none =>
      simp only [om_renO hr hij l]
      rw [if_neg (by rintro rfl; rw [hij] at hk; cases hk)]
    | some j' =>
      simp only [om]
      by_cases e : i = k
      · subst e
        rw [hij] at hk
        cases hk
        simp
      · have : j ≠ j' := by
          rintro rfl
          have e1 := hr.iff.1 hij
          rw [hr.iff.1 hk] at e1
          exact e (Option.some.inj e1).symm
        rw [if_neg this, if_neg e]
        exact om_renO hr hij l
theorem om_renO_none {r : List (Nat × Nat)} {j : Nat} (hj : ∀ i, lkN r i ≠ some j) : ∀ ol : OL, om (renO r ol) j = none
  | [] => rfl
  | (k, x) :: l => by
    simp only [renO]
    cases hk : lkN r k with
    | none => exact om_renO_none hj l
    | some j' =>
      simp only [om]
      rw [if_neg (by rintro rfl; exact hj k hk)]
      exact om_renO_none hj l
theorem om_dropO (l : List Nat) (o : OL) (j : Nat) : om (dropO l o) j = if j ∈ l then none else om o j := by rw [← dropO_om]; rfl
theorem merge_om {r : List (Nat × Nat)} (hr : RenOk r) (o ol : OL) : mergeO (om o) r (om ol) = om (renO r ol ++ dropO (r.map (·.2)) o) := by
  funext j
  unfold mergeO
  rw [om_append, om_dropO]
  cases hj : lkI r j with
  | some i =>
    have hij := hr.iff.2 hj
    rw [om_renO hr hij]
    have hm : j ∈ r.map (·.2) := List.mem_map.2 ⟨(i, j), lkN_mem hij, rfl⟩
    rw [if_pos hm]
    cases hoi : om ol i <;> simp [hoi]
  | none =>
    rw [om_renO_none (fun i h => by rw [hr.iff.1 h] at hj; cases hj)]
    have hm : j ∉ r.map (·.2) := by
      intro h
      obtain ⟨p, hp, rfl⟩ := List.mem_map.1 h
      rw [lkI_of_mem hr.2 hp] at hj
      cases hj
    rw [if_neg hm]

theorem eO_owp {P : Program} {N : NP} {x : Oper} {K : EK} {t : TL} {o : OL} (h : eO P N x.dst x.op K t o) : owp P N x ⟨tm t, om o⟩ (liftK K) := by
  unfold eO at h
  unfold owp
  obtain ⟨k, hk⟩ : ∃ k, kindO P (ownOf N x.dst) (x.dst.getD 0) (St.ev (tm t)) (om o) x.op = k := ⟨_, rfl⟩
  simp only [hk] at h ⊢
  cases k with
  | call f args =>
    rcases h with h | h
    · left
      unfold eF at h
      unfold cwp
      split at h
      · rename_i vc ds ids hs
        obtain ⟨h1, h2, V, h3, h4, h5⟩ := h
        rw [hs]
        refine ⟨h1, h2, V, h3, h4, ?_⟩
        rw [put_cons]
        split at h5
        · rename_i hf; simp only [hf, if_true]; exact ⟨_, _, rfl, h5⟩
        · rename_i hf
          simp only [hf]
          exact ⟨_, _, by rw [← dropO_om]; rfl, h5⟩
      · exact h.elim
    · right
      obtain ⟨r, ca, os, PL, h1, h2, h3, h4, h5, h6, h7⟩ := h
      refine ⟨r, ca, om os, _, h1, h2, h3, inR_ok h4, fun i j hij hn => ?_, h6, ?_⟩
      · obtain ⟨a1, a2⟩ := frR_ok h5 i j (lkN_mem hij) hn
        exact ⟨noRefO_om _ a1, noRefT_tm _ a2⟩
      · rintro V Oo new ⟨ol, rfl, hp⟩
        obtain ⟨b1, b2, b3⟩ := h7 V ol new hp
        refine ⟨domR_ok b1, newR_ok b2, ?_⟩
        rw [put_cons, merge_om h3]
        exact ⟨_, _, rfl, b3⟩
  | yld id args =>
    simp only at h ⊢
    unfold eY at h
    unfold ywp
    split at h
    · rename_i lim fam stop l pre vc xs ids ho hs
      obtain ⟨h1, h2, A, h3, h4, h5, h6⟩ := h
      simp only [ho, hs]
      refine ⟨h1, h2, A, h3, h4, ?_, ?_⟩
      · rw [put_cons, dropO_om, upd_dropO]; exact ⟨_, _, rfl, h5⟩
      · rw [put_cons, dropO_om, upd_dropO]; exact ⟨_, _, rfl, h6⟩
    · exact h.elim
  | nil es ng =>
    refine ⟨h.1, fun b hb => ?_⟩
    rw [put_cons]
    exact ⟨_, _, rfl, h.2 b hb⟩
  | nxt id ks vs bs clock seen =>
    refine ⟨h.1, fun j h1 h2 => ?_, fun h1 => ?_⟩
    · rw [put_cons, upd_om1]
      exact ⟨_, _, rfl, h.2.1 j h1 h2⟩
    · rw [put_cons]
      exact ⟨_, _, rfl, h.2.2 h1⟩
  | eff r =>
    simp only at h ⊢
    unfold eE at h
    unfold ewp
    split at h
    · obtain ⟨h1, h2, h3, h4⟩ := h
      refine ⟨h1, fun e => ⟨?_, noRefT_tm t (h2 e).2⟩, h3, ?_⟩
      · rw [dropO_om]; exact noRefO_om _ (h2 e).1
      · rw [put_cons]
        refine ⟨_, _, ?_, h4⟩
        rw [dropO_om, upd_dropO]
    · exact h.elim
  | q =>
    simp only at h ⊢
    unfold qwp
    unfold eR at h
    split at h
    · rename_i vc V hs
      obtain ⟨h1, h2, h3⟩ := h
      simp only [hs]
      refine ⟨h1, by simp, h2, ?_⟩
      rw [put_cons]
      exact ⟨_, _, rfl, h3⟩
    · rename_i vc V y hs
      obtain ⟨h1, ⟨h4, h5⟩, h2, h3⟩ := h
      simp only [hs]
      refine ⟨h1, fun _ => ⟨noRefO_om o h4, noRefT_tm t h5⟩, h2, ?_⟩
      rw [put_cons, addO_om]
      exact ⟨_, _, rfl, h3⟩
    · exact h.elim
theorem eG_gwp {P : Program} {N : NP} {ops : Array Oper} {x : Oper} {K : EK} {t : TL} {o : OL} (h : eG P N ops x K t o) : gwp P N ops x ⟨tm t, om o⟩ (liftK K) := by
  unfold eG at h
  unfold gwp
  split at h
  · rename_i b hb
    rw [hb]
    replace h := iteE h
    refine ⟨fun e => eO_owp (h.1 e), fun e => ⟨(h.2 e).1, ?_⟩⟩
    rw [put_cons]
    exact ⟨_, _, rfl, (h.2 e).2⟩
  · exact h.elim
theorem eO'_qdwp {P : Program} {N : NP} {x : Oper} {K : EK} {t : TL} {o : OL} (h : eO' P N x.dst x.op K t o) : qdwp P N x ⟨tm t, om o⟩ (liftK K) := by
  unfold eO' at h
  unfold qdwp
  split at h
  · rename_i f args ts hop
    rw [hop]
    unfold eF' at h
    split at h
    · rename_i vc ds ids hs
      obtain ⟨h1, h2, V, h3, h4, h5, h6⟩ := h
      simp only [hs]
      refine ⟨h1, h2, V, h3, h4, h5, ?_⟩
      rw [put_cons]
      exact ⟨_, _, rfl, h6⟩
    · exact h.elim
  · rename_i hno
    split
    · rename_i f args ts hop; exact (hno _ _ _ hop).elim
    · unfold eR' at h
      split at h
      · rename_i vc V hs
        obtain ⟨h1, h2, h3⟩ := h
        simp only [hs]
        refine ⟨h1, h2, ?_⟩
        rw [put_cons]
        exact ⟨_, _, rfl, h3⟩
      · exact h.elim
theorem eG'_qgwp {P : Program} {N : NP} {ops : Array Oper} {x : Oper} {K : EK} {t : TL} {o : OL} (h : eG' P N ops x K t o) : qgwp P N ops x ⟨tm t, om o⟩ (liftK K) := by
  unfold eG' at h
  unfold qgwp
  split at h
  · rename_i b hb
    rw [hb]
    replace h := iteE h
    refine ⟨fun e => eO'_qdwp (h.1 e), fun e => ⟨(h.2 e).1, ?_⟩⟩
    rw [put_cons]
    exact ⟨_, _, rfl, (h.2 e).2⟩
  · exact h.elim
theorem qgwp_mono {P : Program} {N : NP} {ops : Array Oper} {o : Oper} {σ : St} {K K' : St → Prop} (h : qgwp P N ops o σ K) (hk : ∀ σ, K σ → K' σ) : qgwp P N ops o σ K' := by
  obtain ⟨V, h1, h2⟩ := qgwp_iff.1 h
  exact qgwp_iff.2 ⟨V, h1, hk _ h2⟩
theorem eOps_lwp {P : Program} {N : NP} {ops : Array Oper} {K : EK} : ∀ (l : List Oper) (t : TL) (o : OL), eOps P N ops l K t o → lwp P N ops l ⟨tm t, om o⟩ (liftK K)
  | [], t, o, h => ⟨t, o, rfl, h⟩
  | x :: rest, t, o, h => by
    simp only [eOps] at h
    simp only [lwp]
    refine gwp_mono (eG_gwp h) ?_
    rintro σ ⟨t', o', rfl, h'⟩
    exact eOps_lwp rest t' o' h'
theorem eDr_dlwp {P : Program} {N : NP} {nA : Nat} {ops : Array Oper} {K : EK} : ∀ (l : List Oper) (i : Nat) (t : TL) (o : OL), eDr P N ops nA i l K t o → dlwp P N ops nA i l ⟨tm t, om o⟩ (liftK K)
  | [], _, t, o, h => ⟨t, o, rfl, h⟩
  | x :: rest, i, t, o, h => by
    simp only [eDr] at h
    simp only [dlwp]
    split
    · rename_i hi
      simp only [hi, if_true] at h
      refine qgwp_mono (eG'_qgwp h) ?_
      rintro σ ⟨t', o', rfl, h'⟩
      exact eDr_dlwp rest (i + 1) t' o' h'
    · rename_i hi
      simp only [hi, if_false] at h
      refine gwp_mono (eG_gwp h) ?_
      rintro σ ⟨t', o', rfl, h'⟩
      exact eDr_dlwp rest (i + 1) t' o' h'

theorem eO'_qdet {P : Program} {N : NP} {x : Oper} {K : EK} {t : TL} {o : OL} (h : eO' P N x.dst x.op K t o) : ∃ V, qdet P x ⟨tm t, om o⟩ V ∧ dstOk N x.dst ∧ K (consO x.dst V t) o := by
  unfold eO' at h
  unfold qdet
  split at h
  · rename_i f args ts hop
    rw [hop]
    unfold eF' at h
    split at h
    · rename_i vc ds ids hs
      obtain ⟨h1, h2, V, h3, h4, h5, h6⟩ := h
      exact ⟨V, ⟨vc, ds, ids, hs, h1, h3, h4, h5⟩, h2, h6⟩
    · exact h.elim
  · rename_i hno
    unfold eR' at h
    split at h
    · rename_i vc V hs
      refine ⟨V, ?_, h.2.1, h.2.2⟩
      split
      · rename_i f args ts hop; exact (hno _ _ _ hop).elim
      · exact ⟨vc, hs, h.1⟩
    · exact h.elim
theorem eOz_ZY {P : Program} {N : NP} {x : Oper} {K : EK} {t : TL} {o : OL} (h : eOz P N x.dst x.op K t o) : ∃ V, zdet P x ⟨tm t, om o⟩ V ∧ dstOk N x.dst ∧ K (consO x.dst V t) o := by
  unfold eOz at h
  split at h
  · rename_i ty len parts ho
    unfold eBq at h
    split at h
    · rename_i vc V hb
      refine ⟨V, ?_, h.2.1, h.2.2⟩
      unfold zdet
      rw [ho]
      exact ⟨vc, hb, h.1⟩
    · exact h.elim
  · rename_i hno
    obtain ⟨V, h1, h2, h3⟩ := eO'_qdet h
    refine ⟨V, ?_, h2, h3⟩
    unfold zdet
    split
    · rename_i ty len parts ho; exact (hno _ _ _ ho).elim
    · exact h1
theorem eGz_ZY {P : Program} {N : NP} {ops : Array Oper} {x : Oper} {K : EK} {t : TL} {o : OL} (h : eGz P N ops x K t o) : ∃ V, ZY P N ops x V ⟨tm t, om o⟩ ∧ K (consO x.dst V t) o := by
  unfold eGz at h
  split at h
  · rename_i b hb
    cases b with
    | true =>
      simp only [if_true] at h
      obtain ⟨V, h1, h2, h3⟩ := eOz_ZY h
      exact ⟨V, ⟨h2, .inl ⟨hb, h1⟩⟩, h3⟩
    | false =>
      simp only [Bool.false_eq_true, if_false] at h
      exact ⟨.und, ⟨h.1, .inr ⟨hb, rfl⟩⟩, h.2⟩
  · exact h.elim
theorem lateE_lateA {P : Program} {N : NP} {ops : Array Oper} : ∀ (l : List Nat) (t : TL) (o : OL), lateE P N ops l t o → lateA P N ops l ⟨tm t, om o⟩
  | [], _, _, _ => fun i hi => by cases hi
  | k :: l, t, o, h => fun i hi oi hoi => by
    simp only [lateE] at h
    rcases List.mem_cons.1 hi with rfl | hi
    · have h1 := h.1
      rw [hoi] at h1
      simp only [lateO] at h1
      split at h1
      · rename_i d hd
        obtain ⟨V, h2, h3⟩ := eGz_ZY h1
        rw [hd] at h3
        have : V = tm t d := by simpa [sameAt, consO, tm] using h3
        rw [this] at h2
        exact ⟨d, hd, h2⟩
      · exact h1.elim
    · exact lateE_lateA l t o h.2 i hi oi hoi
theorem eE_ewp {N : NP} {x : Oper} {r : Option (Prop × AV × Nat × AO × List Nat × Bool)} {K : EK} {t : TL} {o : OL} (h : eE N x.dst r K t o) : ewp N x r ⟨tm t, om o⟩ (liftK K) := by
  unfold eE at h
  unfold ewp
  split at h
  · rename_i vc V id y ids isNew
    obtain ⟨h1, h2, h3, h4⟩ := h
    refine ⟨h1, fun e => ?_, h3, ?_⟩
    · obtain ⟨a1, a2⟩ := h2 e
      rw [dropO_om]
      exact ⟨noRefO_om _ a1, noRefT_tm _ a2⟩
    · rw [put_cons, dropO_om, upd_dropO]
      exact ⟨_, _, rfl, h4⟩
  · exact h.elim
theorem eR_qwp {P : Program} {N : NP} {x : Oper} {K : EK} {t : TL} {o : OL} (h : eR N x.dst (qsem P (x.dst.getD 0) (St.ev (tm t)) (om o) x.op) K t o) : qwp P N x ⟨tm t, om o⟩ (liftK K) := by
  unfold eR at h
  unfold qwp
  split at h
  · rename_i vc V hs
    obtain ⟨h1, h2, h3⟩ := h
    rw [hs]
    refine ⟨h1, fun e => (by cases e), h2, ?_⟩
    rw [put_cons]
    exact ⟨_, _, rfl, h3⟩
  · rename_i vc V y hs
    obtain ⟨h1, ⟨h2, h2'⟩, h3, h4⟩ := h
    rw [hs]
    refine ⟨h1, fun _ => ⟨noRefO_om _ h2, noRefT_tm _ h2'⟩, h3, ?_⟩
    rw [put_cons]
    simp only [addO, upd_om]
    exact ⟨_, _, rfl, h4⟩
  · exact h.elim
theorem eSg_sgwp {P : Program} {N : NP} {ops : Array Oper} {x : Oper} {K : EK} {t : TL} {o : OL} (h : eSg P N ops x K t o) : sgwp P N ops x ⟨tm t, om o⟩ (liftK K) := by
  unfold eSg at h
  unfold sgwp
  split at h
  · rename_i b hb
    rw [hb]
    replace h := iteE h
    refine ⟨fun e => ?_, fun e => ⟨(h.2 e).1, ?_⟩⟩
    · obtain ⟨h1, h2⟩ := h.1 e
      refine ⟨h1, ?_⟩
      show (match effE P (ownOf N x.dst) (x.dst.getD 0) (St.ev (tm t)) (om o) x.op with | some r => ewp N x r ⟨tm t, om o⟩ (liftK K) | none => qwp P N x ⟨tm t, om o⟩ (liftK K))
      cases he : effE P (ownOf N x.dst) (x.dst.getD 0) (St.ev (tm t)) (om o) x.op with
      | some r => simp only [he] at h2; exact eE_ewp h2
      | none => simp only [he] at h2; exact eR_qwp h2
    · rw [put_cons]
      exact ⟨_, _, rfl, (h.2 e).2⟩
  · exact h.elim
theorem eZ_zlwp {P : Program} {N : NP} {ops : Array Oper} {r : Ord} {K : EK} (hlk : ∀ p ∈ r.steps, r.steps.lookup p.1 = some p.2) : ∀ (l : List (Nat × Option (List Nat))) (hl : ∀ p ∈ l, p ∈ r.steps) (t : TL) (o : OL), eZ P N ops l K t o → zlwp P N r ops (l.map (·.1)) ⟨tm t, om o⟩ (liftK K)
  | [], _, t, o, h => ⟨t, o, rfl, h⟩
  | (k, q) :: rest, hl, t, o, h => by
    have hk := hlk (k, q) (hl _ (by simp))
    have hl' : ∀ p ∈ rest, p ∈ r.steps := fun p hp => hl p (List.mem_cons_of_mem _ hp)
    simp only [eZ] at h
    simp only [List.map_cons, zlwp]
    split at h
    case h_2 => exact h.elim
    rename_i x hx
    rw [hx]
    simp only at hk
    unfold eZ1 at h
    cases q with
    | none =>
      have hq : r.isQ k = true := by unfold Ord.isQ; rw [hk]
      simp only [hq, if_true] at h ⊢
      obtain ⟨V, h1, h2⟩ := eGz_ZY h
      refine ⟨V, h1, ?_⟩
      rw [put_cons]
      exact eZ_zlwp hlk rest hl' _ _ h2
    | some l =>
      have hq : r.isQ k = false := by unfold Ord.isQ; rw [hk]
      have hlo : r.lateOf k = l := by unfold Ord.lateOf; rw [hk]
      cases l with
      | nil =>
        simp only [hq, hlo, Bool.false_eq_true, if_false, if_true] at h ⊢
        refine gwp_mono (eG_gwp h) ?_
        rintro σ' ⟨t', o', rfl, h'⟩
        exact eZ_zlwp hlk rest hl' t' o' h'
      | cons i l =>
        simp only [hq, hlo, Bool.false_eq_true, if_false, List.cons_ne_nil] at h ⊢
        refine sgwp_mono (eSg_sgwp h) ?_
        rintro σ' ⟨t', o', rfl, h', h''⟩
        exact ⟨lateE_lateA _ _ _ h', eZ_zlwp hlk rest hl' t' o' h''⟩
theorem dstsQ_mem {ops : Array Oper} : ∀ (l : List (Nat × Option (List Nat))) {i : Nat} {oi : Oper} {d : Nat}, (i, none) ∈ l → ops[i]? = some oi → oi.dst = some d → d ∈ dstsQ ops l
  | [], _, _, _, h, _, _ => by cases h
  | (k, none) :: rest, i, oi, d, h, hoi, hd => by
    rcases List.mem_cons.1 h with e | h
    · cases e
      simp only [dstsQ, hoi, hd, List.mem_cons, true_or]
    · have ih := dstsQ_mem rest h hoi hd
      simp only [dstsQ]
      split
      · split
        · exact List.mem_cons_of_mem _ ih
        · exact ih
      · exact ih
  | (k, some l) :: rest, i, oi, d, h, hoi, hd => by
    rcases List.mem_cons.1 h with e | h
    · cases e
    · exact dstsQ_mem rest h hoi hd
theorem killT_tm (ds : List Nat) : ∀ (t : TL) (i : Nat), tm (killT ds t) i = if i ∈ ds then .dead else tm t i
  | [], i => by simp [killT, tm]
  | (j, x) :: r, i => by
    have ih := killT_tm ds r i
    simp only [killT]
    by_cases hj : j ∈ ds
    · simp only [hj, if_true, ih, tm]
      by_cases hi : i ∈ ds
      · simp [hi]
      · have : j ≠ i := fun e => by subst e; exact hi hj
        simp [hi, Ne.symm this]
    · simp only [hj, if_false, tm, ih]
      by_cases hij : i = j
      · subst hij; simp [hj]
      · simp [hij]
theorem killT_dead (t : TL) (ds : List Nat) {d : Nat} (h : d ∈ ds) : tm (killT ds t) d = .dead := by rw [killT_tm, if_pos h]
theorem killT_sub (t : TL) (ds : List Nat) (o : OL) : Sub ⟨tm t, om o⟩ ⟨tm (killT ds t), om o⟩ := by
  refine sub_gen (fun i => ?_) (fun _ => .inr rfl)
  show tm (killT ds t) i = .dead ∨ tm (killT ds t) i = tm t i
  rw [killT_tm]
  split
  · exact .inl rfl
  · exact .inr rfl

/-! ### Code -/
def thenE (K : EK) (Q : EQ) : EQ
  | .normal, t, o => K t o
  | e, t, o => Q e t o
def inBlockE (id : Nat) (Q : EQ) : EQ
  | .exit id', t, o => if id' = id then Q .normal t o else Q (.exit id') t o
  | e, t, o => Q e t o
def keepT (t : TL) : List Nat → TL
  | [] => []
  | i :: r => (i, tm t i) :: keepT t r
/-- Steps of the proof alone, behind a region: only these temporaries are kept; a nil slice in a temporary, in a cell of an own variable, is taken as an own array without elements. -/
inductive Gh where
  | keep (ts : List Nat)
  | adT (u id : Nat) (e : TypeId) (k : Nat)
  | adB (b i id : Nat) (e : TypeId) (k : Nat)
  | adTd (u id : Nat) (e : TypeId) (k : Nat) (r : List (TypeId × Nat))
  | adBd (b i id : Nat) (e : TypeId) (k : Nat) (r : List (TypeId × Nat))
  | opn (id i j nw : Nat) (xs : List (List D))
  | cls (id i j nw : Nat)
  | frz (id : Nat)
  | ord (r : Ord)
/-- An object read as plain data where it is named. -/
def AV.fz (id : Nat) (d : D) (m : Option Nat) : AV → AV
  | .ar i n => if i = id then (if some n = m then .d d else .dead) else .ar i n
  | .mo i => if i = id then (if m = none then .d d else .dead) else .mo i
  | .tup cs => .tup (fzL cs)
  | .agg cs => mkAgg (fzL cs)
  | .clo f fs cs => mkClo f (fzL fs) (fzL cs)
  | x => x
where fzL : List AV → List AV
  | [] => []
  | x :: xs => AV.fz id d m x :: fzL xs
def fzT (id : Nat) (d : D) (m : Option Nat) : TL → TL
  | [] => []
  | (i, x) :: r => (i, x.fz id d m) :: fzT id d m r
def fzH (id : Nat) (d : D) (m : Option Nat) : List (Nat × AV) → List (Nat × AV)
  | [] => []
  | (i, x) :: r => (i, x.fz id d m) :: fzH id d m r
def AO.fz (id : Nat) (d : D) (m : Option Nat) : AO → AO
  | .box cs => .box (AV.fz.fzL id d m cs)
  | .arr e k (.deep tys hs) es => .arr e k (.deep tys (fzH id d m hs)) es
  | o => o
def fzO (id : Nat) (d : D) (m : Option Nat) : OL → OL
  | [] => []
  | (i, x) :: r => (i, x.fz id d m) :: fzO id d m r
def datumO : AO → Option (D × Option Nat)
  | .arr _ _ .flat es => some (.sl es, some es.length)
  | .arr _ _ (.deep _ []) es => some (.sl es, some es.length)
  | .map ks vs bs clock => some (.mp ks vs bs clock, none)
  | _ => none
def isNils : AV → Bool
  | .nils => true
  | _ => false
def gh1 (g : Gh) (t : TL) (o : OL) : Option (Prop × TL × OL) :=
  match g with
  | .keep ts => some (True, keepT t ts, o)
  | .adT u id e k => some (isNils (tm t u) = true ∧ noRefO id o ∧ noRefT id t, (u, .ar id 0) :: t, (id, .arr e k .flat []) :: o)
  | .adB b i id e k => match om o b with
    | some (.box cs) => some (isNils (cs.getD i .dead) = true ∧ noRefO id o ∧ noRefT id t, t, (b, .box (cs.set i (.ar id 0))) :: dropO [b] ((id, .arr e k .flat []) :: o))
    | _ => none
  | .adTd u id e k r => some (isNils (tm t u) = true ∧ noRefO id o ∧ noRefT id t, (u, .ar id 0) :: t, (id, .arr e k (depOf r) []) :: o)
  | .adBd b i id e k r => match om o b with
    | some (.box cs) => some (isNils (cs.getD i .dead) = true ∧ noRefO id o ∧ noRefT id t, t, (b, .box (cs.set i (.ar id 0))) :: dropO [b] ((id, .arr e k (depOf r) []) :: o))
    | _ => none
  | .opn id i j nw xs => match om o id with
    | some (.arr e k (.deep ((e', k') :: r) hs) es) => some ((i < es.length ∧ j < k ∧ hs.lookup (i * k + j) = none ∧ (es.getD i [])[j]? = some (.sl xs)) ∧ noRefO nw o ∧ noRefT nw t, t,
        (nw, .arr e' k' (depOf r) xs) :: (id, .arr e k (.deep ((e', k') :: r) ((i * k + j, .ar nw xs.length) :: hs)) es) :: dropO [id] o)
    | _ => none
  | .cls id i j nw => match om o id, om o nw with
    | some (.arr e k (.deep ((e', k') :: r) hs) es), some (.arr e2 k2 dep xs) => some ((i < es.length ∧ j < k ∧ hs.lookup (i * k + j) = some (.ar nw xs.length)) ∧ (e2 = e' ∧ k2 = k' ∧ dep = depOf r) ∧ id ≠ nw, t,
        (id, .arr e k (.deep ((e', k') :: r) (rmH (i * k + j) hs)) (es.set i ((es.getD i []).set j (.sl xs)))) :: dropO [id, nw] o)
    | _, _ => none
  | .frz id => match om o id with
    | some ob => match datumO ob with
      | some (d, m) => some (True, fzT id d m t, fzO id d m (dropO [id] o))
      | none => none
    | none => none
  | .ord _ => some (True, t, o)
def ghE (l : List Gh) (K : EK) (t : TL) (o : OL) : Prop :=
  match l with
  | [] => K t o
  | g :: gs => match gh1 g t o with
    | some (p, t', o') => p ∧ ghE gs K t' o'
    | none => False
def eCond (x : AV) (K K' : EK) (t : TL) (o : OL) : Prop :=
  match x with
  | .d (.lit (.bool b)) => if b = true then K t o else K' t o
  | _ => False
noncomputable def ELoop (P : Program) (N : NP) (x : Code) (Q : EQ) (t : TL) (o : OL) : Prop := AWp P N (.loop x) (liftQ Q) ⟨tm t, om o⟩
noncomputable def EOther (P : Program) (N : NP) (x : Code) (Q : EQ) (t : TL) (o : OL) : Prop := AWp P N x (liftQ Q) ⟨tm t, om o⟩
noncomputable def eDrawn (P : Program) (N : NP) (l2 : List Gh) (ops : Array Oper) (K : EK) (t : TL) (o : OL) : Prop :=
  match l2 with
  | [.ord r] => ordB .any ops r = true ∧ eZ P N ops r.steps K (killT (dstsQ ops r.steps) t) o
  | _ => drawB .any ops (quietN ops.toList) = true ∧ eDr P N ops (quietN ops.toList) 0 ops.toList K t o
noncomputable def eReg (P : Program) (N : NP) (l l2 : List Gh) (ops : Array Oper) (draw : Bool) (Q : EQ) (t : TL) (o : OL) : Prop :=
  match draw with
  | false => eOps P N ops ops.toList (ghE l (Q .normal)) t o
  | true => eDrawn P N l2 ops (ghE l (Q .normal)) t o
noncomputable def eC (P : Program) (N : NP) (L : Nat → List Gh) : Code → EQ → TL → OL → Prop
  | .skip, Q, t, o => Q .normal t o
  | .label _, Q, t, o => Q .normal t o
  | .exit id, Q, t, o => Q (.exit id) t o
  | .ret, Q, t, o => Q .ret t o
  | .seq x y, Q, t, o => eC P N L x (thenE (eC P N L y Q) Q) t o
  | .block id x, Q, t, o => eC P N L x (inBlockE id Q) t o
  | .cond x y z, Q, t, o => eCond (St.ev (tm t) x) (eC P N L y Q) (eC P N L z Q) t o
  | .region id ops draw, Q, t, o => ghE (L (id + 1000)) (eReg P N (L id) (L (id + 2000)) ops draw Q) t o
  | .loop x, Q, t, o => ELoop P N x Q t o
  | .rangeFunc f ps x y, Q, t, o => EOther P N (.rangeFunc f ps x y) Q t o
  | .scope x, Q, t, o => EOther P N (.scope x) Q t o
  | .goto l, Q, t, o => Q (.goto l) t o
  | .refuse w, Q, t, o => EOther P N (.refuse w) Q t o

theorem keepT_sub (t : TL) (ts : List Nat) (o : OL) : Sub ⟨tm t, om o⟩ ⟨tm (keepT t ts), om o⟩ := by
  refine sub_gen (fun i => ?_) (fun _ => .inr rfl)
  induction ts with
  | nil => exact .inl rfl
  | cons j r ih =>
    simp only [keepT, tm]
    split
    · rename_i h; subst h; exact .inr rfl
    · exact ih

theorem RelVs.setD {O : Objs} {W : World} {F : Nat → Prop} {η : Nat → Value} : ∀ (cs : List AV) (vs : List Value) (i : Nat) (x : AV), RelVs O W F η cs vs → (∀ v, RelV O W F η (cs.getD i .dead) v → RelV O W F η x v) → RelVs O W F η (cs.set i x) vs
  | [], _, _, _, h, _ => by simpa using h
  | y :: cs, vs, 0, x, h, hx => by
    simp only [RelVs, List.set_cons_zero] at h ⊢
    obtain ⟨v, rest, h1, h2, h3⟩ := h
    exact ⟨v, rest, h1, hx v (by simpa using h2), h3⟩
  | y :: cs, vs, i + 1, x, h, hx => by
    simp only [RelVs, List.set_cons_succ] at h ⊢
    obtain ⟨v, rest, h1, h2, h3⟩ := h
    exact ⟨v, rest, h1, h2, RelVs.setD cs rest i x h3 (fun v hv => hx v (by simpa using hv))⟩
theorem Rel.adopt {c : Ctx} {σ : St} {a : Act} {W : World} (h : Rel c σ a W) {id : Nat} (hf : freshIn id σ.objs) (hn : ∀ t, (σ.tmps t).noRef [id]) (e : TypeId) (k : Nat) (r : List (TypeId × Nat)) {tmps' : Nat → AV}
    (ht : ∀ t, tmps' t = σ.tmps t ∨ (σ.tmps t = .nils ∧ tmps' t = .ar id 0)) : Rel c ⟨tmps', upd σ.objs id (some (.arr e k (depOf r) []))⟩ a W := by
  obtain ⟨hsz, hdf, F, η, S, hm, hr⟩ := h
  have hk := Keeps.newA σ.objs η id (.arr e k (depOf r) []) (.slice none 0 0)
  obtain ⟨m1, m2⟩ := Mem.change (W' := W) (F' := F) hm id (some (.arr e k (depOf r) [])) (.slice none 0 0) [] [id] rfl rfl rfl (Nat.le_refl _) (fun _ _ _ => rfl) (fun _ h => h) (fun _ h => .inl h) (by simp) (by simp) (by simp) (fun _ => rfl) hk
    (fun i o ho _ => hf.2 i o ho) (fun o ho _ => by cases ho; exact relO_depOf.2 ⟨by simp, by simp, .inl ⟨⟨_, rfl⟩, rfl, rfl⟩⟩)
  refine ⟨hsz, hdf, F, _, _, m1, fun t => ?_⟩
  rcases ht t with h | ⟨h1, h2⟩
  · simp only [h]; exact RelV.pres hk m2 _ _ (hn t) (hr t)
  · have := hr t
    rw [h1] at this
    simp only [RelV] at this
    simp only [h2, RelV]
    intro e' k' d' es' ho
    simp only [upd, if_true, Option.some.injEq, AO.arr.injEq] at ho
    obtain ⟨_, _, _, rfl⟩ := ho
    exact ⟨Nat.le_refl _, fun _ => by simp [upd, this]⟩
theorem Rel.adoptB {c : Ctx} {σ : St} {a : Act} {W : World} (h : Rel c σ a W) {id b i : Nat} {cs : List AV} (hb : σ.objs b = some (.box cs)) (hi : isNils (cs.getD i .dead) = true) (hf : freshIn id σ.objs) (hn : ∀ t, (σ.tmps t).noRef [id]) (e : TypeId) (k : Nat) (r : List (TypeId × Nat)) :
    Rel c ⟨σ.tmps, upd (upd σ.objs id (some (.arr e k (depOf r) []))) b (some (.box (cs.set i (.ar id 0))))⟩ a W := by
  obtain ⟨hsz, hdf, F, η, S, hm, hr⟩ := h
  have hbi : b ≠ id := by rintro rfl; rw [hf.1] at hb; cases hb
  have hk := Keeps.newA σ.objs η id (.arr e k (depOf r) []) (.slice none 0 0)
  obtain ⟨m1, m2⟩ := Mem.change (W' := W) (F' := F) hm id (some (.arr e k (depOf r) [])) (.slice none 0 0) [] [id] rfl rfl rfl (Nat.le_refl _) (fun _ _ _ => rfl) (fun _ h => h) (fun _ h => .inl h) (by simp) (by simp) (by simp) (fun _ => rfl) hk
    (fun i o ho _ => hf.2 i o ho) (fun o ho _ => by cases ho; exact relO_depOf.2 ⟨by simp, by simp, .inl ⟨⟨_, rfl⟩, rfl, rfl⟩⟩)
  have hb1 : upd σ.objs id (some (AO.arr e k (depOf r) [])) b = some (.box cs) := by simp [upd, hbi, hb]
  have hk2 : Keeps (upd σ.objs id (some (.arr e k (depOf r) []))) (upd (upd σ.objs id (some (.arr e k (depOf r) []))) b (some (.box (cs.set i (.ar id 0))))) (upd η id (.slice none 0 0)) (upd (upd η id (.slice none 0 0)) b (upd η id (.slice none 0 0) b)) [] := by
    rw [upd_self]
    intro j o' ho
    by_cases hj : j = b
    · subst hj
      simp only [upd, if_true, Option.some.injEq] at ho
      subst ho
      exact .inr ⟨_, hb1, rfl⟩
    · simp only [upd, if_neg hj] at ho
      exact Keeps.refl _ _ j o' ho
  obtain ⟨n1, n2⟩ := Mem.change (W' := W) (F' := F) m1 b (some (.box (cs.set i (.ar id 0)))) (upd η id (.slice none 0 0) b) (upd S id [] b) [] rfl rfl rfl (Nat.le_refl _) (fun _ _ _ => rfl) (fun _ h => h) (fun _ h => .inl h) (fun x hx => (m1.apart b x hx).1) (m1.nd b) (fun x hx => .inl hx) (fun h => by cases h) hk2
    (fun i o _ _ => AO.noRef_nil o) (fun o ho _ => by
      cases ho
      obtain ⟨g, cur, ty, h1, h2, h3, h4⟩ := m1.obj b _ hb1
      refine ⟨g, cur, ty, h1, h2, h3, ?_⟩
      have h5 : RelVs (upd (upd σ.objs id (some (AO.arr e k (depOf r) []))) b (some (AO.box (cs.set i (AV.ar id 0))))) W F (upd (upd η id (Value.slice none 0 0)) b (upd η id (Value.slice none 0 0) b)) cs cur.toList := RelVs.pres hk2 (fun b hb => ⟨hb, rfl⟩) cs _ (AV.noRefs_nil _) h4
      refine RelVs.setD cs _ i (.ar id 0) h5 (fun v hv => ?_)
      have hx : cs.getD i .dead = .nils := by
        cases hx : cs.getD i .dead <;> rw [hx] at hi <;> simp [isNils] at hi
      rw [hx] at hv
      simp only [RelV] at hv ⊢
      intro e' k' d' es' ho
      simp only [upd, if_neg (Ne.symm hbi), if_true, Option.some.injEq, AO.arr.injEq] at ho
      obtain ⟨_, _, _, rfl⟩ := ho
      exact ⟨Nat.le_refl _, fun _ => by simp [upd, Ne.symm hbi, hv]⟩)
  exact ⟨hsz, hdf, F, _, _, n1, fun t => RelV.pres hk2 n2 _ _ (AV.noRef_nil _) (RelV.pres hk m2 _ _ (hn t) (hr t))⟩

section
variable {O O' : Objs} {W : World} {F F' : Nat → Prop} {η : Nat → Value}
mutual
theorem RelV.fz {id : Nat} {d : D} {m : Option Nat} (hF : ∀ b, F b → F' b) (hO : ∀ j o', O' j = some o' → j ≠ id ∧ ∃ o, O j = some o ∧ o' = o.fz id d m) (hd : ∀ n v, RelV O W F η (.ar id n) v → some n = m → Rd W F' d v) (hd' : ∀ v, RelV O W F η (.mo id) v → m = none → Rd W F' d v) :
    ∀ (x : AV) (v : Value), RelV O W F η x v → RelV O' W F' η (x.fz id d m) v
  | .dead, _, _ => by simp only [AV.fz, RelV]
  | .und, _, h => h
  | .nils, _, h => h
  | .emp, _, h => h
  | .d x, v, h => Rd.mono (fun b hb => ⟨hF b hb, rfl⟩) x v h
  | .ar i n, v, h => by
    simp only [AV.fz]
    split
    · rename_i e
      subst e
      split
      · rename_i e2; exact hd n v h e2
      · simp only [RelV]
    · simp only [RelV] at h ⊢
      intro e k dep es ho
      obtain ⟨_, o, h1, h2⟩ := hO _ _ ho
      cases o with
      | arr e' k' dep' es' => cases dep' <;> simp only [AO.fz, AO.arr.injEq] at h2 <;> obtain ⟨rfl, rfl, _, rfl⟩ := h2 <;> exact h _ _ _ _ h1
      | _ => simp [AO.fz] at h2
  | .ep i n a b, v, h => by
    simp only [AV.fz, RelV] at h ⊢
    intro e k dep es ho
    obtain ⟨_, o, h1, h2⟩ := hO _ _ ho
    cases o with
    | arr e' k' dep' es' => cases dep' <;> simp only [AO.fz, AO.arr.injEq] at h2 <;> obtain ⟨rfl, rfl, _, rfl⟩ := h2 <;> exact h _ _ _ _ h1
    | _ => simp [AO.fz] at h2
  | .bp i off, v, h => by
    simp only [AV.fz, RelV] at h ⊢
    intro cs ho
    obtain ⟨_, o, h1, h2⟩ := hO _ _ ho
    cases o with
    | box cs' => exact h _ h1
    | arr e' k' dep' es' => cases dep' <;> simp [AO.fz] at h2
    | _ => simp [AO.fz] at h2
  | .mo i, v, h => by
    simp only [AV.fz]
    split
    · rename_i e
      subst e
      split
      · rename_i e2; exact hd' v h e2
      · simp only [RelV]
    · simp only [RelV] at h ⊢
      intro o' ho hH
      obtain ⟨_, o, h1, h2⟩ := hO _ _ ho
      refine h _ h1 ?_
      rw [h2] at hH
      cases o with
      | arr e' k' dep' es' => cases dep' <;> simp [AO.fz, AO.isH] at hH
      | box => simp [AO.fz, AO.isH] at hH
      | ext => simp [AO.fz, AO.isH] at hH
      | _ => rfl
  | .yv i, v, h => by
    simp only [AV.fz, RelV] at h ⊢
    intro lim fam stop l rest ho
    obtain ⟨_, o, h1, h2⟩ := hO _ _ ho
    cases o with
    | ext => simp only [AO.fz] at h2; rw [← h2] at h1; exact h _ _ _ _ _ h1
    | arr e' k' dep' es' => cases dep' <;> simp [AO.fz] at h2
    | _ => simp [AO.fz] at h2
  | .agg cs, v, h => by
    simp only [RelV] at h
    obtain ⟨vs, rfl, h2⟩ := h
    simp only [AV.fz]
    exact relV_mkAgg _ _ (RelVs.fz hF hO hd hd' cs vs h2)
  | .clo f fs cs, v, h => by
    simp only [RelV] at h
    obtain ⟨a, b, rfl, h2, h3⟩ := h
    have h4 := RelVs.fz hF hO hd hd' fs a h2
    have h5 := RelVs.fz hF hO hd hd' cs b h3
    simp only [AV.fz, mkClo]
    split
    · rename_i x y e1 e2
      simp only [RelV, Rd]
      exact ⟨a, b, rfl, relVs_allD _ _ _ e1 h4, relVs_allD _ _ _ e2 h5⟩
    · simp only [RelV]; exact ⟨a, b, rfl, h4, h5⟩
  | .tup cs, v, h => by
    simp only [AV.fz, RelV] at h ⊢
    obtain ⟨vs, rfl, h2⟩ := h
    exact ⟨vs, rfl, RelVs.fz hF hO hd hd' cs vs h2⟩
theorem RelVs.fz {id : Nat} {d : D} {m : Option Nat} (hF : ∀ b, F b → F' b) (hO : ∀ j o', O' j = some o' → j ≠ id ∧ ∃ o, O j = some o ∧ o' = o.fz id d m) (hd : ∀ n v, RelV O W F η (.ar id n) v → some n = m → Rd W F' d v) (hd' : ∀ v, RelV O W F η (.mo id) v → m = none → Rd W F' d v) :
    ∀ (xs : List AV) (vs : List Value), RelVs O W F η xs vs → RelVs O' W F' η (AV.fz.fzL id d m xs) vs
  | [], _, h => h
  | x :: xs, vs, h => by
    simp only [RelVs, AV.fz.fzL] at h ⊢
    obtain ⟨v, rest, h1, h2, h3⟩ := h
    exact ⟨v, rest, h1, RelV.fz hF hO hd hd' x v h2, RelVs.fz hF hO hd hd' xs rest h3⟩
end
end
theorem fzH_lookup (id : Nat) (d : D) (m : Option Nat) (i : Nat) : ∀ hs : List (Nat × AV), (fzH id d m hs).lookup i = (hs.lookup i).map (AV.fz id d m)
  | [] => rfl
  | (j, x) :: hs => by
    simp only [fzH, List.lookup_cons]
    cases h : i == j
    · exact fzH_lookup id d m i hs
    · rfl
theorem tm_fzT (id : Nat) (d : D) (m : Option Nat) (i : Nat) : ∀ t : TL, tm (fzT id d m t) i = (tm t i).fz id d m
  | [] => by simp [fzT, tm, AV.fz]
  | (j, x) :: r => by
    simp only [fzT, tm]
    split
    · rfl
    · exact tm_fzT id d m i r
theorem om_fzO (id : Nat) (d : D) (m : Option Nat) (i : Nat) : ∀ o : OL, om (fzO id d m o) i = (om o i).map (AO.fz id d m)
  | [] => rfl
  | (j, x) :: r => by
    simp only [fzO, om]
    split
    · rfl
    · exact om_fzO id d m i r

theorem Rel.frzO {c : Ctx} {t : TL} {o : OL} {a : Act} {W : World} (h : Rel c ⟨tm t, om o⟩ a W) {id : Nat} {ob : AO} {d : D} {m : Option Nat} (hO : om o id = some ob) (hd : datumO ob = some (d, m)) : Rel c ⟨tm (fzT id d m t), om (fzO id d m (dropO [id] o))⟩ a W := by
  obtain ⟨hsz, hdf, F, η, S, hm, hr⟩ := h
  have hO' : ∀ j o', om (fzO id d m (dropO [id] o)) j = some o' → j ≠ id ∧ ∃ ob, om o j = some ob ∧ o' = ob.fz id d m := by
    intro j o' ho
    rw [om_fzO, om_dropO] at ho
    split at ho
    · cases ho
    · rename_i hj
      rw [Option.map_eq_some_iff] at ho
      obtain ⟨ob, h1, h2⟩ := ho
      exact ⟨by simpa using hj, ob, h1, h2.symm⟩
  have hFF : ∀ b, F b → (F b ∨ b ∈ S id) := fun b hb => .inl hb
  have hrd : ∀ r : Prop × D × List Nat, ∀ x v, RelV (om o) W F η x v → Aw.frz (om o) x = some r → r.1 → (∀ i ∈ r.2.2, i = id) → Rd W (fun b => F b ∨ b ∈ S id) r.2.1 v := fun r x v h1 h2 h3 h4 => frz_rd (F' := fun b => F b ∨ b ∈ S id) hm hFF x v r h1 h2 h3 (fun i hi b hb => .inr (by rw [h4 i hi] at hb; exact hb))
  have hd1 : ∀ n v, RelV (om o) W F η (.ar id n) v → some n = m → Rd W (fun b => F b ∨ b ∈ S id) d v := by
    intro n v hv hn
    cases ob with
    | arr e k dep es =>
      cases dep with
      | flat =>
        simp only [datumO, Option.some.injEq, Prod.mk.injEq] at hd
        obtain ⟨rfl, rfl⟩ := hd
        exact hrd _ _ v hv (by simp only [Aw.frz, frzc, hO]; rfl) (Option.some.inj hn) (by simp)
      | deep tys hs =>
        cases hs with
        | nil =>
          simp only [datumO, Option.some.injEq, Prod.mk.injEq] at hd
          obtain ⟨rfl, rfl⟩ := hd
          exact hrd _ _ v hv (by simp only [Aw.frz, frzc, hO]; rfl) (Option.some.inj hn) (by simp)
        | cons p hs => simp [datumO] at hd
    | map ks vs bs clock =>
      simp only [datumO, Option.some.injEq, Prod.mk.injEq] at hd
      obtain ⟨rfl, rfl⟩ := hd
      cases hn
    | _ => simp [datumO] at hd
  have hd2 : ∀ v, RelV (om o) W F η (.mo id) v → m = none → Rd W (fun b => F b ∨ b ∈ S id) d v := by
    intro v hv hn
    cases ob with
    | map ks vs bs clock =>
      simp only [datumO, Option.some.injEq, Prod.mk.injEq] at hd
      obtain ⟨rfl, rfl⟩ := hd
      exact hrd _ _ v hv (by simp only [Aw.frz, frzc, hO]; rfl) trivial (by simp)
    | arr e k dep es =>
      cases dep with
      | flat => simp only [datumO, Option.some.injEq, Prod.mk.injEq] at hd; obtain ⟨rfl, rfl⟩ := hd; cases hn
      | deep tys hs =>
        cases hs with
        | nil => simp only [datumO, Option.some.injEq, Prod.mk.injEq] at hd; obtain ⟨rfl, rfl⟩ := hd; cases hn
        | cons p hs => simp [datumO] at hd
    | _ => simp [datumO] at hd
  have hV := fun x v => RelV.fz (O := om o) (O' := om (fzO id d m (dropO [id] o))) (W := W) (F := F) (F' := fun b => F b ∨ b ∈ S id) (η := η) hFF hO' hd1 hd2 x v
  have hVs := fun x v => RelVs.fz (O := om o) (O' := om (fzO id d m (dropO [id] o))) (W := W) (F := F) (F' := fun b => F b ∨ b ∈ S id) (η := η) hFF hO' hd1 hd2 x v
  have hk : Keeps (om o) (om (fzO id d m (dropO [id] o))) η η [] := by
    intro j o' ho
    right
    obtain ⟨_, ob', h1, h2⟩ := hO' j o' ho
    refine ⟨ob', h1, ?_⟩
    subst h2
    cases ob' with
    | arr e k dep es => cases dep <;> simp [AO.fz]
    | _ => simp [AO.fz]
  have hnone : ∀ j, om o j = none → om (fzO id d m (dropO [id] o)) j = none := by
    intro j hj
    rw [om_fzO, om_dropO, hj]
    split <;> rfl
  obtain ⟨m1, m2⟩ := Mem.update (W' := W) (F' := fun b => F b ∨ b ∈ S id) (O' := om (fzO id d m (dropO [id] o))) (η' := η) (S' := upd S id []) hm (fun _ => True) [] rfl rfl rfl (Nat.le_refl _) (fun _ _ _ => rfl) (fun _ h => .inl h)
    (fun b hb => by
      rcases hb with hb | hb
      · exact .inl hb
      · exact .inr (.inr ⟨id, trivial, hb⟩))
    (fun x hx => absurd trivial hx)
    (fun x _ b hb => by
      simp only [upd] at hb
      split at hb
      · simp at hb
      · rename_i hne
        refine ⟨fun hF => ?_, .inl ⟨x, trivial, hb⟩⟩
        rcases hF with hF | hF
        · exact (hm.apart x b hb).1 hF
        · exact hne (hm.sep x id b hb hF))
    (fun x y b _ _ hx hy => by
      simp only [upd] at hx hy
      split at hx
      · simp at hx
      · split at hy
        · simp at hy
        · exact hm.sep x y b hx hy)
    (fun x _ => by
      simp only [upd]
      split
      · simp
      · exact hm.nd x)
    (fun x _ ho => by
      simp only [upd]
      split
      · rfl
      · rename_i hne
        refine hm.gone x ?_
        cases h : om o x with
        | none => exact h
        | some y =>
          rw [om_fzO, om_dropO, if_neg (by simpa using hne), h] at ho
          cases ho)
    hk (fun _ _ _ hx => absurd trivial hx)
    (fun x o' _ ho hF => by
      obtain ⟨hne, ob', h1, rfl⟩ := hO' x o' ho
      simp only [upd, if_neg hne]
      have hrel := hm.obj x _ h1
      cases ob' with
      | box cs =>
        obtain ⟨b, cur, e, g1, g2, g3, g4⟩ := hrel
        exact ⟨b, cur, e, g1, g2, g3, hVs cs _ g4⟩
      | arr e k dep es =>
        cases dep with
        | flat => exact OwnSl.mono (fun _ _ => rfl) (fun xs vs s' hs' => OwnVals.mono xs vs s' (fun x v s'' hs'' => Own.mono hF [] x v s'' (fun _ _ => rfl))) hrel
        | deep tys hs =>
          refine OwnSl.mono (fun _ _ => rfl) (fun xs vs s' _ hx => ?_) hrel
          have h1 : OwnHs (om o) W (fun b => F b ∨ b ∈ S id) η tys hs 0 xs vs s' := OwnHs.mono (fun x _ v hv => RelV.pres (Keeps.refl _ _) hF x v (AV.noRef_nil _) hv) xs 0 vs s' (fun x v s'' _ => Own.mono hF tys x v s'' (fun _ _ => rfl)) hx
          refine OwnHs.ren (fun i => ?_) xs 0 vs s' h1
          rw [fzH_lookup]
          cases hs.lookup i with
          | none => exact .inl ⟨rfl, rfl⟩
          | some y => exact .inr ⟨y, _, rfl, rfl, fun v hv => RelV.fz (F := fun b => F b ∨ b ∈ S id) (fun b hb => hb) hO' (fun n v h => hd1 n v (by simpa only [RelV] using h)) (fun v h => hd2 v (by simpa only [RelV] using h)) y v hv⟩
      | map =>
        exact RelO.mono hk hF (AO.noRef_nil _) (fun _ _ => rfl) (by intro _ _ _ _ _ h; cases h) hrel
      | it =>
        exact RelO.mono hk hF (AO.noRef_nil _) (fun _ _ => rfl) (by intro _ _ _ _ _ h; cases h) hrel
      | ext lim fam stop l rest =>
        obtain ⟨l1, l2⟩ := hm.lim x _ _ _ _ _ h1
        refine RelO.mono hk hF (AO.noRef_nil _) (fun _ _ => rfl) (fun lim' fam' stop' l' rest' h => ?_) hrel
        cases h
        refine ⟨rfl, rfl, rfl, Nat.le_refl _, hF, fun _ _ => rfl, fun b hb hf => ?_, fun b hf => ?_, fun _ _ => rfl, fun b hf hlt => ?_⟩
        · rcases hf with hf | hf
          · exact (hm.apart x b hb).1 hf
          · exact hne (hm.sep x id b hb hf)
        · rcases hf with hf | hf
          · exact hm.flt b hf
          · exact (hm.apart id b hf).2.1
        · rcases hf with hf | hf
          · exact hf
          · have := l2 id b hf (Ne.symm hne); omega)
    (fun x lim fam stop l rest _ ho => by
      obtain ⟨hne, ob', h1, h2⟩ := hO' x _ ho
      cases ob' with
      | ext =>
        simp only [AO.fz] at h2
        rw [← h2] at h1
        obtain ⟨l1, l2⟩ := hm.lim x _ _ _ _ _ h1
        refine ⟨l1, fun id' b hb hne' => ?_⟩
        simp only [upd] at hb
        split at hb
        · simp at hb
        · exact l2 id' b hb hne'
      | arr e k dep es => cases dep <;> simp [AO.fz] at h2
      | _ => simp [AO.fz] at h2)
  exact ⟨hsz, hdf, _, η, _, m1, fun i => by simp only; rw [tm_fzT]; exact hV _ _ (hr i)⟩

theorem gh1_sub {c : Ctx} {g : Gh} {t t' : TL} {o o' : OL} {p : Prop} {a : Act} {W : World} (h : gh1 g t o = some (p, t', o')) (hp : p) (hr : Rel c ⟨tm t, om o⟩ a W) : Rel c ⟨tm t', om o'⟩ a W := by
  cases g with
  | keep ts =>
    simp only [gh1, Option.some.injEq, Prod.mk.injEq] at h
    obtain ⟨_, rfl, rfl⟩ := h
    exact keepT_sub t ts o c a W hr
  | adT u id e k =>
    simp only [gh1, Option.some.injEq, Prod.mk.injEq] at h
    obtain ⟨rfl, rfl, rfl⟩ := h
    obtain ⟨h1, h2, h3⟩ := hp
    have := hr.adopt (noRefO_om _ h2) (noRefT_tm _ h3) e k [] (tmps' := tm ((u, .ar id 0) :: t)) (fun i => by
      simp only [tm]
      split
      · rename_i hi
        subst hi
        refine .inr ⟨?_, rfl⟩
        cases hx : tm t i <;> rw [hx] at h1 <;> simp [isNils] at h1
      · exact .inl rfl)
    rw [← upd_om]
    exact this
  | adB b i id e k =>
    simp only [gh1] at h
    split at h
    · rename_i cs hcs
      simp only [Option.some.injEq, Prod.mk.injEq] at h
      obtain ⟨rfl, rfl, rfl⟩ := h
      obtain ⟨h1, h2, h3⟩ := hp
      have := hr.adoptB hcs h1 (noRefO_om _ h2) (noRefT_tm _ h3) e k []
      have e1 : upd (upd (om o) id (some (.arr e k .flat []))) b (some (.box (cs.set i (.ar id 0)))) = om ((b, .box (cs.set i (.ar id 0))) :: dropO [b] ((id, .arr e k .flat []) :: o)) := by
        rw [upd_om]
        have := upd_dropO b (.box (cs.set i (.ar id 0))) [] ((id, .arr e k .flat []) :: o)
        rw [← this, ← dropO_om]
        congr 1
      rw [← e1]
      exact this
    · cases h
  | adTd u id e k r =>
    simp only [gh1, Option.some.injEq, Prod.mk.injEq] at h
    obtain ⟨rfl, rfl, rfl⟩ := h
    obtain ⟨h1, h2, h3⟩ := hp
    have := hr.adopt (noRefO_om _ h2) (noRefT_tm _ h3) e k r (tmps' := tm ((u, .ar id 0) :: t)) (fun i => by
      simp only [tm]
      split
      · rename_i hi
        subst hi
        refine .inr ⟨?_, rfl⟩
        cases hx : tm t i <;> rw [hx] at h1 <;> simp [isNils] at h1
      · exact .inl rfl)
    rw [← upd_om]
    exact this
  | adBd b i id e k r =>
    simp only [gh1] at h
    split at h
    · rename_i cs hcs
      simp only [Option.some.injEq, Prod.mk.injEq] at h
      obtain ⟨rfl, rfl, rfl⟩ := h
      obtain ⟨h1, h2, h3⟩ := hp
      have := hr.adoptB hcs h1 (noRefO_om _ h2) (noRefT_tm _ h3) e k r
      rw [upd_om, upd_om1] at this
      exact this
    · cases h
  | opn id i j nw xs =>
    simp only [gh1] at h
    split at h
    · rename_i e k e' k' r hs es ho
      simp only [Option.some.injEq, Prod.mk.injEq] at h
      obtain ⟨rfl, rfl, rfl⟩ := h
      obtain ⟨⟨h1, h2, h3, h4⟩, h5, h6⟩ := hp
      have := hr.openT ho h1 h2 h3 h4 (noRefO_om _ h5) (noRefT_tm _ h6)
      rw [upd_om1, upd_om] at this
      exact this
    · cases h
  | cls id i j nw =>
    simp only [gh1] at h
    split at h
    · rename_i e k e' k' r hs es e2 k2 dep xs ho hw
      simp only [Option.some.injEq, Prod.mk.injEq] at h
      obtain ⟨rfl, rfl, rfl⟩ := h
      obtain ⟨⟨h1, h2, h3⟩, ⟨rfl, rfl, rfl⟩, h4⟩ := hp
      have := hr.closeT ho h1 h2 hw h3 h4
      have e1 : upd (upd (om o) id (some (.arr e k (.deep ((e2, k2) :: r) (rmH (i * k + j) hs)) (es.set i ((es.getD i []).set j (.sl xs)))))) nw none = om ((id, .arr e k (.deep ((e2, k2) :: r) (rmH (i * k + j) hs)) (es.set i ((es.getD i []).set j (.sl xs)))) :: dropO [id, nw] o) := by
        funext x
        simp only [upd, om]
        by_cases hx : x = nw
        · subst hx
          rw [if_pos rfl, if_neg (Ne.symm h4), om_dropO]
          simp
        · rw [if_neg hx]
          split
          · rfl
          · rename_i hx2
            rw [om_dropO]
            simp [hx, hx2]
      rw [← e1]
      exact this
    · cases h
  | frz id =>
    simp only [gh1] at h
    split at h
    · rename_i ob ho
      split at h
      · rename_i d m hd
        simp only [Option.some.injEq, Prod.mk.injEq] at h
        obtain ⟨_, rfl, rfl⟩ := h
        exact hr.frzO ho hd
      · cases h
    · cases h
  | ord r =>
    simp only [gh1, Option.some.injEq, Prod.mk.injEq] at h
    obtain ⟨_, rfl, rfl⟩ := h
    exact hr
theorem ghE_sub {c : Ctx} {K : EK} {a : Act} {W : World} : ∀ (l : List Gh) (t : TL) (o : OL), ghE l K t o → Rel c ⟨tm t, om o⟩ a W → ∃ t' o', K t' o' ∧ Rel c ⟨tm t', om o'⟩ a W
  | [], t, o, h, hr => ⟨t, o, h, hr⟩
  | g :: gs, t, o, h, hr => by
    simp only [ghE] at h
    split at h
    · rename_i p t' o' hg
      exact ghE_sub gs t' o' h.2 (gh1_sub hg h.1 hr)
    · exact h.elim

theorem eC_sound {P : Program} {N : NP} {L : Nat → List Gh} (hmix : P.follows .mixedOrders = true) : ∀ (code : Code) (Q : EQ) (t : TL) (o : OL), eC P N L code Q t o → AWp P N code (liftQ Q) ⟨tm t, om o⟩
  | .skip, Q, t, o, h => fun R n c hT hP hN a W hr => wpIn_skip ⟨_, ⟨t, o, rfl, h⟩, hr.x⟩
  | .label _, Q, t, o, h => fun R n c hT hP hN a W hr => wpIn_label ⟨_, ⟨t, o, rfl, h⟩, hr.x⟩
  | .exit _, Q, t, o, h => fun R n c hT hP hN a W hr => wpIn_exit ⟨_, ⟨t, o, rfl, h⟩, hr.x⟩
  | .ret, Q, t, o, h => fun R n c hT hP hN a W hr => wpIn_ret ⟨_, ⟨t, o, rfl, h⟩, hr.x⟩
  | .goto _, Q, t, o, h => fun R n c hT hP hN a W hr => wpIn_goto ⟨_, ⟨t, o, rfl, h⟩, hr.x⟩
  | .seq x y, Q, t, o, h => fun R n c hT hP hN a W hr => by
    simp only [eC] at h
    refine wpIn_seq (wpIn_mono (eC_sound hmix x _ t o h R n c hT hP hN a W hr) ?_)
    rintro e a' W' ⟨σ', ⟨t', o', rfl, h1⟩, Ds, hD, h2⟩
    cases e with
    | normal =>
      refine wpIn_mono (eC_sound hmix y Q t' o' h1 R n (c.more Ds) hT hP hN a' W' h2) ?_
      rintro e a'' W'' ⟨σ'', h3, h4⟩
      exact ⟨σ'', h3, h4.x hD⟩
    | _ => exact ⟨_, ⟨t', o', rfl, h1⟩, Ds, hD, h2⟩
  | .block id x, Q, t, o, h => fun R n c hT hP hN a W hr => by
    simp only [eC] at h
    refine wpIn_block (wpIn_mono (eC_sound hmix x _ t o h R n c hT hP hN a W hr) ?_)
    rintro e _ _ ⟨σ', ⟨t', o', rfl, h1⟩, h2⟩
    cases e with
    | exit id' =>
      simp only [inBlockE] at h1
      simp only [Exit.inBlock]
      split at h1 <;> rename_i hid <;> simp only [hid, if_true, if_false]
      · exact ⟨_, ⟨t', o', rfl, h1⟩, h2⟩
      · exact ⟨_, ⟨t', o', rfl, h1⟩, h2⟩
    | _ => exact ⟨_, ⟨t', o', rfl, h1⟩, h2⟩
  | .cond x y z, Q, t, o, h => fun R n c hT hP hN a W hr => by
    simp only [eC, eCond] at h
    split at h
    · rename_i b hb
      obtain ⟨_, _, F, η, S, hm, ht⟩ := id hr
      have h1 := relV_ev ht x
      rw [show (St.mk (tm t) (om o)).tmps = tm t from rfl, hb] at h1
      simp only [RelV, Rd] at h1
      refine wpIn_cond_split h1 (fun hb' => ?_) (fun hb' => ?_)
      · exact eC_sound hmix y Q t o ((iteE h).1 hb') R n c hT hP hN a W hr
      · exact eC_sound hmix z Q t o ((iteE h).2 hb') R n c hT hP hN a W hr
    · exact h.elim
  | .region id ops draw, Q, t, o, h => fun R n c hT hP hN a W hr => by
    subst hP
    subst hN
    have fin : ∀ σ' a' W', liftK (ghE (L id) (Q .normal)) σ' → Rel c σ' a' W' → ∃ σ'', liftQ Q .normal σ'' ∧ RelX c σ'' a' W' := by
      rintro _ a' W' ⟨t', o', rfl, h1⟩ h2
      obtain ⟨t'', o'', h3, h4⟩ := ghE_sub _ _ _ h1 h2
      exact ⟨_, ⟨t'', o'', rfl, h3⟩, h4.x⟩
    simp only [eC] at h
    obtain ⟨t, o, h, hr⟩ := ghE_sub _ _ _ h hr
    simp only [eReg] at h
    cases draw
    · exact wpIn_region_list (lwp_sound (Q := fun e a' W' => ∃ σ', liftQ Q e σ' ∧ RelX c σ' a' W') fin ops.toList _ a W hr (eOps_lwp ops.toList t o h))
    · simp only [eDrawn] at h
      refine wpIn_region_any hmix ?_
      have hr' : Rel c ⟨tm t, om o⟩ a { W with drawn := W.drawn + 1 } := hr.heap rfl rfl rfl rfl
      split at h
      · rename_i r _
        obtain ⟨hB, h⟩ := h
        refine region_ord (r := r) (σ := ⟨tm (killT (dstsQ ops r.steps) t), om o⟩) (K := liftK (ghE (L id) (Q .normal))) hB fin (killT_sub t _ o c a _ hr') (fun i hi hq oi d hoi hd => killT_dead t _ (dstsQ_mem _ (Ord.isQ_step hq) hoi hd)) ?_
        exact eZ_zlwp (r := r) (ordB_lookup hB) r.steps (fun p hp => hp) _ o h
      obtain ⟨hB, h⟩ := h
      refine aAny_sound (nA := quietN ops.toList) (K := liftK (ghE (L id) (Q .normal))) fin ops.size _ _ a _ hr' ?_
      have := aAny_lex (P := c.P) (N := c.N) (K := liftK (ghE (L id) (Q .normal))) hB ops.toList 0 (Array.replicate ops.size false) ⟨tm t, om o⟩ (by simp) (by simp) (fun j => by
        rw [Array.getD_eq_getD_getElem?, Array.getElem?_replicate]; split <;> simp) (fun j o ho hj => by
          rw [Array.getD_eq_getD_getElem?, Array.getElem?_replicate] at hj; split at hj <;> simp at hj) (eDr_dlwp ops.toList 0 t o h)
      simpa using this
  | .loop _, _, _, _, h => h
  | .rangeFunc .., _, _, _, h => h
  | .scope _, _, _, _, h => h
  | .refuse _, _, _, _, h => h

/-- The state at the head of the next round. -/
def nextE (i n : Nat) (I : Prop) (s : TL × OL) (t : TL) (o : OL) : Prop := i < n ∧ I ∧ subT (tm t) s.1 ∧ subO (om o) s.2
/-- A LOOP: S i is the state at the head of round i, I i what is known there; round n at the latest leaves it. -/
theorem eloop {P : Program} {N : NP} (L : Nat → List Gh) (hmix : P.follows .mixedOrders = true) {x : Code} {Q : EQ} {t : TL} {o : OL} (n : Nat) (I : Nat → Prop) (S : Nat → TL × OL) (hI0 : I 0) (h0 : subT (tm t) (S 0).1) (h0' : subO (om o) (S 0).2)
    (hs : ∀ i, i ≤ n → I i → eC P N L x (thenE (nextE i n (I (i + 1)) (S (i + 1))) Q) (S i).1 (S i).2) : ELoop P N x Q t o := by
  intro R m c hT hP hN a W hr
  refine wpIn_loop_ix (fun i a W => I i ∧ RelX c ⟨tm (S i).1, om (S i).2⟩ a W) n ⟨hI0, (sub_of (σ := ⟨tm t, om o⟩) h0 h0' c a W hr).x⟩ (fun i a W hi hI => ?_)
  obtain ⟨hI1, Ds, hD, hI2⟩ := hI
  refine wpIn_mono (eC_sound hmix x _ _ _ (hs i hi hI1) R m (c.more Ds) hT hP hN a W hI2) ?_
  rintro e a' W' ⟨σ', ⟨t', o', rfl, h1⟩, Es, hE, h2⟩
  cases e with
  | normal => exact ⟨h1.1, h1.2.1, RelX.x hD ⟨Es, hE, sub_of (σ := ⟨tm t', om o'⟩) h1.2.2.1 h1.2.2.2 _ a' W' h2⟩⟩
  | _ => exact ⟨_, ⟨t', o', rfl, h1⟩, RelX.x hD ⟨Es, hE, h2⟩⟩

/-- A call's end. -/
noncomputable def rsE (P : Program) (t : TL) (o : OL) : List ResultVar → Option (Prop × List D) := resQ P ⟨tm t, om o⟩
def eRet (V : AV) (r : Option (Prop × List D)) : Prop :=
  match r with
  | some (vc, xs) => vc ∧ packV xs = V
  | none => False
noncomputable def retE (P : Program) (rs : Array ResultVar) (V : AV) : EQ
  | .ret, t, o => eRet V (resQ P ⟨tm t, om o⟩ rs.toList)
  | .normal, t, o => eRet V (resQ P ⟨tm t, om o⟩ rs.toList)
  | _, _, _ => False
theorem FnP.of_eC {P : Program} {f : Nat} {fn : Func} {code : Code} {ds : List D} {V : AV} (L : Nat → List Gh) {own : List (Nat × List (TypeId × Nat))} (hmix : P.follows .mixedOrders = true) (hf : P.funcs[f]? = some fn) (hb : fn.body = some code)
    (hc : ∀ as W, (callFunc f as).run P W = .ok (.enter f as) W) {N : Nat} (hN : fn.ntmps = N) (hN' : ds.length ≤ N) {rs : Array ResultVar} (hrs : fn.results = rs) (h : D.okL ds → eC P ⟨N, [], true, own⟩ L code (retE P rs V) (startL 0 ds) []) : FnP P f ds V [] := by
  subst hN
  subst hrs
  refine FnP.intro' own hmix hf hb (fun W as => hc as W) hN' (fun hok => AWp.mono (eC_sound hmix code _ _ _ (h hok)) ?_)
  rintro e σ ⟨t, o, rfl, h1⟩
  unfold retE at h1
  unfold retQ
  split at h1 <;> first | exact h1.elim | exact h1

def D.ones : List D → Prop
  | [] => True
  | x :: xs => x.one ∧ D.ones xs
theorem D.ones_iff : ∀ l : List D, D.ones l ↔ ∀ x ∈ l, x.one
  | [] => by simp [D.ones]
  | x :: l => by simp [D.ones, D.ones_iff l]
theorem rowsOk_nil (k : Nat) : rowsOk k [] = True := by simp [rowsOk]
theorem rowsOk_cons (k : Nat) (y : List D) (ys : List (List D)) : rowsOk k (y :: ys) = ((y.length = k ∧ D.ones y) ∧ rowsOk k ys) := by simp [rowsOk, D.ones_iff]
theorem lt_nat_int (i n : Nat) : decide ((i : Int) < (n : Int)) = decide (i < n) := by simp
theorem in_nat_int (i n : Nat) : (0 ≤ (i : Int) ∧ (i : Int) < (n : Int)) = (i < n) := by simp
end Go.Aw
