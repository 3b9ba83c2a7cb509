/-
  No cell of these rows narrows 'for every input' (looked for: loops, veiled, ifaces, maps, wideKeys, modest, calm, conditions, laid).
  DERIVED. THE GIVEN ROWS OF THIS SEAT. 8 by the template 'for every input the law returns true; each argument reads behind the call as it read before'; 0 by the template 'total and deterministic' (their statements: YtcamhcnjomddbaaTotals.lean).
  GIVEN WITH THE SEED: the statements are not yours to turn. If you find one false, say at which input.
  Laid BY PROGRAM, IN A SANDBOX (cutbox-rows.mjs): the forced cells as the released guide's own fill.sh prints them over the translation de0bc8b5f45f93e9… (all of the seat's roots in one cut). By AI agents, Wed Nov 11 2026. No macro, syntax, notation, axiom, sorry.
-/
import Derived.Test.YtcamhcnjomddbaaChecked
import GoSem.Claim
import GoSem.ClaimJoined
import GoSem.ClaimMapViews
import Derived.JoinedTies
import Derived.KernelRfl
namespace Go.Proofs.Ytcamhcnjomddbaa
/- THE CELL 'sum', in the pinned program and in every row, IS THE sha256 OF THE DUMP (.gsa) THAT YtcamhcnjomddbaaProg.lean LOADS. Nothing in Lean hashes anything: it is a label: what it is worth is what the hold of that sum in a sandbox is worth. -/
noncomputable def Try.pinned : Pinned := { name := "ytcamhcnjomddbaa", sum := "de0bc8b5f45f93e93d8b4b08a159f953433d14d095baaa400a4417c7bd17dc44", checked := Try.checked }
namespace Rows
def none {H : Type} : Left H := { results := [], args := [] }

/-- 'wireloomlaw49.DeltaMatchesReference': WHATEVER THE INPUT: true; the input reads as it did. -/
def deltaMatchesReferenceSpec : ChangeSpec := { name := "deltaMatchesReference", fn := fun _ => fun
  | [d1, d2, d3] => { results := [.lit (.bool true)], args := [d1, d2, d3] }
  | _ => none }
def deltaMatchesReferenceRow : OpenClaim := { program := "ytcamhcnjomddbaa", sum := "de0bc8b5f45f93e93d8b4b08a159f953433d14d095baaa400a4417c7bd17dc44", func := "wireloom/wireloomlaw49.DeltaMatchesReference", spec := "deltaMatchesReference", unfollowed := true, recurses := true, plainKeys := false, apart := false }
def DeltaMatchesReferenceSaid : Prop := deltaMatchesReferenceRow.holds Try.pinned (OpenSpec.ofChange deltaMatchesReferenceSpec)

/-- ITS FALSE NEIGHBOUR: 'it returns false'. Refute it at one input. -/
def deltaMatchesReferenceWrong : ChangeSpec := { name := "deltaMatchesReference", fn := fun _ => fun
  | [d1, d2, d3] => { results := [.lit (.bool false)], args := [d1, d2, d3] }
  | _ => none }
def DeltaMatchesReferenceWrongFalsely : Prop := deltaMatchesReferenceRow.holds Try.pinned (OpenSpec.ofChange deltaMatchesReferenceWrong)

/-- 'wireloomlaw49.DeltaLeads': WHATEVER THE INPUT: true; the input reads as it did. -/
def deltaLeadsSpec : ChangeSpec := { name := "deltaLeads", fn := fun _ => fun
  | [d1, d2, d3] => { results := [.lit (.bool true)], args := [d1, d2, d3] }
  | _ => none }
def deltaLeadsRow : OpenClaim := { program := "ytcamhcnjomddbaa", sum := "de0bc8b5f45f93e93d8b4b08a159f953433d14d095baaa400a4417c7bd17dc44", func := "wireloom/wireloomlaw49.DeltaLeads", spec := "deltaLeads", unfollowed := true, recurses := true, plainKeys := false, apart := false }
def DeltaLeadsSaid : Prop := deltaLeadsRow.holds Try.pinned (OpenSpec.ofChange deltaLeadsSpec)

/-- ITS FALSE NEIGHBOUR: 'it returns false'. Refute it at one input. -/
def deltaLeadsWrong : ChangeSpec := { name := "deltaLeads", fn := fun _ => fun
  | [d1, d2, d3] => { results := [.lit (.bool false)], args := [d1, d2, d3] }
  | _ => none }
def DeltaLeadsWrongFalsely : Prop := deltaLeadsRow.holds Try.pinned (OpenSpec.ofChange deltaLeadsWrong)

/-- 'wireloomlaw49.DeltaInverts': WHATEVER THE INPUT: true; the input reads as it did. -/
def deltaInvertsSpec : ChangeSpec := { name := "deltaInverts", fn := fun _ => fun
  | [d1, d2, d3] => { results := [.lit (.bool true)], args := [d1, d2, d3] }
  | _ => none }
def deltaInvertsRow : OpenClaim := { program := "ytcamhcnjomddbaa", sum := "de0bc8b5f45f93e93d8b4b08a159f953433d14d095baaa400a4417c7bd17dc44", func := "wireloom/wireloomlaw49.DeltaInverts", spec := "deltaInverts", unfollowed := true, recurses := true, plainKeys := false, apart := false }
def DeltaInvertsSaid : Prop := deltaInvertsRow.holds Try.pinned (OpenSpec.ofChange deltaInvertsSpec)

/-- ITS FALSE NEIGHBOUR: 'it returns false'. Refute it at one input. -/
def deltaInvertsWrong : ChangeSpec := { name := "deltaInverts", fn := fun _ => fun
  | [d1, d2, d3] => { results := [.lit (.bool false)], args := [d1, d2, d3] }
  | _ => none }
def DeltaInvertsWrongFalsely : Prop := deltaInvertsRow.holds Try.pinned (OpenSpec.ofChange deltaInvertsWrong)

/-- 'wireloomlaw49.DeltaComposes': WHATEVER THE INPUT: true; the input reads as it did. -/
def deltaComposesSpec : ChangeSpec := { name := "deltaComposes", fn := fun _ => fun
  | [d1, d2, d3] => { results := [.lit (.bool true)], args := [d1, d2, d3] }
  | _ => none }
def deltaComposesRow : OpenClaim := { program := "ytcamhcnjomddbaa", sum := "de0bc8b5f45f93e93d8b4b08a159f953433d14d095baaa400a4417c7bd17dc44", func := "wireloom/wireloomlaw49.DeltaComposes", spec := "deltaComposes", unfollowed := true, recurses := true, plainKeys := false, apart := false }
def DeltaComposesSaid : Prop := deltaComposesRow.holds Try.pinned (OpenSpec.ofChange deltaComposesSpec)

/-- ITS FALSE NEIGHBOUR: 'it returns false'. Refute it at one input. -/
def deltaComposesWrong : ChangeSpec := { name := "deltaComposes", fn := fun _ => fun
  | [d1, d2, d3] => { results := [.lit (.bool false)], args := [d1, d2, d3] }
  | _ => none }
def DeltaComposesWrongFalsely : Prop := deltaComposesRow.holds Try.pinned (OpenSpec.ofChange deltaComposesWrong)

/-- 'wireloomlaw49.DeltaLocal': WHATEVER THE INPUT: true; the input reads as it did. -/
def deltaLocalSpec : ChangeSpec := { name := "deltaLocal", fn := fun _ => fun
  | [d1, d2, d3] => { results := [.lit (.bool true)], args := [d1, d2, d3] }
  | _ => none }
def deltaLocalRow : OpenClaim := { program := "ytcamhcnjomddbaa", sum := "de0bc8b5f45f93e93d8b4b08a159f953433d14d095baaa400a4417c7bd17dc44", func := "wireloom/wireloomlaw49.DeltaLocal", spec := "deltaLocal", unfollowed := true, recurses := true, plainKeys := false, apart := false }
def DeltaLocalSaid : Prop := deltaLocalRow.holds Try.pinned (OpenSpec.ofChange deltaLocalSpec)

/-- ITS FALSE NEIGHBOUR: 'it returns false'. Refute it at one input. -/
def deltaLocalWrong : ChangeSpec := { name := "deltaLocal", fn := fun _ => fun
  | [d1, d2, d3] => { results := [.lit (.bool false)], args := [d1, d2, d3] }
  | _ => none }
def DeltaLocalWrongFalsely : Prop := deltaLocalRow.holds Try.pinned (OpenSpec.ofChange deltaLocalWrong)

/-- 'wireloomlaw49.DeltaParts': WHATEVER THE INPUT: true; the input reads as it did. -/
def deltaPartsSpec : ChangeSpec := { name := "deltaParts", fn := fun _ => fun
  | [d1, d2, d3] => { results := [.lit (.bool true)], args := [d1, d2, d3] }
  | _ => none }
def deltaPartsRow : OpenClaim := { program := "ytcamhcnjomddbaa", sum := "de0bc8b5f45f93e93d8b4b08a159f953433d14d095baaa400a4417c7bd17dc44", func := "wireloom/wireloomlaw49.DeltaParts", spec := "deltaParts", unfollowed := true, recurses := true, plainKeys := false, apart := false }
def DeltaPartsSaid : Prop := deltaPartsRow.holds Try.pinned (OpenSpec.ofChange deltaPartsSpec)

/-- ITS FALSE NEIGHBOUR: 'it returns false'. Refute it at one input. -/
def deltaPartsWrong : ChangeSpec := { name := "deltaParts", fn := fun _ => fun
  | [d1, d2, d3] => { results := [.lit (.bool false)], args := [d1, d2, d3] }
  | _ => none }
def DeltaPartsWrongFalsely : Prop := deltaPartsRow.holds Try.pinned (OpenSpec.ofChange deltaPartsWrong)

/-- 'wireloomlaw49.DeltaReports': WHATEVER THE INPUT: true; the input reads as it did. -/
def deltaReportsSpec : ChangeSpec := { name := "deltaReports", fn := fun _ => fun
  | [d1, d2] => { results := [.lit (.bool true)], args := [d1, d2] }
  | _ => none }
def deltaReportsRow : OpenClaim := { program := "ytcamhcnjomddbaa", sum := "de0bc8b5f45f93e93d8b4b08a159f953433d14d095baaa400a4417c7bd17dc44", func := "wireloom/wireloomlaw49.DeltaReports", spec := "deltaReports", unfollowed := true, recurses := true, plainKeys := false, apart := false }
def DeltaReportsSaid : Prop := deltaReportsRow.holds Try.pinned (OpenSpec.ofChange deltaReportsSpec)

/-- ITS FALSE NEIGHBOUR: 'it returns false'. Refute it at one input. -/
def deltaReportsWrong : ChangeSpec := { name := "deltaReports", fn := fun _ => fun
  | [d1, d2] => { results := [.lit (.bool false)], args := [d1, d2] }
  | _ => none }
def DeltaReportsWrongFalsely : Prop := deltaReportsRow.holds Try.pinned (OpenSpec.ofChange deltaReportsWrong)

/-- 'wireloomlaw49.DeltaRefuses': WHATEVER THE INPUT: true; the input reads as it did. -/
def deltaRefusesSpec : ChangeSpec := { name := "deltaRefuses", fn := fun _ => fun
  | [d1, d2, d3] => { results := [.lit (.bool true)], args := [d1, d2, d3] }
  | _ => none }
def deltaRefusesRow : OpenClaim := { program := "ytcamhcnjomddbaa", sum := "de0bc8b5f45f93e93d8b4b08a159f953433d14d095baaa400a4417c7bd17dc44", func := "wireloom/wireloomlaw49.DeltaRefuses", spec := "deltaRefuses", unfollowed := true, recurses := true, plainKeys := false, apart := false }
def DeltaRefusesSaid : Prop := deltaRefusesRow.holds Try.pinned (OpenSpec.ofChange deltaRefusesSpec)

/-- ITS FALSE NEIGHBOUR: 'it returns false'. Refute it at one input. -/
def deltaRefusesWrong : ChangeSpec := { name := "deltaRefuses", fn := fun _ => fun
  | [d1, d2, d3] => { results := [.lit (.bool false)], args := [d1, d2, d3] }
  | _ => none }
def DeltaRefusesWrongFalsely : Prop := deltaRefusesRow.holds Try.pinned (OpenSpec.ofChange deltaRefusesWrong)

/- THE SECOND FORM. 'bulk': how many values and letters a reading holds, each counted each time it is reached (what is shared counts as often as it is met; a slice's spare places count too). A statement '..UptoSaid' is the law's where the arguments, and the package variables that the reading takes, are together of bulk at most 1048576: NARROWER than '..Said'. Prove '..Said' where nothing that the law and all that it calls make is longer than what came in: it says more and counts as full. Else prove '..UptoSaid'. A law counts once. -/
mutual
def uptoBulk {H : Type} : DataW H → Nat
  | .lit (.string bytes) => bytes.length + 1
  | .lit _ => 1
  | .nil => 1
  | .ptr d => uptoBulk d + 1
  | .slice elems spare => uptoBulkAll elems + uptoBulkAll spare + 1
  | .agg parts => uptoBulkAll parts + 1
  | .iface _ d => uptoBulk d + 1
  | .map entries => uptoBulkEntries entries + 1
  | .held _ => 1
def uptoBulkAll {H : Type} : List (DataW H) → Nat
  | [] => 0
  | d :: r => uptoBulk d + uptoBulkAll r
def uptoBulkEntries {H : Type} : List (Lit × DataW H) → Nat
  | [] => 0
  | x :: r => uptoBulkEntry x + uptoBulkEntries r
def uptoBulkEntry {H : Type} : Lit × DataW H → Nat
  | (.string bytes, d) => bytes.length + uptoBulk d + 1
  | (_, d) => uptoBulk d + 1
 end
def uptoSmall : (H : Type) → List (DataW H) → Bool := fun _ ds => decide (uptoBulkAll ds ≤ 1048576)
def OpenSpec.upto (s : _root_.Go.ChangeSpec) : _root_.Go.OpenSpec := { _root_.Go.OpenSpec.ofChange s with cond := some uptoSmall }

/-- 'wireloomlaw49.DeltaMatchesReference', WHERE WHAT IT READS IS OF BULK AT MOST 1048576: true; the input reads as it did. -/
def deltaMatchesReferenceUptoRow : OpenClaim := { program := "ytcamhcnjomddbaa", sum := "de0bc8b5f45f93e93d8b4b08a159f953433d14d095baaa400a4417c7bd17dc44", func := "wireloom/wireloomlaw49.DeltaMatchesReference", spec := "deltaMatchesReference", unfollowed := true, recurses := true, plainKeys := false, apart := false, narrowed := true }
def DeltaMatchesReferenceUptoSaid : Prop := deltaMatchesReferenceUptoRow.holds Try.pinned (OpenSpec.upto deltaMatchesReferenceSpec)

/-- 'wireloomlaw49.DeltaLeads', WHERE WHAT IT READS IS OF BULK AT MOST 1048576: true; the input reads as it did. -/
def deltaLeadsUptoRow : OpenClaim := { program := "ytcamhcnjomddbaa", sum := "de0bc8b5f45f93e93d8b4b08a159f953433d14d095baaa400a4417c7bd17dc44", func := "wireloom/wireloomlaw49.DeltaLeads", spec := "deltaLeads", unfollowed := true, recurses := true, plainKeys := false, apart := false, narrowed := true }
def DeltaLeadsUptoSaid : Prop := deltaLeadsUptoRow.holds Try.pinned (OpenSpec.upto deltaLeadsSpec)

/-- 'wireloomlaw49.DeltaInverts', WHERE WHAT IT READS IS OF BULK AT MOST 1048576: true; the input reads as it did. -/
def deltaInvertsUptoRow : OpenClaim := { program := "ytcamhcnjomddbaa", sum := "de0bc8b5f45f93e93d8b4b08a159f953433d14d095baaa400a4417c7bd17dc44", func := "wireloom/wireloomlaw49.DeltaInverts", spec := "deltaInverts", unfollowed := true, recurses := true, plainKeys := false, apart := false, narrowed := true }
def DeltaInvertsUptoSaid : Prop := deltaInvertsUptoRow.holds Try.pinned (OpenSpec.upto deltaInvertsSpec)

/-- 'wireloomlaw49.DeltaComposes', WHERE WHAT IT READS IS OF BULK AT MOST 1048576: true; the input reads as it did. -/
def deltaComposesUptoRow : OpenClaim := { program := "ytcamhcnjomddbaa", sum := "de0bc8b5f45f93e93d8b4b08a159f953433d14d095baaa400a4417c7bd17dc44", func := "wireloom/wireloomlaw49.DeltaComposes", spec := "deltaComposes", unfollowed := true, recurses := true, plainKeys := false, apart := false, narrowed := true }
def DeltaComposesUptoSaid : Prop := deltaComposesUptoRow.holds Try.pinned (OpenSpec.upto deltaComposesSpec)

/-- 'wireloomlaw49.DeltaLocal', WHERE WHAT IT READS IS OF BULK AT MOST 1048576: true; the input reads as it did. -/
def deltaLocalUptoRow : OpenClaim := { program := "ytcamhcnjomddbaa", sum := "de0bc8b5f45f93e93d8b4b08a159f953433d14d095baaa400a4417c7bd17dc44", func := "wireloom/wireloomlaw49.DeltaLocal", spec := "deltaLocal", unfollowed := true, recurses := true, plainKeys := false, apart := false, narrowed := true }
def DeltaLocalUptoSaid : Prop := deltaLocalUptoRow.holds Try.pinned (OpenSpec.upto deltaLocalSpec)

/-- 'wireloomlaw49.DeltaParts', WHERE WHAT IT READS IS OF BULK AT MOST 1048576: true; the input reads as it did. -/
def deltaPartsUptoRow : OpenClaim := { program := "ytcamhcnjomddbaa", sum := "de0bc8b5f45f93e93d8b4b08a159f953433d14d095baaa400a4417c7bd17dc44", func := "wireloom/wireloomlaw49.DeltaParts", spec := "deltaParts", unfollowed := true, recurses := true, plainKeys := false, apart := false, narrowed := true }
def DeltaPartsUptoSaid : Prop := deltaPartsUptoRow.holds Try.pinned (OpenSpec.upto deltaPartsSpec)

/-- 'wireloomlaw49.DeltaReports', WHERE WHAT IT READS IS OF BULK AT MOST 1048576: true; the input reads as it did. -/
def deltaReportsUptoRow : OpenClaim := { program := "ytcamhcnjomddbaa", sum := "de0bc8b5f45f93e93d8b4b08a159f953433d14d095baaa400a4417c7bd17dc44", func := "wireloom/wireloomlaw49.DeltaReports", spec := "deltaReports", unfollowed := true, recurses := true, plainKeys := false, apart := false, narrowed := true }
def DeltaReportsUptoSaid : Prop := deltaReportsUptoRow.holds Try.pinned (OpenSpec.upto deltaReportsSpec)

/-- 'wireloomlaw49.DeltaRefuses', WHERE WHAT IT READS IS OF BULK AT MOST 1048576: true; the input reads as it did. -/
def deltaRefusesUptoRow : OpenClaim := { program := "ytcamhcnjomddbaa", sum := "de0bc8b5f45f93e93d8b4b08a159f953433d14d095baaa400a4417c7bd17dc44", func := "wireloom/wireloomlaw49.DeltaRefuses", spec := "deltaRefuses", unfollowed := true, recurses := true, plainKeys := false, apart := false, narrowed := true }
def DeltaRefusesUptoSaid : Prop := deltaRefusesUptoRow.holds Try.pinned (OpenSpec.upto deltaRefusesSpec)

end Rows
end Go.Proofs.Ytcamhcnjomddbaa
