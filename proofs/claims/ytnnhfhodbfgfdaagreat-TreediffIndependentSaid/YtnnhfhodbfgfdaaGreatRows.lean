/-
  NARROWER THAN 'FOR EVERY INPUT', by the rows' own cells (each row's printed sentence says how): TreediffMatchesReference: loops.
  DERIVED. THE GIVEN ROWS OF THIS SEAT. 7 by the template 'for every input the law returns true; each argument reads behind the call as it read before'; 0 by the template 'total and deterministic' (their statements: YtnnhfhodbfgfdaaGreatTotals.lean).
  GIVEN WITH THE SEED: the statements are not yours to turn. If you find one false, say at which input.
  Laid BY PROGRAM, IN A SANDBOX (cutbox-rows.mjs): the forced cells as the released guide's own fill.sh prints them over the translation 9bddf6d19da1e23f… (all of the seat's roots in one cut). By AI agents, Wed Nov 11 2026. No macro, syntax, notation, axiom, sorry.
-/
import Derived.Test.YtnnhfhodbfgfdaaGreatChecked
import GoSem.Claim
import GoSem.ClaimJoined
import GoSem.ClaimMapViews
import Derived.JoinedTies
import Derived.KernelRfl
namespace Go.Proofs.YtnnhfhodbfgfdaaGreat
/- THE CELL 'sum', in the pinned program and in every row, IS THE sha256 OF THE DUMP (.gsa) THAT YtnnhfhodbfgfdaaGreatProg.lean LOADS. Nothing in Lean hashes anything: it is a label: what it is worth is what the hold of that sum in a sandbox is worth. -/
noncomputable def Tryz.pinned : Pinned := { name := "ytnnhfhodbfgfdaagreat", sum := "9bddf6d19da1e23fe2bf8f7ce558714d66ac2d8ccbf35a7f1801e6afef053285", checked := Tryz.checked }
namespace Rows
def none {H : Type} : Left H := { results := [], args := [] }

/-- 'wireloomlaw16.TreediffMatchesReference': WHATEVER THE INPUT: true; the input reads as it did. -/
def treediffMatchesReferenceSpec : ChangeSpec := { name := "treediffMatchesReference", fn := fun _ => fun
  | [d1, d2, d3] => { results := [.lit (.bool true)], args := [d1, d2, d3] }
  | _ => none }
def treediffMatchesReferenceRow : OpenClaim := { program := "ytnnhfhodbfgfdaagreat", sum := "9bddf6d19da1e23fe2bf8f7ce558714d66ac2d8ccbf35a7f1801e6afef053285", func := "wireloom/wireloomlaw16.TreediffMatchesReference", spec := "treediffMatchesReference", inPlace := ["slices.overlaps[wireloom/api.Item]", "slices.overlaps[wireloom/api.Module]"], unfollowed := true, recurses := true, loops := true, plainKeys := false, apart := false }
def TreediffMatchesReferenceSaid : Prop := treediffMatchesReferenceRow.holds Tryz.pinned (OpenSpec.ofChange treediffMatchesReferenceSpec)

/-- ITS FALSE NEIGHBOUR: 'it returns false'. Refute it at one input. -/
def treediffMatchesReferenceWrong : ChangeSpec := { name := "treediffMatchesReference", fn := fun _ => fun
  | [d1, d2, d3] => { results := [.lit (.bool false)], args := [d1, d2, d3] }
  | _ => none }
def TreediffMatchesReferenceWrongFalsely : Prop := treediffMatchesReferenceRow.holds Tryz.pinned (OpenSpec.ofChange treediffMatchesReferenceWrong)

/-- 'wireloomlaw16.TreediffLeads': WHATEVER THE INPUT: true; the input reads as it did. -/
def treediffLeadsSpec : ChangeSpec := { name := "treediffLeads", fn := fun _ => fun
  | [d] => { results := [.lit (.bool true)], args := [d] }
  | _ => none }
def treediffLeadsRow : OpenClaim := { program := "ytnnhfhodbfgfdaagreat", sum := "9bddf6d19da1e23fe2bf8f7ce558714d66ac2d8ccbf35a7f1801e6afef053285", func := "wireloom/wireloomlaw16.TreediffLeads", spec := "treediffLeads", inPlace := ["slices.overlaps[wireloom/api.Item]", "slices.overlaps[wireloom/api.Module]"], unfollowed := true, recurses := true, plainKeys := false, apart := false }
def TreediffLeadsSaid : Prop := treediffLeadsRow.holds Tryz.pinned (OpenSpec.ofChange treediffLeadsSpec)

/-- ITS FALSE NEIGHBOUR: 'it returns false'. Refute it at one input. -/
def treediffLeadsWrong : ChangeSpec := { name := "treediffLeads", fn := fun _ => fun
  | [d] => { results := [.lit (.bool false)], args := [d] }
  | _ => none }
def TreediffLeadsWrongFalsely : Prop := treediffLeadsRow.holds Tryz.pinned (OpenSpec.ofChange treediffLeadsWrong)

/-- 'wireloomlaw16.TreediffInverts': WHATEVER THE INPUT: true; the input reads as it did. -/
def treediffInvertsSpec : ChangeSpec := { name := "treediffInverts", fn := fun _ => fun
  | [d] => { results := [.lit (.bool true)], args := [d] }
  | _ => none }
def treediffInvertsRow : OpenClaim := { program := "ytnnhfhodbfgfdaagreat", sum := "9bddf6d19da1e23fe2bf8f7ce558714d66ac2d8ccbf35a7f1801e6afef053285", func := "wireloom/wireloomlaw16.TreediffInverts", spec := "treediffInverts", inPlace := ["slices.overlaps[wireloom/api.Item]", "slices.overlaps[wireloom/api.Module]"], unfollowed := true, recurses := true, plainKeys := false, apart := false }
def TreediffInvertsSaid : Prop := treediffInvertsRow.holds Tryz.pinned (OpenSpec.ofChange treediffInvertsSpec)

/-- ITS FALSE NEIGHBOUR: 'it returns false'. Refute it at one input. -/
def treediffInvertsWrong : ChangeSpec := { name := "treediffInverts", fn := fun _ => fun
  | [d] => { results := [.lit (.bool false)], args := [d] }
  | _ => none }
def TreediffInvertsWrongFalsely : Prop := treediffInvertsRow.holds Tryz.pinned (OpenSpec.ofChange treediffInvertsWrong)

/-- 'wireloomlaw16.TreediffIndependent': WHATEVER THE INPUT: true; the input reads as it did. -/
def treediffIndependentSpec : ChangeSpec := { name := "treediffIndependent", fn := fun _ => fun
  | [d1, d2] => { results := [.lit (.bool true)], args := [d1, d2] }
  | _ => none }
def treediffIndependentRow : OpenClaim := { program := "ytnnhfhodbfgfdaagreat", sum := "9bddf6d19da1e23fe2bf8f7ce558714d66ac2d8ccbf35a7f1801e6afef053285", func := "wireloom/wireloomlaw16.TreediffIndependent", spec := "treediffIndependent", inPlace := ["slices.overlaps[wireloom/api.Item]", "slices.overlaps[wireloom/api.Module]"], unfollowed := true, recurses := true, plainKeys := false, apart := false }
def TreediffIndependentSaid : Prop := treediffIndependentRow.holds Tryz.pinned (OpenSpec.ofChange treediffIndependentSpec)

/-- ITS FALSE NEIGHBOUR: 'it returns false'. Refute it at one input. -/
def treediffIndependentWrong : ChangeSpec := { name := "treediffIndependent", fn := fun _ => fun
  | [d1, d2] => { results := [.lit (.bool false)], args := [d1, d2] }
  | _ => none }
def TreediffIndependentWrongFalsely : Prop := treediffIndependentRow.holds Tryz.pinned (OpenSpec.ofChange treediffIndependentWrong)

/-- 'wireloomlaw16.TreediffComposes': WHATEVER THE INPUT: true; the input reads as it did. -/
def treediffComposesSpec : ChangeSpec := { name := "treediffComposes", fn := fun _ => fun
  | [d1, d2] => { results := [.lit (.bool true)], args := [d1, d2] }
  | _ => none }
def treediffComposesRow : OpenClaim := { program := "ytnnhfhodbfgfdaagreat", sum := "9bddf6d19da1e23fe2bf8f7ce558714d66ac2d8ccbf35a7f1801e6afef053285", func := "wireloom/wireloomlaw16.TreediffComposes", spec := "treediffComposes", inPlace := ["slices.overlaps[wireloom/api.Item]", "slices.overlaps[wireloom/api.Module]"], unfollowed := true, recurses := true, plainKeys := false, apart := false }
def TreediffComposesSaid : Prop := treediffComposesRow.holds Tryz.pinned (OpenSpec.ofChange treediffComposesSpec)

/-- ITS FALSE NEIGHBOUR: 'it returns false'. Refute it at one input. -/
def treediffComposesWrong : ChangeSpec := { name := "treediffComposes", fn := fun _ => fun
  | [d1, d2] => { results := [.lit (.bool false)], args := [d1, d2] }
  | _ => none }
def TreediffComposesWrongFalsely : Prop := treediffComposesRow.holds Tryz.pinned (OpenSpec.ofChange treediffComposesWrong)

/-- 'wireloomlaw16.TreediffRefuses': WHATEVER THE INPUT: true; the input reads as it did. -/
def treediffRefusesSpec : ChangeSpec := { name := "treediffRefuses", fn := fun _ => fun
  | [d1, d2] => { results := [.lit (.bool true)], args := [d1, d2] }
  | _ => none }
def treediffRefusesRow : OpenClaim := { program := "ytnnhfhodbfgfdaagreat", sum := "9bddf6d19da1e23fe2bf8f7ce558714d66ac2d8ccbf35a7f1801e6afef053285", func := "wireloom/wireloomlaw16.TreediffRefuses", spec := "treediffRefuses", inPlace := ["slices.overlaps[wireloom/api.Item]", "slices.overlaps[wireloom/api.Module]"], unfollowed := true, recurses := true, plainKeys := false, apart := false }
def TreediffRefusesSaid : Prop := treediffRefusesRow.holds Tryz.pinned (OpenSpec.ofChange treediffRefusesSpec)

/-- ITS FALSE NEIGHBOUR: 'it returns false'. Refute it at one input. -/
def treediffRefusesWrong : ChangeSpec := { name := "treediffRefuses", fn := fun _ => fun
  | [d1, d2] => { results := [.lit (.bool false)], args := [d1, d2] }
  | _ => none }
def TreediffRefusesWrongFalsely : Prop := treediffRefusesRow.holds Tryz.pinned (OpenSpec.ofChange treediffRefusesWrong)

/-- 'wireloomlaw16.TreediffNormal': WHATEVER THE INPUT: true; the input reads as it did. -/
def treediffNormalSpec : ChangeSpec := { name := "treediffNormal", fn := fun _ => fun
  | [d1, d2] => { results := [.lit (.bool true)], args := [d1, d2] }
  | _ => none }
def treediffNormalRow : OpenClaim := { program := "ytnnhfhodbfgfdaagreat", sum := "9bddf6d19da1e23fe2bf8f7ce558714d66ac2d8ccbf35a7f1801e6afef053285", func := "wireloom/wireloomlaw16.TreediffNormal", spec := "treediffNormal", inPlace := ["slices.overlaps[wireloom/api.Item]", "slices.overlaps[wireloom/api.Module]"], unfollowed := true, recurses := true, plainKeys := false, apart := false }
def TreediffNormalSaid : Prop := treediffNormalRow.holds Tryz.pinned (OpenSpec.ofChange treediffNormalSpec)

/-- ITS FALSE NEIGHBOUR: 'it returns false'. Refute it at one input. -/
def treediffNormalWrong : ChangeSpec := { name := "treediffNormal", fn := fun _ => fun
  | [d1, d2] => { results := [.lit (.bool false)], args := [d1, d2] }
  | _ => none }
def TreediffNormalWrongFalsely : Prop := treediffNormalRow.holds Tryz.pinned (OpenSpec.ofChange treediffNormalWrong)

/- THE SECOND FORM. 'bulk': how many values and letters a reading holds, each counted each time it is reached (what is shared counts as often as it is met; a slice's spare places count too). A statement '..UptoSaid' is the law's where the arguments, and the package variables that the reading takes, are together of bulk at most 1048576: NARROWER than '..Said'. Prove '..Said' where nothing that the law and all that it calls make is longer than what came in: it says more and counts as full. Else prove '..UptoSaid'. A law counts once. -/
mutual
def uptoBulk {H : Type} : DataW H → Nat
  | .lit (.string bytes) => bytes.length + 1
  | .lit _ => 1
  | .nil => 1
  | .ptr d => uptoBulk d + 1
  | .slice elems spare => uptoBulkAll elems + uptoBulkAll spare + 1
  | .agg parts => uptoBulkAll parts + 1
  | .iface _ d => uptoBulk d + 1
  | .map entries => uptoBulkEntries entries + 1
  | .held _ => 1
def uptoBulkAll {H : Type} : List (DataW H) → Nat
  | [] => 0
  | d :: r => uptoBulk d + uptoBulkAll r
def uptoBulkEntries {H : Type} : List (Lit × DataW H) → Nat
  | [] => 0
  | x :: r => uptoBulkEntry x + uptoBulkEntries r
def uptoBulkEntry {H : Type} : Lit × DataW H → Nat
  | (.string bytes, d) => bytes.length + uptoBulk d + 1
  | (_, d) => uptoBulk d + 1
 end
def uptoSmall : (H : Type) → List (DataW H) → Bool := fun _ ds => decide (uptoBulkAll ds ≤ 1048576)
def OpenSpec.upto (s : _root_.Go.ChangeSpec) : _root_.Go.OpenSpec := { _root_.Go.OpenSpec.ofChange s with cond := some uptoSmall }

/-- 'wireloomlaw16.TreediffMatchesReference', WHERE WHAT IT READS IS OF BULK AT MOST 1048576: true; the input reads as it did. -/
def treediffMatchesReferenceUptoRow : OpenClaim := { program := "ytnnhfhodbfgfdaagreat", sum := "9bddf6d19da1e23fe2bf8f7ce558714d66ac2d8ccbf35a7f1801e6afef053285", func := "wireloom/wireloomlaw16.TreediffMatchesReference", spec := "treediffMatchesReference", inPlace := ["slices.overlaps[wireloom/api.Item]", "slices.overlaps[wireloom/api.Module]"], unfollowed := true, recurses := true, loops := true, plainKeys := false, apart := false, narrowed := true }
def TreediffMatchesReferenceUptoSaid : Prop := treediffMatchesReferenceUptoRow.holds Tryz.pinned (OpenSpec.upto treediffMatchesReferenceSpec)

/-- 'wireloomlaw16.TreediffLeads', WHERE WHAT IT READS IS OF BULK AT MOST 1048576: true; the input reads as it did. -/
def treediffLeadsUptoRow : OpenClaim := { program := "ytnnhfhodbfgfdaagreat", sum := "9bddf6d19da1e23fe2bf8f7ce558714d66ac2d8ccbf35a7f1801e6afef053285", func := "wireloom/wireloomlaw16.TreediffLeads", spec := "treediffLeads", inPlace := ["slices.overlaps[wireloom/api.Item]", "slices.overlaps[wireloom/api.Module]"], unfollowed := true, recurses := true, plainKeys := false, apart := false, narrowed := true }
def TreediffLeadsUptoSaid : Prop := treediffLeadsUptoRow.holds Tryz.pinned (OpenSpec.upto treediffLeadsSpec)

/-- 'wireloomlaw16.TreediffInverts', WHERE WHAT IT READS IS OF BULK AT MOST 1048576: true; the input reads as it did. -/
def treediffInvertsUptoRow : OpenClaim := { program := "ytnnhfhodbfgfdaagreat", sum := "9bddf6d19da1e23fe2bf8f7ce558714d66ac2d8ccbf35a7f1801e6afef053285", func := "wireloom/wireloomlaw16.TreediffInverts", spec := "treediffInverts", inPlace := ["slices.overlaps[wireloom/api.Item]", "slices.overlaps[wireloom/api.Module]"], unfollowed := true, recurses := true, plainKeys := false, apart := false, narrowed := true }
def TreediffInvertsUptoSaid : Prop := treediffInvertsUptoRow.holds Tryz.pinned (OpenSpec.upto treediffInvertsSpec)

/-- 'wireloomlaw16.TreediffIndependent', WHERE WHAT IT READS IS OF BULK AT MOST 1048576: true; the input reads as it did. -/
def treediffIndependentUptoRow : OpenClaim := { program := "ytnnhfhodbfgfdaagreat", sum := "9bddf6d19da1e23fe2bf8f7ce558714d66ac2d8ccbf35a7f1801e6afef053285", func := "wireloom/wireloomlaw16.TreediffIndependent", spec := "treediffIndependent", inPlace := ["slices.overlaps[wireloom/api.Item]", "slices.overlaps[wireloom/api.Module]"], unfollowed := true, recurses := true, plainKeys := false, apart := false, narrowed := true }
def TreediffIndependentUptoSaid : Prop := treediffIndependentUptoRow.holds Tryz.pinned (OpenSpec.upto treediffIndependentSpec)

/-- 'wireloomlaw16.TreediffComposes', WHERE WHAT IT READS IS OF BULK AT MOST 1048576: true; the input reads as it did. -/
def treediffComposesUptoRow : OpenClaim := { program := "ytnnhfhodbfgfdaagreat", sum := "9bddf6d19da1e23fe2bf8f7ce558714d66ac2d8ccbf35a7f1801e6afef053285", func := "wireloom/wireloomlaw16.TreediffComposes", spec := "treediffComposes", inPlace := ["slices.overlaps[wireloom/api.Item]", "slices.overlaps[wireloom/api.Module]"], unfollowed := true, recurses := true, plainKeys := false, apart := false, narrowed := true }
def TreediffComposesUptoSaid : Prop := treediffComposesUptoRow.holds Tryz.pinned (OpenSpec.upto treediffComposesSpec)

/-- 'wireloomlaw16.TreediffRefuses', WHERE WHAT IT READS IS OF BULK AT MOST 1048576: true; the input reads as it did. -/
def treediffRefusesUptoRow : OpenClaim := { program := "ytnnhfhodbfgfdaagreat", sum := "9bddf6d19da1e23fe2bf8f7ce558714d66ac2d8ccbf35a7f1801e6afef053285", func := "wireloom/wireloomlaw16.TreediffRefuses", spec := "treediffRefuses", inPlace := ["slices.overlaps[wireloom/api.Item]", "slices.overlaps[wireloom/api.Module]"], unfollowed := true, recurses := true, plainKeys := false, apart := false, narrowed := true }
def TreediffRefusesUptoSaid : Prop := treediffRefusesUptoRow.holds Tryz.pinned (OpenSpec.upto treediffRefusesSpec)

/-- 'wireloomlaw16.TreediffNormal', WHERE WHAT IT READS IS OF BULK AT MOST 1048576: true; the input reads as it did. -/
def treediffNormalUptoRow : OpenClaim := { program := "ytnnhfhodbfgfdaagreat", sum := "9bddf6d19da1e23fe2bf8f7ce558714d66ac2d8ccbf35a7f1801e6afef053285", func := "wireloom/wireloomlaw16.TreediffNormal", spec := "treediffNormal", inPlace := ["slices.overlaps[wireloom/api.Item]", "slices.overlaps[wireloom/api.Module]"], unfollowed := true, recurses := true, plainKeys := false, apart := false, narrowed := true }
def TreediffNormalUptoSaid : Prop := treediffNormalUptoRow.holds Tryz.pinned (OpenSpec.upto treediffNormalSpec)

end Rows
end Go.Proofs.YtnnhfhodbfgfdaaGreat
