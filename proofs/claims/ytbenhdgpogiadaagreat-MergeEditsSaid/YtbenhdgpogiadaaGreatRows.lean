/-
  NARROWER THAN 'FOR EVERY INPUT', by the rows' own cells (each row's printed sentence says how): TreediffMatchesReference: loops.
  DERIVED. THE GIVEN ROWS OF THIS SEAT. 11 by the template 'for every input the law returns true; each argument reads behind the call as it read before'; 0 by the template 'total and deterministic' (their statements: YtbenhdgpogiadaaGreatTotals.lean).
  GIVEN WITH THE SEED: the statements are not yours to turn. If you find one false, say at which input.
  Laid BY PROGRAM, IN A SANDBOX (cutbox-rows.mjs): the forced cells as the released guide's own fill.sh prints them over the translation f4b304d083204a69… (all of the seat's roots in one cut). By AI agents, Wed Nov 11 2026. No macro, syntax, notation, axiom, sorry.
-/
import Derived.Test.YtbenhdgpogiadaaGreatChecked
import GoSem.Claim
import GoSem.ClaimJoined
import GoSem.ClaimMapViews
import Derived.JoinedTies
import Derived.KernelRfl
namespace Go.Proofs.YtbenhdgpogiadaaGreat
/- THE CELL 'sum', in the pinned program and in every row, IS THE sha256 OF THE DUMP (.gsa) THAT YtbenhdgpogiadaaGreatProg.lean LOADS. Nothing in Lean hashes anything: it is a label: what it is worth is what the hold of that sum in a sandbox is worth. -/
noncomputable def Tryz.pinned : Pinned := { name := "ytbenhdgpogiadaagreat", sum := "f4b304d083204a690c38c3c1568071976815176072332001bcaba0275023d69b", checked := Tryz.checked }
namespace Rows
def none {H : Type} : Left H := { results := [], args := [] }

/-- 'wireloomlaw16.TreediffMatchesReference': WHATEVER THE INPUT: true; the input reads as it did. -/
def treediffMatchesReferenceSpec : ChangeSpec := { name := "treediffMatchesReference", fn := fun _ => fun
  | [d1, d2, d3] => { results := [.lit (.bool true)], args := [d1, d2, d3] }
  | _ => none }
def treediffMatchesReferenceRow : OpenClaim := { program := "ytbenhdgpogiadaagreat", sum := "f4b304d083204a690c38c3c1568071976815176072332001bcaba0275023d69b", func := "wireloom/wireloomlaw16.TreediffMatchesReference", spec := "treediffMatchesReference", inPlace := ["slices.overlaps[wireloom/api.Item]", "slices.overlaps[wireloom/api.Module]"], unfollowed := true, recurses := true, loops := true, plainKeys := false, apart := false }
def TreediffMatchesReferenceSaid : Prop := treediffMatchesReferenceRow.holds Tryz.pinned (OpenSpec.ofChange treediffMatchesReferenceSpec)

/-- ITS FALSE NEIGHBOUR: 'it returns false'. Refute it at one input. -/
def treediffMatchesReferenceWrong : ChangeSpec := { name := "treediffMatchesReference", fn := fun _ => fun
  | [d1, d2, d3] => { results := [.lit (.bool false)], args := [d1, d2, d3] }
  | _ => none }
def TreediffMatchesReferenceWrongFalsely : Prop := treediffMatchesReferenceRow.holds Tryz.pinned (OpenSpec.ofChange treediffMatchesReferenceWrong)

/-- 'wireloomlaw16.TreediffInverts': WHATEVER THE INPUT: true; the input reads as it did. -/
def treediffInvertsSpec : ChangeSpec := { name := "treediffInverts", fn := fun _ => fun
  | [d] => { results := [.lit (.bool true)], args := [d] }
  | _ => none }
def treediffInvertsRow : OpenClaim := { program := "ytbenhdgpogiadaagreat", sum := "f4b304d083204a690c38c3c1568071976815176072332001bcaba0275023d69b", func := "wireloom/wireloomlaw16.TreediffInverts", spec := "treediffInverts", inPlace := ["slices.overlaps[wireloom/api.Item]", "slices.overlaps[wireloom/api.Module]"], unfollowed := true, recurses := true, plainKeys := false, apart := false }
def TreediffInvertsSaid : Prop := treediffInvertsRow.holds Tryz.pinned (OpenSpec.ofChange treediffInvertsSpec)

/-- ITS FALSE NEIGHBOUR: 'it returns false'. Refute it at one input. -/
def treediffInvertsWrong : ChangeSpec := { name := "treediffInverts", fn := fun _ => fun
  | [d] => { results := [.lit (.bool false)], args := [d] }
  | _ => none }
def TreediffInvertsWrongFalsely : Prop := treediffInvertsRow.holds Tryz.pinned (OpenSpec.ofChange treediffInvertsWrong)

/-- 'wireloomlaw16.TreediffRefuses': WHATEVER THE INPUT: true; the input reads as it did. -/
def treediffRefusesSpec : ChangeSpec := { name := "treediffRefuses", fn := fun _ => fun
  | [d1, d2] => { results := [.lit (.bool true)], args := [d1, d2] }
  | _ => none }
def treediffRefusesRow : OpenClaim := { program := "ytbenhdgpogiadaagreat", sum := "f4b304d083204a690c38c3c1568071976815176072332001bcaba0275023d69b", func := "wireloom/wireloomlaw16.TreediffRefuses", spec := "treediffRefuses", inPlace := ["slices.overlaps[wireloom/api.Item]", "slices.overlaps[wireloom/api.Module]"], unfollowed := true, recurses := true, plainKeys := false, apart := false }
def TreediffRefusesSaid : Prop := treediffRefusesRow.holds Tryz.pinned (OpenSpec.ofChange treediffRefusesSpec)

/-- ITS FALSE NEIGHBOUR: 'it returns false'. Refute it at one input. -/
def treediffRefusesWrong : ChangeSpec := { name := "treediffRefuses", fn := fun _ => fun
  | [d1, d2] => { results := [.lit (.bool false)], args := [d1, d2] }
  | _ => none }
def TreediffRefusesWrongFalsely : Prop := treediffRefusesRow.holds Tryz.pinned (OpenSpec.ofChange treediffRefusesWrong)

/-- 'wireloomlaw17.MergeMatchesReference': WHATEVER THE INPUT: true; the input reads as it did. -/
def mergeMatchesReferenceSpec : ChangeSpec := { name := "mergeMatchesReference", fn := fun _ => fun
  | [d1, d2, d3] => { results := [.lit (.bool true)], args := [d1, d2, d3] }
  | _ => none }
def mergeMatchesReferenceRow : OpenClaim := { program := "ytbenhdgpogiadaagreat", sum := "f4b304d083204a690c38c3c1568071976815176072332001bcaba0275023d69b", func := "wireloom/wireloomlaw17.MergeMatchesReference", spec := "mergeMatchesReference", unfollowed := true, recurses := true, plainKeys := false, apart := false }
def MergeMatchesReferenceSaid : Prop := mergeMatchesReferenceRow.holds Tryz.pinned (OpenSpec.ofChange mergeMatchesReferenceSpec)

/-- ITS FALSE NEIGHBOUR: 'it returns false'. Refute it at one input. -/
def mergeMatchesReferenceWrong : ChangeSpec := { name := "mergeMatchesReference", fn := fun _ => fun
  | [d1, d2, d3] => { results := [.lit (.bool false)], args := [d1, d2, d3] }
  | _ => none }
def MergeMatchesReferenceWrongFalsely : Prop := mergeMatchesReferenceRow.holds Tryz.pinned (OpenSpec.ofChange mergeMatchesReferenceWrong)

/-- 'wireloomlaw17.MergeSymmetric': WHATEVER THE INPUT: true; the input reads as it did. -/
def mergeSymmetricSpec : ChangeSpec := { name := "mergeSymmetric", fn := fun _ => fun
  | [d1, d2] => { results := [.lit (.bool true)], args := [d1, d2] }
  | _ => none }
def mergeSymmetricRow : OpenClaim := { program := "ytbenhdgpogiadaagreat", sum := "f4b304d083204a690c38c3c1568071976815176072332001bcaba0275023d69b", func := "wireloom/wireloomlaw17.MergeSymmetric", spec := "mergeSymmetric", unfollowed := true, recurses := true, plainKeys := false, apart := false }
def MergeSymmetricSaid : Prop := mergeSymmetricRow.holds Tryz.pinned (OpenSpec.ofChange mergeSymmetricSpec)

/-- ITS FALSE NEIGHBOUR: 'it returns false'. Refute it at one input. -/
def mergeSymmetricWrong : ChangeSpec := { name := "mergeSymmetric", fn := fun _ => fun
  | [d1, d2] => { results := [.lit (.bool false)], args := [d1, d2] }
  | _ => none }
def MergeSymmetricWrongFalsely : Prop := mergeSymmetricRow.holds Tryz.pinned (OpenSpec.ofChange mergeSymmetricWrong)

/-- 'wireloomlaw17.MergeProvenance': WHATEVER THE INPUT: true; the input reads as it did. -/
def mergeProvenanceSpec : ChangeSpec := { name := "mergeProvenance", fn := fun _ => fun
  | [d1, d2] => { results := [.lit (.bool true)], args := [d1, d2] }
  | _ => none }
def mergeProvenanceRow : OpenClaim := { program := "ytbenhdgpogiadaagreat", sum := "f4b304d083204a690c38c3c1568071976815176072332001bcaba0275023d69b", func := "wireloom/wireloomlaw17.MergeProvenance", spec := "mergeProvenance", unfollowed := true, recurses := true, plainKeys := false, apart := false }
def MergeProvenanceSaid : Prop := mergeProvenanceRow.holds Tryz.pinned (OpenSpec.ofChange mergeProvenanceSpec)

/-- ITS FALSE NEIGHBOUR: 'it returns false'. Refute it at one input. -/
def mergeProvenanceWrong : ChangeSpec := { name := "mergeProvenance", fn := fun _ => fun
  | [d1, d2] => { results := [.lit (.bool false)], args := [d1, d2] }
  | _ => none }
def MergeProvenanceWrongFalsely : Prop := mergeProvenanceRow.holds Tryz.pinned (OpenSpec.ofChange mergeProvenanceWrong)

/-- 'wireloomlaw17.MergeConflicts': WHATEVER THE INPUT: true; the input reads as it did. -/
def mergeConflictsSpec : ChangeSpec := { name := "mergeConflicts", fn := fun _ => fun
  | [d1, d2] => { results := [.lit (.bool true)], args := [d1, d2] }
  | _ => none }
def mergeConflictsRow : OpenClaim := { program := "ytbenhdgpogiadaagreat", sum := "f4b304d083204a690c38c3c1568071976815176072332001bcaba0275023d69b", func := "wireloom/wireloomlaw17.MergeConflicts", spec := "mergeConflicts", unfollowed := true, recurses := true, plainKeys := false, apart := false }
def MergeConflictsSaid : Prop := mergeConflictsRow.holds Tryz.pinned (OpenSpec.ofChange mergeConflictsSpec)

/-- ITS FALSE NEIGHBOUR: 'it returns false'. Refute it at one input. -/
def mergeConflictsWrong : ChangeSpec := { name := "mergeConflicts", fn := fun _ => fun
  | [d1, d2] => { results := [.lit (.bool false)], args := [d1, d2] }
  | _ => none }
def MergeConflictsWrongFalsely : Prop := mergeConflictsRow.holds Tryz.pinned (OpenSpec.ofChange mergeConflictsWrong)

/-- 'wireloomlaw17.MergeNeutral': WHATEVER THE INPUT: true; the input reads as it did. -/
def mergeNeutralSpec : ChangeSpec := { name := "mergeNeutral", fn := fun _ => fun
  | [d1, d2] => { results := [.lit (.bool true)], args := [d1, d2] }
  | _ => none }
def mergeNeutralRow : OpenClaim := { program := "ytbenhdgpogiadaagreat", sum := "f4b304d083204a690c38c3c1568071976815176072332001bcaba0275023d69b", func := "wireloom/wireloomlaw17.MergeNeutral", spec := "mergeNeutral", unfollowed := true, recurses := true, plainKeys := false, apart := false }
def MergeNeutralSaid : Prop := mergeNeutralRow.holds Tryz.pinned (OpenSpec.ofChange mergeNeutralSpec)

/-- ITS FALSE NEIGHBOUR: 'it returns false'. Refute it at one input. -/
def mergeNeutralWrong : ChangeSpec := { name := "mergeNeutral", fn := fun _ => fun
  | [d1, d2] => { results := [.lit (.bool false)], args := [d1, d2] }
  | _ => none }
def MergeNeutralWrongFalsely : Prop := mergeNeutralRow.holds Tryz.pinned (OpenSpec.ofChange mergeNeutralWrong)

/-- 'wireloomlaw17.MergeRepeats': WHATEVER THE INPUT: true; the input reads as it did. -/
def mergeRepeatsSpec : ChangeSpec := { name := "mergeRepeats", fn := fun _ => fun
  | [d1, d2] => { results := [.lit (.bool true)], args := [d1, d2] }
  | _ => none }
def mergeRepeatsRow : OpenClaim := { program := "ytbenhdgpogiadaagreat", sum := "f4b304d083204a690c38c3c1568071976815176072332001bcaba0275023d69b", func := "wireloom/wireloomlaw17.MergeRepeats", spec := "mergeRepeats", unfollowed := true, recurses := true, plainKeys := false, apart := false }
def MergeRepeatsSaid : Prop := mergeRepeatsRow.holds Tryz.pinned (OpenSpec.ofChange mergeRepeatsSpec)

/-- ITS FALSE NEIGHBOUR: 'it returns false'. Refute it at one input. -/
def mergeRepeatsWrong : ChangeSpec := { name := "mergeRepeats", fn := fun _ => fun
  | [d1, d2] => { results := [.lit (.bool false)], args := [d1, d2] }
  | _ => none }
def MergeRepeatsWrongFalsely : Prop := mergeRepeatsRow.holds Tryz.pinned (OpenSpec.ofChange mergeRepeatsWrong)

/-- 'wireloomlaw16.TreediffNormal': WHATEVER THE INPUT: true; the input reads as it did. -/
def treediffNormalSpec : ChangeSpec := { name := "treediffNormal", fn := fun _ => fun
  | [d1, d2] => { results := [.lit (.bool true)], args := [d1, d2] }
  | _ => none }
def treediffNormalRow : OpenClaim := { program := "ytbenhdgpogiadaagreat", sum := "f4b304d083204a690c38c3c1568071976815176072332001bcaba0275023d69b", func := "wireloom/wireloomlaw16.TreediffNormal", spec := "treediffNormal", inPlace := ["slices.overlaps[wireloom/api.Item]", "slices.overlaps[wireloom/api.Module]"], unfollowed := true, recurses := true, plainKeys := false, apart := false }
def TreediffNormalSaid : Prop := treediffNormalRow.holds Tryz.pinned (OpenSpec.ofChange treediffNormalSpec)

/-- ITS FALSE NEIGHBOUR: 'it returns false'. Refute it at one input. -/
def treediffNormalWrong : ChangeSpec := { name := "treediffNormal", fn := fun _ => fun
  | [d1, d2] => { results := [.lit (.bool false)], args := [d1, d2] }
  | _ => none }
def TreediffNormalWrongFalsely : Prop := treediffNormalRow.holds Tryz.pinned (OpenSpec.ofChange treediffNormalWrong)

/-- 'wireloomlaw17.MergeEdits': WHATEVER THE INPUT: true; the input reads as it did. -/
def mergeEditsSpec : ChangeSpec := { name := "mergeEdits", fn := fun _ => fun
  | [d1, d2] => { results := [.lit (.bool true)], args := [d1, d2] }
  | _ => none }
def mergeEditsRow : OpenClaim := { program := "ytbenhdgpogiadaagreat", sum := "f4b304d083204a690c38c3c1568071976815176072332001bcaba0275023d69b", func := "wireloom/wireloomlaw17.MergeEdits", spec := "mergeEdits", inPlace := ["slices.overlaps[wireloom/api.Item]", "slices.overlaps[wireloom/api.Module]"], unfollowed := true, recurses := true, plainKeys := false, apart := false }
def MergeEditsSaid : Prop := mergeEditsRow.holds Tryz.pinned (OpenSpec.ofChange mergeEditsSpec)

/-- ITS FALSE NEIGHBOUR: 'it returns false'. Refute it at one input. -/
def mergeEditsWrong : ChangeSpec := { name := "mergeEdits", fn := fun _ => fun
  | [d1, d2] => { results := [.lit (.bool false)], args := [d1, d2] }
  | _ => none }
def MergeEditsWrongFalsely : Prop := mergeEditsRow.holds Tryz.pinned (OpenSpec.ofChange mergeEditsWrong)

/- THE SECOND FORM. 'bulk': how many values and letters a reading holds, each counted each time it is reached (what is shared counts as often as it is met; a slice's spare places count too). A statement '..UptoSaid' is the law's where the arguments, and the package variables that the reading takes, are together of bulk at most 1048576: NARROWER than '..Said'. Prove '..Said' where nothing that the law and all that it calls make is longer than what came in: it says more and counts as full. Else prove '..UptoSaid'. A law counts once. -/
mutual
def uptoBulk {H : Type} : DataW H → Nat
  | .lit (.string bytes) => bytes.length + 1
  | .lit _ => 1
  | .nil => 1
  | .ptr d => uptoBulk d + 1
  | .slice elems spare => uptoBulkAll elems + uptoBulkAll spare + 1
  | .agg parts => uptoBulkAll parts + 1
  | .iface _ d => uptoBulk d + 1
  | .map entries => uptoBulkEntries entries + 1
  | .held _ => 1
def uptoBulkAll {H : Type} : List (DataW H) → Nat
  | [] => 0
  | d :: r => uptoBulk d + uptoBulkAll r
def uptoBulkEntries {H : Type} : List (Lit × DataW H) → Nat
  | [] => 0
  | x :: r => uptoBulkEntry x + uptoBulkEntries r
def uptoBulkEntry {H : Type} : Lit × DataW H → Nat
  | (.string bytes, d) => bytes.length + uptoBulk d + 1
  | (_, d) => uptoBulk d + 1
 end
def uptoSmall : (H : Type) → List (DataW H) → Bool := fun _ ds => decide (uptoBulkAll ds ≤ 1048576)
def OpenSpec.upto (s : _root_.Go.ChangeSpec) : _root_.Go.OpenSpec := { _root_.Go.OpenSpec.ofChange s with cond := some uptoSmall }

/-- 'wireloomlaw16.TreediffMatchesReference', WHERE WHAT IT READS IS OF BULK AT MOST 1048576: true; the input reads as it did. -/
def treediffMatchesReferenceUptoRow : OpenClaim := { program := "ytbenhdgpogiadaagreat", sum := "f4b304d083204a690c38c3c1568071976815176072332001bcaba0275023d69b", func := "wireloom/wireloomlaw16.TreediffMatchesReference", spec := "treediffMatchesReference", inPlace := ["slices.overlaps[wireloom/api.Item]", "slices.overlaps[wireloom/api.Module]"], unfollowed := true, recurses := true, loops := true, plainKeys := false, apart := false, narrowed := true }
def TreediffMatchesReferenceUptoSaid : Prop := treediffMatchesReferenceUptoRow.holds Tryz.pinned (OpenSpec.upto treediffMatchesReferenceSpec)

/-- 'wireloomlaw16.TreediffInverts', WHERE WHAT IT READS IS OF BULK AT MOST 1048576: true; the input reads as it did. -/
def treediffInvertsUptoRow : OpenClaim := { program := "ytbenhdgpogiadaagreat", sum := "f4b304d083204a690c38c3c1568071976815176072332001bcaba0275023d69b", func := "wireloom/wireloomlaw16.TreediffInverts", spec := "treediffInverts", inPlace := ["slices.overlaps[wireloom/api.Item]", "slices.overlaps[wireloom/api.Module]"], unfollowed := true, recurses := true, plainKeys := false, apart := false, narrowed := true }
def TreediffInvertsUptoSaid : Prop := treediffInvertsUptoRow.holds Tryz.pinned (OpenSpec.upto treediffInvertsSpec)

/-- 'wireloomlaw16.TreediffRefuses', WHERE WHAT IT READS IS OF BULK AT MOST 1048576: true; the input reads as it did. -/
def treediffRefusesUptoRow : OpenClaim := { program := "ytbenhdgpogiadaagreat", sum := "f4b304d083204a690c38c3c1568071976815176072332001bcaba0275023d69b", func := "wireloom/wireloomlaw16.TreediffRefuses", spec := "treediffRefuses", inPlace := ["slices.overlaps[wireloom/api.Item]", "slices.overlaps[wireloom/api.Module]"], unfollowed := true, recurses := true, plainKeys := false, apart := false, narrowed := true }
def TreediffRefusesUptoSaid : Prop := treediffRefusesUptoRow.holds Tryz.pinned (OpenSpec.upto treediffRefusesSpec)

/-- 'wireloomlaw17.MergeMatchesReference', WHERE WHAT IT READS IS OF BULK AT MOST 1048576: true; the input reads as it did. -/
def mergeMatchesReferenceUptoRow : OpenClaim := { program := "ytbenhdgpogiadaagreat", sum := "f4b304d083204a690c38c3c1568071976815176072332001bcaba0275023d69b", func := "wireloom/wireloomlaw17.MergeMatchesReference", spec := "mergeMatchesReference", unfollowed := true, recurses := true, plainKeys := false, apart := false, narrowed := true }
def MergeMatchesReferenceUptoSaid : Prop := mergeMatchesReferenceUptoRow.holds Tryz.pinned (OpenSpec.upto mergeMatchesReferenceSpec)

/-- 'wireloomlaw17.MergeSymmetric', WHERE WHAT IT READS IS OF BULK AT MOST 1048576: true; the input reads as it did. -/
def mergeSymmetricUptoRow : OpenClaim := { program := "ytbenhdgpogiadaagreat", sum := "f4b304d083204a690c38c3c1568071976815176072332001bcaba0275023d69b", func := "wireloom/wireloomlaw17.MergeSymmetric", spec := "mergeSymmetric", unfollowed := true, recurses := true, plainKeys := false, apart := false, narrowed := true }
def MergeSymmetricUptoSaid : Prop := mergeSymmetricUptoRow.holds Tryz.pinned (OpenSpec.upto mergeSymmetricSpec)

/-- 'wireloomlaw17.MergeProvenance', WHERE WHAT IT READS IS OF BULK AT MOST 1048576: true; the input reads as it did. -/
def mergeProvenanceUptoRow : OpenClaim := { program := "ytbenhdgpogiadaagreat", sum := "f4b304d083204a690c38c3c1568071976815176072332001bcaba0275023d69b", func := "wireloom/wireloomlaw17.MergeProvenance", spec := "mergeProvenance", unfollowed := true, recurses := true, plainKeys := false, apart := false, narrowed := true }
def MergeProvenanceUptoSaid : Prop := mergeProvenanceUptoRow.holds Tryz.pinned (OpenSpec.upto mergeProvenanceSpec)

/-- 'wireloomlaw17.MergeConflicts', WHERE WHAT IT READS IS OF BULK AT MOST 1048576: true; the input reads as it did. -/
def mergeConflictsUptoRow : OpenClaim := { program := "ytbenhdgpogiadaagreat", sum := "f4b304d083204a690c38c3c1568071976815176072332001bcaba0275023d69b", func := "wireloom/wireloomlaw17.MergeConflicts", spec := "mergeConflicts", unfollowed := true, recurses := true, plainKeys := false, apart := false, narrowed := true }
def MergeConflictsUptoSaid : Prop := mergeConflictsUptoRow.holds Tryz.pinned (OpenSpec.upto mergeConflictsSpec)

/-- 'wireloomlaw17.MergeNeutral', WHERE WHAT IT READS IS OF BULK AT MOST 1048576: true; the input reads as it did. -/
def mergeNeutralUptoRow : OpenClaim := { program := "ytbenhdgpogiadaagreat", sum := "f4b304d083204a690c38c3c1568071976815176072332001bcaba0275023d69b", func := "wireloom/wireloomlaw17.MergeNeutral", spec := "mergeNeutral", unfollowed := true, recurses := true, plainKeys := false, apart := false, narrowed := true }
def MergeNeutralUptoSaid : Prop := mergeNeutralUptoRow.holds Tryz.pinned (OpenSpec.upto mergeNeutralSpec)

/-- 'wireloomlaw17.MergeRepeats', WHERE WHAT IT READS IS OF BULK AT MOST 1048576: true; the input reads as it did. -/
def mergeRepeatsUptoRow : OpenClaim := { program := "ytbenhdgpogiadaagreat", sum := "f4b304d083204a690c38c3c1568071976815176072332001bcaba0275023d69b", func := "wireloom/wireloomlaw17.MergeRepeats", spec := "mergeRepeats", unfollowed := true, recurses := true, plainKeys := false, apart := false, narrowed := true }
def MergeRepeatsUptoSaid : Prop := mergeRepeatsUptoRow.holds Tryz.pinned (OpenSpec.upto mergeRepeatsSpec)

/-- 'wireloomlaw16.TreediffNormal', WHERE WHAT IT READS IS OF BULK AT MOST 1048576: true; the input reads as it did. -/
def treediffNormalUptoRow : OpenClaim := { program := "ytbenhdgpogiadaagreat", sum := "f4b304d083204a690c38c3c1568071976815176072332001bcaba0275023d69b", func := "wireloom/wireloomlaw16.TreediffNormal", spec := "treediffNormal", inPlace := ["slices.overlaps[wireloom/api.Item]", "slices.overlaps[wireloom/api.Module]"], unfollowed := true, recurses := true, plainKeys := false, apart := false, narrowed := true }
def TreediffNormalUptoSaid : Prop := treediffNormalUptoRow.holds Tryz.pinned (OpenSpec.upto treediffNormalSpec)

/-- 'wireloomlaw17.MergeEdits', WHERE WHAT IT READS IS OF BULK AT MOST 1048576: true; the input reads as it did. -/
def mergeEditsUptoRow : OpenClaim := { program := "ytbenhdgpogiadaagreat", sum := "f4b304d083204a690c38c3c1568071976815176072332001bcaba0275023d69b", func := "wireloom/wireloomlaw17.MergeEdits", spec := "mergeEdits", inPlace := ["slices.overlaps[wireloom/api.Item]", "slices.overlaps[wireloom/api.Module]"], unfollowed := true, recurses := true, plainKeys := false, apart := false, narrowed := true }
def MergeEditsUptoSaid : Prop := mergeEditsUptoRow.holds Tryz.pinned (OpenSpec.upto mergeEditsSpec)

end Rows
end Go.Proofs.YtbenhdgpogiadaaGreat
