/-
  NARROWER THAN 'FOR EVERY INPUT', by the rows' own cells (each row's printed sentence says how): CheckLocality: loops · CheckCycles: loops.
  DERIVED. THE GIVEN ROWS OF THIS SEAT. 5 by the template 'for every input the law returns true; each argument reads behind the call as it read before'; 0 by the template 'total and deterministic' (their statements: YtejpmjnefokdoaaTotals.lean).
  GIVEN WITH THE SEED: the statements are not yours to turn. If you find one false, say at which input.
  Laid BY PROGRAM, IN A SANDBOX (cutbox-rows.mjs): the forced cells as the released guide's own fill.sh prints them over the translation c40765b991abd359… (all of the seat's roots in one cut). By AI agents, Wed Nov 11 2026. No macro, syntax, notation, axiom, sorry.
-/
import Derived.Test.YtejpmjnefokdoaaChecked
import GoSem.Claim
import GoSem.ClaimJoined
import GoSem.ClaimMapViews
import Derived.JoinedTies
import Derived.KernelRfl
namespace Go.Proofs.Ytejpmjnefokdoaa
/- THE CELL 'sum', in the pinned program and in every row, IS THE sha256 OF THE DUMP (.gsa) THAT YtejpmjnefokdoaaProg.lean LOADS. Nothing in Lean hashes anything: it is a label: what it is worth is what the hold of that sum in a sandbox is worth. -/
noncomputable def Try.pinned : Pinned := { name := "ytejpmjnefokdoaa", sum := "c40765b991abd3597f9b4051a5512f03af1489628d04fc773e24f0e988ce92f8", checked := Try.checked }
namespace Rows
def none {H : Type} : Left H := { results := [], args := [] }

/-- 'wireloomlaw10.CheckModuleOrder': WHATEVER THE INPUT: true; the input reads as it did. -/
def checkModuleOrderSpec : ChangeSpec := { name := "checkModuleOrder", fn := fun _ => fun
  | [d1, d2, d3] => { results := [.lit (.bool true)], args := [d1, d2, d3] }
  | _ => none }
def checkModuleOrderRow : OpenClaim := { program := "ytejpmjnefokdoaa", sum := "c40765b991abd3597f9b4051a5512f03af1489628d04fc773e24f0e988ce92f8", func := "wireloom/wireloomlaw10.CheckModuleOrder", spec := "checkModuleOrder", unfollowed := true, recurses := true, plainKeys := false, apart := false }
def CheckModuleOrderSaid : Prop := checkModuleOrderRow.holds Try.pinned (OpenSpec.ofChange checkModuleOrderSpec)

/-- ITS FALSE NEIGHBOUR: 'it returns false'. Refute it at one input. -/
def checkModuleOrderWrong : ChangeSpec := { name := "checkModuleOrder", fn := fun _ => fun
  | [d1, d2, d3] => { results := [.lit (.bool false)], args := [d1, d2, d3] }
  | _ => none }
def CheckModuleOrderWrongFalsely : Prop := checkModuleOrderRow.holds Try.pinned (OpenSpec.ofChange checkModuleOrderWrong)

/-- 'wireloomlaw10.CheckLocality': WHATEVER THE INPUT: true; the input reads as it did. -/
def checkLocalitySpec : ChangeSpec := { name := "checkLocality", fn := fun _ => fun
  | [d1, d2, d3] => { results := [.lit (.bool true)], args := [d1, d2, d3] }
  | _ => none }
def checkLocalityRow : OpenClaim := { program := "ytejpmjnefokdoaa", sum := "c40765b991abd3597f9b4051a5512f03af1489628d04fc773e24f0e988ce92f8", func := "wireloom/wireloomlaw10.CheckLocality", spec := "checkLocality", unfollowed := true, recurses := true, loops := true, plainKeys := false, apart := false }
def CheckLocalitySaid : Prop := checkLocalityRow.holds Try.pinned (OpenSpec.ofChange checkLocalitySpec)

/-- ITS FALSE NEIGHBOUR: 'it returns false'. Refute it at one input. -/
def checkLocalityWrong : ChangeSpec := { name := "checkLocality", fn := fun _ => fun
  | [d1, d2, d3] => { results := [.lit (.bool false)], args := [d1, d2, d3] }
  | _ => none }
def CheckLocalityWrongFalsely : Prop := checkLocalityRow.holds Try.pinned (OpenSpec.ofChange checkLocalityWrong)

/-- 'wireloomlaw10.CheckCycles': WHATEVER THE INPUT: true; the input reads as it did. -/
def checkCyclesSpec : ChangeSpec := { name := "checkCycles", fn := fun _ => fun
  | [d1, d2, d3] => { results := [.lit (.bool true)], args := [d1, d2, d3] }
  | _ => none }
def checkCyclesRow : OpenClaim := { program := "ytejpmjnefokdoaa", sum := "c40765b991abd3597f9b4051a5512f03af1489628d04fc773e24f0e988ce92f8", func := "wireloom/wireloomlaw10.CheckCycles", spec := "checkCycles", unfollowed := true, recurses := true, loops := true, plainKeys := false, apart := false }
def CheckCyclesSaid : Prop := checkCyclesRow.holds Try.pinned (OpenSpec.ofChange checkCyclesSpec)

/-- ITS FALSE NEIGHBOUR: 'it returns false'. Refute it at one input. -/
def checkCyclesWrong : ChangeSpec := { name := "checkCycles", fn := fun _ => fun
  | [d1, d2, d3] => { results := [.lit (.bool false)], args := [d1, d2, d3] }
  | _ => none }
def CheckCyclesWrongFalsely : Prop := checkCyclesRow.holds Try.pinned (OpenSpec.ofChange checkCyclesWrong)

/-- 'wireloomlaw10.CheckRenaming': WHATEVER THE INPUT: true; the input reads as it did. -/
def checkRenamingSpec : ChangeSpec := { name := "checkRenaming", fn := fun _ => fun
  | [d1, d2] => { results := [.lit (.bool true)], args := [d1, d2] }
  | _ => none }
def checkRenamingRow : OpenClaim := { program := "ytejpmjnefokdoaa", sum := "c40765b991abd3597f9b4051a5512f03af1489628d04fc773e24f0e988ce92f8", func := "wireloom/wireloomlaw10.CheckRenaming", spec := "checkRenaming", unfollowed := true, recurses := true, plainKeys := false, apart := false }
def CheckRenamingSaid : Prop := checkRenamingRow.holds Try.pinned (OpenSpec.ofChange checkRenamingSpec)

/-- ITS FALSE NEIGHBOUR: 'it returns false'. Refute it at one input. -/
def checkRenamingWrong : ChangeSpec := { name := "checkRenaming", fn := fun _ => fun
  | [d1, d2] => { results := [.lit (.bool false)], args := [d1, d2] }
  | _ => none }
def CheckRenamingWrongFalsely : Prop := checkRenamingRow.holds Try.pinned (OpenSpec.ofChange checkRenamingWrong)

/-- 'wireloomlaw10.CheckRemoval': WHATEVER THE INPUT: true; the input reads as it did. -/
def checkRemovalSpec : ChangeSpec := { name := "checkRemoval", fn := fun _ => fun
  | [d1, d2] => { results := [.lit (.bool true)], args := [d1, d2] }
  | _ => none }
def checkRemovalRow : OpenClaim := { program := "ytejpmjnefokdoaa", sum := "c40765b991abd3597f9b4051a5512f03af1489628d04fc773e24f0e988ce92f8", func := "wireloom/wireloomlaw10.CheckRemoval", spec := "checkRemoval", unfollowed := true, recurses := true, plainKeys := false, apart := false }
def CheckRemovalSaid : Prop := checkRemovalRow.holds Try.pinned (OpenSpec.ofChange checkRemovalSpec)

/-- ITS FALSE NEIGHBOUR: 'it returns false'. Refute it at one input. -/
def checkRemovalWrong : ChangeSpec := { name := "checkRemoval", fn := fun _ => fun
  | [d1, d2] => { results := [.lit (.bool false)], args := [d1, d2] }
  | _ => none }
def CheckRemovalWrongFalsely : Prop := checkRemovalRow.holds Try.pinned (OpenSpec.ofChange checkRemovalWrong)

/- THE SECOND FORM. 'bulk': how many values and letters a reading holds, each counted each time it is reached (what is shared counts as often as it is met; a slice's spare places count too). A statement '..UptoSaid' is the law's where the arguments, and the package variables that the reading takes, are together of bulk at most 1048576: NARROWER than '..Said'. Prove '..Said' where nothing that the law and all that it calls make is longer than what came in: it says more and counts as full. Else prove '..UptoSaid'. A law counts once. -/
mutual
def uptoBulk {H : Type} : DataW H → Nat
  | .lit (.string bytes) => bytes.length + 1
  | .lit _ => 1
  | .nil => 1
  | .ptr d => uptoBulk d + 1
  | .slice elems spare => uptoBulkAll elems + uptoBulkAll spare + 1
  | .agg parts => uptoBulkAll parts + 1
  | .iface _ d => uptoBulk d + 1
  | .map entries => uptoBulkEntries entries + 1
  | .held _ => 1
def uptoBulkAll {H : Type} : List (DataW H) → Nat
  | [] => 0
  | d :: r => uptoBulk d + uptoBulkAll r
def uptoBulkEntries {H : Type} : List (Lit × DataW H) → Nat
  | [] => 0
  | x :: r => uptoBulkEntry x + uptoBulkEntries r
def uptoBulkEntry {H : Type} : Lit × DataW H → Nat
  | (.string bytes, d) => bytes.length + uptoBulk d + 1
  | (_, d) => uptoBulk d + 1
 end
def uptoSmall : (H : Type) → List (DataW H) → Bool := fun _ ds => decide (uptoBulkAll ds ≤ 1048576)
def OpenSpec.upto (s : _root_.Go.ChangeSpec) : _root_.Go.OpenSpec := { _root_.Go.OpenSpec.ofChange s with cond := some uptoSmall }

/-- 'wireloomlaw10.CheckModuleOrder', WHERE WHAT IT READS IS OF BULK AT MOST 1048576: true; the input reads as it did. -/
def checkModuleOrderUptoRow : OpenClaim := { program := "ytejpmjnefokdoaa", sum := "c40765b991abd3597f9b4051a5512f03af1489628d04fc773e24f0e988ce92f8", func := "wireloom/wireloomlaw10.CheckModuleOrder", spec := "checkModuleOrder", unfollowed := true, recurses := true, plainKeys := false, apart := false, narrowed := true }
def CheckModuleOrderUptoSaid : Prop := checkModuleOrderUptoRow.holds Try.pinned (OpenSpec.upto checkModuleOrderSpec)

/-- 'wireloomlaw10.CheckLocality', WHERE WHAT IT READS IS OF BULK AT MOST 1048576: true; the input reads as it did. -/
def checkLocalityUptoRow : OpenClaim := { program := "ytejpmjnefokdoaa", sum := "c40765b991abd3597f9b4051a5512f03af1489628d04fc773e24f0e988ce92f8", func := "wireloom/wireloomlaw10.CheckLocality", spec := "checkLocality", unfollowed := true, recurses := true, loops := true, plainKeys := false, apart := false, narrowed := true }
def CheckLocalityUptoSaid : Prop := checkLocalityUptoRow.holds Try.pinned (OpenSpec.upto checkLocalitySpec)

/-- 'wireloomlaw10.CheckCycles', WHERE WHAT IT READS IS OF BULK AT MOST 1048576: true; the input reads as it did. -/
def checkCyclesUptoRow : OpenClaim := { program := "ytejpmjnefokdoaa", sum := "c40765b991abd3597f9b4051a5512f03af1489628d04fc773e24f0e988ce92f8", func := "wireloom/wireloomlaw10.CheckCycles", spec := "checkCycles", unfollowed := true, recurses := true, loops := true, plainKeys := false, apart := false, narrowed := true }
def CheckCyclesUptoSaid : Prop := checkCyclesUptoRow.holds Try.pinned (OpenSpec.upto checkCyclesSpec)

/-- 'wireloomlaw10.CheckRenaming', WHERE WHAT IT READS IS OF BULK AT MOST 1048576: true; the input reads as it did. -/
def checkRenamingUptoRow : OpenClaim := { program := "ytejpmjnefokdoaa", sum := "c40765b991abd3597f9b4051a5512f03af1489628d04fc773e24f0e988ce92f8", func := "wireloom/wireloomlaw10.CheckRenaming", spec := "checkRenaming", unfollowed := true, recurses := true, plainKeys := false, apart := false, narrowed := true }
def CheckRenamingUptoSaid : Prop := checkRenamingUptoRow.holds Try.pinned (OpenSpec.upto checkRenamingSpec)

/-- 'wireloomlaw10.CheckRemoval', WHERE WHAT IT READS IS OF BULK AT MOST 1048576: true; the input reads as it did. -/
def checkRemovalUptoRow : OpenClaim := { program := "ytejpmjnefokdoaa", sum := "c40765b991abd3597f9b4051a5512f03af1489628d04fc773e24f0e988ce92f8", func := "wireloom/wireloomlaw10.CheckRemoval", spec := "checkRemoval", unfollowed := true, recurses := true, plainKeys := false, apart := false, narrowed := true }
def CheckRemovalUptoSaid : Prop := checkRemovalUptoRow.holds Try.pinned (OpenSpec.upto checkRemovalSpec)

end Rows
end Go.Proofs.Ytejpmjnefokdoaa
