/- Machinery. Conditions: those of each. -/
import Derived.Test.YtbenhdgpogiadaaGreatGSo
set_option linter.unusedSimpArgs false
set_option linter.unusedVariables false
/-
 PLAIN LAW: merged lists hold no change twice.
-/
namespace Go.Aw
section
variable {κ α β γ:Type} {lt:κ->κ->Bool} {key:α->κ}
end
end Go.Aw
