/- Machinery. Conditions: those of each. -/
import Derived.Test.YtplfjjgkbnolhaaGreatDoorGO
set_option linter.unusedSimpArgs false
set_option linter.unusedVariables false
/-
 A CONTRACT THAT HANDS BACK AN OWN ARRAY, READ AS ONE ON PLAIN DATA.
 Conditions: none; over any program.
-/
namespace Go.Aw
open Go.RowKit
end Go.Aw
