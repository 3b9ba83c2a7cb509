/- Machinery. Conditions: those of each. -/
import Derived.Test.YtplfjjgkbnolhaaGreatDoorGO
import Derived.Test.YtplfjjgkbnolhaaGreatDoorGP
set_option linter.unusedSimpArgs false
set_option linter.unusedVariables false
/-
 A CONTRACT THAT HANDS BACK AN OWN ARRAY, READ AS ONE ON PLAIN DATA.
 Conditions: none; over any program.
-/
namespace Go.Aw
open Go.RowKit
end Go.Aw

/-
 A RANGE OVER AN ITERATOR THAT OWNS A VARIABLE.
 Conditions: those of the law; over any program.
-/
namespace Go.Aw
open Go.RowKit
def IterB(P:Program)(g:FuncId)(B:Nat)(cs:List D)(A S:List (List D)->Prop):Prop:=
 ∀(lim:Nat) (fam:List (List D)->XJ lim) (stop:XJ lim) (l:Nat),zr1 P lim fam stop l A->
  FnG P g [.yv 0,.bp B 0] (om [(0,.ext lim fam stop l []),(B,.box (cs.map .d))]) fun _ Oo new=>(∃xs,S xs/\Oo=om [(0,.ext lim fam stop l xs)]/\new=[])\/(Oo=om [(0,.ext lim (fun _=>stop) stop l [])]/\new=[])
end Go.Aw
