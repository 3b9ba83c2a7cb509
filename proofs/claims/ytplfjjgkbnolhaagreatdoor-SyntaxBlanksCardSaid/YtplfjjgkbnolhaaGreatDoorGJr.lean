/- Machinery. Conditions: those of each. -/
import Derived.Test.YtplfjjgkbnolhaaGreatDoorGJ
set_option linter.unusedSimpArgs false
set_option linter.unusedVariables false
/-
 A RANGE OVER AN ITERATOR WITHIN AN ITERATOR: the loop behind the outer one stays among the objects.
 Conditions: those of the law; over any program.
-/
namespace Go.Aw
open Go.RowKit

def extIn(O1 O:zbI):Prop:= ∀id lim fam stop l rest,O1 id=some (.ext lim fam stop l rest)-> ∃(fam':List (List D)->XJ lim) (stop':XJ lim) (l':Nat) (rest':List (List D)),O id=some (.ext lim fam' stop' l' rest')
def rangeX(σ:St)(O1:zbI)(Q:Exit->St->Prop)(O':zbI)(I':Prop):Exit->St->Prop:=fun e σ'=>
 match e with
 | .normal =>(∀t,σ.tmps t= .dead \/σ.tmps t=σ'.tmps t)/\(∀id,O' id=none\/O' id=σ'.objs id)/\extIn O' O1/\I'
 | .ret =>(∀t,σ.tmps t= .dead \/σ.tmps t=σ'.tmps t)/\extIn σ'.objs O1/\Q .ret ⟨σ.tmps,σ'.objs⟩
 | .exit id=>(∀t,σ.tmps t= .dead \/σ.tmps t=σ'.tmps t)/\extIn σ'.objs O1/\Q (.exit id) ⟨σ.tmps,σ'.objs⟩
 | .goto l=>(∀t,σ.tmps t= .dead \/σ.tmps t=σ'.tmps t)/\extIn σ'.objs O1/\Q (.goto l) ⟨σ.tmps,σ'.objs⟩
 | _=>False

end Go.Aw
