/- Machinery. Conditions: those of each. -/
import Derived.Test.YtplfjjgkbnolhaaGreatDoorGP
set_option linter.unusedSimpArgs false
set_option linter.unusedVariables false
/-
 WORDS FOR SIMP: under guards it does not go on below a result that is not known yet.
-/
namespace Go.Aw
variable {P:Program}
def zBN(K:CK)(d g:Nat)(v pc:Bool)(ct:CT)(t:TL)(o:OL)(V:AV):Prop:=K ((d,g,v,pc,V)::ct) ((d,.dead)::t) o
def zBI(K:CK)(dst:Option Nat)(ct:CT)(t:TL)(o:OL)(V:AV):Prop:=K ct (zfy dst V t) o
theorem zA7(N:NP)(ops:Array Oper)(x:Oper)(j:Nat)(v:Bool)(K:CK)(ct:CT)(t:TL)(o:OL):eChG P N ops x j v K ct t o=
 match (ops[j]?).bind (·.dst),x.dst with
 | some g,some d=>match pcOf ct t g v with
  | some pc=>(zmw d ct=true/\d≠g/\zdc N (some d))/\eChV P x.op d pc ct (zp2 ct g v) t o (zBN K d g v pc ct t o)
  | none=>False
 | _,_=>False:=rfl
theorem zA8(N:NP)(x:Oper)(K:CK)(ct:CT)(t:TL)(o:OL):eChU P N x K ct t o=
 if keepC x.op ct=true then(zHF x.dst ct=true/\zdc N x.dst)/\eChV P x.op (x.dst.getD 0) true ct [] t o (zBI K x.dst ct t o)
 else eO P N x.dst x.op (K []) t o:=rfl
theorem zA9(N:NP)(ops:Array Oper)(x:Oper)(K:CK)(ct:CT)(t:TL)(o:OL):eZC1 P N ops x K ct t o=
 match x.guard with
 | some (j,v)=>eChG P N ops x j v K ct t o
 | none=>(zHF x.dst ct=true/\zdc N x.dst)/\eChV P x.op (x.dst.getD 0) true ct [] t o (zBI K x.dst ct t o):=rfl
end Go.Aw
