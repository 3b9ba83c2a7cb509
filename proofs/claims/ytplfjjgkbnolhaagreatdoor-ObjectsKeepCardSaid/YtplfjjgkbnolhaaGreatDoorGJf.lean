/- Machinery. Conditions: those of each. -/
import Derived.JoinedOf
set_option linter.unusedSimpArgs false
set_option linter.unusedVariables false
/-
 THE CLOSED FACTS OF A STATEMENT, PIECE BY PIECE: the kernel's memory.
 Conditions: none; over any program.
-/
namespace Go.Aw
def jG0(P:Program)(f:FuncId)(fn:Func)(s:ChangeSpec)(c:OpenClaim):Bool:=c.wf (OpenSpec.ofChange s)
def jG1(P:Program)(f:FuncId)(fn:Func)(s:ChangeSpec)(c:OpenClaim):Bool:=(c.inPlace==P.inPlace f)
def jG2(P:Program)(f:FuncId)(fn:Func)(s:ChangeSpec)(c:OpenClaim):Bool:=(c.unfollowed==P.unfollowed f)
def jG3(P:Program)(f:FuncId)(fn:Func)(s:ChangeSpec)(c:OpenClaim):Bool:=(c.recurses==P.recurses f)
def jG4(P:Program)(f:FuncId)(fn:Func)(s:ChangeSpec)(c:OpenClaim):Bool:=(c.named==P.varsNamed f)
def jG5(P:Program)(f:FuncId)(fn:Func)(s:ChangeSpec)(c:OpenClaim):Bool:=fn.params.all (P.readableRec ·)&&namedTie P c.named s.vars&&(c.stops==[])&&(c.knobs==[])&&(c.maps==(fn.params.toList++s.plain.varTypes P).any (P.mapsRec ·))&&(c.ifaces==(fn.params.toList++s.plain.varTypes P).any (P.ifacesRec ·))&&(c.mapsOut==P.mapsAmong fn.resultTypes.toList)
def jG6(P:Program)(f:FuncId)(fn:Func)(s:ChangeSpec)(c:OpenClaim):Bool:=(c.loops==(fn.params.toList++s.plain.varTypes P).any (P.loopsFrom ·))&&(c.wideKeys==(fn.params.toList++s.plain.varTypes P++fn.resultTypes.toList).any (P.wideKeysFrom ·))&&s.vars.all (P.varReadable ·)&&fn.resultTypes.all (fun t=>P.readableRec t&&decide (t<P.types.size))&&(c.ifacesOut==fn.resultTypes.toList.any (P.ifacesRec ·))&&(c.loopsOut==fn.resultTypes.toList.any (P.loopsFrom ·))
def jG7(P:Program)(f:FuncId)(fn:Func)(s:ChangeSpec)(c:OpenClaim):Bool:=(c.plainKeys==P.plainKeys)&&c.shortTexts.isNone&&(c.lifted==P.liftsFinal)&&(P.make==some c.make)
def jG8(P:Program)(f:FuncId)(fn:Func)(s:ChangeSpec)(c:OpenClaim):Bool:=(c.kinds==(if c.domain.isEmpty then []else fn.params.toList.map fun t=>match P.underlying t with | some (.int k)=>some k | _=>none))&&(c.pinned==c.pinnedBy)&&(c.veiled==(fn.params.toList++s.plain.varTypes P++fn.resultTypes.toList).any (P.veiledRec ·))&&c.veiledFits P fn.params.toList (fn.params.toList++s.plain.varTypes P++fn.resultTypes.toList)
theorem joined_mk{P:Program}{f:FuncId}{fn:Func}{s:ChangeSpec}{c:OpenClaim}(hp1:laidOutB P=true)(hp2:mapsRowed P=true)(hp6:(P.stops==[])=true)(hp8:(P.stopKnobs==[])=true)(hp24:P.stopsHeard=true)(hp25:P.mayEnter=true)(g0:jG0 P f fn s c=true)(g1:jG1 P f fn s c=true)(g2:jG2 P f fn s c=true)(g3:jG3 P f fn s c=true)(g4:jG4 P f fn s c=true)(g5:jG5 P f fn s c=true)(g6:jG6 P f fn s c=true)(g7:jG7 P f fn s c=true)(g8:jG8 P f fn s c=true):joinedFacts P f fn s c=true:=by
 simp only[jG0,jG1,jG2,jG3,jG4,jG5,jG6,jG7,jG8,Bool.and_eq_true]at g0 g1 g2 g3 g4 g5 g6 g7 g8;obtain⟨⟨⟨⟨⟨⟨q3,q4⟩,q5⟩,q7⟩,q13⟩,q14⟩,q15⟩:=g5;obtain⟨⟨⟨⟨⟨q16,q17⟩,q18⟩,q19⟩,q20⟩,q21⟩:=g6;obtain⟨⟨⟨q22,q23⟩,q26⟩,q27⟩:=g7;obtain⟨⟨⟨q28,q29⟩,q30⟩,q31⟩:=g8;unfold joinedFacts;simp only[Bool.and_eq_true];exact⟨⟨⟨⟨⟨⟨⟨⟨⟨⟨⟨⟨⟨⟨⟨⟨⟨⟨⟨⟨⟨⟨⟨⟨⟨⟨⟨⟨⟨⟨⟨g0,hp1⟩,hp2⟩,q3⟩,q4⟩,q5⟩,hp6⟩,q7⟩,hp8⟩,g1⟩,g2⟩,g3⟩,g4⟩,q13⟩,q14⟩,q15⟩,q16⟩,q17⟩,q18⟩,q19⟩,q20⟩,q21⟩,q22⟩,q23⟩,hp24⟩,hp25⟩,q26⟩,q27⟩,q28⟩,q29⟩,q30⟩,q31⟩
end Go.Aw
