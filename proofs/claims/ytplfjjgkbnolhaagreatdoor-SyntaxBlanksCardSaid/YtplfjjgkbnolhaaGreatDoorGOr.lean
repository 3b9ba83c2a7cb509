/- Machinery. Conditions: those of each. -/
import Derived.Test.YtplfjjgkbnolhaaGreatDoorGP
import Derived.Test.YtplfjjgkbnolhaaGreatDoorGJr
import Derived.Test.YtplfjjgkbnolhaaGreatDoorGO
set_option linter.unusedSimpArgs false
set_option linter.unusedVariables false
/-
 RANGES OVER ITERATORS WITHIN ITERATORS, ON LISTS; their equations for simp.
 Conditions: those of the law; over any program.
-/
namespace Go.Aw
open And renaming intro->aI
open Go.RowKit

def extOne(lim:Nat):Option AO->Prop
 | some (.ext lim' _ _ _ _)=>lim=lim'
 | _=>False
def extHd(O:zbI)(i:Nat):AO->Prop
 | .ext lim _ _ _ _=>extOne lim (O i)
 | _=>True
def zo5(O:zbI):OL->Prop
 | []=>True
 | (i,x)::r=>extHd O i x/\zo5 O r
def roundX(T:TL)(O1:zbI)(O':OL)(I':Prop)(Q:EQ):EQ
 | .normal,t,o=>zuM (tm t) T/\zwd (om o) O'/\zo5 O1 O'/\I'
 | .ret,t,o=>zuM (tm t) T/\zo5 O1 o/\Q .ret T o
 | .exit id,t,o=>zuM (tm t) T/\zo5 O1 o/\Q (.exit id) T o
 | .goto l,t,o=>zuM (tm t) T/\zo5 O1 o/\Q (.goto l) T o
 | _,_,_=>False
noncomputable def bodyX(P:Program)(N:NP)(L:Nat->List Gh)(body:Code)(T:TL)(Op:OL)(O':OL)(I':Prop)(Q:EQ)(t:TL)(o:OL):Prop:=zo5 (om Op) o/\eC P N L body (roundX T (om o) O' I' Q) t o
theorem bytes_eq(x y:ByteArray):(x.toList==y.toList)=decide (x=y):=by
 rw[ByteArray.toList_eq,ByteArray.toList_eq,Bool.eq_iff_iff];simp only[beq_iff_eq,decide_eq_true_eq];refine⟨fun h=> ?_,fun h=>by rw[h]⟩;cases x; cases y;simp only[ByteArray.mk.injEq];exact Array.toList_inj.1 h
set_option linter.defProp false
def SX0:=aI @roundX.eq_def (aI @bodyX.eq_def (aI @zo5.eq_1 (aI @zo5.eq_2 (aI @bytes_eq (aI @eCh.eq_1 (aI @eChG.eq_def (aI @eChU.eq_def (aI @eChV.eq_def (aI @eCP.eq_def (aI @eCQ.eq_def (aI @eCB.eq_def (aI @eCF.eq_def (aI @chOf.eq_def (aI @keepC.eq_def (aI @List.isEmpty_nil.{0} (aI @List.isEmpty_cons.{0} (aI @zmw.eq_1 (aI @zmw.eq_2 (aI @zHF.eq_def (aI @pcC.eq_def (aI @pcOf.eq_1 (aI @pcOf.eq_2 @visT.eq_1))))))))))))))))))))))
def SX1:=aI @visT.eq_2 (aI @inCh.eq_1 (aI @inCh.eq_2 (aI @zp2.eq_1 (aI @zp2.eq_2 (aI @ctT.eq_1 (aI @ctT.eq_2 (aI @pkV.eq_def (aI @eZC.eq_1 (aI @eZC.eq_2 (aI @eZC.eq_3 (aI @eZC1.eq_def (aI @beq_true (aI @beq_false (aI @Bool.cond_true_left (aI @Bool.cond_true_right (aI @Bool.cond_false_left (aI @Bool.cond_false_right (aI @Bool.not_not (aI @Bool.or_true (aI @Bool.true_or (aI @Bool.or_false (aI @Bool.false_or (aI @extOne.eq_def @extHd.eq_def)))))))))))))))))))))))
def SX3:=aI @fltOk1.eq_def (aI @fltOk.eq_1 (aI @fltOk.eq_2 (aI @fltD1.eq_def (aI @fltD.eq_1 (aI @fltD.eq_2 (aI @eRv2.eq_def (aI @eRv1.eq_def (aI @eRv.eq_1 (aI @eRv.eq_2 (aI @eZF.eq_1 (aI @eZF.eq_2 (aI @eZF.eq_3 @flB.eq_def))))))))))))
def SX2:=aI @renT.eq_1 (aI @renT.eq_2 (aI @coreH.eq_def (aI @coreL.eq_1 (aI @coreL.eq_2 (aI @AV.core.eq_def (aI @hdl.eq_def (aI @zpC.eq_def (aI @eSo0.eq_def SX3))))))))
def SXm:=aI SX0 (aI SX1 SX2)
def SX:=aI @eCh.eq_2 SXm
end Go.Aw
