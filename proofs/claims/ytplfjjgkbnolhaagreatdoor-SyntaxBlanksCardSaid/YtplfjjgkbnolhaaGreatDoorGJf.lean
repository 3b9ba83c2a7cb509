/- Machinery. Conditions: those of each. -/
import Derived.JoinedOf
import Derived.Test.YtplfjjgkbnolhaaGreatDoorGL
import Derived.Test.YtplfjjgkbnolhaaGreatDoorGE0
set_option linter.unusedSimpArgs false
set_option linter.unusedVariables false
/-
 THE CLOSED FACTS OF A STATEMENT, PIECE BY PIECE: the kernel's memory.
 Conditions: none; over any program.
-/
namespace Go.Aw
def jG0(P:Program)(f:FuncId)(fn:Func)(s:ChangeSpec)(c:OpenClaim):Bool:=c.wf (OpenSpec.ofChange s)
def jG1(P:Program)(f:FuncId)(fn:Func)(s:ChangeSpec)(c:OpenClaim):Bool:=(c.inPlace==P.inPlace f)
def jG2(P:Program)(f:FuncId)(fn:Func)(s:ChangeSpec)(c:OpenClaim):Bool:=(c.unfollowed==P.unfollowed f)
def jG3(P:Program)(f:FuncId)(fn:Func)(s:ChangeSpec)(c:OpenClaim):Bool:=(c.recurses==P.recurses f)
def jG4(P:Program)(f:FuncId)(fn:Func)(s:ChangeSpec)(c:OpenClaim):Bool:=(c.named==P.varsNamed f)
def jG5(P:Program)(f:FuncId)(fn:Func)(s:ChangeSpec)(c:OpenClaim):Bool:=fn.params.all (P.readableRec ·)&&namedTie P c.named s.vars&&(c.stops==[])&&(c.knobs==[])&&(c.maps==(fn.params.toList++s.plain.varTypes P).any (P.mapsRec ·))&&(c.ifaces==(fn.params.toList++s.plain.varTypes P).any (P.ifacesRec ·))&&(c.mapsOut==P.mapsAmong fn.resultTypes.toList)
def jG6(P:Program)(f:FuncId)(fn:Func)(s:ChangeSpec)(c:OpenClaim):Bool:=(c.loops==(fn.params.toList++s.plain.varTypes P).any (P.loopsFrom ·))&&(c.wideKeys==(fn.params.toList++s.plain.varTypes P++fn.resultTypes.toList).any (P.wideKeysFrom ·))&&s.vars.all (P.varReadable ·)&&fn.resultTypes.all (fun t=>P.readableRec t&&decide (t<P.types.size))&&(c.ifacesOut==fn.resultTypes.toList.any (P.ifacesRec ·))&&(c.loopsOut==fn.resultTypes.toList.any (P.loopsFrom ·))
def jG7(P:Program)(f:FuncId)(fn:Func)(s:ChangeSpec)(c:OpenClaim):Bool:=(c.plainKeys==P.plainKeys)&&c.shortTexts.isNone&&(c.lifted==P.liftsFinal)&&(P.make==some c.make)
def jG8(P:Program)(f:FuncId)(fn:Func)(s:ChangeSpec)(c:OpenClaim):Bool:=(c.kinds==(if c.domain.isEmpty then []else fn.params.toList.map fun t=>match P.underlying t with | some (.int k)=>some k | _=>none))&&(c.pinned==c.pinnedBy)&&(c.veiled==(fn.params.toList++s.plain.varTypes P++fn.resultTypes.toList).any (P.veiledRec ·))&&c.veiledFits P fn.params.toList (fn.params.toList++s.plain.varTypes P++fn.resultTypes.toList)
theorem ziO{P:Program}{f:FuncId}{fn:Func}{s:ChangeSpec}{c:OpenClaim}(hp1:laidOutB P=true)(hp2:mapsRowed P=true)(hp6:(P.stops==[])=true)(hp8:(P.stopKnobs==[])=true)(hp24:P.stopsHeard=true)(hp25:P.mayEnter=true)(g0:jG0 P f fn s c=true)(g1:jG1 P f fn s c=true)(g2:jG2 P f fn s c=true)(g3:jG3 P f fn s c=true)(g4:jG4 P f fn s c=true)(g5:jG5 P f fn s c=true)(g6:jG6 P f fn s c=true)(g7:jG7 P f fn s c=true)(g8:jG8 P f fn s c=true):joinedFacts P f fn s c=true:=by
 simp only[jG0,jG1,jG2,jG3,jG4,jG5,jG6,jG7,jG8,Bool.and_eq_true]at g0 g1 g2 g3 g4 g5 g6 g7 g8;obtain⟨⟨⟨⟨⟨⟨q3,q4⟩,q5⟩,q7⟩,q13⟩,q14⟩,q15⟩:=g5;obtain⟨⟨⟨⟨⟨q16,q17⟩,q18⟩,q19⟩,q20⟩,q21⟩:=g6;obtain⟨⟨⟨q22,q23⟩,q26⟩,q27⟩:=g7;obtain⟨⟨⟨q28,q29⟩,q30⟩,q31⟩:=g8;unfold joinedFacts;simp only[Bool.and_eq_true];exact⟨⟨⟨⟨⟨⟨⟨⟨⟨⟨⟨⟨⟨⟨⟨⟨⟨⟨⟨⟨⟨⟨⟨⟨⟨⟨⟨⟨⟨⟨⟨g0,hp1⟩,hp2⟩,q3⟩,q4⟩,q5⟩,hp6⟩,q7⟩,hp8⟩,g1⟩,g2⟩,g3⟩,g4⟩,q13⟩,q14⟩,q15⟩,q16⟩,q17⟩,q18⟩,q19⟩,q20⟩,q21⟩,q22⟩,q23⟩,hp24⟩,hp25⟩,q26⟩,q27⟩,q28⟩,q29⟩,q30⟩,q31⟩
end Go.Aw

/-
 A LAW'S STATEMENT BEHIND A CONTRACT THAT IS HANDED OBJECTS WITHOUT MEMORY (remembered variables).
 Conditions: as at zdL; over any program.
-/
namespace Go.Aw
open Go.RowKit Go.ChangeAt Go.ChangeShapes
section
variable {H:Type} {enc:TypeId×Value->H} {P:Program} {w:World}
theorem relVs_d{O:zbI}{W:World}{F:Nat->Prop}{η:Nat->Value}: ∀ {ds:List D} {vs:List Value},zav W F ds vs->zaN O W F η (ds.map AV.d) vs
 | [],_,h=>by simpa only[zav,List.map_nil,zaN]using h
 | d::ds,vs,h=>by
  simp only[zav]at h;obtain⟨v,rest,rfl,h1,h2⟩:=h;simp only[List.map_cons,zaN,zaL];exact⟨v,rest,rfl,h1,relVs_d h2⟩
theorem zIV{n:Nat}{f:FuncId}{fn:Func}{s:ChangeSpec}{args:Array Value}{ds gs:List (DataW H)}{before:List MemPlace}{b0:Nat}{ss:List ASh}{tb:TypeId}{id:Nat}{cs:List AV}{gv:List Value}(hl:laidOutB P=true)(hts: ∀t∈fn.params.toList,P.readableRec t=true/\t<P.types.size)
  (hr:fn.resultTypes=#[tb]) (htb:P.underlying tb=some .bool) (hss:zHA P n fn.params.toList=some ss) (hvars:s.vars=[])
  (hval: ∀(j:Nat) t v,fn.params[j]? =some t->args[j]? =some v->Value.okWide P w .any b0 t v)
  (hW:DataW.Whole enc P fn.params.toList s.vars false w args.toList ds gs before)
  (hspec:ds.length=fn.params.toList.length->s.fn H ds={results:=[.lit (.bool true)],args:=ds})
  (hg1:zFQ w (zGs w) gv) (hg2: ∀O η,zaN O w (zGs w) η cs gv)
  (hc: ∀Ds,fitsA ss Ds->D.bulkL Ds<=zbv ds->FnL P f (Ds.map AV.d) [(id,.gh cs gv)] (fun V ol new=>V= .d (.lit (.bool true))/\ol=[(id,.gh cs gv)]/\new=[])):
  Calls P f args w fun e W'=> ∃v,e= .returned v/\s.post enc P fn false true false false w args v W':=by
 have hW':=hW;obtain⟨p,q,hA,hV,rfl,hfz,hnd⟩:=hW;rw[hvars]at hV;obtain⟨rfl,rfl⟩:=trodVars_none hV;obtain⟨Ds,a1,a2,a3⟩:=zGT (fun j t v x y=>hval j t v (by simpa using x) (by simpa using y)) hA hss;obtain⟨_,hcall⟩:=hc Ds a2 a3;have hm0:Mem ⟨P,N0,w,zGs w,fun _=>False,[],[],fun _=>undef,[]⟩ (om [(id,.gh cs gv)]) w (zGs w) (fun _=>undef) (fun _=>[]):=by
  refine{os:=rfl,tape:=rfl,output:=rfl,size:=Nat.le_refl _,old:=fun _ _ _=>rfl,f0:=fun _ h=>h,flt:=fun _ h=>h,fold:=fun _ h _=>.inl h,obj:=fun i o ho=> ?_,gone:=fun _ _=>rfl,apart:=fun _ _ h=>(by cases h),sep:=fun _ _ _ h=>(by cases h),nd:=fun _=>List.nodup_nil,hid:=fun _ h=>(by cases h),lim:=fun i lim fam stop l rest ho=> ?_,zd:=fun _ h=>(by cases h)}
  ·have:o= .gh cs gv:=by
    simp only[om]at ho;split at ho
    ·exact(Option.some.inj ho).symm
    ·cases ho
   subst this;exact⟨⟨rfl,hg1⟩,hg2 _ _⟩
  ·simp only[om]at ho;split at ho
   ·cases ho
   ·cases ho
 have:=hcall w (zGs w) (fun _=>False) (fun _=>undef) (fun _=>[]) args.toList hm0 (fun b=>⟨fun h=>h.elim,fun⟨_,h⟩=>(by cases h)⟩) (relVs_d a1);rw[Array.toArray_toList]at this;refine this.mono ?_;rintro e W' ⟨v,V,Oo,new,F',η',S',rfl,⟨ol,_,rfl,_,_⟩,_,hm,hv,_⟩;simp only[zaL,Rd]at hv;subst hv;refine⟨_,rfl,?_⟩;have hb:Below w.heap.size w W':=⟨hm.os,hm.tape,hm.output,hm.size,fun k hk=>hm.old k hk (fun h=>h)⟩;have hlt: ∀x∈p,x.block<w.heap.size:=fun x hx=>by simpa using hW'.lt x (by simp[hx])
 replace hspec:=hspec (zoP hA)
 simp only[List.append_nil]at*;refine⟨ds,[],p,[],p,[],by simpa using hW',?_,?_,?_,?_,fun h=>by cases h⟩
 ·rw[List.append_nil,hspec,hr];exact trodAll_mk1 (shut_bool htb _)
 ·rw[List.append_nil,hspec];exact zlQ hl hb hts hA hlt
 ·rw[List.append_nil,hspec,hvars];rfl
 ·exact hb.frame _
end
end Go.Aw
