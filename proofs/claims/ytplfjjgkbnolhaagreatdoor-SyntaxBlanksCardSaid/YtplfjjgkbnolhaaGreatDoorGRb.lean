/- Machinery. Conditions: those of each. -/
import Derived.Test.YtplfjjgkbnolhaaGreatDoorGO
set_option linter.unusedSimpArgs false
set_option linter.unusedVariables false
/-
 FUNCTIONS WHOSE RESULT IS A STRUCT THAT NAMES OWN OBJECTS: such a struct is handed back as it is.
 Conditions: those of AwGh; over any program.
-/
namespace Go.Aw
open Go.RowKit

def selB(O:zbI)(l:List Nat)(x:AV):Option (Prop×AV):=
 match x with
 | .agg cs=>some (True,.agg cs)
 | .clo f fs cs=>some (True,.clo f fs cs)
 | x=>selA O l x
noncomputable def resB(P:Program)(σ:St)(l:List Nat):List ResultVar->Option (Prop×List AV)
 | []=>some (True,[])
 | r::rs=>match rsv P σ r with
  | some (p,V)=>match selB σ.objs l V,resB P σ l rs with
   | some (q,x),some (p',xs)=>some (p/\q/\p',x::xs)
   | _,_=>none
  | none=>none
def retGB(P:Program)(rs:Array ResultVar)(pins:List Nat)(args:List AV)(Oi:zbI)(Post:AV->zbI->List Nat->Prop)(G:Nat)(ks:List Nat)(gs:List Value):Exit->St->Prop:=fun e σ=>
 match e with
 | .ret | .normal => ∃l new,match resB P σ l rs.toList with
  | some (vc,xs)=>vc/\Post (ztO xs) (drop σ.objs l) new/\(∀i∈new,Oi i=none/\ ∀lim fam stop l rest,σ.objs i≠some (.ext lim fam stop l rest))/\
    ∀j o',drop σ.objs l j=some o'->j∈new\/(∃o u x,Oi j=some o/\u∈pins/\args[u]? =some x/\x.handle=some j/\σ.tmps u=x/\zht x o o')\/
     (j∈ks/\σ.objs G=some (.gh (ks.map fun i=>.bp i 0) gs)/\(∃cs,Oi j=some (.box cs))/\ ∃cs,o'= .box cs)
  | none=>False
 | _=>False

noncomputable def eRetB(P:Program)(rs:Array ResultVar)(pins:List Nat)(args:List AV)(os:OL)(PL:AV->OL->List Nat->Prop)(G:Nat)(ks:List Nat)(gs:List Value)(l new:List Nat)(r:Option (Prop×List AV))(t:TL)(o:OL):Prop:=
 match r with
 | some (vc,xs)=>vc/\PL (ztO xs) (zdb l o) new/\zIp new os o/\hdK args pins os t new G ks gs o (zdb l o)
 | none=>False
def ERetB(P:Program)(rs:Array ResultVar)(pins:List Nat)(args:List AV)(os:OL)(PL:AV->OL->List Nat->Prop)(G:Nat)(ks:List Nat)(gs:List Value)(t:TL)(o:OL):Prop:=
 ∃l new,eRetB P rs pins args os PL G ks gs l new (resB P ⟨tm t,om o⟩ l rs.toList) t o
noncomputable def retBE(P:Program)(rs:Array ResultVar)(pins:List Nat)(args:List AV)(os:OL)(PL:AV->OL->List Nat->Prop)(G:Nat)(ks:List Nat)(gs:List Value):EQ
 | .ret,t,o=>ERetB P rs pins args os PL G ks gs t o
 | .normal,t,o=>ERetB P rs pins args os PL G ks gs t o
 | _,_,_=>False
def asD:AV->Option D
 | .d x=>some x
 | .nils =>some (.sl [])
 | _=>none
def asDs:List AV->Option (List D)
 | []=>some []
 | x::xs=>match asD x,asDs xs with
  | some d,some ds=>some (d::ds)
  | _,_=>none
theorem zaN.at{O:zbI}{W:World}{F:Nat->Prop}{η:Nat->Value}{y z:AV}(hyz: ∀v,zaL O W F η y v->zaL O W F η z v){b:List AV}: ∀ {a:List AV} {vs:List Value},zaN O W F η (a++y::b) vs->zaN O W F η (a++z::b) vs
 | [],vs,h=>by
  simp only[List.nil_append,zaN]at h ⊢;obtain⟨v,rest,rfl,h1,h2⟩:=h;exact⟨v,rest,rfl,hyz v h1,h2⟩
 | x::a,vs,h=>by
  simp only[List.cons_append,zaN]at h ⊢;obtain⟨v,rest,rfl,h1,h2⟩:=h;exact⟨v,rest,rfl,h1,zaN.at hyz h2⟩
theorem EFn.gV{P:Program}{N:NP}{f:FuncId}{args:List AV}{dst:Option Nat}{K:EK}{t:TL}{o:OL}(r:List (Nat×Nat)){cargs:List AV}{os:OL}{PL:AV->OL->List Nat->Prop}(hc:FnL P f cargs os PL)
  (h1:AV.renL r cargs=args/\zpV r/\inR r o os/\frR os t o r/\zdc N dst) (h2: ∀V ol new,PL V ol new->domR r ol/\newR os new/\K (zfy dst (V.ren r) t) (zID r ol++zdb (r.map (·.2)) o)):EFn P N f args dst K t o:=
 EFn.g ⟨r,cargs,os,PL,hc,h1.1,h1.2.1,h1.2.2.1,h1.2.2.2.1,h1.2.2.2.2,h2⟩
theorem EFn.gX{P:Program}{N:NP}{f:FuncId}{args:List AV}{dst:Option Nat}{K:EK}{t:TL}{o:OL}(r:List (Nat×Nat)){cargs:List AV}{os:OL}{PL:AV->OL->List Nat->Prop}{PX:Value->Prop}(hc:zBL P f cargs os PL PX)
  (h1:AV.renL r cargs=args/\zpV r/\inR r o os/\frR os t o r/\zdc N dst) (h3: ∀v,PX v->N.px v (zdb (r.map (·.2)) o)) (h2: ∀V ol new,PL V ol new->domR r ol/\newR os new/\K (zfy dst (V.ren r) t) (zID r ol++zdb (r.map (·.2)) o)):EFn P N f args dst K t o:=
 EFn.x ⟨r,cargs,os,PL,PX,hc,h1.1,h1.2.1,h1.2.2.1,h1.2.2.2.1,h1.2.2.2.2,h2,h3⟩
end Go.Aw
