/- Machinery. Conditions: those of each. -/
import Derived.Test.YtplfjjgkbnolhaaGreatDoorGE
set_option linter.unusedSimpArgs false
set_option linter.unusedVariables false
/-
 LOOPS WITH STEPS OF THE PROOF BY ROUND, RANGES OVER ITERATORS, CONTRACTS ON OWN OBJECTS, ON LISTS; THE EVALUATOR's EQUATIONS.
 Conditions: those of each law; over any program.
-/
namespace Go.Aw
open Go.RowKit

def zie:AO->Bool
 | .ext .. =>true
 | _=>false
def zdU:OL->Prop
 | []=>True
 | (_,x)::r=>zie x=false/\zdU r
def zeQ:TL->List Nat
 | []=>[]
 | (i,_)::r=>i::zeQ r
def zve:List Nat->List D->TL->TL
 | p::ps,d::ds,t=>zve ps ds ((p,.d d)::t)
 | _,_,t=>t
def zl0(T:TL)(O':OL)(Q:EQ):EQ
 | .normal,t,o=>zuM (tm t) T/\zwd (om o) O'
 | .ret,t,o=>zuM (tm t) T/\zdU o/\Q .ret T o
 | .exit id,t,o=>zuM (tm t) T/\zdU o/\Q (.exit id) T o
 | .goto l,t,o=>zuM (tm t) T/\zdU o/\Q (.goto l) T o
 | _,_,_=>False
noncomputable def zrn(P:Program)(N:NP)(L:Nat->List Gh)(body:Code)(Q:EQ)(t:TL)(o:OL):Prop:=zdU o/\eC P N L body Q t o
def noQ:EQ:=fun _ _ _=>False
def psOk(n:Nat)(T:List Nat):List Nat->Prop
 | []=>True
 | p::r=>(p<n/\p∉T)/\psOk n T r
def zIp(new:List Nat)(os o:OL):Prop:=
 match new with
 | []=>True
 | i::r=>(om os i=none/\(match om o i with | some x=>zie x=false | none=>True))/\zIp r os o
def hdOne(args:List AV)(t:TL)(j:Nat)(oi o':AO):List Nat->Prop
 | []=>False
 | u::us=>(match args[u]? with | some x=>x.handle=some j/\tm t u=x/\zht x oi o' | none=>False)\/hdOne args t j oi o' us
def hdL(args:List AV)(pins:List Nat)(os:OL)(t:TL)(new:List Nat):OL->Prop
 | []=>True
 | (j,o')::r=>(j∈new\/(match om os j with | some oi=>hdOne args t j oi o' pins | none=>False))/\hdL args pins os t new r
noncomputable def eRetG(P:Program)(rs:Array ResultVar)(pins:List Nat)(args:List AV)(os:OL)(PL:AV->OL->List Nat->Prop)(l new:List Nat)(r:Option (Prop×List AV))(t:TL)(o:OL):Prop:=
 match r with
 | some (vc,xs)=>vc/\PL (ztO xs) (zdb l o) new/\zIp new os o/\hdL args pins os t new (zdb l o)
 | none=>False
def ERetG(P:Program)(rs:Array ResultVar)(pins:List Nat)(args:List AV)(os:OL)(PL:AV->OL->List Nat->Prop)(t:TL)(o:OL):Prop:=
 ∃l new,eRetG P rs pins args os PL l new (zHj P ⟨tm t,om o⟩ l rs.toList) t o
noncomputable def retGE(P:Program)(rs:Array ResultVar)(pins:List Nat)(args:List AV)(os:OL)(PL:AV->OL->List Nat->Prop):EQ
 | .ret,t,o=>ERetG P rs pins args os PL t o
 | .normal,t,o=>ERetG P rs pins args os PL t o
 | _,_,_=>False
theorem zyE{os o:OL}: ∀ {new:List Nat},zIp new os o-> ∀i∈new,om os i=none/\ ∀lim fam stop l rest,om o i≠some (.ext lim fam stop l rest)
 | k::r,h,i,hi=>by
  simp only[zIp]at h;rcases List.mem_cons.1 hi with rfl | hi
  ·refine⟨h.1.1,fun lim fam stop l rest e=> ?_⟩;have:=h.1.2;rw[e]at this;simp[zie]at this
  ·exact zyE h.2 i hi
theorem zy4{args:List AV}{t:TL}{j:Nat}{oi o':AO}: ∀ {pins:List Nat},hdOne args t j oi o' pins-> ∃u x,u∈pins/\args[u]? =some x/\x.handle=some j/\tm t u=x/\zht x oi o'
 | k::r,h=>by
  simp only[hdOne]at h;rcases h with h | h
  ·split at h
   ·rename_i x hx; exact⟨k,x,by simp,hx,h⟩
   ·exact h.elim
  ·obtain⟨u,x,h1,h2⟩:=zy4 h;exact⟨u,x,by simp[h1],h2⟩
theorem hdL_ok{args:List AV}{pins:List Nat}{os:OL}{t:TL}{new:List Nat}: ∀ {ol:OL},hdL args pins os t new ol-> ∀j o',om ol j=some o'->j∈new\/ ∃o u x,om os j=some o/\u∈pins/\args[u]? =some x/\x.handle=some j/\tm t u=x/\zht x o o'
 | [],_,j,o',h=>by simp[om]at h
 | (k,y)::r,h,j,o',ho=>by
  simp only[hdL]at h;simp only[om]at ho;split at ho
  ·rename_i e;cases ho;subst e;rcases h.1 with h1 | h1
   ·exact .inl h1
   ·split at h1
    ·rename_i oi hoi;obtain⟨u,x,h2⟩:=zy4 h1;exact .inr ⟨oi,u,x,hoi,h2⟩
    ·exact h1.elim
  ·exact hdL_ok h.2 j o' ho

theorem FnL.of_eC{P:Program}{f:Nat}{fn:Func}{code:Code}{args:List AV}{os:OL}{PL:AV->OL->List Nat->Prop}(L:Nat->List Gh){own:List (Nat×List (TypeId×Nat))}(pins:List Nat)(hmix:P.follows .mixedOrders =true)(hf:P.funcs[f]? =some fn)(hb:fn.body=some code)
  (hc: ∀as W,(callFunc f as).run P W= .ok (.enter f as) W) {N:Nat} (hN:fn.ntmps=N) (hN':args.length<=N) {rs:Array ResultVar} (hrs:fn.results=rs) (h:eC P ⟨N,pins,true,own,fun _ _=>False⟩ L code (retGE P rs pins args os PL) (zpL 0 args) os):FnL P f args os PL:=by
 subst hN;subst hrs;refine FnG.intro' pins own hf hb (fun W as=>hc as W) hN' (AWp.mono (zfz hmix code _ _ _ h) ?_);rintro e σ ⟨t,o,rfl,h1⟩;have key:ERetG P fn.results pins args os PL t o-> ∃l new,match zHj P ⟨tm t,om o⟩ l fn.results.toList with
   | some (vc,xs)=>vc/\(∃ol,drop (om o) l=om ol/\PL (ztO xs) ol new)/\(∀i∈new,om os i=none/\ ∀lim fam stop l rest,om o i≠some (.ext lim fam stop l rest))/\
     ∀j o',drop (om o) l j=some o'->j∈new\/ ∃o u x,om os j=some o/\u∈pins/\args[u]? =some x/\x.handle=some j/\tm t u=x/\zht x o o'
   | none=>False:=by
  rintro⟨l,new,h2⟩;refine⟨l,new,?_⟩;unfold eRetG at h2;split at h2
  ·rename_i vc xs hr;obtain⟨h3,h4,h5,h6⟩:=h2;exact⟨h3,⟨_,ze2 l o,h4⟩,zyE h5,fun j o' ho=>hdL_ok h6 j o' (by rw[<-ze2]; exact ho)⟩
  ·exact h2.elim
 cases e with
 | ret=>exact key h1
 | normal=>exact key h1
 | _=>exact h1.elim
noncomputable def retXE(P:Program)(rs:Array ResultVar)(pins:List Nat)(args:List AV)(os:OL)(PL:AV->OL->List Nat->Prop)(PX:Value->Prop):EQ
 | .ret,t,o=>ERetG P rs pins args os PL t o
 | .normal,t,o=>ERetG P rs pins args os PL t o
 | .panic ch,_,_=> ∃v,ch=[{v:=v,recovered:=false}]/\PX v
 | _,_,_=>False
theorem zBL.of_eC{P:Program}{f:Nat}{fn:Func}{code:Code}{args:List AV}{os:OL}{PL:AV->OL->List Nat->Prop}{PX:Value->Prop}(L:Nat->List Gh){own:List (Nat×List (TypeId×Nat))}(pins:List Nat)(hmix:P.follows .mixedOrders =true)(hf:P.funcs[f]? =some fn)(hb:fn.body=some code)
  (hc: ∀as W,(callFunc f as).run P W= .ok (.enter f as) W) {N:Nat} (hN:fn.ntmps=N) (hN':args.length<=N) {rs:Array ResultVar} (hrs:fn.results=rs) (h:eC P ⟨N,pins,true,own,fun v _=>PX v⟩ L code (retXE P rs pins args os PL PX) (zpL 0 args) os):zBL P f args os PL PX:=by
 subst hN;subst hrs;refine FnX.intro' pins own hf hb (fun W as=>hc as W) hN' (AWp.mono (zBm hmix code _ _ _ (fun v _ hv=>⟨v,rfl,hv⟩) h) ?_);rintro e σ ⟨t,o,rfl,h1⟩;have key:ERetG P fn.results pins args os PL t o-> ∃l new,match zHj P ⟨tm t,om o⟩ l fn.results.toList with
   | some (vc,xs)=>vc/\(∃ol,drop (om o) l=om ol/\PL (ztO xs) ol new)/\(∀i∈new,om os i=none/\ ∀lim fam stop l rest,om o i≠some (.ext lim fam stop l rest))/\
     ∀j o',drop (om o) l j=some o'->j∈new\/ ∃o u x,om os j=some o/\u∈pins/\args[u]? =some x/\x.handle=some j/\tm t u=x/\zht x o o'
   | none=>False:=by
  rintro⟨l,new,h2⟩;refine⟨l,new,?_⟩;unfold eRetG at h2;split at h2
  ·rename_i vc xs hr;obtain⟨h3,h4,h5,h6⟩:=h2;exact⟨h3,⟨_,ze2 l o,h4⟩,zyE h5,fun j o' ho=>hdL_ok h6 j o' (by rw[<-ze2]; exact ho)⟩
  ·exact h2.elim
 cases e with
 | ret=>exact key h1
 | normal=>exact key h1
 | panic ch=>exact h1
 | _=>exact h1.elim
end Go.Aw
