/- Machinery. Conditions: those of each. -/
import Derived.Test.YtbenhdgpogiadaaGreatGE
set_option linter.unusedSimpArgs false
set_option linter.unusedVariables false
/-
 LOOPS WITH STEPS OF THE PROOF BY ROUND, RANGES OVER ITERATORS, CONTRACTS ON OWN OBJECTS, ON LISTS; THE EVALUATOR's EQUATIONS.
 Conditions: those of each law; over any program.
-/
namespace Go.Aw
open Go.RowKit

def zie:AO->Bool
 | .ext .. =>true
 | _=>false
def zdU:OL->Prop
 | []=>True
 | (_,x)::r=>zie x=false/\zdU r
theorem zkr: ∀ {o:OL},zdU o->noExt (om o)
 | [],_=>fun _ _ _ _ _ _ h=>by simp[om]at h
 | (i,x)::r,h=>fun id lim fam stop l rest ho=>by
  simp only[om]at ho;split at ho
  ·cases ho; simp[zdU,zie]at h
  ·exact zkr h.2 _ _ _ _ _ _ ho
def zeQ:TL->List Nat
 | []=>[]
 | (i,_)::r=>i::zeQ r
theorem zqr: ∀(t:TL) (u:Nat),u∉zeQ t->tm t u= .dead
 | [],_,_=>rfl
 | (i,x)::r,u,h=>by
  simp only[zeQ,List.mem_cons,not_or]at h;simp only[tm,if_neg h.1];exact zqr r u h.2
def zve:List Nat->List D->TL->TL
 | p::ps,d::ds,t=>zve ps ds ((p,.d d)::t)
 | _,_,t=>t
theorem zzS: ∀(ps:List Nat) (ds:List D) (t:TL),zipT ps ds (tm t)=tm (zve ps ds t)
 | [],_,_=>by simp[zipT,zve]
 | _::_,[],_=>by simp[zipT,zve]
 | p::ps,d::ds,t=>by simp only[zipT,zve,upd_tm]; exact zzS ps ds _
theorem zlL{f:Nat->AV}: ∀ {l:TL},zuM f l-> ∀u,tm l u= .dead \/tm l u=f u
 | [],_,u=>.inl rfl
 | (i,x)::r,h,u=>by
  simp only[zuM]at h;simp only[tm];split
  ·rename_i e; subst e; exact .inr h.1.symm
  ·exact zlL h.2 u
theorem zuu{f:zbI}: ∀ {l:OL},zwd f l-> ∀u,om l u=none\/om l u=f u
 | [],_,u=>.inl rfl
 | (i,x)::r,h,u=>by
  simp only[zwd]at h;simp only[om];split
  ·rename_i e; subst e; exact .inr h.1.symm
  ·exact zuu h.2 u

def zl0(T:TL)(O':OL)(Q:EQ):EQ
 | .normal,t,o=>zuM (tm t) T/\zwd (om o) O'
 | .ret,t,o=>zuM (tm t) T/\zdU o/\Q .ret T o
 | .exit id,t,o=>zuM (tm t) T/\zdU o/\Q (.exit id) T o
 | .goto l,t,o=>zuM (tm t) T/\zdU o/\Q (.goto l) T o
 | _,_,_=>False
noncomputable def zrn(P:Program)(N:NP)(L:Nat->List Gh)(body:Code)(Q:EQ)(t:TL)(o:OL):Prop:=zdU o/\eC P N L body Q t o
def noQ:EQ:=fun _ _ _=>False
def psOk(n:Nat)(T:List Nat):List Nat->Prop
 | []=>True
 | p::r=>(p<n/\p∉T)/\psOk n T r
theorem zzQ{n:Nat}{T:List Nat}: ∀ {l:List Nat},psOk n T l-> ∀p∈l,p<n/\p∉T
 | q::r,h,p,hp=>by
  rcases List.mem_cons.1 hp with rfl | hp
  ·exact h.1
  ·exact zzQ h.2 p hp

theorem zq4{P:Program}{N:NP}(hmix:P.follows .mixedOrders =true){g:Operand}{ps:Array Tmp}{assign body:Code}{Q:EQ}{t:TL}{o:OL}(L:Nat->List Gh){gf:FuncId}{caps:List D}{A Sd:List (List D)->Prop}(htop:N.top=true)(hg:St.ev (tm t) g= .d (.clo (.func gf) [] caps))(hI:zoR P gf caps A Sd)
  (O:List (List D)->OL) (h0:zwd (om o) (O [])) (hx: ∀pre,zdU (O pre)) (hps:psOk N.n (zeQ t) ps.toList)
  (hb: ∀pre x,A (pre++[x])->x.length=ps.size/\eC P ⟨N.n,zeQ t,false,N.own⟩ L assign (zry (zrn P ⟨N.n,zeQ t,false,N.own⟩ L body (zl0 t (O (pre++[x])) Q)) noQ) (zve ps.toList x t) (O pre))
  (hd: ∀xs,Sd xs->Q .normal t (O xs)):zrZ P N (.rangeFunc g ps assign body) Q t o:=by
 have hsub:Sub ⟨tm t,om o⟩ ⟨tm t,om (O [])⟩:=znd (fun _=>.inr rfl) (fun u=>zuu h0 u);refine AWp.sub hsub ?_;refine awp_range (σ:=⟨tm t,om (O [])⟩) htop hg hI (zeQ t) (fun u hu=>zqr t u hu) (zzQ hps) (fun pre=>om (O pre)) rfl (fun pre=>zkr (hx pre)) (fun pre x hA=> ?_) (fun xs hS=>⟨_,_,rfl,hd xs hS⟩);obtain⟨h1,h2⟩:=hb pre x hA;refine⟨h1,?_⟩;rw[zzS];refine AWp.mono (zfz hmix assign _ _ _ h2) ?_;rintro e σ1 ⟨t1,o1,rfl,h3⟩;cases e with
 | normal=>
  obtain⟨h4,h5⟩:=h3;refine⟨rfl,zkr h4,AWp.mono (zfz hmix body _ _ _ h5) ?_⟩;rintro e σ2 ⟨t2,o2,rfl,h6⟩;cases e with
  | normal=>exact⟨fun u=>zlL h6.1 u,fun u=>zuu h6.2 u⟩
  | ret=>exact⟨fun u=>zlL h6.1 u,zkr h6.2.1,_,_,rfl,h6.2.2⟩
  | exit id=>exact⟨fun u=>zlL h6.1 u,zkr h6.2.1,_,_,rfl,h6.2.2⟩
  | goto l=>exact⟨fun u=>zlL h6.1 u,zkr h6.2.1,_,_,rfl,h6.2.2⟩
  | panic ch=>exact h6.elim
  | outgrown=>exact h6.elim
 | _=>exact h3.elim

def newOk(new:List Nat)(os o:OL):Prop:=
 match new with
 | []=>True
 | i::r=>(om os i=none/\(match om o i with | some x=>zie x=false | none=>True))/\newOk r os o
def hdOne(args:List AV)(t:TL)(j:Nat)(oi o':AO):List Nat->Prop
 | []=>False
 | u::us=>(match args[u]? with | some x=>x.handle=some j/\tm t u=x/\zht x oi o' | none=>False)\/hdOne args t j oi o' us
def hdL(args:List AV)(pins:List Nat)(os:OL)(t:TL)(new:List Nat):OL->Prop
 | []=>True
 | (j,o')::r=>(j∈new\/(match om os j with | some oi=>hdOne args t j oi o' pins | none=>False))/\hdL args pins os t new r
noncomputable def eRetG(P:Program)(rs:Array ResultVar)(pins:List Nat)(args:List AV)(os:OL)(PL:AV->OL->List Nat->Prop)(l new:List Nat)(r:Option (Prop×List AV))(t:TL)(o:OL):Prop:=
 match r with
 | some (vc,xs)=>vc/\PL (ztO xs) (zdb l o) new/\newOk new os o/\hdL args pins os t new (zdb l o)
 | none=>False
def ERetG(P:Program)(rs:Array ResultVar)(pins:List Nat)(args:List AV)(os:OL)(PL:AV->OL->List Nat->Prop)(t:TL)(o:OL):Prop:=
 ∃l new,eRetG P rs pins args os PL l new (resG P ⟨tm t,om o⟩ l rs.toList) t o
noncomputable def retGE(P:Program)(rs:Array ResultVar)(pins:List Nat)(args:List AV)(os:OL)(PL:AV->OL->List Nat->Prop):EQ
 | .ret,t,o=>ERetG P rs pins args os PL t o
 | .normal,t,o=>ERetG P rs pins args os PL t o
 | _,_,_=>False
theorem zyE{os o:OL}: ∀ {new:List Nat},newOk new os o-> ∀i∈new,om os i=none/\ ∀lim fam stop l rest,om o i≠some (.ext lim fam stop l rest)
 | k::r,h,i,hi=>by
  simp only[newOk]at h;rcases List.mem_cons.1 hi with rfl | hi
  ·refine⟨h.1.1,fun lim fam stop l rest e=> ?_⟩;have:=h.1.2;rw[e]at this;simp[zie]at this
  ·exact zyE h.2 i hi
theorem zy4{args:List AV}{t:TL}{j:Nat}{oi o':AO}: ∀ {pins:List Nat},hdOne args t j oi o' pins-> ∃u x,u∈pins/\args[u]? =some x/\x.handle=some j/\tm t u=x/\zht x oi o'
 | k::r,h=>by
  simp only[hdOne]at h;rcases h with h | h
  ·split at h
   ·rename_i x hx; exact⟨k,x,by simp,hx,h⟩
   ·exact h.elim
  ·obtain⟨u,x,h1,h2⟩:=zy4 h;exact⟨u,x,by simp[h1],h2⟩
theorem hdL_ok{args:List AV}{pins:List Nat}{os:OL}{t:TL}{new:List Nat}: ∀ {ol:OL},hdL args pins os t new ol-> ∀j o',om ol j=some o'->j∈new\/ ∃o u x,om os j=some o/\u∈pins/\args[u]? =some x/\x.handle=some j/\tm t u=x/\zht x o o'
 | [],_,j,o',h=>by simp[om]at h
 | (k,y)::r,h,j,o',ho=>by
  simp only[hdL]at h;simp only[om]at ho;split at ho
  ·rename_i e;cases ho;subst e;rcases h.1 with h1 | h1
   ·exact .inl h1
   ·split at h1
    ·rename_i oi hoi;obtain⟨u,x,h2⟩:=zy4 h1;exact .inr ⟨oi,u,x,hoi,h2⟩
    ·exact h1.elim
  ·exact hdL_ok h.2 j o' ho

theorem FnL.of_eC{P:Program}{f:Nat}{fn:Func}{code:Code}{args:List AV}{os:OL}{PL:AV->OL->List Nat->Prop}(L:Nat->List Gh){own:List (Nat×List (TypeId×Nat))}(pins:List Nat)(hmix:P.follows .mixedOrders =true)(hf:P.funcs[f]? =some fn)(hb:fn.body=some code)
  (hc: ∀as W,(callFunc f as).run P W= .ok (.enter f as) W) {N:Nat} (hN:fn.ntmps=N) (hN':args.length<=N) {rs:Array ResultVar} (hrs:fn.results=rs) (h:eC P ⟨N,pins,true,own⟩ L code (retGE P rs pins args os PL) (zpL 0 args) os):FnL P f args os PL:=by
 subst hN;subst hrs;refine FnG.intro' pins own hf hb (fun W as=>hc as W) hN' (AWp.mono (zfz hmix code _ _ _ h) ?_);rintro e σ ⟨t,o,rfl,h1⟩;have key:ERetG P fn.results pins args os PL t o-> ∃l new,match resG P ⟨tm t,om o⟩ l fn.results.toList with
   | some (vc,xs)=>vc/\(∃ol,drop (om o) l=om ol/\PL (ztO xs) ol new)/\(∀i∈new,om os i=none/\ ∀lim fam stop l rest,om o i≠some (.ext lim fam stop l rest))/\
     ∀j o',drop (om o) l j=some o'->j∈new\/ ∃o u x,om os j=some o/\u∈pins/\args[u]? =some x/\x.handle=some j/\tm t u=x/\zht x o o'
   | none=>False:=by
  rintro⟨l,new,h2⟩;refine⟨l,new,?_⟩;unfold eRetG at h2;split at h2
  ·rename_i vc xs hr;obtain⟨h3,h4,h5,h6⟩:=h2;exact⟨h3,⟨_,ze2 l o,h4⟩,zyE h5,fun j o' ho=>hdL_ok h6 j o' (by rw[<-ze2]; exact ho)⟩
  ·exact h2.elim
 cases e with
 | ret=>exact key h1
 | normal=>exact key h1
 | _=>exact h1.elim
end Go.Aw
