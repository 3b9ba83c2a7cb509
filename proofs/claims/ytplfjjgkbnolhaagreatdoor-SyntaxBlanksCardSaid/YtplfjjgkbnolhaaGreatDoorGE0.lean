/- Machinery. Conditions: those of each. -/
import Derived.Test.YtplfjjgkbnolhaaGreatDoorGJ
import Derived.Test.YtplfjjgkbnolhaaGreatDoorGZf
import Derived.Test.YtplfjjgkbnolhaaGreatDoorGZt
set_option linter.unusedSimpArgs false
set_option linter.unusedVariables false
/-
 THE SAME, ON STATES WRITTEN AS LISTS, FOR COMPUTING: every continuation is a named function that is laid open only when it is given its state.
 Conditions: none; over any program under 'mixedOrders'.
-/
namespace Go.Aw
open Go.RowKit

abbrev TL:=List (Nat×AV)
abbrev OL:=List (Nat×AO)
abbrev EK:=TL->OL->Prop
abbrev EQ:=Exit->TL->OL->Prop
def zlp(K:EK):St->Prop:=fun σ=> ∃t o,σ=⟨tm t,om o⟩/\K t o
def liftQ(Q:EQ):Exit->St->Prop:=fun e σ=> ∃t o,σ=⟨tm t,om o⟩/\Q e t o

def zfy(dst:Option Nat)(V:AV)(t:TL):TL:=match dst with | some d=>(d,V)::t | none=>t
def zjB(d:Nat):TL->Prop
 | []=>True
 | (_,x)::r=>x.noRef [d]/\zjB d r
def zjA(d:Nat):OL->Prop
 | []=>True
 | (i,x)::r=>i≠d/\x.noRef [d]/\zjA d r
def zdb(l:List Nat):OL->OL
 | []=>[]
 | (i,x)::r=>if i∈l then zdb l r else(i,x)::zdb l r

theorem zct(t:TL)(O O':zbI)(dst:Option Nat)(V:AV):St.put ⟨tm t,O⟩ dst V O'=⟨tm (zfy dst V t),O'⟩:=by
 cases dst with
 | none=>rfl
 | some d=>rfl
theorem addO_om(o:OL)(d:Nat)(n:Option AO):addO (om o) d n=om (match n with | some x=>(d,x)::o | none=>o):=by
 grind [addO,znY]
theorem zer{d:Nat}: ∀(t:TL),zjB d t-> ∀i,(tm t i).noRef [d]
 | [],_,_=>by simp[tm,AV.noRef]
 | (j,x)::r,h,i=>by
  simp only[tm];split
  ·exact h.1
  ·exact zer r h.2 i
theorem zeq{d:Nat}: ∀(o:OL),zjA d o->zff d (om o)
 | [],_=>⟨rfl,fun _ _ h=>by simp[om]at h⟩
 | (j,x)::r,h=>by
  obtain⟨h1,h2,h3⟩:=h;obtain⟨a1,a2⟩:=zeq r h3;refine⟨?_,?_⟩
  ·grind [om]
  grind [om]
theorem ze2(l:List Nat): ∀(o:OL),drop (om o) l=om (zdb l o)
 | []=>by funext i; simp[drop,om,zdb]
 | (j,x)::r=>by
  have ih:=ze2 l r;funext i;have ih':=congrFun ih i;grind [drop,om,zdb]

theorem zp5(id:Nat)(l:List Nat): ∀o:OL,zdb (id::l) o=zdb [id] (zdb l o)
 | []=>rfl
 | (j,x)::r=>by
  simp only[zdb];by_cases h1:j∈l
  ·simp only[h1,List.mem_cons,or_true,if_true]; exact zp5 id l r
  ·simp only[h1,List.mem_cons,or_false,if_false,zdb,List.not_mem_nil];rw[zp5 id l r]
theorem zkU(id:Nat)(x:AO)(l:List Nat)(o:OL):upd (om (zdb l o)) id (some x)=om ((id,x)::zdb (id::l) o):=by
 rw[zp5,<-znY,<-ze2 [id]];grind [upd,drop]

theorem iteE{b:Bool}{A B:Prop}(h:if b=true then A else B):(b=true->A)/\(b=false->B):=by grind
def eR(N:NP)(dst:Option Nat)(r:Option (Prop×AV×Option AO))(K:EK)(t:TL)(o:OL):Prop:=
 match r with
 | some (vc,V,none)=>vc/\zdc N dst/\K (zfy dst V t) o
 | some (vc,V,some x)=>vc/\(zjA (dst.getD 0) o/\zjB (dst.getD 0) t)/\zdc N dst/\K (zfy dst V t) ((dst.getD 0,x)::o)
 | none=>False
def zar(P:Program)(N:NP)(f:FuncId)(ds:List D)(ids:List Nat)(dst:Option Nat)(K:EK)(t:TL)(o:OL):Prop:=
 zdc N dst/\ ∃V,FnP P f ds V []/\zrv V=true/\K (zfy dst V t) (if flat V then o else zdb ids o)
def eF(P:Program)(N:NP)(f:FuncId)(dst:Option Nat)(r:Option (Prop×List D×List Nat))(K:EK)(t:TL)(o:OL):Prop:=
 match r with
 | some (vc,ds,ids)=>vc/\zar P N f ds ids dst K t o
 | none=>False
def eE(N:NP)(dst:Option Nat)(r:Option (Prop×AV×Nat×AO×List Nat×Bool))(K:EK)(t:TL)(o:OL):Prop:=
 match r with
 | some (vc,V,id,x,ids,isNew)=>vc/\(isNew=true->zjA (dst.getD 0) (zdb ids o)/\zjB (dst.getD 0) t)/\zdc N dst/\K (zfy dst V t) ((id,x)::zdb (id::ids) o)
 | none=>False
def zID(r:List (Nat×Nat)):OL->OL
 | []=>[]
 | (i,x)::l=>match lkN r i with
  | some j=>(j,x.ren r)::zID r l
  | none=>zID r l
def inR(r:List (Nat×Nat))(o:OL):OL->Prop
 | []=>True
 | (i,x)::l=>(match lkN r i with | some j=>om o j=some (x.ren r) | none=>False)/\inR r o l
def frR(os:OL)(t:TL)(o:OL):List (Nat×Nat)->Prop
 | []=>True
 | (i,j)::r=>(match om os i with | some _=>True | none=>zjA j o/\zjB j t)/\frR os t o r
def domR(r:List (Nat×Nat)):OL->Prop
 | []=>True
 | (i,_)::l=>(lkN r i).isSome =true/\domR r l
def newR(os:OL):List Nat->Prop
 | []=>True
 | i::l=>om os i=none/\newR os l
def FnL(P:Program)(f:FuncId)(args:List AV)(os:OL)(PL:AV->OL->List Nat->Prop):Prop:=FnG P f args (om os) fun V Oo new=> ∃ol,Oo=om ol/\PL V ol new
def eGc(P:Program)(N:NP)(f:FuncId)(args:List AV)(dst:Option Nat)(K:EK)(t:TL)(o:OL):Prop:=
 ∃(r:List (Nat×Nat)) (cargs:List AV) (os:OL) (PL:AV->OL->List Nat->Prop),FnL P f cargs os PL/\AV.renL r cargs=args/\zpV r/\inR r o os/\frR os t o r/\zdc N dst/\
  ∀V ol new,PL V ol new->domR r ol/\newR os new/\K (zfy dst (V.ren r) t) (zID r ol++zdb (r.map (·.2)) o)
def zBL(P:Program)(f:FuncId)(args:List AV)(os:OL)(PL:AV->OL->List Nat->Prop)(PX:Value->Prop):Prop:=FnX P f args (om os) (fun V Oo new=> ∃ol,Oo=om ol/\PL V ol new) PX
def eGx(P:Program)(N:NP)(f:FuncId)(args:List AV)(dst:Option Nat)(K:EK)(t:TL)(o:OL):Prop:=
 ∃(r:List (Nat×Nat)) (cargs:List AV) (os:OL) (PL:AV->OL->List Nat->Prop) (PX:Value->Prop),zBL P f cargs os PL PX/\AV.renL r cargs=args/\zpV r/\inR r o os/\frR os t o r/\zdc N dst/\
  (∀V ol new,PL V ol new->domR r ol/\newR os new/\K (zfy dst (V.ren r) t) (zID r ol++zdb (r.map (·.2)) o))/\ ∀v,PX v->N.px v (zdb (r.map (·.2)) o)
def EFn(P:Program)(N:NP)(f:FuncId)(args:List AV)(dst:Option Nat)(K:EK)(t:TL)(o:OL):Prop:=
 eF P N f dst (frz.frzL (om o) args) K t o\/eGc P N f args dst K t o\/eGx P N f args dst K t o
theorem EFn.p{P:Program}{N:NP}{f:FuncId}{args:List AV}{dst:Option Nat}{K:EK}{t:TL}{o:OL}(h:eF P N f dst (frz.frzL (om o) args) K t o):EFn P N f args dst K t o:=.inl h
theorem EFn.g{P:Program}{N:NP}{f:FuncId}{args:List AV}{dst:Option Nat}{K:EK}{t:TL}{o:OL}(h:eGc P N f args dst K t o):EFn P N f args dst K t o:=.inr (.inl h)
theorem EFn.x{P:Program}{N:NP}{f:FuncId}{args:List AV}{dst:Option Nat}{K:EK}{t:TL}{o:OL}(h:eGx P N f args dst K t o):EFn P N f args dst K t o:=.inr (.inr h)
def ePn(N:NP)(r:Option Value)(o:OL):Prop:=match r with | some v=>N.px v o | none=>False
def EYl(P:Program)(N:NP)(id:Nat)(lim:Nat)(fam:List (List D)->XJ lim)(stop:XJ lim)(l:Nat)(pre:List (List D))(xs:List D)(ids:List Nat)(dst:Option Nat)(K:EK)(t:TL)(o:OL):Prop:=
 ∃A,zr1 P lim fam stop l A/\A (pre++[xs])/\K (zfy dst (.d (.lit (.bool true))) t) ((id,.ext lim fam stop l (pre++[xs]))::zdb (id::ids) o)/\K (zfy dst (.d (.lit (.bool false))) t) ((id,.ext lim (fun _=>stop) stop l [])::zdb (id::ids) o)
def eY(P:Program)(N:NP)(id:Nat)(dst:Option Nat)(ob:Option AO)(r:Option (Prop×List D×List Nat))(K:EK)(t:TL)(o:OL):Prop:=
 match ob,r with
 | some (.ext lim fam stop l pre),some (vc,xs,ids)=>(vc/\id∉ids)/\zdc N dst/\EYl P N id lim fam stop l pre xs ids dst K t o
 | _,_=>False
def ENil(N:NP)(es:List (List D))(ng:Bool)(dst:Option Nat)(K:EK)(t:TL)(o:OL):Prop:=
 zdc N dst/\ ∀b:Bool,(b=true->es=[])->K (zfy dst (.d (.lit (.bool (b !=ng)))) t) o
def ENxt(N:NP)(id:Nat)(ks vs:List D)(bs:List Nat)(clock:Nat)(seen:List Nat)(dst:Option Nat)(K:EK)(t:TL)(o:OL):Prop:=
 zdc N dst/\(∀j,j<ks.length->j∉seen->K (zfy dst (.tup [.d (.lit (.bool true)),.d (ks.getD j default),.d (vs.getD j default)]) t) ((id,.it ks vs bs clock (seen++[j]))::zdb [id] o))/\
  ((∀j,j<ks.length->j∈seen)->K (zfy dst (.tup [.d (.lit (.bool false))]) t) o)
def isPn:Op->Bool
 | .panic _=>true
 | _=>false
noncomputable def eO(P:Program)(N:NP)(dst:Option Nat)(op:Op)(K:EK)(t:TL)(o:OL):Prop:=
 if isPn op=true then ePn N (pncE (St.ev (tm t)) op) o else
 match zpk P (zru N dst) (dst.getD 0) (St.ev (tm t)) (om o) op with
 | .call f args=>EFn P N f args dst K t o
 | .yld id args=>eY P N id dst (om o id) (frz.frzL (om o) args) K t o
 | .nil es ng=>ENil N es ng dst K t o
 | .nxt id ks vs bs clock seen=>ENxt N id ks vs bs clock seen dst K t o
 | .eff r=>eE N dst r K t o
 | .q =>eR N dst (zeu P (dst.getD 0) (St.ev (tm t)) (om o) op) K t o
noncomputable def eG(P:Program)(N:NP)(ops:Array Oper)(x:Oper)(K:EK)(t:TL)(o:OL):Prop:=
 match zcZ ops x (tm t)with
 | some (some b)=>if b=true then eO P N x.dst x.op K t o else zdc N x.dst/\K (zfy x.dst .und t) o
 | _=>False
noncomputable def eOps(P:Program)(N:NP)(ops:Array Oper):List Oper->EK->TL->OL->Prop
 | [],K,t,o=>K t o
 | x::rest,K,t,o=>eG P N ops x (eOps P N ops rest K) t o

def eR'(N:NP)(dst:Option Nat)(r:Option (Prop×AV×Option AO))(K:EK)(t:TL)(o:OL):Prop:=
 match r with
 | some (vc,V,none)=>vc/\zdc N dst/\K (zfy dst V t) o
 | _=>False
def zaz(P:Program)(N:NP)(f:FuncId)(ds:List D)(ids:List Nat)(dst:Option Nat)(K:EK)(t:TL)(o:OL):Prop:=
 zdc N dst/\ ∃V,FnP P f ds V []/\zrv V=true/\(flat V=true\/ids=[])/\K (zfy dst V t) o
def eF'(P:Program)(N:NP)(f:FuncId)(dst:Option Nat)(r:Option (Prop×List D×List Nat))(K:EK)(t:TL)(o:OL):Prop:=
 match r with
 | some (vc,ds,ids)=>vc/\zaz P N f ds ids dst K t o
 | none=>False
noncomputable def eO'(P:Program)(N:NP)(dst:Option Nat)(op:Op)(K:EK)(t:TL)(o:OL):Prop:=
 match zn3 (St.ev (tm t)) op with
 | some (f,as)=>eF' P N f dst (frz.frzL (om o) as) K t o
 | none=>eR' N dst (zeu P (dst.getD 0) (St.ev (tm t)) (om o) op) K t o
noncomputable def eG'(P:Program)(N:NP)(ops:Array Oper)(x:Oper)(K:EK)(t:TL)(o:OL):Prop:=
 match zcZ ops x (tm t)with
 | some (some b)=>if b=true then eO' P N x.dst x.op K t o else zdc N x.dst/\K (zfy x.dst .und t) o
 | _=>False
noncomputable def eDr(P:Program)(N:NP)(ops:Array Oper)(nA:Nat):Nat->List Oper->EK->TL->OL->Prop
 | _,[],K,t,o=>K t o
 | i,x::rest,K,t,o=>if i<nA then eG' P N ops x (eDr P N ops nA (i+1) rest K) t o else eG P N ops x (eDr P N ops nA (i+1) rest K) t o

def eBq(N:NP)(dst:Option Nat)(r:Option (Prop×AV))(K:EK)(t:TL)(o:OL):Prop:=
 match r with
 | some (vc,V)=>vc/\zdc N dst/\K (zfy dst V t) o
 | none=>False
noncomputable def eOz(P:Program)(N:NP)(dst:Option Nat)(op:Op)(K:EK)(t:TL)(o:OL):Prop:=
 match op with
 | .buildSlice ty len parts=>eBq N dst (bsQ P (St.ev (tm t)) (om o) ty len parts) K t o
 | op=>eO' P N dst op K t o
noncomputable def eGz(P:Program)(N:NP)(ops:Array Oper)(x:Oper)(K:EK)(t:TL)(o:OL):Prop:=
 match zcZ ops x (tm t)with
 | some (some b)=>if b=true then eOz P N x.dst x.op K t o else zdc N x.dst/\K (zfy x.dst .und t) o
 | _=>False
def sameAt(d:Nat)(V:AV)(t:TL)(_:OL):Prop:=tm t d=V
noncomputable def lateO(P:Program)(N:NP)(ops:Array Oper)(oi:Oper)(t:TL)(o:OL):Prop:=
 match oi.dst with
 | some d=>eGz P N ops oi (sameAt d (tm t d)) t o
 | none=>False
noncomputable def lateE(P:Program)(N:NP)(ops:Array Oper):List Nat->TL->OL->Prop
 | [],_,_=>True
 | i::l,t,o=>(match ops[i]? with | some oi=>lateO P N ops oi t o | none=>True)/\lateE P N ops l t o
noncomputable def lateK(P:Program)(N:NP)(ops:Array Oper)(l:List Nat)(K:EK)(t:TL)(o:OL):Prop:=lateE P N ops l t o/\K t o
noncomputable def eSo0(P:Program)(N:NP)(dst:Option Nat)(op:Op)(K:EK)(t:TL)(o:OL):Prop:=
 zlJ op=true/\match zl4 P (zru N dst) (dst.getD 0) (St.ev (tm t)) (om o) op with
 | some r=>eE N dst r K t o
 | none=>eR N dst (zeu P (dst.getD 0) (St.ev (tm t)) (om o) op) K t o
noncomputable def eSo(P:Program)(N:NP)(dst:Option Nat)(op:Op)(K:EK)(t:TL)(o:OL):Prop:=
 match zn3 (St.ev (tm t)) op with
 | some (f,as)=>EFn P N f as dst K t o
 | none=>eSo0 P N dst op K t o
noncomputable def eSg(P:Program)(N:NP)(ops:Array Oper)(x:Oper)(K:EK)(t:TL)(o:OL):Prop:=
 match zcZ ops x (tm t)with
 | some (some b)=>if b=true then eSo P N x.dst x.op K t o else zdc N x.dst/\K (zfy x.dst .und t) o
 | _=>False
noncomputable def eZ1(P:Program)(N:NP)(ops:Array Oper)(q:Option (List Nat))(x:Oper)(K:EK)(t:TL)(o:OL):Prop:=
 match q with
 | none=>eGz P N ops x K t o
 | some []=>eG P N ops x K t o
 | some (i::l)=>eSg P N ops x (lateK P N ops (i::l) K) t o
noncomputable def eZ(P:Program)(N:NP)(ops:Array Oper):List (Nat×Option (List Nat))->EK->TL->OL->Prop
 | [],K,t,o=>K t o
 | (k,q)::rest,K,t,o=>match ops[k]? with
  | some x=>eZ1 P N ops q x (eZ P N ops rest K) t o
  | none=>False
noncomputable def eEff(P:Program)(N:NP)(r:Ord)(ops:Array Oper)(k:Nat)(K:EK)(t:TL)(o:OL):Prop:=
 match ops[k]? with
 | some x=>eZ1 P N ops (some (r.lateOf k)) x K t o
 | none=>False
noncomputable def eZT(P:Program)(N:NP)(r:Ord)(ops:Array Oper):OT->EK->TL->OL->Prop
 | .nil,K,t,o=>K t o
 | .st k T,K,t,o=>if r.isQ k=true then(match ops[k]? with | some x=>eGz P N ops x (eZT P N r ops T K) t o | none=>False)else eEff P N r ops k (eZT P N r ops T K) t o
 | .fk k1 T1 k2 T2,K,t,o=>eEff P N r ops k1 (eZT P N r ops T1 K) t o/\eEff P N r ops k2 (eZT P N r ops T2 K) t o
def zk8(ops:Array Oper):List (Nat×Option (List Nat))->List Nat
 | []=>[]
 | (k,none)::rest=>match ops[k]? with
  | some x=>match x.dst with
   | some d=>d::zk8 ops rest
   | none=>zk8 ops rest
  | none=>zk8 ops rest
 | (_,some _)::rest=>zk8 ops rest
def zjR(ds:List Nat):TL->TL
 | []=>[]
 | (i,x)::r=>if i∈ds then zjR ds r else(i,x)::zjR ds r

theorem dropO_nil: ∀o:OL,zdb [] o=o
 | []=>rfl
 | (i,x)::r=>by simp[zdb,dropO_nil r]
theorem zuA(id:Nat)(x:AO)(o:OL):upd (om o) id (some x)=om ((id,x)::zdb [id] o):=by
 have:=zkU id x [] o;rwa [dropO_nil]at this
theorem inR_ok{r:List (Nat×Nat)}{o:OL}: ∀ {os:OL},inR r o os-> ∀i x,om os i=some x-> ∃j,lkN r i=some j/\om o j=some (x.ren r)
 | [],_,i,x,h=>by simp[om]at h
 | (k,y)::l,h,i,x,hx=>by
  simp only[inR]at h;simp only[om]at hx;split at hx
  ·grind
  ·exact inR_ok h.2 i x hx
theorem frR_ok{os:OL}{t:TL}{o:OL}: ∀ {r:List (Nat×Nat)},frR os t o r-> ∀i j,(i,j)∈r->om os i=none->zjA j o/\zjB j t
 | (a,b)::r,h,i,j,hm,hn=>by
  simp only[frR]at h;rcases List.mem_cons.1 hm with h' | h'
  ·simp_all
  ·exact frR_ok h.2 i j h' hn
theorem domR_ok{r:List (Nat×Nat)}: ∀ {ol:OL},domR r ol-> ∀i x,om ol i=some x-> ∃j,lkN r i=some j
 | [],_,i,x,h=>by simp[om]at h
 | (k,y)::l,h,i,x,hx=>by
  simp only[domR]at h;simp only[om]at hx;split at hx
  ·grind [Option.isSome_iff_exists]
  ·exact domR_ok h.2 i x hx
theorem newR_ok{os:OL}: ∀ {l:List Nat},newR os l-> ∀i∈l,om os i=none
 | k::l,h,i,hi=>by
  simp only[newR]at h;rcases List.mem_cons.1 hi with rfl | hi
  ·exact h.1
  ·exact newR_ok h.2 i hi
theorem om_append(a b:OL)(i:Nat):om (a++b) i=match om a i with | some x=>some x | none=>om b i:=by
 induction a with
 | nil=>rfl
 | cons p a ih=>
  grind [om]
theorem ztF{r:List (Nat×Nat)}(hr:zpV r){i j:Nat}(hij:lkN r i=some j): ∀ol:OL,om (zID r ol) j=(om ol i).map (AO.ren r)
 | []=>rfl
 | (k,x)::l=>by
  simp only[zID,om];cases hk:lkN r k with
  | none=>
   simp only[ztF hr hij l];grind
  | some j'=>
   simp only[om];by_cases e:i=k
   ·simp_all
   ·have:j≠j':=by
     rintro rfl;have e1:=hr.iff.1 hij;rw[hr.iff.1 hk]at e1;simp_all
    rw[if_neg this,if_neg e];exact ztF hr hij l
theorem zjC{r:List (Nat×Nat)}{j:Nat}(hj: ∀i,lkN r i≠some j): ∀ol:OL,om (zID r ol) j=none
 | []=>rfl
 | (k,x)::l=>by
  simp only[zID];cases hk:lkN r k with
  | none=>exact zjC hj l
  | some j'=>
   simp only[om];rw[if_neg (by grind)];exact zjC hj l
theorem zpt(l:List Nat)(o:OL)(j:Nat):om (zdb l o) j=if j∈l then none else om o j:=by rw[<-ze2]; rfl
theorem zIm{r:List (Nat×Nat)}(hr:zpV r)(o ol:OL):zhK (om o) r (om ol)=om (zID r ol++zdb (r.map (·.2)) o):=by
 funext j;unfold zhK;rw[om_append,zpt];cases hj:lkI r j with
 | some i=>
  have hij:=hr.iff.2 hj;rw[ztF hr hij];have hm:j∈r.map (·.2):=List.mem_map.2 ⟨(i,j),zqv hij,rfl⟩;grind
 | none=>
  rw[zjC (fun i h=>by rw[hr.iff.1 h]at hj; cases hj)];have hm:j∉r.map (·.2):=by
   intro h;obtain⟨p,hp,rfl⟩:=List.mem_map.1 h;rw[zqu hr.2 hp]at hj;cases hj
  grind

theorem EFn_wp{P:Program}{N:NP}{f:FuncId}{args:List AV}{dst:Option Nat}{K:EK}{t:TL}{o:OL}(h:EFn P N f args dst K t o):cwp P N f args dst ⟨tm t,om o⟩ (zlp K)\/gcall P N f args dst ⟨tm t,om o⟩ (zlp K)\/zGW P N f args dst ⟨tm t,om o⟩ (zlp K):=by
 rcases h with h | h | h
 ·left;unfold eF at h;unfold cwp;split at h
  ·rename_i vc ds ids hs;obtain⟨h1,h2,V,h3,h4,h5⟩:=h;rw[hs];refine⟨h1,h2,V,h3,h4,?_⟩;rw[zct];split at h5
   ·rename_i hf; simp only[hf,if_true]; exact⟨_,_,rfl,h5⟩
   ·rename_i hf;simp only[hf];exact⟨_,_,by rw[<-ze2]; rfl,h5⟩
  grind
 ·right; left;obtain⟨r,ca,os,PL,h1,h2,h3,h4,h5,h6,h7⟩:=h;refine⟨r,ca,om os,_,h1,h2,h3,inR_ok h4,fun i j hij hn=> ?_,h6,?_⟩
  ·obtain⟨a1,a2⟩:=frR_ok h5 i j (zqv hij) hn;exact⟨zeq _ a1,zer _ a2⟩
  ·rintro V Oo new ⟨ol,rfl,hp⟩;obtain⟨b1,b2,b3⟩:=h7 V ol new hp;refine⟨domR_ok b1,newR_ok b2,?_⟩;rw[zct,zIm h3];exact⟨_,_,rfl,b3⟩
 ·right; right;obtain⟨r,ca,os,PL,PX,h1,h2,h3,h4,h5,h6,h7,h8⟩:=h;refine⟨r,ca,om os,_,PX,h1,h2,h3,inR_ok h4,fun i j hij hn=> ?_,h6,?_,fun v hv=>⟨_,?_,h8 v hv⟩⟩
  ·obtain⟨a1,a2⟩:=frR_ok h5 i j (zqv hij) hn;exact⟨zeq _ a1,zer _ a2⟩
  ·rintro V Oo new ⟨ol,rfl,hp⟩;obtain⟨b1,b2,b3⟩:=h7 V ol new hp;refine⟨domR_ok b1,newR_ok b2,?_⟩;rw[zct,zIm h3];exact⟨_,_,rfl,b3⟩
  ·have:=zIm (o:=o) (ol:=[]) h3;simpa [zID,om]using this
theorem eO_owp{P:Program}{N:NP}{x:Oper}{K:EK}{t:TL}{o:OL}(h:eO P N x.dst x.op K t o):owp P N x ⟨tm t,om o⟩ (zlp K):=by
 unfold eO at h;unfold owp;split at h
 ·left;unfold ePn at h;split at h
  ·rename_i v hv; exact⟨v,hv,o,rfl,h⟩
  ·exact h.elim
 right;obtain⟨k,hk⟩: ∃k,zpk P (zru N x.dst) (x.dst.getD 0) (St.ev (tm t)) (om o) x.op=k:=⟨_,rfl⟩;simp only[hk]at h ⊢;cases k with
 | call f args=>exact EFn_wp h
 | yld id args=>
  simp only at h ⊢;unfold eY at h;unfold ywp;split at h
  ·rename_i lim fam stop l pre vc xs ids ho hs;obtain⟨h1,h2,A,h3,h4,h5,h6⟩:=h;simp only[ho,hs];refine⟨h1,h2,A,h3,h4,?_,?_⟩
   ·rw[zct,ze2,zkU]; exact⟨_,_,rfl,h5⟩
   ·rw[zct,ze2,zkU]; exact⟨_,_,rfl,h6⟩
  grind
 | nil es ng=>
  refine⟨h.1,fun b hb=> ?_⟩;rw[zct];exact⟨_,_,rfl,h.2 b hb⟩
 | nxt id ks vs bs clock seen=>
  refine⟨h.1,fun j h1 h2=> ?_,fun h1=> ?_⟩
  ·rw[zct,zuA];exact⟨_,_,rfl,h.2.1 j h1 h2⟩
  ·rw[zct];exact⟨_,_,rfl,h.2.2 h1⟩
 | eff r=>
  simp only at h ⊢;unfold eE at h;unfold ewp;split at h
  ·obtain⟨h1,h2,h3,h4⟩:=h;refine⟨h1,fun e=>⟨?_,zer t (h2 e).2⟩,h3,?_⟩
   ·grind [ze2,zeq]
   ·rw[zct];refine⟨_,_,?_,h4⟩;rw[ze2,zkU]
  omega
 | q=>
  simp only at h ⊢;unfold qwp;unfold eR at h;split at h
  ·rename_i vc V hs;obtain⟨h1,h2,h3⟩:=h;simp only[hs];refine⟨h1,by simp,h2,?_⟩;rw[zct];exact⟨_,_,rfl,h3⟩
  ·rename_i vc V y hs;obtain⟨h1,⟨h4,h5⟩,h2,h3⟩:=h;simp only[hs];refine⟨h1,fun _=>⟨zeq o h4,zer t h5⟩,h2,?_⟩;rw[zct,addO_om];exact⟨_,_,rfl,h3⟩
  grind
theorem eG_gwp{P:Program}{N:NP}{ops:Array Oper}{x:Oper}{K:EK}{t:TL}{o:OL}(h:eG P N ops x K t o):gwp P N ops x ⟨tm t,om o⟩ (zlp K):=by
 unfold eG at h;unfold gwp;split at h
 ·rename_i b hb;rw[hb]
  replace h:=iteE h
  refine⟨fun e=>eO_owp (h.1 e),fun e=>⟨(h.2 e).1,?_⟩⟩;rw[zct];exact⟨_,_,rfl,(h.2 e).2⟩
 grind
theorem eO'_qdwp{P:Program}{N:NP}{x:Oper}{K:EK}{t:TL}{o:OL}(h:eO' P N x.dst x.op K t o):qdwp P N x ⟨tm t,om o⟩ (zlp K):=by
 unfold eO' at h;unfold qdwp;split at h
 ·rename_i f as hop;simp only[hop];unfold eF' at h;split at h
  ·rename_i vc ds ids hs;obtain⟨h1,h2,V,h3,h4,h5,h6⟩:=h;simp only[hs];refine⟨h1,h2,V,h3,h4,h5,?_⟩;rw[zct];exact⟨_,_,rfl,h6⟩
  grind
 ·rename_i hno;simp only[hno];unfold eR' at h;split at h
  ·rename_i vc V hs;obtain⟨h1,h2,h3⟩:=h;simp only[hs];refine⟨h1,h2,?_⟩;rw[zct];exact⟨_,_,rfl,h3⟩
  grind
theorem eG'_qgwp{P:Program}{N:NP}{ops:Array Oper}{x:Oper}{K:EK}{t:TL}{o:OL}(h:eG' P N ops x K t o):qgwp P N ops x ⟨tm t,om o⟩ (zlp K):=by
 unfold eG' at h;unfold qgwp;split at h
 ·rename_i b hb;rw[hb]
  replace h:=iteE h
  refine⟨fun e=>eO'_qdwp (h.1 e),fun e=>⟨(h.2 e).1,?_⟩⟩;rw[zct];exact⟨_,_,rfl,(h.2 e).2⟩
 grind
theorem qgwp_mono{P:Program}{N:NP}{ops:Array Oper}{o:Oper}{σ:St}{K K':St->Prop}(h:qgwp P N ops o σ K)(hk: ∀σ,K σ->K' σ):qgwp P N ops o σ K':=by
 grind [zlA]
theorem eOps_lwp{P:Program}{N:NP}{ops:Array Oper}{K:EK}: ∀(l:List Oper) (t:TL) (o:OL),eOps P N ops l K t o->lwp P N ops l ⟨tm t,om o⟩ (zlp K)
 | [],t,o,h=>⟨t,o,rfl,h⟩
 | x::rest,t,o,h=>by
  simp only[eOps]at h;simp only[lwp];refine zhp (eG_gwp h) ?_;rintro σ ⟨t',o',rfl,h'⟩;exact eOps_lwp rest t' o' h'
theorem zwP{P:Program}{N:NP}{nA:Nat}{ops:Array Oper}{K:EK}: ∀(l:List Oper) (i:Nat) (t:TL) (o:OL),eDr P N ops nA i l K t o->dlwp P N ops nA i l ⟨tm t,om o⟩ (zlp K)
 | [],_,t,o,h=>⟨t,o,rfl,h⟩
 | x::rest,i,t,o,h=>by
  simp only[eDr]at h;simp only[dlwp];split
  ·rename_i hi;simp only[hi,if_true]at h;refine qgwp_mono (eG'_qgwp h) ?_;rintro σ ⟨t',o',rfl,h'⟩;exact zwP rest (i+1) t' o' h'
  ·rename_i hi;simp only[hi,if_false]at h;refine zhp (eG_gwp h) ?_;rintro σ ⟨t',o',rfl,h'⟩;exact zwP rest (i+1) t' o' h'

theorem eO'_qdet{P:Program}{N:NP}{x:Oper}{K:EK}{t:TL}{o:OL}(h:eO' P N x.dst x.op K t o): ∃V,qdet P x ⟨tm t,om o⟩ V/\zdc N x.dst/\K (zfy x.dst V t) o:=by
 unfold eO' at h;unfold qdet;split at h
 ·rename_i f as hop;simp only[hop];unfold eF' at h;split at h
  ·rename_i vc ds ids hs;obtain⟨h1,h2,V,h3,h4,h5,h6⟩:=h;grind
  grind
 ·rename_i hno;simp only[hno];unfold eR' at h;grind
theorem eOz_ZY{P:Program}{N:NP}{x:Oper}{K:EK}{t:TL}{o:OL}(h:eOz P N x.dst x.op K t o): ∃V,zdet P x ⟨tm t,om o⟩ V/\zdc N x.dst/\K (zfy x.dst V t) o:=by
 unfold eOz at h;split at h
 ·rename_i ty len parts ho;unfold eBq at h;grind [zdet]
 grind [eO'_qdet,zdet]
theorem eGz_ZY{P:Program}{N:NP}{ops:Array Oper}{x:Oper}{K:EK}{t:TL}{o:OL}(h:eGz P N ops x K t o): ∃V,ZY P N ops x V ⟨tm t,om o⟩/\K (zfy x.dst V t) o:=by
 unfold eGz at h;split at h
 ·rename_i b hb;cases b with
  | true=>
   simp only[if_true]at h;obtain⟨V,h1,h2,h3⟩:=eOz_ZY h;exact⟨V,⟨h2,.inl ⟨hb,h1⟩⟩,h3⟩
  | false=>
   simp only[Bool.false_eq_true,if_false]at h;exact⟨.und,⟨h.1,.inr ⟨hb,rfl⟩⟩,h.2⟩
 grind
theorem zoo{P:Program}{N:NP}{ops:Array Oper}: ∀(l:List Nat) (t:TL) (o:OL),lateE P N ops l t o->lateA P N ops l ⟨tm t,om o⟩
 | [],_,_,_=>fun i hi=>by cases hi
 | k::l,t,o,h=>fun i hi oi hoi=>by
  simp only[lateE]at h;rcases List.mem_cons.1 hi with rfl | hi
  ·grind [lateO,eGz_ZY,tm,sameAt,zfy]
  ·exact zoo l t o h.2 i hi oi hoi
theorem eE_ewp{N:NP}{x:Oper}{r:Option (Prop×AV×Nat×AO×List Nat×Bool)}{K:EK}{t:TL}{o:OL}(h:eE N x.dst r K t o):ewp N x r ⟨tm t,om o⟩ (zlp K):=by
 unfold eE at h;unfold ewp;split at h
 ·rename_i vc V id y ids isNew;obtain⟨h1,h2,h3,h4⟩:=h;refine⟨h1,fun e=> ?_,h3,?_⟩
  ·grind [ze2,zeq,zer]
  ·rw[zct,ze2,zkU];exact⟨_,_,rfl,h4⟩
 omega
theorem eR_qwp{P:Program}{N:NP}{x:Oper}{K:EK}{t:TL}{o:OL}(h:eR N x.dst (zeu P (x.dst.getD 0) (St.ev (tm t)) (om o) x.op) K t o):qwp P N x ⟨tm t,om o⟩ (zlp K):=by
 unfold eR at h;unfold qwp;split at h
 ·rename_i vc V hs;obtain⟨h1,h2,h3⟩:=h;rw[hs];refine⟨h1,fun e=>(by cases e),h2,?_⟩;rw[zct];exact⟨_,_,rfl,h3⟩
 ·rename_i vc V y hs;obtain⟨h1,⟨h2,h2'⟩,h3,h4⟩:=h;rw[hs];refine⟨h1,fun _=>⟨zeq _ h2,zer _ h2'⟩,h3,?_⟩;rw[zct];simp only[addO,znY];exact⟨_,_,rfl,h4⟩
 grind
theorem zIa{P:Program}{N:NP}{ops:Array Oper}{x:Oper}{K:EK}{t:TL}{o:OL}(h:eSg P N ops x K t o):sgwp P N ops x ⟨tm t,om o⟩ (zlp K):=by
 unfold eSg at h;unfold sgwp;split at h
 ·rename_i b hb;rw[hb]
  replace h:=iteE h
  refine⟨fun e=> ?_,fun e=>⟨(h.2 e).1,?_⟩⟩
  ·have h':=h.1 e;unfold eSo at h';split at h'
   ·rename_i f as hop;refine .inr ⟨f,as,hop,?_⟩;grind [EFn_wp]
   obtain⟨h1,h2⟩:=h';refine .inl ⟨h1,?_⟩;grind [eE_ewp,eR_qwp]
  ·rw[zct];exact⟨_,_,rfl,(h.2 e).2⟩
 grind
theorem zsA{P:Program}{N:NP}{ops:Array Oper}{r:Ord}{K:EK}(hlk: ∀p∈r.steps,r.steps.lookup p.1=some p.2): ∀(l:List (Nat×Option (List Nat))) (hl: ∀p∈l,p∈r.steps) (t:TL) (o:OL),eZ P N ops l K t o->zlwp P N r ops (l.map (·.1)) ⟨tm t,om o⟩ (zlp K)
 | [],_,t,o,h=>⟨t,o,rfl,h⟩
 | (k,q)::rest,hl,t,o,h=>by
  have hk:=hlk (k,q) (hl _ (by simp));have hl': ∀p∈rest,p∈r.steps:=fun p hp=>hl p (List.mem_cons_of_mem _ hp);simp only[eZ]at h;simp only[List.map_cons,zlwp];split at h
  case h_2=>exact h.elim
  rename_i x hx;rw[hx];simp only at hk;unfold eZ1 at h;cases q with
  | none=>
   have hq:r.isQ k=true:=by unfold Ord.isQ; rw[hk]
   simp only[hq,if_true]at h ⊢;obtain⟨V,h1,h2⟩:=eGz_ZY h;refine⟨V,h1,?_⟩;rw[zct];exact zsA hlk rest hl' _ _ h2
  | some l=>
   have hq:r.isQ k=false:=by unfold Ord.isQ; rw[hk]
   have hlo:r.lateOf k=l:=by unfold Ord.lateOf; rw[hk]
   cases l with
   | nil=>
    simp only[hq,hlo,Bool.false_eq_true,if_false,if_true]at h ⊢;refine zhp (eG_gwp h) ?_;rintro σ' ⟨t',o',rfl,h'⟩;exact zsA hlk rest hl' t' o' h'
   | cons i l=>
    simp only[hq,hlo,Bool.false_eq_true,if_false,List.cons_ne_nil]at h ⊢;refine zja (zIa h) ?_;rintro σ' ⟨t',o',rfl,h',h''⟩;exact⟨zoo _ _ _ h',zsA hlk rest hl' t' o' h''⟩
theorem eEff_ok{P:Program}{N:NP}{ops:Array Oper}{r:Ord}{k:Nat}{K:EK}{K':St->Prop}{t:TL}{o:OL}(hk: ∀t o,K t o->K' ⟨tm t,om o⟩)(h:eEff P N r ops k K t o):zEff P N r ops k ⟨tm t,om o⟩ K':=by
 unfold eEff at h;unfold zEff;split at h
 case h_2=>exact h.elim
 rename_i x hx;rw[hx];unfold eZ1 at h;cases hl:r.lateOf k with
 | nil=>
  rw[hl]at h;simp only[if_true];refine zhp (eG_gwp h) ?_;rintro σ' ⟨t',o',rfl,h'⟩;exact hk t' o' h'
 | cons i l=>
  rw[hl]at h;simp only[List.cons_ne_nil,if_false];refine zja (zIa h) ?_;rintro σ' ⟨t',o',rfl,h1,h2⟩;exact⟨zoo _ _ _ h1,hk t' o' h2⟩
theorem eZT_zT{P:Program}{N:NP}{ops:Array Oper}{r:Ord}{K:EK}: ∀(T:OT) (t:TL) (o:OL),eZT P N r ops T K t o->zT P N r ops T ⟨tm t,om o⟩ (zlp K)
 | .nil,t,o,h=>⟨t,o,rfl,h⟩
 | .st k T,t,o,h=>by
  simp only[eZT]at h;simp only[zT];by_cases hq:r.isQ k=true
  ·simp only[hq,if_true]at h ⊢;split at h
   case h_2=>exact h.elim
   rename_i x hx;rw[hx];obtain⟨V,h1,h2⟩:=eGz_ZY h;refine⟨V,h1,?_⟩;rw[zct];exact eZT_zT T _ _ h2
  ·simp only[hq,if_false]at h ⊢;have:=eEff_ok (K':=fun σ'=>zT P N r ops T σ' (zlp K)) (fun t o h=>eZT_zT T t o h) h;cases hx:ops[k]? with
   | none=>unfold zEff at this; rw[hx]at this; exact this.elim
   | some x=>exact this
 | .fk k1 T1 k2 T2,t,o,h=>⟨eEff_ok (fun t o h=>eZT_zT T1 t o h) h.1,eEff_ok (fun t o h=>eZT_zT T2 t o h) h.2⟩
theorem zmn{ops:Array Oper}: ∀(l:List (Nat×Option (List Nat))) {i:Nat} {oi:Oper} {d:Nat},(i,none)∈l->ops[i]? =some oi->oi.dst=some d->d∈zk8 ops l
 | [],_,_,_,h,_,_=>by cases h
 | (k,none)::rest,i,oi,d,h,hoi,hd=>by
  rcases List.mem_cons.1 h with e | h
  ·grind [zk8]
  ·have ih:=zmn rest h hoi hd;grind [zk8]
 | (k,some l)::rest,i,oi,d,h,hoi,hd=>by
  rcases List.mem_cons.1 h with e | h
  ·cases e
  ·exact zmn rest h hoi hd
theorem zrJ(ds:List Nat): ∀(t:TL) (i:Nat),tm (zjR ds t) i=if i∈ds then .dead else tm t i
 | [],i=>by simp[zjR,tm]
 | (j,x)::r,i=>by
  have ih:=zrJ ds r i;grind [zjR,tm]
theorem zqt(t:TL)(ds:List Nat){d:Nat}(h:d∈ds):tm (zjR ds t) d= .dead :=by rw[zrJ,if_pos h]
theorem zpj(t:TL)(ds:List Nat)(o:OL):Sub ⟨tm t,om o⟩ ⟨tm (zjR ds t),om o⟩:=by
 grind [znd,zrJ]

def fltOk1(P:Program)(N:NP)(x:Option (Nat×TypeId)):Prop:=
 match x with
 | some (d,t)=>zdc N (some d)/\(zad P t).isSome =true
 | none=>False
def fltOk(P:Program)(N:NP)(ops:Array Oper):List Nat->Prop
 | []=>True
 | i::l=>fltOk1 P N (flB ops i)/\fltOk P N ops l
def fltD1(x:Option (Nat×TypeId))(l:List Nat):List Nat:=
 match x with
 | some (d,_)=>d::l
 | none=>l
def fltD(ops:Array Oper):List Nat->List Nat
 | []=>[]
 | i::l=>fltD1 (flB ops i) (fltD ops l)
def eRv2(d:Nat)(z:Option (List Value))(K:EK)(t:TL)(o:OL):Prop:=
 match z with
 | some z=>(zjA d o/\zjB d t)/\K ((d,.bp d 0)::t) ((d,.box (z.map zdB))::o)
 | none=>False
def eRv1(P:Program)(x:Option (Nat×TypeId))(K:EK)(t:TL)(o:OL):Prop:=
 match x with
 | some (d,ty)=>eRv2 d (zad P ty) K t o
 | none=>False
def eRv(P:Program)(ops:Array Oper):List Nat->EK->TL->OL->Prop
 | [],K,t,o=>K t o
 | i::l,K,t,o=>eRv1 P (flB ops i) (eRv P ops l K) t o
noncomputable def eZF(P:Program)(N:NP)(ops:Array Oper)(fl:List (Nat×List Nat)):List (Nat×Option (List Nat))->EK->TL->OL->Prop
 | [],K,t,o=>K t o
 | (k,none)::rest,K,t,o=>match ops[k]? with
  | some x=>eGz P N ops x (eZF P N ops fl rest K) t o
  | none=>False
 | (k,some l)::rest,K,t,o=>match ops[k]? with
  | some x=>eRv P ops ((lkN fl k).getD []) (eZ1 P N ops (some l) x (eZF P N ops fl rest K)) t o
  | none=>False
theorem fltOk_ok{P:Program}{N:NP}{ops:Array Oper}{f:Flo}(h:fltOk P N ops f.fs):fltS P N ops f:=by
 have: ∀l,fltOk P N ops l-> ∀i∈l,∃d t z,flB ops i=some (d,t)/\zad P t=some z/\zdc N (some d):=by
  intro l
  induction l with
  | nil=>simp_all
  | cons j l ih=>
   intro h i hi;rcases List.mem_cons.1 hi with rfl | hi
   ·have h1:=h.1;unfold fltOk1 at h1;grind [Option.isSome_iff_exists]
   ·exact ih h.2 i hi
 exact this f.fs h
theorem fltD_mem{ops:Array Oper}{i d:Nat}{t:TypeId}(h:flB ops i=some (d,t)): ∀ {l:List Nat},i∈l->d∈fltD ops l
 | j::l,hi=>by
  rcases List.mem_cons.1 hi with rfl | hi
  ·grind [fltD,fltD1]
  ·have:=fltD_mem h hi;simp only[fltD];unfold fltD1;grind
theorem zvH{α:Type}(k:Nat): ∀l:List (Nat×α),lkN l k=l.lookup k
 | []=>rfl
 | (i,x)::l=>by
  rw[List.lookup_cons];simp only[lkN];by_cases h:k=i
  ·subst h; simp
  ·have:(k==i)=false:=by simpa using h
   rw[if_neg h,this,zvH k l]
theorem eRv_rvl{P:Program}{ops:Array Oper}{K:EK}{K':St->Prop}(hk: ∀t o,K t o->K' ⟨tm t,om o⟩): ∀(l:List Nat) (t:TL) (o:OL),eRv P ops l K t o->rvl P ops l K' ⟨tm t,om o⟩
 | [],t,o,h=>hk t o h
 | i::l,t,o,h=>by
  simp only[eRv]at h;unfold eRv1 at h;split at h
  ·rename_i d ty hd;unfold eRv2 at h;split at h
   ·rename_i z hz;obtain⟨⟨h1,h2⟩,h3⟩:=h;refine⟨d,ty,z,hd,hz,⟨zeq o h1,zer t h2⟩,?_⟩;have:=eRv_rvl hk l _ _ h3;rw[<-znY]at this;exact(zct t (om o) _ (some d) (.bp d 0)).symm ▸this
   grind
  grind
theorem zo3{P:Program}{N:NP}{ops:Array Oper}{r:Ord}{f:Flo}{K:EK}(hlk: ∀p∈r.steps,r.steps.lookup p.1=some p.2): ∀(l:List (Nat×Option (List Nat))) (hl: ∀p∈l,p∈r.steps) (t:TL) (o:OL),eZF P N ops f.of l K t o->zx1 P N r f ops (l.map (·.1)) ⟨tm t,om o⟩ (zlp K)
 | [],_,t,o,h=>⟨t,o,rfl,h⟩
 | (k,none)::rest,hl,t,o,h=>by
  have hk:=hlk (k,none) (hl _ (by simp));have hl': ∀p∈rest,p∈r.steps:=fun p hp=>hl p (List.mem_cons_of_mem _ hp);simp only[eZF]at h;simp only[List.map_cons,zx1];split at h
  case h_2=>exact h.elim
  rename_i x hx;rw[hx];have hq:r.isQ k=true:=by unfold Ord.isQ; rw[hk]
  simp only[hq,if_true];obtain⟨V,h1,h2⟩:=eGz_ZY h;refine⟨V,h1,?_⟩;rw[zct];exact zo3 hlk rest hl' _ _ h2
 | (k,some l)::rest,hl,t,o,h=>by
  have hk:=hlk (k,some l) (hl _ (by simp));have hl': ∀p∈rest,p∈r.steps:=fun p hp=>hl p (List.mem_cons_of_mem _ hp);simp only[eZF]at h;simp only[List.map_cons,zx1];split at h
  case h_2=>exact h.elim
  rename_i x hx;rw[hx];have hq:r.isQ k=false:=by unfold Ord.isQ; rw[hk]
  have hlo:r.lateOf k=l:=by unfold Ord.lateOf; rw[hk]
  simp only[hq,Bool.false_eq_true,if_false,hlo];have hget:(lkN f.of k).getD []=f.get k:=by rw[zvH]; rfl
  rw[hget]at h;refine eRv_rvl (fun t o h=> ?_) _ _ _ h;unfold eZ1 at h;cases l with
  | nil=>
   simp only at h;simp only[if_true];refine zhp (eG_gwp h) ?_;rintro σ' ⟨t',o',rfl,h'⟩;exact zo3 hlk rest hl' t' o' h'
  | cons i l=>
   simp only at h;simp only[List.cons_ne_nil,if_false];refine zja (zIa h) ?_;rintro σ' ⟨t',o',rfl,h',h''⟩;exact⟨zoo _ _ _ h',zo3 hlk rest hl' t' o' h''⟩
end Go.Aw
