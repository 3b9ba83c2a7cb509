/- Machinery. Conditions: those of each. -/
import Derived.Test.YtplfjjgkbnolhaaGreatDoorGE0
set_option linter.unusedSimpArgs false
set_option linter.unusedVariables false
/-
 CHAINS OF && AND ||: operations under a guard whose truth nobody knows are walked once; what they yield is kept with its condition.
 Conditions: none; over any program under 'mixedOrders'.
-/
namespace Go.Aw
open Go.RowKit

abbrev CT:=List (Nat×Nat×Bool×Bool×AV)
abbrev CK:=CT->TL->OL->Prop
def ctT:CT->TL->TL
 | [],t=>t
 | (d,_,_,pc,V)::r,t=>(d,bif pc then V else .und)::ctT r t
def zp2:CT->Nat->Bool->List (Nat×Bool)
 | [],g,v=>[(g,v)]
 | (d,g',v',_,_)::r,g,v=>if d=g then(g,v)::zp2 r g' v' else zp2 r g v
def inCh(g:Nat)(v:Bool):List (Nat×Bool)->Bool
 | []=>false
 | (g',v')::r=>(decide (g=g')&&(v==v'))||inCh g v r
def visT:CT->List (Nat×Bool)->TL->TL
 | [],_,t=>t
 | (d,g,v,pc,V)::r,ch,t=>(d,if inCh g v ch=true then V else bif pc then V else .und)::visT r ch t
def pcC(pc v:Bool)(V:AV):Option Bool:=
 match V with
 | .d (.lit (.bool b))=>some (pc&&(b==v))
 | _=>none
def pcOf:CT->TL->Nat->Bool->Option Bool
 | [],t,g,v=>match tm t g with
  | .d (.lit (.bool b))=>some (b==v)
  | .und =>some false
  | _=>none
 | (d,_,_,pc,V)::r,t,g,v=>if d=g then pcC pc v V else pcOf r t g v
def zmw(d:Nat):CT->Bool
 | []=>true
 | (d',g,_,_,_)::r=> !decide (d=d')&&(!decide (d=g)&&zmw d r)
def pkV(b:Bool)(X Y:AV):AV:=
 match X,Y with
 | .d (.lit (.bool u)),.d (.lit (.bool w))=>.d (.lit (.bool (bif b then u else w)))
 | X,Y=>bif b then X else Y
theorem pkV_eq(b:Bool)(X Y:AV):pkV b X Y=bif b then X else Y:=by
 unfold pkV;split <;> cases b <;> rfl
def eCQ(pc:Bool)(r:Option (Prop×AV×Option AO))(K:AV->Prop):Prop:=
 match r with
 | some (vc,V,none)=>(pc=true->vc)/\K V
 | _=>False
def eCB(pc:Bool)(r:Option (Prop×AV))(K:AV->Prop):Prop:=
 match r with
 | some (vc,V)=>(pc=true->vc)/\K V
 | none=>False
def za3(P:Program)(f:FuncId)(pc:Bool)(ds:List D)(ids:List Nat)(K:AV->Prop):Prop:= ∃V,(pc=true->FnP P f ds V [])/\zrv V=true/\(flat V=true\/ids=[])/\K V
theorem za3.i{P:Program}{f:FuncId}{pc:Bool}{ds:List D}{ids:List Nat}{K:AV->Prop}{V:AV}(hc:pc=true->FnP P f ds V [])(h:zrv V=true/\(flat V=true\/ids=[])/\K V):za3 P f pc ds ids K:=⟨V,hc,h⟩
def eCF(P:Program)(f:FuncId)(pc:Bool)(r:Option (Prop×List D×List Nat))(K:AV->Prop):Prop:=
 match r with
 | some (vc,ds,ids)=>(pc=true->vc)/\za3 P f pc ds ids K
 | none=>False
def chOf(ct:CT)(x:Operand)(v:Bool):List (Nat×Bool):=
 match x with
 | .tmp d=>zp2 ct d v
 | _=>[]
noncomputable def eCP(ct:CT)(own:List (Nat×Bool))(t:TL)(x y z:Operand)(K:AV->Prop):Prop:=
 match St.ev (tm (visT ct own t)) x with
 | .d (.lit (.bool b))=>K (pkV b (St.ev (tm (visT ct (chOf ct x true++own) t)) y) (St.ev (tm (visT ct (chOf ct x false++own) t)) z))
 | _=>False
noncomputable def eChV(P:Program)(op:Op)(d:Nat)(pc:Bool)(ct:CT)(own:List (Nat×Bool))(t:TL)(o:OL)(K:AV->Prop):Prop:=
 match op with
 | .pick x y z=>eCP ct own t x y z K
 | .buildSlice ty len parts=>eCB pc (bsQ P (St.ev (tm (visT ct own t))) (om o) ty len parts) K
 | op=>match zn3 (St.ev (tm (visT ct own t))) op with
  | some (f,as)=>eCF P f pc (frz.frzL (om o) as) K
  | none=>eCQ pc (zeu P d (St.ev (tm (visT ct own t))) (om o) op) K
noncomputable def eChG(P:Program)(N:NP)(ops:Array Oper)(x:Oper)(j:Nat)(v:Bool)(K:CK)(ct:CT)(t:TL)(o:OL):Prop:=
 match (ops[j]?).bind (·.dst),x.dst with
 | some g,some d=>match pcOf ct t g v with
  | some pc=>(zmw d ct=true/\d≠g/\zdc N (some d))/\eChV P x.op d pc ct (zp2 ct g v) t o (fun V=>K ((d,g,v,pc,V)::ct) ((d,.dead)::t) o)
  | none=>False
 | _,_=>False
def zHF(d:Option Nat)(ct:CT):Bool:=
 match d with
 | some d=>zmw d ct
 | none=>true
def keepC(op:Op)(ct:CT):Bool:=
 match op with
 | .pick .. =>true
 | .buildSlice .. =>true
 | .call {callee:=.value _,..}=>false
 | op=> !ct.isEmpty &&zoA op
noncomputable def eChU(P:Program)(N:NP)(x:Oper)(K:CK)(ct:CT)(t:TL)(o:OL):Prop:=
 if keepC x.op ct=true then(zHF x.dst ct=true/\zdc N x.dst)/\eChV P x.op (x.dst.getD 0) true ct [] t o (fun V=>K ct (zfy x.dst V t) o)
 else eO P N x.dst x.op (K []) t o
noncomputable def eCh(P:Program)(N:NP)(ops:Array Oper):List Oper->EK->CK
 | [],K,_,t,o=>K t o
 | x::rest,K,ct,t,o=>match x.guard with
  | some (j,v)=>eChG P N ops x j v (eCh P N ops rest K) ct t o
  | none=>eChU P N x (eCh P N ops rest K) ct t o
noncomputable def eZC1(P:Program)(N:NP)(ops:Array Oper)(x:Oper)(K:CK)(ct:CT)(t:TL)(o:OL):Prop:=
 match x.guard with
 | some (j,v)=>eChG P N ops x j v K ct t o
 | none=>(zHF x.dst ct=true/\zdc N x.dst)/\eChV P x.op (x.dst.getD 0) true ct [] t o (fun V=>K ct (zfy x.dst V t) o)
noncomputable def eZC(P:Program)(N:NP)(ops:Array Oper):List (Nat×Option (List Nat))->EK->CK
 | [],K,_,t,o=>K t o
 | (k,none)::rest,K,ct,t,o=>match ops[k]? with
  | some x=>eZC1 P N ops x (eZC P N ops rest K) ct t o
  | none=>False
 | (k,some l)::rest,K,ct,t,o=>eZ P N ops ((k,some l)::rest) K (ctT ct t) o

def wfC(ct:CT)(t:TL):Prop:= ∀d g v pc V,(d,g,v,pc,V)∈ct->tm (ctT ct t) d=(bif pc then V else .und)/\(pc=true↔tm (ctT ct t) g= .d (.lit (.bool v)))/\tm t d= .dead
theorem wfC_nil(t:TL):wfC [] t:=by intro d g v pc V h; simp at h
theorem ctT_ne{d:Nat}{x:AV}{t:TL}: ∀(ct:CT) {u:Nat},u≠d->tm (ctT ct ((d,x)::t)) u=tm (ctT ct t) u
 | [],u,h=>by simp only[ctT,tm,if_neg h]
 | (d',_,_,pc,V)::r,u,h=>by
  simp only[ctT,tm];split
  ·rfl
  ·exact ctT_ne r h
theorem ctT_key{d:Nat}{t:TL}: ∀(ct:CT),zmw d ct=true->tm (ctT ct t) d=tm t d
 | [],_=>rfl
 | (d',g,_,pc,V)::r,h=>by
  simp only[zmw,Bool.and_eq_true,Bool.not_eq_true',decide_eq_false_iff_not]at h;simp only[ctT,tm,if_neg h.1];exact ctT_key r h.2.2
theorem zqi{d:Nat}: ∀ {ct:CT},zmw d ct=true-> ∀d' g v pc V,(d',g,v,pc,V)∈ct->d≠d'/\d≠g
 | (d1,g1,_,_,_)::r,h,d',g,v,pc,V,hm=>by
  simp only[zmw,Bool.and_eq_true,Bool.not_eq_true',decide_eq_false_iff_not]at h;rcases List.mem_cons.1 hm with e | hm
  ·cases e; exact⟨h.1,h.2.1⟩
  ·exact zqi h.2.2 _ _ _ _ _ hm
theorem wfC_cons{ct:CT}{t:TL}{d:Nat}{x:AV}(h:wfC ct t)(hf:zmw d ct=true):wfC ct ((d,x)::t)/\tm (ctT ct ((d,x)::t))=tm ((d,x)::ctT ct t):=by
 have key:tm (ctT ct ((d,x)::t))=tm ((d,x)::ctT ct t):=by
  funext u;by_cases hu:u=d
  ·subst hu;rw[ctT_key ct hf];simp only[tm,if_true]
  ·rw[ctT_ne ct hu];simp only[tm,if_neg hu]
 refine⟨fun d' g v pc V hm=> ?_,key⟩;obtain⟨n1,n2⟩:=zqi hf _ _ _ _ _ hm;obtain⟨h1,h2,h3⟩:=h _ _ _ _ _ hm;refine⟨by rw[ctT_ne ct (Ne.symm n1)]; exact h1,by rw[ctT_ne ct (Ne.symm n2)]; exact h2,?_⟩;simp only[tm,if_neg (Ne.symm n1)];exact h3
theorem wfC_push{ct:CT}{t:TL}{d g:Nat}{v pc:Bool}{V:AV}(h:wfC ct t)(hf:zmw d ct=true)(hne:d≠g)(hp:pc=true↔tm (ctT ct t) g= .d (.lit (.bool v))):
  wfC ((d,g,v,pc,V)::ct) ((d,.dead)::t)/\tm (ctT ((d,g,v,pc,V)::ct) ((d,.dead)::t))=tm ((d,bif pc then V else .und)::ctT ct t):=by
 have key:tm (ctT ((d,g,v,pc,V)::ct) ((d,.dead)::t))=tm ((d,bif pc then V else .und)::ctT ct t):=by
  funext u;simp only[ctT,tm];split
  ·rfl
  ·rename_i hu; exact ctT_ne ct hu
 refine⟨fun d' g' v' pc' V' hm=> ?_,key⟩;rw[key];rcases List.mem_cons.1 hm with e | hm
 ·cases e;refine⟨by simp only[tm,if_true],?_,by simp only[tm,if_true]⟩;simp only[tm,if_neg (Ne.symm hne)];exact hp
 ·obtain⟨n1,n2⟩:=zqi hf _ _ _ _ _ hm;obtain⟨h1,h2,h3⟩:=h _ _ _ _ _ hm;simp only[tm,if_neg (Ne.symm n1),if_neg (Ne.symm n2)];exact⟨h1,h2,h3⟩
theorem pcOf_ok{t:TL}{g:Nat}{v p:Bool}: ∀ {ct:CT},pcOf ct t g v=some p->(∃b,tm (ctT ct t) g= .d (.lit (.bool b))/\(b==v)=p)\/(tm (ctT ct t) g= .und /\p=false)
 | [],h=>by
  simp only[pcOf]at h;simp only[ctT];split at h
  ·rename_i b e; cases h; exact .inl ⟨b,e,rfl⟩
  ·rename_i e; cases h; exact .inr ⟨e,rfl⟩
  ·cases h
 | (d,g',v',pc,V)::r,h=>by
  simp only[pcOf]at h;simp only[ctT,tm];split at h
  ·rename_i e;subst e;rw[if_pos rfl];unfold pcC at h;split at h
   ·rename_i b;cases h;cases pc
    ·exact .inr ⟨rfl,by simp⟩
    ·exact .inl ⟨b,rfl,by simp⟩
   ·cases h
  ·rename_i e;rw[if_neg (Ne.symm e)];exact pcOf_ok h
theorem pcOf_iff{ct:CT}{t:TL}{g:Nat}{v p:Bool}(h:pcOf ct t g v=some p):p=true↔tm (ctT ct t) g= .d (.lit (.bool v)):=by
 rcases pcOf_ok h with⟨b,e,rfl⟩ | ⟨e,rfl⟩
 ·rw[e]; simp
 ·rw[e]; simp
theorem zvT{ops:Array Oper}{x:Oper}{ct:CT}{t:TL}{j g:Nat}{v p:Bool}(hx:x.guard=some (j,v))(hg:(ops[j]?).bind (·.dst)=some g)(h:pcOf ct t g v=some p):zcZ ops x (tm (ctT ct t))=some (some p):=by
 unfold zcZ;rw[hx];simp only[hg];rcases pcOf_ok h with⟨b,e,rfl⟩ | ⟨e,rfl⟩
 ·rw[e]
 ·rw[e]
def holds(ct:CT)(t:TL)(ch:List (Nat×Bool)):Prop:= ∀p∈ch,tm (ctT ct t) p.1= .d (.lit (.bool p.2))
theorem zrE{ct:CT}{t:TL}(hw:wfC ct t): ∀(c':CT),(∀e∈c',e∈ct)-> ∀ {g:Nat} {v:Bool},tm (ctT ct t) g= .d (.lit (.bool v))->holds ct t (zp2 c' g v)
 | [],_,g,v,h=>by
  intro p hp;simp only[zp2,List.mem_singleton]at hp;subst hp;exact h
 | (d,g',v',pc,V)::r,hs,g,v,h=>by
  have hs': ∀e∈r,e∈ct:=fun e he=>hs e (List.mem_cons_of_mem _ he);simp only[zp2];split
  ·rename_i e;subst e;obtain⟨h1,h2,_⟩:=hw _ _ _ _ _ (hs _ List.mem_cons_self);have hpc:pc=true:=by
    cases pc
    ·rw[h1]at h; simp only[cond_false]at h; cases h
    ·rfl
   intro p hp;rcases List.mem_cons.1 hp with rfl | hp
   ·exact h
   ·exact zrE hw r hs' (h2.1 hpc) p hp
  ·exact zrE hw r hs' h
theorem inCh_mem{g:Nat}{v:Bool}: ∀ {ch:List (Nat×Bool)},inCh g v ch=true->(g,v)∈ch
 | (g',v')::r,h=>by
  simp only[inCh,Bool.or_eq_true,Bool.and_eq_true,decide_eq_true_eq,beq_iff_eq]at h;rcases h with⟨rfl,rfl⟩ | h
  ·simp
  ·exact List.mem_cons_of_mem _ (inCh_mem h)
theorem visT_eq{ct:CT}{t:TL}(hw:wfC ct t){ch:List (Nat×Bool)}(hh:holds ct t ch):tm (visT ct ch t)=tm (ctT ct t):=by
 have key: ∀c':CT,(∀e∈c',e∈ct)->visT c' ch t=ctT c' t:=by
  intro c'
  induction c' with
  | nil=>intro _; rfl
  | cons e r ih=>
   obtain⟨d,g,v,pc,V⟩:=e;intro hs;simp only[visT,ctT];rw[ih (fun e he=>hs e (List.mem_cons_of_mem _ he))];split
   ·rename_i hi;have hp:=(hw _ _ _ _ _ (hs _ List.mem_cons_self)).2.1.2 (hh _ (inCh_mem hi));subst hp;rfl
   ·rfl
 rw[key ct (fun _ h=>h)]
theorem holds_nil(ct:CT)(t:TL):holds ct t []:=by intro p hp; simp at hp
theorem holds_app{ct:CT}{t:TL}{a b:List (Nat×Bool)}(h1:holds ct t a)(h2:holds ct t b):holds ct t (a++b):=by
 intro p hp;rcases List.mem_append.1 hp with h | h
 ·exact h1 p h
 ·exact h2 p h
theorem chOf_ok{ct:CT}{t:TL}(hw:wfC ct t){x:Operand}{b:Bool}(h:St.ev (tm (ctT ct t)) x= .d (.lit (.bool b))):holds ct t (chOf ct x b):=by
 unfold chOf;split
 ·exact zrE hw ct (fun _ h=>h) h
 ·exact holds_nil ct t
theorem eChV_ok{P:Program}{x:Oper}{d:Nat}{pc:Bool}{ct:CT}{own:List (Nat×Bool)}{t:TL}{o:OL}{K:AV->Prop}(hd:x.dst.getD 0=d)(hw:wfC ct t)(hh:pc=true->holds ct t own)(h:eChV P x.op d pc ct own t o K):
  ∃V,(pc=true->zdet P x ⟨tm (ctT ct t),om o⟩ V)/\K V:=by
 have hv:pc=true->tm (visT ct own t)=tm (ctT ct t):=fun e=>visT_eq hw (hh e);unfold eChV at h;split at h
 ·rename_i y z w ho;unfold eCP at h;split at h
  ·rename_i b hb;refine⟨_,fun e=> ?_,h⟩;rw[hv e]at hb;unfold zdet;rw[ho];simp only[qdet];rw[ho];simp only[zn3];have hvis: ∀v,v=b->tm (visT ct (chOf ct y v++own) t)=tm (ctT ct t):=fun v e2=>visT_eq hw (holds_app (chOf_ok hw (by rw[e2]; exact hb)) (hh e));simp only[zeu,hb,pkV_eq];refine⟨True,?_,trivial⟩;cases b
   ·simp only[cond_false,hvis false rfl]
   ·simp only[cond_true,hvis true rfl]
  ·exact h.elim
 ·rename_i ty len parts ho;unfold eCB at h;split at h
  ·rename_i vc V hf;refine⟨V,fun e=> ?_,h.2⟩;rw[hv e]at hf;unfold zdet;rw[ho];exact⟨vc,hf,h.1 e⟩
  ·exact h.elim
 ·rename_i n1 n3;split at h
  ·rename_i f as ho;unfold eCF at h;split at h
   ·rename_i vc ds ids hf;obtain⟨h1,V,h2,h3,h4,h5⟩:=h;refine⟨V,fun e=> ?_,h5⟩;rw[hv e]at ho;unfold zdet;split
    ·rename_i ty len parts ho; exact absurd ho (n3 _ _ _)
    ·unfold qdet;simp only[ho];exact⟨vc,ds,ids,hf,h1 e,h2 e,h3,h4⟩
   ·exact h.elim
  ·unfold eCQ at h;split at h
   ·rename_i vc V hf;refine⟨V,fun e=> ?_,h.2⟩;rw[hv e]at hf;have hq:zeu P (x.dst.getD 0) (St.ev (tm (ctT ct t))) (om o) x.op=some (vc,V,none):=(by rw[hd]; exact hf);unfold zdet;split
    ·rename_i ty len parts ho; exact absurd ho (n3 _ _ _)
    ·unfold qdet;rw[callT_qsem hq];exact⟨vc,hq,h.1 e⟩
   ·exact h.elim
theorem eChG_ok{P:Program}{N:NP}{ops:Array Oper}{x:Oper}{j:Nat}{v:Bool}{K:CK}{ct:CT}{t:TL}{o:OL}(hx:x.guard=some (j,v))(hw:wfC ct t)(h:eChG P N ops x j v K ct t o):
  ∃U ct' t',ZY P N ops x U ⟨tm (ctT ct t),om o⟩/\(St.put ⟨tm (ctT ct t),om o⟩ x.dst U (om o))=⟨tm (ctT ct' t'),om o⟩/\wfC ct' t'/\K ct' t' o:=by
 unfold eChG at h;split at h
 ·rename_i g d hg hd;split at h
  ·rename_i pc hpc;obtain⟨⟨h1,h2,h3⟩,h4⟩:=h;have hi:=pcOf_iff hpc;obtain⟨V,h5,h6⟩:=eChV_ok (x:=x) (by rw[hd]; rfl) hw (fun e=>zrE hw ct (fun _ h=>h) (hi.1 e)) h4;obtain⟨w1,w2⟩:=wfC_push (V:=V) hw h1 h2 hi;refine⟨bif pc then V else .und,_,_,⟨by rw[hd]; exact h3,?_⟩,?_,w1,h6⟩
   ·cases pc
    ·exact .inr ⟨zvT hx hg hpc,rfl⟩
    ·exact .inl ⟨zvT hx hg hpc,h5 rfl⟩
   ·rw[hd,zct,w2];rfl
  ·exact h.elim
 ·exact h.elim
theorem eChQ_ok{P:Program}{N:NP}{ops:Array Oper}{x:Oper}{K:CK}{ct:CT}{t:TL}{o:OL}(hx:x.guard=none)(hw:wfC ct t)(h:(zHF x.dst ct=true/\zdc N x.dst)/\eChV P x.op (x.dst.getD 0) true ct [] t o (fun V=>K ct (zfy x.dst V t) o)):
  ∃U ct' t',ZY P N ops x U ⟨tm (ctT ct t),om o⟩/\(St.put ⟨tm (ctT ct t),om o⟩ x.dst U (om o))=⟨tm (ctT ct' t'),om o⟩/\wfC ct' t'/\K ct' t' o:=by
 obtain⟨⟨h1,h2⟩,h3⟩:=h;obtain⟨V,h5,h6⟩:=eChV_ok rfl hw (fun _=>holds_nil ct t) h3;have hg:zcZ ops x (tm (ctT ct t))=some (some true):=by unfold zcZ; rw[hx]
 cases hd:x.dst with
 | none=>
  rw[hd]at h6;exact⟨V,ct,t,⟨by rw[hd]; trivial,.inl ⟨hg,h5 rfl⟩⟩,by rw[zct]; rfl,hw,h6⟩
 | some d=>
  rw[hd]at h6 h1;obtain⟨w1,w2⟩:=wfC_cons (x:=V) hw h1;exact⟨V,ct,(d,V)::t,⟨h2,.inl ⟨hg,h5 rfl⟩⟩,by rw[zct,w2]; rfl,w1,h6⟩
theorem wfC_sub{ct:CT}{t:TL}{o:OL}(hw:wfC ct t):Sub ⟨tm (ctT ct t),om o⟩ ⟨tm t,om o⟩:=by
 refine znd (fun u=> ?_) (fun _=>.inr rfl);show tm t u= .dead \/tm t u=tm (ctT ct t) u;by_cases h: ∃g v pc V,(u,g,v,pc,V)∈ct
 ·obtain⟨g,v,pc,V,hm⟩:=h;exact .inl (hw _ _ _ _ _ hm).2.2
 ·right;have key: ∀c':CT,(∀e∈c',e∈ct)->tm (ctT c' t) u=tm t u:=by
   intro c'
   induction c' with
   | nil=>intro _; rfl
   | cons e r ih=>
    obtain⟨d,g,v,pc,V⟩:=e;intro hs;simp only[ctT,tm];rw[if_neg (by rintro rfl; exact h ⟨g,v,pc,V,hs _ (by simp)⟩)];exact ih (fun e he=>hs e (List.mem_cons_of_mem _ he))
  exact(key ct (fun _ h=>h)).symm

theorem zsy{c:Ctx}{ops:Array Oper}{K:EK}{Q:Exit->Act->World->Prop}{R:Option Nat}{n:Nat}(hK: ∀t o a' W',K t o->Rel c ⟨tm t,om o⟩ a' W'->Q .normal a' W')(hX: ∀v σ' a' W',pxS c.N v σ'.objs->Rel c σ' a' W'->Q (.panic [{v:=v,recovered:=false}]) a' W'):
  ∀(l:List Oper) (ct:CT) (t:TL) (o:OL) (a:Act) (W:World),wfC ct t->Rel c ⟨tm (ctT ct t),om o⟩ a W->eCh c.P c.N ops l K ct t o->wpListIn (FW R) n c.P ops Q l a W
 | [],ct,t,o,a,W,hw,hr,h=>hK t o a W h (wfC_sub hw c a W hr)
 | x::rest,ct,t,o,a,W,hw,hr,h=>by
  simp only[eCh]at h;have step:(∃U ct' t',ZY c.P c.N ops x U ⟨tm (ctT ct t),om o⟩/\(St.put ⟨tm (ctT ct t),om o⟩ x.dst U (om o))=⟨tm (ctT ct' t'),om o⟩/\wfC ct' t'/\eCh c.P c.N ops rest K ct' t' o)->wpListIn (FW R) n c.P ops Q (x::rest) a W:=by
   rintro⟨U,ct',t',h1,h2,h3,h4⟩;unfold wpListIn;exact zww hr h1 (fun a' W' hr'=>zsy hK hX rest ct' t' o a' W' h3 (by rw[<-h2]; exact hr') h4) hX
  split at h
  ·rename_i j v hx;exact step (eChG_ok hx hw h)
  ·rename_i hx;unfold eChU at h;split at h
   ·exact step (eChQ_ok hx hw h)
   ·have hr':=wfC_sub hw c a W hr;have h1:=eO_owp h;have hg:zcZ ops x (tm t)=some (some true):=(by unfold zcZ; rw[hx]);have h2:gwp c.P c.N ops x ⟨tm t,om o⟩ (zlp (eCh c.P c.N ops rest K [])):=by
     unfold gwp;simp only[hg];exact⟨fun _=>h1,fun e=>by cases e⟩
    unfold wpListIn;refine zmC hr' h2 ?_ hX;rintro σ' a' W' ⟨t',o',rfl,h3⟩ hr2;exact zsy hK hX rest [] t' o' a' W' (wfC_nil _) hr2 h3

def weakK(K:EK):St->Prop:=fun σ=> ∃t o,Sub σ ⟨tm t,om o⟩/\K t o
theorem zpS{P:Program}{N:NP}{r:Ord}{ops:Array Oper}{K K':St->Prop}(hk: ∀σ,K σ->K' σ): ∀(l:List Nat) (σ:St),zlwp P N r ops l σ K->zlwp P N r ops l σ K'
 | [],σ,h=>hk σ h
 | k::rest,σ,h=>by
  simp only[zlwp]at h ⊢;split at h
  ·rename_i o ho;split at h
   ·rename_i hq;obtain⟨V,h1,h2⟩:=h;simp only[hq,if_true];exact⟨V,h1,zpS hk rest _ h2⟩
   ·rename_i hq;simp only[hq,if_false];split at h
    ·rename_i hl;simp only[hl,if_true];exact zhp h (fun σ' h'=>zpS hk rest σ' h')
    ·rename_i hl;simp only[hl,if_false];exact zja h (fun σ' h'=>⟨h'.1,zpS hk rest σ' h'.2⟩)
  ·exact h.elim
theorem eZC_zlwp{P:Program}{N:NP}{ops:Array Oper}{r:Ord}{K:EK}(hlk: ∀p∈r.steps,r.steps.lookup p.1=some p.2): ∀(l:List (Nat×Option (List Nat))) (hl: ∀p∈l,p∈r.steps) (ct:CT) (t:TL) (o:OL),wfC ct t->eZC P N ops l K ct t o->
  zlwp P N r ops (l.map (·.1)) ⟨tm (ctT ct t),om o⟩ (weakK K)
 | [],_,ct,t,o,hw,h=>⟨t,o,wfC_sub hw,h⟩
 | (k,some q)::rest,hl,ct,t,o,hw,h=>by
  simp only[eZC]at h;refine zpS ?_ _ _ (zsA hlk ((k,some q)::rest) hl _ o h);rintro σ ⟨t',o',rfl,h'⟩;exact⟨t',o',fun _ _ _ h=>h,h'⟩
 | (k,none)::rest,hl,ct,t,o,hw,h=>by
  have hk:=hlk (k,none) (hl _ (by simp));have hl': ∀p∈rest,p∈r.steps:=fun p hp=>hl p (List.mem_cons_of_mem _ hp);simp only[eZC]at h;simp only[List.map_cons,zlwp];split at h
  case h_2=>exact h.elim
  rename_i x hx;rw[hx];simp only at hk;have hq:r.isQ k=true:=by unfold Ord.isQ; rw[hk]
  simp only[hq,if_true];unfold eZC1 at h;have step:(∃U ct' t',ZY P N ops x U ⟨tm (ctT ct t),om o⟩/\(St.put ⟨tm (ctT ct t),om o⟩ x.dst U (om o))=⟨tm (ctT ct' t'),om o⟩/\wfC ct' t'/\eZC P N ops rest K ct' t' o)->
    ∃V,ZY P N ops x V ⟨tm (ctT ct t),om o⟩/\zlwp P N r ops (rest.map (·.1)) (St.put ⟨tm (ctT ct t),om o⟩ x.dst V (om o)) (weakK K):=by
   rintro⟨U,ct',t',h1,h2,h3,h4⟩;refine⟨U,h1,?_⟩;rw[h2];exact eZC_zlwp hlk rest hl' ct' t' o h3 h4
  split at h
  ·rename_i j v hx';exact step (eChG_ok hx' hw h)
  ·rename_i hx';exact step (eChQ_ok hx' hw h)
end Go.Aw
