/- Machinery. Conditions: those of each. -/
import Derived.Test.YtplfjjgkbnolhaaGreatDoorGGx
import Derived.RecoverIn
set_option linter.unusedSimpArgs false
set_option linter.unusedVariables false
/-
 FUNCTIONS WITH ONE DEFERRED CALL THAT RECOVERS: what stands zk2 of the 'defer', what stands behind it, how it leaves.
 Conditions: over any program under 'mixedOrders'; the deferred call's contracts for both ways out.
-/
namespace Go.Aw
open Go.RowKit
def chainC:List Code->Code->Code
 | [],c=>c
 | x::l,c=>.seq x (chainC l c)
noncomputable def eP(P:Program)(N:NP)(L:Nat->List Gh)(Q:EQ)(K:EK):List Code->EK
 | []=>K
 | x::l=>eC P N L x (zry (eP P N L Q K l) Q)
def subK(TS:TL)(OS:OL):EK:=fun t o=>zuM (tm t) TS/\zwd (om o) OS
def ghAll(os:OL):OL->Prop
 | []=>True
 | (i,x)::r=>(match om os i,x with | some (.gh _ _),.gh _ _=>True | _,_=>False)/\ghAll os r
theorem ghAll_ok{os:OL}: ∀ {o:OL},ghAll os o-> ∀j o',om o j=some o'-> ∃cs vs cs' vs',om os j=some (.gh cs vs)/\o'= .gh cs' vs'
 | [],_,j,o',h=>by simp[om]at h
 | (i,x)::r,h,j,o',ho=>by
  obtain⟨h1,h2⟩:=h;simp only[om]at ho;split at ho
  ·rename_i e;subst e;simp only[Option.some.injEq]at ho;subst ho;split at h1
   ·rename_i cs vs cs' vs' e1;exact⟨_,_,_,_,e1,rfl⟩
   ·exact h1.elim
  ·exact ghAll_ok h2 j o' ho
noncomputable def retDF(P:Program)(rs:Array ResultVar)(os:OL)(PL:AV->OL->List Nat->Prop)(t:TL)(o:OL):Prop:=
 ∃l,match zHj P ⟨tm t,om o⟩ l rs.toList with
  | some (vc,xs)=>vc/\PL (ztO xs) (zdb l o) []/\ghAll os (zdb l o)
  | none=>False
noncomputable def retD(P:Program)(rs:Array ResultVar)(os:OL)(PL:AV->OL->List Nat->Prop):EQ
 | .ret,t,o=>retDF P rs os PL t o
 | .normal,t,o=>retDF P rs os PL t o
 | _,_,_=>False
noncomputable def retDX(P:Program)(rs:Array ResultVar)(os:OL)(PL:AV->OL->List Nat->Prop)(px:Value->OL->Prop):EQ
 | .ret,t,o=>retDF P rs os PL t o
 | .normal,t,o=>retDF P rs os PL t o
 | .panic ch,_,o=> ∃v,ch=[{v:=v,recovered:=false}]/\px v o
 | _,_,_=>False
def EndD(P:Program)(W:World)(F O0:Nat->Prop)(η:Nat->Value)(os:OL)(PL:AV->OL->List Nat->Prop)(e:Ending)(W':World):Prop:=
 ∃v V Oo new F' η' S',e= .returned v/\(∃ol,Oo=om ol/\PL V ol new)/\(∀i∈new,∀lim fam stop l rest,Oo i≠some (.ext lim fam stop l rest))/\Mem ⟨P,N0,W,F,O0,[],[],fun _=>undef,[]⟩ Oo W' F' η' S'/\zaL Oo W' F' η' V v/\za7 (om os) Oo η η' new
theorem zIE{P:Program}{fn:Func}{N:NP}{W:World}{F O0:Nat->Prop}{η:Nat->Value}{pv:Nat->Value}{dl:List Deferred}{t:TL}{o:OL}{tmps:Array Value}{W1:World}{F1:Nat->Prop}{η1:Nat->Value}{S1:Nat->List Nat}{os:OL}{PL:AV->OL->List Nat->Prop}
  (hm1:Mem ⟨P,N,W,F,O0,[],[],pv,dl⟩ (om o) W1 F1 η1 S1) (ht1: ∀i,zaL (om o) W1 F1 η1 (tm t i) (tmps.getD i undef)) (h:retDF P fn.results os PL t o):
  ∃v,(results fn tmps).run P W1= .ok v W1/\EndD P W F O0 η os PL (.returned v) W1:=by
 obtain⟨l,h⟩:=h;split at h
 ·rename_i vc xs h1;obtain⟨q1,q2,q3⟩:=h;have hm:Mem ⟨P,N0,W,F,O0,[],[],fun _=>undef,[]⟩ (om o) W1 F1 η1 S1:=hm1.same rfl rfl rfl rfl rfl;obtain⟨us,h4,h5⟩:=zy8 (c:=⟨P,N0,W,F,O0,[],[],fun _=>undef,[]⟩) (σ:=⟨tm t,om o⟩) (a:={tmps:=tmps,defers:=[]}) hm ht1 fn.results.toList vc xs h1 q1;have h6:(results fn tmps).run P W1= .ok (if h:us.toArray.size=1 then us.toArray[0]else .tuple us.toArray) W1:=by
   unfold results;rw[Array.mapM_eq_mapM_toList];simp only[Sem.run_bind,Sem.run_map,Sem.run_pure];exact congrArg (fun r:Result (List Value)=>(r.andThen fun a w'=>Result.ok a.toArray w').andThen fun a w'=>Result.ok (if h:a.size=1 then a[0]else Value.tuple a) w') h4
  obtain⟨m1,m2⟩:=hm.dropL (W':=W1) (F':=fun b=>F1 b\/ ∃id∈l,b∈S1 id) l (Below.refl _ _) (fun b hb=>.inl hb) (fun b hb=>by
   rcases hb with hb | hb
   ·exact .inl hb
   ·exact .inr (.inr hb))
  refine⟨_,h6,_,ztO xs,drop (om o) l,[],_,_,_,rfl,⟨_,ze2 l o,q2⟩,by simp,m1,?_,?_⟩
  ·unfold ztO;split
   ·rename_i x;simp only[zaN]at h5;obtain⟨v,rest,rfl,h7,rfl⟩:=h5;simpa using h7
   ·rename_i hx;have hl:=zaN.length _ _ h5;rw[dif_neg (by
     intro e;simp at e;rw[hl]at e
     match xs,e with
     | [x],_=>exact hx x rfl)]
    simp only[zaL];exact⟨us,rfl,h5⟩
  ·intro j o' ho;rw[ze2]at ho;obtain⟨cs,vs,cs',vs',a1,rfl⟩:=ghAll_ok q3 j o' ho;exact .inr ⟨_,a1,trivial⟩
 ·exact h.elim
theorem eP_sound{P:Program}{N:NP}{L:Nat->List Gh}(hmix:P.follows .mixedOrders =true){Q:EQ}{K:EK}{X:Code}{Q':Exit->Act->World->Prop}{n:Nat}{c:Ctx}(hT:N.top=false)(hP:c.P=P)(hN:c.N=N)(hX:PxOk N Q)
  (hK: ∀t o a W,K t o->Rel c ⟨tm t,om o⟩ a W->X.wpIn (FW none) n P Q' a W) (hQ: ∀e t o a W,e≠ .normal ->Q e t o->Rel c ⟨tm t,om o⟩ a W->Q' e a W):
  ∀(l:List Code) (t:TL) (o:OL) (a:Act) (W:World),eP P N L Q K l t o->Rel c ⟨tm t,om o⟩ a W->(chainC l X).wpIn (FW none) n P Q' a W
 | [],t,o,a,W,h,hr=>hK t o a W h hr
 | x::l,t,o,a,W,h,hr=>by
  simp only[eP]at h;simp only[chainC];refine wpIn_seq (wpIn_mono (zBm hmix x _ t o hX.then h none n c (fun _=>rfl) hP hN a W hr) ?_);rintro e a' W' ⟨σ',⟨t',o',rfl,h1⟩,Ds,hD,h2⟩;have hDs:Ds=[]:=hD.2.2 (by rw[hN]; exact hT);subst hDs;rw[Ctx.more_nil]at h2;cases e with
  | normal=>exact eP_sound hmix hT hP hN hX hK hQ l t' o' a' W' h1 h2
  | _=>exact hQ _ t' o' a' W' (by simp) h1 h2
theorem tm_mem{i:Nat}: ∀ {t:TL},tm t i≠ .dead -> ∃x,(i,x)∈t
 | [],h=>by simp[tm]at h
 | (j,x)::r,h=>by
  simp only[tm]at h;split at h
  ·rename_i e; subst e; exact⟨x,by simp⟩
  ·obtain⟨y,hy⟩:=tm_mem h; exact⟨y,by simp[hy]⟩
def bpAll:List AV->Bool
 | []=>true
 | .bp _ 0::r=>bpAll r
 | _=>false
theorem bp_vals{O:zbI}{W:World}{F:Nat->Prop}{η:Nat->Value}: ∀(das:List AV) (vs:List Value),bpAll das=true->zCV O das->(∀j cs,O j=some (.box cs)-> ∃b,η j= .pointer (some ⟨b,0,none⟩))->zaN O W F η das vs->vs=das.map (hv η)
 | [],vs,_,_,_,h=>by simp only[zaN]at h; rw[h]; rfl
 | x::r,vs,hb,ho,hp,h=>by
  cases x with
  | bp j off=>
   cases off with
   | succ _=>simp[bpAll]at hb
   | zero=>
    simp only[bpAll]at hb;obtain⟨h1,h2⟩:=ho;simp only[zaN]at h;obtain⟨v,rest,rfl,h3,h4⟩:=h;have ih:=bp_vals r rest hb h2 hp h4;rw[List.map_cons,<-ih];congr 1;simp only[hv];simp only[zaL]at h3;cases hO:O j with
    | none=>simp[hO]at h1
    | some ob=>
     cases ob with
     | box cs=>
      obtain⟨b,e1,e2⟩:=h3 cs hO;rw[e1,e2]
     | _=>simp[hO]at h1
  | _=>simp[bpAll]at hb
def DfIs(P:Program)(g:FuncId)(vs:List Value)(ds:List Deferred):Prop:=
 ∃d fv cap,ds=[d]/\d.target= .fn fv cap/\ ∀W,(invoke d.target d.args).run P W= .ok (.enter g vs.toArray) W
theorem leaves_df{P:Program}{fn:Func}{tmps:Array Value}{R:Ending->World->Prop}{g:FuncId}{vs:List Value}{ds:List Deferred}(hd:DfIs P g vs ds){u:FrameMode}{W:World}(hu:u≠ .run)
  (h:CallsDIn Fence.wide 0 P g vs.toArray u W fun
   | .returned _,u',w'=>LeavesInM Fence.wide 0 P fn tmps R [] (settle u') w'
   | .panicked zp2,u',w'=>LeavesInM Fence.wide 0 P fn tmps R [] (raised u' zp2) w'
   | .outgrown,_,w'=>R .outgrown w'):LeavesInM Fence.wide 0 P fn tmps R ds u W:=by
 obtain⟨d,fv,cap,rfl,ht,hi⟩:=hd;exact⟨hu,.inr ⟨fun h=>(by cases h),fv,cap,g,_,ht,hi W,fun _ _=>trivial,h⟩⟩
theorem FnL.of_df(G:Nat)(das:List AV){P:Program}{f:Nat}{fn:Func}{pre:List Code}{id:Nat}{ops:Array Oper}{B:Code}{args:List AV}{os:OL}{PL:AV->OL->List Nat->Prop}(L:Nat->List Gh){own:List (Nat×List (TypeId×Nat))}(px:List Value->Value->OL->Prop)(TS:TL)(OS:OL)(us:List Nat)(g:FuncId)
  (hmix:P.follows .mixedOrders =true) (hf:P.funcs[f]? =some fn) (hb:fn.body=some (chainC pre (.seq (.region id ops false) B))) (hc: ∀as W,(callFunc f as).run P W= .ok (.enter f as) W) {N:Nat} (hN:fn.ntmps=N) (hN':args.length<=N) {rs:Array ResultVar} (hrs:fn.results=rs)
  (hG:(zyk G OS/\zjB G TS)/\zCV (om OS) das/\AV.noRefs [G] das) (hbp:bpAll das=true) (hus:us.map (tm TS)=das)
  (hpre:eP P ⟨N,[],false,own,fun _ _=>False⟩ L (retD P rs os PL) (subK TS OS) pre (zpL 0 args) os)
  (hreg: ∀(n:Nat) (a:Act) (W:World),a.tmps.size=N->a.defers=[]->(Code.region id ops false).wpIn (FW none) n P (fun e a' W'=>e= .normal /\W'=W/\a'.tmps.size=N/\(∀p∈TS,a'.tmps.getD p.1 undef=a.tmps.getD p.1 undef)/\DfIs P g (us.map fun u=>a.tmps.getD u undef) a'.defers) a W)
  (hpost: ∀gs:List Value,eC P ⟨N,us,false,own,px gs⟩ L B (retDX P rs os PL (px gs)) TS ((G,.gh das gs)::OS))
  (hidle: ∀(vs:List Value) (W:World),vs.length=us.length->CallsDIn Fence.wide 0 P g vs.toArray .returning W fun e u' w'=>(∃x,e= .returned x)/\u'= .returning /\w'=W)
  (hcatch: ∀(gs:List Value) (v:Value) (o:OL),px gs v o->om o G=some (.gh das gs)/\ ∀(c:Ctx) (W:World) (F:Nat->Prop) (η:Nat->Value) (S:Nat->List Nat),c.P=P->c.ds=[]->c.Z=[]->Mem c (om o) W F η S->zaN (om o) W F η das gs->
   CallsDIn Fence.wide 0 P g gs.toArray (.panicking [{v:=v,recovered:=false}]) W fun e u' w'=>(∃x,e= .returned x)/\u'= .panicking [{v:=v,recovered:=true}]/\ ∃(o':OL) (F':Nat->Prop) (η':Nat->Value) (S':Nat->List Nat),Mem c (om o') w' F' η' S'/\zaN (om o') w' F' η' das gs/\retDF P rs os PL (us.map fun u=>(u,tm TS u)) o'):
  FnL P f args os PL:=by
 subst hN;subst hrs;refine⟨fun W as=>hc as W,fun W F O0 η S vs hm hO0 hvs=> ?_⟩;have hlen:=zaN.length _ _ hvs;show Calls P f vs.toArray W (EndD P W F O0 η os PL);refine callsIn_wide.1 (callsIn_of_wp_marks (n:=0) hf hb trivial ?_);have ev: ∀t,(vs.toArray++Array.replicate (fn.ntmps-vs.toArray.size) undef).getD t undef=vs.getD t undef:=by
  intro t;rw[Array.getD_eq_getD_getElem?,Array.getElem?_append];by_cases ht:t<vs.length
  ·simp[ht,List.getD]
  ·simp only[List.size_toArray,ht,if_false,Array.getElem?_replicate,List.getD];rw[List.getElem?_eq_none (by omega)];split <;> rfl
 have hr:Rel ⟨P,⟨fn.ntmps,[],false,own,fun _ _=>False⟩,W,F,O0,[],[],fun t=>vs.getD t undef,[]⟩ ⟨tm (zpL 0 args),om os⟩ {tmps:=vs.toArray++Array.replicate (fn.ntmps-vs.toArray.size) undef,defers:=[]} W:=by
  refine⟨⟨by simp[hlen]; omega,fun t ht=>by cases ht⟩,rfl,F,η,S,hm.same rfl rfl rfl rfl rfl,fun t=> ?_⟩;have:=zwa args vs 0 hvs t;simp only[Nat.zero_le,if_true,Nat.sub_zero]at this;simp only[ev];exact this
 refine eP_sound (X:=.seq (.region id ops false) B) (K:=subK TS OS) (c:=⟨P,⟨fn.ntmps,[],false,own,fun _ _=>False⟩,W,F,O0,[],[],fun t=>vs.getD t undef,[]⟩) hmix rfl rfl rfl (fun _ _ h=>h.elim) ?_ ?_ pre _ _ _ _ hpre hr
 ·-- the region, and what stands behind it
  intro t o a W1 hk hr1;obtain⟨hk1,hk2⟩:=hk;have hr2:=zzH (σ:=⟨tm t,om o⟩) hk1 hk2 _ a W1 hr1;obtain⟨⟨hsz,_⟩,hdf,F1,η1,S1,hm1,ht1⟩:=hr2;refine wpIn_seq (wpIn_mono (hreg 0 a W1 hsz (by simpa using hdf)) ?_);rintro e a' W2 ⟨rfl,rfl,hsz',hkeep,hdi⟩;show B.wpIn (FW none) 0 P _ a' W2;obtain⟨hm2,hkp⟩:=hm1.ghostH (hs:=das) (zyr hG.1.1).1 (zyr hG.1.1).2 hG.2.1 hG.2.2;have hvals:us.map (fun u=>a.tmps.getD u undef)=das.map (hv η1):=by
   have hrel: ∀us:List Nat,zaN (om OS) W2 F1 η1 (us.map (tm TS)) (us.map fun u=>a.tmps.getD u undef):=by
    intro us
    induction us with
    | nil=>simp only[List.map_nil,zaN]
    | cons u r ih=>simp only[List.map_cons,zaN]; exact⟨_,_,rfl,ht1 u,ih⟩
   have h1:=hrel us;rw[hus]at h1;exact bp_vals das _ hbp hG.2.1 (fun j cs hj=>by obtain⟨b,cur,ty,e1,_⟩:=hm1.obj j _ hj; exact⟨b,e1⟩) h1
  have htm: ∀i,tm TS i≠ .dead ->a'.tmps.getD i undef=a.tmps.getD i undef:=by
   intro i hi;have: ∃x,(i,x)∈TS:=tm_mem hi;obtain⟨x,hx⟩:=this;exact hkeep _ hx
  have hr3:Rel ⟨P,⟨fn.ntmps,us,false,own,px (das.map (hv η1))⟩,W,F,O0,[],[],fun t=>a'.tmps.getD t undef,a'.defers⟩ ⟨tm TS,om ((G,.gh das (das.map (hv η1)))::OS)⟩ a' W2:=by
   refine⟨⟨hsz',fun _ _=>rfl⟩,by simp,F1,η1,S1,?_,fun i=> ?_⟩
   ·rw[zyN];exact hm2.same rfl rfl rfl rfl rfl
   ·show zaL _ _ _ _ (tm TS i) _;by_cases hi:tm TS i= .dead
    ·rw[hi]; simp only[zaL]
    ·rw[htm i hi,zyN];exact zaL.pres hkp (fun b hb=>⟨hb,rfl⟩) _ _ (zer TS hG.1.2 i) (ht1 i)
  refine wpIn_mono (zBm hmix B (retDX P fn.results os PL (px (das.map (hv η1)))) TS _ (fun v o hv=>⟨v,rfl,hv⟩) (hpost _) none 0 _ (fun _=>rfl) rfl rfl a' W2 hr3) ?_;rintro e a3 W3 ⟨σ3,⟨t3,o3,rfl,h3⟩,Ds,hD,hr4⟩;have hDs:Ds=[]:=hD.2.2 rfl;subst hDs;rw[Ctx.more_nil]at hr4;obtain⟨⟨hsz4,hpin⟩,hdf4,F4,η4,S4,hm4,ht4⟩:=hr4;have hdf5:a3.defers=a'.defers:=by simpa using hdf4
  have hret:retDF P fn.results os PL t3 o3->LeavesInM Fence.wide 0 P fn a3.tmps (EndD P W F O0 η os PL) a3.defers .returning W3:=by
   intro h;obtain⟨v,hv1,hv2⟩:=zIE (η:=η) hm4 ht4 h;rw[hdf5];refine leaves_df hdi (by simp) ((hidle _ W3 (by simp)).mono ?_);rintro e u' w' ⟨⟨x,rfl⟩,rfl,rfl⟩;exact⟨v,hv1,hv2⟩
  cases e with
  | normal=>exact hret h3
  | ret=>exact hret h3
  | panic ch=>
   obtain⟨v,rfl,hv3⟩:=h3;obtain⟨hgh,hca⟩:=hcatch _ v o3 hv3;have hgr:zaN (om o3) W3 F4 η4 das (das.map (hv η1)):=(hm4.obj G _ hgh).2;show LeavesInM _ _ _ _ _ _ a3.defers _ W3;rw[hdf5];rw[hvals]at hdi;refine leaves_df hdi (by simp) ((hca _ W3 F4 η4 S4 rfl rfl rfl hm4 hgr).mono ?_);rintro e u' w' ⟨⟨x,rfl⟩,rfl,o',F',η',S',hm5,hr5,hfin⟩;have ht5: ∀i,zaL (om o') w' F' η' (tm (us.map fun u=>(u,tm TS u)) i) (a3.tmps.getD i undef):=by
    intro i;have key: ∀l:List Nat,(∀u∈l,u∈us)->zaN (om o') w' F' η' (l.map (tm TS)) (l.map fun u=>a.tmps.getD u undef)->zaL (om o') w' F' η' (tm (l.map fun u=>(u,tm TS u)) i) (a3.tmps.getD i undef):=by
     intro l
     induction l with
     | nil=>intro _ _; simp only[List.map_nil,tm,zaL]
     | cons u r ih=>
      intro hl hrl;simp only[List.map_cons,zaN]at hrl;obtain⟨v',rest,e1,h7,h8⟩:=hrl;obtain⟨rfl,rfl⟩:=List.cons.inj e1;simp only[List.map_cons,tm];split
      ·rename_i e2;subst e2;have hu:=hpin i (hl i (by simp));simp only at hu;rw[hu];by_cases hi:tm TS i= .dead
       ·rw[hi]; simp only[zaL]
       ·rw[htm i hi]; exact h7
      ·exact ih (fun u hu=>hl u (by simp[hu])) h8
    refine key us (fun _ h=>h) ?_;rw[hus,hvals];exact hr5
   obtain⟨v',hv1,hv2⟩:=zIE (η:=η) hm5 ht5 hfin;exact⟨v',hv1,hv2⟩
  | exit _=>exact h3.elim
  | goto _=>exact h3.elim
  | outgrown=>exact h3.elim
 ·-- the zic end
  intro e t o a W1 he hq hr1;obtain⟨_,hdf,F1,η1,S1,hm1,ht1⟩:=hr1;cases e with
  | ret=>
   obtain⟨v,hv1,hv2⟩:=zIE (η:=η) hm1 ht1 hq;have hd0:a.defers=[]:=by simpa using hdf
   show LeavesInM _ _ _ _ _ _ a.defers _ W1;rw[hd0];exact⟨v,hv1,hv2⟩
  | normal=>exact absurd rfl he
  | exit _=>exact hq.elim
  | goto _=>exact hq.elim
  | panic _=>exact hq.elim
  | outgrown=>exact hq.elim
end Go.Aw
