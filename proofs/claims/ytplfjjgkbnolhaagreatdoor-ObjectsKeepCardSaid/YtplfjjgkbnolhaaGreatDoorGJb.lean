/- Machinery. Conditions: those of each. -/
import Derived.Test.YtplfjjgkbnolhaaGreatDoorGP
import Derived.Test.YtplfjjgkbnolhaaGreatDoorGO
set_option linter.unusedSimpArgs false
set_option linter.unusedVariables false
/-
 A RANGE OVER AN ITERATOR THAT OWNS A VARIABLE.
 Conditions: those of the law; over any program.
-/
namespace Go.Aw
open Go.RowKit
theorem Mem.fewer{c:Ctx}{O O':Objs}{W:World}{F:Nat→Prop}{η:Nat→Value}{S:Nat→List Nat}(hm:Mem c O W F η S)(h2: ∀id,O' id=none∨O' id=O id):Mem c O' W F η (fun id=>if (O' id).isSome then S id else []):=by
 have h3: ∀id o,O' id=some o→O id=some o:=by
  intro id o ho;rcases h2 id with h | h
  ·rw[ho]at h; cases h
  ·rw[←h]; exact ho
 have hk:Keeps O O' η η []:=fun id o ho=>Keeps.refl O η id o (h3 id o ho);have hF: ∀b,F b→F b∧W.heap[b]? =W.heap[b]? :=fun b hb=>⟨hb,rfl⟩;refine⟨hm.os,hm.tape,hm.output,hm.size,hm.old,hm.f0,hm.flt,hm.fold,?_,?_,?_,?_,?_,?_,?_,hm.zd⟩
 ·intro id o ho;have:=h3 id o ho;simp only[ho,Option.isSome_some,if_true];exact RelO.mono hk hF (AO.noRef_nil o) (fun _ _=>rfl) (fun lim fam stop l rest e=>⟨rfl,rfl,rfl,Nat.le_refl _,fun b hb=>⟨hb,rfl⟩,fun _ _=>rfl,fun b hb=>(hm.apart id b hb).1,hm.flt,fun _ _=>rfl,fun b hb _=>hb⟩) (hm.obj id o this)
 ·intro id ho; simp[ho]
 ·intro id b hb;split at hb
  ·exact hm.apart id b hb
  ·simp at hb
 ·intro id id' b hb hb';split at hb
  ·split at hb'
   ·exact hm.sep id id' b hb hb'
   ·simp at hb'
  ·simp at hb
 ·intro id;split
  ·exact hm.nd id
  ·simp
 ·intro p hp;obtain⟨z1,z2,z3,z4⟩:=hm.hid p hp;refine⟨z1,z2,fun id hb=> ?_,z4⟩;split at hb
  ·exact z3 id hb
  ·simp at hb
 ·intro id lim fam stop l rest ho;obtain⟨l1,l2⟩:=hm.lim id _ _ _ _ _ (h3 id _ ho);refine⟨l1,fun id' b hb hne=> ?_⟩;split at hb
  ·exact l2 id' b hb hne
  ·simp at hb
theorem Mem.ext0{c:Ctx}{O:Objs}{W W':World}{F F':Nat→Prop}{η:Nat→Value}{S:Nat→List Nat}{s:List Nat}(hm:Mem c O W F η S)(hE:ExtC W W' F F' s 0)(hx:noExt O)(hs: ∀id b,b∈S id→b∈s)(ho: ∀b,b<c.W0.heap.size→ ¬c.O0 b→ ¬F b→b∈s)(hz: ∀p∈c.Z,p.1∈s):Mem c O W' F' η S:=by
 refine⟨hE.os.trans hm.os,hE.tape.trans hm.tape,hE.output.trans hm.output,Nat.le_trans hm.size hE.size,fun b hb hn=> ?_,fun b hb=>(hE.frz b (hm.f0 b hb)).1,hE.flt,fun b hb hlt=> ?_,?_,hm.gone,?_,hm.sep,hm.nd,?_,hm.lim,hm.zd⟩
 ·by_cases hF:F b
  ·exact(hE.frz b hF).2.trans (hm.old b hb hn)
  ·exact(hE.same b (ho b hb hn hF)).trans (hm.old b hb hn)
 ·by_cases hO:c.O0 b
  ·exact .inr hO
  ·by_cases hF:F b
   ·exact hm.fold b hF hlt
   ·exact absurd hb (hE.apart b (ho b hlt hO hF))
 ·intro id o ho';refine RelO.mono (Keeps.refl O η) hE.frz (AO.noRef_nil o) (fun b hb=>hE.same b (hs id b hb)) (fun lim2 fam stop l rest e=> ?_) (hm.obj id o ho');subst e;exact absurd ho' (hx _ _ _ _ _ _)
 ·intro id b hb;obtain⟨a1,a2,a3⟩:=hm.apart id b hb;exact⟨hE.apart b (hs id b hb),Nat.lt_of_lt_of_le a2 hE.size,a3⟩
 ·intro p hp;obtain⟨z1,z2,z3,z4⟩:=hm.hid p hp;exact⟨(hE.same _ (hz p hp)).trans z1,hE.apart _ (hz p hp),z3,z4⟩
def IterB(P:Program)(g:FuncId)(B:Nat)(cs:List D)(A S:List (List D)→Prop):Prop:=
 ∀(lim:Nat) (fam:List (List D)→XJ lim) (stop:XJ lim) (l:Nat),YieldOk P lim fam stop l A→
  FnG P g [.yv 0,.bp B 0] (om [(0,.ext lim fam stop l []),(B,.box (cs.map .d))]) fun _ Oo new=>(∃xs,S xs∧Oo=om [(0,.ext lim fam stop l xs)]∧new=[])∨(Oo=om [(0,.ext lim (fun _=>stop) stop l [])]∧new=[])
theorem awp_rangeB{P:Program}{N:NP}{σ:St}{g:Operand}{ps:Array Tmp}{assign body:Code}{gf:FuncId}{B:Nat}{cs:List D}{A Sd:List (List D)→Prop}{Q:Exit→St→Prop}(htop:N.top=true)(hg:St.ev σ.tmps g= .clo (.func gf) [] [.bp B 0])(hB:σ.objs B=some (.box (cs.map .d)))(hB0:B≠0)(hI:IterB P gf B cs A Sd)
  (T:List Nat) (hT: ∀t,t∉T→σ.tmps t= .dead) (hps: ∀p∈ps.toList,p<N.n∧p∉T) (Os:List (List D)→Objs) (h0:Os []=drop σ.objs [B]) (hx: ∀pre,noExt (Os pre))
  (hb: ∀pre x,A (pre++[x])→x.length=ps.size∧AWp P ⟨N.n,T,false,N.own,fun _ _=>False⟩ assign (fun e σ1=>e= .normal ∧noExt σ1.objs∧AWp P ⟨N.n,T,false,N.own,fun _ _=>False⟩ body (rangeQ σ Q (Os (pre++[x]))) σ1) ⟨zipT ps.toList x σ.tmps,Os pre⟩)
  (hd: ∀xs,Sd xs→Q .normal ⟨σ.tmps,Os xs⟩):AWp P N (.rangeFunc g ps assign body) Q σ:=by
 intro R n c hTop hP hN a w hr;subst hP;subst hN;rw[hTop htop];obtain⟨⟨hsz,hpin⟩,hdf,F,η,S,hm,ht⟩:=hr;obtain⟨bb,cur,eb,hb1,hb2,hb3,hb4⟩:=hm.obj B _ hB;have hbS:bb∈S B:=by rw[hb2]; simp
 have hbF: ¬F bb:=(hm.apart B bb hbS).1;have hblt:bb<w.heap.size:=(hm.apart B bb hbS).2.1;have hbO:bb<c.W0.heap.size→c.O0 bb:=(hm.apart B bb hbS).2.2;have hbZ: ∀p∈c.Z,p.1≠bb:=fun p hp e=>(hm.hid p hp).2.2.1 B (e▸hbS);have hgv:=relV_ev ht g;rw[hg]at hgv;simp only[RelV,RelVs]at hgv;obtain⟨fs,lb,hgv,hfs,vb,rest,rfl,hvb,rfl⟩:=hgv;subst hfs;have hvb1:vb= .pointer (some ⟨bb,0,none⟩):=by
  obtain⟨b',e1,e2⟩:=hvb _ hB;rw[hb1]at e1;cases e1;exact e2
 -- without the box
 have hcs:RdVals w F cs cur.toList:=(RelVs.of_ds _ _).1 hb4;have hSB: ∀id,id≠B→bb∉S id:=fun id hne h=>hne (hm.sep id B bb h hbS);obtain⟨S0,hS0⟩: ∃S0:Nat→List Nat,S0=fun id=>if ((drop σ.objs [B]) id).isSome then S id else []:=⟨_,rfl⟩
 have hm':Mem c (drop σ.objs [B]) w F η S0:=by
  rw[hS0]; exact hm.fewer (O':=drop σ.objs [B]) (fun id=>by unfold drop; split <;> simp)
 have hS0B: ∀id,bb∉S0 id:=fun id h=>by
  rw[hS0]at h;simp only at h;split at h
  ·rename_i hs;by_cases e:id=B
   ·subst e; simp[drop]at hs
   ·exact hSB id e h
  ·simp at h
 have ht': ∀t,RelV (drop σ.objs [B]) w F η (σ.tmps t) (a.tmps.getD t undef):=fun t=>RelV.pres (Keeps.drop _ _ _) (fun _ h=>⟨h,rfl⟩) _ _ (AV.noRef_nil _) (ht t);clear ht hm;have hm:=hm';have ht:=ht';clear hm' ht';generalize hOs:drop σ.objs [B]=O0 at hm ht h0;refine wpIn_rangeFunc ?_;intro fn hfn;obtain⟨rec,hrec⟩: ∃rec:LoopState→Option Code→Loop,rec=fun st pe=>{state:=st,pending:=pe,fn,tmps:=a.tmps,params:=ps,assign,body,defers:=w.heap.size}:=⟨_,rfl⟩;obtain⟨W1,hW1⟩: ∃W1,(w.alloc (.deferred (some []))).alloc (.loop (rec .ready none))=W1:=⟨_,rfl⟩;obtain⟨L,hL⟩: ∃L,w.heap.size+1=L:=⟨_,rfl⟩;obtain⟨cJ,hcJ⟩: ∃cJ:Obj→Ctx,cJ=fun o=>{c.more [w.heap.size]with Z:=(L,o)::(c.more [w.heap.size]).Z}:=⟨_,rfl⟩;have cJ0: ∀o,(cJ o).W0 =c.W0∧(cJ o).F0 =c.F0∧(cJ o).O0 =c.O0∧(cJ o).P =c.P:=fun o=>by rw[hcJ]; exact⟨rfl,rfl,rfl,rfl⟩
 have cJZ: ∀o p,p∈(cJ o).Z ↔p=(L,o)∨p=(w.heap.size,.deferred (some []))∨p∈c.Z:=fun o p=>by rw[hcJ]; simp[Ctx.more]
 have cJd: ∀o,(cJ o).ds =w.heap.size::c.ds:=fun o=>by rw[hcJ]; rfl
 have hL1:W1.heap[L]? =some (.loop (rec .ready none)):=by
  rw[←hW1,←hL]; have:=World.alloc_heap_new (w.alloc (.deferred (some []))) (.loop (rec .ready none)); rwa [World.size_alloc]at this
 have hK1:W1.heap[w.heap.size]? =some (.deferred (some [])):=by
  rw[←hW1]; exact(Below.heap_alloc _ _ _ (by simp)).trans (World.alloc_heap_new w _)
 have hsize1:W1.heap.size=w.heap.size+2:=by rw[←hW1]; simp
 have hold1: ∀b,b<w.heap.size→W1.heap[b]? =w.heap[b]? :=fun b hb=>by rw[←hW1]; exact(Below.heap_alloc _ _ _ (by simp; omega)).trans (Below.heap_alloc _ _ _ hb)
 have hZlt: ∀o p,p∈(cJ o).Z →p.1<w.heap.size+2:=by
  intro o p hp;rcases(cJZ o p).1 hp with rfl | rfl | hp
  ·simp; omega
  ·simp
  ·have:=(Array.getElem?_eq_some_iff.1 (hm.hid p hp).1).1; omega
 -- the memory once the record is laid
 obtain⟨hmJ,hFJ⟩:=hm.hidden (c':=cJ (.loop (rec .ready none))) (W':=W1) ⟨(cJ0 _).1,(cJ0 _).2.1,(cJ0 _).2.2.1⟩ (by rw[←hW1]; rfl) (by rw[←hW1]; rfl) (by rw[←hW1]; rfl) (by omega) (fun b hb _=>hold1 b hb)
  (fun p hp=>by
   rcases(cJZ _ p).1 hp with rfl | rfl | hp
   ·exact⟨hL1,.inr (by simp; omega)⟩
   ·exact⟨hK1,.inr (Nat.le_refl _)⟩
   ·exact⟨(hold1 p.1 ((Array.getElem?_eq_some_iff.1 (hm.hid p hp).1).1)).trans (hm.hid p hp).1,.inl (List.mem_map.2 ⟨p,hp,rfl⟩)⟩)
  (fun D hD=>by
   rw[cJd]at hD;rcases List.mem_cons.1 hD with rfl | hD
   ·exact(cJZ _ _).2 (.inr (.inl rfl))
   ·exact(cJZ _ _).2 (.inr (.inr (hm.zd D hD))))
 have htJ: ∀t,RelV O0 W1 F η (σ.tmps t) (a.tmps.getD t undef):=fun t=>RelV.pres (Keeps.refl _ _) hFJ _ _ (AV.noRef_nil _) (ht t)
 -- the record turns
 have turn: ∀ {O:Objs} {W:World} {F:Nat→Prop} {η:Nat→Value} {S:Nat→List Nat} {o:Obj} (o':Obj),Mem (cJ o) O W F η S→Mem (cJ o') O (W.putObj L o') F η S∧ ∀b,F b→F b∧(W.putObj L o').heap[b]? =W.heap[b]? :=by
  intro O W F η S o o' h;have hl:=h.hid (L,o) ((cJZ _ _).2 (.inl rfl));have hlt:L<W.heap.size:=(Array.getElem?_eq_some_iff.1 hl.1).1;refine h.hidden ⟨((cJ0 _).1).trans ((cJ0 _).1).symm,((cJ0 _).2.1).trans ((cJ0 _).2.1).symm,((cJ0 _).2.2.1).trans ((cJ0 _).2.2.1).symm⟩ rfl rfl rfl (by simp) (fun b _ hb=>World.putObj_heap_other (fun e=>hb (L,o) ((cJZ _ _).2 (.inl rfl)) e.symm)) ?_ ?_
  ·intro p hp;rcases(cJZ _ p).1 hp with rfl | hp
   ·exact⟨World.putObj_heap_same hlt,.inl (List.mem_map.2 ⟨(L,o),(cJZ _ _).2 (.inl rfl),rfl⟩)⟩
   ·have hp':p∈(cJ o).Z :=(cJZ _ _).2 (.inr hp);refine⟨(World.putObj_heap_other ?_).trans (h.hid p hp').1,.inl (List.mem_map.2 ⟨p,hp',rfl⟩)⟩;rcases hp with rfl | hp
    ·simp; omega
    ·have:=(Array.getElem?_eq_some_iff.1 (hm.hid p hp).1).1; omega
  ·intro D hD;have:=h.zd D (by rw[cJd]at hD ⊢; exact hD);rcases(cJZ _ _).1 this with h | h
   ·cases h;rw[cJd]at hD;rcases List.mem_cons.1 hD with h | h
    ·omega
    ·have:=(Array.getElem?_eq_some_iff.1 (hm.hid _ (hm.zd _ h)).1).1; simp at this; omega
   ·exact(cJZ _ _).2 (.inr h)
 -- what the iterator carries of ours
 obtain⟨J,hJ⟩: ∃J:Obj→Objs→World→(Nat→Prop)→List Nat→Prop,J=fun o O W F s=> ∃η S,Mem (cJ o) O W F η S∧noExt O∧(∀t,RelV O W F η (σ.tmps t) (a.tmps.getD t undef))∧(∀b,(∃id,b∈S id)∨b=L→b∈s)∧ ∀b,b<w.heap.size+2→ ¬F b→b≠bb→b∈s:=⟨_,rfl⟩;have hst: ∀o O W W' F F' s,J o O W F s→ExtC W W' F F' s 0→J o O W' F' s:=by
  intro o O W W' F F' s h hE;rw[hJ]at h ⊢;obtain⟨η,S,h1,hx,h2,h3,h4⟩:=h;have hms:=hm.size;refine⟨η,S,h1.ext0 hE hx (fun id b hb=>h3 b (.inl ⟨id,hb⟩)) (fun b hb hn hF=>h4 b (by rw[(cJ0 o).1]at hb; omega) hF (fun e=> ?_)) (fun p hp=>h4 _ (hZlt o p hp) (h1.hid p hp).2.1 (fun e=> ?_)),hx,fun t=>RelV.pres (Keeps.refl _ _) hE.frz _ _ (AV.noRef_nil _) (h2 t),h3,fun b hb hF hne=>h4 b hb (fun hf=>hF (hE.frz b hf).1) hne⟩
  ·subst e;rw[(cJ0 o).1]at hb;rw[(cJ0 o).2.2.1]at hn;exact hn (hbO hb)
  ·rcases(cJZ o p).1 hp with rfl | rfl | hp
   ·simp only at e; omega
   ·simp only at e; omega
   ·exact hbZ p hp e
 obtain⟨fam,hfam⟩: ∃fam:List (List D)→XJ 0,fam=fun pre=>⟨J (.loop (rec .ready none)) (Os pre),hst _ _⟩:=⟨_,rfl⟩;obtain⟨stop,hstop⟩: ∃stop:XJ 0,stop=⟨fun W F s=> ∃e cd O,jumpOf e=some cd∧Q e ⟨σ.tmps,O⟩∧J (.loop (rec .done (some cd))) O W F s,fun W W' F F' s ⟨e,cd,O,h1,h2,h3⟩ hE=>⟨e,cd,O,h1,h2,hst _ _ _ _ _ _ _ h3 hE⟩⟩:=⟨_,rfl⟩;have famJ: ∀pre W F s,(fam pre).J W F s=J (.loop (rec .ready none)) (Os pre) W F s:=fun pre W F s=>by rw[hfam]
 have stopJ: ∀W F s,stop.J W F s= ∃e cd O,jumpOf e=some cd∧Q e ⟨σ.tmps,O⟩∧J (.loop (rec .done (some cd))) O W F s:=fun W F s=>by rw[hstop]
 have hJi: ∀o O W F s,J o O W F s= ∃η S,Mem (cJ o) O W F η S∧noExt O∧(∀t,RelV O W F η (σ.tmps t) (a.tmps.getD t undef))∧(∀b,(∃id,b∈S id)∨b=L→b∈s)∧ ∀b,b<w.heap.size+2→ ¬F b→b≠bb→b∈s:=fun o O W F s=>by rw[hJ]
 -- a round
 have hY:YieldOk c.P 0 fam stop L A:=by
  intro n W F s pre x vs hj hA hxv hFlt hs hsn hlim;rw[famJ,hJi]at hj;obtain⟨η,S,hm0,hnx0,ht0,hs0,hs00⟩:=hj;obtain⟨hxl,hwp⟩:=hb pre x hA;have hvl:=RdVals.length _ _ hxv;obtain⟨r1,r2,r3,r4⟩:=hm0.hid (L,_) ((cJZ _ _).2 (.inl rfl));simp only at r1 r2 r3 r4;have hy:=run_yield (P:=c.P) (args:=vs.toArray) r1 (by rw[hrec]; simp; omega);rw[hrec]at hy;refine⟨fn,_,assign,body,hy,roundIn_of_wpIn (l:=L) (F:=Fence.wide) hfn ?_⟩;obtain⟨z1,z2,z3⟩:=zipT_rel (O:=Os pre) (η:=η) T (fun t=>a.tmps.getD t undef) ps.toList x vs σ.tmps a.tmps (by simp; omega) hxv (fun p hp=>by rw[hsz]; exact hps p hp) ht0 (fun _ _=>rfl);have ez:(ps.zip vs.toArray).foldl (fun(t:Array Value) (x:Nat×Value)=>t.setIfInBounds x.1 x.2) a.tmps=(ps.toList.zip vs).foldl (fun(t:Array Value) (x:Nat×Value)=>t.setIfInBounds x.1 x.2) a.tmps:=by
   rw[←Array.foldl_toList,Array.toList_zip]
  have hrel1:Rel ⟨c.P,⟨c.N.n,T,false,c.N.own,fun _ _=>False⟩,W,F,fun b=> ∃id,b∈S id,[],[],fun t=>a.tmps.getD t undef,[]⟩ ⟨zipT ps.toList x σ.tmps,Os pre⟩ {tmps:=(ps.zip vs.toArray).foldl (fun(t:Array Value) (x:Nat×Value)=>t.setIfInBounds x.1 x.2) a.tmps,defers:=[]} W:=
   ⟨⟨by rw[ez,z1]; exact hsz,by rw[ez]; exact z3⟩,rfl,F,η,S,(hm0.rebase N0 (fun _=>undef)).same rfl rfl rfl rfl rfl,by rw[ez]; exact z2⟩
  refine wpIn_mono (hwp (some L) n ⟨c.P,⟨c.N.n,T,false,c.N.own,fun _ _=>False⟩,W,F,fun b=> ∃id,b∈S id,[],[],fun t=>a.tmps.getD t undef,[]⟩ (fun h=>by cases h) rfl rfl _ _ hrel1) ?_;rintro e a1 w1 ⟨σ1,⟨rfl,hnx1,hwp2⟩,Ds,⟨_,_,hDs⟩,hR1⟩;rw[hDs rfl,Ctx.more_nil]at hR1;obtain⟨⟨hsz1,hpin1⟩,hdf1,F1,η1,S1,hm1,ht1⟩:=hR1;have hj1:=hm0.join hm1 rfl rfl rfl hnx1;obtain⟨q1,_⟩:=hj1.hid (L,_) ((cJZ _ _).2 (.inl rfl));simp only at q1;refine⟨_,run_beginRound q1 (by rw[hrec]),?_⟩;obtain⟨hj2,hF2⟩:=turn (.loop {rec .ready none with state:=.busy}) hj1;have w2s:(w1.putObj L (.loop {rec .ready none with state:=.busy})).heap.size =w1.heap.size:=World.putObj_size;have w2o: ∀b,b≠L→(w1.putObj L (.loop {rec .ready none with state:=.busy})).heap[b]? =w1.heap[b]? :=fun b hb=>World.putObj_heap_other hb;have w2f:(w1.putObj L (.loop {rec .ready none with state:=.busy})).os =w1.os∧(w1.putObj L (.loop {rec .ready none with state:=.busy})).tape =w1.tape∧(w1.putObj L (.loop {rec .ready none with state:=.busy})).output =w1.output:=⟨rfl,rfl,rfl⟩;generalize (w1.putObj L (.loop {rec .ready none with state:=.busy}))=w2 at hj2 hF2 w2s w2o w2f ⊢;have hrel2:Rel ⟨c.P,⟨c.N.n,T,false,c.N.own,fun _ _=>False⟩,w2,F1,fun b=> ∃id,b∈S1 id,[],[],fun t=>a.tmps.getD t undef,[]⟩ σ1 a1 w2:=
   ⟨⟨hsz1,hpin1⟩,hdf1,F1,η1,S1,(hj2.rebase N0 (fun _=>undef)).same rfl rfl rfl rfl rfl,fun t=>RelV.pres (Keeps.refl _ _) hF2 _ _ (AV.noRef_nil _) (ht1 t)⟩
  refine wpIn_mono (hwp2 (some L) n ⟨c.P,⟨c.N.n,T,false,c.N.own,fun _ _=>False⟩,w2,F1,fun b=> ∃id,b∈S1 id,[],[],fun t=>a.tmps.getD t undef,[]⟩ (fun h=>by cases h) rfl rfl _ _ hrel2) ?_;rintro e a2 W3 ⟨σ2,hq,Ds2,⟨_,_,hDs2⟩,hR2⟩;rw[hDs2 rfl,Ctx.more_nil]at hR2
  -- the round's end
  have fin: ∀(jump:Option Code) (O2:Objs),(∀t,σ.tmps t= .dead ∨σ.tmps t=σ2.tmps t)→(∀id,O2 id=none∨O2 id=σ2.objs id)→noExt O2→
    ∃w4 F2 s',(Instr.endRound L jump).run c.P W3= .ok (.bool jump.isNone) w4∧YEnv W w4 F F2 s s'∧J (.loop (rec (if jump.isNone then .ready else .done) jump)) O2 w4 F2 s':=by
   intro jump O2 hs1 hs2 hnx;obtain⟨⟨hsz2,hpin2⟩,_,F2,η2,S2,hm2,ht2⟩:=sub_gen (σ:=σ2) (σ':=⟨σ.tmps,O2⟩) hs1 hs2 _ a2 W3 hR2;have hj3:=hj2.join hm2 rfl rfl rfl hnx;obtain⟨p1,p2,p3,_⟩:=hj3.hid (L,_) ((cJZ _ _).2 (.inl rfl));simp only at p1 p2 p3;have hend:=run_endRound (P:=c.P) jump p1;have erec:({({rec .ready none with state:=.busy}:Loop)with state:=if jump.isNone then .ready else .done,pending:=jump}:Loop)=rec (if jump.isNone then .ready else .done) jump:=by rw[hrec]
   rw[erec]at hend;obtain⟨hj4,hF4⟩:=turn (.loop (rec (if jump.isNone then .ready else .done) jump)) hj3;have hLW:L<W.heap.size:=(Array.getElem?_eq_some_iff.1 r1).1;have hsz12:W.heap.size≤w1.heap.size:=hm1.size;have hsz23':w2.heap.size≤W3.heap.size:=hm2.size;have hsz23:w1.heap.size≤W3.heap.size:=by omega
   have hm2o: ∀b,b<w2.heap.size→ ¬(∃id,b∈S1 id)→W3.heap[b]? =w2.heap[b]? :=hm2.old;have hm2fo: ∀b,F2 b→b<w2.heap.size→F1 b∨ ∃id,b∈S1 id:=hm2.fold;have hm1o: ∀b,b<W.heap.size→ ¬(∃id,b∈S id)→w1.heap[b]? =W.heap[b]? :=hm1.old;have hm1fo: ∀b,F1 b→b<W.heap.size→F b∨ ∃id,b∈S id:=hm1.fold;have hS1: ∀id b,b∈S1 id→b<W.heap.size→ ∃id',b∈S id':=fun id b hb hlt=>(hm1.apart id b hb).2.2 hlt;refine⟨_,F2,(List.range (W3.putObj L (.loop (rec (if jump.isNone then .ready else .done) jump))).heap.size).filter (fun b=> @decide ((((∃id,b∈S2 id)∨b=L)∨b∈s)∧ ¬F2 b) (Classical.propDecidable _)),hend,?_,?_⟩
   ·refine⟨hm2.os.trans (w2f.1.trans hm1.os),hm2.tape.trans (w2f.2.1.trans hm1.tape),hm2.output.trans (w2f.2.2.trans hm1.output),by simp; omega,?_,fun b hb=>hm2.f0 b (hm1.f0 b hb),?_,?_,List.nodup_range.sublist List.filter_sublist⟩
    ·intro b hlt hn;have hbL:b≠L:=fun e=>hn (hs0 b (.inr e));have hbS: ¬ ∃id,b∈S id:=fun h=>hn (hs0 b (.inl h));rw[World.putObj_heap_other hbL,hm2o b (by omega) (fun⟨id,h⟩=>hbS (hS1 id b h hlt)),w2o b hbL,hm1o b hlt hbS]
    ·intro b hb;by_cases h2:b<w1.heap.size
     ·rcases hm2fo b hb (by omega)with h | ⟨id,h⟩
      ·by_cases h1:b<W.heap.size
       ·rcases hm1fo b h h1 with h | h
        ·exact .inl h
        ·exact .inr (.inr (hs0 b (.inl h)))
       ·exact .inr (.inl ⟨by omega,by simp; omega⟩)
      ·by_cases h1:b<W.heap.size
       ·exact .inr (.inr (hs0 b (.inl (hS1 id b h h1))))
       ·exact .inr (.inl ⟨by omega,by simp; omega⟩)
     ·exact .inr (.inl ⟨by omega,by have:=hm2.flt b hb; simpa using this⟩)
    ·intro b hb;rw[List.mem_filter]at hb;obtain⟨hb1,hb2⟩:=hb;simp only[decide_eq_true_eq]at hb2;obtain⟨hb2,hb3⟩:=hb2;refine⟨hb3,?_⟩;rcases hb2 with(⟨id,hb2⟩ | rfl) | hb2
     ·obtain⟨a1',a2',a3'⟩:=hm2.apart id b hb2;by_cases h1:b<W.heap.size
      ·obtain⟨id',h⟩: ∃id,b∈S1 id:=a3' (show b<w2.heap.size by omega);exact .inl (hs0 b (.inl (hS1 id' b h h1)))
      ·exact .inr ⟨by omega,by simpa using a2'⟩
     ·exact .inl (hs0 b (.inr rfl))
     ·exact .inl hb2
   ·rw[hJi];refine⟨η2,S2,hj4,hnx,fun t=> ?_,fun b h=> ?_,fun b hb hF hne=> ?_⟩
    ·by_cases htT:t∈T
     ·have:=RelV.pres (Keeps.refl _ _) hF4 _ _ (AV.noRef_nil _) (ht2 t);rw[hpin2 t htT]at this;exact this
     ·rw[hT t htT]; simp only[RelV]
    ·rw[List.mem_filter];simp only[decide_eq_true_eq,List.mem_range];refine⟨?_,.inl h,?_⟩
     ·rcases h with⟨id,h⟩ | rfl
      ·have:=(hm2.apart id b h).2.1; simpa using this
      ·simp; omega
     ·rcases h with⟨id,h⟩ | rfl
      ·exact(hm2.apart id b h).1
      ·exact p2
    ·rw[List.mem_filter];simp only[decide_eq_true_eq,List.mem_range];have hFF: ¬F b:=fun h=>hF (hm2.f0 b (hm1.f0 b h));exact⟨by simp; omega,.inr (hs00 b hb hFF hne),hF⟩
  cases e with
  | normal=>
   obtain⟨q2,q3⟩:=hq;obtain⟨w4,F2,s',f1,f2,f3⟩:=fin none _ q2 q3 (hx _);exact⟨_,w4,f1,F2,s',f2,.inl ⟨rfl,by rw[famJ]; exact f3⟩⟩
  | ret=>
   obtain⟨q2,q3,q4⟩:=hq;obtain⟨w4,F2,s',f1,f2,f3⟩:=fin (some .ret) σ2.objs q2 (fun _=>.inr rfl) q3;exact⟨_,w4,f1,F2,s',f2,.inr ⟨rfl,by rw[stopJ]; exact⟨.ret,_,_,rfl,q4,f3⟩⟩⟩
  | exit id=>
   obtain⟨q2,q3,q4⟩:=hq;obtain⟨w4,F2,s',f1,f2,f3⟩:=fin (some (.exit id)) σ2.objs q2 (fun _=>.inr rfl) q3;exact⟨_,w4,f1,F2,s',f2,.inr ⟨rfl,by rw[stopJ]; exact⟨.exit id,_,_,rfl,q4,f3⟩⟩⟩
  | goto t=>
   obtain⟨q2,q3,q4⟩:=hq;obtain⟨w4,F2,s',f1,f2,f3⟩:=fin (some (.goto t)) σ2.objs q2 (fun _=>.inr rfl) q3;exact⟨_,w4,f1,F2,s',f2,.inr ⟨rfl,by rw[stopJ]; exact⟨.goto t,_,_,rfl,q4,f3⟩⟩⟩
  | panic ch=>exact hq.elim
  | outgrown=>exact hq.elim
 -- the call
 have hit:=hI 0 fam stop L hY;obtain⟨s1,hs1⟩: ∃s1:List Nat,s1=(List.range W1.heap.size).filter (fun b=> @decide (¬F b∧b≠bb) (Classical.propDecidable _)):=⟨_,rfl⟩;have hs1m: ∀b,b∈s1↔b<W1.heap.size∧ ¬F b∧b≠bb:=by
  intro b;rw[hs1,List.mem_filter];simp only[decide_eq_true_eq,List.mem_range]
 have hLn:=hmJ.hid (L,_) ((cJZ _ _).2 (.inl rfl));have hbW1:W1.heap[bb]? =some (.cells cur eb (0,0)):=(hold1 bb hblt).trans hb3;have hcall:=hit.2 W1 F (fun b=>b∈s1∨b=bb) (fun id=>if id=B then .pointer (some ⟨bb,0,none⟩)else undef) (fun id=>if id=0 then s1 else if id=B then [bb]else []) (.func (.yield L) #[] #[]::[vb])
  ⟨rfl,rfl,rfl,Nat.le_refl _,fun _ _ _=>rfl,fun _ h=>h,hmJ.flt,fun b hb _=>.inl hb,(fun id o ho=>by
   simp only[om]at ho;split at ho
   ·rename_i h0'; subst h0'; cases ho;simp only[if_true,RelO];rw[famJ,hJi];refine⟨η,S0,by rw[h0]; exact hmJ,hx [],by rw[h0]; exact htJ,fun b hb=> ?_,fun b hb hF hne=>(hs1m b).2 ⟨by omega,hF,hne⟩⟩;rcases hb with⟨id,hb⟩ | rfl
    ·obtain⟨a1,a2,_⟩:=hmJ.apart id b hb;exact(hs1m b).2 ⟨a2,a1,fun e=>hS0B id (e▸hb)⟩
    ·exact(hs1m b).2 ⟨by omega,hLn.2.1,by omega⟩
   ·split at ho
    ·rename_i h0' hB'; subst hB'; cases ho;simp only[if_neg hB0,if_true,RelO];exact⟨bb,cur,eb,rfl,rfl,hbW1,(RelVs.of_ds _ _).2 (RdVals.mono hFJ _ _ hcs)⟩
    ·cases ho),(fun id ho=>by
   simp only[om]at ho;split at ho
   ·cases ho
   ·split at ho
    ·cases ho
    ·rename_i h h'; simp[h,h']),(fun id b hb=>by
   split at hb
   ·obtain⟨h1,h2,h3⟩:=(hs1m b).1 hb;exact⟨h2,h1,fun _=>.inl hb⟩
   ·split at hb
    ·simp only[List.mem_singleton]at hb;subst hb;exact⟨hbF,by omega,fun _=>.inr rfl⟩
    ·simp at hb),(fun id id' b h1 h2=>by
   have key: ∀id,b∈(if id=0 then s1 else if id=B then [bb]else [])→(id=0∧b∈s1)∨(id=B∧b=bb):=fun id h=>by
    split at h
    ·rename_i e; exact .inl ⟨e,h⟩
    ·split at h
     ·rename_i e; exact .inr ⟨e,by simpa using h⟩
     ·simp at h
   rcases key id h1 with⟨a1,a2⟩ | ⟨a1,a2⟩ <;> rcases key id' h2 with⟨b1,b2⟩ | ⟨b1,b2⟩
   ·rw[a1,b1]
   ·exact absurd b2 ((hs1m b).1 a2).2.2
   ·exact absurd a2 ((hs1m b).1 b2).2.2
   ·rw[a1,b1]),(fun id=>by
   split
   ·rw[hs1]; exact List.nodup_range.sublist List.filter_sublist
   ·split <;> simp),by simp,(fun id lim fam' stop' l rest ho=>by
   simp only[om]at ho;split at ho
   ·cases ho;exact⟨Nat.zero_le _,fun _ _ _ _=>Nat.zero_le _⟩
   ·split at ho <;> cases ho),by simp⟩
  (fun b=>by
   constructor
   ·rintro(h | rfl)
    ·exact⟨0,by simpa using h⟩
    ·exact⟨B,by simp[hB0]⟩
   ·rintro⟨id,h⟩;by_cases e1:id=0
    ·left; simpa [e1]using h
    ·by_cases e2:id=B
     ·right; simpa [e1,e2,hB0]using h
     ·simp[e1,e2]at h)
  (by
   simp only[RelVs];refine⟨_,[vb],rfl,?_,vb,[],rfl,?_,rfl⟩
   ·simp only[RelV];intro lim fam' stop' l rest ho;simp only[om,if_true]at ho;cases ho;rfl
   ·simp only[RelV];intro cs' ho;refine⟨bb,?_,hvb1⟩;simp)
 refine⟨L,[{target:=.collected w.heap.size,args:=#[]}],W1,{target:=.fn (.func gf) #[vb],args:=#[.func (.yield L) #[] #[]]},W1,gf,#[.func (.yield L) #[] #[]]++#[vb],W1,?_,?_,?_,?_,(fun hd=>by cases hd),?_⟩
 ·rw[←hW1,hrec,←hL]; exact run_enterLoop_outer _ _ _ _ _
 ·simp only[resolve,hgv];simp[go_sem]
 ·intro f' _; trivial
 ·simp[invoke,go_sem,hit.1]
 ·have ea:(#[.func (.yield L) #[] #[]]++#[vb]:Array Value)=(Value.func (.yield L) #[] #[]::[vb]).toArray :=by simp
  rw[ea];refine callsIn_FW (R:=none) (hcall.mono ?_);rintro e W2 ⟨v,V,Oo,new,F',η',S',rfl,hpost,_,hm',_,_⟩;have close: ∀(st:LoopState) (pe:Option Code) (O2:Objs),st≠ .busy →J (.loop (rec st pe)) O2 W2 F' (S' 0)→ ∃w4,(Instr.endLoop L).run c.P W2= .ok pe w4∧RelX c ⟨σ.tmps,O2⟩ {a with defers:=[{target:=.collected w.heap.size,args:=#[]}]++a.defers} w4:=by
   intro st pe O2 hst' hj;rw[hJi]at hj;obtain⟨η2,S2,j1,_,j2,_⟩:=hj;obtain⟨p1,_⟩:=j1.hid (L,_) ((cJZ _ _).2 (.inl rfl));simp only at p1;have hend:=run_endLoop (P:=c.P) p1 (by rw[hrec]; exact hst');obtain⟨k1,k2⟩:=turn (.loop {rec st pe with state:=.exhausted}) j1;obtain⟨k3,k4⟩:=k1.hidden (c':=c.more [w.heap.size]) (W':=W2.putObj L (.loop {rec st pe with state:=.exhausted})) ⟨((cJ0 _).1).symm,((cJ0 _).2.1).symm,((cJ0 _).2.2.1).symm⟩ rfl rfl rfl (Nat.le_refl _) (fun _ _ _=>rfl)
    (fun p hp=>by
     have hp':p∈(cJ (.loop {rec st pe with state:=.exhausted})).Z :=(by rw[hcJ]; exact List.mem_cons_of_mem _ hp);exact⟨(k1.hid p hp').1,.inl (List.mem_map.2 ⟨p,hp',rfl⟩)⟩)
    (fun D hD=>by
     simp only[Ctx.more,List.cons_append,List.nil_append,List.mem_cons,List.map_cons,List.map_nil]at hD ⊢;rcases hD with rfl | hD
     ·exact .inl rfl
     ·exact .inr (hm.zd D hD))
   refine⟨_,by rw[hend,hrec],[w.heap.size],⟨by simp,fun D hD hDc=> ?_,fun h=>by rw[htop]at h; cases h⟩,⟨hsz,hpin⟩,by simp[Ctx.more,hdf],F',η2,S2,k3,fun t=>RelV.pres (Keeps.refl _ _) k2 _ _ (AV.noRef_nil _) (j2 t)⟩;simp only[List.mem_singleton]at hD;subst hD;have:=(Array.getElem?_eq_some_iff.1 (hm.hid _ (hm.zd _ hDc)).1).1;simp at this
  have hobj: ∀o,Oo 0=some o→RelO Oo W2 F' η' (η' 0) (S' 0) o:=fun o ho=>hm'.obj 0 o ho;rcases hpost with⟨xs,hS,hO,_⟩ | ⟨hO,_⟩
  ·have h1:=hobj (.ext _ fam stop L xs) (by rw[hO]; simp[om]);simp only[RelO]at h1;rw[famJ]at h1;obtain⟨w4,h2,h3⟩:=close .ready none (Os xs) (by simp) h1;exact⟨none,w4,h2,_,hd xs hS,h3⟩
  ·have h1:=hobj (.ext _ (fun _=>stop) stop L []) (by rw[hO]; simp[om]);simp only[RelO]at h1;rw[stopJ]at h1;obtain⟨e,cd,O2,g1,g2,g3⟩:=h1;obtain⟨w4,h2,h3⟩:=close .done (some cd) O2 (by simp) g3;refine⟨some cd,w4,h2,?_⟩;cases e <;> simp only[jumpOf,Option.some.injEq]at g1
   all_goals first | (cases g1; done) | skip
   all_goals subst g1
   ·exact wpIn_exit ⟨_,g2,h3⟩
   ·exact wpIn_goto ⟨_,g2,h3⟩
   ·exact wpIn_ret ⟨_,g2,h3⟩
theorem erangeB{P:Program}{N:NP}(hmix:P.follows .mixedOrders =true){g:Operand}{ps:Array Tmp}{assign body:Code}{Q:EQ}{t:TL}{o:OL}(L:Nat→List Gh){gf:FuncId}{B:Nat}{cs:List D}{A Sd:List (List D)→Prop}(htop:N.top=true)(hg:St.ev (tm t) g= .clo (.func gf) [] [.bp B 0])(hB:om o B=some (.box (cs.map .d)))(hB0:B≠0)(hI:IterB P gf B cs A Sd)
  (O:List (List D)→OL) (h0:subO (om o) (O [])) (h0':om (O []) B=none) (hx: ∀pre,noExtL (O pre)) (hps:psOk N.n (keysT t) ps.toList)
  (hb: ∀pre x,A (pre++[x])→x.length=ps.size∧eC P ⟨N.n,keysT t,false,N.own,fun _ _=>False⟩ L assign (thenE (bodyE P ⟨N.n,keysT t,false,N.own,fun _ _=>False⟩ L body (roundE t (O (pre++[x])) Q)) noQ) (zipL ps.toList x t) (O pre))
  (hd: ∀xs,Sd xs→Q .normal t (O xs)):EOther P N (.rangeFunc g ps assign body) Q t o:=by
 have hsub:Sub ⟨tm t,om o⟩ ⟨tm t,om ((B,.box (cs.map .d))::O [])⟩:=sub_gen (fun _=>.inr rfl) (fun u=>by
  simp only[om];split
  ·rename_i e; subst e; exact .inr hB.symm
  ·exact subO_ok h0 u)
 refine fun _=>AWp.sub hsub ?_;refine awp_rangeB (σ:=⟨tm t,om ((B,.box (cs.map .d))::O [])⟩) htop hg (by simp[om]) hB0 hI (keysT t) (fun u hu=>keysT_dead t u hu) (psOk_ok hps) (fun pre=>om (O pre)) (by funext j; unfold drop; by_cases hj:j=B <;> simp[om,hj,h0']) (fun pre=>noExtL_ok (hx pre)) (fun pre x hA=> ?_) (fun xs hS=>⟨_,_,rfl,hd xs hS⟩);obtain⟨h1,h2⟩:=hb pre x hA;refine⟨h1,?_⟩;rw[zipL_tm];refine AWp.mono (eC_sound hmix assign _ _ _ h2) ?_;rintro e σ1 ⟨t1,o1,rfl,h3⟩;cases e with
 | normal=>
  obtain⟨h4,h5⟩:=h3;refine⟨rfl,noExtL_ok h4,AWp.mono (eC_sound hmix body _ _ _ h5) ?_⟩;rintro e σ2 ⟨t2,o2,rfl,h6⟩;cases e with
  | normal=>exact⟨fun u=>subT_ok h6.1 u,fun u=>subO_ok h6.2 u⟩
  | ret=>exact⟨fun u=>subT_ok h6.1 u,noExtL_ok h6.2.1,_,_,rfl,h6.2.2⟩
  | exit id=>exact⟨fun u=>subT_ok h6.1 u,noExtL_ok h6.2.1,_,_,rfl,h6.2.2⟩
  | goto l=>exact⟨fun u=>subT_ok h6.1 u,noExtL_ok h6.2.1,_,_,rfl,h6.2.2⟩
  | panic ch=>exact h6.elim
  | outgrown=>exact h6.elim
 | _=>exact h3.elim
end Go.Aw
