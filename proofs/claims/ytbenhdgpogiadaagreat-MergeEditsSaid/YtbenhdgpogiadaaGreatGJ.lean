/- Machinery. Conditions: those of each. -/
import Derived.Test.YtbenhdgpogiadaaGreatGH
import Derived.RangeFuncOwn
set_option linter.unusedSimpArgs false
set_option linter.unusedVariables false
/-
 A RANGE OVER AN ITERATOR.
 Conditions: those of the law; over any program.
-/
namespace Go.Aw
open Go.RowKit

theorem Mem.ext{c:Ctx}{O:zbI}{W W':World}{F F':Nat->Prop}{η:Nat->Value}{S:Nat->List Nat}{s:List Nat}{lim:Nat}(hm:Mem c O W F η S)(hE:ExtC W W' F F' s lim)(hs: ∀id b,b∈S id->b∈s)(hz: ∀p∈c.Z,p.1<lim)(hl:c.W0.heap.size<=lim):Mem c O W' F' η S:=by
 refine⟨hE.os.trans hm.os,hE.tape.trans hm.tape,hE.output.trans hm.output,Nat.le_trans hm.size hE.size,fun b hb hn=>(hE.low b (by omega)).trans (hm.old b hb hn),fun b hb=>(hE.frz b (hm.f0 b hb)).1,hE.flt,fun b hb hlt=>hm.fold b (hE.lim b hb (by omega)) hlt,?_,hm.gone,?_,hm.sep,hm.nd,?_,hm.lim,hm.zd⟩
 ·intro id o ho;refine zj1.mono (za7.refl O η) hE.frz (AO.noRef_nil o) (fun b hb=>hE.same b (hs id b hb)) (fun lim2 fam stop l rest e=> ?_) (hm.obj id o ho);subst e;obtain⟨l1,l2⟩:=hm.lim id _ _ _ _ _ ho;exact⟨hE.os,hE.tape,hE.output,hE.size,hE.frz,fun b hb=>hE.same b (hs id b hb),fun b hb=>hE.apart b (hs id b hb),hE.flt,fun b hb=>hE.low b (by omega),fun b hb hlt=>hE.lim b hb (by omega)⟩
 ·intro id b hb;obtain⟨a1,a2,a3⟩:=hm.apart id b hb;exact⟨hE.apart b (hs id b hb),Nat.lt_of_lt_of_le a2 hE.size,a3⟩
 ·intro p hp;obtain⟨z1,z2,z3,z4⟩:=hm.hid p hp;exact⟨(hE.low _ (hz p hp)).trans z1,fun hf=>z2 (hE.lim _ hf (hz p hp)),z3,z4⟩

theorem Mem.rebase{c:Ctx}{O:zbI}{W:World}{F:Nat->Prop}{η:Nat->Value}{S:Nat->List Nat}(hm:Mem c O W F η S)(N:NP)(pv:Nat->Value):Mem ⟨c.P,N,W,F,fun b=> ∃id,b∈S id,[],[],pv⟩ O W F η S:=
 ⟨rfl,rfl,rfl,Nat.le_refl _,fun _ _ _=>rfl,fun _ h=>h,hm.flt,fun b hb _=>.inl hb,hm.obj,hm.gone,fun id b hb=>⟨(hm.apart id b hb).1,(hm.apart id b hb).2.1,fun _=>⟨id,hb⟩⟩,hm.sep,hm.nd,by simp,
  fun id lim fam stop l rest ho=>⟨Nat.le_trans (hm.lim id _ _ _ _ _ ho).1 hm.size,(hm.lim id _ _ _ _ _ ho).2⟩,by simp⟩
def noExt(O:zbI):Prop:= ∀id lim fam stop l rest,O id≠some (.ext lim fam stop l rest)
theorem Mem.join{c c1:Ctx}{O O1:zbI}{W W1:World}{F F1:Nat->Prop}{η η1:Nat->Value}{S S1:Nat->List Nat}(hm:Mem c O W F η S)(h1:Mem c1 O1 W1 F1 η1 S1)(e1:c1.W0=W)(e2:c1.F0=F)(e3:c1.O0=fun b=> ∃id,b∈S id)(hx:noExt O1):Mem c O1 W1 F1 η1 S1:=by
 obtain⟨P1,N1,W01,F01,O01,Z1,ds1,pv1⟩:=c1;simp only at e1 e2 e3;subst e1 e2 e3;refine⟨h1.os.trans hm.os,h1.tape.trans hm.tape,h1.output.trans hm.output,Nat.le_trans hm.size h1.size,?_,fun b hb=>h1.f0 b (hm.f0 b hb),h1.flt,?_,h1.obj,h1.gone,?_,h1.sep,h1.nd,?_,fun id lim fam stop l rest ho=>absurd ho (hx id _ _ _ _ _),hm.zd⟩
 ·intro b hb hn;rw[h1.old b (Nat.lt_of_lt_of_le hb hm.size) (fun⟨id,hm'⟩=>hn ((hm.apart id b hm').2.2 hb))];exact hm.old b hb hn
 ·intro b hb hlt;rcases h1.fold b hb (Nat.lt_of_lt_of_le hlt hm.size)with h | ⟨id,h⟩
  ·exact hm.fold b h hlt
  ·exact .inr ((hm.apart id b h).2.2 hlt)
 ·intro id b hb;obtain⟨a1,a2,a3⟩:=h1.apart id b hb;refine⟨a1,a2,fun hlt=> ?_⟩;obtain⟨id',h⟩:=a3 (Nat.lt_of_lt_of_le hlt hm.size);exact(hm.apart id' b h).2.2 hlt
 ·intro p hp;obtain⟨z1,z2,z3,z4⟩:=hm.hid p hp;have hlt:p.1<W01.heap.size:=(Array.getElem?_eq_some_iff.1 z1).1;refine⟨(h1.old p.1 hlt (fun⟨id,h⟩=>z3 id h)).trans z1,fun hf=> ?_,fun id hb=> ?_,z4⟩
  ·rcases h1.fold _ hf hlt with h | ⟨id,h⟩
   ·exact z2 h
   simp_all
  ·obtain⟨id',h⟩:=(h1.apart id _ hb).2.2 hlt;grind

def zoR(P:Program)(g:FuncId)(caps:List D)(A S:List (List D)->Prop):Prop:=
 ∀(lim:Nat) (fam:List (List D)->XJ lim) (stop:XJ lim) (l:Nat),zr1 P lim fam stop l A->
  FnG P g (.yv 0::caps.map .d) (om [(0,.ext lim fam stop l [])]) fun _ Oo new=>(∃xs,S xs/\Oo=om [(0,.ext lim fam stop l xs)]/\new=[])\/(Oo=om [(0,.ext lim (fun _=>stop) stop l [])]/\new=[])

def zipT:List Nat->List D->(Nat->AV)->Nat->AV
 | p::ps,d::ds,τ=>zipT ps ds (upd τ p (.d d))
 | _,_,τ=>τ
theorem zx0{O:zbI}{W:World}{F:Nat->Prop}{η:Nat->Value}(T:List Nat)(pv:Nat->Value): ∀(ps:List Nat) (ds:List D) (vs:List Value) (τ:Nat->AV) (ts:Array Value),ps.length=ds.length->zav W F ds vs->(∀p∈ps,p<ts.size/\p∉T)->(∀t,zaL O W F η (τ t) (ts.getD t undef))->(∀t∈T,ts.getD t undef=pv t)->
  ((ps.zip vs).foldl (fun(t:Array Value) (x:Nat×Value)=>t.setIfInBounds x.1 x.2) ts).size =ts.size/\(∀t,zaL O W F η (zipT ps ds τ t) (((ps.zip vs).foldl (fun(t:Array Value) (x:Nat×Value)=>t.setIfInBounds x.1 x.2) ts).getD t undef))/\ ∀t∈T,((ps.zip vs).foldl (fun(t:Array Value) (x:Nat×Value)=>t.setIfInBounds x.1 x.2) ts).getD t undef=pv t
 | [],ds,vs,τ,ts,_,_,_,h,hT=>by
  simp only[List.zip_nil_left,List.foldl_nil,zipT];simp_all
 | p::ps,[],vs,τ,ts,hl,_,_,_,_=>by simp at hl
 | p::ps,d::ds,vs,τ,ts,hl,hr,hp,h,hT=>by
  simp only[zav]at hr;obtain⟨v,rest,rfl,h1,h2⟩:=hr;obtain⟨hlt,hnT⟩:=hp p (by simp);have key: ∀t,(ts.setIfInBounds p v).getD t undef=if t=p then v else ts.getD t undef:=by
   intro t;rw[Array.getD_eq_getD_getElem?,Array.getElem?_setIfInBounds];grind [Array.getD_eq_getD_getElem?]
  obtain⟨a1,a2,a3⟩:=zx0 T pv ps ds rest (upd τ p (.d d)) (ts.setIfInBounds p v) (by grind) h2 (fun q hq=>⟨by simp_all,(hp q (by simp[hq])).2⟩)
   (fun t=>by
    rw[key t];simp only[upd];split
    ·exact h1
    ·exact h t)
   (fun t ht=>by
    grind)
  simp only[List.zip_cons_cons,List.foldl_cons,zipT];simp_all

def zvC:Exit->Option Code
 | .ret =>some .ret
 | .exit id=>some (.exit id)
 | .goto t=>some (.goto t)
 | _=>none
def rangeQ(σ:St)(Q:Exit->St->Prop)(O':zbI):Exit->St->Prop:=fun e σ'=>
 match e with
 | .normal =>(∀t,σ.tmps t= .dead \/σ.tmps t=σ'.tmps t)/\(∀id,O' id=none\/O' id=σ'.objs id)
 | .ret =>(∀t,σ.tmps t= .dead \/σ.tmps t=σ'.tmps t)/\noExt σ'.objs/\Q .ret ⟨σ.tmps,σ'.objs⟩
 | .exit id=>(∀t,σ.tmps t= .dead \/σ.tmps t=σ'.tmps t)/\noExt σ'.objs/\Q (.exit id) ⟨σ.tmps,σ'.objs⟩
 | .goto l=>(∀t,σ.tmps t= .dead \/σ.tmps t=σ'.tmps t)/\noExt σ'.objs/\Q (.goto l) ⟨σ.tmps,σ'.objs⟩
 | _=>False

theorem awp_range{P:Program}{N:NP}{σ:St}{g:Operand}{ps:Array Tmp}{assign body:Code}{gf:FuncId}{caps:List D}{A Sd:List (List D)->Prop}{Q:Exit->St->Prop}(htop:N.top=true)(hg:St.ev σ.tmps g= .d (.clo (.func gf) [] caps))(hI:zoR P gf caps A Sd)
  (T:List Nat) (hT: ∀t,t∉T->σ.tmps t= .dead) (hps: ∀p∈ps.toList,p<N.n/\p∉T) (Os:List (List D)->zbI) (h0:Os []=σ.objs) (hx: ∀pre,noExt (Os pre))
  (hb: ∀pre x,A (pre++[x])->x.length=ps.size/\AWp P ⟨N.n,T,false,N.own⟩ assign (fun e σ1=>e= .normal /\noExt σ1.objs/\AWp P ⟨N.n,T,false,N.own⟩ body (rangeQ σ Q (Os (pre++[x]))) σ1) ⟨zipT ps.toList x σ.tmps,Os pre⟩)
  (hd: ∀xs,Sd xs->Q .normal ⟨σ.tmps,Os xs⟩):AWp P N (.rangeFunc g ps assign body) Q σ:=by
 intro R n c hTop hP hN a w hr;subst hP;subst hN;rw[hTop htop];obtain⟨⟨hsz,hpin⟩,hdf,F,η,S,hm,ht⟩:=hr;refine wpIn_rangeFunc ?_;intro fn hfn;obtain⟨rec,hrec⟩: ∃rec:LoopState->Option Code->Loop,rec=fun st pe=>{state:=st,pending:=pe,fn,tmps:=a.tmps,params:=ps,assign,body,defers:=w.heap.size}:=⟨_,rfl⟩;obtain⟨W1,hW1⟩: ∃W1,(w.alloc (.deferred (some []))).alloc (.loop (rec .ready none))=W1:=⟨_,rfl⟩;obtain⟨L,hL⟩: ∃L,w.heap.size+1=L:=⟨_,rfl⟩;obtain⟨cJ,hcJ⟩: ∃cJ:Obj->Ctx,cJ=fun o=>{c.more [w.heap.size]with Z:=(L,o)::(c.more [w.heap.size]).Z}:=⟨_,rfl⟩;have cJ0: ∀o,(cJ o).W0 =c.W0/\(cJ o).F0 =c.F0/\(cJ o).O0 =c.O0/\(cJ o).P =c.P:=fun o=>by rw[hcJ]; exact⟨rfl,rfl,rfl,rfl⟩
 have cJZ: ∀o p,p∈(cJ o).Z ↔p=(L,o)\/p=(w.heap.size,.deferred (some []))\/p∈c.Z:=fun o p=>by rw[hcJ]; simp[Ctx.more]
 have cJd: ∀o,(cJ o).ds =w.heap.size::c.ds:=fun o=>by rw[hcJ]; rfl
 have hL1:W1.heap[L]? =some (.loop (rec .ready none)):=by
  rw[<-hW1,<-hL]; have:=World.alloc_heap_new (w.alloc (.deferred (some []))) (.loop (rec .ready none)); rwa [World.size_alloc]at this
 have hK1:W1.heap[w.heap.size]? =some (.deferred (some [])):=by
  rw[<-hW1]; exact(Below.heap_alloc _ _ _ (by simp)).trans (World.alloc_heap_new w _)
 have hsize1:W1.heap.size=w.heap.size+2:=by rw[<-hW1]; simp
 have hold1: ∀b,b<w.heap.size->W1.heap[b]? =w.heap[b]? :=fun b hb=>by rw[<-hW1]; exact(Below.heap_alloc _ _ _ (by simp; omega)).trans (Below.heap_alloc _ _ _ hb)
 have hZlt: ∀o p,p∈(cJ o).Z ->p.1<w.heap.size+2:=by
  intro o p hp;rcases(cJZ o p).1 hp with rfl | rfl | hp
  ·simp; omega
  ·simp
  ·have:=(Array.getElem?_eq_some_iff.1 (hm.hid p hp).1).1; omega
 -- the memory once the record is laid
 obtain⟨hmJ,hFJ⟩:=hm.hidden (c':=cJ (.loop (rec .ready none))) (W':=W1) ⟨(cJ0 _).1,(cJ0 _).2.1,(cJ0 _).2.2.1⟩ (by rw[<-hW1]; rfl) (by rw[<-hW1]; rfl) (by rw[<-hW1]; rfl) (by omega) (fun b hb _=>hold1 b hb)
  (fun p hp=>by
   rcases(cJZ _ p).1 hp with rfl | rfl | hp
   ·exact⟨hL1,.inr (by simp; omega)⟩
   ·exact⟨hK1,.inr (Nat.le_refl _)⟩
   ·exact⟨(hold1 p.1 ((Array.getElem?_eq_some_iff.1 (hm.hid p hp).1).1)).trans (hm.hid p hp).1,.inl (List.mem_map.2 ⟨p,hp,rfl⟩)⟩)
  (fun D hD=>by
   rw[cJd]at hD;rcases List.mem_cons.1 hD with rfl | hD
   ·exact(cJZ _ _).2 (.inr (.inl rfl))
   ·exact(cJZ _ _).2 (.inr (.inr (hm.zd D hD))))
 have htJ: ∀t,zaL σ.objs W1 F η (σ.tmps t) (a.tmps.getD t undef):=fun t=>zaL.pres (za7.refl _ _) hFJ _ _ (AV.noRef_nil _) (ht t)
 -- the record turns
 have turn: ∀ {O:zbI} {W:World} {F:Nat->Prop} {η:Nat->Value} {S:Nat->List Nat} {o:Obj} (o':Obj),Mem (cJ o) O W F η S->Mem (cJ o') O (W.putObj L o') F η S/\ ∀b,F b->F b/\(W.putObj L o').heap[b]? =W.heap[b]? :=by
  intro O W F η S o o' h;have hl:=h.hid (L,o) ((cJZ _ _).2 (.inl rfl));have hlt:L<W.heap.size:=(Array.getElem?_eq_some_iff.1 hl.1).1;refine h.hidden ⟨((cJ0 _).1).trans ((cJ0 _).1).symm,((cJ0 _).2.1).trans ((cJ0 _).2.1).symm,((cJ0 _).2.2.1).trans ((cJ0 _).2.2.1).symm⟩ rfl rfl rfl (by simp) (fun b _ hb=>World.putObj_heap_other (fun e=>hb (L,o) ((cJZ _ _).2 (.inl rfl)) e.symm)) ?_ ?_
  ·intro p hp;rcases(cJZ _ p).1 hp with rfl | hp
   ·exact⟨World.putObj_heap_same hlt,.inl (List.mem_map.2 ⟨(L,o),(cJZ _ _).2 (.inl rfl),rfl⟩)⟩
   ·have hp':p∈(cJ o).Z :=(cJZ _ _).2 (.inr hp);refine⟨(World.putObj_heap_other ?_).trans (h.hid p hp').1,.inl (List.mem_map.2 ⟨p,hp',rfl⟩)⟩;rcases hp with rfl | hp
    ·simp; omega
    ·have:=(Array.getElem?_eq_some_iff.1 (hm.hid p hp).1).1; omega
  ·intro D hD;have:=h.zd D (by rw[cJd]at hD ⊢; exact hD);rcases(cJZ _ _).1 this with h | h
   ·cases h;rw[cJd]at hD;rcases List.mem_cons.1 hD with h | h
    ·omega
    ·have:=(Array.getElem?_eq_some_iff.1 (hm.hid _ (hm.zd _ h)).1).1; simp at this; omega
   ·exact(cJZ _ _).2 (.inr h)
 -- what the iterator carries of ours
 obtain⟨J,hJ⟩: ∃J:Obj->zbI->World->(Nat->Prop)->List Nat->Prop,J=fun o O W F s=> ∃η S,Mem (cJ o) O W F η S/\(∀t,zaL O W F η (σ.tmps t) (a.tmps.getD t undef))/\ ∀b,b∈s↔(∃id,b∈S id)\/b=L:=⟨_,rfl⟩;have hst: ∀o O W W' F F' s,J o O W F s->ExtC W W' F F' s (w.heap.size+2)->J o O W' F' s:=by
  intro o O W W' F F' s h hE;rw[hJ]at h ⊢;obtain⟨η,S,h1,h2,h3⟩:=h;exact⟨η,S,h1.ext hE (fun id b hb=>(h3 b).2 (.inl ⟨id,hb⟩)) (hZlt o) (by rw[(cJ0 o).1]; have:=hm.size; omega),fun t=>zaL.pres (za7.refl _ _) hE.frz _ _ (AV.noRef_nil _) (h2 t),h3⟩
 obtain⟨fam,hfam⟩: ∃fam:List (List D)->XJ (w.heap.size+2),fam=fun pre=>⟨J (.loop (rec .ready none)) (Os pre),hst _ _⟩:=⟨_,rfl⟩;obtain⟨stop,hstop⟩: ∃stop:XJ (w.heap.size+2),stop=⟨fun W F s=> ∃e cd O,zvC e=some cd/\Q e ⟨σ.tmps,O⟩/\J (.loop (rec .done (some cd))) O W F s,fun W W' F F' s ⟨e,cd,O,h1,h2,h3⟩ hE=>⟨e,cd,O,h1,h2,hst _ _ _ _ _ _ _ h3 hE⟩⟩:=⟨_,rfl⟩;have famJ: ∀pre W F s,(fam pre).J W F s=J (.loop (rec .ready none)) (Os pre) W F s:=fun pre W F s=>by rw[hfam]
 have stopJ: ∀W F s,stop.J W F s= ∃e cd O,zvC e=some cd/\Q e ⟨σ.tmps,O⟩/\J (.loop (rec .done (some cd))) O W F s:=fun W F s=>by rw[hstop]
 have hJi: ∀o O W F s,J o O W F s= ∃η S,Mem (cJ o) O W F η S/\(∀t,zaL O W F η (σ.tmps t) (a.tmps.getD t undef))/\ ∀b,b∈s↔(∃id,b∈S id)\/b=L:=fun o O W F s=>by rw[hJ]
 -- a round
 have hY:zr1 c.P (w.heap.size+2) fam stop L A:=by
  intro n W F s pre x vs hj hA hxv hFlt hs hsn hlim;rw[famJ,hJi]at hj;obtain⟨η,S,hm0,ht0,hs0⟩:=hj;obtain⟨hxl,hwp⟩:=hb pre x hA;have hvl:=zav.length _ _ hxv;obtain⟨r1,r2,r3,r4⟩:=hm0.hid (L,_) ((cJZ _ _).2 (.inl rfl));simp only at r1 r2 r3 r4;have hy:=run_yield (P:=c.P) (args:=vs.toArray) r1 (by rw[hrec]; simp; omega);rw[hrec]at hy;refine⟨fn,_,assign,body,hy,roundIn_of_wpIn (l:=L) (F:=Fence.wide) hfn ?_⟩;obtain⟨z1,z2,z3⟩:=zx0 (O:=Os pre) (η:=η) T (fun t=>a.tmps.getD t undef) ps.toList x vs σ.tmps a.tmps (by simp; omega) hxv (fun p hp=>by rw[hsz]; exact hps p hp) ht0 (fun _ _=>rfl);have ez:(ps.zip vs.toArray).foldl (fun(t:Array Value) (x:Nat×Value)=>t.setIfInBounds x.1 x.2) a.tmps=(ps.toList.zip vs).foldl (fun(t:Array Value) (x:Nat×Value)=>t.setIfInBounds x.1 x.2) a.tmps:=by
   rw[<-Array.foldl_toList,Array.toList_zip]
  have hrel1:Rel ⟨c.P,⟨c.N.n,T,false,c.N.own⟩,W,F,fun b=> ∃id,b∈S id,[],[],fun t=>a.tmps.getD t undef⟩ ⟨zipT ps.toList x σ.tmps,Os pre⟩ {tmps:=(ps.zip vs.toArray).foldl (fun(t:Array Value) (x:Nat×Value)=>t.setIfInBounds x.1 x.2) a.tmps,defers:=[]} W:=
   ⟨⟨by rw[ez,z1]; exact hsz,by rw[ez]; exact z3⟩,rfl,F,η,S,(hm0.rebase N0 (fun _=>undef)).same rfl rfl rfl rfl rfl,by rw[ez]; exact z2⟩
  refine wpIn_mono (hwp (some L) n ⟨c.P,⟨c.N.n,T,false,c.N.own⟩,W,F,fun b=> ∃id,b∈S id,[],[],fun t=>a.tmps.getD t undef⟩ (fun h=>by cases h) rfl rfl _ _ hrel1) ?_;rintro e a1 w1 ⟨σ1,⟨rfl,hnx1,hwp2⟩,Ds,⟨_,_,hDs⟩,hR1⟩;rw[hDs rfl,Ctx.more_nil]at hR1;obtain⟨⟨hsz1,hpin1⟩,hdf1,F1,η1,S1,hm1,ht1⟩:=hR1;have hj1:=hm0.join hm1 rfl rfl rfl hnx1;obtain⟨q1,_⟩:=hj1.hid (L,_) ((cJZ _ _).2 (.inl rfl));simp only at q1;refine⟨_,run_beginRound q1 (by rw[hrec]),?_⟩;obtain⟨hj2,hF2⟩:=turn (.loop {rec .ready none with state:=.busy}) hj1;have w2s:(w1.putObj L (.loop {rec .ready none with state:=.busy})).heap.size =w1.heap.size:=World.putObj_size;have w2o: ∀b,b≠L->(w1.putObj L (.loop {rec .ready none with state:=.busy})).heap[b]? =w1.heap[b]? :=fun b hb=>World.putObj_heap_other hb;have w2f:(w1.putObj L (.loop {rec .ready none with state:=.busy})).os =w1.os/\(w1.putObj L (.loop {rec .ready none with state:=.busy})).tape =w1.tape/\(w1.putObj L (.loop {rec .ready none with state:=.busy})).output =w1.output:=⟨rfl,rfl,rfl⟩;generalize (w1.putObj L (.loop {rec .ready none with state:=.busy}))=w2 at hj2 hF2 w2s w2o w2f ⊢;have hrel2:Rel ⟨c.P,⟨c.N.n,T,false,c.N.own⟩,w2,F1,fun b=> ∃id,b∈S1 id,[],[],fun t=>a.tmps.getD t undef⟩ σ1 a1 w2:=
   ⟨⟨hsz1,hpin1⟩,hdf1,F1,η1,S1,(hj2.rebase N0 (fun _=>undef)).same rfl rfl rfl rfl rfl,fun t=>zaL.pres (za7.refl _ _) hF2 _ _ (AV.noRef_nil _) (ht1 t)⟩
  refine wpIn_mono (hwp2 (some L) n ⟨c.P,⟨c.N.n,T,false,c.N.own⟩,w2,F1,fun b=> ∃id,b∈S1 id,[],[],fun t=>a.tmps.getD t undef⟩ (fun h=>by cases h) rfl rfl _ _ hrel2) ?_;rintro e a2 W3 ⟨σ2,hq,Ds2,⟨_,_,hDs2⟩,hR2⟩;rw[hDs2 rfl,Ctx.more_nil]at hR2
  -- the round's end
  have fin: ∀(jump:Option Code) (O2:zbI),(∀t,σ.tmps t= .dead \/σ.tmps t=σ2.tmps t)->(∀id,O2 id=none\/O2 id=σ2.objs id)->noExt O2->
    ∃w4 F2 s',(Instr.endRound L jump).run c.P W3= .ok (.bool jump.isNone) w4/\YEnv W w4 F F2 s s'/\J (.loop (rec (if jump.isNone then .ready else .done) jump)) O2 w4 F2 s':=by
   intro jump O2 hs1 hs2 hnx;obtain⟨⟨hsz2,hpin2⟩,_,F2,η2,S2,hm2,ht2⟩:=znd (σ:=σ2) (σ':=⟨σ.tmps,O2⟩) hs1 hs2 _ a2 W3 hR2;have hj3:=hj2.join hm2 rfl rfl rfl hnx;obtain⟨p1,p2,p3,_⟩:=hj3.hid (L,_) ((cJZ _ _).2 (.inl rfl));simp only at p1 p2 p3;have hend:=run_endRound (P:=c.P) jump p1;have erec:({({rec .ready none with state:=.busy}:Loop)with state:=if jump.isNone then .ready else .done,pending:=jump}:Loop)=rec (if jump.isNone then .ready else .done) jump:=by rw[hrec]
   rw[erec]at hend;obtain⟨hj4,hF4⟩:=turn (.loop (rec (if jump.isNone then .ready else .done) jump)) hj3;have hLW:L<W.heap.size:=(Array.getElem?_eq_some_iff.1 r1).1;have hsz12:W.heap.size<=w1.heap.size:=hm1.size;have hsz23':w2.heap.size<=W3.heap.size:=hm2.size;have hsz23:w1.heap.size<=W3.heap.size:=by omega
   have hm2o: ∀b,b<w2.heap.size-> ¬(∃id,b∈S1 id)->W3.heap[b]? =w2.heap[b]? :=hm2.old;have hm2fo: ∀b,F2 b->b<w2.heap.size->F1 b\/ ∃id,b∈S1 id:=hm2.fold;have hm1o: ∀b,b<W.heap.size-> ¬(∃id,b∈S id)->w1.heap[b]? =W.heap[b]? :=hm1.old;have hm1fo: ∀b,F1 b->b<W.heap.size->F b\/ ∃id,b∈S id:=hm1.fold;have hS1: ∀id b,b∈S1 id->b<W.heap.size-> ∃id',b∈S id':=fun id b hb hlt=>(hm1.apart id b hb).2.2 hlt;refine⟨_,F2,(List.range (W3.putObj L (.loop (rec (if jump.isNone then .ready else .done) jump))).heap.size).filter (fun b=> @decide ((∃id,b∈S2 id)\/b=L) (Classical.propDecidable _)),hend,?_,?_⟩
   ·refine⟨hm2.os.trans (w2f.1.trans hm1.os),hm2.tape.trans (w2f.2.1.trans hm1.tape),hm2.output.trans (w2f.2.2.trans hm1.output),by simp; omega,?_,fun b hb=>hm2.f0 b (hm1.f0 b hb),?_,?_,List.nodup_range.sublist List.filter_sublist⟩
    ·intro b hlt hn;have hbL:b≠L:=fun e=>hn ((hs0 b).2 (.inr e));have hbS: ¬ ∃id,b∈S id:=fun h=>hn ((hs0 b).2 (.inl h));rw[World.putObj_heap_other hbL,hm2o b (by omega) (fun⟨id,h⟩=>hbS (hS1 id b h hlt)),w2o b hbL,hm1o b hlt hbS]
    ·intro b hb;by_cases h2:b<w1.heap.size
     ·rcases hm2fo b hb (by omega)with h | ⟨id,h⟩
      ·by_cases h1:b<W.heap.size
       ·rcases hm1fo b h h1 with h | h
        ·exact .inl h
        ·exact .inr (.inr ((hs0 b).2 (.inl h)))
       ·exact .inr (.inl ⟨by omega,by simp; omega⟩)
      ·by_cases h1:b<W.heap.size
       ·exact .inr (.inr ((hs0 b).2 (.inl (hS1 id b h h1))))
       ·exact .inr (.inl ⟨by omega,by simp; omega⟩)
     ·exact .inr (.inl ⟨by omega,by have:=hm2.flt b hb; simpa using this⟩)
    ·intro b hb;rw[List.mem_filter]at hb;obtain⟨hb1,hb2⟩:=hb;simp only[decide_eq_true_eq]at hb2;rcases hb2 with⟨id,hb2⟩ | rfl
     ·obtain⟨a1',a2',a3'⟩:=hm2.apart id b hb2;refine⟨a1',?_⟩;by_cases h1:b<W.heap.size
      ·obtain⟨id',h⟩: ∃id,b∈S1 id:=a3' (show b<w2.heap.size by omega);exact .inl ((hs0 b).2 (.inl (hS1 id' b h h1)))
      ·exact .inr ⟨by omega,by simpa using a2'⟩
     ·exact⟨p2,.inl ((hs0 b).2 (.inr rfl))⟩
   ·rw[hJi];refine⟨η2,S2,hj4,fun t=> ?_,fun b=> ?_⟩
    ·by_cases htT:t∈T
     ·have:=zaL.pres (za7.refl _ _) hF4 _ _ (AV.noRef_nil _) (ht2 t);rw[hpin2 t htT]at this;exact this
     ·rw[hT t htT]; simp only[zaL]
    ·rw[List.mem_filter];simp only[decide_eq_true_eq,List.mem_range];constructor
     ·rintro⟨_,h⟩; exact h
     ·intro h;refine⟨?_,h⟩;rcases h with⟨id,h⟩ | rfl
      ·have:=(hm2.apart id b h).2.1; simpa using this
      ·simp; omega
  cases e with
  | normal=>
   obtain⟨q2,q3⟩:=hq;obtain⟨w4,F2,s',f1,f2,f3⟩:=fin none _ q2 q3 (hx _);exact⟨_,w4,f1,F2,s',f2,.inl ⟨rfl,by rw[famJ]; exact f3⟩⟩
  | ret=>
   obtain⟨q2,q3,q4⟩:=hq;obtain⟨w4,F2,s',f1,f2,f3⟩:=fin (some .ret) σ2.objs q2 (fun _=>.inr rfl) q3;exact⟨_,w4,f1,F2,s',f2,.inr ⟨rfl,by rw[stopJ]; exact⟨.ret,_,_,rfl,q4,f3⟩⟩⟩
  | exit id=>
   obtain⟨q2,q3,q4⟩:=hq;obtain⟨w4,F2,s',f1,f2,f3⟩:=fin (some (.exit id)) σ2.objs q2 (fun _=>.inr rfl) q3;exact⟨_,w4,f1,F2,s',f2,.inr ⟨rfl,by rw[stopJ]; exact⟨.exit id,_,_,rfl,q4,f3⟩⟩⟩
  | goto t=>
   obtain⟨q2,q3,q4⟩:=hq;obtain⟨w4,F2,s',f1,f2,f3⟩:=fin (some (.goto t)) σ2.objs q2 (fun _=>.inr rfl) q3;exact⟨_,w4,f1,F2,s',f2,.inr ⟨rfl,by rw[stopJ]; exact⟨.goto t,_,_,rfl,q4,f3⟩⟩⟩
  | panic ch=>exact hq.elim
  | outgrown=>exact hq.elim
 -- the call
 have hgv:=zhZ ht g;rw[hg]at hgv;simp only[zaL,Rd]at hgv;obtain⟨fs,lb,hgv,hfs,hlb⟩:=hgv;simp only[zav]at hfs;subst hfs;have hit:=hI (w.heap.size+2) fam stop L hY;obtain⟨s1,hs1⟩: ∃s1:List Nat,s1=(List.range W1.heap.size).filter (fun b=> @decide ((∃id,b∈S id)\/b=L) (Classical.propDecidable _)):=⟨_,rfl⟩;have hs1m: ∀b,b∈s1↔(∃id,b∈S id)\/b=L:=by
  intro b;rw[hs1,List.mem_filter];simp only[decide_eq_true_eq,List.mem_range];constructor
  ·rintro⟨_,h⟩; exact h
  ·intro h;refine⟨?_,h⟩;rcases h with⟨id,h⟩ | rfl
   ·exact(hmJ.apart id b h).2.1
   ·omega
 have hLn:=hmJ.hid (L,_) ((cJZ _ _).2 (.inl rfl));have hcall:=hit.2 W1 F (fun b=>b∈s1) (fun _=>undef) (fun id=>if id=0 then s1 else []) (.func (.yield L) #[] #[]::lb)
  ⟨rfl,rfl,rfl,Nat.le_refl _,fun _ _ _=>rfl,fun _ h=>h,hmJ.flt,fun b hb _=>.inl hb,(fun id o ho=>by
   simp only[om]at ho;split at ho
   ·rename_i h0; subst h0; cases ho;simp only[if_true,zj1];rw[famJ,hJi];exact⟨η,S,by rw[h0]; exact hmJ,by rw[h0]; exact htJ,hs1m⟩
   ·cases ho),(fun id ho=>by
   simp only[om]at ho;split at ho
   ·cases ho
   ·rename_i h; simp[h]),(fun id b hb=>by
   split at hb
   ·refine⟨?_,?_,fun _=>hb⟩
    ·rcases(hs1m b).1 hb with⟨id',h⟩ | rfl
     ·exact(hmJ.apart id' b h).1
     ·exact hLn.2.1
    ·rcases(hs1m b).1 hb with⟨id',h⟩ | rfl
     ·exact(hmJ.apart id' b h).2.1
     ·omega
   ·simp at hb),(fun id id' b h1 h2=>by
   by_cases e1:id=0 <;> by_cases e2:id'=0 <;> simp[e1,e2]at h1 h2 ⊢),(fun id=>by
   split
   ·rw[hs1]; exact List.nodup_range.sublist List.filter_sublist
   ·simp),by simp,(fun id lim fam' stop' l rest ho=>by
   simp only[om]at ho;split at ho
   ·rename_i e0; subst e0;cases ho;refine⟨by simp only; omega,fun id' b hb hne=> ?_⟩;simp[hne]at hb
   ·cases ho),by simp⟩
  (fun b=>by
   constructor
   ·intro h; exact⟨0,by simpa using h⟩
   ·rintro⟨id,h⟩;by_cases e1:id=0
    ·simpa [e1]using h
    ·simp[e1]at h)
  (by
   simp only[zaN];refine⟨_,lb,rfl,?_,(zaN.of_ds _ _).2 (zav.mono hFJ _ _ hlb)⟩;simp only[zaL];intro lim fam' stop' l rest ho;simp only[om,if_true]at ho;cases ho;rfl)
 refine⟨L,[{target:=.collected w.heap.size,args:=#[]}],W1,{target:=.fn (.func gf) lb.toArray,args:=#[.func (.yield L) #[] #[]]},W1,gf,#[.func (.yield L) #[] #[]]++lb.toArray,W1,?_,?_,?_,?_,(fun hd=>by cases hd),?_⟩
 ·rw[<-hW1,hrec,<-hL]; exact run_enterLoop_outer _ _ _ _ _
 ·simp only[resolve,hgv];simp[go_sem]
 ·intro f' _; trivial
 ·simp[invoke,go_sem,hit.1]
 ·have ea:(#[.func (.yield L) #[] #[]]++lb.toArray:Array Value)=(Value.func (.yield L) #[] #[]::lb).toArray :=by simp
  rw[ea];refine zp1 (R:=none) (hcall.mono ?_);rintro e W2 ⟨v,V,Oo,new,F',η',S',rfl,hpost,_,hm',_,_⟩;have close: ∀(st:LoopState) (pe:Option Code) (O2:zbI),st≠ .busy ->J (.loop (rec st pe)) O2 W2 F' (S' 0)-> ∃w4,(Instr.endLoop L).run c.P W2= .ok pe w4/\zzJ c ⟨σ.tmps,O2⟩ {a with defers:=[{target:=.collected w.heap.size,args:=#[]}]++a.defers} w4:=by
   intro st pe O2 hst' hj;rw[hJi]at hj;obtain⟨η2,S2,j1,j2,j3⟩:=hj;obtain⟨p1,_⟩:=j1.hid (L,_) ((cJZ _ _).2 (.inl rfl));simp only at p1;have hend:=run_endLoop (P:=c.P) p1 (by rw[hrec]; exact hst');obtain⟨k1,k2⟩:=turn (.loop {rec st pe with state:=.exhausted}) j1;obtain⟨k3,k4⟩:=k1.hidden (c':=c.more [w.heap.size]) (W':=W2.putObj L (.loop {rec st pe with state:=.exhausted})) ⟨((cJ0 _).1).symm,((cJ0 _).2.1).symm,((cJ0 _).2.2.1).symm⟩ rfl rfl rfl (Nat.le_refl _) (fun _ _ _=>rfl)
    (fun p hp=>by
     have hp':p∈(cJ (.loop {rec st pe with state:=.exhausted})).Z :=(by rw[hcJ]; exact List.mem_cons_of_mem _ hp);exact⟨(k1.hid p hp').1,.inl (List.mem_map.2 ⟨p,hp',rfl⟩)⟩)
    (fun D hD=>by
     simp only[Ctx.more,List.cons_append,List.nil_append,List.mem_cons,List.map_cons,List.map_nil]at hD ⊢;rcases hD with rfl | hD
     ·exact .inl rfl
     ·exact .inr (hm.zd D hD))
   refine⟨_,by rw[hend,hrec],[w.heap.size],⟨by simp,fun D hD hDc=> ?_,fun h=>by rw[htop]at h; cases h⟩,⟨hsz,hpin⟩,by simp[Ctx.more,hdf],F',η2,S2,k3,fun t=>zaL.pres (za7.refl _ _) k2 _ _ (AV.noRef_nil _) (j2 t)⟩;simp only[List.mem_singleton]at hD;subst hD;have:=(Array.getElem?_eq_some_iff.1 (hm.hid _ (hm.zd _ hDc)).1).1;simp at this
  have hobj: ∀o,Oo 0=some o->zj1 Oo W2 F' η' (η' 0) (S' 0) o:=fun o ho=>hm'.obj 0 o ho;rcases hpost with⟨xs,hS,hO,_⟩ | ⟨hO,_⟩
  ·have h1:=hobj (.ext _ fam stop L xs) (by rw[hO]; simp[om]);simp only[zj1]at h1;rw[famJ]at h1;obtain⟨w4,h2,h3⟩:=close .ready none (Os xs) (by simp) h1;exact⟨none,w4,h2,_,hd xs hS,h3⟩
  ·have h1:=hobj (.ext _ (fun _=>stop) stop L []) (by rw[hO]; simp[om]);simp only[zj1]at h1;rw[stopJ]at h1;obtain⟨e,cd,O2,g1,g2,g3⟩:=h1;obtain⟨w4,h2,h3⟩:=close .done (some cd) O2 (by simp) g3;refine⟨some cd,w4,h2,?_⟩;cases e <;> simp only[zvC,Option.some.injEq]at g1
   all_goals first | (cases g1; done) | skip
   all_goals subst g1
   ·exact wpIn_exit ⟨_,g2,h3⟩
   ·exact wpIn_goto ⟨_,g2,h3⟩
   ·exact wpIn_ret ⟨_,g2,h3⟩
end Go.Aw
