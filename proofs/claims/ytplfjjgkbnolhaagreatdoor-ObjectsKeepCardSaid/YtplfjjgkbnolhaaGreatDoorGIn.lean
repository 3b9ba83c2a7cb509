/- Machinery. Conditions: those of each. -/
import Derived.Test.YtplfjjgkbnolhaaGreatDoorGO
import Derived.Lib.SliceRun
set_option linter.unusedSimpArgs false
set_option linter.unusedVariables false
/-
 ELEMENTS TAKEN OUT OF OWN ARRAYS AND PUT INTO THEM (slices.Delete of one, slices.Insert of one), out of walks on cells.
 Conditions: those of 'DelW', 'InsW'; over any program.
-/
namespace Go.Aw
open Go.RowKit Go.Lib

theorem run_copy_k{P:Program}(w:World)(dT sT ty elem:TypeId)(k b o dLen dCap:Nat)(a:Addr)(sLen sCap:Nat)(cs:List Value)
  (hu:P.underlying dT=some (.slice elem)) (hs:(P.info? elem).map (·.size)=some k) (hn:cs.length=Nat.min sLen dLen*k)
  (hsrc: ∀j v,cs[j]? =some v→w.cell? (a.add j)=some v) (hc: ∀j,j<cs.length→(w.cell? ⟨b,o+j,none⟩).isSome =true) (hf: ∀j,j<cs.length→w.frozen? ⟨b,o+j,none⟩=false) (h1: ∀v∈cs,v.oneCell'=true):
  (Builtin.copy_ #[dT,sT] ty #[.slice (some ⟨b,o,none⟩) dLen dCap,.slice (some a) sLen sCap]).run P w= .ok (goInt (Nat.min sLen dLen)) (w.setCells b o cs):=by
 have hl:=run_loadCells_list (P:=P) w a cs hsrc;have hst:=run_storeCells_cells (P:=P) b o cs 0 w (by simpa using hc) (by simpa using hf) h1;cases hq:P.info? elem with
 | none=>simp[hq]at hs
 | some i=>
  have hi:i.size=k:=by simpa [hq]using hs
  simp[Builtin.copy_,run_underlying hu,Builtin.lenOf,Builtin.firstCells,sizeOf,typeInfo,hq,hi,←hn,hl,hst]
theorem mem_one{P:Program}{W:World}{F O0:Nat→Prop}{Oi:Objs}{η:Nat→Value}{S:Nat→List Nat}(hm:Mem ⟨P,N0,W,F,O0,[],[],fun _=>undef,[]⟩ Oi W F η S)(hO0: ∀b,O0 b↔ ∃id,b∈S id){W':World}{g' cap':Nat}{cur':Array Value}{e:TypeId}{k:Nat}{l':List (List D)}
  (f1:W'.os=W.os) (f2:W'.tape=W.tape) (f3:W'.output=W.output) (b3:W.heap.size≤W'.heap.size) (hsame: ∀b,b<W.heap.size→ ¬O0 b→W'.heap[b]? =W.heap[b]?) (hg:W'.heap[g']? =some (.cells cur' e (0,0))) (hgo:O0 g'∨W.heap.size≤g')
  (hle:l'.length≤cap') (hmx:cap'≤maxLen) (hsz:cur'.size=cap'*k) (hk: ∀x∈l',x.length=k) (hrd:RdVals W F l'.flatten (cur'.toList.take (l'.length*k))):
  Mem ⟨P,N0,W,F,O0,[],[],fun _=>undef,[]⟩ (om [(40,.arr e k .flat l')]) W' F (fun i=>if i=40 then .slice (some ⟨g',0,none⟩) l'.length cap' else η i) (fun i=>if i=40 then [g']else []):=by
 have hF: ∀b,F b→F b∧W'.heap[b]? =W.heap[b]? :=fun b hb=>⟨hb,hsame b (hm.flt b hb) fun h=>by
  obtain⟨id,hid⟩:=(hO0 b).1 h;exact(hm.apart id b hid).1 hb⟩
 have hom: ∀id o,om [(40,AO.arr e k .flat l')] id=some o→id=40∧o= .arr e k .flat l':=by
  intro id o ho;simp only[om]at ho;split at ho
  ·rename_i h; exact⟨h,(Option.some.inj ho).symm⟩
  ·cases ho
 have hgF: ¬F g':=by
  intro hb;rcases hgo with h | h
  ·obtain⟨id,hid⟩:=(hO0 g').1 h;exact(hm.apart id g' hid).1 hb
  ·have:=hm.flt g' hb; omega
 have hgs:g'<W'.heap.size:=(Array.getElem?_eq_some_iff.1 hg).1;refine⟨f1,f2,f3,b3,hsame,fun b h=>h,fun b h=>Nat.lt_of_lt_of_le (hm.flt b h) b3,fun b h _=>.inl h,?_,?_,?_,?_,?_,by simp,?_,by simp⟩
 ·intro id o ho;obtain⟨rfl,rfl⟩:=hom id o ho;simp only[if_true];exact⟨by omega,hk,.inr ⟨g',cap',cur',[],rfl,hg,hle,hmx,hsz,rfl,(own0 _ _ _).2 ⟨RdVals.mono hF _ _ hrd,rfl⟩⟩⟩
 ·intro id ho;by_cases h:id=40
  ·subst h; simp[om]at ho
  ·simp[h]
 ·intro id b hb;by_cases h:id=40
  ·simp only[h,if_true,List.mem_singleton]at hb;subst hb;exact⟨hgF,hgs,fun hlt=>hgo.resolve_right (by have:W.heap.size=W.heap.size:=rfl; simp only at hlt; omega)⟩
  ·simp[h]at hb
 ·intro id id' b hb hb';by_cases h:id=40
  ·by_cases h':id'=40
   ·rw[h,h']
   ·simp[h']at hb'
  ·simp[h]at hb
 ·intro id;by_cases h:id=40 <;> simp[h]
 ·intro id lim fam stop l rest ho;have:=(hom id _ ho).2;cases this

theorem keeps_40{Oi:Objs}{o:AO}{η η':Nat→Value}:Keeps Oi (om [(40,o)]) η η' [40]:=by
 intro id o' ho;simp only[om]at ho;split at ho
 ·rename_i h; exact .inl (by simp[h])
 ·cases ho

def DelW(P:Program)(f:FuncId)(e:TypeId)(k:Nat):Prop:=
 ∀(W:World) (g cap:Nat) (cur:Array Value) (n i:Nat),W.heap[g]? =some (.cells cur e (0,0))→n≤cap→cap≤maxLen→cur.size=cap*k→(∀v∈cur.toList.take (n*k),v.oneCell'=true)→i<n→
  Calls P f #[.slice (some ⟨g,0,none⟩) n cap,.int .i64 i,.int .i64 ((i+1:Nat):Int)] W fun e' W'=>e'= .returned (.slice (some ⟨g,0,none⟩) (n-1) cap)∧
   ∃z:List Value,z.length=k∧W'=(W.drew.setCells g (i*k) ((cur.toList.take (n*k)).drop ((i+1)*k))).setCells g ((n-1)*k) z
def InsQ(e:TypeId)(k:Nat)(W:World)(own:Nat→Prop)(c:List Value)(n:Nat)(e':Ending)(W':World):Prop:=
 ∃(g' cap':Nat) (cur':Array Value),e'= .returned (.slice (some ⟨g',0,none⟩) (n+1) cap')∧(W'.os=W.os∧W'.tape=W.tape∧W'.output=W.output∧W.heap.size≤W'.heap.size)∧(∀b,b<W.heap.size→ ¬own b→W'.heap[b]? =W.heap[b]?)∧
  W'.heap[g']? =some (.cells cur' e (0,0))∧(own g'∨W.heap.size≤g')∧n+1≤cap'∧cap'≤maxLen∧cur'.size=cap'*k∧cur'.toList.take ((n+1)*k)=c
structure InsW (P:Program) (f:FuncId) (e:TypeId) (k:Nat):Prop where
 at1: ∀(W:World) (g cap:Nat) (cur:Array Value) (n i vb vcap:Nat) (vcur:Array Value),W.heap[g]? =some (.cells cur e (0,0))→n≤cap→cap≤maxLen→cur.size=cap*k→(∀v∈cur.toList.take (n*k),v.oneCell'=true)→i≤n→n≤4000000→
  vb≠g→W.heap[vb]? =some (.cells vcur e (0,0))→1≤vcap→vcur.size=vcap*k→(∀v∈vcur.toList.take k,v.oneCell'=true)→
  Calls P f #[.slice (some ⟨g,0,none⟩) n cap,.int .i64 i,.slice (some ⟨vb,0,none⟩) 1 vcap] W (InsQ e k W (fun b=>b=g) ((cur.toList.take (n*k)).take (i*k)++vcur.toList.take k++(cur.toList.take (n*k)).drop (i*k)) n)
 at0: ∀(W:World) (ad:Option Addr) (vb vcap:Nat) (vcur:Array Value),W.heap[vb]? =some (.cells vcur e (0,0))→1≤vcap→vcur.size=vcap*k→(∀v∈vcur.toList.take k,v.oneCell'=true)→
  Calls P f #[.slice ad 0 0,.int .i64 (0:Nat),.slice (some ⟨vb,0,none⟩) 1 vcap] W (InsQ e k W (fun _=>False) (vcur.toList.take k) 0)
theorem ins_own{P:Program}{f:FuncId}{e:TypeId}{k:Nat}(hc: ∀args w,(callFunc f args).run P w= .ok (.enter f args) w)(h:InsW P f e k)(l:List (List D))(x:List D)(hone: ∀y∈x::l,∀d∈y,d.one)(i:Nat)(hi:i≤l.length)(hl:l.length≤4000000):
  FnL P f [.ar 0 l.length,.d (.lit (.int .i64 i)),.ar 50 1] [(0,.arr e k .flat l),(50,.arr e k .flat [x])] (fun V ol new=>V= .ar 40 (l.length+1)∧ol=[(40,.arr e k .flat (l.take i++x::l.drop i))]∧new=[40]):=by
 refine⟨fun W bs=>hc bs W,?_⟩;intro W F O0 η S vs hm hO0 hr;simp only[RelVs,RelV,Aw.Rd]at hr;obtain⟨v0,_,rfl,hv0,_,_,rfl,rfl,v2,_,rfl,hv2,rfl⟩:=hr;have e0:v0=η 0:=(hv0 e k .flat l (by simp[om])).2 rfl;have e2:v2=η 50:=(hv2 e k .flat [x] (by simp[om])).2 rfl;have hl':(l.take i++x::l.drop i).length =l.length+1:=by simp; omega
 obtain⟨_,hk2,hcase2⟩:=hm.obj 50 (.arr e k .flat [x]) (by simp[om]);rcases hcase2 with⟨_,hes,_⟩ | ⟨vb,vcap,vcur,s2,hv2',hvg,hvle,_,hvcur,hvs,hvC⟩
 ·cases hes
 obtain⟨hvC2,rfl⟩:=(own0 _ _ _).1 hvC;have hxk:x.length=k:=hk2 x (by simp);have hvC3:RdVals W F x (vcur.toList.take k):=by
  have:=hvC2;simpa using this
 have hvone: ∀v∈vcur.toList.take k,v.oneCell'=true:=rdVals_one _ _ hvC3 (hone x (by simp));rw[e0,e2,hv2'];simp only[List.length_singleton]at hvle ⊢;have fin: ∀(own:Nat→Prop) (c:List Value),(∀b,own b→O0 b)→RdVals W F (l.take i++x::l.drop i).flatten c→(∀x∈l,x.length=k)→ ∀e' W',InsQ e k W own c l.length e' W'→
   ∃v V Oo new F' η' S',e'= .returned v∧(∃ol,Oo=om ol∧V=AV.ar 40 (l.length+1)∧ol=[(40,AO.arr e k .flat (l.take i++x::l.drop i))]∧new=[40])∧(∀i∈new,∀lim fam stop l rest,Oo i≠some (.ext lim fam stop l rest))∧
    Mem ⟨P,N0,W,F,O0,[],[],fun _=>undef,[]⟩ Oo W' F' η' S'∧RelV Oo W' F' η' V v∧Keeps (om [(0,AO.arr e k .flat l),(50,AO.arr e k .flat [x])]) Oo η η' new:=by
  rintro own c hown hrd hkl e' W' ⟨g',cap',cur',rfl,⟨f1,f2,f3,f4⟩,hsame,hg',hgo,hle',hmx',hsz',hcur'⟩;have hm':=mem_one (P:=P) (l':=l.take i++x::l.drop i) (cap':=cap') (g':=g') (W':=W') (e:=e) (k:=k) hm hO0 f1 f2 f3 f4 (fun b hb hnb=>hsame b hb fun hob=>hnb (hown b hob)) hg'
   (hgo.imp_left (hown g')) (by omega) hmx' hsz' (fun y hy=>by
    rcases List.mem_append.1 hy with hy | hy
    ·exact hkl y (List.mem_of_mem_take hy)
    ·rcases List.mem_cons.1 hy with rfl | hy
     ·exact hxk
     ·exact hkl y (List.mem_of_mem_drop hy)) (by rw[hl',hcur']; exact hrd)
  refine⟨_,_,_,[40],F,_,_,rfl,⟨_,rfl,rfl,rfl,rfl⟩,fun j hj lim fam stop l2 rest ho=> ?_,hm',?_,keeps_40⟩
  ·simp only[List.mem_singleton]at hj;subst hj;simp[om]at ho
  ·simp only[RelV];intro e2 k2 d2 es2 ho;simp only[om,if_true,Option.some.injEq,AO.arr.injEq]at ho;obtain⟨_,_,_,rfl⟩:=ho;rw[hl'];exact⟨Nat.le_refl _,fun _=>rfl⟩
 obtain⟨_,hk,hcase⟩:=hm.obj 0 (.arr e k .flat l) (by simp[om]);rcases hcase with⟨⟨ad,hv⟩,hes,_⟩ | ⟨g,cap,cur,s1,hv,hg,hle,hcap,hcur,hs,hC⟩
 ·subst hes;have hi0:i=0:=by simpa using hi
  subst hi0;rw[hv];refine(h.at0 W ad vb vcap vcur hvg hvle hvcur hvone).mono fun e' W' hq=> ?_;exact fin (fun _=>False) _ (fun _ hb=>hb.elim) (by simpa using hvC3) (by simp) e' W' hq
 ·obtain⟨hC2,rfl⟩:=(own0 _ _ _).1 hC;have hflat: ∀d∈l.flatten,d.one:=fun d hd=>by
   obtain⟨y,hy,hdy⟩:=List.mem_flatten.1 hd;exact hone y (List.mem_cons_of_mem _ hy) d hdy
  have hcv: ∀v∈cur.toList.take (l.length*k),v.oneCell'=true:=rdVals_one _ _ hC2 hflat;have hne:vb≠g:=by
   rintro rfl;have:=hm.sep 50 0 vb (by rw[hvs]; simp) (by rw[hs]; simp);cases this
  rw[hv];refine(h.at1 W g cap cur l.length i vb vcap vcur hg hle hcap hcur hcv hi hl hne hvg hvle hvcur hvone).mono fun e' W' hq=> ?_;refine fin (fun b=>b=g) _ (fun b hb=>by subst hb; exact(hO0 b).2 ⟨0,by rw[hs]; simp⟩) ?_ hk e' W' hq;obtain⟨s1,s2⟩:=rows_split hk hC2 i hi;rw[List.flatten_append,List.flatten_cons,List.append_assoc];exact(RdVals.append _ _ _).2 ⟨_,_,rfl,s1,(RdVals.append _ _ _).2 ⟨_,_,rfl,hvC3,s2⟩⟩
end Go.Aw
