/- Machinery. Conditions: those of each. -/
import Derived.Test.YtplfjjgkbnolhaaGreatDoorGW
import Derived.Laws.AppendOwn
set_option linter.unusedSimpArgs false
set_option linter.unusedVariables false
/-
 SLICE LITERALS AND append, ON OWN ARRAYS WHOSE ELEMENTS ARE PLAIN.
 Conditions: those of 'bsE' and 'apE'; over any program.
-/
namespace Go.Aw
open Go.RowKit

def drop(O:zbI)(l:List Nat):zbI:=fun id=>if id∈l then none else O id
theorem za7.drop(O:zbI)(η:Nat->Value)(l:List Nat):za7 O (drop O l) η η []:=by
 intro id o h;unfold Aw.drop at h;split at h
 ·cases h
 ·exact za7.refl O η id o h

theorem Mem.dropL{c:Ctx}{O:zbI}{W W':World}{F F':Nat->Prop}{η:Nat->Value}{S:Nat->List Nat}(h:Mem c O W F η S)(l:List Nat)
  (hb:Below W.heap.size W W') (h1: ∀b,F b->F' b)
  (h2: ∀b,F' b->F b\/(W.heap.size<=b/\b<W'.heap.size)\/ ∃id∈l,b∈S id):
  Mem c (drop O l) W' F' η (fun id=>if id∈l then []else S id)/\ ∀b,F b->F' b/\W'.heap[b]? =W.heap[b]? :=by
 have hF: ∀b,F b->F' b/\W'.heap[b]? =W.heap[b]? :=fun b hb'=>⟨h1 b hb',hb.block b (h.flt b hb')⟩;have hflt: ∀b,F' b->b<W'.heap.size:=by
  intro b hb';rcases h2 b hb' with h3 | h3 | ⟨id,_,h3⟩
  ·exact Nat.lt_of_lt_of_le (h.flt b h3) hb.size
  ·exact h3.2
  ·exact Nat.lt_of_lt_of_le (h.apart id b h3).2.1 hb.size
 have hap: ∀id,id∉l-> ∀b,b∈S id-> ¬F' b:=by
  intro id hid b hb' hf;obtain⟨a1,a2,a3⟩:=h.apart id b hb';rcases h2 b hf with h3 | h3 | ⟨id',hid',h3⟩
  ·exact a1 h3
  ·omega
  ·rw[h.sep id id' b hb' h3]at hid; grind
 have hO: ∀ {id o},drop O l id=some o->O id=some o/\id∉l:=by
  grind [Aw.drop]
 refine⟨⟨hb.os.trans h.os,hb.tape.trans h.tape,hb.output.trans h.output,Nat.le_trans h.size hb.size,?_,fun b hb'=>h1 b (h.f0 b hb'),hflt,?_,?_,?_,?_,?_,?_,?_,?_,h.zd⟩,hF⟩
 ·intro b hlt ho;rw[hb.block b (Nat.lt_of_lt_of_le hlt h.size)];exact h.old b hlt ho
 ·intro b hb' hlt;rcases h2 b hb' with h3 | h3 | ⟨id,_,h3⟩
  ·exact h.fold b h3 hlt
  ·have:=h.size; omega
  ·exact .inr ((h.apart id b h3).2.2 hlt)
 ·intro id o ho;obtain⟨ho,hid⟩:=hO ho;rw[if_neg hid];refine zj1.mono (za7.drop O η l) hF (AO.noRef_nil o) (fun b hb'=>hb.block b (h.apart id b hb').2.1) (fun lim fam stop l' rest e=> ?_) (h.obj id o ho);subst e;obtain⟨l1,l2⟩:=h.lim id _ _ _ _ _ ho;have l3:=h.size;refine⟨hb.os,hb.tape,hb.output,hb.size,hF,fun b hb'=>hb.block b (h.apart id b hb').2.1,hap id hid,hflt,fun b hlt=>hb.block b (by omega),fun b hb' hlt=> ?_⟩;grind
 ·intro id ho;unfold Aw.drop at ho;by_cases hid:id∈l
  ·simp[hid]
  ·simp only[if_neg hid]at ho ⊢; exact h.gone id ho
 ·intro id b hb';by_cases hid:id∈l
  ·simp_all
  ·simp only[if_neg hid]at hb';obtain⟨a1,a2,a3⟩:=h.apart id b hb';exact⟨hap id hid b hb',Nat.lt_of_lt_of_le a2 hb.size,a3⟩
 ·intro id1 id2 b h3 h4;by_cases e1:id1∈l
  ·grind
  ·by_cases e2:id2∈l
   ·grind
   ·simp only[if_neg e1]at h3;simp only[if_neg e2]at h4;exact h.sep id1 id2 b h3 h4
 ·intro id;by_cases hid:id∈l
  ·simp[hid]
  ·simp only[if_neg hid]; exact h.nd id
 ·intro p hp;obtain⟨z1,z2,z3,z4⟩:=h.hid p hp;have hlt:p.1<W.heap.size:=(Array.getElem?_eq_some_iff.1 z1).1;refine⟨(hb.block p.1 hlt).trans z1,fun hf=> ?_,fun id hm=> ?_,z4⟩
  ·grind
  simp_all
 ·intro id lim fam stop l' rest ho;obtain⟨ho,hid⟩:=hO ho;obtain⟨l1,l2⟩:=h.lim id _ _ _ _ _ ho;grind

def zcY(k:Nat)(ys:List (List D)):Prop:= ∀y∈ys,y.length=k/\ ∀x∈y,x.one
def zdj(P:Program)(t:TypeId):Option (TypeId×Nat×Nat):=
 match P.underlying t with
 | some (.slice e)=>match P.info? e with
  | some i=>match i.zero with
   | some z=>if z.cells.size=i.size/\0<i.size then some (e,i.size,i.bytes)else none
   | none=>none
  | none=>none
 | _=>none
def srcE(O:zbI):AV->Option (Prop×List (List D)×List Nat)
 | .d (.sl ys)=>some (True,ys,[])
 | .nils =>some (True,[],[])
 | .emp =>some (True,[],[])
 | .ar id m=>match O id with
  | some (.arr _ _ .flat ys)=>some (m=ys.length,ys,[id])
  | _=>none
 | _=>none
def nsA:AV->AV
 | .d (.lit (.slice none 0 0))=>.nils
 | x=>x
theorem nsA_rel{O:zbI}{W:World}{F:Nat->Prop}{η:Nat->Value}{x:AV}{v:Value}(h:zaL O W F η x v):zaL O W F η (nsA x) v:=by
 unfold nsA;grind [zaL,Rd]
def apE(P:Program)(dst:Nat)(ρ:Operand->AV)(O:zbI)(t:TypeId)(s x:Operand):Option (Prop×AV×Nat×AO×List Nat×Bool):=
 match zdj P t,srcE O (ρ x)with
 | some (e,k,bytes),some (vc,ys,ids)=>match nsA (ρ s)with
  | .nils =>some ((vc/\zcY k ys)/\ys.length*bytes<=140737488355328/\ys.length<=140737488355328,.ar dst ys.length,dst,.arr e k .flat ys,ids,true)
  | .emp =>some ((vc/\zcY k ys)/\ys.length*bytes<=140737488355328/\ys.length<=140737488355328,.ar dst ys.length,dst,.arr e k .flat ys,ids,true)
  | .ar id n=>match O id with
   | some (.arr e' k' .flat es)=>some ((vc/\zcY k ys)/\((es.length+ys.length)*bytes<=140737488355328/\es.length+ys.length<=140737488355328)/\(e'=e/\k'=k/\n=es.length)/\id∉ids,
     .ar id (es.length+ys.length),id,.arr e k .flat (es++ys),ids,false)
   | _=>none
  | _=>none
 | _,_=>none

section
variable {c:Ctx} {O:zbI} {W:World} {F:Nat->Prop} {η:Nat->Value} {S:Nat->List Nat} {ρ:Operand->AV} {a:Operand->Value}

theorem zeW{P:Program}{t e:TypeId}{k bytes:Nat}(h:zdj P t=some (e,k,bytes)):
  ∃i z,P.underlying t=some (.slice e)/\P.info? e=some i/\i.zero=some z/\z.cells.size=k/\i.size=k/\i.bytes=bytes/\0<k:=by
 grind [zdj]

theorem rd_one{x:D}{v:Value}(h:Rd W F x v)(h1:x.one):v.oneCell'=true:=by
 cases x with
 | lit u=>simp only[Rd]at h; subst h; exact h1
 | sl es=>simp only[Rd]at h; obtain⟨⟨_,_,rfl,_⟩,_⟩:=h; rfl
 | ptr cs=>simp only[Rd]at h; obtain⟨_,_,rfl,_⟩:=h; rfl
 | agg cs=>simp[D.one]at h1
 | ifc t y=>simp only[Rd]at h; obtain⟨_,rfl,_⟩:=h; rfl
 | clo f p q=>simp only[Rd]at h; obtain⟨_,_,rfl,_⟩:=h; rfl
 | mp=>simp only[Rd]at h; obtain⟨_,_,rfl,_⟩:=h; rfl
theorem zg6: ∀(xs:List D) (vs:List Value),zav W F xs vs->(∀x∈xs,x.one)-> ∀v∈vs,v.oneCell'=true
 | [],vs,h,_,v,hv=>by grind [zav]
 | x::xs,vs,h,h1,v,hv=>by
  simp only[zav]at h;obtain⟨u,rest,rfl,h2,h3⟩:=h;rcases List.mem_cons.1 hv with rfl | hv
  ·exact rd_one h2 (h1 x (by simp))
  ·exact zg6 xs rest h3 (fun y hy=>h1 y (by simp[hy])) v hv
theorem zbJ.vals{b k:Nat}: ∀(es:List (List D)) (off:Nat),zbJ W F k es b off-> ∃vs:List Value,zav W F es.flatten vs/\(∀x∈es,x.length=k)/\ ∀j v,vs[j]? =some v->W.cell? ⟨b,off+j,none⟩=some v
 | [],_,_=>⟨[],by rfl,by simp,by simp⟩
 | e::es,off,h=>by
  simp only[zbJ]at h;obtain⟨⟨h1,h2⟩,h3⟩:=h;obtain⟨us,h4,h5⟩:=zbd.vals e off h2;obtain⟨vs,h6,h7,h8⟩:=zbJ.vals es (off+k) h3;have hl:us.length=k:=(zav.length _ _ h4).trans h1;refine⟨us++vs,?_,?_,?_⟩
  ·rw[List.flatten_cons]; exact(zav.append _ _ _).2 ⟨_,_,rfl,h4,h6⟩
  ·intro x hx; rcases List.mem_cons.1 hx with rfl | hx
   ·exact h1
   ·exact h7 x hx
  ·intro j v hj;rw[List.getElem?_append]at hj;split at hj
   ·exact h5 j v hj
   ·rename_i hlt;have:=h8 (j-us.length) v hj;rwa [show off+k+(j-us.length)=off+j by omega]at this

theorem srcE_rd(hm:Mem c O W F η S){x:AV}{v:Value}{vc:Prop}{ys:List (List D)}{ids:List Nat}(h:zaL O W F η x v)(hs:srcE O x=some (vc,ys,ids))(hvc:vc):
  ∃ad cap news,v= .slice ad ys.length cap/\zav W F ys.flatten news/\(ys.length≠0-> ∃b off,ad=some ⟨b,off,none⟩/\ ∀j u,news[j]? =some u->W.cell? ⟨b,off+j,none⟩=some u):=by
 unfold srcE at hs;split at hs
 ·rename_i ys';simp only[Option.some.injEq,Prod.mk.injEq]at hs;obtain⟨_,rfl,_⟩:=hs;simp only[zaL,Rd]at h;obtain⟨⟨ad,cap,rfl,_,h1⟩,_⟩:=h;by_cases h0:ys'.length=0
  ·rw[List.eq_nil_of_length_eq_zero h0];exact⟨ad,cap,[],by simp,by rfl,fun h=>absurd rfl h⟩
  grind [zbJ.vals]
 ·simp only[Option.some.injEq,Prod.mk.injEq]at hs;obtain⟨_,rfl,_⟩:=hs;simp only[zaL]at h;exact⟨none,0,[],by simpa using h,by rfl,fun h=>absurd rfl h⟩
 ·simp only[Option.some.injEq,Prod.mk.injEq]at hs;obtain⟨_,rfl,_⟩:=hs;simp only[zaL]at h;obtain⟨bb,rfl⟩:=h;exact⟨some ⟨bb,0,none⟩,0,[],by simp,by rfl,fun h=>absurd rfl h⟩
 ·rename_i id m;split at hs
  case h_2=>cases hs
  rename_i e k ys' hO;simp only[Option.some.injEq,Prod.mk.injEq]at hs;obtain⟨rfl,rfl,_⟩:=hs;simp only[zaL]at h;have h1:=(h _ _ _ _ hO).2 hvc;obtain⟨r1,r2,r3⟩:=hm.obj id _ hO;rcases r3 with⟨r4,rfl,_⟩ | ⟨g,cap,cur,s1,r4,hh,a1,a2,a3,a4,a5⟩
  ·obtain⟨ad,r4⟩:=r4;exact⟨ad,0,[],by simp_all,by rfl,fun h=>absurd rfl h⟩
  grind [zuK,World.cell?]
 ·cases hs

theorem zfm{P:Program}{W:World}{t ty e:TypeId}{i:TypeInfo}(ht:P.underlying t=some (.slice e))(hi:P.info? e=some i)(s:Option Addr)(n cap:Nat)(hn:n<=cap)(ad:Option Addr)(c:Nat):
  (Builtin.append_ #[t,t] ty #[.slice s n cap,.slice ad 0 c]).run P W= .ok (.slice s n cap) W:=by
 cases ad <;> cases s <;> simp[Builtin.append_,run_underlying ht,sizeOf,typeInfo,hi,Builtin.lenOf,hn,Builtin.firstCells,loadCells,loadCellsFrom,storeCells]

theorem zi6{P:Program}{W:World}(ad:Option Addr)(t ty e:TypeId)(i:TypeInfo)(z:Value)(ht:P.underlying t=some (.slice e))(hi:P.info? e=some i)(hz:i.zero=some z)
  (a:Addr) (n c:Nat) (news:List Value) (hl:news.length=n*i.size) (hnews: ∀j v,news[j]? =some v->W.cell? (a.add j)=some v)
  (h0:0<n) (h63:(n:Int)<=9223372036854775807) (h48:n*i.bytes<=281474976710656):
  (Builtin.append_ #[t,t] ty #[.slice ad 0 0,.slice (some a) n c]).run P W=
   .ok (.slice (some ⟨W.heap.size,0,none⟩) n (grownCap W n 0 e)) (W.drew.alloc (.cells (news.toArray++Builtin.zeroCells z.cells (grownCap W n 0 e-n)) e)):=by
 cases ad with
 | none=>grind [run_append_nil]
 | some b=>
  have hnext:Builtin.nextslicecap (0+n) 0=n:=by
   grind [Builtin.nextslicecap]
  have:=run_append_grow W t ty e i z ht hi hz b 0 0 [] (by simp) (by simp) a n c news hl hnews (by omega) (by omega) (by simp_all);simp_all

theorem Mem.newArr(hm:Mem c O W F η S){W':World}{id:Nat}{e:TypeId}{k:Nat}{es:List (List D)}{cur:Array Value}{cap:Nat}(new:List Nat)(h1:W'.os=W.os)(h2:W'.tape=W.tape)(h3:W'.output=W.output)
  (hheap:W'.heap=W.heap.push (.cells cur e)) (hk: ∀x∈es,x.length=k) (hlen:es.length<=cap) (hcap:cap<=maxLen) (hsz:cur.size=cap*k) (hrd:zav W F es.flatten (cur.toList.take (es.length*k)))
  (hkeep:za7 O (upd O id (some (.arr e k .flat es))) η (upd η id (.slice (some ⟨W.heap.size,0,none⟩) es.length cap)) new) (hn: ∀id' o,O id'=some o->id'≠id->o.noRef new):
  Mem c (upd O id (some (.arr e k .flat es))) W' F (upd η id (.slice (some ⟨W.heap.size,0,none⟩) es.length cap)) (upd S id [W.heap.size])/\ ∀b,F b->F b/\W'.heap[b]? =W.heap[b]? :=by
 have hs:W'.heap.size=W.heap.size+1:=by simp_all
 have hold: ∀b,b<W.heap.size->W'.heap[b]? =W.heap[b]? :=fun b hb=>by grind
 refine Mem.change (W':=W') (F':=F) hm id _ _ [W.heap.size] new h1 h2 h3 (by omega) (fun b hb _=>hold b hb) (fun _ h=>h) (fun _ h=>.inl h) (fun b hb hF=>by have:=hm.flt b hF; simp_all) (by simp)
  (fun b hb=>.inr (by simp_all)) (fun h=>by cases h) hkeep hn (fun o ho hF=> ?_)
 cases ho;refine⟨by omega,hk,.inr ⟨W.heap.size,cap,cur,[],rfl,by simp_all,hlen,hcap,hsz,rfl,(zuK _ _ _).2 ⟨zav.mono hF _ _ hrd,rfl⟩⟩⟩

theorem zEU{α:Type}(x y:List α)(n:Nat)(h:x.length=n):(x++y).take n=x:=by simp_all

theorem za7.trans{O O' O'':zbI}{η η' η'':Nat->Value}{l l':List Nat}(h:za7 O O' η η' l)(h':za7 O' O'' η' η'' l')(hl: ∀id∈l,id∈l'):za7 O O'' η η'' l':=by
 intro id o ho;rcases h' id o ho with h1 | ⟨o1,h1,h2⟩
 ·exact .inl h1
 ·rcases h id o1 h1 with h3 | ⟨o2,h3,h4⟩
  ·simp_all
  ·refine .inr ⟨o2,h3,?_⟩;grind

theorem za7.newA(O:zbI)(η:Nat->Value)(id:Nat)(o:AO)(v:Value):za7 O (upd O id (some o)) η (upd η id v) [id]:=by
 intro id' o' ho;by_cases hd:id'=id
 ·simp_all
 ·simp only[upd,if_neg hd]at ho ⊢;refine .inr ⟨o',ho,?_⟩;cases o' <;> simp

theorem za7.grow{e:TypeId}{k:Nat}{es ys:List (List D)}{id:Nat}(hO:O id=some (.arr e k .flat es))(v:Value)(hv:ys.length=0->v=η id):za7 O (upd O id (some (.arr e k .flat (es++ys)))) η (upd η id v) []:=by
 intro id' o' ho;by_cases hd:id'=id
 ·grind [upd]
 ·simp only[upd,if_neg hd]at ho ⊢;refine .inr ⟨o',ho,?_⟩;cases o' <;> simp

theorem apE_sound(hm:Mem c O W F η S)(hρ: ∀x,zaL O W F η (ρ x) (a x)){dst:Nat}{t:TypeId}{s x:Operand}{vc:Prop}{V:AV}{id:Nat}{o':AO}{ids:List Nat}{isNew:Bool}
  (h:apE c.P dst ρ O t s x=some (vc,V,id,o',ids,isNew)) (hvc:vc) (hf:isNew=true->zff dst (drop O ids)) (ty:TypeId):
  ∃v W' η' S',(Builtin.append_ #[t,t] ty #[a s,a x]).run c.P W= .ok v W'/\Mem c (upd (drop O ids) id (some o')) W' F η' S'/\za7 O (upd (drop O ids) id (some o')) η η' (if isNew then [dst]else [])/\
   (∀b,F b->F b/\W'.heap[b]? =W.heap[b]?)/\zaL (upd (drop O ids) id (some o')) W' F η' V v:=by
 unfold apE at h;split at h
 case h_2=>cases h
 rename_i e k bytes vc0 ys ids0 hty hsrc;obtain⟨i,z,t1,t2,t3,t4,t5,t6,t7⟩:=zeW hty;have hs:=nsA_rel (hρ s);have hrefl:Below W.heap.size W W:=Below.refl _ _;split at h
 ·-- to the nil slice
  rename_i hnil;rw[hnil]at hs;simp only[zaL]at hs;simp only[Option.some.injEq,Prod.mk.injEq]at h;obtain⟨rfl,rfl,rfl,rfl,rfl,rfl⟩:=h;obtain⟨⟨hvc0,hrows⟩,hb1,hb2⟩:=hvc;obtain⟨hm1,_⟩:=hm.dropL (F':=F) ids0 hrefl (fun _ h=>h) (fun _ h=>.inl h);obtain⟨ad,cap,news,hx,hnews,hcells⟩:=srcE_rd hm (hρ x) hsrc hvc0;have hfr:=hf rfl;have hnl:news.length=ys.length*k:=by rw[zav.length _ _ hnews]; exact zd6 ys (fun y hy=>(hrows y hy).1)
  by_cases h0:ys.length=0
  ·have hy:=List.eq_nil_of_length_eq_zero h0;subst hy;have hk:=za7.newA (drop O ids0) η dst (.arr e k .flat []) (.slice none 0 0);obtain⟨m1,m2⟩:=Mem.change (W':=W) (F':=F) hm1 dst (some (.arr e k .flat [])) (.slice none 0 0) [] [dst] rfl rfl rfl (Nat.le_refl _) (fun _ _ _=>rfl) (fun _ h=>h) (fun _ h=>.inl h) (by simp) (by simp) (by simp) (fun _=>rfl) hk
    (fun i o ho _=>hfr.2 i o ho) (fun o ho _=>by cases ho; exact⟨by simp,by simp,.inl ⟨⟨_,rfl⟩,rfl,rfl⟩⟩)
   refine⟨_,W,_,_,by rw[hs,hx]; exact zfm t1 t2 none 0 0 (Nat.le_refl _) ad cap,m1,(za7.drop O η ids0).trans hk (by simp),m2,?_⟩;grind [zaL,upd]
  ·obtain⟨b,off,rfl,hcell⟩:=hcells h0;have hrun:=run_append_nil (P:=c.P) W t ty e i z t1 t2 t3 ⟨b,off,none⟩ ys.length cap news (by simp_all) (fun j v hj=>by rw[Addr.add_lit]; simp_all) (by omega) (by omega) (by grind);have hcap1:=grownCap_ge W ys.length 0 e;have hcap2:grownCap W ys.length 0 e<=maxLen:=grownCap_le_maxLen W ys.length 0 e (by unfold maxLen; omega);have hk:=za7.newA (drop O ids0) η dst (.arr e k .flat ys) (.slice (some ⟨W.heap.size,0,none⟩) ys.length (grownCap W ys.length 0 e));obtain⟨m1,m2⟩:=Mem.newArr (id:=dst) (e:=e) (k:=k) (es:=ys) (cap:=grownCap W ys.length 0 e) (W':=W.drew.alloc (.cells (news.toArray++Builtin.zeroCells z.cells (grownCap W ys.length 0 e-ys.length)) e)) hm1 [dst] rfl rfl rfl rfl
    (fun y hy=>(hrows y hy).1) hcap1 hcap2 (by simp only[Array.size_append,List.size_toArray,size_zeroCells,t4,hnl,<-Nat.add_mul]; grind)
    (by simp_all) hk (fun i o ho _=>hfr.2 i o ho)
   refine⟨_,_,_,_,by rw[hs,hx]; exact hrun,m1,(za7.drop O η ids0).trans hk (by simp),m2,?_⟩;grind [zaL,upd]
 ·-- to a slice without room
  rename_i hnil;rw[hnil]at hs;simp only[zaL]at hs;obtain⟨bb,hs⟩:=hs;simp only[Option.some.injEq,Prod.mk.injEq]at h;obtain⟨rfl,rfl,rfl,rfl,rfl,rfl⟩:=h;obtain⟨⟨hvc0,hrows⟩,hb1,hb2⟩:=hvc;obtain⟨hm1,_⟩:=hm.dropL (F':=F) ids0 hrefl (fun _ h=>h) (fun _ h=>.inl h);obtain⟨ad,cap,news,hx,hnews,hcells⟩:=srcE_rd hm (hρ x) hsrc hvc0;have hfr:=hf rfl;have hnl:news.length=ys.length*k:=by rw[zav.length _ _ hnews]; exact zd6 ys (fun y hy=>(hrows y hy).1)
  by_cases h0:ys.length=0
  ·have hy:=List.eq_nil_of_length_eq_zero h0;subst hy;have hk:=za7.newA (drop O ids0) η dst (.arr e k .flat []) (.slice (some ⟨bb,0,none⟩) 0 0);obtain⟨m1,m2⟩:=Mem.change (W':=W) (F':=F) hm1 dst (some (.arr e k .flat [])) (.slice (some ⟨bb,0,none⟩) 0 0) [] [dst] rfl rfl rfl (Nat.le_refl _) (fun _ _ _=>rfl) (fun _ h=>h) (fun _ h=>.inl h) (by simp) (by simp) (by simp) (fun _=>rfl) hk
    (fun i o ho _=>hfr.2 i o ho) (fun o ho _=>by cases ho; exact⟨by simp,by simp,.inl ⟨⟨_,rfl⟩,rfl,rfl⟩⟩)
   refine⟨_,W,_,_,by rw[hs,hx]; exact zfm t1 t2 (some ⟨bb,0,none⟩) 0 0 (Nat.le_refl _) ad cap,m1,(za7.drop O η ids0).trans hk (by simp),m2,?_⟩;grind [zaL,upd]
  ·obtain⟨b,off,rfl,hcell⟩:=hcells h0;have hrun:=zi6 (P:=c.P) (W:=W) (some ⟨bb,0,none⟩) t ty e i z t1 t2 t3 ⟨b,off,none⟩ ys.length cap news (by simp_all) (fun j v hj=>by rw[Addr.add_lit]; simp_all) (by omega) (by omega) (by grind);have hcap1:=grownCap_ge W ys.length 0 e;have hcap2:grownCap W ys.length 0 e<=maxLen:=grownCap_le_maxLen W ys.length 0 e (by unfold maxLen; omega);have hk:=za7.newA (drop O ids0) η dst (.arr e k .flat ys) (.slice (some ⟨W.heap.size,0,none⟩) ys.length (grownCap W ys.length 0 e));obtain⟨m1,m2⟩:=Mem.newArr (id:=dst) (e:=e) (k:=k) (es:=ys) (cap:=grownCap W ys.length 0 e) (W':=W.drew.alloc (.cells (news.toArray++Builtin.zeroCells z.cells (grownCap W ys.length 0 e-ys.length)) e)) hm1 [dst] rfl rfl rfl rfl
    (fun y hy=>(hrows y hy).1) hcap1 hcap2 (by simp only[Array.size_append,List.size_toArray,size_zeroCells,t4,hnl,<-Nat.add_mul]; grind)
    (by simp_all) hk (fun i o ho _=>hfr.2 i o ho)
   refine⟨_,_,_,_,by rw[hs,hx]; exact hrun,m1,(za7.drop O η ids0).trans hk (by simp),m2,?_⟩;grind [zaL,upd]
 ·-- to an own array
  rename_i id' n hid;rw[hid]at hs;split at h
  case h_2=>cases h
  rename_i e' k' es hO;simp only[Option.some.injEq,Prod.mk.injEq]at h;obtain⟨rfl,rfl,rfl,rfl,rfl,rfl⟩:=h;obtain⟨⟨hvc0,hrows⟩,⟨hb1,hb2⟩,⟨rfl,rfl,rfl⟩,hnot⟩:=hvc;obtain⟨hm1,_⟩:=hm.dropL (F':=F) ids0 hrefl (fun _ h=>h) (fun _ h=>.inl h);have hO1:drop O ids0 id'=some (.arr e' k' .flat es):=by simp only[drop,if_neg hnot]; exact hO
  have hS1:(if id'∈ids0 then []else S id')=S id':=by simp_all
  obtain⟨ad,cap,news,hx,hnews,hcells⟩:=srcE_rd hm (hρ x) hsrc hvc0;have hnl:news.length=ys.length*k':=by rw[zav.length _ _ hnews]; exact zd6 ys (fun y hy=>(hrows y hy).1)
  simp only[zaL]at hs;have hsv:=(hs _ _ _ _ hO).2 rfl;have hrel:=hm.obj id' _ hO;have fin: ∀(W':World) (v:Value),zaL (upd (drop O ids0) id' (some (.arr e' k' .flat (es++ys)))) W' F (upd η id' v) (.ar id' (es.length+ys.length)) v:=by
   grind [zaL,upd]
  by_cases h0:ys.length=0
  ·have hy:=List.eq_nil_of_length_eq_zero h0;subst hy;have hk:=za7.grow (O:=drop O ids0) (η:=η) (ys:=[]) hO1 (η id') (fun _=>rfl);rw[zcb]at hk;have he: ∃ad0 n0 c0,η id'= .slice ad0 n0 c0/\n0<=c0:=by
    rcases hrel.2.2 with⟨r4,_,_⟩ | ⟨g,cap,cur,s1,r4,hh,a1,_⟩
    ·grind
    grind
   obtain⟨ad0,n0,c0,hη,hle⟩:=he;have hO2:upd (drop O ids0) id' (some (.arr e' k' .flat (es++[])))=drop O ids0:=by
    grind [upd]
   refine⟨_,W,η,_,by rw[hsv,hx,hη]; exact zfm t1 t2 ad0 n0 c0 hle ad cap,by rw[hO2]; exact hm1,(za7.drop O η ids0).trans hk (by simp),fun b hb=>⟨hb,rfl⟩,?_⟩;have:=fin W (η id');grind [zcb]
  ·obtain⟨b,off,rfl,hcell⟩:=hcells h0;obtain⟨r1,r2,r3⟩:=hrel;have hrows2: ∀y∈es++ys,y.length=k':=by
    intro y hy;rcases List.mem_append.1 hy with hy | hy
    ·exact r2 y hy
    ·exact(hrows y hy).1
   rcases r3 with⟨r4,rfl,r6⟩ | ⟨g,cp,cur,s1,r4,hh,a1,a2,a3,a4,a5⟩
   ·-- it is nil
    obtain⟨ad1,r4⟩:=r4;have hrun:=zi6 (P:=c.P) (W:=W) ad1 t ty e' i z t1 t2 t3 ⟨b,off,none⟩ ys.length cap news (by simp_all) (fun j v hj=>by rw[Addr.add_lit]; simp_all) (by omega) (by omega) (by grind);have hcap1:=grownCap_ge W ys.length 0 e';have hcap2:grownCap W ys.length 0 e'<=maxLen:=grownCap_le_maxLen W ys.length 0 e' (by unfold maxLen; omega);have hk:=za7.grow (O:=drop O ids0) (η:=η) (ys:=ys) hO1 (.slice (some ⟨W.heap.size,0,none⟩) ([]++ys).length (grownCap W ys.length 0 e')) (fun h=>absurd h h0);obtain⟨m1,m2⟩:=Mem.newArr (id:=id') (e:=e') (k:=k') (es:=[]++ys) (cap:=grownCap W ys.length 0 e') (W':=W.drew.alloc (.cells (news.toArray++Builtin.zeroCells z.cells (grownCap W ys.length 0 e'-ys.length)) e')) hm1 [] rfl rfl rfl rfl
     hrows2 hcap1 hcap2 (by simp only[Array.size_append,List.size_toArray,size_zeroCells,t4,hnl,<-Nat.add_mul]; grind)
     (by simp_all) hk (fun j o _ _=>AO.noRef_nil o)
    refine⟨_,_,_,_,by rw[hsv,r4,hx]; exact hrun,m1,(za7.drop O η ids0).trans hk (by simp),m2,?_⟩;simp_all
   ·obtain⟨a6,rfl⟩:=(zuK _ _ _).1 a5;have hfl:=zd6 es r2;have hcur:es.length*k'<=cur.size:=(by rw[a3]; exact Nat.mul_le_mul_right k' a1);have hfl2:zav W F (es++ys).flatten (cur.toList.take (es.length*k')++news):=by
     grind [zav.append]
    have hol:(cur.toList.take (es.length*k')).length =es.length*k':=by
     simp_all
    by_cases hroom:es.length+ys.length<=cp
    ·have hfit:es.length*k'+news.length<=cur.size:=(by rw[hnl,a3,<-Nat.add_mul]; exact Nat.mul_le_mul_right k' hroom);have hrun:=run_append_room (P:=c.P) W t ty e' i t1 t2 g es.length cp cur hh ⟨b,off,none⟩ ys.length cap news (by simp_all) (fun j v hj=>by rw[Addr.add_lit]; simp_all)
      (zg6 _ _ hnews (fun x hx=>by obtain⟨y,hy,hxy⟩:=List.mem_flatten.1 hx; exact(hrows y hy).2 x hxy)) hroom (by simp_all)
     rw[t5]at hrun;have hk:=za7.grow (O:=drop O ids0) (η:=η) (ys:=ys) hO1 (.slice (some ⟨g,0,none⟩) (es++ys).length cp) (fun h=>absurd h h0);have hset:=setRow_heap W g cur (cur.toList.take (es.length*k')++news++cur.toList.drop (es.length*k'+news.length)).toArray e' (0,0) hh;obtain⟨f1,f2,f3,f4⟩:=zgh W g (cur.toList.take (es.length*k')++news++cur.toList.drop (es.length*k'+news.length)).toArray;obtain⟨m1,m2⟩:=Mem.change (F':=F) hm1 id' (some (.arr e' k' .flat (es++ys))) (.slice (some ⟨g,0,none⟩) (es++ys).length cp) [g] [] f1 f2 f3 (by omega)
      (fun j _ hj=>setRow_other W g j _ (by simp_all)) (fun _ h=>h) (fun _ h=>.inl h) (fun j hj=>(hm.apart id' j (by simp_all)).1) (by simp) (fun j hj=>.inl (by simp_all)) (fun h=>by cases h) hk
      (fun j o _ _=>AO.noRef_nil o)
      (fun o ho hF=>by
       cases ho;refine⟨by grind,hrows2,.inr ⟨g,cp,_,[],rfl,hset,by simp_all,a2,?_,rfl,?_⟩⟩
       ·grind
       ·rw[zuK];refine⟨?_,rfl⟩;have e1:(cur.toList.take (es.length*k')++news++cur.toList.drop (es.length*k'+news.length)).toArray.toList.take ((es++ys).length *k')=cur.toList.take (es.length*k')++news:=by
         grind [Nat.add_mul]
        grind [zav.mono])
     refine⟨_,_,_,_,by rw[hsv,r4,hx]; exact hrun,m1,(za7.drop O η ids0).trans hk (by simp),m2,?_⟩;simp_all
    ·have hrun:=run_append_grow (P:=c.P) W t ty e' i z t1 t2 t3 ⟨g,0,none⟩ es.length cp (cur.toList.take (es.length*k')) (by simp_all) (fun j v hj=>by
       grind [Addr.add_lit,World.cell?]) ⟨b,off,none⟩ ys.length cap news (by simp_all) (fun j v hj=>by rw[Addr.add_lit]; simp_all) (by omega) (by omega) (growslice_fits (by omega) (by simp_all))
     have hcap1:=grownCap_ge W (es.length+ys.length) cp e';have hcap2:grownCap W (es.length+ys.length) cp e'<=maxLen:=grownCap_le_maxLen W (es.length+ys.length) cp e' (by unfold maxLen; omega);have hk:=za7.grow (O:=drop O ids0) (η:=η) (ys:=ys) hO1 (.slice (some ⟨W.heap.size,0,none⟩) (es++ys).length (grownCap W (es.length+ys.length) cp e')) (fun h=>absurd h h0);obtain⟨m1,m2⟩:=Mem.newArr (id:=id') (e:=e') (k:=k') (es:=es++ys) (cap:=grownCap W (es.length+ys.length) cp e')
      (W':=W.drew.alloc (.cells ((cur.toList.take (es.length*k')).toArray ++news.toArray++Builtin.zeroCells z.cells (grownCap W (es.length+ys.length) cp e'-(es.length+ys.length))) e')) hm1 [] rfl rfl rfl rfl
      hrows2 (by simp_all) hcap2 (by simp only[Array.size_append,List.size_toArray,size_zeroCells,t4,hol,hnl,<-Nat.add_mul]; grind)
      (by
       grind [Nat.add_mul]) hk (fun j o _ _=>AO.noRef_nil o)
     refine⟨_,_,_,_,by rw[hsv,r4,hx]; exact hrun,m1,(za7.drop O η ids0).trans hk (by simp),m2,?_⟩;simp_all
 ·cases h
end
end Go.Aw
