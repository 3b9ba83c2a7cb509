/- Machinery. Conditions: those of each. -/
import Derived.Test.YtplfjjgkbnolhaaGreatDoorGV
set_option linter.unusedSimpArgs false
set_option linter.unusedVariables false
/-
 APPEND TO OWN ARRAYS WHOSE SLICES ARE OWN TOO; SLICE LITERALS OF OWN SLICES.
 Conditions: those of each law; over any program.
-/
namespace Go.Aw
open Go.RowKit

section
variable {c:Ctx} {O:zbI} {W:World} {F:Nat->Prop} {η:Nat->Value} {S:Nat->List Nat} {ρ:Operand->AV} {a:Operand->Value}

def apD(P:Program)(ρ:Operand->AV)(O:zbI)(t:TypeId)(s x:Operand):Option (Prop×AV×Nat×AO×List Nat×Bool):=
 match zdj P t,ρ s,ρ x with
 | some (e,k,bytes),.ar id n,.ar id2 m=>match O id,O id2 with
  | some (.arr e' k' (.deep tys []) es),some (.arr _ k2 (.deep tys2 []) ys)=>
   some ((zcY k ys/\ys.length≠0)/\((es.length+ys.length)*bytes<=140737488355328/\es.length+ys.length<=140737488355328)/\(e'=e/\k'=k/\n=es.length)/\(k2=k/\tys2=tys/\m=ys.length/\id≠id2),
    .ar id (es.length+ys.length),id,.arr e k (.deep tys []) (es++ys),[id2],false)
  | _,_=>none
 | _,_,_=>none

theorem own_oneCell{W:World}{F:Nat->Prop}: ∀(tys:List (TypeId×Nat)) (x:D) (v:Value) (s:List Nat),Own W F tys x v s->x.one->v.oneCell'=true
 | [],x,v,s,h,h1=>rd_one h.1 h1
 | (e,k)::r,.sl es,v,s,h,_=>by
  obtain⟨_,_,⟨⟨_,rfl⟩,_⟩ | ⟨_,_,_,_,rfl,_⟩⟩:=h <;> rfl
 | _::_,.lit _,v,s,h,h1 | _::_,.ptr _,v,s,h,h1 | _::_,.agg _,v,s,h,h1 | _::_,.ifc _ _,v,s,h,h1 | _::_,.clo ..,v,s,h,h1 | _::_,.mp ..,v,s,h,h1=>rd_one h.1 h1
theorem zmS{tys:List (TypeId×Nat)}: ∀(xs:List D) (vs:List Value) (s:List Nat),OwnVals (Own W F tys) xs vs s->(∀x∈xs,x.one)-> ∀v∈vs,v.oneCell'=true
 | [],vs,s,h,_,v,hv=>by grind [OwnVals]
 | x::xs,vs,s,h,h1,v,hv=>by
  simp only[OwnVals]at h;obtain⟨u,rest,s1,s2,rfl,_,h3,h4⟩:=h;rcases List.mem_cons.1 hv with rfl | hv
  ·grind [own_oneCell]
  ·exact zmS xs rest s2 h4 (fun y hy=>h1 y (by simp[hy])) v hv

theorem apD_sound(hm:Mem c O W F η S)(hρ: ∀x,zaL O W F η (ρ x) (a x)){t:TypeId}{s x:Operand}{vc:Prop}{V:AV}{id:Nat}{o':AO}{ids:List Nat}{isNew:Bool}
  (h:apD c.P ρ O t s x=some (vc,V,id,o',ids,isNew)) (hvc:vc) (ty:TypeId):
  isNew=false/\ ∃v W' η' S',(Builtin.append_ #[t,t] ty #[a s,a x]).run c.P W= .ok v W'/\Mem c (upd (drop O ids) id (some o')) W' F η' S'/\za7 O (upd (drop O ids) id (some o')) η η' []/\
   (∀b,F b->F b/\W'.heap[b]? =W.heap[b]?)/\zaL (upd (drop O ids) id (some o')) W' F η' V v:=by
 unfold apD at h;split at h
 case h_2=>cases h
 rename_i e k bytes id' n id2 m hty hs0 hx0;split at h
 case h_2=>cases h
 rename_i e' k' tys es e2 k2 tys2 ys hO hO2;simp only[Option.some.injEq,Prod.mk.injEq]at h;obtain⟨rfl,rfl,rfl,rfl,rfl,rfl⟩:=h;obtain⟨⟨hrows,h0⟩,⟨hb1,hb2⟩,⟨rfl,rfl,rfl⟩,⟨rfl,rfl,rfl,hne⟩⟩:=hvc;refine⟨rfl,?_⟩;obtain⟨i,z,t1,t2,t3,t4,t5,t6,t7⟩:=zeW hty;have hs:=hρ s;rw[hs0]at hs;have hx:=hρ x;rw[hx0]at hx;simp only[zaL]at hs hx;have hsv:=(hs _ _ _ _ hO).2 rfl;have hxv:=(hx _ _ _ _ hO2).2 rfl;have hrel:zfv W (OwnVals (Own W F tys2)) e' k2 es (η id') (S id'):=(zfv.congr (fun xs vs s=>ziZ xs 0 vs s)).1 (hm.obj id' _ hO);have hrel2:zfv W (OwnVals (Own W F tys2)) e2 k2 ys (η id2) (S id2):=(zfv.congr (fun xs vs s=>ziZ xs 0 vs s)).1 (hm.obj id2 _ hO2);obtain⟨r1,r2,r3⟩:=hrel;obtain⟨q1,q2,q3⟩:=hrel2;rcases q3 with⟨_,rfl,_⟩ | ⟨b,cap,cur2,s2,q4,qh,b1,b2,b3,b4,b5⟩
 ·simp at h0
 obtain⟨news,hnews⟩: ∃news,cur2.toList.take (ys.length*k2)=news:=⟨_,rfl⟩;rw[hnews]at b5;have hnl:news.length=ys.length*k2:=by grind [OwnVals.length,zd6]
 have hcell: ∀j v,news[j]? =some v->W.cell? ⟨b,0+j,none⟩=some v:=by
  grind [World.cell?]
 have hones: ∀v∈news,v.oneCell'=true:=zmS _ _ _ b5 (fun x hx=>by obtain⟨y,hy,hxy⟩:=List.mem_flatten.1 hx; exact(hrows y hy).2 x hxy);have hrows2: ∀y∈es++ys,y.length=k2:=by
  grind
 have hnd2:=hm.nd id2;rw[b4]at hnd2;have hdis: ∀b,b∈S id'->b∈S id2->False:=fun b hb hb'=>hne (hm.sep id' id2 b hb hb');rw[b4]at hdis;obtain⟨O',hO'⟩: ∃O',upd (drop O [id2]) id' (some (.arr e' k2 (.deep tys2 []) (es++ys)))=O':=⟨_,rfl⟩;rw[hO'];have e1:O' id2=none:=by rw[<-hO']; simp[upd,drop,Ne.symm hne]
 have e3:O' id'=some (.arr e' k2 (.deep tys2 []) (es++ys)):=by rw[<-hO']; simp[upd]
 have e4: ∀x,¬(x=id'\/x=id2)->O' x=O x:=fun x hx=>by
  obtain⟨x1,x2⟩:=not_or.1 hx;rw[<-hO']; simp[upd,drop,x1,x2]
 -- what is left to say once the new array is there
 have fin: ∀(W':World) (v':Value) (s':List Nat),W'.os=W.os->W'.tape=W.tape->W'.output=W.output->W.heap.size<=W'.heap.size->(∀j,j<W.heap.size->j∉S id'->W'.heap[j]? =W.heap[j]?)->s'.Nodup->
   (∀j∈s',(j∈S id'\/j∈s2)\/(W.heap.size<=j/\j<W'.heap.size))->zfv W' (OwnVals (Own W' F tys2)) e' k2 (es++ys) v' s'->
   Mem c O' W' F (upd η id' v') (upd (upd S id2 []) id' s')/\za7 O O' η (upd η id' v') []/\(∀b,F b->F b/\W'.heap[b]? =W.heap[b]?)/\zaL O' W' F (upd η id' v') (.ar id' (es.length+ys.length)) v':=by
  intro W' v' s' w1 w2 w3 w4 w5 w6 w7 w8;have hk:za7 O O' η (upd η id' v') []:=by
   intro x o ho;right;by_cases hx:x=id2
   ·simp_all
   ·by_cases hx2:x=id'
    ·grind
    ·rw[e4 x (by omega)]at ho;refine⟨o,ho,?_⟩;cases o <;> simp[upd,hx2]
  obtain⟨m1,m2⟩:=Mem.update (W':=W') (F':=F) (O':=O') (η':=upd η id' v') (S':=upd (upd S id2 []) id' s') hm (fun x=>x=id'\/x=id2) [] w1 w2 w3 w4
   (fun j hj hT=>w5 j hj (hT id' (.inl rfl))) (fun _ h=>h) (fun _ h=>.inl h)
   (fun x hx=>by
    grind [upd])
   (fun x hx j hj=>by
    rcases hx with rfl | rfl
    ·simp only[upd,if_true]at hj;rcases w7 j hj with(hj | hj) | hj
     ·exact⟨(hm.apart _ j hj).1,.inl ⟨x,.inl rfl,hj⟩⟩
     ·have hj':j∈S id2:=(by simp_all);exact⟨(hm.apart _ j hj').1,.inl ⟨id2,.inr rfl,hj'⟩⟩
     ·exact⟨fun hF=>by have:=hm.flt j hF; omega,.inr hj⟩
    ·simp[upd,Ne.symm hne]at hj)
   (fun x y j hx hy hjx hjy=>by
    grind [upd])
   (fun x hx=>by
    grind [upd])
   (fun x hx ho=>by
    grind [upd])
   hk (fun x o ho hx=>AO.noRef_nil o)
   (fun x o hx ho hF=>by
    rcases hx with rfl | rfl
    ·rw[e3]at ho;cases ho;simp only[upd,if_true];exact(zfv.congr (fun xs vs s=>ziZ xs 0 vs s)).2 w8
    simp_all)
   (fun x lim fam stop l rest hx ho=>by
    grind)
  grind [zaL,upd]
 have hsum:(es++ys).length =es.length+ys.length:=by simp
 rcases r3 with⟨r4,rfl,r6⟩ | ⟨g,cp,cur,s1,r4,hh,a1,a2,a3,a4,a5⟩
 ·-- it is nil
  obtain⟨ad1,r4⟩:=r4;simp only[List.length_nil,Nat.zero_add]at hb1 hb2;have hrun:=zi6 (P:=c.P) (W:=W) ad1 t ty e' i z t1 t2 t3 ⟨b,0,none⟩ ys.length cap news (by simp_all) (fun j v hj=>by rw[Addr.add_lit]; simp_all) (by omega) (by omega) (by grind);have hcap1:=grownCap_ge W ys.length 0 e';have hcap2:grownCap W ys.length 0 e'<=maxLen:=grownCap_le_maxLen W ys.length 0 e' (by omega);have hold: ∀j,j<W.heap.size->(W.drew.alloc (.cells (news.toArray++Builtin.zeroCells z.cells (grownCap W ys.length 0 e'-ys.length)) e')).heap[j]? =W.heap[j]? :=fun j hj=>Below.heap_alloc W.drew _ j hj;obtain⟨f1,f2,f3,f4⟩:=fin (W.drew.alloc (.cells (news.toArray++Builtin.zeroCells z.cells (grownCap W ys.length 0 e'-ys.length)) e')) (.slice (some ⟨W.heap.size,0,none⟩) ys.length (grownCap W ys.length 0 e')) (W.heap.size::s2) rfl rfl rfl (by simp) (fun j hj _=>hold j hj)
   (List.nodup_cons.2 ⟨fun hm'=>by have:=(hm.apart id2 W.heap.size (by simp_all)).2.1; omega,(List.nodup_cons.1 hnd2).2⟩)
   (fun j hj=>by
    rcases List.mem_cons.1 hj with rfl | hj
    ·simp_all
    simp_all)
   ⟨by simp_all,by omega,.inr ⟨W.heap.size,_,_,s2,by simp,heap_alloc_new W.drew _,by simp_all,hcap2,by simp only[Array.size_append,List.size_toArray,size_zeroCells,t4,hnl,<-Nat.add_mul]; grind,rfl,by
    rw[List.nil_append,Array.toList_append,zEU _ _ _ (by omega)];exact OwnVals.mono _ _ _ (fun x v s' hs'=>Own.mono (fun b hb=>⟨hb,hold b (hm.flt b hb)⟩) tys2 x v s' (fun b hb=>hold b (hm.apart id2 b (by simp_all)).2.1)) b5⟩⟩
  grind
 ·have hfl:=zd6 es r2;have hcur:es.length*k2<=cur.size:=by rw[a3]; exact Nat.mul_le_mul_right k2 a1
  have hol:(cur.toList.take (es.length*k2)).length =es.length*k2:=by
   simp_all
  have hnd1:=hm.nd id';rw[a4]at hnd1;have hg2: ∀j∈s2,j≠g:=fun j hj e=>hdis g (by rw[a4]; simp) (by simp_all);have hg1: ∀j∈s1,j≠g:=fun j hj e=>(List.nodup_cons.1 hnd1).1 (e▸hj);have hdis2: ∀j∈s1,∀j'∈s2,j≠j':=fun j hj j' hj' e=>hdis j (by simp_all) (by simp_all);have hss:(s1++s2).Nodup :=List.nodup_append.2 ⟨(List.nodup_cons.1 hnd1).2,(List.nodup_cons.1 hnd2).2,hdis2⟩;by_cases hroom:es.length+ys.length<=cp
  ·have hfit:es.length*k2+news.length<=cur.size:=by rw[hnl,a3,<-Nat.add_mul]; exact Nat.mul_le_mul_right k2 hroom
   have hrun:=run_append_room (P:=c.P) W t ty e' i t1 t2 g es.length cp cur hh ⟨b,0,none⟩ ys.length cap news (by simp_all) (fun j v hj=>by rw[Addr.add_lit]; simp_all) hones hroom (by simp_all);rw[t5]at hrun;have hset:=setRow_heap W g cur (cur.toList.take (es.length*k2)++news++cur.toList.drop (es.length*k2+news.length)).toArray e' (0,0) hh;obtain⟨f1,f2,f3,f4⟩:=zgh W g (cur.toList.take (es.length*k2)++news++cur.toList.drop (es.length*k2+news.length)).toArray;have hother: ∀b,b≠g->(W.setRow g (cur.toList.take (es.length*k2)++news++cur.toList.drop (es.length*k2+news.length)).toArray).heap[b]? =W.heap[b]? :=fun b hb=>setRow_other W g b _ hb;obtain⟨w1,w2,w3,w4⟩:=fin _ (.slice (some ⟨g,0,none⟩) (es.length+ys.length) cp) (g::(s1++s2)) f1 f2 f3 (by omega) (fun j _ hj=>hother j (by simp_all))
    (List.nodup_cons.2 ⟨fun h=>by simp_all,hss⟩)
    (fun j hj=>by
     grind)
    ⟨by omega,hrows2,.inr ⟨g,cp,_,s1++s2,by rw[hsum],hset,by omega,a2,by
     grind,rfl,by
     have ep:(cur.toList.take (es.length*k2)++news++cur.toList.drop (es.length*k2+news.length)).toArray.toList.take ((es++ys).length *k2)=cur.toList.take (es.length*k2)++news:=by
      grind [Nat.add_mul]
     rw[ep,List.flatten_append];have hFg: ∀b,F b->F b/\(W.setRow g (cur.toList.take (es.length*k2)++news++cur.toList.drop (es.length*k2+news.length)).toArray).heap[b]? =W.heap[b]? :=fun b hb=>⟨hb,hother b (by rintro rfl; exact(hm.apart id' _ (by rw[a4]; simp)).1 hb)⟩;exact OwnVals.append _ _ _ _ _ _ (OwnVals.mono _ _ _ (fun x v s' hs'=>Own.mono hFg tys2 x v s' (fun b hb=>hother b (hg1 b (hs' b hb)))) a5) (OwnVals.mono _ _ _ (fun x v s' hs'=>Own.mono hFg tys2 x v s' (fun b hb=>hother b (hg2 b (hs' b hb)))) b5)⟩⟩
   grind
  ·have hrun:=run_append_grow (P:=c.P) W t ty e' i z t1 t2 t3 ⟨g,0,none⟩ es.length cp (cur.toList.take (es.length*k2)) (by rw[t5]; exact hol) (fun j v hj=>by
     rw[Addr.add_lit];rw[List.getElem?_take]at hj;split at hj
     ·simp only[World.cell?,hh,Nat.zero_add]; simpa using hj
     ·cases hj) ⟨b,0,none⟩ ys.length cap news (by rw[t5]; exact hnl) (fun j v hj=>by rw[Addr.add_lit]; simp_all) (by omega) (by omega) (growslice_fits (by omega) (by rw[t6]; exact hb1))
   have hcap1:=grownCap_ge W (es.length+ys.length) cp e';have hcap2:grownCap W (es.length+ys.length) cp e'<=maxLen:=grownCap_le_maxLen W (es.length+ys.length) cp e' (by unfold maxLen; omega);have hold: ∀j,j<W.heap.size->(W.drew.alloc (.cells ((cur.toList.take (es.length*k2)).toArray ++news.toArray++Builtin.zeroCells z.cells (grownCap W (es.length+ys.length) cp e'-(es.length+ys.length))) e')).heap[j]? =W.heap[j]? :=fun j hj=>Below.heap_alloc W.drew _ j hj;have hFo:=fun b (hb:F b)=>(⟨hb,hold b (hm.flt b hb)⟩:F b/\_);obtain⟨w1,w2,w3,w4⟩:=fin (W.drew.alloc (.cells ((cur.toList.take (es.length*k2)).toArray ++news.toArray++Builtin.zeroCells z.cells (grownCap W (es.length+ys.length) cp e'-(es.length+ys.length))) e')) (.slice (some ⟨W.heap.size,0,none⟩) (es.length+ys.length) (grownCap W (es.length+ys.length) cp e')) (W.heap.size::(s1++s2)) rfl rfl rfl (by simp) (fun j hj _=>hold j hj)
    (List.nodup_cons.2 ⟨fun h=>by
     rcases List.mem_append.1 h with h | h
     ·have:=(hm.apart id' W.heap.size (by grind)).2.1; omega
     ·have:=(hm.apart id2 W.heap.size (by grind)).2.1; omega,hss⟩)
    (fun j hj=>by
     rcases List.mem_cons.1 hj with rfl | hj
     ·exact .inr ⟨Nat.le_refl _,by simp⟩
     ·rcases List.mem_append.1 hj with hj | hj
      ·left; left; rw[a4]; simp[hj]
      ·left; right; exact hj)
    ⟨by omega,hrows2,.inr ⟨W.heap.size,_,_,s1++s2,by rw[hsum],heap_alloc_new W.drew _,by omega,hcap2,by
     simp only[Array.size_append,List.size_toArray,size_zeroCells,t4,hol,hnl,<-Nat.add_mul]; congr 1; omega,rfl,by
     have ep:((cur.toList.take (es.length*k2)).toArray ++news.toArray++Builtin.zeroCells z.cells (grownCap W (es.length+ys.length) cp e'-(es.length+ys.length))).toList.take ((es++ys).length *k2)=cur.toList.take (es.length*k2)++news:=by
      rw[Array.toList_append];refine(zEU _ _ _ ?_).trans ?_
      ·simp only[Array.toList_append,List.length_append,hol,hnl,Nat.add_mul]
      ·simp only[Array.toList_append]
     rw[ep,List.flatten_append];exact OwnVals.append _ _ _ _ _ _ (OwnVals.mono _ _ _ (fun x v s' hs'=>Own.mono hFo tys2 x v s' (fun b hb=>hold b (hm.apart id' b (by rw[a4]; exact List.mem_cons_of_mem _ (hs' b hb))).2.1)) a5)
      (OwnVals.mono _ _ _ (fun x v s' hs'=>Own.mono hFo tys2 x v s' (fun b hb=>hold b (hm.apart id2 b (by grind)).2.1)) b5)⟩⟩
   grind

def ownC(O:zbI)(tys:List (TypeId×Nat))(x:AV):Option (Prop×D×List Nat):=
 match tys,x with
 | (e',k')::r,.ar id n=>match O id with
  | some (.arr e2 k2 dep xs)=>some (e2=e'/\k2=k'/\dep=zj6 r/\n=xs.length,.sl xs,[id])
  | _=>none
 | _::_,.nils =>some (True,.sl [],[])
 | _::_,.emp =>some (True,.sl [],[])
 | _::_,.d (.lit v)=>some (True,.lit v,[])
 | _,_=>none
def znJ(O:zbI)(tys:List (TypeId×Nat)):List AV->Option (Prop×List D×List Nat)
 | []=>some (True,[],[])
 | x::xs=>match ownC O tys x,znJ O tys xs with
  | some (p,y,l),some (q,ys,m)=>some (p/\q,y::ys,l++m)
  | _,_=>none
def bsD(P:Program)(tys:List (TypeId×Nat))(ρ:Operand->AV)(O:zbI)(t:TypeId)(len:Nat)(parts:Array (Nat×Operand)):Option (Prop×AO×List Nat):=
 match zdj P t with
 | some (e,k,_)=>match lay P e,zad P e with
  | some (ag,_),some z=>match zod (fun i=>some (i*k,ag,k)) ρ O parts.toList ((List.replicate len (z.map zdB)).flatten)with
   | some (vc,cs)=>match znJ O tys cs with
    | some (vc2,ds,ids)=>some (vc/\vc2/\ids.Nodup/\len*k<=16777216,.arr e k (.deep tys []) (zgF k len ds),ids)
    | none=>none
   | none=>none
  | _,_=>none
 | none=>none

theorem ownC_own(hm:Mem c O W F η S){tys:List (TypeId×Nat)}{x:AV}{v:Value}{r:Prop×D×List Nat}(h:zaL O W F η x v)(hr:ownC O tys x=some r)(hvc:r.1):Own W F tys r.2.1 v (r.2.2.flatMap S):=by
 unfold ownC at hr;split at hr
 ·rename_i e' k' r' id n;split at hr
  ·rename_i e2 k2 dep xs hO;simp only[Option.some.injEq]at hr;subst hr;obtain⟨rfl,rfl,rfl,rfl⟩:=hvc;simp only[zaL]at h;rw[(h _ _ _ _ hO).2 rfl];rw[List.flatMap_cons,List.flatMap_nil,List.append_nil];exact zkD.1 (hm.obj id _ hO)
  ·cases hr
 ·simp only[Option.some.injEq]at hr;subst hr;simp only[zaL]at h;subst h;exact⟨by simp,by simp,.inl ⟨⟨_,rfl⟩,rfl,by simp⟩⟩
 ·simp only[Option.some.injEq]at hr;subst hr;simp only[zaL]at h;obtain⟨bb,rfl⟩:=h;exact⟨by simp,by simp,.inl ⟨⟨_,rfl⟩,rfl,by simp⟩⟩
 ·simp only[Option.some.injEq]at hr;subst hr;exact⟨h,by simp⟩
 ·cases hr
theorem ownL_own(hm:Mem c O W F η S){tys:List (TypeId×Nat)}: ∀(xs:List AV) (vs:List Value) (r:Prop×List D×List Nat),zaN O W F η xs vs->znJ O tys xs=some r->r.1->OwnVals (Own W F tys) r.2.1 vs (r.2.2.flatMap S)
 | [],vs,r,h,hr,_=>by
  grind [znJ,zaN,OwnVals]
 | x::xs,vs,r,h,hr,hvc=>by
  simp only[znJ]at hr;split at hr
  ·rename_i p y l q ys m h1 h2;simp only[Option.some.injEq]at hr;subst hr;simp only[zaN]at h;obtain⟨v,rest,rfl,h3,h4⟩:=h;simp only[OwnVals,List.flatMap_append];exact⟨v,rest,_,_,rfl,rfl,ownC_own hm h3 h1 hvc.1,ownL_own hm xs rest _ h4 h2 hvc.2⟩
  ·cases hr

theorem zo6(hm:Mem c O W F η S): ∀ids:List Nat,ids.Nodup->(ids.flatMap S).Nodup
 | [],_=>by simp
 | x::l,h=>by
  rw[List.nodup_cons]at h;rw[List.flatMap_cons];refine List.nodup_append.2 ⟨hm.nd x,zo6 hm l h.2,fun a ha b hb e=> ?_⟩;subst e;obtain⟨y,hy,hb⟩:=List.mem_flatMap.1 hb;rw[hm.sep x y a ha hb]at h;exact h.1 hy

theorem bsD_sound(hm:Mem c O W F η S)(hρ: ∀x,zaL O W F η (ρ x) (a x)){dst:Nat}{tys:List (TypeId×Nat)}{t:TypeId}{len:Nat}{parts:Array (Nat×Operand)}{vc:Prop}{o':AO}{ids:List Nat}
  (h:bsD c.P tys ρ O t len parts=some (vc,o',ids)) (hvc:vc) (hf:zff dst (drop O ids)):
  ∃v W' η' S',(Instr.buildSlice t len (parts.map fun(i,x)=>(i,a x))).run c.P W= .ok v W'/\Mem c (upd (drop O ids) dst (some o')) W' F η' S'/\za7 O (upd (drop O ids) dst (some o')) η η' [dst]/\
   (∀b,F b->F b/\W'.heap[b]? =W.heap[b]?)/\zaL (upd (drop O ids) dst (some o')) W' F η' (.ar dst len) v:=by
 unfold bsD at h;split at h
 case h_2=>cases h
 rename_i e k bytes hty;obtain⟨i,z,t1,t2,t3,t4,t5,t6,t7⟩:=zeW hty;split at h
 case h_2=>cases h
 rename_i ag sz z' hlay hz;obtain⟨i',u,z1,z2,z3⟩:=zeK hz;rw[t2]at z1;cases z1;rw[t3]at z2;cases z2;split at h
 case h_2=>cases h
 rename_i vc1 cs hfill;split at h
 case h_2=>cases h
 rename_i vc2 ds ids' hown;simp only[Option.some.injEq,Prod.mk.injEq]at h;obtain⟨rfl,rfl,rfl⟩:=h;obtain⟨hvc1,hvc2,hids,hsz⟩:=hvc;subst z3;obtain⟨cells,hc1,hc2⟩:=zmt hm hρ (fun i=>some (i*k,k)) (fun i off ag n hp=>by
  grind) parts.toList _ ((List.replicate len z.cells.toList).flatten) _ (zlD z.cells.toList O η len) hfill hvc1
 have hrd:=ownL_own hm _ _ _ hc2 hown hvc2;simp only at hrd;have hcl:cells.length=len*k:=by
  have h1:=zaN.length _ _ hc2;rw[zju _ _ _ hfill]at h1;simp_all
 have hdl:ds.length=len*k:=by grind [OwnVals.length]
 have hpl:len<=maxLen:=by
  unfold maxLen;have:len*1<=len*k:=Nat.mul_le_mul_left len t7;omega
 have hrun:(Instr.buildSlice t len (parts.map fun(i,x)=>(i,a x))).run c.P W= .ok (.slice (some ⟨W.heap.size,0,none⟩) len len) (W.alloc (.cells cells.toArray e)):=by
  have hparts:(parts.map fun(i,x)=>(i,a x)).toList =parts.toList.map fun p=>(p.1,a p.2):=by simp
  by_cases h0:len=0
  ·subst h0;have hcells:cells=[]:=List.eq_nil_of_length_eq_zero (by omega);subst hcells;simp only[List.replicate_zero,List.flatten_nil]at hc1;have h0:Array.range 0=#[]:=rfl;simp[Instr.buildSlice,run_underlying t1,sizeOf,typeInfo,t2,newRow,t5,h0,hc1]
  grind [run_buildSlice,Nat.mul_eq_zero,zmX]
 obtain⟨O',hO'⟩: ∃O',upd (drop O ids') dst (some (.arr e k (.deep tys []) (zgF k len ds)))=O':=⟨_,rfl⟩;rw[hO'];have e1:O' dst=some (.arr e k (.deep tys []) (zgF k len ds)):=by rw[<-hO']; simp[upd]
 have e2: ∀x,x≠dst->O' x=drop O ids' x:=fun x hx=>by rw[<-hO']; simp[upd,hx]
 have hlen:(zgF k len ds).length =len:=zdZ k len ds;have hold: ∀j,j<W.heap.size->(W.alloc (.cells cells.toArray e)).heap[j]? =W.heap[j]? :=fun j hj=>Below.heap_alloc W _ j hj;have hk:za7 O O' η (upd η dst (.slice (some ⟨W.heap.size,0,none⟩) len len)) [dst]:=by
  intro x o ho;by_cases hx:x=dst
  ·simp_all
  ·right;rw[e2 x hx]at ho;unfold drop at ho;split at ho
   ·cases ho
   ·refine⟨o,ho,?_⟩;cases o <;> simp[upd,hx]
 obtain⟨m1,m2⟩:=Mem.update (W':=W.alloc (.cells cells.toArray e)) (F':=F) (O':=O') (η':=upd η dst (.slice (some ⟨W.heap.size,0,none⟩) len len))
  (S':=fun x=>if x=dst then W.heap.size::ids'.flatMap S else if x∈ids' then []else S x) hm (fun x=>x=dst\/x∈ids') [dst] rfl rfl rfl (by simp) (fun j hj _=>hold j hj) (fun _ h=>h) (fun _ h=>.inl h)
  (fun x hx=>by
   grind [drop,upd])
  (fun x hx j hj=>by
   by_cases hd:x=dst
   ·simp only[hd,if_true]at hj;rcases List.mem_cons.1 hj with rfl | hj
    ·exact⟨fun hF=>by have:=hm.flt _ hF; omega,.inr ⟨Nat.le_refl _,by simp⟩⟩
    ·obtain⟨y,hy,hj⟩:=List.mem_flatMap.1 hj;exact⟨(hm.apart y j hj).1,.inl ⟨y,.inr hy,hj⟩⟩
   simp_all)
  (fun x y j hx hy hjx hjy=>by
   grind)
  (fun x hx=>by
   by_cases hd:x=dst
   ·simp only[hd,if_true];refine List.nodup_cons.2 ⟨fun h=> ?_,zo6 hm ids' hids⟩;obtain⟨y,hy,hj⟩:=List.mem_flatMap.1 h;have:=(hm.apart y _ hj).2.1;omega
   simp_all)
  (fun x hx ho=>by
   grind)
  hk (fun x o ho hx=>hf.2 x o (by grind [drop]))
  (fun x o hx ho hF=>by
   by_cases hd:x=dst
   ·subst hd;rw[e1]at ho;cases ho;simp only[if_true];refine(zfv.congr (fun xs vs s=>ziZ xs 0 vs s)).2 ⟨by omega,zny k len ds hdl,.inr ⟨W.heap.size,len,cells.toArray,ids'.flatMap S,by simp[upd,hlen],heap_alloc_new W _,by omega,hpl,by omega,rfl,?_⟩⟩;rw[zhs k len ds hdl,hlen,<-hcl,List.take_length];refine OwnVals.mono _ _ _ (fun x v s' hs'=>Own.mono (fun b hb=>⟨hb,hold b (hm.flt b hb)⟩) tys x v s' (fun b hb=>hold b ?_)) hrd;obtain⟨y,hy,hj⟩:=List.mem_flatMap.1 (hs' b hb);exact(hm.apart y b hj).2.1
   grind [drop])
  (fun x lim fam stop l rest hx ho=>by
   grind [drop])
 grind [zaL,upd]
end
end Go.Aw
