/- Machinery. Conditions: those of each. -/
import Derived.Test.YtplfjjgkbnolhaaGreatDoorGQv
import Derived.Laws.CopyRow
set_option linter.unusedSimpArgs false
set_option linter.unusedVariables false
/-
 STORES INTO OWN VARIABLES AND OWN ARRAYS.
 Conditions: those of 'stE'; over any program.
-/
namespace Go.Aw
open Go.RowKit

def stE(P:Program)(ρ:Operand->AV)(O:zbI)(t:TypeId)(x v:Operand):Option (Prop×Nat×AO):=
 match lay P t with
 | some (ag,n)=>match cellsOf ag (ρ v)with
  | some xs=>match ρ x with
   | .bp id off=>match O id with
    | some (.box cs)=>some ((xs.length=n/\off+n<=cs.length)/\ones O xs,id,.box (cs.take off++xs++cs.drop (off+n)))
    | _=>none
   | .ep id m i off=>match O id,zwy xs with
    | some (.arr e k .flat es),some ds=>some ((xs.length=n/\m=es.length/\i<es.length/\off+n<=k)/\ones O xs,id,.arr e k .flat (es.set i ((es.getD i []).take off++ds++(es.getD i []).drop (off+n))))
    | _,_=>none
   | _=>none
  | none=>none
 | none=>none

theorem zcb{α:Type}(f:Nat->α)(i:Nat):upd f i (f i)=f:=by
 funext j; simp only[upd]; split
 ·rename_i h; rw[h]
 ·rfl

theorem zgh(w:World)(g:Nat)(c:Array Value):(w.setRow g c).os =w.os/\(w.setRow g c).tape =w.tape/\(w.setRow g c).output =w.output/\(w.setRow g c).heap.size =w.heap.size:=by
 refine⟨rfl,rfl,rfl,?_⟩;simp[World.setRow]

section
variable {c:Ctx} {O:zbI} {W:World} {F:Nat->Prop} {η:Nat->Value} {S:Nat->List Nat} {ρ:Operand->AV} {a:Operand->Value}

theorem zjD(hm:Mem c O W F η S): ∀(xs:List AV) (vs:List Value),zaN O W F η xs vs->ones O xs-> ∀v∈vs,v.oneCell'=true
 | [],vs,h,_,v,hv=>by simp only[zaN]at h; subst h; simp at hv
 | x::xs,vs,h,h1,v,hv=>by
  simp only[zaN]at h;obtain⟨u,rest,rfl,h2,h3⟩:=h;rcases List.mem_cons.1 hv with rfl | hv
  ·refine cells_one (ztG hm h2 h1.1) (fun us e=> ?_);subst e;cases x with
   | d y=>
    cases y with
    | lit w=>simp only[zaL,Rd]at h2; subst h2; have:=h1.1; simp[AV.one,D.one,Value.oneCell']at this
    | agg _=>have:=h1.1; simp[AV.one,D.one]at this
    | sl es=>simp only[zaL,Rd]at h2; obtain⟨⟨_,_,h,_⟩,_⟩:=h2; cases h
    | ptr cs=>simp only[zaL,Rd]at h2; obtain⟨_,_,h,_⟩:=h2; cases h
    | ifc t y=>simp only[zaL,Rd]at h2; obtain⟨_,h,_⟩:=h2; cases h
    | clo f p q=>simp only[zaL,Rd]at h2; obtain⟨_,_,h,_⟩:=h2; cases h
    | mp=>simp only[zaL,Rd]at h2; obtain⟨_,_,h,_⟩:=h2; cases h
   | nils=>simp only[zaL]at h2; cases h2
   | emp=>simp only[zaL]at h2; obtain⟨_,h2⟩:=h2; cases h2
   | ar id m=>
    have h4:=h1.1;simp only[AV.one]at h4;split at h4
    ·rename_i e k dep es hO;simp only[zaL]at h2;have h5:=(h2 _ _ _ _ hO).2 h4;obtain⟨_,hrel⟩:=(hm.obj id _ hO).arr;rcases hrel.2.2 with⟨h6,_,_⟩ | ⟨g,cap,cur,s1,hη,_⟩
     ·obtain⟨ad,h6⟩:=h6; rw[h6]at h5; cases h5
     ·rw[hη]at h5; cases h5
    ·exact h4.elim
   | ep id m i off=>
    have h4:=h1.1;simp only[AV.one]at h4;split at h4
    ·rename_i e k dep es hO;simp only[zaL]at h2;obtain⟨g,len,cap,_,h6⟩:=(h2 _ _ _ _ hO).2 h4;cases h6
    ·exact h4.elim
   | bp id off=>
    have h4:=h1.1;simp only[AV.one]at h4;split at h4
    ·rename_i cs hO;simp only[zaL]at h2;obtain⟨b,_,h6⟩:=h2 _ hO;cases h6
    ·exact h4.elim
   | mo id=>
    have h4:=h1.1;simp only[AV.one]at h4;split at h4
    ·rename_i hO;simp only[zaL]at h2;obtain⟨b,h6,_⟩:=hm.obj id _ hO;have:=h2 _ hO rfl;rw[h6]at this; cases this
    ·rename_i hO;simp only[zaL]at h2;obtain⟨r,b,h6,_⟩:=hm.obj id _ hO;have:=h2 _ hO rfl;rw[h6]at this; cases this
    ·exact h4.elim
   | clo f p q=>simp only[zaL]at h2; obtain⟨_,_,h,_⟩:=h2; cases h
   | dead=>have:=h1.1; simp[AV.one]at this
   | und=>have:=h1.1; simp[AV.one]at this
   | agg _=>have:=h1.1; simp[AV.one]at this
   | tup _=>have:=h1.1; simp[AV.one]at this
   | sub=>have:=h1.1; simp[AV.one]at this
   | yv id=>
    have h4:=h1.1;simp only[AV.one]at h4;split at h4
    ·rename_i hO;simp only[zaL]at h2;have:=h2 _ _ _ _ _ hO;cases this
    ·exact h4.elim
  ·exact zjD hm xs rest h3 h1.2 v hv

theorem zq1(hm:Mem c O W F η S){ag:Bool}{x:AV}{v:Value}{cs:List AV}(h:zaL O W F η x v)(hc:cellsOf ag x=some cs)(h1:ones O cs):v.cells.size=cs.length:=by
 rw[<-Array.length_toList]; exact zaN.length _ _ (ziC hm h hc h1)

theorem zoI{P:Program}{W:World}{t:TypeId}{ag:Bool}{n:Nat}(hl:lay P t=some (ag,n)){g off:Nat}{cur:Array Value}{e:TypeId}{v:Value}(hg:W.heap[g]? =some (.cells cur e (0,0)))(hv:v.cells.size=n)
  (hfit:off+n<=cur.size) (h1: ∀u∈v.cells.toList,u.oneCell'=true):
  (Instr.storeAt t (.pointer (some ⟨g,off,none⟩)) v).run P W= .ok () (W.setRow g (cur.toList.take off++v.cells.toList++cur.toList.drop (off+n)).toArray):=by
 obtain⟨d,i,h2,h3,h4,_⟩:=ze4 hl;have hs:=run_storeCells_at P g off e v.cells.toList 0 cur W hg (by rw[Array.length_toList,hv]; omega) h1;simp only[Nat.add_zero,Array.length_toList,hv]at hs;simp[Instr.storeAt,Instr.sureAddr,storeVar,sizeOf,typeInfo,h3,h4,hv,hs]

theorem zuK: ∀(ds:List D) (vs:List Value) (s:List Nat),OwnVals (Own W F []) ds vs s↔zav W F ds vs/\s=[]
 | [],vs,s=>by simp only[OwnVals,zav]
 | d::ds,vs,s=>by
  simp only[OwnVals,zav];constructor
  ·rintro⟨v,rest,s1,s2,rfl,rfl,h1,h2⟩;obtain⟨h3,rfl⟩:=(zuK ds rest s2).1 h2;obtain⟨h4,rfl⟩:=h1;exact⟨⟨v,rest,rfl,h4,h3⟩,rfl⟩
  ·rintro⟨⟨v,rest,rfl,h1,h2⟩,rfl⟩;exact⟨v,rest,[],[],rfl,rfl,⟨h1,rfl⟩,(zuK ds rest []).2 ⟨h2,rfl⟩⟩

theorem zsK{k n off:Nat}{ds:List D}(hn:ds.length=n)(hfit:off+n<=k): ∀(es:List (List D)) (i:Nat),(∀x∈es,x.length=k)->i<es.length->
  (es.set i ((es.getD i []).take off++ds++(es.getD i []).drop (off+n))).flatten =es.flatten.take (i*k+off)++ds++es.flatten.drop (i*k+off+n)
 | [],i,_,h=>by simp at h
 | e::es,0,hk,_=>by
  have h1:e.length=k:=hk e (by simp);simp only[List.set_cons_zero,List.getD_cons_zero,List.flatten_cons,Nat.zero_mul,Nat.zero_add];rw[List.take_append_of_le_length (by omega),List.drop_append_of_le_length (by omega)];simp[List.append_assoc]
 | e::es,i+1,hk,h=>by
  have h1:e.length=k:=hk e (by simp);have ih:=zsK hn hfit es i (fun x hx=>hk x (by simp[hx])) (by simpa using h);simp only[List.set_cons_succ,List.getD_cons_succ,List.flatten_cons,ih];have e1:(i+1)*k+off=e.length+(i*k+off):=by rw[Nat.add_mul,h1]; omega
  rw[e1,show e.length+(i*k+off)+n=e.length+(i*k+off+n) by omega];rw[List.take_length_add_append,List.drop_length_add_append];simp[List.append_assoc]
theorem zd6{k:Nat}: ∀(es:List (List D)),(∀x∈es,x.length=k)->es.flatten.length=es.length*k
 | [],_=>by simp
 | e::es,h=>by
  rw[List.flatten_cons,List.length_append,zd6 es (fun x hx=>h x (by simp[hx])),h e (by simp),List.length_cons,Nat.add_mul]; omega

theorem stE_sound(hm:Mem c O W F η S)(hρ: ∀x,zaL O W F η (ρ x) (a x)){t:TypeId}{x v:Operand}{vc:Prop}{id:Nat}{o':AO}(h:stE c.P ρ O t x v=some (vc,id,o'))(hvc:vc):
  ∃W',(Instr.storeAt t (a x) (a v)).run c.P W= .ok () W'/\Mem c (upd O id (some o')) W' F η S/\za7 O (upd O id (some o')) η η []/\ ∀b,F b->F b/\W'.heap[b]? =W.heap[b]? :=by
 unfold stE at h;split at h
 case h_2=>cases h
 rename_i ag n hl;split at h
 case h_2=>cases h
 rename_i xs hxs;have hx:=hρ x;split at h
 ·rename_i id' off hid;rw[hid]at hx;split at h
  case h_2=>cases h
  rename_i cs hO;simp only[Option.some.injEq,Prod.mk.injEq]at h;obtain⟨rfl,rfl,rfl⟩:=h;obtain⟨⟨h1,h2⟩,h3⟩:=hvc;simp only[zaL]at hx;obtain⟨b,hη,hp⟩:=hx cs hO;obtain⟨b',cur,e,h4,h5,h6,h7⟩:=hm.obj id' _ hO;rw[hη]at h4;simp only[Value.pointer.injEq,Option.some.injEq,Addr.mk.injEq,and_true]at h4;subst h4;have hv:=ziC hm (hρ v) hxs h3;have hsz:=zq1 hm (hρ v) hxs h3;have hlen:=zaN.length _ _ h7;have hrun:=zoI (P:=c.P) hl (off:=off) h6 (v:=a v) (by omega) (by rw[<-Array.length_toList]; omega) (zjD hm xs _ hv h3);have hk:za7 O (upd O id' (some (.box (cs.take off++xs++cs.drop (off+n))))) η (upd η id' (η id')) []:=by
   rw[zcb];intro i o ho;by_cases hi:i=id'
   ·subst hi;simp only[upd,if_true,Option.some.injEq]at ho;subst ho;exact .inr ⟨_,hO,rfl⟩
   ·simp only[upd,if_neg hi]at ho;exact za7.refl O η i o ho
  have hset:=setRow_heap W b cur (cur.toList.take off++(a v).cells.toList ++cur.toList.drop (off+n)).toArray e (0,0) h6;obtain⟨f1,f2,f3,f4⟩:=zgh W b (cur.toList.take off++(a v).cells.toList ++cur.toList.drop (off+n)).toArray;obtain⟨m1,m2⟩:=Mem.change (F':=F) hm id' (some (.box (cs.take off++xs++cs.drop (off+n)))) (η id') (S id') [] f1 f2 f3 (by omega)
   (fun k _ hk=>setRow_other W b k _ (by rintro rfl; exact hk (by rw[h5]; simp))) (fun _ h=>h) (fun _ h=>.inl h) (fun k hk=>(hm.apart id' k hk).1) (hm.nd id') (fun k hk=>.inl hk) (fun h=>by cases h) hk
   (fun i o _ _=>AO.noRef_nil o)
   (fun o ho hF=>by
    cases ho;refine⟨b,_,e,hη,h5,hset,?_⟩;have:zaN O W F η (cs.take off++xs++cs.drop (off+n)) (cur.toList.take off++(a v).cells.toList ++cur.toList.drop (off+n)):=
     (zaN.append _ _ _).2 ⟨_,_,rfl,(zaN.append _ _ _).2 ⟨_,_,rfl,zaN.take _ _ off h7,hv⟩,zaN.drop _ _ (off+n) h7⟩
    exact zaN.pres hk hF _ _ (AV.noRefs_nil _) this)
  rw[zcb,zcb]at m1;rw[zcb]at hk;exact⟨_,by rw[hp]; exact hrun,m1,hk,m2⟩
 ·rename_i id' m i off hid;rw[hid]at hx;split at h
  case h_2=>cases h
  rename_i e k es ds hO hds;simp only[Option.some.injEq,Prod.mk.injEq]at h;obtain⟨rfl,rfl,rfl⟩:=h;obtain⟨⟨h1,hmm,hi,hfit⟩,h3⟩:=hvc;simp only[zaL]at hx;obtain⟨g,len,cap,hη,hp⟩:=(hx _ _ _ _ hO).2 hmm;have hrel:=hm.obj id' _ hO;have hv:=ziC hm (hρ v) hxs h3;have hsz:=zq1 hm (hρ v) hxs h3;obtain⟨r1,r2,r3⟩:=hrel;rcases r3 with⟨_,r5,_⟩ | ⟨g',cap',cur,s1,r4,hh,a1,a2,a3,a4,a5⟩
  ·rw[r5]at hi; simp at hi
  rw[hη]at r4;simp only[Value.slice.injEq,Option.some.injEq,Addr.mk.injEq,and_true]at r4;obtain⟨rfl,rfl,rfl⟩:=r4;obtain⟨a6,rfl⟩:=(zuK _ _ _).1 a5;have hxs':=zj2 xs ds hds;have hv':zav W F ds (a v).cells.toList :=by rw[hxs',zaN.of_ds]at hv; exact hv
  have hdl:ds.length=n:=by rw[<-h1,hxs']; simp
  have hcur:i*k+k<=es.length*k:=by rw[<-Nat.succ_mul]; exact Nat.mul_le_mul_right k hi
  have hcap:es.length*k<=cur.size:=by rw[a3]; exact Nat.mul_le_mul_right k a1
  have hrun:=zoI (P:=c.P) hl (off:=i*k+off) hh (v:=a v) (by omega) (by omega) (zjD hm xs _ hv h3);have hlen':(es.set i ((es.getD i []).take off++ds++(es.getD i []).drop (off+n))).length =es.length:=by simp
  have hel:(es.getD i []).length =k:=r2 _ (by rw[List.getD,List.getElem?_eq_getElem hi]; simp);have hk:za7 O (upd O id' (some (.arr e k .flat (es.set i ((es.getD i []).take off++ds++(es.getD i []).drop (off+n)))))) η (upd η id' (η id')) []:=by
   rw[zcb];intro j o ho;by_cases hj:j=id'
   ·subst hj;simp only[upd,if_true,Option.some.injEq]at ho;subst ho;refine .inr ⟨_,hO,?_⟩;simp
   ·simp only[upd,if_neg hj]at ho;exact za7.refl O η j o ho
  have hset:=setRow_heap W g cur (cur.toList.take (i*k+off)++(a v).cells.toList ++cur.toList.drop (i*k+off+n)).toArray e (0,0) hh;obtain⟨f1,f2,f3,f4⟩:=zgh W g (cur.toList.take (i*k+off)++(a v).cells.toList ++cur.toList.drop (i*k+off+n)).toArray;obtain⟨m1,m2⟩:=Mem.change (F':=F) hm id' (some (.arr e k .flat (es.set i ((es.getD i []).take off++ds++(es.getD i []).drop (off+n))))) (η id') (S id') [] f1 f2 f3 (by omega)
   (fun j _ hj=>setRow_other W g j _ (by rintro rfl; exact hj (by rw[a4]; simp))) (fun _ h=>h) (fun _ h=>.inl h) (fun j hj=>(hm.apart id' j hj).1) (hm.nd id') (fun j hj=>.inl hj) (fun h=>by cases h) hk
   (fun j o _ _=>AO.noRef_nil o)
   (fun o ho hF=>by
    cases ho;refine⟨by rw[hlen']; exact r1,fun x hx=> ?_,.inr ⟨g,cap,_,[],by rw[hlen']; exact hη,hset,by rw[hlen']; exact a1,a2,?_,a4,?_⟩⟩
    ·rcases List.mem_or_eq_of_mem_set hx with hx | rfl
     ·exact r2 x hx
     ·simp only[List.length_append,List.length_take,List.length_drop,hel,hdl]; omega
    ·simp only[List.size_toArray,List.length_append,List.length_take,List.length_drop,Array.length_toList,hsz];omega
    ·rw[zuK,hlen',zsK hdl hfit es i r2 hi];refine⟨?_,rfl⟩;have hfl:=zd6 es r2;have e1:(cur.toList.take (i*k+off)++(a v).cells.toList ++cur.toList.drop (i*k+off+n)).toArray.toList.take (es.length*k)=
       (cur.toList.take (es.length*k)).take (i*k+off)++(a v).cells.toList ++(cur.toList.take (es.length*k)).drop (i*k+off+n):=by
      simp only[List.append_assoc];have l1:(cur.toList.take (i*k+off)).length =i*k+off:=(by rw[List.length_take,Array.length_toList]; omega);rw[List.take_append,List.take_append];rw[List.take_take,List.take_take];rw[show min (es.length*k) (i*k+off)=i*k+off by omega,show min (i*k+off) (es.length*k)=i*k+off by omega,l1];have l2:(a v).cells.toList.length =n:=(by rw[Array.length_toList,hsz,h1]);rw[List.take_of_length_le (i:=es.length*k-(i*k+off)) (l:=(a v).cells.toList) (by omega)];rw[l2,List.drop_take];rw[show es.length*k-(i*k+off)-n=es.length*k-(i*k+off+n) by omega]
     rw[e1];have:=(zav.append _ _ _).2 ⟨_,_,rfl,(zav.append _ _ _).2 ⟨_,_,rfl,zav.take es.flatten _ (i*k+off) a6,hv'⟩,zav.drop es.flatten _ (i*k+off+n) a6⟩;exact zav.mono hF _ _ this)
  rw[zcb,zcb]at m1;rw[zcb]at hk;exact⟨_,by rw[hp]; exact hrun,m1,hk,m2⟩
 ·cases h
end
end Go.Aw
