/- Machinery. Conditions: those of each. -/
import Derived.Test.YtplfjjgkbnolhaaGreatDoorGX
import Derived.Test.YtplfjjgkbnolhaaGreatDoorGMs
import Derived.Lib.SliceRun
set_option linter.unusedSimpArgs false
set_option linter.unusedVariables false
/-
 APPEND INTO THE MIDDLE OF AN OWN ARRAY: append(s[:i], s[j:]...): the array goes, a shorter one in its memory comes.
 Conditions: those of each law; over any program.
-/
namespace Go.Aw
open Go.RowKit

def zyW:Array Value->Nat->List Value->Array Value
 | cur,_,[]=>cur
 | cur,o,v::r=>zyW (cur.setIfInBounds o v) (o+1) r
theorem ztU: ∀(vs:List Value) (cur:Array Value) (o:Nat),(zyW cur o vs).size =cur.size
 | [],_,_=>rfl
 | v::r,cur,o=>by rw[zyW,ztU r,Array.size_setIfInBounds]
theorem zx9: ∀(vs:List Value) (cur:Array Value) (o:Nat),o+vs.length<=cur.size->(zyW cur o vs).toList =cur.toList.take o++vs++cur.toList.drop (o+vs.length)
 | [],cur,o,_=>by simp[zyW]
 | v::r,cur,o,h=>by
  rw[List.length_cons]at h;have ho:o<cur.toList.length:=by grind
  have hl:(cur.toList.take o).length =o:=by grind
  rw[zyW,zx9 r _ _ (by grind),Array.toList_setIfInBounds,List.set_eq_take_append_cons_drop,if_pos ho];rw[List.take_append,List.drop_append,hl];rw[List.take_of_length_le (show(cur.toList.take o).length <=o+1 by omega),List.drop_eq_nil_of_le (show(cur.toList.take o).length <=o+1+r.length by omega)];rw[show o+1-o=1 by omega,show o+1+r.length-o=r.length+1 by omega];simp only[List.take_succ_cons,List.take_zero,List.drop_succ_cons,List.drop_drop,List.nil_append,List.append_assoc,List.cons_append,List.length_cons];grind
theorem zoK(b:Nat): ∀(vs:List Value) (o:Nat) (w:World) (cur:Array Value) (e:TypeId) (fr:Nat×Nat),w.heap[b]? =some (.cells cur e fr)->(w.setCells b o vs).heap[b]? =some (.cells (zyW cur o vs) e fr)
 | [],_,_,_,_,_,h=>h
 | v::r,o,w,cur,e,fr,h=>by
  rw[World.setCells,zyW];refine zoK b r (o+1) _ _ e fr ?_;show(w.heap.modify b _)[b]? =_;rw[Array.getElem?_modify,if_pos rfl,h];simp
theorem zlH(b:Nat): ∀(vs:List Value) (o:Nat) (w:World) (b':Nat),b'≠b->(w.setCells b o vs).heap[b']? =w.heap[b']?
 | [],_,_,_,_=>rfl
 | v::r,o,w,b',h=>by
  rw[World.setCells,zlH b r _ _ b' h];show(w.heap.modify b _)[b']? =_;rw[Array.getElem?_modify,if_neg (Ne.symm h)]
theorem zlI(b:Nat): ∀(vs:List Value) (o:Nat) (w:World),(w.setCells b o vs).os =w.os/\(w.setCells b o vs).tape =w.tape/\(w.setCells b o vs).output =w.output/\(w.setCells b o vs).heap.size =w.heap.size
 | [],_,_=>⟨rfl,rfl,rfl,rfl⟩
 | v::r,o,w=>by
  rw[World.setCells];obtain⟨h1,h2,h3,h4⟩:=zlI b r (o+1) (w.setCell ⟨b,o,none⟩ v);exact⟨h1,h2,h3,h4.trans (World.size_setCell ..)⟩

section
variable {c:Ctx} {O:zbI} {W:World} {F:Nat->Prop} {η:Nat->Value} {S:Nat->List Nat} {ρ:Operand->AV} {a:Operand->Value}

theorem znz{W:World}{F:Nat->Prop}{k:Nat}{l:List (List D)}{vs:List Value}(hk: ∀x∈l,x.length=k)(h:zav W F l.flatten vs)(i:Nat)(hi:i<=l.length):
  zav W F (l.take i).flatten (vs.take (i*k))/\zav W F (l.drop i).flatten (vs.drop (i*k)):=by
 rw[<-List.take_append_drop i l,List.flatten_append]at h;obtain⟨a,b,rfl,h1,h2⟩:=(zav.append _ _ _).1 h;have hlen: ∀m:List (List D),(∀x∈m,x.length=k)->m.flatten.length=m.length*k:=by
  intro m
  induction m with
  | nil=>intro _; simp
  | cons x m ih=>
   intro hm;rw[List.flatten_cons,List.length_append,ih (fun y hy=>hm y (List.mem_cons_of_mem _ hy)),hm x List.mem_cons_self,List.length_cons,Nat.add_mul,Nat.one_mul,Nat.add_comm]
 have ha:a.length=i*k:=by
  rw[zav.length _ _ h1,hlen _ (fun x hx=>hk x (List.mem_of_mem_take hx)),List.length_take,Nat.min_eq_left hi]
 rw[List.take_left' ha,List.drop_left' ha];exact⟨h1,h2⟩

def apS(P:Program)(dst:Nat)(ρ:Operand->AV)(O:zbI)(t:TypeId)(s x:Operand):Option (Prop×AV×Nat×AO×List Nat×Bool):=
 match zdj P t,ρ s,ρ x with
 | some (e,k,_),.sub id n lo hi,.sub id2 n2 lo2 hi2=>match O id with
  | some (.arr e' k' .flat es)=>
   some ((id2=id/\n=es.length/\n2=es.length/\lo=0/\hi<=lo2/\lo2<=es.length/\hi2=es.length)/\(e'=e/\k'=k)/\zcY k (es.drop lo2),
    .ar dst (hi+(es.length-lo2)),dst,.arr e k .flat (es.take hi++es.drop lo2),[id],true)
  | _=>none
 | _,_,_=>none

theorem Mem.moveArr(hm:Mem c O W F η S){id dst:Nat}{e:TypeId}{k:Nat}{es es':List (List D)}(hO:O id=some (.arr e k .flat es)){g cap:Nat}(hS:S id=[g]){W':World}{cur':Array Value}(hf:zff dst (drop O [id]))
  (h1:W'.os=W.os) (h2:W'.tape=W.tape) (h3:W'.output=W.output) (h4:W'.heap.size=W.heap.size) (hW: ∀b,b≠g->W'.heap[b]? =W.heap[b]?) (hg:W'.heap[g]? =some (.cells cur' e (0,0)))
  (hk: ∀x∈es',x.length=k) (hlen:es'.length<=cap) (hcap:cap<=maxLen) (hsz:cur'.size=cap*k) (hrd:zav W F es'.flatten (cur'.toList.take (es'.length*k))):
  ∃η' S',η' dst= .slice (some ⟨g,0,none⟩) es'.length cap/\Mem c (upd (drop O [id]) dst (some (.arr e k .flat es'))) W' F η' S'/\za7 O (upd (drop O [id]) dst (some (.arr e k .flat es'))) η η' [dst]/\ ∀b,F b->F b/\W'.heap[b]? =W.heap[b]? :=by
 have hkp:za7 O (upd (drop O [id]) dst (some (.arr e k .flat es'))) η (upd η dst (.slice (some ⟨g,0,none⟩) es'.length cap)) [dst]:=
  (za7.drop O η [id]).trans (za7.newA (drop O [id]) η dst _ _) (by simp)
 have hgF: ¬F g:=(hm.apart id g (by rw[hS]; simp)).1;obtain⟨m1,m2⟩:=Mem.update (O':=upd (drop O [id]) dst (some (.arr e k .flat es'))) (W':=W') (F':=F) (η':=upd η dst (.slice (some ⟨g,0,none⟩) es'.length cap)) (S':=fun j=>if j=dst then [g]else if j=id then []else S j)
  hm (fun j=>j=id\/j=dst) [dst] h1 h2 h3 (by omega) (fun b _ hb=>hW b (fun e=>hb id (.inl rfl) (by rw[hS,e]; simp))) (fun _ h=>h) (fun _ h=>.inl h)
  (fun j hj=>by
   obtain⟨j1,j2⟩:=not_or.1 hj;simp[upd,drop,j1,j2])
  (fun j hj b hb=>by
   by_cases e1:j=dst
   ·simp only[e1,if_true,List.mem_singleton]at hb;subst hb;exact⟨hgF,.inl ⟨id,.inl rfl,by rw[hS]; simp⟩⟩
   ·have e2:=hj.resolve_right e1;rw[if_neg e1,if_pos e2]at hb;cases hb)
  (fun i j b hi hj h5 h6=>by
   have key: ∀j,(j=id\/j=dst)->b∈(if j=dst then [g]else if j=id then []else S j)->j=dst:=by
    intro j hj h;by_cases e1:j=dst
    ·exact e1
    ·rw[if_neg e1,if_pos (hj.resolve_right e1)]at h; cases h
   exact(key i hi h5).trans (key j hj h6).symm)
  (fun j hj=>by
   by_cases e1:j=dst
   ·simp[e1]
   ·show(if j=dst then [g]else if j=id then []else S j).Nodup;rw[if_neg e1,if_pos (hj.resolve_right e1)];exact List.nodup_nil)
  (fun j hj h=>by
   by_cases e1:j=dst
   ·simp[upd,e1]at h
   ·show(if j=dst then [g]else if j=id then []else S j)=[];rw[if_neg e1,if_pos (hj.resolve_right e1)])
  hkp
  (fun j o ho hj=>hf.2 j o (by simp only[drop,List.mem_singleton,if_neg (not_or.1 hj).1]; exact ho))
  (fun j o hj ho hF=>by
   by_cases e1:j=dst
   ·subst e1;simp only[upd,if_true,Option.some.injEq]at ho ⊢;subst ho;refine⟨by omega,hk,.inr ⟨g,cap,cur',[],rfl,hg,hlen,hcap,hsz,rfl,(zuK _ _ _).2 ⟨zav.mono hF _ _ hrd,rfl⟩⟩⟩
   ·have e2:=hj.resolve_right e1;simp only[upd,drop,if_neg e1,List.mem_singleton,if_pos e2]at ho;cases ho)
  (fun j lim fam stop l rest hj ho=>by
   by_cases e1:j=dst
   ·simp[upd,e1]at ho
   ·have e2:=hj.resolve_right e1;simp only[upd,drop,if_neg e1,List.mem_singleton,if_pos e2]at ho;cases ho)
 exact⟨_,_,by simp[upd],m1,hkp,m2⟩

theorem apS_sound(hm:Mem c O W F η S)(hρ: ∀x,zaL O W F η (ρ x) (a x)){dst:Nat}{t:TypeId}{s x:Operand}{vc:Prop}{V:AV}{id:Nat}{o':AO}{ids:List Nat}{isNew:Bool}
  (h:apS c.P dst ρ O t s x=some (vc,V,id,o',ids,isNew)) (hvc:vc) (hf:isNew=true->zff dst (drop O ids)) (ty:TypeId):
  ∃v W' η' S',(Builtin.append_ #[t,t] ty #[a s,a x]).run c.P W= .ok v W'/\Mem c (upd (drop O ids) id (some o')) W' F η' S'/\za7 O (upd (drop O ids) id (some o')) η η' (if isNew then [dst]else [])/\
   (∀b,F b->F b/\W'.heap[b]? =W.heap[b]?)/\zaL (upd (drop O ids) id (some o')) W' F η' V v:=by
 unfold apS at h;split at h
 case h_2=>cases h
 rename_i e k bytes id' n lo hi id2 n2 lo2 hi2 hty hs0 hx0;split at h
 case h_2=>cases h
 rename_i e' k' es hO;simp only[Option.some.injEq,Prod.mk.injEq]at h;obtain⟨rfl,rfl,rfl,rfl,rfl,rfl⟩:=h;obtain⟨⟨rfl,rfl,rfl,rfl,hle,hle2,rfl⟩,⟨rfl,rfl⟩,hrows⟩:=hvc;obtain⟨i,z,t1,t2,t3,t4,t5,t6,t7⟩:=zeW hty;have hs:=hρ s;rw[hs0]at hs;have hx:=hρ x;rw[hx0]at hx;simp only[zaL]at hs hx;obtain⟨g0,len0,cap0,q1,q2⟩:=(hs _ _ _ _ hO).2 rfl;obtain⟨g1,len1,cap1,q3,q4⟩:=(hx _ _ _ _ hO).2 rfl;have hfr:=hf rfl;obtain⟨r1,r2,r3⟩:=hm.obj id2 _ hO;have hfin: ∀(W':World) (η':Nat->Value) (cap:Nat),η' dst= .slice (some ⟨g0,0,none⟩) (es.take hi++es.drop lo2).length cap->zaL (upd (drop O [id2]) dst (some (.arr e' k' .flat (es.take hi++es.drop lo2)))) W' F η' (.ar dst (hi+(es.length-lo2))) (.slice (some ⟨g0,0,none⟩) (es.take hi++es.drop lo2).length cap):=by
  intro W' η' cap hη;simp only[zaL];intro e2 k2 d2 es2 ho;simp only[upd,if_true,Option.some.injEq,AO.arr.injEq]at ho;obtain⟨_,_,_,rfl⟩:=ho;exact⟨by simp; omega,fun _=>hη.symm⟩
 have hlen':(es.take hi++es.drop lo2).length =hi+(es.length-lo2):=by
  rw[List.length_append,List.length_take,List.length_drop]; omega
 rcases r3 with⟨r4,rfl,r6⟩ | ⟨g,cap,cur,s1,r4,hh,a1,a2,a3,a4,a5⟩
 ·-- without elements
  obtain⟨ad,r4⟩:=r4;simp only[List.length_nil]at hle2 q2 q4;have e1:lo2=0:=by omega
  have e2:hi=0:=by omega
  subst e1 e2;rw[r4]at q1 q3;simp only[Value.slice.injEq]at q1 q3;obtain⟨rfl,rfl,rfl⟩:=q1;obtain⟨_,rfl,rfl⟩:=q3;rw[q2,q4];have hk:=za7.newA (drop O [id2]) η dst (.arr e' k' .flat []) (.slice (some ⟨g0,0,none⟩) 0 0);obtain⟨hm1,_⟩:=hm.dropL (F':=F) [id2] (Below.refl _ _) (fun _ h=>h) (fun _ h=>.inl h);obtain⟨m1,m2⟩:=Mem.change (W':=W) (F':=F) hm1 dst (some (.arr e' k' .flat [])) (.slice (some ⟨g0,0,none⟩) 0 0) [] [dst] rfl rfl rfl (Nat.le_refl _) (fun _ _ _=>rfl) (fun _ h=>h) (fun _ h=>.inl h) (by simp) (by simp) (by simp) (fun _=>rfl) hk
   (fun i o ho _=>hfr.2 i o ho) (fun o ho _=>by cases ho; exact⟨by simp,by simp,.inl ⟨⟨_,rfl⟩,rfl,rfl⟩⟩)
  refine⟨_,W,_,_,by simpa using zfm t1 t2 (some ⟨g0,0,none⟩) 0 0 (Nat.le_refl _) _ _,m1,(za7.drop O η [id2]).trans hk (by simp),m2,?_⟩;exact hfin W _ 0 (by simp[upd])
 ·obtain⟨a6,rfl⟩:=(zuK _ _ _).1 a5;rw[r4]at q1 q3;simp only[Value.slice.injEq,Option.some.injEq,Addr.mk.injEq,and_true]at q1 q3;obtain⟨rfl,rfl,rfl⟩:=q1;obtain⟨rfl,_,rfl⟩:=q3;have hfl:=zd6 es r2;have hcur:es.length*k'<=cur.size:=by rw[a3]; exact Nat.mul_le_mul_right k' a1
  obtain⟨c0,hc0⟩: ∃c0,cur.toList.take (es.length*k')=c0:=⟨_,rfl⟩;have hc0l:c0.length=es.length*k':=by
   rw[<-hc0,List.length_take,show cur.toList.length=cur.size from Array.length_toList]; omega
  rw[hc0]at a6;have rt:zav W F (es.take hi).flatten (c0.take (hi*k')):=by
   have:=(znz r2 a6 hi (by omega)).1;exact this
  have rd:zav W F (es.drop lo2).flatten (c0.drop (lo2*k')):=(znz r2 a6 lo2 hle2).2;have hk': ∀y∈es.take hi++es.drop lo2,y.length=k':=by
   intro y hy;rcases List.mem_append.1 hy with hy | hy
   ·exact r2 y (List.mem_of_mem_take hy)
   ·exact r2 y (List.mem_of_mem_drop hy)
  have hqs:a s= .slice (some ⟨g,0,none⟩) hi cap:=by rw[q2]; simp
  have hnl:(c0.drop (lo2*k')).length =(es.length-lo2)*k':=by rw[List.length_drop,hc0l,Nat.sub_mul]
  by_cases h0:es.length-lo2=0
  ·have e1:lo2=es.length:=by omega
   have hnil:es.drop lo2=[]:=by rw[e1]; exact List.drop_length
   have hrd':zav W F (es.take hi++es.drop lo2).flatten (cur.toList.take ((es.take hi++es.drop lo2).length *k')):=by
    rw[hnil,List.append_nil,List.length_take,Nat.min_eq_left (by omega)];have:cur.toList.take (hi*k')=c0.take (hi*k'):=by
     rw[<-hc0,List.take_take,Nat.min_eq_left (Nat.mul_le_mul_right k' (by omega))]
    rw[this]; exact rt
   obtain⟨η',S',k1,k2,k3,k4⟩:=hm.moveArr (cap:=cap) (W':=W) (cur':=cur) hO a4 hfr rfl rfl rfl rfl (fun _ _=>rfl) hh hk' (by rw[hlen']; omega) a2 a3 hrd';refine⟨_,W,η',S',by rw[hqs,q4,h0]; exact zfm t1 t2 (some ⟨g,0,none⟩) hi cap (by omega) _ _,k2,k3,k4,?_⟩;have:=hfin W η' cap k1;rw[hlen',h0,Nat.add_zero]at this;rw[h0,Nat.add_zero];exact this
  ·rw[if_neg (by omega)]at q4;have hfit:hi*k'+(c0.drop (lo2*k')).length <=cur.size:=by
    rw[hnl,<-Nat.add_mul];exact Nat.le_trans (Nat.mul_le_mul_right k' (by omega)) hcur
   have hrun:=run_append_room (P:=c.P) W t ty e' i t1 t2 g hi cap cur hh ⟨g,lo2*k',none⟩ (es.length-lo2) (cap-lo2) (c0.drop (lo2*k')) (by rw[t5]; exact hnl)
    (fun j v hj=>by
     rw[Addr.add_lit];rw[List.getElem?_drop,<-hc0,List.getElem?_take]at hj;split at hj
     ·simp only[World.cell?,hh]; simpa using hj
     ·cases hj)
    (zg6 _ _ rd (fun x hx=>by obtain⟨y,hy,hxy⟩:=List.mem_flatten.1 hx; exact(hrows y hy).2 x hxy)) (by omega) (by rw[t5]; exact hfit)
   rw[t5]at hrun;obtain⟨cur',hcur'⟩: ∃cur',(cur.toList.take (hi*k')++c0.drop (lo2*k')++cur.toList.drop (hi*k'+(c0.drop (lo2*k')).length)).toArray =cur':=⟨_,rfl⟩;rw[hcur']at hrun;have hset:=setRow_heap W g cur cur' e' (0,0) hh;obtain⟨f1,f2,f3,f4⟩:=zgh W g cur';have htk:(cur.toList.take (hi*k')).length =hi*k':=by
    rw[List.length_take,show cur.toList.length=cur.size from Array.length_toList];have:=Nat.mul_le_mul_right k' (show hi<=es.length by omega);omega
   have hsz':cur'.size=cap*k':=by
    rw[<-hcur'];simp only[List.size_toArray,List.length_append,List.length_drop,htk,Array.length_toList,hc0l]at hfit ⊢;omega
   have hrd':zav W F (es.take hi++es.drop lo2).flatten (cur'.toList.take ((es.take hi++es.drop lo2).length *k')):=by
    have e1:cur'.toList.take ((es.take hi++es.drop lo2).length *k')=c0.take (hi*k')++c0.drop (lo2*k'):=by
     rw[<-hcur'];have e2:cur.toList.take (hi*k')=c0.take (hi*k'):=by
      rw[<-hc0,List.take_take,Nat.min_eq_left (Nat.mul_le_mul_right k' (by omega))]
     show(cur.toList.take (hi*k')++c0.drop (lo2*k')++_).take _=_;rw[zEU _ _ _ (by rw[List.length_append,htk,hnl,hlen',Nat.add_mul]),e2]
    rw[e1,List.flatten_append];exact(zav.append _ _ _).2 ⟨_,_,rfl,rt,rd⟩
   obtain⟨η',S',k1,k2,k3,k4⟩:=hm.moveArr (cap:=cap) (W':=W.setRow g cur') (cur':=cur') hO a4 hfr f1 f2 f3 f4 (fun b hb=>setRow_other W g b _ hb) hset hk' (by rw[hlen']; omega) a2 hsz' hrd';refine⟨_,_,η',S',by rw[hqs,q4]; exact hrun,k2,k3,k4,?_⟩;have:=hfin (W.setRow g cur') η' cap k1;rw[hlen']at this;exact this

def clE(P:Program)(ρ:Operand->AV)(O:zbI)(t:TypeId)(x:Operand):Option (Prop×AV×Nat×AO×List Nat×Bool):=
 match zdj P t,ρ x with
 | some (e,k,_),.sub id n lo hi=>match O id,(zad P e).bind fun z=>zwy (z.map zdB)with
  | some (.arr e' k' .flat es),some ds=>some ((n=es.length/\lo<=hi/\hi<=es.length)/\(e'=e/\k'=k)/\zcY k [ds],
    .tup [],id,.arr e k .flat (es.take lo++List.replicate (hi-lo) ds++es.drop hi),[],false)
  | _,_=>none
 | _,_=>none
theorem za7.same_len{e:TypeId}{k:Nat}{es es':List (List D)}{id:Nat}(hO:O id=some (.arr e k .flat es))(hl:es'.length=es.length):za7 O (upd O id (some (.arr e k .flat es'))) η η []:=by
 intro id' o' ho;by_cases hd:id'=id
 ·subst hd;simp only[upd,if_true,Option.some.injEq]at ho;subst ho;exact .inr ⟨_,hO,by omega,fun _=>⟨rfl,rfl,rfl⟩⟩
 ·simp only[upd,if_neg hd]at ho;refine .inr ⟨o',ho,?_⟩;cases o' <;> simp
theorem clE_sound(hm:Mem c O W F η S)(hρ: ∀x,zaL O W F η (ρ x) (a x)){t:TypeId}{x:Operand}{vc:Prop}{V:AV}{id:Nat}{o':AO}{ids:List Nat}{isNew:Bool}
  (h:clE c.P ρ O t x=some (vc,V,id,o',ids,isNew)) (hvc:vc) (ty:TypeId):
  (ids=[]/\isNew=false)/\ ∃v W',(Builtin.clear_ #[t] ty #[a x]).run c.P W= .ok v W'/\Mem c (upd O id (some o')) W' F η S/\za7 O (upd O id (some o')) η η []/\
   (∀b,F b->F b/\W'.heap[b]? =W.heap[b]?)/\zaL (upd O id (some o')) W' F η V v:=by
 unfold clE at h;split at h
 case h_2=>cases h
 rename_i e k bytes id' n lo hi hty hx0;obtain⟨i,z,t1,t2,t3,t4,t5,t6,t7⟩:=zeW hty;split at h
 case h_2=>cases h
 rename_i e' k' es ds hO hz;simp only[Option.some.injEq,Prod.mk.injEq]at h;obtain⟨rfl,rfl,rfl,rfl,rfl,rfl⟩:=h;obtain⟨⟨rfl,hle,hle2⟩,⟨rfl,rfl⟩,hrow⟩:=hvc;refine⟨⟨rfl,rfl⟩,?_⟩;rw[Option.bind_eq_some_iff]at hz;obtain⟨z',hz,hds⟩:=hz;obtain⟨i',u,z1,z2,z3⟩:=zeK hz;rw[t2]at z1;cases z1;rw[t3]at z2;cases z2;subst z3;have hx:=hρ x;rw[hx0]at hx;simp only[zaL]at hx;obtain⟨g0,len0,cap0,q1,q2⟩:=(hx _ _ _ _ hO).2 rfl;obtain⟨r1,r2,r3⟩:=hm.obj id' _ hO;have hrd0:zav W F ds z.cells.toList:=by
  have h5:=zdY (O:=O) (W:=W) (F:=F) (η:=η) z.cells.toList;rwa [zj2 _ _ hds,zaN.of_ds]at h5
 have hdl:ds.length=k':=by rw[<-zav.length _ _ hrd0]; omega
 have hz1: ∀v∈z.cells.toList,v.oneCell'=true:=zg6 _ _ hrd0 (hrow ds (by simp)).2;have hlen':(es.take lo++List.replicate (hi-lo) ds++es.drop hi).length =es.length:=by
  grind
 have hk:=za7.same_len (η:=η) (es':=es.take lo++List.replicate (hi-lo) ds++es.drop hi) hO hlen';have hO2:hi-lo=0->upd O id' (some (.arr e' k' .flat (es.take lo++List.replicate (hi-lo) ds++es.drop hi)))=O:=by
  intro h0;funext j;simp only[upd];grind [List.take_append_drop]
 by_cases h0:hi-lo=0
 ·rw[hO2 h0];refine⟨.tuple #[],W,?_,hm,by simp_all,fun b hb=>⟨hb,rfl⟩,by grind [zaL,zaN]⟩;rw[q2,h0];split <;> simp[Builtin.clear_,run_underlying t1]
 rcases r3 with⟨r4,rfl,r6⟩ | ⟨g,cap,cur,s1,r4,hh,a1,a2,a3,a4,a5⟩
 ·simp_all
 obtain⟨a6,rfl⟩:=(zuK _ _ _).1 a5;rw[r4]at q1;simp only[Value.slice.injEq,Option.some.injEq,Addr.mk.injEq,and_true]at q1;obtain⟨rfl,rfl,rfl⟩:=q1;rw[if_neg (by omega)]at q2;obtain⟨zs,hzs⟩: ∃zs,(List.replicate (hi-lo) z.cells.toList).flatten =zs:=⟨_,rfl⟩;have hzc:(Builtin.zeroCells z.cells (hi-lo)).toList =zs:=by
  unfold Builtin.zeroCells;rw[zmX,hzs]
 have hzl:zs.length=(hi-lo)*k':=by rw[<-hzs]; simp[t4]
 have hzone: ∀v∈zs,v.oneCell'=true:=by
  grind [List.mem_flatten]
 have hlk:lo*k'+(hi-lo)*k'=hi*k':=by rw[<-Nat.add_mul]; grind
 have hhk:hi*k'<=es.length*k':=Nat.mul_le_mul_right k' hle2;have hcs:es.length*k'<=cur.size:=by rw[a3]; exact Nat.mul_le_mul_right k' a1
 have hst:=run_storeCells_cells (P:=c.P) g (lo*k') zs 0 W
  (fun j hj=>by
   grind [World.cell?])
  (fun j hj=>by simp[World.frozen?,hh]) hzone
 rw[Nat.add_zero]at hst;have hrun:(Builtin.clear_ #[t] ty #[a x]).run c.P W= .ok (.tuple #[]) (W.setCells g (lo*k') zs):=by
  rw[q2];have hzv: ∀w,(zeroValue e').run c.P w= .ok z w:=fun w=>by simp[zeroValue,typeInfo,t2,t3]
  obtain⟨m,hm'⟩: ∃m,hi-lo=m+1:=⟨hi-lo-1,by omega⟩;rw[hm']at hzc ⊢;simp[Builtin.clear_,run_underlying t1,hzv,hzc,hst]
 have h1:=zoK g zs (lo*k') W _ _ _ hh;obtain⟨f1,f2,f3,f4⟩:=zlI g zs (lo*k') W;have hput:=zx9 zs cur (lo*k') (by omega);have hrows': ∀y∈es.take lo++List.replicate (hi-lo) ds++es.drop hi,y.length=k':=by
  grind
 have hrd':zav W F (es.take lo++List.replicate (hi-lo) ds++es.drop hi).flatten ((zyW cur (lo*k') zs).toList.take ((es.take lo++List.replicate (hi-lo) ds++es.drop hi).length *k')):=by
  obtain⟨s1,_⟩:=znz r2 a6 lo (by omega);obtain⟨_,s2⟩:=znz r2 a6 hi hle2;rw[hlen',hput];have e1:(cur.toList.take (lo*k')++zs++cur.toList.drop (lo*k'+zs.length)).take (es.length*k')=(cur.toList.take (es.length*k')).take (lo*k')++zs++(cur.toList.take (es.length*k')).drop (hi*k'):=by
   have hl1:(cur.toList.take (lo*k')).length =lo*k':=by grind
   rw[List.take_take,Nat.min_eq_left (by omega),List.drop_take,hzl,hlk];grind [List.take_append,List.take_of_length_le]
  grind [zav.append,zoB]
 have hgF: ¬F g:=(hm.apart id' g (by rw[a4]; simp)).1;obtain⟨m1,m2⟩:=Mem.change (W':=W.setCells g (lo*k') zs) (F':=F) hm id' (some (.arr e' k' .flat (es.take lo++List.replicate (hi-lo) ds++es.drop hi))) (η id') (S id') [] f1 f2 f3 (by omega)
  (fun j _ hj=>zlH g zs (lo*k') W j (by simp_all)) (fun _ h=>h) (fun _ h=>.inl h) (fun j hj=>(hm.apart id' j hj).1) (hm.nd id') (fun j hj=>.inl hj) (fun h=>by cases h) (by rw[zcb]; exact hk)
  (fun j o _ _=>AO.noRef_nil o)
  (fun o ho hF=>by
   cases ho;refine⟨by omega,hrows',.inr ⟨g,cap,zyW cur (lo*k') zs,[],by grind,h1,by omega,a2,by rw[ztU,a3],a4,(zuK _ _ _).2 ⟨zav.mono hF _ _ hrd',rfl⟩⟩⟩)
 grind [zcb,zaL,zaN]

theorem Rel.reArr{σ:St}{a:Act}(h:Rel c σ a W){id:Nat}{e:TypeId}{k:Nat}{dep dep':Dep}{es es':List (List D)}(hO:σ.objs id=some (.arr e k dep es))(hl:es'.length=es.length)
  (ho: ∀(F:Nat->Prop) (η:Nat->Value) (s:List Nat),zj1 σ.objs W F η (η id) s (.arr e k dep es)->zj1 (upd σ.objs id (some (.arr e k dep' es'))) W F η (η id) s (.arr e k dep' es')):
  Rel c ⟨σ.tmps,upd σ.objs id (some (.arr e k dep' es'))⟩ a W:=by
 obtain⟨hsz,hdf,F,η,S,hm,hr⟩:=h;have hk:za7 σ.objs (upd σ.objs id (some (.arr e k dep' es'))) η η []:=by
  intro x o hx;right;by_cases e1:x=id
  ·grind [upd]
  ·simp only[upd,if_neg e1]at hx;refine⟨o,hx,?_⟩;cases o <;> simp
 have hF0: ∀b,F b->F b/\W.heap[b]? =W.heap[b]? :=fun b hb=>⟨hb,rfl⟩;obtain⟨m1,_⟩:=Mem.change (W':=W) (F':=F) hm id (some (.arr e k dep' es')) (η id) (S id) [] rfl rfl rfl (Nat.le_refl _) (fun _ _ _=>rfl) (fun _ h=>h) (fun _ h=>.inl h) (fun b hb=>(hm.apart id b hb).1) (hm.nd id) (fun b hb=>.inl hb) (fun h=>by cases h) (by rw[zcb]; exact hk)
  (fun j o _ _=>AO.noRef_nil o) (fun o ho' _=>by cases ho'; rw[zcb]; exact ho F η (S id) (hm.obj id _ hO))
 rw[zcb,zcb]at m1;exact⟨hsz,hdf,F,η,S,m1,fun t=>zaL.pres hk hF0 _ _ (AV.noRef_nil _) (hr t)⟩
theorem ownHs_one{O:zbI}{F:Nat->Prop}{η:Nat->Value}(q:Nat)(x:D): ∀(ds:List D) (i:Nat) (vs:List Value) (s:List Nat),zdA O W F η [] [(q,.d x)] i ds vs s->OwnVals (Own W F []) (if i<=q then ds.set (q-i) x else ds) vs s
 | [],i,vs,s,h=>by
  grind [zdA,OwnVals]
 | d::ds,i,vs,s,h=>by
  simp only[zdA]at h;obtain⟨v,rest,s1,s2,rfl,rfl,h1,h2⟩:=h;have ih:=ownHs_one q x ds (i+1) rest s2 h2;rw[List.lookup_cons]at h1;rcases Nat.lt_trichotomy i q with hlt | he | hgt
  ·have:(i==q)=false:=by simp; omega
   rw[this]at h1;simp only[List.lookup_nil]at h1;rw[if_pos (by omega)]at ih;rw[if_pos (by omega),show q-i=(q-(i+1))+1 by omega,List.set_cons_succ];grind [OwnVals]
  ·subst he;rw[show(i==i)=true by simp]at h1;simp only[zaL]at h1;rw[if_neg (by omega)]at ih;rw[if_pos (Nat.le_refl _),Nat.sub_self,List.set_cons_zero];simp only[OwnVals];exact⟨v,rest,s1,s2,rfl,rfl,⟨h1.1,h1.2⟩,ih⟩
  grind [OwnVals]
theorem ownHs_of{O:zbI}{F:Nat->Prop}{η:Nat->Value}(q:Nat)(x:D): ∀(ds:List D) (i:Nat) (vs:List Value) (s:List Nat),(∀j d,i+j=q->ds[j]? =some d->d=x)->OwnVals (Own W F []) ds vs s->zdA O W F η [] [(q,.d x)] i ds vs s
 | [],i,vs,s,_,h=>by simpa only[zdA,OwnVals]using h
 | d::ds,i,vs,s,hx,h=>by
  simp only[OwnVals]at h;obtain⟨v,rest,s1,s2,rfl,rfl,h1,h2⟩:=h;have ih:=ownHs_of (O:=O) (η:=η) q x ds (i+1) rest s2 (fun j d' e hd=>hx (j+1) d' (by omega) (by grind)) h2;simp only[zdA];refine⟨v,rest,s1,s2,rfl,rfl,?_,ih⟩;rw[List.lookup_cons];by_cases e:i=q
  ·subst e;rw[show(i==i)=true by simp];have hd:=hx 0 d rfl rfl;subst hd;simp only[zaL];exact⟨h1.1,h1.2⟩
  grind
theorem Rel.toD{σ:St}{a:Act}(h:Rel c σ a W){id:Nat}{e:TypeId}{k:Nat}{es:List (List D)}{i j:Nat}{x:D}(hO:σ.objs id=some (.arr e k .flat es))(hi:i<es.length)(hj:j<k)(hx:(es.getD i [])[j]? =some x):
  Rel c ⟨σ.tmps,upd σ.objs id (some (.arr e k (.deep [] [(i*k+j,.d x)]) es))⟩ a W:=by
 refine h.reArr hO rfl fun F η s hs=> ?_;have hk:=hs.2.1;have hflat:es.flatten[i*k+j]? =some x:=by
  have h1:=zjw x es i j hk hi hj;have h2:es.set i ((es.getD i []).set j x)=es:=by
   grind [List.set_getElem_self]
  rw[h2]at h1;have hl:i*k+j<es.flatten.length:=by
   rw[zd6 es hk]
   calc i*k+j<i*k+k:=by omega
    _=(i+1)*k:=by grind
    _<=es.length*k:=Nat.mul_le_mul_right k hi
  grind
 obtain⟨r1,r2,r3⟩:=hs;refine⟨r1,r2,?_⟩;grind [ownHs_of]
theorem Rel.toF{σ:St}{a:Act}(h:Rel c σ a W){id:Nat}{e:TypeId}{k:Nat}{es:List (List D)}{i j:Nat}{x:D}(hO:σ.objs id=some (.arr e k (.deep [] [(i*k+j,.d x)]) es))(hi:i<es.length)(hj:j<k):
  Rel c ⟨σ.tmps,upd σ.objs id (some (.arr e k .flat (es.set i ((es.getD i []).set j x))))⟩ a W:=by
 refine h.reArr hO (by simp) fun F η s hs=> ?_;obtain⟨r1,r2,r3⟩:=hs;have hfl:=zjw x es i j r2 hi hj;refine⟨by simp_all,fun y hy=> ?_,?_⟩
 ·grind
 grind [ownHs_one]
end
end Go.Aw
