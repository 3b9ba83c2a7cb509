/- Machinery. Conditions: those of each. -/
import Derived.Test.YtplfjjgkbnolhaaGreatDoorGX
set_option linter.unusedSimpArgs false
set_option linter.unusedVariables false
/-
 OWN MAPS: zdG, written, entries struck.
 Conditions: those of each law; over any program.
-/
namespace Go.Aw
open Go.RowKit Go.ChangeMaps

noncomputable def zgQ(ks:List D)(k:D):List D:=if zeN ks k<ks.length then ks else ks++[k]
noncomputable def zjk(ks vs:List D)(k v:D):List D:=if zeN ks k<ks.length then vs.set (zeN ks k) v else vs++[v]
noncomputable def entV(ks vs:List D)(k z:D):List D:=if zeN ks k<ks.length then vs else vs++[z]
noncomputable def zjs(ks:List D)(bs:List Nat)(clock:Nat)(k:D):List Nat:=if zeN ks k<ks.length then bs else bs++[clock]
noncomputable def zjT(ks:List D)(clock:Nat)(k:D):Nat:=if zeN ks k<ks.length then clock else clock+1
noncomputable def stB(ks:List D)(bs:List Nat)(clock:Nat)(k:D):Nat:=if zeN ks k<ks.length then bs.getD (zeN ks k) 0 else clock
noncomputable def delK(ks:List D)(k:D):List D:=ks.eraseIdx (zeN ks k)
noncomputable def delV(ks vs:List D)(k:D):List D:=vs.eraseIdx (zeN ks k)
noncomputable def delB(ks:List D)(bs:List Nat)(k:D):List Nat:=bs.eraseIdx (zeN ks k)

section
variable {c:Ctx} {O:zbI} {W:World} {F:Nat->Prop} {η:Nat->Value} {S:Nat->List Nat} {ρ:Operand->AV} {a:Operand->Value}

theorem zav.set{W:World}{F:Nat->Prop}: ∀(ds:List D) (vs:List Value) (j:Nat) (d:D) (v:Value),zav W F ds vs->Rd W F d v->zav W F (ds.set j d) (vs.set j v)
 | [],vs,j,d,v,h,_=>by simp only[zav]at h; subst h; simp[zav]
 | x::ds,vs,0,d,v,h,hd=>by
  simp only[zav]at h;obtain⟨u,rest,rfl,_,h2⟩:=h;simp only[List.set_cons_zero,zav];exact⟨v,rest,rfl,hd,h2⟩
 | x::ds,vs,j+1,d,v,h,hd=>by
  simp only[zav]at h;obtain⟨u,rest,rfl,h1,h2⟩:=h;simp only[List.set_cons_succ,zav];exact⟨u,_,rfl,h1,zav.set ds rest j d v h2 hd⟩
theorem zav.eraseIdx{W:World}{F:Nat->Prop}: ∀(ds:List D) (vs:List Value) (j:Nat),zav W F ds vs->zav W F (ds.eraseIdx j) (vs.eraseIdx j)
 | [],vs,j,h=>by simp only[zav]at h; subst h; simp[zav]
 | x::ds,vs,0,h=>by
  simp only[zav]at h;obtain⟨u,rest,rfl,_,h2⟩:=h;simpa using h2
 | x::ds,vs,j+1,h=>by
  simp only[zav]at h;obtain⟨u,rest,rfl,h1,h2⟩:=h;simp only[List.eraseIdx_cons_succ,zav];exact⟨u,_,rfl,h1,zav.eraseIdx ds rest j h2⟩
theorem zav.one{W:World}{F:Nat->Prop}{d:D}{v:Value}(h:Rd W F d v):zav W F [d] [v]:=by simp only[zav]; exact⟨v,[],rfl,h,rfl⟩

theorem Mem.mapSet(hm:Mem c O W F η S){id b:Nat}{ks vs ks' vs':List D}{bs bs':List Nat}{clock clock':Nat}{es es':Array MapEntry}(hO:O id=some (.map ks vs bs clock))(hη:η id= .map (some b))(hS:S id=[b])(hb:W.heap[b]? =some (.map es clock))
  (h1:zav W F ks' (es'.toList.map (·.key))) (h2:zav W F vs' (es'.toList.map (·.val))) (h3:bs'=es'.toList.map (·.born)) (h4:zxd ks' bs' clock'):
  Mem c (upd O id (some (.map ks' vs' bs' clock'))) (setBlock W b (.map es' clock')) F η S/\za7 O (upd O id (some (.map ks' vs' bs' clock'))) η η []/\ ∀j,F j->F j/\(setBlock W b (.map es' clock')).heap[j]? =W.heap[j]? :=by
 have hk:za7 O (upd O id (some (.map ks' vs' bs' clock'))) η (upd η id (η id)) []:=by
  rw[zcb];intro x o ho;by_cases hx:x=id
  ·subst hx;simp only[upd,if_true,Option.some.injEq]at ho;subst ho;exact .inr ⟨_,hO,rfl⟩
  ·simp only[upd,if_neg hx]at ho;exact za7.refl O η x o ho
 obtain⟨m1,m2⟩:=Mem.change (W':=setBlock W b (.map es' clock')) (F':=F) hm id (some (.map ks' vs' bs' clock')) (η id) (S id) [] rfl rfl rfl (by simp[setBlock])
  (fun j _ hj=>heap_setBlock_other hb _ (by rintro rfl; exact hj (by rw[hS]; simp))) (fun _ h=>h) (fun _ h=>.inl h) (fun j hj=>(hm.apart id j hj).1) (hm.nd id) (fun j hj=>.inl hj) (fun h=>by cases h) hk
  (fun j o _ _=>AO.noRef_nil o)
  (fun o ho hF=>by
   cases ho;exact⟨b,hη,hS,es',heap_setBlock_same hb _,zav.mono hF _ _ h1,zav.mono hF _ _ h2,h3,h4⟩)
 rw[zcb,zcb]at m1;rw[zcb]at hk;exact⟨m1,hk,m2⟩

theorem zxd.push{ks:List D}{bs:List Nat}{clock:Nat}{k:D}(h:zxd ks bs clock)(hk:k∉ks):zxd (ks++[k]) (bs++[clock]) (clock+1):=by
 obtain⟨h1,h2,h3⟩:=h;refine⟨List.nodup_append.2 ⟨h1,by simp,fun a ha b hb e=> ?_⟩,List.nodup_append.2 ⟨h2,by simp,fun a ha b hb e=> ?_⟩,fun x hx=> ?_⟩
 ·simp only[List.mem_singleton]at hb; subst hb; subst e; exact hk ha
 ·simp only[List.mem_singleton]at hb; subst hb; subst e; exact absurd (h3 a ha) (Nat.lt_irrefl _)
 ·rcases List.mem_append.1 hx with hx | hx
  ·have:=h3 x hx; omega
  ·simp only[List.mem_singleton]at hx; omega
theorem zxd.erase{ks:List D}{bs:List Nat}{clock:Nat}(h:zxd ks bs clock)(j:Nat):zxd (ks.eraseIdx j) (bs.eraseIdx j) clock:=by
 obtain⟨h1,h2,h3⟩:=h;exact⟨h1.sublist (List.eraseIdx_sublist _ _),h2.sublist (List.eraseIdx_sublist _ _),fun x hx=>h3 x ((List.eraseIdx_sublist _ _).subset hx)⟩

def nlL:List AV->List AV
 | []=>[]
 | .nils ::r=>.d (.lit (.slice none 0 0))::nlL r
 | x::r=>x::nlL r
def nlA:AV->AV
 | .nils =>.d (.lit (.slice none 0 0))
 | .agg cs=>.agg (nlL cs)
 | x=>x
theorem nlL_rel{O:zbI}{W:World}{F:Nat->Prop}{η:Nat->Value}: ∀(xs:List AV) (vs:List Value),zaN O W F η xs vs->zaN O W F η (nlL xs) vs
 | [],_,h=>h
 | x::xs,vs,h=>by
  simp only[zaN]at h;obtain⟨v,rest,rfl,h1,h2⟩:=h;have ih:=nlL_rel xs rest h2;unfold nlL;split
  ·rename_i h; cases h
  ·rename_i e;cases e;simp only[zaN,zaL,Rd]at h1 ⊢;exact⟨v,rest,rfl,h1,ih⟩
  ·rename_i e;cases e;simp only[zaN];exact⟨v,rest,rfl,h1,ih⟩
theorem nlA_rel{O:zbI}{W:World}{F:Nat->Prop}{η:Nat->Value}{x:AV}{v:Value}(h:zaL O W F η x v):zaL O W F η (nlA x) v:=by
 unfold nlA;split
 ·simp only[zaL,Rd]at h ⊢; exact h
 ·simp only[zaL]at h ⊢;obtain⟨vs,h1,h2⟩:=h;exact⟨vs,h1,nlL_rel _ _ h2⟩
 ·exact h
def muE(P:Program)(ρ:Operand->AV)(O:zbI)(t:TypeId)(m k x:Operand):Option (Prop×Nat×List D×List D×List Nat×Nat×D×D×List Nat):=
 match P.underlying t,ρ m,ρ k,frz O (nlA (ρ x))with
 | some (.map kt _),.mo id,.d kd,some (vc,xd,ids)=>match O id with
  | some (.map ks vs bs clock)=>some ((vc/\id∉ids)/\zj0 P kt/\zd3 P kt kd/\ ∀y∈ks,zd3 P kt y,id,ks,vs,bs,clock,kd,xd,ids)
  | _=>none
 | _,_,_,_=>none
noncomputable def muR(r:Option (Prop×Nat×List D×List D×List Nat×Nat×D×D×List Nat)):Option (Prop×AV×Nat×AO×List Nat×Bool):=
 r.map fun r=>(r.1,.und,r.2.1,.map (zgQ r.2.2.1 r.2.2.2.2.2.2.1) (zjk r.2.2.1 r.2.2.2.1 r.2.2.2.2.2.2.1 r.2.2.2.2.2.2.2.1) (zjs r.2.2.1 r.2.2.2.2.1 r.2.2.2.2.2.1 r.2.2.2.2.2.2.1) (zjT r.2.2.1 r.2.2.2.2.2.1 r.2.2.2.2.2.2.1),r.2.2.2.2.2.2.2.2,false)

theorem muE_sound(hm:Mem c O W F η S)(hρ: ∀x,zaL O W F η (ρ x) (a x)){t:TypeId}{m k x:Operand}{vc:Prop}{V:AV}{id:Nat}{o':AO}{ids:List Nat}{isNew:Bool}
  (h:muR (muE c.P ρ O t m k x)=some (vc,V,id,o',ids,isNew)) (hvc:vc):
  isNew=false/\ ∃W' F' S',(Instr.mapUpdate t (a m) (a k) (a x)).run c.P W= .ok () W'/\Mem c (upd (drop O ids) id (some o')) W' F' η S'/\za7 O (upd (drop O ids) id (some o')) η η []/\
   (∀b,F b->F' b/\W'.heap[b]? =W.heap[b]?)/\V= .und :=by
 simp only[muR,Option.map_eq_some_iff,Prod.mk.injEq]at h;obtain⟨⟨vc0,id0,ks,vs,bs,clock,kd,xd,ids0⟩,hE,h⟩:=h;obtain⟨h1,h2,h3,h4,h5,h6⟩:=h;simp only at h1 h2 h3 h4 h5 h6;subst h1 h2 h3 h4 h5 h6;refine⟨rfl,?_⟩;unfold muE at hE;split at hE
 case h_2=>cases hE
 rename_i kt et id kd' vc1 xd' ids' ht hmo hk hx;split at hE
 case h_2=>cases hE
 rename_i ks' vs' bs' clock' hO;simp only[Option.some.injEq,Prod.mk.injEq]at hE;obtain⟨rfl,rfl,rfl,rfl,rfl,rfl,rfl,rfl,rfl⟩:=hE;obtain⟨⟨hvc1,hid⟩,K,hkk,hks⟩:=hvc;have hmr:=hρ m;rw[hmo]at hmr;simp only[zaL]at hmr;have hkr:=hρ k;rw[hk]at hkr;simp only[zaL]at hkr;have hxr:=zsO (F':=fun b=>F b\/ ∃id∈ids',b∈S id) hm (fun b hb=>.inl hb) _ _ _ (nlA_rel (hρ x)) hx hvc1 (fun id hid b hb=>.inr ⟨id,hid,hb⟩);obtain⟨hm1,hF1⟩:=hm.dropL (W':=W) (F':=fun b=>F b\/ ∃id∈ids',b∈S id) ids' (Below.refl _ _) (fun b hb=>.inl hb) (fun b hb=>by
  rcases hb with hb | hb
  ·exact .inl hb
  ·exact .inr (.inr hb))
 have hO1:drop O ids' id=some (.map ks' vs' bs' clock'):=by simp only[drop,if_neg hid]; exact hO
 obtain⟨b,h1,h2,es,h3,h4,h5,h6,h7⟩:=hm1.obj id _ hO1;have hav:a m= .map (some b):=(hmr _ hO rfl).trans h1;have hkr1:=Rd.mono hF1 _ _ hkr;obtain⟨f1,f2,f3⟩:=zrG K hkk hks hkr1 h4 h7.1 W;rcases f3 with⟨g1,g2,_⟩ | ⟨g1,e,g2,g3,g4⟩
 ·have hn: ¬zeN ks' kd'<ks'.length:=fun h=>g1 (zcO.1 h);simp only[zgQ,zjk,zjs,zjT,if_neg hn];obtain⟨m1,m2,m3⟩:=Mem.mapSet (es':=es.push ⟨a k,a x,clock'⟩) hm1 hO1 h1 h2 h3 (ks':=ks'++[kd']) (vs':=vs'++[xd']) (bs':=bs'++[clock']) (clock':=clock'+1)
   (by rw[Array.toList_push,List.map_append]; exact(zav.append _ _ _).2 ⟨_,_,rfl,h4,zav.one hkr1⟩) (by rw[Array.toList_push,List.map_append]; exact(zav.append _ _ _).2 ⟨_,_,rfl,h5,zav.one hxr⟩)
   (by rw[Array.toList_push,List.map_append,<-h6]; rfl) (h7.push g1)
  refine⟨_,_,_,?_,m1,(za7.drop O η ids').trans m2 (by simp),fun j hj=>⟨.inl hj,(m3 j (.inl hj)).2⟩,trivial⟩;rw[hav];simp[Instr.mapUpdate,run_underlying ht,MapKept.run_getObj_map h3,f1,g2,MapKept.run_setObj_map _ h3,Result.andThen,setBlock]
 ·have hn:zeN ks' kd'<ks'.length:=zcO.2 g1;simp only[zgQ,zjk,zjs,zjT,if_pos hn];have hj:es[zeN ks' kd']? =some e:=by simpa using g2
  have hlist:(es.modify (zeN ks' kd') (fun e'=>{e' with key:=a k,val:=a x})).toList =es.toList.set (zeN ks' kd') {e with key:=a k,val:=a x}:=by rw[Array.toList_modify,modify_eq_set _ _ _ _ g2]
  obtain⟨m1,m2,m3⟩:=Mem.mapSet (es':=es.modify (zeN ks' kd') (fun e'=>{e' with key:=a k,val:=a x})) hm1 hO1 h1 h2 h3 (ks':=ks') (vs':=vs'.set (zeN ks' kd') xd') (bs':=bs') (clock':=clock')
   (by rw[hlist,List.map_set,zm7 _ _ _ (by rw[List.getElem?_map,g2]; simp[g3])]; exact h4) (by rw[hlist,List.map_set]; exact zav.set _ _ _ _ _ h5 hxr)
   (by rw[hlist,List.map_set,zm7 _ _ _ (by rw[List.getElem?_map,g2]; rfl)]; exact h6) h7
  refine⟨_,_,_,?_,m1,(za7.drop O η ids').trans m2 (by simp),fun j hj=>⟨.inl hj,(m3 j (.inl hj)).2⟩,trivial⟩;rw[hav];simp[Instr.mapUpdate,run_underlying ht,MapKept.run_getObj_map h3,f1,g4,hj,g3,f2,MapKept.run_setObj_map _ h3,Result.andThen,setBlock]

noncomputable def meE(P:Program)(ρ:Operand->AV)(O:zbI)(t:TypeId)(m k:Operand):Option (Prop×AV×Nat×AO×List Nat×Bool):=
 match P.underlying t,ρ m,ρ k with
 | some (.map kt et),.mo id,.d kd=>match O id,zrA P et with
  | some (.map ks vs bs clock),some z=>some (zj0 P kt/\zd3 P kt kd/\ ∀y∈ks,zd3 P kt y,.tup [.d ((zjZ ks vs kd).getD z),.d (.lit (goInt (stB ks bs clock kd)))],id,
    .map (zgQ ks kd) (entV ks vs kd z) (zjs ks bs clock kd) (zjT ks clock kd),[],false)
  | _,_=>none
 | _,_,_=>none
theorem meE_sound(hm:Mem c O W F η S)(hρ: ∀x,zaL O W F η (ρ x) (a x)){t:TypeId}{m k:Operand}{vc:Prop}{V:AV}{id:Nat}{o':AO}{ids:List Nat}{isNew:Bool}
  (h:meE c.P ρ O t m k=some (vc,V,id,o',ids,isNew)) (hvc:vc):
  (ids=[]/\isNew=false)/\ ∃v W',(Instr.mapEntry t (a m) (a k)).run c.P W= .ok v W'/\Mem c (upd O id (some o')) W' F η S/\za7 O (upd O id (some o')) η η []/\
   (∀b,F b->F b/\W'.heap[b]? =W.heap[b]?)/\zaL (upd O id (some o')) W' F η V v:=by
 unfold meE at h;split at h
 case h_2=>cases h
 rename_i kt et id' kd ht hmo hk;split at h
 case h_2=>cases h
 rename_i ks vs bs clock z hO hz;simp only[Option.some.injEq,Prod.mk.injEq]at h;obtain⟨rfl,rfl,rfl,rfl,rfl,rfl⟩:=h;refine⟨⟨rfl,rfl⟩,?_⟩;obtain⟨K,hkk,hks⟩:=hvc;have hmr:=hρ m;rw[hmo]at hmr;simp only[zaL]at hmr;have hkr:=hρ k;rw[hk]at hkr;simp only[zaL]at hkr;obtain⟨b,h1,h2,es,h3,h4,h5,h6,h7⟩:=hm.obj id' _ hO;have hav:a m= .map (some b):=(hmr _ hO rfl).trans h1;obtain⟨f1,f2,f3⟩:=zrG K hkk hks hkr h4 h7.1 W;obtain⟨zv,z1,z2⟩:=zeroD_run hz;rcases f3 with⟨g1,g2,_⟩ | ⟨g1,e,g2,g3,g4⟩
 ·have hn: ¬zeN ks kd<ks.length:=fun h=>g1 (zcO.1 h);have hget:zjZ ks vs kd=none:=by unfold zjZ; rw[if_neg hn]
  simp only[zgQ,entV,zjs,zjT,stB,if_neg hn,hget,Option.getD_none];obtain⟨m1,m2,m3⟩:=Mem.mapSet (es':=es.push ⟨a k,zv,clock⟩) hm hO h1 h2 h3 (ks':=ks++[kd]) (vs':=vs++[z]) (bs':=bs++[clock]) (clock':=clock+1)
   (by rw[Array.toList_push,List.map_append]; exact(zav.append _ _ _).2 ⟨_,_,rfl,h4,zav.one hkr⟩) (by rw[Array.toList_push,List.map_append]; exact(zav.append _ _ _).2 ⟨_,_,rfl,h5,zav.one (z2 W F)⟩)
   (by rw[Array.toList_push,List.map_append,<-h6]; rfl) (h7.push g1)
  refine⟨.tuple #[zv,goInt clock],_,?_,m1,m2,m3,?_⟩
  ·rw[hav];simp[Instr.mapEntry,run_underlying ht,MapKept.run_getObj_map h3,f1,g2,z1,MapKept.run_setObj_map _ h3,Result.andThen,setBlock]
  ·simp only[zaL,zaN,Rd];exact⟨[zv,goInt clock],by simp,zv,_,rfl,z2 _ _,goInt clock,_,rfl,rfl,rfl⟩
 ·have hn:zeN ks kd<ks.length:=zcO.2 g1;simp only[zgQ,entV,zjs,zjT,stB,if_pos hn];have hj:es[zeN ks kd]? =some e:=by simpa using g2
  obtain⟨d,g5,g6⟩:=(zav.get? vs _ (zeN ks kd) h5).1 e.val (by simp[List.getElem?_map,g2]);have hget:zjZ ks vs kd=some d:=by unfold zjZ; rw[if_pos hn]; exact g5
  have hlist:(es.modify (zeN ks kd) (fun e'=>{e' with key:=a k})).toList =es.toList.set (zeN ks kd) {e with key:=a k}:=by rw[Array.toList_modify,modify_eq_set _ _ _ _ g2]
  obtain⟨m1,m2,m3⟩:=Mem.mapSet (es':=es.modify (zeN ks kd) (fun e'=>{e' with key:=a k})) hm hO h1 h2 h3 (ks':=ks) (vs':=vs) (bs':=bs) (clock':=clock)
   (by rw[hlist,List.map_set,zm7 _ _ _ (by rw[List.getElem?_map,g2]; simp[g3])]; exact h4) (by rw[hlist,List.map_set,zm7 _ _ _ (by rw[List.getElem?_map,g2]; rfl)]; exact h5)
   (by rw[hlist,List.map_set,zm7 _ _ _ (by rw[List.getElem?_map,g2]; rfl)]; exact h6) h7
  have hbo:bs.getD (zeN ks kd) 0=e.born:=by rw[h6,List.getD,List.getElem?_map,g2]; rfl
  refine⟨.tuple #[e.val,goInt e.born],_,?_,m1,m2,m3,?_⟩
  ·rw[hav];simp[Instr.mapEntry,run_underlying ht,MapKept.run_getObj_map h3,f1,g4,hj,g3,f2,MapKept.run_setObj_map _ h3,Result.andThen,setBlock]
  ·simp only[zaL,zaN,hget,Option.getD_some,hbo];exact⟨[e.val,goInt e.born],by simp,e.val,_,rfl,Rd.mono m3 _ _ g6,goInt e.born,_,rfl,by simp[Rd],rfl⟩

def esE(P:Program)(ρ:Operand->AV)(O:zbI)(m s x:Operand):Option (Prop×AV×Nat×AO×List Nat×Bool):=
 match ρ m,ρ s,frz O (ρ x)with
 | .mo id,.d (.lit (.int _ n)),some (vc,xd,ids)=>match O id with
  | some (.map ks vs bs clock)=>some ((vc/\id∉ids)/\0<=n/\n.toNat∈bs,.und,id,.map ks (vs.set (bs.idxOf n.toNat) xd) bs clock,ids,false)
  | _=>none
 | _,_,_=>none
theorem esE_sound(hm:Mem c O W F η S)(hρ: ∀x,zaL O W F η (ρ x) (a x)){t:TypeId}{m s x:Operand}{vc:Prop}{V:AV}{id:Nat}{o':AO}{ids:List Nat}{isNew:Bool}
  (h:esE c.P ρ O m s x=some (vc,V,id,o',ids,isNew)) (hvc:vc):
  isNew=false/\ ∃W' F' S',(Instr.entryStore t (a m) (a s) (a x)).run c.P W= .ok () W'/\Mem c (upd (drop O ids) id (some o')) W' F' η S'/\za7 O (upd (drop O ids) id (some o')) η η []/\
   (∀b,F b->F' b/\W'.heap[b]? =W.heap[b]?)/\V= .und :=by
 unfold esE at h;split at h
 case h_2=>cases h
 rename_i id' kk n vc1 xd ids' hmo hs hx;split at h
 case h_2=>cases h
 rename_i ks vs bs clock hO;simp only[Option.some.injEq,Prod.mk.injEq]at h;obtain⟨rfl,rfl,rfl,rfl,rfl,rfl⟩:=h;refine⟨rfl,?_⟩;obtain⟨⟨hvc1,hid⟩,hn0,hnb⟩:=hvc;have hmr:=hρ m;rw[hmo]at hmr;simp only[zaL]at hmr;have hsr:=hρ s;rw[hs]at hsr;simp only[zaL,Rd]at hsr;have hxr:=zsO (F':=fun b=>F b\/ ∃id∈ids',b∈S id) hm (fun b hb=>.inl hb) _ _ _ (hρ x) hx hvc1 (fun id hid b hb=>.inr ⟨id,hid,hb⟩);obtain⟨hm1,hF1⟩:=hm.dropL (W':=W) (F':=fun b=>F b\/ ∃id∈ids',b∈S id) ids' (Below.refl _ _) (fun b hb=>.inl hb) (fun b hb=>by
  rcases hb with hb | hb
  ·exact .inl hb
  ·exact .inr (.inr hb))
 have hO1:drop O ids' id'=some (.map ks vs bs clock):=by simp only[drop,if_neg hid]; exact hO
 obtain⟨b,h1,h2,es,h3,h4,h5,h6,h7⟩:=hm1.obj id' _ hO1;have hav:a m= .map (some b):=(hmr _ hO rfl).trans h1;have hi:bs.idxOf n.toNat<bs.length:=List.idxOf_lt_length_iff.2 hnb;have hi2:bs.idxOf n.toNat<es.toList.length:=by rw[h6]at hi ⊢; simpa using hi
 obtain⟨e,he⟩: ∃e,es.toList[bs.idxOf n.toNat]? =some e:=⟨_,List.getElem?_eq_getElem hi2⟩;have heb:e.born=n.toNat:=by
  have h8:bs[bs.idxOf n.toNat]? =some n.toNat:=by rw[List.getElem?_eq_getElem hi]; simp
  have h9:(es.toList.map (·.born))[bs.idxOf n.toNat]? =some e.born:=by rw[List.getElem?_map,he]; rfl
  rw[<-h6,h8]at h9;exact(Option.some.inj h9).symm
 have hfind:es.findIdx? (fun e=>(e.born:Int)==n)=some (bs.idxOf n.toNat):=by
  have:es=es.toList.toArray:=by simp
  rw[this,List.findIdx?_toArray,List.findIdx?_eq_some_iff_getElem];refine⟨hi2,?_,fun j hj=> ?_⟩
  ·have:=List.getElem?_eq_some_iff.1 he;obtain⟨_,h8⟩:=this;rw[h8,heb];simp only[beq_iff_eq];omega
  ·have hjb:j<bs.length:=by omega
   have hne:bs[j]≠n.toNat:=by
    intro hbe;have hpw:=h7.2.1;have hlt:=(List.pairwise_iff_getElem.1 hpw) j _ hjb hi hj;have h8:bs[bs.idxOf n.toNat]=n.toNat:=(by simp);omega
   have h9:bs[j]=(es.toList[j]'(by omega)).born :=by
    have:bs[j]? =(es.toList.map (·.born))[j]? :=(by rw[<-h6]);rw[List.getElem?_eq_getElem hjb,List.getElem?_map,List.getElem?_eq_getElem (by omega:j<es.toList.length)]at this;simpa using this
   simp only[beq_iff_eq,Bool.not_eq_true,beq_eq_false_iff_ne,ne_eq];rw[<-h9];omega
 have hlist:(es.modify (bs.idxOf n.toNat) (fun e'=>{e' with val:=a x})).toList =es.toList.set (bs.idxOf n.toNat) {e with val:=a x}:=by rw[Array.toList_modify,modify_eq_set _ _ _ _ he]
 obtain⟨m1,m2,m3⟩:=Mem.mapSet (es':=es.modify (bs.idxOf n.toNat) (fun e'=>{e' with val:=a x})) hm1 hO1 h1 h2 h3 (ks':=ks) (vs':=vs.set (bs.idxOf n.toNat) xd) (bs':=bs) (clock':=clock)
  (by rw[hlist,List.map_set,zm7 _ _ _ (by rw[List.getElem?_map,he]; rfl)]; exact h4) (by rw[hlist,List.map_set]; exact zav.set _ _ _ _ _ h5 hxr)
  (by rw[hlist,List.map_set,zm7 _ _ _ (by rw[List.getElem?_map,he]; rfl)]; exact h6) h7
 refine⟨_,_,_,?_,m1,(za7.drop O η ids').trans m2 (by simp),fun j hj=>⟨.inl hj,(m3 j (.inl hj)).2⟩,rfl⟩;rw[hav,hsr];simp[Instr.entryStore,MapKept.run_getObj_map h3,asInt,asIntOf,hfind,MapKept.run_setObj_map _ h3,Result.andThen,setBlock]

noncomputable def mdE(P:Program)(ρ:Operand->AV)(O:zbI)(t:TypeId)(m k:Operand):Option (Prop×AV×Nat×AO×List Nat×Bool):=
 match P.underlying t,ρ m,ρ k with
 | some (.map kt _),.mo id,.d kd=>match O id with
  | some (.map ks vs bs clock)=>some (zj0 P kt/\zd3 P kt kd/\ ∀y∈ks,zd3 P kt y,.tup [],id,.map (delK ks kd) (delV ks vs kd) (delB ks bs kd) clock,[],false)
  | _=>none
 | _,_,_=>none
theorem mdE_sound(hm:Mem c O W F η S)(hρ: ∀x,zaL O W F η (ρ x) (a x)){t t' ty:TypeId}{m k:Operand}{vc:Prop}{V:AV}{id:Nat}{o':AO}{ids:List Nat}{isNew:Bool}
  (h:mdE c.P ρ O t m k=some (vc,V,id,o',ids,isNew)) (hvc:vc):
  (ids=[]/\isNew=false)/\ ∃W',(Builtin.delete_ #[t,t'] ty #[a m,a k]).run c.P W= .ok (.tuple #[]) W'/\Mem c (upd O id (some o')) W' F η S/\za7 O (upd O id (some o')) η η []/\
   (∀b,F b->F b/\W'.heap[b]? =W.heap[b]?)/\V= .tup []:=by
 unfold mdE at h;split at h
 case h_2=>cases h
 rename_i kt et id' kd ht hmo hk;split at h
 case h_2=>cases h
 rename_i ks vs bs clock hO;simp only[Option.some.injEq,Prod.mk.injEq]at h;obtain⟨rfl,rfl,rfl,rfl,rfl,rfl⟩:=h;refine⟨⟨rfl,rfl⟩,?_⟩;obtain⟨K,hkk,hks⟩:=hvc;have hmr:=hρ m;rw[hmo]at hmr;simp only[zaL]at hmr;have hkr:=hρ k;rw[hk]at hkr;simp only[zaL]at hkr;obtain⟨b,h1,h2,es,h3,h4,h5,h6,h7⟩:=hm.obj id' _ hO;have hav:a m= .map (some b):=(hmr _ hO rfl).trans h1;obtain⟨f1,f2,f3⟩:=zrG K hkk hks hkr h4 h7.1 W;have hlen:ks.length=es.toList.length:=by have:=zav.length _ _ h4; simpa using this.symm
 have hlen2:vs.length=es.toList.length:=by have:=zav.length _ _ h5; simpa using this.symm
 have hlen3:bs.length=es.toList.length:=by rw[h6]; simp
 rcases f3 with⟨g1,g2,_⟩ | ⟨g1,e,g2,g3,g4⟩
 ·have hn:ks.length<=zeN ks kd:=Nat.le_of_not_lt (fun h=>g1 (zcO.1 h));have e1:delK ks kd=ks:=List.eraseIdx_of_length_le hn;have e2:delV ks vs kd=vs:=List.eraseIdx_of_length_le (by omega);have e3:delB ks bs kd=bs:=List.eraseIdx_of_length_le (by omega);rw[e1,e2,e3];obtain⟨m1,m2,m3⟩:=Mem.mapSet (es':=es) hm hO h1 h2 h3 h4 h5 h6 h7;refine⟨_,?_,m1,m2,m3,rfl⟩;rw[hav];simp[Builtin.delete_,run_underlying ht,MapKept.run_getObj_map h3,f1,g2,MapKept.run_setObj_map _ h3,Result.andThen,setBlock]
 ·have hn:zeN ks kd<ks.length:=zcO.2 g1;have hsub:(es.eraseIdxIfInBounds (zeN ks kd)).toList =es.toList.eraseIdx (zeN ks kd):=by
   unfold Array.eraseIdxIfInBounds;rw[dif_pos (by simp at hlen; omega)];simp
  obtain⟨m1,m2,m3⟩:=Mem.mapSet (es':=es.eraseIdxIfInBounds (zeN ks kd)) hm hO h1 h2 h3 (ks':=delK ks kd) (vs':=delV ks vs kd) (bs':=delB ks bs kd) (clock':=clock)
   (by rw[hsub,map_eraseIdx]; exact zav.eraseIdx _ _ _ h4) (by rw[hsub,map_eraseIdx]; exact zav.eraseIdx _ _ _ h5) (by rw[hsub,map_eraseIdx,<-h6]; rfl) (h7.erase _)
  refine⟨_,?_,m1,m2,m3,rfl⟩;rw[hav];simp[Builtin.delete_,run_underlying ht,MapKept.run_getObj_map h3,f1,g4,MapKept.run_setObj_map _ h3,Result.andThen,setBlock]

def mmE(dst:Nat):Option (Prop×AV×Nat×AO×List Nat×Bool):=some (True,.mo dst,dst,.map [] [] [] 0,[],true)
theorem mmE_sound(hm:Mem c O W F η S){dst:Nat}(t:TypeId)(hf:zff dst O):
  ∃v W' η' S',(Instr.makeMap t none).run c.P W= .ok v W'/\Mem c (upd O dst (some (.map [] [] [] 0))) W' F η' S'/\za7 O (upd O dst (some (.map [] [] [] 0))) η η' [dst]/\
   (∀b,F b->F b/\W'.heap[b]? =W.heap[b]?)/\zaL (upd O dst (some (.map [] [] [] 0))) W' F η' (.mo dst) v:=by
 have hk:=za7.create (O:=O) (dst:=dst) (η:=η) (o:=.map [] [] [] 0) (.map (some W.heap.size));obtain⟨h1,h2⟩:=Mem.change (W':=W.alloc (.map #[] 0)) (F':=F) hm dst (some (.map [] [] [] 0)) (.map (some W.heap.size)) [W.heap.size] [dst] rfl rfl rfl (by simp)
  (fun b hb _=>Below.heap_alloc W _ b hb) (fun _ h=>h) (fun _ h=>.inl h) (fun b hb hF=>by have:=hm.flt b hF; simp at hb; omega)
  (by simp) (fun b hb=>.inr (by simp at hb ⊢; omega)) (fun h=>by cases h) hk (fun id o ho _=>hf.2 id o ho)
  (fun o ho hF=>by
   cases ho;exact⟨W.heap.size,rfl,rfl,#[],heap_alloc_new W _,by simp[zav],by simp[zav],rfl,⟨by simp,by simp,by simp⟩⟩)
 refine⟨.map (some W.heap.size),_,_,_,?_,h1,hk,h2,?_⟩
 ·simp[Instr.makeMap,run_newObj_alloc,Result.andThen]
 ·simp only[zaL];intro o ho _;simp[upd]
end
end Go.Aw
