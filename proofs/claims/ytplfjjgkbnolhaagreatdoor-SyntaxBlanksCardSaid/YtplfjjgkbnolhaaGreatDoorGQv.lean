/- Machinery. Conditions: those of each. -/
import Derived.Test.YtplfjjgkbnolhaaGreatDoorGQu
set_option linter.unusedSimpArgs false
set_option linter.unusedVariables false
/-
 NEW VARIABLES AND STRUCT LITERALS.
 Conditions: those of 'qsem'; a new object's number is not in use.
-/
namespace Go.Aw
open Go.RowKit

def zff(dst:Nat)(O:zbI):Prop:=O dst=none/\ ∀id o,O id=some o->o.noRef [dst]

section
variable {c:Ctx} {O:zbI} {W:World} {F:Nat->Prop} {η:Nat->Value} {S:Nat->List Nat} {dst:Nat} {ρ:Operand->AV} {a:Operand->Value} {o:Oper} {vc:Prop} {V:AV} {n:Option AO}

theorem za7.create{o:AO}(v:Value):za7 O (upd O dst (some o)) η (upd η dst v) [dst]:=by
 intro id o' ho;by_cases hd:id=dst
 ·exact .inl (by simp[hd])
 ·simp only[upd,if_neg hd]at ho ⊢;refine .inr ⟨o',ho,?_⟩;cases o' <;> simp

theorem AV.noRefs_map_d(l:List Nat): ∀ds:List D,AV.noRefs l (ds.map .d)
 | []=>by simp[AV.noRefs]
 | x::ds=>by simp only[List.map_cons,AV.noRefs,AV.noRef,true_and]; exact AV.noRefs_map_d l ds
theorem noRef_cellAV(l:List Nat)(v:Value):(zdB v).noRef l:=by unfold zdB; split <;> simp[AV.noRef]
theorem zlu(l:List Nat): ∀vs:List Value,AV.noRefs l (vs.map zdB)
 | []=>by simp[AV.noRefs]
 | v::vs=>by simp only[List.map_cons,AV.noRefs]; exact⟨noRef_cellAV l v,zlu l vs⟩
theorem noRef_mkAgg{l:List Nat}{cs:List AV}(h:AV.noRefs l cs):(zu0 cs).noRef l:=by unfold zu0; split <;> simp[AV.noRef,h]
theorem zxm(l:List Nat)(v:Value):(zjM v).noRef l:=by
 unfold zjM;split
 ·exact noRef_mkAgg (zlu l _)
 all_goals simp[AV.noRef]

theorem q_new(hm:Mem c O W F η S)(hf:zff dst O)(cs:List AV)(vs:List Value)(e:TypeId)(hc:zaN O W F η cs vs)(hn:AV.noRefs [dst] cs){r:Result Next}
  (hr:r= .ok (.value (.pointer (some ⟨W.heap.size,0,none⟩))) (W.alloc (.cells vs.toArray e))):zeM c O W F η dst r (.bp dst 0) (some (.box cs)):=by
 have hk:=za7.create (O:=O) (dst:=dst) (η:=η) (o:=.box cs) (.pointer (some ⟨W.heap.size,0,none⟩));have hS:=hm.gone dst hf.1;obtain⟨h1,h2⟩:=Mem.change (W':=W.alloc (.cells vs.toArray e)) (F':=F) hm dst (some (.box cs)) (.pointer (some ⟨W.heap.size,0,none⟩)) [W.heap.size] [dst] rfl rfl rfl (by simp)
  (fun b hb _=>Below.heap_alloc W _ b hb) (fun _ h=>h) (fun _ h=>.inl h) (fun b hb hF=>by have:=hm.flt b hF; simp at hb; omega)
  (by simp) (fun b hb=>.inr (by simp at hb ⊢; omega)) (fun h=>by cases h) hk (fun id o ho _=>hf.2 id o ho)
  (fun o ho hF=>by
   cases ho;exact⟨W.heap.size,vs.toArray,e,rfl,rfl,heap_alloc_new W _,by simpa using zaN.pres hk hF cs vs hn hc⟩)
 refine⟨_,_,F,_,_,hr,h1,hk,h2,?_,fun h=>by cases h⟩;simp only[zaL,addO];intro cs' _;exact⟨W.heap.size,by simp[upd],rfl⟩

theorem zeK{P:Program}{t:TypeId}{z:List Value}(h:zad P t=some z): ∃i u,P.info? t=some i/\i.zero=some u/\u.cells.toList=z:=by
 unfold zad at h;split at h
 ·rename_i i hi;simp only[Option.map_eq_some_iff]at h;obtain⟨u,h1,h2⟩:=h;exact⟨i,u,hi,h1,h2⟩
 ·cases h

theorem q_alloc(hm:Mem c O W F η S)(t:TypeId)(ho:o.op= .alloc t)(hf:zff dst O)(hq:zeu c.P dst ρ O (.alloc t)=some (vc,V,n)):
  zeM c O W F η dst ((execOp a o).run c.P W) V n:=by
 simp only[zeu,Option.map_eq_some_iff,Prod.mk.injEq]at hq;obtain⟨z,hz,_,rfl,rfl⟩:=hq;obtain⟨i,u,h1,h2,h3⟩:=zeK hz;refine q_new hm hf _ z t (zdY z) (zlu _ z) ?_;simp[execOp,ho,Instr.alloc,zeroValue,typeInfo,h1,h2,newVar,newRow,<-h3]

theorem ztG(hm:Mem c O W F η S){x:AV}{v:Value}(h:zaL O W F η x v)(hone:x.one O):v.cells=#[v]:=by
 cases x with
 | d y=>
  cases y with
  | lit u=>simp only[zaL,Rd]at h; subst h; simp only[AV.one,D.one]at hone; cases v <;> first | rfl | simp[Value.oneCell']at hone
  | agg _=>simp[AV.one,D.one]at hone
  | sl es=>simp only[zaL,Rd]at h; obtain⟨⟨_,_,rfl,_⟩,_⟩:=h; rfl
  | ptr cs=>simp only[zaL,Rd]at h; obtain⟨_,_,rfl,_⟩:=h; rfl
  | ifc t y=>simp only[zaL,Rd]at h; obtain⟨_,rfl,_⟩:=h; rfl
  | clo f p q=>simp only[zaL,Rd]at h; obtain⟨_,_,rfl,_⟩:=h; rfl
  | mp=>simp only[zaL,Rd]at h; obtain⟨_,_,rfl,_⟩:=h; rfl
 | nils=>simp only[zaL]at h; subst h; rfl
 | emp=>simp only[zaL]at h; obtain⟨b,rfl⟩:=h; rfl
 | ar id m=>
  simp only[AV.one]at hone;split at hone
  ·rename_i e k dep es hO;simp only[zaL]at h;have h1:=(h _ _ _ _ hO).2 hone;obtain⟨_,hrel⟩:=(hm.obj id _ hO).arr;rcases hrel.2.2 with⟨h2,_,_⟩ | ⟨g,cap,cur,s1,hη,_⟩
   ·obtain⟨ad,h2⟩:=h2; rw[h1,h2]; rfl
   ·rw[h1,hη]; rfl
  ·exact hone.elim
 | ep id m i off=>
  simp only[AV.one]at hone;split at hone
  ·rename_i e k dep es hO;simp only[zaL]at h;obtain⟨g,len,cap,_,h2⟩:=(h _ _ _ _ hO).2 hone;rw[h2]; rfl
  ·exact hone.elim
 | bp id off=>
  simp only[AV.one]at hone;split at hone
  ·rename_i cs hO;simp only[zaL]at h;obtain⟨b,_,h2⟩:=h _ hO;rw[h2]; rfl
  ·exact hone.elim
 | mo id=>
  simp only[AV.one]at hone;split at hone
  ·rename_i hO;simp only[zaL]at h;obtain⟨b,h1,_⟩:=hm.obj id _ hO;rw[h _ hO rfl,h1]; rfl
  ·rename_i hO;simp only[zaL]at h;obtain⟨r,b,h1,_⟩:=hm.obj id _ hO;rw[h _ hO rfl,h1]; rfl
  ·exact hone.elim
 | clo f p q=>simp only[zaL]at h; obtain⟨_,_,rfl,_⟩:=h; rfl
 | dead=>simp[AV.one]at hone
 | und=>simp[AV.one]at hone
 | agg _=>simp[AV.one]at hone
 | tup _=>simp[AV.one]at hone
 | sub=>simp[AV.one]at hone
 | yv id=>
  simp only[AV.one]at hone;split at hone
  ·rename_i hO;simp only[zaL]at h;rw[h _ _ _ _ _ hO];rfl
  ·exact hone.elim

theorem cells_one{v:Value}(h:v.cells=#[v])(ht: ∀vs,v≠ .tuple vs):v.oneCell'=true:=by
 cases v <;> first | rfl | skip
 ·rename_i cs;simp only[Value.cells]at h;have:=congrArg SizeOf.sizeOf h;simp at this;omega
 ·rename_i vs; exact absurd rfl (ht vs)

theorem ziC(hm:Mem c O W F η S){ag:Bool}{x:AV}{v:Value}{cs:List AV}(h:zaL O W F η x v)(hc:cellsOf ag x=some cs)(h1:ones O cs):zaN O W F η cs v.cells.toList:=by
 unfold cellsOf at hc;split at hc
 ·split at hc
  ·simp only[Option.some.injEq]at hc;subst hc;simp only[zaL,Rd]at h;obtain⟨vs,rfl,h2⟩:=h;rw[zaN.of_ds];simpa [Value.cells]using h2
  ·simp only[Option.some.injEq]at hc;subst hc;simp only[zaL]at h;obtain⟨vs,rfl,h2⟩:=h;simpa [Value.cells]using h2
  ·cases hc
 ·simp only[Option.some.injEq]at hc;subst hc;simp only[ones,and_true]at h1;rw[ztG hm h h1];simp only[zaN];exact⟨v,[],rfl,h,rfl⟩

theorem zuP{l:List Nat}{ag:Bool}{x:AV}{cs:List AV}(hc:cellsOf ag x=some cs)(hn:x.noRef l):AV.noRefs l cs:=by
 unfold cellsOf at hc;split at hc
 ·split at hc
  ·simp only[Option.some.injEq]at hc; subst hc; exact AV.noRefs_map_d l _
  ·simp only[Option.some.injEq]at hc; subst hc; simpa [AV.noRef]using hn
  ·cases hc
 ·simp only[Option.some.injEq]at hc; subst hc; simp[AV.noRefs,hn]

theorem q_box(hm:Mem c O W F η S)(hρ: ∀x,zaL O W F η (ρ x) (a x))(hn: ∀x,(ρ x).noRef [dst])(t:TypeId)(x:Operand)(ho:o.op= .box t x)(hf:zff dst O)(hq:zeu c.P dst ρ O (.box t x)=some (vc,V,n))(hvc:vc):
  zeM c O W F η dst ((execOp a o).run c.P W) V n:=by
 simp only[zeu]at hq;split at hq
 case h_2=>cases hq
 rename_i ag sz hl;split at hq
 case h_2=>cases hq
 rename_i cs hcs;simp only[Option.some.injEq,Prod.mk.injEq]at hq;obtain⟨rfl,rfl,rfl⟩:=hq;refine q_new hm hf cs _ t (ziC hm (hρ x) hcs hvc) (zuP hcs (hn x)) ?_;simp[execOp,ho,Instr.box,newVar,newRow]

theorem zipIdx_set(vs:List Value): ∀(off k:Nat) (cells:List Value),off+k+vs.length<=cells.length->
  ((vs.zipIdx k).foldl (fun(cs:Array Value) p=>cs.setIfInBounds (off+p.2) p.1) cells.toArray)=(cells.take (off+k)++vs++cells.drop (off+k+vs.length)).toArray :=by
 induction vs with
 | nil=>intro off k cells h; simp
 | cons v vs ih=>
  intro off k cells h;simp only[List.length_cons]at h;simp only[List.zipIdx_cons,List.foldl_cons,List.setIfInBounds_toArray,List.length_cons];rw[ih off (k+1) _ (by simp; omega)];congr 1;apply List.ext_getElem?;intro i;simp only[List.getElem?_append,List.getElem?_take,List.getElem?_drop,List.length_append,List.length_take,List.length_set,List.getElem?_set,List.length_cons];by_cases h1:i<off+k
  ·simp[h1,show i<off+(k+1) by omega,show min (off+(k+1)) cells.length=off+(k+1) by omega,show min (off+k) cells.length=off+k by omega,show off+k≠i by omega,show i<off+k+(vs.length+1) by omega,show i<off+(k+1)+vs.length by omega]
  ·by_cases h2:i=off+k
   ·subst h2;simp[show min (off+(k+1)) cells.length=off+(k+1) by omega,show min (off+k) cells.length=off+k by omega,show off+k<off+(k+1) by omega,show off+k<cells.length by omega,show off+k<off+(k+1)+vs.length by omega]
   ·by_cases h3:i<off+k+(vs.length+1)
    ·have e1: ¬i<off+(k+1):=(by omega);have e2:min (off+(k+1)) cells.length=off+(k+1):=(by omega);have e3:min (off+k) cells.length=off+k:=(by omega);have e4:i<off+(k+1)+vs.length:=(by omega);simp only[e1,e2,e3,e4,h1,h3,if_true,if_false];rw[show i-(off+k)=(i-(off+(k+1)))+1 by omega,List.getElem?_cons_succ]
    ·have e1: ¬i<off+(k+1)+vs.length:=(by omega);have e2:min (off+(k+1)) cells.length=off+(k+1):=(by omega);have e3:min (off+k) cells.length=off+k:=(by omega);simp only[e2,e3,e1,h3,if_false];rw[if_neg (by omega)];congr 1;omega

theorem ztQ{P:Program}{t:TypeId}{i off:Nat}{ag:Bool}{n:Nat}(h:zag P t i=some (off,ag,n)):
  (∃len e,P.underlying t=some (.array len e)/\lay P e=some (ag,n)/\off=i*n)\/(∃fs fd,P.underlying t=some (.struct fs)/\fs[i]? =some fd/\fd.offset=off/\lay P fd.type=some (ag,n)):=by
 unfold zag at h;split at h
 ·rename_i len e hu;simp only[Option.map_eq_some_iff,Prod.mk.injEq]at h;obtain⟨p,h1,h2,h3,h4⟩:=h;refine .inl ⟨len,e,hu,by rw[h1]; simp[<-h3,<-h4],by rw[<-h2,h4]⟩
 ·obtain⟨fs,fd,h1,h2,h3,h4⟩:=zms h;exact .inr ⟨fs,fd,h1,h2,h3,h4⟩

theorem zmt(hm:Mem c O W F η S)(hρ: ∀x,zaL O W F η (ρ x) (a x)){pl:Nat->Option (Nat×Bool×Nat)}(place:Nat->Option (Nat×Nat))(hp: ∀i off ag n,pl i=some (off,ag,n)->place i=some (off,n)):
  ∀(ps:List (Nat×Operand)) (cs:List AV) (cells:List Value) (r:Prop×List AV),zaN O W F η cs cells->zod pl ρ O ps cs=some r->r.1->
   ∃cells',Instr.fill place cells.toArray (ps.map fun p=>(p.1,a p.2))=some cells'.toArray/\zaN O W F η r.2 cells':=by
 intro ps
 induction ps with
 | nil=>
  intro cs cells r h1 h2 _;simp only[zod,Option.some.injEq]at h2;subst h2;exact⟨cells,rfl,h1⟩
 | cons p ps ih=>
  intro cs cells r h1 h2 h3;obtain⟨i,x⟩:=p;simp only[zod]at h2;split at h2
  case h_2=>cases h2
  rename_i off ag sz hpl;split at h2
  case h_2=>cases h2
  rename_i xs hxs;split at h2
  case isFalse=>cases h2
  rename_i hsz;simp only[Option.map_eq_some_iff]at h2;obtain⟨r',h4,rfl⟩:=h2;obtain⟨h5,h6⟩:=h3;have h7:=ziC hm (hρ x) hxs h5;have hl:=zaN.length _ _ h7;have hl2:=zaN.length _ _ h1;have h8:zaN O W F η (cs.take off++xs++cs.drop (off+sz)) (cells.take off++(a x).cells.toList ++cells.drop (off+sz)):=by
   refine(zaN.append _ _ _).2 ⟨_,_,rfl,(zaN.append _ _ _).2 ⟨_,_,rfl,zaN.take _ _ off h1,h7⟩,zaN.drop _ _ (off+sz) h1⟩
  obtain⟨cells',h9,h10⟩:=ih _ _ _ h8 h4 h6;refine⟨cells',?_,h10⟩;simp only[List.map_cons,Instr.fill,hp i off ag sz hpl];have hc:(a x).cells.size =sz:=by rw[<-Array.length_toList,hl]; exact hsz.1
  have hfit:off+sz<=cells.length:=by have:=hsz.2; omega
  rw[if_neg (by simp[hc]; omega)];have hz:=zipIdx_set (a x).cells.toList off 0 cells (by rw[Array.length_toList,hc]; omega);have:(a x).cells.zipIdx.foldl (fun cs p=>cs.setIfInBounds (off+p.2) p.1) cells.toArray=(cells.take off++(a x).cells.toList ++cells.drop (off+sz)).toArray :=by
   rw[<-Array.foldl_toList,Array.toList_zipIdx,hz];simp only[Nat.add_zero,Array.length_toList,hc]
  rw[this];exact h9

theorem zud{P:Program}{W:World}: ∀(fs:List Field),(∀f∈fs,∃i,P.info? f.type=some i)->
  (fs.mapM fun f=>Prod.mk f.offset<$>sizeOf f.type).run P W= .ok (fs.map fun f=>(f.offset,((P.info? f.type).map (·.size)).getD 0)) W
 | [],_=>by simp
 | f::fs,h=>by
  obtain⟨i,hi⟩:=h f (by simp);have hs:(sizeOf f.type).run P W= .ok i.size W:=by simp[sizeOf,typeInfo,hi]
  simp[List.mapM_cons,hs,hi,zud fs (fun g hg=>h g (by simp[hg]))]

theorem q_build(hm:Mem c O W F η S)(hρ: ∀x,zaL O W F η (ρ x) (a x))(t:TypeId)(ps:Array (Nat×Operand))(ho:o.op= .build t ps)(hq:zeu c.P dst ρ O (.build t ps)=some (vc,V,n))(hvc:vc):
  zeM c O W F η dst ((execOp a o).run c.P W) V n:=by
 simp only[zeu]at hq;split at hq
 case h_2=>cases hq
 rename_i z hz hpl;simp only[Option.map_eq_some_iff,Prod.mk.injEq]at hq;obtain⟨r,hr,rfl,rfl,rfl⟩:=hq;have hcase:(∃fs,c.P.underlying t=some (.struct fs))\/ ∃len e,c.P.underlying t=some (.array len e):=by
  unfold zaB at hpl;split at hpl
  ·rename_i fs hu; exact .inl ⟨_,hu⟩
  ·rename_i len e hu; exact .inr ⟨_,_,hu⟩
  ·cases hpl
 rcases hcase with⟨fs,hu⟩ | ⟨len,e,hu⟩
 ·skip
  obtain⟨i,u,h1,h2,h3⟩:=zeK hz;obtain⟨cells',h4,h5⟩:=zmt hm hρ (fun i=>(fs[i]?).map fun fd=>(fd.offset,((c.P.info? fd.type).map (·.size)).getD 0)) (fun i off ag n hp=>by
   rcases ztQ hp with⟨len,e,hu',_⟩ | ⟨fs',fd,hu',hfd,ho',hl⟩
   ·rw[hu]at hu'; cases hu'
   ·rw[hu]at hu'; cases hu';obtain⟨d,inf,h5,h6,h7,_⟩:=ze4 hl;simp[hfd,ho',h6,h7]) ps.toList _ z r (zdY z) hr hvc
  refine zeM.same hm (v:=.agg cells'.toArray) ?_ (ziw _ _ h5);have hpl': ∀f∈fs.toList,∃i,c.P.info? f.type=some i:=by
   simp only[zaB,hu,List.all_eq_true,Option.isSome_iff_exists]at hpl;exact hpl
  have hrun:=zud (P:=c.P) (W:=W) fs.toList hpl';have hcells:u.cells=z.toArray:=by rw[<-h3]
  simp[execOp,ho,Instr.build,zeroValue,typeInfo,h1,h2,run_underlying hu,Array.mapM_eq_mapM_toList,hrun,hcells,h4]
 ·skip
  obtain⟨i,u,h1,h2,h3⟩:=zeK hz;obtain⟨cells',h4,h5⟩:=zmt hm hρ (fun i=>some (i*((c.P.info? e).map (·.size)).getD 0,((c.P.info? e).map (·.size)).getD 0)) (fun i off ag n hp=>by
   rcases ztQ hp with⟨len',e',hu',hl,ho'⟩ | ⟨fs',fd,hu',_⟩
   ·rw[hu]at hu'; cases hu';obtain⟨d,inf,h5,h6,h7,_⟩:=ze4 hl;simp[ho',h6,h7]
   ·rw[hu]at hu'; cases hu') ps.toList _ z r (zdY z) hr hvc
  refine zeM.same hm (v:=.agg cells'.toArray) ?_ (ziw _ _ h5);simp only[zaB,hu,Option.isSome_iff_exists]at hpl;obtain⟨ie,hie⟩:=hpl;have hcells:u.cells=z.toArray:=by rw[<-h3]
  simp only[hie,Option.map_some,Option.getD_some]at h4;simp[execOp,ho,Instr.build,zeroValue,typeInfo,h1,h2,run_underlying hu,sizeOf,hie,hcells,h4]
end
end Go.Aw
