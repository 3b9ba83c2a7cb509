/- Machinery. Conditions: those of each. -/
import Derived.Test.YtplfjjgkbnolhaaGreatDoorGQs
import Derived.Laws.BytesString
import Derived.Laws.StructEq
import Derived.ChangeKeysEq
set_option linter.unusedSimpArgs false
set_option linter.unusedVariables false
/-
 THE OPERATIONS THAT READ AND MAKE, GO ON: checks, arithmetic, addresses, parts, lengths; new variables.
 Conditions: those of 'qsem'; over any program.
-/
namespace Go.Aw
open Go.RowKit

section
variable {c:Ctx} {O:zbI} {W:World} {F:Nat->Prop} {η:Nat->Value} {S:Nat->List Nat} {dst:Nat} {ρ:Operand->AV} {a:Operand->Value} {o:Oper} {vc:Prop} {V:AV} {n:Option AO}

theorem q_nilCheck(hm:Mem c O W F η S)(hρ: ∀x,zaL O W F η (ρ x) (a x))(x:Operand)(ho:o.op= .nilCheck x)(hq:zeu c.P dst ρ O (.nilCheck x)=some (vc,V,n))(hvc:vc):
  zeM c O W F η dst ((execOp a o).run c.P W) V n:=by
 simp only[zeu]at hq;have hx:=hρ x;split at hq
 ·rename_i cs hcs;simp only[Option.some.injEq,Prod.mk.injEq]at hq;obtain⟨_,rfl,rfl⟩:=hq;rw[hcs]at hx;have hx':=hx;simp only[zaL,Rd]at hx;obtain⟨b,off,hp,_⟩:=hx;refine zeM.same hm (v:=a x) ?_ hx';simp[execOp,ho,hp]
 ·rename_i id off hcs;rw[hcs]at hx;split at hq
  case h_2=>cases hq
  rename_i cs hO;simp only[Option.some.injEq,Prod.mk.injEq]at hq;obtain⟨_,rfl,rfl⟩:=hq;have hx':=hx;simp only[zaL]at hx;obtain⟨b,hη,hp⟩:=hx cs hO;refine zeM.same hm (v:=a x) ?_ hx';simp[execOp,ho,hp]
 ·rename_i id m i off hcs;rw[hcs]at hx;split at hq
  case h_2=>cases hq
  rename_i e k dep es hO;simp only[Option.some.injEq,Prod.mk.injEq]at hq;obtain⟨rfl,rfl,rfl⟩:=hq;have hx':=hx;simp only[zaL]at hx;obtain⟨g,len,cap,hη,hp⟩:=(hx e k dep es hO).2 hvc;refine zeM.same hm (v:=a x) ?_ hx';simp[execOp,ho,hp]
 ·rename_i f as bs hcs;simp only[Option.some.injEq,Prod.mk.injEq]at hq;obtain⟨_,rfl,rfl⟩:=hq;rw[hcs]at hx;have hx':=hx;simp only[zaL,Rd]at hx;obtain⟨as',bs',hp,_⟩:=hx;refine zeM.same hm (v:=a x) ?_ hx';simp[execOp,ho,hp]
 ·cases hq

theorem eqGuard_lit(P:Program)(W:World)(op:BinOp)(t:TypeId)(x y:Operand)(u v:Value)(h: ∀r,zmJ op u v=some r->True)(hu: ¬(∃cs,u= .agg cs))(hn:u≠ .nilIface):
  (eqGuard op t x y u v).run P W= .ok () W:=by
 unfold eqGuard;cases op <;> simp <;> (cases u <;> simp_all)

theorem ztl{op:BinOp}{u v:Value}{r:Prop×Value}(h:zmJ op u v=some r): ¬(∃cs,u= .agg cs)/\u≠ .nilIface :=by
 unfold zmJ at h;constructor
 ·rintro⟨cs,rfl⟩;cases op <;> simp at h
 ·rintro rfl;cases op <;> simp at h

theorem zxA{P:Program}{W:World}{op:BinOp}{t:TypeId}{u v:Value}{r:Prop×Value}(h:zmJ op u v=some r)(hr:r.1):(binOp op t u v).run P W= .ok r.2 W:=by
 unfold zmJ at h;split at h <;> cases h <;> dsimp only at hr ⊢
 all_goals first
  | (rw[<-Int.not_lt]at hr; simp[binOp,Op.shift,hr]; done)
  | (subst hr; simp[binOp,Op.intArith,Op.intBits,Op.intCmp]; done)
  | (obtain⟨rfl,hr⟩:=hr; simp[binOp,Op.intDiv,hr]; done)
  | (simp[binOp,Op.stringOp]; done)
  | (rw[<-Int.not_lt]at hr; simp only[binOp,Op.stringOp,if_neg hr,Sem.run_pure])

theorem zuc{P:Program}{W:World}{t:TypeId}{g:Nat}{u v:Value}{r:Bool}(ht:zuT P t=some g)(h:litEq g u v=some r)(d:Nat):(Op.equalIn (d+1) t u v).run P W= .ok r W:=by
 unfold zuT at ht;split at ht
 case h_2=>cases ht
 rename_i hl;unfold litEq at h;split at ht <;> (try cases ht) <;> rename_i hu
 ·split at h <;> simp_all;obtain⟨rfl,rfl⟩:=h;exact run_equalIn_int W d t _ _ _ _ hu
 ·split at h <;> simp_all;subst h;exact run_equalIn_bool' W d t _ _ hu
 ·split at h <;> simp_all;subst h;exact run_equalIn_string W d t _ _ hu
theorem zpB{P:Program}{W:World}{t:TypeId}{b:Bool}{n:Nat}(h:lay P t=some (b,n)):(isAgg t).run P W= .ok b W:=by
 obtain⟨d,i,h1,h2,h3,h4⟩:=ze4 h;simp only[isAgg,Sem.run_bind,run_underlying h1,Result.andThen_ok];unfold lay at h;rw[h1,h2]at h;cases d <;> simp at h <;> simp_all
theorem zlq{g:Nat}{gs:List Nat}{xs ys:List D}{r:Bool}(h:zfJ (g::gs) xs ys=some r):
  ∃a xs' b ys' p q,xs= .lit a::xs'/\ys= .lit b::ys'/\litEq g a b=some p/\zfJ gs xs' ys'=some q/\(p&&q)=r:=by
 cases xs with
 | nil=>simp[zfJ]at h
 | cons x xs=>
  cases ys with
  | nil=>cases x <;> simp[zfJ]at h
  | cons y ys=>
   cases x <;> cases y <;> simp only[zfJ]at h <;> try (cases h; done)
   split at h
   ·rename_i p q hp hq;simp only[Option.some.injEq]at h;exact⟨_,_,_,_,p,q,rfl,rfl,hp,hq,h⟩
   ·cases h
theorem zub{P:Program}{e:TypeId}{g:Nat}(hg:zuT P e=some g)(d:Nat): ∀(n i:Nat) (xs ys:List D) (us vs:List Value) (W:World) (F:Nat->Prop) (W0:World) (r:Bool),zfJ (List.replicate n g) xs ys=some r->zav W0 F xs (us.drop i)->zav W0 F ys (vs.drop i)->
  (Op.eqItems (d+1) e 1 us.toArray vs.toArray (List.range' i n)).run P W= .ok r W
 | 0,i,xs,ys,us,vs,W,F,W0,r,h2,h3,h4=>by
  unfold zfJ at h2;split at h2 <;> simp_all;subst h2;simp[Op.eqItems]
 | n+1,i,xs,ys,us,vs,W,F,W0,r,h2,h3,h4=>by
  rw[List.replicate_succ]at h2;obtain⟨a,xs',b,ys',p,q,rfl,rfl,hp,hq,rfl⟩:=zlq h2;simp only[zav,Rd]at h3 h4;obtain⟨u,us',e1,rfl,h5⟩:=h3;obtain⟨v,vs',e2,rfl,h6⟩:=h4;have hl:lay P e=some (false,1):=by
   unfold zuT at hg;split at hg
   ·rename_i h; exact h
   ·cases hg
  have part1: ∀(ws ws':List Value) (w:Value),ws.drop i=w::ws'->(part e ws.toArray (i*1)).run P W= .ok w W:=by
   intro ws ws' w e;have h7:ws[i]? =some w:=by
    have:=congrArg (·[0]?) e;simpa using this
   simp[part,Sem.run_bind,zpB hl,h7]
  simp only[List.range'_succ,Op.eqItems,Sem.run_bind,part1 us us' _ e1,part1 vs vs' _ e2,Result.andThen_ok,zuc hg hp d];have ih:=zub hg d n (i+1) xs' ys' us vs W F W0 q hq (by rw[<-List.drop_drop,e1]; simpa using h5) (by rw[<-List.drop_drop,e2]; simpa using h6);cases p
  ·simp
  ·simpa using ih
theorem zrd{P:Program}(d:Nat): ∀(fs:List Field) (i:Nat) (gs:List Nat) (xs ys:List D) (us vs:List Value) (W:World) (F:Nat->Prop) (W0:World) (r:Bool),eqTags P i fs=some gs->zfJ gs xs ys=some r->zav W0 F xs (us.drop i)->zav W0 F ys (vs.drop i)->
  (Op.eqFields (d+1) us.toArray vs.toArray fs).run P W= .ok r W
 | [],i,gs,xs,ys,us,vs,W,F,W0,r,h1,h2,h3,h4=>by
  simp only[eqTags,Option.some.injEq]at h1;subst h1;unfold zfJ at h2;split at h2 <;> simp_all;subst h2;simp[Op.eqFields]
 | f::fs,i,gs,xs,ys,us,vs,W,F,W0,r,h1,h2,h3,h4=>by
  simp only[eqTags]at h1;split at h1
  case isFalse=>cases h1
  rename_i hn;split at h1
  case h_2=>cases h1
  rename_i g gs' hg hgs;simp only[Option.some.injEq]at h1;subst h1;obtain⟨a,xs',b,ys',p,q,rfl,rfl,hp,hq,rfl⟩:=zlq h2;simp only[zav,Rd]at h3 h4;obtain⟨u,us',e1,rfl,h5⟩:=h3;obtain⟨v,vs',e2,rfl,h6⟩:=h4;have hl:lay P f.type=some (false,1):=by
   unfold zuT at hg;split at hg
   ·rename_i h; exact h
   ·cases hg
  have part1: ∀(ws ws':List Value) (w:Value),ws.drop i=w::ws'->(part f.type ws.toArray f.offset).run P W= .ok w W:=by
   intro ws ws' w e;have h7:ws[i]? =some w:=by
    have:=congrArg (·[0]?) e;simpa using this
   simp[part,Sem.run_bind,zpB hl,hn.2,h7]
  simp only[Op.eqFields,if_pos hn.1,Sem.run_bind,part1 us us' _ e1,part1 vs vs' _ e2,Result.andThen_ok,zuc hg hp d];have ih:=zrd d fs (i+1) gs' xs' ys' us vs W F W0 q hgs hq (by rw[<-List.drop_drop,e1]; simpa using h5) (by rw[<-List.drop_drop,e2]; simpa using h6);cases p
  ·simp
  ·simpa using ih

theorem zpl: ∀ {gs gs':List Nat} {xs ys:List D} {r:Bool},zfJ (gs++gs') xs ys=some r->
  ∃x1 x2 y1 y2 p q,xs=x1++x2/\ys=y1++y2/\x1.length=gs.length/\y1.length=gs.length/\zfJ gs x1 y1=some p/\zfJ gs' x2 y2=some q/\(p&&q)=r
 | [],gs',xs,ys,r,h=>⟨[],xs,[],ys,true,r,rfl,rfl,rfl,rfl,rfl,h,by simp⟩
 | g::gs,gs',xs,ys,r,h=>by
  obtain⟨a,xs',b,ys',p,q,rfl,rfl,hp,hq,rfl⟩:=zlq h;obtain⟨x1,x2,y1,y2,p',q',rfl,rfl,l1,l2,h1,h2,rfl⟩:=zpl hq;exact⟨.lit a::x1,x2,.lit b::y1,y2,p&&p',q',rfl,rfl,by simp[l1],by simp[l2],by simp[zfJ,hp,h1],h2,by rw[Bool.and_assoc]⟩
theorem zlF{P:Program}(d:Nat): ∀(fs:List Field) (i:Nat) (gs:List Nat) (xs ys:List D) (us vs:List Value) (W:World) (F:Nat->Prop) (W0:World) (r:Bool),zqc P i fs=some gs->zfJ gs xs ys=some r->zav W0 F xs (us.drop i)->zav W0 F ys (vs.drop i)->
  (Op.eqFields (d+2) us.toArray vs.toArray fs).run P W= .ok r W
 | [],i,gs,xs,ys,us,vs,W,F,W0,r,h1,h2,h3,h4=>by
  simp only[zqc,Option.some.injEq]at h1;subst h1;unfold zfJ at h2;split at h2 <;> simp_all;subst h2;simp[Op.eqFields]
 | f::fs,i,gs,xs,ys,us,vs,W,F,W0,r,h1,h2,h3,h4=>by
  simp only[zqc]at h1;split at h1
  case isFalse=>cases h1
  rename_i hn;split at h1
  ·rename_i g hg;split at h1
   case h_2=>cases h1
   rename_i gs' hgs;simp only[Option.some.injEq]at h1;subst h1;obtain⟨a,xs',b,ys',p,q,rfl,rfl,hp,hq,rfl⟩:=zlq h2;simp only[zav,Rd]at h3 h4;obtain⟨u,us',e1,rfl,h5⟩:=h3;obtain⟨v,vs',e2,rfl,h6⟩:=h4;have hl:lay P f.type=some (false,1):=by
    unfold zuT at hg;split at hg
    ·rename_i h; exact h
    ·cases hg
   have part1: ∀(ws ws':List Value) (w:Value),ws.drop i=w::ws'->(part f.type ws.toArray f.offset).run P W= .ok w W:=by
    intro ws ws' w e;have h7:ws[i]? =some w:=by
     have:=congrArg (·[0]?) e;simpa using this
    simp[part,Sem.run_bind,zpB hl,hn.2,h7]
   simp only[Op.eqFields,if_pos hn.1,Sem.run_bind,part1 us us' _ e1,part1 vs vs' _ e2,Result.andThen_ok,zuc hg hp (d+1)];have ih:=zlF d fs (i+1) gs' xs' ys' us vs W F W0 q hgs hq (by rw[<-List.drop_drop,e1]; simpa using h5) (by rw[<-List.drop_drop,e2]; simpa using h6);cases p
   ·simp
   ·simpa using ih
  ·rename_i hg;split at h1
   case h_2=>cases h1
   rename_i fs' n hu hl;split at h1
   case isFalse=>cases h1
   rename_i hst;split at h1
   case h_2=>cases h1
   rename_i gs' gs'' hgs' hgs;split at h1
   case isFalse=>cases h1
   rename_i hlen;simp only[Option.some.injEq]at h1;subst h1;obtain⟨x1,x2,y1,y2,p,q,rfl,rfl,l1,l2,hp,hq,rfl⟩:=zpl h2;obtain⟨u1,u2,e1,h5,h7⟩:=(zav.append _ _ _).1 h3;obtain⟨v1,v2,e2,h6,h8⟩:=(zav.append _ _ _).1 h4;have hu1:u1.length=n:=by rw[zav.length _ _ h5,l1,hlen]
   have hv1:v1.length=n:=by rw[zav.length _ _ h6,l2,hlen]
   obtain⟨dd,ii,i1,i2,i3,i4⟩:=ze4 hl;have part1: ∀(ws w1 w2:List Value),ws.drop i=w1++w2->w1.length=n->(part f.type ws.toArray f.offset).run P W= .ok (.agg w1.toArray) W:=by
    intro ws w1 w2 e hw;simp[part,Sem.run_bind,zpB hl,hn.2,sizeOf,typeInfo,i2,i3];rw[e];exact List.take_left' hw
   have hf:P.fieldsOf f.type=fs':=by simp[Program.fieldsOf,hu]
   have heq:(Op.equalIn (d+2) f.type (.agg u1.toArray) (.agg v1.toArray)).run P W= .ok p W:=by
    rw[run_equalIn_struct W (d+1) f.type u1.toArray v1.toArray (by rw[hf]; exact hu) hst,hf];exact zrd d fs'.toList 0 gs' x1 y1 u1 v1 W F W0 p hgs' hp (by simpa using h5) (by simpa using h6)
   simp only[Op.eqFields,if_pos hn.1,Sem.run_bind,part1 us u1 u2 e1 hu1,part1 vs v1 v2 e2 hv1,Result.andThen_ok,heq];have ih:=zlF d fs (i+n) gs'' x2 y2 us vs W F W0 q hgs hq (by rw[<-List.drop_drop,e1,List.drop_left' hu1]; exact h7) (by rw[<-List.drop_drop,e2,List.drop_left' hv1]; exact h8);cases p
   ·simp
   ·simpa using ih
theorem zGi{P:Program}(W:World)(t:TypeId){ms:Array (String×TypeId)}(ht:P.underlying t=some (.interface ms)):(Op.equal t .nilIface .nilIface).run P W= .ok true W:=by
 have h: ∀d,(Op.equalIn (d+1) t .nilIface .nilIface).run P W= .ok true W:=fun d=>by simp[Op.equalIn,run_underlying ht]
 exact h 9999
theorem zGh{P:Program}(W:World)(t u:TypeId)(v:Value){ms:Array (String×TypeId)}(ht:P.underlying t=some (.interface ms)):(Op.equal t (.iface u v) .nilIface).run P W= .ok false W:=by
 have h: ∀d,(Op.equalIn (d+1) t (.iface u v) .nilIface).run P W= .ok false W:=fun d=>by simp[Op.equalIn,run_underlying ht]
 exact h 9999
theorem q_binOp(hm:Mem c O W F η S)(hρ: ∀x,zaL O W F η (ρ x) (a x))(op:BinOp)(t:TypeId)(x y:Operand)(t':TypeId)(ho:o.op= .binOp op t x y t')(hq:zeu c.P dst ρ O (.binOp op t x y t')=some (vc,V,n))(hvc:vc):
  zeM c O W F η dst ((execOp a o).run c.P W) V n:=by
 simp only[zeu]at hq;split at hq
 ·rename_i u v hu hv;have h1:=hρ x;have h2:=hρ y;rw[hu]at h1;rw[hv]at h2;simp only[zaL,Rd]at h1 h2;split at hq
  ·rename_i ht;simp only[Option.some.injEq,Prod.mk.injEq]at hq;obtain⟨rfl,rfl,rfl⟩:=hq;refine zeM.same hm (v:=.bool (u==v)) ?_ (by simp[zaL,Rd]);simp[execOp,ho,h1,h2,eqGuard,binOp,run_equal_bool W t u v ht]
  ·rename_i ht;simp only[Option.some.injEq,Prod.mk.injEq]at hq;obtain⟨rfl,rfl,rfl⟩:=hq;refine zeM.same hm (v:=.bool !(u==v)) ?_ (by simp[zaL,Rd]);simp[execOp,ho,h1,h2,eqGuard,binOp,run_equal_bool W t u v ht]
  ·cases hq
 case h_6=>cases hq
 case h_2=>
  rename_i hu hv;have h1:=hρ x;have h2:=hρ y;rw[hu]at h1;rw[hv]at h2;simp only[zaL,Rd]at h1 h2;unfold ifcE at hq;split at hq
  ·rename_i ms ht;simp only[Option.some.injEq,Prod.mk.injEq]at hq;obtain⟨rfl,rfl,rfl⟩:=hq;refine zeM.same hm (v:=.bool true) ?_ (by simp[zaL,Rd]);simp[execOp,ho,h1,h2,eqGuard,binOp,zGi W t ht]
  ·rename_i ms ht;simp only[Option.some.injEq,Prod.mk.injEq]at hq;obtain⟨rfl,rfl,rfl⟩:=hq;refine zeM.same hm (v:=.bool false) ?_ (by simp[zaL,Rd]);simp[execOp,ho,h1,h2,eqGuard,binOp,zGi W t ht]
  ·cases hq
 case h_3=>
  rename_i hu hv;have h1:=hρ x;have h2:=hρ y;rw[hu]at h1;rw[hv]at h2;simp only[zaL,Rd]at h1 h2;obtain⟨v,h1,_⟩:=h1;unfold ifcE at hq;split at hq
  ·rename_i ms ht;simp only[Option.some.injEq,Prod.mk.injEq]at hq;obtain⟨rfl,rfl,rfl⟩:=hq;refine zeM.same hm (v:=.bool false) ?_ (by simp[zaL,Rd]);simp[execOp,ho,h1,h2,eqGuard,binOp,zGh W t _ v ht]
  ·rename_i ms ht;simp only[Option.some.injEq,Prod.mk.injEq]at hq;obtain⟨rfl,rfl,rfl⟩:=hq;refine zeM.same hm (v:=.bool true) ?_ (by simp[zaL,Rd]);simp[execOp,ho,h1,h2,eqGuard,binOp,zGh W t _ v ht]
  ·cases hq
 case h_5=>
  rename_i xs ys hu hv;have h1:=hρ x;have h2:=hρ y;rw[hu]at h1;rw[hv]at h2;simp only[zaL,Rd]at h1 h2;obtain⟨us,e1,h1⟩:=h1;obtain⟨vs,e2,h2⟩:=h2;have key: ∀gs r,zdE c.P t=some gs->zfJ gs xs ys=some r->(Op.equalIn 10000 t (.agg us.toArray) (.agg vs.toArray)).run c.P W= .ok r W/\c.P.eqGuardType c.P.depth t=false:=by
   intro gs r hg hr;unfold zdE at hg;split at hg
   ·rename_i fs ht;split at hg
    case isFalse=>cases hg
    rename_i hc;have hf:c.P.fieldsOf t=fs:=(by simp[Program.fieldsOf,ht]);rw[run_equalIn_struct W 9999 t us.toArray vs.toArray (by rw[hf]; exact ht) hc.2,hf];exact⟨zlF 9997 fs.toList 0 gs xs ys us vs W F W r hg hr (by simpa using h1) (by simpa using h2),hc.1⟩
   ·rename_i n e ht;split at hg
    case isFalse=>cases hg
    rename_i hc;simp only[Option.map_eq_some_iff]at hg;obtain⟨g,hg,rfl⟩:=hg;have hl:lay c.P e=some (false,1):=by
     unfold zuT at hg;split at hg
     ·rename_i h; exact h
     ·cases hg
    obtain⟨d,i,l1,l2,l3,l4⟩:=ze4 hl;rw[run_equalIn_array W 9999 us.toArray vs.toArray ht l2,show c.P.cellsOf e=1 by simp[Program.cellsOf,l2,l3],List.range_eq_range'];exact⟨zub hg 9998 n 0 xs ys us vs W F W r hr (by simpa using h1) (by simpa using h2),hc⟩
   ·cases hg
  split at hq
  ·rename_i gs hg;simp only[Option.map_eq_some_iff,Prod.mk.injEq]at hq;obtain⟨r,hr,rfl,rfl,rfl⟩:=hq;obtain⟨k1,k2⟩:=key gs r hg hr;refine zeM.same hm (v:=.bool r) ?_ (by simp[zaL,Rd]);simp[execOp,ho,e1,e2,run_eqGuard_agg W .eql t x y us.toArray vs.toArray k2,run_eql_struct W t,k1]
  ·rename_i gs hg;simp only[Option.map_eq_some_iff,Prod.mk.injEq]at hq;obtain⟨r,hr,rfl,rfl,rfl⟩:=hq;obtain⟨k1,k2⟩:=key gs r hg hr;refine zeM.same hm (v:=.bool !r) ?_ (by simp[zaL,Rd]);simp[execOp,ho,e1,e2,run_eqGuard_agg W .neq t x y us.toArray vs.toArray k2,run_neq_struct W t,k1]
  ·cases hq
 rename_i u v _ _ hu hv;simp only[Option.map_eq_some_iff,Prod.mk.injEq]at hq;obtain⟨r,hr,rfl,rfl,rfl⟩:=hq;have h1:=hρ x;have h2:=hρ y;rw[hu]at h1;rw[hv]at h2;simp only[zaL,Rd]at h1 h2;refine zeM.same hm (v:=r.2) ?_ (by simp[zaL,Rd]);have h3:=eqGuard_lit c.P W op t x y u v (fun _ _=>trivial) (ztl hr).1 (ztl hr).2;simp[execOp,ho,h1,h2,h3,zxA hr hvc]

theorem q_unOp(hm:Mem c O W F η S)(hρ: ∀x,zaL O W F η (ρ x) (a x))(op:UnOp)(t:TypeId)(x:Operand)(ho:o.op= .unOp op t x)(hq:zeu c.P dst ρ O (.unOp op t x)=some (vc,V,n)):
  zeM c O W F η dst ((execOp a o).run c.P W) V n:=by
 simp only[zeu]at hq;split at hq
 case h_2=>cases hq
 rename_i u hu;simp only[Option.map_eq_some_iff,Prod.mk.injEq]at hq;obtain⟨r,hr,_,rfl,rfl⟩:=hq;have h1:=hρ x;rw[hu]at h1;simp only[zaL,Rd]at h1;refine zeM.same hm (v:=r) ?_ (by simp[zaL,Rd]);unfold litUn at hr;split at hr <;> first | cases hr | (simp only[Option.some.injEq]at hr; subst hr)
 all_goals simp[execOp,ho,h1,Op.unary,Op.intArith]

theorem q_mkIfc(hm:Mem c O W F η S)(hρ: ∀x,zaL O W F η (ρ x) (a x))(t:TypeId)(x:Operand)(ho:o.op= .makeInterface t x)(hq:zeu c.P dst ρ O (.makeInterface t x)=some (vc,V,n)):
  zeM c O W F η dst ((execOp a o).run c.P W) V n:=by
 simp only[zeu]at hq;have h1:=hρ x;split at hq
 ·rename_i k d ht hu;simp only[Option.some.injEq,Prod.mk.injEq]at hq;obtain⟨_,rfl,rfl⟩:=hq;rw[hu]at h1;simp only[zaL]at h1;refine zeM.same hm (v:=.iface t (a x)) ?_ (by simp only[zaL,Rd]; exact⟨_,rfl,h1⟩);simp[execOp,ho,Instr.makeInterface,run_underlying ht]
 ·cases hq

theorem zDS: ∀(l:List Int) (r:ByteArray),l.foldl (fun r n=>r.push (UInt8.ofNat n.toNat)) r=⟨r.data++(l.map fun n=>UInt8.ofNat n.toNat).toArray⟩
 | [],r=>by simp
 | b::l,r=>by
  simp only[List.foldl_cons];rw[zDS l];simp[ByteArray.push]
theorem q_convert(hm:Mem c O W F η S)(hρ: ∀x,zaL O W F η (ρ x) (a x))(s t:TypeId)(x:Operand)(ho:o.op= .convert s t x)(hq:zeu c.P dst ρ O (.convert s t x)=some (vc,V,n))(hvc:vc)(hvc:vc):
  zeM c O W F η dst ((execOp a o).run c.P W) V n:=by
 simp only[zeu]at hq;have h1:=hρ x;split at hq
 ·rename_i ds k j m hs ht hu;simp only[Option.some.injEq,Prod.mk.injEq]at hq;obtain⟨_,rfl,rfl⟩:=hq;rw[hu]at h1;simp only[zaL,Rd]at h1;refine zeM.same hm (v:=.int k (k.wrap m)) ?_ (by simp[zaL,Rd]);simp[execOp,ho,h1,convert,run_underlying hs,run_underlying ht,Conv.intToInt]
 ·rename_i ds b hs ht hu;simp only[Option.some.injEq,Prod.mk.injEq]at hq;obtain⟨_,rfl,rfl⟩:=hq;rw[hu]at h1;simp only[zaL,Rd]at h1;refine zeM.same hm (v:=.string b) ?_ (by simp[zaL,Rd]);simp[execOp,ho,h1,convert,run_underlying hs,run_underlying ht]
 ·rename_i ds e es hs ht hu;split at hq
  case h_2=>cases hq
  rename_i he;simp only[Option.some.injEq,Prod.mk.injEq]at hq;obtain⟨rfl,rfl,rfl⟩:=hq;rw[hu]at h1;simp only[zaL,Rd]at h1;obtain⟨⟨ad,cap,hv,_,hne⟩,_⟩:=h1;refine zeM.same hm (v:=.string (bytesD es)) ?_ (by simp[zaL,Rd])
  suffices hr:(convert s t (a x)).run c.P W= .ok (.string (bytesD es)) W by simp[execOp,ho,hr,Result.andThen]
  rw[hv,run_convert_bytes_string W s t e ad es.length cap hs he ht];cases hes:es with
  | nil=>
   cases ad with
   | none=>rfl
   | some ad=>
    exact run_bytesToString W ad 0 cap [] (run_loadCells_list (P:=c.P) W ad [] (fun j v hj=>by simp at hj))
  | cons y ys=>
   obtain⟨b,off,k,rfl,_,hrows⟩:=hne (by rw[hes]; simp);rw[<-hes];have hld:=run_loadCells_list (P:=c.P) W ⟨b,off,none⟩ ((es.map numD).map (Value.int .u8)) (fun j v hj=>by
    obtain⟨hj1,hj2⟩:=List.getElem?_eq_some_iff.1 hj;have hj3:j<es.length:=(by simpa using hj1);have hg: ∀i:Nat,es[i]? ≠none-> ∃n,es[i]? =some [D.lit (.int .u8 n)]:=fun i hi=>by
     cases h:es[i]? with
     | none=>exact absurd h hi
     | some z=>
      obtain⟨n,rfl⟩:=hvc z (List.mem_of_getElem? h);exact⟨n,rfl⟩
    have hk:k=1:=by
     obtain⟨n,h0⟩:=hg 0 (by rw[hes]; simp);have:=(zbJ.get es off 0 _ hrows h0).1;simpa using this.symm
    subst hk;obtain⟨n,hn⟩:=hg j (by rw[List.getElem?_eq_getElem hj3]; simp);obtain⟨_,hc⟩:=zbJ.get es off j _ hrows hn;obtain⟨w,hw1,hw2⟩:=zbd.get _ _ 0 _ hc rfl;simp only[Rd]at hw2;have e1:es[j]=[.lit (.int .u8 n)]:=(by rw[List.getElem?_eq_getElem hj3]at hn; exact Option.some.inj hn);rw[<-hj2];simp only[List.getElem_map,e1,numD];rw[<-hw2,<-hw1,Addr.add_lit];simp)
   simp only[List.length_map]at hld;rw[run_bytesToString W _ _ cap _ hld,zDS];simp[bytesD,byteD,List.map_map,Function.comp_def]
 ·cases hq

theorem zms{P:Program}{t:TypeId}{f off:Nat}{ag:Bool}{n:Nat}(h:zah P t f=some (off,ag,n)):
  ∃fs fd,P.underlying t=some (.struct fs)/\fs[f]? =some fd/\fd.offset=off/\lay P fd.type=some (ag,n):=by
 unfold zah at h;split at h
 ·rename_i fs h1;split at h
  ·rename_i fd h2;simp only[Option.map_eq_some_iff,Prod.mk.injEq]at h;obtain⟨p,h3,h4,h5,h6⟩:=h;exact⟨fs,fd,h1,h2,h4,by rw[h3]; simp[<-h5,<-h6]⟩
  ·cases h
 ·cases h

theorem zoH{P:Program}{W:World}{s:TypeId}{f off:Nat}{ag:Bool}{n:Nat}(h:zah P s f=some (off,ag,n+1))(b i:Nat):
  (Instr.fieldAt s (.pointer (some ⟨b,i,none⟩)) f).run P W= .ok (.pointer (some ⟨b,i+off,none⟩)) W:=by
 obtain⟨fs,fd,h1,h2,h3,h4⟩:=zms h;obtain⟨d,inf,h5,h6,h7,_⟩:=ze4 h4;simp[Instr.fieldAt,run_underlying h1,h2,Instr.sureAddr,fieldPlace,sizeOf,typeInfo,h6,h7,h3,Addr.add_lit]

theorem q_fieldAddr(hm:Mem c O W F η S)(hρ: ∀x,zaL O W F η (ρ x) (a x))(s:TypeId)(x:Operand)(f:Nat)(ho:o.op= .fieldAddr s x f)(hq:zeu c.P dst ρ O (.fieldAddr s x f)=some (vc,V,n))(hvc:vc):
  zeM c O W F η dst ((execOp a o).run c.P W) V n:=by
 simp only[zeu]at hq;have hx:=hρ x;split at hq
 case h_2=>cases hq
 rename_i off ag sz hf;split at hq
 ·rename_i cs hcs;simp only[Option.some.injEq,Prod.mk.injEq]at hq;obtain⟨_,rfl,rfl⟩:=hq;rw[hcs]at hx;simp only[zaL,Rd]at hx;obtain⟨b,i,hp,hF,hc⟩:=hx;refine zeM.same hm (v:=.pointer (some ⟨b,i+off,none⟩)) ?_ ?_
  ·simp[execOp,ho,hp,zoH hf]
  ·simp only[zaL,Rd]; exact⟨b,i+off,rfl,hF,zbd.drop cs i off hc⟩
 ·rename_i id i hcs;rw[hcs]at hx;split at hq
  case h_2=>cases hq
  rename_i cs hO;simp only[Option.some.injEq,Prod.mk.injEq]at hq;obtain⟨_,rfl,rfl⟩:=hq;simp only[zaL]at hx;obtain⟨b,hη,hp⟩:=hx cs hO;refine zeM.same hm (v:=.pointer (some ⟨b,i+off,none⟩)) ?_ ?_
  ·simp[execOp,ho,hp,zoH hf]
  ·simp only[zaL]; intro cs' _; exact⟨b,hη,rfl⟩
 ·rename_i id m i j hcs;rw[hcs]at hx;split at hq
  case h_2=>cases hq
  rename_i e k dep es hO;simp only[Option.some.injEq,Prod.mk.injEq]at hq;obtain⟨rfl,rfl,rfl⟩:=hq;simp only[zaL]at hx;obtain⟨hle,hx⟩:=hx _ _ _ _ hO;obtain⟨g,len,cap,hη,hp⟩:=hx hvc;refine zeM.same hm (v:=.pointer (some ⟨g,i*k+j+off,none⟩)) ?_ ?_
  ·simp[execOp,ho,hp,zoH hf]
  ·simp only[zaL];intro e' k' dep' es' hO';rw[hO]at hO';simp only[Option.some.injEq,AO.arr.injEq]at hO';obtain⟨_,rfl,_,rfl⟩:=hO';exact⟨hle,fun _=>⟨g,len,cap,hη,by rw[Nat.add_assoc]⟩⟩
 ·cases hq

theorem q_field(hm:Mem c O W F η S)(hρ: ∀x,zaL O W F η (ρ x) (a x))(s:TypeId)(x:Operand)(f:Nat)(ho:o.op= .field s x f)(hq:zeu c.P dst ρ O (.field s x f)=some (vc,V,n))(hvc:vc):
  zeM c O W F η dst ((execOp a o).run c.P W) V n:=by
 simp only[zeu]at hq;have hx:=hρ x;split at hq
 case h_2=>cases hq
 rename_i off ag sz hf;obtain⟨fs,fd,h1,h2,h3,h4⟩:=zms hf;obtain⟨d,inf,h5,h6,h7,h8⟩:=ze4 h4;split at hq
 ·rename_i cs hcs;rw[hcs]at hx;simp only[zaL,Rd]at hx;obtain⟨vs,hp,hc⟩:=hx;cases ag
  ·simp only[Bool.false_eq_true,if_false,Option.some.injEq,Prod.mk.injEq]at hq;obtain⟨rfl,rfl,rfl⟩:=hq;obtain⟨v,h9,h10⟩:=zav.get cs vs off _ hc (List.head_of_drop cs off default hvc);refine zeM.same hm (v:=v) ?_ (by simpa only[zaL]using h10);simp[execOp,ho,hp,Instr.field,run_underlying h1,h2,asAgg,part,h8,h3,h9]
  ·simp only[if_true,Option.some.injEq,Prod.mk.injEq]at hq;obtain⟨rfl,rfl,rfl⟩:=hq;refine zeM.same hm (v:=.agg ((vs.drop off).take sz).toArray) ?_ ?_
   ·simp[execOp,ho,hp,Instr.field,run_underlying h1,h2,asAgg,part,h8,h3,sizeOf,typeInfo,h6,h7]
   ·simp only[zaL,Rd]; exact⟨_,rfl,zav.take _ _ sz (zav.drop _ _ off hc)⟩
 ·rename_i cs hcs;rw[hcs]at hx;simp only[zaL]at hx;obtain⟨vs,hp,hc⟩:=hx;cases ag
  ·simp only[Bool.false_eq_true,if_false,Option.some.injEq,Prod.mk.injEq]at hq;obtain⟨rfl,rfl,rfl⟩:=hq;obtain⟨v,h9,h10⟩:=zaN.get cs vs off _ hc (List.head_of_drop cs off .dead hvc);refine zeM.same hm (v:=v) ?_ h10;simp[execOp,ho,hp,Instr.field,run_underlying h1,h2,asAgg,part,h8,h3,h9]
  ·simp only[if_true,Option.some.injEq,Prod.mk.injEq]at hq;obtain⟨rfl,rfl,rfl⟩:=hq;refine zeM.same hm (v:=.agg ((vs.drop off).take sz).toArray) ?_ (ziw _ _ (zaN.take _ _ sz (zaN.drop _ _ off hc)));simp[execOp,ho,hp,Instr.field,run_underlying h1,h2,asAgg,part,h8,h3,sizeOf,typeInfo,h6,h7]
 ·cases hq
end
end Go.Aw
