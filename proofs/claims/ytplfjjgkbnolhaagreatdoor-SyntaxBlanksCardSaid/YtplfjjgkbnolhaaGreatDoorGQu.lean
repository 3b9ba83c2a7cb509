/- Machinery. Conditions: those of each. -/
import Derived.Test.YtplfjjgkbnolhaaGreatDoorGQt
set_option linter.unusedSimpArgs false
set_option linter.unusedVariables false
/-
 THE OPERATIONS THAT READ AND MAKE, THE LAST: indexes, parts of a tuple, struct literals, new variables, lengths.
 Conditions: those of 'qsem'; over any program.
-/
namespace Go.Aw
open Go.RowKit

section
variable {c:Ctx} {O:zbI} {W:World} {F:Nat->Prop} {η:Nat->Value} {S:Nat->List Nat} {dst:Nat} {ρ:Operand->AV} {a:Operand->Value} {o:Oper} {vc:Prop} {V:AV} {n:Option AO}

theorem zk9{P:Program}{t e:TypeId}{ag:Bool}{n:Nat}(h:za0 P t=some (e,ag,n)):P.underlying t=some (.slice e)/\lay P e=some (ag,n):=by
 unfold za0 at h;split at h
 ·rename_i e' h1;simp only[Option.map_eq_some_iff,Prod.mk.injEq]at h;obtain⟨p,h2,rfl,h3,h4⟩:=h;exact⟨h1,by rw[h2]; simp[<-h3,<-h4]⟩
 ·cases h
theorem zuS{P:Program}{t:TypeId}{len:Nat}{ag:Bool}{n:Nat}(h:zcN P t=some (len,ag,n)): ∃e,P.underlying t=some (.array len e)/\lay P e=some (ag,n):=by
 unfold zcN at h;split at h
 ·rename_i l e h1;simp only[Option.map_eq_some_iff,Prod.mk.injEq]at h;obtain⟨p,h2,rfl,h3,h4⟩:=h;exact⟨e,h1,by rw[h2]; simp[<-h3,<-h4]⟩
 ·cases h

theorem zjV{P:Program}{W:World}{t e:TypeId}{ag:Bool}{n:Nat}(h:za0 P t=some (e,ag,n)){b off len cap:Nat}{k:IntKind}{j:Int}(h0:0<=j)(h1:j<len):
  (Instr.indexAt t (.slice (some ⟨b,off,none⟩) len cap) (.int k j)).run P W= .ok (.pointer (some ⟨b,off+j.toNat*n,none⟩)) W:=by
 obtain⟨hu,hl⟩:=zk9 h;obtain⟨d,i,h2,h3,h4,_⟩:=ze4 hl;simp[Instr.indexAt,asIntOf,run_underlying hu,h0,h1,sizeOf,typeInfo,h3,h4,Addr.add_lit]
theorem zm2{P:Program}{W:World}{t:TypeId}{ag:Bool}{n len:Nat}(h:zcN P t=some (len,ag,n)){b off:Nat}{k:IntKind}{j:Int}(h0:0<=j)(h1:j<len):
  (Instr.indexAt t (.pointer (some ⟨b,off,none⟩)) (.int k j)).run P W= .ok (.pointer (some ⟨b,off+j.toNat*n,none⟩)) W:=by
 obtain⟨e,hu,hl⟩:=zuS h;obtain⟨d,i,h2,h3,h4,_⟩:=ze4 hl;simp[Instr.indexAt,asIntOf,run_underlying hu,Instr.sureAddr,h0,h1,sizeOf,typeInfo,h3,h4,Addr.add_lit]

theorem q_indexAddr(hm:Mem c O W F η S)(hρ: ∀x,zaL O W F η (ρ x) (a x))(t:TypeId)(x y:Operand)(ho:o.op= .indexAddr t x y)(hq:zeu c.P dst ρ O (.indexAddr t x y)=some (vc,V,n))(hvc:vc):
  zeM c O W F η dst ((execOp a o).run c.P W) V n:=by
 simp only[zeu]at hq;have hx:=hρ x;have hy:=hρ y;split at hq
 case h_2=>cases hq
 rename_i j hj;rw[hj]at hy;simp only[zaL,Rd]at hy;split at hq
 ·rename_i e ag sz hel;split at hq
  ·rename_i es hes;rw[hes]at hx;simp only[Option.some.injEq,Prod.mk.injEq]at hq;obtain⟨rfl,rfl,rfl⟩:=hq;obtain⟨⟨h0,h1⟩,hsz⟩:=hvc;simp only[zaL,Rd]at hx;obtain⟨⟨ad,cap,hp,_,hr⟩,hmax⟩:=hx;obtain⟨b,off,k,rfl,hF,hrows⟩:=hr (by omega);obtain⟨h2,h3⟩:=zbJ.get es off j.toNat (es.getD j.toNat []) hrows (by simp[List.getD,List.getElem?_eq_getElem (show j.toNat<es.length by omega)]);rw[hsz]at h2;subst h2;refine zeM.same hm (v:=.pointer (some ⟨b,off+j.toNat*sz,none⟩)) ?_ ?_
   ·simp[execOp,ho,hp,hy,zjV hel h0 h1]
   ·simp only[zaL,Rd]; exact⟨b,_,rfl,hF,h3⟩
  ·rename_i id m hes;rw[hes]at hx;split at hq
   case h_2=>cases hq
   rename_i e' k dep es hO;simp only[Option.some.injEq,Prod.mk.injEq]at hq;obtain⟨rfl,rfl,rfl⟩:=hq;obtain⟨⟨h0,h1,h2⟩,rfl⟩:=hvc;simp only[zaL]at hx;obtain⟨hle,hx⟩:=hx _ _ _ _ hO;obtain⟨_,hrel⟩:=(hm.obj id _ hO).arr;rcases hrel.2.2 with⟨_,rfl,_⟩ | ⟨g,cap,cur,s1,hη,_⟩
   ·simp at h2; omega
   refine zeM.same hm (v:=.pointer (some ⟨g,j.toNat*k,none⟩)) ?_ ?_
   ·simp[execOp,ho,hx h0,hη,hy,zjV hel h1 h2]
   ·simp only[zaL];intro e2 k2 dep2 es2 hO2;rw[hO]at hO2;simp only[Option.some.injEq,AO.arr.injEq]at hO2;obtain⟨_,rfl,_,rfl⟩:=hO2;exact⟨hle,fun _=>⟨g,_,cap,hη,by simp⟩⟩
  ·rename_i id m lo hi hes;rw[hes]at hx;split at hq
   case h_2=>cases hq
   rename_i e' k dep es hO;simp only[Option.some.injEq,Prod.mk.injEq]at hq;obtain⟨rfl,rfl,rfl⟩:=hq;obtain⟨⟨h0,⟨h1,h2⟩,h3⟩,rfl⟩:=hvc;simp only[zaL]at hx;obtain⟨hle,hx⟩:=hx _ _ _ _ hO;obtain⟨g,len,cap,hη,hv⟩:=hx h0;obtain⟨_,hrel⟩:=(hm.obj id _ hO).arr;have hcap:es.length<=cap:=by
    rcases hrel.2.2 with⟨_,rfl,_⟩ | ⟨g',cap',cur,s1,hη',_,hc,_⟩
    ·exact Nat.zero_le _
    ·rw[hη]at hη';simp only[Value.slice.injEq]at hη';rw[hη'.2.2]; exact hc
   rw[if_neg (by omega)]at hv;refine zeM.same hm (v:=.pointer (some ⟨g,lo*k+j.toNat*k,none⟩)) ?_ ?_
   ·simp[execOp,ho,hv,hy,zjV hel h1 h2]
   ·simp only[zaL];intro e2 k2 dep2 es2 hO2;rw[hO]at hO2;simp only[Option.some.injEq,AO.arr.injEq]at hO2;obtain⟨_,rfl,_,rfl⟩:=hO2;exact⟨hle,fun _=>⟨g,_,cap,hη,by rw[Nat.add_mul]; simp⟩⟩
  ·cases hq
 ·split at hq
  case h_2=>cases hq
  rename_i len ag sz hel;split at hq
  ·rename_i cs hcs;rw[hcs]at hx;simp only[Option.some.injEq,Prod.mk.injEq]at hq;obtain⟨rfl,rfl,rfl⟩:=hq;simp only[zaL,Rd]at hx;obtain⟨b,off,hp,hF,hc⟩:=hx;refine zeM.same hm (v:=.pointer (some ⟨b,off+j.toNat*sz,none⟩)) ?_ ?_
   ·simp[execOp,ho,hp,hy,zm2 hel hvc.1 hvc.2]
   ·simp only[zaL,Rd]; exact⟨b,_,rfl,hF,zbd.drop cs off _ hc⟩
  ·rename_i id off hcs;rw[hcs]at hx;split at hq
   case h_2=>cases hq
   rename_i cs hO;simp only[Option.some.injEq,Prod.mk.injEq]at hq;obtain⟨rfl,rfl,rfl⟩:=hq;simp only[zaL]at hx;obtain⟨b,hη,hp⟩:=hx cs hO;refine zeM.same hm (v:=.pointer (some ⟨b,off+j.toNat*sz,none⟩)) ?_ ?_
   ·simp[execOp,ho,hp,hy,zm2 hel hvc.1 hvc.2]
   ·simp only[zaL]; intro cs' _; exact⟨b,hη,rfl⟩
  ·cases hq

theorem q_index(hm:Mem c O W F η S)(hρ: ∀x,zaL O W F η (ρ x) (a x))(t:TypeId)(x y:Operand)(ho:o.op= .index t x y)(hq:zeu c.P dst ρ O (.index t x y)=some (vc,V,n))(hvc:vc):
  zeM c O W F η dst ((execOp a o).run c.P W) V n:=by
 simp only[zeu]at hq;have hx:=hρ x;have hy:=hρ y;split at hq
 case h_2=>cases hq
 rename_i j hj;rw[hj]at hy;simp only[zaL,Rd]at hy;split at hq
 ·rename_i s ht hs;rw[hs]at hx;simp only[zaL,Rd]at hx;simp only[Option.some.injEq,Prod.mk.injEq]at hq;obtain⟨rfl,rfl,rfl⟩:=hq;have hlt:j.toNat<s.size:=by omega
  refine zeM.same hm (v:=.int .u8 (s.data.getD j.toNat 0).toNat) ?_ (by simp[zaL,Rd]);have hget:s[j.toNat]? =some (s.data.getD j.toNat 0):=by
   rw[getElem?_pos s j.toNat hlt];congr 1;have:j.toNat<s.data.size:=hlt;simp only[Array.getD,this,dite_true];rfl
  simp[execOp,ho,hx,hy,Instr.index,asIntOf,run_underlying ht,hvc.1,hget]
 ·rename_i nn e ds ht hs;rw[hs]at hx;split at hq
  case h_2=>cases hq
  rename_i hlay;simp only[Option.some.injEq,Prod.mk.injEq]at hq;obtain⟨rfl,rfl,rfl⟩:=hq;simp only[zaL,Rd]at hx;obtain⟨vs,hp,hc⟩:=hx;obtain⟨d,inf,h5,h6,h7,h8⟩:=ze4 hlay;have hlt:j.toNat<ds.length:=by omega
  obtain⟨v,h9,h10⟩:=zav.get ds vs j.toNat _ hc (List.getElem?_eq_getElem hlt);have hd:ds.getD j.toNat default=ds[j.toNat]:=by simp[List.getD,hlt]
  refine zeM.same hm (v:=v) ?_ (by rw[hd]; simpa only[zaL]using h10);simp[execOp,ho,hp,hy,Instr.index,asIntOf,run_underlying ht,hvc.1,part,h8,h9,sizeOf,typeInfo,h6,h7,Result.andThen]
 ·cases hq

theorem q_extract(hm:Mem c O W F η S)(hρ: ∀x,zaL O W F η (ρ x) (a x))(x:Operand)(i:Nat)(ho:o.op= .extract x i)(hq:zeu c.P dst ρ O (.extract x i)=some (vc,V,n))(hvc:vc):
  zeM c O W F η dst ((execOp a o).run c.P W) V n:=by
 simp only[zeu]at hq;have hx:=hρ x;split at hq
 case h_2=>cases hq
 rename_i vs hvs;rw[hvs]at hx;simp only[zaL]at hx;simp only[Option.some.injEq,Prod.mk.injEq]at hq;obtain⟨rfl,rfl,rfl⟩:=hq;obtain⟨us,hp,hc⟩:=hx;obtain⟨v,h1,h2⟩:=zaN.get vs us i _ hc (show vs[i]? =some (vs.getD i .dead) by simp[List.getD,List.getElem?_eq_getElem hvc]);refine zeM.same hm (v:=v) ?_ h2;simp[execOp,ho,hp,Instr.extract,h1]

theorem run_getObj_map{P:Program}{W:World}{b:Nat}{l:Array MapEntry}{t:Nat}(h:W.heap[b]? =some (.map l t)):(getObj b).run P W= .ok (.map l t) W:=by
 simp[getObj,Sem.run,h]

theorem q_len(hm:Mem c O W F η S)(hρ: ∀x,zaL O W F η (ρ x) (a x))(args:Array Operand)(ts:Array TypeId)(ho:o.op= .call {callee:=.builtin .len,args:=args,argTypes:=ts})
  (hq:zeu c.P dst ρ O (.call {callee:=.builtin .len,args:=args,argTypes:=ts})=some (vc,V,n)) (hvc:vc):
  zeM c O W F η dst ((execOp a o).run c.P W) V n:=by
 simp only[zeu]at hq;split at hq
 case h_2=>cases hq
 rename_i t x ht hx0;have hx:=hρ x;have key: ∀m:Nat,(Builtin.len_ ts o.type (args.map a)).run c.P W= .ok (goInt m) W->((execOp a o).run c.P W)= .ok (.value (goInt m)) W:=by
  intro m h;simp[execOp,ho,resolve,invoke,builtin,h]
 have hx1:(args.map a)[0]? =some (a x):=by rw[Array.getElem?_map,hx0]; rfl
 split at hq
 ·rename_i s hu hs;simp only[Option.some.injEq,Prod.mk.injEq]at hq;obtain⟨_,rfl,rfl⟩:=hq;rw[hs]at hx;simp only[zaL,Rd]at hx;refine zeM.same hm (v:=goInt s.size) (key _ ?_) (by simp[zaL,Rd]);simp only[Builtin.len_,ht,hx1,Sem.run_bind,run_underlying hu,Result.andThen_ok,hx,Sem.run_pure]
 ·rename_i e es hu hs;simp only[Option.some.injEq,Prod.mk.injEq]at hq;obtain⟨_,rfl,rfl⟩:=hq;rw[hs]at hx;simp only[zaL,Rd]at hx;obtain⟨⟨ad,cap,hp,_⟩,_⟩:=hx;refine zeM.same hm (v:=goInt es.length) (key _ ?_) (by simp[zaL,Rd]);simp only[Builtin.len_,ht,hx1,Sem.run_bind,run_underlying hu,Result.andThen_ok,hp,Sem.run_pure]
 ·rename_i e hu hs;simp only[Option.some.injEq,Prod.mk.injEq]at hq;obtain⟨_,rfl,rfl⟩:=hq;rw[hs]at hx;simp only[zaL]at hx;refine zeM.same hm (v:=goInt 0) (key 0 ?_) (by simp[zaL,Rd]);simp only[Builtin.len_,ht,hx1,Sem.run_bind,run_underlying hu,Result.andThen_ok,hx,Sem.run_pure]
 ·rename_i e hu hs;simp only[Option.some.injEq,Prod.mk.injEq]at hq;obtain⟨_,rfl,rfl⟩:=hq;rw[hs]at hx;simp only[zaL]at hx;obtain⟨bb,hx⟩:=hx;refine zeM.same hm (v:=goInt 0) (key 0 ?_) (by simp[zaL,Rd]);simp only[Builtin.len_,ht,hx1,Sem.run_bind,run_underlying hu,Result.andThen_ok,hx,Sem.run_pure]
 ·rename_i e id m hu hs;rw[hs]at hx;split at hq
  case h_2=>cases hq
  rename_i e' k dep es hO;simp only[Option.some.injEq,Prod.mk.injEq]at hq;obtain⟨rfl,rfl,rfl⟩:=hq;simp only[zaL]at hx;have hx2:=(hx _ _ _ _ hO).2 hvc;obtain⟨_,hrel⟩:=(hm.obj id _ hO).arr;have: ∃ad cap,η id= .slice ad es.length cap:=by
   rcases hrel.2.2 with⟨h1,rfl,_⟩ | ⟨g,cap,cur,s1,hη,_⟩
   ·obtain⟨ad,h1⟩:=h1; exact⟨ad,0,h1⟩
   ·exact⟨_,_,hη⟩
  obtain⟨ad,cap,h1⟩:=this;refine zeM.same hm (v:=goInt es.length) (key _ ?_) (by simp[zaL,Rd]);simp only[Builtin.len_,ht,hx1,Sem.run_bind,run_underlying hu,Result.andThen_ok,hx2,h1,Sem.run_pure]
 ·rename_i e id m lo hi hu hs;rw[hs]at hx;split at hq
  case h_2=>cases hq
  rename_i e' k dep es hO;simp only[Option.some.injEq,Prod.mk.injEq]at hq;obtain⟨rfl,rfl,rfl⟩:=hq;simp only[zaL]at hx;obtain⟨g,len,cap,_,hx2⟩:=(hx _ _ _ _ hO).2 hvc;refine zeM.same hm (v:=goInt ((hi-lo:Nat):Int)) (key _ ?_) (by simp[zaL,Rd]);simp only[Builtin.len_,ht,hx1,Sem.run_bind,run_underlying hu,Result.andThen_ok,hx2,Sem.run_pure]
 ·rename_i k e id hu hs;rw[hs]at hx;split at hq
  case h_2=>cases hq
  rename_i ks vs bs clock hO;simp only[Option.some.injEq,Prod.mk.injEq]at hq;obtain⟨_,rfl,rfl⟩:=hq;simp only[zaL]at hx;have hx2:=hx _ hO rfl;obtain⟨b,h1,h2,l,h3,h4,_⟩:=hm.obj id _ hO;have hlen:=zav.length _ _ h4;refine zeM.same hm (v:=goInt ks.length) (key _ ?_) (by simp[zaL,Rd]);simp only[Builtin.len_,ht,hx1,Sem.run_bind,run_underlying hu,Result.andThen_ok,hx2,h1,run_getObj_map h3,Sem.run_pure];simp[<-hlen]
 ·rename_i k e ks vs bs clock hu hs;rw[hs]at hx;simp only[Option.some.injEq,Prod.mk.injEq]at hq;obtain⟨_,rfl,rfl⟩:=hq;simp only[zaL,Rd]at hx;obtain⟨b,l,hx2,h1,h3,h4,_⟩:=hx;have hlen:=zav.length _ _ h4;refine zeM.same hm (v:=goInt ks.length) (key _ ?_) (by simp[zaL,Rd]);simp only[Builtin.len_,ht,hx1,Sem.run_bind,run_underlying hu,Result.andThen_ok,hx2,run_getObj_map h3,Sem.run_pure];simp[<-hlen]
 ·cases hq
end
end Go.Aw
