/-
 CONTRACTS and plain laws. Conditions: those of each law.
-/
import Derived.Test.YtbenhdgpogiadaaGreatK5
import Derived.Test.YtbenhdgpogiadaaGreatK2
import Derived.Test.YtbenhdgpogiadaaGreatK3
import Derived.Test.YtbenhdgpogiadaaGreatGFp
import Derived.Test.YtbenhdgpogiadaaGreatK4
import Derived.Test.YtbenhdgpogiadaaGreatGRb
set_option linter.unusedSimpArgs false
set_option linter.unusedVariables false
namespace Go.Proofs.YtbenhdgpogiadaaGreat
open Go.Aw
open Nat renaming reduceEqDiff->pE,reduceLT->pL,reduceAdd->pA,reduceSub->pS,reduceMul->pM,reduceLeDiff->pD
open Int renaming reduceToNat->qT,reduceGT->qG,reduceLT->qL,reduceGE->qH,reduceBNe->qN,reduceBEq->qB,reduceLE->qE,reduceNe->qO,reduceAdd->qA,reduceNeg->qM
set_option maxRecDepth 100000
set_option maxHeartbeats 4000000
/-! ### Maps whose keys are places -/
theorem zpw:zkf Tryz.prog 166:=Go.Maps.Keyed.of_law (deep_law_laid (P:=Tryz.prog) (by kernel_rfl) (m:=3) (by omega) (Nat.le_of_ble_eq_true (by kernel_rfl)) (by kernel_rfl) (by kernel_rfl))
theorem fsQ:fsOf Tryz.prog 166=some ([(9,0),(66,1)],true):=by kernel_rfl
theorem fsPt:fsOf Tryz.prog 66=some ([(3,0),(9,1)],true):=by kernel_rfl
theorem keyQ:Tryz.prog.keyType 166=true:=by kernel_rfl
theorem cellsQ:Tryz.prog.cellsOf 166=3:=by kernel_rfl
theorem cellsPt:Tryz.prog.cellsOf 66=2:=by kernel_rfl
theorem cellsS:Tryz.prog.cellsOf 9=1:=by kernel_rfl
theorem zvX{n:Nat}{t:TypeId}{fs:List (TypeId×Nat)}{a b:Value}{r:List Value}(hf:fsOf Tryz.prog t=some (fs,true))(hc:(a::b::r).length =Tryz.prog.cellsOf t):
  Tryz.prog.keyLits (n+1) t (a::b::r)=(fs.mapM fun x=>Tryz.prog.keyLits n x.1 (((a::b::r).drop x.2).take (Tryz.prog.cellsOf x.1))).map List.flatten:=by
 unfold fsOf at hf;split at hf
 ·rename_i fs' hu;simp only[Option.some.injEq,Prod.mk.injEq]at hf;obtain⟨h1,h2⟩:=hf
  conv=>lhs; unfold Program.keyLits
  rw[hu];simp only[hc,h2,and_self,if_true];rw[<-h1,List.mapM_map];rfl
 ·cases hf
def zcN(p:Place):D:=.agg (zaL p)
theorem lits_part(n:Nat)(p:Part):Tryz.prog.keyLits (n+2) 66 [.int .i64 p.kind.1,.string p.name.1]=some [.int .i64 p.kind.1,.string p.name.1.data.toList]:=by
 rw[zvX fsPt (by rw[cellsPt]; rfl)];have h1:Tryz.prog.keyLits (n+1) 3 [Value.int .i64 p.kind.1]=some [Lit.int .i64 p.kind.1]:=by simp[Program.keyLits,tU3,p.kind.2]
 have h2:Tryz.prog.keyLits (n+1) 9 [Value.string p.name.1]=some [Lit.string p.name.1.data.toList]:=by simp[Program.keyLits,tU9,p.name.2]
 simp[cellsI,cellsS,h1,h2]
theorem lits_place(n:Nat)(p:Place):Tryz.prog.keyLits (n+3) 166 [.string p.module.1,.int .i64 p.part.kind.1,.string p.part.name.1]=some [.string p.module.1.data.toList,.int .i64 p.part.kind.1,.string p.part.name.1.data.toList]:=by
 rw[zvX fsQ (by rw[cellsQ]; rfl)];have h1:Tryz.prog.keyLits (n+2) 9 [Value.string p.module.1]=some [Lit.string p.module.1.data.toList]:=by simp[Program.keyLits,tU9,p.module.2]
 have h2:=lits_part n p.part;simp[cellsPt,cellsS,h1,h2]
theorem sizeT2: ∃n,Tryz.prog.types.size=n+2:=⟨_,(by kernel_rfl:Tryz.prog.types.size=(Tryz.prog.types.size-2)+2)⟩
theorem zto(p:Place):zd5 Tryz.prog 166 (.agg [.lit (.string p.module.1),.lit (.int .i64 p.part.kind.1),.lit (.string p.part.name.1)]):=by
 obtain⟨n,hn⟩:=sizeT2;have hl:=lits_place n p;refine⟨.agg #[.string p.module.1,.int .i64 p.part.kind.1,.string p.part.name.1],.string (keyBytes [.string p.module.1.data.toList,.int .i64 p.part.kind.1,.string p.part.name.1.data.toList]),rfl,?_⟩;have hf:=fsQ;unfold fsOf at hf;split at hf
 ·rename_i fs hu;have hform:Value.formed Tryz.prog 166 (.agg #[.string p.module.1,.int .i64 p.part.kind.1,.string p.part.name.1])=true:=by
   simp[Value.formed,hu,cellsQ]
  unfold keyOf;rw[hu];simp only[keyQ,hform,Bool.and_self,if_true];have hc:(Value.agg #[.string p.module.1,.int .i64 p.part.kind.1,.string p.part.name.1]).cells.toList =[.string p.module.1,.int .i64 p.part.kind.1,.string p.part.name.1]:=rfl;rw[hc,hn,show n+2+1=n+3 from rfl,hl];rfl
 ·cases hf
theorem zsK{p q:Place}(h:zcN p=zcN q):p=q:=by
 obtain⟨⟨m,hm⟩,⟨⟨k,hk⟩,⟨n,hn⟩⟩⟩:=p;obtain⟨⟨m',hm'⟩,⟨⟨k',hk'⟩,⟨n',hn'⟩⟩⟩:=q;simp only[zcN,zaL,eS,eI,D.agg.injEq,List.cons.injEq,D.lit.injEq,Value.string.injEq,Value.int.injEq,true_and,and_true]at h;obtain⟨rfl,rfl,rfl⟩:=h;rfl
section
variable {α:Type}
def qK(l:List (Place×α)):List D:=l.map fun e=>zcN e.1
def qV(f:α->D)(l:List (Place×α)):List D:=l.map fun e=>f e.2
theorem zrH(l:List (Place×α)): ∀y∈qK l,zd5 Tryz.prog 166 y:=fun y hy=>by
 obtain⟨e,_,rfl⟩:=List.mem_map.1 hy;exact zto e.1
theorem mem_qK{l:List (Place×α)}{p:Place}:zcN p∈qK l↔p∈l.map Prod.fst:=by
 unfold qK;rw[List.mem_map,List.mem_map];exact⟨fun⟨e,h1,h2⟩=>⟨e,h1,zsK h2⟩,fun⟨e,h1,h2⟩=>⟨e,h1,by rw[h2]⟩⟩
theorem mget_q(f:α->D): ∀(l:List (Place×α)) (p:Place),zke (qK l) (qV f l) (zcN p)=(lkp Prod.fst l p).map fun e=>f e.2
 | [],p=>by simp[qK,qV,zjM,zxq]
 | e::l,p=>by
  have ih:=mget_q f l p;unfold qK qV at ih ⊢;rw[List.map_cons,List.map_cons,zhY,ze2,ih];by_cases h:e.1=p
  ·rw[if_pos (by rw[h]),if_pos h]; rfl
  ·rw[if_neg (fun h'=>h (zsK h')),if_neg h]
theorem put_q(f:α->D){l:List (Place×α)}{p:Place}{x:α}(h:p∉l.map Prod.fst):zg2 (qK l) (zcN p)=qK (l++[(p,x)])/\zjx (qK l) (qV f l) (zcN p) (f x)=qV f (l++[(p,x)])/\
  zjF (qK l) (List.range l.length) l.length (zcN p)=List.range (l++[(p,x)]).length /\zj9 (qK l) l.length (zcN p)=(l++[(p,x)]).length :=by
 have hn:zcN p∉qK l:=fun h'=>h (mem_qK.1 h');have: ¬zeM (qK l) (zcN p)<(qK l).length :=fun h'=>hn (zcP.1 h');refine⟨by rw[zds hn]; simp[qK],by rw[zdt hn]; simp[qV],?_,?_⟩
 ·simp only[zjF,if_neg this,List.length_append,List.length_cons,List.length_nil,Nat.zero_add,List.range_succ]
 ·simp only[zj9,if_neg this,List.length_append,List.length_cons,List.length_nil,Nat.zero_add]
end
/-! ### Contents -/
/-- The nil slice as plain data. -/
def ztK:D:=.lit (.slice none 0 0)
/-- A content: a head has no items,an item's module has no parameters: both nil. -/
def cM(m:Module):List D:=if m.items.isEmpty=true then [eS m.name,eS m.clock,zd7 m.params,ztK]else [eS m.name,eS m.clock,ztK,zbU m.items]
def eM(m:Module):D:=.agg (cM m)
theorem eM_hd(m:Module):eM (hdM m)= .agg [eS m.name,eS m.clock,zd7 m.params,ztK]:=rfl
theorem eM_it(x:Item):eM (itM x)= .agg [.lit (.string ByteArray.empty),.lit (.string ByteArray.empty),ztK,.sl [zaK x]]:=rfl
def wkD(a b:D):Prop:= ∀W F v,Rd W F a v->Rd W F b v
theorem wk_nil:wkD ztK (.sl []):=fun W F v h=>by
 simp only[ztK,Rd]at h;subst h;simp only[Rd];exact⟨⟨none,0,rfl,Nat.le_refl _,fun h=>absurd rfl h⟩,by simp⟩
theorem zkc(a:D):wkD a a:=fun _ _ _ h=>h
theorem wk_row{a b:D}{n m:D}{p q:D}{i j:D}(h1:wkD a b)(h2:wkD n m)(h3:wkD p q)(h4:wkD i j):wkD (.sl [[a,n,p,i]]) (.sl [[b,m,q,j]]):=fun W F v h=>by
 simp only[Rd,List.length_cons,List.length_nil]at h ⊢;obtain⟨⟨ad,cap,e1,e2,e3⟩,e4⟩:=h;refine⟨⟨ad,cap,e1,e2,fun hn=> ?_⟩,e4⟩;obtain⟨bb,off,k,f1,f2,f3⟩:=e3 hn;refine⟨bb,off,k,f1,f2,?_⟩;simp only[zbM,zbc,List.length_cons,List.length_nil,and_true]at f3 ⊢;obtain⟨g0,⟨v1,c1,r1⟩,⟨v2,c2,r2⟩,⟨v3,c3,r3⟩,⟨v4,c4,r4⟩⟩:=f3;exact⟨g0,⟨v1,c1,h1 _ _ _ r1⟩,⟨v2,c2,h2 _ _ _ r2⟩,⟨v3,c3,h3 _ _ _ r3⟩,⟨v4,c4,h4 _ _ _ r4⟩⟩
/-- The cells of a content say more than those of the module. -/
theorem cM_row{m:Module}(h:m.items=[]\/m.params=[]): ∃a n p i:D,cM m=[a,n,p,i]/\(a.one/\n.one/\p.one/\i.one)/\wkD (.sl [[a,n,p,i]]) (.sl [zaC m]):=by
 obtain⟨nm,ck,ps,its⟩:=m;simp only at h;cases its with
 | nil=>exact⟨_,_,_,_,rfl,⟨rfl,rfl,trivial,rfl⟩,wk_row (zkc _) (zkc _) (zkc _) wk_nil⟩
 | cons x r=>
  have hp:ps=[]:=h.resolve_left (by simp);subst hp;exact⟨_,_,_,_,rfl,⟨rfl,rfl,rfl,trivial⟩,wk_row (zkc _) (zkc _) wk_nil (zkc _)⟩
theorem zsD{l:List Module}{p:Place}{m:Module}(h:zbu l p=some m):m.items=[]\/m.params=[]:=by
 obtain⟨q,_,⟨_,rfl⟩ | ⟨x,_,_,rfl⟩⟩:=zfM h
 ·exact .inl rfl
 ·exact .inr rfl
def mapQ(l:List (Place×Module)):AO:=.map (qK l) (qV eM l) (List.range l.length) l.length
def zdn(f:List Module):D:=.mp (qK (ent f)) (qV eM (ent f)) (List.range (ent f).length) (ent f).length
theorem zpD{f:List Module}(h:Parted f)(p:Place):zke (qK (ent f)) (qV eM (ent f)) (zcN p)=(zbu f p).map eM:=by
 rw[mget_q,lkp_ent h];cases zbu f p <;> rfl
theorem fresh_q{f:List Module}(h:Parted f){A B:List (Place×Module)}{p:Place}{c:Module}(e:ent f=A++(p,c)::B):p∉A.map Prod.fst:=by
 have hn:=zqH h;unfold zey at hn;rw[e,List.map_append,List.map_cons,List.nodup_append]at hn;intro hp;exact hn.2.2 p hp p (by simp) rfl
theorem ent_split{f:List Module}{i:Nat}(h:i<f.length):ent f=ent (f.take i)++(zmv f[i]++ent (f.drop (i+1))):=by
 rw[<-zqo f[i],<-zg9,<-zg9];congr 1;rw[List.singleton_append,List.getElem_cons_drop,List.take_append_drop]
theorem ent_take{f:List Module}{i:Nat}(h:i<f.length):ent (f.take (i+1))=ent (f.take i)++zmv f[i]:=by
 rw[List.take_succ_eq_append_getElem h,zg9,zqo]
theorem entM_take{m:Module}{k:Nat}(h:k<m.items.length):(zmv m).take (k+2)=(zmv m).take (k+1)++[(plI m.name m.items[k],itM m.items[k])]:=by
 unfold zmv;rw[List.take_succ_cons,List.take_succ_cons,List.cons_append,List.take_succ_eq_append_getElem (by simpa using h),List.getElem_map]
theorem entM_split{m:Module}{k:Nat}(h:k<m.items.length):zmv m=(zmv m).take (k+1)++(plI m.name m.items[k],itM m.items[k])::(zmv m).drop (k+2):=by
 conv=>lhs; rw[<-List.take_append_drop (k+2) (zmv m),entM_take h]
 simp
theorem contentsOf_c(f:List Module)(hp:Parted f):FnP Tryz.prog 176 [.agg [zaz f]] (.d (zdn f)) []:=by
 refine FnP.of_eC (own:=[]) (fun i=>[]) zat Tryz.func176 rfl Tryz.call176 Tryz.ntmps176 (Nat.le_of_ble_eq_true rfl) Tryz.results176 (fun hok=> ?_);have hl:f.length<=9223372036854775807/\ ∀m∈f,m.items.length<=9223372036854775807:=by
  have h1:=(zaM hok).1;simp only[D.ok,D.okL]at h1;have hm:=(za9 h1.1);refine⟨hm.1,fun m hm'=> ?_⟩;have h2:=hm.2 m hm';have h3:=(zaM (zaM (zaM (zaM h2).2).2).2).1;exact(za9 h3).1
 simp(maxSteps:=4000000) only[ZE,↓reduceIte,pE,pL,pA,pS,pM,pD,zN,qT,qG,qL,qH,qN,qB,qE,qO,qA,qM];refine za2 (fun _=>[]) zat f.length (fun _=>True) (fun i=>([(1,.bp 1 0),(3,.mo 8),(10,.d (zaz f)),(11,.d (eI f.length)),(12,.d (eI i))],
  [(1,.box [.d (zaz f)]),(8,mapQ (ent (f.take i)))])) trivial ?_ ?_ (fun i hi _=> ?_)
 ·simp only[ZE,↓reduceIte,pE,pL,pA,pS,pM,pD]
 ·have e:ent []=[]:=rfl;simp only[ZE,↓reduceIte,pE,pL,pA,pS,pM,pD,List.take_zero,e,mapQ,qK,qV,List.map_nil,List.length_nil,List.range_zero]
 rcases Nat.lt_or_ge i f.length with h | h
 ·have hw:=zas (show i<9223372036854775807 by omega);obtain⟨m,hm⟩:=zX (f[i]);have hs:=ent_split h;have ht:=ent_take h;rw[hm]at hs ht;have hml:m.items.length<=9223372036854775807:=hl.2 m (hm▸List.getElem_mem h);obtain⟨E,hE⟩:=zX (ent (f.take i));rw[hE]at hs ht;rw[hE,ht];have hk0:=zto (zbL m.name);have hf0:zbL m.name∉E.map Prod.fst:=fresh_q hp (A:=E) (B:=m.items.map (fun x=>(plI m.name x,itM x))++ent (f.drop (i+1))) hs;have hp0:=zkw (put_q eM (x:=hdM m) hf0);have e0:(zmv m).take 1=[(zbL m.name,hdM m)]:=rfl;rw[<-e0,eM_hd]at hp0;simp(maxSteps:=4000000) only[ZE,↓reduceIte,pE,pL,pA,pS,pM,pD,zcN,zaL,zbL,zdb,emp,ztK,List.map_nil]at hp0;simp(maxSteps:=4000000) only[ZE,↓reduceIte,pE,pL,pA,pS,pM,pD,zbL,zdb,emp]at hk0;simp(maxSteps:=4000000) only[ZE,↓reduceIte,pE,pL,pA,pS,pM,pD,zax h,zaa h,zal h,hm,zN,qT,qG,qL,qH,qN,qB,qE,qO,qA,qM,mapQ,zpw,hk0,hp0];refine⟨fun y hy=>zrH _ y hy,?_⟩;refine za2 (fun _=>[]) zat m.items.length (fun _=>True) (fun k=>([(1,.bp 1 0),(3,.mo 8),(5,.bp 5 0),(10,.d (zaz f)),(11,.d (eI f.length)),(12,.d (eI i)),(28,.d (zbU m.items)),(29,.d (eI m.items.length)),(30,.d (eI k))],
   [(1,.box [.d (zaz f)]),(5,.box [.d (eS m.name),.d (eS m.clock),.d (zd7 m.params),.d (zbU m.items)]),(8,mapQ (E++(zmv m).take (k+1)))])) trivial ?_ ?_ (fun k hk _=> ?_)
  ·simp only[ZE,↓reduceIte,pE,pL,pA,pS,pM,pD,List.length_map]
  ·simp only[ZE,↓reduceIte,pE,pL,pA,pS,pM,pD,mapQ]
  rcases Nat.lt_or_ge k m.items.length with h' | h'
  ·have hw':=zas (show k<9223372036854775807 by omega);have ht':=entM_take h';have hs':=entM_split h';obtain⟨x,hx⟩:=zX (m.items[k]);rw[hx]at ht' hs';obtain⟨G,hG⟩:=zX ((zmv m).take (k+1));rw[hG]at ht' hs';rw[hG,show k+1+1=k+2 from rfl,ht',<-List.append_assoc];have hk1:=zto (plI m.name x);have hsp:ent f=(E++G)++(plI m.name x,itM x)::((zmv m).drop (k+2)++ent (f.drop (i+1))):=by
    rw[hs]
    conv=>lhs; rw[hs']
    simp only[List.append_assoc,List.cons_append]
   have hf1:plI m.name x∉(E++G).map Prod.fst:=fresh_q hp hsp;have hp1:=zkw (put_q eM (x:=itM x) hf1);obtain⟨z,hz⟩:=zX ((plI m.name x,itM x));rw[hz,eM_it]at hp1;rw[hz];simp(maxSteps:=4000000) only[ZE,↓reduceIte,pE,pL,pA,pS,pM,pD,zcN,zaL,plI,zbo,ztK]at hp1;simp(maxSteps:=4000000) only[ZE,↓reduceIte,pE,pL,pA,pS,pM,pD,plI,zbo]at hk1;simp(maxSteps:=4000000) only[ZE,↓reduceIte,pE,pL,pA,pS,pM,pD,zax h',zaa h',zal h',hx,zN,qT,qG,qL,qH,qN,qB,qE,qO,qA,qM,mapQ,zpw,hk1,hp1,hw'];exact⟨fun y hy=>zrH _ y hy,h'⟩
  ·have:k=m.items.length:=by omega
   subst this;have hfull:(zmv m).take (m.items.length+1)=zmv m:=List.take_of_length_le (by simp[zmv]);simp(maxSteps:=4000000) only[ZE,↓reduceIte,pE,pL,pA,pS,pM,pD,zaI h',zN,qT,qG,qL,qH,qN,qB,qE,qO,qA,qM,hw,mapQ,hfull];exact h
 ·have:i=f.length:=by omega
  subst this;simp(maxSteps:=4000000) only[ZE,↓reduceIte,pE,pL,pA,pS,pM,pD,zaI h,zN,qT,qG,qL,qH,qN,qB,qE,qO,qA,qM,mapQ,List.take_length,zdn]
set_option maxHeartbeats 1000000
instance:Inhabited Place:=⟨⟨emp,zdb⟩⟩
def zqU(l:List Place)(js:List Nat):List Place:=js.map fun j=>l.getD j default
def eYq(p:Place):List D:=[zcN p]
theorem keysQ_it(l:List Place)(vs:List D)(bs:List Nat)(clock:Nat):zo4 Tryz.prog 235 [.ptr [.mp (l.map zcN) vs bs clock]] (fun pre=> ∃js:List Nat,js.Nodup/\(∀j∈js,j<l.length)/\pre=(zqU l js).map eYq) (fun xs=> ∃js:List Nat,js.Nodup/\(∀j∈js,j<l.length)/\(∀j,j<l.length->j∈js)/\xs=(zqU l js).map eYq):=by
 intro lim fam stop lp hY;have:=FnL.of_eC (P:=Tryz.prog) (args:=[.yv 0,.d (.ptr [.mp (l.map zcN) vs bs clock])]) (os:=[(0,.ext lim fam stop lp [])]) (PL:=fun _ ol new=>(∃xs,(∃js:List Nat,js.Nodup/\(∀j∈js,j<l.length)/\(∀j,j<l.length->j∈js)/\xs=(zqU l js).map eYq)/\ol=[(0,.ext lim fam stop lp xs)]/\new=[])\/(ol=[(0,.ext lim (fun _=>stop) stop lp [])]/\new=[])) (own:=[]) (fun _=>[]) [0] zat Tryz.func235 rfl Tryz.call235 Tryz.ntmps235 (Nat.le_of_ble_eq_true rfl) Tryz.results235 ?_
 ·refine this.mono ?_;rintro V Oo new ⟨ol,rfl,⟨xs,h1,rfl,h2⟩ | ⟨rfl,h2⟩⟩
  ·exact .inl ⟨xs,h1,rfl,h2⟩
  ·exact .inr ⟨rfl,h2⟩
 simp only[ZE,↓reduceIte,pE,pL,pA,pS,pM,pD];refine zg3 (fun _ _=>[]) zat l.length (fun i (js:List Nat)=>js.length=i/\js.Nodup/\ ∀j∈js,j<l.length) (fun i js=>([(0,.yv 0),(5,.mo 5)],[(0,.ext lim fam stop lp ((zqU l js).map eYq)),(5,.it (l.map zcN) vs bs clock js)])) [] ?_ ?_ ?_ (fun i js hi hI=> ?_)
 ·simp
 ·simp only[ZE,↓reduceIte,pE,pL,pA,pS,pM,pD]
 ·simp only[ZE,↓reduceIte,pE,pL,pA,pS,pM,pD,zqU,List.map_nil]
 obtain⟨h1,h2,h3⟩:=hI;simp only[ZE,↓reduceIte,pE,pL,pA,pS,pM,pD];refine⟨by simp only[ZE,↓reduceIte,pE,pL,pA,pS,pM,pD],fun j hj hjs=> ?_,fun hall=> ?_⟩
 ·have hj':j<l.length:=by simpa using hj
  have hD:l.getD j default=l[j]:=by simp[List.getD,hj']
  have hkj:(l.map zcN).getD j default=D.agg [.lit (.string l[j].module.1),.lit (.int .i64 l[j].part.kind.1),.lit (.string l[j].part.name.1)]:=by
   simp[List.getD,hj',zcN,zaL,eI,eS]
  have hlen:i<l.length:=by
   have:=zc1 l.length (j::js) (List.nodup_cons.2 ⟨hjs,h2⟩) (fun k hk=>by
    rcases List.mem_cons.1 hk with rfl | hk
    ·exact hj'
    ·exact h3 k hk)
   simp at this; omega
  have hnew:(js++[j]).Nodup /\ ∀k∈js++[j],k<l.length:=by
   refine⟨List.nodup_append.2 ⟨h2,by simp,fun a ha b hb e=> ?_⟩,fun k hk=> ?_⟩
   ·simp at hb; subst hb; subst e; exact hjs ha
   ·rcases List.mem_append.1 hk with hk | hk
    ·exact h3 k hk
    ·simp at hk; subst hk; exact hj'
  have hpick:(zqU l js).map eYq++[[D.agg [.lit (.string l[j].module.1),.lit (.int .i64 l[j].part.kind.1),.lit (.string l[j].part.name.1)]]]=(zqU l (js++[j])).map eYq:=by
   simp only[zqU,List.map_append,List.map_cons,List.map_nil,hD];rfl
  simp only[ZE,↓reduceIte,pE,pL,pA,pS,pM,pD,hkj,List.getLast?_singleton,Option.some_or];refine⟨_,hY,?_,?_,?_⟩
  ·exact⟨js++[j],hnew.1,hnew.2,hpick⟩
  ·simp only[ZE,↓reduceIte,pE,pL,pA,pS,pM,pD,zeq,hpick];refine⟨hlen,js++[j],⟨by simp[h1],hnew⟩,?_⟩;simp only[ZE,↓reduceIte,pE,pL,pA,pS,pM,pD]
  ·simp only[ZE,↓reduceIte,pE,pL,pA,pS,pM,pD];refine⟨[3,5],[],?_⟩;simp only[ZE,↓reduceIte,pE,pL,pA,pS,pM,pD]
 ·simp only[ZE,↓reduceIte,pE,pL,pA,pS,pM,pD];refine⟨[5],[],?_⟩;simp only[ZE,↓reduceIte,pE,pL,pA,pS,pM,pD];exact .inl ⟨_,⟨js,h2,h3,fun j hj=>hall j (by simpa using hj),rfl⟩,rfl⟩
theorem keysQ_c(l:List Place)(vs:List D)(bs:List Nat)(clock:Nat):FnP Tryz.prog 179 [.mp (l.map zcN) vs bs clock] (.d (.clo (.func 235) [] [.ptr [.mp (l.map zcN) vs bs clock]])) []:=by
 refine FnP.of_eC (own:=[]) (fun _=>[]) zat Tryz.func179 rfl Tryz.call179 Tryz.ntmps179 (Nat.le_of_ble_eq_true rfl) Tryz.results179 (fun hok=> ?_);simp only[ZE,↓reduceIte,pE,pL,pA,pS,pM,pD]
def rowQ:List D->List D
 | [.agg cs]=>cs
 | _=>[]
theorem rowQ_pick(l:List Place)(js:List Nat):((zqU l js).map eYq).map rowQ=(zqU l js).map zaL:=by
 rw[List.map_map]; rfl
theorem appendSeqQ_c(l:List Place)(vs:List D)(bs:List Nat)(clock:Nat)(hl:l.length<=4000000):FnL Tryz.prog 267 [.nils,.d (.clo (.func 235) [] [.ptr [.mp (l.map zcN) vs bs clock]])] [] (fun V ol new=> ∃l':List Place,l'.Perm l/\V= .ar 90 l'.length/\ol=[(90,.arr 166 3 .flat (l'.map zaL))]/\new=[90]):=by
 refine FnL.of_eC (own:=[]) (fun id=>if id=0 then [.adB 2 0 90 166 3]else []) [] zat Tryz.func267 rfl Tryz.call267 Tryz.ntmps267 (Nat.le_of_ble_eq_true rfl) Tryz.results267 ?_;simp only[ZE,↓reduceIte,pE,pL,pA,pS,pM,pD];refine zrk zat (fun _=>[]) rfl (by simp only[ZE,↓reduceIte,pE,pL,pA,pS,pM,pD]) (keysQ_it l vs bs clock) (fun pre=>[(2,.box [.ar 90 pre.length]),(90,.arr 166 3 .flat (pre.map rowQ))]) ?_ ?_ ?_ ?_ ?_
 ·simp only[ZE,↓reduceIte,pE,pL,pA,pS,pM,pD]
 ·intro pre; simp[zdV,ziq]
 ·simp only[ZE,↓reduceIte,pE,pL,pA,pS,pM,pD,psOk,zeP]
 ·rintro pre x ⟨js,h1,h2,h3⟩;have hlen:(pre++[x]).length =js.length:=by rw[h3]; simp[zqU]
  have hjl:=zc1 l.length js h1 h2;simp only[List.length_append,List.length_cons,List.length_nil]at hlen;obtain⟨p,rfl⟩: ∃p,x=eYq p:=by
   have:x∈(zqU l js).map eYq:=by rw[<-h3]; simp
   obtain⟨p,_,rfl⟩:=List.mem_map.1 this;exact⟨p,rfl⟩
  simp only[eYq,zcN,zaL,ZE,↓reduceIte,pE,pL,pA,pS,pM,pD,zvz,zl5,zdV,ziq,zrA,zeP];refine⟨⟨by omega,by omega⟩,by simp,by simp,?_⟩;rw[List.map_append]; rfl
 ·rintro xs ⟨js,h1,h2,h3,rfl⟩;simp only[ZE,↓reduceIte,pE,pL,pA,pS,pM,pD];refine⟨[2],[90],?_⟩;simp only[ZE,↓reduceIte,pE,pL,pA,pS,pM,pD];refine⟨zqU l js,?_,rfl,by rw[rowQ_pick]⟩;have:=(ziD h1 h2 h3).map fun j=>l.getD j default;rw[zgg]at this;exact this
theorem collectQ_c(l:List Place)(vs:List D)(bs:List Nat)(clock:Nat)(hl:l.length<=4000000):FnL Tryz.prog 234 [.d (.clo (.func 235) [] [.ptr [.mp (l.map zcN) vs bs clock]])] [] (fun V ol new=> ∃l':List Place,l'.Perm l/\V= .ar 90 l'.length/\ol=[(90,.arr 166 3 .flat (l'.map zaL))]/\new=[90]):=by
 refine FnL.of_eC (own:=[]) (fun id=>[]) [] zat Tryz.func234 rfl Tryz.call234 Tryz.ntmps234 (Nat.le_of_ble_eq_true rfl) Tryz.results234 ?_;simp only[ZE,↓reduceIte,pE,pL,pA,pS,pM,pD];refine EFn.g ⟨[(90,90)],[.nils,.d (.clo (.func 235) [] [.ptr [.mp (l.map zcN) vs bs clock]])],_,_,appendSeqQ_c l vs bs clock hl,?_⟩;simp only[ZE,↓reduceIte,pE,pL,pA,pS,pM,pD];rintro V ol new ⟨l',hp,rfl,rfl,rfl⟩;simp only[ZE,↓reduceIte,pE,pL,pA,pS,pM,pD];refine⟨[],[90],?_⟩;simp only[ZE,↓reduceIte,pE,pL,pA,pS,pM,pD];exact⟨l',hp,rfl,rfl⟩
theorem sortedQ_o(l:List Place)(hn:l.Nodup)(vs:List D)(bs:List Nat)(clock:Nat)(hl:l.length<=4000000):FnL Tryz.prog 178 [.d (.clo (.func 235) [] [.ptr [.mp (l.map zcN) vs bs clock]]),.d (.clo (.func 180) [] [])] [] (fun V ol new=>V= .ar 90 (setS ltQ l).length /\ol=[(90,.arr 166 3 .flat ((setS ltQ l).map zaL))]/\new=[90]):=by
 refine FnL.of_eC (own:=[]) (fun id=>[]) [] zat Tryz.func178 rfl Tryz.call178 Tryz.ntmps178 (Nat.le_of_ble_eq_true rfl) Tryz.results178 ?_;simp only[ZE,↓reduceIte,pE,pL,pA,pS,pM,pD];refine EFn.g ⟨[(90,90)],[.d (.clo (.func 235) [] [.ptr [.mp (l.map zcN) vs bs clock]])],_,_,collectQ_c l vs bs clock hl,?_⟩;simp only[ZE,↓reduceIte,pE,pL,pA,pS,pM,pD];rintro V ol new ⟨l',hp,rfl,rfl,rfl⟩;simp only[ZE,↓reduceIte,pE,pL,pA,pS,pM,pD];refine EFn.g ⟨[(0,90)],[.ar 0 l'.length,.d (.clo (.func 180) [] [])],_,_,sortQ_c l' (by have:=hp.length_eq; omega),?_⟩;simp only[ZE,↓reduceIte,pE,pL,pA,pS,pM,pD];rintro V ol new ⟨rfl,⟨r,h1,h2,rfl⟩,rfl⟩;have hr:r=setS ltQ l:=setS_eq zl3 (not_cmpQ h2 (h1.nodup_iff.1 (hp.nodup_iff.2 hn))) fun k=>(h1.mem_iff.symm.trans hp.mem_iff);subst hr;rw[h1.length_eq];simp only[ZE,↓reduceIte,pE,pL,pA,pS,pM,pD];refine⟨[],[90],?_⟩;simp only[ZE,↓reduceIte,pE,pL,pA,pS,pM,pD]
set_option maxHeartbeats 4000000
theorem sameF_one(m n:Module):zmb [m] [n]=decide (some m=some n):=by
 rw[Bool.eq_iff_iff,zna,decide_eq_true_eq];simp
theorem same_w{m n:Module}(hm:m.items=[]\/m.params=[])(hn:n.items=[]\/n.params=[]): ∃a b c d a' b' c' d':D,eM m= .agg [a,b,c,d]/\eM n= .agg [a',b',c',d']/\(a.one/\b.one/\c.one/\d.one)/\(a'.one/\b'.one/\c'.one/\d'.one)/\
  FnP Tryz.prog 19 [.agg [.sl [[a,b,c,d]]],.agg [.sl [[a',b',c',d']]]] (.d (eB (decide (some m=some n)))) []:=by
 obtain⟨a,b,c,d,e1,o1,w1⟩:=cM_row hm;obtain⟨a',b',c',d',e2,o2,w2⟩:=cM_row hn;refine⟨a,b,c,d,a',b',c',d',by unfold eM; rw[e1],by unfold eM; rw[e2],o1,o2,?_⟩;rw[<-sameF_one];refine FnP.weak (zih [m] [n]) fun W F vs h=> ?_;simp only[zav,Rd]at h;obtain⟨v1,r1,rfl,⟨u1,rfl,x1,y1,rfl,h1,rfl⟩,v2,r2,rfl,⟨u2,rfl,x2,y2,rfl,h2,rfl⟩,rfl⟩:=h;have g1:=w1 W F x1 (by simp only[Rd]; exact h1);have g2:=w2 W F x2 (by simp only[Rd]; exact h2);show zav W F [.agg [.sl [zaC m]],.agg [.sl [zaC n]]] _;unfold zav;refine⟨_,_,rfl,?_,?_⟩
 ·unfold Rd;exact⟨_,rfl,by unfold zav; exact⟨_,_,rfl,g1,by unfold zav; rfl⟩⟩
 ·unfold zav;refine⟨_,_,rfl,?_,by unfold zav; rfl⟩;unfold Rd;exact⟨_,rfl,by unfold zav; exact⟨_,_,rfl,g2,by unfold zav; rfl⟩⟩
theorem zw9(f g:List Module)(hf:Parted f)(hg:Parted g)(p:Place):FnP Tryz.prog 139 [zdn f,zdn g,.agg (zaL p)] (.d (eB (decide (zbu f p=zbu g p)))) []:=by
 refine FnP.of_eC (own:=[]) (fun i=>[]) zat Tryz.func139 rfl Tryz.call139 Tryz.ntmps139 (Nat.le_of_ble_eq_true rfl) Tryz.results139 (fun hok=> ?_);have hk:=zto p;have m1:=zpD hf p;have m2:=zpD hg p;cases h1:zbu f p with
 | none=>
  rw[h1]at m1;cases h2:zbu g p with
  | none=>
   rw[h2]at m2;rw[decide_eq_true (show(none:Option Module)=none from rfl)];simp(maxSteps:=4000000) only[ZE,↓reduceIte,pE,pL,pA,pS,pM,pD,zcN,zaL,Option.map_none]at m1 m2;simp(maxSteps:=4000000) only[ZE,↓reduceIte,pE,pL,pA,pS,pM,pD,zaL,zdn,zpw,hk,m1,m2,Option.getD_none,Option.isSome_none];exact⟨fun y hy=>zrH _ y hy,fun y hy=>zrH _ y hy⟩
  | some n=>
   obtain⟨a,b,c,d,e2,⟨o1,o2,o3,o4⟩,_⟩:=cM_row (zsD h2);have e2':eM n= .agg [a,b,c,d]:=by unfold eM; rw[e2]
   rw[h2,Option.map_some,e2']at m2;rw[decide_eq_false (show ¬(none:Option Module)=some n by simp)];simp(maxSteps:=4000000) only[ZE,↓reduceIte,pE,pL,pA,pS,pM,pD,zcN,zaL,Option.map_none]at m1 m2;simp(maxSteps:=4000000) only[ZE,↓reduceIte,pE,pL,pA,pS,pM,pD,zaL,zdn,zpw,hk,m1,m2,Option.getD_none,Option.isSome_none,Option.getD_some,Option.isSome_some];exact⟨fun y hy=>zrH _ y hy,fun y hy=>zrH _ y hy,o1,o2,o3,o4⟩
 | some m=>
  cases h2:zbu g p with
  | none=>
   obtain⟨a,b,c,d,e2,⟨o1,o2,o3,o4⟩,_⟩:=cM_row (zsD h1);have e2':eM m= .agg [a,b,c,d]:=by unfold eM; rw[e2]
   rw[h1,Option.map_some,e2']at m1;rw[h2]at m2;rw[decide_eq_false (show ¬some m=(none:Option Module) by simp)];simp(maxSteps:=4000000) only[ZE,↓reduceIte,pE,pL,pA,pS,pM,pD,zcN,zaL,Option.map_none]at m1 m2;simp(maxSteps:=4000000) only[ZE,↓reduceIte,pE,pL,pA,pS,pM,pD,zaL,zdn,zpw,hk,m1,m2,Option.getD_none,Option.isSome_none,Option.getD_some,Option.isSome_some];exact⟨fun y hy=>zrH _ y hy,⟨o1,o2,o3,o4⟩,fun y hy=>zrH _ y hy⟩
  | some n=>
   obtain⟨a,b,c,d,a',b',c',d',e1,e2,⟨o1,o2,o3,o4⟩,⟨q1,q2,q3,q4⟩,sc⟩:=same_w (zsD h1) (zsD h2);rw[h1,Option.map_some,e1]at m1;rw[h2,Option.map_some,e2]at m2;obtain⟨r,hr⟩:=zX (decide (some m=some n));rw[hr]at sc ⊢;simp(maxSteps:=4000000) only[ZE,↓reduceIte,pE,pL,pA,pS,pM,pD,zcN,zaL]at m1 m2;simp(maxSteps:=4000000) only[ZE,↓reduceIte,pE,pL,pA,pS,pM,pD]at sc;simp(maxSteps:=4000000) only[ZE,↓reduceIte,pE,pL,pA,pS,pM,pD,zaL,zdn,zpw,hk,m1,m2,Option.getD_none,Option.isSome_none,Option.getD_some,Option.isSome_some];refine⟨fun y hy=>zrH _ y hy,⟨o1,o2,o3,o4⟩,fun y hy=>zrH _ y hy,⟨q1,q2,q3,q4⟩,⟨o1,o2,o3,o4⟩,⟨q1,q2,q3,q4⟩,?_⟩;refine EFn.p ?_;simp(maxSteps:=4000000) only[ZE,↓reduceIte,pE,pL,pA,pS,pM,pD];refine zar.i sc ?_;cases r <;> simp(maxSteps:=4000000) only[ZE,↓reduceIte,pE,pL,pA,pS,pM,pD]
/-! ### All places -/
def addQ(L:List Place)(p:Place):List Place:=if p∈L then L else L++[p]
def zqc(L ps:List Place):List Place:=ps.foldl addQ L
theorem addsQ_law: ∀(ps L:List Place),L.Nodup->(zqc L ps).Nodup /\ ∀p,p∈zqc L ps↔p∈L\/p∈ps
 | [],L,h=>⟨h,fun p=>by simp[zqc]⟩
 | q::ps,L,h=>by
  have h1:(addQ L q).Nodup /\ ∀p,p∈addQ L q↔p∈L\/p=q:=by
   unfold addQ;by_cases hq:q∈L
   ·rw[if_pos hq];refine⟨h,fun p=>⟨.inl,?_⟩⟩;rintro(hp | rfl)
    ·exact hp
    ·exact hq
   ·rw[if_neg hq];refine⟨List.nodup_append.2 ⟨h,by simp,fun a ha b hb e=> ?_⟩,fun p=>by simp⟩;simp only[List.mem_singleton]at hb;subst hb; subst e; exact hq ha
  obtain⟨h2,h3⟩:=addsQ_law ps (addQ L q) h1.1;refine⟨h2,fun p=> ?_⟩;show p∈zqc (addQ L q) ps↔_;rw[h3,h1.2,List.mem_cons,or_assoc]
theorem addsQ_snoc(L ps:List Place)(q:Place):zqc L (ps++[q])=addQ (zqc L ps) q:=by
 unfold zqc;rw[List.foldl_append]; rfl
def tQ(L:List Place):List D:=L.map fun _=>D.lit (.bool true)
def setO(L:List Place):AO:=.map (L.map zcN) (tQ L) (List.range L.length) L.length
theorem put_set(L:List Place)(p:Place):zg2 (L.map zcN) (zcN p)=(addQ L p).map zcN/\zjx (L.map zcN) (tQ L) (zcN p) (.lit (.bool true))=tQ (addQ L p)/\
  zjF (L.map zcN) (List.range L.length) L.length (zcN p)=List.range (addQ L p).length /\zj9 (L.map zcN) L.length (zcN p)=(addQ L p).length :=by
 unfold addQ;by_cases h:p∈L
 ·rw[if_pos h];have hm:zcN p∈L.map zcN:=List.mem_map.2 ⟨p,h,rfl⟩;have hlt:=zcP.2 hm;refine⟨by simp only[zg2,if_pos hlt],?_,by simp only[zjF,if_pos hlt],by simp only[zj9,if_pos hlt]⟩;simp only[zjx,if_pos hlt];refine List.ext_getElem (by simp) fun i h1 h2=> ?_;rw[List.getElem_set];split
  ·simp[tQ]
  ·rfl
 ·rw[if_neg h];have hm:zcN p∉L.map zcN:=fun h'=>by
   obtain⟨q,h1,h2⟩:=List.mem_map.1 h';exact h (zsK h2▸h1)
  have hlt: ¬zeM (L.map zcN) (zcN p)<(L.map zcN).length :=fun h'=>hm (zcP.1 h');refine⟨by rw[zds hm]; simp,by rw[zdt hm]; simp[tQ],?_,?_⟩
  ·simp only[zjF,if_neg hlt,List.length_append,List.length_cons,List.length_nil,Nat.zero_add,List.range_succ]
  ·simp only[zj9,if_neg hlt,List.length_append,List.length_cons,List.length_nil,Nat.zero_add]
theorem setK_ok(L:List Place): ∀y∈L.map zcN,zd5 Tryz.prog 166 y:=fun y hy=>by
 obtain⟨e,_,rfl⟩:=List.mem_map.1 hy;exact zto e
def zvo(l:List Place)(js:List Nat):List Place:=js.map fun j=>l.getD j default
theorem pickF_mem{l:List Place}{js:List Nat}(h: ∀j∈js,j<l.length)(hall: ∀j,j<l.length->j∈js)(p:Place):p∈zvo l js↔p∈l:=by
 unfold zvo;rw[List.mem_map];constructor
 ·rintro⟨j,hj,rfl⟩;simp[List.getD,h j hj]
 ·intro hp;obtain⟨j,hj,rfl⟩:=List.getElem_of_mem hp;exact⟨j,hall j hj,by simp[List.getD,hj]⟩
theorem qK_keys(f:List Module):qK (ent f)=(zey f).map zcN:=by unfold qK zey; rw[List.map_map]; rfl
theorem allp_o(fs:List (List Module))(hl:(fs.flatMap zey).length <=4000000)(hn:fs.length<=1000):FnL Tryz.prog 137 [.d (.sl (fs.map fun f=>[zdn f]))] [] (fun V ol new=>V= .ar 90 (zo3 fs).length /\ol=[(90,.arr 166 3 .flat ((zo3 fs).map zaL))]/\new=[90]):=by
 refine FnL.of_eC (own:=[]) (fun i=>[]) [] zat Tryz.func137 rfl Tryz.call137 Tryz.ntmps137 (Nat.le_of_ble_eq_true rfl) Tryz.results137 ?_;simp(maxSteps:=4000000) only[ZE,↓reduceIte,pE,pL,pA,pS,pM,pD,zN,qT,qG,qL,qH,qN,qB,qE,qO,qA,qM,List.length_map];refine zg3 (fun _ _=>[]) zat fs.length (fun i (L:List Place)=>L.Nodup/\ ∀p,p∈L↔p∈(fs.take i).flatMap zey) (fun i L=>([(3,.mo 7),(8,.d (.sl (fs.map fun f=>[zdn f]))),(9,.d (eI fs.length)),(10,.d (eI i))],[(7,setO L)])) [] ?_ ?_ ?_ (fun i L hi hI=> ?_)
 ·simp
 ·simp only[ZE,↓reduceIte,pE,pL,pA,pS,pM,pD]
 ·simp only[ZE,↓reduceIte,pE,pL,pA,pS,pM,pD,setO,tQ,List.map_nil,List.length_nil,List.range_zero]
 obtain⟨hnd,hmem⟩:=hI;rcases Nat.lt_or_ge i fs.length with h | h
 ·have hw:=zas (show i<9223372036854775807 by omega);obtain⟨f,hf⟩:=zX (fs[i]);have hel:(ent f).length =(zey f).length :=by unfold zey; rw[List.length_map]
  simp(maxSteps:=4000000) only[ZE,↓reduceIte,pE,pL,pA,pS,pM,pD,zax h,zal h,zaa h,hf,zN,qT,qG,qL,qH,qN,qB,qE,qO,qA,qM,zdn,setO,qK_keys,hel];refine zg3 (fun _ _=>[]) zat (zey f).length (fun k (js:List Nat)=>js.length=k/\js.Nodup/\ ∀j∈js,j<(zey f).length)
   (fun k js=>([(3,.mo 7),(8,.d (.sl (fs.map fun f=>[zdn f]))),(9,.d (eI fs.length)),(10,.d (eI i)),(15,.mo 15)],[(7,setO (zqc L (zvo (zey f) js))),(15,.it ((zey f).map zcN) (qV eM (ent f)) (List.range (zey f).length) (zey f).length js)])) [] ?_ ?_ ?_ (fun k js hk hI=> ?_)
  ·simp
  ·simp only[ZE,↓reduceIte,pE,pL,pA,pS,pM,pD,zdn,qK_keys]
  ·simp only[ZE,↓reduceIte,pE,pL,pA,pS,pM,pD,setO,zvo,zqc,List.map_nil,List.foldl_nil]
  obtain⟨h1,h2,h3⟩:=hI;simp(maxSteps:=4000000) only[ZE,↓reduceIte,pE,pL,pA,pS,pM,pD,setO];refine⟨by simp only[ZE,↓reduceIte,pE,pL,pA,pS,pM,pD],fun j hj hjs=> ?_,fun hall=> ?_⟩
  ·have hj':j<(zey f).length :=by simpa using hj
   obtain⟨p,hp⟩:=zX ((zey f)[j]);have hD:(zey f).getD j default=p:=by simp[List.getD,hj',hp]
   have hkj:((zey f).map zcN).getD j default=D.agg [.lit (.string p.module.1),.lit (.int .i64 p.part.kind.1),.lit (.string p.part.name.1)]:=by
    simp[List.getD,hj',hp,zcN,zaL,eI,eS]
   have hlen:k<(zey f).length :=by
    have:=zc1 (zey f).length (j::js) (List.nodup_cons.2 ⟨hjs,h2⟩) (fun a ha=>by
     rcases List.mem_cons.1 ha with rfl | ha
     ·exact hj'
     ·exact h3 a ha)
    simp at this; omega
   have hnew:(js++[j]).Nodup /\ ∀a∈js++[j],a<(zey f).length :=by
    refine⟨List.nodup_append.2 ⟨h2,by simp,fun a ha b hb e=> ?_⟩,fun a ha=> ?_⟩
    ·simp at hb; subst hb; subst e; exact hjs ha
    ·rcases List.mem_append.1 ha with ha | ha
     ·exact h3 a ha
     ·simp at ha; subst ha; exact hj'
   have hpick:addQ (zqc L (zvo (zey f) js)) p=zqc L (zvo (zey f) (js++[j])):=by
    rw[<-addsQ_snoc];unfold zvo;rw[List.map_append,List.map_cons,List.map_nil,hD]
   have hput:=zkw (put_set (zqc L (zvo (zey f) js)) p);rw[hpick]at hput;have hk:=zto p;simp(maxSteps:=4000000) only[ZE,↓reduceIte,pE,pL,pA,pS,pM,pD,zcN,zaL]at hput;simp(maxSteps:=4000000) only[ZE,↓reduceIte,pE,pL,pA,pS,pM,pD,hkj,List.getLast?_append,List.getLast?_singleton,Option.some_or,zpw,hk,hput,setO];refine⟨fun y hy=>setK_ok _ y hy,?_⟩;simp only[zeq];refine⟨hlen,js++[j],⟨by simp[h1],hnew⟩,?_⟩;simp only[ZE,↓reduceIte,pE,pL,pA,pS,pM,pD,setO]
  ·have hall': ∀j,j<(zey f).length ->j∈js:=fun j hj=>hall j (by simpa using hj);obtain⟨g1,g2⟩:=addsQ_law (zvo (zey f) js) L hnd;simp(maxSteps:=4000000) only[ZE,↓reduceIte,pE,pL,pA,pS,pM,pD,zN,qT,qG,qL,qH,qN,qB,qE,qO,qA,qM,hw];simp only[zeq];refine⟨h,zqc L (zvo (zey f) js),⟨g1,fun p=> ?_⟩,?_⟩
   ·rw[g2,hmem,pickF_mem h3 hall',List.take_succ_eq_append_getElem h,List.flatMap_append,List.mem_append,hf];simp
   ·simp only[ZE,↓reduceIte,pE,pL,pA,pS,pM,pD,setO,zdn,qK_keys]
 ·have:i=fs.length:=by omega
  subst this;rw[List.take_length]at hmem;have hLl:L.length<=4000000:=Nat.le_trans (zgH hnd fun p hp=>(hmem p).1 hp) hl;have kc:=keysQ_c L (tQ L) (List.range L.length) L.length;have so:=sortedQ_o L hnd (tQ L) (List.range L.length) L.length hLl;have hset:setS ltQ L=zo3 fs:=zx2 zl3 (zjU zl3 L) (zn3 fs) fun p=>by
   unfold zo3;rw[zgF zl3,zgF zl3,hmem]
  rw[hset]at so;simp(maxSteps:=4000000) only[ZE,↓reduceIte,pE,pL,pA,pS,pM,pD,zaI h,zN,qT,qG,qL,qH,qN,qB,qE,qO,qA,qM,setO];refine EFn.p ?_;simp(maxSteps:=4000000) only[ZE,↓reduceIte,pE,pL,pA,pS,pM,pD];refine zar.i kc ?_;simp(maxSteps:=4000000) only[ZE,↓reduceIte,pE,pL,pA,pS,pM,pD];refine EFn.g ⟨[(90,90)],[.d (.clo (.func 235) [] [.ptr [.mp (L.map zcN) (tQ L) (List.range L.length) L.length]]),.d (.clo (.func 180) [] [])],_,_,so,?_⟩;simp(maxSteps:=4000000) only[ZE,↓reduceIte,pE,pL,pA,pS,pM,pD];rintro V ol new ⟨rfl,rfl,rfl⟩;simp(maxSteps:=4000000) only[ZE,↓reduceIte,pE,pL,pA,pS,pM,pD];refine⟨[],[90],?_⟩;simp(maxSteps:=4000000) only[ZE,↓reduceIte,pE,pL,pA,pS,pM,pD]
theorem allp_c(fs:List (List Module))(hl:(fs.flatMap zey).length <=4000000)(hn:fs.length<=1000):FnP Tryz.prog 137 [.sl (fs.map fun f=>[zdn f])] (.d (.sl ((zo3 fs).map zaL))) []:=by
 have h:=allp_o fs hl hn;rw[<-List.length_map (f:=zaL)]at h;exact FnP.of_arr h
/-! ### Opened -/
def openR(fs:List (List Module)):AV:=if fs.all zgo=true then .tup [.d (.sl (fs.map fun f=>[zdn f])),.d (eI 0)]else .tup [.d (.sl []),.d (eI 1)]
theorem rowsOk_cont(fs:List (List Module)):zcY 1 (fs.map fun f=>[zdn f]):=fun y hy=>by
 obtain⟨f,_,rfl⟩:=List.mem_map.1 hy;exact⟨rfl,fun x hx=>by simp only[List.mem_singleton]at hx; subst hx; simp[zdn,D.one]⟩
structure Sz (f:List Module):Prop where
 len:f.length<=4000000
 items: ∀m∈f,m.items.length<=4000000
theorem zrY(fs:List (List Module))(hs: ∀f∈fs,Sz f)(hn:fs.length<=1000):FnP Tryz.prog 135 [.sl (fs.map fun f=>[zaz f])] (openR fs) []:=by
 refine FnP.of_eC (own:=[]) (fun i=>if i=2 then [.adT 4 100 211 1]else []) zat Tryz.func135 rfl Tryz.call135 Tryz.ntmps135 (Nat.le_of_ble_eq_true rfl) Tryz.results135 (fun hok=> ?_);simp(maxSteps:=4000000) only[ZE,↓reduceIte,pE,pL,pA,pS,pM,pD,zN,qT,qG,qL,qH,qN,qB,qE,qO,qA,qM,List.length_map];refine za2 (fun i=>[]) zat fs.length (fun i=>(fs.take i).all zgo=true) (fun i=>([(4,.ar 100 i),(7,.d (.sl (fs.map fun f=>[zaz f]))),(8,.d (eI fs.length)),(9,.d (eI i))],[(100,.arr 211 1 .flat ((fs.take i).map fun f=>[zdn f]))])) (by simp) ?_ ?_ (fun i hi hI=> ?_)
 ·simp only[ZE,↓reduceIte,pE,pL,pA,pS,pM,pD]
 ·simp only[ZE,↓reduceIte,pE,pL,pA,pS,pM,pD,List.take_zero,List.map_nil]
 rcases Nat.lt_or_ge i fs.length with h | h
 ·have hw:=zas (show i<9223372036854775807 by omega);obtain⟨f,hf⟩:=zX (fs[i]);have hfm:f∈fs:=hf▸List.getElem_mem h;have pc:=zit f (hs f hfm).len (hs f hfm).items;cases hb:zgo f with
  | false=>
   have hall:fs.all zgo=false:=by
    rw[List.all_eq_false];exact⟨f,hfm,by simp[hb]⟩
   rw[hb]at pc;simp(maxSteps:=4000000) only[ZE,↓reduceIte,pE,pL,pA,pS,pM,pD,zax h,zal h,zaa h,hf,zN,qT,qG,qL,qH,qN,qB,qE,qO,qA,qM];refine EFn.p ?_;simp(maxSteps:=4000000) only[ZE,↓reduceIte,pE,pL,pA,pS,pM,pD];refine zar.i pc ?_;simp(maxSteps:=4000000) only[ZE,↓reduceIte,pE,pL,pA,pS,pM,pD,openR,hall,Bool.false_eq_true]
  | true=>
   rw[hb]at pc;have cc:=contentsOf_c f ((zbW f).1 hb);have hr:=rowsOk_cont [f];have hlt:(fs.take i).length =i:=by rw[List.length_take]; omega
   rw[List.take_succ_eq_append_getElem h,hf,List.map_append,List.all_append];simp only[List.map_cons,List.map_nil]at hr;simp(maxSteps:=4000000) only[ZE,↓reduceIte,pE,pL,pA,pS,pM,pD,zdn]at hr;simp(maxSteps:=4000000) only[ZE,↓reduceIte,pE,pL,pA,pS,pM,pD,zax h,zal h,zaa h,hf,zN,qT,qG,qL,qH,qN,qB,qE,qO,qA,qM,List.map_cons,List.map_nil];refine EFn.p ?_;simp(maxSteps:=4000000) only[ZE,↓reduceIte,pE,pL,pA,pS,pM,pD];refine zar.i pc ?_;simp(maxSteps:=4000000) only[ZE,↓reduceIte,pE,pL,pA,pS,pM,pD];refine EFn.p ?_;simp(maxSteps:=4000000) only[ZE,↓reduceIte,pE,pL,pA,pS,pM,pD];refine zar.i cc ?_;simp(maxSteps:=4000000) only[ZE,↓reduceIte,pE,pL,pA,pS,pM,pD,zdn,hw,zN,qT,qG,qL,qH,qN,qB,qE,qO,qA,qM,List.length_map,hlt];exact⟨⟨by omega,by omega⟩,h,by rw[hI]; simp[hb]⟩
 ·have:i=fs.length:=by omega
  subst this;rw[List.take_length]at hI;simp(maxSteps:=4000000) only[ZE,↓reduceIte,pE,pL,pA,pS,pM,pD,zaI h,zN,qT,qG,qL,qH,qN,qB,qE,qO,qA,qM,openR,hI,List.take_length,List.length_map]
def eC3(b x y:List Module):D:=.sl [[zdn b],[zdn x],[zdn y]]
theorem side_c(b x y:List Module)(hb:Parted b)(hx:Parted x)(hy:Parted y)(p:Place):FnP Tryz.prog 147 [eC3 b x y,.agg (zaL p)] (.d (eI (zf9 (zbu b) (zbu x) (zbu y) p:Nat))) []:=by
 refine FnP.of_eC (own:=[]) (fun i=>[]) zat Tryz.func147 rfl Tryz.call147 Tryz.ntmps147 (Nat.le_of_ble_eq_true rfl) Tryz.results147 (fun hok=> ?_);have c1:=zw9 b x hb hx p;have c2:=zw9 b y hb hy p;have c3:=zw9 x y hx hy p;obtain⟨d1,h1⟩: ∃d,decide (zbu b p=zbu x p)=d:=⟨_,rfl⟩;obtain⟨d2,h2⟩: ∃d,decide (zbu b p=zbu y p)=d:=⟨_,rfl⟩;obtain⟨d3,h3⟩: ∃d,decide (zbu x p=zbu y p)=d:=⟨_,rfl⟩;have hs:zf9 (zbu b) (zbu x) (zbu y) p=if d1=true then(if d2=true then 0 else 2)else if d2=true then 1 else if d3=true then 3 else 4:=by
  rw[<-h1,<-h2,<-h3];simp only[decide_eq_true_eq];rfl
 rw[hs];rw[h1]at c1;rw[h2]at c2;rw[h3]at c3;obtain⟨B,hB⟩:=zX (zdn b);obtain⟨X,hX⟩:=zX (zdn x);obtain⟨Y,hY⟩:=zX (zdn y);rw[hB,hX]at c1;rw[hB,hY]at c2;rw[hX,hY]at c3;unfold eC3;rw[hB,hX,hY];simp(maxSteps:=4000000) only[ZE,↓reduceIte,pE,pL,pA,pS,pM,pD,zaL]at c1 c2 c3;have w1:IntKind.i64.wrap 1=1:=by decide
 have w2:IntKind.i64.wrap 2=2:=by decide
 have w3:IntKind.i64.wrap 3=3:=by decide
 cases d1 <;> cases d2
 ·cases d3
  all_goals {
   simp(maxSteps:=4000000) only[ZE,↓reduceIte,pE,pL,pA,pS,pM,pD,zN,qT,qG,qL,qH,qN,qB,qE,qO,qA,qM,zaL];refine⟨by kernel_rfl,zay.i c1 ?_⟩;simp(maxSteps:=4000000) only[ZE,↓reduceIte,pE,pL,pA,pS,pM,pD,zN,qT,qG,qL,qH,qN,qB,qE,qO,qA,qM,w1];refine⟨by kernel_rfl,zay.i c2 ?_⟩;simp(maxSteps:=4000000) only[ZE,↓reduceIte,pE,pL,pA,pS,pM,pD,zN,qT,qG,qL,qH,qN,qB,qE,qO,qA,qM,w1,w2,w3];refine⟨by kernel_rfl,zay.i c3 ?_⟩;simp(maxSteps:=4000000) only[ZE,↓reduceIte,pE,pL,pA,pS,pM,pD,zN,qT,qG,qL,qH,qN,qB,qE,qO,qA,qM]
  }
 all_goals {
  simp(maxSteps:=4000000) only[ZE,↓reduceIte,pE,pL,pA,pS,pM,pD,zN,qT,qG,qL,qH,qN,qB,qE,qO,qA,qM,zaL];refine⟨by kernel_rfl,zay.i c1 ?_⟩;simp(maxSteps:=4000000) only[ZE,↓reduceIte,pE,pL,pA,pS,pM,pD,zN,qT,qG,qL,qH,qN,qB,qE,qO,qA,qM,w1];refine⟨by kernel_rfl,zay.i c2 ?_⟩;simp(maxSteps:=4000000) only[ZE,↓reduceIte,pE,pL,pA,pS,pM,pD,zN,qT,qG,qL,qH,qN,qB,qE,qO,qA,qM,w1,w2,w3];kernel_rfl}
def zsr(r:Option Module):D:=(r.map eM).getD (.agg (zaC zdQ))
/-- Four cells. -/
def Row4(x:D):Prop:= ∃a n q i:D,x= .agg [a,n,q,i]/\a.one/\n.one/\q.one/\i.one
theorem zpN{l:List Module}{p:Place}{r:Option Module}(hr:zbu l p=r):Row4 (zsr r):=by
 cases r with
 | none=>exact⟨_,_,_,_,rfl,rfl,rfl,trivial,trivial⟩
 | some m=>
  obtain⟨a,n,q,i,e,ho,_⟩:=cM_row (zsD hr);exact⟨a,n,q,i,by show eM m=_; unfold eM; rw[e],ho⟩
theorem merged_c(b x y:List Module)(hb:Parted b)(hx:Parted x)(hy:Parted y)(p:Place):FnP Tryz.prog 142 [eC3 b x y,.agg (zaL p)] (.tup [.d (zsr (zis (zbu b) (zbu x) (zbu y) p)),.d (eB (zis (zbu b) (zbu x) (zbu y) p).isSome)]) []:=by
 refine FnP.of_eC (own:=[]) (fun i=>[]) zat Tryz.func142 rfl Tryz.call142 Tryz.ntmps142 (Nat.le_of_ble_eq_true rfl) Tryz.results142 (fun hok=> ?_);have sc:=side_c b x y hb hx hy p;have hk:=zto p;have key: ∀l,Parted l-> ∃s,zke (qK (ent l)) (qV eM (ent l)) (zcN p)=s/\s.isSome=(zbu l p).isSome /\s.getD (.agg (zaC zdQ))=zsr (zbu l p):=fun l hl=>by
  refine⟨_,rfl,?_,?_⟩
  ·rw[zpD hl p]; cases zbu l p <;> rfl
  ·rw[zpD hl p]; rfl
 obtain⟨n,hn⟩:=zX (zf9 (zbu b) (zbu x) (zbu y) p);rw[hn]at sc;by_cases h2:n=2
 ·have hm:zis (zbu b) (zbu x) (zbu y) p=zbu y p:=by unfold zis; rw[if_pos (hn.trans h2)]
  have h0:((n:Int)==2)=true:=by rw[h2]; rfl
  obtain⟨s,e1,e2,e3⟩:=key y hy;obtain⟨a,nn,q,i,e4,o1,o2,o3,o4⟩:=zpN (l:=y) (p:=p) rfl;rw[e4]at e3;rw[hm,e4,<-e2];simp(maxSteps:=4000000) only[ZE,↓reduceIte,pE,pL,pA,pS,pM,pD,eC3,zaL,zdn]at sc;simp(maxSteps:=4000000) only[ZE,↓reduceIte,pE,pL,pA,pS,pM,pD,zcN,zaL]at e1;simp(maxSteps:=4000000) only[ZE,↓reduceIte,pE,pL,pA,pS,pM,pD,zdQ,emp,List.map_nil]at e3;simp(maxSteps:=4000000) only[ZE,↓reduceIte,pE,pL,pA,pS,pM,pD,zN,qT,qG,qL,qH,qN,qB,qE,qO,qA,qM,zaL,eC3,zdn];refine EFn.p ?_;simp(maxSteps:=4000000) only[ZE,↓reduceIte,pE,pL,pA,pS,pM,pD];refine zar.i sc ?_;simp(maxSteps:=4000000) only[ZE,↓reduceIte,pE,pL,pA,pS,pM,pD,zN,qT,qG,qL,qH,qN,qB,qE,qO,qA,qM,h0,zpw,hk,e1,e3];exact⟨fun z hz=>zrH _ z hz,o1,o2,o3,o4⟩
 ·have hm:zis (zbu b) (zbu x) (zbu y) p=zbu x p:=by unfold zis; rw[if_neg (fun h=>h2 (hn.symm.trans h))]
  have h0:((n:Int)==2)=false:=by
   rw[beq_eq_false_iff_ne]; omega
  obtain⟨s,e1,e2,e3⟩:=key x hx;obtain⟨a,nn,q,i,e4,o1,o2,o3,o4⟩:=zpN (l:=x) (p:=p) rfl;rw[e4]at e3;rw[hm,e4,<-e2];simp(maxSteps:=4000000) only[ZE,↓reduceIte,pE,pL,pA,pS,pM,pD,eC3,zaL,zdn]at sc;simp(maxSteps:=4000000) only[ZE,↓reduceIte,pE,pL,pA,pS,pM,pD,zcN,zaL]at e1;simp(maxSteps:=4000000) only[ZE,↓reduceIte,pE,pL,pA,pS,pM,pD,zdQ,emp,List.map_nil]at e3;simp(maxSteps:=4000000) only[ZE,↓reduceIte,pE,pL,pA,pS,pM,pD,zN,qT,qG,qL,qH,qN,qB,qE,qO,qA,qM,zaL,eC3,zdn];refine EFn.p ?_;simp(maxSteps:=4000000) only[ZE,↓reduceIte,pE,pL,pA,pS,pM,pD];refine zar.i sc ?_;simp(maxSteps:=4000000) only[ZE,↓reduceIte,pE,pL,pA,pS,pM,pD,zN,qT,qG,qL,qH,qN,qB,qE,qO,qA,qM,h0,zpw,hk,e1,e3];exact⟨fun z hz=>zrH _ z hz,o1,o2,o3,o4⟩
/-! ### Neighbours that are equal,once -/
def zu8(acc:List Place)(x:Place):List Place:=if acc.getLast?=some x then acc else acc++[x]
def dd(l:List Place):List Place:=l.foldl zu8 []
theorem zw3(l:List Place)(x:Place):dd (l++[x])=zu8 (dd l) x:=by unfold dd; rw[List.foldl_append]; rfl
theorem dd_last(l:List Place)(x:Place):(dd (l++[x])).getLast? =some x:=by
 rw[zw3];unfold zu8;split
 ·assumption
 ·simp
theorem dd_take{l:List Place}{k:Nat}(h:k+1<l.length):dd (l.take (k+2))=if l[k+1]=l[k]then dd (l.take (k+1))else dd (l.take (k+1))++[l[k+1]]:=by
 rw[List.take_succ_eq_append_getElem h,zw3];have hl:(dd (l.take (k+1))).getLast? =some l[k]:=by
  rw[List.take_succ_eq_append_getElem (show k<l.length by omega)];exact dd_last _ _
 unfold zu8;rw[hl];by_cases e:l[k+1]=l[k]
 ·rw[if_pos e,if_pos (by rw[e])]
 ·rw[if_neg e,if_neg (fun h=>e (Option.some.inj h).symm)]
theorem dd_len(l:List Place):(dd l).length <=l.length:=by
 have key: ∀n,n<=l.length->(dd (l.take n)).length <=n:=by
  intro n
  induction n with
  | zero=>intro _; simp[dd]
  | succ n ih=>
   intro h;have:=ih (by omega);rw[List.take_succ_eq_append_getElem (by omega),zw3];unfold zu8;split
   ·omega
   ·rw[List.length_append]; simp only[List.length_cons,List.length_nil]; omega
 have:=key l.length (Nat.le_refl _);rwa [List.take_length]at this
theorem dd_mem(l:List Place)(p:Place):p∈dd l↔p∈l:=by
 have key: ∀(l acc:List Place),p∈l.foldl zu8 acc↔p∈acc\/p∈l:=by
  intro l
  induction l with
  | nil=>intro acc; simp
  | cons x l ih=>
   intro acc;rw[List.foldl_cons,ih,List.mem_cons];unfold zu8;split
   ·rename_i h;have:=List.mem_of_getLast? h;constructor
    ·rintro(h | h)
     ·exact .inl h
     ·exact .inr (.inr h)
    ·rintro(h | rfl | h)
     ·exact .inl h
     ·exact .inl this
     ·exact .inr h
   ·rw[List.mem_append,List.mem_singleton,or_assoc]
 unfold dd;rw[key];simp
/-- Of a sorted list it is a strictly sorted one. -/
theorem dd_srt{l:List Place}(h:l.Pairwise fun x y=> ¬cmpQ y x<0):Srt ltQ id (dd l):=by
 have key: ∀n,n<=l.length->Srt ltQ id (dd (l.take n)):=by
  intro n
  induction n with
  | zero=>intro _; exact List.Pairwise.nil
  | succ n ih=>
   intro hn;have h1:=ih (by omega);rw[List.take_succ_eq_append_getElem (by omega),zw3];unfold zu8;split
   ·exact h1
   ·rename_i hne;unfold Srt;rw[List.pairwise_append];refine⟨h1,List.pairwise_singleton _ _,fun a ha b hb=> ?_⟩;simp only[List.mem_singleton]at hb;subst hb;have ha':=(dd_mem _ _).1 ha;rw[List.mem_take_iff_getElem]at ha';obtain⟨j,hj,rfl⟩:=ha';have h2:=(List.pairwise_iff_getElem.1 h) j n (by omega) (by omega) (by omega);rw[zwX]at h2;have h2':ltQ l[n] l[j]=false:=(by simpa using h2);show ltQ l[j] l[n]=true;cases hlt:ltQ l[j] l[n]with
    | true=>rfl
    | false=>
     have e:=zl3.conn _ _ hlt h2';exfalso
     -- then l[j] = l[n] is the last one
     have hn0:0<n:=(by omega);obtain⟨m,rfl⟩: ∃m,n=m+1:=⟨n-1,by omega⟩;have hl:(dd (l.take (m+1))).getLast? =some l[m]:=by
      rw[List.take_succ_eq_append_getElem (show m<l.length by omega)];exact dd_last _ _
     have hm:l[m]=l[m+1]:=by
      by_cases hjm:j=m
      ·subst hjm; exact e
      ·have h3:=(List.pairwise_iff_getElem.1 h) j m (by omega) (by omega) (by omega);have h4:=(List.pairwise_iff_getElem.1 h) m (m+1) (by omega) (by omega) (by omega);rw[zwX]at h3 h4;rw[e]at h3;have h3':ltQ l[m] l[m+1]=false:=(by simpa using h3);have h4':ltQ l[m+1] l[m]=false:=(by simpa using h4);exact zl3.conn _ _ h3' h4'
     exact hne (by rw[hl,hm])
 have:=key l.length (Nat.le_refl _);rwa [List.take_length]at this
theorem dd_set{l:List Place}(h:l.Pairwise fun x y=> ¬cmpQ y x<0):dd l=setS ltQ l:=setS_eq zl3 (dd_srt h) fun k=>dd_mem l k
theorem zkC(p q:Place):(decide (p.module=q.module)&&(p.part.kind.val==q.part.kind.val&&decide (p.part.name=q.part.name)))=decide (p=q):=by
 rw[Bool.eq_iff_iff];simp only[Bool.and_eq_true,decide_eq_true_eq,beq_iff_eq];obtain⟨m,⟨⟨k,hk⟩,n⟩⟩:=p;obtain⟨m',⟨⟨k',hk'⟩,n'⟩⟩:=q;simp only[Place.mk.injEq,Part.mk.injEq,Subtype.mk.injEq]
theorem compactQ_c(l:List Place)(hl:l.length<=4000000):FnL Tryz.prog 183 [.ar 0 l.length] [(0,.arr 166 3 .flat (l.map zaL))] (fun V ol new=>V= .d (.sl ((dd l).map zaL))/\ol=[]/\new=[]):=by
 refine FnL.of_eC (own:=[]) (fun i=>[]) [] zat Tryz.func183 rfl Tryz.call183 Tryz.ntmps183 (Nat.le_of_ble_eq_true rfl) Tryz.results183 ?_;rcases Nat.lt_or_ge l.length 2 with h2 | h2
 ·have d2:decide ((l.length:Int)<2)=true:=decide_eq_true (by omega);have e:dd l=l:=by
   match l,h2 with
   | [],_=>rfl
   | [a],_=>simp[dd,zu8]
   | a::b::r,h=>simp only[List.length_cons]at h; omega
  rw[e];simp(maxSteps:=4000000) only[ZE,↓reduceIte,pE,pL,pA,pS,pM,pD,zN,qT,qG,qL,qH,qN,qB,qE,qO,qA,qM,List.length_map,d2];refine⟨[0],[],?_⟩;simp(maxSteps:=4000000) only[ZE,↓reduceIte,pE,pL,pA,pS,pM,pD]
 ·have d2:decide ((l.length:Int)<2)=false:=decide_eq_false (by omega);simp(maxSteps:=4000000) only[ZE,↓reduceIte,pE,pL,pA,pS,pM,pD,zN,qT,qG,qL,qH,qN,qB,qE,qO,qA,qM,List.length_map,d2];refine za2 (fun _=>[]) zat (l.length-1) (fun i=>dd (l.take (i+1))=l.take (i+1)) (fun i=>([(0,.ar 0 l.length),(3,.d (eI ((i+1:Nat):Int)))],[(0,.arr 166 3 .flat (l.map zaL))])) ?_ ?_ ?_ (fun i hi hI=> ?_)
  ·rw[List.take_succ_eq_append_getElem (show 0<l.length by omega)];simp[dd,zu8]
  ·simp(maxSteps:=4000000) only[ZE,↓reduceIte,pE,pL,pA,pS,pM,pD]
  ·simp(maxSteps:=4000000) only[ZE,↓reduceIte,pE,pL,pA,pS,pM,pD]
  rcases Nat.lt_or_ge i (l.length-1)with h | h
  ·have hk1:i+1<l.length:=by omega
   have hk0:i<l.length:=by omega
   have hw1:IntKind.i64.wrap (((i+1:Nat):Int)-1)=(i:Int):=by rw[show((i+1:Nat):Int)-1=(i:Int) by omega]; exact zaQ (by omega) (by omega)
   have hw2:IntKind.i64.wrap (((i+1:Nat):Int)+1)=((i+1+1:Nat):Int):=zas (by omega);obtain⟨p,hp⟩:=zX (l[i+1]);obtain⟨q,hq⟩:=zX (l[i]);have ht:=dd_take hk1;rw[hp,hq,hI]at ht;by_cases e:p=q
   ·rw[if_pos e]at ht;have hpq:=zkC p q;rw[decide_eq_true e]at hpq;have hc1:(0<=((i+1:Nat):Int)):=(by omega);simp(maxSteps:=4000000) only[ZE,↓reduceIte,pE,pL,pA,pS,pM,pD,zN,qT,qG,qL,qH,qN,qB,qE,qO,qA,qM,List.length_map,zax hk1,zal hk1,zaa hk1,zal hk0,zaa hk0,hp,hq,hw1,zaL,hpq,Int.toNat_natCast];refine⟨by kernel_rfl,hk1,hk0,⟨by omega,by omega,by omega,by omega⟩,?_⟩;refine zg3 (X:=List Place) (fun _ _=>[]) zat (l.length-(i+1)-1) (fun j (A:List Place)=>A.length=l.length/\A.take (dd (l.take (i+1+j+1))).length =dd (l.take (i+1+j+1))/\(dd (l.take (i+1+j+1))).length <=i+1+j/\ ∀r,i+1+j<=r->A[r]? =l[r]?)
     (fun j A=>([(0,.ar 0 l.length),(3,.d (eI ((dd (l.take (i+1+j+1))).length :Nat))),(4,.sub 0 l.length (i+1) l.length),(5,.d (eI ((j+1:Nat):Int)))],[(0,.arr 166 3 .flat (A.map zaL))])) l ?_ ?_ ?_ (fun j A hj hJ=> ?_)
    ·have e2:(dd (l.take (i+1+0+1))).length =i+1:=by
      rw[show i+1+0+1=i+2 from rfl,ht,List.length_take,Nat.min_eq_left (by omega)]
     refine⟨rfl,?_,by omega,fun _ _=>rfl⟩;rw[e2,show i+1+0+1=i+2 from rfl,ht]
    ·rw[show i+1+0+1=i+2 from rfl,ht,List.length_take,Nat.min_eq_left (by omega)];simp(maxSteps:=4000000) only[ZE,↓reduceIte,pE,pL,pA,pS,pM,pD,Int.natCast_zero,Nat.zero_add]
    ·simp(maxSteps:=4000000) only[ZE,↓reduceIte,pE,pL,pA,pS,pM,pD]
    obtain⟨hA1,hA2,hK1,hA3⟩:=hJ;rcases Nat.lt_or_ge j (l.length-(i+1)-1)with hjl | hjl
    ·have hr1:i+1+(j+1)<l.length:=(by omega);have hr0:i+1+j<l.length:=(by omega);have hlt:decide (((j+1:Nat):Int)<((l.length-(i+1):Nat):Int))=true:=decide_eq_true (by omega);have hw3:IntKind.i64.wrap (((j+1:Nat):Int)-1)=(j:Int):=(by rw[show((j+1:Nat):Int)-1=(j:Int) by omega]; exact zaQ (by omega) (by omega));have hw4:IntKind.i64.wrap (((j+1:Nat):Int)+1)=((j+1+1:Nat):Int):=zas (by omega);obtain⟨p1,hp1⟩:=zX (l[i+1+(j+1)]);obtain⟨p0,hp0⟩:=zX (l[i+1+j]);have hB1:i+1+(j+1)<A.length:=(by omega);have hB0:i+1+j<A.length:=(by omega);have hq1:A[i+1+(j+1)]=p1:=by
      have:=hA3 (i+1+(j+1)) (by omega);rw[List.getElem?_eq_getElem hB1,List.getElem?_eq_getElem hr1,hp1]at this;exact Option.some.inj this
     have hq0:A[i+1+j]=p0:=by
      have:=hA3 (i+1+j) (Nat.le_refl _);rw[List.getElem?_eq_getElem hB0,List.getElem?_eq_getElem hr0,hp0]at this;exact Option.some.inj this
     have ht1:dd (l.take (i+1+(j+1)+1))=if p1=p0 then dd (l.take (i+1+j+1))else dd (l.take (i+1+j+1))++[p1]:=by
      have:=dd_take (l:=l) (k:=i+1+j) (by omega);rw[show i+1+j+2=i+1+(j+1)+1 by omega]at this;rw[this,<-hp1,<-hp0];rfl
     have hKle:=dd_len (l.take (i+1+j+1));rw[List.length_take,Nat.min_eq_left (by omega)]at hKle;obtain⟨K,hK⟩:=zX (dd (l.take (i+1+j+1)));rw[hK]at hA2 hKle hK1 ht1;have hpq1:=zkC p1 p0;by_cases e1:p1=p0
     ·rw[if_pos e1]at ht1;rw[decide_eq_true e1]at hpq1;simp(maxSteps:=4000000) only[ZE,↓reduceIte,pE,pL,pA,pS,pM,pD,zN,qT,qG,qL,qH,qN,qB,qE,qO,qA,qM,List.length_map,hlt,hA1,zal hB1,zaa hB1,zal hB0,zaa hB0,hq1,hq0,hw3,hw4,hK,zaL,hpq1,Int.toNat_natCast];refine⟨by kernel_rfl,⟨⟨by omega,by omega⟩,Nat.le_refl _⟩,hr1,⟨⟨by omega,by omega⟩,Nat.le_refl _⟩,hr0,?_⟩;simp only[zeq];refine⟨hjl,A,⟨hA1,by rw[ht1]; exact hA2,by rw[ht1]; omega,fun r hr=>hA3 r (by omega)⟩,?_⟩;rw[ht1];simp(maxSteps:=4000000) only[ZE,↓reduceIte,pE,pL,pA,pS,pM,pD]
     ·rw[if_neg e1]at ht1;rw[decide_eq_false e1]at hpq1;have hKA:K.length<A.length:=(by omega);have hKl:K.length<l.length:=(by omega);have hw5:IntKind.i64.wrap ((K.length:Int)+1)=((K.length+1:Nat):Int):=zas (by omega);have hset:(A.map zaL).set K.length (zaL p1)=(A.set K.length p1).map zaL:=(by rw[List.map_set]);simp only[ZE,↓reduceIte,pE,pL,pA,pS,pM,pD,zaL]at hset;have hlen2:(K++[p1]).length =K.length+1:=(by simp);simp(maxSteps:=4000000) only[ZE,↓reduceIte,pE,pL,pA,pS,pM,pD,zN,qT,qG,qL,qH,qN,qB,qE,qO,qA,qM,List.length_map,hlt,hA1,zal hB1,zaa hB1,zal hB0,zaa hB0,hq1,hq0,hw3,hw4,hK,zaL,hpq1,Int.toNat_natCast,zal hKl,hw5,zaa hKA,hset,Nat.zero_add];refine⟨by kernel_rfl,⟨⟨by omega,by omega⟩,Nat.le_refl _⟩,hr1,⟨⟨by omega,by omega⟩,Nat.le_refl _⟩,hr0,⟨⟨by omega,by omega⟩,Nat.le_refl _⟩,hr1,hKl,?_⟩;simp only[zeq];refine⟨hjl,A.set K.length p1,⟨by rw[List.length_set]; exact hA1,?_,by rw[ht1,hlen2]; omega,fun r hr=> ?_⟩,?_⟩
      ·rw[ht1,hlen2,List.set_eq_take_append_cons_drop,if_pos hKA,hA2];rw[show K++p1::List.drop (K.length+1) A=(K++[p1])++List.drop (K.length+1) A by simp];exact List.take_left' hlen2
      ·rw[List.getElem?_set_ne (by omega)];exact hA3 r (by omega)
      ·rw[ht1,hlen2];simp(maxSteps:=4000000) only[ZE,↓reduceIte,pE,pL,pA,pS,pM,pD]
    ·have hj2:i+1+j+1=l.length:=(by omega);rw[hj2,List.take_length]at hA2 hK1;have hlt:decide (((j+1:Nat):Int)<((l.length-(i+1):Nat):Int))=false:=decide_eq_false (by omega);rw[hj2,List.take_length];obtain⟨K,hK⟩:=zX (dd l);rw[hK]at hA2 hK1 ⊢;simp(maxSteps:=4000000) only[ZE,↓reduceIte,pE,pL,pA,pS,pM,pD,zN,qT,qG,qL,qH,qN,qB,qE,qO,qA,qM,List.length_map,hlt,hA1,Int.toNat_natCast];have hz:(A.map zaL).take K.length=K.map zaL:=(by rw[<-List.map_take,hA2]);have hd:(A.map zaL).drop l.length=[]:=List.drop_eq_nil_of_le (by rw[List.length_map]; omega);have hKA:K.length<=l.length:=(by omega);rw[hz,hd,List.append_nil];have hl3:(K.map zaL++List.replicate (l.length-K.length) [D.lit (Value.string ByteArray.empty),D.lit (Value.int IntKind.i64 0),D.lit (Value.string ByteArray.empty)]).length =l.length:=by
      rw[List.length_append,List.length_map,List.length_replicate]; omega
     obtain⟨R,hR⟩:=zX (K.map zaL++List.replicate (l.length-K.length) [D.lit (Value.string ByteArray.empty),D.lit (Value.int IntKind.i64 0),D.lit (Value.string ByteArray.empty)]);rw[hR]at hl3 ⊢;have hRt:R.take K.length=K.map zaL:=(by rw[<-hR]; exact List.take_left' (by rw[List.length_map]));rw[hl3];refine⟨⟨by omega,by omega,by omega,by omega⟩,⟨hKA,Nat.le_refl _⟩,⟨⟨rfl,by omega⟩,by omega,by omega⟩,?_⟩;refine⟨[0],[],?_⟩;simp(maxSteps:=4000000) only[ZE,↓reduceIte,pE,pL,pA,pS,pM,pD,hl3,List.drop_zero,Nat.sub_zero,hRt];exact⟨Nat.zero_le _,hKA⟩
   ·rw[if_neg e]at ht;have hpq:=zkC p q;rw[decide_eq_false e]at hpq;simp(maxSteps:=4000000) only[ZE,↓reduceIte,pE,pL,pA,pS,pM,pD,zN,qT,qG,qL,qH,qN,qB,qE,qO,qA,qM,List.length_map,zax hk1,zal hk1,zaa hk1,zal hk0,zaa hk0,hp,hq,hw1,hw2,zaL,hpq,Int.toNat_natCast];refine⟨by kernel_rfl,hk1,hk0,h,?_⟩;rw[ht,List.take_succ_eq_append_getElem hk1,hp]
  ·have hi1:i+1=l.length:=by omega
   rw[hi1,List.take_length]at hI;rw[hi1];have hge:decide ((l.length:Int)<(l.length:Int))=false:=decide_eq_false (by omega);simp(maxSteps:=4000000) only[ZE,↓reduceIte,pE,pL,pA,pS,pM,pD,hge,zN,qT,qG,qL,qH,qN,qB,qE,qO,qA,qM,List.length_map];refine⟨[0],[],?_⟩;simp(maxSteps:=4000000) only[ZE,↓reduceIte,pE,pL,pA,pS,pM,pD,hI]
structure K3 where
 a:Nat
 b:Nat
 c:Nat
def K3.ok(k:K3):Prop:=k.a<256/\k.b<256/\k.c<256
def nameX:Nat->Str
 | 0=>st [120,100]
 | 1=>st [120,101]
 | 2=>st [120,102]
 | _=>st [120,103]
def nameQ:Nat->Str
 | 0=>st [113,100]
 | 1=>st [113,101]
 | 2=>st [113,102]
 | _=>st [113,103]
def clockN:Nat->Str
 | 0=>st [99,108,107]
 | 1=>st [97,117,120]
 | _=>st [115,108,111,119]
def sR1:Str:=st [114]
def sS1:Str:=st [115]
def fItem(name:Str)(n:Nat):Item:={zaV with kind:=⟨4,rfl⟩,name:=name,width:=⟨((1+n % 2:Nat):Int),emp⟩,a:=.mk 14 name zbh zbh []}
def notE(e:Expr):Expr:=.mk 2 emp zbh zbh [e]
def zoL(m:Module):List Nat:=(List.range m.items.length).filter fun i=>decide ((m.items.getD i zaV).kind.1 =4)
def chI(k:K3)(x:Item):Item:=if k.b % 6=2 then{x with init:=⟨((k.a % 2:Nat):Int),emp⟩}else if k.b % 6=3 then{x with rule:=⟨3,sS1,((k.a % 3:Nat):Int)⟩}else if k.b % 6=4 then{x with a:=notE x.a}else{x with rule:=⟨((k.a % 2:Nat):Int),emp,0⟩}
def qPart(k:K3):Part:=⟨⟨4,rfl⟩,nameQ (k.c % 4)⟩
def atQ(m:Module)(k:K3):Int:=zhd (fun x=>decide (zbo x=qPart k)) m.items
def zfK(m:Module)(k:K3):Nat:=(zoL m).getD (k.c % (zoL m).length) 0
def regM(m:Module)(k:K3):Module:=
 if k.b % 6=0/\atQ m k<0 then{m with items:=m.items++[fItem (nameQ (k.c % 4)) k.a]}
 else if k.b % 6=1/\0<=atQ m k then{m with items:=m.items.eraseIdx (atQ m k).toNat}
 else if (zoL m).length =0 then m
 else{m with items:=m.items.set (zfK m k) (chI k (m.items.getD (zfK m k) zaV))}
def zf2(k:K3)(x:Item):Item:=if x.kind.1=8 then{x with b:=notE x.b}else if x.kind.1=3 then{x with depth:=⟨((1+k.c % 8:Nat):Int),emp⟩}else x
def zvk(m:Module)(k:K3):Module:=
 if k.a % 8=5 then{m with clock:=clockN (k.c % 3)}
 else if k.a % 8=4 then{m with items:=m.items.map (zf2 k)}
 else regM m k
def newM(k:K3):Module:=⟨nameX (k.c % 4),clockN 0,[],[fItem sR1 k.b]⟩
def atX(f:List Module)(k:K3):Int:=zhd (fun m=>decide (m.name=nameX (k.c % 4))) f
def edS(f:List Module)(k:K3):List Module:=
 if k.a % 8=7/\atX f k<0 then f++[newM k]
 else if k.a % 8=6/\0<=atX f k then f.eraseIdx (atX f k).toNat
 else if f.length=0 then f
 else f.set (k.b % f.length) (zvk (f.getD (k.b % f.length) zdQ) k)
def zfO(f:List Module)(l:List K3):List Module:=(l.take 6).foldl edS f
/-! ### What stays -/
structure Gi (n:Nat) (f:List Module):Prop where
 len:f.length<=2+n
 fine: ∀m∈f,Fine (60+n) m
 part:Parted f
 pk:PK f
theorem Gi.fl{n:Nat}{f:List Module}(h:Gi n f):Fl f:=⟨h.part,h.pk⟩
theorem zxh{α:Type}{p:α->Bool}{l:List α}(h:zhd p l<0): ∀x∈l,p x=false:=by
 intro x hx;cases hp:p x with
 | false=>rfl
 | true=>
  have:=zfZ p l;rw[List.any_eq_true.2 ⟨x,hx,hp⟩,decide_eq_true_eq]at this;omega
theorem gi_made(x:Raw):Gi 0 (zdF x):=by
 have h:=spI_made x;refine⟨h.len,h.fine,(zbW _).1 h.part,⟨?_⟩⟩;have:((zdF x).all fun m=>m.items.all fun y=>decide (0<y.kind.1))=true:=by
  rcases zc6 x with⟨mem,h⟩ | ⟨q,h⟩ | ⟨q,mem,h⟩ | ⟨q,mem,h⟩
  ·rw[h]; cases mem <;> kernel_rfl
  ·rw[h]; cases q <;> kernel_rfl
  ·rw[h]; cases q <;> cases mem <;> kernel_rfl
  ·rw[h]; cases q <;> cases mem <;> kernel_rfl
 intro m hm y hy;rw[List.all_eq_true]at this;have h2:=this m hm;rw[List.all_eq_true]at h2;simpa using h2 y hy
theorem sz_not(e:Expr):sz (notE e)=sz e+1:=by unfold notE; rw[zef]; simp
theorem sz_leaf(o:Int)(n:Str)(k w:Num):sz (.mk o n k w [])=1:=by rw[zef]; simp
theorem chI_part(k:K3)(x:Item):zbo (chI k x)=zbo x:=by
 unfold chI
 (repeat' split) <;> rfl
theorem chI_kind(k:K3)(x:Item):(chI k x).kind =x.kind:=by
 unfold chI
 (repeat' split) <;> rfl
theorem chI_sz(k:K3)(x:Item):sz (chI k x).a +sz (chI k x).b +sz (chI k x).c <=sz x.a+sz x.b+sz x.c+1/\(chI k x).args =x.args/\(chI k x).ports =x.ports:=by
 unfold chI;split
 ·exact⟨by simp only; omega,rfl,rfl⟩
 split
 ·exact⟨by simp only; omega,rfl,rfl⟩
 split
 ·exact⟨by simp only[sz_not]; omega,rfl,rfl⟩
 ·exact⟨by simp only; omega,rfl,rfl⟩
theorem putI3_part(k:K3)(x:Item):zbo (zf2 k x)=zbo x:=by
 unfold zf2
 (repeat' split) <;> rfl
theorem putI3_kind(k:K3)(x:Item):(zf2 k x).kind =x.kind:=by
 unfold zf2
 (repeat' split) <;> rfl
theorem putI3_sz(k:K3)(x:Item):sz (zf2 k x).a +sz (zf2 k x).b +sz (zf2 k x).c <=sz x.a+sz x.b+sz x.c+1/\(zf2 k x).args =x.args/\(zf2 k x).ports =x.ports:=by
 unfold zf2;split
 ·exact⟨by simp only[sz_not]; omega,rfl,rfl⟩
 split
 ·exact⟨by simp only; omega,rfl,rfl⟩
 ·exact⟨by omega,rfl,rfl⟩
theorem fItem_sz(s:Str)(n:Nat):sz (fItem s n).a +sz (fItem s n).b +sz (fItem s n).c <=50:=by
 have h:=zik;unfold fItem;simp only[sz_leaf];show 1+sz zbS+sz zbS<=50;omega
/-- What an zfO module is. -/
structure Gm (n:Nat) (m:Module):Prop where
 fine:Fine n m
 part:(m.items.map zbo).Nodup
 pk: ∀x∈m.items,0<x.kind.1
theorem Gm.items{n:Nat}{m:Module}(h:Gm n m){l:List Item}(hl:l.length<=n+1)(hp:(l.map zbo).Nodup)(hx: ∀y∈l,0<y.kind.1/\sz y.a+sz y.b+sz y.c<=n+1/\y.args.length<=n+1/\y.ports.length<=n+1):Gm (n+1) {m with items:=l}:=
 ⟨⟨hl,Nat.le_succ_of_le h.fine.params,fun y hy=>(hx y hy).2.1,fun y hy=>(hx y hy).2.2.1,fun y hy=>(hx y hy).2.2.2⟩,hp,fun y hy=>(hx y hy).1⟩
theorem Gm.old{n:Nat}{m:Module}(h:Gm n m){y:Item}(hy:y∈m.items):0<y.kind.1/\sz y.a+sz y.b+sz y.c<=n+1/\y.args.length<=n+1/\y.ports.length<=n+1:=
 ⟨h.pk y hy,Nat.le_succ_of_le (h.fine.sizes y hy),Nat.le_succ_of_le (h.fine.args y hy),Nat.le_succ_of_le (h.fine.ports y hy)⟩
theorem Gm.up{n:Nat}{m:Module}(h:Gm n m):Gm (n+1) m:=⟨h.fine.mono (Nat.le_succ n),h.part,h.pk⟩
theorem regsL_lt{m:Module}{i:Nat}(h:i∈zoL m):i<m.items.length:=by
 unfold zoL at h;exact List.mem_range.1 (List.mem_filter.1 h).1
theorem zlI{m:Module}(k:K3)(h:(zoL m).length ≠0):zfK m k<m.items.length:=by
 unfold zfK;have hlt:k.c % (zoL m).length <(zoL m).length :=Nat.mod_lt _ (by omega);have:(zoL m).getD (k.c % (zoL m).length) 0=(zoL m)[k.c % (zoL m).length]:=by simp[List.getD,hlt]
 rw[this];exact regsL_lt (List.getElem_mem hlt)
theorem gm_reg{n:Nat}(hn:60<=n){m:Module}(h:Gm n m)(k:K3):Gm (n+1) (regM m k)/\(regM m k).name =m.name:=by
 unfold regM;split
 ·rename_i hc;refine⟨h.items ?_ ?_ ?_,rfl⟩
  ·rw[List.length_append]; have:=h.fine.items; simp only[List.length_cons,List.length_nil]; omega
  ·rw[List.map_append,List.nodup_append];refine⟨h.part,by simp,fun a ha b hb e=> ?_⟩;simp only[List.map_cons,List.map_nil,List.mem_singleton]at hb;subst hb; subst e;obtain⟨y,hy,e⟩:=List.mem_map.1 ha;have h2:=zxh hc.2 y hy;rw[decide_eq_false_iff_not]at h2;exact h2 e
  ·intro y hy;rcases List.mem_append.1 hy with hy | hy
   ·exact h.old hy
   ·simp only[List.mem_singleton]at hy;subst hy;exact⟨by show(0:Int)<4; decide,Nat.le_trans (fItem_sz _ _) (by omega),by show 0<=_; omega,by show 0<=_; omega⟩
 split
 ·refine⟨h.items ?_ ?_ ?_,rfl⟩
  ·have:=List.length_eraseIdx_le m.items (atQ m k).toNat; have:=h.fine.items; omega
  ·exact List.Nodup.sublist ((List.eraseIdx_sublist _ _).map _) h.part
  ·exact fun y hy=>h.old (List.mem_of_mem_eraseIdx hy)
 split
 ·exact⟨h.up,rfl⟩
 ·rename_i hr;have hlt:=zlI k hr;have hg:m.items.getD (zfK m k) zaV=m.items[zfK m k]:=by simp[List.getD,hlt]
  refine⟨h.items ?_ ?_ ?_,rfl⟩
  ·rw[List.length_set]; have:=h.fine.items; omega
  ·have e:(m.items.set (zfK m k) (chI k (m.items.getD (zfK m k) zaV))).map zbo=m.items.map zbo:=by
    rw[List.map_set,chI_part,hg,<-List.getElem_map zbo (h:=by simpa using hlt),List.set_getElem_self]
   rw[e]; exact h.part
  ·intro y hy;rcases List.mem_or_eq_of_mem_set hy with hy | rfl
   ·exact h.old hy
   ·rw[hg];have ho:=List.getElem_mem hlt;obtain⟨s1,s2,s3⟩:=chI_sz k m.items[zfK m k];have:=h.fine.sizes _ ho;refine⟨by rw[chI_kind]; exact h.pk _ ho,by omega,?_,?_⟩
    ·rw[s2]; exact Nat.le_succ_of_le (h.fine.args _ ho)
    ·rw[s3]; exact Nat.le_succ_of_le (h.fine.ports _ ho)
theorem gm_mod{n:Nat}(hn:60<=n){m:Module}(h:Gm n m)(k:K3):Gm (n+1) (zvk m k)/\(zvk m k).name =m.name:=by
 unfold zvk;split
 ·have hu:=h.up;exact⟨⟨⟨hu.fine.items,hu.fine.params,hu.fine.sizes,hu.fine.args,hu.fine.ports⟩,hu.part,hu.pk⟩,rfl⟩
 split
 ·refine⟨h.items ?_ ?_ ?_,rfl⟩
  ·rw[List.length_map]; exact Nat.le_succ_of_le h.fine.items
  ·have e:(m.items.map (zf2 k)).map zbo=m.items.map zbo:=by
    rw[List.map_map];exact List.map_congr_left fun y _=>putI3_part k y
   rw[e]; exact h.part
  ·intro y hy;obtain⟨z,hz,rfl⟩:=List.mem_map.1 hy;obtain⟨s1,s2,s3⟩:=putI3_sz k z;have:=h.fine.sizes _ hz;refine⟨by rw[putI3_kind]; exact h.pk _ hz,by omega,?_,?_⟩
   ·rw[s2]; exact Nat.le_succ_of_le (h.fine.args _ hz)
   ·rw[s3]; exact Nat.le_succ_of_le (h.fine.ports _ hz)
 ·exact gm_reg hn h k
theorem Gi.gm{n:Nat}{f:List Module}(h:Gi n f){m:Module}(hm:m∈f):Gm (60+n) m:=⟨h.fine m hm,h.part.parts m hm,h.pk.kinds m hm⟩
theorem Gi.of{n:Nat}{f:List Module}(hl:f.length<=2+n)(hn:(f.map Module.name).Nodup)(h: ∀m∈f,Gm (60+n) m):Gi n f:=
 ⟨hl,fun m hm=>(h m hm).fine,⟨hn,fun m hm=>(h m hm).part,fun m hm x hx e=>by have:=(h m hm).pk x hx; omega⟩,⟨fun m hm=>(h m hm).pk⟩⟩
theorem gi_step{n:Nat}{f:List Module}(h:Gi n f)(k:K3):Gi (n+1) (edS f k):=by
 have hl:=h.len;unfold edS;split
 ·rename_i hc;refine Gi.of ?_ ?_ ?_
  ·rw[List.length_append]; simp only[List.length_cons,List.length_nil]; omega
  ·rw[List.map_append,List.nodup_append];refine⟨h.part.names,by simp,fun a ha b hb e=> ?_⟩;simp only[List.map_cons,List.map_nil,List.mem_singleton]at hb;subst hb; subst e;obtain⟨y,hy,e⟩:=List.mem_map.1 ha;have h2:=zxh hc.2 y hy;rw[decide_eq_false_iff_not]at h2;exact h2 e
  ·intro m hm;rcases List.mem_append.1 hm with hm | hm
   ·exact(h.gm hm).up
   ·simp only[List.mem_singleton]at hm;subst hm;refine⟨⟨by show 1<=_; omega,by show 0<=_; omega,fun x hx=> ?_,fun x hx=> ?_,fun x hx=> ?_⟩,by simp[newM],fun x hx=> ?_⟩
    all_goals
     simp only[newM,List.mem_singleton]at hx;subst hx
    ·exact Nat.le_trans (fItem_sz _ _) (by omega)
    ·show 0<=_; omega
    ·show 0<=_; omega
    ·show(0:Int)<4; decide
 split
 ·refine Gi.of ?_ ?_ fun m hm=>(h.gm (List.mem_of_mem_eraseIdx hm)).up
  ·have:=List.length_eraseIdx_le f (atX f k).toNat; omega
  ·exact List.Nodup.sublist ((List.eraseIdx_sublist _ _).map _) h.part.names
 split
 ·exact Gi.of (by omega) h.part.names fun m hm=>(h.gm hm).up
 ·rename_i h0;have hlt:k.b % f.length<f.length:=Nat.mod_lt _ (by omega);have hg:f.getD (k.b % f.length) zdQ=f[k.b % f.length]:=by simp[List.getD,hlt]
  have hm0:=List.getElem_mem hlt;obtain⟨g1,g2⟩:=gm_mod (by omega) (h.gm hm0) k;rw[hg];refine Gi.of ?_ ?_ ?_
  ·rw[List.length_set]; omega
  ·rw[List.map_set,g2,<-List.getElem_map Module.name (h:=by simpa using hlt),List.set_getElem_self];exact h.part.names
  ·intro m hm;rcases List.mem_or_eq_of_mem_set hm with hm | rfl
   ·exact(h.gm hm).up
   ·exact g1
theorem Gi.mono{n k:Nat}(h:n<=k){f:List Module}(g:Gi n f):Gi k f:=⟨by have:=g.len; omega,fun m hm=>(g.fine m hm).mono (by omega),g.part,g.pk⟩
theorem gi_fold: ∀(l:List K3) (n:Nat) (f:List Module),Gi n f->Gi (n+l.length) (l.foldl edS f)
 | [],n,f,h=>h
 | k::l,n,f,h=>by
  have:=gi_fold l (n+1) _ (gi_step h k);rw[List.foldl_cons,List.length_cons,show n+(l.length+1)=n+1+l.length by omega];exact this
theorem gi_edited{n:Nat}{f:List Module}(h:Gi n f)(l:List K3):Gi (n+6) (zfO f l):=
 (gi_fold (l.take 6) n f h).mono (by rw[List.length_take]; omega)
theorem merged_fine{b x y:List Module}{n:Nat}(hb:Gi n b)(hx:Gi n x)(hy:Gi n y)(h:zeN b x y=[]): ∀m∈zcQ b x y,Fine (2*(60+n)) m:=by
 intro m hm;have hpar:m.params.length<=60+n:=by
  have hM:=zmT hb.fl hx.fl hy.fl h;have h1:=zmp hM.part (p:=zbL m.name) ⟨m,hm,.inl ⟨rfl,rfl⟩⟩;rw[(zhg hb.fl hx.fl hy.fl h).2.2]at h1;have key: ∀ {l:List Module},Gi n l->zbu l (zbL m.name)=some (hdM m)->m.params.length<=60+n:=by
   intro l hl he;obtain⟨z,hz,⟨_,e⟩ | ⟨j,hj,e1,_⟩⟩:=zfM he
   ·have:=(hl.fine z hz).params;have e2:=congrArg Module.params e;simp only[hdM]at e2;rw[e2]; exact this
   ·have:=congrArg Place.part e1;exact absurd this.symm (zl1 (hl.part.kinds z hz j hj))
  rcases zoB (b:=zbu b) (x:=zbu x) (y:=zbu y) (p:=zbL m.name)with e | e
  ·exact key hx (e.symm.trans h1)
  ·exact key hy (e.symm.trans h1)
 have hit: ∀i∈m.items,∃z,(∃l,Gi n l/\z∈l)/\i∈z.items:=by
  intro i hi;obtain⟨z,hz,_,hi'⟩:=ztG hb.fl hx.fl hy.fl h hm hi;rcases hz with hz | hz
  ·exact⟨z,⟨x,hx,hz⟩,hi'⟩
  ·exact⟨z,⟨y,hy,hz⟩,hi'⟩
 have hil:=merged_items hb.fl hx.fl hy.fl h (fun m hm=>(hx.fine m hm).items) (fun m hm=>(hy.fine m hm).items) hm;refine⟨hil,by omega,fun i hi=> ?_,fun i hi=> ?_,fun i hi=> ?_⟩
 all_goals
  obtain⟨z,⟨l,hl,hz⟩,hi'⟩:=hit i hi;have hf:=hl.fine z hz
 ·have:=hf.sizes i hi'; omega
 ·have:=hf.args i hi'; omega
 ·have:=hf.ports i hi'; omega
theorem zrn{b x y:List Module}{n:Nat}(hn:n<=100)(hb:Gi n b)(hx:Gi n x)(hy:Gi n y)(h:zeN b x y=[]):Small (zcQ b x y):=
 zfC (n:=2*(60+n)) (by omega) (by have:=merged_len hb.fl hx.fl hy.fl h; have:=hx.len; have:=hy.len; omega) (merged_fine hb hx hy h)
theorem not_c(e:Expr):FnP Tryz.prog 174 [.agg (zby e)] (.d (.agg (zby (notE e)))) []:=by
 refine FnP.of_eC (own:=[]) (fun _=>[]) zat Tryz.func174 rfl Tryz.call174 Tryz.ntmps174 (Nat.le_of_ble_eq_true rfl) Tryz.results174 (fun hok=> ?_);cases e with
 | mk o n k w a=>
  simp(maxSteps:=4000000) only[ZE,↓reduceIte,pE,pL,pA,pS,pM,pD,zN,qT,qG,qL,qH,qN,qB,qE,qO,qA,qM,notE,Expr.op,Expr.name,Expr.k,Expr.w,Expr.args,zbh,emp,Int.reduceEq,not_false_eq_true,List.map_cons,List.map_nil]
theorem further_c(s:Str)(n:Nat)(hn:n<=1000):FnP Tryz.prog 133 [eS s,eI n] (.d (.agg (zaK (fItem s n)))) []:=by
 refine FnP.of_eC (own:=[]) (fun _=>[]) zat Tryz.func133 rfl Tryz.call133 Tryz.ntmps133 (Nat.le_of_ble_eq_true rfl) Tryz.results133 (fun hok=> ?_);have hm:(n:Int).tmod 2=((n % 2:Nat):Int):=(Int.ofNat_tmod n 2).symm;have hw:IntKind.i64.wrap (1+((n % 2:Nat):Int))=((1+n % 2:Nat):Int):=by rw[zaQ (by omega) (by omega)]; omega
 simp(maxSteps:=4000000) only[ZE,↓reduceIte,pE,pL,pA,pS,pM,pD,zN,qT,qG,qL,qH,qN,qB,qE,qO,qA,qM,hm,hw,fItem,zaV,zbS,Expr.op,Expr.name,Expr.k,Expr.w,Expr.args,zbh,emp,Int.reduceEq,not_false_eq_true,List.map_nil]
def zrI(m:Module)(n:Nat):List Nat:=(List.range n).filter fun i=>decide ((m.items.getD i zaV).kind.1 =4)
theorem regsT_len(m:Module)(n:Nat):(zrI m n).length <=n:=by
 unfold zrI;have:=List.length_filter_le (fun i=>decide ((m.items.getD i zaV).kind.1 =4)) (List.range n);rwa [List.length_range]at this
def zcG(l:List Nat):List (List D):=l.map fun(i:Nat)=>[D.lit (.int .i64 (i:Int))]
theorem regs_c(m:Module)(hl:m.items.length<=1000000):FnP Tryz.prog 233 [.agg (zaC m)] (.d (.sl (zcG (zoL m)))) []:=by
 refine FnP.of_eC (own:=[]) (fun _=>[]) zat Tryz.func233 rfl Tryz.call233 Tryz.ntmps233 (Nat.le_of_ble_eq_true rfl) Tryz.results233 (fun hok=> ?_);simp(maxSteps:=4000000) only[ZE,↓reduceIte,pE,pL,pA,pS,pM,pD,zN,qT,qG,qL,qH,qN,qB,qE,qO,qA,qM];refine za2 (fun _=>[]) zat m.items.length (fun _=>True) (fun i=>([(1,.bp 1 0),(3,.ar 5 (zrI m i).length),(4,.d (eI i))],[(1,.box [.d (eS m.name),.d (eS m.clock),.d (zd7 m.params),.d (zbU m.items)]),(5,.arr 3 1 .flat (zcG (zrI m i)))])) trivial ?_ ?_ (fun i hi _=> ?_)
 ·simp(maxSteps:=4000000) only[ZE,↓reduceIte,pE,pL,pA,pS,pM,pD,zrI,List.range_zero,List.filter_nil]
 ·simp(maxSteps:=4000000) only[ZE,↓reduceIte,pE,pL,pA,pS,pM,pD,zrI,List.range_zero,List.filter_nil,zcG,List.map_nil]
 rcases Nat.lt_or_ge i m.items.length with h | h
 ·have hw:=zas (show i<9223372036854775807 by omega);obtain⟨x,hx⟩:=zX (m.items[i]);have hg:m.items.getD i zaV=x:=by simp[List.getD,h,hx]
  have hst:zrI m (i+1)=if x.kind.1=4 then zrI m i++[i]else zrI m i:=by
   unfold zrI;rw[List.range_succ,List.filter_append];by_cases hk:x.kind.1=4
   ·rw[if_pos hk,List.filter_cons_of_pos (by rw[hg]; exact decide_eq_true hk)]; rfl
   ·rw[if_neg hk,List.filter_cons_of_neg (by rw[hg,decide_eq_false hk]; simp)]; simp
  have hL:=regsT_len m i;obtain⟨L,hLe⟩:=zX (zrI m i);rw[hLe]at hst hL;rw[hst,hLe];by_cases hk:x.kind.1=4
  ·have hk':(x.kind.1==4)=true:=by rw[hk]; rfl
   rw[if_pos hk];have hn:zcG (L++[i])=zcG L++[[D.lit (.int .i64 (i:Int))]]:=by unfold zcG; rw[List.map_append]; rfl
   have hnl:(zcG L).length =L.length:=by unfold zcG; rw[List.length_map]
   rw[hn];simp(maxSteps:=4000000) only[ZE,↓reduceIte,pE,pL,pA,pS,pM,pD,zax h,zal h,zaa h,hx,zN,qT,qG,qL,qH,qN,qB,qE,qO,qA,qM,List.length_map,hk',hw,hnl,List.length_append];exact⟨⟨by omega,by omega⟩,h⟩
  ·have hk':(x.kind.1==4)=false:=beq_eq_false_iff_ne.2 hk;rw[if_neg hk];simp(maxSteps:=4000000) only[ZE,↓reduceIte,pE,pL,pA,pS,pM,pD,zax h,zal h,zaa h,hx,zN,qT,qG,qL,qH,qN,qB,qE,qO,qA,qM,List.length_map,hk',hw];exact h
 ·have:i=m.items.length:=by omega
  subst this;simp(maxSteps:=4000000) only[ZE,↓reduceIte,pE,pL,pA,pS,pM,pD,zaI h,zN,qT,qG,qL,qH,qN,qB,qE,qO,qA,qM,List.length_map,zoL,zrI,zcG]
set_option maxHeartbeats 40000000
theorem zwU(b x y:List Module)(p:Place):Row4 (zsr (zis (zbu b) (zbu x) (zbu y) p)):=by
 rcases zoB (b:=zbu b) (x:=zbu x) (y:=zbu y) (p:=p)with e | e
 ·rw[e]; exact zpN rfl
 ·rw[e]; exact zpN rfl
theorem confStep_len(b x y:zsa)(p:Place):(zeh b x y p).length <=2:=by
 unfold zeh;rw[List.length_append];have h1:(if zf9 b x y p=4 then [p]else []).length <=1:=by split <;> simp
 have h2:(if zox b x y p then [zbL p.module]else []).length <=1:=by split <;> simp
 omega
theorem zsC(b x y:zsa): ∀l:List Place,(l.flatMap (zeh b x y)).length <=2*l.length
 | []=>by simp
 | p::l=>by
  have h1:=confStep_len b x y p;have h2:=zsC b x y l;rw[List.flatMap_cons,List.length_append,List.length_cons];omega
theorem conflicts_c(b x y:List Module)(hb:Parted b)(hx:Parted x)(hy:Parted y)(hl:([b,x,y].flatMap zey).length <=1000000):FnP Tryz.prog 141 [eC3 b x y] (.d (.sl ((zeN b x y).map zaL))) []:=by
 refine FnP.of_eC (own:=[]) (fun i=>if i=1 then [.adT 3 100 166 3]else []) zat Tryz.func141 rfl Tryz.call141 Tryz.ntmps141 (Nat.le_of_ble_eq_true rfl) Tryz.results141 (fun hok=> ?_);have ac:=allp_c [b,x,y] (by omega) (by simp);have hA:(zo3 [b,x,y]).length <=1000000:=Nat.le_trans (zgH (by
  have:=Srt.nodup zl3 (zn3 [b,x,y]);rwa [List.map_id]at this) fun p hp=>(zgF zl3).1 hp) hl
 unfold zeN confP;obtain⟨A,hAe⟩:=zX (zo3 [b,x,y]);rw[hAe]at ac hA ⊢;obtain⟨B,hB⟩:=zX (zdn b);obtain⟨X,hX⟩:=zX (zdn x);obtain⟨Y,hY⟩:=zX (zdn y);have sc:=side_c b x y hb hx hy;have mc:=merged_c b x y hb hx hy;unfold eC3 at sc mc ⊢;rw[hB,hX,hY]at sc mc ⊢;simp only[List.map_cons,List.map_nil,hB,hX,hY]at ac;simp(maxSteps:=4000000) only[ZE,↓reduceIte,pE,pL,pA,pS,pM,pD,zN,qT,qG,qL,qH,qN,qB,qE,qO,qA,qM];refine EFn.p ?_;simp(maxSteps:=4000000) only[ZE,↓reduceIte,pE,pL,pA,pS,pM,pD];refine zar.i ac ?_;simp(maxSteps:=4000000) only[ZE,↓reduceIte,pE,pL,pA,pS,pM,pD,zN,qT,qG,qL,qH,qN,qB,qE,qO,qA,qM,List.length_map];refine za2 (fun _=>[]) zat A.length (fun _=>True) (fun i=>([(0,.d (.sl [[B],[X],[Y]])),(3,.ar 100 ((A.take i).flatMap (zeh (zbu b) (zbu x) (zbu y))).length),(12,.d (.sl (A.map zaL))),(13,.d (eI A.length)),(14,.d (eI i))],
  [(100,.arr 166 3 .flat (((A.take i).flatMap (zeh (zbu b) (zbu x) (zbu y))).map zaL))])) trivial ?_ ?_ (fun i hi _=> ?_)
 ·simp(maxSteps:=4000000) only[ZE,↓reduceIte,pE,pL,pA,pS,pM,pD,List.take_zero,List.flatMap_nil]
 ·simp(maxSteps:=4000000) only[ZE,↓reduceIte,pE,pL,pA,pS,pM,pD,List.take_zero,List.flatMap_nil,List.map_nil]
 rcases Nat.lt_or_ge i A.length with h | h
 ·have hw:=zas (show i<9223372036854775807 by omega);obtain⟨p,hp⟩:=zX (A[i]);have hst:(A.take (i+1)).flatMap (zeh (zbu b) (zbu x) (zbu y))=(A.take i).flatMap (zeh (zbu b) (zbu x) (zbu y))++zeh (zbu b) (zbu x) (zbu y) p:=by
   rw[List.take_succ_eq_append_getElem h,List.flatMap_append,hp]; simp
  have hLl:=zsC (zbu b) (zbu x) (zbu y) (A.take i);rw[List.length_take,Nat.min_eq_left hi]at hLl;obtain⟨L,hL⟩:=zX ((A.take i).flatMap (zeh (zbu b) (zbu x) (zbu y)));rw[hL]at hst hLl;rw[hst,hL];obtain⟨C,hC⟩:=zX (zeh (zbu b) (zbu x) (zbu y) p);rw[hC];have s1:=sc p;have s2:=sc (zbL p.module);have g1:=mc p;have g2:=mc (zbL p.module);obtain⟨a1,a2,a3,a4,e1,p1,p2,p3,p4⟩:=zwU b x y p;obtain⟨b1,b2,b3,b4,e2,q1,q2,q3,q4⟩:=zwU b x y (zbL p.module);rw[e1]at g1;rw[e2]at g2;obtain⟨n,hn⟩:=zX (zf9 (zbu b) (zbu x) (zbu y) p);obtain⟨k,hk⟩:=zX (zf9 (zbu b) (zbu x) (zbu y) (zbL p.module));obtain⟨u,hu⟩:=zX (zis (zbu b) (zbu x) (zbu y) p);obtain⟨v,hv⟩:=zX (zis (zbu b) (zbu x) (zbu y) (zbL p.module));rw[hn]at s1;rw[hk]at s2;rw[hu]at g1;rw[hv]at g2;have hlost:zox (zbu b) (zbu x) (zbu y) p↔(p≠zbL p.module/\v=none/\k≠4/\(u≠none\/n=4)):=by unfold zox; rw[hn,hk,hu,hv]
  unfold zeh at hC;rw[hn]at hC;have hne:=zkC p (zbL p.module);obtain⟨d,hd⟩:=zX (decide (p=zbL p.module));rw[hd]at hne;have hne2:(p.part.kind.val==0&&decide (p.part.name.val=ByteArray.empty))=d:=by
   have he:decide (p.part.name.val=ByteArray.empty)=decide (p.part.name=emp):=decide_eq_decide.2 ⟨fun e=>Subtype.ext e,fun e=>by rw[e]; rfl⟩;rw[he];have h1:=hne;simp only[zbL,decide_true,Bool.true_and]at h1;exact h1
  simp only[ZE,↓reduceIte,pE,pL,pA,pS,pM,pD,zaL,zbL,zdb,emp]at s1 s2 g1 g2 hne;have hq4: ∀q:Int,(q==4)=decide (q=4):=fun q=>by rw[Bool.eq_iff_iff,beq_iff_eq,decide_eq_true_eq]
  have hd0:d=true↔p=zbL p.module:=by rw[<-hd,decide_eq_true_eq]
  by_cases h4:n=4
  ·have n4:((n:Int)==4)=true:=by rw[h4]; rfl
   rw[if_pos h4]at hC;simp(maxSteps:=4000000) only[ZE,↓reduceIte,pE,pL,pA,pS,pM,pD,zax h,zal h,zaa h,hp,zaL,zN,qT,qG,qL,qH,qN,qB,qE,qO,qA,qM,List.length_map];refine EFn.p ?_;simp(maxSteps:=4000000) only[ZE,↓reduceIte,pE,pL,pA,pS,pM,pD];refine zar.i s1 ?_;simp(maxSteps:=4000000) only[ZE,↓reduceIte,pE,pL,pA,pS,pM,pD,zN,qT,qG,qL,qH,qN,qB,qE,qO,qA,qM,n4,List.length_map];refine⟨by omega,?_⟩;cases d with
   | true=>
    have hd':True=True:=rfl;have hv':True=True:=rfl;rw[if_neg (fun hh=>(hlost.1 hh).1 (hd0.1 rfl))]at hC;subst hC;refine EFn.p ?_;simp(maxSteps:=4000000) only[ZE,↓reduceIte,pE,pL,pA,pS,pM,pD];refine zar.i g2 ?_;simp(maxSteps:=4000000) only[ZE,↓reduceIte,pE,pL,pA,pS,pM,pD,zN,qT,qG,qL,qH,qN,qB,qE,qO,qA,qM];refine⟨⟨q1,q2,q3,q4⟩,?_⟩;refine EFn.p ?_;simp(maxSteps:=4000000) only[ZE,↓reduceIte,pE,pL,pA,pS,pM,pD];refine zar.i g1 ?_;simp(maxSteps:=4000000) only[ZE,↓reduceIte,pE,pL,pA,pS,pM,pD,zN,qT,qG,qL,qH,qN,qB,qE,qO,qA,qM,hne,hne2,hd',hv',hw,List.map_append,List.map_cons,List.map_nil,List.length_append,List.length_cons,List.length_nil,List.length_map,zaL,zbL,zdb,emp,List.append_assoc,List.cons_append,List.nil_append,List.append_nil,Nat.add_zero,Nat.zero_add];exact⟨⟨p1,p2,p3,p4⟩,h⟩
   | false=>
    have hd':True=True:=rfl;have hp0:p≠zbL p.module:=fun e=>by have:=hd0.2 e; cases this
    cases v with
    | some vv=>
     have hv':(some vv).isSome =true:=rfl;rw[if_neg (fun hh=>by have:=(hlost.1 hh).2.1; cases this)]at hC;subst hC;refine EFn.p ?_;simp(maxSteps:=4000000) only[ZE,↓reduceIte,pE,pL,pA,pS,pM,pD];refine zar.i g2 ?_;simp(maxSteps:=4000000) only[ZE,↓reduceIte,pE,pL,pA,pS,pM,pD,zN,qT,qG,qL,qH,qN,qB,qE,qO,qA,qM];refine⟨⟨q1,q2,q3,q4⟩,?_⟩;refine EFn.p ?_;simp(maxSteps:=4000000) only[ZE,↓reduceIte,pE,pL,pA,pS,pM,pD];refine zar.i g1 ?_;simp(maxSteps:=4000000) only[ZE,↓reduceIte,pE,pL,pA,pS,pM,pD,zN,qT,qG,qL,qH,qN,qB,qE,qO,qA,qM,hne,hne2,hd',hv',hw,List.map_append,List.map_cons,List.map_nil,List.length_append,List.length_cons,List.length_nil,List.length_map,zaL,zbL,zdb,emp,List.append_assoc,List.cons_append,List.nil_append,List.append_nil,Nat.add_zero,Nat.zero_add];exact⟨⟨p1,p2,p3,p4⟩,h⟩
    | none=>
     have hv':(none:Option Module).isSome =false:=rfl;by_cases hk4:k=4
     ·have k4:((k:Int)==4)=true:=(by rw[hk4]; rfl);have kb:((k:Int) !=4)=false:=(by rw[bne,k4]; rfl);rw[if_neg (fun hh=>(hlost.1 hh).2.2.1 hk4)]at hC;subst hC;refine EFn.p ?_;simp(maxSteps:=4000000) only[ZE,↓reduceIte,pE,pL,pA,pS,pM,pD];refine zar.i g2 ?_;simp(maxSteps:=4000000) only[ZE,↓reduceIte,pE,pL,pA,pS,pM,pD,zN,qT,qG,qL,qH,qN,qB,qE,qO,qA,qM];refine⟨⟨q1,q2,q3,q4⟩,?_⟩;refine EFn.p ?_;simp(maxSteps:=4000000) only[ZE,↓reduceIte,pE,pL,pA,pS,pM,pD];refine zar.i g1 ?_;simp(maxSteps:=4000000) only[ZE,↓reduceIte,pE,pL,pA,pS,pM,pD,zN,qT,qG,qL,qH,qN,qB,qE,qO,qA,qM,hne,hne2,hd',hv',hw,List.map_append,List.map_cons,List.map_nil,List.length_append,List.length_cons,List.length_nil,List.length_map,zaL,zbL,zdb,emp,List.append_assoc,List.cons_append,List.nil_append,List.append_nil,Nat.add_zero,Nat.zero_add];refine⟨⟨p1,p2,p3,p4⟩,?_⟩;refine EFn.p ?_;simp(maxSteps:=4000000) only[ZE,↓reduceIte,pE,pL,pA,pS,pM,pD];refine zar.i s2 ?_;simp(maxSteps:=4000000) only[ZE,↓reduceIte,pE,pL,pA,pS,pM,pD,zN,qT,qG,qL,qH,qN,qB,qE,qO,qA,qM,k4,kb,hw,List.map_append,List.map_cons,List.map_nil,List.length_append,List.length_cons,List.length_nil,List.length_map,zaL,zbL,zdb,emp,List.append_assoc,List.cons_append,List.nil_append,List.append_nil,Nat.add_zero,Nat.zero_add];exact h
     ·have k4:((k:Int)==4)=false:=(by rw[beq_eq_false_iff_ne]; omega);have kb:((k:Int) !=4)=true:=(by rw[bne,k4]; rfl);rw[if_pos (hlost.2 ⟨hp0,rfl,hk4,.inr h4⟩)]at hC;subst hC;refine EFn.p ?_;simp(maxSteps:=4000000) only[ZE,↓reduceIte,pE,pL,pA,pS,pM,pD];refine zar.i g2 ?_;simp(maxSteps:=4000000) only[ZE,↓reduceIte,pE,pL,pA,pS,pM,pD,zN,qT,qG,qL,qH,qN,qB,qE,qO,qA,qM];refine⟨⟨q1,q2,q3,q4⟩,?_⟩;refine EFn.p ?_;simp(maxSteps:=4000000) only[ZE,↓reduceIte,pE,pL,pA,pS,pM,pD];refine zar.i g1 ?_;simp(maxSteps:=4000000) only[ZE,↓reduceIte,pE,pL,pA,pS,pM,pD,zN,qT,qG,qL,qH,qN,qB,qE,qO,qA,qM,hne,hne2,hd',hv',hw,List.map_append,List.map_cons,List.map_nil,List.length_append,List.length_cons,List.length_nil,List.length_map,zaL,zbL,zdb,emp,List.append_assoc,List.cons_append,List.nil_append,List.append_nil,Nat.add_zero,Nat.zero_add];refine⟨⟨p1,p2,p3,p4⟩,?_⟩;cases u with
      | some uu=>
       have hu':(some uu).isSome =true:=rfl;refine EFn.p ?_;simp(maxSteps:=4000000) only[ZE,↓reduceIte,pE,pL,pA,pS,pM,pD];refine zar.i s2 ?_;simp(maxSteps:=4000000) only[ZE,↓reduceIte,pE,pL,pA,pS,pM,pD,zN,qT,qG,qL,qH,qN,qB,qE,qO,qA,qM,k4,kb,hu',hw,List.map_append,List.map_cons,List.map_nil,List.length_append,List.length_cons,List.length_nil,List.length_map,zaL,zbL,zdb,emp,List.append_assoc,List.cons_append,List.nil_append,List.append_nil,Nat.add_zero,Nat.zero_add];exact⟨by omega,h⟩
      | none=>
       have hu':(none:Option Module).isSome =false:=rfl;refine EFn.p ?_;simp(maxSteps:=4000000) only[ZE,↓reduceIte,pE,pL,pA,pS,pM,pD];refine zar.i s2 ?_;simp(maxSteps:=4000000) only[ZE,↓reduceIte,pE,pL,pA,pS,pM,pD,zN,qT,qG,qL,qH,qN,qB,qE,qO,qA,qM,k4,kb,hu',hw,List.map_append,List.map_cons,List.map_nil,List.length_append,List.length_cons,List.length_nil,List.length_map,zaL,zbL,zdb,emp,List.append_assoc,List.cons_append,List.nil_append,List.append_nil,Nat.add_zero,Nat.zero_add];refine EFn.p ?_;simp(maxSteps:=4000000) only[ZE,↓reduceIte,pE,pL,pA,pS,pM,pD];refine zar.i s1 ?_;simp(maxSteps:=4000000) only[ZE,↓reduceIte,pE,pL,pA,pS,pM,pD,zN,qT,qG,qL,qH,qN,qB,qE,qO,qA,qM,k4,kb,hu',n4,hw,List.map_append,List.map_cons,List.map_nil,List.length_append,List.length_cons,List.length_nil,List.length_map,zaL,zbL,zdb,emp,List.append_assoc,List.cons_append,List.nil_append,List.append_nil,Nat.add_zero,Nat.zero_add];exact⟨by omega,h⟩
  ·have n4:((n:Int)==4)=false:=by rw[beq_eq_false_iff_ne]; omega
   rw[if_neg h4]at hC;simp(maxSteps:=4000000) only[ZE,↓reduceIte,pE,pL,pA,pS,pM,pD,zax h,zal h,zaa h,hp,zaL,zN,qT,qG,qL,qH,qN,qB,qE,qO,qA,qM,List.length_map];refine EFn.p ?_;simp(maxSteps:=4000000) only[ZE,↓reduceIte,pE,pL,pA,pS,pM,pD];refine zar.i s1 ?_;simp(maxSteps:=4000000) only[ZE,↓reduceIte,pE,pL,pA,pS,pM,pD,zN,qT,qG,qL,qH,qN,qB,qE,qO,qA,qM,n4,List.length_map];cases d with
   | true=>
    have hd':True=True:=rfl;have hv':True=True:=rfl;rw[if_neg (fun hh=>(hlost.1 hh).1 (hd0.1 rfl))]at hC;subst hC;refine EFn.p ?_;simp(maxSteps:=4000000) only[ZE,↓reduceIte,pE,pL,pA,pS,pM,pD];refine zar.i g2 ?_;simp(maxSteps:=4000000) only[ZE,↓reduceIte,pE,pL,pA,pS,pM,pD,zN,qT,qG,qL,qH,qN,qB,qE,qO,qA,qM];refine⟨⟨q1,q2,q3,q4⟩,?_⟩;refine EFn.p ?_;simp(maxSteps:=4000000) only[ZE,↓reduceIte,pE,pL,pA,pS,pM,pD];refine zar.i g1 ?_;simp(maxSteps:=4000000) only[ZE,↓reduceIte,pE,pL,pA,pS,pM,pD,zN,qT,qG,qL,qH,qN,qB,qE,qO,qA,qM,hne,hne2,hd',hv',hw,List.map_append,List.map_cons,List.map_nil,List.length_append,List.length_cons,List.length_nil,List.length_map,zaL,zbL,zdb,emp,List.append_assoc,List.cons_append,List.nil_append,List.append_nil,Nat.add_zero,Nat.zero_add];exact⟨⟨p1,p2,p3,p4⟩,h⟩
   | false=>
    have hd':True=True:=rfl;have hp0:p≠zbL p.module:=fun e=>by have:=hd0.2 e; cases this
    cases v with
    | some vv=>
     have hv':(some vv).isSome =true:=rfl;rw[if_neg (fun hh=>by have:=(hlost.1 hh).2.1; cases this)]at hC;subst hC;refine EFn.p ?_;simp(maxSteps:=4000000) only[ZE,↓reduceIte,pE,pL,pA,pS,pM,pD];refine zar.i g2 ?_;simp(maxSteps:=4000000) only[ZE,↓reduceIte,pE,pL,pA,pS,pM,pD,zN,qT,qG,qL,qH,qN,qB,qE,qO,qA,qM];refine⟨⟨q1,q2,q3,q4⟩,?_⟩;refine EFn.p ?_;simp(maxSteps:=4000000) only[ZE,↓reduceIte,pE,pL,pA,pS,pM,pD];refine zar.i g1 ?_;simp(maxSteps:=4000000) only[ZE,↓reduceIte,pE,pL,pA,pS,pM,pD,zN,qT,qG,qL,qH,qN,qB,qE,qO,qA,qM,hne,hne2,hd',hv',hw,List.map_append,List.map_cons,List.map_nil,List.length_append,List.length_cons,List.length_nil,List.length_map,zaL,zbL,zdb,emp,List.append_assoc,List.cons_append,List.nil_append,List.append_nil,Nat.add_zero,Nat.zero_add];exact⟨⟨p1,p2,p3,p4⟩,h⟩
    | none=>
     have hv':(none:Option Module).isSome =false:=rfl;by_cases hk4:k=4
     ·have k4:((k:Int)==4)=true:=(by rw[hk4]; rfl);have kb:((k:Int) !=4)=false:=(by rw[bne,k4]; rfl);rw[if_neg (fun hh=>(hlost.1 hh).2.2.1 hk4)]at hC;subst hC;refine EFn.p ?_;simp(maxSteps:=4000000) only[ZE,↓reduceIte,pE,pL,pA,pS,pM,pD];refine zar.i g2 ?_;simp(maxSteps:=4000000) only[ZE,↓reduceIte,pE,pL,pA,pS,pM,pD,zN,qT,qG,qL,qH,qN,qB,qE,qO,qA,qM];refine⟨⟨q1,q2,q3,q4⟩,?_⟩;refine EFn.p ?_;simp(maxSteps:=4000000) only[ZE,↓reduceIte,pE,pL,pA,pS,pM,pD];refine zar.i g1 ?_;simp(maxSteps:=4000000) only[ZE,↓reduceIte,pE,pL,pA,pS,pM,pD,zN,qT,qG,qL,qH,qN,qB,qE,qO,qA,qM,hne,hne2,hd',hv',hw,List.map_append,List.map_cons,List.map_nil,List.length_append,List.length_cons,List.length_nil,List.length_map,zaL,zbL,zdb,emp,List.append_assoc,List.cons_append,List.nil_append,List.append_nil,Nat.add_zero,Nat.zero_add];refine⟨⟨p1,p2,p3,p4⟩,?_⟩;refine EFn.p ?_;simp(maxSteps:=4000000) only[ZE,↓reduceIte,pE,pL,pA,pS,pM,pD];refine zar.i s2 ?_;simp(maxSteps:=4000000) only[ZE,↓reduceIte,pE,pL,pA,pS,pM,pD,zN,qT,qG,qL,qH,qN,qB,qE,qO,qA,qM,k4,kb,hw,List.map_append,List.map_cons,List.map_nil,List.length_append,List.length_cons,List.length_nil,List.length_map,zaL,zbL,zdb,emp,List.append_assoc,List.cons_append,List.nil_append,List.append_nil,Nat.add_zero,Nat.zero_add];exact h
     ·have k4:((k:Int)==4)=false:=(by rw[beq_eq_false_iff_ne]; omega);have kb:((k:Int) !=4)=true:=(by rw[bne,k4]; rfl);cases u with
      | some uu=>
       have hu':(some uu).isSome =true:=rfl;rw[if_pos (hlost.2 ⟨hp0,rfl,hk4,.inl (by simp)⟩)]at hC;subst hC;refine EFn.p ?_;simp(maxSteps:=4000000) only[ZE,↓reduceIte,pE,pL,pA,pS,pM,pD];refine zar.i g2 ?_;simp(maxSteps:=4000000) only[ZE,↓reduceIte,pE,pL,pA,pS,pM,pD,zN,qT,qG,qL,qH,qN,qB,qE,qO,qA,qM];refine⟨⟨q1,q2,q3,q4⟩,?_⟩;refine EFn.p ?_;simp(maxSteps:=4000000) only[ZE,↓reduceIte,pE,pL,pA,pS,pM,pD];refine zar.i g1 ?_;simp(maxSteps:=4000000) only[ZE,↓reduceIte,pE,pL,pA,pS,pM,pD,zN,qT,qG,qL,qH,qN,qB,qE,qO,qA,qM,hne,hne2,hd',hv',hw,List.map_append,List.map_cons,List.map_nil,List.length_append,List.length_cons,List.length_nil,List.length_map,zaL,zbL,zdb,emp,List.append_assoc,List.cons_append,List.nil_append,List.append_nil,Nat.add_zero,Nat.zero_add];refine⟨⟨p1,p2,p3,p4⟩,?_⟩;refine EFn.p ?_;simp(maxSteps:=4000000) only[ZE,↓reduceIte,pE,pL,pA,pS,pM,pD];refine zar.i s2 ?_;simp(maxSteps:=4000000) only[ZE,↓reduceIte,pE,pL,pA,pS,pM,pD,zN,qT,qG,qL,qH,qN,qB,qE,qO,qA,qM,k4,kb,hu',hw,List.map_append,List.map_cons,List.map_nil,List.length_append,List.length_cons,List.length_nil,List.length_map,zaL,zbL,zdb,emp,List.append_assoc,List.cons_append,List.nil_append,List.append_nil,Nat.add_zero,Nat.zero_add];exact⟨by omega,h⟩
      | none=>
       have hu':(none:Option Module).isSome =false:=rfl;rw[if_neg (fun hh=>by rcases(hlost.1 hh).2.2.2 with hh | hh; exact hh rfl; exact h4 hh)]at hC;subst hC;refine EFn.p ?_;simp(maxSteps:=4000000) only[ZE,↓reduceIte,pE,pL,pA,pS,pM,pD];refine zar.i g2 ?_;simp(maxSteps:=4000000) only[ZE,↓reduceIte,pE,pL,pA,pS,pM,pD,zN,qT,qG,qL,qH,qN,qB,qE,qO,qA,qM];refine⟨⟨q1,q2,q3,q4⟩,?_⟩;refine EFn.p ?_;simp(maxSteps:=4000000) only[ZE,↓reduceIte,pE,pL,pA,pS,pM,pD];refine zar.i g1 ?_;simp(maxSteps:=4000000) only[ZE,↓reduceIte,pE,pL,pA,pS,pM,pD,zN,qT,qG,qL,qH,qN,qB,qE,qO,qA,qM,hne,hne2,hd',hv',hw,List.map_append,List.map_cons,List.map_nil,List.length_append,List.length_cons,List.length_nil,List.length_map,zaL,zbL,zdb,emp,List.append_assoc,List.cons_append,List.nil_append,List.append_nil,Nat.add_zero,Nat.zero_add];refine⟨⟨p1,p2,p3,p4⟩,?_⟩;refine EFn.p ?_;simp(maxSteps:=4000000) only[ZE,↓reduceIte,pE,pL,pA,pS,pM,pD];refine zar.i s2 ?_;simp(maxSteps:=4000000) only[ZE,↓reduceIte,pE,pL,pA,pS,pM,pD,zN,qT,qG,qL,qH,qN,qB,qE,qO,qA,qM,k4,kb,hu',hw,List.map_append,List.map_cons,List.map_nil,List.length_append,List.length_cons,List.length_nil,List.length_map,zaL,zbL,zdb,emp,List.append_assoc,List.cons_append,List.nil_append,List.append_nil,Nat.add_zero,Nat.zero_add];refine EFn.p ?_;simp(maxSteps:=4000000) only[ZE,↓reduceIte,pE,pL,pA,pS,pM,pD];refine zar.i s1 ?_;simp(maxSteps:=4000000) only[ZE,↓reduceIte,pE,pL,pA,pS,pM,pD,zN,qT,qG,qL,qH,qN,qB,qE,qO,qA,qM,k4,kb,hu',n4,hw,List.map_append,List.map_cons,List.map_nil,List.length_append,List.length_cons,List.length_nil,List.length_map,zaL,zbL,zdb,emp,List.append_assoc,List.cons_append,List.nil_append,List.append_nil,Nat.add_zero,Nat.zero_add];exact h
 ·have:i=A.length:=by omega
  subst this;rw[List.take_length];have hLl:=zsC (zbu b) (zbu x) (zbu y) A;obtain⟨L,hL⟩:=zX (A.flatMap (zeh (zbu b) (zbu x) (zbu y)));rw[hL]at hLl ⊢;simp(maxSteps:=4000000) only[ZE,↓reduceIte,pE,pL,pA,pS,pM,pD,zaI h,zN,qT,qG,qL,qH,qN,qB,qE,qO,qA,qM,List.length_map];refine EFn.gV [(0,100)] (sortQ_c L (by omega)) ?_ ?_
  ·simp(maxSteps:=4000000) only[ZE,↓reduceIte,pE,pL,pA,pS,pM,pD]
  rintro V ol new ⟨rfl,⟨l',h1,h2,rfl⟩,rfl⟩;have hll:=h1.length_eq;rw[hll];simp(maxSteps:=4000000) only[ZE,↓reduceIte,pE,pL,pA,pS,pM,pD];refine EFn.gV [(0,100)] (compactQ_c l' (by omega)) ?_ ?_
  ·simp(maxSteps:=4000000) only[ZE,↓reduceIte,pE,pL,pA,pS,pM,pD]
  rintro V ol new ⟨rfl,rfl,rfl⟩;have hdd:dd l'=setS ltQ L:=by
   rw[dd_set h2];exact zx2 zl3 (zjU zl3 _) (zjU zl3 _) fun k=>by rw[zgF zl3,zgF zl3]; exact h1.mem_iff.symm
  rw[hdd];simp(maxSteps:=4000000) only[ZE,↓reduceIte,pE,pL,pA,pS,pM,pD]
theorem not_op(e:Expr):(notE e).op =2:=rfl
theorem not_name(e:Expr):(notE e).name =emp:=rfl
theorem not_k(e:Expr):(notE e).k =zbh:=rfl
theorem not_w(e:Expr):(notE e).w =zbh:=rfl
theorem not_args(e:Expr):(notE e).args =[e]:=rfl
theorem nameQ_eq: ∀r:Nat,r<4->(⟨#[113]⟩:ByteArray)++(⟨#[100,101,102,103]⟩:ByteArray).extract r (r+1)=(nameQ r).1
 | 0,_ | 1,_ | 2,_ | 3,_=>by decide+kernel
 | n+4,h=>by omega
theorem nameX_eq: ∀r:Nat,r<4->(⟨#[120]⟩:ByteArray)++(⟨#[100,101,102,103]⟩:ByteArray).extract r (r+1)=(nameX r).1
 | 0,_ | 1,_ | 2,_ | 3,_=>by decide+kernel
 | n+4,h=>by omega
theorem ext_size(r:Nat)(h:r<4):((⟨#[100,101,102,103]⟩:ByteArray).extract r (r+1)).size =1:=by
 match r,h with
 | 0,_ | 1,_ | 2,_ | 3,_=>decide+kernel
 | n+4,h=>omega
theorem rowsItem(l:List Item):zcY 35 (l.map zaK):=fun y hy=>by
 obtain⟨p,_,rfl⟩:=List.mem_map.1 hy;exact⟨by simp[zaK,zgY,zca,zim],eItem_1 p⟩
theorem regM_c(m:Module)(k:K3)(hk:k.ok)(hl:m.items.length<=1000000):FnP Tryz.prog 175 [.agg (zaC m),.agg [eU8 k.a,eU8 k.b,eU8 k.c]] (.d (.agg (zaC (regM m k)))) []:=by
 refine FnP.of_eC (own:=[]) (fun i=>if i=2009 then [.flt ⟨[(0,none),(1,none),(2,none),(3,none),(4,none),(5,none),(6,none),(7,some []),(8,none),(9,some [])]⟩ ⟨[],[]⟩]else if i=1007 then [.frz 12]else if i=1010 then [.frz 64]else if i=1023 then [.frz 12]else []) zat Tryz.func175 rfl Tryz.call175 Tryz.ntmps175 (Nat.le_of_ble_eq_true rfl) Tryz.results175 (fun hok=> ?_);obtain⟨ka,kb,kc⟩:=hk;have rc:=regs_c m hl;have ic:=rindex_c m (qPart k);have fc:=further_c (nameQ (k.c % 4)) k.a (by omega);have hm4:(k.c:Int).tmod 4=((k.c % 4:Nat):Int):=(Int.ofNat_tmod k.c 4).symm;have hm6:(k.b:Int).tmod 6=((k.b % 6:Nat):Int):=(Int.ofNat_tmod k.b 6).symm;have hr4:k.c % 4<4:=Nat.mod_lt _ (by decide);have hq6:k.b % 6<6:=Nat.mod_lt _ (by decide);have hw8:IntKind.u8.wrap (((k.c % 4:Nat):Int)+1)=((k.c % 4+1:Nat):Int):=by
  unfold IntKind.wrap; simp[IntKind.bits,IntKind.signed]; omega
 have hnq:=nameQ_eq (k.c % 4) hr4;have hes:=ext_size (k.c % 4) hr4;have ri:=rowsItem m.items;have hw:IntKind.i64.wrap (k.a:Int)=(k.a:Int):=zaQ (by omega) (by omega);have hzz:zhd (fun x=>decide (zbo x=qPart k)) m.items=atQ m k:=rfl;rw[hzz]at ic;have hzl:atQ m k<(m.items.length:Int):=zxg _ _;obtain⟨z,hz⟩:=zX (atQ m k);rw[hz]at ic hzl;unfold regM;rw[hz];obtain⟨q,hq⟩:=zX (k.b % 6);rw[hq]at hm6 hq6;rw[hq];obtain⟨G,hG⟩:=zX (zoL m);rw[hG]at rc ⊢;simp(maxSteps:=4000000) only[ZE,↓reduceIte,pE,pL,pA,pS,pM,pD,qPart,zgm]at ic;simp(maxSteps:=4000000) only[ZE,↓reduceIte,pE,pL,pA,pS,pM,pD]at rc fc;simp(maxSteps:=4000000) only[ZE,↓reduceIte,pE,pL,pA,pS,pM,pD,zN,qT,qG,qL,qH,qN,qB,qE,qO,qA,qM,hm4,hw8,hnq,hes,hm6,hw,Int.toNat_natCast,List.map_nil];refine EFn.p ?_;simp(maxSteps:=4000000) only[ZE,↓reduceIte,pE,pL,pA,pS,pM,pD];refine zar.i rc ?_;simp(maxSteps:=4000000) only[ZE,↓reduceIte,pE,pL,pA,pS,pM,pD,zN,qT,qG,qL,qH,qN,qB,qE,qO,qA,qM,hm4,hw8,hnq,hes,hm6,hw,Int.toNat_natCast,List.map_nil];have e4:(⟨#[100,101,102,103]⟩:ByteArray).size =4:=rfl;refine⟨⟨ri,by omega,by omega⟩,by decide,by decide,⟨by omega,by omega,by rw[e4]; omega⟩,by decide,?_⟩;refine EFn.p ?_;simp(maxSteps:=4000000) only[ZE,↓reduceIte,pE,pL,pA,pS,pM,pD];refine zar.i ic ?_;have hGl:(zcG G).length =G.length:=by unfold zcG; rw[List.length_map]
 have hwc:IntKind.i64.wrap (k.c:Int)=(k.c:Int):=zaQ (by omega) (by omega);have h0i:q=0->((q:Int)==0)=true:=fun h=>by rw[h]; rfl
 have h0n:q≠0->((q:Int)==0)=false:=fun h=>beq_eq_false_iff_ne.2 (by omega);have h1i:q=1->((q:Int)==1)=true:=fun h=>by rw[h]; rfl
 have h1n:q≠1->((q:Int)==1)=false:=fun h=>beq_eq_false_iff_ne.2 (by omega);by_cases q0:q=0
 ·have e0:=h0i q0;by_cases zl:z<0
  ·have zb:decide (z<0)=true:=decide_eq_true zl;rw[if_pos ⟨q0,zl⟩];simp(maxSteps:=200000) only[ZE,↓reduceIte,pE,pL,pA,pS,pM,pD,zN,qT,qG,qL,qH,qN,qB,qE,qO,qA,qM,hm4,hw8,hnq,hes,hm6,hw,Int.toNat_natCast,List.map_nil,e0,zb];refine⟨by decide,?_⟩;refine EFn.p ?_;simp(maxSteps:=4000000) only[ZE,↓reduceIte,pE,pL,pA,pS,pM,pD];refine zar.i fc ?_;simp(maxSteps:=200000) only[ZE,↓reduceIte,pE,pL,pA,pS,pM,pD,zN,qT,qG,qL,qH,qN,qB,qE,qO,qA,qM,hm4,hw8,hnq,hes,hm6,hw,Int.toNat_natCast,List.map_nil,List.length_map,List.length_append,List.length_cons,List.length_nil,List.map_append,List.map_cons,Nat.add_zero,Nat.zero_add];exact⟨by omega,by omega⟩
  ·have zb:decide (z<0)=false:=decide_eq_false zl;have e1:((q:Int)==1)=false:=h1n (by omega);have n1: ¬(q=1/\0<=z):=fun h=>by omega
   rw[if_neg (fun h=>zl h.2),if_neg n1];by_cases g0:G.length=0
   ·have gl:((G.length:Int)==0)=true:=(by rw[g0]; rfl);rw[if_pos g0];simp(maxSteps:=200000) only[ZE,↓reduceIte,pE,pL,pA,pS,pM,pD,zN,qT,qG,qL,qH,qN,qB,qE,qO,qA,qM,hm4,hw8,hnq,hes,hm6,hw,Int.toNat_natCast,List.map_nil,e0,e1,hGl,gl,zb];exact(by decide)
   ·have gl:((G.length:Int)==0)=false:=beq_eq_false_iff_ne.2 (by omega);rw[if_neg g0];have hml:(k.c:Int).tmod (G.length:Int)=((k.c % G.length:Nat):Int):=(Int.ofNat_tmod k.c G.length).symm;have hlt:k.c % G.length<G.length:=Nat.mod_lt _ (by omega);have hr:zfK m k=G[k.c % G.length]:=(by unfold zfK; rw[hG]; simp[List.getD,hlt]);have hrl:zfK m k<m.items.length:=zlI k (by rw[hG]; exact g0);obtain⟨r,hrr⟩:=zX (zfK m k);rw[hrr]at hr hrl ⊢;obtain⟨w,hw'⟩:=zX (k.c % G.length);rw[hw']at hml hlt;have hr2:G[w]=r:=(by rw[hr]; congr 1; exact hw'.symm);obtain⟨x,hx⟩:=zX (m.items[r]);have hgx:m.items.getD r zaV=x:=(by simp[List.getD,hrl,hx]);rw[hgx];have gz: ¬((G.length:Int)=0):=(by omega);have hm2:(k.a:Int).tmod 2=((k.a % 2:Nat):Int):=(Int.ofNat_tmod k.a 2).symm;have hw2:IntKind.i64.wrap ((k.a % 2:Nat):Int)=((k.a % 2:Nat):Int):=zaQ (by omega) (by omega);have hS:(List.map zaK m.items).set r (zaK (chI k x))=List.map zaK (m.items.set r (chI k x)):=(by rw[List.map_set]);have hRl:(m.items.set r (chI k x)).length =m.items.length:=List.length_set;obtain⟨R,hR⟩:=zX (m.items.set r (chI k x));rw[hR]at hS hRl ⊢;have e2:((q:Int)==2)=false:=beq_eq_false_iff_ne.2 (by omega);have e3:((q:Int)==3)=false:=beq_eq_false_iff_ne.2 (by omega);have e4:((q:Int)==4)=false:=beq_eq_false_iff_ne.2 (by omega);have hci:chI k x={x with rule:=⟨((k.a % 2:Nat):Int),emp,0⟩}:=(by unfold chI; rw[hq,if_neg (by omega),if_neg (by omega),if_neg (by omega)]);rw[hci]at hS;simp(maxSteps:=4000000) only[ZE,↓reduceIte,pE,pL,pA,pS,pM,pD,emp]at hS;simp(maxSteps:=200000) only[ZE,↓reduceIte,pE,pL,pA,pS,pM,pD,zN,qT,qG,qL,qH,qN,qB,qE,qO,qA,qM,hm4,hw8,hnq,hes,hm6,hw,Int.toNat_natCast,List.map_nil,e0,e1,hGl,gl,zb,hwc,hml,zcG,zal hlt,zaa hlt,hr2,e2,e3,e4,hm2,hw2,zal hrl,zaa hrl,hx,List.length_map,hS,hRl];exact⟨by decide,by decide,gz,by decide,by decide,hrl⟩
 ·have e0:=h0n q0;by_cases q1:q=1/\0<=z
  ·have e1:=h1i q1.1;have zb:decide (z>=0)=true:=decide_eq_true q1.2;have zb':decide (0<=z)=true:=decide_eq_true q1.2;rw[if_neg (fun h=>q0 h.1),if_pos q1];obtain⟨j,rfl⟩: ∃j:Nat,z=(j:Int):=⟨z.toNat,by omega⟩;have hj:j<m.items.length:=by omega
   have hw1:=zas (show j<9223372036854775807 by omega);have hE:List.take j (List.map zaK m.items)++List.drop (j+1) (List.map zaK m.items)=(m.items.eraseIdx j).map zaK:=by
    rw[List.eraseIdx_eq_take_drop_succ,List.map_append,List.map_take,List.map_drop]
   have hEl:(m.items.eraseIdx j).length =j+(m.items.length-(j+1)):=by rw[List.length_eraseIdx_of_lt hj]; omega
   simp(maxSteps:=200000) only[ZE,↓reduceIte,pE,pL,pA,pS,pM,pD,zN,qT,qG,qL,qH,qN,qB,qE,qO,qA,qM,hm4,hw8,hnq,hes,hm6,hw,Int.toNat_natCast,List.map_nil,e0,zb,zb',e1,hw1,hE,List.length_map,hEl];exact⟨by decide,by decide,by kernel_rfl,⟨by omega,by omega,by omega⟩,⟨by omega,by omega,by omega,by omega⟩,⟨by omega,by omega⟩,fun y hy=>ri y (List.mem_of_mem_drop hy)⟩
  ·rw[if_neg (fun h=>q0 h.1),if_neg q1];by_cases q1':q=1
   ·have e1:=h1i q1';have zb:decide (z>=0)=false:=decide_eq_false (by omega);have zb':decide (0<=z)=false:=decide_eq_false (by omega);by_cases g0:G.length=0
    ·have gl:((G.length:Int)==0)=true:=(by rw[g0]; rfl);rw[if_pos g0];simp(maxSteps:=200000) only[ZE,↓reduceIte,pE,pL,pA,pS,pM,pD,zN,qT,qG,qL,qH,qN,qB,qE,qO,qA,qM,hm4,hw8,hnq,hes,hm6,hw,Int.toNat_natCast,List.map_nil,e0,e1,hGl,gl,zb,zb'];exact(by decide)
    ·have gl:((G.length:Int)==0)=false:=beq_eq_false_iff_ne.2 (by omega);rw[if_neg g0];have hml:(k.c:Int).tmod (G.length:Int)=((k.c % G.length:Nat):Int):=(Int.ofNat_tmod k.c G.length).symm;have hlt:k.c % G.length<G.length:=Nat.mod_lt _ (by omega);have hr:zfK m k=G[k.c % G.length]:=(by unfold zfK; rw[hG]; simp[List.getD,hlt]);have hrl:zfK m k<m.items.length:=zlI k (by rw[hG]; exact g0);obtain⟨r,hrr⟩:=zX (zfK m k);rw[hrr]at hr hrl ⊢;obtain⟨w,hw'⟩:=zX (k.c % G.length);rw[hw']at hml hlt;have hr2:G[w]=r:=(by rw[hr]; congr 1; exact hw'.symm);obtain⟨x,hx⟩:=zX (m.items[r]);have hgx:m.items.getD r zaV=x:=(by simp[List.getD,hrl,hx]);rw[hgx];have gz: ¬((G.length:Int)=0):=(by omega);have hm2:(k.a:Int).tmod 2=((k.a % 2:Nat):Int):=(Int.ofNat_tmod k.a 2).symm;have hw2:IntKind.i64.wrap ((k.a % 2:Nat):Int)=((k.a % 2:Nat):Int):=zaQ (by omega) (by omega);have hS:(List.map zaK m.items).set r (zaK (chI k x))=List.map zaK (m.items.set r (chI k x)):=(by rw[List.map_set]);have hRl:(m.items.set r (chI k x)).length =m.items.length:=List.length_set;obtain⟨R,hR⟩:=zX (m.items.set r (chI k x));rw[hR]at hS hRl ⊢;have e2:((q:Int)==2)=false:=beq_eq_false_iff_ne.2 (by omega);have e3:((q:Int)==3)=false:=beq_eq_false_iff_ne.2 (by omega);have e4:((q:Int)==4)=false:=beq_eq_false_iff_ne.2 (by omega);have hci:chI k x={x with rule:=⟨((k.a % 2:Nat):Int),emp,0⟩}:=(by unfold chI; rw[hq,if_neg (by omega),if_neg (by omega),if_neg (by omega)]);rw[hci]at hS;simp(maxSteps:=4000000) only[ZE,↓reduceIte,pE,pL,pA,pS,pM,pD,emp]at hS;simp(maxSteps:=200000) only[ZE,↓reduceIte,pE,pL,pA,pS,pM,pD,zN,qT,qG,qL,qH,qN,qB,qE,qO,qA,qM,hm4,hw8,hnq,hes,hm6,hw,Int.toNat_natCast,List.map_nil,e0,e1,hGl,gl,zb,zb',hwc,hml,zcG,zal hlt,zaa hlt,hr2,e2,e3,e4,hm2,hw2,zal hrl,zaa hrl,hx,List.length_map,hS,hRl];exact⟨by decide,by decide,gz,by decide,by decide,hrl⟩
   ·have e1:=h1n q1';by_cases g0:G.length=0
    ·have gl:((G.length:Int)==0)=true:=(by rw[g0]; rfl);rw[if_pos g0];simp(maxSteps:=200000) only[ZE,↓reduceIte,pE,pL,pA,pS,pM,pD,zN,qT,qG,qL,qH,qN,qB,qE,qO,qA,qM,hm4,hw8,hnq,hes,hm6,hw,Int.toNat_natCast,List.map_nil,e0,e1,hGl,gl,q0];exact(by decide)
    ·by_cases q2:q=2
     ·have gl:((G.length:Int)==0)=false:=beq_eq_false_iff_ne.2 (by omega);rw[if_neg g0];have hml:(k.c:Int).tmod (G.length:Int)=((k.c % G.length:Nat):Int):=(Int.ofNat_tmod k.c G.length).symm;have hlt:k.c % G.length<G.length:=Nat.mod_lt _ (by omega);have hr:zfK m k=G[k.c % G.length]:=(by unfold zfK; rw[hG]; simp[List.getD,hlt]);have hrl:zfK m k<m.items.length:=zlI k (by rw[hG]; exact g0);obtain⟨r,hrr⟩:=zX (zfK m k);rw[hrr]at hr hrl ⊢;obtain⟨w,hw'⟩:=zX (k.c % G.length);rw[hw']at hml hlt;have hr2:G[w]=r:=(by rw[hr]; congr 1; exact hw'.symm);obtain⟨x,hx⟩:=zX (m.items[r]);have hgx:m.items.getD r zaV=x:=(by simp[List.getD,hrl,hx]);rw[hgx];have gz: ¬((G.length:Int)=0):=(by omega);have hm2:(k.a:Int).tmod 2=((k.a % 2:Nat):Int):=(Int.ofNat_tmod k.a 2).symm;have hw2:IntKind.i64.wrap ((k.a % 2:Nat):Int)=((k.a % 2:Nat):Int):=zaQ (by omega) (by omega);have hS:(List.map zaK m.items).set r (zaK (chI k x))=List.map zaK (m.items.set r (chI k x)):=(by rw[List.map_set]);have hRl:(m.items.set r (chI k x)).length =m.items.length:=List.length_set;obtain⟨R,hR⟩:=zX (m.items.set r (chI k x));rw[hR]at hS hRl ⊢;have e2:((q:Int)==2)=true:=(by rw[q2]; rfl);have hci:chI k x={x with init:=⟨((k.a % 2:Nat):Int),emp⟩}:=(by unfold chI; rw[hq,if_pos q2]);rw[hci]at hS;simp(maxSteps:=4000000) only[ZE,↓reduceIte,pE,pL,pA,pS,pM,pD,emp]at hS;simp(maxSteps:=200000) only[ZE,↓reduceIte,pE,pL,pA,pS,pM,pD,zN,qT,qG,qL,qH,qN,qB,qE,qO,qA,qM,hm4,hw8,hnq,hes,hm6,hw,Int.toNat_natCast,List.map_nil,e0,e1,hGl,gl,hwc,hml,zcG,zal hlt,zaa hlt,hr2,e2,hm2,hw2,zal hrl,zaa hrl,hx,List.length_map,hS,hRl];exact⟨by decide,by decide,gz,by decide,by decide,hrl⟩
     by_cases q3:q=3
     ·have gl:((G.length:Int)==0)=false:=beq_eq_false_iff_ne.2 (by omega);rw[if_neg g0];have hml:(k.c:Int).tmod (G.length:Int)=((k.c % G.length:Nat):Int):=(Int.ofNat_tmod k.c G.length).symm;have hlt:k.c % G.length<G.length:=Nat.mod_lt _ (by omega);have hr:zfK m k=G[k.c % G.length]:=(by unfold zfK; rw[hG]; simp[List.getD,hlt]);have hrl:zfK m k<m.items.length:=zlI k (by rw[hG]; exact g0);obtain⟨r,hrr⟩:=zX (zfK m k);rw[hrr]at hr hrl ⊢;obtain⟨w,hw'⟩:=zX (k.c % G.length);rw[hw']at hml hlt;have hr2:G[w]=r:=(by rw[hr]; congr 1; exact hw'.symm);obtain⟨x,hx⟩:=zX (m.items[r]);have hgx:m.items.getD r zaV=x:=(by simp[List.getD,hrl,hx]);rw[hgx];have gz: ¬((G.length:Int)=0):=(by omega);have hm2:(k.a:Int).tmod 2=((k.a % 2:Nat):Int):=(Int.ofNat_tmod k.a 2).symm;have hw2:IntKind.i64.wrap ((k.a % 2:Nat):Int)=((k.a % 2:Nat):Int):=zaQ (by omega) (by omega);have hS:(List.map zaK m.items).set r (zaK (chI k x))=List.map zaK (m.items.set r (chI k x)):=(by rw[List.map_set]);have hRl:(m.items.set r (chI k x)).length =m.items.length:=List.length_set;obtain⟨R,hR⟩:=zX (m.items.set r (chI k x));rw[hR]at hS hRl ⊢;have e2:((q:Int)==2)=false:=beq_eq_false_iff_ne.2 (by omega);have e3:((q:Int)==3)=true:=(by rw[q3]; rfl);have hm3:(k.a:Int).tmod 3=((k.a % 3:Nat):Int):=(Int.ofNat_tmod k.a 3).symm;have hw3:IntKind.i64.wrap ((k.a % 3:Nat):Int)=((k.a % 3:Nat):Int):=zaQ (by omega) (by omega);have hci:chI k x={x with rule:=⟨3,sS1,((k.a % 3:Nat):Int)⟩}:=(by unfold chI; rw[hq,if_neg q2,if_pos q3]);rw[hci]at hS;simp(maxSteps:=4000000) only[ZE,↓reduceIte,pE,pL,pA,pS,pM,pD,sS1,st]at hS;simp(maxSteps:=200000) only[ZE,↓reduceIte,pE,pL,pA,pS,pM,pD,zN,qT,qG,qL,qH,qN,qB,qE,qO,qA,qM,hm4,hw8,hnq,hes,hm6,hw,Int.toNat_natCast,List.map_nil,e0,e1,hGl,gl,hwc,hml,zcG,zal hlt,zaa hlt,hr2,e2,e3,hm3,hw3,zal hrl,zaa hrl,hx,List.length_map,hS,hRl];exact⟨by decide,by decide,gz,by decide,by decide,hrl⟩
     by_cases q4:q=4
     ·have gl:((G.length:Int)==0)=false:=beq_eq_false_iff_ne.2 (by omega);rw[if_neg g0];have hml:(k.c:Int).tmod (G.length:Int)=((k.c % G.length:Nat):Int):=(Int.ofNat_tmod k.c G.length).symm;have hlt:k.c % G.length<G.length:=Nat.mod_lt _ (by omega);have hr:zfK m k=G[k.c % G.length]:=(by unfold zfK; rw[hG]; simp[List.getD,hlt]);have hrl:zfK m k<m.items.length:=zlI k (by rw[hG]; exact g0);obtain⟨r,hrr⟩:=zX (zfK m k);rw[hrr]at hr hrl ⊢;obtain⟨w,hw'⟩:=zX (k.c % G.length);rw[hw']at hml hlt;have hr2:G[w]=r:=(by rw[hr]; congr 1; exact hw'.symm);obtain⟨x,hx⟩:=zX (m.items[r]);have hgx:m.items.getD r zaV=x:=(by simp[List.getD,hrl,hx]);rw[hgx];have gz: ¬((G.length:Int)=0):=(by omega);have hm2:(k.a:Int).tmod 2=((k.a % 2:Nat):Int):=(Int.ofNat_tmod k.a 2).symm;have hw2:IntKind.i64.wrap ((k.a % 2:Nat):Int)=((k.a % 2:Nat):Int):=zaQ (by omega) (by omega);have hS:(List.map zaK m.items).set r (zaK (chI k x))=List.map zaK (m.items.set r (chI k x)):=(by rw[List.map_set]);have hRl:(m.items.set r (chI k x)).length =m.items.length:=List.length_set;obtain⟨R,hR⟩:=zX (m.items.set r (chI k x));rw[hR]at hS hRl ⊢;have e2:((q:Int)==2)=false:=beq_eq_false_iff_ne.2 (by omega);have e3:((q:Int)==3)=false:=beq_eq_false_iff_ne.2 (by omega);have e4:((q:Int)==4)=true:=(by rw[q4]; rfl);have hci:chI k x={x with a:=notE x.a}:=(by unfold chI; rw[hq,if_neg q2,if_neg q3,if_pos q4]);have nc:=not_c x.a;rw[hci]at hS;simp(maxSteps:=4000000) only[ZE,↓reduceIte,pE,pL,pA,pS,pM,pD,not_op,not_name,not_k,not_w,not_args,zbh,emp,List.map_cons,List.map_nil]at hS nc;simp(maxSteps:=200000) only[ZE,↓reduceIte,pE,pL,pA,pS,pM,pD,zN,qT,qG,qL,qH,qN,qB,qE,qO,qA,qM,hm4,hw8,hnq,hes,hm6,hw,Int.toNat_natCast,List.map_nil,e0,e1,hGl,gl,hwc,hml,zcG,zal hlt,zaa hlt,hr2,e2,e3,e4,zal hrl,zaa hrl,hx,List.length_map];refine⟨by decide,by decide,gz,by decide,hrl,?_⟩;refine EFn.p ?_;simp(maxSteps:=4000000) only[ZE,↓reduceIte,pE,pL,pA,pS,pM,pD];refine zar.i nc ?_;simp(maxSteps:=200000) only[ZE,↓reduceIte,pE,pL,pA,pS,pM,pD,zN,qT,qG,qL,qH,qN,qB,qE,qO,qA,qM,zal hrl,zaa hrl,hx,List.length_map,hS,hRl];exact hrl
     ·have gl:((G.length:Int)==0)=false:=beq_eq_false_iff_ne.2 (by omega);rw[if_neg g0];have hml:(k.c:Int).tmod (G.length:Int)=((k.c % G.length:Nat):Int):=(Int.ofNat_tmod k.c G.length).symm;have hlt:k.c % G.length<G.length:=Nat.mod_lt _ (by omega);have hr:zfK m k=G[k.c % G.length]:=(by unfold zfK; rw[hG]; simp[List.getD,hlt]);have hrl:zfK m k<m.items.length:=zlI k (by rw[hG]; exact g0);obtain⟨r,hrr⟩:=zX (zfK m k);rw[hrr]at hr hrl ⊢;obtain⟨w,hw'⟩:=zX (k.c % G.length);rw[hw']at hml hlt;have hr2:G[w]=r:=(by rw[hr]; congr 1; exact hw'.symm);obtain⟨x,hx⟩:=zX (m.items[r]);have hgx:m.items.getD r zaV=x:=(by simp[List.getD,hrl,hx]);rw[hgx];have gz: ¬((G.length:Int)=0):=(by omega);have hm2:(k.a:Int).tmod 2=((k.a % 2:Nat):Int):=(Int.ofNat_tmod k.a 2).symm;have hw2:IntKind.i64.wrap ((k.a % 2:Nat):Int)=((k.a % 2:Nat):Int):=zaQ (by omega) (by omega);have hS:(List.map zaK m.items).set r (zaK (chI k x))=List.map zaK (m.items.set r (chI k x)):=(by rw[List.map_set]);have hRl:(m.items.set r (chI k x)).length =m.items.length:=List.length_set;obtain⟨R,hR⟩:=zX (m.items.set r (chI k x));rw[hR]at hS hRl ⊢;have e2:((q:Int)==2)=false:=beq_eq_false_iff_ne.2 (by omega);have e3:((q:Int)==3)=false:=beq_eq_false_iff_ne.2 (by omega);have e4:((q:Int)==4)=false:=beq_eq_false_iff_ne.2 (by omega);have hci:chI k x={x with rule:=⟨((k.a % 2:Nat):Int),emp,0⟩}:=(by unfold chI; rw[hq,if_neg (by omega),if_neg (by omega),if_neg (by omega)]);rw[hci]at hS;simp(maxSteps:=4000000) only[ZE,↓reduceIte,pE,pL,pA,pS,pM,pD,emp]at hS;simp(maxSteps:=200000) only[ZE,↓reduceIte,pE,pL,pA,pS,pM,pD,zN,qT,qG,qL,qH,qN,qB,qE,qO,qA,qM,hm4,hw8,hnq,hes,hm6,hw,Int.toNat_natCast,List.map_nil,e0,e1,hGl,gl,q0,hwc,hml,zcG,zal hlt,zaa hlt,hr2,e2,e3,e4,hm2,hw2,zal hrl,zaa hrl,hx,List.length_map,hS,hRl];exact⟨by decide,by decide,gz,by decide,by decide,hrl⟩
def ptI(k:K3)(l:List Item)(i:Nat):List Item:=(l.take i).map (zf2 k)++l.drop i
theorem ptI_len(k:K3)(l:List Item)(i:Nat):(ptI k l i).length =l.length:=by
 unfold ptI;rw[List.length_append,List.length_map,List.length_take,List.length_drop]; omega
theorem ptI_zero(k:K3)(l:List Item):ptI k l 0=l:=by unfold ptI; simp
theorem ptI_all(k:K3)(l:List Item):ptI k l l.length=l.map (zf2 k):=by unfold ptI; simp
theorem ptI_at(k:K3)(l:List Item)(i:Nat)(h:i<l.length):(ptI k l i)[i]'(by rw[ptI_len]; exact h)=l[i]:=by
 unfold ptI;rw[List.getElem_append_right (by rw[List.length_map,List.length_take]; omega)];simp[List.length_take,Nat.min_eq_left (Nat.le_of_lt h)]
theorem ptI_step(k:K3)(l:List Item)(i:Nat)(h:i<l.length):ptI k l (i+1)=(ptI k l i).set i (zf2 k l[i]):=by
 have hl:((l.take i).map (zf2 k)).length =i:=by rw[List.length_map,List.length_take]; omega
 unfold ptI;rw[List.take_succ_eq_append_getElem h,List.map_append,List.set_append_right _ _ (by omega),hl,Nat.sub_self,<-List.getElem_cons_drop h,List.append_assoc];rfl
theorem clkT(j:Nat)(h:j<3):([[D.lit (.string (⟨#[99,108,107]⟩:ByteArray))],[D.lit (.string (⟨#[97,117,120]⟩:ByteArray))],[D.lit (.string (⟨#[115,108,111,119]⟩:ByteArray))]]:List (List D)).getD j []=[D.lit (.string (clockN j).1)]:=by
 match j,h with
 | 0,_ | 1,_ | 2,_=>rfl
 | n+3,h=>omega
theorem modM_c(m:Module)(k:K3)(hk:k.ok)(hl:m.items.length<=1000000):FnP Tryz.prog 134 [.agg (zaC m),.agg [eU8 k.a,eU8 k.b,eU8 k.c]] (.d (.agg (zaC (zvk m k)))) []:=by
 refine FnP.of_eC (own:=[]) (fun i=>if i=1015 then [.frz 7]else []) zat Tryz.func134 rfl Tryz.call134 Tryz.ntmps134 (Nat.le_of_ble_eq_true rfl) Tryz.results134 (fun hok=> ?_);have rc:=regM_c m k hk hl;obtain⟨ka,kb,kc⟩:=hk;have ri:=rowsItem m.items;have hm8:(k.a:Int).tmod 8=((k.a % 8:Nat):Int):=(Int.ofNat_tmod k.a 8).symm;obtain⟨q,hq⟩:=zX (k.a % 8);rw[hq]at hm8;unfold zvk;rw[hq];by_cases q5:q=5
 ·have e5:((q:Int)==5)=true:=by rw[q5]; rfl
  rw[if_pos q5];have hm3:(k.c:Int).tmod 3=((k.c % 3:Nat):Int):=(Int.ofNat_tmod k.c 3).symm;have hr3:k.c % 3<3:=Nat.mod_lt _ (by decide);have ct:=clkT (k.c % 3) hr3;obtain⟨r,hr⟩:=zX (k.c % 3);rw[hr]at hm3 hr3 ct;rw[hr];simp(maxSteps:=200000) only[ZE,↓reduceIte,pE,pL,pA,pS,pM,pD,zN,qT,qG,qL,qH,qN,qB,qE,qO,qA,qM,hm8,e5,hm3,List.length_map,ct,List.map_nil,zal hr3];exact⟨⟨ri,by omega,by omega⟩,by decide,by decide,⟨by omega,by omega⟩,hr3⟩
 have e5:((q:Int)==5)=false:=beq_eq_false_iff_ne.2 (by omega);rw[if_neg q5];by_cases q4:q=4
 ·have e4:((q:Int)==4)=true:=by rw[q4]; rfl
  rw[if_pos q4];simp(maxSteps:=200000) only[ZE,↓reduceIte,pE,pL,pA,pS,pM,pD,zN,qT,qG,qL,qH,qN,qB,qE,qO,qA,qM,hm8,e5,e4,List.length_map,List.map_nil];refine⟨⟨ri,by omega,by omega⟩,by decide,?_⟩;refine za2 (fun _=>[]) zat m.items.length (fun _=>True) (fun i=>([(2,.bp 2 0),(3,.bp 3 0),(4,.bp 4 0),(5,.ar 7 m.items.length),(6,.d (eI i))],[(2,.box [.d (eS m.name),.d (eS m.clock),.d (zd7 m.params),.d (zbU m.items)]),(3,.box [.d (eU8 k.a),.d (eU8 k.b),.d (eU8 k.c)]),(4,.box [.d (.lit (.string ByteArray.empty)),.d (.lit (.string ByteArray.empty)),.nils,.nils]),(7,.arr 64 35 .flat ((ptI k m.items i).map zaK))])) trivial ?_ ?_ (fun i hi _=> ?_)
  ·simp(maxSteps:=4000000) only[ZE,↓reduceIte,pE,pL,pA,pS,pM,pD]
  ·simp(maxSteps:=4000000) only[ZE,↓reduceIte,pE,pL,pA,pS,pM,pD,ptI_zero]
  rcases Nat.lt_or_ge i m.items.length with h | h
  ·have hw:=zas (show i<9223372036854775807 by omega);have hat:=ptI_at k m.items i h;have hnl:=ptI_len k m.items i;rw[ptI_step k m.items i h];obtain⟨x,hx⟩:=zX (m.items[i]);rw[hx]at hat ⊢;obtain⟨L,hL⟩:=zX (ptI k m.items i);have hiL:i<L.length:=by rw[<-hL,hnl]; exact h
   have hxL:L[i]=x:=by subst hL; exact hat
   rw[hL]at hnl ⊢;have hS:(L.map zaK).set i (zaK (zf2 k x))=(L.set i (zf2 k x)).map zaK:=by rw[List.map_set]
   have hRl:(L.set i (zf2 k x)).length =m.items.length:=by rw[List.length_set,hnl]
   by_cases k8:x.kind.1=8
   ·have e8:(x.kind.1==8)=true:=(by rw[k8]; rfl);have e3:(x.kind.1==3)=false:=(by rw[k8]; rfl);have hp:zf2 k x={x with b:=notE x.b}:=(by unfold zf2; rw[if_pos k8]);have nc:=not_c x.b;obtain⟨R,hR⟩:=zX (L.set i (zf2 k x));rw[hR]at hS hRl ⊢;have hiR:i<R.length:=(by rw[hRl]; exact h);have hRi:R[i]=zf2 k x:=(by subst hR; exact List.getElem_set_self _);rw[hp]at hS hRi;simp(maxSteps:=4000000) only[ZE,↓reduceIte,pE,pL,pA,pS,pM,pD,not_op,not_name,not_k,not_w,not_args,zbh,emp,List.map_cons,List.map_nil]at hS nc;simp(maxSteps:=200000) only[ZE,↓reduceIte,pE,pL,pA,pS,pM,pD,zN,qT,qG,qL,qH,qN,qB,qE,qO,qA,qM,zax h,zal h,zal hiL,zaa hiL,hxL,hnl,e8,List.length_map];refine⟨h,h,?_⟩;refine EFn.p ?_;simp(maxSteps:=4000000) only[ZE,↓reduceIte,pE,pL,pA,pS,pM,pD];refine zar.i nc ?_;simp(maxSteps:=200000) only[ZE,↓reduceIte,pE,pL,pA,pS,pM,pD,zN,qT,qG,qL,qH,qN,qB,qE,qO,qA,qM,zax h,zal h,zal hiL,zaa hiL,hxL,hnl,e8,e3,List.length_map,hS,hRl,zaa hiR,hRi,hw];exact h
   ·have e8:(x.kind.1==8)=false:=beq_eq_false_iff_ne.2 k8;by_cases k3:x.kind.1=3
    ·have e3:(x.kind.1==3)=true:=(by rw[k3]; rfl);have hm8c:(k.c:Int).tmod 8=((k.c % 8:Nat):Int):=(Int.ofNat_tmod k.c 8).symm;have hw8:IntKind.i64.wrap (((k.c % 8:Nat):Int))=((k.c % 8:Nat):Int):=zaQ (by omega) (by omega);have hw9:IntKind.i64.wrap (1+((k.c % 8:Nat):Int))=((1+k.c % 8:Nat):Int):=(by rw[zaQ (by omega) (by omega)]; omega);have hp:zf2 k x={x with depth:=⟨((1+k.c % 8:Nat):Int),emp⟩}:=(by unfold zf2; rw[if_neg k8,if_pos k3]);obtain⟨R,hR⟩:=zX (L.set i (zf2 k x));rw[hR]at hS hRl ⊢;rw[hp]at hS;simp(maxSteps:=4000000) only[ZE,↓reduceIte,pE,pL,pA,pS,pM,pD,emp]at hS;simp(maxSteps:=200000) only[ZE,↓reduceIte,pE,pL,pA,pS,pM,pD,zN,qT,qG,qL,qH,qN,qB,qE,qO,qA,qM,zax h,zal h,zal hiL,zaa hiL,hxL,hnl,e8,e3,List.length_map,hm8c,hw8,hw9,hS,hRl,hw];exact⟨h,h,by decide,h⟩
    ·have e3:(x.kind.1==3)=false:=beq_eq_false_iff_ne.2 k3;have hp:zf2 k x=x:=(by unfold zf2; rw[if_neg k8,if_neg k3]);have hLs:L.set i (zf2 k x)=L:=(by rw[hp,<-hxL]; exact List.set_getElem_self hiL);rw[hLs];simp(maxSteps:=200000) only[ZE,↓reduceIte,pE,pL,pA,pS,pM,pD,zN,qT,qG,qL,qH,qN,qB,qE,qO,qA,qM,zax h,zal h,zal hiL,zaa hiL,hxL,hnl,e8,e3,List.length_map,hw];exact h
  ·have:i=m.items.length:=by omega
   subst this;have hl2:(m.items.map (zf2 k)).length =m.items.length:=List.length_map _;obtain⟨R,hR⟩:=zX (m.items.map (zf2 k));rw[ptI_all,hR];rw[hR]at hl2;simp(maxSteps:=200000) only[ZE,↓reduceIte,pE,pL,pA,pS,pM,pD,zN,qT,qG,qL,qH,qN,qB,qE,qO,qA,qM,zaI h,List.length_map,hl2]
 ·have e4:((q:Int)==4)=false:=beq_eq_false_iff_ne.2 (by omega);rw[if_neg q4];obtain⟨Q,hQ⟩:=zX (regM m k);rw[hQ]at rc ⊢;simp(maxSteps:=4000000) only[ZE,↓reduceIte,pE,pL,pA,pS,pM,pD]at rc;simp(maxSteps:=200000) only[ZE,↓reduceIte,pE,pL,pA,pS,pM,pD,zN,qT,qG,qL,qH,qN,qB,qE,qO,qA,qM,hm8,e5,e4,List.length_map,List.map_nil];refine⟨⟨ri,by omega,by omega⟩,by decide,?_⟩;refine EFn.p ?_;simp(maxSteps:=4000000) only[ZE,↓reduceIte,pE,pL,pA,pS,pM,pD];refine zar.i rc ?_;simp(maxSteps:=4000000) only[ZE,↓reduceIte,pE,pL,pA,pS,pM,pD,zN,qT,qG,qL,qH,qN,qB,qE,qO,qA,qM]
end Go.Proofs.YtbenhdgpogiadaaGreat
