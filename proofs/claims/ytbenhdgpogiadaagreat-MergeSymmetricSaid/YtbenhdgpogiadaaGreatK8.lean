/-
 CONTRACTS and plain laws. Conditions: those of each law.
-/
import Derived.Test.YtbenhdgpogiadaaGreatK7
set_option linter.unusedSimpArgs false
set_option linter.unusedVariables false
namespace Go.Proofs.YtbenhdgpogiadaaGreat
open Go.Aw
open Nat renaming reduceEqDiff->pE,reduceLT->pL,reduceAdd->pA,reduceSub->pS,reduceMul->pM,reduceLeDiff->pD
open Int renaming reduceToNat->qT,reduceGT->qG,reduceLT->qL,reduceGE->qH,reduceBNe->qN,reduceBEq->qB,reduceLE->qE,reduceNe->qO,reduceAdd->qA,reduceNeg->qM
set_option maxRecDepth 100000
set_option maxHeartbeats 40000000
theorem mergedL_c(b x y:List Module)(V:Got)(hV:V.l.length<=1000000)(mc:FnP Tryz.prog 91 [.agg [zax b],.agg [zax x],.agg [zax y]] (.tup [.d (.agg [zax V.f]),.d (.sl (V.l.map zaE)),.d (eI V.e)]) []):FnP Tryz.prog 37 [.agg [zax b,zax x,zax y]] (.d (.agg (eGot V))) []:=by
 refine FnP.of_eC (own:=[]) (fun i=>if i=2002 then [.ord ⟨[(0,none),(1,none),(2,none),(3,none),(4,none),(5,some [])]⟩]else []) zat Tryz.func37 rfl Tryz.call37 Tryz.ntmps37 (Nat.le_of_ble_eq_true rfl) Tryz.results37 (fun hok=> ?_);have lc:=listed_c V.l hV;obtain⟨f,hf⟩:=zX (V.f);obtain⟨l,hl⟩:=zX (V.l);obtain⟨e,he⟩:=zX (V.e);unfold eGot;rw[hf,hl,he]at mc ⊢;rw[hl]at lc;simp(maxSteps:=4000000) only[ZE,↓reduceIte,pE,pL,pA,pS,pM,pD]at mc lc;simp(maxSteps:=4000000) only[ZE,↓reduceIte,pE,pL,pA,pS,pM,pD,zN,qT,qG,qL,qH,qN,qB,qE,qO,qA,qM];refine EFn.p ?_;simp(maxSteps:=4000000) only[ZE,↓reduceIte,pE,pL,pA,pS,pM,pD,zN,qT,qG,qL,qH,qN,qB,qE,qO,qA,qM];refine zar.i mc ?_;simp(maxSteps:=4000000) only[ZE,↓reduceIte,pE,pL,pA,pS,pM,pD,zN,qT,qG,qL,qH,qN,qB,qE,qO,qA,qM];refine⟨by kernel_rfl,zaz.i lc ?_⟩;simp(maxSteps:=4000000) only[ZE,↓reduceIte,pE,pL,pA,pS,pM,pD,zN,qT,qG,qL,qH,qN,qB,qE,qO,qA,qM]
def zp7(l:List Place)(e:Int):List D:=[.sl (l.map zaE),eI e]
theorem placesL_c(a b:List Module)(l:List Place)(e:Int)(hl:l.length<=1000000)(mc:FnP Tryz.prog 86 [.agg [zax a],.agg [zax b]] (.tup [.d (.sl (l.map zaE)),.d (eI e)]) []):FnP Tryz.prog 34 [.agg [zax a],.agg [zax b]] (.d (.agg (zp7 l e))) []:=by
 refine FnP.of_eC (own:=[]) (fun _=>[]) zat Tryz.func34 rfl Tryz.call34 Tryz.ntmps34 (Nat.le_of_ble_eq_true rfl) Tryz.results34 (fun hok=> ?_);have lc:=listed_c l hl;unfold zp7;simp(maxSteps:=4000000) only[ZE,↓reduceIte,pE,pL,pA,pS,pM,pD]at mc lc;simp(maxSteps:=4000000) only[ZE,↓reduceIte,pE,pL,pA,pS,pM,pD,zN,qT,qG,qL,qH,qN,qB,qE,qO,qA,qM];refine EFn.p ?_;simp(maxSteps:=4000000) only[ZE,↓reduceIte,pE,pL,pA,pS,pM,pD,zN,qT,qG,qL,qH,qN,qB,qE,qO,qA,qM];refine zar.i mc ?_;simp(maxSteps:=4000000) only[ZE,↓reduceIte,pE,pL,pA,pS,pM,pD,zN,qT,qG,qL,qH,qN,qB,qE,qO,qA,qM];refine EFn.p ?_;simp(maxSteps:=4000000) only[ZE,↓reduceIte,pE,pL,pA,pS,pM,pD,zN,qT,qG,qL,qH,qN,qB,qE,qO,qA,qM];refine zar.i lc ?_;simp(maxSteps:=4000000) only[ZE,↓reduceIte,pE,pL,pA,pS,pM,pD,zN,qT,qG,qL,qH,qN,qB,qE,qO,qA,qM]
theorem sideL_c(b x y:List Module)(p:Place)(n e:Int)(mc:FnP Tryz.prog 96 [.agg [zax b],.agg [zax x],.agg [zax y],.agg (zaE p)] (.tup [.d (eI n),.d (eI e)]) []):FnP Tryz.prog 40 [.agg [zax b,zax x,zax y],.agg (zaE p)] (.d (.agg [eI n,eI e])) []:=by
 refine FnP.of_eC (own:=[]) (fun _=>[]) zat Tryz.func40 rfl Tryz.call40 Tryz.ntmps40 (Nat.le_of_ble_eq_true rfl) Tryz.results40 (fun hok=> ?_);unfold zaE at mc ⊢;simp(maxSteps:=4000000) only[ZE,↓reduceIte,pE,pL,pA,pS,pM,pD]at mc;simp(maxSteps:=4000000) only[ZE,↓reduceIte,pE,pL,pA,pS,pM,pD,zN,qT,qG,qL,qH,qN,qB,qE,qO,qA,qM];refine EFn.p ?_;simp(maxSteps:=4000000) only[ZE,↓reduceIte,pE,pL,pA,pS,pM,pD,zN,qT,qG,qL,qH,qN,qB,qE,qO,qA,qM];refine zar.i mc ?_;simp(maxSteps:=4000000) only[ZE,↓reduceIte,pE,pL,pA,pS,pM,pD,zN,qT,qG,qL,qH,qN,qB,qE,qO,qA,qM]
structure Gs (f:List Module):Prop where
 fl:Fl f
 len:f.length<=200
 items: ∀m∈f,m.items.length<=300
theorem Gi.gs{n:Nat}{f:List Module}(h:Gi n f)(hn:n<=100):Gs f:=⟨h.fl,by have:=h.len; omega,fun m hm=>by have:=(h.fine m hm).items; omega⟩
theorem Gs.sz{f:List Module}(h:Gs f):Sz f:=⟨by have:=h.len; omega,fun m hm=>by have:=h.items m hm; omega⟩
theorem Gs.keys{f:List Module}(h:Gs f):(zey f).length <=60200:=by
 have key: ∀l:List Module,(∀m∈l,m.items.length<=300)->(zey l).length <=l.length*301:=by
  intro l
  induction l with
  | nil=>intro _; simp[zey,ent]
  | cons m r ih=>
   intro hm;have h1:=ih fun q hq=>hm q (List.mem_cons_of_mem _ hq);have h2:=hm m (by simp);unfold zey ent at h1 ⊢;rw[List.flatMap_cons,List.map_append,List.length_append];have e:((zmp m).map Prod.fst).length =m.items.length+1:=by simp[zmp]
   rw[e,List.length_cons,Nat.add_mul];omega
 exact Nat.le_trans (key f h.items) (Nat.mul_le_mul_right _ h.len)
theorem gs_merged{n:Nat}(hn:n<=40){b x y:List Module}(hb:Gi n b)(hx:Gi n x)(hy:Gi n y)(h:zdy b x y=[]):Gs (zbA b x y):=
 ⟨zfQ hb.fl hx.fl hy.fl h,by have:=zvL hb.fl hx.fl hy.fl h; have:=hx.len; have:=hy.len; omega,fun m hm=>by have:=(ztr hb hx hy h m hm).items; omega⟩
theorem merge_g{b x y:List Module}(hb:Gs b)(hx:Gs x)(hy:Gs y)(hS:zdy b x y=[]->Small (zbA b x y)):FnP Tryz.prog 91 [.agg [zax b],.agg [zax x],.agg [zax y]] (.tup [.d (.agg [zax (zbk b x y).f]),.d (.sl ((zbk b x y).l.map zaE)),.d (eI (zbk b x y).e)]) []:=by
 refine FnP.post (mergeR_c b x y hb.fl hx.fl hy.fl hb.sz hx.sz hy.sz (by have:=hb.keys; have:=hx.keys; have:=hy.keys; simp only[List.flatMap_cons,List.flatMap_nil,List.length_append,List.length_nil]; omega) hS) fun O W F η v h=> ?_;simp only[zaL,zaN,Rd,zav]at h ⊢;obtain⟨vs,rfl,a,r,rfl,⟨us,rfl,u,w,rfl,h1,h2⟩,h3⟩:=h;exact⟨_,rfl,_,_,rfl,⟨_,rfl,_,_,rfl,eMR_wk _ _ _ _ h1,h2⟩,h3⟩
theorem all_len(l:List (List Module)):(zoQ l).length <=(l.flatMap zey).length :=zgA (by
 have:=Srt.nodup zlZ (zn1 l);rwa [List.map_id]at this) fun p hp=>(zgy zlZ).1 hp
theorem conf_len{b x y:List Module}(hb:Fl b)(hx:Fl x)(hy:Fl y):(zdy b x y).length <=(zoQ [b,x,y]).length :=by
 refine zgA ?_ fun q hq=> ?_
 ·have:=Srt.nodup zlZ (zjG zlZ ((zoQ [b,x,y]).flatMap (zee (zbc b) (zbc x) (zbc y))));rwa [List.map_id]at this
 ·have hd: ∀p,p∈zoQ [b,x,y]->zbB p.module∈zoQ [b,x,y]:=fun p hp=>by
   rw[zxe hb hx hy]at hp ⊢;exact hp.imp hb.head (.imp hx.head hy.head)
  rcases(zkm hb hx hy).1 hq with h | ⟨p,rfl,h⟩
  ·exact zpG hb hx hy h
  ·refine hd p ?_;rcases h.2.2.2 with h | h
   ·exact zrK hb hx hy h
   ·exact zpG hb hx hy h
theorem got_len{b x y:List Module}(hb:Gs b)(hx:Gs x)(hy:Gs y):(zbk b x y).l.length <=1000000:=by
 have h1:=conf_len hb.fl hx.fl hy.fl;have h2:=all_len [b,x,y];have h3:=hb.keys; have h4:=hx.keys; have h5:=hy.keys;simp only[List.flatMap_cons,List.flatMap_nil,List.length_append,List.length_nil]at h2;unfold zbk;split
 ·show(zdy b x y).length <=_; omega
 ·split <;> exact Nat.zero_le _
theorem zz4{a b:List Module}(ha:Gs a)(hb:Gs b):(zc0 a b).length <=1000000:=by
 have h2:=all_len [a,b];have h3:=ha.keys; have h4:=hb.keys;simp only[List.flatMap_cons,List.flatMap_nil,List.length_append,List.length_nil]at h2;have:=List.length_filter_le (fun p=>decide (zbc a p≠zbc b p)) (zoQ [a,b]);unfold zc0;omega
theorem znr{b x y:List Module}(hb:Gs b)(hx:Gs x)(hy:Gs y)(hS:zdy b x y=[]->Small (zbA b x y)):FnP Tryz.prog 37 [.agg [zax b,zax x,zax y]] (.d (.agg (eGot (zbk b x y)))) []:=
 mergedL_c b x y _ (got_len hb hx hy) (merge_g hb hx hy hS)
theorem zhL{n:Nat}(hn:n<=40){b x y:List Module}(hb:Gi n b)(hx:Gi n x)(hy:Gi n y):FnP Tryz.prog 37 [.agg [zax b,zax x,zax y]] (.d (.agg (eGot (zbk b x y)))) []:=
 znr (hb.gs (by omega)) (hx.gs (by omega)) (hy.gs (by omega)) (zq9 (by omega) hb hx hy)
theorem zij{a b:List Module}(ha:Gs a)(hb:Gs b):FnP Tryz.prog 34 [.agg [zax a],.agg [zax b]] (.d (.agg (zp7 (zc0 a b) 0))) []:=by
 refine placesL_c a b _ _ (zz4 ha hb) ?_;have pc:=places_c a b ha.sz hb.sz (by have:=ha.keys; have:=hb.keys; simp only[List.flatMap_cons,List.flatMap_nil,List.length_append,List.length_nil]; omega);have hall:[a,b].all ze8=true:=by simp only[List.all_cons,List.all_nil,(zbU _).2 ha.fl.part,(zbU _).2 hb.fl.part,Bool.and_true]
 unfold placesR at pc;rwa [if_pos hall]at pc
theorem ztt{b x y f:List Module}(h:zbk b x y=⟨f,[],0⟩):zdy b x y=[]/\zbA b x y=f:=by
 unfold zbk at h;split at h
 ·have:=congrArg Got.e h; cases this
 ·rename_i hc;refine⟨Classical.not_not.1 hc,?_⟩;split at h
  ·exact congrArg Got.f h
  ·have:=congrArg Got.e h; cases this
/-! ### Examples -/
def exF(l:List Item):List Module:=[⟨sMM,sCC,[],l⟩]
def sE:Str:=st [115]
def sRr:Str:=st [114]
def plR:Place:=⟨sMM,⟨⟨4,rfl⟩,sRr⟩⟩
theorem xx1:zbk (exF [zgP sRr 0]) (exF [zgP sRr 1]) (exF [zgP sE 0,zgP sRr 0])=⟨exF [zgP sRr 1,zgP sE 0],[],0⟩:=by kernel_rfl
theorem xx2:zbk (exF [zgP sRr 0]) (exF [zgP sRr 1]) (exF [zgP sRr 2])=⟨[],[plR],170⟩:=by kernel_rfl
theorem xx3:zbk (exF [zgP sRr 0]) (exF [zgP sRr 1]) []=⟨[],[zbB sMM,plR],170⟩:=by kernel_rfl
theorem xx4:(zc0 (exF [zgP sRr 0]) (exF [zgP sE 0,zgP sRr 0])).length =1:=by kernel_rfl
theorem mergeBad_c(b x y:List Module)(zb:Sz b)(zx:Sz x)(zy:Sz y)(h:[b,x,y].all ze8=false):FnP Tryz.prog 91 [.agg [zax b],.agg [zax x],.agg [zax y]] (.tup [.d (.agg [zax []]),.d (.sl []),.d (eI 1)]) []:=by
 refine FnP.of_eC (own:=[]) (fun _=>[]) zat Tryz.func91 rfl Tryz.call91 Tryz.ntmps91 (Nat.le_of_ble_eq_true rfl) Tryz.results91 (fun hok=> ?_);have oc:=zrN [b,x,y] (fun f hf=>by simp only[List.mem_cons,List.not_mem_nil,or_false]at hf; rcases hf with rfl | rfl | rfl <;> assumption) (by simp);unfold openR at oc;rw[h]at oc;simp only[List.map_cons,List.map_nil]at oc;simp(maxSteps:=4000000) only[ZE,↓reduceIte,pE,pL,pA,pS,pM,pD,Bool.false_eq_true]at oc;simp(maxSteps:=4000000) only[ZE,↓reduceIte,pE,pL,pA,pS,pM,pD,zN,qT,qG,qL,qH,qN,qB,qE,qO,qA,qM,List.map_nil];refine EFn.p ?_;simp(maxSteps:=4000000) only[ZE,↓reduceIte,pE,pL,pA,pS,pM,pD];refine zar.i oc ?_;simp(maxSteps:=4000000) only[ZE,↓reduceIte,pE,pL,pA,pS,pM,pD,zN,qT,qG,qL,qH,qN,qB,qE,qO,qA,qM,List.map_nil]
theorem exReg_sz(s:Str)(n:Nat):sz (zgP s n).a +sz (zgP s n).b +sz (zgP s n).c <=50:=by
 have h1:sz (zgP s n).a =1:=sz_leaf _ _ _ _;have h2:sz (zgP s n).b =sz zbQ:=rfl;have h3:sz (zgP s n).c =sz zbQ:=rfl;have h4:sz zbQ=1:=sz_leaf _ _ _ _;omega
theorem gs_ex{l:List Item}(h:ze8 (exF l)=true)(hl:l.length<=50)(hx: ∀x∈l,∃s n,x=zgP s n):Gs (exF l)/\Small (exF l):=by
 refine⟨⟨⟨(zbU _).1 h,⟨fun m hm x hi=> ?_⟩⟩,by simp[exF],fun m hm=> ?_⟩,zeX (n:=60) (by omega) (by simp[exF]) fun m hm=> ?_⟩
 all_goals
  simp only[exF,List.mem_singleton]at hm;subst hm
 ·obtain⟨s,n,rfl⟩:=hx x hi;show(0:Int)<4;decide
 ·show l.length<=300; omega
 ·refine⟨by show l.length<=_; omega,by simp,fun x hi=> ?_,fun x hi=> ?_,fun x hi=> ?_⟩
  all_goals obtain⟨s,n,rfl⟩:=hx x hi
  ·have:=exReg_sz s n; omega
  ·exact Nat.zero_le _
  ·exact Nat.zero_le _
theorem conf_ne{b x y f:List Module}{p:Place}{l:List Place}{e:Int}(h:zbk b x y=⟨f,p::l,e⟩):zdy b x y≠[]:=fun hc=>by
 unfold zbk at h;rw[if_neg (fun h=>h hc)]at h;have:=congrArg Got.l h;split at this <;> cases this
def zmq:Item:=zgP sRr 0
def zuU:Item:=zgP sRr 1
def exR2:Item:=zgP sRr 2
def zvt:Item:=zgP sE 0
theorem xx5:zfo (zbc (exF [zmq])) (zbc (exF [zuU])) (zbc (exF [exR2])) plR=4:=by kernel_rfl
theorem xx6:zfo (zbc (exF [zmq])) (zbc (exF [zmq])) (zbc (exF [exR2])) plR=2:=by kernel_rfl
theorem xx7:[exF [zmq,zmq],[],[]].all ze8=false:=by kernel_rfl
theorem exs_reg(x:Item)(h:x∈[zmq,zuU,exR2,zvt]): ∃s n,x=zgP s n:=by
 simp only[List.mem_cons,List.not_mem_nil,or_false]at h;rcases h with rfl | rfl | rfl | rfl <;> exact⟨_,_,rfl⟩
theorem gs_of(l:List Item)(h:ze8 (exF l)=true)(hl:l.length<=50)(hx: ∀x∈l,x∈[zmq,zuU,exR2,zvt]):Gs (exF l)/\Small (exF l):=gs_ex h hl fun x hi=>exs_reg x (hx x hi)
theorem gsB:Gs (exF [zmq])/\Small (exF [zmq]):=gs_of _ (by kernel_rfl) (by simp) (by simp)
theorem gsO:Gs (exF [zuU])/\Small (exF [zuU]):=gs_of _ (by kernel_rfl) (by simp) (by simp)
theorem gsT:Gs (exF [exR2])/\Small (exF [exR2]):=gs_of _ (by kernel_rfl) (by simp) (by simp)
theorem gsM:Gs (exF [zvt,zmq])/\Small (exF [zvt,zmq]):=gs_of _ (by kernel_rfl) (by simp) (by simp)
theorem gsW:Gs (exF [zuU,zvt])/\Small (exF [zuU,zvt]):=gs_of _ (by kernel_rfl) (by simp) (by simp)
theorem gsN:Gs []:=⟨⟨(zbU _).1 (by kernel_rfl),⟨by simp⟩⟩,by simp,by simp⟩
theorem side_e{b x y:List Module}(hb:Gs b)(hx:Gs x)(hy:Gs y)(p:Place):FnP Tryz.prog 40 [.agg [zax b,zax x,zax y],.agg (zaE p)] (.d (.agg [eI (zfo (zbc b) (zbc x) (zbc y) p),eI 0])) []:=by
 refine sideL_c b x y p _ _ ?_;have sc:=mside_c b x y hb.sz hx.sz hy.sz p;unfold sideR at sc;rwa [if_pos (by simp only[List.all_cons,List.all_nil,(zbU _).2 hb.fl.part,(zbU _).2 hx.fl.part,(zbU _).2 hy.fl.part,Bool.and_true])]at sc
theorem zez:FnP Tryz.prog 31 [] (.d (eB true)) []:=by
 refine FnP.of_eC (own:=[]) (fun i=>if i=2010 then [.ord ⟨[(0,none),(1,none),(2,none),(3,none),(4,none),(5,none),(6,none),(7,none),(8,none),(9,none),(10,none),(11,none),(12,none),(13,none),(14,none),(15,none),(16,none),(17,none),(18,none),(19,none),(20,none),(21,none),(22,none),(23,none),(24,none)]⟩]else []) zat Tryz.func31 rfl Tryz.call31 Tryz.ntmps31 (Nat.le_of_ble_eq_true rfl) Tryz.results31 (fun hok=> ?_);have r0:FnP Tryz.prog 84 [eS sRr,eI 0] (.d (.agg (zaK zmq))) []:=znx sRr 0;have r1:FnP Tryz.prog 84 [eS sRr,eI 1] (.d (.agg (zaK zuU))) []:=znx sRr 1;have r2:FnP Tryz.prog 84 [eS sRr,eI 2] (.d (.agg (zaK exR2))) []:=znx sRr 2;have s0:FnP Tryz.prog 84 [eS sE,eI 0] (.d (.agg (zaK zvt))) []:=znx sE 0;have f0:=zvv [zmq];have f1:=zvv [zuU];have f2:=zvv [exR2];have fm:=zvv [zvt,zmq];have fw:=zvv [zuU,zvt];have fx:=zvv [zmq,zmq];have m1:=znr gsB.1 gsO.1 gsM.1 (fun _=>by
  have e:zbA (exF [zmq]) (exF [zuU]) (exF [zvt,zmq])=exF [zuU,zvt]:=(ztt xx1).2;rw[e]; exact gsW.2)
 have m2:=znr gsB.1 gsO.1 gsT.1 (fun h=>absurd h (conf_ne xx2));have m3:=znr gsB.1 gsO.1 gsN (fun h=>absurd h (conf_ne xx3));have x1:zbk (exF [zmq]) (exF [zuU]) (exF [zvt,zmq])=⟨exF [zuU,zvt],[],0⟩:=xx1;have x2:zbk (exF [zmq]) (exF [zuU]) (exF [exR2])=⟨[],[plR],170⟩:=xx2;have x3:zbk (exF [zmq]) (exF [zuU]) []=⟨[],[zbB sMM,plR],170⟩:=xx3;rw[x1]at m1;rw[x2]at m2;rw[x3]at m3;have al1:=zn0 ⟨exF [zuU,zvt],[],0⟩ ⟨exF [zuU,zvt],[],0⟩;have al2:=zn0 ⟨[],[plR],170⟩ ⟨[],[plR],170⟩;have al3:=zn0 ⟨[],[zbB sMM,plR],170⟩ ⟨[],[zbB sMM,plR],170⟩;rw[zhQ]at al1 al2 al3;have pc:=zij gsB.1 gsM.1;have pl:(zc0 (exF [zmq]) (exF [zvt,zmq])).length =1:=xx4;obtain⟨pls,hpls⟩: ∃l,zc0 (exF [zmq]) (exF [zvt,zmq])=l:=⟨_,rfl⟩;rw[hpls]at pc pl;have se1:=side_e gsB.1 gsO.1 gsT.1 plR;have se2:=side_e gsB.1 gsB.1 gsT.1 plR;rw[xx5]at se1;rw[xx6]at se2;have zx:Sz (exF [zmq,zmq]):=⟨by simp[exF],fun m hm=>by simp only[exF,List.mem_singleton]at hm; subst hm; show 2<=_; omega⟩;have mb:=mergedL_c (exF [zmq,zmq]) [] [] ⟨[],[],1⟩ (by simp) (mergeBad_c _ _ _ zx gsN.sz gsN.sz xx7);have g: ∀l,[(⟨sMM,sCC,[],l⟩:Module)]=exF l:=fun _=>rfl;rw[g]at f0 f1 f2 fm fw fx;obtain⟨B,hB⟩: ∃f,exF [zmq]=f:=⟨_,rfl⟩;obtain⟨O,hO⟩: ∃f,exF [zuU]=f:=⟨_,rfl⟩;obtain⟨T,hT⟩: ∃f,exF [exR2]=f:=⟨_,rfl⟩;obtain⟨M,hM⟩: ∃f,exF [zvt,zmq]=f:=⟨_,rfl⟩;obtain⟨V,hV⟩: ∃f,exF [zuU,zvt]=f:=⟨_,rfl⟩;obtain⟨X,hX⟩: ∃f,exF [zmq,zmq]=f:=⟨_,rfl⟩;rw[hB]at f0 m1 m2 m3 pc se1 se2;rw[hO]at f1 m1 m2 m3 se1;rw[hT]at f2 m2 se1 se2;rw[hM]at fm m1 pc;rw[hV]at fw m1 al1;rw[hX]at fx mb;simp only[List.map_cons,List.map_nil]at f0 f1 f2 fm fw fx;obtain⟨R0,hR0⟩: ∃f,zmq=f:=⟨_,rfl⟩;obtain⟨R1,hR1⟩: ∃f,zuU=f:=⟨_,rfl⟩;obtain⟨R2,hR2⟩: ∃f,exR2=f:=⟨_,rfl⟩;obtain⟨S0,hS0⟩: ∃f,zvt=f:=⟨_,rfl⟩;rw[hR0]at r0 f0 fm fx;rw[hR1]at r1 f1 fw;rw[hR2]at r2 f2;rw[hS0]at s0 fm fw;clear hB hO hT hM hV hX hR0 hR1 hR2 hS0 g x1 x2 x3;simp only[eGot,zp7,zaE]at m1 m2 m3 al1 al2 al3 pc se1 se2 mb;simp(maxSteps:=4000000) only[ZE,↓reduceIte,pE,pL,pA,pS,pM,pD,sRr,sE,sMM,sCC,st,plR,zbB,zc7,emp,List.map_nil,List.map_cons]at r0 r1 r2 s0 f0 f1 f2 fm fw fx m1 m2 m3 al1 al2 al3 pc se1 se2 mb;simp(maxSteps:=4000000) only[ZE,↓reduceIte,pE,pL,pA,pS,pM,pD,zN,qT,qG,qL,qH,qN,qB,qE,qO,qA,qM];refine EFn.p ?_;simp(maxSteps:=4000000) only[ZE,↓reduceIte,pE,pL,pA,pS,pM,pD,zN,qT,qG,qL,qH,qN,qB,qE,qO,qA,qM];refine zar.i r0 ?_;simp(maxSteps:=4000000) only[ZE,↓reduceIte,pE,pL,pA,pS,pM,pD,zN,qT,qG,qL,qH,qN,qB,qE,qO,qA,qM];refine EFn.p ?_;simp(maxSteps:=4000000) only[ZE,↓reduceIte,pE,pL,pA,pS,pM,pD,zN,qT,qG,qL,qH,qN,qB,qE,qO,qA,qM];refine zar.i f0 ?_;simp(maxSteps:=4000000) only[ZE,↓reduceIte,pE,pL,pA,pS,pM,pD,zN,qT,qG,qL,qH,qN,qB,qE,qO,qA,qM];refine EFn.p ?_;simp(maxSteps:=4000000) only[ZE,↓reduceIte,pE,pL,pA,pS,pM,pD,zN,qT,qG,qL,qH,qN,qB,qE,qO,qA,qM];refine zar.i r1 ?_;simp(maxSteps:=4000000) only[ZE,↓reduceIte,pE,pL,pA,pS,pM,pD,zN,qT,qG,qL,qH,qN,qB,qE,qO,qA,qM];refine EFn.p ?_;simp(maxSteps:=4000000) only[ZE,↓reduceIte,pE,pL,pA,pS,pM,pD,zN,qT,qG,qL,qH,qN,qB,qE,qO,qA,qM];refine zar.i f1 ?_;simp(maxSteps:=4000000) only[ZE,↓reduceIte,pE,pL,pA,pS,pM,pD,zN,qT,qG,qL,qH,qN,qB,qE,qO,qA,qM];refine EFn.p ?_;simp(maxSteps:=4000000) only[ZE,↓reduceIte,pE,pL,pA,pS,pM,pD,zN,qT,qG,qL,qH,qN,qB,qE,qO,qA,qM];refine zar.i s0 ?_;simp(maxSteps:=4000000) only[ZE,↓reduceIte,pE,pL,pA,pS,pM,pD,zN,qT,qG,qL,qH,qN,qB,qE,qO,qA,qM];refine EFn.p ?_;simp(maxSteps:=4000000) only[ZE,↓reduceIte,pE,pL,pA,pS,pM,pD,zN,qT,qG,qL,qH,qN,qB,qE,qO,qA,qM];refine zar.i r0 ?_;simp(maxSteps:=4000000) only[ZE,↓reduceIte,pE,pL,pA,pS,pM,pD,zN,qT,qG,qL,qH,qN,qB,qE,qO,qA,qM];refine EFn.p ?_;simp(maxSteps:=4000000) only[ZE,↓reduceIte,pE,pL,pA,pS,pM,pD,zN,qT,qG,qL,qH,qN,qB,qE,qO,qA,qM];refine zar.i fm ?_;simp(maxSteps:=4000000) only[ZE,↓reduceIte,pE,pL,pA,pS,pM,pD,zN,qT,qG,qL,qH,qN,qB,qE,qO,qA,qM];refine EFn.p ?_;simp(maxSteps:=4000000) only[ZE,↓reduceIte,pE,pL,pA,pS,pM,pD,zN,qT,qG,qL,qH,qN,qB,qE,qO,qA,qM];refine zar.i r2 ?_;simp(maxSteps:=4000000) only[ZE,↓reduceIte,pE,pL,pA,pS,pM,pD,zN,qT,qG,qL,qH,qN,qB,qE,qO,qA,qM];refine EFn.p ?_;simp(maxSteps:=4000000) only[ZE,↓reduceIte,pE,pL,pA,pS,pM,pD,zN,qT,qG,qL,qH,qN,qB,qE,qO,qA,qM];refine zar.i f2 ?_;simp(maxSteps:=4000000) only[ZE,↓reduceIte,pE,pL,pA,pS,pM,pD,zN,qT,qG,qL,qH,qN,qB,qE,qO,qA,qM];refine EFn.p ?_;simp(maxSteps:=4000000) only[ZE,↓reduceIte,pE,pL,pA,pS,pM,pD,zN,qT,qG,qL,qH,qN,qB,qE,qO,qA,qM];refine zar.i m1 ?_;simp(maxSteps:=4000000) only[ZE,↓reduceIte,pE,pL,pA,pS,pM,pD,zN,qT,qG,qL,qH,qN,qB,qE,qO,qA,qM];refine EFn.p ?_;simp(maxSteps:=4000000) only[ZE,↓reduceIte,pE,pL,pA,pS,pM,pD,zN,qT,qG,qL,qH,qN,qB,qE,qO,qA,qM];refine zar.i m2 ?_;simp(maxSteps:=4000000) only[ZE,↓reduceIte,pE,pL,pA,pS,pM,pD,zN,qT,qG,qL,qH,qN,qB,qE,qO,qA,qM];refine EFn.p ?_;simp(maxSteps:=4000000) only[ZE,↓reduceIte,pE,pL,pA,pS,pM,pD,zN,qT,qG,qL,qH,qN,qB,qE,qO,qA,qM];refine zar.i m3 ?_;simp(maxSteps:=4000000) only[ZE,↓reduceIte,pE,pL,pA,pS,pM,pD,zN,qT,qG,qL,qH,qN,qB,qE,qO,qA,qM];refine⟨by kernel_rfl,zaz.i r1 ?_⟩;simp(maxSteps:=4000000) only[ZE,↓reduceIte,pE,pL,pA,pS,pM,pD,zN,qT,qG,qL,qH,qN,qB,qE,qO,qA,qM];refine zaz.i s0 ?_;simp(maxSteps:=4000000) only[ZE,↓reduceIte,pE,pL,pA,pS,pM,pD,zN,qT,qG,qL,qH,qN,qB,qE,qO,qA,qM];refine zaz.i fw ?_;simp(maxSteps:=4000000) only[ZE,↓reduceIte,pE,pL,pA,pS,pM,pD,zN,qT,qG,qL,qH,qN,qB,qE,qO,qA,qM];refine zaz.i al1 ?_;simp(maxSteps:=4000000) only[ZE,↓reduceIte,pE,pL,pA,pS,pM,pD,zN,qT,qG,qL,qH,qN,qB,qE,qO,qA,qM];refine zaz.i al2 ?_;simp(maxSteps:=4000000) only[ZE,↓reduceIte,pE,pL,pA,pS,pM,pD,zN,qT,qG,qL,qH,qN,qB,qE,qO,qA,qM];refine zaz.i al3 ?_;simp(maxSteps:=4000000) only[ZE,↓reduceIte,pE,pL,pA,pS,pM,pD,zN,qT,qG,qL,qH,qN,qB,qE,qO,qA,qM];refine EFn.p ?_;simp(maxSteps:=4000000) only[ZE,↓reduceIte,pE,pL,pA,pS,pM,pD,zN,qT,qG,qL,qH,qN,qB,qE,qO,qA,qM];refine zar.i pc ?_;simp(maxSteps:=4000000) only[ZE,↓reduceIte,pE,pL,pA,pS,pM,pD,zN,qT,qG,qL,qH,qN,qB,qE,qO,qA,qM];refine EFn.p ?_;simp(maxSteps:=4000000) only[ZE,↓reduceIte,pE,pL,pA,pS,pM,pD,zN,qT,qG,qL,qH,qN,qB,qE,qO,qA,qM];refine zar.i r0 ?_;simp(maxSteps:=4000000) only[ZE,↓reduceIte,pE,pL,pA,pS,pM,pD,zN,qT,qG,qL,qH,qN,qB,qE,qO,qA,qM];refine EFn.p ?_;simp(maxSteps:=4000000) only[ZE,↓reduceIte,pE,pL,pA,pS,pM,pD,zN,qT,qG,qL,qH,qN,qB,qE,qO,qA,qM];refine zar.i r0 ?_;simp(maxSteps:=4000000) only[ZE,↓reduceIte,pE,pL,pA,pS,pM,pD,zN,qT,qG,qL,qH,qN,qB,qE,qO,qA,qM];refine EFn.p ?_;simp(maxSteps:=4000000) only[ZE,↓reduceIte,pE,pL,pA,pS,pM,pD,zN,qT,qG,qL,qH,qN,qB,qE,qO,qA,qM];refine zar.i fx ?_;simp(maxSteps:=4000000) only[ZE,↓reduceIte,pE,pL,pA,pS,pM,pD,zN,qT,qG,qL,qH,qN,qB,qE,qO,qA,qM];refine EFn.p ?_;simp(maxSteps:=4000000) only[ZE,↓reduceIte,pE,pL,pA,pS,pM,pD,zN,qT,qG,qL,qH,qN,qB,qE,qO,qA,qM];refine zar.i mb ?_;simp(maxSteps:=4000000) only[ZE,↓reduceIte,pE,pL,pA,pS,pM,pD,zN,qT,qG,qL,qH,qN,qB,qE,qO,qA,qM,List.length_map,pl];refine EFn.p ?_;simp(maxSteps:=4000000) only[ZE,↓reduceIte,pE,pL,pA,pS,pM,pD,zN,qT,qG,qL,qH,qN,qB,qE,qO,qA,qM];refine zar.i se1 ?_;simp(maxSteps:=4000000) only[ZE,↓reduceIte,pE,pL,pA,pS,pM,pD,zN,qT,qG,qL,qH,qN,qB,qE,qO,qA,qM];refine EFn.p ?_;simp(maxSteps:=4000000) only[ZE,↓reduceIte,pE,pL,pA,pS,pM,pD,zN,qT,qG,qL,qH,qN,qB,qE,qO,qA,qM];refine zar.i se2 ?_;simp(maxSteps:=4000000) only[ZE,↓reduceIte,pE,pL,pA,pS,pM,pD,zN,qT,qG,qL,qH,qN,qB,qE,qO,qA,qM]
end Go.Proofs.YtbenhdgpogiadaaGreat
