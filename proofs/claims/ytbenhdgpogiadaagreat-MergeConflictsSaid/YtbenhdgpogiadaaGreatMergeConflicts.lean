/-
 MergeConflicts: each place in conflict is changed by both sides, in different ways; or it is the head of a module that one side does not have, while the other side has one of its items at a place that it changed; without conflicts, no place is changed by both sides in different ways.
 Conditions: none.
-/
import Derived.Test.YtbenhdgpogiadaaGreatGL
import Derived.Test.YtbenhdgpogiadaaGreatK4
import Derived.Test.YtbenhdgpogiadaaGreatRows
import Derived.Test.YtbenhdgpogiadaaGreatGJf
import Derived.Test.YtbenhdgpogiadaaGreatK7
import Derived.Test.YtbenhdgpogiadaaGreatK8
set_option linter.unusedSimpArgs false
set_option linter.unusedVariables false
/-
 ARGUMENTS OF THE LAWS AS DATA.
-/
namespace Go.Proofs.YtbenhdgpogiadaaGreat
open Go.Aw Go.ChangeShapes Go.WideShapes Go.ChangeAt Go.RowKit
set_option maxRecDepth 100000
theorem own:ownKnob Tryz.prog.godebug=none:=by kernel_rfl
theorem zdF:laidOutB Tryz.prog=true:=by kernel_rfl
def zkM:ASh:=.agg [.int .u8,.int .u8,.sl [.int .u8]]
def shK2:ASh:=.agg [.int .u8,.int .u8]
def shK4:ASh:=.agg [.int .u8,.int .u8,.int .u8,.int .u8]
def shB:ASh:=.one (.sl [.int .u8])
theorem zsF{s t u:Sh}{ds:List D}(h:Sh.fitsL [s,t,u] ds): ∃a b c,ds=[a,b,c]/\s.fits a/\t.fits b/\u.fits c:=by
 simp only[Sh.fitsL]at h;obtain⟨a,r,rfl,h1,b,r2,rfl,h2,c,r3,rfl,h3,rfl⟩:=h;exact⟨a,b,c,rfl,h1,h2,h3⟩
theorem zk5{d:D}(h:Sh.fits (.sl [.int .u8]) d): ∃l:List Nat,d=zau l/\ ∀b∈l,b<256:=by
 obtain⟨l,rfl,hl⟩:=zgZ (enc:=fun b:Nat=>[eU8 b]) (p:=fun b=>b<256) (fun e he=>by
  obtain⟨x,rfl,hx⟩:=zjP he;obtain⟨n,rfl,hn⟩:=zeG hx;exact⟨n,rfl,hn⟩) h
 exact⟨l,rfl,hl⟩
theorem zhO{d:D}(h:zkM.fits d): ∃x:Raw,d=zew x/\x.ok:=by
 obtain⟨ds,rfl,h⟩:=h;obtain⟨a,b,c,rfl,h1,h2,h3⟩:=zsF h;obtain⟨k,rfl,hk⟩:=zeG h1;obtain⟨w,rfl,hw⟩:=zeG h2;obtain⟨l,rfl,hl⟩:=zk5 h3;exact⟨⟨k,w,l⟩,rfl,hk,hw,hl⟩
theorem jP1:laidOutB Tryz.prog=true:=zdF
theorem jP2:mapsRowed Tryz.prog=true:=by kernel_rfl
theorem jP6:(Tryz.prog.stops==[])=true:=by kernel_rfl
theorem jP8:(Tryz.prog.stopKnobs==[])=true:=by kernel_rfl
theorem jP24:Tryz.prog.stopsHeard=true:=by kernel_rfl
theorem jP25:Tryz.prog.mayEnter=true:=by kernel_rfl
def shPair:ASh:=.agg [.int .u8,.int .u8,.sl [.int .u8],.int .u8,.int .u8,.sl [.int .u8],.sl [.int .u8,.int .u8,.int .u8,.int .u8],.sl [.int .u8,.int .u8,.int .u8,.int .u8]]
def eZ2(x y:Raw)(l m:List K4):D:=.agg [eU8 x.kind,eU8 x.w,zau x.l,eU8 y.kind,eU8 y.w,zau y.l,.sl (l.map eK4),.sl (m.map eK4)]
def sh72:ASh:=.agg [.sl [.int .u8,.int .u8,.int .u8],.sl [.int .u8,.int .u8,.int .u8],.sl [.int .u8,.int .u8,.int .u8]]
theorem k3s_of{d:D}(h:Sh.fits (.sl [.int .u8,.int .u8,.int .u8]) d): ∃l:List K3,d= .sl (l.map eK3)/\ ∀k∈l,k.ok:=by
 obtain⟨l,rfl,hl⟩:=zgZ (enc:=eK3) (p:=K3.ok) (fun e0 h0=>by
  obtain⟨a,b,c,rfl,h1,h2,h3⟩:=zsF h0;obtain⟨a,rfl,ha⟩:=zeG h1;obtain⟨b,rfl,hb⟩:=zeG h2;obtain⟨c,rfl,hc⟩:=zeG h3;exact⟨⟨a,b,c⟩,rfl,ha,hb,hc⟩) h
 exact⟨l,rfl,hl⟩
theorem zz3{d:D}(h:sh72.fits d): ∃a b c,d=e72 a b c/\(∀k∈a,k.ok)/\(∀k∈b,k.ok)/\ ∀k∈c,k.ok:=by
 obtain⟨ds,rfl,h⟩:=h;obtain⟨a,b,c,rfl,h1,h2,h3⟩:=zsF h;obtain⟨a,rfl,ha⟩:=k3s_of h1;obtain⟨b,rfl,hb⟩:=k3s_of h2;obtain⟨c,rfl,hc⟩:=k3s_of h3;exact⟨a,b,c,rfl,ha,hb,hc⟩
open Go.Aw
open Nat renaming reduceEqDiff->pE,reduceLT->pL,reduceAdd->pA,reduceSub->pS,reduceMul->pM,reduceLeDiff->pD
open Int renaming reduceToNat->qT,reduceGT->qG,reduceLT->qL,reduceGE->qH,reduceBNe->qN,reduceBEq->qB,reduceLE->qE,reduceNe->qO,reduceAdd->qA,reduceNeg->qM
set_option maxHeartbeats 40000000
theorem got_l(b x y:List Module):(zbk b x y).l =zdy b x y:=by
 unfold zbk;by_cases h:zdy b x y=[]
 ·rw[if_neg (fun h'=>h' h),h]; split <;> rfl
 ·rw[if_pos h]
theorem got_e(b x y:List Module):((zbk b x y).e ==170)=decide (zdy b x y≠[]):=by
 unfold zbk;by_cases h:zdy b x y=[]
 ·rw[if_neg (fun h'=>h' h),decide_eq_false (fun h'=>h' h)]; split <;> rfl
 ·rw[if_pos h,decide_eq_true h]; rfl
theorem idx_head(l:List Module)(n:Str):decide (zgM (fun m:Module=>decide (m.name=n)) l<0)=decide (zbc l (zbB n)=none):=by
 rw[decide_eq_decide];have e:zbc l (zbB n)=none↔ ∀m∈l,m.name≠n:=by
  have:zbc l (zbB n)=(lkp Module.name l n).bind fun m=>some (hdM m):=rfl;rw[this,<-zlr (key:=Module.name)];cases lkp Module.name l n <;> simp
 rw[e];constructor
 ·intro h m hm;exact of_decide_eq_false (zrI h m hm)
 ·intro h;have:=zeO (p:=fun m:Module=>decide (m.name=n)) (l:=l) fun j hj=>decide_eq_false (h _ (List.getElem_mem hj));rw[this];decide
def hitQ(A K:List Place)(p:Place)(o t:Bool)(q:Place):Bool:=decide (q.module=p.module)&& !decide (q=p)&&(o&&decide (q∈K)||t&&decide (q∈A))
def zq5(A K C:List Place)(p:Place)(o t:Bool)(n:Nat):Bool:=(C.take n).any (hitQ A K p o t)
theorem confs_c(x:Raw)(hx:x.ok)(a b c:List K3)(ha: ∀k∈a,k.ok)(hb: ∀k∈b,k.ok)(hc: ∀k∈c,k.ok):FnP Tryz.prog 9 [zew x,e72 a b c] (.d (eB true)) []:=by
 refine FnP.of_eC (own:=[]) (fun i=>if i=2014 then [.ord ⟨[(0,none),(1,none),(2,none),(3,none),(4,none),(5,none),(6,none),(7,none),(8,none),(9,none),(10,none),(11,none),(12,none),(13,none),(14,none),(15,none),(16,none),(17,none),(18,some [])]⟩]else []) zat Tryz.func9 rfl Tryz.call9 Tryz.ntmps9 (Nat.le_of_ble_eq_true rfl) Tryz.results9 (fun hok=> ?_);have mk:=zpp x hx a b c ha hb hc;have gB:=(zmB x a).mono (k:=12) (by omega);have gX:=zli x a b;have gY:=zli x a c;obtain⟨B,hB⟩:=zX (zhA x a);obtain⟨X,hX⟩:=zX (zfc (zhA x a) b);obtain⟨Y,hY⟩:=zX (zfc (zhA x a) c);rw[hX]at gX;rw[hY]at gY;rw[hX,hY]at mk;rw[hB]at mk gB;have m1:=zhL (by omega) gB gX gY;have gb:=gB.gs (by omega);have gx:=gX.gs (by omega);have gy:=gY.gs (by omega);have pa:=zij gb gx;have pb:=zij gb gy;have pc:=zij gx gy;have lc:=zz4 gx gy;have ll:=got_len gb gx gy;have both:=fun p=>conf_both gB.fl gX.fl gY.fl (p:=p);have why:=fun p=>conf_why gB.fl gX.fl gY.fl (p:=p);have ge:=got_e B X Y;have gl:=got_l B X Y;have ih1:=fun n=>idx_head X n;have ih2:=fun n=>idx_head Y n;have fc1:=fun n=>zxz X n;have fc2:=fun n=>zxz Y n;obtain⟨A,hA⟩:=zX (zc0 B X);obtain⟨K,hK⟩: ∃A,zc0 B Y=A:=⟨_,rfl⟩;obtain⟨C,hC⟩: ∃A,zc0 X Y=A:=⟨_,rfl⟩;rw[hA]at pa;rw[hK]at pb;rw[hC]at pc lc;simp only[hA,hK,hC]at both why;obtain⟨f,hf⟩:=zX ((zbk B X Y).f);obtain⟨e,he⟩:=zX ((zbk B X Y).e);obtain⟨L,hL⟩:=zX (zdy B X Y);rw[hL]at gl ge;rw[gl]at ll;simp only[hL]at both why;unfold eGot at m1;rw[hf,gl,he]at m1;rw[he]at ge;obtain⟨q,hq⟩:=zX (decide (L≠[]));rw[hq]at ge;have hg:decide ((L.length:Int)>0)=q:=by
  rw[<-hq,decide_eq_decide,<-List.length_pos_iff]; omega
 have hg':decide (0<(L.length:Int))=q:=hg;simp only[zp7]at pa pb pc;simp(maxSteps:=4000000) only[ZE,↓reduceIte,pE,pL,pA,pS,pM,pD,zew,e72]at mk;simp(maxSteps:=4000000) only[ZE,↓reduceIte,pE,pL,pA,pS,pM,pD]at m1 pa pb pc;simp(maxSteps:=4000000) only[ZE,↓reduceIte,pE,pL,pA,pS,pM,pD,zN,qT,qG,qL,qH,qN,qB,qE,qO,qA,qM,zew,e72];refine EFn.p ?_;simp(maxSteps:=4000000) only[ZE,↓reduceIte,pE,pL,pA,pS,pM,pD,zN,qT,qG,qL,qH,qN,qB,qE,qO,qA,qM];refine zar.i zez ?_;simp(maxSteps:=4000000) only[ZE,↓reduceIte,pE,pL,pA,pS,pM,pD,zN,qT,qG,qL,qH,qN,qB,qE,qO,qA,qM];refine EFn.p ?_;simp(maxSteps:=4000000) only[ZE,↓reduceIte,pE,pL,pA,pS,pM,pD,zN,qT,qG,qL,qH,qN,qB,qE,qO,qA,qM];refine zar.i mk ?_;simp(maxSteps:=4000000) only[ZE,↓reduceIte,pE,pL,pA,pS,pM,pD,zN,qT,qG,qL,qH,qN,qB,qE,qO,qA,qM];refine EFn.p ?_;simp(maxSteps:=4000000) only[ZE,↓reduceIte,pE,pL,pA,pS,pM,pD,zN,qT,qG,qL,qH,qN,qB,qE,qO,qA,qM];refine zar.i m1 ?_;simp(maxSteps:=4000000) only[ZE,↓reduceIte,pE,pL,pA,pS,pM,pD,zN,qT,qG,qL,qH,qN,qB,qE,qO,qA,qM];refine EFn.p ?_;simp(maxSteps:=4000000) only[ZE,↓reduceIte,pE,pL,pA,pS,pM,pD,zN,qT,qG,qL,qH,qN,qB,qE,qO,qA,qM];refine zar.i pa ?_;simp(maxSteps:=4000000) only[ZE,↓reduceIte,pE,pL,pA,pS,pM,pD,zN,qT,qG,qL,qH,qN,qB,qE,qO,qA,qM];refine EFn.p ?_;simp(maxSteps:=4000000) only[ZE,↓reduceIte,pE,pL,pA,pS,pM,pD,zN,qT,qG,qL,qH,qN,qB,qE,qO,qA,qM];refine zar.i pb ?_;simp(maxSteps:=4000000) only[ZE,↓reduceIte,pE,pL,pA,pS,pM,pD,zN,qT,qG,qL,qH,qN,qB,qE,qO,qA,qM];refine EFn.p ?_;simp(maxSteps:=4000000) only[ZE,↓reduceIte,pE,pL,pA,pS,pM,pD,zN,qT,qG,qL,qH,qN,qB,qE,qO,qA,qM];refine zar.i pc ?_;simp(maxSteps:=4000000) only[ZE,↓reduceIte,pE,pL,pA,pS,pM,pD,zN,qT,qG,qL,qH,qN,qB,qE,qO,qA,qM,ge,hg,hg',List.length_map,bne_self_eq_false];refine za1 (fun i=>if i=2014 then [.ord ⟨[(0,none),(1,none),(2,none),(3,none),(4,none),(5,none),(6,none),(7,none),(8,none),(9,none),(10,none),(11,none),(12,none),(13,none),(14,none),(15,none),(16,none),(17,none),(18,some [])]⟩]else []) zat C.length (fun _=>True) (fun i=>([(5,.d (eB true)),(6,.bp 6 0),(7,.bp 7 0),(8,.bp 8 0),(9,.bp 9 0),(10,.bp 10 0),(11,.d (eI i))],[(6,.box [.d (zax B),.d (zax X),.d (zax Y)]),(7,.box [.d (zax f),.d (.sl (L.map zaE)),.d (eI e)]),(8,.box [.d (.sl (A.map zaE)),.d (eI 0)]),(9,.box [.d (.sl (K.map zaE)),.d (eI 0)]),(10,.box [.d (.sl (C.map zaE)),.d (eI 0)])])) trivial ?_ ?_ (fun i hi _=> ?_)
 ·simp(maxSteps:=4000000) only[ZE,↓reduceIte,pE,pL,pA,pS,pM,pD]
 ·simp(maxSteps:=4000000) only[ZE,↓reduceIte,pE,pL,pA,pS,pM,pD]
 rcases Nat.lt_or_ge i C.length with h | h
 ·have hw:=zaq (show i<9223372036854775807 by omega);obtain⟨p,hp⟩:=zX (C[i]);have hpm:p∈C:=hp▸List.getElem_mem h;have c1:=zpa A p;have c2:=zpa K p;have c3:=zpa L p;simp(maxSteps:=4000000) only[ZE,↓reduceIte,pE,pL,pA,pS,pM,pD,zaE]at c1 c2 c3;by_cases q1:p∈A
  ·rw[decide_eq_true q1]at c1;by_cases q2:p∈K
   ·rw[decide_eq_true q2]at c2;rw[decide_eq_true (both p q1 q2 hpm)]at c3;simp(maxSteps:=4000000) only[ZE,↓reduceIte,pE,pL,pA,pS,pM,pD,zaw h,zai h,zaa h,hp,zN,qT,qG,qL,qH,qN,qB,qE,qO,qA,qM,List.length_map,zaE,hw];refine⟨by kernel_rfl,zaz.i c1 ?_⟩;simp(maxSteps:=4000000) only[ZE,↓reduceIte,pE,pL,pA,pS,pM,pD,zN,qT,qG,qL,qH,qN,qB,qE,qO,qA,qM,List.length_map,zaE,hw,zai h,zaa h,hp];refine zaz.i c2 ?_;simp(maxSteps:=4000000) only[ZE,↓reduceIte,pE,pL,pA,pS,pM,pD,zN,qT,qG,qL,qH,qN,qB,qE,qO,qA,qM,List.length_map,zaE,hw,zai h,zaa h,hp];refine⟨by kernel_rfl,zaz.i c3 ?_⟩;simp(maxSteps:=4000000) only[ZE,↓reduceIte,pE,pL,pA,pS,pM,pD,zN,qT,qG,qL,qH,qN,qB,qE,qO,qA,qM,List.length_map,zaE,hw];exact h
   ·rw[decide_eq_false q2]at c2;simp(maxSteps:=4000000) only[ZE,↓reduceIte,pE,pL,pA,pS,pM,pD,zaw h,zai h,zaa h,hp,zN,qT,qG,qL,qH,qN,qB,qE,qO,qA,qM,List.length_map,zaE,hw];refine⟨by kernel_rfl,zaz.i c1 ?_⟩;simp(maxSteps:=4000000) only[ZE,↓reduceIte,pE,pL,pA,pS,pM,pD,zN,qT,qG,qL,qH,qN,qB,qE,qO,qA,qM,List.length_map,zaE,hw,zai h,zaa h,hp];refine zaz.i c2 ?_;simp(maxSteps:=4000000) only[ZE,↓reduceIte,pE,pL,pA,pS,pM,pD,zN,qT,qG,qL,qH,qN,qB,qE,qO,qA,qM,List.length_map,zaE,hw,zai h,zaa h,hp];exact⟨by kernel_rfl,h⟩
  ·rw[decide_eq_false q1]at c1;simp(maxSteps:=4000000) only[ZE,↓reduceIte,pE,pL,pA,pS,pM,pD,zaw h,zai h,zaa h,hp,zN,qT,qG,qL,qH,qN,qB,qE,qO,qA,qM,List.length_map,zaE,hw];refine⟨by kernel_rfl,zaz.i c1 ?_⟩;simp(maxSteps:=4000000) only[ZE,↓reduceIte,pE,pL,pA,pS,pM,pD,zN,qT,qG,qL,qH,qN,qB,qE,qO,qA,qM,List.length_map,zaE,hw,zai h,zaa h,hp];exact⟨by kernel_rfl,h⟩
 have:i=C.length:=by omega
 subst this;simp(maxSteps:=4000000) only[ZE,↓reduceIte,pE,pL,pA,pS,pM,pD,zaI h,zN,qT,qG,qL,qH,qN,qB,qE,qO,qA,qM,List.length_map];refine za1 (fun i=>if i=2021 then [.chn]else []) zat L.length (fun _=>True) (fun i=>([(5,.d (eB true)),(6,.bp 6 0),(7,.bp 7 0),(8,.bp 8 0),(9,.bp 9 0),(10,.bp 10 0),(13,.d (eI i))],[(6,.box [.d (zax B),.d (zax X),.d (zax Y)]),(7,.box [.d (zax f),.d (.sl (L.map zaE)),.d (eI e)]),(8,.box [.d (.sl (A.map zaE)),.d (eI 0)]),(9,.box [.d (.sl (K.map zaE)),.d (eI 0)]),(10,.box [.d (.sl (C.map zaE)),.d (eI 0)])])) trivial ?_ ?_ (fun i hi _=> ?_)
 ·simp(maxSteps:=4000000) only[ZE,↓reduceIte,pE,pL,pA,pS,pM,pD]
 ·simp(maxSteps:=4000000) only[ZE,↓reduceIte,pE,pL,pA,pS,pM,pD]
 rcases Nat.lt_or_ge i L.length with h | h
 ·have hw:=zaq (show i<9223372036854775807 by omega);obtain⟨p,hp⟩:=zX (L[i]);have hpm:p∈L:=hp▸List.getElem_mem h;have c1:=zpa A p;have c2:=zpa K p;have c3:=zpa C p;have w:=why p hpm;have i1:=ih1 p.module;have i2:=ih2 p.module;have f1:=fc1 p.module;have f2:=fc2 p.module;obtain⟨z1,hz1⟩: ∃z,zgM (fun m:Module=>decide (m.name=p.module)) X=z:=⟨_,rfl⟩;obtain⟨z2,hz2⟩: ∃z,zgM (fun m:Module=>decide (m.name=p.module)) Y=z:=⟨_,rfl⟩;rw[hz1]at i1 f1;rw[hz2]at i2 f2;obtain⟨o,ho⟩:=zX (decide (zbc X (zbB p.module)=none));obtain⟨t,ht⟩: ∃o,decide (zbc Y (zbB p.module)=none)=o:=⟨_,rfl⟩;rw[ho]at i1;rw[ht]at i2;have hfi: ¬(p∈A/\p∈K/\p∈C)->p.part=zc7/\(o==t)=false/\zq5 A K C p o t C.length=true:=fun hn=>by
   obtain⟨w1,q,hqC,hqm,hqp,hq⟩:=w hn;refine⟨w1,?_,?_⟩
   ·rcases hq with⟨e1,e2,_⟩ | ⟨e1,e2,_⟩
    ·rw[<-ho,<-ht,decide_eq_true e1,decide_eq_false e2]; rfl
    ·rw[<-ho,<-ht,decide_eq_true e1,decide_eq_false e2]; rfl
   ·unfold zq5;rw[List.take_length,List.any_eq_true];refine⟨q,hqC,?_⟩;unfold hitQ;rcases hq with⟨e1,_,e3⟩ | ⟨e1,_,e3⟩
    ·rw[<-ho,decide_eq_true e1,decide_eq_true e3,decide_eq_true hqm,decide_eq_false hqp]; rfl
    ·rw[<-ht,decide_eq_true e1,decide_eq_true e3,decide_eq_true hqm,decide_eq_false hqp]; simp
  simp(maxSteps:=4000000) only[ZE,↓reduceIte,pE,pL,pA,pS,pM,pD,zaE]at c1 c2 c3;simp(maxSteps:=4000000) only[ZE,↓reduceIte,pE,pL,pA,pS,pM,pD]at f1 f2;by_cases q1:p∈A/\p∈K/\p∈C
  ·rw[decide_eq_true q1.1]at c1;rw[decide_eq_true q1.2.1]at c2;rw[decide_eq_true q1.2.2]at c3;simp(maxSteps:=4000000) only[ZE,↓reduceIte,pE,pL,pA,pS,pM,pD,zaw h,zai h,zaa h,hp,zN,qT,qG,qL,qH,qN,qB,qE,qO,qA,qM,List.length_map,zaE,hw];refine EFn.p ?_;simp(maxSteps:=4000000) only[ZE,↓reduceIte,pE,pL,pA,pS,pM,pD,zN,qT,qG,qL,qH,qN,qB,qE,qO,qA,qM,List.length_map,zaE];refine zar.i c1 ?_;simp(maxSteps:=4000000) only[ZE,↓reduceIte,pE,pL,pA,pS,pM,pD,zN,qT,qG,qL,qH,qN,qB,qE,qO,qA,qM,List.length_map,zaE];refine za3.i (fun _=>c2) ?_;simp(maxSteps:=4000000) only[ZE,↓reduceIte,pE,pL,pA,pS,pM,pD,zN,qT,qG,qL,qH,qN,qB,qE,qO,qA,qM,List.length_map,zaE];refine za3.i (fun _=>c3) ?_;simp(maxSteps:=4000000) only[ZE,↓reduceIte,pE,pL,pA,pS,pM,pD,zN,qT,qG,qL,qH,qN,qB,qE,qO,qA,qM,List.length_map,zaE,hw];exact h
  obtain⟨e1,e2,e3⟩:=hfi q1;have hzp:=zpart_eqB p.part;rw[decide_eq_true e1]at hzp;have hv:(decide (p∈A)&&decide (p∈K)&&decide (p∈C))=false:=by
   rw[<-Bool.not_eq_true]; simp only[Bool.and_eq_true,decide_eq_true_eq]; exact fun hh=>q1 ⟨hh.1.1,hh.1.2,hh.2⟩
  obtain⟨d1,hd1⟩: ∃d,decide (p∈A)=d:=⟨_,rfl⟩;obtain⟨d2,hd2⟩: ∃d,decide (p∈K)=d:=⟨_,rfl⟩;obtain⟨d3,hd3⟩: ∃d,decide (p∈C)=d:=⟨_,rfl⟩;rw[hd1]at c1 hv;rw[hd2]at c2 hv;rw[hd3]at c3 hv;simp(maxSteps:=4000000) only[ZE,↓reduceIte,pE,pL,pA,pS,pM,pD,zaw h,zai h,zaa h,hp,zN,qT,qG,qL,qH,qN,qB,qE,qO,qA,qM,List.length_map,zaE,hw];refine EFn.p ?_;simp(maxSteps:=4000000) only[ZE,↓reduceIte,pE,pL,pA,pS,pM,pD,zN,qT,qG,qL,qH,qN,qB,qE,qO,qA,qM,List.length_map,zaE];refine zar.i c1 ?_;simp(maxSteps:=4000000) only[ZE,↓reduceIte,pE,pL,pA,pS,pM,pD,zN,qT,qG,qL,qH,qN,qB,qE,qO,qA,qM,List.length_map,zaE];refine za3.i (fun _=>c2) ?_;simp(maxSteps:=4000000) only[ZE,↓reduceIte,pE,pL,pA,pS,pM,pD,zN,qT,qG,qL,qH,qN,qB,qE,qO,qA,qM,List.length_map,zaE];refine za3.i (fun _=>c3) ?_;simp(maxSteps:=4000000) only[ZE,↓reduceIte,pE,pL,pA,pS,pM,pD,zN,qT,qG,qL,qH,qN,qB,qE,qO,qA,qM,List.length_map,zaE,hv];refine EFn.p ?_;simp(maxSteps:=4000000) only[ZE,↓reduceIte,pE,pL,pA,pS,pM,pD,zN,qT,qG,qL,qH,qN,qB,qE,qO,qA,qM,List.length_map,zaE];refine zar.i f1 ?_;simp(maxSteps:=4000000) only[ZE,↓reduceIte,pE,pL,pA,pS,pM,pD,zN,qT,qG,qL,qH,qN,qB,qE,qO,qA,qM,List.length_map,zaE,i1];refine EFn.p ?_;simp(maxSteps:=4000000) only[ZE,↓reduceIte,pE,pL,pA,pS,pM,pD,zN,qT,qG,qL,qH,qN,qB,qE,qO,qA,qM,List.length_map,zaE];refine zar.i f2 ?_;simp(maxSteps:=4000000) only[ZE,↓reduceIte,pE,pL,pA,pS,pM,pD,zN,qT,qG,qL,qH,qN,qB,qE,qO,qA,qM,List.length_map,zaE,i2];refine za1 (fun i=>if i=2028 then [.chn,.ord ⟨[(0,none),(1,none),(2,none),(3,none),(4,none),(5,none),(6,none),(7,none),(8,none),(9,none),(10,none),(11,none),(12,none),(13,none),(14,none),(15,none),(16,none),(17,none),(18,some [])]⟩]else if i=2029 then [.chn,.ord ⟨[(0,none),(1,none),(2,none),(3,none),(4,none),(5,none),(6,none),(7,none),(8,none),(9,none),(10,none),(11,none),(12,none),(13,none),(14,none),(15,none),(16,none),(17,none),(18,none),(19,none),(20,none),(21,none),(22,none),(23,none),(24,none),(25,none),(26,none),(27,none),(28,none),(29,none),(30,some [])]⟩]else []) zat C.length (fun _=>True) (fun n=>([(5,.d (eB true)),(6,.bp 6 0),(7,.bp 7 0),(8,.bp 8 0),(9,.bp 9 0),(10,.bp 10 0),(13,.d (eI i)),(14,.bp 14 0),(15,.d (eB o)),(16,.d (eB t)),(17,.d (eB (zq5 A K C p o t n))),(18,.d (eI n))],[(6,.box [.d (zax B),.d (zax X),.d (zax Y)]),(7,.box [.d (zax f),.d (.sl (L.map zaE)),.d (eI e)]),(8,.box [.d (.sl (A.map zaE)),.d (eI 0)]),(9,.box [.d (.sl (K.map zaE)),.d (eI 0)]),(10,.box [.d (.sl (C.map zaE)),.d (eI 0)]),(14,.box [.d (eS p.module),.d (eI p.part.kind.1),.d (eS p.part.name)])])) trivial ?_ ?_ (fun n hn _=> ?_)
  ·simp(maxSteps:=4000000) only[ZE,↓reduceIte,pE,pL,pA,pS,pM,pD,zq5,List.take_zero,List.any_nil]
  ·simp(maxSteps:=4000000) only[ZE,↓reduceIte,pE,pL,pA,pS,pM,pD]
  rcases Nat.lt_or_ge n C.length with h' | h'
  ·have hw':=zaq (show n<9223372036854775807 by omega);obtain⟨q,hq'⟩: ∃p,C[n]=p:=⟨_,rfl⟩;have k1:=zpa K q;have k2:=zpa A q;have pe:=zhN q p;have fs:zq5 A K C p o t (n+1)=(zq5 A K C p o t n||hitQ A K p o t q):=by
    unfold zq5;rw[List.take_succ_eq_append_getElem h',List.any_append,hq']; simp
   obtain⟨F,hF⟩:=zX (zq5 A K C p o t n);rw[hF]at fs;unfold hitQ at fs;simp(maxSteps:=4000000) only[ZE,↓reduceIte,pE,pL,pA,pS,pM,pD,zaE]at k1 k2;rw[fs,hF];simp(maxSteps:=4000000) only[ZE,↓reduceIte,pE,pL,pA,pS,pM,pD,zaw h',zai h',zaa h',hq',zN,qT,qG,qL,qH,qN,qB,qE,qO,qA,qM,List.length_map,zaE,hw',pe];refine⟨by kernel_rfl,by kernel_rfl,?_⟩;refine za3.i (fun _=>k1) ?_;simp(maxSteps:=4000000) only[ZE,↓reduceIte,pE,pL,pA,pS,pM,pD,zaw h',zai h',zaa h',hq',zN,qT,qG,qL,qH,qN,qB,qE,qO,qA,qM,List.length_map,zaE,hw'];refine za3.i (fun _=>k2) ?_;simp(maxSteps:=4000000) only[ZE,↓reduceIte,pE,pL,pA,pS,pM,pD,zaw h',zai h',zaa h',hq',zN,qT,qG,qL,qH,qN,qB,qE,qO,qA,qM,List.length_map,zaE,hw'];exact h'
  ·have:n=C.length:=by omega
   subst this;simp(maxSteps:=4000000) only[ZE,↓reduceIte,pE,pL,pA,pS,pM,pD,zaI h',zN,qT,qG,qL,qH,qN,qB,qE,qO,qA,qM,List.length_map,zaE,e2,e3,hzp,hw];exact h
 ·have:i=L.length:=by omega
  subst this;simp(maxSteps:=4000000) only[ZE,↓reduceIte,pE,pL,pA,pS,pM,pD,zaI h,zN,qT,qG,qL,qH,qN,qB,qE,qO,qA,qM,List.length_map]
theorem confs_lifted(os:Os)(started:os.Started)(H:Type)(enc:TypeId×Value->H):
  ReturnsInHanded {} Tryz.checked os 9 .any (Rows.mergeConflictsSpec.pre6 enc Tryz.prog Tryz.f9 Rows.mergeConflictsRow.domain false) (Rows.mergeConflictsSpec.post enc Tryz.prog Tryz.f9 false true false false):=by
 refine returnsInHanded_of_change (C:=Tryz.checked) own started (by kernel_rfl) Tryz.func9
  (ChangeSpec.witness6 (enc:=enc) (C:=Tryz.checked) false ⟨#[],#[.agg #[.int .u8 0,.int .u8 0,.slice none 0 0],.agg #[.slice none 0 0,.slice none 0 0,.slice none 0 0]],[]⟩ 8 (by kernel_rfl) (by kernel_rfl) (by kernel_rfl) (by kernel_rfl)) ?_
 intro W base args ds gs before hval hW _ _;refine zdL (P:=Tryz.prog) (n:=8) (ss:=[zkM,sh72]) zdF (of_decide_eq_true (by kernel_rfl)) (tb:=4) (by kernel_rfl) Tryz.underlying4 (by kernel_rfl) rfl hval hW (fun hl=> ?_) (fun Ds hD _=> ?_)
 ·match ds,hl with
  | [_,_],_=>rfl
 ·obtain⟨a,b,rfl,ha,hb⟩:=zlb hD;obtain⟨x,rfl,hx⟩:=zhO ha;obtain⟨k0,k1,k2,rfl,h0,h1,h2⟩:=zz3 hb;exact confs_c x hx k0 k1 k2 h0 h1 h2
theorem confs_j0:jG0 Tryz.prog 9 Tryz.f9 Rows.mergeConflictsSpec Rows.mergeConflictsRow=true:=by kernel_rfl
theorem confs_j1:jG1 Tryz.prog 9 Tryz.f9 Rows.mergeConflictsSpec Rows.mergeConflictsRow=true:=by kernel_rfl
theorem confs_j2:jG2 Tryz.prog 9 Tryz.f9 Rows.mergeConflictsSpec Rows.mergeConflictsRow=true:=by kernel_rfl
theorem confs_j3:jG3 Tryz.prog 9 Tryz.f9 Rows.mergeConflictsSpec Rows.mergeConflictsRow=true:=by kernel_rfl
theorem confs_j4:jG4 Tryz.prog 9 Tryz.f9 Rows.mergeConflictsSpec Rows.mergeConflictsRow=true:=by kernel_rfl
theorem confs_j5:jG5 Tryz.prog 9 Tryz.f9 Rows.mergeConflictsSpec Rows.mergeConflictsRow=true:=by kernel_rfl
theorem confs_j6:jG6 Tryz.prog 9 Tryz.f9 Rows.mergeConflictsSpec Rows.mergeConflictsRow=true:=by kernel_rfl
theorem confs_j7:jG7 Tryz.prog 9 Tryz.f9 Rows.mergeConflictsSpec Rows.mergeConflictsRow=true:=by kernel_rfl
theorem confs_j8:jG8 Tryz.prog 9 Tryz.f9 Rows.mergeConflictsSpec Rows.mergeConflictsRow=true:=by kernel_rfl
theorem confs_j:joinedFacts Tryz.prog 9 Tryz.f9 Rows.mergeConflictsSpec Rows.mergeConflictsRow=true:=ziO jP1 jP2 jP6 jP8 jP24 jP25 confs_j0 confs_j1 confs_j2 confs_j3 confs_j4 confs_j5 confs_j6 confs_j7 confs_j8
theorem confs_holds:Rows.MergeConflictsSaid:=
 OpenClaim.holds_of_wide 9 Tryz.f9 rfl rfl rfl rfl rfl rfl rfl ⟨rfl,rfl,rfl,rfl,rfl⟩ rfl rfl rfl rfl rfl (by kernel_rfl) Tryz.func9 confs_j
  (of_decide_eq_true (by kernel_rfl)) (by unfold Func.isWrapper; first | (rw[if_pos (by decide+kernel)]; kernel_rfl) | (rw[if_neg (by decide+kernel)]; exact⟨rfl,rfl⟩))
  (fun os started H enc _=>confs_lifted os started H enc)
end Go.Proofs.YtbenhdgpogiadaaGreat
