/-
 MergeProvenance: the merged file differs from the base exactly at the places that a side changed, and differs at a place from a side only if the other side changed it.
 Conditions: none.
-/
import Derived.Test.YtbenhdgpogiadaaGreatGL
import Derived.Test.YtbenhdgpogiadaaGreatK4
import Derived.Test.YtbenhdgpogiadaaGreatRows
import Derived.Test.YtbenhdgpogiadaaGreatGJf
import Derived.Test.YtbenhdgpogiadaaGreatK7
import Derived.Test.YtbenhdgpogiadaaGreatK8
import Derived.Test.YtbenhdgpogiadaaGreatK5
set_option linter.unusedSimpArgs false
set_option linter.unusedVariables false
/-
 ARGUMENTS OF THE LAWS AS DATA.
-/
namespace Go.Proofs.YtbenhdgpogiadaaGreat
open Go.Aw Go.ChangeShapes Go.WideShapes Go.ChangeAt Go.RowKit
set_option maxRecDepth 100000
theorem own:ownKnob Tryz.prog.godebug=none:=by kernel_rfl
theorem zdF:laidOutB Tryz.prog=true:=by kernel_rfl
def zkM:ASh:=.agg [.int .u8,.int .u8,.sl [.int .u8]]
def shK2:ASh:=.agg [.int .u8,.int .u8]
def shK4:ASh:=.agg [.int .u8,.int .u8,.int .u8,.int .u8]
def shB:ASh:=.one (.sl [.int .u8])
theorem zsF{s t u:Sh}{ds:List D}(h:Sh.fitsL [s,t,u] ds): ∃a b c,ds=[a,b,c]/\s.fits a/\t.fits b/\u.fits c:=by
 simp only[Sh.fitsL]at h;obtain⟨a,r,rfl,h1,b,r2,rfl,h2,c,r3,rfl,h3,rfl⟩:=h;exact⟨a,b,c,rfl,h1,h2,h3⟩
theorem zk5{d:D}(h:Sh.fits (.sl [.int .u8]) d): ∃l:List Nat,d=zau l/\ ∀b∈l,b<256:=by
 obtain⟨l,rfl,hl⟩:=zgZ (enc:=fun b:Nat=>[eU8 b]) (p:=fun b=>b<256) (fun e he=>by
  obtain⟨x,rfl,hx⟩:=zjP he;obtain⟨n,rfl,hn⟩:=zeG hx;exact⟨n,rfl,hn⟩) h
 exact⟨l,rfl,hl⟩
theorem zhO{d:D}(h:zkM.fits d): ∃x:Raw,d=zew x/\x.ok:=by
 obtain⟨ds,rfl,h⟩:=h;obtain⟨a,b,c,rfl,h1,h2,h3⟩:=zsF h;obtain⟨k,rfl,hk⟩:=zeG h1;obtain⟨w,rfl,hw⟩:=zeG h2;obtain⟨l,rfl,hl⟩:=zk5 h3;exact⟨⟨k,w,l⟩,rfl,hk,hw,hl⟩
theorem jP1:laidOutB Tryz.prog=true:=zdF
theorem jP2:mapsRowed Tryz.prog=true:=by kernel_rfl
theorem jP6:(Tryz.prog.stops==[])=true:=by kernel_rfl
theorem jP8:(Tryz.prog.stopKnobs==[])=true:=by kernel_rfl
theorem jP24:Tryz.prog.stopsHeard=true:=by kernel_rfl
theorem jP25:Tryz.prog.mayEnter=true:=by kernel_rfl
def shPair:ASh:=.agg [.int .u8,.int .u8,.sl [.int .u8],.int .u8,.int .u8,.sl [.int .u8],.sl [.int .u8,.int .u8,.int .u8,.int .u8],.sl [.int .u8,.int .u8,.int .u8,.int .u8]]
def eZ2(x y:Raw)(l m:List K4):D:=.agg [eU8 x.kind,eU8 x.w,zau x.l,eU8 y.kind,eU8 y.w,zau y.l,.sl (l.map eK4),.sl (m.map eK4)]
def sh72:ASh:=.agg [.sl [.int .u8,.int .u8,.int .u8],.sl [.int .u8,.int .u8,.int .u8],.sl [.int .u8,.int .u8,.int .u8]]
theorem k3s_of{d:D}(h:Sh.fits (.sl [.int .u8,.int .u8,.int .u8]) d): ∃l:List K3,d= .sl (l.map eK3)/\ ∀k∈l,k.ok:=by
 obtain⟨l,rfl,hl⟩:=zgZ (enc:=eK3) (p:=K3.ok) (fun e0 h0=>by
  obtain⟨a,b,c,rfl,h1,h2,h3⟩:=zsF h0;obtain⟨a,rfl,ha⟩:=zeG h1;obtain⟨b,rfl,hb⟩:=zeG h2;obtain⟨c,rfl,hc⟩:=zeG h3;exact⟨⟨a,b,c⟩,rfl,ha,hb,hc⟩) h
 exact⟨l,rfl,hl⟩
theorem zz3{d:D}(h:sh72.fits d): ∃a b c,d=e72 a b c/\(∀k∈a,k.ok)/\(∀k∈b,k.ok)/\ ∀k∈c,k.ok:=by
 obtain⟨ds,rfl,h⟩:=h;obtain⟨a,b,c,rfl,h1,h2,h3⟩:=zsF h;obtain⟨a,rfl,ha⟩:=k3s_of h1;obtain⟨b,rfl,hb⟩:=k3s_of h2;obtain⟨c,rfl,hc⟩:=k3s_of h3;exact⟨a,b,c,rfl,ha,hb,hc⟩
open Go.Aw
set_option maxHeartbeats 40000000
theorem ztq(b x y:List Module):(zdy b x y=[]/\zbi (zbA b x y)=true/\zbk b x y=⟨zbA b x y,[],0⟩)\/((zbk b x y).e !=0)=true:=by
 unfold zbk;by_cases h:zdy b x y=[]
 ·rw[if_neg (fun h'=>h' h)];cases hv:zbi (zbA b x y)with
  | true=>exact .inl ⟨h,rfl,by rw[if_pos rfl]⟩
  | false=>right; rw[if_neg Bool.false_ne_true]; rfl
 ·right; rw[if_pos h]; rfl
open Nat renaming reduceEqDiff->pE,reduceLT->pL,reduceAdd->pA,reduceSub->pS,reduceMul->pM,reduceLeDiff->pD
open Int renaming reduceToNat->qT,reduceGT->qG,reduceLT->qL,reduceGE->qH,reduceBNe->qN,reduceBEq->qB,reduceLE->qE,reduceNe->qO,reduceAdd->qA,reduceNeg->qM
theorem prov_c(x:Raw)(hx:x.ok)(a b c:List K3)(ha: ∀k∈a,k.ok)(hb: ∀k∈b,k.ok)(hc: ∀k∈c,k.ok):FnP Tryz.prog 8 [zew x,e72 a b c] (.d (eB true)) []:=by
 refine FnP.of_eC (own:=[]) (fun i=>[]) zat Tryz.func8 rfl Tryz.call8 Tryz.ntmps8 (Nat.le_of_ble_eq_true rfl) Tryz.results8 (fun hok=> ?_);have mk:=zpp x hx a b c ha hb hc;have gB:=(zmB x a).mono (k:=12) (by omega);have gX:=zli x a b;have gY:=zli x a c;obtain⟨B,hB⟩:=zX (zhA x a);obtain⟨X,hX⟩:=zX (zfc (zhA x a) b);obtain⟨Y,hY⟩:=zX (zfc (zhA x a) c);rw[hX]at gX;rw[hY]at gY;rw[hX,hY]at mk;rw[hB]at mk gB;have m1:=zhL (by omega) gB gX gY;simp(maxSteps:=4000000) only[ZE,↓reduceIte,pE,pL,pA,pS,pM,pD,zew,e72]at mk;rcases ztq B X Y with⟨h1,h2,h3⟩ | h
 ·have gM:=gs_merged (by omega) gB gX gY h1;have p1:=fun p=>prov_from gB.fl gX.fl gY.fl h1 (p:=p);have p2:=fun p=>prov_ours gB.fl gX.fl gY.fl h1 (p:=p);have p3:=fun p=>prov_theirs gB.fl gX.fl gY.fl h1 (p:=p);rw[h3]at m1;obtain⟨M,hM⟩:=zX (zbA B X Y);rw[hM]at gM p1 p2 p3 m1;have gb:=gB.gs (by omega);have gx:=gX.gs (by omega);have gy:=gY.gs (by omega);have pa:=zij gb gx;have pb:=zij gb gy;have pc:=zij gb gM;have pd:=zij gx gM;have pe:=zij gy gM;have la:=zz4 gb gx;have lb:=zz4 gb gy;have lc:=zz4 gb gM;obtain⟨A,hA⟩:=zX (zc0 B X);obtain⟨K,hK⟩: ∃A,zc0 B Y=A:=⟨_,rfl⟩;obtain⟨C,hC⟩: ∃A,zc0 B M=A:=⟨_,rfl⟩;obtain⟨E,hE⟩: ∃A,zc0 X M=A:=⟨_,rfl⟩;obtain⟨H,hH⟩: ∃A,zc0 Y M=A:=⟨_,rfl⟩;rw[hA]at pa la p1 p2;rw[hK]at pb lb p1 p3;rw[hC]at pc lc p1 p2 p3;rw[hE]at pd p2;rw[hH]at pe p3;simp only[eGot,zp7,List.map_nil]at m1 pa pb pc pd pe;simp(maxSteps:=4000000) only[ZE,↓reduceIte,pE,pL,pA,pS,pM,pD]at m1 pa pb pc pd pe;simp(maxSteps:=4000000) only[ZE,↓reduceIte,pE,pL,pA,pS,pM,pD,zN,qT,qG,qL,qH,qN,qB,qE,qO,qA,qM,zew,e72];refine EFn.p ?_;simp(maxSteps:=4000000) only[ZE,↓reduceIte,pE,pL,pA,pS,pM,pD,zN,qT,qG,qL,qH,qN,qB,qE,qO,qA,qM];refine zar.i zez ?_;simp(maxSteps:=4000000) only[ZE,↓reduceIte,pE,pL,pA,pS,pM,pD,zN,qT,qG,qL,qH,qN,qB,qE,qO,qA,qM];refine EFn.p ?_;simp(maxSteps:=4000000) only[ZE,↓reduceIte,pE,pL,pA,pS,pM,pD,zN,qT,qG,qL,qH,qN,qB,qE,qO,qA,qM];refine zar.i mk ?_;simp(maxSteps:=4000000) only[ZE,↓reduceIte,pE,pL,pA,pS,pM,pD,zN,qT,qG,qL,qH,qN,qB,qE,qO,qA,qM];refine EFn.p ?_;simp(maxSteps:=4000000) only[ZE,↓reduceIte,pE,pL,pA,pS,pM,pD,zN,qT,qG,qL,qH,qN,qB,qE,qO,qA,qM];refine zar.i m1 ?_;simp(maxSteps:=4000000) only[ZE,↓reduceIte,pE,pL,pA,pS,pM,pD,zN,qT,qG,qL,qH,qN,qB,qE,qO,qA,qM];refine EFn.p ?_;simp(maxSteps:=4000000) only[ZE,↓reduceIte,pE,pL,pA,pS,pM,pD,zN,qT,qG,qL,qH,qN,qB,qE,qO,qA,qM];refine zar.i pa ?_;simp(maxSteps:=4000000) only[ZE,↓reduceIte,pE,pL,pA,pS,pM,pD,zN,qT,qG,qL,qH,qN,qB,qE,qO,qA,qM];refine EFn.p ?_;simp(maxSteps:=4000000) only[ZE,↓reduceIte,pE,pL,pA,pS,pM,pD,zN,qT,qG,qL,qH,qN,qB,qE,qO,qA,qM];refine zar.i pb ?_;simp(maxSteps:=4000000) only[ZE,↓reduceIte,pE,pL,pA,pS,pM,pD,zN,qT,qG,qL,qH,qN,qB,qE,qO,qA,qM];refine EFn.p ?_;simp(maxSteps:=4000000) only[ZE,↓reduceIte,pE,pL,pA,pS,pM,pD,zN,qT,qG,qL,qH,qN,qB,qE,qO,qA,qM];refine zar.i pc ?_;simp(maxSteps:=4000000) only[ZE,↓reduceIte,pE,pL,pA,pS,pM,pD,zN,qT,qG,qL,qH,qN,qB,qE,qO,qA,qM];refine EFn.p ?_;simp(maxSteps:=4000000) only[ZE,↓reduceIte,pE,pL,pA,pS,pM,pD,zN,qT,qG,qL,qH,qN,qB,qE,qO,qA,qM];refine zar.i pd ?_;simp(maxSteps:=4000000) only[ZE,↓reduceIte,pE,pL,pA,pS,pM,pD,zN,qT,qG,qL,qH,qN,qB,qE,qO,qA,qM];refine EFn.p ?_;simp(maxSteps:=4000000) only[ZE,↓reduceIte,pE,pL,pA,pS,pM,pD,zN,qT,qG,qL,qH,qN,qB,qE,qO,qA,qM];refine zar.i pe ?_;simp(maxSteps:=4000000) only[ZE,↓reduceIte,pE,pL,pA,pS,pM,pD,zN,qT,qG,qL,qH,qN,qB,qE,qO,qA,qM];refine za1 (fun _=>[]) zat C.length (fun _=>True) (fun i=>([(5,.d (eB true)),(8,.bp 8 0),(9,.bp 9 0),(10,.bp 10 0),(11,.bp 11 0),(12,.bp 12 0),(13,.d (eI i))],[(8,.box [.d (.sl (A.map zaE)),.d (eI 0)]),(9,.box [.d (.sl (K.map zaE)),.d (eI 0)]),(10,.box [.d (.sl (C.map zaE)),.d (eI 0)]),(11,.box [.d (.sl (E.map zaE)),.d (eI 0)]),(12,.box [.d (.sl (H.map zaE)),.d (eI 0)])])) trivial ?_ ?_ (fun i hi _=> ?_)
  ·simp(maxSteps:=4000000) only[ZE,↓reduceIte,pE,pL,pA,pS,pM,pD]
  ·simp(maxSteps:=4000000) only[ZE,↓reduceIte,pE,pL,pA,pS,pM,pD]
  rcases Nat.lt_or_ge i C.length with h | h
  ·have hw:=zaq (show i<9223372036854775807 by omega);obtain⟨p,hp⟩:=zX (C[i]);have hpm:p∈C:=hp▸List.getElem_mem h;have c1:=zpa A p;have c2:=zpa K p;by_cases q1:p∈A
   ·rw[decide_eq_true q1]at c1;simp(maxSteps:=4000000) only[ZE,↓reduceIte,pE,pL,pA,pS,pM,pD,zaE]at c1;simp(maxSteps:=4000000) only[ZE,↓reduceIte,pE,pL,pA,pS,pM,pD,zaw h,zai h,zaa h,hp,zN,qT,qG,qL,qH,qN,qB,qE,qO,qA,qM,List.length_map,zaE,hw];refine⟨by kernel_rfl,zaz.i c1 ?_⟩;simp(maxSteps:=4000000) only[ZE,↓reduceIte,pE,pL,pA,pS,pM,pD,zN,qT,qG,qL,qH,qN,qB,qE,qO,qA,qM,hw];exact h
   ·have q2:p∈K:=(p1 p hpm).resolve_left q1;rw[decide_eq_false q1]at c1;rw[decide_eq_true q2]at c2;simp(maxSteps:=4000000) only[ZE,↓reduceIte,pE,pL,pA,pS,pM,pD,zaE]at c1 c2;simp(maxSteps:=4000000) only[ZE,↓reduceIte,pE,pL,pA,pS,pM,pD,zaw h,zai h,zaa h,hp,zN,qT,qG,qL,qH,qN,qB,qE,qO,qA,qM,List.length_map,zaE,hw];refine⟨by kernel_rfl,zaz.i c1 ?_⟩;simp(maxSteps:=4000000) only[ZE,↓reduceIte,pE,pL,pA,pS,pM,pD,zN,qT,qG,qL,qH,qN,qB,qE,qO,qA,qM,hw,h,zai h,zaa h,hp,zaE];refine zaz.i c2 ?_;simp(maxSteps:=4000000) only[ZE,↓reduceIte,pE,pL,pA,pS,pM,pD,zN,qT,qG,qL,qH,qN,qB,qE,qO,qA,qM,hw];exact h
  have:i=C.length:=by omega
  subst this;simp(maxSteps:=4000000) only[ZE,↓reduceIte,pE,pL,pA,pS,pM,pD,zaI h,zN,qT,qG,qL,qH,qN,qB,qE,qO,qA,qM,List.length_map];refine za1 (fun _=>[]) zat A.length (fun _=>True) (fun i=>([(5,.d (eB true)),(8,.bp 8 0),(9,.bp 9 0),(10,.bp 10 0),(11,.bp 11 0),(12,.bp 12 0),(14,.d (eI i))],[(8,.box [.d (.sl (A.map zaE)),.d (eI 0)]),(9,.box [.d (.sl (K.map zaE)),.d (eI 0)]),(10,.box [.d (.sl (C.map zaE)),.d (eI 0)]),(11,.box [.d (.sl (E.map zaE)),.d (eI 0)]),(12,.box [.d (.sl (H.map zaE)),.d (eI 0)])])) trivial ?_ ?_ (fun i hi _=> ?_)
  ·simp(maxSteps:=4000000) only[ZE,↓reduceIte,pE,pL,pA,pS,pM,pD]
  ·simp(maxSteps:=4000000) only[ZE,↓reduceIte,pE,pL,pA,pS,pM,pD]
  rcases Nat.lt_or_ge i A.length with h | h
  ·have hw:=zaq (show i<9223372036854775807 by omega);obtain⟨p,hp⟩:=zX (A[i]);have hpm:p∈A:=hp▸List.getElem_mem h;have c1:=zpa C p;have c2:=zpa E p;rw[decide_eq_true (p2 p hpm).1]at c1;rw[decide_eq_false (p2 p hpm).2]at c2;simp(maxSteps:=4000000) only[ZE,↓reduceIte,pE,pL,pA,pS,pM,pD,zaE]at c1 c2;simp(maxSteps:=4000000) only[ZE,↓reduceIte,pE,pL,pA,pS,pM,pD,zaw h,zai h,zaa h,hp,zN,qT,qG,qL,qH,qN,qB,qE,qO,qA,qM,List.length_map,zaE,hw];refine⟨by kernel_rfl,zaz.i c1 ?_⟩;simp(maxSteps:=4000000) only[ZE,↓reduceIte,pE,pL,pA,pS,pM,pD,zN,qT,qG,qL,qH,qN,qB,qE,qO,qA,qM,hw,h,zai h,zaa h,hp,zaE];refine zaz.i c2 ?_;simp(maxSteps:=4000000) only[ZE,↓reduceIte,pE,pL,pA,pS,pM,pD,zN,qT,qG,qL,qH,qN,qB,qE,qO,qA,qM,hw];exact h
  have:i=A.length:=by omega
  subst this;simp(maxSteps:=4000000) only[ZE,↓reduceIte,pE,pL,pA,pS,pM,pD,zaI h,zN,qT,qG,qL,qH,qN,qB,qE,qO,qA,qM,List.length_map];refine za1 (fun _=>[]) zat K.length (fun _=>True) (fun i=>([(5,.d (eB true)),(8,.bp 8 0),(9,.bp 9 0),(10,.bp 10 0),(11,.bp 11 0),(12,.bp 12 0),(15,.d (eI i))],[(8,.box [.d (.sl (A.map zaE)),.d (eI 0)]),(9,.box [.d (.sl (K.map zaE)),.d (eI 0)]),(10,.box [.d (.sl (C.map zaE)),.d (eI 0)]),(11,.box [.d (.sl (E.map zaE)),.d (eI 0)]),(12,.box [.d (.sl (H.map zaE)),.d (eI 0)])])) trivial ?_ ?_ (fun i hi _=> ?_)
  ·simp(maxSteps:=4000000) only[ZE,↓reduceIte,pE,pL,pA,pS,pM,pD]
  ·simp(maxSteps:=4000000) only[ZE,↓reduceIte,pE,pL,pA,pS,pM,pD]
  rcases Nat.lt_or_ge i K.length with h | h
  ·have hw:=zaq (show i<9223372036854775807 by omega);obtain⟨p,hp⟩:=zX (K[i]);have hpm:p∈K:=hp▸List.getElem_mem h;have c1:=zpa C p;have c2:=zpa H p;rw[decide_eq_true (p3 p hpm).1]at c1;rw[decide_eq_false (p3 p hpm).2]at c2;simp(maxSteps:=4000000) only[ZE,↓reduceIte,pE,pL,pA,pS,pM,pD,zaE]at c1 c2;simp(maxSteps:=4000000) only[ZE,↓reduceIte,pE,pL,pA,pS,pM,pD,zaw h,zai h,zaa h,hp,zN,qT,qG,qL,qH,qN,qB,qE,qO,qA,qM,List.length_map,zaE,hw];refine⟨by kernel_rfl,zaz.i c1 ?_⟩;simp(maxSteps:=4000000) only[ZE,↓reduceIte,pE,pL,pA,pS,pM,pD,zN,qT,qG,qL,qH,qN,qB,qE,qO,qA,qM,hw,h,zai h,zaa h,hp,zaE];refine zaz.i c2 ?_;simp(maxSteps:=4000000) only[ZE,↓reduceIte,pE,pL,pA,pS,pM,pD,zN,qT,qG,qL,qH,qN,qB,qE,qO,qA,qM,hw];exact h
  have:i=K.length:=by omega
  subst this;simp(maxSteps:=4000000) only[ZE,↓reduceIte,pE,pL,pA,pS,pM,pD,zaI h,zN,qT,qG,qL,qH,qN,qB,qE,qO,qA,qM,List.length_map]
 ·obtain⟨f,hf⟩:=zX ((zbk B X Y).f);obtain⟨l,hl⟩:=zX ((zbk B X Y).l);obtain⟨e,he⟩:=zX ((zbk B X Y).e);rw[he]at h;unfold eGot at m1;rw[hf,hl,he]at m1;simp(maxSteps:=4000000) only[ZE,↓reduceIte,pE,pL,pA,pS,pM,pD]at m1;simp(maxSteps:=4000000) only[ZE,↓reduceIte,pE,pL,pA,pS,pM,pD,zN,qT,qG,qL,qH,qN,qB,qE,qO,qA,qM,zew,e72];refine EFn.p ?_;simp(maxSteps:=4000000) only[ZE,↓reduceIte,pE,pL,pA,pS,pM,pD,zN,qT,qG,qL,qH,qN,qB,qE,qO,qA,qM];refine zar.i zez ?_;simp(maxSteps:=4000000) only[ZE,↓reduceIte,pE,pL,pA,pS,pM,pD,zN,qT,qG,qL,qH,qN,qB,qE,qO,qA,qM];refine EFn.p ?_;simp(maxSteps:=4000000) only[ZE,↓reduceIte,pE,pL,pA,pS,pM,pD,zN,qT,qG,qL,qH,qN,qB,qE,qO,qA,qM];refine zar.i mk ?_;simp(maxSteps:=4000000) only[ZE,↓reduceIte,pE,pL,pA,pS,pM,pD,zN,qT,qG,qL,qH,qN,qB,qE,qO,qA,qM];refine EFn.p ?_;simp(maxSteps:=4000000) only[ZE,↓reduceIte,pE,pL,pA,pS,pM,pD,zN,qT,qG,qL,qH,qN,qB,qE,qO,qA,qM];refine zar.i m1 ?_;simp(maxSteps:=4000000) only[ZE,↓reduceIte,pE,pL,pA,pS,pM,pD,zN,qT,qG,qL,qH,qN,qB,qE,qO,qA,qM,h]
theorem prov_lifted(os:Os)(started:os.Started)(H:Type)(enc:TypeId×Value->H):
  ReturnsInHanded {} Tryz.checked os 8 .any (Rows.mergeProvenanceSpec.pre6 enc Tryz.prog Tryz.f8 Rows.mergeProvenanceRow.domain false) (Rows.mergeProvenanceSpec.post enc Tryz.prog Tryz.f8 false true false false):=by
 refine returnsInHanded_of_change (C:=Tryz.checked) own started (by kernel_rfl) Tryz.func8
  (ChangeSpec.witness6 (enc:=enc) (C:=Tryz.checked) false ⟨#[],#[.agg #[.int .u8 0,.int .u8 0,.slice none 0 0],.agg #[.slice none 0 0,.slice none 0 0,.slice none 0 0]],[]⟩ 8 (by kernel_rfl) (by kernel_rfl) (by kernel_rfl) (by kernel_rfl)) ?_
 intro W base args ds gs before hval hW _ _;refine zdL (P:=Tryz.prog) (n:=8) (ss:=[zkM,sh72]) zdF (of_decide_eq_true (by kernel_rfl)) (tb:=4) (by kernel_rfl) Tryz.underlying4 (by kernel_rfl) rfl hval hW (fun hl=> ?_) (fun Ds hD _=> ?_)
 ·match ds,hl with
  | [_,_],_=>rfl
 ·obtain⟨a,b,rfl,ha,hb⟩:=zlb hD;obtain⟨x,rfl,hx⟩:=zhO ha;obtain⟨k0,k1,k2,rfl,h0,h1,h2⟩:=zz3 hb;exact prov_c x hx k0 k1 k2 h0 h1 h2
theorem prov_j0:jG0 Tryz.prog 8 Tryz.f8 Rows.mergeProvenanceSpec Rows.mergeProvenanceRow=true:=by kernel_rfl
theorem prov_j1:jG1 Tryz.prog 8 Tryz.f8 Rows.mergeProvenanceSpec Rows.mergeProvenanceRow=true:=by kernel_rfl
theorem prov_j2:jG2 Tryz.prog 8 Tryz.f8 Rows.mergeProvenanceSpec Rows.mergeProvenanceRow=true:=by kernel_rfl
theorem prov_j3:jG3 Tryz.prog 8 Tryz.f8 Rows.mergeProvenanceSpec Rows.mergeProvenanceRow=true:=by kernel_rfl
theorem prov_j4:jG4 Tryz.prog 8 Tryz.f8 Rows.mergeProvenanceSpec Rows.mergeProvenanceRow=true:=by kernel_rfl
theorem prov_j5:jG5 Tryz.prog 8 Tryz.f8 Rows.mergeProvenanceSpec Rows.mergeProvenanceRow=true:=by kernel_rfl
theorem prov_j6:jG6 Tryz.prog 8 Tryz.f8 Rows.mergeProvenanceSpec Rows.mergeProvenanceRow=true:=by kernel_rfl
theorem prov_j7:jG7 Tryz.prog 8 Tryz.f8 Rows.mergeProvenanceSpec Rows.mergeProvenanceRow=true:=by kernel_rfl
theorem prov_j8:jG8 Tryz.prog 8 Tryz.f8 Rows.mergeProvenanceSpec Rows.mergeProvenanceRow=true:=by kernel_rfl
theorem prov_j:joinedFacts Tryz.prog 8 Tryz.f8 Rows.mergeProvenanceSpec Rows.mergeProvenanceRow=true:=ziO jP1 jP2 jP6 jP8 jP24 jP25 prov_j0 prov_j1 prov_j2 prov_j3 prov_j4 prov_j5 prov_j6 prov_j7 prov_j8
theorem prov_holds:Rows.MergeProvenanceSaid:=
 OpenClaim.holds_of_wide 8 Tryz.f8 rfl rfl rfl rfl rfl rfl rfl ⟨rfl,rfl,rfl,rfl,rfl⟩ rfl rfl rfl rfl rfl (by kernel_rfl) Tryz.func8 prov_j
  (of_decide_eq_true (by kernel_rfl)) (by unfold Func.isWrapper; first | (rw[if_pos (by decide+kernel)]; kernel_rfl) | (rw[if_neg (by decide+kernel)]; exact⟨rfl,rfl⟩))
  (fun os started H enc _=>prov_lifted os started H enc)
end Go.Proofs.YtbenhdgpogiadaaGreat
