/-
 MergeRepeats: merging the merged file with either side again, with the same base, changes nothing.
 Conditions: none.
-/
import Derived.Test.YtbenhdgpogiadaaGreatGL
import Derived.Test.YtbenhdgpogiadaaGreatK4
import Derived.Test.YtbenhdgpogiadaaGreatRows
import Derived.Test.YtbenhdgpogiadaaGreatGJf
import Derived.Test.YtbenhdgpogiadaaGreatK7
import Derived.Test.YtbenhdgpogiadaaGreatK8
import Derived.Test.YtbenhdgpogiadaaGreatK5
set_option linter.unusedSimpArgs false
set_option linter.unusedVariables false
/-
 ARGUMENTS OF THE LAWS AS DATA.
-/
namespace Go.Proofs.YtbenhdgpogiadaaGreat
open Go.Aw Go.ChangeShapes Go.WideShapes Go.ChangeAt Go.RowKit
set_option maxRecDepth 100000
theorem own:ownKnob Tryz.prog.godebug=none:=by kernel_rfl
theorem zdF:laidOutB Tryz.prog=true:=by kernel_rfl
def zkM:ASh:=.agg [.int .u8,.int .u8,.sl [.int .u8]]
def shK2:ASh:=.agg [.int .u8,.int .u8]
def shK4:ASh:=.agg [.int .u8,.int .u8,.int .u8,.int .u8]
def shB:ASh:=.one (.sl [.int .u8])
theorem zsF{s t u:Sh}{ds:List D}(h:Sh.fitsL [s,t,u] ds): ∃a b c,ds=[a,b,c]/\s.fits a/\t.fits b/\u.fits c:=by
 simp only[Sh.fitsL]at h;obtain⟨a,r,rfl,h1,b,r2,rfl,h2,c,r3,rfl,h3,rfl⟩:=h;exact⟨a,b,c,rfl,h1,h2,h3⟩
theorem zk5{d:D}(h:Sh.fits (.sl [.int .u8]) d): ∃l:List Nat,d=zau l/\ ∀b∈l,b<256:=by
 obtain⟨l,rfl,hl⟩:=zgZ (enc:=fun b:Nat=>[eU8 b]) (p:=fun b=>b<256) (fun e he=>by
  obtain⟨x,rfl,hx⟩:=zjP he;obtain⟨n,rfl,hn⟩:=zeG hx;exact⟨n,rfl,hn⟩) h
 exact⟨l,rfl,hl⟩
theorem zhO{d:D}(h:zkM.fits d): ∃x:Raw,d=zew x/\x.ok:=by
 obtain⟨ds,rfl,h⟩:=h;obtain⟨a,b,c,rfl,h1,h2,h3⟩:=zsF h;obtain⟨k,rfl,hk⟩:=zeG h1;obtain⟨w,rfl,hw⟩:=zeG h2;obtain⟨l,rfl,hl⟩:=zk5 h3;exact⟨⟨k,w,l⟩,rfl,hk,hw,hl⟩
theorem jP1:laidOutB Tryz.prog=true:=zdF
theorem jP2:mapsRowed Tryz.prog=true:=by kernel_rfl
theorem jP6:(Tryz.prog.stops==[])=true:=by kernel_rfl
theorem jP8:(Tryz.prog.stopKnobs==[])=true:=by kernel_rfl
theorem jP24:Tryz.prog.stopsHeard=true:=by kernel_rfl
theorem jP25:Tryz.prog.mayEnter=true:=by kernel_rfl
def shPair:ASh:=.agg [.int .u8,.int .u8,.sl [.int .u8],.int .u8,.int .u8,.sl [.int .u8],.sl [.int .u8,.int .u8,.int .u8,.int .u8],.sl [.int .u8,.int .u8,.int .u8,.int .u8]]
def eZ2(x y:Raw)(l m:List K4):D:=.agg [eU8 x.kind,eU8 x.w,zau x.l,eU8 y.kind,eU8 y.w,zau y.l,.sl (l.map eK4),.sl (m.map eK4)]
def sh72:ASh:=.agg [.sl [.int .u8,.int .u8,.int .u8],.sl [.int .u8,.int .u8,.int .u8],.sl [.int .u8,.int .u8,.int .u8]]
theorem k3s_of{d:D}(h:Sh.fits (.sl [.int .u8,.int .u8,.int .u8]) d): ∃l:List K3,d= .sl (l.map eK3)/\ ∀k∈l,k.ok:=by
 obtain⟨l,rfl,hl⟩:=zgZ (enc:=eK3) (p:=K3.ok) (fun e0 h0=>by
  obtain⟨a,b,c,rfl,h1,h2,h3⟩:=zsF h0;obtain⟨a,rfl,ha⟩:=zeG h1;obtain⟨b,rfl,hb⟩:=zeG h2;obtain⟨c,rfl,hc⟩:=zeG h3;exact⟨⟨a,b,c⟩,rfl,ha,hb,hc⟩) h
 exact⟨l,rfl,hl⟩
theorem zz3{d:D}(h:sh72.fits d): ∃a b c,d=e72 a b c/\(∀k∈a,k.ok)/\(∀k∈b,k.ok)/\ ∀k∈c,k.ok:=by
 obtain⟨ds,rfl,h⟩:=h;obtain⟨a,b,c,rfl,h1,h2,h3⟩:=zsF h;obtain⟨a,rfl,ha⟩:=k3s_of h1;obtain⟨b,rfl,hb⟩:=k3s_of h2;obtain⟨c,rfl,hc⟩:=k3s_of h3;exact⟨a,b,c,rfl,ha,hb,hc⟩
open Go.Aw
open Nat renaming reduceEqDiff->pE,reduceLT->pL,reduceAdd->pA,reduceSub->pS,reduceMul->pM,reduceLeDiff->pD
open Int renaming reduceToNat->qT,reduceGT->qG,reduceLT->qL,reduceGE->qH,reduceBNe->qN,reduceBEq->qB,reduceLE->qE,reduceNe->qO,reduceAdd->qA,reduceNeg->qM
set_option maxHeartbeats 40000000
theorem ztq(b x y:List Module):(zdy b x y=[]/\zbi (zbA b x y)=true/\zbk b x y=⟨zbA b x y,[],0⟩)\/((zbk b x y).e !=0)=true:=by
 unfold zbk;by_cases h:zdy b x y=[]
 ·rw[if_neg (fun h'=>h' h)];cases hv:zbi (zbA b x y)with
  | true=>exact .inl ⟨h,rfl,by rw[if_pos rfl]⟩
  | false=>right; rw[if_neg Bool.false_ne_true]; rfl
 ·right; rw[if_pos h]; rfl
theorem repeats_c(x:Raw)(hx:x.ok)(a b c:List K3)(ha: ∀k∈a,k.ok)(hb: ∀k∈b,k.ok)(hc: ∀k∈c,k.ok):FnP Tryz.prog 11 [zew x,e72 a b c] (.d (eB true)) []:=by
 refine FnP.of_eC (own:=[]) (fun i=>if i=2012 then [.ord ⟨[(0,none),(1,none),(2,none),(3,none),(4,none),(5,none),(6,none),(7,none),(8,none),(9,none),(10,none),(11,none),(12,none),(13,none),(14,none),(15,none),(16,none),(17,none),(18,none),(19,none),(20,none),(21,none),(22,none),(23,none),(24,some [])]⟩]else []) zat Tryz.func11 rfl Tryz.call11 Tryz.ntmps11 (Nat.le_of_ble_eq_true rfl) Tryz.results11 (fun hok=> ?_);have mk:=zpp x hx a b c ha hb hc;have gB:=(zmB x a).mono (k:=12) (by omega);have gX:=zli x a b;have gY:=zli x a c;obtain⟨B,hB⟩:=zX (zhA x a);obtain⟨X,hX⟩:=zX (zfc (zhA x a) b);obtain⟨Y,hY⟩:=zX (zfc (zhA x a) c);rw[hX]at gX;rw[hY]at gY;rw[hX,hY]at mk;rw[hB]at mk gB;have m1:=zhL (by omega) gB gX gY;simp(maxSteps:=4000000) only[ZE,↓reduceIte,pE,pL,pA,pS,pM,pD,zew,e72]at mk;rcases ztq B X Y with⟨h1,h2,h3⟩ | h
 ·have gM:=gs_merged (by omega) gB gX gY h1;have sM:=zq9 (by omega) gB gX gY h1;have r1:=repeats1 gB.fl gX.fl gY.fl h1 h2;have r2:=repeats2 gB.fl gX.fl gY.fl h1 h2;have nM:=zks (zdg gB.fl gX.fl gY.fl h1).1;rw[h3]at m1;obtain⟨M,hM⟩:=zX (zbA B X Y);rw[hM]at gM sM r1 r2 m1 h2 nM;have m2:=znr (gB.gs (by omega)) gM (gY.gs (by omega)) (fun _=>by rw[(ztt r1).2]; exact sM);have m3:=znr (gB.gs (by omega)) gM (gX.gs (by omega)) (fun _=>by rw[(ztt r2).2]; exact sM);rw[r1]at m2;rw[r2]at m3;have pc:=rpart_c M;rw[(zbU _).2 gM.fl.part]at pc;have al:=zn0 ⟨M,[],0⟩ ⟨M,[],0⟩;rw[zhQ]at al;have nc:=zih M gM.fl.part.names gM.fl.part.parts gM.sz.len gM.sz.items;rw[nM]at nc;have sc:=rsame_c M M;rw[(zm3 M M).2 rfl]at sc;have vc:=zfs M sM;rw[h2]at vc;simp only[eGot,List.map_nil]at m1 m2 m3 al;simp(maxSteps:=4000000) only[ZE,↓reduceIte,pE,pL,pA,pS,pM,pD]at m1 m2 m3 al pc nc sc vc;simp(maxSteps:=4000000) only[ZE,↓reduceIte,pE,pL,pA,pS,pM,pD,zN,qT,qG,qL,qH,qN,qB,qE,qO,qA,qM,zew,e72];refine EFn.p ?_;simp(maxSteps:=4000000) only[ZE,↓reduceIte,pE,pL,pA,pS,pM,pD,zN,qT,qG,qL,qH,qN,qB,qE,qO,qA,qM];refine zar.i zez ?_;simp(maxSteps:=4000000) only[ZE,↓reduceIte,pE,pL,pA,pS,pM,pD,zN,qT,qG,qL,qH,qN,qB,qE,qO,qA,qM];refine EFn.p ?_;simp(maxSteps:=4000000) only[ZE,↓reduceIte,pE,pL,pA,pS,pM,pD,zN,qT,qG,qL,qH,qN,qB,qE,qO,qA,qM];refine zar.i mk ?_;simp(maxSteps:=4000000) only[ZE,↓reduceIte,pE,pL,pA,pS,pM,pD,zN,qT,qG,qL,qH,qN,qB,qE,qO,qA,qM];refine EFn.p ?_;simp(maxSteps:=4000000) only[ZE,↓reduceIte,pE,pL,pA,pS,pM,pD,zN,qT,qG,qL,qH,qN,qB,qE,qO,qA,qM];refine zar.i m1 ?_;simp(maxSteps:=4000000) only[ZE,↓reduceIte,pE,pL,pA,pS,pM,pD,zN,qT,qG,qL,qH,qN,qB,qE,qO,qA,qM];refine EFn.p ?_;simp(maxSteps:=4000000) only[ZE,↓reduceIte,pE,pL,pA,pS,pM,pD,zN,qT,qG,qL,qH,qN,qB,qE,qO,qA,qM];refine zar.i m2 ?_;simp(maxSteps:=4000000) only[ZE,↓reduceIte,pE,pL,pA,pS,pM,pD,zN,qT,qG,qL,qH,qN,qB,qE,qO,qA,qM];refine EFn.p ?_;simp(maxSteps:=4000000) only[ZE,↓reduceIte,pE,pL,pA,pS,pM,pD,zN,qT,qG,qL,qH,qN,qB,qE,qO,qA,qM];refine zar.i m3 ?_;simp(maxSteps:=4000000) only[ZE,↓reduceIte,pE,pL,pA,pS,pM,pD,zN,qT,qG,qL,qH,qN,qB,qE,qO,qA,qM];refine EFn.p ?_;simp(maxSteps:=4000000) only[ZE,↓reduceIte,pE,pL,pA,pS,pM,pD,zN,qT,qG,qL,qH,qN,qB,qE,qO,qA,qM];refine zar.i pc ?_;simp(maxSteps:=4000000) only[ZE,↓reduceIte,pE,pL,pA,pS,pM,pD,zN,qT,qG,qL,qH,qN,qB,qE,qO,qA,qM];refine⟨by kernel_rfl,zaz.i al ?_⟩;simp(maxSteps:=4000000) only[ZE,↓reduceIte,pE,pL,pA,pS,pM,pD,zN,qT,qG,qL,qH,qN,qB,qE,qO,qA,qM];refine zaz.i al ?_;simp(maxSteps:=4000000) only[ZE,↓reduceIte,pE,pL,pA,pS,pM,pD,zN,qT,qG,qL,qH,qN,qB,qE,qO,qA,qM];refine zaz.i nc ?_;simp(maxSteps:=4000000) only[ZE,↓reduceIte,pE,pL,pA,pS,pM,pD,zN,qT,qG,qL,qH,qN,qB,qE,qO,qA,qM];refine zaz.i sc ?_;simp(maxSteps:=4000000) only[ZE,↓reduceIte,pE,pL,pA,pS,pM,pD,zN,qT,qG,qL,qH,qN,qB,qE,qO,qA,qM];refine zaz.i vc ?_;simp(maxSteps:=4000000) only[ZE,↓reduceIte,pE,pL,pA,pS,pM,pD,zN,qT,qG,qL,qH,qN,qB,qE,qO,qA,qM]
 ·obtain⟨f,hf⟩:=zX ((zbk B X Y).f);obtain⟨l,hl⟩:=zX ((zbk B X Y).l);obtain⟨e,he⟩:=zX ((zbk B X Y).e);rw[he]at h;unfold eGot at m1;rw[hf,hl,he]at m1;simp(maxSteps:=4000000) only[ZE,↓reduceIte,pE,pL,pA,pS,pM,pD]at m1;simp(maxSteps:=4000000) only[ZE,↓reduceIte,pE,pL,pA,pS,pM,pD,zN,qT,qG,qL,qH,qN,qB,qE,qO,qA,qM,zew,e72];refine EFn.p ?_;simp(maxSteps:=4000000) only[ZE,↓reduceIte,pE,pL,pA,pS,pM,pD,zN,qT,qG,qL,qH,qN,qB,qE,qO,qA,qM];refine zar.i zez ?_;simp(maxSteps:=4000000) only[ZE,↓reduceIte,pE,pL,pA,pS,pM,pD,zN,qT,qG,qL,qH,qN,qB,qE,qO,qA,qM];refine EFn.p ?_;simp(maxSteps:=4000000) only[ZE,↓reduceIte,pE,pL,pA,pS,pM,pD,zN,qT,qG,qL,qH,qN,qB,qE,qO,qA,qM];refine zar.i mk ?_;simp(maxSteps:=4000000) only[ZE,↓reduceIte,pE,pL,pA,pS,pM,pD,zN,qT,qG,qL,qH,qN,qB,qE,qO,qA,qM];refine EFn.p ?_;simp(maxSteps:=4000000) only[ZE,↓reduceIte,pE,pL,pA,pS,pM,pD,zN,qT,qG,qL,qH,qN,qB,qE,qO,qA,qM];refine zar.i m1 ?_;simp(maxSteps:=4000000) only[ZE,↓reduceIte,pE,pL,pA,pS,pM,pD,zN,qT,qG,qL,qH,qN,qB,qE,qO,qA,qM,h]
theorem zu9(os:Os)(started:os.Started)(H:Type)(enc:TypeId×Value->H):
  ReturnsInHanded {} Tryz.checked os 11 .any (Rows.mergeRepeatsSpec.pre6 enc Tryz.prog Tryz.f11 Rows.mergeRepeatsRow.domain false) (Rows.mergeRepeatsSpec.post enc Tryz.prog Tryz.f11 false true false false):=by
 refine returnsInHanded_of_change (C:=Tryz.checked) own started (by kernel_rfl) Tryz.func11
  (ChangeSpec.witness6 (enc:=enc) (C:=Tryz.checked) false ⟨#[],#[.agg #[.int .u8 0,.int .u8 0,.slice none 0 0],.agg #[.slice none 0 0,.slice none 0 0,.slice none 0 0]],[]⟩ 8 (by kernel_rfl) (by kernel_rfl) (by kernel_rfl) (by kernel_rfl)) ?_
 intro W base args ds gs before hval hW _ _;refine zdL (P:=Tryz.prog) (n:=8) (ss:=[zkM,sh72]) zdF (of_decide_eq_true (by kernel_rfl)) (tb:=4) (by kernel_rfl) Tryz.underlying4 (by kernel_rfl) rfl hval hW (fun hl=> ?_) (fun Ds hD _=> ?_)
 ·match ds,hl with
  | [_,_],_=>rfl
 ·obtain⟨a,b,rfl,ha,hb⟩:=zlb hD;obtain⟨x,rfl,hx⟩:=zhO ha;obtain⟨k0,k1,k2,rfl,h0,h1,h2⟩:=zz3 hb;exact repeats_c x hx k0 k1 k2 h0 h1 h2
theorem repeats_j0:jG0 Tryz.prog 11 Tryz.f11 Rows.mergeRepeatsSpec Rows.mergeRepeatsRow=true:=by kernel_rfl
theorem repeats_j1:jG1 Tryz.prog 11 Tryz.f11 Rows.mergeRepeatsSpec Rows.mergeRepeatsRow=true:=by kernel_rfl
theorem repeats_j2:jG2 Tryz.prog 11 Tryz.f11 Rows.mergeRepeatsSpec Rows.mergeRepeatsRow=true:=by kernel_rfl
theorem repeats_j3:jG3 Tryz.prog 11 Tryz.f11 Rows.mergeRepeatsSpec Rows.mergeRepeatsRow=true:=by kernel_rfl
theorem repeats_j4:jG4 Tryz.prog 11 Tryz.f11 Rows.mergeRepeatsSpec Rows.mergeRepeatsRow=true:=by kernel_rfl
theorem repeats_j5:jG5 Tryz.prog 11 Tryz.f11 Rows.mergeRepeatsSpec Rows.mergeRepeatsRow=true:=by kernel_rfl
theorem repeats_j6:jG6 Tryz.prog 11 Tryz.f11 Rows.mergeRepeatsSpec Rows.mergeRepeatsRow=true:=by kernel_rfl
theorem repeats_j7:jG7 Tryz.prog 11 Tryz.f11 Rows.mergeRepeatsSpec Rows.mergeRepeatsRow=true:=by kernel_rfl
theorem repeats_j8:jG8 Tryz.prog 11 Tryz.f11 Rows.mergeRepeatsSpec Rows.mergeRepeatsRow=true:=by kernel_rfl
theorem repeats_j:joinedFacts Tryz.prog 11 Tryz.f11 Rows.mergeRepeatsSpec Rows.mergeRepeatsRow=true:=ziO jP1 jP2 jP6 jP8 jP24 jP25 repeats_j0 repeats_j1 repeats_j2 repeats_j3 repeats_j4 repeats_j5 repeats_j6 repeats_j7 repeats_j8
theorem repeats_holds:Rows.MergeRepeatsSaid:=
 OpenClaim.holds_of_wide 11 Tryz.f11 rfl rfl rfl rfl rfl rfl rfl ⟨rfl,rfl,rfl,rfl,rfl⟩ rfl rfl rfl rfl rfl (by kernel_rfl) Tryz.func11 repeats_j
  (of_decide_eq_true (by kernel_rfl)) (by unfold Func.isWrapper; first | (rw[if_pos (by decide+kernel)]; kernel_rfl) | (rw[if_neg (by decide+kernel)]; exact⟨rfl,rfl⟩))
  (fun os started H enc _=>zu9 os started H enc)
end Go.Proofs.YtbenhdgpogiadaaGreat
