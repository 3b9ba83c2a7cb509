/-
 CONTRACTS and plain laws. Conditions: those of each law.
-/
import Derived.Test.YtbenhdgpogiadaaGreatNK2
set_option linter.unusedSimpArgs false
set_option linter.unusedVariables false
namespace Go.Proofs.YtbenhdgpogiadaaGreat
open Go.Aw
open Nat renaming reduceEqDiff->pE,reduceLT->pL,reduceAdd->pA,reduceSub->pS,reduceMul->pM,reduceLeDiff->pD
open Int renaming reduceToNat->qT,reduceGT->qG,reduceLT->qL,reduceGE->qH,reduceBNe->qN,reduceBEq->qB,reduceLE->qE,reduceNe->qO,reduceAdd->qA,reduceNeg->qM
set_option maxRecDepth 100000
set_option maxHeartbeats 40000000
theorem sameI_c(x y:Item):FnP Tryz.prog 63 [.agg (zaK x),.agg (zaK y)] (.d (eB (zlG x y))) []:=by
 refine FnP.of_eC (own:=[]) (fun i=>if i=2001 then [.chn]else if i=2002 then [.chn,.ord ⟨[(0,none),(1,none),(2,none),(3,none),(4,none),(5,none),(6,none),(7,none),(8,none),(9,none),(10,none),(11,none),(12,none),(13,none),(14,none),(15,none),(16,none),(17,none),(18,none),(19,none),(20,none),(21,none),(22,none),(23,none),(24,none),(25,none),(26,none),(27,none),(28,none),(29,none),(30,none),(31,none),(32,none),(33,none),(34,none),(35,none),(36,none),(37,none),(38,none),(39,none),(40,none),(41,none),(42,none),(43,none),(44,none),(45,none),(46,none),(47,none),(48,none),(49,none),(50,none),(51,none),(52,none),(53,none),(54,none),(55,none),(56,none),(57,none)]⟩]else []) zat Tryz.func63 rfl Tryz.call63 Tryz.ntmps63 (Nat.le_of_ble_eq_true rfl) Tryz.results63 (fun hok=> ?_);have hl:x.args.length<=9223372036854775807/\x.ports.length<=9223372036854775807:=by
  have:=(zaM hok).1;simp only[zaK,zgL,zb6,zib,ziG,zel,List.cons_append,List.nil_append,D.ok,D.okL]at this;obtain⟨_,_,_,_,_,_,_,_,_,_,_,_,_,_,_,_,_,_,_,_,_,_,_,_,_,_,_,_,_,_,_,_,_,h1,h2,_⟩:=this;exact⟨(za9 h1).1,(za9 h2).1⟩
 have c1:=tof_c x;have c2:=tof_c y;have c3:=equalNum_c x.args y.args hl.1;have c4:=equalBind_c x.ports y.ports hl.2;have c5:=zxE _ x.a y.a (Nat.lt_succ_self _);have c6:=zxE _ x.b y.b (Nat.lt_succ_self _);have c7:=zxE _ x.c y.c (Nat.lt_succ_self _);have k0:=part_key x y;have k1:=zhX x.width y.width;have k2:=zhX x.depth y.depth;have k3:=zhX x.init y.init;have k4:=key_rule x.rule y.rule;simp only[ZE,↓reduceIte,pE,pL,pA,pS,pM,pD,zfX,zbg]at c1 c2 c3 c4 c5 c6 c7;simp(maxSteps:=4000000) only[ZE,↓reduceIte,pE,pL,pA,pS,pM,pD,zN,qT,qG,qL,qH,qN,qB,qE,qO,qA,qM,k1,k2,k3];refine⟨by kernel_rfl,za3.i (fun _=>c1) ?_⟩;simp only[ZE,↓reduceIte,pE,pL,pA,pS,pM,pD,zN,qT,qG,qL,qH,qN,qB,qE,qO,qA,qM];refine za3.i (fun _=>c2) ?_;simp only[ZE,↓reduceIte,pE,pL,pA,pS,pM,pD,zN,qT,qG,qL,qH,qN,qB,qE,qO,qA,qM,k0,k4];refine za3.i (fun _=>c3) ?_;simp only[ZE,↓reduceIte,pE,pL,pA,pS,pM,pD,zN,qT,qG,qL,qH,qN,qB,qE,qO,qA,qM];refine za3.i (fun _=>c4) ?_;simp only[ZE,↓reduceIte,pE,pL,pA,pS,pM,pD,zN,qT,qG,qL,qH,qN,qB,qE,qO,qA,qM];refine za3.i (fun _=>c5) ?_;simp only[ZE,↓reduceIte,pE,pL,pA,pS,pM,pD,zN,qT,qG,qL,qH,qN,qB,qE,qO,qA,qM];refine za3.i (fun _=>c6) ?_;simp only[ZE,↓reduceIte,pE,pL,pA,pS,pM,pD,zN,qT,qG,qL,qH,qN,qB,qE,qO,qA,qM];refine za3.i (fun _=>c7) ?_;simp only[ZE,↓reduceIte,pE,pL,pA,pS,pM,pD,zN,qT,qG,qL,qH,qN,qB,qE,qO,qA,qM];have k4':(x.rule.kind==y.rule.kind&&(decide (x.rule.from'=y.rule.from')&&x.rule.n==y.rule.n))=decide (x.rule=y.rule):=by
  rw[<-Bool.and_assoc]; exact k4
 rw[k4'];rfl
end Go.Proofs.YtbenhdgpogiadaaGreat
