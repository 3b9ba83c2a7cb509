/- Contracts and laws. Conditions: those of each. -/
import Derived.Test.YtplfjjgkbnolhaaGreatDoorK6
set_option linter.unusedSimpArgs false
set_option linter.unusedVariables false
open List renaming length_map → waa, length_nil → wab
namespace Go.Proofs.YtplfjjgkbnolhaaGreatDoor
open Go.Aw
open Tryz
set_option maxRecDepth 100000
set_option maxHeartbeats 4000000
theorem damage_c(L:List (List Nat))(B:List (Nat×Nat×Nat))(d:List Nat)(k0 k1:Nat)(hr0:rawB L B)(hd: ∀x∈d,x<256)(h0:k0<256)(h1:k1<256):FnP prog 11 [eRaw L B,eBy d,.agg [eU8 k0,eU8 k1]] (.d (eB true)) []:=by
 refine FnP.of_eC (own:=[]) (fun i=>if i=2017 then [.ord ⟨[(0,none),(1,none),(2,none),(3,none),(4,none),(5,none),(6,none),(7,none),(8,none),(9,none),(10,none),(11,none),(12,none),(13,none),(14,none),(15,none),(16,none),(17,none),(18,none),(19,some [])]⟩]else if i=13 then [.frz 64]else []) mixed func11 rfl call11 ntmps11 (zle rfl) results11 (fun hok=> ?_);have hr:=raw_ok hr0 hok;have c0:=examples_c;have cS:=hr.c;have hS:=hr.sm;obtain⟨S,hSe⟩:=zX (stG L B);rw[hSe]at cS hS;have oS:=hS.okO (by omega);rw[show eRaw L B= .agg [.sl (L.map fun l=>[eBy l]),.sl (B.map eBb)]from rfl]at cS;simp only[ZE,seval,eRaw];refine EFn.p ?_;simp only[ZE,seval];have hc:=c0;simp only[ZE,seval]at hc;refine ECall.i hc ?_;clear hc;simp only[ZE,seval];by_cases hn:d=[]
 ·subst hn;simp only[ZE,seval,List.map_nil,wab]
 have hl0:d.length≠0:=fun h=>hn (List.length_eq_zero_iff.1 h);have e0:((d.length:Int)==0)=false:=by simp; omega
 rcases Nat.lt_or_ge 100 d.length with h2 | h2
 ·have e1:decide ((d.length:Int)>100)=true:=by simp; omega
  simp only[ZE,seval,e0,e1,waa]
 have e1:decide ((d.length:Int)>100)=false:=by simp; omega
 have hD:okB d:=⟨hd,by omega⟩;have ca:=lput_c S d hS.1 oS hD;have sP:=sm_put hS hd (by omega);have oP:=sP.okO (by omega);have i1:=ris_c (putS S d);rw[isB_ok sP.1]at i1;have hgP:=put_self hS.1 d;have hlP:=lk_put hS.1 d (digB d);rw[if_pos rfl]at hlP;have hat:=isAt_of sP.1 hlP;have cf:=rfind_c (putS S d) (digB d) oP.1;rw[idxO_at sP.1 hat]at cf;obtain⟨hlt,hid,_⟩:=isAt_lk sP.1 (digB d) hat;have g1:=lget_c (putS S d) (digB d) sP.1 oP;rw[getR_some hgP]at g1;have hbr:=fun e (he:(putS S d)[lowS (putS S d) (digB d)].2 =d) hne=>broke sP.1 (d:=d) (e:=e) hlt hid he hne;generalize putS S d=P at*;obtain⟨i,hlt,hid,cf,hbr⟩: ∃i,∃hlt:i<P.length,P[i].1 =digB d∧FnP prog 55 [eSt P,eU (digB d)] (.d (eI (i:Int))) []∧ ∀e,P[i].2 =d→digB d≠digB e→okS (P.set i (P[i].1,e))∧getS (P.set i (P[i].1,e)) (digB d)=none∧(damS (P.set i (P[i].1,e))).length =(damS P).length +1∧(damS (P.set i (P[i].1,e))).contains (digB d)=true∧
   putS (P.set i (P[i].1,e)) d=P∧uniS (P.set i (P[i].1,e)) P=P:=⟨_,hlt,hid,cf,hbr⟩
 have hPi:=oP.2 _ (List.getElem_mem hlt);have b1:=bsame_c P[i].2 d hPi.2.2;have e2:decide ((i:Int)<0)=false:=by simp
 have e3:decide ((i:Int)≥0)=true:=by simp
 obtain⟨X,hX⟩:=zX (digB d);rw[hX]at ca cf hid g1;simp only[ZE,seval,e0,e1,waa];refine EFn.p ?_;simp only[ZE,seval];have hc:=cS;simp only[ZE,seval]at hc;refine ECall.i hc ?_;clear hc;simp only[ZE,seval];refine EFn.p ?_;simp only[ZE,seval];have hc:=ca;simp only[ZE,seval]at hc;refine ECall.i hc ?_;clear hc;simp only[ZE,seval];refine EFn.p ?_;simp only[ZE,seval];have hc:=i1;simp only[ZE,seval]at hc;refine ECall.i hc ?_;clear hc;simp only[ZE,seval];refine EFn.p ?_;simp only[ZE,seval];have hc:=cf;simp only[ZE,seval]at hc;refine ECall.i hc ?_;clear hc;simp only[ZE,seval]at b1;simp only[ZE,seval,e2,lt_int hlt,getD_map hlt];refine EFn.p ?_;simp only[ZE,seval];refine ECall.i b1 ?_;clear b1;rcases Decidable.em (¬P[i].2 =d)with hPd | hPd
 ·rw[decide_eq_false hPd];simp only[ZE,seval,e3];refine EFn.p ?_;simp only[ZE,seval];have hc:=g1;simp only[ZE,seval]at hc;refine ECall.i hc ?_;clear hc;simp only[ZE,seval]
 have hPd:P[i].2 =d:=Decidable.not_not.1 hPd;rw[decide_eq_true hPd];have cb:=broken_c d k0 k1 hD h0 h1;have hne:=brk_dig (a:=k0) (b:=k1) hn hd h1;obtain⟨e,he⟩:=zX (brkB d k0 k1);have hee:=brkB_ok (a:=k0) (b:=k1) ⟨hd,(by omega:d.length≤1000)⟩ h1;rw[he]at cb hne hee;obtain⟨r1,r2,r3,r4,r5,r6⟩:=hbr e hPd hne;have hset:(P.map eObj).set i [eU P[i].1,eBy e]=(P.set i (P[i].1,e)).map eObj:=by rw[List.map_set]; rfl
 have oO:okO (P.set i (P[i].1,e)):=⟨by rw[List.length_set]; exact oP.1,fun o ho=>by
  rcases List.mem_or_eq_of_mem_set ho with h | rfl
  ·exact oP.2 o h
  ·exact⟨(oP.2 _ (List.getElem_mem hlt)).1,hee.1,by have:=hee.2; show e.length≤1000000; omega⟩⟩
 have a1:=damaged_c (P.set i (P[i].1,e)) oO;have a2:=damaged_c P oP;have a3:=lget_c (P.set i (P[i].1,e)) (digB d) r1 oO;rw[getR_none r2]at a3;have hdl:(damS P).length ≤9:=by
  unfold damS;rw[waa];exact Nat.le_trans (List.length_filter_le _ _) sP.2.1
 have a4:=in_c (damS (P.set i (P[i].1,e))) (digB d) (by rw[r3]; omega);rw[r4]at a4;have a5:=lput_c (P.set i (P[i].1,e)) d r1 oO hD;rw[r5]at a5;have a6:=osame_c P P oP;rw[show decide (P=P)=true by simp]at a6;have a7:=union_c (P.set i (P[i].1,e)) P oO oP;rw[r6]at a7;rw[hX]at a3 a4 a5;have hr2:=rows2 P;have hOl:(P.set i (P[i].1,e)).length =P.length:=List.length_set;obtain⟨O,hOe⟩:=zX (P.set i (P[i].1,e));rw[hOe]at hset a1 a3 a4 a5 a7 r3 hOl;simp only[ZE,seval]at hset a1 a2 a3 a4 a5 a6 a7;have hw:IntKind.i64.wrap (((damS P).length :Int)+1)=(((damS P).length +1:Nat):Int):=wrap_succ (by omega);simp only[ZE,seval,List.nil_append,waa,wab,Nat.zero_add];have hP9:=sP.2.1;refine⟨⟨hr2,by omega,by omega⟩,?_⟩;refine EFn.p ?_;simp only[ZE,seval];have hc:=cb;simp only[ZE,seval]at hc;refine ECall.i hc ?_;clear hc;simp only[ZE,seval,lt_int hlt,getD_map hlt,waa,hset,Int.toNat_natCast,hOl];refine⟨hlt,?_⟩;refine EFn.p ?_;simp only[ZE,seval];refine ECall.i (a1) ?_;simp only[ZE,seval];refine EFn.p ?_;simp only[ZE,seval];refine ECall.i (a3) ?_;simp only[ZE,seval,List.map_nil,wab];refine EFn.p ?_;simp only[ZE,seval];refine ECall.i (a3) ?_;simp only[ZE,seval,List.map_nil,wab];refine EFn.p ?_;simp only[ZE,seval];refine ECall.i (a2) ?_;simp only[ZE,seval,waa,r3,hw,bne_self_eq_false];refine EFn.p ?_;simp only[ZE,seval];refine ECall.i (a4) ?_;simp only[ZE,seval];refine⟨by kernel_rfl,ECall'.i a5 ?_⟩;simp only[ZE,seval];refine ECall'.i a6 ?_;simp only[ZE,seval];refine ECall'.i a7 ?_;simp only[ZE,seval];refine ECall'.i a6 ?_;simp only[ZE,seval]
end Go.Proofs.YtplfjjgkbnolhaaGreatDoor
