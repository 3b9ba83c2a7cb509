/-
 CONTRACTS and plain laws. Conditions: those of each law.
-/
import Derived.Test.YtbenhdgpogiadaaGreatK6
import Derived.Test.YtbenhdgpogiadaaGreatGRb
import Derived.Test.YtbenhdgpogiadaaGreatK3
import Derived.Test.YtbenhdgpogiadaaGreatK5
set_option linter.unusedSimpArgs false
set_option linter.unusedVariables false
namespace Go.Proofs.YtbenhdgpogiadaaGreat
open Go.Aw
open Nat renaming reduceEqDiff->pE,reduceLT->pL,reduceAdd->pA,reduceSub->pS,reduceMul->pM,reduceLeDiff->pD
open Int renaming reduceToNat->qT,reduceGT->qG,reduceLT->qL,reduceGE->qH,reduceBNe->qN,reduceBEq->qB,reduceLE->qE,reduceNe->qO,reduceAdd->qA,reduceNeg->qM
set_option maxRecDepth 100000
set_option maxHeartbeats 40000000
theorem rowsModule(f:List Module):zcY 4 (f.map zaC):=by
 intro y hy;obtain⟨q,_,rfl⟩:=List.mem_map.1 hy;exact⟨rfl,fun d hd=>by simp only[zaC,List.mem_cons,List.not_mem_nil,or_false]at hd; rcases hd with rfl | rfl | rfl | rfl <;> simp[eS,zd7,zbU,D.one,Value.oneCell']⟩
def eK3(k:K3):List D:=[eU8 k.a,eU8 k.b,eU8 k.c]
theorem zw7(f:List Module)(n:Nat)(hg:Gi n f)(hn:n<=100)(l:List K3)(hl: ∀k∈l,k.ok):FnP Tryz.prog 85 [.agg [zaz f],.sl (l.map eK3)] (.d (.agg [zaz (zfO f l)])) []:=by
 refine FnP.of_eC (own:=[]) (fun i=>[]) zat Tryz.func85 rfl Tryz.call85 Tryz.ntmps85 (Nat.le_of_ble_eq_true rfl) Tryz.results85 (fun hok=> ?_);unfold zfO;have hT6:(l.take 6).length <=6:=by rw[List.length_take]; omega
 have hTl:(l.take 6).length <=l.length:=by rw[List.length_take]; omega
 simp(maxSteps:=4000000) only[ZE,↓reduceIte,pE,pL,pA,pS,pM,pD,zN,qT,qG,qL,qH,qN,qB,qE,qO,qA,qM,List.length_map];refine za2 (fun i=>if i=2011 then [.ord ⟨[(0,none),(1,none),(2,none),(3,none),(4,none),(5,none),(6,none),(7,some []),(8,some [])]⟩]else if i=11 then [.rnm [(2,2),(4,4),(6,6),(76,25)]]else if i=2014 then [.ord ⟨[(0,none),(1,none),(2,none),(3,none),(4,none),(5,none),(6,none),(7,none),(8,none),(9,some [])]⟩]else if i=1015 then [.frz 25]else []) zat (l.take 6).length (fun _=>True) (fun i=>([(1,.d (.sl (l.map eK3))),(2,.bp 2 0),(4,.bp 4 0),(5,.d (eI i))],[(2,.box [.d (zaz (((l.take 6).take i).foldl edS f))]),(4,.box [.nils])])) trivial ?_ ?_ (fun i hi _=> ?_)
 ·simp(maxSteps:=4000000) only[ZE,↓reduceIte,pE,pL,pA,pS,pM,pD]
 ·simp(maxSteps:=4000000) only[ZE,↓reduceIte,pE,pL,pA,pS,pM,pD,List.take_zero,List.foldl_nil]
 rcases Nat.lt_or_ge i (l.take 6).length with h | h
 ·have hw:=zas (show i<9223372036854775807 by omega);have h6:i<6:=by omega
  have hil:i<l.length:=by omega
  obtain⟨k,hk⟩:=zX (l[i]);have hko:=hl k (hk▸List.getElem_mem hil);have hst:((l.take 6).take (i+1)).foldl edS f=edS (((l.take 6).take i).foldl edS f) k:=by
   rw[List.take_succ_eq_append_getElem h,List.foldl_append];simp[hk]
  have hgi:=gi_fold ((l.take 6).take i) n f hg;have hli:((l.take 6).take i).length <=6:=by rw[List.length_take]; omega
  obtain⟨F,hF⟩:=zX (((l.take 6).take i).foldl edS f);rw[hF]at hst hgi;rw[hst,hF];have hFl:F.length<=200:=by have:=hgi.len; omega
  obtain⟨ka,kb,kc⟩:=hko;have d1:=zax hil;have d2:decide ((i:Int)<6)=true:=decide_eq_true (by omega);have hm4:(k.c:Int).tmod 4=((k.c % 4:Nat):Int):=(Int.ofNat_tmod k.c 4).symm;have hm8:(k.a:Int).tmod 8=((k.a % 8:Nat):Int):=(Int.ofNat_tmod k.a 8).symm;have hr4:k.c % 4<4:=Nat.mod_lt _ (by decide);have hw8:IntKind.u8.wrap (((k.c % 4:Nat):Int)+1)=((k.c % 4+1:Nat):Int):=by
   unfold IntKind.wrap; simp[IntKind.bits,IntKind.signed]; omega
  have hwb:IntKind.i64.wrap (k.b:Int)=(k.b:Int):=zaQ (by omega) (by omega);have hnx:=nameX_eq (k.c % 4) hr4;have hes:=ext_size (k.c % 4) hr4;have e4:(⟨#[100,101,102,103]⟩:ByteArray).size =4:=rfl;have fc:=rfind_c F (nameX (k.c % 4));have rm:zcY 4 (F.map zaC):=rowsModule F;have hzz:zhd (fun m:Module=>decide (m.name=nameX (k.c % 4))) F=atX F k:=rfl;rw[hzz]at fc;have hzl:atX F k<(F.length:Int):=zxg _ _;obtain⟨z,hz⟩:=zX (atX F k);rw[hz]at fc hzl;unfold edS;rw[hz];obtain⟨q,hq⟩:=zX (k.a % 8);rw[hq]at hm8;rw[hq];simp(maxSteps:=4000000) only[ZE,↓reduceIte,pE,pL,pA,pS,pM,pD]at fc;simp(maxSteps:=200000) only[ZE,↓reduceIte,pE,pL,pA,pS,pM,pD,zN,qT,qG,qL,qH,qN,qB,qE,qO,qA,qM,hm4,hm8,hw8,hnx,hes,hwb,Int.toNat_natCast,List.map_nil,List.length_map,d1,d2,zal hil,zaa hil,hk,eK3];refine⟨⟨rm,by omega,by omega⟩,by decide,by decide,⟨by omega,by omega,by rw[e4]; omega⟩,by decide,?_⟩;refine EFn.p ?_;simp(maxSteps:=4000000) only[ZE,↓reduceIte,pE,pL,pA,pS,pM,pD];refine zar.i fc ?_;by_cases q7:q=7/\z<0
  ·have e7:((q:Int)==7)=true:=by rw[q7.1]; rfl
   have zb:decide (z<0)=true:=decide_eq_true q7.2;rw[if_pos q7];have nc:=further_c sR1 k.b (by omega);have hrw:sR1.1=⟨#[114]⟩:=rfl;simp(maxSteps:=4000000) only[ZE,↓reduceIte,pE,pL,pA,pS,pM,pD,hrw]at nc;simp(maxSteps:=200000) only[ZE,↓reduceIte,pE,pL,pA,pS,pM,pD,zN,qT,qG,qL,qH,qN,qB,qE,qO,qA,qM,hm4,hm8,hw8,hnx,hes,hwb,Int.toNat_natCast,List.map_nil,List.length_map,e7,zb];refine⟨by decide,?_⟩;refine EFn.p ?_;simp(maxSteps:=4000000) only[ZE,↓reduceIte,pE,pL,pA,pS,pM,pD];refine zar.i nc ?_;have hck:(clockN 0).1 =⟨#[99,108,107]⟩:=rfl;simp(maxSteps:=200000) only[ZE,↓reduceIte,pE,pL,pA,pS,pM,pD,zN,qT,qG,qL,qH,qN,qB,qE,qO,qA,qM,hm4,hm8,hw8,hnx,hes,hwb,Int.toNat_natCast,List.map_nil,List.length_map,e7,zb,List.length_append,List.length_cons,List.length_nil,List.map_append,List.map_cons,Nat.add_zero,Nat.zero_add,newM,hck,hw];exact⟨⟨by omega,by omega⟩,h⟩
  rw[if_neg q7];by_cases q7':q=7
  ·have e7:((q:Int)==7)=true:=by rw[q7']; rfl
   have e6:((q:Int)==6)=false:=by rw[q7']; rfl
   have zb:decide (z<0)=false:=decide_eq_false (by omega);rw[if_neg (fun hh=>by have:=hh.1; omega)];by_cases f0:F.length=0
   ·have fb:decide ((F.length:Int)>0)=false:=decide_eq_false (by omega);have fb':decide (0<(F.length:Int))=false:=decide_eq_false (by omega);rw[if_pos f0];simp(maxSteps:=200000) only[ZE,↓reduceIte,pE,pL,pA,pS,pM,pD,zN,qT,qG,qL,qH,qN,qB,qE,qO,qA,qM,hm4,hm8,hw8,hnx,hes,hwb,Int.toNat_natCast,List.map_nil,List.length_map,e7,e6,zb,fb,fb',hw];exact⟨by decide,by decide,h⟩
   ·have fb:decide ((F.length:Int)>0)=true:=decide_eq_true (by omega);have fb':decide (0<(F.length:Int))=true:=decide_eq_true (by omega);rw[if_neg f0];have hmb:(k.b:Int).tmod (F.length:Int)=((k.b % F.length:Nat):Int):=(Int.ofNat_tmod k.b F.length).symm;have hjl:k.b % F.length<F.length:=Nat.mod_lt _ (by omega);obtain⟨j,hj⟩:=zX (k.b % F.length);rw[hj]at hmb hjl ⊢;have fz: ¬((F.length:Int)=0):=(by omega);obtain⟨M,hM⟩:=zX (F[j]);have hMg:F.getD j zdQ=M:=(by simp[List.getD,hjl,hM]);rw[hMg];have mc:=modM_c M k ⟨ka,kb,kc⟩ (by have:=(hgi.fine M (hM▸List.getElem_mem hjl)).items; omega);have hS:(F.map zaC).set j (zaC (zvk M k))=(F.set j (zvk M k)).map zaC:=(by rw[List.map_set]);have hRl:(F.set j (zvk M k)).length =F.length:=List.length_set;obtain⟨R,hR⟩:=zX (F.set j (zvk M k));rw[hR]at hS hRl ⊢;obtain⟨Q,hQ⟩:=zX (zvk M k);rw[hQ]at hS mc;simp(maxSteps:=4000000) only[ZE,↓reduceIte,pE,pL,pA,pS,pM,pD]at hS mc;simp(maxSteps:=200000) only[ZE,↓reduceIte,pE,pL,pA,pS,pM,pD,zN,qT,qG,qL,qH,qN,qB,qE,qO,qA,qM,hm4,hm8,hw8,hnx,hes,hwb,Int.toNat_natCast,List.map_nil,List.length_map,e7,e6,zb,fb,fb',hw,hwb,hmb,zal hjl,zaa hjl,hM];refine⟨by decide,by decide,fz,by kernel_rfl,hjl,zay.i mc ?_⟩;simp(maxSteps:=200000) only[ZE,↓reduceIte,pE,pL,pA,pS,pM,pD,zN,qT,qG,qL,qH,qN,qB,qE,qO,qA,qM,hm4,hm8,hw8,hnx,hes,hwb,Int.toNat_natCast,List.map_nil,List.length_map,e7,e6,zb,fb,fb',hw,hwb,hmb,zal hjl,zaa hjl,hM,hS,hRl];exact⟨hjl,h⟩
  have e7:((q:Int)==7)=false:=beq_eq_false_iff_ne.2 (by omega);by_cases q6:q=6/\0<=z
  ·have e6:((q:Int)==6)=true:=by rw[q6.1]; rfl
   have zb:decide (z>=0)=true:=decide_eq_true q6.2;have zb':decide (0<=z)=true:=decide_eq_true q6.2;rw[if_pos q6];obtain⟨j,rfl⟩: ∃j:Nat,z=(j:Int):=⟨z.toNat,by omega⟩;have hj:j<F.length:=by omega
   have hw1:=zas (show j<9223372036854775807 by omega);have hE:List.take j (List.map zaC F)++List.drop (j+1) (List.map zaC F)=(F.eraseIdx j).map zaC:=by
    rw[List.eraseIdx_eq_take_drop_succ,List.map_append,List.map_take,List.map_drop]
   have hEl:(F.eraseIdx j).length =j+(F.length-(j+1)):=by rw[List.length_eraseIdx_of_lt hj]; omega
   simp(maxSteps:=200000) only[ZE,↓reduceIte,pE,pL,pA,pS,pM,pD,zN,qT,qG,qL,qH,qN,qB,qE,qO,qA,qM,hm4,hm8,hw8,hnx,hes,hwb,Int.toNat_natCast,List.map_nil,List.length_map,e7,e6,zb,zb',hw1,hE,hEl,hw];exact⟨by decide,by decide,by kernel_rfl,⟨by omega,by omega,by omega⟩,⟨by omega,by omega,by omega,by omega⟩,⟨⟨by omega,by omega⟩,fun y hy=>rm y (List.mem_of_mem_drop hy)⟩,h⟩
  rw[if_neg q6];by_cases q6':q=6
  ·have e6:((q:Int)==6)=true:=by rw[q6']; rfl
   have zb:decide (z>=0)=false:=decide_eq_false (by omega);have zb':decide (0<=z)=false:=decide_eq_false (by omega);by_cases f0:F.length=0
   ·have fb:decide ((F.length:Int)>0)=false:=decide_eq_false (by omega);have fb':decide (0<(F.length:Int))=false:=decide_eq_false (by omega);rw[if_pos f0];simp(maxSteps:=200000) only[ZE,↓reduceIte,pE,pL,pA,pS,pM,pD,zN,qT,qG,qL,qH,qN,qB,qE,qO,qA,qM,hm4,hm8,hw8,hnx,hes,hwb,Int.toNat_natCast,List.map_nil,List.length_map,e7,e6,zb,zb',fb,fb',hw];exact⟨by decide,by decide,h⟩
   ·have fb:decide ((F.length:Int)>0)=true:=decide_eq_true (by omega);have fb':decide (0<(F.length:Int))=true:=decide_eq_true (by omega);rw[if_neg f0];have hmb:(k.b:Int).tmod (F.length:Int)=((k.b % F.length:Nat):Int):=(Int.ofNat_tmod k.b F.length).symm;have hjl:k.b % F.length<F.length:=Nat.mod_lt _ (by omega);obtain⟨j,hj⟩:=zX (k.b % F.length);rw[hj]at hmb hjl ⊢;have fz: ¬((F.length:Int)=0):=(by omega);obtain⟨M,hM⟩:=zX (F[j]);have hMg:F.getD j zdQ=M:=(by simp[List.getD,hjl,hM]);rw[hMg];have mc:=modM_c M k ⟨ka,kb,kc⟩ (by have:=(hgi.fine M (hM▸List.getElem_mem hjl)).items; omega);have hS:(F.map zaC).set j (zaC (zvk M k))=(F.set j (zvk M k)).map zaC:=(by rw[List.map_set]);have hRl:(F.set j (zvk M k)).length =F.length:=List.length_set;obtain⟨R,hR⟩:=zX (F.set j (zvk M k));rw[hR]at hS hRl ⊢;obtain⟨Q,hQ⟩:=zX (zvk M k);rw[hQ]at hS mc;simp(maxSteps:=4000000) only[ZE,↓reduceIte,pE,pL,pA,pS,pM,pD]at hS mc;simp(maxSteps:=200000) only[ZE,↓reduceIte,pE,pL,pA,pS,pM,pD,zN,qT,qG,qL,qH,qN,qB,qE,qO,qA,qM,hm4,hm8,hw8,hnx,hes,hwb,Int.toNat_natCast,List.map_nil,List.length_map,e7,e6,zb,zb',fb,fb',hw,hwb,hmb,zal hjl,zaa hjl,hM];refine⟨by decide,by decide,fz,by kernel_rfl,hjl,zay.i mc ?_⟩;simp(maxSteps:=200000) only[ZE,↓reduceIte,pE,pL,pA,pS,pM,pD,zN,qT,qG,qL,qH,qN,qB,qE,qO,qA,qM,hm4,hm8,hw8,hnx,hes,hwb,Int.toNat_natCast,List.map_nil,List.length_map,e7,e6,zb,zb',fb,fb',hw,hwb,hmb,zal hjl,zaa hjl,hM,hS,hRl];exact⟨hjl,h⟩
  ·have e6:((q:Int)==6)=false:=beq_eq_false_iff_ne.2 (by omega);by_cases f0:F.length=0
   ·have fb:decide ((F.length:Int)>0)=false:=decide_eq_false (by omega);have fb':decide (0<(F.length:Int))=false:=decide_eq_false (by omega);rw[if_pos f0];simp(maxSteps:=200000) only[ZE,↓reduceIte,pE,pL,pA,pS,pM,pD,zN,qT,qG,qL,qH,qN,qB,qE,qO,qA,qM,hm4,hm8,hw8,hnx,hes,hwb,Int.toNat_natCast,List.map_nil,List.length_map,e7,e6,fb,fb',hw];exact⟨by decide,by decide,h⟩
   ·have fb:decide ((F.length:Int)>0)=true:=decide_eq_true (by omega);have fb':decide (0<(F.length:Int))=true:=decide_eq_true (by omega);rw[if_neg f0];have hmb:(k.b:Int).tmod (F.length:Int)=((k.b % F.length:Nat):Int):=(Int.ofNat_tmod k.b F.length).symm;have hjl:k.b % F.length<F.length:=Nat.mod_lt _ (by omega);obtain⟨j,hj⟩:=zX (k.b % F.length);rw[hj]at hmb hjl ⊢;have fz: ¬((F.length:Int)=0):=(by omega);obtain⟨M,hM⟩:=zX (F[j]);have hMg:F.getD j zdQ=M:=(by simp[List.getD,hjl,hM]);rw[hMg];have mc:=modM_c M k ⟨ka,kb,kc⟩ (by have:=(hgi.fine M (hM▸List.getElem_mem hjl)).items; omega);have hS:(F.map zaC).set j (zaC (zvk M k))=(F.set j (zvk M k)).map zaC:=(by rw[List.map_set]);have hRl:(F.set j (zvk M k)).length =F.length:=List.length_set;obtain⟨R,hR⟩:=zX (F.set j (zvk M k));rw[hR]at hS hRl ⊢;obtain⟨Q,hQ⟩:=zX (zvk M k);rw[hQ]at hS mc;simp(maxSteps:=4000000) only[ZE,↓reduceIte,pE,pL,pA,pS,pM,pD]at hS mc;simp(maxSteps:=200000) only[ZE,↓reduceIte,pE,pL,pA,pS,pM,pD,zN,qT,qG,qL,qH,qN,qB,qE,qO,qA,qM,hm4,hm8,hw8,hnx,hes,hwb,Int.toNat_natCast,List.map_nil,List.length_map,e7,e6,fb,fb',hw,hwb,hmb,zal hjl,zaa hjl,hM];refine⟨by decide,by decide,fz,by kernel_rfl,hjl,zay.i mc ?_⟩;simp(maxSteps:=200000) only[ZE,↓reduceIte,pE,pL,pA,pS,pM,pD,zN,qT,qG,qL,qH,qN,qB,qE,qO,qA,qM,hm4,hm8,hw8,hnx,hes,hwb,Int.toNat_natCast,List.map_nil,List.length_map,e7,e6,fb,fb',hw,hwb,hmb,zal hjl,zaa hjl,hM,hS,hRl];exact⟨hjl,h⟩
 ·have:i=(l.take 6).length :=by omega
  subst this;rw[List.take_length];rcases Nat.lt_or_ge (l.take 6).length l.length with h1 | h1
  ·have h6:(l.take 6).length =6:=by rw[List.length_take]; rw[List.length_take]at h1; omega
   have d1:=zax h1;have d2:decide (((l.take 6).length :Int)<6)=false:=decide_eq_false (by omega);simp(maxSteps:=200000) only[ZE,↓reduceIte,pE,pL,pA,pS,pM,pD,zN,qT,qG,qL,qH,qN,qB,qE,qO,qA,qM,d1,d2,List.length_map]
  ·have d1:=zaI h1;simp(maxSteps:=200000) only[ZE,↓reduceIte,pE,pL,pA,pS,pM,pD,zN,qT,qG,qL,qH,qN,qB,qE,qO,qA,qM,d1,List.length_map]
def e72(a b c:List K3):D:=.agg [.sl (a.map eK3),.sl (b.map eK3),.sl (c.map eK3)]
def ziJ(x:Raw)(a:List K3):List Module:=zfO (zdF x) a
theorem zop(x:Raw)(a:List K3):Gi 6 (ziJ x a):=gi_edited (gi_made x) a
theorem zoq(x:Raw)(a b:List K3):Gi 12 (zfO (ziJ x a) b):=gi_edited (zop x a) b
theorem zrU(x:Raw)(hx:x.ok)(a b c:List K3)(ha: ∀k∈a,k.ok)(hb: ∀k∈b,k.ok)(hc: ∀k∈c,k.ok):FnP Tryz.prog 32 [zeL x,e72 a b c] (.d (.agg [zaz (ziJ x a),zaz (zfO (ziJ x a) b),zaz (zfO (ziJ x a) c)])) []:=by
 refine FnP.of_eC (own:=[]) (fun i=>if i=2001 then [.flt ⟨[(0,none),(1,none),(2,none),(3,none),(4,none),(6,some [])]⟩ ⟨[5],[(6,[5])]⟩]else if i=2002 then [.ord ⟨[(0,none),(1,none),(2,none),(3,none),(4,none),(5,none),(6,none),(7,none),(8,none),(9,none),(10,some [])]⟩]else []) zat Tryz.func32 rfl Tryz.call32 Tryz.ntmps32 (Nat.le_of_ble_eq_true rfl) Tryz.results32 (fun hok=> ?_);have mc:=zie x hx;have e0:=zw7 (zdF x) 0 (gi_made x) (by omega) a ha;have h0:zfO (zdF x) a=ziJ x a:=rfl;rw[h0]at e0;have e1:=zw7 (ziJ x a) 6 (zop x a) (by omega) b hb;have e2:=zw7 (ziJ x a) 6 (zop x a) (by omega) c hc;obtain⟨M,hM⟩:=zX (zdF x);obtain⟨B,hB⟩:=zX (ziJ x a);obtain⟨X,hX⟩:=zX (zfO (ziJ x a) b);obtain⟨Y,hY⟩:=zX (zfO (ziJ x a) c);rw[hX]at e1;rw[hY]at e2;rw[hX,hY];rw[hM]at mc e0;rw[hB]at e0 e1 e2 ⊢;simp(maxSteps:=4000000) only[ZE,↓reduceIte,pE,pL,pA,pS,pM,pD,zeL]at mc;simp(maxSteps:=4000000) only[ZE,↓reduceIte,pE,pL,pA,pS,pM,pD]at e0 e1 e2;simp(maxSteps:=4000000) only[ZE,↓reduceIte,pE,pL,pA,pS,pM,pD,zN,qT,qG,qL,qH,qN,qB,qE,qO,qA,qM,e72,zeL];refine⟨by kernel_rfl,zay.i mc ?_⟩;simp(maxSteps:=4000000) only[ZE,↓reduceIte,pE,pL,pA,pS,pM,pD,zN,qT,qG,qL,qH,qN,qB,qE,qO,qA,qM];refine zay.i e0 ?_;simp(maxSteps:=4000000) only[ZE,↓reduceIte,pE,pL,pA,pS,pM,pD,zN,qT,qG,qL,qH,qN,qB,qE,qO,qA,qM];refine⟨by kernel_rfl,zay.i e1 ?_⟩;simp(maxSteps:=4000000) only[ZE,↓reduceIte,pE,pL,pA,pS,pM,pD,zN,qT,qG,qL,qH,qN,qB,qE,qO,qA,qM];refine zay.i e2 ?_;simp(maxSteps:=4000000) only[ZE,↓reduceIte,pE,pL,pA,pS,pM,pD,zN,qT,qG,qL,qH,qN,qB,qE,qO,qA,qM]
def sideR(b x y:List Module)(p:Place):AV:=if [b,x,y].all zgo=true then .tup [.d (eI (zf9 (zbu b) (zbu x) (zbu y) p)),.d (eI 0)]else .tup [.d (eI 0),.d (eI 1)]
theorem mside_c(b x y:List Module)(hb:Sz b)(hx:Sz x)(hy:Sz y)(p:Place):FnP Tryz.prog 96 [.agg [zaz b],.agg [zaz x],.agg [zaz y],.agg (zaL p)] (sideR b x y p) []:=by
 refine FnP.of_eC (own:=[]) (fun _=>[]) zat Tryz.func96 rfl Tryz.call96 Tryz.ntmps96 (Nat.le_of_ble_eq_true rfl) Tryz.results96 (fun hok=> ?_);have oc:=zrY [b,x,y] (fun f hf=>by simp only[List.mem_cons,List.not_mem_nil,or_false]at hf; rcases hf with rfl | rfl | rfl <;> assumption) (by simp);unfold openR at oc;unfold sideR;simp only[List.map_cons,List.map_nil]at oc;cases hp:[b,x,y].all zgo with
 | false=>
  rw[hp]at oc;simp(maxSteps:=4000000) only[ZE,↓reduceIte,pE,pL,pA,pS,pM,pD,Bool.false_eq_true]at oc;simp(maxSteps:=200000) only[ZE,↓reduceIte,pE,pL,pA,pS,pM,pD,zN,qT,qG,qL,qH,qN,qB,qE,qO,qA,qM,Bool.false_eq_true,zaL];refine EFn.p ?_;simp(maxSteps:=4000000) only[ZE,↓reduceIte,pE,pL,pA,pS,pM,pD];refine zar.i oc ?_;simp(maxSteps:=200000) only[ZE,↓reduceIte,pE,pL,pA,pS,pM,pD,zN,qT,qG,qL,qH,qN,qB,qE,qO,qA,qM]
  trace_state
 | true=>
  rw[hp]at oc;simp only[List.all_cons,List.all_nil,Bool.and_true,Bool.and_eq_true]at hp;have sc:=side_c b x y ((zbW _).1 hp.1) ((zbW _).1 hp.2.1) ((zbW _).1 hp.2.2) p;obtain⟨n,hn⟩:=zX (zf9 (zbu b) (zbu x) (zbu y) p);rw[hn]at sc ⊢;unfold eC3 at sc;obtain⟨B,hB⟩:=zX (zdn b);obtain⟨X,hX⟩:=zX (zdn x);obtain⟨Y,hY⟩:=zX (zdn y);rw[hB,hX,hY]at sc oc;simp(maxSteps:=4000000) only[ZE,↓reduceIte,pE,pL,pA,pS,pM,pD,zaL]at sc oc;simp(maxSteps:=200000) only[ZE,↓reduceIte,pE,pL,pA,pS,pM,pD,zN,qT,qG,qL,qH,qN,qB,qE,qO,qA,qM,zaL];refine EFn.p ?_;simp(maxSteps:=4000000) only[ZE,↓reduceIte,pE,pL,pA,pS,pM,pD];refine zar.i oc ?_;simp(maxSteps:=200000) only[ZE,↓reduceIte,pE,pL,pA,pS,pM,pD,zN,qT,qG,qL,qH,qN,qB,qE,qO,qA,qM];refine EFn.p ?_;simp(maxSteps:=4000000) only[ZE,↓reduceIte,pE,pL,pA,pS,pM,pD];refine zar.i sc ?_;simp(maxSteps:=200000) only[ZE,↓reduceIte,pE,pL,pA,pS,pM,pD,zN,qT,qG,qL,qH,qN,qB,qE,qO,qA,qM]
  trace_state
theorem indexQ_o(l:List Place)(g:Nat)(c:D)(p:Place->Bool)(hf: ∀b∈l,FnP Tryz.prog g [.agg (zaL b),c] (.d (eB (p b))) [])(hl:l.length<=4000000):FnL Tryz.prog 177 [.ar 0 l.length,.d (.clo (.func g) [] [c])] [(0,.arr 166 3 .flat (l.map zaL))] (fun V ol new=>V= .d (eI (zhd p l))/\ol=[(0,.arr 166 3 .flat (l.map zaL))]/\new=[]):=by
 refine FnL.of_eC (own:=[]) (fun _=>[]) [0] zat Tryz.func177 rfl Tryz.call177 Tryz.ntmps177 (Nat.le_of_ble_eq_true rfl) Tryz.results177 ?_;simp(maxSteps:=4000000) only[ZE,↓reduceIte,pE,pL,pA,pS,pM,pD,zN,qT,qG,qL,qH,qN,qB,qE,qO,qA,qM,List.length_map];refine za2 (fun _=>[]) zat l.length (fun i=> ∀j (_:j<i) (hj:j<l.length),p l[j]=false) (fun i=>([(0,.ar 0 l.length),(1,.d (.clo (.func g) [] [c])),(7,.d (eI l.length)),(8,.d (eI i))],[(0,.arr 166 3 .flat (l.map zaL))])) (by simp) ?_ ?_ (fun i hi hI=> ?_)
 ·simp(maxSteps:=4000000) only[ZE,↓reduceIte,pE,pL,pA,pS,pM,pD]
 ·simp(maxSteps:=4000000) only[ZE,↓reduceIte,pE,pL,pA,pS,pM,pD]
 rcases Nat.lt_or_ge i l.length with h | h
 ·have hw:=zas (show i<9223372036854775807 by omega);have hc:=hf l[i] (List.getElem_mem h);obtain⟨q,hq⟩:=zX (l[i]);rw[hq]at hc;simp(maxSteps:=4000000) only[ZE,↓reduceIte,pE,pL,pA,pS,pM,pD,zaL]at hc;simp(maxSteps:=4000000) only[ZE,↓reduceIte,pE,pL,pA,pS,pM,pD,zax h,zal h,zaa h,hq,zN,qT,qG,qL,qH,qN,qB,qE,qO,qA,qM,List.length_map,zaL];refine⟨h,?_⟩;refine EFn.p ?_;simp(maxSteps:=4000000) only[ZE,↓reduceIte,pE,pL,pA,pS,pM,pD];refine zar.i hc ?_;cases hp:p q with
  | true=>
   have e:zhd p l=(i:Int):=zeO h (by rw[hq]; exact hp) hI;simp(maxSteps:=4000000) only[ZE,↓reduceIte,pE,pL,pA,pS,pM,pD,zN,qT,qG,qL,qH,qN,qB,qE,qO,qA,qM,hw,e];refine⟨[],[],?_⟩;simp(maxSteps:=4000000) only[ZE,↓reduceIte,pE,pL,pA,pS,pM,pD]
  | false=>
   simp(maxSteps:=4000000) only[ZE,↓reduceIte,pE,pL,pA,pS,pM,pD,zN,qT,qG,qL,qH,qN,qB,qE,qO,qA,qM,hw];refine⟨h,fun j hj hj'=> ?_⟩;rcases Nat.lt_succ_iff_lt_or_eq.1 hj with hj | rfl
   ·exact hI j hj hj'
   ·rw[hq]; exact hp
 ·have e:zhd p l= -1:=zff (fun j hj=>hI j (by omega) hj);simp(maxSteps:=4000000) only[ZE,↓reduceIte,pE,pL,pA,pS,pM,pD,zaI h,zN,qT,qG,qL,qH,qN,qB,qE,qO,qA,qM,e,List.length_map];refine⟨[],[],?_⟩;simp(maxSteps:=4000000) only[ZE,↓reduceIte,pE,pL,pA,pS,pM,pD]
theorem filt_take{p:Place->Bool}{l:List Place}{k:Nat}(h:k<l.length):((l.take (k+1)).filter fun q=> !p q)=((l.take k).filter fun q=> !p q)++if p l[k]=true then []else [l[k]]:=by
 rw[List.take_succ_eq_append_getElem h,List.filter_append];congr 1;cases hp:p l[k] <;> simp[hp]
theorem delQ_c(l:List Place)(g:Nat)(c:D)(p:Place->Bool)(hf: ∀q∈l,FnP Tryz.prog g [.agg (zaL q),c] (.d (eB (p q))) [])(hl:l.length<=4000000):FnL Tryz.prog 136 [.ar 0 l.length,.d (.clo (.func g) [] [c])] [(0,.arr 166 3 .flat (l.map zaL))] (fun V ol new=>V= .d (.sl ((l.filter fun q=> !p q).map zaL))/\ol=[]/\new=[]):=by
 refine FnL.of_eC (own:=[]) (fun _=>[]) [] zat Tryz.func136 rfl Tryz.call136 Tryz.ntmps136 (Nat.le_of_ble_eq_true rfl) Tryz.results136 ?_;have ic:=indexQ_o l g c p hf hl;obtain⟨z,hz⟩:=zX (zhd p l);rw[hz]at ic;simp(maxSteps:=4000000) only[ZE,↓reduceIte,pE,pL,pA,pS,pM,pD,zN,qT,qG,qL,qH,qN,qB,qE,qO,qA,qM,List.length_map];refine EFn.gV [(0,0)] ic ?_ ?_
 ·simp(maxSteps:=4000000) only[ZE,↓reduceIte,pE,pL,pA,pS,pM,pD]
 rintro V ol new ⟨rfl,rfl,rfl⟩;by_cases z0:z<0
 ·have hno: ∀q∈l,p q=false:=zxh (by rw[hz]; exact z0);have hfl:(l.filter fun q=> !p q)=l:=List.filter_eq_self.2 fun q hq=>by rw[hno q hq]; rfl
  have z1:z= -1:=by
   have:zhd p l= -1:=zff fun j hj=>hno _ (List.getElem_mem hj);rw[<-hz,this]
  have e1:(z== -1)=true:=by rw[z1]; rfl
  rw[hfl];simp(maxSteps:=4000000) only[ZE,↓reduceIte,pE,pL,pA,pS,pM,pD,zN,qT,qG,qL,qH,qN,qB,qE,qO,qA,qM,e1,List.length_map];refine⟨[0],[],?_⟩;simp(maxSteps:=4000000) only[ZE,↓reduceIte,pE,pL,pA,pS,pM,pD]
 ·obtain⟨i0,rfl⟩: ∃i0:Nat,z=(i0:Int):=⟨z.toNat,by omega⟩;obtain⟨hi0,hp0,hmin⟩:=zqA hz;have e1:((i0:Int)== -1)=false:=beq_eq_false_iff_ne.2 (by omega);have hw0:=zas (show i0<9223372036854775807 by omega);simp(maxSteps:=4000000) only[ZE,↓reduceIte,pE,pL,pA,pS,pM,pD,zN,qT,qG,qL,qH,qN,qB,qE,qO,qA,qM,e1,List.length_map,hw0];have hK0:((l.take (i0+1)).filter fun q=> !p q)=l.take i0:=by
   rw[filt_take hi0,if_pos hp0,List.append_nil];refine List.filter_eq_self.2 fun q hq=> ?_;obtain⟨j,hj,rfl⟩:=List.mem_take_iff_getElem.1 hq;rw[hmin j (by omega)]; rfl
  have hK0l:((l.take (i0+1)).filter fun q=> !p q).length =i0:=by rw[hK0,List.length_take]; omega
  refine zg3 (X:=List Place) (fun _ _=>[]) zat (l.length-(i0+1)) (fun r (A:List Place)=>A.length=l.length/\A.take ((l.take (i0+1+r)).filter fun q=> !p q).length =((l.take (i0+1+r)).filter fun q=> !p q)/\((l.take (i0+1+r)).filter fun q=> !p q).length <=i0+r/\ ∀s,i0+1+r<=s->A[s]? =l[s]?)
   (fun r A=>([(0,.ar 0 l.length),(1,.d (.clo (.func g) [] [c])),(5,.d (eI (((l.take (i0+1+r)).filter fun q=> !p q).length :Nat))),(6,.d (eI ((i0+1+r:Nat):Int)))],[(0,.arr 166 3 .flat (A.map zaL))])) l ?_ ?_ ?_ (fun r A hr hJ=> ?_)
  ·refine⟨rfl,?_,by rw[Nat.add_zero,hK0l]; omega,fun _ _=>rfl⟩;rw[Nat.add_zero,hK0l,hK0]
  ·rw[Nat.add_zero,hK0l];simp(maxSteps:=4000000) only[ZE,↓reduceIte,pE,pL,pA,pS,pM,pD]
  ·simp(maxSteps:=4000000) only[ZE,↓reduceIte,pE,pL,pA,pS,pM,pD]
  obtain⟨hA1,hA2,hK1,hA3⟩:=hJ;rcases Nat.lt_or_ge r (l.length-(i0+1))with h | h
  ·have hr1:i0+1+r<l.length:=by omega
   have hlt:=zax hr1;have hw:=zas (show i0+1+r<9223372036854775807 by omega);have hB:i0+1+r<A.length:=by omega
   obtain⟨q,hq⟩:=zX (l[i0+1+r]);have hAq:A[i0+1+r]=q:=by
    have:=hA3 (i0+1+r) (Nat.le_refl _);rw[List.getElem?_eq_getElem hB,List.getElem?_eq_getElem hr1,hq]at this;exact Option.some.inj this
   have hc:=hf q (hq▸List.getElem_mem hr1);have ht:=filt_take (p:=p) hr1;rw[hq,show i0+1+r+1=i0+1+(r+1)from rfl]at ht;have hix:i0+1+(r+1)=i0+1+r+1:=rfl;obtain⟨K,hK⟩:=zX (((l.take (i0+1+r)).filter fun q=> !p q));rw[hK]at hA2 hK1 ht;rw[hK];simp(maxSteps:=4000000) only[ZE,↓reduceIte,pE,pL,pA,pS,pM,pD,zaL]at hc;simp(maxSteps:=4000000) only[ZE,↓reduceIte,pE,pL,pA,pS,pM,pD,hlt,hA1,zal hB,zaa hB,hAq,zN,qT,qG,qL,qH,qN,qB,qE,qO,qA,qM,List.length_map,zaL];refine⟨⟨by omega,by omega⟩,hr1,?_⟩;refine EFn.p ?_;simp(maxSteps:=4000000) only[ZE,↓reduceIte,pE,pL,pA,pS,pM,pD];refine zar.i hc ?_;cases hp:p q with
   | true=>
    rw[hp,if_pos rfl,List.append_nil]at ht;simp(maxSteps:=4000000) only[ZE,↓reduceIte,pE,pL,pA,pS,pM,pD,zN,qT,qG,qL,qH,qN,qB,qE,qO,qA,qM,hw];simp only[zeq];refine⟨h,A,⟨hA1,by rw[ht]; exact hA2,by rw[ht]; omega,fun s hs=>hA3 s (by omega)⟩,?_⟩;rw[ht];simp(maxSteps:=4000000) only[ZE,↓reduceIte,pE,pL,pA,pS,pM,pD,hix]
   | false=>
    rw[hp,if_neg (by simp)]at ht;have hKA:K.length<A.length:=(by omega);have hKl:K.length<l.length:=(by omega);have hw5:IntKind.i64.wrap ((K.length:Int)+1)=((K.length+1:Nat):Int):=zas (by omega);have hset:(A.map zaL).set K.length (zaL q)=(A.set K.length q).map zaL:=(by rw[List.map_set]);have hlen2:(K++[q]).length =K.length+1:=(by simp);simp(maxSteps:=4000000) only[ZE,↓reduceIte,pE,pL,pA,pS,pM,pD,zaL]at hset;simp(maxSteps:=4000000) only[ZE,↓reduceIte,pE,pL,pA,pS,pM,pD,zN,qT,qG,qL,qH,qN,qB,qE,qO,qA,qM,hw,zal hKl,hw5,zaa hKA,zaL,hset,List.length_map,hA1];refine⟨hKl,?_⟩;simp only[zeq];refine⟨h,A.set K.length q,⟨by rw[List.length_set]; exact hA1,?_,by rw[ht,hlen2]; omega,fun s hs=> ?_⟩,?_⟩
    ·rw[ht,hlen2,List.set_eq_take_append_cons_drop,if_pos hKA,hA2];rw[show K++q::List.drop (K.length+1) A=(K++[q])++List.drop (K.length+1) A by simp];exact List.take_left' hlen2
    ·rw[List.getElem?_set_ne (by omega)];exact hA3 s (by omega)
    ·rw[ht,hlen2];simp(maxSteps:=4000000) only[ZE,↓reduceIte,pE,pL,pA,pS,pM,pD,hix]
  ·have hr2:i0+1+r=l.length:=by omega
   have hge:decide (((i0+1+r:Nat):Int)<(l.length:Int))=false:=decide_eq_false (by omega);rw[hr2,List.take_length]at hA2 hK1;rw[hr2]at hge;rw[hr2,List.take_length];obtain⟨K,hK⟩:=zX ((l.filter fun q=> !p q));rw[hK]at hA2 hK1 ⊢;simp(maxSteps:=4000000) only[ZE,↓reduceIte,pE,pL,pA,pS,pM,pD,zN,qT,qG,qL,qH,qN,qB,qE,qO,qA,qM,List.length_map,hge,hA1,Int.toNat_natCast];have hz:(A.map zaL).take K.length=K.map zaL:=by rw[<-List.map_take,hA2]
   have hd:(A.map zaL).drop l.length=[]:=List.drop_eq_nil_of_le (by rw[List.length_map]; omega);have hKA:K.length<=l.length:=by omega
   rw[hz,hd,List.append_nil];have hl3:(K.map zaL++List.replicate (l.length-K.length) [D.lit (Value.string ByteArray.empty),D.lit (Value.int IntKind.i64 0),D.lit (Value.string ByteArray.empty)]).length =l.length:=by
    rw[List.length_append,List.length_map,List.length_replicate]; omega
   obtain⟨R,hR⟩:=zX (K.map zaL++List.replicate (l.length-K.length) [D.lit (Value.string ByteArray.empty),D.lit (Value.int IntKind.i64 0),D.lit (Value.string ByteArray.empty)]);rw[hR]at hl3 ⊢;have hRt:R.take K.length=K.map zaL:=by rw[<-hR]; exact List.take_left' (by rw[List.length_map])
   rw[hl3];refine⟨⟨by omega,by omega,by omega,by omega⟩,⟨hKA,Nat.le_refl _⟩,⟨⟨rfl,by omega⟩,by omega,by omega⟩,?_⟩;refine⟨[0],[],?_⟩;simp(maxSteps:=4000000) only[ZE,↓reduceIte,pE,pL,pA,pS,pM,pD,hl3,List.drop_zero,Nat.sub_zero,hRt];exact⟨Nat.zero_le _,hKA⟩
theorem differ_c(a b:List Module)(ha:Parted a)(hb:Parted b)(p:Place):FnP Tryz.prog 138 [.agg (zaL p),.ptr [.sl [[zdn a],[zdn b]]]] (.d (eB (decide (zbu a p=zbu b p)))) []:=by
 refine FnP.of_eC (own:=[]) (fun i=>if i=2001 then [.ord ⟨[(0,none),(1,none),(2,none),(3,none),(4,none),(5,none),(6,none),(7,none),(8,some [])]⟩]else []) zat Tryz.func138 rfl Tryz.call138 Tryz.ntmps138 (Nat.le_of_ble_eq_true rfl) Tryz.results138 (fun hok=> ?_);have ec:=zw9 a b ha hb p;obtain⟨A,hA⟩:=zX (zdn a);obtain⟨B,hB⟩:=zX (zdn b);rw[hA,hB]at ec ⊢;simp(maxSteps:=4000000) only[ZE,↓reduceIte,pE,pL,pA,pS,pM,pD,zaL]at ec;simp(maxSteps:=4000000) only[ZE,↓reduceIte,pE,pL,pA,pS,pM,pD,zN,qT,qG,qL,qH,qN,qB,qE,qO,qA,qM,zaL];refine⟨by kernel_rfl,zay.i ec ?_⟩;simp(maxSteps:=4000000) only[ZE,↓reduceIte,pE,pL,pA,pS,pM,pD,zN,qT,qG,qL,qH,qN,qB,qE,qO,qA,qM]
def placesR(a b:List Module):AV:=if [a,b].all zgo=true then .tup [.d (.sl ((zgJ a b).map zaL)),.d (eI 0)]else .tup [.d (.sl []),.d (eI 1)]
theorem places_c(a b:List Module)(ha:Sz a)(hb:Sz b)(hl:([a,b].flatMap zey).length <=1000000):FnP Tryz.prog 86 [.agg [zaz a],.agg [zaz b]] (placesR a b) []:=by
 refine FnP.of_eC (own:=[]) (fun i=>if i=1004 then [.frz 6]else []) zat Tryz.func86 rfl Tryz.call86 Tryz.ntmps86 (Nat.le_of_ble_eq_true rfl) Tryz.results86 (fun hok=> ?_);have oc:=zrY [a,b] (fun f hf=>by simp only[List.mem_cons,List.not_mem_nil,or_false]at hf; rcases hf with rfl | rfl <;> assumption) (by simp);unfold openR at oc;unfold placesR;simp only[List.map_cons,List.map_nil]at oc;cases hp:[a,b].all zgo with
 | false=>
  rw[hp]at oc;simp(maxSteps:=4000000) only[ZE,↓reduceIte,pE,pL,pA,pS,pM,pD,Bool.false_eq_true]at oc;simp(maxSteps:=200000) only[ZE,↓reduceIte,pE,pL,pA,pS,pM,pD,zN,qT,qG,qL,qH,qN,qB,qE,qO,qA,qM,Bool.false_eq_true];refine EFn.p ?_;simp(maxSteps:=4000000) only[ZE,↓reduceIte,pE,pL,pA,pS,pM,pD];refine zar.i oc ?_;simp(maxSteps:=200000) only[ZE,↓reduceIte,pE,pL,pA,pS,pM,pD,zN,qT,qG,qL,qH,qN,qB,qE,qO,qA,qM,List.map_nil]
 | true=>
  rw[hp]at oc;simp only[List.all_cons,List.all_nil,Bool.and_true,Bool.and_eq_true]at hp;have pa:=(zbW _).1 hp.1;have pb:=(zbW _).1 hp.2;have ac:=allp_o [a,b] (by omega) (by simp);have hA:(zo3 [a,b]).length <=1000000:=Nat.le_trans (zgH (by
   have:=Srt.nodup zl3 (zn3 [a,b]);rwa [List.map_id]at this) fun p hp=>(zgF zl3).1 hp) hl
  have hdl:=delQ_c (zo3 [a,b]) 138 (.ptr [.sl [[zdn a],[zdn b]]]) (fun p=>decide (zbu a p=zbu b p)) (fun p _=>differ_c a b pa pb p) (by omega);have hpf:((zo3 [a,b]).filter fun q=> !decide (zbu a q=zbu b q))=zgJ a b:=by
   unfold zgJ;refine List.filter_congr fun p _=> ?_;simp only[ne_eq,decide_not]
  rw[hpf]at hdl;obtain⟨A,hA'⟩:=zX (zdn a);obtain⟨B,hB'⟩:=zX (zdn b);simp only[List.map_cons,List.map_nil]at ac;rw[hA',hB']at oc hdl ac;obtain⟨L,hL⟩:=zX (zo3 [a,b]);rw[hL]at ac hdl hA;simp(maxSteps:=4000000) only[ZE,↓reduceIte,pE,pL,pA,pS,pM,pD]at oc;simp(maxSteps:=200000) only[ZE,↓reduceIte,pE,pL,pA,pS,pM,pD,zN,qT,qG,qL,qH,qN,qB,qE,qO,qA,qM];refine EFn.p ?_;simp(maxSteps:=4000000) only[ZE,↓reduceIte,pE,pL,pA,pS,pM,pD];refine zar.i oc ?_;simp(maxSteps:=200000) only[ZE,↓reduceIte,pE,pL,pA,pS,pM,pD,zN,qT,qG,qL,qH,qN,qB,qE,qO,qA,qM];refine EFn.gV [(90,90)] ac ?_ ?_
  ·simp(maxSteps:=4000000) only[ZE,↓reduceIte,pE,pL,pA,pS,pM,pD]
  rintro V ol new ⟨rfl,rfl,rfl⟩;simp(maxSteps:=200000) only[ZE,↓reduceIte,pE,pL,pA,pS,pM,pD,zN,qT,qG,qL,qH,qN,qB,qE,qO,qA,qM,List.length_map];refine EFn.gV [(0,90)] hdl ?_ ?_
  ·simp(maxSteps:=4000000) only[ZE,↓reduceIte,pE,pL,pA,pS,pM,pD]
  rintro V ol new ⟨rfl,rfl,rfl⟩;simp(maxSteps:=200000) only[ZE,↓reduceIte,pE,pL,pA,pS,pM,pD,zN,qT,qG,qL,qH,qN,qB,qE,qO,qA,qM,List.length_map]
/-! ### Rows that say more -/
def wkL:List D->List D->Prop
 | [],[]=>True
 | a::l,b::r=>wkD a b/\wkL l r
 | _,_=>False
theorem wkL_cells{W:World}{F:Nat->Prop}: ∀(l r:List D) (b off:Nat),wkL l r->zbc W F l b off->zbc W F r b off
 | [],[],_,_,_,_=>by simp only[zbc]
 | a::l,c::r,b,off,h,g=>by
  simp only[zbc]at g ⊢;obtain⟨⟨v,h1,h2⟩,h3⟩:=g;exact⟨⟨v,h1,h.1 _ _ _ h2⟩,wkL_cells l r b (off+1) h.2 h3⟩
 | [],_::_,_,_,h,_=>h.elim
 | _::_,[],_,_,h,_=>h.elim
theorem wkL_len: ∀(l r:List D),wkL l r->l.length=r.length
 | [],[],_=>rfl
 | _::l,_::r,h=>by rw[List.length_cons,List.length_cons,wkL_len l r h.2]
 | [],_::_,h=>h.elim
 | _::_,[],h=>h.elim
theorem wk_rows{α:Type}{f g:α->List D}(h: ∀m,wkL (f m) (g m))(l:List α):wkD (.sl (l.map f)) (.sl (l.map g)):=fun W F v hv=>by
 have key: ∀(l:List α) (k b off:Nat),zbM W F k (l.map f) b off->zbM W F k (l.map g) b off:=by
  intro l
  induction l with
  | nil=>intro k b off _; simp only[List.map_nil,zbM]
  | cons m l ih=>
   intro k b off hr;simp only[List.map_cons,zbM]at hr ⊢;exact⟨⟨by rw[<-wkL_len _ _ (h m)]; exact hr.1.1,wkL_cells _ _ _ _ (h m) hr.1.2⟩,ih k b _ hr.2⟩
 simp only[Rd,List.length_map]at hv ⊢;obtain⟨⟨ad,cap,e1,e2,e3⟩,e4⟩:=hv;refine⟨⟨ad,cap,e1,e2,fun hn=> ?_⟩,e4⟩;obtain⟨bb,off,k,f1,f2,f3⟩:=e3 hn;exact⟨bb,off,k,f1,f2,key l k bb off f3⟩
def zvh(m:Module):List D:=[eS m.name,eS m.clock,zd7 m.params,if m.items.isEmpty=true then ztK else zbU m.items]
theorem mRow_wk(m:Module):wkL (zvh m) (zaC m):=by
 refine⟨zkc _,zkc _,zkc _,?_,trivial⟩;cases h:m.items with
 | nil=>exact wk_nil
 | cons x r=>exact zkc _
theorem FnP.post{P:Program}{f:FuncId}{ds:List D}{V V':AV}{os:List AO}(h:FnP P f ds V os)(hw: ∀O W F η v,zaJ O W F η V v->zaJ O W F η V' v):FnP P f ds V' os:=
 ⟨h.1,fun W F vs hF hvs=>(h.2 W F vs hF hvs).mono fun e W' ⟨v,F',η,S,h1,h2,h3⟩=>⟨v,F',η,S,h1,h2,hw _ _ _ _ _ h3⟩⟩
/-- A file of rows with nil. -/
def eMR(l:List Module):D:=.sl (l.map zvh)
theorem eMR_wk(l:List Module):wkD (eMR l) (zaz l):=wk_rows mRow_wk l
theorem validR_c(l:List Module)(hS:Small l):FnP Tryz.prog 44 [.agg [eMR l]] (.d (eB (zbe l))) []:=
 (zfn l hS).weak fun W F vs h=>by
  simp only[zav,Rd]at h ⊢;obtain⟨v,r,rfl,⟨ws,rfl,u,s,rfl,h1,h2⟩,h3⟩:=h;exact⟨_,_,rfl,⟨_,rfl,_,_,rfl,eMR_wk l _ _ _ h1,h2⟩,h3⟩
/-! ### The state -/
def zhj(acc:List Module):Bool:=match acc.getLast? with | some w=> !w.items.isEmpty | none=>false
def ownA(acc:List Module):OL:=[(100,.arr 53 4 .flat (acc.map zvh))]
def ownB(B:List Module)(w:Module):OL:=[(100,.arr 53 4 (.deep [] [(B.length*4+3,.ar 64 w.items.length)]) ((B++[{w with items:=[]}]).map zvh)),(64,.arr 64 35 .flat (w.items.map zaK))]
def ownS(acc:List Module):OL:=match acc.getLast? with
 | some w=>if w.items.isEmpty=true then ownA acc else ownB acc.dropLast w
 | none=>ownA acc
theorem zt0{acc:List Module}(h:zhj acc=false):ownS acc=ownA acc:=by
 unfold zhj at h;unfold ownS;cases hl:acc.getLast? with
 | none=>rfl
 | some w=>
  rw[hl]at h;simp only[Bool.not_eq_false']at h;simp only[h,if_true]
theorem zt1{B:List Module}{w:Module}(h:w.items≠[]):ownS (B++[w])=ownB B w:=by
 have:w.items.isEmpty=false:=by cases hw:w.items with | nil=>exact absurd hw h | cons _ _=>rfl
 unfold ownS;simp[List.getLast?_concat,this]
theorem zpI{B:List Module}{w:Module}:zhj (B++[w])= !w.items.isEmpty :=by unfold zhj; simp[List.getLast?_concat]
theorem zlB{acc:List Module}(h:zhj acc=true): ∃B w,acc=B++[w]/\w.items≠[]:=by
 rcases List.eq_nil_or_concat acc with e | ⟨B,w,e⟩
 ·rw[e]at h; cases h
 ·rw[List.concat_eq_append]at e;subst e;rw[zpI]at h;exact⟨B,w,rfl,fun hw=>by rw[hw]at h; cases h⟩
theorem build_ne{g:zsa}{ps:List Place}(hs:Srt ltQ id ps)(hg:Shape g)(hc: ∀p,g p≠none->p∈ps){n:Nat}(hn:n<ps.length)(hz:ps[n].part ≠zdb)(hgp:g ps[n]≠none):build g (ps.take n)≠[]:=by
 intro he;have ih:=zo7 hs hg hc n (by omega);rw[he]at ih;obtain⟨m,hm⟩:=Option.ne_none_iff_exists'.1 hgp;obtain⟨x,rfl,h2,h3⟩:=hg.it _ m hm hz;have hh:=hg.head _ _ hm;have hlh:ltQ (zbL ps[n].module) ps[n]=true:=by
  unfold ltQ zbL;simp only[Bool.or_eq_true,Bool.and_eq_true,decide_true,true_and];right;rw[<-h2]; exact zPart_lt h3
 obtain⟨j,hj,e⟩:=List.getElem_of_mem (hc _ hh);have hjn:j<n:=by
  rcases Nat.lt_or_ge j n with hjn | hjn
  ·exact hjn
  ·exfalso;rcases Nat.eq_or_lt_of_le hjn with e1 | hjn
   ·subst e1; rw[<-e,zl3.irr]at hlh; cases hlh
   ·have:=(List.pairwise_iff_getElem.1 hs) n j hn hj hjn;simp only[id]at this;rw[<-e,zl3.asymm this]at hlh; cases hlh
 obtain⟨c,hcc⟩:=Option.ne_none_iff_exists'.1 hh;have:(zbL ps[n].module,c)∈(ps.take n).filterMap (entG g):=by
  rw[List.mem_filterMap];exact⟨ps[j],List.mem_take_iff_getElem.2 ⟨j,by omega,rfl⟩,by rw[e]; simp[entG,hcc]⟩
 rw[<-ih]at this;cases this
theorem ent_len(l:List Module):l.length<=(ent l).length /\ ∀m∈l,m.items.length<=(ent l).length :=by
 induction l with
 | nil=>exact⟨Nat.le_refl _,fun m hm=>by cases hm⟩
 | cons a l ih=>
  have h1:(ent (a::l)).length =1+a.items.length+(ent l).length :=by
   show(zmv a++ent l).length =_;rw[List.length_append];simp only[zmv,List.length_cons,List.length_map];omega
  refine⟨by rw[h1,List.length_cons]; have:=ih.1; omega,fun m hm=> ?_⟩;rw[h1];rcases List.mem_cons.1 hm with rfl | hm
  ·omega
  ·have:=ih.2 m hm; omega
theorem build_len{g:zsa}{ps:List Place}(hs:Srt ltQ id ps)(hg:Shape g)(hc: ∀p,g p≠none->p∈ps){n:Nat}(hn:n<=ps.length):(build g (ps.take n)).length <=n/\ ∀m∈build g (ps.take n),m.items.length<=n:=by
 have ih:=zo7 hs hg hc n hn;have hl:=ent_len (build g (ps.take n));have h2:(ent (build g (ps.take n))).length <=n:=by
  rw[ih];exact Nat.le_trans (List.length_filterMap_le _ _) (by rw[List.length_take]; omega)
 exact⟨by omega,fun m hm=>by have:=hl.2 m hm; omega⟩
theorem build_succ(g:zsa)(ps:List Place)(n:Nat)(h:n<ps.length):build g (ps.take (n+1))=zrz g (build g (ps.take n)) ps[n]:=by
 unfold build;rw[List.take_succ_eq_append_getElem h,List.foldl_append];rfl
theorem zpart_eqB(p:Part):(p.kind.val==0&&decide (p.name.val=ByteArray.empty))=decide (p=zdb):=by
 have he:decide (p.name.val=ByteArray.empty)=decide (p.name=emp):=decide_eq_decide.2 ⟨fun e=>Subtype.ext e,fun e=>by rw[e]; rfl⟩;rw[he,Bool.eq_iff_iff];simp only[Bool.and_eq_true,decide_eq_true_eq,beq_iff_eq];obtain⟨⟨k,hk⟩,n⟩:=p;simp only[zdb,Part.mk.injEq];exact⟨fun⟨h1,h2⟩=>⟨Subtype.ext h1,h2⟩,fun⟨h1,h2⟩=>⟨congrArg Subtype.val h1,h2⟩⟩
theorem mergeR_c(b x y:List Module)(hb:Fl b)(hx:Fl x)(hy:Fl y)(zb:Sz b)(zx:Sz x)(zy:Sz y)(hl:([b,x,y].flatMap zey).length <=1000000)(hS:zeN b x y=[]->Small (zcQ b x y)):FnP Tryz.prog 91 [.agg [zaz b],.agg [zaz x],.agg [zaz y]] (.tup [.d (.agg [eMR (zbz b x y).f]),.d (.sl ((zbz b x y).l.map zaL)),.d (eI (zbz b x y).e)]) []:=by
 refine FnP.of_eC (own:=[]) (fun i=>if i=7 then [.adB 12 0 100 53 4]else if i=1018 then _root_.cond (zhj (zcQ b x y)) [.frz 64,.toF 100 ((zcQ b x y).length -1) 3,.frz 100] [.frz 100]else []) zat Tryz.func91 rfl Tryz.call91 Tryz.ntmps91 (Nat.le_of_ble_eq_true rfl) Tryz.results91 (fun hok=> ?_);have oc:=zrY [b,x,y] (fun f hf=>by simp only[List.mem_cons,List.not_mem_nil,or_false]at hf; rcases hf with rfl | rfl | rfl <;> assumption) (by simp);have hall:[b,x,y].all zgo=true:=by simp only[List.all_cons,List.all_nil,(zbW _).2 hb.part,(zbW _).2 hx.part,(zbW _).2 hy.part,Bool.and_true]
 unfold openR at oc;rw[hall]at oc;simp only[List.map_cons,List.map_nil,if_true]at oc;have cc:=conflicts_c b x y hb.part hx.part hy.part hl;have ac:=allp_c [b,x,y] (by omega) (by simp);have hAl:(zo3 [b,x,y]).length <=1000000:=Nat.le_trans (zgH (by
  have:=Srt.nodup zl3 (zn3 [b,x,y]);rwa [List.map_id]at this) fun p hp=>(zgF zl3).1 hp) hl
 have mcA:=merged_c b x y hb.part hx.part hy.part;unfold zbz;have hcl:((zeN b x y).map zaL).length =(zeN b x y).length :=List.length_map _;by_cases hc:zeN b x y=[]
 ·have hsh:=zv4 hb hx hy hc;have hmem: ∀p,zis (zbu b) (zbu x) (zbu y) p≠none->p∈zo3 [b,x,y]:=fun p hp=>zrV hb hx hy hp;have hsr:=zn3 [b,x,y];have hmf:zcQ b x y=build (zis (zbu b) (zbu x) (zbu y)) (zo3 [b,x,y]):=rfl;have vc:=validR_c (zcQ b x y) (hS hc);rw[if_neg (fun h=>h hc)];rw[hc]at cc;have hex:=zwU b x y;unfold eC3 at cc mcA;obtain⟨B,hB⟩:=zX (zdn b);obtain⟨X,hX⟩:=zX (zdn x);obtain⟨Y,hY⟩:=zX (zdn y);rw[hB,hX,hY]at oc cc mcA;simp only[List.map_cons,List.map_nil,hB,hX,hY]at ac;obtain⟨g,hg⟩:=zX (zis (zbu b) (zbu x) (zbu y));rw[hg]at hsh hmem hmf mcA hex;obtain⟨ps,hps⟩:=zX (zo3 [b,x,y]);rw[hps]at hmem hsr hmf ac hAl;obtain⟨M,hM⟩:=zX (zcQ b x y);rw[hM]at hmf vc ⊢;simp(maxSteps:=4000000) only[ZE,↓reduceIte,pE,pL,pA,pS,pM,pD,List.map_nil]at oc cc ac;simp(maxSteps:=4000000) only[ZE,↓reduceIte,pE,pL,pA,pS,pM,pD,zN,qT,qG,qL,qH,qN,qB,qE,qO,qA,qM,List.map_nil];refine EFn.p ?_;simp(maxSteps:=4000000) only[ZE,↓reduceIte,pE,pL,pA,pS,pM,pD];refine zar.i oc ?_;simp(maxSteps:=4000000) only[ZE,↓reduceIte,pE,pL,pA,pS,pM,pD,zN,qT,qG,qL,qH,qN,qB,qE,qO,qA,qM];refine EFn.p ?_;simp(maxSteps:=4000000) only[ZE,↓reduceIte,pE,pL,pA,pS,pM,pD];refine zar.i cc ?_;simp(maxSteps:=4000000) only[ZE,↓reduceIte,pE,pL,pA,pS,pM,pD,zN,qT,qG,qL,qH,qN,qB,qE,qO,qA,qM,List.length_nil];refine EFn.p ?_;simp(maxSteps:=4000000) only[ZE,↓reduceIte,pE,pL,pA,pS,pM,pD];refine zar.i ac ?_;simp(maxSteps:=4000000) only[ZE,↓reduceIte,pE,pL,pA,pS,pM,pD,zN,qT,qG,qL,qH,qN,qB,qE,qO,qA,qM,List.length_map];refine zg3 (X:=List Module) (fun acc i=>if i=1016 then _root_.cond (zhj acc) [.frz 64,.toF 100 (acc.length-1) 3] []else if i=1012 then _root_.cond (zhj acc) [] [.toD 100 (acc.length-1) 3 ztK]else if i=2013 then [.flt ⟨[(0,none),(1,none),(2,none),(3,none),(4,none),(5,none),(6,none),(7,some [0]),(8,none),(9,none),(10,some [])]⟩ ⟨[],[]⟩]else []) zat ps.length (fun i acc=>acc=build g (ps.take i)) (fun i acc=>([(6,.bp 6 0),(9,.d (.sl [[B],[X],[Y]])),(12,.bp 12 0),(38,.d (.sl (ps.map zaL))),(39,.d (eI ps.length)),(40,.d (eI i))],(6,.box [.nils])::(12,.box [.ar 100 acc.length])::ownS acc)) [] rfl ?_ ?_ (fun i acc hi hI=> ?_)
  ·simp(maxSteps:=4000000) only[ZE,↓reduceIte,pE,pL,pA,pS,pM,pD]
  ·simp(maxSteps:=4000000) only[ZE,↓reduceIte,pE,pL,pA,pS,pM,pD,ownS,ownA,List.getLast?_nil,List.map_nil]
  obtain⟨hbl1,hbl2⟩:=build_len hsr hsh hmem hi;rw[<-hI]at hbl1 hbl2;have hal:acc.length<=1000000:=by omega
  rcases Nat.lt_or_ge i ps.length with h | h
  ·have hw:=zas (show i<9223372036854775807 by omega);have hsu:=build_succ g ps i h;rw[<-hI]at hsu;have hne:=build_ne hsr hsh hmem h;rw[<-hI]at hne;obtain⟨p,hp⟩:=zX (ps[i]);rw[hp]at hsu hne;have mc:=mcA p;have hzp:=zpart_eqB p.part;obtain⟨d,hd⟩:=zX (decide (p.part=zdb));rw[hd]at hzp;cases hgp:g p with
   | none=>
    have hnx:build g (ps.take (i+1))=acc:=(by rw[hsu]; simp[zrz,hgp]);obtain⟨a1,a2,a3,a4,e1,p1,p2,p3,p4⟩:=hex p;rw[hgp]at mc e1;rw[e1]at mc;have hsm:(none:Option Module).isSome =false:=rfl;simp(maxSteps:=4000000) only[ZE,↓reduceIte,pE,pL,pA,pS,pM,pD,zaL]at mc;cases ho:zhj acc with
    | false=>
     rw[zt0 ho];simp(maxSteps:=4000000) only[ZE,↓reduceIte,pE,pL,pA,pS,pM,pD,ownA,zax h,zal h,zaa h,hp,zaL,zN,qT,qG,qL,qH,qN,qB,qE,qO,qA,qM,List.length_map];refine EFn.p ?_;simp(maxSteps:=4000000) only[ZE,↓reduceIte,pE,pL,pA,pS,pM,pD];refine zar.i mc ?_;simp(maxSteps:=4000000) only[ZE,↓reduceIte,pE,pL,pA,pS,pM,pD,zN,qT,qG,qL,qH,qN,qB,qE,qO,qA,qM,hsm,hw];refine⟨⟨p1,p2,p3,p4⟩,?_⟩;simp only[zeq];refine⟨h,acc,hnx.symm,?_⟩;rw[zt0 ho];simp(maxSteps:=4000000) only[ZE,↓reduceIte,pE,pL,pA,pS,pM,pD,ownA]
    | true=>
     obtain⟨B',w,rfl,hwi⟩:=zlB ho;rw[zt1 hwi];simp(maxSteps:=4000000) only[ZE,↓reduceIte,pE,pL,pA,pS,pM,pD,ownB,zax h,zal h,zaa h,hp,zaL,zN,qT,qG,qL,qH,qN,qB,qE,qO,qA,qM,List.length_map];refine EFn.p ?_;simp(maxSteps:=4000000) only[ZE,↓reduceIte,pE,pL,pA,pS,pM,pD];refine zar.i mc ?_;simp(maxSteps:=4000000) only[ZE,↓reduceIte,pE,pL,pA,pS,pM,pD,zN,qT,qG,qL,qH,qN,qB,qE,qO,qA,qM,hsm,hw];refine⟨⟨p1,p2,p3,p4⟩,?_⟩;simp only[zeq];refine⟨h,B'++[w],hnx.symm,?_⟩;rw[zt1 hwi];simp(maxSteps:=4000000) only[ZE,↓reduceIte,pE,pL,pA,pS,pM,pD,ownB]
   | some u=>
    rw[hgp]at mc;have hsm:(some u).isSome =true:=rfl;cases d with
    | true=>
     have hz:p.part=zdb:=of_decide_eq_true hd;obtain⟨_,hui⟩:=hsh.hd p u hgp hz;have hnx:build g (ps.take (i+1))=acc++[u]:=(by rw[hsu]; simp[zrz,hgp,hz]);have hcr:zsr (some u)= .agg (zvh u):=(by unfold zsr zvh; simp[eM,cM,hui]);have hmr:zvh u=[eS u.name,eS u.clock,zd7 u.params,ztK]:=(by unfold zvh; simp[hui]);have hof:zhj (acc++[u])=false:=(by rw[zpI,hui]; rfl);rw[hcr,hmr]at mc;simp(maxSteps:=4000000) only[ZE,↓reduceIte,pE,pL,pA,pS,pM,pD,zaL,ztK]at mc;cases ho:zhj acc with
     | false=>
      rw[zt0 ho];simp(maxSteps:=4000000) only[ZE,↓reduceIte,pE,pL,pA,pS,pM,pD,ownA,zax h,zal h,zaa h,hp,zaL,zN,qT,qG,qL,qH,qN,qB,qE,qO,qA,qM,List.length_map];refine EFn.p ?_;simp(maxSteps:=4000000) only[ZE,↓reduceIte,pE,pL,pA,pS,pM,pD];refine zar.i mc ?_;simp(maxSteps:=4000000) only[ZE,↓reduceIte,pE,pL,pA,pS,pM,pD,zN,qT,qG,qL,qH,qN,qB,qE,qO,qA,qM,hsm,hw,hzp,ho,List.length_map];refine⟨⟨by omega,by omega⟩,by rw[List.length_append,List.length_map]; rfl,?_⟩;simp only[zeq];refine⟨h,acc++[u],hnx.symm,?_⟩;rw[zt0 hof];simp(maxSteps:=4000000) only[ZE,↓reduceIte,pE,pL,pA,pS,pM,pD,ownA,List.map_append,List.map_cons,List.map_nil,hmr,ztK,List.length_append,List.length_cons,List.length_nil,Nat.zero_add,List.length_map]
     | true=>
      obtain⟨B',w,rfl,hwi⟩:=zlB ho;rw[zt1 hwi];obtain⟨C,hC⟩:=zX (B'++[{w with items:=[]}]);have hCl:C.length=B'.length+1:=(by rw[<-hC]; simp);have hCj:B'.length<C.length:=(by omega);have hCw:C[B'.length]={w with items:=[]}:=(by subst hC; simp);have hCs:(C.map zvh).set B'.length (zvh w)=(B'++[w]).map zvh:=(by rw[<-hC]; simp[List.set_append_right]);have hwe:w.items.isEmpty=false:=by cases hh:w.items with | nil=>exact absurd hh hwi | cons _ _=>rfl
      have hrw:zvh w=[eS w.name,eS w.clock,zd7 w.params,zbU w.items]:=(by unfold zvh; simp[hwe]);have hrw0:zvh {w with items:=[]}=[eS w.name,eS w.clock,zd7 w.params,ztK]:=rfl;have hBl:(B'++[w]).length =B'.length+1:=(by simp);have hBm:B'.length+1-1=B'.length:=rfl;rw[hrw]at hCs;obtain⟨A',hA'⟩:=zX (B'++[w]);rw[hA']at hCs hBl ho hnx hof hal ⊢;simp(maxSteps:=4000000) only[ZE,↓reduceIte,pE,pL,pA,pS,pM,pD]at hCs;simp only[ownB,hC];simp(maxSteps:=4000000) only[ZE,↓reduceIte,pE,pL,pA,pS,pM,pD,hBl,zax h,zal h,zaa h,hp,zaL,zN,qT,qG,qL,qH,qN,qB,qE,qO,qA,qM,List.length_map];refine EFn.p ?_;simp(maxSteps:=4000000) only[ZE,↓reduceIte,pE,pL,pA,pS,pM,pD];refine zar.i mc ?_;simp(maxSteps:=4000000) only[ZE,↓reduceIte,pE,pL,pA,pS,pM,pD,zN,qT,qG,qL,qH,qN,qB,qE,qO,qA,qM,hsm,hw,hzp,ho,hBl,hBm,List.length_map,hCl,zaa hCj,hCw,hrw0,ztK,hCs];refine⟨by omega,⟨by omega,by omega⟩,by rw[List.length_append,List.length_map,hBl]; rfl,?_⟩;simp only[zeq];refine⟨h,A'++[u],hnx.symm,?_⟩;rw[zt0 hof];simp(maxSteps:=4000000) only[ZE,↓reduceIte,pE,pL,pA,pS,pM,pD,ownA,List.map_append,List.map_cons,List.map_nil,hmr,ztK,List.length_append,List.length_cons,List.length_nil,Nat.zero_add,List.length_map,hBl]
    | false=>
     have hz:p.part≠zdb:=of_decide_eq_false hd;obtain⟨x,rfl,hpx,hkx⟩:=hsh.it p u hgp hz;have hacc:=hne hz (by rw[hgp]; simp);obtain⟨B',w,hBw⟩: ∃B' w,acc=B'++[w]:=by
      rcases List.eq_nil_or_concat acc with e | ⟨B',w,e⟩
      ·exact absurd e hacc
      ·exact⟨B',w,by rw[e,List.concat_eq_append]⟩
     have hnx:build g (ps.take (i+1))=B'++[{w with items:=w.items++[x]}]:=by
      rw[hsu,hBw];simp only[zrz,hgp,if_neg hz];exact zsf _ _ _
     have hwx:w.items++[x]≠[]:=(by simp);have hcr:zsr (some (itM x))= .agg [.lit (.string ByteArray.empty),.lit (.string ByteArray.empty),ztK,.sl [zaK x]]:=eM_it x;rw[hcr]at mc;simp(maxSteps:=4000000) only[ZE,↓reduceIte,pE,pL,pA,pS,pM,pD,zaL,ztK]at mc;have hwl:w.items.length<=1000000:=(by have:=hbl2 w (by rw[hBw]; simp); omega);obtain⟨C,hC⟩:=zX (B'++[{w with items:=[]}]);have hCl:C.length=B'.length+1:=(by rw[<-hC]; simp);have hCj:B'.length<C.length:=(by omega);have hCw:C[B'.length]={w with items:=[]}:=(by subst hC; simp);have hrw0:zvh {w with items:=[]}=[eS w.name,eS w.clock,zd7 w.params,ztK]:=rfl;have hBm:B'.length+1-1=B'.length:=rfl;have hwi1:IntKind.i64.wrap (((B'.length+1:Nat):Int)-1)=(B'.length:Int):=(by rw[show((B'.length+1:Nat):Int)-1=(B'.length:Int) by omega]; exact zaQ (by rw[hBw]at hal; simp at hal; omega) (by rw[hBw]at hal; simp at hal; omega));have hBn:B'.length<B'.length+1:=Nat.lt_succ_self _;have hal':B'.length+1<=1000000:=(by rw[hBw]at hal; simpa using hal);cases ho:zhj acc with
     | false=>
      have hw0:w.items=[]:=by
       rw[hBw,zpI]at ho;cases hh:w.items with
       | nil=>rfl
       | cons _ _=>rw[hh]at ho; cases ho
      have hwe:w={w with items:=[]}:=(by cases w; simp only at hw0; subst hw0; rfl);have hBC:acc=C:=(by rw[hBw,<-hC,<-hwe]);rw[zt0 ho];rw[hBC]at ho ⊢;simp(maxSteps:=4000000) only[ZE,↓reduceIte,pE,pL,pA,pS,pM,pD,ownA,zax h,zal h,zaa h,hp,zaL,zN,qT,qG,qL,qH,qN,qB,qE,qO,qA,qM,List.length_map];refine EFn.p ?_;simp(maxSteps:=4000000) only[ZE,↓reduceIte,pE,pL,pA,pS,pM,pD];refine zar.i mc ?_;simp(maxSteps:=4000000) only[ZE,↓reduceIte,pE,pL,pA,pS,pM,pD,zN,qT,qG,qL,qH,qN,qB,qE,qO,qA,qM,hsm,hw,hzp,ho,hCl,hBm,List.length_map,zaa hCj,hCw,hrw0,hwi1,zal hBn,ztK];refine⟨hBn,by kernel_rfl,hBn,hBn,?_⟩;simp only[zeq];refine⟨h,B'++[{w with items:=w.items++[x]}],hnx.symm,?_⟩;rw[zt1 hwx];simp only[ownB,hC];simp(maxSteps:=4000000) only[ZE,↓reduceIte,pE,pL,pA,pS,pM,pD,zN,qT,qG,qL,qH,qN,qB,qE,qO,qA,qM,hw0,List.length_append,List.map_append,List.map_cons,List.map_nil,List.length_cons,List.length_nil,List.length_map]
     | true=>
      have hw0:w.items≠[]:=fun e=>by rw[hBw,zpI,e]at ho; cases ho
      have hBl:(B'++[w]).length =B'.length+1:=(by simp);rw[hBw]at ho ⊢;rw[zt1 hw0];simp only[ownB,hC];obtain⟨A',hA'⟩:=zX (B'++[w]);rw[hA']at ho hBl ⊢;simp(maxSteps:=4000000) only[ZE,↓reduceIte,pE,pL,pA,pS,pM,pD,hBl,zax h,zal h,zaa h,hp,zaL,zN,qT,qG,qL,qH,qN,qB,qE,qO,qA,qM,List.length_map];refine EFn.p ?_;simp(maxSteps:=4000000) only[ZE,↓reduceIte,pE,pL,pA,pS,pM,pD];refine zar.i mc ?_;simp(maxSteps:=4000000) only[ZE,↓reduceIte,pE,pL,pA,pS,pM,pD,zN,qT,qG,qL,qH,qN,qB,qE,qO,qA,qM,hsm,hw,hzp,ho,hCl,hBl,hBm,List.length_map,zaa hCj,hCw,hrw0,hwi1,zal hBn];refine⟨by kernel_rfl,hBn,⟨by omega,by omega⟩,⟨hBn,by rw[List.length_append,List.length_map]; rfl⟩,?_⟩;simp only[zeq];refine⟨h,B'++[{w with items:=w.items++[x]}],hnx.symm,?_⟩;rw[zt1 hwx];simp only[ownB,hC];simp(maxSteps:=4000000) only[ZE,↓reduceIte,pE,pL,pA,pS,pM,pD,zN,qT,qG,qL,qH,qN,qB,qE,qO,qA,qM,List.length_append,List.map_append,List.map_cons,List.map_nil,List.length_cons,List.length_nil,List.length_map]
  ·have:i=ps.length:=by omega
   subst this;rw[List.take_length,<-hmf]at hI;subst hI;cases ho:zhj acc with
   | false=>
    rw[zt0 ho];cases hv:zbe acc with
    | true=>
     rw[hv]at vc;simp(maxSteps:=4000000) only[ZE,↓reduceIte,pE,pL,pA,pS,pM,pD,eMR]at vc;simp(maxSteps:=4000000) only[ZE,↓reduceIte,pE,pL,pA,pS,pM,pD,zaI h,zN,qT,qG,qL,qH,qN,qB,qE,qO,qA,qM,List.length_map,ho,hv,ownA];refine EFn.p ?_;simp(maxSteps:=4000000) only[ZE,↓reduceIte,pE,pL,pA,pS,pM,pD];refine zar.i vc ?_;simp(maxSteps:=4000000) only[ZE,↓reduceIte,pE,pL,pA,pS,pM,pD,zN,qT,qG,qL,qH,qN,qB,qE,qO,qA,qM,eMR,List.map_nil]
    | false=>
     rw[hv]at vc;simp(maxSteps:=4000000) only[ZE,↓reduceIte,pE,pL,pA,pS,pM,pD,eMR]at vc;simp(maxSteps:=4000000) only[ZE,↓reduceIte,pE,pL,pA,pS,pM,pD,zaI h,zN,qT,qG,qL,qH,qN,qB,qE,qO,qA,qM,List.length_map,ho,hv,ownA];refine EFn.p ?_;simp(maxSteps:=4000000) only[ZE,↓reduceIte,pE,pL,pA,pS,pM,pD];refine zar.i vc ?_;simp(maxSteps:=4000000) only[ZE,↓reduceIte,pE,pL,pA,pS,pM,pD,zN,qT,qG,qL,qH,qN,qB,qE,qO,qA,qM,eMR,List.map_nil]
   | true=>
    obtain⟨B',w,rfl,hwi⟩:=zlB ho;rw[zt1 hwi];obtain⟨C,hC⟩:=zX (B'++[{w with items:=[]}]);have hCl:C.length=B'.length+1:=(by rw[<-hC]; simp);have hCj:B'.length<C.length:=(by omega);have hCw:C[B'.length]={w with items:=[]}:=(by subst hC; simp);have hCs:(C.map zvh).set B'.length (zvh w)=(B'++[w]).map zvh:=(by rw[<-hC]; simp[List.set_append_right]);have hwe:w.items.isEmpty=false:=by cases hh:w.items with | nil=>exact absurd hh hwi | cons _ _=>rfl
    have hrw:zvh w=[eS w.name,eS w.clock,zd7 w.params,zbU w.items]:=(by unfold zvh; simp[hwe]);have hrw0:zvh {w with items:=[]}=[eS w.name,eS w.clock,zd7 w.params,ztK]:=rfl;have hBl:(B'++[w]).length =B'.length+1:=(by simp);have hBm:B'.length+1-1=B'.length:=rfl;have hBn':B'.length<B'.length+1:=Nat.lt_succ_self _;rw[hrw]at hCs;obtain⟨A',hA'⟩:=zX (B'++[w]);simp only[ownB,hC];rw[hA']at hCs hBl ho vc ⊢;simp(maxSteps:=4000000) only[ZE,↓reduceIte,pE,pL,pA,pS,pM,pD]at hCs;cases hv:zbe A' with
    | true=>
     rw[hv]at vc;simp(maxSteps:=4000000) only[ZE,↓reduceIte,pE,pL,pA,pS,pM,pD,eMR]at vc;simp(maxSteps:=4000000) only[ZE,↓reduceIte,pE,pL,pA,pS,pM,pD,zaI h,zN,qT,qG,qL,qH,qN,qB,qE,qO,qA,qM,hBl,hBm,List.length_map,ho,hv,hCl,zaa hCj,hCw,hrw0,ztK,hCs];refine⟨hBn',?_⟩;refine EFn.p ?_;simp(maxSteps:=4000000) only[ZE,↓reduceIte,pE,pL,pA,pS,pM,pD];refine zar.i vc ?_;simp(maxSteps:=4000000) only[ZE,↓reduceIte,pE,pL,pA,pS,pM,pD,zN,qT,qG,qL,qH,qN,qB,qE,qO,qA,qM,eMR,List.map_nil]
    | false=>
     rw[hv]at vc;simp(maxSteps:=4000000) only[ZE,↓reduceIte,pE,pL,pA,pS,pM,pD,eMR]at vc;simp(maxSteps:=4000000) only[ZE,↓reduceIte,pE,pL,pA,pS,pM,pD,zaI h,zN,qT,qG,qL,qH,qN,qB,qE,qO,qA,qM,hBl,hBm,List.length_map,ho,hv,hCl,zaa hCj,hCw,hrw0,ztK,hCs];refine⟨hBn',?_⟩;refine EFn.p ?_;simp(maxSteps:=4000000) only[ZE,↓reduceIte,pE,pL,pA,pS,pM,pD];refine zar.i vc ?_;simp(maxSteps:=4000000) only[ZE,↓reduceIte,pE,pL,pA,pS,pM,pD,zN,qT,qG,qL,qH,qN,qB,qE,qO,qA,qM,eMR,List.map_nil]
 ·have g0:decide (((zeN b x y).length :Int)>0)=true:=decide_eq_true (by have:=List.length_pos_iff.2 hc; omega);have g0':decide (0<((zeN b x y).length :Int))=true:=g0;rw[if_pos hc];obtain⟨C,hC⟩:=zX (zeN b x y);rw[hC]at cc g0 g0' ⊢;unfold eC3 at cc;obtain⟨B,hB⟩:=zX (zdn b);obtain⟨X,hX⟩:=zX (zdn x);obtain⟨Y,hY⟩:=zX (zdn y);rw[hB,hX,hY]at oc cc;simp(maxSteps:=4000000) only[ZE,↓reduceIte,pE,pL,pA,pS,pM,pD]at oc cc;simp(maxSteps:=4000000) only[ZE,↓reduceIte,pE,pL,pA,pS,pM,pD,zN,qT,qG,qL,qH,qN,qB,qE,qO,qA,qM,eMR,List.map_nil];refine EFn.p ?_;simp(maxSteps:=4000000) only[ZE,↓reduceIte,pE,pL,pA,pS,pM,pD];refine zar.i oc ?_;simp(maxSteps:=4000000) only[ZE,↓reduceIte,pE,pL,pA,pS,pM,pD,zN,qT,qG,qL,qH,qN,qB,qE,qO,qA,qM];refine EFn.p ?_;simp(maxSteps:=4000000) only[ZE,↓reduceIte,pE,pL,pA,pS,pM,pD];refine zar.i cc ?_;simp(maxSteps:=4000000) only[ZE,↓reduceIte,pE,pL,pA,pS,pM,pD,zN,qT,qG,qL,qH,qN,qB,qE,qO,qA,qM,g0,g0',List.length_map]
theorem listed_c(l:List Place)(hl:l.length<=1000000):FnP Tryz.prog 87 [.sl (l.map zaL)] (.d (.sl (l.map zaL))) []:=by
 refine FnP.of_eC (own:=[]) (fun _=>[]) zat Tryz.func87 rfl Tryz.call87 Tryz.ntmps87 (Nat.le_of_ble_eq_true rfl) Tryz.results87 (fun hok=> ?_);simp(maxSteps:=4000000) only[ZE,↓reduceIte,pE,pL,pA,pS,pM,pD,zN,qT,qG,qL,qH,qN,qB,qE,qO,qA,qM,List.length_map];refine za2 (fun i=>if i=2005 then [.ord ⟨[(0,none),(1,none),(2,none),(3,none),(4,none),(5,none),(6,none),(7,none),(8,none),(9,none),(10,none),(11,none),(12,none),(13,some []),(14,some [])]⟩]else []) zat l.length (fun _=>True) (fun i=>([(0,.d (.sl (l.map zaL))),(3,.ar 5 i),(4,.d (eI i))],[(5,.arr 75 3 .flat ((l.take i).map zaL))])) trivial ?_ ?_ (fun i hi _=> ?_)
 ·simp(maxSteps:=4000000) only[ZE,↓reduceIte,pE,pL,pA,pS,pM,pD]
 ·simp(maxSteps:=4000000) only[ZE,↓reduceIte,pE,pL,pA,pS,pM,pD,List.take_zero,List.map_nil]
 rcases Nat.lt_or_ge i l.length with h | h
 ·have hw:=zas (show i<9223372036854775807 by omega);have hlt:(l.take i).length =i:=by rw[List.length_take]; omega
  obtain⟨p,hp⟩:=zX (l[i]);rw[List.take_succ_eq_append_getElem h,hp,List.map_append,List.map_cons,List.map_nil];simp(maxSteps:=4000000) only[ZE,↓reduceIte,pE,pL,pA,pS,pM,pD,zax h,zal h,zaa h,hp,zN,qT,qG,qL,qH,qN,qB,qE,qO,qA,qM,List.length_map,hlt,hw,zaL];exact⟨by kernel_rfl,⟨by omega,by omega⟩,h⟩
 ·have:i=l.length:=by omega
  subst this;simp(maxSteps:=4000000) only[ZE,↓reduceIte,pE,pL,pA,pS,pM,pD,zaI h,zN,qT,qG,qL,qH,qN,qB,qE,qO,qA,qM,List.length_map,List.take_length]
theorem zkC(p q:Place):(decide (p.module=q.module)&&(p.part.kind.val==q.part.kind.val&&decide (p.part.name=q.part.name)))=decide (p=q):=by
 rw[Bool.eq_iff_iff];simp only[Bool.and_eq_true,decide_eq_true_eq,beq_iff_eq];obtain⟨⟨m,hm⟩,⟨⟨k,hk⟩,⟨n,hn⟩⟩⟩:=p;obtain⟨⟨m',hm'⟩,⟨⟨k',hk'⟩,⟨n',hn'⟩⟩⟩:=q;simp only[Place.mk.injEq,Part.mk.injEq,Subtype.mk.injEq]
theorem samePl_c(a b:List Place):FnP Tryz.prog 39 [.sl (a.map zaL),.sl (b.map zaL)] (.d (eB (decide (a=b)))) []:=by
 refine FnP.of_eC (own:=[]) (fun _=>[]) zat Tryz.func39 rfl Tryz.call39 Tryz.ntmps39 (Nat.le_of_ble_eq_true rfl) Tryz.results39 (fun hok=> ?_);have hl:a.length<=9223372036854775807:=(za9 (zaM hok).1).1;by_cases hn:a.length=b.length
 ·have h0:((a.length:Int) !=(b.length:Int))=false:=by rw[hn]; exact bne_self_eq_false _
  simp(maxSteps:=4000000) only[ZE,↓reduceIte,pE,pL,pA,pS,pM,pD,zN,qT,qG,qL,qH,qN,qB,qE,qO,qA,qM,List.length_map,h0];refine za2 (fun _=>[]) zat a.length (fun i=>a.take i=b.take i) (fun i=>([(0,.d (.sl (a.map zaL))),(1,.d (.sl (b.map zaL))),(5,.d (eI i))],[])) rfl ?_ ?_ (fun i hi hI=> ?_)
  ·simp(maxSteps:=4000000) only[ZE,↓reduceIte,pE,pL,pA,pS,pM,pD]
  ·simp(maxSteps:=4000000) only[ZE,↓reduceIte,pE,pL,pA,pS,pM,pD]
  rcases Nat.lt_or_ge i a.length with h | h
  ·have hw:=zas (show i<9223372036854775807 by omega);have h':i<b.length:=by omega
   obtain⟨p,hp⟩:=zX (a[i]);obtain⟨q,hq⟩:=zX (b[i]);have he:=zkC p q;have hst:a.take (i+1)=b.take (i+1)↔p=q:=by
    rw[List.take_succ_eq_append_getElem h,List.take_succ_eq_append_getElem h',hI,hp,hq];simp
   by_cases e:p=q
   ·rw[decide_eq_true e]at he;simp(maxSteps:=4000000) only[ZE,↓reduceIte,pE,pL,pA,pS,pM,pD,zax h,zal h,zal h',zaa h,zaa h',hp,hq,zN,qT,qG,qL,qH,qN,qB,qE,qO,qA,qM,List.length_map,hw,zaL,he];exact⟨by kernel_rfl,h,hst.2 e⟩
   ·have hne:decide (a=b)=false:=decide_eq_false fun e'=>by subst e'; exact e (hp.symm.trans hq)
    rw[decide_eq_false e]at he;rw[hne];simp(maxSteps:=4000000) only[ZE,↓reduceIte,pE,pL,pA,pS,pM,pD,zax h,zal h,zal h',zaa h,zaa h',hp,hq,zN,qT,qG,qL,qH,qN,qB,qE,qO,qA,qM,List.length_map,hw,zaL,he];exact(show zu9 _ _ _=true from by kernel_rfl)
  ·have:i=a.length:=by omega
   subst this;have e:a=b:=by
    have:=hI;rwa [List.take_length,hn,List.take_length]at this
   rw[decide_eq_true e];simp(maxSteps:=4000000) only[ZE,↓reduceIte,pE,pL,pA,pS,pM,pD,zaI h,zN,qT,qG,qL,qH,qN,qB,qE,qO,qA,qM,List.length_map]
 ·have h0:((a.length:Int) !=(b.length:Int))=true:=by rw[bne_iff_ne]; omega
  have hne:decide (a=b)=false:=decide_eq_false fun e=>hn (by rw[e]);rw[hne];simp(maxSteps:=4000000) only[ZE,↓reduceIte,pE,pL,pA,pS,pM,pD,zN,qT,qG,qL,qH,qN,qB,qE,qO,qA,qM,List.length_map,h0]
def zg1(s:Str)(n:Nat):Item:={zaV with kind:=⟨4,rfl⟩,name:=s,width:=⟨2,emp⟩,init:=⟨(n:Int),emp⟩,a:=.mk 14 s zbh zbh []}
theorem znC(s:Str)(n:Nat):FnP Tryz.prog 84 [eS s,eI n] (.d (.agg (zaK (zg1 s n)))) []:=by
 refine FnP.of_eC (own:=[]) (fun _=>[]) zat Tryz.func84 rfl Tryz.call84 Tryz.ntmps84 (Nat.le_of_ble_eq_true rfl) Tryz.results84 (fun hok=> ?_);simp(maxSteps:=4000000) only[ZE,↓reduceIte,pE,pL,pA,pS,pM,pD,zN,qT,qG,qL,qH,qN,qB,qE,qO,qA,qM,zg1,zaV,zbS,Expr.op,Expr.name,Expr.k,Expr.w,Expr.args,zbh,emp,Int.reduceEq,not_false_eq_true,List.map_nil]
def sMM:Str:=st [109]
def sCC:Str:=st [99]
theorem zvQ(l:List Item):FnP Tryz.prog 83 [.sl (l.map zaK)] (.d (.agg [zaz [⟨sMM,sCC,[],l⟩]])) []:=by
 refine FnP.of_eC (own:=[]) (fun _=>[]) zat Tryz.func83 rfl Tryz.call83 Tryz.ntmps83 (Nat.le_of_ble_eq_true rfl) Tryz.results83 (fun hok=> ?_);simp(maxSteps:=4000000) only[ZE,↓reduceIte,pE,pL,pA,pS,pM,pD,zN,qT,qG,qL,qH,qN,qB,qE,qO,qA,qM,sMM,sCC,st,List.map_cons,List.map_nil]
def eGot(g:Got):List D:=[zaz g.f,.sl (g.l.map zaL),eI g.e]
def zxZ(a b:Got):Bool:=a.e==b.e&&zmb a.f b.f&&decide (a.l=b.l)
theorem zh3(a:Got):zxZ a a=true:=by unfold zxZ; rw[(zna a.f a.f).2 rfl]; simp
theorem zn2(a b:Got):FnP Tryz.prog 36 [.agg (eGot a),.agg (eGot b)] (.d (eB (zxZ a b))) []:=by
 refine FnP.of_eC (own:=[]) (fun i=>if i=2001 then [.chn]else []) zat Tryz.func36 rfl Tryz.call36 Tryz.ntmps36 (Nat.le_of_ble_eq_true rfl) Tryz.results36 (fun hok=> ?_);have c1:=rsame_c a.f b.f;have c2:=samePl_c a.l b.l;unfold zxZ;simp(maxSteps:=4000000) only[ZE,↓reduceIte,pE,pL,pA,pS,pM,pD]at c1 c2;simp(maxSteps:=4000000) only[ZE,↓reduceIte,pE,pL,pA,pS,pM,pD,zN,qT,qG,qL,qH,qN,qB,qE,qO,qA,qM,eGot];refine za4.i (fun _=>c1) ?_;simp(maxSteps:=4000000) only[ZE,↓reduceIte,pE,pL,pA,pS,pM,pD,zN,qT,qG,qL,qH,qN,qB,qE,qO,qA,qM];refine za4.i (fun _=>c2) ?_;simp(maxSteps:=4000000) only[ZE,↓reduceIte,pE,pL,pA,pS,pM,pD,zN,qT,qG,qL,qH,qN,qB,qE,qO,qA,qM]
theorem mergedL_c(b x y:List Module)(V:Got)(hV:V.l.length<=1000000)(mc:FnP Tryz.prog 91 [.agg [zaz b],.agg [zaz x],.agg [zaz y]] (.tup [.d (.agg [zaz V.f]),.d (.sl (V.l.map zaL)),.d (eI V.e)]) []):FnP Tryz.prog 37 [.agg [zaz b,zaz x,zaz y]] (.d (.agg (eGot V))) []:=by
 refine FnP.of_eC (own:=[]) (fun i=>if i=2002 then [.ord ⟨[(0,none),(1,none),(2,none),(3,none),(4,none),(5,some [])]⟩]else []) zat Tryz.func37 rfl Tryz.call37 Tryz.ntmps37 (Nat.le_of_ble_eq_true rfl) Tryz.results37 (fun hok=> ?_);have lc:=listed_c V.l hV;obtain⟨f,hf⟩:=zX (V.f);obtain⟨l,hl⟩:=zX (V.l);obtain⟨e,he⟩:=zX (V.e);unfold eGot;rw[hf,hl,he]at mc ⊢;rw[hl]at lc;simp(maxSteps:=4000000) only[ZE,↓reduceIte,pE,pL,pA,pS,pM,pD]at mc lc;simp(maxSteps:=4000000) only[ZE,↓reduceIte,pE,pL,pA,pS,pM,pD,zN,qT,qG,qL,qH,qN,qB,qE,qO,qA,qM];refine EFn.p ?_;simp(maxSteps:=4000000) only[ZE,↓reduceIte,pE,pL,pA,pS,pM,pD,zN,qT,qG,qL,qH,qN,qB,qE,qO,qA,qM];refine zar.i mc ?_;simp(maxSteps:=4000000) only[ZE,↓reduceIte,pE,pL,pA,pS,pM,pD,zN,qT,qG,qL,qH,qN,qB,qE,qO,qA,qM];refine⟨by kernel_rfl,zay.i lc ?_⟩;simp(maxSteps:=4000000) only[ZE,↓reduceIte,pE,pL,pA,pS,pM,pD,zN,qT,qG,qL,qH,qN,qB,qE,qO,qA,qM]
def zsL(l:List Place)(e:Int):List D:=[.sl (l.map zaL),eI e]
theorem placesL_c(a b:List Module)(l:List Place)(e:Int)(hl:l.length<=1000000)(mc:FnP Tryz.prog 86 [.agg [zaz a],.agg [zaz b]] (.tup [.d (.sl (l.map zaL)),.d (eI e)]) []):FnP Tryz.prog 34 [.agg [zaz a],.agg [zaz b]] (.d (.agg (zsL l e))) []:=by
 refine FnP.of_eC (own:=[]) (fun _=>[]) zat Tryz.func34 rfl Tryz.call34 Tryz.ntmps34 (Nat.le_of_ble_eq_true rfl) Tryz.results34 (fun hok=> ?_);have lc:=listed_c l hl;unfold zsL;simp(maxSteps:=4000000) only[ZE,↓reduceIte,pE,pL,pA,pS,pM,pD]at mc lc;simp(maxSteps:=4000000) only[ZE,↓reduceIte,pE,pL,pA,pS,pM,pD,zN,qT,qG,qL,qH,qN,qB,qE,qO,qA,qM];refine EFn.p ?_;simp(maxSteps:=4000000) only[ZE,↓reduceIte,pE,pL,pA,pS,pM,pD,zN,qT,qG,qL,qH,qN,qB,qE,qO,qA,qM];refine zar.i mc ?_;simp(maxSteps:=4000000) only[ZE,↓reduceIte,pE,pL,pA,pS,pM,pD,zN,qT,qG,qL,qH,qN,qB,qE,qO,qA,qM];refine EFn.p ?_;simp(maxSteps:=4000000) only[ZE,↓reduceIte,pE,pL,pA,pS,pM,pD,zN,qT,qG,qL,qH,qN,qB,qE,qO,qA,qM];refine zar.i lc ?_;simp(maxSteps:=4000000) only[ZE,↓reduceIte,pE,pL,pA,pS,pM,pD,zN,qT,qG,qL,qH,qN,qB,qE,qO,qA,qM]
theorem sideL_c(b x y:List Module)(p:Place)(n e:Int)(mc:FnP Tryz.prog 96 [.agg [zaz b],.agg [zaz x],.agg [zaz y],.agg (zaL p)] (.tup [.d (eI n),.d (eI e)]) []):FnP Tryz.prog 40 [.agg [zaz b,zaz x,zaz y],.agg (zaL p)] (.d (.agg [eI n,eI e])) []:=by
 refine FnP.of_eC (own:=[]) (fun _=>[]) zat Tryz.func40 rfl Tryz.call40 Tryz.ntmps40 (Nat.le_of_ble_eq_true rfl) Tryz.results40 (fun hok=> ?_);unfold zaL at mc ⊢;simp(maxSteps:=4000000) only[ZE,↓reduceIte,pE,pL,pA,pS,pM,pD]at mc;simp(maxSteps:=4000000) only[ZE,↓reduceIte,pE,pL,pA,pS,pM,pD,zN,qT,qG,qL,qH,qN,qB,qE,qO,qA,qM];refine EFn.p ?_;simp(maxSteps:=4000000) only[ZE,↓reduceIte,pE,pL,pA,pS,pM,pD,zN,qT,qG,qL,qH,qN,qB,qE,qO,qA,qM];refine zar.i mc ?_;simp(maxSteps:=4000000) only[ZE,↓reduceIte,pE,pL,pA,pS,pM,pD,zN,qT,qG,qL,qH,qN,qB,qE,qO,qA,qM]
structure Gs (f:List Module):Prop where
 fl:Fl f
 len:f.length<=200
 items: ∀m∈f,m.items.length<=300
theorem Gi.gs{n:Nat}{f:List Module}(h:Gi n f)(hn:n<=100):Gs f:=⟨h.fl,by have:=h.len; omega,fun m hm=>by have:=(h.fine m hm).items; omega⟩
theorem Gs.sz{f:List Module}(h:Gs f):Sz f:=⟨by have:=h.len; omega,fun m hm=>by have:=h.items m hm; omega⟩
theorem Gs.keys{f:List Module}(h:Gs f):(zey f).length <=60200:=by
 have key: ∀l:List Module,(∀m∈l,m.items.length<=300)->(zey l).length <=l.length*301:=by
  intro l
  induction l with
  | nil=>intro _; simp[zey,ent]
  | cons m r ih=>
   intro hm;have h1:=ih fun q hq=>hm q (List.mem_cons_of_mem _ hq);have h2:=hm m (by simp);unfold zey ent at h1 ⊢;rw[List.flatMap_cons,List.map_append,List.length_append];have e:((zmv m).map Prod.fst).length =m.items.length+1:=by simp[zmv]
   rw[e,List.length_cons,Nat.add_mul];omega
 exact Nat.le_trans (key f h.items) (Nat.mul_le_mul_right _ h.len)
theorem merge_g{b x y:List Module}(hb:Gs b)(hx:Gs x)(hy:Gs y)(hS:zeN b x y=[]->Small (zcQ b x y)):FnP Tryz.prog 91 [.agg [zaz b],.agg [zaz x],.agg [zaz y]] (.tup [.d (.agg [zaz (zbz b x y).f]),.d (.sl ((zbz b x y).l.map zaL)),.d (eI (zbz b x y).e)]) []:=by
 refine FnP.post (mergeR_c b x y hb.fl hx.fl hy.fl hb.sz hx.sz hy.sz (by have:=hb.keys; have:=hx.keys; have:=hy.keys; simp only[List.flatMap_cons,List.flatMap_nil,List.length_append,List.length_nil]; omega) hS) fun O W F η v h=> ?_;simp only[zaJ,zaN,Rd,zav]at h ⊢;obtain⟨vs,rfl,a,r,rfl,⟨us,rfl,u,w,rfl,h1,h2⟩,h3⟩:=h;exact⟨_,rfl,_,_,rfl,⟨_,rfl,_,_,rfl,eMR_wk _ _ _ _ h1,h2⟩,h3⟩
theorem all_len(l:List (List Module)):(zo3 l).length <=(l.flatMap zey).length :=zgH (by
 have:=Srt.nodup zl3 (zn3 l);rwa [List.map_id]at this) fun p hp=>(zgF zl3).1 hp
theorem conf_len{b x y:List Module}(hb:Fl b)(hx:Fl x)(hy:Fl y):(zeN b x y).length <=(zo3 [b,x,y]).length :=by
 refine zgH ?_ fun q hq=> ?_
 ·have:=Srt.nodup zl3 (zjU zl3 ((zo3 [b,x,y]).flatMap (zeh (zbu b) (zbu x) (zbu y))));rwa [List.map_id]at this
 ·have hd: ∀p,p∈zo3 [b,x,y]->zbL p.module∈zo3 [b,x,y]:=fun p hp=>by
   rw[zxw hb hx hy]at hp ⊢;exact hp.imp hb.head (.imp hx.head hy.head)
  rcases(zmS hb hx hy).1 hq with h | ⟨p,rfl,h⟩
  ·exact zpV hb hx hy h
  ·refine hd p ?_;rcases h.2.2.2 with h | h
   ·exact zrV hb hx hy h
   ·exact zpV hb hx hy h
theorem got_len{b x y:List Module}(hb:Gs b)(hx:Gs x)(hy:Gs y):(zbz b x y).l.length <=1000000:=by
 have h1:=conf_len hb.fl hx.fl hy.fl;have h2:=all_len [b,x,y];have h3:=hb.keys; have h4:=hx.keys; have h5:=hy.keys;simp only[List.flatMap_cons,List.flatMap_nil,List.length_append,List.length_nil]at h2;unfold zbz;split
 ·show(zeN b x y).length <=_; omega
 ·split <;> exact Nat.zero_le _
theorem pl_len{a b:List Module}(ha:Gs a)(hb:Gs b):(zgJ a b).length <=1000000:=by
 have h2:=all_len [a,b];have h3:=ha.keys; have h4:=hb.keys;simp only[List.flatMap_cons,List.flatMap_nil,List.length_append,List.length_nil]at h2;have:=List.length_filter_le (fun p=>decide (zbu a p≠zbu b p)) (zo3 [a,b]);unfold zgJ;omega
theorem znv{b x y:List Module}(hb:Gs b)(hx:Gs x)(hy:Gs y)(hS:zeN b x y=[]->Small (zcQ b x y)):FnP Tryz.prog 37 [.agg [zaz b,zaz x,zaz y]] (.d (.agg (eGot (zbz b x y)))) []:=
 mergedL_c b x y _ (got_len hb hx hy) (merge_g hb hx hy hS)
theorem zi5{n:Nat}(hn:n<=40){b x y:List Module}(hb:Gi n b)(hx:Gi n x)(hy:Gi n y):FnP Tryz.prog 37 [.agg [zaz b,zaz x,zaz y]] (.d (.agg (eGot (zbz b x y)))) []:=
 znv (hb.gs (by omega)) (hx.gs (by omega)) (hy.gs (by omega)) (zrn (by omega) hb hx hy)
theorem znA{a b:List Module}(ha:Gs a)(hb:Gs b):FnP Tryz.prog 34 [.agg [zaz a],.agg [zaz b]] (.d (.agg (zsL (zgJ a b) 0))) []:=by
 refine placesL_c a b _ _ (pl_len ha hb) ?_;have pc:=places_c a b ha.sz hb.sz (by have:=ha.keys; have:=hb.keys; simp only[List.flatMap_cons,List.flatMap_nil,List.length_append,List.length_nil]; omega);have hall:[a,b].all zgo=true:=by simp only[List.all_cons,List.all_nil,(zbW _).2 ha.fl.part,(zbW _).2 hb.fl.part,Bool.and_true]
 unfold placesR at pc;rwa [if_pos hall]at pc
theorem ztH{b x y f:List Module}(h:zbz b x y=⟨f,[],0⟩):zeN b x y=[]/\zcQ b x y=f:=by
 unfold zbz at h;split at h
 ·have:=congrArg Got.e h; cases this
 ·rename_i hc;refine⟨Classical.not_not.1 hc,?_⟩;split at h
  ·exact congrArg Got.f h
  ·have:=congrArg Got.e h; cases this
/-! ### Examples -/
def exF(l:List Item):List Module:=[⟨sMM,sCC,[],l⟩]
def sE:Str:=st [115]
def sRr:Str:=st [114]
def plR:Place:=⟨sMM,⟨⟨4,rfl⟩,sRr⟩⟩
theorem xx1:zbz (exF [zg1 sRr 0]) (exF [zg1 sRr 1]) (exF [zg1 sE 0,zg1 sRr 0])=⟨exF [zg1 sRr 1,zg1 sE 0],[],0⟩:=by kernel_rfl
theorem xx2:zbz (exF [zg1 sRr 0]) (exF [zg1 sRr 1]) (exF [zg1 sRr 2])=⟨[],[plR],170⟩:=by kernel_rfl
theorem xx3:zbz (exF [zg1 sRr 0]) (exF [zg1 sRr 1]) []=⟨[],[zbL sMM,plR],170⟩:=by kernel_rfl
theorem xx4:(zgJ (exF [zg1 sRr 0]) (exF [zg1 sE 0,zg1 sRr 0])).length =1:=by kernel_rfl
theorem mergeBad_c(b x y:List Module)(zb:Sz b)(zx:Sz x)(zy:Sz y)(h:[b,x,y].all zgo=false):FnP Tryz.prog 91 [.agg [zaz b],.agg [zaz x],.agg [zaz y]] (.tup [.d (.agg [zaz []]),.d (.sl []),.d (eI 1)]) []:=by
 refine FnP.of_eC (own:=[]) (fun _=>[]) zat Tryz.func91 rfl Tryz.call91 Tryz.ntmps91 (Nat.le_of_ble_eq_true rfl) Tryz.results91 (fun hok=> ?_);have oc:=zrY [b,x,y] (fun f hf=>by simp only[List.mem_cons,List.not_mem_nil,or_false]at hf; rcases hf with rfl | rfl | rfl <;> assumption) (by simp);unfold openR at oc;rw[h]at oc;simp only[List.map_cons,List.map_nil]at oc;simp(maxSteps:=4000000) only[ZE,↓reduceIte,pE,pL,pA,pS,pM,pD,Bool.false_eq_true]at oc;simp(maxSteps:=4000000) only[ZE,↓reduceIte,pE,pL,pA,pS,pM,pD,zN,qT,qG,qL,qH,qN,qB,qE,qO,qA,qM,List.map_nil];refine EFn.p ?_;simp(maxSteps:=4000000) only[ZE,↓reduceIte,pE,pL,pA,pS,pM,pD];refine zar.i oc ?_;simp(maxSteps:=4000000) only[ZE,↓reduceIte,pE,pL,pA,pS,pM,pD,zN,qT,qG,qL,qH,qN,qB,qE,qO,qA,qM,List.map_nil]
theorem exReg_sz(s:Str)(n:Nat):sz (zg1 s n).a +sz (zg1 s n).b +sz (zg1 s n).c <=50:=by
 have h1:sz (zg1 s n).a =1:=sz_leaf _ _ _ _;have h2:sz (zg1 s n).b =sz zbS:=rfl;have h3:sz (zg1 s n).c =sz zbS:=rfl;have h4:sz zbS=1:=sz_leaf _ _ _ _;omega
theorem gs_ex{l:List Item}(h:zgo (exF l)=true)(hl:l.length<=50)(hx: ∀x∈l,∃s n,x=zg1 s n):Gs (exF l)/\Small (exF l):=by
 refine⟨⟨⟨(zbW _).1 h,⟨fun m hm x hi=> ?_⟩⟩,by simp[exF],fun m hm=> ?_⟩,zfC (n:=60) (by omega) (by simp[exF]) fun m hm=> ?_⟩
 all_goals
  simp only[exF,List.mem_singleton]at hm;subst hm
 ·obtain⟨s,n,rfl⟩:=hx x hi;show(0:Int)<4;decide
 ·show l.length<=300; omega
 ·refine⟨by show l.length<=_; omega,by simp,fun x hi=> ?_,fun x hi=> ?_,fun x hi=> ?_⟩
  all_goals obtain⟨s,n,rfl⟩:=hx x hi
  ·have:=exReg_sz s n; omega
  ·exact Nat.zero_le _
  ·exact Nat.zero_le _
theorem conf_ne{b x y f:List Module}{p:Place}{l:List Place}{e:Int}(h:zbz b x y=⟨f,p::l,e⟩):zeN b x y≠[]:=fun hc=>by
 unfold zbz at h;rw[if_neg (fun h=>h hc)]at h;have:=congrArg Got.l h;split at this <;> cases this
def zmw:Item:=zg1 sRr 0
def zvd:Item:=zg1 sRr 1
def exR2:Item:=zg1 sRr 2
def zvO:Item:=zg1 sE 0
theorem xx5:zf9 (zbu (exF [zmw])) (zbu (exF [zvd])) (zbu (exF [exR2])) plR=4:=by kernel_rfl
theorem xx6:zf9 (zbu (exF [zmw])) (zbu (exF [zmw])) (zbu (exF [exR2])) plR=2:=by kernel_rfl
theorem xx7:[exF [zmw,zmw],[],[]].all zgo=false:=by kernel_rfl
theorem exs_reg(x:Item)(h:x∈[zmw,zvd,exR2,zvO]): ∃s n,x=zg1 s n:=by
 simp only[List.mem_cons,List.not_mem_nil,or_false]at h;rcases h with rfl | rfl | rfl | rfl <;> exact⟨_,_,rfl⟩
theorem gs_of(l:List Item)(h:zgo (exF l)=true)(hl:l.length<=50)(hx: ∀x∈l,x∈[zmw,zvd,exR2,zvO]):Gs (exF l)/\Small (exF l):=gs_ex h hl fun x hi=>exs_reg x (hx x hi)
theorem gsB:Gs (exF [zmw])/\Small (exF [zmw]):=gs_of _ (by kernel_rfl) (by simp) (by simp)
theorem gsO:Gs (exF [zvd])/\Small (exF [zvd]):=gs_of _ (by kernel_rfl) (by simp) (by simp)
theorem gsT:Gs (exF [exR2])/\Small (exF [exR2]):=gs_of _ (by kernel_rfl) (by simp) (by simp)
theorem gsM:Gs (exF [zvO,zmw])/\Small (exF [zvO,zmw]):=gs_of _ (by kernel_rfl) (by simp) (by simp)
theorem gsW:Gs (exF [zvd,zvO])/\Small (exF [zvd,zvO]):=gs_of _ (by kernel_rfl) (by simp) (by simp)
theorem gsN:Gs []:=⟨⟨(zbW _).1 (by kernel_rfl),⟨by simp⟩⟩,by simp,by simp⟩
theorem side_e{b x y:List Module}(hb:Gs b)(hx:Gs x)(hy:Gs y)(p:Place):FnP Tryz.prog 40 [.agg [zaz b,zaz x,zaz y],.agg (zaL p)] (.d (.agg [eI (zf9 (zbu b) (zbu x) (zbu y) p),eI 0])) []:=by
 refine sideL_c b x y p _ _ ?_;have sc:=mside_c b x y hb.sz hx.sz hy.sz p;unfold sideR at sc;rwa [if_pos (by simp only[List.all_cons,List.all_nil,(zbW _).2 hb.fl.part,(zbW _).2 hx.fl.part,(zbW _).2 hy.fl.part,Bool.and_true])]at sc
theorem zfb:FnP Tryz.prog 31 [] (.d (eB true)) []:=by
 refine FnP.of_eC (own:=[]) (fun i=>if i=2010 then [.ord ⟨[(0,none),(1,none),(2,none),(3,none),(4,none),(5,none),(6,none),(7,none),(8,none),(9,none),(10,none),(11,none),(12,none),(13,none),(14,none),(15,none),(16,none),(17,none),(18,none),(19,none),(20,none),(21,none),(22,none),(23,none),(24,none)]⟩]else []) zat Tryz.func31 rfl Tryz.call31 Tryz.ntmps31 (Nat.le_of_ble_eq_true rfl) Tryz.results31 (fun hok=> ?_);have r0:FnP Tryz.prog 84 [eS sRr,eI 0] (.d (.agg (zaK zmw))) []:=znC sRr 0;have r1:FnP Tryz.prog 84 [eS sRr,eI 1] (.d (.agg (zaK zvd))) []:=znC sRr 1;have r2:FnP Tryz.prog 84 [eS sRr,eI 2] (.d (.agg (zaK exR2))) []:=znC sRr 2;have s0:FnP Tryz.prog 84 [eS sE,eI 0] (.d (.agg (zaK zvO))) []:=znC sE 0;have f0:=zvQ [zmw];have f1:=zvQ [zvd];have f2:=zvQ [exR2];have fm:=zvQ [zvO,zmw];have fw:=zvQ [zvd,zvO];have fx:=zvQ [zmw,zmw];have m1:=znv gsB.1 gsO.1 gsM.1 (fun _=>by
  have e:zcQ (exF [zmw]) (exF [zvd]) (exF [zvO,zmw])=exF [zvd,zvO]:=(ztH xx1).2;rw[e]; exact gsW.2)
 have m2:=znv gsB.1 gsO.1 gsT.1 (fun h=>absurd h (conf_ne xx2));have m3:=znv gsB.1 gsO.1 gsN (fun h=>absurd h (conf_ne xx3));have x1:zbz (exF [zmw]) (exF [zvd]) (exF [zvO,zmw])=⟨exF [zvd,zvO],[],0⟩:=xx1;have x2:zbz (exF [zmw]) (exF [zvd]) (exF [exR2])=⟨[],[plR],170⟩:=xx2;have x3:zbz (exF [zmw]) (exF [zvd]) []=⟨[],[zbL sMM,plR],170⟩:=xx3;rw[x1]at m1;rw[x2]at m2;rw[x3]at m3;have al1:=zn2 ⟨exF [zvd,zvO],[],0⟩ ⟨exF [zvd,zvO],[],0⟩;have al2:=zn2 ⟨[],[plR],170⟩ ⟨[],[plR],170⟩;have al3:=zn2 ⟨[],[zbL sMM,plR],170⟩ ⟨[],[zbL sMM,plR],170⟩;rw[zh3]at al1 al2 al3;have pc:=znA gsB.1 gsM.1;have pl:(zgJ (exF [zmw]) (exF [zvO,zmw])).length =1:=xx4;obtain⟨pls,hpls⟩: ∃l,zgJ (exF [zmw]) (exF [zvO,zmw])=l:=⟨_,rfl⟩;rw[hpls]at pc pl;have se1:=side_e gsB.1 gsO.1 gsT.1 plR;have se2:=side_e gsB.1 gsB.1 gsT.1 plR;rw[xx5]at se1;rw[xx6]at se2;have zx:Sz (exF [zmw,zmw]):=⟨by simp[exF],fun m hm=>by simp only[exF,List.mem_singleton]at hm; subst hm; show 2<=_; omega⟩;have mb:=mergedL_c (exF [zmw,zmw]) [] [] ⟨[],[],1⟩ (by simp) (mergeBad_c _ _ _ zx gsN.sz gsN.sz xx7);have g: ∀l,[(⟨sMM,sCC,[],l⟩:Module)]=exF l:=fun _=>rfl;rw[g]at f0 f1 f2 fm fw fx;obtain⟨B,hB⟩: ∃f,exF [zmw]=f:=⟨_,rfl⟩;obtain⟨O,hO⟩: ∃f,exF [zvd]=f:=⟨_,rfl⟩;obtain⟨T,hT⟩: ∃f,exF [exR2]=f:=⟨_,rfl⟩;obtain⟨M,hM⟩: ∃f,exF [zvO,zmw]=f:=⟨_,rfl⟩;obtain⟨V,hV⟩: ∃f,exF [zvd,zvO]=f:=⟨_,rfl⟩;obtain⟨X,hX⟩: ∃f,exF [zmw,zmw]=f:=⟨_,rfl⟩;rw[hB]at f0 m1 m2 m3 pc se1 se2;rw[hO]at f1 m1 m2 m3 se1;rw[hT]at f2 m2 se1 se2;rw[hM]at fm m1 pc;rw[hV]at fw m1 al1;rw[hX]at fx mb;simp only[List.map_cons,List.map_nil]at f0 f1 f2 fm fw fx;obtain⟨R0,hR0⟩: ∃f,zmw=f:=⟨_,rfl⟩;obtain⟨R1,hR1⟩: ∃f,zvd=f:=⟨_,rfl⟩;obtain⟨R2,hR2⟩: ∃f,exR2=f:=⟨_,rfl⟩;obtain⟨S0,hS0⟩: ∃f,zvO=f:=⟨_,rfl⟩;rw[hR0]at r0 f0 fm fx;rw[hR1]at r1 f1 fw;rw[hR2]at r2 f2;rw[hS0]at s0 fm fw;clear hB hO hT hM hV hX hR0 hR1 hR2 hS0 g x1 x2 x3;simp only[eGot,zsL,zaL]at m1 m2 m3 al1 al2 al3 pc se1 se2 mb;simp(maxSteps:=4000000) only[ZE,↓reduceIte,pE,pL,pA,pS,pM,pD,sRr,sE,sMM,sCC,st,plR,zbL,zdb,emp,List.map_nil,List.map_cons]at r0 r1 r2 s0 f0 f1 f2 fm fw fx m1 m2 m3 al1 al2 al3 pc se1 se2 mb;simp(maxSteps:=4000000) only[ZE,↓reduceIte,pE,pL,pA,pS,pM,pD,zN,qT,qG,qL,qH,qN,qB,qE,qO,qA,qM];refine EFn.p ?_;simp(maxSteps:=4000000) only[ZE,↓reduceIte,pE,pL,pA,pS,pM,pD,zN,qT,qG,qL,qH,qN,qB,qE,qO,qA,qM];refine zar.i r0 ?_;simp(maxSteps:=4000000) only[ZE,↓reduceIte,pE,pL,pA,pS,pM,pD,zN,qT,qG,qL,qH,qN,qB,qE,qO,qA,qM];refine EFn.p ?_;simp(maxSteps:=4000000) only[ZE,↓reduceIte,pE,pL,pA,pS,pM,pD,zN,qT,qG,qL,qH,qN,qB,qE,qO,qA,qM];refine zar.i f0 ?_;simp(maxSteps:=4000000) only[ZE,↓reduceIte,pE,pL,pA,pS,pM,pD,zN,qT,qG,qL,qH,qN,qB,qE,qO,qA,qM];refine EFn.p ?_;simp(maxSteps:=4000000) only[ZE,↓reduceIte,pE,pL,pA,pS,pM,pD,zN,qT,qG,qL,qH,qN,qB,qE,qO,qA,qM];refine zar.i r1 ?_;simp(maxSteps:=4000000) only[ZE,↓reduceIte,pE,pL,pA,pS,pM,pD,zN,qT,qG,qL,qH,qN,qB,qE,qO,qA,qM];refine EFn.p ?_;simp(maxSteps:=4000000) only[ZE,↓reduceIte,pE,pL,pA,pS,pM,pD,zN,qT,qG,qL,qH,qN,qB,qE,qO,qA,qM];refine zar.i f1 ?_;simp(maxSteps:=4000000) only[ZE,↓reduceIte,pE,pL,pA,pS,pM,pD,zN,qT,qG,qL,qH,qN,qB,qE,qO,qA,qM];refine EFn.p ?_;simp(maxSteps:=4000000) only[ZE,↓reduceIte,pE,pL,pA,pS,pM,pD,zN,qT,qG,qL,qH,qN,qB,qE,qO,qA,qM];refine zar.i s0 ?_;simp(maxSteps:=4000000) only[ZE,↓reduceIte,pE,pL,pA,pS,pM,pD,zN,qT,qG,qL,qH,qN,qB,qE,qO,qA,qM];refine EFn.p ?_;simp(maxSteps:=4000000) only[ZE,↓reduceIte,pE,pL,pA,pS,pM,pD,zN,qT,qG,qL,qH,qN,qB,qE,qO,qA,qM];refine zar.i r0 ?_;simp(maxSteps:=4000000) only[ZE,↓reduceIte,pE,pL,pA,pS,pM,pD,zN,qT,qG,qL,qH,qN,qB,qE,qO,qA,qM];refine EFn.p ?_;simp(maxSteps:=4000000) only[ZE,↓reduceIte,pE,pL,pA,pS,pM,pD,zN,qT,qG,qL,qH,qN,qB,qE,qO,qA,qM];refine zar.i fm ?_;simp(maxSteps:=4000000) only[ZE,↓reduceIte,pE,pL,pA,pS,pM,pD,zN,qT,qG,qL,qH,qN,qB,qE,qO,qA,qM];refine EFn.p ?_;simp(maxSteps:=4000000) only[ZE,↓reduceIte,pE,pL,pA,pS,pM,pD,zN,qT,qG,qL,qH,qN,qB,qE,qO,qA,qM];refine zar.i r2 ?_;simp(maxSteps:=4000000) only[ZE,↓reduceIte,pE,pL,pA,pS,pM,pD,zN,qT,qG,qL,qH,qN,qB,qE,qO,qA,qM];refine EFn.p ?_;simp(maxSteps:=4000000) only[ZE,↓reduceIte,pE,pL,pA,pS,pM,pD,zN,qT,qG,qL,qH,qN,qB,qE,qO,qA,qM];refine zar.i f2 ?_;simp(maxSteps:=4000000) only[ZE,↓reduceIte,pE,pL,pA,pS,pM,pD,zN,qT,qG,qL,qH,qN,qB,qE,qO,qA,qM];refine EFn.p ?_;simp(maxSteps:=4000000) only[ZE,↓reduceIte,pE,pL,pA,pS,pM,pD,zN,qT,qG,qL,qH,qN,qB,qE,qO,qA,qM];refine zar.i m1 ?_;simp(maxSteps:=4000000) only[ZE,↓reduceIte,pE,pL,pA,pS,pM,pD,zN,qT,qG,qL,qH,qN,qB,qE,qO,qA,qM];refine EFn.p ?_;simp(maxSteps:=4000000) only[ZE,↓reduceIte,pE,pL,pA,pS,pM,pD,zN,qT,qG,qL,qH,qN,qB,qE,qO,qA,qM];refine zar.i m2 ?_;simp(maxSteps:=4000000) only[ZE,↓reduceIte,pE,pL,pA,pS,pM,pD,zN,qT,qG,qL,qH,qN,qB,qE,qO,qA,qM];refine EFn.p ?_;simp(maxSteps:=4000000) only[ZE,↓reduceIte,pE,pL,pA,pS,pM,pD,zN,qT,qG,qL,qH,qN,qB,qE,qO,qA,qM];refine zar.i m3 ?_;simp(maxSteps:=4000000) only[ZE,↓reduceIte,pE,pL,pA,pS,pM,pD,zN,qT,qG,qL,qH,qN,qB,qE,qO,qA,qM];refine⟨by kernel_rfl,zay.i r1 ?_⟩;simp(maxSteps:=4000000) only[ZE,↓reduceIte,pE,pL,pA,pS,pM,pD,zN,qT,qG,qL,qH,qN,qB,qE,qO,qA,qM];refine zay.i s0 ?_;simp(maxSteps:=4000000) only[ZE,↓reduceIte,pE,pL,pA,pS,pM,pD,zN,qT,qG,qL,qH,qN,qB,qE,qO,qA,qM];refine zay.i fw ?_;simp(maxSteps:=4000000) only[ZE,↓reduceIte,pE,pL,pA,pS,pM,pD,zN,qT,qG,qL,qH,qN,qB,qE,qO,qA,qM];refine zay.i al1 ?_;simp(maxSteps:=4000000) only[ZE,↓reduceIte,pE,pL,pA,pS,pM,pD,zN,qT,qG,qL,qH,qN,qB,qE,qO,qA,qM];refine zay.i al2 ?_;simp(maxSteps:=4000000) only[ZE,↓reduceIte,pE,pL,pA,pS,pM,pD,zN,qT,qG,qL,qH,qN,qB,qE,qO,qA,qM];refine zay.i al3 ?_;simp(maxSteps:=4000000) only[ZE,↓reduceIte,pE,pL,pA,pS,pM,pD,zN,qT,qG,qL,qH,qN,qB,qE,qO,qA,qM];refine EFn.p ?_;simp(maxSteps:=4000000) only[ZE,↓reduceIte,pE,pL,pA,pS,pM,pD,zN,qT,qG,qL,qH,qN,qB,qE,qO,qA,qM];refine zar.i pc ?_;simp(maxSteps:=4000000) only[ZE,↓reduceIte,pE,pL,pA,pS,pM,pD,zN,qT,qG,qL,qH,qN,qB,qE,qO,qA,qM];refine EFn.p ?_;simp(maxSteps:=4000000) only[ZE,↓reduceIte,pE,pL,pA,pS,pM,pD,zN,qT,qG,qL,qH,qN,qB,qE,qO,qA,qM];refine zar.i r0 ?_;simp(maxSteps:=4000000) only[ZE,↓reduceIte,pE,pL,pA,pS,pM,pD,zN,qT,qG,qL,qH,qN,qB,qE,qO,qA,qM];refine EFn.p ?_;simp(maxSteps:=4000000) only[ZE,↓reduceIte,pE,pL,pA,pS,pM,pD,zN,qT,qG,qL,qH,qN,qB,qE,qO,qA,qM];refine zar.i r0 ?_;simp(maxSteps:=4000000) only[ZE,↓reduceIte,pE,pL,pA,pS,pM,pD,zN,qT,qG,qL,qH,qN,qB,qE,qO,qA,qM];refine EFn.p ?_;simp(maxSteps:=4000000) only[ZE,↓reduceIte,pE,pL,pA,pS,pM,pD,zN,qT,qG,qL,qH,qN,qB,qE,qO,qA,qM];refine zar.i fx ?_;simp(maxSteps:=4000000) only[ZE,↓reduceIte,pE,pL,pA,pS,pM,pD,zN,qT,qG,qL,qH,qN,qB,qE,qO,qA,qM];refine EFn.p ?_;simp(maxSteps:=4000000) only[ZE,↓reduceIte,pE,pL,pA,pS,pM,pD,zN,qT,qG,qL,qH,qN,qB,qE,qO,qA,qM];refine zar.i mb ?_;simp(maxSteps:=4000000) only[ZE,↓reduceIte,pE,pL,pA,pS,pM,pD,zN,qT,qG,qL,qH,qN,qB,qE,qO,qA,qM,List.length_map,pl];refine EFn.p ?_;simp(maxSteps:=4000000) only[ZE,↓reduceIte,pE,pL,pA,pS,pM,pD,zN,qT,qG,qL,qH,qN,qB,qE,qO,qA,qM];refine zar.i se1 ?_;simp(maxSteps:=4000000) only[ZE,↓reduceIte,pE,pL,pA,pS,pM,pD,zN,qT,qG,qL,qH,qN,qB,qE,qO,qA,qM];refine EFn.p ?_;simp(maxSteps:=4000000) only[ZE,↓reduceIte,pE,pL,pA,pS,pM,pD,zN,qT,qG,qL,qH,qN,qB,qE,qO,qA,qM];refine zar.i se2 ?_;simp(maxSteps:=4000000) only[ZE,↓reduceIte,pE,pL,pA,pS,pM,pD,zN,qT,qG,qL,qH,qN,qB,qE,qO,qA,qM]
end Go.Proofs.YtbenhdgpogiadaaGreat
