/-
 CONTRACTS and plain laws. Conditions: those of each law.
-/
import Derived.Test.YtbenhdgpogiadaaGreatNK6
import Derived.Test.YtbenhdgpogiadaaGreatNK9
import Derived.Test.YtbenhdgpogiadaaGreatNGRb
import Derived.Test.YtbenhdgpogiadaaGreatNK2
import Derived.Test.YtbenhdgpogiadaaGreatNK5
set_option linter.unusedSimpArgs false
set_option linter.unusedVariables false
namespace Go.Proofs.YtbenhdgpogiadaaGreat
open Go.Aw
open Nat renaming reduceEqDiff->pE,reduceLT->pL,reduceAdd->pA,reduceSub->pS,reduceMul->pM,reduceLeDiff->pD
open Int renaming reduceToNat->qT,reduceGT->qG,reduceLT->qL,reduceGE->qH,reduceBNe->qN,reduceBEq->qB,reduceLE->qE,reduceNe->qO,reduceAdd->qA,reduceNeg->qM
set_option maxRecDepth 100000
set_option maxHeartbeats 40000000
theorem normalo_c(l:List Module)(h:NOk l):FnL Tryz.prog 24 [.d (.agg [zax l])] [] (fun V ol new=>V= .agg [.ar 90 l.length]/\ol=[(90,.arr 53 4 .flat ((zcC l).map zaC))]/\new=[90]):=by
 obtain⟨hn,hp,hl,hi⟩:=h;refine FnL.of_eB 1999 [] (own:=[]) (fun i=>[]) [] zat Tryz.func24 rfl Tryz.call24 Tryz.ntmps24 (Nat.le_of_ble_eq_true rfl) Tryz.results24 (by simp[zyk,AO.noRef,AV.noRefs,AV.noRef]) (fun gs=> ?_);have vc:=znZ l;simp only[ZE,↓reduceIte,pE,pL,pA,pS,pM,pD,zN,qT,qG,qL,qH,qN,qB,qE,qO,qA,qM,retBE.eq_def,eRetB.eq_def,resB.eq_1,resB.eq_2,selB.eq_def];refine EFn.p ?_;simp only[ZE,↓reduceIte,pE,pL,pA,pS,pM,pD,zN,qT,qG,qL,qH,qN,qB,qE,qO,qA,qM];refine zar.i vc ?_;simp only[ZE,↓reduceIte,pE,pL,pA,pS,pM,pD,zN,qT,qG,qL,qH,qN,qB,qE,qO,qA,qM];refine EFn.g ⟨[(90,90)],[.d (.clo (.func 128) [] [.ptr [.sl (l.map zaC)]]),.d (.clo (.func 57) [] [])],_,_,znX l hl,?_⟩;simp only[ZE,↓reduceIte,pE,pL,pA,pS,pM,pD];rintro V ol new ⟨rfl,⟨L,hL,hs,rfl⟩,rfl⟩;have e:L=zl7 ltS Module.name l:=zrj zrt hn hL (hs.imp fun{a b} h=>zy6 h);have hLl:L.length=l.length:=hL.length_eq.symm;have hnF:zcC l=L.map zl5:=by unfold zcC; rw[e]
 rw[hnF,<-nrmL_all];simp only[ZE,↓reduceIte,pE,pL,pA,pS,pM,pD,zN,qT,qG,qL,qH,qN,qB,qE,qO,qA,qM,hLl];have hpL: ∀i (h:i<L.length),(L[i].items.map zbg).Nodup /\L[i].items.length <=4000000:=fun i h=>by
  have hm:L[i]∈l:=hL.mem_iff.2 (List.getElem_mem h);exact⟨hp _ hm,hi _ hm⟩
 refine za1 (fun i=>if i=2005 then [.ord ⟨[(0,none),(1,none),(2,none),(3,none),(4,none),(5,none),(6,none),(7,none),(8,none),(9,some [])]⟩]else []) zat l.length (fun _=>True) (fun i=>([(2,.bp 2 0),(3,.bp 3 0),(12,.ar 90 l.length),(13,.d (eI l.length)),(14,.d (eI i))],[(2,.box [.nils]),(3,.box [.ar 90 l.length]),(90,.arr 53 4 .flat ((nrmL L i).map zaC)),(1999,.gh [] gs)])) trivial ?_ ?_ (fun i hi' _=> ?_)
 ·simp only[ZE,↓reduceIte,pE,pL,pA,pS,pM,pD]
 ·simp only[ZE,↓reduceIte,pE,pL,pA,pS,pM,pD,nrmL_zero]
 rcases Nat.lt_or_ge i l.length with h | h
 ·have hw:=zaq (show i<9223372036854775807 by omega);have hiL:i<L.length:=by omega
  obtain⟨hnd,hll⟩:=hpL i hiL;rw[nrmL_step L i hiL];have hat:=nrmL_at L i hiL;have hnl:=zyF L i;obtain⟨R,hR⟩:=zX (nrmL L i);obtain⟨m,hm⟩:=zX (L[i]);rw[hR,hm]at hat;rw[hR]at hnl;rw[hm]at hnd hll;rw[hR,hm];have hiR:i<R.length:=by omega
  have hRi:R[i]=m:=by
   rw[List.getD_eq_getElem?_getD,List.getElem?_eq_getElem hiR]at hat;exact hat
  have ic:=zrk m.items;have sc:=zyA m.items hll hnd;have hset:(R.map zaC).set i ((zaC m).set 3 (.sl ((zl7 ltP zbg m.items).map zaK)))=(R.set i (zl5 m)).map zaC:=by rw[List.map_set]; rfl
  try simp only[ZE,↓reduceIte,pE,pL,pA,pS,pM,pD]at sc
  simp(maxSteps:=4000000) only[ZE,↓reduceIte,pE,pL,pA,pS,pM,pD,zaw h,zai h,zaa hiR,hRi,zN,qT,qG,qL,qH,qN,qB,qE,qO,qA,qM,List.length_map,hnl,hLl];refine⟨h,by kernel_rfl,zaz.i ic ?_⟩;simp only[ZE,↓reduceIte,pE,pL,pA,pS,pM,pD,zN,qT,qG,qL,qH,qN,qB,qE,qO,qA,qM];refine zaz.i sc ?_;simp only[ZE,↓reduceIte,pE,pL,pA,pS,pM,pD]at hset;simp only[ZE,↓reduceIte,pE,pL,pA,pS,pM,pD,zN,qT,qG,qL,qH,qN,qB,qE,qO,qA,qM,hw,hset,zaa hiR,hRi,List.length_map,hnl,hLl];exact⟨⟨by omega,by omega⟩,h⟩
 ·have:i=l.length:=by omega
  subst this;simp(maxSteps:=4000000) only[ZE,↓reduceIte,pE,pL,pA,pS,pM,pD,zaI h,zN,qT,qG,qL,qH,qN,qB,qE,qO,qA,qM,List.length_map,zyF,hLl,retBE.eq_def,eRetB.eq_def,resB.eq_1,resB.eq_2,selB.eq_def];refine⟨[2,3,1999],[90],?_⟩;simp only[ZE,↓reduceIte,pE,pL,pA,pS,pM,pD,retBE.eq_def,eRetB.eq_def,resB.eq_1,resB.eq_2,selB.eq_def]
section
variable {α κ:Type} [DecidableEq κ] {lt:κ->κ->Bool} {key:α->κ}
omit [DecidableEq κ] in
theorem low_lt{y:α}{r:List α}{k:κ}(h:lt (key y) k=true):zyu lt key (y::r) k=zyu lt key r k+1:=by
 unfold zyu;rw[List.countP_cons_of_pos (by simpa using h)]
omit [DecidableEq κ] in
theorem low_ge(o:TOrd lt){y:α}{r:List α}{k:κ}(hs:Srt lt key (y::r))(h:lt (key y) k=false):zyu lt key (y::r) k=0:=by
 unfold zyu;rw[List.countP_eq_zero];intro x hx;obtain⟨h1,_⟩:=List.pairwise_cons.1 hs;rcases List.mem_cons.1 hx with rfl | hx
 ·simpa using h
 ·intro hc;have:=o.tr _ _ _ (h1 x hx) (by simpa using hc);rw[h]at this; cases this
omit [DecidableEq κ] in
theorem low_le(l:List α)(k:κ):zyu lt key l k<=l.length:=List.countP_le_length
theorem zy0(o:TOrd lt): ∀ {l:List α} {k:κ} {m:α},Srt lt key l->lkp key l k=some m-> ∃h:zyu lt key l k<l.length,l[zyu lt key l k]=m
 | y::r,k,m,hs,hm=>by
  obtain⟨h1,h2⟩:=List.pairwise_cons.1 hs;rw[zeH]at hm;by_cases e:key y=k
  ·rw[if_pos e]at hm;cases hm;have h0:=low_ge o hs (k:=k) (by rw[e]; exact o.irr k);exact⟨by rw[h0]; simp,by simp only[h0]; rfl⟩
  ·rw[if_neg e]at hm;have hk:=(zeI hm);have hlt:lt (key y) k=true:=by rw[<-hk.2]; exact h1 m hk.1
   obtain⟨h3,h4⟩:=zy0 o h2 hm;have h0:=low_lt (r:=r) hlt;exact⟨by rw[h0]; simp; exact h3,by simp only[h0]; simpa using h4⟩
theorem zyz(o:TOrd lt): ∀ {l:List α} {x m:α},Srt lt key l->lkp key l (key x)=some m->zpT lt key l x=l.set (zyu lt key l (key x)) x
 | y::r,x,m,hs,hm=>by
  obtain⟨h1,h2⟩:=List.pairwise_cons.1 hs;rw[zeH]at hm;by_cases e:key y=key x
  ·have h0:=low_ge o hs (k:=key x) (by rw[e]; exact o.irr _);have h3:lt (key x) (key y)=false:=by rw[e]; exact o.irr _
   have h4:lt (key y) (key x)=false:=by rw[e]; exact o.irr _
   rw[h0];simp[zpT,h3,h4]
  ·rw[if_neg e]at hm;have hk:=(zeI hm);have hlt:lt (key y) (key x)=true:=by rw[<-hk.2]; exact h1 m hk.1
   rw[low_lt (r:=r) hlt];simp[zpT,o.asymm hlt,hlt,zyz o h2 hm]
theorem zy7(o:TOrd lt): ∀ {l:List α} {x:α},Srt lt key l->lkp key l (key x)=none->zpT lt key l x=l.take (zyu lt key l (key x))++x::l.drop (zyu lt key l (key x))
 | [],x,_,_=>by simp[zpT,zyu]
 | y::r,x,hs,hm=>by
  obtain⟨h1,h2⟩:=List.pairwise_cons.1 hs;rw[zeH]at hm;by_cases e:key y=key x
  ·rw[if_pos e]at hm; cases hm
  rw[if_neg e]at hm;cases hlt:lt (key y) (key x)with
  | true=>
   rw[low_lt (r:=r) hlt];simp[zpT,o.asymm hlt,hlt,zy7 o h2 hm]
  | false=>
   have h3:lt (key x) (key y)=true:=by
    cases hq:lt (key x) (key y)with
    | true=>rfl
    | false=>exact absurd (o.conn _ _ hlt hq) e
   rw[low_ge o hs hlt];simp[zpT,h3]
theorem rmvS_at(o:TOrd lt): ∀ {l:List α} {k:κ} {m:α},Srt lt key l->lkp key l k=some m->zyC key l k=l.eraseIdx (zyu lt key l k)
 | y::r,k,m,hs,hm=>by
  obtain⟨h1,h2⟩:=List.pairwise_cons.1 hs;rw[zeH]at hm;by_cases e:key y=k
  ·have h0:=low_ge o hs (k:=k) (by rw[e]; exact o.irr _);rw[h0];simp[zyC,e]
  ·rw[if_neg e]at hm;have hk:=(zeI hm);have hlt:lt (key y) k=true:=by rw[<-hk.2]; exact h1 m hk.1
   rw[low_lt (r:=r) hlt];simp[zyC,e,rmvS_at o h2 hm]
end
theorem zyv(x:Item): ∀d∈zaK x,d.one:=by
 simp[zaK,zgL,zb6,zib,eI,eS,ziG,zel,D.one,Value.oneCell']
theorem zyq(x:Module): ∀d∈zaC x,d.one:=by
 simp[zaC,eS,zd5,zbR,D.one,Value.oneCell']
theorem erase_map{α β:Type}(f:α->β)(l:List α)(i:Nat):(l.map f).eraseIdx i=(l.eraseIdx i).map f:=by
 rw[List.eraseIdx_eq_take_drop_succ,List.eraseIdx_eq_take_drop_succ,List.map_append,List.map_take,List.map_drop]
theorem delItem_c(l:List Item)(i:Nat)(hi:i<l.length):FnL Tryz.prog 160 [.ar 0 l.length,.d (eI i),.d (eI ((i+1:Nat):Int))] [(0,.arr 64 35 .flat (l.map zaK))]
  (fun V ol new=>V= .ar 40 (l.eraseIdx i).length /\ol=[(40,.arr 64 35 .flat ((l.eraseIdx i).map zaK))]/\new=[40]):=by
 have h:=del_own (P:=Tryz.prog) (fun args w=>Tryz.call160 args w) deleteItem_w (l.map zaK) (fun x hx=>by obtain⟨p,_,rfl⟩:=List.mem_map.1 hx; exact zyv p) i (by rw[List.length_map]; exact hi);rw[List.length_map,erase_map,<-List.length_eraseIdx_of_lt hi]at h;exact h
theorem insItem_c(l:List Item)(x:Item)(i:Nat)(hi:i<=l.length)(hl:l.length<=4000000):FnL Tryz.prog 159 [.ar 0 l.length,.d (eI i),.ar 50 1] [(0,.arr 64 35 .flat (l.map zaK)),(50,.arr 64 35 .flat [zaK x])]
  (fun V ol new=>V= .ar 40 (l.take i++x::l.drop i).length /\ol=[(40,.arr 64 35 .flat ((l.take i++x::l.drop i).map zaK))]/\new=[40]):=by
 have h:=ins_own (P:=Tryz.prog) (fun args w=>Tryz.call159 args w) insertItem_w (l.map zaK) (zaK x) (fun y hy=>by
  rcases List.mem_cons.1 hy with rfl | hy
  ·exact zyv x
  ·obtain⟨p,_,rfl⟩:=List.mem_map.1 hy; exact zyv p) i (by rw[List.length_map]; exact hi) (by rw[List.length_map]; exact hl)
 have e:(l.map zaK).take i++zaK x::(l.map zaK).drop i=(l.take i++x::l.drop i).map zaK:=by simp[List.map_take,List.map_drop]
 have e2:(l.take i++x::l.drop i).length =l.length+1:=by simp; omega
 rw[List.length_map,e,<-e2]at h;exact h
theorem delModule_c(l:List Module)(i:Nat)(hi:i<l.length):FnL Tryz.prog 161 [.ar 0 l.length,.d (eI i),.d (eI ((i+1:Nat):Int))] [(0,.arr 53 4 .flat (l.map zaC))]
  (fun V ol new=>V= .ar 40 (l.eraseIdx i).length /\ol=[(40,.arr 53 4 .flat ((l.eraseIdx i).map zaC))]/\new=[40]):=by
 have h:=del_own (P:=Tryz.prog) (fun args w=>Tryz.call161 args w) zyT (l.map zaC) (fun x hx=>by obtain⟨p,_,rfl⟩:=List.mem_map.1 hx; exact zyq p) i (by rw[List.length_map]; exact hi);rw[List.length_map,erase_map,<-List.length_eraseIdx_of_lt hi]at h;exact h
theorem insModule_c(l:List Module)(x:Module)(i:Nat)(hi:i<=l.length)(hl:l.length<=4000000):FnL Tryz.prog 162 [.ar 0 l.length,.d (eI i),.ar 50 1] [(0,.arr 53 4 .flat (l.map zaC)),(50,.arr 53 4 .flat [zaC x])]
  (fun V ol new=>V= .ar 40 (l.take i++x::l.drop i).length /\ol=[(40,.arr 53 4 .flat ((l.take i++x::l.drop i).map zaC))]/\new=[40]):=by
 have h:=ins_own (P:=Tryz.prog) (fun args w=>Tryz.call162 args w) zyU (l.map zaC) (zaC x) (fun y hy=>by
  rcases List.mem_cons.1 hy with rfl | hy
  ·exact zyq x
  ·obtain⟨p,_,rfl⟩:=List.mem_map.1 hy; exact zyq p) i (by rw[List.length_map]; exact hi) (by rw[List.length_map]; exact hl)
 have e:(l.map zaC).take i++zaC x::(l.map zaC).drop i=(l.take i++x::l.drop i).map zaC:=by simp[List.map_take,List.map_drop]
 have e2:(l.take i++x::l.drop i).length =l.length+1:=by simp; omega
 rw[List.length_map,e,<-e2]at h;exact h
theorem cloneI_c(l:List Item)(hl:l.length<=4000000):FnL Tryz.prog 157 [.d (.sl (l.map zaK))] [] (fun V ol new=>V= .ar 40 l.length/\ol=[(40,.arr 64 35 .flat (l.map zaK))]/\new=[40]):=by
 refine FnL.of_eC (own:=[]) (fun i=>if i=2 then [.adT 2 40 64 35]else if i=3 then [.rnm [(5,40)]]else []) [] zat Tryz.func157 rfl Tryz.call157 Tryz.ntmps157 (Nat.le_of_ble_eq_true rfl) Tryz.results157 ?_;have hr:zcY 35 (l.map zaK):=fun y hy=>by
  obtain⟨p,_,rfl⟩:=List.mem_map.1 hy;exact⟨by simp[zaK,zgL,zb6,zib],zyv p⟩
 simp(maxSteps:=4000000) only[ZE,↓reduceIte,pE,pL,pA,pS,pM,pD,zN,qT,qG,qL,qH,qN,qB,qE,qO,qA,qM,List.length_map];refine⟨by simp[zdc],fun b hb=> ?_⟩;cases b with
 | true=>
  have hl0:l=[]:=List.map_eq_nil_iff.1 (hb rfl);subst hl0;simp(maxSteps:=4000000) only[ZE,↓reduceIte,pE,pL,pA,pS,pM,pD,zN,qT,qG,qL,qH,qN,qB,qE,qO,qA,qM,List.map_nil];refine⟨[],[40],?_⟩;simp only[ZE,↓reduceIte,pE,pL,pA,pS,pM,pD]
 | false=>
  simp(maxSteps:=4000000) only[ZE,↓reduceIte,pE,pL,pA,pS,pM,pD,zN,qT,qG,qL,qH,qN,qB,qE,qO,qA,qM,List.length_map];refine⟨⟨hr,by omega,by omega⟩,[],[40],?_⟩;simp only[ZE,↓reduceIte,pE,pL,pA,pS,pM,pD]
def arM(l:List Module):AO:=.arr 53 4 .flat (l.map zaC)
def zyj(r:Option (List Module))(V:AV)(ol:OL)(new:List Nat):Prop:=
 match r with
 | some s=>V= .tup [.ar 140 s.length,.d (eB true)]/\ol=[(140,.arr 53 4 .flat (s.map zaC))]/\new=[140]
 | none=>V= .tup [.d (.sl []),.d (eB false)]/\ol=[]/\new=[]
theorem gt_len{n:Nat}(h:0<n):decide ((n:Int)>0)=true:=decide_eq_true (by omega)
theorem gt_len0:decide (((0:Nat):Int)>0)=false:=by decide
theorem thead_c(l:List Module)(hs:Srt ltS Module.name l)(hl:l.length+1<=4000000)(e:Edit):FnL Tryz.prog 101 [.ar 100 l.length,.d (.agg (zfN e))] [(100,.arr 53 4 .flat (l.map zaC))] (zyj (zzb l e)):=by
 refine FnL.of_eC (own:=[]) (fun i=>if i=11 then [.rnm [(100,140),(3,3)]]else if i=2010 then [.flt ⟨[(0,none),(1,none),(2,none),(3,none),(4,none),(5,none),(6,none),(7,none),(8,none),(9,none),(10,none),(11,none),(12,some [2,3,7,8,9]),(13,none),(14,none),(15,some [])]⟩ ⟨[],[]⟩]else []) [0] zat Tryz.func101 rfl Tryz.call101 Tryz.ntmps101 (Nat.le_of_ble_eq_true rfl) Tryz.results101 ?_;obtain⟨mo,pt,has,to,hd⟩:=e;have bs0:=zyY l (by omega) {zdP with name:=mo} hs;have hz:Module.name {zdP with name:=mo}=mo:=rfl;rw[hz]at bs0;obtain⟨i,hi⟩:=zX (zyu ltS Module.name l mo);simp only[hi,zdP]at bs0;simp(maxSteps:=4000000) only[ZE,↓reduceIte,pE,pL,pA,pS,pM,pD,zN,qT,qG,qL,qH,qN,qB,qE,qO,qA,qM,zdP,emp]at bs0;have bs:=FnL.aggN [.ar 100 l.length] [.d (.clo (.func 57) [] [])] (cs:=[.d (.lit (.string mo.val)),.d (.lit (.string ByteArray.empty)),.nils,.nils]) bs0 rfl;simp only[List.cons_append,List.nil_append]at bs;clear bs0;simp only[zzb];cases has with
 | false=>
  cases hm:lkp Module.name l mo with
  | none=>
   rw[hm]at bs;simp(maxSteps:=4000000) only[ZE,↓reduceIte,pE,pL,pA,pS,pM,pD,zfN,zfX,zN,qT,qG,qL,qH,qN,qB,qE,qO,qA,qM];refine EFn.gV [(100,100)] bs ?_ ?_
   ·simp(maxSteps:=4000000) only[ZE,↓reduceIte,pE,pL,pA,pS,pM,pD]
   rintro V ol new ⟨rfl,rfl,rfl⟩;simp(maxSteps:=4000000) only[ZE,↓reduceIte,pE,pL,pA,pS,pM,pD,zN,qT,qG,qL,qH,qN,qB,qE,qO,qA,qM];refine⟨[3,100],[],?_⟩;simp(maxSteps:=4000000) only[ZE,↓reduceIte,pE,pL,pA,pS,pM,pD,zyj]
  | some m=>
   rw[hm]at bs;obtain⟨hil,him⟩:=zy0 zrt hs hm;simp only[hi]at hil him;have hin:=rmvS_at zrt hs hm;rw[hi]at hin;by_cases h0:m.items=[]
   ·have hw:IntKind.i64.wrap ((i:Int)+1)=((i+1:Nat):Int):=zaQ (by omega) (by omega);have dc:=delModule_c l i hil;simp(maxSteps:=4000000) only[ZE,↓reduceIte,pE,pL,pA,pS,pM,pD]at dc;simp(maxSteps:=4000000) only[ZE,↓reduceIte,pE,pL,pA,pS,pM,pD,zfN,zfX,zN,qT,qG,qL,qH,qN,qB,qE,qO,qA,qM,h0];refine EFn.gV [(100,100)] bs ?_ ?_
    ·simp(maxSteps:=4000000) only[ZE,↓reduceIte,pE,pL,pA,pS,pM,pD]
    rintro V ol new ⟨rfl,rfl,rfl⟩;simp(maxSteps:=4000000) only[ZE,↓reduceIte,pE,pL,pA,pS,pM,pD,zN,qT,qG,qL,qH,qN,qB,qE,qO,qA,qM,zai hil,zaa hil,him,h0,List.map_nil,gt_len0,hw];refine⟨hil,EFn.gV [(0,100),(40,140)] dc ?_ ?_⟩
    ·simp(maxSteps:=4000000) only[ZE,↓reduceIte,pE,pL,pA,pS,pM,pD]
    rintro V ol new ⟨rfl,rfl,rfl⟩;simp(maxSteps:=4000000) only[ZE,↓reduceIte,pE,pL,pA,pS,pM,pD,zN,qT,qG,qL,qH,qN,qB,qE,qO,qA,qM];refine⟨[3],[140],?_⟩;simp(maxSteps:=4000000) only[ZE,↓reduceIte,pE,pL,pA,pS,pM,pD,zyj,hin,h0]
   ·have hpos:0<m.items.length:=List.length_pos_iff.2 h0;simp(maxSteps:=4000000) only[ZE,↓reduceIte,pE,pL,pA,pS,pM,pD,zfN,zfX,zN,qT,qG,qL,qH,qN,qB,qE,qO,qA,qM,h0];refine EFn.gV [(100,100)] bs ?_ ?_
    ·simp(maxSteps:=4000000) only[ZE,↓reduceIte,pE,pL,pA,pS,pM,pD]
    rintro V ol new ⟨rfl,rfl,rfl⟩;simp(maxSteps:=4000000) only[ZE,↓reduceIte,pE,pL,pA,pS,pM,pD,zN,qT,qG,qL,qH,qN,qB,qE,qO,qA,qM,zai hil,zaa hil,him,gt_len hpos,List.length_map];refine⟨hil,[3,100],[],?_⟩;simp(maxSteps:=4000000) only[ZE,↓reduceIte,pE,pL,pA,pS,pM,pD,zyj,h0,not_false_eq_true]
 | true=>
  by_cases hn:hd.name=mo
  ·by_cases h0:hd.items=[]
   ·have hc: ¬(hd.name≠mo\/hd.items≠[]):=(by simp[hn,h0]);simp only[if_true,if_neg hc];have dn:(!decide (hd.name=mo))=false:=(by simp[hn]);cases hm:lkp Module.name l mo with
    | none=>
     rw[hm]at bs;have hm2:lkp Module.name l hd.name=none:=(by rw[hn]; exact hm);have hpn:=zy7 zrt hs hm2;rw[hn,hi]at hpn;have hil:i<=l.length:=(by rw[<-hi]; exact low_le _ _);have ic:=insModule_c l hd i hil (by omega);simp(maxSteps:=4000000) only[ZE,↓reduceIte,pE,pL,pA,pS,pM,pD,h0,List.map_nil]at ic;simp(maxSteps:=4000000) only[ZE,↓reduceIte,pE,pL,pA,pS,pM,pD,zfN,zfX,zN,qT,qG,qL,qH,qN,qB,qE,qO,qA,qM,h0,List.map_nil];refine EFn.gV [(100,100)] bs ?_ ?_
     ·simp(maxSteps:=4000000) only[ZE,↓reduceIte,pE,pL,pA,pS,pM,pD]
     rintro V ol new ⟨rfl,rfl,rfl⟩;simp(maxSteps:=4000000) only[ZE,↓reduceIte,pE,pL,pA,pS,pM,pD,zN,qT,qG,qL,qH,qN,qB,qE,qO,qA,qM,List.map_nil,gt_len0,dn];refine EFn.gV [(0,100),(50,57),(40,140)] ic ?_ ?_
     ·simp(maxSteps:=4000000) only[ZE,↓reduceIte,pE,pL,pA,pS,pM,pD]
     rintro V ol new ⟨rfl,rfl,rfl⟩;simp(maxSteps:=4000000) only[ZE,↓reduceIte,pE,pL,pA,pS,pM,pD,zN,qT,qG,qL,qH,qN,qB,qE,qO,qA,qM];refine⟨[3],[140],?_⟩;simp(maxSteps:=4000000) only[ZE,↓reduceIte,pE,pL,pA,pS,pM,pD,zyj,hpn]
    | some m=>
     rw[hm]at bs;obtain⟨hil,him⟩:=zy0 zrt hs hm;simp only[hi]at hil him;have hmn:({m with clock:=hd.clock,params:=hd.params}:Module).name =mo:=(zeI hm).2;have hps:=zyz zrt (x:={m with clock:=hd.clock,params:=hd.params}) hs (by rw[hmn]; exact hm);have hlow:zyu ltS Module.name l ({m with clock:=hd.clock,params:=hd.params}:Module).name =i:=(congrArg (zyu ltS Module.name l) hmn).trans hi;rw[hlow]at hps;simp(maxSteps:=4000000) only[ZE,↓reduceIte,pE,pL,pA,pS,pM,pD,zfN,zfX,zN,qT,qG,qL,qH,qN,qB,qE,qO,qA,qM,h0,List.map_nil];refine EFn.gV [(100,100)] bs ?_ ?_
     ·simp(maxSteps:=4000000) only[ZE,↓reduceIte,pE,pL,pA,pS,pM,pD]
     rintro V ol new ⟨rfl,rfl,rfl⟩;have hgd: ∀x:List D,((List.map zaC l).set i x).getD i []=x:=fun x=>by simp[List.getD,hil]
     have hfin:(List.map zaC l).set i (zaC {m with clock:=hd.clock,params:=hd.params})=(l.set i {m with clock:=hd.clock,params:=hd.params}).map zaC:=(by rw[List.map_set]);simp(maxSteps:=4000000) only[ZE,↓reduceIte,pE,pL,pA,pS,pM,pD]at hfin;simp(maxSteps:=4000000) only[ZE,↓reduceIte,pE,pL,pA,pS,pM,pD,zN,qT,qG,qL,qH,qN,qB,qE,qO,qA,qM,List.map_nil,gt_len0,dn,zai hil,zaa hil,him,List.length_map,List.length_set,hgd,List.set_set,hfin];refine⟨by kernel_rfl,hil,hil,[3],[140],?_⟩;simp(maxSteps:=4000000) only[ZE,↓reduceIte,pE,pL,pA,pS,pM,pD,zyj];rw[hps,List.length_set];exact⟨rfl,rfl⟩
   ·have hc:hd.name≠mo\/hd.items≠[]:=.inr h0;simp only[if_true,if_pos hc];have dn:(!decide (hd.name=mo))=false:=(by simp[hn]);have hpos:0<hd.items.length:=List.length_pos_iff.2 h0;simp(maxSteps:=4000000) only[ZE,↓reduceIte,pE,pL,pA,pS,pM,pD,zfN,zfX,zN,qT,qG,qL,qH,qN,qB,qE,qO,qA,qM];refine EFn.gV [(100,100)] bs ?_ ?_
    ·simp(maxSteps:=4000000) only[ZE,↓reduceIte,pE,pL,pA,pS,pM,pD]
    rintro V ol new ⟨rfl,rfl,rfl⟩;simp(maxSteps:=4000000) only[ZE,↓reduceIte,pE,pL,pA,pS,pM,pD,zN,qT,qG,qL,qH,qN,qB,qE,qO,qA,qM,gt_len hpos,dn,List.length_map];refine⟨[3,100],[],?_⟩;simp(maxSteps:=4000000) only[ZE,↓reduceIte,pE,pL,pA,pS,pM,pD,zyj]
  ·have hc:hd.name≠mo\/hd.items≠[]:=.inl hn;simp only[if_true,if_pos hc];have dn:(!decide (hd.name=mo))=true:=by simp[hn]
   simp(maxSteps:=4000000) only[ZE,↓reduceIte,pE,pL,pA,pS,pM,pD,zfN,zfX,zN,qT,qG,qL,qH,qN,qB,qE,qO,qA,qM];refine EFn.gV [(100,100)] bs ?_ ?_
   ·simp(maxSteps:=4000000) only[ZE,↓reduceIte,pE,pL,pA,pS,pM,pD]
   rintro V ol new ⟨rfl,rfl,rfl⟩;simp(maxSteps:=4000000) only[ZE,↓reduceIte,pE,pL,pA,pS,pM,pD,zN,qT,qG,qL,qH,qN,qB,qE,qO,qA,qM,dn,List.length_map];refine⟨[3,100],[],?_⟩;simp(maxSteps:=4000000) only[ZE,↓reduceIte,pE,pL,pA,pS,pM,pD,zyj]
def czI(k:Int)(n:ByteArray):List AV:=
 [.d (.lit (.int .i64 k)),.d (.lit (.string n)),.d (.lit (.int .i64 0)),.d (.lit (.string ByteArray.empty)),.d (.lit (.int .i64 0)),.d (.lit (.string ByteArray.empty)),.d (.lit (.int .i64 0)),.d (.lit (.string ByteArray.empty)),
  .d (.lit (.int .i64 0)),.d (.lit (.string ByteArray.empty)),.d (.lit (.int .i64 0)),.d (.lit (.string ByteArray.empty)),.d (.lit (.int .i64 0)),.d (.lit (.string ByteArray.empty)),.nils,
  .d (.lit (.int .i64 0)),.d (.lit (.string ByteArray.empty)),.d (.lit (.int .i64 0)),.d (.lit (.string ByteArray.empty)),.d (.lit (.int .i64 0)),.d (.lit (.string ByteArray.empty)),.nils,
  .d (.lit (.int .i64 0)),.d (.lit (.string ByteArray.empty)),.d (.lit (.int .i64 0)),.d (.lit (.string ByteArray.empty)),.d (.lit (.int .i64 0)),.d (.lit (.string ByteArray.empty)),.nils,
  .d (.lit (.int .i64 0)),.d (.lit (.string ByteArray.empty)),.d (.lit (.int .i64 0)),.d (.lit (.string ByteArray.empty)),.nils,.nils]
theorem titem_c(l:List Module)(hs:Srt ltS Module.name l)(hl:l.length+1<=4000000)(hsi: ∀m∈l,Srt ltP zbg m.items/\m.items.length+1<=4000000)(e:Edit):FnL Tryz.prog 100 [.ar 100 l.length,.d (.agg (zfN e))] [(100,.arr 53 4 .flat (l.map zaC))] (zyj (zl8 l e)):=by
 refine FnL.of_eC (own:=[]) (fun i=>if i=14 then [.rnm [(100,140),(3,3)]]else if i=1013 then [.frz 42]else if i=8 then [.rnm [(100,100),(41,42),(3,3)]]else if i=2002 then [.ord ⟨[(0,none),(1,none),(2,none),(3,none),(4,none),(5,none),(6,none),(7,none),(8,none),(9,none),(10,none),(11,none),(12,none),(13,none),(14,none),(15,none),(16,none),(17,none),(18,none),(19,none)]⟩]else []) [0] zat Tryz.func100 rfl Tryz.call100 Tryz.ntmps100 (Nat.le_of_ble_eq_true rfl) Tryz.results100 ?_;obtain⟨mo,pt,has,to,hd⟩:=e;have bs0:=zyY l (by omega) {zdP with name:=mo} hs;have hz:Module.name {zdP with name:=mo}=mo:=rfl;rw[hz]at bs0;obtain⟨i,hi⟩:=zX (zyu ltS Module.name l mo);simp only[hi,zdP]at bs0;simp(maxSteps:=4000000) only[ZE,↓reduceIte,pE,pL,pA,pS,pM,pD,zN,qT,qG,qL,qH,qN,qB,qE,qO,qA,qM,zdP,emp]at bs0;have bs:=FnL.aggN [.ar 100 l.length] [.d (.clo (.func 57) [] [])] (cs:=[.d (.lit (.string mo.val)),.d (.lit (.string ByteArray.empty)),.nils,.nils]) bs0 rfl;simp only[List.cons_append,List.nil_append]at bs;clear bs0;simp only[zl8];cases hm:lkp Module.name l mo with
 | none=>
  rw[hm]at bs;simp(maxSteps:=4000000) only[ZE,↓reduceIte,pE,pL,pA,pS,pM,pD,zfN,zfX,zN,qT,qG,qL,qH,qN,qB,qE,qO,qA,qM];refine EFn.gV [(100,100)] bs ?_ ?_
  ·simp(maxSteps:=4000000) only[ZE,↓reduceIte,pE,pL,pA,pS,pM,pD]
  rintro V ol new ⟨rfl,rfl,rfl⟩;simp(maxSteps:=4000000) only[ZE,↓reduceIte,pE,pL,pA,pS,pM,pD,zN,qT,qG,qL,qH,qN,qB,qE,qO,qA,qM];refine⟨by kernel_rfl,[3,100],[],?_⟩;simp(maxSteps:=4000000) only[ZE,↓reduceIte,pE,pL,pA,pS,pM,pD,zyj]
 | some m=>
  rw[hm]at bs;obtain⟨hil,him⟩:=zy0 zrt hs hm;simp only[hi]at hil him;have hmn:m.name=mo:=(zeI hm).2;obtain⟨hsm,hlm⟩:=hsi m (zeI hm).1;have cc:=cloneI_c m.items (by omega);have bi0:=bsItem_c m.items (by omega) {zaU with kind:=pt.kind,name:=pt.name} hsm;have hzp:zbg {zaU with kind:=pt.kind,name:=pt.name}=pt:=rfl;rw[hzp]at bi0;obtain⟨k,hk⟩:=zX (zyu ltP zbg m.items pt);simp only[hk]at bi0;simp(maxSteps:=4000000) only[ZE,↓reduceIte,pE,pL,pA,pS,pM,pD,zN,qT,qG,qL,qH,qN,qB,qE,qO,qA,qM,zaU,zbQ,zbj,emp,zcW,zbm,zgN,zgO,zbl,List.map_nil]at bi0;have bi:=FnL.aggN [.ar 100 m.items.length] [.d (.clo (.func 53) [] [])] (cs:=czI pt.kind.val pt.name.val) bi0 rfl;simp only[List.cons_append,List.nil_append,czI]at bi;clear bi0;cases has with
  | false=>
   simp only[Bool.false_eq_true,if_false];cases hx:lkp zbg m.items pt with
   | none=>
    rw[hx]at bi;simp(maxSteps:=4000000) only[ZE,↓reduceIte,pE,pL,pA,pS,pM,pD,zfN,zfX,zN,qT,qG,qL,qH,qN,qB,qE,qO,qA,qM];refine EFn.gV [(100,100)] bs ?_ ?_
    ·simp(maxSteps:=4000000) only[ZE,↓reduceIte,pE,pL,pA,pS,pM,pD]
    rintro V ol new ⟨rfl,rfl,rfl⟩;simp(maxSteps:=4000000) only[ZE,↓reduceIte,pE,pL,pA,pS,pM,pD,zN,qT,qG,qL,qH,qN,qB,qE,qO,qA,qM,zai hil,zaa hil,him,List.length_map];refine⟨by kernel_rfl,hil,EFn.gV [(40,41)] cc ?_ ?_⟩
    ·simp(maxSteps:=4000000) only[ZE,↓reduceIte,pE,pL,pA,pS,pM,pD]
    rintro V ol new ⟨rfl,rfl,rfl⟩;simp(maxSteps:=4000000) only[ZE,↓reduceIte,pE,pL,pA,pS,pM,pD,zN,qT,qG,qL,qH,qN,qB,qE,qO,qA,qM];refine EFn.gV [(100,41)] bi ?_ ?_
    ·simp(maxSteps:=4000000) only[ZE,↓reduceIte,pE,pL,pA,pS,pM,pD]
    rintro V ol new ⟨rfl,rfl,rfl⟩;simp(maxSteps:=4000000) only[ZE,↓reduceIte,pE,pL,pA,pS,pM,pD,zN,qT,qG,qL,qH,qN,qB,qE,qO,qA,qM];refine⟨[3,100,41],[],?_⟩;simp(maxSteps:=4000000) only[ZE,↓reduceIte,pE,pL,pA,pS,pM,pD,zyj]
   | some x=>
    rw[hx]at bi;obtain⟨hkl,hkx⟩:=zy0 zuJ hsm hx;simp only[hk]at hkl hkx;have hrm:=rmvS_at zuJ hsm hx;rw[hk]at hrm;have hw:IntKind.i64.wrap ((k:Int)+1)=((k+1:Nat):Int):=zaQ (by omega) (by omega);have dc:=delItem_c m.items k hkl;simp(maxSteps:=4000000) only[ZE,↓reduceIte,pE,pL,pA,pS,pM,pD]at dc;simp(maxSteps:=4000000) only[ZE,↓reduceIte,pE,pL,pA,pS,pM,pD,zfN,zfX,zN,qT,qG,qL,qH,qN,qB,qE,qO,qA,qM];refine EFn.gV [(100,100)] bs ?_ ?_
    ·simp(maxSteps:=4000000) only[ZE,↓reduceIte,pE,pL,pA,pS,pM,pD]
    rintro V ol new ⟨rfl,rfl,rfl⟩;simp(maxSteps:=4000000) only[ZE,↓reduceIte,pE,pL,pA,pS,pM,pD,zN,qT,qG,qL,qH,qN,qB,qE,qO,qA,qM,zai hil,zaa hil,him,List.length_map];refine⟨by kernel_rfl,hil,EFn.gV [(40,41)] cc ?_ ?_⟩
    ·simp(maxSteps:=4000000) only[ZE,↓reduceIte,pE,pL,pA,pS,pM,pD]
    rintro V ol new ⟨rfl,rfl,rfl⟩;simp(maxSteps:=4000000) only[ZE,↓reduceIte,pE,pL,pA,pS,pM,pD,zN,qT,qG,qL,qH,qN,qB,qE,qO,qA,qM];refine EFn.gV [(100,41)] bi ?_ ?_
    ·simp(maxSteps:=4000000) only[ZE,↓reduceIte,pE,pL,pA,pS,pM,pD]
    rintro V ol new ⟨rfl,rfl,rfl⟩;simp(maxSteps:=4000000) only[ZE,↓reduceIte,pE,pL,pA,pS,pM,pD,zN,qT,qG,qL,qH,qN,qB,qE,qO,qA,qM,hw];refine EFn.gV [(0,41),(40,42)] dc ?_ ?_
    ·simp(maxSteps:=4000000) only[ZE,↓reduceIte,pE,pL,pA,pS,pM,pD]
    rintro V ol new ⟨rfl,rfl,rfl⟩;rw[hrm];have hfin:(List.map zaC l).set i (zaC {m with items:=m.items.eraseIdx k})=(l.set i {m with items:=m.items.eraseIdx k}).map zaC:=(by rw[List.map_set]);have hps:zpT ltS Module.name l {m with items:=m.items.eraseIdx k}=l.set i {m with items:=m.items.eraseIdx k}:=by
     have h:=zyz zrt (x:={m with items:=m.items.eraseIdx k}) hs ((congrArg (lkp Module.name l) hmn).trans hm);rwa [show zyu ltS Module.name l ({m with items:=m.items.eraseIdx k}:Module).name =i from(congrArg (zyu ltS Module.name l) hmn).trans hi]at h
    simp(maxSteps:=4000000) only[ZE,↓reduceIte,pE,pL,pA,pS,pM,pD]at hfin;simp(maxSteps:=4000000) only[ZE,↓reduceIte,pE,pL,pA,pS,pM,pD,zN,qT,qG,qL,qH,qN,qB,qE,qO,qA,qM,zai hil,zaa hil,him,List.length_map,hfin];refine⟨hil,[3],[140],?_⟩;simp(maxSteps:=4000000) only[ZE,↓reduceIte,pE,pL,pA,pS,pM,pD,zyj];rw[hps,List.length_set];exact⟨rfl,rfl⟩
  | true=>
   have oc:=tof_c to;simp only[ZE,↓reduceIte,pE,pL,pA,pS,pM,pD,zfX,zbg]at oc;by_cases hp:zbg to=pt
   ·subst hp;by_cases h0:to.kind.1=0
    ·have hc:zbg to≠zbg to\/(zbg to).kind.1 =0:=.inr h0;have hk0:(to.kind.val==0)=true:=beq_iff_eq.2 h0;simp only[if_true,if_pos hc];simp(maxSteps:=4000000) only[ZE,↓reduceIte,pE,pL,pA,pS,pM,pD,zfN,zfX,zN,qT,qG,qL,qH,qN,qB,qE,qO,qA,qM];refine EFn.gV [(100,100)] bs ?_ ?_
     ·simp(maxSteps:=4000000) only[ZE,↓reduceIte,pE,pL,pA,pS,pM,pD]
     rintro V ol new ⟨rfl,rfl,rfl⟩;simp(maxSteps:=4000000) only[ZE,↓reduceIte,pE,pL,pA,pS,pM,pD,zN,qT,qG,qL,qH,qN,qB,qE,qO,qA,qM,zai hil,zaa hil,him,List.length_map];refine⟨by kernel_rfl,zaz.i oc ?_⟩;simp(maxSteps:=4000000) only[ZE,↓reduceIte,pE,pL,pA,pS,pM,pD,zN,qT,qG,qL,qH,qN,qB,qE,qO,qA,qM,zbg,hk0];refine⟨[3,100],[],?_⟩;simp(maxSteps:=4000000) only[ZE,↓reduceIte,pE,pL,pA,pS,pM,pD,zyj]
    ·have hc: ¬(zbg to≠zbg to\/(zbg to).kind.1 =0):=fun h=>h.elim (fun h=>h rfl) h0;have hk0:(to.kind.val==0)=false:=beq_eq_false_iff_ne.2 h0;simp only[if_true,if_neg hc];cases hx:lkp zbg m.items (zbg to)with
     | none=>
      rw[hx]at bi;have hpn:=zy7 zuJ hsm hx;rw[hk]at hpn;have hkl:k<=m.items.length:=(by rw[<-hk]; exact low_le _ _);have ic:=insItem_c m.items to k hkl (by omega);rw[hpn];obtain⟨its,hits⟩:=zX (m.items.take k++to::m.items.drop k);rw[hits]at ic ⊢;simp only[zbg]at bi;simp(maxSteps:=4000000) only[ZE,↓reduceIte,pE,pL,pA,pS,pM,pD]at ic;simp(maxSteps:=4000000) only[ZE,↓reduceIte,pE,pL,pA,pS,pM,pD,zfN,zfX,zN,qT,qG,qL,qH,qN,qB,qE,qO,qA,qM];refine EFn.gV [(100,100)] bs ?_ ?_
      ·simp(maxSteps:=4000000) only[ZE,↓reduceIte,pE,pL,pA,pS,pM,pD]
      rintro V ol new ⟨rfl,rfl,rfl⟩;simp(maxSteps:=4000000) only[ZE,↓reduceIte,pE,pL,pA,pS,pM,pD,zN,qT,qG,qL,qH,qN,qB,qE,qO,qA,qM,zai hil,zaa hil,him,List.length_map];refine⟨by kernel_rfl,zaz.i oc ?_⟩;simp(maxSteps:=4000000) only[ZE,↓reduceIte,pE,pL,pA,pS,pM,pD,zN,qT,qG,qL,qH,qN,qB,qE,qO,qA,qM,zbg,hk0,zai hil,zaa hil,him,List.length_map];refine⟨hil,EFn.gV [(40,41)] cc ?_ ?_⟩
      ·simp(maxSteps:=4000000) only[ZE,↓reduceIte,pE,pL,pA,pS,pM,pD]
      rintro V ol new ⟨rfl,rfl,rfl⟩;simp(maxSteps:=4000000) only[ZE,↓reduceIte,pE,pL,pA,pS,pM,pD,zN,qT,qG,qL,qH,qN,qB,qE,qO,qA,qM];refine EFn.gV [(100,41)] bi ?_ ?_
      ·simp(maxSteps:=4000000) only[ZE,↓reduceIte,pE,pL,pA,pS,pM,pD]
      rintro V ol new ⟨rfl,rfl,rfl⟩;simp(maxSteps:=4000000) only[ZE,↓reduceIte,pE,pL,pA,pS,pM,pD,zN,qT,qG,qL,qH,qN,qB,qE,qO,qA,qM];refine EFn.gV [(0,41),(50,80),(40,42)] ic ?_ ?_
      ·simp(maxSteps:=4000000) only[ZE,↓reduceIte,pE,pL,pA,pS,pM,pD]
      rintro V ol new ⟨rfl,rfl,rfl⟩;have hfin:(List.map zaC l).set i (zaC {m with items:=its})=(l.set i {m with items:=its}).map zaC:=(by rw[List.map_set]);have hps:zpT ltS Module.name l {m with items:=its}=l.set i {m with items:=its}:=by
       have h:=zyz zrt (x:={m with items:=its}) hs ((congrArg (lkp Module.name l) hmn).trans hm);rwa [show zyu ltS Module.name l ({m with items:=its}:Module).name =i from(congrArg (zyu ltS Module.name l) hmn).trans hi]at h
      simp(maxSteps:=4000000) only[ZE,↓reduceIte,pE,pL,pA,pS,pM,pD]at hfin;simp(maxSteps:=4000000) only[ZE,↓reduceIte,pE,pL,pA,pS,pM,pD,zN,qT,qG,qL,qH,qN,qB,qE,qO,qA,qM,zai hil,zaa hil,him,List.length_map,hfin];refine⟨hil,[3],[140],?_⟩;simp(maxSteps:=4000000) only[ZE,↓reduceIte,pE,pL,pA,pS,pM,pD,zyj];rw[hps,List.length_set];exact⟨rfl,rfl⟩
     | some x=>
      rw[hx]at bi;obtain⟨hkl,hkx⟩:=zy0 zuJ hsm hx;simp only[hk]at hkl hkx;have hpa:=zyz zuJ hsm hx;rw[hk]at hpa;rw[hpa];have hset:(List.map zaK m.items).set k (zaK to)=(m.items.set k to).map zaK:=(by rw[List.map_set]);obtain⟨its,hits⟩:=zX (m.items.set k to);have hlen:its.length=m.items.length:=(by rw[<-hits,List.length_set]);rw[hits]at hset ⊢;simp only[zbg]at bi;simp(maxSteps:=4000000) only[ZE,↓reduceIte,pE,pL,pA,pS,pM,pD]at hset;simp(maxSteps:=4000000) only[ZE,↓reduceIte,pE,pL,pA,pS,pM,pD,zfN,zfX,zN,qT,qG,qL,qH,qN,qB,qE,qO,qA,qM];refine EFn.gV [(100,100)] bs ?_ ?_
      ·simp(maxSteps:=4000000) only[ZE,↓reduceIte,pE,pL,pA,pS,pM,pD]
      rintro V ol new ⟨rfl,rfl,rfl⟩;simp(maxSteps:=4000000) only[ZE,↓reduceIte,pE,pL,pA,pS,pM,pD,zN,qT,qG,qL,qH,qN,qB,qE,qO,qA,qM,zai hil,zaa hil,him,List.length_map];refine⟨by kernel_rfl,zaz.i oc ?_⟩;simp(maxSteps:=4000000) only[ZE,↓reduceIte,pE,pL,pA,pS,pM,pD,zN,qT,qG,qL,qH,qN,qB,qE,qO,qA,qM,zbg,hk0,zai hil,zaa hil,him,List.length_map];refine⟨hil,EFn.gV [(40,41)] cc ?_ ?_⟩
      ·simp(maxSteps:=4000000) only[ZE,↓reduceIte,pE,pL,pA,pS,pM,pD]
      rintro V ol new ⟨rfl,rfl,rfl⟩;simp(maxSteps:=4000000) only[ZE,↓reduceIte,pE,pL,pA,pS,pM,pD,zN,qT,qG,qL,qH,qN,qB,qE,qO,qA,qM];refine EFn.gV [(100,41)] bi ?_ ?_
      ·simp(maxSteps:=4000000) only[ZE,↓reduceIte,pE,pL,pA,pS,pM,pD]
      rintro V ol new ⟨rfl,rfl,rfl⟩;have hfin:(List.map zaC l).set i (zaC {m with items:=its})=(l.set i {m with items:=its}).map zaC:=(by rw[List.map_set]);have hps:zpT ltS Module.name l {m with items:=its}=l.set i {m with items:=its}:=by
       have h:=zyz zrt (x:={m with items:=its}) hs ((congrArg (lkp Module.name l) hmn).trans hm);rwa [show zyu ltS Module.name l ({m with items:=its}:Module).name =i from(congrArg (zyu ltS Module.name l) hmn).trans hi]at h
      simp(maxSteps:=4000000) only[ZE,↓reduceIte,pE,pL,pA,pS,pM,pD]at hfin;simp(maxSteps:=4000000) only[ZE,↓reduceIte,pE,pL,pA,pS,pM,pD,zN,qT,qG,qL,qH,qN,qB,qE,qO,qA,qM,zai hil,zaa hil,him,List.length_map,hfin,zai hkl,zaa hkl,hkx,List.drop_succ_cons,List.drop_zero,hset,hlen];refine⟨hkl,hil,[3],[140],?_⟩;simp(maxSteps:=4000000) only[ZE,↓reduceIte,pE,pL,pA,pS,pM,pD,zyj];rw[hps,List.length_set];exact⟨rfl,rfl⟩
   ·have hc:zbg to≠pt\/pt.kind.1=0:=.inl hp;have hne:(to.kind.val==pt.kind.val&&decide (to.name=pt.name))=false:=(zxs (zbg to) pt).trans (decide_eq_false hp);simp only[if_true,if_pos hc];simp(maxSteps:=4000000) only[ZE,↓reduceIte,pE,pL,pA,pS,pM,pD,zfN,zfX,zN,qT,qG,qL,qH,qN,qB,qE,qO,qA,qM];refine EFn.gV [(100,100)] bs ?_ ?_
    ·simp(maxSteps:=4000000) only[ZE,↓reduceIte,pE,pL,pA,pS,pM,pD]
    rintro V ol new ⟨rfl,rfl,rfl⟩;simp(maxSteps:=4000000) only[ZE,↓reduceIte,pE,pL,pA,pS,pM,pD,zN,qT,qG,qL,qH,qN,qB,qE,qO,qA,qM,zai hil,zaa hil,him,List.length_map];refine⟨by kernel_rfl,zaz.i oc ?_⟩;simp(maxSteps:=4000000) only[ZE,↓reduceIte,pE,pL,pA,pS,pM,pD,zN,qT,qG,qL,qH,qN,qB,qE,qO,qA,qM,hne];refine⟨[3,100],[],?_⟩;simp(maxSteps:=4000000) only[ZE,↓reduceIte,pE,pL,pA,pS,pM,pD,zyj]
section
variable {α κ:Type} [DecidableEq κ] {lt:κ->κ->Bool} {key:α->κ}
omit [DecidableEq κ] in
theorem putS_le: ∀(l:List α) (x:α),(zpT lt key l x).length <=l.length+1
 | [],x=>by simp[zpT]
 | y::r,x=>by
  have:=putS_le r x;simp only[zpT];split
  ·simp
  split
  ·simp only[List.length_cons]; omega
  ·simp
theorem rmvS_le: ∀(l:List α) (k:κ),(zyC key l k).length <=l.length
 | [],k=>by simp[zyC]
 | y::r,k=>by
  have:=rmvS_le r k;simp only[zyC];split
  ·simp
  ·simp only[List.length_cons]; omega
end
theorem part_z: ∀p:Part,p.kind.val=0->p.name.val=ByteArray.empty->p=zc7:=by
 rintro⟨⟨pk,hk⟩,⟨pn,hn⟩⟩ q1 q2;simp only at q1 q2;subst q1 q2;rfl
/-- What stays on the way. -/
structure StB (n:Nat) (s:List Module):Prop where
 good:Good s
 len:s.length<=n
 items: ∀m∈s,m.items.length<=n
theorem StB.put{n:Nat}{s:List Module}(h:StB n s){m:Module}(hm:Srt ltP zbg m.items)(hl:m.items.length<=n+1):StB (n+1) (zpT ltS Module.name s m):=
 ⟨h.good.put hm,Nat.le_trans (putS_le _ _) (Nat.succ_le_succ h.len),fun z hz=>by
  rcases zxh hz with rfl | hz
  ·exact hl
  ·exact Nat.le_succ_of_le (h.items z hz)⟩
theorem StB.step{n:Nat}{s s':List Module}(h:StB n s){e:Edit}(hs:zx4 s e=some s'):StB (n+1) s':=by
 unfold zx4 at hs;split at hs
 ·unfold zzb at hs;split at hs
  ·split at hs
   ·cases hs
   ·rename_i hc;have h0:e.head.items=[]:=Classical.byContradiction fun hn=>hc (.inr hn);split at hs
    ·cases hs;exact h.put (by rw[h0]; exact List.Pairwise.nil) (by rw[h0]; exact Nat.zero_le _)
    ·rename_i m hm;cases hs;exact h.put (h.good.parts m (zeI hm).1) (Nat.le_succ_of_le (h.items m (zeI hm).1))
  ·split at hs
   ·cases hs
   ·split at hs
    ·cases hs
    ·cases hs;exact⟨h.good.rmv _,Nat.le_succ_of_le (Nat.le_trans (rmvS_le _ _) h.len),fun z hz=>Nat.le_succ_of_le (h.items z (zxi hz))⟩
 ·unfold zl8 at hs;split at hs
  ·cases hs
  ·rename_i m hm;have hsm:=h.good.parts m (zeI hm).1;have hlm:=h.items m (zeI hm).1;split at hs
   ·split at hs
    ·cases hs
    ·cases hs;exact h.put (Srt.ins zuJ _ hsm) (Nat.le_trans (putS_le _ _) (Nat.succ_le_succ hlm))
   ·split at hs
    ·cases hs;exact h.put (Srt.del _ hsm) (Nat.le_succ_of_le (Nat.le_trans (rmvS_le _ _) hlm))
    ·cases hs
def zyp(r:Option (List Module)):AV:=
 match r with
 | some s=>.tup [.d (.agg [zax s]),.d (eI 0)]
 | none=>.tup [.d (.agg [.sl []]),.d (eI 160)]
theorem zyH{s:List Module}{es:List Edit}{i:Nat}(hi:i<es.length){x:List Module}(h1:(es.take i).foldlM zx4 s=some x)(h2:zx4 x es[i]=none):es.foldlM zx4 s=none:=by
 conv=>lhs; rw[<-List.take_append_drop i es,List.foldlM_append,h1]
 rw[List.drop_eq_getElem_cons hi];show(List.foldlM zx4 x (es[i]::es.drop (i+1)))=none;rw[List.foldlM_cons,h2]; rfl
theorem zz5(a:List Module)(h:NOk a)(hg:Good (zcC a))(es:List Edit)(n:Nat)(hn:a.length<=n/\ ∀m∈a,m.items.length<=n)(hl:n+es.length+1<=4000000):FnP Tryz.prog 46 [.agg [zax a],.sl (es.map zfN)] (zyp (zoS a es)) []:=by
 refine FnP.of_eC (own:=[]) (fun i=>[]) zat Tryz.func46 rfl Tryz.call46 Tryz.ntmps46 (Nat.le_of_ble_eq_true rfl) Tryz.results46 (fun hok=> ?_);have nc:=normalo_c a h;simp(maxSteps:=4000000) only[ZE,↓reduceIte,pE,pL,pA,pS,pM,pD,zN,qT,qG,qL,qH,qN,qB,qE,qO,qA,qM];refine EFn.gV [(90,140)] nc ?_ ?_
 ·simp(maxSteps:=4000000) only[ZE,↓reduceIte,pE,pL,pA,pS,pM,pD]
 rintro V ol new ⟨rfl,rfl,rfl⟩;simp(maxSteps:=4000000) only[ZE,↓reduceIte,pE,pL,pA,pS,pM,pD,zN,qT,qG,qL,qH,qN,qB,qE,qO,qA,qM,List.length_map];have hb0:StB n (zcC a):=⟨hg,by rw[zyb]; exact hn.1,fun m hm=>by
  unfold zcC at hm;obtain⟨q,hq,rfl⟩:=List.mem_map.1 hm;have:=hn.2 q ((zcn a).mem_iff.1 hq);show(zl7 ltP zbg q.items).length <=n;rw[(zcn q.items).length_eq]; exact this⟩
 have hnl:=zyb a;rw[<-hnl];refine zgR (X:=List Module) (fun _ i=>if i=11 then [.rnm [(141,140),(4,4),(8,8)]]else []) zat es.length (fun i s=>(es.take i).foldlM zx4 (zcC a)=some s/\StB (n+i) s)
  (fun i s=>([(4,.bp 4 0),(6,.ar 140 s.length),(15,.d (.sl (es.map zfN))),(16,.d (eI es.length)),(17,.d (eI i))],[(4,.box [.nils]),(140,.arr 53 4 .flat (s.map zaC))])) (zcC a) ?_ ?_ ?_ (fun i s hi hI=> ?_)
 ·exact⟨by simp,hb0⟩
 ·simp only[ZE,↓reduceIte,pE,pL,pA,pS,pM,pD]
 ·simp only[ZE,↓reduceIte,pE,pL,pA,pS,pM,pD]
 obtain⟨h1,hb⟩:=hI;rcases Nat.lt_or_ge i es.length with hlt | hge
 ·have hw:=zaq (show i<9223372036854775807 by omega);obtain⟨e,he⟩:=zX (es[i]);have hstep:(es.take (i+1)).foldlM zx4 (zcC a)=zx4 s e:=by
   rw[List.take_succ_eq_append_getElem hlt,List.foldlM_append,h1,he];show List.foldlM zx4 s [e]=_;rw[List.foldlM_cons];cases zx4 s e <;> rfl
  by_cases hp:e.part=zc7
  ·have hpe:(e.part.kind.val==0&&decide (e.part.name.val=ByteArray.empty))=true:=by rw[hp]; rfl
   have hse:zx4 s e=zzb s e:=if_pos hp;have tc:=thead_c s hb.good.srt (by have:=hb.len; omega) e;simp(maxSteps:=4000000) only[ZE,↓reduceIte,pE,pL,pA,pS,pM,pD,zfN,zfX]at tc;simp(maxSteps:=4000000) only[ZE,↓reduceIte,pE,pL,pA,pS,pM,pD,zaw hlt,zai hlt,zaa hlt,he,zfN,zfX,zN,qT,qG,qL,qH,qN,qB,qE,qO,qA,qM,List.length_map,hpe];refine EFn.gV [(100,140),(140,141)] tc ?_ ?_
   ·simp(maxSteps:=4000000) only[ZE,↓reduceIte,pE,pL,pA,pS,pM,pD]
   intro V ol new hq;cases hr:zzb s e with
   | none=>
    rw[hr]at hq;obtain⟨rfl,rfl,rfl⟩:=hq;have hap:zoS a es=none:=zyH hlt h1 (by rw[he,hse,hr]);rw[hap];simp(maxSteps:=4000000) only[ZE,↓reduceIte,pE,pL,pA,pS,pM,pD,zN,qT,qG,qL,qH,qN,qB,qE,qO,qA,qM,zyp]
   | some s'=>
    rw[hr]at hq;obtain⟨rfl,rfl,rfl⟩:=hq;simp(maxSteps:=4000000) only[ZE,↓reduceIte,pE,pL,pA,pS,pM,pD,zN,qT,qG,qL,qH,qN,qB,qE,qO,qA,qM,hw];simp only[zep];refine⟨hlt,s',⟨by rw[hstep,hse,hr],?_⟩,?_⟩
    ·have:=hb.step (e:=e) (by rw[hse,hr]); exact this
    ·simp only[ZE,↓reduceIte,pE,pL,pA,pS,pM,pD]
  ·have hpe:(e.part.kind.val==0&&decide (e.part.name.val=ByteArray.empty))=false:=by
    cases hq:(e.part.kind.val==0&&decide (e.part.name.val=ByteArray.empty))with
    | false=>rfl
    | true=>
     rw[Bool.and_eq_true,beq_iff_eq,decide_eq_true_eq]at hq;exact absurd (part_z e.part hq.1 hq.2) hp
   have hse:zx4 s e=zl8 s e:=if_neg hp;have tc:=titem_c s hb.good.srt (by have:=hb.len; omega) (fun m hm=>⟨hb.good.parts m hm,by have:=hb.items m hm; omega⟩) e;simp(maxSteps:=4000000) only[ZE,↓reduceIte,pE,pL,pA,pS,pM,pD,zfN,zfX]at tc;simp(maxSteps:=4000000) only[ZE,↓reduceIte,pE,pL,pA,pS,pM,pD,zaw hlt,zai hlt,zaa hlt,he,zfN,zfX,zN,qT,qG,qL,qH,qN,qB,qE,qO,qA,qM,List.length_map,hpe];refine EFn.gV [(100,140),(140,141)] tc ?_ ?_
   ·simp(maxSteps:=4000000) only[ZE,↓reduceIte,pE,pL,pA,pS,pM,pD]
   intro V ol new hq;cases hr:zl8 s e with
   | none=>
    rw[hr]at hq;obtain⟨rfl,rfl,rfl⟩:=hq;have hap:zoS a es=none:=zyH hlt h1 (by rw[he,hse,hr]);rw[hap];simp(maxSteps:=4000000) only[ZE,↓reduceIte,pE,pL,pA,pS,pM,pD,zN,qT,qG,qL,qH,qN,qB,qE,qO,qA,qM,zyp]
   | some s'=>
    rw[hr]at hq;obtain⟨rfl,rfl,rfl⟩:=hq;simp(maxSteps:=4000000) only[ZE,↓reduceIte,pE,pL,pA,pS,pM,pD,zN,qT,qG,qL,qH,qN,qB,qE,qO,qA,qM,hw];simp only[zep];refine⟨hlt,s',⟨by rw[hstep,hse,hr],?_⟩,?_⟩
    ·have:=hb.step (e:=e) (by rw[hse,hr]); exact this
    ·simp only[ZE,↓reduceIte,pE,pL,pA,pS,pM,pD]
 ·have:i=es.length:=by omega
  subst this;rw[List.take_length]at h1;have hap:zoS a es=some s:=h1;rw[hap];simp(maxSteps:=4000000) only[ZE,↓reduceIte,pE,pL,pA,pS,pM,pD,zaI hge,zN,qT,qG,qL,qH,qN,qB,qE,qO,qA,qM,List.length_map,zyp]
def zzz(x:Item):Bool:=x.kind.1==0
theorem kind0_c(x:Item):FnP Tryz.prog 55 [.agg (zaK x)] (.d (eB (zzz x))) []:=by
 refine FnP.of_eC (own:=[]) (fun _=>[]) zat Tryz.func55 rfl Tryz.call55 Tryz.ntmps55 (Nat.le_of_ble_eq_true rfl) Tryz.results55 (fun hok=> ?_);simp(maxSteps:=4000000) only[ZE,↓reduceIte,pE,pL,pA,pS,pM,pD,zN,qT,qG,qL,qH,qN,qB,qE,qO,qA,qM,zzz]
theorem indexK_c(l:List Item):FnP Tryz.prog 112 [.sl (l.map zaK),.clo (.func 55) [] []] (.d (eI (zgM zzz l))) []:=by
 refine FnP.of_eC (own:=[]) chL zat Tryz.func112 rfl Tryz.call112 Tryz.ntmps112 (Nat.le_of_ble_eq_true rfl) Tryz.results112 (fun hok=> ?_);obtain⟨hl,_⟩:=za9 (zaM hok).1;simp only[ZE,↓reduceIte,pE,pL,pA,pS,pM,pD,zN,qT,qG,qL,qH,qN,qB,qE,qO,qA,qM];refine za1 chL zat l.length (fun i=> ∀j (_:j<i) (hj:j<l.length),zzz l[j]=false) (fun i=>([(0,.d (zbR l)),(1,.d (.clo (.func 55) [] [])),(7,.d (eI l.length)),(8,.d (eI i))],[])) (by simp) (by simp only[ZE,↓reduceIte,pE,pL,pA,pS,pM,pD,zN,qT,qG,qL,qH,qN,qB,qE,qO,qA,qM,List.length_map]) (by simp only[ZE,↓reduceIte,pE,pL,pA,pS,pM,pD]) (fun i hi hI=> ?_);rcases Nat.lt_or_ge i l.length with h | h
 ·have hw:=zaq (show i<9223372036854775807 by omega);simp only[ZE,↓reduceIte,pE,pL,pA,pS,pM,pD,zaw h,zaa h,zai h,List.length_map];have hc:=kind0_c l[i];simp only[ZE,↓reduceIte,pE,pL,pA,pS,pM,pD]at hc;refine EFn.p ?_;simp only[ZE,↓reduceIte,pE,pL,pA,pS,pM,pD];refine zar.i hc ?_;simp only[ZE,↓reduceIte,pE,pL,pA,pS,pM,pD,hw];refine zd8 (fun h3=> ?_) (fun h3=>⟨h,fun j hj hj'=> ?_⟩)
  ·rw[zeP h h3 hI]
  ·rcases Nat.lt_succ_iff_lt_or_eq.1 hj with hj | rfl
   ·exact hI j hj hj'
   ·exact h3
 ·simp only[ZE,↓reduceIte,pE,pL,pA,pS,pM,pD,zaI h,List.length_map];rw[zeO (fun j hj=>hI j (by omega) hj)]
theorem zzw(l:List Item):FnP Tryz.prog 54 [.sl (l.map zaK),.clo (.func 55) [] []] (.d (eB (l.any zzz))) []:=by
 refine FnP.of_eC (own:=[]) chL zat Tryz.func54 rfl Tryz.call54 Tryz.ntmps54 (Nat.le_of_ble_eq_true rfl) Tryz.results54 (fun hok=> ?_);simp only[ZE,↓reduceIte,pE,pL,pA,pS,pM,pD,zN,qT,qG,qL,qH,qN,qB,qE,qO,qA,qM];refine EFn.p ?_;simp(maxSteps:=4000000) only[ZE,↓reduceIte,pE,pL,pA,pS,pM,pD];have hc:=indexK_c l;simp(maxSteps:=4000000) only[ZE,↓reduceIte,pE,pL,pA,pS,pM,pD]at hc;refine zar.i hc ?_;clear hc;simp only[ZE,↓reduceIte,pE,pL,pA,pS,pM,pD,zN,qT,qG,qL,qH,qN,qB,qE,qO,qA,qM,zf0]
section
open Go.Aw Go.Sort Go.RowKit Go.Lib
set_option maxRecDepth 1000000
set_option maxHeartbeats 8000000
theorem zqI{W:World}{F:Nat->Prop}: ∀(m b off:Nat),zbJ W F 0 (List.replicate m []) b off
 | 0,_,_=>trivial
 | m+1,b,off=>by
  rw[List.replicate_succ];exact⟨⟨rfl,trivial⟩,zqI m b (off+0)⟩
/-- The memory behind a call that gives up its array and keeps a variable. -/
theorem mem_box{P:Program}{W:World}{F O0:Nat->Prop}{Oi:zbI}{η:Nat->Value}{S:Nat->List Nat}(hm:Mem ⟨P,N0,W,F,O0,[],[],fun _=>undef⟩ Oi W F η S)(hO0: ∀b,O0 b↔ ∃id,b∈S id){W':World}{g:Nat}{e:TypeId}{sz:Nat}{cs:List AV}(h3:Oi 3=some (.box cs))(hcs: ∃ds:List D,cs=ds.map AV.d)
  (hg:g∈S 0) (hf:Frm W W' g e sz):Mem ⟨P,N0,W,F,O0,[],[],fun _=>undef⟩ (om [(3,.box cs)]) W' (fun b=>F b\/b=g) η (fun i=>if i=3 then S 3 else []):=by
 have hgO:O0 g:=(hO0 g).2 ⟨0,hg⟩;obtain⟨hgF,hgW,_⟩:=hm.apart 0 g hg;have hom: ∀id o,om [(3,AO.box cs)] id=some o->id=3/\o= .box cs:=by
  intro id o ho;simp only[om]at ho;split at ho
  ·rename_i h; exact⟨h,(Option.some.inj ho).symm⟩
  ·cases ho
 have hF: ∀b,F b->(F b\/b=g)/\W'.heap[b]? =W.heap[b]? :=fun b hb=>⟨.inl hb,hf.same b (hm.flt b hb) (fun h=>hgF (h▸hb))⟩;have h3g: ∀b∈S 3,b≠g:=fun b hb h=>by
  have:=hm.sep 3 0 b hb (by rw[h]; exact hg);cases this
 refine⟨hf.os,hf.tape,hf.output,hf.size,fun b hb hnb=>hf.same b hb (fun h=>hnb (h▸hgO)),fun b h=>.inl h,?_,?_,?_,?_,?_,?_,?_,by simp,?_,by simp⟩
 ·rintro b (h | h)
  ·exact Nat.lt_of_lt_of_le (hm.flt b h) hf.size
  ·subst h; exact Nat.lt_of_lt_of_le hgW hf.size
 ·rintro b (h | h) _
  ·exact .inl h
  ·subst h; exact .inr hgO
 ·intro id o ho;obtain⟨rfl,rfl⟩:=hom id o ho;obtain⟨b,cur,e',q1,q2,q3,q4⟩:=hm.obj 3 _ h3;obtain⟨ds,rfl⟩:=hcs;refine⟨b,cur,e',q1,by simp only[if_true]; exact q2,?_,?_⟩
  ·rw[hf.same b (Array.getElem?_eq_some_iff.1 q3).1 (h3g b (by rw[q2]; simp))]; exact q3
  ·refine zaN.pres (new:=[]) (O:=om [(3,.box (ds.map AV.d))]) (η:=η) (za7.refl _ _) hF _ _ ?_ ?_
   ·have: ∀ds:List D,AV.noRefs [] (ds.map AV.d):=by
     intro ds
     induction ds with
     | nil=>trivial
     | cons d ds ih=>exact⟨trivial,ih⟩
    exact this ds
   ·have: ∀(ds:List D) (vs:List Value),zaN Oi W F η (ds.map AV.d) vs->zaN (om [(3,.box (ds.map AV.d))]) W F η (ds.map AV.d) vs:=by
     intro ds0 vs;have key: ∀(O:zbI) (ds:List D) (vs:List Value),zaN Oi W F η (ds.map AV.d) vs->zaN O W F η (ds.map AV.d) vs:=by
      intro O ds
      induction ds with
      | nil=>intro vs h; simpa [zaN]using h
      | cons d ds ih=>
       intro vs h;simp only[List.map_cons,zaN]at h ⊢;obtain⟨v,rest,rfl,a,b⟩:=h;exact⟨v,rest,rfl,by simpa only[zaL]using a,ih _ b⟩
     exact key _ ds0 vs
    exact this ds _ q4
 ·intro id ho;by_cases h:id=3
  ·subst h; simp[om]at ho
  ·simp[h]
 ·intro id b hb;by_cases h:id=3
  ·simp only[h,if_true]at hb;obtain⟨a1,a2,a3⟩:=hm.apart 3 b hb;exact⟨fun hc=>hc.elim a1 (h3g b hb),Nat.lt_of_lt_of_le a2 hf.size,a3⟩
  ·simp[h]at hb
 ·intro id id' b hb hb';by_cases h:id=3
  ·by_cases h':id'=3
   ·rw[h,h']
   ·simp[h']at hb'
  ·simp[h]at hb
 ·intro id;by_cases h:id=3
  ·simp only[h,if_true]; exact hm.nd 3
  ·simp[h]
 ·intro id lim fam stop l rest ho;have:=(hom id _ ho).2;cases this
theorem sameItem_w{P:Program}(hP:Tryz.prog=P)(k:Nat)(hk2:k=35)(ra rb:Array Value)(sa:ra.size=k)(sb:rb.size=k)(c:Int)(bx:Nat)(w:World)(hb:w.cell? ⟨bx,0,none⟩=some (.func (.func 53) #[] #[]))
  (hi: ∀W,Calls P 53 #[.agg ra,.agg rb] W fun e w'=>e= .returned (.int .i64 c)/\ ∃q os',w'=grow (W.drewN q) os'):
  Calls P 109 #[.agg ra,.agg rb,.pointer (some ⟨bx,0,none⟩)] w fun e w'=>e= .returned (.bool (c==0))/\ ∃q os',w'=grow (w.drewN q) os':=by
 have F:=Tryz.func109;have zat:=zat;have t0:=Tryz.underlying0; have a0:=Tryz.isAgg0; have z0:=Tryz.sizeOf0; have v0:=Tryz.zeroValue0;have t3:=Tryz.underlying3; have a3:=Tryz.isAgg3; have z3:=Tryz.sizeOf3; have v3:=Tryz.zeroValue3;have t4:=Tryz.underlying4; have a4:=Tryz.isAgg4; have z4:=Tryz.sizeOf4; have v4:=Tryz.zeroValue4;have aF:=Tryz.isAgg109; have zF:=Tryz.sizeOf109;have aE:=Tryz.isAgg64; have zE:=Tryz.sizeOf64;rw[<-hk2]at zE;have eg:=Tryz.call53;rw[hP]at F zat t0 a0 z0 v0 t3 a3 z3 v3 t4 a4 z4 v4 aE zE aF zF eg;clear hk2;have hb2:((w.alloc (.cells ra 64)).alloc (.cells rb 64)).cell? ⟨bx,0,none⟩=some (.func (.func 53) #[] #[]):=cell?_alloc_some _ (cell?_alloc_some _ hb);have la:Sem.run P (loadCellsFrom ⟨w.heap.size,0,none⟩ 0 k #[]) ((w.alloc (.cells ra 64)).alloc (.cells rb 64))= .ok ra ((w.alloc (.cells ra 64)).alloc (.cells rb 64)):=by
  have h:=run_loadCellsFrom_list P ((w.alloc (.cells ra 64)).alloc (.cells rb 64)) ⟨w.heap.size,0,none⟩ ra.toList k (by rw[Array.length_toList]; exact sa) (fun j v hj=>by
   rw[Addr.add_lit];refine cell?_alloc_some _ ?_;simp only[World.cell?,World.alloc_heap_new,Nat.zero_add];simpa using hj)
  simpa using h
 have lb:Sem.run P (loadCellsFrom ⟨w.heap.size+1,0,none⟩ 0 k #[]) ((w.alloc (.cells ra 64)).alloc (.cells rb 64))= .ok rb ((w.alloc (.cells ra 64)).alloc (.cells rb 64)):=by
  have hh:=World.alloc_heap_new (w.alloc (.cells ra 64)) (.cells rb 64);rw[World.size_alloc]at hh;have h:=run_loadCellsFrom_list P ((w.alloc (.cells ra 64)).alloc (.cells rb 64)) ⟨w.heap.size+1,0,none⟩ rb.toList k (by rw[Array.length_toList]; exact sb) (fun j v hj=>by
   rw[Addr.add_lit];simp only[World.cell?,hh,Nat.zero_add];simpa using hj)
  simpa using h
 clear hb sa sb
 go_enter F,Tryz.ntmps109
 go_wp2_with (go_at_call 53; refine(hi _).mono ?_; rintro e w' ⟨rfl,q,os',rfl⟩)
 go_ret;refine⟨rfl,q,#[.cells ra 64,.cells rb 64]++os',?_⟩;have e1:grow (grow w #[.cells ra 64]) #[.cells rb 64]=grow w #[.cells ra 64,.cells rb 64]:=by rw[grow_grow]; rfl
 rw[alloc_eq_grow,alloc_eq_grow,e1];show grow (grow (w.drewN q) #[.cells ra 64,.cells rb 64]) os'=_;rw[grow_grow]
theorem sameModule_w{P:Program}(hP:Tryz.prog=P)(k:Nat)(hk2:k=4)(ra rb:Array Value)(sa:ra.size=k)(sb:rb.size=k)(c:Int)(bx:Nat)(w:World)(hb:w.cell? ⟨bx,0,none⟩=some (.func (.func 57) #[] #[]))
  (hi: ∀W,Calls P 57 #[.agg ra,.agg rb] W fun e w'=>e= .returned (.int .i64 c)/\ ∃q os',w'=grow (W.drewN q) os'):
  Calls P 114 #[.agg ra,.agg rb,.pointer (some ⟨bx,0,none⟩)] w fun e w'=>e= .returned (.bool (c==0))/\ ∃q os',w'=grow (w.drewN q) os':=by
 have F:=Tryz.func114;have zat:=zat;have t0:=Tryz.underlying0; have a0:=Tryz.isAgg0; have z0:=Tryz.sizeOf0; have v0:=Tryz.zeroValue0;have t3:=Tryz.underlying3; have a3:=Tryz.isAgg3; have z3:=Tryz.sizeOf3; have v3:=Tryz.zeroValue3;have t4:=Tryz.underlying4; have a4:=Tryz.isAgg4; have z4:=Tryz.sizeOf4; have v4:=Tryz.zeroValue4;have aF:=Tryz.isAgg113; have zF:=Tryz.sizeOf113;have aE:=Tryz.isAgg53; have zE:=Tryz.sizeOf53;rw[<-hk2]at zE;have eg:=Tryz.call57;rw[hP]at F zat t0 a0 z0 v0 t3 a3 z3 v3 t4 a4 z4 v4 aE zE aF zF eg;clear hk2;have hb2:((w.alloc (.cells ra 53)).alloc (.cells rb 53)).cell? ⟨bx,0,none⟩=some (.func (.func 57) #[] #[]):=cell?_alloc_some _ (cell?_alloc_some _ hb);have la:Sem.run P (loadCellsFrom ⟨w.heap.size,0,none⟩ 0 k #[]) ((w.alloc (.cells ra 53)).alloc (.cells rb 53))= .ok ra ((w.alloc (.cells ra 53)).alloc (.cells rb 53)):=by
  have h:=run_loadCellsFrom_list P ((w.alloc (.cells ra 53)).alloc (.cells rb 53)) ⟨w.heap.size,0,none⟩ ra.toList k (by rw[Array.length_toList]; exact sa) (fun j v hj=>by
   rw[Addr.add_lit];refine cell?_alloc_some _ ?_;simp only[World.cell?,World.alloc_heap_new,Nat.zero_add];simpa using hj)
  simpa using h
 have lb:Sem.run P (loadCellsFrom ⟨w.heap.size+1,0,none⟩ 0 k #[]) ((w.alloc (.cells ra 53)).alloc (.cells rb 53))= .ok rb ((w.alloc (.cells ra 53)).alloc (.cells rb 53)):=by
  have hh:=World.alloc_heap_new (w.alloc (.cells ra 53)) (.cells rb 53);rw[World.size_alloc]at hh;have h:=run_loadCellsFrom_list P ((w.alloc (.cells ra 53)).alloc (.cells rb 53)) ⟨w.heap.size+1,0,none⟩ rb.toList k (by rw[Array.length_toList]; exact sb) (fun j v hj=>by
   rw[Addr.add_lit];simp only[World.cell?,hh,Nat.zero_add];simpa using hj)
  simpa using h
 clear hb sa sb
 go_enter F,Tryz.ntmps114
 go_wp2_with (go_at_call 57; refine(hi _).mono ?_; rintro e w' ⟨rfl,q,os',rfl⟩)
 go_ret;refine⟨rfl,q,#[.cells ra 53,.cells rb 53]++os',?_⟩;have e1:grow (grow w #[.cells ra 53]) #[.cells rb 53]=grow w #[.cells ra 53,.cells rb 53]:=by rw[grow_grow]; rfl
 rw[alloc_eq_grow,alloc_eq_grow,e1];show grow (grow (w.drewN q) #[.cells ra 53,.cells rb 53]) os'=_;rw[grow_grow]
def zrD(f:Nat):AO:=.box [.d (.clo (.func f) [] [])]
theorem item_x{W:World}{F:Nat->Prop}(x y:Item)(ra rb:List Value)(h1:zav W F (zaK x) ra)(h2:zav W F (zaK y) rb)(w:World):Calls Tryz.prog 53 #[.agg ra.toArray,.agg rb.toArray] w fun e w'=>e= .returned (.int .i64 (zyB (zbg x) (zbg y)))/\ ∃q os',w'=grow (w.drewN q) os':=by
 have l1:=zav.length _ _ h1;have l2:=zav.length _ _ h2;have e35: ∀x:Item,(zaK x).length =35:=fun x=>by simp[zaK,zgL,zb6,zib]
 rw[e35]at l1 l2;have g: ∀(x:Item) (r:List Value),zav W F (zaK x) r->r[0]? =some (.int .i64 x.kind.1)/\r[1]? =some (.string x.name.1):=fun x r h=>by
  unfold zaK at h;simp only[eI,eS,zav,Aw.Rd]at h;obtain⟨v,r1,rfl,rfl,v2,r2,rfl,rfl,_⟩:=h;exact⟨rfl,rfl⟩
 obtain⟨p1,p2⟩:=g x ra h1;obtain⟨q1,q2⟩:=g y rb h2;exact item_w ra.toArray rb.toArray (by simpa using l1) (by simpa using l2) x.kind.1 y.kind.1 x.name.1 y.name.1 (by simpa using p1) (by simpa using p2) (by simpa using q1) (by simpa using q2) w
theorem module_x{W:World}{F:Nat->Prop}(x y:Module)(ra rb:List Value)(h1:zav W F (zaC x) ra)(h2:zav W F (zaC y) rb)(w:World):Calls Tryz.prog 57 #[.agg ra.toArray,.agg rb.toArray] w fun e w'=>e= .returned (.int .i64 (zy2 x.name y.name))/\ ∃q os',w'=grow (w.drewN q) os':=by
 have l1:=zav.length _ _ h1;have l2:=zav.length _ _ h2;have g: ∀(x:Module) (r:List Value),zav W F (zaC x) r->r[0]? =some (.string x.name.1):=fun x r h=>by
  unfold zaC at h;simp only[eS,zav,Aw.Rd]at h;obtain⟨v,r1,rfl,rfl,_⟩:=h;rfl
 exact name_w ra.toArray rb.toArray (by simpa [zaC]using l1) (by simpa [zaC]using l2) x.name.1 y.name.1 (by simpa using g x ra h1) (by simpa using g y rb h2) w
def compQItem(l:List Item)(V:AV)(ol:OL)(new:List Nat):Prop:=
 ∃m,V= .d (.sl (List.replicate m []))/\ol=[(3,zrD 53)]/\new=[]/\((m=l.length/\ ∀i (h:i+1<l.length),zbg l[i+1]≠zbg l[i])\/(m<l.length/\ ∃i,∃h:i+1<l.length,zbg l[i+1]=zbg l[i]))
theorem zo0(ad:Option Addr)(cap:Nat)(v:Value)(W:World):Calls Tryz.prog 108 #[.slice ad 0 cap,v] W fun e w'=>e= .returned (.slice ad 0 cap)/\w'=W:=by
 go_enter Tryz.func108,Tryz.ntmps108
 go_wp2;go_ret;exact⟨rfl,rfl⟩
theorem zwI(l:List Item)(hl:l.length<4611686018427387904):FnL Tryz.prog 108 [.ar 0 l.length,.clo (.func 109) [] [.bp 3 0]] [(0,.arr 64 35 .flat (l.map zaK)),(3,zrD 53)] (compQItem l):=by
 refine⟨fun W bs=>Tryz.call108 bs W,?_⟩;intro W F O0 η S vs hm hO0 hr;simp only[zaN,zaL]at hr;obtain⟨v0,_,rfl,hv0,v1,_,rfl,⟨fs,cbs,rfl,rfl,vb,_,rfl,hvb,rfl⟩,rfl⟩:=hr;have e0:v0=η 0:=(hv0 64 35 .flat (l.map zaK) (by simp[om])).2 (by simp);obtain⟨bx,q1,q2⟩:=hvb [.d (.clo (.func 53) [] [])] (by simp[om,zrD]);obtain⟨b',curb,eb,r1,r2,r3,r4⟩:=hm.obj 3 (zrD 53) (by simp[om]);rw[q1]at r1;simp only[Value.pointer.injEq,Option.some.injEq,Addr.mk.injEq,and_true]at r1;subst r1;have hbx:W.cell? ⟨bx,0,none⟩=some (.func (.func 53) #[] #[]):=by
  simp only[zaN,zaL,Aw.Rd,zav]at r4;obtain⟨u,rest,e1,⟨a,b,rfl,rfl,rfl⟩,rfl⟩:=r4;simp only[World.cell?,r3];have:curb=#[.func (.func 53) #[] #[]]:=by apply Array.ext'; simpa using e1
  subst this;rfl
 have hbW:bx<W.heap.size:=(Array.getElem?_eq_some_iff.1 r3).1;obtain⟨_,hkk,hcase⟩:=hm.obj 0 (.arr 64 35 .flat (l.map zaK)) (by simp[om]);subst e0 q2;have fin: ∀(g:Nat) (hg:g∈S 0) (W':World) (sz:Nat) (m cap:Nat) (_:m<=cap) (_:cap<=maxLen),Frm W W' g 64 sz->((m=l.length/\ ∀i (h:i+1<l.length),zbg l[i+1]≠zbg l[i])\/(m<l.length/\ ∃i,∃h:i+1<l.length,zbg l[i+1]=zbg l[i]))->
   ∃v V Oo new F' η' S',Ending.returned (.slice (some ⟨g,0,none⟩) m cap)= .returned v/\(∃ol,Oo=om ol/\compQItem l V ol new)/\(∀i∈new,∀lim fam stop l rest,Oo i≠some (.ext lim fam stop l rest))/\
    Mem ⟨Tryz.prog,N0,W,F,O0,[],[],fun _=>undef⟩ Oo W' F' η' S'/\zaL Oo W' F' η' V v/\za7 (om [(0,.arr 64 35 .flat (l.map zaK)),(3,zrD 53)]) Oo η η' new:=by
  intro g hg W' sz m cap hmc hcx hfr hd;refine⟨_,.d (.sl (List.replicate m [])),_,[],_,η,_,rfl,⟨_,rfl,m,rfl,rfl,rfl,hd⟩,by simp,mem_box (cs:=[.d (.clo (.func 53) [] [])]) hm hO0 (by simp[om,zrD]) ⟨[_],rfl⟩ hg hfr,?_,?_⟩
  ·simp only[zaL,Aw.Rd,List.length_replicate];exact⟨⟨_,cap,rfl,hmc,fun _=>⟨g,0,0,rfl,.inr rfl,zqI m g 0⟩⟩,Nat.le_trans hmc hcx⟩
  ·intro id o' ho;simp only[om]at ho;split at ho
   ·rename_i h3;subst h3;cases ho;exact .inr ⟨_,by simp only[om,zrD]; rfl,rfl⟩
   ·cases ho
 rcases hcase with⟨⟨ad,hv⟩,hes,hS⟩ | ⟨g,cap,cur,s1,hv,hg,hle,hcap,hcur,hs,hC⟩
 ·have hl0:l=[]:=List.map_eq_nil_iff.1 hes;subst hl0;rw[hv];refine(zo0 ad 0 _ W).mono ?_;rintro e W' ⟨rfl,rfl⟩;obtain⟨m1,_⟩:=hm.dropL (W':=W') (F':=fun b=>F b\/ ∃id∈[0],b∈S id) [0] (Below.refl _ _) (fun b hb=>.inl hb) (fun b hb=>by
    rcases hb with hb | hb
    ·exact .inl hb
    ·exact .inr (.inr hb))
  have hd:drop (om [(0,AO.arr 64 35 .flat ([].map zaK)),(3,zrD 53)]) [0]=om [(3,zrD 53)]:=by
   funext id;simp only[drop,om,List.mem_singleton];by_cases h0:id=0
   ·subst h0; simp
   ·simp[h0]
  rw[hd]at m1;refine⟨_,.d (.sl (List.replicate 0 [])),_,[],_,η,_,rfl,⟨_,rfl,0,rfl,rfl,rfl,.inl ⟨rfl,fun i h=>by simp at h⟩⟩,by simp,m1,?_,?_⟩
  ·simp only[zaL,Aw.Rd,List.length_replicate];exact⟨⟨ad,0,rfl,Nat.le_refl _,fun h=>absurd rfl h⟩,Nat.zero_le _⟩
  ·intro id o' ho;simp only[om]at ho;split at ho
   ·rename_i h3;subst h3;cases ho;exact .inr ⟨_,by simp only[om,zrD]; rfl,rfl⟩
   ·cases ho
 ·obtain⟨hC2,rfl⟩:=(zuK _ _ _).1 hC;obtain⟨rows,er,hcells,hrow⟩:=zlB zaK l _ hC2;rw[List.length_map]at hv hcells hle;rw[hv];have hgS:g∈S 0:=by rw[hs]; simp
  have hbg:bx≠g:=fun h=>by
   have:=hm.sep 3 0 bx (by rw[r2]; simp) (by rw[h]; exact hgS);cases this
  by_cases hl0:l=[]
  ·subst hl0;refine(zo0 (some ⟨g,0,none⟩) cap _ W).mono ?_;rintro e W' ⟨rfl,rfl⟩;exact fin g hgS W' (cap*35) 0 cap (Nat.zero_le _) hcap ⟨rfl,rfl,rfl,Nat.le_refl _,fun _ _ _=>rfl,cur,hg,hcur⟩ (.inl ⟨rfl,fun i h=>by simp at h⟩)
  have hn:0<l.length:=List.length_pos_iff.2 hl0;have:Inhabited (Fin l.length):=⟨⟨0,hn⟩⟩;obtain⟨enc,henc⟩: ∃enc:Fin l.length->List Value,∀i,enc i=rows[i.1]'(by omega):=⟨fun i=>rows[i.1]'(by omega),fun _=>rfl⟩;have hrd: ∀i:Fin l.length,zav W F (zaK l[i.1]) (enc i):=fun i=>by rw[henc]; exact hrow i.1 i.2 (by omega)
  have hlen: ∀x:Item,(zaK x).length =35:=fun x=>by simp[zaK,zgL,zb6,zib]
  have hek: ∀i,(enc i).length =35:=fun i=>by rw[zav.length _ _ (hrd i),hlen]
  have he1: ∀i,∀v∈enc i,v.oneCell'=true:=fun i=>zg6 _ _ (hrd i) (zyv _);obtain⟨d,hd⟩: ∃d:Array (Fin l.length),d=(List.finRange l.length).toArray :=⟨_,rfl⟩;have hdl:d.toList=List.finRange l.length:=by rw[hd]
  have hdz:d.size=l.length:=by rw[hd]; simp
  have hda: ∀j (h:j<l.length),d[j]! =⟨j,h⟩:=fun j h=>by
   rw[getElem!_pos d j (by omega)];simp[hd]
  have hfm:d.toList.flatMap enc=rows.flatten:=by
   rw[hdl,List.flatMap];congr 1;apply List.ext_getElem (by simp[er]);intro i h1 h2;simp[henc]
  have hsz:(flatK enc 35 d).size =l.length*35:=by simp[hdz]
  have hcur':l.length*35<=cur.size:=by rw[hcur]; exact Nat.mul_le_mul_right _ hle
  have hH:HoldsK enc 35 W g 0 d:=by
   intro j hj;rw[hsz]at hj;have hjc:j<cur.size:=by omega
   have e2:cur[j]? =(flatK enc 35 d)[j]? :=by
    have h1:=congrArg (fun x=>x[j]?) hcells;rw[<-hfm,<-zjv enc 35 (by omega) hek]at h1;simp only[List.getElem?_take,hj,if_true,Array.getElem?_toList]at h1;exact h1
   refine⟨?_,by simp[World.frozen?,hg]⟩;simp only[World.cell?,hg,Nat.zero_add];have:(flatK enc 35 d)[j]! =(flatK enc 35 d)[j]'(by rw[hsz]; exact hj):=getElem!_pos _ j (by rw[hsz]; exact hj);simp only[id,this];rw[show(({block:=g,off:=j,spot:=none}:Addr).spot.isSome)=false from rfl];simp only[Bool.false_eq_true,if_false,e2];rw[Array.getElem?_eq_getElem]
  have hcw:=zwJ (P:=Tryz.prog) rfl enc 35 rfl hek he1 (fun a b=>zyB (zbg l[a.1]) (zbg l[b.1])==0) 109 #[.pointer (some ⟨bx,0,none⟩)] g 0 cap (cap*35) d W (fun bs w=>Tryz.call109 bs w)
   (fun wr hfr x y=>by
    have hb2:wr.cell? ⟨bx,0,none⟩=some (.func (.func 53) #[] #[]):=by
     rw[<-hbx];simp only[World.cell?,hfr.same bx hbW hbg]
    refine sameItem_w (P:=Tryz.prog) rfl 35 rfl (enc x).toArray (enc y).toArray (by simpa using hek x) (by simpa using hek y) _ bx wr hb2 (fun w=> ?_);exact item_x l[x.1] l[y.1] (enc x) (enc y) (hrd x) (hrd y) w) hH ⟨cur,hg,hcur⟩ (by omega) hcap (by omega)
  rw[hdz]at hcw;refine hcw.mono ?_;rintro e' W' ⟨m,rfl,hfr,hd2⟩;rw[hdz]at hd2;have hkey: ∀j (h:j+1<l.length),((fun a b:Fin l.length=>zyB (zbg l[a.1]) (zbg l[b.1])==0) d[j+1]! d[j]! =true)↔zbg l[j+1]=zbg l[j]:=fun j h=>by
   rw[hda (j+1) h,hda j (by omega)];simp only[beq_iff_eq];exact zyI _ _
  refine fin g hgS W' _ m cap ?_ hcap hfr ?_
  ·rcases hd2 with⟨h,_⟩ | ⟨h,_⟩ <;> omega
  ·rcases hd2 with⟨h,h'⟩ | ⟨h,j,hj,h'⟩
   ·refine .inl ⟨h,fun j hj hc=> ?_⟩;have:=h' j hj;rw[(hkey j hj).2 hc]at this;cases this
   ·exact .inr ⟨h,j,hj,(hkey j hj).1 h'⟩
def zsl(l:List Module)(V:AV)(ol:OL)(new:List Nat):Prop:=
 ∃m,V= .d (.sl (List.replicate m []))/\ol=[(3,zrD 57)]/\new=[]/\((m=l.length/\ ∀i (h:i+1<l.length),Module.name l[i+1]≠Module.name l[i])\/(m<l.length/\ ∃i,∃h:i+1<l.length,Module.name l[i+1]=Module.name l[i]))
theorem zmh(ad:Option Addr)(cap:Nat)(v:Value)(W:World):Calls Tryz.prog 113 #[.slice ad 0 cap,v] W fun e w'=>e= .returned (.slice ad 0 cap)/\w'=W:=by
 go_enter Tryz.func113,Tryz.ntmps113
 go_wp2;go_ret;exact⟨rfl,rfl⟩
theorem zsm(l:List Module)(hl:l.length<4611686018427387904):FnL Tryz.prog 113 [.ar 0 l.length,.clo (.func 114) [] [.bp 3 0]] [(0,.arr 53 4 .flat (l.map zaC)),(3,zrD 57)] (zsl l):=by
 refine⟨fun W bs=>Tryz.call113 bs W,?_⟩;intro W F O0 η S vs hm hO0 hr;simp only[zaN,zaL]at hr;obtain⟨v0,_,rfl,hv0,v1,_,rfl,⟨fs,cbs,rfl,rfl,vb,_,rfl,hvb,rfl⟩,rfl⟩:=hr;have e0:v0=η 0:=(hv0 53 4 .flat (l.map zaC) (by simp[om])).2 (by simp);obtain⟨bx,q1,q2⟩:=hvb [.d (.clo (.func 57) [] [])] (by simp[om,zrD]);obtain⟨b',curb,eb,r1,r2,r3,r4⟩:=hm.obj 3 (zrD 57) (by simp[om]);rw[q1]at r1;simp only[Value.pointer.injEq,Option.some.injEq,Addr.mk.injEq,and_true]at r1;subst r1;have hbx:W.cell? ⟨bx,0,none⟩=some (.func (.func 57) #[] #[]):=by
  simp only[zaN,zaL,Aw.Rd,zav]at r4;obtain⟨u,rest,e1,⟨a,b,rfl,rfl,rfl⟩,rfl⟩:=r4;simp only[World.cell?,r3];have:curb=#[.func (.func 57) #[] #[]]:=by apply Array.ext'; simpa using e1
  subst this;rfl
 have hbW:bx<W.heap.size:=(Array.getElem?_eq_some_iff.1 r3).1;obtain⟨_,hkk,hcase⟩:=hm.obj 0 (.arr 53 4 .flat (l.map zaC)) (by simp[om]);subst e0 q2;have fin: ∀(g:Nat) (hg:g∈S 0) (W':World) (sz:Nat) (m cap:Nat) (_:m<=cap) (_:cap<=maxLen),Frm W W' g 53 sz->((m=l.length/\ ∀i (h:i+1<l.length),Module.name l[i+1]≠Module.name l[i])\/(m<l.length/\ ∃i,∃h:i+1<l.length,Module.name l[i+1]=Module.name l[i]))->
   ∃v V Oo new F' η' S',Ending.returned (.slice (some ⟨g,0,none⟩) m cap)= .returned v/\(∃ol,Oo=om ol/\zsl l V ol new)/\(∀i∈new,∀lim fam stop l rest,Oo i≠some (.ext lim fam stop l rest))/\
    Mem ⟨Tryz.prog,N0,W,F,O0,[],[],fun _=>undef⟩ Oo W' F' η' S'/\zaL Oo W' F' η' V v/\za7 (om [(0,.arr 53 4 .flat (l.map zaC)),(3,zrD 57)]) Oo η η' new:=by
  intro g hg W' sz m cap hmc hcx hfr hd;refine⟨_,.d (.sl (List.replicate m [])),_,[],_,η,_,rfl,⟨_,rfl,m,rfl,rfl,rfl,hd⟩,by simp,mem_box (cs:=[.d (.clo (.func 57) [] [])]) hm hO0 (by simp[om,zrD]) ⟨[_],rfl⟩ hg hfr,?_,?_⟩
  ·simp only[zaL,Aw.Rd,List.length_replicate];exact⟨⟨_,cap,rfl,hmc,fun _=>⟨g,0,0,rfl,.inr rfl,zqI m g 0⟩⟩,Nat.le_trans hmc hcx⟩
  ·intro id o' ho;simp only[om]at ho;split at ho
   ·rename_i h3;subst h3;cases ho;exact .inr ⟨_,by simp only[om,zrD]; rfl,rfl⟩
   ·cases ho
 rcases hcase with⟨⟨ad,hv⟩,hes,hS⟩ | ⟨g,cap,cur,s1,hv,hg,hle,hcap,hcur,hs,hC⟩
 ·have hl0:l=[]:=List.map_eq_nil_iff.1 hes;subst hl0;rw[hv];refine(zmh ad 0 _ W).mono ?_;rintro e W' ⟨rfl,rfl⟩;obtain⟨m1,_⟩:=hm.dropL (W':=W') (F':=fun b=>F b\/ ∃id∈[0],b∈S id) [0] (Below.refl _ _) (fun b hb=>.inl hb) (fun b hb=>by
    rcases hb with hb | hb
    ·exact .inl hb
    ·exact .inr (.inr hb))
  have hd:drop (om [(0,AO.arr 53 4 .flat ([].map zaC)),(3,zrD 57)]) [0]=om [(3,zrD 57)]:=by
   funext id;simp only[drop,om,List.mem_singleton];by_cases h0:id=0
   ·subst h0; simp
   ·simp[h0]
  rw[hd]at m1;refine⟨_,.d (.sl (List.replicate 0 [])),_,[],_,η,_,rfl,⟨_,rfl,0,rfl,rfl,rfl,.inl ⟨rfl,fun i h=>by simp at h⟩⟩,by simp,m1,?_,?_⟩
  ·simp only[zaL,Aw.Rd,List.length_replicate];exact⟨⟨ad,0,rfl,Nat.le_refl _,fun h=>absurd rfl h⟩,Nat.zero_le _⟩
  ·intro id o' ho;simp only[om]at ho;split at ho
   ·rename_i h3;subst h3;cases ho;exact .inr ⟨_,by simp only[om,zrD]; rfl,rfl⟩
   ·cases ho
 ·obtain⟨hC2,rfl⟩:=(zuK _ _ _).1 hC;obtain⟨rows,er,hcells,hrow⟩:=zlB zaC l _ hC2;rw[List.length_map]at hv hcells hle;rw[hv];have hgS:g∈S 0:=by rw[hs]; simp
  have hbg:bx≠g:=fun h=>by
   have:=hm.sep 3 0 bx (by rw[r2]; simp) (by rw[h]; exact hgS);cases this
  by_cases hl0:l=[]
  ·subst hl0;refine(zmh (some ⟨g,0,none⟩) cap _ W).mono ?_;rintro e W' ⟨rfl,rfl⟩;exact fin g hgS W' (cap*4) 0 cap (Nat.zero_le _) hcap ⟨rfl,rfl,rfl,Nat.le_refl _,fun _ _ _=>rfl,cur,hg,hcur⟩ (.inl ⟨rfl,fun i h=>by simp at h⟩)
  have hn:0<l.length:=List.length_pos_iff.2 hl0;have:Inhabited (Fin l.length):=⟨⟨0,hn⟩⟩;obtain⟨enc,henc⟩: ∃enc:Fin l.length->List Value,∀i,enc i=rows[i.1]'(by omega):=⟨fun i=>rows[i.1]'(by omega),fun _=>rfl⟩;have hrd: ∀i:Fin l.length,zav W F (zaC l[i.1]) (enc i):=fun i=>by rw[henc]; exact hrow i.1 i.2 (by omega)
  have hlen: ∀x:Module,(zaC x).length =4:=fun x=>rfl;have hek: ∀i,(enc i).length =4:=fun i=>by rw[zav.length _ _ (hrd i),hlen]
  have he1: ∀i,∀v∈enc i,v.oneCell'=true:=fun i=>zg6 _ _ (hrd i) (zyq _);obtain⟨d,hd⟩: ∃d:Array (Fin l.length),d=(List.finRange l.length).toArray :=⟨_,rfl⟩;have hdl:d.toList=List.finRange l.length:=by rw[hd]
  have hdz:d.size=l.length:=by rw[hd]; simp
  have hda: ∀j (h:j<l.length),d[j]! =⟨j,h⟩:=fun j h=>by
   rw[getElem!_pos d j (by omega)];simp[hd]
  have hfm:d.toList.flatMap enc=rows.flatten:=by
   rw[hdl,List.flatMap];congr 1;apply List.ext_getElem (by simp[er]);intro i h1 h2;simp[henc]
  have hsz:(flatK enc 4 d).size =l.length*4:=by simp[hdz]
  have hcur':l.length*4<=cur.size:=by rw[hcur]; exact Nat.mul_le_mul_right _ hle
  have hH:HoldsK enc 4 W g 0 d:=by
   intro j hj;rw[hsz]at hj;have hjc:j<cur.size:=by omega
   have e2:cur[j]? =(flatK enc 4 d)[j]? :=by
    have h1:=congrArg (fun x=>x[j]?) hcells;rw[<-hfm,<-zjv enc 4 (by omega) hek]at h1;simp only[List.getElem?_take,hj,if_true,Array.getElem?_toList]at h1;exact h1
   refine⟨?_,by simp[World.frozen?,hg]⟩;simp only[World.cell?,hg,Nat.zero_add];have:(flatK enc 4 d)[j]! =(flatK enc 4 d)[j]'(by rw[hsz]; exact hj):=getElem!_pos _ j (by rw[hsz]; exact hj);simp only[id,this];rw[show(({block:=g,off:=j,spot:=none}:Addr).spot.isSome)=false from rfl];simp only[Bool.false_eq_true,if_false,e2];rw[Array.getElem?_eq_getElem]
  have hcw:=zsn (P:=Tryz.prog) rfl enc 4 rfl hek he1 (fun a b=>zy2 l[a.1].name l[b.1].name ==0) 114 #[.pointer (some ⟨bx,0,none⟩)] g 0 cap (cap*4) d W (fun bs w=>Tryz.call114 bs w)
   (fun wr hfr x y=>by
    have hb2:wr.cell? ⟨bx,0,none⟩=some (.func (.func 57) #[] #[]):=by
     rw[<-hbx];simp only[World.cell?,hfr.same bx hbW hbg]
    refine sameModule_w (P:=Tryz.prog) rfl 4 rfl (enc x).toArray (enc y).toArray (by simpa using hek x) (by simpa using hek y) _ bx wr hb2 (fun w=> ?_);exact module_x l[x.1] l[y.1] (enc x) (enc y) (hrd x) (hrd y) w) hH ⟨cur,hg,hcur⟩ (by omega) hcap (by omega)
  rw[hdz]at hcw;refine hcw.mono ?_;rintro e' W' ⟨m,rfl,hfr,hd2⟩;rw[hdz]at hd2;have hkey: ∀j (h:j+1<l.length),((fun a b:Fin l.length=>zy2 l[a.1].name l[b.1].name ==0) d[j+1]! d[j]! =true)↔Module.name l[j+1]=Module.name l[j]:=fun j h=>by
   rw[hda (j+1) h,hda j (by omega)];simp only[beq_iff_eq];exact zoY _ _
  refine fin g hgS W' _ m cap ?_ hcap hfr ?_
  ·rcases hd2 with⟨h,_⟩ | ⟨h,_⟩ <;> omega
  ·rcases hd2 with⟨h,h'⟩ | ⟨h,j,hj,h'⟩
   ·refine .inl ⟨h,fun j hj hc=> ?_⟩;have:=h' j hj;rw[(hkey j hj).2 hc]at this;cases this
   ·exact .inr ⟨h,j,hj,(hkey j hj).1 h'⟩
end
theorem adj_nodup{α κ:Type}{lt:κ->κ->Bool}{key:α->κ}(o:TOrd lt){l l':List α}(hp:l.Perm l')(hs:l'.Pairwise fun x y=>lt (key y) (key x)=false):(∀i (h:i+1<l'.length),key l'[i+1]≠key l'[i])↔(l.map key).Nodup :=by
 rw[(hp.map key).nodup_iff];constructor
 ·intro h;rw[List.nodup_iff_pairwise_ne,List.pairwise_iff_getElem];intro i j hi hj hij e;rw[List.length_map]at hi hj;simp only[List.getElem_map]at e;have hp':=List.pairwise_iff_getElem.1 hs;by_cases hj1:j=i+1
  ·subst hj1; exact h i hj e.symm
  ·have h1:=hp' i (i+1) hi (by omega) (by omega);have h2:=hp' (i+1) j (by omega) hj (by omega);rw[<-e]at h2;exact h i (by omega) (o.conn _ _ h1 h2)
 ·intro h i hi e;rw[List.nodup_iff_pairwise_ne,List.pairwise_iff_getElem]at h;have:=h i (i+1) (by rw[List.length_map]; omega) (by rw[List.length_map]; omega) (by omega);simp only[List.getElem_map]at this;exact this e.symm
theorem uniqueItem_g(l:List Item)(hl:l.length<=4000000):FnP Tryz.prog 52 [.sl (l.map zaK),.clo (.func 53) [] []] (.d (eB (decide (l.map zbg).Nodup))) []:=by
 refine FnP.of_eC (own:=[]) (fun i=>if i=2001 then [.flt ⟨[(0,none),(1,none),(2,none),(3,some []),(4,none)]⟩ ⟨[],[]⟩]else []) zat Tryz.func52 rfl Tryz.call52 Tryz.ntmps52 (Nat.le_of_ble_eq_true rfl) Tryz.results52 (fun hok=> ?_);have vc:=zrk l;simp(maxSteps:=4000000) only[ZE,↓reduceIte,pE,pL,pA,pS,pM,pD,zN,qT,qG,qL,qH,qN,qB,qE,qO,qA,qM];refine⟨by kernel_rfl,zaz.i vc ?_⟩;simp(maxSteps:=4000000) only[ZE,↓reduceIte,pE,pL,pA,pS,pM,pD,zN,qT,qG,qL,qH,qN,qB,qE,qO,qA,qM];refine EFn.gV [(90,90)] (sortedItem_c l hl) ?_ ?_
 ·simp(maxSteps:=4000000) only[ZE,↓reduceIte,pE,pL,pA,pS,pM,pD]
 rintro V ol new ⟨rfl,⟨l',hp,hs,rfl⟩,rfl⟩;have hn:=adj_nodup zuJ hp (hs.imp fun{a b} h=>not_cmpP h);have hll:l'.length=l.length:=hp.length_eq.symm;have cc:=zwI l' (by omega);rw[hll]at cc;simp only[zrD]at cc;simp(maxSteps:=4000000) only[ZE,↓reduceIte,pE,pL,pA,pS,pM,pD,zN,qT,qG,qL,qH,qN,qB,qE,qO,qA,qM];refine EFn.gV [(0,90),(3,3)] cc ?_ ?_
 ·simp(maxSteps:=4000000) only[ZE,↓reduceIte,pE,pL,pA,pS,pM,pD]
 rintro V ol new ⟨m,rfl,rfl,rfl,hd⟩;have hd2:((m:Int)==(l.length:Int))=decide (l.map zbg).Nodup :=by
  rw[Bool.eq_iff_iff,beq_iff_eq,decide_eq_true_eq,<-hn];rcases hd with⟨h,h'⟩ | ⟨h,i,hi,h'⟩
  ·exact⟨fun _=>h',fun _=>by omega⟩
  ·exact⟨fun e=>by omega,fun h2=>absurd h' (h2 i hi)⟩
 simp only[zrD];simp(maxSteps:=4000000) only[ZE,↓reduceIte,pE,pL,pA,pS,pM,pD,zN,qT,qG,qL,qH,qN,qB,qE,qO,qA,qM,List.length_replicate,List.length_map,hd2]
theorem zvd(l:List Module)(hl:l.length<=4000000):FnP Tryz.prog 56 [.sl (l.map zaC),.clo (.func 57) [] []] (.d (eB (decide (l.map Module.name).Nodup))) []:=by
 refine FnP.of_eC (own:=[]) (fun i=>if i=2001 then [.flt ⟨[(0,none),(1,none),(2,none),(3,some []),(4,none)]⟩ ⟨[],[]⟩]else []) zat Tryz.func56 rfl Tryz.call56 Tryz.ntmps56 (Nat.le_of_ble_eq_true rfl) Tryz.results56 (fun hok=> ?_);have vc:=znZ l;simp(maxSteps:=4000000) only[ZE,↓reduceIte,pE,pL,pA,pS,pM,pD,zN,qT,qG,qL,qH,qN,qB,qE,qO,qA,qM];refine⟨by kernel_rfl,zaz.i vc ?_⟩;simp(maxSteps:=4000000) only[ZE,↓reduceIte,pE,pL,pA,pS,pM,pD,zN,qT,qG,qL,qH,qN,qB,qE,qO,qA,qM];refine EFn.gV [(90,90)] (znX l hl) ?_ ?_
 ·simp(maxSteps:=4000000) only[ZE,↓reduceIte,pE,pL,pA,pS,pM,pD]
 rintro V ol new ⟨rfl,⟨l',hp,hs,rfl⟩,rfl⟩;have hn:=adj_nodup zrt hp (hs.imp fun{a b} h=>zy6 h);have hll:l'.length=l.length:=hp.length_eq.symm;have cc:=zsm l' (by omega);rw[hll]at cc;simp only[zrD]at cc;simp(maxSteps:=4000000) only[ZE,↓reduceIte,pE,pL,pA,pS,pM,pD,zN,qT,qG,qL,qH,qN,qB,qE,qO,qA,qM];refine EFn.gV [(0,90),(3,3)] cc ?_ ?_
 ·simp(maxSteps:=4000000) only[ZE,↓reduceIte,pE,pL,pA,pS,pM,pD]
 rintro V ol new ⟨m,rfl,rfl,rfl,hd⟩;have hd2:((m:Int)==(l.length:Int))=decide (l.map Module.name).Nodup :=by
  rw[Bool.eq_iff_iff,beq_iff_eq,decide_eq_true_eq,<-hn];rcases hd with⟨h,h'⟩ | ⟨h,i,hi,h'⟩
  ·exact⟨fun _=>h',fun _=>by omega⟩
  ·exact⟨fun e=>by omega,fun h2=>absurd h' (h2 i hi)⟩
 simp only[zrD];simp(maxSteps:=4000000) only[ZE,↓reduceIte,pE,pL,pA,pS,pM,pD,zN,qT,qG,qL,qH,qN,qB,qE,qO,qA,qM,List.length_replicate,List.length_map,hd2]
theorem zii(f:List Module)(hl:f.length<=4000000)(hi: ∀m∈f,m.items.length<=4000000):FnP Tryz.prog 17 [.agg [zax f]] (.d (eB (ze8 f))) []:=by
 refine FnP.of_eC (own:=[]) (fun _=>[]) zat Tryz.func17 rfl Tryz.call17 Tryz.ntmps17 (Nat.le_of_ble_eq_true rfl) Tryz.results17 (fun hok=> ?_);have uc:=zvd f hl;simp only[ZE,↓reduceIte,pE,pL,pA,pS,pM,pD,zN,qT,qG,qL,qH,qN,qB,qE,qO,qA,qM];refine za1 (fun _=>[]) zat f.length (fun i=> ∀j (_:j<i) (h:j<f.length),(f[j].items.map zbg).Nodup /\ ∀x∈f[j].items,x.kind.1≠0) (fun i=>([(1,.bp 1 0),(6,.d (zax f)),(7,.d (eI f.length)),(8,.d (eI i))],[(1,.box [.d (zax f)])])) (by omega) (by simp only[ZE,↓reduceIte,pE,pL,pA,pS,pM,pD,zN,qT,qG,qL,qH,qN,qB,qE,qO,qA,qM,List.length_map]) (by simp only[ZE,↓reduceIte,pE,pL,pA,pS,pM,pD]) (fun i hii hI=> ?_);rcases Nat.lt_or_ge i f.length with h | h
 ·have hw:=zaq (show i<9223372036854775807 by omega);obtain⟨m,hm⟩:=zX (f[i]);have hmm:m∈f:=by rw[<-hm]; exact List.getElem_mem h
  have ui:=uniqueItem_g m.items (hi m hmm);have ci:=zzw m.items;by_cases hnd:(m.items.map zbg).Nodup
  ·rw[decide_eq_true hnd]at ui;cases ha:m.items.any zzz with
   | false=>
    rw[ha]at ci;simp(maxSteps:=4000000) only[ZE,↓reduceIte,pE,pL,pA,pS,pM,pD]at ui ci;simp(maxSteps:=4000000) only[ZE,↓reduceIte,pE,pL,pA,pS,pM,pD,zaw h,zaa h,zai h,hm,zN,qT,qG,qL,qH,qN,qB,qE,qO,qA,qM,List.length_map];refine EFn.p ?_;simp(maxSteps:=4000000) only[ZE,↓reduceIte,pE,pL,pA,pS,pM,pD,zN,qT,qG,qL,qH,qN,qB,qE,qO,qA,qM];refine zar.i ui ?_;simp(maxSteps:=4000000) only[ZE,↓reduceIte,pE,pL,pA,pS,pM,pD,zN,qT,qG,qL,qH,qN,qB,qE,qO,qA,qM];refine EFn.p ?_;simp(maxSteps:=4000000) only[ZE,↓reduceIte,pE,pL,pA,pS,pM,pD,zN,qT,qG,qL,qH,qN,qB,qE,qO,qA,qM];refine zar.i ci ?_;simp(maxSteps:=4000000) only[ZE,↓reduceIte,pE,pL,pA,pS,pM,pD,zN,qT,qG,qL,qH,qN,qB,qE,qO,qA,qM,hw];refine⟨h,fun j hj hj'=> ?_⟩;rcases Nat.lt_succ_iff_lt_or_eq.1 hj with hj | rfl
    ·exact hI j hj hj'
    ·rw[hm];refine⟨hnd,fun x hx h0=> ?_⟩;have:=List.any_eq_false.1 ha x hx;exact this (by simp[zzz,h0])
   | true=>
    have hf:ze8 f=false:=by
     cases hq:ze8 f with
     | false=>rfl
     | true=>
      obtain⟨x,hx,hk⟩:=List.any_eq_true.1 ha;exact absurd (by simpa [zzz]using hk) (((zbU f).1 hq).kinds m hmm x hx)
    rw[hf];rw[ha]at ci;simp(maxSteps:=4000000) only[ZE,↓reduceIte,pE,pL,pA,pS,pM,pD]at ui ci;simp(maxSteps:=4000000) only[ZE,↓reduceIte,pE,pL,pA,pS,pM,pD,zaw h,zaa h,zai h,hm,zN,qT,qG,qL,qH,qN,qB,qE,qO,qA,qM,List.length_map];refine EFn.p ?_;simp(maxSteps:=4000000) only[ZE,↓reduceIte,pE,pL,pA,pS,pM,pD,zN,qT,qG,qL,qH,qN,qB,qE,qO,qA,qM];refine zar.i ui ?_;simp(maxSteps:=4000000) only[ZE,↓reduceIte,pE,pL,pA,pS,pM,pD,zN,qT,qG,qL,qH,qN,qB,qE,qO,qA,qM];refine EFn.p ?_;simp(maxSteps:=4000000) only[ZE,↓reduceIte,pE,pL,pA,pS,pM,pD,zN,qT,qG,qL,qH,qN,qB,qE,qO,qA,qM];refine zar.i ci ?_;simp(maxSteps:=4000000) only[ZE,↓reduceIte,pE,pL,pA,pS,pM,pD,zN,qT,qG,qL,qH,qN,qB,qE,qO,qA,qM,hw]
  ·have hf:ze8 f=false:=by
    cases hq:ze8 f with
    | false=>rfl
    | true=>exact absurd (((zbU f).1 hq).parts m hmm) hnd
   rw[hf];rw[decide_eq_false hnd]at ui;simp(maxSteps:=4000000) only[ZE,↓reduceIte,pE,pL,pA,pS,pM,pD]at ui;simp(maxSteps:=4000000) only[ZE,↓reduceIte,pE,pL,pA,pS,pM,pD,zaw h,zaa h,zai h,hm,zN,qT,qG,qL,qH,qN,qB,qE,qO,qA,qM,List.length_map];refine EFn.p ?_;simp(maxSteps:=4000000) only[ZE,↓reduceIte,pE,pL,pA,pS,pM,pD,zN,qT,qG,qL,qH,qN,qB,qE,qO,qA,qM];refine zar.i ui ?_;simp(maxSteps:=4000000) only[ZE,↓reduceIte,pE,pL,pA,pS,pM,pD,zN,qT,qG,qL,qH,qN,qB,qE,qO,qA,qM]
 ·have hf:ze8 f=decide (f.map Module.name).Nodup :=by
   rw[Bool.eq_iff_iff,decide_eq_true_eq,zbU];refine⟨fun hq=>hq.names,fun hq=>⟨hq,fun m hm=> ?_,fun m hm=> ?_⟩⟩
   ·obtain⟨j,hj,rfl⟩:=List.getElem_of_mem hm;exact(hI j (by omega) hj).1
   ·obtain⟨j,hj,rfl⟩:=List.getElem_of_mem hm;exact(hI j (by omega) hj).2
  rw[hf];simp(maxSteps:=4000000) only[ZE,↓reduceIte,pE,pL,pA,pS,pM,pD,zaI h,zN,qT,qG,qL,qH,qN,qB,qE,qO,qA,qM,List.length_map];refine EFn.p ?_;simp(maxSteps:=4000000) only[ZE,↓reduceIte,pE,pL,pA,pS,pM,pD,zN,qT,qG,qL,qH,qN,qB,qE,qO,qA,qM];refine zar.i uc ?_;simp(maxSteps:=4000000) only[ZE,↓reduceIte,pE,pL,pA,pS,pM,pD,zN,qT,qG,qL,qH,qN,qB,qE,qO,qA,qM]
/-! ### How many edits there are -/
theorem zot{α κ β:Type}{lt:κ->κ->Bool}{key:α->κ}{g c:α->List β}{b:α->α->List β}{w:α->Nat}(hg: ∀x,(g x).length <=w x)(hc: ∀x,(c x).length <=w x)(hb: ∀x y,(b x y).length <=w x+w y): ∀(n:Nat) (xs ys:List α),(zyn lt key g c b n xs ys).length <=(xs.map w).sum +(ys.map w).sum
 | 0,_,_=>by simp[zyn]
 | n+1,[],[]=>by simp[zyn]
 | n+1,x::xs,[]=>by
  have h1:=hg x;have h2:=zot hg hc hb (lt:=lt) (key:=key) n xs [];simp only[zyn,List.length_append,List.map_cons,List.sum_cons,List.map_nil,List.sum_nil]at*;omega
 | n+1,[],y::ys=>by
  have h1:=hc y;have h2:=zot hg hc hb (lt:=lt) (key:=key) n [] ys;simp only[zyn,List.length_append,List.map_cons,List.sum_cons,List.map_nil,List.sum_nil]at*;omega
 | n+1,x::xs,y::ys=>by
  have h1:=hg x;have h2:=hc y;have h3:=hb x y;have h4:=zot hg hc hb (lt:=lt) (key:=key) n xs (y::ys);have h5:=zot hg hc hb (lt:=lt) (key:=key) n (x::xs) ys;have h6:=zot hg hc hb (lt:=lt) (key:=key) n xs ys;simp only[zyn,List.map_cons,List.sum_cons]at*;split
  ·rw[List.length_append]; omega
  split
  ·rw[List.length_append]; omega
  ·rw[List.length_append]; omega
theorem ones_sum{α:Type}(l:List α):(l.map fun _=>1).sum =l.length:=by
 induction l with
 | nil=>rfl
 | cons x l ih=>simp[ih]; omega
theorem zs9(n:Str)(a b:List Item):(zs8 n a b).length <=a.length+b.length:=by
 have h:=zot (lt:=ltP) (key:=zbg) (g:=fun x=>[zyw n x]) (c:=fun y=>[zco n y]) (b:=fun x y=>if zlG x y=true then []else [zco n y]) (w:=fun _=>1) (fun _=>Nat.le_refl _) (fun _=>Nat.le_refl _) (fun x y=>by split <;> simp) (a.length+b.length) a b;rw[ones_sum,ones_sum]at h;exact h
def wM(m:Module):Nat:=m.items.length+1
theorem zz6(a b:List Module):(zyJ a b).length <=(a.map wM).sum +(b.map wM).sum :=
 zot (fun m=>by
  have:=zs9 m.name m.items [];simp only[List.length_append,List.length_cons,List.length_nil,wM]at*;omega) (fun m=>by
  have:=zs9 m.name [] m.items;simp only[List.length_cons,List.length_nil,wM]at*;omega) (fun x y=>by
  have:=zs9 y.name x.items y.items;have h2:(headD x y).length <=1:=by unfold headD; split <;> simp
  simp only[List.length_append,wM]at*;omega) _ a b
theorem zwe{α:Type}{w:α->Nat}{k:Nat}: ∀ {l:List α},(∀m∈l,w m<=k)->(l.map w).sum <=l.length*k
 | [],_=>by simp
 | x::l,h=>by
  have h1:=h x List.mem_cons_self;have h2:=zwe (w:=w) (k:=k) (l:=l) (fun m hm=>h m (List.mem_cons_of_mem _ hm));rw[List.map_cons,List.sum_cons,List.length_cons,Nat.add_mul,Nat.one_mul];omega
/-! ### Small files -/
structure Sm (f:List Module):Prop where
 part:Parted f
 len:f.length<=2
 items: ∀m∈f,m.items.length<=100
theorem Sm.nok{f:List Module}(h:Sm f):NOk f:=⟨h.part.names,h.part.parts,by have:=h.len; omega,fun m hm=>by have:=h.items m hm; omega⟩
theorem Sm.good{f:List Module}(h:Sm f):Good (zcC f):=ziv h.part
theorem ziX{f:List Module}{k:Nat}(h: ∀m∈f,m.items.length<=k): ∀m∈zcC f,m.items.length<=k:=fun m hm=>by
 unfold zcC at hm;obtain⟨q,hq,rfl⟩:=List.mem_map.1 hm;have:=h q ((zcn f).mem_iff.1 hq);show(zl7 ltP zbg q.items).length <=k;rw[(zcn q.items).length_eq]; exact this
theorem Sm.sum{f:List Module}(h:Sm f):((zcC f).map wM).sum <=202:=by
 have h1:=zwe (w:=wM) (k:=101) (l:=zcC f) (fun m hm=>by have:=ziX h.items m hm; unfold wM; omega);have h2:=zyb f;have h3:=h.len;rw[h2]at h1;have:f.length*101<=2*101:=Nat.mul_le_mul_right _ h3;omega
theorem Sm.diff{f g:List Module}(h:Sm f)(h':Sm g):(zrp f g).length <=404:=by
 have:=zz6 (zcC f) (zcC g);have:=h.sum;have:=h'.sum;unfold zrp;omega
theorem znB(x:Raw)(l:List K4):Sm (zna x l):=by
 have h:=zyd x l;exact⟨(zbU _).1 h.part,h.len,fun m hm=>by have:=(h.fine m hm).items; omega⟩
theorem Sm.stb{f:List Module}(h:Sm f):StB 100 (zcC f):=⟨h.good,by rw[zyb]; have:=h.len; omega,ziX h.items⟩
theorem stb_fold: ∀(es:List Edit) {n:Nat} {s s':List Module},StB n s->es.foldlM zx4 s=some s'->StB (n+es.length) s'
 | [],n,s,s',h,hs=>by cases hs; exact h
 | e::es,n,s,s',h,hs=>by
  rw[List.foldlM_cons]at hs;cases h1:zx4 s e with
  | none=>rw[h1]at hs; cases hs
  | some s1=>
   rw[h1]at hs;have:=stb_fold es (h.step h1) hs;rw[List.length_cons,show n+(es.length+1)=n+1+es.length by omega]; exact this
theorem Sm.stbA{f g:List Module}(h:Sm f){es:List Edit}(hg:zoS f es=some g):StB (100+es.length) g:=stb_fold es h.stb hg
theorem StB.nok{n:Nat}{g:List Module}(h:StB n g)(hn:n<=4000000):NOk g:=⟨Srt.nodup zrt h.good.srt,fun m hm=>Srt.nodup zuJ (h.good.parts m hm),by have:=h.len; omega,fun m hm=>by have:=h.items m hm; omega⟩
def appD(r:Option (List Module)):D:=
 match r with
 | some s=>.agg [zax s,eI 0]
 | none=>.agg [.sl [],eI 160]
theorem Sm.apply{a:List Module}(h:Sm a)(es:List Edit)(he:es.length<=1000):FnP Tryz.prog 46 [.agg [zax a],.sl (es.map zfN)] (zyp (zoS a es)) []:=
 zz5 a h.nok h.good es 100 ⟨by have:=h.len; omega,h.items⟩ (by omega)
theorem zj3(a:List Module)(h:Sm a)(es:List Edit)(he:es.length<=1000):FnP Tryz.prog 26 [.agg [zax a],.sl (es.map zfN)] (.d (appD (zoS a es))) []:=by
 refine FnP.of_eC (own:=[]) (fun _=>[]) zat Tryz.func26 rfl Tryz.call26 Tryz.ntmps26 (Nat.le_of_ble_eq_true rfl) Tryz.results26 (fun hok=> ?_);have ac:=h.apply es he;cases hr:zoS a es with
 | none=>
  rw[hr]at ac;simp only[zyp,ZE,↓reduceIte,pE,pL,pA,pS,pM,pD]at ac;simp(maxSteps:=4000000) only[ZE,↓reduceIte,pE,pL,pA,pS,pM,pD,zN,qT,qG,qL,qH,qN,qB,qE,qO,qA,qM];refine EFn.p ?_;simp(maxSteps:=4000000) only[ZE,↓reduceIte,pE,pL,pA,pS,pM,pD,zN,qT,qG,qL,qH,qN,qB,qE,qO,qA,qM];refine zar.i ac ?_;simp(maxSteps:=4000000) only[ZE,↓reduceIte,pE,pL,pA,pS,pM,pD,zN,qT,qG,qL,qH,qN,qB,qE,qO,qA,qM,appD]
 | some s=>
  rw[hr]at ac;simp only[zyp,ZE,↓reduceIte,pE,pL,pA,pS,pM,pD]at ac;simp(maxSteps:=4000000) only[ZE,↓reduceIte,pE,pL,pA,pS,pM,pD,zN,qT,qG,qL,qH,qN,qB,qE,qO,qA,qM];refine EFn.p ?_;simp(maxSteps:=4000000) only[ZE,↓reduceIte,pE,pL,pA,pS,pM,pD,zN,qT,qG,qL,qH,qN,qB,qE,qO,qA,qM];refine zar.i ac ?_;simp(maxSteps:=4000000) only[ZE,↓reduceIte,pE,pL,pA,pS,pM,pD,zN,qT,qG,qL,qH,qN,qB,qE,qO,qA,qM,appD]
def invR(r:Option (List Edit)):AV:=
 match r with
 | some l=>.tup [.d (.sl (l.map zfN)),.d (eI 0)]
 | none=>.tup [.d (.sl []),.d (eI 160)]
theorem invert_c(a:List Module)(h:Sm a)(es:List Edit)(he:es.length<=1000):FnP Tryz.prog 82 [.agg [zax a],.sl (es.map zfN)] (invR (zs0 a es)) []:=by
 refine FnP.of_eC (own:=[]) (fun _=>[]) zat Tryz.func82 rfl Tryz.call82 Tryz.ntmps82 (Nat.le_of_ble_eq_true rfl) Tryz.results82 (fun hok=> ?_);have ac:=h.apply es he;unfold zs0;cases hr:zoS a es with
 | none=>
  rw[hr]at ac;simp only[zyp,ZE,↓reduceIte,pE,pL,pA,pS,pM,pD]at ac;simp(maxSteps:=4000000) only[ZE,↓reduceIte,pE,pL,pA,pS,pM,pD,zN,qT,qG,qL,qH,qN,qB,qE,qO,qA,qM];refine EFn.p ?_;simp(maxSteps:=4000000) only[ZE,↓reduceIte,pE,pL,pA,pS,pM,pD,zN,qT,qG,qL,qH,qN,qB,qE,qO,qA,qM];refine zar.i ac ?_;simp(maxSteps:=4000000) only[ZE,↓reduceIte,pE,pL,pA,pS,pM,pD,zN,qT,qG,qL,qH,qN,qB,qE,qO,qA,qM,invR]
 | some g=>
  rw[hr]at ac;have hb:=h.stbA hr;have hl:(zrp g a).length <=4000000:=by
   have h1:=zz6 (zcC g) (zcC a);have h2:=h.sum;rw[zks hb.good]at h1;have h3:=zwe (w:=wM) (k:=1101) (l:=g) (fun m hm=>by have:=hb.items m hm; unfold wM; omega);have h4:g.length*1101<=1100*1101:=Nat.mul_le_mul_right _ (by have:=hb.len; omega);unfold zrp;rw[zks hb.good];omega
  have dc:=zsv g a (hb.nok (by omega)) h.nok hl;simp only[zyp,ZE,↓reduceIte,pE,pL,pA,pS,pM,pD]at ac;simp(maxSteps:=4000000) only[ZE,↓reduceIte,pE,pL,pA,pS,pM,pD]at dc;simp(maxSteps:=4000000) only[ZE,↓reduceIte,pE,pL,pA,pS,pM,pD,zN,qT,qG,qL,qH,qN,qB,qE,qO,qA,qM];refine EFn.p ?_;simp(maxSteps:=4000000) only[ZE,↓reduceIte,pE,pL,pA,pS,pM,pD,zN,qT,qG,qL,qH,qN,qB,qE,qO,qA,qM];refine zar.i ac ?_;simp(maxSteps:=4000000) only[ZE,↓reduceIte,pE,pL,pA,pS,pM,pD,zN,qT,qG,qL,qH,qN,qB,qE,qO,qA,qM];refine EFn.p ?_;simp(maxSteps:=4000000) only[ZE,↓reduceIte,pE,pL,pA,pS,pM,pD,zN,qT,qG,qL,qH,qN,qB,qE,qO,qA,qM];refine zar.i dc ?_;simp(maxSteps:=4000000) only[ZE,↓reduceIte,pE,pL,pA,pS,pM,pD,zN,qT,qG,qL,qH,qN,qB,qE,qO,qA,qM,invR]
def invD(r:Option (List Edit)):D:=
 match r with
 | some l=>.agg [.sl (l.map zfN),eI 0]
 | none=>.agg [.sl [],eI 160]
theorem zqn(a:List Module)(h:Sm a)(es:List Edit)(he:es.length<=1000):FnP Tryz.prog 28 [.agg [zax a],.sl (es.map zfN)] (.d (invD (zs0 a es))) []:=by
 refine FnP.of_eC (own:=[]) (fun _=>[]) zat Tryz.func28 rfl Tryz.call28 Tryz.ntmps28 (Nat.le_of_ble_eq_true rfl) Tryz.results28 (fun hok=> ?_);have ac:=invert_c a h es he;cases hr:zs0 a es with
 | none=>
  rw[hr]at ac;simp only[invR,ZE,↓reduceIte,pE,pL,pA,pS,pM,pD]at ac;simp(maxSteps:=4000000) only[ZE,↓reduceIte,pE,pL,pA,pS,pM,pD,zN,qT,qG,qL,qH,qN,qB,qE,qO,qA,qM];refine EFn.p ?_;simp(maxSteps:=4000000) only[ZE,↓reduceIte,pE,pL,pA,pS,pM,pD,zN,qT,qG,qL,qH,qN,qB,qE,qO,qA,qM];refine zar.i ac ?_;simp(maxSteps:=4000000) only[ZE,↓reduceIte,pE,pL,pA,pS,pM,pD,zN,qT,qG,qL,qH,qN,qB,qE,qO,qA,qM,invD]
 | some s=>
  rw[hr]at ac;simp only[invR,ZE,↓reduceIte,pE,pL,pA,pS,pM,pD]at ac;simp(maxSteps:=4000000) only[ZE,↓reduceIte,pE,pL,pA,pS,pM,pD,zN,qT,qG,qL,qH,qN,qB,qE,qO,qA,qM];refine EFn.p ?_;simp(maxSteps:=4000000) only[ZE,↓reduceIte,pE,pL,pA,pS,pM,pD,zN,qT,qG,qL,qH,qN,qB,qE,qO,qA,qM];refine zar.i ac ?_;simp(maxSteps:=4000000) only[ZE,↓reduceIte,pE,pL,pA,pS,pM,pD,zN,qT,qG,qL,qH,qN,qB,qE,qO,qA,qM,invD]
theorem zrL(l:List Item):FnP Tryz.prog 47 [.sl (l.map zaK)] (.d (.agg [zax [⟨sM,zxC,[],l⟩]])) []:=by
 refine FnP.of_eC (own:=[]) (fun _=>[]) zat Tryz.func47 rfl Tryz.call47 Tryz.ntmps47 (Nat.le_of_ble_eq_true rfl) Tryz.results47 (fun hok=> ?_);simp(maxSteps:=4000000) only[ZE,↓reduceIte,pE,pL,pA,pS,pM,pD,zN,qT,qG,qL,qH,qN,qB,qE,qO,qA,qM,sM,zxC,st,List.map_cons,List.map_nil]
def exR:Item:=⟨⟨4,rfl⟩,st [114],zbj,zbj,zbj,zbQ,zbQ,zbQ,zaU.rule,emp,[],[]⟩
def exS:Item:=⟨⟨4,rfl⟩,st [114],zbj,zbj,⟨1,emp⟩,zbQ,zbQ,zbQ,zaU.rule,emp,[],[]⟩
def exT:Item:=⟨⟨5,rfl⟩,st [116],zbj,zbj,zbj,zbQ,zbQ,zbQ,zaU.rule,emp,[],[]⟩
def exM(l:List Item):List Module:=[⟨sM,zxC,[],l⟩]
theorem ex1:zrp (exM [exR]) (exM [exT,exS])=[zco sM exS,zco sM exT]:=by kernel_rfl
theorem ex2:zrp [] (exM [exT,exS])=[zx7 ⟨sM,zxC,[],[]⟩,zco sM exS,zco sM exT]:=by kernel_rfl
theorem ex3:zcC (exM [exT,exS])=exM [exS,exT]:=by kernel_rfl
theorem ex4:zs0 [] [zx7 ⟨sM,zxC,[],[]⟩,zco sM exS,zco sM exT]=some [zyw sM exS,zyw sM exT,zuR sM]:=by kernel_rfl
theorem ex5:ze8 (exM [exT,exS])=true:=by kernel_rfl
theorem ex6:ze8 (exM [exR,exS])=false:=by kernel_rfl
theorem ex7:zl6 (exM [exS,exT]) (exM [exS,exT])=true:=by kernel_rfl
theorem ex8:zl6 (exM [exS,exT]) (exM [exT,exS])=false:=by kernel_rfl
theorem ex9:(zoS (exM [exR]) [zco sM exS,zco sM exT]).isSome =true:=by kernel_rfl
theorem ex10:zoS [] [zco sM exS,zco sM exT]=none:=by kernel_rfl
theorem ex11:ze8 (exM [exR])=true:=by kernel_rfl
theorem sm_ex(l:List Item)(h:ze8 (exM l)=true)(hl:l.length<=100):Sm (exM l):=⟨(zbU _).1 h,by simp[exM],fun m hm=>by simp[exM]at hm; subst hm; exact hl⟩
theorem sm_nil:Sm []:=⟨(zbU _).1 (by kernel_rfl),by simp,by simp⟩
theorem zcv:FnP Tryz.prog 14 [] (.d (eB true)) []:=by
 refine FnP.of_eC (own:=[]) (fun i=>if i=2003 then [.flt ⟨[(0,none),(1,none),(2,none),(3,none),(4,none),(5,none),(6,none),(9,some []),(10,some [])]⟩ ⟨[7,8],[(9,[7]),(10,[8])]⟩]else if i=2010 then [.ord ⟨[(0,none),(1,none),(2,none),(3,none),(4,none),(5,none),(6,none),(7,none),(8,none),(9,none),(10,none),(11,none),(12,none),(13,none),(14,none),(15,none),(16,none),(17,none),(18,none),(19,none),(20,none),(21,none),(22,none),(23,none),(24,none),(25,none),(26,none),(27,none),(28,none),(29,none),(30,none),(31,none),(32,none),(33,none),(34,none),(35,none),(36,none),(37,none),(38,none),(39,none),(40,none),(41,none),(42,none),(43,none)]⟩]else []) zat Tryz.func14 rfl Tryz.call14 Tryz.ntmps14 (Nat.le_of_ble_eq_true rfl) Tryz.results14 (fun hok=> ?_);have smA:=sm_ex [exR] ex11 (by simp);have smB:=sm_ex [exT,exS] ex5 (by simp);have m1:=zrL [exR];have m2:=zrL [exT,exS];have d1:=zsv (exM [exR]) (exM [exT,exS]) smA.nok smB.nok (by rw[ex1]; simp);rw[ex1]at d1;have n1:=zih (exM [exT,exS]) smB.nok.names smB.nok.parts smB.nok.len smB.nok.items;rw[ex3]at n1;have d2:=zsv [] (exM [exT,exS]) sm_nil.nok smB.nok (by rw[ex2]; simp);rw[ex2]at d2;have v1:=zqn [] sm_nil [zx7 ⟨sM,zxC,[],[]⟩,zco sM exS,zco sM exT] (by simp);rw[ex4]at v1;have m3:=zrL [exS,exT];have s1:=zh6 (exM [exS,exT]) (exM [exS,exT]);rw[ex7]at s1;have s2:=zh6 (exM [exS,exT]) (exM [exT,exS]);rw[ex8]at s2;have p1:=zii (exM [exT,exS]) (by simp[exM]) (by simp[exM]);rw[ex5]at p1;have m4:=zrL [exR,exS];have p2:=zii (exM [exR,exS]) (by simp[exM]) (by simp[exM]);rw[ex6]at p2;have a1:=zj3 (exM [exR]) smA [zco sM exS,zco sM exT] (by simp);obtain⟨g,hg⟩:=Option.isSome_iff_exists.1 ex9;rw[hg]at a1;have a2:=zj3 [] sm_nil [zco sM exS,zco sM exT] (by simp);rw[ex10]at a2;simp only[appD,invD]at v1 a1 a2;simp(maxSteps:=4000000) only[ZE,↓reduceIte,pE,pL,pA,pS,pM,pD,exR,exS,exT,exM,zco,zyw,zx7,zuR,zfN,zfX,zbg,zc7,sM,zxC,st,zbj,zbQ,zaU,zdP,emp,zcW,zbm,zgN,zgO,zbl,List.map_cons,List.map_nil]at m1 m2 d1 n1 d2 v1 m3 s1 s2 p1 m4 p2 a1 a2;clear smA smB;simp(maxSteps:=4000000) only[ZE,↓reduceIte,pE,pL,pA,pS,pM,pD,zN,qT,qG,qL,qH,qN,qB,qE,qO,qA,qM];refine⟨by kernel_rfl,zaz.i m1 ?_⟩;simp(maxSteps:=4000000) only[ZE,↓reduceIte,pE,pL,pA,pS,pM,pD,zN,qT,qG,qL,qH,qN,qB,qE,qO,qA,qM];refine zaz.i m2 ?_;simp(maxSteps:=4000000) only[ZE,↓reduceIte,pE,pL,pA,pS,pM,pD,zN,qT,qG,qL,qH,qN,qB,qE,qO,qA,qM];refine EFn.p ?_;simp(maxSteps:=4000000) only[ZE,↓reduceIte,pE,pL,pA,pS,pM,pD,zN,qT,qG,qL,qH,qN,qB,qE,qO,qA,qM];refine zar.i d1 ?_;simp(maxSteps:=4000000) only[ZE,↓reduceIte,pE,pL,pA,pS,pM,pD,zN,qT,qG,qL,qH,qN,qB,qE,qO,qA,qM];refine EFn.p ?_;simp(maxSteps:=4000000) only[ZE,↓reduceIte,pE,pL,pA,pS,pM,pD,zN,qT,qG,qL,qH,qN,qB,qE,qO,qA,qM];refine zar.i n1 ?_;simp(maxSteps:=4000000) only[ZE,↓reduceIte,pE,pL,pA,pS,pM,pD,zN,qT,qG,qL,qH,qN,qB,qE,qO,qA,qM];refine EFn.p ?_;simp(maxSteps:=4000000) only[ZE,↓reduceIte,pE,pL,pA,pS,pM,pD,zN,qT,qG,qL,qH,qN,qB,qE,qO,qA,qM];refine zar.i d2 ?_;simp(maxSteps:=4000000) only[ZE,↓reduceIte,pE,pL,pA,pS,pM,pD,zN,qT,qG,qL,qH,qN,qB,qE,qO,qA,qM];refine EFn.p ?_;simp(maxSteps:=4000000) only[ZE,↓reduceIte,pE,pL,pA,pS,pM,pD,zN,qT,qG,qL,qH,qN,qB,qE,qO,qA,qM];refine zar.i v1 ?_;simp(maxSteps:=4000000) only[ZE,↓reduceIte,pE,pL,pA,pS,pM,pD,zN,qT,qG,qL,qH,qN,qB,qE,qO,qA,qM]
 trace_state
 refine⟨by kernel_rfl,zaz.i m3 ?_⟩;simp(maxSteps:=4000000) only[ZE,↓reduceIte,pE,pL,pA,pS,pM,pD,zN,qT,qG,qL,qH,qN,qB,qE,qO,qA,qM];refine zaz.i s1 ?_;simp(maxSteps:=4000000) only[ZE,↓reduceIte,pE,pL,pA,pS,pM,pD,zN,qT,qG,qL,qH,qN,qB,qE,qO,qA,qM];refine zaz.i s2 ?_;simp(maxSteps:=4000000) only[ZE,↓reduceIte,pE,pL,pA,pS,pM,pD,zN,qT,qG,qL,qH,qN,qB,qE,qO,qA,qM];refine EFn.p ?_;simp(maxSteps:=4000000) only[ZE,↓reduceIte,pE,pL,pA,pS,pM,pD,zN,qT,qG,qL,qH,qN,qB,qE,qO,qA,qM];refine zar.i p1 ?_;simp(maxSteps:=4000000) only[ZE,↓reduceIte,pE,pL,pA,pS,pM,pD,zN,qT,qG,qL,qH,qN,qB,qE,qO,qA,qM];refine EFn.p ?_;simp(maxSteps:=4000000) only[ZE,↓reduceIte,pE,pL,pA,pS,pM,pD,zN,qT,qG,qL,qH,qN,qB,qE,qO,qA,qM];refine zar.i m4 ?_;simp(maxSteps:=4000000) only[ZE,↓reduceIte,pE,pL,pA,pS,pM,pD,zN,qT,qG,qL,qH,qN,qB,qE,qO,qA,qM];refine EFn.p ?_;simp(maxSteps:=4000000) only[ZE,↓reduceIte,pE,pL,pA,pS,pM,pD,zN,qT,qG,qL,qH,qN,qB,qE,qO,qA,qM];refine zar.i p2 ?_;simp(maxSteps:=4000000) only[ZE,↓reduceIte,pE,pL,pA,pS,pM,pD,zN,qT,qG,qL,qH,qN,qB,qE,qO,qA,qM];refine EFn.p ?_;simp(maxSteps:=4000000) only[ZE,↓reduceIte,pE,pL,pA,pS,pM,pD,zN,qT,qG,qL,qH,qN,qB,qE,qO,qA,qM];refine zar.i a1 ?_;simp(maxSteps:=4000000) only[ZE,↓reduceIte,pE,pL,pA,pS,pM,pD,zN,qT,qG,qL,qH,qN,qB,qE,qO,qA,qM];refine EFn.p ?_;simp(maxSteps:=4000000) only[ZE,↓reduceIte,pE,pL,pA,pS,pM,pD,zN,qT,qG,qL,qH,qN,qB,qE,qO,qA,qM];refine zar.i a2 ?_;simp(maxSteps:=4000000) only[ZE,↓reduceIte,pE,pL,pA,pS,pM,pD,zN,qT,qG,qL,qH,qN,qB,qE,qO,qA,qM]
end Go.Proofs.YtbenhdgpogiadaaGreat
