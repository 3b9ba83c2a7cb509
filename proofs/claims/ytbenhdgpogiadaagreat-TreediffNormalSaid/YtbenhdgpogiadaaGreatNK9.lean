/-
 CONTRACTS and plain laws. Conditions: those of each law.
-/
import Derived.Test.YtbenhdgpogiadaaGreatNK3
import Derived.Test.YtbenhdgpogiadaaGreatNK5
import Derived.Test.YtbenhdgpogiadaaGreatNK1
import Derived.Test.YtbenhdgpogiadaaGreatNGIn
import Derived.Shelf.RegionOpenPlain
import Derived.WalkKit
import Derived.Deep.LoopGhost
import Derived.Deep.RegionLaw
import Derived.Lib.Walk
import Derived.Lib.SliceRun
import Derived.OwnWalk
import Derived.Shelf.Spec.SlicesInsert
import Derived.Lib.AppendZerosOnto
import Derived.Laws.NewBlocks
import Derived.Test.YtbenhdgpogiadaaGreatNGSr
import Derived.Test.YtbenhdgpogiadaaGreatNK4
import Derived.Shelf.SlSortCmp.InsertionK
set_option linter.unusedSimpArgs false
set_option linter.unusedVariables false
namespace Go.Proofs.YtbenhdgpogiadaaGreat
open Go.Aw
open Nat renaming reduceEqDiff->pE,reduceLT->pL,reduceAdd->pA,reduceSub->pS,reduceMul->pM,reduceLeDiff->pD
open Int renaming reduceToNat->qT,reduceGT->qG,reduceLT->qL,reduceGE->qH,reduceBNe->qN,reduceBEq->qB,reduceLE->qE,reduceNe->qO,reduceAdd->qA,reduceNeg->qM
set_option maxRecDepth 100000
set_option maxHeartbeats 20000000
theorem sameM_c(m n:Module):FnP Tryz.prog 60 [.agg (zaC m),.agg (zaC n)] (.d (eB (zm4 m n))) []:=by
 refine FnP.of_eC (own:=[]) (fun i=>if i=2001 then [.chn]else []) zat Tryz.func60 rfl Tryz.call60 Tryz.ntmps60 (Nat.le_of_ble_eq_true rfl) Tryz.results60 (fun hok=> ?_);have hl:m.items.length<=9223372036854775807:=by
  have:=(zaM hok).1;simp only[zaC,zbR,D.ok,D.okL]at this;exact(za9 this.2.2.2.1).1
 have c1:=sameH_c m n;have c2:=eqfItem_c m.items n.items hl 63 zlG (fun x _ y _=>sameI_c x y);rw[eqL_I]at c2;simp only[zaC,ZE,↓reduceIte,pE,pL,pA,pS,pM,pD]at c1 c2;simp(maxSteps:=4000000) only[ZE,↓reduceIte,pE,pL,pA,pS,pM,pD,zN,qT,qG,qL,qH,qN,qB,qE,qO,qA,qM];refine EFn.p ?_;simp only[ZE,↓reduceIte,pE,pL,pA,pS,pM,pD,zN,qT,qG,qL,qH,qN,qB,qE,qO,qA,qM];refine zar.i c1 ?_;simp only[ZE,↓reduceIte,pE,pL,pA,pS,pM,pD,zN,qT,qG,qL,qH,qN,qB,qE,qO,qA,qM];refine za3.i (fun _=>c2) ?_;simp only[ZE,↓reduceIte,pE,pL,pA,pS,pM,pD,zN,qT,qG,qL,qH,qN,qB,qE,qO,qA,qM,zm4]
theorem zh6(f g:List Module):FnP Tryz.prog 19 [.agg [zax f],.agg [zax g]] (.d (eB (zl6 f g))) []:=by
 refine FnP.of_eC (own:=[]) (fun _=>[]) zat Tryz.func19 rfl Tryz.call19 Tryz.ntmps19 (Nat.le_of_ble_eq_true rfl) Tryz.results19 (fun hok=> ?_);have hl:f.length<=9223372036854775807:=by
  have:=(zaM hok).1;simp only[D.ok,D.okL]at this;exact(za9 this.1).1
 have c2:=eqfModule_c f g hl 60 zm4 (fun x _ y _=>sameM_c x y);rw[eqL_M]at c2;simp(maxSteps:=4000000) only[ZE,↓reduceIte,pE,pL,pA,pS,pM,pD,zN,qT,qG,qL,qH,qN,qB,qE,qO,qA,qM];refine EFn.p ?_;simp only[ZE,↓reduceIte,pE,pL,pA,pS,pM,pD,zN,qT,qG,qL,qH,qN,qB,qE,qO,qA,qM];refine zar.i c2 ?_;simp only[ZE,↓reduceIte,pE,pL,pA,pS,pM,pD,zN,qT,qG,qL,qH,qN,qB,qE,qO,qA,qM]
/-- How many elements are zk2 of a key. -/
def zyu{α κ:Type}(lt:κ->κ->Bool)(key:α->κ)(l:List α)(k:κ):Nat:=l.countP fun x=>lt (key x) k
section
variable {α κ:Type} {lt:κ->κ->Bool} {key:α->κ}
theorem low_eq{l:List α}{k:κ}{i:Nat}(hi:i<=l.length)(h4: ∀q (h:q<l.length),q<i->lt (key l[q]) k=true)(h5: ∀q (h:q<l.length),i<=q->lt (key l[q]) k=false):zyu lt key l k=i:=by
 unfold zyu;rw[<-List.take_append_drop i l,List.countP_append];have a:(l.take i).countP (fun x=>lt (key x) k)=(l.take i).length :=by
  rw[List.countP_eq_length];intro x hx;obtain⟨q,hq,rfl⟩:=List.getElem_of_mem hx;rw[List.length_take]at hq;rw[List.getElem_take];exact h4 q (by omega) (by omega)
 have b:(l.drop i).countP (fun x=>lt (key x) k)=0:=by
  rw[List.countP_eq_zero];intro x hx;obtain⟨q,hq,rfl⟩:=List.getElem_of_mem hx;rw[List.length_drop]at hq;rw[List.getElem_drop,h5 (i+q) (by omega) (by omega)];simp
 rw[a,b,List.length_take];omega
theorem lkp_at [DecidableEq κ](o:TOrd lt){l:List α}(hs:Srt lt key l){k:κ}{i:Nat}(h4: ∀q (h:q<l.length),q<i->lt (key l[q]) k=true)(h5: ∀q (h:q<l.length),i<=q->lt (key l[q]) k=false):(lkp key l k).isSome =true↔ ∃h:i<l.length,key l[i]=k:=by
 constructor
 ·intro h;obtain⟨x,hx⟩:=Option.isSome_iff_exists.1 h;obtain⟨hm,hk⟩:=zeI hx;obtain⟨q,hq,rfl⟩:=List.getElem_of_mem hm;have hqi: ¬q<i:=fun hlt=>by have:=h4 q hq hlt; rw[hk,o.irr]at this; cases this
  by_cases e:q=i
  ·subst e; exact⟨hq,hk⟩
  ·have hiq:i<q:=by omega
   have h1:=List.pairwise_iff_getElem.1 hs i q (by omega) hq hiq;have h2:=h5 i (by omega) (Nat.le_refl _);rw[hk,h2]at h1; cases h1
 ·rintro⟨h,rfl⟩;rw[zyM o hs (List.getElem_mem h)]; rfl
end
theorem zyY(l:List Module)(hl:l.length<=4000000)(z:Module)(hs:Srt ltS Module.name l):FnL Tryz.prog 156 [.ar 100 l.length,.d (.agg (zaC z)),.d (.clo (.func 57) [] [])] [(100,.arr 53 4 .flat (l.map zaC))] (fun V ol new=>V= .tup [.d (eI (zyu ltS Module.name l (Module.name z))),.d (eB (lkp Module.name l (Module.name z)).isSome)]/\ol=[(100,.arr 53 4 .flat (l.map zaC))]/\new=[]):=by
 refine FnL.of_eC (own:=[]) (fun i=>if i=2008 then [.ord ⟨[(0,none),(1,none),(2,none),(3,none),(4,none),(5,none),(6,none),(7,none),(8,none),(9,none),(10,none),(11,none),(12,none),(13,none),(14,none),(15,none)]⟩]else []) [0] zat Tryz.func156 rfl Tryz.call156 Tryz.ntmps156 (Nat.le_of_ble_eq_true rfl) Tryz.results156 ?_;simp only[ZE,↓reduceIte,pE,pL,pA,pS,pM,pD,zN,qT,qG,qL,qH,qN,qB,qE,qO,qA,qM];have hL:=fun(q:Nat) (h:q<l.length)=>zzL l[q] z;refine zgR (X:=Nat×Nat) (fun _ i=>[]) zat l.length (fun r X=>X.1<=X.2/\X.2<=l.length/\X.2-X.1+r<=l.length/\(∀q (h:q<l.length),q<X.1->ltS (Module.name l[q]) (Module.name z)=true)/\(∀q (h:q<l.length),X.2<=q->ltS (Module.name l[q]) (Module.name z)=false))
  (fun r X=>([(0,.ar 100 l.length),(2,.d (.clo (.func 57) [] [])),(4,.bp 4 0),(8,.d (eI l.length)),(9,.d (eI X.1)),(10,.d (eI X.2))],[(4,.box ((zaC z).map .d)),(100,.arr 53 4 .flat (l.map zaC))])) (0,l.length) ?_ ?_ ?_ (fun r X hr hI=> ?_)
 ·exact⟨Nat.zero_le _,Nat.le_refl _,by omega,by intro q _ h; omega,by intro q h h'; omega⟩
 ·simp only[ZE,↓reduceIte,pE,pL,pA,pS,pM,pD]
 ·simp only[ZE,↓reduceIte,pE,pL,pA,pS,pM,pD]
 obtain⟨i,j⟩:=X;obtain⟨h1,h2,h3,h4,h5⟩:=hI;simp only at h1 h2 h3 h4 h5;rcases Nat.lt_or_ge i j with h | h
 ·have d1:decide ((i:Int)<(j:Int))=true:=by simp; omega
  have hh:(i+j) / 2<l.length:=by omega
  have w1:IntKind.i64.wrap ((i:Int)+(j:Int))=((i+j:Nat):Int):=by rw[<-Int.natCast_add]; exact zaQ (by omega) (by omega)
  have w2:IntKind.u64.wrap ((i+j:Nat):Int)=((i+j:Nat):Int):=by simp only[IntKind.wrap,IntKind.bits,IntKind.signed]; simp; omega
  have wh:IntKind.i64.wrap ((IntKind.u64.wrap ((i+j:Nat):Int)).fdiv (2 ^ min 1 IntKind.u64.bits))=(((i+j) / 2:Nat):Int):=by
   rw[w2,show(2:Int) ^ min 1 IntKind.u64.bits=2 from by decide,Int.fdiv_eq_ediv_of_nonneg _ (by omega),show((i+j:Nat):Int) / 2=(((i+j) / 2:Nat):Int)from by omega];exact zaQ (by omega) (by omega)
  obtain⟨m,hm⟩:=zX ((i+j) / 2);rw[hm]at wh hh;have hw:=zaq (show m<9223372036854775807 by omega);obtain⟨x,hx⟩:=zX (l[m]);have hc:=hL m hh;rw[hx]at hc;obtain⟨c,hcc⟩:=zX (zy2 x.name z.name);have hlt:c<0↔ltS (Module.name x) (Module.name z)=true:=by rw[<-hcc]; exact zwE _ _
  rw[hcc]at hc;simp only[ZE,↓reduceIte,pE,pL,pA,pS,pM,pD]at hc;simp only[ZE,↓reduceIte,pE,pL,pA,pS,pM,pD,zN,qT,qG,qL,qH,qN,qB,qE,qO,qA,qM,d1,w1,wh,zai hh,zaa hh,hx,List.length_map];refine⟨by kernel_rfl,hh,EFn.p ?_⟩;simp only[ZE,↓reduceIte,pE,pL,pA,pS,pM,pD,zN,qT,qG,qL,qH,qN,qB,qE,qO,qA,qM];refine zar.i hc ?_;by_cases hneg:c<0
  ·have dn:decide (c<0)=true:=decide_eq_true hneg;simp only[ZE,↓reduceIte,pE,pL,pA,pS,pM,pD,zN,qT,qG,qL,qH,qN,qB,qE,qO,qA,qM,dn,hw];simp only[zep];refine⟨by omega,(m+1,j),⟨by simp only; omega,h2,by simp only; omega,fun q hq hqm=> ?_,h5⟩,?_⟩
   ·rcases Nat.lt_succ_iff_lt_or_eq.1 hqm with hlt' | rfl
    ·exact zrt.tr _ _ _ (by have:=List.pairwise_iff_getElem.1 hs q m hq hh hlt'; rw[hx]at this; exact this) (hlt.1 hneg)
    ·rw[hx]; exact hlt.1 hneg
   ·simp only[ZE,↓reduceIte,pE,pL,pA,pS,pM,pD]
  ·have dn:decide (c<0)=false:=decide_eq_false hneg;simp only[ZE,↓reduceIte,pE,pL,pA,pS,pM,pD,zN,qT,qG,qL,qH,qN,qB,qE,qO,qA,qM,dn];have hnl:ltS (Module.name x) (Module.name z)=false:=by
    cases hq:ltS (Module.name x) (Module.name z)with
    | false=>rfl
    | true=>exact absurd (hlt.2 hq) hneg
   simp only[zep];refine⟨by omega,(i,m),⟨by simp only; omega,by simp only; omega,by simp only; omega,h4,fun q hq hqm=> ?_⟩,?_⟩
   ·rcases Nat.lt_or_ge m q with hlt' | hge
    ·cases hq2:ltS (Module.name l[q]) (Module.name z)with
     | false=>rfl
     | true=>
      have h1:=List.pairwise_iff_getElem.1 hs m q hh hq hlt';rw[hx]at h1;have:=zrt.tr _ _ _ h1 hq2;rw[hnl]at this; cases this
    ·have:q=m:=(by simp only at hqm; omega);subst this;rw[hx]; exact hnl
   ·simp only[ZE,↓reduceIte,pE,pL,pA,pS,pM,pD]
 ·have e:i=j:=by omega
  subst e;have d1:decide ((i:Int)<(i:Int))=false:=by simp
  have lw:=low_eq h2 h4 h5;have lk:=lkp_at zrt hs h4 h5;rw[lw];rcases Nat.lt_or_ge i l.length with hin | hin
  ·obtain⟨x,hx⟩:=zX (l[i]);have hc:=hL i hin;rw[hx]at hc;obtain⟨c,hcc⟩:=zX (zy2 x.name z.name);have hzero:c=0↔Module.name x=Module.name z:=by rw[<-hcc]; exact zoY _ _
   have hfound:(lkp Module.name l (Module.name z)).isSome =(c==0):=by
    rw[Bool.eq_iff_iff,lk,beq_iff_eq,hzero];exact⟨fun⟨_,h⟩=>by rw[hx]at h; exact h,fun h=>⟨hin,by rw[hx]; exact h⟩⟩
   rw[hcc]at hc;rw[hfound];simp only[ZE,↓reduceIte,pE,pL,pA,pS,pM,pD]at hc;simp(maxSteps:=4000000) only[ZE,↓reduceIte,pE,pL,pA,pS,pM,pD,d1,zaw hin,zai hin,zaa hin,hx,zN,qT,qG,qL,qH,qN,qB,qE,qO,qA,qM,List.length_map];refine⟨by kernel_rfl,hin,zaz.i hc ?_⟩;simp only[ZE,↓reduceIte,pE,pL,pA,pS,pM,pD,zN,qT,qG,qL,qH,qN,qB,qE,qO,qA,qM];refine⟨[4],[],?_⟩;simp only[ZE,↓reduceIte,pE,pL,pA,pS,pM,pD]
  ·have hfound:(lkp Module.name l (Module.name z)).isSome =false:=by
    cases hq:(lkp Module.name l (Module.name z)).isSome with
    | false=>rfl
    | true=>obtain⟨h,_⟩:=lk.1 hq; omega
   rw[hfound];simp(maxSteps:=4000000) only[ZE,↓reduceIte,pE,pL,pA,pS,pM,pD,d1,zaI hin,zN,qT,qG,qL,qH,qN,qB,qE,qO,qA,qM,List.length_map];refine⟨by kernel_rfl,[4],[],?_⟩;simp only[ZE,↓reduceIte,pE,pL,pA,pS,pM,pD]
theorem bsItem_c(l:List Item)(hl:l.length<=4000000)(z:Item)(hs:Srt ltP zbg l):FnL Tryz.prog 158 [.ar 100 l.length,.d (.agg (zaK z)),.d (.clo (.func 53) [] [])] [(100,.arr 64 35 .flat (l.map zaK))] (fun V ol new=>V= .tup [.d (eI (zyu ltP zbg l (zbg z))),.d (eB (lkp zbg l (zbg z)).isSome)]/\ol=[(100,.arr 64 35 .flat (l.map zaK))]/\new=[]):=by
 refine FnL.of_eC (own:=[]) (fun i=>if i=2008 then [.ord ⟨[(0,none),(1,none),(2,none),(3,none),(4,none),(5,none),(6,none),(7,none),(8,none),(9,none),(10,none),(11,none),(12,none),(13,none),(14,none),(15,none)]⟩]else []) [0] zat Tryz.func158 rfl Tryz.call158 Tryz.ntmps158 (Nat.le_of_ble_eq_true rfl) Tryz.results158 ?_;simp only[ZE,↓reduceIte,pE,pL,pA,pS,pM,pD,zN,qT,qG,qL,qH,qN,qB,qE,qO,qA,qM];have hL:=fun(q:Nat) (h:q<l.length)=>zzK l[q] z;refine zgR (X:=Nat×Nat) (fun _ i=>[]) zat l.length (fun r X=>X.1<=X.2/\X.2<=l.length/\X.2-X.1+r<=l.length/\(∀q (h:q<l.length),q<X.1->ltP (zbg l[q]) (zbg z)=true)/\(∀q (h:q<l.length),X.2<=q->ltP (zbg l[q]) (zbg z)=false))
  (fun r X=>([(0,.ar 100 l.length),(2,.d (.clo (.func 53) [] [])),(4,.bp 4 0),(8,.d (eI l.length)),(9,.d (eI X.1)),(10,.d (eI X.2))],[(4,.box ((zaK z).map .d)),(100,.arr 64 35 .flat (l.map zaK))])) (0,l.length) ?_ ?_ ?_ (fun r X hr hI=> ?_)
 ·exact⟨Nat.zero_le _,Nat.le_refl _,by omega,by intro q _ h; omega,by intro q h h'; omega⟩
 ·simp only[ZE,↓reduceIte,pE,pL,pA,pS,pM,pD]
 ·simp only[ZE,↓reduceIte,pE,pL,pA,pS,pM,pD]
 obtain⟨i,j⟩:=X;obtain⟨h1,h2,h3,h4,h5⟩:=hI;simp only at h1 h2 h3 h4 h5;rcases Nat.lt_or_ge i j with h | h
 ·have d1:decide ((i:Int)<(j:Int))=true:=by simp; omega
  have hh:(i+j) / 2<l.length:=by omega
  have w1:IntKind.i64.wrap ((i:Int)+(j:Int))=((i+j:Nat):Int):=by rw[<-Int.natCast_add]; exact zaQ (by omega) (by omega)
  have w2:IntKind.u64.wrap ((i+j:Nat):Int)=((i+j:Nat):Int):=by simp only[IntKind.wrap,IntKind.bits,IntKind.signed]; simp; omega
  have wh:IntKind.i64.wrap ((IntKind.u64.wrap ((i+j:Nat):Int)).fdiv (2 ^ min 1 IntKind.u64.bits))=(((i+j) / 2:Nat):Int):=by
   rw[w2,show(2:Int) ^ min 1 IntKind.u64.bits=2 from by decide,Int.fdiv_eq_ediv_of_nonneg _ (by omega),show((i+j:Nat):Int) / 2=(((i+j) / 2:Nat):Int)from by omega];exact zaQ (by omega) (by omega)
  obtain⟨m,hm⟩:=zX ((i+j) / 2);rw[hm]at wh hh;have hw:=zaq (show m<9223372036854775807 by omega);obtain⟨x,hx⟩:=zX (l[m]);have hc:=hL m hh;rw[hx]at hc;obtain⟨c,hcc⟩:=zX (zyB (zbg x) (zbg z));have hlt:c<0↔ltP (zbg x) (zbg z)=true:=by rw[<-hcc]; exact zwF _ _
  rw[hcc]at hc;simp only[ZE,↓reduceIte,pE,pL,pA,pS,pM,pD]at hc;simp only[ZE,↓reduceIte,pE,pL,pA,pS,pM,pD,zN,qT,qG,qL,qH,qN,qB,qE,qO,qA,qM,d1,w1,wh,zai hh,zaa hh,hx,List.length_map];refine⟨by kernel_rfl,hh,EFn.p ?_⟩;simp only[ZE,↓reduceIte,pE,pL,pA,pS,pM,pD,zN,qT,qG,qL,qH,qN,qB,qE,qO,qA,qM];refine zar.i hc ?_;by_cases hneg:c<0
  ·have dn:decide (c<0)=true:=decide_eq_true hneg;simp only[ZE,↓reduceIte,pE,pL,pA,pS,pM,pD,zN,qT,qG,qL,qH,qN,qB,qE,qO,qA,qM,dn,hw];simp only[zep];refine⟨by omega,(m+1,j),⟨by simp only; omega,h2,by simp only; omega,fun q hq hqm=> ?_,h5⟩,?_⟩
   ·rcases Nat.lt_succ_iff_lt_or_eq.1 hqm with hlt' | rfl
    ·exact zuJ.tr _ _ _ (by have:=List.pairwise_iff_getElem.1 hs q m hq hh hlt'; rw[hx]at this; exact this) (hlt.1 hneg)
    ·rw[hx]; exact hlt.1 hneg
   ·simp only[ZE,↓reduceIte,pE,pL,pA,pS,pM,pD]
  ·have dn:decide (c<0)=false:=decide_eq_false hneg;simp only[ZE,↓reduceIte,pE,pL,pA,pS,pM,pD,zN,qT,qG,qL,qH,qN,qB,qE,qO,qA,qM,dn];have hnl:ltP (zbg x) (zbg z)=false:=by
    cases hq:ltP (zbg x) (zbg z)with
    | false=>rfl
    | true=>exact absurd (hlt.2 hq) hneg
   simp only[zep];refine⟨by omega,(i,m),⟨by simp only; omega,by simp only; omega,by simp only; omega,h4,fun q hq hqm=> ?_⟩,?_⟩
   ·rcases Nat.lt_or_ge m q with hlt' | hge
    ·cases hq2:ltP (zbg l[q]) (zbg z)with
     | false=>rfl
     | true=>
      have h1:=List.pairwise_iff_getElem.1 hs m q hh hq hlt';rw[hx]at h1;have:=zuJ.tr _ _ _ h1 hq2;rw[hnl]at this; cases this
    ·have:q=m:=(by simp only at hqm; omega);subst this;rw[hx]; exact hnl
   ·simp only[ZE,↓reduceIte,pE,pL,pA,pS,pM,pD]
 ·have e:i=j:=by omega
  subst e;have d1:decide ((i:Int)<(i:Int))=false:=by simp
  have lw:=low_eq h2 h4 h5;have lk:=lkp_at zuJ hs h4 h5;rw[lw];rcases Nat.lt_or_ge i l.length with hin | hin
  ·obtain⟨x,hx⟩:=zX (l[i]);have hc:=hL i hin;rw[hx]at hc;obtain⟨c,hcc⟩:=zX (zyB (zbg x) (zbg z));have hzero:c=0↔zbg x=zbg z:=by rw[<-hcc]; exact zyI _ _
   have hfound:(lkp zbg l (zbg z)).isSome =(c==0):=by
    rw[Bool.eq_iff_iff,lk,beq_iff_eq,hzero];exact⟨fun⟨_,h⟩=>by rw[hx]at h; exact h,fun h=>⟨hin,by rw[hx]; exact h⟩⟩
   rw[hcc]at hc;rw[hfound];simp only[ZE,↓reduceIte,pE,pL,pA,pS,pM,pD]at hc;simp(maxSteps:=4000000) only[ZE,↓reduceIte,pE,pL,pA,pS,pM,pD,d1,zaw hin,zai hin,zaa hin,hx,zN,qT,qG,qL,qH,qN,qB,qE,qO,qA,qM,List.length_map];refine⟨by kernel_rfl,hin,zaz.i hc ?_⟩;simp only[ZE,↓reduceIte,pE,pL,pA,pS,pM,pD,zN,qT,qG,qL,qH,qN,qB,qE,qO,qA,qM];refine⟨[4],[],?_⟩;simp only[ZE,↓reduceIte,pE,pL,pA,pS,pM,pD]
  ·have hfound:(lkp zbg l (zbg z)).isSome =false:=by
    cases hq:(lkp zbg l (zbg z)).isSome with
    | false=>rfl
    | true=>obtain⟨h,_⟩:=lk.1 hq; omega
   rw[hfound];simp(maxSteps:=4000000) only[ZE,↓reduceIte,pE,pL,pA,pS,pM,pD,d1,zaI hin,zN,qT,qG,qL,qH,qN,qB,qE,qO,qA,qM,List.length_map];refine⟨by kernel_rfl,[4],[],?_⟩;simp only[ZE,↓reduceIte,pE,pL,pA,pS,pM,pD]
section
open Go.Aw Go.RowKit Go.Lib
set_option maxRecDepth 1000000
structure Hd (p:Prop):Prop where
 out:p
set_option maxHeartbeats 8000000 in
theorem deleteItem_w:DelW Tryz.prog 160 64 35:=by
 intro W g cap cur n i hg hle hcap hcur hone hi;obtain⟨j,hj⟩: ∃j,j=i+1:=⟨_,rfl⟩;rw[<-hj];have zat:=zat;have hmx:cap<=9223372036854775807:=hcap;obtain⟨i0,z0,t28,hi0,hz0,hzc,hz1,_,_⟩:=zeW tA51;obtain⟨c,hc⟩: ∃c,cur.toList.take (n*35)=c:=⟨_,rfl⟩;have hnk:n*35<=cur.size:=by rw[hcur]; exact Nat.mul_le_mul_right _ hle
 have hclen:c.length=n*35:=by rw[<-hc,List.length_take]; exact Nat.min_eq_left hnk
 have hcell: ∀t,t<n*35->W.cell? ⟨g,t,none⟩=c[t]? :=fun t ht=>by
  rw[<-hc,List.getElem?_take,if_pos ht];simp[World.cell?,hg]
 have hsome: ∀t,t<n*35->(W.cell? ⟨g,t,none⟩).isSome =true:=fun t ht=>by
  rw[hcell t ht,List.getElem?_eq_getElem (by omega)]; rfl
 have hfr: ∀t,W.frozen? ⟨g,t,none⟩=false:=fun t=>by simp[World.frozen?,hg]
 rw[hc]at hone ⊢;obtain⟨news,hnews⟩: ∃news,news=c.drop (j*35):=⟨_,rfl⟩;have hlen:news.length=(n-j)*35:=by rw[hnews,List.length_drop,hclen,Nat.sub_mul]
 obtain⟨A,hA,hsrc⟩: ∃A:Addr,(if cap=j then some (⟨g,0,none⟩:Addr)else some ⟨g,j*35,none⟩)=some A/\Hd (∀t u,news[t]? =some u->W.drew.cell? (A.add t)=some u):=by
  by_cases h:cap=j
  ·refine⟨⟨g,0,none⟩,by simp[h],⟨fun t u hu=> ?_⟩⟩;have h0:news.length=0:=by rw[hlen,show n-j=0 by omega,Nat.zero_mul]
   rw[List.length_eq_zero_iff.1 h0]at hu;simp at hu
  ·refine⟨⟨g,j*35,none⟩,by simp[h],⟨fun t u hu=> ?_⟩⟩;have ht:t<news.length:=(List.getElem?_eq_some_iff.1 hu).1;rw[hlen]at ht;rw[hnews,List.getElem?_drop]at hu;rw[Addr.add_lit];show W.cell? _=_;rw[hcell _ (by omega)];exact hu
 have s1:Hd (news.length=(n-j)*35):=⟨hlen⟩;have s2:Hd (∀u∈news,u.oneCell'=true):=⟨fun u hu=>hone u (by rw[hnews]at hu; exact List.mem_of_mem_drop hu)⟩;have s3:Hd (∀t,t<news.length->(W.drew.cell? ⟨g,0+i*35+t,none⟩).isSome =true/\W.drew.frozen? ⟨g,0+i*35+t,none⟩=false):=⟨fun t ht=>by
  rw[hlen]at ht;exact⟨hsome _ (by omega),hfr _⟩⟩
 obtain⟨W1,hW1⟩: ∃W1,W1=W.drew.setCells g (0+i*35) news:=⟨_,rfl⟩;obtain⟨zl,hzl⟩: ∃zl:List Value,zl=(Builtin.zeroCells z0.cells 1).toList :=⟨_,rfl⟩;have hzlen:zl.length=35:=by rw[hzl]; simp[Builtin.zeroCells,hzc]
 have hz1c: ∀v∈zl,v.oneCell'=true:=by
  have h0:=Tryz.zeroValue64 W;have h1:(zeroValue 64).run Tryz.prog W= .ok z0 W:=by simp[zeroValue,typeInfo,hi0,hz0]
  rw[h1]at h0;cases h0;rw[hzl];intro v hv;revert v;rw[<-List.all_eq_true];kernel_rfl
 have hcl: ∀ty,(Builtin.clear_ #[51] ty #[.slice (some ⟨g,(i+(n-j))*35,none⟩) (n-(i+(n-j))) (cap-(i+(n-j)))]).run Tryz.prog W1= .ok (.tuple #[]) (W1.setCells g ((n-1)*35) zl):=by
  intro ty;rw[show i+(n-j)=n-1 by omega,show n-(n-1)=1 by omega];have hc1: ∀t,t<n*35->(W1.cell? ⟨g,t,none⟩).isSome =true:=fun t ht=>by
   rw[hW1];have h3:=zoK g news (0+i*35) W.drew cur 64 (0,0) hg;simp only[World.cell?,h3];rw[show(({block:=g,off:=t,spot:=none}:Addr).spot.isSome)=false from rfl];simp only[Bool.false_eq_true,if_false];rw[Array.getElem?_eq_getElem (by rw[ztU]; omega)]; rfl
  rw[hzl];exact zyO W1 _ _ ty z0 t28 (fun w=>by simp[zeroValue,typeInfo,hi0,hz0]) (by rw[<-hzl]; exact hz1c) g _ _
   (fun j hj=>hc1 _ (by rw[<-hzl,hzlen]at hj; omega)) (fun j hj=>by rw[hW1,World.frozen?_setCells]; exact hfr _)
 have hW:Hd (W1=W.drew.setCells g (0+i*35) news):=⟨hW1⟩;have hij:i<=j:=by omega
 have hne: ¬(i=j):=by omega
 have hjn:j<=n:=by omega
 have hin:i+(n-j)<=n:=by omega
 have hnc:i+(n-j)<=cap:=by omega
 have hnz:n-1=i+(n-j):=by omega
 have hcn: ¬(cap=i+(n-j)):=by omega
 have hic:i<=cap:=by omega
 have hjc:j<=cap:=by omega
 have X1:Hd (news=c.drop (j*35)):=⟨hnews⟩;have X2:Hd (zl.length=35):=⟨hzlen⟩;have hnz':Hd (n-1=i+(n-j)):=⟨hnz⟩;clear hnz hj hW1 hcell hsome hnews hlen hone hclen hc hfr hzl hzlen hz1c
 go_enter Tryz.func160,Tryz.ntmps160
 go_wp2_with fail
 go_region_law_o (refine step_append_room rfl (.tmp 22) (.tmp 25) 51 rfl 64 i0 35 t28 hi0 hz1 g 0 i cap (by simp[Act.eval,Act.put]) A (n-j) (cap-j) news (by simp[Act.eval,Act.put]) s1.out hsrc.out s2.out (by omega) s3.out ?_; rw[<-hW.out])
 go_wp2;go_ret;refine⟨by rw[hnz'.out]; rfl,zl,X2.out,?_⟩;rw[<-X1.out,hW.out,Nat.zero_add]
set_option maxHeartbeats 8000000 in
theorem zyT:DelW Tryz.prog 161 53 4:=by
 intro W g cap cur n i hg hle hcap hcur hone hi;obtain⟨j,hj⟩: ∃j,j=i+1:=⟨_,rfl⟩;rw[<-hj];have zat:=zat;have hmx:cap<=9223372036854775807:=hcap;obtain⟨i0,z0,t28,hi0,hz0,hzc,hz1,_,_⟩:=zeW tA28;obtain⟨c,hc⟩: ∃c,cur.toList.take (n*4)=c:=⟨_,rfl⟩;have hnk:n*4<=cur.size:=by rw[hcur]; exact Nat.mul_le_mul_right _ hle
 have hclen:c.length=n*4:=by rw[<-hc,List.length_take]; exact Nat.min_eq_left hnk
 have hcell: ∀t,t<n*4->W.cell? ⟨g,t,none⟩=c[t]? :=fun t ht=>by
  rw[<-hc,List.getElem?_take,if_pos ht];simp[World.cell?,hg]
 have hsome: ∀t,t<n*4->(W.cell? ⟨g,t,none⟩).isSome =true:=fun t ht=>by
  rw[hcell t ht,List.getElem?_eq_getElem (by omega)]; rfl
 have hfr: ∀t,W.frozen? ⟨g,t,none⟩=false:=fun t=>by simp[World.frozen?,hg]
 rw[hc]at hone ⊢;obtain⟨news,hnews⟩: ∃news,news=c.drop (j*4):=⟨_,rfl⟩;have hlen:news.length=(n-j)*4:=by rw[hnews,List.length_drop,hclen,Nat.sub_mul]
 obtain⟨A,hA,hsrc⟩: ∃A:Addr,(if cap=j then some (⟨g,0,none⟩:Addr)else some ⟨g,j*4,none⟩)=some A/\Hd (∀t u,news[t]? =some u->W.drew.cell? (A.add t)=some u):=by
  by_cases h:cap=j
  ·refine⟨⟨g,0,none⟩,by simp[h],⟨fun t u hu=> ?_⟩⟩;have h0:news.length=0:=by rw[hlen,show n-j=0 by omega,Nat.zero_mul]
   rw[List.length_eq_zero_iff.1 h0]at hu;simp at hu
  ·refine⟨⟨g,j*4,none⟩,by simp[h],⟨fun t u hu=> ?_⟩⟩;have ht:t<news.length:=(List.getElem?_eq_some_iff.1 hu).1;rw[hlen]at ht;rw[hnews,List.getElem?_drop]at hu;rw[Addr.add_lit];show W.cell? _=_;rw[hcell _ (by omega)];exact hu
 have s1:Hd (news.length=(n-j)*4):=⟨hlen⟩;have s2:Hd (∀u∈news,u.oneCell'=true):=⟨fun u hu=>hone u (by rw[hnews]at hu; exact List.mem_of_mem_drop hu)⟩;have s3:Hd (∀t,t<news.length->(W.drew.cell? ⟨g,0+i*4+t,none⟩).isSome =true/\W.drew.frozen? ⟨g,0+i*4+t,none⟩=false):=⟨fun t ht=>by
  rw[hlen]at ht;exact⟨hsome _ (by omega),hfr _⟩⟩
 obtain⟨W1,hW1⟩: ∃W1,W1=W.drew.setCells g (0+i*4) news:=⟨_,rfl⟩;obtain⟨zl,hzl⟩: ∃zl:List Value,zl=(Builtin.zeroCells z0.cells 1).toList :=⟨_,rfl⟩;have hzlen:zl.length=4:=by rw[hzl]; simp[Builtin.zeroCells,hzc]
 have hz1c: ∀v∈zl,v.oneCell'=true:=by
  have h0:=Tryz.zeroValue53 W;have h1:(zeroValue 53).run Tryz.prog W= .ok z0 W:=by simp[zeroValue,typeInfo,hi0,hz0]
  rw[h1]at h0;cases h0;rw[hzl];intro v hv;revert v;rw[<-List.all_eq_true];kernel_rfl
 have hcl: ∀ty,(Builtin.clear_ #[28] ty #[.slice (some ⟨g,(i+(n-j))*4,none⟩) (n-(i+(n-j))) (cap-(i+(n-j)))]).run Tryz.prog W1= .ok (.tuple #[]) (W1.setCells g ((n-1)*4) zl):=by
  intro ty;rw[show i+(n-j)=n-1 by omega,show n-(n-1)=1 by omega];have hc1: ∀t,t<n*4->(W1.cell? ⟨g,t,none⟩).isSome =true:=fun t ht=>by
   rw[hW1];have h3:=zoK g news (0+i*4) W.drew cur 53 (0,0) hg;simp only[World.cell?,h3];rw[show(({block:=g,off:=t,spot:=none}:Addr).spot.isSome)=false from rfl];simp only[Bool.false_eq_true,if_false];rw[Array.getElem?_eq_getElem (by rw[ztU]; omega)]; rfl
  rw[hzl];exact zyO W1 _ _ ty z0 t28 (fun w=>by simp[zeroValue,typeInfo,hi0,hz0]) (by rw[<-hzl]; exact hz1c) g _ _
   (fun j hj=>hc1 _ (by rw[<-hzl,hzlen]at hj; omega)) (fun j hj=>by rw[hW1,World.frozen?_setCells]; exact hfr _)
 have hW:Hd (W1=W.drew.setCells g (0+i*4) news):=⟨hW1⟩;have hij:i<=j:=by omega
 have hne: ¬(i=j):=by omega
 have hjn:j<=n:=by omega
 have hin:i+(n-j)<=n:=by omega
 have hnc:i+(n-j)<=cap:=by omega
 have hnz:n-1=i+(n-j):=by omega
 have hcn: ¬(cap=i+(n-j)):=by omega
 have hic:i<=cap:=by omega
 have hjc:j<=cap:=by omega
 have X1:Hd (news=c.drop (j*4)):=⟨hnews⟩;have X2:Hd (zl.length=4):=⟨hzlen⟩;have hnz':Hd (n-1=i+(n-j)):=⟨hnz⟩;clear hnz hj hW1 hcell hsome hnews hlen hone hclen hc hfr hzl hzlen hz1c
 go_enter Tryz.func161,Tryz.ntmps161
 go_wp2_with fail
 go_region_law_o (refine step_append_room rfl (.tmp 22) (.tmp 25) 28 rfl 53 i0 4 t28 hi0 hz1 g 0 i cap (by simp[Act.eval,Act.put]) A (n-j) (cap-j) news (by simp[Act.eval,Act.put]) s1.out hsrc.out s2.out (by omega) s3.out ?_; rw[<-hW.out])
 go_wp2;go_ret;refine⟨by rw[hnz'.out]; rfl,zl,X2.out,?_⟩;rw[<-X1.out,hW.out,Nat.zero_add]
end
section
open Go.Aw Go.RowKit Go.Lib
set_option maxRecDepth 1000000
set_option maxHeartbeats 8000000 in
/-- At the end,with room. -/
theorem insAModule(g n c vb m vc:Nat)(vs:List Value)(w:World)(hm:0<m)(hroom:n+m<=c)(hc63:c<=9223372036854775807)(hvl:vs.length=m*4)
  (hsp: ∀j,j<m*4->(w.cell? ⟨g,0+n*4+j,none⟩).isSome =true) (hfz: ∀j,j<m*4->w.frozen? ⟨g,0+n*4+j,none⟩=false)
  (hvs: ∀j v,vs[j]? =some v->w.cell? ⟨vb,j,none⟩=some v) (h1v: ∀v∈vs,v.oneCell'=true):
  Calls Tryz.prog 162 #[.slice (some ⟨g,0,none⟩) n c,.int .i64 n,.slice (some ⟨vb,0,none⟩) m vc] w fun e w'=>e= .returned (.slice (some ⟨g,0,none⟩) (n+m) c)/\w'=w.setCells g (0+n*4) vs:=by
 obtain⟨i0,z0,t28,hi0,hz0,hzc,hz1,_,_⟩:=zeW tA28;have zat:=zat;have hzz: ¬((m:Int)=0):=by omega
 have hsrc:Src Tryz.prog i0.size 28 (.slice (some ⟨vb,0,none⟩) m vc) m vs w:=by
  rw[hz1];exact Src.ofSlice w t28 ⟨vb,0,none⟩ m vc vs hvl (fun j u hj=>by rw[Addr.add_lit,Nat.zero_add]; exact hvs j u hj) h1v
 have hrun: ∀ty,(Builtin.append_ #[28,28] ty #[.slice (some ⟨g,0,none⟩) n c,.slice (some ⟨vb,0,none⟩) m vc]).run Tryz.prog w= .ok (.slice (some ⟨g,0,none⟩) (n+m) c) (w.setCells g (0+n*4) vs):=fun ty=>by
  have h:=run_append_room_src w 28 28 ty 53 i0 t28 hi0 g 0 n c _ m vs hsrc hroom (by rw[hz1,hvl]; exact hsp) (by rw[hz1,hvl]; exact hfz);rw[hz1]at h;exact h
 clear hsp hfz hvs h1v hsrc
 go_enter Tryz.func162,Tryz.ntmps162
 go_wp2_with (at_builtin; refine Lib.wpList_append_run _ rfl _ _ _ _ rfl _ _ rfl rfl _ _ (hrun _) ?_)
 go_ret;exact⟨rfl,by rw[Nat.zero_add]⟩
set_option maxHeartbeats 8000000 in
/-- At the end,without room. -/
theorem zyZ(base:Option Addr)(n c vb m vc:Nat)(cs vs:List Value)(w:World)(hm:0<m)(hnc:n<=c)(hroom:c<n+m)(hbig:(n+m)*80<=140737488355328)(hcl:cs.length=n*4)(hvl:vs.length=m*4)(hnil:base=none->n=0)
  (hcs: ∀a,base=some a-> ∀j v,cs[j]? =some v->w.cell? (a.add j)=some v)
  (hvs: ∀j v,vs[j]? =some v->w.cell? ⟨vb,j,none⟩=some v) (h1v: ∀v∈vs,v.oneCell'=true):
  Calls Tryz.prog 162 #[.slice base n c,.int .i64 n,.slice (some ⟨vb,0,none⟩) m vc] w fun e w'=> ∃(cur':Array Value),e= .returned (.slice (some ⟨w.heap.size,0,none⟩) (n+m) (grownCap w (n+m) c 53))/\
   w'=w.drew.alloc (.cells ((cs++vs).toArray ++cur') 53)/\cur'.size=(grownCap w (n+m) c 53-(n+m))*4:=by
 obtain⟨i0,z0,t28,hi0,hz0,hzc,hz1,hzb,_⟩:=zeW tA28;have zat:=zat;have hzz: ¬((m:Int)=0):=by omega
 have hsrc:Src Tryz.prog i0.size 28 (.slice (some ⟨vb,0,none⟩) m vc) m vs w:=by
  rw[hz1];exact Src.ofSlice w t28 ⟨vb,0,none⟩ m vc vs hvl (fun j u hj=>by rw[Addr.add_lit,Nat.zero_add]; exact hvs j u hj) h1v
 have hold:(Builtin.firstCells i0.size n (.slice base n c)).run Tryz.prog w.drew= .ok cs.toArray w.drew:=by
  rw[hz1];cases base with
  | none=>
   have h0:=hnil rfl;subst h0;have hc0:cs=[]:=List.length_eq_zero_iff.1 (by rw[hcl,Nat.zero_mul]);rw[hc0];exact run_firstCells_none w.drew 4 0 0 c
  | some a=>exact run_firstCells_some w.drew 4 n a n c cs hcl (fun j v hj=>hcs a rfl j v hj)
 obtain⟨R,hR⟩: ∃R:Array Value,R=Builtin.zeroCells z0.cells (grownCap w (n+m) c 53-(n+m)):=⟨_,rfl⟩;have hRs:R.size=(grownCap w (n+m) c 53-(n+m))*4:=by rw[hR]; simp[Builtin.zeroCells,hzc]
 have hrun: ∀ty,(Builtin.append_ #[28,28] ty #[.slice base n c,.slice (some ⟨vb,0,none⟩) m vc]).run Tryz.prog w= .ok (.slice (some ⟨w.heap.size,0,none⟩) (n+m) (grownCap w (n+m) c 53)) (w.drew.alloc (.cells ((cs++vs).toArray ++R) 53)):=fun ty=>by
  have h:=run_append_grow_src w 28 28 ty 53 i0 z0 t28 hi0 hz0 base n c cs hold _ m vs hsrc hroom (by omega) (by rw[hzb]; exact growslice_fits hroom hbig);rw[<-hR]at h;exact h
 obtain⟨G,hG⟩: ∃G,G=grownCap w (n+m) c 53:=⟨_,rfl⟩;rw[<-hG]at hrun hRs ⊢;have XR:Hd (R.size=(G-(n+m))*4):=⟨hRs⟩;clear hcs hvs h1v hsrc hold hR hG hRs
 go_enter Tryz.func162,Tryz.ntmps162
 cases base with
 | none=>
  have h0:=hnil rfl;subst h0
  go_wp2_with (at_builtin; refine Lib.wpList_append_run _ rfl _ _ _ _ rfl _ _ rfl rfl _ _ (hrun _) ?_)
  go_ret;exact⟨by simp,R,by simp,by rw[XR.out,Nat.zero_add]⟩
 | some a=>
  obtain⟨ab,ao,asp⟩:=a
  go_wp2_with (at_builtin; refine Lib.wpList_append_run _ rfl _ _ _ _ rfl _ _ rfl rfl _ _ (hrun _) ?_)
  all_goals (go_ret; exact⟨rfl,R,rfl,XR.out⟩)
set_option maxHeartbeats 16000000 in
/-- In the middle,with room. -/
theorem insCModule(g n c i vb m vc:Nat)(cs vs:List Value)(w:World)(hi:i<n)(hm:0<m)(hroom:n+m<=c)(hc63:c<=9223372036854775807)(hvb:vb≠g)(hcl:cs.length=n*4)(hvl:vs.length=m*4)
  (hcs: ∀j v,cs[j]? =some v->w.cell? ⟨g,j,none⟩=some v) (hsp: ∀j,j<(n+m)*4->(w.cell? ⟨g,j,none⟩).isSome =true) (hfz: ∀j,w.frozen? ⟨g,j,none⟩=false)
  (hvs: ∀j v,vs[j]? =some v->w.cell? ⟨vb,j,none⟩=some v) (h1c: ∀v∈cs,v.oneCell'=true) (h1v: ∀v∈vs,v.oneCell'=true)
  (tA tB:TypeId) (kA kB:Nat) (hsa:w.shape? vb=some (tA,kA)) (hsb:w.shape? g=some (tB,kB)) (hkB:kB≠0) (hfa:w.frozen? ⟨vb,0,none⟩=false) (hfe:w.frozen? ⟨vb,kA,none⟩=false):
  Calls Tryz.prog 162 #[.slice (some ⟨g,0,none⟩) n c,.int .i64 i,.slice (some ⟨vb,0,none⟩) m vc] w fun e w'=>
   e= .returned (.slice (some ⟨g,0,none⟩) (n+m) c)/\w'=(w.drew.setCells g ((i+m)*4) (cs.drop (i*4))).setCells g (i*4) vs:=by
 obtain⟨i0,z0,t28,hi0,hz0,hzc,hz1s,hzb,_⟩:=zeW tA28;have zat:=zat;have hz1: ¬((m:Int)=0):=by omega
 have hz2: ¬((i:Int)=(n:Int)):=by omega
 have hsz:(Tryz.prog.info? 53).map (·.size)=some 4:=by rw[hi0]; simp[hz1s]
 have hov: ∀lb cb,(callFunc 213 #[.slice (some ⟨vb,0,none⟩) m vc,.slice (some ⟨g,(i+m)*4,none⟩) lb cb]).run Tryz.prog w= .ok (.value (.bool false)) w:=fun lb cb=>by
  rw[run_callFunc_extern Tryz.func213 (by kernel_rfl) (by kernel_rfl) (by kernel_rfl) (e:=Extern.SlicesOverlaps.overlaps #[28,28] #[4]) (by kernel_rfl),
   Lib.run_overlaps_apart w 28 4 53 t28 4 Tryz.sizeOf53 ⟨vb,0,none⟩ ⟨g,(i+m)*4,none⟩ m vc lb cb hvb tA tB kA kB hsa hsb hkB hfa hfe]
  rfl
 have hdl:(cs.drop (i*4)).length =(n-i)*4:=by rw[List.length_drop,hcl,Nat.sub_mul]
 have hw1:IntKind.i64.wrap ((i:Int)+(m:Int))=(i:Int)+(m:Int):=by rw[IntKind.wrap_i64]; omega
 have hb1:(0:Int)<=(i:Int)+(m:Int):=by omega
 have hin:i<=n:=by omega
 have htn:((i:Int)+(m:Int)).toNat =i+m:=by omega
 have hb2: ¬(c=i+m):=by omega
 have hb3:(i:Int)<=(n:Int)+(m:Int):=by omega
 have hb4: ¬(c=i):=by omega
 have hcp1: ∀ty dc sc,(Builtin.copy_ #[28,28] ty #[.slice (some ⟨g,(i+m)*4,none⟩) (n+m-(i+m)) dc,.slice (some ⟨g,i*4,none⟩) (n+m-i) sc]).run Tryz.prog w.drew= .ok (goInt (n-i:Nat)) (w.drew.setCells g ((i+m)*4) (cs.drop (i*4))):=fun ty dc sc=>by
  have hmin:Nat.min (n+m-i) (n+m-(i+m))=n-i:=by simp only[Nat.min_def]; split <;> omega
  have h:=zx6 w.drew 28 28 ty 53 4 g ((i+m)*4) (n+m-(i+m)) dc ⟨g,i*4,none⟩ (n+m-i) sc (cs.drop (i*4)) t28 hsz (by rw[hdl,hmin])
   (fun j v hj=>by rw[Addr.add_lit]; exact hcs (i*4+j) v (by rwa [List.getElem?_drop]at hj))
   (fun j hj=>hsp _ (by rw[hdl]at hj; omega)) (fun j hj=>hfz _) (fun v hv=>h1c v (List.mem_of_mem_drop hv))
  rw[hmin]at h;exact h
 obtain⟨W1,hW1⟩: ∃W1,W1=w.drew.setCells g ((i+m)*4) (cs.drop (i*4)):=⟨_,rfl⟩;have hsp1: ∀k,k<(n+m)*4->(W1.cell? ⟨g,k,none⟩).isSome =true:=fun k hk=>by
  rw[hW1];exact isSome_setCells g _ _ w.drew (fun j hj=>hsp ((i+m)*4+j) (by rw[hdl]at hj; omega)) _ (hsp k hk)
 have hcp2: ∀(W:World),(∀x,W.cell? x=W1.cell? x)->(∀x,W.frozen? x=W1.frozen? x)-> ∀ty dc,(Builtin.copy_ #[28,28] ty #[.slice (some ⟨g,i*4,none⟩) (n+m-i) dc,.slice (some ⟨vb,0,none⟩) m vc]).run Tryz.prog W= .ok (goInt m) (W.setCells g (i*4) vs):=fun W hWc hWf ty dc=>by
  have hmin:Nat.min m (n+m-i)=m:=by simp only[Nat.min_def]; split <;> omega
  have h:=zx6 W 28 28 ty 53 4 g (i*4) (n+m-i) dc ⟨vb,0,none⟩ m vc vs t28 hsz (by rw[hvl,hmin])
   (fun j v hj=>by
    rw[Addr.add_lit,hWc,hW1,World.cell?_setCells_out g _ _ _ _ (fun h _=>absurd h hvb),Nat.zero_add];exact hvs j v hj)
   (fun j hj=>by rw[hWc]; exact hsp1 _ (by rw[hvl]at hj; omega)) (fun j hj=>by rw[hWf,hW1,World.frozen?_setCells]; exact hfz _) h1v
  rw[hmin]at h;exact h
 rw[<-hW1]at hcp1;have hWW:Hd (W1=w.drew.setCells g ((i+m)*4) (cs.drop (i*4))):=⟨hW1⟩;clear hW1 hcs hsp hfz hvs h1c h1v hsp1 hdl hcl hvl
 go_enter Tryz.func162,Tryz.ntmps162
 go_wp2_with (simp only[hov])
 go_region_law_o (refine step_copy_runI rfl _ _ 28 28 rfl _ _ (by simp[Act.eval,Act.put]) (by simp[Act.eval,Act.put]) (hcp1 _ _ _) ?_)
 go_wp2_with (at_builtin; refine wpList_copy_runI _ rfl _ _ 28 28 rfl _ _ rfl rfl (hcp2 _ (fun _=>rfl) (fun _=>rfl) _ _) ?_)
 go_ret;exact⟨rfl,by rw[hWW.out]⟩
set_option maxHeartbeats 16000000 in
/-- In the middle,without room. -/
theorem insDModule(g n c i vb m vc:Nat)(cs vs:List Value)(w:World)(hi:i<n)(hm:0<m)(hnc:n<=c)(hroom:c<n+m)(hbig:(n+m)*80<=140737488355328)(hcl:cs.length=n*4)(hvl:vs.length=m*4)
  (hcs: ∀j v,cs[j]? =some v->w.cell? ⟨g,j,none⟩=some v) (hvs: ∀j v,vs[j]? =some v->w.cell? ⟨vb,j,none⟩=some v) (h1c: ∀v∈cs,v.oneCell'=true) (h1v: ∀v∈vs,v.oneCell'=true):
  Calls Tryz.prog 162 #[.slice (some ⟨g,0,none⟩) n c,.int .i64 i,.slice (some ⟨vb,0,none⟩) m vc] w fun e w'=> ∃ROW:Array Value,
   e= .returned (.slice (some ⟨w.heap.size,0,none⟩) (n+m) (grownCap w (n+m) c 53))/\
   w'=(((w.alloc (.cells ROW 53)).drew.setCells w.heap.size (i*4) vs).drew).setCells w.heap.size ((i+m)*4) (cs.drop (i*4))/\ROW.size=grownCap w (n+m) c 53*4/\ROW.toList.take (i*4)=cs.take (i*4):=by
 obtain⟨i0,z0,t28,hi0,hz0,hzc,hzs,hzb,_⟩:=zeW tA28;have zat:=zat;have hz1: ¬((m:Int)=0):=by omega
 have hz2: ¬((i:Int)=(n:Int)):=by omega
 have hz3:(c:Int)<(n:Int)+(m:Int):=by omega
 have hsz:(Tryz.prog.info? 53).map (·.size)=some 4:=by rw[hi0]; simp[hzs]
 have hbw:g<w.heap.size:=block_lt_of_cell (hcs 0 _ (List.getElem?_eq_getElem (by omega)));have hvw:vb<w.heap.size:=block_lt_of_cell (hvs 0 _ (List.getElem?_eq_getElem (by omega)));have hkk:(n:Int)+(m:Int)-(i:Int)=((n+m-i:Nat):Int):=by omega
 have hik:i+(n+m-i)=n+m:=by omega
 have hct:(cs.take (i*4)).length =i*4:=by rw[List.length_take,hcl]; omega
 have hold:(Builtin.firstCells i0.size i (.slice (some ⟨g,0,none⟩) i c)).run Tryz.prog w.drew= .ok (cs.take (i*4)).toArray w.drew:=by
  rw[hzs];exact run_firstCells_some w.drew 4 i ⟨g,0,none⟩ i c (cs.take (i*4)) hct (fun j v hj=>by
   rw[Addr.add_lit,Nat.zero_add];rw[List.getElem?_take]at hj;split at hj
   ·exact hcs j v hj
   ·cases hj)
 obtain⟨G,hG⟩: ∃G,G=grownCap w (n+m) c 53:=⟨_,rfl⟩;obtain⟨ROW,hROW⟩: ∃ROW:Array Value,ROW=(cs.take (i*4)).toArray ++Builtin.zeroCells z0.cells (n+m-i)++Builtin.zeroCells z0.cells (G-(n+m)):=⟨_,rfl⟩;have hrz: ∀ty,(Builtin.append_ #[28,3] ty #[.slice (some ⟨g,0,none⟩) i c,.int .i64 ((n:Int)+(m:Int)-(i:Int))]).run Tryz.prog w=
   .ok (.slice (some ⟨w.heap.size,0,none⟩) (n+m) G) (w.drew.alloc (.cells ROW 53)):=fun ty=>by
  have h:=Lib.run_append_grow_zeros w 28 3 ty 53 i0 _ .i64 .i64 t28 Tryz.underlying3 hi0 hz0 (some ⟨g,0,none⟩) i c (cs.take (i*4)) hold (n+m-i) (by omega) (by rw[hzs]; omega) (by omega) (by omega) (by rw[hzb]; omega) (by rw[hzb,hik]; exact growslice_fits hroom hbig);rw[hik]at h;rw[hkk,hROW,hG];exact h
 have hGn:n+m<=G:=by rw[hG]; exact grownCap_ge w _ _ _
 have hG63:G<=9223372036854775807:=by
  have:=grownCap_le_maxLen w (n+m) c 53 (by unfold maxLen; omega);rw[<-hG]at this;unfold maxLen at this;omega
 have hRs:ROW.size=G*4:=by
  rw[hROW];have hzs: ∀q,(Builtin.zeroCells z0.cells q).size =q*4:=fun q=>by simp[Builtin.zeroCells,hzc]
  simp only[Array.size_append,List.size_toArray,hct,hzs];omega
 have hRt:ROW.toList.take (i*4)=cs.take (i*4):=by
  rw[hROW];simp only[Array.toList_append,List.append_assoc];rw[List.take_left' hct]
 rw[<-hG];obtain⟨W1,hW1⟩: ∃W1,W1=w.drew.alloc (.cells ROW 53):=⟨_,rfl⟩;rw[<-hW1]at hrz;have hN: ∀j,j<(n+m)*4->(W1.cell? ⟨w.heap.size,j,none⟩).isSome =true:=fun j hj=>by
  rw[hW1,World.cell?_alloc_at (w:=w.drew) ROW _ w.heap.size j rfl,Array.getElem?_eq_getElem (by rw[hRs]; have:=Nat.mul_le_mul_right 4 hGn; omega)]; rfl
 have hNf: ∀j,W1.frozen? ⟨w.heap.size,j,none⟩=false:=fun j=>by rw[hW1]; exact World.frozen?_alloc_at (w:=w.drew) ROW _ w.heap.size j rfl
 have hOb: ∀j v,w.cell? ⟨g,j,none⟩=some v->W1.cell? ⟨g,j,none⟩=some v:=fun j v h=>by rw[hW1,World.cell?_alloc_past (w:=w.drew) _ g j hbw]; exact h
 have hOv: ∀j v,w.cell? ⟨vb,j,none⟩=some v->W1.cell? ⟨vb,j,none⟩=some v:=fun j v h=>by rw[hW1,World.cell?_alloc_past (w:=w.drew) _ vb j hvw]; exact h
 have hcpA: ∀(W:World),(∀x,W.cell? x=W1.cell? x)->(∀x,W.frozen? x=W1.frozen? x)-> ∀ty dc,(Builtin.copy_ #[28,28] ty #[.slice (some ⟨w.heap.size,i*4,none⟩) (n+m-i) dc,.slice (some ⟨vb,0,none⟩) m vc]).run Tryz.prog W= .ok (goInt m) (W.setCells w.heap.size (i*4) vs):=fun W hWc hWf ty dc=>by
  have hmin:Nat.min m (n+m-i)=m:=by simp only[Nat.min_def]; split <;> omega
  have h:=zx6 W 28 28 ty 53 4 w.heap.size (i*4) (n+m-i) dc ⟨vb,0,none⟩ m vc vs t28 hsz (by rw[hvl,hmin])
   (fun j v hj=>by rw[Addr.add_lit,hWc,Nat.zero_add]; exact hOv _ v (hvs j v hj))
   (fun j hj=>by rw[hWc]; exact hN _ (by rw[hvl]at hj; omega)) (fun j hj=>by rw[hWf]; exact hNf _) h1v
  rw[hmin]at h;exact h
 have hGi: ¬(G=i):=by omega
 have hGim: ¬(G=i+m):=by omega
 have hci: ¬(c=i):=by omega
 have hbN:g≠w.heap.size:=by omega
 have hdl:(cs.drop (i*4)).length =(n-i)*4:=by rw[List.length_drop,hcl,Nat.sub_mul]
 have hcpB: ∀(W:World),(∀x,W.cell? x=(W1.setCells w.heap.size (i*4) vs).cell? x)->(∀x,W.frozen? x=(W1.setCells w.heap.size (i*4) vs).frozen? x)-> ∀ty dc sc,(Builtin.copy_ #[28,28] ty #[.slice (some ⟨w.heap.size,(i+m)*4,none⟩) (n+m-(i+m)) dc,.slice (some ⟨g,i*4,none⟩) (n-i) sc]).run Tryz.prog W= .ok (goInt (n-i:Nat)) (W.setCells w.heap.size ((i+m)*4) (cs.drop (i*4))):=fun W hWc hWf ty dc sc=>by
  have hmin:Nat.min (n-i) (n+m-(i+m))=n-i:=by simp only[Nat.min_def]; split <;> omega
  have h:=zx6 W 28 28 ty 53 4 w.heap.size ((i+m)*4) (n+m-(i+m)) dc ⟨g,i*4,none⟩ (n-i) sc (cs.drop (i*4)) t28 hsz (by rw[hdl,hmin])
   (fun j v hj=>by
    rw[Addr.add_lit,hWc,World.cell?_setCells_out _ _ _ _ _ (fun h _=>absurd h hbN)];exact hOb _ v (hcs (i*4+j) v (by rwa [List.getElem?_drop]at hj)))
   (fun j hj=>by rw[hWc]; exact isSome_setCells _ _ _ _ (fun t ht=>hN _ (by rw[hvl]at ht; omega)) _ (hN _ (by rw[hdl]at hj; omega)))
   (fun j hj=>by rw[hWf,World.frozen?_setCells]; exact hNf _) (fun v hv=>h1c v (List.mem_of_mem_drop hv))
  rw[hmin]at h;exact h
 subst hW1;have hE1: ∀x,((w.alloc (.cells ROW 53)).drew).cell? x=(w.drew.alloc (.cells ROW 53)).cell? x:=fun x=>rfl;have hE2: ∀x,((w.alloc (.cells ROW 53)).drew).frozen? x=(w.drew.alloc (.cells ROW 53)).frozen? x:=fun x=>rfl;have hF1: ∀x,(((w.alloc (.cells ROW 53)).drew.setCells w.heap.size (i*4) vs).drew).cell? x=((w.drew.alloc (.cells ROW 53)).setCells w.heap.size (i*4) vs).cell? x:=fun x=>rfl;have hF2: ∀x,(((w.alloc (.cells ROW 53)).drew.setCells w.heap.size (i*4) vs).drew).frozen? x=((w.drew.alloc (.cells ROW 53)).setCells w.heap.size (i*4) vs).frozen? x:=fun x=>rfl;have hw1:IntKind.i64.wrap ((i:Int)+(m:Int))=(i:Int)+(m:Int):=by rw[IntKind.wrap_i64]; omega
 have hb1:(0:Int)<=(i:Int)+(m:Int):=by omega
 have hin:i<=n:=by omega
 have htn:((i:Int)+(m:Int)).toNat =i+m:=by omega
 have hb3:(i:Int)<=(n:Int):=by omega
 have XR:Hd (ROW.size=G*4/\ROW.toList.take (i*4)=cs.take (i*4)):=⟨hRs,hRt⟩;clear hkk hik hold hROW hG hRs hRt hcs hvs h1c h1v hN hNf hOb hOv hct hcl hvl
 go_enter Tryz.func162,Tryz.ntmps162
 go_wp2_with (first
  | (at_builtin; refine Lib.wpList_append_run _ rfl _ _ _ _ rfl _ _ rfl rfl _ _ (hrz _) ?_)
  | (at_builtin; refine wpList_copy_runI _ rfl _ _ 28 28 rfl _ _ rfl rfl (hcpA _ hE1 hE2 _ _) ?_)
  | (at_builtin; refine wpList_copy_runI _ rfl _ _ 28 28 rfl _ _ rfl rfl (hcpB _ (fun _=>rfl) (fun _=>rfl) _ _ _) ?_))
 go_region_law_o (refine step_copy_runI rfl _ _ 28 28 rfl (.slice (some ⟨w.heap.size,(i+m)*4,none⟩) (n+m-(i+m)) (G-(i+m))) (.slice (some ⟨g,i*4,none⟩) (n-i) (c-i)) (by simp[Act.eval,Act.put]) (by simp[Act.eval,Act.put]) (hcpB _ hF1 hF2 3 (G-(i+m)) (c-i)) ?_)
 go_wp2;go_ret;exact⟨ROW,rfl,rfl,XR.out⟩
theorem zyU:InsW Tryz.prog 162 53 4:={
 at1:=by
  intro W g cap cur n i vb vcap vcur hg hle hcap hcur hone hi hn4 hne hvg hvc hvcur hvone;obtain⟨c,hc⟩: ∃c,cur.toList.take (n*4)=c:=⟨_,rfl⟩;obtain⟨vs,hvs⟩: ∃vs,vcur.toList.take 4=vs:=⟨_,rfl⟩;rw[hc]at hone ⊢;rw[hvs]at hvone ⊢;have hmx:cap<=9223372036854775807:=hcap;have hnk:n*4<=cur.size:=by rw[hcur]; exact Nat.mul_le_mul_right _ hle
  have hclen:c.length=n*4:=by rw[<-hc,List.length_take]; exact Nat.min_eq_left hnk
  have hvlen:vs.length=1*4:=by rw[<-hvs,List.length_take]; exact Nat.min_eq_left (by show _<=vcur.size; omega)
  have hcell: ∀j v,c[j]? =some v->W.cell? ⟨g,j,none⟩=some v:=fun j v hj=>by
   rw[<-hc,List.getElem?_take]at hj;split at hj
   ·rw[<-hj]; simp[World.cell?,hg]
   ·cases hj
  have hvcell: ∀j v,vs[j]? =some v->W.cell? ⟨vb,j,none⟩=some v:=fun j v hj=>by
   rw[<-hvs,List.getElem?_take]at hj;split at hj
   ·rw[<-hj]; simp[World.cell?,hvg]
   ·cases hj
  have hsp: ∀j,j<cap*4->(W.cell? ⟨g,j,none⟩).isSome =true:=fun j hj=>by
   simp only[World.cell?,hg];rw[show(({block:=g,off:=j,spot:=none}:Addr).spot.isSome)=false from rfl];simp only[Bool.false_eq_true,if_false];rw[Array.getElem?_eq_getElem (by omega)]; rfl
  have hfz: ∀j,W.frozen? ⟨g,j,none⟩=false:=fun t=>by simp[World.frozen?,hg]
  have hvfz: ∀j,W.frozen? ⟨vb,j,none⟩=false:=fun t=>by simp[World.frozen?,hvg]
  have hgw:g<W.heap.size:=(Array.getElem?_eq_some_iff.1 hg).1;have hct:cur.toList.take (i*4)=c.take (i*4):=by rw[<-hc,List.take_take,Nat.min_eq_left (by omega)]
  have hdl:(c.drop (i*4)).length =(n-i)*4:=by rw[List.length_drop,hclen,Nat.sub_mul]
  rcases Nat.lt_or_ge i n with h | h
  ·rcases Nat.lt_or_ge cap (n+1)with h' | h'
   ·refine(insDModule g n cap i vb 1 vcap c vs W h (by omega) hle h' (by omega) hclen hvlen hcell hvcell hone hvone).mono ?_;rintro e' W' ⟨ROW,rfl,hW,hRs,hRt⟩;obtain⟨G,hG⟩: ∃G,grownCap W (n+1) cap 53=G:=⟨_,rfl⟩;rw[hG]at hRs ⊢;have hGn:n+1<=G:=(by rw[<-hG]; exact grownCap_ge W _ _ _);have hGm:G<=maxLen:=(by rw[<-hG]; exact grownCap_le_maxLen W (n+1) cap 53 (by unfold maxLen; omega));have h0:(W.alloc (.cells ROW 53)).drew.heap[W.heap.size]? =some (.cells ROW 53 (0,0)):=World.alloc_heap_new W _;have h1:=zoK W.heap.size vs (i*4) _ _ _ _ h0;have h2:=zoK W.heap.size (c.drop (i*4)) ((i+1)*4) (((W.alloc (.cells ROW 53)).drew.setCells W.heap.size (i*4) vs).drew) _ _ _ h1;obtain⟨r1,r2,r3,r4⟩:=zlI W.heap.size (c.drop (i*4)) ((i+1)*4) (((W.alloc (.cells ROW 53)).drew.setCells W.heap.size (i*4) vs).drew);obtain⟨q1,q2,q3,q4⟩:=zlI W.heap.size vs (i*4) (W.alloc (.cells ROW 53)).drew;rw[<-hW]at h2 r1 r2 r3 r4;refine⟨W.heap.size,G,_,rfl,⟨r1.trans q1,r2.trans q2,r3.trans q3,by rw[r4,show ∀w:World,w.drew.heap.size=w.heap.size from fun _=>rfl,q4]; simp⟩,fun b hb _=> ?_,h2,.inr (Nat.le_refl _),hGn,hGm,by rw[ztU,ztU,hRs],?_⟩
    ·have hbn:b≠W.heap.size:=(by omega);rw[hW,zlH _ _ _ _ b hbn];show(((W.alloc (.cells ROW 53)).drew.setCells W.heap.size (i*4) vs)).heap[b]? =_;rw[zlH _ _ _ _ b hbn];show(W.heap.push _)[b]? =_;rw[Array.getElem?_push,if_neg hbn]
    ·have hp:=putL2 ROW (i*4) vs (c.drop (i*4)) (by rw[hvlen,hdl,hRs]; omega);rw[hvlen,hdl,hRt]at hp;rw[show(n+1)*4=i*4+1*4+(n-i)*4 by omega,show(i+1)*4=i*4+1*4 by omega];exact hp
   ·refine(insCModule g n cap i vb 1 vcap c vs W h (by omega) h' hmx hne hclen hvlen hcell (fun j hj=>hsp j (by omega)) hfz hvcell hone hvone _ _ _ _ (by simp only[World.shape?,hvg]; rfl) (by simp only[World.shape?,hg]; rfl) (by omega) (hvfz 0) (hvfz _)).mono ?_;rintro e' W' ⟨rfl,hW⟩;have h1:=zoK g (c.drop (i*4)) ((i+1)*4) W.drew _ _ _ hg;have h2:=zoK g vs (i*4) _ _ _ _ h1;obtain⟨r1,r2,r3,r4⟩:=zlI g vs (i*4) (W.drew.setCells g ((i+1)*4) (c.drop (i*4)));obtain⟨q1,q2,q3,q4⟩:=zlI g (c.drop (i*4)) ((i+1)*4) W.drew;rw[<-hW]at h2 r1 r2 r3 r4;refine⟨g,cap,_,rfl,⟨r1.trans q1,r2.trans q2,r3.trans q3,by rw[r4,q4]; exact Nat.le_refl _⟩,fun b hb hbg=> ?_,h2,.inl rfl,h',hcap,by rw[ztU,ztU,hcur],?_⟩
    ·rw[hW,zlH _ _ _ _ b hbg,zlH _ _ _ _ b hbg]; rfl
    ·have hp:=putL2' cur (i*4) vs (c.drop (i*4)) (by rw[hvlen,hdl,hcur]; omega);rw[hvlen,hdl,hct]at hp;rw[show(n+1)*4=i*4+1*4+(n-i)*4 by omega,show(i+1)*4=i*4+1*4 by omega];exact hp
  ·obtain rfl:i=n:=by omega
   have hcd:c.take (i*4)++vs++c.drop (i*4)=c++vs:=by
    rw[List.take_of_length_le (by omega),List.drop_eq_nil_of_le (by omega),List.append_nil]
   rw[hcd];rcases Nat.lt_or_ge cap (i+1)with h' | h'
   ·refine(zyZ (some ⟨g,0,none⟩) i cap vb 1 vcap c vs W (by omega) hle h' (by omega) hclen hvlen (by simp) (fun a ha j v hj=>by cases ha; rw[Addr.add_lit,Nat.zero_add]; exact hcell j v hj) hvcell hvone).mono ?_;rintro e' W' ⟨R,rfl,rfl,hRs⟩;have hGn:i+1<=grownCap W (i+1) cap 53:=grownCap_ge W _ _ _;refine⟨W.heap.size,_,_,rfl,⟨rfl,rfl,rfl,by simp⟩,fun b hb _=> ?_,World.alloc_heap_new W.drew _,.inr (Nat.le_refl _),hGn,grownCap_le_maxLen W (i+1) cap 53 (by unfold maxLen; omega),?_,?_⟩
    ·show(W.heap.push _)[b]? =_;rw[Array.getElem?_push,if_neg (by omega)]
    ·rw[Array.size_append,hRs]; simp only[List.size_toArray,List.length_append,hclen,hvlen]; omega
    ·rw[Array.toList_append]; exact List.take_left' (by simp only[List.length_append,hclen,hvlen]; omega)
   ·refine(insAModule g i cap vb 1 vcap vs W (by omega) h' hmx hvlen (fun j hj=>hsp _ (by omega)) (fun j hj=>hfz _) hvcell hvone).mono ?_;rintro e' W' ⟨rfl,hW⟩;rw[Nat.zero_add]at hW;have h1:=zoK g vs (i*4) W _ _ _ hg;obtain⟨r1,r2,r3,r4⟩:=zlI g vs (i*4) W;rw[<-hW]at h1 r1 r2 r3 r4;refine⟨g,cap,_,rfl,⟨r1,r2,r3,by rw[r4]; exact Nat.le_refl _⟩,fun b hb hbg=> ?_,h1,.inl rfl,h',hcap,by rw[ztU,hcur],?_⟩
    ·rw[hW,zlH _ _ _ _ b hbg]
    ·have hp:=putL1 cur (i*4) vs (by rw[hvlen,hcur]; omega);have hct':c.take (i*4)=c:=List.take_of_length_le (by omega);rw[hvlen,hct,hct']at hp;rw[show(i+1)*4=i*4+1*4 by omega];exact hp
 at0:=by
  intro W ad vb vcap vcur hvg hvc hvcur hvone;obtain⟨vs,hvs⟩: ∃vs,vcur.toList.take 4=vs:=⟨_,rfl⟩;rw[hvs]at hvone ⊢;have hvlen:vs.length=1*4:=by rw[<-hvs,List.length_take]; exact Nat.min_eq_left (by show _<=vcur.size; omega)
  have hvcell: ∀j v,vs[j]? =some v->W.cell? ⟨vb,j,none⟩=some v:=fun j v hj=>by
   rw[<-hvs,List.getElem?_take]at hj;split at hj
   ·rw[<-hj]; simp[World.cell?,hvg]
   ·cases hj
  refine(zyZ ad 0 0 vb 1 vcap [] vs W (by omega) (Nat.le_refl _) (by omega) (by omega) (by simp) hvlen (fun _=>rfl) (by simp) hvcell hvone).mono ?_;rintro e' W' ⟨R,rfl,rfl,hRs⟩;have hGn:0+1<=grownCap W (0+1) 0 53:=grownCap_ge W _ _ _;refine⟨W.heap.size,_,_,rfl,⟨rfl,rfl,rfl,by simp⟩,fun b hb _=> ?_,World.alloc_heap_new W.drew _,.inr (Nat.le_refl _),hGn,grownCap_le_maxLen W (0+1) 0 53 (by unfold maxLen; omega),?_,?_⟩
  ·show(W.heap.push _)[b]? =_;rw[Array.getElem?_push,if_neg (by omega)]
  ·rw[Array.size_append,hRs]; simp only[List.size_toArray,List.length_append,List.length_nil,hvlen]; omega
  ·rw[Array.toList_append]; exact List.take_left' (by simp[hvlen])}
set_option maxHeartbeats 8000000 in
/-- At the end,with room. -/
theorem insAItem(g n c vb m vc:Nat)(vs:List Value)(w:World)(hm:0<m)(hroom:n+m<=c)(hc63:c<=9223372036854775807)(hvl:vs.length=m*35)
  (hsp: ∀j,j<m*35->(w.cell? ⟨g,0+n*35+j,none⟩).isSome =true) (hfz: ∀j,j<m*35->w.frozen? ⟨g,0+n*35+j,none⟩=false)
  (hvs: ∀j v,vs[j]? =some v->w.cell? ⟨vb,j,none⟩=some v) (h1v: ∀v∈vs,v.oneCell'=true):
  Calls Tryz.prog 159 #[.slice (some ⟨g,0,none⟩) n c,.int .i64 n,.slice (some ⟨vb,0,none⟩) m vc] w fun e w'=>e= .returned (.slice (some ⟨g,0,none⟩) (n+m) c)/\w'=w.setCells g (0+n*35) vs:=by
 obtain⟨i0,z0,t28,hi0,hz0,hzc,hz1,_,_⟩:=zeW tA51;have zat:=zat;have hzz: ¬((m:Int)=0):=by omega
 have hsrc:Src Tryz.prog i0.size 51 (.slice (some ⟨vb,0,none⟩) m vc) m vs w:=by
  rw[hz1];exact Src.ofSlice w t28 ⟨vb,0,none⟩ m vc vs hvl (fun j u hj=>by rw[Addr.add_lit,Nat.zero_add]; exact hvs j u hj) h1v
 have hrun: ∀ty,(Builtin.append_ #[51,51] ty #[.slice (some ⟨g,0,none⟩) n c,.slice (some ⟨vb,0,none⟩) m vc]).run Tryz.prog w= .ok (.slice (some ⟨g,0,none⟩) (n+m) c) (w.setCells g (0+n*35) vs):=fun ty=>by
  have h:=run_append_room_src w 51 51 ty 64 i0 t28 hi0 g 0 n c _ m vs hsrc hroom (by rw[hz1,hvl]; exact hsp) (by rw[hz1,hvl]; exact hfz);rw[hz1]at h;exact h
 clear hsp hfz hvs h1v hsrc
 go_enter Tryz.func159,Tryz.ntmps159
 go_wp2_with (at_builtin; refine Lib.wpList_append_run _ rfl _ _ _ _ rfl _ _ rfl rfl _ _ (hrun _) ?_)
 go_ret;exact⟨rfl,by rw[Nat.zero_add]⟩
set_option maxHeartbeats 8000000 in
/-- At the end,without room. -/
theorem insBItem(base:Option Addr)(n c vb m vc:Nat)(cs vs:List Value)(w:World)(hm:0<m)(hnc:n<=c)(hroom:c<n+m)(hbig:(n+m)*480<=140737488355328)(hcl:cs.length=n*35)(hvl:vs.length=m*35)(hnil:base=none->n=0)
  (hcs: ∀a,base=some a-> ∀j v,cs[j]? =some v->w.cell? (a.add j)=some v)
  (hvs: ∀j v,vs[j]? =some v->w.cell? ⟨vb,j,none⟩=some v) (h1v: ∀v∈vs,v.oneCell'=true):
  Calls Tryz.prog 159 #[.slice base n c,.int .i64 n,.slice (some ⟨vb,0,none⟩) m vc] w fun e w'=> ∃(cur':Array Value),e= .returned (.slice (some ⟨w.heap.size,0,none⟩) (n+m) (grownCap w (n+m) c 64))/\
   w'=w.drew.alloc (.cells ((cs++vs).toArray ++cur') 64)/\cur'.size=(grownCap w (n+m) c 64-(n+m))*35:=by
 obtain⟨i0,z0,t28,hi0,hz0,hzc,hz1,hzb,_⟩:=zeW tA51;have zat:=zat;have hzz: ¬((m:Int)=0):=by omega
 have hsrc:Src Tryz.prog i0.size 51 (.slice (some ⟨vb,0,none⟩) m vc) m vs w:=by
  rw[hz1];exact Src.ofSlice w t28 ⟨vb,0,none⟩ m vc vs hvl (fun j u hj=>by rw[Addr.add_lit,Nat.zero_add]; exact hvs j u hj) h1v
 have hold:(Builtin.firstCells i0.size n (.slice base n c)).run Tryz.prog w.drew= .ok cs.toArray w.drew:=by
  rw[hz1];cases base with
  | none=>
   have h0:=hnil rfl;subst h0;have hc0:cs=[]:=List.length_eq_zero_iff.1 (by rw[hcl,Nat.zero_mul]);rw[hc0];exact run_firstCells_none w.drew 35 0 0 c
  | some a=>exact run_firstCells_some w.drew 35 n a n c cs hcl (fun j v hj=>hcs a rfl j v hj)
 obtain⟨R,hR⟩: ∃R:Array Value,R=Builtin.zeroCells z0.cells (grownCap w (n+m) c 64-(n+m)):=⟨_,rfl⟩;have hRs:R.size=(grownCap w (n+m) c 64-(n+m))*35:=by rw[hR]; simp[Builtin.zeroCells,hzc]
 have hrun: ∀ty,(Builtin.append_ #[51,51] ty #[.slice base n c,.slice (some ⟨vb,0,none⟩) m vc]).run Tryz.prog w= .ok (.slice (some ⟨w.heap.size,0,none⟩) (n+m) (grownCap w (n+m) c 64)) (w.drew.alloc (.cells ((cs++vs).toArray ++R) 64)):=fun ty=>by
  have h:=run_append_grow_src w 51 51 ty 64 i0 z0 t28 hi0 hz0 base n c cs hold _ m vs hsrc hroom (by omega) (by rw[hzb]; exact growslice_fits hroom hbig);rw[<-hR]at h;exact h
 obtain⟨G,hG⟩: ∃G,G=grownCap w (n+m) c 64:=⟨_,rfl⟩;rw[<-hG]at hrun hRs ⊢;have XR:Hd (R.size=(G-(n+m))*35):=⟨hRs⟩;clear hcs hvs h1v hsrc hold hR hG hRs
 go_enter Tryz.func159,Tryz.ntmps159
 cases base with
 | none=>
  have h0:=hnil rfl;subst h0
  go_wp2_with (at_builtin; refine Lib.wpList_append_run _ rfl _ _ _ _ rfl _ _ rfl rfl _ _ (hrun _) ?_)
  go_ret;exact⟨by simp,R,by simp,by rw[XR.out,Nat.zero_add]⟩
 | some a=>
  obtain⟨ab,ao,asp⟩:=a
  go_wp2_with (at_builtin; refine Lib.wpList_append_run _ rfl _ _ _ _ rfl _ _ rfl rfl _ _ (hrun _) ?_)
  all_goals (go_ret; exact⟨rfl,R,rfl,XR.out⟩)
set_option maxHeartbeats 16000000 in
/-- In the middle,with room. -/
theorem insCItem(g n c i vb m vc:Nat)(cs vs:List Value)(w:World)(hi:i<n)(hm:0<m)(hroom:n+m<=c)(hc63:c<=9223372036854775807)(hvb:vb≠g)(hcl:cs.length=n*35)(hvl:vs.length=m*35)
  (hcs: ∀j v,cs[j]? =some v->w.cell? ⟨g,j,none⟩=some v) (hsp: ∀j,j<(n+m)*35->(w.cell? ⟨g,j,none⟩).isSome =true) (hfz: ∀j,w.frozen? ⟨g,j,none⟩=false)
  (hvs: ∀j v,vs[j]? =some v->w.cell? ⟨vb,j,none⟩=some v) (h1c: ∀v∈cs,v.oneCell'=true) (h1v: ∀v∈vs,v.oneCell'=true)
  (tA tB:TypeId) (kA kB:Nat) (hsa:w.shape? vb=some (tA,kA)) (hsb:w.shape? g=some (tB,kB)) (hkB:kB≠0) (hfa:w.frozen? ⟨vb,0,none⟩=false) (hfe:w.frozen? ⟨vb,kA,none⟩=false):
  Calls Tryz.prog 159 #[.slice (some ⟨g,0,none⟩) n c,.int .i64 i,.slice (some ⟨vb,0,none⟩) m vc] w fun e w'=>
   e= .returned (.slice (some ⟨g,0,none⟩) (n+m) c)/\w'=(w.drew.setCells g ((i+m)*35) (cs.drop (i*35))).setCells g (i*35) vs:=by
 obtain⟨i0,z0,t28,hi0,hz0,hzc,hz1s,hzb,_⟩:=zeW tA51;have zat:=zat;have hz1: ¬((m:Int)=0):=by omega
 have hz2: ¬((i:Int)=(n:Int)):=by omega
 have hsz:(Tryz.prog.info? 64).map (·.size)=some 35:=by rw[hi0]; simp[hz1s]
 have hov: ∀lb cb,(callFunc 211 #[.slice (some ⟨vb,0,none⟩) m vc,.slice (some ⟨g,(i+m)*35,none⟩) lb cb]).run Tryz.prog w= .ok (.value (.bool false)) w:=fun lb cb=>by
  rw[run_callFunc_extern Tryz.func211 (by kernel_rfl) (by kernel_rfl) (by kernel_rfl) (e:=Extern.SlicesOverlaps.overlaps #[51,51] #[4]) (by kernel_rfl),
   Lib.run_overlaps_apart w 51 4 64 t28 35 Tryz.sizeOf64 ⟨vb,0,none⟩ ⟨g,(i+m)*35,none⟩ m vc lb cb hvb tA tB kA kB hsa hsb hkB hfa hfe]
  rfl
 have hdl:(cs.drop (i*35)).length =(n-i)*35:=by rw[List.length_drop,hcl,Nat.sub_mul]
 have hw1:IntKind.i64.wrap ((i:Int)+(m:Int))=(i:Int)+(m:Int):=by rw[IntKind.wrap_i64]; omega
 have hb1:(0:Int)<=(i:Int)+(m:Int):=by omega
 have hin:i<=n:=by omega
 have htn:((i:Int)+(m:Int)).toNat =i+m:=by omega
 have hb2: ¬(c=i+m):=by omega
 have hb3:(i:Int)<=(n:Int)+(m:Int):=by omega
 have hb4: ¬(c=i):=by omega
 have hcp1: ∀ty dc sc,(Builtin.copy_ #[51,51] ty #[.slice (some ⟨g,(i+m)*35,none⟩) (n+m-(i+m)) dc,.slice (some ⟨g,i*35,none⟩) (n+m-i) sc]).run Tryz.prog w.drew= .ok (goInt (n-i:Nat)) (w.drew.setCells g ((i+m)*35) (cs.drop (i*35))):=fun ty dc sc=>by
  have hmin:Nat.min (n+m-i) (n+m-(i+m))=n-i:=by simp only[Nat.min_def]; split <;> omega
  have h:=zx6 w.drew 51 51 ty 64 35 g ((i+m)*35) (n+m-(i+m)) dc ⟨g,i*35,none⟩ (n+m-i) sc (cs.drop (i*35)) t28 hsz (by rw[hdl,hmin])
   (fun j v hj=>by rw[Addr.add_lit]; exact hcs (i*35+j) v (by rwa [List.getElem?_drop]at hj))
   (fun j hj=>hsp _ (by rw[hdl]at hj; omega)) (fun j hj=>hfz _) (fun v hv=>h1c v (List.mem_of_mem_drop hv))
  rw[hmin]at h;exact h
 obtain⟨W1,hW1⟩: ∃W1,W1=w.drew.setCells g ((i+m)*35) (cs.drop (i*35)):=⟨_,rfl⟩;have hsp1: ∀k,k<(n+m)*35->(W1.cell? ⟨g,k,none⟩).isSome =true:=fun k hk=>by
  rw[hW1];exact isSome_setCells g _ _ w.drew (fun j hj=>hsp ((i+m)*35+j) (by rw[hdl]at hj; omega)) _ (hsp k hk)
 have hcp2: ∀(W:World),(∀x,W.cell? x=W1.cell? x)->(∀x,W.frozen? x=W1.frozen? x)-> ∀ty dc,(Builtin.copy_ #[51,51] ty #[.slice (some ⟨g,i*35,none⟩) (n+m-i) dc,.slice (some ⟨vb,0,none⟩) m vc]).run Tryz.prog W= .ok (goInt m) (W.setCells g (i*35) vs):=fun W hWc hWf ty dc=>by
  have hmin:Nat.min m (n+m-i)=m:=by simp only[Nat.min_def]; split <;> omega
  have h:=zx6 W 51 51 ty 64 35 g (i*35) (n+m-i) dc ⟨vb,0,none⟩ m vc vs t28 hsz (by rw[hvl,hmin])
   (fun j v hj=>by
    rw[Addr.add_lit,hWc,hW1,World.cell?_setCells_out g _ _ _ _ (fun h _=>absurd h hvb),Nat.zero_add];exact hvs j v hj)
   (fun j hj=>by rw[hWc]; exact hsp1 _ (by rw[hvl]at hj; omega)) (fun j hj=>by rw[hWf,hW1,World.frozen?_setCells]; exact hfz _) h1v
  rw[hmin]at h;exact h
 rw[<-hW1]at hcp1;have hWW:Hd (W1=w.drew.setCells g ((i+m)*35) (cs.drop (i*35))):=⟨hW1⟩;clear hW1 hcs hsp hfz hvs h1c h1v hsp1 hdl hcl hvl
 go_enter Tryz.func159,Tryz.ntmps159
 go_wp2_with (simp only[hov])
 go_region_law_o (refine step_copy_runI rfl _ _ 51 51 rfl _ _ (by simp[Act.eval,Act.put]) (by simp[Act.eval,Act.put]) (hcp1 _ _ _) ?_)
 go_wp2_with (at_builtin; refine wpList_copy_runI _ rfl _ _ 51 51 rfl _ _ rfl rfl (hcp2 _ (fun _=>rfl) (fun _=>rfl) _ _) ?_)
 go_ret;exact⟨rfl,by rw[hWW.out]⟩
set_option maxHeartbeats 16000000 in
/-- In the middle,without room. -/
theorem insDItem(g n c i vb m vc:Nat)(cs vs:List Value)(w:World)(hi:i<n)(hm:0<m)(hnc:n<=c)(hroom:c<n+m)(hbig:(n+m)*480<=140737488355328)(hcl:cs.length=n*35)(hvl:vs.length=m*35)
  (hcs: ∀j v,cs[j]? =some v->w.cell? ⟨g,j,none⟩=some v) (hvs: ∀j v,vs[j]? =some v->w.cell? ⟨vb,j,none⟩=some v) (h1c: ∀v∈cs,v.oneCell'=true) (h1v: ∀v∈vs,v.oneCell'=true):
  Calls Tryz.prog 159 #[.slice (some ⟨g,0,none⟩) n c,.int .i64 i,.slice (some ⟨vb,0,none⟩) m vc] w fun e w'=> ∃ROW:Array Value,
   e= .returned (.slice (some ⟨w.heap.size,0,none⟩) (n+m) (grownCap w (n+m) c 64))/\
   w'=(((w.alloc (.cells ROW 64)).drew.setCells w.heap.size (i*35) vs).drew).setCells w.heap.size ((i+m)*35) (cs.drop (i*35))/\ROW.size=grownCap w (n+m) c 64*35/\ROW.toList.take (i*35)=cs.take (i*35):=by
 obtain⟨i0,z0,t28,hi0,hz0,hzc,hzs,hzb,_⟩:=zeW tA51;have zat:=zat;have hz1: ¬((m:Int)=0):=by omega
 have hz2: ¬((i:Int)=(n:Int)):=by omega
 have hz3:(c:Int)<(n:Int)+(m:Int):=by omega
 have hsz:(Tryz.prog.info? 64).map (·.size)=some 35:=by rw[hi0]; simp[hzs]
 have hbw:g<w.heap.size:=block_lt_of_cell (hcs 0 _ (List.getElem?_eq_getElem (by omega)));have hvw:vb<w.heap.size:=block_lt_of_cell (hvs 0 _ (List.getElem?_eq_getElem (by omega)));have hkk:(n:Int)+(m:Int)-(i:Int)=((n+m-i:Nat):Int):=by omega
 have hik:i+(n+m-i)=n+m:=by omega
 have hct:(cs.take (i*35)).length =i*35:=by rw[List.length_take,hcl]; omega
 have hold:(Builtin.firstCells i0.size i (.slice (some ⟨g,0,none⟩) i c)).run Tryz.prog w.drew= .ok (cs.take (i*35)).toArray w.drew:=by
  rw[hzs];exact run_firstCells_some w.drew 35 i ⟨g,0,none⟩ i c (cs.take (i*35)) hct (fun j v hj=>by
   rw[Addr.add_lit,Nat.zero_add];rw[List.getElem?_take]at hj;split at hj
   ·exact hcs j v hj
   ·cases hj)
 obtain⟨G,hG⟩: ∃G,G=grownCap w (n+m) c 64:=⟨_,rfl⟩;obtain⟨ROW,hROW⟩: ∃ROW:Array Value,ROW=(cs.take (i*35)).toArray ++Builtin.zeroCells z0.cells (n+m-i)++Builtin.zeroCells z0.cells (G-(n+m)):=⟨_,rfl⟩;have hrz: ∀ty,(Builtin.append_ #[51,3] ty #[.slice (some ⟨g,0,none⟩) i c,.int .i64 ((n:Int)+(m:Int)-(i:Int))]).run Tryz.prog w=
   .ok (.slice (some ⟨w.heap.size,0,none⟩) (n+m) G) (w.drew.alloc (.cells ROW 64)):=fun ty=>by
  have h:=Lib.run_append_grow_zeros w 51 3 ty 64 i0 _ .i64 .i64 t28 Tryz.underlying3 hi0 hz0 (some ⟨g,0,none⟩) i c (cs.take (i*35)) hold (n+m-i) (by omega) (by rw[hzs]; omega) (by omega) (by omega) (by rw[hzb]; omega) (by rw[hzb,hik]; exact growslice_fits hroom hbig);rw[hik]at h;rw[hkk,hROW,hG];exact h
 have hGn:n+m<=G:=by rw[hG]; exact grownCap_ge w _ _ _
 have hG63:G<=9223372036854775807:=by
  have:=grownCap_le_maxLen w (n+m) c 64 (by unfold maxLen; omega);rw[<-hG]at this;unfold maxLen at this;omega
 have hRs:ROW.size=G*35:=by
  rw[hROW];have hzs: ∀q,(Builtin.zeroCells z0.cells q).size =q*35:=fun q=>by simp[Builtin.zeroCells,hzc]
  simp only[Array.size_append,List.size_toArray,hct,hzs];omega
 have hRt:ROW.toList.take (i*35)=cs.take (i*35):=by
  rw[hROW];simp only[Array.toList_append,List.append_assoc];rw[List.take_left' hct]
 rw[<-hG];obtain⟨W1,hW1⟩: ∃W1,W1=w.drew.alloc (.cells ROW 64):=⟨_,rfl⟩;rw[<-hW1]at hrz;have hN: ∀j,j<(n+m)*35->(W1.cell? ⟨w.heap.size,j,none⟩).isSome =true:=fun j hj=>by
  rw[hW1,World.cell?_alloc_at (w:=w.drew) ROW _ w.heap.size j rfl,Array.getElem?_eq_getElem (by rw[hRs]; have:=Nat.mul_le_mul_right 35 hGn; omega)]; rfl
 have hNf: ∀j,W1.frozen? ⟨w.heap.size,j,none⟩=false:=fun j=>by rw[hW1]; exact World.frozen?_alloc_at (w:=w.drew) ROW _ w.heap.size j rfl
 have hOb: ∀j v,w.cell? ⟨g,j,none⟩=some v->W1.cell? ⟨g,j,none⟩=some v:=fun j v h=>by rw[hW1,World.cell?_alloc_past (w:=w.drew) _ g j hbw]; exact h
 have hOv: ∀j v,w.cell? ⟨vb,j,none⟩=some v->W1.cell? ⟨vb,j,none⟩=some v:=fun j v h=>by rw[hW1,World.cell?_alloc_past (w:=w.drew) _ vb j hvw]; exact h
 have hcpA: ∀(W:World),(∀x,W.cell? x=W1.cell? x)->(∀x,W.frozen? x=W1.frozen? x)-> ∀ty dc,(Builtin.copy_ #[51,51] ty #[.slice (some ⟨w.heap.size,i*35,none⟩) (n+m-i) dc,.slice (some ⟨vb,0,none⟩) m vc]).run Tryz.prog W= .ok (goInt m) (W.setCells w.heap.size (i*35) vs):=fun W hWc hWf ty dc=>by
  have hmin:Nat.min m (n+m-i)=m:=by simp only[Nat.min_def]; split <;> omega
  have h:=zx6 W 51 51 ty 64 35 w.heap.size (i*35) (n+m-i) dc ⟨vb,0,none⟩ m vc vs t28 hsz (by rw[hvl,hmin])
   (fun j v hj=>by rw[Addr.add_lit,hWc,Nat.zero_add]; exact hOv _ v (hvs j v hj))
   (fun j hj=>by rw[hWc]; exact hN _ (by rw[hvl]at hj; omega)) (fun j hj=>by rw[hWf]; exact hNf _) h1v
  rw[hmin]at h;exact h
 have hGi: ¬(G=i):=by omega
 have hGim: ¬(G=i+m):=by omega
 have hci: ¬(c=i):=by omega
 have hbN:g≠w.heap.size:=by omega
 have hdl:(cs.drop (i*35)).length =(n-i)*35:=by rw[List.length_drop,hcl,Nat.sub_mul]
 have hcpB: ∀(W:World),(∀x,W.cell? x=(W1.setCells w.heap.size (i*35) vs).cell? x)->(∀x,W.frozen? x=(W1.setCells w.heap.size (i*35) vs).frozen? x)-> ∀ty dc sc,(Builtin.copy_ #[51,51] ty #[.slice (some ⟨w.heap.size,(i+m)*35,none⟩) (n+m-(i+m)) dc,.slice (some ⟨g,i*35,none⟩) (n-i) sc]).run Tryz.prog W= .ok (goInt (n-i:Nat)) (W.setCells w.heap.size ((i+m)*35) (cs.drop (i*35))):=fun W hWc hWf ty dc sc=>by
  have hmin:Nat.min (n-i) (n+m-(i+m))=n-i:=by simp only[Nat.min_def]; split <;> omega
  have h:=zx6 W 51 51 ty 64 35 w.heap.size ((i+m)*35) (n+m-(i+m)) dc ⟨g,i*35,none⟩ (n-i) sc (cs.drop (i*35)) t28 hsz (by rw[hdl,hmin])
   (fun j v hj=>by
    rw[Addr.add_lit,hWc,World.cell?_setCells_out _ _ _ _ _ (fun h _=>absurd h hbN)];exact hOb _ v (hcs (i*35+j) v (by rwa [List.getElem?_drop]at hj)))
   (fun j hj=>by rw[hWc]; exact isSome_setCells _ _ _ _ (fun t ht=>hN _ (by rw[hvl]at ht; omega)) _ (hN _ (by rw[hdl]at hj; omega)))
   (fun j hj=>by rw[hWf,World.frozen?_setCells]; exact hNf _) (fun v hv=>h1c v (List.mem_of_mem_drop hv))
  rw[hmin]at h;exact h
 subst hW1;have hE1: ∀x,((w.alloc (.cells ROW 64)).drew).cell? x=(w.drew.alloc (.cells ROW 64)).cell? x:=fun x=>rfl;have hE2: ∀x,((w.alloc (.cells ROW 64)).drew).frozen? x=(w.drew.alloc (.cells ROW 64)).frozen? x:=fun x=>rfl;have hF1: ∀x,(((w.alloc (.cells ROW 64)).drew.setCells w.heap.size (i*35) vs).drew).cell? x=((w.drew.alloc (.cells ROW 64)).setCells w.heap.size (i*35) vs).cell? x:=fun x=>rfl;have hF2: ∀x,(((w.alloc (.cells ROW 64)).drew.setCells w.heap.size (i*35) vs).drew).frozen? x=((w.drew.alloc (.cells ROW 64)).setCells w.heap.size (i*35) vs).frozen? x:=fun x=>rfl;have hw1:IntKind.i64.wrap ((i:Int)+(m:Int))=(i:Int)+(m:Int):=by rw[IntKind.wrap_i64]; omega
 have hb1:(0:Int)<=(i:Int)+(m:Int):=by omega
 have hin:i<=n:=by omega
 have htn:((i:Int)+(m:Int)).toNat =i+m:=by omega
 have hb3:(i:Int)<=(n:Int):=by omega
 have XR:Hd (ROW.size=G*35/\ROW.toList.take (i*35)=cs.take (i*35)):=⟨hRs,hRt⟩;clear hkk hik hold hROW hG hRs hRt hcs hvs h1c h1v hN hNf hOb hOv hct hcl hvl
 go_enter Tryz.func159,Tryz.ntmps159
 go_wp2_with (first
  | (at_builtin; refine Lib.wpList_append_run _ rfl _ _ _ _ rfl _ _ rfl rfl _ _ (hrz _) ?_)
  | (at_builtin; refine wpList_copy_runI _ rfl _ _ 51 51 rfl _ _ rfl rfl (hcpA _ hE1 hE2 _ _) ?_)
  | (at_builtin; refine wpList_copy_runI _ rfl _ _ 51 51 rfl _ _ rfl rfl (hcpB _ (fun _=>rfl) (fun _=>rfl) _ _ _) ?_))
 go_region_law_o (refine step_copy_runI rfl _ _ 51 51 rfl (.slice (some ⟨w.heap.size,(i+m)*35,none⟩) (n+m-(i+m)) (G-(i+m))) (.slice (some ⟨g,i*35,none⟩) (n-i) (c-i)) (by simp[Act.eval,Act.put]) (by simp[Act.eval,Act.put]) (hcpB _ hF1 hF2 3 (G-(i+m)) (c-i)) ?_)
 go_wp2;go_ret;exact⟨ROW,rfl,rfl,XR.out⟩
theorem insertItem_w:InsW Tryz.prog 159 64 35:={
 at1:=by
  intro W g cap cur n i vb vcap vcur hg hle hcap hcur hone hi hn4 hne hvg hvc hvcur hvone;obtain⟨c,hc⟩: ∃c,cur.toList.take (n*35)=c:=⟨_,rfl⟩;obtain⟨vs,hvs⟩: ∃vs,vcur.toList.take 35=vs:=⟨_,rfl⟩;rw[hc]at hone ⊢;rw[hvs]at hvone ⊢;have hmx:cap<=9223372036854775807:=hcap;have hnk:n*35<=cur.size:=by rw[hcur]; exact Nat.mul_le_mul_right _ hle
  have hclen:c.length=n*35:=by rw[<-hc,List.length_take]; exact Nat.min_eq_left hnk
  have hvlen:vs.length=1*35:=by rw[<-hvs,List.length_take]; exact Nat.min_eq_left (by show _<=vcur.size; omega)
  have hcell: ∀j v,c[j]? =some v->W.cell? ⟨g,j,none⟩=some v:=fun j v hj=>by
   rw[<-hc,List.getElem?_take]at hj;split at hj
   ·rw[<-hj]; simp[World.cell?,hg]
   ·cases hj
  have hvcell: ∀j v,vs[j]? =some v->W.cell? ⟨vb,j,none⟩=some v:=fun j v hj=>by
   rw[<-hvs,List.getElem?_take]at hj;split at hj
   ·rw[<-hj]; simp[World.cell?,hvg]
   ·cases hj
  have hsp: ∀j,j<cap*35->(W.cell? ⟨g,j,none⟩).isSome =true:=fun j hj=>by
   simp only[World.cell?,hg];rw[show(({block:=g,off:=j,spot:=none}:Addr).spot.isSome)=false from rfl];simp only[Bool.false_eq_true,if_false];rw[Array.getElem?_eq_getElem (by omega)]; rfl
  have hfz: ∀j,W.frozen? ⟨g,j,none⟩=false:=fun t=>by simp[World.frozen?,hg]
  have hvfz: ∀j,W.frozen? ⟨vb,j,none⟩=false:=fun t=>by simp[World.frozen?,hvg]
  have hgw:g<W.heap.size:=(Array.getElem?_eq_some_iff.1 hg).1;have hct:cur.toList.take (i*35)=c.take (i*35):=by rw[<-hc,List.take_take,Nat.min_eq_left (by omega)]
  have hdl:(c.drop (i*35)).length =(n-i)*35:=by rw[List.length_drop,hclen,Nat.sub_mul]
  rcases Nat.lt_or_ge i n with h | h
  ·rcases Nat.lt_or_ge cap (n+1)with h' | h'
   ·refine(insDItem g n cap i vb 1 vcap c vs W h (by omega) hle h' (by omega) hclen hvlen hcell hvcell hone hvone).mono ?_;rintro e' W' ⟨ROW,rfl,hW,hRs,hRt⟩;obtain⟨G,hG⟩: ∃G,grownCap W (n+1) cap 64=G:=⟨_,rfl⟩;rw[hG]at hRs ⊢;have hGn:n+1<=G:=(by rw[<-hG]; exact grownCap_ge W _ _ _);have hGm:G<=maxLen:=(by rw[<-hG]; exact grownCap_le_maxLen W (n+1) cap 64 (by unfold maxLen; omega));have h0:(W.alloc (.cells ROW 64)).drew.heap[W.heap.size]? =some (.cells ROW 64 (0,0)):=World.alloc_heap_new W _;have h1:=zoK W.heap.size vs (i*35) _ _ _ _ h0;have h2:=zoK W.heap.size (c.drop (i*35)) ((i+1)*35) (((W.alloc (.cells ROW 64)).drew.setCells W.heap.size (i*35) vs).drew) _ _ _ h1;obtain⟨r1,r2,r3,r4⟩:=zlI W.heap.size (c.drop (i*35)) ((i+1)*35) (((W.alloc (.cells ROW 64)).drew.setCells W.heap.size (i*35) vs).drew);obtain⟨q1,q2,q3,q4⟩:=zlI W.heap.size vs (i*35) (W.alloc (.cells ROW 64)).drew;rw[<-hW]at h2 r1 r2 r3 r4;refine⟨W.heap.size,G,_,rfl,⟨r1.trans q1,r2.trans q2,r3.trans q3,by rw[r4,show ∀w:World,w.drew.heap.size=w.heap.size from fun _=>rfl,q4]; simp⟩,fun b hb _=> ?_,h2,.inr (Nat.le_refl _),hGn,hGm,by rw[ztU,ztU,hRs],?_⟩
    ·have hbn:b≠W.heap.size:=(by omega);rw[hW,zlH _ _ _ _ b hbn];show(((W.alloc (.cells ROW 64)).drew.setCells W.heap.size (i*35) vs)).heap[b]? =_;rw[zlH _ _ _ _ b hbn];show(W.heap.push _)[b]? =_;rw[Array.getElem?_push,if_neg hbn]
    ·have hp:=putL2 ROW (i*35) vs (c.drop (i*35)) (by rw[hvlen,hdl,hRs]; omega);rw[hvlen,hdl,hRt]at hp;rw[show(n+1)*35=i*35+1*35+(n-i)*35 by omega,show(i+1)*35=i*35+1*35 by omega];exact hp
   ·refine(insCItem g n cap i vb 1 vcap c vs W h (by omega) h' hmx hne hclen hvlen hcell (fun j hj=>hsp j (by omega)) hfz hvcell hone hvone _ _ _ _ (by simp only[World.shape?,hvg]; rfl) (by simp only[World.shape?,hg]; rfl) (by omega) (hvfz 0) (hvfz _)).mono ?_;rintro e' W' ⟨rfl,hW⟩;have h1:=zoK g (c.drop (i*35)) ((i+1)*35) W.drew _ _ _ hg;have h2:=zoK g vs (i*35) _ _ _ _ h1;obtain⟨r1,r2,r3,r4⟩:=zlI g vs (i*35) (W.drew.setCells g ((i+1)*35) (c.drop (i*35)));obtain⟨q1,q2,q3,q4⟩:=zlI g (c.drop (i*35)) ((i+1)*35) W.drew;rw[<-hW]at h2 r1 r2 r3 r4;refine⟨g,cap,_,rfl,⟨r1.trans q1,r2.trans q2,r3.trans q3,by rw[r4,q4]; exact Nat.le_refl _⟩,fun b hb hbg=> ?_,h2,.inl rfl,h',hcap,by rw[ztU,ztU,hcur],?_⟩
    ·rw[hW,zlH _ _ _ _ b hbg,zlH _ _ _ _ b hbg]; rfl
    ·have hp:=putL2' cur (i*35) vs (c.drop (i*35)) (by rw[hvlen,hdl,hcur]; omega);rw[hvlen,hdl,hct]at hp;rw[show(n+1)*35=i*35+1*35+(n-i)*35 by omega,show(i+1)*35=i*35+1*35 by omega];exact hp
  ·obtain rfl:i=n:=by omega
   have hcd:c.take (i*35)++vs++c.drop (i*35)=c++vs:=by
    rw[List.take_of_length_le (by omega),List.drop_eq_nil_of_le (by omega),List.append_nil]
   rw[hcd];rcases Nat.lt_or_ge cap (i+1)with h' | h'
   ·refine(insBItem (some ⟨g,0,none⟩) i cap vb 1 vcap c vs W (by omega) hle h' (by omega) hclen hvlen (by simp) (fun a ha j v hj=>by cases ha; rw[Addr.add_lit,Nat.zero_add]; exact hcell j v hj) hvcell hvone).mono ?_;rintro e' W' ⟨R,rfl,rfl,hRs⟩;have hGn:i+1<=grownCap W (i+1) cap 64:=grownCap_ge W _ _ _;refine⟨W.heap.size,_,_,rfl,⟨rfl,rfl,rfl,by simp⟩,fun b hb _=> ?_,World.alloc_heap_new W.drew _,.inr (Nat.le_refl _),hGn,grownCap_le_maxLen W (i+1) cap 64 (by unfold maxLen; omega),?_,?_⟩
    ·show(W.heap.push _)[b]? =_;rw[Array.getElem?_push,if_neg (by omega)]
    ·rw[Array.size_append,hRs]; simp only[List.size_toArray,List.length_append,hclen,hvlen]; omega
    ·rw[Array.toList_append]; exact List.take_left' (by simp only[List.length_append,hclen,hvlen]; omega)
   ·refine(insAItem g i cap vb 1 vcap vs W (by omega) h' hmx hvlen (fun j hj=>hsp _ (by omega)) (fun j hj=>hfz _) hvcell hvone).mono ?_;rintro e' W' ⟨rfl,hW⟩;rw[Nat.zero_add]at hW;have h1:=zoK g vs (i*35) W _ _ _ hg;obtain⟨r1,r2,r3,r4⟩:=zlI g vs (i*35) W;rw[<-hW]at h1 r1 r2 r3 r4;refine⟨g,cap,_,rfl,⟨r1,r2,r3,by rw[r4]; exact Nat.le_refl _⟩,fun b hb hbg=> ?_,h1,.inl rfl,h',hcap,by rw[ztU,hcur],?_⟩
    ·rw[hW,zlH _ _ _ _ b hbg]
    ·have hp:=putL1 cur (i*35) vs (by rw[hvlen,hcur]; omega);have hct':c.take (i*35)=c:=List.take_of_length_le (by omega);rw[hvlen,hct,hct']at hp;rw[show(i+1)*35=i*35+1*35 by omega];exact hp
 at0:=by
  intro W ad vb vcap vcur hvg hvc hvcur hvone;obtain⟨vs,hvs⟩: ∃vs,vcur.toList.take 35=vs:=⟨_,rfl⟩;rw[hvs]at hvone ⊢;have hvlen:vs.length=1*35:=by rw[<-hvs,List.length_take]; exact Nat.min_eq_left (by show _<=vcur.size; omega)
  have hvcell: ∀j v,vs[j]? =some v->W.cell? ⟨vb,j,none⟩=some v:=fun j v hj=>by
   rw[<-hvs,List.getElem?_take]at hj;split at hj
   ·rw[<-hj]; simp[World.cell?,hvg]
   ·cases hj
  refine(insBItem ad 0 0 vb 1 vcap [] vs W (by omega) (Nat.le_refl _) (by omega) (by omega) (by simp) hvlen (fun _=>rfl) (by simp) hvcell hvone).mono ?_;rintro e' W' ⟨R,rfl,rfl,hRs⟩;have hGn:0+1<=grownCap W (0+1) 0 64:=grownCap_ge W _ _ _;refine⟨W.heap.size,_,_,rfl,⟨rfl,rfl,rfl,by simp⟩,fun b hb _=> ?_,World.alloc_heap_new W.drew _,.inr (Nat.le_refl _),hGn,grownCap_le_maxLen W (0+1) 0 64 (by unfold maxLen; omega),?_,?_⟩
  ·show(W.heap.push _)[b]? =_;rw[Array.getElem?_push,if_neg (by omega)]
  ·rw[Array.size_append,hRs]; simp only[List.size_toArray,List.length_append,List.length_nil,hvlen]; omega
  ·rw[Array.toList_append]; exact List.take_left' (by simp[hvlen])}
end
section
open Go.Aw Go.Sort Go.RowKit Go.Lib Go.Shelf
set_option maxRecDepth 1000000
variable {α:Type} [Inhabited α]
/-- What does not change on the way: all but one block of cells. -/
structure Frm (W wr:World) (g:Nat) (e:TypeId) (sz:Nat):Prop where
 os:wr.os=W.os
 tape:wr.tape=W.tape
 output:wr.output=W.output
 size:W.heap.size<=wr.heap.size
 same: ∀b,b<W.heap.size->b≠g->wr.heap[b]? =W.heap[b]?
 cells: ∃cur,wr.heap[g]? =some (.cells cur e (0,0))/\cur.size=sz
theorem Frm.grow{W wr:World}{g:Nat}{e:TypeId}{sz:Nat}(h:Frm W wr g e sz)(hg:g<W.heap.size)(q:Nat)(os':Array Obj):Frm W (grow (wr.drewN q) os') g e sz:=by
 have hb: ∀b,b<wr.heap.size->(Go.Sort.grow (wr.drewN q) os').heap[b]? =wr.heap[b]? :=fun b hb=>by
  show(wr.heap++os')[b]? =_;rw[Array.getElem?_append_left hb]
 have hgw:g<wr.heap.size:=Nat.lt_of_lt_of_le hg h.size;refine⟨h.os,h.tape,h.output,Nat.le_trans h.size (by show wr.heap.size<=(wr.heap++os').size; simp),fun b hlt hne=> ?_,?_⟩
 ·rw[hb b (Nat.lt_of_lt_of_le hlt h.size),h.same b hlt hne]
 ·rw[hb g hgw]; exact h.cells
theorem Frm.put{W wr:World}{g:Nat}{e:TypeId}{sz:Nat}(h:Frm W wr g e sz)(o:Nat)(vs:List Value):Frm W (wr.setCells g o vs) g e sz:=by
 obtain⟨r1,r2,r3,r4⟩:=zlI g vs o wr;obtain⟨cur,h1,h2⟩:=h.cells;exact⟨r1.trans h.os,r2.trans h.tape,r3.trans h.output,by rw[r4]; exact h.size,fun b hlt hne=>by rw[zlH g vs o wr b hne]; exact h.same b hlt hne,_,zoK g vs o wr cur e (0,0) h1,by rw[ztU]; exact h2⟩
theorem Frm.drew{W wr:World}{g:Nat}{e:TypeId}{sz:Nat}(h:Frm W wr g e sz):Frm W wr.drew g e sz:=⟨h.os,h.tape,h.output,h.size,h.same,h.cells⟩
theorem zb3{enc:α->List Value}{k:Nat}{wr:World}{g off:Nat}{d:Array α}(h:HoldsK enc k wr g off d)(hg:g<wr.heap.size)(q:Nat)(os':Array Obj):HoldsK enc k (grow (wr.drewN q) os') g off d:=by
 refine holdsK_grow enc k (wr.drewN q) os' g off d hg ?_;exact h
theorem setMany_set(enc:α->List Value)(k:Nat)(hk: ∀x,(enc x).length =k)(d:Array α)(i:Nat)(x:α)(hi:i<d.size):setMany (flatK enc k d) (i*k) (enc x)=flatK enc k (d.setIfInBounds i x):=by
 have hb:i*k+k<=d.size*k:=by have:=Nat.mul_le_mul_right k (show i+1<=d.size from hi); rwa [Nat.add_mul,Nat.one_mul]at this
 apply Array.ext
 ·simp
 ·intro t h1 h2;have ht:t<d.size*k:=by simpa using h1
  have hk0:0<k:=Nat.pos_of_ne_zero fun h=>by subst h; simp at ht
  rw[<-getElem!_pos _ t h1,<-getElem!_pos _ t h2,get_setMany _ _ _ t (by simpa using ht),get_flatK _ _ _ t ht,get_flatK _ _ _ t (by simpa using ht),hk];have hd:t / k<d.size:=Nat.div_lt_of_lt_mul (by rw[Nat.mul_comm]; exact ht);by_cases e:t / k=i
  ·have h3:i*k<=t/\t<i*k+k:=by
    have a1:=Nat.div_add_mod t k;have a2:=Nat.mod_lt t hk0;rw[e,Nat.mul_comm]at a1;omega
   rw[if_pos h3];have h4:t-i*k=t % k:=by
    have a1:=Nat.div_add_mod t k;rw[e,Nat.mul_comm]at a1;omega
   have hx:(d.setIfInBounds i x)[i]! =x:=by
    rw[getElem!_pos (d.setIfInBounds i x) i (by simpa using hi)];simp
   rw[h4,e,hx]
  ·have h3: ¬(i*k<=t/\t<i*k+k):=fun⟨a,b⟩=>e (by
    apply Nat.div_eq_of_lt_le
    ·exact a
    ·rw[Nat.add_mul,Nat.one_mul]; exact b)
   have hx:(d.setIfInBounds i x)[t / k]! =d[t / k]! :=by
    rw[getElem!_pos (d.setIfInBounds i x) (t / k) (by simpa using hd),getElem!_pos d (t / k) hd];exact Array.getElem_setIfInBounds_ne _ (Ne.symm e)
   rw[if_neg h3,hx]
theorem zvA{enc:α->List Value}{k:Nat}(hk: ∀x,(enc x).length =k){W:World}{g off:Nat}{d:Array α}(h:HoldsK enc k W g off d)(i:Nat)(x:α)(hi:i<d.size):HoldsK enc k (W.setCells g (off+i*k) (enc x)) g off (d.setIfInBounds i x):=by
 have hb:i*k+k<=d.size*k:=by have:=Nat.mul_le_mul_right k (show i+1<=d.size from hi); rwa [Nat.add_mul,Nat.one_mul]at this
 unfold HoldsK;rw[<-setMany_set enc k hk d i x hi];exact holds_setCells_c h (i*k) (enc x) (by rw[hk,size_flatK]; exact hb)
theorem zua{P:Program}(w:World)(t e ty:TypeId)(z:Value)(ht:P.underlying t=some (.slice e))(hv: ∀w,(zeroValue e).run P w= .ok z w)(b o n c:Nat)(hn:0<n)(h1: ∀v∈(Builtin.zeroCells z.cells n).toList,v.oneCell'=true)
  (hc: ∀j,j<(Builtin.zeroCells z.cells n).toList.length ->(w.cell? ⟨b,o+j,none⟩).isSome =true) (hf: ∀j,j<(Builtin.zeroCells z.cells n).toList.length ->w.frozen? ⟨b,o+j,none⟩=false):
  (Builtin.clear_ #[t] ty #[.slice (some ⟨b,o,none⟩) n c]).run P w= .ok (.tuple #[]) (w.setCells b o (Builtin.zeroCells z.cells n).toList):=by
 have hst:=run_storeCells_cells (P:=P) b o (Builtin.zeroCells z.cells n).toList 0 w (by simpa using hc) (by simpa using hf) h1;simp only[Nat.add_zero]at hst;obtain⟨m,rfl⟩: ∃m,n=m+1:=⟨n-1,by omega⟩;simp[Builtin.clear_,run_underlying ht,hv,hst]
theorem zpR{cells:Array Value}(h0:0<cells.size)(h: ∀v∈cells.toList,v.oneCell'=true)(n:Nat): ∀v∈(Builtin.zeroCells cells n).toList,v.oneCell'=true:=by
 intro v hv;simp only[Builtin.zeroCells,Array.toList_map,List.mem_map]at hv;obtain⟨i,_,rfl⟩:=hv;have hi:i % cells.size<cells.size:=Nat.mod_lt _ h0;rw[getElem!_pos cells _ hi];exact h _ (by simp)
structure Hc (p:Prop):Prop where
 out:p
def CompQ(d:Array α)(ef:α->α->Bool)(W:World)(g off cap:Nat)(e:TypeId)(sz:Nat)(e':Ending)(W':World):Prop:=
 ∃m:Nat,e'= .returned (.slice (some ⟨g,off,none⟩) m cap)/\Frm W W' g e sz/\((m=d.size/\ ∀j,j+1<d.size->ef d[j+1]! d[j]! =false)\/(m<d.size/\ ∃j,j+1<d.size/\ef d[j+1]! d[j]! =true))
set_option maxHeartbeats 8000000 in
theorem zwJ{P:Program}(hP:Tryz.prog=P)(enc:α->List Value)(k:Nat)(hk2:k=35)(hk: ∀x,(enc x).length =k)(h1: ∀x,∀v∈enc x,v.oneCell'=true)(ef:α->α->Bool)(gf:Nat)(cb:Array Value)(g off cap sz:Nat)(d:Array α)(W:World)
  (eg: ∀args w,(callFunc gf args).run P w= .ok (.enter gf args) w)
  (hcmp: ∀wr,Frm W wr g 64 sz-> ∀x y:α,Calls P gf (#[.agg (enc x).toArray,.agg (enc y).toArray]++cb) wr fun e w'=>e= .returned (.bool (ef x y))/\ ∃q os',w'=grow (wr.drewN q) os')
  (hH:HoldsK enc k W g off d) (hg: ∃cur,W.heap[g]? =some (.cells cur 64 (0,0))/\cur.size=sz) (hcap:d.size<=cap) (hmx:cap<=9223372036854775807) (hsz:d.size<4611686018427387904):
  Calls P 108 #[.slice (some ⟨g,off,none⟩) d.size cap,.func (.func gf) #[] cb] W (CompQ d ef W g off cap 64 sz):=by
 have F:=Tryz.func108;have zat:=zat;have t0:=Tryz.underlying0; have a0:=Tryz.isAgg0; have z0:=Tryz.sizeOf0; have v0:=Tryz.zeroValue0;have t3:=Tryz.underlying3; have a3:=Tryz.isAgg3; have z3:=Tryz.sizeOf3; have v3:=Tryz.zeroValue3;have t4:=Tryz.underlying4; have a4:=Tryz.isAgg4; have z4:=Tryz.sizeOf4; have v4:=Tryz.zeroValue4;have tS:=Tryz.underlying51; have aS:=Tryz.isAgg51; have zS:=Tryz.sizeOf51; have vS:=Tryz.zeroValue51;have aE:=Tryz.isAgg64; have zE:=Tryz.sizeOf64;have uS:=run_underlying tS;obtain⟨i0,zz,_,hi0,hz0,hzc,_,_,_⟩:=zeW tA51;have hz0v: ∀w,(zeroValue 64).run Tryz.prog w= .ok zz w:=fun w=>by simp[zeroValue,typeInfo,hi0,hz0]
 have hz1: ∀v∈zz.cells.toList,v.oneCell'=true:=by
  have h0:=Tryz.zeroValue64 W;rw[hz0v W]at h0;cases h0;rw[<-List.all_eq_true];kernel_rfl
 have ZV:Hc (∀w,(zeroValue 64).run P w= .ok zz w):=⟨by rw[<-hP]; exact hz0v⟩;have ZS:Hc (zz.cells.size=k):=⟨by rw[hk2]; exact hzc⟩;have ZO:Hc (∀n,∀v∈(Builtin.zeroCells zz.cells n).toList,v.oneCell'=true):=⟨fun n=>zpR (by rw[hzc]; omega) hz1 n⟩;clear hi0 hz0 hzc hz0v hz1;rw[<-hk2]at zE;rw[hP]at F zat t0 a0 z0 v0 t3 a3 z3 v3 t4 a4 z4 v4 tS aS zS vS aE zE uS;clear hk2;obtain⟨cur,hg1,hg2⟩:=hg;have hgW:g<W.heap.size:=(Array.getElem?_eq_some_iff.1 hg1).1;have F0:Frm W W g 64 sz:=⟨rfl,rfl,rfl,Nat.le_refl _,fun _ _ _=>rfl,cur,hg1,hg2⟩;have HC:Hc (∀wr,Frm W wr g 64 sz-> ∀x y:α,Calls P gf (#[.agg (enc x).toArray,.agg (enc y).toArray]++cb) wr fun e w'=>e= .returned (.bool (ef x y))/\ ∃q os',w'=grow (wr.drewN q) os'):=⟨hcmp⟩;have HK:Hc (∀x,(enc x).length =k):=⟨hk⟩;have H1:Hc (∀x,∀v∈enc x,v.oneCell'=true):=⟨h1⟩;have HF0:Hc (Frm W W g 64 sz):=⟨F0⟩;have HH0:Hc (HoldsK enc k W g off d):=⟨hH⟩;clear hcmp hk h1 F0 hH hg1 hg2;by_cases h2:d.size<2
 ·have h2z:(d.size:Int)<2:=by omega
  go_enter F,Tryz.ntmps108
  go_wp2;go_ret;exact⟨d.size,rfl,HF0.out,.inl ⟨rfl,fun j hj=>by omega⟩⟩
 ·have h2z: ¬(d.size:Int)<2:=by omega
  go_enter F,Tryz.ntmps108
  go_wp2
  go_loopg [5] d.size (fun g1 s5 wr=> ∃kk:Nat,1<=kk/\kk<=d.size/\d.size-kk<=g1/\s5= .int .i64 kk/\Hc (HoldsK enc k wr g off d)/\Hc (Frm W wr g 64 sz)/\Hc (∀j,j+1<kk->ef d[j+1]! d[j]! =false))
  case atStart=>exact⟨1,Nat.le_refl _,by omega,by omega,rfl,HH0,HF0,⟨fun j hj=>by omega⟩⟩
  case round=>
   obtain⟨kk,hk1,hkn,hg1,rfl,HH,HF,HA⟩:=hrel;by_cases hlt:kk<d.size
   ·obtain⟨jp,rfl⟩: ∃jp,kk=jp+1:=⟨kk-1,by omega⟩;obtain⟨xj,hxj⟩: ∃x,d[jp+1]! =x:=⟨_,rfl⟩;obtain⟨xp,hxp⟩: ∃x,d[jp]! =x:=⟨_,rfl⟩;have hwp:IntKind.i64.wrap (jp:Int)=(jp:Int):=(by rw[IntKind.wrap_i64]; omega);have jz:(jp:Int)+1<(d.size:Int):=(by omega);have jz1:(jp:Int)<(d.size:Int):=(by omega);have p0:(0:Int)<=(jp:Int)+1:=(by omega);have e0:((jp:Int)+1).toNat =jp+1:=(by omega);have hgw:g<wr.heap.size:=Nat.lt_of_lt_of_le hgW HF.out.size;have lj: ∀n' os',Sem.run P (loadCellsFrom ⟨g,off+(jp+1)*k,none⟩ 0 k #[]) (grow (wr.drewN n') os')= .ok (enc xj).toArray (grow (wr.drewN n') os'):=fun n' os'=>by
     rw[<-hxj]; exact run_loadCellsFrom_list P _ _ _ k (HK.out _) (HoldsK.cells (zb3 HH.out hgw n' os') HK.out (by omega))
    have lp: ∀n' os',Sem.run P (loadCellsFrom ⟨g,off+jp*k,none⟩ 0 k #[]) (grow (wr.drewN n') os')= .ok (enc xp).toArray (grow (wr.drewN n') os'):=fun n' os'=>by
     rw[<-hxp]; exact run_loadCellsFrom_list P _ _ _ k (HK.out _) (HoldsK.cells (zb3 HH.out hgw n' os') HK.out (by omega))
    have hcg: ∀n' os',Calls P gf (#[.agg (enc xj).toArray,.agg (enc xp).toArray]++cb) (grow (wr.drewN n') os') fun e w'=>e= .returned (.bool (ef xj xp))/\ ∃q os'',w'=grow ((grow (wr.drewN n') os').drewN q) os'':=fun n' os'=>
     HC.out _ (HF.out.grow hgW n' os') xj xp
    have HX:Hc (d[jp+1]! =xj/\d[jp]! =xp):=⟨hxj,hxp⟩;clear hxj hxp;cases hev:ef xj xp with
    | false=>
     rw[hev]at hcg
     go_wp2_with fail
     go_quiet_grown (first | (go_at_fn gf; refine Calls.grown_of (hcg _ _)))
     go_wp2
     go_roundg (d.size-(jp+1+1))
     case measure=>omega
     case rel=>
      refine⟨jp+1+1,by omega,by omega,Nat.le_refl _,by go_num,⟨zb3 HH.out hgw _ _⟩,⟨HF.out.grow hgW _ _⟩,⟨fun j hj=> ?_⟩⟩;by_cases e:j=jp
      ·subst e; rw[HX.out.1,HX.out.2]; exact hev
      ·exact HA.out j (by omega)
    | true=>
     rw[hev]at hcg;have hck: ¬(cap=jp+1):=by omega
     go_wp2_with fail
     go_quiet_grown (first | (go_at_fn gf; refine Calls.grown_of (hcg _ _)))
     go_wp2;have HD:Hc (ef d[jp+1]! d[jp]! =true):=⟨by rw[HX.out.1,HX.out.2]; exact hev⟩;have HH2:=zb3 HH.out hgw nq osq;have HF2:=HF.out.grow hgW nq osq;clear lj lp hcg hev HX HA hgw;generalize grow (wr.drewN nq) osq=wq at HH2 HF2 ⊢;have HH3:Hc (HoldsK enc k wq g off d):=⟨HH2⟩;have HF3:Hc (Frm W wq g 64 sz):=⟨HF2⟩;clear HH2 HF2 HH HF
     go_loopg [5,7] d.size (fun g2 s5 s7 wr=> ∃(k5 k7:Nat),s5= .int .i64 k5/\s7= .int .i64 k7/\1<=k5/\1<=k7/\k5<=jp+k7/\jp+1+k7<=d.size/\d.size-(jp+1+k7)<=g2/\ ∃dk:Array α,dk.size=d.size/\Hc (HoldsK enc k wr g off dk)/\Hc (Frm W wr g 64 sz))
     case atStart=>exact⟨jp+1,1,by go_num,rfl,by omega,Nat.le_refl _,by omega,by omega,by omega,d,rfl,HH3,HF3⟩
     case round=>
      obtain⟨k5,k7,rfl,rfl,h51,h71,h57,hle,hg2,dk,hdk,HH,HF⟩:=hrel;by_cases hlt2:jp+1+k7<d.size
      ·obtain⟨q,rfl⟩: ∃q,k7=q+1:=⟨k7-1,by omega⟩;obtain⟨xj,hxj⟩: ∃x,dk[jp+1+(q+1)]! =x:=⟨_,rfl⟩;obtain⟨xp,hxp⟩: ∃x,dk[jp+1+q]! =x:=⟨_,rfl⟩;have hwq:IntKind.i64.wrap (q:Int)=(q:Int):=(by rw[IntKind.wrap_i64]; omega);have qz:(q:Int)+1<((d.size-(jp+1):Nat):Int):=(by omega);have qz1:(q:Int)<((d.size-(jp+1):Nat):Int):=(by omega);have q0:(0:Int)<=(q:Int)+1:=(by omega);have qe0:((q:Int)+1).toNat =q+1:=(by omega);have hgw:g<wr.heap.size:=Nat.lt_of_lt_of_le hgW HF.out.size;have ea:off+(jp+1)*k+(q+1)*k=off+(jp+1+(q+1))*k:=(by rw[Nat.add_mul (jp+1) (q+1) k]; omega);have eb:off+(jp+1)*k+q*k=off+(jp+1+q)*k:=(by rw[Nat.add_mul (jp+1) q k]; omega);have lj: ∀n' os',Sem.run P (loadCellsFrom ⟨g,off+(jp+1)*k+(q+1)*k,none⟩ 0 k #[]) (grow (wr.drewN n') os')= .ok (enc xj).toArray (grow (wr.drewN n') os'):=fun n' os'=>by
        rw[ea,<-hxj]; exact run_loadCellsFrom_list P _ _ _ k (HK.out _) (HoldsK.cells (zb3 HH.out hgw n' os') HK.out (by omega))
       have lp: ∀n' os',Sem.run P (loadCellsFrom ⟨g,off+(jp+1)*k+q*k,none⟩ 0 k #[]) (grow (wr.drewN n') os')= .ok (enc xp).toArray (grow (wr.drewN n') os'):=fun n' os'=>by
        rw[eb,<-hxp]; exact run_loadCellsFrom_list P _ _ _ k (HK.out _) (HoldsK.cells (zb3 HH.out hgw n' os') HK.out (by omega))
       have hcg: ∀n' os',Calls P gf (#[.agg (enc xj).toArray,.agg (enc xp).toArray]++cb) (grow (wr.drewN n') os') fun e w'=>e= .returned (.bool (ef xj xp))/\ ∃q os'',w'=grow ((grow (wr.drewN n') os').drewN q) os'':=fun n' os'=>
        HC.out _ (HF.out.grow hgW n' os') xj xp
       clear ea eb;cases hev:ef xj xp with
       | true=>
        rw[hev]at hcg
        go_wp2_with fail
        go_quiet_grown (first | (go_at_fn gf; refine Calls.grown_of (hcg _ _)))
        go_wp2
        go_roundg (d.size-(jp+1+(q+1+1)))
        case measure=>omega
        case rel=>exact⟨k5,q+1+1,rfl,by go_num,h51,by omega,by omega,by omega,Nat.le_refl _,dk,hdk,⟨zb3 HH.out hgw _ _⟩,⟨HF.out.grow hgW _ _⟩⟩
       | false=>
        rw[hev]at hcg
        go_wp2_with fail
        go_quiet_grown (first | (go_at_fn gf; refine Calls.grown_of (hcg _ _)))
        have HHn:Hc (HoldsK enc k (grow (wr.drewN nq) osq) g off dk):=⟨zb3 HH.out hgw nq osq⟩;have HFn:Hc (Frm W (grow (wr.drewN nq) osq) g 64 sz):=⟨HF.out.grow hgW nq osq⟩;have l2:=lj nq osq;clear lj lp hcg;generalize grow (wr.drewN nq) osq=wq2 at HHn HFn l2 ⊢;have hb5:k5*k+k<=dk.size*k:=(by have:=Nat.mul_le_mul_right k (show k5+1<=dk.size by omega); rwa [Nat.add_mul,Nat.one_mul]at this);have s1:Sem.run P (storeCells ⟨g,off+k5*k,none⟩ (enc xj) 0) wq2= .ok () (wq2.setCells g (off+k5*k) (enc xj)):=stores_of_holds P HHn.out (k5*k) _ (by rw[HK.out,size_flatK]; exact hb5) (H1.out _);have k5z:(k5:Int)<(d.size:Int):=(by omega);have hsJ:(enc xj).length =k:=HK.out _;clear hb5;go_wp2
        go_roundg (d.size-(jp+1+(q+1+1)))
        case measure=>omega
        case rel=>exact⟨k5+1,q+1+1,by go_num,by go_num,by omega,by omega,by omega,by omega,Nat.le_refl _,dk.setIfInBounds k5 xj,by simpa using hdk,⟨zvA HK.out HHn.out k5 xj (by omega)⟩,⟨HFn.out.put _ _⟩⟩
      ·have hend:jp+1+k7=d.size:=(by omega);have k5z:(k5:Int)<=(d.size:Int):=(by omega);have hck5: ¬(cap=k5):=(by omega);have k5c:k5<=cap:=(by omega);have hz: ∀n,(Builtin.zeroCells zz.cells n).toList.length =n*k:=fun n=>by simp[Builtin.zeroCells,ZS.out]
       have hcl: ∀ty c,(Builtin.clear_ #[51] ty #[.slice (some ⟨g,off+k5*k,none⟩) (d.size-k5) c]).run P wr= .ok (.tuple #[]) (wr.setCells g (off+k5*k) (Builtin.zeroCells zz.cells (d.size-k5)).toList):=fun ty c=>by
        have hb5: ∀j,j<(d.size-k5)*k->k5*k+j<dk.size*k:=fun j hj=>by
         have:k5*k+(d.size-k5)*k=dk.size*k:=(by rw[<-Nat.add_mul]; congr 1; omega);omega
        refine zua wr _ _ ty zz tS ZV.out g _ _ c (by omega) (ZO.out _) (fun j hj=> ?_) (fun j hj=> ?_)
        ·rw[hz]at hj;rw[Nat.add_assoc,(HH.out (k5*k+j) (by rw[size_flatK]; exact hb5 j hj)).1]; rfl
        ·rw[hz]at hj;rw[Nat.add_assoc]; exact(HH.out (k5*k+j) (by rw[size_flatK]; exact hb5 j hj)).2
       obtain⟨ZL,hZL⟩: ∃ZL,(Builtin.zeroCells zz.cells (d.size-k5)).toList =ZL:=⟨_,rfl⟩;rw[hZL]at hcl;clear hz hZL;go_wp2;go_ret;exact⟨k5,rfl,HF.out.put _ _,.inr ⟨by omega,jp,by omega,HD.out⟩⟩
   ·have:kk=d.size:=(by omega);subst this;go_wp2;go_ret;exact⟨d.size,rfl,HF.out,.inl ⟨rfl,HA.out⟩⟩
set_option maxHeartbeats 8000000 in
theorem zsn{P:Program}(hP:Tryz.prog=P)(enc:α->List Value)(k:Nat)(hk2:k=4)(hk: ∀x,(enc x).length =k)(h1: ∀x,∀v∈enc x,v.oneCell'=true)(ef:α->α->Bool)(gf:Nat)(cb:Array Value)(g off cap sz:Nat)(d:Array α)(W:World)
  (eg: ∀args w,(callFunc gf args).run P w= .ok (.enter gf args) w)
  (hcmp: ∀wr,Frm W wr g 53 sz-> ∀x y:α,Calls P gf (#[.agg (enc x).toArray,.agg (enc y).toArray]++cb) wr fun e w'=>e= .returned (.bool (ef x y))/\ ∃q os',w'=grow (wr.drewN q) os')
  (hH:HoldsK enc k W g off d) (hg: ∃cur,W.heap[g]? =some (.cells cur 53 (0,0))/\cur.size=sz) (hcap:d.size<=cap) (hmx:cap<=9223372036854775807) (hsz:d.size<4611686018427387904):
  Calls P 113 #[.slice (some ⟨g,off,none⟩) d.size cap,.func (.func gf) #[] cb] W (CompQ d ef W g off cap 53 sz):=by
 have F:=Tryz.func113;have zat:=zat;have t0:=Tryz.underlying0; have a0:=Tryz.isAgg0; have z0:=Tryz.sizeOf0; have v0:=Tryz.zeroValue0;have t3:=Tryz.underlying3; have a3:=Tryz.isAgg3; have z3:=Tryz.sizeOf3; have v3:=Tryz.zeroValue3;have t4:=Tryz.underlying4; have a4:=Tryz.isAgg4; have z4:=Tryz.sizeOf4; have v4:=Tryz.zeroValue4;have tS:=Tryz.underlying28; have aS:=Tryz.isAgg28; have zS:=Tryz.sizeOf28; have vS:=Tryz.zeroValue28;have aE:=Tryz.isAgg53; have zE:=Tryz.sizeOf53;have uS:=run_underlying tS;obtain⟨i0,zz,_,hi0,hz0,hzc,_,_,_⟩:=zeW tA28;have hz0v: ∀w,(zeroValue 53).run Tryz.prog w= .ok zz w:=fun w=>by simp[zeroValue,typeInfo,hi0,hz0]
 have hz1: ∀v∈zz.cells.toList,v.oneCell'=true:=by
  have h0:=Tryz.zeroValue53 W;rw[hz0v W]at h0;cases h0;rw[<-List.all_eq_true];kernel_rfl
 have ZV:Hc (∀w,(zeroValue 53).run P w= .ok zz w):=⟨by rw[<-hP]; exact hz0v⟩;have ZS:Hc (zz.cells.size=k):=⟨by rw[hk2]; exact hzc⟩;have ZO:Hc (∀n,∀v∈(Builtin.zeroCells zz.cells n).toList,v.oneCell'=true):=⟨fun n=>zpR (by rw[hzc]; omega) hz1 n⟩;clear hi0 hz0 hzc hz0v hz1;rw[<-hk2]at zE;rw[hP]at F zat t0 a0 z0 v0 t3 a3 z3 v3 t4 a4 z4 v4 tS aS zS vS aE zE uS;clear hk2;obtain⟨cur,hg1,hg2⟩:=hg;have hgW:g<W.heap.size:=(Array.getElem?_eq_some_iff.1 hg1).1;have F0:Frm W W g 53 sz:=⟨rfl,rfl,rfl,Nat.le_refl _,fun _ _ _=>rfl,cur,hg1,hg2⟩;have HC:Hc (∀wr,Frm W wr g 53 sz-> ∀x y:α,Calls P gf (#[.agg (enc x).toArray,.agg (enc y).toArray]++cb) wr fun e w'=>e= .returned (.bool (ef x y))/\ ∃q os',w'=grow (wr.drewN q) os'):=⟨hcmp⟩;have HK:Hc (∀x,(enc x).length =k):=⟨hk⟩;have H1:Hc (∀x,∀v∈enc x,v.oneCell'=true):=⟨h1⟩;have HF0:Hc (Frm W W g 53 sz):=⟨F0⟩;have HH0:Hc (HoldsK enc k W g off d):=⟨hH⟩;clear hcmp hk h1 F0 hH hg1 hg2;by_cases h2:d.size<2
 ·have h2z:(d.size:Int)<2:=by omega
  go_enter F,Tryz.ntmps113
  go_wp2;go_ret;exact⟨d.size,rfl,HF0.out,.inl ⟨rfl,fun j hj=>by omega⟩⟩
 ·have h2z: ¬(d.size:Int)<2:=by omega
  go_enter F,Tryz.ntmps113
  go_wp2
  go_loopg [5] d.size (fun g1 s5 wr=> ∃kk:Nat,1<=kk/\kk<=d.size/\d.size-kk<=g1/\s5= .int .i64 kk/\Hc (HoldsK enc k wr g off d)/\Hc (Frm W wr g 53 sz)/\Hc (∀j,j+1<kk->ef d[j+1]! d[j]! =false))
  case atStart=>exact⟨1,Nat.le_refl _,by omega,by omega,rfl,HH0,HF0,⟨fun j hj=>by omega⟩⟩
  case round=>
   obtain⟨kk,hk1,hkn,hg1,rfl,HH,HF,HA⟩:=hrel;by_cases hlt:kk<d.size
   ·obtain⟨jp,rfl⟩: ∃jp,kk=jp+1:=⟨kk-1,by omega⟩;obtain⟨xj,hxj⟩: ∃x,d[jp+1]! =x:=⟨_,rfl⟩;obtain⟨xp,hxp⟩: ∃x,d[jp]! =x:=⟨_,rfl⟩;have hwp:IntKind.i64.wrap (jp:Int)=(jp:Int):=(by rw[IntKind.wrap_i64]; omega);have jz:(jp:Int)+1<(d.size:Int):=(by omega);have jz1:(jp:Int)<(d.size:Int):=(by omega);have p0:(0:Int)<=(jp:Int)+1:=(by omega);have e0:((jp:Int)+1).toNat =jp+1:=(by omega);have hgw:g<wr.heap.size:=Nat.lt_of_lt_of_le hgW HF.out.size;have lj: ∀n' os',Sem.run P (loadCellsFrom ⟨g,off+(jp+1)*k,none⟩ 0 k #[]) (grow (wr.drewN n') os')= .ok (enc xj).toArray (grow (wr.drewN n') os'):=fun n' os'=>by
     rw[<-hxj]; exact run_loadCellsFrom_list P _ _ _ k (HK.out _) (HoldsK.cells (zb3 HH.out hgw n' os') HK.out (by omega))
    have lp: ∀n' os',Sem.run P (loadCellsFrom ⟨g,off+jp*k,none⟩ 0 k #[]) (grow (wr.drewN n') os')= .ok (enc xp).toArray (grow (wr.drewN n') os'):=fun n' os'=>by
     rw[<-hxp]; exact run_loadCellsFrom_list P _ _ _ k (HK.out _) (HoldsK.cells (zb3 HH.out hgw n' os') HK.out (by omega))
    have hcg: ∀n' os',Calls P gf (#[.agg (enc xj).toArray,.agg (enc xp).toArray]++cb) (grow (wr.drewN n') os') fun e w'=>e= .returned (.bool (ef xj xp))/\ ∃q os'',w'=grow ((grow (wr.drewN n') os').drewN q) os'':=fun n' os'=>
     HC.out _ (HF.out.grow hgW n' os') xj xp
    have HX:Hc (d[jp+1]! =xj/\d[jp]! =xp):=⟨hxj,hxp⟩;clear hxj hxp;cases hev:ef xj xp with
    | false=>
     rw[hev]at hcg
     go_wp2_with fail
     go_quiet_grown (first | (go_at_fn gf; refine Calls.grown_of (hcg _ _)))
     go_wp2
     go_roundg (d.size-(jp+1+1))
     case measure=>omega
     case rel=>
      refine⟨jp+1+1,by omega,by omega,Nat.le_refl _,by go_num,⟨zb3 HH.out hgw _ _⟩,⟨HF.out.grow hgW _ _⟩,⟨fun j hj=> ?_⟩⟩;by_cases e:j=jp
      ·subst e; rw[HX.out.1,HX.out.2]; exact hev
      ·exact HA.out j (by omega)
    | true=>
     rw[hev]at hcg;have hck: ¬(cap=jp+1):=by omega
     go_wp2_with fail
     go_quiet_grown (first | (go_at_fn gf; refine Calls.grown_of (hcg _ _)))
     go_wp2;have HD:Hc (ef d[jp+1]! d[jp]! =true):=⟨by rw[HX.out.1,HX.out.2]; exact hev⟩;have HH2:=zb3 HH.out hgw nq osq;have HF2:=HF.out.grow hgW nq osq;clear lj lp hcg hev HX HA hgw;generalize grow (wr.drewN nq) osq=wq at HH2 HF2 ⊢;have HH3:Hc (HoldsK enc k wq g off d):=⟨HH2⟩;have HF3:Hc (Frm W wq g 53 sz):=⟨HF2⟩;clear HH2 HF2 HH HF
     go_loopg [5,7] d.size (fun g2 s5 s7 wr=> ∃(k5 k7:Nat),s5= .int .i64 k5/\s7= .int .i64 k7/\1<=k5/\1<=k7/\k5<=jp+k7/\jp+1+k7<=d.size/\d.size-(jp+1+k7)<=g2/\ ∃dk:Array α,dk.size=d.size/\Hc (HoldsK enc k wr g off dk)/\Hc (Frm W wr g 53 sz))
     case atStart=>exact⟨jp+1,1,by go_num,rfl,by omega,Nat.le_refl _,by omega,by omega,by omega,d,rfl,HH3,HF3⟩
     case round=>
      obtain⟨k5,k7,rfl,rfl,h51,h71,h57,hle,hg2,dk,hdk,HH,HF⟩:=hrel;by_cases hlt2:jp+1+k7<d.size
      ·obtain⟨q,rfl⟩: ∃q,k7=q+1:=⟨k7-1,by omega⟩;obtain⟨xj,hxj⟩: ∃x,dk[jp+1+(q+1)]! =x:=⟨_,rfl⟩;obtain⟨xp,hxp⟩: ∃x,dk[jp+1+q]! =x:=⟨_,rfl⟩;have hwq:IntKind.i64.wrap (q:Int)=(q:Int):=(by rw[IntKind.wrap_i64]; omega);have qz:(q:Int)+1<((d.size-(jp+1):Nat):Int):=(by omega);have qz1:(q:Int)<((d.size-(jp+1):Nat):Int):=(by omega);have q0:(0:Int)<=(q:Int)+1:=(by omega);have qe0:((q:Int)+1).toNat =q+1:=(by omega);have hgw:g<wr.heap.size:=Nat.lt_of_lt_of_le hgW HF.out.size;have ea:off+(jp+1)*k+(q+1)*k=off+(jp+1+(q+1))*k:=(by rw[Nat.add_mul (jp+1) (q+1) k]; omega);have eb:off+(jp+1)*k+q*k=off+(jp+1+q)*k:=(by rw[Nat.add_mul (jp+1) q k]; omega);have lj: ∀n' os',Sem.run P (loadCellsFrom ⟨g,off+(jp+1)*k+(q+1)*k,none⟩ 0 k #[]) (grow (wr.drewN n') os')= .ok (enc xj).toArray (grow (wr.drewN n') os'):=fun n' os'=>by
        rw[ea,<-hxj]; exact run_loadCellsFrom_list P _ _ _ k (HK.out _) (HoldsK.cells (zb3 HH.out hgw n' os') HK.out (by omega))
       have lp: ∀n' os',Sem.run P (loadCellsFrom ⟨g,off+(jp+1)*k+q*k,none⟩ 0 k #[]) (grow (wr.drewN n') os')= .ok (enc xp).toArray (grow (wr.drewN n') os'):=fun n' os'=>by
        rw[eb,<-hxp]; exact run_loadCellsFrom_list P _ _ _ k (HK.out _) (HoldsK.cells (zb3 HH.out hgw n' os') HK.out (by omega))
       have hcg: ∀n' os',Calls P gf (#[.agg (enc xj).toArray,.agg (enc xp).toArray]++cb) (grow (wr.drewN n') os') fun e w'=>e= .returned (.bool (ef xj xp))/\ ∃q os'',w'=grow ((grow (wr.drewN n') os').drewN q) os'':=fun n' os'=>
        HC.out _ (HF.out.grow hgW n' os') xj xp
       clear ea eb;cases hev:ef xj xp with
       | true=>
        rw[hev]at hcg
        go_wp2_with fail
        go_quiet_grown (first | (go_at_fn gf; refine Calls.grown_of (hcg _ _)))
        go_wp2
        go_roundg (d.size-(jp+1+(q+1+1)))
        case measure=>omega
        case rel=>exact⟨k5,q+1+1,rfl,by go_num,h51,by omega,by omega,by omega,Nat.le_refl _,dk,hdk,⟨zb3 HH.out hgw _ _⟩,⟨HF.out.grow hgW _ _⟩⟩
       | false=>
        rw[hev]at hcg
        go_wp2_with fail
        go_quiet_grown (first | (go_at_fn gf; refine Calls.grown_of (hcg _ _)))
        have HHn:Hc (HoldsK enc k (grow (wr.drewN nq) osq) g off dk):=⟨zb3 HH.out hgw nq osq⟩;have HFn:Hc (Frm W (grow (wr.drewN nq) osq) g 53 sz):=⟨HF.out.grow hgW nq osq⟩;have l2:=lj nq osq;clear lj lp hcg;generalize grow (wr.drewN nq) osq=wq2 at HHn HFn l2 ⊢;have hb5:k5*k+k<=dk.size*k:=(by have:=Nat.mul_le_mul_right k (show k5+1<=dk.size by omega); rwa [Nat.add_mul,Nat.one_mul]at this);have s1:Sem.run P (storeCells ⟨g,off+k5*k,none⟩ (enc xj) 0) wq2= .ok () (wq2.setCells g (off+k5*k) (enc xj)):=stores_of_holds P HHn.out (k5*k) _ (by rw[HK.out,size_flatK]; exact hb5) (H1.out _);have k5z:(k5:Int)<(d.size:Int):=(by omega);have hsJ:(enc xj).length =k:=HK.out _;clear hb5;go_wp2
        go_roundg (d.size-(jp+1+(q+1+1)))
        case measure=>omega
        case rel=>exact⟨k5+1,q+1+1,by go_num,by go_num,by omega,by omega,by omega,by omega,Nat.le_refl _,dk.setIfInBounds k5 xj,by simpa using hdk,⟨zvA HK.out HHn.out k5 xj (by omega)⟩,⟨HFn.out.put _ _⟩⟩
      ·have hend:jp+1+k7=d.size:=(by omega);have k5z:(k5:Int)<=(d.size:Int):=(by omega);have hck5: ¬(cap=k5):=(by omega);have k5c:k5<=cap:=(by omega);have hz: ∀n,(Builtin.zeroCells zz.cells n).toList.length =n*k:=fun n=>by simp[Builtin.zeroCells,ZS.out]
       have hcl: ∀ty c,(Builtin.clear_ #[28] ty #[.slice (some ⟨g,off+k5*k,none⟩) (d.size-k5) c]).run P wr= .ok (.tuple #[]) (wr.setCells g (off+k5*k) (Builtin.zeroCells zz.cells (d.size-k5)).toList):=fun ty c=>by
        have hb5: ∀j,j<(d.size-k5)*k->k5*k+j<dk.size*k:=fun j hj=>by
         have:k5*k+(d.size-k5)*k=dk.size*k:=(by rw[<-Nat.add_mul]; congr 1; omega);omega
        refine zua wr _ _ ty zz tS ZV.out g _ _ c (by omega) (ZO.out _) (fun j hj=> ?_) (fun j hj=> ?_)
        ·rw[hz]at hj;rw[Nat.add_assoc,(HH.out (k5*k+j) (by rw[size_flatK]; exact hb5 j hj)).1]; rfl
        ·rw[hz]at hj;rw[Nat.add_assoc]; exact(HH.out (k5*k+j) (by rw[size_flatK]; exact hb5 j hj)).2
       obtain⟨ZL,hZL⟩: ∃ZL,(Builtin.zeroCells zz.cells (d.size-k5)).toList =ZL:=⟨_,rfl⟩;rw[hZL]at hcl;clear hz hZL;go_wp2;go_ret;exact⟨k5,rfl,HF.out.put _ _,.inr ⟨by omega,jp,by omega,HD.out⟩⟩
   ·have:kk=d.size:=(by omega);subst this;go_wp2;go_ret;exact⟨d.size,rfl,HF.out,.inl ⟨rfl,HA.out⟩⟩
end
end Go.Proofs.YtbenhdgpogiadaaGreat
