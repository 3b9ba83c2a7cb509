/- Contracts and laws. Conditions: those of each. -/
import Derived.Test.YtbenhdgpogiadaaGreatK3
import Derived.Test.YtbenhdgpogiadaaGreatK2
import Derived.Test.YtbenhdgpogiadaaGreatGIn
import Derived.Test.YtbenhdgpogiadaaGreatK6
import Derived.Test.YtbenhdgpogiadaaGreatGRb
import Derived.Test.YtbenhdgpogiadaaGreatK1
set_option linter.unusedSimpArgs false
set_option linter.unusedVariables false
open List renaming length_map -> waa, length_append -> wab, map_nil -> wac, map_append -> wad, take_succ_eq_append_getElem -> wae, getElem_mem -> waf, length_take -> wag, append_assoc -> wah, nil_append -> wai, cons_append -> waj, length_set -> wak, getD_eq_getElem?_getD -> wal
open ByteArray renaming empty -> wam
open Nat renaming lt_or_ge -> wan, le_trans -> wao, lt_of_lt_of_le -> wap, le_refl -> waq
open Bool renaming eq_iff_iff -> war
namespace Go.Proofs.YtbenhdgpogiadaaGreat
open Go.Aw
open Tryz
set_option maxRecDepth 100000
set_option maxHeartbeats 4000000
def rowOfD:List D->List D
 | [.agg cs]=>cs
 | _=>[]
def zqY(x:Item):List D:=[.agg (zaK x)]
theorem rowItem(l:List Item):(l.map zqY).map rowOfD=l.map zaK:=by rw[List.map_map]; rfl
theorem zxT(l:List Item)(hl:l.length<=4000000):zoR prog 131 [.ptr [.sl (l.map zaK)]] (fun pre=> ∃i,i<=l.length/\pre=(l.take i).map zqY) (fun xs=>xs=l.map zqY):=by
 intro lim fam stop lp hY;have:=FnL.of_eC (P:=prog) (args:=[.yv 0,.d (.ptr [.sl (l.map zaK)])]) (os:=[(0,.ext lim fam stop lp [])]) (PL:=fun _ ol new=>(∃xs,xs=l.map zqY/\ol=[(0,.ext lim fam stop lp xs)]/\new=[])\/(ol=[(0,.ext lim (fun _=>stop) stop lp [])]/\new=[])) (own:=[]) (fun _=>[]) [0] zat func131 rfl call131 ntmps131 (zle rfl) results131 ?_
 ·refine this.mono ?_;rintro V Oo new ⟨ol,rfl,⟨xs,h1,rfl,h2⟩ | ⟨rfl,h2⟩⟩
  ·exact .inl ⟨xs,h1,rfl,h2⟩
  ·exact .inr ⟨rfl,h2⟩
 simp only[ZE,seval,zN];refine za1 (fun _=>[]) zat l.length (fun _=>True) (fun i=>([(0,.yv 0),(5,.d (.sl (l.map zaK))),(6,.d (eI l.length)),(7,.d (eI i))],[(0,.ext lim fam stop lp ((l.take i).map zqY))])) trivial ?_ ?_ (fun i hi _=> ?_)
 ·simp only[ZE,seval,zN,waa]
 ·simp only[ZE,seval,List.take_zero,wac]
 rcases wan i l.length with h | h
 ·have hw:=zaq (show i<9223372036854775807 by omega);have ht:(l.take (i+1)).map zqY=(l.take i).map zqY++[zqY l[i]]:=by rw[wae h,wad]; rfl
  rw[ht];simp only[ZE,seval,zaw h,zaa h,zai h,zN,zqY,waa];refine⟨_,hY,⟨i+1,h,?_⟩,?_,?_⟩
  ·rw[ht];simp only[ZE,seval,zqY]
  ·simp only[ZE,seval,zN,hw];exact h
  ·simp only[ZE,seval,zN];refine⟨[4],[],?_⟩;simp only[ZE,seval]
 ·have:i=l.length:=by omega
  subst this;simp only[ZE,seval,zaI h,zN,List.take_length];refine⟨[],[],?_⟩;simp only[ZE,seval];exact .inl ⟨_,rfl,rfl⟩
theorem zr6(l:List Item)(hl:l.length<=4000000):FnL prog 172 [.nils,.d (.clo (.func 131) [] [.ptr [.sl (l.map zaK)]])] [] (fun V ol new=>V= .ar 90 l.length/\ol=[(90,.arr 64 35 .flat (l.map zaK))]/\new=[90]):=by
 refine FnL.of_eC (own:=[]) (fun id=>if id=0 then [.adB 2 0 90 64 35]else []) [] zat func172 rfl call172 ntmps172 (zle rfl) results172 ?_;simp only[ZE,seval];refine zq4 zat (fun _=>[]) rfl (by simp only[ZE,seval]) (zxT l hl) (fun pre=>[(2,.box [.ar 90 pre.length]),(90,.arr 64 35 .flat (pre.map rowOfD))]) ?_ ?_ ?_ ?_ ?_
 ·simp only[ZE,seval]
 ·intro pre; simp[zdU,zie]
 ·simp only[ZE,seval,psOk,zeQ]
 ·rintro pre x ⟨i,hi,h3⟩;have hlen:(pre++[x]).length <=4000000:=by rw[h3,waa,wag]; omega
  simp only[wab,List.length_cons,List.length_nil]at hlen;obtain⟨p,rfl⟩: ∃p,x=zqY p:=by
   have:x∈(l.take i).map zqY:=by rw[<-h3]; simp
   obtain⟨p,_,rfl⟩:=List.mem_map.1 this;exact⟨p,rfl⟩
  simp only[zqY,ZE,seval,zve,zl0,zdU,zie,zrn,zeQ];refine⟨⟨by omega,by omega⟩,by simp,by simp,?_⟩;rw[wad]; rfl
 ·rintro xs rfl;simp only[ZE,seval];refine⟨[2],[90],?_⟩;simp only[ZE,seval,waa];rw[rowItem]
theorem zoZ(l:List Item)(hl:l.length<=4000000):FnL prog 129 [.d (.clo (.func 131) [] [.ptr [.sl (l.map zaK)]])] [] (fun V ol new=>V= .ar 90 l.length/\ol=[(90,.arr 64 35 .flat (l.map zaK))]/\new=[90]):=by
 refine FnL.of_eC (own:=[]) (fun id=>[]) [] zat func129 rfl call129 ntmps129 (zle rfl) results129 ?_;simp only[ZE,seval];refine EFn.g ⟨[(90,90)],[.nils,.d (.clo (.func 131) [] [.ptr [.sl (l.map zaK)]])],_,_,zr6 l hl,?_⟩;simp only[ZE,seval];rintro V ol new ⟨rfl,rfl,rfl⟩;simp only[ZE,seval];refine⟨[],[90],?_⟩;simp only[ZE,seval]
theorem sortedItem_c(l:List Item)(hl:l.length<=4000000):FnL prog 77 [.d (.clo (.func 131) [] [.ptr [.sl (l.map zaK)]]),.d (.clo (.func 53) [] [])] [] (fun V ol new=>V= .ar 90 l.length/\(∃l':List Item,l.Perm l'/\(l'.Pairwise fun x y=> ¬zyB (zbg y) (zbg x)<0)/\ol=[(90,.arr 64 35 .flat (l'.map zaK))])/\new=[90]):=by
 refine FnL.of_eC (own:=[]) (fun id=>[]) [] zat func77 rfl call77 ntmps77 (zle rfl) results77 ?_;simp only[ZE,seval];refine EFn.g ⟨[(90,90)],[.d (.clo (.func 131) [] [.ptr [.sl (l.map zaK)]])],_,_,zoZ l hl,?_⟩;simp only[ZE,seval];rintro V ol new ⟨rfl,rfl,rfl⟩;simp only[ZE,seval];refine EFn.g ⟨[(0,90)],[.ar 0 l.length,.d (.clo (.func 53) [] [])],_,_,sortI_c l (by omega),?_⟩;simp only[ZE,seval];rintro V ol new ⟨rfl,⟨l',hp,hs,rfl⟩,rfl⟩;simp only[ZE,seval];refine⟨[],[90],?_⟩;simp only[ZE,seval];exact⟨l',hp,hs,rfl⟩
def zhh(x:Module):List D:=[.agg (zaC x)]
theorem rowModule(l:List Module):(l.map zhh).map rowOfD=l.map zaC:=by rw[List.map_map]; rfl
theorem zuC(l:List Module)(hl:l.length<=4000000):zoR prog 128 [.ptr [.sl (l.map zaC)]] (fun pre=> ∃i,i<=l.length/\pre=(l.take i).map zhh) (fun xs=>xs=l.map zhh):=by
 intro lim fam stop lp hY;have:=FnL.of_eC (P:=prog) (args:=[.yv 0,.d (.ptr [.sl (l.map zaC)])]) (os:=[(0,.ext lim fam stop lp [])]) (PL:=fun _ ol new=>(∃xs,xs=l.map zhh/\ol=[(0,.ext lim fam stop lp xs)]/\new=[])\/(ol=[(0,.ext lim (fun _=>stop) stop lp [])]/\new=[])) (own:=[]) (fun _=>[]) [0] zat func128 rfl call128 ntmps128 (zle rfl) results128 ?_
 ·refine this.mono ?_;rintro V Oo new ⟨ol,rfl,⟨xs,h1,rfl,h2⟩ | ⟨rfl,h2⟩⟩
  ·exact .inl ⟨xs,h1,rfl,h2⟩
  ·exact .inr ⟨rfl,h2⟩
 simp only[ZE,seval,zN];refine za1 (fun _=>[]) zat l.length (fun _=>True) (fun i=>([(0,.yv 0),(5,.d (.sl (l.map zaC))),(6,.d (eI l.length)),(7,.d (eI i))],[(0,.ext lim fam stop lp ((l.take i).map zhh))])) trivial ?_ ?_ (fun i hi _=> ?_)
 ·simp only[ZE,seval,zN,waa]
 ·simp only[ZE,seval,List.take_zero,wac]
 rcases wan i l.length with h | h
 ·have hw:=zaq (show i<9223372036854775807 by omega);have ht:(l.take (i+1)).map zhh=(l.take i).map zhh++[zhh l[i]]:=by rw[wae h,wad]; rfl
  rw[ht];simp only[ZE,seval,zaw h,zaa h,zai h,zN,zhh,waa];refine⟨_,hY,⟨i+1,h,?_⟩,?_,?_⟩
  ·rw[ht];simp only[ZE,seval,zhh]
  ·simp only[ZE,seval,zN,hw];exact h
  ·simp only[ZE,seval,zN];refine⟨[4],[],?_⟩;simp only[ZE,seval]
 ·have:i=l.length:=by omega
  subst this;simp only[ZE,seval,zaI h,zN,List.take_length];refine⟨[],[],?_⟩;simp only[ZE,seval];exact .inl ⟨_,rfl,rfl⟩
theorem zpZ(l:List Module)(hl:l.length<=4000000):FnL prog 169 [.nils,.d (.clo (.func 128) [] [.ptr [.sl (l.map zaC)]])] [] (fun V ol new=>V= .ar 90 l.length/\ol=[(90,.arr 53 4 .flat (l.map zaC))]/\new=[90]):=by
 refine FnL.of_eC (own:=[]) (fun id=>if id=0 then [.adB 2 0 90 53 4]else []) [] zat func169 rfl call169 ntmps169 (zle rfl) results169 ?_;simp only[ZE,seval];refine zq4 zat (fun _=>[]) rfl (by simp only[ZE,seval]) (zuC l hl) (fun pre=>[(2,.box [.ar 90 pre.length]),(90,.arr 53 4 .flat (pre.map rowOfD))]) ?_ ?_ ?_ ?_ ?_
 ·simp only[ZE,seval]
 ·intro pre; simp[zdU,zie]
 ·simp only[ZE,seval,psOk,zeQ]
 ·rintro pre x ⟨i,hi,h3⟩;have hlen:(pre++[x]).length <=4000000:=by rw[h3,waa,wag]; omega
  simp only[wab,List.length_cons,List.length_nil]at hlen;obtain⟨p,rfl⟩: ∃p,x=zhh p:=by
   have:x∈(l.take i).map zhh:=by rw[<-h3]; simp
   obtain⟨p,_,rfl⟩:=List.mem_map.1 this;exact⟨p,rfl⟩
  simp only[zhh,ZE,seval,zve,zl0,zdU,zie,zrn,zeQ];refine⟨⟨by omega,by omega⟩,by simp,by simp,?_⟩;rw[wad]; rfl
 ·rintro xs rfl;simp only[ZE,seval];refine⟨[2],[90],?_⟩;simp only[ZE,seval,waa];rw[rowModule]
theorem zsk(l:List Module)(hl:l.length<=4000000):FnL prog 126 [.d (.clo (.func 128) [] [.ptr [.sl (l.map zaC)]])] [] (fun V ol new=>V= .ar 90 l.length/\ol=[(90,.arr 53 4 .flat (l.map zaC))]/\new=[90]):=by
 refine FnL.of_eC (own:=[]) (fun id=>[]) [] zat func126 rfl call126 ntmps126 (zle rfl) results126 ?_;simp only[ZE,seval];refine EFn.g ⟨[(90,90)],[.nils,.d (.clo (.func 128) [] [.ptr [.sl (l.map zaC)]])],_,_,zpZ l hl,?_⟩;simp only[ZE,seval];rintro V ol new ⟨rfl,rfl,rfl⟩;simp only[ZE,seval];refine⟨[],[90],?_⟩;simp only[ZE,seval]
theorem znX(l:List Module)(hl:l.length<=4000000):FnL prog 75 [.d (.clo (.func 128) [] [.ptr [.sl (l.map zaC)]]),.d (.clo (.func 57) [] [])] [] (fun V ol new=>V= .ar 90 l.length/\(∃l':List Module,l.Perm l'/\(l'.Pairwise fun x y=> ¬zy2 y.name x.name<0)/\ol=[(90,.arr 53 4 .flat (l'.map zaC))])/\new=[90]):=by
 refine FnL.of_eC (own:=[]) (fun id=>[]) [] zat func75 rfl call75 ntmps75 (zle rfl) results75 ?_;simp only[ZE,seval];refine EFn.g ⟨[(90,90)],[.d (.clo (.func 128) [] [.ptr [.sl (l.map zaC)]])],_,_,zsk l hl,?_⟩;simp only[ZE,seval];rintro V ol new ⟨rfl,rfl,rfl⟩;simp only[ZE,seval];refine EFn.g ⟨[(0,90)],[.ar 0 l.length,.d (.clo (.func 57) [] [])],_,_,sortM_c l (by omega),?_⟩;simp only[ZE,seval];rintro V ol new ⟨rfl,⟨l',hp,hs,rfl⟩,rfl⟩;simp only[ZE,seval];refine⟨[],[90],?_⟩;simp only[ZE,seval];exact⟨l',hp,hs,rfl⟩
set_option maxHeartbeats 20000000
theorem zrk(l:List Item):FnP prog 78 [.sl (l.map zaK)] (.d (.clo (.func 131) [] [.ptr [.sl (l.map zaK)]])) []:=by
 refine FnP.of_eC (own:=[]) (fun _=>[]) zat func78 rfl call78 ntmps78 (zle rfl) results78 (fun hok=> ?_);simp only[ZE,seval,zN]
theorem znZ(l:List Module):FnP prog 76 [.sl (l.map zaC)] (.d (.clo (.func 128) [] [.ptr [.sl (l.map zaC)]])) []:=by
 refine FnP.of_eC (own:=[]) (fun _=>[]) zat func76 rfl call76 ntmps76 (zle rfl) results76 (fun hok=> ?_);simp only[ZE,seval,zN]
theorem not_cmpP{x y:Part}(h: ¬zyB x y<0):ltP x y=false:=by
 cases hq:ltP x y with
 | false=>rfl
 | true=>exact absurd ((zwF x y).2 hq) h
theorem zy6{x y:Str}(h: ¬zy2 x y<0):ltS x y=false:=by
 cases hq:ltS x y with
 | false=>rfl
 | true=>exact absurd ((zwE x y).2 hq) h
theorem zyA(l:List Item)(hl:l.length<=4000000)(hn:(l.map zbg).Nodup):FnP prog 77 [.clo (.func 131) [] [.ptr [.sl (l.map zaK)]],.clo (.func 53) [] []] (.d (.sl ((zl7 ltP zbg l).map zaK))) []:=by
 refine FnP.of_eC (own:=[]) (fun i=>if i=2 then [.frz 90]else []) zat func77 rfl call77 ntmps77 (zle rfl) results77 (fun hok=> ?_);simp only[ZE,seval];refine EFn.g ⟨[(90,90)],[.d (.clo (.func 131) [] [.ptr [.sl (l.map zaK)]])],_,_,zoZ l hl,?_⟩;simp only[ZE,seval];rintro V ol new ⟨rfl,rfl,rfl⟩;simp only[ZE,seval];refine EFn.g ⟨[(0,90)],[.ar 0 l.length,.d (.clo (.func 53) [] [])],_,_,sortI_c l (by omega),?_⟩;simp only[ZE,seval];rintro V ol new ⟨rfl,⟨l',hp,hs,rfl⟩,rfl⟩;have e:l'=zl7 ltP zbg l:=zrj zuJ hn hp (hs.imp fun{a b} h=>not_cmpP h);have hll:l.length=(l'.map zaK).length :=by rw[waa]; exact hp.length_eq
 rw[<-e];simp only[ZE,seval,waa];rw[if_pos hp.length_eq];simp only[ZE,seval]
def nrmL(L:List Module)(i:Nat):List Module:=(L.take i).map zl5++L.drop i
theorem zyF(L:List Module)(i:Nat):(nrmL L i).length =L.length:=by simp[nrmL]; omega
theorem nrmL_zero(L:List Module):nrmL L 0=L:=by simp[nrmL]
theorem nrmL_all(L:List Module):nrmL L L.length=L.map zl5:=by simp[nrmL]
theorem nrmL_at(L:List Module)(i:Nat)(h:i<L.length):(nrmL L i).getD i zdP=L[i]:=by
 unfold nrmL;rw[wal,List.getElem?_append_right (by simp; omega)];simp[wag,Nat.min_eq_left (Nat.le_of_lt h),h]
theorem nrmL_step(L:List Module)(i:Nat)(h:i<L.length):nrmL L (i+1)=(nrmL L i).set i (zl5 L[i]):=by
 unfold nrmL;rw[wae h,wad];have hl:((L.take i).map zl5).length =i:=by simp; omega
 rw[List.set_append_right _ _ (by omega),hl,Nat.sub_self,List.drop_eq_getElem_cons h,List.set_cons_zero];simp only[List.map_cons,wac,wah,waj,wai]
theorem zih(l:List Module)(hn:(l.map Module.name).Nodup)(hp: ∀m∈l,(m.items.map zbg).Nodup)(hl:l.length<=4000000)(hi: ∀m∈l,m.items.length<=4000000):FnP prog 24 [.agg [zax l]] (.d (.agg [zax (zcC l)])) []:=by
 refine FnP.of_eC (own:=[]) (fun i=>if i=1007 then [.frz 90]else []) zat func24 rfl call24 ntmps24 (zle rfl) results24 (fun hok=> ?_);have vc:=znZ l;simp only[ZE,seval,zN];refine EFn.p ?_;simp only[ZE,seval,zN];refine zar.i vc ?_;simp only[ZE,seval,zN];refine EFn.g ⟨[(90,90)],[.d (.clo (.func 128) [] [.ptr [.sl (l.map zaC)]]),.d (.clo (.func 57) [] [])],_,_,znX l hl,?_⟩;simp only[ZE,seval];rintro V ol new ⟨rfl,⟨L,hL,hs,rfl⟩,rfl⟩;have e:L=zl7 ltS Module.name l:=zrj zrt hn hL (hs.imp fun{a b} h=>zy6 h);have hLl:L.length=l.length:=hL.length_eq.symm;have hnF:zcC l=L.map zl5:=by unfold zcC; rw[e]
 rw[hnF,<-nrmL_all];simp only[ZE,seval,zN,hLl];have hpL: ∀i (h:i<L.length),(L[i].items.map zbg).Nodup /\L[i].items.length <=4000000:=fun i h=>by
  have hm:L[i]∈l:=hL.mem_iff.2 (waf h);exact⟨hp _ hm,hi _ hm⟩
 refine za1 (fun i=>if i=2005 then [.ord ⟨[(0,none),(1,none),(2,none),(3,none),(4,none),(5,none),(6,none),(7,none),(8,none),(9,some [])]⟩]else []) zat l.length (fun _=>True) (fun i=>([(2,.bp 2 0),(3,.bp 3 0),(12,.ar 90 l.length),(13,.d (eI l.length)),(14,.d (eI i))],[(2,.box [.nils]),(3,.box [.ar 90 l.length]),(90,.arr 53 4 .flat ((nrmL L i).map zaC))])) trivial ?_ ?_ (fun i hi' _=> ?_)
 ·simp only[ZE,seval]
 ·simp only[ZE,seval,nrmL_zero]
 rcases wan i l.length with h | h
 ·have hw:=zaq (show i<9223372036854775807 by omega);have hiL:i<L.length:=by omega
  obtain⟨hnd,hll⟩:=hpL i hiL;rw[nrmL_step L i hiL];have hat:=nrmL_at L i hiL;have hnl:=zyF L i;obtain⟨R,hR⟩:=zX (nrmL L i);obtain⟨m,hm⟩:=zX (L[i]);rw[hR,hm]at hat;rw[hR]at hnl;rw[hm]at hnd hll;rw[hR,hm];have hiR:i<R.length:=by omega
  have hRi:R[i]=m:=by
   rw[wal,List.getElem?_eq_getElem hiR]at hat;exact hat
  have ic:=zrk m.items;have sc:=zyA m.items hll hnd;have hset:(R.map zaC).set i ((zaC m).set 3 (.sl ((zl7 ltP zbg m.items).map zaK)))=(R.set i (zl5 m)).map zaC:=by rw[List.map_set]; rfl
  try simp only[ZE,seval]at sc
  simp only[ZE,seval,zaw h,zai h,zaa hiR,hRi,zN,waa,hnl,hLl];refine⟨h,by kernel_rfl,zaz.i ic ?_⟩;simp only[ZE,seval,zN];refine zaz.i sc ?_;simp only[ZE,seval]at hset;simp only[ZE,seval,zN,hw,hset,zaa hiR,hRi,waa,hnl,hLl];exact⟨⟨by omega,by omega⟩,h⟩
 ·have:i=l.length:=by omega
  subst this;simp only[ZE,seval,zaI h,zN,waa,zyF,hLl]
def zyD(b n:Nat):AO:=.box [.clo (.func 120) [] [.bp b 0,.bp n 0]]
def bothE(n:Str)(x y:Item):List Edit:=if zlG x y=true then []else [zco n y]
theorem dboth_c(l:List Edit)(hl:l.length<=4000000)(n:Str)(x y:Item):FnL prog 123 [.d (.agg (zaK x)),.d (.agg (zaK y)),.bp 103 0] (dfN 100 101 102 n 104 l++[(103,zyD 101 102)])
  (fun V ol new=>V= .tup []/\ol=dfN 100 101 102 n 114 (l++bothE n x y)++[(103,zyD 101 102)]/\new=[114]):=by
 refine FnL.of_eK 1999 [100,101,102] (own:=[]) (fun i=>if i=0 then [.rnm [(100,100),(101,101),(102,102),(104,114),(103,103),(3,3),(4,4),(1999,1999)]]else if i=2 then [.rnm [(100,100),(101,101),(102,102),(115,114),(103,103),(3,3),(4,4),(1999,1999)]]else []) [2] zat func123 rfl call123 ntmps123 (zle rfl) results123 (by simp[dfN,dfO,zyD,zyk,AO.noRef,AV.noRefs,AV.noRef]) (fun gs=> ?_);have ic:=sameI_c x y;have sc:=dset_c l hl n y;unfold bothE;rcases Bool.eq_false_or_eq_true (zlG x y)with hs | hs
 ·rw[hs]at ic ⊢;simp only[ZE,seval]at ic;simp only[ZE,seval,zN,dfN,dfO,zyD,List.append_nil];refine EFn.p ?_;simp only[ZE,seval,zN];refine zar.i ic ?_;simp only[ZE,seval,zN];refine⟨[3,4,1999],[114],?_⟩;simp only[ZE,seval]
 ·rw[hs]at ic ⊢;simp only[ZE,seval]at ic;simp only[ZE,seval,dfN,dfO]at sc;simp only[ZE,seval,zN,dfN,dfO,zyD];refine EFn.p ?_;simp only[ZE,seval,zN];refine zar.i ic ?_;simp only[ZE,seval,zN];refine EFn.g ⟨[(0,100),(1,101),(2,102),(4,114),(40,115)],_,_,_,sc,?_⟩;simp only[ZE,seval];rintro V ol new ⟨rfl,rfl,rfl⟩;simp only[ZE,seval];refine⟨[3,4,1999],[114],?_⟩;simp only[ZE,seval]
theorem nanI_c(x:Int):FnP prog 210 [eI x] (.d (eB false)) []:=by
 refine FnP.of_eC (own:=[]) (fun _=>[]) zat func210 rfl call210 ntmps210 (zle rfl) results210 (fun hok=> ?_);simp only[ZE,seval,zN]
theorem cmpI_c(x y:Int):FnP prog 155 [eI x,eI y] (.d (eI (zh1 x y))) []:=by
 refine FnP.of_eC (own:=[]) (fun _=>[]) zat func155 rfl call155 ntmps155 (zle rfl) results155 (fun hok=> ?_);have n1:=nanI_c x;have n2:=nanI_c y;simp only[ZE,seval]at n1 n2;unfold zh1;simp only[ZE,seval,zN];refine EFn.p ?_;simp only[ZE,seval,zN];refine zar.i n1 ?_;simp only[ZE,seval,zN];refine EFn.p ?_;simp only[ZE,seval,zN];refine zar.i n2 ?_;by_cases h:x<y
 ·have d:decide (x<y)=true:=decide_eq_true h;simp only[ZE,seval,zN,d,h]
 ·have d:decide (x<y)=false:=decide_eq_false h;by_cases h':y<x
  ·have d':decide (x>y)=true:=decide_eq_true h';simp only[ZE,seval,zN,d,d',h,h']
  ·have d':decide (x>y)=false:=decide_eq_false h';simp only[ZE,seval,zN,d,d',h,h']
theorem nanS_c(x:Str):FnP prog 167 [eS x] (.d (eB false)) []:=by
 refine FnP.of_eC (own:=[]) (fun _=>[]) zat func167 rfl call167 ntmps167 (zle rfl) results167 (fun hok=> ?_);simp only[ZE,seval,zN]
theorem cmpS_c(x y:Str):FnP prog 115 [eS x,eS y] (.d (eI (zsi x.1 y.1))) []:=by
 refine FnP.of_eC (own:=[]) (fun _=>[]) zat func115 rfl call115 ntmps115 (zle rfl) results115 (fun hok=> ?_);have n1:=nanS_c x;have n2:=nanS_c y;simp only[ZE,seval]at n1 n2;simp only[ZE,seval,zN];refine EFn.p ?_;simp only[ZE,seval,zN];refine zar.i n1 ?_;simp only[ZE,seval,zN];refine EFn.p ?_;simp only[ZE,seval,zN];refine zar.i n2 ?_;simp only[ZE,seval,zN];have e:(x.1.toList==y.1.toList)=decide (x=y):=by
  rw[war,beq_iff_eq,decide_eq_true_eq];exact⟨toList_inj,fun h=>by rw[h]⟩
 unfold zsi;rw[e]
 (repeat' split) <;> rfl
theorem or2_c(x y:Int):FnP prog 154 [.sl [[eI x],[eI y]]] (.d (eI (orI [x,y]))) []:=by
 refine FnP.of_eC (own:=[]) (fun _=>[]) zat func154 rfl call154 ntmps154 (zle rfl) results154 (fun hok=> ?_);simp only[ZE,seval,zN];refine za1 (fun _=>[]) zat 2 (fun i=>(1<=i->x=0)/\(2<=i->y=0)) (fun i=>([(3,.d (eI 0)),(6,.d (.sl [[eI x],[eI y]])),(7,.d (eI 2)),(8,.d (eI i))],[])) ⟨by omega,by omega⟩ (by simp only[ZE,seval]) (by simp only[ZE,seval]) (fun i hi hI=> ?_)
 match i,hi with
 | 0,_=>
  rcases Bool.eq_false_or_eq_true (x !=0)with h | h
  ·have e:orI [x,y]=x:=by simp[orI,h]
   simp only[ZE,seval,zN,h,e]
  ·have hx:x=0:=by simpa using h
   simp only[ZE,seval,zN,h]
   first | exact⟨hx,by rw[show IntKind.i64.wrap 1=1 from by decide]⟩ | exact⟨⟨hx,hy⟩,by rw[show IntKind.i64.wrap 2=2 from by decide]⟩
 | 1,_=>
  have hx:=hI.1 (by omega);rcases Bool.eq_false_or_eq_true (y !=0)with h | h
  ·have e:orI [x,y]=y:=by simp[orI,hx,h]
   simp only[ZE,seval,zN,h,e]
  ·have hy:y=0:=by simpa using h
   simp only[ZE,seval,zN,h]
   first | exact⟨hx,by rw[show IntKind.i64.wrap 1=1 from by decide]⟩ | exact⟨⟨hx,hy⟩,by rw[show IntKind.i64.wrap 2=2 from by decide]⟩
 | 2,_=>
  have hx:=hI.1 (by omega);have hy:=hI.2 (by omega);have e:orI [x,y]=0:=by simp[orI,hx,hy]
  simp only[ZE,seval,zN,e]
theorem part_c(a b:Part):FnP prog 110 [.agg (zfX a),.agg (zfX b)] (.d (eI (zyB a b))) []:=by
 refine FnP.of_eC (own:=[]) (fun i=>if i=2001 then [.ord ⟨[(0,none),(1,none),(2,none),(3,none),(4,none),(5,none),(6,none),(7,none),(8,none),(9,none),(10,none),(11,none),(12,none)]⟩]else []) zat func110 rfl call110 ntmps110 (zle rfl) results110 (fun hok=> ?_);have c1:=cmpI_c a.kind.1 b.kind.1;have c2:=cmpS_c a.name b.name;have c3:=or2_c (zh1 a.kind.1 b.kind.1) (zsi a.name.1 b.name.1);simp only[ZE,seval]at c1 c2 c3;unfold zyB;simp only[ZE,seval,zN,zfX];refine⟨by kernel_rfl,zaz.i c1 ?_⟩;simp only[ZE,seval,zN];refine zaz.i c2 ?_;simp only[ZE,seval,zN];refine zaz.i c3 ?_;simp only[ZE,seval,zN]
theorem zzK(x y:Item):FnP prog 53 [.agg (zaK x),.agg (zaK y)] (.d (eI (zyB (zbg x) (zbg y)))) []:=by
 refine FnP.of_eC (own:=[]) (fun i=>if i=2001 then [.ord ⟨[(0,none),(1,none),(2,none),(3,none),(4,none),(5,none)]⟩]else []) zat func53 rfl call53 ntmps53 (zle rfl) results53 (fun hok=> ?_);have c1:=tof_c x;have c2:=tof_c y;have c3:=part_c (zbg x) (zbg y);simp only[ZE,seval]at c1 c2 c3;simp only[ZE,seval,zN];refine⟨by kernel_rfl,zaz.i c1 ?_⟩;simp only[ZE,seval,zN];refine zaz.i c2 ?_;simp only[ZE,seval,zN];refine zaz.i c3 ?_;simp only[ZE,seval,zN]
theorem zzL(x y:Module):FnP prog 57 [.agg (zaC x),.agg (zaC y)] (.d (eI (zy2 x.name y.name))) []:=by
 refine FnP.of_eC (own:=[]) (fun _=>[]) zat func57 rfl call57 ntmps57 (zle rfl) results57 (fun hok=> ?_);have c1:=cmpS_c x.name y.name;simp only[ZE,seval]at c1;unfold zy2;simp only[ZE,seval,zN];refine EFn.p ?_;simp only[ZE,seval,zN];refine zar.i c1 ?_;simp only[ZE,seval,zN]
theorem zyI(a b:Part):zyB a b=0↔a=b:=by
 constructor
 ·intro h;refine zuJ.conn _ _ ?_ ?_
  ·cases hq:ltP a b with
   | false=>rfl
   | true=>have:=(zwF a b).2 hq; omega
  ·unfold zyB orI zh1 at h;obtain⟨a1,a2⟩:=a;obtain⟨b1,b2⟩:=b;simp only at h;unfold ltP;simp only[Bool.or_eq_false_iff,decide_eq_false_iff_not,Bool.and_eq_false_iff];rcases Int.lt_trichotomy a1.1 b1.1 with h1 | h1 | h1
   ·simp[h1]at h
   ·rw[h1]at h;simp only[Int.lt_irrefl,if_false]at h;by_cases h0:zsi a2.1 b2.1=0
    ·have e:=(zoY a2 b2).1 h0;subst e;exact⟨by omega,.inr (zrt.irr _)⟩
    ·simp[h0]at h
   ·have h2: ¬a1.1<b1.1:=(by omega);simp[h1,h2]at h
 ·rintro rfl;have h1:=zuJ.irr a;have h0:=(zoY a.name a.name).2 rfl;simp[zyB,orI,zh1,h0]
def zyu{α κ:Type}(lt:κ->κ->Bool)(key:α->κ)(l:List α)(k:κ):Nat:=l.countP fun x=>lt (key x) k
section
variable {α κ:Type} {lt:κ->κ->Bool} {key:α->κ}
theorem low_eq{l:List α}{k:κ}{i:Nat}(hi:i<=l.length)(h4: ∀q (h:q<l.length),q<i->lt (key l[q]) k=true)(h5: ∀q (h:q<l.length),i<=q->lt (key l[q]) k=false):zyu lt key l k=i:=by
 unfold zyu;rw[<-List.take_append_drop i l,List.countP_append];have a:(l.take i).countP (fun x=>lt (key x) k)=(l.take i).length :=by
  rw[List.countP_eq_length];intro x hx;obtain⟨q,hq,rfl⟩:=List.getElem_of_mem hx;rw[wag]at hq;rw[List.getElem_take];exact h4 q (by omega) (by omega)
 have b:(l.drop i).countP (fun x=>lt (key x) k)=0:=by
  rw[List.countP_eq_zero];intro x hx;obtain⟨q,hq,rfl⟩:=List.getElem_of_mem hx;rw[List.length_drop]at hq;rw[List.getElem_drop,h5 (i+q) (by omega) (by omega)];simp
 rw[a,b,wag];omega
theorem lkp_at [DecidableEq κ](o:TOrd lt){l:List α}(hs:Srt lt key l){k:κ}{i:Nat}(h4: ∀q (h:q<l.length),q<i->lt (key l[q]) k=true)(h5: ∀q (h:q<l.length),i<=q->lt (key l[q]) k=false):(lkp key l k).isSome =true↔ ∃h:i<l.length,key l[i]=k:=by
 constructor
 ·intro h;obtain⟨x,hx⟩:=Option.isSome_iff_exists.1 h;obtain⟨hm,hk⟩:=zeI hx;obtain⟨q,hq,rfl⟩:=List.getElem_of_mem hm;have hqi: ¬q<i:=fun hlt=>by have:=h4 q hq hlt; rw[hk,o.irr]at this; cases this
  by_cases e:q=i
  ·subst e; exact⟨hq,hk⟩
  ·have hiq:i<q:=by omega
   have h1:=List.pairwise_iff_getElem.1 hs i q (by omega) hq hiq;have h2:=h5 i (by omega) (waq _);rw[hk,h2]at h1; cases h1
 ·rintro⟨h,rfl⟩;rw[zyM o hs (waf h)]; rfl
end
theorem zyY(l:List Module)(hl:l.length<=4000000)(z:Module)(hs:Srt ltS Module.name l):FnL prog 156 [.ar 100 l.length,.d (.agg (zaC z)),.d (.clo (.func 57) [] [])] [(100,.arr 53 4 .flat (l.map zaC))] (fun V ol new=>V= .tup [.d (eI (zyu ltS Module.name l (Module.name z))),.d (eB (lkp Module.name l (Module.name z)).isSome)]/\ol=[(100,.arr 53 4 .flat (l.map zaC))]/\new=[]):=by
 refine FnL.of_eC (own:=[]) (fun i=>if i=2008 then [.ord ⟨[(0,none),(1,none),(2,none),(3,none),(4,none),(5,none),(6,none),(7,none),(8,none),(9,none),(10,none),(11,none),(12,none),(13,none),(14,none),(15,none)]⟩]else []) [0] zat func156 rfl call156 ntmps156 (zle rfl) results156 ?_;simp only[ZE,seval,zN];have hL:=fun(q:Nat) (h:q<l.length)=>zzL l[q] z;refine zgR (X:=Nat×Nat) (fun _ i=>[]) zat l.length (fun r X=>X.1<=X.2/\X.2<=l.length/\X.2-X.1+r<=l.length/\(∀q (h:q<l.length),q<X.1->ltS (Module.name l[q]) (Module.name z)=true)/\(∀q (h:q<l.length),X.2<=q->ltS (Module.name l[q]) (Module.name z)=false))
  (fun r X=>([(0,.ar 100 l.length),(2,.d (.clo (.func 57) [] [])),(4,.bp 4 0),(8,.d (eI l.length)),(9,.d (eI X.1)),(10,.d (eI X.2))],[(4,.box ((zaC z).map .d)),(100,.arr 53 4 .flat (l.map zaC))])) (0,l.length) ?_ ?_ ?_ (fun r X hr hI=> ?_)
 ·exact⟨Nat.zero_le _,waq _,by omega,by intro q _ h; omega,by intro q h h'; omega⟩
 ·simp only[ZE,seval]
 ·simp only[ZE,seval]
 obtain⟨i,j⟩:=X;obtain⟨h1,h2,h3,h4,h5⟩:=hI;simp only at h1 h2 h3 h4 h5;rcases wan i j with h | h
 ·have d1:decide ((i:Int)<(j:Int))=true:=by simp; omega
  have hh:(i+j) / 2<l.length:=by omega
  have w1:IntKind.i64.wrap ((i:Int)+(j:Int))=((i+j:Nat):Int):=by rw[<-Int.natCast_add]; exact zaQ (by omega) (by omega)
  have w2:IntKind.u64.wrap ((i+j:Nat):Int)=((i+j:Nat):Int):=by simp only[IntKind.wrap,IntKind.bits,IntKind.signed]; simp; omega
  have wh:IntKind.i64.wrap ((IntKind.u64.wrap ((i+j:Nat):Int)).fdiv (2 ^ min 1 IntKind.u64.bits))=(((i+j) / 2:Nat):Int):=by
   rw[w2,show(2:Int) ^ min 1 IntKind.u64.bits=2 from by decide,Int.fdiv_eq_ediv_of_nonneg _ (by omega),show((i+j:Nat):Int) / 2=(((i+j) / 2:Nat):Int)from by omega];exact zaQ (by omega) (by omega)
  obtain⟨m,hm⟩:=zX ((i+j) / 2);rw[hm]at wh hh;have hw:=zaq (show m<9223372036854775807 by omega);obtain⟨x,hx⟩:=zX (l[m]);have hc:=hL m hh;rw[hx]at hc;obtain⟨c,hcc⟩:=zX (zy2 x.name z.name);have hlt:c<0↔ltS (Module.name x) (Module.name z)=true:=by rw[<-hcc]; exact zwE _ _
  rw[hcc]at hc;simp only[ZE,seval]at hc;simp only[ZE,seval,zN,d1,w1,wh,zai hh,zaa hh,hx,waa];refine⟨by kernel_rfl,hh,EFn.p ?_⟩;simp only[ZE,seval,zN];refine zar.i hc ?_;by_cases hneg:c<0
  ·have dn:decide (c<0)=true:=decide_eq_true hneg;simp only[ZE,seval,zN,dn,hw];simp only[zep];refine⟨by omega,(m+1,j),⟨by simp only; omega,h2,by simp only; omega,fun q hq hqm=> ?_,h5⟩,?_⟩
   ·rcases Nat.lt_succ_iff_lt_or_eq.1 hqm with hlt' | rfl
    ·exact zrt.tr _ _ _ (by have:=List.pairwise_iff_getElem.1 hs q m hq hh hlt'; rw[hx]at this; exact this) (hlt.1 hneg)
    ·rw[hx]; exact hlt.1 hneg
   ·simp only[ZE,seval]
  ·have dn:decide (c<0)=false:=decide_eq_false hneg;simp only[ZE,seval,zN,dn];have hnl:ltS (Module.name x) (Module.name z)=false:=by
    cases hq:ltS (Module.name x) (Module.name z)with
    | false=>rfl
    | true=>exact absurd (hlt.2 hq) hneg
   simp only[zep];refine⟨by omega,(i,m),⟨by simp only; omega,by simp only; omega,by simp only; omega,h4,fun q hq hqm=> ?_⟩,?_⟩
   ·rcases wan m q with hlt' | hge
    ·cases hq2:ltS (Module.name l[q]) (Module.name z)with
     | false=>rfl
     | true=>
      have h1:=List.pairwise_iff_getElem.1 hs m q hh hq hlt';rw[hx]at h1;have:=zrt.tr _ _ _ h1 hq2;rw[hnl]at this; cases this
    ·have:q=m:=(by simp only at hqm; omega);subst this;rw[hx]; exact hnl
   ·simp only[ZE,seval]
 ·have e:i=j:=by omega
  subst e;have d1:decide ((i:Int)<(i:Int))=false:=by simp
  have lw:=low_eq h2 h4 h5;have lk:=lkp_at zrt hs h4 h5;rw[lw];rcases wan i l.length with hin | hin
  ·obtain⟨x,hx⟩:=zX (l[i]);have hc:=hL i hin;rw[hx]at hc;obtain⟨c,hcc⟩:=zX (zy2 x.name z.name);have hzero:c=0↔Module.name x=Module.name z:=by rw[<-hcc]; exact zoY _ _
   have hfound:(lkp Module.name l (Module.name z)).isSome =(c==0):=by
    rw[war,lk,beq_iff_eq,hzero];exact⟨fun⟨_,h⟩=>by rw[hx]at h; exact h,fun h=>⟨hin,by rw[hx]; exact h⟩⟩
   rw[hcc]at hc;rw[hfound];simp only[ZE,seval]at hc;simp only[ZE,seval,d1,zaw hin,zai hin,zaa hin,hx,zN,waa];refine⟨by kernel_rfl,hin,zaz.i hc ?_⟩;simp only[ZE,seval,zN];refine⟨[4],[],?_⟩;simp only[ZE,seval]
  ·have hfound:(lkp Module.name l (Module.name z)).isSome =false:=by
    cases hq:(lkp Module.name l (Module.name z)).isSome with
    | false=>rfl
    | true=>obtain⟨h,_⟩:=lk.1 hq; omega
   rw[hfound];simp only[ZE,seval,d1,zaI hin,zN,waa];refine⟨by kernel_rfl,[4],[],?_⟩;simp only[ZE,seval]
theorem bsItem_c(l:List Item)(hl:l.length<=4000000)(z:Item)(hs:Srt ltP zbg l):FnL prog 158 [.ar 100 l.length,.d (.agg (zaK z)),.d (.clo (.func 53) [] [])] [(100,.arr 64 35 .flat (l.map zaK))] (fun V ol new=>V= .tup [.d (eI (zyu ltP zbg l (zbg z))),.d (eB (lkp zbg l (zbg z)).isSome)]/\ol=[(100,.arr 64 35 .flat (l.map zaK))]/\new=[]):=by
 refine FnL.of_eC (own:=[]) (fun i=>if i=2008 then [.ord ⟨[(0,none),(1,none),(2,none),(3,none),(4,none),(5,none),(6,none),(7,none),(8,none),(9,none),(10,none),(11,none),(12,none),(13,none),(14,none),(15,none)]⟩]else []) [0] zat func158 rfl call158 ntmps158 (zle rfl) results158 ?_;simp only[ZE,seval,zN];have hL:=fun(q:Nat) (h:q<l.length)=>zzK l[q] z;refine zgR (X:=Nat×Nat) (fun _ i=>[]) zat l.length (fun r X=>X.1<=X.2/\X.2<=l.length/\X.2-X.1+r<=l.length/\(∀q (h:q<l.length),q<X.1->ltP (zbg l[q]) (zbg z)=true)/\(∀q (h:q<l.length),X.2<=q->ltP (zbg l[q]) (zbg z)=false))
  (fun r X=>([(0,.ar 100 l.length),(2,.d (.clo (.func 53) [] [])),(4,.bp 4 0),(8,.d (eI l.length)),(9,.d (eI X.1)),(10,.d (eI X.2))],[(4,.box ((zaK z).map .d)),(100,.arr 64 35 .flat (l.map zaK))])) (0,l.length) ?_ ?_ ?_ (fun r X hr hI=> ?_)
 ·exact⟨Nat.zero_le _,waq _,by omega,by intro q _ h; omega,by intro q h h'; omega⟩
 ·simp only[ZE,seval]
 ·simp only[ZE,seval]
 obtain⟨i,j⟩:=X;obtain⟨h1,h2,h3,h4,h5⟩:=hI;simp only at h1 h2 h3 h4 h5;rcases wan i j with h | h
 ·have d1:decide ((i:Int)<(j:Int))=true:=by simp; omega
  have hh:(i+j) / 2<l.length:=by omega
  have w1:IntKind.i64.wrap ((i:Int)+(j:Int))=((i+j:Nat):Int):=by rw[<-Int.natCast_add]; exact zaQ (by omega) (by omega)
  have w2:IntKind.u64.wrap ((i+j:Nat):Int)=((i+j:Nat):Int):=by simp only[IntKind.wrap,IntKind.bits,IntKind.signed]; simp; omega
  have wh:IntKind.i64.wrap ((IntKind.u64.wrap ((i+j:Nat):Int)).fdiv (2 ^ min 1 IntKind.u64.bits))=(((i+j) / 2:Nat):Int):=by
   rw[w2,show(2:Int) ^ min 1 IntKind.u64.bits=2 from by decide,Int.fdiv_eq_ediv_of_nonneg _ (by omega),show((i+j:Nat):Int) / 2=(((i+j) / 2:Nat):Int)from by omega];exact zaQ (by omega) (by omega)
  obtain⟨m,hm⟩:=zX ((i+j) / 2);rw[hm]at wh hh;have hw:=zaq (show m<9223372036854775807 by omega);obtain⟨x,hx⟩:=zX (l[m]);have hc:=hL m hh;rw[hx]at hc;obtain⟨c,hcc⟩:=zX (zyB (zbg x) (zbg z));have hlt:c<0↔ltP (zbg x) (zbg z)=true:=by rw[<-hcc]; exact zwF _ _
  rw[hcc]at hc;simp only[ZE,seval]at hc;simp only[ZE,seval,zN,d1,w1,wh,zai hh,zaa hh,hx,waa];refine⟨by kernel_rfl,hh,EFn.p ?_⟩;simp only[ZE,seval,zN];refine zar.i hc ?_;by_cases hneg:c<0
  ·have dn:decide (c<0)=true:=decide_eq_true hneg;simp only[ZE,seval,zN,dn,hw];simp only[zep];refine⟨by omega,(m+1,j),⟨by simp only; omega,h2,by simp only; omega,fun q hq hqm=> ?_,h5⟩,?_⟩
   ·rcases Nat.lt_succ_iff_lt_or_eq.1 hqm with hlt' | rfl
    ·exact zuJ.tr _ _ _ (by have:=List.pairwise_iff_getElem.1 hs q m hq hh hlt'; rw[hx]at this; exact this) (hlt.1 hneg)
    ·rw[hx]; exact hlt.1 hneg
   ·simp only[ZE,seval]
  ·have dn:decide (c<0)=false:=decide_eq_false hneg;simp only[ZE,seval,zN,dn];have hnl:ltP (zbg x) (zbg z)=false:=by
    cases hq:ltP (zbg x) (zbg z)with
    | false=>rfl
    | true=>exact absurd (hlt.2 hq) hneg
   simp only[zep];refine⟨by omega,(i,m),⟨by simp only; omega,by simp only; omega,by simp only; omega,h4,fun q hq hqm=> ?_⟩,?_⟩
   ·rcases wan m q with hlt' | hge
    ·cases hq2:ltP (zbg l[q]) (zbg z)with
     | false=>rfl
     | true=>
      have h1:=List.pairwise_iff_getElem.1 hs m q hh hq hlt';rw[hx]at h1;have:=zuJ.tr _ _ _ h1 hq2;rw[hnl]at this; cases this
    ·have:q=m:=(by simp only at hqm; omega);subst this;rw[hx]; exact hnl
   ·simp only[ZE,seval]
 ·have e:i=j:=by omega
  subst e;have d1:decide ((i:Int)<(i:Int))=false:=by simp
  have lw:=low_eq h2 h4 h5;have lk:=lkp_at zuJ hs h4 h5;rw[lw];rcases wan i l.length with hin | hin
  ·obtain⟨x,hx⟩:=zX (l[i]);have hc:=hL i hin;rw[hx]at hc;obtain⟨c,hcc⟩:=zX (zyB (zbg x) (zbg z));have hzero:c=0↔zbg x=zbg z:=by rw[<-hcc]; exact zyI _ _
   have hfound:(lkp zbg l (zbg z)).isSome =(c==0):=by
    rw[war,lk,beq_iff_eq,hzero];exact⟨fun⟨_,h⟩=>by rw[hx]at h; exact h,fun h=>⟨hin,by rw[hx]; exact h⟩⟩
   rw[hcc]at hc;rw[hfound];simp only[ZE,seval]at hc;simp only[ZE,seval,d1,zaw hin,zai hin,zaa hin,hx,zN,waa];refine⟨by kernel_rfl,hin,zaz.i hc ?_⟩;simp only[ZE,seval,zN];refine⟨[4],[],?_⟩;simp only[ZE,seval]
  ·have hfound:(lkp zbg l (zbg z)).isSome =false:=by
    cases hq:(lkp zbg l (zbg z)).isSome with
    | false=>rfl
    | true=>obtain⟨h,_⟩:=lk.1 hq; omega
   rw[hfound];simp only[ZE,seval,d1,zaI hin,zN,waa];refine⟨by kernel_rfl,[4],[],?_⟩;simp only[ZE,seval]
set_option maxHeartbeats 40000000
theorem zya(n:Nat):decide (((n+1:Nat):Int)>0)=true:=decide_eq_true (by omega)
theorem zx2(n:Nat):((0:Int)<((n+1:Nat):Int))=True:=eq_true (by omega)
theorem zx3(n:Nat):((1:Int)<=((n+1:Nat):Int))=True:=eq_true (by omega)
theorem zx5(n:Nat):(((n+1:Nat):Int)==0)=false:=beq_eq_false_iff_ne.2 (by omega)
theorem zyX{α β:Type}(f:α->β)(l:List α):List.take l.length (l.map f)=l.map f:=by
 exact List.take_of_length_le (by rw[waa]; exact waq _)
theorem rowI(x:Item)(l:List Item): ∀e:List D,e=zaK x\/e∈l.map zaK->e.length=35:=by
 rintro e (rfl | h)
 ·simp[zaK,zgL,zb6,zib]
 ·obtain⟨p,_,rfl⟩:=List.mem_map.1 h; simp[zaK,zgL,zb6,zib]
def mI(n:Str)(m:Nat)(xs ys:List Item):List Edit:=zyn ltP zbg (fun x=>[zyw n x]) (fun y=>[zco n y]) (fun x y=>bothE n x y) m xs ys
theorem itemsD_mI(n:Str)(a b:List Item):zs8 n a b=mI n (a.length+b.length) a b:=rfl
def zye:List AV:=[.d (.clo (.func 53) [] []),.clo (.func 122) [] [.bp 101 0,.bp 102 0],.clo (.func 120) [] [.bp 101 0,.bp 102 0],.clo (.func 123) [] [.bp 103 0]]
theorem cmpP_gt{a b:Part}:0<zyB a b↔ltP b a=true:=by
 have h1:=zwF a b;have h0:=zyI a b;constructor
 ·intro h;cases hq:ltP b a with
  | true=>rfl
  | false=>
   have:=zuJ.conn a b (by cases hr:ltP a b with | false=>rfl | true=>have:=h1.2 hr; omega) hq;have:=h0.2 this;omega
 ·intro h;have h2: ¬zyB a b<0:=fun hc=>by have:=zuJ.asymm (h1.1 hc); rw[h]at this; cases this
  have h3:zyB a b≠0:=fun hc=>by have:=h0.1 hc; subst this; rw[zuJ.irr]at h; cases h
  omega
theorem mergeI_c(l:List Edit)(n:Str)(a b:List Item)(hl:(l++zs8 n a b).length <=4000000):FnL prog 121 [.d (.sl (a.map zaK)),.d (.sl (b.map zaK)),.agg zye] (dfN 100 101 102 n 104 l++[(103,zyD 101 102)])
  (fun V ol new=>V= .tup []/\ol=dfN 100 101 102 n 114 (l++zs8 n a b)++[(103,zyD 101 102)]/\new=[114]):=by
 refine FnL.of_eK 1999 [100,101,102,103] (own:=[]) (fun i=>if i=0 then [.rnm [(100,100),(101,101),(102,102),(104,114),(103,103),(5,5),(1999,1999)]]else []) [] zat func121 rfl call121 ntmps121 (zle rfl) results121 (by simp[dfN,dfO,zyD,zye,zyk,AO.noRef,AV.noRefs,AV.noRef]) (fun gs=> ?_);simp only[ZE,seval,zN,dfN,dfO,zyD,zye];refine zgR (X:=List Item×List Item×List Edit) (fun _ i=>if i=5 then [.rnm [(100,100),(101,101),(102,102),(115,114),(103,103),(5,5),(1999,1999)]]else if i=8 then [.rnm [(100,100),(101,101),(102,102),(115,114),(103,103),(5,5),(1999,1999)]]else if i=2 then [.rnm [(100,100),(101,101),(102,102),(115,114),(103,103),(5,5),(1999,1999)]]else if i=2004 then [.ord ⟨[(0,none),(1,none),(2,none),(3,none),(4,none),(5,none),(6,none),(7,none),(8,none),(9,none),(10,none),(11,none),(12,none),(13,none),(14,none),(15,none),(16,none),(17,none),(18,none),(19,none),(20,none)]⟩]else if i=2007 then [.ord ⟨[(0,none),(1,none),(2,none),(3,none),(4,none),(5,none),(6,none),(7,none),(8,none),(9,none),(10,none),(11,none),(12,none),(13,none),(14,none),(15,none)]⟩]else if i=2003 then [.ord ⟨[(0,none),(1,none),(2,none),(3,none),(4,some [2,3]),(5,some [])]⟩]else []) zat (a.length+b.length)
  (fun r X=>X.1.length+X.2.1.length+r<=a.length+b.length/\X.2.2++mI n (a.length+b.length-r) X.1 X.2.1=l++zs8 n a b)
  (fun r X=>([(0,.d (.sl (X.1.map zaK))),(1,.d (.sl (X.2.1.map zaK))),(5,.bp 5 0)],[(5,.box zye),(1999,.gh [.bp 100 0,.bp 101 0,.bp 102 0,.bp 103 0] gs),(100,.box [.ar 114 X.2.2.length]),(114,.arr 69 43 .flat (X.2.2.map zfN)),(101,.box [.bp 100 0]),(102,.box [.d (eS n)]),(103,zyD 101 102)])) (a,b,l) ?_ ?_ ?_ (fun r X hr hI=> ?_)
 ·exact⟨by simp,by rw[itemsD_mI]; rfl⟩
 ·simp only[ZE,seval,zN,zye,zyD]
 ·simp only[ZE,seval,zN,zye,zyD]
 obtain⟨xs,ys,es⟩:=X;obtain⟨hn,he⟩:=hI;simp only at hn he;have hes:es.length<=4000000:=by rw[<-he,wab]at hl; omega
 match xs,ys with
 | [],[]=>
  have e:es=l++zs8 n a b:=by rw[<-he]; cases (a.length+b.length-r) <;> simp[mI,zyn]
  subst e;simp only[zye,zyD];simp only[ZE,seval,zN];refine⟨[5,1999],[114],?_⟩;simp only[ZE,seval]
 | x::xs,[]=>
  obtain⟨m,hm⟩: ∃m,a.length+b.length-r=m+1:=⟨a.length+b.length-r-1,by simp at hn; omega⟩;have hm':a.length+b.length-(r+1)=m:=by omega
  have hmi:mI n (m+1) (x::xs) []=[zyw n x]++mI n m xs []:=rfl;rw[hm,hmi,<-wah]at he;have hel:(es++[zyw n x]).length =es.length+1:=by rw[wab]; rfl
  have rc:=drem_c es hes n x;simp only[dfN,dfO]at rc;simp only[zye,zyD];simp only[ZE,seval,zN,zya,zx2,waa];refine⟨by kernel_rfl,by kernel_rfl,EFn.g ⟨[(0,100),(1,101),(2,102),(4,114),(40,115)],_,_,_,rc,?_⟩⟩;simp only[ZE,seval];rintro V ol new ⟨rfl,rfl,rfl⟩;simp only[ZE,seval,zN,zx3,zyX];have rx:=rowI x xs;simp only[ZE,seval]at rx;refine⟨⟨rx,Int.le_refl _⟩,?_⟩;simp only[zep];refine⟨by simp at hn; omega,(xs,[],es++[zyw n x]),⟨by simp at hn ⊢; omega,by rw[hm']; exact he⟩,?_⟩;simp only[ZE,seval,zye,zyD]
 | [],y::ys=>
  obtain⟨m,hm⟩: ∃m,a.length+b.length-r=m+1:=⟨a.length+b.length-r-1,by simp at hn; omega⟩;have hm':a.length+b.length-(r+1)=m:=by omega
  have hmi:mI n (m+1) [] (y::ys)=[zco n y]++mI n m [] ys:=rfl;rw[hm,hmi,<-wah]at he;have rc:=dset_c es hes n y;simp only[dfN,dfO]at rc;simp only[zye,zyD];simp only[ZE,seval,zN,zya,zx2,zx5,waa];refine⟨by kernel_rfl,by kernel_rfl,by kernel_rfl,EFn.g ⟨[(0,100),(1,101),(2,102),(4,114),(40,115)],_,_,_,rc,?_⟩⟩;simp only[ZE,seval];rintro V ol new ⟨rfl,rfl,rfl⟩;simp only[ZE,seval,zN,zx3,zyX];have rx:=rowI y ys;simp only[ZE,seval]at rx;refine⟨⟨rx,Int.le_refl _⟩,?_⟩;simp only[zep];refine⟨by simp at hn; omega,([],ys,es++[zco n y]),⟨by simp at hn ⊢; omega,by rw[hm']; exact he⟩,?_⟩;simp only[ZE,seval,zye,zyD]
 | x::xs,y::ys=>
  obtain⟨m,hm⟩: ∃m,a.length+b.length-r=m+1:=⟨a.length+b.length-r-1,by simp at hn; omega⟩;have hm':a.length+b.length-(r+1)=m:=by omega
  rw[hm]at he;have ic:=zzK x y;obtain⟨c,hc⟩:=zX (zyB (zbg x) (zbg y));have hlt:c<0↔ltP (zbg x) (zbg y)=true:=by rw[<-hc]; exact zwF _ _
  have hgt:0<c↔ltP (zbg y) (zbg x)=true:=by rw[<-hc]; exact cmpP_gt
  rw[hc]at ic;simp only[ZE,seval]at ic;by_cases h1:c<0
  ·have hmi:mI n (m+1) (x::xs) (y::ys)=[zyw n x]++mI n m xs (y::ys):=by simp only[mI,zyn,hlt.1 h1,if_true]
   have d1:decide (c<0)=true:=decide_eq_true h1;rw[hmi,<-wah]at he;have rc:=drem_c es hes n x;simp only[dfN,dfO]at rc;simp only[zye,zyD];simp only[ZE,seval,zN,zya,zx2,zx5,waa];refine⟨by kernel_rfl,zaz.i ic ?_⟩;simp only[ZE,seval,zN,d1,zx2];refine⟨by kernel_rfl,EFn.g ⟨[(0,100),(1,101),(2,102),(4,114),(40,115)],_,_,_,rc,?_⟩⟩;simp only[ZE,seval];rintro V ol new ⟨rfl,rfl,rfl⟩;simp only[ZE,seval,zN,zx3,zyX];have rx:=rowI x xs;simp only[ZE,seval]at rx;refine⟨⟨rx,Int.le_refl _⟩,?_⟩;simp only[zep];refine⟨by simp at hn; omega,(xs,y::ys,es++[zyw n x]),⟨by simp at hn ⊢; omega,by rw[hm']; exact he⟩,?_⟩;simp only[ZE,seval,zye,zyD]
  have d1:decide (c<0)=false:=decide_eq_false h1;have h1':ltP (zbg x) (zbg y)=false:=by
   cases hq:ltP (zbg x) (zbg y)with
   | false=>rfl
   | true=>exact absurd (hlt.2 hq) h1
  by_cases h2:0<c
  ·have hmi:mI n (m+1) (x::xs) (y::ys)=[zco n y]++mI n m (x::xs) ys:=by simp only[mI,zyn,h1',hgt.1 h2,if_true,Bool.false_eq_true,if_false]
   have d2:decide (c>0)=true:=decide_eq_true h2;rw[hmi,<-wah]at he;have rc:=dset_c es hes n y;simp only[dfN,dfO]at rc;simp only[zye,zyD];simp only[ZE,seval,zN,zya,zx2,zx5,waa];refine⟨by kernel_rfl,zaz.i ic ?_⟩;simp only[ZE,seval,zN,d1,zx2,zx5,waa];refine⟨by kernel_rfl,zaz.i ic ?_⟩;simp only[ZE,seval,zN,d2,zx2,zx5,waa];refine⟨by kernel_rfl,EFn.g ⟨[(0,100),(1,101),(2,102),(4,114),(40,115)],_,_,_,rc,?_⟩⟩;simp only[ZE,seval];rintro V ol new ⟨rfl,rfl,rfl⟩;simp only[ZE,seval,zN,zx3,zyX];have rx:=rowI y ys;simp only[ZE,seval]at rx;refine⟨⟨rx,Int.le_refl _⟩,?_⟩;simp only[zep];refine⟨by simp at hn; omega,(x::xs,ys,es++[zco n y]),⟨by simp at hn ⊢; omega,by rw[hm']; exact he⟩,?_⟩;simp only[ZE,seval,zye,zyD]
  ·have h2':ltP (zbg y) (zbg x)=false:=by
    cases hq:ltP (zbg y) (zbg x)with
    | false=>rfl
    | true=>exact absurd (hgt.2 hq) h2
   have hmi:mI n (m+1) (x::xs) (y::ys)=bothE n x y++mI n m xs ys:=by simp only[mI,zyn,h1',h2',Bool.false_eq_true,if_false]
   have d2:decide (c>0)=false:=decide_eq_false h2;rw[hmi,<-wah]at he;have rc:=dboth_c es hes n x y;simp only[dfN,dfO,zyD,waj,wai]at rc;simp only[zye,zyD];simp only[ZE,seval,zN,zya,zx2,zx5,waa];refine⟨by kernel_rfl,zaz.i ic ?_⟩;simp only[ZE,seval,zN,d1,zx2,zx5,waa];refine⟨by kernel_rfl,zaz.i ic ?_⟩;simp only[ZE,seval,zN,d2,zx2,zx5,waa];refine⟨by kernel_rfl,EFn.g ⟨[(100,100),(101,101),(102,102),(103,103),(104,114),(114,115)],_,_,_,rc,?_⟩⟩;simp only[ZE,seval];rintro V ol new ⟨rfl,rfl,rfl⟩;simp only[ZE,seval,zN,zx3,zyX];have rx:=rowI x xs;have ry:=rowI y ys;simp only[ZE,seval]at rx ry;refine⟨by kernel_rfl,⟨rx,Int.le_refl _⟩,⟨ry,Int.le_refl _⟩,⟨ry,Int.le_refl _⟩,?_⟩;simp only[zep];refine⟨by simp at hn; omega,(xs,ys,es++bothE n x y),⟨by simp at hn ⊢; omega,by rw[hm']; exact he⟩,?_⟩;simp only[ZE,seval,zye,zyD]
theorem zy5(l:List Edit)(n:Str)(a b:List Item)(hl:(l++zs8 n a b).length <=4000000):FnL prog 67 [.bp 100 0,.d (eS n),.d (.sl (a.map zaK)),.d (.sl (b.map zaK))] (dfO 100 104 l)
  (fun V ol new=>V= .tup []/\ol=dfO 100 114 (l++zs8 n a b)/\new=[114]):=by
 refine FnL.of_eC (own:=[]) (fun _=>[]) [0] zat func67 rfl call67 ntmps67 (zle rfl) results67 ?_;have mc:=mergeI_c l n a b hl;simp only[dfN,dfO,zyD,zye,waj,wai]at mc;simp only[dfO];simp only[ZE,seval,zN];refine EFn.g ⟨[(100,100),(101,4),(102,5),(103,8),(104,104),(114,114)],_,_,_,mc,?_⟩;simp only[ZE,seval];rintro V ol new ⟨rfl,rfl,rfl⟩;simp only[ZE,seval];refine⟨[4,5,8],[114],?_⟩;simp only[ZE,seval]
theorem items_n(l:List Edit)(n:Str)(a:List Item)(hl:(l++zs8 n a []).length <=4000000):FnL prog 67 [.bp 100 0,.d (eS n),.d (.sl (a.map zaK)),.nils] (dfO 100 104 l)
  (fun V ol new=>V= .tup []/\ol=dfO 100 114 (l++zs8 n a [])/\new=[114]):=
 (zy5 l n a [] hl).weak fun O W F η vs h=>by
  simp only[zaN]at h ⊢;obtain⟨v0,_,rfl,h0,v1,_,rfl,h1,v2,_,rfl,h2,v3,_,rfl,h3,rfl⟩:=h;exact⟨_,_,rfl,h0,_,_,rfl,h1,_,_,rfl,h2,_,_,rfl,nils_sl h3,rfl⟩
theorem items_n'(l:List Edit)(n:Str)(b:List Item)(hl:(l++zs8 n [] b).length <=4000000):FnL prog 67 [.bp 100 0,.d (eS n),.nils,.d (.sl (b.map zaK))] (dfO 100 104 l)
  (fun V ol new=>V= .tup []/\ol=dfO 100 114 (l++zs8 n [] b)/\new=[114]):=
 (zy5 l n [] b hl).weak fun O W F η vs h=>by
  simp only[zaN]at h ⊢;obtain⟨v0,_,rfl,h0,v1,_,rfl,h1,v2,_,rfl,h2,v3,_,rfl,h3,rfl⟩:=h;exact⟨_,_,rfl,h0,_,_,rfl,h1,_,_,rfl,nils_sl h2,_,_,rfl,h3,rfl⟩
theorem dgone_c(l:List Edit)(m:Module)(hl:(l++(zs8 m.name m.items []++[zuR m.name])).length <=4000000):FnL prog 66 [.d (.agg (zaC m)),.bp 101 0] (dfO 100 104 l++[(101,.box [.bp 100 0])])
  (fun V ol new=>V= .tup []/\ol=dfO 100 114 (l++(zs8 m.name m.items []++[zuR m.name]))++[(101,.box [.bp 100 0])]/\new=[114]):=by
 refine FnL.of_eK 1999 [100] (own:=[]) (fun i=>if i=0 then [.rnm [(100,100),(101,101),(104,114),(2,2),(1999,1999)]]else if i=1 then [.rnm [(100,100),(101,101),(115,114),(2,2),(1999,1999)]]else if i=2002 then [.flt ⟨[(0,none),(1,none),(2,none),(3,none),(4,none),(5,none),(6,none),(7,none),(8,none),(9,some [0]),(10,none),(11,none),(12,some [])]⟩ ⟨[],[]⟩]else []) [1] zat func66 rfl call66 ntmps66 (zle rfl) results66 (by simp[dfO,zyk,AO.noRef,AV.noRefs,AV.noRef]) (fun gs=> ?_);have hl1:(l++zs8 m.name m.items []).length +1<=4000000:=by simpa [Nat.add_assoc]using hl
 have mc:=items_n l m.name m.items (by omega);obtain⟨L,hL⟩:=zX (l++zs8 m.name m.items []);rw[<-wah,hL,zy3];rw[hL]at mc hl1;have hz:zfN (zuR m.name)=eS m.name::(zfX zc7++(eB false::(zaK zaU++zaC zdP))):=rfl;rw[hz];simp only[dfO]at mc;simp only[ZE,seval]at mc;simp only[ZE,seval,zN,dfO,zfX,zc7,zaU,zdP,zbQ,zbj,emp,zcW,zbm,zgN,zgO,zbl,zbg,wac];refine EFn.g ⟨[(100,100),(104,114),(114,115)],_,_,_,mc,?_⟩;simp only[ZE,seval];rintro V ol new ⟨rfl,rfl,rfl⟩;simp only[ZE,seval,zN,zfX,zc7,zaU,zdP,zbQ,zbj,emp,zcW,zbm,zgN,zgO,zbl,zbg,wac];refine⟨by kernel_rfl,⟨by omega,by omega⟩,by simp,[2,1999],[114],?_⟩;simp only[ZE,seval]
theorem dcome_c(l:List Edit)(m:Module)(hl:(l++(zx7 m::zs8 m.name [] m.items)).length <=4000000):FnL prog 68 [.d (.agg (zaC m)),.bp 101 0] (dfO 100 104 l++[(101,.box [.bp 100 0])])
  (fun V ol new=>V= .tup []/\ol=dfO 100 114 (l++(zx7 m::zs8 m.name [] m.items))++[(101,.box [.bp 100 0])]/\new=[114]):=by
 refine FnL.of_eK 1999 [100] (own:=[]) (fun i=>if i=0 then [.rnm [(100,100),(101,101),(104,114),(2,2),(1999,1999)]]else if i=1 then [.rnm [(100,100),(101,101),(115,114),(2,2),(1999,1999)]]else if i=2 then [.rnm [(100,100),(101,101),(115,114),(2,2),(1999,1999)]]else []) [1] zat func68 rfl call68 ntmps68 (zle rfl) results68 (by simp[dfO,zyk,AO.noRef,AV.noRefs,AV.noRef]) (fun gs=> ?_);have e:l++(zx7 m::zs8 m.name [] m.items)=(l++[zx7 m])++zs8 m.name [] m.items:=by simp
 rw[e]at hl ⊢;have hc:=dhead_c l (by rw[wab,wab]at hl; omega) m;have mc:=items_n' (l++[zx7 m]) m.name m.items hl;simp only[dfO]at mc hc;simp only[ZE,seval]at mc hc;simp only[ZE,seval,zN,dfO];refine EFn.g ⟨[(0,100),(1,114),(40,115)],_,_,_,hc,?_⟩;simp only[ZE,seval];rintro V ol new ⟨rfl,rfl,rfl⟩;simp only[ZE,seval,zN];refine EFn.g ⟨[(100,100),(104,114),(114,115)],_,_,_,mc,?_⟩;simp only[ZE,seval];rintro V ol new ⟨rfl,rfl,rfl⟩;simp only[ZE,seval];refine⟨[2,1999],[114],?_⟩;simp only[ZE,seval]
theorem dmod_c(l:List Edit)(m n:Module)(hl:(l++(headD m n++zs8 n.name m.items n.items)).length <=4000000):FnL prog 70 [.d (.agg (zaC m)),.d (.agg (zaC n)),.bp 101 0] (dfO 100 104 l++[(101,.box [.bp 100 0])])
  (fun V ol new=>V= .tup []/\ol=dfO 100 114 (l++(headD m n++zs8 n.name m.items n.items))++[(101,.box [.bp 100 0])]/\new=[114]):=by
 refine FnL.of_eK 1999 [100] (own:=[]) (fun i=>if i=0 then [.rnm [(100,100),(101,101),(104,114),(3,3),(4,4),(1999,1999)]]else if i=2 then [.rnm [(100,100),(101,101),(115,114),(3,3),(4,4),(1999,1999)]]else if i=3 then [.rnm [(100,100),(101,101),(115,114),(3,3),(4,4),(1999,1999)]]else []) [2] zat func70 rfl call70 ntmps70 (zle rfl) results70 (by simp[dfO,zyk,AO.noRef,AV.noRefs,AV.noRef]) (fun gs=> ?_);have sc:=sameH_c m n;rcases Bool.eq_false_or_eq_true (zug m n)with hs | hs
 ·have e:l++(headD m n++zs8 n.name m.items n.items)=l++zs8 n.name m.items n.items:=by simp[headD,hs]
  rw[e]at hl ⊢;have mc:=zy5 l n.name m.items n.items hl;rw[hs]at sc;simp only[dfO]at mc;simp only[ZE,seval]at mc sc;simp only[ZE,seval,zN,dfO];refine EFn.p ?_;simp only[ZE,seval,zN];refine zar.i sc ?_;simp only[ZE,seval,zN];refine EFn.g ⟨[(100,100),(104,114),(114,115)],_,_,_,mc,?_⟩;simp(maxSteps:=4000000) only[ZE,seval];rintro V ol new ⟨rfl,rfl,rfl⟩;simp only[ZE,seval];refine⟨[3,4,1999],[114],?_⟩;simp only[ZE,seval]
 ·have e:l++(headD m n++zs8 n.name m.items n.items)=(l++[zx7 n])++zs8 n.name m.items n.items:=by simp[headD,hs]
  rw[e]at hl ⊢;have hc:=dhead_c l (by rw[wab,wab]at hl; omega) n;have mc:=zy5 (l++[zx7 n]) n.name m.items n.items hl;rw[hs]at sc;simp only[dfO]at mc hc;simp only[ZE,seval]at mc sc hc;simp only[ZE,seval,zN,dfO];refine EFn.p ?_;simp only[ZE,seval,zN];refine zar.i sc ?_;simp only[ZE,seval,zN];refine EFn.g ⟨[(0,100),(1,114),(40,115)],_,_,_,hc,?_⟩;simp(maxSteps:=4000000) only[ZE,seval];rintro V ol new ⟨rfl,rfl,rfl⟩;simp only[ZE,seval,zN];refine EFn.g ⟨[(100,100),(104,114),(114,115)],_,_,_,mc,?_⟩;simp(maxSteps:=4000000) only[ZE,seval];rintro V ol new ⟨rfl,rfl,rfl⟩;simp only[ZE,seval];refine⟨[3,4,1999],[114],?_⟩;simp only[ZE,seval]
def mM(m:Nat)(xs ys:List Module):List Edit:=zyn ltS Module.name (fun m=>zs8 m.name m.items []++[zuR m.name]) (fun m=>zx7 m::zs8 m.name [] m.items) (fun m n=>headD m n++zs8 n.name m.items n.items) m xs ys
theorem diffN_mM(a b:List Module):zyJ a b=mM (a.length+b.length) a b:=rfl
def zyf:List AV:=[.d (.clo (.func 57) [] []),.clo (.func 66) [] [.bp 101 0],.clo (.func 68) [] [.bp 101 0],.clo (.func 70) [] [.bp 101 0]]
theorem cmpN_gt{a b:Str}:0<zy2 a b↔ltS b a=true:=by
 have h1:zy2 a b<0↔ltS a b=true:=zwE _ _;have h0:zy2 a b=0↔a=b:=zoY _ _;constructor
 ·intro h;cases hq:ltS b a with
  | true=>rfl
  | false=>
   have:=zrt.conn a b (by cases hr:ltS a b with | false=>rfl | true=>have:=h1.2 hr; omega) hq;have:=h0.2 this;omega
 ·intro h;have h2: ¬zy2 a b<0:=fun hc=>by have:=zrt.asymm (h1.1 hc); rw[h]at this; cases this
  have h3:zy2 a b≠0:=fun hc=>by have:=h0.1 hc; subst this; rw[zrt.irr]at h; cases h
  omega
theorem rowM(x:Module)(l:List Module): ∀e:List D,e=zaC x\/e∈l.map zaC->e.length=4:=by
 rintro e (rfl | h)
 ·rfl
 ·obtain⟨p,_,rfl⟩:=List.mem_map.1 h; rfl
theorem mergeM_c(l:List Edit)(a b:List Module)(hl:(l++zyJ a b).length <=4000000):FnL prog 65 [.d (.sl (a.map zaC)),.d (.sl (b.map zaC)),.agg zyf] (dfO 100 104 l++[(101,.box [.bp 100 0])])
  (fun V ol new=>V= .tup []/\ol=dfO 100 114 (l++zyJ a b)++[(101,.box [.bp 100 0])]/\new=[114]):=by
 refine FnL.of_eK 1999 [100,101] (own:=[]) (fun i=>if i=0 then [.rnm [(100,100),(101,101),(104,114),(5,5),(1999,1999)]]else []) [] zat func65 rfl call65 ntmps65 (zle rfl) results65 (by simp[dfO,zyf,zyk,AO.noRef,AV.noRefs,AV.noRef]) (fun gs=> ?_);simp only[ZE,seval,zN,dfO,zyf];refine zgR (X:=List Module×List Module×List Edit) (fun _ i=>if i=5 then [.rnm [(100,100),(101,101),(115,114),(5,5),(1999,1999)]]else if i=8 then [.rnm [(100,100),(101,101),(115,114),(5,5),(1999,1999)]]else if i=2 then [.rnm [(100,100),(101,101),(115,114),(5,5),(1999,1999)]]else if i=2004 then [.ord ⟨[(0,none),(1,none),(2,none),(3,none),(4,none),(5,none),(6,none),(7,none),(8,none),(9,none),(10,none),(11,none),(12,none),(13,none),(14,none),(15,none),(16,none),(17,none),(18,none),(19,none),(20,none)]⟩]else if i=2007 then [.ord ⟨[(0,none),(1,none),(2,none),(3,none),(4,none),(5,none),(6,none),(7,none),(8,none),(9,none),(10,none),(11,none),(12,none),(13,none),(14,none),(15,none)]⟩]else if i=2003 then [.ord ⟨[(0,none),(1,none),(2,none),(3,none),(4,some [2,3]),(5,some [])]⟩]else []) zat (a.length+b.length)
  (fun r X=>X.1.length+X.2.1.length+r<=a.length+b.length/\X.2.2++mM (a.length+b.length-r) X.1 X.2.1=l++zyJ a b)
  (fun r X=>([(0,.d (.sl (X.1.map zaC))),(1,.d (.sl (X.2.1.map zaC))),(5,.bp 5 0)],[(5,.box zyf),(1999,.gh [.bp 100 0,.bp 101 0] gs),(100,.box [.ar 114 X.2.2.length]),(114,.arr 69 43 .flat (X.2.2.map zfN)),(101,.box [.bp 100 0])])) (a,b,l) ?_ ?_ ?_ (fun r X hr hI=> ?_)
 ·exact⟨by simp,by rw[diffN_mM]; rfl⟩
 ·simp only[ZE,seval,zN,zyf]
 ·simp only[ZE,seval,zN,zyf]
 obtain⟨xs,ys,es⟩:=X;obtain⟨hn,he⟩:=hI;simp only at hn he;have hes:es.length<=4000000:=by rw[<-he,wab]at hl; omega
 match xs,ys with
 | [],[]=>
  have e:es=l++zyJ a b:=by rw[<-he]; cases (a.length+b.length-r) <;> simp[mM,zyn]
  subst e;simp only[zyf];simp only[ZE,seval,zN];refine⟨[5,1999],[114],?_⟩;simp only[ZE,seval]
 | x::xs,[]=>
  obtain⟨m,hm⟩: ∃m,a.length+b.length-r=m+1:=⟨a.length+b.length-r-1,by simp at hn; omega⟩;have hm':a.length+b.length-(r+1)=m:=by omega
  have hmi:mM (m+1) (x::xs) []=(zs8 x.name x.items []++[zuR x.name])++mM m xs []:=rfl;rw[hm,hmi,<-wah]at he;have rc:=dgone_c es x (by rw[<-he]at hl; rw[wab]at hl; omega);simp only[dfO]at rc;simp only[zyf];simp only[ZE,seval,zN,zya,zx2,waa];refine⟨by kernel_rfl,by kernel_rfl,EFn.g ⟨[(100,100),(101,101),(104,114),(114,115)],_,_,_,rc,?_⟩⟩;simp only[ZE,seval];rintro V ol new ⟨rfl,rfl,rfl⟩;simp only[ZE,seval,zN,zx3,zyX];have rx:=rowM x xs;simp only[ZE,seval]at rx;refine⟨⟨rx,Int.le_refl _⟩,?_⟩;simp only[zep];refine⟨by simp at hn; omega,(xs,[],es++(zs8 x.name x.items []++[zuR x.name])),⟨by simp at hn ⊢; omega,by rw[hm']; exact he⟩,?_⟩;simp only[ZE,seval,zyf]
 | [],y::ys=>
  obtain⟨m,hm⟩: ∃m,a.length+b.length-r=m+1:=⟨a.length+b.length-r-1,by simp at hn; omega⟩;have hm':a.length+b.length-(r+1)=m:=by omega
  have hmi:mM (m+1) [] (y::ys)=(zx7 y::zs8 y.name [] y.items)++mM m [] ys:=rfl;rw[hm,hmi,<-wah]at he;have rc:=dcome_c es y (by rw[<-he]at hl; rw[wab]at hl; omega);simp only[dfO]at rc;simp only[zyf];simp only[ZE,seval,zN,zya,zx2,zx5,waa];refine⟨by kernel_rfl,by kernel_rfl,by kernel_rfl,EFn.g ⟨[(100,100),(101,101),(104,114),(114,115)],_,_,_,rc,?_⟩⟩;simp only[ZE,seval];rintro V ol new ⟨rfl,rfl,rfl⟩;simp only[ZE,seval,zN,zx3,zyX];have rx:=rowM y ys;simp only[ZE,seval]at rx;refine⟨⟨rx,Int.le_refl _⟩,?_⟩;simp only[zep];refine⟨by simp at hn; omega,([],ys,es++(zx7 y::zs8 y.name [] y.items)),⟨by simp at hn ⊢; omega,by rw[hm']; exact he⟩,?_⟩;simp only[ZE,seval,zyf]
 | x::xs,y::ys=>
  obtain⟨m,hm⟩: ∃m,a.length+b.length-r=m+1:=⟨a.length+b.length-r-1,by simp at hn; omega⟩;have hm':a.length+b.length-(r+1)=m:=by omega
  rw[hm]at he;have ic:=zzL x y;obtain⟨c,hc⟩:=zX (zy2 x.name y.name);have hlt:c<0↔ltS x.name y.name=true:=by rw[<-hc]; exact zwE _ _
  have hgt:0<c↔ltS y.name x.name=true:=by rw[<-hc]; exact cmpN_gt
  rw[hc]at ic;simp only[ZE,seval]at ic;by_cases h1:c<0
  ·have hmi:mM (m+1) (x::xs) (y::ys)=(zs8 x.name x.items []++[zuR x.name])++mM m xs (y::ys):=by simp only[mM,zyn,hlt.1 h1,if_true]
   have d1:decide (c<0)=true:=decide_eq_true h1;rw[hmi,<-wah]at he;have rc:=dgone_c es x (by rw[<-he]at hl; rw[wab]at hl; omega);simp only[dfO]at rc;simp only[zyf];simp only[ZE,seval,zN,zya,zx2,zx5,waa];refine⟨by kernel_rfl,zaz.i ic ?_⟩;simp only[ZE,seval,zN,d1,zx2];refine⟨by kernel_rfl,EFn.g ⟨[(100,100),(101,101),(104,114),(114,115)],_,_,_,rc,?_⟩⟩;simp only[ZE,seval];rintro V ol new ⟨rfl,rfl,rfl⟩;simp only[ZE,seval,zN,zx3,zyX];have rx:=rowM x xs;simp only[ZE,seval]at rx;refine⟨⟨rx,Int.le_refl _⟩,?_⟩;simp only[zep];refine⟨by simp at hn; omega,(xs,y::ys,es++(zs8 x.name x.items []++[zuR x.name])),⟨by simp at hn ⊢; omega,by rw[hm']; exact he⟩,?_⟩;simp only[ZE,seval,zyf]
  have d1:decide (c<0)=false:=decide_eq_false h1;have h1':ltS x.name y.name=false:=by
   cases hq:ltS x.name y.name with
   | false=>rfl
   | true=>exact absurd (hlt.2 hq) h1
  by_cases h2:0<c
  ·have hmi:mM (m+1) (x::xs) (y::ys)=(zx7 y::zs8 y.name [] y.items)++mM m (x::xs) ys:=by simp only[mM,zyn,h1',hgt.1 h2,if_true,Bool.false_eq_true,if_false]
   have d2:decide (c>0)=true:=decide_eq_true h2;rw[hmi,<-wah]at he;have rc:=dcome_c es y (by rw[<-he]at hl; rw[wab]at hl; omega);simp only[dfO]at rc;simp only[zyf];simp only[ZE,seval,zN,zya,zx2,zx5,waa];refine⟨by kernel_rfl,zaz.i ic ?_⟩;simp only[ZE,seval,zN,d1,zx2,zx5,waa];refine⟨by kernel_rfl,zaz.i ic ?_⟩;simp only[ZE,seval,zN,d2,zx2,zx5,waa];refine⟨by kernel_rfl,EFn.g ⟨[(100,100),(101,101),(104,114),(114,115)],_,_,_,rc,?_⟩⟩;simp only[ZE,seval];rintro V ol new ⟨rfl,rfl,rfl⟩;simp only[ZE,seval,zN,zx3,zyX];have rx:=rowM y ys;simp only[ZE,seval]at rx;refine⟨⟨rx,Int.le_refl _⟩,?_⟩;simp only[zep];refine⟨by simp at hn; omega,(x::xs,ys,es++(zx7 y::zs8 y.name [] y.items)),⟨by simp at hn ⊢; omega,by rw[hm']; exact he⟩,?_⟩;simp only[ZE,seval,zyf]
  ·have h2':ltS y.name x.name=false:=by
    cases hq:ltS y.name x.name with
    | false=>rfl
    | true=>exact absurd (hgt.2 hq) h2
   have hmi:mM (m+1) (x::xs) (y::ys)=(headD x y++zs8 y.name x.items y.items)++mM m xs ys:=by simp only[mM,zyn,h1',h2',Bool.false_eq_true,if_false]
   have d2:decide (c>0)=false:=decide_eq_false h2;rw[hmi,<-wah]at he;have rc:=dmod_c es x y (by rw[<-he]at hl; rw[wab]at hl; omega);simp only[dfO,waj,wai]at rc;simp only[zyf];simp only[ZE,seval,zN,zya,zx2,zx5,waa];refine⟨by kernel_rfl,zaz.i ic ?_⟩;simp only[ZE,seval,zN,d1,zx2,zx5,waa];refine⟨by kernel_rfl,zaz.i ic ?_⟩;simp only[ZE,seval,zN,d2,zx2,zx5,waa];refine⟨by kernel_rfl,EFn.g ⟨[(100,100),(101,101),(104,114),(114,115)],_,_,_,rc,?_⟩⟩;simp only[ZE,seval];rintro V ol new ⟨rfl,rfl,rfl⟩;simp only[ZE,seval,zN,zx3,zyX];have rx:=rowM x xs;have ry:=rowM y ys;simp only[ZE,seval]at rx ry;refine⟨by kernel_rfl,⟨rx,Int.le_refl _⟩,⟨ry,Int.le_refl _⟩,⟨ry,Int.le_refl _⟩,?_⟩;simp only[zep];refine⟨by simp at hn; omega,(xs,ys,es++(headD x y++zs8 y.name x.items y.items)),⟨by simp at hn ⊢; omega,by rw[hm']; exact he⟩,?_⟩;simp only[ZE,seval,zyf]
structure NOk (l:List Module):Prop where
 names:(l.map Module.name).Nodup
 parts: ∀m∈l,(m.items.map zbg).Nodup
 len:l.length<=4000000
 items: ∀m∈l,m.items.length<=4000000
theorem zsv(a b:List Module)(ha:NOk a)(hb:NOk b)(hl:(zrp a b).length <=4000000):FnP prog 21 [.agg [zax a],.agg [zax b]] (.d (.sl ((zrp a b).map zfN))) []:=by
 refine FnP.of_eC (own:=[]) (fun i=>if i=1 then [.adB 7 0 107 69 43]else if i=2002 then [.ord ⟨[(0,none),(1,none),(2,none),(3,none),(4,none),(5,none),(6,none),(7,none),(8,none),(9,none),(10,some [])]⟩]else []) zat func21 rfl call21 ntmps21 (zle rfl) results21 (fun hok=> ?_);have na:=zih a ha.names ha.parts ha.len ha.items;have nb:=zih b hb.names hb.parts hb.len hb.items;have mc:=mergeM_c [] (zcC a) (zcC b) (by rw[wai]; exact hl);rw[wai]at mc;rw[show zyJ (zcC a) (zcC b)=zrp a b from rfl]at mc;simp only[dfO,zyf,waj,wai]at mc;simp only[ZE,seval]at na nb mc;simp only[ZE,seval,zN];refine⟨by kernel_rfl,zaz.i na ?_⟩;simp only[ZE,seval,zN];refine zaz.i nb ?_;simp only[ZE,seval,zN];refine EFn.g ⟨[(100,7),(101,5),(104,107),(114,114)],_,_,_,mc,?_⟩;simp only[ZE,seval];rintro V ol new ⟨rfl,rfl,rfl⟩;simp only[ZE,seval,zN]
theorem normalo_c(l:List Module)(h:NOk l):FnL prog 24 [.d (.agg [zax l])] [] (fun V ol new=>V= .agg [.ar 90 l.length]/\ol=[(90,.arr 53 4 .flat ((zcC l).map zaC))]/\new=[90]):=by
 obtain⟨hn,hp,hl,hi⟩:=h;refine FnL.of_eB 1999 [] (own:=[]) (fun i=>[]) [] zat func24 rfl call24 ntmps24 (zle rfl) results24 (by simp[zyk,AO.noRef,AV.noRefs,AV.noRef]) (fun gs=> ?_);have vc:=znZ l;simp only[ZE,seval,zN,retBE.eq_def,eRetB.eq_def,resB.eq_1,resB.eq_2,selB.eq_def];refine EFn.p ?_;simp only[ZE,seval,zN];refine zar.i vc ?_;simp only[ZE,seval,zN];refine EFn.g ⟨[(90,90)],[.d (.clo (.func 128) [] [.ptr [.sl (l.map zaC)]]),.d (.clo (.func 57) [] [])],_,_,znX l hl,?_⟩;simp only[ZE,seval];rintro V ol new ⟨rfl,⟨L,hL,hs,rfl⟩,rfl⟩;have e:L=zl7 ltS Module.name l:=zrj zrt hn hL (hs.imp fun{a b} h=>zy6 h);have hLl:L.length=l.length:=hL.length_eq.symm;have hnF:zcC l=L.map zl5:=by unfold zcC; rw[e]
 rw[hnF,<-nrmL_all];simp only[ZE,seval,zN,hLl];have hpL: ∀i (h:i<L.length),(L[i].items.map zbg).Nodup /\L[i].items.length <=4000000:=fun i h=>by
  have hm:L[i]∈l:=hL.mem_iff.2 (waf h);exact⟨hp _ hm,hi _ hm⟩
 refine za1 (fun i=>if i=2005 then [.ord ⟨[(0,none),(1,none),(2,none),(3,none),(4,none),(5,none),(6,none),(7,none),(8,none),(9,some [])]⟩]else []) zat l.length (fun _=>True) (fun i=>([(2,.bp 2 0),(3,.bp 3 0),(12,.ar 90 l.length),(13,.d (eI l.length)),(14,.d (eI i))],[(2,.box [.nils]),(3,.box [.ar 90 l.length]),(90,.arr 53 4 .flat ((nrmL L i).map zaC)),(1999,.gh [] gs)])) trivial ?_ ?_ (fun i hi' _=> ?_)
 ·simp only[ZE,seval]
 ·simp only[ZE,seval,nrmL_zero]
 rcases wan i l.length with h | h
 ·have hw:=zaq (show i<9223372036854775807 by omega);have hiL:i<L.length:=by omega
  obtain⟨hnd,hll⟩:=hpL i hiL;rw[nrmL_step L i hiL];have hat:=nrmL_at L i hiL;have hnl:=zyF L i;obtain⟨R,hR⟩:=zX (nrmL L i);obtain⟨m,hm⟩:=zX (L[i]);rw[hR,hm]at hat;rw[hR]at hnl;rw[hm]at hnd hll;rw[hR,hm];have hiR:i<R.length:=by omega
  have hRi:R[i]=m:=by
   rw[wal,List.getElem?_eq_getElem hiR]at hat;exact hat
  have ic:=zrk m.items;have sc:=zyA m.items hll hnd;have hset:(R.map zaC).set i ((zaC m).set 3 (.sl ((zl7 ltP zbg m.items).map zaK)))=(R.set i (zl5 m)).map zaC:=by rw[List.map_set]; rfl
  try simp only[ZE,seval]at sc
  simp only[ZE,seval,zaw h,zai h,zaa hiR,hRi,zN,waa,hnl,hLl];refine⟨h,by kernel_rfl,zaz.i ic ?_⟩;simp only[ZE,seval,zN];refine zaz.i sc ?_;simp only[ZE,seval]at hset;simp only[ZE,seval,zN,hw,hset,zaa hiR,hRi,waa,hnl,hLl];exact⟨⟨by omega,by omega⟩,h⟩
 ·have:i=l.length:=by omega
  subst this;simp only[ZE,seval,zaI h,zN,waa,zyF,hLl,retBE.eq_def,eRetB.eq_def,resB.eq_1,resB.eq_2,selB.eq_def];refine⟨[2,3,1999],[90],?_⟩;simp only[ZE,seval,retBE.eq_def,eRetB.eq_def,resB.eq_1,resB.eq_2,selB.eq_def]
section
variable {α κ:Type} [DecidableEq κ] {lt:κ->κ->Bool} {key:α->κ}
omit [DecidableEq κ] in
theorem low_lt{y:α}{r:List α}{k:κ}(h:lt (key y) k=true):zyu lt key (y::r) k=zyu lt key r k+1:=by
 grind [zyu]
omit [DecidableEq κ] in
theorem low_ge(o:TOrd lt){y:α}{r:List α}{k:κ}(hs:Srt lt key (y::r))(h:lt (key y) k=false):zyu lt key (y::r) k=0:=by
 unfold zyu;rw[List.countP_eq_zero];intro x hx;obtain⟨h1,_⟩:=List.pairwise_cons.1 hs;rcases List.mem_cons.1 hx with rfl | hx
 ·simpa using h
 ·intro hc;have:=o.tr _ _ _ (h1 x hx) (by simpa using hc);simp_all
omit [DecidableEq κ] in
theorem low_le(l:List α)(k:κ):zyu lt key l k<=l.length:=List.countP_le_length
theorem zy0(o:TOrd lt): ∀ {l:List α} {k:κ} {m:α},Srt lt key l->lkp key l k=some m-> ∃h:zyu lt key l k<l.length,l[zyu lt key l k]=m
 | y::r,k,m,hs,hm=>by
  obtain⟨h1,h2⟩:=List.pairwise_cons.1 hs;rw[zeH]at hm;by_cases e:key y=k
  ·rw[if_pos e]at hm;cases hm;have h0:=low_ge o hs (k:=k) (by rw[e]; exact o.irr k);simp_all
  ·rw[if_neg e]at hm;have hk:=(zeI hm);have hlt:lt (key y) k=true:=by grind
   obtain⟨h3,h4⟩:=zy0 o h2 hm;grind [low_lt]
theorem zyz(o:TOrd lt): ∀ {l:List α} {x m:α},Srt lt key l->lkp key l (key x)=some m->zpT lt key l x=l.set (zyu lt key l (key x)) x
 | y::r,x,m,hs,hm=>by
  obtain⟨h1,h2⟩:=List.pairwise_cons.1 hs;rw[zeH]at hm;by_cases e:key y=key x
  ·have h0:=low_ge o hs (k:=key x) (by rw[e]; exact o.irr _);have h3:lt (key x) (key y)=false:=by rw[e]; exact o.irr _
   grind [zpT]
  ·rw[if_neg e]at hm;have hk:=(zeI hm);have hlt:lt (key y) (key x)=true:=by grind
   rw[low_lt (r:=r) hlt];simp[zpT,o.asymm hlt,hlt,zyz o h2 hm]
theorem zy7(o:TOrd lt): ∀ {l:List α} {x:α},Srt lt key l->lkp key l (key x)=none->zpT lt key l x=l.take (zyu lt key l (key x))++x::l.drop (zyu lt key l (key x))
 | [],x,_,_=>by rfl
 | y::r,x,hs,hm=>by
  obtain⟨h1,h2⟩:=List.pairwise_cons.1 hs;rw[zeH]at hm;by_cases e:key y=key x
  ·simp_all
  rw[if_neg e]at hm;cases hlt:lt (key y) (key x)with
  | true=>
   rw[low_lt (r:=r) hlt];simp[zpT,o.asymm hlt,hlt,zy7 o h2 hm]
  | false=>
   have h3:lt (key x) (key y)=true:=by
    cases hq:lt (key x) (key y)with
    | true=>rfl
    | false=>exact absurd (o.conn _ _ hlt hq) e
   grind [low_ge,zpT]
theorem rmvS_at(o:TOrd lt): ∀ {l:List α} {k:κ} {m:α},Srt lt key l->lkp key l k=some m->zyC key l k=l.eraseIdx (zyu lt key l k)
 | y::r,k,m,hs,hm=>by
  obtain⟨h1,h2⟩:=List.pairwise_cons.1 hs;rw[zeH]at hm;by_cases e:key y=k
  ·have h0:=low_ge o hs (k:=k) (by rw[e]; exact o.irr _);rw[h0];simp[zyC,e]
  ·rw[if_neg e]at hm;have hk:=(zeI hm);have hlt:lt (key y) k=true:=by grind
   rw[low_lt (r:=r) hlt];simp[zyC,e,rmvS_at o h2 hm]
end
theorem zyv(x:Item): ∀d∈zaK x,d.one:=by
 simp[zaK,zgL,zb6,zib,eI,eS,ziG,zel,D.one,Value.oneCell']
theorem zyq(x:Module): ∀d∈zaC x,d.one:=by
 simp[zaC,eS,zd5,zbR,D.one,Value.oneCell']
theorem erase_map{α β:Type}(f:α->β)(l:List α)(i:Nat):(l.map f).eraseIdx i=(l.eraseIdx i).map f:=by
 grind [List.eraseIdx_eq_take_drop_succ,List.map_take,List.map_drop]
theorem delItem_c(l:List Item)(i:Nat)(hi:i<l.length):FnL prog 160 [.ar 0 l.length,.d (eI i),.d (eI ((i+1:Nat):Int))] [(0,.arr 64 35 .flat (l.map zaK))]
  (fun V ol new=>V= .ar 40 (l.eraseIdx i).length /\ol=[(40,.arr 64 35 .flat ((l.eraseIdx i).map zaK))]/\new=[40]):=by
 have h:=del_own (P:=prog) (fun args w=>call160 args w) deleteItem_w (l.map zaK) (fun x hx=>by obtain⟨p,_,rfl⟩:=List.mem_map.1 hx; exact zyv p) i (by rw[waa]; exact hi);rw[waa,erase_map,<-List.length_eraseIdx_of_lt hi]at h;exact h
theorem insItem_c(l:List Item)(x:Item)(i:Nat)(hi:i<=l.length)(hl:l.length<=4000000):FnL prog 159 [.ar 0 l.length,.d (eI i),.ar 50 1] [(0,.arr 64 35 .flat (l.map zaK)),(50,.arr 64 35 .flat [zaK x])]
  (fun V ol new=>V= .ar 40 (l.take i++x::l.drop i).length /\ol=[(40,.arr 64 35 .flat ((l.take i++x::l.drop i).map zaK))]/\new=[40]):=by
 have h:=ins_own (P:=prog) (fun args w=>call159 args w) insertItem_w (l.map zaK) (zaK x) (fun y hy=>by
  rcases List.mem_cons.1 hy with rfl | hy
  ·exact zyv x
  ·obtain⟨p,_,rfl⟩:=List.mem_map.1 hy; exact zyv p) i (by rw[waa]; exact hi) (by rw[waa]; exact hl)
 have e:(l.map zaK).take i++zaK x::(l.map zaK).drop i=(l.take i++x::l.drop i).map zaK:=by simp[List.map_take,List.map_drop]
 have e2:(l.take i++x::l.drop i).length =l.length+1:=by simp; omega
 rw[waa,e,<-e2]at h;exact h
theorem delModule_c(l:List Module)(i:Nat)(hi:i<l.length):FnL prog 161 [.ar 0 l.length,.d (eI i),.d (eI ((i+1:Nat):Int))] [(0,.arr 53 4 .flat (l.map zaC))]
  (fun V ol new=>V= .ar 40 (l.eraseIdx i).length /\ol=[(40,.arr 53 4 .flat ((l.eraseIdx i).map zaC))]/\new=[40]):=by
 have h:=del_own (P:=prog) (fun args w=>call161 args w) zyT (l.map zaC) (fun x hx=>by obtain⟨p,_,rfl⟩:=List.mem_map.1 hx; exact zyq p) i (by rw[waa]; exact hi);rw[waa,erase_map,<-List.length_eraseIdx_of_lt hi]at h;exact h
theorem insModule_c(l:List Module)(x:Module)(i:Nat)(hi:i<=l.length)(hl:l.length<=4000000):FnL prog 162 [.ar 0 l.length,.d (eI i),.ar 50 1] [(0,.arr 53 4 .flat (l.map zaC)),(50,.arr 53 4 .flat [zaC x])]
  (fun V ol new=>V= .ar 40 (l.take i++x::l.drop i).length /\ol=[(40,.arr 53 4 .flat ((l.take i++x::l.drop i).map zaC))]/\new=[40]):=by
 have h:=ins_own (P:=prog) (fun args w=>call162 args w) zyU (l.map zaC) (zaC x) (fun y hy=>by
  rcases List.mem_cons.1 hy with rfl | hy
  ·exact zyq x
  ·obtain⟨p,_,rfl⟩:=List.mem_map.1 hy; exact zyq p) i (by rw[waa]; exact hi) (by rw[waa]; exact hl)
 have e:(l.map zaC).take i++zaC x::(l.map zaC).drop i=(l.take i++x::l.drop i).map zaC:=by simp[List.map_take,List.map_drop]
 have e2:(l.take i++x::l.drop i).length =l.length+1:=by simp; omega
 rw[waa,e,<-e2]at h;exact h
theorem cloneI_c(l:List Item)(hl:l.length<=4000000):FnL prog 157 [.d (.sl (l.map zaK))] [] (fun V ol new=>V= .ar 40 l.length/\ol=[(40,.arr 64 35 .flat (l.map zaK))]/\new=[40]):=by
 refine FnL.of_eC (own:=[]) (fun i=>if i=2 then [.adT 2 40 64 35]else if i=3 then [.rnm [(5,40)]]else []) [] zat func157 rfl call157 ntmps157 (zle rfl) results157 ?_;have hr:zcY 35 (l.map zaK):=fun y hy=>by
  obtain⟨p,_,rfl⟩:=List.mem_map.1 hy;exact⟨by simp[zaK,zgL,zb6,zib],zyv p⟩
 simp only[ZE,seval,zN,waa];refine⟨by simp[zdc],fun b hb=> ?_⟩;cases b with
 | true=>
  have hl0:l=[]:=List.map_eq_nil_iff.1 (hb rfl);subst hl0;simp only[ZE,seval,zN,wac];refine⟨[],[40],?_⟩;simp only[ZE,seval]
 | false=>
  simp only[ZE,seval,zN,waa];refine⟨⟨hr,by omega,by omega⟩,[],[40],?_⟩;simp only[ZE,seval]
def arM(l:List Module):AO:=.arr 53 4 .flat (l.map zaC)
def zyj(r:Option (List Module))(V:AV)(ol:OL)(new:List Nat):Prop:=
 match r with
 | some s=>V= .tup [.ar 140 s.length,.d (eB true)]/\ol=[(140,.arr 53 4 .flat (s.map zaC))]/\new=[140]
 | none=>V= .tup [.d (.sl []),.d (eB false)]/\ol=[]/\new=[]
theorem gt_len{n:Nat}(h:0<n):decide ((n:Int)>0)=true:=decide_eq_true (by omega)
theorem gt_len0:decide (((0:Nat):Int)>0)=false:=by decide
theorem thead_c(l:List Module)(hs:Srt ltS Module.name l)(hl:l.length+1<=4000000)(e:Edit):FnL prog 101 [.ar 100 l.length,.d (.agg (zfN e))] [(100,.arr 53 4 .flat (l.map zaC))] (zyj (zzb l e)):=by
 refine FnL.of_eC (own:=[]) (fun i=>if i=11 then [.rnm [(100,140),(3,3)]]else if i=2010 then [.flt ⟨[(0,none),(1,none),(2,none),(3,none),(4,none),(5,none),(6,none),(7,none),(8,none),(9,none),(10,none),(11,none),(12,some [2,3,7,8,9]),(13,none),(14,none),(15,some [])]⟩ ⟨[],[]⟩]else []) [0] zat func101 rfl call101 ntmps101 (zle rfl) results101 ?_;obtain⟨mo,pt,has,to,hd⟩:=e;have bs0:=zyY l (by omega) {zdP with name:=mo} hs;have hz:Module.name {zdP with name:=mo}=mo:=rfl;rw[hz]at bs0;obtain⟨i,hi⟩:=zX (zyu ltS Module.name l mo);simp only[hi,zdP]at bs0;simp only[ZE,seval,zN,zdP,emp]at bs0;have bs:=FnL.aggN [.ar 100 l.length] [.d (.clo (.func 57) [] [])] (cs:=[.d (.lit (.string mo.val)),.d (.lit (.string wam)),.nils,.nils]) bs0 rfl;simp only[waj,wai]at bs;clear bs0;simp only[zzb];cases has with
 | false=>
  cases hm:lkp Module.name l mo with
  | none=>
   rw[hm]at bs;simp only[ZE,seval,zfN,zfX,zN];refine EFn.gV [(100,100)] bs ?_ ?_
   ·simp only[ZE,seval]
   rintro V ol new ⟨rfl,rfl,rfl⟩;simp only[ZE,seval,zN];refine⟨[3,100],[],?_⟩;simp only[ZE,seval,zyj]
  | some m=>
   rw[hm]at bs;obtain⟨hil,him⟩:=zy0 zrt hs hm;simp only[hi]at hil him;have hin:=rmvS_at zrt hs hm;rw[hi]at hin;by_cases h0:m.items=[]
   ·have hw:IntKind.i64.wrap ((i:Int)+1)=((i+1:Nat):Int):=zaQ (by omega) (by omega);have dc:=delModule_c l i hil;simp only[ZE,seval]at dc;simp only[ZE,seval,zfN,zfX,zN,h0];refine EFn.gV [(100,100)] bs ?_ ?_
    ·simp only[ZE,seval]
    rintro V ol new ⟨rfl,rfl,rfl⟩;simp only[ZE,seval,zN,zai hil,zaa hil,him,h0,wac,gt_len0,hw];refine⟨hil,EFn.gV [(0,100),(40,140)] dc ?_ ?_⟩
    ·simp only[ZE,seval]
    rintro V ol new ⟨rfl,rfl,rfl⟩;simp only[ZE,seval,zN];refine⟨[3],[140],?_⟩;simp only[ZE,seval,zyj,hin,h0]
   ·have hpos:0<m.items.length:=List.length_pos_iff.2 h0;simp only[ZE,seval,zfN,zfX,zN,h0];refine EFn.gV [(100,100)] bs ?_ ?_
    ·simp only[ZE,seval]
    rintro V ol new ⟨rfl,rfl,rfl⟩;simp only[ZE,seval,zN,zai hil,zaa hil,him,gt_len hpos,waa];refine⟨hil,[3,100],[],?_⟩;simp only[ZE,seval,zyj,h0,not_false_eq_true]
 | true=>
  by_cases hn:hd.name=mo
  ·by_cases h0:hd.items=[]
   ·have hc: ¬(hd.name≠mo\/hd.items≠[]):=(by simp[hn,h0]);simp only[if_true,if_neg hc];have dn:(!decide (hd.name=mo))=false:=(by simp[hn]);cases hm:lkp Module.name l mo with
    | none=>
     rw[hm]at bs;have hm2:lkp Module.name l hd.name=none:=(by rw[hn]; exact hm);have hpn:=zy7 zrt hs hm2;rw[hn,hi]at hpn;have hil:i<=l.length:=(by rw[<-hi]; exact low_le _ _);have ic:=insModule_c l hd i hil (by omega);simp only[ZE,seval,h0,wac]at ic;simp only[ZE,seval,zfN,zfX,zN,h0,wac];refine EFn.gV [(100,100)] bs ?_ ?_
     ·simp only[ZE,seval]
     rintro V ol new ⟨rfl,rfl,rfl⟩;simp only[ZE,seval,zN,wac,gt_len0,dn];refine EFn.gV [(0,100),(50,57),(40,140)] ic ?_ ?_
     ·simp only[ZE,seval]
     rintro V ol new ⟨rfl,rfl,rfl⟩;simp only[ZE,seval,zN];refine⟨[3],[140],?_⟩;simp only[ZE,seval,zyj,hpn]
    | some m=>
     rw[hm]at bs;obtain⟨hil,him⟩:=zy0 zrt hs hm;simp only[hi]at hil him;have hmn:({m with clock:=hd.clock,params:=hd.params}:Module).name =mo:=(zeI hm).2;have hps:=zyz zrt (x:={m with clock:=hd.clock,params:=hd.params}) hs (by rw[hmn]; exact hm);have hlow:zyu ltS Module.name l ({m with clock:=hd.clock,params:=hd.params}:Module).name =i:=(congrArg (zyu ltS Module.name l) hmn).trans hi;rw[hlow]at hps;simp only[ZE,seval,zfN,zfX,zN,h0,wac];refine EFn.gV [(100,100)] bs ?_ ?_
     ·simp only[ZE,seval]
     rintro V ol new ⟨rfl,rfl,rfl⟩;have hgd: ∀x:List D,((List.map zaC l).set i x).getD i []=x:=fun x=>by simp[List.getD,hil]
     have hfin:(List.map zaC l).set i (zaC {m with clock:=hd.clock,params:=hd.params})=(l.set i {m with clock:=hd.clock,params:=hd.params}).map zaC:=(by rw[List.map_set]);simp only[ZE,seval]at hfin;simp only[ZE,seval,zN,wac,gt_len0,dn,zai hil,zaa hil,him,waa,wak,hgd,List.set_set,hfin];refine⟨by kernel_rfl,hil,hil,[3],[140],?_⟩;simp only[ZE,seval,zyj];rw[hps,wak];exact⟨rfl,rfl⟩
   ·have hc:hd.name≠mo\/hd.items≠[]:=.inr h0;simp only[if_true,if_pos hc];have dn:(!decide (hd.name=mo))=false:=(by simp[hn]);have hpos:0<hd.items.length:=List.length_pos_iff.2 h0;simp only[ZE,seval,zfN,zfX,zN];refine EFn.gV [(100,100)] bs ?_ ?_
    ·simp only[ZE,seval]
    rintro V ol new ⟨rfl,rfl,rfl⟩;simp only[ZE,seval,zN,gt_len hpos,dn,waa];refine⟨[3,100],[],?_⟩;simp only[ZE,seval,zyj]
  ·have hc:hd.name≠mo\/hd.items≠[]:=.inl hn;simp only[if_true,if_pos hc];have dn:(!decide (hd.name=mo))=true:=by simp[hn]
   simp only[ZE,seval,zfN,zfX,zN];refine EFn.gV [(100,100)] bs ?_ ?_
   ·simp only[ZE,seval]
   rintro V ol new ⟨rfl,rfl,rfl⟩;simp only[ZE,seval,zN,dn,waa];refine⟨[3,100],[],?_⟩;simp only[ZE,seval,zyj]
def czI(k:Int)(n:ByteArray):List AV:=
 [.d (.lit (.int .i64 k)),.d (.lit (.string n)),.d (.lit (.int .i64 0)),.d (.lit (.string wam)),.d (.lit (.int .i64 0)),.d (.lit (.string wam)),.d (.lit (.int .i64 0)),.d (.lit (.string wam)),
  .d (.lit (.int .i64 0)),.d (.lit (.string wam)),.d (.lit (.int .i64 0)),.d (.lit (.string wam)),.d (.lit (.int .i64 0)),.d (.lit (.string wam)),.nils,
  .d (.lit (.int .i64 0)),.d (.lit (.string wam)),.d (.lit (.int .i64 0)),.d (.lit (.string wam)),.d (.lit (.int .i64 0)),.d (.lit (.string wam)),.nils,
  .d (.lit (.int .i64 0)),.d (.lit (.string wam)),.d (.lit (.int .i64 0)),.d (.lit (.string wam)),.d (.lit (.int .i64 0)),.d (.lit (.string wam)),.nils,
  .d (.lit (.int .i64 0)),.d (.lit (.string wam)),.d (.lit (.int .i64 0)),.d (.lit (.string wam)),.nils,.nils]
theorem titem_c(l:List Module)(hs:Srt ltS Module.name l)(hl:l.length+1<=4000000)(hsi: ∀m∈l,Srt ltP zbg m.items/\m.items.length+1<=4000000)(e:Edit):FnL prog 100 [.ar 100 l.length,.d (.agg (zfN e))] [(100,.arr 53 4 .flat (l.map zaC))] (zyj (zl8 l e)):=by
 refine FnL.of_eC (own:=[]) (fun i=>if i=14 then [.rnm [(100,140),(3,3)]]else if i=1013 then [.frz 42]else if i=8 then [.rnm [(100,100),(41,42),(3,3)]]else if i=2002 then [.ord ⟨[(0,none),(1,none),(2,none),(3,none),(4,none),(5,none),(6,none),(7,none),(8,none),(9,none),(10,none),(11,none),(12,none),(13,none),(14,none),(15,none),(16,none),(17,none),(18,none),(19,none)]⟩]else []) [0] zat func100 rfl call100 ntmps100 (zle rfl) results100 ?_;obtain⟨mo,pt,has,to,hd⟩:=e;have bs0:=zyY l (by omega) {zdP with name:=mo} hs;have hz:Module.name {zdP with name:=mo}=mo:=rfl;rw[hz]at bs0;obtain⟨i,hi⟩:=zX (zyu ltS Module.name l mo);simp only[hi,zdP]at bs0;simp only[ZE,seval,zN,zdP,emp]at bs0;have bs:=FnL.aggN [.ar 100 l.length] [.d (.clo (.func 57) [] [])] (cs:=[.d (.lit (.string mo.val)),.d (.lit (.string wam)),.nils,.nils]) bs0 rfl;simp only[waj,wai]at bs;clear bs0;simp only[zl8];cases hm:lkp Module.name l mo with
 | none=>
  rw[hm]at bs;simp only[ZE,seval,zfN,zfX,zN];refine EFn.gV [(100,100)] bs ?_ ?_
  ·simp only[ZE,seval]
  rintro V ol new ⟨rfl,rfl,rfl⟩;simp only[ZE,seval,zN];refine⟨by kernel_rfl,[3,100],[],?_⟩;simp only[ZE,seval,zyj]
 | some m=>
  rw[hm]at bs;obtain⟨hil,him⟩:=zy0 zrt hs hm;simp only[hi]at hil him;have hmn:m.name=mo:=(zeI hm).2;obtain⟨hsm,hlm⟩:=hsi m (zeI hm).1;have cc:=cloneI_c m.items (by omega);have bi0:=bsItem_c m.items (by omega) {zaU with kind:=pt.kind,name:=pt.name} hsm;have hzp:zbg {zaU with kind:=pt.kind,name:=pt.name}=pt:=rfl;rw[hzp]at bi0;obtain⟨k,hk⟩:=zX (zyu ltP zbg m.items pt);simp only[hk]at bi0;simp only[ZE,seval,zN,zaU,zbQ,zbj,emp,zcW,zbm,zgN,zgO,zbl,wac]at bi0;have bi:=FnL.aggN [.ar 100 m.items.length] [.d (.clo (.func 53) [] [])] (cs:=czI pt.kind.val pt.name.val) bi0 rfl;simp only[waj,wai,czI]at bi;clear bi0;cases has with
  | false=>
   simp only[Bool.false_eq_true,if_false];cases hx:lkp zbg m.items pt with
   | none=>
    rw[hx]at bi;simp only[ZE,seval,zfN,zfX,zN];refine EFn.gV [(100,100)] bs ?_ ?_
    ·simp only[ZE,seval]
    rintro V ol new ⟨rfl,rfl,rfl⟩;simp only[ZE,seval,zN,zai hil,zaa hil,him,waa];refine⟨by kernel_rfl,hil,EFn.gV [(40,41)] cc ?_ ?_⟩
    ·simp only[ZE,seval]
    rintro V ol new ⟨rfl,rfl,rfl⟩;simp only[ZE,seval,zN];refine EFn.gV [(100,41)] bi ?_ ?_
    ·simp only[ZE,seval]
    rintro V ol new ⟨rfl,rfl,rfl⟩;simp only[ZE,seval,zN];refine⟨[3,100,41],[],?_⟩;simp only[ZE,seval,zyj]
   | some x=>
    rw[hx]at bi;obtain⟨hkl,hkx⟩:=zy0 zuJ hsm hx;simp only[hk]at hkl hkx;have hrm:=rmvS_at zuJ hsm hx;rw[hk]at hrm;have hw:IntKind.i64.wrap ((k:Int)+1)=((k+1:Nat):Int):=zaQ (by omega) (by omega);have dc:=delItem_c m.items k hkl;simp only[ZE,seval]at dc;simp only[ZE,seval,zfN,zfX,zN];refine EFn.gV [(100,100)] bs ?_ ?_
    ·simp only[ZE,seval]
    rintro V ol new ⟨rfl,rfl,rfl⟩;simp only[ZE,seval,zN,zai hil,zaa hil,him,waa];refine⟨by kernel_rfl,hil,EFn.gV [(40,41)] cc ?_ ?_⟩
    ·simp only[ZE,seval]
    rintro V ol new ⟨rfl,rfl,rfl⟩;simp only[ZE,seval,zN];refine EFn.gV [(100,41)] bi ?_ ?_
    ·simp only[ZE,seval]
    rintro V ol new ⟨rfl,rfl,rfl⟩;simp only[ZE,seval,zN,hw];refine EFn.gV [(0,41),(40,42)] dc ?_ ?_
    ·simp only[ZE,seval]
    rintro V ol new ⟨rfl,rfl,rfl⟩;rw[hrm];have hfin:(List.map zaC l).set i (zaC {m with items:=m.items.eraseIdx k})=(l.set i {m with items:=m.items.eraseIdx k}).map zaC:=(by rw[List.map_set]);have hps:zpT ltS Module.name l {m with items:=m.items.eraseIdx k}=l.set i {m with items:=m.items.eraseIdx k}:=by
     have h:=zyz zrt (x:={m with items:=m.items.eraseIdx k}) hs ((congrArg (lkp Module.name l) hmn).trans hm);rwa [show zyu ltS Module.name l ({m with items:=m.items.eraseIdx k}:Module).name =i from(congrArg (zyu ltS Module.name l) hmn).trans hi]at h
    simp only[ZE,seval]at hfin;simp only[ZE,seval,zN,zai hil,zaa hil,him,waa,hfin];refine⟨hil,[3],[140],?_⟩;simp only[ZE,seval,zyj];rw[hps,wak];exact⟨rfl,rfl⟩
  | true=>
   have oc:=tof_c to;simp only[ZE,seval,zfX,zbg]at oc;by_cases hp:zbg to=pt
   ·subst hp;by_cases h0:to.kind.1=0
    ·have hc:zbg to≠zbg to\/(zbg to).kind.1 =0:=.inr h0;have hk0:(to.kind.val==0)=true:=beq_iff_eq.2 h0;simp only[if_true,if_pos hc];simp only[ZE,seval,zfN,zfX,zN];refine EFn.gV [(100,100)] bs ?_ ?_
     ·simp only[ZE,seval]
     rintro V ol new ⟨rfl,rfl,rfl⟩;simp only[ZE,seval,zN,zai hil,zaa hil,him,waa];refine⟨by kernel_rfl,zaz.i oc ?_⟩;simp only[ZE,seval,zN,zbg,hk0];refine⟨[3,100],[],?_⟩;simp only[ZE,seval,zyj]
    ·have hc: ¬(zbg to≠zbg to\/(zbg to).kind.1 =0):=fun h=>h.elim (fun h=>h rfl) h0;have hk0:(to.kind.val==0)=false:=beq_eq_false_iff_ne.2 h0;simp only[if_true,if_neg hc];cases hx:lkp zbg m.items (zbg to)with
     | none=>
      rw[hx]at bi;have hpn:=zy7 zuJ hsm hx;rw[hk]at hpn;have hkl:k<=m.items.length:=(by rw[<-hk]; exact low_le _ _);have ic:=insItem_c m.items to k hkl (by omega);rw[hpn];obtain⟨its,hits⟩:=zX (m.items.take k++to::m.items.drop k);rw[hits]at ic ⊢;simp only[zbg]at bi;simp only[ZE,seval]at ic;simp only[ZE,seval,zfN,zfX,zN];refine EFn.gV [(100,100)] bs ?_ ?_
      ·simp only[ZE,seval]
      rintro V ol new ⟨rfl,rfl,rfl⟩;simp only[ZE,seval,zN,zai hil,zaa hil,him,waa];refine⟨by kernel_rfl,zaz.i oc ?_⟩;simp only[ZE,seval,zN,zbg,hk0,zai hil,zaa hil,him,waa];refine⟨hil,EFn.gV [(40,41)] cc ?_ ?_⟩
      ·simp only[ZE,seval]
      rintro V ol new ⟨rfl,rfl,rfl⟩;simp only[ZE,seval,zN];refine EFn.gV [(100,41)] bi ?_ ?_
      ·simp only[ZE,seval]
      rintro V ol new ⟨rfl,rfl,rfl⟩;simp only[ZE,seval,zN];refine EFn.gV [(0,41),(50,80),(40,42)] ic ?_ ?_
      ·simp only[ZE,seval]
      rintro V ol new ⟨rfl,rfl,rfl⟩;have hfin:(List.map zaC l).set i (zaC {m with items:=its})=(l.set i {m with items:=its}).map zaC:=(by rw[List.map_set]);have hps:zpT ltS Module.name l {m with items:=its}=l.set i {m with items:=its}:=by
       have h:=zyz zrt (x:={m with items:=its}) hs ((congrArg (lkp Module.name l) hmn).trans hm);rwa [show zyu ltS Module.name l ({m with items:=its}:Module).name =i from(congrArg (zyu ltS Module.name l) hmn).trans hi]at h
      simp only[ZE,seval]at hfin;simp only[ZE,seval,zN,zai hil,zaa hil,him,waa,hfin];refine⟨hil,[3],[140],?_⟩;simp only[ZE,seval,zyj];rw[hps,wak];exact⟨rfl,rfl⟩
     | some x=>
      rw[hx]at bi;obtain⟨hkl,hkx⟩:=zy0 zuJ hsm hx;simp only[hk]at hkl hkx;have hpa:=zyz zuJ hsm hx;rw[hk]at hpa;rw[hpa];have hset:(List.map zaK m.items).set k (zaK to)=(m.items.set k to).map zaK:=(by rw[List.map_set]);obtain⟨its,hits⟩:=zX (m.items.set k to);have hlen:its.length=m.items.length:=(by rw[<-hits,wak]);rw[hits]at hset ⊢;simp only[zbg]at bi;simp only[ZE,seval]at hset;simp only[ZE,seval,zfN,zfX,zN];refine EFn.gV [(100,100)] bs ?_ ?_
      ·simp only[ZE,seval]
      rintro V ol new ⟨rfl,rfl,rfl⟩;simp only[ZE,seval,zN,zai hil,zaa hil,him,waa];refine⟨by kernel_rfl,zaz.i oc ?_⟩;simp only[ZE,seval,zN,zbg,hk0,zai hil,zaa hil,him,waa];refine⟨hil,EFn.gV [(40,41)] cc ?_ ?_⟩
      ·simp only[ZE,seval]
      rintro V ol new ⟨rfl,rfl,rfl⟩;simp only[ZE,seval,zN];refine EFn.gV [(100,41)] bi ?_ ?_
      ·simp only[ZE,seval]
      rintro V ol new ⟨rfl,rfl,rfl⟩;have hfin:(List.map zaC l).set i (zaC {m with items:=its})=(l.set i {m with items:=its}).map zaC:=(by rw[List.map_set]);have hps:zpT ltS Module.name l {m with items:=its}=l.set i {m with items:=its}:=by
       have h:=zyz zrt (x:={m with items:=its}) hs ((congrArg (lkp Module.name l) hmn).trans hm);rwa [show zyu ltS Module.name l ({m with items:=its}:Module).name =i from(congrArg (zyu ltS Module.name l) hmn).trans hi]at h
      simp only[ZE,seval]at hfin;simp only[ZE,seval,zN,zai hil,zaa hil,him,waa,hfin,zai hkl,zaa hkl,hkx,List.drop_succ_cons,List.drop_zero,hset,hlen];refine⟨hkl,hil,[3],[140],?_⟩;simp only[ZE,seval,zyj];rw[hps,wak];exact⟨rfl,rfl⟩
   ·have hc:zbg to≠pt\/pt.kind.1=0:=.inl hp;have hne:(to.kind.val==pt.kind.val&&decide (to.name=pt.name))=false:=(zxs (zbg to) pt).trans (decide_eq_false hp);simp only[if_true,if_pos hc];simp only[ZE,seval,zfN,zfX,zN];refine EFn.gV [(100,100)] bs ?_ ?_
    ·simp only[ZE,seval]
    rintro V ol new ⟨rfl,rfl,rfl⟩;simp only[ZE,seval,zN,zai hil,zaa hil,him,waa];refine⟨by kernel_rfl,zaz.i oc ?_⟩;simp only[ZE,seval,zN,hne];refine⟨[3,100],[],?_⟩;simp only[ZE,seval,zyj]
section
variable {α κ:Type} [DecidableEq κ] {lt:κ->κ->Bool} {key:α->κ}
omit [DecidableEq κ] in
theorem putS_le: ∀(l:List α) (x:α),(zpT lt key l x).length <=l.length+1
 | [],x=>by simp[zpT]
 | y::r,x=>by
  have:=putS_le r x;grind [zpT]
theorem rmvS_le: ∀(l:List α) (k:κ),(zyC key l k).length <=l.length
 | [],k=>by simp[zyC]
 | y::r,k=>by
  have:=rmvS_le r k;grind [zyC]
end
theorem part_z: ∀p:Part,p.kind.val=0->p.name.val=wam->p=zc7:=by
 rintro⟨⟨pk,hk⟩,⟨pn,hn⟩⟩ q1 q2;simp only at q1 q2;subst q1 q2;rfl
structure StB (n:Nat) (s:List Module):Prop where
 good:Good s
 len:s.length<=n
 items: ∀m∈s,m.items.length<=n
theorem StB.put{n:Nat}{s:List Module}(h:StB n s){m:Module}(hm:Srt ltP zbg m.items)(hl:m.items.length<=n+1):StB (n+1) (zpT ltS Module.name s m):=
 ⟨h.good.put hm,wao (putS_le _ _) (Nat.succ_le_succ h.len),fun z hz=>by
  rcases zxh hz with rfl | hz
  ·exact hl
  ·exact Nat.le_succ_of_le (h.items z hz)⟩
theorem StB.step{n:Nat}{s s':List Module}(h:StB n s){e:Edit}(hs:zx4 s e=some s'):StB (n+1) s':=by
 unfold zx4 at hs;split at hs
 ·unfold zzb at hs;split at hs
  ·split at hs
   ·cases hs
   ·rename_i hc;have h0:e.head.items=[]:=Classical.byContradiction fun hn=>hc (.inr hn);split at hs
    ·cases hs;exact h.put (by rw[h0]; exact List.Pairwise.nil) (by simp_all)
    ·rename_i m hm;cases hs;exact h.put (h.good.parts m (zeI hm).1) (Nat.le_succ_of_le (h.items m (zeI hm).1))
  ·split at hs
   ·cases hs
   ·split at hs
    ·cases hs
    ·cases hs;exact⟨h.good.rmv _,Nat.le_succ_of_le (wao (rmvS_le _ _) h.len),fun z hz=>Nat.le_succ_of_le (h.items z (zxi hz))⟩
 ·unfold zl8 at hs;split at hs
  ·cases hs
  ·rename_i m hm;have hsm:=h.good.parts m (zeI hm).1;have hlm:=h.items m (zeI hm).1;split at hs
   ·split at hs
    ·cases hs
    ·cases hs;exact h.put (Srt.ins zuJ _ hsm) (wao (putS_le _ _) (Nat.succ_le_succ hlm))
   ·split at hs
    ·cases hs;exact h.put (Srt.del _ hsm) (Nat.le_succ_of_le (wao (rmvS_le _ _) hlm))
    ·cases hs
def zyp(r:Option (List Module)):AV:=
 match r with
 | some s=>.tup [.d (.agg [zax s]),.d (eI 0)]
 | none=>.tup [.d (.agg [.sl []]),.d (eI 160)]
theorem zyH{s:List Module}{es:List Edit}{i:Nat}(hi:i<es.length){x:List Module}(h1:(es.take i).foldlM zx4 s=some x)(h2:zx4 x es[i]=none):es.foldlM zx4 s=none:=by
 grind [List.take_append_drop,List.foldlM_append,List.drop_eq_getElem_cons]
theorem zz5(a:List Module)(h:NOk a)(hg:Good (zcC a))(es:List Edit)(n:Nat)(hn:a.length<=n/\ ∀m∈a,m.items.length<=n)(hl:n+es.length+1<=4000000):FnP prog 46 [.agg [zax a],.sl (es.map zfN)] (zyp (zoS a es)) []:=by
 refine FnP.of_eC (own:=[]) (fun i=>[]) zat func46 rfl call46 ntmps46 (zle rfl) results46 (fun hok=> ?_);have nc:=normalo_c a h;simp only[ZE,seval,zN];refine EFn.gV [(90,140)] nc ?_ ?_
 ·simp only[ZE,seval]
 rintro V ol new ⟨rfl,rfl,rfl⟩;simp only[ZE,seval,zN,waa];have hb0:StB n (zcC a):=⟨hg,by rw[zyb]; exact hn.1,fun m hm=>by
  unfold zcC at hm;obtain⟨q,hq,rfl⟩:=List.mem_map.1 hm;have:=hn.2 q ((zcn a).mem_iff.1 hq);show(zl7 ltP zbg q.items).length <=n;rw[(zcn q.items).length_eq]; exact this⟩
 have hnl:=zyb a;rw[<-hnl];refine zgR (X:=List Module) (fun _ i=>if i=11 then [.rnm [(141,140),(4,4),(8,8)]]else []) zat es.length (fun i s=>(es.take i).foldlM zx4 (zcC a)=some s/\StB (n+i) s)
  (fun i s=>([(4,.bp 4 0),(6,.ar 140 s.length),(15,.d (.sl (es.map zfN))),(16,.d (eI es.length)),(17,.d (eI i))],[(4,.box [.nils]),(140,.arr 53 4 .flat (s.map zaC))])) (zcC a) ?_ ?_ ?_ (fun i s hi hI=> ?_)
 ·simp_all
 ·simp only[ZE,seval]
 ·simp only[ZE,seval]
 obtain⟨h1,hb⟩:=hI;rcases wan i es.length with hlt | hge
 ·have hw:=zaq (show i<9223372036854775807 by omega);obtain⟨e,he⟩:=zX (es[i]);have hstep:(es.take (i+1)).foldlM zx4 (zcC a)=zx4 s e:=by
   rw[wae hlt,List.foldlM_append,h1,he];simp_all
  by_cases hp:e.part=zc7
  ·have hpe:(e.part.kind.val==0&&decide (e.part.name.val=wam))=true:=by rw[hp]; rfl
   have hse:zx4 s e=zzb s e:=if_pos hp;have tc:=thead_c s hb.good.srt (by have:=hb.len; omega) e;simp only[ZE,seval,zfN,zfX]at tc;simp only[ZE,seval,zaw hlt,zai hlt,zaa hlt,he,zfN,zfX,zN,waa,hpe];refine EFn.gV [(100,140),(140,141)] tc ?_ ?_
   ·simp only[ZE,seval]
   intro V ol new hq;cases hr:zzb s e with
   | none=>
    rw[hr]at hq;obtain⟨rfl,rfl,rfl⟩:=hq;have hap:zoS a es=none:=zyH hlt h1 (by simp_all);rw[hap];simp only[ZE,seval,zN,zyp]
   | some s'=>
    rw[hr]at hq;obtain⟨rfl,rfl,rfl⟩:=hq;simp only[ZE,seval,zN,hw];simp only[zep];refine⟨hlt,s',⟨by simp_all,?_⟩,?_⟩
    ·have:=hb.step (e:=e) (by rw[hse,hr]); exact this
    ·simp only[ZE,seval]
  ·have hpe:(e.part.kind.val==0&&decide (e.part.name.val=wam))=false:=by
    grind [part_z]
   have hse:zx4 s e=zl8 s e:=if_neg hp;have tc:=titem_c s hb.good.srt (by have:=hb.len; omega) (fun m hm=>⟨hb.good.parts m hm,by have:=hb.items m hm; omega⟩) e;simp only[ZE,seval,zfN,zfX]at tc;simp only[ZE,seval,zaw hlt,zai hlt,zaa hlt,he,zfN,zfX,zN,waa,hpe];refine EFn.gV [(100,140),(140,141)] tc ?_ ?_
   ·simp only[ZE,seval]
   intro V ol new hq;cases hr:zl8 s e with
   | none=>
    rw[hr]at hq;obtain⟨rfl,rfl,rfl⟩:=hq;have hap:zoS a es=none:=zyH hlt h1 (by simp_all);rw[hap];simp only[ZE,seval,zN,zyp]
   | some s'=>
    rw[hr]at hq;obtain⟨rfl,rfl,rfl⟩:=hq;simp only[ZE,seval,zN,hw];simp only[zep];refine⟨hlt,s',⟨by simp_all,?_⟩,?_⟩
    ·have:=hb.step (e:=e) (by rw[hse,hr]); exact this
    ·simp only[ZE,seval]
 ·have:i=es.length:=by omega
  subst this;rw[List.take_length]at h1;have hap:zoS a es=some s:=h1;rw[hap];simp only[ZE,seval,zaI hge,zN,waa,zyp]
def zzz(x:Item):Bool:=x.kind.1==0
theorem kind0_c(x:Item):FnP prog 55 [.agg (zaK x)] (.d (eB (zzz x))) []:=by
 refine FnP.of_eC (own:=[]) (fun _=>[]) zat func55 rfl call55 ntmps55 (zle rfl) results55 (fun hok=> ?_);simp only[ZE,seval,zN,zzz]
theorem indexK_c(l:List Item):FnP prog 112 [.sl (l.map zaK),.clo (.func 55) [] []] (.d (eI (zgM zzz l))) []:=by
 refine FnP.of_eC (own:=[]) chL zat func112 rfl call112 ntmps112 (zle rfl) results112 (fun hok=> ?_);obtain⟨hl,_⟩:=za9 (zaM hok).1;simp only[ZE,seval,zN];refine za1 chL zat l.length (fun i=> ∀j (_:j<i) (hj:j<l.length),zzz l[j]=false) (fun i=>([(0,.d (zbR l)),(1,.d (.clo (.func 55) [] [])),(7,.d (eI l.length)),(8,.d (eI i))],[])) (by simp) (by simp only[ZE,seval,zN,waa]) (by simp only[ZE,seval]) (fun i hi hI=> ?_);rcases wan i l.length with h | h
 ·have hw:=zaq (show i<9223372036854775807 by omega);simp only[ZE,seval,zaw h,zaa h,zai h,waa];have hc:=kind0_c l[i];simp only[ZE,seval]at hc;refine EFn.p ?_;simp only[ZE,seval];refine zar.i hc ?_;simp only[ZE,seval,hw];refine zd8 (fun h3=> ?_) (fun h3=>⟨h,fun j hj hj'=> ?_⟩)
  ·rw[zeP h h3 hI]
  ·rcases Nat.lt_succ_iff_lt_or_eq.1 hj with hj | rfl
   ·exact hI j hj hj'
   ·exact h3
 ·simp only[ZE,seval,zaI h,waa];rw[zeO (fun j hj=>hI j (by omega) hj)]
theorem zzw(l:List Item):FnP prog 54 [.sl (l.map zaK),.clo (.func 55) [] []] (.d (eB (l.any zzz))) []:=by
 refine FnP.of_eC (own:=[]) chL zat func54 rfl call54 ntmps54 (zle rfl) results54 (fun hok=> ?_);simp only[ZE,seval,zN];refine EFn.p ?_;simp only[ZE,seval];have hc:=indexK_c l;simp only[ZE,seval]at hc;refine zar.i hc ?_;clear hc;simp only[ZE,seval,zN,zf0]
section
open Go.Aw Go.Sort Go.RowKit Go.Lib
set_option maxRecDepth 1000000
set_option maxHeartbeats 8000000
theorem zqI{W:World}{F:Nat->Prop}: ∀(m b off:Nat),zbJ W F 0 (List.replicate m []) b off
 | 0,_,_=>trivial
 | m+1,b,off=>by
  rw[List.replicate_succ];exact⟨⟨rfl,trivial⟩,zqI m b (off+0)⟩
theorem mem_box{P:Program}{W:World}{F O0:Nat->Prop}{Oi:zbI}{η:Nat->Value}{S:Nat->List Nat}(hm:Mem ⟨P,N0,W,F,O0,[],[],fun _=>undef⟩ Oi W F η S)(hO0: ∀b,O0 b↔ ∃id,b∈S id){W':World}{g:Nat}{e:TypeId}{sz:Nat}{cs:List AV}(h3:Oi 3=some (.box cs))(hcs: ∃ds:List D,cs=ds.map AV.d)
  (hg:g∈S 0) (hf:Frm W W' g e sz):Mem ⟨P,N0,W,F,O0,[],[],fun _=>undef⟩ (om [(3,.box cs)]) W' (fun b=>F b\/b=g) η (fun i=>if i=3 then S 3 else []):=by
 have hgO:O0 g:=(hO0 g).2 ⟨0,hg⟩;obtain⟨hgF,hgW,_⟩:=hm.apart 0 g hg;have hom: ∀id o,om [(3,AO.box cs)] id=some o->id=3/\o= .box cs:=by
  intro id o ho;simp only[om]at ho;split at ho
  ·rename_i h; exact⟨h,(Option.some.inj ho).symm⟩
  ·cases ho
 have hF: ∀b,F b->(F b\/b=g)/\W'.heap[b]? =W.heap[b]? :=fun b hb=>⟨.inl hb,hf.same b (hm.flt b hb) (fun h=>hgF (h▸hb))⟩;have h3g: ∀b∈S 3,b≠g:=fun b hb h=>by
  have:=hm.sep 3 0 b hb (by rw[h]; exact hg);cases this
 refine⟨hf.os,hf.tape,hf.output,hf.size,fun b hb hnb=>hf.same b hb (fun h=>hnb (h▸hgO)),fun b h=>.inl h,?_,?_,?_,?_,?_,?_,?_,by simp,?_,by simp⟩
 ·rintro b (h | h)
  ·exact wap (hm.flt b h) hf.size
  ·subst h; exact wap hgW hf.size
 ·rintro b (h | h) _
  ·exact .inl h
  ·subst h; exact .inr hgO
 ·intro id o ho;obtain⟨rfl,rfl⟩:=hom id o ho;obtain⟨b,cur,e',q1,q2,q3,q4⟩:=hm.obj 3 _ h3;obtain⟨ds,rfl⟩:=hcs;refine⟨b,cur,e',q1,by simp only[if_true]; exact q2,?_,?_⟩
  ·rw[hf.same b (Array.getElem?_eq_some_iff.1 q3).1 (h3g b (by rw[q2]; simp))]; exact q3
  ·refine zaN.pres (new:=[]) (O:=om [(3,.box (ds.map AV.d))]) (η:=η) (za7.refl _ _) hF _ _ ?_ ?_
   ·have: ∀ds:List D,AV.noRefs [] (ds.map AV.d):=by
     intro ds
     induction ds with
     | nil=>trivial
     | cons d ds ih=>exact⟨trivial,ih⟩
    exact this ds
   ·have: ∀(ds:List D) (vs:List Value),zaN Oi W F η (ds.map AV.d) vs->zaN (om [(3,.box (ds.map AV.d))]) W F η (ds.map AV.d) vs:=by
     intro ds0 vs;have key: ∀(O:zbI) (ds:List D) (vs:List Value),zaN Oi W F η (ds.map AV.d) vs->zaN O W F η (ds.map AV.d) vs:=by
      intro O ds
      induction ds with
      | nil=>intro vs h; simpa [zaN]using h
      | cons d ds ih=>
       intro vs h;simp only[List.map_cons,zaN]at h ⊢;obtain⟨v,rest,rfl,a,b⟩:=h;exact⟨v,rest,rfl,by simpa only[zaL]using a,ih _ b⟩
     exact key _ ds0 vs
    exact this ds _ q4
 ·intro id ho;by_cases h:id=3
  ·subst h; simp[om]at ho
  ·simp[h]
 ·intro id b hb;by_cases h:id=3
  ·simp only[h,if_true]at hb;obtain⟨a1,a2,a3⟩:=hm.apart 3 b hb;exact⟨fun hc=>hc.elim a1 (h3g b hb),wap a2 hf.size,a3⟩
  ·simp[h]at hb
 ·intro id id' b hb hb';by_cases h:id=3
  ·by_cases h':id'=3
   ·rw[h,h']
   ·simp[h']at hb'
  ·simp[h]at hb
 ·intro id;by_cases h:id=3
  ·simp only[h,if_true]; exact hm.nd 3
  ·simp[h]
 ·intro id lim fam stop l rest ho;have:=(hom id _ ho).2;cases this
theorem sameItem_w{P:Program}(hP:prog=P)(k:Nat)(hk2:k=35)(ra rb:Array Value)(sa:ra.size=k)(sb:rb.size=k)(c:Int)(bx:Nat)(w:World)(hb:w.cell? ⟨bx,0,none⟩=some (.func (.func 53) #[] #[]))
  (hi: ∀W,Calls P 53 #[.agg ra,.agg rb] W fun e w'=>e= .returned (.int .i64 c)/\ ∃q os',w'=grow (W.drewN q) os'):
  Calls P 109 #[.agg ra,.agg rb,.pointer (some ⟨bx,0,none⟩)] w fun e w'=>e= .returned (.bool (c==0))/\ ∃q os',w'=grow (w.drewN q) os':=by
 have F:=func109;have zat:=zat;have t0:=underlying0; have a0:=isAgg0; have z0:=sizeOf0; have v0:=zeroValue0;have t3:=underlying3; have a3:=isAgg3; have z3:=sizeOf3; have v3:=zeroValue3;have t4:=underlying4; have a4:=isAgg4; have z4:=sizeOf4; have v4:=zeroValue4;have aF:=isAgg109; have zF:=sizeOf109;have aE:=isAgg64; have zE:=sizeOf64;rw[<-hk2]at zE;have eg:=call53;rw[hP]at F zat t0 a0 z0 v0 t3 a3 z3 v3 t4 a4 z4 v4 aE zE aF zF eg;clear hk2;have hb2:((w.alloc (.cells ra 64)).alloc (.cells rb 64)).cell? ⟨bx,0,none⟩=some (.func (.func 53) #[] #[]):=cell?_alloc_some _ (cell?_alloc_some _ hb);have la:Sem.run P (loadCellsFrom ⟨w.heap.size,0,none⟩ 0 k #[]) ((w.alloc (.cells ra 64)).alloc (.cells rb 64))= .ok ra ((w.alloc (.cells ra 64)).alloc (.cells rb 64)):=by
  have h:=run_loadCellsFrom_list P ((w.alloc (.cells ra 64)).alloc (.cells rb 64)) ⟨w.heap.size,0,none⟩ ra.toList k (by rw[Array.length_toList]; exact sa) (fun j v hj=>by
   rw[Addr.add_lit];refine cell?_alloc_some _ ?_;simp only[World.cell?,World.alloc_heap_new,Nat.zero_add];simpa using hj)
  simpa using h
 have lb:Sem.run P (loadCellsFrom ⟨w.heap.size+1,0,none⟩ 0 k #[]) ((w.alloc (.cells ra 64)).alloc (.cells rb 64))= .ok rb ((w.alloc (.cells ra 64)).alloc (.cells rb 64)):=by
  have hh:=World.alloc_heap_new (w.alloc (.cells ra 64)) (.cells rb 64);rw[World.size_alloc]at hh;have h:=run_loadCellsFrom_list P ((w.alloc (.cells ra 64)).alloc (.cells rb 64)) ⟨w.heap.size+1,0,none⟩ rb.toList k (by rw[Array.length_toList]; exact sb) (fun j v hj=>by
   rw[Addr.add_lit];simp only[World.cell?,hh,Nat.zero_add];simpa using hj)
  simpa using h
 clear hb sa sb
 go_enter F,ntmps109
 go_wp2_with (go_at_call 53; refine(hi _).mono ?_; rintro e w' ⟨rfl,q,os',rfl⟩)
 go_ret;refine⟨rfl,q,#[.cells ra 64,.cells rb 64]++os',?_⟩;have e1:grow (grow w #[.cells ra 64]) #[.cells rb 64]=grow w #[.cells ra 64,.cells rb 64]:=by rw[grow_grow]; rfl
 rw[alloc_eq_grow,alloc_eq_grow,e1];show grow (grow (w.drewN q) #[.cells ra 64,.cells rb 64]) os'=_;rw[grow_grow]
theorem sameModule_w{P:Program}(hP:prog=P)(k:Nat)(hk2:k=4)(ra rb:Array Value)(sa:ra.size=k)(sb:rb.size=k)(c:Int)(bx:Nat)(w:World)(hb:w.cell? ⟨bx,0,none⟩=some (.func (.func 57) #[] #[]))
  (hi: ∀W,Calls P 57 #[.agg ra,.agg rb] W fun e w'=>e= .returned (.int .i64 c)/\ ∃q os',w'=grow (W.drewN q) os'):
  Calls P 114 #[.agg ra,.agg rb,.pointer (some ⟨bx,0,none⟩)] w fun e w'=>e= .returned (.bool (c==0))/\ ∃q os',w'=grow (w.drewN q) os':=by
 have F:=func114;have zat:=zat;have t0:=underlying0; have a0:=isAgg0; have z0:=sizeOf0; have v0:=zeroValue0;have t3:=underlying3; have a3:=isAgg3; have z3:=sizeOf3; have v3:=zeroValue3;have t4:=underlying4; have a4:=isAgg4; have z4:=sizeOf4; have v4:=zeroValue4;have aF:=isAgg113; have zF:=sizeOf113;have aE:=isAgg53; have zE:=sizeOf53;rw[<-hk2]at zE;have eg:=call57;rw[hP]at F zat t0 a0 z0 v0 t3 a3 z3 v3 t4 a4 z4 v4 aE zE aF zF eg;clear hk2;have hb2:((w.alloc (.cells ra 53)).alloc (.cells rb 53)).cell? ⟨bx,0,none⟩=some (.func (.func 57) #[] #[]):=cell?_alloc_some _ (cell?_alloc_some _ hb);have la:Sem.run P (loadCellsFrom ⟨w.heap.size,0,none⟩ 0 k #[]) ((w.alloc (.cells ra 53)).alloc (.cells rb 53))= .ok ra ((w.alloc (.cells ra 53)).alloc (.cells rb 53)):=by
  have h:=run_loadCellsFrom_list P ((w.alloc (.cells ra 53)).alloc (.cells rb 53)) ⟨w.heap.size,0,none⟩ ra.toList k (by rw[Array.length_toList]; exact sa) (fun j v hj=>by
   rw[Addr.add_lit];refine cell?_alloc_some _ ?_;simp only[World.cell?,World.alloc_heap_new,Nat.zero_add];simpa using hj)
  simpa using h
 have lb:Sem.run P (loadCellsFrom ⟨w.heap.size+1,0,none⟩ 0 k #[]) ((w.alloc (.cells ra 53)).alloc (.cells rb 53))= .ok rb ((w.alloc (.cells ra 53)).alloc (.cells rb 53)):=by
  have hh:=World.alloc_heap_new (w.alloc (.cells ra 53)) (.cells rb 53);rw[World.size_alloc]at hh;have h:=run_loadCellsFrom_list P ((w.alloc (.cells ra 53)).alloc (.cells rb 53)) ⟨w.heap.size+1,0,none⟩ rb.toList k (by rw[Array.length_toList]; exact sb) (fun j v hj=>by
   rw[Addr.add_lit];simp only[World.cell?,hh,Nat.zero_add];simpa using hj)
  simpa using h
 clear hb sa sb
 go_enter F,ntmps114
 go_wp2_with (go_at_call 57; refine(hi _).mono ?_; rintro e w' ⟨rfl,q,os',rfl⟩)
 go_ret;refine⟨rfl,q,#[.cells ra 53,.cells rb 53]++os',?_⟩;have e1:grow (grow w #[.cells ra 53]) #[.cells rb 53]=grow w #[.cells ra 53,.cells rb 53]:=by rw[grow_grow]; rfl
 rw[alloc_eq_grow,alloc_eq_grow,e1];show grow (grow (w.drewN q) #[.cells ra 53,.cells rb 53]) os'=_;rw[grow_grow]
def zrD(f:Nat):AO:=.box [.d (.clo (.func f) [] [])]
theorem item_x{W:World}{F:Nat->Prop}(x y:Item)(ra rb:List Value)(h1:zav W F (zaK x) ra)(h2:zav W F (zaK y) rb)(w:World):Calls prog 53 #[.agg ra.toArray,.agg rb.toArray] w fun e w'=>e= .returned (.int .i64 (zyB (zbg x) (zbg y)))/\ ∃q os',w'=grow (w.drewN q) os':=by
 have l1:=zav.length _ _ h1;have l2:=zav.length _ _ h2;have e35: ∀x:Item,(zaK x).length =35:=fun x=>by simp[zaK,zgL,zb6,zib]
 rw[e35]at l1 l2;have g: ∀(x:Item) (r:List Value),zav W F (zaK x) r->r[0]? =some (.int .i64 x.kind.1)/\r[1]? =some (.string x.name.1):=fun x r h=>by
  unfold zaK at h;simp only[eI,eS,zav,Aw.Rd]at h;obtain⟨v,r1,rfl,rfl,v2,r2,rfl,rfl,_⟩:=h;exact⟨rfl,rfl⟩
 obtain⟨p1,p2⟩:=g x ra h1;obtain⟨q1,q2⟩:=g y rb h2;exact item_w ra.toArray rb.toArray (by simpa using l1) (by simpa using l2) x.kind.1 y.kind.1 x.name.1 y.name.1 (by simpa using p1) (by simpa using p2) (by simpa using q1) (by simpa using q2) w
theorem module_x{W:World}{F:Nat->Prop}(x y:Module)(ra rb:List Value)(h1:zav W F (zaC x) ra)(h2:zav W F (zaC y) rb)(w:World):Calls prog 57 #[.agg ra.toArray,.agg rb.toArray] w fun e w'=>e= .returned (.int .i64 (zy2 x.name y.name))/\ ∃q os',w'=grow (w.drewN q) os':=by
 have l1:=zav.length _ _ h1;have l2:=zav.length _ _ h2;have g: ∀(x:Module) (r:List Value),zav W F (zaC x) r->r[0]? =some (.string x.name.1):=fun x r h=>by
  unfold zaC at h;simp only[eS,zav,Aw.Rd]at h;obtain⟨v,r1,rfl,rfl,_⟩:=h;rfl
 exact name_w ra.toArray rb.toArray (by simpa [zaC]using l1) (by simpa [zaC]using l2) x.name.1 y.name.1 (by simpa using g x ra h1) (by simpa using g y rb h2) w
def compQItem(l:List Item)(V:AV)(ol:OL)(new:List Nat):Prop:=
 ∃m,V= .d (.sl (List.replicate m []))/\ol=[(3,zrD 53)]/\new=[]/\((m=l.length/\ ∀i (h:i+1<l.length),zbg l[i+1]≠zbg l[i])\/(m<l.length/\ ∃i,∃h:i+1<l.length,zbg l[i+1]=zbg l[i]))
theorem zo0(ad:Option Addr)(cap:Nat)(v:Value)(W:World):Calls prog 108 #[.slice ad 0 cap,v] W fun e w'=>e= .returned (.slice ad 0 cap)/\w'=W:=by
 go_enter func108,ntmps108
 go_wp2;go_ret;exact⟨rfl,rfl⟩
theorem zwI(l:List Item)(hl:l.length<4611686018427387904):FnL prog 108 [.ar 0 l.length,.clo (.func 109) [] [.bp 3 0]] [(0,.arr 64 35 .flat (l.map zaK)),(3,zrD 53)] (compQItem l):=by
 refine⟨fun W bs=>call108 bs W,?_⟩;intro W F O0 η S vs hm hO0 hr;simp only[zaN,zaL]at hr;obtain⟨v0,_,rfl,hv0,v1,_,rfl,⟨fs,cbs,rfl,rfl,vb,_,rfl,hvb,rfl⟩,rfl⟩:=hr;have e0:v0=η 0:=(hv0 64 35 .flat (l.map zaK) (by simp[om])).2 (by simp);obtain⟨bx,q1,q2⟩:=hvb [.d (.clo (.func 53) [] [])] (by simp[om,zrD]);obtain⟨b',curb,eb,r1,r2,r3,r4⟩:=hm.obj 3 (zrD 53) (by simp[om]);rw[q1]at r1;simp only[Value.pointer.injEq,Option.some.injEq,Addr.mk.injEq,and_true]at r1;subst r1;have hbx:W.cell? ⟨bx,0,none⟩=some (.func (.func 53) #[] #[]):=by
  simp only[zaN,zaL,Aw.Rd,zav]at r4;obtain⟨u,rest,e1,⟨a,b,rfl,rfl,rfl⟩,rfl⟩:=r4;simp only[World.cell?,r3];have:curb=#[.func (.func 53) #[] #[]]:=by apply Array.ext'; simpa using e1
  subst this;rfl
 have hbW:bx<W.heap.size:=(Array.getElem?_eq_some_iff.1 r3).1;obtain⟨_,hkk,hcase⟩:=hm.obj 0 (.arr 64 35 .flat (l.map zaK)) (by simp[om]);subst e0 q2;have fin: ∀(g:Nat) (hg:g∈S 0) (W':World) (sz:Nat) (m cap:Nat) (_:m<=cap) (_:cap<=maxLen),Frm W W' g 64 sz->((m=l.length/\ ∀i (h:i+1<l.length),zbg l[i+1]≠zbg l[i])\/(m<l.length/\ ∃i,∃h:i+1<l.length,zbg l[i+1]=zbg l[i]))->
   ∃v V Oo new F' η' S',Ending.returned (.slice (some ⟨g,0,none⟩) m cap)= .returned v/\(∃ol,Oo=om ol/\compQItem l V ol new)/\(∀i∈new,∀lim fam stop l rest,Oo i≠some (.ext lim fam stop l rest))/\
    Mem ⟨prog,N0,W,F,O0,[],[],fun _=>undef⟩ Oo W' F' η' S'/\zaL Oo W' F' η' V v/\za7 (om [(0,.arr 64 35 .flat (l.map zaK)),(3,zrD 53)]) Oo η η' new:=by
  intro g hg W' sz m cap hmc hcx hfr hd;refine⟨_,.d (.sl (List.replicate m [])),_,[],_,η,_,rfl,⟨_,rfl,m,rfl,rfl,rfl,hd⟩,by simp,mem_box (cs:=[.d (.clo (.func 53) [] [])]) hm hO0 (by simp[om,zrD]) ⟨[_],rfl⟩ hg hfr,?_,?_⟩
  ·simp only[zaL,Aw.Rd,List.length_replicate];exact⟨⟨_,cap,rfl,hmc,fun _=>⟨g,0,0,rfl,.inr rfl,zqI m g 0⟩⟩,wao hmc hcx⟩
  ·intro id o' ho;simp only[om]at ho;split at ho
   ·rename_i h3;subst h3;cases ho;exact .inr ⟨_,by simp only[om,zrD]; rfl,rfl⟩
   ·cases ho
 rcases hcase with⟨⟨ad,hv⟩,hes,hS⟩ | ⟨g,cap,cur,s1,hv,hg,hle,hcap,hcur,hs,hC⟩
 ·have hl0:l=[]:=List.map_eq_nil_iff.1 hes;subst hl0;rw[hv];refine(zo0 ad 0 _ W).mono ?_;rintro e W' ⟨rfl,rfl⟩;obtain⟨m1,_⟩:=hm.dropL (W':=W') (F':=fun b=>F b\/ ∃id∈[0],b∈S id) [0] (Below.refl _ _) (fun b hb=>.inl hb) (fun b hb=>by
    rcases hb with hb | hb
    ·exact .inl hb
    ·exact .inr (.inr hb))
  have hd:drop (om [(0,AO.arr 64 35 .flat ([].map zaK)),(3,zrD 53)]) [0]=om [(3,zrD 53)]:=by
   funext id;simp only[drop,om,List.mem_singleton];by_cases h0:id=0
   ·subst h0; simp
   ·simp[h0]
  rw[hd]at m1;refine⟨_,.d (.sl (List.replicate 0 [])),_,[],_,η,_,rfl,⟨_,rfl,0,rfl,rfl,rfl,.inl ⟨rfl,fun i h=>by simp at h⟩⟩,by simp,m1,?_,?_⟩
  ·simp only[zaL,Aw.Rd,List.length_replicate];exact⟨⟨ad,0,rfl,waq _,fun h=>absurd rfl h⟩,Nat.zero_le _⟩
  ·intro id o' ho;simp only[om]at ho;split at ho
   ·rename_i h3;subst h3;cases ho;exact .inr ⟨_,by simp only[om,zrD]; rfl,rfl⟩
   ·cases ho
 ·obtain⟨hC2,rfl⟩:=(zuK _ _ _).1 hC;obtain⟨rows,er,hcells,hrow⟩:=zlB zaK l _ hC2;rw[waa]at hv hcells hle;rw[hv];have hgS:g∈S 0:=by rw[hs]; simp
  have hbg:bx≠g:=fun h=>by
   have:=hm.sep 3 0 bx (by rw[r2]; simp) (by rw[h]; exact hgS);cases this
  by_cases hl0:l=[]
  ·subst hl0;refine(zo0 (some ⟨g,0,none⟩) cap _ W).mono ?_;rintro e W' ⟨rfl,rfl⟩;exact fin g hgS W' (cap*35) 0 cap (Nat.zero_le _) hcap ⟨rfl,rfl,rfl,waq _,fun _ _ _=>rfl,cur,hg,hcur⟩ (.inl ⟨rfl,fun i h=>by simp at h⟩)
  have hn:0<l.length:=List.length_pos_iff.2 hl0;have:Inhabited (Fin l.length):=⟨⟨0,hn⟩⟩;obtain⟨enc,henc⟩: ∃enc:Fin l.length->List Value,∀i,enc i=rows[i.1]'(by omega):=⟨fun i=>rows[i.1]'(by omega),fun _=>rfl⟩;have hrd: ∀i:Fin l.length,zav W F (zaK l[i.1]) (enc i):=fun i=>by rw[henc]; exact hrow i.1 i.2 (by omega)
  have hlen: ∀x:Item,(zaK x).length =35:=fun x=>by simp[zaK,zgL,zb6,zib]
  have hek: ∀i,(enc i).length =35:=fun i=>by rw[zav.length _ _ (hrd i),hlen]
  have he1: ∀i,∀v∈enc i,v.oneCell'=true:=fun i=>zg6 _ _ (hrd i) (zyv _);obtain⟨d,hd⟩: ∃d:Array (Fin l.length),d=(List.finRange l.length).toArray :=⟨_,rfl⟩;have hdl:d.toList=List.finRange l.length:=by rw[hd]
  have hdz:d.size=l.length:=by rw[hd]; simp
  have hda: ∀j (h:j<l.length),d[j]! =⟨j,h⟩:=fun j h=>by
   rw[getElem!_pos d j (by omega)];simp[hd]
  have hfm:d.toList.flatMap enc=rows.flatten:=by
   rw[hdl,List.flatMap];congr 1;apply List.ext_getElem (by simp[er]);intro i h1 h2;simp[henc]
  have hsz:(flatK enc 35 d).size =l.length*35:=by simp[hdz]
  have hcur':l.length*35<=cur.size:=by rw[hcur]; exact Nat.mul_le_mul_right _ hle
  have hH:HoldsK enc 35 W g 0 d:=by
   intro j hj;rw[hsz]at hj;have hjc:j<cur.size:=by omega
   have e2:cur[j]? =(flatK enc 35 d)[j]? :=by
    have h1:=congrArg (fun x=>x[j]?) hcells;rw[<-hfm,<-zjv enc 35 (by omega) hek]at h1;simp only[List.getElem?_take,hj,if_true,Array.getElem?_toList]at h1;exact h1
   refine⟨?_,by simp[World.frozen?,hg]⟩;simp only[World.cell?,hg,Nat.zero_add];have:(flatK enc 35 d)[j]! =(flatK enc 35 d)[j]'(by rw[hsz]; exact hj):=getElem!_pos _ j (by rw[hsz]; exact hj);simp only[id,this];rw[show(({block:=g,off:=j,spot:=none}:Addr).spot.isSome)=false from rfl];simp only[Bool.false_eq_true,if_false,e2];rw[Array.getElem?_eq_getElem]
  have hcw:=zwJ (P:=prog) rfl enc 35 rfl hek he1 (fun a b=>zyB (zbg l[a.1]) (zbg l[b.1])==0) 109 #[.pointer (some ⟨bx,0,none⟩)] g 0 cap (cap*35) d W (fun bs w=>call109 bs w)
   (fun wr hfr x y=>by
    have hb2:wr.cell? ⟨bx,0,none⟩=some (.func (.func 53) #[] #[]):=by
     rw[<-hbx];simp only[World.cell?,hfr.same bx hbW hbg]
    refine sameItem_w (P:=prog) rfl 35 rfl (enc x).toArray (enc y).toArray (by simpa using hek x) (by simpa using hek y) _ bx wr hb2 (fun w=> ?_);exact item_x l[x.1] l[y.1] (enc x) (enc y) (hrd x) (hrd y) w) hH ⟨cur,hg,hcur⟩ (by omega) hcap (by omega)
  rw[hdz]at hcw;refine hcw.mono ?_;rintro e' W' ⟨m,rfl,hfr,hd2⟩;rw[hdz]at hd2;have hkey: ∀j (h:j+1<l.length),((fun a b:Fin l.length=>zyB (zbg l[a.1]) (zbg l[b.1])==0) d[j+1]! d[j]! =true)↔zbg l[j+1]=zbg l[j]:=fun j h=>by
   rw[hda (j+1) h,hda j (by omega)];simp only[beq_iff_eq];exact zyI _ _
  refine fin g hgS W' _ m cap ?_ hcap hfr ?_
  ·rcases hd2 with⟨h,_⟩ | ⟨h,_⟩ <;> omega
  ·rcases hd2 with⟨h,h'⟩ | ⟨h,j,hj,h'⟩
   ·refine .inl ⟨h,fun j hj hc=> ?_⟩;have:=h' j hj;rw[(hkey j hj).2 hc]at this;cases this
   ·exact .inr ⟨h,j,hj,(hkey j hj).1 h'⟩
def zsl(l:List Module)(V:AV)(ol:OL)(new:List Nat):Prop:=
 ∃m,V= .d (.sl (List.replicate m []))/\ol=[(3,zrD 57)]/\new=[]/\((m=l.length/\ ∀i (h:i+1<l.length),Module.name l[i+1]≠Module.name l[i])\/(m<l.length/\ ∃i,∃h:i+1<l.length,Module.name l[i+1]=Module.name l[i]))
theorem zmh(ad:Option Addr)(cap:Nat)(v:Value)(W:World):Calls prog 113 #[.slice ad 0 cap,v] W fun e w'=>e= .returned (.slice ad 0 cap)/\w'=W:=by
 go_enter func113,ntmps113
 go_wp2;go_ret;exact⟨rfl,rfl⟩
theorem zsm(l:List Module)(hl:l.length<4611686018427387904):FnL prog 113 [.ar 0 l.length,.clo (.func 114) [] [.bp 3 0]] [(0,.arr 53 4 .flat (l.map zaC)),(3,zrD 57)] (zsl l):=by
 refine⟨fun W bs=>call113 bs W,?_⟩;intro W F O0 η S vs hm hO0 hr;simp only[zaN,zaL]at hr;obtain⟨v0,_,rfl,hv0,v1,_,rfl,⟨fs,cbs,rfl,rfl,vb,_,rfl,hvb,rfl⟩,rfl⟩:=hr;have e0:v0=η 0:=(hv0 53 4 .flat (l.map zaC) (by simp[om])).2 (by simp);obtain⟨bx,q1,q2⟩:=hvb [.d (.clo (.func 57) [] [])] (by simp[om,zrD]);obtain⟨b',curb,eb,r1,r2,r3,r4⟩:=hm.obj 3 (zrD 57) (by simp[om]);rw[q1]at r1;simp only[Value.pointer.injEq,Option.some.injEq,Addr.mk.injEq,and_true]at r1;subst r1;have hbx:W.cell? ⟨bx,0,none⟩=some (.func (.func 57) #[] #[]):=by
  simp only[zaN,zaL,Aw.Rd,zav]at r4;obtain⟨u,rest,e1,⟨a,b,rfl,rfl,rfl⟩,rfl⟩:=r4;simp only[World.cell?,r3];have:curb=#[.func (.func 57) #[] #[]]:=by apply Array.ext'; simpa using e1
  subst this;rfl
 have hbW:bx<W.heap.size:=(Array.getElem?_eq_some_iff.1 r3).1;obtain⟨_,hkk,hcase⟩:=hm.obj 0 (.arr 53 4 .flat (l.map zaC)) (by simp[om]);subst e0 q2;have fin: ∀(g:Nat) (hg:g∈S 0) (W':World) (sz:Nat) (m cap:Nat) (_:m<=cap) (_:cap<=maxLen),Frm W W' g 53 sz->((m=l.length/\ ∀i (h:i+1<l.length),Module.name l[i+1]≠Module.name l[i])\/(m<l.length/\ ∃i,∃h:i+1<l.length,Module.name l[i+1]=Module.name l[i]))->
   ∃v V Oo new F' η' S',Ending.returned (.slice (some ⟨g,0,none⟩) m cap)= .returned v/\(∃ol,Oo=om ol/\zsl l V ol new)/\(∀i∈new,∀lim fam stop l rest,Oo i≠some (.ext lim fam stop l rest))/\
    Mem ⟨prog,N0,W,F,O0,[],[],fun _=>undef⟩ Oo W' F' η' S'/\zaL Oo W' F' η' V v/\za7 (om [(0,.arr 53 4 .flat (l.map zaC)),(3,zrD 57)]) Oo η η' new:=by
  intro g hg W' sz m cap hmc hcx hfr hd;refine⟨_,.d (.sl (List.replicate m [])),_,[],_,η,_,rfl,⟨_,rfl,m,rfl,rfl,rfl,hd⟩,by simp,mem_box (cs:=[.d (.clo (.func 57) [] [])]) hm hO0 (by simp[om,zrD]) ⟨[_],rfl⟩ hg hfr,?_,?_⟩
  ·simp only[zaL,Aw.Rd,List.length_replicate];exact⟨⟨_,cap,rfl,hmc,fun _=>⟨g,0,0,rfl,.inr rfl,zqI m g 0⟩⟩,wao hmc hcx⟩
  ·intro id o' ho;simp only[om]at ho;split at ho
   ·rename_i h3;subst h3;cases ho;exact .inr ⟨_,by simp only[om,zrD]; rfl,rfl⟩
   ·cases ho
 rcases hcase with⟨⟨ad,hv⟩,hes,hS⟩ | ⟨g,cap,cur,s1,hv,hg,hle,hcap,hcur,hs,hC⟩
 ·have hl0:l=[]:=List.map_eq_nil_iff.1 hes;subst hl0;rw[hv];refine(zmh ad 0 _ W).mono ?_;rintro e W' ⟨rfl,rfl⟩;obtain⟨m1,_⟩:=hm.dropL (W':=W') (F':=fun b=>F b\/ ∃id∈[0],b∈S id) [0] (Below.refl _ _) (fun b hb=>.inl hb) (fun b hb=>by
    rcases hb with hb | hb
    ·exact .inl hb
    ·exact .inr (.inr hb))
  have hd:drop (om [(0,AO.arr 53 4 .flat ([].map zaC)),(3,zrD 57)]) [0]=om [(3,zrD 57)]:=by
   funext id;simp only[drop,om,List.mem_singleton];by_cases h0:id=0
   ·subst h0; simp
   ·simp[h0]
  rw[hd]at m1;refine⟨_,.d (.sl (List.replicate 0 [])),_,[],_,η,_,rfl,⟨_,rfl,0,rfl,rfl,rfl,.inl ⟨rfl,fun i h=>by simp at h⟩⟩,by simp,m1,?_,?_⟩
  ·simp only[zaL,Aw.Rd,List.length_replicate];exact⟨⟨ad,0,rfl,waq _,fun h=>absurd rfl h⟩,Nat.zero_le _⟩
  ·intro id o' ho;simp only[om]at ho;split at ho
   ·rename_i h3;subst h3;cases ho;exact .inr ⟨_,by simp only[om,zrD]; rfl,rfl⟩
   ·cases ho
 ·obtain⟨hC2,rfl⟩:=(zuK _ _ _).1 hC;obtain⟨rows,er,hcells,hrow⟩:=zlB zaC l _ hC2;rw[waa]at hv hcells hle;rw[hv];have hgS:g∈S 0:=by rw[hs]; simp
  have hbg:bx≠g:=fun h=>by
   have:=hm.sep 3 0 bx (by rw[r2]; simp) (by rw[h]; exact hgS);cases this
  by_cases hl0:l=[]
  ·subst hl0;refine(zmh (some ⟨g,0,none⟩) cap _ W).mono ?_;rintro e W' ⟨rfl,rfl⟩;exact fin g hgS W' (cap*4) 0 cap (Nat.zero_le _) hcap ⟨rfl,rfl,rfl,waq _,fun _ _ _=>rfl,cur,hg,hcur⟩ (.inl ⟨rfl,fun i h=>by simp at h⟩)
  have hn:0<l.length:=List.length_pos_iff.2 hl0;have:Inhabited (Fin l.length):=⟨⟨0,hn⟩⟩;obtain⟨enc,henc⟩: ∃enc:Fin l.length->List Value,∀i,enc i=rows[i.1]'(by omega):=⟨fun i=>rows[i.1]'(by omega),fun _=>rfl⟩;have hrd: ∀i:Fin l.length,zav W F (zaC l[i.1]) (enc i):=fun i=>by rw[henc]; exact hrow i.1 i.2 (by omega)
  have hlen: ∀x:Module,(zaC x).length =4:=fun x=>rfl;have hek: ∀i,(enc i).length =4:=fun i=>by rw[zav.length _ _ (hrd i),hlen]
  have he1: ∀i,∀v∈enc i,v.oneCell'=true:=fun i=>zg6 _ _ (hrd i) (zyq _);obtain⟨d,hd⟩: ∃d:Array (Fin l.length),d=(List.finRange l.length).toArray :=⟨_,rfl⟩;have hdl:d.toList=List.finRange l.length:=by rw[hd]
  have hdz:d.size=l.length:=by rw[hd]; simp
  have hda: ∀j (h:j<l.length),d[j]! =⟨j,h⟩:=fun j h=>by
   rw[getElem!_pos d j (by omega)];simp[hd]
  have hfm:d.toList.flatMap enc=rows.flatten:=by
   rw[hdl,List.flatMap];congr 1;apply List.ext_getElem (by simp[er]);intro i h1 h2;simp[henc]
  have hsz:(flatK enc 4 d).size =l.length*4:=by simp[hdz]
  have hcur':l.length*4<=cur.size:=by rw[hcur]; exact Nat.mul_le_mul_right _ hle
  have hH:HoldsK enc 4 W g 0 d:=by
   intro j hj;rw[hsz]at hj;have hjc:j<cur.size:=by omega
   have e2:cur[j]? =(flatK enc 4 d)[j]? :=by
    have h1:=congrArg (fun x=>x[j]?) hcells;rw[<-hfm,<-zjv enc 4 (by omega) hek]at h1;simp only[List.getElem?_take,hj,if_true,Array.getElem?_toList]at h1;exact h1
   refine⟨?_,by simp[World.frozen?,hg]⟩;simp only[World.cell?,hg,Nat.zero_add];have:(flatK enc 4 d)[j]! =(flatK enc 4 d)[j]'(by rw[hsz]; exact hj):=getElem!_pos _ j (by rw[hsz]; exact hj);simp only[id,this];rw[show(({block:=g,off:=j,spot:=none}:Addr).spot.isSome)=false from rfl];simp only[Bool.false_eq_true,if_false,e2];rw[Array.getElem?_eq_getElem]
  have hcw:=zsn (P:=prog) rfl enc 4 rfl hek he1 (fun a b=>zy2 l[a.1].name l[b.1].name ==0) 114 #[.pointer (some ⟨bx,0,none⟩)] g 0 cap (cap*4) d W (fun bs w=>call114 bs w)
   (fun wr hfr x y=>by
    have hb2:wr.cell? ⟨bx,0,none⟩=some (.func (.func 57) #[] #[]):=by
     rw[<-hbx];simp only[World.cell?,hfr.same bx hbW hbg]
    refine sameModule_w (P:=prog) rfl 4 rfl (enc x).toArray (enc y).toArray (by simpa using hek x) (by simpa using hek y) _ bx wr hb2 (fun w=> ?_);exact module_x l[x.1] l[y.1] (enc x) (enc y) (hrd x) (hrd y) w) hH ⟨cur,hg,hcur⟩ (by omega) hcap (by omega)
  rw[hdz]at hcw;refine hcw.mono ?_;rintro e' W' ⟨m,rfl,hfr,hd2⟩;rw[hdz]at hd2;have hkey: ∀j (h:j+1<l.length),((fun a b:Fin l.length=>zy2 l[a.1].name l[b.1].name ==0) d[j+1]! d[j]! =true)↔Module.name l[j+1]=Module.name l[j]:=fun j h=>by
   rw[hda (j+1) h,hda j (by omega)];simp only[beq_iff_eq];exact zoY _ _
  refine fin g hgS W' _ m cap ?_ hcap hfr ?_
  ·rcases hd2 with⟨h,_⟩ | ⟨h,_⟩ <;> omega
  ·rcases hd2 with⟨h,h'⟩ | ⟨h,j,hj,h'⟩
   ·refine .inl ⟨h,fun j hj hc=> ?_⟩;have:=h' j hj;rw[(hkey j hj).2 hc]at this;cases this
   ·exact .inr ⟨h,j,hj,(hkey j hj).1 h'⟩
end
theorem adj_nodup{α κ:Type}{lt:κ->κ->Bool}{key:α->κ}(o:TOrd lt){l l':List α}(hp:l.Perm l')(hs:l'.Pairwise fun x y=>lt (key y) (key x)=false):(∀i (h:i+1<l'.length),key l'[i+1]≠key l'[i])↔(l.map key).Nodup :=by
 rw[(hp.map key).nodup_iff];constructor
 ·intro h;rw[List.nodup_iff_pairwise_ne,List.pairwise_iff_getElem];intro i j hi hj hij e;rw[waa]at hi hj;simp only[List.getElem_map]at e;have hp':=List.pairwise_iff_getElem.1 hs;by_cases hj1:j=i+1
  ·subst hj1; exact h i hj e.symm
  ·have h1:=hp' i (i+1) hi (by omega) (by omega);have h2:=hp' (i+1) j (by omega) hj (by omega);rw[<-e]at h2;exact h i (by omega) (o.conn _ _ h1 h2)
 ·intro h i hi e;rw[List.nodup_iff_pairwise_ne,List.pairwise_iff_getElem]at h;have:=h i (i+1) (by rw[waa]; omega) (by rw[waa]; omega) (by omega);simp only[List.getElem_map]at this;exact this e.symm
theorem uniqueItem_g(l:List Item)(hl:l.length<=4000000):FnP prog 52 [.sl (l.map zaK),.clo (.func 53) [] []] (.d (eB (decide (l.map zbg).Nodup))) []:=by
 refine FnP.of_eC (own:=[]) (fun i=>if i=2001 then [.flt ⟨[(0,none),(1,none),(2,none),(3,some []),(4,none)]⟩ ⟨[],[]⟩]else []) zat func52 rfl call52 ntmps52 (zle rfl) results52 (fun hok=> ?_);have vc:=zrk l;simp only[ZE,seval,zN];refine⟨by kernel_rfl,zaz.i vc ?_⟩;simp only[ZE,seval,zN];refine EFn.gV [(90,90)] (sortedItem_c l hl) ?_ ?_
 ·simp only[ZE,seval]
 rintro V ol new ⟨rfl,⟨l',hp,hs,rfl⟩,rfl⟩;have hn:=adj_nodup zuJ hp (hs.imp fun{a b} h=>not_cmpP h);have hll:l'.length=l.length:=hp.length_eq.symm;have cc:=zwI l' (by omega);rw[hll]at cc;simp only[zrD]at cc;simp only[ZE,seval,zN];refine EFn.gV [(0,90),(3,3)] cc ?_ ?_
 ·simp only[ZE,seval]
 rintro V ol new ⟨m,rfl,rfl,rfl,hd⟩;have hd2:((m:Int)==(l.length:Int))=decide (l.map zbg).Nodup :=by
  rw[war,beq_iff_eq,decide_eq_true_eq,<-hn];rcases hd with⟨h,h'⟩ | ⟨h,i,hi,h'⟩
  ·exact⟨fun _=>h',fun _=>by omega⟩
  ·exact⟨fun e=>by omega,fun h2=>absurd h' (h2 i hi)⟩
 simp only[zrD];simp only[ZE,seval,zN,List.length_replicate,waa,hd2]
theorem zvd(l:List Module)(hl:l.length<=4000000):FnP prog 56 [.sl (l.map zaC),.clo (.func 57) [] []] (.d (eB (decide (l.map Module.name).Nodup))) []:=by
 refine FnP.of_eC (own:=[]) (fun i=>if i=2001 then [.flt ⟨[(0,none),(1,none),(2,none),(3,some []),(4,none)]⟩ ⟨[],[]⟩]else []) zat func56 rfl call56 ntmps56 (zle rfl) results56 (fun hok=> ?_);have vc:=znZ l;simp only[ZE,seval,zN];refine⟨by kernel_rfl,zaz.i vc ?_⟩;simp only[ZE,seval,zN];refine EFn.gV [(90,90)] (znX l hl) ?_ ?_
 ·simp only[ZE,seval]
 rintro V ol new ⟨rfl,⟨l',hp,hs,rfl⟩,rfl⟩;have hn:=adj_nodup zrt hp (hs.imp fun{a b} h=>zy6 h);have hll:l'.length=l.length:=hp.length_eq.symm;have cc:=zsm l' (by omega);rw[hll]at cc;simp only[zrD]at cc;simp only[ZE,seval,zN];refine EFn.gV [(0,90),(3,3)] cc ?_ ?_
 ·simp only[ZE,seval]
 rintro V ol new ⟨m,rfl,rfl,rfl,hd⟩;have hd2:((m:Int)==(l.length:Int))=decide (l.map Module.name).Nodup :=by
  rw[war,beq_iff_eq,decide_eq_true_eq,<-hn];rcases hd with⟨h,h'⟩ | ⟨h,i,hi,h'⟩
  ·exact⟨fun _=>h',fun _=>by omega⟩
  ·exact⟨fun e=>by omega,fun h2=>absurd h' (h2 i hi)⟩
 simp only[zrD];simp only[ZE,seval,zN,List.length_replicate,waa,hd2]
theorem zii(f:List Module)(hl:f.length<=4000000)(hi: ∀m∈f,m.items.length<=4000000):FnP prog 17 [.agg [zax f]] (.d (eB (ze8 f))) []:=by
 refine FnP.of_eC (own:=[]) (fun _=>[]) zat func17 rfl call17 ntmps17 (zle rfl) results17 (fun hok=> ?_);have uc:=zvd f hl;simp only[ZE,seval,zN];refine za1 (fun _=>[]) zat f.length (fun i=> ∀j (_:j<i) (h:j<f.length),(f[j].items.map zbg).Nodup /\ ∀x∈f[j].items,x.kind.1≠0) (fun i=>([(1,.bp 1 0),(6,.d (zax f)),(7,.d (eI f.length)),(8,.d (eI i))],[(1,.box [.d (zax f)])])) (by omega) (by simp only[ZE,seval,zN,waa]) (by simp only[ZE,seval]) (fun i hii hI=> ?_);rcases wan i f.length with h | h
 ·have hw:=zaq (show i<9223372036854775807 by omega);obtain⟨m,hm⟩:=zX (f[i]);have hmm:m∈f:=by rw[<-hm]; exact waf h
  have ui:=uniqueItem_g m.items (hi m hmm);have ci:=zzw m.items;by_cases hnd:(m.items.map zbg).Nodup
  ·rw[decide_eq_true hnd]at ui;cases ha:m.items.any zzz with
   | false=>
    rw[ha]at ci;simp only[ZE,seval]at ui ci;simp only[ZE,seval,zaw h,zaa h,zai h,hm,zN,waa];refine EFn.p ?_;simp only[ZE,seval,zN];refine zar.i ui ?_;simp only[ZE,seval,zN];refine EFn.p ?_;simp only[ZE,seval,zN];refine zar.i ci ?_;simp only[ZE,seval,zN,hw];refine⟨h,fun j hj hj'=> ?_⟩;rcases Nat.lt_succ_iff_lt_or_eq.1 hj with hj | rfl
    ·exact hI j hj hj'
    ·rw[hm];refine⟨hnd,fun x hx h0=> ?_⟩;have:=List.any_eq_false.1 ha x hx;exact this (by simp[zzz,h0])
   | true=>
    have hf:ze8 f=false:=by
     cases hq:ze8 f with
     | false=>rfl
     | true=>
      obtain⟨x,hx,hk⟩:=List.any_eq_true.1 ha;exact absurd (by simpa [zzz]using hk) (((zbU f).1 hq).kinds m hmm x hx)
    rw[hf];rw[ha]at ci;simp only[ZE,seval]at ui ci;simp only[ZE,seval,zaw h,zaa h,zai h,hm,zN,waa];refine EFn.p ?_;simp only[ZE,seval,zN];refine zar.i ui ?_;simp only[ZE,seval,zN];refine EFn.p ?_;simp only[ZE,seval,zN];refine zar.i ci ?_;simp only[ZE,seval,zN,hw]
  ·have hf:ze8 f=false:=by
    cases hq:ze8 f with
    | false=>rfl
    | true=>exact absurd (((zbU f).1 hq).parts m hmm) hnd
   rw[hf];rw[decide_eq_false hnd]at ui;simp only[ZE,seval]at ui;simp only[ZE,seval,zaw h,zaa h,zai h,hm,zN,waa];refine EFn.p ?_;simp only[ZE,seval,zN];refine zar.i ui ?_;simp only[ZE,seval,zN]
 ·have hf:ze8 f=decide (f.map Module.name).Nodup :=by
   rw[war,decide_eq_true_eq,zbU];refine⟨fun hq=>hq.names,fun hq=>⟨hq,fun m hm=> ?_,fun m hm=> ?_⟩⟩
   ·obtain⟨j,hj,rfl⟩:=List.getElem_of_mem hm;exact(hI j (by omega) hj).1
   ·obtain⟨j,hj,rfl⟩:=List.getElem_of_mem hm;exact(hI j (by omega) hj).2
  rw[hf];simp only[ZE,seval,zaI h,zN,waa];refine EFn.p ?_;simp only[ZE,seval,zN];refine zar.i uc ?_;simp only[ZE,seval,zN]
theorem zot{α κ β:Type}{lt:κ->κ->Bool}{key:α->κ}{g c:α->List β}{b:α->α->List β}{w:α->Nat}(hg: ∀x,(g x).length <=w x)(hc: ∀x,(c x).length <=w x)(hb: ∀x y,(b x y).length <=w x+w y): ∀(n:Nat) (xs ys:List α),(zyn lt key g c b n xs ys).length <=(xs.map w).sum +(ys.map w).sum
 | 0,_,_=>by simp[zyn]
 | n+1,[],[]=>by simp[zyn]
 | n+1,x::xs,[]=>by
  have h1:=hg x;have h2:=zot hg hc hb (lt:=lt) (key:=key) n xs [];grind [zyn]
 | n+1,[],y::ys=>by
  have h1:=hc y;have h2:=zot hg hc hb (lt:=lt) (key:=key) n [] ys;grind [zyn]
 | n+1,x::xs,y::ys=>by
  have h1:=hg x;have h2:=hc y;have h3:=hb x y;have h4:=zot hg hc hb (lt:=lt) (key:=key) n xs (y::ys);have h5:=zot hg hc hb (lt:=lt) (key:=key) n (x::xs) ys;have h6:=zot hg hc hb (lt:=lt) (key:=key) n xs ys;grind [zyn]
theorem ones_sum{α:Type}(l:List α):(l.map fun _=>1).sum =l.length:=by
 induction l with
 | nil=>rfl
 | cons x l ih=>grind
theorem zs9(n:Str)(a b:List Item):(zs8 n a b).length <=a.length+b.length:=by
 have h:=zot (lt:=ltP) (key:=zbg) (g:=fun x=>[zyw n x]) (c:=fun y=>[zco n y]) (b:=fun x y=>if zlG x y=true then []else [zco n y]) (w:=fun _=>1) (fun _=>waq _) (fun _=>waq _) (fun x y=>by grind) (a.length+b.length) a b;rw[ones_sum,ones_sum]at h;exact h
def wM(m:Module):Nat:=m.items.length+1
theorem zz6(a b:List Module):(zyJ a b).length <=(a.map wM).sum +(b.map wM).sum :=
 zot (fun m=>by
  grind [zs9,wM]) (fun m=>by
  grind [zs9,wM]) (fun x y=>by
  grind [zs9,headD,wM]) _ a b
theorem zwe{α:Type}{w:α->Nat}{k:Nat}: ∀ {l:List α},(∀m∈l,w m<=k)->(l.map w).sum <=l.length*k
 | [],_=>by simp
 | x::l,h=>by
  have h1:=h x List.mem_cons_self;have h2:=zwe (w:=w) (k:=k) (l:=l) (fun m hm=>h m (List.mem_cons_of_mem _ hm));grind [Nat.add_mul]
structure Sm (f:List Module):Prop where
 part:Parted f
 len:f.length<=2
 items: ∀m∈f,m.items.length<=100
theorem Sm.nok{f:List Module}(h:Sm f):NOk f:=⟨h.part.names,h.part.parts,by have:=h.len; omega,fun m hm=>by have:=h.items m hm; omega⟩
theorem Sm.good{f:List Module}(h:Sm f):Good (zcC f):=ziv h.part
theorem ziX{f:List Module}{k:Nat}(h: ∀m∈f,m.items.length<=k): ∀m∈zcC f,m.items.length<=k:=fun m hm=>by
 unfold zcC at hm;obtain⟨q,hq,rfl⟩:=List.mem_map.1 hm;have:=h q ((zcn f).mem_iff.1 hq);show(zl7 ltP zbg q.items).length <=k;rw[(zcn q.items).length_eq]; exact this
theorem Sm.sum{f:List Module}(h:Sm f):((zcC f).map wM).sum <=202:=by
 have h1:=zwe (w:=wM) (k:=101) (l:=zcC f) (fun m hm=>by have:=ziX h.items m hm; unfold wM; omega);have h2:=zyb f;have h3:=h.len;omega
theorem Sm.diff{f g:List Module}(h:Sm f)(h':Sm g):(zrp f g).length <=404:=by
 have:=zz6 (zcC f) (zcC g);have:=h.sum;have:=h'.sum;unfold zrp;omega
theorem StB.nok{n:Nat}{g:List Module}(h:StB n g)(hn:n<=4000000):NOk g:=⟨Srt.nodup zrt h.good.srt,fun m hm=>Srt.nodup zuJ (h.good.parts m hm),by have:=h.len; omega,fun m hm=>by have:=h.items m hm; omega⟩
def appD(r:Option (List Module)):D:=
 match r with
 | some s=>.agg [zax s,eI 0]
 | none=>.agg [.sl [],eI 160]
theorem Sm.apply{a:List Module}(h:Sm a)(es:List Edit)(he:es.length<=1000):FnP prog 46 [.agg [zax a],.sl (es.map zfN)] (zyp (zoS a es)) []:=
 zz5 a h.nok h.good es 100 ⟨by have:=h.len; omega,h.items⟩ (by omega)
def invR(r:Option (List Edit)):AV:=
 match r with
 | some l=>.tup [.d (.sl (l.map zfN)),.d (eI 0)]
 | none=>.tup [.d (.sl []),.d (eI 160)]
def invD(r:Option (List Edit)):D:=
 match r with
 | some l=>.agg [.sl (l.map zfN),eI 0]
 | none=>.agg [.sl [],eI 160]
end Go.Proofs.YtbenhdgpogiadaaGreat
