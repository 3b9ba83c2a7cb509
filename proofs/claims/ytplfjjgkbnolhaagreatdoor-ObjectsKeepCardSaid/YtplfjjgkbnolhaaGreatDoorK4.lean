/- Contracts and laws. Conditions: those of each. -/
import Derived.Test.YtplfjjgkbnolhaaGreatDoorK3
set_option linter.unusedSimpArgs false
set_option linter.unusedVariables false
open List renaming length_map → waa, take_succ_eq_append_getElem → wab, getElem_mem → wac, foldl_append → wad, foldl_nil → wae, take_zero → waf, mem_of_mem_take → wag
open Int renaming toNat_natCast → wah
open Nat renaming lt_or_ge → wai
namespace Go.Proofs.YtplfjjgkbnolhaaGreatDoor
open Go.Aw
open Tryz
set_option maxRecDepth 100000
set_option maxHeartbeats 4000000
def eBb(k:Nat×Nat×Nat):List D:=[eU8 k.1,eU8 k.2.1,eU8 k.2.2]
def eRaw(L:List (List Nat))(B:List (Nat×Nat×Nat)):D:=.agg [.sl (L.map fun l=>[eBy l]),.sl (B.map eBb)]
theorem brk_len(s:List Obj)(k:Nat×Nat×Nat):(brkO s k).length =s.length:=by unfold brkO; split <;> simp
theorem brks_len: ∀(B:List (Nat×Nat×Nat)) (s:List Obj),(B.foldl brkO s).length =s.length
 | [],_=>rfl
 | k::B,s=>(brks_len B _).trans (brk_len s k)
theorem brks_nil(B:List (Nat×Nat×Nat)):B.foldl brkO []=[]:=List.eq_nil_of_length_eq_zero (brks_len B [])
theorem store_c(L:List (List Nat))(B:List (Nat×Nat×Nat))(hL: ∀l∈L,∀b∈l,b<256)(hB: ∀k∈B,k.1<256∧k.2.1<256∧k.2.2<256)(hl:L.length≤9223372036854775807)(hb:B.length≤9223372036854775807):FnP prog 29 [eRaw L B] (.d (eSt (stG L B))) []:=by
 refine FnP.of_eC (own:=[]) (fun i=>if i=2003∨i=2008 then [.chn]else if i=2 then [.frz 7]else if i=2005 then [.flt ⟨[(0,none),(1,none),(2,none),(3,none),(4,none),(5,none),(6,none),(7,none),(8,none),(9,none),(10,none),(11,none),(12,some [0,1,2,3,4,5]),(13,none),(14,some []),(15,none),(16,some [])]⟩ ⟨[],[]⟩]else if i=2011 then [.flt ⟨[(0,none),(1,none),(2,none),(3,none),(4,none),(5,none),(6,none),(7,none),(8,none),(9,none),(10,none),(11,none),(12,none),(13,none),(14,none),(15,none),(16,none),(17,none),(18,none),(19,none),(20,some [0,1]),(21,none),(22,none),(23,some [])]⟩ ⟨[],[]⟩]else []) mixed func29 rfl call29 ntmps29 (zle rfl) results29 (fun hok=> ?_);simp only[ZE,seval,eRaw];refine eloop (fun i=>if i=2003∨i=2008 then [.chn]else if i=2 then [.frz 7]else if i=2005 then [.flt ⟨[(0,none),(1,none),(2,none),(3,none),(4,none),(5,none),(6,none),(7,none),(8,none),(9,none),(10,none),(11,none),(12,some [0,1,2,3,4,5]),(13,none),(14,some []),(15,none),(16,some [])]⟩ ⟨[],[]⟩]else if i=2011 then [.flt ⟨[(0,none),(1,none),(2,none),(3,none),(4,none),(5,none),(6,none),(7,none),(8,none),(9,none),(10,none),(11,none),(12,none),(13,none),(14,none),(15,none),(16,none),(17,none),(18,none),(19,none),(20,some [0,1]),(21,none),(22,none),(23,some [])]⟩ ⟨[],[]⟩]else []) mixed (min L.length 8) (fun _=>True) (fun i=>([(1,.bp 1 0),(3,.d (eSt ((L.take i).foldl (fun s l=>putS s (l.take 40)) []))),(4,.d (eI i))],[(1,.box [.d (.sl (L.map fun l=>[eBy l])),.d (.sl (B.map eBb))])])) trivial ?_ ?_ (fun i hi _=> ?_)
 ·simp only[ZE,seval,waf,wae,List.map_nil]
 ·simp only[ZE,seval,waf,wae]
 rcases wai i (min L.length 8)with h | h
 ·have h1:i<L.length:=by omega
  have h8:decide ((i:Int)<8)=true:=by simp; omega
  have hw:=wrap_succ (show i<9223372036854775807 by omega);obtain⟨l,hl0⟩:=zX (L[i]);have hst:(L.take (i+1)).foldl (fun s l=>putS s (l.take 40)) []=putS ((L.take i).foldl (fun s l=>putS s (l.take 40)) []) (l.take 40):=by
   rw[wab h1,wad,hl0]; rfl
  have hsm:=sm_st1 (L.take i) 0 [] ⟨List.Pairwise.nil,by simp,by simp⟩ (fun l hl=>hL l (wag hl));have hlb:=hL l (hl0▸wac h1);obtain⟨S,hS⟩:=zX ((L.take i).foldl (fun s l=>putS s (l.take 40)) []);rw[hS]at hst hsm;rw[hst,hS];have hlen:(L.take i).length ≤8:=by simp; omega
  have cp:=rputin_c S (l.take 40) hsm.1 (hsm.okO (by omega)) ⟨fun b hb=>hlb b (wag hb),by simp; omega⟩;have hmin:(if (40:Int)<(l.length:Int)then(40:Int)else(l.length:Int))=((min l.length 40:Nat):Int):=by split <;> omega
  have hT:(l.map fun n:Nat=>[D.lit (Value.int IntKind.u8 (n:Int))]).take (min l.length 40)=(l.take 40).map fun n:Nat=>[D.lit (Value.int IntKind.u8 (n:Int))]:=by
   rw[←List.map_take,List.take_eq_take_iff.2]; omega
  simp only[ZE,seval,dec_lt h1,h8,lt_int h1,getD_map h1,hl0,hw,hmin,wah,Nat.sub_zero,hT,waa];refine⟨by kernel_rfl,⟨fun e he=>by obtain⟨n,_,rfl⟩:=List.mem_map.1 he; rfl,by omega,by omega,by omega⟩,?_⟩;refine EFn.p ?_;simp only[ZE,seval];have hc:=cp;simp only[ZE,seval]at hc;refine ECall.i hc ?_;clear hc;simp only[ZE,seval,hw];exact h
 ·have he:i=min L.length 8:=by omega
  have e1:(L.take i).foldl (fun s l=>putS s (l.take 40)) []=st1 L:=by
   unfold st1;rw[show L.take i=L.take 8 from List.take_eq_take_iff.2 (by omega)]
  have hsm:=sm_st1 (L.take 8) 0 [] ⟨List.Pairwise.nil,by simp,by simp⟩ (fun l hl=>hL l (wag hl));rw[e1];have hs1:smS 8 (st1 L):=⟨hsm.1,Nat.le_trans hsm.2.1 (by have:=List.length_take_le 8 L; omega),hsm.2.2⟩;obtain⟨S,hS⟩:=zX (st1 L);have hfin:stG L B=(B.take 4).foldl brkO S:=by rw[←hS]; rfl
  rw[hfin];rw[hS]at hs1 ⊢;have hS8:=hs1.2.1;have hr2:=rows2 S;have hex:(decide ((i:Int)<(L.length:Int))=false∨decide ((i:Int)<(L.length:Int))=true∧decide ((i:Int)<8)=false):=by
   rcases wai i L.length with h1 | h1
   ·exact .inr ⟨dec_lt h1,by simp; omega⟩
   ·exact .inl (dec_ge h1)
  have goal2: ∀b1 b2:Bool,(b1=false∨b1=true∧b2=false)→True:=fun _ _ _=>trivial;have hlb: ∀i,((B.take i).foldl brkO S).length =S.length:=fun i=>brks_len _ _;rcases hex with e1 | ⟨e1,e2⟩
  ·simp only[ZE,seval,e1,waa,Nat.zero_add];refine⟨⟨hr2,by omega,by omega⟩,?_⟩;refine eloop (fun i=>if i=2003∨i=2008 then [.chn]else if i=2 then [.frz 7]else if i=2005 then [.flt ⟨[(0,none),(1,none),(2,none),(3,none),(4,none),(5,none),(6,none),(7,none),(8,none),(9,none),(10,none),(11,none),(12,some [0,1,2,3,4,5]),(13,none),(14,some []),(15,none),(16,some [])]⟩ ⟨[],[]⟩]else if i=2011 then [.flt ⟨[(0,none),(1,none),(2,none),(3,none),(4,none),(5,none),(6,none),(7,none),(8,none),(9,none),(10,none),(11,none),(12,none),(13,none),(14,none),(15,none),(16,none),(17,none),(18,none),(19,none),(20,some [0,1]),(21,none),(22,none),(23,some [])]⟩ ⟨[],[]⟩]else []) mixed (min B.length 4) (fun _=>True) (fun i=>([(1,.bp 1 0),(3,.ar 35 S.length),(5,.d (eI i))],[(1,.box [.d (.sl (L.map fun l=>[eBy l])),.d (.sl (B.map eBb))]),(35,.arr 92 2 .flat (((B.take i).foldl brkO S).map eObj))])) trivial ?_ ?_ (fun i hi _=> ?_)
   ·simp only[ZE,seval]
   ·simp only[ZE,seval,waf,wae]
   have hst:=hlb i;have hso:=sm_brks (B.take i) S hs1 (fun k hk=>(hB k (wag hk)).2.2);rcases wai i (min B.length 4)with h | h
   ·have h1:i<B.length:=(by omega);have h4:decide ((i:Int)<4)=true:=(by simp; omega);by_cases hS0:S=[]
    ·have hz:(B.take i).foldl brkO S=[]:=(by rw[hS0]; exact brks_nil _);have hz4:(B.take 4).foldl brkO S=[]:=(by rw[hS0]; exact brks_nil _);have hgt:decide ((S.length:Int)>0)=false:=(by simp[hS0]);rw[hz,hz4];have hl0:S.length=0:=(by rw[hS0]; rfl);simp(maxSteps:=4000000) only[ZE,seval,dec_lt h1,h4,hgt,hl0,List.length_nil,List.map_nil]
    have hp:0<S.length:=List.length_pos_iff.2 hS0;have hgt:decide ((S.length:Int)>0)=true:=(by simp; omega);have hw:=wrap_succ (show i<9223372036854775807 by omega);have hnx:(B.take (i+1)).foldl brkO S=brkO ((B.take i).foldl brkO S) B[i]:=by
     rw[wab h1,wad]; rfl
    obtain⟨R,hR⟩:=zX ((B.take i).foldl brkO S);obtain⟨k,hk⟩:=zX (B[i]);have hkb:=hB k (hk▸wac h1);obtain⟨a,b,c⟩:=k;simp only at hkb;rw[hR]at hst hso hnx;rw[hk]at hnx;rw[hnx,hR];have ht:a % S.length<R.length:=(by rw[hst]; exact Nat.mod_lt _ hp);have hwa:IntKind.i64.wrap (a:Int)=(a:Int):=wrap_id (by omega) (by omega);have hm:(a:Int).tmod (S.length:Int)=((a % S.length:Nat):Int):=(Int.ofNat_tmod a S.length).symm;have hn0: ¬((S.length:Int)=0):=(by omega);have hbr:brkO R (a,b,c)=R.set (a % S.length) (R[a % S.length].1,brkB R[a % S.length].2 b c):=by
     unfold brkO;rw[if_neg (by intro h0; rw[h0]at hst; simp at hst; omega)];simp only[hst,List.getD,List.getElem?_eq_getElem ht,Option.getD_some]
    rw[hbr];obtain⟨j,hj⟩:=zX (a % S.length);simp only[hj]at ht hm;simp only[hj];have ht':j<S.length:=(by omega);have hoR:=hso.2.2 _ (wac ht);have cbr:=broken_c R[j].2 b c ⟨hoR.2.1,by omega⟩ hkb.2.1 hkb.2.2;simp only[ZE,seval,dec_lt h1,h4,hgt,lt_int h1,getD_map h1,hk,eBb,hwa,hm,hn0,lt_int ht',getD_map ht,hst,wah];refine⟨by kernel_rfl,ht',?_⟩;have hset:(R.map eObj).set j [D.lit (Value.int IntKind.u64 (R[j].1 :Int)),D.sl ((brkB R[j].2 b c).map fun n:Nat=>[D.lit (Value.int IntKind.u8 (n:Int))])]=(R.set j (R[j].1,brkB R[j].2 b c)).map eObj:=(by rw[List.map_set]; rfl);refine EFn.p ?_;simp only[ZE,seval];have hc:=cbr;simp only[ZE,seval]at hc;refine ECall.i hc ?_;clear hc;simp only[ZE,seval,hw,lt_int ht',getD_map ht,hset];exact⟨⟨hst.symm,by omega,by omega⟩,hst.symm,⟨hst.symm,ht⟩,h⟩
   ·have he:i=min B.length 4:=(by omega);have e3:(B.take i).foldl brkO S=(B.take 4).foldl brkO S:=by
     rw[show B.take i=B.take 4 from List.take_eq_take_iff.2 (by omega)]
    rw[e3]at hst ⊢;have hex:(decide ((i:Int)<(B.length:Int))=false∨decide ((i:Int)<(B.length:Int))=true∧decide ((i:Int)<4)=false):=by
     rcases wai i B.length with h1 | h1
     ·exact .inr ⟨dec_lt h1,by simp; omega⟩
     ·exact .inl (dec_ge h1)
    rcases hex with x1 | ⟨x1,x2⟩
    ·simp(maxSteps:=4000000) only[ZE,seval,x1,hst,waa]
    ·simp(maxSteps:=4000000) only[ZE,seval,x1,x2,hst,waa]
  ·simp only[ZE,seval,e1,e2,waa,Nat.zero_add];refine⟨⟨hr2,by omega,by omega⟩,?_⟩;refine eloop (fun i=>if i=2003∨i=2008 then [.chn]else if i=2 then [.frz 7]else if i=2005 then [.flt ⟨[(0,none),(1,none),(2,none),(3,none),(4,none),(5,none),(6,none),(7,none),(8,none),(9,none),(10,none),(11,none),(12,some [0,1,2,3,4,5]),(13,none),(14,some []),(15,none),(16,some [])]⟩ ⟨[],[]⟩]else if i=2011 then [.flt ⟨[(0,none),(1,none),(2,none),(3,none),(4,none),(5,none),(6,none),(7,none),(8,none),(9,none),(10,none),(11,none),(12,none),(13,none),(14,none),(15,none),(16,none),(17,none),(18,none),(19,none),(20,some [0,1]),(21,none),(22,none),(23,some [])]⟩ ⟨[],[]⟩]else []) mixed (min B.length 4) (fun _=>True) (fun i=>([(1,.bp 1 0),(3,.ar 35 S.length),(5,.d (eI i))],[(1,.box [.d (.sl (L.map fun l=>[eBy l])),.d (.sl (B.map eBb))]),(35,.arr 92 2 .flat (((B.take i).foldl brkO S).map eObj))])) trivial ?_ ?_ (fun i hi _=> ?_)
   ·simp only[ZE,seval]
   ·simp only[ZE,seval,waf,wae]
   have hst:=hlb i;have hso:=sm_brks (B.take i) S hs1 (fun k hk=>(hB k (wag hk)).2.2);rcases wai i (min B.length 4)with h | h
   ·have h1:i<B.length:=(by omega);have h4:decide ((i:Int)<4)=true:=(by simp; omega);by_cases hS0:S=[]
    ·have hz:(B.take i).foldl brkO S=[]:=(by rw[hS0]; exact brks_nil _);have hz4:(B.take 4).foldl brkO S=[]:=(by rw[hS0]; exact brks_nil _);have hgt:decide ((S.length:Int)>0)=false:=(by simp[hS0]);rw[hz,hz4];have hl0:S.length=0:=(by rw[hS0]; rfl);simp(maxSteps:=4000000) only[ZE,seval,dec_lt h1,h4,hgt,hl0,List.length_nil,List.map_nil]
    have hp:0<S.length:=List.length_pos_iff.2 hS0;have hgt:decide ((S.length:Int)>0)=true:=(by simp; omega);have hw:=wrap_succ (show i<9223372036854775807 by omega);have hnx:(B.take (i+1)).foldl brkO S=brkO ((B.take i).foldl brkO S) B[i]:=by
     rw[wab h1,wad]; rfl
    obtain⟨R,hR⟩:=zX ((B.take i).foldl brkO S);obtain⟨k,hk⟩:=zX (B[i]);have hkb:=hB k (hk▸wac h1);obtain⟨a,b,c⟩:=k;simp only at hkb;rw[hR]at hst hso hnx;rw[hk]at hnx;rw[hnx,hR];have ht:a % S.length<R.length:=(by rw[hst]; exact Nat.mod_lt _ hp);have hwa:IntKind.i64.wrap (a:Int)=(a:Int):=wrap_id (by omega) (by omega);have hm:(a:Int).tmod (S.length:Int)=((a % S.length:Nat):Int):=(Int.ofNat_tmod a S.length).symm;have hn0: ¬((S.length:Int)=0):=(by omega);have hbr:brkO R (a,b,c)=R.set (a % S.length) (R[a % S.length].1,brkB R[a % S.length].2 b c):=by
     unfold brkO;rw[if_neg (by intro h0; rw[h0]at hst; simp at hst; omega)];simp only[hst,List.getD,List.getElem?_eq_getElem ht,Option.getD_some]
    rw[hbr];obtain⟨j,hj⟩:=zX (a % S.length);simp only[hj]at ht hm;simp only[hj];have ht':j<S.length:=(by omega);have hoR:=hso.2.2 _ (wac ht);have cbr:=broken_c R[j].2 b c ⟨hoR.2.1,by omega⟩ hkb.2.1 hkb.2.2;simp only[ZE,seval,dec_lt h1,h4,hgt,lt_int h1,getD_map h1,hk,eBb,hwa,hm,hn0,lt_int ht',getD_map ht,hst,wah];refine⟨by kernel_rfl,ht',?_⟩;have hset:(R.map eObj).set j [D.lit (Value.int IntKind.u64 (R[j].1 :Int)),D.sl ((brkB R[j].2 b c).map fun n:Nat=>[D.lit (Value.int IntKind.u8 (n:Int))])]=(R.set j (R[j].1,brkB R[j].2 b c)).map eObj:=(by rw[List.map_set]; rfl);refine EFn.p ?_;simp only[ZE,seval];have hc:=cbr;simp only[ZE,seval]at hc;refine ECall.i hc ?_;clear hc;simp only[ZE,seval,hw,lt_int ht',getD_map ht,hset];exact⟨⟨hst.symm,by omega,by omega⟩,hst.symm,⟨hst.symm,ht⟩,h⟩
   ·have he:i=min B.length 4:=(by omega);have e3:(B.take i).foldl brkO S=(B.take 4).foldl brkO S:=by
     rw[show B.take i=B.take 4 from List.take_eq_take_iff.2 (by omega)]
    rw[e3]at hst ⊢;have hex:(decide ((i:Int)<(B.length:Int))=false∨decide ((i:Int)<(B.length:Int))=true∧decide ((i:Int)<4)=false):=by
     rcases wai i B.length with h1 | h1
     ·exact .inr ⟨dec_lt h1,by simp; omega⟩
     ·exact .inl (dec_ge h1)
    rcases hex with x1 | ⟨x1,x2⟩
    ·simp(maxSteps:=4000000) only[ZE,seval,x1,hst,waa]
    ·simp(maxSteps:=4000000) only[ZE,seval,x1,x2,hst,waa]
end Go.Proofs.YtplfjjgkbnolhaaGreatDoor
