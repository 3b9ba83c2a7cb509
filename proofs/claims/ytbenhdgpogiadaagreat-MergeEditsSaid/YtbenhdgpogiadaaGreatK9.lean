/- Contracts and laws. Conditions: those of each. -/
import Derived.Test.YtbenhdgpogiadaaGreatK7
import Derived.Test.YtbenhdgpogiadaaGreatK8
import Derived.Test.YtbenhdgpogiadaaGreatK4
import Derived.Test.YtbenhdgpogiadaaGreatGRb
import Derived.Test.YtbenhdgpogiadaaGreatK5
set_option linter.unusedSimpArgs false
set_option linter.unusedVariables false
open List renaming length_map -> waa, length_append -> wab, map_nil -> wac, length_cons -> wad, map_cons -> wae, map_append -> waf, length_nil -> wag, mem_cons -> wah, take_succ_eq_append_getElem -> wai, getElem_mem -> waj, length_take -> wak, flatMap_cons -> wal, flatMap_nil -> wam, append_nil -> wan, not_mem_nil -> wao, length_set -> wap
open ByteArray renaming empty -> waq
open Int renaming toNat_natCast -> war
open Nat renaming lt_or_ge -> was, le_trans -> wat
open Bool renaming and_eq_true -> wau
namespace Go.Proofs.YtbenhdgpogiadaaGreat
open Go.Aw
open Tryz
set_option maxRecDepth 100000
set_option maxHeartbeats 4000000
def openR(fs:List (List Module)):AV:=if fs.all ze8=true then .tup [.d (.sl (fs.map fun f=>[zdl f])),.d (eI 0)]else .tup [.d (.sl []),.d (eI 1)]
theorem rowsOk_cont(fs:List (List Module)):zcY 1 (fs.map fun f=>[zdl f]):=fun y hy=>by
 obtain⟨f,_,rfl⟩:=List.mem_map.1 hy;exact⟨rfl,fun x hx=>by simp only[List.mem_singleton]at hx; subst hx; simp[zdl,D.one]⟩
structure Sz (f:List Module):Prop where
 len:f.length<=4000000
 items: ∀m∈f,m.items.length<=4000000
theorem zrN(fs:List (List Module))(hs: ∀f∈fs,Sz f)(hn:fs.length<=1000):FnP prog 135 [.sl (fs.map fun f=>[zax f])] (openR fs) []:=by
 refine FnP.of_eC (own:=[]) (fun i=>if i=2 then [.adT 4 100 211 1]else []) zat func135 rfl call135 ntmps135 (zle rfl) results135 (fun hok=> ?_);simp only[ZE,seval,zN,waa];refine za1 (fun i=>[]) zat fs.length (fun i=>(fs.take i).all ze8=true) (fun i=>([(4,.ar 100 i),(7,.d (.sl (fs.map fun f=>[zax f]))),(8,.d (eI fs.length)),(9,.d (eI i))],[(100,.arr 211 1 .flat ((fs.take i).map fun f=>[zdl f]))])) (by simp) ?_ ?_ (fun i hi hI=> ?_)
 ·simp only[ZE,seval]
 ·simp only[ZE,seval,List.take_zero,wac]
 rcases was i fs.length with h | h
 ·have hw:=zaq (show i<9223372036854775807 by omega);obtain⟨f,hf⟩:=zX (fs[i]);have hfm:f∈fs:=hf▸waj h;have pc:=zii f (hs f hfm).len (hs f hfm).items;cases hb:ze8 f with
  | false=>
   have hall:fs.all ze8=false:=by
    rw[List.all_eq_false];exact⟨f,hfm,by simp[hb]⟩
   rw[hb]at pc;simp only[ZE,seval,zaw h,zai h,zaa h,hf,zN];refine EFn.p ?_;simp only[ZE,seval];refine zar.i pc ?_;simp only[ZE,seval,openR,hall,Bool.false_eq_true]
  | true=>
   rw[hb]at pc;have cc:=contentsOf_c f ((zbU f).1 hb);have hr:=rowsOk_cont [f];have hlt:(fs.take i).length =i:=by rw[wak]; omega
   rw[wai h,hf,waf,List.all_append];simp only[wae,wac]at hr;simp only[ZE,seval,zdl]at hr;simp only[ZE,seval,zaw h,zai h,zaa h,hf,zN,wae,wac];refine EFn.p ?_;simp only[ZE,seval];refine zar.i pc ?_;simp only[ZE,seval];refine EFn.p ?_;simp only[ZE,seval];refine zar.i cc ?_;simp only[ZE,seval,zdl,hw,zN,waa,hlt];exact⟨⟨by omega,by omega⟩,h,by rw[hI]; simp[hb]⟩
 ·have:i=fs.length:=by omega
  subst this;rw[List.take_length]at hI;simp only[ZE,seval,zaI h,zN,openR,hI,List.take_length,waa]
set_option maxHeartbeats 40000000
theorem not_op(e:Expr):(notE e).op =2:=rfl
theorem not_name(e:Expr):(notE e).name =emp:=rfl
theorem not_k(e:Expr):(notE e).k =zbj:=rfl
theorem not_w(e:Expr):(notE e).w =zbj:=rfl
theorem not_args(e:Expr):(notE e).args =[e]:=rfl
theorem nameQ_eq: ∀r:Nat,r<4->(⟨#[113]⟩:ByteArray)++(⟨#[100,101,102,103]⟩:ByteArray).extract r (r+1)=(nameQ r).1
 | 0,_ | 1,_ | 2,_ | 3,_=>by decide+kernel
 | n+4,h=>by omega
theorem nameX_eq: ∀r:Nat,r<4->(⟨#[120]⟩:ByteArray)++(⟨#[100,101,102,103]⟩:ByteArray).extract r (r+1)=(nameX r).1
 | 0,_ | 1,_ | 2,_ | 3,_=>by decide+kernel
 | n+4,h=>by omega
theorem ext_size(r:Nat)(h:r<4):((⟨#[100,101,102,103]⟩:ByteArray).extract r (r+1)).size =1:=by
 match r,h with
 | 0,_ | 1,_ | 2,_ | 3,_=>decide+kernel
 | n+4,h=>omega
theorem rowsItem(l:List Item):zcY 35 (l.map zaK):=fun y hy=>by
 obtain⟨p,_,rfl⟩:=List.mem_map.1 hy;exact⟨by simp[zaK,zgL,zb6,zib],zyv p⟩
theorem regM_c(m:Module)(k:K3)(hk:k.ok)(hl:m.items.length<=1000000):FnP prog 175 [.agg (zaC m),.agg [eU8 k.a,eU8 k.b,eU8 k.c]] (.d (.agg (zaC (regM m k)))) []:=by
 refine FnP.of_eC (own:=[]) (fun i=>if i=2009 then [.flt ⟨[(0,none),(1,none),(2,none),(3,none),(4,none),(5,none),(6,none),(7,some []),(8,none),(9,some [])]⟩ ⟨[],[]⟩]else if i=1007 then [.frz 12]else if i=1010 then [.frz 64]else if i=1023 then [.frz 12]else []) zat func175 rfl call175 ntmps175 (zle rfl) results175 (fun hok=> ?_);obtain⟨ka,kb,kc⟩:=hk;have rc:=regs_c m hl;have ic:=rindex_c m (qPart k);have fc:=further_c (nameQ (k.c % 4)) k.a (by omega);have hm4:(k.c:Int).tmod 4=((k.c % 4:Nat):Int):=(Int.ofNat_tmod k.c 4).symm;have hm6:(k.b:Int).tmod 6=((k.b % 6:Nat):Int):=(Int.ofNat_tmod k.b 6).symm;have hr4:k.c % 4<4:=Nat.mod_lt _ (by decide);have hq6:k.b % 6<6:=Nat.mod_lt _ (by decide);have hw8:IntKind.u8.wrap (((k.c % 4:Nat):Int)+1)=((k.c % 4+1:Nat):Int):=by
  unfold IntKind.wrap; simp[IntKind.bits,IntKind.signed]; omega
 have hnq:=nameQ_eq (k.c % 4) hr4;have hes:=ext_size (k.c % 4) hr4;have ri:=rowsItem m.items;have hw:IntKind.i64.wrap (k.a:Int)=(k.a:Int):=zaQ (by omega) (by omega);have hzz:zgM (fun x=>decide (zbg x=qPart k)) m.items=atQ m k:=rfl;rw[hzz]at ic;have hzl:atQ m k<(m.items.length:Int):=zw0 _ _;obtain⟨z,hz⟩:=zX (atQ m k);rw[hz]at ic hzl;unfold regM;rw[hz];obtain⟨q,hq⟩:=zX (k.b % 6);rw[hq]at hm6 hq6;rw[hq];obtain⟨G,hG⟩:=zX (zoC m);rw[hG]at rc ⊢;simp only[ZE,seval,qPart,zfX]at ic;simp only[ZE,seval]at rc fc;simp only[ZE,seval,zN,hm4,hw8,hnq,hes,hm6,hw,war,wac];refine EFn.p ?_;simp only[ZE,seval];refine zar.i rc ?_;simp only[ZE,seval,zN,hm4,hw8,hnq,hes,hm6,hw,war,wac];have e4:(⟨#[100,101,102,103]⟩:ByteArray).size =4:=rfl;refine⟨⟨ri,by omega,by omega⟩,⟨by omega,by omega,by rw[e4]; omega⟩,by decide,?_⟩;refine EFn.p ?_;simp only[ZE,seval];refine zar.i ic ?_;have hGl:(zcF G).length =G.length:=by unfold zcF; rw[waa]
 have hwc:IntKind.i64.wrap (k.c:Int)=(k.c:Int):=zaQ (by omega) (by omega);have h0i:q=0->((q:Int)==0)=true:=fun h=>by rw[h]; rfl
 have h0n:q≠0->((q:Int)==0)=false:=fun h=>beq_eq_false_iff_ne.2 (by omega);have h1i:q=1->((q:Int)==1)=true:=fun h=>by rw[h]; rfl
 have h1n:q≠1->((q:Int)==1)=false:=fun h=>beq_eq_false_iff_ne.2 (by omega);by_cases q0:q=0
 ·have e0:=h0i q0;by_cases zl:z<0
  ·have zb:decide (z<0)=true:=decide_eq_true zl;rw[if_pos ⟨q0,zl⟩];simp only[ZE,seval,zN,hm4,hw8,hnq,hes,hm6,hw,war,wac,e0,zb];refine EFn.p ?_;simp only[ZE,seval];refine zar.i fc ?_;simp only[ZE,seval,zN,hm4,hw8,hnq,hes,hm6,hw,war,wac,waa,wab,wad,wag,waf,wae,Nat.add_zero,Nat.zero_add];exact⟨by omega,by omega⟩
  ·have zb:decide (z<0)=false:=decide_eq_false zl;have e1:((q:Int)==1)=false:=h1n (by omega);have n1: ¬(q=1/\0<=z):=fun h=>by omega
   rw[if_neg (fun h=>zl h.2),if_neg n1];by_cases g0:G.length=0
   ·have gl:((G.length:Int)==0)=true:=(by rw[g0]; rfl);rw[if_pos g0];simp only[ZE,seval,zN,hm4,hw8,hnq,hes,hm6,hw,war,wac,e0,e1,hGl,gl,zb]
   ·have gl:((G.length:Int)==0)=false:=beq_eq_false_iff_ne.2 (by omega);rw[if_neg g0];have hml:(k.c:Int).tmod (G.length:Int)=((k.c % G.length:Nat):Int):=(Int.ofNat_tmod k.c G.length).symm;have hlt:k.c % G.length<G.length:=Nat.mod_lt _ (by omega);have hr:zfM m k=G[k.c % G.length]:=(by unfold zfM; rw[hG]; simp[List.getD,hlt]);have hrl:zfM m k<m.items.length:=zlC k (by rw[hG]; exact g0);obtain⟨r,hrr⟩:=zX (zfM m k);rw[hrr]at hr hrl ⊢;obtain⟨w,hw'⟩:=zX (k.c % G.length);rw[hw']at hml hlt;have hr2:G[w]=r:=(by rw[hr]; congr 1; exact hw'.symm);obtain⟨x,hx⟩:=zX (m.items[r]);have hgx:m.items.getD r zaU=x:=(by simp[List.getD,hrl,hx]);rw[hgx];have gz: ¬((G.length:Int)=0):=(by omega);have hm2:(k.a:Int).tmod 2=((k.a % 2:Nat):Int):=(Int.ofNat_tmod k.a 2).symm;have hw2:IntKind.i64.wrap ((k.a % 2:Nat):Int)=((k.a % 2:Nat):Int):=zaQ (by omega) (by omega);have hS:(List.map zaK m.items).set r (zaK (chI k x))=List.map zaK (m.items.set r (chI k x)):=(by rw[List.map_set]);have hRl:(m.items.set r (chI k x)).length =m.items.length:=wap;obtain⟨R,hR⟩:=zX (m.items.set r (chI k x));rw[hR]at hS hRl ⊢;have e2:((q:Int)==2)=false:=beq_eq_false_iff_ne.2 (by omega);have e3:((q:Int)==3)=false:=beq_eq_false_iff_ne.2 (by omega);have e4:((q:Int)==4)=false:=beq_eq_false_iff_ne.2 (by omega);have hci:chI k x={x with rule:=⟨((k.a % 2:Nat):Int),emp,0⟩}:=(by unfold chI; rw[hq,if_neg (by omega),if_neg (by omega),if_neg (by omega)]);rw[hci]at hS;simp only[ZE,seval,emp]at hS;simp only[ZE,seval,zN,hm4,hw8,hnq,hes,hm6,hw,war,wac,e0,e1,hGl,gl,zb,hwc,hml,zcF,zai hlt,zaa hlt,hr2,e2,e3,e4,hm2,hw2,zai hrl,zaa hrl,hx,waa,hS,hRl];exact⟨gz,hrl⟩
 ·have e0:=h0n q0;by_cases q1:q=1/\0<=z
  ·have e1:=h1i q1.1;have zb:decide (z>=0)=true:=decide_eq_true q1.2;have zb':decide (0<=z)=true:=decide_eq_true q1.2;rw[if_neg (fun h=>q0 h.1),if_pos q1];obtain⟨j,rfl⟩: ∃j:Nat,z=(j:Int):=⟨z.toNat,by omega⟩;have hj:j<m.items.length:=by omega
   have hw1:=zaq (show j<9223372036854775807 by omega);have hE:List.take j (List.map zaK m.items)++List.drop (j+1) (List.map zaK m.items)=(m.items.eraseIdx j).map zaK:=by
    rw[List.eraseIdx_eq_take_drop_succ,waf,List.map_take,List.map_drop]
   have hEl:(m.items.eraseIdx j).length =j+(m.items.length-(j+1)):=by rw[List.length_eraseIdx_of_lt hj]; omega
   simp only[ZE,seval,zN,hm4,hw8,hnq,hes,hm6,hw,war,wac,e0,zb,zb',e1,hw1,hE,waa,hEl];exact⟨by kernel_rfl,⟨by omega,by omega,by omega⟩,⟨by omega,by omega,by omega,by omega⟩,⟨by omega,by omega⟩,fun y hy=>ri y (List.mem_of_mem_drop hy)⟩
  ·rw[if_neg (fun h=>q0 h.1),if_neg q1];by_cases q1':q=1
   ·have e1:=h1i q1';have zb:decide (z>=0)=false:=decide_eq_false (by omega);have zb':decide (0<=z)=false:=decide_eq_false (by omega);by_cases g0:G.length=0
    ·have gl:((G.length:Int)==0)=true:=(by rw[g0]; rfl);rw[if_pos g0];simp only[ZE,seval,zN,hm4,hw8,hnq,hes,hm6,hw,war,wac,e0,e1,hGl,gl,zb,zb']
    ·have gl:((G.length:Int)==0)=false:=beq_eq_false_iff_ne.2 (by omega);rw[if_neg g0];have hml:(k.c:Int).tmod (G.length:Int)=((k.c % G.length:Nat):Int):=(Int.ofNat_tmod k.c G.length).symm;have hlt:k.c % G.length<G.length:=Nat.mod_lt _ (by omega);have hr:zfM m k=G[k.c % G.length]:=(by unfold zfM; rw[hG]; simp[List.getD,hlt]);have hrl:zfM m k<m.items.length:=zlC k (by rw[hG]; exact g0);obtain⟨r,hrr⟩:=zX (zfM m k);rw[hrr]at hr hrl ⊢;obtain⟨w,hw'⟩:=zX (k.c % G.length);rw[hw']at hml hlt;have hr2:G[w]=r:=(by rw[hr]; congr 1; exact hw'.symm);obtain⟨x,hx⟩:=zX (m.items[r]);have hgx:m.items.getD r zaU=x:=(by simp[List.getD,hrl,hx]);rw[hgx];have gz: ¬((G.length:Int)=0):=(by omega);have hm2:(k.a:Int).tmod 2=((k.a % 2:Nat):Int):=(Int.ofNat_tmod k.a 2).symm;have hw2:IntKind.i64.wrap ((k.a % 2:Nat):Int)=((k.a % 2:Nat):Int):=zaQ (by omega) (by omega);have hS:(List.map zaK m.items).set r (zaK (chI k x))=List.map zaK (m.items.set r (chI k x)):=(by rw[List.map_set]);have hRl:(m.items.set r (chI k x)).length =m.items.length:=wap;obtain⟨R,hR⟩:=zX (m.items.set r (chI k x));rw[hR]at hS hRl ⊢;have e2:((q:Int)==2)=false:=beq_eq_false_iff_ne.2 (by omega);have e3:((q:Int)==3)=false:=beq_eq_false_iff_ne.2 (by omega);have e4:((q:Int)==4)=false:=beq_eq_false_iff_ne.2 (by omega);have hci:chI k x={x with rule:=⟨((k.a % 2:Nat):Int),emp,0⟩}:=(by unfold chI; rw[hq,if_neg (by omega),if_neg (by omega),if_neg (by omega)]);rw[hci]at hS;simp only[ZE,seval,emp]at hS;simp only[ZE,seval,zN,hm4,hw8,hnq,hes,hm6,hw,war,wac,e0,e1,hGl,gl,zb,zb',hwc,hml,zcF,zai hlt,zaa hlt,hr2,e2,e3,e4,hm2,hw2,zai hrl,zaa hrl,hx,waa,hS,hRl];exact⟨gz,hrl⟩
   ·have e1:=h1n q1';by_cases g0:G.length=0
    ·have gl:((G.length:Int)==0)=true:=(by rw[g0]; rfl);rw[if_pos g0];simp only[ZE,seval,zN,hm4,hw8,hnq,hes,hm6,hw,war,wac,e0,e1,hGl,gl,q0]
    ·by_cases q2:q=2
     ·have gl:((G.length:Int)==0)=false:=beq_eq_false_iff_ne.2 (by omega);rw[if_neg g0];have hml:(k.c:Int).tmod (G.length:Int)=((k.c % G.length:Nat):Int):=(Int.ofNat_tmod k.c G.length).symm;have hlt:k.c % G.length<G.length:=Nat.mod_lt _ (by omega);have hr:zfM m k=G[k.c % G.length]:=(by unfold zfM; rw[hG]; simp[List.getD,hlt]);have hrl:zfM m k<m.items.length:=zlC k (by rw[hG]; exact g0);obtain⟨r,hrr⟩:=zX (zfM m k);rw[hrr]at hr hrl ⊢;obtain⟨w,hw'⟩:=zX (k.c % G.length);rw[hw']at hml hlt;have hr2:G[w]=r:=(by rw[hr]; congr 1; exact hw'.symm);obtain⟨x,hx⟩:=zX (m.items[r]);have hgx:m.items.getD r zaU=x:=(by simp[List.getD,hrl,hx]);rw[hgx];have gz: ¬((G.length:Int)=0):=(by omega);have hm2:(k.a:Int).tmod 2=((k.a % 2:Nat):Int):=(Int.ofNat_tmod k.a 2).symm;have hw2:IntKind.i64.wrap ((k.a % 2:Nat):Int)=((k.a % 2:Nat):Int):=zaQ (by omega) (by omega);have hS:(List.map zaK m.items).set r (zaK (chI k x))=List.map zaK (m.items.set r (chI k x)):=(by rw[List.map_set]);have hRl:(m.items.set r (chI k x)).length =m.items.length:=wap;obtain⟨R,hR⟩:=zX (m.items.set r (chI k x));rw[hR]at hS hRl ⊢;have e2:((q:Int)==2)=true:=(by rw[q2]; rfl);have hci:chI k x={x with init:=⟨((k.a % 2:Nat):Int),emp⟩}:=(by unfold chI; rw[hq,if_pos q2]);rw[hci]at hS;simp only[ZE,seval,emp]at hS;simp only[ZE,seval,zN,hm4,hw8,hnq,hes,hm6,hw,war,wac,e0,e1,hGl,gl,hwc,hml,zcF,zai hlt,zaa hlt,hr2,e2,hm2,hw2,zai hrl,zaa hrl,hx,waa,hS,hRl];exact⟨gz,hrl⟩
     by_cases q3:q=3
     ·have gl:((G.length:Int)==0)=false:=beq_eq_false_iff_ne.2 (by omega);rw[if_neg g0];have hml:(k.c:Int).tmod (G.length:Int)=((k.c % G.length:Nat):Int):=(Int.ofNat_tmod k.c G.length).symm;have hlt:k.c % G.length<G.length:=Nat.mod_lt _ (by omega);have hr:zfM m k=G[k.c % G.length]:=(by unfold zfM; rw[hG]; simp[List.getD,hlt]);have hrl:zfM m k<m.items.length:=zlC k (by rw[hG]; exact g0);obtain⟨r,hrr⟩:=zX (zfM m k);rw[hrr]at hr hrl ⊢;obtain⟨w,hw'⟩:=zX (k.c % G.length);rw[hw']at hml hlt;have hr2:G[w]=r:=(by rw[hr]; congr 1; exact hw'.symm);obtain⟨x,hx⟩:=zX (m.items[r]);have hgx:m.items.getD r zaU=x:=(by simp[List.getD,hrl,hx]);rw[hgx];have gz: ¬((G.length:Int)=0):=(by omega);have hm2:(k.a:Int).tmod 2=((k.a % 2:Nat):Int):=(Int.ofNat_tmod k.a 2).symm;have hw2:IntKind.i64.wrap ((k.a % 2:Nat):Int)=((k.a % 2:Nat):Int):=zaQ (by omega) (by omega);have hS:(List.map zaK m.items).set r (zaK (chI k x))=List.map zaK (m.items.set r (chI k x)):=(by rw[List.map_set]);have hRl:(m.items.set r (chI k x)).length =m.items.length:=wap;obtain⟨R,hR⟩:=zX (m.items.set r (chI k x));rw[hR]at hS hRl ⊢;have e2:((q:Int)==2)=false:=beq_eq_false_iff_ne.2 (by omega);have e3:((q:Int)==3)=true:=(by rw[q3]; rfl);have hm3:(k.a:Int).tmod 3=((k.a % 3:Nat):Int):=(Int.ofNat_tmod k.a 3).symm;have hw3:IntKind.i64.wrap ((k.a % 3:Nat):Int)=((k.a % 3:Nat):Int):=zaQ (by omega) (by omega);have hci:chI k x={x with rule:=⟨3,sS1,((k.a % 3:Nat):Int)⟩}:=(by unfold chI; rw[hq,if_neg q2,if_pos q3]);rw[hci]at hS;simp only[ZE,seval,sS1,st]at hS;simp only[ZE,seval,zN,hm4,hw8,hnq,hes,hm6,hw,war,wac,e0,e1,hGl,gl,hwc,hml,zcF,zai hlt,zaa hlt,hr2,e2,e3,hm3,hw3,zai hrl,zaa hrl,hx,waa,hS,hRl];exact⟨gz,hrl⟩
     by_cases q4:q=4
     ·have gl:((G.length:Int)==0)=false:=beq_eq_false_iff_ne.2 (by omega);rw[if_neg g0];have hml:(k.c:Int).tmod (G.length:Int)=((k.c % G.length:Nat):Int):=(Int.ofNat_tmod k.c G.length).symm;have hlt:k.c % G.length<G.length:=Nat.mod_lt _ (by omega);have hr:zfM m k=G[k.c % G.length]:=(by unfold zfM; rw[hG]; simp[List.getD,hlt]);have hrl:zfM m k<m.items.length:=zlC k (by rw[hG]; exact g0);obtain⟨r,hrr⟩:=zX (zfM m k);rw[hrr]at hr hrl ⊢;obtain⟨w,hw'⟩:=zX (k.c % G.length);rw[hw']at hml hlt;have hr2:G[w]=r:=(by rw[hr]; congr 1; exact hw'.symm);obtain⟨x,hx⟩:=zX (m.items[r]);have hgx:m.items.getD r zaU=x:=(by simp[List.getD,hrl,hx]);rw[hgx];have gz: ¬((G.length:Int)=0):=(by omega);have hm2:(k.a:Int).tmod 2=((k.a % 2:Nat):Int):=(Int.ofNat_tmod k.a 2).symm;have hw2:IntKind.i64.wrap ((k.a % 2:Nat):Int)=((k.a % 2:Nat):Int):=zaQ (by omega) (by omega);have hS:(List.map zaK m.items).set r (zaK (chI k x))=List.map zaK (m.items.set r (chI k x)):=(by rw[List.map_set]);have hRl:(m.items.set r (chI k x)).length =m.items.length:=wap;obtain⟨R,hR⟩:=zX (m.items.set r (chI k x));rw[hR]at hS hRl ⊢;have e2:((q:Int)==2)=false:=beq_eq_false_iff_ne.2 (by omega);have e3:((q:Int)==3)=false:=beq_eq_false_iff_ne.2 (by omega);have e4:((q:Int)==4)=true:=(by rw[q4]; rfl);have hci:chI k x={x with a:=notE x.a}:=(by unfold chI; rw[hq,if_neg q2,if_neg q3,if_pos q4]);have nc:=not_c x.a;rw[hci]at hS;simp only[ZE,seval,not_op,not_name,not_k,not_w,not_args,zbj,emp,wae,wac]at hS nc;simp only[ZE,seval,zN,hm4,hw8,hnq,hes,hm6,hw,war,wac,e0,e1,hGl,gl,hwc,hml,zcF,zai hlt,zaa hlt,hr2,e2,e3,e4,zai hrl,zaa hrl,hx,waa];refine⟨gz,hrl,?_⟩;refine EFn.p ?_;simp only[ZE,seval];refine zar.i nc ?_;simp only[ZE,seval,zN,zai hrl,zaa hrl,hx,waa,hS,hRl];exact hrl
     ·have gl:((G.length:Int)==0)=false:=beq_eq_false_iff_ne.2 (by omega);rw[if_neg g0];have hml:(k.c:Int).tmod (G.length:Int)=((k.c % G.length:Nat):Int):=(Int.ofNat_tmod k.c G.length).symm;have hlt:k.c % G.length<G.length:=Nat.mod_lt _ (by omega);have hr:zfM m k=G[k.c % G.length]:=(by unfold zfM; rw[hG]; simp[List.getD,hlt]);have hrl:zfM m k<m.items.length:=zlC k (by rw[hG]; exact g0);obtain⟨r,hrr⟩:=zX (zfM m k);rw[hrr]at hr hrl ⊢;obtain⟨w,hw'⟩:=zX (k.c % G.length);rw[hw']at hml hlt;have hr2:G[w]=r:=(by rw[hr]; congr 1; exact hw'.symm);obtain⟨x,hx⟩:=zX (m.items[r]);have hgx:m.items.getD r zaU=x:=(by simp[List.getD,hrl,hx]);rw[hgx];have gz: ¬((G.length:Int)=0):=(by omega);have hm2:(k.a:Int).tmod 2=((k.a % 2:Nat):Int):=(Int.ofNat_tmod k.a 2).symm;have hw2:IntKind.i64.wrap ((k.a % 2:Nat):Int)=((k.a % 2:Nat):Int):=zaQ (by omega) (by omega);have hS:(List.map zaK m.items).set r (zaK (chI k x))=List.map zaK (m.items.set r (chI k x)):=(by rw[List.map_set]);have hRl:(m.items.set r (chI k x)).length =m.items.length:=wap;obtain⟨R,hR⟩:=zX (m.items.set r (chI k x));rw[hR]at hS hRl ⊢;have e2:((q:Int)==2)=false:=beq_eq_false_iff_ne.2 (by omega);have e3:((q:Int)==3)=false:=beq_eq_false_iff_ne.2 (by omega);have e4:((q:Int)==4)=false:=beq_eq_false_iff_ne.2 (by omega);have hci:chI k x={x with rule:=⟨((k.a % 2:Nat):Int),emp,0⟩}:=(by unfold chI; rw[hq,if_neg (by omega),if_neg (by omega),if_neg (by omega)]);rw[hci]at hS;simp only[ZE,seval,emp]at hS;simp only[ZE,seval,zN,hm4,hw8,hnq,hes,hm6,hw,war,wac,e0,e1,hGl,gl,q0,hwc,hml,zcF,zai hlt,zaa hlt,hr2,e2,e3,e4,hm2,hw2,zai hrl,zaa hrl,hx,waa,hS,hRl];exact⟨gz,hrl⟩
def ptI(k:K3)(l:List Item)(i:Nat):List Item:=(l.take i).map (zf2 k)++l.drop i
theorem ptI_len(k:K3)(l:List Item)(i:Nat):(ptI k l i).length =l.length:=by
 unfold ptI;rw[wab,waa,wak,List.length_drop]; omega
theorem ptI_zero(k:K3)(l:List Item):ptI k l 0=l:=by unfold ptI; simp
theorem ptI_all(k:K3)(l:List Item):ptI k l l.length=l.map (zf2 k):=by unfold ptI; simp
theorem ptI_at(k:K3)(l:List Item)(i:Nat)(h:i<l.length):(ptI k l i)[i]'(by rw[ptI_len]; exact h)=l[i]:=by
 unfold ptI;rw[List.getElem_append_right (by rw[waa,wak]; omega)];simp[wak,Nat.min_eq_left (Nat.le_of_lt h)]
theorem ptI_step(k:K3)(l:List Item)(i:Nat)(h:i<l.length):ptI k l (i+1)=(ptI k l i).set i (zf2 k l[i]):=by
 have hl:((l.take i).map (zf2 k)).length =i:=by rw[waa,wak]; omega
 unfold ptI;rw[wai h,waf,List.set_append_right _ _ (by omega),hl,Nat.sub_self,<-List.getElem_cons_drop h,List.append_assoc];rfl
theorem clkT(j:Nat)(h:j<3):([[D.lit (.string (⟨#[99,108,107]⟩:ByteArray))],[D.lit (.string (⟨#[97,117,120]⟩:ByteArray))],[D.lit (.string (⟨#[115,108,111,119]⟩:ByteArray))]]:List (List D)).getD j []=[D.lit (.string (clockN j).1)]:=by
 match j,h with
 | 0,_ | 1,_ | 2,_=>rfl
 | n+3,h=>omega
theorem modM_c(m:Module)(k:K3)(hk:k.ok)(hl:m.items.length<=1000000):FnP prog 134 [.agg (zaC m),.agg [eU8 k.a,eU8 k.b,eU8 k.c]] (.d (.agg (zaC (zu1 m k)))) []:=by
 refine FnP.of_eC (own:=[]) (fun i=>if i=1015 then [.frz 7]else []) zat func134 rfl call134 ntmps134 (zle rfl) results134 (fun hok=> ?_);have rc:=regM_c m k hk hl;obtain⟨ka,kb,kc⟩:=hk;have ri:=rowsItem m.items;have hm8:(k.a:Int).tmod 8=((k.a % 8:Nat):Int):=(Int.ofNat_tmod k.a 8).symm;obtain⟨q,hq⟩:=zX (k.a % 8);rw[hq]at hm8;unfold zu1;rw[hq];by_cases q5:q=5
 ·have e5:((q:Int)==5)=true:=by rw[q5]; rfl
  rw[if_pos q5];have hm3:(k.c:Int).tmod 3=((k.c % 3:Nat):Int):=(Int.ofNat_tmod k.c 3).symm;have hr3:k.c % 3<3:=Nat.mod_lt _ (by decide);have ct:=clkT (k.c % 3) hr3;obtain⟨r,hr⟩:=zX (k.c % 3);rw[hr]at hm3 hr3 ct;rw[hr];simp only[ZE,seval,zN,hm8,e5,hm3,waa,ct,wac,zai hr3];exact⟨⟨by omega,by omega⟩,⟨by omega,by omega⟩,hr3⟩
 have e5:((q:Int)==5)=false:=beq_eq_false_iff_ne.2 (by omega);rw[if_neg q5];by_cases q4:q=4
 ·have e4:((q:Int)==4)=true:=by rw[q4]; rfl
  rw[if_pos q4];simp only[ZE,seval,zN,hm8,e5,e4,waa,wac];refine⟨⟨ri,by omega,by omega⟩,?_⟩;refine za1 (fun _=>[]) zat m.items.length (fun _=>True) (fun i=>([(2,.bp 2 0),(3,.bp 3 0),(4,.bp 4 0),(5,.ar 7 m.items.length),(6,.d (eI i))],[(2,.box [.d (eS m.name),.d (eS m.clock),.d (zd5 m.params),.d (zbR m.items)]),(3,.box [.d (eU8 k.a),.d (eU8 k.b),.d (eU8 k.c)]),(4,.box [.d (.lit (.string waq)),.d (.lit (.string waq)),.nils,.nils]),(7,.arr 64 35 .flat ((ptI k m.items i).map zaK))])) trivial ?_ ?_ (fun i hi _=> ?_)
  ·simp only[ZE,seval]
  ·simp only[ZE,seval,ptI_zero]
  rcases was i m.items.length with h | h
  ·have hw:=zaq (show i<9223372036854775807 by omega);have hat:=ptI_at k m.items i h;have hnl:=ptI_len k m.items i;rw[ptI_step k m.items i h];obtain⟨x,hx⟩:=zX (m.items[i]);rw[hx]at hat ⊢;obtain⟨L,hL⟩:=zX (ptI k m.items i);have hiL:i<L.length:=by rw[<-hL,hnl]; exact h
   have hxL:L[i]=x:=by subst hL; exact hat
   rw[hL]at hnl ⊢;have hS:(L.map zaK).set i (zaK (zf2 k x))=(L.set i (zf2 k x)).map zaK:=by rw[List.map_set]
   have hRl:(L.set i (zf2 k x)).length =m.items.length:=by rw[wap,hnl]
   by_cases k8:x.kind.1=8
   ·have e8:(x.kind.1==8)=true:=(by rw[k8]; rfl);have e3:(x.kind.1==3)=false:=(by rw[k8]; rfl);have hp:zf2 k x={x with b:=notE x.b}:=(by unfold zf2; rw[if_pos k8]);have nc:=not_c x.b;obtain⟨R,hR⟩:=zX (L.set i (zf2 k x));rw[hR]at hS hRl ⊢;have hiR:i<R.length:=(by rw[hRl]; exact h);have hRi:R[i]=zf2 k x:=(by subst hR; exact List.getElem_set_self _);rw[hp]at hS hRi;simp only[ZE,seval,not_op,not_name,not_k,not_w,not_args,zbj,emp,wae,wac]at hS nc;simp only[ZE,seval,zN,zaw h,zai h,zai hiL,zaa hiL,hxL,hnl,e8,waa];refine⟨h,h,?_⟩;refine EFn.p ?_;simp only[ZE,seval];refine zar.i nc ?_;simp only[ZE,seval,zN,zaw h,zai h,zai hiL,zaa hiL,hxL,hnl,e8,e3,waa,hS,hRl,zaa hiR,hRi,hw];exact h
   ·have e8:(x.kind.1==8)=false:=beq_eq_false_iff_ne.2 k8;by_cases k3:x.kind.1=3
    ·have e3:(x.kind.1==3)=true:=(by rw[k3]; rfl);have hm8c:(k.c:Int).tmod 8=((k.c % 8:Nat):Int):=(Int.ofNat_tmod k.c 8).symm;have hw8:IntKind.i64.wrap (((k.c % 8:Nat):Int))=((k.c % 8:Nat):Int):=zaQ (by omega) (by omega);have hw9:IntKind.i64.wrap (1+((k.c % 8:Nat):Int))=((1+k.c % 8:Nat):Int):=(by rw[zaQ (by omega) (by omega)]; omega);have hp:zf2 k x={x with depth:=⟨((1+k.c % 8:Nat):Int),emp⟩}:=(by unfold zf2; rw[if_neg k8,if_pos k3]);obtain⟨R,hR⟩:=zX (L.set i (zf2 k x));rw[hR]at hS hRl ⊢;rw[hp]at hS;simp only[ZE,seval,emp]at hS;simp only[ZE,seval,zN,zaw h,zai h,zai hiL,zaa hiL,hxL,hnl,e8,e3,waa,hm8c,hw8,hw9,hS,hRl,hw];exact h
    ·have e3:(x.kind.1==3)=false:=beq_eq_false_iff_ne.2 k3;have hp:zf2 k x=x:=(by unfold zf2; rw[if_neg k8,if_neg k3]);have hLs:L.set i (zf2 k x)=L:=(by rw[hp,<-hxL]; exact List.set_getElem_self hiL);rw[hLs];simp only[ZE,seval,zN,zaw h,zai h,zai hiL,zaa hiL,hxL,hnl,e8,e3,waa,hw];exact h
  ·have:i=m.items.length:=by omega
   subst this;have hl2:(m.items.map (zf2 k)).length =m.items.length:=waa _;obtain⟨R,hR⟩:=zX (m.items.map (zf2 k));rw[ptI_all,hR];rw[hR]at hl2;simp only[ZE,seval,zN,zaI h,waa,hl2]
 ·have e4:((q:Int)==4)=false:=beq_eq_false_iff_ne.2 (by omega);rw[if_neg q4];obtain⟨Q,hQ⟩:=zX (regM m k);rw[hQ]at rc ⊢;simp only[ZE,seval]at rc;simp only[ZE,seval,zN,hm8,e5,e4,waa,wac];refine⟨⟨ri,by omega,by omega⟩,?_⟩;refine EFn.p ?_;simp only[ZE,seval];refine zar.i rc ?_;simp only[ZE,seval,zN]
theorem rowsModule(f:List Module):zcY 4 (f.map zaC):=by
 intro y hy;obtain⟨q,_,rfl⟩:=List.mem_map.1 hy;exact⟨rfl,fun d hd=>by simp only[zaC,wah,wao,or_false]at hd; rcases hd with rfl | rfl | rfl | rfl <;> simp[eS,zd5,zbR,D.one,Value.oneCell']⟩
def eK3(k:K3):List D:=[eU8 k.a,eU8 k.b,eU8 k.c]
theorem zwR(f:List Module)(n:Nat)(hg:Gi n f)(hn:n<=100)(l:List K3)(hl: ∀k∈l,k.ok):FnP prog 85 [.agg [zax f],.sl (l.map eK3)] (.d (.agg [zax (zfc f l)])) []:=by
 refine FnP.of_eC (own:=[]) (fun i=>[]) zat func85 rfl call85 ntmps85 (zle rfl) results85 (fun hok=> ?_);unfold zfc;have hT6:(l.take 6).length <=6:=by rw[wak]; omega
 have hTl:(l.take 6).length <=l.length:=by rw[wak]; omega
 simp only[ZE,seval,zN,waa];refine za1 (fun i=>if i=2011 then [.ord ⟨[(0,none),(1,none),(2,none),(3,none),(4,none),(5,none),(6,none),(7,some []),(8,some [])]⟩]else if i=11 then [.rnm [(2,2),(4,4),(6,6),(76,25)]]else if i=2014 then [.ord ⟨[(0,none),(1,none),(2,none),(3,none),(4,none),(5,none),(6,none),(7,none),(8,none),(9,some [])]⟩]else if i=1015 then [.frz 25]else []) zat (l.take 6).length (fun _=>True) (fun i=>([(1,.d (.sl (l.map eK3))),(2,.bp 2 0),(4,.bp 4 0),(5,.d (eI i))],[(2,.box [.d (zax (((l.take 6).take i).foldl edS f))]),(4,.box [.nils])])) trivial ?_ ?_ (fun i hi _=> ?_)
 ·simp only[ZE,seval]
 ·simp only[ZE,seval,List.take_zero,List.foldl_nil]
 rcases was i (l.take 6).length with h | h
 ·have hw:=zaq (show i<9223372036854775807 by omega);have h6:i<6:=by omega
  have hil:i<l.length:=by omega
  obtain⟨k,hk⟩:=zX (l[i]);have hko:=hl k (hk▸waj hil);have hst:((l.take 6).take (i+1)).foldl edS f=edS (((l.take 6).take i).foldl edS f) k:=by
   rw[wai h,List.foldl_append];simp[hk]
  have hgi:=gi_fold ((l.take 6).take i) n f hg;have hli:((l.take 6).take i).length <=6:=by rw[wak]; omega
  obtain⟨F,hF⟩:=zX (((l.take 6).take i).foldl edS f);rw[hF]at hst hgi;rw[hst,hF];have hFl:F.length<=200:=by have:=hgi.len; omega
  obtain⟨ka,kb,kc⟩:=hko;have d1:=zaw hil;have d2:decide ((i:Int)<6)=true:=decide_eq_true (by omega);have hm4:(k.c:Int).tmod 4=((k.c % 4:Nat):Int):=(Int.ofNat_tmod k.c 4).symm;have hm8:(k.a:Int).tmod 8=((k.a % 8:Nat):Int):=(Int.ofNat_tmod k.a 8).symm;have hr4:k.c % 4<4:=Nat.mod_lt _ (by decide);have hw8:IntKind.u8.wrap (((k.c % 4:Nat):Int)+1)=((k.c % 4+1:Nat):Int):=by
   unfold IntKind.wrap; simp[IntKind.bits,IntKind.signed]; omega
  have hwb:IntKind.i64.wrap (k.b:Int)=(k.b:Int):=zaQ (by omega) (by omega);have hnx:=nameX_eq (k.c % 4) hr4;have hes:=ext_size (k.c % 4) hr4;have e4:(⟨#[100,101,102,103]⟩:ByteArray).size =4:=rfl;have fc:=zxz F (nameX (k.c % 4));have rm:zcY 4 (F.map zaC):=rowsModule F;have hzz:zgM (fun m:Module=>decide (m.name=nameX (k.c % 4))) F=atX F k:=rfl;rw[hzz]at fc;have hzl:atX F k<(F.length:Int):=zw0 _ _;obtain⟨z,hz⟩:=zX (atX F k);rw[hz]at fc hzl;unfold edS;rw[hz];obtain⟨q,hq⟩:=zX (k.a % 8);rw[hq]at hm8;rw[hq];simp only[ZE,seval]at fc;simp only[ZE,seval,zN,hm4,hm8,hw8,hnx,hes,hwb,war,wac,waa,d1,d2,zai hil,zaa hil,hk,eK3];refine⟨⟨rm,by omega,by omega⟩,⟨by omega,by omega,by rw[e4]; omega⟩,by decide,?_⟩;refine EFn.p ?_;simp only[ZE,seval];refine zar.i fc ?_;by_cases q7:q=7/\z<0
  ·have e7:((q:Int)==7)=true:=by rw[q7.1]; rfl
   have zb:decide (z<0)=true:=decide_eq_true q7.2;rw[if_pos q7];have nc:=further_c sR1 k.b (by omega);have hrw:sR1.1=⟨#[114]⟩:=rfl;simp only[ZE,seval,hrw]at nc;simp only[ZE,seval,zN,hm4,hm8,hw8,hnx,hes,hwb,war,wac,waa,e7,zb];refine EFn.p ?_;simp only[ZE,seval];refine zar.i nc ?_;have hck:(clockN 0).1 =⟨#[99,108,107]⟩:=rfl;simp only[ZE,seval,zN,hm4,hm8,hw8,hnx,hes,hwb,war,wac,waa,e7,zb,wab,wad,wag,waf,wae,Nat.add_zero,Nat.zero_add,newM,hck,hw];exact⟨⟨by omega,by omega⟩,h⟩
  rw[if_neg q7];by_cases q7':q=7
  ·have e7:((q:Int)==7)=true:=by rw[q7']; rfl
   have e6:((q:Int)==6)=false:=by rw[q7']; rfl
   have zb:decide (z<0)=false:=decide_eq_false (by omega);rw[if_neg (fun hh=>by have:=hh.1; omega)];by_cases f0:F.length=0
   ·have fb:decide ((F.length:Int)>0)=false:=decide_eq_false (by omega);have fb':decide (0<(F.length:Int))=false:=decide_eq_false (by omega);rw[if_pos f0];simp only[ZE,seval,zN,hm4,hm8,hw8,hnx,hes,hwb,war,wac,waa,e7,e6,zb,fb,fb',hw];exact h
   ·have fb:decide ((F.length:Int)>0)=true:=decide_eq_true (by omega);have fb':decide (0<(F.length:Int))=true:=decide_eq_true (by omega);rw[if_neg f0];have hmb:(k.b:Int).tmod (F.length:Int)=((k.b % F.length:Nat):Int):=(Int.ofNat_tmod k.b F.length).symm;have hjl:k.b % F.length<F.length:=Nat.mod_lt _ (by omega);obtain⟨j,hj⟩:=zX (k.b % F.length);rw[hj]at hmb hjl ⊢;have fz: ¬((F.length:Int)=0):=(by omega);obtain⟨M,hM⟩:=zX (F[j]);have hMg:F.getD j zdP=M:=(by simp[List.getD,hjl,hM]);rw[hMg];have mc:=modM_c M k ⟨ka,kb,kc⟩ (by have:=(hgi.fine M (hM▸waj hjl)).items; omega);have hS:(F.map zaC).set j (zaC (zu1 M k))=(F.set j (zu1 M k)).map zaC:=(by rw[List.map_set]);have hRl:(F.set j (zu1 M k)).length =F.length:=wap;obtain⟨R,hR⟩:=zX (F.set j (zu1 M k));rw[hR]at hS hRl ⊢;obtain⟨Q,hQ⟩:=zX (zu1 M k);rw[hQ]at hS mc;simp only[ZE,seval]at hS mc;simp only[ZE,seval,zN,hm4,hm8,hw8,hnx,hes,hwb,war,wac,waa,e7,e6,zb,fb,fb',hw,hwb,hmb,zai hjl,zaa hjl,hM];refine⟨fz,by kernel_rfl,hjl,zaz.i mc ?_⟩;simp only[ZE,seval,zN,hm4,hm8,hw8,hnx,hes,hwb,war,wac,waa,e7,e6,zb,fb,fb',hw,hwb,hmb,zai hjl,zaa hjl,hM,hS,hRl];exact⟨hjl,h⟩
  have e7:((q:Int)==7)=false:=beq_eq_false_iff_ne.2 (by omega);by_cases q6:q=6/\0<=z
  ·have e6:((q:Int)==6)=true:=by rw[q6.1]; rfl
   have zb:decide (z>=0)=true:=decide_eq_true q6.2;have zb':decide (0<=z)=true:=decide_eq_true q6.2;rw[if_pos q6];obtain⟨j,rfl⟩: ∃j:Nat,z=(j:Int):=⟨z.toNat,by omega⟩;have hj:j<F.length:=by omega
   have hw1:=zaq (show j<9223372036854775807 by omega);have hE:List.take j (List.map zaC F)++List.drop (j+1) (List.map zaC F)=(F.eraseIdx j).map zaC:=by
    rw[List.eraseIdx_eq_take_drop_succ,waf,List.map_take,List.map_drop]
   have hEl:(F.eraseIdx j).length =j+(F.length-(j+1)):=by rw[List.length_eraseIdx_of_lt hj]; omega
   simp only[ZE,seval,zN,hm4,hm8,hw8,hnx,hes,hwb,war,wac,waa,e7,e6,zb,zb',hw1,hE,hEl,hw];exact⟨by kernel_rfl,⟨by omega,by omega,by omega⟩,⟨by omega,by omega,by omega,by omega⟩,⟨⟨by omega,by omega⟩,fun y hy=>rm y (List.mem_of_mem_drop hy)⟩,h⟩
  rw[if_neg q6];by_cases q6':q=6
  ·have e6:((q:Int)==6)=true:=by rw[q6']; rfl
   have zb:decide (z>=0)=false:=decide_eq_false (by omega);have zb':decide (0<=z)=false:=decide_eq_false (by omega);by_cases f0:F.length=0
   ·have fb:decide ((F.length:Int)>0)=false:=decide_eq_false (by omega);have fb':decide (0<(F.length:Int))=false:=decide_eq_false (by omega);rw[if_pos f0];simp only[ZE,seval,zN,hm4,hm8,hw8,hnx,hes,hwb,war,wac,waa,e7,e6,zb,zb',fb,fb',hw];exact h
   ·have fb:decide ((F.length:Int)>0)=true:=decide_eq_true (by omega);have fb':decide (0<(F.length:Int))=true:=decide_eq_true (by omega);rw[if_neg f0];have hmb:(k.b:Int).tmod (F.length:Int)=((k.b % F.length:Nat):Int):=(Int.ofNat_tmod k.b F.length).symm;have hjl:k.b % F.length<F.length:=Nat.mod_lt _ (by omega);obtain⟨j,hj⟩:=zX (k.b % F.length);rw[hj]at hmb hjl ⊢;have fz: ¬((F.length:Int)=0):=(by omega);obtain⟨M,hM⟩:=zX (F[j]);have hMg:F.getD j zdP=M:=(by simp[List.getD,hjl,hM]);rw[hMg];have mc:=modM_c M k ⟨ka,kb,kc⟩ (by have:=(hgi.fine M (hM▸waj hjl)).items; omega);have hS:(F.map zaC).set j (zaC (zu1 M k))=(F.set j (zu1 M k)).map zaC:=(by rw[List.map_set]);have hRl:(F.set j (zu1 M k)).length =F.length:=wap;obtain⟨R,hR⟩:=zX (F.set j (zu1 M k));rw[hR]at hS hRl ⊢;obtain⟨Q,hQ⟩:=zX (zu1 M k);rw[hQ]at hS mc;simp only[ZE,seval]at hS mc;simp only[ZE,seval,zN,hm4,hm8,hw8,hnx,hes,hwb,war,wac,waa,e7,e6,zb,zb',fb,fb',hw,hwb,hmb,zai hjl,zaa hjl,hM];refine⟨fz,by kernel_rfl,hjl,zaz.i mc ?_⟩;simp only[ZE,seval,zN,hm4,hm8,hw8,hnx,hes,hwb,war,wac,waa,e7,e6,zb,zb',fb,fb',hw,hwb,hmb,zai hjl,zaa hjl,hM,hS,hRl];exact⟨hjl,h⟩
  ·have e6:((q:Int)==6)=false:=beq_eq_false_iff_ne.2 (by omega);by_cases f0:F.length=0
   ·have fb:decide ((F.length:Int)>0)=false:=decide_eq_false (by omega);have fb':decide (0<(F.length:Int))=false:=decide_eq_false (by omega);rw[if_pos f0];simp only[ZE,seval,zN,hm4,hm8,hw8,hnx,hes,hwb,war,wac,waa,e7,e6,fb,fb',hw];exact h
   ·have fb:decide ((F.length:Int)>0)=true:=decide_eq_true (by omega);have fb':decide (0<(F.length:Int))=true:=decide_eq_true (by omega);rw[if_neg f0];have hmb:(k.b:Int).tmod (F.length:Int)=((k.b % F.length:Nat):Int):=(Int.ofNat_tmod k.b F.length).symm;have hjl:k.b % F.length<F.length:=Nat.mod_lt _ (by omega);obtain⟨j,hj⟩:=zX (k.b % F.length);rw[hj]at hmb hjl ⊢;have fz: ¬((F.length:Int)=0):=(by omega);obtain⟨M,hM⟩:=zX (F[j]);have hMg:F.getD j zdP=M:=(by simp[List.getD,hjl,hM]);rw[hMg];have mc:=modM_c M k ⟨ka,kb,kc⟩ (by have:=(hgi.fine M (hM▸waj hjl)).items; omega);have hS:(F.map zaC).set j (zaC (zu1 M k))=(F.set j (zu1 M k)).map zaC:=(by rw[List.map_set]);have hRl:(F.set j (zu1 M k)).length =F.length:=wap;obtain⟨R,hR⟩:=zX (F.set j (zu1 M k));rw[hR]at hS hRl ⊢;obtain⟨Q,hQ⟩:=zX (zu1 M k);rw[hQ]at hS mc;simp only[ZE,seval]at hS mc;simp only[ZE,seval,zN,hm4,hm8,hw8,hnx,hes,hwb,war,wac,waa,e7,e6,fb,fb',hw,hwb,hmb,zai hjl,zaa hjl,hM];refine⟨fz,by kernel_rfl,hjl,zaz.i mc ?_⟩;simp only[ZE,seval,zN,hm4,hm8,hw8,hnx,hes,hwb,war,wac,waa,e7,e6,fb,fb',hw,hwb,hmb,zai hjl,zaa hjl,hM,hS,hRl];exact⟨hjl,h⟩
 ·have:i=(l.take 6).length :=by omega
  subst this;rw[List.take_length];rcases was (l.take 6).length l.length with h1 | h1
  ·have h6:(l.take 6).length =6:=by rw[wak]; rw[wak]at h1; omega
   have d1:=zaw h1;have d2:decide (((l.take 6).length :Int)<6)=false:=decide_eq_false (by omega);simp only[ZE,seval,zN,d1,d2,waa]
  ·have d1:=zaI h1;simp only[ZE,seval,zN,d1,waa]
def e72(a b c:List K3):D:=.agg [.sl (a.map eK3),.sl (b.map eK3),.sl (c.map eK3)]
def zhA(x:Raw)(a:List K3):List Module:=zfc (zdG x) a
theorem zmB(x:Raw)(a:List K3):Gi 6 (zhA x a):=gi_edited (gi_made x) a
theorem zli(x:Raw)(a b:List K3):Gi 12 (zfc (zhA x a) b):=gi_edited (zmB x a) b
theorem zpp(x:Raw)(hx:x.ok)(a b c:List K3)(ha: ∀k∈a,k.ok)(hb: ∀k∈b,k.ok)(hc: ∀k∈c,k.ok):FnP prog 32 [zew x,e72 a b c] (.d (.agg [zax (zhA x a),zax (zfc (zhA x a) b),zax (zfc (zhA x a) c)])) []:=by
 refine FnP.of_eC (own:=[]) (fun i=>if i=2001 then [.flt ⟨[(0,none),(1,none),(2,none),(3,none),(4,none),(6,some [])]⟩ ⟨[5],[(6,[5])]⟩]else if i=2002 then [.ord ⟨[(0,none),(1,none),(2,none),(3,none),(4,none),(5,none),(6,none),(7,none),(8,none),(9,none),(10,some [])]⟩]else []) zat func32 rfl call32 ntmps32 (zle rfl) results32 (fun hok=> ?_);have mc:=zh2 x hx;have e0:=zwR (zdG x) 0 (gi_made x) (by omega) a ha;have h0:zfc (zdG x) a=zhA x a:=rfl;rw[h0]at e0;have e1:=zwR (zhA x a) 6 (zmB x a) (by omega) b hb;have e2:=zwR (zhA x a) 6 (zmB x a) (by omega) c hc;obtain⟨M,hM⟩:=zX (zdG x);obtain⟨B,hB⟩:=zX (zhA x a);obtain⟨X,hX⟩:=zX (zfc (zhA x a) b);obtain⟨Y,hY⟩:=zX (zfc (zhA x a) c);rw[hX]at e1;rw[hY]at e2;rw[hX,hY];rw[hM]at mc e0;rw[hB]at e0 e1 e2 ⊢;simp only[ZE,seval,zew]at mc;simp only[ZE,seval]at e0 e1 e2;simp only[ZE,seval,zN,e72,zew];refine⟨by kernel_rfl,zaz.i mc ?_⟩;simp only[ZE,seval,zN];refine zaz.i e0 ?_;simp only[ZE,seval,zN];refine⟨by kernel_rfl,zaz.i e1 ?_⟩;simp only[ZE,seval,zN];refine zaz.i e2 ?_;simp only[ZE,seval,zN]
def sideR(b x y:List Module)(p:Place):AV:=if [b,x,y].all ze8=true then .tup [.d (eI (zfo (zbc b) (zbc x) (zbc y) p)),.d (eI 0)]else .tup [.d (eI 0),.d (eI 1)]
theorem mside_c(b x y:List Module)(hb:Sz b)(hx:Sz x)(hy:Sz y)(p:Place):FnP prog 96 [.agg [zax b],.agg [zax x],.agg [zax y],.agg (zaE p)] (sideR b x y p) []:=by
 refine FnP.of_eC (own:=[]) (fun _=>[]) zat func96 rfl call96 ntmps96 (zle rfl) results96 (fun hok=> ?_);have oc:=zrN [b,x,y] (fun f hf=>by simp only[wah,wao,or_false]at hf; rcases hf with rfl | rfl | rfl <;> assumption) (by simp);unfold openR at oc;unfold sideR;simp only[wae,wac]at oc;cases hp:[b,x,y].all ze8 with
 | false=>
  rw[hp]at oc;simp only[ZE,seval,Bool.false_eq_true]at oc;simp(maxSteps:=200000) only[ZE,seval,zN,Bool.false_eq_true,zaE];refine EFn.p ?_;simp only[ZE,seval];refine zar.i oc ?_;simp(maxSteps:=200000) only[ZE,seval,zN]
  trace_state
 | true=>
  rw[hp]at oc;simp only[List.all_cons,List.all_nil,Bool.and_true,wau]at hp;have sc:=side_c b x y ((zbU _).1 hp.1) ((zbU _).1 hp.2.1) ((zbU _).1 hp.2.2) p;obtain⟨n,hn⟩:=zX (zfo (zbc b) (zbc x) (zbc y) p);rw[hn]at sc ⊢;unfold eC3 at sc;obtain⟨B,hB⟩:=zX (zdl b);obtain⟨X,hX⟩:=zX (zdl x);obtain⟨Y,hY⟩:=zX (zdl y);rw[hB,hX,hY]at sc oc;simp only[ZE,seval,zaE]at sc oc;simp(maxSteps:=200000) only[ZE,seval,zN,zaE];refine EFn.p ?_;simp only[ZE,seval];refine zar.i oc ?_;simp(maxSteps:=200000) only[ZE,seval,zN];refine EFn.p ?_;simp only[ZE,seval];refine zar.i sc ?_;simp(maxSteps:=200000) only[ZE,seval,zN]
  trace_state
theorem indexQ_o(l:List Place)(g:Nat)(c:D)(p:Place->Bool)(hf: ∀b∈l,FnP prog g [.agg (zaE b),c] (.d (eB (p b))) [])(hl:l.length<=4000000):FnL prog 177 [.ar 0 l.length,.d (.clo (.func g) [] [c])] [(0,.arr 166 3 .flat (l.map zaE))] (fun V ol new=>V= .d (eI (zgM p l))/\ol=[(0,.arr 166 3 .flat (l.map zaE))]/\new=[]):=by
 refine FnL.of_eC (own:=[]) (fun _=>[]) [0] zat func177 rfl call177 ntmps177 (zle rfl) results177 ?_;simp only[ZE,seval,zN,waa];refine za1 (fun _=>[]) zat l.length (fun i=> ∀j (_:j<i) (hj:j<l.length),p l[j]=false) (fun i=>([(0,.ar 0 l.length),(1,.d (.clo (.func g) [] [c])),(7,.d (eI l.length)),(8,.d (eI i))],[(0,.arr 166 3 .flat (l.map zaE))])) (by simp) ?_ ?_ (fun i hi hI=> ?_)
 ·simp only[ZE,seval]
 ·simp only[ZE,seval]
 rcases was i l.length with h | h
 ·have hw:=zaq (show i<9223372036854775807 by omega);have hc:=hf l[i] (waj h);obtain⟨q,hq⟩:=zX (l[i]);rw[hq]at hc;simp only[ZE,seval,zaE]at hc;simp only[ZE,seval,zaw h,zai h,zaa h,hq,zN,waa,zaE];refine⟨h,?_⟩;refine EFn.p ?_;simp only[ZE,seval];refine zar.i hc ?_;cases hp:p q with
  | true=>
   have e:zgM p l=(i:Int):=zeP h (by rw[hq]; exact hp) hI;simp only[ZE,seval,zN,hw,e];refine⟨[],[],?_⟩;simp only[ZE,seval]
  | false=>
   simp only[ZE,seval,zN,hw];refine⟨h,fun j hj hj'=> ?_⟩;rcases Nat.lt_succ_iff_lt_or_eq.1 hj with hj | rfl
   ·exact hI j hj hj'
   ·rw[hq]; exact hp
 ·have e:zgM p l= -1:=zeO (fun j hj=>hI j (by omega) hj);simp only[ZE,seval,zaI h,zN,e,waa];refine⟨[],[],?_⟩;simp only[ZE,seval]
theorem filt_take{p:Place->Bool}{l:List Place}{k:Nat}(h:k<l.length):((l.take (k+1)).filter fun q=> !p q)=((l.take k).filter fun q=> !p q)++if p l[k]=true then []else [l[k]]:=by
 rw[wai h,List.filter_append];congr 1;cases hp:p l[k] <;> simp[hp]
theorem delQ_c(l:List Place)(g:Nat)(c:D)(p:Place->Bool)(hf: ∀q∈l,FnP prog g [.agg (zaE q),c] (.d (eB (p q))) [])(hl:l.length<=4000000):FnL prog 136 [.ar 0 l.length,.d (.clo (.func g) [] [c])] [(0,.arr 166 3 .flat (l.map zaE))] (fun V ol new=>V= .d (.sl ((l.filter fun q=> !p q).map zaE))/\ol=[]/\new=[]):=by
 refine FnL.of_eC (own:=[]) (fun _=>[]) [] zat func136 rfl call136 ntmps136 (zle rfl) results136 ?_;have ic:=indexQ_o l g c p hf hl;obtain⟨z,hz⟩:=zX (zgM p l);rw[hz]at ic;simp only[ZE,seval,zN,waa];refine EFn.gV [(0,0)] ic ?_ ?_
 ·simp only[ZE,seval]
 rintro V ol new ⟨rfl,rfl,rfl⟩;by_cases z0:z<0
 ·have hno: ∀q∈l,p q=false:=zrI (by rw[hz]; exact z0);have hfl:(l.filter fun q=> !p q)=l:=List.filter_eq_self.2 fun q hq=>by rw[hno q hq]; rfl
  have z1:z= -1:=by
   have:zgM p l= -1:=zeO fun j hj=>hno _ (waj hj);rw[<-hz,this]
  have e1:(z== -1)=true:=by rw[z1]; rfl
  rw[hfl];simp only[ZE,seval,zN,e1,waa];refine⟨[0],[],?_⟩;simp only[ZE,seval]
 ·obtain⟨i0,rfl⟩: ∃i0:Nat,z=(i0:Int):=⟨z.toNat,by omega⟩;obtain⟨hi0,hp0,hmin⟩:=zql hz;have e1:((i0:Int)== -1)=false:=beq_eq_false_iff_ne.2 (by omega);have hw0:=zaq (show i0<9223372036854775807 by omega);simp only[ZE,seval,zN,e1,waa,hw0];have hK0:((l.take (i0+1)).filter fun q=> !p q)=l.take i0:=by
   rw[filt_take hi0,if_pos hp0,wan];refine List.filter_eq_self.2 fun q hq=> ?_;obtain⟨j,hj,rfl⟩:=List.mem_take_iff_getElem.1 hq;rw[hmin j (by omega)]; rfl
  have hK0l:((l.take (i0+1)).filter fun q=> !p q).length =i0:=by rw[hK0,wak]; omega
  refine zgR (X:=List Place) (fun _ _=>[]) zat (l.length-(i0+1)) (fun r (A:List Place)=>A.length=l.length/\A.take ((l.take (i0+1+r)).filter fun q=> !p q).length =((l.take (i0+1+r)).filter fun q=> !p q)/\((l.take (i0+1+r)).filter fun q=> !p q).length <=i0+r/\ ∀s,i0+1+r<=s->A[s]? =l[s]?)
   (fun r A=>([(0,.ar 0 l.length),(1,.d (.clo (.func g) [] [c])),(5,.d (eI (((l.take (i0+1+r)).filter fun q=> !p q).length :Nat))),(6,.d (eI ((i0+1+r:Nat):Int)))],[(0,.arr 166 3 .flat (A.map zaE))])) l ?_ ?_ ?_ (fun r A hr hJ=> ?_)
  ·refine⟨rfl,?_,by rw[Nat.add_zero,hK0l]; omega,fun _ _=>rfl⟩;rw[Nat.add_zero,hK0l,hK0]
  ·rw[Nat.add_zero,hK0l];simp only[ZE,seval]
  ·simp only[ZE,seval]
  obtain⟨hA1,hA2,hK1,hA3⟩:=hJ;rcases was r (l.length-(i0+1))with h | h
  ·have hr1:i0+1+r<l.length:=by omega
   have hlt:=zaw hr1;have hw:=zaq (show i0+1+r<9223372036854775807 by omega);have hB:i0+1+r<A.length:=by omega
   obtain⟨q,hq⟩:=zX (l[i0+1+r]);have hAq:A[i0+1+r]=q:=by
    have:=hA3 (i0+1+r) (Nat.le_refl _);rw[List.getElem?_eq_getElem hB,List.getElem?_eq_getElem hr1,hq]at this;exact Option.some.inj this
   have hc:=hf q (hq▸waj hr1);have ht:=filt_take (p:=p) hr1;rw[hq,show i0+1+r+1=i0+1+(r+1)from rfl]at ht;have hix:i0+1+(r+1)=i0+1+r+1:=rfl;obtain⟨K,hK⟩:=zX (((l.take (i0+1+r)).filter fun q=> !p q));rw[hK]at hA2 hK1 ht;rw[hK];simp only[ZE,seval,zaE]at hc;simp only[ZE,seval,hlt,hA1,zai hB,zaa hB,hAq,zN,waa,zaE];refine⟨⟨by omega,by omega⟩,hr1,?_⟩;refine EFn.p ?_;simp only[ZE,seval];refine zar.i hc ?_;cases hp:p q with
   | true=>
    rw[hp,if_pos rfl,wan]at ht;simp only[ZE,seval,zN,hw];simp only[zep];refine⟨h,A,⟨hA1,by rw[ht]; exact hA2,by rw[ht]; omega,fun s hs=>hA3 s (by omega)⟩,?_⟩;rw[ht];simp only[ZE,seval,hix]
   | false=>
    rw[hp,if_neg (by simp)]at ht;have hKA:K.length<A.length:=(by omega);have hKl:K.length<l.length:=(by omega);have hw5:IntKind.i64.wrap ((K.length:Int)+1)=((K.length+1:Nat):Int):=zaq (by omega);have hset:(A.map zaE).set K.length (zaE q)=(A.set K.length q).map zaE:=(by rw[List.map_set]);have hlen2:(K++[q]).length =K.length+1:=(by simp);simp only[ZE,seval,zaE]at hset;simp only[ZE,seval,zN,hw,zai hKl,hw5,zaa hKA,zaE,hset,waa,hA1];refine⟨hKl,?_⟩;simp only[zep];refine⟨h,A.set K.length q,⟨by rw[wap]; exact hA1,?_,by rw[ht,hlen2]; omega,fun s hs=> ?_⟩,?_⟩
    ·rw[ht,hlen2,List.set_eq_take_append_cons_drop,if_pos hKA,hA2];rw[show K++q::List.drop (K.length+1) A=(K++[q])++List.drop (K.length+1) A by simp];exact List.take_left' hlen2
    ·rw[List.getElem?_set_ne (by omega)];exact hA3 s (by omega)
    ·rw[ht,hlen2];simp only[ZE,seval,hix]
  ·have hr2:i0+1+r=l.length:=by omega
   have hge:decide (((i0+1+r:Nat):Int)<(l.length:Int))=false:=decide_eq_false (by omega);rw[hr2,List.take_length]at hA2 hK1;rw[hr2]at hge;rw[hr2,List.take_length];obtain⟨K,hK⟩:=zX ((l.filter fun q=> !p q));rw[hK]at hA2 hK1 ⊢;simp(maxSteps:=4000000) only[ZE,seval,zN,waa,hge,hA1,war];have hz:(A.map zaE).take K.length=K.map zaE:=by rw[<-List.map_take,hA2]
   have hd:(A.map zaE).drop l.length=[]:=List.drop_eq_nil_of_le (by rw[waa]; omega);have hKA:K.length<=l.length:=by omega
   rw[hz,hd,wan];have hl3:(K.map zaE++List.replicate (l.length-K.length) [D.lit (Value.string waq),D.lit (Value.int IntKind.i64 0),D.lit (Value.string waq)]).length =l.length:=by
    rw[wab,waa,List.length_replicate]; omega
   obtain⟨R,hR⟩:=zX (K.map zaE++List.replicate (l.length-K.length) [D.lit (Value.string waq),D.lit (Value.int IntKind.i64 0),D.lit (Value.string waq)]);rw[hR]at hl3 ⊢;have hRt:R.take K.length=K.map zaE:=by rw[<-hR]; exact List.take_left' (by rw[waa])
   rw[hl3];refine⟨⟨by omega,by omega,by omega,by omega⟩,⟨hKA,Nat.le_refl _⟩,⟨⟨rfl,by omega⟩,by omega,by omega⟩,?_⟩;refine⟨[0],[],?_⟩;simp only[ZE,seval,hl3,List.drop_zero,Nat.sub_zero,hRt];exact⟨Nat.zero_le _,hKA⟩
theorem differ_c(a b:List Module)(ha:Parted a)(hb:Parted b)(p:Place):FnP prog 138 [.agg (zaE p),.ptr [.sl [[zdl a],[zdl b]]]] (.d (eB (decide (zbc a p=zbc b p)))) []:=by
 refine FnP.of_eC (own:=[]) (fun i=>if i=2001 then [.ord ⟨[(0,none),(1,none),(2,none),(3,none),(4,none),(5,none),(6,none),(7,none),(8,some [])]⟩]else []) zat func138 rfl call138 ntmps138 (zle rfl) results138 (fun hok=> ?_);have ec:=zwT a b ha hb p;obtain⟨A,hA⟩:=zX (zdl a);obtain⟨B,hB⟩:=zX (zdl b);rw[hA,hB]at ec ⊢;simp only[ZE,seval,zaE]at ec;simp only[ZE,seval,zN,zaE];refine⟨by kernel_rfl,zaz.i ec ?_⟩;simp only[ZE,seval,zN]
def placesR(a b:List Module):AV:=if [a,b].all ze8=true then .tup [.d (.sl ((zc0 a b).map zaE)),.d (eI 0)]else .tup [.d (.sl []),.d (eI 1)]
theorem places_c(a b:List Module)(ha:Sz a)(hb:Sz b)(hl:([a,b].flatMap zey).length <=1000000):FnP prog 86 [.agg [zax a],.agg [zax b]] (placesR a b) []:=by
 refine FnP.of_eC (own:=[]) (fun i=>if i=1004 then [.frz 6]else []) zat func86 rfl call86 ntmps86 (zle rfl) results86 (fun hok=> ?_);have oc:=zrN [a,b] (fun f hf=>by simp only[wah,wao,or_false]at hf; rcases hf with rfl | rfl <;> assumption) (by simp);unfold openR at oc;unfold placesR;simp only[wae,wac]at oc;cases hp:[a,b].all ze8 with
 | false=>
  rw[hp]at oc;simp only[ZE,seval,Bool.false_eq_true]at oc;simp(maxSteps:=200000) only[ZE,seval,zN,Bool.false_eq_true];refine EFn.p ?_;simp only[ZE,seval];refine zar.i oc ?_;simp(maxSteps:=200000) only[ZE,seval,zN,wac]
 | true=>
  rw[hp]at oc;simp only[List.all_cons,List.all_nil,Bool.and_true,wau]at hp;have pa:=(zbU _).1 hp.1;have pb:=(zbU _).1 hp.2;have ac:=allp_o [a,b] (by omega) (by simp);have hA:(zoQ [a,b]).length <=1000000:=wat (zgA (by
   have:=Srt.nodup zlZ (zn1 [a,b]);rwa [List.map_id]at this) fun p hp=>(zgy zlZ).1 hp) hl
  have hdl:=delQ_c (zoQ [a,b]) 138 (.ptr [.sl [[zdl a],[zdl b]]]) (fun p=>decide (zbc a p=zbc b p)) (fun p _=>differ_c a b pa pb p) (by omega);have hpf:((zoQ [a,b]).filter fun q=> !decide (zbc a q=zbc b q))=zc0 a b:=by
   unfold zc0;refine List.filter_congr fun p _=> ?_;simp only[ne_eq,decide_not]
  rw[hpf]at hdl;obtain⟨A,hA'⟩:=zX (zdl a);obtain⟨B,hB'⟩:=zX (zdl b);simp only[wae,wac]at ac;rw[hA',hB']at oc hdl ac;obtain⟨L,hL⟩:=zX (zoQ [a,b]);rw[hL]at ac hdl hA;simp only[ZE,seval]at oc;simp(maxSteps:=200000) only[ZE,seval,zN];refine EFn.p ?_;simp only[ZE,seval];refine zar.i oc ?_;simp(maxSteps:=200000) only[ZE,seval,zN];refine EFn.gV [(90,90)] ac ?_ ?_
  ·simp only[ZE,seval]
  rintro V ol new ⟨rfl,rfl,rfl⟩;simp(maxSteps:=200000) only[ZE,seval,zN,waa];refine EFn.gV [(0,90)] hdl ?_ ?_
  ·simp only[ZE,seval]
  rintro V ol new ⟨rfl,rfl,rfl⟩;simp(maxSteps:=200000) only[ZE,seval,zN,waa]
def wkL:List D->List D->Prop
 | [],[]=>True
 | a::l,b::r=>wkD a b/\wkL l r
 | _,_=>False
theorem wkL_cells{W:World}{F:Nat->Prop}: ∀(l r:List D) (b off:Nat),wkL l r->zbd W F l b off->zbd W F r b off
 | [],[],_,_,_,_=>by simp only[zbd]
 | a::l,c::r,b,off,h,g=>by
  simp only[zbd]at g ⊢;obtain⟨⟨v,h1,h2⟩,h3⟩:=g;exact⟨⟨v,h1,h.1 _ _ _ h2⟩,wkL_cells l r b (off+1) h.2 h3⟩
 | [],_::_,_,_,h,_=>h.elim
 | _::_,[],_,_,h,_=>h.elim
theorem wkL_len: ∀(l r:List D),wkL l r->l.length=r.length
 | [],[],_=>rfl
 | _::l,_::r,h=>by rw[wad,wad,wkL_len l r h.2]
 | [],_::_,h=>h.elim
 | _::_,[],h=>h.elim
theorem wk_rows{α:Type}{f g:α->List D}(h: ∀m,wkL (f m) (g m))(l:List α):wkD (.sl (l.map f)) (.sl (l.map g)):=fun W F v hv=>by
 have key: ∀(l:List α) (k b off:Nat),zbJ W F k (l.map f) b off->zbJ W F k (l.map g) b off:=by
  intro l
  induction l with
  | nil=>intro k b off _; simp only[wac,zbJ]
  | cons m l ih=>
   intro k b off hr;simp only[wae,zbJ]at hr ⊢;exact⟨⟨by rw[<-wkL_len _ _ (h m)]; exact hr.1.1,wkL_cells _ _ _ _ (h m) hr.1.2⟩,ih k b _ hr.2⟩
 simp only[Rd,waa]at hv ⊢;obtain⟨⟨ad,cap,e1,e2,e3⟩,e4⟩:=hv;refine⟨⟨ad,cap,e1,e2,fun hn=> ?_⟩,e4⟩;obtain⟨bb,off,k,f1,f2,f3⟩:=e3 hn;exact⟨bb,off,k,f1,f2,key l k bb off f3⟩
def zuY(m:Module):List D:=[eS m.name,eS m.clock,zd5 m.params,if m.items.isEmpty=true then ztw else zbR m.items]
theorem mRow_wk(m:Module):wkL (zuY m) (zaC m):=by
 refine⟨zjX _,zjX _,zjX _,?_,trivial⟩;cases h:m.items with
 | nil=>exact wk_nil
 | cons x r=>exact zjX _
theorem FnP.post{P:Program}{f:FuncId}{ds:List D}{V V':AV}{os:List AO}(h:FnP P f ds V os)(hw: ∀O W F η v,zaL O W F η V v->zaL O W F η V' v):FnP P f ds V' os:=
 ⟨h.1,fun W F vs hF hvs=>(h.2 W F vs hF hvs).mono fun e W' ⟨v,F',η,S,h1,h2,h3⟩=>⟨v,F',η,S,h1,h2,hw _ _ _ _ _ h3⟩⟩
def eMR(l:List Module):D:=.sl (l.map zuY)
theorem eMR_wk(l:List Module):wkD (eMR l) (zax l):=wk_rows mRow_wk l
theorem validR_c(l:List Module)(hS:Small l):FnP prog 44 [.agg [eMR l]] (.d (eB (zbi l))) []:=
 (zfs l hS).weak fun W F vs h=>by
  simp only[zav,Rd]at h ⊢;obtain⟨v,r,rfl,⟨ws,rfl,u,s,rfl,h1,h2⟩,h3⟩:=h;exact⟨_,_,rfl,⟨_,rfl,_,_,rfl,eMR_wk l _ _ _ h1,h2⟩,h3⟩
def zg4(acc:List Module):Bool:=match acc.getLast? with | some w=> !w.items.isEmpty | none=>false
def ownA(acc:List Module):OL:=[(100,.arr 53 4 .flat (acc.map zuY))]
def ownB(B:List Module)(w:Module):OL:=[(100,.arr 53 4 (.deep [] [(B.length*4+3,.ar 64 w.items.length)]) ((B++[{w with items:=[]}]).map zuY)),(64,.arr 64 35 .flat (w.items.map zaK))]
def ownS(acc:List Module):OL:=match acc.getLast? with
 | some w=>if w.items.isEmpty=true then ownA acc else ownB acc.dropLast w
 | none=>ownA acc
theorem ztM{acc:List Module}(h:zg4 acc=false):ownS acc=ownA acc:=by
 unfold zg4 at h;unfold ownS;cases hl:acc.getLast? with
 | none=>rfl
 | some w=>
  rw[hl]at h;simp only[Bool.not_eq_false']at h;simp only[h,if_true]
theorem ztN{B:List Module}{w:Module}(h:w.items≠[]):ownS (B++[w])=ownB B w:=by
 have:w.items.isEmpty=false:=by cases hw:w.items with | nil=>exact absurd hw h | cons _ _=>rfl
 unfold ownS;simp[List.getLast?_concat,this]
theorem zpu{B:List Module}{w:Module}:zg4 (B++[w])= !w.items.isEmpty :=by unfold zg4; simp[List.getLast?_concat]
theorem zlw{acc:List Module}(h:zg4 acc=true): ∃B w,acc=B++[w]/\w.items≠[]:=by
 rcases List.eq_nil_or_concat acc with e | ⟨B,w,e⟩
 ·rw[e]at h; cases h
 ·rw[List.concat_eq_append]at e;subst e;rw[zpu]at h;exact⟨B,w,rfl,fun hw=>by rw[hw]at h; cases h⟩
theorem build_ne{g:zrY}{ps:List Place}(hs:Srt ltQ id ps)(hg:Shape g)(hc: ∀p,g p≠none->p∈ps){n:Nat}(hn:n<ps.length)(hz:ps[n].part ≠zc7)(hgp:g ps[n]≠none):build g (ps.take n)≠[]:=by
 intro he;have ih:=zoU hs hg hc n (by omega);rw[he]at ih;obtain⟨m,hm⟩:=Option.ne_none_iff_exists'.1 hgp;obtain⟨x,rfl,h2,h3⟩:=hg.it _ m hm hz;have hh:=hg.head _ _ hm;have hlh:ltQ (zbB ps[n].module) ps[n]=true:=by
  unfold ltQ zbB;simp only[Bool.or_eq_true,wau,decide_true,true_and];right;rw[<-h2]; exact zzc h3
 obtain⟨j,hj,e⟩:=List.getElem_of_mem (hc _ hh);have hjn:j<n:=by
  rcases was j n with hjn | hjn
  ·exact hjn
  ·exfalso;rcases Nat.eq_or_lt_of_le hjn with e1 | hjn
   ·subst e1; rw[<-e,zlZ.irr]at hlh; cases hlh
   ·have:=(List.pairwise_iff_getElem.1 hs) n j hn hj hjn;simp only[id]at this;rw[<-e,zlZ.asymm this]at hlh; cases hlh
 obtain⟨c,hcc⟩:=Option.ne_none_iff_exists'.1 hh;have:(zbB ps[n].module,c)∈(ps.take n).filterMap (entG g):=by
  rw[List.mem_filterMap];exact⟨ps[j],List.mem_take_iff_getElem.2 ⟨j,by omega,rfl⟩,by rw[e]; simp[entG,hcc]⟩
 rw[<-ih]at this;cases this
theorem ent_len(l:List Module):l.length<=(ent l).length /\ ∀m∈l,m.items.length<=(ent l).length :=by
 induction l with
 | nil=>exact⟨Nat.le_refl _,fun m hm=>by cases hm⟩
 | cons a l ih=>
  have h1:(ent (a::l)).length =1+a.items.length+(ent l).length :=by
   show(zmp a++ent l).length =_;rw[wab];simp only[zmp,wad,waa];omega
  refine⟨by rw[h1,wad]; have:=ih.1; omega,fun m hm=> ?_⟩;rw[h1];rcases List.mem_cons.1 hm with rfl | hm
  ·omega
  ·have:=ih.2 m hm; omega
theorem build_len{g:zrY}{ps:List Place}(hs:Srt ltQ id ps)(hg:Shape g)(hc: ∀p,g p≠none->p∈ps){n:Nat}(hn:n<=ps.length):(build g (ps.take n)).length <=n/\ ∀m∈build g (ps.take n),m.items.length<=n:=by
 have ih:=zoU hs hg hc n hn;have hl:=ent_len (build g (ps.take n));have h2:(ent (build g (ps.take n))).length <=n:=by
  rw[ih];exact wat (List.length_filterMap_le _ _) (by rw[wak]; omega)
 exact⟨by omega,fun m hm=>by have:=hl.2 m hm; omega⟩
theorem build_succ(g:zrY)(ps:List Place)(n:Nat)(h:n<ps.length):build g (ps.take (n+1))=zrm g (build g (ps.take n)) ps[n]:=by
 unfold build;rw[wai h,List.foldl_append];rfl
theorem zpart_eqB(p:Part):(p.kind.val==0&&decide (p.name.val=waq))=decide (p=zc7):=by
 have he:decide (p.name.val=waq)=decide (p.name=emp):=decide_eq_decide.2 ⟨fun e=>Subtype.ext e,fun e=>by rw[e]; rfl⟩;rw[he,Bool.eq_iff_iff];simp only[wau,decide_eq_true_eq,beq_iff_eq];obtain⟨⟨k,hk⟩,n⟩:=p;simp only[zc7,Part.mk.injEq];exact⟨fun⟨h1,h2⟩=>⟨Subtype.ext h1,h2⟩,fun⟨h1,h2⟩=>⟨congrArg Subtype.val h1,h2⟩⟩
theorem mergeR_c(b x y:List Module)(hb:Fl b)(hx:Fl x)(hy:Fl y)(zb:Sz b)(zx:Sz x)(zy:Sz y)(hl:([b,x,y].flatMap zey).length <=1000000)(hS:zdy b x y=[]->Small (zbA b x y)):FnP prog 91 [.agg [zax b],.agg [zax x],.agg [zax y]] (.tup [.d (.agg [eMR (zbk b x y).f]),.d (.sl ((zbk b x y).l.map zaE)),.d (eI (zbk b x y).e)]) []:=by
 refine FnP.of_eC (own:=[]) (fun i=>if i=7 then [.adB 12 0 100 53 4]else if i=1018 then _root_.cond (zg4 (zbA b x y)) [.frz 64,.toF 100 ((zbA b x y).length -1) 3,.frz 100] [.frz 100]else []) zat func91 rfl call91 ntmps91 (zle rfl) results91 (fun hok=> ?_);have oc:=zrN [b,x,y] (fun f hf=>by simp only[wah,wao,or_false]at hf; rcases hf with rfl | rfl | rfl <;> assumption) (by simp);have hall:[b,x,y].all ze8=true:=by simp only[List.all_cons,List.all_nil,(zbU _).2 hb.part,(zbU _).2 hx.part,(zbU _).2 hy.part,Bool.and_true]
 unfold openR at oc;rw[hall]at oc;simp only[wae,wac,if_true]at oc;have cc:=conflicts_c b x y hb.part hx.part hy.part hl;have ac:=allp_c [b,x,y] (by omega) (by simp);have hAl:(zoQ [b,x,y]).length <=1000000:=wat (zgA (by
  have:=Srt.nodup zlZ (zn1 [b,x,y]);rwa [List.map_id]at this) fun p hp=>(zgy zlZ).1 hp) hl
 have mcA:=merged_c b x y hb.part hx.part hy.part;unfold zbk;have hcl:((zdy b x y).map zaE).length =(zdy b x y).length :=waa _;by_cases hc:zdy b x y=[]
 ·have hsh:=zvK hb hx hy hc;have hmem: ∀p,zfF (zbc b) (zbc x) (zbc y) p≠none->p∈zoQ [b,x,y]:=fun p hp=>zrK hb hx hy hp;have hsr:=zn1 [b,x,y];have hmf:zbA b x y=build (zfF (zbc b) (zbc x) (zbc y)) (zoQ [b,x,y]):=rfl;have vc:=validR_c (zbA b x y) (hS hc);rw[if_neg (fun h=>h hc)];rw[hc]at cc;have hex:=zwD b x y;unfold eC3 at cc mcA;obtain⟨B,hB⟩:=zX (zdl b);obtain⟨X,hX⟩:=zX (zdl x);obtain⟨Y,hY⟩:=zX (zdl y);rw[hB,hX,hY]at oc cc mcA;simp only[wae,wac,hB,hX,hY]at ac;obtain⟨g,hg⟩:=zX (zfF (zbc b) (zbc x) (zbc y));rw[hg]at hsh hmem hmf mcA hex;obtain⟨ps,hps⟩:=zX (zoQ [b,x,y]);rw[hps]at hmem hsr hmf ac hAl;obtain⟨M,hM⟩:=zX (zbA b x y);rw[hM]at hmf vc ⊢;simp only[ZE,seval,wac]at oc cc ac;simp only[ZE,seval,zN,wac];refine EFn.p ?_;simp only[ZE,seval];refine zar.i oc ?_;simp only[ZE,seval,zN];refine EFn.p ?_;simp only[ZE,seval];refine zar.i cc ?_;simp only[ZE,seval,zN,wag];refine EFn.p ?_;simp only[ZE,seval];refine zar.i ac ?_;simp only[ZE,seval,zN,waa];refine zgR (X:=List Module) (fun acc i=>if i=1016 then _root_.cond (zg4 acc) [.frz 64,.toF 100 (acc.length-1) 3] []else if i=1012 then _root_.cond (zg4 acc) [] [.toD 100 (acc.length-1) 3 ztw]else if i=2013 then [.flt ⟨[(0,none),(1,none),(2,none),(3,none),(4,none),(5,none),(6,none),(7,some [0]),(8,none),(9,none),(10,some [])]⟩ ⟨[],[]⟩]else []) zat ps.length (fun i acc=>acc=build g (ps.take i)) (fun i acc=>([(6,.bp 6 0),(9,.d (.sl [[B],[X],[Y]])),(12,.bp 12 0),(38,.d (.sl (ps.map zaE))),(39,.d (eI ps.length)),(40,.d (eI i))],(6,.box [.nils])::(12,.box [.ar 100 acc.length])::ownS acc)) [] rfl ?_ ?_ (fun i acc hi hI=> ?_)
  ·simp only[ZE,seval]
  ·simp only[ZE,seval,ownS,ownA,List.getLast?_nil,wac]
  obtain⟨hbl1,hbl2⟩:=build_len hsr hsh hmem hi;rw[<-hI]at hbl1 hbl2;have hal:acc.length<=1000000:=by omega
  rcases was i ps.length with h | h
  ·have hw:=zaq (show i<9223372036854775807 by omega);have hsu:=build_succ g ps i h;rw[<-hI]at hsu;have hne:=build_ne hsr hsh hmem h;rw[<-hI]at hne;obtain⟨p,hp⟩:=zX (ps[i]);rw[hp]at hsu hne;have mc:=mcA p;have hzp:=zpart_eqB p.part;obtain⟨d,hd⟩:=zX (decide (p.part=zc7));rw[hd]at hzp;cases hgp:g p with
   | none=>
    have hnx:build g (ps.take (i+1))=acc:=(by rw[hsu]; simp[zrm,hgp]);obtain⟨a1,a2,a3,a4,e1,p1,p2,p3,p4⟩:=hex p;rw[hgp]at mc e1;rw[e1]at mc;have hsm:(none:Option Module).isSome =false:=rfl;simp only[ZE,seval,zaE]at mc;cases ho:zg4 acc with
    | false=>
     rw[ztM ho];simp only[ZE,seval,ownA,zaw h,zai h,zaa h,hp,zaE,zN,waa];refine EFn.p ?_;simp only[ZE,seval];refine zar.i mc ?_;simp only[ZE,seval,zN,hsm,hw];refine⟨⟨p1,p2,p3,p4⟩,?_⟩;simp only[zep];refine⟨h,acc,hnx.symm,?_⟩;rw[ztM ho];simp only[ZE,seval,ownA]
    | true=>
     obtain⟨B',w,rfl,hwi⟩:=zlw ho;rw[ztN hwi];simp only[ZE,seval,ownB,zaw h,zai h,zaa h,hp,zaE,zN,waa];refine EFn.p ?_;simp only[ZE,seval];refine zar.i mc ?_;simp only[ZE,seval,zN,hsm,hw];refine⟨⟨p1,p2,p3,p4⟩,?_⟩;simp only[zep];refine⟨h,B'++[w],hnx.symm,?_⟩;rw[ztN hwi];simp only[ZE,seval,ownB]
   | some u=>
    rw[hgp]at mc;have hsm:(some u).isSome =true:=rfl;cases d with
    | true=>
     have hz:p.part=zc7:=of_decide_eq_true hd;obtain⟨_,hui⟩:=hsh.hd p u hgp hz;have hnx:build g (ps.take (i+1))=acc++[u]:=(by rw[hsu]; simp[zrm,hgp,hz]);have hcr:zsf (some u)= .agg (zuY u):=(by unfold zsf zuY; simp[eM,cM,hui]);have hmr:zuY u=[eS u.name,eS u.clock,zd5 u.params,ztw]:=(by unfold zuY; simp[hui]);have hof:zg4 (acc++[u])=false:=(by rw[zpu,hui]; rfl);rw[hcr,hmr]at mc;simp only[ZE,seval,zaE,ztw]at mc;cases ho:zg4 acc with
     | false=>
      rw[ztM ho];simp only[ZE,seval,ownA,zaw h,zai h,zaa h,hp,zaE,zN,waa];refine EFn.p ?_;simp only[ZE,seval];refine zar.i mc ?_;simp only[ZE,seval,zN,hsm,hw,hzp,ho,waa];refine⟨⟨by omega,by omega⟩,by rw[wab,waa]; rfl,?_⟩;simp only[zep];refine⟨h,acc++[u],hnx.symm,?_⟩;rw[ztM hof];simp only[ZE,seval,ownA,waf,wae,wac,hmr,ztw,wab,wad,wag,Nat.zero_add,waa]
     | true=>
      obtain⟨B',w,rfl,hwi⟩:=zlw ho;rw[ztN hwi];obtain⟨C,hC⟩:=zX (B'++[{w with items:=[]}]);have hCl:C.length=B'.length+1:=(by rw[<-hC]; simp);have hCj:B'.length<C.length:=(by omega);have hCw:C[B'.length]={w with items:=[]}:=(by subst hC; simp);have hCs:(C.map zuY).set B'.length (zuY w)=(B'++[w]).map zuY:=(by rw[<-hC]; simp[List.set_append_right]);have hwe:w.items.isEmpty=false:=by cases hh:w.items with | nil=>exact absurd hh hwi | cons _ _=>rfl
      have hrw:zuY w=[eS w.name,eS w.clock,zd5 w.params,zbR w.items]:=(by unfold zuY; simp[hwe]);have hrw0:zuY {w with items:=[]}=[eS w.name,eS w.clock,zd5 w.params,ztw]:=rfl;have hBl:(B'++[w]).length =B'.length+1:=(by simp);have hBm:B'.length+1-1=B'.length:=rfl;rw[hrw]at hCs;obtain⟨A',hA'⟩:=zX (B'++[w]);rw[hA']at hCs hBl ho hnx hof hal ⊢;simp only[ZE,seval]at hCs;simp only[ownB,hC];simp only[ZE,seval,hBl,zaw h,zai h,zaa h,hp,zaE,zN,waa];refine EFn.p ?_;simp only[ZE,seval];refine zar.i mc ?_;simp only[ZE,seval,zN,hsm,hw,hzp,ho,hBl,hBm,waa,hCl,zaa hCj,hCw,hrw0,ztw,hCs];refine⟨by omega,⟨by omega,by omega⟩,by rw[wab,waa,hBl]; rfl,?_⟩;simp only[zep];refine⟨h,A'++[u],hnx.symm,?_⟩;rw[ztM hof];simp only[ZE,seval,ownA,waf,wae,wac,hmr,ztw,wab,wad,wag,Nat.zero_add,waa,hBl]
    | false=>
     have hz:p.part≠zc7:=of_decide_eq_false hd;obtain⟨x,rfl,hpx,hkx⟩:=hsh.it p u hgp hz;have hacc:=hne hz (by rw[hgp]; simp);obtain⟨B',w,hBw⟩: ∃B' w,acc=B'++[w]:=by
      rcases List.eq_nil_or_concat acc with e | ⟨B',w,e⟩
      ·exact absurd e hacc
      ·exact⟨B',w,by rw[e,List.concat_eq_append]⟩
     have hnx:build g (ps.take (i+1))=B'++[{w with items:=w.items++[x]}]:=by
      rw[hsu,hBw];simp only[zrm,hgp,if_neg hz];exact zr3 _ _ _
     have hwx:w.items++[x]≠[]:=(by simp);have hcr:zsf (some (itM x))= .agg [.lit (.string waq),.lit (.string waq),ztw,.sl [zaK x]]:=eM_it x;rw[hcr]at mc;simp only[ZE,seval,zaE,ztw]at mc;have hwl:w.items.length<=1000000:=(by have:=hbl2 w (by rw[hBw]; simp); omega);obtain⟨C,hC⟩:=zX (B'++[{w with items:=[]}]);have hCl:C.length=B'.length+1:=(by rw[<-hC]; simp);have hCj:B'.length<C.length:=(by omega);have hCw:C[B'.length]={w with items:=[]}:=(by subst hC; simp);have hrw0:zuY {w with items:=[]}=[eS w.name,eS w.clock,zd5 w.params,ztw]:=rfl;have hBm:B'.length+1-1=B'.length:=rfl;have hwi1:IntKind.i64.wrap (((B'.length+1:Nat):Int)-1)=(B'.length:Int):=(by rw[show((B'.length+1:Nat):Int)-1=(B'.length:Int) by omega]; exact zaQ (by rw[hBw]at hal; simp at hal; omega) (by rw[hBw]at hal; simp at hal; omega));have hBn:B'.length<B'.length+1:=Nat.lt_succ_self _;have hal':B'.length+1<=1000000:=(by rw[hBw]at hal; simpa using hal);cases ho:zg4 acc with
     | false=>
      have hw0:w.items=[]:=by
       rw[hBw,zpu]at ho;cases hh:w.items with
       | nil=>rfl
       | cons _ _=>rw[hh]at ho; cases ho
      have hwe:w={w with items:=[]}:=(by cases w; simp only at hw0; subst hw0; rfl);have hBC:acc=C:=(by rw[hBw,<-hC,<-hwe]);rw[ztM ho];rw[hBC]at ho ⊢;simp only[ZE,seval,ownA,zaw h,zai h,zaa h,hp,zaE,zN,waa];refine EFn.p ?_;simp only[ZE,seval];refine zar.i mc ?_;simp only[ZE,seval,zN,hsm,hw,hzp,ho,hCl,hBm,waa,zaa hCj,hCw,hrw0,hwi1,zai hBn,ztw];refine⟨hBn,by kernel_rfl,hBn,hBn,?_⟩;simp only[zep];refine⟨h,B'++[{w with items:=w.items++[x]}],hnx.symm,?_⟩;rw[ztN hwx];simp only[ownB,hC];simp only[ZE,seval,zN,hw0,wab,waf,wae,wac,wad,wag,waa]
     | true=>
      have hw0:w.items≠[]:=fun e=>by rw[hBw,zpu,e]at ho; cases ho
      have hBl:(B'++[w]).length =B'.length+1:=(by simp);rw[hBw]at ho ⊢;rw[ztN hw0];simp only[ownB,hC];obtain⟨A',hA'⟩:=zX (B'++[w]);rw[hA']at ho hBl ⊢;simp only[ZE,seval,hBl,zaw h,zai h,zaa h,hp,zaE,zN,waa];refine EFn.p ?_;simp only[ZE,seval];refine zar.i mc ?_;simp only[ZE,seval,zN,hsm,hw,hzp,ho,hCl,hBl,hBm,waa,zaa hCj,hCw,hrw0,hwi1,zai hBn];refine⟨by kernel_rfl,hBn,⟨by omega,by omega⟩,⟨hBn,by rw[wab,waa]; rfl⟩,?_⟩;simp only[zep];refine⟨h,B'++[{w with items:=w.items++[x]}],hnx.symm,?_⟩;rw[ztN hwx];simp only[ownB,hC];simp only[ZE,seval,zN,wab,waf,wae,wac,wad,wag,waa]
  ·have:i=ps.length:=by omega
   subst this;rw[List.take_length,<-hmf]at hI;subst hI;cases ho:zg4 acc with
   | false=>
    rw[ztM ho];cases hv:zbi acc with
    | true=>
     rw[hv]at vc;simp only[ZE,seval,eMR]at vc;simp only[ZE,seval,zaI h,zN,waa,ho,hv,ownA];refine EFn.p ?_;simp only[ZE,seval];refine zar.i vc ?_;simp only[ZE,seval,zN,eMR,wac]
    | false=>
     rw[hv]at vc;simp only[ZE,seval,eMR]at vc;simp only[ZE,seval,zaI h,zN,waa,ho,hv,ownA];refine EFn.p ?_;simp only[ZE,seval];refine zar.i vc ?_;simp only[ZE,seval,zN,eMR,wac]
   | true=>
    obtain⟨B',w,rfl,hwi⟩:=zlw ho;rw[ztN hwi];obtain⟨C,hC⟩:=zX (B'++[{w with items:=[]}]);have hCl:C.length=B'.length+1:=(by rw[<-hC]; simp);have hCj:B'.length<C.length:=(by omega);have hCw:C[B'.length]={w with items:=[]}:=(by subst hC; simp);have hCs:(C.map zuY).set B'.length (zuY w)=(B'++[w]).map zuY:=(by rw[<-hC]; simp[List.set_append_right]);have hwe:w.items.isEmpty=false:=by cases hh:w.items with | nil=>exact absurd hh hwi | cons _ _=>rfl
    have hrw:zuY w=[eS w.name,eS w.clock,zd5 w.params,zbR w.items]:=(by unfold zuY; simp[hwe]);have hrw0:zuY {w with items:=[]}=[eS w.name,eS w.clock,zd5 w.params,ztw]:=rfl;have hBl:(B'++[w]).length =B'.length+1:=(by simp);have hBm:B'.length+1-1=B'.length:=rfl;have hBn':B'.length<B'.length+1:=Nat.lt_succ_self _;rw[hrw]at hCs;obtain⟨A',hA'⟩:=zX (B'++[w]);simp only[ownB,hC];rw[hA']at hCs hBl ho vc ⊢;simp only[ZE,seval]at hCs;cases hv:zbi A' with
    | true=>
     rw[hv]at vc;simp only[ZE,seval,eMR]at vc;simp only[ZE,seval,zaI h,zN,hBl,hBm,waa,ho,hv,hCl,zaa hCj,hCw,hrw0,ztw,hCs];refine⟨hBn',?_⟩;refine EFn.p ?_;simp only[ZE,seval];refine zar.i vc ?_;simp only[ZE,seval,zN,eMR,wac]
    | false=>
     rw[hv]at vc;simp only[ZE,seval,eMR]at vc;simp only[ZE,seval,zaI h,zN,hBl,hBm,waa,ho,hv,hCl,zaa hCj,hCw,hrw0,ztw,hCs];refine⟨hBn',?_⟩;refine EFn.p ?_;simp only[ZE,seval];refine zar.i vc ?_;simp only[ZE,seval,zN,eMR,wac]
 ·have g0:decide (((zdy b x y).length :Int)>0)=true:=decide_eq_true (by have:=List.length_pos_iff.2 hc; omega);have g0':decide (0<((zdy b x y).length :Int))=true:=g0;rw[if_pos hc];obtain⟨C,hC⟩:=zX (zdy b x y);rw[hC]at cc g0 g0' ⊢;unfold eC3 at cc;obtain⟨B,hB⟩:=zX (zdl b);obtain⟨X,hX⟩:=zX (zdl x);obtain⟨Y,hY⟩:=zX (zdl y);rw[hB,hX,hY]at oc cc;simp only[ZE,seval]at oc cc;simp only[ZE,seval,zN,eMR,wac];refine EFn.p ?_;simp only[ZE,seval];refine zar.i oc ?_;simp only[ZE,seval,zN];refine EFn.p ?_;simp only[ZE,seval];refine zar.i cc ?_;simp only[ZE,seval,zN,g0,g0',waa]
theorem listed_c(l:List Place)(hl:l.length<=1000000):FnP prog 87 [.sl (l.map zaE)] (.d (.sl (l.map zaE))) []:=by
 refine FnP.of_eC (own:=[]) (fun _=>[]) zat func87 rfl call87 ntmps87 (zle rfl) results87 (fun hok=> ?_);simp only[ZE,seval,zN,waa];refine za1 (fun i=>if i=2005 then [.ord ⟨[(0,none),(1,none),(2,none),(3,none),(4,none),(5,none),(6,none),(7,none),(8,none),(9,none),(10,none),(11,none),(12,none),(13,some []),(14,some [])]⟩]else []) zat l.length (fun _=>True) (fun i=>([(0,.d (.sl (l.map zaE))),(3,.ar 5 i),(4,.d (eI i))],[(5,.arr 75 3 .flat ((l.take i).map zaE))])) trivial ?_ ?_ (fun i hi _=> ?_)
 ·simp only[ZE,seval]
 ·simp only[ZE,seval,List.take_zero,wac]
 rcases was i l.length with h | h
 ·have hw:=zaq (show i<9223372036854775807 by omega);have hlt:(l.take i).length =i:=by rw[wak]; omega
  obtain⟨p,hp⟩:=zX (l[i]);rw[wai h,hp,waf,wae,wac];simp only[ZE,seval,zaw h,zai h,zaa h,hp,zN,waa,hlt,hw,zaE];exact⟨by kernel_rfl,⟨by omega,by omega⟩,h⟩
 ·have:i=l.length:=by omega
  subst this;simp only[ZE,seval,zaI h,zN,waa,List.take_length]
theorem samePl_c(a b:List Place):FnP prog 39 [.sl (a.map zaE),.sl (b.map zaE)] (.d (eB (decide (a=b)))) []:=by
 refine FnP.of_eC (own:=[]) (fun _=>[]) zat func39 rfl call39 ntmps39 (zle rfl) results39 (fun hok=> ?_);have hl:a.length<=9223372036854775807:=(za9 (zaM hok).1).1;by_cases hn:a.length=b.length
 ·have h0:((a.length:Int) !=(b.length:Int))=false:=by rw[hn]; exact bne_self_eq_false _
  simp only[ZE,seval,zN,waa,h0];refine za1 (fun _=>[]) zat a.length (fun i=>a.take i=b.take i) (fun i=>([(0,.d (.sl (a.map zaE))),(1,.d (.sl (b.map zaE))),(5,.d (eI i))],[])) rfl ?_ ?_ (fun i hi hI=> ?_)
  ·simp only[ZE,seval]
  ·simp only[ZE,seval]
  rcases was i a.length with h | h
  ·have hw:=zaq (show i<9223372036854775807 by omega);have h':i<b.length:=by omega
   obtain⟨p,hp⟩:=zX (a[i]);obtain⟨q,hq⟩:=zX (b[i]);have he:=zhN p q;have hst:a.take (i+1)=b.take (i+1)↔p=q:=by
    rw[wai h,wai h',hI,hp,hq];simp
   by_cases e:p=q
   ·rw[decide_eq_true e]at he;simp only[ZE,seval,zaw h,zai h,zai h',zaa h,zaa h',hp,hq,zN,waa,hw,zaE,he];exact⟨by kernel_rfl,h,hst.2 e⟩
   ·have hne:decide (a=b)=false:=decide_eq_false fun e'=>by subst e'; exact e (hp.symm.trans hq)
    rw[decide_eq_false e]at he;rw[hne];simp only[ZE,seval,zaw h,zai h,zai h',zaa h,zaa h',hp,hq,zN,waa,hw,zaE,he];exact(show zsx _ _ _=true from by kernel_rfl)
  ·have:i=a.length:=by omega
   subst this;have e:a=b:=by
    have:=hI;rwa [List.take_length,hn,List.take_length]at this
   rw[decide_eq_true e];simp only[ZE,seval,zaI h,zN,waa]
 ·have h0:((a.length:Int) !=(b.length:Int))=true:=by rw[bne_iff_ne]; omega
  have hne:decide (a=b)=false:=decide_eq_false fun e=>hn (by rw[e]);rw[hne];simp only[ZE,seval,zN,waa,h0]
theorem zpa(l:List Place)(p:Place):FnP prog 42 [.sl (l.map zaE),.agg (zaE p)] (.d (eB (decide (p∈l)))) []:=by
 refine FnP.of_eC (own:=[]) (fun _=>[]) zat func42 rfl call42 ntmps42 (zle rfl) results42 (fun hok=> ?_);have hl:l.length<=9223372036854775807:=(za9 (zaM hok).1).1;simp only[ZE,seval,zN,waa,zaE];refine za1 (fun _=>[]) zat l.length (fun i=>p∉l.take i) (fun i=>([(0,.d (.sl (l.map zaE))),(3,.bp 3 0),(5,.d (eI i))],[(3,.box [.d (eS p.module),.d (eI p.part.kind.1),.d (eS p.part.name)])])) (by simp) ?_ ?_ (fun i hi hI=> ?_)
 ·simp only[ZE,seval]
 ·simp only[ZE,seval,zaE]
 rcases was i l.length with h | h
 ·have hw:=zaq (show i<9223372036854775807 by omega);obtain⟨q,hq⟩:=zX (l[i]);have he:=zhN q p;by_cases e:q=p
  ·have hin:decide (p∈l)=true:=decide_eq_true (by rw[<-e,<-hq]; exact waj h);rw[decide_eq_true e]at he;rw[hin];simp only[ZE,seval,zaw h,zai h,zaa h,hq,zN,waa,hw,zaE,he];exact(show zsx _ _ _=true from by kernel_rfl)
  ·rw[decide_eq_false e]at he;simp only[ZE,seval,zaw h,zai h,zaa h,hq,zN,waa,hw,zaE,he];refine⟨by kernel_rfl,h,?_⟩;rw[wai h,hq,List.mem_append,List.mem_singleton];rintro(h1 | h1)
   ·exact hI h1
   ·exact e h1.symm
 ·have:i=l.length:=by omega
  subst this;rw[List.take_length]at hI;rw[decide_eq_false hI];simp only[ZE,seval,zaI h,zN,waa]
def zgP(s:Str)(n:Nat):Item:={zaU with kind:=⟨4,rfl⟩,name:=s,width:=⟨2,emp⟩,init:=⟨(n:Int),emp⟩,a:=.mk 14 s zbj zbj []}
theorem znx(s:Str)(n:Nat):FnP prog 84 [eS s,eI n] (.d (.agg (zaK (zgP s n)))) []:=by
 refine FnP.of_eC (own:=[]) (fun _=>[]) zat func84 rfl call84 ntmps84 (zle rfl) results84 (fun hok=> ?_);simp only[ZE,seval,zN,zgP,zaU,zbQ,Expr.op,Expr.name,Expr.k,Expr.w,Expr.args,zbj,emp,not_false_eq_true,wac]
def sMM:Str:=st [109]
def sCC:Str:=st [99]
theorem zvv(l:List Item):FnP prog 83 [.sl (l.map zaK)] (.d (.agg [zax [⟨sMM,sCC,[],l⟩]])) []:=by
 refine FnP.of_eC (own:=[]) (fun _=>[]) zat func83 rfl call83 ntmps83 (zle rfl) results83 (fun hok=> ?_);simp only[ZE,seval,zN,sMM,sCC,st,wae,wac]
def eGot(g:Got):List D:=[zax g.f,.sl (g.l.map zaE),eI g.e]
def zxF(a b:Got):Bool:=a.e==b.e&&zl6 a.f b.f&&decide (a.l=b.l)
theorem zhQ(a:Got):zxF a a=true:=by unfold zxF; rw[(zm3 a.f a.f).2 rfl]; simp
theorem zn0(a b:Got):FnP prog 36 [.agg (eGot a),.agg (eGot b)] (.d (eB (zxF a b))) []:=by
 refine FnP.of_eC (own:=[]) (fun i=>if i=2001 then [.chn]else []) zat func36 rfl call36 ntmps36 (zle rfl) results36 (fun hok=> ?_);have c1:=rsame_c a.f b.f;have c2:=samePl_c a.l b.l;unfold zxF;simp only[ZE,seval]at c1 c2;simp only[ZE,seval,zN,eGot];refine za3.i (fun _=>c1) ?_;simp only[ZE,seval,zN];refine za3.i (fun _=>c2) ?_;simp only[ZE,seval,zN]
theorem mergedL_c(b x y:List Module)(V:Got)(hV:V.l.length<=1000000)(mc:FnP prog 91 [.agg [zax b],.agg [zax x],.agg [zax y]] (.tup [.d (.agg [zax V.f]),.d (.sl (V.l.map zaE)),.d (eI V.e)]) []):FnP prog 37 [.agg [zax b,zax x,zax y]] (.d (.agg (eGot V))) []:=by
 refine FnP.of_eC (own:=[]) (fun i=>if i=2002 then [.ord ⟨[(0,none),(1,none),(2,none),(3,none),(4,none),(5,some [])]⟩]else []) zat func37 rfl call37 ntmps37 (zle rfl) results37 (fun hok=> ?_);have lc:=listed_c V.l hV;obtain⟨f,hf⟩:=zX (V.f);obtain⟨l,hl⟩:=zX (V.l);obtain⟨e,he⟩:=zX (V.e);unfold eGot;rw[hf,hl,he]at mc ⊢;rw[hl]at lc;simp only[ZE,seval]at mc lc;simp only[ZE,seval,zN];refine EFn.p ?_;simp only[ZE,seval,zN];refine zar.i mc ?_;simp only[ZE,seval,zN];refine⟨by kernel_rfl,zaz.i lc ?_⟩;simp only[ZE,seval,zN]
def zp7(l:List Place)(e:Int):List D:=[.sl (l.map zaE),eI e]
theorem placesL_c(a b:List Module)(l:List Place)(e:Int)(hl:l.length<=1000000)(mc:FnP prog 86 [.agg [zax a],.agg [zax b]] (.tup [.d (.sl (l.map zaE)),.d (eI e)]) []):FnP prog 34 [.agg [zax a],.agg [zax b]] (.d (.agg (zp7 l e))) []:=by
 refine FnP.of_eC (own:=[]) (fun _=>[]) zat func34 rfl call34 ntmps34 (zle rfl) results34 (fun hok=> ?_);have lc:=listed_c l hl;unfold zp7;simp only[ZE,seval]at mc lc;simp only[ZE,seval,zN];refine EFn.p ?_;simp only[ZE,seval,zN];refine zar.i mc ?_;simp only[ZE,seval,zN];refine EFn.p ?_;simp only[ZE,seval,zN];refine zar.i lc ?_;simp only[ZE,seval,zN]
theorem sideL_c(b x y:List Module)(p:Place)(n e:Int)(mc:FnP prog 96 [.agg [zax b],.agg [zax x],.agg [zax y],.agg (zaE p)] (.tup [.d (eI n),.d (eI e)]) []):FnP prog 40 [.agg [zax b,zax x,zax y],.agg (zaE p)] (.d (.agg [eI n,eI e])) []:=by
 refine FnP.of_eC (own:=[]) (fun _=>[]) zat func40 rfl call40 ntmps40 (zle rfl) results40 (fun hok=> ?_);unfold zaE at mc ⊢;simp only[ZE,seval]at mc;simp only[ZE,seval,zN];refine EFn.p ?_;simp only[ZE,seval,zN];refine zar.i mc ?_;simp only[ZE,seval,zN]
structure Gs (f:List Module):Prop where
 fl:Fl f
 len:f.length<=200
 items: ∀m∈f,m.items.length<=300
theorem Gi.gs{n:Nat}{f:List Module}(h:Gi n f)(hn:n<=100):Gs f:=⟨h.fl,by have:=h.len; omega,fun m hm=>by have:=(h.fine m hm).items; omega⟩
theorem Gs.sz{f:List Module}(h:Gs f):Sz f:=⟨by have:=h.len; omega,fun m hm=>by have:=h.items m hm; omega⟩
theorem Gs.keys{f:List Module}(h:Gs f):(zey f).length <=60200:=by
 have key: ∀l:List Module,(∀m∈l,m.items.length<=300)->(zey l).length <=l.length*301:=by
  intro l
  induction l with
  | nil=>intro _; simp[zey,ent]
  | cons m r ih=>
   intro hm;have h1:=ih fun q hq=>hm q (List.mem_cons_of_mem _ hq);have h2:=hm m (by simp);unfold zey ent at h1 ⊢;rw[wal,waf,wab];have e:((zmp m).map Prod.fst).length =m.items.length+1:=by simp[zmp]
   rw[e,wad,Nat.add_mul];omega
 exact wat (key f h.items) (Nat.mul_le_mul_right _ h.len)
theorem merge_g{b x y:List Module}(hb:Gs b)(hx:Gs x)(hy:Gs y)(hS:zdy b x y=[]->Small (zbA b x y)):FnP prog 91 [.agg [zax b],.agg [zax x],.agg [zax y]] (.tup [.d (.agg [zax (zbk b x y).f]),.d (.sl ((zbk b x y).l.map zaE)),.d (eI (zbk b x y).e)]) []:=by
 refine FnP.post (mergeR_c b x y hb.fl hx.fl hy.fl hb.sz hx.sz hy.sz (by have:=hb.keys; have:=hx.keys; have:=hy.keys; simp only[wal,wam,wab,wag]; omega) hS) fun O W F η v h=> ?_;simp only[zaL,zaN,Rd,zav]at h ⊢;obtain⟨vs,rfl,a,r,rfl,⟨us,rfl,u,w,rfl,h1,h2⟩,h3⟩:=h;exact⟨_,rfl,_,_,rfl,⟨_,rfl,_,_,rfl,eMR_wk _ _ _ _ h1,h2⟩,h3⟩
theorem all_len(l:List (List Module)):(zoQ l).length <=(l.flatMap zey).length :=zgA (by
 have:=Srt.nodup zlZ (zn1 l);rwa [List.map_id]at this) fun p hp=>(zgy zlZ).1 hp
theorem conf_len{b x y:List Module}(hb:Fl b)(hx:Fl x)(hy:Fl y):(zdy b x y).length <=(zoQ [b,x,y]).length :=by
 refine zgA ?_ fun q hq=> ?_
 ·have:=Srt.nodup zlZ (zjG zlZ ((zoQ [b,x,y]).flatMap (zee (zbc b) (zbc x) (zbc y))));rwa [List.map_id]at this
 ·have hd: ∀p,p∈zoQ [b,x,y]->zbB p.module∈zoQ [b,x,y]:=fun p hp=>by
   rw[zxe hb hx hy]at hp ⊢;exact hp.imp hb.head (.imp hx.head hy.head)
  rcases(zkm hb hx hy).1 hq with h | ⟨p,rfl,h⟩
  ·exact zpG hb hx hy h
  ·refine hd p ?_;rcases h.2.2.2 with h | h
   ·exact zrK hb hx hy h
   ·exact zpG hb hx hy h
theorem got_len{b x y:List Module}(hb:Gs b)(hx:Gs x)(hy:Gs y):(zbk b x y).l.length <=1000000:=by
 have h1:=conf_len hb.fl hx.fl hy.fl;have h2:=all_len [b,x,y];have h3:=hb.keys; have h4:=hx.keys; have h5:=hy.keys;simp only[wal,wam,wab,wag]at h2;unfold zbk;split
 ·show(zdy b x y).length <=_; omega
 ·split <;> exact Nat.zero_le _
theorem zz4{a b:List Module}(ha:Gs a)(hb:Gs b):(zc0 a b).length <=1000000:=by
 have h2:=all_len [a,b];have h3:=ha.keys; have h4:=hb.keys;simp only[wal,wam,wab,wag]at h2;have:=List.length_filter_le (fun p=>decide (zbc a p≠zbc b p)) (zoQ [a,b]);unfold zc0;omega
theorem znr{b x y:List Module}(hb:Gs b)(hx:Gs x)(hy:Gs y)(hS:zdy b x y=[]->Small (zbA b x y)):FnP prog 37 [.agg [zax b,zax x,zax y]] (.d (.agg (eGot (zbk b x y)))) []:=
 mergedL_c b x y _ (got_len hb hx hy) (merge_g hb hx hy hS)
theorem zhL{n:Nat}(hn:n<=40){b x y:List Module}(hb:Gi n b)(hx:Gi n x)(hy:Gi n y):FnP prog 37 [.agg [zax b,zax x,zax y]] (.d (.agg (eGot (zbk b x y)))) []:=
 znr (hb.gs (by omega)) (hx.gs (by omega)) (hy.gs (by omega)) (zq9 (by omega) hb hx hy)
theorem zij{a b:List Module}(ha:Gs a)(hb:Gs b):FnP prog 34 [.agg [zax a],.agg [zax b]] (.d (.agg (zp7 (zc0 a b) 0))) []:=by
 refine placesL_c a b _ _ (zz4 ha hb) ?_;have pc:=places_c a b ha.sz hb.sz (by have:=ha.keys; have:=hb.keys; simp only[wal,wam,wab,wag]; omega);have hall:[a,b].all ze8=true:=by simp only[List.all_cons,List.all_nil,(zbU _).2 ha.fl.part,(zbU _).2 hb.fl.part,Bool.and_true]
 unfold placesR at pc;rwa [if_pos hall]at pc
theorem ztt{b x y f:List Module}(h:zbk b x y=⟨f,[],0⟩):zdy b x y=[]/\zbA b x y=f:=by
 unfold zbk at h;split at h
 ·have:=congrArg Got.e h; cases this
 ·rename_i hc;refine⟨Classical.not_not.1 hc,?_⟩;split at h
  ·exact congrArg Got.f h
  ·have:=congrArg Got.e h; cases this
def exF(l:List Item):List Module:=[⟨sMM,sCC,[],l⟩]
def sE:Str:=st [115]
def sRr:Str:=st [114]
def plR:Place:=⟨sMM,⟨⟨4,rfl⟩,sRr⟩⟩
theorem xx1:zbk (exF [zgP sRr 0]) (exF [zgP sRr 1]) (exF [zgP sE 0,zgP sRr 0])=⟨exF [zgP sRr 1,zgP sE 0],[],0⟩:=by kernel_rfl
theorem xx2:zbk (exF [zgP sRr 0]) (exF [zgP sRr 1]) (exF [zgP sRr 2])=⟨[],[plR],170⟩:=by kernel_rfl
theorem xx3:zbk (exF [zgP sRr 0]) (exF [zgP sRr 1]) []=⟨[],[zbB sMM,plR],170⟩:=by kernel_rfl
theorem xx4:(zc0 (exF [zgP sRr 0]) (exF [zgP sE 0,zgP sRr 0])).length =1:=by kernel_rfl
theorem mergeBad_c(b x y:List Module)(zb:Sz b)(zx:Sz x)(zy:Sz y)(h:[b,x,y].all ze8=false):FnP prog 91 [.agg [zax b],.agg [zax x],.agg [zax y]] (.tup [.d (.agg [zax []]),.d (.sl []),.d (eI 1)]) []:=by
 refine FnP.of_eC (own:=[]) (fun _=>[]) zat func91 rfl call91 ntmps91 (zle rfl) results91 (fun hok=> ?_);have oc:=zrN [b,x,y] (fun f hf=>by simp only[wah,wao,or_false]at hf; rcases hf with rfl | rfl | rfl <;> assumption) (by simp);unfold openR at oc;rw[h]at oc;simp only[wae,wac]at oc;simp only[ZE,seval,Bool.false_eq_true]at oc;simp only[ZE,seval,zN,wac];refine EFn.p ?_;simp only[ZE,seval];refine zar.i oc ?_;simp only[ZE,seval,zN,wac]
theorem exReg_sz(s:Str)(n:Nat):sz (zgP s n).a +sz (zgP s n).b +sz (zgP s n).c <=50:=by
 have h1:sz (zgP s n).a =1:=sz_leaf _ _ _ _;have h2:sz (zgP s n).b =sz zbQ:=rfl;have h3:sz (zgP s n).c =sz zbQ:=rfl;have h4:sz zbQ=1:=sz_leaf _ _ _ _;omega
theorem gs_ex{l:List Item}(h:ze8 (exF l)=true)(hl:l.length<=50)(hx: ∀x∈l,∃s n,x=zgP s n):Gs (exF l)/\Small (exF l):=by
 refine⟨⟨⟨(zbU _).1 h,⟨fun m hm x hi=> ?_⟩⟩,by simp[exF],fun m hm=> ?_⟩,zeX (n:=60) (by omega) (by simp[exF]) fun m hm=> ?_⟩
 all_goals
  simp only[exF,List.mem_singleton]at hm;subst hm
 ·obtain⟨s,n,rfl⟩:=hx x hi;show(0:Int)<4;decide
 ·show l.length<=300; omega
 ·refine⟨by show l.length<=_; omega,by simp,fun x hi=> ?_,fun x hi=> ?_,fun x hi=> ?_⟩
  all_goals obtain⟨s,n,rfl⟩:=hx x hi
  ·have:=exReg_sz s n; omega
  ·exact Nat.zero_le _
  ·exact Nat.zero_le _
theorem conf_ne{b x y f:List Module}{p:Place}{l:List Place}{e:Int}(h:zbk b x y=⟨f,p::l,e⟩):zdy b x y≠[]:=fun hc=>by
 unfold zbk at h;rw[if_neg (fun h=>h hc)]at h;have:=congrArg Got.l h;split at this <;> cases this
def zmq:Item:=zgP sRr 0
def zuU:Item:=zgP sRr 1
def exR2:Item:=zgP sRr 2
def zvt:Item:=zgP sE 0
theorem xx5:zfo (zbc (exF [zmq])) (zbc (exF [zuU])) (zbc (exF [exR2])) plR=4:=by kernel_rfl
theorem xx6:zfo (zbc (exF [zmq])) (zbc (exF [zmq])) (zbc (exF [exR2])) plR=2:=by kernel_rfl
theorem xx7:[exF [zmq,zmq],[],[]].all ze8=false:=by kernel_rfl
theorem exs_reg(x:Item)(h:x∈[zmq,zuU,exR2,zvt]): ∃s n,x=zgP s n:=by
 simp only[wah,wao,or_false]at h;rcases h with rfl | rfl | rfl | rfl <;> exact⟨_,_,rfl⟩
theorem gs_of(l:List Item)(h:ze8 (exF l)=true)(hl:l.length<=50)(hx: ∀x∈l,x∈[zmq,zuU,exR2,zvt]):Gs (exF l)/\Small (exF l):=gs_ex h hl fun x hi=>exs_reg x (hx x hi)
theorem gsB:Gs (exF [zmq])/\Small (exF [zmq]):=gs_of _ (by kernel_rfl) (by simp) (by simp)
theorem gsO:Gs (exF [zuU])/\Small (exF [zuU]):=gs_of _ (by kernel_rfl) (by simp) (by simp)
theorem gsT:Gs (exF [exR2])/\Small (exF [exR2]):=gs_of _ (by kernel_rfl) (by simp) (by simp)
theorem gsM:Gs (exF [zvt,zmq])/\Small (exF [zvt,zmq]):=gs_of _ (by kernel_rfl) (by simp) (by simp)
theorem gsW:Gs (exF [zuU,zvt])/\Small (exF [zuU,zvt]):=gs_of _ (by kernel_rfl) (by simp) (by simp)
theorem gsN:Gs []:=⟨⟨(zbU _).1 (by kernel_rfl),⟨by simp⟩⟩,by simp,by simp⟩
theorem side_e{b x y:List Module}(hb:Gs b)(hx:Gs x)(hy:Gs y)(p:Place):FnP prog 40 [.agg [zax b,zax x,zax y],.agg (zaE p)] (.d (.agg [eI (zfo (zbc b) (zbc x) (zbc y) p),eI 0])) []:=by
 refine sideL_c b x y p _ _ ?_;have sc:=mside_c b x y hb.sz hx.sz hy.sz p;unfold sideR at sc;rwa [if_pos (by simp only[List.all_cons,List.all_nil,(zbU _).2 hb.fl.part,(zbU _).2 hx.fl.part,(zbU _).2 hy.fl.part,Bool.and_true])]at sc
theorem zez:FnP prog 31 [] (.d (eB true)) []:=by
 refine FnP.of_eC (own:=[]) (fun i=>if i=2010 then [.ord ⟨[(0,none),(1,none),(2,none),(3,none),(4,none),(5,none),(6,none),(7,none),(8,none),(9,none),(10,none),(11,none),(12,none),(13,none),(14,none),(15,none),(16,none),(17,none),(18,none),(19,none),(20,none),(21,none),(22,none),(23,none),(24,none)]⟩]else []) zat func31 rfl call31 ntmps31 (zle rfl) results31 (fun hok=> ?_);have r0:FnP prog 84 [eS sRr,eI 0] (.d (.agg (zaK zmq))) []:=znx sRr 0;have r1:FnP prog 84 [eS sRr,eI 1] (.d (.agg (zaK zuU))) []:=znx sRr 1;have r2:FnP prog 84 [eS sRr,eI 2] (.d (.agg (zaK exR2))) []:=znx sRr 2;have s0:FnP prog 84 [eS sE,eI 0] (.d (.agg (zaK zvt))) []:=znx sE 0;have f0:=zvv [zmq];have f1:=zvv [zuU];have f2:=zvv [exR2];have fm:=zvv [zvt,zmq];have fw:=zvv [zuU,zvt];have fx:=zvv [zmq,zmq];have m1:=znr gsB.1 gsO.1 gsM.1 (fun _=>by
  have e:zbA (exF [zmq]) (exF [zuU]) (exF [zvt,zmq])=exF [zuU,zvt]:=(ztt xx1).2;rw[e]; exact gsW.2)
 have m2:=znr gsB.1 gsO.1 gsT.1 (fun h=>absurd h (conf_ne xx2));have m3:=znr gsB.1 gsO.1 gsN (fun h=>absurd h (conf_ne xx3));have x1:zbk (exF [zmq]) (exF [zuU]) (exF [zvt,zmq])=⟨exF [zuU,zvt],[],0⟩:=xx1;have x2:zbk (exF [zmq]) (exF [zuU]) (exF [exR2])=⟨[],[plR],170⟩:=xx2;have x3:zbk (exF [zmq]) (exF [zuU]) []=⟨[],[zbB sMM,plR],170⟩:=xx3;rw[x1]at m1;rw[x2]at m2;rw[x3]at m3;have al1:=zn0 ⟨exF [zuU,zvt],[],0⟩ ⟨exF [zuU,zvt],[],0⟩;have al2:=zn0 ⟨[],[plR],170⟩ ⟨[],[plR],170⟩;have al3:=zn0 ⟨[],[zbB sMM,plR],170⟩ ⟨[],[zbB sMM,plR],170⟩;rw[zhQ]at al1 al2 al3;have pc:=zij gsB.1 gsM.1;have pl:(zc0 (exF [zmq]) (exF [zvt,zmq])).length =1:=xx4;obtain⟨pls,hpls⟩: ∃l,zc0 (exF [zmq]) (exF [zvt,zmq])=l:=⟨_,rfl⟩;rw[hpls]at pc pl;have se1:=side_e gsB.1 gsO.1 gsT.1 plR;have se2:=side_e gsB.1 gsB.1 gsT.1 plR;rw[xx5]at se1;rw[xx6]at se2;have zx:Sz (exF [zmq,zmq]):=⟨by simp[exF],fun m hm=>by simp only[exF,List.mem_singleton]at hm; subst hm; show 2<=_; omega⟩;have mb:=mergedL_c (exF [zmq,zmq]) [] [] ⟨[],[],1⟩ (by simp) (mergeBad_c _ _ _ zx gsN.sz gsN.sz xx7);have g: ∀l,[(⟨sMM,sCC,[],l⟩:Module)]=exF l:=fun _=>rfl;rw[g]at f0 f1 f2 fm fw fx;obtain⟨B,hB⟩: ∃f,exF [zmq]=f:=⟨_,rfl⟩;obtain⟨O,hO⟩: ∃f,exF [zuU]=f:=⟨_,rfl⟩;obtain⟨T,hT⟩: ∃f,exF [exR2]=f:=⟨_,rfl⟩;obtain⟨M,hM⟩: ∃f,exF [zvt,zmq]=f:=⟨_,rfl⟩;obtain⟨V,hV⟩: ∃f,exF [zuU,zvt]=f:=⟨_,rfl⟩;obtain⟨X,hX⟩: ∃f,exF [zmq,zmq]=f:=⟨_,rfl⟩;rw[hB]at f0 m1 m2 m3 pc se1 se2;rw[hO]at f1 m1 m2 m3 se1;rw[hT]at f2 m2 se1 se2;rw[hM]at fm m1 pc;rw[hV]at fw m1 al1;rw[hX]at fx mb;simp only[wae,wac]at f0 f1 f2 fm fw fx;obtain⟨R0,hR0⟩: ∃f,zmq=f:=⟨_,rfl⟩;obtain⟨R1,hR1⟩: ∃f,zuU=f:=⟨_,rfl⟩;obtain⟨R2,hR2⟩: ∃f,exR2=f:=⟨_,rfl⟩;obtain⟨S0,hS0⟩: ∃f,zvt=f:=⟨_,rfl⟩;rw[hR0]at r0 f0 fm fx;rw[hR1]at r1 f1 fw;rw[hR2]at r2 f2;rw[hS0]at s0 fm fw;clear hB hO hT hM hV hX hR0 hR1 hR2 hS0 g x1 x2 x3;simp only[eGot,zp7,zaE]at m1 m2 m3 al1 al2 al3 pc se1 se2 mb;simp only[ZE,seval,sRr,sE,sMM,sCC,st,plR,zbB,zc7,emp,wac,wae]at r0 r1 r2 s0 f0 f1 f2 fm fw fx m1 m2 m3 al1 al2 al3 pc se1 se2 mb;simp only[ZE,seval,zN];refine EFn.p ?_;simp only[ZE,seval,zN];refine zar.i r0 ?_;simp only[ZE,seval,zN];refine EFn.p ?_;simp only[ZE,seval,zN];refine zar.i f0 ?_;simp only[ZE,seval,zN];refine EFn.p ?_;simp only[ZE,seval,zN];refine zar.i r1 ?_;simp only[ZE,seval,zN];refine EFn.p ?_;simp only[ZE,seval,zN];refine zar.i f1 ?_;simp only[ZE,seval,zN];refine EFn.p ?_;simp only[ZE,seval,zN];refine zar.i s0 ?_;simp only[ZE,seval,zN];refine EFn.p ?_;simp only[ZE,seval,zN];refine zar.i r0 ?_;simp only[ZE,seval,zN];refine EFn.p ?_;simp only[ZE,seval,zN];refine zar.i fm ?_;simp only[ZE,seval,zN];refine EFn.p ?_;simp only[ZE,seval,zN];refine zar.i r2 ?_;simp only[ZE,seval,zN];refine EFn.p ?_;simp only[ZE,seval,zN];refine zar.i f2 ?_;simp only[ZE,seval,zN];refine EFn.p ?_;simp only[ZE,seval,zN];refine zar.i m1 ?_;simp only[ZE,seval,zN];refine EFn.p ?_;simp only[ZE,seval,zN];refine zar.i m2 ?_;simp only[ZE,seval,zN];refine EFn.p ?_;simp only[ZE,seval,zN];refine zar.i m3 ?_;simp only[ZE,seval,zN];refine⟨by kernel_rfl,zaz.i r1 ?_⟩;simp only[ZE,seval,zN];refine zaz.i s0 ?_;simp only[ZE,seval,zN];refine zaz.i fw ?_;simp only[ZE,seval,zN];refine zaz.i al1 ?_;simp only[ZE,seval,zN];refine zaz.i al2 ?_;simp only[ZE,seval,zN];refine zaz.i al3 ?_;simp only[ZE,seval,zN];refine EFn.p ?_;simp only[ZE,seval,zN];refine zar.i pc ?_;simp only[ZE,seval,zN];refine EFn.p ?_;simp only[ZE,seval,zN];refine zar.i r0 ?_;simp only[ZE,seval,zN];refine EFn.p ?_;simp only[ZE,seval,zN];refine zar.i r0 ?_;simp only[ZE,seval,zN];refine EFn.p ?_;simp only[ZE,seval,zN];refine zar.i fx ?_;simp only[ZE,seval,zN];refine EFn.p ?_;simp only[ZE,seval,zN];refine zar.i mb ?_;simp only[ZE,seval,zN,waa,pl];refine EFn.p ?_;simp only[ZE,seval,zN];refine zar.i se1 ?_;simp only[ZE,seval,zN];refine EFn.p ?_;simp only[ZE,seval,zN];refine zar.i se2 ?_;simp only[ZE,seval,zN]
end Go.Proofs.YtbenhdgpogiadaaGreat
