/- Contracts and laws. Conditions: those of each. -/
import Derived.Test.YtplfjjgkbnolhaaGreatDoorK3
import Derived.Test.YtplfjjgkbnolhaaGreatDoorGBd
import Derived.Test.YtplfjjgkbnolhaaGreatDoorGGk
import Derived.Lib.Builder
import Derived.Shelf.RegionOpenPlain
import Derived.WalkKit
import Derived.Lib.Walk
import Derived.Laws.Externs
set_option linter.unusedSimpArgs false
set_option linter.unusedVariables false
open List renaming length_map → waa, length_append → wab, map_nil → wac, length_cons → wad, map_cons → wae, map_append → waf, getElem_mem → wag, mem_map → wah, append_assoc → wai, nil_append → waj, cons_append → wak, mem_filter → wal
open Int renaming toNat_natCast → wam
open Nat renaming lt_or_ge → wan
open Option renaming map_none → wao
namespace Go.Proofs.YtplfjjgkbnolhaaGreatDoor
open Go.Aw
open Tryz
set_option maxRecDepth 100000
set_option maxHeartbeats 1000000
def bitM(m:Int)(i:Nat):Bool:=IntKind.u16.wrap ((BitVec.ofInt IntKind.u16.bits (m.fdiv (2 ^ min (IntKind.u64.wrap ((i:Int).tmod 16)).toNat IntKind.u16.bits))&&& BitVec.ofInt IntKind.u16.bits 1).toNat :Int)==1
def chN(m:Int)(s:List Obj)(n:Nat):List Nat:=((List.range n).filter (bitM m)).map fun i=>(s.getD i (0,[])).1
theorem chN_len(m:Int)(s:List Obj)(n:Nat):(chN m s n).length ≤n:=by
 unfold chN;rw[waa];exact Nat.le_trans (List.length_filter_le _ _) (by simp)
theorem chN_succ{m:Int}{s:List Obj}{i:Nat}(h:i<s.length):chN m s (i+1)=if bitM m i=true then chN m s i++[s[i].1]else chN m s i:=by
 unfold chN;rw[List.range_succ,List.filter_append,waf];split
 ·rename_i hb; simp[hb,List.getD,h]
 ·rename_i hb; simp[hb]
theorem chosen_c(s:List Obj)(m:Int)(id:Nat)(hl:s.length≤1000000):FnP prog 43 [eSt s,.lit (.int .u16 m),eU id] (.d (eIds (chN m s s.length++[id]))) []:=by
 refine FnP.of_eC (own:=[]) (fun _=>[]) mixed func43 rfl call43 ntmps43 (zle rfl) results43 (fun hok=> ?_);simp only[ZE,seval];refine eloop (fun _=>[]) mixed s.length (fun _=>True) (fun i=>([(0,.d (eSt s)),(1,.d (.lit (.int .u16 m))),(2,.d (eU id)),(7,.ar 9 (chN m s i).length),(8,.d (eI i))],[(9,.arr 62 1 .flat ((chN m s i).map fun n=>[eU n]))])) trivial ?_ ?_ (fun i hi _=> ?_)
 ·simp only[ZE,seval];rfl
 ·simp only[ZE,seval];rfl
 have hle:=chN_len m s i;rcases wan i s.length with h | h
 ·have hw:=wrap_succ (show i<9223372036854775807 by omega);have h16:(i:Int).tmod 16=((i % 16:Nat):Int):=(Int.ofNat_tmod i 16).symm;have hwu:=wrap_u (x:=i % 16) (by unfold W64; omega);have hst:=chN_succ (m:=m) h;have hb:(IntKind.u16.wrap ((BitVec.ofInt IntKind.u16.bits (m.fdiv (2 ^ min (i % 16) IntKind.u16.bits))&&& BitVec.ofInt IntKind.u16.bits 1).toNat :Int)==1)=bitM m i:=by
   unfold bitM; rw[h16,hwu,wam]
  have h0:((0:Int)≤((i % 16:Nat):Int))=True:=eq_true (Int.natCast_nonneg _);obtain⟨C,hC⟩:=zX (chN m s i);rw[hC]at hst hle;cases hbm:bitM m i with
  | true=>
   rw[hbm,if_pos rfl]at hst;rw[hst,hC];simp only[ZE,seval,dec_lt h,lt_int h,getD_map h,hw,h16,hwu,wam,hb,hbm,h0,wab,wad,List.length_nil,waf,wae,wac];exact⟨⟨by omega,by omega⟩,h⟩
  | false=>
   rw[hbm,if_neg (by simp)]at hst;rw[hst,hC];simp only[ZE,seval,dec_lt h,lt_int h,getD_map h,hw,h16,hwu,wam,hb,hbm,h0];exact h
 ·have he:i=s.length:=by omega
  subst he;simp only[ZE,seval,dec_ge h,wab,wad,List.length_nil,waf,wae,wac,waa];exact⟨by omega,by omega⟩
def tabA(f:Nat→Nat):List AV:=(List.range 256).map fun b=>AV.d (eU8 (f b))
def tabD(f:Nat→Nat):List D:=(List.range 256).map fun b=>eU8 (f b)
def upF(f:Nat→Nat)(j v:Nat):Nat→Nat:=fun b=>if b=j then v else f b
def zTb:List Value:=(List.range 256).map fun _=>Value.int .u8 0
theorem tZ182:zeroOf prog 182=some zTb:=by kernel_rfl
theorem zTb_map:zTb.map cellAV=tabA fun _=>0:=by
 unfold zTb tabA;rw[List.map_map];rfl
theorem tab_len(f:Nat→Nat):(tabA f).length =256:=by simp[tabA]
theorem tabD_map(f:Nat→Nat):(tabD f).map AV.d=tabA f:=by
 unfold tabA tabD;rw[List.map_map];rfl
theorem tab_put(f:Nat→Nat)(j v:Nat)(hj:j<256):(tabA f).take j++(AV.d (.lit (.int .u8 v))::(tabA f).drop (j+1))=tabA (upF f j v):=by
 apply List.ext_getElem
 ·simp[tab_len]; omega
 intro i h1 h2;simp only[List.getElem_append,List.length_take,tab_len,List.getElem_take,List.getElem_cons,List.getElem_drop,Nat.min_eq_left (Nat.le_of_lt hj)];have hi:i<256:=by rw[tab_len]at h2; exact h2
 simp only[tabA,List.getElem_map,List.getElem_range,upF,eU8];by_cases c1:i<j
 ·simp[c1,show i≠j by omega]
 ·by_cases c2:i=j
  ·subst c2; simp
  ·simp[c1,c2,show i-j≠0 by omega,show j+1+(i-j-1)=i by omega]
theorem tab_ones(O:Objs)(f:Nat→Nat):ones O (tabA f):=by
 unfold tabA
 induction List.range 256 with
 | nil=>trivial
 | cons b l ih=>exact⟨rfl,ih⟩
theorem tab_noRefs(l:List Nat)(f:Nat→Nat):AV.noRefs l (tabA f)=True:=by
 refine eq_true ?_;unfold tabA
 induction List.range 256 with
 | nil=>trivial
 | cons b l ih=>exact⟨trivial,ih⟩
def f1(i:Nat):Nat→Nat:=fun b=>if 97≤b∧b<97+i then 1 else 0
def f2(i:Nat):Nat→Nat:=fun b=>if 48≤b∧b<48+i then 2 else f1 26 b
def signsL:List Nat:=[40,41,123,125,91,93,44,59,58,61,43,45,38,124,94,126,60,63,64,35,46]
def f3(i:Nat):Nat→Nat:=fun b=>if (signsL.take i).contains b then 4 else f2 10 b
def clsN:Nat→Nat:=upF (upF (f3 21) 32 3) 10 3
theorem f1_succ(i:Nat):upF (f1 i) (97+i) 1=f1 (i+1):=by
 funext b;unfold upF f1;by_cases h:b=97+i
 ·subst h; simp
 ·have:(97≤b∧b<97+(i+1))↔(97≤b∧b<97+i):=by omega
  simp only[h,if_false,this]
theorem f2_succ(i:Nat):upF (f2 i) (48+i) 2=f2 (i+1):=by
 funext b;unfold upF f2;by_cases h:b=48+i
 ·subst h; simp
 ·have:(48≤b∧b<48+(i+1))↔(48≤b∧b<48+i):=by omega
  simp only[h,if_false,this]
theorem f3_succ{i:Nat}(h:i<21):upF (f3 i) (signsL.getD i 0) 4=f3 (i+1):=by
 have hl:i<signsL.length:=h;funext b;unfold upF f3;rw[List.take_succ_eq_append_getElem hl,List.contains_append];have e:signsL.getD i 0=signsL[i]:=by simp[List.getD,hl]
 rw[e];by_cases hb:b=signsL[i]
 ·subst hb; simp
 ·have:[signsL[i]].contains b=false:=by simp[hb]
  rw[this];simp[hb]
theorem wrap32{i:Nat}(h:i<2147483647):IntKind.i32.wrap ((i:Int)+1)=((i+1:Nat):Int):=by
 unfold IntKind.wrap; simp[IntKind.bits,IntKind.signed]; omega
def sgnB:ByteArray:=⟨#[40,41,123,125,91,93,44,59,58,61,43,45,38,124,94,126,60,63,64,35,46]⟩
theorem sgnB_eq:(⟨#[40,41,123,125,91,93,44,59,58,61,43,45,38,124,94,126,60,63,64,35,46]⟩:ByteArray)=sgnB:=rfl
theorem sgnB_size:sgnB.size=21:=rfl
theorem sgnB_get{i:Nat}(h:i<21):(sgnB.data.getD i 0).toNat =signsL.getD i 0∧signsL.getD i 0<128:=by
 have: ∀i:Fin 21,(sgnB.data.getD i.1 0).toNat =signsL.getD i.1 0∧signsL.getD i.1 0<128:=by decide
 exact this ⟨i,h⟩
theorem classOf_c:FnP prog 101 [] (.d (.agg (tabD clsN))) []:=by
 refine FnP.of_eC (own:=[]) (fun _=>[]) mixed func101 rfl call101 ntmps101 (zle rfl) results101 (fun hok=> ?_);have z1:(tabA fun _=>0)=tabA (f1 0):=by congr 1; funext b; unfold f1; rw[if_neg (by omega)]
 have z2:f1 26=f2 0:=by funext b; unfold f2; rw[if_neg (by omega)]
 have z3:f2 10=f3 0:=by funext b; simp[f3]
 simp only[ZE,seval,tZ182,zTb_map,tab_noRefs];refine eloop (fun _=>[]) mixed 26 (fun _=>True) (fun i=>([(0,.bp 0 0),(1,.bp 1 0),(2,.d (.lit (.int .i32 ((97+i:Nat):Int))))],[(0,.box (tabA fun _=>0)),(1,.box (tabA (f1 i)))])) trivial ?_ ?_ (fun i hi _=> ?_)
 ·simp only[ZE,seval]
 ·simp only[ZE,seval,←z1]
 rcases wan i 26 with h | h
 ·have e1:decide (((97+i:Nat):Int)≤122)=true:=by simp; omega
  have e2:((0:Int)≤((97+i:Nat):Int)∧((97+i:Nat):Int)<256)=True:=by simp; omega
  have e3:=tab_put (f1 i) (97+i) 1 (by omega);have e4:=wrap32 (show 97+i<2147483647 by omega);rw[f1_succ]at e3;simp only[ZE,seval]at e3;simp only[ZE,seval,e1,e2,e3,e4,wam,tab_len,wai,wak,waj,Nat.mul_one,Nat.zero_add];exact⟨by omega,h,rfl⟩
 have hi26:i=26:=by omega
 subst hi26;simp only[ZE,seval,z2,zN];refine eloop (fun _=>[]) mixed 10 (fun _=>True) (fun i=>([(0,.bp 0 0),(1,.bp 1 0),(3,.d (.lit (.int .i32 ((48+i:Nat):Int))))],[(0,.box (tabA fun _=>0)),(1,.box (tabA (f2 i)))])) trivial ?_ ?_ (fun i hi _=> ?_)
 ·simp only[ZE,seval]
 ·simp only[ZE,seval]
 rcases wan i 10 with h | h
 ·have e1:decide (((48+i:Nat):Int)≤57)=true:=by simp; omega
  have e2:((0:Int)≤((48+i:Nat):Int)∧((48+i:Nat):Int)<256)=True:=by simp; omega
  have e3:=tab_put (f2 i) (48+i) 2 (by omega);have e4:=wrap32 (show 48+i<2147483647 by omega);rw[f2_succ]at e3;simp only[ZE,seval]at e3;simp only[ZE,seval,e1,e2,e3,e4,wam,tab_len,wai,wak,waj,Nat.mul_one,Nat.zero_add];exact⟨by omega,h,rfl⟩
 have hi26:i=10:=by omega
 subst hi26;simp only[ZE,seval,z3,sgnB_eq,tab_noRefs,zN];refine eloop (fun _=>[]) mixed 21 (fun _=>True) (fun i=>([(0,.bp 0 0),(1,.bp 1 0),(18,.mo 18)],[(0,.box (tabA fun _=>0)),(1,.box (tabA (f3 i))),(18,.sit sgnB i)])) trivial ?_ ?_ (fun i hi _=> ?_)
 ·simp only[ZE,seval]
 ·simp only[ZE,seval]
 rcases wan i 21 with h | h
 ·obtain⟨g1,g2⟩:=sgnB_get h;have hlt:i<sgnB.size:=h;have hf:=f3_succ h;obtain⟨v,hv⟩:=zX (signsL.getD i 0);rw[hv]at hf g1 g2;have e2:((0:Int)≤((v:Nat):Int)∧((v:Nat):Int)<256)=True:=by simp; omega
  have e3:=tab_put (f3 i) v 4 (by omega);rw[hf]at e3;simp only[ZE,seval]at e3;simp only[ZE,seval,hlt,g1,e2,e3,wam,tab_len,wai,wak,waj,Nat.mul_one,Nat.zero_add];exact⟨g2,by omega,h⟩
 have hi26:i=21:=by omega
 subst hi26;have e5:=tab_put (f3 21) 32 3 (by omega);have e6:=tab_put (upF (f3 21) 32 3) 10 3 (by omega);simp only[ZE,seval]at e5;simp only[ZE,seval]at e6;simp only[ZE,seval,sgnB_size,zN];trivial
def scA(s:ByteArray)(a:Int)(tk:AV):List AV:=.d (.lit (.string s)):: .d (.lit (.int .i64 a))::(tabA clsN++[tk])
theorem sc_len(s:ByteArray)(a:Int)(tk:AV):(scA s a tk).length =259:=by simp[scA,tab_len]
theorem sc_h0(s:ByteArray)(a:Int)(tk:AV):(scA s a tk).headD .dead = .d (.lit (.string s)):=rfl
theorem sc_h1(s:ByteArray)(a:Int)(tk:AV):((scA s a tk).drop 1).headD .dead = .d (.lit (.int .i64 a)):=rfl
theorem sc_h2(s:ByteArray)(a:Int)(tk:AV){j:Nat}(h:j<256):((scA s a tk).drop (2+j)).headD .dead = .d (.lit (.int .u8 (clsN j))):=by
 have e:(scA s a tk).drop (2+j)=(tabA clsN++[tk]).drop j:=by rw[Nat.add_comm]; rfl
 rw[e,List.drop_append_of_le_length (by rw[tab_len]; omega),List.drop_eq_getElem_cons (by rw[tab_len]; exact h)];simp[tabA,eU8]
theorem sc_h3(s:ByteArray)(a:Int)(tk:AV):((scA s a tk).drop 258).headD .dead =tk:=by
 have e:(scA s a tk).drop 258=(tabA clsN++[tk]).drop 256:=rfl;rw[e,List.drop_append_of_le_length (by rw[tab_len]; exact Nat.le_refl _),List.drop_of_length_le (by rw[tab_len]; exact Nat.le_refl _)];rfl
theorem sc_set1(s:ByteArray)(a b:Int)(tk:AV):(scA s a tk).take 1++(.d (.lit (.int .i64 b))::(scA s a tk).drop 2)=scA s b tk:=rfl
theorem sc_ren(r:List (Nat×Nat))(s:ByteArray)(a:Int)(tk:AV):AV.renL r (scA s a tk)=scA s a (tk.ren r):=by
 have key: ∀l:List Nat,AV.renL r ((l.map fun b=>AV.d (eU8 (clsN b)))++[tk])=(l.map fun b=>AV.d (eU8 (clsN b)))++[tk.ren r]:=by
  intro l
  induction l with
  | nil=>rfl
  | cons b l ih=>simp only[wae,wak,AV.renL,ih,AV.ren]
 unfold scA;simp only[AV.renL,AV.ren];rw[show tabA clsN=(List.range 256).map fun b=>AV.d (eU8 (clsN b))from rfl,key]
theorem sc_noRefs(l:List Nat)(s:ByteArray)(a:Int)(tk:AV):AV.noRefs l (scA s a tk)=tk.noRef l:=by
 have key: ∀k:List Nat,AV.noRefs l ((k.map fun b=>AV.d (eU8 (clsN b)))++[tk])=tk.noRef l:=by
  intro k
  induction k with
  | nil=>simp[AV.noRefs]
  | cons b k ih=>simp only[wae,wak,AV.noRefs,ih,AV.noRef,true_and]
 unfold scA;simp only[AV.noRefs,AV.noRef,true_and];exact key _
theorem sc_frzc(O:Objs)(s:ByteArray)(a:Int): ∃vc ds,frzc.frzcL O (scA s a .nils)=some (vc,ds,[]):=by
 have key: ∀k:List Nat,∃vc ds,frzc.frzcL O ((k.map fun b=>AV.d (eU8 (clsN b)))++[.nils])=some (vc,ds,[]):=by
  intro k
  induction k with
  | nil=>exact⟨_,_,rfl⟩
  | cons b k ih=>
   obtain⟨vc,ds,ih⟩:=ih;simp only[wae,wak,frzc.frzcL,ih,frzc];exact⟨_,_,rfl⟩
 obtain⟨vc,ds,h⟩:=key (List.range 256);unfold scA tabA;simp only[frzc.frzcL,h,frzc];exact⟨_,_,rfl⟩
theorem byte_lt(s:ByteArray)(i:Nat):(s.data.getD i 0).toNat <256:=UInt8.toNat_lt _
def isF(s:ByteArray)(a k:Nat)(cl:List Nat):Bool:=decide (a+k<s.size)&&cl.any fun c=>decide (clsN (s.data.getD (a+k) 0).toNat =c)
theorem is_cl(s:ByteArray)(a k:Nat)(cl:List Nat)(hs:s.size≤9223372036854775807)(ha:a+k≤9223372036854775807)(hcl:cl.length≤1000):
  FnL prog 154 [.bp 1 0,.d (eI k),.d (eBy cl)] [(1,.box (scA s a .nils))] (fun V ol new=>V= .d (eB (isF s a k cl))∧ol=[(1,.box (scA s a .nils))]∧new=[]):=by
 refine FnL.of_eC (own:=[]) chL [0] mixed func154 rfl call154 ntmps154 (zle rfl) results154 ?_;have hw:=wrap_id (x:=((a+k:Nat):Int)) (by omega) (by omega);rw[Int.natCast_add]at hw;by_cases hk:a+k<s.size
 ·have e1:decide ((a:Int)+(k:Int)≥(s.size:Int))=false:=by simp; omega
  obtain⟨v,hv⟩:=zX ((s.data.getD (a+k) 0).toNat);have hv2:v<256:=hv▸byte_lt s (a+k);have hF:isF s a k cl=cl.any fun c=>decide (clsN v=c):=by unfold isF; rw[hv]; simp[hk]
  have e2:((0:Int)≤(a:Int)+(k:Int)∧(a:Int)+(k:Int)<(s.size:Int))=True:=by simp; omega
  have e3:((a:Int)+(k:Int)).toNat =a+k:=by omega
  have e4:((0:Int)≤(v:Int)∧(v:Int)<256)=True:=by simp; omega
  have e5:=sc_h2 s a .nils hv2;rw[hF];obtain⟨w,hw2⟩:=zX (clsN v);rw[hw2]at e5 ⊢;simp only[ZE,seval,hw,e1,sc_len,sc_h0,sc_h1,sc_h3,sc_set1,sc_ren,sc_noRefs];refine⟨by kernel_rfl,?_⟩;refine eloop chL mixed cl.length (fun i=> ∀j (h:j<cl.length),j<i→w≠cl[j]) (fun i=>([(0,.bp 1 0),(1,.d (eI k)),(21,.d (eBy cl)),(22,.d (eI cl.length)),(23,.d (eI i))],[(1,.box (scA s a .nils))])) (fun j h hj=>by omega) ?_ ?_ (fun i hi hI=> ?_)
  ·simp only[ZE,seval]
  ·simp only[ZE,seval]
  rcases wan i cl.length with h | h
  ·have hwi:=wrap_succ (show i<9223372036854775807 by omega);by_cases he:w=cl[i]
   ·have c1:((w:Int)==(cl[i]:Int))=true:=(by simp[he]);have c2:(cl.any fun c=>decide (w=c))=true:=List.any_eq_true.2 ⟨cl[i],wag h,by simp[he]⟩;simp only[ZE,seval,dec_lt h,lt_int h,getD_map h,hw,hv,e2,e3,e4,e5,c1,c2,sc_len,sc_h0,sc_h1,sc_h3,sc_set1,sc_ren,sc_noRefs];refine⟨by kernel_rfl,by omega,[],[],?_⟩;simp only[ZE,seval,sameKind,AV.core,sc_len,sc_h0,sc_h1,sc_h3,sc_set1,sc_ren,sc_noRefs]
   ·have c1:((w:Int)==(cl[i]:Int))=false:=(by simp; omega);simp only[ZE,seval,dec_lt h,lt_int h,getD_map h,hw,hv,e2,e3,e4,e5,c1,hwi,sc_len,sc_h0,sc_h1,sc_h3,sc_set1,sc_ren,sc_noRefs];refine⟨by kernel_rfl,by omega,h,fun j hj hji=> ?_⟩;rcases wan j i with h2 | h2
    ·exact hI j hj h2
    ·have:j=i:=(by omega);subst this;exact he
  ·have c2:(cl.any fun c=>decide (w=c))=false:=by
    rw[List.any_eq_false];intro c hc;obtain⟨j,hj,rfl⟩:=List.mem_iff_getElem.1 hc;simpa using hI j hj (by omega)
   simp only[ZE,seval,dec_ge h,c2];refine⟨[],[],?_⟩;simp only[ZE,seval,sameKind,AV.core,sc_len,sc_h0,sc_h1,sc_h3,sc_set1,sc_ren,sc_noRefs]
 ·have e1:decide ((a:Int)+(k:Int)≥(s.size:Int))=true:=by simp; omega
  have e2:isF s a k cl=false:=by unfold isF; simp[hk]
  simp only[ZE,seval,hw,e1,e2,sc_len,sc_h0,sc_h1,sc_h3,sc_set1,sc_ren,sc_noRefs];refine⟨by kernel_rfl,[],[],?_⟩;simp only[ZE,seval,sameKind,AV.core,sc_len,sc_h0,sc_h1,sc_h3,sc_set1,sc_ren,sc_noRefs]
def preF(s p:ByteArray):Bool:=decide (p.size≤s.size)&&((s.extract 0 p.size).toList ==p.toList)
theorem hasPre0_c(s p:ByteArray):FnP prog 198 [.lit (.string s),.lit (.string p)] (.d (eB (preF s p))) []:=by
 refine FnP.of_eC (own:=[]) (fun _=>[]) mixed func198 rfl call198 ntmps198 (zle rfl) results198 (fun hok=> ?_);by_cases h:p.size≤s.size
 ·have e1:decide ((s.size:Int)≥(p.size:Int))=true:=by simp; omega
  have e2:((0:Int)≤(p.size:Int)∧(p.size:Int)≤(s.size:Int))=True:=by simp; omega
  have e3:preF s p=((s.extract 0 p.size).toList ==p.toList):=by unfold preF; simp[h]
  simp only[ZE,seval,e1,e2,e3,wam]
 ·have e1:decide ((s.size:Int)≥(p.size:Int))=false:=by simp; omega
  have e3:preF s p=false:=by unfold preF; simp[h]
  simp only[ZE,seval,e1,e3]
theorem hasPre_c(s p:ByteArray):FnP prog 155 [.lit (.string s),.lit (.string p)] (.d (eB (preF s p))) []:=by
 refine FnP.of_eC (own:=[]) (fun _=>[]) mixed func155 rfl call155 ntmps155 (zle rfl) results155 (fun hok=> ?_);have h:=hasPre0_c s p;simp only[ZE,seval];refine EFn.p ?_;simp only[ZE,seval];have hc:=h;simp only[ZE,seval]at hc;refine ECall.i hc ?_;clear hc;simp only[ZE,seval]
theorem wordKind0_c(b:ByteArray)(hb:b.size=0):FnP prog 157 [.lit (.string b)] (.d (eI 0)) []:=by
 refine FnP.of_eC (own:=[]) (fun _=>[]) mixed func157 rfl call157 ntmps157 (zle rfl) results157 (fun hok=> ?_);have e:b=⟨#[]⟩:=by
  cases b with
  | mk d=>simp[ByteArray.size]at hb; rw[hb]
 subst e;have e2:((⟨#[]⟩:ByteArray).toList ==(⟨#[]⟩:ByteArray).toList)=true:=by simp
 simp only[ZE,seval,e2]
theorem space0_cl(s:ByteArray)(a:Nat)(hs:s.size≤9223372036854775807)(ha:a≤s.size)(h1:isF s a 0 [3]=false)(h2:preF (s.extract a s.size) ⟨#[47,47]⟩=false):
  FnL prog 102 [.bp 1 0] [(1,.box (scA s a .nils))] (fun V ol new=>V= .d (eB false)∧ol=[(1,.box (scA s a .nils))]∧new=[]):=by
 refine FnL.of_eC (own:=[]) chL [0] mixed func102 rfl call102 ntmps102 (zle rfl) results102 ?_;have hi:=is_cl s a 0 [3] hs (by omega) (by simp);have hp:=hasPre_c (s.extract a s.size) ⟨#[47,47]⟩;rw[h1]at hi;rw[h2]at hp;simp only[ZE,seval,Int.natCast_zero]at hi;have e1:((0:Int)≤(a:Int)∧(a:Int)≤(s.size:Int))=True:=by simp; omega
 simp only[ZE,seval,sc_len,sc_h0,sc_h1,sc_h3,sc_set1,sc_ren,sc_noRefs];refine EFn.gV [(1,1)] hi ?_ ?_
 ·simp only[ZE,seval,sc_len,sc_h0,sc_h1,sc_h3,sc_set1,sc_ren,sc_noRefs]
 rintro V ol new ⟨rfl,rfl,rfl⟩;simp only[ZE,seval,e1,wam,sc_len,sc_h0,sc_h1,sc_h3,sc_set1,sc_ren,sc_noRefs];simp only[ZE,seval]at hp;refine⟨by kernel_rfl,⟨by omega,by omega,by omega⟩,ECall'.i hp ?_⟩;simp only[ZE,seval,sc_len,sc_h0,sc_h1,sc_h3,sc_set1,sc_ren,sc_noRefs];refine⟨[],[],?_⟩;simp only[ZE,seval,sameKind,AV.core,sc_len,sc_h0,sc_h1,sc_h3,sc_set1,sc_ren,sc_noRefs]
theorem word0_cl(s:ByteArray)(a:Nat)(hs:s.size≤9223372036854775807)(ha:a≤s.size)(h1:isF s a 0 [1,2]=false):
  FnL prog 103 [.bp 1 0] [(1,.box (scA s a .nils))] (fun V ol new=>V= .d (eB false)∧ol=[(1,.box (scA s a .nils))]∧new=[]):=by
 refine FnL.of_eC (own:=[]) chL [0] mixed func103 rfl call103 ntmps103 (zle rfl) results103 ?_;have hi:=is_cl s a 0 [1,2] hs (by omega) (by simp);have hk:=wordKind0_c (s.extract a a) (by simp);rw[h1]at hi;simp only[ZE,seval,Int.natCast_zero]at hi;simp only[ZE,seval]at hk;have e1:=wrap_id (x:=(a:Int)) (by omega) (by omega);simp only[ZE,seval,sc_len,sc_h0,sc_h1,sc_h3,sc_set1,sc_ren,sc_noRefs];refine eloop chL mixed 0 (fun _=>True) (fun i=>([(0,.bp 1 0),(3,.d (eI 0))],[(1,.box (scA s a .nils))])) trivial ?_ ?_ (fun i hi' _=> ?_)
 ·simp only[ZE,seval]
 ·simp only[ZE,seval]
 simp only[ZE,seval,sc_len,sc_h0,sc_h1,sc_h3,sc_set1,sc_ren,sc_noRefs];refine EFn.gV [(1,1)] hi ?_ ?_
 ·simp only[ZE,seval,sc_len,sc_h0,sc_h1,sc_h3,sc_set1,sc_ren,sc_noRefs]
 rintro V ol new ⟨rfl,rfl,rfl⟩;simp only[ZE,seval,e1,Int.add_zero,wam,sc_len,sc_h0,sc_h1,sc_h3,sc_set1,sc_ren,sc_noRefs];refine⟨by kernel_rfl,⟨by omega,by omega,by omega⟩,ECall'.i hk ?_⟩;simp only[ZE,seval,sc_len,sc_h0,sc_h1,sc_h3,sc_set1,sc_ren,sc_noRefs];refine⟨[],[],?_⟩;simp only[ZE,seval,sameKind,AV.core,sc_len,sc_h0,sc_h1,sc_h3,sc_set1,sc_ren,sc_noRefs]
theorem sign0_cl(s:ByteArray)(a:Nat)(hs:s.size≤9223372036854775807)(ha:a≤s.size)(h1:isF s a 0 [4]=false)(h2:preF (s.extract a s.size) ⟨#[45,62]⟩=false)(h3:preF (s.extract a s.size) ⟨#[61,61]⟩=false):
  FnL prog 104 [.bp 1 0] [(1,.box (scA s a .nils))] (fun V ol new=>V= .d (eB false)∧ol=[(1,.box (scA s a .nils))]∧new=[]):=by
 refine FnL.of_eC (own:=[]) chL [0] mixed func104 rfl call104 ntmps104 (zle rfl) results104 ?_;have hi:=is_cl s a 0 [4] hs (by omega) (by simp);have hp:=hasPre_c (s.extract a s.size) ⟨#[45,62]⟩;have hq:=hasPre_c (s.extract a s.size) ⟨#[61,61]⟩;rw[h1]at hi;rw[h2]at hp;rw[h3]at hq;simp only[ZE,seval,Int.natCast_zero]at hi;simp only[ZE,seval]at hp;simp only[ZE,seval]at hq;simp only[ZE,seval,sc_len,sc_h0,sc_h1,sc_h3,sc_set1,sc_ren,sc_noRefs];refine eloop chL mixed 2 (fun _=>True) (fun i=>([(0,.bp 1 0),(5,.d (.sl [[.lit (.string ⟨#[45,62]⟩)],[.lit (.string ⟨#[61,61]⟩)]])),(6,.d (eI 2)),(7,.d (eI i))],[(1,.box (scA s a .nils))])) trivial ?_ ?_ (fun i hi' _=> ?_)
 ·simp only[ZE,seval]
 ·simp only[ZE,seval]
 rcases(show i=0∨i=1∨i=2 by omega)with rfl | rfl | rfl
 ·simp only[ZE,seval,wam,sc_len,sc_h0,sc_h1,sc_h3,sc_set1,sc_ren,sc_noRefs];refine⟨by kernel_rfl,⟨by omega,by omega,by omega⟩,ECall'.i hp ?_⟩;simp only[ZE,seval,sc_len,sc_h0,sc_h1,sc_h3,sc_set1,sc_ren,sc_noRefs];rfl
 ·simp only[ZE,seval,wam,sc_len,sc_h0,sc_h1,sc_h3,sc_set1,sc_ren,sc_noRefs];refine⟨by kernel_rfl,⟨by omega,by omega,by omega⟩,ECall'.i hq ?_⟩;simp only[ZE,seval,sc_len,sc_h0,sc_h1,sc_h3,sc_set1,sc_ren,sc_noRefs];rfl
 ·simp only[ZE,seval,sc_len,sc_h0,sc_h1,sc_h3,sc_set1,sc_ren,sc_noRefs];refine EFn.gV [(1,1)] hi ?_ ?_
  ·simp only[ZE,seval,sc_len,sc_h0,sc_h1,sc_h3,sc_set1,sc_ren,sc_noRefs]
  rintro V ol new ⟨rfl,rfl,rfl⟩;obtain⟨vc,ds,hz⟩:=sc_frzc (om [(1,.box (scA s a .nils))]) s a;simp only[ZE,seval,hz,sc_len,sc_h0,sc_h1,sc_h3,sc_set1,sc_ren,sc_noRefs];refine ECallC.i (V:=.d (eB false)) (fun h=>by cases h) ?_;simp only[ZE,seval,sc_len,sc_h0,sc_h1,sc_h3,sc_set1,sc_ren,sc_noRefs];refine⟨[],[],?_⟩;simp only[ZE,seval,sameKind,AV.core,sc_len,sc_h0,sc_h1,sc_h3,sc_set1,sc_ren,sc_noRefs]
def zSc:List Value:=.string ⟨#[]⟩:: .int .i64 0::(zTb++[.slice none 0 0])
theorem tZ185:zeroOf prog 185=some zSc:=by kernel_rfl
def zS:List AV:=zSc.map cellAV
theorem zS_len:zS.length=259:=rfl
theorem zS_len1:(zS.drop 1).length =258:=rfl
theorem sc_fill(s:ByteArray):(AV.d (D.lit (Value.string s))::(List.take 1 (List.drop 1 zS)++tabA clsN++List.drop 257 (List.drop 1 zS)))=scA s 0 .nils :=by
 have e1:List.take 1 (List.drop 1 zS)=[.d (.lit (.int .i64 0))]:=rfl;have e2:List.drop 257 (List.drop 1 zS)=[.nils]:=by kernel_rfl
 rw[e1,e2];rfl
theorem sc_allD(s:ByteArray)(a:Int):allD (scA s a .nils)=none:=by
 have key: ∀k:List Nat,allD ((k.map fun b=>AV.d (eU8 (clsN b)))++[.nils])=none:=by
  intro k
  induction k with
  | nil=>rfl
  | cons b k ih=>simp only[wae,wak,allD,ih,wao]
 unfold scA tabA;simp only[allD,key,wao]
theorem sc_ones(O:Objs)(s:ByteArray)(a:Int):ones O (scA s a .nils)=True:=by
 have key: ∀k:List Nat,ones O ((k.map fun b=>AV.d (eU8 (clsN b)))++[.nils]):=by
  intro k
  induction k with
  | nil=>exact⟨trivial,trivial⟩
  | cons b k ih=>exact⟨rfl,ih⟩
 exact eq_true ⟨rfl,rfl,key _⟩
theorem tab_ones1(O:Objs)(f:Nat→Nat):ones O (tabA f)=True:=eq_true (tab_ones O f)
theorem lexBad_c(s:ByteArray)(h0:0<s.size)(hs:s.size≤8000)(h1:isF s 0 0 [3]=false)(h2:preF (s.extract 0 s.size) ⟨#[47,47]⟩=false)(h3:isF s 0 0 [1,2]=false)(h4:isF s 0 0 [4]=false)(h5:preF (s.extract 0 s.size) ⟨#[45,62]⟩=false)(h6:preF (s.extract 0 s.size) ⟨#[61,61]⟩=false):
  FnP prog 63 [.lit (.string s)] (.tup [.d (.sl []),.d (eI 0),.d (eI 5)]) []:=by
 refine FnP.of_eC (own:=[]) chL mixed func63 rfl call63 ntmps63 (zle rfl) results63 (fun hok=> ?_);have c1:=space0_cl s 0 (by omega) (by omega) h1 h2;have c2:=word0_cl s 0 (by omega) (by omega) h3;have c3:=sign0_cl s 0 (by omega) (by omega) h4 h5 h6;have cc:=classOf_c;have e0:decide ((s.size:Int)>8000)=false:=by simp; omega
 simp only[ZE,seval,e0];refine EFn.p ?_;simp only[ZE,seval];refine ECall.i (cc) ?_;simp only[ZE,seval,sc_len,sc_h0,sc_h1,sc_h3,sc_set1,sc_ren,sc_noRefs,tZ185,←zS.eq_1,zS_len,zS_len1,tabD_map,tab_len,sc_fill,sc_allD,sc_ones,tab_ones1];refine eloop chL mixed 0 (fun _=>True) (fun _=>([(0,.d (.lit (.string s))),(2,.nils),(3,.d (eI 0)),(4,.d (eI 0)),(5,.bp 15 0),(6,.bp 6 0)],[(15,.box (scA s 0 .nils)),(6,.box [.d (.clo (.func 102) [] []),.d (.clo (.func 103) [] []),.d (.clo (.func 104) [] [])])])) trivial ?_ ?_ (fun i hi _=> ?_)
 ·simp only[ZE,seval]
 ·simp only[ZE,seval]
 have e1:decide ((0:Int)<(s.size:Int))=true:=by simp; omega
 simp only[ZE,seval,e1,sc_len,sc_h0,sc_h1,sc_h3,sc_set1,sc_ren,sc_noRefs];refine eloop chL mixed 3 (fun _=>True) (fun i=>([(0,.d (.lit (.string s))),(2,.nils),(3,.d (eI 0)),(4,.d (eI 0)),(5,.bp 15 0),(24,.d (.agg [.clo (.func 102) [] [],.clo (.func 103) [] [],.clo (.func 104) [] []])),(25,.d (eI i))],[(15,.box (scA s 0 .nils))])) trivial ?_ ?_ (fun i hi _=> ?_)
 ·simp only[ZE,seval]
 ·simp only[ZE,seval]
 rcases(show i=0∨i=1∨i=2∨i=3 by omega)with rfl | rfl | rfl | rfl
 ·simp only[ZE,seval,wam,sc_len,sc_h0,sc_h1,sc_h3,sc_set1,sc_ren,sc_noRefs];refine EFn.gV [(1,15)] c1 ?_ ?_
  ·simp only[ZE,seval,sc_len,sc_h0,sc_h1,sc_h3,sc_set1,sc_ren,sc_noRefs]
  rintro V ol new ⟨rfl,rfl,rfl⟩;simp only[ZE,seval,sc_len,sc_h0,sc_h1,sc_h3,sc_set1,sc_ren,sc_noRefs];rfl
 ·simp only[ZE,seval,wam,sc_len,sc_h0,sc_h1,sc_h3,sc_set1,sc_ren,sc_noRefs];refine EFn.gV [(1,15)] c2 ?_ ?_
  ·simp only[ZE,seval,sc_len,sc_h0,sc_h1,sc_h3,sc_set1,sc_ren,sc_noRefs]
  rintro V ol new ⟨rfl,rfl,rfl⟩;simp only[ZE,seval,sc_len,sc_h0,sc_h1,sc_h3,sc_set1,sc_ren,sc_noRefs];rfl
 ·simp only[ZE,seval,wam,sc_len,sc_h0,sc_h1,sc_h3,sc_set1,sc_ren,sc_noRefs];refine EFn.gV [(1,15)] c3 ?_ ?_
  ·simp only[ZE,seval,sc_len,sc_h0,sc_h1,sc_h3,sc_set1,sc_ren,sc_noRefs]
  rintro V ol new ⟨rfl,rfl,rfl⟩;simp only[ZE,seval,sc_len,sc_h0,sc_h1,sc_h3,sc_set1,sc_ren,sc_noRefs];rfl
 ·simp only[ZE,seval,sc_len,sc_h0,sc_h1,sc_h3,sc_set1,sc_ren,sc_noRefs];exact(show drawB _ _ _=true from by kernel_rfl)
theorem parseBad_c(s:ByteArray)(h:FnP prog 63 [.lit (.string s)] (.tup [.d (.sl []),.d (eI 0),.d (eI 5)]) []):FnP prog 64 [.lit (.string s)] (.tup [.d (.agg [.sl []]),.d (eI 0),.d (eI 5)]) []:=by
 refine FnP.of_eC (own:=[]) (fun i=>if i=2003 then [.flt ⟨[(0,none),(1,none),(2,none),(3,some [1,2]),(4,some [2]),(5,some [])]⟩ ⟨[],[]⟩]else []) mixed func64 rfl call64 ntmps64 (zle rfl) results64 (fun hok=> ?_);simp only[ZE,seval];refine EFn.p ?_;simp only[ZE,seval];have hc:=h;simp only[ZE,seval]at hc;refine ECall.i hc ?_;clear hc;simp only[ZE,seval];kernel_rfl
theorem kind0_c:FnP prog 186 [.lit (.string ⟨#[]⟩)] (.d (eI 0)) []:=by
 refine FnP.of_eC (own:=[]) (fun _=>[]) mixed func186 rfl call186 ntmps186 (zle rfl) results186 (fun hok=> ?_);have c2:=word0_cl ⟨#[]⟩ 0 (by decide) (by decide) rfl;have c3:=sign0_cl ⟨#[]⟩ 0 (by decide) (by decide) rfl rfl rfl;have cc:=classOf_c;simp only[ZE,seval,Int.natCast_zero]at c2;simp only[ZE,seval,Int.natCast_zero]at c3;simp only[ZE,seval];refine eloop (fun _=>[]) mixed 2 (fun _=>True) (fun i=>([(0,.d (.lit (.string ⟨#[]⟩))),(6,.d (.agg [.clo (.func 103) [] [],.clo (.func 104) [] []])),(7,.d (eI i))],[])) trivial ?_ ?_ (fun i hi _=> ?_)
 ·simp only[ZE,seval]
 ·simp only[ZE,seval]
 rcases(show i=0∨i=1∨i=2 by omega)with rfl | rfl | rfl
 ·simp only[ZE,seval,wam];refine EFn.p ?_;simp only[ZE,seval];refine ECall.i (cc) ?_;simp only[ZE,seval,sc_len,sc_h0,sc_h1,sc_h3,sc_set1,sc_ren,sc_noRefs,tZ185,←zS.eq_1,zS_len,zS_len1,tabD_map,tab_len,sc_fill,sc_allD,sc_ones,tab_ones1];refine EFn.gV [(1,13)] c2 ?_ ?_
  ·simp only[ZE,seval,sc_len,sc_h0,sc_h1,sc_h3,sc_set1,sc_ren,sc_noRefs]
  rintro V ol new ⟨rfl,rfl,rfl⟩;simp only[ZE,seval,sc_len,sc_h0,sc_h1,sc_h3,sc_set1,sc_ren,sc_noRefs];rfl
 ·simp only[ZE,seval,wam];refine EFn.p ?_;simp only[ZE,seval];refine ECall.i (cc) ?_;simp only[ZE,seval,sc_len,sc_h0,sc_h1,sc_h3,sc_set1,sc_ren,sc_noRefs,tZ185,←zS.eq_1,zS_len,zS_len1,tabD_map,tab_len,sc_fill,sc_allD,sc_ones,tab_ones1];refine EFn.gV [(1,13)] c3 ?_ ?_
  ·simp only[ZE,seval,sc_len,sc_h0,sc_h1,sc_h3,sc_set1,sc_ren,sc_noRefs]
  rintro V ol new ⟨rfl,rfl,rfl⟩;simp only[ZE,seval,sc_len,sc_h0,sc_h1,sc_h3,sc_set1,sc_ren,sc_noRefs];rfl
 ·simp only[ZE,seval]
theorem isName0_c:FnP prog 131 [.lit (.string ⟨#[]⟩)] (.d (eB false)) []:=by
 refine FnP.of_eC (own:=[]) (fun _=>[]) mixed func131 rfl call131 ntmps131 (zle rfl) results131 (fun hok=> ?_);have hk:=kind0_c;simp only[ZE,seval];refine EFn.p ?_;simp only[ZE,seval];have hc:=hk;simp only[ZE,seval]at hc;refine ECall.i hc ?_;clear hc;simp only[ZE,seval]
open Go.Aw Go.RowKit
set_option maxRecDepth 1000000
theorem rowAt_le(p:Program)(fits:TypeId→Bool)(d:Nat)(e:TypeId){c c':Nat}(off n:Nat)(hc:c≤c')(h:rowAt p fits d e c off n=true):rowAt p fits d e c' off n=true:=by
 cases d with
 | zero=>exact h
 | succ d=>
  unfold rowAt at h ⊢;by_cases hs:p.cellsOf e=0
  ·simp only[hs,if_true]at h;cases h
  ·simp only[hs,if_false,Bool.or_eq_true,Bool.and_eq_true,decide_eq_true_eq]at h ⊢;rcases h with⟨⟨h1,h2⟩,h3⟩ | ⟨h1,h2⟩
   ·exact .inl ⟨⟨h1,by omega⟩,h3⟩
   ·exact .inr ⟨by omega,h2⟩
theorem liesAt_le(p:Program)(e:TypeId){c c':Nat}(off:Nat)(hc:c≤c'): ∀(d:Nat) (u:TypeId) (n:Nat),liesAt p d e c off u n=true→liesAt p d e c' off u n=true
 | 0,_,_,h=>h
 | d+1,u,n,h=>by
  unfold liesAt at h ⊢;simp only[Bool.or_eq_true]at h ⊢;rcases h with h | h
  ·exact .inl (rowAt_le p _ _ e off n hc h)
  ·right;split at h
   ·exact liesAt_le p e off hc d _ _ h
   ·cases h
theorem copy_w:CopyW prog 130 161 3:=by
 intro w b cap cur hb hcap hsz;have hcell: ∀v,cur[0]? =some v→w.cell? ⟨b,0,none⟩=some v:=fun v h=>by simp[World.cell?,hb,h]
 have hsh:w.shape? b=some (161,cap*3):=by simp[World.shape?,hb,hsz]
 have hfz:w.frozen? ⟨b,0,none⟩=false:=by simp[World.frozen?,hb]
 obtain⟨j,hj,hjs⟩:=Option.map_eq_some_iff.1 (show(prog.info? 159).map (·.size)=some 2 by kernel_rfl);have hlies:liesAt prog prog.depth 161 (cap*3 / prog.cellsOf 161) 0 159 1=true:=by
  have e1:prog.cellsOf 161=3:=by kernel_rfl
  rw[e1,Nat.mul_div_cancel _ (by decide)];exact liesAt_le _ _ 0 hcap _ _ _ (by kernel_rfl:liesAt prog prog.depth 161 1 0 159 1=true)
 have mixed:=mixed;refine⟨fun h=> ?_,fun h=> ?_⟩
 ·have h0:=hcell _ h
  go_enter func130,ntmps130
  go_wp2;rw[Lib.run_to_unsafe w ⟨b,0,none⟩ underlying157 underlying267 hj (by rw[hjs]; decide) hsh (by show 0<cap*3; omega)];simp only[Result.andThen];rw[Oper.upon_value];go_wp2;rw[run_callFunc_extern func185 (by kernel_rfl) (by kernel_rfl) (by kernel_rfl) (e:=Extern.AbiNoEscape.same) (by kernel_rfl)];rw[Lib.run_noEscape];simp only[Result.andThen];rw[Oper.upon_value];go_wp2;rw[Lib.run_from_unsafe w ⟨b,0,none⟩ underlying267 underlying157 hj hsh hlies];simp only[Result.andThen];rw[Oper.upon_value];go_wp2
  go_end0
  exact⟨rfl,rfl⟩
 ·have h0:=hcell _ h
  go_enter func130,ntmps130
  go_wp2;rw[Lib.run_neq_ptr_same w _ underlying157 hj];go_wp2
  go_end0
  exact⟨rfl,rfl⟩
theorem copy_enters(vs:Array Value)(W:World):(callFunc 130 vs).run prog W= .ok (.enter 130 vs) W:=by kernel_rfl
def prO(x:AV)(n:Nat)(ok:AV):AO:=.arr 161 3 (.deep [] [(0,x),(1,.ar 5 n),(2,ok)]) [[.lit undef,.lit undef,.lit undef]]
def txO(tx:List (List D)):AO:=.arr 5 1 .flat tx
theorem copy_cl(x0:AV)(hx0:x0= .d (.lit (.pointer none))∨x0= .ep 0 1 0 0)(tx:List (List D))(ok:AV):
  FnL prog 130 [.ep 0 1 0 0] [(0,prO x0 tx.length ok),(5,txO tx)] (fun V ol new=>V= .tup []∧ol=[(0,prO (.ep 0 1 0 0) tx.length ok),(5,txO tx)]∧new=[]):=
 copy_own (fun vs W=>copy_enters vs W) copy_w (by decide) x0 hx0 [(0,x0),(1,.ar 5 tx.length),(2,ok)] [.lit undef,.lit undef,.lit undef] [(5,txO tx)] rfl
theorem pr_free(x0:AV)(hx0:x0= .d (.lit (.pointer none))∨x0= .ep 0 1 0 0)(tx:List (List D))(ok:D)(args:List AV)(ha:AV.noRefs [1999] args):
  (freeO 1999 [(0,prO x0 tx.length (.d ok)),(5,txO tx)]∧AV.noRefs [1999] args)∧hnOk (om [(0,prO x0 tx.length (.d ok)),(5,txO tx)]) [.ar 0 1,.ar 5 tx.length]∧AV.noRefs [1999] [.ar 0 1,.ar 5 tx.length]:=by
 rcases hx0 with rfl | rfl <;> simp[prO,txO,freeO,AO.noRef,AV.noRefs,AV.noRef,hnOk,om,ha]
theorem write_cl(x0:AV)(hx0:x0= .d (.lit (.pointer none))∨x0= .ep 0 1 0 0)(tx:List (List D))(ok:Bool)(s:ByteArray)(hl:tx.length+s.size≤1000000):
  FnL prog 87 [.ep 0 1 0 0,.d (.lit (.string s))] [(0,prO x0 tx.length (.d (eB ok))),(5,txO tx)] (fun V ol new=>V= .tup [.d (eI s.size),.d (.lit .nilIface)]∧ol=[(0,prO (.ep 0 1 0 0) (tx.length+s.size) (.d (eB ok))),(5,txO (tx++strRows s))]∧new=[]):=by
 refine FnL.of_eH 1999 [.ar 0 1,.ar 5 tx.length] (own:=[]) (fun _=>[]) [] mixed func87 rfl call87 ntmps87 (zle rfl) results87 (pr_free x0 hx0 tx (eB ok) _ (by simp[AV.noRefs,AV.noRef])) (fun gs=> ?_);have hc:=copy_cl x0 hx0 tx (.d (eB ok));simp only[ZE,seval,prO,txO];refine EFn.gV [(0,0),(5,5)] hc ?_ ?_
 ·rcases hx0 with rfl | rfl
  ·simp only[ZE,seval,prO,txO]
  ·simp only[ZE,seval,prO,txO]
 rintro V ol new ⟨rfl,rfl,rfl⟩;simp only[ZE,seval,prO,txO,retHE.eq_def,eRetH.eq_def,hdH.eq_1,hdH.eq_2,kpH.eq_1,kpH.eq_2,hdl.eq_def,sameKind0.eq_def];refine⟨by omega,by rw[wab,strRows_length],[1999],[],?_⟩;simp only[ZE,seval,sameKind,AV.core,retHE.eq_def,eRetH.eq_def,hdH.eq_1,hdH.eq_2,kpH.eq_1,kpH.eq_2,hdl.eq_def,sameKind0.eq_def]
theorem name_cl(x0:AV)(hx0:x0= .d (.lit (.pointer none))∨x0= .ep 0 1 0 0)(tx:List (List D))(ok nm:Bool)(s:ByteArray)(hl:tx.length+s.size≤1000000)(hn:FnP prog 131 [.lit (.string s)] (.d (eB nm)) []):
  FnL prog 88 [.ep 0 1 0 0,.d (.lit (.string s))] [(0,prO x0 tx.length (.d (eB ok))),(5,txO tx)] (fun V ol new=>V= .tup []∧ol=[(0,prO (.ep 0 1 0 0) (tx.length+s.size) (.d (eB (ok&&nm)))),(5,txO (tx++strRows s))]∧new=[]):=by
 refine FnL.of_eH 1999 [.ar 0 1,.ar 5 tx.length] (own:=[]) (fun _=>[]) [] mixed func88 rfl call88 ntmps88 (zle rfl) results88 (pr_free x0 hx0 tx (eB ok) _ (by simp[AV.noRefs,AV.noRef])) (fun gs=> ?_);have hw:=write_cl x0 hx0 tx (ok&&nm) s hl;cases ok with
 | true=>
  simp only[ZE,seval,prO,txO];refine EFn.p ?_;simp only[ZE,seval];have hc:=hn;simp only[ZE,seval]at hc;refine ECall.i hc ?_;clear hc;simp only[ZE,seval,prO,txO,Bool.true_and];refine EFn.gV [(0,0),(5,5)] hw ?_ ?_
  ·rcases hx0 with rfl | rfl
   ·simp only[ZE,seval,prO,txO,Bool.true_and]
   ·simp only[ZE,seval,prO,txO,Bool.true_and]
  rintro V ol new ⟨rfl,rfl,rfl⟩;simp only[ZE,seval,prO,txO,retHE.eq_def,eRetH.eq_def,hdH.eq_1,hdH.eq_2,kpH.eq_1,kpH.eq_2,hdl.eq_def,sameKind0.eq_def];refine⟨[1999],[],?_⟩;simp only[ZE,seval,sameKind,AV.core,retHE.eq_def,eRetH.eq_def,hdH.eq_1,hdH.eq_2,kpH.eq_1,kpH.eq_2,hdl.eq_def,sameKind0.eq_def,Bool.true_and,Nat.le_add_right]
 | false=>
  simp only[ZE,seval,prO,txO,Bool.false_and];refine EFn.gV [(0,0),(5,5)] hw ?_ ?_
  ·rcases hx0 with rfl | rfl
   ·simp only[ZE,seval,prO,txO,Bool.false_and]
   ·simp only[ZE,seval,prO,txO,Bool.false_and]
  rintro V ol new ⟨rfl,rfl,rfl⟩;simp only[ZE,seval,prO,txO,retHE.eq_def,eRetH.eq_def,hdH.eq_1,hdH.eq_2,kpH.eq_1,kpH.eq_2,hdl.eq_def,sameKind0.eq_def];refine⟨[1999],[],?_⟩;simp only[ZE,seval,sameKind,AV.core,retHE.eq_def,eRetH.eq_def,hdH.eq_1,hdH.eq_2,kpH.eq_1,kpH.eq_2,hdl.eq_def,sameKind0.eq_def,Bool.false_and]
theorem write_n{n:Nat}{tx:List (List D)}(hn:n=tx.length)(x0:AV)(hx0:x0= .d (.lit (.pointer none))∨x0= .ep 0 1 0 0)(ok:Bool)(s:ByteArray)(hl:n+s.size≤1000000):
  FnL prog 87 [.ep 0 1 0 0,.d (.lit (.string s))] [(0,prO x0 n (.d (eB ok))),(5,txO tx)] (fun V ol new=>V= .tup [.d (eI s.size),.d (.lit .nilIface)]∧ol=[(0,prO (.ep 0 1 0 0) (n+s.size) (.d (eB ok))),(5,txO (tx++strRows s))]∧new=[]):=by
 subst hn;exact write_cl x0 hx0 tx ok s hl
theorem name_n{n:Nat}{tx:List (List D)}(hn:n=tx.length)(ok:Bool){nm:Bool}{s:ByteArray}(hq:FnP prog 131 [.lit (.string s)] (.d (eB nm)) [])(hl:n+s.size≤1000000):
  FnL prog 88 [.ep 0 1 0 0,.d (.lit (.string s))] [(0,prO (.ep 0 1 0 0) n (.d (eB ok))),(5,txO tx)] (fun V ol new=>V= .tup []∧ol=[(0,prO (.ep 0 1 0 0) (n+s.size) (.d (eB (ok&&nm)))),(5,txO (tx++strRows s))]∧new=[]):=by
 subst hn;exact name_cl (.ep 0 1 0 0) (.inr rfl) tx ok nm s hl hq
theorem tx_len{n:Nat}{tx:List (List D)}(hn:n=tx.length)(s:ByteArray):n+s.size=(tx++strRows s).length :=by rw[wab,strRows_length,hn]
theorem list0_cl{n:Nat}{tx:List (List D)}(hn:n=tx.length)(ok:Bool)(hl:n+2≤1000000)(f:Nat):
  FnL prog 89 [.ep 0 1 0 0,.d (.sl []),.clo (.func f) [.ep 0 1 0 0] []] [(0,prO (.ep 0 1 0 0) n (.d (eB ok))),(5,txO tx)] (fun V ol new=>V= .tup []∧ol=[(0,prO (.ep 0 1 0 0) (n+1+1) (.d (eB ok))),(5,txO (tx++strRows ⟨#[40]⟩++strRows ⟨#[41]⟩))]∧new=[]):=by
 subst hn;refine FnL.of_eH 1999 [.ar 0 1,.ar 5 tx.length] (own:=[]) (fun _=>[]) [] mixed func89 rfl call89 ntmps89 (zle rfl) results89 (pr_free _ (.inr rfl) tx (eB ok) _ (by simp[AV.noRefs,AV.noRef])) (fun gs=> ?_);have h1:=write_n (n:=tx.length) rfl (.ep 0 1 0 0) (.inr rfl) ok ⟨#[40]⟩ (by show _+1≤_; omega);have e1:(⟨#[40]⟩:ByteArray).size =1:=rfl;have e2:(⟨#[41]⟩:ByteArray).size =1:=rfl;rw[e1]at h1;have h2:=write_n (tx_len (n:=tx.length) (tx:=tx) rfl ⟨#[40]⟩) (.ep 0 1 0 0) (.inr rfl) ok ⟨#[41]⟩ (by rw[e1,e2]; omega);rw[e1,e2]at h2;simp only[ZE,seval,prO,txO];refine EFn.gV [(0,0),(5,5)] h1 ?_ ?_
 ·simp only[ZE,seval,prO,txO]
 rintro V ol new ⟨rfl,rfl,rfl⟩;simp only[ZE,seval,prO,txO];refine eloop (fun _=>[]) mixed 0 (fun _=>True) (fun _=>([(0,.ep 0 1 0 0),(13,.d (eI 0)),(14,.d (eI 0))],[(1999,.gh [.ar 0 1,.ar 5 tx.length] gs),(0,prO (.ep 0 1 0 0) (tx.length+1) (.d (eB ok))),(5,txO (tx++strRows ⟨#[40]⟩))])) trivial ?_ ?_ (fun i hi _=> ?_)
 ·simp only[ZE,seval]
 ·simp only[ZE,seval,prO,txO]
 simp only[ZE,seval,prO,txO];refine EFn.gV [(0,0),(5,5)] h2 ?_ ?_
 ·simp only[ZE,seval,prO,txO]
 rintro V ol new ⟨rfl,rfl,rfl⟩;simp only[ZE,seval,prO,txO,retHE.eq_def,eRetH.eq_def,hdH.eq_1,hdH.eq_2,kpH.eq_1,kpH.eq_2,hdl.eq_def,sameKind0.eq_def];refine⟨[1999],[],?_⟩;simp only[ZE,seval,sameKind,AV.core,retHE.eq_def,eRetH.eq_def,hdH.eq_1,hdH.eq_2,kpH.eq_1,kpH.eq_2,hdl.eq_def,sameKind0.eq_def]
set_option maxRecDepth 100000
set_option maxHeartbeats 2000000
def sMod:ByteArray:=⟨#[109,111,100,117,108,101,32]⟩
def sAt:ByteArray:=⟨#[32,64,32]⟩
def sOpen:ByteArray:=⟨#[32,123,10]⟩
def sEnd:ByteArray:=⟨#[125,10]⟩
def bare:List D:=[.lit (.string ⟨#[]⟩),.lit (.string ⟨#[]⟩),.sl [],.sl []]
theorem printBad_c:FnP prog 58 [.agg [.sl [bare]]] (.tup [.d (.lit (.string ⟨#[]⟩)),.d (eI 90)]) []:=by
 refine FnP.of_eC (own:=[(10,[])]) (fun i=>if i=1 then [.adH 10 0 1 5 5 1]else []) mixed func58 rfl call58 ntmps58 (zle rfl) results58 (fun hok=> ?_);have w1:=write_n (n:=0) (tx:=[]) rfl (.d (.lit (.pointer none))) (.inl rfl) true sMod (by decide);have l1:=tx_len (n:=0) (tx:=[]) rfl sMod;have w2:=name_n l1 true isName0_c (by decide);have l2:=tx_len l1 ⟨#[]⟩;have w3:=list0_cl l2 (true&&false) (by decide) 88;have l3:=tx_len (tx_len l2 ⟨#[40]⟩) ⟨#[41]⟩;have w4:=write_n l3 (.ep 0 1 0 0) (.inr rfl) (true&&false) sAt (by decide);have l4:=tx_len l3 sAt;have w5:=name_n l4 (true&&false) isName0_c (by decide);have l5:=tx_len l4 ⟨#[]⟩;have w6:=write_n l5 (.ep 0 1 0 0) (.inr rfl) (true&&false&&false) sOpen (by decide);have l6:=tx_len l5 sOpen;have w7:=write_n l6 (.ep 0 1 0 0) (.inr rfl) (true&&false&&false) sEnd (by decide);have z1:sMod.size=7:=rfl;have z2:(⟨#[]⟩:ByteArray).size =0:=rfl;have z3:(⟨#[40]⟩:ByteArray).size =1:=rfl;have z4:(⟨#[41]⟩:ByteArray).size =1:=rfl;have z5:sAt.size=3:=rfl;have z6:sOpen.size=3:=rfl;have z7:sEnd.size=2:=rfl;simp only[ZE,seval,bare];obtain⟨T,hT⟩:=zX ([]++strRows sMod++strRows ⟨#[]⟩++strRows ⟨#[40]⟩++strRows ⟨#[41]⟩++strRows sAt++strRows ⟨#[]⟩++strRows sOpen++strRows sEnd);obtain⟨U,hU⟩:=zX ([]++strRows sMod++strRows ⟨#[]⟩++strRows ⟨#[40]⟩++strRows ⟨#[41]⟩++strRows sAt++strRows ⟨#[]⟩++strRows sOpen);rw[hU]at w7 hT;refine eloop (fun _=>[]) mixed 1 (fun _=>True) (fun i=>([(2,.d (.lit (.string ⟨#[]⟩))),(3,.d (eI 0)),(4,.ep 10 1 0 0),(12,.d (.sl [bare])),(13,.d (eI 1)),(14,.d (eI i))],[(10,if i=0 then .arr 161 3 (.deep [] [(0,.d (.lit (.pointer none))),(1,.ar 5 0),(2,.d (eB true))]) [[.lit undef,.lit undef,.lit undef]]else prO (.ep 10 1 0 0) 17 (.d (eB false))),(5,txO (if i=0 then []else T))])) trivial ?_ ?_ (fun i hi _=> ?_)
 ·simp only[ZE,seval,bare]
 ·simp only[ZE,seval,txO]
 rcases(show i=0∨i=1 by omega)with rfl | rfl
 ·simp only[ZE,seval,txO,bare,wam];refine EFn.gV [(0,10),(5,5)] (w1) ?_ ?_
  ·simp only[ZE,seval,prO,txO,z1,z2,z3,z4,z5,z6,z7,sMod,sAt,sOpen,sEnd]
   all_goals rfl
  rintro V ol new ⟨rfl,rfl,rfl⟩;simp only[ZE,seval,prO,txO,z1,z2,z3,z4,z5,z6,z7];refine EFn.gV [(0,10),(5,5)] (w2) ?_ ?_
  ·simp only[ZE,seval,prO,txO,z1,z2,z3,z4,z5,z6,z7,sMod,sAt,sOpen,sEnd]
   all_goals rfl
  rintro V ol new ⟨rfl,rfl,rfl⟩;simp only[ZE,seval,prO,txO,z1,z2,z3,z4,z5,z6,z7];refine EFn.gV [(0,10),(5,5)] (w3) ?_ ?_
  ·simp only[ZE,seval,prO,txO,z1,z2,z3,z4,z5,z6,z7,sMod,sAt,sOpen,sEnd]
   all_goals rfl
  rintro V ol new ⟨rfl,rfl,rfl⟩;simp only[ZE,seval,prO,txO,z1,z2,z3,z4,z5,z6,z7];refine EFn.gV [(0,10),(5,5)] (w4) ?_ ?_
  ·simp only[ZE,seval,prO,txO,z1,z2,z3,z4,z5,z6,z7,sMod,sAt,sOpen,sEnd]
   all_goals rfl
  rintro V ol new ⟨rfl,rfl,rfl⟩;simp only[ZE,seval,prO,txO,z1,z2,z3,z4,z5,z6,z7];refine EFn.gV [(0,10),(5,5)] (w5) ?_ ?_
  ·simp only[ZE,seval,prO,txO,z1,z2,z3,z4,z5,z6,z7,sMod,sAt,sOpen,sEnd]
   all_goals rfl
  rintro V ol new ⟨rfl,rfl,rfl⟩;simp only[ZE,seval,prO,txO,z1,z2,z3,z4,z5,z6,z7];refine EFn.gV [(0,10),(5,5)] (w6) ?_ ?_
  ·simp only[ZE,seval,prO,txO,z1,z2,z3,z4,z5,z6,z7,sMod,sAt,sOpen,sEnd]
   all_goals rfl
  rintro V ol new ⟨rfl,rfl,rfl⟩;simp only[ZE,seval,prO,txO,z1,z2,z3,z4,z5,z6,z7];refine eloop (fun _=>[]) mixed 0 (fun _=>True) (fun _=>([(2,.d (.lit (.string ⟨#[]⟩))),(3,.d (eI 0)),(4,.ep 10 1 0 0),(12,.d (.sl [bare])),(13,.d (eI 1)),(14,.d (eI 0)),(46,.d (eI 0)),(47,.d (eI 0))],[(10,prO (.ep 10 1 0 0) 15 (.d (eB false))),(5,txO U)])) trivial ?_ ?_ (fun i hi _=> ?_)
  ·simp only[ZE,seval,bare]
  ·simp only[ZE,seval,prO,txO,←hU,waj]
  simp only[ZE,seval,prO,txO];refine EFn.gV [(0,10),(5,5)] (w7) ?_ ?_
  ·simp only[ZE,seval,prO,txO,z1,z2,z3,z4,z5,z6,z7,sMod,sAt,sOpen,sEnd]
   all_goals rfl
  rintro V ol new ⟨rfl,rfl,rfl⟩;simp only[ZE,seval,prO,txO,z1,z2,z3,z4,z5,z6,z7];exact⟨⟨rfl,rfl⟩,by rw[hT]⟩
 ·simp only[ZE,seval,prO,txO]
theorem getR_some{s:List Obj}{id:Nat}{d:List Nat}(h:getS s id=some d):getR s id=(d,0):=by unfold getR; rw[h]
theorem getR_none{s:List Obj}{id:Nat}(h:getS s id=none):getR s id=([],180):=by unfold getR; rw[h]
theorem getR_congr{s t:List Obj}{id id':Nat}(h:getS s id=getS t id'):getR s id=getR t id':=by unfold getR; rw[h]
theorem getR_E{s:List Obj}{id:Nat}:((getR s id).2 =0∧ ∃d,getS s id=some d∧(getR s id).1 =d)∨((getR s id).2 =180∧getS s id=none∧(getR s id).1 =[]):=by
 cases h:getS s id with
 | some d=>rw[getR_some h]; exact .inl ⟨rfl,d,rfl,rfl⟩
 | none=>rw[getR_none h]; exact .inr ⟨rfl,rfl,rfl⟩
theorem lk_at{s:List Obj}(h:okS s){i:Nat}(hi:i<s.length):lk s s[i].1 =some s[i].2 :=(lk_mem h).1 (wag hi)
theorem isAt_of{s:List Obj}(h:okS s){id:Nat}{d:List Nat}(hl:lk s id=some d):isAt s id=true:=by
 cases hi:isAt s id with
 | true=>rfl
 | false=>rw[isAt_none h id hi]at hl; cases hl
theorem put_self{s:List Obj}(h:okS s)(a:List Nat):getS (putS s a) (digB a)=some ((getS s (digB a)).getD a):=by rw[getS_put h,if_pos rfl]
theorem put_D{s:List Obj}(h:okS s){a:List Nat}(hn:getS s (digB a)=none):(getR (putS s a) (digB a)).1 =a:=by rw[getR_some (put_self h a),hn]; rfl
theorem put_other{s:List Obj}(h:okS s){a:List Nat}{id:Nat}(hne:id≠digB a):getR (putS s a) id=getR s id:=getR_congr (by rw[getS_put h,if_neg hne])
theorem lk_set{s:List Obj}(h:okS s){i:Nat}(hi:i<s.length)(d:List Nat)(id:Nat):lk (s.set i (s[i].1,d)) id=if id=s[i].1 then some d else lk s id:=by
 have hs:=okS_set h hi d;split
 ·rename_i e;subst e;exact(lk_mem hs (x:=(s[i].1,d))).1 (List.mem_iff_getElem.2 ⟨i,by simpa using hi,by simp⟩)
 ·rename_i e;cases hl:lk s id with
  | none=>
   rw[lk_none]at hl ⊢;intro x hx;rcases List.mem_or_eq_of_mem_set hx with h1 | rfl
   ·exact hl x h1
   ·exact fun h2=>e h2.symm
  | some c=>
   have hm:=(lk_mem h (x:=(id,c))).2 hl;obtain⟨j,hj,hje⟩:=List.mem_iff_getElem.1 hm;have hne:i≠j:=by rintro rfl; rw[hje]at e; exact e rfl
   exact(lk_mem hs (x:=(id,c))).1 (List.mem_iff_getElem.2 ⟨j,by simpa using hj,by rw[List.getElem_set_ne hne]; exact hje⟩)
theorem xor_pow_ne(a k:Nat):a≠a ^^^ 2 ^ k:=by
 intro h;have h2:a ^^^ a=a ^^^ (a ^^^ 2 ^ k):=by rw[←h]
 rw[Nat.xor_self,←Nat.xor_assoc,Nat.xor_self,Nat.zero_xor]at h2;have:=Nat.two_pow_pos k;omega
theorem brk_dig{d:List Nat}{a b:Nat}(hn:d≠[])(hd: ∀x∈d,x<256)(hb:b<256):digB d≠digB (brkB d a b):=by
 have hp:0<d.length:=List.length_pos_iff.2 hn;have hk:a % d.length<d.length:=Nat.mod_lt _ hp;have hz:brkB d a b=d.set (a % d.length) (d[a % d.length] ^^^ 2 ^ (b % 8)):=by
  unfold brkB; rw[if_neg hn]; simp[List.getD,hk]
 rw[hz];have h2:2 ^ (b % 8)<256:=by
  have:2 ^ (b % 8)≤2 ^ 7:=Nat.pow_le_pow_right (by decide) (by have:=Nat.mod_lt b (show 8>0 by decide); omega);omega
 exact digB_set hd hk (Nat.xor_lt_two_pow (n:=8) (hd _ (wag hk)) h2) (xor_pow_ne _ _)
theorem broke{S:List Obj}(hS:okS S){d e:List Nat}{i:Nat}(hi:i<S.length)(hid:S[i].1 =digB d)(hdt:S[i].2 =d)(hne:digB d≠digB e):
  okS (S.set i (S[i].1,e))∧getS (S.set i (S[i].1,e)) (digB d)=none∧(damS (S.set i (S[i].1,e))).length =(damS S).length +1∧(damS (S.set i (S[i].1,e))).contains (digB d)=true∧
   putS (S.set i (S[i].1,e)) d=S∧uniS (S.set i (S[i].1,e)) S=S:=by
 have ho:=okS_set hS hi e;have hl:=lk_set hS hi e;have hg:getS (S.set i (S[i].1,e)) (digB d)=none:=by
  unfold getS;rw[hl,if_pos hid.symm];simp only[if_neg hne]
 have hS1:lk S (digB d)=some d:=by have:=lk_at hS hi; rw[hid,hdt]at this; exact this
 have hb1:soundB S[i]=true:=by unfold soundB; rw[hid,hdt]; simp
 have hb2:soundB (S[i].1,e)=false:=by unfold soundB; rw[hid]; simp[hne]
 refine⟨ho,hg,?_,?_,?_,?_⟩
 ·unfold damS;rw[waa,waa,←List.countP_eq_length_filter,←List.countP_eq_length_filter,List.countP_set hi];simp[hb1,hb2]
 ·unfold damS;simp only[List.contains_eq_mem,decide_eq_true_eq,wah,wal];exact⟨(S[i].1,e),⟨List.mem_iff_getElem.2 ⟨i,by simpa using hi,by simp⟩,by simp[hb2]⟩,hid⟩
 ·have hp:putS (S.set i (S[i].1,e)) d=insS (digB d,d) (S.set i (S[i].1,e)):=by unfold putS; rw[hg]
  rw[hp];refine ext_S (okS_ins ho) hS (fun id=> ?_);rw[lk_ins ho,hl];simp only;split
  ·rename_i h1; subst h1; exact hS1.symm
  ·rename_i h1; rw[if_neg (by rw[hid]; exact h1)]
 ·refine ext_S (okS_uni _ _ ho hS) hS (fun id=> ?_);rw[lk_uni _ _ ho hS,hl];split
  ·rename_i h1;rw[hid]at h1; subst h1;rw[hS1]; simp only[pickO];rw[if_pos ⟨hne,trivial⟩]
  ·cases lk S id with
   | none=>rfl
   | some c=>simp[pickO]
theorem pick_self(x:Option (List Nat))(id:Nat):pickO x x id=x:=by
 cases x with
 | none=>rfl
 | some d=>simp[pickO]
theorem uni_self{s:List Obj}(h:okS s):uniS s s=s:=ext_S (okS_uni _ _ h h) h (fun id=>by rw[lk_uni _ _ h h,pick_self])
theorem uni_again{s t:List Obj}(h:okS s)(ht:okS t):uniS (uniS s t) t=uniS s t:=by
 have hu:=okS_uni _ _ h ht;refine ext_S (okS_uni _ _ hu ht) hu (fun id=> ?_);rw[lk_uni _ _ hu ht,lk_uni _ _ h ht];cases lk s id with
 | none=>exact pick_self _ _
 | some d=>
  cases lk t id with
  | none=>rfl
  | some e=>
   by_cases hc: ¬id=digB d∧id=digB e
   ·have:pickO (some d) (some e) id=some e:=if_pos hc;rw[this];exact pick_self _ _
   ·have:pickO (some d) (some e) id=some d:=if_neg hc;rw[this];exact this
theorem uni_nil{s:List Obj}:uniS s []=s:=by cases s <;> rw[uniS]; simp
theorem getS_uni{s t:List Obj}(h:okS s)(ht:okS t)(id:Nat):getS (uniS s t) id=match getS s id with | some d=>some d | none=>getS t id:=by
 unfold getS;rw[lk_uni _ _ h ht];cases lk s id with
 | none=>cases lk t id <;> rfl
 | some d=>
  cases lk t id with
  | none=>
   by_cases h1:id=digB d
   ·simp only[pickO,if_pos h1]
   ·simp only[pickO,if_neg h1]
  | some e=>
   by_cases h1:id=digB d
   ·have e1:pickO (some d) (some e) id=some d:=if_neg (fun hc=>hc.1 h1);simp only[e1,if_pos h1]
   ·by_cases h2:id=digB e
    ·have e1:pickO (some d) (some e) id=some e:=if_pos ⟨h1,h2⟩;simp only[e1,if_neg h1,if_pos h2]
    ·have e1:pickO (some d) (some e) id=some d:=if_neg (fun hc=>h2 hc.2);simp only[e1,if_neg h1,if_neg h2]
theorem uni_get{s t:List Obj}(h:okS s)(ht:okS t)(id:Nat):
  ((getR (uniS s t) id).2 =0↔(getR s id).2 =0∨(getR t id).2 =0)∧((getR (uniS s t) id).2 =0→getR (uniS s t) id=getR s id∨getR (uniS s t) id=getR t id)∧(getR (uniS t s) id).2 =(getR (uniS s t) id).2 :=by
 have h1:=getS_uni h ht id;have h2:=getS_uni ht h id;cases ha:getS s id with
 | some d=>
  rw[ha]at h1 h2;rw[getR_some h1,getR_some ha];cases hb:getS t id with
  | some e=>rw[hb]at h2; rw[getR_some h2,getR_some hb]; simp
  | none=>rw[hb]at h2; rw[getR_some h2,getR_none hb]; simp
 | none=>
  rw[ha]at h1 h2;cases hb:getS t id with
  | some e=>rw[hb]at h1 h2; rw[getR_some h1,getR_some h2,getR_some hb,getR_none ha]; simp
  | none=>rw[hb]at h1 h2; rw[getR_none h1,getR_none h2,getR_none hb,getR_none ha]; simp
theorem idx_in{s:List Obj}(h:okS s){id:Nat}:(0≤idxO id s↔ ∃d,lk s id=some d):=by
 cases hi:isAt s id with
 | true=>
  rw[idxO_at h hi];obtain⟨_,_,hl⟩:=isAt_lk h id hi;exact⟨fun _=>⟨_,hl⟩,fun _=>by omega⟩
 | false=>
  rw[idxO_no h hi];have:=isAt_none h id hi;rw[this];simp
theorem uni_idx{s t:List Obj}(h:okS s)(ht:okS t){id:Nat}(hm:id∈s.map (·.1)++t.map (·.1)):0≤idxO id (uniS s t):=by
 rw[idx_in (okS_uni _ _ h ht),lk_uni _ _ h ht];have:(∃d,lk s id=some d)∨ ∃d,lk t id=some d:=by
  rcases List.mem_append.1 hm with h1 | h1
  ·obtain⟨x,hx,rfl⟩:=List.mem_map.1 h1;exact .inl ⟨_,(lk_mem h).1 hx⟩
  ·obtain⟨x,hx,rfl⟩:=List.mem_map.1 h1;exact .inr ⟨_,(lk_mem ht).1 hx⟩
 cases hs:lk s id with
 | some d=>
  cases hq:lk t id with
  | some e=>simp only[pickO]; split <;> simp
  | none=>simp[pickO]
 | none=>
  cases hq:lk t id with
  | some e=>simp[pickO]
  | none=>rw[hs,hq]at this; simp at this
theorem uni_mem{s t:List Obj}{x:Obj}(hx:x∈uniS s t):x.1∈s.map (·.1)++t.map (·.1):=by
 rcases uniS_mem s t hx with h | h
 ·exact List.mem_append.2 (.inl (List.mem_map.2 ⟨x,h,rfl⟩))
 ·exact List.mem_append.2 (.inr (List.mem_map.2 ⟨x,h,rfl⟩))
theorem lk_bare: ∀(s:List Obj) (id:Nat),lk (s.map fun o=>(o.1,[])) id=(lk s id).map fun _=>[]
 | [],_=>rfl
 | x::r,id=>by
  simp only[wae,lk];split
  ·rfl
  ·exact lk_bare r id
theorem uni_ids{s t:List Obj}(h:okS s)(ht:okS t):(uniS s t).map (·.1)=(uniS t s).map (·.1):=by
 have ok: ∀ {s:List Obj},okS s→okS (s.map fun o=>(o.1,[])):=fun{s} h=>List.pairwise_map.2 h;have hu:=okS_uni _ _ h ht;have hv:=okS_uni _ _ ht h;have e:(uniS s t).map (fun o=>((o.1,[]):Obj))=(uniS t s).map fun o=>(o.1,[]):=by
  refine ext_S (ok hu) (ok hv) (fun id=> ?_);rw[lk_bare,lk_bare,lk_uni _ _ h ht,lk_uni _ _ ht h];cases lk s id <;> cases lk t id <;> simp only[pickO,Option.map_some,wao];split <;> split <;> rfl
 have:=congrArg (List.map fun o:Obj=>o.1) e;simpa only[List.map_map,Function.comp_def]using this
theorem keep_get{s:List Obj}(h:okS s)(ids:List Nat)(id:Nat):getS (keepS s ids) id=if ids.contains id=true then getS s id else none:=by
 unfold getS;rw[lk_keep h];cases ids.contains id with
 | true=>simp only[if_true]
 | false=>simp only[Bool.false_eq_true,if_false]
theorem keep_idx{s:List Obj}(h:okS s)(ids:List Nat){x:Obj}(hx:x∈s):decide (idxO x.1 (keepS s ids)≥0)=ids.contains x.1:=by
 have e:=idx_in (okS_keep h ids) (id:=x.1);rw[lk_keep h,(lk_mem h).1 hx]at e;cases hc:ids.contains x.1 with
 | true=>rw[hc]at e; simpa using e
 | false=>rw[hc]at e; simpa using e
def restN(s:List Obj)(ids:List Nat):List Nat:=(s.filter fun o=> !ids.contains o.1).map (·.1)
theorem rest_in{s:List Obj}(h:okS s)(ids:List Nat){x:Obj}(hx:x∈s):(restN s ids).contains x.1= !ids.contains x.1:=by
 unfold restN;cases hc:ids.contains x.1 with
 | true=>
  simp only[Bool.not_true,List.contains_eq_mem,decide_eq_false_iff_not,wah,wal,not_exists,not_and];rintro y ⟨hy,hy2⟩ e;rw[e]at hy2;simp only[List.contains_eq_mem,decide_eq_true_eq]at hc;simp[hc]at hy2
 | false=>
  simp only[Bool.not_false,List.contains_eq_mem,decide_eq_true_eq,wah,wal];exact⟨x,⟨hx,by simp only[List.contains_eq_mem]at hc; simp[hc]⟩,rfl⟩
theorem keep_rest{s:List Obj}(h:okS s)(ids:List Nat):keepS s (restN s ids)=s.filter fun o=> !ids.contains o.1:=by
 unfold keepS;refine List.filter_congr (fun x hx=> ?_);exact rest_in h ids hx
theorem keep_len{s:List Obj}(h:okS s)(ids:List Nat):(keepS s ids).length +(keepS s (restN s ids)).length =s.length:=by
 rw[keep_rest h];unfold keepS;clear h
 induction s with
 | nil=>rfl
 | cons x r ih=>
  cases hc:ids.contains x.1 with
  | true=>simp only[List.filter_cons,hc,Bool.not_true,if_true,Bool.false_eq_true,if_false,wad]; omega
  | false=>simp only[List.filter_cons,hc,Bool.not_false,if_true,Bool.false_eq_true,if_false,wad]; omega
theorem keep_uni{s:List Obj}(h:okS s)(ids:List Nat):uniS (keepS s ids) (keepS s (restN s ids))=s∧uniS (keepS s (restN s ids)) (keepS s ids)=s:=by
 have h1:=okS_keep h ids;have h2:=okS_keep h (restN s ids);have key: ∀id,(lk (keepS s ids) id=lk s id∧lk (keepS s (restN s ids)) id=none)∨(lk (keepS s ids) id=none∧lk (keepS s (restN s ids)) id=lk s id):=by
  intro id;rw[lk_keep h,lk_keep h];cases hl:lk s id with
  | none=>simp
  | some d=>
   have:=rest_in h ids ((lk_mem h (x:=(id,d))).2 hl);simp only at this;rw[this];cases ids.contains id <;> simp
 constructor
 ·refine ext_S (okS_uni _ _ h1 h2) h (fun id=> ?_);rw[lk_uni _ _ h1 h2];rcases key id with⟨e1,e2⟩ | ⟨e1,e2⟩
  ·rw[e1,e2]; cases lk s id <;> rfl
  ·rw[e1,e2]; cases lk s id <;> rfl
 ·refine ext_S (okS_uni _ _ h2 h1) h (fun id=> ?_);rw[lk_uni _ _ h2 h1];rcases key id with⟨e1,e2⟩ | ⟨e1,e2⟩
  ·rw[e1,e2]; cases lk s id <;> rfl
  ·rw[e1,e2]; cases lk s id <;> rfl
theorem keep_all{s:List Obj}:keepS s (s.map (·.1))=s:=by
 unfold keepS;refine List.filter_eq_self.2 (fun x hx=> ?_);simp only[List.contains_eq_mem,decide_eq_true_eq,wah];exact⟨x,hx,rfl⟩
theorem osaveBad_c(s:D):FnP prog 76 [s,.agg [.sl [bare]]] (.tup [.d (.sl []),.d (eU 0),.d (eI 90)]) []:=by
 refine FnP.of_eC (own:=[]) (fun _=>[]) mixed func76 rfl call76 ntmps76 (zle rfl) results76 (fun hok=> ?_);simp only[ZE,seval];refine EFn.p ?_;simp only[ZE,seval];have hc:=printBad_c;simp only[ZE,seval]at hc;refine ECall.i hc ?_;clear hc;simp only[ZE,seval]
theorem lsaveBad_c(s:D):FnP prog 36 [s,.agg [.sl [bare]]] (.d (.agg [.sl [],eU 0,eI 90])) []:=by
 refine FnP.of_eC (own:=[]) (fun _=>[]) mixed func36 rfl call36 ntmps36 (zle rfl) results36 (fun hok=> ?_);simp only[ZE,seval];refine EFn.p ?_;simp only[ZE,seval];have hc:=osaveBad_c s;simp only[ZE,seval]at hc;refine ECall.i hc ?_;clear hc;simp only[ZE,seval]
def d12:List Nat:=[1,2]
def b12:ByteArray:=⟨#[1,2]⟩
theorem lex12_c:FnP prog 63 [.lit (.string b12)] (.tup [.d (.sl []),.d (eI 0),.d (eI 5)]) []:=
 lexBad_c b12 (by decide) (by decide) (by kernel_rfl) (by kernel_rfl) (by kernel_rfl) (by kernel_rfl) (by kernel_rfl) (by kernel_rfl)
theorem oload12_c(s:List Obj)(id:Nat)(hs:okS s)(ho:okO s)(hg:getR s id=(d12,0)):FnP prog 82 [eSt s,eU id] (.tup [.d (.agg [.sl []]),.d (eI 180)]) []:=by
 refine FnP.of_eC (own:=[]) (fun _=>[]) mixed func82 rfl call82 ntmps82 (zle rfl) results82 (fun hok=> ?_);have hgc:=get_c s id hs ho;rw[hg]at hgc;have hp:=parseBad_c b12 lex12_c;have hb:bytesD [[D.lit (.int .u8 1)],[D.lit (.int .u8 2)]]=b12:=rfl;simp only[ZE,seval];refine EFn.p ?_;simp only[ZE,seval];have hc:=hgc;simp only[ZE,seval]at hc;refine ECall.i hc ?_;clear hc;simp only[ZE,seval,d12,hb];refine⟨fun x hx=>by rcases hx with rfl | rfl <;> exact⟨_,rfl⟩,?_⟩;refine EFn.p ?_;simp only[ZE,seval];have hc:=hp;simp only[ZE,seval]at hc;refine ECall.i hc ?_;clear hc;simp only[ZE,seval]
theorem lload12_c(s:List Obj)(id:Nat)(hs:okS s)(ho:okO s)(hg:getR s id=(d12,0)):FnP prog 47 [eSt s,eU id] (.d (.agg [.sl [],eI 180])) []:=by
 refine FnP.of_eC (own:=[]) (fun _=>[]) mixed func47 rfl call47 ntmps47 (zle rfl) results47 (fun hok=> ?_);simp only[ZE,seval];refine EFn.p ?_;simp only[ZE,seval];have hc:=oload12_c s id hs ho hg;simp only[ZE,seval]at hc;refine ECall.i hc ?_;clear hc;simp only[ZE,seval]
def x12:Nat:=digB [1,2]
theorem x12_lt:x12<W64:=digB_lt _
theorem ex_put:putS [] [1,2]=[(x12,[1,2])]:=by unfold putS; simp only[getS,lk]; rfl
theorem ex_ne:x12≠digB [1,3]:=digB_set (l:=[1,2]) (by decide) (k:=1) (v:=3) (by decide) (by decide) (by decide)
theorem ex_sound:soundB (x12,[1,2])=true:=by unfold soundB; exact decide_eq_true rfl
theorem ex_bad:soundB (x12,[1,3])=false:=by unfold soundB; exact decide_eq_false ex_ne
theorem ok1(d:List Nat):okS [(x12,d)]:=List.pairwise_singleton _ _
theorem oko1(d:List Nat)(h:(∀b∈d,b<256)∧d.length≤1000):okO [(x12,d)]:=⟨by simp,fun o ho=>by
 simp only[List.mem_singleton]at ho;subst ho;exact⟨x12_lt,h.1,by have:=h.2; show d.length≤1000000; omega⟩⟩
theorem lk1(d:List Nat):lk [(x12,d)] x12=some d:=by simp[lk]
theorem ex_get:getR [(x12,[1,2])] x12=([1,2],0):=getR_some (by unfold getS; rw[lk1]; exact if_pos rfl)
theorem ex_get0:getR [] x12=([],180):=getR_none rfl
theorem ex_getB:getR [(x12,[1,3])] x12=([],180):=getR_none (by unfold getS; rw[lk1]; exact if_neg ex_ne)
theorem ex_dam:damS [(x12,[1,2])]=[]:=by unfold damS; simp[ex_sound]
theorem ex_damB:damS [(x12,[1,3])]=[x12]:=by unfold damS; simp[ex_bad]
theorem ex_uni:uniS [(x12,[1,3])] [(x12,[1,2])]=[(x12,[1,2])]:=by
 rw[uniS];simp only[Nat.lt_irrefl,if_false,ex_sound,ex_bad,Bool.not_false,Bool.and_self,if_true];rw[uniS]
theorem examples_c:FnP prog 28 [] (.d (eB true)) []:=by
 refine FnP.of_eC (own:=[]) (fun i=>if i=2006 then [.ord ⟨[(0,none),(1,none),(2,none),(3,none),(4,none),(5,none),(6,none),(7,none),(8,none),(9,none),(10,none),(11,none),(12,none),(13,none),(14,none),(15,none),(16,none),(17,none),(18,none),(19,none),(20,none),(21,none),(22,none),(23,none),(24,none),(25,none),(26,none),(27,none),(28,none),(29,none),(30,none),(31,none),(32,none),(33,none),(34,none),(35,none),(36,none),(37,none),(38,none),(39,none),(40,none),(41,none),(42,none),(43,none),(44,none),(45,none),(46,none),(47,none),(48,none),(49,none),(50,none),(51,none),(52,none),(53,none),(54,none),(55,none),(56,none),(57,none),(58,none),(59,none),(60,none),(61,none),(62,some [])]⟩]else if i=5 then [.frz 41]else []) mixed func28 rfl call28 ntmps28 (zle rfl) results28 (fun hok=> ?_);have hB:okB [1,2]:=⟨by decide,by decide⟩;have c1:=bytes_c [1,2] hB.1 hB.2;have c2:=lput_c [] [1,2] List.Pairwise.nil ⟨by simp,by simp⟩ hB;rw[ex_put]at c2;obtain⟨x,hx⟩:=zX (digB [1,2]);have hx':x12=x:=hx;have k1:=ok1 [1,2];have k2:=ok1 [1,3];have o1:=oko1 [1,2] (by decide);have o2:=oko1 [1,3] (by decide);have g1:=lget_c [(x12,[1,2])] x12 k1 o1;have g2:=lget_c [] x12 List.Pairwise.nil ⟨by simp,by simp⟩;have g3:=lget_c [(x12,[1,3])] x12 k2 o2;rw[ex_get]at g1;rw[ex_get0]at g2;rw[ex_getB]at g3;have s1:=osame_c [(x12,[1,2])] [(x12,[1,2])] o1;have s2:=lsame_c [1,2] [1,2] 0 0 (by simp);have d1:=damaged_c [(x12,[1,2])] o1;have d2:=damaged_c [(x12,[1,3])] o2;rw[ex_dam]at d1;rw[ex_damB]at d2;have u1:=union_c [(x12,[1,3])] [(x12,[1,2])] o2 o1;rw[ex_uni]at u1;have p1:=keep_c [(x12,[1,2])] [] (by simp) (by simp);have i1:=is_c [(x12,[1,3])];have i2:=is_c [(1,[]),(1,[])];have q1:=usame_c [x12] [x12] (by simp);have l1:=lload12_c [(x12,[1,2])] x12 k1 o1 ex_get;have v1:=lsaveBad_c (.sl []);rw[hx']at c2 g1 g2 g3 s1 d1 d2 u1 p1 i1 q1 l1;rw[hx]at c1 c2;have e1:decide ([(x,[1,2])]=[(x,[1,2])])=true:=by simp
 have e2:decide ([1,2]=[1,2])=true:=by simp
 have e3:decide ([x]=[x])=true:=by simp
 have e4:keepS [(x,[1,2])] []=[]:=rfl;have e5:isB [(x,[1,3])]=true:=rfl;have e6:isB [(1,[]),(1,[])]=false:=rfl;have e7:((x:Int) !=(x:Int))=false:=by simp
 rw[e1]at s1;rw[e2]at s2;rw[e3]at q1;rw[e4]at p1;rw[e5]at i1;rw[e6]at i2;simp only[ZE,seval];refine EFn.p ?_;simp only[ZE,seval,wae,wac];have hc:=c1;simp only[ZE,seval,wae,wac]at hc;refine ECall.i hc ?_;clear hc;simp only[ZE,seval,wae,wac];refine EFn.p ?_;simp only[ZE,seval,wae,wac];have hc:=c2;simp only[ZE,seval,wae,wac]at hc;refine ECall.i hc ?_;clear hc;simp only[ZE,seval,wae,wac]at s1 g1 s2 g2 g3 d2 q1 d1 u1 p1 i1 i2 l1 v1;simp only[ZE,seval,e7,wae,wac];refine EFn.p ?_;simp only[ZE,seval,wae,wac];refine ECall.i s1 ?_;simp only[ZE,seval,wae,wac];refine EFn.p ?_;simp only[ZE,seval,wae,wac];refine ECall.i g1 ?_;simp only[ZE,seval,wae,wac];refine EFn.p ?_;simp only[ZE,seval,wae,wac];refine ECall.i s2 ?_;simp only[ZE,seval,wae,wac];refine EFn.p ?_;simp only[ZE,seval,wae,wac];refine ECall.i g2 ?_;simp only[ZE,seval,wae,wac];refine⟨by kernel_rfl,ECall'.i g3 ?_⟩;simp only[ZE,seval,wae,wac,beq_self_eq_true];refine ECall'.i d2 ?_;simp only[ZE,seval,wae,wac,beq_self_eq_true];refine ECall'.i q1 ?_;simp only[ZE,seval,wae,wac,beq_self_eq_true];refine ECall'.i d1 ?_;simp only[ZE,seval,wae,wac,beq_self_eq_true];refine ECall'.i u1 ?_;simp only[ZE,seval,wae,wac,beq_self_eq_true];refine ECall'.i s1 ?_;simp only[ZE,seval,wae,wac,beq_self_eq_true];refine ECall'.i p1 ?_;simp only[ZE,seval,wae,wac,beq_self_eq_true];refine ECall'.i i1 ?_;simp only[ZE,seval,wae,wac,beq_self_eq_true];refine ECall'.i i2 ?_;simp only[ZE,seval,wae,wac,beq_self_eq_true];refine ECall'.i l1 ?_;simp only[ZE,seval,wae,wac,beq_self_eq_true];refine ECall'.i v1 ?_;simp only[ZE,seval,wae,wac]
end Go.Proofs.YtplfjjgkbnolhaaGreatDoor
