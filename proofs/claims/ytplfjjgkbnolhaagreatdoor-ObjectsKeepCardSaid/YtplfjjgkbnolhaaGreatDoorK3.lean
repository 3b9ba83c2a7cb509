/- Contracts and laws. Conditions: those of each. -/
import Derived.Test.YtplfjjgkbnolhaaGreatDoorK2
import Derived.Test.YtplfjjgkbnolhaaGreatDoorK1
import Derived.Test.YtplfjjgkbnolhaaGreatDoorGOr
import Derived.Test.YtplfjjgkbnolhaaGreatDoorGRb
import Derived.Test.YtplfjjgkbnolhaaGreatDoorGJb
import Derived.Test.YtplfjjgkbnolhaaGreatDoorGGh
import Derived.Test.YtplfjjgkbnolhaaGreatDoorGFp
import Derived.Test.YtplfjjgkbnolhaaGreatDoorGMs
import Derived.Test.YtplfjjgkbnolhaaGreatDoorGIn
import Derived.Shelf.RegionOpenPlain
import Derived.WalkKit
import Derived.Deep.LoopGhost
import Derived.Deep.RegionLaw
import Derived.Lib.Walk
import Derived.Lib.SliceRun
import Derived.OwnWalk
import Derived.Shelf.Spec.SlicesInsert
import Derived.Lib.AppendZerosOnto
import Derived.Laws.NewBlocks
set_option linter.unusedSimpArgs false
set_option linter.unusedVariables false
open List renaming length_map → waa, length_append → wab, length_cons → wac, map_append → wad, length_nil → wae, take_succ_eq_append_getElem → waf, getElem_mem → wag, length_take → wah, take_of_length_le → wai, append_nil → waj, getElem?_eq_getElem → wak, foldl_append → wal, foldl_cons → wam, foldl_nil → wan, take_zero → wao, mem_of_mem_take → wap
open Int renaming toNat_natCast → waq
open Nat renaming lt_or_ge → war, le_refl → was
open Bool renaming eq_iff_iff → wat
namespace Go.Proofs.YtplfjjgkbnolhaaGreatDoor
open Go.Aw
open Tryz
set_option maxRecDepth 100000
abbrev Str:={s:ByteArray // s.size≤maxLen}
theorem str_eq(x y:Str):decide (x.1=y.1)=decide (x=y):=by rw[decide_eq_decide]; exact Subtype.ext_iff.symm
def eU8(n:Nat):D:=.lit (.int .u8 n)
def eU(n:Nat):D:=.lit (.int .u64 n)
def eI(n:Int):D:=.lit (.int .i64 n)
def eB(b:Bool):D:=.lit (.bool b)
def eS(s:Str):D:=.lit (.string s.1)
def eBy(l:List Nat):D:=.sl (l.map fun n=>[eU8 n])
def eIds(l:List Nat):D:=.sl (l.map fun n=>[eU n])
def eObj(o:Obj):List D:=[eU o.1,eBy o.2]
def eSt(s:List Obj):D:=.sl (s.map eObj)
def chL(i:Nat):List Gh:=if 2000≤i then [.chn]else []
set_option linter.defProp false
def KD:=And.intro @str_eq (And.intro @chL.eq_1 (And.intro @eU8.eq_1 (And.intro @eU.eq_1 (And.intro @eI.eq_1 (And.intro @eB.eq_1 (And.intro @eS.eq_1 (And.intro @eBy.eq_1 (And.intro @eIds.eq_1 (And.intro @eObj.eq_1 @eSt.eq_1)))))))))
theorem getD_map{α β:Type}{f:α→β}{l:List α}{i:Nat}(h:i<l.length)(d:β):(l.map f).getD i d=f l[i]:=by simp[List.getD,h]
theorem dec_lt{i n:Nat}(h:i<n):decide ((i:Int)<(n:Int))=true:=by simp; omega
theorem dec_ge{i n:Nat}(h:n≤i):decide ((i:Int)<(n:Int))=false:=by simp; omega
theorem lt_int{i n:Nat}(h:i<n):(0≤(i:Int)∧(i:Int)<(n:Int))=True:=by simp; omega
theorem wrap_id{x:Int}(h0: -9223372036854775808≤x)(h1:x≤9223372036854775807):IntKind.i64.wrap x=x:=by
 simp only[IntKind.wrap,IntKind.bits,IntKind.signed];simp;omega
theorem wrap_succ{i:Nat}(h:i<9223372036854775807):IntKind.i64.wrap ((i:Int)+1)=((i+1:Nat):Int):=by
 rw[wrap_id (by omega) (by omega)]; simp
theorem ok_len{es:List (List D)}(h:(D.sl es).ok):es.length≤9223372036854775807:=by
 simp only[D.ok]at h; have:=h.1; unfold maxLen at this; omega
theorem okL_cons{x:D}{xs:List D}(h:D.okL (x::xs)):x.ok∧D.okL xs:=by simpa only[D.okL]using h
theorem ok_map{α:Type}{f:α→List D}{l:List α}(h:(D.sl (l.map f)).ok):l.length≤9223372036854775807∧ ∀x∈l,D.okL (f x):=by
 refine⟨by simpa using ok_len h,fun x hx=> ?_⟩;simp only[D.ok]at h;exact okLL_mem h.2 _ (List.mem_map.2 ⟨x,hx,rfl⟩)
theorem take_len{α:Type}(l:List α)(i:Nat)(h:i≤l.length):(l.take i).length =i:=by simp; omega
theorem take_map_snoc{α β:Type}(f:α→β)(l:List α)(i:Nat)(h:i<l.length):(l.take i).map f++[f l[i]]=(l.take (i+1)).map f:=by
 rw[waf h,wad]; rfl
theorem wrap_u{x:Nat}(h:x<W64):IntKind.u64.wrap (x:Int)=(x:Int):=by
 unfold W64 at h;simp only[IntKind.wrap,IntKind.bits,IntKind.signed];simp;omega
theorem wrap_mod(x:Nat):IntKind.u64.wrap (x:Int)=((x % W64:Nat):Int):=by
 unfold W64;simp only[IntKind.wrap,IntKind.bits,IntKind.signed];simp
theorem xor_u{a b:Nat}(ha:a<W64)(hb:b<W64):IntKind.u64.wrap ((BitVec.ofInt IntKind.u64.bits (a:Int) ^^^ BitVec.ofInt IntKind.u64.bits (b:Int)).toNat :Int)=((a ^^^ b:Nat):Int):=by
 have h:(BitVec.ofInt IntKind.u64.bits (a:Int) ^^^ BitVec.ofInt IntKind.u64.bits (b:Int)).toNat =a ^^^ b:=by
  show(BitVec.ofInt 64 (a:Int) ^^^ BitVec.ofInt 64 (b:Int)).toNat =a ^^^ b;simp only[BitVec.toNat_xor,BitVec.ofInt_natCast,BitVec.toNat_ofNat];unfold W64 at ha hb;rw[Nat.mod_eq_of_lt (by simpa using ha),Nat.mod_eq_of_lt (by simpa using hb)]
 rw[h,wrap_u (xor_lt ha hb)]
theorem or_u{a b:Nat}(ha:a<W64)(hb:b<W64):IntKind.u64.wrap ((BitVec.ofInt IntKind.u64.bits (a:Int)||| BitVec.ofInt IntKind.u64.bits (b:Int)).toNat :Int)=((a||| b:Nat):Int):=by
 have h:(BitVec.ofInt IntKind.u64.bits (a:Int)||| BitVec.ofInt IntKind.u64.bits (b:Int)).toNat =a||| b:=by
  show(BitVec.ofInt 64 (a:Int)||| BitVec.ofInt 64 (b:Int)).toNat =a||| b
  simp only[BitVec.toNat_or,BitVec.ofInt_natCast,BitVec.toNat_ofNat];unfold W64 at ha hb;rw[Nat.mod_eq_of_lt (by simpa using ha),Nat.mod_eq_of_lt (by simpa using hb)]
 rw[h,wrap_u (Nat.or_lt_two_pow (n:=64) ha hb)]
theorem mul_u(x c:Nat):IntKind.u64.wrap ((x:Int)*(c:Int))=((x*c % W64:Nat):Int):=by
 have:=wrap_mod (x*c);rwa [Int.natCast_mul]at this
theorem fdivN(a:Nat):Int.fdiv (a:Int) (2 ^ (min 32 IntKind.u64.bits))=((a / 4294967296:Nat):Int):=by
 have e:(2:Int) ^ (min 32 IntKind.u64.bits)=((4294967296:Nat):Int):=rfl;rw[e,Int.fdiv_eq_ediv_of_nonneg _ (by omega)];rfl
def stepI(h w:Int):Int:=IntKind.u64.wrap (IntKind.u64.wrap (BitVec.ofInt IntKind.u64.bits (IntKind.u64.wrap (IntKind.u64.wrap (BitVec.ofInt IntKind.u64.bits h ^^^ BitVec.ofInt IntKind.u64.bits w).toNat *15485907386658061715)) ^^^ BitVec.ofInt IntKind.u64.bits ((IntKind.u64.wrap (IntKind.u64.wrap (BitVec.ofInt IntKind.u64.bits h ^^^ BitVec.ofInt IntKind.u64.bits w).toNat *15485907386658061715)).fdiv (2 ^ (min 32 IntKind.u64.bits)))).toNat *11562461410679940143)
theorem stepI_N{h w:Nat}(hh:h<W64)(hw:w<W64):stepI h w=(stepN h w:Int):=by
 unfold stepI;rw[xor_u hh hw];have e1:IntKind.u64.wrap (((h ^^^ w:Nat):Int)*15485907386658061715)=((stepAN h w:Nat):Int):=mul_u (h ^^^ w) 15485907386658061715;have l1:stepAN h w<W64:=mod_lt64 _;rw[e1,fdivN,xor_u l1 (div_lt64 l1)];exact mul_u (stepAN h w ^^^ (stepAN h w / 4294967296)) 11562461410679940143
theorem zA.{u}{α:Sort u}(a:α):(a=a)=True:=eq_self a
theorem zB.{u}{α:Sort u}(a b:α):(a≠b)= ¬(a=b):=ne_eq a b
theorem zC.{u}(α:Sort u):(α→True)=True:=implies_true α
theorem zD.{u}{b:Prop}(α:Sort u)[i:Nonempty α]:(α→b)↔b:=forall_const α
theorem zF.{u}{α:Sort u}{i:Decidable True}(t e:α):ite True t e=t:=if_true t e
theorem zG.{u}{α:Sort u}{i:Decidable False}(t e:α):ite False t e=e:=if_false t e
theorem zH.{u}{α:Sort u}(a b:α):cond true a b=a:=rfl
theorem zI.{u}{α:Sort u}(a b:α):cond false a b=b:=rfl
theorem zJ.{u}{α:Sort u}{p:α→Prop}{c:α}:(∀a,a=c→p a)↔p c:=forall_eq
def ZZ:=And.intro @zA.{1} (And.intro @zB.{1} (And.intro @zC.{0} (And.intro @zC.{1} (And.intro @zD.{0} (And.intro @zD.{1} (And.intro @zF.{1} (And.intro @zG.{1} (And.intro @zH.{1} (And.intro @zI.{1} @zJ.{1})))))))))
def ZY:=And.intro GE (And.intro ZZ (And.intro @List.replicate.eq_1.{0} @List.replicate.eq_2.{0}))
def ZE:=And.intro SE (And.intro SX (And.intro TF (And.intro KD ZY)))
def ZM:=And.intro SE (And.intro SXm (And.intro TF (And.intro KD ZY)))
theorem zX.{u}{α:Sort u}(a:α): ∃x,a=x:=⟨a,rfl⟩
theorem zle{n m:Nat}(h:Nat.ble n m=true):n≤m:=Nat.le_of_ble_eq_true h
def zN:=And.intro Nat.zero_add Int.natCast_one
set_option maxHeartbeats 1000000
theorem step_c(h w:Nat)(hh:h<W64)(hw:w<W64):FnP prog 120 [eU h,eU w] (.d (eU (stepN h w))) []:=by
 refine FnP.of_eC (own:=[]) (fun _=>[]) mixed func120 rfl call120 ntmps120 (zle rfl) results120 (fun hok=> ?_);have e:=stepI_N hh hw;unfold stepI at e;simp only[ZE,seval,e]
theorem wrap_add{a b:Nat}(h:a+b<9223372036854775808):IntKind.i64.wrap ((a:Int)+(b:Int))=((a+b:Nat):Int):=by
 rw[wrap_id (by omega) (by omega)]; simp
theorem wrap_mul{a b:Nat}(h:a*b<9223372036854775808):IntKind.i64.wrap ((a:Int)*(b:Int))=((a*b:Nat):Int):=by
 rw[←Int.natCast_mul,wrap_id (by omega) (by omega)]
def accW(l:List Nat)(k:Nat):Nat:=wordN (l.take k)
theorem wordN_append: ∀(l r:List Nat),wordN (l++r)=wordN l+256 ^ l.length*wordN r
 | [],r=>by simp[wordN]
 | b::l,r=>by
  simp only[List.cons_append,wordN,wordN_append l r,wac,Nat.pow_succ];rw[Nat.mul_add,←Nat.add_assoc,Nat.mul_comm (256 ^ l.length) 256,Nat.mul_assoc]
theorem wordN_snoc{l:List Nat}{k:Nat}(h:k<l.length)(hk:k<8)(hb: ∀b∈l,b<256):wordN (l.take k)||| (l[k]<<<(8*k))=wordN (l.take (k+1)):=by
 rw[waf h,wordN_append];have hl:(l.take k).length =k:=by simp; omega
 have h1:=wordN_lt (l:=l.take k) (fun b hm=>hb b (wap hm));rw[hl]at h1 ⊢;have e:(256:Nat) ^ k=2 ^ (8*k):=by rw[Nat.pow_mul]
 rw[e]at h1 ⊢;simp only[wordN,Nat.mul_zero,Nat.add_zero];rw[Nat.shiftLeft_eq,Nat.mul_comm l[k],Nat.or_comm,Nat.add_comm,Nat.two_pow_add_eq_or_of_lt h1]
def grp(l:List Nat)(j:Nat):List Nat:=(l.drop (8*j)).take 8
theorem wordsB_take{l:List Nat}{j:Nat}(h:8*j<l.length):(wordsB l).take (j+1)=(wordsB l).take j++[wordN (grp l j)]:=by
 have hj:j<(wordsB l).length :=by simp[wordsB]; omega
 rw[waf hj];simp[wordsB,grp]
theorem shl_u{x k:Nat}(hx:x<256)(hk:k<8):IntKind.u64.wrap (IntKind.u64.wrap (x:Int)*2 ^ min (IntKind.u64.wrap ((8*k:Nat):Int)).toNat IntKind.u64.bits)=((x<<<(8*k):Nat):Int):=by
 have h2:2 ^ (8*k)≤2 ^ 56:=Nat.pow_le_pow_right (by decide) (by omega);rw[wrap_u (x:=x) (by unfold W64; omega),wrap_u (x:=8*k) (by unfold W64; omega),waq,show min (8*k) IntKind.u64.bits=8*k from Nat.min_eq_left (by show 8*k≤64; omega)];have e:(x:Int)*2 ^ (8*k)=((x*2 ^ (8*k):Nat):Int):=by simp
 rw[e,wrap_u,Nat.shiftLeft_eq];have:=Nat.mul_lt_mul_of_lt_of_le hx h2 (by decide);have e56:256*2 ^ 56=W64:=by decide
 omega
theorem grp_get{l:List Nat}{j k:Nat}(h:k<(grp l j).length)(h2:8*j+k<l.length):(grp l j)[k]=l[8*j+k]:=by simp[grp]
theorem grp_lt{l:List Nat}(hb: ∀b∈l,b<256)(j:Nat): ∀b∈grp l j,b<256:=fun b h=>hb b (List.mem_of_mem_drop (wap h))
theorem acc_lt{l:List Nat}(hb: ∀b∈l,b<256)(h8:l.length≤8)(k:Nat):wordN (l.take k)<W64:=by
 have h1:=wordN_lt (l:=l.take k) (fun b hm=>hb b (wap hm));have h3:256 ^ (l.take k).length ≤256 ^ 8:=Nat.pow_le_pow_right (by decide) (by simp; omega);have:(256:Nat) ^ 8=W64:=by decide
 omega
theorem fold_next{l:List Nat}{j:Nat}(h:8*j<l.length)(c:Nat):stepN (foldN c ((wordsB l).take j)) (wordN (grp l j))=foldN c ((wordsB l).take (j+1)):=by
 rw[wordsB_take h];unfold foldN;rw[wal,wam,wan]
theorem rbytes_c(l:List Nat)(hb: ∀b∈l,b<256)(hl:l.length≤1000000):FnP prog 72 [eBy l] (.d (eU (digB l))) []:=by
 refine FnP.of_eC (own:=[]) (fun _=>[]) mixed func72 rfl call72 ntmps72 (zle rfl) results72 (fun hok=> ?_);have hW: ∀x∈wordsB l,x<W64:=wordsB_lt hb;have hf: ∀j,foldN 422944466291 ((wordsB l).take j)<W64:=fun j=>foldN_lt _ (by decide);simp only[ZE,seval];refine eloop (fun _=>[]) mixed ((l.length+7) / 8) (fun _=>True) (fun j=>([(0,.d (eBy l)),(3,.d (eU (foldN 422944466291 ((wordsB l).take j)))),(4,.d (eI (8*j:Nat)))],[])) trivial ?_ ?_ (fun j hj _=> ?_)
 ·simp only[ZE,seval,wao,foldN,wan]
 ·simp only[ZE,seval]
 by_cases h:8*j<l.length
 ·simp only[ZE,seval,dec_lt h];refine eloop (fun _=>[]) mixed (grp l j).length (fun _=>True) (fun k=>([(0,.d (eBy l)),(3,.d (eU (foldN 422944466291 ((wordsB l).take j)))),(4,.d (eI (8*j:Nat))),(5,.d (eU (wordN ((grp l j).take k)))),(6,.d (eI k))],[])) trivial ?_ ?_ (fun k hk _=> ?_)
  ·simp only[ZE,seval,wao,wordN]
  ·simp only[ZE,seval]
  have hgl:(grp l j).length =min 8 (l.length-8*j):=by simp[grp]
  have e1:IntKind.i64.wrap (((8*j:Nat):Int)+(k:Int))=((8*j+k:Nat):Int):=wrap_add (by omega);by_cases hk8:k<(grp l j).length
  ·have d1:decide ((k:Int)<8)=true:=by simp; omega
   have d2:8*j+k<l.length:=by omega
   have e2:IntKind.i64.wrap (8*(k:Int))=((8*k:Nat):Int):=wrap_mul (a:=8) (b:=k) (by omega);have e3:=wrap_succ (show k<9223372036854775807 by omega);have hx:l[8*j+k]<256:=hb _ (wag _);have e4:=wordN_snoc hk8 (by omega) (grp_lt hb j);rw[grp_get hk8 d2]at e4;have e6:l[8*j+k]<<<(8*k)<W64:=by
    rw[Nat.shiftLeft_eq];have h2:2 ^ (8*k)≤2 ^ 56:=Nat.pow_le_pow_right (by decide) (by omega);have:=Nat.mul_lt_mul_of_lt_of_le hx h2 (by decide);have e56:256*2 ^ 56=W64:=(by decide);omega
   have e7:=or_u (acc_lt (grp_lt hb j) (by omega) k) e6;have e8:=wrap_u (x:=8*k) (by unfold W64; omega);simp only[ZE,seval,d1,e1,dec_lt d2,lt_int d2,getD_map d2,e2,e3];rw[shl_u hx (by omega),e7,e4,e8];exact⟨by omega,hk8,rfl⟩
  ·by_cases k8:k=8
   ·have d1:decide ((k:Int)<8)=false:=(by simp; omega);simp only[ZE,seval,d1];have hkl:(grp l j).take k=grp l j:=wai (by omega);have e8:IntKind.i64.wrap (((8*j:Nat):Int)+8)=((8*(j+1):Nat):Int):=(by rw[wrap_id (by omega) (by omega)]; omega);refine EFn.p ?_;simp only[ZE,seval,d1];refine ECall.i (step_c _ _ (hf j) (acc_lt (grp_lt hb j) (by omega) k)) ?_;simp only[ZE,seval,hkl,fold_next h,e8];omega
   ·have d1:decide ((k:Int)<8)=true:=(by simp; omega);have d3:=dec_ge (show l.length≤8*j+k by omega);simp only[ZE,seval,d1,e1,d3];have hkl:(grp l j).take k=grp l j:=wai (by omega);have e8:IntKind.i64.wrap (((8*j:Nat):Int)+8)=((8*(j+1):Nat):Int):=(by rw[wrap_id (by omega) (by omega)]; omega);refine EFn.p ?_;simp only[ZE,seval,d1,e1,d3];refine ECall.i (step_c _ _ (hf j) (acc_lt (grp_lt hb j) (by omega) k)) ?_;simp only[ZE,seval,hkl,fold_next h,e8];omega
 ·have d3:=dec_ge (show l.length≤8*j by omega);simp only[ZE,seval,d3];have hlen:IntKind.u64.wrap (l.length:Int)=((l.length % W64:Nat):Int):=wrap_mod _;have ht:(wordsB l).take j=wordsB l:=wai (by simp[wordsB]; omega);refine EFn.p ?_;simp only[ZE,seval,d3,hlen];refine ECall.i (step_c _ _ (hf j) (mod_lt64 l.length)) ?_;simp only[ZE,seval,ht,digB]
theorem add_c(h:Nat)(ws:List Nat)(hl:ws.length≤1000000)(hh:h<W64)(hw: ∀w∈ws,w<W64):FnL prog 86 [.bp 1 0,.d (eIds ws)] [(1,.box [.d (eU h)])] (fun V ol new=>V= .tup []∧ol=[(1,.box [.d (eU (foldN h ws))])]∧new=[]):=by
 refine FnL.of_eC (own:=[]) (fun _=>[]) [0] mixed func86 rfl call86 ntmps86 (zle rfl) results86 ?_;simp only[ZE,seval];refine eloop (fun _=>[]) mixed ws.length (fun _=>True) (fun i=>([(0,.bp 1 0),(7,.d (eIds ws)),(8,.d (eI ws.length)),(9,.d (eI i))],[(1,.box [.d (eU (foldN h (ws.take i)))])])) trivial ?_ ?_ (fun i hi _=> ?_)
 ·simp only[ZE,seval]
 ·simp only[ZE,seval,wao,foldN,wan]
 rcases war i ws.length with hi' | hi'
 ·have hww:ws[i]<W64:=hw _ (wag _);have hf:foldN h (ws.take i)<W64:=foldN_lt _ hh;have e:=stepI_N hf hww;unfold stepI at e;have e2:stepN (foldN h (ws.take i)) ws[i]=foldN h (ws.take (i+1)):=by
   rw[waf hi'];unfold foldN;rw[wal,wam,wan]
  simp only[ZE,seval,dec_lt hi',lt_int hi',getD_map hi'];rw[e,e2,wrap_succ (by omega)];exact⟨hi',rfl,rfl⟩
 ·simp only[ZE,seval,dec_ge hi',wai hi'];refine⟨[],[],?_⟩;simp only[ZE,seval,wai hi',sameKind,AV.core]
theorem groups_c(l:List Nat):FnL prog 85 [.d (eBy l)] [] (fun V ol new=>V= .clo (.func 129) [] [.bp 1 0]∧ol=[(1,.box [.d (eBy l)])]∧new=[1]):=by
 refine FnL.of_eB 1999 [] (own:=[]) (fun _=>[]) [] mixed func85 rfl call85 ntmps85 (zle rfl) results85 (by simp[freeO,AO.noRef,AV.noRefs,AV.noRef]) (fun gs=> ?_);simp only[ZE,seval,retBE.eq_def,eRetB.eq_def,resB.eq_1,resB.eq_2,selB.eq_def];refine⟨[1999],[1],?_⟩;simp only[ZE,seval,retBE.eq_def,eRetB.eq_def,resB.eq_1,resB.eq_2,selB.eq_def]
theorem shl_i{x k:Nat}(hx:x<256)(hk:k<8):IntKind.u64.wrap ((x:Int)*2 ^ min (8*k) IntKind.u64.bits)=((x<<<(8*k):Nat):Int):=by
 have:=shl_u hx hk;rwa [wrap_u (x:=x) (by unfold W64; omega),wrap_u (x:=8*k) (by unfold W64; omega),waq]at this
def grpD(l:List Nat)(j:Nat):List D:=[eU (wordN (grp l j))]
def wsD(l:List Nat)(k:Nat):List (List D):=(List.range k).map (grpD l)
theorem wsD_succ(l:List Nat)(k:Nat):wsD l (k+1)=wsD l k++[grpD l k]:=by simp[wsD,List.range_succ]
def nG(l:List Nat):Nat:=(l.length+7) / 8
theorem drop_ne{l:List Nat}{j:Nat}(h:8*j<l.length):0<(l.drop (8*j)).length :=by simp; omega
theorem groups1_it(l:List Nat)(hb: ∀b∈l,b<256)(hl:l.length≤1000000)(B:Nat)(hB:B=6):IterB prog 129 B [eBy l] (fun pre=> ∃k,k≤nG l∧pre=wsD l k) (fun xs=>xs=wsD l (nG l)):=by
 subst hB;intro lim fam stop yl hY;have:=FnL.of_eC (P:=prog) (args:=[.yv 0,.bp 6 0]) (os:=[(0,.ext lim fam stop yl []),(6,.box [.d (eBy l)])]) (PL:=fun _ ol new=>(∃xs,xs=wsD l (nG l)∧ol=[(0,.ext lim fam stop yl xs)]∧new=[])∨(ol=[(0,.ext lim (fun _=>stop) stop yl [])]∧new=[])) (own:=[]) (fun _=>[]) [0] mixed func129 rfl call129 ntmps129 (zle rfl) results129 ?_
 ·refine this.mono ?_;rintro V Oo new ⟨ol,rfl,⟨xs,h1,rfl,h2⟩ | ⟨rfl,h2⟩⟩
  ·exact .inl ⟨xs,h1,rfl,h2⟩
  ·exact .inr ⟨rfl,h2⟩
 simp only[ZE,seval];refine eloop (fun _=>[]) mixed (nG l) (fun _=>True) (fun j=>([(0,.yv 0),(1,.bp 6 0)],[(6,.box [.d (eBy (l.drop (8*j)))]),(0,.ext lim fam stop yl (wsD l j))])) trivial ?_ ?_ (fun j hj _=> ?_)
 ·simp only[ZE,seval]
 ·simp only[ZE,seval,List.drop_zero,wsD,List.range_zero]
 by_cases h:8*j<l.length
 ·have h0:=drop_ne h;have d0:decide (((l.drop (8*j)).length :Int)>0)=true:=by simp; omega
  have d1:decide ((0:Int)<((l.drop (8*j)).length :Int))=true:=by simp; omega
  have hm:(if ((l.drop (8*j)).length :Int)<8 then((l.drop (8*j)).length :Int)else 8)=((grp l j).length :Int):=by simp[grp]; split <;> omega
  have ht:(l.drop (8*j)).take (grp l j).length =grp l j:=by simp[grp,List.take_take]
  have hgl:(grp l j).length =min 8 (l.length-8*j):=by simp[grp]
  simp only[ZE,seval,d0,d1,hm,←List.map_take,Nat.sub_zero,ht];refine⟨⟨fun e he=>by obtain⟨x,_,rfl⟩:=List.mem_map.1 he; rfl,by omega,by simp; omega,by omega⟩,?_⟩;refine eloop (fun _=>[]) mixed (grp l j).length (fun _=>True) (fun k=>([(0,.yv 0),(1,.bp 6 0),(3,.d (eI (grp l j).length)),(15,.d (eBy (grp l j))),(16,.d (eI (grp l j).length)),(4,.d (eU (wordN ((grp l j).take k)))),(17,.d (eI k))],[(6,.box [.d (eBy (l.drop (8*j)))]),(0,.ext lim fam stop yl (wsD l j))])) trivial ?_ ?_ (fun k hk _=> ?_)
  ·simp only[ZE,seval,wao,wordN]
  ·simp only[ZE,seval]
  rcases war k (grp l j).length with hk8 | hk8
  ·have hx:(grp l j)[k]<256:=grp_lt hb j _ (wag _);have e4:=wordN_snoc hk8 (by omega) (grp_lt hb j);have h2:2 ^ (8*k)≤2 ^ 56:=Nat.pow_le_pow_right (by decide) (by omega);have h3:=Nat.mul_lt_mul_of_lt_of_le hx h2 (by decide);have e56:256*2 ^ 56=W64:=by decide
   have e6:(grp l j)[k]<<<(8*k)<W64:=by rw[Nat.shiftLeft_eq]; omega
   have e7:=or_u (acc_lt (grp_lt hb j) (by omega) k) e6;have e2:IntKind.i64.wrap (8*(k:Int))=((8*k:Nat):Int):=wrap_mul (a:=8) (b:=k) (by omega);have e3:=wrap_succ (show k<9223372036854775807 by omega);have e9:IntKind.u64.wrap (((grp l j)[k]:Nat):Int)=(((grp l j)[k]:Nat):Int):=wrap_u (by unfold W64; omega);simp only[ZE,seval,dec_lt hk8,lt_int hk8,getD_map hk8,e2,e3,e9];rw[shl_i hx (by omega),e7,e4];exact⟨by omega,hk8,rfl⟩
  ·have hkl:(grp l j).take k=grp l j:=wai hk8;simp only[ZE,seval,dec_ge hk8,hkl];refine⟨_,hY,⟨j+1,by unfold nG at*; omega,(wsD_succ l j).symm⟩,?_,?_⟩
   ·have hdd:((l.drop (8*j)).drop (grp l j).length)=l.drop (8*(j+1)):=by
     rw[List.drop_drop];by_cases hf:8*(j+1)≤l.length
     ·congr 1; omega
     ·rw[List.drop_eq_nil_of_le (by omega),List.drop_eq_nil_of_le (by omega)]
    have hll:(l.drop (8*(j+1))).length =(l.drop (8*j)).length -(grp l j).length :=(by rw[←hdd,List.length_drop]);simp only[ZE,seval,←List.map_drop,hdd,wsD_succ,grpD];refine⟨⟨fun e he=>by obtain⟨x,_,rfl⟩:=List.mem_map.1 he; rfl,by omega,by simp; omega,by omega⟩,by unfold nG; omega,?_⟩;rw[←hll,←List.map_take,List.take_length]
   ·simp only[ZE,seval];refine⟨[6],[],?_⟩;simp only[ZE,seval,AV.core,sameKind]
 ·have d0:decide ((0:Int)<((l.drop (8*j)).length :Int))=false:=by simp; omega
  have hjn:j=nG l:=by unfold nG at*; omega
  simp only[ZE,seval,d0];refine⟨[6],[],?_⟩;subst hjn;simp only[ZE,seval,AV.core,sameKind];exact .inl ⟨_,rfl,rfl⟩
theorem wsD_take(l:List Nat){k:Nat}(hk:k≤nG l):wsD l k=((wordsB l).take k).map fun w=>[eU w]:=by
 apply List.ext_getElem
 ·simp[wsD,wordsB,nG]at*; omega
 ·intro i h1 h2; simp[wsD,wordsB,grpD,grp]
theorem wsD_snoc{l:List Nat}{pre:List (List D)}{x:List D}(h: ∃k,k≤nG l∧pre++[x]=wsD l k): ∃hn:pre.length<(wordsB l).length,x=[eU (wordsB l)[pre.length]]:=by
 obtain⟨k,hk,h⟩:=h;have hln:(wordsB l).length =nG l:=by simp[wordsB,nG]
 have h1:=congrArg List.length h;simp only[wab,wac,wae,wsD,waa,List.length_range]at h1;have hlt:pre.length<(wordsB l).length :=by omega
 refine⟨hlt,?_⟩;rw[wsD_take l hk]at h;have h2:(pre++[x])[pre.length]? =some x:=by simp
 rw[h]at h2;simp only[List.getElem?_map,List.getElem?_take,if_pos (show pre.length<k by omega),wak hlt,Option.map_some,Option.some.injEq]at h2;exact h2.symm
theorem bytes_c(l:List Nat)(hb: ∀b∈l,b<256)(hl:l.length≤1000000):FnP prog 53 [eBy l] (.d (eU (digB l))) []:=by
 refine FnP.of_eC (own:=[]) chL mixed func53 rfl call53 ntmps53 (zle rfl) results53 (fun hok=> ?_);have hf: ∀j,foldN 422944466291 ((wordsB l).take j)<W64:=fun j=>foldN_lt _ (by decide);simp only[ZE,seval];refine EFn.gV [(1,6)] (groups_c l) ?_ ?_
 ·simp only[ZE,seval]
 rintro V ol new ⟨rfl,rfl,rfl⟩;simp only[ZE,seval];refine erangeB mixed chL rfl (by simp only[ZE,seval]) (by simp only[ZE,seval]) (by decide) (groups1_it l hb hl 6 rfl) (fun pre=>[(3,.box [.d (eU (foldN 422944466291 ((wordsB l).take pre.length)))])]) ?_ ?_ ?_ ?_ (fun pre x hp=> ?_) (fun xs hx=> ?_)
 ·simp only[ZE,seval,wao,foldN,wan]
 ·simp only[ZE,seval]
 ·intro pre;simp only[ZE,seval]
 ·simp only[ZE,seval]
 ·obtain⟨hn,rfl⟩:=wsD_snoc hp;have hw:(wordsB l)[pre.length]<W64:=wordsB_lt hb _ (wag _);have hst:foldN (foldN 422944466291 ((wordsB l).take pre.length)) [(wordsB l)[pre.length]]=foldN 422944466291 ((wordsB l).take (pre.length+1)):=by
   rw[waf hn];unfold foldN;rw[wal]
  refine⟨rfl,?_⟩;simp only[ZE,seval];refine EFn.gV [(1,3)] (add_c (foldN 422944466291 ((wordsB l).take pre.length)) [(wordsB l)[pre.length]] (by simp) (hf pre.length) (by simpa using hw)) ?_ ?_
  ·simp only[ZE,seval]
  rintro V ol new ⟨rfl,rfl,rfl⟩;simp only[ZE,seval,hst,wab]
 ·subst hx;have hlen:IntKind.u64.wrap (l.length:Int)=((l.length % W64:Nat):Int):=wrap_mod _;have ht:(wordsB l).take (wsD l (nG l)).length =wordsB l:=wai (by simp[wordsB,wsD,nG]);simp only[ZE,seval,ht,hlen];refine EFn.gV [(1,3)] (add_c (foldN 422944466291 (wordsB l)) [l.length % W64] (by simp) (foldN_lt _ (by decide)) (by simpa using mod_lt64 _)) ?_ ?_
  ·simp only[ZE,seval]
  rintro V ol new ⟨rfl,rfl,rfl⟩;have hd:foldN (foldN 422944466291 (wordsB l)) [l.length % W64]=digB l:=by
   unfold digB foldN;rw[wam,wan]
  simp only[ZE,seval,hd]
def okB(l:List Nat):Prop:=(∀b∈l,b<256)∧l.length≤1000000
def okO(s:List Obj):Prop:=s.length≤1000000∧ ∀o∈s,o.1<W64∧okB o.2
theorem bne_nat(a b:Nat):((a:Int) !=(b:Int))= !decide (a=b):=by
 rw[wat]; simp only[bne_iff_ne,ne_eq,Bool.not_eq_true',decide_eq_false_iff_not]; omega
theorem beq_nat(a b:Nat):((a:Int)==(b:Int))=decide (a=b):=by
 rw[wat]; simp only[beq_iff_eq,decide_eq_true_eq]; omega
theorem take_eq{α:Type}{a b:List α}{i:Nat}(h:i<a.length)(hb:i<b.length)(hI:a.take i=b.take i)(he:a[i]=b[i]):a.take (i+1)=b.take (i+1):=by
 rw[waf h,waf hb,hI,he]
theorem take_all{α:Type}{a b:List α}{i:Nat}(h:a.length≤i)(hab:a.length=b.length)(hI:a.take i=b.take i):a=b:=by
 rwa [wai h,wai (by omega)]at hI
theorem sound_c(o:Obj)(h:okB o.2):FnP prog 77 [.agg (eObj o)] (.d (eB (soundB o))) []:=by
 refine FnP.of_eC (own:=[]) chL mixed func77 rfl call77 ntmps77 (zle rfl) results77 (fun hok=> ?_);simp only[ZE,seval];refine⟨by kernel_rfl,?_⟩;have hc:=bytes_c o.2 h.1 h.2;simp only[eBy,eU8]at hc;refine ECall'.i hc ?_;simp only[ZE,seval,beq_nat,soundB]
theorem rsound_c(o:Obj)(h:okB o.2):FnP prog 73 [.agg (eObj o)] (.d (eB (soundB o))) []:=by
 refine FnP.of_eC (own:=[]) chL mixed func73 rfl call73 ntmps73 (zle rfl) results73 (fun hok=> ?_);simp only[ZE,seval];refine⟨by kernel_rfl,?_⟩;have hc:=rbytes_c o.2 h.1 h.2;simp only[eBy,eU8]at hc;refine ECall'.i hc ?_;simp only[ZE,seval,beq_nat,soundB]
theorem bsame_c(a b:List Nat)(hl:a.length≤1000000):FnP prog 54 [eBy a,eBy b] (.d (eB (decide (a=b)))) []:=by
 refine FnP.of_eC (own:=[]) chL mixed func54 rfl call54 ntmps54 (zle rfl) results54 (fun hok=> ?_);by_cases hab:a.length=b.length
 ·have hd:((a.length:Int) !=(b.length:Int))=false:=by rw[hab]; simp
  simp only[ZE,seval,hd];refine eloop chL mixed a.length (fun i=>a.take i=b.take i) (fun i=>([(0,.d (eBy a)),(1,.d (eBy b)),(5,.d (eI i))],[])) (by simp) ?_ ?_ (fun i hi hI=> ?_)
  ·simp only[ZE,seval]
  ·simp only[ZE,seval]
  rcases war i a.length with h | h
  ·have h2:i<b.length:=by omega
   have hw:=wrap_succ (show i<9223372036854775807 by omega);have d2:=dec_lt h2;have l2:=lt_int h2;by_cases he:a[i]=b[i]
   ·have hd2:decide (a[i]=b[i])=true:=(by simp[he]);simp only[ZE,seval,dec_lt h,lt_int h,getD_map h,d2,l2,getD_map h2,bne_nat,hw,hd2];exact⟨by kernel_rfl,h,take_eq h h2 hI he⟩
   ·have hd2:decide (a[i]=b[i])=false:=(by simp[he]);have hd3:decide (a=b)=false:=by
     rw[decide_eq_false_iff_not];intro e;subst e;exact he rfl
    simp only[ZE,seval,dec_lt h,lt_int h,getD_map h,d2,l2,getD_map h2,bne_nat,hw,hd2,hd3];exact(show drawB _ _ _=true from by kernel_rfl)
  ·have hd2:decide (a=b)=true:=by rw[decide_eq_true_eq]; exact take_all h hab hI
   simp only[ZE,seval,dec_ge h,hd2]
 ·have hd:((a.length:Int) !=(b.length:Int))=true:=by simp; omega
  have hne:decide (a=b)=false:=by rw[decide_eq_false_iff_not]; intro e; exact hab (by rw[e])
  simp only[ZE,seval,hd,hne]
theorem usame_c(a b:List Nat)(hl:a.length≤1000000):FnP prog 37 [eIds a,eIds b] (.d (eB (decide (a=b)))) []:=by
 refine FnP.of_eC (own:=[]) chL mixed func37 rfl call37 ntmps37 (zle rfl) results37 (fun hok=> ?_);by_cases hab:a.length=b.length
 ·have hd:((a.length:Int) !=(b.length:Int))=false:=by rw[hab]; simp
  simp only[ZE,seval,hd];refine eloop chL mixed a.length (fun i=>a.take i=b.take i) (fun i=>([(0,.d (eIds a)),(1,.d (eIds b)),(5,.d (eI i))],[])) (by simp) ?_ ?_ (fun i hi hI=> ?_)
  ·simp only[ZE,seval]
  ·simp only[ZE,seval]
  rcases war i a.length with h | h
  ·have h2:i<b.length:=by omega
   have hw:=wrap_succ (show i<9223372036854775807 by omega);have d2:=dec_lt h2;have l2:=lt_int h2;by_cases he:a[i]=b[i]
   ·have hd2:decide (a[i]=b[i])=true:=(by simp[he]);simp only[ZE,seval,dec_lt h,lt_int h,getD_map h,d2,l2,getD_map h2,bne_nat,hw,hd2];exact⟨by kernel_rfl,h,take_eq h h2 hI he⟩
   ·have hd2:decide (a[i]=b[i])=false:=(by simp[he]);have hd3:decide (a=b)=false:=by
     rw[decide_eq_false_iff_not];intro e;subst e;exact he rfl
    simp only[ZE,seval,dec_lt h,lt_int h,getD_map h,d2,l2,getD_map h2,bne_nat,hw,hd2,hd3];exact(show drawB _ _ _=true from by kernel_rfl)
  ·have hd2:decide (a=b)=true:=by rw[decide_eq_true_eq]; exact take_all h hab hI
   simp only[ZE,seval,dec_ge h,hd2]
 ·have hd:((a.length:Int) !=(b.length:Int))=true:=by simp; omega
  have hne:decide (a=b)=false:=by rw[decide_eq_false_iff_not]; intro e; exact hab (by rw[e])
  simp only[ZE,seval,hd,hne]
theorem osame_c(a b:List Obj)(ha:okO a):FnP prog 40 [eSt a,eSt b] (.d (eB (decide (a=b)))) []:=by
 have hl:=ha.1;refine FnP.of_eC (own:=[]) chL mixed func40 rfl call40 ntmps40 (zle rfl) results40 (fun hok=> ?_);by_cases hab:a.length=b.length
 ·have hd:((a.length:Int) !=(b.length:Int))=false:=by rw[hab]; simp
  simp only[ZE,seval,hd];refine eloop chL mixed a.length (fun i=>a.take i=b.take i) (fun i=>([(0,.d (eSt a)),(1,.d (eSt b)),(5,.d (eI i))],[])) (by simp) ?_ ?_ (fun i hi hI=> ?_)
  ·simp only[ZE,seval]
  ·simp only[ZE,seval]
  rcases war i a.length with h | h
  ·have h2:i<b.length:=by omega
   have hw:=wrap_succ (show i<9223372036854775807 by omega);have d2:=dec_lt h2;have l2:=lt_int h2;by_cases h1:a[i].1 =b[i].1
   ·have e1:decide (a[i].1 =b[i].1)=true:=(by simp[h1]);simp only[ZE,seval,dec_lt h,lt_int h,getD_map h,d2,l2,getD_map h2,bne_nat,hw,e1];have hc:=bsame_c a[i].2 b[i].2 (ha.2 _ (wag h)).2.2;simp only[eBy,eU8]at hc;refine⟨by kernel_rfl,ECall'.i hc ?_⟩;by_cases h3:a[i].2 =b[i].2
    ·have e3:decide (a[i].2 =b[i].2)=true:=(by simp[h3]);simp only[ZE,seval,hw,e3,bne_nat,e1,dec_lt h];exact⟨h,take_eq h h2 hI (Prod.ext h1 h3)⟩
    ·have e3:decide (a[i].2 =b[i].2)=false:=(by simp[h3]);have hd3:decide (a=b)=false:=by
      rw[decide_eq_false_iff_not];intro e;subst e;exact h3 rfl
     simp only[ZE,seval,hw,e3,hd3,e1]
   ·have e1:decide (a[i].1 =b[i].1)=false:=(by simp[h1]);have hd3:decide (a=b)=false:=by
     rw[decide_eq_false_iff_not];intro e;subst e;exact h1 rfl
    simp only[ZE,seval,dec_lt h,lt_int h,getD_map h,d2,l2,getD_map h2,bne_nat,hw,e1,hd3];exact(show drawB _ _ _=true from by kernel_rfl)
  ·have hd2:decide (a=b)=true:=by rw[decide_eq_true_eq]; exact take_all h hab hI
   simp only[ZE,seval,dec_ge h,hd2]
 ·have hd:((a.length:Int) !=(b.length:Int))=true:=by simp; omega
  have hne:decide (a=b)=false:=by rw[decide_eq_false_iff_not]; intro e; exact hab (by rw[e])
  simp only[ZE,seval,hd,hne]
def isB:List Obj→Bool
 | x::y::r=>decide (x.1<y.1)&&isB (y::r)
 | _=>true
theorem isB_ok: ∀ {s:List Obj},okS s→isB s=true
 | [],_=>rfl
 | [x],_=>rfl
 | x::y::r,h=>by
  have h':=List.pairwise_cons.1 h;simp only[isB,isB_ok h'.2,Bool.and_true,decide_eq_true_eq];exact h'.1 y (by simp)
theorem isB_iff: ∀ {s:List Obj},isB s=true↔ ∀i (h:i+1<s.length),(s[i]'(by omega)).1 <s[i+1].1
 | []=>by simp[isB]
 | [x]=>by simp[isB]
 | x::y::r=>by
  simp only[isB,Bool.and_eq_true,decide_eq_true_eq];rw[isB_iff];constructor
  ·rintro⟨h1,h2⟩ i hi;cases i with
   | zero=>simpa using h1
   | succ i=>exact h2 i (by simpa using hi)
  ·intro h;exact⟨h 0 (by simp),fun i hi=>h (i+1) (by simpa using hi)⟩
theorem is_c(s:List Obj):FnP prog 32 [eSt s] (.d (eB (isB s))) []:=by
 refine FnP.of_eC (own:=[]) chL mixed func32 rfl call32 ntmps32 (zle rfl) results32 (fun hok=> ?_);obtain⟨hl,_⟩:=ok_map (f:=eObj) (okL_cons hok).1;simp only[ZE,seval];refine eloop chL mixed s.length (fun k=> ∀i (h:i+1<s.length),i<k→(s[i]'(by omega)).1 <s[i+1].1) (fun k=>([(0,.d (eSt s)),(3,.d (eI (k+1:Nat)))],[])) (fun i h hk=>by omega) ?_ ?_ (fun k hk hI=> ?_)
 ·simp only[ZE,seval]
 ·simp only[ZE,seval]
 rcases war (k+1) s.length with h | h
 ·have h0:k<s.length:=by omega
  have hw:=wrap_succ (show k+1<9223372036854775807 by omega);have hm:IntKind.i64.wrap (((k+1:Nat):Int)-1)=(k:Int):=by rw[wrap_id (by omega) (by omega)]; omega
  have l0:=lt_int h0;by_cases hc:s[k].1 <s[k+1].1
  ·have e1:decide ((s[k+1].1 :Int)≤(s[k].1 :Int))=false:=by simp; omega
   simp only[ZE,seval,dec_lt h,lt_int h,getD_map h,hm,l0,getD_map h0,hw,e1];refine⟨by kernel_rfl,h0,fun i hi hk1=> ?_⟩;rcases war i k with h2 | h2
   ·exact hI i hi h2
   ·have:i=k:=(by omega);subst this;exact hc
  ·have e1:decide ((s[k+1].1 :Int)≤(s[k].1 :Int))=true:=by simp; omega
   have hf:isB s=false:=by
    cases hb:isB s with
    | false=>rfl
    | true=>exact absurd (isB_iff.1 hb k h) hc
   simp only[ZE,seval,dec_lt h,lt_int h,getD_map h,hm,l0,getD_map h0,hw,e1,hf];exact(show drawB _ _ _=true from by kernel_rfl)
 ·have hf:isB s=true:=isB_iff.2 fun i hi=>hI i hi (by omega);simp only[ZE,seval,dec_ge h,hf]
theorem ris_c(s:List Obj):FnP prog 33 [eSt s] (.d (eB (isB s))) []:=by
 refine FnP.of_eC (own:=[]) chL mixed func33 rfl call33 ntmps33 (zle rfl) results33 (fun hok=> ?_);obtain⟨hl,_⟩:=ok_map (f:=eObj) (okL_cons hok).1;simp only[ZE,seval];refine eloop chL mixed s.length (fun k=> ∀i (h:i+1<s.length),i<k→(s[i]'(by omega)).1 <s[i+1].1) (fun k=>([(0,.d (eSt s)),(3,.d (eI (k+1:Nat)))],[])) (fun i h hk=>by omega) ?_ ?_ (fun k hk hI=> ?_)
 ·simp only[ZE,seval]
 ·simp only[ZE,seval]
 rcases war (k+1) s.length with h | h
 ·have h0:k<s.length:=by omega
  have hw:=wrap_succ (show k+1<9223372036854775807 by omega);have hm:IntKind.i64.wrap (((k+1:Nat):Int)-1)=(k:Int):=by rw[wrap_id (by omega) (by omega)]; omega
  have l0:=lt_int h0;by_cases hc:s[k].1 <s[k+1].1
  ·have e1:decide ((s[k+1].1 :Int)≤(s[k].1 :Int))=false:=by simp; omega
   simp only[ZE,seval,dec_lt h,lt_int h,getD_map h,hm,l0,getD_map h0,hw,e1];refine⟨by kernel_rfl,h0,fun i hi hk1=> ?_⟩;rcases war i k with h2 | h2
   ·exact hI i hi h2
   ·have:i=k:=(by omega);subst this;exact hc
  ·have e1:decide ((s[k+1].1 :Int)≤(s[k].1 :Int))=true:=by simp; omega
   have hf:isB s=false:=by
    cases hb:isB s with
    | false=>rfl
    | true=>exact absurd (isB_iff.1 hb k h) hc
   simp only[ZE,seval,dec_lt h,lt_int h,getD_map h,hm,l0,getD_map h0,hw,e1,hf];exact(show drawB _ _ _=true from by kernel_rfl)
 ·have hf:isB s=true:=isB_iff.2 fun i hi=>hI i hi (by omega);simp only[ZE,seval,dec_ge h,hf]
def idxU(x:Nat)(l:List Nat):Int:=if l.contains x=true then(l.idxOf x:Int)else-1
theorem idxU_at{l:List Nat}{x i:Nat}(h:i<l.length)(he:l[i]=x)(hI: ∀k (h:k<l.length),k<i→l[k]≠x):idxU x l=(i:Int):=by
 have hm:l.contains x=true:=by rw[List.contains_iff_mem]; exact he▸wag h
 have hj:l.idxOf x<l.length:=List.idxOf_lt_length_of_mem (by simpa using hm);have h1:l[l.idxOf x]=x:=List.getElem_idxOf hj;have h2:l.idxOf x=i:=by
  rcases Nat.lt_trichotomy (l.idxOf x) i with h3 | h3 | h3
  ·exact absurd h1 (hI _ hj h3)
  ·exact h3
  ·have:=List.not_of_lt_findIdx (p:=(· ==x)) (xs:=l) (i:=i) h3;simp[he]at this
 rw[idxU,if_pos hm,h2]
theorem idxU_none{l:List Nat}{x:Nat}(h: ∀k (h:k<l.length),l[k]≠x):idxU x l= -1:=by
 rw[idxU,if_neg];rw[List.contains_iff_mem];intro hm;obtain⟨k,hk,e⟩:=List.mem_iff_getElem.1 hm;exact h k hk e
theorem index_c(l:List Nat)(x:Nat)(hl:l.length≤1000000):FnP prog 126 [eIds l,eU x] (.d (eI (idxU x l))) []:=by
 refine FnP.of_eC (own:=[]) chL mixed func126 rfl call126 ntmps126 (zle rfl) results126 (fun hok=> ?_);simp only[ZE,seval];refine eloop chL mixed l.length (fun i=> ∀k (h:k<l.length),k<i→l[k]≠x) (fun i=>([(0,.d (eIds l)),(1,.d (eU x)),(7,.d (eI l.length)),(8,.d (eI i))],[])) (fun k h hk=>by omega) ?_ ?_ (fun i hi hI=> ?_)
 ·simp only[ZE,seval]
 ·simp only[ZE,seval]
 rcases war i l.length with h | h
 ·have hw:=wrap_succ (show i<9223372036854775807 by omega);by_cases he:l[i]=x
  ·have e1:decide (l[i]=x)=true:=by simp[he]
   have e2:decide (x=l[i])=true:=by simp[he]
   have hf:=idxU_at h he hI;simp only[ZE,seval,dec_lt h,lt_int h,getD_map h,beq_nat,e1,e2,hf]
  ·have e1:decide (l[i]=x)=false:=by simp[he]
   have e2:decide (x=l[i])=false:=by simp[Ne.symm he]
   simp only[ZE,seval,dec_lt h,lt_int h,getD_map h,beq_nat,e1,e2,hw];refine⟨h,fun k hk hki=> ?_⟩;rcases war k i with h2 | h2
   ·exact hI k hk h2
   ·have:k=i:=(by omega);subst this;exact he
 ·have hf:=idxU_none (x:=x) (fun k hk=>hI k hk (by omega));simp only[ZE,seval,dec_ge h,hf]
theorem contains_c(l:List Nat)(x:Nat)(hl:l.length≤1000000):FnP prog 81 [eIds l,eU x] (.d (eB (l.contains x))) []:=by
 refine FnP.of_eC (own:=[]) chL mixed func81 rfl call81 ntmps81 (zle rfl) results81 (fun hok=> ?_);have e:decide ((0:Int)≤idxU x l)=l.contains x:=by
  unfold idxU;split
  ·rename_i h; rw[h]; simp
  ·rename_i h; rw[Bool.not_eq_true]at h; rw[h]; decide
 simp only[ZE,seval];refine EFn.p ?_;simp only[ZE,seval,e];refine ECall.i (index_c l x hl) ?_;simp only[ZE,seval,e]
theorem in_c(l:List Nat)(x:Nat)(hl:l.length≤1000000):FnP prog 57 [eIds l,eU x] (.d (eB (l.contains x))) []:=by
 refine FnP.of_eC (own:=[]) chL mixed func57 rfl call57 ntmps57 (zle rfl) results57 (fun hok=> ?_);simp only[ZE,seval];refine eloop chL mixed l.length (fun i=> ∀k (h:k<l.length),k<i→l[k]≠x) (fun i=>([(0,.d (eIds l)),(1,.d (eU x)),(5,.d (eI i))],[])) (fun k h hk=>by omega) ?_ ?_ (fun i hi hI=> ?_)
 ·simp only[ZE,seval]
 ·simp only[ZE,seval]
 rcases war i l.length with h | h
 ·have hw:=wrap_succ (show i<9223372036854775807 by omega);by_cases he:l[i]=x
  ·have e1:decide (l[i]=x)=true:=by simp[he]
   have hf:l.contains x=true:=by rw[List.contains_iff_mem]; exact he▸wag h
   simp only[ZE,seval,dec_lt h,lt_int h,getD_map h,beq_nat,e1,hf]
  ·have e1:decide (l[i]=x)=false:=by simp[he]
   simp only[ZE,seval,dec_lt h,lt_int h,getD_map h,beq_nat,e1,hw];refine⟨h,fun k hk hki=> ?_⟩;rcases war k i with h2 | h2
   ·exact hI k hk h2
   ·have:k=i:=(by omega);subst this;exact he
 ·have hf:l.contains x=false:=by
   rw[←Bool.not_eq_true,List.contains_iff_mem];intro hm;obtain⟨k,hk,e⟩:=List.mem_iff_getElem.1 hm;exact hI k hk (by omega) e
  simp only[ZE,seval,dec_ge h,hf]
def cmpN(a b:Nat):Int:=if a<b then-1 else if b<a then 1 else 0
theorem nan_c(a:Nat):FnP prog 183 [eU a] (.d (eB false)) []:=by
 refine FnP.of_eC (own:=[]) chL mixed func183 rfl call183 ntmps183 (zle rfl) results183 (fun hok=> ?_);simp only[ZE,seval,bne_nat]
theorem cmp_c(a b:Nat):FnP prog 125 [eU a,eU b] (.d (eI (cmpN a b))) []:=by
 refine FnP.of_eC (own:=[]) chL mixed func125 rfl call125 ntmps125 (zle rfl) results125 (fun hok=> ?_);simp only[ZE,seval];refine EFn.p ?_;simp only[ZE,seval];refine ECall.i (nan_c a) ?_;simp only[ZE,seval];refine EFn.p ?_;simp only[ZE,seval];refine ECall.i (nan_c b) ?_;rcases Nat.lt_trichotomy a b with h | h | h
 ·have e1:decide ((a:Int)<(b:Int))=true:=by simp; omega
  simp only[ZE,seval,e1,cmpN,h]
 ·subst h;have e1:decide ((a:Int)<(a:Int))=false:=by simp
  simp only[ZE,seval,e1,cmpN,Nat.lt_irrefl]
 ·have e1:decide ((a:Int)<(b:Int))=false:=by simp; omega
  have e2:decide ((b:Int)<(a:Int))=true:=by simp; omega
  have h2: ¬a<b:=by omega
  simp only[ZE,seval,e1,e2,cmpN,h,h2]
theorem find1_c(o:Obj)(id:Nat):FnP prog 180 [.agg (eObj o),eU id] (.d (eI (cmpN o.1 id))) []:=by
 refine FnP.of_eC (own:=[]) chL mixed func180 rfl call180 ntmps180 (zle rfl) results180 (fun hok=> ?_);simp only[ZE,seval];refine EFn.p ?_;simp only[ZE,seval];refine ECall.i (cmp_c o.1 id) ?_;simp only[ZE,seval]
def lowS(s:List Obj)(id:Nat):Nat:=s.countP fun o=>decide (o.1<id)
theorem low_le(s:List Obj)(id:Nat):lowS s id≤s.length:=List.countP_le_length
theorem low_lt: ∀ {s:List Obj},okS s→ ∀(id i:Nat) (h:i<s.length),s[i].1 <id↔i<lowS s id
 | [],_,id,i,h=>by simp at h
 | x::r,hs,id,i,h=>by
  have h':=List.pairwise_cons.1 hs;unfold lowS;rw[List.countP_cons];cases i with
  | zero=>
   simp only[List.getElem_cons_zero];by_cases hx:x.1<id
   ·simp[hx]
   ·simp only[hx,decide_false,if_neg,Bool.false_eq_true];have:r.countP (fun o=>decide (o.1<id))=0:=by
     rw[List.countP_eq_zero];intro y hy;have:=h'.1 y hy;simp; omega
    simp[this]
  | succ i=>
   simp only[List.getElem_cons_succ];have ih:=low_lt h'.2 id i (by simpa using h);unfold lowS at ih;by_cases hx:x.1<id
   ·simp only[hx,decide_true,if_true]; omega
   ·simp only[hx,decide_false,if_neg,Bool.false_eq_true];have h0:r.countP (fun o=>decide (o.1<id))=0:=by
     rw[List.countP_eq_zero];intro y hy;have:=h'.1 y hy;simp; omega
    rw[h0]at ih ⊢;simp at ih ⊢; omega
def isAt(s:List Obj)(id:Nat):Bool:=match s[lowS s id]? with | some o=>decide (o.1=id) | none=>false
theorem bs_c(s:List Obj)(id:Nat)(hs:okS s)(hl:s.length≤1000000):FnP prog 179 [eSt s,eU id,.clo (.func 180) [] []] (.tup [.d (eI (lowS s id)),.d (eB (isAt s id))]) []:=by
 refine FnP.of_eC (own:=[]) chL mixed func179 rfl call179 ntmps179 (zle rfl) results179 (fun hok=> ?_);simp only[ZE,seval];refine eloopX (X:=Nat×Nat) (fun _=>chL) mixed s.length (fun r x=>x.1≤x.2∧x.2≤s.length∧x.2-x.1+r≤s.length∧x.1≤lowS s id∧lowS s id≤x.2) (fun r x=>([(0,.d (eSt s)),(1,.d (eU id)),(2,.d (.clo (.func 180) [] [])),(8,.d (eI s.length)),(9,.d (eI x.1)),(10,.d (eI x.2))],[])) (0,s.length) ⟨by omega,by omega,by simp,by omega,low_le s id⟩ ?_ ?_ (fun r x hr hI=> ?_)
 ·simp only[ZE,seval]
 ·simp only[ZE,seval]
 obtain⟨i,j⟩:=x;obtain⟨h1,h2,h3,h4,h5⟩:=hI;simp only at h1 h2 h3 h4 h5;by_cases hij:i<j
 ·have w1:IntKind.i64.wrap ((i:Int)+(j:Int))=((i+j:Nat):Int):=wrap_add (by omega);have w2:IntKind.u64.wrap ((i+j:Nat):Int)=((i+j:Nat):Int):=wrap_u (by unfold W64; omega);have hm:(i+j) / 2<s.length:=by omega
  have w3:Int.fdiv ((i+j:Nat):Int) (2 ^ (min 1 IntKind.u64.bits))=(((i+j) / 2:Nat):Int):=by
   have e:(2:Int) ^ (min 1 IntKind.u64.bits)=((2:Nat):Int):=rfl;rw[e,Int.fdiv_eq_ediv_of_nonneg _ (by omega)];rfl
  have w4:IntKind.i64.wrap (((i+j) / 2:Nat):Int)=(((i+j) / 2:Nat):Int):=wrap_id (by omega) (by omega);simp only[ZE,seval,dec_lt hij,w1,w2,w3,w4,lt_int hm,getD_map hm];refine EFn.p ?_;simp only[ZE,seval];have hc:=find1_c s[(i+j) / 2] id;simp only[ZE,seval]at hc;refine ECall.i hc ?_;clear hc;have hlow:=low_lt hs id ((i+j) / 2) hm;by_cases hc:s[(i+j) / 2].1 <id
  ·have c1:decide (cmpN s[(i+j) / 2].1 id<0)=true:=by simp[cmpN,hc]
   have w5:=wrap_succ (show(i+j) / 2<9223372036854775807 by omega);simp only[ZE,seval,c1,w5];exact⟨by omega,((i+j) / 2+1,j),⟨by omega,by omega,by omega,by omega,by omega⟩,⟨rfl,rfl,rfl,rfl,rfl,rfl,trivial⟩,trivial⟩
  ·have c1:decide (cmpN s[(i+j) / 2].1 id<0)=false:=by
    unfold cmpN; rw[if_neg hc]; split <;> decide
   simp only[ZE,seval,c1];exact⟨by omega,(i,(i+j) / 2),⟨by omega,by omega,by omega,by omega,by omega⟩,⟨rfl,rfl,rfl,rfl,rfl,rfl,trivial⟩,trivial⟩
 ·have hi:i=lowS s id:=by omega
  subst hi;have d0:decide (((lowS s id:Nat):Int)<(j:Int))=false:=by simp; omega
  by_cases hn:lowS s id<s.length
  ·have hc:isAt s id=decide (s[lowS s id].1 =id):=by unfold isAt; rw[wak hn]
   simp only[ZE,seval,d0,dec_lt hn,lt_int hn,getD_map hn];have h1:=find1_c s[lowS s id] id;simp only[ZE,seval]at h1;refine ECallC.i (fun _=>h1) ?_;have hz:(cmpN s[lowS s id].1 id==0)=isAt s id:=by
    rw[hc,wat];unfold cmpN;simp only[beq_iff_eq,decide_eq_true_eq];split
    ·omega
    ·split <;> omega
   simp only[ZE,seval,hz]
  ·have hc:isAt s id=false:=by unfold isAt; rw[List.getElem?_eq_none (by omega)]
   simp only[ZE,seval,d0,dec_ge (show s.length≤lowS s id by omega)];refine ECallC.i (V:=.d (eI 0)) (fun h=>by cases h) ?_;simp only[ZE,seval,hc]
theorem find_c(s:List Obj)(id:Nat)(hs:okS s)(hl:s.length≤1000000):FnP prog 122 [eSt s,eU id] (.tup [.d (eI (lowS s id)),.d (eB (isAt s id))]) []:=by
 refine FnP.of_eC (own:=[]) chL mixed func122 rfl call122 ntmps122 (zle rfl) results122 (fun hok=> ?_);simp only[ZE,seval];refine EFn.p ?_;simp only[ZE,seval];have hc:=bs_c s id hs hl;simp only[ZE,seval]at hc;refine ECall.i hc ?_;clear hc;simp only[ZE,seval]
theorem isAt_lk{s:List Obj}(hs:okS s)(id:Nat):isAt s id=true→ ∃h:lowS s id<s.length,s[lowS s id].1 =id∧lk s id=some s[lowS s id].2 :=by
 intro h;unfold isAt at h;split at h
 ·rename_i o ho;obtain⟨hl,rfl⟩:=List.getElem?_eq_some_iff.1 ho;have e:=of_decide_eq_true h;refine⟨hl,e,?_⟩;have:=(lk_mem hs (x:=s[lowS s id])).1 (wag hl);rwa [e]at this
 ·cases h
theorem isAt_none{s:List Obj}(hs:okS s)(id:Nat):isAt s id=false→lk s id=none:=by
 intro h;rw[lk_none];intro x hx e;obtain⟨i,hi,rfl⟩:=List.mem_iff_getElem.1 hx;have h1:=low_lt hs id i hi;have hle:lowS s id≤i:=by omega
 have hlt:lowS s id<s.length:=by omega
 have hne: ¬s[lowS s id].1 <id:=by rw[low_lt hs id _ hlt]; omega
 have h2:s[lowS s id].1 =id:=by
  rcases war (lowS s id) i with h3 | h3
  ·have:=(List.pairwise_iff_getElem.1 hs) _ _ hlt hi h3;omega
  ·have h4:lowS s id=i:=by omega
   simp only[h4]; exact e
 unfold isAt at h;rw[wak hlt]at h;simp only[h2]at h;simp at h
def getR(s:List Obj)(id:Nat):List Nat×Int:=match getS s id with | some d=>(d,0) | none=>([],180)
theorem get_c(s:List Obj)(id:Nat)(hs:okS s)(ho:okO s):FnP prog 83 [eSt s,eU id] (.tup [.d (eBy (getR s id).1),.d (eI (getR s id).2)]) []:=by
 refine FnP.of_eC (own:=[]) chL mixed func83 rfl call83 ntmps83 (zle rfl) results83 (fun hok=> ?_);simp only[ZE,seval];refine EFn.p ?_;simp only[ZE,seval];have hc:=find_c s id hs ho.1;simp only[ZE,seval]at hc;refine ECall.i hc ?_;clear hc;cases hc:isAt s id with
 | false=>
  have hn:=isAt_none hs id hc;have hg:getR s id=([],180):=by unfold getR getS; rw[hn]
  simp only[ZE,seval,hc,hg];refine ECallC.i (V:=.d (eB false)) (fun h=>by cases h) ?_;simp only[ZE,seval]
 | true=>
  obtain⟨hlt,he,hk⟩:=isAt_lk hs id hc;simp only[ZE,seval,hc,lt_int hlt,getD_map hlt];have h1:=sound_c s[lowS s id] (ho.2 _ (wag hlt)).2;simp only[ZE,seval]at h1;refine ECallC.i (fun _=>h1) ?_;by_cases hd:id=digB s[lowS s id].2
  ·have hg:getR s id=(s[lowS s id].2,0):=by unfold getR getS; rw[hk]; simp only[if_pos hd]
   have hb:soundB s[lowS s id]=true:=by simp[soundB,he]; exact hd
   simp only[ZE,seval,hb,hg]
  ·have hg:getR s id=([],180):=by unfold getR getS; rw[hk]; simp only[if_neg hd]
   have hb:soundB s[lowS s id]=false:=by simp[soundB,he]; exact hd
   simp only[ZE,seval,hb,hg]
theorem rows1(l:List Nat):rowsOk 1 (l.map fun n=>[eU n]):=by
 intro y hy;obtain⟨q,_,rfl⟩:=List.mem_map.1 hy;simp[eU,D.one,Value.oneCell']
theorem rows2(l:List Obj):rowsOk 2 (l.map eObj):=by
 intro y hy;obtain⟨q,_,rfl⟩:=List.mem_map.1 hy;simp[eObj,eU,eBy,D.one,Value.oneCell']
theorem ids_c(s:List Obj)(hl:s.length≤1000000):FnP prog 46 [eSt s] (.d (eIds (s.map (·.1)))) []:=by
 refine FnP.of_eC (own:=[]) (fun _=>[]) mixed func46 rfl call46 ntmps46 (zle rfl) results46 (fun hok=> ?_);simp only[ZE,seval];refine eloop (fun _=>[]) mixed s.length (fun _=>True) (fun i=>([(0,.d (eSt s)),(3,.ar 5 i),(4,.d (eI i))],[(5,.arr 62 1 .flat ((s.take i).map fun o=>[eU o.1]))])) trivial ?_ ?_ (fun i hi _=> ?_)
 ·simp only[ZE,seval]
 ·simp only[ZE,seval,wao]
 rcases war i s.length with h | h
 ·have hw:=wrap_succ (show i<9223372036854775807 by omega);have hlen:=take_len s i (by omega);simp only[ZE,seval,dec_lt h,lt_int h,getD_map h,hlen,hw,zN];exact⟨⟨by omega,by omega⟩,h,congrArg _ (take_map_snoc (fun o:Obj=>[D.lit (.int .u64 o.1)]) s i h)⟩
 ·have hi2:i=s.length:=by omega
  have ht:s.take i=s:=wai h;simp only[ZE,seval,dec_ge h,ht,List.map_map];exact⟨hi2,rfl⟩
def damS(s:List Obj):List Nat:=(s.filter fun o=> !soundB o).map (·.1)
theorem damaged_c(s:List Obj)(ho:okO s):FnP prog 38 [eSt s] (.d (eIds (damS s))) []:=by
 have hl:=ho.1;refine FnP.of_eC (own:=[]) (fun i=>if i=1 then [.adT 3 50 62 1]else []) mixed func38 rfl call38 ntmps38 (zle rfl) results38 (fun hok=> ?_);obtain⟨r,hr⟩: ∃r:Nat→List Nat,∀k,r k=damS (s.take k):=⟨fun k=>damS (s.take k),fun _=>rfl⟩;have hrl: ∀k,(r k).length ≤1000000:=fun k=>by
  rw[hr,damS,waa];exact Nat.le_trans (List.length_filter_le _ _) (by rw[wah]; omega)
 have hr0:r 0=[]:=by rw[hr]; rfl
 simp only[ZE,seval];refine eloop (fun _=>[]) mixed s.length (fun _=>True) (fun i=>([(0,.d (eSt s)),(6,.d (eSt s)),(3,.ar 50 (r i).length),(7,.d (eI s.length)),(8,.d (eI i))],[(50,.arr 62 1 .flat ((r i).map fun n=>[eU n]))])) trivial ?_ ?_ (fun i hi _=> ?_)
 ·simp only[ZE,seval,hr0]
 ·simp only[ZE,seval,hr0]
 rcases war i s.length with h | h
 ·have hw:=wrap_succ (show i<9223372036854775807 by omega);simp only[ZE,seval,dec_lt h,lt_int h,getD_map h];refine EFn.p ?_;simp only[ZE,seval];have hc:=sound_c s[i] (ho.2 _ (wag h)).2;simp only[ZE,seval]at hc;refine ECall.i hc ?_;clear hc;have hs:r (i+1)=r i++damS [s[i]]:=by
   rw[hr,hr,waf h];simp only[damS,List.filter_append,wad]
  have hl1:=hrl (i+1);have hrw:=rows1 (r i);cases hb:soundB s[i]with
  | true=>
   have hs2:r (i+1)=r i:=by rw[hs]; simp[damS,hb]
   simp only[ZE,seval,hb,hw,hs2];exact h
  | false=>
   have hs2:r (i+1)=r i++[s[i].1]:=by rw[hs]; simp[damS,hb]
   rw[hs2,wab,wac,wae]at hl1;simp only[ZE,seval,hb,hw,hs2,wad,wab,hrw,zN];exact⟨⟨by omega,by omega⟩,h⟩
 ·have ht:r i=damS s:=by rw[hr,wai h]
  simp only[ZE,seval,dec_ge h,ht]
theorem keep_c(s:List Obj)(ids:List Nat)(ho:s.length≤1000000)(hi2:ids.length≤1000000):FnP prog 44 [eSt s,eIds ids] (.d (eSt (keepS s ids))) []:=by
 refine FnP.of_eC (own:=[]) (fun i=>if i=1 then [.adT 5 50 92 2]else []) mixed func44 rfl call44 ntmps44 (zle rfl) results44 (fun hok=> ?_);obtain⟨r,hr⟩: ∃r:Nat→List Obj,∀k,r k=keepS (s.take k) ids:=⟨fun k=>keepS (s.take k) ids,fun _=>rfl⟩;have hrl: ∀k,(r k).length ≤1000000:=fun k=>by
  rw[hr,keepS];exact Nat.le_trans (List.length_filter_le _ _) (by rw[wah]; omega)
 have hr0:r 0=[]:=by rw[hr]; rfl
 simp only[ZE,seval];refine eloop (fun _=>[]) mixed s.length (fun _=>True) (fun i=>([(0,.d (eSt s)),(1,.d (eIds ids)),(8,.d (eSt s)),(5,.ar 50 (r i).length),(9,.d (eI s.length)),(10,.d (eI i))],[(50,.arr 92 2 .flat ((r i).map eObj))])) trivial ?_ ?_ (fun i hi _=> ?_)
 ·simp only[ZE,seval,hr0]
 ·simp only[ZE,seval,hr0]
 rcases war i s.length with h | h
 ·have hw:=wrap_succ (show i<9223372036854775807 by omega);simp only[ZE,seval,dec_lt h,lt_int h,getD_map h];refine EFn.p ?_;simp only[ZE,seval];refine ECall.i (contains_c ids s[i].1 hi2) ?_;have hs:r (i+1)=r i++keepS [s[i]] ids:=by
   rw[hr,hr,waf h];simp only[keepS,List.filter_append]
  have hl1:=hrl (i+1);have hrw:=rows2 (r i);cases hb:ids.contains s[i].1 with
  | false=>
   have hs2:r (i+1)=r i:=by rw[hs]; simp only[keepS,List.filter_cons,hb,List.filter_nil]; simp
   simp only[ZE,seval,hb,hw,hs2];exact h
  | true=>
   have hs2:r (i+1)=r i++[s[i]]:=by rw[hs]; simp only[keepS,List.filter_cons,hb,List.filter_nil]; simp
   rw[hs2,wab,wac,wae]at hl1;simp only[ZE,seval,hb,hw,hs2,wad,wab,hrw,zN];exact⟨⟨by omega,by omega⟩,h⟩
 ·have ht:r i=keepS s ids:=by rw[hr,wai h]
  simp only[ZE,seval,dec_ge h,ht]
def idxO(id:Nat)(s:List Obj):Int:=idxU id (s.map (·.1))
theorem rfind_c(s:List Obj)(id:Nat)(hl:s.length≤1000000):FnP prog 55 [eSt s,eU id] (.d (eI (idxO id s))) []:=by
 refine FnP.of_eC (own:=[]) chL mixed func55 rfl call55 ntmps55 (zle rfl) results55 (fun hok=> ?_);simp only[ZE,seval];refine eloop chL mixed s.length (fun i=> ∀k (h:k<(s.map (·.1)).length),k<i→(s.map (·.1))[k]≠id) (fun i=>([(0,.d (eSt s)),(1,.d (eU id)),(5,.d (eI i))],[])) (fun k h hk=>by omega) ?_ ?_ (fun i hi hI=> ?_)
 ·simp only[ZE,seval]
 ·simp only[ZE,seval]
 rcases war i s.length with h | h
 ·have hw:=wrap_succ (show i<9223372036854775807 by omega);have h':i<(s.map (·.1)).length :=by simpa using h
  by_cases he:s[i].1 =id
  ·have e1:decide (s[i].1 =id)=true:=by simp[he]
   have hf:idxO id s=(i:Int):=idxU_at h' (by simpa using he) hI;simp only[ZE,seval,dec_lt h,lt_int h,getD_map h,beq_nat,e1,hf]
  ·have e1:decide (s[i].1 =id)=false:=by simp[he]
   simp only[ZE,seval,dec_lt h,lt_int h,getD_map h,beq_nat,e1,hw];refine⟨h,fun k hk hki=> ?_⟩;rcases war k i with h2 | h2
   ·exact hI k (by simpa using hk) h2
   ·have:k=i:=(by omega);subst this;simpa using he
 ·have hf:idxO id s= -1:=idxU_none (fun k hk=>hI k hk (by simp at hk; omega));simp only[ZE,seval,dec_ge h,hf]
section
open Go.Aw Go.RowKit Go.Lib
set_option maxRecDepth 1000000
structure Hd (p:Prop):Prop where
 out:p
set_option maxHeartbeats 8000000 in
theorem insAObject(g n c vb m vc:Nat)(vs:List Value)(w:World)(hm:0<m)(hroom:n+m≤c)(hc63:c≤9223372036854775807)(hvl:vs.length=m*2)
  (hsp: ∀j,j<m*2→(w.cell? ⟨g,0+n*2+j,none⟩).isSome =true) (hfz: ∀j,j<m*2→w.frozen? ⟨g,0+n*2+j,none⟩=false)
  (hvs: ∀j v,vs[j]? =some v→w.cell? ⟨vb,j,none⟩=some v) (h1v: ∀v∈vs,v.oneCell'=true):
  Calls prog 123 #[.slice (some ⟨g,0,none⟩) n c,.int .i64 n,.slice (some ⟨vb,0,none⟩) m vc] w fun e w'=>e= .returned (.slice (some ⟨g,0,none⟩) (n+m) c)∧w'=w.setCells g (0+n*2) vs:=by
 obtain⟨i0,z0,t28,hi0,hz0,hzc,hz1,_,_⟩:=appTy_some tA63;have mixed:=mixed;have hzz: ¬((m:Int)=0):=by omega
 have hsrc:Src prog i0.size 63 (.slice (some ⟨vb,0,none⟩) m vc) m vs w:=by
  rw[hz1];exact Src.ofSlice w t28 ⟨vb,0,none⟩ m vc vs hvl (fun j u hj=>by rw[Addr.add_lit,Nat.zero_add]; exact hvs j u hj) h1v
 have hrun: ∀ty,(Builtin.append_ #[63,63] ty #[.slice (some ⟨g,0,none⟩) n c,.slice (some ⟨vb,0,none⟩) m vc]).run prog w= .ok (.slice (some ⟨g,0,none⟩) (n+m) c) (w.setCells g (0+n*2) vs):=fun ty=>by
  have h:=run_append_room_src w 63 63 ty 92 i0 t28 hi0 g 0 n c _ m vs hsrc hroom (by rw[hz1,hvl]; exact hsp) (by rw[hz1,hvl]; exact hfz);rw[hz1]at h;exact h
 clear hsp hfz hvs h1v hsrc
 go_enter func123,ntmps123
 go_wp2_with (at_builtin; refine Lib.wpList_append_run _ rfl _ _ _ _ rfl _ _ rfl rfl _ _ (hrun _) ?_)
 go_ret;exact⟨rfl,by rw[Nat.zero_add]⟩
set_option maxHeartbeats 8000000 in
theorem insBObject(base:Option Addr)(n c vb m vc:Nat)(cs vs:List Value)(w:World)(hm:0<m)(hnc:n≤c)(hroom:c<n+m)(hbig:(n+m)*32≤140737488355328)(hcl:cs.length=n*2)(hvl:vs.length=m*2)(hnil:base=none→n=0)
  (hcs: ∀a,base=some a→ ∀j v,cs[j]? =some v→w.cell? (a.add j)=some v)
  (hvs: ∀j v,vs[j]? =some v→w.cell? ⟨vb,j,none⟩=some v) (h1v: ∀v∈vs,v.oneCell'=true):
  Calls prog 123 #[.slice base n c,.int .i64 n,.slice (some ⟨vb,0,none⟩) m vc] w fun e w'=> ∃(cur':Array Value),e= .returned (.slice (some ⟨w.heap.size,0,none⟩) (n+m) (grownCap w (n+m) c 92))∧
   w'=w.drew.alloc (.cells ((cs++vs).toArray ++cur') 92)∧cur'.size=(grownCap w (n+m) c 92-(n+m))*2:=by
 obtain⟨i0,z0,t28,hi0,hz0,hzc,hz1,hzb,_⟩:=appTy_some tA63;have mixed:=mixed;have hzz: ¬((m:Int)=0):=by omega
 have hsrc:Src prog i0.size 63 (.slice (some ⟨vb,0,none⟩) m vc) m vs w:=by
  rw[hz1];exact Src.ofSlice w t28 ⟨vb,0,none⟩ m vc vs hvl (fun j u hj=>by rw[Addr.add_lit,Nat.zero_add]; exact hvs j u hj) h1v
 have hold:(Builtin.firstCells i0.size n (.slice base n c)).run prog w.drew= .ok cs.toArray w.drew:=by
  rw[hz1];cases base with
  | none=>
   have h0:=hnil rfl;subst h0;have hc0:cs=[]:=List.length_eq_zero_iff.1 (by rw[hcl,Nat.zero_mul]);rw[hc0];exact run_firstCells_none w.drew 2 0 0 c
  | some a=>exact run_firstCells_some w.drew 2 n a n c cs hcl (fun j v hj=>hcs a rfl j v hj)
 obtain⟨R,hR⟩: ∃R:Array Value,R=Builtin.zeroCells z0.cells (grownCap w (n+m) c 92-(n+m)):=⟨_,rfl⟩;have hRs:R.size=(grownCap w (n+m) c 92-(n+m))*2:=by rw[hR]; simp[Builtin.zeroCells,hzc]
 have hrun: ∀ty,(Builtin.append_ #[63,63] ty #[.slice base n c,.slice (some ⟨vb,0,none⟩) m vc]).run prog w= .ok (.slice (some ⟨w.heap.size,0,none⟩) (n+m) (grownCap w (n+m) c 92)) (w.drew.alloc (.cells ((cs++vs).toArray ++R) 92)):=fun ty=>by
  have h:=run_append_grow_src w 63 63 ty 92 i0 z0 t28 hi0 hz0 base n c cs hold _ m vs hsrc hroom (by omega) (by rw[hzb]; exact growslice_fits hroom hbig);rw[←hR]at h;exact h
 obtain⟨G,hG⟩: ∃G,G=grownCap w (n+m) c 92:=⟨_,rfl⟩;rw[←hG]at hrun hRs ⊢;have XR:Hd (R.size=(G-(n+m))*2):=⟨hRs⟩;clear hcs hvs h1v hsrc hold hR hG hRs
 go_enter func123,ntmps123
 cases base with
 | none=>
  have h0:=hnil rfl;subst h0
  go_wp2_with (at_builtin; refine Lib.wpList_append_run _ rfl _ _ _ _ rfl _ _ rfl rfl _ _ (hrun _) ?_)
  go_ret;exact⟨by simp,R,by simp,by rw[XR.out,Nat.zero_add]⟩
 | some a=>
  obtain⟨ab,ao,asp⟩:=a
  go_wp2_with (at_builtin; refine Lib.wpList_append_run _ rfl _ _ _ _ rfl _ _ rfl rfl _ _ (hrun _) ?_)
  all_goals (go_ret; exact⟨rfl,R,rfl,XR.out⟩)
set_option maxHeartbeats 16000000 in
theorem insCObject(g n c i vb m vc:Nat)(cs vs:List Value)(w:World)(hi:i<n)(hm:0<m)(hroom:n+m≤c)(hc63:c≤9223372036854775807)(hvb:vb≠g)(hcl:cs.length=n*2)(hvl:vs.length=m*2)
  (hcs: ∀j v,cs[j]? =some v→w.cell? ⟨g,j,none⟩=some v) (hsp: ∀j,j<(n+m)*2→(w.cell? ⟨g,j,none⟩).isSome =true) (hfz: ∀j,w.frozen? ⟨g,j,none⟩=false)
  (hvs: ∀j v,vs[j]? =some v→w.cell? ⟨vb,j,none⟩=some v) (h1c: ∀v∈cs,v.oneCell'=true) (h1v: ∀v∈vs,v.oneCell'=true)
  (tA tB:TypeId) (kA kB:Nat) (hsa:w.shape? vb=some (tA,kA)) (hsb:w.shape? g=some (tB,kB)) (hkB:kB≠0) (hfa:w.frozen? ⟨vb,0,none⟩=false) (hfe:w.frozen? ⟨vb,kA,none⟩=false):
  Calls prog 123 #[.slice (some ⟨g,0,none⟩) n c,.int .i64 i,.slice (some ⟨vb,0,none⟩) m vc] w fun e w'=>
   e= .returned (.slice (some ⟨g,0,none⟩) (n+m) c)∧w'=(w.drew.setCells g ((i+m)*2) (cs.drop (i*2))).setCells g (i*2) vs:=by
 obtain⟨i0,z0,t28,hi0,hz0,hzc,hz1s,hzb,_⟩:=appTy_some tA63;have mixed:=mixed;have hz1: ¬((m:Int)=0):=by omega
 have hz2: ¬((i:Int)=(n:Int)):=by omega
 have hsz:(prog.info? 92).map (·.size)=some 2:=by rw[hi0]; simp[hz1s]
 have hov: ∀lb cb,(callFunc 181 #[.slice (some ⟨vb,0,none⟩) m vc,.slice (some ⟨g,(i+m)*2,none⟩) lb cb]).run prog w= .ok (.value (.bool false)) w:=fun lb cb=>by
  rw[run_callFunc_extern func181 (by kernel_rfl) (by kernel_rfl) (by kernel_rfl) (e:=Extern.SlicesOverlaps.overlaps #[63,63] #[4]) (by kernel_rfl),
   Lib.run_overlaps_apart w 63 4 92 t28 2 sizeOf92 ⟨vb,0,none⟩ ⟨g,(i+m)*2,none⟩ m vc lb cb hvb tA tB kA kB hsa hsb hkB hfa hfe]
  rfl
 have hdl:(cs.drop (i*2)).length =(n-i)*2:=by rw[List.length_drop,hcl,Nat.sub_mul]
 have hw1:IntKind.i64.wrap ((i:Int)+(m:Int))=(i:Int)+(m:Int):=by rw[IntKind.wrap_i64]; omega
 have hb1:(0:Int)≤(i:Int)+(m:Int):=by omega
 have hin:i≤n:=by omega
 have htn:((i:Int)+(m:Int)).toNat =i+m:=by omega
 have hb2: ¬(c=i+m):=by omega
 have hb3:(i:Int)≤(n:Int)+(m:Int):=by omega
 have hb4: ¬(c=i):=by omega
 have hcp1: ∀ty dc sc,(Builtin.copy_ #[63,63] ty #[.slice (some ⟨g,(i+m)*2,none⟩) (n+m-(i+m)) dc,.slice (some ⟨g,i*2,none⟩) (n+m-i) sc]).run prog w.drew= .ok (goInt (n-i:Nat)) (w.drew.setCells g ((i+m)*2) (cs.drop (i*2))):=fun ty dc sc=>by
  have hmin:Nat.min (n+m-i) (n+m-(i+m))=n-i:=by simp only[Nat.min_def]; split <;> omega
  have h:=run_copy_k w.drew 63 63 ty 92 2 g ((i+m)*2) (n+m-(i+m)) dc ⟨g,i*2,none⟩ (n+m-i) sc (cs.drop (i*2)) t28 hsz (by rw[hdl,hmin])
   (fun j v hj=>by rw[Addr.add_lit]; exact hcs (i*2+j) v (by rwa [List.getElem?_drop]at hj))
   (fun j hj=>hsp _ (by rw[hdl]at hj; omega)) (fun j hj=>hfz _) (fun v hv=>h1c v (List.mem_of_mem_drop hv))
  rw[hmin]at h;exact h
 obtain⟨W1,hW1⟩: ∃W1,W1=w.drew.setCells g ((i+m)*2) (cs.drop (i*2)):=⟨_,rfl⟩;have hsp1: ∀k,k<(n+m)*2→(W1.cell? ⟨g,k,none⟩).isSome =true:=fun k hk=>by
  rw[hW1];exact isSome_setCells g _ _ w.drew (fun j hj=>hsp ((i+m)*2+j) (by rw[hdl]at hj; omega)) _ (hsp k hk)
 have hcp2: ∀(W:World),(∀x,W.cell? x=W1.cell? x)→(∀x,W.frozen? x=W1.frozen? x)→ ∀ty dc,(Builtin.copy_ #[63,63] ty #[.slice (some ⟨g,i*2,none⟩) (n+m-i) dc,.slice (some ⟨vb,0,none⟩) m vc]).run prog W= .ok (goInt m) (W.setCells g (i*2) vs):=fun W hWc hWf ty dc=>by
  have hmin:Nat.min m (n+m-i)=m:=by simp only[Nat.min_def]; split <;> omega
  have h:=run_copy_k W 63 63 ty 92 2 g (i*2) (n+m-i) dc ⟨vb,0,none⟩ m vc vs t28 hsz (by rw[hvl,hmin])
   (fun j v hj=>by
    rw[Addr.add_lit,hWc,hW1,World.cell?_setCells_out g _ _ _ _ (fun h _=>absurd h hvb),Nat.zero_add];exact hvs j v hj)
   (fun j hj=>by rw[hWc]; exact hsp1 _ (by rw[hvl]at hj; omega)) (fun j hj=>by rw[hWf,hW1,World.frozen?_setCells]; exact hfz _) h1v
  rw[hmin]at h;exact h
 rw[←hW1]at hcp1;have hWW:Hd (W1=w.drew.setCells g ((i+m)*2) (cs.drop (i*2))):=⟨hW1⟩;clear hW1 hcs hsp hfz hvs h1c h1v hsp1 hdl hcl hvl
 go_enter func123,ntmps123
 go_wp2_with (simp only[hov])
 go_region_law_o (refine step_copy_runI rfl _ _ 63 63 rfl _ _ (by simp[Act.eval,Act.put]) (by simp[Act.eval,Act.put]) (hcp1 _ _ _) ?_)
 go_wp2_with (at_builtin; refine wpList_copy_runI _ rfl _ _ 63 63 rfl _ _ rfl rfl (hcp2 _ (fun _=>rfl) (fun _=>rfl) _ _) ?_)
 go_ret;exact⟨rfl,by rw[hWW.out]⟩
set_option maxHeartbeats 16000000 in
theorem insDObject(g n c i vb m vc:Nat)(cs vs:List Value)(w:World)(hi:i<n)(hm:0<m)(hnc:n≤c)(hroom:c<n+m)(hbig:(n+m)*32≤140737488355328)(hcl:cs.length=n*2)(hvl:vs.length=m*2)
  (hcs: ∀j v,cs[j]? =some v→w.cell? ⟨g,j,none⟩=some v) (hvs: ∀j v,vs[j]? =some v→w.cell? ⟨vb,j,none⟩=some v) (h1c: ∀v∈cs,v.oneCell'=true) (h1v: ∀v∈vs,v.oneCell'=true):
  Calls prog 123 #[.slice (some ⟨g,0,none⟩) n c,.int .i64 i,.slice (some ⟨vb,0,none⟩) m vc] w fun e w'=> ∃ROW:Array Value,
   e= .returned (.slice (some ⟨w.heap.size,0,none⟩) (n+m) (grownCap w (n+m) c 92))∧
   w'=(((w.alloc (.cells ROW 92)).drew.setCells w.heap.size (i*2) vs).drew).setCells w.heap.size ((i+m)*2) (cs.drop (i*2))∧ROW.size=grownCap w (n+m) c 92*2∧ROW.toList.take (i*2)=cs.take (i*2):=by
 obtain⟨i0,z0,t28,hi0,hz0,hzc,hzs,hzb,_⟩:=appTy_some tA63;have mixed:=mixed;have hz1: ¬((m:Int)=0):=by omega
 have hz2: ¬((i:Int)=(n:Int)):=by omega
 have hz3:(c:Int)<(n:Int)+(m:Int):=by omega
 have hsz:(prog.info? 92).map (·.size)=some 2:=by rw[hi0]; simp[hzs]
 have hbw:g<w.heap.size:=block_lt_of_cell (hcs 0 _ (wak (by omega)));have hvw:vb<w.heap.size:=block_lt_of_cell (hvs 0 _ (wak (by omega)));have hkk:(n:Int)+(m:Int)-(i:Int)=((n+m-i:Nat):Int):=by omega
 have hik:i+(n+m-i)=n+m:=by omega
 have hct:(cs.take (i*2)).length =i*2:=by rw[wah,hcl]; omega
 have hold:(Builtin.firstCells i0.size i (.slice (some ⟨g,0,none⟩) i c)).run prog w.drew= .ok (cs.take (i*2)).toArray w.drew:=by
  rw[hzs];exact run_firstCells_some w.drew 2 i ⟨g,0,none⟩ i c (cs.take (i*2)) hct (fun j v hj=>by
   rw[Addr.add_lit,Nat.zero_add];rw[List.getElem?_take]at hj;split at hj
   ·exact hcs j v hj
   ·cases hj)
 obtain⟨G,hG⟩: ∃G,G=grownCap w (n+m) c 92:=⟨_,rfl⟩;obtain⟨ROW,hROW⟩: ∃ROW:Array Value,ROW=(cs.take (i*2)).toArray ++Builtin.zeroCells z0.cells (n+m-i)++Builtin.zeroCells z0.cells (G-(n+m)):=⟨_,rfl⟩;have hrz: ∀ty,(Builtin.append_ #[63,3] ty #[.slice (some ⟨g,0,none⟩) i c,.int .i64 ((n:Int)+(m:Int)-(i:Int))]).run prog w=
   .ok (.slice (some ⟨w.heap.size,0,none⟩) (n+m) G) (w.drew.alloc (.cells ROW 92)):=fun ty=>by
  have h:=Lib.run_append_grow_zeros w 63 3 ty 92 i0 _ .i64 .i64 t28 underlying3 hi0 hz0 (some ⟨g,0,none⟩) i c (cs.take (i*2)) hold (n+m-i) (by omega) (by rw[hzs]; omega) (by omega) (by omega) (by rw[hzb]; omega) (by rw[hzb,hik]; exact growslice_fits hroom hbig);rw[hik]at h;rw[hkk,hROW,hG];exact h
 have hGn:n+m≤G:=by rw[hG]; exact grownCap_ge w _ _ _
 have hG63:G≤9223372036854775807:=by
  have:=grownCap_le_maxLen w (n+m) c 92 (by unfold maxLen; omega);rw[←hG]at this;unfold maxLen at this;omega
 have hRs:ROW.size=G*2:=by
  rw[hROW];have hzs: ∀q,(Builtin.zeroCells z0.cells q).size =q*2:=fun q=>by simp[Builtin.zeroCells,hzc]
  simp only[Array.size_append,List.size_toArray,hct,hzs];omega
 have hRt:ROW.toList.take (i*2)=cs.take (i*2):=by
  rw[hROW];simp only[Array.toList_append,List.append_assoc];rw[List.take_left' hct]
 rw[←hG];obtain⟨W1,hW1⟩: ∃W1,W1=w.drew.alloc (.cells ROW 92):=⟨_,rfl⟩;rw[←hW1]at hrz;have hN: ∀j,j<(n+m)*2→(W1.cell? ⟨w.heap.size,j,none⟩).isSome =true:=fun j hj=>by
  rw[hW1,World.cell?_alloc_at (w:=w.drew) ROW _ w.heap.size j rfl,Array.getElem?_eq_getElem (by rw[hRs]; have:=Nat.mul_le_mul_right 2 hGn; omega)]; rfl
 have hNf: ∀j,W1.frozen? ⟨w.heap.size,j,none⟩=false:=fun j=>by rw[hW1]; exact World.frozen?_alloc_at (w:=w.drew) ROW _ w.heap.size j rfl
 have hOb: ∀j v,w.cell? ⟨g,j,none⟩=some v→W1.cell? ⟨g,j,none⟩=some v:=fun j v h=>by rw[hW1,World.cell?_alloc_past (w:=w.drew) _ g j hbw]; exact h
 have hOv: ∀j v,w.cell? ⟨vb,j,none⟩=some v→W1.cell? ⟨vb,j,none⟩=some v:=fun j v h=>by rw[hW1,World.cell?_alloc_past (w:=w.drew) _ vb j hvw]; exact h
 have hcpA: ∀(W:World),(∀x,W.cell? x=W1.cell? x)→(∀x,W.frozen? x=W1.frozen? x)→ ∀ty dc,(Builtin.copy_ #[63,63] ty #[.slice (some ⟨w.heap.size,i*2,none⟩) (n+m-i) dc,.slice (some ⟨vb,0,none⟩) m vc]).run prog W= .ok (goInt m) (W.setCells w.heap.size (i*2) vs):=fun W hWc hWf ty dc=>by
  have hmin:Nat.min m (n+m-i)=m:=by simp only[Nat.min_def]; split <;> omega
  have h:=run_copy_k W 63 63 ty 92 2 w.heap.size (i*2) (n+m-i) dc ⟨vb,0,none⟩ m vc vs t28 hsz (by rw[hvl,hmin])
   (fun j v hj=>by rw[Addr.add_lit,hWc,Nat.zero_add]; exact hOv _ v (hvs j v hj))
   (fun j hj=>by rw[hWc]; exact hN _ (by rw[hvl]at hj; omega)) (fun j hj=>by rw[hWf]; exact hNf _) h1v
  rw[hmin]at h;exact h
 have hGi: ¬(G=i):=by omega
 have hGim: ¬(G=i+m):=by omega
 have hci: ¬(c=i):=by omega
 have hbN:g≠w.heap.size:=by omega
 have hdl:(cs.drop (i*2)).length =(n-i)*2:=by rw[List.length_drop,hcl,Nat.sub_mul]
 have hcpB: ∀(W:World),(∀x,W.cell? x=(W1.setCells w.heap.size (i*2) vs).cell? x)→(∀x,W.frozen? x=(W1.setCells w.heap.size (i*2) vs).frozen? x)→ ∀ty dc sc,(Builtin.copy_ #[63,63] ty #[.slice (some ⟨w.heap.size,(i+m)*2,none⟩) (n+m-(i+m)) dc,.slice (some ⟨g,i*2,none⟩) (n-i) sc]).run prog W= .ok (goInt (n-i:Nat)) (W.setCells w.heap.size ((i+m)*2) (cs.drop (i*2))):=fun W hWc hWf ty dc sc=>by
  have hmin:Nat.min (n-i) (n+m-(i+m))=n-i:=by simp only[Nat.min_def]; split <;> omega
  have h:=run_copy_k W 63 63 ty 92 2 w.heap.size ((i+m)*2) (n+m-(i+m)) dc ⟨g,i*2,none⟩ (n-i) sc (cs.drop (i*2)) t28 hsz (by rw[hdl,hmin])
   (fun j v hj=>by
    rw[Addr.add_lit,hWc,World.cell?_setCells_out _ _ _ _ _ (fun h _=>absurd h hbN)];exact hOb _ v (hcs (i*2+j) v (by rwa [List.getElem?_drop]at hj)))
   (fun j hj=>by rw[hWc]; exact isSome_setCells _ _ _ _ (fun t ht=>hN _ (by rw[hvl]at ht; omega)) _ (hN _ (by rw[hdl]at hj; omega)))
   (fun j hj=>by rw[hWf,World.frozen?_setCells]; exact hNf _) (fun v hv=>h1c v (List.mem_of_mem_drop hv))
  rw[hmin]at h;exact h
 subst hW1;have hE1: ∀x,((w.alloc (.cells ROW 92)).drew).cell? x=(w.drew.alloc (.cells ROW 92)).cell? x:=fun x=>rfl;have hE2: ∀x,((w.alloc (.cells ROW 92)).drew).frozen? x=(w.drew.alloc (.cells ROW 92)).frozen? x:=fun x=>rfl;have hF1: ∀x,(((w.alloc (.cells ROW 92)).drew.setCells w.heap.size (i*2) vs).drew).cell? x=((w.drew.alloc (.cells ROW 92)).setCells w.heap.size (i*2) vs).cell? x:=fun x=>rfl;have hF2: ∀x,(((w.alloc (.cells ROW 92)).drew.setCells w.heap.size (i*2) vs).drew).frozen? x=((w.drew.alloc (.cells ROW 92)).setCells w.heap.size (i*2) vs).frozen? x:=fun x=>rfl;have hw1:IntKind.i64.wrap ((i:Int)+(m:Int))=(i:Int)+(m:Int):=by rw[IntKind.wrap_i64]; omega
 have hb1:(0:Int)≤(i:Int)+(m:Int):=by omega
 have hin:i≤n:=by omega
 have htn:((i:Int)+(m:Int)).toNat =i+m:=by omega
 have hb3:(i:Int)≤(n:Int):=by omega
 have XR:Hd (ROW.size=G*2∧ROW.toList.take (i*2)=cs.take (i*2)):=⟨hRs,hRt⟩;clear hkk hik hold hROW hG hRs hRt hcs hvs h1c h1v hN hNf hOb hOv hct hcl hvl
 go_enter func123,ntmps123
 go_wp2_with (first
  | (at_builtin; refine Lib.wpList_append_run _ rfl _ _ _ _ rfl _ _ rfl rfl _ _ (hrz _) ?_)
  | (at_builtin; refine wpList_copy_runI _ rfl _ _ 63 63 rfl _ _ rfl rfl (hcpA _ hE1 hE2 _ _) ?_)
  | (at_builtin; refine wpList_copy_runI _ rfl _ _ 63 63 rfl _ _ rfl rfl (hcpB _ (fun _=>rfl) (fun _=>rfl) _ _ _) ?_))
 go_region_law_o (refine step_copy_runI rfl _ _ 63 63 rfl (.slice (some ⟨w.heap.size,(i+m)*2,none⟩) (n+m-(i+m)) (G-(i+m))) (.slice (some ⟨g,i*2,none⟩) (n-i) (c-i)) (by simp[Act.eval,Act.put]) (by simp[Act.eval,Act.put]) (hcpB _ hF1 hF2 3 (G-(i+m)) (c-i)) ?_)
 go_wp2;go_ret;exact⟨ROW,rfl,rfl,XR.out⟩
theorem insertObject_w:InsW prog 123 92 2:={
 at1:=by
  intro W g cap cur n i vb vcap vcur hg hle hcap hcur hone hi hn4 hne hvg hvc hvcur hvone;obtain⟨c,hc⟩:=zX (cur.toList.take (n*2));obtain⟨vs,hvs⟩:=zX (vcur.toList.take 2);rw[hc]at hone ⊢;rw[hvs]at hvone ⊢;have hmx:cap≤9223372036854775807:=hcap;have hnk:n*2≤cur.size:=by rw[hcur]; exact Nat.mul_le_mul_right _ hle
  have hclen:c.length=n*2:=by rw[←hc,wah]; exact Nat.min_eq_left hnk
  have hvlen:vs.length=1*2:=by rw[←hvs,wah]; exact Nat.min_eq_left (by show _≤vcur.size; omega)
  have hcell: ∀j v,c[j]? =some v→W.cell? ⟨g,j,none⟩=some v:=fun j v hj=>by
   rw[←hc,List.getElem?_take]at hj;split at hj
   ·rw[←hj]; simp[World.cell?,hg]
   ·cases hj
  have hvcell: ∀j v,vs[j]? =some v→W.cell? ⟨vb,j,none⟩=some v:=fun j v hj=>by
   rw[←hvs,List.getElem?_take]at hj;split at hj
   ·rw[←hj]; simp[World.cell?,hvg]
   ·cases hj
  have hsp: ∀j,j<cap*2→(W.cell? ⟨g,j,none⟩).isSome =true:=fun j hj=>by
   simp only[World.cell?,hg];rw[show(({block:=g,off:=j,spot:=none}:Addr).spot.isSome)=false from rfl];simp only[Bool.false_eq_true,if_false];rw[Array.getElem?_eq_getElem (by omega)]; rfl
  have hfz: ∀j,W.frozen? ⟨g,j,none⟩=false:=fun t=>by simp[World.frozen?,hg]
  have hvfz: ∀j,W.frozen? ⟨vb,j,none⟩=false:=fun t=>by simp[World.frozen?,hvg]
  have hgw:g<W.heap.size:=(Array.getElem?_eq_some_iff.1 hg).1;have hct:cur.toList.take (i*2)=c.take (i*2):=by rw[←hc,List.take_take,Nat.min_eq_left (by omega)]
  have hdl:(c.drop (i*2)).length =(n-i)*2:=by rw[List.length_drop,hclen,Nat.sub_mul]
  rcases war i n with h | h
  ·rcases war cap (n+1)with h' | h'
   ·refine(insDObject g n cap i vb 1 vcap c vs W h (by omega) hle h' (by omega) hclen hvlen hcell hvcell hone hvone).mono ?_;rintro e' W' ⟨ROW,rfl,hW,hRs,hRt⟩;obtain⟨G,hG⟩:=zX (grownCap W (n+1) cap 92);rw[hG]at hRs ⊢;have hGn:n+1≤G:=(by rw[←hG]; exact grownCap_ge W _ _ _);have hGm:G≤maxLen:=(by rw[←hG]; exact grownCap_le_maxLen W (n+1) cap 92 (by unfold maxLen; omega));have h0:(W.alloc (.cells ROW 92)).drew.heap[W.heap.size]? =some (.cells ROW 92 (0,0)):=World.alloc_heap_new W _;have h1:=setCells_at W.heap.size vs (i*2) _ _ _ _ h0;have h2:=setCells_at W.heap.size (c.drop (i*2)) ((i+1)*2) (((W.alloc (.cells ROW 92)).drew.setCells W.heap.size (i*2) vs).drew) _ _ _ h1;obtain⟨r1,r2,r3,r4⟩:=setCells_rest W.heap.size (c.drop (i*2)) ((i+1)*2) (((W.alloc (.cells ROW 92)).drew.setCells W.heap.size (i*2) vs).drew);obtain⟨q1,q2,q3,q4⟩:=setCells_rest W.heap.size vs (i*2) (W.alloc (.cells ROW 92)).drew;rw[←hW]at h2 r1 r2 r3 r4;refine⟨W.heap.size,G,_,rfl,⟨r1.trans q1,r2.trans q2,r3.trans q3,by rw[r4,show ∀w:World,w.drew.heap.size=w.heap.size from fun _=>rfl,q4]; simp⟩,fun b hb _=> ?_,h2,.inr (was _),hGn,hGm,by rw[putL_size,putL_size,hRs],?_⟩
    ·have hbn:b≠W.heap.size:=(by omega);rw[hW,setCells_else _ _ _ _ b hbn];show(((W.alloc (.cells ROW 92)).drew.setCells W.heap.size (i*2) vs)).heap[b]? =_;rw[setCells_else _ _ _ _ b hbn];show(W.heap.push _)[b]? =_;rw[Array.getElem?_push,if_neg hbn]
    ·have hp:=putL2 ROW (i*2) vs (c.drop (i*2)) (by rw[hvlen,hdl,hRs]; omega);rw[hvlen,hdl,hRt]at hp;rw[show(n+1)*2=i*2+1*2+(n-i)*2 by omega,show(i+1)*2=i*2+1*2 by omega];exact hp
   ·refine(insCObject g n cap i vb 1 vcap c vs W h (by omega) h' hmx hne hclen hvlen hcell (fun j hj=>hsp j (by omega)) hfz hvcell hone hvone _ _ _ _ (by simp only[World.shape?,hvg]; rfl) (by simp only[World.shape?,hg]; rfl) (by omega) (hvfz 0) (hvfz _)).mono ?_;rintro e' W' ⟨rfl,hW⟩;have h1:=setCells_at g (c.drop (i*2)) ((i+1)*2) W.drew _ _ _ hg;have h2:=setCells_at g vs (i*2) _ _ _ _ h1;obtain⟨r1,r2,r3,r4⟩:=setCells_rest g vs (i*2) (W.drew.setCells g ((i+1)*2) (c.drop (i*2)));obtain⟨q1,q2,q3,q4⟩:=setCells_rest g (c.drop (i*2)) ((i+1)*2) W.drew;rw[←hW]at h2 r1 r2 r3 r4;refine⟨g,cap,_,rfl,⟨r1.trans q1,r2.trans q2,r3.trans q3,by rw[r4,q4]; exact was _⟩,fun b hb hbg=> ?_,h2,.inl rfl,h',hcap,by rw[putL_size,putL_size,hcur],?_⟩
    ·rw[hW,setCells_else _ _ _ _ b hbg,setCells_else _ _ _ _ b hbg]; rfl
    ·have hp:=putL2' cur (i*2) vs (c.drop (i*2)) (by rw[hvlen,hdl,hcur]; omega);rw[hvlen,hdl,hct]at hp;rw[show(n+1)*2=i*2+1*2+(n-i)*2 by omega,show(i+1)*2=i*2+1*2 by omega];exact hp
  ·obtain rfl:i=n:=by omega
   have hcd:c.take (i*2)++vs++c.drop (i*2)=c++vs:=by
    rw[wai (by omega),List.drop_eq_nil_of_le (by omega),waj]
   rw[hcd];rcases war cap (i+1)with h' | h'
   ·refine(insBObject (some ⟨g,0,none⟩) i cap vb 1 vcap c vs W (by omega) hle h' (by omega) hclen hvlen (by simp) (fun a ha j v hj=>by cases ha; rw[Addr.add_lit,Nat.zero_add]; exact hcell j v hj) hvcell hvone).mono ?_;rintro e' W' ⟨R,rfl,rfl,hRs⟩;have hGn:i+1≤grownCap W (i+1) cap 92:=grownCap_ge W _ _ _;refine⟨W.heap.size,_,_,rfl,⟨rfl,rfl,rfl,by simp⟩,fun b hb _=> ?_,World.alloc_heap_new W.drew _,.inr (was _),hGn,grownCap_le_maxLen W (i+1) cap 92 (by unfold maxLen; omega),?_,?_⟩
    ·show(W.heap.push _)[b]? =_;rw[Array.getElem?_push,if_neg (by omega)]
    ·rw[Array.size_append,hRs]; simp only[List.size_toArray,wab,hclen,hvlen]; omega
    ·rw[Array.toList_append]; exact List.take_left' (by simp only[wab,hclen,hvlen]; omega)
   ·refine(insAObject g i cap vb 1 vcap vs W (by omega) h' hmx hvlen (fun j hj=>hsp _ (by omega)) (fun j hj=>hfz _) hvcell hvone).mono ?_;rintro e' W' ⟨rfl,hW⟩;rw[Nat.zero_add]at hW;have h1:=setCells_at g vs (i*2) W _ _ _ hg;obtain⟨r1,r2,r3,r4⟩:=setCells_rest g vs (i*2) W;rw[←hW]at h1 r1 r2 r3 r4;refine⟨g,cap,_,rfl,⟨r1,r2,r3,by rw[r4]; exact was _⟩,fun b hb hbg=> ?_,h1,.inl rfl,h',hcap,by rw[putL_size,hcur],?_⟩
    ·rw[hW,setCells_else _ _ _ _ b hbg]
    ·have hp:=putL1 cur (i*2) vs (by rw[hvlen,hcur]; omega);have hct':c.take (i*2)=c:=wai (by omega);rw[hvlen,hct,hct']at hp;rw[show(i+1)*2=i*2+1*2 by omega];exact hp
 at0:=by
  intro W ad vb vcap vcur hvg hvc hvcur hvone;obtain⟨vs,hvs⟩:=zX (vcur.toList.take 2);rw[hvs]at hvone ⊢;have hvlen:vs.length=1*2:=by rw[←hvs,wah]; exact Nat.min_eq_left (by show _≤vcur.size; omega)
  have hvcell: ∀j v,vs[j]? =some v→W.cell? ⟨vb,j,none⟩=some v:=fun j v hj=>by
   rw[←hvs,List.getElem?_take]at hj;split at hj
   ·rw[←hj]; simp[World.cell?,hvg]
   ·cases hj
  refine(insBObject ad 0 0 vb 1 vcap [] vs W (by omega) (was _) (by omega) (by omega) (by simp) hvlen (fun _=>rfl) (by simp) hvcell hvone).mono ?_;rintro e' W' ⟨R,rfl,rfl,hRs⟩;have hGn:0+1≤grownCap W (0+1) 0 92:=grownCap_ge W _ _ _;refine⟨W.heap.size,_,_,rfl,⟨rfl,rfl,rfl,by simp⟩,fun b hb _=> ?_,World.alloc_heap_new W.drew _,.inr (was _),hGn,grownCap_le_maxLen W (0+1) 0 92 (by unfold maxLen; omega),?_,?_⟩
  ·show(W.heap.push _)[b]? =_;rw[Array.getElem?_push,if_neg (by omega)]
  ·rw[Array.size_append,hRs]; simp only[List.size_toArray,wab,wae,hvlen]; omega
  ·rw[Array.toList_append]; exact List.take_left' (by simp[hvlen])}
end
theorem eObj_1(x:Obj): ∀d∈eObj x,d.one:=by
 simp[eObj,eU,eBy,D.one,Value.oneCell']
theorem insO_c(l:List Obj)(x:Obj)(i:Nat)(hi:i≤l.length)(hl:l.length≤1000000):FnL prog 123 [.ar 0 l.length,.d (eI i),.ar 50 1] [(0,.arr 92 2 .flat (l.map eObj)),(50,.arr 92 2 .flat [eObj x])]
  (fun V ol new=>V= .ar 40 (l.take i++x::l.drop i).length ∧ol=[(40,.arr 92 2 .flat ((l.take i++x::l.drop i).map eObj))]∧new=[40]):=by
 have h:=ins_own (P:=prog) (fun args w=>call123 args w) insertObject_w (l.map eObj) (eObj x) (fun y hy=>by
  rcases List.mem_cons.1 hy with rfl | hy
  ·exact eObj_1 x
  ·obtain⟨p,_,rfl⟩:=List.mem_map.1 hy; exact eObj_1 p) i (by rw[waa]; exact hi) (by rw[waa]; omega)
 have e:(l.map eObj).take i++eObj x::(l.map eObj).drop i=(l.take i++x::l.drop i).map eObj:=by simp[List.map_take,List.map_drop]
 have e2:(l.take i++x::l.drop i).length =l.length+1:=by simp; omega
 rw[waa,e,←e2]at h;exact h
theorem cloneO_c(l:List Obj)(hl:l.length≤1000000):FnL prog 124 [.d (eSt l)] [] (fun V ol new=>V= .ar 40 l.length∧ol=[(40,.arr 92 2 .flat (l.map eObj))]∧new=[40]):=by
 refine FnL.of_eC (own:=[]) (fun i=>if i=2 then [.adT 2 40 92 2]else if i=3 then [.rnm [(5,40)]]else []) [] mixed func124 rfl call124 ntmps124 (zle rfl) results124 ?_;have hr:rowsOk 2 (l.map eObj):=rows2 l;simp only[ZE,seval,zN,waa];refine⟨by simp[dstOk],fun b hb=> ?_⟩;cases b with
 | true=>
  have hl0:l=[]:=List.map_eq_nil_iff.1 (hb rfl);subst hl0;simp only[ZE,seval,zN,List.map_nil];refine⟨[],[40],?_⟩;simp only[ZE,seval]
 | false=>
  simp only[ZE,seval,zN,waa];refine⟨⟨hr,by omega,by omega⟩,[],[40],?_⟩;simp only[ZE,seval]
theorem rows8(l:List Nat):rowsOk 1 (l.map fun n=>[eU8 n]):=by
 intro y hy;obtain⟨q,_,rfl⟩:=List.mem_map.1 hy;simp[eU8,D.one,Value.oneCell']
theorem cloneB_c(l:List Nat)(hl:l.length≤1000000):FnP prog 121 [eBy l] (.d (eBy l)) []:=by
 refine FnP.of_eC (own:=[]) (fun _=>[]) mixed func121 rfl call121 ntmps121 (zle rfl) results121 (fun hok=> ?_);simp only[ZE,seval];refine⟨by simp[dstOk],fun b hb=> ?_⟩;cases b with
 | true=>
  have:=hb rfl;simp only[ZE,seval,this]
 | false=>
  simp only[ZE,seval];exact⟨⟨rows8 l,by omega⟩,by omega⟩
set_option maxHeartbeats 2000000
theorem insS_new: ∀ {s:List Obj} {o:Obj},okS s→lk s o.1=none→insS o s=s.take (lowS s o.1)++o::s.drop (lowS s o.1)
 | [],o,_,_=>by simp[insS,lowS]
 | x::r,o,hs,hn=>by
  have h':=List.pairwise_cons.1 hs;have hx:=lk_none.1 hn x (by simp);have hr:lk r o.1=none:=lk_none.2 fun y hy=>lk_none.1 hn y (by simp[hy]);simp only[insS];by_cases h:x.1<o.1
  ·have e:lowS (x::r) o.1=lowS r o.1+1:=by unfold lowS; rw[List.countP_cons_of_pos (by simpa using h)]
   rw[if_pos h,insS_new h'.2 hr,e];simp
  ·have e:lowS (x::r) o.1=0:=by
    unfold lowS;rw[List.countP_eq_zero];intro y hy;rcases List.mem_cons.1 hy with rfl | hy
    ·simpa using h
    ·have:=h'.1 y hy; simp; omega
   rw[if_neg h,if_neg hx,e];simp
theorem insS_at: ∀ {s:List Obj} {o:Obj},okS s→isAt s o.1=true→insS o s=s.set (lowS s o.1) o
 | s,o,hs,h=>by
  have hk: ∀(s:List Obj),okS s→(∃x∈s,x.1=o.1)→insS o s=s.set (lowS s o.1) o:=by
   intro s
   induction s with
   | nil=>rintro _ ⟨x,hx,_⟩; cases hx
   | cons x r ih=>
    intro hs hx;have h':=List.pairwise_cons.1 hs;simp only[insS];by_cases h:x.1<o.1
    ·have e:lowS (x::r) o.1=lowS r o.1+1:=(by unfold lowS; rw[List.countP_cons_of_pos (by simpa using h)]);have hx': ∃y∈r,y.1=o.1:=by
      obtain⟨y,hy,he⟩:=hx;rcases List.mem_cons.1 hy with rfl | hy
      ·omega
      ·exact⟨y,hy,he⟩
     rw[if_pos h,ih h'.2 hx',e];simp
    ·have hxe:x.1=o.1:=by
      obtain⟨y,hy,he⟩:=hx;rcases List.mem_cons.1 hy with rfl | hy
      ·exact he
      ·have:=h'.1 y hy; omega
     have e:lowS (x::r) o.1=0:=by
      unfold lowS;rw[List.countP_eq_zero];intro y hy;rcases List.mem_cons.1 hy with rfl | hy
      ·simpa using h
      ·have:=h'.1 y hy; simp; omega
     rw[if_neg h,if_pos hxe,e];simp
  obtain⟨hl,he,_⟩:=isAt_lk hs _ h;exact hk s hs ⟨_,wag hl,he⟩
theorem putS_new{s:List Obj}{d:List Nat}{x:Nat}(hx:digB d=x)(hs:okS s)(hi:isAt s x=false):putS s d=s.take (lowS s x)++(x,d)::s.drop (lowS s x):=by
 have hn:=isAt_none hs _ hi;unfold putS getS;rw[hx,hn];exact insS_new (o:=(x,d)) hs hn
theorem putS_same{s:List Obj}{d:List Nat}{x:Nat}(hx:digB d=x)(hs:okS s)(hi:isAt s x=true)(hlt:lowS s x<s.length)(hb:soundB s[lowS s x]=true):putS s d=s:=by
 obtain⟨_,he,hk⟩:=isAt_lk hs _ hi;have e2:s[lowS s x].1 =digB s[lowS s x].2 :=of_decide_eq_true hb;have e3:x=digB s[lowS s x].2 :=he.symm.trans e2;unfold putS getS;rw[hx,hk];simp only[if_pos e3]
theorem putS_bad{s:List Obj}{d:List Nat}{x:Nat}(hx:digB d=x)(hs:okS s)(hi:isAt s x=true)(hlt:lowS s x<s.length)(hb:soundB s[lowS s x]=false):putS s d=s.set (lowS s x) (x,d):=by
 obtain⟨_,he,hk⟩:=isAt_lk hs _ hi;have e2: ¬s[lowS s x].1 =digB s[lowS s x].2 :=of_decide_eq_false hb;have e3: ¬x=digB s[lowS s x].2 :=fun e=>e2 (he.trans e);unfold putS getS;rw[hx,hk];simp only[if_neg e3];exact insS_at (o:=(x,d)) hs hi
theorem map_set{α β:Type}(f:α→β)(l:List α)(i:Nat)(x:α):(l.map f).set i (f x)=(l.set i x).map f:=by rw[List.map_set]
theorem put_c(s:List Obj)(d:List Nat)(hs:okS s)(ho:okO s)(hd:okB d):FnP prog 75 [eSt s,eBy d] (.tup [.d (eSt (putS s d)),.d (eU (digB d))]) []:=by
 obtain⟨x,hx⟩:=zX (digB d);have cb:=bytes_c d hd.1 hd.2;rw[hx]at cb ⊢;have cc:=cloneB_c d hd.2;have cf:=find_c s x hs ho.1;have hle:=low_le s x;cases hi:isAt s x with
 | false=>
  have hp:=putS_new hx hs hi;rw[hi]at cf;refine FnP.of_eC (own:=[]) (fun i=>if i=2005 then [.tre ⟨[(0,none),(2,none),(3,none),(1,some [2,3]),(4,some [0,2]),(5,some []),(6,some [])]⟩ (.st 0 (.st 2 (.st 3 (.fk 1 (.st 4 (.st 5 (.st 6 .nil))) 4 (.st 1 (.st 5 (.st 6 .nil)))))))]else []) mixed func75 rfl call75 ntmps75 (zle rfl) results75 (fun hok=> ?_);simp only[ZE,seval];refine EFn.p ?_;simp only[ZE,seval];have hc:=cb;simp only[ZE,seval]at hc;refine ECall.i hc ?_;clear hc;simp only[ZE,seval];refine EFn.p ?_;simp only[ZE,seval];have hc:=cc;simp only[ZE,seval]at hc;refine ECall.i hc ?_;clear hc;simp only[ZE,seval];refine EFn.p ?_;simp only[ZE,seval];have hc:=cf;simp only[ZE,seval]at hc;refine ECall.i hc ?_;clear hc;simp only[ZE,seval];refine⟨by kernel_rfl,?_,?_⟩
  ·refine EFn.gV [(40,26)] (cloneO_c s ho.1) ?_ ?_
   ·simp only[ZE,seval]
   rintro V ol new ⟨rfl,rfl,rfl⟩;simp only[ZE,seval];refine EFn.gV [(0,26),(50,29),(40,60)] (insO_c s (x,d) (lowS s x) hle ho.1) ?_ ?_
   ·simp only[ZE,seval]
   rintro V ol new ⟨rfl,rfl,rfl⟩;simp only[ZE,seval,hp]
  ·refine EFn.gV [(40,26)] (cloneO_c s ho.1) ?_ ?_
   ·simp only[ZE,seval]
   rintro V ol new ⟨rfl,rfl,rfl⟩;simp only[ZE,seval];refine EFn.gV [(0,26),(50,29),(40,60)] (insO_c s (x,d) (lowS s x) hle ho.1) ?_ ?_
   ·simp only[ZE,seval]
   rintro V ol new ⟨rfl,rfl,rfl⟩;simp only[ZE,seval,hp]
 | true=>
  obtain⟨hlt,he,hk⟩:=isAt_lk hs _ hi;have hsc:=sound_c s[lowS s x] (ho.2 _ (wag hlt)).2;rw[hi]at cf;cases hb:soundB s[lowS s x]with
  | true=>
   have hp:=putS_same hx hs hi hlt hb;rw[hb]at hsc;refine FnP.of_eC (own:=[]) (fun _=>[]) mixed func75 rfl call75 ntmps75 (zle rfl) results75 (fun hok=> ?_);simp only[ZE,seval];refine EFn.p ?_;simp only[ZE,seval];have hc:=cb;simp only[ZE,seval]at hc;refine ECall.i hc ?_;clear hc;simp only[ZE,seval];refine EFn.p ?_;simp only[ZE,seval];have hc:=cc;simp only[ZE,seval]at hc;refine ECall.i hc ?_;clear hc;simp only[ZE,seval];refine EFn.p ?_;simp only[ZE,seval];have hc:=cf;simp only[ZE,seval]at hc;refine ECall.i hc ?_;clear hc;simp only[ZE,seval,lt_int hlt,getD_map hlt];refine EFn.p ?_;simp only[ZE,seval];have hc:=hsc;simp only[ZE,seval]at hc;refine ECall.i hc ?_;clear hc;simp only[ZE,seval,hp]
  | false=>
   have hp:=putS_bad hx hs hi hlt hb;rw[hb]at hsc;have hset:=map_set eObj s (lowS s x) (x,d);have hgl:(eObj s[lowS s x]).length =2:=rfl;refine FnP.of_eC (own:=[]) (fun _=>[]) mixed func75 rfl call75 ntmps75 (zle rfl) results75 (fun hok=> ?_);simp only[ZE,seval];refine EFn.p ?_;simp only[ZE,seval];have hc:=cb;simp only[ZE,seval]at hc;refine ECall.i hc ?_;clear hc;simp only[ZE,seval];refine EFn.p ?_;simp only[ZE,seval];have hc:=cc;simp only[ZE,seval]at hc;refine ECall.i hc ?_;clear hc;simp only[ZE,seval];refine EFn.p ?_;simp only[ZE,seval];have hc:=cf;simp only[ZE,seval]at hc;refine ECall.i hc ?_;clear hc;simp only[ZE,seval,lt_int hlt,getD_map hlt];refine EFn.p ?_;simp only[ZE,seval];have hc:=hsc;simp only[ZE,seval]at hc;refine ECall.i hc ?_;clear hc;simp only[ZE,seval];refine EFn.gV [(40,39)] (cloneO_c s ho.1) ?_ ?_
   ·simp only[ZE,seval]
   rintro V ol new ⟨rfl,rfl,rfl⟩;simp only[ZE,seval,lt_int hlt,getD_map hlt,List.length_set];simp only[ZE,seval]at hset;rw[hset,hp];exact⟨hlt,rfl⟩
set_option maxHeartbeats 1000000
theorem lput_c(s:List Obj)(d:List Nat)(hs:okS s)(ho:okO s)(hd:okB d):FnP prog 35 [eSt s,eBy d] (.d (.agg [eSt (putS s d),eU (digB d),eI 0])) []:=by
 refine FnP.of_eC (own:=[]) (fun _=>[]) mixed func35 rfl call35 ntmps35 (zle rfl) results35 (fun hok=> ?_);simp only[ZE,seval];refine EFn.p ?_;simp only[ZE,seval];have hc:=put_c s d hs ho hd;simp only[ZE,seval]at hc;refine ECall.i hc ?_;clear hc;simp only[ZE,seval]
theorem lget_c(s:List Obj)(id:Nat)(hs:okS s)(ho:okO s):FnP prog 50 [eSt s,eU id] (.d (.agg [eBy (getR s id).1,eI (getR s id).2])) []:=by
 refine FnP.of_eC (own:=[]) (fun _=>[]) mixed func50 rfl call50 ntmps50 (zle rfl) results50 (fun hok=> ?_);simp only[ZE,seval];refine EFn.p ?_;simp only[ZE,seval];have hc:=get_c s id hs ho;simp only[ZE,seval]at hc;refine ECall.i hc ?_;clear hc;simp only[ZE,seval]
theorem lsame_c(a b:List Nat)(x y:Int)(hl:a.length≤1000000):FnP prog 49 [.agg [eBy a,eI x],.agg [eBy b,eI y]] (.d (eB ((x==y)&&decide (a=b)))) []:=by
 refine FnP.of_eC (own:=[]) chL mixed func49 rfl call49 ntmps49 (zle rfl) results49 (fun hok=> ?_);have h1:=bsame_c a b hl;simp only[ZE,seval];simp only[ZE,seval]at h1;refine ECallC.i (fun _=>h1) ?_;cases hxy:(x==y) <;> simp only[ZE,seval]
theorem union1_c(o:Obj):FnP prog 79 [.agg (eObj o)] (.d (eU o.1)) []:=by
 refine FnP.of_eC (own:=[]) chL mixed func79 rfl call79 ntmps79 (zle rfl) results79 (fun hok=> ?_);simp only[ZE,seval]
def pickP(x y:Obj):Obj:=if !soundB x&&soundB y then y else x
theorem union2_c(x y:Obj)(hx:okB x.2)(hy:okB y.2):FnP prog 80 [.agg (eObj x),.agg (eObj y)] (.d (.agg (eObj (pickP x y)))) []:=by
 refine FnP.of_eC (own:=[]) chL mixed func80 rfl call80 ntmps80 (zle rfl) results80 (fun hok=> ?_);have h2:=sound_c y hy;simp only[ZE,seval];refine EFn.p ?_;simp only[ZE,seval];have hc:=sound_c x hx;simp only[ZE,seval]at hc;refine ECall.i hc ?_;clear hc;simp only[ZE,seval]at h2;cases h1:soundB x with
 | true=>
  have hp:pickP x y=x:=by unfold pickP; rw[h1]; rfl
  rw[hp];simp only[ZE,seval,h1];refine ECallC.i (V:=.d (eB false)) (fun h=>by cases h) ?_;simp only[ZE,seval]
 | false=>
  simp only[ZE,seval,h1];refine ECallC.i (fun _=>h2) ?_;cases h3:soundB y with
  | true=>
   have hp:pickP x y=y:=by unfold pickP; rw[h1,h3]; rfl
   rw[hp];simp only[ZE,seval,h3]
  | false=>
   have hp:pickP x y=x:=by unfold pickP; rw[h1,h3]; rfl
   rw[hp];simp only[ZE,seval,h3]
theorem uni_cons(x y:Obj)(a b:List Obj):uniS (x::a) (y::b)=if x.1<y.1 then x::uniS a (y::b)else if y.1<x.1 then y::uniS (x::a) b else pickP x y::uniS a b:=by
 rw[uniS]; rfl
theorem uni_end{a b:List Obj}(h:a=[]∨b=[]):uniS a b=a++b:=by
 rcases h with rfl | rfl
 ·rw[uniS]; rfl
 ·cases a with
  | nil=>rw[uniS]; rfl
  | cons x a=>rw[uniS,waj]; simp
theorem len2(x:Obj)(l:List Obj):(∀e:List D,e=[D.lit (.int .u64 (x.1:Int)),D.sl (x.2.map fun n:Nat=>[D.lit (.int .u8 (n:Int))])]∨e∈l.map eObj→e.length=2)=True:=by
 refine eq_true ?_;rintro e (rfl | h)
 ·rfl
 ·obtain⟨y,_,rfl⟩:=List.mem_map.1 h; rfl
theorem le1(n:Nat):((1:Int)≤((n+1:Nat):Int))=True:=by simp; omega
theorem merge_c(a b:List Obj)(ha:okO a)(hb:okO b):FnP prog 78 [eSt a,eSt b,.clo (.func 79) [] [],.clo (.func 80) [] []] (.d (eSt (uniS a b))) []:=by
 have hla:=ha.1;have hlb:=hb.1;refine FnP.of_eC (own:=[]) (fun i=>if i=1 then [.adT 9 50 92 2]else if i=2002∨i=2009 then [.chn]else if i=2003 then [.ord ⟨[(0,none),(1,none),(2,none),(3,none),(5,none),(6,none),(7,none),(8,none),(4,some [5,6,7,8]),(9,some []),(10,some [])]⟩]else if i=2006∨i=2008 then [.ord ⟨[(0,none),(1,none),(2,none),(3,none),(4,none),(6,none),(7,none),(5,some [6,7]),(8,some [6,7]),(9,some [])]⟩]else if i=2004 then [.ord ⟨[(0,none),(1,none),(2,none),(3,none),(4,none),(5,none),(6,none),(7,none),(11,none),(12,none),(13,none),(14,none),(8,some [0,11,12,13,14]),(9,some [0,11,12,13,14]),(10,some [11,12,13,14]),(15,some [11,12,13,14]),(16,some [13,14]),(17,some [])]⟩]else []) mixed func78 rfl call78 ntmps78 (zle rfl) results78 (fun hok=> ?_);simp only[ZE,seval];refine eloopX (X:=List Obj×List Obj×List Obj) (fun _ i=>if i=2002∨i=2009 then [.chn]else if i=2003 then [.ord ⟨[(0,none),(1,none),(2,none),(3,none),(5,none),(6,none),(7,none),(8,none),(4,some [5,6,7,8]),(9,some []),(10,some [])]⟩]else if i=2006∨i=2008 then [.ord ⟨[(0,none),(1,none),(2,none),(3,none),(4,none),(6,none),(7,none),(5,some [6,7]),(8,some [6,7]),(9,some [])]⟩]else if i=2004 then [.ord ⟨[(0,none),(1,none),(2,none),(3,none),(4,none),(5,none),(6,none),(7,none),(11,none),(12,none),(13,none),(14,none),(8,some [0,11,12,13,14]),(9,some [0,11,12,13,14]),(10,some [11,12,13,14]),(15,some [11,12,13,14]),(16,some [13,14]),(17,some [])]⟩]else []) mixed (a.length+b.length)
  (fun r x=>x.1++uniS x.2.1 x.2.2=uniS a b∧x.1.length+x.2.1.length+x.2.2.length≤a.length+b.length∧r+x.2.1.length+x.2.2.length≤a.length+b.length∧(∀o∈x.2.1,okB o.2)∧ ∀o∈x.2.2,okB o.2)
  (fun r x=>([(0,.d (eSt x.2.1)),(1,.d (eSt x.2.2)),(2,.d (.clo (.func 79) [] [])),(3,.d (.clo (.func 80) [] [])),(9,.ar 50 x.1.length)],[(50,.arr 92 2 .flat (x.1.map eObj))])) ([],a,b) ⟨rfl,by simp,by simp,fun o ho=>(ha.2 o ho).2,fun o ho=>(hb.2 o ho).2⟩ ?_ ?_ (fun r x hr hI=> ?_)
 ·simp only[ZE,seval]
 ·simp only[ZE,seval]
 obtain⟨out,a',b'⟩:=x;obtain⟨h1,h2,h3,h4,h5⟩:=hI;simp only at h1 h2 h3 h4 h5;cases a' with
 | nil=>
  rw[uni_end (.inl rfl)]at h1;have hr1:=rows2 b';simp only[wae,Nat.add_zero]at h2;have he:out.map eObj++b'.map eObj=(uniS a b).map eObj:=by rw[←h1,List.nil_append,wad]
  simp only[ZE,seval];refine⟨⟨by omega,by omega⟩,⟨hr1,by omega,by omega⟩,by simp,congrArg _ (congrArg _ he)⟩
 | cons x a'=>
  cases b' with
  | nil=>
   rw[uni_end (.inr rfl)]at h1;have hr1:=rows2 (x::a');simp only[wae,Nat.add_zero,wac]at h2;have he:out.map eObj++(x::a').map eObj=(uniS a b).map eObj:=by rw[←h1,waj,wad]
   have d0:decide (((a'.length+1:Nat):Int)>0)=true:=by simp
   simp only[ZE,seval,d0];simp only[ZE,seval]at he;rw[he];have hl2:((uniS a b).map eObj).length =out.length+(a'.length+1):=by rw[←h1,waj,waa,wab,wac]
   rw[hl2];refine⟨⟨fun y hy=>hr1 y (by simp only[List.map_cons]; exact List.mem_cons_of_mem _ hy),by omega,by omega⟩,⟨⟨by omega,by omega⟩,rfl⟩,rfl⟩
  | cons y b'=>
   simp only[wac]at h2 h3;have d0:decide (((a'.length+1:Nat):Int)>0)=true:=by simp
   have d1:decide (((b'.length+1:Nat):Int)>0)=true:=by simp
   have l0:((0:Int)<((a'.length+1:Nat):Int))=True:=by simp
   have l1:((0:Int)<((b'.length+1:Nat):Int))=True:=by simp
   rw[uni_cons]at h1;simp only[ZE,seval,d0,d1,l0,l1];refine⟨by kernel_rfl,?_⟩;refine EFn.p ?_;simp only[ZE,seval];have hc:=union1_c x;simp only[ZE,seval]at hc;refine ECall.i hc ?_;clear hc;simp only[ZE,seval,d0,d1,l0,l1];refine EFn.p ?_;simp only[ZE,seval];have hc:=union1_c y;simp only[ZE,seval]at hc;refine ECall.i hc ?_;clear hc;simp only[ZE,seval,d0,d1,l0,l1];refine EFn.p ?_;simp only[ZE,seval];have hc:=cmp_c x.1 y.1;simp only[ZE,seval]at hc;refine ECall.i hc ?_;clear hc;by_cases c1:x.1<y.1
   ·have e1:cmpN x.1 y.1= -1:=(by simp[cmpN,c1]);rw[if_pos c1]at h1;simp only[ZE,seval,e1,d0,d1,l0,l1,len2,le1,Int.le_refl];refine⟨by kernel_rfl,⟨by omega,by omega⟩,?_⟩;exact⟨by omega,(out++[x],a',y::b'),⟨by simpa using h1,by simp; omega,by simp; omega,fun o ho=>h4 o (List.mem_cons_of_mem _ ho),h5⟩,by simp[subT,tm,eSt,eObj,eU,eBy,eU8,wai],by simp[subO,om,eObj,eU,eBy,eU8]⟩
   ·by_cases c2:y.1<x.1
    ·have e1:cmpN x.1 y.1=1:=(by simp[cmpN,c1,c2]);rw[if_neg c1,if_pos c2]at h1;simp only[ZE,seval,e1,d0,d1,l0,l1,len2,le1,Int.le_refl];refine⟨by kernel_rfl,⟨by omega,by omega⟩,?_⟩;exact⟨by omega,(out++[y],x::a',b'),⟨by simpa using h1,by simp; omega,by simp; omega,h4,fun o ho=>h5 o (List.mem_cons_of_mem _ ho)⟩,by simp[subT,tm,eSt,eObj,eU,eBy,eU8,wai],by simp[subO,om,eObj,eU,eBy,eU8]⟩
    ·have e1:cmpN x.1 y.1=0:=(by simp[cmpN,c1,c2]);rw[if_neg c1,if_neg c2]at h1;simp only[ZE,seval,e1,d0,d1,l0,l1,len2,le1,Int.le_refl];refine⟨by kernel_rfl,?_⟩;refine EFn.p ?_;simp only[ZE,seval];have hc:=union2_c x y (h4 x (by simp)) (h5 y (by simp));simp only[ZE,seval]at hc;refine ECall.i hc ?_;clear hc;simp only[ZE,seval,len2,le1,Int.le_refl];refine⟨⟨by omega,by omega⟩,?_⟩;exact⟨by omega,(out++[pickP x y],a',b'),⟨by simpa using h1,by simp; omega,by simp; omega,fun o ho=>h4 o (List.mem_cons_of_mem _ ho),fun o ho=>h5 o (List.mem_cons_of_mem _ ho)⟩,by simp[subT,tm,eSt,eObj,eU,eBy,eU8,wai],by simp[subO,om,eObj,eU,eBy,eU8]⟩
theorem union_c(a b:List Obj)(ha:okO a)(hb:okO b):FnP prog 41 [eSt a,eSt b] (.d (eSt (uniS a b))) []:=by
 refine FnP.of_eC (own:=[]) (fun _=>[]) mixed func41 rfl call41 ntmps41 (zle rfl) results41 (fun hok=> ?_);simp only[ZE,seval];refine EFn.p ?_;simp only[ZE,seval];have hc:=merge_c a b ha hb;simp only[ZE,seval]at hc;refine ECall.i hc ?_;clear hc;simp only[ZE,seval]
theorem insS_eq: ∀(s:List Obj) (o:Obj) (i:Nat),i≤s.length→(∀k (h:k<s.length),k<i→s[k].1 <o.1)→insS o s=s.take i++insS o (s.drop i)
 | s,o,0,_,_=>by simp
 | [],o,i+1,h,_=>by simp at h
 | x::r,o,i+1,h,hI=>by
  have hx:x.1<o.1:=hI 0 (by simp) (by omega);simp only[insS,if_pos hx,List.take_succ_cons,List.drop_succ_cons,List.cons_append];rw[insS_eq r o i (by simpa using h) (fun k hk hki=>hI (k+1) (by simpa using hk) (by omega))]
theorem with_c(s:List Obj)(o:Obj)(ho:s.length≤1000000):FnP prog 74 [eSt s,.agg (eObj o)] (.d (eSt (insS o s))) []:=by
 refine FnP.of_eC (own:=[]) (fun i=>if i=2003∨i=2007 then [.chn]else []) mixed func74 rfl call74 ntmps74 (zle rfl) results74 (fun hok=> ?_);have hr2:=rows2 s;simp only[ZE,seval];refine eloop (fun i=>if i=2003∨i=2007 then [.chn]else []) mixed s.length (fun i=> ∀k (h:k<s.length),k<i→s[k].1 <o.1) (fun i=>([(0,.d (eSt s)),(3,.bp 3 0),(5,.ar 7 i),(6,.d (eI i))],[(3,.box ((eObj o).map .d)),(7,.arr 92 2 .flat ((s.take i).map eObj))])) (fun k h hk=>by omega) ?_ ?_ (fun i hi hI=> ?_)
 ·simp only[ZE,seval]
 ·simp only[ZE,seval,wao]
 have hlen:=take_len s i hi;have hl2: ∀e∈List.map eObj s,e.length=2:=fun e he=>by obtain⟨q,_,rfl⟩:=List.mem_map.1 he; rfl
 have hT: ∀j,(List.map eObj s |>.drop j).take (s.length-j)=(s.drop j).map eObj:=fun j=>by rw[wai (by simp),List.map_drop]
 have hTr: ∀j,rowsOk 2 ((s.drop j).map eObj):=fun j=>rows2 _;have hins:=insS_eq s o i hi hI;have heo:([D.lit (.int .u64 (o.1:Int)),D.sl (o.2.map fun n:Nat=>[D.lit (.int .u8 (n:Int))])]:List D)=eObj o:=rfl;rcases war i s.length with h | h
 ·have hw:=wrap_succ (show i<9223372036854775807 by omega);rw[List.drop_eq_getElem_cons h]at hins;by_cases hc:s[i].1 <o.1
  ·have e1:decide ((s[i].1 :Int)<(o.1:Int))=true:=by simp; omega
   have hsn:=take_map_snoc eObj s i h;simp only[ZE,seval]at hsn;simp only[ZE,seval,dec_lt h,lt_int h,getD_map h,e1,hw,hlen,hsn];refine⟨by kernel_rfl,by omega,h,fun k hk hki=> ?_⟩;rcases war k i with h1 | h1
   ·exact hI k hk h1
   ·have:k=i:=(by omega);subst this;exact hc
  ·have e1:decide ((s[i].1 :Int)<(o.1:Int))=false:=by simp; omega
   have e3:((0:Int)≤(i:Int)∧(i:Int)≤(s.length:Int))=True:=by simp; omega
   simp only[insS,if_neg hc]at hins;by_cases hq:s[i].1 =o.1
   ·have e2:((s[i].1 :Int)==(o.1:Int))=true:=(by simp[hq]);have e4:((0:Int)≤((i+1:Nat):Int)∧((i+1:Nat):Int)≤(s.length:Int))=True:=(by simp; omega);rw[if_pos hq]at hins;simp only[ZE,seval,dec_lt h,lt_int h,getD_map h,e1,e2,hw,hlen,e4,hT,wab,waa,List.length_drop,wac,wae];refine⟨by kernel_rfl,by omega,by kernel_rfl,⟨hl2,by omega,by omega,by omega⟩,⟨hTr _,by omega,by omega⟩,?_⟩;rw[heo,hins];simp
   ·have e2:((s[i].1 :Int)==(o.1:Int))=false:=(by simp; omega);rw[if_neg hq]at hins;simp only[ZE,seval,dec_lt h,lt_int h,getD_map h,e1,e2,hw,hlen,e3,hT,wab,waa,List.length_drop,wac,wae];refine⟨by kernel_rfl,by omega,by kernel_rfl,⟨hl2,by omega,by omega,by omega⟩,⟨hTr _,by omega,by omega⟩,?_⟩;rw[heo,hins,List.drop_eq_getElem_cons h];simp
 ·have he:i=s.length:=by omega
  have e3:((0:Int)≤(i:Int)∧(i:Int)≤(s.length:Int))=True:=by simp; omega
  simp only[ZE,seval,dec_ge h,hlen,e3,hT,wab,waa,List.length_drop,wac,wae];refine⟨by kernel_rfl,by omega,by kernel_rfl,⟨hl2,by omega,by omega,by omega⟩,⟨hTr _,by omega,by omega⟩,?_⟩;subst he;rw[heo,hins];simp[insS]
theorem idxO_at{s:List Obj}(hs:okS s){id:Nat}(h:isAt s id=true):idxO id s=(lowS s id:Int):=by
 obtain⟨hlt,he,_⟩:=isAt_lk hs id h;refine idxU_at (by simpa using hlt) (by simpa using he) (fun k hk hki=> ?_);have hk':k<s.length:=by simpa using hk
 have:=(low_lt hs id k hk').2 hki;simp only[List.getElem_map];omega
theorem idxO_no{s:List Obj}(hs:okS s){id:Nat}(h:isAt s id=false):idxO id s= -1:=by
 refine idxU_none (fun k hk=> ?_);have hk':k<s.length:=by simpa using hk
 have:=lk_none.1 (isAt_none hs id h) s[k] (wag hk');simpa using this
theorem rputin_c(s:List Obj)(d:List Nat)(hs:okS s)(ho:okO s)(hd:okB d):FnP prog 30 [eSt s,eBy d] (.d (.agg [eSt (putS s d),eU (digB d),eI 0])) []:=by
 obtain⟨x,hx⟩:=zX (digB d);have cb:=rbytes_c d hd.1 hd.2;rw[hx]at cb ⊢;have cf:=rfind_c s x ho.1;have hw:=with_c s (x,d) ho.1;refine FnP.of_eC (own:=[]) chL mixed func30 rfl call30 ntmps30 (zle rfl) results30 (fun hok=> ?_);simp only[ZE,seval];refine EFn.p ?_;simp only[ZE,seval];have hc:=cb;simp only[ZE,seval]at hc;refine ECall.i hc ?_;clear hc;cases hi:isAt s x with
 | false=>
  have hp:putS s d=insS (x,d) s:=by unfold putS getS; rw[hx,isAt_none hs _ hi]
  rw[idxO_no hs hi]at cf;simp only[ZE,seval];refine EFn.p ?_;simp only[ZE,seval];have hc:=cf;simp only[ZE,seval]at hc;refine ECall.i hc ?_;clear hc;simp only[ZE,seval];refine ECallC.i (V:=.d (eB false)) (fun h=>by cases h) ?_;simp only[ZE,seval];refine EFn.p ?_;simp only[ZE,seval];have hc:=hw;simp only[ZE,seval]at hc;refine ECall.i hc ?_;clear hc;simp only[ZE,seval,hp]
 | true=>
  obtain⟨hlt,he,hk⟩:=isAt_lk hs _ hi;rw[idxO_at hs hi]at cf;have hsc:=rsound_c s[lowS s x] (ho.2 _ (wag hlt)).2;simp only[ZE,seval]at hsc;simp only[ZE,seval];refine EFn.p ?_;simp only[ZE,seval];have hc:=cf;simp only[ZE,seval]at hc;refine ECall.i hc ?_;clear hc;have e1:decide (((lowS s x:Nat):Int)≥0)=true:=by simp
  simp only[ZE,seval,e1,lt_int hlt,getD_map hlt];refine ECallC.i (fun _=>hsc) ?_;cases hb:soundB s[lowS s x]with
  | true=>
   have hp:=putS_same hx hs hi hlt hb;simp only[ZE,seval,hb,hp]
  | false=>
   have hp:putS s d=insS (x,d) s:=by
    unfold putS getS;rw[hx,hk];have:x≠digB s[lowS s x].2 :=(by simpa [soundB,he]using hb);simp only[if_neg this]
   simp only[ZE,seval,hb];refine EFn.p ?_;simp only[ZE,seval];have hc:=hw;simp only[ZE,seval]at hc;refine ECall.i hc ?_;clear hc;simp only[ZE,seval,hp]
def brkB(d:List Nat)(a b:Nat):List Nat:=if d=[]then [b]else d.set (a % d.length) (d.getD (a % d.length) 0 ^^^ 2 ^ (b % 8))
theorem wrap_u8{x:Nat}(h:x<256):IntKind.u8.wrap (x:Int)=(x:Int):=by
 unfold IntKind.wrap; simp[IntKind.bits,IntKind.signed]; omega
theorem shl_u8{k:Nat}(hk:k<8):IntKind.u8.wrap (1*2 ^ min k IntKind.u8.bits)=((2 ^ k:Nat):Int):=by
 have h1:min k IntKind.u8.bits=k:=by simp[IntKind.bits]; omega
 have h2:2 ^ k<256:=by
  have:2 ^ k≤2 ^ 7:=Nat.pow_le_pow_right (by decide) (by omega);omega
 have h3:((1:Int)*2 ^ k)=((2 ^ k:Nat):Int):=by push_cast; omega
 rw[h1,h3,wrap_u8 h2]
theorem xor_u8{a b:Nat}(ha:a<256)(hb:b<256):IntKind.u8.wrap ((BitVec.ofInt IntKind.u8.bits (a:Int) ^^^ BitVec.ofInt IntKind.u8.bits (b:Int)).toNat :Int)=((a ^^^ b:Nat):Int):=by
 have h:(BitVec.ofInt IntKind.u8.bits (a:Int) ^^^ BitVec.ofInt IntKind.u8.bits (b:Int)).toNat =a ^^^ b:=by
  show(BitVec.ofInt 8 (a:Int) ^^^ BitVec.ofInt 8 (b:Int)).toNat =a ^^^ b;simp only[BitVec.toNat_xor,BitVec.ofInt_natCast,BitVec.toNat_ofNat];rw[Nat.mod_eq_of_lt (by simpa using ha),Nat.mod_eq_of_lt (by simpa using hb)]
 rw[h,wrap_u8 (Nat.xor_lt_two_pow (n:=8) ha hb)]
theorem broken_c(d:List Nat)(a b:Nat)(hd:okB d)(ha:a<256)(hb:b<256):FnP prog 56 [eBy d,.agg [eU8 a,eU8 b]] (.d (eBy (brkB d a b))) []:=by
 have hl:=hd.2;by_cases hn:d=[]
 ·subst hn;have hk:brkB [] a b=[b]:=rfl;rw[hk];refine FnP.of_eC (own:=[]) (fun _=>[]) mixed func56 rfl call56 ntmps56 (zle rfl) results56 (fun hok=> ?_);simp only[ZE,seval,List.map_nil,wae,List.map_cons]
 have hp:0<d.length:=List.length_pos_iff.2 hn;have hk:a % d.length<d.length:=Nat.mod_lt _ hp;have hk8:b % 8<8:=Nat.mod_lt _ (by decide);have e1:((d.length:Int)==0)=false:=by simp[hn]
 have hwa:IntKind.i64.wrap (a:Int)=(a:Int):=wrap_id (by omega) (by omega);have hm:(a:Int).tmod (d.length:Int)=((a % d.length:Nat):Int):=(Int.ofNat_tmod a d.length).symm;have hm8:(b:Int).tmod 8=((b % 8:Nat):Int):=(Int.ofNat_tmod b 8).symm;have hx:d[a % d.length]<256:=hd.1 _ (wag hk);have h2:2 ^ (b % 8)<256:=by
  have:2 ^ (b % 8)≤2 ^ 7:=Nat.pow_le_pow_right (by decide) (by omega);omega
 have hz:brkB d a b=d.set (a % d.length) (d[a % d.length] ^^^ 2 ^ (b % 8)):=by
  unfold brkB; rw[if_neg hn]; simp[List.getD,hk]
 rw[hz];obtain⟨j,hj⟩:=zX (a % d.length);obtain⟨i,hi⟩:=zX (b % 8);simp only[hj]at hk hm hx;simp only[hi]at hm8 hk8 h2;simp only[hj,hi];have h0:((0:Int)≤((i:Nat):Int))=True:=by simp
 have hn0: ¬((d.length:Int)=0):=by omega
 refine FnP.of_eC (own:=[]) (fun _=>[]) mixed func56 rfl call56 ntmps56 (zle rfl) results56 (fun hok=> ?_);simp only[ZE,seval,e1,hwa,hm,hm8,lt_int hk,getD_map hk,waa,waq,shl_u8 hk8,xor_u8 hx h2,hn0,h0,zN];exact⟨⟨rows8 d,by omega⟩,by kernel_rfl,hk,hk,by simp,by rw[List.map_set]⟩
def brkO(s:List Obj)(k:Nat×Nat×Nat):List Obj:=if s=[]then s else s.set (k.1 % s.length) ((s.getD (k.1 % s.length) (0,[])).1,brkB (s.getD (k.1 % s.length) (0,[])).2 k.2.1 k.2.2)
def st1(L:List (List Nat)):List Obj:=(L.take 8).foldl (fun s l=>putS s (l.take 40)) []
def stG(L:List (List Nat))(B:List (Nat×Nat×Nat)):List Obj:=(B.take 4).foldl brkO (st1 L)
def smS(n:Nat)(s:List Obj):Prop:=okS s∧s.length≤n∧ ∀o∈s,o.1<W64∧(∀b∈o.2,b<256)∧o.2.length≤1000
theorem smS.okO{n:Nat}{s:List Obj}(h:smS n s)(hn:n≤1000):okO s:=⟨by have:=h.2.1; omega,fun o ho=>⟨(h.2.2 o ho).1,(h.2.2 o ho).2.1,by have:=(h.2.2 o ho).2.2; omega⟩⟩
theorem putS_len{s:List Obj}{d:List Nat}:(putS s d).length ≤s.length+1:=by
 have: ∀(s:List Obj) (o:Obj),(insS o s).length ≤s.length+1:=by
  intro s o
  induction s with
  | nil=>simp[insS]
  | cons x r ih=>
   unfold insS;split
   ·simp; omega
   ·split <;> simp
 unfold putS;split
 ·omega
 ·exact this _ _
theorem putS_mem{s:List Obj}{d:List Nat}{o:Obj}(h:o∈putS s d):o=(digB d,d)∨o∈s:=by
 unfold putS at h;split at h
 ·exact .inr h
 ·exact insS_mem h
theorem sm_put{n:Nat}{s:List Obj}(h:smS n s){d:List Nat}(hb: ∀b∈d,b<256)(hl:d.length≤1000):smS (n+1) (putS s d):=by
 refine⟨okS_put h.1 d,?_,fun o ho=> ?_⟩
 ·have:=h.2.1; have:=putS_len (s:=s) (d:=d); omega
 ·rcases putS_mem ho with rfl | ho
  ·exact⟨digB_lt d,hb,hl⟩
  ·exact h.2.2 o ho
theorem sm_st1: ∀(L:List (List Nat)) (n:Nat) (s:List Obj),smS n s→(∀l∈L,∀b∈l,b<256)→smS (n+L.length) (L.foldl (fun s l=>putS s (l.take 40)) s)
 | [],_,_,h,_=>h
 | l::L,n,s,h,hb=>by
  have h1:=sm_put h (d:=l.take 40) (fun b hm=>hb l (by simp) b (wap hm)) (by simp; omega);have:=sm_st1 L (n+1) _ h1 (fun x hx=>hb x (by simp[hx]));simp only[wac,wam];rw[show n+(L.length+1)=n+1+L.length by omega];exact this
theorem brkB_ok{d:List Nat}{a b:Nat}(hd:(∀x∈d,x<256)∧d.length≤1000)(hb:b<256):(∀x∈brkB d a b,x<256)∧(brkB d a b).length ≤1000:=by
 unfold brkB;split
 ·exact⟨fun x hx=>by simp at hx; omega,by simp⟩
 ·rename_i hn;have hp:0<d.length:=List.length_pos_iff.2 hn;have hk:a % d.length<d.length:=Nat.mod_lt _ hp;have h2:2 ^ (b % 8)<256:=by
   have:2 ^ (b % 8)≤2 ^ 7:=Nat.pow_le_pow_right (by decide) (by have:=Nat.mod_lt b (show 8>0 by decide); omega);omega
  refine⟨fun x hx=> ?_,by simp; exact hd.2⟩;rcases List.mem_or_eq_of_mem_set hx with h | rfl
  ·exact hd.1 x h
  ·refine Nat.xor_lt_two_pow (n:=8) ?_ h2;simp only[List.getD,wak hk,Option.getD_some];exact hd.1 _ (wag hk)
theorem okS_set{s:List Obj}(h:okS s){i:Nat}(hi:i<s.length)(d:List Nat):okS (s.set i (s[i].1,d)):=by
 unfold okS at*;rw[List.pairwise_iff_getElem]at*;intro a b ha hb hab;simp only[List.length_set]at ha hb;simp only[List.getElem_set];have:=h a b ha hb hab;split <;> split <;> simp_all
theorem sm_brk{n:Nat}{s:List Obj}(h:smS n s){k:Nat×Nat×Nat}(hk:k.2.2<256):smS n (brkO s k):=by
 unfold brkO;split
 ·exact h
 rename_i hn;have hp:0<s.length:=List.length_pos_iff.2 hn;have hi:k.1 % s.length<s.length:=Nat.mod_lt _ hp;simp only[List.getD,wak hi,Option.getD_some];refine⟨okS_set h.1 hi _,by simp; exact h.2.1,fun o ho=> ?_⟩;rcases List.mem_or_eq_of_mem_set ho with h1 | rfl
 ·exact h.2.2 o h1
 ·have:=h.2.2 _ (wag hi);exact⟨this.1,brkB_ok this.2 hk⟩
theorem sm_brks{n:Nat}: ∀(B:List (Nat×Nat×Nat)) (s:List Obj),smS n s→(∀k∈B,k.2.2<256)→smS n (B.foldl brkO s)
 | [],_,h,_=>h
 | k::B,s,h,hb=>sm_brks B _ (sm_brk h (hb k (by simp))) (fun x hx=>hb x (by simp[hx]))
theorem sm_stG{L:List (List Nat)}{B:List (Nat×Nat×Nat)}(hL: ∀l∈L,∀b∈l,b<256)(hB: ∀k∈B,k.2.2<256):smS 8 (stG L B):=by
 refine sm_brks _ _ ?_ (fun k hk=>hB k (wap hk));have h:=sm_st1 (L.take 8) 0 [] ⟨List.Pairwise.nil,by simp,by simp⟩ (fun l hl=>hL l (wap hl));exact⟨h.1,Nat.le_trans h.2.1 (by have:=List.length_take_le 8 L; omega),h.2.2⟩
end Go.Proofs.YtplfjjgkbnolhaaGreatDoor
