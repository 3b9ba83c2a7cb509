/- Contracts and laws. Conditions: those of each. -/
import Derived.Test.YtplfjjgkbnolhaaGreatDoorK3
import Derived.Test.YtplfjjgkbnolhaaGreatDoorGDg
import Derived.Test.YtplfjjgkbnolhaaGreatDoorK1
import Derived.Test.YtplfjjgkbnolhaaGreatDoorK2
set_option linter.unusedSimpArgs false
set_option linter.unusedVariables false
open List renaming length_map -> waa, length_append -> wab, map_nil -> wac, length_cons -> wad, map_cons -> wae, append_assoc -> waf, mem_append -> wag, append_nil -> wah, nil_append -> wai, cons_append -> waj, not_mem_nil -> wak
open Int renaming toNat_natCast -> wal
open Nat renaming le_refl -> wam
open Bool renaming and_eq_true -> wan
namespace Go.Proofs.YtplfjjgkbnolhaaGreatDoor
open Go.Aw
open _root_.Go.Proofs.Tryz
set_option maxRecDepth 100000
set_option maxHeartbeats 8000000
theorem rec_idle(vs:List Value)(W:World)(hv:vs.length=4):CallsDIn Fence.wide 0 prog 106 vs.toArray .returning W fun e u' w'=>(∃x,e= .returned x)/\u'= .returning /\w'=W:=by
 match vs,hv with
 | [a,b,c,d],_=>
  refine callsDIn_of_wpSIn func106 rfl trivial (fun c₀ cs hu=> ?_);apply wpSIn_seq;apply wpSIn_region;simp[wpOpsSIn,go_sem,recoverD,hu,ntmps106,Exit.thenS];apply wpSIn_seq;apply wpSIn_region;simp[wpOpsSIn,go_sem,recoverD,hu,Exit.thenS];refine wpSIn_cond (t:=false) (by simp[Act.eval]) ?_;simp only[Bool.false_eq_true,if_false];refine wpSIn_of_wpIn rfl (wpIn_skip ?_);cases c₀;simp_all [bodyPostS,results,results106]
def zEY:List AV:=[.bp 5 0,.bp 2 0,.bp 3 0,.bp 4 0]
def zFu(Z:GP)(T:List Tok)(gs:List Value)(x y z:AV):OL:=[(2,.box [x]),(3,.box [y]),(4,.box [z]),(5,.box [.d (zAc T)]),(500,.gh zEY gs),(7777778,Z.o)]
theorem stuck_assert(n:Int)(xT:TypeId)(W:World):(Instr.typeAssert (.iface 189 (.int .i64 n)) xT 189 true).run prog W= .ok (.tuple #[.int .i64 n,.bool true]) W:=by
 have h:=tU189;simp[Instr.typeAssert,run_underlying h]
theorem rec_core(Z:GP)(T:List Tok)(i:Nat)(hi:i<T.length)(x y z:AV)(o:OL)(a b d e:Value)(ho:zwd (om o) (zFu Z T [a,b,d,e] x y z))(c:Ctx)(W:World)(F:Nat->Prop)(η:Nat->Value)(S:Nat->List Nat)(hP:c.P=prog)(hds:c.ds=[])(hZ:c.Z=[])(hm:Mem c (om o) W F η S)
  (ha:zaL (om o) W F η (.bp 5 0) a) (hb:zaL (om o) W F η (.bp 2 0) b) (hd:zaL (om o) W F η (.bp 3 0) d) (he:zaL (om o) W F η (.bp 4 0) e) (R:Ending->FrameMode->World->Prop)
  (hR: ∀(w':World) (F':Nat->Prop) (η':Nat->Value) (S':Nat->List Nat),Mem c (om (zFu Z T [a,b,d,e] .nils (.d (eI (tk T i).2.2)) (.d (eI 90)))) w' F' η' S'->zaN (om (zFu Z T [a,b,d,e] .nils (.d (eI (tk T i).2.2)) (.d (eI 90)))) w' F' η' zEY [a,b,d,e]-> ∀v,R (.returned v) (.panicking [{v:=zCU i,recovered:=true}]) w'):
  CallsDIn Fence.wide 0 prog 106 #[a,b,d,e] (.panicking [{v:=zCU i,recovered:=false}]) W R:=by
 have hta:=stuck_assert i;refine callsDIn_of_wpSIn func106 rfl trivial (fun c₀ cs hu=> ?_);apply wpSIn_seq;apply wpSIn_region;simp[wpOpsSIn,go_sem,recoverD,hu,ntmps106,Exit.thenS];apply wpSIn_seq;apply wpSIn_region;simp[wpOpsSIn,go_sem,recoverD,hu,Exit.thenS,zCU];refine wpSIn_cond (t:=true) (by simp[Act.eval]) ?_;simp only[if_true];apply wpSIn_seq;apply wpSIn_region;simp[wpOpsSIn,go_sem,recoverD,hu,Exit.thenS,zCU,hta];apply wpSIn_seq;apply wpSIn_seq;apply wpSIn_region;simp[wpOpsSIn,go_sem,recoverD,hu,Exit.thenS,zCU];refine wpSIn_cond (t:=false) (by simp[Act.eval]) ?_;simp only[Bool.false_eq_true,if_false];refine wpSIn_of_wpIn rfl (wpIn_skip ?_);simp only[Exit.thenS];generalize hA:(#[a,b,d,e]++_:Array Value)=A;have hA0:A.size=24/\A.getD 0 undef=a/\A.getD 1 undef=b/\A.getD 2 undef=d/\A.getD 3 undef=e/\A.getD 5 undef= .int .i64 i:=by
  rw[<-hA];simp[Array.getD]
 obtain⟨hsz,g0,g1,g2,g3,g5⟩:=hA0;clear hA;refine wpSIn_of_wpIn rfl ?_;obtain⟨P0,N0',W0,F0,O0,Z0,ds0,pv0,dl0⟩:=c;simp only at hP hds hZ;subst hP hds hZ;have hr0:Rel ⟨prog,⟨24,[0,1,2,3],false,[],fun _ _=>False⟩,W0,F0,O0,[],[],fun t=>A.getD t undef,[]⟩ ⟨tm [(0,.bp 5 0),(1,.bp 2 0),(2,.bp 3 0),(3,.bp 4 0),(5,.d (.lit (.int .i64 i)))],om o⟩ {tmps:=A,defers:=[]} W:=by
  refine⟨⟨hsz,fun _ _=>rfl⟩,rfl,F,η,S,hm.same rfl rfl rfl rfl rfl,fun t=> ?_⟩;simp only[tm];split
  ·rename_i h; subst h; rw[g0]; exact ha
  split
  ·rename_i h; subst h; rw[g1]; exact hb
  split
  ·rename_i h; subst h; rw[g2]; exact hd
  split
  ·rename_i h; subst h; rw[g3]; exact he
  split
  ·rename_i h; subst h; rw[g5]; simp only[zaL,Rd]
  ·simp only[zaL]
 have hr:=zzH (σ:=⟨tm [(0,.bp 5 0),(1,.bp 2 0),(2,.bp 3 0),(3,.bp 4 0),(5,.d (.lit (.int .i64 i)))],om o⟩) (l:=[(0,.bp 5 0),(1,.bp 2 0),(2,.bp 3 0),(3,.bp 4 0),(5,.d (.lit (.int .i64 i)))]) (by simp[zuM,tm]) ho _ _ W hr0;refine wpIn_mono (zBm (N:=⟨24,[0,1,2,3],false,[],fun _ _=>False⟩) (L:=fun _=>[]) zat _ (fun ex t o'=>ex= .normal /\zwd (om o') (zFu Z T [a,b,d,e] .nils (.d (eI (tk T i).2.2)) (.d (eI 90)))/\tm t 0= .bp 5 0/\tm t 1= .bp 2 0/\tm t 2= .bp 3 0/\tm t 3= .bp 4 0) _ _ (fun _ _ h=>h.elim) ?_ none 0 _ (fun _=>rfl) rfl rfl _ W hr) ?_
 ·have e1:=zai hi;have e2:=zDl hi;simp only[ZE,seval,zFu,KE,zAc,GZ,e1,e2,wal,zEY]
 ·rintro ex a' W' ⟨σ',⟨t',o',rfl,rfl,h1,t0,t1,t2,t3⟩,Ds,hD,hr'⟩;have hDs:Ds=[]:=hD.2.2 rfl;subst hDs;rw[Ctx.more_nil]at hr';obtain⟨⟨hsz',hpin⟩,hdf,F',η',S',hm',ht'⟩:=zzH (σ:=⟨tm t',om o'⟩) (l:=[(0,.bp 5 0),(1,.bp 2 0),(2,.bp 3 0),(3,.bp 4 0)]) (by simp[zuM,t0,t1,t2,t3]) h1 _ _ W' hr';refine⟨by simpa using hdf,_,rfl,.tuple #[],by simp[results,results106],hR W' F' η' S' (hm'.same rfl rfl rfl rfl rfl) ?_ _⟩;simp only[zEY,zaN];have k0:=ht' 0;have k1:=ht' 1;have k2:=ht' 2;have k3:=ht' 3;rw[hpin 0 (by simp)]at k0;rw[hpin 1 (by simp)]at k1;rw[hpin 2 (by simp)]at k2;rw[hpin 3 (by simp)]at k3;simp only[g0,g1,g2,g3]at k0 k1 k2 k3;exact⟨_,_,rfl,k0,_,_,rfl,k1,_,_,rfl,k2,_,_,rfl,k3,rfl⟩
def zAQ(s:Bts):List Module×Int×Int:=
 if s.size>8000 then([],0,2)else match zEW s with
  | .error a=>([],a,5)
  | .ok T=>match zB4 T T.length [] 0 with
   | .ok f=>(f,0,0)
   | .error i=>([],(tk T i).2.2,90)
def zHb(s:Bts):AV:=.tup [.d (.agg [zax (zAQ s).1]),.d (eI (zAQ s).2.1),.d (eI (zAQ s).2.2)]
def paB(Z:GP)(T:List Tok):OL:=[(2,.box [.nils]),(3,.box [.d (eI 0)]),(4,.box [.d (eI 0)]),(5,.box [.d (zAc T)]),(7777777,Z.o),(7777778,Z.o)]
theorem parse_c(Z:GP)(hZ:Z.Ok)(s:Bts)(hs:s.size<=1000000)(T:List Tok)(hL:zEW s= .ok T)(h8: ¬s.size>8000)(hT:TOk T)(h0:0<T.length):
  FnL prog 64 [.d (.lit (.string s))] [(7777777,Z.o)] (fun V ol new=>V=zHb s/\ol=[(7777777,Z.o)]/\new=[]):=by
 refine FnL.dupG (b:=7777778) (by decide) rfl (by simp[AV.noRefs,AV.noRef]) rfl ?_;have hR:zAQ s=match zB4 T T.length [] 0 with | .ok f=>(f,0,0) | .error i=>([],(tk T i).2.2,90):=by unfold zAQ; rw[if_neg h8,hL]
 obtain⟨E,hEE⟩:=zX (zB4 T T.length [] 0);rw[hEE]at hR;refine FnL.of_df (pre:=[_,_,_]) (own:=[]) 500 zEY (fun i=>if i=5 then [.adB 2 0 98 46 4]else if i=1008 then [.frz 98]else if i=2006 then [.ord ⟨[(0,none),(1,none),(2,none),(3,none),(4,none),(5,none),(6,none),(7,none),(8,none),(9,none),(10,none),(11,none)]⟩]else if i=2007 then [.flt ⟨[(0,none),(1,none),(2,none),(3,some [0,1]),(4,some [0,1]),(5,some []),(6,none),(7,some [])]⟩ ⟨[],[]⟩]else [])
  (fun gs v o=> ∃i n,E= .error i/\i<T.length/\v=zCU i/\zwd (om o) (zFu Z T gs (.ar 98 n) (.d (eI 0)) (.d (eI 0)))) [(2,.bp 2 0),(3,.bp 3 0),(4,.bp 4 0),(5,.bp 5 0)] (paB Z T) [5,2,3,4] 106
  zat func64 rfl call64 ntmps64 (zle rfl) results64 ?_ rfl rfl ?_ ?_ ?_ (fun vs W hv=>rec_idle vs W hv) ?_
 ·simp[paB,zEY,GZ,zyk,zjB,AO.noRef,AV.noRefs,AV.noRef,zCV,om]
 ·have hl:=lex_g Z s hs;have hV:lexV s= .tup [.d (zAc T),.d (eI 0),.d (eI 0)]:=by unfold lexV; rw[if_neg h8,hL]; rfl
  rw[hV]at hl;simp only[ZE,seval,KE]at hl;simp only[ZE,seval,eP.eq_1,eP.eq_2,KE,GZ,zFu,zEY,zAc,paB,paM,paO];refine EFn.gV [(7777777,7777777)] hl ?_ ?_
  ·simp only[ZE,seval,GZ,zFu,zEY,zAc,paB,paM,paO]
  rintro V ol new ⟨rfl,rfl,rfl⟩;simp only[ZE,seval,eP.eq_1,eP.eq_2,subK.eq_1,KE,GZ,zFu,zEY,zAc,paB,paM,paO]
 ·intro n a W hsz hd;have hfw:FW none=Fence.wide:=rfl;have hmf: ∀(fn:Fn) (first cap:Array Value) (w:World),(Instr.makeFunc fn first cap).run prog w= .ok (.func fn first cap) w:=fun _ _ _ _=>rfl;rw[hfw];refine wpIn_region_list ?_;simp[wpListIn,go_sem,Fence.wide,Oper.semAt,hmf,hsz,hd];exact⟨_,_,_,rfl,rfl,fun W=>rfl⟩
 ·intro gs;have hm:=module_p Z hZ T hT;have e1:=zai h0;have e2:=zDl h0;simp only[ZE,seval,paB,KE,GZ,zFu,zEY,zAc,paB,paM,paO];refine zgR (X:=List Module×Nat) (fun _ i=>if i=2006 then [.ord ⟨[(0,none),(1,none),(2,none),(3,none),(4,none),(5,none),(6,none),(7,none),(8,none),(9,none),(10,none),(11,none)]⟩]else if i=2007 then [.flt ⟨[(0,none),(1,none),(2,none),(3,some [0,1]),(4,some [0,1]),(5,some []),(6,none),(7,some [])]⟩ ⟨[],[]⟩]else []) zat T.length (fun i z=>i<=z.2/\z.2<T.length/\z.1.length<=i/\E=zB4 T (T.length-i) z.1 z.2)
   (fun _ z=>([(2,.bp 2 0),(3,.bp 3 0),(4,.bp 4 0),(6,.bp 21 0)],
    [(2,.box [.ar 98 z.1.length]),(3,.box [.d (eI 0)]),(4,.box [.d (eI 0)]),(5,.box [.d (zAc T)]),(21,paO T z.2),(98,.arr 46 4 .flat (z.1.map zaC)),(500,.gh zEY gs),(7777777,Z.o),(7777778,Z.o)])) ([],0) ⟨wam _,h0,wam _,hEE.symm⟩ ?_ ?_ (fun i z hi hI=> ?_)
  ·simp only[ZE,seval]
  ·simp only[ZE,seval,KE,GZ,zFu,zEY,zAc,paB,paM,paO]
  obtain⟨l,b⟩:=z;obtain⟨I1,I2,I3,I4⟩:=hI;simp only at I1 I2 I3 I4;rw[show T.length-i=T.length-(i+1)+1 by omega]at I4;unfold zB4 at I4;have e1:=zai I2;have e2:=zDl I2;have hin:=in_module hT I2;have hlen:=hT.len;by_cases hk:(tk T b).1 =4
  ·rw[if_pos hk]at I4;have e3:(((tk T b).1 :Int) !=4)=false:=by rw[hk]; rfl
   have hV:zAQ s=(l,0,0):=by rw[hR,I4]
   simp only[ZE,seval,e1,e2,e3,wal,KE,waa,GZ,zFu,zEY,zAc,paB,paM,paO];refine⟨by kernel_rfl,?_⟩;simp only[ZE,seval,retDX.eq_def,KE,GZ,zFu,zEY,zAc,paB,paM,paO];refine⟨[2,3,4,5,21,500,7777778],?_⟩;simp only[ZE,seval,zHb.eq_1,hV,KE,GZ,zFu,zEY,zAc,paB,paM,paO];exact⟨trivial,trivial⟩
  ·rw[if_neg hk]at I4;have e3:(((tk T b).1 :Int) !=4)=true:=by simp; omega
   simp only[ZE,seval,e1,e2,e3,wal,KE,GZ,zFu,zEY,zAc,paB,paM,paO];refine⟨by kernel_rfl,by kernel_rfl,?_⟩;refine EFn.gX [(90,21),(7777777,7777777)] (hm b I2) ?_ (fun v hv=> ?_) ?_
   ·simp only[ZE,seval,KE,GZ,zFu,zEY,zAc,paB,paM,paO]
   ·obtain⟨j,hj,hv⟩:=hv;rw[hj]at I4 hin;refine⟨j,l.length,I4,hin,hv,?_⟩;simp only[ZE,seval,KE,GZ,zFu,zEY,zAc,paB,paM,paO]
   ·rintro V ol new ⟨m,c,h7,hc,rfl,rfl,rfl⟩;rw[h7]at I4;have hgt:=gt_module h7;have hmap:l.map zaC++[zaC m]=(l++[m]).map zaC:=(by rw[List.map_append]; rfl);have hlm:l.length+1=(l++[m]).length :=(by simp);have hE:eM1 m= .d (.agg (zaC m)):=rfl;simp only[ZE,seval,KE]at hmap;simp only[ZE,seval,hE,KE,hmap,waa,GZ,zFu,zEY,zAc,paB,paM,paO];refine⟨⟨by omega,by omega⟩,hlm,?_⟩;refine⟨by omega,(l++[m],c),⟨by omega,hc,by simp only[wab,wad,List.length_nil]; omega,I4⟩,?_,?_⟩
    ·simp only[ZE,seval]
    ·simp only[ZE,seval,KE,<-hlm,GZ,zFu,zEY,zAc,paB,paM,paO]
 ·rintro gs v o ⟨i,n,hi1,hi2,rfl,ho⟩;refine⟨?_,fun c W F η S hP hds hZ hm hgs=> ?_⟩
  ·simp only[zFu,zwd]at ho;exact ho.2.2.2.2.1
  ·simp only[zEY,zaN]at hgs;obtain⟨a,_,rfl,ha,b,_,rfl,hb,d,_,rfl,hd,e,_,rfl,he,rfl⟩:=hgs;refine rec_core Z T i hi2 _ _ _ o a b d e ho c W F η S hP hds hZ hm ha hb hd he _ (fun w' F' η' S' h1 h2 v=>⟨⟨v,rfl⟩,rfl,_,F',η',S',h1,h2,?_⟩);have hV:zAQ s=([],((tk T i).2.2 :Int),90):=by rw[hR,hi1]
   refine⟨[2,3,4,5,500],?_⟩;simp only[ZE,seval,zHb.eq_1,hV,wae,wac,KE,GZ,zFu,zEY,zAc,paB,paM,paO];exact⟨trivial,trivial⟩
theorem lxL_tok: ∀(n:Nat) (l:List UInt8) (a:Nat) (T0 T:List Tok),lxL n l a T0= .ok T->(∀t∈T0,(t.1=1\/t.1=2\/t.1=3)/\t.2.1.size<=a)->T0.length<=a->
  ∃T1 e,T=T1++[(4,e0,e)]/\e<=a+l.length/\T1.length<=e/\ ∀t∈T1,(t.1=1\/t.1=2\/t.1=3)/\t.2.1.size<=e
 | 0,l,a,T0,T,h,h0,hl=>by
  simp only[lxL,Except.ok.injEq]at h;subst h;exact⟨T0,a,rfl,by omega,hl,h0⟩
 | n+1,l,a,T0,T,h,h0,hl=>by
  unfold lxL at h;split at h
  ·simp only[Except.ok.injEq]at h;subst h;exact⟨T0,a,rfl,by omega,hl,h0⟩
  ·rename_i hne;split at h
   ·cases h
   ·rename_i k hst;have hk:0<k/\k<=l.length:=zC8 hst;obtain⟨T1,e,e1,e2,e3,e4⟩:=lxL_tok n (l.drop k) (a+k) T0 T h (fun t ht=>⟨(h0 t ht).1,by have:=(h0 t ht).2; omega⟩) (by omega);exact⟨T1,e,e1,by rw[List.length_drop]at e2; omega,e3,e4⟩
   ·rename_i k q hst;have hk:0<k/\k<=l.length:=zC8 hst;have hq:=zF4 hst;obtain⟨T1,e,e1,e2,e3,e4⟩:=lxL_tok n (l.drop k) (a+k) _ T h (fun t ht=>by
     rw[wag,List.mem_singleton]at ht;rcases ht with ht | rfl
     ·exact⟨(h0 t ht).1,by have:=(h0 t ht).2; omega⟩
     ·refine⟨hq,?_⟩;show(l.take k).toArray.size <=a+k;rw[List.size_toArray,List.length_take]; omega) (by rw[wab,List.length_singleton]; omega)
    exact⟨T1,e,e1,by rw[List.length_drop]at e2; omega,e3,e4⟩
theorem lex_tok{s:Bts}{T:List Tok}(h:zEW s= .ok T)(hs:s.size<=900000):TOk T/\0<T.length:=by
 unfold zEW at h;rw[zCO _ _ _ _ (Nat.zero_le _),List.drop_zero]at h;have hz:s.data.toList.length=s.size:=by rw[Array.length_toList]; rfl
 obtain⟨T1,e,rfl,h2,h3,h4⟩:=lxL_tok _ _ _ _ _ h (by simp) (Nat.zero_le _);rw[hz]at h2;refine⟨⟨by rw[wab,List.length_singleton]; omega,fun t ht=> ?_,fun a ha hk=> ?_⟩,by rw[wab,List.length_singleton]; omega⟩
 ·rw[wag,List.mem_singleton]at ht;rcases ht with ht | rfl
  ·have:=(h4 t ht).2; omega
  ·exact Nat.zero_le _
 ·rw[wab,List.length_singleton]at ha ⊢;rcases Nat.lt_or_ge a T1.length with h5 | h5
  ·omega
  ·exfalso;have:a=T1.length:=by omega
   subst this;apply hk;simp[tk]
theorem parse_g(Z:GP)(hZ:Z.Ok)(s:Bts)(hs:s.size<=900000):
  FnL prog 64 [.d (.lit (.string s))] [(7777777,Z.o)] (fun V ol new=>V=zHb s/\ol=[(7777777,Z.o)]/\new=[]):=by
 have hl:=lex_g Z s (by omega);by_cases h8:s.size>8000
 ·have hV:lexV s= .tup [.d (.sl []),.d (eI 0),.d (eI 2)]:=by unfold lexV; rw[if_pos h8]
  have hR:zAQ s=([],0,2):=by unfold zAQ; rw[if_pos h8]
  rw[hV]at hl;refine FnL.srt (FnL.of_eH 1999 [] (own:=[]) (fun i=>if i=2003 then [.flt ⟨[(0,none),(1,none),(2,none),(3,some [1,2]),(4,some [2]),(5,some [])]⟩ ⟨[],[]⟩]else []) [] zat func64 rfl call64 ntmps64 (zle rfl) results64 (zCw Z _ (by simp[AV.noRefs,AV.noRef])) (fun gs=> ?_));simp only[ZE,seval,KE]at hl;simp only[ZE,seval,KE,GZ,zFu,zEY,zAc,paB,paM,paO];refine EFn.gV [(7777777,7777777)] hl ?_ ?_
  ·simp only[ZE,seval,GZ,zFu,zEY,zAc,paB,paM,paO]
  rintro V ol new ⟨rfl,rfl,rfl⟩;simp only[ZE,seval,KE,GZ,zFu,zEY,zAc,paB,paM,paO];refine⟨by kernel_rfl,?_⟩;refine⟨[2,3,4,5,1999],[],?_⟩;simp only[ZE,seval,zHb.eq_1,hR,KE,zAp.eq_1,zAp.eq_2,zAq.eq_1,zAq.eq_2,GZ,zAj.eq_def,ghK.eq_def,zAi.eq_def,hdH.eq_1,hdH.eq_2,kpH.eq_1,kpH.eq_2,hdl.eq_def,zpC.eq_def,zht,AV.core,wac,GZ,zFu,zEY,zAc,paB,paM,paO]
 cases hL:zEW s with
 | ok T=>
  obtain⟨h1,h2⟩:=lex_tok hL hs;exact parse_c Z hZ s (by omega) T hL h8 h1 h2
 | error a=>
  have hV:lexV s= .tup [.d (.sl []),.d (eI a),.d (eI 5)]:=by unfold lexV; rw[if_neg h8,hL]; rfl
  have hR:zAQ s=([],(a:Int),5):=by unfold zAQ; rw[if_neg h8,hL]
  rw[hV]at hl;refine FnL.srt (FnL.of_eH 1999 [] (own:=[]) (fun i=>if i=2003 then [.flt ⟨[(0,none),(1,none),(2,none),(3,some [1,2]),(4,some [2]),(5,some [])]⟩ ⟨[],[]⟩]else []) [] zat func64 rfl call64 ntmps64 (zle rfl) results64 (zCw Z _ (by simp[AV.noRefs,AV.noRef])) (fun gs=> ?_));simp only[ZE,seval,KE]at hl;simp only[ZE,seval,KE,GZ,zFu,zEY,zAc,paB,paM,paO];refine EFn.gV [(7777777,7777777)] hl ?_ ?_
  ·simp only[ZE,seval,GZ,zFu,zEY,zAc,paB,paM,paO]
  rintro V ol new ⟨rfl,rfl,rfl⟩;simp only[ZE,seval,KE,GZ,zFu,zEY,zAc,paB,paM,paO];refine⟨by kernel_rfl,?_⟩;refine⟨[2,3,4,5,1999],[],?_⟩;simp only[ZE,seval,zHb.eq_1,hR,KE,zAp.eq_1,zAp.eq_2,zAq.eq_1,zAq.eq_2,GZ,zAj.eq_def,ghK.eq_def,zAi.eq_def,hdH.eq_1,hdH.eq_2,kpH.eq_1,kpH.eq_2,hdl.eq_def,zpC.eq_def,zht,AV.core,wac,GZ,zFu,zEY,zAc,paB,paM,paO]
set_option maxHeartbeats 1000000
structure WfT (T:List Tok):Prop where
 w1: ∀a,(tk T a).1 =1->zAC (tk T a).2.1 =1/\(tk T a).2.1.data.toList.all isW=true
 w2: ∀a,(tk T a).1 =2->zAC (tk T a).2.1 =2/\(tk T a).2.1.data.toList.all isW=true
section
variable {T:List Tok} {a b:Nat}
theorem zBF{s:Bts}{u:Unit}(h:zBx T s a= .ok (u,b)):tkP T a 3 s/\b=a+1:=by
 unfold zBx at h;split at h
 ·rename_i h1;unfold isT at h1;simp only[wan,decide_eq_true_eq]at h1;simp only[Except.ok.injEq,Prod.mk.injEq]at h;exact⟨h1,h.2.symm⟩
 ·cases h
theorem word_i{s:Bts}{u:Unit}(h:zDG T s a= .ok (u,b)):tkP T a 1 s/\b=a+1:=by
 unfold zDG at h;split at h
 ·rename_i h1;unfold isT at h1;simp only[wan,decide_eq_true_eq]at h1;simp only[Except.ok.injEq,Prod.mk.injEq]at h;exact⟨h1,h.2.symm⟩
 ·cases h
theorem zGu{k:Nat}{s:Bts}(h:isT T a k s=true):tkP T a k s:=by
 unfold isT at h;simp only[wan,decide_eq_true_eq]at h;exact h
theorem zDi(hW:WfT T){s:Bts}(h:zBE T a= .ok (s,b)):tkP T a 1 s/\zAN s=true/\b=a+1:=by
 unfold zBE at h;split at h
 ·rename_i h1;simp only[Except.ok.injEq,Prod.mk.injEq]at h;obtain⟨rfl,rfl⟩:=h;obtain⟨g1,g2⟩:=hW.w1 a h1.1;exact⟨⟨h1.1,rfl⟩,name_word g1 g2 h1.2,rfl⟩
 ·cases h
theorem zGK(hW:WfT T){least n:Int}(h:zAZ T least a= .ok (n,b)):tkP T a 2 (zB2 n)/\zCf n=true/\least<=n/\b=a+1:=by
 unfold zAZ at h;split at h
 ·rename_i m hm;split at h
  ·rename_i h1;simp only[Except.ok.injEq,Prod.mk.injEq]at h;obtain⟨rfl,rfl⟩:=h;obtain⟨g1,g2⟩:=hW.w2 a h1.1;unfold zAC at g1;rw[hm]at g1;have h0: ¬(tk T a).2.1.size =0:=by
    intro e; rw[if_pos e]at g1; omega
   rw[if_neg h0]at g1;split at g1
   ·omega
   simp only at g1;split at g1
   ·omega
   rename_i h3;have h4:m<=1000000/\zB2 m=(tk T a).2.1 :=by
    refine⟨by omega,?_⟩;by_cases h5:zB2 m=(tk T a).2.1
    ·exact h5
    ·exact absurd (.inr h5) h3
   refine⟨⟨h1.1,h4.2.symm⟩,?_,h1.2,rfl⟩;unfold zCf;have h6:0<=m:=by
    rcases Int.lt_or_le m 0 with h7 | h7
    ·exfalso;rw[<-h4.2]at g2;have:(zB2 m).data.toList =45::Go.Lib.decDigits m.natAbs:=by
      unfold zB2 Go.Lib.itoa;rw[if_pos h7]
     rw[this,List.all_cons,wan]at g2;exact absurd g2.1 (by decide)
    ·exact h7
   simp only[wan,decide_eq_true_eq];exact⟨h6,h4.1⟩
  ·cases h
 ·cases h
theorem name_ne{s:Bts}(h:zAN s=true):s≠e0:=(zEH h).2.2.2
theorem zIr(hW:WfT T){x:Num}(h:zDM T a= .ok (x,b)):zAX x=true/\At T a (zAD x)/\b=a+nT (zAD x):=by
 unfold zDM at h;split at h
 ·obtain⟨n,c,h1,h2⟩:=zAs h;obtain⟨g1,g2,g3,rfl⟩:=zGK hW h1;simp only[Except.ok.injEq,Prod.mk.injEq]at h2;obtain⟨rfl,rfl⟩:=h2;unfold zAX zAD;simp only[if_true,AtW,waj,wai,and_true,true_and,Nat.zero_add,Nat.add_zero];exact⟨g2,g1⟩
 ·obtain⟨s,c,h1,h2⟩:=zAs h;obtain⟨g1,g2,rfl⟩:=zDi hW h1;have hne:=name_ne g2;split at h2
  ·rename_i hp;obtain⟨n,d,h3,h4⟩:=zAs h2;obtain⟨k1,k2,k3,rfl⟩:=zGK hW h3;simp only[Except.ok.injEq,Prod.mk.injEq]at h4;obtain⟨rfl,rfl⟩:=h4;unfold zAX zAD;simp only[zCf,wan,decide_eq_true_eq]at k2;simp only[if_neg hne,if_pos (show n>0 by omega),AtW,waj,wai,and_true,true_and,Nat.zero_add,Nat.add_zero,wan,decide_eq_true_eq];exact⟨⟨g2,by omega,by omega⟩,g1,zGu hp,k1⟩
  split at h2
  ·rename_i hp;obtain⟨n,d,h3,h4⟩:=zAs h2;obtain⟨k1,k2,k3,rfl⟩:=zGK hW h3;simp only[Except.ok.injEq,Prod.mk.injEq]at h4;obtain⟨rfl,rfl⟩:=h4;unfold zAX zAD;simp only[zCf,wan,decide_eq_true_eq]at k2;simp only[if_neg hne,if_neg (show ¬ -n>0 by omega),if_pos (show-n<0 by omega),AtW,waj,wai,and_true,true_and,Nat.zero_add,Nat.add_zero,wan,decide_eq_true_eq,Int.neg_neg];exact⟨⟨g2,by omega,by omega⟩,g1,zGu hp,k1⟩
  ·simp only[Except.ok.injEq,Prod.mk.injEq]at h2;obtain⟨rfl,rfl⟩:=h2;unfold zAX zAD;simp only[if_neg hne,if_neg (show ¬(0:Int)>0 by omega),if_neg (show ¬(0:Int)<0 by omega),AtW,waj,wai,and_true,true_and,Nat.zero_add,Nat.add_zero,wan,decide_eq_true_eq];exact⟨⟨g2,by omega,by omega⟩,g1⟩
theorem zFS:zCW n0=true:=rfl
def InvE(T:List Tok)(fit:Expr->Bool)(pc:Expr->List Pc)(r:Nat->PR Expr):Prop:= ∀a e b,r a= .ok (e,b)->fit e=true/\At T a (pc e)/\b=a+nT (pc e)
theorem opOf_ne{s:Bts}(h:zGx s≠0): ∃p∈opL,p.1=s/\zGx s=p.2:=by
 have key: ∀(l:List (Bts×Nat)),(l.lookup s).getD 0≠0-> ∃p∈l,p.1=s/\(l.lookup s).getD 0=p.2:=by
  intro l
  induction l with
  | nil=>intro h; exact absurd rfl h
  | cons p l ih=>
   intro h;obtain⟨x,v⟩:=p;rw[List.lookup_cons]at h ⊢;by_cases hx:s=x
   ·subst hx;have h1:(s==s)=true:=(by rw[zDo]; simp);rw[h1]at h ⊢;exact⟨(s,v),by simp,rfl,rfl⟩
   ·have h1:(s==x)=false:=(by rw[zDo]; simpa using hx);rw[h1]at h ⊢;obtain⟨p,hp,h2⟩:=ih h;exact⟨p,by simp[hp],h2⟩
 exact key opL h
theorem opOf_posL{p:Bts×Nat}(h:p∈opL):zGx p.1=p.2/\p.2≠0/\zAS p.2=p.1/\p.1≠e0:=by
 have key: ∀p∈opL,zGx p.1=p.2/\p.2≠0/\zAS (p.2:Nat)=p.1/\p.1≠e0:=by decide
 exact key p h
theorem exprG_i(hW:WfT T){rec:Nat->PR Expr}{fit:Expr->Bool}{pc:Expr->List Pc}{deep:Bool}(hr:deep=true->InvE T fit pc rec){e:Expr}(h:zCK rec deep T a= .ok (e,b)):
  ((e.args.length:Int)=zBi e.op/\zCi e=true/\zCj fit e=true)/\At T a (zDn pc e)/\b=a+nT (zDn pc e):=by
 unfold zCK at h;split at h
 ·rename_i g1
  replace g1:=zGu g1
  obtain⟨k,c,h1,h⟩:=zAs h;obtain⟨k1,k2,rfl⟩:=zIr hW h1;obtain⟨_,d,h2,h⟩:=zAs h;obtain⟨k3,rfl⟩:=zBF h2;obtain⟨w,f,h3,h⟩:=zAs h;obtain⟨k4,k5,rfl⟩:=zIr hW h3;obtain⟨_,g,h4,h⟩:=zAs h;obtain⟨k6,rfl⟩:=zBF h4;simp only[Except.ok.injEq,Prod.mk.injEq]at h;obtain⟨rfl,rfl⟩:=h;refine⟨⟨rfl,by simp[zCi,Expr.op,Expr.name],?_⟩,?_,?_⟩
  ·simp only[zCj,Expr.op,if_true,Expr.k,Expr.w,wan]; exact⟨k1,k4⟩
  ·simp only[zDn,Expr.op,if_true,Expr.k,Expr.w,AtW,waj,wai,and_true,true_and,Nat.zero_add,Nat.add_zero];exact⟨g1,k2,zAl k3 (by omega),zAz k5 (by omega),zAl k6 (by omega)⟩
  ·simp only[zDn,Expr.op,if_true,Expr.k,Expr.w,AtW,waj,wai,and_true,true_and,Nat.zero_add,Nat.add_zero]; omega
 split at h
 ·rename_i _ hk;obtain⟨s,c,h1,h⟩:=zAs h;obtain⟨g1,g2,rfl⟩:=zDi hW h1;split at h
  ·rename_i hd;obtain⟨x,d,h2,h⟩:=zAs h;obtain⟨f1,f2,rfl⟩:=hr hd.1 _ _ _ h2;obtain⟨_,g,h4,h⟩:=zAs h;obtain⟨k6,rfl⟩:=zBF h4;simp only[Except.ok.injEq,Prod.mk.injEq]at h;obtain⟨rfl,rfl⟩:=h;refine⟨⟨rfl,by simp[zCi,Expr.op,Expr.k,Expr.w,zFS],?_⟩,?_,?_⟩
   ·simp[zCj,Expr.op,Expr.name,Expr.args,g2,f1]
   ·have:zDn pc (.mk 15 s n0 n0 [x])=nm s::sg (⟨#[91]⟩:ByteArray)::(pc x++[sg (⟨#[93]⟩:ByteArray)]):=rfl;rw[this];simp only[AtW,waj,wai,and_true,true_and,Nat.zero_add,Nat.add_zero];exact⟨g1,zGu hd.2,f2,zAl k6 (by omega)⟩
   ·have:zDn pc (.mk 15 s n0 n0 [x])=nm s::sg (⟨#[91]⟩:ByteArray)::(pc x++[sg (⟨#[93]⟩:ByteArray)]):=rfl;rw[this];simp only[AtW,waj,wai,and_true,true_and,Nat.zero_add,Nat.add_zero];omega
  ·simp only[Except.ok.injEq,Prod.mk.injEq]at h;obtain⟨rfl,rfl⟩:=h;refine⟨⟨rfl,by simp[zCi,Expr.op,Expr.k,Expr.w,zFS],?_⟩,?_,?_⟩
   ·simp[zCj,Expr.op,Expr.name,g2]
   ·have:zDn pc (.mk 14 s n0 n0 [])=[nm s]:=rfl;rw[this]; simp only[AtW,waj,wai,and_true,true_and,Nat.zero_add,Nat.add_zero]; exact g1
   ·rfl
 split at h
 ·cases h
 rename_i hd;have hr:=hr (by simpa using hd);split at h
 ·rename_i g1
  replace g1:=zGu g1
  obtain⟨x,d,h2,h⟩:=zAs h;obtain⟨f1,f2,rfl⟩:=hr _ _ _ h2;simp only[Except.ok.injEq,Prod.mk.injEq]at h;obtain⟨rfl,rfl⟩:=h;have hp:zDn pc (.mk 2 e0 n0 n0 [x])=sg (⟨#[126]⟩:ByteArray)::pc x:=rfl;refine⟨⟨rfl,by simp[zCi,Expr.op,Expr.k,Expr.w,Expr.name,zFS],?_⟩,?_,?_⟩
  ·simp[zCj,Expr.op,Expr.args,f1]
  ·rw[hp]; simp only[AtW,waj,wai,and_true,true_and,Nat.zero_add,Nat.add_zero]; exact⟨g1,f2⟩
  ·rw[hp]; simp only[AtW,waj,wai,and_true,true_and,Nat.zero_add,Nat.add_zero]; omega
 split at h
 ·rename_i g1
  replace g1:=zGu g1
  unfold zC7 at h;obtain⟨x,d,h2,h⟩:=zAs h;obtain⟨f1,f2,rfl⟩:=hr _ _ _ h2;split at h
  ·rename_i g3
   replace g3:=zGu g3
   obtain⟨y,d,h3,h⟩:=zAs h;obtain⟨f3,f4,rfl⟩:=hr _ _ _ h3;obtain⟨_,d,h4,h⟩:=zAs h;obtain⟨g5,rfl⟩:=zBF h4;obtain⟨z,d,h5,h⟩:=zAs h;obtain⟨f5,f6,rfl⟩:=hr _ _ _ h5;obtain⟨_,d,h6,h⟩:=zAs h;obtain⟨g7,rfl⟩:=zBF h6;simp only[Except.ok.injEq,Prod.mk.injEq]at h;obtain⟨rfl,rfl⟩:=h;have hp:zDn pc (.mk 10 e0 n0 n0 [x,y,z])=sg (⟨#[40]⟩:ByteArray)::(pc x++([bl,sg (⟨#[63]⟩:ByteArray),bl]++(pc y++([bl,sg (⟨#[58]⟩:ByteArray),bl]++(pc z++[sg (⟨#[41]⟩:ByteArray)]))))):=rfl;refine⟨⟨rfl,by simp[zCi,Expr.op,Expr.k,Expr.w,Expr.name,zFS],?_⟩,?_,?_⟩
   ·simp[zCj,Expr.op,Expr.args,f1,f3,f5]
   ·rw[hp]; simp only[AtW,waj,wai,and_true,true_and,Nat.zero_add,Nat.add_zero];exact⟨g1,f2,g3,f4,zAl g5 (by omega),zAz f6 (by omega),zAl g7 (by omega)⟩
   ·rw[hp]; simp only[AtW,waj,wai,and_true,true_and,Nat.zero_add,Nat.add_zero]; omega
  split at h
  ·cases h
  ·rename_i ho;have ho1:zGx (tk T (a+1+nT (pc x))).2.1 ≠0:=fun e=>ho (.inl e);have ho2:(tk T (a+1+nT (pc x))).1 =3:=by
    by_cases e:(tk T (a+1+nT (pc x))).1 =3
    ·exact e
    ·exact absurd (.inr e) ho
   obtain⟨p,hp1,hp2,hp3⟩:=opOf_ne ho1;obtain⟨q1,q2,q3,q4⟩:=opOf_posL hp1;obtain⟨y,d,h3,h⟩:=zAs h;obtain⟨f3,f4,rfl⟩:=hr _ _ _ h3;obtain⟨_,d,h4,h⟩:=zAs h;obtain⟨g5,rfl⟩:=zBF h4;simp only[Except.ok.injEq,Prod.mk.injEq]at h;obtain⟨rfl,rfl⟩:=h;rw[hp3];have hnot:((p.2:Int)≠1/\(p.2:Int)≠14/\(p.2:Int)≠15/\(p.2:Int)≠2)/\(p.2:Int)≠10/\(p.2:Int)≠12/\(p.2:Int)≠13:=by
    have key: ∀p∈opL,((p.2:Int)≠1/\(p.2:Int)≠14/\(p.2:Int)≠15/\(p.2:Int)≠2)/\(p.2:Int)≠10/\(p.2:Int)≠12/\(p.2:Int)≠13:=(by decide);exact key p hp1
   obtain⟨⟨n1,n2,n3,n4⟩,n5,n6,n7⟩:=hnot;have hp:zDn pc (.mk p.2 e0 n0 n0 [x,y])=sg (⟨#[40]⟩:ByteArray)::(pc x++([bl,sg p.1,bl]++(pc y++[sg (⟨#[41]⟩:ByteArray)]))):=by
    simp only[zDn,Expr.op,if_neg n1,if_neg n2,if_neg n3,if_neg n4,if_neg n5,if_neg n6,if_neg n7,q3];rfl
   refine⟨⟨?_,by simp[zCi,Expr.op,Expr.k,Expr.w,Expr.name,zFS],?_⟩,?_,?_⟩
   ·simp only[zBi,Expr.op,q3];rw[if_neg (by omega),if_neg (by omega),if_neg n5,if_pos q4];rfl
   ·have hf:zCj fit (.mk p.2 e0 n0 n0 [x,y])=(fit x&&fit y):=by
     simp only[zCj,Expr.op,Expr.args,n1,n2,n3,n4,n5,n6,n7,if_false];rfl
    rw[hf,f1,f3]; rfl
   ·rw[hp]; simp only[AtW,waj,wai,and_true,true_and,Nat.zero_add,Nat.add_zero];exact⟨g1,f2,⟨ho2,hp2.symm⟩,f4,zAl g5 (by omega)⟩
   ·rw[hp]; simp only[AtW,waj,wai,and_true,true_and,Nat.zero_add,Nat.add_zero]; omega
 split at h
 ·rename_i g1
  replace g1:=zGu g1
  unfold zC0 at h;obtain⟨x,d,h2,h⟩:=zAs h;obtain⟨f1,f2,rfl⟩:=hr _ _ _ h2;split at h
  ·rename_i g3
   replace g3:=zGu g3
   obtain⟨k,d,h3,h⟩:=zAs h;obtain⟨f3,f4,rfl⟩:=zIr hW h3;obtain⟨_,d,h4,h⟩:=zAs h;obtain⟨g5,rfl⟩:=zBF h4;obtain⟨w,d,h5,h⟩:=zAs h;obtain⟨f5,f6,rfl⟩:=zIr hW h5;obtain⟨_,d,h6,h⟩:=zAs h;obtain⟨g7,rfl⟩:=zBF h6;simp only[Except.ok.injEq,Prod.mk.injEq]at h;obtain⟨rfl,rfl⟩:=h;have hp:zDn pc (.mk 12 e0 k w [x])=sg (⟨#[123]⟩:ByteArray)::(pc x++([bl,sg (⟨#[64]⟩:ByteArray),bl]++(zAD k++([bl,sg (⟨#[58]⟩:ByteArray),bl]++(zAD w++[sg (⟨#[125]⟩:ByteArray)]))))):=rfl;refine⟨⟨rfl,by simp[zCi,Expr.op,Expr.name],?_⟩,?_,?_⟩
   ·simp[zCj,Expr.op,Expr.args,Expr.k,Expr.w,f1,f3,f5]
   ·rw[hp]; simp only[AtW,waj,wai,and_true,true_and,Nat.zero_add,Nat.add_zero];exact⟨g1,f2,g3,f4,zAl g5 (by omega),zAz f6 (by omega),zAl g7 (by omega)⟩
   ·rw[hp]; simp only[AtW,waj,wai,and_true,true_and,Nat.zero_add,Nat.add_zero]; omega
  ·obtain⟨_,d,h4,h⟩:=zAs h;obtain⟨g5,rfl⟩:=zBF h4;obtain⟨w,d,h5,h⟩:=zAs h;obtain⟨f5,f6,rfl⟩:=zIr hW h5;obtain⟨_,d,h6,h⟩:=zAs h;obtain⟨g7,rfl⟩:=zBF h6;simp only[Except.ok.injEq,Prod.mk.injEq]at h;obtain⟨rfl,rfl⟩:=h;have hp:zDn pc (.mk 13 e0 n0 w [x])=sg (⟨#[123]⟩:ByteArray)::(pc x++([bl,sg (⟨#[58]⟩:ByteArray),bl]++(zAD w++[sg (⟨#[125]⟩:ByteArray)]))):=rfl;refine⟨⟨rfl,by simp[zCi,Expr.op,Expr.k,Expr.name,zFS],?_⟩,?_,?_⟩
   ·simp[zCj,Expr.op,Expr.args,Expr.w,f1,f5]
   ·rw[hp]; simp only[AtW,waj,wai,and_true,true_and,Nat.zero_add,Nat.add_zero];exact⟨g1,f2,g5,zAz f6 (by omega),zAl g7 (by omega)⟩
   ·rw[hp]; simp only[AtW,waj,wai,and_true,true_and,Nat.zero_add,Nat.add_zero]; omega
 ·cases h
end
theorem expr_i{T:List Tok}(hW:WfT T): ∀(d:Nat),InvE T (zAB (d+1)) (zAA (d+1)) (zBA T (d+1))
 | 0=>fun a e b h=>by
  obtain⟨⟨h1,h2,h3⟩,h4,h5⟩:=exprG_i hW (deep:=decide (0<0)) (fit:=zAB 0) (pc:=zAA 0) (fun h=>by simp at h) h;exact⟨by simp only[zAB,wan,decide_eq_true_eq]; exact⟨h1,h2,h3⟩,h4,h5⟩
 | d+1=>fun a e b h=>by
  obtain⟨⟨h1,h2,h3⟩,h4,h5⟩:=exprG_i hW (fit:=zAB (d+1)) (pc:=zAA (d+1)) (fun _=>expr_i hW d) h;exact⟨by rw[zAB]; simp only[wan,decide_eq_true_eq]; exact⟨h1,h2,h3⟩,h4,h5⟩
theorem zEI{α:Type}{s:Bts}{v:α}: ∀ {l:List (Bts×α)},l.lookup s=some v->(s,v)∈l
 | [],h=>by cases h
 | (x,u)::l,h=>by
  rw[List.lookup_cons]at h;by_cases hx:s=x
  ·subst hx;have h1:(s==s)=true:=by rw[zDo]; simp
   rw[h1]at h;simp only[Option.some.injEq]at h;subst h;simp
  ·have h1:(s==x)=false:=by rw[zDo]; simpa using hx
   rw[h1]at h;exact List.mem_cons_of_mem _ (zEI h)
section
variable {T:List Tok} {a b:Nat} (hW:WfT T)
include hW
theorem rule_i{r:Rule}(h:zEm T a= .ok (r,b)):zBZ r=true/\At T a (zBk r)/\b=a+nT (zBk r):=by
 unfold zEm at h;split at h
 ·cases h
 rename_i hk;have hk1:(tk T a).1 =1:=by
  by_cases e:(tk T a).1 =1
  ·exact e
  ·exact absurd e hk
 have key: ∀s k,zFX.lookup s=some k->(s=(⟨#[105,110,105,116]⟩:ByteArray)/\k=0)\/(s=(⟨#[107,101,101,112]⟩:ByteArray)/\k=1)\/(s=(⟨#[99,111,112,121]⟩:ByteArray)/\k=2)\/(s=(⟨#[97,100,100]⟩:ByteArray)/\k=3):=by
  intro s k h;have:=zEI h;simpa [zFX]using this
 split at h
 ·rename_i hl;rcases key _ _ hl with⟨hs,hk⟩ | ⟨hs,hk⟩ | ⟨hs,hk⟩ | ⟨hs,hk⟩ <;> simp at hk;obtain⟨s,c,h1,h⟩:=zAs h;obtain⟨g1,g2,rfl⟩:=zDi hW h1;simp only[Except.ok.injEq,Prod.mk.injEq]at h;obtain⟨rfl,rfl⟩:=h;refine⟨by simp[zBZ,g2],?_,rfl⟩;simp only[zBk,show ¬(2:Int)=0 by decide,show ¬(2:Int)=1 by decide,if_false,if_true,AtW,waj,wai,and_true,true_and,Nat.zero_add,Nat.add_zero];exact⟨⟨hk1,hs⟩,g1⟩
 ·rename_i hl;rcases key _ _ hl with⟨hs,hk⟩ | ⟨hs,hk⟩ | ⟨hs,hk⟩ | ⟨hs,hk⟩ <;> simp at hk;obtain⟨s,c,h1,h⟩:=zAs h;obtain⟨g1,g2,rfl⟩:=zDi hW h1;obtain⟨n,c,h3,h⟩:=zAs h;obtain⟨g3,g4,g5,rfl⟩:=zGK hW h3;simp only[Except.ok.injEq,Prod.mk.injEq]at h;obtain⟨rfl,rfl⟩:=h;refine⟨by simp[zBZ,g2,g4],?_,rfl⟩;simp only[zBk,show ¬(3:Int)=0 by decide,show ¬(3:Int)=1 by decide,show ¬(3:Int)=2 by decide,if_false,AtW,waj,wai,and_true,true_and,Nat.zero_add,Nat.add_zero];exact⟨⟨hk1,hs⟩,g1,g3⟩
 ·rename_i k n1 n2 hl;simp only[Except.ok.injEq,Prod.mk.injEq]at h;obtain⟨rfl,rfl⟩:=h;rcases key _ _ hl with⟨hs,hk⟩ | ⟨hs,hk⟩ | ⟨hs,hk⟩ | ⟨hs,hk⟩
  ·subst hk;refine⟨rfl,?_,rfl⟩;show At T a [nm (⟨#[105,110,105,116]⟩:ByteArray)];simp only[AtW,waj,wai,and_true,true_and,Nat.zero_add,Nat.add_zero];exact⟨hk1,hs⟩
  ·subst hk;refine⟨rfl,?_,rfl⟩;show At T a [nm (⟨#[107,101,101,112]⟩:ByteArray)];simp only[AtW,waj,wai,and_true,true_and,Nat.zero_add,Nat.add_zero];exact⟨hk1,hs⟩
  ·exact absurd hk n1
  ·exact absurd hk n2
 ·cases h
omit hW in
theorem rest_i{α:Type}{one:Nat->PR α}{fit:α->Bool}{pc:α->List Pc}(ho: ∀a x b,one a= .ok (x,b)->fit x=true/\At T a (pc x)/\b=a+nT (pc x)):
  ∀(n:Nat) (acc:List α) (a:Nat) (l:List α) (b:Nat),zDB one T n acc a= .ok (l,b)-> ∃r,l=acc++r/\r.all fit=true/\At T a (zBK pc r++[sg (⟨#[41]⟩:ByteArray)])/\b=a+nT (zBK pc r)+1
 | 0,_,_,_,_,h=>by cases h
 | n+1,acc,a,l,b,h=>by
  unfold zDB at h;split at h
  ·rename_i g1;obtain⟨x,c,h1,h⟩:=zAs h;obtain⟨f1,f2,rfl⟩:=ho _ _ _ h1;obtain⟨r,rfl,r1,r2,rfl⟩:=rest_i ho n _ _ _ _ h;refine⟨x::r,by simp,by rw[List.all_cons,f1,r1]; rfl,?_,?_⟩
   ·simp only[zBK,AtW,waj,wai,and_true,true_and,Nat.zero_add,Nat.add_zero]at r2 ⊢;exact⟨zGu g1,⟨f2,r2.1⟩,zAl r2.2 (by omega)⟩
   ·simp only[zBK,AtW,waj,wai,and_true,true_and,Nat.zero_add,Nat.add_zero]; omega
  ·obtain⟨_,c,h1,h⟩:=zAs h;obtain⟨g1,rfl⟩:=zBF h1;simp only[Except.ok.injEq,Prod.mk.injEq]at h;obtain⟨rfl,rfl⟩:=h;refine⟨[],by simp,rfl,?_,rfl⟩;simp only[zBK,AtW,waj,wai,and_true,true_and,Nat.zero_add,Nat.add_zero];exact g1
omit hW in
theorem list_i{α:Type}{one:Nat->PR α}{fit:α->Bool}{pc:α->List Pc}(ho: ∀a x b,one a= .ok (x,b)->fit x=true/\At T a (pc x)/\b=a+nT (pc x)){l:List α}(h:zDg one T a= .ok (l,b)):
  l.all fit=true/\At T a (zA5 pc l)/\b=a+nT (zA5 pc l):=by
 unfold zDg at h;obtain⟨_,c,h1,h⟩:=zAs h;obtain⟨g1,rfl⟩:=zBF h1;split at h
 ·rename_i g2;simp only[Except.ok.injEq,Prod.mk.injEq]at h;obtain⟨rfl,rfl⟩:=h;refine⟨rfl,?_,rfl⟩;simp only[zA5,zBU,AtW,waj,wai,and_true,true_and,Nat.zero_add,Nat.add_zero];exact⟨g1,zGu g2⟩
 ·obtain⟨x,c,h2,h⟩:=zAs h;obtain⟨f1,f2,rfl⟩:=ho _ _ _ h2;obtain⟨r,rfl,r1,r2,rfl⟩:=rest_i ho _ _ _ _ _ h;refine⟨by rw[waj,wai,List.all_cons,f1,r1]; rfl,?_,?_⟩
  ·rw[waj,wai];unfold zA5;rw[zEe];simp only[AtW,waj,wai,and_true,true_and,Nat.zero_add,Nat.add_zero]at r2 ⊢;exact⟨g1,⟨f2,r2.1⟩,zAl r2.2 (by omega)⟩
  ·rw[waj,wai];unfold zA5;rw[zEe];simp only[AtW,waj,wai,and_true,true_and,Nat.zero_add,Nat.add_zero]; omega
theorem bind_i{x:Bind}(h:zDP T a= .ok (x,b)):zCL x=true/\At T a (zBz x)/\b=a+nT (zBz x):=by
 unfold zDP at h;obtain⟨s,c,h1,h⟩:=zAs h;obtain⟨g1,g2,rfl⟩:=zDi hW h1;obtain⟨_,c,h2,h⟩:=zAs h;obtain⟨g3,rfl⟩:=zBF h2;obtain⟨t,c,h3,h⟩:=zAs h;obtain⟨g4,g5,rfl⟩:=zDi hW h3;simp only[Except.ok.injEq,Prod.mk.injEq]at h;obtain⟨rfl,rfl⟩:=h;refine⟨by simp[zCL,g2,g5],?_,rfl⟩;simp only[zBz,AtW,waj,wai,and_true,true_and,Nat.zero_add,Nat.add_zero];exact⟨g1,g3,g4⟩
theorem names_i{x:Bts}(h:zBE T a= .ok (x,b)):zAN x=true/\At T a (zBt x)/\b=a+nT (zBt x):=by
 obtain⟨g1,g2,rfl⟩:=zDi hW h;refine⟨g2,?_,rfl⟩;simp only[zBt,AtW,waj,wai,and_true,true_and,Nat.zero_add,Nat.add_zero];exact g1
end
section
variable {T:List Tok} {a b:Nat} (hW:WfT T)
include hW
theorem zEG{e:Expr}(h:zBA T 8 a= .ok (e,b)):zAB 8 e=true/\At T a (zAA 8 e)/\b=a+nT (zAA 8 e):=expr_i hW 7 a e b h
theorem zIK{x y:Item}(h:zCc x T a= .ok (y,b)): ∃s w,y={x with name:=s,width:=w}/\zAN s=true/\zAX w=true/\tkP T a 1 s/\tkP T (a+1) 3 (⟨#[58]⟩:ByteArray)/\At T (a+2) (zAD w)/\b=a+2+nT (zAD w):=by
 unfold zCc at h;obtain⟨s,c,h1,h⟩:=zAs h;obtain⟨g1,g2,rfl⟩:=zDi hW h1;obtain⟨_,c,h2,h⟩:=zAs h;obtain⟨g3,rfl⟩:=zBF h2;obtain⟨w,c,h3,h⟩:=zAs h;obtain⟨g4,g5,rfl⟩:=zIr hW h3;simp only[Except.ok.injEq,Prod.mk.injEq]at h;obtain⟨rfl,rfl⟩:=h;exact⟨s,w,rfl,g2,g4,g1,g3,g5,by omega⟩
theorem chan_i{x y:Item}(h:zE0 x T a= .ok (y,b)): ∃s w d,y={x with name:=s,width:=w,depth:=d}/\zAN s=true/\zAX w=true/\zAX d=true/\tkP T a 1 s/\tkP T (a+1) 3 (⟨#[58]⟩:ByteArray)/\At T (a+2) (zAD w)/\
  tkP T (a+2+nT (zAD w)) 3 (⟨#[91]⟩:ByteArray)/\At T (a+3+nT (zAD w)) (zAD d)/\tkP T (a+3+nT (zAD w)+nT (zAD d)) 3 (⟨#[93]⟩:ByteArray)/\b=a+4+nT (zAD w)+nT (zAD d):=by
 unfold zE0 at h;obtain⟨z,c,h1,h⟩:=zAs h;obtain⟨s,w,rfl,g1,g2,g3,g4,g5,rfl⟩:=zIK hW h1;obtain⟨_,c,h2,h⟩:=zAs h;obtain⟨g6,rfl⟩:=zBF h2;obtain⟨d,c,h3,h⟩:=zAs h;obtain⟨g7,g8,rfl⟩:=zIr hW h3;obtain⟨_,c,h4,h⟩:=zAs h;obtain⟨g9,rfl⟩:=zBF h4;simp only[Except.ok.injEq,Prod.mk.injEq]at h;obtain⟨rfl,rfl⟩:=h;exact⟨s,w,d,rfl,g1,g2,g7,g3,g4,g5,g6,zAz g8 (by omega),zAl g9 (by omega),by omega⟩
theorem take_i{x y:Item}(h:zFw x T a= .ok (y,b)): ∃s e,y={x with name:=s,a:=e}/\zAN s=true/\zAB 8 e=true/\tkP T a 1 s/\tkP T (a+1) 1 (⟨#[105,102]⟩:ByteArray)/\At T (a+2) (zAA 8 e)/\b=a+2+nT (zAA 8 e):=by
 unfold zFw at h;obtain⟨s,c,h1,h⟩:=zAs h;obtain⟨g1,g2,rfl⟩:=zDi hW h1;obtain⟨_,c,h2,h⟩:=zAs h;obtain⟨g3,rfl⟩:=word_i h2;obtain⟨e,c,h3,h⟩:=zAs h;obtain⟨g4,g5,rfl⟩:=zEG hW h3;simp only[Except.ok.injEq,Prod.mk.injEq]at h;obtain⟨rfl,rfl⟩:=h;exact⟨s,e,rfl,g2,g4,g1,g3,g5,by omega⟩
def InvI(T:List Tok)(k:Nat)(a:Nat)(x:Item)(b:Nat):Prop:=
 zAW x=true/\(tkP T a 1 (kwL.getD (k-1) e0)->At T a (zAV x))/\b=a+nT (zAV x)
omit hW in
theorem zx0:zCE x0=true:=rfl
omit hW in
theorem zn0:zCW n0=true:=rfl
theorem in_i{x:Item}(k:Nat)(hk:k=1\/k=2)(h:zCc (zBg k) T (a+1)= .ok (x,b)):InvI T k a x b:=by
 obtain⟨s,w,rfl,g1,g2,g3,g4,g5,rfl⟩:=zIK hW h;rcases hk with rfl | rfl
 ·show InvI T _ a (⟨1,s,w,n0,n0,x0,x0,x0,r0,e0,[],[]⟩) _;have hp:zAV (⟨1,s,w,n0,n0,x0,x0,x0,r0,e0,[],[]⟩)=[nm (⟨#[105,110]⟩:ByteArray),bl,nm s]++([sg (⟨#[58]⟩:ByteArray),bl]++zAD w++([]++[])):=rfl;refine⟨?_,?_,?_⟩
  ·simp[zAW,zDm,zBB,zx0,zn0,g1,g2] <;> exact⟨hl,hm⟩
  ·rw[hp]; intro hk; simp only[AtW,waj,wai,wah,waf,and_true,true_and,Nat.zero_add,Nat.add_zero]; exact⟨hk,g3,g4,zAz g5 (by omega)⟩
  ·rw[hp]; simp only[AtW,waj,wai,wah,waf,and_true,true_and,Nat.zero_add,Nat.add_zero]; omega
 ·show InvI T _ a (⟨2,s,w,n0,n0,x0,x0,x0,r0,e0,[],[]⟩) _;have hp:zAV (⟨2,s,w,n0,n0,x0,x0,x0,r0,e0,[],[]⟩)=[nm (⟨#[111,117,116]⟩:ByteArray),bl,nm s]++([sg (⟨#[58]⟩:ByteArray),bl]++zAD w++([]++[])):=rfl;refine⟨?_,?_,?_⟩
  ·simp[zAW,zDm,zBB,zx0,zn0,g1,g2] <;> exact⟨hl,hm⟩
  ·rw[hp]; intro hk; simp only[AtW,waj,wai,wah,waf,and_true,true_and,Nat.zero_add,Nat.add_zero]; exact⟨hk,g3,g4,zAz g5 (by omega)⟩
  ·rw[hp]; simp only[AtW,waj,wai,wah,waf,and_true,true_and,Nat.zero_add,Nat.add_zero]; omega
theorem ch_i{x:Item}(h:zE0 (zBg 3) T (a+1)= .ok (x,b)):InvI T 3 a x b:=by
 obtain⟨s,w,d,rfl,g1,g2,g3,g4,g5,g6,g7,g8,g9,rfl⟩:=chan_i hW h;show InvI T _ a (⟨3,s,w,d,n0,x0,x0,x0,r0,e0,[],[]⟩) _;have hp:zAV (⟨3,s,w,d,n0,x0,x0,x0,r0,e0,[],[]⟩)=[nm (⟨#[99,104,97,110]⟩:ByteArray),bl,nm s]++([sg (⟨#[58]⟩:ByteArray),bl]++zAD w++([bl,sg (⟨#[91]⟩:ByteArray)]++(zAD d++[sg (⟨#[93]⟩:ByteArray)])++[])):=rfl;refine⟨?_,?_,?_⟩
 ·simp[zAW,zDm,zBB,zx0,zn0,g1,g2,g3] <;> exact⟨hl,hm⟩
 ·rw[hp]; intro hk; simp only[AtW,waj,wai,wah,waf,and_true,true_and,Nat.zero_add,Nat.add_zero]; exact⟨hk,g4,g5,zAz g6 (by omega),zAl g7 (by omega),zAz g8 (by omega),zAl g9 (by omega)⟩
 ·rw[hp]; simp only[AtW,waj,wai,wah,waf,and_true,true_and,Nat.zero_add,Nat.add_zero]; omega
theorem reg_i{x:Item}(h:regP (zBg 4) T (a+1)= .ok (x,b)):InvI T 4 a x b:=by
 unfold regP at h;obtain⟨z,c,h1,h⟩:=zAs h;obtain⟨s,w,rfl,g1,g2,g3,g4,g5,rfl⟩:=zIK hW h1;obtain⟨_,c,h2,h⟩:=zAs h;obtain⟨g6,rfl⟩:=zBF h2;obtain⟨d,c,h3,h⟩:=zAs h;obtain⟨g7,g8,rfl⟩:=zIr hW h3;obtain⟨_,c,h4,h⟩:=zAs h;obtain⟨g9,rfl⟩:=zBF h4;obtain⟨e,c,h5,h⟩:=zAs h;obtain⟨f1,f2,rfl⟩:=zEG hW h5;obtain⟨r,c,h6,h⟩:=zAs h;obtain⟨f3,f4,rfl⟩:=rule_i hW h6;simp only[Except.ok.injEq,Prod.mk.injEq]at h;obtain⟨rfl,rfl⟩:=h;show InvI T _ a (⟨4,s,w,n0,d,e,x0,x0,r,e0,[],[]⟩) _;have hp:zAV (⟨4,s,w,n0,d,e,x0,x0,r,e0,[],[]⟩)=[nm (⟨#[114,101,103]⟩:ByteArray),bl,nm s]++([sg (⟨#[58]⟩:ByteArray),bl]++zAD w++([]++([bl,sg (⟨#[61]⟩:ByteArray),bl]++(zAD d++([bl,sg (⟨#[45,62]⟩:ByteArray),bl]++(zAA 8 e++(bl::zBk r))))))):=rfl;refine⟨?_,?_,?_⟩
 ·simp[zAW,zDm,zBB,zx0,zn0,g1,g2,g7,f1,f3] <;> exact⟨hl,hm⟩
 ·rw[hp]; intro hk; simp only[AtW,waj,wai,wah,waf,and_true,true_and,Nat.zero_add,Nat.add_zero]; exact⟨hk,g3,g4,zAz g5 (by omega),zAl g6 (by omega),zAz g8 (by omega),zAl g9 (by omega),zAz f2 (by omega),zAz f4 (by omega)⟩
 ·rw[hp]; simp only[AtW,waj,wai,wah,waf,and_true,true_and,Nat.zero_add,Nat.add_zero]; omega
theorem wire_i{x:Item}(h:wireP (zBg 5) T (a+1)= .ok (x,b)):InvI T 5 a x b:=by
 unfold wireP at h;obtain⟨z,c,h1,h⟩:=zAs h;obtain⟨s,w,rfl,g1,g2,g3,g4,g5,rfl⟩:=zIK hW h1;obtain⟨_,c,h2,h⟩:=zAs h;obtain⟨g6,rfl⟩:=zBF h2;obtain⟨e,c,h5,h⟩:=zAs h;obtain⟨f1,f2,rfl⟩:=zEG hW h5;simp only[Except.ok.injEq,Prod.mk.injEq]at h;obtain⟨rfl,rfl⟩:=h;show InvI T _ a (⟨5,s,w,n0,n0,e,x0,x0,r0,e0,[],[]⟩) _;have hp:zAV (⟨5,s,w,n0,n0,e,x0,x0,r0,e0,[],[]⟩)=[nm (⟨#[119,105,114,101]⟩:ByteArray),bl,nm s]++([sg (⟨#[58]⟩:ByteArray),bl]++zAD w++([]++([bl,sg (⟨#[61]⟩:ByteArray),bl]++zAA 8 e))):=rfl;refine⟨?_,?_,?_⟩
 ·simp[zAW,zDm,zBB,zx0,zn0,g1,g2,f1] <;> exact⟨hl,hm⟩
 ·rw[hp]; intro hk; simp only[AtW,waj,wai,wah,waf,and_true,true_and,Nat.zero_add,Nat.add_zero]; exact⟨hk,g3,g4,zAz g5 (by omega),zAl g6 (by omega),zAz f2 (by omega)⟩
 ·rw[hp]; simp only[AtW,waj,wai,wah,waf,and_true,true_and,Nat.zero_add,Nat.add_zero]; omega
theorem mem_i{x:Item}(h:memP (zBg 6) T (a+1)= .ok (x,b)):InvI T 6 a x b:=by
 unfold memP at h;obtain⟨z,c,h1,h⟩:=zAs h;obtain⟨s,w,d,rfl,g1,g2,g3,g4,g5,g6,g7,g8,g9,rfl⟩:=chan_i hW h1;obtain⟨_,c,h2,h⟩:=zAs h;obtain⟨i1,rfl⟩:=word_i h2;obtain⟨e,c,h3,h⟩:=zAs h;obtain⟨f1,f2,rfl⟩:=zEG hW h3;obtain⟨_,c,h4,h⟩:=zAs h;obtain⟨i2,rfl⟩:=word_i h4;obtain⟨y,c,h5,h⟩:=zAs h;obtain⟨f3,f4,rfl⟩:=zEG hW h5;obtain⟨_,c,h6,h⟩:=zAs h;obtain⟨i3,rfl⟩:=zBF h6;obtain⟨u,c,h7,h⟩:=zAs h;obtain⟨f5,f6,rfl⟩:=zEG hW h7;obtain⟨r,c,h8,h⟩:=zAs h;obtain⟨f7,f8,rfl⟩:=rule_i hW h8;simp only[Except.ok.injEq,Prod.mk.injEq]at h;obtain⟨rfl,rfl⟩:=h;show InvI T _ a (⟨6,s,w,d,n0,e,y,u,r,e0,[],[]⟩) _;have hp:zAV (⟨6,s,w,d,n0,e,y,u,r,e0,[],[]⟩)=[nm (⟨#[109,101,109]⟩:ByteArray),bl,nm s]++([sg (⟨#[58]⟩:ByteArray),bl]++zAD w++([bl,sg (⟨#[91]⟩:ByteArray)]++(zAD d++[sg (⟨#[93]⟩:ByteArray)])++([bl,nm (⟨#[105,102]⟩:ByteArray),bl]++(zAA 8 e++([bl,nm (⟨#[97,116]⟩:ByteArray),bl]++(zAA 8 y++([bl,sg (⟨#[61]⟩:ByteArray),bl]++(zAA 8 u++(bl::zBk r))))))))):=rfl;refine⟨?_,?_,?_⟩
 ·simp[zAW,zDm,zBB,zx0,zn0,g1,g2,g3,f1,f3,f5,f7] <;> exact⟨hl,hm⟩
 ·rw[hp]; intro hk; simp only[AtW,waj,wai,wah,waf,and_true,true_and,Nat.zero_add,Nat.add_zero]; exact⟨hk,g4,g5,zAz g6 (by omega),zAl g7 (by omega),zAz g8 (by omega),zAl g9 (by omega),zAl i1 (by omega),zAz f2 (by omega),zAl i2 (by omega),zAz f4 (by omega),zAl i3 (by omega),zAz f6 (by omega),zAz f8 (by omega)⟩
 ·rw[hp]; simp only[AtW,waj,wai,wah,waf,and_true,true_and,Nat.zero_add,Nat.add_zero]; omega
theorem tk_i{x:Item}(h:zFw (zBg 7) T (a+1)= .ok (x,b)):InvI T 7 a x b:=by
 obtain⟨s,e,rfl,g1,g2,g3,g4,g5,rfl⟩:=take_i hW h;show InvI T _ a (⟨7,s,n0,n0,n0,e,x0,x0,r0,e0,[],[]⟩) _;have hp:zAV (⟨7,s,n0,n0,n0,e,x0,x0,r0,e0,[],[]⟩)=[nm (⟨#[116,97,107,101]⟩:ByteArray),bl,nm s]++([]++([]++([bl,nm (⟨#[105,102]⟩:ByteArray),bl]++zAA 8 e))):=rfl;refine⟨?_,?_,?_⟩
 ·simp[zAW,zDm,zBB,zx0,zn0,g1,g2] <;> exact⟨hl,hm⟩
 ·rw[hp]; intro hk; simp only[AtW,waj,wai,wah,waf,and_true,true_and,Nat.zero_add,Nat.add_zero]; exact⟨hk,g3,g4,zAz g5 (by omega)⟩
 ·rw[hp]; simp only[AtW,waj,wai,wah,waf,and_true,true_and,Nat.zero_add,Nat.add_zero]; omega
theorem put_i{x:Item}(h:putP (zBg 8) T (a+1)= .ok (x,b)):InvI T 8 a x b:=by
 unfold putP at h;obtain⟨z,c,h1,h⟩:=zAs h;obtain⟨s,e,rfl,g1,g2,g3,g4,g5,rfl⟩:=take_i hW h1;obtain⟨_,c,h2,h⟩:=zAs h;obtain⟨g6,rfl⟩:=zBF h2;obtain⟨y,c,h5,h⟩:=zAs h;obtain⟨f1,f2,rfl⟩:=zEG hW h5;simp only[Except.ok.injEq,Prod.mk.injEq]at h;obtain⟨rfl,rfl⟩:=h;show InvI T _ a (⟨8,s,n0,n0,n0,e,y,x0,r0,e0,[],[]⟩) _;have hp:zAV (⟨8,s,n0,n0,n0,e,y,x0,r0,e0,[],[]⟩)=[nm (⟨#[112,117,116]⟩:ByteArray),bl,nm s]++([]++([]++([bl,nm (⟨#[105,102]⟩:ByteArray),bl]++(zAA 8 e++([bl,sg (⟨#[61]⟩:ByteArray),bl]++zAA 8 y))))):=rfl;refine⟨?_,?_,?_⟩
 ·simp[zAW,zDm,zBB,zx0,zn0,g1,g2,f1] <;> exact⟨hl,hm⟩
 ·rw[hp]; intro hk; simp only[AtW,waj,wai,wah,waf,and_true,true_and,Nat.zero_add,Nat.add_zero]; exact⟨hk,g3,g4,zAz g5 (by omega),zAl g6 (by omega),zAz f2 (by omega)⟩
 ·rw[hp]; simp only[AtW,waj,wai,wah,waf,and_true,true_and,Nat.zero_add,Nat.add_zero]; omega
theorem inst_i{x:Item}(h:instP (zBg 9) T (a+1)= .ok (x,b)):InvI T 9 a x b:=by
 unfold instP at h;obtain⟨s,c,h1,h⟩:=zAs h;obtain⟨g1,g2,rfl⟩:=zDi hW h1;obtain⟨_,c,h2,h⟩:=zAs h;obtain⟨g3,rfl⟩:=zBF h2;obtain⟨o,c,h3,h⟩:=zAs h;obtain⟨g4,g5,rfl⟩:=zDi hW h3;obtain⟨l,c,h4,h⟩:=zAs h;obtain⟨f1,f2,rfl⟩:=list_i (fit:=zAX) (pc:=zAD) (fun _ _ _ h=>zIr hW h) h4;obtain⟨m,c,h5,h⟩:=zAs h;obtain⟨f3,f4,rfl⟩:=list_i (fit:=zCL) (pc:=zBz) (fun _ _ _ h=>bind_i hW h) h5;simp only[Except.ok.injEq,Prod.mk.injEq]at h;obtain⟨rfl,rfl⟩:=h;have hl:=List.all_eq_true.1 f1;have hm:=List.all_eq_true.1 f3;show InvI T _ a (⟨9,s,n0,n0,n0,x0,x0,x0,r0,o,l,m⟩) _;have hp:zAV (⟨9,s,n0,n0,n0,x0,x0,x0,r0,o,l,m⟩)=[nm (⟨#[105,110,115,116]⟩:ByteArray),bl,nm s]++([]++([]++([sg (⟨#[58]⟩:ByteArray),bl,nm o]++(zA5 zAD l++(bl::zA5 zBz m))))):=rfl;refine⟨?_,?_,?_⟩
 ·simp[zAW,zDm,zBB,zx0,zn0,g2,g5,hl,hm] <;> exact⟨hl,hm⟩
 ·rw[hp]; intro hk; simp only[AtW,waj,wai,wah,waf,and_true,true_and,Nat.zero_add,Nat.add_zero]; exact⟨hk,g1,g3,g4,zAz f2 (by omega),zAz f4 (by omega)⟩
 ·rw[hp]; simp only[AtW,waj,wai,wah,waf,and_true,true_and,Nat.zero_add,Nat.add_zero]; omega
theorem item_i{x:Item}(h:zDV T a= .ok (x,b)):zAW x=true/\At T a (zAV x++[sg (⟨#[59]⟩:ByteArray)])/\b=a+nT (zAV x)+1:=by
 unfold zDV at h;split at h
 ·cases h
 rename_i hk;have hk1:(tk T a).1 =1:=by
  by_cases e:(tk T a).1 =1
  ·exact e
  ·exact absurd e hk
 split at h
 ·rename_i k hl;obtain⟨y,c,h1,h⟩:=zAs h;obtain⟨_,d,h2,h⟩:=zAs h;obtain⟨g1,rfl⟩:=zBF h2;simp only[Except.ok.injEq,Prod.mk.injEq]at h;obtain⟨rfl,rfl⟩:=h;have hI:InvI T k a y c/\(tk T a).2.1 =kwL.getD (k-1) e0:=by
   have hm:=zEI hl;simp only[zIg,List.mem_cons,Prod.mk.injEq,wak,or_false]at hm;rcases hm with⟨hs,rfl⟩ | ⟨hs,rfl⟩ | ⟨hs,rfl⟩ | ⟨hs,rfl⟩ | ⟨hs,rfl⟩ | ⟨hs,rfl⟩ | ⟨hs,rfl⟩ | ⟨hs,rfl⟩ | ⟨hs,rfl⟩
   ·exact⟨in_i hW 1 (.inl rfl) h1,hs⟩
   ·exact⟨in_i hW 2 (.inr rfl) h1,hs⟩
   ·exact⟨ch_i hW h1,hs⟩
   ·exact⟨reg_i hW h1,hs⟩
   ·exact⟨wire_i hW h1,hs⟩
   ·exact⟨mem_i hW h1,hs⟩
   ·exact⟨tk_i hW h1,hs⟩
   ·exact⟨put_i hW h1,hs⟩
   ·exact⟨inst_i hW h1,hs⟩
  obtain⟨⟨i1,i2,rfl⟩,hs⟩:=hI;refine⟨i1,?_,rfl⟩;simp only[AtW,waj,wai,wah,waf,and_true,true_and,Nat.zero_add,Nat.add_zero];exact⟨i2 ⟨hk1,hs⟩,g1⟩
 ·cases h
theorem items_i: ∀(n:Nat) (acc:List Item) (a:Nat) (l:List Item) (b:Nat),zCN T n acc a= .ok (l,b)-> ∃r,l=acc++r/\r.all zAW=true/\At T a (zAJ r++[sg (⟨#[125]⟩:ByteArray)])/\b=a+nT (zAJ r)+1
 | 0,_,_,_,_,h=>by cases h
 | n+1,acc,a,l,b,h=>by
  unfold zCN at h;split at h
  ·rename_i g1;simp only[Except.ok.injEq,Prod.mk.injEq]at h;obtain⟨rfl,rfl⟩:=h;refine⟨[],by simp,rfl,?_,rfl⟩;simp only[zAJ,AtW,waj,wai,wah,waf,and_true,true_and,Nat.zero_add,Nat.add_zero];exact zGu g1
  ·obtain⟨x,c,h1,h⟩:=zAs h;obtain⟨f1,f2,rfl⟩:=item_i hW h1;obtain⟨r,rfl,r1,r2,rfl⟩:=items_i n _ _ _ _ h;refine⟨x::r,by simp,by rw[List.all_cons,f1,r1]; rfl,?_,?_⟩
   ·simp only[zAJ,AtW,waj,wai,wah,waf,and_true,true_and,Nat.zero_add,Nat.add_zero]at f2 r2 ⊢;exact⟨f2.1,zAl f2.2 (by omega),zAz r2.1 (by omega),zAl r2.2 (by omega)⟩
   ·simp only[zAJ,AtW,waj,wai,wah,waf,and_true,true_and,Nat.zero_add,Nat.add_zero]; omega
theorem module_i{x:Module}(h:zBC T a= .ok (x,b)):zAG x=true/\At T a (zAE x)/\b=a+nT (zAE x):=by
 unfold zBC at h;obtain⟨_,c,h1,h⟩:=zAs h;obtain⟨g1,rfl⟩:=word_i h1;obtain⟨s,c,h2,h⟩:=zAs h;obtain⟨g2,g3,rfl⟩:=zDi hW h2;obtain⟨l,c,h3,h⟩:=zAs h;obtain⟨f1,f2,rfl⟩:=list_i (fit:=zAN) (pc:=zBt) (fun _ _ _ h=>names_i hW h) h3;obtain⟨_,c,h4,h⟩:=zAs h;obtain⟨g4,rfl⟩:=zBF h4;obtain⟨k,c,h5,h⟩:=zAs h;obtain⟨g5,g6,rfl⟩:=zDi hW h5;obtain⟨_,c,h6,h⟩:=zAs h;obtain⟨g7,rfl⟩:=zBF h6;obtain⟨m,c,h7,h⟩:=zAs h;obtain⟨r,hr,f3,f4,rfl⟩:=items_i hW _ _ _ _ _ h7;rw[wai]at hr;subst hr;simp only[Except.ok.injEq,Prod.mk.injEq]at h;obtain⟨rfl,rfl⟩:=h;refine⟨by simp only[zAG,g3,f1,g6,f3]; rfl,?_,?_⟩
 ·simp only[zAE,zBQ,AtW,waj,wai,wah,waf,and_true,true_and,Nat.zero_add,Nat.add_zero]at f4 ⊢;exact⟨g1,g2,zAz f2 (by omega),zAl g4 (by omega),zAl g5 (by omega),zAl g7 (by omega),zAz f4.1 (by omega),zAl f4.2 (by omega)⟩
 ·simp only[zAE,zBQ,AtW,waj,wai,wah,waf,and_true,true_and,Nat.zero_add,Nat.add_zero]; omega
theorem file_i: ∀(n:Nat) (acc:List Module) (a:Nat) (l:List Module),zB4 T n acc a= .ok l-> ∃r,l=acc++r/\r.all zAG=true/\At T a (zAk r)/\(tk T (a+nT (zAk r))).1 =4
 | 0,_,_,_,h=>by cases h
 | n+1,acc,a,l,h=>by
  unfold zB4 at h;split at h
  ·rename_i g1;simp only[Except.ok.injEq]at h;subst h;exact⟨[],by simp,rfl,trivial,g1⟩
  ·split at h
   ·rename_i m b h1;obtain⟨f1,f2,rfl⟩:=module_i hW h1;obtain⟨r,rfl,r1,r2,r3⟩:=file_i n _ _ _ h;refine⟨m::r,by simp,by rw[List.all_cons,f1,r1]; rfl,?_,?_⟩
    ·simp only[zAk,AtW,waj,wai,wah,waf,and_true,true_and,Nat.zero_add,Nat.add_zero];exact⟨f2,r2⟩
    ·simp only[zAk,AtW,waj,wai,wah,waf,and_true,true_and,Nat.zero_add,Nat.add_zero];rw[<-Nat.add_assoc]; exact r3
   ·cases h
theorem parse_inv{l:List Module}(h:zDI T= .ok l):l.all zAG=true/\At T 0 (zAk l)/\(tk T (nT (zAk l))).1 =4:=by
 obtain⟨r,h1,h2,h3,h4⟩:=file_i hW _ _ _ _ h;rw[wai]at h1;subst h1;rw[Nat.zero_add]at h4;exact⟨h2,h3,h4⟩
end
def goodT(t:Tok):Prop:=(t.1=1\/t.1=2\/t.1=3)/\0<t.2.1.size/\(t.1=3\/(zAC t.2.1=t.1/\t.2.1.data.toList.all isW=true))
def tokB:List Tok->Nat
 | []=>0
 | t::r=>t.2.1.size+tokB r
theorem zHq: ∀(l m:List Tok),tokB (l++m)=tokB l+tokB m
 | [],m=>by simp[tokB]
 | t::l,m=>by simp only[waj,tokB,zHq l m]; omega
theorem stepL_word{l:List UInt8}{k q:Nat}(h:zCY l=some (k,some q)):q=3\/(l.take k=l.takeWhile isW/\q=zG3 (l.takeWhile isW)):=by
 unfold zCY at h;split at h
 ·cases h
 ·rename_i c r;split at h
  ·cases h
  split at h
  ·cases h
  split at h
  ·cases h;refine .inr ⟨?_,rfl⟩;exact(List.prefix_iff_eq_take.1 (List.takeWhile_prefix isW)).symm
  split at h
  ·cases h; exact .inl rfl
  split at h
  ·cases h; exact .inl rfl
  ·cases h
theorem zIl: ∀(n:Nat) (l:List UInt8) (a:Nat) (T0 T:List Tok),lxL n l a T0= .ok T->(∀t∈T0,goodT t)->
  ∃T1 e,T=T1++[(4,e0,e)]/\tokB T1<=tokB T0+l.length/\ ∀t∈T1,goodT t
 | 0,l,a,T0,T,h,h0=>by
  simp only[lxL,Except.ok.injEq]at h;subst h;exact⟨T0,a,rfl,by omega,h0⟩
 | n+1,l,a,T0,T,h,h0=>by
  unfold lxL at h;split at h
  ·simp only[Except.ok.injEq]at h;subst h;exact⟨T0,a,rfl,by omega,h0⟩
  ·split at h
   ·cases h
   ·rename_i k hst;have hk:=zC8 hst;obtain⟨T1,e,e1,e2,e3⟩:=zIl n (l.drop k) (a+k) T0 T h h0;exact⟨T1,e,e1,by rw[List.length_drop]at e2; omega,e3⟩
   ·rename_i k q hst;have hk:=zC8 hst;have hq:=zF4 hst;have hz:(⟨(l.take k).toArray⟩:ByteArray).size =k:=by
     show(l.take k).toArray.size =k;rw[List.size_toArray,List.length_take]; omega
    obtain⟨T1,e,e1,e2,e3⟩:=zIl n (l.drop k) (a+k) _ T h (fun t ht=>by
     rw[wag,List.mem_singleton]at ht;rcases ht with ht | rfl
     ·exact h0 t ht
     ·refine⟨hq,by show 0<(⟨(l.take k).toArray⟩:ByteArray).size; omega,?_⟩;rcases stepL_word hst with hw | ⟨hw,hw2⟩
      ·exact .inl hw
      ·refine .inr ⟨?_,?_⟩
       ·show zAC ⟨(l.take k).toArray⟩=q;rw[hw,hw2]; rfl
       ·show(l.take k).all isW=true;rw[hw]; exact List.all_takeWhile)
    refine⟨T1,e,e1,?_,e3⟩;rw[zHq,List.length_drop]at e2;simp only[tokB,hz]at e2;omega
theorem zFe{s:Bts}{T:List Tok}(h:zEW s= .ok T): ∃T1 e,T=T1++[(4,e0,e)]/\tokB T1<=s.size/\ ∀t∈T1,goodT t:=by
 unfold zEW at h;rw[zCO _ _ _ _ (Nat.zero_le _),List.drop_zero]at h;have hz:s.data.toList.length=s.size:=by rw[Array.length_toList]; rfl
 obtain⟨T1,e,h1,h2,h3⟩:=zIl _ _ _ _ _ h (by simp);rw[hz]at h2;simp only[tokB,Nat.zero_add]at h2;exact⟨T1,e,h1,h2,h3⟩
theorem tk_app{T1:List Tok}{e:Tok}(a:Nat):(a<T1.length/\tk (T1++[e]) a∈T1)\/(a=T1.length/\tk (T1++[e]) a=e)\/(T1.length<a/\tk (T1++[e]) a=(0,e0,0)):=by
 unfold tk;rcases Nat.lt_trichotomy a T1.length with h | h | h
 ·left;refine⟨h,?_⟩;rw[List.getD,List.getElem?_append_left h,List.getElem?_eq_getElem h];exact List.getElem_mem h
 ·right; left;subst h;refine⟨rfl,?_⟩;rw[List.getD,List.getElem?_append_right (wam _),Nat.sub_self];rfl
 ·right; right;refine⟨h,?_⟩;rw[List.getD,List.getElem?_eq_none (by rw[wab,List.length_singleton]; omega)];rfl
theorem good_wf{T1:List Tok}{e:Nat}(h: ∀t∈T1,goodT t):WfT (T1++[(4,e0,e)]):=by
 have key: ∀a q,(q=1\/q=2)->(tk (T1++[(4,e0,e)]) a).1 =q->zAC (tk (T1++[(4,e0,e)]) a).2.1 =q/\(tk (T1++[(4,e0,e)]) a).2.1.data.toList.all isW=true:=by
  intro a q hq hk;rcases tk_app (T1:=T1) (e:=(4,e0,e)) a with⟨_,h2⟩ | ⟨_,h2⟩ | ⟨_,h2⟩
  ·obtain⟨_,_,g⟩:=h _ h2;rcases g with g | ⟨g1,g2⟩
   ·omega
   ·exact⟨by rw[g1,hk],g2⟩
  ·rw[h2]at hk; simp only at hk; omega
  ·rw[h2]at hk; simp only at hk; omega
 exact⟨fun a=>key a 1 (.inl rfl),fun a=>key a 2 (.inr rfl)⟩
theorem zHZ{T T':List Tok}: ∀(p:List Pc) (a:Nat),At T a p->At T' a p-> ∀i,i<nT p->(tk T (a+i)).1 =(tk T' (a+i)).1 /\(tk T (a+i)).2.1 =(tk T' (a+i)).2.1
 | [],_,_,_,i,hi=>by simp[nT]at hi
 | x::r,a,h,h',i,hi=>by
  unfold At at h h';unfold nT at hi;by_cases hx:x.1=0
  ·rw[if_pos hx]at h h' hi;exact zHZ r a h h' i hi
  ·rw[if_neg hx]at h h' hi;obtain⟨h1,h2,h3⟩:=h;obtain⟨h1',h2',h3'⟩:=h';cases i with
   | zero=>exact⟨by rw[Nat.add_zero,h1,h1'],by rw[Nat.add_zero,h2,h2']⟩
   | succ i=>
    have:=zHZ r (a+1) h3 h3' i (by omega);rw[show a+(i+1)=a+1+i by omega];exact this
def nB:List Pc->Nat
 | []=>0
 | p::r=>if p.1=0 then p.2.size+nB r else nB r
def nW:List Pc->Nat
 | []=>0
 | p::r=>if p.1=0 then nW r else p.2.size+nW r
theorem pcB_size: ∀p:List Pc,(pcB p).size =nB p+nW p
 | []=>rfl
 | x::r=>by
  simp only[pcB,nB,nW,ByteArray.size_append,pcB_size r];split <;> omega
theorem zBs(p q:List Pc):nB (p++q)=nB p+nB q:=by
 induction p with
 | nil=>simp[nB]
 | cons x r ih=>simp only[waj,nB,ih]; split <;> omega
theorem zHY{T1:List Tok}{e:Tok}(he:e.1=4): ∀(p:List Pc) (a:Nat),At (T1++[e]) a p->a+nT p<=T1.length->nW p<=tokB (T1.drop a)
 | [],_,_,_=>Nat.zero_le _
 | x::r,a,h,hl=>by
  unfold At at h;unfold nT at hl;unfold nW;by_cases hx:x.1=0
  ·rw[if_pos hx]at h hl ⊢;exact zHY he r a h hl
  ·rw[if_neg hx]at h hl ⊢;obtain⟨h1,h2,h3⟩:=h;have ih:=zHY he r (a+1) h3 (by omega);have ha:a<T1.length:=by omega
   rw[List.drop_eq_getElem_cons ha];have ht:tk (T1++[e]) a=T1[a]:=by
    unfold tk;rw[List.getD,List.getElem?_append_left ha,List.getElem?_eq_getElem ha];rfl
   rw[ht]at h2;simp only[tokB,h2];omega
theorem zFm(r:List Pc):nB (bl::r)=1+nB r:=rfl
theorem zFn(r:List Pc):nB (nl::r)=1+nB r:=rfl
theorem zFq(s:Bts)(r:List Pc):nB (sg s::r)=nB r:=rfl
theorem zFo(s:Bts)(r:List Pc):nB (nm s::r)=nB r:=rfl
theorem zFp(n:Int)(r:List Pc):nB (nu n::r)=nB r:=rfl
theorem zC4:nB []=0:=rfl
def few(p:List Pc):Prop:=nB p<=2*nT p
theorem zFL(x:Num):few (zAD x):=by
 unfold few zAD
 (repeat' split) <;> (simp only[waj,wai,wah,zBs,zFm,zFn,zFq,zFo,zFp,zC4,zAI,zEK,zEL,zEO,zEM,zEN,zCT]at*; omega)
theorem few_op{pc:Expr->List Pc}(hr: ∀e,few (pc e))(e:Expr):few (zDn pc e):=by
 have h0:=hr (e.args.getD 0 x0);have h1:=hr (e.args.getD 1 x0);have h2:=hr (e.args.getD 2 x0);have hk:=zFL e.k;have hw:=zFL e.w;unfold few at h0 h1 h2 hk hw ⊢;unfold zDn
 (repeat' split) <;> (simp only[waj,wai,wah,zBs,zFm,zFn,zFq,zFo,zFp,zC4,zAI,zEK,zEL,zEO,zEM,zEN,zCT]at*; omega)
theorem zGC: ∀(d:Nat) (e:Expr),few (zAA d e)
 | 0,e=>by simp[few,zAA,nB,nT]
 | d+1,e=>few_op (zGC d) e
theorem few_rule(r:Rule):nB (zBk r)+1<=2*nT (zBk r):=by
 unfold zBk
 (repeat' split) <;> (simp only[waj,wai,wah,zBs,zFm,zFn,zFq,zFo,zFp,zC4,zAI,zEK,zEL,zEO,zEM,zEN,zCT]at*; omega)
theorem few_els{α:Type}{one:α->List Pc}(ho: ∀x,few (one x)): ∀l:List α,few (zBU one l)
 | []=>Nat.zero_le _
 | [x]=>ho x
 | x::y::r=>by
  have h1:=ho x;have h2:=few_els ho (y::r);unfold few at h1 h2 ⊢;unfold zBU;simp only[waj,wai,wah,zBs,zFm,zFn,zFq,zFo,zFp,zC4,zAI,zEK,zEL,zEO,zEM,zEN,zCT]at*; omega
theorem zIb{α:Type}{one:α->List Pc}(ho: ∀x,few (one x))(l:List α):few (zA5 one l):=by
 have h1:=few_els ho l;unfold few at h1 ⊢;unfold zA5;simp only[waj,wai,wah,zBs,zFm,zFn,zFq,zFo,zFp,zC4,zAI,zEK,zEL,zEO,zEM,zEN,zCT]at*; omega
theorem few_bind(b:Bind):few (zBz b):=by unfold few zBz; simp only[waj,wai,wah,zBs,zFm,zFn,zFq,zFo,zFp,zC4,zAI,zEK,zEL,zEO,zEM,zEN,zCT]at*; omega
theorem few_name(b:Bts):few (zBt b):=by unfold few zBt; simp only[waj,wai,wah,zBs,zFm,zFn,zFq,zFo,zFp,zC4,zAI,zEK,zEL,zEO,zEM,zEN,zCT]at*; omega
theorem few_item(x:Item):nB (zAV x)+1<=2*nT (zAV x):=by
 have h1:=zFL x.width;have h2:=zFL x.depth;have h3:=zFL x.init;have h4:=zGC 8 x.a;have h5:=zGC 8 x.b;have h6:=zGC 8 x.c;have h7:=few_rule x.rule;have h8:=zIb zFL x.args;have h9:=zIb few_bind x.ports;have b1:few (zDL x):=by
  unfold few zDL at*
  (repeat' split) <;> (simp only[waj,wai,wah,zBs,zFm,zFn,zFq,zFo,zFp,zC4,zAI,zEK,zEL,zEO,zEM,zEN,zCT]at*; omega)
 have b2:few (zDx x):=by
  unfold few zDx at*
  (repeat' split) <;> (simp only[waj,wai,wah,zBs,zFm,zFn,zFq,zFo,zFp,zC4,zAI,zEK,zEL,zEO,zEM,zEN,zCT]at*; omega)
 have b3:few (zB7 x):=by
  unfold few zB7 at*
  (repeat' split) <;> (simp only[waj,wai,wah,zBs,zFm,zFn,zFq,zFo,zFp,zC4,zAI,zEK,zEL,zEO,zEM,zEN,zCT]at*; omega)
 unfold few zAV at*;simp only[waj,wai,wah,zBs,zFm,zFn,zFq,zFo,zFp,zC4,zAI,zEK,zEL,zEO,zEM,zEN,zCT]at*; omega
theorem few_items: ∀l:List Item,few (zAJ l)
 | []=>Nat.zero_le _
 | x::r=>by
  have h1:=few_item x;have h2:=few_items r;unfold few at h2 ⊢;unfold zAJ;simp only[waj,wai,wah,zBs,zFm,zFn,zFq,zFo,zFp,zC4,zAI,zEK,zEL,zEO,zEM,zEN,zCT]at*; omega
theorem few_module(m:Module):few (zAE m):=by
 have h1:=few_items m.items;have h2:=zIb few_name m.params;unfold few at h1 h2 ⊢;unfold zAE zBQ;simp only[waj,wai,wah,zBs,zFm,zFn,zFq,zFo,zFp,zC4,zAI,zEK,zEL,zEO,zEM,zEN,zCT]at*; omega
theorem few_file: ∀l:List Module,few (zAk l)
 | []=>Nat.zero_le _
 | m::r=>by
  have h1:=few_module m;have h2:=few_file r;unfold few at h1 h2 ⊢;unfold zAk;simp only[waj,wai,wah,zBs,zFm,zFn,zFq,zFo,zFp,zC4,zAI,zEK,zEL,zEO,zEM,zEN,zCT]at*; omega
theorem zGG: ∀ {T:List Tok},(∀t∈T,goodT t)->T.length<=tokB T
 | [],_=>Nat.zero_le _
 | t::r,h=>by
  have h1:=zGG (T:=r) (fun u hu=>h u (by simp[hu]));have h2:=(h t (by simp)).2.1;simp only[wad,tokB]; omega
theorem tokens_law{s:Bts}{T:List Tok}{l:List Module}(hs:s.size<=2000)(hL:zEW s= .ok T)(hP:zDI T= .ok l):
  l.all zAG=true/\(pcB (zAk l)).size <=6000/\zEW (pcB (zAk l))= .ok (pcT 0 (zAk l))/\zDI (pcT 0 (zAk l))= .ok l/\
  T.length=(pcT 0 (zAk l)).length /\ ∀i,i<T.length->(tk T i).1 =(tk (pcT 0 (zAk l)) i).1 /\(tk T i).2.1 =(tk (pcT 0 (zAk l)) i).2.1 :=by
 obtain⟨T1,e,rfl,h1,h2⟩:=zFe hL;obtain⟨f1,f2,f3⟩:=parse_inv (good_wf h2) hP;have hn:nT (zAk l)=T1.length:=by
  rcases tk_app (T1:=T1) (e:=(4,e0,e)) (nT (zAk l))with⟨_,g⟩ | ⟨g,_⟩ | ⟨_,g⟩
  ·have:=(h2 _ g).1; omega
  ·exact g
  ·rw[g]at f3; cases f3
 have a1:=zGS (zAk l) 0;obtain⟨a2,a3⟩:=zDy (zAk l) 0;have hb:=zHY (T1:=T1) (e:=(4,e0,e)) rfl _ _ f2 (by omega);rw[List.drop_zero]at hb;have hf:=few_file l;have hg:=zGG h2;have hz:=pcB_size (zAk l);unfold few at hf;refine⟨f1,by omega,lex_pcs _ (zEf l f1),zFt l f1 a1 (by rw[a2]) a3,by rw[a3,wab,List.length_singleton,hn],fun i hi=> ?_⟩;rw[wab,List.length_singleton]at hi;by_cases hi2:i<nT (zAk l)
 ·have:=zHZ _ _ f2 a1 i hi2;simpa using this
 ·have:i=nT (zAk l):=by omega
  subst this;rw[a2,f3];refine⟨rfl,?_⟩;rcases tk_app (T1:=T1) (e:=(4,e0,e)) (nT (zAk l))with⟨g,_⟩ | ⟨_,g⟩ | ⟨g,_⟩
  ·omega
  ·rw[g]
  ·omega
set_option maxHeartbeats 4000000
def zFV(s:Bts):D:=.agg [zax (zAQ s).1,eI (zAQ s).2.1,eI (zAQ s).2.2]
theorem zC5(Z:GP)(hZ:Z.Ok)(s:Bts)(hs:s.size<=900000):
  FnL prog 22 [.d (.lit (.string s))] [(7777777,Z.o)] (fun V ol new=>V= .d (zFV s)/\ol=[(7777777,Z.o)]/\new=[]):=by
 have hp:=parse_g Z hZ s hs;refine FnL.srt (FnL.of_eH 1999 [] (own:=[]) chL [] zat func22 rfl call22 ntmps22 (zle rfl) results22 (zCw Z _ (by simp[AV.noRefs,AV.noRef])) (fun gs=> ?_));simp only[ZE,seval,KE,zHb.eq_1]at hp;simp only[ZE,seval,KE,GZ];refine EFn.gV [(7777777,7777777)] hp ?_ ?_
 ·simp only[ZE,seval,GZ]
 rintro V ol new ⟨rfl,rfl,rfl⟩;simp only[ZE,seval,KE,GZ];refine⟨[2,3,1999],[],?_⟩;simp only[ZE,seval,zAp.eq_1,zAp.eq_2,zAq.eq_1,zAq.eq_2,GZ,zAj.eq_def,ghK.eq_def,zAi.eq_def,hdH.eq_1,hdH.eq_2,kpH.eq_1,kpH.eq_2,hdl.eq_def,zpC.eq_def,zht,AV.core,zFV.eq_1,KE]
theorem tokens_g(Z:GP)(s:Bts)(h8:s.size<=8000)(T1:List Tok)(e:Nat)(hn:T1.length<=8000)(hL:zEW s= .ok (T1++[(4,e0,e)])):
  FnL prog 19 [.d (.lit (.string s))] [(7777777,Z.o)] (fun V ol new=>V= .d (zAc (T1++[(4,e0,e)]))/\ol=[(7777777,Z.o)]/\new=[]):=by
 have hl:=lex_g Z s (by omega);have hV:lexV s= .tup [.d (zAc (T1++[(4,e0,e)])),.d (eI 0),.d (eI 0)]:=by unfold lexV; rw[if_neg (by omega),hL]; rfl
 rw[hV]at hl;obtain⟨T,hT⟩:=zX (T1++[(4,e0,e)]);have hlen:T.length=T1.length+1:=by rw[<-hT]; simp
 have hg:(T.map eTok).getD T1.length []=[eI 4,eSb e0,eI e]:=by rw[<-hT]; simp[List.getD,eTok]; rfl
 rw[hT]at hl ⊢;refine FnL.srt (FnL.of_eH 1999 [] (own:=[]) chL [] zat func19 rfl call19 ntmps19 (zle rfl) results19 (zCw Z _ (by simp[AV.noRefs,AV.noRef])) (fun gs=> ?_));simp only[ZE,seval,KE,zAc.eq_1]at hl;simp only[ZE,seval,KE]at hg;simp only[ZE,seval,KE,GZ];refine EFn.gV [(7777777,7777777)] hl ?_ ?_
 ·simp only[ZE,seval,GZ]
 rintro V ol new ⟨rfl,rfl,rfl⟩;have f1:((T.length:Int)==0)=false:=beq_eq_false_iff_ne.2 (by omega);have f2:IntKind.i64.wrap ((T.length:Int)-1)=T1.length:=by rw[hlen,show((T1.length+1:Nat):Int)-1=T1.length by omega]; exact zaQ (by omega) (by omega)
 have f3:(0<=(T1.length:Int)/\(T1.length:Int)<(T.length:Int))=True:=by simp; omega
 simp only[ZE,seval,KE,↓zA7,↓zA8,↓zA9,zBN.eq_1,zBI.eq_1,f1,f2,f3,hg,wal,waa,GZ];refine⟨[1999],[],?_⟩;simp only[ZE,seval,zAp.eq_1,zAp.eq_2,zAq.eq_1,zAq.eq_2,GZ,zAj.eq_def,ghK.eq_def,zAi.eq_def,hdH.eq_1,hdH.eq_2,kpH.eq_1,kpH.eq_2,hdl.eq_def,zpC.eq_def,zht,AV.core,KE,zAc.eq_1]
theorem zHk(l:List Module)(n m:Int):FnP prog 21 [.agg [zax l,eI n,eI m],.agg [zax l,eI n,eI m]] (.d (eB true)) []:=by
 have hs:=same_r l;simp only[ZE,seval,KE]at hs;refine FnP.of_eC (own:=[]) chL zat func21 rfl call21 ntmps21 (zle rfl) results21 (fun hok=> ?_);simp only[ZE,seval,KE,↓zA7,↓zA8,↓zA9,zBN.eq_1,zBI.eq_1,bne_self_eq_false,beq_self_eq_true,decide_true];refine za3.i (fun _=>hs) ?_;simp only[ZE,seval,KE,↓zA7,↓zA8,↓zA9,zBN.eq_1,zBI.eq_1,bne_self_eq_false,beq_self_eq_true,decide_true]
theorem zHf(Z:GP)(hZ:Z.Ok)(l:List Module)(hl: ∀m∈l,modR itemR m)(hn:l.length<=1000000)(h:(zDF l l.length (e0,true)).1.size <=LIM):
  FnL prog 24 [.d (.agg [zax l])] [(7777777,Z.o)] (fun V ol new=>V= .d (.agg [eSb (zCl l).1,eI (zCl l).2])/\ol=[(7777777,Z.o)]/\new=[]):=by
 have hp:=print_w Z hZ l hl hn h;obtain⟨P,hP⟩:=zX (zCl l);rw[hP]at hp ⊢;refine FnL.srt (FnL.of_eH 1999 [] (own:=[]) chL [] zat func24 rfl call24 ntmps24 (zle rfl) results24 (zCw Z _ (by simp[AV.noRefs,AV.noRef])) (fun gs=> ?_));simp only[ZE,seval,KE]at hp;simp only[ZE,seval,KE,GZ];refine EFn.gV [(7777777,7777777)] hp ?_ ?_
 ·simp only[ZE,seval,GZ]
 rintro V ol new ⟨rfl,rfl,rfl⟩;simp only[ZE,seval,KE,GZ];refine⟨[1,2,1999],[],?_⟩;simp only[ZE,seval,zAp.eq_1,zAp.eq_2,zAq.eq_1,zAq.eq_2,GZ,zAj.eq_def,ghK.eq_def,zAi.eq_def,hdH.eq_1,hdH.eq_2,kpH.eq_1,kpH.eq_2,hdl.eq_def,zpC.eq_def,zht,AV.core,KE]
theorem zIt{x:Num}(h:zAX x=true)(hs:(pcB (zAD x)).size <=1000000):zHN x:=by
 obtain⟨n,p⟩:=x;unfold zAX at h;by_cases hp:p=e0
 ·rw[if_pos hp]at h;simp only[zCf,wan,decide_eq_true_eq]at h;refine⟨by simp only; omega,?_⟩;show p.size<=1000000;rw[hp]; exact Nat.zero_le _
 ·rw[if_neg hp]at h;simp only[wan,decide_eq_true_eq]at h;refine⟨by simp only; omega,?_⟩;unfold zAD at hs;rw[if_neg hp]at hs;show p.size<=1000000;split at hs
  ·simp only[pcB,nm,ByteArray.size_append]at hs; omega
  ·split at hs
   ·simp only[pcB,nm,ByteArray.size_append]at hs; omega
   ·simp only[pcB,nm,ByteArray.size_append]at hs; omega
theorem in64_0:(-9223372036854775808:Int)<=0/\(0:Int)<=9223372036854775807:=by decide
theorem rule_r{x:Rule}(h:zBZ x=true)(hs:(pcB (zBk x)).size <=1000000):ruleR x:=by
 obtain⟨k,f,n⟩:=x;unfold zBZ at h;simp only[wan,Bool.or_eq_true,decide_eq_true_eq]at h;obtain⟨⟨h1,h2⟩,h3⟩:=h;by_cases k0:k=0
 ·have hf:f=e0:=by rcases h1 with h | h; exact h; omega
  have hn:n=0:=by rcases h2 with h | h; exact h; omega
  subst hf hn;exact⟨in64_0,Nat.zero_le _⟩
 by_cases k1:k=1
 ·have hf:f=e0:=by rcases h1 with h | h; exact h; omega
  have hn:n=0:=by rcases h2 with h | h; exact h; omega
  subst hf hn;exact⟨in64_0,Nat.zero_le _⟩
 by_cases k2:k=2
 ·have hn:n=0:=by rcases h2 with h | h; exact h; omega
  subst hn k2;change (pcB [nm (⟨#[99,111,112,121]⟩:ByteArray),bl,nm f]).size <=_ at hs;simp only[pcB,nm,ByteArray.size_append]at hs;exact⟨in64_0,by show f.size<=1000000; omega⟩
 by_cases k3:k=3
 ·subst k3;rw[if_neg k0,if_neg k1,if_neg k2,if_pos rfl]at h3;simp only[zCf,wan,decide_eq_true_eq]at h3;change (pcB [nm (⟨#[97,100,100]⟩:ByteArray),bl,nm f,bl,nu n]).size <=_ at hs;simp only[pcB,nm,ByteArray.size_append]at hs;exact⟨by show-9223372036854775808<=n/\n<=9223372036854775807; omega,by show f.size<=1000000; omega⟩
 ·rw[if_neg k0,if_neg k1,if_neg k2,if_neg k3]at h3;exact absurd h3 (by decide)
set_option maxHeartbeats 1000000
theorem zFs:zHN n0:=⟨in64_0,Nat.zero_le _⟩
theorem zE3: ∀(d:Nat) (e:Expr),zAB d e=true->(pcB (zAA d e)).size <=1000000->zDp d e
 | 0,e,h,_=>by simp[zAB]at h
 | d+1,e,h,hs=>by
  simp only[zAB,wan,decide_eq_true_eq]at h;obtain⟨ha,hz,hf⟩:=h;obtain⟨z1,z2,z3⟩:=zeroX_eq hz;have ih:=zE3 d;change (pcB (zDn (zAA d) e)).size <=_ at hs;have key: ∀(l:List Expr),e.args=l->l.length<=3->(∀x∈l,zDp d x)->zHN e.k->zHN e.w->e.name.size<=1000000->zDp (d+1) e:=by
   intro l hl hn hx hk hw hnm;exact⟨⟨hk,hw,hnm,by rw[hl]; omega⟩,by rw[hl]; exact hx⟩
  have nm0:e.op≠14->e.op≠15->e.name.size<=1000000:=fun a b=>by rw[z1 a b]; exact Nat.zero_le _
  have k0:e.op≠1->e.op≠12->zHN e.k:=fun a b=>by rw[z2 a b]; exact zFs
  have w0:e.op≠1->e.op≠12->e.op≠13->zHN e.w:=fun a b c=>by rw[z3 a b c]; exact zFs
  unfold zCj at hf;unfold zDn at hs;by_cases h1:e.op=1
  ·rw[if_pos h1]at hf hs;simp only[wan]at hf;simp only[waj,wai,pcB,zAx,ByteArray.size_append]at hs;have hl:e.args=[]:=List.length_eq_zero_iff.1 (by rw[h1]at ha; exact Int.ofNat.inj ha);exact key [] hl (by decide) (by simp) (zIt hf.1 (by omega)) (zIt hf.2 (by omega)) (nm0 (by omega) (by omega))
  rw[if_neg h1]at hf hs;by_cases h2:e.op=14
  ·rw[if_pos h2]at hs;simp only[pcB,nm,ByteArray.size_append]at hs;have hl:e.args=[]:=List.length_eq_zero_iff.1 (by rw[h2]at ha; exact Int.ofNat.inj ha);exact key [] hl (by decide) (by simp) (k0 h1 (by omega)) (w0 h1 (by omega) (by omega)) (by omega)
  rw[if_neg h2]at hf hs;by_cases h3:e.op=15
  ·rw[if_pos h3]at hf hs;simp only[wan]at hf;simp only[waj,wai,pcB,zAx,nm,ByteArray.size_append]at hs;have hl:=len_1 (z:=x0) (l:=e.args) (by rw[h3]at ha; exact ha);refine key _ hl (by simp) (fun x hx=> ?_) (k0 h1 (by omega)) (w0 h1 (by omega) (by omega)) (by omega);rw[List.mem_singleton]at hx;subst hx;exact ih _ hf.2 (by omega)
  rw[if_neg h3]at hf hs;by_cases h4:e.op=2
  ·rw[if_pos h4]at hf hs;simp only[pcB,ByteArray.size_append]at hs;have hl:=len_1 (z:=x0) (l:=e.args) (by rw[h4]at ha; exact ha);refine key _ hl (by simp) (fun x hx=> ?_) (k0 h1 (by omega)) (w0 h1 (by omega) (by omega)) (nm0 h2 h3);rw[List.mem_singleton]at hx;subst hx;exact ih _ hf (by omega)
  rw[if_neg h4]at hf hs;by_cases h5:e.op=10
  ·rw[if_pos h5]at hf hs;simp only[wan]at hf;simp only[waj,wai,pcB,zAx,ByteArray.size_append]at hs;have hl:=len_3 (z:=x0) (l:=e.args) (by rw[h5]at ha; exact ha);refine key _ hl (by simp) (fun x hx=> ?_) (k0 h1 (by omega)) (w0 h1 (by omega) (by omega)) (nm0 h2 h3);simp only[List.mem_cons,wak,or_false]at hx;rcases hx with rfl | rfl | rfl
   ·exact ih _ hf.1 (by omega)
   ·exact ih _ hf.2.1 (by omega)
   ·exact ih _ hf.2.2 (by omega)
  rw[if_neg h5]at hf hs;by_cases h6:e.op=12
  ·rw[if_pos h6]at hf hs;simp only[wan]at hf;simp only[waj,wai,pcB,zAx,ByteArray.size_append]at hs;have hl:=len_1 (z:=x0) (l:=e.args) (by rw[h6]at ha; exact ha);refine key _ hl (by simp) (fun x hx=> ?_) (zIt hf.2.1 (by omega)) (zIt hf.2.2 (by omega)) (nm0 h2 h3);rw[List.mem_singleton]at hx;subst hx;exact ih _ hf.1 (by omega)
  rw[if_neg h6]at hf hs;by_cases h7:e.op=13
  ·rw[if_pos h7]at hf hs;simp only[wan]at hf;simp only[waj,wai,pcB,zAx,ByteArray.size_append]at hs;have hl:=len_1 (z:=x0) (l:=e.args) (by rw[h7]at ha; exact ha);refine key _ hl (by simp) (fun x hx=> ?_) (k0 h1 h6) (zIt hf.2 (by omega)) (nm0 h2 h3);rw[List.mem_singleton]at hx;subst hx;exact ih _ hf.1 (by omega)
  rw[if_neg h7]at hf hs;simp only[wan]at hf;simp only[waj,wai,pcB,zAx,ByteArray.size_append]at hs;have hsg:=zHB ha h1 h2 h3 h4 h5 h6 h7;have ha2:(e.args.length:Int)=2:=by
   rw[ha]; unfold zBi;rw[if_neg (by omega),if_neg (by omega),if_neg h5,if_pos hsg]
  have hl:=len_2 (z:=x0) (l:=e.args) ha2;refine key _ hl (by simp) (fun x hx=> ?_) (k0 h1 h6) (w0 h1 h6 h7) (nm0 h2 h3);simp only[List.mem_cons,wak,or_false]at hx;rcases hx with rfl | rfl
  ·exact ih _ hf.1 (by omega)
  ·exact ih _ hf.2 (by omega)
theorem exprR_0: ∀d,zDp d x0
 | 0=>⟨zFs,zFs,Nat.zero_le _,Nat.zero_le _⟩
 | d+1=>⟨⟨zFs,zFs,Nat.zero_le _,Nat.zero_le _⟩,fun x hx=>by simp[x0,Expr.args]at hx⟩
theorem ruleR_0:ruleR r0:=⟨in64_0,Nat.zero_le _⟩
theorem els_mem{α:Type}(pc:α->List Pc): ∀(l:List α) (x:α),x∈l->(pcB (pc x)).size <=(pcB (zBU pc l)).size
 | [],x,h=>by cases h
 | [y],x,h=>by
  rw[List.mem_singleton]at h;subst h;exact wam _
 | y::z::r,x,h=>by
  have ih:=els_mem pc (z::r) x;unfold zBU;simp only[pcB,zAx,ByteArray.size_append];rcases List.mem_cons.1 h with rfl | h
  ·omega
  ·have:=ih h; omega
theorem zIj{α:Type}(pc:α->List Pc)(l:List α)(x:α)(h:x∈l):(pcB (pc x)).size <=(pcB (zA5 pc l)).size :=by
 have:=els_mem pc l x h;unfold zA5;simp only[pcB,zAx,ByteArray.size_append];omega
theorem els_len{α:Type}(pc:α->List Pc): ∀(l:List α),l.length<=(pcB (zBU pc l)).size +1
 | []=>Nat.zero_le _
 | [y]=>by simp
 | y::z::r=>by
  have ih:=els_len pc (z::r);unfold zBU;have e1:(sg (⟨#[44]⟩:ByteArray)).2.size =1:=rfl;simp only[pcB,zAx,ByteArray.size_append,wad,e1]at ih ⊢;omega
theorem zIi{α:Type}(pc:α->List Pc)(l:List α):l.length<=(pcB (zA5 pc l)).size :=by
 have:=els_len pc l;have e1:(sg (⟨#[40]⟩:ByteArray)).2.size =1:=rfl;unfold zA5;simp only[pcB,zAx,ByteArray.size_append,e1];omega
theorem item_r{x:Item}(h:zAW x=true)(hs:(pcB (zAV x)).size <=1000000):itemR x:=by
 simp only[zAW,wan,decide_eq_true_eq]at h;obtain⟨⟨hk1,hk2⟩,hz,hn,hw,hd,hb⟩:=h;obtain⟨z1,z2,z3,z4,z5,z6,z7,z8⟩:=zeroI_eq hz;simp only[zAV,waj,wai,pcB,zAx,nm,ByteArray.size_append]at hs;have hW:(pcB (zDL x)).size <=1000000:=by omega
 have hD:(pcB (zDx x)).size <=1000000:=by omega
 have hB:(pcB (zB7 x)).size <=1000000:=by omega
 have rw':zHN x.width:=by
  by_cases c:x.kind<=6
  ·rw[if_pos c]at hw;unfold zDL at hW;rw[if_pos c]at hW;simp only[waj,wai,pcB,zAx,ByteArray.size_append]at hW;exact zIt hw (by omega)
  ·rw[z1 (by omega)]; exact zFs
 have rd':zHN x.depth:=by
  by_cases c:x.kind=3\/x.kind=6
  ·rw[if_pos c]at hd;unfold zDx at hD;rw[if_pos c]at hD;simp only[waj,wai,pcB,zAx,ByteArray.size_append]at hD;exact zIt hd (by omega)
  ·rw[z2 (by omega) (by omega)]; exact zFs
 have base:zHN x.init->zDp 8 x.a->zDp 8 x.b->zDp 8 x.c->ruleR x.rule->x.of.size<=1000000->((∀y∈x.args,zHN y)/\x.args.length<=1000000)->((∀y∈x.ports,bindR y)/\x.ports.length<=1000000)->itemR x:=
  fun i a b c r o l p=>⟨⟨by omega,by omega⟩,by omega,rw',rd',i,a,b,c,r,o,l,p⟩
 have i0:x.kind≠4->zHN x.init:=fun k=>by rw[z3 k]; exact zFs
 have a0:x.kind<4\/x.kind=9->zDp 8 x.a:=fun k=>by rw[z4 k]; exact exprR_0 8
 have b0':x.kind≠6->x.kind≠8->zDp 8 x.b:=fun k k'=>by rw[z5 k k']; exact exprR_0 8
 have c0:x.kind≠6->zDp 8 x.c:=fun k=>by rw[z6 k]; exact exprR_0 8
 have r0':x.kind≠4->x.kind≠6->ruleR x.rule:=fun k k'=>by rw[z7 k k']; exact ruleR_0
 have o0:x.kind≠9->x.of.size<=1000000:=fun k=>by rw[(z8 k).1]; exact Nat.zero_le _
 have l0:x.kind≠9->((∀y∈x.args,zHN y)/\x.args.length<=1000000):=fun k=>by rw[(z8 k).2.1]; exact⟨by simp,by simp⟩
 have p0:x.kind≠9->((∀y∈x.ports,bindR y)/\x.ports.length<=1000000):=fun k=>by rw[(z8 k).2.2]; exact⟨by simp,by simp⟩
 unfold zBB at hb;unfold zB7 at hB;by_cases k4:x.kind=4
 ·rw[if_pos k4]at hb hB
  try simp only[wan]at hb
  simp only[waj,wai,pcB,zAx,nm,ByteArray.size_append]at hB;exact base (zIt hb.1 (by omega)) (zE3 8 _ hb.2.1 (by omega)) (b0' (by omega) (by omega)) (c0 (by omega)) (rule_r hb.2.2 (by omega)) (o0 (by omega)) (l0 (by omega)) (p0 (by omega))
 rw[if_neg k4]at hb hB;by_cases k5:x.kind=5
 ·rw[if_pos k5]at hb hB
  try simp only[wan]at hb
  simp only[waj,wai,pcB,zAx,nm,ByteArray.size_append]at hB;exact base (i0 (by omega)) (zE3 8 _ hb (by omega)) (b0' (by omega) (by omega)) (c0 (by omega)) (r0' (by omega) (by omega)) (o0 (by omega)) (l0 (by omega)) (p0 (by omega))
 rw[if_neg k5]at hb hB;by_cases k6:x.kind=6
 ·rw[if_pos k6]at hb hB
  try simp only[wan]at hb
  simp only[waj,wai,pcB,zAx,nm,ByteArray.size_append]at hB;exact base (i0 (by omega)) (zE3 8 _ hb.1 (by omega)) (zE3 8 _ hb.2.1 (by omega)) (zE3 8 _ hb.2.2.1 (by omega)) (rule_r hb.2.2.2 (by omega)) (o0 (by omega)) (l0 (by omega)) (p0 (by omega))
 rw[if_neg k6]at hb hB;by_cases k7:x.kind=7
 ·rw[if_pos k7]at hb hB
  try simp only[wan]at hb
  simp only[waj,wai,pcB,zAx,nm,ByteArray.size_append]at hB;exact base (i0 (by omega)) (zE3 8 _ hb (by omega)) (b0' (by omega) (by omega)) (c0 (by omega)) (r0' (by omega) (by omega)) (o0 (by omega)) (l0 (by omega)) (p0 (by omega))
 rw[if_neg k7]at hb hB;by_cases k8:x.kind=8
 ·rw[if_pos k8]at hb hB
  try simp only[wan]at hb
  simp only[waj,wai,pcB,zAx,nm,ByteArray.size_append]at hB;exact base (i0 (by omega)) (zE3 8 _ hb.1 (by omega)) (zE3 8 _ hb.2 (by omega)) (c0 (by omega)) (r0' (by omega) (by omega)) (o0 (by omega)) (l0 (by omega)) (p0 (by omega))
 rw[if_neg k8]at hb hB;by_cases k9:x.kind=9
 ·rw[if_pos k9]at hb hB;simp only[wan]at hb;simp only[waj,wai,pcB,zAx,nm,ByteArray.size_append]at hB;have ll:=zIi zAD x.args;have lp:=zIi zBz x.ports;refine base (i0 (by omega)) (a0 (by omega)) (b0' (by omega) (by omega)) (c0 (by omega)) (r0' (by omega) (by omega)) (by omega) ⟨fun y hy=> ?_,by omega⟩ ⟨fun y hy=> ?_,by omega⟩
  ·have:=zIj zAD x.args y hy;exact zIt (List.all_eq_true.1 hb.2.1 y hy) (by omega)
  ·have:=zIj zBz x.ports y hy;simp only[zBz,pcB,nm,ByteArray.size_append]at this;exact⟨by omega,by omega⟩
 exact base (i0 k4) (a0 (by omega)) (b0' k6 k8) (c0 k6) (r0' k4 k6) (o0 k9) (l0 k9) (p0 k9)
theorem items_mem: ∀(l:List Item),l.length<=(pcB (zAJ l)).size /\ ∀x∈l,(pcB (zAV x)).size <=(pcB (zAJ l)).size
 | []=>⟨Nat.zero_le _,fun x hx=>by cases hx⟩
 | y::r=>by
  obtain⟨h1,h2⟩:=items_mem r;have e1:bl.2.size=1:=rfl;unfold zAJ;simp only[waj,wai,pcB,zAx,ByteArray.size_append,wad,e1];refine⟨by omega,fun x hx=> ?_⟩;rcases List.mem_cons.1 hx with rfl | hx
  ·omega
  ·have:=h2 x hx; omega
theorem module_r{m:Module}(h:zAG m=true)(hs:(pcB (zAE m)).size <=1000000):modR itemR m:=by
 simp only[zAG,wan]at h;obtain⟨_,_,_,h4⟩:=h;have hp:=zIj zBt m.params;have hpl:=zIi zBt m.params;obtain⟨hi,hj⟩:=items_mem m.items;simp only[zAE,zBQ,waj,wai,pcB,zAx,nm,ByteArray.size_append]at hs;refine⟨by omega,by omega,⟨fun s hs'=> ?_,by omega⟩,⟨fun x hx=> ?_,by omega⟩⟩
 ·have:=hp s hs';simp only[zBt,pcB,nm,ByteArray.size_append]at this;omega
 ·have:=hj x hx;exact item_r (List.all_eq_true.1 h4 x hx) (by omega)
theorem file_mem: ∀(l:List Module),l.length<=(pcB (zAk l)).size /\ ∀x∈l,(pcB (zAE x)).size <=(pcB (zAk l)).size
 | []=>⟨Nat.zero_le _,fun x hx=>by cases hx⟩
 | y::r=>by
  obtain⟨h1,h2⟩:=file_mem r;have e1:bl.2.size=1:=rfl;have e2:1<=(pcB (zAE y)).size :=by
   simp only[zAE,zBQ,waj,wai,pcB,zAx,ByteArray.size_append,e1];omega
  unfold zAk;simp only[zAx,ByteArray.size_append,wad];refine⟨by omega,fun x hx=> ?_⟩;rcases List.mem_cons.1 hx with rfl | hx
  ·omega
  ·have:=h2 x hx; omega
theorem file_r{l:List Module}(h:l.all zAG=true)(hs:(pcB (zAk l)).size <=1000000):(∀m∈l,modR itemR m)/\l.length<=1000000/\(zDF l l.length (e0,true)).1.size <=LIM:=by
 obtain⟨h1,h2⟩:=file_mem l;refine⟨fun m hm=> ?_,by omega,?_⟩
 ·have:=h2 m hm;exact module_r (List.all_eq_true.1 h m hm) (by omega)
 ·have hw:=(wl_mods l l.length (wam _)).ok (by rw[List.take_length]; exact h) e0;rw[List.take_length]at hw;rw[hw];show(e0++pcB (zAk l)).size <=LIM;rw[ByteArray.size_append];have:e0.size=0:=rfl;unfold LIM;omega
set_option maxRecDepth 1000000
def exF:List Module:=[⟨(⟨#[109]⟩:ByteArray),(⟨#[99]⟩:ByteArray),[],[{zBg 1 with name:=(⟨#[97]⟩:ByteArray),width:=⟨3,e0⟩}]⟩]
theorem ex_1:zAQ (⟨#[109,111,100,117,108,101,32,109,40,41,32,64,32,99,32,123,32,105,110,32,97,32,58,32,51,32,59,32,125]⟩:ByteArray)=(exF,0,0):=by kernel_rfl
theorem ex_2:zAQ (⟨#[109,111,100,117,108,101,32,105,102]⟩:ByteArray)=([],7,90):=by kernel_rfl
theorem ex_3:zAQ (⟨#[]⟩:ByteArray)=([],0,0):=by kernel_rfl
theorem ex_4:zAQ (⟨#[109,111,100,117,108,101,32,109,40,41,32,64,32,99,32,123]⟩:ByteArray)=([],16,90):=by kernel_rfl
theorem ex_5:zAQ (⟨#[109,111,100,117,108,101,32,109,40,41,32,64,32,99,32,123,32,105,110,32,97,58,32,119,32,45,32,48,59,32,125]⟩:ByteArray)=([],27,90):=by kernel_rfl
theorem ex_6:zCl exF=((⟨#[109,111,100,117,108,101,32,109,40,41,32,64,32,99,32,123,10,32,32,105,110,32,97,58,32,51,59,10,125,10]⟩:ByteArray),0):=by kernel_rfl
theorem ex_7:zCl [⟨(⟨#[109]⟩:ByteArray),e0,[],[]⟩]=(e0,90):=by kernel_rfl
set_option maxRecDepth 100000
set_option maxHeartbeats 4000000
theorem pra_free(Z:GP)(l:List Module):(zyk 1999 [(40,AO.arr 46 4 .flat (l.map zaC)),(7777777,Z.o)]/\AV.noRefs [1999] [AV.agg [.ar 40 l.length]])/\zCV (om [(40,AO.arr 46 4 .flat (l.map zaC)),(7777777,Z.o)]) []/\AV.noRefs [1999] []:=by
 simp[GZ,zyk,AO.noRef,AV.noRefs,AV.noRef,zCV]
theorem printed_a(Z:GP)(hZ:Z.Ok)(l:List Module)(hl: ∀m∈l,modR itemR m)(hn:l.length<=1000000)(h:(zDF l l.length (e0,true)).1.size <=LIM):
  FnL prog 24 [.agg [.ar 40 l.length]] [(40,.arr 46 4 .flat (l.map zaC)),(7777777,Z.o)] (fun V ol new=>V= .d (.agg [eSb (zCl l).1,eI (zCl l).2])/\ol=[(7777777,Z.o)]/\new=[]):=by
 have hp:=print_w Z hZ l hl hn h;obtain⟨P,hP⟩:=zX (zCl l);rw[hP]at hp ⊢;refine FnL.srt (FnL.of_eH 1999 [] (own:=[]) (fun i=>if i=0 then [.frz 40]else chL i) [] zat func24 rfl call24 ntmps24 (zle rfl) results24 (pra_free Z l) (fun gs=> ?_));simp only[ZE,seval,KE]at hp;simp only[ZE,seval,KE,GZ];refine EFn.gV [(7777777,7777777)] hp ?_ ?_
 ·simp only[ZE,seval,GZ]
 rintro V ol new ⟨rfl,rfl,rfl⟩;simp only[ZE,seval,KE,GZ];refine⟨[1,2,1999],[],?_⟩;simp only[ZE,seval,zAp.eq_1,zAp.eq_2,zAq.eq_1,zAq.eq_2,GZ,zAj.eq_def,ghK.eq_def,zAi.eq_def,hdH.eq_1,hdH.eq_2,kpH.eq_1,kpH.eq_2,hdl.eq_def,zpC.eq_def,zht,AV.core,KE]
theorem zHD(Z:GP)(hZ:Z.Ok):FnL prog 15 [] [(7777777,Z.o)] (fun V ol new=>V= .d (eB true)/\ol=[(7777777,Z.o)]/\new=[]):=by
 have p1:=zC5 Z hZ (⟨#[109,111,100,117,108,101,32,109,40,41,32,64,32,99,32,123,32,105,110,32,97,32,58,32,51,32,59,32,125]⟩:ByteArray) (by decide);have p2:=zC5 Z hZ (⟨#[109,111,100,117,108,101,32,105,102]⟩:ByteArray) (by decide);have p3:=zC5 Z hZ (⟨#[]⟩:ByteArray) (by decide);have p4:=zC5 Z hZ (⟨#[109,111,100,117,108,101,32,109,40,41,32,64,32,99,32,123]⟩:ByteArray) (by decide);have p5:=zC5 Z hZ (⟨#[109,111,100,117,108,101,32,109,40,41,32,64,32,99,32,123,32,105,110,32,97,58,32,119,32,45,32,48,59,32,125]⟩:ByteArray) (by decide);unfold zFV at p1 p2 p3 p4 p5;rw[ex_1]at p1;rw[ex_2]at p2;rw[ex_3]at p3;rw[ex_4]at p4;rw[ex_5]at p5;have fE:=file_r (l:=exF) (by kernel_rfl) (of_decide_eq_true (by kernel_rfl));have p6:=zHf Z hZ exF fE.1 fE.2.1 fE.2.2;have p7:=printed_a Z hZ [⟨(⟨#[109]⟩:ByteArray),e0,[],[]⟩] (fun m hm=>by rw[List.mem_singleton]at hm; subst hm; exact⟨by decide,by decide,⟨by simp,by decide⟩,⟨by simp,by decide⟩⟩) (by decide) (of_decide_eq_true (by kernel_rfl));rw[ex_6]at p6;rw[ex_7]at p7;have s1:=zHk exF 0 0;have s2:=zHk [] 7 90;have s3:=zHk [] 0 0;have s4:=zHk [] 16 90;have s5:=zHk [] 27 90;simp only[ZE,seval,KE,exF,zBg,zBJ,zEV,zCb,x0_k,x0_w,zCa,n0,r0,e0E,wae,wac]at p1;simp only[ZE,seval,KE,exF,zBg,zBJ,zEV,zCb,x0_k,x0_w,zCa,n0,r0,e0E,wae,wac]at s1;simp only[ZE,seval,KE,exF,zBg,zBJ,zEV,zCb,x0_k,x0_w,zCa,n0,r0,e0E,wae,wac]at p6;simp only[ZE,seval,KE,exF,zBg,zBJ,zEV,zCb,x0_k,x0_w,zCa,n0,r0,e0E,wae,wac]at p7;simp only[ZE,seval,KE,exF,zBg,zBJ,zEV,zCb,x0_k,x0_w,zCa,n0,r0,e0E,wae,wac]at p2;simp only[ZE,seval,KE,exF,zBg,zBJ,zEV,zCb,x0_k,x0_w,zCa,n0,r0,e0E,wae,wac]at p3;simp only[ZE,seval,KE,exF,zBg,zBJ,zEV,zCb,x0_k,x0_w,zCa,n0,r0,e0E,wae,wac]at p4;simp only[ZE,seval,KE,exF,zBg,zBJ,zEV,zCb,x0_k,x0_w,zCa,n0,r0,e0E,wae,wac]at p5;simp only[ZE,seval,KE,exF,zBg,zBJ,zEV,zCb,x0_k,x0_w,zCa,n0,r0,e0E,wae,wac]at s2;simp only[ZE,seval,KE,exF,zBg,zBJ,zEV,zCb,x0_k,x0_w,zCa,n0,r0,e0E,wae,wac]at s3;simp only[ZE,seval,KE,exF,zBg,zBJ,zEV,zCb,x0_k,x0_w,zCa,n0,r0,e0E,wae,wac]at s4;simp only[ZE,seval,KE,exF,zBg,zBJ,zEV,zCb,x0_k,x0_w,zCa,n0,r0,e0E,wae,wac]at s5;refine FnL.srt (FnL.of_eH 1999 [] (own:=[]) (fun i=>if i=2003 then [.flt ⟨[(1,none),(2,none),(0,some [1,2]),(3,none),(4,none),(5,none),(6,none),(8,none),(9,none),(7,some [8,9]),(10,none),(11,none),(12,none),(14,none),(13,some [14]),(15,none),(16,none),(17,none),(18,none),(20,none),(19,some [20]),(21,none),(22,none),(23,none),(24,none),(26,none),(25,some [26]),(27,none),(28,none),(29,none)]⟩ ⟨[],[]⟩]else if i=1 then [.frz 7]else []) [] zat func15 rfl call15 ntmps15 (zle rfl) results15 (zCw Z _ (by simp[AV.noRefs,AV.noRef])) (fun gs=> ?_));simp only[ZE,seval,KE,GZ];refine⟨by kernel_rfl,?_⟩;refine EFn.gV [(7777777,7777777)] p1 ?_ ?_
 ·simp only[ZE,seval,GZ]
 rintro V ol new ⟨rfl,rfl,rfl⟩;simp only[ZE,seval,KE,GZ];refine zaz.i s1 ?_;simp only[ZE,seval,KE,GZ,bne_self_eq_false,beq_self_eq_true,decide_true,Bool.not_true,Bool.not_false,waa];refine EFn.gV [(7777777,7777777)] p6 ?_ ?_
 ·simp only[ZE,seval,GZ]
 rintro V ol new ⟨rfl,rfl,rfl⟩;simp only[ZE,seval,KE,GZ,bne_self_eq_false,beq_self_eq_true,decide_true,Bool.not_true,Bool.not_false,waa];refine EFn.gV [(7777777,7777777)] p2 ?_ ?_
 ·simp only[ZE,seval,GZ]
 rintro V ol new ⟨rfl,rfl,rfl⟩;simp only[ZE,seval,KE,GZ,bne_self_eq_false,beq_self_eq_true,decide_true,Bool.not_true,Bool.not_false,waa];refine zaz.i s2 ?_;simp only[ZE,seval,KE,GZ,bne_self_eq_false,beq_self_eq_true,decide_true,Bool.not_true,Bool.not_false,waa];refine EFn.gV [(7777777,7777777)] p3 ?_ ?_
 ·simp only[ZE,seval,GZ]
 rintro V ol new ⟨rfl,rfl,rfl⟩;simp only[ZE,seval,KE,GZ,bne_self_eq_false,beq_self_eq_true,decide_true,Bool.not_true,Bool.not_false,waa];refine zaz.i s3 ?_;simp only[ZE,seval,KE,GZ,bne_self_eq_false,beq_self_eq_true,decide_true,Bool.not_true,Bool.not_false,waa];refine EFn.gV [(7777777,7777777)] p4 ?_ ?_
 ·simp only[ZE,seval,GZ]
 rintro V ol new ⟨rfl,rfl,rfl⟩;simp only[ZE,seval,KE,GZ,bne_self_eq_false,beq_self_eq_true,decide_true,Bool.not_true,Bool.not_false,waa];refine zaz.i s4 ?_;simp only[ZE,seval,KE,GZ,bne_self_eq_false,beq_self_eq_true,decide_true,Bool.not_true,Bool.not_false,waa];refine EFn.gV [(40,40),(7777777,7777777)] p7 ?_ ?_
 ·simp only[ZE,seval,KE,GZ]
 rintro V ol new ⟨rfl,rfl,rfl⟩;simp only[ZE,seval,KE,GZ,bne_self_eq_false,beq_self_eq_true,decide_true,Bool.not_true,Bool.not_false,waa];refine EFn.gV [(7777777,7777777)] p5 ?_ ?_
 ·simp only[ZE,seval,GZ]
 rintro V ol new ⟨rfl,rfl,rfl⟩;simp only[ZE,seval,KE,GZ,bne_self_eq_false,beq_self_eq_true,decide_true,Bool.not_true,Bool.not_false,waa];refine EFn.p ?_;simp only[ZE,seval,KE,GZ];refine zar.i (s5) ?_;simp only[ZE,seval,KE,GZ,bne_self_eq_false,beq_self_eq_true,decide_true,Bool.not_true,Bool.not_false,waa];refine⟨[1,1999],[],?_⟩;simp only[ZE,seval,zAp.eq_1,zAp.eq_2,zAq.eq_1,zAq.eq_2,GZ,zAj.eq_def,ghK.eq_def,zAi.eq_def,hdH.eq_1,hdH.eq_2,kpH.eq_1,kpH.eq_2,hdl.eq_def,zpC.eq_def,zht,AV.core,KE]
theorem lxL_at: ∀(n:Nat) (l:List UInt8) (a z:Nat) (T0:List Tok),a+l.length<=z->(∀t∈T0,t.2.2<=z)->
  (∀T,lxL n l a T0= .ok T-> ∀t∈T,t.2.2<=z)/\ ∀b,lxL n l a T0= .error b->b<=z
 | 0,l,a,z,T0,hz,h0=>by
  have e: ∀t∈T0++[(4,e0,a)],t.2.2<=z:=by
   intro t ht;rw[wag,List.mem_singleton]at ht;rcases ht with ht | rfl
   ·exact h0 t ht
   ·show a<=z; omega
  refine⟨fun T h=> ?_,fun b h=>by simp[lxL]at h⟩;simp only[lxL,Except.ok.injEq]at h;subst h;exact e
 | n+1,l,a,z,T0,hz,h0=>by
  have e: ∀t∈T0++[(4,e0,a)],t.2.2<=z:=by
   intro t ht;rw[wag,List.mem_singleton]at ht;rcases ht with ht | rfl
   ·exact h0 t ht
   ·show a<=z; omega
  unfold lxL;by_cases hl:l=[]
  ·simp only[if_pos hl];refine⟨fun T h=> ?_,fun b h=>by simp at h⟩;simp only[Except.ok.injEq]at h;subst h;exact e
  simp only[if_neg hl];cases hs:zCY l with
  | none=>
   refine⟨fun T h=>by simp at h,fun b h=> ?_⟩;simp only[Except.error.injEq]at h;omega
  | some p=>
   obtain⟨k,q⟩:=p;have hk:=zC8 hs;have hd:a+k+(l.drop k).length <=z:=by rw[List.length_drop]; omega
   cases q with
   | none=>exact lxL_at n (l.drop k) (a+k) z T0 hd h0
   | some q=>
    refine lxL_at n (l.drop k) (a+k) z _ hd ?_;intro t ht;rw[wag,List.mem_singleton]at ht;rcases ht with ht | rfl
    ·exact h0 t ht
    ·show a<=z; omega
theorem lexF_list(s:Bts):zEW s=lxL s.size s.data.toList 0 []:=by
 unfold zEW;rw[zCO _ _ _ _ (Nat.zero_le _),List.drop_zero]
theorem lex_at(s:Bts):(∀T,zEW s= .ok T-> ∀t∈T,t.2.2<=s.size)/\ ∀b,zEW s= .error b->b<=s.size:=by
 rw[lexF_list];have hz:s.data.toList.length=s.size:=by rw[Array.length_toList]; rfl
 exact lxL_at _ _ _ _ _ (by omega) (by simp)
theorem tk_at{T:List Tok}{z:Nat}(h: ∀t∈T,t.2.2<=z)(i:Nat):(tk T i).2.2 <=z:=by
 unfold tk;rw[List.getD];cases hi:T[i]? with
 | none=>exact Nat.zero_le _
 | some t=>exact h t (List.mem_of_getElem? hi)
theorem parse_ok{s:Bts}(h8:s.size<=8000)(h:(zAQ s).2.2 =0): ∃T,zEW s= .ok T/\zDI T= .ok (zAQ s).1 /\zAQ s=((zAQ s).1,0,0):=by
 have h9: ¬s.size>8000:=by omega
 unfold zAQ at*;rw[if_neg h9]at*;cases hL:zEW s with
 | error a=>rw[hL]at h; cases h
 | ok T=>
  rw[hL]at h;simp only at h ⊢;refine⟨T,rfl,?_⟩;unfold zDI;cases hP:zB4 T T.length [] 0 with
  | ok l=>exact⟨rfl,rfl⟩
  | error i=>rw[hP]at h; cases h
theorem parse_err{s:Bts}(h8:s.size<=8000)(h:(zAQ s).2.2 ≠0): ∃(a:Nat) (k:Int),zAQ s=([],(a:Int),k)/\a<=s.size/\(k=5\/k=90):=by
 have h9: ¬s.size>8000:=by omega
 have hA:=lex_at s;unfold zAQ at*;rw[if_neg h9]at*;cases hL:zEW s with
 | error a=>exact⟨a,5,rfl,hA.2 _ hL,.inl rfl⟩
 | ok T=>
  rw[hL]at h;simp only at h ⊢;cases hP:zB4 T T.length [] 0 with
  | ok l=>rw[hP]at h; exact absurd rfl h
  | error i=>exact⟨_,90,rfl,tk_at (hA.1 _ hL) i,.inr rfl⟩
theorem zIw{s:Bts}(h8:s.size<=8000){T:List Tok}{l:List Module}(hL:zEW s= .ok T)(hP:zDI T= .ok l):zAQ s=(l,0,0):=by
 unfold zDI at hP;unfold zAQ;rw[if_neg (by omega),hL];simp only[hP]
theorem zH1{s:Bts}{l:List Module}(hs:s.size<=2000)(h:zAQ s=(l,0,0)):
  ∃T1 e T2 e2 t,zEW s= .ok (T1++[(4,e0,e)])/\zEW t= .ok (T2++[(4,e0,e2)])/\T1.length<=2000/\T2.length=T1.length/\zCl l=(t,0)/\t.size<=6000/\zAQ t=(l,0,0)/\
   ((∀m∈l,modR itemR m)/\l.length<=1000000/\(zDF l l.length (e0,true)).1.size <=LIM)/\
   ∀i,i<T1.length+1->(tk (T1++[(4,e0,e)]) i).1 =(tk (T2++[(4,e0,e2)]) i).1 /\(tk (T1++[(4,e0,e)]) i).2.1 =(tk (T2++[(4,e0,e2)]) i).2.1 :=by
 obtain⟨T,hL,hP,_⟩:=parse_ok (s:=s) (by omega) (by rw[h]);rw[h]at hP;have hP:zDI T= .ok l:=hP;obtain⟨f1,f2,f3,f4,f5,f6⟩:=tokens_law hs hL hP;obtain⟨T1,e,rfl,g1,g2⟩:=zFe hL;have hn:=zGG g2;obtain⟨T2,e2,g3,_,_⟩:=zFe f3;rw[g3]at f3 f4 f5 f6;have hpr:zCl l=(pcB (zAk l),0):=by rw[print_law,if_pos ⟨f1,by omega⟩]
 simp only[wab,List.length_singleton]at f5 f6;exact⟨T1,e,T2,e2,_,hL,f3,by omega,by omega,hpr,f2,zIw (by omega) f3 f4,file_r f1 (by omega),f6⟩
theorem tokens_w(Z:GP)(hZ:Z.Ok)(s:Bts):
  FnL prog 5 [.d (.lit (.string s))] [(7777777,Z.o)] (fun V ol new=>V= .d (eB true)/\ol=[(7777777,Z.o)]/\new=[]):=by
 have he:=zHD Z hZ;refine FnL.srt (FnL.of_eH 1999 [] (own:=[]) (fun i=>if i=2010 then [.flt ⟨[(0,none),(2,none),(3,none),(1,some [2,3]),(4,some []),(5,some []),(6,some [])]⟩ ⟨[],[]⟩]else if i=2018 then [.flt ⟨[(0,none),(1,none),(3,none),(2,some [3]),(4,none),(5,none),(6,none),(7,none),(8,some [])]⟩ ⟨[],[]⟩]else chL i) [] zat func5 rfl call5 ntmps5 (zle rfl) results5 (zCw Z _ (by simp[AV.noRefs,AV.noRef])) (fun gs=> ?_));simp only[ZE,seval,KE]at he;simp only[ZE,seval,KE,GZ];refine EFn.gV [(7777777,7777777)] he ?_ ?_
 ·simp only[ZE,seval,GZ]
 rintro V ol new ⟨rfl,rfl,rfl⟩;by_cases h2:s.size>2000
 ·have g2:decide ((s.size:Int)>2000)=true:=by simp; omega
  simp only[ZE,seval,KE,g2,Bool.not_true,GZ];refine⟨[1999],[],?_⟩;simp only[ZE,seval,zAp.eq_1,zAp.eq_2,zAq.eq_1,zAq.eq_2,GZ,zAj.eq_def,ghK.eq_def,zAi.eq_def,hdH.eq_1,hdH.eq_2,kpH.eq_1,kpH.eq_2,hdl.eq_def,zpC.eq_def,zht,AV.core,KE]
 have g2:decide ((s.size:Int)>2000)=false:=by simp; omega
 have hp:=zC5 Z hZ s (by omega);by_cases hE:(zAQ s).2.2 =0
 case neg=>
  obtain⟨a,k,hR,ha,hk⟩:=parse_err (s:=s) (by omega) hE;unfold zFV at hp;rw[hR]at hp;have g3:decide ((a:Int)>=0)=true:=by simp
  have g4:decide ((a:Int)<=(s.size:Int))=true:=by simp; omega
  rcases hk with rfl | rfl
  all_goals
   simp only[ZE,seval,KE,wac]at hp;simp only[ZE,seval,KE,g2,Bool.not_true,GZ];refine EFn.gV [(7777777,7777777)] hp ?_ ?_
   ·simp only[ZE,seval,GZ]
   rintro V ol new ⟨rfl,rfl,rfl⟩;simp only[ZE,seval,KE,GZ,↓zA7,↓zA8,↓zA9,zBN.eq_1,zBI.eq_1,g3,g4,List.length_nil];refine⟨[4,1999],[],?_⟩;simp only[ZE,seval,zAp.eq_1,zAp.eq_2,zAq.eq_1,zAq.eq_2,GZ,zAj.eq_def,ghK.eq_def,zAi.eq_def,hdH.eq_1,hdH.eq_2,kpH.eq_1,kpH.eq_2,hdl.eq_def,zpC.eq_def,zht,AV.core,KE]
 obtain⟨_,_,_,hR⟩:=parse_ok (s:=s) (by omega) hE;obtain⟨l,hl⟩:=zX ((zAQ s).1);rw[hl]at hR;obtain⟨T1,e,T2,e2,t,k1,k2,k3,k4,k5,k6,k7,⟨r1,r2,r3⟩,k8⟩:=zH1 (by omega) hR;have pr:=zHf Z hZ l r1 r2 r3;rw[k5]at pr;have tA:=tokens_g Z s (by omega) T1 e (by omega) k1;have tB:=tokens_g Z t (by omega) T2 e2 (by omega) k2;have pt:=zC5 Z hZ t (by omega);unfold zFV at hp pt;rw[hR]at hp;rw[k7]at pt;have hsm:=zHk l 0 0;obtain⟨A,hA⟩:=zX (T1++[(4,e0,e)]);obtain⟨B,hB⟩:=zX (T2++[(4,e0,e2)]);have lA:A.length=T1.length+1:=by rw[<-hA]; simp
 have lB:B.length=T1.length+1:=by rw[<-hB,wab,k4]; simp
 rw[hA]at tA k8;rw[hB]at tB k8;simp only[ZE,seval,KE]at hp;simp only[ZE,seval,KE]at pr;simp only[ZE,seval,KE,zAc.eq_1]at tA;simp only[ZE,seval,KE,zAc.eq_1]at tB;simp only[ZE,seval,KE]at pt;simp only[ZE,seval,KE]at hsm;simp only[ZE,seval,KE,g2,Bool.not_true,GZ];refine EFn.gV [(7777777,7777777)] hp ?_ ?_
 ·simp only[ZE,seval,GZ]
 rintro V ol new ⟨rfl,rfl,rfl⟩;simp only[ZE,seval,KE,GZ];refine EFn.gV [(7777777,7777777)] pr ?_ ?_
 ·simp only[ZE,seval,GZ]
 rintro V ol new ⟨rfl,rfl,rfl⟩;simp only[ZE,seval,KE,GZ];refine⟨by kernel_rfl,?_⟩;refine EFn.gV [(7777777,7777777)] tA ?_ ?_
 ·simp only[ZE,seval,GZ]
 rintro V ol new ⟨rfl,rfl,rfl⟩;simp only[ZE,seval,KE,GZ];refine EFn.gV [(7777777,7777777)] tB ?_ ?_
 ·simp only[ZE,seval,GZ]
 rintro V ol new ⟨rfl,rfl,rfl⟩;have f1:((A.length:Int)==0)=false:=beq_eq_false_iff_ne.2 (by omega);have f2:((A.length:Int) !=(B.length:Int))=false:=by rw[lA,lB]; simp
 simp only[ZE,seval,KE,GZ,↓zA7,↓zA8,↓zA9,zBN.eq_1,zBI.eq_1,f1,f2,waa];refine za1 (fun i=>if i=2010 then [.flt ⟨[(0,none),(2,none),(3,none),(1,some [2,3]),(4,some []),(5,some []),(6,some [])]⟩ ⟨[],[]⟩]else if i=2018 then [.flt ⟨[(0,none),(1,none),(3,none),(2,some [3]),(4,none),(5,none),(6,none),(7,none),(8,some [])]⟩ ⟨[],[]⟩]else chL i) zat A.length (fun _=>True) (fun i=>([(0,.d (.lit (.string s))),(3,.d (eB true)),(4,.bp 4 0),(5,.bp 5 0),(6,.d (zAc A)),(7,.d (zAc B)),(8,.d (eI i))],[(4,.box [.d (zax l),.d (eI 0),.d (eI 0)]),(5,.box [.d (eSb t),.d (eI 0)]),(1999,.gh [] gs),(7777777,Z.o)])) trivial ?_ ?_ (fun i hi _=> ?_)
 ·simp only[ZE,seval,KE,GZ,zAc.eq_1]
 ·simp only[ZE,seval,KE,GZ,zAc.eq_1]
 by_cases hiA:i<A.length
 ·have hiB:i<B.length:=by omega
  have a1:=zDl hiA;have b1:=zDl hiB;obtain⟨q1,q2⟩:=k8 i (by omega);rw[<-q1,<-q2]at b1;have hw:=zaq (show i<9223372036854775807 by omega);obtain⟨x,hx⟩:=zX (tk A i);obtain⟨y,hy⟩:=zX (tk B i);rw[hx]at a1 b1;rw[hy]at b1;obtain⟨x1,x2,x3⟩:=x;simp only[ZE,seval,KE]at a1;simp only[ZE,seval,KE]at b1;simp only[ZE,seval,KE,GZ,zAc.eq_1,zaw hiA,zai hiA,zai hiB,a1,b1,wal,hw,↓zA7,↓zA8,↓zA9,zBN.eq_1,zBI.eq_1,bne_self_eq_false,beq_self_eq_true,decide_true,Bool.not_true,Bool.not_false,waa];exact⟨by kernel_rfl,hiA⟩
 ·have:i=A.length:=by omega
  subst this;simp only[ZE,seval,KE,GZ,zAc.eq_1,zaI (wam A.length),bne_self_eq_false,beq_self_eq_true,decide_true,Bool.not_true,Bool.not_false,waa];refine⟨by kernel_rfl,?_⟩;refine EFn.gV [(7777777,7777777)] pt ?_ ?_
  ·simp only[ZE,seval,GZ]
  rintro V ol new ⟨rfl,rfl,rfl⟩;simp only[ZE,seval,KE,GZ];refine zaz.i hsm ?_;simp only[ZE,seval,KE,GZ,bne_self_eq_false,beq_self_eq_true,decide_true,Bool.not_true,Bool.not_false,waa];refine⟨[4,5,1999],[],?_⟩;simp only[ZE,seval,zAp.eq_1,zAp.eq_2,zAq.eq_1,zAq.eq_2,GZ,zAj.eq_def,ghK.eq_def,zAi.eq_def,hdH.eq_1,hdH.eq_2,kpH.eq_1,kpH.eq_2,hdl.eq_def,zpC.eq_def,zht,AV.core,KE]
end Go.Proofs.YtplfjjgkbnolhaaGreatDoor
