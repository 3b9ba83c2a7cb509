/-
 CONTRACTS and plain laws. Conditions: those of each law.
-/
import Derived.Test.YtbenhdgpogiadaaGreatK4
import Derived.Test.YtbenhdgpogiadaaGreatGSr
import Derived.Ground.SlsfProg
import Derived.Test.YtbenhdgpogiadaaGreatGIn
import Derived.Test.YtbenhdgpogiadaaGreatK1
import Derived.Shelf.RegionOpenPlain
import Derived.WalkKit
import Derived.Deep.LoopGhost
import Derived.Deep.RegionLaw
import Derived.Lib.Walk
import Derived.Lib.SliceRun
import Derived.OwnWalk
import Derived.Shelf.Spec.SlicesInsert
import Derived.Lib.AppendZerosOnto
import Derived.Laws.NewBlocks
import Derived.Test.YtbenhdgpogiadaaGreatGRb
import Derived.Shelf.SlSortCmp.InsertionK
set_option linter.unusedSimpArgs false
set_option linter.unusedVariables false
namespace Go.Proofs.YtbenhdgpogiadaaGreat
open Go.Aw Go.Sort Go.RowKit Go.Shelf
set_option maxRecDepth 100000
def Tryz.sortItem_ren:Go.Shelf.Ren:=⟨fun | 6=>130 | 15=>171 | 14=>173 | 28=>223 | 29=>224 | 20=>225 | 21=>226 | 22=>227 | 23=>228 | 24=>229 | 25=>230 | 26=>231 | 27=>232 | 46=>264 | 47=>260 | 48=>261 | 49=>265 | 50=>266 | 57=>292 | n=>n,fun | 22=>51 | 24=>64 | 25=>109 | 3=>3 | 39=>253 | 0=>0 | 53=>307 | 55=>309 | 4=>4 | 46=>301 | 45=>300 | 50=>234 | 5=>5 | 9=>9 | 66=>337 | 70=>341 | 76=>362 | 77=>289 | n=>n,fun | n=>n⟩
theorem Tryz.sortItem:Go.Proofs.SlLaysF0.n6 Tryz.prog Tryz.sortItem_ren:={
 mixed:=by kernel_rfl
 f6:=⟨Tryz.f130.name,by decide,Tryz.func130.trans (congrArg some (by kernel_rfl))⟩
 f14:=⟨Tryz.f173.name,by decide,Tryz.func173.trans (congrArg some (by kernel_rfl))⟩
 f15:=Tryz.func171.trans (congrArg some (by kernel_rfl))
 f20:=⟨Tryz.f225.name,by decide,Tryz.func225.trans (congrArg some (by kernel_rfl))⟩
 f21:=⟨Tryz.f226.name,by decide,Tryz.func226.trans (congrArg some (by kernel_rfl))⟩
 f22:=⟨Tryz.f227.name,by decide,Tryz.func227.trans (congrArg some (by kernel_rfl))⟩
 f23:=⟨Tryz.f228.name,by decide,Tryz.func228.trans (congrArg some (by kernel_rfl))⟩
 f24:=⟨Tryz.f229.name,by decide,Tryz.func229.trans (congrArg some (by kernel_rfl))⟩
 f25:=⟨Tryz.f230.name,by decide,Tryz.func230.trans (congrArg some (by kernel_rfl))⟩
 f26:=⟨Tryz.f231.name,by decide,Tryz.func231.trans (congrArg some (by kernel_rfl))⟩
 f27:=⟨Tryz.f232.name,by decide,Tryz.func232.trans (congrArg some (by kernel_rfl))⟩
 f28:=Tryz.func223.trans (congrArg some (by kernel_rfl))
 f29:=Tryz.func224.trans (congrArg some (by kernel_rfl))
 f46:=⟨Tryz.f264.name,by decide,Tryz.func264.trans (congrArg some (by kernel_rfl))⟩
 f47:=Tryz.func260.trans (congrArg some (by kernel_rfl))
 f48:=Tryz.func261.trans (congrArg some (by kernel_rfl))
 f49:=⟨Tryz.f265.name,by decide,Tryz.func265.trans (congrArg some (by kernel_rfl))⟩
 f50:=⟨Tryz.f266.name,by decide,Tryz.func266.trans (congrArg some (by kernel_rfl))⟩
 f57:=⟨Tryz.f292.name,by decide,Tryz.func292.trans (congrArg some (by kernel_rfl))⟩
 t0:=Tryz.underlying0
 a0:=Tryz.isAgg0
 z0:=Tryz.sizeOf0
 v0:=Tryz.zeroValue0
 t3:=Tryz.underlying3
 a3:=Tryz.isAgg3
 z3:=Tryz.sizeOf3
 v3:=Tryz.zeroValue3
 t4:=Tryz.underlying4
 a4:=Tryz.isAgg4
 z4:=Tryz.sizeOf4
 v4:=Tryz.zeroValue4
 t5:=Tryz.underlying5
 a5:=Tryz.isAgg5
 z5:=Tryz.sizeOf5
 v5:=Tryz.zeroValue5
 t9:=Tryz.underlying9
 a9:=Tryz.isAgg9
 z9:=Tryz.sizeOf9
 v9:=Tryz.zeroValue9
 t22:=Tryz.underlying51
 a22:=Tryz.isAgg51
 z22:=Tryz.sizeOf51
 v22:=Tryz.zeroValue51
 t25:=Tryz.underlying109
 a25:=Tryz.isAgg109
 z25:=Tryz.sizeOf109
 v25:=Tryz.zeroValue109
 t39:=Tryz.underlying253
 a39:=Tryz.isAgg253
 z39:=Tryz.sizeOf253
 v39:=Tryz.zeroValue253
 t45:=Tryz.underlying300
 a45:=Tryz.isAgg300
 z45:=Tryz.sizeOf300
 v45:=Tryz.zeroValue300
 t46:=Tryz.underlying301
 a46:=Tryz.isAgg301
 z46:=Tryz.sizeOf301
 v46:=Tryz.zeroValue301
 t50:=Tryz.underlying234
 a50:=Tryz.isAgg234
 z50:=Tryz.sizeOf234
 v50:=Tryz.zeroValue234
 t53:=Tryz.underlying307
 a53:=Tryz.isAgg307
 z53:=Tryz.sizeOf307
 v53:=Tryz.zeroValue307
 t55:=Tryz.underlying309
 a55:=Tryz.isAgg309
 z55:=Tryz.sizeOf309
 v55:=Tryz.zeroValue309
 t66:=Tryz.underlying337
 a66:=Tryz.isAgg337
 z66:=Tryz.sizeOf337
 v66:=Tryz.zeroValue337
 t70:=Tryz.underlying341
 a70:=Tryz.isAgg341
 z70:=Tryz.sizeOf341
 v70:=Tryz.zeroValue341
 t76:=Tryz.underlying362
 a76:=Tryz.isAgg362
 z76:=Tryz.sizeOf362
 v76:=Tryz.zeroValue362
 t77:=Tryz.underlying289
 a77:=Tryz.isAgg289
 z77:=Tryz.sizeOf289
 v77:=Tryz.zeroValue289}
def Tryz.sortMod_ren:Go.Shelf.Ren:=⟨fun | 6=>127 | 15=>171 | 14=>170 | 28=>223 | 29=>224 | 20=>215 | 21=>216 | 22=>217 | 23=>218 | 24=>219 | 25=>220 | 26=>221 | 27=>222 | 46=>259 | 47=>260 | 48=>261 | 49=>262 | 50=>263 | 57=>291 | n=>n,fun | 22=>28 | 24=>53 | 25=>113 | 3=>3 | 39=>253 | 0=>0 | 53=>307 | 55=>309 | 4=>4 | 46=>301 | 45=>300 | 50=>234 | 5=>5 | 9=>9 | 66=>337 | 70=>341 | 76=>362 | 77=>289 | n=>n,fun | n=>n⟩
theorem Tryz.sortMod:Go.Proofs.SlLaysF0.n6 Tryz.prog Tryz.sortMod_ren:={
 mixed:=by kernel_rfl
 f6:=⟨Tryz.f127.name,by decide,Tryz.func127.trans (congrArg some (by kernel_rfl))⟩
 f14:=⟨Tryz.f170.name,by decide,Tryz.func170.trans (congrArg some (by kernel_rfl))⟩
 f15:=Tryz.func171.trans (congrArg some (by kernel_rfl))
 f20:=⟨Tryz.f215.name,by decide,Tryz.func215.trans (congrArg some (by kernel_rfl))⟩
 f21:=⟨Tryz.f216.name,by decide,Tryz.func216.trans (congrArg some (by kernel_rfl))⟩
 f22:=⟨Tryz.f217.name,by decide,Tryz.func217.trans (congrArg some (by kernel_rfl))⟩
 f23:=⟨Tryz.f218.name,by decide,Tryz.func218.trans (congrArg some (by kernel_rfl))⟩
 f24:=⟨Tryz.f219.name,by decide,Tryz.func219.trans (congrArg some (by kernel_rfl))⟩
 f25:=⟨Tryz.f220.name,by decide,Tryz.func220.trans (congrArg some (by kernel_rfl))⟩
 f26:=⟨Tryz.f221.name,by decide,Tryz.func221.trans (congrArg some (by kernel_rfl))⟩
 f27:=⟨Tryz.f222.name,by decide,Tryz.func222.trans (congrArg some (by kernel_rfl))⟩
 f28:=Tryz.func223.trans (congrArg some (by kernel_rfl))
 f29:=Tryz.func224.trans (congrArg some (by kernel_rfl))
 f46:=⟨Tryz.f259.name,by decide,Tryz.func259.trans (congrArg some (by kernel_rfl))⟩
 f47:=Tryz.func260.trans (congrArg some (by kernel_rfl))
 f48:=Tryz.func261.trans (congrArg some (by kernel_rfl))
 f49:=⟨Tryz.f262.name,by decide,Tryz.func262.trans (congrArg some (by kernel_rfl))⟩
 f50:=⟨Tryz.f263.name,by decide,Tryz.func263.trans (congrArg some (by kernel_rfl))⟩
 f57:=⟨Tryz.f291.name,by decide,Tryz.func291.trans (congrArg some (by kernel_rfl))⟩
 t0:=Tryz.underlying0
 a0:=Tryz.isAgg0
 z0:=Tryz.sizeOf0
 v0:=Tryz.zeroValue0
 t3:=Tryz.underlying3
 a3:=Tryz.isAgg3
 z3:=Tryz.sizeOf3
 v3:=Tryz.zeroValue3
 t4:=Tryz.underlying4
 a4:=Tryz.isAgg4
 z4:=Tryz.sizeOf4
 v4:=Tryz.zeroValue4
 t5:=Tryz.underlying5
 a5:=Tryz.isAgg5
 z5:=Tryz.sizeOf5
 v5:=Tryz.zeroValue5
 t9:=Tryz.underlying9
 a9:=Tryz.isAgg9
 z9:=Tryz.sizeOf9
 v9:=Tryz.zeroValue9
 t22:=Tryz.underlying28
 a22:=Tryz.isAgg28
 z22:=Tryz.sizeOf28
 v22:=Tryz.zeroValue28
 t25:=Tryz.underlying113
 a25:=Tryz.isAgg113
 z25:=Tryz.sizeOf113
 v25:=Tryz.zeroValue113
 t39:=Tryz.underlying253
 a39:=Tryz.isAgg253
 z39:=Tryz.sizeOf253
 v39:=Tryz.zeroValue253
 t45:=Tryz.underlying300
 a45:=Tryz.isAgg300
 z45:=Tryz.sizeOf300
 v45:=Tryz.zeroValue300
 t46:=Tryz.underlying301
 a46:=Tryz.isAgg301
 z46:=Tryz.sizeOf301
 v46:=Tryz.zeroValue301
 t50:=Tryz.underlying234
 a50:=Tryz.isAgg234
 z50:=Tryz.sizeOf234
 v50:=Tryz.zeroValue234
 t53:=Tryz.underlying307
 a53:=Tryz.isAgg307
 z53:=Tryz.sizeOf307
 v53:=Tryz.zeroValue307
 t55:=Tryz.underlying309
 a55:=Tryz.isAgg309
 z55:=Tryz.sizeOf309
 v55:=Tryz.zeroValue309
 t66:=Tryz.underlying337
 a66:=Tryz.isAgg337
 z66:=Tryz.sizeOf337
 v66:=Tryz.zeroValue337
 t70:=Tryz.underlying341
 a70:=Tryz.isAgg341
 z70:=Tryz.sizeOf341
 v70:=Tryz.zeroValue341
 t76:=Tryz.underlying362
 a76:=Tryz.isAgg362
 z76:=Tryz.sizeOf362
 v76:=Tryz.zeroValue362
 t77:=Tryz.underlying289
 a77:=Tryz.isAgg289
 z77:=Tryz.sizeOf289
 v77:=Tryz.zeroValue289}
def zyB(a b:Part):Int:=orI [zh1 a.kind.1 b.kind.1,zsi a.name.1 b.name.1]
def zy2(a b:Str):Int:=zsi a.1 b.1
theorem zwE(a b:Str):zsi a.1 b.1<0↔ltS a b=true:=by
 unfold zsi ltS
 repeat' split
 all_goals simp_all
theorem zoY(a b:Str):zsi a.1 b.1=0↔a=b:=by
 unfold zsi;constructor
 ·intro h;split at h
  ·cases h
  split at h
  ·cases h
  ·rename_i h1 h2;simp only[Bool.not_eq_true',Bool.not_eq_false,Bool.or_eq_true,beq_iff_eq]at h1 h2;rcases h2 with h2 | h2
   ·exact absurd h2 h1
   ·exact toList_inj h2
 ·rintro rfl;have:=zsd a.1.toList;simp[this]
theorem zwF(a b:Part):zyB a b<0↔ltP a b=true:=by
 unfold zyB orI zh1 ltP;have h1:=zwE a.name b.name;rcases Int.lt_trichotomy a.kind.1 b.kind.1 with h | h | h
 ·have:a.kind.1≠b.kind.1:=by omega
  simp[h]
 ·rw[h];simp only[Int.lt_irrefl,if_false,decide_false,Bool.false_or,decide_true,Bool.true_and];rw[<-h1];by_cases h0:zsi a.name.1 b.name.1=0
  ·simp[h0]
  ·simp[h0]
 ·have h2: ¬a.kind.1<b.kind.1:=by omega
  have h3: ¬a.kind.1=b.kind.1:=by omega
  simp[h,h2,h3]
theorem swoP{α:Type}(f:α->Part):SWO (ltOf fun a b=>zyB (f a) (f b)):=by
 have e: ∀a b,ltOf (fun a b=>zyB (f a) (f b)) a b=ltP (f a) (f b):=fun a b=>by
  unfold ltOf;rw[Bool.eq_iff_iff,decide_eq_true_eq]; exact zwF _ _
 refine{irrefl:=fun a=>by rw[e]; exact zuJ.irr _,trans:=fun a b c h1 h2=>by rw[e]at*; exact zuJ.tr _ _ _ h1 h2,ntrans:=fun a b c h1 h2=> ?_};rw[e]at*;cases h:ltP (f a) (f c)with
 | false=>rfl
 | true=>
  cases hb:ltP (f b) (f a)with
  | true=>rw[zuJ.tr _ _ _ hb h]at h2; cases h2
  | false=>have:=zuJ.conn _ _ h1 hb; rw[this,h2]at h; cases h
theorem swoN{α:Type}(f:α->Str):SWO (ltOf fun a b=>zy2 (f a) (f b)):=by
 have e: ∀a b,ltOf (fun a b=>zy2 (f a) (f b)) a b=ltS (f a) (f b):=fun a b=>by
  unfold ltOf;rw[Bool.eq_iff_iff,decide_eq_true_eq]; exact zwE _ _
 refine{irrefl:=fun a=>by rw[e]; exact zrt.irr _,trans:=fun a b c h1 h2=>by rw[e]at*; exact zrt.tr _ _ _ h1 h2,ntrans:=fun a b c h1 h2=> ?_};rw[e]at*;cases h:ltS (f a) (f c)with
 | false=>rfl
 | true=>
  cases hb:ltS (f b) (f a)with
  | true=>rw[zrt.tr _ _ _ hb h]at h2; cases h2
  | false=>have:=zrt.conn _ _ h1 hb; rw[this,h2]at h; cases h
theorem sortI_c(l:List Item)(hl:l.length<4611686018427387904):FnL Tryz.prog 130 [.ar 0 l.length,.d (.clo (.func 53) [] [])] [(0,.arr 64 35 .flat (l.map zaK))]
  (fun V ol new=>V= .tup []/\(∃l':List Item,l.Perm l'/\(l'.Pairwise fun x y=> ¬zyB (zbg y) (zbg x)<0)/\ol=[(0,.arr 64 35 .flat (l'.map zaK))])/\new=[]):=by
 refine zxH Tryz.sortItem zaK zbg zyB 35 (by omega) (fun x=>by simp[zaK,zgL,zb6,zib]) (fun x d hd=> ?_) Tryz.isAgg64 Tryz.sizeOf64 swoP 53 (fun bs w=>Tryz.call53 bs w) (fun bs w=>Tryz.call130 bs w) (fun W F x y ra rb h1 h2 w=> ?_) l hl
 ·simp only[zaK,zgL,zb6,zib,eI,eS,ziG,zel,List.cons_append,List.nil_append,List.mem_cons,List.not_mem_nil,or_false]at hd
  repeat' (rcases hd with rfl | hd)
  all_goals (try subst hd)
  all_goals simp[D.one,Value.oneCell']
 ·have l1:=zav.length _ _ h1;have l2:=zav.length _ _ h2;have e35: ∀x:Item,(zaK x).length =35:=fun x=>by simp[zaK,zgL,zb6,zib]
  rw[e35]at l1 l2;have g: ∀(x:Item) (r:List Value),zav W F (zaK x) r->r[0]? =some (.int .i64 x.kind.1)/\r[1]? =some (.string x.name.1):=fun x r h=>by
   unfold zaK at h;simp only[eI,eS,zav,Aw.Rd]at h;obtain⟨v,r1,rfl,rfl,v2,r2,rfl,rfl,_⟩:=h;exact⟨rfl,rfl⟩
  obtain⟨p1,p2⟩:=g x ra h1;obtain⟨q1,q2⟩:=g y rb h2;exact item_w ra.toArray rb.toArray (by simpa using l1) (by simpa using l2) x.kind.1 y.kind.1 x.name.1 y.name.1 (by simpa using p1) (by simpa using p2) (by simpa using q1) (by simpa using q2) w
theorem sortM_c(l:List Module)(hl:l.length<4611686018427387904):FnL Tryz.prog 127 [.ar 0 l.length,.d (.clo (.func 57) [] [])] [(0,.arr 53 4 .flat (l.map zaC))]
  (fun V ol new=>V= .tup []/\(∃l':List Module,l.Perm l'/\(l'.Pairwise fun x y=> ¬zy2 y.name x.name<0)/\ol=[(0,.arr 53 4 .flat (l'.map zaC))])/\new=[]):=by
 refine zxH Tryz.sortMod zaC Module.name zy2 4 (by omega) (fun x=>rfl) (fun x d hd=> ?_) Tryz.isAgg53 Tryz.sizeOf53 swoN 57 (fun bs w=>Tryz.call57 bs w) (fun bs w=>Tryz.call127 bs w) (fun W F x y ra rb h1 h2 w=> ?_) l hl
 ·simp only[zaC,eS,zd5,zbR,List.mem_cons,List.not_mem_nil,or_false]at hd;rcases hd with rfl | rfl | rfl | rfl
  all_goals simp[D.one,Value.oneCell']
 ·have l1:=zav.length _ _ h1;have l2:=zav.length _ _ h2;have g: ∀(x:Module) (r:List Value),zav W F (zaC x) r->r[0]? =some (.string x.name.1):=fun x r h=>by
   unfold zaC at h;simp only[eS,zav,Aw.Rd]at h;obtain⟨v,r1,rfl,rfl,_⟩:=h;rfl
  exact name_w ra.toArray rb.toArray (by simpa [zaC]using l1) (by simpa [zaC]using l2) x.name.1 y.name.1 (by simpa using g x ra h1) (by simpa using g y rb h2) w
open Go.Aw
open Nat renaming reduceEqDiff->pE,reduceLT->pL,reduceAdd->pA,reduceSub->pS,reduceMul->pM,reduceLeDiff->pD
open Int renaming reduceToNat->qT,reduceGT->qG,reduceLT->qL,reduceGE->qH,reduceBNe->qN,reduceBEq->qB,reduceLE->qE,reduceNe->qO,reduceAdd->qA,reduceNeg->qM
set_option maxHeartbeats 4000000
def rowOfD:List D->List D
 | [.agg cs]=>cs
 | _=>[]
def zqY(x:Item):List D:=[.agg (zaK x)]
theorem rowItem(l:List Item):(l.map zqY).map rowOfD=l.map zaK:=by rw[List.map_map]; rfl
theorem zxT(l:List Item)(hl:l.length<=4000000):zoR Tryz.prog 131 [.ptr [.sl (l.map zaK)]] (fun pre=> ∃i,i<=l.length/\pre=(l.take i).map zqY) (fun xs=>xs=l.map zqY):=by
 intro lim fam stop lp hY;have:=FnL.of_eC (P:=Tryz.prog) (args:=[.yv 0,.d (.ptr [.sl (l.map zaK)])]) (os:=[(0,.ext lim fam stop lp [])]) (PL:=fun _ ol new=>(∃xs,xs=l.map zqY/\ol=[(0,.ext lim fam stop lp xs)]/\new=[])\/(ol=[(0,.ext lim (fun _=>stop) stop lp [])]/\new=[])) (own:=[]) (fun _=>[]) [0] zat Tryz.func131 rfl Tryz.call131 Tryz.ntmps131 (Nat.le_of_ble_eq_true rfl) Tryz.results131 ?_
 ·refine this.mono ?_;rintro V Oo new ⟨ol,rfl,⟨xs,h1,rfl,h2⟩ | ⟨rfl,h2⟩⟩
  ·exact .inl ⟨xs,h1,rfl,h2⟩
  ·exact .inr ⟨rfl,h2⟩
 simp only[ZE,↓reduceIte,pE,pL,pA,pS,pM,pD,zN,qT,qG,qL,qH,qN,qB,qE,qO,qA,qM];refine za1 (fun _=>[]) zat l.length (fun _=>True) (fun i=>([(0,.yv 0),(5,.d (.sl (l.map zaK))),(6,.d (eI l.length)),(7,.d (eI i))],[(0,.ext lim fam stop lp ((l.take i).map zqY))])) trivial ?_ ?_ (fun i hi _=> ?_)
 ·simp only[ZE,↓reduceIte,pE,pL,pA,pS,pM,pD,zN,qT,qG,qL,qH,qN,qB,qE,qO,qA,qM,List.length_map]
 ·simp only[ZE,↓reduceIte,pE,pL,pA,pS,pM,pD,List.take_zero,List.map_nil]
 rcases Nat.lt_or_ge i l.length with h | h
 ·have hw:=zaq (show i<9223372036854775807 by omega);have ht:(l.take (i+1)).map zqY=(l.take i).map zqY++[zqY l[i]]:=by rw[List.take_succ_eq_append_getElem h,List.map_append]; rfl
  rw[ht];simp(maxSteps:=4000000) only[ZE,↓reduceIte,pE,pL,pA,pS,pM,pD,zaw h,zaa h,zai h,zN,qT,qG,qL,qH,qN,qB,qE,qO,qA,qM,zqY,List.length_map];refine⟨_,hY,⟨i+1,h,?_⟩,?_,?_⟩
  ·rw[ht];simp only[ZE,↓reduceIte,pE,pL,pA,pS,pM,pD,zqY]
  ·simp only[ZE,↓reduceIte,pE,pL,pA,pS,pM,pD,zN,qT,qG,qL,qH,qN,qB,qE,qO,qA,qM,hw];exact h
  ·simp only[ZE,↓reduceIte,pE,pL,pA,pS,pM,pD,zN,qT,qG,qL,qH,qN,qB,qE,qO,qA,qM];refine⟨[4],[],?_⟩;simp only[ZE,↓reduceIte,pE,pL,pA,pS,pM,pD]
 ·have:i=l.length:=by omega
  subst this;simp(maxSteps:=4000000) only[ZE,↓reduceIte,pE,pL,pA,pS,pM,pD,zaI h,zN,qT,qG,qL,qH,qN,qB,qE,qO,qA,qM,List.take_length];refine⟨[],[],?_⟩;simp only[ZE,↓reduceIte,pE,pL,pA,pS,pM,pD];exact .inl ⟨_,rfl,rfl⟩
theorem zr6(l:List Item)(hl:l.length<=4000000):FnL Tryz.prog 172 [.nils,.d (.clo (.func 131) [] [.ptr [.sl (l.map zaK)]])] [] (fun V ol new=>V= .ar 90 l.length/\ol=[(90,.arr 64 35 .flat (l.map zaK))]/\new=[90]):=by
 refine FnL.of_eC (own:=[]) (fun id=>if id=0 then [.adB 2 0 90 64 35]else []) [] zat Tryz.func172 rfl Tryz.call172 Tryz.ntmps172 (Nat.le_of_ble_eq_true rfl) Tryz.results172 ?_;simp only[ZE,↓reduceIte,pE,pL,pA,pS,pM,pD];refine zq4 zat (fun _=>[]) rfl (by simp only[ZE,↓reduceIte,pE,pL,pA,pS,pM,pD]) (zxT l hl) (fun pre=>[(2,.box [.ar 90 pre.length]),(90,.arr 64 35 .flat (pre.map rowOfD))]) ?_ ?_ ?_ ?_ ?_
 ·simp only[ZE,↓reduceIte,pE,pL,pA,pS,pM,pD]
 ·intro pre; simp[zdU,zie]
 ·simp only[ZE,↓reduceIte,pE,pL,pA,pS,pM,pD,psOk,zeQ]
 ·rintro pre x ⟨i,hi,h3⟩;have hlen:(pre++[x]).length <=4000000:=by rw[h3,List.length_map,List.length_take]; omega
  simp only[List.length_append,List.length_cons,List.length_nil]at hlen;obtain⟨p,rfl⟩: ∃p,x=zqY p:=by
   have:x∈(l.take i).map zqY:=by rw[<-h3]; simp
   obtain⟨p,_,rfl⟩:=List.mem_map.1 this;exact⟨p,rfl⟩
  simp only[zqY,ZE,↓reduceIte,pE,pL,pA,pS,pM,pD,zve,zl0,zdU,zie,zrn,zeQ];refine⟨⟨by omega,by omega⟩,by simp,by simp,?_⟩;rw[List.map_append]; rfl
 ·rintro xs rfl;simp only[ZE,↓reduceIte,pE,pL,pA,pS,pM,pD];refine⟨[2],[90],?_⟩;simp only[ZE,↓reduceIte,pE,pL,pA,pS,pM,pD,List.length_map];rw[rowItem]
theorem zoZ(l:List Item)(hl:l.length<=4000000):FnL Tryz.prog 129 [.d (.clo (.func 131) [] [.ptr [.sl (l.map zaK)]])] [] (fun V ol new=>V= .ar 90 l.length/\ol=[(90,.arr 64 35 .flat (l.map zaK))]/\new=[90]):=by
 refine FnL.of_eC (own:=[]) (fun id=>[]) [] zat Tryz.func129 rfl Tryz.call129 Tryz.ntmps129 (Nat.le_of_ble_eq_true rfl) Tryz.results129 ?_;simp only[ZE,↓reduceIte,pE,pL,pA,pS,pM,pD];refine EFn.g ⟨[(90,90)],[.nils,.d (.clo (.func 131) [] [.ptr [.sl (l.map zaK)]])],_,_,zr6 l hl,?_⟩;simp only[ZE,↓reduceIte,pE,pL,pA,pS,pM,pD];rintro V ol new ⟨rfl,rfl,rfl⟩;simp only[ZE,↓reduceIte,pE,pL,pA,pS,pM,pD];refine⟨[],[90],?_⟩;simp only[ZE,↓reduceIte,pE,pL,pA,pS,pM,pD]
theorem sortedItem_c(l:List Item)(hl:l.length<=4000000):FnL Tryz.prog 77 [.d (.clo (.func 131) [] [.ptr [.sl (l.map zaK)]]),.d (.clo (.func 53) [] [])] [] (fun V ol new=>V= .ar 90 l.length/\(∃l':List Item,l.Perm l'/\(l'.Pairwise fun x y=> ¬zyB (zbg y) (zbg x)<0)/\ol=[(90,.arr 64 35 .flat (l'.map zaK))])/\new=[90]):=by
 refine FnL.of_eC (own:=[]) (fun id=>[]) [] zat Tryz.func77 rfl Tryz.call77 Tryz.ntmps77 (Nat.le_of_ble_eq_true rfl) Tryz.results77 ?_;simp only[ZE,↓reduceIte,pE,pL,pA,pS,pM,pD];refine EFn.g ⟨[(90,90)],[.d (.clo (.func 131) [] [.ptr [.sl (l.map zaK)]])],_,_,zoZ l hl,?_⟩;simp only[ZE,↓reduceIte,pE,pL,pA,pS,pM,pD];rintro V ol new ⟨rfl,rfl,rfl⟩;simp only[ZE,↓reduceIte,pE,pL,pA,pS,pM,pD];refine EFn.g ⟨[(0,90)],[.ar 0 l.length,.d (.clo (.func 53) [] [])],_,_,sortI_c l (by omega),?_⟩;simp only[ZE,↓reduceIte,pE,pL,pA,pS,pM,pD];rintro V ol new ⟨rfl,⟨l',hp,hs,rfl⟩,rfl⟩;simp only[ZE,↓reduceIte,pE,pL,pA,pS,pM,pD];refine⟨[],[90],?_⟩;simp only[ZE,↓reduceIte,pE,pL,pA,pS,pM,pD];exact⟨l',hp,hs,rfl⟩
def zhh(x:Module):List D:=[.agg (zaC x)]
theorem rowModule(l:List Module):(l.map zhh).map rowOfD=l.map zaC:=by rw[List.map_map]; rfl
theorem zuC(l:List Module)(hl:l.length<=4000000):zoR Tryz.prog 128 [.ptr [.sl (l.map zaC)]] (fun pre=> ∃i,i<=l.length/\pre=(l.take i).map zhh) (fun xs=>xs=l.map zhh):=by
 intro lim fam stop lp hY;have:=FnL.of_eC (P:=Tryz.prog) (args:=[.yv 0,.d (.ptr [.sl (l.map zaC)])]) (os:=[(0,.ext lim fam stop lp [])]) (PL:=fun _ ol new=>(∃xs,xs=l.map zhh/\ol=[(0,.ext lim fam stop lp xs)]/\new=[])\/(ol=[(0,.ext lim (fun _=>stop) stop lp [])]/\new=[])) (own:=[]) (fun _=>[]) [0] zat Tryz.func128 rfl Tryz.call128 Tryz.ntmps128 (Nat.le_of_ble_eq_true rfl) Tryz.results128 ?_
 ·refine this.mono ?_;rintro V Oo new ⟨ol,rfl,⟨xs,h1,rfl,h2⟩ | ⟨rfl,h2⟩⟩
  ·exact .inl ⟨xs,h1,rfl,h2⟩
  ·exact .inr ⟨rfl,h2⟩
 simp only[ZE,↓reduceIte,pE,pL,pA,pS,pM,pD,zN,qT,qG,qL,qH,qN,qB,qE,qO,qA,qM];refine za1 (fun _=>[]) zat l.length (fun _=>True) (fun i=>([(0,.yv 0),(5,.d (.sl (l.map zaC))),(6,.d (eI l.length)),(7,.d (eI i))],[(0,.ext lim fam stop lp ((l.take i).map zhh))])) trivial ?_ ?_ (fun i hi _=> ?_)
 ·simp only[ZE,↓reduceIte,pE,pL,pA,pS,pM,pD,zN,qT,qG,qL,qH,qN,qB,qE,qO,qA,qM,List.length_map]
 ·simp only[ZE,↓reduceIte,pE,pL,pA,pS,pM,pD,List.take_zero,List.map_nil]
 rcases Nat.lt_or_ge i l.length with h | h
 ·have hw:=zaq (show i<9223372036854775807 by omega);have ht:(l.take (i+1)).map zhh=(l.take i).map zhh++[zhh l[i]]:=by rw[List.take_succ_eq_append_getElem h,List.map_append]; rfl
  rw[ht];simp(maxSteps:=4000000) only[ZE,↓reduceIte,pE,pL,pA,pS,pM,pD,zaw h,zaa h,zai h,zN,qT,qG,qL,qH,qN,qB,qE,qO,qA,qM,zhh,List.length_map];refine⟨_,hY,⟨i+1,h,?_⟩,?_,?_⟩
  ·rw[ht];simp only[ZE,↓reduceIte,pE,pL,pA,pS,pM,pD,zhh]
  ·simp only[ZE,↓reduceIte,pE,pL,pA,pS,pM,pD,zN,qT,qG,qL,qH,qN,qB,qE,qO,qA,qM,hw];exact h
  ·simp only[ZE,↓reduceIte,pE,pL,pA,pS,pM,pD,zN,qT,qG,qL,qH,qN,qB,qE,qO,qA,qM];refine⟨[4],[],?_⟩;simp only[ZE,↓reduceIte,pE,pL,pA,pS,pM,pD]
 ·have:i=l.length:=by omega
  subst this;simp(maxSteps:=4000000) only[ZE,↓reduceIte,pE,pL,pA,pS,pM,pD,zaI h,zN,qT,qG,qL,qH,qN,qB,qE,qO,qA,qM,List.take_length];refine⟨[],[],?_⟩;simp only[ZE,↓reduceIte,pE,pL,pA,pS,pM,pD];exact .inl ⟨_,rfl,rfl⟩
theorem zpZ(l:List Module)(hl:l.length<=4000000):FnL Tryz.prog 169 [.nils,.d (.clo (.func 128) [] [.ptr [.sl (l.map zaC)]])] [] (fun V ol new=>V= .ar 90 l.length/\ol=[(90,.arr 53 4 .flat (l.map zaC))]/\new=[90]):=by
 refine FnL.of_eC (own:=[]) (fun id=>if id=0 then [.adB 2 0 90 53 4]else []) [] zat Tryz.func169 rfl Tryz.call169 Tryz.ntmps169 (Nat.le_of_ble_eq_true rfl) Tryz.results169 ?_;simp only[ZE,↓reduceIte,pE,pL,pA,pS,pM,pD];refine zq4 zat (fun _=>[]) rfl (by simp only[ZE,↓reduceIte,pE,pL,pA,pS,pM,pD]) (zuC l hl) (fun pre=>[(2,.box [.ar 90 pre.length]),(90,.arr 53 4 .flat (pre.map rowOfD))]) ?_ ?_ ?_ ?_ ?_
 ·simp only[ZE,↓reduceIte,pE,pL,pA,pS,pM,pD]
 ·intro pre; simp[zdU,zie]
 ·simp only[ZE,↓reduceIte,pE,pL,pA,pS,pM,pD,psOk,zeQ]
 ·rintro pre x ⟨i,hi,h3⟩;have hlen:(pre++[x]).length <=4000000:=by rw[h3,List.length_map,List.length_take]; omega
  simp only[List.length_append,List.length_cons,List.length_nil]at hlen;obtain⟨p,rfl⟩: ∃p,x=zhh p:=by
   have:x∈(l.take i).map zhh:=by rw[<-h3]; simp
   obtain⟨p,_,rfl⟩:=List.mem_map.1 this;exact⟨p,rfl⟩
  simp only[zhh,ZE,↓reduceIte,pE,pL,pA,pS,pM,pD,zve,zl0,zdU,zie,zrn,zeQ];refine⟨⟨by omega,by omega⟩,by simp,by simp,?_⟩;rw[List.map_append]; rfl
 ·rintro xs rfl;simp only[ZE,↓reduceIte,pE,pL,pA,pS,pM,pD];refine⟨[2],[90],?_⟩;simp only[ZE,↓reduceIte,pE,pL,pA,pS,pM,pD,List.length_map];rw[rowModule]
theorem zsk(l:List Module)(hl:l.length<=4000000):FnL Tryz.prog 126 [.d (.clo (.func 128) [] [.ptr [.sl (l.map zaC)]])] [] (fun V ol new=>V= .ar 90 l.length/\ol=[(90,.arr 53 4 .flat (l.map zaC))]/\new=[90]):=by
 refine FnL.of_eC (own:=[]) (fun id=>[]) [] zat Tryz.func126 rfl Tryz.call126 Tryz.ntmps126 (Nat.le_of_ble_eq_true rfl) Tryz.results126 ?_;simp only[ZE,↓reduceIte,pE,pL,pA,pS,pM,pD];refine EFn.g ⟨[(90,90)],[.nils,.d (.clo (.func 128) [] [.ptr [.sl (l.map zaC)]])],_,_,zpZ l hl,?_⟩;simp only[ZE,↓reduceIte,pE,pL,pA,pS,pM,pD];rintro V ol new ⟨rfl,rfl,rfl⟩;simp only[ZE,↓reduceIte,pE,pL,pA,pS,pM,pD];refine⟨[],[90],?_⟩;simp only[ZE,↓reduceIte,pE,pL,pA,pS,pM,pD]
theorem znX(l:List Module)(hl:l.length<=4000000):FnL Tryz.prog 75 [.d (.clo (.func 128) [] [.ptr [.sl (l.map zaC)]]),.d (.clo (.func 57) [] [])] [] (fun V ol new=>V= .ar 90 l.length/\(∃l':List Module,l.Perm l'/\(l'.Pairwise fun x y=> ¬zy2 y.name x.name<0)/\ol=[(90,.arr 53 4 .flat (l'.map zaC))])/\new=[90]):=by
 refine FnL.of_eC (own:=[]) (fun id=>[]) [] zat Tryz.func75 rfl Tryz.call75 Tryz.ntmps75 (Nat.le_of_ble_eq_true rfl) Tryz.results75 ?_;simp only[ZE,↓reduceIte,pE,pL,pA,pS,pM,pD];refine EFn.g ⟨[(90,90)],[.d (.clo (.func 128) [] [.ptr [.sl (l.map zaC)]])],_,_,zsk l hl,?_⟩;simp only[ZE,↓reduceIte,pE,pL,pA,pS,pM,pD];rintro V ol new ⟨rfl,rfl,rfl⟩;simp only[ZE,↓reduceIte,pE,pL,pA,pS,pM,pD];refine EFn.g ⟨[(0,90)],[.ar 0 l.length,.d (.clo (.func 57) [] [])],_,_,sortM_c l (by omega),?_⟩;simp only[ZE,↓reduceIte,pE,pL,pA,pS,pM,pD];rintro V ol new ⟨rfl,⟨l',hp,hs,rfl⟩,rfl⟩;simp only[ZE,↓reduceIte,pE,pL,pA,pS,pM,pD];refine⟨[],[90],?_⟩;simp only[ZE,↓reduceIte,pE,pL,pA,pS,pM,pD];exact⟨l',hp,hs,rfl⟩
set_option maxHeartbeats 20000000
theorem zrk(l:List Item):FnP Tryz.prog 78 [.sl (l.map zaK)] (.d (.clo (.func 131) [] [.ptr [.sl (l.map zaK)]])) []:=by
 refine FnP.of_eC (own:=[]) (fun _=>[]) zat Tryz.func78 rfl Tryz.call78 Tryz.ntmps78 (Nat.le_of_ble_eq_true rfl) Tryz.results78 (fun hok=> ?_);simp(maxSteps:=4000000) only[ZE,↓reduceIte,pE,pL,pA,pS,pM,pD,zN,qT,qG,qL,qH,qN,qB,qE,qO,qA,qM]
theorem znZ(l:List Module):FnP Tryz.prog 76 [.sl (l.map zaC)] (.d (.clo (.func 128) [] [.ptr [.sl (l.map zaC)]])) []:=by
 refine FnP.of_eC (own:=[]) (fun _=>[]) zat Tryz.func76 rfl Tryz.call76 Tryz.ntmps76 (Nat.le_of_ble_eq_true rfl) Tryz.results76 (fun hok=> ?_);simp(maxSteps:=4000000) only[ZE,↓reduceIte,pE,pL,pA,pS,pM,pD,zN,qT,qG,qL,qH,qN,qB,qE,qO,qA,qM]
theorem not_cmpP{x y:Part}(h: ¬zyB x y<0):ltP x y=false:=by
 cases hq:ltP x y with
 | false=>rfl
 | true=>exact absurd ((zwF x y).2 hq) h
theorem zy6{x y:Str}(h: ¬zy2 x y<0):ltS x y=false:=by
 cases hq:ltS x y with
 | false=>rfl
 | true=>exact absurd ((zwE x y).2 hq) h
/-- Items with one place each,sorted,as data. -/
theorem zyA(l:List Item)(hl:l.length<=4000000)(hn:(l.map zbg).Nodup):FnP Tryz.prog 77 [.clo (.func 131) [] [.ptr [.sl (l.map zaK)]],.clo (.func 53) [] []] (.d (.sl ((zl7 ltP zbg l).map zaK))) []:=by
 refine FnP.of_eC (own:=[]) (fun i=>if i=2 then [.frz 90]else []) zat Tryz.func77 rfl Tryz.call77 Tryz.ntmps77 (Nat.le_of_ble_eq_true rfl) Tryz.results77 (fun hok=> ?_);simp only[ZE,↓reduceIte,pE,pL,pA,pS,pM,pD];refine EFn.g ⟨[(90,90)],[.d (.clo (.func 131) [] [.ptr [.sl (l.map zaK)]])],_,_,zoZ l hl,?_⟩;simp only[ZE,↓reduceIte,pE,pL,pA,pS,pM,pD];rintro V ol new ⟨rfl,rfl,rfl⟩;simp only[ZE,↓reduceIte,pE,pL,pA,pS,pM,pD];refine EFn.g ⟨[(0,90)],[.ar 0 l.length,.d (.clo (.func 53) [] [])],_,_,sortI_c l (by omega),?_⟩;simp only[ZE,↓reduceIte,pE,pL,pA,pS,pM,pD];rintro V ol new ⟨rfl,⟨l',hp,hs,rfl⟩,rfl⟩;have e:l'=zl7 ltP zbg l:=zrj zuJ hn hp (hs.imp fun{a b} h=>not_cmpP h);have hll:l.length=(l'.map zaK).length :=by rw[List.length_map]; exact hp.length_eq
 rw[<-e];simp only[ZE,↓reduceIte,pE,pL,pA,pS,pM,pD,List.length_map];rw[if_pos hp.length_eq];simp only[ZE,↓reduceIte,pE,pL,pA,pS,pM,pD]
/-! ### Files in normal form -/
def nrmL(L:List Module)(i:Nat):List Module:=(L.take i).map zl5++L.drop i
theorem zyF(L:List Module)(i:Nat):(nrmL L i).length =L.length:=by simp[nrmL]; omega
theorem nrmL_zero(L:List Module):nrmL L 0=L:=by simp[nrmL]
theorem nrmL_all(L:List Module):nrmL L L.length=L.map zl5:=by simp[nrmL]
theorem nrmL_at(L:List Module)(i:Nat)(h:i<L.length):(nrmL L i).getD i zdP=L[i]:=by
 unfold nrmL;rw[List.getD_eq_getElem?_getD,List.getElem?_append_right (by simp; omega)];simp[List.length_take,Nat.min_eq_left (Nat.le_of_lt h),h]
theorem nrmL_step(L:List Module)(i:Nat)(h:i<L.length):nrmL L (i+1)=(nrmL L i).set i (zl5 L[i]):=by
 unfold nrmL;rw[List.take_succ_eq_append_getElem h,List.map_append];have hl:((L.take i).map zl5).length =i:=by simp; omega
 rw[List.set_append_right _ _ (by omega),hl,Nat.sub_self,List.drop_eq_getElem_cons h,List.set_cons_zero];simp only[List.map_cons,List.map_nil,List.append_assoc,List.cons_append,List.nil_append]
theorem zih(l:List Module)(hn:(l.map Module.name).Nodup)(hp: ∀m∈l,(m.items.map zbg).Nodup)(hl:l.length<=4000000)(hi: ∀m∈l,m.items.length<=4000000):FnP Tryz.prog 24 [.agg [zax l]] (.d (.agg [zax (zcC l)])) []:=by
 refine FnP.of_eC (own:=[]) (fun i=>if i=1007 then [.frz 90]else []) zat Tryz.func24 rfl Tryz.call24 Tryz.ntmps24 (Nat.le_of_ble_eq_true rfl) Tryz.results24 (fun hok=> ?_);have vc:=znZ l;simp only[ZE,↓reduceIte,pE,pL,pA,pS,pM,pD,zN,qT,qG,qL,qH,qN,qB,qE,qO,qA,qM];refine EFn.p ?_;simp only[ZE,↓reduceIte,pE,pL,pA,pS,pM,pD,zN,qT,qG,qL,qH,qN,qB,qE,qO,qA,qM];refine zar.i vc ?_;simp only[ZE,↓reduceIte,pE,pL,pA,pS,pM,pD,zN,qT,qG,qL,qH,qN,qB,qE,qO,qA,qM];refine EFn.g ⟨[(90,90)],[.d (.clo (.func 128) [] [.ptr [.sl (l.map zaC)]]),.d (.clo (.func 57) [] [])],_,_,znX l hl,?_⟩;simp only[ZE,↓reduceIte,pE,pL,pA,pS,pM,pD];rintro V ol new ⟨rfl,⟨L,hL,hs,rfl⟩,rfl⟩;have e:L=zl7 ltS Module.name l:=zrj zrt hn hL (hs.imp fun{a b} h=>zy6 h);have hLl:L.length=l.length:=hL.length_eq.symm;have hnF:zcC l=L.map zl5:=by unfold zcC; rw[e]
 rw[hnF,<-nrmL_all];simp only[ZE,↓reduceIte,pE,pL,pA,pS,pM,pD,zN,qT,qG,qL,qH,qN,qB,qE,qO,qA,qM,hLl];have hpL: ∀i (h:i<L.length),(L[i].items.map zbg).Nodup /\L[i].items.length <=4000000:=fun i h=>by
  have hm:L[i]∈l:=hL.mem_iff.2 (List.getElem_mem h);exact⟨hp _ hm,hi _ hm⟩
 refine za1 (fun i=>if i=2005 then [.ord ⟨[(0,none),(1,none),(2,none),(3,none),(4,none),(5,none),(6,none),(7,none),(8,none),(9,some [])]⟩]else []) zat l.length (fun _=>True) (fun i=>([(2,.bp 2 0),(3,.bp 3 0),(12,.ar 90 l.length),(13,.d (eI l.length)),(14,.d (eI i))],[(2,.box [.nils]),(3,.box [.ar 90 l.length]),(90,.arr 53 4 .flat ((nrmL L i).map zaC))])) trivial ?_ ?_ (fun i hi' _=> ?_)
 ·simp only[ZE,↓reduceIte,pE,pL,pA,pS,pM,pD]
 ·simp only[ZE,↓reduceIte,pE,pL,pA,pS,pM,pD,nrmL_zero]
 rcases Nat.lt_or_ge i l.length with h | h
 ·have hw:=zaq (show i<9223372036854775807 by omega);have hiL:i<L.length:=by omega
  obtain⟨hnd,hll⟩:=hpL i hiL;rw[nrmL_step L i hiL];have hat:=nrmL_at L i hiL;have hnl:=zyF L i;obtain⟨R,hR⟩:=zX (nrmL L i);obtain⟨m,hm⟩:=zX (L[i]);rw[hR,hm]at hat;rw[hR]at hnl;rw[hm]at hnd hll;rw[hR,hm];have hiR:i<R.length:=by omega
  have hRi:R[i]=m:=by
   rw[List.getD_eq_getElem?_getD,List.getElem?_eq_getElem hiR]at hat;exact hat
  have ic:=zrk m.items;have sc:=zyA m.items hll hnd;have hset:(R.map zaC).set i ((zaC m).set 3 (.sl ((zl7 ltP zbg m.items).map zaK)))=(R.set i (zl5 m)).map zaC:=by rw[List.map_set]; rfl
  try simp only[ZE,↓reduceIte,pE,pL,pA,pS,pM,pD]at sc
  simp(maxSteps:=4000000) only[ZE,↓reduceIte,pE,pL,pA,pS,pM,pD,zaw h,zai h,zaa hiR,hRi,zN,qT,qG,qL,qH,qN,qB,qE,qO,qA,qM,List.length_map,hnl,hLl];refine⟨h,by kernel_rfl,zaz.i ic ?_⟩;simp only[ZE,↓reduceIte,pE,pL,pA,pS,pM,pD,zN,qT,qG,qL,qH,qN,qB,qE,qO,qA,qM];refine zaz.i sc ?_;simp only[ZE,↓reduceIte,pE,pL,pA,pS,pM,pD]at hset;simp only[ZE,↓reduceIte,pE,pL,pA,pS,pM,pD,zN,qT,qG,qL,qH,qN,qB,qE,qO,qA,qM,hw,hset,zaa hiR,hRi,List.length_map,hnl,hLl];exact⟨⟨by omega,by omega⟩,h⟩
 ·have:i=l.length:=by omega
  subst this;simp(maxSteps:=4000000) only[ZE,↓reduceIte,pE,pL,pA,pS,pM,pD,zaI h,zN,qT,qG,qL,qH,qN,qB,qE,qO,qA,qM,List.length_map,zyF,hLl]
def zfN(e:Edit):List D:=eS e.module::(zfX e.part++(eB e.has::(zaK e.to++zaC e.head)))
/-- A collector of edits. -/
def dfO(a b:Nat)(l:List Edit):OL:=[(a,.box [.ar b l.length]),(b,.arr 69 43 .flat (l.map zfN))]
/-- A collector in a box,a name. -/
def dfN(d b n:Nat)(name:Str)(q:Nat)(l:List Edit):OL:=dfO d q l++[(b,.box [.bp d 0]),(n,.box [.d (eS name)])]
def zyD(b n:Nat):AO:=.box [.clo (.func 120) [] [.bp b 0,.bp n 0]]
def bothE(n:Str)(x y:Item):List Edit:=if zlG x y=true then []else [zco n y]
theorem sameM_c(m n:Module):FnP Tryz.prog 60 [.agg (zaC m),.agg (zaC n)] (.d (eB (zm4 m n))) []:=by
 refine FnP.of_eC (own:=[]) (fun i=>if i=2001 then [.chn]else []) zat Tryz.func60 rfl Tryz.call60 Tryz.ntmps60 (Nat.le_of_ble_eq_true rfl) Tryz.results60 (fun hok=> ?_);have hl:m.items.length<=9223372036854775807:=by
  have:=(zaM hok).1;simp only[zaC,zbR,D.ok,D.okL]at this;exact(za9 this.2.2.2.1).1
 have c1:=sameH_c m n;have c2:=eqfItem_c m.items n.items hl 63 zlG (fun x _ y _=>sameI_c x y);rw[eqL_I]at c2;simp only[zaC,ZE,↓reduceIte,pE,pL,pA,pS,pM,pD]at c1 c2;simp(maxSteps:=4000000) only[ZE,↓reduceIte,pE,pL,pA,pS,pM,pD,zN,qT,qG,qL,qH,qN,qB,qE,qO,qA,qM];refine EFn.p ?_;simp only[ZE,↓reduceIte,pE,pL,pA,pS,pM,pD,zN,qT,qG,qL,qH,qN,qB,qE,qO,qA,qM];refine zar.i c1 ?_;simp only[ZE,↓reduceIte,pE,pL,pA,pS,pM,pD,zN,qT,qG,qL,qH,qN,qB,qE,qO,qA,qM];refine za3.i (fun _=>c2) ?_;simp only[ZE,↓reduceIte,pE,pL,pA,pS,pM,pD,zN,qT,qG,qL,qH,qN,qB,qE,qO,qA,qM,zm4]
theorem zh6(f g:List Module):FnP Tryz.prog 19 [.agg [zax f],.agg [zax g]] (.d (eB (zl6 f g))) []:=by
 refine FnP.of_eC (own:=[]) (fun _=>[]) zat Tryz.func19 rfl Tryz.call19 Tryz.ntmps19 (Nat.le_of_ble_eq_true rfl) Tryz.results19 (fun hok=> ?_);have hl:f.length<=9223372036854775807:=by
  have:=(zaM hok).1;simp only[D.ok,D.okL]at this;exact(za9 this.1).1
 have c2:=eqfModule_c f g hl 60 zm4 (fun x _ y _=>sameM_c x y);rw[eqL_M]at c2;simp(maxSteps:=4000000) only[ZE,↓reduceIte,pE,pL,pA,pS,pM,pD,zN,qT,qG,qL,qH,qN,qB,qE,qO,qA,qM];refine EFn.p ?_;simp only[ZE,↓reduceIte,pE,pL,pA,pS,pM,pD,zN,qT,qG,qL,qH,qN,qB,qE,qO,qA,qM];refine zar.i c2 ?_;simp only[ZE,↓reduceIte,pE,pL,pA,pS,pM,pD,zN,qT,qG,qL,qH,qN,qB,qE,qO,qA,qM]
theorem zyI(a b:Part):zyB a b=0↔a=b:=by
 constructor
 ·intro h;refine zuJ.conn _ _ ?_ ?_
  ·cases hq:ltP a b with
   | false=>rfl
   | true=>have:=(zwF a b).2 hq; omega
  ·unfold zyB orI zh1 at h;obtain⟨a1,a2⟩:=a;obtain⟨b1,b2⟩:=b;simp only at h;unfold ltP;simp only[Bool.or_eq_false_iff,decide_eq_false_iff_not,Bool.and_eq_false_iff];rcases Int.lt_trichotomy a1.1 b1.1 with h1 | h1 | h1
   ·simp[h1]at h
   ·rw[h1]at h;simp only[Int.lt_irrefl,if_false]at h;by_cases h0:zsi a2.1 b2.1=0
    ·have e:=(zoY a2 b2).1 h0;subst e;exact⟨by omega,.inr (zrt.irr _)⟩
    ·simp[h0]at h
   ·have h2: ¬a1.1<b1.1:=(by omega);simp[h1,h2]at h
 ·rintro rfl;have h1:=zuJ.irr a;have h0:=(zoY a.name a.name).2 rfl;simp[zyB,orI,zh1,h0]
/-- How many elements are zk2 of a key. -/
def zyu{α κ:Type}(lt:κ->κ->Bool)(key:α->κ)(l:List α)(k:κ):Nat:=l.countP fun x=>lt (key x) k
section
variable {α κ:Type} {lt:κ->κ->Bool} {key:α->κ}
end
/-- Expressions compared. -/
theorem zrR: ∀(n:Nat) (a b:Expr),sz a<n->FnP Tryz.prog 124 [.agg (zbx a),.agg (zbx b)] (.d (eB (zil a b))) []
 | 0,_,_,h=>by omega
 | n+1,.mk o m k w a,.mk o' m' k' w' a',hn=>by
  refine FnP.of_eC (own:=[]) (fun i=>if i=2001 then [.chn]else []) zat Tryz.func124 rfl Tryz.call124 Tryz.ntmps124 (Nat.le_of_ble_eq_true rfl) Tryz.results124 (fun hok=> ?_);have hla:a.length<=9223372036854775807:=expr_lens (.mk o m k w a) (zaM hok).1;have hs:(a.map sz).sum <n:=by rw[zec]at hn; omega
  have ec: ∀i (h:i<a.length) (h':i<a'.length),FnP Tryz.prog 124 [.agg (zbx a[i]),.agg (zbx a'[i])] (.d (eB (zil a[i] a'[i]))) []:=fun i h h'=>zrR n a[i] a'[i] (by have:=zuv (List.getElem_mem h); omega);have hS:zil (.mk o m k w a) (.mk o' m' k' w' a')=((o==o'&&decide (m=m')&&decide (k=k')&&decide (w=w'))&&zjF a a'):=by rw[zil]
  rw[hS,<-eqL_E];have k1:=zhX k k';have k2:=zhX w w';obtain⟨c,hc⟩:=zX ((o==o'&&decide (m=m')&&decide (k=k')&&decide (w=w')));have hg:((((o !=o'|| !decide (m=m'))|| !decide (k=k'))|| !decide (w=w'))||((a.length:Int) !=(a'.length:Int)))= !(c&&((a.length:Int)==(a'.length:Int))):=by
   rw[<-hc];simp only[bne,Bool.not_and]
  rw[hc];rcases Bool.eq_false_or_eq_true (c&&((a.length:Int)==(a'.length:Int)))with hcl | hcl
  ·rw[hcl]at hg;obtain⟨hc1,hab'⟩:=Bool.and_eq_true_iff.1 hcl;have hab:a.length=a'.length:=by have:=beq_iff_eq.1 hab'; omega
   rw[hc1,Bool.true_and];simp(maxSteps:=4000000) only[ZE,↓reduceIte,pE,pL,pA,pS,pM,pD,zcW,zbm,zgN,zgO,zbl,k1,k2,hg,List.length_map];refine za1 (fun _=>[]) zat a.length (fun i=> ∀j (h:j<a.length) (h':j<a'.length),j<i->zil a[j] a'[j]=true) (fun i=>([(2,.bp 2 0),(3,.bp 3 0),(5,.d (eI i))],[(2,.box ((zbx (.mk o m k w a)).map .d)),(3,.box ((zbx (.mk o' m' k' w' a')).map .d))])) (by intro j _ _ h; omega) (by simp only[ZE,↓reduceIte,pE,pL,pA,pS,pM,pD]) (by simp only[ZE,↓reduceIte,pE,pL,pA,pS,pM,pD,zcW,zbm,zgN,zgO,zbl]) (fun i hi hI=> ?_);rcases Nat.lt_or_ge i a.length with h | h
   ·have hw:=zaq (show i<9223372036854775807 by omega);have h':i<a'.length:=(by omega);have hc:=ec i h h';obtain⟨q,hq⟩:=zX (zil a[i] a'[i]);rw[hq]at hc;simp only[ZE,↓reduceIte,pE,pL,pA,pS,pM,pD]at hc;simp(maxSteps:=4000000) only[ZE,↓reduceIte,pE,pL,pA,pS,pM,pD,zaw h,zaa h,zai h,zaa h',zai h',hw,zN,qT,qG,qL,qH,qN,qB,qE,qO,qA,qM,List.length_map,zcW,zbm,zgN,zgO,zbl];refine⟨by kernel_rfl,zaz.i hc ?_⟩;cases q with
    | true=>
     simp only[ZE,↓reduceIte,pE,pL,pA,pS,pM,pD,zN,qT,qG,qL,qH,qN,qB,qE,qO,qA,qM,hw];refine⟨h,fun j h1 h2 hj=> ?_⟩;rcases Nat.lt_succ_iff_lt_or_eq.1 hj with hj | rfl
     ·exact hI j h1 h2 hj
     ·exact hq
    | false=>
     have e:=zgt h h' hq;simp only[ZE,↓reduceIte,pE,pL,pA,pS,pM,pD,zN,qT,qG,qL,qH,qN,qB,qE,qO,qA,qM,e]
   ·have:i=a.length:=(by omega);subst this;have e:=zeC hab (fun i h1 h2=>hI i h1 h2 h1);simp(maxSteps:=4000000) only[ZE,↓reduceIte,pE,pL,pA,pS,pM,pD,zaI h,zN,qT,qG,qL,qH,qN,qB,qE,qO,qA,qM,e,List.length_map,zcW,zbm,zgN,zgO,zbl]
  ·rw[hcl]at hg;have e:(c&&eqL zil a a')=false:=by
    cases c with
    | false=>rfl
    | true=>
     rw[Bool.true_and]at hcl ⊢;exact zgu (fun e=>by rw[e]at hcl; simp at hcl)
   rw[e];simp(maxSteps:=4000000) only[ZE,↓reduceIte,pE,pL,pA,pS,pM,pD,zcW,zbm,zgN,zgO,zbl,k1,k2,hg,List.length_map]
set_option maxHeartbeats 40000000
theorem rsameH_c(m n:Module):FnP Tryz.prog 74 [.agg (zaC m),.agg (zaC n)] (.d (eB (zug m n))) []:=by
 refine FnP.of_eC (own:=[]) (fun i=>if i=2001 then [.chn]else []) zat Tryz.func74 rfl Tryz.call74 Tryz.ntmps74 (Nat.le_of_ble_eq_true rfl) Tryz.results74 (fun hok=> ?_);have hla:m.params.length<=9223372036854775807:=by
  have:=(zaM hok).1;simp only[zaC,zd5,D.ok,D.okL]at this;exact(za9 this.2.2.1).1
 have hS:zug m n=((decide (m.name=n.name)&&decide (m.clock=n.clock))&&eqL (fun x y:Str=>decide (x=y)) m.params n.params):=by unfold zug; rw[zoc]
 rw[hS];obtain⟨c,hc⟩:=zX ((decide (m.name=n.name)&&decide (m.clock=n.clock)));have hg:((!decide (m.name=n.name)|| !decide (m.clock=n.clock))||((m.params.length:Int) !=(n.params.length:Int)))= !(c&&((m.params.length:Int)==(n.params.length:Int))):=by
  rw[<-hc];simp only[bne,Bool.not_and]
 rw[hc];rcases Bool.eq_false_or_eq_true (c&&((m.params.length:Int)==(n.params.length:Int)))with hcl | hcl
 ·rw[hcl]at hg;obtain⟨hc1,hab'⟩:=Bool.and_eq_true_iff.1 hcl;have hab:m.params.length=n.params.length:=by have:=beq_iff_eq.1 hab'; omega
  rw[hc1,Bool.true_and];simp(maxSteps:=4000000) only[ZE,↓reduceIte,pE,pL,pA,pS,pM,pD,hg,List.length_map];refine za1 (fun _=>[]) zat m.params.length (fun i=> ∀j (h:j<m.params.length) (h':j<n.params.length),j<i->decide (m.params[j]=n.params[j])=true) (fun i=>([(2,.bp 2 0),(3,.bp 3 0),(5,.d (eI i))],[(2,.box ((zaC m).map .d)),(3,.box ((zaC n).map .d))])) (by intro j _ _ h; omega) (by simp only[ZE,↓reduceIte,pE,pL,pA,pS,pM,pD]) (by simp only[ZE,↓reduceIte,pE,pL,pA,pS,pM,pD]) (fun i hi hI=> ?_);rcases Nat.lt_or_ge i m.params.length with h | h
  ·have hw:=zaq (show i<9223372036854775807 by omega);have h':i<n.params.length:=by omega
   obtain⟨q,hq⟩:=zX (decide (m.params[i]=n.params[i]));simp(maxSteps:=4000000) only[ZE,↓reduceIte,pE,pL,pA,pS,pM,pD,zaw h,zaa h,zai h,zaa h',zai h',hw,zN,qT,qG,qL,qH,qN,qB,qE,qO,qA,qM,List.length_map,hq];refine⟨by kernel_rfl,?_⟩;cases q with
   | true=>
    simp only[ZE,↓reduceIte,pE,pL,pA,pS,pM,pD];refine⟨h,fun j h1 h2 hj=> ?_⟩;rcases Nat.lt_succ_iff_lt_or_eq.1 hj with hj | rfl
    ·exact hI j h1 h2 hj
    ·exact hq
   | false=>
    have e:=zgt (p:=fun x y:Str=>decide (x=y)) h h' hq;simp only[ZE,↓reduceIte,pE,pL,pA,pS,pM,pD,e]
  ·have:i=m.params.length:=by omega
   subst this;have e:=zeC (p:=fun x y:Str=>decide (x=y)) hab (fun i h1 h2=>hI i h1 h2 h1);simp(maxSteps:=4000000) only[ZE,↓reduceIte,pE,pL,pA,pS,pM,pD,zaI h,zN,qT,qG,qL,qH,qN,qB,qE,qO,qA,qM,e,List.length_map]
 ·rw[hcl]at hg;have e:(c&&eqL (fun x y:Str=>decide (x=y)) m.params n.params)=false:=by
   cases c with
   | false=>rfl
   | true=>
    rw[Bool.true_and]at hcl ⊢;exact zgu (fun e=>by rw[e]at hcl; simp at hcl)
  rw[e];simp(maxSteps:=4000000) only[ZE,↓reduceIte,pE,pL,pA,pS,pM,pD,hg,List.length_map]
def headB(x y:Item):Bool:=x.kind.1==y.kind.1&&decide (x.name=y.name)&&decide (x.width=y.width)&&decide (x.depth=y.depth)&&decide (x.init=y.init)&&decide (x.rule=y.rule)&&decide (x.of=y.of)
theorem sameI_head(x y:Item):zlG x y=(headB x y&&(eqL (fun a b:Num=>decide (a=b)) x.args y.args&&eqL (fun a b:Bind=>decide (a=b)) x.ports y.ports&&(zil x.a y.a&&zil x.b y.b&&zil x.c y.c))):=by
 unfold zlG headB;rw[zoc,zoc,<-part_key];simp only[Bool.and_assoc]
theorem rsameI_c(x y:Item):FnP Tryz.prog 71 [.agg (zaK x),.agg (zaK y)] (.d (eB (zlG x y))) []:=by
 refine FnP.of_eC (own:=[]) (fun i=>if i=2001 then [.chn]else if i=2013 then [.chn]else []) zat Tryz.func71 rfl Tryz.call71 Tryz.ntmps71 (Nat.le_of_ble_eq_true rfl) Tryz.results71 (fun hok=> ?_);have hl:x.args.length<=9223372036854775807/\x.ports.length<=9223372036854775807:=by
  have:=(zaM hok).1;simp only[zaK,zgL,zb6,zib,ziG,zel,List.cons_append,List.nil_append,D.ok,D.okL]at this;obtain⟨_,_,_,_,_,_,_,_,_,_,_,_,_,_,_,_,_,_,_,_,_,_,_,_,_,_,_,_,_,_,_,_,_,h1,h2,_⟩:=this;exact⟨(za9 h1).1,(za9 h2).1⟩
 have c5:=zrR _ x.a y.a (Nat.lt_succ_self _);have c6:=zrR _ x.b y.b (Nat.lt_succ_self _);have c7:=zrR _ x.c y.c (Nat.lt_succ_self _);have k1:=zhX x.width y.width;have k2:=zhX x.depth y.depth;have k3:=zhX x.init y.init;have k4:(x.rule.kind==y.rule.kind&&(decide (x.rule.from'=y.rule.from')&&x.rule.n==y.rule.n))=decide (x.rule=y.rule):=by
  rw[<-Bool.and_assoc]; exact key_rule x.rule y.rule
 rw[sameI_head];obtain⟨c,hc⟩:=zX (headB x y);rw[hc];simp only[ZE,↓reduceIte,pE,pL,pA,pS,pM,pD]at c5 c6 c7;simp(maxSteps:=4000000) only[ZE,↓reduceIte,pE,pL,pA,pS,pM,pD,zN,qT,qG,qL,qH,qN,qB,qE,qO,qA,qM,k1,k2,k3,k4,List.length_map,List.append_eq];have hb:(x.kind.1 !=y.kind.1|| !decide (x.name=y.name)|| !decide (x.width=y.width)|| !decide (x.depth=y.depth)|| !decide (x.init=y.init)|| !decide (x.rule=y.rule)|| !decide (x.of=y.of))= !c :=by
  rw[<-hc]; unfold headB; simp only[bne,Bool.not_and]
 refine zd8 (fun h3=> ?_) (fun h3=> ?_)
 ·have e:(c&&(eqL (fun a b:Num=>decide (a=b)) x.args y.args&&eqL (fun a b:Bind=>decide (a=b)) x.ports y.ports&&(zil x.a y.a&&zil x.b y.b&&zil x.c y.c)))=false:=by
   rw[hb]at h3;cases c with
   | false=>rfl
   | true=>
    simp only[Bool.not_true,Bool.false_or,Bool.or_eq_true]at h3;rcases h3 with h3 | h3
    ·rw[zgu (a:=x.args) (b:=y.args) (fun e=>by rw[e]at h3; simp at h3)]; rfl
    ·rw[zgu (a:=x.ports) (b:=y.ports) (fun e=>by rw[e]at h3; simp at h3)]; simp
  rw[e]
 ·rw[hb]at h3;simp only[Bool.or_eq_false_iff,Bool.not_eq_false',bne_eq_false_iff_eq]at h3;obtain⟨⟨hc1,ha⟩,hp⟩:=h3;have hab:x.args.length=y.args.length:=by omega
  have hpb:x.ports.length=y.ports.length:=by omega
  rw[hc1,Bool.true_and];refine za1 (fun _=>[]) zat x.args.length (fun i=> ∀j (h:j<x.args.length) (h':j<y.args.length),j<i->decide (x.args[j]=y.args[j])=true) (fun i=>([(2,.bp 2 0),(3,.bp 3 0),(5,.d (eI i))],[(2,.box ((zaK x).map .d)),(3,.box ((zaK y).map .d))])) (by intro j _ _ h; omega) (by simp only[ZE,↓reduceIte,pE,pL,pA,pS,pM,pD]) (by simp only[ZE,↓reduceIte,pE,pL,pA,pS,pM,pD]) (fun i hi hI=> ?_);rcases Nat.lt_or_ge i x.args.length with h | h
  ·have hw:=zaq (show i<9223372036854775807 by omega);have h':i<y.args.length:=by omega
   have key:=zhX x.args[i] y.args[i];obtain⟨q,hq⟩:=zX (decide (x.args[i]=y.args[i]));rw[hq]at key;simp(maxSteps:=4000000) only[ZE,↓reduceIte,pE,pL,pA,pS,pM,pD,zaw h,zaa h,zai h,zaa h',zai h',hw,zN,qT,qG,qL,qH,qN,qB,qE,qO,qA,qM,List.length_map,key];refine⟨by kernel_rfl,?_⟩;cases q with
   | true=>
    simp only[ZE,↓reduceIte,pE,pL,pA,pS,pM,pD];refine⟨h,fun j h1 h2 hj=> ?_⟩;rcases Nat.lt_succ_iff_lt_or_eq.1 hj with hj | rfl
    ·exact hI j h1 h2 hj
    ·exact hq
   | false=>
    have e:=zgt (p:=fun x y:Num=>decide (x=y)) h h' hq;simp only[ZE,↓reduceIte,pE,pL,pA,pS,pM,pD,e,Bool.false_and,Bool.and_false]
  have hi2:i=x.args.length:=by omega
  subst hi2;have e1:=zeC (p:=fun x y:Num=>decide (x=y)) hab (fun i h1 h2=>hI i h1 h2 h1);rw[e1,Bool.true_and];simp(maxSteps:=4000000) only[ZE,↓reduceIte,pE,pL,pA,pS,pM,pD,zaI h,zN,qT,qG,qL,qH,qN,qB,qE,qO,qA,qM,List.length_map];refine za1 (fun _=>[]) zat x.ports.length (fun i=> ∀j (h:j<x.ports.length) (h':j<y.ports.length),j<i->decide (x.ports[j]=y.ports[j])=true) (fun i=>([(2,.bp 2 0),(3,.bp 3 0),(6,.d (eI i))],[(2,.box ((zaK x).map .d)),(3,.box ((zaK y).map .d))])) (by intro j _ _ h; omega) (by simp only[ZE,↓reduceIte,pE,pL,pA,pS,pM,pD]) (by simp only[ZE,↓reduceIte,pE,pL,pA,pS,pM,pD]) (fun i hi hI=> ?_);rcases Nat.lt_or_ge i x.ports.length with h | h
  ·have hw:=zaq (show i<9223372036854775807 by omega);have h':i<y.ports.length:=by omega
   have key:=key_bind x.ports[i] y.ports[i];obtain⟨q,hq⟩:=zX (decide (x.ports[i]=y.ports[i]));rw[hq]at key;simp(maxSteps:=4000000) only[ZE,↓reduceIte,pE,pL,pA,pS,pM,pD,zaw h,zaa h,zai h,zaa h',zai h',hw,zN,qT,qG,qL,qH,qN,qB,qE,qO,qA,qM,List.length_map,key];refine⟨by kernel_rfl,?_⟩;cases q with
   | true=>
    simp only[ZE,↓reduceIte,pE,pL,pA,pS,pM,pD];refine⟨h,fun j h1 h2 hj=> ?_⟩;rcases Nat.lt_succ_iff_lt_or_eq.1 hj with hj | rfl
    ·exact hI j h1 h2 hj
    ·exact hq
   | false=>
    have e:=zgt (p:=fun x y:Bind=>decide (x=y)) h h' hq;simp only[ZE,↓reduceIte,pE,pL,pA,pS,pM,pD,e,Bool.false_and,Bool.and_false]
  have hi3:i=x.ports.length:=by omega
  subst hi3;have e2:=zeC (p:=fun x y:Bind=>decide (x=y)) hpb (fun i h1 h2=>hI i h1 h2 h1);rw[e2,Bool.true_and];simp(maxSteps:=4000000) only[ZE,↓reduceIte,pE,pL,pA,pS,pM,pD,zaI h,zN,qT,qG,qL,qH,qN,qB,qE,qO,qA,qM,List.length_map];refine EFn.p ?_;simp only[ZE,↓reduceIte,pE,pL,pA,pS,pM,pD,zN,qT,qG,qL,qH,qN,qB,qE,qO,qA,qM];refine zar.i c5 ?_;simp only[ZE,↓reduceIte,pE,pL,pA,pS,pM,pD,zN,qT,qG,qL,qH,qN,qB,qE,qO,qA,qM];refine za3.i (fun _=>c6) ?_;simp only[ZE,↓reduceIte,pE,pL,pA,pS,pM,pD,zN,qT,qG,qL,qH,qN,qB,qE,qO,qA,qM];refine za3.i (fun _=>c7) ?_;simp only[ZE,↓reduceIte,pE,pL,pA,pS,pM,pD,zN,qT,qG,qL,qH,qN,qB,qE,qO,qA,qM]
theorem rsameM_c(m n:Module):FnP Tryz.prog 64 [.agg (zaC m),.agg (zaC n)] (.d (eB (zm4 m n))) []:=by
 refine FnP.of_eC (own:=[]) (fun i=>if i=2001 then [.chn]else []) zat Tryz.func64 rfl Tryz.call64 Tryz.ntmps64 (Nat.le_of_ble_eq_true rfl) Tryz.results64 (fun hok=> ?_);have hla:m.items.length<=9223372036854775807:=by
  have:=(zaM hok).1;simp only[zaC,zbR,D.ok,D.okL]at this;exact(za9 this.2.2.2.1).1
 have hc:=rsameH_c m n;have ec: ∀i (h:i<m.items.length) (h':i<n.items.length),FnP Tryz.prog 71 [.agg (zaK m.items[i]),.agg (zaK n.items[i])] (.d (eB (zlG m.items[i] n.items[i]))) []:=fun i h h'=>rsameI_c _ _;have hS:zm4 m n=(zug m n&&eqL zlG m.items n.items):=by unfold zm4; rw[eqL_I]
 rw[hS];obtain⟨c,hcc⟩:=zX (zug m n);rw[hcc]at hc ⊢;simp only[ZE,↓reduceIte,pE,pL,pA,pS,pM,pD]at hc;have hg:(!c ||((m.items.length:Int) !=(n.items.length:Int)))= !(c&&((m.items.length:Int)==(n.items.length:Int))):=by
  simp only[bne,Bool.not_and]
 rcases Bool.eq_false_or_eq_true (c&&((m.items.length:Int)==(n.items.length:Int)))with hcl | hcl
 ·rw[hcl]at hg;obtain⟨hc1,hab'⟩:=Bool.and_eq_true_iff.1 hcl;have hab:m.items.length=n.items.length:=by have:=beq_iff_eq.1 hab'; omega
  subst hc1;have hn:((m.items.length:Int) !=(n.items.length:Int))=false:=by rw[hab]; simp
  rw[Bool.true_and];simp(maxSteps:=4000000) only[ZE,↓reduceIte,pE,pL,pA,pS,pM,pD,zN,qT,qG,qL,qH,qN,qB,qE,qO,qA,qM];refine EFn.p ?_;simp only[ZE,↓reduceIte,pE,pL,pA,pS,pM,pD,zN,qT,qG,qL,qH,qN,qB,qE,qO,qA,qM];refine zar.i hc ?_;simp only[ZE,↓reduceIte,pE,pL,pA,pS,pM,pD,zN,qT,qG,qL,qH,qN,qB,qE,qO,qA,qM,hn,List.length_map];refine za1 (fun _=>[]) zat m.items.length (fun i=> ∀j (h:j<m.items.length) (h':j<n.items.length),j<i->zlG m.items[j] n.items[j]=true) (fun i=>([(2,.bp 2 0),(3,.bp 3 0),(5,.d (eI i))],[(2,.box ((zaC m).map .d)),(3,.box ((zaC n).map .d))])) (by intro j _ _ h; omega) (by simp only[ZE,↓reduceIte,pE,pL,pA,pS,pM,pD]) (by simp only[ZE,↓reduceIte,pE,pL,pA,pS,pM,pD]) (fun i hi hI=> ?_);rcases Nat.lt_or_ge i m.items.length with h | h
  ·have hw:=zaq (show i<9223372036854775807 by omega);have h':i<n.items.length:=by omega
   have hc:=ec i h h';obtain⟨q,hq⟩:=zX (zlG m.items[i] n.items[i]);rw[hq]at hc;simp only[ZE,↓reduceIte,pE,pL,pA,pS,pM,pD]at hc;simp(maxSteps:=4000000) only[ZE,↓reduceIte,pE,pL,pA,pS,pM,pD,zaw h,zaa h,zai h,zaa h',zai h',hw,zN,qT,qG,qL,qH,qN,qB,qE,qO,qA,qM,List.length_map,Nat.zero_add];refine⟨by kernel_rfl,zaz.i hc ?_⟩;cases q with
   | true=>
    simp only[ZE,↓reduceIte,pE,pL,pA,pS,pM,pD,zN,qT,qG,qL,qH,qN,qB,qE,qO,qA,qM,hw];refine⟨h,fun j h1 h2 hj=> ?_⟩;rcases Nat.lt_succ_iff_lt_or_eq.1 hj with hj | rfl
    ·exact hI j h1 h2 hj
    ·exact hq
   | false=>
    have e:=zgt h h' hq;simp only[ZE,↓reduceIte,pE,pL,pA,pS,pM,pD,zN,qT,qG,qL,qH,qN,qB,qE,qO,qA,qM,e]
  ·have:i=m.items.length:=by omega
   subst this;have e:=zeC hab (fun i h1 h2=>hI i h1 h2 h1);simp(maxSteps:=4000000) only[ZE,↓reduceIte,pE,pL,pA,pS,pM,pD,zaI h,zN,qT,qG,qL,qH,qN,qB,qE,qO,qA,qM,e,List.length_map,Nat.zero_add]
 ·rw[hcl]at hg;have e:(c&&eqL zlG m.items n.items)=false:=by
   cases c with
   | false=>rfl
   | true=>
    rw[Bool.true_and]at hcl ⊢;exact zgu (fun e=>by rw[e]at hcl; simp at hcl)
  rw[e];simp(maxSteps:=4000000) only[ZE,↓reduceIte,pE,pL,pA,pS,pM,pD,zN,qT,qG,qL,qH,qN,qB,qE,qO,qA,qM];refine EFn.p ?_;simp only[ZE,↓reduceIte,pE,pL,pA,pS,pM,pD,zN,qT,qG,qL,qH,qN,qB,qE,qO,qA,qM];refine zar.i hc ?_;simp only[ZE,↓reduceIte,pE,pL,pA,pS,pM,pD,zN,qT,qG,qL,qH,qN,qB,qE,qO,qA,qM,hg,List.length_map]
theorem rsame_c(f g:List Module):FnP Tryz.prog 20 [.agg [zax f],.agg [zax g]] (.d (eB (zl6 f g))) []:=by
 refine FnP.of_eC (own:=[]) (fun _=>[]) zat Tryz.func20 rfl Tryz.call20 Tryz.ntmps20 (Nat.le_of_ble_eq_true rfl) Tryz.results20 (fun hok=> ?_);have hla:f.length<=9223372036854775807:=by
  have:=(zaM hok).1;simp only[D.ok,D.okL]at this;exact(za9 this.1).1
 have ec: ∀i (h:i<f.length) (h':i<g.length),FnP Tryz.prog 64 [.agg (zaC f[i]),.agg (zaC g[i])] (.d (eB (zm4 f[i] g[i]))) []:=fun i h h'=>rsameM_c _ _;rw[<-eqL_M];by_cases hab:f.length=g.length
 ·have h0:((f.length:Int) !=(g.length:Int))=false:=by simp[hab]
  simp(maxSteps:=4000000) only[ZE,↓reduceIte,pE,pL,pA,pS,pM,pD,zN,qT,qG,qL,qH,qN,qB,qE,qO,qA,qM,h0,List.length_map];refine za1 (fun _=>[]) zat f.length (fun i=> ∀j (h:j<f.length) (h':j<g.length),j<i->zm4 f[j] g[j]=true) (fun i=>([(2,.bp 2 0),(3,.bp 3 0),(5,.d (eI i))],[(2,.box [.d (zax f)]),(3,.box [.d (zax g)])])) (by intro j _ _ h; omega) (by simp only[ZE,↓reduceIte,pE,pL,pA,pS,pM,pD]) (by simp only[ZE,↓reduceIte,pE,pL,pA,pS,pM,pD]) (fun i hi hI=> ?_);rcases Nat.lt_or_ge i f.length with h | h
  ·have hw:=zaq (show i<9223372036854775807 by omega);have h':i<g.length:=by omega
   have hc:=ec i h h';obtain⟨q,hq⟩:=zX (zm4 f[i] g[i]);rw[hq]at hc;simp only[ZE,↓reduceIte,pE,pL,pA,pS,pM,pD]at hc;simp(maxSteps:=4000000) only[ZE,↓reduceIte,pE,pL,pA,pS,pM,pD,zaw h,zaa h,zai h,zaa h',zai h',hw,zN,qT,qG,qL,qH,qN,qB,qE,qO,qA,qM,List.length_map,Nat.zero_add];refine⟨by kernel_rfl,zaz.i hc ?_⟩;cases q with
   | true=>
    simp only[ZE,↓reduceIte,pE,pL,pA,pS,pM,pD,zN,qT,qG,qL,qH,qN,qB,qE,qO,qA,qM,hw];refine⟨h,fun j h1 h2 hj=> ?_⟩;rcases Nat.lt_succ_iff_lt_or_eq.1 hj with hj | rfl
    ·exact hI j h1 h2 hj
    ·exact hq
   | false=>
    have e:=zgt h h' hq;simp only[ZE,↓reduceIte,pE,pL,pA,pS,pM,pD,zN,qT,qG,qL,qH,qN,qB,qE,qO,qA,qM,e]
  ·have:i=f.length:=by omega
   subst this;have e:=zeC hab (fun i h1 h2=>hI i h1 h2 h1);simp(maxSteps:=4000000) only[ZE,↓reduceIte,pE,pL,pA,pS,pM,pD,zaI h,zN,qT,qG,qL,qH,qN,qB,qE,qO,qA,qM,e,List.length_map,Nat.zero_add]
 ·have h0:((f.length:Int) !=(g.length:Int))=true:=by simp; omega
  have e:=zgu (p:=zm4) hab;simp(maxSteps:=4000000) only[ZE,↓reduceIte,pE,pL,pA,pS,pM,pD,zN,qT,qG,qL,qH,qN,qB,qE,qO,qA,qM,h0,e,List.length_map]
def mI(n:Str)(m:Nat)(xs ys:List Item):List Edit:=zyn ltP zbg (fun x=>[zyw n x]) (fun y=>[zco n y]) (fun x y=>bothE n x y) m xs ys
def zye:List AV:=[.d (.clo (.func 53) [] []),.clo (.func 122) [] [.bp 101 0,.bp 102 0],.clo (.func 120) [] [.bp 101 0,.bp 102 0],.clo (.func 123) [] [.bp 103 0]]
def mM(m:Nat)(xs ys:List Module):List Edit:=zyn ltS Module.name (fun m=>zs8 m.name m.items []++[zuR m.name]) (fun m=>zx7 m::zs8 m.name [] m.items) (fun m n=>headD m n++zs8 n.name m.items n.items) m xs ys
def zyf:List AV:=[.d (.clo (.func 57) [] []),.clo (.func 66) [] [.bp 101 0],.clo (.func 68) [] [.bp 101 0],.clo (.func 70) [] [.bp 101 0]]
open Go.Aw Go.RowKit Go.Lib
set_option maxRecDepth 1000000
structure Hd (p:Prop):Prop where
 out:p
set_option maxRecDepth 100000
/-- Files that can be put into normal form. -/
structure NOk (l:List Module):Prop where
 names:(l.map Module.name).Nodup
 parts: ∀m∈l,(m.items.map zbg).Nodup
 len:l.length<=4000000
 items: ∀m∈l,m.items.length<=4000000
section
variable {α κ:Type} [DecidableEq κ] {lt:κ->κ->Bool} {key:α->κ}
end
theorem zyv(x:Item): ∀d∈zaK x,d.one:=by
 simp[zaK,zgL,zb6,zib,eI,eS,ziG,zel,D.one,Value.oneCell']
theorem zyq(x:Module): ∀d∈zaC x,d.one:=by
 simp[zaC,eS,zd5,zbR,D.one,Value.oneCell']
def arM(l:List Module):AO:=.arr 53 4 .flat (l.map zaC)
def zyj(r:Option (List Module))(V:AV)(ol:OL)(new:List Nat):Prop:=
 match r with
 | some s=>V= .tup [.ar 140 s.length,.d (eB true)]/\ol=[(140,.arr 53 4 .flat (s.map zaC))]/\new=[140]
 | none=>V= .tup [.d (.sl []),.d (eB false)]/\ol=[]/\new=[]
def czI(k:Int)(n:ByteArray):List AV:=
 [.d (.lit (.int .i64 k)),.d (.lit (.string n)),.d (.lit (.int .i64 0)),.d (.lit (.string ByteArray.empty)),.d (.lit (.int .i64 0)),.d (.lit (.string ByteArray.empty)),.d (.lit (.int .i64 0)),.d (.lit (.string ByteArray.empty)),
  .d (.lit (.int .i64 0)),.d (.lit (.string ByteArray.empty)),.d (.lit (.int .i64 0)),.d (.lit (.string ByteArray.empty)),.d (.lit (.int .i64 0)),.d (.lit (.string ByteArray.empty)),.nils,
  .d (.lit (.int .i64 0)),.d (.lit (.string ByteArray.empty)),.d (.lit (.int .i64 0)),.d (.lit (.string ByteArray.empty)),.d (.lit (.int .i64 0)),.d (.lit (.string ByteArray.empty)),.nils,
  .d (.lit (.int .i64 0)),.d (.lit (.string ByteArray.empty)),.d (.lit (.int .i64 0)),.d (.lit (.string ByteArray.empty)),.d (.lit (.int .i64 0)),.d (.lit (.string ByteArray.empty)),.nils,
  .d (.lit (.int .i64 0)),.d (.lit (.string ByteArray.empty)),.d (.lit (.int .i64 0)),.d (.lit (.string ByteArray.empty)),.nils,.nils]
section
variable {α κ:Type} [DecidableEq κ] {lt:κ->κ->Bool} {key:α->κ}
omit [DecidableEq κ] in
theorem putS_le: ∀(l:List α) (x:α),(zpT lt key l x).length <=l.length+1
 | [],x=>by simp[zpT]
 | y::r,x=>by
  have:=putS_le r x;simp only[zpT];split
  ·simp
  split
  ·simp only[List.length_cons]; omega
  ·simp
theorem rmvS_le: ∀(l:List α) (k:κ),(zyC key l k).length <=l.length
 | [],k=>by simp[zyC]
 | y::r,k=>by
  have:=rmvS_le r k;simp only[zyC];split
  ·simp
  ·simp only[List.length_cons]; omega
end
/-- What stays on the way. -/
structure StB (n:Nat) (s:List Module):Prop where
 good:Good s
 len:s.length<=n
 items: ∀m∈s,m.items.length<=n
theorem StB.put{n:Nat}{s:List Module}(h:StB n s){m:Module}(hm:Srt ltP zbg m.items)(hl:m.items.length<=n+1):StB (n+1) (zpT ltS Module.name s m):=
 ⟨h.good.put hm,Nat.le_trans (putS_le _ _) (Nat.succ_le_succ h.len),fun z hz=>by
  rcases zxh hz with rfl | hz
  ·exact hl
  ·exact Nat.le_succ_of_le (h.items z hz)⟩
theorem StB.step{n:Nat}{s s':List Module}(h:StB n s){e:Edit}(hs:zx4 s e=some s'):StB (n+1) s':=by
 unfold zx4 at hs;split at hs
 ·unfold zzb at hs;split at hs
  ·split at hs
   ·cases hs
   ·rename_i hc;have h0:e.head.items=[]:=Classical.byContradiction fun hn=>hc (.inr hn);split at hs
    ·cases hs;exact h.put (by rw[h0]; exact List.Pairwise.nil) (by rw[h0]; exact Nat.zero_le _)
    ·rename_i m hm;cases hs;exact h.put (h.good.parts m (zeI hm).1) (Nat.le_succ_of_le (h.items m (zeI hm).1))
  ·split at hs
   ·cases hs
   ·split at hs
    ·cases hs
    ·cases hs;exact⟨h.good.rmv _,Nat.le_succ_of_le (Nat.le_trans (rmvS_le _ _) h.len),fun z hz=>Nat.le_succ_of_le (h.items z (zxi hz))⟩
 ·unfold zl8 at hs;split at hs
  ·cases hs
  ·rename_i m hm;have hsm:=h.good.parts m (zeI hm).1;have hlm:=h.items m (zeI hm).1;split at hs
   ·split at hs
    ·cases hs
    ·cases hs;exact h.put (Srt.ins zuJ _ hsm) (Nat.le_trans (putS_le _ _) (Nat.succ_le_succ hlm))
   ·split at hs
    ·cases hs;exact h.put (Srt.del _ hsm) (Nat.le_succ_of_le (Nat.le_trans (rmvS_le _ _) hlm))
    ·cases hs
def zyp(r:Option (List Module)):AV:=
 match r with
 | some s=>.tup [.d (.agg [zax s]),.d (eI 0)]
 | none=>.tup [.d (.agg [.sl []]),.d (eI 160)]
def zzz(x:Item):Bool:=x.kind.1==0
theorem kind0_c(x:Item):FnP Tryz.prog 55 [.agg (zaK x)] (.d (eB (zzz x))) []:=by
 refine FnP.of_eC (own:=[]) (fun _=>[]) zat Tryz.func55 rfl Tryz.call55 Tryz.ntmps55 (Nat.le_of_ble_eq_true rfl) Tryz.results55 (fun hok=> ?_);simp(maxSteps:=4000000) only[ZE,↓reduceIte,pE,pL,pA,pS,pM,pD,zN,qT,qG,qL,qH,qN,qB,qE,qO,qA,qM,zzz]
theorem indexK_c(l:List Item):FnP Tryz.prog 112 [.sl (l.map zaK),.clo (.func 55) [] []] (.d (eI (zgM zzz l))) []:=by
 refine FnP.of_eC (own:=[]) chL zat Tryz.func112 rfl Tryz.call112 Tryz.ntmps112 (Nat.le_of_ble_eq_true rfl) Tryz.results112 (fun hok=> ?_);obtain⟨hl,_⟩:=za9 (zaM hok).1;simp only[ZE,↓reduceIte,pE,pL,pA,pS,pM,pD,zN,qT,qG,qL,qH,qN,qB,qE,qO,qA,qM];refine za1 chL zat l.length (fun i=> ∀j (_:j<i) (hj:j<l.length),zzz l[j]=false) (fun i=>([(0,.d (zbR l)),(1,.d (.clo (.func 55) [] [])),(7,.d (eI l.length)),(8,.d (eI i))],[])) (by simp) (by simp only[ZE,↓reduceIte,pE,pL,pA,pS,pM,pD,zN,qT,qG,qL,qH,qN,qB,qE,qO,qA,qM,List.length_map]) (by simp only[ZE,↓reduceIte,pE,pL,pA,pS,pM,pD]) (fun i hi hI=> ?_);rcases Nat.lt_or_ge i l.length with h | h
 ·have hw:=zaq (show i<9223372036854775807 by omega);simp only[ZE,↓reduceIte,pE,pL,pA,pS,pM,pD,zaw h,zaa h,zai h,List.length_map];have hc:=kind0_c l[i];simp only[ZE,↓reduceIte,pE,pL,pA,pS,pM,pD]at hc;refine EFn.p ?_;simp only[ZE,↓reduceIte,pE,pL,pA,pS,pM,pD];refine zar.i hc ?_;simp only[ZE,↓reduceIte,pE,pL,pA,pS,pM,pD,hw];refine zd8 (fun h3=> ?_) (fun h3=>⟨h,fun j hj hj'=> ?_⟩)
  ·rw[zeP h h3 hI]
  ·rcases Nat.lt_succ_iff_lt_or_eq.1 hj with hj | rfl
   ·exact hI j hj hj'
   ·exact h3
 ·simp only[ZE,↓reduceIte,pE,pL,pA,pS,pM,pD,zaI h,List.length_map];rw[zeO (fun j hj=>hI j (by omega) hj)]
theorem zzw(l:List Item):FnP Tryz.prog 54 [.sl (l.map zaK),.clo (.func 55) [] []] (.d (eB (l.any zzz))) []:=by
 refine FnP.of_eC (own:=[]) chL zat Tryz.func54 rfl Tryz.call54 Tryz.ntmps54 (Nat.le_of_ble_eq_true rfl) Tryz.results54 (fun hok=> ?_);simp only[ZE,↓reduceIte,pE,pL,pA,pS,pM,pD,zN,qT,qG,qL,qH,qN,qB,qE,qO,qA,qM];refine EFn.p ?_;simp(maxSteps:=4000000) only[ZE,↓reduceIte,pE,pL,pA,pS,pM,pD];have hc:=indexK_c l;simp(maxSteps:=4000000) only[ZE,↓reduceIte,pE,pL,pA,pS,pM,pD]at hc;refine zar.i hc ?_;clear hc;simp only[ZE,↓reduceIte,pE,pL,pA,pS,pM,pD,zN,qT,qG,qL,qH,qN,qB,qE,qO,qA,qM,zf0]
open Go.Aw Go.Sort Go.RowKit Go.Lib Go.Shelf
set_option maxRecDepth 1000000
variable {α:Type} [Inhabited α]
/-- What does not change on the way: all but one block of cells. -/
structure Frm (W wr:World) (g:Nat) (e:TypeId) (sz:Nat):Prop where
 os:wr.os=W.os
 tape:wr.tape=W.tape
 output:wr.output=W.output
 size:W.heap.size<=wr.heap.size
 same: ∀b,b<W.heap.size->b≠g->wr.heap[b]? =W.heap[b]?
 cells: ∃cur,wr.heap[g]? =some (.cells cur e (0,0))/\cur.size=sz
theorem Frm.grow{W wr:World}{g:Nat}{e:TypeId}{sz:Nat}(h:Frm W wr g e sz)(hg:g<W.heap.size)(q:Nat)(os':Array Obj):Frm W (grow (wr.drewN q) os') g e sz:=by
 have hb: ∀b,b<wr.heap.size->(Go.Sort.grow (wr.drewN q) os').heap[b]? =wr.heap[b]? :=fun b hb=>by
  show(wr.heap++os')[b]? =_;rw[Array.getElem?_append_left hb]
 have hgw:g<wr.heap.size:=Nat.lt_of_lt_of_le hg h.size;refine⟨h.os,h.tape,h.output,Nat.le_trans h.size (by show wr.heap.size<=(wr.heap++os').size; simp),fun b hlt hne=> ?_,?_⟩
 ·rw[hb b (Nat.lt_of_lt_of_le hlt h.size),h.same b hlt hne]
 ·rw[hb g hgw]; exact h.cells
theorem Frm.put{W wr:World}{g:Nat}{e:TypeId}{sz:Nat}(h:Frm W wr g e sz)(o:Nat)(vs:List Value):Frm W (wr.setCells g o vs) g e sz:=by
 obtain⟨r1,r2,r3,r4⟩:=zlI g vs o wr;obtain⟨cur,h1,h2⟩:=h.cells;exact⟨r1.trans h.os,r2.trans h.tape,r3.trans h.output,by rw[r4]; exact h.size,fun b hlt hne=>by rw[zlH g vs o wr b hne]; exact h.same b hlt hne,_,zoK g vs o wr cur e (0,0) h1,by rw[ztU]; exact h2⟩
theorem Frm.drew{W wr:World}{g:Nat}{e:TypeId}{sz:Nat}(h:Frm W wr g e sz):Frm W wr.drew g e sz:=⟨h.os,h.tape,h.output,h.size,h.same,h.cells⟩
theorem zb3{enc:α->List Value}{k:Nat}{wr:World}{g off:Nat}{d:Array α}(h:HoldsK enc k wr g off d)(hg:g<wr.heap.size)(q:Nat)(os':Array Obj):HoldsK enc k (grow (wr.drewN q) os') g off d:=by
 refine holdsK_grow enc k (wr.drewN q) os' g off d hg ?_;exact h
theorem setMany_set(enc:α->List Value)(k:Nat)(hk: ∀x,(enc x).length =k)(d:Array α)(i:Nat)(x:α)(hi:i<d.size):setMany (flatK enc k d) (i*k) (enc x)=flatK enc k (d.setIfInBounds i x):=by
 have hb:i*k+k<=d.size*k:=by have:=Nat.mul_le_mul_right k (show i+1<=d.size from hi); rwa [Nat.add_mul,Nat.one_mul]at this
 apply Array.ext
 ·simp
 ·intro t h1 h2;have ht:t<d.size*k:=by simpa using h1
  have hk0:0<k:=Nat.pos_of_ne_zero fun h=>by subst h; simp at ht
  rw[<-getElem!_pos _ t h1,<-getElem!_pos _ t h2,get_setMany _ _ _ t (by simpa using ht),get_flatK _ _ _ t ht,get_flatK _ _ _ t (by simpa using ht),hk];have hd:t / k<d.size:=Nat.div_lt_of_lt_mul (by rw[Nat.mul_comm]; exact ht);by_cases e:t / k=i
  ·have h3:i*k<=t/\t<i*k+k:=by
    have a1:=Nat.div_add_mod t k;have a2:=Nat.mod_lt t hk0;rw[e,Nat.mul_comm]at a1;omega
   rw[if_pos h3];have h4:t-i*k=t % k:=by
    have a1:=Nat.div_add_mod t k;rw[e,Nat.mul_comm]at a1;omega
   have hx:(d.setIfInBounds i x)[i]! =x:=by
    rw[getElem!_pos (d.setIfInBounds i x) i (by simpa using hi)];simp
   rw[h4,e,hx]
  ·have h3: ¬(i*k<=t/\t<i*k+k):=fun⟨a,b⟩=>e (by
    apply Nat.div_eq_of_lt_le
    ·exact a
    ·rw[Nat.add_mul,Nat.one_mul]; exact b)
   have hx:(d.setIfInBounds i x)[t / k]! =d[t / k]! :=by
    rw[getElem!_pos (d.setIfInBounds i x) (t / k) (by simpa using hd),getElem!_pos d (t / k) hd];exact Array.getElem_setIfInBounds_ne _ (Ne.symm e)
   rw[if_neg h3,hx]
theorem zvA{enc:α->List Value}{k:Nat}(hk: ∀x,(enc x).length =k){W:World}{g off:Nat}{d:Array α}(h:HoldsK enc k W g off d)(i:Nat)(x:α)(hi:i<d.size):HoldsK enc k (W.setCells g (off+i*k) (enc x)) g off (d.setIfInBounds i x):=by
 have hb:i*k+k<=d.size*k:=by have:=Nat.mul_le_mul_right k (show i+1<=d.size from hi); rwa [Nat.add_mul,Nat.one_mul]at this
 unfold HoldsK;rw[<-setMany_set enc k hk d i x hi];exact holds_setCells_c h (i*k) (enc x) (by rw[hk,size_flatK]; exact hb)
theorem zua{P:Program}(w:World)(t e ty:TypeId)(z:Value)(ht:P.underlying t=some (.slice e))(hv: ∀w,(zeroValue e).run P w= .ok z w)(b o n c:Nat)(hn:0<n)(h1: ∀v∈(Builtin.zeroCells z.cells n).toList,v.oneCell'=true)
  (hc: ∀j,j<(Builtin.zeroCells z.cells n).toList.length ->(w.cell? ⟨b,o+j,none⟩).isSome =true) (hf: ∀j,j<(Builtin.zeroCells z.cells n).toList.length ->w.frozen? ⟨b,o+j,none⟩=false):
  (Builtin.clear_ #[t] ty #[.slice (some ⟨b,o,none⟩) n c]).run P w= .ok (.tuple #[]) (w.setCells b o (Builtin.zeroCells z.cells n).toList):=by
 have hst:=run_storeCells_cells (P:=P) b o (Builtin.zeroCells z.cells n).toList 0 w (by simpa using hc) (by simpa using hf) h1;simp only[Nat.add_zero]at hst;obtain⟨m,rfl⟩: ∃m,n=m+1:=⟨n-1,by omega⟩;simp[Builtin.clear_,run_underlying ht,hv,hst]
theorem zpR{cells:Array Value}(h0:0<cells.size)(h: ∀v∈cells.toList,v.oneCell'=true)(n:Nat): ∀v∈(Builtin.zeroCells cells n).toList,v.oneCell'=true:=by
 intro v hv;simp only[Builtin.zeroCells,Array.toList_map,List.mem_map]at hv;obtain⟨i,_,rfl⟩:=hv;have hi:i % cells.size<cells.size:=Nat.mod_lt _ h0;rw[getElem!_pos cells _ hi];exact h _ (by simp)
structure Hc (p:Prop):Prop where
 out:p
def CompQ(d:Array α)(ef:α->α->Bool)(W:World)(g off cap:Nat)(e:TypeId)(sz:Nat)(e':Ending)(W':World):Prop:=
 ∃m:Nat,e'= .returned (.slice (some ⟨g,off,none⟩) m cap)/\Frm W W' g e sz/\((m=d.size/\ ∀j,j+1<d.size->ef d[j+1]! d[j]! =false)\/(m<d.size/\ ∃j,j+1<d.size/\ef d[j+1]! d[j]! =true))
set_option maxHeartbeats 8000000 in
theorem zwJ{P:Program}(hP:Tryz.prog=P)(enc:α->List Value)(k:Nat)(hk2:k=35)(hk: ∀x,(enc x).length =k)(h1: ∀x,∀v∈enc x,v.oneCell'=true)(ef:α->α->Bool)(gf:Nat)(cb:Array Value)(g off cap sz:Nat)(d:Array α)(W:World)
  (eg: ∀args w,(callFunc gf args).run P w= .ok (.enter gf args) w)
  (hcmp: ∀wr,Frm W wr g 64 sz-> ∀x y:α,Calls P gf (#[.agg (enc x).toArray,.agg (enc y).toArray]++cb) wr fun e w'=>e= .returned (.bool (ef x y))/\ ∃q os',w'=grow (wr.drewN q) os')
  (hH:HoldsK enc k W g off d) (hg: ∃cur,W.heap[g]? =some (.cells cur 64 (0,0))/\cur.size=sz) (hcap:d.size<=cap) (hmx:cap<=9223372036854775807) (hsz:d.size<4611686018427387904):
  Calls P 108 #[.slice (some ⟨g,off,none⟩) d.size cap,.func (.func gf) #[] cb] W (CompQ d ef W g off cap 64 sz):=by
 have F:=Tryz.func108;have zat:=zat;have t0:=Tryz.underlying0; have a0:=Tryz.isAgg0; have z0:=Tryz.sizeOf0; have v0:=Tryz.zeroValue0;have t3:=Tryz.underlying3; have a3:=Tryz.isAgg3; have z3:=Tryz.sizeOf3; have v3:=Tryz.zeroValue3;have t4:=Tryz.underlying4; have a4:=Tryz.isAgg4; have z4:=Tryz.sizeOf4; have v4:=Tryz.zeroValue4;have tS:=Tryz.underlying51; have aS:=Tryz.isAgg51; have zS:=Tryz.sizeOf51; have vS:=Tryz.zeroValue51;have aE:=Tryz.isAgg64; have zE:=Tryz.sizeOf64;have uS:=run_underlying tS;obtain⟨i0,zz,_,hi0,hz0,hzc,_,_,_⟩:=zeW tA51;have hz0v: ∀w,(zeroValue 64).run Tryz.prog w= .ok zz w:=fun w=>by simp[zeroValue,typeInfo,hi0,hz0]
 have hz1: ∀v∈zz.cells.toList,v.oneCell'=true:=by
  have h0:=Tryz.zeroValue64 W;rw[hz0v W]at h0;cases h0;rw[<-List.all_eq_true];kernel_rfl
 have ZV:Hc (∀w,(zeroValue 64).run P w= .ok zz w):=⟨by rw[<-hP]; exact hz0v⟩;have ZS:Hc (zz.cells.size=k):=⟨by rw[hk2]; exact hzc⟩;have ZO:Hc (∀n,∀v∈(Builtin.zeroCells zz.cells n).toList,v.oneCell'=true):=⟨fun n=>zpR (by rw[hzc]; omega) hz1 n⟩;clear hi0 hz0 hzc hz0v hz1;rw[<-hk2]at zE;rw[hP]at F zat t0 a0 z0 v0 t3 a3 z3 v3 t4 a4 z4 v4 tS aS zS vS aE zE uS;clear hk2;obtain⟨cur,hg1,hg2⟩:=hg;have hgW:g<W.heap.size:=(Array.getElem?_eq_some_iff.1 hg1).1;have F0:Frm W W g 64 sz:=⟨rfl,rfl,rfl,Nat.le_refl _,fun _ _ _=>rfl,cur,hg1,hg2⟩;have HC:Hc (∀wr,Frm W wr g 64 sz-> ∀x y:α,Calls P gf (#[.agg (enc x).toArray,.agg (enc y).toArray]++cb) wr fun e w'=>e= .returned (.bool (ef x y))/\ ∃q os',w'=grow (wr.drewN q) os'):=⟨hcmp⟩;have HK:Hc (∀x,(enc x).length =k):=⟨hk⟩;have H1:Hc (∀x,∀v∈enc x,v.oneCell'=true):=⟨h1⟩;have HF0:Hc (Frm W W g 64 sz):=⟨F0⟩;have HH0:Hc (HoldsK enc k W g off d):=⟨hH⟩;clear hcmp hk h1 F0 hH hg1 hg2;by_cases h2:d.size<2
 ·have h2z:(d.size:Int)<2:=by omega
  go_enter F,Tryz.ntmps108
  go_wp2;go_ret;exact⟨d.size,rfl,HF0.out,.inl ⟨rfl,fun j hj=>by omega⟩⟩
 ·have h2z: ¬(d.size:Int)<2:=by omega
  go_enter F,Tryz.ntmps108
  go_wp2
  go_loopg [5] d.size (fun g1 s5 wr=> ∃kk:Nat,1<=kk/\kk<=d.size/\d.size-kk<=g1/\s5= .int .i64 kk/\Hc (HoldsK enc k wr g off d)/\Hc (Frm W wr g 64 sz)/\Hc (∀j,j+1<kk->ef d[j+1]! d[j]! =false))
  case atStart=>exact⟨1,Nat.le_refl _,by omega,by omega,rfl,HH0,HF0,⟨fun j hj=>by omega⟩⟩
  case round=>
   obtain⟨kk,hk1,hkn,hg1,rfl,HH,HF,HA⟩:=hrel;by_cases hlt:kk<d.size
   ·obtain⟨jp,rfl⟩: ∃jp,kk=jp+1:=⟨kk-1,by omega⟩;obtain⟨xj,hxj⟩: ∃x,d[jp+1]! =x:=⟨_,rfl⟩;obtain⟨xp,hxp⟩: ∃x,d[jp]! =x:=⟨_,rfl⟩;have hwp:IntKind.i64.wrap (jp:Int)=(jp:Int):=(by rw[IntKind.wrap_i64]; omega);have jz:(jp:Int)+1<(d.size:Int):=(by omega);have jz1:(jp:Int)<(d.size:Int):=(by omega);have p0:(0:Int)<=(jp:Int)+1:=(by omega);have e0:((jp:Int)+1).toNat =jp+1:=(by omega);have hgw:g<wr.heap.size:=Nat.lt_of_lt_of_le hgW HF.out.size;have lj: ∀n' os',Sem.run P (loadCellsFrom ⟨g,off+(jp+1)*k,none⟩ 0 k #[]) (grow (wr.drewN n') os')= .ok (enc xj).toArray (grow (wr.drewN n') os'):=fun n' os'=>by
     rw[<-hxj]; exact run_loadCellsFrom_list P _ _ _ k (HK.out _) (HoldsK.cells (zb3 HH.out hgw n' os') HK.out (by omega))
    have lp: ∀n' os',Sem.run P (loadCellsFrom ⟨g,off+jp*k,none⟩ 0 k #[]) (grow (wr.drewN n') os')= .ok (enc xp).toArray (grow (wr.drewN n') os'):=fun n' os'=>by
     rw[<-hxp]; exact run_loadCellsFrom_list P _ _ _ k (HK.out _) (HoldsK.cells (zb3 HH.out hgw n' os') HK.out (by omega))
    have hcg: ∀n' os',Calls P gf (#[.agg (enc xj).toArray,.agg (enc xp).toArray]++cb) (grow (wr.drewN n') os') fun e w'=>e= .returned (.bool (ef xj xp))/\ ∃q os'',w'=grow ((grow (wr.drewN n') os').drewN q) os'':=fun n' os'=>
     HC.out _ (HF.out.grow hgW n' os') xj xp
    have HX:Hc (d[jp+1]! =xj/\d[jp]! =xp):=⟨hxj,hxp⟩;clear hxj hxp;cases hev:ef xj xp with
    | false=>
     rw[hev]at hcg
     go_wp2_with fail
     go_quiet_grown (first | (go_at_fn gf; refine Calls.grown_of (hcg _ _)))
     go_wp2
     go_roundg (d.size-(jp+1+1))
     case measure=>omega
     case rel=>
      refine⟨jp+1+1,by omega,by omega,Nat.le_refl _,by go_num,⟨zb3 HH.out hgw _ _⟩,⟨HF.out.grow hgW _ _⟩,⟨fun j hj=> ?_⟩⟩;by_cases e:j=jp
      ·subst e; rw[HX.out.1,HX.out.2]; exact hev
      ·exact HA.out j (by omega)
    | true=>
     rw[hev]at hcg;have hck: ¬(cap=jp+1):=by omega
     go_wp2_with fail
     go_quiet_grown (first | (go_at_fn gf; refine Calls.grown_of (hcg _ _)))
     go_wp2;have HD:Hc (ef d[jp+1]! d[jp]! =true):=⟨by rw[HX.out.1,HX.out.2]; exact hev⟩;have HH2:=zb3 HH.out hgw nq osq;have HF2:=HF.out.grow hgW nq osq;clear lj lp hcg hev HX HA hgw;generalize grow (wr.drewN nq) osq=wq at HH2 HF2 ⊢;have HH3:Hc (HoldsK enc k wq g off d):=⟨HH2⟩;have HF3:Hc (Frm W wq g 64 sz):=⟨HF2⟩;clear HH2 HF2 HH HF
     go_loopg [5,7] d.size (fun g2 s5 s7 wr=> ∃(k5 k7:Nat),s5= .int .i64 k5/\s7= .int .i64 k7/\1<=k5/\1<=k7/\k5<=jp+k7/\jp+1+k7<=d.size/\d.size-(jp+1+k7)<=g2/\ ∃dk:Array α,dk.size=d.size/\Hc (HoldsK enc k wr g off dk)/\Hc (Frm W wr g 64 sz))
     case atStart=>exact⟨jp+1,1,by go_num,rfl,by omega,Nat.le_refl _,by omega,by omega,by omega,d,rfl,HH3,HF3⟩
     case round=>
      obtain⟨k5,k7,rfl,rfl,h51,h71,h57,hle,hg2,dk,hdk,HH,HF⟩:=hrel;by_cases hlt2:jp+1+k7<d.size
      ·obtain⟨q,rfl⟩: ∃q,k7=q+1:=⟨k7-1,by omega⟩;obtain⟨xj,hxj⟩: ∃x,dk[jp+1+(q+1)]! =x:=⟨_,rfl⟩;obtain⟨xp,hxp⟩: ∃x,dk[jp+1+q]! =x:=⟨_,rfl⟩;have hwq:IntKind.i64.wrap (q:Int)=(q:Int):=(by rw[IntKind.wrap_i64]; omega);have qz:(q:Int)+1<((d.size-(jp+1):Nat):Int):=(by omega);have qz1:(q:Int)<((d.size-(jp+1):Nat):Int):=(by omega);have q0:(0:Int)<=(q:Int)+1:=(by omega);have qe0:((q:Int)+1).toNat =q+1:=(by omega);have hgw:g<wr.heap.size:=Nat.lt_of_lt_of_le hgW HF.out.size;have ea:off+(jp+1)*k+(q+1)*k=off+(jp+1+(q+1))*k:=(by rw[Nat.add_mul (jp+1) (q+1) k]; omega);have eb:off+(jp+1)*k+q*k=off+(jp+1+q)*k:=(by rw[Nat.add_mul (jp+1) q k]; omega);have lj: ∀n' os',Sem.run P (loadCellsFrom ⟨g,off+(jp+1)*k+(q+1)*k,none⟩ 0 k #[]) (grow (wr.drewN n') os')= .ok (enc xj).toArray (grow (wr.drewN n') os'):=fun n' os'=>by
        rw[ea,<-hxj]; exact run_loadCellsFrom_list P _ _ _ k (HK.out _) (HoldsK.cells (zb3 HH.out hgw n' os') HK.out (by omega))
       have lp: ∀n' os',Sem.run P (loadCellsFrom ⟨g,off+(jp+1)*k+q*k,none⟩ 0 k #[]) (grow (wr.drewN n') os')= .ok (enc xp).toArray (grow (wr.drewN n') os'):=fun n' os'=>by
        rw[eb,<-hxp]; exact run_loadCellsFrom_list P _ _ _ k (HK.out _) (HoldsK.cells (zb3 HH.out hgw n' os') HK.out (by omega))
       have hcg: ∀n' os',Calls P gf (#[.agg (enc xj).toArray,.agg (enc xp).toArray]++cb) (grow (wr.drewN n') os') fun e w'=>e= .returned (.bool (ef xj xp))/\ ∃q os'',w'=grow ((grow (wr.drewN n') os').drewN q) os'':=fun n' os'=>
        HC.out _ (HF.out.grow hgW n' os') xj xp
       clear ea eb;cases hev:ef xj xp with
       | true=>
        rw[hev]at hcg
        go_wp2_with fail
        go_quiet_grown (first | (go_at_fn gf; refine Calls.grown_of (hcg _ _)))
        go_wp2
        go_roundg (d.size-(jp+1+(q+1+1)))
        case measure=>omega
        case rel=>exact⟨k5,q+1+1,rfl,by go_num,h51,by omega,by omega,by omega,Nat.le_refl _,dk,hdk,⟨zb3 HH.out hgw _ _⟩,⟨HF.out.grow hgW _ _⟩⟩
       | false=>
        rw[hev]at hcg
        go_wp2_with fail
        go_quiet_grown (first | (go_at_fn gf; refine Calls.grown_of (hcg _ _)))
        have HHn:Hc (HoldsK enc k (grow (wr.drewN nq) osq) g off dk):=⟨zb3 HH.out hgw nq osq⟩;have HFn:Hc (Frm W (grow (wr.drewN nq) osq) g 64 sz):=⟨HF.out.grow hgW nq osq⟩;have l2:=lj nq osq;clear lj lp hcg;generalize grow (wr.drewN nq) osq=wq2 at HHn HFn l2 ⊢;have hb5:k5*k+k<=dk.size*k:=(by have:=Nat.mul_le_mul_right k (show k5+1<=dk.size by omega); rwa [Nat.add_mul,Nat.one_mul]at this);have s1:Sem.run P (storeCells ⟨g,off+k5*k,none⟩ (enc xj) 0) wq2= .ok () (wq2.setCells g (off+k5*k) (enc xj)):=stores_of_holds P HHn.out (k5*k) _ (by rw[HK.out,size_flatK]; exact hb5) (H1.out _);have k5z:(k5:Int)<(d.size:Int):=(by omega);have hsJ:(enc xj).length =k:=HK.out _;clear hb5;go_wp2
        go_roundg (d.size-(jp+1+(q+1+1)))
        case measure=>omega
        case rel=>exact⟨k5+1,q+1+1,by go_num,by go_num,by omega,by omega,by omega,by omega,Nat.le_refl _,dk.setIfInBounds k5 xj,by simpa using hdk,⟨zvA HK.out HHn.out k5 xj (by omega)⟩,⟨HFn.out.put _ _⟩⟩
      ·have hend:jp+1+k7=d.size:=(by omega);have k5z:(k5:Int)<=(d.size:Int):=(by omega);have hck5: ¬(cap=k5):=(by omega);have k5c:k5<=cap:=(by omega);have hz: ∀n,(Builtin.zeroCells zz.cells n).toList.length =n*k:=fun n=>by simp[Builtin.zeroCells,ZS.out]
       have hcl: ∀ty c,(Builtin.clear_ #[51] ty #[.slice (some ⟨g,off+k5*k,none⟩) (d.size-k5) c]).run P wr= .ok (.tuple #[]) (wr.setCells g (off+k5*k) (Builtin.zeroCells zz.cells (d.size-k5)).toList):=fun ty c=>by
        have hb5: ∀j,j<(d.size-k5)*k->k5*k+j<dk.size*k:=fun j hj=>by
         have:k5*k+(d.size-k5)*k=dk.size*k:=(by rw[<-Nat.add_mul]; congr 1; omega);omega
        refine zua wr _ _ ty zz tS ZV.out g _ _ c (by omega) (ZO.out _) (fun j hj=> ?_) (fun j hj=> ?_)
        ·rw[hz]at hj;rw[Nat.add_assoc,(HH.out (k5*k+j) (by rw[size_flatK]; exact hb5 j hj)).1]; rfl
        ·rw[hz]at hj;rw[Nat.add_assoc]; exact(HH.out (k5*k+j) (by rw[size_flatK]; exact hb5 j hj)).2
       obtain⟨ZL,hZL⟩: ∃ZL,(Builtin.zeroCells zz.cells (d.size-k5)).toList =ZL:=⟨_,rfl⟩;rw[hZL]at hcl;clear hz hZL;go_wp2;go_ret;exact⟨k5,rfl,HF.out.put _ _,.inr ⟨by omega,jp,by omega,HD.out⟩⟩
   ·have:kk=d.size:=(by omega);subst this;go_wp2;go_ret;exact⟨d.size,rfl,HF.out,.inl ⟨rfl,HA.out⟩⟩
set_option maxHeartbeats 8000000 in
theorem zsn{P:Program}(hP:Tryz.prog=P)(enc:α->List Value)(k:Nat)(hk2:k=4)(hk: ∀x,(enc x).length =k)(h1: ∀x,∀v∈enc x,v.oneCell'=true)(ef:α->α->Bool)(gf:Nat)(cb:Array Value)(g off cap sz:Nat)(d:Array α)(W:World)
  (eg: ∀args w,(callFunc gf args).run P w= .ok (.enter gf args) w)
  (hcmp: ∀wr,Frm W wr g 53 sz-> ∀x y:α,Calls P gf (#[.agg (enc x).toArray,.agg (enc y).toArray]++cb) wr fun e w'=>e= .returned (.bool (ef x y))/\ ∃q os',w'=grow (wr.drewN q) os')
  (hH:HoldsK enc k W g off d) (hg: ∃cur,W.heap[g]? =some (.cells cur 53 (0,0))/\cur.size=sz) (hcap:d.size<=cap) (hmx:cap<=9223372036854775807) (hsz:d.size<4611686018427387904):
  Calls P 113 #[.slice (some ⟨g,off,none⟩) d.size cap,.func (.func gf) #[] cb] W (CompQ d ef W g off cap 53 sz):=by
 have F:=Tryz.func113;have zat:=zat;have t0:=Tryz.underlying0; have a0:=Tryz.isAgg0; have z0:=Tryz.sizeOf0; have v0:=Tryz.zeroValue0;have t3:=Tryz.underlying3; have a3:=Tryz.isAgg3; have z3:=Tryz.sizeOf3; have v3:=Tryz.zeroValue3;have t4:=Tryz.underlying4; have a4:=Tryz.isAgg4; have z4:=Tryz.sizeOf4; have v4:=Tryz.zeroValue4;have tS:=Tryz.underlying28; have aS:=Tryz.isAgg28; have zS:=Tryz.sizeOf28; have vS:=Tryz.zeroValue28;have aE:=Tryz.isAgg53; have zE:=Tryz.sizeOf53;have uS:=run_underlying tS;obtain⟨i0,zz,_,hi0,hz0,hzc,_,_,_⟩:=zeW tA28;have hz0v: ∀w,(zeroValue 53).run Tryz.prog w= .ok zz w:=fun w=>by simp[zeroValue,typeInfo,hi0,hz0]
 have hz1: ∀v∈zz.cells.toList,v.oneCell'=true:=by
  have h0:=Tryz.zeroValue53 W;rw[hz0v W]at h0;cases h0;rw[<-List.all_eq_true];kernel_rfl
 have ZV:Hc (∀w,(zeroValue 53).run P w= .ok zz w):=⟨by rw[<-hP]; exact hz0v⟩;have ZS:Hc (zz.cells.size=k):=⟨by rw[hk2]; exact hzc⟩;have ZO:Hc (∀n,∀v∈(Builtin.zeroCells zz.cells n).toList,v.oneCell'=true):=⟨fun n=>zpR (by rw[hzc]; omega) hz1 n⟩;clear hi0 hz0 hzc hz0v hz1;rw[<-hk2]at zE;rw[hP]at F zat t0 a0 z0 v0 t3 a3 z3 v3 t4 a4 z4 v4 tS aS zS vS aE zE uS;clear hk2;obtain⟨cur,hg1,hg2⟩:=hg;have hgW:g<W.heap.size:=(Array.getElem?_eq_some_iff.1 hg1).1;have F0:Frm W W g 53 sz:=⟨rfl,rfl,rfl,Nat.le_refl _,fun _ _ _=>rfl,cur,hg1,hg2⟩;have HC:Hc (∀wr,Frm W wr g 53 sz-> ∀x y:α,Calls P gf (#[.agg (enc x).toArray,.agg (enc y).toArray]++cb) wr fun e w'=>e= .returned (.bool (ef x y))/\ ∃q os',w'=grow (wr.drewN q) os'):=⟨hcmp⟩;have HK:Hc (∀x,(enc x).length =k):=⟨hk⟩;have H1:Hc (∀x,∀v∈enc x,v.oneCell'=true):=⟨h1⟩;have HF0:Hc (Frm W W g 53 sz):=⟨F0⟩;have HH0:Hc (HoldsK enc k W g off d):=⟨hH⟩;clear hcmp hk h1 F0 hH hg1 hg2;by_cases h2:d.size<2
 ·have h2z:(d.size:Int)<2:=by omega
  go_enter F,Tryz.ntmps113
  go_wp2;go_ret;exact⟨d.size,rfl,HF0.out,.inl ⟨rfl,fun j hj=>by omega⟩⟩
 ·have h2z: ¬(d.size:Int)<2:=by omega
  go_enter F,Tryz.ntmps113
  go_wp2
  go_loopg [5] d.size (fun g1 s5 wr=> ∃kk:Nat,1<=kk/\kk<=d.size/\d.size-kk<=g1/\s5= .int .i64 kk/\Hc (HoldsK enc k wr g off d)/\Hc (Frm W wr g 53 sz)/\Hc (∀j,j+1<kk->ef d[j+1]! d[j]! =false))
  case atStart=>exact⟨1,Nat.le_refl _,by omega,by omega,rfl,HH0,HF0,⟨fun j hj=>by omega⟩⟩
  case round=>
   obtain⟨kk,hk1,hkn,hg1,rfl,HH,HF,HA⟩:=hrel;by_cases hlt:kk<d.size
   ·obtain⟨jp,rfl⟩: ∃jp,kk=jp+1:=⟨kk-1,by omega⟩;obtain⟨xj,hxj⟩: ∃x,d[jp+1]! =x:=⟨_,rfl⟩;obtain⟨xp,hxp⟩: ∃x,d[jp]! =x:=⟨_,rfl⟩;have hwp:IntKind.i64.wrap (jp:Int)=(jp:Int):=(by rw[IntKind.wrap_i64]; omega);have jz:(jp:Int)+1<(d.size:Int):=(by omega);have jz1:(jp:Int)<(d.size:Int):=(by omega);have p0:(0:Int)<=(jp:Int)+1:=(by omega);have e0:((jp:Int)+1).toNat =jp+1:=(by omega);have hgw:g<wr.heap.size:=Nat.lt_of_lt_of_le hgW HF.out.size;have lj: ∀n' os',Sem.run P (loadCellsFrom ⟨g,off+(jp+1)*k,none⟩ 0 k #[]) (grow (wr.drewN n') os')= .ok (enc xj).toArray (grow (wr.drewN n') os'):=fun n' os'=>by
     rw[<-hxj]; exact run_loadCellsFrom_list P _ _ _ k (HK.out _) (HoldsK.cells (zb3 HH.out hgw n' os') HK.out (by omega))
    have lp: ∀n' os',Sem.run P (loadCellsFrom ⟨g,off+jp*k,none⟩ 0 k #[]) (grow (wr.drewN n') os')= .ok (enc xp).toArray (grow (wr.drewN n') os'):=fun n' os'=>by
     rw[<-hxp]; exact run_loadCellsFrom_list P _ _ _ k (HK.out _) (HoldsK.cells (zb3 HH.out hgw n' os') HK.out (by omega))
    have hcg: ∀n' os',Calls P gf (#[.agg (enc xj).toArray,.agg (enc xp).toArray]++cb) (grow (wr.drewN n') os') fun e w'=>e= .returned (.bool (ef xj xp))/\ ∃q os'',w'=grow ((grow (wr.drewN n') os').drewN q) os'':=fun n' os'=>
     HC.out _ (HF.out.grow hgW n' os') xj xp
    have HX:Hc (d[jp+1]! =xj/\d[jp]! =xp):=⟨hxj,hxp⟩;clear hxj hxp;cases hev:ef xj xp with
    | false=>
     rw[hev]at hcg
     go_wp2_with fail
     go_quiet_grown (first | (go_at_fn gf; refine Calls.grown_of (hcg _ _)))
     go_wp2
     go_roundg (d.size-(jp+1+1))
     case measure=>omega
     case rel=>
      refine⟨jp+1+1,by omega,by omega,Nat.le_refl _,by go_num,⟨zb3 HH.out hgw _ _⟩,⟨HF.out.grow hgW _ _⟩,⟨fun j hj=> ?_⟩⟩;by_cases e:j=jp
      ·subst e; rw[HX.out.1,HX.out.2]; exact hev
      ·exact HA.out j (by omega)
    | true=>
     rw[hev]at hcg;have hck: ¬(cap=jp+1):=by omega
     go_wp2_with fail
     go_quiet_grown (first | (go_at_fn gf; refine Calls.grown_of (hcg _ _)))
     go_wp2;have HD:Hc (ef d[jp+1]! d[jp]! =true):=⟨by rw[HX.out.1,HX.out.2]; exact hev⟩;have HH2:=zb3 HH.out hgw nq osq;have HF2:=HF.out.grow hgW nq osq;clear lj lp hcg hev HX HA hgw;generalize grow (wr.drewN nq) osq=wq at HH2 HF2 ⊢;have HH3:Hc (HoldsK enc k wq g off d):=⟨HH2⟩;have HF3:Hc (Frm W wq g 53 sz):=⟨HF2⟩;clear HH2 HF2 HH HF
     go_loopg [5,7] d.size (fun g2 s5 s7 wr=> ∃(k5 k7:Nat),s5= .int .i64 k5/\s7= .int .i64 k7/\1<=k5/\1<=k7/\k5<=jp+k7/\jp+1+k7<=d.size/\d.size-(jp+1+k7)<=g2/\ ∃dk:Array α,dk.size=d.size/\Hc (HoldsK enc k wr g off dk)/\Hc (Frm W wr g 53 sz))
     case atStart=>exact⟨jp+1,1,by go_num,rfl,by omega,Nat.le_refl _,by omega,by omega,by omega,d,rfl,HH3,HF3⟩
     case round=>
      obtain⟨k5,k7,rfl,rfl,h51,h71,h57,hle,hg2,dk,hdk,HH,HF⟩:=hrel;by_cases hlt2:jp+1+k7<d.size
      ·obtain⟨q,rfl⟩: ∃q,k7=q+1:=⟨k7-1,by omega⟩;obtain⟨xj,hxj⟩: ∃x,dk[jp+1+(q+1)]! =x:=⟨_,rfl⟩;obtain⟨xp,hxp⟩: ∃x,dk[jp+1+q]! =x:=⟨_,rfl⟩;have hwq:IntKind.i64.wrap (q:Int)=(q:Int):=(by rw[IntKind.wrap_i64]; omega);have qz:(q:Int)+1<((d.size-(jp+1):Nat):Int):=(by omega);have qz1:(q:Int)<((d.size-(jp+1):Nat):Int):=(by omega);have q0:(0:Int)<=(q:Int)+1:=(by omega);have qe0:((q:Int)+1).toNat =q+1:=(by omega);have hgw:g<wr.heap.size:=Nat.lt_of_lt_of_le hgW HF.out.size;have ea:off+(jp+1)*k+(q+1)*k=off+(jp+1+(q+1))*k:=(by rw[Nat.add_mul (jp+1) (q+1) k]; omega);have eb:off+(jp+1)*k+q*k=off+(jp+1+q)*k:=(by rw[Nat.add_mul (jp+1) q k]; omega);have lj: ∀n' os',Sem.run P (loadCellsFrom ⟨g,off+(jp+1)*k+(q+1)*k,none⟩ 0 k #[]) (grow (wr.drewN n') os')= .ok (enc xj).toArray (grow (wr.drewN n') os'):=fun n' os'=>by
        rw[ea,<-hxj]; exact run_loadCellsFrom_list P _ _ _ k (HK.out _) (HoldsK.cells (zb3 HH.out hgw n' os') HK.out (by omega))
       have lp: ∀n' os',Sem.run P (loadCellsFrom ⟨g,off+(jp+1)*k+q*k,none⟩ 0 k #[]) (grow (wr.drewN n') os')= .ok (enc xp).toArray (grow (wr.drewN n') os'):=fun n' os'=>by
        rw[eb,<-hxp]; exact run_loadCellsFrom_list P _ _ _ k (HK.out _) (HoldsK.cells (zb3 HH.out hgw n' os') HK.out (by omega))
       have hcg: ∀n' os',Calls P gf (#[.agg (enc xj).toArray,.agg (enc xp).toArray]++cb) (grow (wr.drewN n') os') fun e w'=>e= .returned (.bool (ef xj xp))/\ ∃q os'',w'=grow ((grow (wr.drewN n') os').drewN q) os'':=fun n' os'=>
        HC.out _ (HF.out.grow hgW n' os') xj xp
       clear ea eb;cases hev:ef xj xp with
       | true=>
        rw[hev]at hcg
        go_wp2_with fail
        go_quiet_grown (first | (go_at_fn gf; refine Calls.grown_of (hcg _ _)))
        go_wp2
        go_roundg (d.size-(jp+1+(q+1+1)))
        case measure=>omega
        case rel=>exact⟨k5,q+1+1,rfl,by go_num,h51,by omega,by omega,by omega,Nat.le_refl _,dk,hdk,⟨zb3 HH.out hgw _ _⟩,⟨HF.out.grow hgW _ _⟩⟩
       | false=>
        rw[hev]at hcg
        go_wp2_with fail
        go_quiet_grown (first | (go_at_fn gf; refine Calls.grown_of (hcg _ _)))
        have HHn:Hc (HoldsK enc k (grow (wr.drewN nq) osq) g off dk):=⟨zb3 HH.out hgw nq osq⟩;have HFn:Hc (Frm W (grow (wr.drewN nq) osq) g 53 sz):=⟨HF.out.grow hgW nq osq⟩;have l2:=lj nq osq;clear lj lp hcg;generalize grow (wr.drewN nq) osq=wq2 at HHn HFn l2 ⊢;have hb5:k5*k+k<=dk.size*k:=(by have:=Nat.mul_le_mul_right k (show k5+1<=dk.size by omega); rwa [Nat.add_mul,Nat.one_mul]at this);have s1:Sem.run P (storeCells ⟨g,off+k5*k,none⟩ (enc xj) 0) wq2= .ok () (wq2.setCells g (off+k5*k) (enc xj)):=stores_of_holds P HHn.out (k5*k) _ (by rw[HK.out,size_flatK]; exact hb5) (H1.out _);have k5z:(k5:Int)<(d.size:Int):=(by omega);have hsJ:(enc xj).length =k:=HK.out _;clear hb5;go_wp2
        go_roundg (d.size-(jp+1+(q+1+1)))
        case measure=>omega
        case rel=>exact⟨k5+1,q+1+1,by go_num,by go_num,by omega,by omega,by omega,by omega,Nat.le_refl _,dk.setIfInBounds k5 xj,by simpa using hdk,⟨zvA HK.out HHn.out k5 xj (by omega)⟩,⟨HFn.out.put _ _⟩⟩
      ·have hend:jp+1+k7=d.size:=(by omega);have k5z:(k5:Int)<=(d.size:Int):=(by omega);have hck5: ¬(cap=k5):=(by omega);have k5c:k5<=cap:=(by omega);have hz: ∀n,(Builtin.zeroCells zz.cells n).toList.length =n*k:=fun n=>by simp[Builtin.zeroCells,ZS.out]
       have hcl: ∀ty c,(Builtin.clear_ #[28] ty #[.slice (some ⟨g,off+k5*k,none⟩) (d.size-k5) c]).run P wr= .ok (.tuple #[]) (wr.setCells g (off+k5*k) (Builtin.zeroCells zz.cells (d.size-k5)).toList):=fun ty c=>by
        have hb5: ∀j,j<(d.size-k5)*k->k5*k+j<dk.size*k:=fun j hj=>by
         have:k5*k+(d.size-k5)*k=dk.size*k:=(by rw[<-Nat.add_mul]; congr 1; omega);omega
        refine zua wr _ _ ty zz tS ZV.out g _ _ c (by omega) (ZO.out _) (fun j hj=> ?_) (fun j hj=> ?_)
        ·rw[hz]at hj;rw[Nat.add_assoc,(HH.out (k5*k+j) (by rw[size_flatK]; exact hb5 j hj)).1]; rfl
        ·rw[hz]at hj;rw[Nat.add_assoc]; exact(HH.out (k5*k+j) (by rw[size_flatK]; exact hb5 j hj)).2
       obtain⟨ZL,hZL⟩: ∃ZL,(Builtin.zeroCells zz.cells (d.size-k5)).toList =ZL:=⟨_,rfl⟩;rw[hZL]at hcl;clear hz hZL;go_wp2;go_ret;exact⟨k5,rfl,HF.out.put _ _,.inr ⟨by omega,jp,by omega,HD.out⟩⟩
   ·have:kk=d.size:=(by omega);subst this;go_wp2;go_ret;exact⟨d.size,rfl,HF.out,.inl ⟨rfl,HA.out⟩⟩
open Go.Aw Go.Sort Go.RowKit Go.Lib
set_option maxHeartbeats 8000000
theorem zqI{W:World}{F:Nat->Prop}: ∀(m b off:Nat),zbJ W F 0 (List.replicate m []) b off
 | 0,_,_=>trivial
 | m+1,b,off=>by
  rw[List.replicate_succ];exact⟨⟨rfl,trivial⟩,zqI m b (off+0)⟩
/-- The memory behind a call that gives up its array and keeps a variable. -/
theorem mem_box{P:Program}{W:World}{F O0:Nat->Prop}{Oi:zbI}{η:Nat->Value}{S:Nat->List Nat}(hm:Mem ⟨P,N0,W,F,O0,[],[],fun _=>undef⟩ Oi W F η S)(hO0: ∀b,O0 b↔ ∃id,b∈S id){W':World}{g:Nat}{e:TypeId}{sz:Nat}{cs:List AV}(h3:Oi 3=some (.box cs))(hcs: ∃ds:List D,cs=ds.map AV.d)
  (hg:g∈S 0) (hf:Frm W W' g e sz):Mem ⟨P,N0,W,F,O0,[],[],fun _=>undef⟩ (om [(3,.box cs)]) W' (fun b=>F b\/b=g) η (fun i=>if i=3 then S 3 else []):=by
 have hgO:O0 g:=(hO0 g).2 ⟨0,hg⟩;obtain⟨hgF,hgW,_⟩:=hm.apart 0 g hg;have hom: ∀id o,om [(3,AO.box cs)] id=some o->id=3/\o= .box cs:=by
  intro id o ho;simp only[om]at ho;split at ho
  ·rename_i h; exact⟨h,(Option.some.inj ho).symm⟩
  ·cases ho
 have hF: ∀b,F b->(F b\/b=g)/\W'.heap[b]? =W.heap[b]? :=fun b hb=>⟨.inl hb,hf.same b (hm.flt b hb) (fun h=>hgF (h▸hb))⟩;have h3g: ∀b∈S 3,b≠g:=fun b hb h=>by
  have:=hm.sep 3 0 b hb (by rw[h]; exact hg);cases this
 refine⟨hf.os,hf.tape,hf.output,hf.size,fun b hb hnb=>hf.same b hb (fun h=>hnb (h▸hgO)),fun b h=>.inl h,?_,?_,?_,?_,?_,?_,?_,by simp,?_,by simp⟩
 ·rintro b (h | h)
  ·exact Nat.lt_of_lt_of_le (hm.flt b h) hf.size
  ·subst h; exact Nat.lt_of_lt_of_le hgW hf.size
 ·rintro b (h | h) _
  ·exact .inl h
  ·subst h; exact .inr hgO
 ·intro id o ho;obtain⟨rfl,rfl⟩:=hom id o ho;obtain⟨b,cur,e',q1,q2,q3,q4⟩:=hm.obj 3 _ h3;obtain⟨ds,rfl⟩:=hcs;refine⟨b,cur,e',q1,by simp only[if_true]; exact q2,?_,?_⟩
  ·rw[hf.same b (Array.getElem?_eq_some_iff.1 q3).1 (h3g b (by rw[q2]; simp))]; exact q3
  ·refine zaN.pres (new:=[]) (O:=om [(3,.box (ds.map AV.d))]) (η:=η) (za7.refl _ _) hF _ _ ?_ ?_
   ·have: ∀ds:List D,AV.noRefs [] (ds.map AV.d):=by
     intro ds
     induction ds with
     | nil=>trivial
     | cons d ds ih=>exact⟨trivial,ih⟩
    exact this ds
   ·have: ∀(ds:List D) (vs:List Value),zaN Oi W F η (ds.map AV.d) vs->zaN (om [(3,.box (ds.map AV.d))]) W F η (ds.map AV.d) vs:=by
     intro ds0 vs;have key: ∀(O:zbI) (ds:List D) (vs:List Value),zaN Oi W F η (ds.map AV.d) vs->zaN O W F η (ds.map AV.d) vs:=by
      intro O ds
      induction ds with
      | nil=>intro vs h; simpa [zaN]using h
      | cons d ds ih=>
       intro vs h;simp only[List.map_cons,zaN]at h ⊢;obtain⟨v,rest,rfl,a,b⟩:=h;exact⟨v,rest,rfl,by simpa only[zaL]using a,ih _ b⟩
     exact key _ ds0 vs
    exact this ds _ q4
 ·intro id ho;by_cases h:id=3
  ·subst h; simp[om]at ho
  ·simp[h]
 ·intro id b hb;by_cases h:id=3
  ·simp only[h,if_true]at hb;obtain⟨a1,a2,a3⟩:=hm.apart 3 b hb;exact⟨fun hc=>hc.elim a1 (h3g b hb),Nat.lt_of_lt_of_le a2 hf.size,a3⟩
  ·simp[h]at hb
 ·intro id id' b hb hb';by_cases h:id=3
  ·by_cases h':id'=3
   ·rw[h,h']
   ·simp[h']at hb'
  ·simp[h]at hb
 ·intro id;by_cases h:id=3
  ·simp only[h,if_true]; exact hm.nd 3
  ·simp[h]
 ·intro id lim fam stop l rest ho;have:=(hom id _ ho).2;cases this
theorem sameItem_w{P:Program}(hP:Tryz.prog=P)(k:Nat)(hk2:k=35)(ra rb:Array Value)(sa:ra.size=k)(sb:rb.size=k)(c:Int)(bx:Nat)(w:World)(hb:w.cell? ⟨bx,0,none⟩=some (.func (.func 53) #[] #[]))
  (hi: ∀W,Calls P 53 #[.agg ra,.agg rb] W fun e w'=>e= .returned (.int .i64 c)/\ ∃q os',w'=grow (W.drewN q) os'):
  Calls P 109 #[.agg ra,.agg rb,.pointer (some ⟨bx,0,none⟩)] w fun e w'=>e= .returned (.bool (c==0))/\ ∃q os',w'=grow (w.drewN q) os':=by
 have F:=Tryz.func109;have zat:=zat;have t0:=Tryz.underlying0; have a0:=Tryz.isAgg0; have z0:=Tryz.sizeOf0; have v0:=Tryz.zeroValue0;have t3:=Tryz.underlying3; have a3:=Tryz.isAgg3; have z3:=Tryz.sizeOf3; have v3:=Tryz.zeroValue3;have t4:=Tryz.underlying4; have a4:=Tryz.isAgg4; have z4:=Tryz.sizeOf4; have v4:=Tryz.zeroValue4;have aF:=Tryz.isAgg109; have zF:=Tryz.sizeOf109;have aE:=Tryz.isAgg64; have zE:=Tryz.sizeOf64;rw[<-hk2]at zE;have eg:=Tryz.call53;rw[hP]at F zat t0 a0 z0 v0 t3 a3 z3 v3 t4 a4 z4 v4 aE zE aF zF eg;clear hk2;have hb2:((w.alloc (.cells ra 64)).alloc (.cells rb 64)).cell? ⟨bx,0,none⟩=some (.func (.func 53) #[] #[]):=cell?_alloc_some _ (cell?_alloc_some _ hb);have la:Sem.run P (loadCellsFrom ⟨w.heap.size,0,none⟩ 0 k #[]) ((w.alloc (.cells ra 64)).alloc (.cells rb 64))= .ok ra ((w.alloc (.cells ra 64)).alloc (.cells rb 64)):=by
  have h:=run_loadCellsFrom_list P ((w.alloc (.cells ra 64)).alloc (.cells rb 64)) ⟨w.heap.size,0,none⟩ ra.toList k (by rw[Array.length_toList]; exact sa) (fun j v hj=>by
   rw[Addr.add_lit];refine cell?_alloc_some _ ?_;simp only[World.cell?,World.alloc_heap_new,Nat.zero_add];simpa using hj)
  simpa using h
 have lb:Sem.run P (loadCellsFrom ⟨w.heap.size+1,0,none⟩ 0 k #[]) ((w.alloc (.cells ra 64)).alloc (.cells rb 64))= .ok rb ((w.alloc (.cells ra 64)).alloc (.cells rb 64)):=by
  have hh:=World.alloc_heap_new (w.alloc (.cells ra 64)) (.cells rb 64);rw[World.size_alloc]at hh;have h:=run_loadCellsFrom_list P ((w.alloc (.cells ra 64)).alloc (.cells rb 64)) ⟨w.heap.size+1,0,none⟩ rb.toList k (by rw[Array.length_toList]; exact sb) (fun j v hj=>by
   rw[Addr.add_lit];simp only[World.cell?,hh,Nat.zero_add];simpa using hj)
  simpa using h
 clear hb sa sb
 go_enter F,Tryz.ntmps109
 go_wp2_with (go_at_call 53; refine(hi _).mono ?_; rintro e w' ⟨rfl,q,os',rfl⟩)
 go_ret;refine⟨rfl,q,#[.cells ra 64,.cells rb 64]++os',?_⟩;have e1:grow (grow w #[.cells ra 64]) #[.cells rb 64]=grow w #[.cells ra 64,.cells rb 64]:=by rw[grow_grow]; rfl
 rw[alloc_eq_grow,alloc_eq_grow,e1];show grow (grow (w.drewN q) #[.cells ra 64,.cells rb 64]) os'=_;rw[grow_grow]
theorem sameModule_w{P:Program}(hP:Tryz.prog=P)(k:Nat)(hk2:k=4)(ra rb:Array Value)(sa:ra.size=k)(sb:rb.size=k)(c:Int)(bx:Nat)(w:World)(hb:w.cell? ⟨bx,0,none⟩=some (.func (.func 57) #[] #[]))
  (hi: ∀W,Calls P 57 #[.agg ra,.agg rb] W fun e w'=>e= .returned (.int .i64 c)/\ ∃q os',w'=grow (W.drewN q) os'):
  Calls P 114 #[.agg ra,.agg rb,.pointer (some ⟨bx,0,none⟩)] w fun e w'=>e= .returned (.bool (c==0))/\ ∃q os',w'=grow (w.drewN q) os':=by
 have F:=Tryz.func114;have zat:=zat;have t0:=Tryz.underlying0; have a0:=Tryz.isAgg0; have z0:=Tryz.sizeOf0; have v0:=Tryz.zeroValue0;have t3:=Tryz.underlying3; have a3:=Tryz.isAgg3; have z3:=Tryz.sizeOf3; have v3:=Tryz.zeroValue3;have t4:=Tryz.underlying4; have a4:=Tryz.isAgg4; have z4:=Tryz.sizeOf4; have v4:=Tryz.zeroValue4;have aF:=Tryz.isAgg113; have zF:=Tryz.sizeOf113;have aE:=Tryz.isAgg53; have zE:=Tryz.sizeOf53;rw[<-hk2]at zE;have eg:=Tryz.call57;rw[hP]at F zat t0 a0 z0 v0 t3 a3 z3 v3 t4 a4 z4 v4 aE zE aF zF eg;clear hk2;have hb2:((w.alloc (.cells ra 53)).alloc (.cells rb 53)).cell? ⟨bx,0,none⟩=some (.func (.func 57) #[] #[]):=cell?_alloc_some _ (cell?_alloc_some _ hb);have la:Sem.run P (loadCellsFrom ⟨w.heap.size,0,none⟩ 0 k #[]) ((w.alloc (.cells ra 53)).alloc (.cells rb 53))= .ok ra ((w.alloc (.cells ra 53)).alloc (.cells rb 53)):=by
  have h:=run_loadCellsFrom_list P ((w.alloc (.cells ra 53)).alloc (.cells rb 53)) ⟨w.heap.size,0,none⟩ ra.toList k (by rw[Array.length_toList]; exact sa) (fun j v hj=>by
   rw[Addr.add_lit];refine cell?_alloc_some _ ?_;simp only[World.cell?,World.alloc_heap_new,Nat.zero_add];simpa using hj)
  simpa using h
 have lb:Sem.run P (loadCellsFrom ⟨w.heap.size+1,0,none⟩ 0 k #[]) ((w.alloc (.cells ra 53)).alloc (.cells rb 53))= .ok rb ((w.alloc (.cells ra 53)).alloc (.cells rb 53)):=by
  have hh:=World.alloc_heap_new (w.alloc (.cells ra 53)) (.cells rb 53);rw[World.size_alloc]at hh;have h:=run_loadCellsFrom_list P ((w.alloc (.cells ra 53)).alloc (.cells rb 53)) ⟨w.heap.size+1,0,none⟩ rb.toList k (by rw[Array.length_toList]; exact sb) (fun j v hj=>by
   rw[Addr.add_lit];simp only[World.cell?,hh,Nat.zero_add];simpa using hj)
  simpa using h
 clear hb sa sb
 go_enter F,Tryz.ntmps114
 go_wp2_with (go_at_call 57; refine(hi _).mono ?_; rintro e w' ⟨rfl,q,os',rfl⟩)
 go_ret;refine⟨rfl,q,#[.cells ra 53,.cells rb 53]++os',?_⟩;have e1:grow (grow w #[.cells ra 53]) #[.cells rb 53]=grow w #[.cells ra 53,.cells rb 53]:=by rw[grow_grow]; rfl
 rw[alloc_eq_grow,alloc_eq_grow,e1];show grow (grow (w.drewN q) #[.cells ra 53,.cells rb 53]) os'=_;rw[grow_grow]
def zrD(f:Nat):AO:=.box [.d (.clo (.func f) [] [])]
theorem item_x{W:World}{F:Nat->Prop}(x y:Item)(ra rb:List Value)(h1:zav W F (zaK x) ra)(h2:zav W F (zaK y) rb)(w:World):Calls Tryz.prog 53 #[.agg ra.toArray,.agg rb.toArray] w fun e w'=>e= .returned (.int .i64 (zyB (zbg x) (zbg y)))/\ ∃q os',w'=grow (w.drewN q) os':=by
 have l1:=zav.length _ _ h1;have l2:=zav.length _ _ h2;have e35: ∀x:Item,(zaK x).length =35:=fun x=>by simp[zaK,zgL,zb6,zib]
 rw[e35]at l1 l2;have g: ∀(x:Item) (r:List Value),zav W F (zaK x) r->r[0]? =some (.int .i64 x.kind.1)/\r[1]? =some (.string x.name.1):=fun x r h=>by
  unfold zaK at h;simp only[eI,eS,zav,Aw.Rd]at h;obtain⟨v,r1,rfl,rfl,v2,r2,rfl,rfl,_⟩:=h;exact⟨rfl,rfl⟩
 obtain⟨p1,p2⟩:=g x ra h1;obtain⟨q1,q2⟩:=g y rb h2;exact item_w ra.toArray rb.toArray (by simpa using l1) (by simpa using l2) x.kind.1 y.kind.1 x.name.1 y.name.1 (by simpa using p1) (by simpa using p2) (by simpa using q1) (by simpa using q2) w
theorem module_x{W:World}{F:Nat->Prop}(x y:Module)(ra rb:List Value)(h1:zav W F (zaC x) ra)(h2:zav W F (zaC y) rb)(w:World):Calls Tryz.prog 57 #[.agg ra.toArray,.agg rb.toArray] w fun e w'=>e= .returned (.int .i64 (zy2 x.name y.name))/\ ∃q os',w'=grow (w.drewN q) os':=by
 have l1:=zav.length _ _ h1;have l2:=zav.length _ _ h2;have g: ∀(x:Module) (r:List Value),zav W F (zaC x) r->r[0]? =some (.string x.name.1):=fun x r h=>by
  unfold zaC at h;simp only[eS,zav,Aw.Rd]at h;obtain⟨v,r1,rfl,rfl,_⟩:=h;rfl
 exact name_w ra.toArray rb.toArray (by simpa [zaC]using l1) (by simpa [zaC]using l2) x.name.1 y.name.1 (by simpa using g x ra h1) (by simpa using g y rb h2) w
def compQItem(l:List Item)(V:AV)(ol:OL)(new:List Nat):Prop:=
 ∃m,V= .d (.sl (List.replicate m []))/\ol=[(3,zrD 53)]/\new=[]/\((m=l.length/\ ∀i (h:i+1<l.length),zbg l[i+1]≠zbg l[i])\/(m<l.length/\ ∃i,∃h:i+1<l.length,zbg l[i+1]=zbg l[i]))
theorem zo0(ad:Option Addr)(cap:Nat)(v:Value)(W:World):Calls Tryz.prog 108 #[.slice ad 0 cap,v] W fun e w'=>e= .returned (.slice ad 0 cap)/\w'=W:=by
 go_enter Tryz.func108,Tryz.ntmps108
 go_wp2;go_ret;exact⟨rfl,rfl⟩
theorem zwI(l:List Item)(hl:l.length<4611686018427387904):FnL Tryz.prog 108 [.ar 0 l.length,.clo (.func 109) [] [.bp 3 0]] [(0,.arr 64 35 .flat (l.map zaK)),(3,zrD 53)] (compQItem l):=by
 refine⟨fun W bs=>Tryz.call108 bs W,?_⟩;intro W F O0 η S vs hm hO0 hr;simp only[zaN,zaL]at hr;obtain⟨v0,_,rfl,hv0,v1,_,rfl,⟨fs,cbs,rfl,rfl,vb,_,rfl,hvb,rfl⟩,rfl⟩:=hr;have e0:v0=η 0:=(hv0 64 35 .flat (l.map zaK) (by simp[om])).2 (by simp);obtain⟨bx,q1,q2⟩:=hvb [.d (.clo (.func 53) [] [])] (by simp[om,zrD]);obtain⟨b',curb,eb,r1,r2,r3,r4⟩:=hm.obj 3 (zrD 53) (by simp[om]);rw[q1]at r1;simp only[Value.pointer.injEq,Option.some.injEq,Addr.mk.injEq,and_true]at r1;subst r1;have hbx:W.cell? ⟨bx,0,none⟩=some (.func (.func 53) #[] #[]):=by
  simp only[zaN,zaL,Aw.Rd,zav]at r4;obtain⟨u,rest,e1,⟨a,b,rfl,rfl,rfl⟩,rfl⟩:=r4;simp only[World.cell?,r3];have:curb=#[.func (.func 53) #[] #[]]:=by apply Array.ext'; simpa using e1
  subst this;rfl
 have hbW:bx<W.heap.size:=(Array.getElem?_eq_some_iff.1 r3).1;obtain⟨_,hkk,hcase⟩:=hm.obj 0 (.arr 64 35 .flat (l.map zaK)) (by simp[om]);subst e0 q2;have fin: ∀(g:Nat) (hg:g∈S 0) (W':World) (sz:Nat) (m cap:Nat) (_:m<=cap) (_:cap<=maxLen),Frm W W' g 64 sz->((m=l.length/\ ∀i (h:i+1<l.length),zbg l[i+1]≠zbg l[i])\/(m<l.length/\ ∃i,∃h:i+1<l.length,zbg l[i+1]=zbg l[i]))->
   ∃v V Oo new F' η' S',Ending.returned (.slice (some ⟨g,0,none⟩) m cap)= .returned v/\(∃ol,Oo=om ol/\compQItem l V ol new)/\(∀i∈new,∀lim fam stop l rest,Oo i≠some (.ext lim fam stop l rest))/\
    Mem ⟨Tryz.prog,N0,W,F,O0,[],[],fun _=>undef⟩ Oo W' F' η' S'/\zaL Oo W' F' η' V v/\za7 (om [(0,.arr 64 35 .flat (l.map zaK)),(3,zrD 53)]) Oo η η' new:=by
  intro g hg W' sz m cap hmc hcx hfr hd;refine⟨_,.d (.sl (List.replicate m [])),_,[],_,η,_,rfl,⟨_,rfl,m,rfl,rfl,rfl,hd⟩,by simp,mem_box (cs:=[.d (.clo (.func 53) [] [])]) hm hO0 (by simp[om,zrD]) ⟨[_],rfl⟩ hg hfr,?_,?_⟩
  ·simp only[zaL,Aw.Rd,List.length_replicate];exact⟨⟨_,cap,rfl,hmc,fun _=>⟨g,0,0,rfl,.inr rfl,zqI m g 0⟩⟩,Nat.le_trans hmc hcx⟩
  ·intro id o' ho;simp only[om]at ho;split at ho
   ·rename_i h3;subst h3;cases ho;exact .inr ⟨_,by simp only[om,zrD]; rfl,rfl⟩
   ·cases ho
 rcases hcase with⟨⟨ad,hv⟩,hes,hS⟩ | ⟨g,cap,cur,s1,hv,hg,hle,hcap,hcur,hs,hC⟩
 ·have hl0:l=[]:=List.map_eq_nil_iff.1 hes;subst hl0;rw[hv];refine(zo0 ad 0 _ W).mono ?_;rintro e W' ⟨rfl,rfl⟩;obtain⟨m1,_⟩:=hm.dropL (W':=W') (F':=fun b=>F b\/ ∃id∈[0],b∈S id) [0] (Below.refl _ _) (fun b hb=>.inl hb) (fun b hb=>by
    rcases hb with hb | hb
    ·exact .inl hb
    ·exact .inr (.inr hb))
  have hd:drop (om [(0,AO.arr 64 35 .flat ([].map zaK)),(3,zrD 53)]) [0]=om [(3,zrD 53)]:=by
   funext id;simp only[drop,om,List.mem_singleton];by_cases h0:id=0
   ·subst h0; simp
   ·simp[h0]
  rw[hd]at m1;refine⟨_,.d (.sl (List.replicate 0 [])),_,[],_,η,_,rfl,⟨_,rfl,0,rfl,rfl,rfl,.inl ⟨rfl,fun i h=>by simp at h⟩⟩,by simp,m1,?_,?_⟩
  ·simp only[zaL,Aw.Rd,List.length_replicate];exact⟨⟨ad,0,rfl,Nat.le_refl _,fun h=>absurd rfl h⟩,Nat.zero_le _⟩
  ·intro id o' ho;simp only[om]at ho;split at ho
   ·rename_i h3;subst h3;cases ho;exact .inr ⟨_,by simp only[om,zrD]; rfl,rfl⟩
   ·cases ho
 ·obtain⟨hC2,rfl⟩:=(zuK _ _ _).1 hC;obtain⟨rows,er,hcells,hrow⟩:=zlB zaK l _ hC2;rw[List.length_map]at hv hcells hle;rw[hv];have hgS:g∈S 0:=by rw[hs]; simp
  have hbg:bx≠g:=fun h=>by
   have:=hm.sep 3 0 bx (by rw[r2]; simp) (by rw[h]; exact hgS);cases this
  by_cases hl0:l=[]
  ·subst hl0;refine(zo0 (some ⟨g,0,none⟩) cap _ W).mono ?_;rintro e W' ⟨rfl,rfl⟩;exact fin g hgS W' (cap*35) 0 cap (Nat.zero_le _) hcap ⟨rfl,rfl,rfl,Nat.le_refl _,fun _ _ _=>rfl,cur,hg,hcur⟩ (.inl ⟨rfl,fun i h=>by simp at h⟩)
  have hn:0<l.length:=List.length_pos_iff.2 hl0;have:Inhabited (Fin l.length):=⟨⟨0,hn⟩⟩;obtain⟨enc,henc⟩: ∃enc:Fin l.length->List Value,∀i,enc i=rows[i.1]'(by omega):=⟨fun i=>rows[i.1]'(by omega),fun _=>rfl⟩;have hrd: ∀i:Fin l.length,zav W F (zaK l[i.1]) (enc i):=fun i=>by rw[henc]; exact hrow i.1 i.2 (by omega)
  have hlen: ∀x:Item,(zaK x).length =35:=fun x=>by simp[zaK,zgL,zb6,zib]
  have hek: ∀i,(enc i).length =35:=fun i=>by rw[zav.length _ _ (hrd i),hlen]
  have he1: ∀i,∀v∈enc i,v.oneCell'=true:=fun i=>zg6 _ _ (hrd i) (zyv _);obtain⟨d,hd⟩: ∃d:Array (Fin l.length),d=(List.finRange l.length).toArray :=⟨_,rfl⟩;have hdl:d.toList=List.finRange l.length:=by rw[hd]
  have hdz:d.size=l.length:=by rw[hd]; simp
  have hda: ∀j (h:j<l.length),d[j]! =⟨j,h⟩:=fun j h=>by
   rw[getElem!_pos d j (by omega)];simp[hd]
  have hfm:d.toList.flatMap enc=rows.flatten:=by
   rw[hdl,List.flatMap];congr 1;apply List.ext_getElem (by simp[er]);intro i h1 h2;simp[henc]
  have hsz:(flatK enc 35 d).size =l.length*35:=by simp[hdz]
  have hcur':l.length*35<=cur.size:=by rw[hcur]; exact Nat.mul_le_mul_right _ hle
  have hH:HoldsK enc 35 W g 0 d:=by
   intro j hj;rw[hsz]at hj;have hjc:j<cur.size:=by omega
   have e2:cur[j]? =(flatK enc 35 d)[j]? :=by
    have h1:=congrArg (fun x=>x[j]?) hcells;rw[<-hfm,<-zjv enc 35 (by omega) hek]at h1;simp only[List.getElem?_take,hj,if_true,Array.getElem?_toList]at h1;exact h1
   refine⟨?_,by simp[World.frozen?,hg]⟩;simp only[World.cell?,hg,Nat.zero_add];have:(flatK enc 35 d)[j]! =(flatK enc 35 d)[j]'(by rw[hsz]; exact hj):=getElem!_pos _ j (by rw[hsz]; exact hj);simp only[id,this];rw[show(({block:=g,off:=j,spot:=none}:Addr).spot.isSome)=false from rfl];simp only[Bool.false_eq_true,if_false,e2];rw[Array.getElem?_eq_getElem]
  have hcw:=zwJ (P:=Tryz.prog) rfl enc 35 rfl hek he1 (fun a b=>zyB (zbg l[a.1]) (zbg l[b.1])==0) 109 #[.pointer (some ⟨bx,0,none⟩)] g 0 cap (cap*35) d W (fun bs w=>Tryz.call109 bs w)
   (fun wr hfr x y=>by
    have hb2:wr.cell? ⟨bx,0,none⟩=some (.func (.func 53) #[] #[]):=by
     rw[<-hbx];simp only[World.cell?,hfr.same bx hbW hbg]
    refine sameItem_w (P:=Tryz.prog) rfl 35 rfl (enc x).toArray (enc y).toArray (by simpa using hek x) (by simpa using hek y) _ bx wr hb2 (fun w=> ?_);exact item_x l[x.1] l[y.1] (enc x) (enc y) (hrd x) (hrd y) w) hH ⟨cur,hg,hcur⟩ (by omega) hcap (by omega)
  rw[hdz]at hcw;refine hcw.mono ?_;rintro e' W' ⟨m,rfl,hfr,hd2⟩;rw[hdz]at hd2;have hkey: ∀j (h:j+1<l.length),((fun a b:Fin l.length=>zyB (zbg l[a.1]) (zbg l[b.1])==0) d[j+1]! d[j]! =true)↔zbg l[j+1]=zbg l[j]:=fun j h=>by
   rw[hda (j+1) h,hda j (by omega)];simp only[beq_iff_eq];exact zyI _ _
  refine fin g hgS W' _ m cap ?_ hcap hfr ?_
  ·rcases hd2 with⟨h,_⟩ | ⟨h,_⟩ <;> omega
  ·rcases hd2 with⟨h,h'⟩ | ⟨h,j,hj,h'⟩
   ·refine .inl ⟨h,fun j hj hc=> ?_⟩;have:=h' j hj;rw[(hkey j hj).2 hc]at this;cases this
   ·exact .inr ⟨h,j,hj,(hkey j hj).1 h'⟩
def zsl(l:List Module)(V:AV)(ol:OL)(new:List Nat):Prop:=
 ∃m,V= .d (.sl (List.replicate m []))/\ol=[(3,zrD 57)]/\new=[]/\((m=l.length/\ ∀i (h:i+1<l.length),Module.name l[i+1]≠Module.name l[i])\/(m<l.length/\ ∃i,∃h:i+1<l.length,Module.name l[i+1]=Module.name l[i]))
theorem zmh(ad:Option Addr)(cap:Nat)(v:Value)(W:World):Calls Tryz.prog 113 #[.slice ad 0 cap,v] W fun e w'=>e= .returned (.slice ad 0 cap)/\w'=W:=by
 go_enter Tryz.func113,Tryz.ntmps113
 go_wp2;go_ret;exact⟨rfl,rfl⟩
theorem zsm(l:List Module)(hl:l.length<4611686018427387904):FnL Tryz.prog 113 [.ar 0 l.length,.clo (.func 114) [] [.bp 3 0]] [(0,.arr 53 4 .flat (l.map zaC)),(3,zrD 57)] (zsl l):=by
 refine⟨fun W bs=>Tryz.call113 bs W,?_⟩;intro W F O0 η S vs hm hO0 hr;simp only[zaN,zaL]at hr;obtain⟨v0,_,rfl,hv0,v1,_,rfl,⟨fs,cbs,rfl,rfl,vb,_,rfl,hvb,rfl⟩,rfl⟩:=hr;have e0:v0=η 0:=(hv0 53 4 .flat (l.map zaC) (by simp[om])).2 (by simp);obtain⟨bx,q1,q2⟩:=hvb [.d (.clo (.func 57) [] [])] (by simp[om,zrD]);obtain⟨b',curb,eb,r1,r2,r3,r4⟩:=hm.obj 3 (zrD 57) (by simp[om]);rw[q1]at r1;simp only[Value.pointer.injEq,Option.some.injEq,Addr.mk.injEq,and_true]at r1;subst r1;have hbx:W.cell? ⟨bx,0,none⟩=some (.func (.func 57) #[] #[]):=by
  simp only[zaN,zaL,Aw.Rd,zav]at r4;obtain⟨u,rest,e1,⟨a,b,rfl,rfl,rfl⟩,rfl⟩:=r4;simp only[World.cell?,r3];have:curb=#[.func (.func 57) #[] #[]]:=by apply Array.ext'; simpa using e1
  subst this;rfl
 have hbW:bx<W.heap.size:=(Array.getElem?_eq_some_iff.1 r3).1;obtain⟨_,hkk,hcase⟩:=hm.obj 0 (.arr 53 4 .flat (l.map zaC)) (by simp[om]);subst e0 q2;have fin: ∀(g:Nat) (hg:g∈S 0) (W':World) (sz:Nat) (m cap:Nat) (_:m<=cap) (_:cap<=maxLen),Frm W W' g 53 sz->((m=l.length/\ ∀i (h:i+1<l.length),Module.name l[i+1]≠Module.name l[i])\/(m<l.length/\ ∃i,∃h:i+1<l.length,Module.name l[i+1]=Module.name l[i]))->
   ∃v V Oo new F' η' S',Ending.returned (.slice (some ⟨g,0,none⟩) m cap)= .returned v/\(∃ol,Oo=om ol/\zsl l V ol new)/\(∀i∈new,∀lim fam stop l rest,Oo i≠some (.ext lim fam stop l rest))/\
    Mem ⟨Tryz.prog,N0,W,F,O0,[],[],fun _=>undef⟩ Oo W' F' η' S'/\zaL Oo W' F' η' V v/\za7 (om [(0,.arr 53 4 .flat (l.map zaC)),(3,zrD 57)]) Oo η η' new:=by
  intro g hg W' sz m cap hmc hcx hfr hd;refine⟨_,.d (.sl (List.replicate m [])),_,[],_,η,_,rfl,⟨_,rfl,m,rfl,rfl,rfl,hd⟩,by simp,mem_box (cs:=[.d (.clo (.func 57) [] [])]) hm hO0 (by simp[om,zrD]) ⟨[_],rfl⟩ hg hfr,?_,?_⟩
  ·simp only[zaL,Aw.Rd,List.length_replicate];exact⟨⟨_,cap,rfl,hmc,fun _=>⟨g,0,0,rfl,.inr rfl,zqI m g 0⟩⟩,Nat.le_trans hmc hcx⟩
  ·intro id o' ho;simp only[om]at ho;split at ho
   ·rename_i h3;subst h3;cases ho;exact .inr ⟨_,by simp only[om,zrD]; rfl,rfl⟩
   ·cases ho
 rcases hcase with⟨⟨ad,hv⟩,hes,hS⟩ | ⟨g,cap,cur,s1,hv,hg,hle,hcap,hcur,hs,hC⟩
 ·have hl0:l=[]:=List.map_eq_nil_iff.1 hes;subst hl0;rw[hv];refine(zmh ad 0 _ W).mono ?_;rintro e W' ⟨rfl,rfl⟩;obtain⟨m1,_⟩:=hm.dropL (W':=W') (F':=fun b=>F b\/ ∃id∈[0],b∈S id) [0] (Below.refl _ _) (fun b hb=>.inl hb) (fun b hb=>by
    rcases hb with hb | hb
    ·exact .inl hb
    ·exact .inr (.inr hb))
  have hd:drop (om [(0,AO.arr 53 4 .flat ([].map zaC)),(3,zrD 57)]) [0]=om [(3,zrD 57)]:=by
   funext id;simp only[drop,om,List.mem_singleton];by_cases h0:id=0
   ·subst h0; simp
   ·simp[h0]
  rw[hd]at m1;refine⟨_,.d (.sl (List.replicate 0 [])),_,[],_,η,_,rfl,⟨_,rfl,0,rfl,rfl,rfl,.inl ⟨rfl,fun i h=>by simp at h⟩⟩,by simp,m1,?_,?_⟩
  ·simp only[zaL,Aw.Rd,List.length_replicate];exact⟨⟨ad,0,rfl,Nat.le_refl _,fun h=>absurd rfl h⟩,Nat.zero_le _⟩
  ·intro id o' ho;simp only[om]at ho;split at ho
   ·rename_i h3;subst h3;cases ho;exact .inr ⟨_,by simp only[om,zrD]; rfl,rfl⟩
   ·cases ho
 ·obtain⟨hC2,rfl⟩:=(zuK _ _ _).1 hC;obtain⟨rows,er,hcells,hrow⟩:=zlB zaC l _ hC2;rw[List.length_map]at hv hcells hle;rw[hv];have hgS:g∈S 0:=by rw[hs]; simp
  have hbg:bx≠g:=fun h=>by
   have:=hm.sep 3 0 bx (by rw[r2]; simp) (by rw[h]; exact hgS);cases this
  by_cases hl0:l=[]
  ·subst hl0;refine(zmh (some ⟨g,0,none⟩) cap _ W).mono ?_;rintro e W' ⟨rfl,rfl⟩;exact fin g hgS W' (cap*4) 0 cap (Nat.zero_le _) hcap ⟨rfl,rfl,rfl,Nat.le_refl _,fun _ _ _=>rfl,cur,hg,hcur⟩ (.inl ⟨rfl,fun i h=>by simp at h⟩)
  have hn:0<l.length:=List.length_pos_iff.2 hl0;have:Inhabited (Fin l.length):=⟨⟨0,hn⟩⟩;obtain⟨enc,henc⟩: ∃enc:Fin l.length->List Value,∀i,enc i=rows[i.1]'(by omega):=⟨fun i=>rows[i.1]'(by omega),fun _=>rfl⟩;have hrd: ∀i:Fin l.length,zav W F (zaC l[i.1]) (enc i):=fun i=>by rw[henc]; exact hrow i.1 i.2 (by omega)
  have hlen: ∀x:Module,(zaC x).length =4:=fun x=>rfl;have hek: ∀i,(enc i).length =4:=fun i=>by rw[zav.length _ _ (hrd i),hlen]
  have he1: ∀i,∀v∈enc i,v.oneCell'=true:=fun i=>zg6 _ _ (hrd i) (zyq _);obtain⟨d,hd⟩: ∃d:Array (Fin l.length),d=(List.finRange l.length).toArray :=⟨_,rfl⟩;have hdl:d.toList=List.finRange l.length:=by rw[hd]
  have hdz:d.size=l.length:=by rw[hd]; simp
  have hda: ∀j (h:j<l.length),d[j]! =⟨j,h⟩:=fun j h=>by
   rw[getElem!_pos d j (by omega)];simp[hd]
  have hfm:d.toList.flatMap enc=rows.flatten:=by
   rw[hdl,List.flatMap];congr 1;apply List.ext_getElem (by simp[er]);intro i h1 h2;simp[henc]
  have hsz:(flatK enc 4 d).size =l.length*4:=by simp[hdz]
  have hcur':l.length*4<=cur.size:=by rw[hcur]; exact Nat.mul_le_mul_right _ hle
  have hH:HoldsK enc 4 W g 0 d:=by
   intro j hj;rw[hsz]at hj;have hjc:j<cur.size:=by omega
   have e2:cur[j]? =(flatK enc 4 d)[j]? :=by
    have h1:=congrArg (fun x=>x[j]?) hcells;rw[<-hfm,<-zjv enc 4 (by omega) hek]at h1;simp only[List.getElem?_take,hj,if_true,Array.getElem?_toList]at h1;exact h1
   refine⟨?_,by simp[World.frozen?,hg]⟩;simp only[World.cell?,hg,Nat.zero_add];have:(flatK enc 4 d)[j]! =(flatK enc 4 d)[j]'(by rw[hsz]; exact hj):=getElem!_pos _ j (by rw[hsz]; exact hj);simp only[id,this];rw[show(({block:=g,off:=j,spot:=none}:Addr).spot.isSome)=false from rfl];simp only[Bool.false_eq_true,if_false,e2];rw[Array.getElem?_eq_getElem]
  have hcw:=zsn (P:=Tryz.prog) rfl enc 4 rfl hek he1 (fun a b=>zy2 l[a.1].name l[b.1].name ==0) 114 #[.pointer (some ⟨bx,0,none⟩)] g 0 cap (cap*4) d W (fun bs w=>Tryz.call114 bs w)
   (fun wr hfr x y=>by
    have hb2:wr.cell? ⟨bx,0,none⟩=some (.func (.func 57) #[] #[]):=by
     rw[<-hbx];simp only[World.cell?,hfr.same bx hbW hbg]
    refine sameModule_w (P:=Tryz.prog) rfl 4 rfl (enc x).toArray (enc y).toArray (by simpa using hek x) (by simpa using hek y) _ bx wr hb2 (fun w=> ?_);exact module_x l[x.1] l[y.1] (enc x) (enc y) (hrd x) (hrd y) w) hH ⟨cur,hg,hcur⟩ (by omega) hcap (by omega)
  rw[hdz]at hcw;refine hcw.mono ?_;rintro e' W' ⟨m,rfl,hfr,hd2⟩;rw[hdz]at hd2;have hkey: ∀j (h:j+1<l.length),((fun a b:Fin l.length=>zy2 l[a.1].name l[b.1].name ==0) d[j+1]! d[j]! =true)↔Module.name l[j+1]=Module.name l[j]:=fun j h=>by
   rw[hda (j+1) h,hda j (by omega)];simp only[beq_iff_eq];exact zoY _ _
  refine fin g hgS W' _ m cap ?_ hcap hfr ?_
  ·rcases hd2 with⟨h,_⟩ | ⟨h,_⟩ <;> omega
  ·rcases hd2 with⟨h,h'⟩ | ⟨h,j,hj,h'⟩
   ·refine .inl ⟨h,fun j hj hc=> ?_⟩;have:=h' j hj;rw[(hkey j hj).2 hc]at this;cases this
   ·exact .inr ⟨h,j,hj,(hkey j hj).1 h'⟩
set_option maxRecDepth 100000
set_option maxHeartbeats 40000000
theorem adj_nodup{α κ:Type}{lt:κ->κ->Bool}{key:α->κ}(o:TOrd lt){l l':List α}(hp:l.Perm l')(hs:l'.Pairwise fun x y=>lt (key y) (key x)=false):(∀i (h:i+1<l'.length),key l'[i+1]≠key l'[i])↔(l.map key).Nodup :=by
 rw[(hp.map key).nodup_iff];constructor
 ·intro h;rw[List.nodup_iff_pairwise_ne,List.pairwise_iff_getElem];intro i j hi hj hij e;rw[List.length_map]at hi hj;simp only[List.getElem_map]at e;have hp':=List.pairwise_iff_getElem.1 hs;by_cases hj1:j=i+1
  ·subst hj1; exact h i hj e.symm
  ·have h1:=hp' i (i+1) hi (by omega) (by omega);have h2:=hp' (i+1) j (by omega) hj (by omega);rw[<-e]at h2;exact h i (by omega) (o.conn _ _ h1 h2)
 ·intro h i hi e;rw[List.nodup_iff_pairwise_ne,List.pairwise_iff_getElem]at h;have:=h i (i+1) (by rw[List.length_map]; omega) (by rw[List.length_map]; omega) (by omega);simp only[List.getElem_map]at this;exact this e.symm
theorem uniqueItem_g(l:List Item)(hl:l.length<=4000000):FnP Tryz.prog 52 [.sl (l.map zaK),.clo (.func 53) [] []] (.d (eB (decide (l.map zbg).Nodup))) []:=by
 refine FnP.of_eC (own:=[]) (fun i=>if i=2001 then [.flt ⟨[(0,none),(1,none),(2,none),(3,some []),(4,none)]⟩ ⟨[],[]⟩]else []) zat Tryz.func52 rfl Tryz.call52 Tryz.ntmps52 (Nat.le_of_ble_eq_true rfl) Tryz.results52 (fun hok=> ?_);have vc:=zrk l;simp(maxSteps:=4000000) only[ZE,↓reduceIte,pE,pL,pA,pS,pM,pD,zN,qT,qG,qL,qH,qN,qB,qE,qO,qA,qM];refine⟨by kernel_rfl,zaz.i vc ?_⟩;simp(maxSteps:=4000000) only[ZE,↓reduceIte,pE,pL,pA,pS,pM,pD,zN,qT,qG,qL,qH,qN,qB,qE,qO,qA,qM];refine EFn.gV [(90,90)] (sortedItem_c l hl) ?_ ?_
 ·simp(maxSteps:=4000000) only[ZE,↓reduceIte,pE,pL,pA,pS,pM,pD]
 rintro V ol new ⟨rfl,⟨l',hp,hs,rfl⟩,rfl⟩;have hn:=adj_nodup zuJ hp (hs.imp fun{a b} h=>not_cmpP h);have hll:l'.length=l.length:=hp.length_eq.symm;have cc:=zwI l' (by omega);rw[hll]at cc;simp only[zrD]at cc;simp(maxSteps:=4000000) only[ZE,↓reduceIte,pE,pL,pA,pS,pM,pD,zN,qT,qG,qL,qH,qN,qB,qE,qO,qA,qM];refine EFn.gV [(0,90),(3,3)] cc ?_ ?_
 ·simp(maxSteps:=4000000) only[ZE,↓reduceIte,pE,pL,pA,pS,pM,pD]
 rintro V ol new ⟨m,rfl,rfl,rfl,hd⟩;have hd2:((m:Int)==(l.length:Int))=decide (l.map zbg).Nodup :=by
  rw[Bool.eq_iff_iff,beq_iff_eq,decide_eq_true_eq,<-hn];rcases hd with⟨h,h'⟩ | ⟨h,i,hi,h'⟩
  ·exact⟨fun _=>h',fun _=>by omega⟩
  ·exact⟨fun e=>by omega,fun h2=>absurd h' (h2 i hi)⟩
 simp only[zrD];simp(maxSteps:=4000000) only[ZE,↓reduceIte,pE,pL,pA,pS,pM,pD,zN,qT,qG,qL,qH,qN,qB,qE,qO,qA,qM,List.length_replicate,List.length_map,hd2]
theorem zvd(l:List Module)(hl:l.length<=4000000):FnP Tryz.prog 56 [.sl (l.map zaC),.clo (.func 57) [] []] (.d (eB (decide (l.map Module.name).Nodup))) []:=by
 refine FnP.of_eC (own:=[]) (fun i=>if i=2001 then [.flt ⟨[(0,none),(1,none),(2,none),(3,some []),(4,none)]⟩ ⟨[],[]⟩]else []) zat Tryz.func56 rfl Tryz.call56 Tryz.ntmps56 (Nat.le_of_ble_eq_true rfl) Tryz.results56 (fun hok=> ?_);have vc:=znZ l;simp(maxSteps:=4000000) only[ZE,↓reduceIte,pE,pL,pA,pS,pM,pD,zN,qT,qG,qL,qH,qN,qB,qE,qO,qA,qM];refine⟨by kernel_rfl,zaz.i vc ?_⟩;simp(maxSteps:=4000000) only[ZE,↓reduceIte,pE,pL,pA,pS,pM,pD,zN,qT,qG,qL,qH,qN,qB,qE,qO,qA,qM];refine EFn.gV [(90,90)] (znX l hl) ?_ ?_
 ·simp(maxSteps:=4000000) only[ZE,↓reduceIte,pE,pL,pA,pS,pM,pD]
 rintro V ol new ⟨rfl,⟨l',hp,hs,rfl⟩,rfl⟩;have hn:=adj_nodup zrt hp (hs.imp fun{a b} h=>zy6 h);have hll:l'.length=l.length:=hp.length_eq.symm;have cc:=zsm l' (by omega);rw[hll]at cc;simp only[zrD]at cc;simp(maxSteps:=4000000) only[ZE,↓reduceIte,pE,pL,pA,pS,pM,pD,zN,qT,qG,qL,qH,qN,qB,qE,qO,qA,qM];refine EFn.gV [(0,90),(3,3)] cc ?_ ?_
 ·simp(maxSteps:=4000000) only[ZE,↓reduceIte,pE,pL,pA,pS,pM,pD]
 rintro V ol new ⟨m,rfl,rfl,rfl,hd⟩;have hd2:((m:Int)==(l.length:Int))=decide (l.map Module.name).Nodup :=by
  rw[Bool.eq_iff_iff,beq_iff_eq,decide_eq_true_eq,<-hn];rcases hd with⟨h,h'⟩ | ⟨h,i,hi,h'⟩
  ·exact⟨fun _=>h',fun _=>by omega⟩
  ·exact⟨fun e=>by omega,fun h2=>absurd h' (h2 i hi)⟩
 simp only[zrD];simp(maxSteps:=4000000) only[ZE,↓reduceIte,pE,pL,pA,pS,pM,pD,zN,qT,qG,qL,qH,qN,qB,qE,qO,qA,qM,List.length_replicate,List.length_map,hd2]
theorem zii(f:List Module)(hl:f.length<=4000000)(hi: ∀m∈f,m.items.length<=4000000):FnP Tryz.prog 17 [.agg [zax f]] (.d (eB (ze8 f))) []:=by
 refine FnP.of_eC (own:=[]) (fun _=>[]) zat Tryz.func17 rfl Tryz.call17 Tryz.ntmps17 (Nat.le_of_ble_eq_true rfl) Tryz.results17 (fun hok=> ?_);have uc:=zvd f hl;simp only[ZE,↓reduceIte,pE,pL,pA,pS,pM,pD,zN,qT,qG,qL,qH,qN,qB,qE,qO,qA,qM];refine za1 (fun _=>[]) zat f.length (fun i=> ∀j (_:j<i) (h:j<f.length),(f[j].items.map zbg).Nodup /\ ∀x∈f[j].items,x.kind.1≠0) (fun i=>([(1,.bp 1 0),(6,.d (zax f)),(7,.d (eI f.length)),(8,.d (eI i))],[(1,.box [.d (zax f)])])) (by omega) (by simp only[ZE,↓reduceIte,pE,pL,pA,pS,pM,pD,zN,qT,qG,qL,qH,qN,qB,qE,qO,qA,qM,List.length_map]) (by simp only[ZE,↓reduceIte,pE,pL,pA,pS,pM,pD]) (fun i hii hI=> ?_);rcases Nat.lt_or_ge i f.length with h | h
 ·have hw:=zaq (show i<9223372036854775807 by omega);obtain⟨m,hm⟩:=zX (f[i]);have hmm:m∈f:=by rw[<-hm]; exact List.getElem_mem h
  have ui:=uniqueItem_g m.items (hi m hmm);have ci:=zzw m.items;by_cases hnd:(m.items.map zbg).Nodup
  ·rw[decide_eq_true hnd]at ui;cases ha:m.items.any zzz with
   | false=>
    rw[ha]at ci;simp(maxSteps:=4000000) only[ZE,↓reduceIte,pE,pL,pA,pS,pM,pD]at ui ci;simp(maxSteps:=4000000) only[ZE,↓reduceIte,pE,pL,pA,pS,pM,pD,zaw h,zaa h,zai h,hm,zN,qT,qG,qL,qH,qN,qB,qE,qO,qA,qM,List.length_map];refine EFn.p ?_;simp(maxSteps:=4000000) only[ZE,↓reduceIte,pE,pL,pA,pS,pM,pD,zN,qT,qG,qL,qH,qN,qB,qE,qO,qA,qM];refine zar.i ui ?_;simp(maxSteps:=4000000) only[ZE,↓reduceIte,pE,pL,pA,pS,pM,pD,zN,qT,qG,qL,qH,qN,qB,qE,qO,qA,qM];refine EFn.p ?_;simp(maxSteps:=4000000) only[ZE,↓reduceIte,pE,pL,pA,pS,pM,pD,zN,qT,qG,qL,qH,qN,qB,qE,qO,qA,qM];refine zar.i ci ?_;simp(maxSteps:=4000000) only[ZE,↓reduceIte,pE,pL,pA,pS,pM,pD,zN,qT,qG,qL,qH,qN,qB,qE,qO,qA,qM,hw];refine⟨h,fun j hj hj'=> ?_⟩;rcases Nat.lt_succ_iff_lt_or_eq.1 hj with hj | rfl
    ·exact hI j hj hj'
    ·rw[hm];refine⟨hnd,fun x hx h0=> ?_⟩;have:=List.any_eq_false.1 ha x hx;exact this (by simp[zzz,h0])
   | true=>
    have hf:ze8 f=false:=by
     cases hq:ze8 f with
     | false=>rfl
     | true=>
      obtain⟨x,hx,hk⟩:=List.any_eq_true.1 ha;exact absurd (by simpa [zzz]using hk) (((zbU f).1 hq).kinds m hmm x hx)
    rw[hf];rw[ha]at ci;simp(maxSteps:=4000000) only[ZE,↓reduceIte,pE,pL,pA,pS,pM,pD]at ui ci;simp(maxSteps:=4000000) only[ZE,↓reduceIte,pE,pL,pA,pS,pM,pD,zaw h,zaa h,zai h,hm,zN,qT,qG,qL,qH,qN,qB,qE,qO,qA,qM,List.length_map];refine EFn.p ?_;simp(maxSteps:=4000000) only[ZE,↓reduceIte,pE,pL,pA,pS,pM,pD,zN,qT,qG,qL,qH,qN,qB,qE,qO,qA,qM];refine zar.i ui ?_;simp(maxSteps:=4000000) only[ZE,↓reduceIte,pE,pL,pA,pS,pM,pD,zN,qT,qG,qL,qH,qN,qB,qE,qO,qA,qM];refine EFn.p ?_;simp(maxSteps:=4000000) only[ZE,↓reduceIte,pE,pL,pA,pS,pM,pD,zN,qT,qG,qL,qH,qN,qB,qE,qO,qA,qM];refine zar.i ci ?_;simp(maxSteps:=4000000) only[ZE,↓reduceIte,pE,pL,pA,pS,pM,pD,zN,qT,qG,qL,qH,qN,qB,qE,qO,qA,qM,hw]
  ·have hf:ze8 f=false:=by
    cases hq:ze8 f with
    | false=>rfl
    | true=>exact absurd (((zbU f).1 hq).parts m hmm) hnd
   rw[hf];rw[decide_eq_false hnd]at ui;simp(maxSteps:=4000000) only[ZE,↓reduceIte,pE,pL,pA,pS,pM,pD]at ui;simp(maxSteps:=4000000) only[ZE,↓reduceIte,pE,pL,pA,pS,pM,pD,zaw h,zaa h,zai h,hm,zN,qT,qG,qL,qH,qN,qB,qE,qO,qA,qM,List.length_map];refine EFn.p ?_;simp(maxSteps:=4000000) only[ZE,↓reduceIte,pE,pL,pA,pS,pM,pD,zN,qT,qG,qL,qH,qN,qB,qE,qO,qA,qM];refine zar.i ui ?_;simp(maxSteps:=4000000) only[ZE,↓reduceIte,pE,pL,pA,pS,pM,pD,zN,qT,qG,qL,qH,qN,qB,qE,qO,qA,qM]
 ·have hf:ze8 f=decide (f.map Module.name).Nodup :=by
   rw[Bool.eq_iff_iff,decide_eq_true_eq,zbU];refine⟨fun hq=>hq.names,fun hq=>⟨hq,fun m hm=> ?_,fun m hm=> ?_⟩⟩
   ·obtain⟨j,hj,rfl⟩:=List.getElem_of_mem hm;exact(hI j (by omega) hj).1
   ·obtain⟨j,hj,rfl⟩:=List.getElem_of_mem hm;exact(hI j (by omega) hj).2
  rw[hf];simp(maxSteps:=4000000) only[ZE,↓reduceIte,pE,pL,pA,pS,pM,pD,zaI h,zN,qT,qG,qL,qH,qN,qB,qE,qO,qA,qM,List.length_map];refine EFn.p ?_;simp(maxSteps:=4000000) only[ZE,↓reduceIte,pE,pL,pA,pS,pM,pD,zN,qT,qG,qL,qH,qN,qB,qE,qO,qA,qM];refine zar.i uc ?_;simp(maxSteps:=4000000) only[ZE,↓reduceIte,pE,pL,pA,pS,pM,pD,zN,qT,qG,qL,qH,qN,qB,qE,qO,qA,qM]
end Go.Proofs.YtbenhdgpogiadaaGreat
