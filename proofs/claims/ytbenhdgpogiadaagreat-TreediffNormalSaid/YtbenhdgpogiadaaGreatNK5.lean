/-
 CONTRACTS and plain laws. Conditions: those of each law.
-/
import Derived.Test.YtbenhdgpogiadaaGreatNK2
import Derived.Test.YtbenhdgpogiadaaGreatNK4
import Derived.Test.YtbenhdgpogiadaaGreatNK1
import Derived.Test.YtbenhdgpogiadaaGreatNGSr
import Derived.Ground.SlsfProg
set_option linter.unusedSimpArgs false
set_option linter.unusedVariables false
namespace Go.Proofs.YtbenhdgpogiadaaGreat
open Go.Aw
open Nat renaming reduceEqDiff->pE,reduceLT->pL,reduceAdd->pA,reduceSub->pS,reduceMul->pM,reduceLeDiff->pD
open Int renaming reduceToNat->qT,reduceGT->qG,reduceLT->qL,reduceGE->qH,reduceBNe->qN,reduceBEq->qB,reduceLE->qE,reduceNe->qO,reduceAdd->qA,reduceNeg->qM
set_option maxRecDepth 100000
set_option maxHeartbeats 40000000
def zyV(j:Nat):Str:=[sA,sB,sC,sR,sS,sT,sX,zma,zg7,st [113]].getD j emp
theorem litT(j:Nat)(h:j<10):([sA,sB,sC,sR,sS,sT,sX,zma,zg7,st [113]].map fun s=>[eS s]).getD j []=[eS (zyV j)]:=by
 rw[zaa (by simpa using h)];unfold zyV;rw[List.getD_eq_getElem?_getD,List.getElem?_eq_getElem (by simpa using h)]; rfl
theorem names_c(k:Nat)(hk:k<256):FnP Tryz.prog 51 [eU8 k] (.d (eS (zyV (k % 10)))) []:=by
 refine FnP.of_eC (own:=[]) (fun _=>[]) zat Tryz.func51 rfl Tryz.call51 Tryz.ntmps51 (Nat.le_of_ble_eq_true rfl) Tryz.results51 (fun hok=> ?_);have m9:(k:Int).tmod 10=((k % 10:Nat):Int):=(Int.ofNat_tmod _ _).symm;have hj:k % 10<10:=Nat.mod_lt _ (by omega);have l9:=litT _ hj;have b9:(0<=((k % 10:Nat):Int)/\((k % 10:Nat):Int)<10)=True:=by simp; omega
 simp only[List.map_cons,List.map_nil,eS,sA,sB,sC,sR,sS,sT,sX,zma,zg7,st]at l9;simp(maxSteps:=4000000) only[ZE,↓reduceIte,pE,pL,pA,pS,pM,pD,zN,qT,qG,qL,qH,qN,qB,qE,qO,qA,qM,m9,b9,l9];exact⟨by decide,hj⟩
/-! ### Step by step -/
structure K4 where
 a:Nat
 b:Nat
 c:Nat
 d:Nat
def eK4(k:K4):List D:=[eU8 k.a,eU8 k.b,eU8 k.c,eU8 k.d]
def K4.ok(k:K4):Prop:=k.a<256/\k.b<256/\k.c<256/\k.d<256
def spG(f:List Module)(k:K4):List Module:=f.set (k.a % f.length) (zkS k.b k.c k.d (zyV (k.d / 16 % 10)) (f.getD (k.a % f.length) zdP))
def spS(f:List Module)(k:K4):List Module:=if ze8 (spG f k)=true/\zqM (spG f k)<300 then spG f k else f
def zna(x:Raw)(l:List K4):List Module:=(l.take 4).foldl spS (zdG x)
theorem size_fine{n:Nat}{m:Module}(h:Fine n m):zkO m<=2*n+n*(3*n):=by
 have hs: ∀x∈m.items,zkN x<=3*n:=fun x hx=>by
  have h1:=h.sizes x hx;have h2:=h.args x hx;have h3:=h.ports x hx;unfold zkN;rw[zeB];simp only[List.map_cons,List.map_nil,List.sum_cons,List.sum_nil];omega
 have key: ∀l:List Item,(∀x∈l,zkN x<=3*n)->(l.map zkN).sum <=l.length*(3*n):=by
  intro l
  induction l with
  | nil=>intro _; simp
  | cons x l ih=>
   intro hl;have h1:=hl x List.mem_cons_self;have h2:=ih (fun y hy=>hl y (List.mem_cons_of_mem _ hy));rw[List.map_cons,List.sum_cons,List.length_cons,Nat.add_mul,Nat.one_mul];omega
 have h1:=key m.items hs;have h2:m.items.length*(3*n)<=n*(3*n):=Nat.mul_le_mul_right _ h.items;have h3:=h.items;have h4:=h.params;unfold zkO;omega
theorem size_fineF{f:List Module}(hl:f.length<=2){n:Nat}(hn:n<=70)(h: ∀m∈f,Fine n m):zqM f<=9000000:=by
 have hm: ∀m∈f,zkO m<=20000:=fun m hm=>by
  have h1:=size_fine ((h m hm).mono hn);omega
 match f,hl with
 | [],_=>simp[zqM]
 | [a],_=>simp only[zqM,List.map_cons,List.map_nil,List.sum_cons,List.sum_nil]; have:=hm a (by simp); omega
 | [a,b],_=>simp only[zqM,List.map_cons,List.map_nil,List.sum_cons,List.sum_nil]; have:=hm a (by simp); have:=hm b (by simp); omega
/-- What stays on the way. -/
structure SpI (n:Nat) (f:List Module):Prop where
 len:f.length<=2
 pos:0<f.length
 fine: ∀m∈f,Fine (60+n) m
 part:ze8 f=true
theorem zzR(x:Raw):SpI 0 (zdG x):=by
 obtain⟨h1,h2,_⟩:=tid_made x;exact⟨h1,h2,zmu x,parted_made x⟩
theorem spG_fine{n:Nat}{f:List Module}(h:SpI n f)(k:K4): ∀m∈spG f k,Fine (60+(n+1)) m:=by
 have hi:k.a % f.length<f.length:=Nat.mod_lt _ h.pos;intro m hm;unfold spG at hm;rcases List.mem_or_eq_of_mem_set hm with h1 | h1
 ·exact(h.fine m h1).mono (by omega)
 ·rw[h1];refine zqO (n:=60+n) (by omega) _ _ _ _ ?_;have:f.getD (k.a % f.length) zdP=f[k.a % f.length]:=by simp[List.getD,hi]
  rw[this];exact h.fine _ (List.getElem_mem hi)
theorem spI_step{n:Nat}{f:List Module}(h:SpI n f)(k:K4):SpI (n+1) (spS f k):=by
 unfold spS;split
 ·rename_i hc;exact⟨by unfold spG; rw[List.length_set]; exact h.len,by unfold spG; rw[List.length_set]; exact h.pos,spG_fine h k,hc.1⟩
 ·exact⟨h.len,h.pos,fun m hm=>(h.fine m hm).mono (by omega),h.part⟩
theorem zyG(x:Raw)(l:List K4): ∀n,n<=l.length->SpI n ((l.take n).foldl spS (zdG x))
 | 0,_=>zzR x
 | n+1,h=>by
  rw[List.take_succ_eq_append_getElem (by omega),List.foldl_append];exact spI_step (zyG x l n (by omega)) _
theorem zyd(x:Raw)(l:List K4):SpI 4 (zna x l):=by
 unfold zna;have h:=zyG x (l.take 4) (l.take 4).length (Nat.le_refl _);rw[List.take_length]at h;have hl:(l.take 4).length <=4:=by rw[List.length_take]; omega
 exact⟨h.len,h.pos,fun m hm=>(h.fine m hm).mono (by omega),h.part⟩
theorem zys(x:Raw)(hx:x.ok)(l:List K4)(hl: ∀k∈l,k.ok):FnP Tryz.prog 16 [zew x,.sl (l.map eK4)] (.d (.agg [zax (zna x l)])) []:=by
 refine FnP.of_eC (own:=[]) (fun _=>[]) zat Tryz.func16 rfl Tryz.call16 Tryz.ntmps16 (Nat.le_of_ble_eq_true rfl) Tryz.results16 (fun hok=> ?_);have mc:=zh2 x hx;simp only[ZE,↓reduceIte,pE,pL,pA,pS,pM,pD,zew]at mc;simp(maxSteps:=4000000) only[ZE,↓reduceIte,pE,pL,pA,pS,pM,pD,zN,qT,qG,qL,qH,qN,qB,qE,qO,qA,qM,zew];refine EFn.p ?_;simp only[ZE,↓reduceIte,pE,pL,pA,pS,pM,pD,zN,qT,qG,qL,qH,qN,qB,qE,qO,qA,qM];refine zar.i mc ?_;simp only[ZE,↓reduceIte,pE,pL,pA,pS,pM,pD,zN,qT,qG,qL,qH,qN,qB,qE,qO,qA,qM];obtain⟨L,hL⟩:=zX (l.take 4);have hLl:L.length<=l.length/\L.length<=4/\(L.length<4->L.length=l.length):=by rw[<-hL,List.length_take]; omega
 have hsp:zna x l=L.foldl spS (zdG x):=by unfold zna; rw[hL]
 rw[hsp];refine za1 (fun i=>if i=2005 then [.flt ⟨[(0,none),(1,none),(2,none),(3,none),(4,none),(5,none),(6,none),(7,none),(8,none),(9,none),(10,none),(11,none),(12,none),(14,some [])]⟩ ⟨[13],[(14,[13])]⟩]else []) zat L.length (fun _=>True) (fun i=>([(1,.d (.sl (l.map eK4))),(4,.bp 4 0),(5,.bp 5 0),(6,.d (eI i))],[(4,.box [.nils]),(5,.box [.d (zax ((L.take i).foldl spS (zdG x)))])])) trivial ?_ ?_ (fun i hi _=> ?_)
 ·simp only[ZE,↓reduceIte,pE,pL,pA,pS,pM,pD,eK4]
 ·simp only[ZE,↓reduceIte,pE,pL,pA,pS,pM,pD,List.take_zero,List.foldl_nil]
 rcases Nat.lt_or_ge i L.length with h | h
 ·have hw:=zaq (show i<9223372036854775807 by omega);have hil:i<l.length:=by omega
  have d4:decide ((i:Int)<4)=true:=by simp; omega
  have hLi:L[i]=l[i]:=by subst hL; rw[List.getElem_take]
  have hI:=zyG x L i (by omega);have hst:(L.take (i+1)).foldl spS (zdG x)=spS ((L.take i).foldl spS (zdG x)) l[i]:=by
   rw[List.take_succ_eq_append_getElem h,List.foldl_append,hLi]; rfl
  rw[hst];obtain⟨f,hf⟩:=zX ((L.take i).foldl spS (zdG x));rw[hf]at hI ⊢;obtain⟨k,hk⟩:=zX (l[i]);obtain⟨b0,b1,b2,b3⟩:=hl k (hk▸List.getElem_mem hil);rw[hk];have hj:k.a % f.length<f.length:=Nat.mod_lt _ hI.pos;have hg:f.getD (k.a % f.length) zdP=f[k.a % f.length]:=by simp[List.getD,hj]
  have sc:=zyS f k.a k.b k.c k.d (zyV (k.d / 16 % 10)) b0 b1 b2 b3 (by have:=hI.len; omega) _ hj rfl ((hI.fine _ (List.getElem_mem hj)).mono (by omega));have eG:f.set (k.a % f.length) (zkS k.b k.c k.d (zyV (k.d / 16 % 10)) f[k.a % f.length])=spG f k:=by unfold spG; rw[hg]
  rw[eG]at sc;have hGf:=spG_fine hI k;have hGl:(spG f k).length <=2:=by unfold spG; rw[List.length_set]; exact hI.len
  have zc:=size_c (spG f k) (size_fineF hGl (by omega) hGf) (by omega);have pc:=rpart_c (spG f k);have nc:=names_c (k.d / 16) (by omega);have q16:(k.d:Int).tdiv 16=((k.d / 16:Nat):Int):=(Int.ofNat_tdiv _ _).symm;have w16:IntKind.u8.wrap ((k.d / 16:Nat):Int)=((k.d / 16:Nat):Int):=by
   simp only[IntKind.wrap,IntKind.bits,IntKind.signed]; simp; omega
  have hS:spS f k=if ze8 (spG f k)=true/\zqM (spG f k)<300 then spG f k else f:=rfl
  rw[hS];obtain⟨g,hgg⟩:=zX (spG f k);rw[hgg]at sc zc pc ⊢;obtain⟨N,hN⟩:=zX (zyV (k.d / 16 % 10));rw[hN]at sc nc;simp only[ZE,↓reduceIte,pE,pL,pA,pS,pM,pD]at sc zc pc nc;have hkd:((l.map eK4).getD i [])=eK4 k:=by rw[zaa hil,hk]
  simp(maxSteps:=4000000) only[ZE,↓reduceIte,pE,pL,pA,pS,pM,pD,zaw hil,d4,zai hil,zaa hil,hk,eK4,q16,w16,zN,qT,qG,qL,qH,qN,qB,qE,qO,qA,qM,List.length_map];refine⟨by kernel_rfl,by decide,zaz.i nc ?_⟩;simp only[ZE,↓reduceIte,pE,pL,pA,pS,pM,pD,zN,qT,qG,qL,qH,qN,qB,qE,qO,qA,qM];refine zaz.i sc ?_;simp only[ZE,↓reduceIte,pE,pL,pA,pS,pM,pD,zN,qT,qG,qL,qH,qN,qB,qE,qO,qA,qM];refine EFn.p ?_;simp only[ZE,↓reduceIte,pE,pL,pA,pS,pM,pD,zN,qT,qG,qL,qH,qN,qB,qE,qO,qA,qM];refine zar.i pc ?_;rcases Bool.eq_false_or_eq_true (ze8 g)with hp | hp
  ·simp only[ZE,↓reduceIte,pE,pL,pA,pS,pM,pD,zN,qT,qG,qL,qH,qN,qB,qE,qO,qA,qM,hp];refine EFn.p ?_;simp only[ZE,↓reduceIte,pE,pL,pA,pS,pM,pD,zN,qT,qG,qL,qH,qN,qB,qE,qO,qA,qM];refine zar.i zc ?_;rcases Nat.lt_or_ge (zqM g) 300 with hz | hz
   ·have dz:decide ((zqM g:Int)<300)=true:=(by simp; omega);simp only[ZE,↓reduceIte,pE,pL,pA,pS,pM,pD,zN,qT,qG,qL,qH,qN,qB,qE,qO,qA,qM,dz,hw,hz];exact h
   ·have dz:decide ((zqM g:Int)<300)=false:=(by simp; omega);have nz: ¬zqM g<300:=(by omega);simp only[ZE,↓reduceIte,pE,pL,pA,pS,pM,pD,zN,qT,qG,qL,qH,qN,qB,qE,qO,qA,qM,dz,hw,nz];exact h
  ·simp only[ZE,↓reduceIte,pE,pL,pA,pS,pM,pD,zN,qT,qG,qL,qH,qN,qB,qE,qO,qA,qM,hp,hw];exact h
 ·have:i=L.length:=by omega
  subst this;rw[List.take_length];rcases Nat.lt_or_ge L.length 4 with h4 | h4
  ·have e:=hLl.2.2 h4;have dl:decide ((L.length:Int)<(l.length:Int))=false:=by simp; omega
   simp(maxSteps:=4000000) only[ZE,↓reduceIte,pE,pL,pA,pS,pM,pD,dl,zN,qT,qG,qL,qH,qN,qB,qE,qO,qA,qM,List.length_map]
  ·have d4:decide ((L.length:Int)<4)=false:=by simp; omega
   rcases Bool.eq_false_or_eq_true (decide ((L.length:Int)<(l.length:Int)))with dl | dl
   ·simp(maxSteps:=4000000) only[ZE,↓reduceIte,pE,pL,pA,pS,pM,pD,dl,d4,zN,qT,qG,qL,qH,qN,qB,qE,qO,qA,qM,List.length_map]
   ·simp(maxSteps:=4000000) only[ZE,↓reduceIte,pE,pL,pA,pS,pM,pD,dl,zN,qT,qG,qL,qH,qN,qB,qE,qO,qA,qM,List.length_map]
section
open Go.Aw Go.Sort Go.RowKit Go.Shelf
def Tryz.sortItem_ren:Go.Shelf.Ren:=⟨fun | 6=>130 | 15=>171 | 14=>173 | 28=>223 | 29=>224 | 20=>225 | 21=>226 | 22=>227 | 23=>228 | 24=>229 | 25=>230 | 26=>231 | 27=>232 | 46=>264 | 47=>260 | 48=>261 | 49=>265 | 50=>266 | 57=>292 | n=>n,fun | 22=>51 | 24=>64 | 25=>109 | 3=>3 | 39=>253 | 0=>0 | 53=>307 | 55=>309 | 4=>4 | 46=>301 | 45=>300 | 50=>234 | 5=>5 | 9=>9 | 66=>337 | 70=>341 | 76=>362 | 77=>289 | n=>n,fun | n=>n⟩
theorem Tryz.sortItem:Go.Proofs.SlLaysF0.n6 Tryz.prog Tryz.sortItem_ren:={
 mixed:=by kernel_rfl
 f6:=⟨Tryz.f130.name,by decide,Tryz.func130.trans (congrArg some (by kernel_rfl))⟩
 f14:=⟨Tryz.f173.name,by decide,Tryz.func173.trans (congrArg some (by kernel_rfl))⟩
 f15:=Tryz.func171.trans (congrArg some (by kernel_rfl))
 f20:=⟨Tryz.f225.name,by decide,Tryz.func225.trans (congrArg some (by kernel_rfl))⟩
 f21:=⟨Tryz.f226.name,by decide,Tryz.func226.trans (congrArg some (by kernel_rfl))⟩
 f22:=⟨Tryz.f227.name,by decide,Tryz.func227.trans (congrArg some (by kernel_rfl))⟩
 f23:=⟨Tryz.f228.name,by decide,Tryz.func228.trans (congrArg some (by kernel_rfl))⟩
 f24:=⟨Tryz.f229.name,by decide,Tryz.func229.trans (congrArg some (by kernel_rfl))⟩
 f25:=⟨Tryz.f230.name,by decide,Tryz.func230.trans (congrArg some (by kernel_rfl))⟩
 f26:=⟨Tryz.f231.name,by decide,Tryz.func231.trans (congrArg some (by kernel_rfl))⟩
 f27:=⟨Tryz.f232.name,by decide,Tryz.func232.trans (congrArg some (by kernel_rfl))⟩
 f28:=Tryz.func223.trans (congrArg some (by kernel_rfl))
 f29:=Tryz.func224.trans (congrArg some (by kernel_rfl))
 f46:=⟨Tryz.f264.name,by decide,Tryz.func264.trans (congrArg some (by kernel_rfl))⟩
 f47:=Tryz.func260.trans (congrArg some (by kernel_rfl))
 f48:=Tryz.func261.trans (congrArg some (by kernel_rfl))
 f49:=⟨Tryz.f265.name,by decide,Tryz.func265.trans (congrArg some (by kernel_rfl))⟩
 f50:=⟨Tryz.f266.name,by decide,Tryz.func266.trans (congrArg some (by kernel_rfl))⟩
 f57:=⟨Tryz.f292.name,by decide,Tryz.func292.trans (congrArg some (by kernel_rfl))⟩
 t0:=Tryz.underlying0
 a0:=Tryz.isAgg0
 z0:=Tryz.sizeOf0
 v0:=Tryz.zeroValue0
 t3:=Tryz.underlying3
 a3:=Tryz.isAgg3
 z3:=Tryz.sizeOf3
 v3:=Tryz.zeroValue3
 t4:=Tryz.underlying4
 a4:=Tryz.isAgg4
 z4:=Tryz.sizeOf4
 v4:=Tryz.zeroValue4
 t5:=Tryz.underlying5
 a5:=Tryz.isAgg5
 z5:=Tryz.sizeOf5
 v5:=Tryz.zeroValue5
 t9:=Tryz.underlying9
 a9:=Tryz.isAgg9
 z9:=Tryz.sizeOf9
 v9:=Tryz.zeroValue9
 t22:=Tryz.underlying51
 a22:=Tryz.isAgg51
 z22:=Tryz.sizeOf51
 v22:=Tryz.zeroValue51
 t25:=Tryz.underlying109
 a25:=Tryz.isAgg109
 z25:=Tryz.sizeOf109
 v25:=Tryz.zeroValue109
 t39:=Tryz.underlying253
 a39:=Tryz.isAgg253
 z39:=Tryz.sizeOf253
 v39:=Tryz.zeroValue253
 t45:=Tryz.underlying300
 a45:=Tryz.isAgg300
 z45:=Tryz.sizeOf300
 v45:=Tryz.zeroValue300
 t46:=Tryz.underlying301
 a46:=Tryz.isAgg301
 z46:=Tryz.sizeOf301
 v46:=Tryz.zeroValue301
 t50:=Tryz.underlying234
 a50:=Tryz.isAgg234
 z50:=Tryz.sizeOf234
 v50:=Tryz.zeroValue234
 t53:=Tryz.underlying307
 a53:=Tryz.isAgg307
 z53:=Tryz.sizeOf307
 v53:=Tryz.zeroValue307
 t55:=Tryz.underlying309
 a55:=Tryz.isAgg309
 z55:=Tryz.sizeOf309
 v55:=Tryz.zeroValue309
 t66:=Tryz.underlying337
 a66:=Tryz.isAgg337
 z66:=Tryz.sizeOf337
 v66:=Tryz.zeroValue337
 t70:=Tryz.underlying341
 a70:=Tryz.isAgg341
 z70:=Tryz.sizeOf341
 v70:=Tryz.zeroValue341
 t76:=Tryz.underlying362
 a76:=Tryz.isAgg362
 z76:=Tryz.sizeOf362
 v76:=Tryz.zeroValue362
 t77:=Tryz.underlying289
 a77:=Tryz.isAgg289
 z77:=Tryz.sizeOf289
 v77:=Tryz.zeroValue289}
def Tryz.sortMod_ren:Go.Shelf.Ren:=⟨fun | 6=>127 | 15=>171 | 14=>170 | 28=>223 | 29=>224 | 20=>215 | 21=>216 | 22=>217 | 23=>218 | 24=>219 | 25=>220 | 26=>221 | 27=>222 | 46=>259 | 47=>260 | 48=>261 | 49=>262 | 50=>263 | 57=>291 | n=>n,fun | 22=>28 | 24=>53 | 25=>113 | 3=>3 | 39=>253 | 0=>0 | 53=>307 | 55=>309 | 4=>4 | 46=>301 | 45=>300 | 50=>234 | 5=>5 | 9=>9 | 66=>337 | 70=>341 | 76=>362 | 77=>289 | n=>n,fun | n=>n⟩
theorem Tryz.sortMod:Go.Proofs.SlLaysF0.n6 Tryz.prog Tryz.sortMod_ren:={
 mixed:=by kernel_rfl
 f6:=⟨Tryz.f127.name,by decide,Tryz.func127.trans (congrArg some (by kernel_rfl))⟩
 f14:=⟨Tryz.f170.name,by decide,Tryz.func170.trans (congrArg some (by kernel_rfl))⟩
 f15:=Tryz.func171.trans (congrArg some (by kernel_rfl))
 f20:=⟨Tryz.f215.name,by decide,Tryz.func215.trans (congrArg some (by kernel_rfl))⟩
 f21:=⟨Tryz.f216.name,by decide,Tryz.func216.trans (congrArg some (by kernel_rfl))⟩
 f22:=⟨Tryz.f217.name,by decide,Tryz.func217.trans (congrArg some (by kernel_rfl))⟩
 f23:=⟨Tryz.f218.name,by decide,Tryz.func218.trans (congrArg some (by kernel_rfl))⟩
 f24:=⟨Tryz.f219.name,by decide,Tryz.func219.trans (congrArg some (by kernel_rfl))⟩
 f25:=⟨Tryz.f220.name,by decide,Tryz.func220.trans (congrArg some (by kernel_rfl))⟩
 f26:=⟨Tryz.f221.name,by decide,Tryz.func221.trans (congrArg some (by kernel_rfl))⟩
 f27:=⟨Tryz.f222.name,by decide,Tryz.func222.trans (congrArg some (by kernel_rfl))⟩
 f28:=Tryz.func223.trans (congrArg some (by kernel_rfl))
 f29:=Tryz.func224.trans (congrArg some (by kernel_rfl))
 f46:=⟨Tryz.f259.name,by decide,Tryz.func259.trans (congrArg some (by kernel_rfl))⟩
 f47:=Tryz.func260.trans (congrArg some (by kernel_rfl))
 f48:=Tryz.func261.trans (congrArg some (by kernel_rfl))
 f49:=⟨Tryz.f262.name,by decide,Tryz.func262.trans (congrArg some (by kernel_rfl))⟩
 f50:=⟨Tryz.f263.name,by decide,Tryz.func263.trans (congrArg some (by kernel_rfl))⟩
 f57:=⟨Tryz.f291.name,by decide,Tryz.func291.trans (congrArg some (by kernel_rfl))⟩
 t0:=Tryz.underlying0
 a0:=Tryz.isAgg0
 z0:=Tryz.sizeOf0
 v0:=Tryz.zeroValue0
 t3:=Tryz.underlying3
 a3:=Tryz.isAgg3
 z3:=Tryz.sizeOf3
 v3:=Tryz.zeroValue3
 t4:=Tryz.underlying4
 a4:=Tryz.isAgg4
 z4:=Tryz.sizeOf4
 v4:=Tryz.zeroValue4
 t5:=Tryz.underlying5
 a5:=Tryz.isAgg5
 z5:=Tryz.sizeOf5
 v5:=Tryz.zeroValue5
 t9:=Tryz.underlying9
 a9:=Tryz.isAgg9
 z9:=Tryz.sizeOf9
 v9:=Tryz.zeroValue9
 t22:=Tryz.underlying28
 a22:=Tryz.isAgg28
 z22:=Tryz.sizeOf28
 v22:=Tryz.zeroValue28
 t25:=Tryz.underlying113
 a25:=Tryz.isAgg113
 z25:=Tryz.sizeOf113
 v25:=Tryz.zeroValue113
 t39:=Tryz.underlying253
 a39:=Tryz.isAgg253
 z39:=Tryz.sizeOf253
 v39:=Tryz.zeroValue253
 t45:=Tryz.underlying300
 a45:=Tryz.isAgg300
 z45:=Tryz.sizeOf300
 v45:=Tryz.zeroValue300
 t46:=Tryz.underlying301
 a46:=Tryz.isAgg301
 z46:=Tryz.sizeOf301
 v46:=Tryz.zeroValue301
 t50:=Tryz.underlying234
 a50:=Tryz.isAgg234
 z50:=Tryz.sizeOf234
 v50:=Tryz.zeroValue234
 t53:=Tryz.underlying307
 a53:=Tryz.isAgg307
 z53:=Tryz.sizeOf307
 v53:=Tryz.zeroValue307
 t55:=Tryz.underlying309
 a55:=Tryz.isAgg309
 z55:=Tryz.sizeOf309
 v55:=Tryz.zeroValue309
 t66:=Tryz.underlying337
 a66:=Tryz.isAgg337
 z66:=Tryz.sizeOf337
 v66:=Tryz.zeroValue337
 t70:=Tryz.underlying341
 a70:=Tryz.isAgg341
 z70:=Tryz.sizeOf341
 v70:=Tryz.zeroValue341
 t76:=Tryz.underlying362
 a76:=Tryz.isAgg362
 z76:=Tryz.sizeOf362
 v76:=Tryz.zeroValue362
 t77:=Tryz.underlying289
 a77:=Tryz.isAgg289
 z77:=Tryz.sizeOf289
 v77:=Tryz.zeroValue289}
def zyB(a b:Part):Int:=orI [zh1 a.kind.1 b.kind.1,zsi a.name.1 b.name.1]
def zy2(a b:Str):Int:=zsi a.1 b.1
theorem zwE(a b:Str):zsi a.1 b.1<0↔ltS a b=true:=by
 unfold zsi ltS
 repeat' split
 all_goals simp_all
theorem zoY(a b:Str):zsi a.1 b.1=0↔a=b:=by
 unfold zsi;constructor
 ·intro h;split at h
  ·cases h
  split at h
  ·cases h
  ·rename_i h1 h2;simp only[Bool.not_eq_true',Bool.not_eq_false,Bool.or_eq_true,beq_iff_eq]at h1 h2;rcases h2 with h2 | h2
   ·exact absurd h2 h1
   ·exact toList_inj h2
 ·rintro rfl;have:=zsd a.1.toList;simp[this]
theorem zwF(a b:Part):zyB a b<0↔ltP a b=true:=by
 unfold zyB orI zh1 ltP;have h1:=zwE a.name b.name;rcases Int.lt_trichotomy a.kind.1 b.kind.1 with h | h | h
 ·have:a.kind.1≠b.kind.1:=by omega
  simp[h]
 ·rw[h];simp only[Int.lt_irrefl,if_false,decide_false,Bool.false_or,decide_true,Bool.true_and];rw[<-h1];by_cases h0:zsi a.name.1 b.name.1=0
  ·simp[h0]
  ·simp[h0]
 ·have h2: ¬a.kind.1<b.kind.1:=by omega
  have h3: ¬a.kind.1=b.kind.1:=by omega
  simp[h,h2,h3]
theorem swoP{α:Type}(f:α->Part):SWO (ltOf fun a b=>zyB (f a) (f b)):=by
 have e: ∀a b,ltOf (fun a b=>zyB (f a) (f b)) a b=ltP (f a) (f b):=fun a b=>by
  unfold ltOf;rw[Bool.eq_iff_iff,decide_eq_true_eq]; exact zwF _ _
 refine{irrefl:=fun a=>by rw[e]; exact zuJ.irr _,trans:=fun a b c h1 h2=>by rw[e]at*; exact zuJ.tr _ _ _ h1 h2,ntrans:=fun a b c h1 h2=> ?_};rw[e]at*;cases h:ltP (f a) (f c)with
 | false=>rfl
 | true=>
  cases hb:ltP (f b) (f a)with
  | true=>rw[zuJ.tr _ _ _ hb h]at h2; cases h2
  | false=>have:=zuJ.conn _ _ h1 hb; rw[this,h2]at h; cases h
theorem swoN{α:Type}(f:α->Str):SWO (ltOf fun a b=>zy2 (f a) (f b)):=by
 have e: ∀a b,ltOf (fun a b=>zy2 (f a) (f b)) a b=ltS (f a) (f b):=fun a b=>by
  unfold ltOf;rw[Bool.eq_iff_iff,decide_eq_true_eq]; exact zwE _ _
 refine{irrefl:=fun a=>by rw[e]; exact zrt.irr _,trans:=fun a b c h1 h2=>by rw[e]at*; exact zrt.tr _ _ _ h1 h2,ntrans:=fun a b c h1 h2=> ?_};rw[e]at*;cases h:ltS (f a) (f c)with
 | false=>rfl
 | true=>
  cases hb:ltS (f b) (f a)with
  | true=>rw[zrt.tr _ _ _ hb h]at h2; cases h2
  | false=>have:=zrt.conn _ _ h1 hb; rw[this,h2]at h; cases h
theorem sortI_c(l:List Item)(hl:l.length<4611686018427387904):FnL Tryz.prog 130 [.ar 0 l.length,.d (.clo (.func 53) [] [])] [(0,.arr 64 35 .flat (l.map zaK))]
  (fun V ol new=>V= .tup []/\(∃l':List Item,l.Perm l'/\(l'.Pairwise fun x y=> ¬zyB (zbg y) (zbg x)<0)/\ol=[(0,.arr 64 35 .flat (l'.map zaK))])/\new=[]):=by
 refine zxH Tryz.sortItem zaK zbg zyB 35 (by omega) (fun x=>by simp[zaK,zgL,zb6,zib]) (fun x d hd=> ?_) Tryz.isAgg64 Tryz.sizeOf64 swoP 53 (fun bs w=>Tryz.call53 bs w) (fun bs w=>Tryz.call130 bs w) (fun W F x y ra rb h1 h2 w=> ?_) l hl
 ·simp only[zaK,zgL,zb6,zib,eI,eS,ziG,zel,List.cons_append,List.nil_append,List.mem_cons,List.not_mem_nil,or_false]at hd
  repeat' (rcases hd with rfl | hd)
  all_goals (try subst hd)
  all_goals simp[D.one,Value.oneCell']
 ·have l1:=zav.length _ _ h1;have l2:=zav.length _ _ h2;have e35: ∀x:Item,(zaK x).length =35:=fun x=>by simp[zaK,zgL,zb6,zib]
  rw[e35]at l1 l2;have g: ∀(x:Item) (r:List Value),zav W F (zaK x) r->r[0]? =some (.int .i64 x.kind.1)/\r[1]? =some (.string x.name.1):=fun x r h=>by
   unfold zaK at h;simp only[eI,eS,zav,Aw.Rd]at h;obtain⟨v,r1,rfl,rfl,v2,r2,rfl,rfl,_⟩:=h;exact⟨rfl,rfl⟩
  obtain⟨p1,p2⟩:=g x ra h1;obtain⟨q1,q2⟩:=g y rb h2;exact item_w ra.toArray rb.toArray (by simpa using l1) (by simpa using l2) x.kind.1 y.kind.1 x.name.1 y.name.1 (by simpa using p1) (by simpa using p2) (by simpa using q1) (by simpa using q2) w
theorem sortM_c(l:List Module)(hl:l.length<4611686018427387904):FnL Tryz.prog 127 [.ar 0 l.length,.d (.clo (.func 57) [] [])] [(0,.arr 53 4 .flat (l.map zaC))]
  (fun V ol new=>V= .tup []/\(∃l':List Module,l.Perm l'/\(l'.Pairwise fun x y=> ¬zy2 y.name x.name<0)/\ol=[(0,.arr 53 4 .flat (l'.map zaC))])/\new=[]):=by
 refine zxH Tryz.sortMod zaC Module.name zy2 4 (by omega) (fun x=>rfl) (fun x d hd=> ?_) Tryz.isAgg53 Tryz.sizeOf53 swoN 57 (fun bs w=>Tryz.call57 bs w) (fun bs w=>Tryz.call127 bs w) (fun W F x y ra rb h1 h2 w=> ?_) l hl
 ·simp only[zaC,eS,zd5,zbR,List.mem_cons,List.not_mem_nil,or_false]at hd;rcases hd with rfl | rfl | rfl | rfl
  all_goals simp[D.one,Value.oneCell']
 ·have l1:=zav.length _ _ h1;have l2:=zav.length _ _ h2;have g: ∀(x:Module) (r:List Value),zav W F (zaC x) r->r[0]? =some (.string x.name.1):=fun x r h=>by
   unfold zaC at h;simp only[eS,zav,Aw.Rd]at h;obtain⟨v,r1,rfl,rfl,_⟩:=h;rfl
  exact name_w ra.toArray rb.toArray (by simpa [zaC]using l1) (by simpa [zaC]using l2) x.name.1 y.name.1 (by simpa using g x ra h1) (by simpa using g y rb h2) w
end
set_option maxHeartbeats 4000000
def rowOfD:List D->List D
 | [.agg cs]=>cs
 | _=>[]
def zqY(x:Item):List D:=[.agg (zaK x)]
theorem rowItem(l:List Item):(l.map zqY).map rowOfD=l.map zaK:=by rw[List.map_map]; rfl
theorem zxT(l:List Item)(hl:l.length<=4000000):zoR Tryz.prog 131 [.ptr [.sl (l.map zaK)]] (fun pre=> ∃i,i<=l.length/\pre=(l.take i).map zqY) (fun xs=>xs=l.map zqY):=by
 intro lim fam stop lp hY;have:=FnL.of_eC (P:=Tryz.prog) (args:=[.yv 0,.d (.ptr [.sl (l.map zaK)])]) (os:=[(0,.ext lim fam stop lp [])]) (PL:=fun _ ol new=>(∃xs,xs=l.map zqY/\ol=[(0,.ext lim fam stop lp xs)]/\new=[])\/(ol=[(0,.ext lim (fun _=>stop) stop lp [])]/\new=[])) (own:=[]) (fun _=>[]) [0] zat Tryz.func131 rfl Tryz.call131 Tryz.ntmps131 (Nat.le_of_ble_eq_true rfl) Tryz.results131 ?_
 ·refine this.mono ?_;rintro V Oo new ⟨ol,rfl,⟨xs,h1,rfl,h2⟩ | ⟨rfl,h2⟩⟩
  ·exact .inl ⟨xs,h1,rfl,h2⟩
  ·exact .inr ⟨rfl,h2⟩
 simp only[ZE,↓reduceIte,pE,pL,pA,pS,pM,pD,zN,qT,qG,qL,qH,qN,qB,qE,qO,qA,qM];refine za1 (fun _=>[]) zat l.length (fun _=>True) (fun i=>([(0,.yv 0),(5,.d (.sl (l.map zaK))),(6,.d (eI l.length)),(7,.d (eI i))],[(0,.ext lim fam stop lp ((l.take i).map zqY))])) trivial ?_ ?_ (fun i hi _=> ?_)
 ·simp only[ZE,↓reduceIte,pE,pL,pA,pS,pM,pD,zN,qT,qG,qL,qH,qN,qB,qE,qO,qA,qM,List.length_map]
 ·simp only[ZE,↓reduceIte,pE,pL,pA,pS,pM,pD,List.take_zero,List.map_nil]
 rcases Nat.lt_or_ge i l.length with h | h
 ·have hw:=zaq (show i<9223372036854775807 by omega);have ht:(l.take (i+1)).map zqY=(l.take i).map zqY++[zqY l[i]]:=by rw[List.take_succ_eq_append_getElem h,List.map_append]; rfl
  rw[ht];simp(maxSteps:=4000000) only[ZE,↓reduceIte,pE,pL,pA,pS,pM,pD,zaw h,zaa h,zai h,zN,qT,qG,qL,qH,qN,qB,qE,qO,qA,qM,zqY,List.length_map];refine⟨_,hY,⟨i+1,h,?_⟩,?_,?_⟩
  ·rw[ht];simp only[ZE,↓reduceIte,pE,pL,pA,pS,pM,pD,zqY]
  ·simp only[ZE,↓reduceIte,pE,pL,pA,pS,pM,pD,zN,qT,qG,qL,qH,qN,qB,qE,qO,qA,qM,hw];exact h
  ·simp only[ZE,↓reduceIte,pE,pL,pA,pS,pM,pD,zN,qT,qG,qL,qH,qN,qB,qE,qO,qA,qM];refine⟨[4],[],?_⟩;simp only[ZE,↓reduceIte,pE,pL,pA,pS,pM,pD]
 ·have:i=l.length:=by omega
  subst this;simp(maxSteps:=4000000) only[ZE,↓reduceIte,pE,pL,pA,pS,pM,pD,zaI h,zN,qT,qG,qL,qH,qN,qB,qE,qO,qA,qM,List.take_length];refine⟨[],[],?_⟩;simp only[ZE,↓reduceIte,pE,pL,pA,pS,pM,pD];exact .inl ⟨_,rfl,rfl⟩
theorem zr6(l:List Item)(hl:l.length<=4000000):FnL Tryz.prog 172 [.nils,.d (.clo (.func 131) [] [.ptr [.sl (l.map zaK)]])] [] (fun V ol new=>V= .ar 90 l.length/\ol=[(90,.arr 64 35 .flat (l.map zaK))]/\new=[90]):=by
 refine FnL.of_eC (own:=[]) (fun id=>if id=0 then [.adB 2 0 90 64 35]else []) [] zat Tryz.func172 rfl Tryz.call172 Tryz.ntmps172 (Nat.le_of_ble_eq_true rfl) Tryz.results172 ?_;simp only[ZE,↓reduceIte,pE,pL,pA,pS,pM,pD];refine zq4 zat (fun _=>[]) rfl (by simp only[ZE,↓reduceIte,pE,pL,pA,pS,pM,pD]) (zxT l hl) (fun pre=>[(2,.box [.ar 90 pre.length]),(90,.arr 64 35 .flat (pre.map rowOfD))]) ?_ ?_ ?_ ?_ ?_
 ·simp only[ZE,↓reduceIte,pE,pL,pA,pS,pM,pD]
 ·intro pre; simp[zdU,zie]
 ·simp only[ZE,↓reduceIte,pE,pL,pA,pS,pM,pD,psOk,zeQ]
 ·rintro pre x ⟨i,hi,h3⟩;have hlen:(pre++[x]).length <=4000000:=by rw[h3,List.length_map,List.length_take]; omega
  simp only[List.length_append,List.length_cons,List.length_nil]at hlen;obtain⟨p,rfl⟩: ∃p,x=zqY p:=by
   have:x∈(l.take i).map zqY:=by rw[<-h3]; simp
   obtain⟨p,_,rfl⟩:=List.mem_map.1 this;exact⟨p,rfl⟩
  simp only[zqY,ZE,↓reduceIte,pE,pL,pA,pS,pM,pD,zve,zl0,zdU,zie,zrn,zeQ];refine⟨⟨by omega,by omega⟩,by simp,by simp,?_⟩;rw[List.map_append]; rfl
 ·rintro xs rfl;simp only[ZE,↓reduceIte,pE,pL,pA,pS,pM,pD];refine⟨[2],[90],?_⟩;simp only[ZE,↓reduceIte,pE,pL,pA,pS,pM,pD,List.length_map];rw[rowItem]
theorem zoZ(l:List Item)(hl:l.length<=4000000):FnL Tryz.prog 129 [.d (.clo (.func 131) [] [.ptr [.sl (l.map zaK)]])] [] (fun V ol new=>V= .ar 90 l.length/\ol=[(90,.arr 64 35 .flat (l.map zaK))]/\new=[90]):=by
 refine FnL.of_eC (own:=[]) (fun id=>[]) [] zat Tryz.func129 rfl Tryz.call129 Tryz.ntmps129 (Nat.le_of_ble_eq_true rfl) Tryz.results129 ?_;simp only[ZE,↓reduceIte,pE,pL,pA,pS,pM,pD];refine EFn.g ⟨[(90,90)],[.nils,.d (.clo (.func 131) [] [.ptr [.sl (l.map zaK)]])],_,_,zr6 l hl,?_⟩;simp only[ZE,↓reduceIte,pE,pL,pA,pS,pM,pD];rintro V ol new ⟨rfl,rfl,rfl⟩;simp only[ZE,↓reduceIte,pE,pL,pA,pS,pM,pD];refine⟨[],[90],?_⟩;simp only[ZE,↓reduceIte,pE,pL,pA,pS,pM,pD]
theorem sortedItem_c(l:List Item)(hl:l.length<=4000000):FnL Tryz.prog 77 [.d (.clo (.func 131) [] [.ptr [.sl (l.map zaK)]]),.d (.clo (.func 53) [] [])] [] (fun V ol new=>V= .ar 90 l.length/\(∃l':List Item,l.Perm l'/\(l'.Pairwise fun x y=> ¬zyB (zbg y) (zbg x)<0)/\ol=[(90,.arr 64 35 .flat (l'.map zaK))])/\new=[90]):=by
 refine FnL.of_eC (own:=[]) (fun id=>[]) [] zat Tryz.func77 rfl Tryz.call77 Tryz.ntmps77 (Nat.le_of_ble_eq_true rfl) Tryz.results77 ?_;simp only[ZE,↓reduceIte,pE,pL,pA,pS,pM,pD];refine EFn.g ⟨[(90,90)],[.d (.clo (.func 131) [] [.ptr [.sl (l.map zaK)]])],_,_,zoZ l hl,?_⟩;simp only[ZE,↓reduceIte,pE,pL,pA,pS,pM,pD];rintro V ol new ⟨rfl,rfl,rfl⟩;simp only[ZE,↓reduceIte,pE,pL,pA,pS,pM,pD];refine EFn.g ⟨[(0,90)],[.ar 0 l.length,.d (.clo (.func 53) [] [])],_,_,sortI_c l (by omega),?_⟩;simp only[ZE,↓reduceIte,pE,pL,pA,pS,pM,pD];rintro V ol new ⟨rfl,⟨l',hp,hs,rfl⟩,rfl⟩;simp only[ZE,↓reduceIte,pE,pL,pA,pS,pM,pD];refine⟨[],[90],?_⟩;simp only[ZE,↓reduceIte,pE,pL,pA,pS,pM,pD];exact⟨l',hp,hs,rfl⟩
def zhh(x:Module):List D:=[.agg (zaC x)]
theorem rowModule(l:List Module):(l.map zhh).map rowOfD=l.map zaC:=by rw[List.map_map]; rfl
theorem zuC(l:List Module)(hl:l.length<=4000000):zoR Tryz.prog 128 [.ptr [.sl (l.map zaC)]] (fun pre=> ∃i,i<=l.length/\pre=(l.take i).map zhh) (fun xs=>xs=l.map zhh):=by
 intro lim fam stop lp hY;have:=FnL.of_eC (P:=Tryz.prog) (args:=[.yv 0,.d (.ptr [.sl (l.map zaC)])]) (os:=[(0,.ext lim fam stop lp [])]) (PL:=fun _ ol new=>(∃xs,xs=l.map zhh/\ol=[(0,.ext lim fam stop lp xs)]/\new=[])\/(ol=[(0,.ext lim (fun _=>stop) stop lp [])]/\new=[])) (own:=[]) (fun _=>[]) [0] zat Tryz.func128 rfl Tryz.call128 Tryz.ntmps128 (Nat.le_of_ble_eq_true rfl) Tryz.results128 ?_
 ·refine this.mono ?_;rintro V Oo new ⟨ol,rfl,⟨xs,h1,rfl,h2⟩ | ⟨rfl,h2⟩⟩
  ·exact .inl ⟨xs,h1,rfl,h2⟩
  ·exact .inr ⟨rfl,h2⟩
 simp only[ZE,↓reduceIte,pE,pL,pA,pS,pM,pD,zN,qT,qG,qL,qH,qN,qB,qE,qO,qA,qM];refine za1 (fun _=>[]) zat l.length (fun _=>True) (fun i=>([(0,.yv 0),(5,.d (.sl (l.map zaC))),(6,.d (eI l.length)),(7,.d (eI i))],[(0,.ext lim fam stop lp ((l.take i).map zhh))])) trivial ?_ ?_ (fun i hi _=> ?_)
 ·simp only[ZE,↓reduceIte,pE,pL,pA,pS,pM,pD,zN,qT,qG,qL,qH,qN,qB,qE,qO,qA,qM,List.length_map]
 ·simp only[ZE,↓reduceIte,pE,pL,pA,pS,pM,pD,List.take_zero,List.map_nil]
 rcases Nat.lt_or_ge i l.length with h | h
 ·have hw:=zaq (show i<9223372036854775807 by omega);have ht:(l.take (i+1)).map zhh=(l.take i).map zhh++[zhh l[i]]:=by rw[List.take_succ_eq_append_getElem h,List.map_append]; rfl
  rw[ht];simp(maxSteps:=4000000) only[ZE,↓reduceIte,pE,pL,pA,pS,pM,pD,zaw h,zaa h,zai h,zN,qT,qG,qL,qH,qN,qB,qE,qO,qA,qM,zhh,List.length_map];refine⟨_,hY,⟨i+1,h,?_⟩,?_,?_⟩
  ·rw[ht];simp only[ZE,↓reduceIte,pE,pL,pA,pS,pM,pD,zhh]
  ·simp only[ZE,↓reduceIte,pE,pL,pA,pS,pM,pD,zN,qT,qG,qL,qH,qN,qB,qE,qO,qA,qM,hw];exact h
  ·simp only[ZE,↓reduceIte,pE,pL,pA,pS,pM,pD,zN,qT,qG,qL,qH,qN,qB,qE,qO,qA,qM];refine⟨[4],[],?_⟩;simp only[ZE,↓reduceIte,pE,pL,pA,pS,pM,pD]
 ·have:i=l.length:=by omega
  subst this;simp(maxSteps:=4000000) only[ZE,↓reduceIte,pE,pL,pA,pS,pM,pD,zaI h,zN,qT,qG,qL,qH,qN,qB,qE,qO,qA,qM,List.take_length];refine⟨[],[],?_⟩;simp only[ZE,↓reduceIte,pE,pL,pA,pS,pM,pD];exact .inl ⟨_,rfl,rfl⟩
theorem zpZ(l:List Module)(hl:l.length<=4000000):FnL Tryz.prog 169 [.nils,.d (.clo (.func 128) [] [.ptr [.sl (l.map zaC)]])] [] (fun V ol new=>V= .ar 90 l.length/\ol=[(90,.arr 53 4 .flat (l.map zaC))]/\new=[90]):=by
 refine FnL.of_eC (own:=[]) (fun id=>if id=0 then [.adB 2 0 90 53 4]else []) [] zat Tryz.func169 rfl Tryz.call169 Tryz.ntmps169 (Nat.le_of_ble_eq_true rfl) Tryz.results169 ?_;simp only[ZE,↓reduceIte,pE,pL,pA,pS,pM,pD];refine zq4 zat (fun _=>[]) rfl (by simp only[ZE,↓reduceIte,pE,pL,pA,pS,pM,pD]) (zuC l hl) (fun pre=>[(2,.box [.ar 90 pre.length]),(90,.arr 53 4 .flat (pre.map rowOfD))]) ?_ ?_ ?_ ?_ ?_
 ·simp only[ZE,↓reduceIte,pE,pL,pA,pS,pM,pD]
 ·intro pre; simp[zdU,zie]
 ·simp only[ZE,↓reduceIte,pE,pL,pA,pS,pM,pD,psOk,zeQ]
 ·rintro pre x ⟨i,hi,h3⟩;have hlen:(pre++[x]).length <=4000000:=by rw[h3,List.length_map,List.length_take]; omega
  simp only[List.length_append,List.length_cons,List.length_nil]at hlen;obtain⟨p,rfl⟩: ∃p,x=zhh p:=by
   have:x∈(l.take i).map zhh:=by rw[<-h3]; simp
   obtain⟨p,_,rfl⟩:=List.mem_map.1 this;exact⟨p,rfl⟩
  simp only[zhh,ZE,↓reduceIte,pE,pL,pA,pS,pM,pD,zve,zl0,zdU,zie,zrn,zeQ];refine⟨⟨by omega,by omega⟩,by simp,by simp,?_⟩;rw[List.map_append]; rfl
 ·rintro xs rfl;simp only[ZE,↓reduceIte,pE,pL,pA,pS,pM,pD];refine⟨[2],[90],?_⟩;simp only[ZE,↓reduceIte,pE,pL,pA,pS,pM,pD,List.length_map];rw[rowModule]
theorem zsk(l:List Module)(hl:l.length<=4000000):FnL Tryz.prog 126 [.d (.clo (.func 128) [] [.ptr [.sl (l.map zaC)]])] [] (fun V ol new=>V= .ar 90 l.length/\ol=[(90,.arr 53 4 .flat (l.map zaC))]/\new=[90]):=by
 refine FnL.of_eC (own:=[]) (fun id=>[]) [] zat Tryz.func126 rfl Tryz.call126 Tryz.ntmps126 (Nat.le_of_ble_eq_true rfl) Tryz.results126 ?_;simp only[ZE,↓reduceIte,pE,pL,pA,pS,pM,pD];refine EFn.g ⟨[(90,90)],[.nils,.d (.clo (.func 128) [] [.ptr [.sl (l.map zaC)]])],_,_,zpZ l hl,?_⟩;simp only[ZE,↓reduceIte,pE,pL,pA,pS,pM,pD];rintro V ol new ⟨rfl,rfl,rfl⟩;simp only[ZE,↓reduceIte,pE,pL,pA,pS,pM,pD];refine⟨[],[90],?_⟩;simp only[ZE,↓reduceIte,pE,pL,pA,pS,pM,pD]
theorem znX(l:List Module)(hl:l.length<=4000000):FnL Tryz.prog 75 [.d (.clo (.func 128) [] [.ptr [.sl (l.map zaC)]]),.d (.clo (.func 57) [] [])] [] (fun V ol new=>V= .ar 90 l.length/\(∃l':List Module,l.Perm l'/\(l'.Pairwise fun x y=> ¬zy2 y.name x.name<0)/\ol=[(90,.arr 53 4 .flat (l'.map zaC))])/\new=[90]):=by
 refine FnL.of_eC (own:=[]) (fun id=>[]) [] zat Tryz.func75 rfl Tryz.call75 Tryz.ntmps75 (Nat.le_of_ble_eq_true rfl) Tryz.results75 ?_;simp only[ZE,↓reduceIte,pE,pL,pA,pS,pM,pD];refine EFn.g ⟨[(90,90)],[.d (.clo (.func 128) [] [.ptr [.sl (l.map zaC)]])],_,_,zsk l hl,?_⟩;simp only[ZE,↓reduceIte,pE,pL,pA,pS,pM,pD];rintro V ol new ⟨rfl,rfl,rfl⟩;simp only[ZE,↓reduceIte,pE,pL,pA,pS,pM,pD];refine EFn.g ⟨[(0,90)],[.ar 0 l.length,.d (.clo (.func 57) [] [])],_,_,sortM_c l (by omega),?_⟩;simp only[ZE,↓reduceIte,pE,pL,pA,pS,pM,pD];rintro V ol new ⟨rfl,⟨l',hp,hs,rfl⟩,rfl⟩;simp only[ZE,↓reduceIte,pE,pL,pA,pS,pM,pD];refine⟨[],[90],?_⟩;simp only[ZE,↓reduceIte,pE,pL,pA,pS,pM,pD];exact⟨l',hp,hs,rfl⟩
set_option maxHeartbeats 20000000
theorem zrk(l:List Item):FnP Tryz.prog 78 [.sl (l.map zaK)] (.d (.clo (.func 131) [] [.ptr [.sl (l.map zaK)]])) []:=by
 refine FnP.of_eC (own:=[]) (fun _=>[]) zat Tryz.func78 rfl Tryz.call78 Tryz.ntmps78 (Nat.le_of_ble_eq_true rfl) Tryz.results78 (fun hok=> ?_);simp(maxSteps:=4000000) only[ZE,↓reduceIte,pE,pL,pA,pS,pM,pD,zN,qT,qG,qL,qH,qN,qB,qE,qO,qA,qM]
theorem znZ(l:List Module):FnP Tryz.prog 76 [.sl (l.map zaC)] (.d (.clo (.func 128) [] [.ptr [.sl (l.map zaC)]])) []:=by
 refine FnP.of_eC (own:=[]) (fun _=>[]) zat Tryz.func76 rfl Tryz.call76 Tryz.ntmps76 (Nat.le_of_ble_eq_true rfl) Tryz.results76 (fun hok=> ?_);simp(maxSteps:=4000000) only[ZE,↓reduceIte,pE,pL,pA,pS,pM,pD,zN,qT,qG,qL,qH,qN,qB,qE,qO,qA,qM]
theorem not_cmpP{x y:Part}(h: ¬zyB x y<0):ltP x y=false:=by
 cases hq:ltP x y with
 | false=>rfl
 | true=>exact absurd ((zwF x y).2 hq) h
theorem zy6{x y:Str}(h: ¬zy2 x y<0):ltS x y=false:=by
 cases hq:ltS x y with
 | false=>rfl
 | true=>exact absurd ((zwE x y).2 hq) h
/-- Items with one place each,sorted,as data. -/
theorem zyA(l:List Item)(hl:l.length<=4000000)(hn:(l.map zbg).Nodup):FnP Tryz.prog 77 [.clo (.func 131) [] [.ptr [.sl (l.map zaK)]],.clo (.func 53) [] []] (.d (.sl ((zl7 ltP zbg l).map zaK))) []:=by
 refine FnP.of_eC (own:=[]) (fun i=>if i=2 then [.frz 90]else []) zat Tryz.func77 rfl Tryz.call77 Tryz.ntmps77 (Nat.le_of_ble_eq_true rfl) Tryz.results77 (fun hok=> ?_);simp only[ZE,↓reduceIte,pE,pL,pA,pS,pM,pD];refine EFn.g ⟨[(90,90)],[.d (.clo (.func 131) [] [.ptr [.sl (l.map zaK)]])],_,_,zoZ l hl,?_⟩;simp only[ZE,↓reduceIte,pE,pL,pA,pS,pM,pD];rintro V ol new ⟨rfl,rfl,rfl⟩;simp only[ZE,↓reduceIte,pE,pL,pA,pS,pM,pD];refine EFn.g ⟨[(0,90)],[.ar 0 l.length,.d (.clo (.func 53) [] [])],_,_,sortI_c l (by omega),?_⟩;simp only[ZE,↓reduceIte,pE,pL,pA,pS,pM,pD];rintro V ol new ⟨rfl,⟨l',hp,hs,rfl⟩,rfl⟩;have e:l'=zl7 ltP zbg l:=zrj zuJ hn hp (hs.imp fun{a b} h=>not_cmpP h);have hll:l.length=(l'.map zaK).length :=by rw[List.length_map]; exact hp.length_eq
 rw[<-e];simp only[ZE,↓reduceIte,pE,pL,pA,pS,pM,pD,List.length_map];rw[if_pos hp.length_eq];simp only[ZE,↓reduceIte,pE,pL,pA,pS,pM,pD]
/-! ### Files in normal form -/
def nrmL(L:List Module)(i:Nat):List Module:=(L.take i).map zl5++L.drop i
theorem zyF(L:List Module)(i:Nat):(nrmL L i).length =L.length:=by simp[nrmL]; omega
theorem nrmL_zero(L:List Module):nrmL L 0=L:=by simp[nrmL]
theorem nrmL_all(L:List Module):nrmL L L.length=L.map zl5:=by simp[nrmL]
theorem nrmL_at(L:List Module)(i:Nat)(h:i<L.length):(nrmL L i).getD i zdP=L[i]:=by
 unfold nrmL;rw[List.getD_eq_getElem?_getD,List.getElem?_append_right (by simp; omega)];simp[List.length_take,Nat.min_eq_left (Nat.le_of_lt h),h]
theorem nrmL_step(L:List Module)(i:Nat)(h:i<L.length):nrmL L (i+1)=(nrmL L i).set i (zl5 L[i]):=by
 unfold nrmL;rw[List.take_succ_eq_append_getElem h,List.map_append];have hl:((L.take i).map zl5).length =i:=by simp; omega
 rw[List.set_append_right _ _ (by omega),hl,Nat.sub_self,List.drop_eq_getElem_cons h,List.set_cons_zero];simp only[List.map_cons,List.map_nil,List.append_assoc,List.cons_append,List.nil_append]
theorem zih(l:List Module)(hn:(l.map Module.name).Nodup)(hp: ∀m∈l,(m.items.map zbg).Nodup)(hl:l.length<=4000000)(hi: ∀m∈l,m.items.length<=4000000):FnP Tryz.prog 24 [.agg [zax l]] (.d (.agg [zax (zcC l)])) []:=by
 refine FnP.of_eC (own:=[]) (fun i=>if i=1007 then [.frz 90]else []) zat Tryz.func24 rfl Tryz.call24 Tryz.ntmps24 (Nat.le_of_ble_eq_true rfl) Tryz.results24 (fun hok=> ?_);have vc:=znZ l;simp only[ZE,↓reduceIte,pE,pL,pA,pS,pM,pD,zN,qT,qG,qL,qH,qN,qB,qE,qO,qA,qM];refine EFn.p ?_;simp only[ZE,↓reduceIte,pE,pL,pA,pS,pM,pD,zN,qT,qG,qL,qH,qN,qB,qE,qO,qA,qM];refine zar.i vc ?_;simp only[ZE,↓reduceIte,pE,pL,pA,pS,pM,pD,zN,qT,qG,qL,qH,qN,qB,qE,qO,qA,qM];refine EFn.g ⟨[(90,90)],[.d (.clo (.func 128) [] [.ptr [.sl (l.map zaC)]]),.d (.clo (.func 57) [] [])],_,_,znX l hl,?_⟩;simp only[ZE,↓reduceIte,pE,pL,pA,pS,pM,pD];rintro V ol new ⟨rfl,⟨L,hL,hs,rfl⟩,rfl⟩;have e:L=zl7 ltS Module.name l:=zrj zrt hn hL (hs.imp fun{a b} h=>zy6 h);have hLl:L.length=l.length:=hL.length_eq.symm;have hnF:zcC l=L.map zl5:=by unfold zcC; rw[e]
 rw[hnF,<-nrmL_all];simp only[ZE,↓reduceIte,pE,pL,pA,pS,pM,pD,zN,qT,qG,qL,qH,qN,qB,qE,qO,qA,qM,hLl];have hpL: ∀i (h:i<L.length),(L[i].items.map zbg).Nodup /\L[i].items.length <=4000000:=fun i h=>by
  have hm:L[i]∈l:=hL.mem_iff.2 (List.getElem_mem h);exact⟨hp _ hm,hi _ hm⟩
 refine za1 (fun i=>if i=2005 then [.ord ⟨[(0,none),(1,none),(2,none),(3,none),(4,none),(5,none),(6,none),(7,none),(8,none),(9,some [])]⟩]else []) zat l.length (fun _=>True) (fun i=>([(2,.bp 2 0),(3,.bp 3 0),(12,.ar 90 l.length),(13,.d (eI l.length)),(14,.d (eI i))],[(2,.box [.nils]),(3,.box [.ar 90 l.length]),(90,.arr 53 4 .flat ((nrmL L i).map zaC))])) trivial ?_ ?_ (fun i hi' _=> ?_)
 ·simp only[ZE,↓reduceIte,pE,pL,pA,pS,pM,pD]
 ·simp only[ZE,↓reduceIte,pE,pL,pA,pS,pM,pD,nrmL_zero]
 rcases Nat.lt_or_ge i l.length with h | h
 ·have hw:=zaq (show i<9223372036854775807 by omega);have hiL:i<L.length:=by omega
  obtain⟨hnd,hll⟩:=hpL i hiL;rw[nrmL_step L i hiL];have hat:=nrmL_at L i hiL;have hnl:=zyF L i;obtain⟨R,hR⟩:=zX (nrmL L i);obtain⟨m,hm⟩:=zX (L[i]);rw[hR,hm]at hat;rw[hR]at hnl;rw[hm]at hnd hll;rw[hR,hm];have hiR:i<R.length:=by omega
  have hRi:R[i]=m:=by
   rw[List.getD_eq_getElem?_getD,List.getElem?_eq_getElem hiR]at hat;exact hat
  have ic:=zrk m.items;have sc:=zyA m.items hll hnd;have hset:(R.map zaC).set i ((zaC m).set 3 (.sl ((zl7 ltP zbg m.items).map zaK)))=(R.set i (zl5 m)).map zaC:=by rw[List.map_set]; rfl
  try simp only[ZE,↓reduceIte,pE,pL,pA,pS,pM,pD]at sc
  simp(maxSteps:=4000000) only[ZE,↓reduceIte,pE,pL,pA,pS,pM,pD,zaw h,zai h,zaa hiR,hRi,zN,qT,qG,qL,qH,qN,qB,qE,qO,qA,qM,List.length_map,hnl,hLl];refine⟨h,by kernel_rfl,zaz.i ic ?_⟩;simp only[ZE,↓reduceIte,pE,pL,pA,pS,pM,pD,zN,qT,qG,qL,qH,qN,qB,qE,qO,qA,qM];refine zaz.i sc ?_;simp only[ZE,↓reduceIte,pE,pL,pA,pS,pM,pD]at hset;simp only[ZE,↓reduceIte,pE,pL,pA,pS,pM,pD,zN,qT,qG,qL,qH,qN,qB,qE,qO,qA,qM,hw,hset,zaa hiR,hRi,List.length_map,hnl,hLl];exact⟨⟨by omega,by omega⟩,h⟩
 ·have:i=l.length:=by omega
  subst this;simp(maxSteps:=4000000) only[ZE,↓reduceIte,pE,pL,pA,pS,pM,pD,zaI h,zN,qT,qG,qL,qH,qN,qB,qE,qO,qA,qM,List.length_map,zyF,hLl]
def zfN(e:Edit):List D:=eS e.module::(zfX e.part++(eB e.has::(zaK e.to++zaC e.head)))
/-- A collector of edits. -/
def dfO(a b:Nat)(l:List Edit):OL:=[(a,.box [.ar b l.length]),(b,.arr 69 43 .flat (l.map zfN))]
theorem zy3(a b:Nat)(l:List Edit)(e:Edit):dfO a b (l++[e])=[(a,.box [.ar b (l.length+1)]),(b,.arr 69 43 .flat (l.map zfN++[zfN e]))]:=by
 unfold dfO;rw[List.map_append,List.length_append]; rfl
theorem dhead_c(l:List Edit)(hl:l.length<=4000000)(m:Module):FnL Tryz.prog 69 [.bp 0 0,.d (.agg (zaC m))] (dfO 0 1 l) (fun V ol new=>V= .tup []/\ol=dfO 0 40 (l++[zx7 m])/\new=[40]):=by
 refine FnL.of_eC (own:=[]) (fun i=>if i=0 then [.rnm [(0,0),(1,40),(3,3)]]else if i=2003 then [.flt ⟨[(0,none),(1,none),(2,none),(3,none),(4,none),(5,none),(6,none),(7,none),(8,none),(9,some [0]),(10,none),(11,none),(12,some [])]⟩ ⟨[],[]⟩]else []) [0] zat Tryz.func69 rfl Tryz.call69 Tryz.ntmps69 (Nat.le_of_ble_eq_true rfl) Tryz.results69 ?_;have hz:zfN (zx7 m)=eS m.name::(zfX zc7++(eB true::(zaK zaU++zaC {m with items:=[]}))):=rfl;simp only[zy3,hz];simp only[ZE,↓reduceIte,pE,pL,pA,pS,pM,pD,zN,qT,qG,qL,qH,qN,qB,qE,qO,qA,qM,dfO,zfX,zc7,zaU,zbQ,zbj,emp,zcW,zbm,zgN,zgO,zbl,List.map_nil];refine⟨by kernel_rfl,⟨by omega,by omega⟩,by simp,[3],[40],?_⟩;simp only[ZE,↓reduceIte,pE,pL,pA,pS,pM,pD]
/-- A collector in a box,a name. -/
def dfN(d b n:Nat)(name:Str)(q:Nat)(l:List Edit):OL:=dfO d q l++[(b,.box [.bp d 0]),(n,.box [.d (eS name)])]
theorem dset_c(l:List Edit)(hl:l.length<=4000000)(n:Str)(x:Item):FnL Tryz.prog 120 [.d (.agg (zaK x)),.bp 1 0,.bp 2 0] (dfN 0 1 2 n 4 l) (fun V ol new=>V= .tup []/\ol=dfN 0 1 2 n 40 (l++[zco n x])/\new=[40]):=by
 refine FnL.of_eK 1999 [0] (own:=[]) (fun i=>if i=0 then [.rnm [(0,0),(1,1),(2,2),(3,3),(4,40),(1999,1999)]]else if i=2001 then [.flt ⟨[(0,none),(1,none),(2,none),(3,none),(4,none),(5,none),(6,none),(7,none),(8,none),(9,none),(10,none),(11,some [0]),(12,none),(13,none),(14,some [])]⟩ ⟨[],[]⟩]else []) [1,2] zat Tryz.func120 rfl Tryz.call120 Tryz.ntmps120 (Nat.le_of_ble_eq_true rfl) Tryz.results120 (by simp[dfN,dfO,zyk,AO.noRef,AV.noRefs,AV.noRef]) (fun gs=> ?_);have hz:zfN (zco n x)=eS n::(zfX (zbg x)++(eB true::(zaK x++zaC zdP))):=rfl;have oc:=tof_c x;simp only[ZE,↓reduceIte,pE,pL,pA,pS,pM,pD,zfX,zbg]at oc;unfold dfN;simp only[zy3,hz];simp only[ZE,↓reduceIte,pE,pL,pA,pS,pM,pD,zN,qT,qG,qL,qH,qN,qB,qE,qO,qA,qM,dfO,zfX,zc7,zaU,zdP,zbQ,zbj,emp,zcW,zbm,zgN,zgO,zbl,zbg,List.map_nil];refine⟨by kernel_rfl,zaz.i oc ?_⟩;simp only[ZE,↓reduceIte,pE,pL,pA,pS,pM,pD,zN,qT,qG,qL,qH,qN,qB,qE,qO,qA,qM];refine⟨⟨by omega,by omega⟩,by simp,[3,1999],[40],?_⟩;simp only[ZE,↓reduceIte,pE,pL,pA,pS,pM,pD]
theorem drem_c(l:List Edit)(hl:l.length<=4000000)(n:Str)(x:Item):FnL Tryz.prog 122 [.d (.agg (zaK x)),.bp 1 0,.bp 2 0] (dfN 0 1 2 n 4 l) (fun V ol new=>V= .tup []/\ol=dfN 0 1 2 n 40 (l++[zyw n x])/\new=[40]):=by
 refine FnL.of_eK 1999 [0] (own:=[]) (fun i=>if i=0 then [.rnm [(0,0),(1,1),(2,2),(3,3),(4,40),(1999,1999)]]else if i=2001 then [.flt ⟨[(0,none),(1,none),(2,none),(3,none),(4,none),(5,none),(6,none),(7,none),(8,none),(9,none),(10,some [0]),(11,none),(12,none),(13,some [])]⟩ ⟨[],[]⟩]else []) [1,2] zat Tryz.func122 rfl Tryz.call122 Tryz.ntmps122 (Nat.le_of_ble_eq_true rfl) Tryz.results122 (by simp[dfN,dfO,zyk,AO.noRef,AV.noRefs,AV.noRef]) (fun gs=> ?_);have hz:zfN (zyw n x)=eS n::(zfX (zbg x)++(eB false::(zaK zaU++zaC zdP))):=rfl;have oc:=tof_c x;simp only[ZE,↓reduceIte,pE,pL,pA,pS,pM,pD,zfX,zbg]at oc;unfold dfN;simp only[zy3,hz];simp only[ZE,↓reduceIte,pE,pL,pA,pS,pM,pD,zN,qT,qG,qL,qH,qN,qB,qE,qO,qA,qM,dfO,zfX,zc7,zaU,zdP,zbQ,zbj,emp,zcW,zbm,zgN,zgO,zbl,zbg,List.map_nil];refine⟨by kernel_rfl,zaz.i oc ?_⟩;simp only[ZE,↓reduceIte,pE,pL,pA,pS,pM,pD,zN,qT,qG,qL,qH,qN,qB,qE,qO,qA,qM];refine⟨⟨by omega,by omega⟩,by simp,[3,1999],[40],?_⟩;simp only[ZE,↓reduceIte,pE,pL,pA,pS,pM,pD]
theorem nanI_c(x:Int):FnP Tryz.prog 210 [eI x] (.d (eB false)) []:=by
 refine FnP.of_eC (own:=[]) (fun _=>[]) zat Tryz.func210 rfl Tryz.call210 Tryz.ntmps210 (Nat.le_of_ble_eq_true rfl) Tryz.results210 (fun hok=> ?_);simp(maxSteps:=4000000) only[ZE,↓reduceIte,pE,pL,pA,pS,pM,pD,zN,qT,qG,qL,qH,qN,qB,qE,qO,qA,qM]
theorem cmpI_c(x y:Int):FnP Tryz.prog 155 [eI x,eI y] (.d (eI (zh1 x y))) []:=by
 refine FnP.of_eC (own:=[]) (fun _=>[]) zat Tryz.func155 rfl Tryz.call155 Tryz.ntmps155 (Nat.le_of_ble_eq_true rfl) Tryz.results155 (fun hok=> ?_);have n1:=nanI_c x;have n2:=nanI_c y;simp only[ZE,↓reduceIte,pE,pL,pA,pS,pM,pD]at n1 n2;unfold zh1;simp(maxSteps:=4000000) only[ZE,↓reduceIte,pE,pL,pA,pS,pM,pD,zN,qT,qG,qL,qH,qN,qB,qE,qO,qA,qM];refine EFn.p ?_;simp only[ZE,↓reduceIte,pE,pL,pA,pS,pM,pD,zN,qT,qG,qL,qH,qN,qB,qE,qO,qA,qM];refine zar.i n1 ?_;simp only[ZE,↓reduceIte,pE,pL,pA,pS,pM,pD,zN,qT,qG,qL,qH,qN,qB,qE,qO,qA,qM];refine EFn.p ?_;simp only[ZE,↓reduceIte,pE,pL,pA,pS,pM,pD,zN,qT,qG,qL,qH,qN,qB,qE,qO,qA,qM];refine zar.i n2 ?_;by_cases h:x<y
 ·have d:decide (x<y)=true:=decide_eq_true h;simp only[ZE,↓reduceIte,pE,pL,pA,pS,pM,pD,zN,qT,qG,qL,qH,qN,qB,qE,qO,qA,qM,d,h]
 ·have d:decide (x<y)=false:=decide_eq_false h;by_cases h':y<x
  ·have d':decide (x>y)=true:=decide_eq_true h';simp only[ZE,↓reduceIte,pE,pL,pA,pS,pM,pD,zN,qT,qG,qL,qH,qN,qB,qE,qO,qA,qM,d,d',h,h']
  ·have d':decide (x>y)=false:=decide_eq_false h';simp only[ZE,↓reduceIte,pE,pL,pA,pS,pM,pD,zN,qT,qG,qL,qH,qN,qB,qE,qO,qA,qM,d,d',h,h']
theorem nanS_c(x:Str):FnP Tryz.prog 167 [eS x] (.d (eB false)) []:=by
 refine FnP.of_eC (own:=[]) (fun _=>[]) zat Tryz.func167 rfl Tryz.call167 Tryz.ntmps167 (Nat.le_of_ble_eq_true rfl) Tryz.results167 (fun hok=> ?_);simp(maxSteps:=4000000) only[ZE,↓reduceIte,pE,pL,pA,pS,pM,pD,zN,qT,qG,qL,qH,qN,qB,qE,qO,qA,qM]
theorem cmpS_c(x y:Str):FnP Tryz.prog 115 [eS x,eS y] (.d (eI (zsi x.1 y.1))) []:=by
 refine FnP.of_eC (own:=[]) (fun _=>[]) zat Tryz.func115 rfl Tryz.call115 Tryz.ntmps115 (Nat.le_of_ble_eq_true rfl) Tryz.results115 (fun hok=> ?_);have n1:=nanS_c x;have n2:=nanS_c y;simp only[ZE,↓reduceIte,pE,pL,pA,pS,pM,pD]at n1 n2;simp(maxSteps:=4000000) only[ZE,↓reduceIte,pE,pL,pA,pS,pM,pD,zN,qT,qG,qL,qH,qN,qB,qE,qO,qA,qM];refine EFn.p ?_;simp only[ZE,↓reduceIte,pE,pL,pA,pS,pM,pD,zN,qT,qG,qL,qH,qN,qB,qE,qO,qA,qM];refine zar.i n1 ?_;simp only[ZE,↓reduceIte,pE,pL,pA,pS,pM,pD,zN,qT,qG,qL,qH,qN,qB,qE,qO,qA,qM];refine EFn.p ?_;simp only[ZE,↓reduceIte,pE,pL,pA,pS,pM,pD,zN,qT,qG,qL,qH,qN,qB,qE,qO,qA,qM];refine zar.i n2 ?_;simp only[ZE,↓reduceIte,pE,pL,pA,pS,pM,pD,zN,qT,qG,qL,qH,qN,qB,qE,qO,qA,qM];have e:(x.1.toList==y.1.toList)=decide (x=y):=by
  rw[Bool.eq_iff_iff,beq_iff_eq,decide_eq_true_eq];exact⟨toList_inj,fun h=>by rw[h]⟩
 unfold zsi;rw[e]
 (repeat' split) <;> rfl
theorem or2_c(x y:Int):FnP Tryz.prog 154 [.sl [[eI x],[eI y]]] (.d (eI (orI [x,y]))) []:=by
 refine FnP.of_eC (own:=[]) (fun _=>[]) zat Tryz.func154 rfl Tryz.call154 Tryz.ntmps154 (Nat.le_of_ble_eq_true rfl) Tryz.results154 (fun hok=> ?_);simp(maxSteps:=4000000) only[ZE,↓reduceIte,pE,pL,pA,pS,pM,pD,zN,qT,qG,qL,qH,qN,qB,qE,qO,qA,qM];refine za1 (fun _=>[]) zat 2 (fun i=>(1<=i->x=0)/\(2<=i->y=0)) (fun i=>([(3,.d (eI 0)),(6,.d (.sl [[eI x],[eI y]])),(7,.d (eI 2)),(8,.d (eI i))],[])) ⟨by omega,by omega⟩ (by simp only[ZE,↓reduceIte,pE,pL,pA,pS,pM,pD]) (by simp only[ZE,↓reduceIte,pE,pL,pA,pS,pM,pD]) (fun i hi hI=> ?_)
 match i,hi with
 | 0,_=>
  rcases Bool.eq_false_or_eq_true (x !=0)with h | h
  ·have e:orI [x,y]=x:=by simp[orI,h]
   simp(maxSteps:=4000000) only[ZE,↓reduceIte,pE,pL,pA,pS,pM,pD,zN,qT,qG,qL,qH,qN,qB,qE,qO,qA,qM,h,e]
  ·have hx:x=0:=by simpa using h
   simp(maxSteps:=4000000) only[ZE,↓reduceIte,pE,pL,pA,pS,pM,pD,zN,qT,qG,qL,qH,qN,qB,qE,qO,qA,qM,h]
   first | exact⟨hx,by rw[show IntKind.i64.wrap 1=1 from by decide]⟩ | exact⟨⟨hx,hy⟩,by rw[show IntKind.i64.wrap 2=2 from by decide]⟩
 | 1,_=>
  have hx:=hI.1 (by omega);rcases Bool.eq_false_or_eq_true (y !=0)with h | h
  ·have e:orI [x,y]=y:=by simp[orI,hx,h]
   simp(maxSteps:=4000000) only[ZE,↓reduceIte,pE,pL,pA,pS,pM,pD,zN,qT,qG,qL,qH,qN,qB,qE,qO,qA,qM,h,e]
  ·have hy:y=0:=by simpa using h
   simp(maxSteps:=4000000) only[ZE,↓reduceIte,pE,pL,pA,pS,pM,pD,zN,qT,qG,qL,qH,qN,qB,qE,qO,qA,qM,h]
   first | exact⟨hx,by rw[show IntKind.i64.wrap 1=1 from by decide]⟩ | exact⟨⟨hx,hy⟩,by rw[show IntKind.i64.wrap 2=2 from by decide]⟩
 | 2,_=>
  have hx:=hI.1 (by omega);have hy:=hI.2 (by omega);have e:orI [x,y]=0:=by simp[orI,hx,hy]
  simp(maxSteps:=4000000) only[ZE,↓reduceIte,pE,pL,pA,pS,pM,pD,zN,qT,qG,qL,qH,qN,qB,qE,qO,qA,qM,e]
theorem part_c(a b:Part):FnP Tryz.prog 110 [.agg (zfX a),.agg (zfX b)] (.d (eI (zyB a b))) []:=by
 refine FnP.of_eC (own:=[]) (fun i=>if i=2001 then [.ord ⟨[(0,none),(1,none),(2,none),(3,none),(4,none),(5,none),(6,none),(7,none),(8,none),(9,none),(10,none),(11,none),(12,none)]⟩]else []) zat Tryz.func110 rfl Tryz.call110 Tryz.ntmps110 (Nat.le_of_ble_eq_true rfl) Tryz.results110 (fun hok=> ?_);have c1:=cmpI_c a.kind.1 b.kind.1;have c2:=cmpS_c a.name b.name;have c3:=or2_c (zh1 a.kind.1 b.kind.1) (zsi a.name.1 b.name.1);simp only[ZE,↓reduceIte,pE,pL,pA,pS,pM,pD]at c1 c2 c3;unfold zyB;simp(maxSteps:=4000000) only[ZE,↓reduceIte,pE,pL,pA,pS,pM,pD,zN,qT,qG,qL,qH,qN,qB,qE,qO,qA,qM,zfX];refine⟨by kernel_rfl,zaz.i c1 ?_⟩;simp only[ZE,↓reduceIte,pE,pL,pA,pS,pM,pD,zN,qT,qG,qL,qH,qN,qB,qE,qO,qA,qM];refine zaz.i c2 ?_;simp only[ZE,↓reduceIte,pE,pL,pA,pS,pM,pD,zN,qT,qG,qL,qH,qN,qB,qE,qO,qA,qM];refine zaz.i c3 ?_;simp only[ZE,↓reduceIte,pE,pL,pA,pS,pM,pD,zN,qT,qG,qL,qH,qN,qB,qE,qO,qA,qM]
theorem zzK(x y:Item):FnP Tryz.prog 53 [.agg (zaK x),.agg (zaK y)] (.d (eI (zyB (zbg x) (zbg y)))) []:=by
 refine FnP.of_eC (own:=[]) (fun i=>if i=2001 then [.ord ⟨[(0,none),(1,none),(2,none),(3,none),(4,none),(5,none)]⟩]else []) zat Tryz.func53 rfl Tryz.call53 Tryz.ntmps53 (Nat.le_of_ble_eq_true rfl) Tryz.results53 (fun hok=> ?_);have c1:=tof_c x;have c2:=tof_c y;have c3:=part_c (zbg x) (zbg y);simp only[ZE,↓reduceIte,pE,pL,pA,pS,pM,pD]at c1 c2 c3;simp(maxSteps:=4000000) only[ZE,↓reduceIte,pE,pL,pA,pS,pM,pD,zN,qT,qG,qL,qH,qN,qB,qE,qO,qA,qM];refine⟨by kernel_rfl,zaz.i c1 ?_⟩;simp only[ZE,↓reduceIte,pE,pL,pA,pS,pM,pD,zN,qT,qG,qL,qH,qN,qB,qE,qO,qA,qM];refine zaz.i c2 ?_;simp only[ZE,↓reduceIte,pE,pL,pA,pS,pM,pD,zN,qT,qG,qL,qH,qN,qB,qE,qO,qA,qM];refine zaz.i c3 ?_;simp only[ZE,↓reduceIte,pE,pL,pA,pS,pM,pD,zN,qT,qG,qL,qH,qN,qB,qE,qO,qA,qM]
theorem zzL(x y:Module):FnP Tryz.prog 57 [.agg (zaC x),.agg (zaC y)] (.d (eI (zy2 x.name y.name))) []:=by
 refine FnP.of_eC (own:=[]) (fun _=>[]) zat Tryz.func57 rfl Tryz.call57 Tryz.ntmps57 (Nat.le_of_ble_eq_true rfl) Tryz.results57 (fun hok=> ?_);have c1:=cmpS_c x.name y.name;simp only[ZE,↓reduceIte,pE,pL,pA,pS,pM,pD]at c1;unfold zy2;simp(maxSteps:=4000000) only[ZE,↓reduceIte,pE,pL,pA,pS,pM,pD,zN,qT,qG,qL,qH,qN,qB,qE,qO,qA,qM];refine EFn.p ?_;simp only[ZE,↓reduceIte,pE,pL,pA,pS,pM,pD,zN,qT,qG,qL,qH,qN,qB,qE,qO,qA,qM];refine zar.i c1 ?_;simp only[ZE,↓reduceIte,pE,pL,pA,pS,pM,pD,zN,qT,qG,qL,qH,qN,qB,qE,qO,qA,qM]
theorem zyI(a b:Part):zyB a b=0↔a=b:=by
 constructor
 ·intro h;refine zuJ.conn _ _ ?_ ?_
  ·cases hq:ltP a b with
   | false=>rfl
   | true=>have:=(zwF a b).2 hq; omega
  ·unfold zyB orI zh1 at h;obtain⟨a1,a2⟩:=a;obtain⟨b1,b2⟩:=b;simp only at h;unfold ltP;simp only[Bool.or_eq_false_iff,decide_eq_false_iff_not,Bool.and_eq_false_iff];rcases Int.lt_trichotomy a1.1 b1.1 with h1 | h1 | h1
   ·simp[h1]at h
   ·rw[h1]at h;simp only[Int.lt_irrefl,if_false]at h;by_cases h0:zsi a2.1 b2.1=0
    ·have e:=(zoY a2 b2).1 h0;subst e;exact⟨by omega,.inr (zrt.irr _)⟩
    ·simp[h0]at h
   ·have h2: ¬a1.1<b1.1:=(by omega);simp[h1,h2]at h
 ·rintro rfl;have h1:=zuJ.irr a;have h0:=(zoY a.name a.name).2 rfl;simp[zyB,orI,zh1,h0]
end Go.Proofs.YtbenhdgpogiadaaGreat
