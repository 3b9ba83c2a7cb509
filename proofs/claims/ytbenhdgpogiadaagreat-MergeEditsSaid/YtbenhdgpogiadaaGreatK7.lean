/- Contracts and laws. Conditions: those of each. -/
import Derived.Test.YtbenhdgpogiadaaGreatK6
import Derived.Test.YtbenhdgpogiadaaGreatK4
import Derived.Test.YtbenhdgpogiadaaGreatK2
import Derived.Test.YtbenhdgpogiadaaGreatGFp
import Derived.Test.YtbenhdgpogiadaaGreatK1
import Derived.Test.YtbenhdgpogiadaaGreatGRb
import Derived.Test.YtbenhdgpogiadaaGreatGSq
set_option linter.unusedSimpArgs false
set_option linter.unusedVariables false
open List renaming length_map -> waa, length_append -> wab, map_nil -> wac, length_cons -> wad, map_cons -> wae, map_append -> waf, length_nil -> wag, take_succ_eq_append_getElem -> wah, getElem_mem -> wai, length_take -> waj, append_assoc -> wak, mem_append -> wal, append_nil -> wam, nil_append -> wan, cons_append -> wao, take_zero -> wap
open Nat renaming lt_or_ge -> waq, le_trans -> war, le_refl -> was
open Bool renaming eq_iff_iff -> wat
open Option renaming map_some -> wau, map_none -> wav, getD_some -> waw, getD_none -> wax
namespace Go.Proofs.YtbenhdgpogiadaaGreat
open Go.Aw
open Tryz
set_option maxRecDepth 100000
set_option maxHeartbeats 1000000
def zjI(m:Module)(e:Expr):List Str:=if has [5] (zbu m e.name)=true then zbN m [(zce m e.name).a]else [e.name]
def zkY(m:Module)(n:Str):Bool:=has [1,3] (zbu m n)
def zdO(m:Module)(e:Expr):Bool:=e.op==14&&(zjI m e).any (zkY m)
def zic(m:Module)(x:Item):Bool:=(Expr.allL [x.a]).any (zdO m)
theorem early_c(m:Module)(x:Item):FnP prog 206 [.agg (zaf m),.agg (zaK x)] (.d (eB (zic m x))) []:=by
 refine FnP.of_eC (own:=[]) (fun i=>if i=1007 then [.frz 16]else if i=1 then [.keep [11,4,3,2]]else chL i) zat func206 rfl call206 ntmps206 (zle rfl) results206 (fun hok=> ?_);have hx:D.okL (zaK x):=by simpa only[D.ok]using(zaM (zaM hok).2).1
 have hxa:=zmr (zom hx).1;simp only[ZE,seval,zFI];have ac:=zeg [x.a];simp only[ZE,seval,wae,wac]at ac;refine EFn.p ?_;simp only[ZE,seval,zFI];refine zar.i ac ?_;simp only[ZE,seval,zFI];refine zrq (fun _ i=>if i=1007 then [.frz 16]else chL i) [x.a] hxa rfl (by simp only[ZE,seval]) (fun _=>[(4,.box [.d (eB false)]),(3,.box ((zaK x).map .d)),(2,.box ((zaf m).map .d))]) (fun k=> ∀e∈(Expr.allL [x.a]).take k,zdO m e=false) (by simp) ?_ ?_ rfl (fun k hk hI=> ?_) (fun hI=> ?_)
 ·simp only[ZE,seval,zFI]
 ·simp only[ZE,seval]
 ·obtain⟨e,he⟩:=zX ((Expr.allL [x.a])[k]);have hI':zdO m e=false-> ∀y∈(Expr.allL [x.a]).take (k+1),zdO m y=false:=fun h y hy=>by
   rw[wah hk,wal,List.mem_singleton,he]at hy;rcases hy with hy | rfl
   ·exact hI y hy
   ·exact h
  have hT:zdO m e=true->zic m x=true:=fun h=>List.any_eq_true.2 ⟨e,he▸wai hk,h⟩;rw[he];by_cases g:(e.op !=14)=true
  ·simp only[ZE,seval,eA,zN,zFI,g];exact hI' (by simp only[zdO,bne,Bool.not_eq_true']at g ⊢; rw[g]; rfl)
  replace g:=Bool.eq_false_iff.2 g
  have ge:(e.op==14)=true:=by simpa only[bne,Bool.not_eq_false']using g
  have c1:=zs2 m e.name [5];simp only[ZE,seval,zFI]at c1;simp only[ZE,seval,eA,zN,zFI,g];obtain⟨p1,p2,p3,p4⟩:zgQ [] (.lit (.string e.name.1))=sK (tk [e.name])/\zjk [] [] (.lit (.string e.name.1)) (.lit (.bool true))=sV eB (tk [e.name])/\zjs [] [] 0 (.lit (.string e.name.1))=List.range (tk [e.name]).length /\zjT [] 0 (.lit (.string e.name.1))=(tk [e.name]).length :=zqH eB (l:=[]) (x:=true) rfl;refine EFn.p ?_;simp only[ZE,seval,zFI,p1,p2,p3,p4];refine zar.i c1 ?_;simp only[ZE,seval,zFI,zfu,zfg];refine zd8 (fun hb=> ?_) (fun hb=> ?_)
  ·have hst:zjI m e=zbN m [(zce m e.name).a]:=if_pos hb;have dc:=zmm m [(zce m e.name).a];simp only[ZE,seval,zFI,wae,wac,zce]at dc;refine⟨fun y hy=>zcr _ y hy,?_⟩;refine EFn.p ?_;simp only[ZE,seval,zFI];refine zar.i dc ?_;simp only[ZE,seval,zFI];obtain⟨L,hL⟩:=zX (zbN m [((get (zbG m.items) e.name).getD zaU).a]);have hst':zjI m e=L:=hst.trans hL;rw[hL];refine zgR (fun _ i=>if i=1007 then [.frz 16]else chL i) zat (tk (L)).length (zhR (tk (L)) (fun p=>zkY m p.1)) (fun i js=>([(2,.bp 2 0),(3,.bp 3 0),(4,.bp 4 0),(11,.d (.clo (.func 277) [] [.ptr [zbF [x.a]]])),(35,.mo 35)],
    [(35,.it (sK (tk (L))) (sV eB (tk (L))) (List.range (tk (L)).length) (tk (L)).length js),(4,.box [.d (eB false)]),(3,.box ((zaK x).map .d)),(2,.box ((zaf m).map .d))])) [] (zg9 _ _) ?_ ?_ (fun i js hi hI2=> ?_)
   ·simp only[ZE,seval,zFI]
   ·simp only[ZE,seval,zFI]
   simp only[ZE,seval];refine⟨by simp only[ZE,seval],fun j hj hjs=> ?_,fun hall=> ?_⟩
   ·have hj':j<(tk (L)).length :=(by simpa [zdK]using hj);have hlt:=zi9 hI2 hj' hjs;have hk':=zoJ (tk (L)) j hj';have c2:=zs2 m (tk (L))[j].1 [1,3];simp only[ZE,seval,zFI]at c2;simp only[ZE,seval,hk',List.getLast?_singleton,Option.some_or,zFI,zep];refine EFn.p ?_;simp only[ZE,seval,zFI];refine zar.i c2 ?_;simp only[ZE,seval,zFI,zep];refine zd8 (fun hw=> ?_) (fun hw=>⟨hlt,_,zf8 hI2 hj' hjs hw,rfl⟩);have h1:(tk (L)).any (fun p=>zkY m p.1)=true:=List.any_eq_true.2 ⟨_,wai hj',hw⟩;have h2:zdO m e=true:=by
     simp only[zdO,ge,hst',Bool.true_and];simpa only[tk,List.any_map,Function.comp_def]using h1
    rw[hT h2]
   ·have hany:=zg8 hI2 (fun j hj=>hall j (by simpa [zdK]using hj));simp only[ZE,seval,zFI];refine hI' ?_;simp only[zdO,ge,hst',Bool.true_and];simpa only[tk,List.any_map,Function.comp_def]using hany
  ·have hst':zjI m e=[e.name]:=if_neg (by rw[hb]; simp);obtain⟨L,hL⟩:=zX ([e.name]);rw[hL]at hst' ⊢;refine zgR (fun _ i=>if i=1007 then [.frz 16]else chL i) zat (tk (L)).length (zhR (tk (L)) (fun p=>zkY m p.1)) (fun i js=>([(2,.bp 2 0),(3,.bp 3 0),(4,.bp 4 0),(11,.d (.clo (.func 277) [] [.ptr [zbF [x.a]]])),(35,.mo 35)],
    [(35,.it (sK (tk (L))) (sV eB (tk (L))) (List.range (tk (L)).length) (tk (L)).length js),(4,.box [.d (eB false)]),(3,.box ((zaK x).map .d)),(2,.box ((zaf m).map .d))])) [] (zg9 _ _) ?_ ?_ (fun i js hi hI2=> ?_)
   ·simp only[ZE,seval,zFI]
   ·simp only[ZE,seval,zFI]
   simp only[ZE,seval];refine⟨by simp only[ZE,seval],fun j hj hjs=> ?_,fun hall=> ?_⟩
   ·have hj':j<(tk (L)).length :=(by simpa [zdK]using hj);have hlt:=zi9 hI2 hj' hjs;have hk':=zoJ (tk (L)) j hj';have c2:=zs2 m (tk (L))[j].1 [1,3];simp only[ZE,seval,zFI]at c2;simp only[ZE,seval,hk',List.getLast?_singleton,Option.some_or,zFI,zep];refine EFn.p ?_;simp only[ZE,seval,zFI];refine zar.i c2 ?_;simp only[ZE,seval,zFI,zep];refine zd8 (fun hw=> ?_) (fun hw=>⟨hlt,_,zf8 hI2 hj' hjs hw,rfl⟩);have h1:(tk (L)).any (fun p=>zkY m p.1)=true:=List.any_eq_true.2 ⟨_,wai hj',hw⟩;have h2:zdO m e=true:=by
     simp only[zdO,ge,hst',Bool.true_and];simpa only[tk,List.any_map,Function.comp_def]using h1
    rw[hT h2]
   ·have hany:=zg8 hI2 (fun j hj=>hall j (by simpa [zdK]using hj));simp only[ZE,seval,zFI];refine hI' ?_;simp only[zdO,ge,hst',Bool.true_and];simpa only[tk,List.any_map,Function.comp_def]using hany
 ·simp only[ZE,seval,zN,zFI];have:zic m x=false:=List.any_eq_false.2 fun e he=>by
   rw[hI e (by rw[List.take_length]; exact he)]; simp
  rw[this]
set_option maxHeartbeats 20000000
def zb8(x y:Item):Bool:=zaW y.kind.1&&decide (y.name=x.name)
theorem zg1(x y:Item):FnP prog 200 [.agg (zaK y),.ptr (zaK x)] (.d (eB (zb8 x y))) []:=by
 refine FnP.of_eC (own:=[]) chL zat func200 rfl call200 ntmps200 (zle rfl) results200 (fun hok=> ?_);have dc:=zgV y.kind.1;simp only[ZE,seval]at dc;simp only[ZE,seval,zFI];refine EFn.p ?_;simp only[ZE,seval];refine zar.i dc ?_;simp only[ZE,seval,zb8]
def zaT(m:Module)(k:Nat)(x:Item):Bool:=(m.items.take k).any (zb8 x)|| !zcX x.name.1||has m.params x.name
def zex(i k:Nat)(m:Module)(x:Item)(F:List Problem):List Problem:=if zaW x.kind.1=true then zaO F (zaT m k x) ⟨1,i,k⟩else F
def zgm(l:List Module)(i k:Nat)(m:Module)(x:Item)(F:List Problem):List Problem:=
 if x.kind.1=5 then zaO F (has (zbN m [x.a]) x.name) ⟨4,i,k⟩
 else if x.kind.1=1 then zaO F ((zeZ l m x.name).1 !=1||(zeZ l m x.name).2 !=0) ⟨5,i,k⟩
 else if x.kind.1=2 then zaO F ((zeZ l m x.name).1 !=0||(zeZ l m x.name).2 !=1) ⟨5,i,k⟩
 else if x.kind.1=3 then zaO F ((zeZ l m x.name).1 !=1||(zeZ l m x.name).2 !=1) ⟨5,i,k⟩
 else if x.kind.1=9 then zaO F (zeR l x) ⟨6,i,k⟩
 else if x.kind.1=7 then zaO F (zic m x) ⟨8,i,k⟩else F
def zdo(l:List Module)(i k:Nat)(m:Module)(x:Item)(F:List Problem):List Problem:=zgm l i k m x (zaO (zaO (zex i k m x F) (zay x) ⟨2,i,k⟩) (zdp l m x) ⟨3,i,k⟩)
theorem zdD(x:Item):(zaK x).length =35:=by simp[zaK,zgL,zb6,zib]
def itL(i:Nat):List Gh:=if i=2005 then [.chn,.ord ⟨[(0,none),(1,none),(2,none),(3,none),(4,none),(5,none),(6,none),(7,none),(8,none),(9,none),(10,none),(11,none),(12,none),(13,none),(14,none),(15,none),(16,none),(17,none),(18,some [])]⟩]else if i=2006 then [.chn,.ord ⟨[(0,none),(1,none),(2,none),(3,none),(4,none),(5,some [])]⟩]else if i=2007 then [.chn,.ord ⟨[(0,none),(1,none),(2,none),(3,none),(4,none),(5,none),(6,none),(7,some [])]⟩]else if i=2011 then [.chn,.ord ⟨[(0,none),(1,none),(2,none),(3,none),(4,none),(5,none),(6,none),(7,none),(8,none),(9,none),(10,none),(11,some [])]⟩]else if i=2019 then [.chn,.ord ⟨[(0,none),(1,none),(2,none),(3,none),(4,none),(5,none),(6,some [])]⟩]else if i=2021 then [.chn,.ord ⟨[(0,none),(1,none),(2,none),(3,none),(4,none),(5,none),(6,some [])]⟩]else chL i
theorem item_c(l:List Module)(i k:Nat)(m:Module)(x:Item)(hok:D.ok (zab l))(hi:i<l.length)(hm:l[i]=m)(hk:k<m.items.length)(hx:m.items[k]=x)(hn:(zaX x).length <=2000000)(F:List Problem)(hF: ∀q∈F,zb7 q):
  FnL prog 150 [.agg [.d (zab l),.d (zaF l),.mo 1],.d (eI i),.d (eI k)] [(1,zaS F)] (fun V ol new=>V= .tup []/\ol=[(1,zaS (zdo l i k m x F))]/\new=[]):=by
 have hll:l.length<=9223372036854775807:=(za9 hok).1;have hml:m.items.length<=9223372036854775807:=by
  have h2:=(za9 hok).2 m (hm▸wai hi);simp only[zaf,D.okL]at h2;exact(za9 h2.2.2.2.1).1
 have wi:=zdi (show i<=9223372036854775807 by omega);have wk:=zdi (show k<=9223372036854775807 by omega);have dc:=zgV x.kind.1;have mc:=zor x;have hin: ∀c:Int,(Lit.int .i64 c).wf =true->zb7 ⟨c,i,k⟩:=fun c hc=>⟨hc,wi,wk⟩;by_cases e:x.kind.1=5
 ·have hd:zaW x.kind.1=true:=by rw[e]; rfl
  have hd':zaW 5=true:=rfl;have hD:zex i k m x F=zaO F (zaT m k x) ⟨1,i,k⟩:=if_pos hd;have hI:zdo l i k m x F=zaO (zaO (zaO (zaO F (zaT m k x) ⟨1,i,k⟩) (zay x) ⟨2,i,k⟩) (zdp l m x) ⟨3,i,k⟩) (has (zbN m [x.a]) x.name) ⟨4,i,k⟩:=by rw[zdo,hD,zgm]; simp[e]
  rw[hI];refine FnL.of_eC (own:=[]) itL [0] zat func150 rfl call150 ntmps150 (zle rfl) results150 ?_;simp only[ZE,seval,hd,e]at dc;simp(maxSteps:=4000000) only[ZE,seval,zFI,zN,zaS,itL.eq_1,zai hi,zaa hi,hm,zai hk,zaa hk,hx,e];refine EFn.p ?_;simp only[ZE,seval,zFI,zN,zaS,itL.eq_1];refine zar.i dc ?_;simp only[ZE,seval,zFI,zN,zaS,itL.eq_1,<-List.map_take,Nat.sub_zero,hd'];have tc:=zcI (m.items.take k) 200 (.ptr (zaK x)) (zb8 x) (fun y _=>zg1 x y);have n1:=zdd x.name.1;have c1:=zcd m.params x.name;have r1:=za5 l F hF (zaT m k x) ⟨1,i,k⟩ (hin 1 rfl);have G1:=za8 (b:=zaT m k x) hF (hin 1 rfl);obtain⟨F1,hF1⟩:=zX (zaO F (zaT m k x) ⟨1,i,k⟩);rw[hF1]at r1 G1 ⊢;simp only[ZE,seval,e]at tc n1 c1;simp only[ZE,seval,zFI,zN,zaS,itL.eq_1,zaT]at r1;refine⟨⟨fun y hy=>(by obtain⟨q,_,rfl⟩:=List.mem_map.1 hy; exact zdD q),by omega,by omega,by omega⟩,EFn.p ?_⟩;simp only[ZE,seval,zFI,zN,zaS,itL.eq_1,e];refine zar.i tc ?_;simp only[ZE,seval,zFI,zN,zaS,itL.eq_1,e];refine⟨by kernel_rfl,?_⟩;refine za3.i (fun _=>n1) ?_;simp only[ZE,seval,zFI,zN,zaS,itL.eq_1,e];refine za3.i (fun _=>c1) ?_;simp only[ZE,seval,zFI,zN,zaS,itL.eq_1,e];refine EFn.g ⟨[(1,1)],_,_,_,r1,?_⟩;simp only[ZE,seval,zFI,zN,zaS,itL.eq_1];rintro V ol new ⟨rfl,rfl,rfl⟩;have r2:=za5 l F1 G1 (zay x) ⟨2,i,k⟩ (hin 2 rfl);have G2:=za8 (b:=zay x) G1 (hin 2 rfl);have lc:=zhI l (pK (zaO F1 (zay x) ⟨2,i,k⟩)) (pV (zaO F1 (zay x) ⟨2,i,k⟩)) (List.range (zaO F1 (zay x) ⟨2,i,k⟩).length) (zaO F1 (zay x) ⟨2,i,k⟩).length m x hn;have r3:=za5 l _ G2 (zdp l m x) ⟨3,i,k⟩ (hin 3 rfl);have G3:=za8 (b:=zdp l m x) G2 (hin 3 rfl);obtain⟨F3,hF3⟩:=zX (zaO (zaO F1 (zay x) ⟨2,i,k⟩) (zdp l m x) ⟨3,i,k⟩);rw[hF3]at r3 G3 ⊢;have ec:=zhD l (pK F3) (pV F3) (List.range F3.length) F3.length m x.name;simp only[ZE,seval,zFI,zN,zaS,itL.eq_1,e]at r2 lc r3 ec mc
  try simp only[ZE,seval,zFI,zN,zaS,itL.eq_1,e]
  refine⟨by kernel_rfl,?_⟩;refine za3.i (fun _=>mc) ?_;simp only[ZE,seval,zFI,zN,zaS,itL.eq_1,e];refine EFn.g ⟨[(1,1)],_,_,_,r2,?_⟩;simp only[ZE,seval,zFI,zN,zaS,itL.eq_1];rintro V ol new ⟨rfl,rfl,rfl⟩;simp only[ZE,seval,zFI,zN,zaS,itL.eq_1,e];refine⟨by kernel_rfl,?_⟩;refine za3.i (fun _=>lc) ?_;simp only[ZE,seval,zFI,zN,zaS,itL.eq_1,e];refine EFn.g ⟨[(1,1)],_,_,_,r3,?_⟩;simp only[ZE,seval,zFI,zN,zaS,itL.eq_1];rintro V ol new ⟨rfl,rfl,rfl⟩;simp only[ZE,seval,zFI,zN,zaS,itL.eq_1,e];refine EFn.p ?_;simp only[ZE,seval,zFI,zN,zaS,itL.eq_1,e];refine zar.i ec ?_;simp only[ZE,seval,zFI,zN,zaS,itL.eq_1,e];have r4:=za5 l F3 G3 (has (zbN m [x.a]) x.name) ⟨4,i,k⟩ (hin 4 rfl);simp only[ZE,seval,zFI,zN,zaS,itL.eq_1]at r4;have pc:=zmm m [x.a];simp only[ZE,seval,zFI,zN,zaS,itL.eq_1,wae,wac]at pc;refine⟨by kernel_rfl,za3.i (fun _=>pc) ?_⟩;simp only[ZE,seval,zFI,zN,zaS,itL.eq_1,zlf];refine⟨fun y hy=>zcr _ y hy,?_⟩;refine EFn.g ⟨[(1,1)],_,_,_,r4,?_⟩;simp only[ZE,seval,zFI,zN,zaS,itL.eq_1];rintro V ol new ⟨rfl,rfl,rfl⟩;simp only[ZE,seval,zFI,zN,zaS,itL.eq_1];refine⟨[3,6,7],[],?_⟩;simp only[ZE,seval]
 have n5:=e;by_cases e:x.kind.1=1
 ·have hd:zaW x.kind.1=true:=by rw[e]; rfl
  have hd':zaW 1=true:=rfl;have hD:zex i k m x F=zaO F (zaT m k x) ⟨1,i,k⟩:=if_pos hd;have hI:zdo l i k m x F=zaO (zaO (zaO (zaO F (zaT m k x) ⟨1,i,k⟩) (zay x) ⟨2,i,k⟩) (zdp l m x) ⟨3,i,k⟩) ((zeZ l m x.name).1 !=1||(zeZ l m x.name).2 !=0) ⟨5,i,k⟩:=by rw[zdo,hD,zgm]; simp[e]
  rw[hI];refine FnL.of_eC (own:=[]) itL [0] zat func150 rfl call150 ntmps150 (zle rfl) results150 ?_;simp only[ZE,seval,hd,e]at dc;simp(maxSteps:=4000000) only[ZE,seval,zFI,zN,zaS,itL.eq_1,zai hi,zaa hi,hm,zai hk,zaa hk,hx,e];refine EFn.p ?_;simp only[ZE,seval,zFI,zN,zaS,itL.eq_1];refine zar.i dc ?_;simp only[ZE,seval,zFI,zN,zaS,itL.eq_1,<-List.map_take,Nat.sub_zero,hd'];have tc:=zcI (m.items.take k) 200 (.ptr (zaK x)) (zb8 x) (fun y _=>zg1 x y);have n1:=zdd x.name.1;have c1:=zcd m.params x.name;have r1:=za5 l F hF (zaT m k x) ⟨1,i,k⟩ (hin 1 rfl);have G1:=za8 (b:=zaT m k x) hF (hin 1 rfl);obtain⟨F1,hF1⟩:=zX (zaO F (zaT m k x) ⟨1,i,k⟩);rw[hF1]at r1 G1 ⊢;simp only[ZE,seval,e]at tc n1 c1;simp only[ZE,seval,zFI,zN,zaS,itL.eq_1,zaT]at r1;refine⟨⟨fun y hy=>(by obtain⟨q,_,rfl⟩:=List.mem_map.1 hy; exact zdD q),by omega,by omega,by omega⟩,EFn.p ?_⟩;simp only[ZE,seval,zFI,zN,zaS,itL.eq_1,e];refine zar.i tc ?_;simp only[ZE,seval,zFI,zN,zaS,itL.eq_1,e];refine⟨by kernel_rfl,?_⟩;refine za3.i (fun _=>n1) ?_;simp only[ZE,seval,zFI,zN,zaS,itL.eq_1,e];refine za3.i (fun _=>c1) ?_;simp only[ZE,seval,zFI,zN,zaS,itL.eq_1,e];refine EFn.g ⟨[(1,1)],_,_,_,r1,?_⟩;simp only[ZE,seval,zFI,zN,zaS,itL.eq_1];rintro V ol new ⟨rfl,rfl,rfl⟩;have r2:=za5 l F1 G1 (zay x) ⟨2,i,k⟩ (hin 2 rfl);have G2:=za8 (b:=zay x) G1 (hin 2 rfl);have lc:=zhI l (pK (zaO F1 (zay x) ⟨2,i,k⟩)) (pV (zaO F1 (zay x) ⟨2,i,k⟩)) (List.range (zaO F1 (zay x) ⟨2,i,k⟩).length) (zaO F1 (zay x) ⟨2,i,k⟩).length m x hn;have r3:=za5 l _ G2 (zdp l m x) ⟨3,i,k⟩ (hin 3 rfl);have G3:=za8 (b:=zdp l m x) G2 (hin 3 rfl);obtain⟨F3,hF3⟩:=zX (zaO (zaO F1 (zay x) ⟨2,i,k⟩) (zdp l m x) ⟨3,i,k⟩);rw[hF3]at r3 G3 ⊢;have ec:=zhD l (pK F3) (pV F3) (List.range F3.length) F3.length m x.name;simp only[ZE,seval,zFI,zN,zaS,itL.eq_1,e]at r2 lc r3 ec mc
  try simp only[ZE,seval,zFI,zN,zaS,itL.eq_1,e]
  refine⟨by kernel_rfl,?_⟩;refine za3.i (fun _=>mc) ?_;simp only[ZE,seval,zFI,zN,zaS,itL.eq_1,e];refine EFn.g ⟨[(1,1)],_,_,_,r2,?_⟩;simp only[ZE,seval,zFI,zN,zaS,itL.eq_1];rintro V ol new ⟨rfl,rfl,rfl⟩;simp only[ZE,seval,zFI,zN,zaS,itL.eq_1,e];refine⟨by kernel_rfl,?_⟩;refine za3.i (fun _=>lc) ?_;simp only[ZE,seval,zFI,zN,zaS,itL.eq_1,e];refine EFn.g ⟨[(1,1)],_,_,_,r3,?_⟩;simp only[ZE,seval,zFI,zN,zaS,itL.eq_1];rintro V ol new ⟨rfl,rfl,rfl⟩;simp only[ZE,seval,zFI,zN,zaS,itL.eq_1,e];refine EFn.p ?_;simp only[ZE,seval,zFI,zN,zaS,itL.eq_1,e];refine zar.i ec ?_;simp only[ZE,seval,zFI,zN,zaS,itL.eq_1,e];have r4:=za5 l F3 G3 ((zeZ l m x.name).1 !=1||(zeZ l m x.name).2 !=0) ⟨5,i,k⟩ (hin 5 rfl);simp only[ZE,seval,zFI,zN,zaS,itL.eq_1]at r4;refine EFn.g ⟨[(1,1)],_,_,_,r4,?_⟩;simp only[ZE,seval,zFI,zN,zaS,itL.eq_1];rintro V ol new ⟨rfl,rfl,rfl⟩;simp only[ZE,seval,zFI,zN,zaS,itL.eq_1];refine⟨[3,6,7],[],?_⟩;simp only[ZE,seval]
 have n1:=e;by_cases e:x.kind.1=2
 ·have hd:zaW x.kind.1=true:=by rw[e]; rfl
  have hd':zaW 2=true:=rfl;have hD:zex i k m x F=zaO F (zaT m k x) ⟨1,i,k⟩:=if_pos hd;have hI:zdo l i k m x F=zaO (zaO (zaO (zaO F (zaT m k x) ⟨1,i,k⟩) (zay x) ⟨2,i,k⟩) (zdp l m x) ⟨3,i,k⟩) ((zeZ l m x.name).1 !=0||(zeZ l m x.name).2 !=1) ⟨5,i,k⟩:=by rw[zdo,hD,zgm]; simp[e]
  rw[hI];refine FnL.of_eC (own:=[]) itL [0] zat func150 rfl call150 ntmps150 (zle rfl) results150 ?_;simp only[ZE,seval,hd,e]at dc;simp(maxSteps:=4000000) only[ZE,seval,zFI,zN,zaS,itL.eq_1,zai hi,zaa hi,hm,zai hk,zaa hk,hx,e];refine EFn.p ?_;simp only[ZE,seval,zFI,zN,zaS,itL.eq_1];refine zar.i dc ?_;simp only[ZE,seval,zFI,zN,zaS,itL.eq_1,<-List.map_take,Nat.sub_zero,hd'];have tc:=zcI (m.items.take k) 200 (.ptr (zaK x)) (zb8 x) (fun y _=>zg1 x y);have n1:=zdd x.name.1;have c1:=zcd m.params x.name;have r1:=za5 l F hF (zaT m k x) ⟨1,i,k⟩ (hin 1 rfl);have G1:=za8 (b:=zaT m k x) hF (hin 1 rfl);obtain⟨F1,hF1⟩:=zX (zaO F (zaT m k x) ⟨1,i,k⟩);rw[hF1]at r1 G1 ⊢;simp only[ZE,seval,e]at tc n1 c1;simp only[ZE,seval,zFI,zN,zaS,itL.eq_1,zaT]at r1;refine⟨⟨fun y hy=>(by obtain⟨q,_,rfl⟩:=List.mem_map.1 hy; exact zdD q),by omega,by omega,by omega⟩,EFn.p ?_⟩;simp only[ZE,seval,zFI,zN,zaS,itL.eq_1,e];refine zar.i tc ?_;simp only[ZE,seval,zFI,zN,zaS,itL.eq_1,e];refine⟨by kernel_rfl,?_⟩;refine za3.i (fun _=>n1) ?_;simp only[ZE,seval,zFI,zN,zaS,itL.eq_1,e];refine za3.i (fun _=>c1) ?_;simp only[ZE,seval,zFI,zN,zaS,itL.eq_1,e];refine EFn.g ⟨[(1,1)],_,_,_,r1,?_⟩;simp only[ZE,seval,zFI,zN,zaS,itL.eq_1];rintro V ol new ⟨rfl,rfl,rfl⟩;have r2:=za5 l F1 G1 (zay x) ⟨2,i,k⟩ (hin 2 rfl);have G2:=za8 (b:=zay x) G1 (hin 2 rfl);have lc:=zhI l (pK (zaO F1 (zay x) ⟨2,i,k⟩)) (pV (zaO F1 (zay x) ⟨2,i,k⟩)) (List.range (zaO F1 (zay x) ⟨2,i,k⟩).length) (zaO F1 (zay x) ⟨2,i,k⟩).length m x hn;have r3:=za5 l _ G2 (zdp l m x) ⟨3,i,k⟩ (hin 3 rfl);have G3:=za8 (b:=zdp l m x) G2 (hin 3 rfl);obtain⟨F3,hF3⟩:=zX (zaO (zaO F1 (zay x) ⟨2,i,k⟩) (zdp l m x) ⟨3,i,k⟩);rw[hF3]at r3 G3 ⊢;have ec:=zhD l (pK F3) (pV F3) (List.range F3.length) F3.length m x.name;simp only[ZE,seval,zFI,zN,zaS,itL.eq_1,e]at r2 lc r3 ec mc
  try simp only[ZE,seval,zFI,zN,zaS,itL.eq_1,e]
  refine⟨by kernel_rfl,?_⟩;refine za3.i (fun _=>mc) ?_;simp only[ZE,seval,zFI,zN,zaS,itL.eq_1,e];refine EFn.g ⟨[(1,1)],_,_,_,r2,?_⟩;simp only[ZE,seval,zFI,zN,zaS,itL.eq_1];rintro V ol new ⟨rfl,rfl,rfl⟩;simp only[ZE,seval,zFI,zN,zaS,itL.eq_1,e];refine⟨by kernel_rfl,?_⟩;refine za3.i (fun _=>lc) ?_;simp only[ZE,seval,zFI,zN,zaS,itL.eq_1,e];refine EFn.g ⟨[(1,1)],_,_,_,r3,?_⟩;simp only[ZE,seval,zFI,zN,zaS,itL.eq_1];rintro V ol new ⟨rfl,rfl,rfl⟩;simp only[ZE,seval,zFI,zN,zaS,itL.eq_1,e];refine EFn.p ?_;simp only[ZE,seval,zFI,zN,zaS,itL.eq_1,e];refine zar.i ec ?_;simp only[ZE,seval,zFI,zN,zaS,itL.eq_1,e];have r4:=za5 l F3 G3 ((zeZ l m x.name).1 !=0||(zeZ l m x.name).2 !=1) ⟨5,i,k⟩ (hin 5 rfl);simp only[ZE,seval,zFI,zN,zaS,itL.eq_1]at r4;refine EFn.g ⟨[(1,1)],_,_,_,r4,?_⟩;simp only[ZE,seval,zFI,zN,zaS,itL.eq_1];rintro V ol new ⟨rfl,rfl,rfl⟩;simp only[ZE,seval,zFI,zN,zaS,itL.eq_1];refine⟨[3,6,7],[],?_⟩;simp only[ZE,seval]
 have n2:=e;by_cases e:x.kind.1=3
 ·have hd:zaW x.kind.1=true:=by rw[e]; rfl
  have hd':zaW 3=true:=rfl;have hD:zex i k m x F=zaO F (zaT m k x) ⟨1,i,k⟩:=if_pos hd;have hI:zdo l i k m x F=zaO (zaO (zaO (zaO F (zaT m k x) ⟨1,i,k⟩) (zay x) ⟨2,i,k⟩) (zdp l m x) ⟨3,i,k⟩) ((zeZ l m x.name).1 !=1||(zeZ l m x.name).2 !=1) ⟨5,i,k⟩:=by rw[zdo,hD,zgm]; simp[e]
  rw[hI];refine FnL.of_eC (own:=[]) itL [0] zat func150 rfl call150 ntmps150 (zle rfl) results150 ?_;simp only[ZE,seval,hd,e]at dc;simp(maxSteps:=4000000) only[ZE,seval,zFI,zN,zaS,itL.eq_1,zai hi,zaa hi,hm,zai hk,zaa hk,hx,e];refine EFn.p ?_;simp only[ZE,seval,zFI,zN,zaS,itL.eq_1];refine zar.i dc ?_;simp only[ZE,seval,zFI,zN,zaS,itL.eq_1,<-List.map_take,Nat.sub_zero,hd'];have tc:=zcI (m.items.take k) 200 (.ptr (zaK x)) (zb8 x) (fun y _=>zg1 x y);have n1:=zdd x.name.1;have c1:=zcd m.params x.name;have r1:=za5 l F hF (zaT m k x) ⟨1,i,k⟩ (hin 1 rfl);have G1:=za8 (b:=zaT m k x) hF (hin 1 rfl);obtain⟨F1,hF1⟩:=zX (zaO F (zaT m k x) ⟨1,i,k⟩);rw[hF1]at r1 G1 ⊢;simp only[ZE,seval,e]at tc n1 c1;simp only[ZE,seval,zFI,zN,zaS,itL.eq_1,zaT]at r1;refine⟨⟨fun y hy=>(by obtain⟨q,_,rfl⟩:=List.mem_map.1 hy; exact zdD q),by omega,by omega,by omega⟩,EFn.p ?_⟩;simp only[ZE,seval,zFI,zN,zaS,itL.eq_1,e];refine zar.i tc ?_;simp only[ZE,seval,zFI,zN,zaS,itL.eq_1,e];refine⟨by kernel_rfl,?_⟩;refine za3.i (fun _=>n1) ?_;simp only[ZE,seval,zFI,zN,zaS,itL.eq_1,e];refine za3.i (fun _=>c1) ?_;simp only[ZE,seval,zFI,zN,zaS,itL.eq_1,e];refine EFn.g ⟨[(1,1)],_,_,_,r1,?_⟩;simp only[ZE,seval,zFI,zN,zaS,itL.eq_1];rintro V ol new ⟨rfl,rfl,rfl⟩;have r2:=za5 l F1 G1 (zay x) ⟨2,i,k⟩ (hin 2 rfl);have G2:=za8 (b:=zay x) G1 (hin 2 rfl);have lc:=zhI l (pK (zaO F1 (zay x) ⟨2,i,k⟩)) (pV (zaO F1 (zay x) ⟨2,i,k⟩)) (List.range (zaO F1 (zay x) ⟨2,i,k⟩).length) (zaO F1 (zay x) ⟨2,i,k⟩).length m x hn;have r3:=za5 l _ G2 (zdp l m x) ⟨3,i,k⟩ (hin 3 rfl);have G3:=za8 (b:=zdp l m x) G2 (hin 3 rfl);obtain⟨F3,hF3⟩:=zX (zaO (zaO F1 (zay x) ⟨2,i,k⟩) (zdp l m x) ⟨3,i,k⟩);rw[hF3]at r3 G3 ⊢;have ec:=zhD l (pK F3) (pV F3) (List.range F3.length) F3.length m x.name;simp only[ZE,seval,zFI,zN,zaS,itL.eq_1,e]at r2 lc r3 ec mc
  try simp only[ZE,seval,zFI,zN,zaS,itL.eq_1,e]
  refine⟨by kernel_rfl,?_⟩;refine za3.i (fun _=>mc) ?_;simp only[ZE,seval,zFI,zN,zaS,itL.eq_1,e];refine EFn.g ⟨[(1,1)],_,_,_,r2,?_⟩;simp only[ZE,seval,zFI,zN,zaS,itL.eq_1];rintro V ol new ⟨rfl,rfl,rfl⟩;simp only[ZE,seval,zFI,zN,zaS,itL.eq_1,e];refine⟨by kernel_rfl,?_⟩;refine za3.i (fun _=>lc) ?_;simp only[ZE,seval,zFI,zN,zaS,itL.eq_1,e];refine EFn.g ⟨[(1,1)],_,_,_,r3,?_⟩;simp only[ZE,seval,zFI,zN,zaS,itL.eq_1];rintro V ol new ⟨rfl,rfl,rfl⟩;simp only[ZE,seval,zFI,zN,zaS,itL.eq_1,e];refine EFn.p ?_;simp only[ZE,seval,zFI,zN,zaS,itL.eq_1,e];refine zar.i ec ?_;simp only[ZE,seval,zFI,zN,zaS,itL.eq_1,e];have r4:=za5 l F3 G3 ((zeZ l m x.name).1 !=1||(zeZ l m x.name).2 !=1) ⟨5,i,k⟩ (hin 5 rfl);simp only[ZE,seval,zFI,zN,zaS,itL.eq_1]at r4;refine EFn.g ⟨[(1,1)],_,_,_,r4,?_⟩;simp only[ZE,seval,zFI,zN,zaS,itL.eq_1];rintro V ol new ⟨rfl,rfl,rfl⟩;simp only[ZE,seval,zFI,zN,zaS,itL.eq_1];refine⟨[3,6,7],[],?_⟩;simp only[ZE,seval]
 have n3:=e;by_cases e:x.kind.1=9
 ·have hd:zaW x.kind.1=true:=by rw[e]; rfl
  have hd':zaW 9=true:=rfl;have hD:zex i k m x F=zaO F (zaT m k x) ⟨1,i,k⟩:=if_pos hd;have hI:zdo l i k m x F=zaO (zaO (zaO (zaO F (zaT m k x) ⟨1,i,k⟩) (zay x) ⟨2,i,k⟩) (zdp l m x) ⟨3,i,k⟩) (zeR l x) ⟨6,i,k⟩:=by rw[zdo,hD,zgm]; simp[e]
  rw[hI];refine FnL.of_eC (own:=[]) itL [0] zat func150 rfl call150 ntmps150 (zle rfl) results150 ?_;simp only[ZE,seval,hd,e]at dc;simp(maxSteps:=4000000) only[ZE,seval,zFI,zN,zaS,itL.eq_1,zai hi,zaa hi,hm,zai hk,zaa hk,hx,e];refine EFn.p ?_;simp only[ZE,seval,zFI,zN,zaS,itL.eq_1];refine zar.i dc ?_;simp only[ZE,seval,zFI,zN,zaS,itL.eq_1,<-List.map_take,Nat.sub_zero,hd'];have tc:=zcI (m.items.take k) 200 (.ptr (zaK x)) (zb8 x) (fun y _=>zg1 x y);have n1:=zdd x.name.1;have c1:=zcd m.params x.name;have r1:=za5 l F hF (zaT m k x) ⟨1,i,k⟩ (hin 1 rfl);have G1:=za8 (b:=zaT m k x) hF (hin 1 rfl);obtain⟨F1,hF1⟩:=zX (zaO F (zaT m k x) ⟨1,i,k⟩);rw[hF1]at r1 G1 ⊢;simp only[ZE,seval,e]at tc n1 c1;simp only[ZE,seval,zFI,zN,zaS,itL.eq_1,zaT]at r1;refine⟨⟨fun y hy=>(by obtain⟨q,_,rfl⟩:=List.mem_map.1 hy; exact zdD q),by omega,by omega,by omega⟩,EFn.p ?_⟩;simp only[ZE,seval,zFI,zN,zaS,itL.eq_1,e];refine zar.i tc ?_;simp only[ZE,seval,zFI,zN,zaS,itL.eq_1,e];refine⟨by kernel_rfl,?_⟩;refine za3.i (fun _=>n1) ?_;simp only[ZE,seval,zFI,zN,zaS,itL.eq_1,e];refine za3.i (fun _=>c1) ?_;simp only[ZE,seval,zFI,zN,zaS,itL.eq_1,e];refine EFn.g ⟨[(1,1)],_,_,_,r1,?_⟩;simp only[ZE,seval,zFI,zN,zaS,itL.eq_1];rintro V ol new ⟨rfl,rfl,rfl⟩;have r2:=za5 l F1 G1 (zay x) ⟨2,i,k⟩ (hin 2 rfl);have G2:=za8 (b:=zay x) G1 (hin 2 rfl);have lc:=zhI l (pK (zaO F1 (zay x) ⟨2,i,k⟩)) (pV (zaO F1 (zay x) ⟨2,i,k⟩)) (List.range (zaO F1 (zay x) ⟨2,i,k⟩).length) (zaO F1 (zay x) ⟨2,i,k⟩).length m x hn;have r3:=za5 l _ G2 (zdp l m x) ⟨3,i,k⟩ (hin 3 rfl);have G3:=za8 (b:=zdp l m x) G2 (hin 3 rfl);obtain⟨F3,hF3⟩:=zX (zaO (zaO F1 (zay x) ⟨2,i,k⟩) (zdp l m x) ⟨3,i,k⟩);rw[hF3]at r3 G3 ⊢;have ec:=zhD l (pK F3) (pV F3) (List.range F3.length) F3.length m x.name;simp only[ZE,seval,zFI,zN,zaS,itL.eq_1,e]at r2 lc r3 ec mc
  try simp only[ZE,seval,zFI,zN,zaS,itL.eq_1,e]
  refine⟨by kernel_rfl,?_⟩;refine za3.i (fun _=>mc) ?_;simp only[ZE,seval,zFI,zN,zaS,itL.eq_1,e];refine EFn.g ⟨[(1,1)],_,_,_,r2,?_⟩;simp only[ZE,seval,zFI,zN,zaS,itL.eq_1];rintro V ol new ⟨rfl,rfl,rfl⟩;simp only[ZE,seval,zFI,zN,zaS,itL.eq_1,e];refine⟨by kernel_rfl,?_⟩;refine za3.i (fun _=>lc) ?_;simp only[ZE,seval,zFI,zN,zaS,itL.eq_1,e];refine EFn.g ⟨[(1,1)],_,_,_,r3,?_⟩;simp only[ZE,seval,zFI,zN,zaS,itL.eq_1];rintro V ol new ⟨rfl,rfl,rfl⟩;simp only[ZE,seval,zFI,zN,zaS,itL.eq_1,e];refine EFn.p ?_;simp only[ZE,seval,zFI,zN,zaS,itL.eq_1,e];refine zar.i ec ?_;simp only[ZE,seval,zFI,zN,zaS,itL.eq_1,e];have r4:=za5 l F3 G3 (zeR l x) ⟨6,i,k⟩ (hin 6 rfl);simp only[ZE,seval,zFI,zN,zaS,itL.eq_1]at r4;have pc:=zxk l (pK F3) (pV F3) (List.range F3.length) F3.length x;simp only[ZE,seval,zFI,zN,zaS,itL.eq_1,e]at pc;refine⟨by kernel_rfl,za3.i (fun _=>pc) ?_⟩;simp only[ZE,seval,zFI,zN,zaS,itL.eq_1];refine EFn.g ⟨[(1,1)],_,_,_,r4,?_⟩;simp only[ZE,seval,zFI,zN,zaS,itL.eq_1];rintro V ol new ⟨rfl,rfl,rfl⟩;simp only[ZE,seval,zFI,zN,zaS,itL.eq_1];refine⟨[3,6,7],[],?_⟩;simp only[ZE,seval]
 have n9:=e;by_cases e:x.kind.1=7
 ·have hd:zaW x.kind.1=false:=by rw[e]; rfl
  have hd':zaW 7=false:=rfl;have hD:zex i k m x F=F:=if_neg (by rw[hd]; simp);have hI:zdo l i k m x F=zaO (zaO (zaO F (zay x) ⟨2,i,k⟩) (zdp l m x) ⟨3,i,k⟩) (zic m x) ⟨8,i,k⟩:=by rw[zdo,hD,zgm]; simp[e]
  rw[hI];refine FnL.of_eC (own:=[]) itL [0] zat func150 rfl call150 ntmps150 (zle rfl) results150 ?_;simp only[ZE,seval,hd,e]at dc;simp(maxSteps:=4000000) only[ZE,seval,zFI,zN,zaS,itL.eq_1,zai hi,zaa hi,hm,zai hk,zaa hk,hx,e];refine EFn.p ?_;simp only[ZE,seval,zFI,zN,zaS,itL.eq_1];refine zar.i dc ?_;simp only[ZE,seval,zFI,zN,zaS,itL.eq_1,hd'];obtain⟨F1,hF1⟩:=zX (F);have G1:=hF;rw[hF1]at G1 ⊢;have r2:=za5 l F1 G1 (zay x) ⟨2,i,k⟩ (hin 2 rfl);have G2:=za8 (b:=zay x) G1 (hin 2 rfl);have lc:=zhI l (pK (zaO F1 (zay x) ⟨2,i,k⟩)) (pV (zaO F1 (zay x) ⟨2,i,k⟩)) (List.range (zaO F1 (zay x) ⟨2,i,k⟩).length) (zaO F1 (zay x) ⟨2,i,k⟩).length m x hn;have r3:=za5 l _ G2 (zdp l m x) ⟨3,i,k⟩ (hin 3 rfl);have G3:=za8 (b:=zdp l m x) G2 (hin 3 rfl);obtain⟨F3,hF3⟩:=zX (zaO (zaO F1 (zay x) ⟨2,i,k⟩) (zdp l m x) ⟨3,i,k⟩);rw[hF3]at r3 G3 ⊢;have ec:=zhD l (pK F3) (pV F3) (List.range F3.length) F3.length m x.name;simp only[ZE,seval,zFI,zN,zaS,itL.eq_1,e]at r2 lc r3 ec mc
  try simp only[ZE,seval,zFI,zN,zaS,itL.eq_1,e]
  refine⟨by kernel_rfl,?_⟩;refine za3.i (fun _=>mc) ?_;simp only[ZE,seval,zFI,zN,zaS,itL.eq_1,e];refine EFn.g ⟨[(1,1)],_,_,_,r2,?_⟩;simp only[ZE,seval,zFI,zN,zaS,itL.eq_1];rintro V ol new ⟨rfl,rfl,rfl⟩;simp only[ZE,seval,zFI,zN,zaS,itL.eq_1,e];refine⟨by kernel_rfl,?_⟩;refine za3.i (fun _=>lc) ?_;simp only[ZE,seval,zFI,zN,zaS,itL.eq_1,e];refine EFn.g ⟨[(1,1)],_,_,_,r3,?_⟩;simp only[ZE,seval,zFI,zN,zaS,itL.eq_1];rintro V ol new ⟨rfl,rfl,rfl⟩;simp only[ZE,seval,zFI,zN,zaS,itL.eq_1,e];refine EFn.p ?_;simp only[ZE,seval,zFI,zN,zaS,itL.eq_1,e];refine zar.i ec ?_;simp only[ZE,seval,zFI,zN,zaS,itL.eq_1,e];have r4:=za5 l F3 G3 (zic m x) ⟨8,i,k⟩ (hin 8 rfl);simp only[ZE,seval,zFI,zN,zaS,itL.eq_1]at r4;have pc:=early_c m x;simp only[ZE,seval,zFI,zN,zaS,itL.eq_1,e]at pc;refine⟨by kernel_rfl,za3.i (fun _=>pc) ?_⟩;simp only[ZE,seval,zFI,zN,zaS,itL.eq_1];refine EFn.g ⟨[(1,1)],_,_,_,r4,?_⟩;simp only[ZE,seval,zFI,zN,zaS,itL.eq_1];rintro V ol new ⟨rfl,rfl,rfl⟩;simp only[ZE,seval,zFI,zN,zaS,itL.eq_1];refine⟨[3,6,7],[],?_⟩;simp only[ZE,seval]
 have n7:=e;have e5:(x.kind.1==5)=false:=by simpa using n5
 have e1:(x.kind.1==1)=false:=by simpa using n1
 have e2:(x.kind.1==2)=false:=by simpa using n2
 have e3:(x.kind.1==3)=false:=by simpa using n3
 have e9:(x.kind.1==9)=false:=by simpa using n9
 have e7:(x.kind.1==7)=false:=by simpa using n7
 have hK: ∀F,zgm l i k m x F=F:=fun F=>by rw[zgm]; simp[n5,n1,n2,n3,n9,n7]
 cases hd:zaW x.kind.1 with
 | true=>
  have hD:zex i k m x F=zaO F (zaT m k x) ⟨1,i,k⟩:=if_pos hd;rw[zdo,hK,hD];refine FnL.of_eC (own:=[]) itL [0] zat func150 rfl call150 ntmps150 (zle rfl) results150 ?_;simp only[ZE,seval,hd]at dc;simp(maxSteps:=4000000) only[ZE,seval,zFI,zN,zaS,itL.eq_1,zai hi,zaa hi,hm,zai hk,zaa hk,hx];refine EFn.p ?_;simp only[ZE,seval,zFI,zN,zaS,itL.eq_1];refine zar.i dc ?_;simp only[ZE,seval,zFI,zN,zaS,itL.eq_1,<-List.map_take,Nat.sub_zero];have tc:=zcI (m.items.take k) 200 (.ptr (zaK x)) (zb8 x) (fun y _=>zg1 x y);have n1:=zdd x.name.1;have c1:=zcd m.params x.name;have r1:=za5 l F hF (zaT m k x) ⟨1,i,k⟩ (hin 1 rfl);have G1:=za8 (b:=zaT m k x) hF (hin 1 rfl);obtain⟨F1,hF1⟩:=zX (zaO F (zaT m k x) ⟨1,i,k⟩);rw[hF1]at r1 G1 ⊢;simp only[ZE,seval,hd]at tc n1 c1;simp only[ZE,seval,zFI,zN,zaS,itL.eq_1,zaT]at r1;refine⟨⟨fun y hy=>(by obtain⟨q,_,rfl⟩:=List.mem_map.1 hy; exact zdD q),by omega,by omega,by omega⟩,EFn.p ?_⟩;simp only[ZE,seval,zFI,zN,zaS,itL.eq_1,hd];refine zar.i tc ?_;simp only[ZE,seval,zFI,zN,zaS,itL.eq_1,hd];refine⟨by kernel_rfl,?_⟩;refine za3.i (fun _=>n1) ?_;simp only[ZE,seval,zFI,zN,zaS,itL.eq_1,hd];refine za3.i (fun _=>c1) ?_;simp only[ZE,seval,zFI,zN,zaS,itL.eq_1,hd];refine EFn.g ⟨[(1,1)],_,_,_,r1,?_⟩;simp only[ZE,seval,zFI,zN,zaS,itL.eq_1];rintro V ol new ⟨rfl,rfl,rfl⟩;have r2:=za5 l F1 G1 (zay x) ⟨2,i,k⟩ (hin 2 rfl);have G2:=za8 (b:=zay x) G1 (hin 2 rfl);have lc:=zhI l (pK (zaO F1 (zay x) ⟨2,i,k⟩)) (pV (zaO F1 (zay x) ⟨2,i,k⟩)) (List.range (zaO F1 (zay x) ⟨2,i,k⟩).length) (zaO F1 (zay x) ⟨2,i,k⟩).length m x hn;have r3:=za5 l _ G2 (zdp l m x) ⟨3,i,k⟩ (hin 3 rfl);have G3:=za8 (b:=zdp l m x) G2 (hin 3 rfl);obtain⟨F3,hF3⟩:=zX (zaO (zaO F1 (zay x) ⟨2,i,k⟩) (zdp l m x) ⟨3,i,k⟩);rw[hF3]at r3 G3 ⊢;have ec:=zhD l (pK F3) (pV F3) (List.range F3.length) F3.length m x.name;simp only[ZE,seval,zFI,zN,zaS,itL.eq_1,e5,e1,e2,e3,e9,e7]at r2 lc r3 ec mc
  try simp only[ZE,seval,zFI,zN,zaS,itL.eq_1,e5,e1,e2,e3,e9,e7]
  refine⟨by kernel_rfl,?_⟩;refine za3.i (fun _=>mc) ?_;simp only[ZE,seval,zFI,zN,zaS,itL.eq_1,e5,e1,e2,e3,e9,e7];refine EFn.g ⟨[(1,1)],_,_,_,r2,?_⟩;simp only[ZE,seval,zFI,zN,zaS,itL.eq_1];rintro V ol new ⟨rfl,rfl,rfl⟩;simp only[ZE,seval,zFI,zN,zaS,itL.eq_1,e5,e1,e2,e3,e9,e7];refine⟨by kernel_rfl,?_⟩;refine za3.i (fun _=>lc) ?_;simp only[ZE,seval,zFI,zN,zaS,itL.eq_1,e5,e1,e2,e3,e9,e7];refine EFn.g ⟨[(1,1)],_,_,_,r3,?_⟩;simp only[ZE,seval,zFI,zN,zaS,itL.eq_1];rintro V ol new ⟨rfl,rfl,rfl⟩;simp only[ZE,seval,zFI,zN,zaS,itL.eq_1,e5,e1,e2,e3,e9,e7];refine EFn.p ?_;simp only[ZE,seval,zFI,zN,zaS,itL.eq_1,e5,e1,e2,e3,e9,e7];refine zar.i ec ?_;simp only[ZE,seval,zFI,zN,zaS,itL.eq_1,e5,e1,e2,e3,e9,e7];refine⟨[3,6,7],[],?_⟩;simp only[ZE,seval]
 | false=>
  have hD:zex i k m x F=F:=if_neg (by rw[hd]; simp);rw[zdo,hK,hD];refine FnL.of_eC (own:=[]) itL [0] zat func150 rfl call150 ntmps150 (zle rfl) results150 ?_;simp only[ZE,seval,hd]at dc;simp(maxSteps:=4000000) only[ZE,seval,zFI,zN,zaS,itL.eq_1,zai hi,zaa hi,hm,zai hk,zaa hk,hx];refine EFn.p ?_;simp only[ZE,seval,zFI,zN,zaS,itL.eq_1];refine zar.i dc ?_;simp only[ZE,seval,zFI,zN,zaS,itL.eq_1];obtain⟨F1,hF1⟩:=zX (F);have G1:=hF;rw[hF1]at G1 ⊢;have r2:=za5 l F1 G1 (zay x) ⟨2,i,k⟩ (hin 2 rfl);have G2:=za8 (b:=zay x) G1 (hin 2 rfl);have lc:=zhI l (pK (zaO F1 (zay x) ⟨2,i,k⟩)) (pV (zaO F1 (zay x) ⟨2,i,k⟩)) (List.range (zaO F1 (zay x) ⟨2,i,k⟩).length) (zaO F1 (zay x) ⟨2,i,k⟩).length m x hn;have r3:=za5 l _ G2 (zdp l m x) ⟨3,i,k⟩ (hin 3 rfl);have G3:=za8 (b:=zdp l m x) G2 (hin 3 rfl);obtain⟨F3,hF3⟩:=zX (zaO (zaO F1 (zay x) ⟨2,i,k⟩) (zdp l m x) ⟨3,i,k⟩);rw[hF3]at r3 G3 ⊢;have ec:=zhD l (pK F3) (pV F3) (List.range F3.length) F3.length m x.name;simp only[ZE,seval,zFI,zN,zaS,itL.eq_1,e5,e1,e2,e3,e9,e7]at r2 lc r3 ec mc
  try simp only[ZE,seval,zFI,zN,zaS,itL.eq_1,e5,e1,e2,e3,e9,e7]
  refine⟨by kernel_rfl,?_⟩;refine za3.i (fun _=>mc) ?_;simp only[ZE,seval,zFI,zN,zaS,itL.eq_1,e5,e1,e2,e3,e9,e7];refine EFn.g ⟨[(1,1)],_,_,_,r2,?_⟩;simp only[ZE,seval,zFI,zN,zaS,itL.eq_1];rintro V ol new ⟨rfl,rfl,rfl⟩;simp only[ZE,seval,zFI,zN,zaS,itL.eq_1,e5,e1,e2,e3,e9,e7];refine⟨by kernel_rfl,?_⟩;refine za3.i (fun _=>lc) ?_;simp only[ZE,seval,zFI,zN,zaS,itL.eq_1,e5,e1,e2,e3,e9,e7];refine EFn.g ⟨[(1,1)],_,_,_,r3,?_⟩;simp only[ZE,seval,zFI,zN,zaS,itL.eq_1];rintro V ol new ⟨rfl,rfl,rfl⟩;simp only[ZE,seval,zFI,zN,zaS,itL.eq_1,e5,e1,e2,e3,e9,e7];refine EFn.p ?_;simp only[ZE,seval,zFI,zN,zaS,itL.eq_1,e5,e1,e2,e3,e9,e7];refine zar.i ec ?_;simp only[ZE,seval,zFI,zN,zaS,itL.eq_1,e5,e1,e2,e3,e9,e7];refine⟨[3,6,7],[],?_⟩;simp only[ZE,seval]
set_option maxHeartbeats 2000000
def zeo(l:List Module)(i:Nat)(m:Module)(F:List Problem)(k:Nat):List Problem:=(m.items.take k).zipIdx.foldl (fun F p=>zdo l i p.2 m p.1 F) F
def zlY(l:List Module)(F:List Problem)(p:Module×Nat):List Problem:=zeo l p.2 p.1 (zhG l p.2 p.1 F) p.1.items.length
def zcV(l:List Module):List Problem:=l.zipIdx.foldl (zlY l) []
noncomputable def check(l:List Module):List Problem:=zcl (zcV l)
theorem zeL{α β:Type}(f:β->α×Nat->β)(b:β)(l:List α)(i:Nat)(h:i<l.length):(l.take (i+1)).zipIdx.foldl f b=f ((l.take i).zipIdx.foldl f b) (l[i],i):=by
 rw[wah h,List.zipIdx_append,List.foldl_append,waj,Nat.min_eq_left (Nat.le_of_lt h)];simp
theorem zef(F:List Problem)(b:Bool)(p:Problem):(zaO F b p).length <=F.length+1:=by
 unfold zaO zuN;split
 ·split <;> simp
 ·omega
theorem zw4{l:List Module}{i k:Nat}{m:Module}{x:Item}{F:List Problem}(hi:i<=9223372036854775807)(hk:k<=9223372036854775807)(h: ∀q∈F,zb7 q): ∀q∈zdo l i k m x F,zb7 q:=by
 have hin: ∀c:Int,(Lit.int .i64 c).wf =true->zb7 ⟨c,i,k⟩:=fun c hc=>⟨hc,zdi hi,zdi hk⟩;have h1: ∀q∈zex i k m x F,zb7 q:=by
  unfold zex;split
  ·exact za8 h (hin 1 rfl)
  ·exact h
 have h3:=za8 (b:=zdp l m x) (za8 (b:=zay x) h1 (hin 2 rfl)) (hin 3 rfl);unfold zdo zgm
 (repeat' split) <;> first | exact za8 h3 (hin _ rfl) | exact h3
theorem zs4(l:List Module)(i k:Nat)(m:Module)(x:Item)(F:List Problem):(zdo l i k m x F).length <=F.length+4:=by
 have h1:(zex i k m x F).length <=F.length+1:=by
  unfold zex;split
  ·exact zef _ _ _
  ·omega
 have h2:=zef (zex i k m x F) (zay x) ⟨2,i,k⟩;have h3:=zef (zaO (zex i k m x F) (zay x) ⟨2,i,k⟩) (zdp l m x) ⟨3,i,k⟩;have h4:=fun b p=>zef (zaO (zaO (zex i k m x F) (zay x) ⟨2,i,k⟩) (zdp l m x) ⟨3,i,k⟩) b p;unfold zdo zgm
 (repeat' split) <;> first | omega | exact war (h4 _ _) (by omega)
theorem zpb{l:List Module}{i:Nat}{m:Module}{F:List Problem}(hi:i<=9223372036854775807)(h: ∀q∈F,zb7 q): ∀q∈zhG l i m F,zb7 q:=
 za8 (za8 h ⟨rfl,zdi hi,rfl⟩) ⟨rfl,zdi hi,rfl⟩
theorem zsT(l:List Module)(i:Nat)(m:Module)(F:List Problem):(zhG l i m F).length <=F.length+2:=by
 have h1:=zef F (zbX l i m) ⟨1,i,-1⟩;have h2:=zef (zaO F (zbX l i m) ⟨1,i,-1⟩) (loops l i) ⟨7,i,-1⟩;unfold zhG; omega
theorem zf1(l:List Module)(i:Nat)(m:Module)(F:List Problem)(k:Nat)(hk:k<m.items.length):zeo l i m F (k+1)=zdo l i k m m.items[k] (zeo l i m F k):=by
 unfold zeo;rw[zeL _ _ _ _ hk]
theorem zmG{l:List Module}{i:Nat}{m:Module}{F:List Problem}(hi:i<=9223372036854775807)(hm:m.items.length<=9223372036854775807)(h: ∀q∈F,zb7 q)(k:Nat):k<=m.items.length-> ∀q∈zeo l i m F k,zb7 q:=by
 induction k with
 | zero=>intro _; exact h
 | succ k ih=>
  intro hk;rw[zf1 _ _ _ _ _ (by omega)];exact zw4 hi (by omega) (ih (by omega))
theorem zqp(l:List Module)(i:Nat)(m:Module)(F:List Problem)(k:Nat):k<=m.items.length->(zeo l i m F k).length <=F.length+4*k:=by
 induction k with
 | zero=>intro _; exact was _
 | succ k ih=>
  intro hk;rw[zf1 _ _ _ _ _ (by omega)];have:=ih (by omega);have h2:=zs4 l i k m m.items[k] (zeo l i m F k);omega
structure Small (l:List Module):Prop where
 len:l.length<=1000
 items: ∀m∈l,m.items.length<=900
 nums: ∀m∈l,∀x∈m.items,(zaX x).length <=2000000
theorem zsV(l:List Module)(i:Nat)(h:i<l.length):znH (l.take (i+1))=zc4 (znH (l.take i)) (l[i],i):=by
 unfold znH;exact zeL zc4 [] l i h
theorem modF_in{l:List Module}{F:List Problem}{i:Nat}{m:Module}(hi:i<=9223372036854775807)(hm:m.items.length<=9223372036854775807)(h: ∀q∈F,zb7 q): ∀q∈zlY l F (m,i),zb7 q:=zmG hi hm (zpb hi h) _ (was _)
theorem zlc{l:List Module}(hS:Small l)(i:Nat):i<=l.length->(∀q∈(l.take i).zipIdx.foldl (zlY l) [],zb7 q)/\((l.take i).zipIdx.foldl (zlY l) []).length <=3602*i:=by
 induction i with
 | zero=>intro _; simp
 | succ i ih=>
  intro hi;obtain⟨h1,h2⟩:=ih (by omega);have hi':i<l.length:=by omega
  rw[zeL _ _ _ _ hi'];have hl:=hS.len;have hm:=hS.items l[i] (wai hi');refine⟨modF_in (by omega) (by omega) h1,?_⟩;have h3:=zsT l i l[i] ((l.take i).zipIdx.foldl (zlY l) []);have h4:=zqp l i l[i] (zhG l i l[i] ((l.take i).zipIdx.foldl (zlY l) [])) l[i].items.length (was _);have e:zlY l ((l.take i).zipIdx.foldl (zlY l) []) (l[i],i)=zeo l i l[i] (zhG l i l[i] ((l.take i).zipIdx.foldl (zlY l) [])) l[i].items.length :=rfl;rw[e];omega
theorem zkt: ∀ {l:List D},(∀y∈l,y.ok)->D.okL l
 | [],_=>by simp only[D.okL]
 | y::l,h=>by simp only[D.okL]; exact⟨h y (by simp),zkt fun z hz=>h z (by simp[hz])⟩
theorem zp9{m:Module}(h:D.okL (zaC m)):D.okL (zaf m):=by
 simp only[zaC,D.okL]at h;obtain⟨h1,h2,h3,h4,_⟩:=h;have hi:=(za9 h4).2;refine zkt fun y hy=> ?_;simp only[zaf,List.mem_cons,List.not_mem_nil,or_false]at hy;rcases hy with rfl | rfl | rfl | rfl | rfl | rfl
 ·exact h1
 ·exact h2
 ·exact h3
 ·exact h4
 ·simp only[sMp,D.ok];refine⟨zkt fun y hy=> ?_,zkt fun y hy=> ?_⟩
  ·obtain⟨p,_,rfl⟩:=List.mem_map.1 hy; simp only[D.ok]
  ·obtain⟨p,hp,rfl⟩:=List.mem_map.1 hy;simp only[eIt,D.ok];exact hi p.2 (zkf _ p hp)
 ·simp only[sMp,D.ok];refine⟨zkt fun y hy=> ?_,zkt fun y hy=> ?_⟩
  ·obtain⟨p,_,rfl⟩:=List.mem_map.1 hy; simp only[D.ok]
  ·obtain⟨p,_,rfl⟩:=List.mem_map.1 hy; simp only[eB,D.ok]
theorem zqa{l:List Module}(h:(zax l).ok):(zab l).ok :=by
 have h1:l.length<=maxLen:=by simp only[zax,D.ok,waa]at h; exact h.1
 have h2:=(za9 h).2;simp only[zab,D.ok,waa];exact⟨h1,zov fun y hy=>by
  obtain⟨m,hm,rfl⟩:=List.mem_map.1 hy;exact zp9 (h2 m hm)⟩
theorem zk6(l:List Module)(hS:Small l):FnP prog 98 [.agg [zax l]] (.d (ze3 (check l))) []:=by
 refine FnP.of_eC (own:=[]) (fun i=>if i=1 then [.adB 3 0 100 232 6]else if i=2005 then [.ord ⟨[(0,none),(1,none),(2,none),(3,none),(4,none),(5,some []),(6,some []),(7,some [])]⟩]else if i=1010 then [.frz 100,.frz 11]else chL i) zat func98 rfl call98 ntmps98 (zle rfl) results98 (fun hok=> ?_);have hlen:=hS.len;have e0:sK ([]:List (Str×Int))=[]:=rfl;have e1:sV eI ([]:List (Str×Int))=[]:=rfl;have e2:znH []=[]:=rfl;simp only[ZE,seval,zFI,zN];refine za1 (fun i=>if i=2005 then [.ord ⟨[(0,none),(1,none),(2,none),(3,none),(4,none),(5,some []),(6,some []),(7,some [])]⟩]else chL i) zat l.length (fun _=>True) (fun i=>([(1,.bp 1 0),(3,.bp 3 0),(15,.d (zax l)),(16,.d (eI l.length)),(17,.d (eI i))],
  [(1,.box [.d (zax l)]),(3,.box [.ar 100 i,.mo 11,.mo 12]),(100,.arr 232 6 .flat ((l.take i).map zaf)),(11,.map (sK (znH (l.take i))) (sV eI (znH (l.take i))) (List.range (znH (l.take i)).length) (znH (l.take i)).length),(12,zaS [])])) trivial ?_ ?_ (fun i hi _=> ?_)
 ·simp only[ZE,seval]
 ·simp only[ZE,seval,zFI,wap,e0,e1,e2,wag,List.range_zero,wac,zaS,pK,pV]
 rcases waq i l.length with h | h
 ·have hw:=zaq (show i<9223372036854775807 by omega);have sc:=zxG l[i];simp only[ZE,seval,zFI]at sc;have hst:=zsV l i h;obtain⟨acc,hacc⟩:=zX (znH (l.take i));rw[hacc]at hst;rw[hacc,hst,wah h,waf];simp only[wae,wac];simp only[ZE,seval,zaw h,zaa h,zai h,hw,zN,zFI,zaS];refine⟨by kernel_rfl,zaz.i sc ?_⟩;cases hg:get acc l[i].name with
  | none=>
   have e:zc4 acc (l[i],i)=acc++[(l[i].name,(i:Int))]:=by unfold zc4; rw[if_pos (by rw[hg]; rfl)]
   rw[e];have hput:=zkl (zqH eI (x:=(i:Int)) hg);simp only[eI]at hput;simp only[ZE,seval,hw,zN,zFI,zaS,hg,hput,waj,Nat.min_eq_left (Nat.le_of_lt h)];exact⟨⟨by omega,by omega⟩,by simp; omega,fun y hy=>zcr _ y hy,fun y hy=>zcr _ y hy,h⟩
  | some z=>
   have e:zc4 acc (l[i],i)=acc:=by unfold zc4; rw[if_neg (by rw[hg]; simp)]
   rw[e];simp only[ZE,seval,hw,zN,zFI,zaS,hg,waj,Nat.min_eq_left (Nat.le_of_lt h)];exact⟨⟨by omega,by omega⟩,by simp; omega,fun y hy=>zcr _ y hy,h⟩
 ·have:i=l.length:=by omega
  subst this;have hml:(zax l).ok :=by
   have:=(zaM hok).1;simp only[D.ok,D.okL]at this;exact this.1
  have hsok:=zqa hml;have hm2:=(za9 hml).2;simp only[ZE,seval,zaI h,List.take_length,zN,zFI,zaS];refine za1 chL zat l.length (fun _=>True) (fun i=>([(1,.bp 1 0),(3,.bp 3 0),(46,.d (zax l)),(47,.d (eI l.length)),(48,.d (eI i))],
   [(1,.box [.d (zax l)]),(3,.box [.d (zab l),.d (zaF l),.mo 12]),(12,zaS ((l.take i).zipIdx.foldl (zlY l) []))])) trivial ?_ ?_ (fun i hi _=> ?_)
  ·simp only[ZE,seval]
  ·simp only[ZE,seval,zFI,wap,List.zipIdx_nil,List.foldl_nil,zaS,pK,pV,wac,wag,List.range_zero]
  rcases waq i l.length with h | h
  ·have hw:=zaq (show i<9223372036854775807 by omega);obtain⟨hF1,hF2⟩:=zlc hS i (Nat.le_of_lt h);have hst:=zeL (zlY l) [] l i h;obtain⟨F,hF⟩:=zX ((l.take i).zipIdx.foldl (zlY l) []);rw[hF]at hst hF1 hF2;rw[hF,hst];have hmo:=hm2 l[i] (wai h);have hil:=hS.items l[i] (wai h);have hc:=head_c l i l[i] hsok hmo h F hF1;have hG:=zpb (l:=l) (m:=l[i]) (show i<=9223372036854775807 by omega) hF1;have hlast:zlY l F (l[i],i)=zeo l i l[i] (zhG l i l[i] F) l[i].items.length :=rfl;rw[hlast];obtain⟨G,hGe⟩:=zX (zhG l i l[i] F);rw[hGe]at hc hG ⊢;simp only[ZE,seval,zFI,zaS]at hc;simp only[ZE,seval,zaw h,zaa h,zai h,zN,zFI,zaS];refine EFn.g ⟨[(1,12)],_,_,_,hc,?_⟩;simp only[ZE,seval,zFI];rintro V ol new ⟨rfl,rfl,rfl⟩;simp only[ZE,seval,zFI];refine za1 chL zat l[i].items.length (fun _=>True) (fun k=>([(1,.bp 1 0),(3,.bp 3 0),(8,.d (eI i)),(46,.d (zax l)),(47,.d (eI l.length)),(48,.d (eI i)),(59,.d (eI l[i].items.length)),(60,.d (eI k))],
    [(1,.box [.d (zax l)]),(3,.box [.d (zab l),.d (zaF l),.mo 12]),(12,zaS (zeo l i l[i] G k))])) trivial ?_ ?_ (fun k hk _=> ?_)
   ·simp only[ZE,seval]
   ·have e:zeo l i l[i] G 0=G:=rfl;simp only[ZE,seval,zFI,zaS,e]
   rcases waq k l[i].items.length with h' | h'
   ·have hw':=zaq (show k<9223372036854775807 by omega);have hI:=zmG (l:=l) (show i<=9223372036854775807 by omega) (show l[i].items.length <=9223372036854775807 by omega) hG k (Nat.le_of_lt h');have ic:=item_c l i k l[i] l[i].items[k] hsok h rfl h' rfl (hS.nums _ (wai h) _ (wai h')) _ hI;rw[zf1 _ _ _ _ _ h'];simp only[ZE,seval,zFI,zaS]at ic;simp only[ZE,seval,zaw h',zN,zFI,zaS,hw'];refine EFn.g ⟨[(1,12)],_,_,_,ic,?_⟩;simp only[ZE,seval,zFI];rintro V ol new ⟨rfl,rfl,rfl⟩;simp only[ZE,seval,zFI,hw'];exact h'
   ·have:k=l[i].items.length :=(by omega);subst this;simp only[ZE,seval,zaI h',zN,zFI,zaS,hw];exact h
  ·have:i=l.length:=by omega
   subst this;have hfd:=zlc hS l.length (was _);rw[List.take_length]at hfd;have kc:=keys_c (zcV l) (pV (zcV l)) (List.range (zcV l).length) (zcV l).length;have so:=zpI (zcV l) (pV (zcV l)) (List.range (zcV l).length) (zcV l).length (by unfold zcV; omega);have hfe:l.zipIdx.foldl (zlY l) []=zcV l:=rfl;simp only[ZE,seval,zaI h,List.take_length,zN,zFI,zaS,hfe];refine EFn.p ?_;simp only[ZE,seval,pK];refine zar.i kc ?_;simp only[ZE,seval];refine EFn.p ?_;simp only[ZE,seval];refine zar.i so ?_;simp only[ZE,seval,check]
def zbi(l:List Module):Bool:=(zcV l).length ==0
theorem zhC(l:List Module):(check l).length =(zcV l).length :=zba _
theorem zfs(l:List Module)(hS:Small l):FnP prog 44 [.agg [zax l]] (.d (eB (zbi l))) []:=by
 refine FnP.of_eC (own:=[]) (fun _=>[]) zat func44 rfl call44 ntmps44 (zle rfl) results44 (fun hok=> ?_);have cc:=zk6 l hS;simp only[ZE,seval]at cc;have h0:(((zcV l).length :Int)==0)=zbi l:=by
  rw[zbi,wat]; simp
 simp only[ZE,seval];refine EFn.p ?_;simp only[ZE,seval];refine zar.i cc ?_;simp only[ZE,seval,zhC,h0]
theorem znt(x:Item)(ha:sz x.a+sz x.b+sz x.c<=1000)(hr:x.args.length<=1000):(zaX x).length <=2000000:=by
 unfold zaX;rw[wab];have h1:(zbh x).length <=1000:=by
  unfold zbh;split
  ·simp
  split
  ·simp
  split
  ·simp
  split
  ·exact hr
  ·simp
 have h2:(Expr.allL (zbo x)).length <=1000:=by
  have:=(zhj [x.a,x.b,x.c] (zhe x.kind.1)).length_le;rw[zeB [x.a,x.b,x.c]]at this;simp only[wae,wac,List.sum_cons,List.sum_nil]at this;unfold zbo;omega
 have h3: ∀r:List Expr,(r.flatMap zaZ).length <=2*r.length:=by
  intro r
  induction r with
  | nil=>simp
  | cons q r ih=>
   rw[List.flatMap_cons,wab,wad];have:(zaZ q).length <=2:=by
    unfold zaZ;split
    ·simp
    split
    ·simp
    split
    ·simp
    ·simp
   omega
 have:=h3 (Expr.allL (zbo x));omega
theorem zeX{n:Nat}(hn:n<=900){l:List Module}(hl:l.length<=1000)(h: ∀m∈l,Fine n m):Small l:=
 {len:=hl,items:=fun m hm=>war (h m hm).items hn,nums:=fun m hm x hx=>znt x (by have:=(h m hm).sizes x hx; omega) (by have:=(h m hm).args x hx; omega)}
structure Fl (l:List Module):Prop where
 part:Parted l
 pk:PK l
theorem Fl.head{l:List Module}(h:Fl l){p:Place}(hp:zbc l p≠none):zbc l (zbB p.module)≠none:=by
 obtain⟨c,hc⟩:=Option.ne_none_iff_exists'.1 hp;obtain⟨m,hm,⟨rfl,_⟩ | ⟨x,hx,rfl,_⟩⟩:=zek hc
 ·grind [zbB]
 ·show zbc l (zbB m.name)≠none;rw[zjN h.part ⟨m,hm,.inl ⟨rfl,rfl⟩⟩]; simp
theorem Fl.hd{l:List Module}(h:Fl l){p:Place}{m:Module}(hc:zbc l p=some m)(hz:p.part=zc7):m.name=p.module/\m.items=[]:=by
 obtain⟨q,hq,⟨rfl,rfl⟩ | ⟨x,hx,rfl,_⟩⟩:=zek hc
 ·exact⟨rfl,rfl⟩
 ·exact absurd hz (zlW (h.part.kinds q hq x hx))
theorem Fl.it{l:List Module}(h:Fl l){p:Place}{m:Module}(hc:zbc l p=some m)(hz:p.part≠zc7): ∃x,m=itM x/\zbg x=p.part/\0<x.kind.1:=by
 obtain⟨q,hq,⟨rfl,rfl⟩ | ⟨x,hx,rfl,rfl⟩⟩:=zek hc
 ·exact absurd rfl hz
 ·exact⟨x,rfl,rfl,h.pk.kinds q hq x hx⟩
def zoQ(fs:List (List Module)):List Place:=setS ltQ (fs.flatMap zey)
theorem zn1(fs:List (List Module)):Srt ltQ id (zoQ fs):=zjG zlZ _
theorem mem_all{fs:List (List Module)}(h: ∀f∈fs,Parted f){p:Place}:p∈zoQ fs↔ ∃f∈fs,zbc f p≠none:=by
 grind [zoQ,zgy,zlZ,zq8]
def zc0(a b:List Module):List Place:=(zoQ [a,b]).filter fun p=>decide (zbc a p≠zbc b p)
theorem zfE{a b:List Module}(ha:Parted a)(hb:Parted b){p:Place}:p∈zc0 a b↔zbc a p≠zbc b p:=by
 grind [zc0,mem_all]
section
variable {b x y:zrY} {p:Place}
theorem zhS:zfo b x y p=4↔b p≠x p/\b p≠y p/\x p≠y p:=by
 grind [zfo]
theorem zgH:zfo b x y p=2↔b p=x p/\b p≠y p:=by
 grind [zfo]
theorem zqL:zfo b y x p=4↔zfo b x y p=4:=by
 grind [zhS]
theorem zmM(h:zfo b x y p≠4):zfF b y x p=zfF b x y p:=by
 grind [zfF,zfo]
theorem lost_comm:zop b y x p↔zop b x y p:=by
 grind [zop,zmM,zfo]
theorem zmN:zfF b x y p=x p\/zfF b x y p=y p:=by
 grind [zfF]
end
structure Got where
 f:List Module
 l:List Place
 e:Int
section
variable (b x y:List Module)
def zdy:List Place:=confP (zbc b) (zbc x) (zbc y) (zoQ [b,x,y])
def zbA:List Module:=build (zfF (zbc b) (zbc x) (zbc y)) (zoQ [b,x,y])
def zbk:Got:=if zdy b x y≠[]then⟨[],zdy b x y,170⟩else if zbi (zbA b x y)=true then⟨zbA b x y,[],0⟩else⟨[],[],100⟩
end
section
variable {b x y:List Module} (hb:Fl b) (hx:Fl x) (hy:Fl y)
include hb hx hy
theorem zxe{p:Place}:p∈zoQ [b,x,y]↔zbc b p≠none\/zbc x p≠none\/zbc y p≠none:=by
 rw[mem_all (by simp[hb.part,hx.part,hy.part])];simp
theorem zpG{p:Place}(h:zfo (zbc b) (zbc x) (zbc y) p=4):p∈zoQ [b,x,y]:=by
 grind [zxe,zhS]
theorem zrK{p:Place}(h:zfF (zbc b) (zbc x) (zbc y) p≠none):p∈zoQ [b,x,y]:=by
 grind [zxe,zmN]
theorem zkm{q:Place}:q∈zdy b x y↔zfo (zbc b) (zbc x) (zbc y) q=4\/ ∃p,q=zbB p.module/\zop (zbc b) (zbc x) (zbc y) p:=by
 unfold zdy;rw[mem_conf];constructor
 ·grind
 ·rintro(h | ⟨p,h1,h2⟩)
  ·grind [zpG]
  ·refine⟨p,?_,.inr ⟨h1,h2⟩⟩;rcases h2.2.2.2 with h | h
   ·exact zrK hb hx hy h
   ·exact zpG hb hx hy h
theorem zqB(h:zdy b x y=[])(p:Place):zfo (zbc b) (zbc x) (zbc y) p≠4/\ ¬zop (zbc b) (zbc x) (zbc y) p:=by
 constructor
 ·intro h1;have:=(zkm hb hx hy (q:=p)).2 (.inl h1);simp_all
 ·intro h1;have:=(zkm hb hx hy (q:=zbB p.module)).2 (.inr ⟨p,rfl,h1⟩);simp_all
theorem zvK(h:zdy b x y=[]):Shape (zfF (zbc b) (zbc x) (zbc y)):=by
 refine⟨fun p m hm hz=> ?_,fun p m hm hz=> ?_,fun p m hm hn=> ?_⟩
 ·rcases zmN (b:=zbc b) (x:=zbc x) (y:=zbc y) (p:=p)with e | e
  ·exact hx.hd (e.symm.trans hm) hz
  ·exact hy.hd (e.symm.trans hm) hz
 ·rcases zmN (b:=zbc b) (x:=zbc x) (y:=zbc y) (p:=p)with e | e
  ·exact hx.it (e.symm.trans hm) hz
  ·exact hy.it (e.symm.trans hm) hz
 ·refine(zqB hb hx hy h p).2 ⟨fun e=> ?_,hn,(zqB hb hx hy h _).1,.inl (by rw[hm]; simp)⟩;grind
theorem zdg(h:zdy b x y=[]):Good (zbA b x y)/\PK (zbA b x y)/\ ∀p,zbc (zbA b x y) p=zfF (zbc b) (zbc x) (zbc y) p:=
 build_law (zn1 _) (zvK hb hx hy h) fun p hp=>zrK hb hx hy hp
theorem zfQ(h:zdy b x y=[]):Fl (zbA b x y):=by
 obtain⟨h1,h2,_⟩:=zdg hb hx hy h;exact⟨Parted.of_good h1 h2.kd,h2⟩
theorem zsr:zdy b y x=zdy b x y:=by
 refine zxI zlZ (zjG zlZ _) (zjG zlZ _) fun q=> ?_;grind [zkm,zqL,lost_comm]
theorem zz9:zbk b y x=zbk b x y:=by
 unfold zbk;rw[zsr hb hx hy];by_cases h:zdy b x y=[]
 ·have h':zdy b y x=[]:=(zsr hb hx hy).trans h;have e:zbA b y x=zbA b x y:=by
   obtain⟨a1,a2,a3⟩:=zdg hb hx hy h;obtain⟨c1,c2,c3⟩:=zdg hb hy hx h';refine zwK c1 a1 c2.kd a2.kd fun p=> ?_;grind [zmM,zqB]
  rw[e]
 simp_all
end
section
variable {b x y:List Module} (hb:Fl b) (hx:Fl x) (hy:Fl y) (h:zdy b x y=[])
include hb hx hy h
end
theorem zgA{α:Type}[DecidableEq α]: ∀ {l l':List α},l.Nodup->(∀a∈l,a∈l')->l.length<=l'.length
 | [],_,_,_=>Nat.zero_le _
 | a::l,l',h,hs=>by
  rw[List.nodup_cons]at h;have h1:=zgA (l':=l'.erase a) h.2 fun b hb=>by
   grind
  grind
theorem zts{b x y:List Module}(hb:Fl b)(hx:Fl x)(hy:Fl y)(h:zdy b x y=[]){m:Module}(hm:m∈zbA b x y){i:Item}(hi:i∈m.items): ∃z,(z∈x\/z∈y)/\z.name=m.name/\i∈z.items:=by
 have hM:=zfQ hb hx hy h;have h1:=zjN hM.part (p:=plI m.name i) ⟨m,hm,.inr ⟨i,hi,rfl,rfl⟩⟩;rw[(zdg hb hx hy h).2.2]at h1;have key: ∀ {l:List Module},zbc l (plI m.name i)=some (itM i)-> ∃z∈l,z.name=m.name/\i∈z.items:=by
  intro l hl;obtain⟨z,hz,⟨_,e⟩ | ⟨j,hj,e1,e2⟩⟩:=zek hl
  ·grind [itM,hdM]
  ·rw[zz7 e2];exact⟨z,hz,(congrArg Place.module e1).symm,hj⟩
 grind [zmN]
theorem merged_mod{b x y:List Module}(hb:Fl b)(hx:Fl x)(hy:Fl y)(h:zdy b x y=[]){m:Module}(hm:m∈zbA b x y): ∃z,(z∈x\/z∈y)/\z.name=m.name:=by
 have hM:=zfQ hb hx hy h;have h1:=zjN hM.part (p:=zbB m.name) ⟨m,hm,.inl ⟨rfl,rfl⟩⟩;rw[(zdg hb hx hy h).2.2]at h1;have key: ∀ {l:List Module},zbc l (zbB m.name)=some (hdM m)-> ∃z∈l,z.name=m.name:=by
  intro l hl;obtain⟨z,hz,⟨e,_⟩ | ⟨j,hj,e1,_⟩⟩:=zek hl
  ·exact⟨z,hz,(congrArg Place.module e).symm⟩
  ·exact⟨z,hz,(congrArg Place.module e1).symm⟩
 grind [zmN]
theorem zvL{b x y:List Module}(hb:Fl b)(hx:Fl x)(hy:Fl y)(h:zdy b x y=[]):(zbA b x y).length <=x.length+y.length:=by
 have hM:=zfQ hb hx hy h;have:=zgA (l':=x.map Module.name++y.map Module.name) hM.part.names fun n hn=>by
  grind [merged_mod]
 simp_all
def zqq(l:List Module)(n:Str):List Item:=match lkp Module.name l n with | some m=>m.items | none=>[]
theorem ztb{l:List Module}(h:Parted l){z:Module}(hz:z∈l):zqq l z.name=z.items:=by unfold zqq; rw[zvI h.names hz]
theorem zta{l:List Module}{k:Nat}(h: ∀m∈l,m.items.length<=k)(n:Str):(zqq l n).length <=k:=by
 grind [zqq,zeI]
theorem merged_items{b x y:List Module}(hb:Fl b)(hx:Fl x)(hy:Fl y)(h:zdy b x y=[]){k:Nat}(kx: ∀m∈x,m.items.length<=k)(ky: ∀m∈y,m.items.length<=k){m:Module}(hm:m∈zbA b x y):m.items.length<=2*k:=by
 have hM:=zfQ hb hx hy h;have:=zgA (l':=(zqq x m.name).map zbg++(zqq y m.name).map zbg) (hM.part.parts m hm) fun p hp=>by
  obtain⟨i,hi,rfl⟩:=List.mem_map.1 hp;obtain⟨z,hz,e,hi'⟩:=zts hb hx hy h hm hi;rw[wal,<-e];refine hz.imp (fun h=> ?_) (fun h=> ?_)
  ·rw[ztb hx.part h]; grind
  ·rw[ztb hy.part h]; grind
 simp only[waa,wab]at this;have h1:=zta kx m.name;have h2:=zta ky m.name;omega
set_option maxHeartbeats 4000000
theorem sameF_one(m n:Module):zl6 [m] [n]=decide (some m=some n):=by
 rw[wat,zm3,decide_eq_true_eq];simp
theorem same_w{m n:Module}(hm:m.items=[]\/m.params=[])(hn:n.items=[]\/n.params=[]): ∃a b c d a' b' c' d':D,eM m= .agg [a,b,c,d]/\eM n= .agg [a',b',c',d']/\(a.one/\b.one/\c.one/\d.one)/\(a'.one/\b'.one/\c'.one/\d'.one)/\
  FnP prog 19 [.agg [.sl [[a,b,c,d]]],.agg [.sl [[a',b',c',d']]]] (.d (eB (decide (some m=some n)))) []:=by
 obtain⟨a,b,c,d,e1,o1,w1⟩:=cM_row hm;obtain⟨a',b',c',d',e2,o2,w2⟩:=cM_row hn;refine⟨a,b,c,d,a',b',c',d',by unfold eM; rw[e1],by unfold eM; rw[e2],o1,o2,?_⟩;rw[<-sameF_one];refine FnP.weak (zh6 [m] [n]) fun W F vs h=> ?_;simp only[zav,Rd]at h;obtain⟨v1,r1,rfl,⟨u1,rfl,x1,y1,rfl,h1,rfl⟩,v2,r2,rfl,⟨u2,rfl,x2,y2,rfl,h2,rfl⟩,rfl⟩:=h;have g1:=w1 W F x1 (by simp only[Rd]; exact h1);have g2:=w2 W F x2 (by simp only[Rd]; exact h2);show zav W F [.agg [.sl [zaC m]],.agg [.sl [zaC n]]] _;unfold zav;refine⟨_,_,rfl,?_,?_⟩
 ·unfold Rd;exact⟨_,rfl,by unfold zav; exact⟨_,_,rfl,g1,by unfold zav; rfl⟩⟩
 ·unfold zav;refine⟨_,_,rfl,?_,by unfold zav; rfl⟩;unfold Rd;exact⟨_,rfl,by unfold zav; exact⟨_,_,rfl,g2,by unfold zav; rfl⟩⟩
theorem zwT(f g:List Module)(hf:Parted f)(hg:Parted g)(p:Place):FnP prog 139 [zdl f,zdl g,.agg (zaE p)] (.d (eB (decide (zbc f p=zbc g p)))) []:=by
 refine FnP.of_eC (own:=[]) (fun i=>[]) zat func139 rfl call139 ntmps139 (zle rfl) results139 (fun hok=> ?_);have hk:=ztc p;have m1:=zpq hf p;have m2:=zpq hg p;cases h1:zbc f p with
 | none=>
  rw[h1]at m1;cases h2:zbc g p with
  | none=>
   rw[h2]at m2;rw[decide_eq_true (show(none:Option Module)=none from rfl)];simp only[ZE,seval,zcM,zaE,wav]at m1 m2;simp only[ZE,seval,zaE,zdl,zpi,hk,m1,m2,wax,Option.isSome_none];exact⟨fun y hy=>zrw _ y hy,fun y hy=>zrw _ y hy⟩
  | some n=>
   obtain⟨a,b,c,d,e2,⟨o1,o2,o3,o4⟩,_⟩:=cM_row (zss h2);have e2':eM n= .agg [a,b,c,d]:=by unfold eM; rw[e2]
   rw[h2,wau,e2']at m2;rw[decide_eq_false (show ¬(none:Option Module)=some n by simp)];simp only[ZE,seval,zcM,zaE,wav]at m1 m2;simp only[ZE,seval,zaE,zdl,zpi,hk,m1,m2,wax,Option.isSome_none,waw,Option.isSome_some];exact⟨fun y hy=>zrw _ y hy,fun y hy=>zrw _ y hy,o1,o2,o3,o4⟩
 | some m=>
  cases h2:zbc g p with
  | none=>
   obtain⟨a,b,c,d,e2,⟨o1,o2,o3,o4⟩,_⟩:=cM_row (zss h1);have e2':eM m= .agg [a,b,c,d]:=by unfold eM; rw[e2]
   rw[h1,wau,e2']at m1;rw[h2]at m2;rw[decide_eq_false (show ¬some m=(none:Option Module) by simp)];simp only[ZE,seval,zcM,zaE,wav]at m1 m2;simp only[ZE,seval,zaE,zdl,zpi,hk,m1,m2,wax,Option.isSome_none,waw,Option.isSome_some];exact⟨fun y hy=>zrw _ y hy,⟨o1,o2,o3,o4⟩,fun y hy=>zrw _ y hy⟩
  | some n=>
   obtain⟨a,b,c,d,a',b',c',d',e1,e2,⟨o1,o2,o3,o4⟩,⟨q1,q2,q3,q4⟩,sc⟩:=same_w (zss h1) (zss h2);rw[h1,wau,e1]at m1;rw[h2,wau,e2]at m2;obtain⟨r,hr⟩:=zX (decide (some m=some n));rw[hr]at sc ⊢;simp only[ZE,seval,zcM,zaE]at m1 m2;simp only[ZE,seval]at sc;simp only[ZE,seval,zaE,zdl,zpi,hk,m1,m2,wax,Option.isSome_none,waw,Option.isSome_some];refine⟨fun y hy=>zrw _ y hy,⟨o1,o2,o3,o4⟩,fun y hy=>zrw _ y hy,⟨q1,q2,q3,q4⟩,⟨o1,o2,o3,o4⟩,⟨q1,q2,q3,q4⟩,?_⟩;refine EFn.p ?_;simp only[ZE,seval];refine zar.i sc ?_;cases r <;> simp(maxSteps:=4000000) only[ZE,seval]
def addQ(L:List Place)(p:Place):List Place:=if p∈L then L else L++[p]
def zpX(L ps:List Place):List Place:=ps.foldl addQ L
theorem addsQ_law: ∀(ps L:List Place),L.Nodup->(zpX L ps).Nodup /\ ∀p,p∈zpX L ps↔p∈L\/p∈ps
 | [],L,h=>⟨h,fun p=>by simp[zpX]⟩
 | q::ps,L,h=>by
  have h1:(addQ L q).Nodup /\ ∀p,p∈addQ L q↔p∈L\/p=q:=by
   unfold addQ;by_cases hq:q∈L
   ·rw[if_pos hq];refine⟨h,fun p=>⟨.inl,?_⟩⟩;rintro(hp | rfl)
    ·exact hp
    ·exact hq
   ·rw[if_neg hq];refine⟨List.nodup_append.2 ⟨h,by simp,fun a ha b hb e=> ?_⟩,fun p=>by simp⟩;simp only[List.mem_singleton]at hb;subst hb; subst e; exact hq ha
  obtain⟨h2,h3⟩:=addsQ_law ps (addQ L q) h1.1;refine⟨h2,fun p=> ?_⟩;show p∈zpX (addQ L q) ps↔_;rw[h3,h1.2,List.mem_cons,or_assoc]
theorem addsQ_snoc(L ps:List Place)(q:Place):zpX L (ps++[q])=addQ (zpX L ps) q:=by
 unfold zpX;rw[List.foldl_append]; rfl
def tQ(L:List Place):List D:=L.map fun _=>D.lit (.bool true)
def setO(L:List Place):AO:=.map (L.map zcM) (tQ L) (List.range L.length) L.length
theorem put_set(L:List Place)(p:Place):zgQ (L.map zcM) (zcM p)=(addQ L p).map zcM/\zjk (L.map zcM) (tQ L) (zcM p) (.lit (.bool true))=tQ (addQ L p)/\
  zjs (L.map zcM) (List.range L.length) L.length (zcM p)=List.range (addQ L p).length /\zjT (L.map zcM) L.length (zcM p)=(addQ L p).length :=by
 unfold addQ;by_cases h:p∈L
 ·rw[if_pos h];have hm:zcM p∈L.map zcM:=List.mem_map.2 ⟨p,h,rfl⟩;have hlt:=zcO.2 hm;refine⟨by simp only[zgQ,if_pos hlt],?_,by simp only[zjs,if_pos hlt],by simp only[zjT,if_pos hlt]⟩;simp only[zjk,if_pos hlt];refine List.ext_getElem (by simp) fun i h1 h2=> ?_;rw[List.getElem_set];split
  ·simp[tQ]
  ·rfl
 ·rw[if_neg h];have hm:zcM p∉L.map zcM:=fun h'=>by
   obtain⟨q,h1,h2⟩:=List.mem_map.1 h';exact h (zsz h2▸h1)
  have hlt: ¬zeN (L.map zcM) (zcM p)<(L.map zcM).length :=fun h'=>hm (zcO.1 h');refine⟨by rw[zdt hm]; simp,by rw[zdu hm]; simp[tQ],?_,?_⟩
  ·simp only[zjs,if_neg hlt,wab,wad,wag,Nat.zero_add,List.range_succ]
  ·simp only[zjT,if_neg hlt,wab,wad,wag,Nat.zero_add]
theorem setK_ok(L:List Place): ∀y∈L.map zcM,zd3 prog 166 y:=fun y hy=>by
 obtain⟨e,_,rfl⟩:=List.mem_map.1 hy;exact ztc e
def zu5(l:List Place)(js:List Nat):List Place:=js.map fun j=>l.getD j default
theorem pickF_mem{l:List Place}{js:List Nat}(h: ∀j∈js,j<l.length)(hall: ∀j,j<l.length->j∈js)(p:Place):p∈zu5 l js↔p∈l:=by
 unfold zu5;rw[List.mem_map];constructor
 ·rintro⟨j,hj,rfl⟩;simp[List.getD,h j hj]
 ·intro hp;obtain⟨j,hj,rfl⟩:=List.getElem_of_mem hp;exact⟨j,hall j hj,by simp[List.getD,hj]⟩
theorem qK_keys(f:List Module):qK (ent f)=(zey f).map zcM:=by unfold qK zey; rw[List.map_map]; rfl
theorem allp_o(fs:List (List Module))(hl:(fs.flatMap zey).length <=4000000)(hn:fs.length<=1000):FnL prog 137 [.d (.sl (fs.map fun f=>[zdl f]))] [] (fun V ol new=>V= .ar 90 (zoQ fs).length /\ol=[(90,.arr 166 3 .flat ((zoQ fs).map zaE))]/\new=[90]):=by
 refine FnL.of_eC (own:=[]) (fun i=>[]) [] zat func137 rfl call137 ntmps137 (zle rfl) results137 ?_;simp only[ZE,seval,zN,waa];refine zgR (fun _ _=>[]) zat fs.length (fun i (L:List Place)=>L.Nodup/\ ∀p,p∈L↔p∈(fs.take i).flatMap zey) (fun i L=>([(3,.mo 7),(8,.d (.sl (fs.map fun f=>[zdl f]))),(9,.d (eI fs.length)),(10,.d (eI i))],[(7,setO L)])) [] ?_ ?_ ?_ (fun i L hi hI=> ?_)
 ·simp
 ·simp only[ZE,seval]
 ·simp only[ZE,seval,setO,tQ,wac,wag,List.range_zero]
 obtain⟨hnd,hmem⟩:=hI;rcases waq i fs.length with h | h
 ·have hw:=zaq (show i<9223372036854775807 by omega);obtain⟨f,hf⟩:=zX (fs[i]);have hel:(ent f).length =(zey f).length :=by unfold zey; rw[waa]
  simp only[ZE,seval,zaw h,zai h,zaa h,hf,zN,zdl,setO,qK_keys,hel];refine zgR (fun _ _=>[]) zat (zey f).length (fun k (js:List Nat)=>js.length=k/\js.Nodup/\ ∀j∈js,j<(zey f).length)
   (fun k js=>([(3,.mo 7),(8,.d (.sl (fs.map fun f=>[zdl f]))),(9,.d (eI fs.length)),(10,.d (eI i)),(15,.mo 15)],[(7,setO (zpX L (zu5 (zey f) js))),(15,.it ((zey f).map zcM) (qV eM (ent f)) (List.range (zey f).length) (zey f).length js)])) [] ?_ ?_ ?_ (fun k js hk hI=> ?_)
  ·simp
  ·simp only[ZE,seval,zdl,qK_keys]
  ·simp only[ZE,seval,setO,zu5,zpX,wac,List.foldl_nil]
  obtain⟨h1,h2,h3⟩:=hI;simp only[ZE,seval,setO];refine⟨by simp only[ZE,seval],fun j hj hjs=> ?_,fun hall=> ?_⟩
  ·have hj':j<(zey f).length :=by simpa using hj
   obtain⟨p,hp⟩:=zX ((zey f)[j]);have hD:(zey f).getD j default=p:=by simp[List.getD,hj',hp]
   have hkj:((zey f).map zcM).getD j default=D.agg [.lit (.string p.module.1),.lit (.int .i64 p.part.kind.1),.lit (.string p.part.name.1)]:=by
    simp[List.getD,hj',hp,zcM,zaE,eI,eS]
   have hlen:k<(zey f).length :=by
    have:=zdr (zey f).length (j::js) (List.nodup_cons.2 ⟨hjs,h2⟩) (fun a ha=>by
     rcases List.mem_cons.1 ha with rfl | ha
     ·exact hj'
     ·exact h3 a ha)
    simp at this; omega
   have hnew:(js++[j]).Nodup /\ ∀a∈js++[j],a<(zey f).length :=by
    refine⟨List.nodup_append.2 ⟨h2,by simp,fun a ha b hb e=> ?_⟩,fun a ha=> ?_⟩
    ·simp at hb; subst hb; subst e; exact hjs ha
    ·rcases List.mem_append.1 ha with ha | ha
     ·exact h3 a ha
     ·simp at ha; subst ha; exact hj'
   have hpick:addQ (zpX L (zu5 (zey f) js)) p=zpX L (zu5 (zey f) (js++[j])):=by
    rw[<-addsQ_snoc];unfold zu5;rw[waf,wae,wac,hD]
   have hput:=zkl (put_set (zpX L (zu5 (zey f) js)) p);rw[hpick]at hput;have hk:=ztc p;simp only[ZE,seval,zcM,zaE]at hput;simp only[ZE,seval,hkj,List.getLast?_append,List.getLast?_singleton,Option.some_or,zpi,hk,hput,setO];refine⟨fun y hy=>setK_ok _ y hy,?_⟩;simp only[zep];refine⟨hlen,js++[j],⟨by simp[h1],hnew⟩,?_⟩;simp only[ZE,seval,setO]
  ·have hall': ∀j,j<(zey f).length ->j∈js:=fun j hj=>hall j (by simpa using hj);obtain⟨g1,g2⟩:=addsQ_law (zu5 (zey f) js) L hnd;simp only[ZE,seval,zN,hw];simp only[zep];refine⟨h,zpX L (zu5 (zey f) js),⟨g1,fun p=> ?_⟩,?_⟩
   ·rw[g2,hmem,pickF_mem h3 hall',wah h,List.flatMap_append,wal,hf];simp
   ·simp only[ZE,seval,setO,zdl,qK_keys]
 ·have:i=fs.length:=by omega
  subst this;rw[List.take_length]at hmem;have hLl:L.length<=4000000:=war (zgA hnd fun p hp=>(hmem p).1 hp) hl;have kc:=keysQ_c L (tQ L) (List.range L.length) L.length;have so:=sortedQ_o L hnd (tQ L) (List.range L.length) L.length hLl;have hset:setS ltQ L=zoQ fs:=zxI zlZ (zjG zlZ L) (zn1 fs) fun p=>by
   unfold zoQ;rw[zgy zlZ,zgy zlZ,hmem]
  rw[hset]at so;simp only[ZE,seval,zaI h,zN,setO];refine EFn.p ?_;simp only[ZE,seval];refine zar.i kc ?_;simp only[ZE,seval];refine EFn.g ⟨[(90,90)],[.d (.clo (.func 235) [] [.ptr [.mp (L.map zcM) (tQ L) (List.range L.length) L.length]]),.d (.clo (.func 180) [] [])],_,_,so,?_⟩;simp only[ZE,seval];rintro V ol new ⟨rfl,rfl,rfl⟩;simp only[ZE,seval];refine⟨[],[90],?_⟩;simp only[ZE,seval]
theorem allp_c(fs:List (List Module))(hl:(fs.flatMap zey).length <=4000000)(hn:fs.length<=1000):FnP prog 137 [.sl (fs.map fun f=>[zdl f])] (.d (.sl ((zoQ fs).map zaE))) []:=by
 have h:=allp_o fs hl hn;rw[<-waa (f:=zaE)]at h;exact FnP.of_arr h
def eC3(b x y:List Module):D:=.sl [[zdl b],[zdl x],[zdl y]]
theorem side_c(b x y:List Module)(hb:Parted b)(hx:Parted x)(hy:Parted y)(p:Place):FnP prog 147 [eC3 b x y,.agg (zaE p)] (.d (eI (zfo (zbc b) (zbc x) (zbc y) p:Nat))) []:=by
 refine FnP.of_eC (own:=[]) (fun i=>[]) zat func147 rfl call147 ntmps147 (zle rfl) results147 (fun hok=> ?_);have c1:=zwT b x hb hx p;have c2:=zwT b y hb hy p;have c3:=zwT x y hx hy p;obtain⟨d1,h1⟩: ∃d,decide (zbc b p=zbc x p)=d:=⟨_,rfl⟩;obtain⟨d2,h2⟩: ∃d,decide (zbc b p=zbc y p)=d:=⟨_,rfl⟩;obtain⟨d3,h3⟩: ∃d,decide (zbc x p=zbc y p)=d:=⟨_,rfl⟩;have hs:zfo (zbc b) (zbc x) (zbc y) p=if d1=true then(if d2=true then 0 else 2)else if d2=true then 1 else if d3=true then 3 else 4:=by
  rw[<-h1,<-h2,<-h3];simp only[decide_eq_true_eq];rfl
 rw[hs];rw[h1]at c1;rw[h2]at c2;rw[h3]at c3;obtain⟨B,hB⟩:=zX (zdl b);obtain⟨X,hX⟩:=zX (zdl x);obtain⟨Y,hY⟩:=zX (zdl y);rw[hB,hX]at c1;rw[hB,hY]at c2;rw[hX,hY]at c3;unfold eC3;rw[hB,hX,hY];simp only[ZE,seval,zaE]at c1 c2 c3;have w1:IntKind.i64.wrap 1=1:=by decide
 have w2:IntKind.i64.wrap 2=2:=by decide
 have w3:IntKind.i64.wrap 3=3:=by decide
 cases d1 <;> cases d2
 ·cases d3
  all_goals {
   simp only[ZE,seval,zN,zaE];refine⟨by kernel_rfl,zaz.i c1 ?_⟩;simp only[ZE,seval,zN,w1];refine⟨by kernel_rfl,zaz.i c2 ?_⟩;simp only[ZE,seval,zN,w1,w2,w3];refine⟨by kernel_rfl,zaz.i c3 ?_⟩;simp only[ZE,seval,zN]
  }
 all_goals {
  simp only[ZE,seval,zN,zaE];refine⟨by kernel_rfl,zaz.i c1 ?_⟩;simp only[ZE,seval,zN,w1];refine⟨by kernel_rfl,zaz.i c2 ?_⟩;simp only[ZE,seval,zN,w1,w2,w3];kernel_rfl}
def zsf(r:Option Module):D:=(r.map eM).getD (.agg (zaC zdP))
def Row4(x:D):Prop:= ∃a n q i:D,x= .agg [a,n,q,i]/\a.one/\n.one/\q.one/\i.one
theorem zpA{l:List Module}{p:Place}{r:Option Module}(hr:zbc l p=r):Row4 (zsf r):=by
 cases r with
 | none=>exact⟨_,_,_,_,rfl,rfl,rfl,trivial,trivial⟩
 | some m=>
  obtain⟨a,n,q,i,e,ho,_⟩:=cM_row (zss hr);exact⟨a,n,q,i,by show eM m=_; unfold eM; rw[e],ho⟩
theorem merged_c(b x y:List Module)(hb:Parted b)(hx:Parted x)(hy:Parted y)(p:Place):FnP prog 142 [eC3 b x y,.agg (zaE p)] (.tup [.d (zsf (zfF (zbc b) (zbc x) (zbc y) p)),.d (eB (zfF (zbc b) (zbc x) (zbc y) p).isSome)]) []:=by
 refine FnP.of_eC (own:=[]) (fun i=>[]) zat func142 rfl call142 ntmps142 (zle rfl) results142 (fun hok=> ?_);have sc:=side_c b x y hb hx hy p;have hk:=ztc p;have key: ∀l,Parted l-> ∃s,zjZ (qK (ent l)) (qV eM (ent l)) (zcM p)=s/\s.isSome=(zbc l p).isSome /\s.getD (.agg (zaC zdP))=zsf (zbc l p):=fun l hl=>by
  refine⟨_,rfl,?_,?_⟩
  ·rw[zpq hl p]; cases zbc l p <;> rfl
  ·rw[zpq hl p]; rfl
 obtain⟨n,hn⟩:=zX (zfo (zbc b) (zbc x) (zbc y) p);rw[hn]at sc;by_cases h2:n=2
 ·have hm:zfF (zbc b) (zbc x) (zbc y) p=zbc y p:=by unfold zfF; rw[if_pos (hn.trans h2)]
  have h0:((n:Int)==2)=true:=by rw[h2]; rfl
  obtain⟨s,e1,e2,e3⟩:=key y hy;obtain⟨a,nn,q,i,e4,o1,o2,o3,o4⟩:=zpA (l:=y) (p:=p) rfl;rw[e4]at e3;rw[hm,e4,<-e2];simp only[ZE,seval,eC3,zaE,zdl]at sc;simp only[ZE,seval,zcM,zaE]at e1;simp only[ZE,seval,zdP,emp,wac]at e3;simp only[ZE,seval,zN,zaE,eC3,zdl];refine EFn.p ?_;simp only[ZE,seval];refine zar.i sc ?_;simp only[ZE,seval,zN,h0,zpi,hk,e1,e3];exact⟨fun z hz=>zrw _ z hz,o1,o2,o3,o4⟩
 ·have hm:zfF (zbc b) (zbc x) (zbc y) p=zbc x p:=by unfold zfF; rw[if_neg (fun h=>h2 (hn.symm.trans h))]
  have h0:((n:Int)==2)=false:=by
   rw[beq_eq_false_iff_ne]; omega
  obtain⟨s,e1,e2,e3⟩:=key x hx;obtain⟨a,nn,q,i,e4,o1,o2,o3,o4⟩:=zpA (l:=x) (p:=p) rfl;rw[e4]at e3;rw[hm,e4,<-e2];simp only[ZE,seval,eC3,zaE,zdl]at sc;simp only[ZE,seval,zcM,zaE]at e1;simp only[ZE,seval,zdP,emp,wac]at e3;simp only[ZE,seval,zN,zaE,eC3,zdl];refine EFn.p ?_;simp only[ZE,seval];refine zar.i sc ?_;simp only[ZE,seval,zN,h0,zpi,hk,e1,e3];exact⟨fun z hz=>zrw _ z hz,o1,o2,o3,o4⟩
structure K3 where
 a:Nat
 b:Nat
 c:Nat
def K3.ok(k:K3):Prop:=k.a<256/\k.b<256/\k.c<256
def nameX:Nat->Str
 | 0=>st [120,100]
 | 1=>st [120,101]
 | 2=>st [120,102]
 | _=>st [120,103]
def nameQ:Nat->Str
 | 0=>st [113,100]
 | 1=>st [113,101]
 | 2=>st [113,102]
 | _=>st [113,103]
def clockN:Nat->Str
 | 0=>st [99,108,107]
 | 1=>st [97,117,120]
 | _=>st [115,108,111,119]
def sR1:Str:=st [114]
def sS1:Str:=st [115]
def fItem(name:Str)(n:Nat):Item:={zaU with kind:=⟨4,rfl⟩,name:=name,width:=⟨((1+n % 2:Nat):Int),emp⟩,a:=.mk 14 name zbj zbj []}
def notE(e:Expr):Expr:=.mk 2 emp zbj zbj [e]
def zoC(m:Module):List Nat:=(List.range m.items.length).filter fun i=>decide ((m.items.getD i zaU).kind.1 =4)
def chI(k:K3)(x:Item):Item:=if k.b % 6=2 then{x with init:=⟨((k.a % 2:Nat):Int),emp⟩}else if k.b % 6=3 then{x with rule:=⟨3,sS1,((k.a % 3:Nat):Int)⟩}else if k.b % 6=4 then{x with a:=notE x.a}else{x with rule:=⟨((k.a % 2:Nat):Int),emp,0⟩}
def qPart(k:K3):Part:=⟨⟨4,rfl⟩,nameQ (k.c % 4)⟩
def atQ(m:Module)(k:K3):Int:=zgM (fun x=>decide (zbg x=qPart k)) m.items
def zfM(m:Module)(k:K3):Nat:=(zoC m).getD (k.c % (zoC m).length) 0
def regM(m:Module)(k:K3):Module:=
 if k.b % 6=0/\atQ m k<0 then{m with items:=m.items++[fItem (nameQ (k.c % 4)) k.a]}
 else if k.b % 6=1/\0<=atQ m k then{m with items:=m.items.eraseIdx (atQ m k).toNat}
 else if (zoC m).length =0 then m
 else{m with items:=m.items.set (zfM m k) (chI k (m.items.getD (zfM m k) zaU))}
def zf2(k:K3)(x:Item):Item:=if x.kind.1=8 then{x with b:=notE x.b}else if x.kind.1=3 then{x with depth:=⟨((1+k.c % 8:Nat):Int),emp⟩}else x
def zu1(m:Module)(k:K3):Module:=
 if k.a % 8=5 then{m with clock:=clockN (k.c % 3)}
 else if k.a % 8=4 then{m with items:=m.items.map (zf2 k)}
 else regM m k
def newM(k:K3):Module:=⟨nameX (k.c % 4),clockN 0,[],[fItem sR1 k.b]⟩
def atX(f:List Module)(k:K3):Int:=zgM (fun m=>decide (m.name=nameX (k.c % 4))) f
def edS(f:List Module)(k:K3):List Module:=
 if k.a % 8=7/\atX f k<0 then f++[newM k]
 else if k.a % 8=6/\0<=atX f k then f.eraseIdx (atX f k).toNat
 else if f.length=0 then f
 else f.set (k.b % f.length) (zu1 (f.getD (k.b % f.length) zdP) k)
def zfc(f:List Module)(l:List K3):List Module:=(l.take 6).foldl edS f
structure Gi (n:Nat) (f:List Module):Prop where
 len:f.length<=2+n
 fine: ∀m∈f,Fine (60+n) m
 part:Parted f
 pk:PK f
theorem Gi.fl{n:Nat}{f:List Module}(h:Gi n f):Fl f:=⟨h.part,h.pk⟩
theorem zrI{α:Type}{p:α->Bool}{l:List α}(h:zgM p l<0): ∀x∈l,p x=false:=by
 intro x hx;cases hp:p x with
 | false=>rfl
 | true=>
  have:=zf0 p l;grind
theorem gi_made(x:Raw):Gi 0 (zdG x):=by
 have h:=zzR x;refine⟨h.len,h.fine,(zbU _).1 h.part,⟨?_⟩⟩;have:((zdG x).all fun m=>m.items.all fun y=>decide (0<y.kind.1))=true:=by
  rcases zc5 x with⟨mem,h⟩ | ⟨q,h⟩ | ⟨q,mem,h⟩ | ⟨q,mem,h⟩
  ·rw[h]; cases mem <;> kernel_rfl
  ·rw[h]; cases q <;> kernel_rfl
  ·rw[h]; cases q <;> cases mem <;> kernel_rfl
  ·rw[h]; cases q <;> cases mem <;> kernel_rfl
 grind
theorem sz_not(e:Expr):sz (notE e)=sz e+1:=by unfold notE; rw[zec]; simp
theorem sz_leaf(o:Int)(n:Str)(k w:Num):sz (.mk o n k w [])=1:=by rfl
theorem chI_part(k:K3)(x:Item):zbg (chI k x)=zbg x:=by
 unfold chI
 (repeat' split) <;> rfl
theorem chI_kind(k:K3)(x:Item):(chI k x).kind =x.kind:=by
 unfold chI;grind
theorem chI_sz(k:K3)(x:Item):sz (chI k x).a +sz (chI k x).b +sz (chI k x).c <=sz x.a+sz x.b+sz x.c+1/\(chI k x).args =x.args/\(chI k x).ports =x.ports:=by
 grind [chI,sz_not]
theorem putI3_part(k:K3)(x:Item):zbg (zf2 k x)=zbg x:=by
 unfold zf2
 (repeat' split) <;> rfl
theorem putI3_kind(k:K3)(x:Item):(zf2 k x).kind =x.kind:=by
 unfold zf2;grind
theorem putI3_sz(k:K3)(x:Item):sz (zf2 k x).a +sz (zf2 k x).b +sz (zf2 k x).c <=sz x.a+sz x.b+sz x.c+1/\(zf2 k x).args =x.args/\(zf2 k x).ports =x.ports:=by
 grind [zf2,sz_not]
theorem fItem_sz(s:Str)(n:Nat):sz (fItem s n).a +sz (fItem s n).b +sz (fItem s n).c <=50:=by
 have h:=zh9;unfold fItem;simp only[sz_leaf];show 1+sz zbQ+sz zbQ<=50;omega
structure Gm (n:Nat) (m:Module):Prop where
 fine:Fine n m
 part:(m.items.map zbg).Nodup
 pk: ∀x∈m.items,0<x.kind.1
theorem Gm.items{n:Nat}{m:Module}(h:Gm n m){l:List Item}(hl:l.length<=n+1)(hp:(l.map zbg).Nodup)(hx: ∀y∈l,0<y.kind.1/\sz y.a+sz y.b+sz y.c<=n+1/\y.args.length<=n+1/\y.ports.length<=n+1):Gm (n+1) {m with items:=l}:=
 ⟨⟨hl,Nat.le_succ_of_le h.fine.params,fun y hy=>(hx y hy).2.1,fun y hy=>(hx y hy).2.2.1,fun y hy=>(hx y hy).2.2.2⟩,hp,fun y hy=>(hx y hy).1⟩
theorem Gm.old{n:Nat}{m:Module}(h:Gm n m){y:Item}(hy:y∈m.items):0<y.kind.1/\sz y.a+sz y.b+sz y.c<=n+1/\y.args.length<=n+1/\y.ports.length<=n+1:=
 ⟨h.pk y hy,Nat.le_succ_of_le (h.fine.sizes y hy),Nat.le_succ_of_le (h.fine.args y hy),Nat.le_succ_of_le (h.fine.ports y hy)⟩
theorem Gm.up{n:Nat}{m:Module}(h:Gm n m):Gm (n+1) m:=⟨h.fine.mono (Nat.le_succ n),h.part,h.pk⟩
theorem zlC{m:Module}(k:K3)(h:(zoC m).length ≠0):zfM m k<m.items.length:=by
 grind [zfM,zoC,wai]
theorem gm_reg{n:Nat}(hn:60<=n){m:Module}(h:Gm n m)(k:K3):Gm (n+1) (regM m k)/\(regM m k).name =m.name:=by
 unfold regM;split
 ·rename_i hc;refine⟨h.items ?_ ?_ ?_,rfl⟩
  ·rw[wab]; have:=h.fine.items; simp_all
  ·rw[waf,List.nodup_append];refine⟨h.part,by simp,fun a ha b hb e=> ?_⟩;simp only[wae,wac,List.mem_singleton]at hb;subst hb; subst e;obtain⟨y,hy,e⟩:=List.mem_map.1 ha;have h2:=zrI hc.2 y hy;rw[decide_eq_false_iff_not]at h2;exact h2 e
  ·intro y hy;rcases List.mem_append.1 hy with hy | hy
   ·exact h.old hy
   ·simp only[List.mem_singleton]at hy;subst hy;exact⟨by show(0:Int)<4; decide,war (fItem_sz _ _) (by omega),by show 0<=_; omega,by show 0<=_; omega⟩
 split
 ·refine⟨h.items ?_ ?_ ?_,rfl⟩
  ·have:=List.length_eraseIdx_le m.items (atQ m k).toNat; have:=h.fine.items; omega
  ·exact List.Nodup.sublist ((List.eraseIdx_sublist _ _).map _) h.part
  ·exact fun y hy=>h.old (List.mem_of_mem_eraseIdx hy)
 split
 ·exact⟨h.up,rfl⟩
 ·rename_i hr;have hlt:=zlC k hr;have hg:m.items.getD (zfM m k) zaU=m.items[zfM m k]:=by simp_all
  refine⟨h.items ?_ ?_ ?_,rfl⟩
  ·rw[List.length_set]; have:=h.fine.items; omega
  ·have e:(m.items.set (zfM m k) (chI k (m.items.getD (zfM m k) zaU))).map zbg=m.items.map zbg:=by
    grind [List.map_set,chI_part,List.set_getElem_self]
   rw[e]; exact h.part
  ·intro y hy;rcases List.mem_or_eq_of_mem_set hy with hy | rfl
   ·exact h.old hy
   ·rw[hg];have ho:=wai hlt;obtain⟨s1,s2,s3⟩:=chI_sz k m.items[zfM m k];have:=h.fine.sizes _ ho;refine⟨by rw[chI_kind]; exact h.pk _ ho,by omega,?_,?_⟩
    ·rw[s2]; exact Nat.le_succ_of_le (h.fine.args _ ho)
    ·rw[s3]; exact Nat.le_succ_of_le (h.fine.ports _ ho)
theorem gm_mod{n:Nat}(hn:60<=n){m:Module}(h:Gm n m)(k:K3):Gm (n+1) (zu1 m k)/\(zu1 m k).name =m.name:=by
 unfold zu1;split
 ·have hu:=h.up;exact⟨⟨⟨hu.fine.items,hu.fine.params,hu.fine.sizes,hu.fine.args,hu.fine.ports⟩,hu.part,hu.pk⟩,rfl⟩
 split
 ·refine⟨h.items ?_ ?_ ?_,rfl⟩
  ·rw[waa]; exact Nat.le_succ_of_le h.fine.items
  ·have e:(m.items.map (zf2 k)).map zbg=m.items.map zbg:=by
    grind [List.map_congr_left,putI3_part]
   rw[e]; exact h.part
  ·intro y hy;obtain⟨z,hz,rfl⟩:=List.mem_map.1 hy;obtain⟨s1,s2,s3⟩:=putI3_sz k z;have:=h.fine.sizes _ hz;refine⟨by rw[putI3_kind]; exact h.pk _ hz,by omega,?_,?_⟩
   ·rw[s2]; exact Nat.le_succ_of_le (h.fine.args _ hz)
   ·rw[s3]; exact Nat.le_succ_of_le (h.fine.ports _ hz)
 ·exact gm_reg hn h k
theorem Gi.gm{n:Nat}{f:List Module}(h:Gi n f){m:Module}(hm:m∈f):Gm (60+n) m:=⟨h.fine m hm,h.part.parts m hm,h.pk.kinds m hm⟩
theorem Gi.of{n:Nat}{f:List Module}(hl:f.length<=2+n)(hn:(f.map Module.name).Nodup)(h: ∀m∈f,Gm (60+n) m):Gi n f:=
 ⟨hl,fun m hm=>(h m hm).fine,⟨hn,fun m hm=>(h m hm).part,fun m hm x hx e=>by have:=(h m hm).pk x hx; omega⟩,⟨fun m hm=>(h m hm).pk⟩⟩
theorem gi_step{n:Nat}{f:List Module}(h:Gi n f)(k:K3):Gi (n+1) (edS f k):=by
 have hl:=h.len;unfold edS;split
 ·rename_i hc;refine Gi.of ?_ ?_ ?_
  ·grind
  ·rw[waf,List.nodup_append];refine⟨h.part.names,by simp,fun a ha b hb e=> ?_⟩;simp only[wae,wac,List.mem_singleton]at hb;subst hb; subst e;obtain⟨y,hy,e⟩:=List.mem_map.1 ha;have h2:=zrI hc.2 y hy;rw[decide_eq_false_iff_not]at h2;exact h2 e
  ·intro m hm;rcases List.mem_append.1 hm with hm | hm
   ·exact(h.gm hm).up
   ·simp only[List.mem_singleton]at hm;subst hm;refine⟨⟨by show 1<=_; omega,by show 0<=_; omega,fun x hx=> ?_,fun x hx=> ?_,fun x hx=> ?_⟩,by simp[newM],fun x hx=> ?_⟩
    all_goals
     simp only[newM,List.mem_singleton]at hx;subst hx
    ·exact war (fItem_sz _ _) (by omega)
    ·show 0<=_; omega
    ·show 0<=_; omega
    ·show(0:Int)<4; decide
 split
 ·refine Gi.of ?_ ?_ fun m hm=>(h.gm (List.mem_of_mem_eraseIdx hm)).up
  ·grind
  ·exact List.Nodup.sublist ((List.eraseIdx_sublist _ _).map _) h.part.names
 split
 ·grind [Gi.of]
 ·rename_i h0;have hlt:k.b % f.length<f.length:=Nat.mod_lt _ (by omega);have hg:f.getD (k.b % f.length) zdP=f[k.b % f.length]:=by simp_all
  have hm0:=wai hlt;obtain⟨g1,g2⟩:=gm_mod (by omega) (h.gm hm0) k;rw[hg];refine Gi.of ?_ ?_ ?_
  ·grind
  ·rw[List.map_set,g2,<-List.getElem_map Module.name (h:=by grind),List.set_getElem_self];exact h.part.names
  ·intro m hm;rcases List.mem_or_eq_of_mem_set hm with hm | rfl
   ·exact(h.gm hm).up
   ·exact g1
theorem Gi.mono{n k:Nat}(h:n<=k){f:List Module}(g:Gi n f):Gi k f:=⟨by have:=g.len; omega,fun m hm=>(g.fine m hm).mono (by omega),g.part,g.pk⟩
theorem gi_fold: ∀(l:List K3) (n:Nat) (f:List Module),Gi n f->Gi (n+l.length) (l.foldl edS f)
 | [],n,f,h=>h
 | k::l,n,f,h=>by
  have:=gi_fold l (n+1) _ (gi_step h k);grind
theorem gi_edited{n:Nat}{f:List Module}(h:Gi n f)(l:List K3):Gi (n+6) (zfc f l):=
 (gi_fold (l.take 6) n f h).mono (by grind)
theorem ztr{b x y:List Module}{n:Nat}(hb:Gi n b)(hx:Gi n x)(hy:Gi n y)(h:zdy b x y=[]): ∀m∈zbA b x y,Fine (2*(60+n)) m:=by
 intro m hm;have hpar:m.params.length<=60+n:=by
  have hM:=zfQ hb.fl hx.fl hy.fl h;have h1:=zjN hM.part (p:=zbB m.name) ⟨m,hm,.inl ⟨rfl,rfl⟩⟩;rw[(zdg hb.fl hx.fl hy.fl h).2.2]at h1;have key: ∀ {l:List Module},Gi n l->zbc l (zbB m.name)=some (hdM m)->m.params.length<=60+n:=by
   intro l hl he;obtain⟨z,hz,⟨_,e⟩ | ⟨j,hj,e1,_⟩⟩:=zek he
   ·have:=(hl.fine z hz).params;grind [hdM]
   ·have:=congrArg Place.part e1;exact absurd this.symm (zlW (hl.part.kinds z hz j hj))
  grind [zmN]
 have hit: ∀i∈m.items,∃z,(∃l,Gi n l/\z∈l)/\i∈z.items:=by
  intro i hi;obtain⟨z,hz,_,hi'⟩:=zts hb.fl hx.fl hy.fl h hm hi;grind
 have hil:=merged_items hb.fl hx.fl hy.fl h (fun m hm=>(hx.fine m hm).items) (fun m hm=>(hy.fine m hm).items) hm;refine⟨hil,by omega,fun i hi=> ?_,fun i hi=> ?_,fun i hi=> ?_⟩
 all_goals
  obtain⟨z,⟨l,hl,hz⟩,hi'⟩:=hit i hi;have hf:=hl.fine z hz
 ·have:=hf.sizes i hi'; omega
 ·have:=hf.args i hi'; omega
 ·have:=hf.ports i hi'; omega
theorem zq9{b x y:List Module}{n:Nat}(hn:n<=100)(hb:Gi n b)(hx:Gi n x)(hy:Gi n y)(h:zdy b x y=[]):Small (zbA b x y):=
 zeX (n:=2*(60+n)) (by omega) (by have:=zvL hb.fl hx.fl hy.fl h; have:=hx.len; have:=hy.len; omega) (ztr hb hx hy h)
theorem not_c(e:Expr):FnP prog 174 [.agg (zbx e)] (.d (.agg (zbx (notE e)))) []:=by
 refine FnP.of_eC (own:=[]) (fun _=>[]) zat func174 rfl call174 ntmps174 (zle rfl) results174 (fun hok=> ?_);cases e with
 | mk o n k w a=>
  simp only[ZE,seval,zN,notE,Expr.op,Expr.name,Expr.k,Expr.w,Expr.args,zbj,emp,not_false_eq_true,wae,wac]
theorem further_c(s:Str)(n:Nat)(hn:n<=1000):FnP prog 133 [eS s,eI n] (.d (.agg (zaK (fItem s n)))) []:=by
 refine FnP.of_eC (own:=[]) (fun _=>[]) zat func133 rfl call133 ntmps133 (zle rfl) results133 (fun hok=> ?_);have hm:(n:Int).tmod 2=((n % 2:Nat):Int):=(Int.ofNat_tmod n 2).symm;have hw:IntKind.i64.wrap (1+((n % 2:Nat):Int))=((1+n % 2:Nat):Int):=by rw[zaQ (by omega) (by omega)]; omega
 simp only[ZE,seval,zN,hm,hw,fItem,zaU,zbQ,Expr.op,Expr.name,Expr.k,Expr.w,Expr.args,zbj,emp,not_false_eq_true,wac]
def zrx(m:Module)(n:Nat):List Nat:=(List.range n).filter fun i=>decide ((m.items.getD i zaU).kind.1 =4)
theorem regsT_len(m:Module)(n:Nat):(zrx m n).length <=n:=by
 unfold zrx;have:=List.length_filter_le (fun i=>decide ((m.items.getD i zaU).kind.1 =4)) (List.range n);rwa [List.length_range]at this
def zcF(l:List Nat):List (List D):=l.map fun(i:Nat)=>[D.lit (.int .i64 (i:Int))]
theorem regs_c(m:Module)(hl:m.items.length<=1000000):FnP prog 233 [.agg (zaC m)] (.d (.sl (zcF (zoC m)))) []:=by
 refine FnP.of_eC (own:=[]) (fun _=>[]) zat func233 rfl call233 ntmps233 (zle rfl) results233 (fun hok=> ?_);simp only[ZE,seval,zN];refine za1 (fun _=>[]) zat m.items.length (fun _=>True) (fun i=>([(1,.bp 1 0),(3,.ar 5 (zrx m i).length),(4,.d (eI i))],[(1,.box [.d (eS m.name),.d (eS m.clock),.d (zd5 m.params),.d (zbR m.items)]),(5,.arr 3 1 .flat (zcF (zrx m i)))])) trivial ?_ ?_ (fun i hi _=> ?_)
 ·simp only[ZE,seval,zrx,List.range_zero,List.filter_nil]
 ·simp only[ZE,seval,zrx,List.range_zero,List.filter_nil,zcF,wac]
 rcases waq i m.items.length with h | h
 ·have hw:=zaq (show i<9223372036854775807 by omega);obtain⟨x,hx⟩:=zX (m.items[i]);have hg:m.items.getD i zaU=x:=by simp[List.getD,h,hx]
  have hst:zrx m (i+1)=if x.kind.1=4 then zrx m i++[i]else zrx m i:=by
   unfold zrx;rw[List.range_succ,List.filter_append];by_cases hk:x.kind.1=4
   ·rw[if_pos hk,List.filter_cons_of_pos (by rw[hg]; exact decide_eq_true hk)]; rfl
   ·rw[if_neg hk,List.filter_cons_of_neg (by rw[hg,decide_eq_false hk]; simp)]; simp
  have hL:=regsT_len m i;obtain⟨L,hLe⟩:=zX (zrx m i);rw[hLe]at hst hL;rw[hst,hLe];by_cases hk:x.kind.1=4
  ·have hk':(x.kind.1==4)=true:=by rw[hk]; rfl
   rw[if_pos hk];have hn:zcF (L++[i])=zcF L++[[D.lit (.int .i64 (i:Int))]]:=by unfold zcF; rw[waf]; rfl
   have hnl:(zcF L).length =L.length:=by unfold zcF; rw[waa]
   rw[hn];simp only[ZE,seval,zaw h,zai h,zaa h,hx,zN,waa,hk',hw,hnl,wab];exact⟨⟨by omega,by omega⟩,h⟩
  ·have hk':(x.kind.1==4)=false:=beq_eq_false_iff_ne.2 hk;rw[if_neg hk];simp only[ZE,seval,zaw h,zai h,zaa h,hx,zN,waa,hk',hw];exact h
 ·have:i=m.items.length:=by omega
  subst this;simp only[ZE,seval,zaI h,zN,waa,zoC,zrx,zcF]
set_option maxHeartbeats 40000000
theorem zwD(b x y:List Module)(p:Place):Row4 (zsf (zfF (zbc b) (zbc x) (zbc y) p)):=by
 rcases zmN (b:=zbc b) (x:=zbc x) (y:=zbc y) (p:=p)with e | e
 ·rw[e]; exact zpA rfl
 ·rw[e]; exact zpA rfl
theorem confStep_len(b x y:zrY)(p:Place):(zee b x y p).length <=2:=by
 unfold zee;rw[wab];have h1:(if zfo b x y p=4 then [p]else []).length <=1:=by split <;> simp
 have h2:(if zop b x y p then [zbB p.module]else []).length <=1:=by split <;> simp
 omega
theorem zsq(b x y:zrY): ∀l:List Place,(l.flatMap (zee b x y)).length <=2*l.length
 | []=>by simp
 | p::l=>by
  have h1:=confStep_len b x y p;have h2:=zsq b x y l;rw[List.flatMap_cons,wab,wad];omega
theorem conflicts_c(b x y:List Module)(hb:Parted b)(hx:Parted x)(hy:Parted y)(hl:([b,x,y].flatMap zey).length <=1000000):FnP prog 141 [eC3 b x y] (.d (.sl ((zdy b x y).map zaE))) []:=by
 refine FnP.of_eC (own:=[]) (fun i=>if i=1 then [.adT 3 100 166 3]else []) zat func141 rfl call141 ntmps141 (zle rfl) results141 (fun hok=> ?_);have ac:=allp_c [b,x,y] (by omega) (by simp);have hA:(zoQ [b,x,y]).length <=1000000:=war (zgA (by
  have:=Srt.nodup zlZ (zn1 [b,x,y]);rwa [List.map_id]at this) fun p hp=>(zgy zlZ).1 hp) hl
 unfold zdy confP;obtain⟨A,hAe⟩:=zX (zoQ [b,x,y]);rw[hAe]at ac hA ⊢;obtain⟨B,hB⟩:=zX (zdl b);obtain⟨X,hX⟩:=zX (zdl x);obtain⟨Y,hY⟩:=zX (zdl y);have sc:=side_c b x y hb hx hy;have mc:=merged_c b x y hb hx hy;unfold eC3 at sc mc ⊢;rw[hB,hX,hY]at sc mc ⊢;simp only[wae,wac,hB,hX,hY]at ac;simp only[ZE,seval,zN];refine EFn.p ?_;simp only[ZE,seval];refine zar.i ac ?_;simp only[ZE,seval,zN,waa];refine za1 (fun _=>[]) zat A.length (fun _=>True) (fun i=>([(0,.d (.sl [[B],[X],[Y]])),(3,.ar 100 ((A.take i).flatMap (zee (zbc b) (zbc x) (zbc y))).length),(12,.d (.sl (A.map zaE))),(13,.d (eI A.length)),(14,.d (eI i))],
  [(100,.arr 166 3 .flat (((A.take i).flatMap (zee (zbc b) (zbc x) (zbc y))).map zaE))])) trivial ?_ ?_ (fun i hi _=> ?_)
 ·simp only[ZE,seval,wap,List.flatMap_nil]
 ·simp only[ZE,seval,wap,List.flatMap_nil,wac]
 rcases waq i A.length with h | h
 ·have hw:=zaq (show i<9223372036854775807 by omega);obtain⟨p,hp⟩:=zX (A[i]);have hst:(A.take (i+1)).flatMap (zee (zbc b) (zbc x) (zbc y))=(A.take i).flatMap (zee (zbc b) (zbc x) (zbc y))++zee (zbc b) (zbc x) (zbc y) p:=by
   rw[wah h,List.flatMap_append,hp]; simp
  have hLl:=zsq (zbc b) (zbc x) (zbc y) (A.take i);rw[waj,Nat.min_eq_left hi]at hLl;obtain⟨L,hL⟩:=zX ((A.take i).flatMap (zee (zbc b) (zbc x) (zbc y)));rw[hL]at hst hLl;rw[hst,hL];obtain⟨C,hC⟩:=zX (zee (zbc b) (zbc x) (zbc y) p);rw[hC];have s1:=sc p;have s2:=sc (zbB p.module);have g1:=mc p;have g2:=mc (zbB p.module);obtain⟨a1,a2,a3,a4,e1,p1,p2,p3,p4⟩:=zwD b x y p;obtain⟨b1,b2,b3,b4,e2,q1,q2,q3,q4⟩:=zwD b x y (zbB p.module);rw[e1]at g1;rw[e2]at g2;obtain⟨n,hn⟩:=zX (zfo (zbc b) (zbc x) (zbc y) p);obtain⟨k,hk⟩:=zX (zfo (zbc b) (zbc x) (zbc y) (zbB p.module));obtain⟨u,hu⟩:=zX (zfF (zbc b) (zbc x) (zbc y) p);obtain⟨v,hv⟩:=zX (zfF (zbc b) (zbc x) (zbc y) (zbB p.module));rw[hn]at s1;rw[hk]at s2;rw[hu]at g1;rw[hv]at g2;have hlost:zop (zbc b) (zbc x) (zbc y) p↔(p≠zbB p.module/\v=none/\k≠4/\(u≠none\/n=4)):=by unfold zop; rw[hn,hk,hu,hv]
  unfold zee at hC;rw[hn]at hC;have hne:=zhN p (zbB p.module);obtain⟨d,hd⟩:=zX (decide (p=zbB p.module));rw[hd]at hne;have hne2:(p.part.kind.val==0&&decide (p.part.name.val=ByteArray.empty))=d:=by
   have he:decide (p.part.name.val=ByteArray.empty)=decide (p.part.name=emp):=decide_eq_decide.2 ⟨fun e=>Subtype.ext e,fun e=>by rw[e]; rfl⟩;rw[he];have h1:=hne;simp only[zbB,decide_true,Bool.true_and]at h1;exact h1
  simp only[ZE,seval,zaE,zbB,zc7,emp]at s1 s2 g1 g2 hne;have hq4: ∀q:Int,(q==4)=decide (q=4):=fun q=>by rw[wat,beq_iff_eq,decide_eq_true_eq]
  have hd0:d=true↔p=zbB p.module:=by rw[<-hd,decide_eq_true_eq]
  by_cases h4:n=4
  ·have n4:((n:Int)==4)=true:=by rw[h4]; rfl
   rw[if_pos h4]at hC;simp only[ZE,seval,zaw h,zai h,zaa h,hp,zaE,zN,waa];refine EFn.p ?_;simp only[ZE,seval];refine zar.i s1 ?_;simp only[ZE,seval,zN,n4,waa];refine⟨by omega,?_⟩;cases d with
   | true=>
    have hd':True=True:=rfl;have hv':True=True:=rfl;rw[if_neg (fun hh=>(hlost.1 hh).1 (hd0.1 rfl))]at hC;subst hC;refine EFn.p ?_;simp only[ZE,seval];refine zar.i g2 ?_;simp only[ZE,seval,zN];refine⟨⟨q1,q2,q3,q4⟩,?_⟩;refine EFn.p ?_;simp only[ZE,seval];refine zar.i g1 ?_;simp only[ZE,seval,zN,hne,hne2,hd',hv',hw,waf,wae,wac,wab,wad,wag,waa,zaE,zbB,zc7,emp,wak,wao,wan,wam,Nat.add_zero,Nat.zero_add];exact⟨⟨p1,p2,p3,p4⟩,h⟩
   | false=>
    have hd':True=True:=rfl;have hp0:p≠zbB p.module:=fun e=>by have:=hd0.2 e; cases this
    cases v with
    | some vv=>
     have hv':(some vv).isSome =true:=rfl;rw[if_neg (fun hh=>by have:=(hlost.1 hh).2.1; cases this)]at hC;subst hC;refine EFn.p ?_;simp only[ZE,seval];refine zar.i g2 ?_;simp only[ZE,seval,zN];refine⟨⟨q1,q2,q3,q4⟩,?_⟩;refine EFn.p ?_;simp only[ZE,seval];refine zar.i g1 ?_;simp only[ZE,seval,zN,hne,hne2,hd',hv',hw,waf,wae,wac,wab,wad,wag,waa,zaE,zbB,zc7,emp,wak,wao,wan,wam,Nat.add_zero,Nat.zero_add];exact⟨⟨p1,p2,p3,p4⟩,h⟩
    | none=>
     have hv':(none:Option Module).isSome =false:=rfl;by_cases hk4:k=4
     ·have k4:((k:Int)==4)=true:=(by rw[hk4]; rfl);have kb:((k:Int) !=4)=false:=(by rw[bne,k4]; rfl);rw[if_neg (fun hh=>(hlost.1 hh).2.2.1 hk4)]at hC;subst hC;refine EFn.p ?_;simp only[ZE,seval];refine zar.i g2 ?_;simp only[ZE,seval,zN];refine⟨⟨q1,q2,q3,q4⟩,?_⟩;refine EFn.p ?_;simp only[ZE,seval];refine zar.i g1 ?_;simp only[ZE,seval,zN,hne,hne2,hd',hv',hw,waf,wae,wac,wab,wad,wag,waa,zaE,zbB,zc7,emp,wak,wao,wan,wam,Nat.add_zero,Nat.zero_add];refine⟨⟨p1,p2,p3,p4⟩,?_⟩;refine EFn.p ?_;simp only[ZE,seval];refine zar.i s2 ?_;simp only[ZE,seval,zN,k4,kb,hw,waf,wae,wac,wab,wad,wag,waa,zaE,zbB,zc7,emp,wak,wao,wan,wam,Nat.add_zero,Nat.zero_add];exact h
     ·have k4:((k:Int)==4)=false:=(by rw[beq_eq_false_iff_ne]; omega);have kb:((k:Int) !=4)=true:=(by rw[bne,k4]; rfl);rw[if_pos (hlost.2 ⟨hp0,rfl,hk4,.inr h4⟩)]at hC;subst hC;refine EFn.p ?_;simp only[ZE,seval];refine zar.i g2 ?_;simp only[ZE,seval,zN];refine⟨⟨q1,q2,q3,q4⟩,?_⟩;refine EFn.p ?_;simp only[ZE,seval];refine zar.i g1 ?_;simp only[ZE,seval,zN,hne,hne2,hd',hv',hw,waf,wae,wac,wab,wad,wag,waa,zaE,zbB,zc7,emp,wak,wao,wan,wam,Nat.add_zero,Nat.zero_add];refine⟨⟨p1,p2,p3,p4⟩,?_⟩;cases u with
      | some uu=>
       have hu':(some uu).isSome =true:=rfl;refine EFn.p ?_;simp only[ZE,seval];refine zar.i s2 ?_;simp only[ZE,seval,zN,k4,kb,hu',hw,waf,wae,wac,wab,wad,wag,waa,zaE,zbB,zc7,emp,wak,wao,wan,wam,Nat.add_zero,Nat.zero_add];exact⟨by omega,h⟩
      | none=>
       have hu':(none:Option Module).isSome =false:=rfl;refine EFn.p ?_;simp only[ZE,seval];refine zar.i s2 ?_;simp only[ZE,seval,zN,k4,kb,hu',hw,waf,wae,wac,wab,wad,wag,waa,zaE,zbB,zc7,emp,wak,wao,wan,wam,Nat.add_zero,Nat.zero_add];refine EFn.p ?_;simp only[ZE,seval];refine zar.i s1 ?_;simp only[ZE,seval,zN,k4,kb,hu',n4,hw,waf,wae,wac,wab,wad,wag,waa,zaE,zbB,zc7,emp,wak,wao,wan,wam,Nat.add_zero,Nat.zero_add];exact⟨by omega,h⟩
  ·have n4:((n:Int)==4)=false:=by rw[beq_eq_false_iff_ne]; omega
   rw[if_neg h4]at hC;simp only[ZE,seval,zaw h,zai h,zaa h,hp,zaE,zN,waa];refine EFn.p ?_;simp only[ZE,seval];refine zar.i s1 ?_;simp only[ZE,seval,zN,n4,waa];cases d with
   | true=>
    have hd':True=True:=rfl;have hv':True=True:=rfl;rw[if_neg (fun hh=>(hlost.1 hh).1 (hd0.1 rfl))]at hC;subst hC;refine EFn.p ?_;simp only[ZE,seval];refine zar.i g2 ?_;simp only[ZE,seval,zN];refine⟨⟨q1,q2,q3,q4⟩,?_⟩;refine EFn.p ?_;simp only[ZE,seval];refine zar.i g1 ?_;simp only[ZE,seval,zN,hne,hne2,hd',hv',hw,waf,wae,wac,wab,wad,wag,waa,zaE,zbB,zc7,emp,wak,wao,wan,wam,Nat.add_zero,Nat.zero_add];exact⟨⟨p1,p2,p3,p4⟩,h⟩
   | false=>
    have hd':True=True:=rfl;have hp0:p≠zbB p.module:=fun e=>by have:=hd0.2 e; cases this
    cases v with
    | some vv=>
     have hv':(some vv).isSome =true:=rfl;rw[if_neg (fun hh=>by have:=(hlost.1 hh).2.1; cases this)]at hC;subst hC;refine EFn.p ?_;simp only[ZE,seval];refine zar.i g2 ?_;simp only[ZE,seval,zN];refine⟨⟨q1,q2,q3,q4⟩,?_⟩;refine EFn.p ?_;simp only[ZE,seval];refine zar.i g1 ?_;simp only[ZE,seval,zN,hne,hne2,hd',hv',hw,waf,wae,wac,wab,wad,wag,waa,zaE,zbB,zc7,emp,wak,wao,wan,wam,Nat.add_zero,Nat.zero_add];exact⟨⟨p1,p2,p3,p4⟩,h⟩
    | none=>
     have hv':(none:Option Module).isSome =false:=rfl;by_cases hk4:k=4
     ·have k4:((k:Int)==4)=true:=(by rw[hk4]; rfl);have kb:((k:Int) !=4)=false:=(by rw[bne,k4]; rfl);rw[if_neg (fun hh=>(hlost.1 hh).2.2.1 hk4)]at hC;subst hC;refine EFn.p ?_;simp only[ZE,seval];refine zar.i g2 ?_;simp only[ZE,seval,zN];refine⟨⟨q1,q2,q3,q4⟩,?_⟩;refine EFn.p ?_;simp only[ZE,seval];refine zar.i g1 ?_;simp only[ZE,seval,zN,hne,hne2,hd',hv',hw,waf,wae,wac,wab,wad,wag,waa,zaE,zbB,zc7,emp,wak,wao,wan,wam,Nat.add_zero,Nat.zero_add];refine⟨⟨p1,p2,p3,p4⟩,?_⟩;refine EFn.p ?_;simp only[ZE,seval];refine zar.i s2 ?_;simp only[ZE,seval,zN,k4,kb,hw,waf,wae,wac,wab,wad,wag,waa,zaE,zbB,zc7,emp,wak,wao,wan,wam,Nat.add_zero,Nat.zero_add];exact h
     ·have k4:((k:Int)==4)=false:=(by rw[beq_eq_false_iff_ne]; omega);have kb:((k:Int) !=4)=true:=(by rw[bne,k4]; rfl);cases u with
      | some uu=>
       have hu':(some uu).isSome =true:=rfl;rw[if_pos (hlost.2 ⟨hp0,rfl,hk4,.inl (by simp)⟩)]at hC;subst hC;refine EFn.p ?_;simp only[ZE,seval];refine zar.i g2 ?_;simp only[ZE,seval,zN];refine⟨⟨q1,q2,q3,q4⟩,?_⟩;refine EFn.p ?_;simp only[ZE,seval];refine zar.i g1 ?_;simp only[ZE,seval,zN,hne,hne2,hd',hv',hw,waf,wae,wac,wab,wad,wag,waa,zaE,zbB,zc7,emp,wak,wao,wan,wam,Nat.add_zero,Nat.zero_add];refine⟨⟨p1,p2,p3,p4⟩,?_⟩;refine EFn.p ?_;simp only[ZE,seval];refine zar.i s2 ?_;simp only[ZE,seval,zN,k4,kb,hu',hw,waf,wae,wac,wab,wad,wag,waa,zaE,zbB,zc7,emp,wak,wao,wan,wam,Nat.add_zero,Nat.zero_add];exact⟨by omega,h⟩
      | none=>
       have hu':(none:Option Module).isSome =false:=rfl;rw[if_neg (fun hh=>by rcases(hlost.1 hh).2.2.2 with hh | hh; exact hh rfl; exact h4 hh)]at hC;subst hC;refine EFn.p ?_;simp only[ZE,seval];refine zar.i g2 ?_;simp only[ZE,seval,zN];refine⟨⟨q1,q2,q3,q4⟩,?_⟩;refine EFn.p ?_;simp only[ZE,seval];refine zar.i g1 ?_;simp only[ZE,seval,zN,hne,hne2,hd',hv',hw,waf,wae,wac,wab,wad,wag,waa,zaE,zbB,zc7,emp,wak,wao,wan,wam,Nat.add_zero,Nat.zero_add];refine⟨⟨p1,p2,p3,p4⟩,?_⟩;refine EFn.p ?_;simp only[ZE,seval];refine zar.i s2 ?_;simp only[ZE,seval,zN,k4,kb,hu',hw,waf,wae,wac,wab,wad,wag,waa,zaE,zbB,zc7,emp,wak,wao,wan,wam,Nat.add_zero,Nat.zero_add];refine EFn.p ?_;simp only[ZE,seval];refine zar.i s1 ?_;simp only[ZE,seval,zN,k4,kb,hu',n4,hw,waf,wae,wac,wab,wad,wag,waa,zaE,zbB,zc7,emp,wak,wao,wan,wam,Nat.add_zero,Nat.zero_add];exact h
 ·have:i=A.length:=by omega
  subst this;rw[List.take_length];have hLl:=zsq (zbc b) (zbc x) (zbc y) A;obtain⟨L,hL⟩:=zX (A.flatMap (zee (zbc b) (zbc x) (zbc y)));rw[hL]at hLl ⊢;simp only[ZE,seval,zaI h,zN,waa];refine EFn.gV [(0,100)] (sortQ_c L (by omega)) ?_ ?_
  ·simp only[ZE,seval]
  rintro V ol new ⟨rfl,⟨l',h1,h2,rfl⟩,rfl⟩;have hll:=h1.length_eq;rw[hll];simp only[ZE,seval];refine EFn.gV [(0,100)] (compactQ_c l' (by omega)) ?_ ?_
  ·simp only[ZE,seval]
  rintro V ol new ⟨rfl,rfl,rfl⟩;have hdd:dd l'=setS ltQ L:=by
   rw[dd_set h2];exact zxI zlZ (zjG zlZ _) (zjG zlZ _) fun k=>by rw[zgy zlZ,zgy zlZ]; exact h1.mem_iff.symm
  rw[hdd];simp only[ZE,seval]
structure Gp (l:List Module):Prop where
 good:Good l
 pk:PK l
theorem Gp.fl{l:List Module}(h:Gp l):Fl l:=⟨Parted.of_good h.good h.pk.kd,h.pk⟩
theorem Fl.gp{l:List Module}(h:Fl l):Gp (zcC l):=⟨ziv h.part,norm_pk h.pk⟩
theorem zzZ{l:List Module}(h:Good l)(m:Module)(p:Place):zbc (zpT ltS Module.name l m) p=if p.module=m.name then(if p.part=zc7 then some (hdM m)else(lkp zbg m.items p.part).map itM)else zbc l p:=by
 unfold zbc;rw[zym zrt _ _ h.srt];split <;> rfl
theorem cont_rmv{l:List Module}(h:Good l)(n:Str)(p:Place):zbc (zyC Module.name l n) p=if p.module=n then none else zbc l p:=by
 unfold zbc;rw[zzO zrt _ _ h.srt];split <;> rfl
theorem zzV{l:List Module}{n:Str}{m:Module}(h:lkp Module.name l n=some m)(p:Place)(hp:p.module=n):zbc l p=if p.part=zc7 then some (hdM m)else(lkp zbg m.items p.part).map itM:=by
 unfold zbc;grind
theorem zz0{l:List Module}{n:Str}(h:lkp Module.name l n=none)(p:Place)(hp:p.module=n):zbc l p=none:=by
 unfold zbc;grind
theorem Gp.put{l:List Module}(h:Gp l){m:Module}(hm:Srt ltP zbg m.items)(hk: ∀x∈m.items,0<x.kind.1):Gp (zpT ltS Module.name l m):=
 ⟨h.good.put hm,⟨fun z hz=>by
  rcases zxh hz with rfl | hz
  ·exact hk
  ·exact h.pk.kinds z hz⟩⟩
structure Acts (e:Edit) (pre:zrY->Prop) (p:Place) (v:Option Module):Prop where
 does: ∀s,Gp s->pre (zbc s)-> ∃s',zx4 s e=some s'/\Gp s'/\ ∀q,zbc s' q=if q=p then v else zbc s q
 asks: ∀s s',Gp s->zx4 s e=some s'->pre (zbc s)
theorem zz2{s:List Module}{n:Str}(h:zbc s (zbB n)≠none): ∃m,lkp Module.name s n=some m:=by
 cases hm:lkp Module.name s n with
 | some m=>simp_all
 | none=>grind [zz0,zbB]
theorem set_acts(n:Str)(y:Item)(hy:0<y.kind.1):Acts (zco n y) (fun c=>c (zbB n)≠none) (plI n y) (some (itM y)):=by
 have hz: ¬(zco n y).part =zc7:=zlW (fun e=>by omega);have hk: ¬(zbg y).kind.1 =0:=fun e=>by have:y.kind.1=0:=e; omega
 refine⟨fun s hs hp=> ?_,fun s s' hs he hc=> ?_⟩
 ·obtain⟨m,hm⟩:=zz2 hp;obtain⟨h1,h2⟩:=hs.good.at hm;refine⟨zpT ltS Module.name s {m with items:=zpT ltP zbg m.items y},?_,hs.put (h1.ins zuJ y) (fun x hx=> ?_),fun q=> ?_⟩
  ·grind [zx4,zl8,zco]
  ·rcases zxh hx with rfl | hx
   ·exact hy
   ·exact hs.pk.kinds m (zeI hm).1 x hx
  ·rw[zzZ hs.good];by_cases hq:q.module=n
   ·rw[if_pos (hq.trans h2.symm),zzV hm q hq,zym zuJ _ _ h1];obtain⟨qm,qp⟩:=q;simp only at hq;subst hq;by_cases hqz:qp=zc7
    ·rw[if_pos hqz,if_pos hqz,if_neg (fun e=>hz ((congrArg Place.part e).symm.trans hqz))]; rfl
    ·rw[if_neg hqz,if_neg hqz];by_cases hqy:qp=zbg y
     ·rw[if_pos hqy,if_pos (by rw[hqy]; rfl)]; rfl
     ·rw[if_neg hqy,if_neg (fun e=>hqy (congrArg Place.part e))]
   ·rw[if_neg (fun e=>hq (e.trans h2)),if_neg (fun e=>hq (congrArg Place.module e))]
 ·unfold zx4 at he;rw[if_neg hz]at he;unfold zl8 at he;cases hm:lkp Module.name s n with
  | none=>simp only[zco,hm]at he; cases he
  | some m=>rw[zzV hm (zbB n) rfl]at hc; cases hc
theorem rem_acts(n:Str)(x:Item)(hy:0<x.kind.1):Acts (zyw n x) (fun c=>c (plI n x)≠none) (plI n x) none:=by
 have hz: ¬(zyw n x).part =zc7:=zlW (fun e=>by omega);have hz': ¬zbg x=zc7:=hz;refine⟨fun s hs hp=> ?_,fun s s' hs he hc=> ?_⟩
 ·obtain⟨m,hm⟩: ∃m,lkp Module.name s n=some m:=by
   cases hm:lkp Module.name s n with
   | some m=>simp_all
   | none=>grind [zz0,plI]
  obtain⟨h1,h2⟩:=hs.good.at hm;have hsm:(lkp zbg m.items (zbg x)).isSome =true:=by
   rw[zzV hm (plI n x) rfl]at hp;grind [plI,lkp]
  refine⟨zpT ltS Module.name s {m with items:=zyC zbg m.items (zbg x)},?_,hs.put (h1.del _) (fun z hz=>hs.pk.kinds m (zeI hm).1 z (zxi hz)),fun q=> ?_⟩
  ·grind [zx4,zl8,zyw]
  ·rw[zzZ hs.good];by_cases hq:q.module=n
   ·rw[if_pos (hq.trans h2.symm),zzV hm q hq,zzO zuJ _ _ h1];obtain⟨qm,qp⟩:=q;simp only at hq;subst hq;by_cases hqz:qp=zc7
    ·rw[if_pos hqz,if_pos hqz,if_neg (fun e=>hz' ((congrArg Place.part e).symm.trans hqz))]; rfl
    ·rw[if_neg hqz,if_neg hqz];by_cases hqy:qp=zbg x
     ·rw[if_pos hqy,if_pos (by rw[hqy]; rfl)]; rfl
     ·rw[if_neg hqy,if_neg (fun e=>hqy (congrArg Place.part e))]
   ·rw[if_neg (fun e=>hq (e.trans h2)),if_neg (fun e=>hq (congrArg Place.module e))]
 ·unfold zx4 at he;rw[if_neg hz]at he;unfold zl8 at he;cases hm:lkp Module.name s n with
  | none=>simp only[zyw,hm]at he; cases he
  | some m=>
   rw[zzV hm (plI n x) rfl]at hc;grind [plI,Option.map_eq_none_iff,zyw]
theorem head_acts(m:Module):Acts (zx7 m) (fun _=>True) (zbB m.name) (some (hdM m)):=by
 refine⟨fun s hs _=> ?_,fun _ _ _ _=>trivial⟩;have hz:(zx7 m).part =zc7:=rfl;cases hl:lkp Module.name s m.name with
 | none=>
  refine⟨zpT ltS Module.name s {m with items:=[]},?_,hs.put (by simp[Srt]) (by simp),fun q=> ?_⟩
  ·grind [zx4,zzb,zx7]
  ·rw[zzZ hs.good];obtain⟨qm,qp⟩:=q;by_cases hq:qm=m.name
   ·subst hq;rw[if_pos rfl];by_cases hqz:qp=zc7
    ·rw[if_pos hqz,if_pos (by rw[hqz]; rfl)]; rfl
    ·rw[if_neg hqz,if_neg (fun e=>hqz (congrArg Place.part e)),zz0 hl _ rfl]; rfl
   ·rw[if_neg hq,if_neg (fun e=>hq (congrArg Place.module e))]
 | some w=>
  obtain⟨h1,h2⟩:=hs.good.at hl;refine⟨zpT ltS Module.name s {w with clock:=m.clock,params:=m.params},?_,hs.put h1 (hs.pk.kinds w (zeI hl).1),fun q=> ?_⟩
  ·grind [zx4,zzb,zx7]
  ·rw[zzZ hs.good];obtain⟨qm,qp⟩:=q;by_cases hq:qm=m.name
   ·subst hq;rw[if_pos h2.symm];by_cases hqz:qp=zc7
    ·rw[if_pos hqz,if_pos (by rw[hqz]; rfl)];unfold hdM; rw[h2]
    ·rw[if_neg hqz,if_neg (fun e=>hqz (congrArg Place.part e)),zzV hl _ rfl,if_neg hqz]
   ·rw[if_neg (fun e=>hq (e.trans h2)),if_neg (fun e=>hq (congrArg Place.module e))]
theorem gone_acts(n:Str):Acts (zuR n) (fun c=>c (zbB n)≠none/\ ∀q,q.module=n->q.part≠zc7->c q=none) (zbB n) none:=by
 refine⟨fun s hs hp=> ?_,fun s s' hs he=> ?_⟩
 ·obtain⟨m,hm⟩:=zz2 hp.1;have hi:m.items=[]:=by
   rw[List.eq_nil_iff_forall_not_mem];intro x hx;have hk:=hs.pk.kinds m (zeI hm).1 x hx;have h1:=hp.2 (plI n x) rfl (zlW (fun e=>by omega));rw[zjN hs.fl.part (p:=plI n x) ⟨m,(zeI hm).1,.inr ⟨x,hx,by rw[(zeI hm).2],rfl⟩⟩]at h1;cases h1
  refine⟨zyC Module.name s n,?_,⟨hs.good.rmv n,⟨fun z hz=>hs.pk.kinds z (zxi hz)⟩⟩,fun q=> ?_⟩
  ·grind [zx4,zzb,zuR]
  ·rw[cont_rmv hs.good];obtain⟨qm,qp⟩:=q;by_cases hq:qm=n
   ·subst hq;rw[if_pos rfl];by_cases hqz:qp=zc7
    ·rw[if_pos (by rw[hqz]; rfl)]
    simp_all
   ·rw[if_neg hq,if_neg (fun e=>hq (congrArg Place.module e))]
 ·unfold zx4 zzb at he;simp only[zuR,if_true,Bool.false_eq_true,if_false]at he;cases hm:lkp Module.name s n with
  | none=>simp_all
  | some m=>
   rw[hm]at he;simp only[ne_eq]at he;split at he
   ·cases he
   ·rename_i hi;have hi:m.items=[]:=Classical.not_not.1 hi;have hh:(zbB n).part =zc7:=rfl;refine⟨by rw[zzV hm (zbB n) rfl,if_pos hh]; simp,fun q hq hz=> ?_⟩;rw[zzV hm q hq,if_neg hz,hi]; rfl
def Ed(c d:zrY)(e:Edit):Prop:=
 (∃n z,0<z.kind.1/\e=zco n z/\d (plI n z)=some (itM z)/\c (plI n z)≠d (plI n z))\/(∃n z,0<z.kind.1/\e=zyw n z/\d (plI n z)=none/\c (plI n z)≠none)\/
 (∃m,e=zx7 m/\d (zbB m.name)=some (hdM m)/\c (zbB m.name)≠d (zbB m.name))\/ ∃n,e=zuR n/\d (zbB n)=none/\c (zbB n)≠none
theorem zzY{n:Str}{xs ys:List Item}(hx:Srt ltP zbg xs)(hy:Srt ltP zbg ys){e:Edit}(h:e∈zs8 n xs ys):
  (∃x∈xs,(∀y∈ys,zbg y≠zbg x)/\e=zyw n x)\/(∃y∈ys,(∀x∈xs,zbg x≠zbg y)/\e=zco n y)\/ ∃x∈xs,∃y∈ys,zbg x=zbg y/\x≠y/\e=zco n y:=by
 unfold zs8 mrgM at h;rcases zzW zuJ _ _ _ hx hy h with⟨x,h1,h2,h3⟩ | ⟨y,h1,h2,h3⟩ | ⟨x,h1,y,h2,h3,h4⟩
 ·grind
 ·grind
 grind [zyQ]
theorem zzT{l:List Module}(h:Gp l){m:Module}(hm:m∈l){x:Item}(hx:x∈m.items):zbc l (plI m.name x)=some (itM x):=zjN h.fl.part ⟨m,hm,.inr ⟨x,hx,rfl,rfl⟩⟩
theorem zzU{l:List Module}(h:Gp l){m:Module}(hm:m∈l):zbc l (zbB m.name)=some (hdM m):=zjN h.fl.part ⟨m,hm,.inl ⟨rfl,rfl⟩⟩
theorem zz1{l:List Module}(h:Gp l){m:Module}(hm:m∈l){x:Item}(hk:0<x.kind.1)(hx: ∀y∈m.items,zbg y≠zbg x):zbc l (plI m.name x)=none:=by
 have hz: ¬(plI m.name x).part =zc7:=zlW (x:=x) (fun e=>by omega);rw[zzV (zyM zrt h.good.srt hm) (plI m.name x) rfl,if_neg hz];show(lkp zbg m.items (zbg x)).map itM=none;rw[zlr.2 hx]; rfl
theorem diffN_src{a z:List Module}(ha:Gp a)(hz:Gp z){e:Edit}(h:e∈zyJ a z):Ed (zbc a) (zbc z) e:=by
 unfold zyJ mrgM at h;rcases zzW zrt _ _ _ ha.good.srt hz.good.srt h with⟨m,hm,hno,h⟩ | ⟨m,hm,hno,h⟩ | ⟨m,hm,w,hw,hk,h⟩
 ·have hn: ∀p:Place,p.module=m.name->zbc z p=none:=fun p hp=>zz0 (zlr.2 hno) p hp;rcases List.mem_append.1 h with h | h
  ·rcases zzY (ha.good.parts m hm) (by simp[Srt]) h with⟨x,h1,_,rfl⟩ | ⟨y,h1,_⟩ | ⟨_,_,y,h1,_⟩
   ·exact .inr (.inl ⟨m.name,x,ha.pk.kinds m hm x h1,rfl,hn _ rfl,by rw[zzT ha hm h1]; simp⟩)
   ·cases h1
   ·cases h1
  ·rw[List.mem_singleton]at h;exact .inr (.inr (.inr ⟨m.name,h,hn _ rfl,by rw[zzU ha hm]; simp⟩))
 ·have hn: ∀p:Place,p.module=m.name->zbc a p=none:=fun p hp=>zz0 (zlr.2 hno) p hp;rcases List.mem_cons.1 h with h | h
  ·exact .inr (.inr (.inl ⟨m,h,zzU hz hm,by rw[hn _ rfl,zzU hz hm]; simp⟩))
  ·rcases zzY (by simp[Srt]) (hz.good.parts m hm) h with⟨x,h1,_⟩ | ⟨y,h1,_,rfl⟩ | ⟨x,h1,_⟩
   ·cases h1
   ·exact .inl ⟨m.name,y,hz.pk.kinds m hm y h1,rfl,zzT hz hm h1,by rw[hn _ rfl,zzT hz hm h1]; simp⟩
   ·cases h1
 ·rcases List.mem_append.1 h with h | h
  ·unfold headD at h;split at h
   ·cases h
   ·rename_i hs;rw[List.mem_singleton]at h;refine .inr (.inr (.inl ⟨w,h,zzU hz hw,fun e=>hs ((zyP m w).2 ?_)⟩));rw[zzU hz hw,<-hk,zzU ha hm,Option.some.injEq]at e;obtain⟨m1,m2,m3,m4⟩:=m;grind [hdM]
  ·rcases zzY (ha.good.parts m hm) (hz.good.parts w hw) h with⟨x,h1,h2,rfl⟩ | ⟨y,h1,h2,rfl⟩ | ⟨x,h1,y,h2,h3,h4,rfl⟩
   ·have hkx:=ha.pk.kinds m hm x h1;refine .inr (.inl ⟨w.name,x,hkx,rfl,zz1 hz hw hkx h2,?_⟩);rw[<-hk,zzT ha hm h1]; simp
   ·have hky:=hz.pk.kinds w hw y h1;refine .inl ⟨w.name,y,hky,rfl,zzT hz hw h1,?_⟩;grind [zzT,zz1]
   ·have hky:=hz.pk.kinds w hw y h2;refine .inl ⟨w.name,y,hky,rfl,zzT hz hw h2,fun e=>h4 ?_⟩;have e2:plI w.name y=plI m.name x:=(by unfold plI; rw[hk,h3]);grind [zzT,zz7]
structure Par (b x:zrY) (s t:List Module):Prop where
 gs:Gp s
 gt:Gp t
 same: ∀p,b p=x p->zbc t p=zbc s p
 ours: ∀p,b p≠x p->zbc t p=x p/\zbc s p=b p
theorem Par.step{b x:zrY}{s t s':List Module}(h:Par b x s t){e:Edit}{pre:zrY->Prop}{p:Place}{v:Option Module}(ha:Acts e pre p v)(hp:b p=x p)(he:zx4 s e=some s')(hpre:pre (zbc s)->pre (zbc t)): ∃t',zx4 t e=some t'/\Par b x s' t':=by
 have h1:=ha.asks s s' h.gs he;obtain⟨s2,e2,g2,c2⟩:=ha.does s h.gs h1;rw[he]at e2;cases e2;obtain⟨t',e3,g3,c3⟩:=ha.does t h.gt (hpre h1);refine⟨t',e3,g2,g3,fun q hq=> ?_,fun q hq=> ?_⟩
 ·rw[c2,c3,h.same q hq]
 ·have:q≠p:=fun e=>hq (e▸hp);rw[c2,c3,if_neg this,if_neg this];exact h.ours q hq
section
variable {b x y:List Module} (hd: ∀p,zbc b p=zbc x p\/zbc b p=zbc y p) (hl: ∀p,¬zop (zbc b) (zbc x) (zbc y) p)
include hd hl
theorem par_edit{s t s':List Module}(h:Par (zbc b) (zbc x) s t){e:Edit}(he:Ed (zbc b) (zbc y) e)(hs:zx4 s e=some s'): ∃t',zx4 t e=some t'/\Par (zbc b) (zbc x) s' t':=by
 have side1: ∀p,zbc b p≠zbc x p->zfo (zbc b) (zbc x) (zbc y) p=1:=fun p hp=>by
  grind [zfo]
 rcases he with⟨n,z,hk,rfl,h1,h2⟩ | ⟨n,z,hk,rfl,h1,h2⟩ | ⟨m,rfl,h1,h2⟩ | ⟨n,rfl,h1,h2⟩
 ·have hb:=(hd (plI n z)).resolve_right h2;refine h.step (set_acts n z hk) hb hs fun hp hc=> ?_;by_cases hh:zbc b (zbB n)=zbc x (zbB n)
  ·rw[h.same _ hh]at hc; exact hp hc
  ·rw[(h.ours _ hh).1]at hc;have s1:=side1 _ hh;refine hl (plI n z) ⟨fun e=>zlW (x:=z) (fun e=>by omega) (congrArg Place.part e),?_,?_,.inl ?_⟩
   ·show zfF _ _ _ (zbB n)=none;unfold zfF; simp_all
   ·grind [zfo]
   grind [zfF,zgH]
 ·have hb:=(hd (plI n z)).resolve_right (by simp_all);exact h.step (rem_acts n z hk) hb hs fun hp hc=>by rw[h.same _ hb]at hc; exact hp hc
 ·have hb:=(hd (zbB m.name)).resolve_right h2;exact h.step (head_acts m) hb hs fun _=>trivial
 ·have hb:=(hd (zbB n)).resolve_right (by simp_all);refine h.step (gone_acts n) hb hs fun hp=>⟨by rw[h.same _ hb]; exact hp.1,fun q hq hz=> ?_⟩;by_cases hh:zbc b q=zbc x q
  ·rw[h.same _ hh]; simp_all
  ·have h3:=h.ours _ hh;rw[h3.1];refine Classical.byContradiction fun hc=> ?_;have s1:=side1 _ hh;refine hl q ⟨fun e=>hz (by rw[e]; rfl),?_,?_,.inl ?_⟩
   ·grind [zfF,zgH]
   ·grind [zgH]
   grind [zfF]
theorem par_edits: ∀(es:List Edit) (s t s':List Module),Par (zbc b) (zbc x) s t->(∀e∈es,Ed (zbc b) (zbc y) e)->es.foldlM zx4 s=some s'-> ∃t',es.foldlM zx4 t=some t'/\Par (zbc b) (zbc x) s' t'
 | [],s,t,s',h,_,hs=>by simp_all
 | e::es,s,t,s',h,he,hs=>by
  rw[List.foldlM_cons]at hs;cases h1:zx4 s e with
  | none=>simp_all
  | some s1=>
   rw[h1]at hs;obtain⟨t1,e1,p1⟩:=par_edit hd hl h (he e (by simp)) h1;obtain⟨t',e2,p2⟩:=par_edits es s1 t1 s' p1 (fun z hz=>he z (List.mem_cons_of_mem _ hz)) hs;simp_all
end
theorem edits_law{b x y:List Module}(hb:Fl b)(hx:Fl x)(hy:Fl y)(h:zdy b x y=[])(hd: ∀p,zbc b p=zbc x p\/zbc b p=zbc y p):zoS x (zrp b y)=some (zbA b x y):=by
 have hl:=fun p=>(zqB hb hx hy h p).2;have nb:=zzX hb.part;have nx:=zzX hx.part;have ny:=zzX hy.part;have hpar:Par (zbc b) (zbc x) (zcC b) (zcC x):=⟨hb.gp,hx.gp,fun p hp=>by grind,fun p _=>⟨nx p,nb p⟩⟩;have hs:=diffN_act hb.gp.good hy.gp.good hb.gp.pk.kd hy.gp.pk.kd;obtain⟨t',e,hp⟩:=par_edits hd hl (zrp b y) _ _ _ hpar (fun e he=>by
  have:=diffN_src hb.gp hy.gp he;rwa [funext nb,funext ny]at this) hs
 obtain⟨a1,a2,a3⟩:=zdg hb hx hy h;have:t'=zbA b x y:=by
  refine zwK hp.gt.good a1 hp.gt.pk.kd a2.kd fun p=> ?_;rw[a3];by_cases hbx:zbc b p=zbc x p
  ·rw[hp.same p hbx,ny];grind [zfF,zgH]
  ·rw[(hp.ours p hbx).1];grind [zfF,zgH]
 rw[<-this];exact e
end Go.Proofs.YtbenhdgpogiadaaGreat
