/- Contracts and laws. Conditions: those of each. -/
import Derived.Test.YtbenhdgpogiadaaGreatK1
import Derived.WalkKit
import Derived.Shelf.SlSortCmp.QuietGrown
import Derived.StillTailTactics
import Derived.Below
import Derived.Shelf.RegionOpenPlain
import Derived.Handy
import Derived.Laws.Cover1
import Derived.Laws.Rows
import Derived.Shelf.SlicesQ.Load
import Derived.Test.YtbenhdgpogiadaaGreatGSr
import Derived.Ground.SlsfProg
set_option linter.unusedSimpArgs false
set_option linter.unusedVariables false
open List renaming getElem_mem -> waa, foldl_nil -> wab, take_zero -> wac
open Nat renaming lt_or_ge -> wad
namespace Go.Proofs.YtbenhdgpogiadaaGreat
open Go.Aw
open Tryz
set_option maxRecDepth 100000
set_option maxHeartbeats 1000000
def zce(m:Module)(n:Str):Item:=(get (zbG m.items) n).getD zaU
def zbu(m:Module)(n:Str):Int:=(zce m n).kind.1
theorem zs2(m:Module)(n:Str)(ks:List Int):FnP prog 250 [.agg (zaf m),eS n,zfA ks] (.d (eB (has ks (zbu m n)))) []:=by
 refine FnP.of_eC (own:=[]) chL zat func250 rfl call250 ntmps250 (zle rfl) results250 (fun hok=> ?_);simp only[ZE,seval,zN,zaf,sMp,zak,zal,zaj,zfu,zfg];refine⟨fun y hy=>zcr _ y hy,?_⟩;have hc:=zn5 ks (zbu m n);simp only[ZE,seval]at hc;refine EFn.p ?_;simp only[ZE,seval];refine zar.i hc ?_;simp only[ZE,seval]
theorem zsW(l:List Bind)(g:Nat)(c:D)(p:Bind->Bool)(hf: ∀b∈l,FnP prog g [.agg (zjO b),c] (.d (eB (p b))) []):FnP prog 280 [zel l,.clo (.func g) [] [c]] (.d (eI (zgM p l))) []:=by
 refine FnP.of_eC (own:=[]) chL zat func280 rfl call280 ntmps280 (zle rfl) results280 (fun hok=> ?_);obtain⟨hl,_⟩:=za9 (zaM hok).1;simp only[ZE,seval,zN];refine za1 chL zat l.length (fun i=> ∀j (_:j<i) (hj:j<l.length),p l[j]=false) (fun i=>([(0,.d (zel l)),(1,.d (.clo (.func g) [] [c])),(7,.d (eI l.length)),(8,.d (eI i))],[])) (by simp) (by simp only[ZE,seval,zN]) (by simp only[ZE,seval]) (fun i hi hI=> ?_);rcases wad i l.length with h | h
 ·have hw:=zaq (show i<9223372036854775807 by omega);simp only[ZE,seval,zaw h,zaa h,zai h];have hc:=hf l[i] (waa h);simp only[ZE,seval]at hc;refine EFn.p ?_;simp only[ZE,seval];refine zar.i hc ?_;simp only[ZE,seval,hw];refine zd8 (fun h3=> ?_) (fun h3=>⟨h,fun j hj hj'=> ?_⟩)
  ·rw[zeP h h3 hI]
  ·rcases Nat.lt_succ_iff_lt_or_eq.1 hj with hj | rfl
   ·exact hI j hj hj'
   ·exact h3
 ·simp only[ZE,seval,zaI h];rw[zeO (fun j hj=>hI j (by omega) hj)]
theorem zml(l:List Bind)(g:Nat)(c:D)(p:Bind->Bool)(hf: ∀b∈l,FnP prog g [.agg (zjO b),c] (.d (eB (p b))) []):FnP prog 251 [zel l,.clo (.func g) [] [c]] (.d (eB (l.any p))) []:=by
 refine FnP.of_eC (own:=[]) chL zat func251 rfl call251 ntmps251 (zle rfl) results251 (fun hok=> ?_);simp only[ZE,seval,zN];refine EFn.p ?_;simp only[ZE,seval];have hc:=zsW l g c p hf;simp only[ZE,seval]at hc;refine zar.i hc ?_;clear hc;simp only[ZE,seval,zN,zf0]
theorem zsX(l:List Item)(g:Nat)(c:D)(p:Item->Bool)(hf: ∀b∈l,FnP prog g [.agg (zaK b),c] (.d (eB (p b))) []):FnP prog 112 [zbR l,.clo (.func g) [] [c]] (.d (eI (zgM p l))) []:=by
 refine FnP.of_eC (own:=[]) chL zat func112 rfl call112 ntmps112 (zle rfl) results112 (fun hok=> ?_);obtain⟨hl,_⟩:=za9 (zaM hok).1;simp only[ZE,seval,zN];refine za1 chL zat l.length (fun i=> ∀j (_:j<i) (hj:j<l.length),p l[j]=false) (fun i=>([(0,.d (zbR l)),(1,.d (.clo (.func g) [] [c])),(7,.d (eI l.length)),(8,.d (eI i))],[])) (by simp) (by simp only[ZE,seval,zN]) (by simp only[ZE,seval]) (fun i hi hI=> ?_);rcases wad i l.length with h | h
 ·have hw:=zaq (show i<9223372036854775807 by omega);simp only[ZE,seval,zaw h,zaa h,zai h];have hc:=hf l[i] (waa h);simp only[ZE,seval]at hc;refine EFn.p ?_;simp only[ZE,seval];refine zar.i hc ?_;simp only[ZE,seval,hw];refine zd8 (fun h3=> ?_) (fun h3=>⟨h,fun j hj hj'=> ?_⟩)
  ·rw[zeP h h3 hI]
  ·rcases Nat.lt_succ_iff_lt_or_eq.1 hj with hj | rfl
   ·exact hI j hj hj'
   ·exact h3
 ·simp only[ZE,seval,zaI h];rw[zeO (fun j hj=>hI j (by omega) hj)]
theorem zcI(l:List Item)(g:Nat)(c:D)(p:Item->Bool)(hf: ∀b∈l,FnP prog g [.agg (zaK b),c] (.d (eB (p b))) []):FnP prog 54 [zbR l,.clo (.func g) [] [c]] (.d (eB (l.any p))) []:=by
 refine FnP.of_eC (own:=[]) chL zat func54 rfl call54 ntmps54 (zle rfl) results54 (fun hok=> ?_);simp only[ZE,seval,zN];refine EFn.p ?_;simp only[ZE,seval];have hc:=zsX l g c p hf;simp only[ZE,seval]at hc;refine zar.i hc ?_;clear hc;simp only[ZE,seval,zN,zf0]
def zc4(acc:List (Str×Int))(p:Module×Nat):List (Str×Int):=if (get acc p.1.name).isNone =true then acc++[(p.1.name,(p.2:Int))]else acc
def znH(l:List Module):List (Str×Int):=l.zipIdx.foldl zc4 []
def zab(l:List Module):D:=.sl (l.map zaf)
def zaF(l:List Module):D:=sMp eI (znH l)
def zcA(l:List Module)(n:Str):Option Int:=get (znH l) n
def zap(l:List Module)(ks vs:List D)(bs:List Nat)(cl:Nat):List D:=[zab l,zaF l,.mp ks vs bs cl]
theorem zfB{l:List Module}{n:Str}{i:Int}(h:zcA l n=some i): ∃(k:Nat) (hk:k<l.length),i=k/\l[k].name =n:=by
 have key: ∀(r:List (Module×Nat)) (acc:List (Str×Int)),(∀p∈r,∃hk:p.2<l.length,l[p.2]=p.1)->(∀e∈acc,∃(k:Nat) (hk:k<l.length),e.2=k/\l[k].name =e.1)-> ∀e∈r.foldl zc4 acc,∃(k:Nat) (hk:k<l.length),e.2=k/\l[k].name =e.1:=by
  intro r
  induction r with
  | nil=>intro acc _ h e he; exact h e he
  | cons p r ih=>
   intro acc hr ha e he;rw[List.foldl_cons]at he;refine ih _ (fun q hq=>hr q (List.mem_cons_of_mem _ hq)) (fun e he=> ?_) e he;unfold zc4 at he;split at he
   ·rcases List.mem_append.1 he with he | he
    ·exact ha e he
    ·simp only[List.mem_singleton]at he;subst he;obtain⟨hk,e1⟩:=hr p List.mem_cons_self;exact⟨p.2,hk,rfl,by rw[e1]⟩
   ·exact ha e he
 unfold zcA get at h;rw[Option.map_eq_some_iff]at h;obtain⟨e,he,rfl⟩:=h;obtain⟨k,hk,h1,h2⟩:=key l.zipIdx [] (fun p hp=>by
  obtain⟨q,i⟩:=p;rw[List.mem_zipIdx_iff_getElem?]at hp;obtain⟨h3,h4⟩:=List.getElem?_eq_some_iff.1 hp;exact⟨h3,h4⟩) (by simp) e (List.mem_of_find?_eq_some he)
 have h5:=List.find?_some he;exact⟨k,hk,h1,by rw[h2]; exact of_decide_eq_true h5⟩
def zbS(l:List Module)(x:Item)(n:Str):Int:=
 match zcA l x.of with
 | some i=>if (x.kind.1==9&&has [1,2] (zbu (l.getD i.toNat ⟨emp,emp,[],[]⟩) n))=true then zbu (l.getD i.toNat ⟨emp,emp,[],[]⟩) n else 0
 | none=>0
theorem ztR(l:List Module)(ks vs:List D)(bs:List Nat)(cl:Nat)(x:Item)(n:Str):FnP prog 253 [.agg (zap l ks vs bs cl),.agg (zaK x),eS n] (.d (eI (zbS l x n))) []:=by
 cases hf:get (znH l) x.of with
 | none=>
  refine FnP.of_eC (own:=[]) (fun _=>[]) zat func253 rfl call253 ntmps253 (zle rfl) results253 (fun hok=> ?_);simp only[ZE,seval,zN,zap,zab,zaF,sMp,zak,zal,zaj,hf];refine⟨fun y hy=>zcr _ y hy,?_⟩;have:zcA l x.of=none:=hf;simp only[zbS,this]
 | some i=>
  obtain⟨k,hk,rfl,hn⟩:=zfB hf;have hp:zbS l x n=if (x.kind.1==9&&has [1,2] (zbu l[k] n))=true then zbu l[k] n else 0:=by
   have:zcA l x.of=some (k:Int):=hf;have e:l.getD k ⟨emp,emp,[],[]⟩=l[k]:=by simp[List.getD,hk]
   simp only[zbS,this,Int.toNat_natCast,e]
  refine FnP.of_eC (own:=[]) chL zat func253 rfl call253 ntmps253 (zle rfl) results253 (fun hok=> ?_);have hc:=zs2 l[k] n [1,2];simp only[ZE,seval,zaf,sMp]at hc;simp only[ZE,seval,zN,zap,zab,zaF,sMp,zak,zal,zaj,hf,zai hk,zaa hk,zaf,zfu,zfg];refine⟨fun y hy=>zcr _ y hy,za3.i (fun _=>hc) ?_⟩;simp only[ZE,seval];refine zd8 (fun h=>⟨fun y hy=>zcr _ y hy,?_⟩) (fun h=> ?_)
  ·rw[hp,if_pos h]; rfl
  ·rw[hp,if_neg (by rw[h]; simp)]
set_option linter.defProp false in
def zFI:=And.intro @zap.eq_1 (And.intro @zab.eq_1 (And.intro @zaF.eq_1 (And.intro @sMp.eq_1 (And.intro @zaf.eq_1 (And.intro @zak (And.intro @zal @zaj))))))
def inc(n:Int):Int:=IntKind.i64.wrap (n+1)
def endI(n:Str)(acc:Int×Int)(x:Item):Int×Int:=if (x.kind.1==7&&decide (x.name=n))=true then(inc acc.1,acc.2)else if (x.kind.1==8&&decide (x.name=n))=true then(acc.1,inc acc.2)else acc
def zgX(l:List Module)(x:Item)(n:Str)(acc:Int×Int)(b:Bind):Int×Int:=if (decide (b.chan=n)&&zbS l x b.port==1)=true then(inc acc.1,acc.2)else if (decide (b.chan=n)&&zbS l x b.port==2)=true then(acc.1,inc acc.2)else acc
def zrr(l:List Module)(n:Str)(acc:Int×Int)(x:Item):Int×Int:=x.ports.foldl (zgX l x n) (endI n acc x)
def zeZ(l:List Module)(m:Module)(n:Str):Int×Int:=m.items.foldl (zrr l n) (0,0)
theorem zc3{α β:Type}(f:β->α->β)(b:β)(l:List α)(i:Nat)(h:i<l.length):(l.take (i+1)).foldl f b=f ((l.take i).foldl f b) l[i]:=by
 rw[List.take_succ_eq_append_getElem h,List.foldl_append]; rfl
theorem zhD(l:List Module)(ks vs:List D)(bs:List Nat)(cl:Nat)(m:Module)(n:Str):FnP prog 203 [.agg (zap l ks vs bs cl),.agg (zaf m),eS n] (.tup [.d (eI (zeZ l m n).1),.d (eI (zeZ l m n).2)]) []:=by
 refine FnP.of_eC (own:=[]) chL zat func203 rfl call203 ntmps203 (zle rfl) results203 (fun hok=> ?_);have hm:m.items.length<=9223372036854775807/\ ∀x∈m.items,D.okL (zaK x):=by
  have:=(zaM (zaM hok).2).1;simp only[D.ok,zaf,D.okL]at this;exact za9 this.2.2.2.1
 simp only[ZE,seval,zN,zaf,sMp,zap,zab,zaF];refine za1 chL zat m.items.length (fun i=>True) (fun i=>([(2,.d (eS n)),(3,.bp 3 0),(6,.d (eI ((m.items.take i).foldl (zrr l n) (0,0)).1)),(7,.d (eI ((m.items.take i).foldl (zrr l n) (0,0)).2)),(15,.d (zbR m.items)),(16,.d (eI m.items.length)),(17,.d (eI i))],
  [(3,.box ((zap l ks vs bs cl).map .d))])) trivial ?_ ?_ (fun i hi _=> ?_)
 ·simp only[ZE,seval,wac,wab]
 ·simp only[ZE,seval,zap,zab,zaF,sMp]
 obtain⟨acc,hacc⟩:=zX ((m.items.take i).foldl (zrr l n) (0,0));rcases wad i m.items.length with h | h
 ·have hw:=zaq (show i<9223372036854775807 by omega);have hs:=zc3 (zrr l n) (0,0) m.items i h;rw[hacc]at hs;simp only[ZE,seval,zaw h,zaa h,zai h,hacc,hs,zap,zab,zaF,sMp];have hbok:m.items[i].ports.length <=9223372036854775807:=by
   have:=hm.2 m.items[i] (waa h);simp only[zaK,D.okL]at this;have h1:=(zbK (zbK (zbK (zbK (zbK (zbK (zbK this.2.2).2).2).2).2).2).2).2;simp only[D.okL]at h1;exact(za9 h1.2.2.1).1
  obtain⟨e0,he0⟩:=zX (endI n acc m.items[i]);have he:=he0;unfold endI inc at he;have hx:zrr l n acc m.items[i]=m.items[i].ports.foldl (zgX l m.items[i] n) e0:=by rw[<-he0]; rfl
  refine zd8 (fun h7=> ?_) (fun h7=>zd8 (fun h8=> ?_) (fun h8=> ?_))
  ·rw[if_pos h7]at he;subst he;refine za1 chL zat m.items[i].ports.length (fun j=>True) (fun j=>([(2,.d (eS n)),(3,.bp 3 0),(6,.d (eI ((m.items[i].ports.take j).foldl (zgX l m.items[i] n) (IntKind.i64.wrap (acc.1+1),acc.2)).1)),(7,.d (eI ((m.items[i].ports.take j).foldl (zgX l m.items[i] n) (IntKind.i64.wrap (acc.1+1),acc.2)).2)),(9,.bp 9 0),(15,.d (zbR m.items)),(16,.d (eI m.items.length)),(17,.d (eI i)),(46,.d (zel m.items[i].ports)),(47,.d (eI m.items[i].ports.length)),(48,.d (eI j))],
    [(9,.box ((zaK m.items[i]).map .d)),(3,.box ((zap l ks vs bs cl).map .d))])) trivial ?_ ?_ (fun j hj _=> ?_)
   ·simp only[ZE,seval,wac,wab]
   ·simp only[ZE,seval,zap,zab,zaF,sMp]
   rcases wad j m.items[i].ports.length with h' | h'
   ·have hw':=zaq (show j<9223372036854775807 by omega);obtain⟨a2,ha2⟩:=zX ((m.items[i].ports.take j).foldl (zgX l m.items[i] n) (IntKind.i64.wrap (acc.1+1),acc.2));have hs2:=zc3 (zgX l m.items[i] n) (IntKind.i64.wrap (acc.1+1),acc.2) m.items[i].ports j h';rw[ha2]at hs2;have hc:=ztR l ks vs bs cl m.items[i] m.items[i].ports[j].port;simp only[ZE,seval,zap,zab,zaF,sMp]at hc;simp only[ZE,seval,zaw h',zaa h',zai h',ha2,hs2,zap,zab,zaF,sMp];refine EFn.p ?_;simp only[ZE,seval];refine zar.i hc ?_;simp only[ZE,seval,hw',zgX,inc];refine zd8 (fun g1=> ?_) (fun g1=>zd8 (fun g2=> ?_) (fun g2=> ?_))
    ·simp only[g1,if_true]; exact⟨h',trivial,trivial⟩
    ·simp only[g1,g2,if_true,Bool.false_eq_true,if_false]; exact⟨h',trivial,trivial⟩
    ·simp only[g1,g2,Bool.false_eq_true,if_false]; exact⟨h',trivial,trivial⟩
   ·have:j=m.items[i].ports.length :=(by omega);subst this;simp only[ZE,seval,zaI h',List.take_length,hw,hx,zap,zab,zaF,sMp];exact h
  ·rw[if_neg (by rw[h7]; simp),if_pos h8]at he;subst he;refine za1 chL zat m.items[i].ports.length (fun j=>True) (fun j=>([(2,.d (eS n)),(3,.bp 3 0),(6,.d (eI ((m.items[i].ports.take j).foldl (zgX l m.items[i] n) (acc.1,IntKind.i64.wrap (acc.2+1))).1)),(7,.d (eI ((m.items[i].ports.take j).foldl (zgX l m.items[i] n) (acc.1,IntKind.i64.wrap (acc.2+1))).2)),(9,.bp 9 0),(15,.d (zbR m.items)),(16,.d (eI m.items.length)),(17,.d (eI i)),(46,.d (zel m.items[i].ports)),(47,.d (eI m.items[i].ports.length)),(48,.d (eI j))],
    [(9,.box ((zaK m.items[i]).map .d)),(3,.box ((zap l ks vs bs cl).map .d))])) trivial ?_ ?_ (fun j hj _=> ?_)
   ·simp only[ZE,seval,wac,wab]
   ·simp only[ZE,seval,zap,zab,zaF,sMp]
   rcases wad j m.items[i].ports.length with h' | h'
   ·have hw':=zaq (show j<9223372036854775807 by omega);obtain⟨a2,ha2⟩:=zX ((m.items[i].ports.take j).foldl (zgX l m.items[i] n) (acc.1,IntKind.i64.wrap (acc.2+1)));have hs2:=zc3 (zgX l m.items[i] n) (acc.1,IntKind.i64.wrap (acc.2+1)) m.items[i].ports j h';rw[ha2]at hs2;have hc:=ztR l ks vs bs cl m.items[i] m.items[i].ports[j].port;simp only[ZE,seval,zap,zab,zaF,sMp]at hc;simp only[ZE,seval,zaw h',zaa h',zai h',ha2,hs2,zap,zab,zaF,sMp];refine EFn.p ?_;simp only[ZE,seval];refine zar.i hc ?_;simp only[ZE,seval,hw',zgX,inc];refine zd8 (fun g1=> ?_) (fun g1=>zd8 (fun g2=> ?_) (fun g2=> ?_))
    ·simp only[g1,if_true]; exact⟨h',trivial,trivial⟩
    ·simp only[g1,g2,if_true,Bool.false_eq_true,if_false]; exact⟨h',trivial,trivial⟩
    ·simp only[g1,g2,Bool.false_eq_true,if_false]; exact⟨h',trivial,trivial⟩
   ·have:j=m.items[i].ports.length :=(by omega);subst this;simp only[ZE,seval,zaI h',List.take_length,hw,hx,zap,zab,zaF,sMp];exact h
  ·rw[if_neg (by rw[h7]; simp),if_neg (by rw[h8]; simp)]at he;subst he;refine za1 chL zat m.items[i].ports.length (fun j=>True) (fun j=>([(2,.d (eS n)),(3,.bp 3 0),(6,.d (eI ((m.items[i].ports.take j).foldl (zgX l m.items[i] n) acc).1)),(7,.d (eI ((m.items[i].ports.take j).foldl (zgX l m.items[i] n) acc).2)),(9,.bp 9 0),(15,.d (zbR m.items)),(16,.d (eI m.items.length)),(17,.d (eI i)),(46,.d (zel m.items[i].ports)),(47,.d (eI m.items[i].ports.length)),(48,.d (eI j))],
    [(9,.box ((zaK m.items[i]).map .d)),(3,.box ((zap l ks vs bs cl).map .d))])) trivial ?_ ?_ (fun j hj _=> ?_)
   ·simp only[ZE,seval,wac,wab]
   ·simp only[ZE,seval,zap,zab,zaF,sMp]
   rcases wad j m.items[i].ports.length with h' | h'
   ·have hw':=zaq (show j<9223372036854775807 by omega);obtain⟨a2,ha2⟩:=zX ((m.items[i].ports.take j).foldl (zgX l m.items[i] n) acc);have hs2:=zc3 (zgX l m.items[i] n) acc m.items[i].ports j h';rw[ha2]at hs2;have hc:=ztR l ks vs bs cl m.items[i] m.items[i].ports[j].port;simp only[ZE,seval,zap,zab,zaF,sMp]at hc;simp only[ZE,seval,zaw h',zaa h',zai h',ha2,hs2,zap,zab,zaF,sMp];refine EFn.p ?_;simp only[ZE,seval];refine zar.i hc ?_;simp only[ZE,seval,hw',zgX,inc];refine zd8 (fun g1=> ?_) (fun g1=>zd8 (fun g2=> ?_) (fun g2=> ?_))
    ·simp only[g1,if_true]; exact⟨h',trivial,trivial⟩
    ·simp only[g1,g2,if_true,Bool.false_eq_true,if_false]; exact⟨h',trivial,trivial⟩
    ·simp only[g1,g2,Bool.false_eq_true,if_false]; exact⟨h',trivial,trivial⟩
   ·have:j=m.items[i].ports.length :=(by omega);subst this;simp only[ZE,seval,zaI h',List.take_length,hw,hx,zap,zab,zaF,sMp];exact h
 ·have:i=m.items.length:=by omega
  subst this;simp only[ZE,seval,zaI h,List.take_length,zeZ]
def znE{α:Type}(l:List (Str×α))(s:Str)(x:α):List (Str×α):=
 match l with
 | []=>[(s,x)]
 | p::r=>if p.1=s then(s,x)::r else p::znE r s x
theorem zqk{α:Type}(s:Str):get ([]:List (Str×α)) s=none:=rfl
theorem zho{α:Type}(p:Str×α)(l:List (Str×α))(s:Str):get (p::l) s=if p.1=s then some p.2 else get l s:=by
 simp only[get,List.find?_cons];by_cases h:p.1=s <;> simp[h]
theorem zr8{α:Type}{l:List (Str×α)}{s:Str}{x:α}(h:get l s=none):znE l s x=l++[(s,x)]:=by
 induction l with
 | nil=>rfl
 | cons p r ih=>
  rw[zho]at h;split at h
  ·cases h
  ·rename_i h1;simp only[znE,if_neg h1,ih h,List.cons_append]
theorem zr9{α:Type}(f:α->D){l:List (Str×α)}{s:Str}{x:α}(h:get l s≠none):sK (znE l s x)=sK l/\sV f (znE l s x)=(sV f l).set (zeN (sK l) (.lit (.string s.1))) (f x)/\(znE l s x).length =l.length:=by
 induction l with
 | nil=>exact absurd rfl h
 | cons p r ih=>
  rw[zho]at h;simp only[znE];by_cases h1:p.1=s
  ·simp only[h1,if_true,sK,sV,List.map_cons,ziQ,List.set_cons_zero,List.length_cons,and_self]
  ·simp only[if_neg h1]at h ⊢;obtain⟨a1,a2,a3⟩:=ih h;simp only[sK,sV,List.map_cons,ziQ,if_neg (str_ne h1),List.set_cons_succ,List.length_cons]at a1 a2 ⊢;exact⟨by rw[a1],by rw[a2],by rw[a3]⟩
theorem put_a{α:Type}(f:α->D)(l:List (Str×α))(s:Str)(x:α):zgQ (sK l) (.lit (.string s.1))=sK (znE l s x)/\zjk (sK l) (sV f l) (.lit (.string s.1)) (f x)=sV f (znE l s x)/\
  zjs (sK l) (List.range l.length) l.length (.lit (.string s.1))=List.range (znE l s x).length /\zjT (sK l) l.length (.lit (.string s.1))=(znE l s x).length :=by
 by_cases h:get l s=none
 ·rw[zr8 h]; exact zqH f h
 ·have hm:(D.lit (.string s.1))∈sK l:=by
   by_cases hm:(D.lit (.string s.1))∈sK l
   ·exact hm
   ·exact absurd (zlg.2 hm) h
  have hlt:=zcO.2 hm;obtain⟨a1,a2,a3⟩:=zr9 f (x:=x) h;refine⟨by simp only[zgQ,if_pos hlt,a1],by simp only[zjk,if_pos hlt,a2],by simp only[zjs,if_pos hlt,a3],by simp only[zjT,if_pos hlt,a3]⟩
theorem zkl{a a':List D}{b b':List D}{c c':List Nat}{d d':Nat}(h:a=a'/\b=b'/\c=c'/\d=d'):AO.map a b c d=AO.map a' b' c' d':=by
 obtain⟨h1,h2,h3,h4⟩:=h; rw[h1,h2,h3,h4]
theorem zoh(o:Option Int):(o.map eI).getD (.lit (.int .i64 0))=eI (o.getD 0):=by cases o <;> rfl
def zeY(acc:List (Str×Int))(b:Bind):List (Str×Int):=znE acc b.port (inc ((get acc b.port).getD 0))
def znP(l:List Bind):List (Str×Int):=l.foldl zeY []
def zlX(x:Item):Bool:=x.kind.1==1||x.kind.1==2
def zcs(acc:List (Str×Bool))(x:Item):List (Str×Bool):=if zlX x=true then znE acc x.name true else acc
def zch(m:Module):List (Str×Bool):=m.items.foldl zcs []
def zeR(l:List Module)(x:Item):Bool:=
 match zcA l x.of with
 | none=>false
 | some i=>(zch (l.getD i.toNat ⟨emp,emp,[],[]⟩)).any (fun p=>(get (znP x.ports) p.1).getD 0 !=1)||
   ((x.args.length:Int) !=((l.getD i.toNat ⟨emp,emp,[],[]⟩).params.length :Int)||(x.ports.length:Int) !=((zch (l.getD i.toNat ⟨emp,emp,[],[]⟩)).length :Int))
theorem zdr: ∀(n:Nat) (js:List Nat),js.Nodup->(∀j∈js,j<n)->js.length<=n
 | 0,js,_,h=>by
  cases js with
  | nil=>simp
  | cons j r=>exact absurd (h j (by simp)) (by omega)
 | n+1,js,hn,h=>by
  have h1:=zdr n (js.erase n) (hn.erase n) (fun j hj=>by
   have h2:=(List.Nodup.mem_erase_iff hn).1 hj;have:=h j h2.2;omega)
  rw[List.length_erase]at h1;split at h1 <;> omega
def zhR{α:Type}(l:List α)(p:α->Bool)(i:Nat)(js:List Nat):Prop:=js.length=i/\js.Nodup/\(∀j∈js,j<l.length)/\ ∀j∈js,∀h:j<l.length,p l[j]=false
theorem zg9{α:Type}(l:List α)(p:α->Bool):zhR l p 0 []:=⟨rfl,List.nodup_nil,by simp,by simp⟩
theorem zi9{α:Type}{l:List α}{p:α->Bool}{i j:Nat}{js:List Nat}(h:zhR l p i js)(hj:j<l.length)(hjs:j∉js):i<l.length:=by
 obtain⟨h1,h2,h3,_⟩:=h;have:=zdr l.length (j::js) (List.nodup_cons.2 ⟨hjs,h2⟩) (fun k hk=>by
  rcases List.mem_cons.1 hk with rfl | hk
  ·exact hj
  ·exact h3 k hk)
 simp at this; omega
theorem zf8{α:Type}{l:List α}{p:α->Bool}{i j:Nat}{js:List Nat}(h:zhR l p i js)(hj:j<l.length)(hjs:j∉js)(hp:p l[j]=false):zhR l p (i+1) (js++[j]):=by
 obtain⟨h1,h2,h3,h4⟩:=h;refine⟨by simp[h1],List.nodup_append.2 ⟨h2,by simp,fun a ha b hb e=> ?_⟩,fun k hk=> ?_,fun k hk hk'=> ?_⟩
 ·simp at hb; subst hb; subst e; exact hjs ha
 ·rcases List.mem_append.1 hk with hk | hk
  ·exact h3 k hk
  ·simp at hk; subst hk; exact hj
 ·rcases List.mem_append.1 hk with hk | hk
  ·exact h4 k hk hk'
  ·simp at hk; subst hk; exact hp
theorem zg8{α:Type}{l:List α}{p:α->Bool}{i:Nat}{js:List Nat}(h:zhR l p i js)(ha: ∀j,j<l.length->j∈js):l.any p=false:=by
 rw[List.any_eq_false];intro x hx;obtain⟨j,hj,rfl⟩:=List.getElem_of_mem hx;rw[h.2.2.2 j (ha j hj) hj]; simp
theorem zoJ{α:Type}(l:List (Str×α))(j:Nat)(h:j<l.length):(sK l).getD j default= .lit (.string l[j].1.1):=by simp[sK,List.getD,h]
theorem zdK{α:Type}(l:List (Str×α)):(sK l).length =l.length:=by simp[sK]
theorem zuf{α:Type}(f:α->D)(l:List (Str×α)):(sV f l).length =l.length:=by simp[sV]
theorem zxk(l:List Module)(ks vs:List D)(bs:List Nat)(cl:Nat)(x:Item):FnP prog 205 [.agg (zap l ks vs bs cl),.agg (zaK x)] (.d (eB (zeR l x))) []:=by
 cases hf:get (znH l) x.of with
 | none=>
  refine FnP.of_eC (own:=[]) (fun _=>[]) zat func205 rfl call205 ntmps205 (zle rfl) results205 (fun hok=> ?_);simp only[ZE,seval,zN,zap,zab,zaF,sMp,zak,zal,zaj,hf];refine⟨fun y hy=>zcr _ y hy,?_⟩;have:zcA l x.of=none:=hf;simp only[zeR,this]
 | some i=>
  obtain⟨k,hk,rfl,hn⟩:=zfB hf;obtain⟨m,hm⟩:=zX (l[k]);have hp:zeR l x=((zch m).any (fun p=>(get (znP x.ports) p.1).getD 0 !=1)||((x.args.length:Int) !=(m.params.length:Int)||(x.ports.length:Int) !=((zch m).length :Int))):=by
   have:zcA l x.of=some (k:Int):=hf;have e:l.getD k ⟨emp,emp,[],[]⟩=m:=by simp[List.getD,hk,hm]
   simp only[zeR,this,Int.toNat_natCast,e]
  rw[hp];refine FnP.of_eC (own:=[]) (fun i=>if i=2022 then [.chn,.ord ⟨[(0,none),(1,none),(2,none),(3,none),(4,none),(5,none),(6,none),(7,none),(8,none),(9,none),(10,none),(11,none),(12,none),(13,none),(14,none),(15,none),(16,none),(17,none),(18,none),(19,none),(20,none)]⟩]else if i=1017 then [.frz 38]else chL i) zat func205 rfl call205 ntmps205 (zle rfl) results205 (fun hok=> ?_);have hx:D.okL (zaK x):=by
   have:=(zaM (zaM hok).2).1;simpa only[D.ok]using this
  have hpl:x.ports.length<=9223372036854775807:=by
   simp only[zaK,D.okL]at hx;have h1:=(zbK (zbK (zbK (zbK (zbK (zbK (zbK hx.2.2).2).2).2).2).2).2).2;simp only[D.okL]at h1;exact(za9 h1.2.2.1).1
  simp only[ZE,seval,zN,zap,zab,zaF,sMp,zak,zal,zaj,hf];refine⟨fun y hy=>zcr _ y hy,?_⟩;refine za1 chL zat x.ports.length (fun _=>True) (fun i=>([(2,.bp 2 0),(3,.bp 3 0),(5,.d (eI k)),(7,.mo 24),(26,.d (zel x.ports)),(27,.d (eI x.ports.length)),(28,.d (eI i))],
   [(24,.map (sK ((x.ports.take i).foldl zeY [])) (sV eI ((x.ports.take i).foldl zeY [])) (List.range ((x.ports.take i).foldl zeY []).length) ((x.ports.take i).foldl zeY []).length),(3,.box ((zaK x).map .d)),(2,.box ((zap l ks vs bs cl).map .d))])) trivial ?_ ?_ (fun i hi _=> ?_)
  ·simp only[ZE,seval]
  ·simp only[ZE,seval,zFI,wac,wab];rfl
  rcases wad i x.ports.length with h | h
  ·have hw:=zaq (show i<9223372036854775807 by omega);obtain⟨acc,hacc⟩:=zX ((x.ports.take i).foldl zeY []);have hs:=zc3 zeY [] x.ports i h;rw[hacc]at hs;rw[hacc,hs];simp only[ZE,seval,zaw h,zaa h,zai h,zoh,hw,zFI];exact⟨fun y hy=>zcr _ y hy,fun y hy=>zcr _ y hy,h,zkl (put_a eI _ _ _)⟩
  ·have:i=x.ports.length:=by omega
   subst this;have hmi:m.items.length<=9223372036854775807:=by
    have:=(zaM hok).1;simp only[zap,D.ok,D.okL,zab]at this;have h2:=(za9 this.1).2 m (hm▸waa hk);simp only[zaf,D.okL]at h2;exact(za9 h2.2.2.2.1).1
   simp only[ZE,seval,zaI h,List.take_length,zai hk,zaa hk,hm,zFI];refine za1 chL zat m.items.length (fun _=>True) (fun i=>([(2,.bp 2 0),(3,.bp 3 0),(5,.d (eI k)),(7,.mo 24),(10,.mo 38),(45,.d (zbR m.items)),(46,.d (eI m.items.length)),(47,.d (eI i))],
    [(38,.map (sK ((m.items.take i).foldl zcs [])) (sV eB ((m.items.take i).foldl zcs [])) (List.range ((m.items.take i).foldl zcs []).length) ((m.items.take i).foldl zcs []).length),
     (24,.map (sK (znP x.ports)) (sV eI (znP x.ports)) (List.range (znP x.ports).length) (znP x.ports).length),(3,.box ((zaK x).map .d)),(2,.box ((zap l ks vs bs cl).map .d))])) trivial ?_ ?_ (fun i hi _=> ?_)
   ·simp only[ZE,seval]
   ·simp only[ZE,seval,zFI,wac,wab,znP];rfl
   rcases wad i m.items.length with h' | h'
   ·have hw:=zaq (show i<9223372036854775807 by omega);obtain⟨acc,hacc⟩:=zX ((m.items.take i).foldl zcs []);have hs:=zc3 zcs [] m.items i h';rw[hacc]at hs;rw[hacc,hs];obtain⟨b,hb⟩:=zX ((m.items[i].kind.1 ==1||m.items[i].kind.1 ==2));have hb':zlX m.items[i]=b:=hb;simp only[ZE,seval,zaw h',zaa h',zai h',hw,zN,hb,zFI,zcs,hb'];refine zd8 (fun hb1=> ?_) (fun hb1=> ?_)
    ·rw[if_pos hb1];exact⟨fun y hy=>zcr _ y hy,h',zkl (put_a eB _ _ _)⟩
    ·rw[if_neg (by rw[hb1]; simp)];exact⟨h',rfl⟩
   ·have:i=m.items.length:=(by omega);subst this;simp only[ZE,seval,zaI h',List.take_length,zai hk,zaa hk,hm,zFI];have hP:m.items.foldl zcs []=zch m:=rfl;rw[hP];refine zgR (fun _ i=>if i=2022 then [.chn,.ord ⟨[(0,none),(1,none),(2,none),(3,none),(4,none),(5,none),(6,none),(7,none),(8,none),(9,none),(10,none),(11,none),(12,none),(13,none),(14,none),(15,none),(16,none),(17,none),(18,none),(19,none),(20,none)]⟩]else if i=1017 then [.frz 38]else chL i) zat (zch m).length (zhR (zch m) (fun p=>(get (znP x.ports) p.1).getD 0 !=1)) (fun i js=>([(2,.bp 2 0),(3,.bp 3 0),(5,.d (eI k)),(7,.mo 24),(10,.d (sMp eB (zch m))),(64,.mo 64)],
     [(64,.it (sK (zch m)) (sV eB (zch m)) (List.range (zch m).length) (zch m).length js),(24,.map (sK (znP x.ports)) (sV eI (znP x.ports)) (List.range (znP x.ports).length) (znP x.ports).length),(3,.box ((zaK x).map .d)),(2,.box ((zap l ks vs bs cl).map .d))])) [] (zg9 _ _) ?_ ?_ (fun i js hi hI=> ?_)
    ·simp only[ZE,seval,zFI]
    ·simp only[ZE,seval,zFI]
    simp only[ZE,seval];refine⟨by simp only[ZE,seval],fun j hj hjs=> ?_,fun hall=> ?_⟩
    ·have hj':j<(zch m).length :=(by simpa [zdK]using hj);have hlt:=zi9 hI hj' hjs;have hk':=zoJ (zch m) j hj';simp only[ZE,seval,hk',List.getLast?_singleton,Option.some_or,zFI,zoh,zep];refine⟨fun y hy=>zcr _ y hy,zd8 (fun hb=> ?_) (fun hb=>⟨hlt,_,zf8 hI hj' hjs hb,rfl⟩)⟩;have:(zch m).any (fun p=>(get (znP x.ports) p.1).getD 0 !=1)=true:=List.any_eq_true.2 ⟨_,waa hj',hb⟩;rw[this,Bool.true_or]
    ·have hany:=zg8 hI (fun j hj=>hall j (by simpa [zdK]using hj));simp only[ZE,seval,zFI,zai hk,zaa hk,hm,zuf,zdK,zN];refine⟨by kernel_rfl,?_⟩;rw[hany,Bool.false_or]
section
open Go.Aw Go.Sort Go.RowKit
def zh1(x y:Int):Int:=if x<y then-1 else if y<x then 1 else 0
def orI(l:List Int):Int:=(l.find? fun x=>x !=0).getD 0
theorem two_w(w:World)(o1 o2:Obj)(W:World)(hW:W={((w.alloc o1).alloc o2)with drawn:=((w.alloc o1).alloc o2).drawn +1}):
  W.heap[w.heap.size]? =some o1/\W.heap[w.heap.size+1]? =some o2/\ ∃q os',W=grow (w.drewN q) os':=by
 subst hW;refine⟨?_,?_,1,#[o1,o2],?_⟩
 ·show((w.alloc o1).alloc o2).heap[w.heap.size]? =_;exact(Go.RowKit.Below.heap_alloc _ _ _ (by simp)).trans (World.alloc_heap_new w _)
 ·show((w.alloc o1).alloc o2).heap[w.heap.size+1]? =_;have:=World.alloc_heap_new (w.alloc o1) o2;rwa [World.size_alloc]at this
 ·rw[alloc_eq_grow,alloc_eq_grow,grow_grow]; rfl
end
section
open Go.Aw Go.Sort Go.RowKit
def zsi(x y:ByteArray):Int:=if Op.bytesLess x.toList y.toList=true then-1 else if (!(Op.bytesLess x.toList y.toList||x.toList==y.toList))=true then 1 else 0
theorem nanI_w(x:Int)(w:World):Calls prog 210 #[.int .i64 x] w fun e w'=>e= .returned (.bool false)/\w'=w:=by
 go_enter func210,ntmps210
 go_wp2;go_ret;exact⟨by simp,rfl⟩
set_option maxHeartbeats 1000000 in
theorem cmpI_w(x y:Int)(w:World):Calls prog 155 #[.int .i64 x,.int .i64 y] w fun e w'=>e= .returned (.int .i64 (zh1 x y))/\w'=w:=by
 go_enter func155,ntmps155
 go_wp2_with (go_at_call 210; refine(nanI_w _ _).mono ?_; rintro e w' ⟨rfl,hw⟩; rw[hw])
 all_goals (go_ret; refine⟨?_,rfl⟩; unfold zh1; (repeat' split) <;> first | rfl | (exfalso; omega))
theorem nanS_w(x:ByteArray)(w:World):Calls prog 167 #[.string x] w fun e w'=>e= .returned (.bool false)/\w'=w:=by
 go_enter func167,ntmps167
 go_wp2;go_ret;exact⟨by simp,rfl⟩
set_option maxHeartbeats 1000000 in
theorem cmpS_w(x y:ByteArray)(w:World):Calls prog 115 #[.string x,.string y] w fun e w'=>e= .returned (.int .i64 (zsi x y))/\w'=w:=by
 go_enter func115,ntmps115
 go_wp2_with (go_at_call 167; refine(nanS_w _ _).mono ?_; rintro e w' ⟨rfl,hw⟩; rw[hw])
 all_goals (go_ret; refine⟨?_,rfl⟩; unfold zsi; simp_all)
set_option maxHeartbeats 2000000 in
theorem or2_w(x y:Int)(b cap:Nat)(w:World)(h0:w.cell? ⟨b,0,none⟩=some (.int .i64 x))(h1:w.cell? ⟨b,1,none⟩=some (.int .i64 y)):
  Calls prog 154 #[.slice (some ⟨b,0,none⟩) 2 cap] w fun e w'=>e= .returned (.int .i64 (orI [x,y]))/\w'=w:=by
 go_enter func154,ntmps154
 go_wp2
 go_rounds 3
 all_goals go_ret
 all_goals refine⟨?_,rfl⟩
 all_goals simp_all [orI]
set_option maxHeartbeats 4000000 in
theorem part_w(ak:Int)(an:ByteArray)(bk:Int)(bn:ByteArray)(w:World):Calls prog 110 #[.agg #[.int .i64 ak,.string an],.agg #[.int .i64 bk,.string bn]] w fun e w'=>
  e= .returned (.int .i64 (orI [zh1 ak bk,zsi an bn]))/\ ∃q os',w'=grow (w.drewN q) os':=by
 go_enter func110,ntmps110
 go_wp2;refine wp_region_still_tail 10 zat (by kernel_rfl) ?_;obtain⟨W,hW⟩: ∃W:World,W={((w.alloc (.cells #[.int .i64 ak,.string an] 66)).alloc (.cells #[.int .i64 bk,.string bn] 66))with drawn:=((w.alloc (.cells #[.int .i64 ak,.string an] 66)).alloc (.cells #[.int .i64 bk,.string bn] 66)).drawn +1}:=⟨_,rfl⟩;rw[<-hW];obtain⟨c0,c1,hG⟩:=two_w w _ _ W hW;have a0:W.cell? ⟨w.heap.size,0,none⟩=some (.int .i64 ak):=by simp[World.cell?,c0]
 have a1:W.cell? ⟨w.heap.size,1,none⟩=some (.string an):=by simp[World.cell?,c0]
 have b0:W.cell? ⟨w.heap.size+1,0,none⟩=some (.int .i64 bk):=by simp[World.cell?,c1]
 have b1:W.cell? ⟨w.heap.size+1,1,none⟩=some (.string bn):=by simp[World.cell?,c1]
 clear hW c0 c1;simp only[List.take_succ_cons,wac,List.drop_succ_cons,List.drop_zero]
 repeat still_step
 still_call (cmpI_w _ _ _)
 repeat still_step
 still_call (cmpS_w _ _ _)
 repeat still_step
 try refine wpStill_nil ?_
 generalize hx:zh1 ak bk=x at*;generalize hy:zsi an bn=y at*;clear a0 a1 b0 b1;obtain⟨q,os',rfl⟩:=hG;generalize hWW:grow (w.drewN q) os'=W;have hor: ∀W',W'=W.alloc (.cells #[.int .i64 x,.int .i64 y] 3)->Calls prog 154 #[.slice (some ⟨W.heap.size,0,none⟩) 2 2] W' fun e w'=>e= .returned (.int .i64 (orI [x,y]))/\w'=W':=by
  rintro W' rfl;have hh:=World.alloc_heap_new W (.cells #[.int .i64 x,.int .i64 y] 3);exact or2_w x y _ _ _ (by simp only[World.cell?,hh]; rfl) (by simp only[World.cell?,hh]; rfl)
 generalize hr:orI [x,y]=r at*
 go_wp2_with (go_at_call 154; refine(hor _ rfl).mono ?_; rintro e w' ⟨rfl,rfl⟩)
 go_ret;refine⟨by rw[hx,hy,hr]; rfl,q,os'++#[.cells #[.int .i64 x,.int .i64 y] 3],?_⟩;rw[alloc_eq_grow,<-hWW,grow_grow]
theorem of_w(row:Array Value)(hsz:row.size=35)(k:Int)(s:ByteArray)(h0:row[0]? =some (.int .i64 k))(h1:row[1]? =some (.string s))(w:World):
  Calls prog 111 #[.agg row] w fun e w'=>e= .returned (.agg #[.int .i64 k,.string s])/\ ∃os',w'=grow w os':=by
 have g0:row[0]'(by omega)= .int .i64 k:=by simpa [hsz]using h0
 have g1:row[1]'(by omega)= .string s:=by simpa [hsz]using h1
 go_enter func111,ntmps111
 go_wp2;refine bodyPost_ret (v:=.agg #[.int .i64 k,.string s]) (results_cell_row rfl _ _ (w.heap.size+1) 66 #[.int .i64 k,.string s] (0,0) _ rfl (heap_alloc2_new _ _ _) underlying66 rfl (by kernel_rfl)) rfl ⟨rfl,#[.cells row 64,.cells #[.int .i64 k,.string s] 66],?_⟩;rw[alloc_eq_grow,alloc_eq_grow,grow_grow]; rfl
theorem znU{P:Program}{o:Oper}{a:Act}{C:World->Prop}{K:Act->Prop}(ty:TypeId)(x:Operand)(ho:o.op= .load ty x)
  (g:Nat) (hx:a.eval x= .pointer (some ⟨g,0,none⟩)) (t:TypeId) (cs:Array Value) (fr:Nat×Nat) (d:TypeDesc) (hg: ∀w,C w->w.heap[g]? =some (.cells cs t fr))
  (hu:P.underlying ty=some d) (hd:(match d with | .struct _ | .array _ _=>true | _=>false)=true) (hi:(P.info? ty).map (·.size)=some cs.size)
  (h:K (a.put o.dst (.agg cs))):o.quiet P a C K:=by
 refine⟨.agg cs,fun w hw=> ?_,h⟩;unfold Oper.quietAt execOp;simp only[ho,hx,Instr.loadAt,Instr.sureAddr,Sem.run_bind,Sem.run_pure,Result.andThen_ok,run_loadVar_row w g t ty cs fr d (hg w hw) hu hd hi];exact⟨rfl,rfl⟩
theorem zvz{w:World}{g:Nat}{o:Obj}(h:w.heap[g]? =some o): ∀w',(∃p:GrownBy,w'=grow (w.drewN p.n) p.os)->w'.heap[g]? =some o:=by
 rintro w' ⟨p,rfl⟩;have hb:g<w.heap.size:=(Array.getElem?_eq_some_iff.1 h).1;show(w.heap++p.os)[g]? =some o;rw[Array.getElem?_append_left hb]; exact h
theorem item_w(ra rb:Array Value)(sa:ra.size=35)(sb:rb.size=35)(ak bk:Int)(an bn:ByteArray)(a0:ra[0]? =some (.int .i64 ak))(a1:ra[1]? =some (.string an))(b0:rb[0]? =some (.int .i64 bk))(b1:rb[1]? =some (.string bn))(w:World):
  Calls prog 53 #[.agg ra,.agg rb] w fun e w'=>e= .returned (.int .i64 (orI [zh1 ak bk,zsi an bn]))/\ ∃q os',w'=grow (w.drewN q) os':=by
 go_enter func53,ntmps53
 go_wp2;obtain⟨wq,hwq⟩: ∃wq,(w.alloc (.cells ra 64)).alloc (.cells rb 64)=wq:=⟨_,rfl⟩;have l1:=zvz (w:=wq) (g:=w.heap.size) (o:=.cells ra 64 (0,0)) (by rw[<-hwq]; exact(Go.RowKit.Below.heap_alloc _ _ _ (by simp)).trans (World.alloc_heap_new w _));have l2:=zvz (w:=wq) (g:=w.heap.size+1) (o:=.cells rb 64 (0,0)) (by rw[<-hwq]; exact heap_alloc2_new _ _ _);have o1: ∀W,Calls prog 111 #[.agg ra] W fun e w'=>e= .returned (.agg #[.int .i64 ak,.string an])/\ ∃q os',w'=grow (W.drewN q) os':=fun W=>(of_w ra sa ak an a0 a1 W).mono fun _ _ ⟨he,os',hq⟩=>⟨he,0,os',hq⟩;have o2: ∀W,Calls prog 111 #[.agg rb] W fun e w'=>e= .returned (.agg #[.int .i64 bk,.string bn])/\ ∃q os',w'=grow (W.drewN q) os':=fun W=>(of_w rb sb bk bn b0 b1 W).mono fun _ _ ⟨he,os',hq⟩=>⟨he,0,os',hq⟩;have o3:=part_w ak an bk bn;have hm:=zat;rw[hwq];refine wp_region_quiet_grown (by assumption) (by kernel_rfl) ?_;refine wpQuiet_step (fun K hK=> ?_);refine Eq.mpr (if_pos rfl) (znU 64 _ rfl w.heap.size rfl 64 ra (0,0) _ l1 underlying64 rfl (by rw[sa]; kernel_rfl) (hK _ ?_));clear hK K
 quiet_step ((exact Calls.grown_of (o1 _)))
 refine wpQuiet_step (fun K hK=> ?_);refine Eq.mpr (if_pos rfl) (znU 64 _ rfl (w.heap.size+1) rfl 64 rb (0,0) _ l2 underlying64 rfl (by rw[sb]; kernel_rfl) (hK _ ?_));clear hK K
 quiet_step ((exact Calls.grown_of (o2 _)))
 quiet_step ((exact Calls.grown_of (o3 _)))
 quiet_step (skip)
 refine wpQuiet_nil ?_;rintro _ ⟨⟨nq,osq⟩,rfl⟩;go_wp2;go_ret;refine⟨rfl,nq,#[.cells ra 64,.cells rb 64]++osq,?_⟩;have e1:grow (grow w #[.cells ra 64]) #[.cells rb 64]=grow w #[.cells ra 64,.cells rb 64]:=by rw[grow_grow]; rfl
 rw[<-hwq,alloc_eq_grow,alloc_eq_grow,e1];show grow (grow (w.drewN nq) #[.cells ra 64,.cells rb 64]) osq=_;rw[grow_grow]
theorem name_w(ra rb:Array Value)(sa:ra.size=4)(sb:rb.size=4)(an bn:ByteArray)(a0:ra[0]? =some (.string an))(b0:rb[0]? =some (.string bn))(w:World):
  Calls prog 57 #[.agg ra,.agg rb] w fun e w'=>e= .returned (.int .i64 (zsi an bn))/\ ∃q os',w'=grow (w.drewN q) os':=by
 have g0:ra[0]'(by omega)= .string an:=by simpa [sa]using a0
 have g1:rb[0]'(by omega)= .string bn:=by simpa [sb]using b0
 go_enter func57,ntmps57
 go_wp2_with (go_at_call 115; refine(cmpS_w _ _ _).mono ?_; rintro e w' ⟨rfl,rfl⟩)
 go_ret;refine⟨rfl,0,#[.cells ra 53,.cells rb 53],?_⟩;rw[alloc_eq_grow,alloc_eq_grow,grow_grow]; rfl
end
section
open Go.Aw Go.Sort Go.RowKit Go.Shelf
def sortItem_ren:Go.Shelf.Ren:=⟨fun | 6=>130 | 15=>171 | 14=>173 | 28=>223 | 29=>224 | 20=>225 | 21=>226 | 22=>227 | 23=>228 | 24=>229 | 25=>230 | 26=>231 | 27=>232 | 46=>264 | 47=>260 | 48=>261 | 49=>265 | 50=>266 | 57=>292 | n=>n,fun | 22=>51 | 24=>64 | 25=>109 | 3=>3 | 39=>253 | 0=>0 | 53=>307 | 55=>309 | 4=>4 | 46=>301 | 45=>300 | 50=>234 | 5=>5 | 9=>9 | 66=>337 | 70=>341 | 76=>362 | 77=>289 | n=>n,fun | n=>n⟩
theorem sortItem:Go.Proofs.SlLaysF0.n6 prog sortItem_ren:={
 mixed:=by kernel_rfl
 f6:=⟨f130.name,by decide,func130.trans (congrArg some (by kernel_rfl))⟩
 f14:=⟨f173.name,by decide,func173.trans (congrArg some (by kernel_rfl))⟩
 f15:=func171.trans (congrArg some (by kernel_rfl))
 f20:=⟨f225.name,by decide,func225.trans (congrArg some (by kernel_rfl))⟩
 f21:=⟨f226.name,by decide,func226.trans (congrArg some (by kernel_rfl))⟩
 f22:=⟨f227.name,by decide,func227.trans (congrArg some (by kernel_rfl))⟩
 f23:=⟨f228.name,by decide,func228.trans (congrArg some (by kernel_rfl))⟩
 f24:=⟨f229.name,by decide,func229.trans (congrArg some (by kernel_rfl))⟩
 f25:=⟨f230.name,by decide,func230.trans (congrArg some (by kernel_rfl))⟩
 f26:=⟨f231.name,by decide,func231.trans (congrArg some (by kernel_rfl))⟩
 f27:=⟨f232.name,by decide,func232.trans (congrArg some (by kernel_rfl))⟩
 f28:=func223.trans (congrArg some (by kernel_rfl))
 f29:=func224.trans (congrArg some (by kernel_rfl))
 f46:=⟨f264.name,by decide,func264.trans (congrArg some (by kernel_rfl))⟩
 f47:=func260.trans (congrArg some (by kernel_rfl))
 f48:=func261.trans (congrArg some (by kernel_rfl))
 f49:=⟨f265.name,by decide,func265.trans (congrArg some (by kernel_rfl))⟩
 f50:=⟨f266.name,by decide,func266.trans (congrArg some (by kernel_rfl))⟩
 f57:=⟨f292.name,by decide,func292.trans (congrArg some (by kernel_rfl))⟩
 t0:=underlying0
 a0:=isAgg0
 z0:=sizeOf0
 v0:=zeroValue0
 t3:=underlying3
 a3:=isAgg3
 z3:=sizeOf3
 v3:=zeroValue3
 t4:=underlying4
 a4:=isAgg4
 z4:=sizeOf4
 v4:=zeroValue4
 t5:=underlying5
 a5:=isAgg5
 z5:=sizeOf5
 v5:=zeroValue5
 t9:=underlying9
 a9:=isAgg9
 z9:=sizeOf9
 v9:=zeroValue9
 t22:=underlying51
 a22:=isAgg51
 z22:=sizeOf51
 v22:=zeroValue51
 t25:=underlying109
 a25:=isAgg109
 z25:=sizeOf109
 v25:=zeroValue109
 t39:=underlying253
 a39:=isAgg253
 z39:=sizeOf253
 v39:=zeroValue253
 t45:=underlying300
 a45:=isAgg300
 z45:=sizeOf300
 v45:=zeroValue300
 t46:=underlying301
 a46:=isAgg301
 z46:=sizeOf301
 v46:=zeroValue301
 t50:=underlying234
 a50:=isAgg234
 z50:=sizeOf234
 v50:=zeroValue234
 t53:=underlying307
 a53:=isAgg307
 z53:=sizeOf307
 v53:=zeroValue307
 t55:=underlying309
 a55:=isAgg309
 z55:=sizeOf309
 v55:=zeroValue309
 t66:=underlying337
 a66:=isAgg337
 z66:=sizeOf337
 v66:=zeroValue337
 t70:=underlying341
 a70:=isAgg341
 z70:=sizeOf341
 v70:=zeroValue341
 t76:=underlying362
 a76:=isAgg362
 z76:=sizeOf362
 v76:=zeroValue362
 t77:=underlying289
 a77:=isAgg289
 z77:=sizeOf289
 v77:=zeroValue289}
def sortMod_ren:Go.Shelf.Ren:=⟨fun | 6=>127 | 15=>171 | 14=>170 | 28=>223 | 29=>224 | 20=>215 | 21=>216 | 22=>217 | 23=>218 | 24=>219 | 25=>220 | 26=>221 | 27=>222 | 46=>259 | 47=>260 | 48=>261 | 49=>262 | 50=>263 | 57=>291 | n=>n,fun | 22=>28 | 24=>53 | 25=>113 | 3=>3 | 39=>253 | 0=>0 | 53=>307 | 55=>309 | 4=>4 | 46=>301 | 45=>300 | 50=>234 | 5=>5 | 9=>9 | 66=>337 | 70=>341 | 76=>362 | 77=>289 | n=>n,fun | n=>n⟩
theorem sortMod:Go.Proofs.SlLaysF0.n6 prog sortMod_ren:={
 mixed:=by kernel_rfl
 f6:=⟨f127.name,by decide,func127.trans (congrArg some (by kernel_rfl))⟩
 f14:=⟨f170.name,by decide,func170.trans (congrArg some (by kernel_rfl))⟩
 f15:=func171.trans (congrArg some (by kernel_rfl))
 f20:=⟨f215.name,by decide,func215.trans (congrArg some (by kernel_rfl))⟩
 f21:=⟨f216.name,by decide,func216.trans (congrArg some (by kernel_rfl))⟩
 f22:=⟨f217.name,by decide,func217.trans (congrArg some (by kernel_rfl))⟩
 f23:=⟨f218.name,by decide,func218.trans (congrArg some (by kernel_rfl))⟩
 f24:=⟨f219.name,by decide,func219.trans (congrArg some (by kernel_rfl))⟩
 f25:=⟨f220.name,by decide,func220.trans (congrArg some (by kernel_rfl))⟩
 f26:=⟨f221.name,by decide,func221.trans (congrArg some (by kernel_rfl))⟩
 f27:=⟨f222.name,by decide,func222.trans (congrArg some (by kernel_rfl))⟩
 f28:=func223.trans (congrArg some (by kernel_rfl))
 f29:=func224.trans (congrArg some (by kernel_rfl))
 f46:=⟨f259.name,by decide,func259.trans (congrArg some (by kernel_rfl))⟩
 f47:=func260.trans (congrArg some (by kernel_rfl))
 f48:=func261.trans (congrArg some (by kernel_rfl))
 f49:=⟨f262.name,by decide,func262.trans (congrArg some (by kernel_rfl))⟩
 f50:=⟨f263.name,by decide,func263.trans (congrArg some (by kernel_rfl))⟩
 f57:=⟨f291.name,by decide,func291.trans (congrArg some (by kernel_rfl))⟩
 t0:=underlying0
 a0:=isAgg0
 z0:=sizeOf0
 v0:=zeroValue0
 t3:=underlying3
 a3:=isAgg3
 z3:=sizeOf3
 v3:=zeroValue3
 t4:=underlying4
 a4:=isAgg4
 z4:=sizeOf4
 v4:=zeroValue4
 t5:=underlying5
 a5:=isAgg5
 z5:=sizeOf5
 v5:=zeroValue5
 t9:=underlying9
 a9:=isAgg9
 z9:=sizeOf9
 v9:=zeroValue9
 t22:=underlying28
 a22:=isAgg28
 z22:=sizeOf28
 v22:=zeroValue28
 t25:=underlying113
 a25:=isAgg113
 z25:=sizeOf113
 v25:=zeroValue113
 t39:=underlying253
 a39:=isAgg253
 z39:=sizeOf253
 v39:=zeroValue253
 t45:=underlying300
 a45:=isAgg300
 z45:=sizeOf300
 v45:=zeroValue300
 t46:=underlying301
 a46:=isAgg301
 z46:=sizeOf301
 v46:=zeroValue301
 t50:=underlying234
 a50:=isAgg234
 z50:=sizeOf234
 v50:=zeroValue234
 t53:=underlying307
 a53:=isAgg307
 z53:=sizeOf307
 v53:=zeroValue307
 t55:=underlying309
 a55:=isAgg309
 z55:=sizeOf309
 v55:=zeroValue309
 t66:=underlying337
 a66:=isAgg337
 z66:=sizeOf337
 v66:=zeroValue337
 t70:=underlying341
 a70:=isAgg341
 z70:=sizeOf341
 v70:=zeroValue341
 t76:=underlying362
 a76:=isAgg362
 z76:=sizeOf362
 v76:=zeroValue362
 t77:=underlying289
 a77:=isAgg289
 z77:=sizeOf289
 v77:=zeroValue289}
def zyB(a b:Part):Int:=orI [zh1 a.kind.1 b.kind.1,zsi a.name.1 b.name.1]
def zy2(a b:Str):Int:=zsi a.1 b.1
theorem zwE(a b:Str):zsi a.1 b.1<0↔ltS a b=true:=by
 unfold zsi ltS
 repeat' split
 all_goals simp_all
theorem zoY(a b:Str):zsi a.1 b.1=0↔a=b:=by
 unfold zsi;constructor
 ·intro h;split at h
  ·cases h
  split at h
  ·cases h
  ·rename_i h1 h2;simp only[Bool.not_eq_true',Bool.not_eq_false,Bool.or_eq_true,beq_iff_eq]at h1 h2;rcases h2 with h2 | h2
   ·exact absurd h2 h1
   ·exact toList_inj h2
 ·rintro rfl;have:=zsd a.1.toList;simp[this]
theorem zwF(a b:Part):zyB a b<0↔ltP a b=true:=by
 unfold zyB orI zh1 ltP;have h1:=zwE a.name b.name;rcases Int.lt_trichotomy a.kind.1 b.kind.1 with h | h | h
 ·have:a.kind.1≠b.kind.1:=by omega
  simp[h]
 ·rw[h];simp only[Int.lt_irrefl,if_false,decide_false,Bool.false_or,decide_true,Bool.true_and];rw[<-h1];by_cases h0:zsi a.name.1 b.name.1=0
  ·simp[h0]
  ·simp[h0]
 ·have h2: ¬a.kind.1<b.kind.1:=by omega
  have h3: ¬a.kind.1=b.kind.1:=by omega
  simp[h,h2,h3]
theorem swoP{α:Type}(f:α->Part):SWO (ltOf fun a b=>zyB (f a) (f b)):=by
 have e: ∀a b,ltOf (fun a b=>zyB (f a) (f b)) a b=ltP (f a) (f b):=fun a b=>by
  unfold ltOf;rw[Bool.eq_iff_iff,decide_eq_true_eq]; exact zwF _ _
 refine{irrefl:=fun a=>by rw[e]; exact zuJ.irr _,trans:=fun a b c h1 h2=>by rw[e]at*; exact zuJ.tr _ _ _ h1 h2,ntrans:=fun a b c h1 h2=> ?_};rw[e]at*;cases h:ltP (f a) (f c)with
 | false=>rfl
 | true=>
  cases hb:ltP (f b) (f a)with
  | true=>rw[zuJ.tr _ _ _ hb h]at h2; cases h2
  | false=>have:=zuJ.conn _ _ h1 hb; rw[this,h2]at h; cases h
theorem swoN{α:Type}(f:α->Str):SWO (ltOf fun a b=>zy2 (f a) (f b)):=by
 have e: ∀a b,ltOf (fun a b=>zy2 (f a) (f b)) a b=ltS (f a) (f b):=fun a b=>by
  unfold ltOf;rw[Bool.eq_iff_iff,decide_eq_true_eq]; exact zwE _ _
 refine{irrefl:=fun a=>by rw[e]; exact zrt.irr _,trans:=fun a b c h1 h2=>by rw[e]at*; exact zrt.tr _ _ _ h1 h2,ntrans:=fun a b c h1 h2=> ?_};rw[e]at*;cases h:ltS (f a) (f c)with
 | false=>rfl
 | true=>
  cases hb:ltS (f b) (f a)with
  | true=>rw[zrt.tr _ _ _ hb h]at h2; cases h2
  | false=>have:=zrt.conn _ _ h1 hb; rw[this,h2]at h; cases h
theorem sortI_c(l:List Item)(hl:l.length<4611686018427387904):FnL prog 130 [.ar 0 l.length,.d (.clo (.func 53) [] [])] [(0,.arr 64 35 .flat (l.map zaK))]
  (fun V ol new=>V= .tup []/\(∃l':List Item,l.Perm l'/\(l'.Pairwise fun x y=> ¬zyB (zbg y) (zbg x)<0)/\ol=[(0,.arr 64 35 .flat (l'.map zaK))])/\new=[]):=by
 refine zxH sortItem zaK zbg zyB 35 (by omega) (fun x=>by simp[zaK,zgL,zb6,zib]) (fun x d hd=> ?_) isAgg64 sizeOf64 swoP 53 (fun bs w=>call53 bs w) (fun bs w=>call130 bs w) (fun W F x y ra rb h1 h2 w=> ?_) l hl
 ·simp only[zaK,zgL,zb6,zib,eI,eS,ziG,zel,List.cons_append,List.nil_append,List.mem_cons,List.not_mem_nil,or_false]at hd
  repeat' (rcases hd with rfl | hd)
  all_goals (try subst hd)
  all_goals simp[D.one,Value.oneCell']
 ·have l1:=zav.length _ _ h1;have l2:=zav.length _ _ h2;have e35: ∀x:Item,(zaK x).length =35:=fun x=>by simp[zaK,zgL,zb6,zib]
  rw[e35]at l1 l2;have g: ∀(x:Item) (r:List Value),zav W F (zaK x) r->r[0]? =some (.int .i64 x.kind.1)/\r[1]? =some (.string x.name.1):=fun x r h=>by
   unfold zaK at h;simp only[eI,eS,zav,Aw.Rd]at h;obtain⟨v,r1,rfl,rfl,v2,r2,rfl,rfl,_⟩:=h;exact⟨rfl,rfl⟩
  obtain⟨p1,p2⟩:=g x ra h1;obtain⟨q1,q2⟩:=g y rb h2;exact item_w ra.toArray rb.toArray (by simpa using l1) (by simpa using l2) x.kind.1 y.kind.1 x.name.1 y.name.1 (by simpa using p1) (by simpa using p2) (by simpa using q1) (by simpa using q2) w
theorem sortM_c(l:List Module)(hl:l.length<4611686018427387904):FnL prog 127 [.ar 0 l.length,.d (.clo (.func 57) [] [])] [(0,.arr 53 4 .flat (l.map zaC))]
  (fun V ol new=>V= .tup []/\(∃l':List Module,l.Perm l'/\(l'.Pairwise fun x y=> ¬zy2 y.name x.name<0)/\ol=[(0,.arr 53 4 .flat (l'.map zaC))])/\new=[]):=by
 refine zxH sortMod zaC Module.name zy2 4 (by omega) (fun x=>rfl) (fun x d hd=> ?_) isAgg53 sizeOf53 swoN 57 (fun bs w=>call57 bs w) (fun bs w=>call127 bs w) (fun W F x y ra rb h1 h2 w=> ?_) l hl
 ·simp only[zaC,eS,zd5,zbR,List.mem_cons,List.not_mem_nil,or_false]at hd;rcases hd with rfl | rfl | rfl | rfl
  all_goals simp[D.one,Value.oneCell']
 ·have l1:=zav.length _ _ h1;have l2:=zav.length _ _ h2;have g: ∀(x:Module) (r:List Value),zav W F (zaC x) r->r[0]? =some (.string x.name.1):=fun x r h=>by
   unfold zaC at h;simp only[eS,zav,Aw.Rd]at h;obtain⟨v,r1,rfl,rfl,_⟩:=h;rfl
  exact name_w ra.toArray rb.toArray (by simpa [zaC]using l1) (by simpa [zaC]using l2) x.name.1 y.name.1 (by simpa using g x ra h1) (by simpa using g y rb h2) w
end
end Go.Proofs.YtbenhdgpogiadaaGreat
