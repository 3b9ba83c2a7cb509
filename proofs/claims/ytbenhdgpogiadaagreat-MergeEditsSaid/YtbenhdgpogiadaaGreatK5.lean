/- Contracts and laws. Conditions: those of each. -/
import Derived.Test.YtbenhdgpogiadaaGreatK2
set_option linter.unusedSimpArgs false
set_option linter.unusedVariables false
open List renaming length_map -> waa
open Nat renaming lt_or_ge -> wab
namespace Go.Proofs.YtbenhdgpogiadaaGreat
open Go.Aw
open Tryz
set_option maxRecDepth 100000
set_option maxHeartbeats 20000000
theorem zrR: ∀(n:Nat) (a b:Expr),sz a<n->FnP prog 124 [.agg (zbx a),.agg (zbx b)] (.d (eB (zil a b))) []
 | 0,_,_,h=>by omega
 | n+1,.mk o m k w a,.mk o' m' k' w' a',hn=>by
  refine FnP.of_eC (own:=[]) (fun i=>if i=2001 then [.chn]else []) zat func124 rfl call124 ntmps124 (zle rfl) results124 (fun hok=> ?_);have hla:a.length<=9223372036854775807:=expr_lens (.mk o m k w a) (zaM hok).1;have hs:(a.map sz).sum <n:=by rw[zec]at hn; omega
  have ec: ∀i (h:i<a.length) (h':i<a'.length),FnP prog 124 [.agg (zbx a[i]),.agg (zbx a'[i])] (.d (eB (zil a[i] a'[i]))) []:=fun i h h'=>zrR n a[i] a'[i] (by have:=zuv (List.getElem_mem h); omega);have hS:zil (.mk o m k w a) (.mk o' m' k' w' a')=((o==o'&&decide (m=m')&&decide (k=k')&&decide (w=w'))&&zjF a a'):=by rw[zil]
  rw[hS,<-eqL_E];have k1:=zhX k k';have k2:=zhX w w';obtain⟨c,hc⟩:=zX ((o==o'&&decide (m=m')&&decide (k=k')&&decide (w=w')));have hg:((((o !=o'|| !decide (m=m'))|| !decide (k=k'))|| !decide (w=w'))||((a.length:Int) !=(a'.length:Int)))= !(c&&((a.length:Int)==(a'.length:Int))):=by
   rw[<-hc];simp only[bne,Bool.not_and]
  rw[hc];rcases Bool.eq_false_or_eq_true (c&&((a.length:Int)==(a'.length:Int)))with hcl | hcl
  ·rw[hcl]at hg;obtain⟨hc1,hab'⟩:=Bool.and_eq_true_iff.1 hcl;have hab:a.length=a'.length:=by have:=beq_iff_eq.1 hab'; omega
   rw[hc1,Bool.true_and];simp only[ZE,seval,zcW,zbm,zgN,zgO,zbl,k1,k2,hg,waa];refine za1 (fun _=>[]) zat a.length (fun i=> ∀j (h:j<a.length) (h':j<a'.length),j<i->zil a[j] a'[j]=true) (fun i=>([(2,.bp 2 0),(3,.bp 3 0),(5,.d (eI i))],[(2,.box ((zbx (.mk o m k w a)).map .d)),(3,.box ((zbx (.mk o' m' k' w' a')).map .d))])) (by intro j _ _ h; omega) (by simp only[ZE,seval]) (by simp only[ZE,seval,zcW,zbm,zgN,zgO,zbl]) (fun i hi hI=> ?_);rcases wab i a.length with h | h
   ·have hw:=zaq (show i<9223372036854775807 by omega);have h':i<a'.length:=(by omega);have hc:=ec i h h';obtain⟨q,hq⟩:=zX (zil a[i] a'[i]);rw[hq]at hc;simp only[ZE,seval]at hc;simp only[ZE,seval,zaw h,zaa h,zai h,zaa h',zai h',hw,zN,waa,zcW,zbm,zgN,zgO,zbl];refine⟨by kernel_rfl,zaz.i hc ?_⟩;cases q with
    | true=>
     simp only[ZE,seval,zN,hw];refine⟨h,fun j h1 h2 hj=> ?_⟩;rcases Nat.lt_succ_iff_lt_or_eq.1 hj with hj | rfl
     ·exact hI j h1 h2 hj
     ·exact hq
    | false=>
     have e:=zgt h h' hq;simp only[ZE,seval,zN,e]
   ·have:i=a.length:=(by omega);subst this;have e:=zeC hab (fun i h1 h2=>hI i h1 h2 h1);simp only[ZE,seval,zaI h,zN,e,waa,zcW,zbm,zgN,zgO,zbl]
  ·rw[hcl]at hg;have e:(c&&eqL zil a a')=false:=by
    cases c with
    | false=>rfl
    | true=>
     rw[Bool.true_and]at hcl ⊢;exact zgu (fun e=>by rw[e]at hcl; simp at hcl)
   rw[e];simp only[ZE,seval,zcW,zbm,zgN,zgO,zbl,k1,k2,hg,waa]
set_option maxHeartbeats 40000000
theorem rsameH_c(m n:Module):FnP prog 74 [.agg (zaC m),.agg (zaC n)] (.d (eB (zug m n))) []:=by
 refine FnP.of_eC (own:=[]) (fun i=>if i=2001 then [.chn]else []) zat func74 rfl call74 ntmps74 (zle rfl) results74 (fun hok=> ?_);have hla:m.params.length<=9223372036854775807:=by
  have:=(zaM hok).1;simp only[zaC,zd5,D.ok,D.okL]at this;exact(za9 this.2.2.1).1
 have hS:zug m n=((decide (m.name=n.name)&&decide (m.clock=n.clock))&&eqL (fun x y:Str=>decide (x=y)) m.params n.params):=by unfold zug; rw[zoc]
 rw[hS];obtain⟨c,hc⟩:=zX ((decide (m.name=n.name)&&decide (m.clock=n.clock)));have hg:((!decide (m.name=n.name)|| !decide (m.clock=n.clock))||((m.params.length:Int) !=(n.params.length:Int)))= !(c&&((m.params.length:Int)==(n.params.length:Int))):=by
  rw[<-hc];simp only[bne,Bool.not_and]
 rw[hc];rcases Bool.eq_false_or_eq_true (c&&((m.params.length:Int)==(n.params.length:Int)))with hcl | hcl
 ·rw[hcl]at hg;obtain⟨hc1,hab'⟩:=Bool.and_eq_true_iff.1 hcl;have hab:m.params.length=n.params.length:=by have:=beq_iff_eq.1 hab'; omega
  rw[hc1,Bool.true_and];simp only[ZE,seval,hg,waa];refine za1 (fun _=>[]) zat m.params.length (fun i=> ∀j (h:j<m.params.length) (h':j<n.params.length),j<i->decide (m.params[j]=n.params[j])=true) (fun i=>([(2,.bp 2 0),(3,.bp 3 0),(5,.d (eI i))],[(2,.box ((zaC m).map .d)),(3,.box ((zaC n).map .d))])) (by intro j _ _ h; omega) (by simp only[ZE,seval]) (by simp only[ZE,seval]) (fun i hi hI=> ?_);rcases wab i m.params.length with h | h
  ·have hw:=zaq (show i<9223372036854775807 by omega);have h':i<n.params.length:=by omega
   obtain⟨q,hq⟩:=zX (decide (m.params[i]=n.params[i]));simp only[ZE,seval,zaw h,zaa h,zai h,zaa h',zai h',hw,zN,waa,hq];refine⟨by kernel_rfl,?_⟩;cases q with
   | true=>
    simp only[ZE,seval];refine⟨h,fun j h1 h2 hj=> ?_⟩;rcases Nat.lt_succ_iff_lt_or_eq.1 hj with hj | rfl
    ·exact hI j h1 h2 hj
    ·exact hq
   | false=>
    have e:=zgt (p:=fun x y:Str=>decide (x=y)) h h' hq;simp only[ZE,seval,e]
  ·have:i=m.params.length:=by omega
   subst this;have e:=zeC (p:=fun x y:Str=>decide (x=y)) hab (fun i h1 h2=>hI i h1 h2 h1);simp only[ZE,seval,zaI h,zN,e,waa]
 ·rw[hcl]at hg;have e:(c&&eqL (fun x y:Str=>decide (x=y)) m.params n.params)=false:=by
   cases c with
   | false=>rfl
   | true=>
    rw[Bool.true_and]at hcl ⊢;exact zgu (fun e=>by rw[e]at hcl; simp at hcl)
  rw[e];simp only[ZE,seval,hg,waa]
def headB(x y:Item):Bool:=x.kind.1==y.kind.1&&decide (x.name=y.name)&&decide (x.width=y.width)&&decide (x.depth=y.depth)&&decide (x.init=y.init)&&decide (x.rule=y.rule)&&decide (x.of=y.of)
theorem sameI_head(x y:Item):zlG x y=(headB x y&&(eqL (fun a b:Num=>decide (a=b)) x.args y.args&&eqL (fun a b:Bind=>decide (a=b)) x.ports y.ports&&(zil x.a y.a&&zil x.b y.b&&zil x.c y.c))):=by
 unfold zlG headB;rw[zoc,zoc,<-part_key];simp only[Bool.and_assoc]
theorem rsameI_c(x y:Item):FnP prog 71 [.agg (zaK x),.agg (zaK y)] (.d (eB (zlG x y))) []:=by
 refine FnP.of_eC (own:=[]) (fun i=>if i=2001 then [.chn]else if i=2013 then [.chn]else []) zat func71 rfl call71 ntmps71 (zle rfl) results71 (fun hok=> ?_);have hl:x.args.length<=9223372036854775807/\x.ports.length<=9223372036854775807:=by
  have:=(zaM hok).1;simp only[zaK,zgL,zb6,zib,ziG,zel,List.cons_append,List.nil_append,D.ok,D.okL]at this;obtain⟨_,_,_,_,_,_,_,_,_,_,_,_,_,_,_,_,_,_,_,_,_,_,_,_,_,_,_,_,_,_,_,_,_,h1,h2,_⟩:=this;exact⟨(za9 h1).1,(za9 h2).1⟩
 have c5:=zrR _ x.a y.a (Nat.lt_succ_self _);have c6:=zrR _ x.b y.b (Nat.lt_succ_self _);have c7:=zrR _ x.c y.c (Nat.lt_succ_self _);have k1:=zhX x.width y.width;have k2:=zhX x.depth y.depth;have k3:=zhX x.init y.init;have k4:(x.rule.kind==y.rule.kind&&(decide (x.rule.from'=y.rule.from')&&x.rule.n==y.rule.n))=decide (x.rule=y.rule):=by
  rw[<-Bool.and_assoc]; exact key_rule x.rule y.rule
 rw[sameI_head];obtain⟨c,hc⟩:=zX (headB x y);rw[hc];simp only[ZE,seval]at c5 c6 c7;simp(maxSteps:=4000000) only[ZE,seval,zN,k1,k2,k3,k4,waa,List.append_eq];have hb:(x.kind.1 !=y.kind.1|| !decide (x.name=y.name)|| !decide (x.width=y.width)|| !decide (x.depth=y.depth)|| !decide (x.init=y.init)|| !decide (x.rule=y.rule)|| !decide (x.of=y.of))= !c :=by
  rw[<-hc]; unfold headB; simp only[bne,Bool.not_and]
 refine zd8 (fun h3=> ?_) (fun h3=> ?_)
 ·have e:(c&&(eqL (fun a b:Num=>decide (a=b)) x.args y.args&&eqL (fun a b:Bind=>decide (a=b)) x.ports y.ports&&(zil x.a y.a&&zil x.b y.b&&zil x.c y.c)))=false:=by
   rw[hb]at h3;cases c with
   | false=>rfl
   | true=>
    simp only[Bool.not_true,Bool.false_or,Bool.or_eq_true]at h3;rcases h3 with h3 | h3
    ·rw[zgu (a:=x.args) (b:=y.args) (fun e=>by rw[e]at h3; simp at h3)]; rfl
    ·rw[zgu (a:=x.ports) (b:=y.ports) (fun e=>by rw[e]at h3; simp at h3)]; simp
  rw[e]
 ·rw[hb]at h3;simp only[Bool.or_eq_false_iff,Bool.not_eq_false',bne_eq_false_iff_eq]at h3;obtain⟨⟨hc1,ha⟩,hp⟩:=h3;have hab:x.args.length=y.args.length:=by omega
  have hpb:x.ports.length=y.ports.length:=by omega
  rw[hc1,Bool.true_and];refine za1 (fun _=>[]) zat x.args.length (fun i=> ∀j (h:j<x.args.length) (h':j<y.args.length),j<i->decide (x.args[j]=y.args[j])=true) (fun i=>([(2,.bp 2 0),(3,.bp 3 0),(5,.d (eI i))],[(2,.box ((zaK x).map .d)),(3,.box ((zaK y).map .d))])) (by intro j _ _ h; omega) (by simp only[ZE,seval]) (by simp only[ZE,seval]) (fun i hi hI=> ?_);rcases wab i x.args.length with h | h
  ·have hw:=zaq (show i<9223372036854775807 by omega);have h':i<y.args.length:=by omega
   have key:=zhX x.args[i] y.args[i];obtain⟨q,hq⟩:=zX (decide (x.args[i]=y.args[i]));rw[hq]at key;simp only[ZE,seval,zaw h,zaa h,zai h,zaa h',zai h',hw,zN,waa,key];refine⟨by kernel_rfl,?_⟩;cases q with
   | true=>
    simp only[ZE,seval];refine⟨h,fun j h1 h2 hj=> ?_⟩;rcases Nat.lt_succ_iff_lt_or_eq.1 hj with hj | rfl
    ·exact hI j h1 h2 hj
    ·exact hq
   | false=>
    have e:=zgt (p:=fun x y:Num=>decide (x=y)) h h' hq;simp only[ZE,seval,e,Bool.false_and,Bool.and_false]
  have hi2:i=x.args.length:=by omega
  subst hi2;have e1:=zeC (p:=fun x y:Num=>decide (x=y)) hab (fun i h1 h2=>hI i h1 h2 h1);rw[e1,Bool.true_and];simp only[ZE,seval,zaI h,zN,waa];refine za1 (fun _=>[]) zat x.ports.length (fun i=> ∀j (h:j<x.ports.length) (h':j<y.ports.length),j<i->decide (x.ports[j]=y.ports[j])=true) (fun i=>([(2,.bp 2 0),(3,.bp 3 0),(6,.d (eI i))],[(2,.box ((zaK x).map .d)),(3,.box ((zaK y).map .d))])) (by intro j _ _ h; omega) (by simp only[ZE,seval]) (by simp only[ZE,seval]) (fun i hi hI=> ?_);rcases wab i x.ports.length with h | h
  ·have hw:=zaq (show i<9223372036854775807 by omega);have h':i<y.ports.length:=by omega
   have key:=key_bind x.ports[i] y.ports[i];obtain⟨q,hq⟩:=zX (decide (x.ports[i]=y.ports[i]));rw[hq]at key;simp only[ZE,seval,zaw h,zaa h,zai h,zaa h',zai h',hw,zN,waa,key];refine⟨by kernel_rfl,?_⟩;cases q with
   | true=>
    simp only[ZE,seval];refine⟨h,fun j h1 h2 hj=> ?_⟩;rcases Nat.lt_succ_iff_lt_or_eq.1 hj with hj | rfl
    ·exact hI j h1 h2 hj
    ·exact hq
   | false=>
    have e:=zgt (p:=fun x y:Bind=>decide (x=y)) h h' hq;simp only[ZE,seval,e,Bool.false_and,Bool.and_false]
  have hi3:i=x.ports.length:=by omega
  subst hi3;have e2:=zeC (p:=fun x y:Bind=>decide (x=y)) hpb (fun i h1 h2=>hI i h1 h2 h1);rw[e2,Bool.true_and];simp only[ZE,seval,zaI h,zN,waa];refine EFn.p ?_;simp only[ZE,seval,zN];refine zar.i c5 ?_;simp only[ZE,seval,zN];refine za3.i (fun _=>c6) ?_;simp only[ZE,seval,zN];refine za3.i (fun _=>c7) ?_;simp only[ZE,seval,zN]
theorem rsameM_c(m n:Module):FnP prog 64 [.agg (zaC m),.agg (zaC n)] (.d (eB (zm4 m n))) []:=by
 refine FnP.of_eC (own:=[]) (fun i=>if i=2001 then [.chn]else []) zat func64 rfl call64 ntmps64 (zle rfl) results64 (fun hok=> ?_);have hla:m.items.length<=9223372036854775807:=by
  have:=(zaM hok).1;simp only[zaC,zbR,D.ok,D.okL]at this;exact(za9 this.2.2.2.1).1
 have hc:=rsameH_c m n;have ec: ∀i (h:i<m.items.length) (h':i<n.items.length),FnP prog 71 [.agg (zaK m.items[i]),.agg (zaK n.items[i])] (.d (eB (zlG m.items[i] n.items[i]))) []:=fun i h h'=>rsameI_c _ _;have hS:zm4 m n=(zug m n&&eqL zlG m.items n.items):=by unfold zm4; rw[eqL_I]
 rw[hS];obtain⟨c,hcc⟩:=zX (zug m n);rw[hcc]at hc ⊢;simp only[ZE,seval]at hc;have hg:(!c ||((m.items.length:Int) !=(n.items.length:Int)))= !(c&&((m.items.length:Int)==(n.items.length:Int))):=by
  simp only[bne,Bool.not_and]
 rcases Bool.eq_false_or_eq_true (c&&((m.items.length:Int)==(n.items.length:Int)))with hcl | hcl
 ·rw[hcl]at hg;obtain⟨hc1,hab'⟩:=Bool.and_eq_true_iff.1 hcl;have hab:m.items.length=n.items.length:=by have:=beq_iff_eq.1 hab'; omega
  subst hc1;have hn:((m.items.length:Int) !=(n.items.length:Int))=false:=by rw[hab]; simp
  rw[Bool.true_and];simp only[ZE,seval,zN];refine EFn.p ?_;simp only[ZE,seval,zN];refine zar.i hc ?_;simp only[ZE,seval,zN,hn,waa];refine za1 (fun _=>[]) zat m.items.length (fun i=> ∀j (h:j<m.items.length) (h':j<n.items.length),j<i->zlG m.items[j] n.items[j]=true) (fun i=>([(2,.bp 2 0),(3,.bp 3 0),(5,.d (eI i))],[(2,.box ((zaC m).map .d)),(3,.box ((zaC n).map .d))])) (by intro j _ _ h; omega) (by simp only[ZE,seval]) (by simp only[ZE,seval]) (fun i hi hI=> ?_);rcases wab i m.items.length with h | h
  ·have hw:=zaq (show i<9223372036854775807 by omega);have h':i<n.items.length:=by omega
   have hc:=ec i h h';obtain⟨q,hq⟩:=zX (zlG m.items[i] n.items[i]);rw[hq]at hc;simp only[ZE,seval]at hc;simp only[ZE,seval,zaw h,zaa h,zai h,zaa h',zai h',hw,zN,waa,Nat.zero_add];refine⟨by kernel_rfl,zaz.i hc ?_⟩;cases q with
   | true=>
    simp only[ZE,seval,zN,hw];refine⟨h,fun j h1 h2 hj=> ?_⟩;rcases Nat.lt_succ_iff_lt_or_eq.1 hj with hj | rfl
    ·exact hI j h1 h2 hj
    ·exact hq
   | false=>
    have e:=zgt h h' hq;simp only[ZE,seval,zN,e]
  ·have:i=m.items.length:=by omega
   subst this;have e:=zeC hab (fun i h1 h2=>hI i h1 h2 h1);simp only[ZE,seval,zaI h,zN,e,waa,Nat.zero_add]
 ·rw[hcl]at hg;have e:(c&&eqL zlG m.items n.items)=false:=by
   cases c with
   | false=>rfl
   | true=>
    rw[Bool.true_and]at hcl ⊢;exact zgu (fun e=>by rw[e]at hcl; simp at hcl)
  rw[e];simp only[ZE,seval,zN];refine EFn.p ?_;simp only[ZE,seval,zN];refine zar.i hc ?_;simp only[ZE,seval,zN,hg,waa]
theorem rsame_c(f g:List Module):FnP prog 20 [.agg [zax f],.agg [zax g]] (.d (eB (zl6 f g))) []:=by
 refine FnP.of_eC (own:=[]) (fun _=>[]) zat func20 rfl call20 ntmps20 (zle rfl) results20 (fun hok=> ?_);have hla:f.length<=9223372036854775807:=by
  have:=(zaM hok).1;simp only[D.ok,D.okL]at this;exact(za9 this.1).1
 have ec: ∀i (h:i<f.length) (h':i<g.length),FnP prog 64 [.agg (zaC f[i]),.agg (zaC g[i])] (.d (eB (zm4 f[i] g[i]))) []:=fun i h h'=>rsameM_c _ _;rw[<-eqL_M];by_cases hab:f.length=g.length
 ·have h0:((f.length:Int) !=(g.length:Int))=false:=by simp[hab]
  simp only[ZE,seval,zN,h0,waa];refine za1 (fun _=>[]) zat f.length (fun i=> ∀j (h:j<f.length) (h':j<g.length),j<i->zm4 f[j] g[j]=true) (fun i=>([(2,.bp 2 0),(3,.bp 3 0),(5,.d (eI i))],[(2,.box [.d (zax f)]),(3,.box [.d (zax g)])])) (by intro j _ _ h; omega) (by simp only[ZE,seval]) (by simp only[ZE,seval]) (fun i hi hI=> ?_);rcases wab i f.length with h | h
  ·have hw:=zaq (show i<9223372036854775807 by omega);have h':i<g.length:=by omega
   have hc:=ec i h h';obtain⟨q,hq⟩:=zX (zm4 f[i] g[i]);rw[hq]at hc;simp only[ZE,seval]at hc;simp only[ZE,seval,zaw h,zaa h,zai h,zaa h',zai h',hw,zN,waa,Nat.zero_add];refine⟨by kernel_rfl,zaz.i hc ?_⟩;cases q with
   | true=>
    simp only[ZE,seval,zN,hw];refine⟨h,fun j h1 h2 hj=> ?_⟩;rcases Nat.lt_succ_iff_lt_or_eq.1 hj with hj | rfl
    ·exact hI j h1 h2 hj
    ·exact hq
   | false=>
    have e:=zgt h h' hq;simp only[ZE,seval,zN,e]
  ·have:i=f.length:=by omega
   subst this;have e:=zeC hab (fun i h1 h2=>hI i h1 h2 h1);simp only[ZE,seval,zaI h,zN,e,waa,Nat.zero_add]
 ·have h0:((f.length:Int) !=(g.length:Int))=true:=by simp; omega
  have e:=zgu (p:=zm4) hab;simp only[ZE,seval,zN,h0,e,waa]
end Go.Proofs.YtbenhdgpogiadaaGreat
