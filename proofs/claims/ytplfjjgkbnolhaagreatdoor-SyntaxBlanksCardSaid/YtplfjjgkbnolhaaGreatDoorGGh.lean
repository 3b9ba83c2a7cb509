/- Machinery. Conditions: those of each. -/
import Derived.Test.YtplfjjgkbnolhaaGreatDoorGI
set_option linter.unusedSimpArgs false
set_option linter.unusedVariables false
/-
 FUNCTIONS WHOSE BOXES STAY: boxes that are handed over and are named by no pinned argument stay where they are, which a ghost object remembers.
 Conditions: those of AwH and AwI; nothing handed over names the ghost.
-/
namespace Go.Aw
open Go.RowKit

def retGK(P:Program)(rs:Array ResultVar)(pins:List Nat)(args:List AV)(Oi:zbI)(Post:AV->zbI->List Nat->Prop)(G:Nat)(ks:List Nat)(gs:List Value):Exit->St->Prop:=fun e σ=>
 match e with
 | .ret | .normal => ∃l new,match zHj P σ l rs.toList with
  | some (vc,xs)=>vc/\Post (ztO xs) (drop σ.objs l) new/\(∀i∈new,Oi i=none/\ ∀lim fam stop l rest,σ.objs i≠some (.ext lim fam stop l rest))/\
    ∀j o',drop σ.objs l j=some o'->j∈new\/(∃o u x,Oi j=some o/\u∈pins/\args[u]? =some x/\x.handle=some j/\σ.tmps u=x/\zht x o o')\/
     (j∈ks/\σ.objs G=some (.gh (ks.map fun i=>.bp i 0) gs)/\(∃cs,Oi j=some (.box cs))/\ ∃cs,o'= .box cs)
  | none=>False
 | _=>False

theorem ghost_rel{O:zbI}{W:World}{F:Nat->Prop}{η η':Nat->Value}: ∀ {ks:List Nat},(∀j∈ks,zaL O W F η' (.bp j 0) (η j))->zaN O W F η' (ks.map fun i=>.bp i 0) (ks.map η)
 | [],_=>by simp only[List.map_nil,zaN]
 | k::ks,h=>by
  simp only[List.map_cons,zaN];exact⟨_,_,rfl,h k (by simp),ghost_rel fun j hj=>h j (by simp[hj])⟩
theorem Mem.ghost{c:Ctx}{O:zbI}{W:World}{F:Nat->Prop}{η:Nat->Value}{S:Nat->List Nat}(hm:Mem c O W F η S){G:Nat}{ks:List Nat}(hks: ∀j∈ks,∃cs,O j=some (.box cs))(hG0:O G=none)(hG: ∀id o,O id=some o->o.noRef [G]):
  Mem c (upd O G (some (.gh (ks.map fun i=>.bp i 0) (ks.map η)))) W F η S/\za7 O (upd O G (some (.gh (ks.map fun i=>.bp i 0) (ks.map η)))) η η [G]:=by
 have hkp:za7 O (upd O G (some (.gh (ks.map fun i=>.bp i 0) (ks.map η)))) η η [G]:=by
  intro id o' ho;unfold upd at ho;split at ho
  ·rename_i e; left; simp[e]
  ·rcases za7.refl O η id o' ho with h | h
   ·cases h
   ·exact .inr h
 have hF: ∀b,F b->F b/\W.heap[b]? =W.heap[b]? :=fun b hb=>⟨hb,rfl⟩;have hold: ∀id o,upd O G (some (.gh (ks.map fun i=>.bp i 0) (ks.map η))) id=some o->(id=G/\o= .gh (ks.map fun i=>.bp i 0) (ks.map η))\/(id≠G/\O id=some o):=by
  intro id o ho;unfold upd at ho;split at ho
  ·rename_i e; exact .inl ⟨e,(Option.some.inj ho).symm⟩
  ·rename_i e; exact .inr ⟨e,ho⟩
 refine⟨⟨hm.os,hm.tape,hm.output,hm.size,hm.old,hm.f0,hm.flt,hm.fold,?_,?_,hm.apart,hm.sep,hm.nd,hm.hid,?_,hm.zd⟩,hkp⟩
 ·intro id o ho;rcases hold id o ho with⟨rfl,rfl⟩ | ⟨_,h⟩
  ·refine⟨⟨hm.gone _ hG0,fun b cells hv=> ?_⟩,ghost_rel fun j _=> ?_⟩
   ·obtain⟨j,hj,he⟩:=List.mem_map.1 hv;obtain⟨cs,hcs⟩:=hks j hj;obtain⟨b',cur,e,h1,_⟩:=hm.obj j _ hcs;rw[h1]at he;cases he
   simp only[zaL];intro cs hcs;rcases hold j _ hcs with⟨_,h⟩ | ⟨_,h⟩
   ·cases h
   ·obtain⟨b,cur,e,h1,_⟩:=hm.obj j _ h;exact⟨b,h1,h1⟩
  ·refine zj1.mono hkp hF (hG id o h) (fun _ _=>rfl) (fun lim fam stop l rest _=> ?_) (hm.obj id o h);exact⟨rfl,rfl,rfl,Nat.le_refl _,hF,fun _ _=>rfl,fun b hb=>(hm.apart _ b hb).1,hm.flt,fun _ _=>rfl,fun b hb _=>hb⟩
 ·intro id ho;unfold upd at ho;split at ho
  ·cases ho
  ·exact hm.gone id ho
 ·intro id lim fam stop l rest ho;rcases hold id _ ho with⟨_,h⟩ | ⟨_,h⟩
  ·cases h
  ·exact hm.lim id _ _ _ _ _ h

def kpOne(os:OL)(G:Nat)(ks:List Nat)(gs:List Value)(j:Nat)(o':AO)(o:OL):Prop:=
 j∈ks/\(match om os j,o' with | some (.box _),.box _=>True | _,_=>False)/\om o G=some (.gh (ks.map fun i=>.bp i 0) gs)
def hdK(args:List AV)(pins:List Nat)(os:OL)(t:TL)(new:List Nat)(G:Nat)(ks:List Nat)(gs:List Value)(oe:OL):OL->Prop
 | []=>True
 | (j,o')::r=>(j∈new\/(match om os j with | some oi=>hdOne args t j oi o' pins | none=>False)\/kpOne os G ks gs j o' oe)/\hdK args pins os t new G ks gs oe r
noncomputable def eRetK(P:Program)(rs:Array ResultVar)(pins:List Nat)(args:List AV)(os:OL)(PL:AV->OL->List Nat->Prop)(G:Nat)(ks:List Nat)(gs:List Value)(l new:List Nat)(r:Option (Prop×List AV))(t:TL)(o:OL):Prop:=
 match r with
 | some (vc,xs)=>vc/\PL (ztO xs) (zdb l o) new/\zIp new os o/\hdK args pins os t new G ks gs o (zdb l o)
 | none=>False
def ERetK(P:Program)(rs:Array ResultVar)(pins:List Nat)(args:List AV)(os:OL)(PL:AV->OL->List Nat->Prop)(G:Nat)(ks:List Nat)(gs:List Value)(t:TL)(o:OL):Prop:=
 ∃l new,eRetK P rs pins args os PL G ks gs l new (zHj P ⟨tm t,om o⟩ l rs.toList) t o
noncomputable def retKE(P:Program)(rs:Array ResultVar)(pins:List Nat)(args:List AV)(os:OL)(PL:AV->OL->List Nat->Prop)(G:Nat)(ks:List Nat)(gs:List Value):EQ
 | .ret,t,o=>ERetK P rs pins args os PL G ks gs t o
 | .normal,t,o=>ERetK P rs pins args os PL G ks gs t o
 | _,_,_=>False
theorem zyN{G:Nat}{x:AO}{os:OL}:om ((G,x)::os)=upd (om os) G (some x):=by
 funext j;simp only[om,upd]
def zyk(G:Nat):OL->Prop
 | []=>True
 | (i,x)::r=>(i≠G/\x.noRef [G])/\zyk G r
theorem zyr{G:Nat}: ∀ {os:OL},zyk G os->om os G=none/\ ∀id o,om os id=some o->o.noRef [G]
 | [],_=>⟨rfl,fun _ _ h=>by simp[om]at h⟩
 | (i,x)::r,h=>by
  obtain⟨⟨h1,h2⟩,h3⟩:=h;obtain⟨h4,h5⟩:=zyr h3;refine⟨by simp only[om]; rw[if_neg (Ne.symm h1)]; exact h4,fun id o ho=> ?_⟩;simp only[om]at ho;split at ho
  ·cases ho; exact h2
  ·exact h5 id o ho
end Go.Aw
