/- Machinery. Conditions: those of each. -/
import Derived.Test.YtplfjjgkbnolhaaGreatDoorGI
set_option linter.unusedSimpArgs false
set_option linter.unusedVariables false
/-
 FUNCTIONS WHOSE BOXES STAY: boxes that are handed over and are named by no pinned argument stay where they are, which a ghost object remembers.
 Conditions: those of AwH and AwI; nothing handed over names the ghost.
-/
namespace Go.Aw
open Go.RowKit

def retGK(P:Program)(rs:Array ResultVar)(pins:List Nat)(args:List AV)(Oi:Objs)(Post:AV→Objs→List Nat→Prop)(G:Nat)(ks:List Nat)(gs:List Value):Exit→St→Prop:=fun e σ=>
 match e with
 | .ret | .normal => ∃l new,match resG P σ l rs.toList with
  | some (vc,xs)=>vc∧Post (packG xs) (drop σ.objs l) new∧(∀i∈new,Oi i=none∧ ∀lim fam stop l rest,σ.objs i≠some (.ext lim fam stop l rest))∧
    ∀j o',drop σ.objs l j=some o'→j∈new∨(∃o u x,Oi j=some o∧u∈pins∧args[u]? =some x∧x.handle=some j∧σ.tmps u=x∧sameKind x o o')∨
     (j∈ks∧σ.objs G=some (.gh (ks.map fun i=>.bp i 0) gs)∧(∃cs,Oi j=some (.box cs))∧ ∃cs,o'= .box cs)
  | none=>False
 | _=>False

theorem ghost_rel{O:Objs}{W:World}{F:Nat→Prop}{η η':Nat→Value}: ∀ {ks:List Nat},(∀j∈ks,RelV O W F η' (.bp j 0) (η j))→RelVs O W F η' (ks.map fun i=>.bp i 0) (ks.map η)
 | [],_=>by simp only[List.map_nil,RelVs]
 | k::ks,h=>by
  simp only[List.map_cons,RelVs];exact⟨_,_,rfl,h k (by simp),ghost_rel fun j hj=>h j (by simp[hj])⟩
theorem ghost_rel'{O:Objs}{W:World}{F:Nat→Prop}{η η':Nat→Value}: ∀ {ks:List Nat},RelVs O W F η' (ks.map fun i=>.bp i 0) (ks.map η)→ ∀j∈ks,RelV O W F η' (.bp j 0) (η j)
 | [],_,_,hj=>by cases hj
 | k::ks,h,j,hj=>by
  simp only[List.map_cons,RelVs]at h;obtain⟨v,rest,h1,h2,h3⟩:=h;obtain⟨rfl,rfl⟩:=List.cons.inj h1;rcases List.mem_cons.1 hj with rfl | hj
  ·exact h2
  ·exact ghost_rel' h3 j hj

theorem Mem.ghost{c:Ctx}{O:Objs}{W:World}{F:Nat→Prop}{η:Nat→Value}{S:Nat→List Nat}(hm:Mem c O W F η S){G:Nat}{ks:List Nat}(hG0:O G=none)(hG: ∀id o,O id=some o→o.noRef [G]):
  Mem c (upd O G (some (.gh (ks.map fun i=>.bp i 0) (ks.map η)))) W F η S∧Keeps O (upd O G (some (.gh (ks.map fun i=>.bp i 0) (ks.map η)))) η η [G]:=by
 have hkp:Keeps O (upd O G (some (.gh (ks.map fun i=>.bp i 0) (ks.map η)))) η η [G]:=by
  intro id o' ho;unfold upd at ho;split at ho
  ·rename_i e; left; simp[e]
  ·rcases Keeps.refl O η id o' ho with h | h
   ·cases h
   ·exact .inr h
 have hF: ∀b,F b→F b∧W.heap[b]? =W.heap[b]? :=fun b hb=>⟨hb,rfl⟩;have hold: ∀id o,upd O G (some (.gh (ks.map fun i=>.bp i 0) (ks.map η))) id=some o→(id=G∧o= .gh (ks.map fun i=>.bp i 0) (ks.map η))∨(id≠G∧O id=some o):=by
  intro id o ho;unfold upd at ho;split at ho
  ·rename_i e; exact .inl ⟨e,(Option.some.inj ho).symm⟩
  ·rename_i e; exact .inr ⟨e,ho⟩
 refine⟨⟨hm.os,hm.tape,hm.output,hm.size,hm.old,hm.f0,hm.flt,hm.fold,?_,?_,hm.apart,hm.sep,hm.nd,hm.hid,?_,hm.zd⟩,hkp⟩
 ·intro id o ho;rcases hold id o ho with⟨rfl,rfl⟩ | ⟨_,h⟩
  ·refine⟨hm.gone _ hG0,ghost_rel fun j _=> ?_⟩;simp only[RelV];intro cs hcs;rcases hold j _ hcs with⟨_,h⟩ | ⟨_,h⟩
   ·cases h
   ·obtain⟨b,cur,e,h1,_⟩:=hm.obj j _ h;exact⟨b,h1,h1⟩
  ·refine RelO.mono hkp hF (hG id o h) (fun _ _=>rfl) (fun lim fam stop l rest _=> ?_) (hm.obj id o h);exact⟨rfl,rfl,rfl,Nat.le_refl _,hF,fun _ _=>rfl,fun b hb=>(hm.apart _ b hb).1,hm.flt,fun _ _=>rfl,fun b hb _=>hb⟩
 ·intro id ho;unfold upd at ho;split at ho
  ·cases ho
  ·exact hm.gone id ho
 ·intro id lim fam stop l rest ho;rcases hold id _ ho with⟨_,h⟩ | ⟨_,h⟩
  ·cases h
  ·exact hm.lim id _ _ _ _ _ h

def kpOne(os:OL)(G:Nat)(ks:List Nat)(gs:List Value)(j:Nat)(o':AO)(o:OL):Prop:=
 j∈ks∧(match om os j,o' with | some (.box _),.box _=>True | _,_=>False)∧om o G=some (.gh (ks.map fun i=>.bp i 0) gs)
def hdK(args:List AV)(pins:List Nat)(os:OL)(t:TL)(new:List Nat)(G:Nat)(ks:List Nat)(gs:List Value)(oe:OL):OL→Prop
 | []=>True
 | (j,o')::r=>(j∈new∨(match om os j with | some oi=>hdOne args t j oi o' pins | none=>False)∨kpOne os G ks gs j o' oe)∧hdK args pins os t new G ks gs oe r
noncomputable def eRetK(P:Program)(rs:Array ResultVar)(pins:List Nat)(args:List AV)(os:OL)(PL:AV→OL→List Nat→Prop)(G:Nat)(ks:List Nat)(gs:List Value)(l new:List Nat)(r:Option (Prop×List AV))(t:TL)(o:OL):Prop:=
 match r with
 | some (vc,xs)=>vc∧PL (packG xs) (dropO l o) new∧newOk new os o∧hdK args pins os t new G ks gs o (dropO l o)
 | none=>False
def ERetK(P:Program)(rs:Array ResultVar)(pins:List Nat)(args:List AV)(os:OL)(PL:AV→OL→List Nat→Prop)(G:Nat)(ks:List Nat)(gs:List Value)(t:TL)(o:OL):Prop:=
 ∃l new,eRetK P rs pins args os PL G ks gs l new (resG P ⟨tm t,om o⟩ l rs.toList) t o
noncomputable def retKE(P:Program)(rs:Array ResultVar)(pins:List Nat)(args:List AV)(os:OL)(PL:AV→OL→List Nat→Prop)(G:Nat)(ks:List Nat)(gs:List Value):EQ
 | .ret,t,o=>ERetK P rs pins args os PL G ks gs t o
 | .normal,t,o=>ERetK P rs pins args os PL G ks gs t o
 | _,_,_=>False
theorem hdK_ok{args:List AV}{pins:List Nat}{os:OL}{t:TL}{new:List Nat}{G:Nat}{ks:List Nat}{gs:List Value}{oe:OL}: ∀ {ol:OL},hdK args pins os t new G ks gs oe ol→ ∀j o',om ol j=some o'→
  j∈new∨(∃o u x,om os j=some o∧u∈pins∧args[u]? =some x∧x.handle=some j∧tm t u=x∧sameKind x o o')∨(j∈ks∧om oe G=some (.gh (ks.map fun i=>.bp i 0) gs)∧(∃cs,om os j=some (.box cs))∧ ∃cs,o'= .box cs)
 | [],_,j,o',h=>by simp[om]at h
 | (k,y)::r,h,j,o',ho=>by
  simp only[hdK]at h;simp only[om]at ho;split at ho
  ·rename_i e;cases ho;subst e;rcases h.1 with h1 | h1 | ⟨h1,h2,h3⟩
   ·exact .inl h1
   ·split at h1
    ·rename_i oi hoi;obtain⟨u,x,h2⟩:=hdOne_ok h1;exact .inr (.inl ⟨oi,u,x,hoi,h2⟩)
    ·exact h1.elim
   ·split at h2
    ·rename_i cs cs' hoi;exact .inr (.inr ⟨h1,h3,⟨_,hoi⟩,_,rfl⟩)
    ·exact h2.elim
  ·exact hdK_ok h.2 j o' ho
theorem om_cons_upd{G:Nat}{x:AO}{os:OL}:om ((G,x)::os)=upd (om os) G (some x):=by
 funext j;simp only[om,upd]
def freeO(G:Nat):OL→Prop
 | []=>True
 | (i,x)::r=>(i≠G∧x.noRef [G])∧freeO G r
theorem freeO_ok{G:Nat}: ∀ {os:OL},freeO G os→om os G=none∧ ∀id o,om os id=some o→o.noRef [G]
 | [],_=>⟨rfl,fun _ _ h=>by simp[om]at h⟩
 | (i,x)::r,h=>by
  obtain⟨⟨h1,h2⟩,h3⟩:=h;obtain⟨h4,h5⟩:=freeO_ok h3;refine⟨by simp only[om]; rw[if_neg (Ne.symm h1)]; exact h4,fun id o ho=> ?_⟩;simp only[om]at ho;split at ho
  ·cases ho; exact h2
  ·exact h5 id o ho
end Go.Aw
