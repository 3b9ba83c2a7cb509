/- Machinery. Conditions: those of each. -/
import Derived.Below
set_option linter.unusedSimpArgs false
set_option linter.unusedVariables false
/-
 PLAIN DATA AND HOW IT READS IN MEMORY. A datum 'D' is what a value reads as in memory that nobody writes any more; 'Rd W F d v' says that the value v reads as d in the world W by blocks of the set F alone.
 Conditions: none; definitions and ze1 laws over any world.
-/
namespace Go.Aw
open Go.RowKit

inductive D where
 | lit (v:Value)
 | sl (es:List (List D))
 | ptr (cs:List D)
 | agg (cs:List D)
 | ifc (t:TypeId) (x:D)
 | clo (f:Fn) (first cap:List D)
 | mp (ks vs:List D) (bs:List Nat) (clock:Nat)
 deriving Inhabited

def zxd(ks:List D)(bs:List Nat)(clock:Nat):Prop:=ks.Nodup/\bs.Nodup/\ ∀b∈bs,b<clock
mutual
def Rd(W:World)(F:Nat->Prop):D->Value->Prop
 | .lit v,u=>u=v
 | .sl es,u=>(∃a cap,u= .slice a es.length cap/\es.length<=cap/\(es.length≠0-> ∃b off k,a=some ⟨b,off,none⟩/\F b/\zbJ W F k es b off))/\es.length<=maxLen
 | .ptr cs,u=> ∃b off,u= .pointer (some ⟨b,off,none⟩)/\F b/\zbd W F cs b off
 | .agg cs,u=> ∃vs:List Value,u= .agg vs.toArray/\zav W F cs vs
 | .ifc t x,u=> ∃v,u= .iface t v/\Rd W F x v
 | .clo f fs cs,u=> ∃a b:List Value,u= .func f a.toArray b.toArray/\zav W F fs a/\zav W F cs b
 | .mp ks vs bs clock,u=> ∃b es,u= .map (some b)/\F b/\W.heap[b]? =some (.map es clock)/\zav W F ks (es.toList.map (·.key))/\zav W F vs (es.toList.map (·.val))/\bs=es.toList.map (·.born)/\zxd ks bs clock
def zav(W:World)(F:Nat->Prop):List D->List Value->Prop
 | [],vs=>vs=[]
 | d::ds,vs=> ∃v rest,vs=v::rest/\Rd W F d v/\zav W F ds rest
def zbd(W:World)(F:Nat->Prop):List D->Nat->Nat->Prop
 | [],_,_=>True
 | d::ds,b,off=>(∃v,W.cell? ⟨b,off,none⟩=some v/\Rd W F d v)/\zbd W F ds b (off+1)
def zbJ(W:World)(F:Nat->Prop)(k:Nat):List (List D)->Nat->Nat->Prop
 | [],_,_=>True
 | e::es,b,off=>(e.length=k/\zbd W F e b off)/\zbJ W F k es b (off+k)
end
end Go.Aw
namespace Go.Aw
open Go.RowKit
section
variable {W W':World} {F F':Nat->Prop}
mutual
theorem Rd.mono(h: ∀b,F b->F' b/\W'.heap[b]? =W.heap[b]?): ∀(d:D) (v:Value),Rd W F d v->Rd W' F' d v
 | .lit _,_,r=>r
 | .sl es,_,r=>by
  simp only[Rd]at r ⊢;obtain⟨⟨a,cap,hv,hc,hr⟩,hm⟩:=r;refine⟨⟨a,cap,hv,hc,fun hne=> ?_⟩,hm⟩;obtain⟨b,off,k,ha,hF,hrows⟩:=hr hne;exact⟨b,off,k,ha,(h b hF).1,zbJ.mono h k es b off hF hrows⟩
 | .ptr cs,_,r=>by
  simp only[Rd]at r ⊢;obtain⟨b,off,hv,hF,hc⟩:=r;exact⟨b,off,hv,(h b hF).1,zbd.mono h cs b off hF hc⟩
 | .agg cs,_,r=>by
  simp only[Rd]at r ⊢;obtain⟨vs,hv,hc⟩:=r;exact⟨vs,hv,zav.mono h cs vs hc⟩
 | .ifc t x,_,r=>by
  simp only[Rd]at r ⊢;obtain⟨v,hv,hc⟩:=r;exact⟨v,hv,Rd.mono h x v hc⟩
 | .clo f fs cs,_,r=>by
  simp only[Rd]at r ⊢;obtain⟨a,b,hv,h1,h2⟩:=r;exact⟨a,b,hv,zav.mono h fs a h1,zav.mono h cs b h2⟩
 | .mp ks vs bs clock,_,r=>by
  simp only[Rd]at r ⊢;obtain⟨b,es,hv,hF,hb,h1,h2,h3⟩:=r;exact⟨b,es,hv,(h b hF).1,((h b hF).2).trans hb,zav.mono h ks _ h1,zav.mono h vs _ h2,h3⟩
theorem zav.mono(h: ∀b,F b->F' b/\W'.heap[b]? =W.heap[b]?): ∀(ds:List D) (vs:List Value),zav W F ds vs->zav W' F' ds vs
 | [],_,r=>r
 | d::ds,_,r=>by
  simp only[zav]at r ⊢;obtain⟨v,rest,hv,h1,h2⟩:=r;exact⟨v,rest,hv,Rd.mono h d v h1,zav.mono h ds rest h2⟩
theorem zbd.mono(h: ∀b,F b->F' b/\W'.heap[b]? =W.heap[b]?): ∀(ds:List D) (b off:Nat),F b->zbd W F ds b off->zbd W' F' ds b off
 | [],_,_,_,_=>trivial
 | d::ds,b,off,hF,r=>by
  simp only[zbd]at r ⊢;obtain⟨⟨v,hv,h1⟩,h2⟩:=r;exact⟨⟨v,by rw[World.cell?_of_block (w:=W) (h b hF).2]; exact hv,Rd.mono h d v h1⟩,zbd.mono h ds b (off+1) hF h2⟩
theorem zbJ.mono(h: ∀b,F b->F' b/\W'.heap[b]? =W.heap[b]?)(k:Nat): ∀(es:List (List D)) (b off:Nat),F b->zbJ W F k es b off->zbJ W' F' k es b off
 | [],_,_,_,_=>trivial
 | e::es,b,off,hF,r=>by
  simp only[zbJ]at r ⊢;obtain⟨⟨h0,h1⟩,h2⟩:=r;exact⟨⟨h0,zbd.mono h e b off hF h1⟩,zbJ.mono h k es b (off+k) hF h2⟩
end
end
theorem zbJ.mid{W:World}{F:Nat->Prop}{b k:Nat}: ∀(es:List (List D)) (off l m:Nat),zbJ W F k es b off->zbJ W F k ((es.drop l).take m) b (off+l*k)
 | es,off,0,m,h=>by
  simp only[List.drop_zero,Nat.zero_mul,Nat.add_zero]
  induction es generalizing off m with
  | nil=>simpa using h
  | cons e es ih=>
   cases m with
   | zero=>simp only[List.take_zero,zbJ]
   | succ m=>simp only[List.take_succ_cons,zbJ]at h ⊢; exact⟨h.1,ih (off+k) m h.2⟩
 | [],off,l+1,m,_=>by simp only[List.drop_nil,List.take_nil,zbJ]
 | e::es,off,l+1,m,h=>by
  simp only[zbJ]at h;have:=zbJ.mid es (off+k) l m h.2;rw[List.drop_succ_cons,show off+(l+1)*k=off+k+l*k by rw[Nat.add_mul]; omega];exact this
end Go.Aw
