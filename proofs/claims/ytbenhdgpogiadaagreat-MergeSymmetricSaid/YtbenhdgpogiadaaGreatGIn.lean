/-
 MACHINERY (an evaluator, sound for every program). Conditions: those of each law.
-/
import Derived.Test.YtbenhdgpogiadaaGreatGO
import Derived.Lib.SliceRun
set_option linter.unusedSimpArgs false
set_option linter.unusedVariables false
/-
 ELEMENTS TAKEN OUT OF OWN ARRAYS AND PUT INTO THEM (slices.Delete of one, slices.Insert of one), out of walks on cells.
 Conditions: those of 'DelW', 'InsW'; over any program.
-/
namespace Go.Aw
open Go.RowKit Go.Lib

def DelW(P:Program)(f:FuncId)(e:TypeId)(k:Nat):Prop:=
 ∀(W:World) (g cap:Nat) (cur:Array Value) (n i:Nat),W.heap[g]? =some (.cells cur e (0,0))->n<=cap->cap<=maxLen->cur.size=cap*k->(∀v∈cur.toList.take (n*k),v.oneCell'=true)->i<n->
  Calls P f #[.slice (some ⟨g,0,none⟩) n cap,.int .i64 i,.int .i64 ((i+1:Nat):Int)] W fun e' W'=>e'= .returned (.slice (some ⟨g,0,none⟩) (n-1) cap)/\
   ∃z:List Value,z.length=k/\W'=(W.drew.setCells g (i*k) ((cur.toList.take (n*k)).drop ((i+1)*k))).setCells g ((n-1)*k) z
def InsQ(e:TypeId)(k:Nat)(W:World)(own:Nat->Prop)(c:List Value)(n:Nat)(e':Ending)(W':World):Prop:=
 ∃(g' cap':Nat) (cur':Array Value),e'= .returned (.slice (some ⟨g',0,none⟩) (n+1) cap')/\(W'.os=W.os/\W'.tape=W.tape/\W'.output=W.output/\W.heap.size<=W'.heap.size)/\(∀b,b<W.heap.size-> ¬own b->W'.heap[b]? =W.heap[b]?)/\
  W'.heap[g']? =some (.cells cur' e (0,0))/\(own g'\/W.heap.size<=g')/\n+1<=cap'/\cap'<=maxLen/\cur'.size=cap'*k/\cur'.toList.take ((n+1)*k)=c
structure InsW (P:Program) (f:FuncId) (e:TypeId) (k:Nat):Prop where
 at1: ∀(W:World) (g cap:Nat) (cur:Array Value) (n i vb vcap:Nat) (vcur:Array Value),W.heap[g]? =some (.cells cur e (0,0))->n<=cap->cap<=maxLen->cur.size=cap*k->(∀v∈cur.toList.take (n*k),v.oneCell'=true)->i<=n->n<=4000000->
  vb≠g->W.heap[vb]? =some (.cells vcur e (0,0))->1<=vcap->vcur.size=vcap*k->(∀v∈vcur.toList.take k,v.oneCell'=true)->
  Calls P f #[.slice (some ⟨g,0,none⟩) n cap,.int .i64 i,.slice (some ⟨vb,0,none⟩) 1 vcap] W (InsQ e k W (fun b=>b=g) ((cur.toList.take (n*k)).take (i*k)++vcur.toList.take k++(cur.toList.take (n*k)).drop (i*k)) n)
 at0: ∀(W:World) (ad:Option Addr) (vb vcap:Nat) (vcur:Array Value),W.heap[vb]? =some (.cells vcur e (0,0))->1<=vcap->vcur.size=vcap*k->(∀v∈vcur.toList.take k,v.oneCell'=true)->
  Calls P f #[.slice ad 0 0,.int .i64 (0:Nat),.slice (some ⟨vb,0,none⟩) 1 vcap] W (InsQ e k W (fun _=>False) (vcur.toList.take k) 0)
theorem FnL.weak{P:Program}{f:Nat}{args args':List AV}{os:OL}{PL:AV->OL->List Nat->Prop}(h:FnL P f args os PL)(hw: ∀O W F η vs,zaN O W F η args' vs->zaN O W F η args vs):FnL P f args' os PL:=
 ⟨h.1,fun W F O0 η S vs hm hO hr=>h.2 W F O0 η S vs hm hO (hw _ _ _ _ _ hr)⟩
end Go.Aw
