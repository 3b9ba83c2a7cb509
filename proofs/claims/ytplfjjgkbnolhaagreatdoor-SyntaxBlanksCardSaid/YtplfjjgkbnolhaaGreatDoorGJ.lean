/- Machinery. Conditions: those of each. -/
import Derived.Test.YtplfjjgkbnolhaaGreatDoorGH
import Derived.RangeFuncOwn
set_option linter.unusedSimpArgs false
set_option linter.unusedVariables false
/-
 A RANGE OVER AN ITERATOR.
 Conditions: those of the law; over any program.
-/
namespace Go.Aw
open Go.RowKit

theorem Mem.ext{c:Ctx}{O:zbI}{W W':World}{F F':Nat->Prop}{η:Nat->Value}{S:Nat->List Nat}{s:List Nat}{lim:Nat}(hm:Mem c O W F η S)(hE:ExtC W W' F F' s lim)(hs: ∀id b,b∈S id->b∈s)(hz: ∀p∈c.Z,p.1<lim)(hl:c.W0.heap.size<=lim):Mem c O W' F' η S:=by
 refine⟨hE.os.trans hm.os,hE.tape.trans hm.tape,hE.output.trans hm.output,Nat.le_trans hm.size hE.size,fun b hb hn=>(hE.low b (by omega)).trans (hm.old b hb hn),fun b hb=>(hE.frz b (hm.f0 b hb)).1,hE.flt,fun b hb hlt=>hm.fold b (hE.lim b hb (by omega)) hlt,?_,hm.gone,?_,hm.sep,hm.nd,?_,hm.lim,hm.zd⟩
 ·intro id o ho;refine zj1.mono (za7.refl O η) hE.frz (AO.noRef_nil o) (fun b hb=>hE.same b (hs id b hb)) (fun lim2 fam stop l rest e=> ?_) (hm.obj id o ho);subst e;obtain⟨l1,l2⟩:=hm.lim id _ _ _ _ _ ho;exact⟨hE.os,hE.tape,hE.output,hE.size,hE.frz,fun b hb=>hE.same b (hs id b hb),fun b hb=>hE.apart b (hs id b hb),hE.flt,fun b hb=>hE.low b (by omega),fun b hb hlt=>hE.lim b hb (by omega)⟩
 ·intro id b hb;obtain⟨a1,a2,a3⟩:=hm.apart id b hb;exact⟨hE.apart b (hs id b hb),Nat.lt_of_lt_of_le a2 hE.size,a3⟩
 ·intro p hp;obtain⟨z1,z2,z3,z4⟩:=hm.hid p hp;exact⟨(hE.low _ (hz p hp)).trans z1,fun hf=>z2 (hE.lim _ hf (hz p hp)),z3,z4⟩

def zFr(O:zbI):Prop:= ∀id lim fam stop l rest,O id≠some (.ext lim fam stop l rest)
def zoR(P:Program)(g:FuncId)(caps:List D)(A S:List (List D)->Prop):Prop:=
 ∀(lim:Nat) (fam:List (List D)->XJ lim) (stop:XJ lim) (l:Nat),zr1 P lim fam stop l A->
  FnG P g (.yv 0::caps.map .d) (om [(0,.ext lim fam stop l [])]) fun _ Oo new=>(∃xs,S xs/\Oo=om [(0,.ext lim fam stop l xs)]/\new=[])\/(Oo=om [(0,.ext lim (fun _=>stop) stop l [])]/\new=[])

def zipT:List Nat->List D->(Nat->AV)->Nat->AV
 | p::ps,d::ds,τ=>zipT ps ds (upd τ p (.d d))
 | _,_,τ=>τ
def zvC:Exit->Option Code
 | .ret =>some .ret
 | .exit id=>some (.exit id)
 | .goto t=>some (.goto t)
 | _=>none
def rangeQ(σ:St)(Q:Exit->St->Prop)(O':zbI):Exit->St->Prop:=fun e σ'=>
 match e with
 | .normal =>(∀t,σ.tmps t= .dead \/σ.tmps t=σ'.tmps t)/\(∀id,O' id=none\/O' id=σ'.objs id)
 | .ret =>(∀t,σ.tmps t= .dead \/σ.tmps t=σ'.tmps t)/\zFr σ'.objs/\Q .ret ⟨σ.tmps,σ'.objs⟩
 | .exit id=>(∀t,σ.tmps t= .dead \/σ.tmps t=σ'.tmps t)/\zFr σ'.objs/\Q (.exit id) ⟨σ.tmps,σ'.objs⟩
 | .goto l=>(∀t,σ.tmps t= .dead \/σ.tmps t=σ'.tmps t)/\zFr σ'.objs/\Q (.goto l) ⟨σ.tmps,σ'.objs⟩
 | _=>False

end Go.Aw
