/- Machinery. Conditions: those of each. -/
import Derived.Test.YtplfjjgkbnolhaaGreatDoorGI
set_option linter.unusedSimpArgs false
set_option linter.unusedVariables false
/-
 SMALL LAWS OF CONTRACTS.
 Conditions: those of each law; over any program.
-/
namespace Go.Aw
open Go.RowKit
theorem FnG.mono{P:Program}{f:FuncId}{args:List AV}{Oi:Objs}{Post Post':AV→Objs→List Nat→Prop}(h:FnG P f args Oi Post)(hp: ∀V Oo new,Post V Oo new→Post' V Oo new):FnG P f args Oi Post':=
 ⟨h.1,fun W F O0 η S vs hm hO hr=>Calls.mono (h.2 W F O0 η S vs hm hO hr) fun e W' ⟨v,V,Oo,new,F',η',S',a1,a2,a3⟩=>⟨v,V,Oo,new,F',η',S',a1,hp _ _ _ a2,a3⟩⟩
def nextX{X:Type}(i n:Nat)(I:X→Prop)(S:X→TL×OL)(t:TL)(o:OL):Prop:=i<n∧ ∃x,I x∧subT (tm t) (S x).1 ∧subO (om o) (S x).2
theorem eloopX{P:Program}{N:NP}{X:Type}(L:X→Nat→List Gh)(hmix:P.follows .mixedOrders =true){x:Code}{Q:EQ}{t:TL}{o:OL}(n:Nat)(I:Nat→X→Prop)(S:Nat→X→TL×OL)(x0:X)(hI0:I 0 x0)(h0:subT (tm t) (S 0 x0).1)(h0':subO (om o) (S 0 x0).2)
  (hs: ∀i y,i≤n→I i y→eC P N (L y) x (thenE (nextX i n (I (i+1)) (S (i+1))) Q) (S i y).1 (S i y).2):ELoop P N x Q t o:=by
 intro hX R m c hT hP hN a W hr;refine wpIn_loop_ix (fun i a W=> ∃y,I i y∧RelX c ⟨tm (S i y).1,om (S i y).2⟩ a W) n ⟨x0,hI0,(sub_of (σ:=⟨tm t,om o⟩) h0 h0' c a W hr).x⟩ (fun i a W hi hI=> ?_);obtain⟨y,hI1,Ds,hD,hI2⟩:=hI;refine wpIn_mono (eC_sound' hmix x _ _ _ hX.then (hs i y hi hI1) R m (c.more Ds) hT hP hN a W hI2) ?_;rintro e a' W' ⟨σ',⟨t',o',rfl,h1⟩,Es,hE,h2⟩;cases e with
 | normal=>
  obtain⟨h3,y',h4,h5,h6⟩:=h1;exact⟨h3,y',h4,RelX.x hD ⟨Es,hE,sub_of (σ:=⟨tm t',om o'⟩) h5 h6 _ a' W' h2⟩⟩
 | _=>exact⟨_,⟨t',o',rfl,h1⟩,RelX.x hD ⟨Es,hE,h2⟩⟩
theorem ECall.i{P:Program}{N:NP}{f:FuncId}{ds:List D}{ids:List Nat}{dst:Option Nat}{K:EK}{t:TL}{o:OL}{V:AV}(hc:FnP P f ds V [])(h:dstOk N dst∧pureV V=true∧K (consO dst V t) (if flat V then o else dropO ids o)):ECall P N f ds ids dst K t o:=⟨h.1,V,hc,h.2⟩
theorem ECall'.i{P:Program}{N:NP}{f:FuncId}{ds:List D}{ids:List Nat}{dst:Option Nat}{K:EK}{t:TL}{o:OL}{V:AV}(hc:FnP P f ds V [])(h:dstOk N dst∧pureV V=true∧(flat V=true∨ids=[])∧K (consO dst V t) o):ECall' P N f ds ids dst K t o:=⟨h.1,V,hc,h.2⟩
end Go.Aw
