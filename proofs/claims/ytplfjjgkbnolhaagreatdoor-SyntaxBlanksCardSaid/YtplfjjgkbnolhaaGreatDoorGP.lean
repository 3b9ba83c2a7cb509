/- Machinery. Conditions: those of each. -/
import Derived.Test.YtplfjjgkbnolhaaGreatDoorGI
set_option linter.unusedSimpArgs false
set_option linter.unusedVariables false
/-
 SMALL LAWS OF CONTRACTS.
 Conditions: those of each law; over any program.
-/
namespace Go.Aw
open Go.RowKit
theorem FnG.mono{P:Program}{f:FuncId}{args:List AV}{Oi:zbI}{Post Post':AV->zbI->List Nat->Prop}(h:FnG P f args Oi Post)(hp: ∀V Oo new,Post V Oo new->Post' V Oo new):FnG P f args Oi Post':=
 ⟨h.1,fun W F O0 η S vs hm hO hr=>Calls.mono (h.2 W F O0 η S vs hm hO hr) fun e W' ⟨v,V,Oo,new,F',η',S',a1,a2,a3⟩=>⟨v,V,Oo,new,F',η',S',a1,hp _ _ _ a2,a3⟩⟩
def zep{X:Type}(i n:Nat)(I:X->Prop)(S:X->TL×OL)(t:TL)(o:OL):Prop:=i<n/\ ∃x,I x/\zuM (tm t) (S x).1 /\zwd (om o) (S x).2
theorem zgR{P:Program}{N:NP}{X:Type}(L:X->Nat->List Gh)(hmix:P.follows .mixedOrders =true){x:Code}{Q:EQ}{t:TL}{o:OL}(n:Nat)(I:Nat->X->Prop)(S:Nat->X->TL×OL)(x0:X)(hI0:I 0 x0)(h0:zuM (tm t) (S 0 x0).1)(h0':zwd (om o) (S 0 x0).2)
  (hs: ∀i y,i<=n->I i y->eC P N (L y) x (zry (zep i n (I (i+1)) (S (i+1))) Q) (S i y).1 (S i y).2):ELoop P N x Q t o:=by
 intro hX R m c hT hP hN a W hr;refine zrl (fun i a W=> ∃y,I i y/\zzJ c ⟨tm (S i y).1,om (S i y).2⟩ a W) n ⟨x0,hI0,(zzH (σ:=⟨tm t,om o⟩) h0 h0' c a W hr).x⟩ (fun i a W hi hI=> ?_);obtain⟨y,hI1,Ds,hD,hI2⟩:=hI;refine wpIn_mono (zBm hmix x _ _ _ hX.then (hs i y hi hI1) R m (c.more Ds) hT hP hN a W hI2) ?_;rintro e a' W' ⟨σ',⟨t',o',rfl,h1⟩,Es,hE,h2⟩;cases e with
 | normal=>
  obtain⟨h3,y',h4,h5,h6⟩:=h1;exact⟨h3,y',h4,zzJ.x hD ⟨Es,hE,zzH (σ:=⟨tm t',om o'⟩) h5 h6 _ a' W' h2⟩⟩
 | _=>exact⟨_,⟨t',o',rfl,h1⟩,zzJ.x hD ⟨Es,hE,h2⟩⟩
theorem zar.i{P:Program}{N:NP}{f:FuncId}{ds:List D}{ids:List Nat}{dst:Option Nat}{K:EK}{t:TL}{o:OL}{V:AV}(hc:FnP P f ds V [])(h:zdc N dst/\zrv V=true/\K (zfy dst V t) (if flat V then o else zdb ids o)):zar P N f ds ids dst K t o:=⟨h.1,V,hc,h.2⟩
theorem zaz.i{P:Program}{N:NP}{f:FuncId}{ds:List D}{ids:List Nat}{dst:Option Nat}{K:EK}{t:TL}{o:OL}{V:AV}(hc:FnP P f ds V [])(h:zdc N dst/\zrv V=true/\(flat V=true\/ids=[])/\K (zfy dst V t) o):zaz P N f ds ids dst K t o:=⟨h.1,V,hc,h.2⟩
end Go.Aw
