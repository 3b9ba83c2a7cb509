/- ObjectsUnion: an object can be read from a union exactly if it can be read from one of both stores, and it is what one of them has; the union of a store with itself is the store.
 Conditions: the named library and program variables read as their initialisers lay them (the given statement's own condition). -/
import Derived.Test.YtplfjjgkbnolhaaGreatDoorK6
import Derived.Test.YtplfjjgkbnolhaaGreatDoorGL
import Derived.Test.YtplfjjgkbnolhaaGreatDoorGJf
import Derived.LaidMore
import Derived.LaidLaws
import Derived.OpenShut
import Derived.Stop.Joined
import Derived.Test.YtplfjjgkbnolhaaGreatDoorChecked
import Derived.Test.YtplfjjgkbnolhaaGreatDoorCards
import Derived.Test.YtplfjjgkbnolhaaGreatDoorTie
import Derived.SevenTiedAt
import Derived.Test.YtplfjjgkbnolhaaGreatDoorK8
set_option linter.unusedSimpArgs false
set_option linter.unusedVariables false
/-
 ARGUMENTS OF THE LAWS OF STORES AS DATA; the world in which the named variables lie as their initialisers lay them.
-/
namespace Go.Proofs.YtplfjjgkbnolhaaGreatDoor
open Go.Aw Go.ChangeShapes Go.WideShapes Go.ChangeAt Go.RowKit
open _root_.Go.Proofs.Tryz (prog)
set_option maxRecDepth 100000
theorem own:ownKnob prog.godebug=none:=by kernel_rfl
theorem laidOut:laidOutB prog=true:=by kernel_rfl
theorem jP1:laidOutB prog=true:=laidOut
theorem jP2:mapsRowed prog=true:=by kernel_rfl
theorem jP6:(prog.stops==[])=true:=by kernel_rfl
theorem jP8:(prog.stopKnobs==[])=true:=by kernel_rfl
theorem jP24:prog.stopsHeard=true:=by kernel_rfl
theorem jP25:prog.mayEnter=true:=by kernel_rfl
def shRaw:ASh:=.agg [.sl [.sl [.int .u8]],.sl [.int .u8,.int .u8,.int .u8]]
theorem fitsL_3{s t u:Sh}{ds:List D}(h:Sh.fitsL [s,t,u] ds): ∃a b c,ds=[a,b,c]∧s.fits a∧t.fits b∧u.fits c:=by
 simp only[Sh.fitsL]at h;obtain⟨a,_,rfl,h1,b,_,rfl,h2,c,_,rfl,h3,rfl⟩:=h;exact⟨a,b,c,rfl,h1,h2,h3⟩
theorem bytes_of{d:D}(h:Sh.fits (.sl [.int .u8]) d): ∃l:List Nat,d=eBy l∧ ∀b∈l,b<256:=by
 obtain⟨l,rfl,hl⟩:=fits_sl (enc:=fun n:Nat=>[eU8 n]) (p:=fun n=>n<256) (fun e0 h0=>by
  obtain⟨a,rfl,h1⟩:=fitsL_1 h0;obtain⟨a,rfl,ha⟩:=fits_u8 h1;exact⟨a,rfl,ha⟩) h
 exact⟨l,rfl,hl⟩
theorem raw_of{d:D}(h:shRaw.fits d): ∃L B,d=eRaw L B∧rawB L B:=by
 obtain⟨ds,rfl,h⟩:=h;obtain⟨a,b,rfl,h1,h2⟩:=fitsL_2 h;obtain⟨L,rfl,hL⟩:=fits_sl (enc:=fun l:List Nat=>[eBy l]) (p:=fun l=> ∀b∈l,b<256) (fun e0 h0=>by
  obtain⟨a,rfl,h1⟩:=fitsL_1 h0;obtain⟨l,rfl,hl⟩:=bytes_of h1;exact⟨l,rfl,hl⟩) h1
 obtain⟨B,rfl,hB⟩:=fits_sl (enc:=eBb) (p:=fun k=>k.1<256∧k.2.1<256∧k.2.2<256) (fun e0 h0=>by
  obtain⟨a,b,c,rfl,h1,h2,h3⟩:=fitsL_3 h0;obtain⟨a,rfl,ha⟩:=fits_u8 h1;obtain⟨b,rfl,hb⟩:=fits_u8 h2;obtain⟨c,rfl,hc⟩:=fits_u8 h3;exact⟨(a,b,c),rfl,ha,hb,hc⟩) h2
 exact⟨L,B,rfl,hL,hB⟩
def laidV:List (String×DataW Unit):=Rows.objectsAddressesRow.laid
theorem door_met(os:Os)(args:Array Value):laidMetH prog laidV ((World.doorLaid prog 192 os).forCall (fun _ _=>0) ⟨#[],args,[]⟩).memory :=
 laidMetH_of_parts3 (fuel:=8) (laidMet_of_run' 8 (by kernel_rfl) (by kernel_rfl)) (by kernel_rfl) (by kernel_rfl)
theorem cP2 : Tryz.pinned.checked.prog.mainIs = some (true,("415a2752c97c208b60879d37bb74c06387b46dafddcbe37e27d33e8976973eff" : String).toList) := by kernel_rfl
theorem cP3:true=Tryz.pinned.checked.prog.looks []:=by kernel_rfl
theorem par_ok{fn:Func}(h:fn.params.toList.all (fun t=> !prog.wantsStandIn t)=true)(j:Nat)(t:TypeId)(ht:fn.params[j]? =some t):prog.wantsStandIn t=false:=by
 have hm:t∈fn.params.toList:=by
  rw[←Array.getElem?_toList]at ht;exact List.mem_of_getElem? ht
 have:=List.all_eq_true.1 h t hm;simpa using this
theorem union_lifted(os:Os)(started:os.Started)(H:Type)(enc:TypeId×Value→H):
  ReturnsInHanded {} Tryz.checked os 12 .any (fun w args=>(Rows.objectsUnionSpec.pre enc prog Tryz.f12 [] false w args∧laidMetH prog laidV w)∧sizedMet enc prog Tryz.f12 (OpenSpec.ofChange Rows.objectsUnionSpec) false w args)
   (Rows.objectsUnionSpec.post enc prog Tryz.f12 false true false false):=by
 refine returnsInHanded_of_change_and (C:=Tryz.checked) (X:=fun w _=>laidMetH prog laidV w) (fun _ _ _ hh h=>h.of_heap hh) own started (by kernel_rfl) Tryz.func12
  (ChangeSpec.witness_shaped (enc:=enc) (C:=Tryz.checked) (os:=os) (X:=fun w _=>laidMetH prog laidV w) false (World.doorLaid prog 192 os) #[.agg #[.slice none 0 0,.slice none 0 0],.agg #[.slice none 0 0,.slice none 0 0]] 8 rfl (World.shaped_of_RefB (by kernel_rfl) (by kernel_rfl)) (by kernel_rfl) (by kernel_rfl) (by kernel_rfl) (door_met os _)) ?_
 intro W base args ds gs before hval hW _ _ _ _;refine law_post (P:=prog) (n:=8) (ss:=[shRaw,shRaw]) laidOut (of_decide_eq_true (by kernel_rfl)) (tb:=4) (by kernel_rfl) Tryz.underlying4 (by kernel_rfl) rfl hval hW (fun hl=> ?_) (fun Ds hD _=> ?_)
 ·match ds,hl with
  | [_,_],_=>rfl
 ·obtain⟨x,y,rfl,hx,hy⟩:=fitsA_2 hD;obtain⟨L,B,rfl,hr⟩:=raw_of hx;obtain⟨L',B',rfl,hr'⟩:=raw_of hy;exact union_lc L B L' B' hr hr'
theorem union_j0:jG0 prog 12 Tryz.f12 Rows.objectsUnionSpec Rows.objectsUnionRow=true:=by kernel_rfl
theorem union_j1:jG1 prog 12 Tryz.f12 Rows.objectsUnionSpec Rows.objectsUnionRow=true:=by kernel_rfl
theorem union_j2:jG2 prog 12 Tryz.f12 Rows.objectsUnionSpec Rows.objectsUnionRow=true:=by kernel_rfl
theorem union_j3:jG3 prog 12 Tryz.f12 Rows.objectsUnionSpec Rows.objectsUnionRow=true:=by kernel_rfl
theorem union_j4:jG4 prog 12 Tryz.f12 Rows.objectsUnionSpec Rows.objectsUnionRow=true:=by kernel_rfl
theorem union_j5:jG5 prog 12 Tryz.f12 Rows.objectsUnionSpec Rows.objectsUnionRow=true:=by kernel_rfl
theorem union_j6:jG6 prog 12 Tryz.f12 Rows.objectsUnionSpec Rows.objectsUnionRow=true:=by kernel_rfl
theorem union_j7:jG7 prog 12 Tryz.f12 Rows.objectsUnionSpec Rows.objectsUnionRow=true:=by kernel_rfl
theorem union_j8:jG8 prog 12 Tryz.f12 Rows.objectsUnionSpec Rows.objectsUnionRow=true:=by kernel_rfl
theorem union_j:joinedFacts prog 12 Tryz.f12 Rows.objectsUnionSpec Rows.objectsUnionRow=true:=joined_mk jP1 jP2 jP6 jP8 jP24 jP25 union_j0 union_j1 union_j2 union_j3 union_j4 union_j5 union_j6 union_j7 union_j8
theorem union_row:Rows.ObjectsUnionSaid:=
 OpenClaim.holds_of_wide 12 Tryz.f12 rfl rfl rfl rfl rfl rfl rfl ⟨rfl,rfl,rfl,rfl,rfl⟩ rfl rfl rfl rfl rfl (by kernel_rfl) Tryz.func12 union_j
  (of_decide_eq_true (by kernel_rfl)) (by unfold Func.isWrapper; first | (rw[if_pos (by decide+kernel)]; kernel_rfl) | (rw[if_neg (by decide+kernel)]; exact⟨rfl,rfl⟩))
  (fun os started H enc _=>union_lifted os started H enc)
theorem union_p1:Rows.objectsUnionRow.wfByText (OpenSpec.ofChange Rows.objectsUnionSpec)=true:=by kernel_rfl
theorem union_p4 : prog.funcNamed "wireloom/wireloomlaw18.ObjectsUnion" = some 12 := by kernel_rfl
theorem union_p5:Tryz.f12.params.toList.all (fun t=> !prog.wantsStandIn t)=true:=by kernel_rfl
theorem union_p6:false=Rows.objectsUnionRow.goesBy Tryz.pinned.checked.prog:=by kernel_rfl
theorem union_holds:Rows.ObjectsUnionCardSaid:=
 Claim7.holds_tied_plain_at .later [] [.data,.data,.data,.sentinel,.sentinel,.mapped,.mapped] true (true,"415a2752c97c208b60879d37bb74c06387b46dafddcbe37e27d33e8976973eff") true
  union_row (fun _ h=>by cases h) union_p1 (fun _ h=>by cases h) objectsUnion_row_tie rfl ⟨rfl,rfl⟩ cP2 rfl
  (fun f fn hf hfn=>by
   obtain rfl:f=12:=Option.some.inj (union_p4.symm.trans hf) |>.symm;obtain rfl:fn=Tryz.f12:=(Option.some.inj (Tryz.func12.symm.trans hfn)).symm;exact⟨cP3,fun j t ht=>par_ok union_p5 j t ht⟩)
  union_p6
end Go.Proofs.YtplfjjgkbnolhaaGreatDoor
