/- ObjectsKeep: what is kept is read as before, and nothing else is there; a store is the union of what is kept of it and of the rest.
 Conditions: the named library and program variables read as their initialisers lay them (the given statement's own condition). -/
import Derived.Test.YtplfjjgkbnolhaaGreatDoorK6
import Derived.Test.YtplfjjgkbnolhaaGreatDoorGL
import Derived.Test.YtplfjjgkbnolhaaGreatDoorGJf
import Derived.LaidMore
import Derived.LaidLaws
import Derived.OpenShut
import Derived.Stop.Joined
import Derived.Test.YtplfjjgkbnolhaaGreatDoorChecked
import Derived.Test.YtplfjjgkbnolhaaGreatDoorCards
import Derived.Test.YtplfjjgkbnolhaaGreatDoorTie
import Derived.SevenTiedAt
import Derived.Test.YtplfjjgkbnolhaaGreatDoorK8
set_option linter.unusedSimpArgs false
set_option linter.unusedVariables false
/-
 ARGUMENTS OF THE LAWS OF STORES AS DATA; the world in which the named variables lie as their initialisers lay them.
-/
namespace Go.Proofs.YtplfjjgkbnolhaaGreatDoor
open Go.Aw Go.ChangeShapes Go.WideShapes Go.ChangeAt Go.RowKit
open _root_.Go.Proofs.Tryz (prog)
set_option maxRecDepth 100000
theorem own:ownKnob prog.godebug=none:=by kernel_rfl
theorem laidOut:laidOutB prog=true:=by kernel_rfl
theorem jP1:laidOutB prog=true:=laidOut
theorem jP2:mapsRowed prog=true:=by kernel_rfl
theorem jP6:(prog.stops==[])=true:=by kernel_rfl
theorem jP8:(prog.stopKnobs==[])=true:=by kernel_rfl
theorem jP24:prog.stopsHeard=true:=by kernel_rfl
theorem jP25:prog.mayEnter=true:=by kernel_rfl
def shRaw:ASh:=.agg [.sl [.sl [.int .u8]],.sl [.int .u8,.int .u8,.int .u8]]
theorem fitsL_3{s t u:Sh}{ds:List D}(h:Sh.fitsL [s,t,u] ds): ∃a b c,ds=[a,b,c]∧s.fits a∧t.fits b∧u.fits c:=by
 simp only[Sh.fitsL]at h;obtain⟨a,_,rfl,h1,b,_,rfl,h2,c,_,rfl,h3,rfl⟩:=h;exact⟨a,b,c,rfl,h1,h2,h3⟩
theorem bytes_of{d:D}(h:Sh.fits (.sl [.int .u8]) d): ∃l:List Nat,d=eBy l∧ ∀b∈l,b<256:=by
 obtain⟨l,rfl,hl⟩:=fits_sl (enc:=fun n:Nat=>[eU8 n]) (p:=fun n=>n<256) (fun e0 h0=>by
  obtain⟨a,rfl,h1⟩:=fitsL_1 h0;obtain⟨a,rfl,ha⟩:=fits_u8 h1;exact⟨a,rfl,ha⟩) h
 exact⟨l,rfl,hl⟩
theorem raw_of{d:D}(h:shRaw.fits d): ∃L B,d=eRaw L B∧rawB L B:=by
 obtain⟨ds,rfl,h⟩:=h;obtain⟨a,b,rfl,h1,h2⟩:=fitsL_2 h;obtain⟨L,rfl,hL⟩:=fits_sl (enc:=fun l:List Nat=>[eBy l]) (p:=fun l=> ∀b∈l,b<256) (fun e0 h0=>by
  obtain⟨a,rfl,h1⟩:=fitsL_1 h0;obtain⟨l,rfl,hl⟩:=bytes_of h1;exact⟨l,rfl,hl⟩) h1
 obtain⟨B,rfl,hB⟩:=fits_sl (enc:=eBb) (p:=fun k=>k.1<256∧k.2.1<256∧k.2.2<256) (fun e0 h0=>by
  obtain⟨a,b,c,rfl,h1,h2,h3⟩:=fitsL_3 h0;obtain⟨a,rfl,ha⟩:=fits_u8 h1;obtain⟨b,rfl,hb⟩:=fits_u8 h2;obtain⟨c,rfl,hc⟩:=fits_u8 h3;exact⟨(a,b,c),rfl,ha,hb,hc⟩) h2
 exact⟨L,B,rfl,hL,hB⟩
def laidV:List (String×DataW Unit):=Rows.objectsAddressesRow.laid
theorem door_met(os:Os)(args:Array Value):laidMetH prog laidV ((World.doorLaid prog 192 os).forCall (fun _ _=>0) ⟨#[],args,[]⟩).memory :=
 laidMetH_of_parts3 (fuel:=8) (laidMet_of_run' 8 (by kernel_rfl) (by kernel_rfl)) (by kernel_rfl) (by kernel_rfl)
theorem cP2 : Tryz.pinned.checked.prog.mainIs = some (true,("415a2752c97c208b60879d37bb74c06387b46dafddcbe37e27d33e8976973eff" : String).toList) := by kernel_rfl
theorem cP3:true=Tryz.pinned.checked.prog.looks []:=by kernel_rfl
theorem par_ok{fn:Func}(h:fn.params.toList.all (fun t=> !prog.wantsStandIn t)=true)(j:Nat)(t:TypeId)(ht:fn.params[j]? =some t):prog.wantsStandIn t=false:=by
 have hm:t∈fn.params.toList:=by
  rw[←Array.getElem?_toList]at ht;exact List.mem_of_getElem? ht
 have:=List.all_eq_true.1 h t hm;simpa using this
theorem keep_lifted(os:Os)(started:os.Started)(H:Type)(enc:TypeId×Value→H):
  ReturnsInHanded {} Tryz.checked os 13 .any (fun w args=>(Rows.objectsKeepSpec.pre enc prog Tryz.f13 [] false w args∧laidMetH prog laidV w)∧sizedMet enc prog Tryz.f13 (OpenSpec.ofChange Rows.objectsKeepSpec) false w args)
   (Rows.objectsKeepSpec.post enc prog Tryz.f13 false true false false):=by
 refine returnsInHanded_of_change_and (C:=Tryz.checked) (X:=fun w _=>laidMetH prog laidV w) (fun _ _ _ hh h=>h.of_heap hh) own started (by kernel_rfl) Tryz.func13
  (ChangeSpec.witness_shaped (enc:=enc) (C:=Tryz.checked) (os:=os) (X:=fun w _=>laidMetH prog laidV w) false (World.doorLaid prog 192 os) #[.agg #[.slice none 0 0,.slice none 0 0],.int .u16 0,.int .u64 0] 8 rfl (World.shaped_of_RefB (by kernel_rfl) (by kernel_rfl)) (by kernel_rfl) (by kernel_rfl) (by kernel_rfl) (door_met os _)) ?_
 intro W base args ds gs before hval hW _ _ _ _;refine law_post (P:=prog) (n:=8) (ss:=[shRaw,.one (.int .u16),.one (.int .u64)]) laidOut (of_decide_eq_true (by kernel_rfl)) (tb:=4) (by kernel_rfl) Tryz.underlying4 (by kernel_rfl) rfl hval hW (fun hl=> ?_) (fun Ds hD _=> ?_)
 ·match ds,hl with
  | [_,_,_],_=>rfl
 ·obtain⟨x,y,z,rfl,hx,hy,hz⟩:=fitsA_3 hD;obtain⟨L,B,rfl,hr⟩:=raw_of hx;obtain⟨m,rfl,_⟩: ∃n,y= .lit (.int .u16 n)∧(Lit.int .u16 n).wf =true:=hy;obtain⟨w,rfl,_⟩:=fits_u64 hz;exact keep_lc L B m w hr
theorem keep_j0:jG0 prog 13 Tryz.f13 Rows.objectsKeepSpec Rows.objectsKeepRow=true:=by kernel_rfl
theorem keep_j1:jG1 prog 13 Tryz.f13 Rows.objectsKeepSpec Rows.objectsKeepRow=true:=by kernel_rfl
theorem keep_j2:jG2 prog 13 Tryz.f13 Rows.objectsKeepSpec Rows.objectsKeepRow=true:=by kernel_rfl
theorem keep_j3:jG3 prog 13 Tryz.f13 Rows.objectsKeepSpec Rows.objectsKeepRow=true:=by kernel_rfl
theorem keep_j4:jG4 prog 13 Tryz.f13 Rows.objectsKeepSpec Rows.objectsKeepRow=true:=by kernel_rfl
theorem keep_j5:jG5 prog 13 Tryz.f13 Rows.objectsKeepSpec Rows.objectsKeepRow=true:=by kernel_rfl
theorem keep_j6:jG6 prog 13 Tryz.f13 Rows.objectsKeepSpec Rows.objectsKeepRow=true:=by kernel_rfl
theorem keep_j7:jG7 prog 13 Tryz.f13 Rows.objectsKeepSpec Rows.objectsKeepRow=true:=by kernel_rfl
theorem keep_j8:jG8 prog 13 Tryz.f13 Rows.objectsKeepSpec Rows.objectsKeepRow=true:=by kernel_rfl
theorem keep_j:joinedFacts prog 13 Tryz.f13 Rows.objectsKeepSpec Rows.objectsKeepRow=true:=joined_mk jP1 jP2 jP6 jP8 jP24 jP25 keep_j0 keep_j1 keep_j2 keep_j3 keep_j4 keep_j5 keep_j6 keep_j7 keep_j8
theorem keep_row:Rows.ObjectsKeepSaid:=
 OpenClaim.holds_of_wide 13 Tryz.f13 rfl rfl rfl rfl rfl rfl rfl ⟨rfl,rfl,rfl,rfl,rfl⟩ rfl rfl rfl rfl rfl (by kernel_rfl) Tryz.func13 keep_j
  (of_decide_eq_true (by kernel_rfl)) (by unfold Func.isWrapper; first | (rw[if_pos (by decide+kernel)]; kernel_rfl) | (rw[if_neg (by decide+kernel)]; exact⟨rfl,rfl⟩))
  (fun os started H enc _=>keep_lifted os started H enc)
theorem keep_p1:Rows.objectsKeepRow.wfByText (OpenSpec.ofChange Rows.objectsKeepSpec)=true:=by kernel_rfl
theorem keep_p4 : prog.funcNamed "wireloom/wireloomlaw18.ObjectsKeep" = some 13 := by kernel_rfl
theorem keep_p5:Tryz.f13.params.toList.all (fun t=> !prog.wantsStandIn t)=true:=by kernel_rfl
theorem keep_p6:false=Rows.objectsKeepRow.goesBy Tryz.pinned.checked.prog:=by kernel_rfl
theorem keep_holds:Rows.ObjectsKeepCardSaid:=
 Claim7.holds_tied_plain_at .later [] [.data,.data,.data,.sentinel,.sentinel,.mapped,.mapped] true (true,"415a2752c97c208b60879d37bb74c06387b46dafddcbe37e27d33e8976973eff") true
  keep_row (fun _ h=>by cases h) keep_p1 (fun _ h=>by cases h) objectsKeep_row_tie rfl ⟨rfl,rfl⟩ cP2 rfl
  (fun f fn hf hfn=>by
   obtain rfl:f=13:=Option.some.inj (keep_p4.symm.trans hf) |>.symm;obtain rfl:fn=Tryz.f13:=(Option.some.inj (Tryz.func13.symm.trans hfn)).symm;exact⟨cP3,fun j t ht=>par_ok keep_p5 j t ht⟩)
  keep_p6
end Go.Proofs.YtplfjjgkbnolhaaGreatDoor
