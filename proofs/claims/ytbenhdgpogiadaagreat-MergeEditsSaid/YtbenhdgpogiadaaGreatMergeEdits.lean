/- MergeEdits: if no place is changed by both sides, and the merge succeeds, it is what the edits that lead from the base to one side make of the other side.
 Conditions: none. -/
import Derived.Test.YtbenhdgpogiadaaGreatGL
import Derived.Test.YtbenhdgpogiadaaGreatK2
import Derived.Test.YtbenhdgpogiadaaGreatRows
import Derived.Test.YtbenhdgpogiadaaGreatGJf
import Derived.Test.YtbenhdgpogiadaaGreatK9
import Derived.Test.YtbenhdgpogiadaaGreatK8
import Derived.Test.YtbenhdgpogiadaaGreatK7
set_option linter.unusedSimpArgs false
set_option linter.unusedVariables false
/-
 ARGUMENTS OF THE LAWS AS DATA.
-/
open List renaming length_map -> waa
namespace Go.Proofs.YtbenhdgpogiadaaGreat
open Go.Aw Go.ChangeShapes Go.WideShapes Go.ChangeAt Go.RowKit
open _root_.Go.Proofs.Tryz (prog)
set_option maxRecDepth 100000
theorem own:ownKnob prog.godebug=none:=by kernel_rfl
theorem zdF:laidOutB prog=true:=by kernel_rfl
def zkM:ASh:=.agg [.int .u8,.int .u8,.sl [.int .u8]]
def shK2:ASh:=.agg [.int .u8,.int .u8]
def shK4:ASh:=.agg [.int .u8,.int .u8,.int .u8,.int .u8]
def shB:ASh:=.one (.sl [.int .u8])
theorem zsF{s t u:Sh}{ds:List D}(h:Sh.fitsL [s,t,u] ds): ∃a b c,ds=[a,b,c]/\s.fits a/\t.fits b/\u.fits c:=by
 simp only[Sh.fitsL]at h;obtain⟨a,r,rfl,h1,b,r2,rfl,h2,c,r3,rfl,h3,rfl⟩:=h;exact⟨a,b,c,rfl,h1,h2,h3⟩
theorem zk5{d:D}(h:Sh.fits (.sl [.int .u8]) d): ∃l:List Nat,d=zau l/\ ∀b∈l,b<256:=by
 obtain⟨l,rfl,hl⟩:=zgZ (enc:=fun b:Nat=>[eU8 b]) (p:=fun b=>b<256) (fun e he=>by
  obtain⟨x,rfl,hx⟩:=zjP he;obtain⟨n,rfl,hn⟩:=zeG hx;exact⟨n,rfl,hn⟩) h
 exact⟨l,rfl,hl⟩
theorem zhO{d:D}(h:zkM.fits d): ∃x:Raw,d=zew x/\x.ok:=by
 obtain⟨ds,rfl,h⟩:=h;obtain⟨a,b,c,rfl,h1,h2,h3⟩:=zsF h;obtain⟨k,rfl,hk⟩:=zeG h1;obtain⟨w,rfl,hw⟩:=zeG h2;obtain⟨l,rfl,hl⟩:=zk5 h3;exact⟨⟨k,w,l⟩,rfl,hk,hw,hl⟩
theorem jP1:laidOutB prog=true:=zdF
theorem jP2:mapsRowed prog=true:=by kernel_rfl
theorem jP6:(prog.stops==[])=true:=by kernel_rfl
theorem jP8:(prog.stopKnobs==[])=true:=by kernel_rfl
theorem jP24:prog.stopsHeard=true:=by kernel_rfl
theorem jP25:prog.mayEnter=true:=by kernel_rfl
def shPair:ASh:=.agg [.int .u8,.int .u8,.sl [.int .u8],.int .u8,.int .u8,.sl [.int .u8],.sl [.int .u8,.int .u8,.int .u8,.int .u8],.sl [.int .u8,.int .u8,.int .u8,.int .u8]]
def eZ2(x y:Raw)(l m:List K4):D:=.agg [eU8 x.kind,eU8 x.w,zau x.l,eU8 y.kind,eU8 y.w,zau y.l,.sl (l.map eK4),.sl (m.map eK4)]
def sh72:ASh:=.agg [.sl [.int .u8,.int .u8,.int .u8],.sl [.int .u8,.int .u8,.int .u8],.sl [.int .u8,.int .u8,.int .u8]]
theorem k3s_of{d:D}(h:Sh.fits (.sl [.int .u8,.int .u8,.int .u8]) d): ∃l:List K3,d= .sl (l.map eK3)/\ ∀k∈l,k.ok:=by
 obtain⟨l,rfl,hl⟩:=zgZ (enc:=eK3) (p:=K3.ok) (fun e0 h0=>by
  obtain⟨a,b,c,rfl,h1,h2,h3⟩:=zsF h0;obtain⟨a,rfl,ha⟩:=zeG h1;obtain⟨b,rfl,hb⟩:=zeG h2;obtain⟨c,rfl,hc⟩:=zeG h3;exact⟨⟨a,b,c⟩,rfl,ha,hb,hc⟩) h
 exact⟨l,rfl,hl⟩
theorem zz3{d:D}(h:sh72.fits d): ∃a b c,d=e72 a b c/\(∀k∈a,k.ok)/\(∀k∈b,k.ok)/\ ∀k∈c,k.ok:=by
 obtain⟨ds,rfl,h⟩:=h;obtain⟨a,b,c,rfl,h1,h2,h3⟩:=zsF h;obtain⟨a,rfl,ha⟩:=k3s_of h1;obtain⟨b,rfl,hb⟩:=k3s_of h2;obtain⟨c,rfl,hc⟩:=k3s_of h3;exact⟨a,b,c,rfl,ha,hb,hc⟩
open Go.Aw
set_option maxHeartbeats 40000000
theorem ztq(b x y:List Module):(zdy b x y=[]/\zbi (zbA b x y)=true/\zbk b x y=⟨zbA b x y,[],0⟩)\/((zbk b x y).e !=0)=true:=by
 unfold zbk;by_cases h:zdy b x y=[]
 ·rw[if_neg (fun h'=>h' h)];cases hv:zbi (zbA b x y)with
  | true=>exact .inl ⟨h,rfl,by rw[if_pos rfl]⟩
  | false=>right; rw[if_neg Bool.false_ne_true]; rfl
 ·right; rw[if_pos h]; rfl
theorem Gs.nok{f:List Module}(h:Gs f):NOk f:=⟨h.fl.part.names,h.fl.part.parts,by have:=h.len; omega,fun m hm=>by have:=h.items m hm; omega⟩
theorem Gs.diff{f g:List Module}(h:Gs f)(h':Gs g):(zrp f g).length <=130000:=by
 have key: ∀ {l:List Module},Gs l->((zcC l).map wM).sum <=60200:=fun{l} hl=>by
  have h1:=zwe (w:=wM) (k:=301) (l:=zcC l) fun m hm=>by
   have:=ziX (k:=300) hl.items m hm; unfold wM; omega
  rw[zyb]at h1;have:=hl.len;have h2:l.length*301<=200*301:=Nat.mul_le_mul_right _ this;omega
 have h1:=zz6 (zcC f) (zcC g);have h2:=key h;have h3:=key h';unfold zrp;omega
theorem apply_g{a:List Module}(h:Gs a)(es:List Edit)(he:es.length<=130000):FnP prog 46 [.agg [zax a],.sl (es.map zfN)] (zyp (zoS a es)) []:=
 zz5 a h.nok (ziv h.fl.part) es 300 ⟨by have:=h.len; omega,fun m hm=>by have:=h.items m hm; omega⟩ (by omega)
theorem medits_c(x:Raw)(hx:x.ok)(a b c:List K3)(ha: ∀k∈a,k.ok)(hb: ∀k∈b,k.ok)(hc: ∀k∈c,k.ok):FnP prog 13 [zew x,e72 a b c] (.d (eB true)) []:=by
 refine FnP.of_eC (own:=[]) (fun i=>if i=2015 then [.flt ⟨[(0,none),(1,none),(2,none),(3,none),(4,none),(5,none),(6,none),(7,none),(8,none),(9,none),(10,none),(12,some [10]),(13,some [])]⟩ ⟨[11],[(12,[11])]⟩]else if i=2016 then [.flt ⟨[(0,none),(1,none),(2,none),(3,none),(4,none),(5,none),(6,none),(7,none),(8,none),(9,none),(10,none),(12,some [10]),(13,some [])]⟩ ⟨[11],[(12,[11])]⟩]else []) zat Tryz.func13 rfl Tryz.call13 Tryz.ntmps13 (zle rfl) Tryz.results13 (fun hok=> ?_);have mk:=zpp x hx a b c ha hb hc;have gB:=(zmB x a).mono (k:=12) (by omega);have gX:=zli x a b;have gY:=zli x a c;obtain⟨B,hB⟩:=zX (zhA x a);obtain⟨X,hX⟩:=zX (zfc (zhA x a) b);obtain⟨Y,hY⟩:=zX (zfc (zhA x a) c);rw[hX]at gX;rw[hY]at gY;rw[hX,hY]at mk;rw[hB]at mk gB;have m1:=zhL (by omega) gB gX gY;have gb:=gB.gs (by omega);have gx:=gX.gs (by omega);have gy:=gY.gs (by omega);have pa:=zij gb gx;have pb:=zij gb gy;have la:=zz4 gb gx;have hA:=fun p=>zfE gB.fl.part gX.fl.part (p:=p);have hK:=fun p=>zfE gB.fl.part gY.fl.part (p:=p);obtain⟨A,hA'⟩:=zX (zc0 B X);obtain⟨K,hK'⟩: ∃A,zc0 B Y=A:=⟨_,rfl⟩;rw[hA']at pa la;rw[hK']at pb;simp only[hA']at hA;simp only[hK']at hK;simp only[zp7]at pa pb;simp only[ZE,seval,zew,e72]at mk;simp only[ZE,seval]at pa pb;rcases ztq B X Y with⟨h1,h2,h3⟩ | h
 ·rw[h3]at m1;have d1:=zsv B Y gb.nok gy.nok (by have:=gb.diff gy; omega);have d2:=zsv B X gb.nok gx.nok (by have:=gb.diff gx; omega);have a1:=apply_g gx (zrp B Y) (gb.diff gy);have a2:=apply_g gy (zrp B X) (gb.diff gx);have l1:=edits_law gB.fl gX.fl gY.fl h1;have h4:zbk B Y X=⟨zbA B X Y,[],0⟩:=(zz9 gB.fl gX.fl gY.fl).trans h3;have l2:=edits_law gB.fl gY.fl gX.fl (ztt h4).1;rw[(ztt h4).2]at l2;obtain⟨M,hM⟩:=zX (zbA B X Y);rw[hM]at l1 l2 m1;have sc:=rsame_c M M;rw[(zm3 M M).2 rfl]at sc;obtain⟨E,hE⟩:=zX (zrp B Y);obtain⟨G,hG⟩: ∃E,zrp B X=E:=⟨_,rfl⟩;rw[hE]at d1 a1 l1;rw[hG]at d2 a2 l2;simp only[eGot,List.map_nil]at m1;simp only[ZE,seval]at m1 d1 d2 sc;simp only[ZE,seval,zN,zew,e72];refine EFn.p ?_;simp only[ZE,seval,zN];refine zar.i zez ?_;simp only[ZE,seval,zN];refine EFn.p ?_;simp only[ZE,seval,zN];refine zar.i mk ?_;simp only[ZE,seval,zN];refine EFn.p ?_;simp only[ZE,seval,zN];refine zar.i m1 ?_;simp only[ZE,seval,zN];refine EFn.p ?_;simp only[ZE,seval,zN];refine zar.i pa ?_;simp only[ZE,seval,zN];refine EFn.p ?_;simp only[ZE,seval,zN];refine zar.i pb ?_;simp only[ZE,seval,zN];refine za1 (fun _=>[]) zat A.length (fun i=> ∀p∈A.take i,p∉K) (fun i=>([(5,.d (eB true)),(6,.bp 6 0),(7,.bp 7 0),(8,.bp 8 0),(9,.bp 9 0),(10,.d (eI i))],[(6,.box [.d (zax B),.d (zax X),.d (zax Y)]),(7,.box [.d (zax M),.d (.sl []),.d (eI 0)]),(8,.box [.d (.sl (A.map zaE)),.d (eI 0)]),(9,.box [.d (.sl (K.map zaE)),.d (eI 0)])])) (by simp) ?_ ?_ (fun i hi hI=> ?_)
  ·simp only[ZE,seval]
  ·simp only[ZE,seval]
  rcases Nat.lt_or_ge i A.length with h | h
  ·have hw:=zaq (show i<9223372036854775807 by omega);obtain⟨p,hp⟩:=zX (A[i]);have c1:=zpa K p;simp only[ZE,seval,zaE]at c1;by_cases q1:p∈K
   ·rw[decide_eq_true q1]at c1;simp only[ZE,seval,zaw h,zai h,zaa h,hp,zN,waa,zaE,hw];refine⟨by kernel_rfl,zaz.i c1 ?_⟩;simp only[ZE,seval,zN,hw]
   ·rw[decide_eq_false q1]at c1;simp only[ZE,seval,zaw h,zai h,zaa h,hp,zN,waa,zaE,hw];refine⟨by kernel_rfl,zaz.i c1 ?_⟩;simp only[ZE,seval,zN,hw];refine⟨h,fun z hz=> ?_⟩;rw[List.take_succ_eq_append_getElem h,hp,List.mem_append,List.mem_singleton]at hz;rcases hz with hz | rfl
    ·exact hI z hz
    ·exact q1
  have:i=A.length:=by omega
  subst this;rw[List.take_length]at hI;have hd: ∀p,zbc B p=zbc X p\/zbc B p=zbc Y p:=fun p=>by
   by_cases e:zbc B p=zbc X p
   ·exact .inl e
   ·exact .inr (Classical.byContradiction fun e2=>hI p ((hA p).2 e) ((hK p).2 e2))
  rw[l1 hd]at a1;rw[l2 (fun p=>(hd p).symm)]at a2;simp only[zyp]at a1 a2;simp only[ZE,seval]at a1 a2;simp only[ZE,seval,zaI h,zN,waa];refine⟨by kernel_rfl,zaz.i d1 ?_⟩;simp only[ZE,seval,zN];refine zaz.i a1 ?_;simp only[ZE,seval,zN];refine⟨by kernel_rfl,zaz.i d2 ?_⟩;simp only[ZE,seval,zN];refine zaz.i a2 ?_;simp only[ZE,seval,zN];refine EFn.p ?_;simp only[ZE,seval,zN];refine zar.i sc ?_;simp only[ZE,seval,zN];refine EFn.p ?_;simp only[ZE,seval,zN];refine zar.i sc ?_;simp only[ZE,seval,zN]
 ·obtain⟨f,hf⟩:=zX ((zbk B X Y).f);obtain⟨l,hl⟩:=zX ((zbk B X Y).l);obtain⟨e,he⟩:=zX ((zbk B X Y).e);rw[he]at h;unfold eGot at m1;rw[hf,hl,he]at m1;simp only[ZE,seval]at m1;simp only[ZE,seval,zN,zew,e72];refine EFn.p ?_;simp only[ZE,seval,zN];refine zar.i zez ?_;simp only[ZE,seval,zN];refine EFn.p ?_;simp only[ZE,seval,zN];refine zar.i mk ?_;simp only[ZE,seval,zN];refine EFn.p ?_;simp only[ZE,seval,zN];refine zar.i m1 ?_;simp only[ZE,seval,zN];refine EFn.p ?_;simp only[ZE,seval,zN];refine zar.i pa ?_;simp only[ZE,seval,zN];refine EFn.p ?_;simp only[ZE,seval,zN];refine zar.i pb ?_;simp only[ZE,seval,zN,h]
theorem zz8(os:Os)(started:os.Started)(H:Type)(enc:TypeId×Value->H):
  ReturnsInHanded {} Tryz.checked os 13 .any (Rows.mergeEditsSpec.pre6 enc prog Tryz.f13 Rows.mergeEditsRow.domain false) (Rows.mergeEditsSpec.post enc prog Tryz.f13 false true false false):=by
 refine returnsInHanded_of_change (C:=Tryz.checked) own started (by kernel_rfl) Tryz.func13
  (ChangeSpec.witness6 (enc:=enc) (C:=Tryz.checked) false ⟨#[],#[.agg #[.int .u8 0,.int .u8 0,.slice none 0 0],.agg #[.slice none 0 0,.slice none 0 0,.slice none 0 0]],[]⟩ 8 (by kernel_rfl) (by kernel_rfl) (by kernel_rfl) (by kernel_rfl)) ?_
 intro W base args ds gs before hval hW _ _;refine zdL (P:=prog) (n:=8) (ss:=[zkM,sh72]) zdF (of_decide_eq_true (by kernel_rfl)) (tb:=4) (by kernel_rfl) Tryz.underlying4 (by kernel_rfl) rfl hval hW (fun hl=> ?_) (fun Ds hD _=> ?_)
 ·match ds,hl with
  | [_,_],_=>rfl
 ·obtain⟨a,b,rfl,ha,hb⟩:=zlb hD;obtain⟨x,rfl,hx⟩:=zhO ha;obtain⟨k0,k1,k2,rfl,h0,h1,h2⟩:=zz3 hb;exact medits_c x hx k0 k1 k2 h0 h1 h2
theorem medits_j0:jG0 prog 13 Tryz.f13 Rows.mergeEditsSpec Rows.mergeEditsRow=true:=by kernel_rfl
theorem medits_j1:jG1 prog 13 Tryz.f13 Rows.mergeEditsSpec Rows.mergeEditsRow=true:=by kernel_rfl
theorem medits_j2:jG2 prog 13 Tryz.f13 Rows.mergeEditsSpec Rows.mergeEditsRow=true:=by kernel_rfl
theorem medits_j3:jG3 prog 13 Tryz.f13 Rows.mergeEditsSpec Rows.mergeEditsRow=true:=by kernel_rfl
theorem medits_j4:jG4 prog 13 Tryz.f13 Rows.mergeEditsSpec Rows.mergeEditsRow=true:=by kernel_rfl
theorem medits_j5:jG5 prog 13 Tryz.f13 Rows.mergeEditsSpec Rows.mergeEditsRow=true:=by kernel_rfl
theorem medits_j6:jG6 prog 13 Tryz.f13 Rows.mergeEditsSpec Rows.mergeEditsRow=true:=by kernel_rfl
theorem medits_j7:jG7 prog 13 Tryz.f13 Rows.mergeEditsSpec Rows.mergeEditsRow=true:=by kernel_rfl
theorem medits_j8:jG8 prog 13 Tryz.f13 Rows.mergeEditsSpec Rows.mergeEditsRow=true:=by kernel_rfl
theorem medits_j:joinedFacts prog 13 Tryz.f13 Rows.mergeEditsSpec Rows.mergeEditsRow=true:=ziO jP1 jP2 jP6 jP8 jP24 jP25 medits_j0 medits_j1 medits_j2 medits_j3 medits_j4 medits_j5 medits_j6 medits_j7 medits_j8
theorem medits_holds:Rows.MergeEditsSaid:=
 OpenClaim.holds_of_wide 13 Tryz.f13 rfl rfl rfl rfl rfl rfl rfl ⟨rfl,rfl,rfl,rfl,rfl⟩ rfl rfl rfl rfl rfl (by kernel_rfl) Tryz.func13 medits_j
  (of_decide_eq_true (by kernel_rfl)) (by unfold Func.isWrapper; first | (rw[if_pos (by decide+kernel)]; kernel_rfl) | (rw[if_neg (by decide+kernel)]; exact⟨rfl,rfl⟩))
  (fun os started H enc _=>zz8 os started H enc)
end Go.Proofs.YtbenhdgpogiadaaGreat
