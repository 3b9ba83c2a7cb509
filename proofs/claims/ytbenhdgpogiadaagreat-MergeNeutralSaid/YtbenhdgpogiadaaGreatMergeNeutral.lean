/-
 MergeNeutral: if one side is the base, or both sides are equal, the merge is the normal form of the other side, or ErrCheck if this is not zbi.
 Conditions: none.
-/
import Derived.Test.YtbenhdgpogiadaaGreatGL
import Derived.Test.YtbenhdgpogiadaaGreatK4
import Derived.Test.YtbenhdgpogiadaaGreatRows
import Derived.Test.YtbenhdgpogiadaaGreatGJf
import Derived.Test.YtbenhdgpogiadaaGreatK7
import Derived.Test.YtbenhdgpogiadaaGreatK8
import Derived.Test.YtbenhdgpogiadaaGreatK5
set_option linter.unusedSimpArgs false
set_option linter.unusedVariables false
/-
 ARGUMENTS OF THE LAWS AS DATA.
-/
namespace Go.Proofs.YtbenhdgpogiadaaGreat
open Go.Aw Go.ChangeShapes Go.WideShapes Go.ChangeAt Go.RowKit
set_option maxRecDepth 100000
theorem own:ownKnob Tryz.prog.godebug=none:=by kernel_rfl
theorem zdF:laidOutB Tryz.prog=true:=by kernel_rfl
def zkM:ASh:=.agg [.int .u8,.int .u8,.sl [.int .u8]]
def shK2:ASh:=.agg [.int .u8,.int .u8]
def shK4:ASh:=.agg [.int .u8,.int .u8,.int .u8,.int .u8]
def shB:ASh:=.one (.sl [.int .u8])
theorem zsF{s t u:Sh}{ds:List D}(h:Sh.fitsL [s,t,u] ds): ∃a b c,ds=[a,b,c]/\s.fits a/\t.fits b/\u.fits c:=by
 simp only[Sh.fitsL]at h;obtain⟨a,r,rfl,h1,b,r2,rfl,h2,c,r3,rfl,h3,rfl⟩:=h;exact⟨a,b,c,rfl,h1,h2,h3⟩
theorem zk5{d:D}(h:Sh.fits (.sl [.int .u8]) d): ∃l:List Nat,d=zau l/\ ∀b∈l,b<256:=by
 obtain⟨l,rfl,hl⟩:=zgZ (enc:=fun b:Nat=>[eU8 b]) (p:=fun b=>b<256) (fun e he=>by
  obtain⟨x,rfl,hx⟩:=zjP he;obtain⟨n,rfl,hn⟩:=zeG hx;exact⟨n,rfl,hn⟩) h
 exact⟨l,rfl,hl⟩
theorem zhO{d:D}(h:zkM.fits d): ∃x:Raw,d=zew x/\x.ok:=by
 obtain⟨ds,rfl,h⟩:=h;obtain⟨a,b,c,rfl,h1,h2,h3⟩:=zsF h;obtain⟨k,rfl,hk⟩:=zeG h1;obtain⟨w,rfl,hw⟩:=zeG h2;obtain⟨l,rfl,hl⟩:=zk5 h3;exact⟨⟨k,w,l⟩,rfl,hk,hw,hl⟩
theorem jP1:laidOutB Tryz.prog=true:=zdF
theorem jP2:mapsRowed Tryz.prog=true:=by kernel_rfl
theorem jP6:(Tryz.prog.stops==[])=true:=by kernel_rfl
theorem jP8:(Tryz.prog.stopKnobs==[])=true:=by kernel_rfl
theorem jP24:Tryz.prog.stopsHeard=true:=by kernel_rfl
theorem jP25:Tryz.prog.mayEnter=true:=by kernel_rfl
def shPair:ASh:=.agg [.int .u8,.int .u8,.sl [.int .u8],.int .u8,.int .u8,.sl [.int .u8],.sl [.int .u8,.int .u8,.int .u8,.int .u8],.sl [.int .u8,.int .u8,.int .u8,.int .u8]]
def eZ2(x y:Raw)(l m:List K4):D:=.agg [eU8 x.kind,eU8 x.w,zau x.l,eU8 y.kind,eU8 y.w,zau y.l,.sl (l.map eK4),.sl (m.map eK4)]
def sh72:ASh:=.agg [.sl [.int .u8,.int .u8,.int .u8],.sl [.int .u8,.int .u8,.int .u8],.sl [.int .u8,.int .u8,.int .u8]]
theorem k3s_of{d:D}(h:Sh.fits (.sl [.int .u8,.int .u8,.int .u8]) d): ∃l:List K3,d= .sl (l.map eK3)/\ ∀k∈l,k.ok:=by
 obtain⟨l,rfl,hl⟩:=zgZ (enc:=eK3) (p:=K3.ok) (fun e0 h0=>by
  obtain⟨a,b,c,rfl,h1,h2,h3⟩:=zsF h0;obtain⟨a,rfl,ha⟩:=zeG h1;obtain⟨b,rfl,hb⟩:=zeG h2;obtain⟨c,rfl,hc⟩:=zeG h3;exact⟨⟨a,b,c⟩,rfl,ha,hb,hc⟩) h
 exact⟨l,rfl,hl⟩
theorem zz3{d:D}(h:sh72.fits d): ∃a b c,d=e72 a b c/\(∀k∈a,k.ok)/\(∀k∈b,k.ok)/\ ∀k∈c,k.ok:=by
 obtain⟨ds,rfl,h⟩:=h;obtain⟨a,b,c,rfl,h1,h2,h3⟩:=zsF h;obtain⟨a,rfl,ha⟩:=k3s_of h1;obtain⟨b,rfl,hb⟩:=k3s_of h2;obtain⟨c,rfl,hc⟩:=k3s_of h3;exact⟨a,b,c,rfl,ha,hb,hc⟩
open Go.Aw
theorem perm_one{α:Type}: ∀ {a b:List α},a.Perm b->a.length<=1->a=b
 | [],_,h,_=>h.nil_eq
 | [_],_,h,_=>(List.perm_singleton.1 h.symm).symm
 | _::_::_,_,_,hl=>by simp only[List.length_cons]at hl; omega
theorem any_perm{α:Type}{a b:List α}(h:a.Perm b)(p:α->Bool):a.any p=b.any p:=by
 rw[Bool.eq_iff_iff,List.any_eq_true,List.any_eq_true];exact⟨fun⟨x,h1,h2⟩=>⟨x,h.mem_iff.1 h1,h2⟩,fun⟨x,h1,h2⟩=>⟨x,h.mem_iff.2 h1,h2⟩⟩
theorem inj_nodup{α β:Type}{f:α->β}: ∀ {l:List α},(l.map f).Nodup -> ∀ {x y:α},x∈l->y∈l->f x=f y->x=y
 | a::r,h,x,y,hx,hy,e=>by
  rw[List.map_cons,List.nodup_cons]at h;rcases List.mem_cons.1 hx with rfl | hx'
  ·rcases List.mem_cons.1 hy with rfl | hy'
   ·rfl
   ·exact absurd (List.mem_map.2 ⟨y,hy',e.symm⟩) h.1
  ·rcases List.mem_cons.1 hy with rfl | hy'
   ·exact(h.1 (List.mem_map.2 ⟨x,hx',e⟩)).elim
   ·exact inj_nodup h.2 hx' hy' e
def Dcl(l:List Item):Prop:=l.Pairwise fun x y=>zaW x.kind.1=true->zaW y.kind.1=true->x.name≠y.name
theorem Dcl.perm{a b:List Item}(h:a.Perm b)(d:Dcl a):Dcl b:=(List.Perm.pairwise_iff (fun h1 hx hy e=>h1 hy hx e.symm) h).1 d
theorem dcl_iff(l:List Item):Dcl l↔ ∀(k:Nat) (hk:k<l.length),zaW l[k].kind.1 =true->(l.take k).any (zb8 l[k])=false:=by
 unfold Dcl;rw[List.pairwise_iff_getElem];constructor
 ·intro h k hk hd;rw[List.any_eq_false];intro y hy;obtain⟨j,hj,rfl⟩:=List.getElem_of_mem hy;rw[List.length_take]at hj;rw[List.getElem_take];intro hs;simp only[zb8,Bool.and_eq_true,decide_eq_true_eq]at hs;exact h j k (by omega) hk (by omega) hs.1 hd hs.2
 ·intro h i j hi hj hij h1 h2 e;have h3:=h j hj h2;rw[List.any_eq_false]at h3;refine h3 l[i] ?_ ?_
  ·rw[List.mem_take_iff_getElem]; exact⟨i,by omega,rfl⟩
  ·simp only[zb8,h1,e,Bool.true_and,decide_true]
theorem zqd{l:List Item}(d:Dcl l)(n:Str):(l.filter (decl n)).length <=1:=by
 have h:=List.Pairwise.filter (decl n) d;have hm: ∀x∈l.filter (decl n),decl n x=true:=fun x hx=>(List.mem_filter.1 hx).2;rcases hq:l.filter (decl n)with _ | ⟨x,_ | ⟨y,r⟩⟩
 ·simp
 ·simp
 ·rw[hq]at h hm;have h1:=hm x (by simp);have h2:=hm y (by simp);simp only[decl,Bool.and_eq_true,decide_eq_true_eq]at h1 h2;exact absurd (h1.2.trans h2.2.symm) ((List.pairwise_cons.1 h).1 y (by simp) h1.1 h2.1)
theorem find_perm{a b:List Item}(h:a.Perm b)(d:Dcl a)(n:Str):a.find? (decl n)=b.find? (decl n):=by
 rw[<-List.head?_filter,<-List.head?_filter,perm_one (h.filter _) (zqd d n)]
theorem zxf{α:Type}(l:List (Str×α))(s:Str):s∈l.map (·.1)↔get l s≠none:=by
 unfold get;rw[ne_eq,Option.map_eq_none_iff,List.find?_eq_none];simp only[List.mem_map,decide_eq_true_eq];exact⟨fun⟨p,h1,h2⟩ h=>h p h1 h2,fun h=>Classical.byContradiction fun h'=>h fun p hp e=>h' ⟨p,hp,e⟩⟩
theorem zon: ∀(l:List Item) (acc:List (Str×Item)),(acc.map (·.1)).Nodup ->((l.foldl zcf acc).map (·.1)).Nodup
 | [],_,h=>h
 | x::r,acc,h=>by
  rw[List.foldl_cons];refine zon r _ ?_;unfold zcf;split
  ·rename_i hc;simp only[Bool.and_eq_true,Option.isNone_iff_eq_none]at hc;rw[List.map_append,List.map_cons,List.map_nil,List.nodup_append];refine⟨h,by simp,fun s hs t ht e=> ?_⟩;rw[List.mem_singleton]at ht;subst ht;subst e;exact(zxf acc _).1 hs hc.2
  ·exact h
theorem firsts_len{a b:List Item}(h: ∀n,a.find? (decl n)=b.find? (decl n)):(zbG a).length =(zbG b).length :=by
 have hp:=(List.perm_ext_iff_of_nodup (zon a [] (by simp)) (zon b [] (by simp))).2 (fun s=>by
  rw[zxf,zxf];show get (zbG a) s≠none↔get (zbG b) s≠none;rw[zke,zke,h])
 have:=hp.length_eq;rw[List.length_map,List.length_map]at this;exact this
structure PermM (a b:Module):Prop where
 name:a.name=b.name
 clock:a.clock=b.clock
 params:a.params=b.params
 items:a.items.Perm b.items
theorem PermM.symm{a b:Module}(h:PermM a b):PermM b a:=⟨h.name.symm,h.clock.symm,h.params.symm,h.items.symm⟩
structure LikeM (a b:Module):Prop extends PermM a b where
 decl: ∀n,zce a n=zce b n
 fuel:(zbG a.items).length =(zbG b.items).length
theorem PermM.like{a b:Module}(h:PermM a b)(d:Dcl a.items):LikeM a b:=
 {h with
  decl:=fun n=>by rw[zj5,zj5,find_perm h.items d]
  fuel:=firsts_len (find_perm h.items d)}
theorem LikeM.kind{a b:Module}(h:LikeM a b)(n:Str):zbu a n=zbu b n:=by unfold zbu; rw[h.decl]
theorem zwl{a b:Module}(h:LikeM a b): ∀n,zdv a n=zdv b n
 | 0=>rfl
 | n+1=>by
  have e:zca a (zdv a n)=zca b (zdv b n):=by
   funext acc e;unfold zca;rw[h.kind,h.decl,zwl h n]
  funext acc l;rw[zdv,zdv,e]
theorem zq3{a b:Module}(h:LikeM a b)(l:List Expr):zbN a l=zbN b l:=by unfold zbN; rw[zwl h,h.fuel]
theorem early_like{a b:Module}(h:LikeM a b)(x:Item):zic a x=zic b x:=by
 have e1:zjI a=zjI b:=by funext e; unfold zjI; rw[h.kind,h.decl,zq3 h]
 have e2:zkY a=zkY b:=by funext n; unfold zkY; rw[h.kind]
 have e3:zdO a=zdO b:=by funext e; unfold zdO; rw[e1,e2]
 unfold zic; rw[e3]
theorem zqT(n:Str): ∀(l:List Item) (acc:List Str),has (l.foldl zbT acc) n=(has acc n||l.any fun x=>x.kind.1==7&&decide (x.name=n))
 | [],acc=>by simp
 | x::r,acc=>by
  rw[List.foldl_cons,zqT n r,List.any_cons,<-Bool.or_assoc];congr 1;unfold zbT;cases h7:(x.kind.1==7)with
  | false=>simp
  | true=>
   cases hc:has acc x.name with
   | true=>
    by_cases e:x.name=n
    ·subst e; simp[hc]
    ·simp[e]
   | false=>
    rw[if_pos (by rfl),zdQ];congr 1;unfold has;simp only[List.any_cons,List.any_nil,Bool.or_false,Bool.true_and];rw[Bool.eq_iff_iff,decide_eq_true_eq,decide_eq_true_eq];exact eq_comm
theorem takens_perm{a b:Module}(h:a.items.Perm b.items)(n:Str):has (zbz a.items) n=has (zbz b.items) n:=by
 unfold zbz;rw[zqT,zqT,any_perm h]
def incN:Nat->Int->Int
 | 0,z=>z
 | n+1,z=>incN n (inc z)
theorem zpe: ∀(a b:Nat) (z:Int),incN (a+b) z=incN b (incN a z)
 | 0,b,z=>by rw[Nat.zero_add]; rfl
 | a+1,b,z=>by
  rw[show a+1+b=(a+b)+1 by omega];show incN (a+b) (inc z)=incN b (incN a (inc z));exact zpe a b (inc z)
theorem endB_it(l:List Module)(x:Item)(n:Str): ∀(r:List Bind) (acc:Int×Int),r.foldl (zgX l x n) acc=(incN (r.countP (c1B l x n)) acc.1,incN (r.countP (c2B l x n)) acc.2)
 | [],acc=>rfl
 | p::r,acc=>by
  rw[List.foldl_cons,endB_it l x n r,List.countP_cons,List.countP_cons];by_cases h1:(decide (p.chan=n)&&zbS l x p.port==1)=true
  ·have h2:c2B l x n p=false:=by
    unfold c2B;simp only[Bool.and_eq_true,beq_iff_eq]at h1;rw[h1.2]; simp
   have h1':c1B l x n p=true:=h1;have e:zgX l x n acc p=(inc acc.1,acc.2):=by unfold zgX; rw[if_pos h1]
   rw[e,h1',h2]; rfl
  ·have h1':c1B l x n p=false:=by simpa [c1B]using h1
   by_cases h2:(decide (p.chan=n)&&zbS l x p.port==2)=true
   ·have h2':c2B l x n p=true:=h2;have e:zgX l x n acc p=(acc.1,inc acc.2):=(by unfold zgX; rw[if_neg h1,if_pos h2]);rw[e,h1',h2']; rfl
   ·have h2':c2B l x n p=false:=(by simpa [c2B]using h2);have e:zgX l x n acc p=acc:=(by unfold zgX; rw[if_neg h1,if_neg h2]);rw[e,h1',h2']; rfl
theorem endX_it(l:List Module)(n:Str)(acc:Int×Int)(x:Item):zrr l n acc x=(incN (c1 l n x) acc.1,incN (c2 l n x) acc.2):=by
 unfold zrr c1 c2;rw[endB_it,zpe,zpe];unfold endI;by_cases h7:(x.kind.1==7&&decide (x.name=n))=true
 ·have h8:(x.kind.1==8&&decide (x.name=n))=false:=by
   simp only[Bool.and_eq_true,beq_iff_eq]at h7;rw[h7.1]; rfl
  rw[if_pos h7,if_pos h7,h8]; rfl
 ·rw[if_neg h7,if_neg h7];by_cases h8:(x.kind.1==8&&decide (x.name=n))=true
  ·rw[if_pos h8,if_pos h8]; rfl
  ·rw[if_neg h8,if_neg h8]; rfl
theorem ends_it(l:List Module)(n:Str): ∀(r:List Item) (acc:Int×Int),r.foldl (zrr l n) acc=(incN (r.map (c1 l n)).sum acc.1,incN (r.map (c2 l n)).sum acc.2)
 | [],acc=>rfl
 | x::r,acc=>by rw[List.foldl_cons,ends_it l n r,endX_it,List.map_cons,List.map_cons,List.sum_cons,List.sum_cons,zpe,zpe]
theorem ends_perm(l:List Module){a b:Module}(h:a.items.Perm b.items)(n:Str):zeZ l a n=zeZ l b n:=by
 unfold zeZ;rw[ends_it,ends_it,(h.map (c1 l n)).sum_nat,(h.map (c2 l n)).sum_nat]
open Classical in
theorem aput_keys{α:Type}: ∀(l:List (Str×α)) (s:Str) (x:α),(znE l s x).map (·.1)=if s∈l.map (·.1)then l.map (·.1)else l.map (·.1)++[s]
 | [],s,x=>by simp[znE]
 | p::r,s,x=>by
  unfold znE;by_cases h:p.1=s
  ·rw[if_pos h]; simp[h]
  ·rw[if_neg h,List.map_cons,aput_keys r s x];by_cases hr:s∈r.map (·.1)
   ·rw[if_pos hr,if_pos (by rw[List.map_cons]; exact List.mem_cons_of_mem _ hr)]; rfl
   ·rw[if_neg hr,if_neg (by rw[List.map_cons,List.mem_cons,not_or]; exact⟨fun e=>h e.symm,hr⟩)]; rfl
theorem zqG: ∀(l:List Item) (acc:List (Str×Bool)),(acc.map (·.1)).Nodup ->((l.foldl zcs acc).map (·.1)).Nodup /\ ∀s,s∈(l.foldl zcs acc).map (·.1)↔s∈acc.map (·.1)\/ ∃x∈l,zlX x=true/\x.name=s
 | [],acc,h=>⟨h,fun s=>by simp⟩
 | x::r,acc,h=>by
  have hst:((zcs acc x).map (·.1)).Nodup /\ ∀s,s∈(zcs acc x).map (·.1)↔s∈acc.map (·.1)\/(zlX x=true/\x.name=s):=by
   unfold zcs;by_cases hp:zlX x=true
   ·rw[if_pos hp,aput_keys];by_cases hm:x.name∈acc.map (·.1)
    ·rw[if_pos hm];refine⟨h,fun s=>⟨.inl,fun h'=> ?_⟩⟩;rcases h' with h' | ⟨_,rfl⟩
     ·exact h'
     ·exact hm
    ·rw[if_neg hm];refine⟨List.nodup_append.2 ⟨h,by simp,fun a ha b hb e=> ?_⟩,fun s=> ?_⟩
     ·rw[List.mem_singleton]at hb;subst hb;subst e;exact hm ha
     ·rw[List.mem_append,List.mem_singleton];exact⟨fun h'=>h'.imp id (fun e=>⟨hp,e.symm⟩),fun h'=>h'.imp id (fun e=>e.2.symm)⟩
   ·rw[if_neg hp];refine⟨h,fun s=>⟨.inl,fun h'=> ?_⟩⟩;rcases h' with h' | ⟨h',_⟩
    ·exact h'
    ·exact absurd h' hp
  rw[List.foldl_cons];obtain⟨g1,g2⟩:=zqG r _ hst.1;refine⟨g1,fun s=> ?_⟩;rw[g2,hst.2];constructor
  ·rintro((h1 | h1) | ⟨y,h1,h2⟩)
   ·exact .inl h1
   ·exact .inr ⟨x,by simp,h1⟩
   ·exact .inr ⟨y,by simp[h1],h2⟩
  ·rintro(h1 | ⟨y,h1,h2⟩)
   ·exact .inl (.inl h1)
   ·rcases List.mem_cons.1 h1 with rfl | h1
    ·exact .inl (.inr h2)
    ·exact .inr ⟨y,h1,h2⟩
theorem ports_perm{a b:Module}(h:a.items.Perm b.items):((zch a).map (·.1)).Perm ((zch b).map (·.1)):=by
 obtain⟨a1,a2⟩:=zqG a.items [] (by simp);obtain⟨b1,b2⟩:=zqG b.items [] (by simp);refine(List.perm_ext_iff_of_nodup a1 b1).2 (fun s=> ?_);rw[a2,b2];simp only[h.mem_iff]
theorem misIs_like{a b:Module}(h:LikeM a b)(x:Item):ztu x (some a)=ztu x (some b):=by
 have hp:=ports_perm h.items;have e: ∀m:Module,((zch m).any fun p=>(get (znP x.ports) p.1).getD 0 !=1)=((zch m).map (·.1)).any fun s=>(get (znP x.ports) s).getD 0 !=1:=fun m=>by rw[List.any_map]; rfl
 have e2:(zch a).length =(zch b).length :=by simpa only[List.length_map]using hp.length_eq
 unfold ztu;simp only;rw[e,e,any_perm hp,e2,h.params]
def OM(R:Module->Module->Prop):Option Module->Option Module->Prop
 | none,none=>True
 | some a,some b=>R a b
 | _,_=>False
theorem om_symm: ∀ {a b:Option Module},OM PermM a b->OM PermM b a
 | none,none,_=>trivial
 | some _,some _,h=>PermM.symm h
theorem om_some{R:Module->Module->Prop}: ∀ {a b:Option Module},OM R a b->a.isSome=b.isSome
 | none,none,_=>rfl
 | some _,some _,_=>rfl
theorem portOf_om{l l':List Module}{x:Item}(h:OM LikeM (zc9 l x.of) (zc9 l' x.of))(n:Str):zbS l x n=zbS l' x n:=by
 rw[zkv,zkv];cases ha:zc9 l x.of with
 | none=>
  cases hb:zc9 l' x.of with
  | none=>rfl
  | some b=>rw[ha,hb]at h; exact h.elim
 | some a=>
  cases hb:zc9 l' x.of with
  | none=>rw[ha,hb]at h; exact h.elim
  | some b=>
   rw[ha,hb]at h;have hk:LikeM a b:=h;unfold zpw pk;simp only;rw[hk.kind]
theorem misfit_om{l l':List Module}{x:Item}(h:OM LikeM (zc9 l x.of) (zc9 l' x.of)):zeR l x=zeR l' x:=by
 rw[zkn,zkn];cases ha:zc9 l x.of with
 | none=>
  cases hb:zc9 l' x.of with
  | none=>rfl
  | some b=>rw[ha,hb]at h; exact h.elim
 | some a=>
  cases hb:zc9 l' x.of with
  | none=>rw[ha,hb]at h; exact h.elim
  | some b=>
   rw[ha,hb]at h;exact misIs_like h x
theorem ends_om{l l':List Module}(h: ∀n,OM LikeM (zc9 l n) (zc9 l' n))(m:Module)(n:Str):zeZ l m n=zeZ l' m n:=by
 have e:zrr l n=zrr l' n:=by
  funext acc x;have e1:zgX l x n=zgX l' x n:=by
   funext acc b;unfold zgX;rw[portOf_om (h x.of)]
  unfold zrr;rw[e1]
 unfold zeZ;rw[e]
theorem lost_like{l l':List Module}(hl: ∀n,OM LikeM (zc9 l n) (zc9 l' n)){a b:Module}(h:LikeM a b)(x:Item):zdp l a x=zdp l' b x:=by
 have e1:zjq a=zjq b:=by funext e; unfold zjq; rw[h.kind,takens_perm h.items]
 have e2:zpn a=zpn b:=by funext c; unfold zpn; rw[h.kind]
 have e3:zjr a=zjr b:=by funext c; unfold zjr; rw[h.params]
 have e4:zfj l a x=zfj l' b x:=by unfold zfj; rw[h.kind,e2,zkd,zkd,om_some (hl x.of)]
 unfold zdp;rw[e1,e3,e4]
theorem kindBad_like{l l':List Module}(hl: ∀n,OM LikeM (zc9 l n) (zc9 l' n)){a b:Module}(h:LikeM a b)(x:Item):zcK l a x=zcK l' b x:=by
 unfold zcK;rw[zq3 h,ends_perm l h.items,ends_om hl,misfit_om (hl x.of),early_like h]
theorem zvM(l:List Module)(n:Str):zc9 l n=l.find? fun m=>decide (m.name=n):=by
 unfold zc9;rw[zhl,Option.map_map];cases hq:l.findIdx? fun m=>decide (m.name=n)with
 | none=>
  rw[List.findIdx?_eq_none_iff]at hq;symm;rw[Option.map_none,List.find?_eq_none];intro x hx;rw[hq x hx];simp
 | some i=>
  rw[List.findIdx?_eq_some_iff_getElem]at hq;obtain⟨h1,h2,h3⟩:=hq;symm;rw[Option.map_some,List.find?_eq_some_iff_getElem];refine⟨?_,i,h1,?_,fun j hj=> ?_⟩
  ·simpa [List.getD,h1]using h2
  ·simp[List.getD,h1]
  ·have:=h3 j hj;simpa using this
theorem zmO{l:List Module}{n:Str}{m:Module}(h:zc9 l n=some m):m∈l/\m.name=n:=by
 rw[zvM]at h;exact⟨List.mem_of_find?_eq_some h,by simpa using List.find?_some h⟩
theorem zqz{l:List Module}(hn:(l.map Module.name).Nodup){m:Module}(hm:m∈l):zc9 l m.name=some m:=by
 cases hq:zc9 l m.name with
 | none=>
  rw[zvM,List.find?_eq_none]at hq;exact absurd (decide_eq_true rfl) (hq m hm)
 | some y=>
  obtain⟨h1,h2⟩:=zmO hq;rw[inj_nodup hn h1 hm h2]
theorem zqe{l:List Module}(hn:(l.map Module.name).Nodup){i:Nat}(hi:i<l.length):zcA l l[i].name =some (i:Int):=by
 have h:l.findIdx? (fun m=>decide (m.name=l[i].name))=some i:=by
  rw[List.findIdx?_eq_some_iff_getElem];refine⟨hi,by simp,fun j hj=> ?_⟩;have:=List.pairwise_iff_getElem.1 hn j i (by rw[List.length_map]; omega) (by rw[List.length_map]; exact hi) hj;simpa using this
 rw[zhl,h];rfl
structure LikeF (l l':List Module):Prop where
 n1:(l.map Module.name).Nodup
 n2:(l'.map Module.name).Nodup
 mods: ∀n,OM PermM (zc9 l n) (zc9 l' n)
theorem LikeF.symm{l l':List Module}(h:LikeF l l'):LikeF l' l:=⟨h.n2,h.n1,fun n=>om_symm (h.mods n)⟩
theorem like_norm{l:List Module}(h:Parted l):LikeF l (zcC l):=by
 have n2:((zcC l).map Module.name).Nodup :=by
  unfold zcC;rw[List.map_map];exact((zcn (lt:=ltS) (key:=Module.name) l).map Module.name).nodup_iff.2 h.names
 have hmem: ∀m,m∈zcC l↔ ∃q∈l,zl5 q=m:=fun m=>by
  unfold zcC;rw[List.mem_map];simp only[(zcn (lt:=ltS) (key:=Module.name) l).mem_iff]
 refine⟨h.names,n2,fun n=> ?_⟩;cases hq:zc9 l n with
 | some m=>
  obtain⟨h1,h2⟩:=zmO hq;have h3:=zqz n2 ((hmem (zl5 m)).2 ⟨m,h1,rfl⟩);have e:(zl5 m).name =n:=h2;rw[e]at h3;rw[h3];exact⟨rfl,rfl,rfl,(zcn (lt:=ltP) (key:=zbg) m.items).symm⟩
 | none=>
  cases hp:zc9 (zcC l) n with
  | none=>exact trivial
  | some y=>
   obtain⟨h1,h2⟩:=zmO hp;obtain⟨q,h3,rfl⟩:=(hmem y).1 h1;have h4:=zqz h.names h3;have e:q.name=n:=h2;rw[e,hq]at h4;cases h4
theorem Way.map{E E':Nat->Nat->Prop}(f:Nat->Nat)(h: ∀i j,E i j->E' (f i) (f j)){i j:Nat}(w:Way E i j):Way E' (f i) (f j):=by
 induction w with
 | one e=>exact .one (h _ _ e)
 | more e _ ih=>exact .more (h _ _ e) ih
theorem ztZ{l:List Module}{to:Nat}{rec:Nat->List Nat->Bool×List Nat}(hr: ∀i s s',rec i s=(true,s')->Way (zhx l) i to): ∀(r:List Item) (s s':List Nat),zbH l rec to r s=(true,s')-> ∃x∈r,∃j,zbE l x=some j/\(j=to\/Way (zhx l) j to)
 | [],s,s',h=>by simp[zbH]at h
 | x::r,s,s',h=>by
  have ih: ∀s s',zbH l rec to r s=(true,s')-> ∃y∈x::r,∃j,zbE l y=some j/\(j=to\/Way (zhx l) j to):=fun s s' h=>by
   obtain⟨y,hy,q⟩:=ztZ hr r s s' h;exact⟨y,List.mem_cons_of_mem _ hy,q⟩
  unfold zbH at h;cases hi:zbE l x with
  | none=>rw[hi]at h; exact ih s s' h
  | some i=>
   rw[hi]at h;simp only at h;by_cases hc:s.contains i=true
   ·rw[if_pos hc]at h; exact ih s s' h
   ·rw[if_neg hc]at h;by_cases ht:i=to
    ·exact⟨x,by simp,i,hi,.inl ht⟩
    ·rw[if_neg ht]at h;cases hq:rec i (s++[i])with
     | mk b s1=>
      rw[hq]at h;cases b with
      | true=>exact⟨x,by simp,i,hi,.inr (hr i _ _ hq)⟩
      | false=>exact ih s1 s' h
theorem zvY(l:List Module)(to:Nat): ∀(n i:Nat) (s s':List Nat),zc1 l to n i s=(true,s')->Way (zhx l) i to
 | 0,i,s,s',h=>by simp[zc1]at h
 | n+1,i,s,s',h=>by
  unfold zc1 at h;obtain⟨x,hx,j,hj,q⟩:=ztZ (fun i s s' h=>zvY l to n i s s' h) _ s s' h;have e:zhx l i j:=⟨x,hx,hj⟩;rcases q with rfl | q
  ·exact .one e
  ·exact .more e q
theorem loops_way{l:List Module}{i:Nat}(h:loops l i=true):Way (zhx l) i i:=by
 unfold loops at h;cases hq:zc1 l i (l.length+1) i []with
 | mk b s=>
  rw[hq]at h;simp only at h;subst h;exact zvY _ _ _ _ _ _ hq
theorem zwX{l:List Module}{i:Nat}(hi:i<l.length):l.getD i zdP=l[i]:=by simp[List.getD,hi]
def toF(l l':List Module)(i:Nat):Nat:=((zcA l (l'.getD i zdP).name).map Int.toNat).getD 0
theorem zxS{l l':List Module}(h:LikeF l l'){i:Nat}(hi:i<l'.length): ∃hk:toF l l' i<l.length,PermM l[toF l l' i] l'[i]:=by
 have h1:=zqz h.n2 (List.getElem_mem hi);have h2:=h.mods l'[i].name;rw[h1]at h2;cases hq:zc9 l l'[i].name with
 | none=>rw[hq]at h2; exact h2.elim
 | some m=>
  rw[hq]at h2;obtain⟨h3,h4⟩:=zmO hq;obtain⟨k,hk,rfl⟩:=List.getElem_of_mem h3;have h5:toF l l' i=k:=by
   unfold toF;rw[zwX hi,<-h4,zqe h.n1 hk];rfl
  rw[h5];exact⟨hk,h2⟩
theorem edge_like{l l':List Module}(h:LikeF l l')(i j:Nat)(e:zhx l' i j):zhx l (toF l l' i) (toF l l' j):=by
 obtain⟨x,hx,hj⟩:=e;have hi:i<l'.length:=by
  rcases Nat.lt_or_ge i l'.length with hi | hi
  ·exact hi
  ·rw[List.getD_eq_getElem?_getD,List.getElem?_eq_none hi]at hx;cases hx
 rw[zwX hi]at hx;obtain⟨hk,hp⟩:=zxS h hi;refine⟨x,by rw[zwX hk]; exact hp.items.mem_iff.2 hx,?_⟩;obtain⟨hjl,hf⟩:=ziN hj;have hn:l'[j].name =x.of:=by
  obtain⟨k,hk',e1,e2⟩:=zfB hf;have:j=k:=by omega
  subst this;exact e2
 have hk9:x.kind.1=9:=by
  unfold zbE at hj;split at hj
  ·assumption
  ·cases hj
 obtain⟨hkj,hpj⟩:=zxS h hjl;have h6:=zqe h.n1 hkj;rw[hpj.name,hn]at h6;unfold zbE;rw[if_pos hk9,h6];rfl
theorem zwj{l l':List Module}(h:LikeF l l')(hv:zbi l=true):zbi l'=true:=by
 have V:=(zhU l).1 hv;have hd: ∀m∈l,Dcl m.items:=fun m hm=>by
  obtain⟨i,hi,rfl⟩:=List.getElem_of_mem hm;rw[dcl_iff];intro k hk hdk;have h1:=(zen ((V i hi).2 k hk)).1 hdk;unfold zaT at h1;simp only[Bool.or_eq_false_iff]at h1;exact h1.1.1
 have hl: ∀n,OM LikeM (zc9 l n) (zc9 l' n):=fun n=>by
  have h1:=h.mods n;cases hq:zc9 l n with
  | none=>
   cases hp:zc9 l' n with
   | none=>exact trivial
   | some b=>rw[hq,hp]at h1; exact h1.elim
  | some a=>
   cases hp:zc9 l' n with
   | none=>rw[hq,hp]at h1; exact h1.elim
   | some b=>
    rw[hq,hp]at h1;exact PermM.like h1 (hd a (zmO hq).1)
 rw[zhU];intro i hi;obtain⟨hj,hp⟩:=zxS h hi;obtain⟨v1,v2⟩:=V _ hj;have hL:=hp.like (hd _ (List.getElem_mem hj));have hD:=(hd _ (List.getElem_mem hj)).perm hp.items;have hn:=zqe h.n2 hi;have hw: ¬Way (zhx l) (toF l l' i) (toF l l' i):=by
  unfold zcx at v1;simp only[Bool.or_eq_false_iff]at v1;exact zqx hj v1.2
 obtain⟨m,hm⟩:=zX (l[toF l l' i]);obtain⟨m',hm'⟩:=zX (l'[i]);rw[hm]at v1 hp hL;rw[hm']at hp hL hD hn ⊢;refine⟨?_,fun k hk=> ?_⟩
 ·unfold zcx zbX zjn at v1 ⊢;simp only[Bool.or_eq_false_iff]at v1 ⊢;refine⟨⟨⟨⟨?_,?_⟩,?_⟩,?_⟩,?_⟩
  ·rw[<-hp.name]; exact v1.1.1.1.1
  ·rw[<-hp.clock]; exact v1.1.1.1.2
  ·rw[hn];exact decide_eq_false (by simp)
  ·rw[<-hp.params]; exact v1.1.2
  ·cases hq:loops l' i with
   | false=>rfl
   | true=>exact absurd (Way.map (toF l l') (edge_like h) (loops_way hq)) hw
 ·have hx:m'.items[k]∈m.items:=hp.items.mem_iff.2 (List.getElem_mem hk);obtain⟨k0,hk0,he⟩:=List.getElem_of_mem hx;have h1:=zen (v2 k0 (by rw[hm]; exact hk0));have e0:l[toF l l' i].items[k0]'(by rw[hm]; exact hk0)=m'.items[k]:=by simp only[hm]; exact he
  rw[e0,hm]at h1;obtain⟨g1,g2,g3,g4⟩:=h1;unfold zaV;simp only[Bool.or_eq_false_iff];refine⟨⟨⟨?_,g2⟩,by rw[<-lost_like hl hL]; exact g3⟩,by rw[<-kindBad_like hl hL]; exact g4⟩;cases hq:zaW m'.items[k].kind.1 with
  | false=>rfl
  | true=>
   have g:=g1 hq;unfold zaT at g ⊢;simp only[Bool.or_eq_false_iff]at g;simp only[Bool.true_and,Bool.or_eq_false_iff];exact⟨⟨(dcl_iff _).1 hD k hk hq,g.1.2⟩,by rw[<-hp.params]; exact g.2⟩
theorem zwk{l:List Module}(h:Parted l):zbi (zcC l)=zbi l:=by
 rw[Bool.eq_iff_iff];exact⟨zwj (like_norm h).symm,zwj (like_norm h)⟩
open Nat renaming reduceEqDiff->pE,reduceLT->pL,reduceAdd->pA,reduceSub->pS,reduceMul->pM,reduceLeDiff->pD
open Int renaming reduceToNat->qT,reduceGT->qG,reduceLT->qL,reduceGE->qH,reduceBNe->qN,reduceBEq->qB,reduceLE->qE,reduceNe->qO,reduceAdd->qA,reduceNeg->qM
set_option maxHeartbeats 40000000
theorem neutral_c(x:Raw)(hx:x.ok)(a b c:List K3)(ha: ∀k∈a,k.ok)(hb: ∀k∈b,k.ok)(hc: ∀k∈c,k.ok):FnP Tryz.prog 10 [zew x,e72 a b c] (.d (eB true)) []:=by
 refine FnP.of_eC (own:=[]) (fun _=>[]) zat Tryz.func10 rfl Tryz.call10 Tryz.ntmps10 (Nat.le_of_ble_eq_true rfl) Tryz.results10 (fun hok=> ?_);have mk:=zpp x hx a b c ha hb hc;have gB:=(zmB x a).mono (k:=12) (by omega);have gX:=zli x a b;obtain⟨B,hB⟩:=zX (zhA x a);obtain⟨X,hX⟩:=zX (zfc (zhA x a) b);obtain⟨Y,hY⟩:=zX (zfc (zhA x a) c);rw[hX]at gX;rw[hX,hY]at mk;rw[hB]at mk gB;have sz:=(gX.gs (by omega)).sz;have nc:=zih X gX.part.names gX.part.parts sz.len sz.items;have vc:=zfs X (gi_small (by omega) gX);have vn:=zwk gX.part;have m1:=zhL (by omega) gB gB gX;have m2:=zhL (by omega) gB gX gB;have m3:=zhL (by omega) gB gX gX;rw[neutral1 gB.fl gX.fl,vn]at m1;rw[neutral2 gB.fl gX.fl,vn]at m2;rw[neutral3 gB.fl gX.fl,vn]at m3;obtain⟨N,hN⟩:=zX (zcC X);rw[hN]at nc m1 m2 m3;simp(maxSteps:=4000000) only[ZE,↓reduceIte,pE,pL,pA,pS,pM,pD,zew,e72]at mk;simp(maxSteps:=4000000) only[ZE,↓reduceIte,pE,pL,pA,pS,pM,pD]at nc;cases hv:zbi X with
 | true=>
  rw[hv]at vc m1 m2 m3;rw[if_pos rfl]at m1 m2 m3;have al:=zn0 ⟨N,[],0⟩ ⟨N,[],0⟩;rw[zhQ]at al;simp only[eGot,List.map_nil]at m1 m2 m3 al;simp(maxSteps:=4000000) only[ZE,↓reduceIte,pE,pL,pA,pS,pM,pD]at m1 m2 m3 al;simp(maxSteps:=4000000) only[ZE,↓reduceIte,pE,pL,pA,pS,pM,pD,zN,qT,qG,qL,qH,qN,qB,qE,qO,qA,qM,zew,e72];refine EFn.p ?_;simp(maxSteps:=4000000) only[ZE,↓reduceIte,pE,pL,pA,pS,pM,pD,zN,qT,qG,qL,qH,qN,qB,qE,qO,qA,qM];refine zar.i zez ?_;simp(maxSteps:=4000000) only[ZE,↓reduceIte,pE,pL,pA,pS,pM,pD,zN,qT,qG,qL,qH,qN,qB,qE,qO,qA,qM];refine EFn.p ?_;simp(maxSteps:=4000000) only[ZE,↓reduceIte,pE,pL,pA,pS,pM,pD,zN,qT,qG,qL,qH,qN,qB,qE,qO,qA,qM];refine zar.i mk ?_;simp(maxSteps:=4000000) only[ZE,↓reduceIte,pE,pL,pA,pS,pM,pD,zN,qT,qG,qL,qH,qN,qB,qE,qO,qA,qM];refine EFn.p ?_;simp(maxSteps:=4000000) only[ZE,↓reduceIte,pE,pL,pA,pS,pM,pD,zN,qT,qG,qL,qH,qN,qB,qE,qO,qA,qM];refine zar.i nc ?_;simp(maxSteps:=4000000) only[ZE,↓reduceIte,pE,pL,pA,pS,pM,pD,zN,qT,qG,qL,qH,qN,qB,qE,qO,qA,qM];refine EFn.p ?_;simp(maxSteps:=4000000) only[ZE,↓reduceIte,pE,pL,pA,pS,pM,pD,zN,qT,qG,qL,qH,qN,qB,qE,qO,qA,qM];refine zar.i vc ?_;simp(maxSteps:=4000000) only[ZE,↓reduceIte,pE,pL,pA,pS,pM,pD,zN,qT,qG,qL,qH,qN,qB,qE,qO,qA,qM];refine EFn.p ?_;simp(maxSteps:=4000000) only[ZE,↓reduceIte,pE,pL,pA,pS,pM,pD,zN,qT,qG,qL,qH,qN,qB,qE,qO,qA,qM];refine zar.i m1 ?_;simp(maxSteps:=4000000) only[ZE,↓reduceIte,pE,pL,pA,pS,pM,pD,zN,qT,qG,qL,qH,qN,qB,qE,qO,qA,qM];refine EFn.p ?_;simp(maxSteps:=4000000) only[ZE,↓reduceIte,pE,pL,pA,pS,pM,pD,zN,qT,qG,qL,qH,qN,qB,qE,qO,qA,qM];refine zar.i m2 ?_;simp(maxSteps:=4000000) only[ZE,↓reduceIte,pE,pL,pA,pS,pM,pD,zN,qT,qG,qL,qH,qN,qB,qE,qO,qA,qM];refine EFn.p ?_;simp(maxSteps:=4000000) only[ZE,↓reduceIte,pE,pL,pA,pS,pM,pD,zN,qT,qG,qL,qH,qN,qB,qE,qO,qA,qM];refine zar.i m3 ?_;simp(maxSteps:=4000000) only[ZE,↓reduceIte,pE,pL,pA,pS,pM,pD,zN,qT,qG,qL,qH,qN,qB,qE,qO,qA,qM];refine EFn.p ?_;simp(maxSteps:=4000000) only[ZE,↓reduceIte,pE,pL,pA,pS,pM,pD,zN,qT,qG,qL,qH,qN,qB,qE,qO,qA,qM];refine zar.i al ?_;simp(maxSteps:=4000000) only[ZE,↓reduceIte,pE,pL,pA,pS,pM,pD,zN,qT,qG,qL,qH,qN,qB,qE,qO,qA,qM];refine EFn.p ?_;simp(maxSteps:=4000000) only[ZE,↓reduceIte,pE,pL,pA,pS,pM,pD,zN,qT,qG,qL,qH,qN,qB,qE,qO,qA,qM];refine zar.i al ?_;simp(maxSteps:=4000000) only[ZE,↓reduceIte,pE,pL,pA,pS,pM,pD,zN,qT,qG,qL,qH,qN,qB,qE,qO,qA,qM];refine EFn.p ?_;simp(maxSteps:=4000000) only[ZE,↓reduceIte,pE,pL,pA,pS,pM,pD,zN,qT,qG,qL,qH,qN,qB,qE,qO,qA,qM];refine zar.i al ?_;simp(maxSteps:=4000000) only[ZE,↓reduceIte,pE,pL,pA,pS,pM,pD,zN,qT,qG,qL,qH,qN,qB,qE,qO,qA,qM]
 | false=>
  rw[hv]at vc m1 m2 m3;rw[if_neg Bool.false_ne_true]at m1 m2 m3;have al:=zn0 ⟨[],[],100⟩ ⟨[],[],100⟩;rw[zhQ]at al;simp only[eGot,List.map_nil]at m1 m2 m3 al;simp(maxSteps:=4000000) only[ZE,↓reduceIte,pE,pL,pA,pS,pM,pD]at m1 m2 m3 al;simp(maxSteps:=4000000) only[ZE,↓reduceIte,pE,pL,pA,pS,pM,pD,zN,qT,qG,qL,qH,qN,qB,qE,qO,qA,qM,zew,e72];refine EFn.p ?_;simp(maxSteps:=4000000) only[ZE,↓reduceIte,pE,pL,pA,pS,pM,pD,zN,qT,qG,qL,qH,qN,qB,qE,qO,qA,qM];refine zar.i zez ?_;simp(maxSteps:=4000000) only[ZE,↓reduceIte,pE,pL,pA,pS,pM,pD,zN,qT,qG,qL,qH,qN,qB,qE,qO,qA,qM];refine EFn.p ?_;simp(maxSteps:=4000000) only[ZE,↓reduceIte,pE,pL,pA,pS,pM,pD,zN,qT,qG,qL,qH,qN,qB,qE,qO,qA,qM];refine zar.i mk ?_;simp(maxSteps:=4000000) only[ZE,↓reduceIte,pE,pL,pA,pS,pM,pD,zN,qT,qG,qL,qH,qN,qB,qE,qO,qA,qM];refine EFn.p ?_;simp(maxSteps:=4000000) only[ZE,↓reduceIte,pE,pL,pA,pS,pM,pD,zN,qT,qG,qL,qH,qN,qB,qE,qO,qA,qM];refine zar.i nc ?_;simp(maxSteps:=4000000) only[ZE,↓reduceIte,pE,pL,pA,pS,pM,pD,zN,qT,qG,qL,qH,qN,qB,qE,qO,qA,qM];refine EFn.p ?_;simp(maxSteps:=4000000) only[ZE,↓reduceIte,pE,pL,pA,pS,pM,pD,zN,qT,qG,qL,qH,qN,qB,qE,qO,qA,qM];refine zar.i vc ?_;simp(maxSteps:=4000000) only[ZE,↓reduceIte,pE,pL,pA,pS,pM,pD,zN,qT,qG,qL,qH,qN,qB,qE,qO,qA,qM];refine EFn.p ?_;simp(maxSteps:=4000000) only[ZE,↓reduceIte,pE,pL,pA,pS,pM,pD,zN,qT,qG,qL,qH,qN,qB,qE,qO,qA,qM];refine zar.i m1 ?_;simp(maxSteps:=4000000) only[ZE,↓reduceIte,pE,pL,pA,pS,pM,pD,zN,qT,qG,qL,qH,qN,qB,qE,qO,qA,qM];refine EFn.p ?_;simp(maxSteps:=4000000) only[ZE,↓reduceIte,pE,pL,pA,pS,pM,pD,zN,qT,qG,qL,qH,qN,qB,qE,qO,qA,qM];refine zar.i m2 ?_;simp(maxSteps:=4000000) only[ZE,↓reduceIte,pE,pL,pA,pS,pM,pD,zN,qT,qG,qL,qH,qN,qB,qE,qO,qA,qM];refine EFn.p ?_;simp(maxSteps:=4000000) only[ZE,↓reduceIte,pE,pL,pA,pS,pM,pD,zN,qT,qG,qL,qH,qN,qB,qE,qO,qA,qM];refine zar.i m3 ?_;simp(maxSteps:=4000000) only[ZE,↓reduceIte,pE,pL,pA,pS,pM,pD,zN,qT,qG,qL,qH,qN,qB,qE,qO,qA,qM];refine EFn.p ?_;simp(maxSteps:=4000000) only[ZE,↓reduceIte,pE,pL,pA,pS,pM,pD,zN,qT,qG,qL,qH,qN,qB,qE,qO,qA,qM];refine zar.i al ?_;simp(maxSteps:=4000000) only[ZE,↓reduceIte,pE,pL,pA,pS,pM,pD,zN,qT,qG,qL,qH,qN,qB,qE,qO,qA,qM];refine EFn.p ?_;simp(maxSteps:=4000000) only[ZE,↓reduceIte,pE,pL,pA,pS,pM,pD,zN,qT,qG,qL,qH,qN,qB,qE,qO,qA,qM];refine zar.i al ?_;simp(maxSteps:=4000000) only[ZE,↓reduceIte,pE,pL,pA,pS,pM,pD,zN,qT,qG,qL,qH,qN,qB,qE,qO,qA,qM];refine EFn.p ?_;simp(maxSteps:=4000000) only[ZE,↓reduceIte,pE,pL,pA,pS,pM,pD,zN,qT,qG,qL,qH,qN,qB,qE,qO,qA,qM];refine zar.i al ?_;simp(maxSteps:=4000000) only[ZE,↓reduceIte,pE,pL,pA,pS,pM,pD,zN,qT,qG,qL,qH,qN,qB,qE,qO,qA,qM]
theorem zu2(os:Os)(started:os.Started)(H:Type)(enc:TypeId×Value->H):
  ReturnsInHanded {} Tryz.checked os 10 .any (Rows.mergeNeutralSpec.pre6 enc Tryz.prog Tryz.f10 Rows.mergeNeutralRow.domain false) (Rows.mergeNeutralSpec.post enc Tryz.prog Tryz.f10 false true false false):=by
 refine returnsInHanded_of_change (C:=Tryz.checked) own started (by kernel_rfl) Tryz.func10
  (ChangeSpec.witness6 (enc:=enc) (C:=Tryz.checked) false ⟨#[],#[.agg #[.int .u8 0,.int .u8 0,.slice none 0 0],.agg #[.slice none 0 0,.slice none 0 0,.slice none 0 0]],[]⟩ 8 (by kernel_rfl) (by kernel_rfl) (by kernel_rfl) (by kernel_rfl)) ?_
 intro W base args ds gs before hval hW _ _;refine zdL (P:=Tryz.prog) (n:=8) (ss:=[zkM,sh72]) zdF (of_decide_eq_true (by kernel_rfl)) (tb:=4) (by kernel_rfl) Tryz.underlying4 (by kernel_rfl) rfl hval hW (fun hl=> ?_) (fun Ds hD _=> ?_)
 ·match ds,hl with
  | [_,_],_=>rfl
 ·obtain⟨a,b,rfl,ha,hb⟩:=zlb hD;obtain⟨x,rfl,hx⟩:=zhO ha;obtain⟨k0,k1,k2,rfl,h0,h1,h2⟩:=zz3 hb;exact neutral_c x hx k0 k1 k2 h0 h1 h2
theorem neutral_j0:jG0 Tryz.prog 10 Tryz.f10 Rows.mergeNeutralSpec Rows.mergeNeutralRow=true:=by kernel_rfl
theorem neutral_j1:jG1 Tryz.prog 10 Tryz.f10 Rows.mergeNeutralSpec Rows.mergeNeutralRow=true:=by kernel_rfl
theorem neutral_j2:jG2 Tryz.prog 10 Tryz.f10 Rows.mergeNeutralSpec Rows.mergeNeutralRow=true:=by kernel_rfl
theorem neutral_j3:jG3 Tryz.prog 10 Tryz.f10 Rows.mergeNeutralSpec Rows.mergeNeutralRow=true:=by kernel_rfl
theorem neutral_j4:jG4 Tryz.prog 10 Tryz.f10 Rows.mergeNeutralSpec Rows.mergeNeutralRow=true:=by kernel_rfl
theorem neutral_j5:jG5 Tryz.prog 10 Tryz.f10 Rows.mergeNeutralSpec Rows.mergeNeutralRow=true:=by kernel_rfl
theorem neutral_j6:jG6 Tryz.prog 10 Tryz.f10 Rows.mergeNeutralSpec Rows.mergeNeutralRow=true:=by kernel_rfl
theorem neutral_j7:jG7 Tryz.prog 10 Tryz.f10 Rows.mergeNeutralSpec Rows.mergeNeutralRow=true:=by kernel_rfl
theorem neutral_j8:jG8 Tryz.prog 10 Tryz.f10 Rows.mergeNeutralSpec Rows.mergeNeutralRow=true:=by kernel_rfl
theorem neutral_j:joinedFacts Tryz.prog 10 Tryz.f10 Rows.mergeNeutralSpec Rows.mergeNeutralRow=true:=ziO jP1 jP2 jP6 jP8 jP24 jP25 neutral_j0 neutral_j1 neutral_j2 neutral_j3 neutral_j4 neutral_j5 neutral_j6 neutral_j7 neutral_j8
theorem neutral_holds:Rows.MergeNeutralSaid:=
 OpenClaim.holds_of_wide 10 Tryz.f10 rfl rfl rfl rfl rfl rfl rfl ⟨rfl,rfl,rfl,rfl,rfl⟩ rfl rfl rfl rfl rfl (by kernel_rfl) Tryz.func10 neutral_j
  (of_decide_eq_true (by kernel_rfl)) (by unfold Func.isWrapper; first | (rw[if_pos (by decide+kernel)]; kernel_rfl) | (rw[if_neg (by decide+kernel)]; exact⟨rfl,rfl⟩))
  (fun os started H enc _=>zu2 os started H enc)
end Go.Proofs.YtbenhdgpogiadaaGreat
