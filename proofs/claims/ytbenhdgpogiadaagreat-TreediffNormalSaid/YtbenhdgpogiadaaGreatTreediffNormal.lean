/-
 TreediffNormal: the normal form of a normal form is the same; files that differ only in the order of modules and of items have the same normal form and no difference; a file is zbi exactly if its normal form is.
 Conditions: none.
-/
import Derived.Test.YtbenhdgpogiadaaGreatNGL
import Derived.Test.YtbenhdgpogiadaaGreatNK2
import Derived.Test.YtbenhdgpogiadaaGreatRows
import Derived.Test.YtbenhdgpogiadaaGreatNK5
import Derived.Test.YtbenhdgpogiadaaGreatNGJf
import Derived.Test.YtbenhdgpogiadaaGreatNK11
import Derived.Test.YtbenhdgpogiadaaGreatNK1
import Derived.Test.YtbenhdgpogiadaaGreatNK10
import Derived.Test.YtbenhdgpogiadaaGreatNK7
import Derived.Test.YtbenhdgpogiadaaGreatNK8
set_option linter.unusedSimpArgs false
set_option linter.unusedVariables false
/-
 ARGUMENTS OF THE LAWS AS DATA.
-/
namespace Go.Proofs.YtbenhdgpogiadaaGreat
open Go.Aw Go.ChangeShapes Go.WideShapes Go.ChangeAt Go.RowKit
set_option maxRecDepth 100000
theorem own:ownKnob Tryz.prog.godebug=none:=by kernel_rfl
theorem zdF:laidOutB Tryz.prog=true:=by kernel_rfl
def zkM:ASh:=.agg [.int .u8,.int .u8,.sl [.int .u8]]
def shK2:ASh:=.agg [.int .u8,.int .u8]
def shK4:ASh:=.agg [.int .u8,.int .u8,.int .u8,.int .u8]
def shB:ASh:=.one (.sl [.int .u8])
theorem zk5{d:D}(h:Sh.fits (.sl [.int .u8]) d): ∃l:List Nat,d=zau l/\ ∀b∈l,b<256:=by
 obtain⟨l,rfl,hl⟩:=zgZ (enc:=fun b:Nat=>[eU8 b]) (p:=fun b=>b<256) (fun e he=>by
  obtain⟨x,rfl,hx⟩:=zjP he;obtain⟨n,rfl,hn⟩:=zeG hx;exact⟨n,rfl,hn⟩) h
 exact⟨l,rfl,hl⟩
theorem jP1:laidOutB Tryz.prog=true:=zdF
theorem jP2:mapsRowed Tryz.prog=true:=by kernel_rfl
theorem jP6:(Tryz.prog.stops==[])=true:=by kernel_rfl
theorem jP8:(Tryz.prog.stopKnobs==[])=true:=by kernel_rfl
theorem jP24:Tryz.prog.stopsHeard=true:=by kernel_rfl
theorem jP25:Tryz.prog.mayEnter=true:=by kernel_rfl
def shPair:ASh:=.agg [.int .u8,.int .u8,.sl [.int .u8],.int .u8,.int .u8,.sl [.int .u8],.sl [.int .u8,.int .u8,.int .u8,.int .u8],.sl [.int .u8,.int .u8,.int .u8,.int .u8]]
def eZ2(x y:Raw)(l m:List K4):D:=.agg [eU8 x.kind,eU8 x.w,zau x.l,eU8 y.kind,eU8 y.w,zau y.l,.sl (l.map eK4),.sl (m.map eK4)]
theorem k4s_of{d:D}(h:Sh.fits (.sl [.int .u8,.int .u8,.int .u8,.int .u8]) d): ∃l:List K4,d= .sl (l.map eK4)/\ ∀k∈l,k.ok:=by
 obtain⟨l,rfl,hl⟩:=zgZ (enc:=eK4) (p:=K4.ok) (fun e0 h0=>by
  obtain⟨a,b,c,e,rfl,h1,h2,h3,h4⟩:=fitsL_4 h0;obtain⟨a,rfl,ha⟩:=zeG h1;obtain⟨b,rfl,hb⟩:=zeG h2;obtain⟨c,rfl,hc⟩:=zeG h3;obtain⟨e,rfl,he⟩:=zeG h4;exact⟨⟨a,b,c,e⟩,rfl,ha,hb,hc,he⟩) h
 exact⟨l,rfl,hl⟩
theorem pair_of{d:D}(h:shPair.fits d): ∃x y l m,d=eZ2 x y l m/\x.ok/\y.ok/\(∀k∈l,k.ok)/\ ∀k∈m,k.ok:=by
 obtain⟨ds,rfl,h⟩:=h;simp only[Sh.fitsL]at h;obtain⟨a,_,rfl,h1,b,_,rfl,h2,c,_,rfl,h3,a',_,rfl,h4,b',_,rfl,h5,c',_,rfl,h6,l,_,rfl,h7,m,_,rfl,h8,rfl⟩:=h;obtain⟨k,rfl,hk⟩:=zeG h1;obtain⟨w,rfl,hw⟩:=zeG h2;obtain⟨bs,rfl,hbs⟩:=zk5 h3;obtain⟨k',rfl,hk'⟩:=zeG h4;obtain⟨w',rfl,hw'⟩:=zeG h5;obtain⟨bs',rfl,hbs'⟩:=zk5 h6;obtain⟨l,rfl,hl⟩:=k4s_of h7;obtain⟨m,rfl,hm⟩:=k4s_of h8;exact⟨⟨k,w,bs⟩,⟨k',w',bs'⟩,l,m,rfl,⟨hk,hw,hbs⟩,⟨hk',hw',hbs'⟩,hl,hm⟩
open Go.Aw
theorem zv2(a:List Module):zl6 a a=true:=(zm3 a a).2 rfl
theorem zxo(a:List Module)(h:Sm a):FnP Tryz.prog 24 [.agg [zax a]] (.d (.agg [zax (zcC a)])) []:=zih a h.nok.names h.nok.parts h.nok.len h.nok.items
theorem diff_s(a b:List Module)(h:Sm a)(h':Sm b):FnP Tryz.prog 21 [.agg [zax a],.agg [zax b]] (.d (.sl ((zrp a b).map zfN))) []:=zsv a b h.nok h'.nok (by have:=h.diff h'; omega)
theorem perm_one{α:Type}: ∀ {a b:List α},a.Perm b->a.length<=1->a=b
 | [],_,h,_=>h.nil_eq
 | [_],_,h,_=>(List.perm_singleton.1 h.symm).symm
 | _::_::_,_,_,hl=>by simp only[List.length_cons]at hl; omega
theorem any_perm{α:Type}{a b:List α}(h:a.Perm b)(p:α->Bool):a.any p=b.any p:=by
 rw[Bool.eq_iff_iff,List.any_eq_true,List.any_eq_true];exact⟨fun⟨x,h1,h2⟩=>⟨x,h.mem_iff.1 h1,h2⟩,fun⟨x,h1,h2⟩=>⟨x,h.mem_iff.2 h1,h2⟩⟩
theorem inj_nodup{α β:Type}{f:α->β}: ∀ {l:List α},(l.map f).Nodup -> ∀ {x y:α},x∈l->y∈l->f x=f y->x=y
 | a::r,h,x,y,hx,hy,e=>by
  rw[List.map_cons,List.nodup_cons]at h;rcases List.mem_cons.1 hx with rfl | hx'
  ·rcases List.mem_cons.1 hy with rfl | hy'
   ·rfl
   ·exact absurd (List.mem_map.2 ⟨y,hy',e.symm⟩) h.1
  ·rcases List.mem_cons.1 hy with rfl | hy'
   ·exact(h.1 (List.mem_map.2 ⟨x,hx',e⟩)).elim
   ·exact inj_nodup h.2 hx' hy' e
def Dcl(l:List Item):Prop:=l.Pairwise fun x y=>zaW x.kind.1=true->zaW y.kind.1=true->x.name≠y.name
theorem Dcl.perm{a b:List Item}(h:a.Perm b)(d:Dcl a):Dcl b:=(List.Perm.pairwise_iff (fun h1 hx hy e=>h1 hy hx e.symm) h).1 d
theorem dcl_iff(l:List Item):Dcl l↔ ∀(k:Nat) (hk:k<l.length),zaW l[k].kind.1 =true->(l.take k).any (zb8 l[k])=false:=by
 unfold Dcl;rw[List.pairwise_iff_getElem];constructor
 ·intro h k hk hd;rw[List.any_eq_false];intro y hy;obtain⟨j,hj,rfl⟩:=List.getElem_of_mem hy;rw[List.length_take]at hj;rw[List.getElem_take];intro hs;simp only[zb8,Bool.and_eq_true,decide_eq_true_eq]at hs;exact h j k (by omega) hk (by omega) hs.1 hd hs.2
 ·intro h i j hi hj hij h1 h2 e;have h3:=h j hj h2;rw[List.any_eq_false]at h3;refine h3 l[i] ?_ ?_
  ·rw[List.mem_take_iff_getElem]; exact⟨i,by omega,rfl⟩
  ·simp only[zb8,h1,e,Bool.true_and,decide_true]
theorem zqd{l:List Item}(d:Dcl l)(n:Str):(l.filter (decl n)).length <=1:=by
 have h:=List.Pairwise.filter (decl n) d;have hm: ∀x∈l.filter (decl n),decl n x=true:=fun x hx=>(List.mem_filter.1 hx).2;rcases hq:l.filter (decl n)with _ | ⟨x,_ | ⟨y,r⟩⟩
 ·simp
 ·simp
 ·rw[hq]at h hm;have h1:=hm x (by simp);have h2:=hm y (by simp);simp only[decl,Bool.and_eq_true,decide_eq_true_eq]at h1 h2;exact absurd (h1.2.trans h2.2.symm) ((List.pairwise_cons.1 h).1 y (by simp) h1.1 h2.1)
theorem find_perm{a b:List Item}(h:a.Perm b)(d:Dcl a)(n:Str):a.find? (decl n)=b.find? (decl n):=by
 rw[<-List.head?_filter,<-List.head?_filter,perm_one (h.filter _) (zqd d n)]
theorem zxf{α:Type}(l:List (Str×α))(s:Str):s∈l.map (·.1)↔get l s≠none:=by
 unfold get;rw[ne_eq,Option.map_eq_none_iff,List.find?_eq_none];simp only[List.mem_map,decide_eq_true_eq];exact⟨fun⟨p,h1,h2⟩ h=>h p h1 h2,fun h=>Classical.byContradiction fun h'=>h fun p hp e=>h' ⟨p,hp,e⟩⟩
theorem zon: ∀(l:List Item) (acc:List (Str×Item)),(acc.map (·.1)).Nodup ->((l.foldl zcf acc).map (·.1)).Nodup
 | [],_,h=>h
 | x::r,acc,h=>by
  rw[List.foldl_cons];refine zon r _ ?_;unfold zcf;split
  ·rename_i hc;simp only[Bool.and_eq_true,Option.isNone_iff_eq_none]at hc;rw[List.map_append,List.map_cons,List.map_nil,List.nodup_append];refine⟨h,by simp,fun s hs t ht e=> ?_⟩;rw[List.mem_singleton]at ht;subst ht;subst e;exact(zxf acc _).1 hs hc.2
  ·exact h
theorem firsts_len{a b:List Item}(h: ∀n,a.find? (decl n)=b.find? (decl n)):(zbG a).length =(zbG b).length :=by
 have hp:=(List.perm_ext_iff_of_nodup (zon a [] (by simp)) (zon b [] (by simp))).2 (fun s=>by
  rw[zxf,zxf];show get (zbG a) s≠none↔get (zbG b) s≠none;rw[zke,zke,h])
 have:=hp.length_eq;rw[List.length_map,List.length_map]at this;exact this
structure PermM (a b:Module):Prop where
 name:a.name=b.name
 clock:a.clock=b.clock
 params:a.params=b.params
 items:a.items.Perm b.items
theorem PermM.symm{a b:Module}(h:PermM a b):PermM b a:=⟨h.name.symm,h.clock.symm,h.params.symm,h.items.symm⟩
structure LikeM (a b:Module):Prop extends PermM a b where
 decl: ∀n,zce a n=zce b n
 fuel:(zbG a.items).length =(zbG b.items).length
theorem PermM.like{a b:Module}(h:PermM a b)(d:Dcl a.items):LikeM a b:=
 {h with
  decl:=fun n=>by rw[zj5,zj5,find_perm h.items d]
  fuel:=firsts_len (find_perm h.items d)}
theorem LikeM.kind{a b:Module}(h:LikeM a b)(n:Str):zbu a n=zbu b n:=by unfold zbu; rw[h.decl]
theorem zwl{a b:Module}(h:LikeM a b): ∀n,zdv a n=zdv b n
 | 0=>rfl
 | n+1=>by
  have e:zca a (zdv a n)=zca b (zdv b n):=by
   funext acc e;unfold zca;rw[h.kind,h.decl,zwl h n]
  funext acc l;rw[zdv,zdv,e]
theorem zq3{a b:Module}(h:LikeM a b)(l:List Expr):zbN a l=zbN b l:=by unfold zbN; rw[zwl h,h.fuel]
theorem early_like{a b:Module}(h:LikeM a b)(x:Item):zic a x=zic b x:=by
 have e1:zjI a=zjI b:=by funext e; unfold zjI; rw[h.kind,h.decl,zq3 h]
 have e2:zkY a=zkY b:=by funext n; unfold zkY; rw[h.kind]
 have e3:zdO a=zdO b:=by funext e; unfold zdO; rw[e1,e2]
 unfold zic; rw[e3]
theorem zqT(n:Str): ∀(l:List Item) (acc:List Str),has (l.foldl zbT acc) n=(has acc n||l.any fun x=>x.kind.1==7&&decide (x.name=n))
 | [],acc=>by simp
 | x::r,acc=>by
  rw[List.foldl_cons,zqT n r,List.any_cons,<-Bool.or_assoc];congr 1;unfold zbT;cases h7:(x.kind.1==7)with
  | false=>simp
  | true=>
   cases hc:has acc x.name with
   | true=>
    by_cases e:x.name=n
    ·subst e; simp[hc]
    ·simp[e]
   | false=>
    rw[if_pos (by rfl),zdQ];congr 1;unfold has;simp only[List.any_cons,List.any_nil,Bool.or_false,Bool.true_and];rw[Bool.eq_iff_iff,decide_eq_true_eq,decide_eq_true_eq];exact eq_comm
theorem takens_perm{a b:Module}(h:a.items.Perm b.items)(n:Str):has (zbz a.items) n=has (zbz b.items) n:=by
 unfold zbz;rw[zqT,zqT,any_perm h]
def incN:Nat->Int->Int
 | 0,z=>z
 | n+1,z=>incN n (inc z)
theorem zpe: ∀(a b:Nat) (z:Int),incN (a+b) z=incN b (incN a z)
 | 0,b,z=>by rw[Nat.zero_add]; rfl
 | a+1,b,z=>by
  rw[show a+1+b=(a+b)+1 by omega];show incN (a+b) (inc z)=incN b (incN a (inc z));exact zpe a b (inc z)
theorem endB_it(l:List Module)(x:Item)(n:Str): ∀(r:List Bind) (acc:Int×Int),r.foldl (zgX l x n) acc=(incN (r.countP (c1B l x n)) acc.1,incN (r.countP (c2B l x n)) acc.2)
 | [],acc=>rfl
 | p::r,acc=>by
  rw[List.foldl_cons,endB_it l x n r,List.countP_cons,List.countP_cons];by_cases h1:(decide (p.chan=n)&&zbS l x p.port==1)=true
  ·have h2:c2B l x n p=false:=by
    unfold c2B;simp only[Bool.and_eq_true,beq_iff_eq]at h1;rw[h1.2]; simp
   have h1':c1B l x n p=true:=h1;have e:zgX l x n acc p=(inc acc.1,acc.2):=by unfold zgX; rw[if_pos h1]
   rw[e,h1',h2]; rfl
  ·have h1':c1B l x n p=false:=by simpa [c1B]using h1
   by_cases h2:(decide (p.chan=n)&&zbS l x p.port==2)=true
   ·have h2':c2B l x n p=true:=h2;have e:zgX l x n acc p=(acc.1,inc acc.2):=(by unfold zgX; rw[if_neg h1,if_pos h2]);rw[e,h1',h2']; rfl
   ·have h2':c2B l x n p=false:=(by simpa [c2B]using h2);have e:zgX l x n acc p=acc:=(by unfold zgX; rw[if_neg h1,if_neg h2]);rw[e,h1',h2']; rfl
theorem endX_it(l:List Module)(n:Str)(acc:Int×Int)(x:Item):zrr l n acc x=(incN (c1 l n x) acc.1,incN (c2 l n x) acc.2):=by
 unfold zrr c1 c2;rw[endB_it,zpe,zpe];unfold endI;by_cases h7:(x.kind.1==7&&decide (x.name=n))=true
 ·have h8:(x.kind.1==8&&decide (x.name=n))=false:=by
   simp only[Bool.and_eq_true,beq_iff_eq]at h7;rw[h7.1]; rfl
  rw[if_pos h7,if_pos h7,h8]; rfl
 ·rw[if_neg h7,if_neg h7];by_cases h8:(x.kind.1==8&&decide (x.name=n))=true
  ·rw[if_pos h8,if_pos h8]; rfl
  ·rw[if_neg h8,if_neg h8]; rfl
theorem ends_it(l:List Module)(n:Str): ∀(r:List Item) (acc:Int×Int),r.foldl (zrr l n) acc=(incN (r.map (c1 l n)).sum acc.1,incN (r.map (c2 l n)).sum acc.2)
 | [],acc=>rfl
 | x::r,acc=>by rw[List.foldl_cons,ends_it l n r,endX_it,List.map_cons,List.map_cons,List.sum_cons,List.sum_cons,zpe,zpe]
theorem ends_perm(l:List Module){a b:Module}(h:a.items.Perm b.items)(n:Str):zeZ l a n=zeZ l b n:=by
 unfold zeZ;rw[ends_it,ends_it,(h.map (c1 l n)).sum_nat,(h.map (c2 l n)).sum_nat]
open Classical in
theorem aput_keys{α:Type}: ∀(l:List (Str×α)) (s:Str) (x:α),(znE l s x).map (·.1)=if s∈l.map (·.1)then l.map (·.1)else l.map (·.1)++[s]
 | [],s,x=>by simp[znE]
 | p::r,s,x=>by
  unfold znE;by_cases h:p.1=s
  ·rw[if_pos h]; simp[h]
  ·rw[if_neg h,List.map_cons,aput_keys r s x];by_cases hr:s∈r.map (·.1)
   ·rw[if_pos hr,if_pos (by rw[List.map_cons]; exact List.mem_cons_of_mem _ hr)]; rfl
   ·rw[if_neg hr,if_neg (by rw[List.map_cons,List.mem_cons,not_or]; exact⟨fun e=>h e.symm,hr⟩)]; rfl
theorem zqG: ∀(l:List Item) (acc:List (Str×Bool)),(acc.map (·.1)).Nodup ->((l.foldl zcs acc).map (·.1)).Nodup /\ ∀s,s∈(l.foldl zcs acc).map (·.1)↔s∈acc.map (·.1)\/ ∃x∈l,zlX x=true/\x.name=s
 | [],acc,h=>⟨h,fun s=>by simp⟩
 | x::r,acc,h=>by
  have hst:((zcs acc x).map (·.1)).Nodup /\ ∀s,s∈(zcs acc x).map (·.1)↔s∈acc.map (·.1)\/(zlX x=true/\x.name=s):=by
   unfold zcs;by_cases hp:zlX x=true
   ·rw[if_pos hp,aput_keys];by_cases hm:x.name∈acc.map (·.1)
    ·rw[if_pos hm];refine⟨h,fun s=>⟨.inl,fun h'=> ?_⟩⟩;rcases h' with h' | ⟨_,rfl⟩
     ·exact h'
     ·exact hm
    ·rw[if_neg hm];refine⟨List.nodup_append.2 ⟨h,by simp,fun a ha b hb e=> ?_⟩,fun s=> ?_⟩
     ·rw[List.mem_singleton]at hb;subst hb;subst e;exact hm ha
     ·rw[List.mem_append,List.mem_singleton];exact⟨fun h'=>h'.imp id (fun e=>⟨hp,e.symm⟩),fun h'=>h'.imp id (fun e=>e.2.symm)⟩
   ·rw[if_neg hp];refine⟨h,fun s=>⟨.inl,fun h'=> ?_⟩⟩;rcases h' with h' | ⟨h',_⟩
    ·exact h'
    ·exact absurd h' hp
  rw[List.foldl_cons];obtain⟨g1,g2⟩:=zqG r _ hst.1;refine⟨g1,fun s=> ?_⟩;rw[g2,hst.2];constructor
  ·rintro((h1 | h1) | ⟨y,h1,h2⟩)
   ·exact .inl h1
   ·exact .inr ⟨x,by simp,h1⟩
   ·exact .inr ⟨y,by simp[h1],h2⟩
  ·rintro(h1 | ⟨y,h1,h2⟩)
   ·exact .inl (.inl h1)
   ·rcases List.mem_cons.1 h1 with rfl | h1
    ·exact .inl (.inr h2)
    ·exact .inr ⟨y,h1,h2⟩
theorem ports_perm{a b:Module}(h:a.items.Perm b.items):((zch a).map (·.1)).Perm ((zch b).map (·.1)):=by
 obtain⟨a1,a2⟩:=zqG a.items [] (by simp);obtain⟨b1,b2⟩:=zqG b.items [] (by simp);refine(List.perm_ext_iff_of_nodup a1 b1).2 (fun s=> ?_);rw[a2,b2];simp only[h.mem_iff]
theorem misIs_like{a b:Module}(h:LikeM a b)(x:Item):ztu x (some a)=ztu x (some b):=by
 have hp:=ports_perm h.items;have e: ∀m:Module,((zch m).any fun p=>(get (znP x.ports) p.1).getD 0 !=1)=((zch m).map (·.1)).any fun s=>(get (znP x.ports) s).getD 0 !=1:=fun m=>by rw[List.any_map]; rfl
 have e2:(zch a).length =(zch b).length :=by simpa only[List.length_map]using hp.length_eq
 unfold ztu;simp only;rw[e,e,any_perm hp,e2,h.params]
def OM(R:Module->Module->Prop):Option Module->Option Module->Prop
 | none,none=>True
 | some a,some b=>R a b
 | _,_=>False
theorem om_symm: ∀ {a b:Option Module},OM PermM a b->OM PermM b a
 | none,none,_=>trivial
 | some _,some _,h=>PermM.symm h
theorem om_some{R:Module->Module->Prop}: ∀ {a b:Option Module},OM R a b->a.isSome=b.isSome
 | none,none,_=>rfl
 | some _,some _,_=>rfl
theorem portOf_om{l l':List Module}{x:Item}(h:OM LikeM (zc9 l x.of) (zc9 l' x.of))(n:Str):zbS l x n=zbS l' x n:=by
 rw[zkv,zkv];cases ha:zc9 l x.of with
 | none=>
  cases hb:zc9 l' x.of with
  | none=>rfl
  | some b=>rw[ha,hb]at h; exact h.elim
 | some a=>
  cases hb:zc9 l' x.of with
  | none=>rw[ha,hb]at h; exact h.elim
  | some b=>
   rw[ha,hb]at h;have hk:LikeM a b:=h;unfold zpw pk;simp only;rw[hk.kind]
theorem misfit_om{l l':List Module}{x:Item}(h:OM LikeM (zc9 l x.of) (zc9 l' x.of)):zeR l x=zeR l' x:=by
 rw[zkn,zkn];cases ha:zc9 l x.of with
 | none=>
  cases hb:zc9 l' x.of with
  | none=>rfl
  | some b=>rw[ha,hb]at h; exact h.elim
 | some a=>
  cases hb:zc9 l' x.of with
  | none=>rw[ha,hb]at h; exact h.elim
  | some b=>
   rw[ha,hb]at h;exact misIs_like h x
theorem ends_om{l l':List Module}(h: ∀n,OM LikeM (zc9 l n) (zc9 l' n))(m:Module)(n:Str):zeZ l m n=zeZ l' m n:=by
 have e:zrr l n=zrr l' n:=by
  funext acc x;have e1:zgX l x n=zgX l' x n:=by
   funext acc b;unfold zgX;rw[portOf_om (h x.of)]
  unfold zrr;rw[e1]
 unfold zeZ;rw[e]
theorem lost_like{l l':List Module}(hl: ∀n,OM LikeM (zc9 l n) (zc9 l' n)){a b:Module}(h:LikeM a b)(x:Item):zdp l a x=zdp l' b x:=by
 have e1:zjq a=zjq b:=by funext e; unfold zjq; rw[h.kind,takens_perm h.items]
 have e2:zpn a=zpn b:=by funext c; unfold zpn; rw[h.kind]
 have e3:zjr a=zjr b:=by funext c; unfold zjr; rw[h.params]
 have e4:zfj l a x=zfj l' b x:=by unfold zfj; rw[h.kind,e2,zkd,zkd,om_some (hl x.of)]
 unfold zdp;rw[e1,e3,e4]
theorem kindBad_like{l l':List Module}(hl: ∀n,OM LikeM (zc9 l n) (zc9 l' n)){a b:Module}(h:LikeM a b)(x:Item):zcK l a x=zcK l' b x:=by
 unfold zcK;rw[zq3 h,ends_perm l h.items,ends_om hl,misfit_om (hl x.of),early_like h]
theorem zvM(l:List Module)(n:Str):zc9 l n=l.find? fun m=>decide (m.name=n):=by
 unfold zc9;rw[zhl,Option.map_map];cases hq:l.findIdx? fun m=>decide (m.name=n)with
 | none=>
  rw[List.findIdx?_eq_none_iff]at hq;symm;rw[Option.map_none,List.find?_eq_none];intro x hx;rw[hq x hx];simp
 | some i=>
  rw[List.findIdx?_eq_some_iff_getElem]at hq;obtain⟨h1,h2,h3⟩:=hq;symm;rw[Option.map_some,List.find?_eq_some_iff_getElem];refine⟨?_,i,h1,?_,fun j hj=> ?_⟩
  ·simpa [List.getD,h1]using h2
  ·simp[List.getD,h1]
  ·have:=h3 j hj;simpa using this
theorem zmO{l:List Module}{n:Str}{m:Module}(h:zc9 l n=some m):m∈l/\m.name=n:=by
 rw[zvM]at h;exact⟨List.mem_of_find?_eq_some h,by simpa using List.find?_some h⟩
theorem zqz{l:List Module}(hn:(l.map Module.name).Nodup){m:Module}(hm:m∈l):zc9 l m.name=some m:=by
 cases hq:zc9 l m.name with
 | none=>
  rw[zvM,List.find?_eq_none]at hq;exact absurd (decide_eq_true rfl) (hq m hm)
 | some y=>
  obtain⟨h1,h2⟩:=zmO hq;rw[inj_nodup hn h1 hm h2]
theorem zqe{l:List Module}(hn:(l.map Module.name).Nodup){i:Nat}(hi:i<l.length):zcA l l[i].name =some (i:Int):=by
 have h:l.findIdx? (fun m=>decide (m.name=l[i].name))=some i:=by
  rw[List.findIdx?_eq_some_iff_getElem];refine⟨hi,by simp,fun j hj=> ?_⟩;have:=List.pairwise_iff_getElem.1 hn j i (by rw[List.length_map]; omega) (by rw[List.length_map]; exact hi) hj;simpa using this
 rw[zhl,h];rfl
structure LikeF (l l':List Module):Prop where
 n1:(l.map Module.name).Nodup
 n2:(l'.map Module.name).Nodup
 mods: ∀n,OM PermM (zc9 l n) (zc9 l' n)
theorem LikeF.symm{l l':List Module}(h:LikeF l l'):LikeF l' l:=⟨h.n2,h.n1,fun n=>om_symm (h.mods n)⟩
theorem like_norm{l:List Module}(h:Parted l):LikeF l (zcC l):=by
 have n2:((zcC l).map Module.name).Nodup :=by
  unfold zcC;rw[List.map_map];exact((zcn (lt:=ltS) (key:=Module.name) l).map Module.name).nodup_iff.2 h.names
 have hmem: ∀m,m∈zcC l↔ ∃q∈l,zl5 q=m:=fun m=>by
  unfold zcC;rw[List.mem_map];simp only[(zcn (lt:=ltS) (key:=Module.name) l).mem_iff]
 refine⟨h.names,n2,fun n=> ?_⟩;cases hq:zc9 l n with
 | some m=>
  obtain⟨h1,h2⟩:=zmO hq;have h3:=zqz n2 ((hmem (zl5 m)).2 ⟨m,h1,rfl⟩);have e:(zl5 m).name =n:=h2;rw[e]at h3;rw[h3];exact⟨rfl,rfl,rfl,(zcn (lt:=ltP) (key:=zbg) m.items).symm⟩
 | none=>
  cases hp:zc9 (zcC l) n with
  | none=>exact trivial
  | some y=>
   obtain⟨h1,h2⟩:=zmO hp;obtain⟨q,h3,rfl⟩:=(hmem y).1 h1;have h4:=zqz h.names h3;have e:q.name=n:=h2;rw[e,hq]at h4;cases h4
theorem Way.map{E E':Nat->Nat->Prop}(f:Nat->Nat)(h: ∀i j,E i j->E' (f i) (f j)){i j:Nat}(w:Way E i j):Way E' (f i) (f j):=by
 induction w with
 | one e=>exact .one (h _ _ e)
 | more e _ ih=>exact .more (h _ _ e) ih
theorem ztZ{l:List Module}{to:Nat}{rec:Nat->List Nat->Bool×List Nat}(hr: ∀i s s',rec i s=(true,s')->Way (zhx l) i to): ∀(r:List Item) (s s':List Nat),zbH l rec to r s=(true,s')-> ∃x∈r,∃j,zbE l x=some j/\(j=to\/Way (zhx l) j to)
 | [],s,s',h=>by simp[zbH]at h
 | x::r,s,s',h=>by
  have ih: ∀s s',zbH l rec to r s=(true,s')-> ∃y∈x::r,∃j,zbE l y=some j/\(j=to\/Way (zhx l) j to):=fun s s' h=>by
   obtain⟨y,hy,q⟩:=ztZ hr r s s' h;exact⟨y,List.mem_cons_of_mem _ hy,q⟩
  unfold zbH at h;cases hi:zbE l x with
  | none=>rw[hi]at h; exact ih s s' h
  | some i=>
   rw[hi]at h;simp only at h;by_cases hc:s.contains i=true
   ·rw[if_pos hc]at h; exact ih s s' h
   ·rw[if_neg hc]at h;by_cases ht:i=to
    ·exact⟨x,by simp,i,hi,.inl ht⟩
    ·rw[if_neg ht]at h;cases hq:rec i (s++[i])with
     | mk b s1=>
      rw[hq]at h;cases b with
      | true=>exact⟨x,by simp,i,hi,.inr (hr i _ _ hq)⟩
      | false=>exact ih s1 s' h
theorem zvY(l:List Module)(to:Nat): ∀(n i:Nat) (s s':List Nat),zc1 l to n i s=(true,s')->Way (zhx l) i to
 | 0,i,s,s',h=>by simp[zc1]at h
 | n+1,i,s,s',h=>by
  unfold zc1 at h;obtain⟨x,hx,j,hj,q⟩:=ztZ (fun i s s' h=>zvY l to n i s s' h) _ s s' h;have e:zhx l i j:=⟨x,hx,hj⟩;rcases q with rfl | q
  ·exact .one e
  ·exact .more e q
theorem loops_way{l:List Module}{i:Nat}(h:loops l i=true):Way (zhx l) i i:=by
 unfold loops at h;cases hq:zc1 l i (l.length+1) i []with
 | mk b s=>
  rw[hq]at h;simp only at h;subst h;exact zvY _ _ _ _ _ _ hq
theorem zwX{l:List Module}{i:Nat}(hi:i<l.length):l.getD i zdP=l[i]:=by simp[List.getD,hi]
def toF(l l':List Module)(i:Nat):Nat:=((zcA l (l'.getD i zdP).name).map Int.toNat).getD 0
theorem zxS{l l':List Module}(h:LikeF l l'){i:Nat}(hi:i<l'.length): ∃hk:toF l l' i<l.length,PermM l[toF l l' i] l'[i]:=by
 have h1:=zqz h.n2 (List.getElem_mem hi);have h2:=h.mods l'[i].name;rw[h1]at h2;cases hq:zc9 l l'[i].name with
 | none=>rw[hq]at h2; exact h2.elim
 | some m=>
  rw[hq]at h2;obtain⟨h3,h4⟩:=zmO hq;obtain⟨k,hk,rfl⟩:=List.getElem_of_mem h3;have h5:toF l l' i=k:=by
   unfold toF;rw[zwX hi,<-h4,zqe h.n1 hk];rfl
  rw[h5];exact⟨hk,h2⟩
theorem edge_like{l l':List Module}(h:LikeF l l')(i j:Nat)(e:zhx l' i j):zhx l (toF l l' i) (toF l l' j):=by
 obtain⟨x,hx,hj⟩:=e;have hi:i<l'.length:=by
  rcases Nat.lt_or_ge i l'.length with hi | hi
  ·exact hi
  ·rw[List.getD_eq_getElem?_getD,List.getElem?_eq_none hi]at hx;cases hx
 rw[zwX hi]at hx;obtain⟨hk,hp⟩:=zxS h hi;refine⟨x,by rw[zwX hk]; exact hp.items.mem_iff.2 hx,?_⟩;obtain⟨hjl,hf⟩:=ziN hj;have hn:l'[j].name =x.of:=by
  obtain⟨k,hk',e1,e2⟩:=zfB hf;have:j=k:=by omega
  subst this;exact e2
 have hk9:x.kind.1=9:=by
  unfold zbE at hj;split at hj
  ·assumption
  ·cases hj
 obtain⟨hkj,hpj⟩:=zxS h hjl;have h6:=zqe h.n1 hkj;rw[hpj.name,hn]at h6;unfold zbE;rw[if_pos hk9,h6];rfl
theorem zwj{l l':List Module}(h:LikeF l l')(hv:zbi l=true):zbi l'=true:=by
 have V:=(zhU l).1 hv;have hd: ∀m∈l,Dcl m.items:=fun m hm=>by
  obtain⟨i,hi,rfl⟩:=List.getElem_of_mem hm;rw[dcl_iff];intro k hk hdk;have h1:=(zen ((V i hi).2 k hk)).1 hdk;unfold zaT at h1;simp only[Bool.or_eq_false_iff]at h1;exact h1.1.1
 have hl: ∀n,OM LikeM (zc9 l n) (zc9 l' n):=fun n=>by
  have h1:=h.mods n;cases hq:zc9 l n with
  | none=>
   cases hp:zc9 l' n with
   | none=>exact trivial
   | some b=>rw[hq,hp]at h1; exact h1.elim
  | some a=>
   cases hp:zc9 l' n with
   | none=>rw[hq,hp]at h1; exact h1.elim
   | some b=>
    rw[hq,hp]at h1;exact PermM.like h1 (hd a (zmO hq).1)
 rw[zhU];intro i hi;obtain⟨hj,hp⟩:=zxS h hi;obtain⟨v1,v2⟩:=V _ hj;have hL:=hp.like (hd _ (List.getElem_mem hj));have hD:=(hd _ (List.getElem_mem hj)).perm hp.items;have hn:=zqe h.n2 hi;have hw: ¬Way (zhx l) (toF l l' i) (toF l l' i):=by
  unfold zcx at v1;simp only[Bool.or_eq_false_iff]at v1;exact zqx hj v1.2
 obtain⟨m,hm⟩:=zX (l[toF l l' i]);obtain⟨m',hm'⟩:=zX (l'[i]);rw[hm]at v1 hp hL;rw[hm']at hp hL hD hn ⊢;refine⟨?_,fun k hk=> ?_⟩
 ·unfold zcx zbX zjn at v1 ⊢;simp only[Bool.or_eq_false_iff]at v1 ⊢;refine⟨⟨⟨⟨?_,?_⟩,?_⟩,?_⟩,?_⟩
  ·rw[<-hp.name]; exact v1.1.1.1.1
  ·rw[<-hp.clock]; exact v1.1.1.1.2
  ·rw[hn];exact decide_eq_false (by simp)
  ·rw[<-hp.params]; exact v1.1.2
  ·cases hq:loops l' i with
   | false=>rfl
   | true=>exact absurd (Way.map (toF l l') (edge_like h) (loops_way hq)) hw
 ·have hx:m'.items[k]∈m.items:=hp.items.mem_iff.2 (List.getElem_mem hk);obtain⟨k0,hk0,he⟩:=List.getElem_of_mem hx;have h1:=zen (v2 k0 (by rw[hm]; exact hk0));have e0:l[toF l l' i].items[k0]'(by rw[hm]; exact hk0)=m'.items[k]:=by simp only[hm]; exact he
  rw[e0,hm]at h1;obtain⟨g1,g2,g3,g4⟩:=h1;unfold zaV;simp only[Bool.or_eq_false_iff];refine⟨⟨⟨?_,g2⟩,by rw[<-lost_like hl hL]; exact g3⟩,by rw[<-kindBad_like hl hL]; exact g4⟩;cases hq:zaW m'.items[k].kind.1 with
  | false=>rfl
  | true=>
   have g:=g1 hq;unfold zaT at g ⊢;simp only[Bool.or_eq_false_iff]at g;simp only[Bool.true_and,Bool.or_eq_false_iff];exact⟨⟨(dcl_iff _).1 hD k hk hq,g.1.2⟩,by rw[<-hp.params]; exact g.2⟩
theorem zwk{l:List Module}(h:Parted l):zbi (zcC l)=zbi l:=by
 rw[Bool.eq_iff_iff];exact⟨zwj (like_norm h).symm,zwj (like_norm h)⟩
theorem zjb(l:List Nat): ∀n,(zhu n l).Perm ((List.range n).map fun(i:Nat)=>(i:Int))
 | 0=>List.Perm.refl _
 | n+1=>by
  have ih:=zjb l n;unfold zhu at ih ⊢;rw[List.range_succ,List.foldl_append,List.map_append];simp only[List.foldl_cons,List.foldl_nil,List.map_cons,List.map_nil];obtain⟨acc,ha⟩:=zX ((List.range n).foldl (zcD l) []);rw[ha]at ih ⊢;unfold zcD;refine List.Perm.trans ?_ (ih.append_right _);rw[List.append_assoc];refine(List.Perm.append_left _ List.perm_append_comm).trans ?_;rw[<-List.append_assoc,List.take_append_drop]
theorem zup(n:Nat)(l:List Nat):(zhu n l).length =n:=zhv l n
theorem shuf_mem{n:Nat}{l:List Nat}{z:Int}(h:z∈zhu n l): ∃i:Nat,i<n/\z=(i:Int):=by
 rw[(zjb l n).mem_iff,List.mem_map]at h;obtain⟨i,hi,rfl⟩:=h;exact⟨i,List.mem_range.1 hi,rfl⟩
def pickL{α:Type}(z:α)(l:List α)(b:List Nat):List α:=(zhu l.length b).map fun j=>l.getD j.toNat z
theorem zku{α:Type}(z:α)(l:List α)(b:List Nat):(pickL z l b).Perm l:=by
 have h:=(zjb b l.length).map fun j=>l.getD j.toNat z;rw[List.map_map]at h;have e:((List.range l.length).map ((fun(j:Int)=>l.getD j.toNat z)∘fun(i:Nat)=>(i:Int)))=l:=zgf l z;rw[e]at h;exact h
def mixM(b:List Nat)(m:Module):Module:={m with items:=pickL zaU m.items b}
def mixF(b:List Nat)(l:List Module):List Module:=(pickL zdP l b).map (mixM b)
theorem zpr(b:List Nat)(l:List Module):(mixF b l).Perm (l.map (mixM b)):=(zku zdP l b).map _
theorem normM_mix(b:List Nat){m:Module}(h:(m.items.map zbg).Nodup):zl5 (mixM b m)=zl5 m:=by
 unfold zl5 mixM;simp only;rw[zyR zuJ (((zku zaU m.items b).map zbg).nodup_iff.2 h) (zku zaU m.items b)]
theorem sortK_map{f:Module->Module}(hf: ∀m,(f m).name =m.name): ∀l:List Module,zl7 ltS Module.name (l.map f)=(zl7 ltS Module.name l).map f
 | []=>rfl
 | x::r=>by
  have key: ∀l:List Module,insD ltS Module.name (f x) (l.map f)=(insD ltS Module.name x l).map f:=by
   intro l
   induction l with
   | nil=>rfl
   | cons y l ih=>
    rw[List.map_cons,insD,insD,hf,hf,ih];split <;> rfl
  show insD ltS Module.name (f x) (zl7 ltS Module.name (r.map f))=(insD ltS Module.name x (zl7 ltS Module.name r)).map f;rw[sortK_map hf r,key]
theorem ztz{l:List Module}(h:Parted l)(b:List Nat):zcC (mixF b l)=zcC l:=by
 have hm:((l.map (mixM b)).map Module.name).Nodup :=by
  rw[List.map_map];exact h.names
 unfold zcC;rw[zyR zrt (((zpr b l).map Module.name).nodup_iff.2 hm) (zpr b l),sortK_map (f:=mixM b) (fun _=>rfl),List.map_map];exact List.map_congr_left fun m hm=>normM_mix b (h.parts m ((zcn l).mem_iff.1 hm))
theorem mix_mem{l:List Module}{b:List Nat}{m:Module}(h:m∈mixF b l): ∃q∈l,mixM b q=m:=by
 rw[(zpr b l).mem_iff,List.mem_map]at h;exact h
theorem sm_mix{l:List Module}(h:Sm l)(b:List Nat):Sm (mixF b l):=by
 refine⟨⟨?_,fun m hm=> ?_,fun m hm x hx=> ?_⟩,?_,fun m hm=> ?_⟩
 ·refine((zpr b l).map Module.name).nodup_iff.2 ?_;rw[List.map_map];exact h.part.names
 ·obtain⟨q,hq,rfl⟩:=mix_mem hm;exact((zku zaU q.items b).map zbg).nodup_iff.2 (h.part.parts q hq)
 ·obtain⟨q,hq,rfl⟩:=mix_mem hm;exact h.part.kinds q hq x ((zku zaU q.items b).mem_iff.1 hx)
 ·rw[(zpr b l).length_eq,List.length_map];exact h.len
 ·obtain⟨q,hq,rfl⟩:=mix_mem hm;show(pickL zaU q.items b).length <=100;rw[(zku zaU q.items b).length_eq];exact h.items q hq
open Nat renaming reduceEqDiff->pE,reduceLT->pL,reduceAdd->pA,reduceSub->pS,reduceMul->pM,reduceLeDiff->pD
open Int renaming reduceToNat->qT,reduceGT->qG,reduceLT->qL,reduceGE->qH,reduceBNe->qN,reduceBEq->qB,reduceLE->qE,reduceNe->qO,reduceAdd->qA,reduceNeg->qM
set_option maxHeartbeats 40000000
theorem mix_c(f:List Module)(hl:f.length<=1000)(hi: ∀m∈f,m.items.length<=1000)(b:List Nat)(hb: ∀x∈b,x<256):FnP Tryz.prog 45 [.agg [zax f],zau b] (.d (.agg [zax (mixF b f)])) []:=by
 refine FnP.of_eC (own:=[]) (fun i=>if i=1 then [.adB 5 0 100 53 4]else if i=2006 then [.flt ⟨[(0,none),(1,none),(2,none),(3,none),(4,none),(5,none),(6,none),(7,none),(9,some [])]⟩ ⟨[8],[(9,[8])]⟩]else if i=2012 then [.ord ⟨[(0,none),(1,none),(2,none),(3,none),(4,none),(5,none),(6,none),(7,none),(8,none),(9,some [0]),(10,some []),(11,some [])]⟩]else if i=1013 then [.frz 37]else if i=1015 then [.frz 100]else []) zat Tryz.func45 rfl Tryz.call45 Tryz.ntmps45 (Nat.le_of_ble_eq_true rfl) Tryz.results45 (fun hok=> ?_);have c1:=shuf_c f.length b (by omega) hb;simp(maxSteps:=4000000) only[ZE,↓reduceIte,pE,pL,pA,pS,pM,pD,zN,qT,qG,qL,qH,qN,qB,qE,qO,qA,qM,List.length_map];refine EFn.p ?_;simp(maxSteps:=4000000) only[ZE,↓reduceIte,pE,pL,pA,pS,pM,pD];refine zar.i c1 ?_;simp(maxSteps:=4000000) only[ZE,↓reduceIte,pE,pL,pA,pS,pM,pD,zN,qT,qG,qL,qH,qN,qB,qE,qO,qA,qM,List.length_map];obtain⟨S,hS⟩:=zX (zhu f.length b);have hSl:S.length=f.length:=by rw[<-hS]; exact zup _ _
 have hmix:mixF b f=S.map fun z=>mixM b (f.getD z.toNat zdP):=by unfold mixF pickL; rw[hS,List.map_map]; rfl
 rw[hmix];have hSm: ∀z∈S,∃k:Nat,k<f.length/\z=(k:Int):=fun z hz=>shuf_mem (hS▸hz);rw[hS];obtain⟨g,hg⟩: ∃g:Int->Module,(fun z=>mixM b (f.getD z.toNat zdP))=g:=⟨_,rfl⟩;rw[hg];refine za1 (fun i=>if i=2006 then [.flt ⟨[(0,none),(1,none),(2,none),(3,none),(4,none),(5,none),(6,none),(7,none),(9,some [])]⟩ ⟨[8],[(9,[8])]⟩]else if i=2012 then [.ord ⟨[(0,none),(1,none),(2,none),(3,none),(4,none),(5,none),(6,none),(7,none),(8,none),(9,some [0]),(10,some []),(11,some [])]⟩]else if i=1013 then [.frz 37]else []) zat S.length (fun _=>True) (fun i=>([(1,.d (zau b)),(2,.bp 2 0),(4,.bp 4 0),(5,.bp 5 0),(6,.d (zfA S)),(7,.d (eI i))],[(2,.box [.d (zax f)]),(4,.box [.nils]),(5,.box [.ar 100 i]),(100,.arr 53 4 .flat (((S.take i).map g).map zaC))])) trivial ?_ ?_ (fun i hi0 _=> ?_)
 ·simp(maxSteps:=4000000) only[ZE,↓reduceIte,pE,pL,pA,pS,pM,pD,List.take_zero,List.map_nil]
 ·simp(maxSteps:=4000000) only[ZE,↓reduceIte,pE,pL,pA,pS,pM,pD,List.take_zero,List.map_nil]
 rcases Nat.lt_or_ge i S.length with h | h
 ·have hw:=zaq (show i<9223372036854775807 by omega);obtain⟨k,hkl,hk⟩:=hSm S[i] (List.getElem_mem h);obtain⟨m,hm⟩:=zX (f[k]);have hgk:g S[i]=mixM b m:=by rw[<-hg,hk]; simp[List.getD,hkl,hm]
  have hst:(S.take (i+1)).map g=(S.take i).map g++[mixM b m]:=by rw[List.take_succ_eq_append_getElem h,List.map_append,<-hgk]; rfl
  have hLl:((S.take i).map g).length =i:=by rw[List.length_map,List.length_take]; omega
  obtain⟨L,hL⟩:=zX ((S.take i).map g);rw[hL]at hst hLl;rw[hst,hL];have hml:=hi m (hm▸List.getElem_mem hkl);have c2:=shuf_c m.items.length b (by omega) hb;obtain⟨R,hR⟩:=zX (zhu m.items.length b);have hRl:R.length=m.items.length:=by rw[<-hR]; exact zup _ _
  have hRm: ∀z∈R,∃k:Nat,k<m.items.length/\z=(k:Int):=fun z hz=>shuf_mem (hR▸hz);have hmx:mixM b m={m with items:=R.map fun z=>m.items.getD z.toNat zaU}:=by unfold mixM pickL; rw[hR]
  rw[hR]at c2;rw[hmx];obtain⟨g2,hg2⟩: ∃g2:Int->Item,(fun z=>m.items.getD z.toNat zaU)=g2:=⟨_,rfl⟩;rw[hg2];simp(maxSteps:=4000000) only[ZE,↓reduceIte,pE,pL,pA,pS,pM,pD,zaw h,zai h,zaa h,hk,zai hkl,zaa hkl,hm,zN,qT,qG,qL,qH,qN,qB,qE,qO,qA,qM,List.length_map,Int.toNat_natCast];refine⟨by kernel_rfl,?_⟩;refine EFn.p ?_;simp(maxSteps:=4000000) only[ZE,↓reduceIte,pE,pL,pA,pS,pM,pD];refine zar.i c2 ?_;simp(maxSteps:=4000000) only[ZE,↓reduceIte,pE,pL,pA,pS,pM,pD,zN,qT,qG,qL,qH,qN,qB,qE,qO,qA,qM,List.length_map];refine za1 (fun i=>if i=2012 then [.ord ⟨[(0,none),(1,none),(2,none),(3,none),(4,none),(5,none),(6,none),(7,none),(8,none),(9,some [0]),(10,some []),(11,some [])]⟩]else []) zat R.length (fun _=>True) (fun j=>([(1,.d (zau b)),(2,.bp 2 0),(4,.bp 4 0),(5,.bp 5 0),(6,.d (zfA S)),(7,.d (eI i)),(8,.bp 8 0),(9,.d (zfA R)),(10,.ar 37 j),(11,.d (eI j))],[(2,.box [.d (zax f)]),(4,.box [.nils]),(5,.box [.ar 100 i]),(100,.arr 53 4 .flat (L.map zaC)),(8,.box [.d (eS m.name),.d (eS m.clock),.d (zd5 m.params),.d (zbR m.items)]),(37,.arr 64 35 .flat (((R.take j).map g2).map zaK))])) trivial ?_ ?_ (fun j hj0 _=> ?_)
  ·simp(maxSteps:=4000000) only[ZE,↓reduceIte,pE,pL,pA,pS,pM,pD,List.take_zero,List.map_nil]
  ·simp(maxSteps:=4000000) only[ZE,↓reduceIte,pE,pL,pA,pS,pM,pD,List.take_zero,List.map_nil]
  rcases Nat.lt_or_ge j R.length with h' | h'
  ·have hw':=zaq (show j<9223372036854775807 by omega);obtain⟨q,hql,hq⟩:=hRm R[j] (List.getElem_mem h');obtain⟨x,hx⟩:=zX (m.items[q]);have hgq:g2 R[j]=x:=by rw[<-hg2,hq]; simp[List.getD,hql,hx]
   have hst':(R.take (j+1)).map g2=(R.take j).map g2++[x]:=by rw[List.take_succ_eq_append_getElem h',List.map_append,<-hgq]; rfl
   have hXl:((R.take j).map g2).length =j:=by rw[List.length_map,List.length_take]; omega
   obtain⟨X,hX⟩:=zX ((R.take j).map g2);rw[hX]at hst' hXl;rw[hst',hX,List.map_append,List.map_cons,List.map_nil];simp(maxSteps:=4000000) only[ZE,↓reduceIte,pE,pL,pA,pS,pM,pD,zaw h',zai h',zaa h',hq,zai hql,zaa hql,hx,zN,qT,qG,qL,qH,qN,qB,qE,qO,qA,qM,List.length_map,Int.toNat_natCast,hw',hXl];exact⟨by kernel_rfl,⟨by omega,by omega⟩,h'⟩
  ·have:j=R.length:=by omega
   subst this;rw[List.take_length];rw[List.map_append,List.map_cons,List.map_nil];simp(maxSteps:=4000000) only[ZE,↓reduceIte,pE,pL,pA,pS,pM,pD,zaI h',zN,qT,qG,qL,qH,qN,qB,qE,qO,qA,qM,List.length_map,hw,hLl];exact⟨⟨by omega,by omega⟩,by rw[List.length_append,List.length_map,hLl]; rfl,h⟩
 ·have:i=S.length:=by omega
  subst this;rw[List.take_length];simp(maxSteps:=4000000) only[ZE,↓reduceIte,pE,pL,pA,pS,pM,pD,zaI h,zN,qT,qG,qL,qH,qN,qB,qE,qO,qA,qM,List.length_map]
theorem small_sp(x:Raw)(l:List K4):Small (zna x l):=
 zeX (n:=64) (by decide) (by have:=(zyd x l).len; omega) (fun m hm=>(zyd x l).fine m hm)
theorem small_norm{a:List Module}(h:Small a):Small (zcC a):=by
 have key: ∀m∈zcC a,∃q∈a,zl5 q=m:=fun m hm=>by
  unfold zcC at hm;obtain⟨q,hq,rfl⟩:=List.mem_map.1 hm;exact⟨q,(zcn a).mem_iff.1 hq,rfl⟩
 refine⟨by rw[zyb]; exact h.len,fun m hm=> ?_,fun m hm x hx=> ?_⟩
 ·obtain⟨q,hq,rfl⟩:=key m hm;show(zl7 ltP zbg q.items).length <=900;rw[(zcn q.items).length_eq];exact h.items q hq
 ·obtain⟨q,hq,rfl⟩:=key m hm;exact h.nums q hq x ((zcn q.items).mem_iff.1 hx)
theorem normF_parted{a:List Module}(h:Parted a):Parted (zcC a):=
 ⟨Srt.nodup zrt (ziv h).srt,fun m hm=>Srt.nodup zuJ ((ziv h).parts m hm),(zlv h).kinds⟩
theorem nrm_lt{g:List Module}(h:Good g)(i:Nat)(h1:i+1<g.length):Op.bytesLess g[i].name.1.toList g[i+1].name.1.toList =true:=
 List.pairwise_iff_getElem.1 h.srt i (i+1) (by omega) h1 (by omega)
theorem normal_law(x y:Raw)(hx:x.ok)(l m:List K4)(hl: ∀k∈l,k.ok)(b:List Nat)(hb: ∀n∈b,n<256):FnP Tryz.prog 12 [eZ2 x y l m,zau b] (.d (eB true)) []:=by
 refine FnP.of_eC (own:=[]) (fun i=>if i=2005 then [.flt ⟨[(0,none),(1,none),(2,none),(3,none),(4,none),(7,some []),(8,some [])]⟩ ⟨[5,6],[(7,[5]),(8,[6])]⟩]else if i=2011 then [.ord ⟨[(0,none),(1,none),(2,none),(3,none),(4,none),(5,none),(6,none),(7,none),(8,none),(9,none),(10,none),(11,none),(12,none),(13,none),(14,none),(15,none),(16,none),(17,none)]⟩]else if i=2013 then [.ord ⟨[(0,none),(1,none),(2,none),(3,none),(4,none),(5,none),(6,none),(7,none),(8,none),(9,none),(10,none),(11,none),(12,none),(13,none),(14,none),(15,none),(16,none),(17,none),(18,none),(19,none),(20,none),(21,none),(22,none),(23,none),(24,none),(25,none),(26,none),(27,none),(28,none),(29,none),(30,none),(31,none),(32,none),(33,none),(34,none),(35,none),(36,none),(37,none),(38,none),(39,none),(40,none)]⟩]else []) zat Tryz.func12 rfl Tryz.call12 Tryz.ntmps12 (Nat.le_of_ble_eq_true rfl) Tryz.results12 (fun hok=> ?_);have s1:=zys x hx l hl;have sma:=znB x l;have sml:=small_sp x l;obtain⟨a,ha⟩:=zX (zna x l);rw[ha]at s1 sma sml;have na:=zxo a sma;have mc:=mix_c a (by have:=sma.len; omega) (fun m hm=>by have:=sma.items m hm; omega) b hb;have smm:=sm_mix sma b;have nm:=zxo (mixF b a) smm;rw[ztz sma.part b]at nm;have hdf:zrp a (mixF b a)=[]:=(empty_law sma.part smm.part).2 (ztz sma.part b).symm;have dc:=diff_s a (mixF b a) sma smm;rw[hdf]at dc;obtain⟨c,hc⟩:=zX (mixF b a);rw[hc]at mc nm dc;have gd:=ziv sma.part;have hvn:=zwk sma.part;have va:=zfs a sml;have vn:=zfs (zcC a) (small_norm sml);rw[hvn]at vn;have hlen:=zyb a;have hal:=sma.len;have rp:=rpart_c (zcC a);have hpg:ze8 (zcC a)=true:=(zbU _).2 (normF_parted sma.part);rw[hpg]at rp;have pc:=zii (zcC a) (by omega) (fun m hm=>by have:=ziX (k:=100) sma.items m hm; omega);rw[hpg]at pc;have nn:=zih (zcC a) (Srt.nodup zrt gd.srt) (fun m hm=>Srt.nodup zuJ (gd.parts m hm)) (by omega) (fun m hm=>by have:=ziX (k:=100) sma.items m hm; omega);rw[zks gd]at nn;have sc:=zh6 (zcC a) (zcC a);rw[zv2]at sc;obtain⟨g,hg⟩:=zX (zcC a);rw[hg]at na nm gd vn hlen rp pc nn sc;obtain⟨vb,hvb⟩:=zX (zbi a);rw[hvb]at va vn;simp(maxSteps:=4000000) only[ZE,↓reduceIte,pE,pL,pA,pS,pM,pD,zew]at s1;simp(maxSteps:=4000000) only[ZE,↓reduceIte,pE,pL,pA,pS,pM,pD]at na mc nm dc va vn rp pc nn sc;simp(maxSteps:=4000000) only[ZE,↓reduceIte,pE,pL,pA,pS,pM,pD,zN,qT,qG,qL,qH,qN,qB,qE,qO,qA,qM,eZ2];refine EFn.p ?_;simp(maxSteps:=4000000) only[ZE,↓reduceIte,pE,pL,pA,pS,pM,pD,zN,qT,qG,qL,qH,qN,qB,qE,qO,qA,qM];refine zar.i zcv ?_;simp(maxSteps:=4000000) only[ZE,↓reduceIte,pE,pL,pA,pS,pM,pD,zN,qT,qG,qL,qH,qN,qB,qE,qO,qA,qM];refine EFn.p ?_;simp(maxSteps:=4000000) only[ZE,↓reduceIte,pE,pL,pA,pS,pM,pD,zN,qT,qG,qL,qH,qN,qB,qE,qO,qA,qM];refine zar.i s1 ?_;simp(maxSteps:=4000000) only[ZE,↓reduceIte,pE,pL,pA,pS,pM,pD,zN,qT,qG,qL,qH,qN,qB,qE,qO,qA,qM];refine⟨by kernel_rfl,zaz.i na ?_⟩;simp(maxSteps:=4000000) only[ZE,↓reduceIte,pE,pL,pA,pS,pM,pD,zN,qT,qG,qL,qH,qN,qB,qE,qO,qA,qM];refine zaz.i mc ?_;simp(maxSteps:=4000000) only[ZE,↓reduceIte,pE,pL,pA,pS,pM,pD,zN,qT,qG,qL,qH,qN,qB,qE,qO,qA,qM];refine EFn.p ?_;simp(maxSteps:=4000000) only[ZE,↓reduceIte,pE,pL,pA,pS,pM,pD,zN,qT,qG,qL,qH,qN,qB,qE,qO,qA,qM];refine zar.i rp ?_;simp(maxSteps:=4000000) only[ZE,↓reduceIte,pE,pL,pA,pS,pM,pD,zN,qT,qG,qL,qH,qN,qB,qE,qO,qA,qM];refine za1 (fun i=>if i=2011 then [.ord ⟨[(0,none),(1,none),(2,none),(3,none),(4,none),(5,none),(6,none),(7,none),(8,none),(9,none),(10,none),(11,none),(12,none),(13,none),(14,none),(15,none),(16,none),(17,none)]⟩]else []) zat g.length (fun _=>True) (fun i=>([(4,.d (eB false)),(5,.d (eB true)),(6,.bp 6 0),(7,.bp 7 0),(8,.bp 8 0),(9,.d (eI i))],[(6,.box [.d (zax a)]),(7,.box [.d (zax g)]),(8,.box [.d (zax c)])])) trivial ?_ ?_ (fun i hi _=> ?_)
 ·simp(maxSteps:=4000000) only[ZE,↓reduceIte,pE,pL,pA,pS,pM,pD]
 ·simp(maxSteps:=4000000) only[ZE,↓reduceIte,pE,pL,pA,pS,pM,pD]
 rcases Nat.lt_or_ge i g.length with h | h
 ·have hw:=zaq (show i<9223372036854775807 by omega);rcases Nat.eq_zero_or_pos i with h0 | h0
  ·have g0:decide ((i:Int)>0)=false:=decide_eq_false (by omega);have g1:decide (0<(i:Int))=false:=decide_eq_false (by omega);simp(maxSteps:=100000) only[ZE,↓reduceIte,pE,pL,pA,pS,pM,pD,zaw h,zai h,zaa h,zN,qT,qG,qL,qH,qN,qB,qE,qO,qA,qM,List.length_map,g0,g1,hw];exact⟨by kernel_rfl,h⟩
  ·have g0:decide ((i:Int)>0)=true:=decide_eq_true (by omega);have g1:decide (0<(i:Int))=true:=decide_eq_true (by omega);obtain⟨j,rfl⟩: ∃j,i=j+1:=⟨i-1,by omega⟩;have hj:j<g.length:=by omega
   have lt:=nrm_lt gd j h;have hw2:IntKind.i64.wrap (((j+1:Nat):Int)-1)=(j:Int):=by rw[zaQ (by omega) (by omega)]; omega
   obtain⟨p,hp⟩:=zX (g[j]);obtain⟨q,hq⟩:=zX (g[j+1]);rw[hp,hq]at lt;simp(maxSteps:=100000) only[ZE,↓reduceIte,pE,pL,pA,pS,pM,pD,zaw h,zai h,zaa h,zN,qT,qG,qL,qH,qN,qB,qE,qO,qA,qM,List.length_map,g0,g1,hw,hw2,zai hj,zaa hj,hp,hq,lt];exact⟨by kernel_rfl,h⟩
 ·have:i=g.length:=by omega
  subst this;have he:((g.length:Int)==(a.length:Int))=true:=by rw[hlen]; exact beq_self_eq_true _
  simp(maxSteps:=4000000) only[ZE,↓reduceIte,pE,pL,pA,pS,pM,pD,zaI h,zN,qT,qG,qL,qH,qN,qB,qE,qO,qA,qM,List.length_map,he]
  trace_state
  refine⟨by kernel_rfl,zaz.i pc ?_⟩;simp(maxSteps:=4000000) only[ZE,↓reduceIte,pE,pL,pA,pS,pM,pD,zN,qT,qG,qL,qH,qN,qB,qE,qO,qA,qM];refine zaz.i nn ?_;simp(maxSteps:=4000000) only[ZE,↓reduceIte,pE,pL,pA,pS,pM,pD,zN,qT,qG,qL,qH,qN,qB,qE,qO,qA,qM];refine zaz.i sc ?_;simp(maxSteps:=4000000) only[ZE,↓reduceIte,pE,pL,pA,pS,pM,pD,zN,qT,qG,qL,qH,qN,qB,qE,qO,qA,qM];refine zaz.i nm ?_;simp(maxSteps:=4000000) only[ZE,↓reduceIte,pE,pL,pA,pS,pM,pD,zN,qT,qG,qL,qH,qN,qB,qE,qO,qA,qM];refine zaz.i sc ?_;simp(maxSteps:=4000000) only[ZE,↓reduceIte,pE,pL,pA,pS,pM,pD,zN,qT,qG,qL,qH,qN,qB,qE,qO,qA,qM];refine zaz.i dc ?_;simp(maxSteps:=4000000) only[ZE,↓reduceIte,pE,pL,pA,pS,pM,pD,zN,qT,qG,qL,qH,qN,qB,qE,qO,qA,qM,List.length_nil,List.map_nil];refine zaz.i vn ?_;simp(maxSteps:=4000000) only[ZE,↓reduceIte,pE,pL,pA,pS,pM,pD,zN,qT,qG,qL,qH,qN,qB,qE,qO,qA,qM];refine zaz.i va ?_;simp(maxSteps:=4000000) only[ZE,↓reduceIte,pE,pL,pA,pS,pM,pD,zN,qT,qG,qL,qH,qN,qB,qE,qO,qA,qM,beq_self_eq_true]
theorem zxn(os:Os)(started:os.Started)(H:Type)(enc:TypeId×Value->H):
  ReturnsInHanded {} Tryz.checked os 12 .any (Rows.treediffNormalSpec.pre6 enc Tryz.prog Tryz.f12 Rows.treediffNormalRow.domain false) (Rows.treediffNormalSpec.post enc Tryz.prog Tryz.f12 false true false false):=by
 refine returnsInHanded_of_change (C:=Tryz.checked) own started (by kernel_rfl) Tryz.func12
  (ChangeSpec.witness6 (enc:=enc) (C:=Tryz.checked) false ⟨#[],#[.agg #[.int .u8 0,.int .u8 0,.slice none 0 0,.int .u8 0,.int .u8 0,.slice none 0 0,.slice none 0 0,.slice none 0 0],.slice none 0 0],[]⟩ 8 (by kernel_rfl) (by kernel_rfl) (by kernel_rfl) (by kernel_rfl)) ?_
 intro W base args ds gs before hval hW _ _;refine zdL (P:=Tryz.prog) (n:=8) (ss:=[shPair,shB]) zdF (of_decide_eq_true (by kernel_rfl)) (tb:=4) (by kernel_rfl) Tryz.underlying4 (by kernel_rfl) rfl hval hW (fun hl=> ?_) (fun Ds hD _=> ?_)
 ·match ds,hl with
  | [_,_],_=>rfl
 ·obtain⟨a,b,rfl,ha,hb⟩:=zlb hD;obtain⟨x,y,l,m,rfl,hx,hy,hl,hm⟩:=pair_of ha;obtain⟨ks,rfl,hks⟩:=zk5 hb;exact normal_law x y hx l m hl ks hks
theorem normal_j0:jG0 Tryz.prog 12 Tryz.f12 Rows.treediffNormalSpec Rows.treediffNormalRow=true:=by kernel_rfl
theorem normal_j1:jG1 Tryz.prog 12 Tryz.f12 Rows.treediffNormalSpec Rows.treediffNormalRow=true:=by kernel_rfl
theorem normal_j2:jG2 Tryz.prog 12 Tryz.f12 Rows.treediffNormalSpec Rows.treediffNormalRow=true:=by kernel_rfl
theorem normal_j3:jG3 Tryz.prog 12 Tryz.f12 Rows.treediffNormalSpec Rows.treediffNormalRow=true:=by kernel_rfl
theorem normal_j4:jG4 Tryz.prog 12 Tryz.f12 Rows.treediffNormalSpec Rows.treediffNormalRow=true:=by kernel_rfl
theorem normal_j5:jG5 Tryz.prog 12 Tryz.f12 Rows.treediffNormalSpec Rows.treediffNormalRow=true:=by kernel_rfl
theorem normal_j6:jG6 Tryz.prog 12 Tryz.f12 Rows.treediffNormalSpec Rows.treediffNormalRow=true:=by kernel_rfl
theorem normal_j7:jG7 Tryz.prog 12 Tryz.f12 Rows.treediffNormalSpec Rows.treediffNormalRow=true:=by kernel_rfl
theorem normal_j8:jG8 Tryz.prog 12 Tryz.f12 Rows.treediffNormalSpec Rows.treediffNormalRow=true:=by kernel_rfl
theorem normal_j:joinedFacts Tryz.prog 12 Tryz.f12 Rows.treediffNormalSpec Rows.treediffNormalRow=true:=ziO jP1 jP2 jP6 jP8 jP24 jP25 normal_j0 normal_j1 normal_j2 normal_j3 normal_j4 normal_j5 normal_j6 normal_j7 normal_j8
theorem normal_holds:Rows.TreediffNormalSaid:=
 OpenClaim.holds_of_wide 12 Tryz.f12 rfl rfl rfl rfl rfl rfl rfl ⟨rfl,rfl,rfl,rfl,rfl⟩ rfl rfl rfl rfl rfl (by kernel_rfl) Tryz.func12 normal_j
  (of_decide_eq_true (by kernel_rfl)) (by unfold Func.isWrapper; first | (rw[if_pos (by decide+kernel)]; kernel_rfl) | (rw[if_neg (by decide+kernel)]; exact⟨rfl,rfl⟩))
  (fun os started H enc _=>zxn os started H enc)
end Go.Proofs.YtbenhdgpogiadaaGreat
