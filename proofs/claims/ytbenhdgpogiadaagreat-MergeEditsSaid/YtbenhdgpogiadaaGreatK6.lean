/- Contracts and laws. Conditions: those of each. -/
import Derived.Test.YtbenhdgpogiadaaGreatK3
import Derived.Test.YtbenhdgpogiadaaGreatK1
import Derived.Test.YtbenhdgpogiadaaGreatGIn
import Derived.Shelf.RegionOpenPlain
import Derived.WalkKit
import Derived.Deep.LoopGhost
import Derived.Deep.RegionLaw
import Derived.Lib.Walk
import Derived.Lib.SliceRun
import Derived.OwnWalk
import Derived.Shelf.Spec.SlicesInsert
import Derived.Lib.AppendZerosOnto
import Derived.Laws.NewBlocks
import Derived.Test.YtbenhdgpogiadaaGreatGSr
import Derived.Shelf.SlSortCmp.InsertionK
set_option linter.unusedSimpArgs false
set_option linter.unusedVariables false
open List renaming length_append -> waa, length_cons -> wab, map_append -> wac, length_nil -> wad, take_succ_eq_append_getElem -> wae, length_take -> waf, take_of_length_le -> wag, append_assoc -> wah, flatMap_cons -> wai, flatMap_nil -> waj, flatMap_append -> wak, append_nil -> wal, getElem?_eq_getElem -> wam, take_append_drop -> wan
open Nat renaming lt_or_ge -> wao, le_trans -> wap, lt_of_lt_of_le -> waq, le_refl -> war
namespace Go.Proofs.YtbenhdgpogiadaaGreat
open Go.Aw
open Tryz
set_option maxRecDepth 100000
set_option maxHeartbeats 1000000
theorem zcj(l:List Num):zcY 2 (l.map zgL):=by
 intro y hy;obtain⟨q,_,rfl⟩:=List.mem_map.1 hy;simp[zgL,eI,eS,D.one,Value.oneCell']
theorem zsh(l:List Num)(hl:l.length<=2000000):FnP prog 278 [ziG l] (.d (ziG l)) []:=by
 refine FnP.of_eC (own:=[]) (fun _=>[]) zat func278 rfl call278 ntmps278 (zle rfl) results278 (fun hok=> ?_);simp only[ZE,seval];refine⟨by simp[zdc],fun b hb=> ?_⟩;cases b with
 | true=>
  have:=hb rfl;simp only[ZE,seval,this]
 | false=>
  simp only[ZE,seval];exact⟨⟨zcj l,by omega,by omega⟩,by omega⟩
def zaZ(e:Expr):List Num:=if (e.op==1)=true then [e.k,e.w]else if (e.op==12)=true then [e.k,e.w]else if (e.op==13)=true then [e.w]else []
def zbh(x:Item):List Num:=if x.kind.1=1\/x.kind.1=2\/x.kind.1=5 then [x.width]else if x.kind.1=3\/x.kind.1=6 then [x.width,x.depth]else if x.kind.1=4 then [x.width,x.init]else if x.kind.1=9 then x.args else []
def zaX(x:Item):List Num:=zbh x++(Expr.allL (zbo x)).flatMap zaZ
theorem ztB(x:Item)(hl:(zaX x).length <=2000000):FnP prog 249 [.agg (zaK x)] (.d (ziG (zaX x))) []:=by
 have uc:=zuB x;simp only[ZE,seval]at uc;by_cases e:x.kind.1=1
 ·refine FnP.of_eC (own:=[]) (fun i=>if i=6 then [.rnm [(1,1),(3,3),(13,100)]]else if i=9 then [.rnm [(1,1),(3,3),(21,100)]]else if i=11 then [.rnm [(1,1),(3,3),(28,100)]]else if i=14 then [.keep [36,3,1]]else []) zat func249 rfl call249 ntmps249 (zle rfl) results249 (fun hok=> ?_);have hx:D.okL (zaK x):=by simpa only[D.okL,D.ok,and_true]using hok
  simp only[e]at uc;simp only[ZE,seval,e,zN];refine EFn.p ?_;simp only[ZE,seval];refine zar.i uc ?_;simp only[ZE,seval];refine EFn.p ?_;simp only[ZE,seval];have hc:=zeg (zbo x);simp only[ZE,seval]at hc;refine zar.i hc ?_;clear hc;simp only[ZE,seval];obtain⟨r,hr⟩: ∃r:Nat->List Num,∀k,r k=zbh x++((Expr.allL (zbo x)).take k).flatMap zaZ:=⟨fun k=>zbh x++((Expr.allL (zbo x)).take k).flatMap zaZ,fun _=>rfl⟩;have hr0:r 0=[x.width]:=by rw[hr]; simp[zbh,e]
  have hlen: ∀k,(r k).length <=2000000:=fun k=>by
   refine wap ?_ hl;rw[hr,zaX,waa,waa];refine Nat.add_le_add_left ?_ _
   conv=>rhs; rw[<-wan k (Expr.allL (zbo x)),wak,waa]
   exact Nat.le_add_right _ _
  refine zrq (fun _ _=>[]) (zbo x) (zea hx) rfl (by simp only[ZE,seval]) (fun k=>[(3,.box [.ar 100 (r k).length]),(1,.box ((zaK x).map .d)),(100,.arr 55 2 .flat ((r k).map zgL))]) (fun _=>True) trivial ?_ ?_ rfl (fun k hk _=> ?_) (fun _=> ?_)
  ·simp only[ZE,seval,hr0,e]
  ·simp only[ZE,seval]
  ·have hs:r (k+1)=r k++zaZ (Expr.allL (zbo x))[k]:=by rw[hr,hr,wae hk,wak]; simp only[wai,waj,wal,wah]
   have h1:=hlen (k+1);rw[hs,waa]at h1;have hrw:=zcj (r k);by_cases o1:((Expr.allL (zbo x))[k].op ==1)=true
   ·simp only[zaZ,o1,if_true,wab,wad]at h1;simp only[ZE,seval,eA,zN,hs,e,o1,zaZ,wac,waa,hrw,true_and];omega
   replace o1:=Bool.eq_false_iff.2 o1
   by_cases o2:((Expr.allL (zbo x))[k].op ==12)=true
   ·simp only[zaZ,o1,o2,if_true,wab,wad]at h1;simp only[ZE,seval,eA,zN,hs,e,o1,o2,zaZ,wac,waa,hrw,true_and];omega
   replace o2:=Bool.eq_false_iff.2 o2
   by_cases o3:((Expr.allL (zbo x))[k].op ==13)=true
   ·simp only[zaZ,o1,o2,o3,if_true,wab,wad]at h1;simp only[ZE,seval,eA,zN,hs,e,o1,o2,o3,zaZ,wac,waa,hrw,true_and];omega
   replace o3:=Bool.eq_false_iff.2 o3
   simp only[ZE,seval,eA,zN,hs,e,o1,o2,o3,zaZ]
  ·simp only[ZE,seval,zN,e];rw[hr,List.take_length,zaX]
 by_cases e:x.kind.1=2
 ·refine FnP.of_eC (own:=[]) (fun i=>if i=6 then [.rnm [(1,1),(3,3),(13,100)]]else if i=9 then [.rnm [(1,1),(3,3),(21,100)]]else if i=11 then [.rnm [(1,1),(3,3),(28,100)]]else if i=14 then [.keep [36,3,1]]else []) zat func249 rfl call249 ntmps249 (zle rfl) results249 (fun hok=> ?_);have hx:D.okL (zaK x):=by simpa only[D.okL,D.ok,and_true]using hok
  simp only[e]at uc;simp only[ZE,seval,e,zN];refine EFn.p ?_;simp only[ZE,seval];refine zar.i uc ?_;simp only[ZE,seval];refine EFn.p ?_;simp only[ZE,seval];have hc:=zeg (zbo x);simp only[ZE,seval]at hc;refine zar.i hc ?_;clear hc;simp only[ZE,seval];obtain⟨r,hr⟩: ∃r:Nat->List Num,∀k,r k=zbh x++((Expr.allL (zbo x)).take k).flatMap zaZ:=⟨fun k=>zbh x++((Expr.allL (zbo x)).take k).flatMap zaZ,fun _=>rfl⟩;have hr0:r 0=[x.width]:=by rw[hr]; simp[zbh,e]
  have hlen: ∀k,(r k).length <=2000000:=fun k=>by
   refine wap ?_ hl;rw[hr,zaX,waa,waa];refine Nat.add_le_add_left ?_ _
   conv=>rhs; rw[<-wan k (Expr.allL (zbo x)),wak,waa]
   exact Nat.le_add_right _ _
  refine zrq (fun _ _=>[]) (zbo x) (zea hx) rfl (by simp only[ZE,seval]) (fun k=>[(3,.box [.ar 100 (r k).length]),(1,.box ((zaK x).map .d)),(100,.arr 55 2 .flat ((r k).map zgL))]) (fun _=>True) trivial ?_ ?_ rfl (fun k hk _=> ?_) (fun _=> ?_)
  ·simp only[ZE,seval,hr0,e]
  ·simp only[ZE,seval]
  ·have hs:r (k+1)=r k++zaZ (Expr.allL (zbo x))[k]:=by rw[hr,hr,wae hk,wak]; simp only[wai,waj,wal,wah]
   have h1:=hlen (k+1);rw[hs,waa]at h1;have hrw:=zcj (r k);by_cases o1:((Expr.allL (zbo x))[k].op ==1)=true
   ·simp only[zaZ,o1,if_true,wab,wad]at h1;simp only[ZE,seval,eA,zN,hs,e,o1,zaZ,wac,waa,hrw,true_and];omega
   replace o1:=Bool.eq_false_iff.2 o1
   by_cases o2:((Expr.allL (zbo x))[k].op ==12)=true
   ·simp only[zaZ,o1,o2,if_true,wab,wad]at h1;simp only[ZE,seval,eA,zN,hs,e,o1,o2,zaZ,wac,waa,hrw,true_and];omega
   replace o2:=Bool.eq_false_iff.2 o2
   by_cases o3:((Expr.allL (zbo x))[k].op ==13)=true
   ·simp only[zaZ,o1,o2,o3,if_true,wab,wad]at h1;simp only[ZE,seval,eA,zN,hs,e,o1,o2,o3,zaZ,wac,waa,hrw,true_and];omega
   replace o3:=Bool.eq_false_iff.2 o3
   simp only[ZE,seval,eA,zN,hs,e,o1,o2,o3,zaZ]
  ·simp only[ZE,seval,zN,e];rw[hr,List.take_length,zaX]
 by_cases e:x.kind.1=5
 ·refine FnP.of_eC (own:=[]) (fun i=>if i=6 then [.rnm [(1,1),(3,3),(13,100)]]else if i=9 then [.rnm [(1,1),(3,3),(21,100)]]else if i=11 then [.rnm [(1,1),(3,3),(28,100)]]else if i=14 then [.keep [36,3,1]]else []) zat func249 rfl call249 ntmps249 (zle rfl) results249 (fun hok=> ?_);have hx:D.okL (zaK x):=by simpa only[D.okL,D.ok,and_true]using hok
  simp only[e]at uc;simp only[ZE,seval,e,zN];refine EFn.p ?_;simp only[ZE,seval];refine zar.i uc ?_;simp only[ZE,seval];refine EFn.p ?_;simp only[ZE,seval];have hc:=zeg (zbo x);simp only[ZE,seval]at hc;refine zar.i hc ?_;clear hc;simp only[ZE,seval];obtain⟨r,hr⟩: ∃r:Nat->List Num,∀k,r k=zbh x++((Expr.allL (zbo x)).take k).flatMap zaZ:=⟨fun k=>zbh x++((Expr.allL (zbo x)).take k).flatMap zaZ,fun _=>rfl⟩;have hr0:r 0=[x.width]:=by rw[hr]; simp[zbh,e]
  have hlen: ∀k,(r k).length <=2000000:=fun k=>by
   refine wap ?_ hl;rw[hr,zaX,waa,waa];refine Nat.add_le_add_left ?_ _
   conv=>rhs; rw[<-wan k (Expr.allL (zbo x)),wak,waa]
   exact Nat.le_add_right _ _
  refine zrq (fun _ _=>[]) (zbo x) (zea hx) rfl (by simp only[ZE,seval]) (fun k=>[(3,.box [.ar 100 (r k).length]),(1,.box ((zaK x).map .d)),(100,.arr 55 2 .flat ((r k).map zgL))]) (fun _=>True) trivial ?_ ?_ rfl (fun k hk _=> ?_) (fun _=> ?_)
  ·simp only[ZE,seval,hr0,e]
  ·simp only[ZE,seval]
  ·have hs:r (k+1)=r k++zaZ (Expr.allL (zbo x))[k]:=by rw[hr,hr,wae hk,wak]; simp only[wai,waj,wal,wah]
   have h1:=hlen (k+1);rw[hs,waa]at h1;have hrw:=zcj (r k);by_cases o1:((Expr.allL (zbo x))[k].op ==1)=true
   ·simp only[zaZ,o1,if_true,wab,wad]at h1;simp only[ZE,seval,eA,zN,hs,e,o1,zaZ,wac,waa,hrw,true_and];omega
   replace o1:=Bool.eq_false_iff.2 o1
   by_cases o2:((Expr.allL (zbo x))[k].op ==12)=true
   ·simp only[zaZ,o1,o2,if_true,wab,wad]at h1;simp only[ZE,seval,eA,zN,hs,e,o1,o2,zaZ,wac,waa,hrw,true_and];omega
   replace o2:=Bool.eq_false_iff.2 o2
   by_cases o3:((Expr.allL (zbo x))[k].op ==13)=true
   ·simp only[zaZ,o1,o2,o3,if_true,wab,wad]at h1;simp only[ZE,seval,eA,zN,hs,e,o1,o2,o3,zaZ,wac,waa,hrw,true_and];omega
   replace o3:=Bool.eq_false_iff.2 o3
   simp only[ZE,seval,eA,zN,hs,e,o1,o2,o3,zaZ]
  ·simp only[ZE,seval,zN,e];rw[hr,List.take_length,zaX]
 by_cases e:x.kind.1=3
 ·refine FnP.of_eC (own:=[]) (fun i=>if i=6 then [.rnm [(1,1),(3,3),(13,100)]]else if i=9 then [.rnm [(1,1),(3,3),(21,100)]]else if i=11 then [.rnm [(1,1),(3,3),(28,100)]]else if i=14 then [.keep [36,3,1]]else []) zat func249 rfl call249 ntmps249 (zle rfl) results249 (fun hok=> ?_);have hx:D.okL (zaK x):=by simpa only[D.okL,D.ok,and_true]using hok
  simp only[e]at uc;simp only[ZE,seval,e,zN];refine EFn.p ?_;simp only[ZE,seval];refine zar.i uc ?_;simp only[ZE,seval];refine EFn.p ?_;simp only[ZE,seval];have hc:=zeg (zbo x);simp only[ZE,seval]at hc;refine zar.i hc ?_;clear hc;simp only[ZE,seval];obtain⟨r,hr⟩: ∃r:Nat->List Num,∀k,r k=zbh x++((Expr.allL (zbo x)).take k).flatMap zaZ:=⟨fun k=>zbh x++((Expr.allL (zbo x)).take k).flatMap zaZ,fun _=>rfl⟩;have hr0:r 0=[x.width,x.depth]:=by rw[hr]; simp[zbh,e]
  have hlen: ∀k,(r k).length <=2000000:=fun k=>by
   refine wap ?_ hl;rw[hr,zaX,waa,waa];refine Nat.add_le_add_left ?_ _
   conv=>rhs; rw[<-wan k (Expr.allL (zbo x)),wak,waa]
   exact Nat.le_add_right _ _
  refine zrq (fun _ _=>[]) (zbo x) (zea hx) rfl (by simp only[ZE,seval]) (fun k=>[(3,.box [.ar 100 (r k).length]),(1,.box ((zaK x).map .d)),(100,.arr 55 2 .flat ((r k).map zgL))]) (fun _=>True) trivial ?_ ?_ rfl (fun k hk _=> ?_) (fun _=> ?_)
  ·simp only[ZE,seval,hr0,e]
  ·simp only[ZE,seval]
  ·have hs:r (k+1)=r k++zaZ (Expr.allL (zbo x))[k]:=by rw[hr,hr,wae hk,wak]; simp only[wai,waj,wal,wah]
   have h1:=hlen (k+1);rw[hs,waa]at h1;have hrw:=zcj (r k);by_cases o1:((Expr.allL (zbo x))[k].op ==1)=true
   ·simp only[zaZ,o1,if_true,wab,wad]at h1;simp only[ZE,seval,eA,zN,hs,e,o1,zaZ,wac,waa,hrw,true_and];omega
   replace o1:=Bool.eq_false_iff.2 o1
   by_cases o2:((Expr.allL (zbo x))[k].op ==12)=true
   ·simp only[zaZ,o1,o2,if_true,wab,wad]at h1;simp only[ZE,seval,eA,zN,hs,e,o1,o2,zaZ,wac,waa,hrw,true_and];omega
   replace o2:=Bool.eq_false_iff.2 o2
   by_cases o3:((Expr.allL (zbo x))[k].op ==13)=true
   ·simp only[zaZ,o1,o2,o3,if_true,wab,wad]at h1;simp only[ZE,seval,eA,zN,hs,e,o1,o2,o3,zaZ,wac,waa,hrw,true_and];omega
   replace o3:=Bool.eq_false_iff.2 o3
   simp only[ZE,seval,eA,zN,hs,e,o1,o2,o3,zaZ]
  ·simp only[ZE,seval,zN,e];rw[hr,List.take_length,zaX]
 by_cases e:x.kind.1=6
 ·refine FnP.of_eC (own:=[]) (fun i=>if i=6 then [.rnm [(1,1),(3,3),(13,100)]]else if i=9 then [.rnm [(1,1),(3,3),(21,100)]]else if i=11 then [.rnm [(1,1),(3,3),(28,100)]]else if i=14 then [.keep [36,3,1]]else []) zat func249 rfl call249 ntmps249 (zle rfl) results249 (fun hok=> ?_);have hx:D.okL (zaK x):=by simpa only[D.okL,D.ok,and_true]using hok
  simp only[e]at uc;simp only[ZE,seval,e,zN];refine EFn.p ?_;simp only[ZE,seval];refine zar.i uc ?_;simp only[ZE,seval];refine EFn.p ?_;simp only[ZE,seval];have hc:=zeg (zbo x);simp only[ZE,seval]at hc;refine zar.i hc ?_;clear hc;simp only[ZE,seval];obtain⟨r,hr⟩: ∃r:Nat->List Num,∀k,r k=zbh x++((Expr.allL (zbo x)).take k).flatMap zaZ:=⟨fun k=>zbh x++((Expr.allL (zbo x)).take k).flatMap zaZ,fun _=>rfl⟩;have hr0:r 0=[x.width,x.depth]:=by rw[hr]; simp[zbh,e]
  have hlen: ∀k,(r k).length <=2000000:=fun k=>by
   refine wap ?_ hl;rw[hr,zaX,waa,waa];refine Nat.add_le_add_left ?_ _
   conv=>rhs; rw[<-wan k (Expr.allL (zbo x)),wak,waa]
   exact Nat.le_add_right _ _
  refine zrq (fun _ _=>[]) (zbo x) (zea hx) rfl (by simp only[ZE,seval]) (fun k=>[(3,.box [.ar 100 (r k).length]),(1,.box ((zaK x).map .d)),(100,.arr 55 2 .flat ((r k).map zgL))]) (fun _=>True) trivial ?_ ?_ rfl (fun k hk _=> ?_) (fun _=> ?_)
  ·simp only[ZE,seval,hr0,e]
  ·simp only[ZE,seval]
  ·have hs:r (k+1)=r k++zaZ (Expr.allL (zbo x))[k]:=by rw[hr,hr,wae hk,wak]; simp only[wai,waj,wal,wah]
   have h1:=hlen (k+1);rw[hs,waa]at h1;have hrw:=zcj (r k);by_cases o1:((Expr.allL (zbo x))[k].op ==1)=true
   ·simp only[zaZ,o1,if_true,wab,wad]at h1;simp only[ZE,seval,eA,zN,hs,e,o1,zaZ,wac,waa,hrw,true_and];omega
   replace o1:=Bool.eq_false_iff.2 o1
   by_cases o2:((Expr.allL (zbo x))[k].op ==12)=true
   ·simp only[zaZ,o1,o2,if_true,wab,wad]at h1;simp only[ZE,seval,eA,zN,hs,e,o1,o2,zaZ,wac,waa,hrw,true_and];omega
   replace o2:=Bool.eq_false_iff.2 o2
   by_cases o3:((Expr.allL (zbo x))[k].op ==13)=true
   ·simp only[zaZ,o1,o2,o3,if_true,wab,wad]at h1;simp only[ZE,seval,eA,zN,hs,e,o1,o2,o3,zaZ,wac,waa,hrw,true_and];omega
   replace o3:=Bool.eq_false_iff.2 o3
   simp only[ZE,seval,eA,zN,hs,e,o1,o2,o3,zaZ]
  ·simp only[ZE,seval,zN,e];rw[hr,List.take_length,zaX]
 by_cases e:x.kind.1=4
 ·refine FnP.of_eC (own:=[]) (fun i=>if i=6 then [.rnm [(1,1),(3,3),(13,100)]]else if i=9 then [.rnm [(1,1),(3,3),(21,100)]]else if i=11 then [.rnm [(1,1),(3,3),(28,100)]]else if i=14 then [.keep [36,3,1]]else []) zat func249 rfl call249 ntmps249 (zle rfl) results249 (fun hok=> ?_);have hx:D.okL (zaK x):=by simpa only[D.okL,D.ok,and_true]using hok
  simp only[e]at uc;simp only[ZE,seval,e,zN];refine EFn.p ?_;simp only[ZE,seval];refine zar.i uc ?_;simp only[ZE,seval];refine EFn.p ?_;simp only[ZE,seval];have hc:=zeg (zbo x);simp only[ZE,seval]at hc;refine zar.i hc ?_;clear hc;simp only[ZE,seval];obtain⟨r,hr⟩: ∃r:Nat->List Num,∀k,r k=zbh x++((Expr.allL (zbo x)).take k).flatMap zaZ:=⟨fun k=>zbh x++((Expr.allL (zbo x)).take k).flatMap zaZ,fun _=>rfl⟩;have hr0:r 0=[x.width,x.init]:=by rw[hr]; simp[zbh,e]
  have hlen: ∀k,(r k).length <=2000000:=fun k=>by
   refine wap ?_ hl;rw[hr,zaX,waa,waa];refine Nat.add_le_add_left ?_ _
   conv=>rhs; rw[<-wan k (Expr.allL (zbo x)),wak,waa]
   exact Nat.le_add_right _ _
  refine zrq (fun _ _=>[]) (zbo x) (zea hx) rfl (by simp only[ZE,seval]) (fun k=>[(3,.box [.ar 100 (r k).length]),(1,.box ((zaK x).map .d)),(100,.arr 55 2 .flat ((r k).map zgL))]) (fun _=>True) trivial ?_ ?_ rfl (fun k hk _=> ?_) (fun _=> ?_)
  ·simp only[ZE,seval,hr0,e]
  ·simp only[ZE,seval]
  ·have hs:r (k+1)=r k++zaZ (Expr.allL (zbo x))[k]:=by rw[hr,hr,wae hk,wak]; simp only[wai,waj,wal,wah]
   have h1:=hlen (k+1);rw[hs,waa]at h1;have hrw:=zcj (r k);by_cases o1:((Expr.allL (zbo x))[k].op ==1)=true
   ·simp only[zaZ,o1,if_true,wab,wad]at h1;simp only[ZE,seval,eA,zN,hs,e,o1,zaZ,wac,waa,hrw,true_and];omega
   replace o1:=Bool.eq_false_iff.2 o1
   by_cases o2:((Expr.allL (zbo x))[k].op ==12)=true
   ·simp only[zaZ,o1,o2,if_true,wab,wad]at h1;simp only[ZE,seval,eA,zN,hs,e,o1,o2,zaZ,wac,waa,hrw,true_and];omega
   replace o2:=Bool.eq_false_iff.2 o2
   by_cases o3:((Expr.allL (zbo x))[k].op ==13)=true
   ·simp only[zaZ,o1,o2,o3,if_true,wab,wad]at h1;simp only[ZE,seval,eA,zN,hs,e,o1,o2,o3,zaZ,wac,waa,hrw,true_and];omega
   replace o3:=Bool.eq_false_iff.2 o3
   simp only[ZE,seval,eA,zN,hs,e,o1,o2,o3,zaZ]
  ·simp only[ZE,seval,zN,e];rw[hr,List.take_length,zaX]
 have e1:(x.kind.1==1)=false:=by simpa using ‹¬x.kind.1=1›
 have e2:(x.kind.1==2)=false:=by simpa using ‹¬x.kind.1=2›
 have e3:(x.kind.1==3)=false:=by simpa using ‹¬x.kind.1=3›
 have e4:(x.kind.1==4)=false:=by simpa using ‹¬x.kind.1=4›
 have e5:(x.kind.1==5)=false:=by simpa using ‹¬x.kind.1=5›
 have e6:(x.kind.1==6)=false:=by simpa using ‹¬x.kind.1=6›
 by_cases e:x.kind.1=9
 ·refine FnP.of_eC (own:=[]) (fun i=>if i=14 then [.keep [36,3,1]]else []) zat func249 rfl call249 ntmps249 (zle rfl) results249 (fun hok=> ?_);have hx:D.okL (zaK x):=by simpa only[D.okL,D.ok,and_true]using hok
  have hu:Expr.allL (zbo x)=[]:=by simp[zbo,zhe,e,Expr.allL]
  have hn:zaX x=x.args:=by rw[zaX,hu]; simp[zbh,e]
  rw[hn]at hl;simp only[e]at uc;simp only[ZE,seval,e,zN];refine EFn.p ?_;simp only[ZE,seval];have cc:=zsh x.args hl;simp only[ZE,seval]at cc;refine zar.i cc ?_;simp only[ZE,seval];refine EFn.p ?_;simp only[ZE,seval,e];refine zar.i uc ?_;simp only[ZE,seval];refine EFn.p ?_;simp only[ZE,seval];have hc:=zeg (zbo x);simp only[ZE,seval]at hc;refine zar.i hc ?_;clear hc;simp only[ZE,seval];refine zrq (fun _ _=>[]) (zbo x) (zea hx) rfl (by simp only[ZE,seval]) (fun k=>[(3,.box [.d (ziG x.args)]),(1,.box ((zaK x).map .d))]) (fun _=>True) trivial ?_ ?_ rfl (fun k hk _=> ?_) (fun _=> ?_)
  ·simp only[ZE,seval,e]
  ·simp only[ZE,seval]
  ·rw[hu]at hk; cases hk
  ·simp only[ZE,seval,zN,hn]
 have e9:(x.kind.1==9)=false:=by simpa using e
 refine FnP.of_eC (own:=[]) (fun i=>if i=1014 then [.adB 3 0 100 55 2]else if i=14 then [.keep [36,3,1]]else []) zat func249 rfl call249 ntmps249 (zle rfl) results249 (fun hok=> ?_);have hx:D.okL (zaK x):=by simpa only[D.okL,D.ok,and_true]using hok
 simp only[ZE,seval,e1,e2,e3,e4,e5,e6,e9,zN];refine EFn.p ?_;simp only[ZE,seval];refine zar.i uc ?_;simp only[ZE,seval];refine EFn.p ?_;simp only[ZE,seval];have hc:=zeg (zbo x);simp only[ZE,seval]at hc;refine zar.i hc ?_;clear hc;simp only[ZE,seval];have n1:=beq_eq_false_iff_ne.1 e1;have n2:=beq_eq_false_iff_ne.1 e2;have n3:=beq_eq_false_iff_ne.1 e3;have n4:=beq_eq_false_iff_ne.1 e4;have n5:=beq_eq_false_iff_ne.1 e5;have n6:=beq_eq_false_iff_ne.1 e6;obtain⟨r,hr⟩: ∃r:Nat->List Num,∀k,r k=zbh x++((Expr.allL (zbo x)).take k).flatMap zaZ:=⟨fun k=>zbh x++((Expr.allL (zbo x)).take k).flatMap zaZ,fun _=>rfl⟩;have hr0:r 0=[]:=by rw[hr]; simp[zbh,n1,n2,n3,n4,n5,n6,e]
 have hlen: ∀k,(r k).length <=2000000:=fun k=>by
  refine wap ?_ hl;rw[hr,zaX,waa,waa];refine Nat.add_le_add_left ?_ _
  conv=>rhs; rw[<-wan k (Expr.allL (zbo x)),wak,waa]
  exact Nat.le_add_right _ _
 refine zrq (fun _ _=>[]) (zbo x) (zea hx) rfl (by simp only[ZE,seval]) (fun k=>[(3,.box [.ar 100 (r k).length]),(1,.box ((zaK x).map .d)),(100,.arr 55 2 .flat ((r k).map zgL))]) (fun _=>True) trivial ?_ ?_ rfl (fun k hk _=> ?_) (fun _=> ?_)
 ·simp only[ZE,seval,hr0,n1,n2,n3,n4,n5,n6,e]
 ·simp only[ZE,seval]
 ·have hs:r (k+1)=r k++zaZ (Expr.allL (zbo x))[k]:=by rw[hr,hr,wae hk,wak]; simp only[wai,waj,wal,wah]
  have h1:=hlen (k+1);rw[hs,waa]at h1;have hrw:=zcj (r k);by_cases o1:((Expr.allL (zbo x))[k].op ==1)=true
  ·simp only[zaZ,o1,if_true,wab,wad]at h1;simp only[ZE,seval,eA,zN,hs,n1,n2,n3,n4,n5,n6,e,o1,zaZ,wac,waa,hrw,true_and];omega
  replace o1:=Bool.eq_false_iff.2 o1
  by_cases o2:((Expr.allL (zbo x))[k].op ==12)=true
  ·simp only[zaZ,o1,o2,if_true,wab,wad]at h1;simp only[ZE,seval,eA,zN,hs,n1,n2,n3,n4,n5,n6,e,o1,o2,zaZ,wac,waa,hrw,true_and];omega
  replace o2:=Bool.eq_false_iff.2 o2
  by_cases o3:((Expr.allL (zbo x))[k].op ==13)=true
  ·simp only[zaZ,o1,o2,o3,if_true,wab,wad]at h1;simp only[ZE,seval,eA,zN,hs,n1,n2,n3,n4,n5,n6,e,o1,o2,o3,zaZ,wac,waa,hrw,true_and];omega
  replace o3:=Bool.eq_false_iff.2 o3
  simp only[ZE,seval,eA,zN,hs,n1,n2,n3,n4,n5,n6,e,o1,o2,o3,zaZ]
 ·simp only[ZE,seval,zN,n1,n2,n3,n4,n5,n6,e];rw[hr,List.take_length,zaX]
theorem zlf(l:List Str)(s:Str):((get (tk l) s).map eB).getD (.lit (.bool false))= .lit (.bool (has l s)):=by
 rw[zo9];cases h:has l s <;> simp[eB]
def zjq(m:Module)(e:Expr):Bool:=(e.op==14&& !(has (zbz m.items) e.name&&has [1,3] (zbu m e.name))&& !has [4,5] (zbu m e.name))||(e.op==15&& !has [6] (zbu m e.name))
def zpn(m:Module)(b:Bind):Bool:= !has [1,2,3] (zbu m b.chan)
theorem lost1_c(m:Module)(b:Bind):FnP prog 252 [.agg (zjO b),.ptr (zaf m)] (.d (eB (zpn m b))) []:=by
 refine FnP.of_eC (own:=[]) chL zat func252 rfl call252 ntmps252 (zle rfl) results252 (fun hok=> ?_);have hc:=zs2 m b.chan [1,2,3];simp only[ZE,seval,zaf,sMp]at hc;simp only[ZE,seval,zaf,sMp];refine EFn.p ?_;simp only[ZE,seval];refine zar.i hc ?_;simp only[ZE,seval,zpn]
def zfj(l:List Module)(m:Module)(x:Item):Bool:=
 if x.kind.1=7 then !has [1,3] (zbu m x.name)else if x.kind.1=8 then !has [2,3] (zbu m x.name)
 else if x.kind.1=9 then !(zcA l x.of).isSome ||x.ports.any (zpn m)else if x.kind.1=4\/x.kind.1=6 then(x.rule.kind==2||x.rule.kind==3)&& !zcX x.rule.from'.1 else false
def zjr(m:Module)(n:Num):Bool:=(!decide (n.p.1={data:=#[]}))&& !has m.params n.p
def zdp(l:List Module)(m:Module)(x:Item):Bool:=(zaX x).any (zjr m)||(Expr.allL (zbo x)).any (zjq m)||zfj l m x
theorem zhI(l:List Module)(ks vs:List D)(bs:List Nat)(cl:Nat)(m:Module)(x:Item)(hl:(zaX x).length <=2000000):FnP prog 202 [.agg (zap l ks vs bs cl),.agg (zaf m),.agg (zaK x)] (.d (eB (zdp l m x))) []:=by
 refine FnP.of_eC (own:=[]) chL zat func202 rfl call202 ntmps202 (zle rfl) results202 (fun hok=> ?_);have hx:D.okL (zaK x):=by
  have:=(zaM (zaM (zaM hok).2).2).1;simpa only[D.ok]using this
 have uc:=zuB x;have nc:=ztB x hl;simp only[ZE,seval]at uc nc;simp only[ZE,seval,zN,zaf,sMp,zap,zab,zaF];refine EFn.p ?_;simp only[ZE,seval];refine zar.i nc ?_;simp only[ZE,seval];refine za1 chL zat (zaX x).length (fun i=> ∀n∈(zaX x).take i,zjr m n=false) (fun i=>([(3,.bp 3 0),(4,.bp 4 0),(5,.bp 5 0),(6,.bp 6 0),(14,.d (ziG (zaX x))),(15,.d (eI (zaX x).length)),(16,.d (eI i))],
  [(6,.box [.d (eB false)]),(5,.box ((zaK x).map .d)),(4,.box ((zaf m).map .d)),(3,.box ((zap l ks vs bs cl).map .d))])) (by simp) ?_ ?_ (fun i hi hI=> ?_)
 ·simp only[ZE,seval]
 ·simp only[ZE,seval,zap,zab,zaF,sMp,zaf]
 rcases wao i (zaX x).length with h | h
 ·have hw:=zaq (show i<9223372036854775807 by omega);have hc:=zcd m.params (zaX x)[i].p;simp only[ZE,seval]at hc;simp only[ZE,seval,zaw h,zaa h,zai h,zN,zap,zab,zaF,sMp,zaf];refine za3.i (fun _=>hc) ?_;simp only[ZE,seval,hw];refine zd8 (fun hb=> ?_) (fun hb=>⟨h,fun n hn=> ?_⟩)
  ·have:(zaX x).any (zjr m)=true:=List.any_eq_true.2 ⟨_,List.getElem_mem h,by simpa only[zjr]using hb⟩;simp only[zdp,this,Bool.true_or]
  ·rw[wae h,List.mem_append,List.mem_singleton]at hn;rcases hn with hn | rfl
   ·exact hI n hn
   ·simpa only[zjr]using hb
 ·have:i=(zaX x).length :=by omega
  subst this;have hN:(zaX x).any (zjr m)=false:=List.any_eq_false.2 fun n hn=>by
   rw[hI n (by rw[List.take_length]; exact hn)]; simp
  simp only[ZE,seval,zaI h,zN];refine EFn.p ?_;simp only[ZE,seval];refine zar.i uc ?_;simp only[ZE,seval];refine EFn.p ?_;simp only[ZE,seval];have hc:=zeg (zbo x);simp only[ZE,seval]at hc;refine zar.i hc ?_;clear hc;simp only[ZE,seval];refine zrq (fun _=>chL) (zbo x) (zea hx) rfl (by simp only[ZE,seval]) (fun _=>[(6,.box [.d (eB false)]),(5,.box ((zaK x).map .d)),(4,.box ((zaf m).map .d)),(3,.box ((zap l ks vs bs cl).map .d))]) (fun k=> ∀e∈(Expr.allL (zbo x)).take k,zjq m e=false) (by simp) ?_ ?_ rfl (fun k hk hI=> ?_) (fun hI=> ?_)
  ·simp only[ZE,seval,zap,zab,zaF,sMp,zaf]
  ·simp only[ZE,seval]
  ·obtain⟨e,he⟩:=zX ((Expr.allL (zbo x))[k]);have c1:=zs2 m e.name [1,3];have c2:=zs2 m e.name [4,5];have c3:=zs2 m e.name [6];simp only[ZE,seval,zaf,sMp]at c1 c2 c3;rw[he];simp only[ZE,seval,eA,zN,zFI,zlf];refine⟨fun y hy=>zcr _ y hy,za3.i (fun _=>c1) ?_⟩;simp only[ZE,seval,zN];refine za3.i (fun _=>c2) ?_;simp only[ZE,seval,zN];refine za3.i (fun _=>c3) ?_;simp only[ZE,seval,zN];refine zd8 (fun hb=> ?_) (fun hb n hn=> ?_)
   ·have:(Expr.allL (zbo x)).any (zjq m)=true:=List.any_eq_true.2 ⟨e,he▸List.getElem_mem hk,by
     rw[<-hb]; simp only[zjq]⟩
    simp only[zdp,this,Bool.true_or,Bool.or_true]
   ·rw[wae hk,List.mem_append,List.mem_singleton,he]at hn;rcases hn with hn | rfl
    ·exact hI n hn
    ·rw[<-hb]; simp only[zjq]
  ·have hE:(Expr.allL (zbo x)).any (zjq m)=false:=List.any_eq_false.2 fun e he=>by
    rw[hI e (by rw[List.take_length]; exact he)]; simp
   have hT:zdp l m x=zfj l m x:=by simp only[zdp,hN,hE,Bool.false_or]
   rw[hT];have c7:=zs2 m x.name [1,3];have c8:=zs2 m x.name [2,3];have c9:=zml x.ports 252 (.ptr (zaf m)) (zpn m) (fun b _=>lost1_c m b);have c4:=zdd x.rule.from'.1;simp only[ZE,seval,zaf,sMp]at c7 c8 c9 c4;by_cases k7:x.kind.1=7
   ·simp only[ZE,seval,k7,zN,zFI];refine EFn.p ?_;simp only[ZE,seval];refine zar.i c7 ?_;simp only[ZE,seval,zfj,k7]
   by_cases k8:x.kind.1=8
   ·simp only[ZE,seval,k8,zN,zFI];refine EFn.p ?_;simp only[ZE,seval];refine zar.i c8 ?_;simp only[ZE,seval,zfj,k8,zN]
   by_cases k9:x.kind.1=9
   ·simp only[ZE,seval,k9,zN,zFI];refine⟨fun y hy=>zcr _ y hy,za3.i (fun _=>c9) ?_⟩;simp only[ZE,seval,zfj,k9,zN,zcA,Option.isSome_map]
   by_cases k4:x.kind.1=4
   ·simp only[ZE,seval,k4,zN,zap,zab,zaF,sMp,zaf];refine za3.i (fun _=>c4) ?_;simp only[ZE,seval,zfj,k4,zN,or_true,true_or]
   by_cases k6:x.kind.1=6
   ·simp only[ZE,seval,k6,zN,zap,zab,zaF,sMp,zaf];refine za3.i (fun _=>c4) ?_;simp only[ZE,seval,zfj,k6,zN,or_true,true_or]
   have e7:(x.kind.1==7)=false:=by simpa using k7
   have e8:(x.kind.1==8)=false:=by simpa using k8
   have e9:(x.kind.1==9)=false:=by simpa using k9
   have e4:(x.kind.1==4)=false:=by simpa using k4
   have e6:(x.kind.1==6)=false:=by simpa using k6
   simp only[ZE,seval,e7,e8,e9,e4,e6,zN,zfj,k7,k8,k9,k4,k6,or_self]
def zca(m:Module)(rec:List Str->List Expr->List Str)(acc:List Str)(e:Expr):List Str:=
 if ((e.op !=14&&e.op !=15)||has acc e.name)=true then acc else if has [5] (zbu m e.name)=true then rec (acc++[e.name]) [(zce m e.name).a]else acc++[e.name]
def zdv(m:Module):Nat->List Str->List Expr->List Str
 | 0,acc,_=>acc
 | n+1,acc,l=>(Expr.allL l).foldl (zca m (zdv m n)) acc
def left(m:Module)(acc:List Str):Nat:=(zbG m.items).countP fun p=> !has acc p.1
def mo(id:Nat)(acc:List Str):Nat×AO:=(id,.map (sK (tk acc)) (sV eB (tk acc)) (List.range (tk acc).length) (tk acc).length)
theorem zdQ(a b:List Str)(s:Str):has (a++b) s=(has a s||has b s):=by simp[has]
theorem zth(m:Module){a b:List Str}(h: ∀s,has a s=true->has b s=true):left m b<=left m a:=by
 unfold left;refine List.countP_mono_left fun p _ hp=> ?_;simp only[Bool.not_eq_true']at hp ⊢;cases ha:has a p.1 with
 | false=>rfl
 | true=>rw[h _ ha]at hp; cases hp
theorem zti(m:Module){a:List Str}{s:Str}(hg:get (zbG m.items) s≠none)(ha:has a s=false):left m (a++[s])<left m a:=by
 unfold left;have: ∀l:List (Str×Item),get l s≠none->l.countP (fun p=> !has (a++[s]) p.1)<l.countP (fun p=> !has a p.1):=by
  intro l
  induction l with
  | nil=>intro h; exact absurd rfl h
  | cons p r ih=>
   intro h;rw[zho]at h;have hle:r.countP (fun p=> !has (a++[s]) p.1)<=r.countP (fun p=> !has a p.1):=List.countP_mono_left fun p _ hp=>by
    simp only[Bool.not_eq_true',zdQ,Bool.or_eq_false_iff]at hp ⊢;exact hp.1
   simp only[List.countP_cons];by_cases h1:p.1=s
   ·have e1:(!has (a++[s]) p.1)=false:=(by simp[zdQ,h1,has]);have e2:(!has a p.1)=true:=(by rw[h1,ha]; rfl);rw[e1,e2];simp only[Bool.false_eq_true,if_false,if_true,Nat.add_zero];omega
   ·rw[if_neg h1]at h;have:=ih h;have e1:(!has (a++[s]) p.1)=(!has a p.1):=by
     have: ¬p.1=s:=h1;simp[zdQ,has,this]
    rw[e1];omega
 exact this _ hg
theorem zkW{m:Module}{rec:List Str->List Expr->List Str}(hr: ∀a l s,has a s=true->has (rec a l) s=true)(a:List Str)(e:Expr)(s:Str)(h:has a s=true):has (zca m rec a e) s=true:=by
 unfold zca;split
 ·exact h
 ·split
  ·exact hr _ _ _ (by rw[zdQ,h,Bool.true_or])
  ·rw[zdQ,h,Bool.true_or]
theorem zmv{m:Module}{rec:List Str->List Expr->List Str}(hr: ∀a l s,has a s=true->has (rec a l) s=true): ∀(l:List Expr) (a:List Str) (s:Str),has a s=true->has (l.foldl (zca m rec) a) s=true
 | [],_,_,h=>h
 | e::l,a,s,h=>by rw[List.foldl_cons]; exact zmv hr l _ s (zkW hr a e s h)
theorem znh(m:Module): ∀(n:Nat) (a:List Str) (l:List Expr) (s:Str),has a s=true->has (zdv m n a l) s=true
 | 0,_,_,_,h=>h
 | n+1,a,l,s,h=>zmv (znh m n) (Expr.allL l) a s h
theorem ziR{m:Module}{s:Str}(h:has [5] (zbu m s)=true):get (zbG m.items) s≠none:=by
 intro hg;simp[zbu,zce,hg,zaU,has]at h
theorem zkf(l:List Item): ∀p∈zbG l,p.2∈l:=by
 have: ∀(r:List Item) (acc:List (Str×Item)),(∀p∈acc,p.2∈l)->(∀x∈r,x∈l)-> ∀p∈r.foldl zcf acc,p.2∈l:=by
  intro r
  induction r with
  | nil=>intro acc h _; exact h
  | cons x r ih=>
   intro acc h hr;rw[List.foldl_cons];refine ih _ (fun p hp=> ?_) (fun y hy=>hr y (List.mem_cons_of_mem _ hy));unfold zcf at hp;split at hp
   ·rcases List.mem_append.1 hp with hp | hp
    ·exact h p hp
    ·simp at hp; subst hp; exact hr x (by simp)
   ·exact h p hp
 exact this l [] (by simp) (fun _ h=>h)
theorem zmA{α:Type}{l:List (Str×α)}{s:Str}{x:α}(h:get l s=some x):(s,x)∈l:=by
 unfold get at h;rw[Option.map_eq_some_iff]at h;obtain⟨p,h1,rfl⟩:=h;have:=List.find?_some h1;have e:p.1=s:=of_decide_eq_true this;rw[<-e];exact List.mem_of_find?_eq_some h1
theorem decl_ok{m:Module}(hm:D.okL (zaf m))(s:Str)(h:get (zbG m.items) s≠none):D.okL (zaK (zce m s)):=by
 cases hg:get (zbG m.items) s with
 | none=>exact absurd hg h
 | some x=>
  have:zce m s=x:=by rw[zce,hg]; rfl
  rw[this];simp only[zaf,D.okL]at hm;exact(za9 hm.2.2.2.1).2 x (zkf _ _ (zmA hg))
theorem zmr{e:Expr}(h:D.okL (zbx e)):(zbF [e]).ok :=by
 simp only[zbF,D.ok,List.map_cons,List.map_nil,wab,wad];exact⟨by unfold maxLen; omega,zov fun y hy=>by simp at hy; subst hy; exact h⟩
theorem dep1_c(m:Module): ∀(n:Nat) (l:List Expr) (acc:List Str) (hok:(zbF l).ok) (hm:D.okL (zaf m)) (hn:left m acc<n),
  FnL prog 254 [.d (zbF l),.bp 1 0,.bp 2 0,.bp 3 0] [(1,.box [.mo 5]),(2,.box ((zaf m).map .d)),(3,.box [.clo (.func 254) [] [.bp 1 0,.bp 2 0,.bp 3 0]]),mo 5 acc]
   (fun V ol new=>V= .tup []/\ol=[(1,.box [.mo 6]),(2,.box ((zaf m).map .d)),(3,.box [.clo (.func 254) [] [.bp 1 0,.bp 2 0,.bp 3 0]]),mo 6 (zdv m n acc l)]/\new=[6])
 | 0,_,_,_,_,hn=>by omega
 | n+1,l,acc,hok,hm,hn=>by
  refine FnL.of_eC (own:=[]) (fun i=>if i=0 then [.rnm [(1,1),(2,2),(3,3),(5,6)]]else chL i) [1,2,3] zat func254 rfl call254 ntmps254 (zle rfl) results254 ?_;simp only[ZE,seval,mo];refine EFn.p ?_;simp only[ZE,seval];have hc:=zeg l;simp only[ZE,seval]at hc;refine zar.i hc ?_;clear hc;simp only[ZE,seval];refine zrq (fun _ i=>if i=5 then [.rnm [(1,1),(2,2),(3,3),(7,6),(5,5)]]else chL i) l hok rfl (by simp only[ZE,seval]) (fun k=>[(1,.box [.mo 6]),(2,.box ((zaf m).map .d)),(3,.box [.clo (.func 254) [] [.bp 1 0,.bp 2 0,.bp 3 0]]),mo 6 (((Expr.allL l).take k).foldl (zca m (zdv m n)) acc)]) (fun k=> ∀s,has acc s=true->has (((Expr.allL l).take k).foldl (zca m (zdv m n)) acc) s=true) (fun s hs=>hs) ?_ ?_ rfl (fun k hk hI=> ?_) (fun hI=> ?_)
  ·simp only[ZE,seval,mo,zFI,List.take_zero,List.foldl_nil]
  ·simp only[ZE,seval]
  ·obtain⟨e,he⟩:=zX ((Expr.allL l)[k]);obtain⟨a,ha⟩:=zX (((Expr.allL l).take k).foldl (zca m (zdv m n)) acc);have hs:=zc3 (zca m (zdv m n)) acc (Expr.allL l) k hk;rw[ha,he]at hs;rw[ha]at hI;have hI': ∀s,has acc s=true->has (zca m (zdv m n) a e) s=true:=fun s h=>zkW (znh m n) a e s (hI s h);rw[ha,hs,he];have c1:=zs2 m e.name [5];simp only[ZE,seval,zFI]at c1;by_cases g:((e.op !=14&&e.op !=15)||has a e.name)=true
   ·have hv:zca m (zdv m n) a e=a:=(by unfold zca; rw[if_pos g]);rw[hv]at hI' ⊢;simp only[ZE,seval,eA,mo,zN,zFI,zlf,g];exact⟨fun _ y hy=>zcr _ y hy,hI⟩
   replace g:=Bool.eq_false_iff.2 g
   have g2:has a e.name=false:=(Bool.or_eq_false_iff.1 g).2;have hgn:get (tk a) e.name=none:=by rw[zo9,if_neg (by rw[g2]; simp)]
   have hput:AO.map (zgQ (sK (tk a)) (.lit (.string e.name.1))) (zjk (sK (tk a)) (sV eB (tk a)) (.lit (.string e.name.1)) (.lit (.bool true))) (zjs (sK (tk a)) (List.range (tk a).length) (tk a).length (.lit (.string e.name.1))) (zjT (sK (tk a)) (tk a).length (.lit (.string e.name.1)))=
     AO.map (sK (tk (a++[e.name]))) (sV eB (tk (a++[e.name]))) (List.range (tk (a++[e.name])).length) (tk (a++[e.name])).length :=by
    have:=zkl (zqH eB (x:=true) hgn);simpa only[tk,wac,List.map_cons,List.map_nil,eB]using this
   simp only[ZE,seval,eA,mo,zN,zFI,zlf,g,hput];refine⟨fun _ y hy=>zcr _ y hy,fun y hy=>zcr _ y hy,?_⟩;refine EFn.p ?_;simp only[ZE,seval,zFI];refine zar.i c1 ?_;simp only[ZE,seval,zFI,zfu,zfg];refine zd8 (fun hb=> ?_) (fun hb=> ?_)
   ·have hv:zca m (zdv m n) a e=zdv m n (a++[e.name]) [(zce m e.name).a]:=(by unfold zca; rw[if_neg (by rw[g]; simp),if_pos hb]);rw[hv]at hI' ⊢;have hlt:=zti m (ziR hb) g2;have hle:=zth m (a:=acc) (b:=a) hI;have hc:=dep1_c m n [(zce m e.name).a] (a++[e.name]) (zmr (zom (decl_ok hm e.name (ziR hb))).1) hm (by omega);simp only[ZE,seval,zFI,mo,zce]at hc;refine⟨fun y hy=>zcr _ y hy,?_⟩;refine EFn.g ⟨[(1,1),(2,2),(3,3),(5,6),(6,7)],_,_,_,hc,?_⟩;simp only[ZE,seval,zFI];rintro V ol new ⟨rfl,rfl,rfl⟩;simp only[ZE,seval,zFI,zce];simp only[zce]at hI';exact hI'
   ·have hv:zca m (zdv m n) a e=a++[e.name]:=(by unfold zca; rw[if_neg (by rw[g]; simp),if_neg (by rw[hb]; simp)]);rw[hv]at hI' ⊢;exact⟨rfl,hI'⟩
  ·simp only[ZE,seval,mo];refine⟨[],[6],?_⟩;simp only[ZE,seval,mo,List.take_length];rfl
def zbN(m:Module)(l:List Expr):List Str:=zdv m ((zbG m.items).length +1) [] l
theorem zmm(m:Module)(l:List Expr):FnP prog 204 [.agg (zaf m),zbF l] (.d (sMp eB (tk (zbN m l)))) []:=by
 refine FnP.of_eC (own:=[]) (fun _=>[]) zat func204 rfl call204 ntmps204 (zle rfl) results204 (fun hok=> ?_);have hm:D.okL (zaf m):=by simpa only[D.ok]using(zaM hok).1
 have hl:=(zaM (zaM hok).2).1;have hc:=dep1_c m ((zbG m.items).length +1) l [] hl hm (Nat.lt_succ_of_le List.countP_le_length);have e0:tk []=[]:=rfl;have e1:sK ([]:List (Str×Bool))=[]:=rfl;have e2:sV eB ([]:List (Str×Bool))=[]:=rfl;simp only[ZE,seval,zFI,mo,e0,e1,e2,wad,List.range_zero]at hc;simp only[ZE,seval,zFI];refine EFn.g ⟨[(1,5),(2,2),(3,6),(5,7),(6,20)],_,_,_,hc,?_⟩;simp only[ZE,seval,zFI];rintro V ol new ⟨rfl,rfl,rfl⟩;simp only[ZE,seval,zFI,zbN]
section
open Go.Aw Go.RowKit Go.Lib
set_option maxRecDepth 1000000
structure Hd (p:Prop):Prop where
 out:p
set_option maxHeartbeats 8000000 in
theorem deleteItem_w:DelW prog 160 64 35:=by
 intro W g cap cur n i hg hle hcap hcur hone hi;obtain⟨j,hj⟩: ∃j,j=i+1:=⟨_,rfl⟩;rw[<-hj];have zat:=zat;have hmx:cap<=9223372036854775807:=hcap;obtain⟨i0,z0,t28,hi0,hz0,hzc,hz1,_,_⟩:=zeW tA51;obtain⟨c,hc⟩: ∃c,cur.toList.take (n*35)=c:=⟨_,rfl⟩;have hnk:n*35<=cur.size:=by rw[hcur]; exact Nat.mul_le_mul_right _ hle
 have hclen:c.length=n*35:=by rw[<-hc,waf]; exact Nat.min_eq_left hnk
 have hcell: ∀t,t<n*35->W.cell? ⟨g,t,none⟩=c[t]? :=fun t ht=>by
  rw[<-hc,List.getElem?_take,if_pos ht];simp[World.cell?,hg]
 have hsome: ∀t,t<n*35->(W.cell? ⟨g,t,none⟩).isSome =true:=fun t ht=>by
  rw[hcell t ht,wam (by omega)]; rfl
 have hfr: ∀t,W.frozen? ⟨g,t,none⟩=false:=fun t=>by simp[World.frozen?,hg]
 rw[hc]at hone ⊢;obtain⟨news,hnews⟩: ∃news,news=c.drop (j*35):=⟨_,rfl⟩;have hlen:news.length=(n-j)*35:=by rw[hnews,List.length_drop,hclen,Nat.sub_mul]
 obtain⟨A,hA,hsrc⟩: ∃A:Addr,(if cap=j then some (⟨g,0,none⟩:Addr)else some ⟨g,j*35,none⟩)=some A/\Hd (∀t u,news[t]? =some u->W.drew.cell? (A.add t)=some u):=by
  by_cases h:cap=j
  ·refine⟨⟨g,0,none⟩,by simp[h],⟨fun t u hu=> ?_⟩⟩;have h0:news.length=0:=by rw[hlen,show n-j=0 by omega,Nat.zero_mul]
   rw[List.length_eq_zero_iff.1 h0]at hu;simp at hu
  ·refine⟨⟨g,j*35,none⟩,by simp[h],⟨fun t u hu=> ?_⟩⟩;have ht:t<news.length:=(List.getElem?_eq_some_iff.1 hu).1;rw[hlen]at ht;rw[hnews,List.getElem?_drop]at hu;rw[Addr.add_lit];show W.cell? _=_;rw[hcell _ (by omega)];exact hu
 have s1:Hd (news.length=(n-j)*35):=⟨hlen⟩;have s2:Hd (∀u∈news,u.oneCell'=true):=⟨fun u hu=>hone u (by rw[hnews]at hu; exact List.mem_of_mem_drop hu)⟩;have s3:Hd (∀t,t<news.length->(W.drew.cell? ⟨g,0+i*35+t,none⟩).isSome =true/\W.drew.frozen? ⟨g,0+i*35+t,none⟩=false):=⟨fun t ht=>by
  rw[hlen]at ht;exact⟨hsome _ (by omega),hfr _⟩⟩
 obtain⟨W1,hW1⟩: ∃W1,W1=W.drew.setCells g (0+i*35) news:=⟨_,rfl⟩;obtain⟨zl,hzl⟩: ∃zl:List Value,zl=(Builtin.zeroCells z0.cells 1).toList :=⟨_,rfl⟩;have hzlen:zl.length=35:=by rw[hzl]; simp[Builtin.zeroCells,hzc]
 have hz1c: ∀v∈zl,v.oneCell'=true:=by
  have h0:=zeroValue64 W;have h1:(zeroValue 64).run prog W= .ok z0 W:=by simp[zeroValue,typeInfo,hi0,hz0]
  rw[h1]at h0;cases h0;rw[hzl];intro v hv;revert v;rw[<-List.all_eq_true];kernel_rfl
 have hcl: ∀ty,(Builtin.clear_ #[51] ty #[.slice (some ⟨g,(i+(n-j))*35,none⟩) (n-(i+(n-j))) (cap-(i+(n-j)))]).run prog W1= .ok (.tuple #[]) (W1.setCells g ((n-1)*35) zl):=by
  intro ty;rw[show i+(n-j)=n-1 by omega,show n-(n-1)=1 by omega];have hc1: ∀t,t<n*35->(W1.cell? ⟨g,t,none⟩).isSome =true:=fun t ht=>by
   rw[hW1];have h3:=zoK g news (0+i*35) W.drew cur 64 (0,0) hg;simp only[World.cell?,h3];rw[show(({block:=g,off:=t,spot:=none}:Addr).spot.isSome)=false from rfl];simp only[Bool.false_eq_true,if_false];rw[Array.getElem?_eq_getElem (by rw[ztU]; omega)]; rfl
  rw[hzl];exact zyO W1 _ _ ty z0 t28 (fun w=>by simp[zeroValue,typeInfo,hi0,hz0]) (by rw[<-hzl]; exact hz1c) g _ _
   (fun j hj=>hc1 _ (by rw[<-hzl,hzlen]at hj; omega)) (fun j hj=>by rw[hW1,World.frozen?_setCells]; exact hfr _)
 have hW:Hd (W1=W.drew.setCells g (0+i*35) news):=⟨hW1⟩;have hij:i<=j:=by omega
 have hne: ¬(i=j):=by omega
 have hjn:j<=n:=by omega
 have hin:i+(n-j)<=n:=by omega
 have hnc:i+(n-j)<=cap:=by omega
 have hnz:n-1=i+(n-j):=by omega
 have hcn: ¬(cap=i+(n-j)):=by omega
 have hic:i<=cap:=by omega
 have hjc:j<=cap:=by omega
 have X1:Hd (news=c.drop (j*35)):=⟨hnews⟩;have X2:Hd (zl.length=35):=⟨hzlen⟩;have hnz':Hd (n-1=i+(n-j)):=⟨hnz⟩;clear hnz hj hW1 hcell hsome hnews hlen hone hclen hc hfr hzl hzlen hz1c
 go_enter func160,ntmps160
 go_wp2_with fail
 go_region_law_o (refine step_append_room rfl (.tmp 22) (.tmp 25) 51 rfl 64 i0 35 t28 hi0 hz1 g 0 i cap (by simp[Act.eval,Act.put]) A (n-j) (cap-j) news (by simp[Act.eval,Act.put]) s1.out hsrc.out s2.out (by omega) s3.out ?_; rw[<-hW.out])
 go_wp2;go_ret;refine⟨by rw[hnz'.out]; rfl,zl,X2.out,?_⟩;rw[<-X1.out,hW.out,Nat.zero_add]
set_option maxHeartbeats 8000000 in
theorem zyT:DelW prog 161 53 4:=by
 intro W g cap cur n i hg hle hcap hcur hone hi;obtain⟨j,hj⟩: ∃j,j=i+1:=⟨_,rfl⟩;rw[<-hj];have zat:=zat;have hmx:cap<=9223372036854775807:=hcap;obtain⟨i0,z0,t28,hi0,hz0,hzc,hz1,_,_⟩:=zeW tA28;obtain⟨c,hc⟩: ∃c,cur.toList.take (n*4)=c:=⟨_,rfl⟩;have hnk:n*4<=cur.size:=by rw[hcur]; exact Nat.mul_le_mul_right _ hle
 have hclen:c.length=n*4:=by rw[<-hc,waf]; exact Nat.min_eq_left hnk
 have hcell: ∀t,t<n*4->W.cell? ⟨g,t,none⟩=c[t]? :=fun t ht=>by
  rw[<-hc,List.getElem?_take,if_pos ht];simp[World.cell?,hg]
 have hsome: ∀t,t<n*4->(W.cell? ⟨g,t,none⟩).isSome =true:=fun t ht=>by
  rw[hcell t ht,wam (by omega)]; rfl
 have hfr: ∀t,W.frozen? ⟨g,t,none⟩=false:=fun t=>by simp[World.frozen?,hg]
 rw[hc]at hone ⊢;obtain⟨news,hnews⟩: ∃news,news=c.drop (j*4):=⟨_,rfl⟩;have hlen:news.length=(n-j)*4:=by rw[hnews,List.length_drop,hclen,Nat.sub_mul]
 obtain⟨A,hA,hsrc⟩: ∃A:Addr,(if cap=j then some (⟨g,0,none⟩:Addr)else some ⟨g,j*4,none⟩)=some A/\Hd (∀t u,news[t]? =some u->W.drew.cell? (A.add t)=some u):=by
  by_cases h:cap=j
  ·refine⟨⟨g,0,none⟩,by simp[h],⟨fun t u hu=> ?_⟩⟩;have h0:news.length=0:=by rw[hlen,show n-j=0 by omega,Nat.zero_mul]
   rw[List.length_eq_zero_iff.1 h0]at hu;simp at hu
  ·refine⟨⟨g,j*4,none⟩,by simp[h],⟨fun t u hu=> ?_⟩⟩;have ht:t<news.length:=(List.getElem?_eq_some_iff.1 hu).1;rw[hlen]at ht;rw[hnews,List.getElem?_drop]at hu;rw[Addr.add_lit];show W.cell? _=_;rw[hcell _ (by omega)];exact hu
 have s1:Hd (news.length=(n-j)*4):=⟨hlen⟩;have s2:Hd (∀u∈news,u.oneCell'=true):=⟨fun u hu=>hone u (by rw[hnews]at hu; exact List.mem_of_mem_drop hu)⟩;have s3:Hd (∀t,t<news.length->(W.drew.cell? ⟨g,0+i*4+t,none⟩).isSome =true/\W.drew.frozen? ⟨g,0+i*4+t,none⟩=false):=⟨fun t ht=>by
  rw[hlen]at ht;exact⟨hsome _ (by omega),hfr _⟩⟩
 obtain⟨W1,hW1⟩: ∃W1,W1=W.drew.setCells g (0+i*4) news:=⟨_,rfl⟩;obtain⟨zl,hzl⟩: ∃zl:List Value,zl=(Builtin.zeroCells z0.cells 1).toList :=⟨_,rfl⟩;have hzlen:zl.length=4:=by rw[hzl]; simp[Builtin.zeroCells,hzc]
 have hz1c: ∀v∈zl,v.oneCell'=true:=by
  have h0:=zeroValue53 W;have h1:(zeroValue 53).run prog W= .ok z0 W:=by simp[zeroValue,typeInfo,hi0,hz0]
  rw[h1]at h0;cases h0;rw[hzl];intro v hv;revert v;rw[<-List.all_eq_true];kernel_rfl
 have hcl: ∀ty,(Builtin.clear_ #[28] ty #[.slice (some ⟨g,(i+(n-j))*4,none⟩) (n-(i+(n-j))) (cap-(i+(n-j)))]).run prog W1= .ok (.tuple #[]) (W1.setCells g ((n-1)*4) zl):=by
  intro ty;rw[show i+(n-j)=n-1 by omega,show n-(n-1)=1 by omega];have hc1: ∀t,t<n*4->(W1.cell? ⟨g,t,none⟩).isSome =true:=fun t ht=>by
   rw[hW1];have h3:=zoK g news (0+i*4) W.drew cur 53 (0,0) hg;simp only[World.cell?,h3];rw[show(({block:=g,off:=t,spot:=none}:Addr).spot.isSome)=false from rfl];simp only[Bool.false_eq_true,if_false];rw[Array.getElem?_eq_getElem (by rw[ztU]; omega)]; rfl
  rw[hzl];exact zyO W1 _ _ ty z0 t28 (fun w=>by simp[zeroValue,typeInfo,hi0,hz0]) (by rw[<-hzl]; exact hz1c) g _ _
   (fun j hj=>hc1 _ (by rw[<-hzl,hzlen]at hj; omega)) (fun j hj=>by rw[hW1,World.frozen?_setCells]; exact hfr _)
 have hW:Hd (W1=W.drew.setCells g (0+i*4) news):=⟨hW1⟩;have hij:i<=j:=by omega
 have hne: ¬(i=j):=by omega
 have hjn:j<=n:=by omega
 have hin:i+(n-j)<=n:=by omega
 have hnc:i+(n-j)<=cap:=by omega
 have hnz:n-1=i+(n-j):=by omega
 have hcn: ¬(cap=i+(n-j)):=by omega
 have hic:i<=cap:=by omega
 have hjc:j<=cap:=by omega
 have X1:Hd (news=c.drop (j*4)):=⟨hnews⟩;have X2:Hd (zl.length=4):=⟨hzlen⟩;have hnz':Hd (n-1=i+(n-j)):=⟨hnz⟩;clear hnz hj hW1 hcell hsome hnews hlen hone hclen hc hfr hzl hzlen hz1c
 go_enter func161,ntmps161
 go_wp2_with fail
 go_region_law_o (refine step_append_room rfl (.tmp 22) (.tmp 25) 28 rfl 53 i0 4 t28 hi0 hz1 g 0 i cap (by simp[Act.eval,Act.put]) A (n-j) (cap-j) news (by simp[Act.eval,Act.put]) s1.out hsrc.out s2.out (by omega) s3.out ?_; rw[<-hW.out])
 go_wp2;go_ret;refine⟨by rw[hnz'.out]; rfl,zl,X2.out,?_⟩;rw[<-X1.out,hW.out,Nat.zero_add]
end
section
open Go.Aw Go.RowKit Go.Lib
set_option maxRecDepth 1000000
set_option maxHeartbeats 8000000 in
theorem insAModule(g n c vb m vc:Nat)(vs:List Value)(w:World)(hm:0<m)(hroom:n+m<=c)(hc63:c<=9223372036854775807)(hvl:vs.length=m*4)
  (hsp: ∀j,j<m*4->(w.cell? ⟨g,0+n*4+j,none⟩).isSome =true) (hfz: ∀j,j<m*4->w.frozen? ⟨g,0+n*4+j,none⟩=false)
  (hvs: ∀j v,vs[j]? =some v->w.cell? ⟨vb,j,none⟩=some v) (h1v: ∀v∈vs,v.oneCell'=true):
  Calls prog 162 #[.slice (some ⟨g,0,none⟩) n c,.int .i64 n,.slice (some ⟨vb,0,none⟩) m vc] w fun e w'=>e= .returned (.slice (some ⟨g,0,none⟩) (n+m) c)/\w'=w.setCells g (0+n*4) vs:=by
 obtain⟨i0,z0,t28,hi0,hz0,hzc,hz1,_,_⟩:=zeW tA28;have zat:=zat;have hzz: ¬((m:Int)=0):=by omega
 have hsrc:Src prog i0.size 28 (.slice (some ⟨vb,0,none⟩) m vc) m vs w:=by
  rw[hz1];exact Src.ofSlice w t28 ⟨vb,0,none⟩ m vc vs hvl (fun j u hj=>by rw[Addr.add_lit,Nat.zero_add]; exact hvs j u hj) h1v
 have hrun: ∀ty,(Builtin.append_ #[28,28] ty #[.slice (some ⟨g,0,none⟩) n c,.slice (some ⟨vb,0,none⟩) m vc]).run prog w= .ok (.slice (some ⟨g,0,none⟩) (n+m) c) (w.setCells g (0+n*4) vs):=fun ty=>by
  have h:=run_append_room_src w 28 28 ty 53 i0 t28 hi0 g 0 n c _ m vs hsrc hroom (by rw[hz1,hvl]; exact hsp) (by rw[hz1,hvl]; exact hfz);rw[hz1]at h;exact h
 clear hsp hfz hvs h1v hsrc
 go_enter func162,ntmps162
 go_wp2_with (at_builtin; refine Lib.wpList_append_run _ rfl _ _ _ _ rfl _ _ rfl rfl _ _ (hrun _) ?_)
 go_ret;exact⟨rfl,by rw[Nat.zero_add]⟩
set_option maxHeartbeats 8000000 in
theorem zyZ(base:Option Addr)(n c vb m vc:Nat)(cs vs:List Value)(w:World)(hm:0<m)(hnc:n<=c)(hroom:c<n+m)(hbig:(n+m)*80<=140737488355328)(hcl:cs.length=n*4)(hvl:vs.length=m*4)(hnil:base=none->n=0)
  (hcs: ∀a,base=some a-> ∀j v,cs[j]? =some v->w.cell? (a.add j)=some v)
  (hvs: ∀j v,vs[j]? =some v->w.cell? ⟨vb,j,none⟩=some v) (h1v: ∀v∈vs,v.oneCell'=true):
  Calls prog 162 #[.slice base n c,.int .i64 n,.slice (some ⟨vb,0,none⟩) m vc] w fun e w'=> ∃(cur':Array Value),e= .returned (.slice (some ⟨w.heap.size,0,none⟩) (n+m) (grownCap w (n+m) c 53))/\
   w'=w.drew.alloc (.cells ((cs++vs).toArray ++cur') 53)/\cur'.size=(grownCap w (n+m) c 53-(n+m))*4:=by
 obtain⟨i0,z0,t28,hi0,hz0,hzc,hz1,hzb,_⟩:=zeW tA28;have zat:=zat;have hzz: ¬((m:Int)=0):=by omega
 have hsrc:Src prog i0.size 28 (.slice (some ⟨vb,0,none⟩) m vc) m vs w:=by
  rw[hz1];exact Src.ofSlice w t28 ⟨vb,0,none⟩ m vc vs hvl (fun j u hj=>by rw[Addr.add_lit,Nat.zero_add]; exact hvs j u hj) h1v
 have hold:(Builtin.firstCells i0.size n (.slice base n c)).run prog w.drew= .ok cs.toArray w.drew:=by
  rw[hz1];cases base with
  | none=>
   have h0:=hnil rfl;subst h0;have hc0:cs=[]:=List.length_eq_zero_iff.1 (by rw[hcl,Nat.zero_mul]);rw[hc0];exact run_firstCells_none w.drew 4 0 0 c
  | some a=>exact run_firstCells_some w.drew 4 n a n c cs hcl (fun j v hj=>hcs a rfl j v hj)
 obtain⟨R,hR⟩: ∃R:Array Value,R=Builtin.zeroCells z0.cells (grownCap w (n+m) c 53-(n+m)):=⟨_,rfl⟩;have hRs:R.size=(grownCap w (n+m) c 53-(n+m))*4:=by rw[hR]; simp[Builtin.zeroCells,hzc]
 have hrun: ∀ty,(Builtin.append_ #[28,28] ty #[.slice base n c,.slice (some ⟨vb,0,none⟩) m vc]).run prog w= .ok (.slice (some ⟨w.heap.size,0,none⟩) (n+m) (grownCap w (n+m) c 53)) (w.drew.alloc (.cells ((cs++vs).toArray ++R) 53)):=fun ty=>by
  have h:=run_append_grow_src w 28 28 ty 53 i0 z0 t28 hi0 hz0 base n c cs hold _ m vs hsrc hroom (by omega) (by rw[hzb]; exact growslice_fits hroom hbig);rw[<-hR]at h;exact h
 obtain⟨G,hG⟩: ∃G,G=grownCap w (n+m) c 53:=⟨_,rfl⟩;rw[<-hG]at hrun hRs ⊢;have XR:Hd (R.size=(G-(n+m))*4):=⟨hRs⟩;clear hcs hvs h1v hsrc hold hR hG hRs
 go_enter func162,ntmps162
 cases base with
 | none=>
  have h0:=hnil rfl;subst h0
  go_wp2_with (at_builtin; refine Lib.wpList_append_run _ rfl _ _ _ _ rfl _ _ rfl rfl _ _ (hrun _) ?_)
  go_ret;exact⟨by simp,R,by simp,by rw[XR.out,Nat.zero_add]⟩
 | some a=>
  obtain⟨ab,ao,asp⟩:=a
  go_wp2_with (at_builtin; refine Lib.wpList_append_run _ rfl _ _ _ _ rfl _ _ rfl rfl _ _ (hrun _) ?_)
  all_goals (go_ret; exact⟨rfl,R,rfl,XR.out⟩)
set_option maxHeartbeats 16000000 in
theorem insCModule(g n c i vb m vc:Nat)(cs vs:List Value)(w:World)(hi:i<n)(hm:0<m)(hroom:n+m<=c)(hc63:c<=9223372036854775807)(hvb:vb≠g)(hcl:cs.length=n*4)(hvl:vs.length=m*4)
  (hcs: ∀j v,cs[j]? =some v->w.cell? ⟨g,j,none⟩=some v) (hsp: ∀j,j<(n+m)*4->(w.cell? ⟨g,j,none⟩).isSome =true) (hfz: ∀j,w.frozen? ⟨g,j,none⟩=false)
  (hvs: ∀j v,vs[j]? =some v->w.cell? ⟨vb,j,none⟩=some v) (h1c: ∀v∈cs,v.oneCell'=true) (h1v: ∀v∈vs,v.oneCell'=true)
  (tA tB:TypeId) (kA kB:Nat) (hsa:w.shape? vb=some (tA,kA)) (hsb:w.shape? g=some (tB,kB)) (hkB:kB≠0) (hfa:w.frozen? ⟨vb,0,none⟩=false) (hfe:w.frozen? ⟨vb,kA,none⟩=false):
  Calls prog 162 #[.slice (some ⟨g,0,none⟩) n c,.int .i64 i,.slice (some ⟨vb,0,none⟩) m vc] w fun e w'=>
   e= .returned (.slice (some ⟨g,0,none⟩) (n+m) c)/\w'=(w.drew.setCells g ((i+m)*4) (cs.drop (i*4))).setCells g (i*4) vs:=by
 obtain⟨i0,z0,t28,hi0,hz0,hzc,hz1s,hzb,_⟩:=zeW tA28;have zat:=zat;have hz1: ¬((m:Int)=0):=by omega
 have hz2: ¬((i:Int)=(n:Int)):=by omega
 have hsz:(prog.info? 53).map (·.size)=some 4:=by rw[hi0]; simp[hz1s]
 have hov: ∀lb cb,(callFunc 213 #[.slice (some ⟨vb,0,none⟩) m vc,.slice (some ⟨g,(i+m)*4,none⟩) lb cb]).run prog w= .ok (.value (.bool false)) w:=fun lb cb=>by
  rw[run_callFunc_extern func213 (by kernel_rfl) (by kernel_rfl) (by kernel_rfl) (e:=Extern.SlicesOverlaps.overlaps #[28,28] #[4]) (by kernel_rfl),
   Lib.run_overlaps_apart w 28 4 53 t28 4 sizeOf53 ⟨vb,0,none⟩ ⟨g,(i+m)*4,none⟩ m vc lb cb hvb tA tB kA kB hsa hsb hkB hfa hfe]
  rfl
 have hdl:(cs.drop (i*4)).length =(n-i)*4:=by rw[List.length_drop,hcl,Nat.sub_mul]
 have hw1:IntKind.i64.wrap ((i:Int)+(m:Int))=(i:Int)+(m:Int):=by rw[IntKind.wrap_i64]; omega
 have hb1:(0:Int)<=(i:Int)+(m:Int):=by omega
 have hin:i<=n:=by omega
 have htn:((i:Int)+(m:Int)).toNat =i+m:=by omega
 have hb2: ¬(c=i+m):=by omega
 have hb3:(i:Int)<=(n:Int)+(m:Int):=by omega
 have hb4: ¬(c=i):=by omega
 have hcp1: ∀ty dc sc,(Builtin.copy_ #[28,28] ty #[.slice (some ⟨g,(i+m)*4,none⟩) (n+m-(i+m)) dc,.slice (some ⟨g,i*4,none⟩) (n+m-i) sc]).run prog w.drew= .ok (goInt (n-i:Nat)) (w.drew.setCells g ((i+m)*4) (cs.drop (i*4))):=fun ty dc sc=>by
  have hmin:Nat.min (n+m-i) (n+m-(i+m))=n-i:=by simp only[Nat.min_def]; split <;> omega
  have h:=zx6 w.drew 28 28 ty 53 4 g ((i+m)*4) (n+m-(i+m)) dc ⟨g,i*4,none⟩ (n+m-i) sc (cs.drop (i*4)) t28 hsz (by rw[hdl,hmin])
   (fun j v hj=>by rw[Addr.add_lit]; exact hcs (i*4+j) v (by rwa [List.getElem?_drop]at hj))
   (fun j hj=>hsp _ (by rw[hdl]at hj; omega)) (fun j hj=>hfz _) (fun v hv=>h1c v (List.mem_of_mem_drop hv))
  rw[hmin]at h;exact h
 obtain⟨W1,hW1⟩: ∃W1,W1=w.drew.setCells g ((i+m)*4) (cs.drop (i*4)):=⟨_,rfl⟩;have hsp1: ∀k,k<(n+m)*4->(W1.cell? ⟨g,k,none⟩).isSome =true:=fun k hk=>by
  rw[hW1];exact isSome_setCells g _ _ w.drew (fun j hj=>hsp ((i+m)*4+j) (by rw[hdl]at hj; omega)) _ (hsp k hk)
 have hcp2: ∀(W:World),(∀x,W.cell? x=W1.cell? x)->(∀x,W.frozen? x=W1.frozen? x)-> ∀ty dc,(Builtin.copy_ #[28,28] ty #[.slice (some ⟨g,i*4,none⟩) (n+m-i) dc,.slice (some ⟨vb,0,none⟩) m vc]).run prog W= .ok (goInt m) (W.setCells g (i*4) vs):=fun W hWc hWf ty dc=>by
  have hmin:Nat.min m (n+m-i)=m:=by simp only[Nat.min_def]; split <;> omega
  have h:=zx6 W 28 28 ty 53 4 g (i*4) (n+m-i) dc ⟨vb,0,none⟩ m vc vs t28 hsz (by rw[hvl,hmin])
   (fun j v hj=>by
    rw[Addr.add_lit,hWc,hW1,World.cell?_setCells_out g _ _ _ _ (fun h _=>absurd h hvb),Nat.zero_add];exact hvs j v hj)
   (fun j hj=>by rw[hWc]; exact hsp1 _ (by rw[hvl]at hj; omega)) (fun j hj=>by rw[hWf,hW1,World.frozen?_setCells]; exact hfz _) h1v
  rw[hmin]at h;exact h
 rw[<-hW1]at hcp1;have hWW:Hd (W1=w.drew.setCells g ((i+m)*4) (cs.drop (i*4))):=⟨hW1⟩;clear hW1 hcs hsp hfz hvs h1c h1v hsp1 hdl hcl hvl
 go_enter func162,ntmps162
 go_wp2_with (simp only[hov])
 go_region_law_o (refine step_copy_runI rfl _ _ 28 28 rfl _ _ (by simp[Act.eval,Act.put]) (by simp[Act.eval,Act.put]) (hcp1 _ _ _) ?_)
 go_wp2_with (at_builtin; refine wpList_copy_runI _ rfl _ _ 28 28 rfl _ _ rfl rfl (hcp2 _ (fun _=>rfl) (fun _=>rfl) _ _) ?_)
 go_ret;exact⟨rfl,by rw[hWW.out]⟩
set_option maxHeartbeats 16000000 in
theorem insDModule(g n c i vb m vc:Nat)(cs vs:List Value)(w:World)(hi:i<n)(hm:0<m)(hnc:n<=c)(hroom:c<n+m)(hbig:(n+m)*80<=140737488355328)(hcl:cs.length=n*4)(hvl:vs.length=m*4)
  (hcs: ∀j v,cs[j]? =some v->w.cell? ⟨g,j,none⟩=some v) (hvs: ∀j v,vs[j]? =some v->w.cell? ⟨vb,j,none⟩=some v) (h1c: ∀v∈cs,v.oneCell'=true) (h1v: ∀v∈vs,v.oneCell'=true):
  Calls prog 162 #[.slice (some ⟨g,0,none⟩) n c,.int .i64 i,.slice (some ⟨vb,0,none⟩) m vc] w fun e w'=> ∃ROW:Array Value,
   e= .returned (.slice (some ⟨w.heap.size,0,none⟩) (n+m) (grownCap w (n+m) c 53))/\
   w'=(((w.alloc (.cells ROW 53)).drew.setCells w.heap.size (i*4) vs).drew).setCells w.heap.size ((i+m)*4) (cs.drop (i*4))/\ROW.size=grownCap w (n+m) c 53*4/\ROW.toList.take (i*4)=cs.take (i*4):=by
 obtain⟨i0,z0,t28,hi0,hz0,hzc,hzs,hzb,_⟩:=zeW tA28;have zat:=zat;have hz1: ¬((m:Int)=0):=by omega
 have hz2: ¬((i:Int)=(n:Int)):=by omega
 have hz3:(c:Int)<(n:Int)+(m:Int):=by omega
 have hsz:(prog.info? 53).map (·.size)=some 4:=by rw[hi0]; simp[hzs]
 have hbw:g<w.heap.size:=block_lt_of_cell (hcs 0 _ (wam (by omega)));have hvw:vb<w.heap.size:=block_lt_of_cell (hvs 0 _ (wam (by omega)));have hkk:(n:Int)+(m:Int)-(i:Int)=((n+m-i:Nat):Int):=by omega
 have hik:i+(n+m-i)=n+m:=by omega
 have hct:(cs.take (i*4)).length =i*4:=by rw[waf,hcl]; omega
 have hold:(Builtin.firstCells i0.size i (.slice (some ⟨g,0,none⟩) i c)).run prog w.drew= .ok (cs.take (i*4)).toArray w.drew:=by
  rw[hzs];exact run_firstCells_some w.drew 4 i ⟨g,0,none⟩ i c (cs.take (i*4)) hct (fun j v hj=>by
   rw[Addr.add_lit,Nat.zero_add];rw[List.getElem?_take]at hj;split at hj
   ·exact hcs j v hj
   ·cases hj)
 obtain⟨G,hG⟩: ∃G,G=grownCap w (n+m) c 53:=⟨_,rfl⟩;obtain⟨ROW,hROW⟩: ∃ROW:Array Value,ROW=(cs.take (i*4)).toArray ++Builtin.zeroCells z0.cells (n+m-i)++Builtin.zeroCells z0.cells (G-(n+m)):=⟨_,rfl⟩;have hrz: ∀ty,(Builtin.append_ #[28,3] ty #[.slice (some ⟨g,0,none⟩) i c,.int .i64 ((n:Int)+(m:Int)-(i:Int))]).run prog w=
   .ok (.slice (some ⟨w.heap.size,0,none⟩) (n+m) G) (w.drew.alloc (.cells ROW 53)):=fun ty=>by
  have h:=Lib.run_append_grow_zeros w 28 3 ty 53 i0 _ .i64 .i64 t28 underlying3 hi0 hz0 (some ⟨g,0,none⟩) i c (cs.take (i*4)) hold (n+m-i) (by omega) (by rw[hzs]; omega) (by omega) (by omega) (by rw[hzb]; omega) (by rw[hzb,hik]; exact growslice_fits hroom hbig);rw[hik]at h;rw[hkk,hROW,hG];exact h
 have hGn:n+m<=G:=by rw[hG]; exact grownCap_ge w _ _ _
 have hG63:G<=9223372036854775807:=by
  have:=grownCap_le_maxLen w (n+m) c 53 (by unfold maxLen; omega);rw[<-hG]at this;unfold maxLen at this;omega
 have hRs:ROW.size=G*4:=by
  rw[hROW];have hzs: ∀q,(Builtin.zeroCells z0.cells q).size =q*4:=fun q=>by simp[Builtin.zeroCells,hzc]
  simp only[Array.size_append,List.size_toArray,hct,hzs];omega
 have hRt:ROW.toList.take (i*4)=cs.take (i*4):=by
  rw[hROW];simp only[Array.toList_append,wah];rw[List.take_left' hct]
 rw[<-hG];obtain⟨W1,hW1⟩: ∃W1,W1=w.drew.alloc (.cells ROW 53):=⟨_,rfl⟩;rw[<-hW1]at hrz;have hN: ∀j,j<(n+m)*4->(W1.cell? ⟨w.heap.size,j,none⟩).isSome =true:=fun j hj=>by
  rw[hW1,World.cell?_alloc_at (w:=w.drew) ROW _ w.heap.size j rfl,Array.getElem?_eq_getElem (by rw[hRs]; have:=Nat.mul_le_mul_right 4 hGn; omega)]; rfl
 have hNf: ∀j,W1.frozen? ⟨w.heap.size,j,none⟩=false:=fun j=>by rw[hW1]; exact World.frozen?_alloc_at (w:=w.drew) ROW _ w.heap.size j rfl
 have hOb: ∀j v,w.cell? ⟨g,j,none⟩=some v->W1.cell? ⟨g,j,none⟩=some v:=fun j v h=>by rw[hW1,World.cell?_alloc_past (w:=w.drew) _ g j hbw]; exact h
 have hOv: ∀j v,w.cell? ⟨vb,j,none⟩=some v->W1.cell? ⟨vb,j,none⟩=some v:=fun j v h=>by rw[hW1,World.cell?_alloc_past (w:=w.drew) _ vb j hvw]; exact h
 have hcpA: ∀(W:World),(∀x,W.cell? x=W1.cell? x)->(∀x,W.frozen? x=W1.frozen? x)-> ∀ty dc,(Builtin.copy_ #[28,28] ty #[.slice (some ⟨w.heap.size,i*4,none⟩) (n+m-i) dc,.slice (some ⟨vb,0,none⟩) m vc]).run prog W= .ok (goInt m) (W.setCells w.heap.size (i*4) vs):=fun W hWc hWf ty dc=>by
  have hmin:Nat.min m (n+m-i)=m:=by simp only[Nat.min_def]; split <;> omega
  have h:=zx6 W 28 28 ty 53 4 w.heap.size (i*4) (n+m-i) dc ⟨vb,0,none⟩ m vc vs t28 hsz (by rw[hvl,hmin])
   (fun j v hj=>by rw[Addr.add_lit,hWc,Nat.zero_add]; exact hOv _ v (hvs j v hj))
   (fun j hj=>by rw[hWc]; exact hN _ (by rw[hvl]at hj; omega)) (fun j hj=>by rw[hWf]; exact hNf _) h1v
  rw[hmin]at h;exact h
 have hGi: ¬(G=i):=by omega
 have hGim: ¬(G=i+m):=by omega
 have hci: ¬(c=i):=by omega
 have hbN:g≠w.heap.size:=by omega
 have hdl:(cs.drop (i*4)).length =(n-i)*4:=by rw[List.length_drop,hcl,Nat.sub_mul]
 have hcpB: ∀(W:World),(∀x,W.cell? x=(W1.setCells w.heap.size (i*4) vs).cell? x)->(∀x,W.frozen? x=(W1.setCells w.heap.size (i*4) vs).frozen? x)-> ∀ty dc sc,(Builtin.copy_ #[28,28] ty #[.slice (some ⟨w.heap.size,(i+m)*4,none⟩) (n+m-(i+m)) dc,.slice (some ⟨g,i*4,none⟩) (n-i) sc]).run prog W= .ok (goInt (n-i:Nat)) (W.setCells w.heap.size ((i+m)*4) (cs.drop (i*4))):=fun W hWc hWf ty dc sc=>by
  have hmin:Nat.min (n-i) (n+m-(i+m))=n-i:=by simp only[Nat.min_def]; split <;> omega
  have h:=zx6 W 28 28 ty 53 4 w.heap.size ((i+m)*4) (n+m-(i+m)) dc ⟨g,i*4,none⟩ (n-i) sc (cs.drop (i*4)) t28 hsz (by rw[hdl,hmin])
   (fun j v hj=>by
    rw[Addr.add_lit,hWc,World.cell?_setCells_out _ _ _ _ _ (fun h _=>absurd h hbN)];exact hOb _ v (hcs (i*4+j) v (by rwa [List.getElem?_drop]at hj)))
   (fun j hj=>by rw[hWc]; exact isSome_setCells _ _ _ _ (fun t ht=>hN _ (by rw[hvl]at ht; omega)) _ (hN _ (by rw[hdl]at hj; omega)))
   (fun j hj=>by rw[hWf,World.frozen?_setCells]; exact hNf _) (fun v hv=>h1c v (List.mem_of_mem_drop hv))
  rw[hmin]at h;exact h
 subst hW1;have hE1: ∀x,((w.alloc (.cells ROW 53)).drew).cell? x=(w.drew.alloc (.cells ROW 53)).cell? x:=fun x=>rfl;have hE2: ∀x,((w.alloc (.cells ROW 53)).drew).frozen? x=(w.drew.alloc (.cells ROW 53)).frozen? x:=fun x=>rfl;have hF1: ∀x,(((w.alloc (.cells ROW 53)).drew.setCells w.heap.size (i*4) vs).drew).cell? x=((w.drew.alloc (.cells ROW 53)).setCells w.heap.size (i*4) vs).cell? x:=fun x=>rfl;have hF2: ∀x,(((w.alloc (.cells ROW 53)).drew.setCells w.heap.size (i*4) vs).drew).frozen? x=((w.drew.alloc (.cells ROW 53)).setCells w.heap.size (i*4) vs).frozen? x:=fun x=>rfl;have hw1:IntKind.i64.wrap ((i:Int)+(m:Int))=(i:Int)+(m:Int):=by rw[IntKind.wrap_i64]; omega
 have hb1:(0:Int)<=(i:Int)+(m:Int):=by omega
 have hin:i<=n:=by omega
 have htn:((i:Int)+(m:Int)).toNat =i+m:=by omega
 have hb3:(i:Int)<=(n:Int):=by omega
 have XR:Hd (ROW.size=G*4/\ROW.toList.take (i*4)=cs.take (i*4)):=⟨hRs,hRt⟩;clear hkk hik hold hROW hG hRs hRt hcs hvs h1c h1v hN hNf hOb hOv hct hcl hvl
 go_enter func162,ntmps162
 go_wp2_with (first
  | (at_builtin; refine Lib.wpList_append_run _ rfl _ _ _ _ rfl _ _ rfl rfl _ _ (hrz _) ?_)
  | (at_builtin; refine wpList_copy_runI _ rfl _ _ 28 28 rfl _ _ rfl rfl (hcpA _ hE1 hE2 _ _) ?_)
  | (at_builtin; refine wpList_copy_runI _ rfl _ _ 28 28 rfl _ _ rfl rfl (hcpB _ (fun _=>rfl) (fun _=>rfl) _ _ _) ?_))
 go_region_law_o (refine step_copy_runI rfl _ _ 28 28 rfl (.slice (some ⟨w.heap.size,(i+m)*4,none⟩) (n+m-(i+m)) (G-(i+m))) (.slice (some ⟨g,i*4,none⟩) (n-i) (c-i)) (by simp[Act.eval,Act.put]) (by simp[Act.eval,Act.put]) (hcpB _ hF1 hF2 3 (G-(i+m)) (c-i)) ?_)
 go_wp2;go_ret;exact⟨ROW,rfl,rfl,XR.out⟩
theorem zyU:InsW prog 162 53 4:={
 at1:=by
  intro W g cap cur n i vb vcap vcur hg hle hcap hcur hone hi hn4 hne hvg hvc hvcur hvone;obtain⟨c,hc⟩: ∃c,cur.toList.take (n*4)=c:=⟨_,rfl⟩;obtain⟨vs,hvs⟩: ∃vs,vcur.toList.take 4=vs:=⟨_,rfl⟩;rw[hc]at hone ⊢;rw[hvs]at hvone ⊢;have hmx:cap<=9223372036854775807:=hcap;have hnk:n*4<=cur.size:=by rw[hcur]; exact Nat.mul_le_mul_right _ hle
  have hclen:c.length=n*4:=by rw[<-hc,waf]; exact Nat.min_eq_left hnk
  have hvlen:vs.length=1*4:=by rw[<-hvs,waf]; exact Nat.min_eq_left (by show _<=vcur.size; omega)
  have hcell: ∀j v,c[j]? =some v->W.cell? ⟨g,j,none⟩=some v:=fun j v hj=>by
   rw[<-hc,List.getElem?_take]at hj;split at hj
   ·rw[<-hj]; simp[World.cell?,hg]
   ·cases hj
  have hvcell: ∀j v,vs[j]? =some v->W.cell? ⟨vb,j,none⟩=some v:=fun j v hj=>by
   rw[<-hvs,List.getElem?_take]at hj;split at hj
   ·rw[<-hj]; simp[World.cell?,hvg]
   ·cases hj
  have hsp: ∀j,j<cap*4->(W.cell? ⟨g,j,none⟩).isSome =true:=fun j hj=>by
   simp only[World.cell?,hg];rw[show(({block:=g,off:=j,spot:=none}:Addr).spot.isSome)=false from rfl];simp only[Bool.false_eq_true,if_false];rw[Array.getElem?_eq_getElem (by omega)]; rfl
  have hfz: ∀j,W.frozen? ⟨g,j,none⟩=false:=fun t=>by simp[World.frozen?,hg]
  have hvfz: ∀j,W.frozen? ⟨vb,j,none⟩=false:=fun t=>by simp[World.frozen?,hvg]
  have hgw:g<W.heap.size:=(Array.getElem?_eq_some_iff.1 hg).1;have hct:cur.toList.take (i*4)=c.take (i*4):=by rw[<-hc,List.take_take,Nat.min_eq_left (by omega)]
  have hdl:(c.drop (i*4)).length =(n-i)*4:=by rw[List.length_drop,hclen,Nat.sub_mul]
  rcases wao i n with h | h
  ·rcases wao cap (n+1)with h' | h'
   ·refine(insDModule g n cap i vb 1 vcap c vs W h (by omega) hle h' (by omega) hclen hvlen hcell hvcell hone hvone).mono ?_;rintro e' W' ⟨ROW,rfl,hW,hRs,hRt⟩;obtain⟨G,hG⟩: ∃G,grownCap W (n+1) cap 53=G:=⟨_,rfl⟩;rw[hG]at hRs ⊢;have hGn:n+1<=G:=(by rw[<-hG]; exact grownCap_ge W _ _ _);have hGm:G<=maxLen:=(by rw[<-hG]; exact grownCap_le_maxLen W (n+1) cap 53 (by unfold maxLen; omega));have h0:(W.alloc (.cells ROW 53)).drew.heap[W.heap.size]? =some (.cells ROW 53 (0,0)):=World.alloc_heap_new W _;have h1:=zoK W.heap.size vs (i*4) _ _ _ _ h0;have h2:=zoK W.heap.size (c.drop (i*4)) ((i+1)*4) (((W.alloc (.cells ROW 53)).drew.setCells W.heap.size (i*4) vs).drew) _ _ _ h1;obtain⟨r1,r2,r3,r4⟩:=zlI W.heap.size (c.drop (i*4)) ((i+1)*4) (((W.alloc (.cells ROW 53)).drew.setCells W.heap.size (i*4) vs).drew);obtain⟨q1,q2,q3,q4⟩:=zlI W.heap.size vs (i*4) (W.alloc (.cells ROW 53)).drew;rw[<-hW]at h2 r1 r2 r3 r4;refine⟨W.heap.size,G,_,rfl,⟨r1.trans q1,r2.trans q2,r3.trans q3,by rw[r4,show ∀w:World,w.drew.heap.size=w.heap.size from fun _=>rfl,q4]; simp⟩,fun b hb _=> ?_,h2,.inr (war _),hGn,hGm,by rw[ztU,ztU,hRs],?_⟩
    ·have hbn:b≠W.heap.size:=(by omega);rw[hW,zlH _ _ _ _ b hbn];show(((W.alloc (.cells ROW 53)).drew.setCells W.heap.size (i*4) vs)).heap[b]? =_;rw[zlH _ _ _ _ b hbn];show(W.heap.push _)[b]? =_;rw[Array.getElem?_push,if_neg hbn]
    ·have hp:=putL2 ROW (i*4) vs (c.drop (i*4)) (by rw[hvlen,hdl,hRs]; omega);rw[hvlen,hdl,hRt]at hp;rw[show(n+1)*4=i*4+1*4+(n-i)*4 by omega,show(i+1)*4=i*4+1*4 by omega];exact hp
   ·refine(insCModule g n cap i vb 1 vcap c vs W h (by omega) h' hmx hne hclen hvlen hcell (fun j hj=>hsp j (by omega)) hfz hvcell hone hvone _ _ _ _ (by simp only[World.shape?,hvg]; rfl) (by simp only[World.shape?,hg]; rfl) (by omega) (hvfz 0) (hvfz _)).mono ?_;rintro e' W' ⟨rfl,hW⟩;have h1:=zoK g (c.drop (i*4)) ((i+1)*4) W.drew _ _ _ hg;have h2:=zoK g vs (i*4) _ _ _ _ h1;obtain⟨r1,r2,r3,r4⟩:=zlI g vs (i*4) (W.drew.setCells g ((i+1)*4) (c.drop (i*4)));obtain⟨q1,q2,q3,q4⟩:=zlI g (c.drop (i*4)) ((i+1)*4) W.drew;rw[<-hW]at h2 r1 r2 r3 r4;refine⟨g,cap,_,rfl,⟨r1.trans q1,r2.trans q2,r3.trans q3,by rw[r4,q4]; exact war _⟩,fun b hb hbg=> ?_,h2,.inl rfl,h',hcap,by rw[ztU,ztU,hcur],?_⟩
    ·rw[hW,zlH _ _ _ _ b hbg,zlH _ _ _ _ b hbg]; rfl
    ·have hp:=putL2' cur (i*4) vs (c.drop (i*4)) (by rw[hvlen,hdl,hcur]; omega);rw[hvlen,hdl,hct]at hp;rw[show(n+1)*4=i*4+1*4+(n-i)*4 by omega,show(i+1)*4=i*4+1*4 by omega];exact hp
  ·obtain rfl:i=n:=by omega
   have hcd:c.take (i*4)++vs++c.drop (i*4)=c++vs:=by
    rw[wag (by omega),List.drop_eq_nil_of_le (by omega),wal]
   rw[hcd];rcases wao cap (i+1)with h' | h'
   ·refine(zyZ (some ⟨g,0,none⟩) i cap vb 1 vcap c vs W (by omega) hle h' (by omega) hclen hvlen (by simp) (fun a ha j v hj=>by cases ha; rw[Addr.add_lit,Nat.zero_add]; exact hcell j v hj) hvcell hvone).mono ?_;rintro e' W' ⟨R,rfl,rfl,hRs⟩;have hGn:i+1<=grownCap W (i+1) cap 53:=grownCap_ge W _ _ _;refine⟨W.heap.size,_,_,rfl,⟨rfl,rfl,rfl,by simp⟩,fun b hb _=> ?_,World.alloc_heap_new W.drew _,.inr (war _),hGn,grownCap_le_maxLen W (i+1) cap 53 (by unfold maxLen; omega),?_,?_⟩
    ·show(W.heap.push _)[b]? =_;rw[Array.getElem?_push,if_neg (by omega)]
    ·rw[Array.size_append,hRs]; simp only[List.size_toArray,waa,hclen,hvlen]; omega
    ·rw[Array.toList_append]; exact List.take_left' (by simp only[waa,hclen,hvlen]; omega)
   ·refine(insAModule g i cap vb 1 vcap vs W (by omega) h' hmx hvlen (fun j hj=>hsp _ (by omega)) (fun j hj=>hfz _) hvcell hvone).mono ?_;rintro e' W' ⟨rfl,hW⟩;rw[Nat.zero_add]at hW;have h1:=zoK g vs (i*4) W _ _ _ hg;obtain⟨r1,r2,r3,r4⟩:=zlI g vs (i*4) W;rw[<-hW]at h1 r1 r2 r3 r4;refine⟨g,cap,_,rfl,⟨r1,r2,r3,by rw[r4]; exact war _⟩,fun b hb hbg=> ?_,h1,.inl rfl,h',hcap,by rw[ztU,hcur],?_⟩
    ·rw[hW,zlH _ _ _ _ b hbg]
    ·have hp:=putL1 cur (i*4) vs (by rw[hvlen,hcur]; omega);have hct':c.take (i*4)=c:=wag (by omega);rw[hvlen,hct,hct']at hp;rw[show(i+1)*4=i*4+1*4 by omega];exact hp
 at0:=by
  intro W ad vb vcap vcur hvg hvc hvcur hvone;obtain⟨vs,hvs⟩: ∃vs,vcur.toList.take 4=vs:=⟨_,rfl⟩;rw[hvs]at hvone ⊢;have hvlen:vs.length=1*4:=by rw[<-hvs,waf]; exact Nat.min_eq_left (by show _<=vcur.size; omega)
  have hvcell: ∀j v,vs[j]? =some v->W.cell? ⟨vb,j,none⟩=some v:=fun j v hj=>by
   rw[<-hvs,List.getElem?_take]at hj;split at hj
   ·rw[<-hj]; simp[World.cell?,hvg]
   ·cases hj
  refine(zyZ ad 0 0 vb 1 vcap [] vs W (by omega) (war _) (by omega) (by omega) (by simp) hvlen (fun _=>rfl) (by simp) hvcell hvone).mono ?_;rintro e' W' ⟨R,rfl,rfl,hRs⟩;have hGn:0+1<=grownCap W (0+1) 0 53:=grownCap_ge W _ _ _;refine⟨W.heap.size,_,_,rfl,⟨rfl,rfl,rfl,by simp⟩,fun b hb _=> ?_,World.alloc_heap_new W.drew _,.inr (war _),hGn,grownCap_le_maxLen W (0+1) 0 53 (by unfold maxLen; omega),?_,?_⟩
  ·show(W.heap.push _)[b]? =_;rw[Array.getElem?_push,if_neg (by omega)]
  ·rw[Array.size_append,hRs]; simp only[List.size_toArray,waa,wad,hvlen]; omega
  ·rw[Array.toList_append]; exact List.take_left' (by simp[hvlen])}
set_option maxHeartbeats 8000000 in
theorem insAItem(g n c vb m vc:Nat)(vs:List Value)(w:World)(hm:0<m)(hroom:n+m<=c)(hc63:c<=9223372036854775807)(hvl:vs.length=m*35)
  (hsp: ∀j,j<m*35->(w.cell? ⟨g,0+n*35+j,none⟩).isSome =true) (hfz: ∀j,j<m*35->w.frozen? ⟨g,0+n*35+j,none⟩=false)
  (hvs: ∀j v,vs[j]? =some v->w.cell? ⟨vb,j,none⟩=some v) (h1v: ∀v∈vs,v.oneCell'=true):
  Calls prog 159 #[.slice (some ⟨g,0,none⟩) n c,.int .i64 n,.slice (some ⟨vb,0,none⟩) m vc] w fun e w'=>e= .returned (.slice (some ⟨g,0,none⟩) (n+m) c)/\w'=w.setCells g (0+n*35) vs:=by
 obtain⟨i0,z0,t28,hi0,hz0,hzc,hz1,_,_⟩:=zeW tA51;have zat:=zat;have hzz: ¬((m:Int)=0):=by omega
 have hsrc:Src prog i0.size 51 (.slice (some ⟨vb,0,none⟩) m vc) m vs w:=by
  rw[hz1];exact Src.ofSlice w t28 ⟨vb,0,none⟩ m vc vs hvl (fun j u hj=>by rw[Addr.add_lit,Nat.zero_add]; exact hvs j u hj) h1v
 have hrun: ∀ty,(Builtin.append_ #[51,51] ty #[.slice (some ⟨g,0,none⟩) n c,.slice (some ⟨vb,0,none⟩) m vc]).run prog w= .ok (.slice (some ⟨g,0,none⟩) (n+m) c) (w.setCells g (0+n*35) vs):=fun ty=>by
  have h:=run_append_room_src w 51 51 ty 64 i0 t28 hi0 g 0 n c _ m vs hsrc hroom (by rw[hz1,hvl]; exact hsp) (by rw[hz1,hvl]; exact hfz);rw[hz1]at h;exact h
 clear hsp hfz hvs h1v hsrc
 go_enter func159,ntmps159
 go_wp2_with (at_builtin; refine Lib.wpList_append_run _ rfl _ _ _ _ rfl _ _ rfl rfl _ _ (hrun _) ?_)
 go_ret;exact⟨rfl,by rw[Nat.zero_add]⟩
set_option maxHeartbeats 8000000 in
theorem insBItem(base:Option Addr)(n c vb m vc:Nat)(cs vs:List Value)(w:World)(hm:0<m)(hnc:n<=c)(hroom:c<n+m)(hbig:(n+m)*480<=140737488355328)(hcl:cs.length=n*35)(hvl:vs.length=m*35)(hnil:base=none->n=0)
  (hcs: ∀a,base=some a-> ∀j v,cs[j]? =some v->w.cell? (a.add j)=some v)
  (hvs: ∀j v,vs[j]? =some v->w.cell? ⟨vb,j,none⟩=some v) (h1v: ∀v∈vs,v.oneCell'=true):
  Calls prog 159 #[.slice base n c,.int .i64 n,.slice (some ⟨vb,0,none⟩) m vc] w fun e w'=> ∃(cur':Array Value),e= .returned (.slice (some ⟨w.heap.size,0,none⟩) (n+m) (grownCap w (n+m) c 64))/\
   w'=w.drew.alloc (.cells ((cs++vs).toArray ++cur') 64)/\cur'.size=(grownCap w (n+m) c 64-(n+m))*35:=by
 obtain⟨i0,z0,t28,hi0,hz0,hzc,hz1,hzb,_⟩:=zeW tA51;have zat:=zat;have hzz: ¬((m:Int)=0):=by omega
 have hsrc:Src prog i0.size 51 (.slice (some ⟨vb,0,none⟩) m vc) m vs w:=by
  rw[hz1];exact Src.ofSlice w t28 ⟨vb,0,none⟩ m vc vs hvl (fun j u hj=>by rw[Addr.add_lit,Nat.zero_add]; exact hvs j u hj) h1v
 have hold:(Builtin.firstCells i0.size n (.slice base n c)).run prog w.drew= .ok cs.toArray w.drew:=by
  rw[hz1];cases base with
  | none=>
   have h0:=hnil rfl;subst h0;have hc0:cs=[]:=List.length_eq_zero_iff.1 (by rw[hcl,Nat.zero_mul]);rw[hc0];exact run_firstCells_none w.drew 35 0 0 c
  | some a=>exact run_firstCells_some w.drew 35 n a n c cs hcl (fun j v hj=>hcs a rfl j v hj)
 obtain⟨R,hR⟩: ∃R:Array Value,R=Builtin.zeroCells z0.cells (grownCap w (n+m) c 64-(n+m)):=⟨_,rfl⟩;have hRs:R.size=(grownCap w (n+m) c 64-(n+m))*35:=by rw[hR]; simp[Builtin.zeroCells,hzc]
 have hrun: ∀ty,(Builtin.append_ #[51,51] ty #[.slice base n c,.slice (some ⟨vb,0,none⟩) m vc]).run prog w= .ok (.slice (some ⟨w.heap.size,0,none⟩) (n+m) (grownCap w (n+m) c 64)) (w.drew.alloc (.cells ((cs++vs).toArray ++R) 64)):=fun ty=>by
  have h:=run_append_grow_src w 51 51 ty 64 i0 z0 t28 hi0 hz0 base n c cs hold _ m vs hsrc hroom (by omega) (by rw[hzb]; exact growslice_fits hroom hbig);rw[<-hR]at h;exact h
 obtain⟨G,hG⟩: ∃G,G=grownCap w (n+m) c 64:=⟨_,rfl⟩;rw[<-hG]at hrun hRs ⊢;have XR:Hd (R.size=(G-(n+m))*35):=⟨hRs⟩;clear hcs hvs h1v hsrc hold hR hG hRs
 go_enter func159,ntmps159
 cases base with
 | none=>
  have h0:=hnil rfl;subst h0
  go_wp2_with (at_builtin; refine Lib.wpList_append_run _ rfl _ _ _ _ rfl _ _ rfl rfl _ _ (hrun _) ?_)
  go_ret;exact⟨by simp,R,by simp,by rw[XR.out,Nat.zero_add]⟩
 | some a=>
  obtain⟨ab,ao,asp⟩:=a
  go_wp2_with (at_builtin; refine Lib.wpList_append_run _ rfl _ _ _ _ rfl _ _ rfl rfl _ _ (hrun _) ?_)
  all_goals (go_ret; exact⟨rfl,R,rfl,XR.out⟩)
set_option maxHeartbeats 16000000 in
theorem insCItem(g n c i vb m vc:Nat)(cs vs:List Value)(w:World)(hi:i<n)(hm:0<m)(hroom:n+m<=c)(hc63:c<=9223372036854775807)(hvb:vb≠g)(hcl:cs.length=n*35)(hvl:vs.length=m*35)
  (hcs: ∀j v,cs[j]? =some v->w.cell? ⟨g,j,none⟩=some v) (hsp: ∀j,j<(n+m)*35->(w.cell? ⟨g,j,none⟩).isSome =true) (hfz: ∀j,w.frozen? ⟨g,j,none⟩=false)
  (hvs: ∀j v,vs[j]? =some v->w.cell? ⟨vb,j,none⟩=some v) (h1c: ∀v∈cs,v.oneCell'=true) (h1v: ∀v∈vs,v.oneCell'=true)
  (tA tB:TypeId) (kA kB:Nat) (hsa:w.shape? vb=some (tA,kA)) (hsb:w.shape? g=some (tB,kB)) (hkB:kB≠0) (hfa:w.frozen? ⟨vb,0,none⟩=false) (hfe:w.frozen? ⟨vb,kA,none⟩=false):
  Calls prog 159 #[.slice (some ⟨g,0,none⟩) n c,.int .i64 i,.slice (some ⟨vb,0,none⟩) m vc] w fun e w'=>
   e= .returned (.slice (some ⟨g,0,none⟩) (n+m) c)/\w'=(w.drew.setCells g ((i+m)*35) (cs.drop (i*35))).setCells g (i*35) vs:=by
 obtain⟨i0,z0,t28,hi0,hz0,hzc,hz1s,hzb,_⟩:=zeW tA51;have zat:=zat;have hz1: ¬((m:Int)=0):=by omega
 have hz2: ¬((i:Int)=(n:Int)):=by omega
 have hsz:(prog.info? 64).map (·.size)=some 35:=by rw[hi0]; simp[hz1s]
 have hov: ∀lb cb,(callFunc 211 #[.slice (some ⟨vb,0,none⟩) m vc,.slice (some ⟨g,(i+m)*35,none⟩) lb cb]).run prog w= .ok (.value (.bool false)) w:=fun lb cb=>by
  rw[run_callFunc_extern func211 (by kernel_rfl) (by kernel_rfl) (by kernel_rfl) (e:=Extern.SlicesOverlaps.overlaps #[51,51] #[4]) (by kernel_rfl),
   Lib.run_overlaps_apart w 51 4 64 t28 35 sizeOf64 ⟨vb,0,none⟩ ⟨g,(i+m)*35,none⟩ m vc lb cb hvb tA tB kA kB hsa hsb hkB hfa hfe]
  rfl
 have hdl:(cs.drop (i*35)).length =(n-i)*35:=by rw[List.length_drop,hcl,Nat.sub_mul]
 have hw1:IntKind.i64.wrap ((i:Int)+(m:Int))=(i:Int)+(m:Int):=by rw[IntKind.wrap_i64]; omega
 have hb1:(0:Int)<=(i:Int)+(m:Int):=by omega
 have hin:i<=n:=by omega
 have htn:((i:Int)+(m:Int)).toNat =i+m:=by omega
 have hb2: ¬(c=i+m):=by omega
 have hb3:(i:Int)<=(n:Int)+(m:Int):=by omega
 have hb4: ¬(c=i):=by omega
 have hcp1: ∀ty dc sc,(Builtin.copy_ #[51,51] ty #[.slice (some ⟨g,(i+m)*35,none⟩) (n+m-(i+m)) dc,.slice (some ⟨g,i*35,none⟩) (n+m-i) sc]).run prog w.drew= .ok (goInt (n-i:Nat)) (w.drew.setCells g ((i+m)*35) (cs.drop (i*35))):=fun ty dc sc=>by
  have hmin:Nat.min (n+m-i) (n+m-(i+m))=n-i:=by simp only[Nat.min_def]; split <;> omega
  have h:=zx6 w.drew 51 51 ty 64 35 g ((i+m)*35) (n+m-(i+m)) dc ⟨g,i*35,none⟩ (n+m-i) sc (cs.drop (i*35)) t28 hsz (by rw[hdl,hmin])
   (fun j v hj=>by rw[Addr.add_lit]; exact hcs (i*35+j) v (by rwa [List.getElem?_drop]at hj))
   (fun j hj=>hsp _ (by rw[hdl]at hj; omega)) (fun j hj=>hfz _) (fun v hv=>h1c v (List.mem_of_mem_drop hv))
  rw[hmin]at h;exact h
 obtain⟨W1,hW1⟩: ∃W1,W1=w.drew.setCells g ((i+m)*35) (cs.drop (i*35)):=⟨_,rfl⟩;have hsp1: ∀k,k<(n+m)*35->(W1.cell? ⟨g,k,none⟩).isSome =true:=fun k hk=>by
  rw[hW1];exact isSome_setCells g _ _ w.drew (fun j hj=>hsp ((i+m)*35+j) (by rw[hdl]at hj; omega)) _ (hsp k hk)
 have hcp2: ∀(W:World),(∀x,W.cell? x=W1.cell? x)->(∀x,W.frozen? x=W1.frozen? x)-> ∀ty dc,(Builtin.copy_ #[51,51] ty #[.slice (some ⟨g,i*35,none⟩) (n+m-i) dc,.slice (some ⟨vb,0,none⟩) m vc]).run prog W= .ok (goInt m) (W.setCells g (i*35) vs):=fun W hWc hWf ty dc=>by
  have hmin:Nat.min m (n+m-i)=m:=by simp only[Nat.min_def]; split <;> omega
  have h:=zx6 W 51 51 ty 64 35 g (i*35) (n+m-i) dc ⟨vb,0,none⟩ m vc vs t28 hsz (by rw[hvl,hmin])
   (fun j v hj=>by
    rw[Addr.add_lit,hWc,hW1,World.cell?_setCells_out g _ _ _ _ (fun h _=>absurd h hvb),Nat.zero_add];exact hvs j v hj)
   (fun j hj=>by rw[hWc]; exact hsp1 _ (by rw[hvl]at hj; omega)) (fun j hj=>by rw[hWf,hW1,World.frozen?_setCells]; exact hfz _) h1v
  rw[hmin]at h;exact h
 rw[<-hW1]at hcp1;have hWW:Hd (W1=w.drew.setCells g ((i+m)*35) (cs.drop (i*35))):=⟨hW1⟩;clear hW1 hcs hsp hfz hvs h1c h1v hsp1 hdl hcl hvl
 go_enter func159,ntmps159
 go_wp2_with (simp only[hov])
 go_region_law_o (refine step_copy_runI rfl _ _ 51 51 rfl _ _ (by simp[Act.eval,Act.put]) (by simp[Act.eval,Act.put]) (hcp1 _ _ _) ?_)
 go_wp2_with (at_builtin; refine wpList_copy_runI _ rfl _ _ 51 51 rfl _ _ rfl rfl (hcp2 _ (fun _=>rfl) (fun _=>rfl) _ _) ?_)
 go_ret;exact⟨rfl,by rw[hWW.out]⟩
set_option maxHeartbeats 16000000 in
theorem insDItem(g n c i vb m vc:Nat)(cs vs:List Value)(w:World)(hi:i<n)(hm:0<m)(hnc:n<=c)(hroom:c<n+m)(hbig:(n+m)*480<=140737488355328)(hcl:cs.length=n*35)(hvl:vs.length=m*35)
  (hcs: ∀j v,cs[j]? =some v->w.cell? ⟨g,j,none⟩=some v) (hvs: ∀j v,vs[j]? =some v->w.cell? ⟨vb,j,none⟩=some v) (h1c: ∀v∈cs,v.oneCell'=true) (h1v: ∀v∈vs,v.oneCell'=true):
  Calls prog 159 #[.slice (some ⟨g,0,none⟩) n c,.int .i64 i,.slice (some ⟨vb,0,none⟩) m vc] w fun e w'=> ∃ROW:Array Value,
   e= .returned (.slice (some ⟨w.heap.size,0,none⟩) (n+m) (grownCap w (n+m) c 64))/\
   w'=(((w.alloc (.cells ROW 64)).drew.setCells w.heap.size (i*35) vs).drew).setCells w.heap.size ((i+m)*35) (cs.drop (i*35))/\ROW.size=grownCap w (n+m) c 64*35/\ROW.toList.take (i*35)=cs.take (i*35):=by
 obtain⟨i0,z0,t28,hi0,hz0,hzc,hzs,hzb,_⟩:=zeW tA51;have zat:=zat;have hz1: ¬((m:Int)=0):=by omega
 have hz2: ¬((i:Int)=(n:Int)):=by omega
 have hz3:(c:Int)<(n:Int)+(m:Int):=by omega
 have hsz:(prog.info? 64).map (·.size)=some 35:=by rw[hi0]; simp[hzs]
 have hbw:g<w.heap.size:=block_lt_of_cell (hcs 0 _ (wam (by omega)));have hvw:vb<w.heap.size:=block_lt_of_cell (hvs 0 _ (wam (by omega)));have hkk:(n:Int)+(m:Int)-(i:Int)=((n+m-i:Nat):Int):=by omega
 have hik:i+(n+m-i)=n+m:=by omega
 have hct:(cs.take (i*35)).length =i*35:=by rw[waf,hcl]; omega
 have hold:(Builtin.firstCells i0.size i (.slice (some ⟨g,0,none⟩) i c)).run prog w.drew= .ok (cs.take (i*35)).toArray w.drew:=by
  rw[hzs];exact run_firstCells_some w.drew 35 i ⟨g,0,none⟩ i c (cs.take (i*35)) hct (fun j v hj=>by
   rw[Addr.add_lit,Nat.zero_add];rw[List.getElem?_take]at hj;split at hj
   ·exact hcs j v hj
   ·cases hj)
 obtain⟨G,hG⟩: ∃G,G=grownCap w (n+m) c 64:=⟨_,rfl⟩;obtain⟨ROW,hROW⟩: ∃ROW:Array Value,ROW=(cs.take (i*35)).toArray ++Builtin.zeroCells z0.cells (n+m-i)++Builtin.zeroCells z0.cells (G-(n+m)):=⟨_,rfl⟩;have hrz: ∀ty,(Builtin.append_ #[51,3] ty #[.slice (some ⟨g,0,none⟩) i c,.int .i64 ((n:Int)+(m:Int)-(i:Int))]).run prog w=
   .ok (.slice (some ⟨w.heap.size,0,none⟩) (n+m) G) (w.drew.alloc (.cells ROW 64)):=fun ty=>by
  have h:=Lib.run_append_grow_zeros w 51 3 ty 64 i0 _ .i64 .i64 t28 underlying3 hi0 hz0 (some ⟨g,0,none⟩) i c (cs.take (i*35)) hold (n+m-i) (by omega) (by rw[hzs]; omega) (by omega) (by omega) (by rw[hzb]; omega) (by rw[hzb,hik]; exact growslice_fits hroom hbig);rw[hik]at h;rw[hkk,hROW,hG];exact h
 have hGn:n+m<=G:=by rw[hG]; exact grownCap_ge w _ _ _
 have hG63:G<=9223372036854775807:=by
  have:=grownCap_le_maxLen w (n+m) c 64 (by unfold maxLen; omega);rw[<-hG]at this;unfold maxLen at this;omega
 have hRs:ROW.size=G*35:=by
  rw[hROW];have hzs: ∀q,(Builtin.zeroCells z0.cells q).size =q*35:=fun q=>by simp[Builtin.zeroCells,hzc]
  simp only[Array.size_append,List.size_toArray,hct,hzs];omega
 have hRt:ROW.toList.take (i*35)=cs.take (i*35):=by
  rw[hROW];simp only[Array.toList_append,wah];rw[List.take_left' hct]
 rw[<-hG];obtain⟨W1,hW1⟩: ∃W1,W1=w.drew.alloc (.cells ROW 64):=⟨_,rfl⟩;rw[<-hW1]at hrz;have hN: ∀j,j<(n+m)*35->(W1.cell? ⟨w.heap.size,j,none⟩).isSome =true:=fun j hj=>by
  rw[hW1,World.cell?_alloc_at (w:=w.drew) ROW _ w.heap.size j rfl,Array.getElem?_eq_getElem (by rw[hRs]; have:=Nat.mul_le_mul_right 35 hGn; omega)]; rfl
 have hNf: ∀j,W1.frozen? ⟨w.heap.size,j,none⟩=false:=fun j=>by rw[hW1]; exact World.frozen?_alloc_at (w:=w.drew) ROW _ w.heap.size j rfl
 have hOb: ∀j v,w.cell? ⟨g,j,none⟩=some v->W1.cell? ⟨g,j,none⟩=some v:=fun j v h=>by rw[hW1,World.cell?_alloc_past (w:=w.drew) _ g j hbw]; exact h
 have hOv: ∀j v,w.cell? ⟨vb,j,none⟩=some v->W1.cell? ⟨vb,j,none⟩=some v:=fun j v h=>by rw[hW1,World.cell?_alloc_past (w:=w.drew) _ vb j hvw]; exact h
 have hcpA: ∀(W:World),(∀x,W.cell? x=W1.cell? x)->(∀x,W.frozen? x=W1.frozen? x)-> ∀ty dc,(Builtin.copy_ #[51,51] ty #[.slice (some ⟨w.heap.size,i*35,none⟩) (n+m-i) dc,.slice (some ⟨vb,0,none⟩) m vc]).run prog W= .ok (goInt m) (W.setCells w.heap.size (i*35) vs):=fun W hWc hWf ty dc=>by
  have hmin:Nat.min m (n+m-i)=m:=by simp only[Nat.min_def]; split <;> omega
  have h:=zx6 W 51 51 ty 64 35 w.heap.size (i*35) (n+m-i) dc ⟨vb,0,none⟩ m vc vs t28 hsz (by rw[hvl,hmin])
   (fun j v hj=>by rw[Addr.add_lit,hWc,Nat.zero_add]; exact hOv _ v (hvs j v hj))
   (fun j hj=>by rw[hWc]; exact hN _ (by rw[hvl]at hj; omega)) (fun j hj=>by rw[hWf]; exact hNf _) h1v
  rw[hmin]at h;exact h
 have hGi: ¬(G=i):=by omega
 have hGim: ¬(G=i+m):=by omega
 have hci: ¬(c=i):=by omega
 have hbN:g≠w.heap.size:=by omega
 have hdl:(cs.drop (i*35)).length =(n-i)*35:=by rw[List.length_drop,hcl,Nat.sub_mul]
 have hcpB: ∀(W:World),(∀x,W.cell? x=(W1.setCells w.heap.size (i*35) vs).cell? x)->(∀x,W.frozen? x=(W1.setCells w.heap.size (i*35) vs).frozen? x)-> ∀ty dc sc,(Builtin.copy_ #[51,51] ty #[.slice (some ⟨w.heap.size,(i+m)*35,none⟩) (n+m-(i+m)) dc,.slice (some ⟨g,i*35,none⟩) (n-i) sc]).run prog W= .ok (goInt (n-i:Nat)) (W.setCells w.heap.size ((i+m)*35) (cs.drop (i*35))):=fun W hWc hWf ty dc sc=>by
  have hmin:Nat.min (n-i) (n+m-(i+m))=n-i:=by simp only[Nat.min_def]; split <;> omega
  have h:=zx6 W 51 51 ty 64 35 w.heap.size ((i+m)*35) (n+m-(i+m)) dc ⟨g,i*35,none⟩ (n-i) sc (cs.drop (i*35)) t28 hsz (by rw[hdl,hmin])
   (fun j v hj=>by
    rw[Addr.add_lit,hWc,World.cell?_setCells_out _ _ _ _ _ (fun h _=>absurd h hbN)];exact hOb _ v (hcs (i*35+j) v (by rwa [List.getElem?_drop]at hj)))
   (fun j hj=>by rw[hWc]; exact isSome_setCells _ _ _ _ (fun t ht=>hN _ (by rw[hvl]at ht; omega)) _ (hN _ (by rw[hdl]at hj; omega)))
   (fun j hj=>by rw[hWf,World.frozen?_setCells]; exact hNf _) (fun v hv=>h1c v (List.mem_of_mem_drop hv))
  rw[hmin]at h;exact h
 subst hW1;have hE1: ∀x,((w.alloc (.cells ROW 64)).drew).cell? x=(w.drew.alloc (.cells ROW 64)).cell? x:=fun x=>rfl;have hE2: ∀x,((w.alloc (.cells ROW 64)).drew).frozen? x=(w.drew.alloc (.cells ROW 64)).frozen? x:=fun x=>rfl;have hF1: ∀x,(((w.alloc (.cells ROW 64)).drew.setCells w.heap.size (i*35) vs).drew).cell? x=((w.drew.alloc (.cells ROW 64)).setCells w.heap.size (i*35) vs).cell? x:=fun x=>rfl;have hF2: ∀x,(((w.alloc (.cells ROW 64)).drew.setCells w.heap.size (i*35) vs).drew).frozen? x=((w.drew.alloc (.cells ROW 64)).setCells w.heap.size (i*35) vs).frozen? x:=fun x=>rfl;have hw1:IntKind.i64.wrap ((i:Int)+(m:Int))=(i:Int)+(m:Int):=by rw[IntKind.wrap_i64]; omega
 have hb1:(0:Int)<=(i:Int)+(m:Int):=by omega
 have hin:i<=n:=by omega
 have htn:((i:Int)+(m:Int)).toNat =i+m:=by omega
 have hb3:(i:Int)<=(n:Int):=by omega
 have XR:Hd (ROW.size=G*35/\ROW.toList.take (i*35)=cs.take (i*35)):=⟨hRs,hRt⟩;clear hkk hik hold hROW hG hRs hRt hcs hvs h1c h1v hN hNf hOb hOv hct hcl hvl
 go_enter func159,ntmps159
 go_wp2_with (first
  | (at_builtin; refine Lib.wpList_append_run _ rfl _ _ _ _ rfl _ _ rfl rfl _ _ (hrz _) ?_)
  | (at_builtin; refine wpList_copy_runI _ rfl _ _ 51 51 rfl _ _ rfl rfl (hcpA _ hE1 hE2 _ _) ?_)
  | (at_builtin; refine wpList_copy_runI _ rfl _ _ 51 51 rfl _ _ rfl rfl (hcpB _ (fun _=>rfl) (fun _=>rfl) _ _ _) ?_))
 go_region_law_o (refine step_copy_runI rfl _ _ 51 51 rfl (.slice (some ⟨w.heap.size,(i+m)*35,none⟩) (n+m-(i+m)) (G-(i+m))) (.slice (some ⟨g,i*35,none⟩) (n-i) (c-i)) (by simp[Act.eval,Act.put]) (by simp[Act.eval,Act.put]) (hcpB _ hF1 hF2 3 (G-(i+m)) (c-i)) ?_)
 go_wp2;go_ret;exact⟨ROW,rfl,rfl,XR.out⟩
theorem insertItem_w:InsW prog 159 64 35:={
 at1:=by
  intro W g cap cur n i vb vcap vcur hg hle hcap hcur hone hi hn4 hne hvg hvc hvcur hvone;obtain⟨c,hc⟩: ∃c,cur.toList.take (n*35)=c:=⟨_,rfl⟩;obtain⟨vs,hvs⟩: ∃vs,vcur.toList.take 35=vs:=⟨_,rfl⟩;rw[hc]at hone ⊢;rw[hvs]at hvone ⊢;have hmx:cap<=9223372036854775807:=hcap;have hnk:n*35<=cur.size:=by rw[hcur]; exact Nat.mul_le_mul_right _ hle
  have hclen:c.length=n*35:=by rw[<-hc,waf]; exact Nat.min_eq_left hnk
  have hvlen:vs.length=1*35:=by rw[<-hvs,waf]; exact Nat.min_eq_left (by show _<=vcur.size; omega)
  have hcell: ∀j v,c[j]? =some v->W.cell? ⟨g,j,none⟩=some v:=fun j v hj=>by
   rw[<-hc,List.getElem?_take]at hj;split at hj
   ·rw[<-hj]; simp[World.cell?,hg]
   ·cases hj
  have hvcell: ∀j v,vs[j]? =some v->W.cell? ⟨vb,j,none⟩=some v:=fun j v hj=>by
   rw[<-hvs,List.getElem?_take]at hj;split at hj
   ·rw[<-hj]; simp[World.cell?,hvg]
   ·cases hj
  have hsp: ∀j,j<cap*35->(W.cell? ⟨g,j,none⟩).isSome =true:=fun j hj=>by
   simp only[World.cell?,hg];rw[show(({block:=g,off:=j,spot:=none}:Addr).spot.isSome)=false from rfl];simp only[Bool.false_eq_true,if_false];rw[Array.getElem?_eq_getElem (by omega)]; rfl
  have hfz: ∀j,W.frozen? ⟨g,j,none⟩=false:=fun t=>by simp[World.frozen?,hg]
  have hvfz: ∀j,W.frozen? ⟨vb,j,none⟩=false:=fun t=>by simp[World.frozen?,hvg]
  have hgw:g<W.heap.size:=(Array.getElem?_eq_some_iff.1 hg).1;have hct:cur.toList.take (i*35)=c.take (i*35):=by rw[<-hc,List.take_take,Nat.min_eq_left (by omega)]
  have hdl:(c.drop (i*35)).length =(n-i)*35:=by rw[List.length_drop,hclen,Nat.sub_mul]
  rcases wao i n with h | h
  ·rcases wao cap (n+1)with h' | h'
   ·refine(insDItem g n cap i vb 1 vcap c vs W h (by omega) hle h' (by omega) hclen hvlen hcell hvcell hone hvone).mono ?_;rintro e' W' ⟨ROW,rfl,hW,hRs,hRt⟩;obtain⟨G,hG⟩: ∃G,grownCap W (n+1) cap 64=G:=⟨_,rfl⟩;rw[hG]at hRs ⊢;have hGn:n+1<=G:=(by rw[<-hG]; exact grownCap_ge W _ _ _);have hGm:G<=maxLen:=(by rw[<-hG]; exact grownCap_le_maxLen W (n+1) cap 64 (by unfold maxLen; omega));have h0:(W.alloc (.cells ROW 64)).drew.heap[W.heap.size]? =some (.cells ROW 64 (0,0)):=World.alloc_heap_new W _;have h1:=zoK W.heap.size vs (i*35) _ _ _ _ h0;have h2:=zoK W.heap.size (c.drop (i*35)) ((i+1)*35) (((W.alloc (.cells ROW 64)).drew.setCells W.heap.size (i*35) vs).drew) _ _ _ h1;obtain⟨r1,r2,r3,r4⟩:=zlI W.heap.size (c.drop (i*35)) ((i+1)*35) (((W.alloc (.cells ROW 64)).drew.setCells W.heap.size (i*35) vs).drew);obtain⟨q1,q2,q3,q4⟩:=zlI W.heap.size vs (i*35) (W.alloc (.cells ROW 64)).drew;rw[<-hW]at h2 r1 r2 r3 r4;refine⟨W.heap.size,G,_,rfl,⟨r1.trans q1,r2.trans q2,r3.trans q3,by rw[r4,show ∀w:World,w.drew.heap.size=w.heap.size from fun _=>rfl,q4]; simp⟩,fun b hb _=> ?_,h2,.inr (war _),hGn,hGm,by rw[ztU,ztU,hRs],?_⟩
    ·have hbn:b≠W.heap.size:=(by omega);rw[hW,zlH _ _ _ _ b hbn];show(((W.alloc (.cells ROW 64)).drew.setCells W.heap.size (i*35) vs)).heap[b]? =_;rw[zlH _ _ _ _ b hbn];show(W.heap.push _)[b]? =_;rw[Array.getElem?_push,if_neg hbn]
    ·have hp:=putL2 ROW (i*35) vs (c.drop (i*35)) (by rw[hvlen,hdl,hRs]; omega);rw[hvlen,hdl,hRt]at hp;rw[show(n+1)*35=i*35+1*35+(n-i)*35 by omega,show(i+1)*35=i*35+1*35 by omega];exact hp
   ·refine(insCItem g n cap i vb 1 vcap c vs W h (by omega) h' hmx hne hclen hvlen hcell (fun j hj=>hsp j (by omega)) hfz hvcell hone hvone _ _ _ _ (by simp only[World.shape?,hvg]; rfl) (by simp only[World.shape?,hg]; rfl) (by omega) (hvfz 0) (hvfz _)).mono ?_;rintro e' W' ⟨rfl,hW⟩;have h1:=zoK g (c.drop (i*35)) ((i+1)*35) W.drew _ _ _ hg;have h2:=zoK g vs (i*35) _ _ _ _ h1;obtain⟨r1,r2,r3,r4⟩:=zlI g vs (i*35) (W.drew.setCells g ((i+1)*35) (c.drop (i*35)));obtain⟨q1,q2,q3,q4⟩:=zlI g (c.drop (i*35)) ((i+1)*35) W.drew;rw[<-hW]at h2 r1 r2 r3 r4;refine⟨g,cap,_,rfl,⟨r1.trans q1,r2.trans q2,r3.trans q3,by rw[r4,q4]; exact war _⟩,fun b hb hbg=> ?_,h2,.inl rfl,h',hcap,by rw[ztU,ztU,hcur],?_⟩
    ·rw[hW,zlH _ _ _ _ b hbg,zlH _ _ _ _ b hbg]; rfl
    ·have hp:=putL2' cur (i*35) vs (c.drop (i*35)) (by rw[hvlen,hdl,hcur]; omega);rw[hvlen,hdl,hct]at hp;rw[show(n+1)*35=i*35+1*35+(n-i)*35 by omega,show(i+1)*35=i*35+1*35 by omega];exact hp
  ·obtain rfl:i=n:=by omega
   have hcd:c.take (i*35)++vs++c.drop (i*35)=c++vs:=by
    rw[wag (by omega),List.drop_eq_nil_of_le (by omega),wal]
   rw[hcd];rcases wao cap (i+1)with h' | h'
   ·refine(insBItem (some ⟨g,0,none⟩) i cap vb 1 vcap c vs W (by omega) hle h' (by omega) hclen hvlen (by simp) (fun a ha j v hj=>by cases ha; rw[Addr.add_lit,Nat.zero_add]; exact hcell j v hj) hvcell hvone).mono ?_;rintro e' W' ⟨R,rfl,rfl,hRs⟩;have hGn:i+1<=grownCap W (i+1) cap 64:=grownCap_ge W _ _ _;refine⟨W.heap.size,_,_,rfl,⟨rfl,rfl,rfl,by simp⟩,fun b hb _=> ?_,World.alloc_heap_new W.drew _,.inr (war _),hGn,grownCap_le_maxLen W (i+1) cap 64 (by unfold maxLen; omega),?_,?_⟩
    ·show(W.heap.push _)[b]? =_;rw[Array.getElem?_push,if_neg (by omega)]
    ·rw[Array.size_append,hRs]; simp only[List.size_toArray,waa,hclen,hvlen]; omega
    ·rw[Array.toList_append]; exact List.take_left' (by simp only[waa,hclen,hvlen]; omega)
   ·refine(insAItem g i cap vb 1 vcap vs W (by omega) h' hmx hvlen (fun j hj=>hsp _ (by omega)) (fun j hj=>hfz _) hvcell hvone).mono ?_;rintro e' W' ⟨rfl,hW⟩;rw[Nat.zero_add]at hW;have h1:=zoK g vs (i*35) W _ _ _ hg;obtain⟨r1,r2,r3,r4⟩:=zlI g vs (i*35) W;rw[<-hW]at h1 r1 r2 r3 r4;refine⟨g,cap,_,rfl,⟨r1,r2,r3,by rw[r4]; exact war _⟩,fun b hb hbg=> ?_,h1,.inl rfl,h',hcap,by rw[ztU,hcur],?_⟩
    ·rw[hW,zlH _ _ _ _ b hbg]
    ·have hp:=putL1 cur (i*35) vs (by rw[hvlen,hcur]; omega);have hct':c.take (i*35)=c:=wag (by omega);rw[hvlen,hct,hct']at hp;rw[show(i+1)*35=i*35+1*35 by omega];exact hp
 at0:=by
  intro W ad vb vcap vcur hvg hvc hvcur hvone;obtain⟨vs,hvs⟩: ∃vs,vcur.toList.take 35=vs:=⟨_,rfl⟩;rw[hvs]at hvone ⊢;have hvlen:vs.length=1*35:=by rw[<-hvs,waf]; exact Nat.min_eq_left (by show _<=vcur.size; omega)
  have hvcell: ∀j v,vs[j]? =some v->W.cell? ⟨vb,j,none⟩=some v:=fun j v hj=>by
   rw[<-hvs,List.getElem?_take]at hj;split at hj
   ·rw[<-hj]; simp[World.cell?,hvg]
   ·cases hj
  refine(insBItem ad 0 0 vb 1 vcap [] vs W (by omega) (war _) (by omega) (by omega) (by simp) hvlen (fun _=>rfl) (by simp) hvcell hvone).mono ?_;rintro e' W' ⟨R,rfl,rfl,hRs⟩;have hGn:0+1<=grownCap W (0+1) 0 64:=grownCap_ge W _ _ _;refine⟨W.heap.size,_,_,rfl,⟨rfl,rfl,rfl,by simp⟩,fun b hb _=> ?_,World.alloc_heap_new W.drew _,.inr (war _),hGn,grownCap_le_maxLen W (0+1) 0 64 (by unfold maxLen; omega),?_,?_⟩
  ·show(W.heap.push _)[b]? =_;rw[Array.getElem?_push,if_neg (by omega)]
  ·rw[Array.size_append,hRs]; simp only[List.size_toArray,waa,wad,hvlen]; omega
  ·rw[Array.toList_append]; exact List.take_left' (by simp[hvlen])}
end
section
open Go.Aw Go.Sort Go.RowKit Go.Lib Go.Shelf
set_option maxRecDepth 1000000
variable {α:Type} [Inhabited α]
structure Frm (W wr:World) (g:Nat) (e:TypeId) (sz:Nat):Prop where
 os:wr.os=W.os
 tape:wr.tape=W.tape
 output:wr.output=W.output
 size:W.heap.size<=wr.heap.size
 same: ∀b,b<W.heap.size->b≠g->wr.heap[b]? =W.heap[b]?
 cells: ∃cur,wr.heap[g]? =some (.cells cur e (0,0))/\cur.size=sz
theorem Frm.grow{W wr:World}{g:Nat}{e:TypeId}{sz:Nat}(h:Frm W wr g e sz)(hg:g<W.heap.size)(q:Nat)(os':Array Obj):Frm W (grow (wr.drewN q) os') g e sz:=by
 have hb: ∀b,b<wr.heap.size->(Go.Sort.grow (wr.drewN q) os').heap[b]? =wr.heap[b]? :=fun b hb=>by
  show(wr.heap++os')[b]? =_;rw[Array.getElem?_append_left hb]
 have hgw:g<wr.heap.size:=waq hg h.size;refine⟨h.os,h.tape,h.output,wap h.size (by show wr.heap.size<=(wr.heap++os').size; simp),fun b hlt hne=> ?_,?_⟩
 ·rw[hb b (waq hlt h.size),h.same b hlt hne]
 ·rw[hb g hgw]; exact h.cells
theorem Frm.put{W wr:World}{g:Nat}{e:TypeId}{sz:Nat}(h:Frm W wr g e sz)(o:Nat)(vs:List Value):Frm W (wr.setCells g o vs) g e sz:=by
 obtain⟨r1,r2,r3,r4⟩:=zlI g vs o wr;obtain⟨cur,h1,h2⟩:=h.cells;exact⟨r1.trans h.os,r2.trans h.tape,r3.trans h.output,by rw[r4]; exact h.size,fun b hlt hne=>by rw[zlH g vs o wr b hne]; exact h.same b hlt hne,_,zoK g vs o wr cur e (0,0) h1,by rw[ztU]; exact h2⟩
theorem Frm.drew{W wr:World}{g:Nat}{e:TypeId}{sz:Nat}(h:Frm W wr g e sz):Frm W wr.drew g e sz:=⟨h.os,h.tape,h.output,h.size,h.same,h.cells⟩
theorem zb3{enc:α->List Value}{k:Nat}{wr:World}{g off:Nat}{d:Array α}(h:HoldsK enc k wr g off d)(hg:g<wr.heap.size)(q:Nat)(os':Array Obj):HoldsK enc k (grow (wr.drewN q) os') g off d:=by
 refine holdsK_grow enc k (wr.drewN q) os' g off d hg ?_;exact h
theorem setMany_set(enc:α->List Value)(k:Nat)(hk: ∀x,(enc x).length =k)(d:Array α)(i:Nat)(x:α)(hi:i<d.size):setMany (flatK enc k d) (i*k) (enc x)=flatK enc k (d.setIfInBounds i x):=by
 have hb:i*k+k<=d.size*k:=by have:=Nat.mul_le_mul_right k (show i+1<=d.size from hi); rwa [Nat.add_mul,Nat.one_mul]at this
 apply Array.ext
 ·simp
 ·intro t h1 h2;have ht:t<d.size*k:=by simpa using h1
  have hk0:0<k:=Nat.pos_of_ne_zero fun h=>by subst h; simp at ht
  rw[<-getElem!_pos _ t h1,<-getElem!_pos _ t h2,get_setMany _ _ _ t (by simpa using ht),get_flatK _ _ _ t ht,get_flatK _ _ _ t (by simpa using ht),hk];have hd:t / k<d.size:=Nat.div_lt_of_lt_mul (by rw[Nat.mul_comm]; exact ht);by_cases e:t / k=i
  ·have h3:i*k<=t/\t<i*k+k:=by
    have a1:=Nat.div_add_mod t k;have a2:=Nat.mod_lt t hk0;rw[e,Nat.mul_comm]at a1;omega
   rw[if_pos h3];have h4:t-i*k=t % k:=by
    have a1:=Nat.div_add_mod t k;rw[e,Nat.mul_comm]at a1;omega
   have hx:(d.setIfInBounds i x)[i]! =x:=by
    rw[getElem!_pos (d.setIfInBounds i x) i (by simpa using hi)];simp
   rw[h4,e,hx]
  ·have h3: ¬(i*k<=t/\t<i*k+k):=fun⟨a,b⟩=>e (by
    apply Nat.div_eq_of_lt_le
    ·exact a
    ·rw[Nat.add_mul,Nat.one_mul]; exact b)
   have hx:(d.setIfInBounds i x)[t / k]! =d[t / k]! :=by
    rw[getElem!_pos (d.setIfInBounds i x) (t / k) (by simpa using hd),getElem!_pos d (t / k) hd];exact Array.getElem_setIfInBounds_ne _ (Ne.symm e)
   rw[if_neg h3,hx]
theorem zvA{enc:α->List Value}{k:Nat}(hk: ∀x,(enc x).length =k){W:World}{g off:Nat}{d:Array α}(h:HoldsK enc k W g off d)(i:Nat)(x:α)(hi:i<d.size):HoldsK enc k (W.setCells g (off+i*k) (enc x)) g off (d.setIfInBounds i x):=by
 have hb:i*k+k<=d.size*k:=by have:=Nat.mul_le_mul_right k (show i+1<=d.size from hi); rwa [Nat.add_mul,Nat.one_mul]at this
 unfold HoldsK;rw[<-setMany_set enc k hk d i x hi];exact holds_setCells_c h (i*k) (enc x) (by rw[hk,size_flatK]; exact hb)
theorem zua{P:Program}(w:World)(t e ty:TypeId)(z:Value)(ht:P.underlying t=some (.slice e))(hv: ∀w,(zeroValue e).run P w= .ok z w)(b o n c:Nat)(hn:0<n)(h1: ∀v∈(Builtin.zeroCells z.cells n).toList,v.oneCell'=true)
  (hc: ∀j,j<(Builtin.zeroCells z.cells n).toList.length ->(w.cell? ⟨b,o+j,none⟩).isSome =true) (hf: ∀j,j<(Builtin.zeroCells z.cells n).toList.length ->w.frozen? ⟨b,o+j,none⟩=false):
  (Builtin.clear_ #[t] ty #[.slice (some ⟨b,o,none⟩) n c]).run P w= .ok (.tuple #[]) (w.setCells b o (Builtin.zeroCells z.cells n).toList):=by
 have hst:=run_storeCells_cells (P:=P) b o (Builtin.zeroCells z.cells n).toList 0 w (by simpa using hc) (by simpa using hf) h1;simp only[Nat.add_zero]at hst;obtain⟨m,rfl⟩: ∃m,n=m+1:=⟨n-1,by omega⟩;simp[Builtin.clear_,run_underlying ht,hv,hst]
theorem zpR{cells:Array Value}(h0:0<cells.size)(h: ∀v∈cells.toList,v.oneCell'=true)(n:Nat): ∀v∈(Builtin.zeroCells cells n).toList,v.oneCell'=true:=by
 intro v hv;simp only[Builtin.zeroCells,Array.toList_map,List.mem_map]at hv;obtain⟨i,_,rfl⟩:=hv;have hi:i % cells.size<cells.size:=Nat.mod_lt _ h0;rw[getElem!_pos cells _ hi];exact h _ (by simp)
structure Hc (p:Prop):Prop where
 out:p
def CompQ(d:Array α)(ef:α->α->Bool)(W:World)(g off cap:Nat)(e:TypeId)(sz:Nat)(e':Ending)(W':World):Prop:=
 ∃m:Nat,e'= .returned (.slice (some ⟨g,off,none⟩) m cap)/\Frm W W' g e sz/\((m=d.size/\ ∀j,j+1<d.size->ef d[j+1]! d[j]! =false)\/(m<d.size/\ ∃j,j+1<d.size/\ef d[j+1]! d[j]! =true))
set_option maxHeartbeats 8000000 in
theorem zwJ{P:Program}(hP:prog=P)(enc:α->List Value)(k:Nat)(hk2:k=35)(hk: ∀x,(enc x).length =k)(h1: ∀x,∀v∈enc x,v.oneCell'=true)(ef:α->α->Bool)(gf:Nat)(cb:Array Value)(g off cap sz:Nat)(d:Array α)(W:World)
  (eg: ∀args w,(callFunc gf args).run P w= .ok (.enter gf args) w)
  (hcmp: ∀wr,Frm W wr g 64 sz-> ∀x y:α,Calls P gf (#[.agg (enc x).toArray,.agg (enc y).toArray]++cb) wr fun e w'=>e= .returned (.bool (ef x y))/\ ∃q os',w'=grow (wr.drewN q) os')
  (hH:HoldsK enc k W g off d) (hg: ∃cur,W.heap[g]? =some (.cells cur 64 (0,0))/\cur.size=sz) (hcap:d.size<=cap) (hmx:cap<=9223372036854775807) (hsz:d.size<4611686018427387904):
  Calls P 108 #[.slice (some ⟨g,off,none⟩) d.size cap,.func (.func gf) #[] cb] W (CompQ d ef W g off cap 64 sz):=by
 have F:=func108;have zat:=zat;have t0:=underlying0; have a0:=isAgg0; have z0:=sizeOf0; have v0:=zeroValue0;have t3:=underlying3; have a3:=isAgg3; have z3:=sizeOf3; have v3:=zeroValue3;have t4:=underlying4; have a4:=isAgg4; have z4:=sizeOf4; have v4:=zeroValue4;have tS:=underlying51; have aS:=isAgg51; have zS:=sizeOf51; have vS:=zeroValue51;have aE:=isAgg64; have zE:=sizeOf64;have uS:=run_underlying tS;obtain⟨i0,zz,_,hi0,hz0,hzc,_,_,_⟩:=zeW tA51;have hz0v: ∀w,(zeroValue 64).run prog w= .ok zz w:=fun w=>by simp[zeroValue,typeInfo,hi0,hz0]
 have hz1: ∀v∈zz.cells.toList,v.oneCell'=true:=by
  have h0:=zeroValue64 W;rw[hz0v W]at h0;cases h0;rw[<-List.all_eq_true];kernel_rfl
 have ZV:Hc (∀w,(zeroValue 64).run P w= .ok zz w):=⟨by rw[<-hP]; exact hz0v⟩;have ZS:Hc (zz.cells.size=k):=⟨by rw[hk2]; exact hzc⟩;have ZO:Hc (∀n,∀v∈(Builtin.zeroCells zz.cells n).toList,v.oneCell'=true):=⟨fun n=>zpR (by rw[hzc]; omega) hz1 n⟩;clear hi0 hz0 hzc hz0v hz1;rw[<-hk2]at zE;rw[hP]at F zat t0 a0 z0 v0 t3 a3 z3 v3 t4 a4 z4 v4 tS aS zS vS aE zE uS;clear hk2;obtain⟨cur,hg1,hg2⟩:=hg;have hgW:g<W.heap.size:=(Array.getElem?_eq_some_iff.1 hg1).1;have F0:Frm W W g 64 sz:=⟨rfl,rfl,rfl,war _,fun _ _ _=>rfl,cur,hg1,hg2⟩;have HC:Hc (∀wr,Frm W wr g 64 sz-> ∀x y:α,Calls P gf (#[.agg (enc x).toArray,.agg (enc y).toArray]++cb) wr fun e w'=>e= .returned (.bool (ef x y))/\ ∃q os',w'=grow (wr.drewN q) os'):=⟨hcmp⟩;have HK:Hc (∀x,(enc x).length =k):=⟨hk⟩;have H1:Hc (∀x,∀v∈enc x,v.oneCell'=true):=⟨h1⟩;have HF0:Hc (Frm W W g 64 sz):=⟨F0⟩;have HH0:Hc (HoldsK enc k W g off d):=⟨hH⟩;clear hcmp hk h1 F0 hH hg1 hg2;by_cases h2:d.size<2
 ·have h2z:(d.size:Int)<2:=by omega
  go_enter F,ntmps108
  go_wp2;go_ret;exact⟨d.size,rfl,HF0.out,.inl ⟨rfl,fun j hj=>by omega⟩⟩
 ·have h2z: ¬(d.size:Int)<2:=by omega
  go_enter F,ntmps108
  go_wp2
  go_loopg [5] d.size (fun g1 s5 wr=> ∃kk:Nat,1<=kk/\kk<=d.size/\d.size-kk<=g1/\s5= .int .i64 kk/\Hc (HoldsK enc k wr g off d)/\Hc (Frm W wr g 64 sz)/\Hc (∀j,j+1<kk->ef d[j+1]! d[j]! =false))
  case atStart=>exact⟨1,war _,by omega,by omega,rfl,HH0,HF0,⟨fun j hj=>by omega⟩⟩
  case round=>
   obtain⟨kk,hk1,hkn,hg1,rfl,HH,HF,HA⟩:=hrel;by_cases hlt:kk<d.size
   ·obtain⟨jp,rfl⟩: ∃jp,kk=jp+1:=⟨kk-1,by omega⟩;obtain⟨xj,hxj⟩: ∃x,d[jp+1]! =x:=⟨_,rfl⟩;obtain⟨xp,hxp⟩: ∃x,d[jp]! =x:=⟨_,rfl⟩;have hwp:IntKind.i64.wrap (jp:Int)=(jp:Int):=(by rw[IntKind.wrap_i64]; omega);have jz:(jp:Int)+1<(d.size:Int):=(by omega);have jz1:(jp:Int)<(d.size:Int):=(by omega);have p0:(0:Int)<=(jp:Int)+1:=(by omega);have e0:((jp:Int)+1).toNat =jp+1:=(by omega);have hgw:g<wr.heap.size:=waq hgW HF.out.size;have lj: ∀n' os',Sem.run P (loadCellsFrom ⟨g,off+(jp+1)*k,none⟩ 0 k #[]) (grow (wr.drewN n') os')= .ok (enc xj).toArray (grow (wr.drewN n') os'):=fun n' os'=>by
     rw[<-hxj]; exact run_loadCellsFrom_list P _ _ _ k (HK.out _) (HoldsK.cells (zb3 HH.out hgw n' os') HK.out (by omega))
    have lp: ∀n' os',Sem.run P (loadCellsFrom ⟨g,off+jp*k,none⟩ 0 k #[]) (grow (wr.drewN n') os')= .ok (enc xp).toArray (grow (wr.drewN n') os'):=fun n' os'=>by
     rw[<-hxp]; exact run_loadCellsFrom_list P _ _ _ k (HK.out _) (HoldsK.cells (zb3 HH.out hgw n' os') HK.out (by omega))
    have hcg: ∀n' os',Calls P gf (#[.agg (enc xj).toArray,.agg (enc xp).toArray]++cb) (grow (wr.drewN n') os') fun e w'=>e= .returned (.bool (ef xj xp))/\ ∃q os'',w'=grow ((grow (wr.drewN n') os').drewN q) os'':=fun n' os'=>
     HC.out _ (HF.out.grow hgW n' os') xj xp
    have HX:Hc (d[jp+1]! =xj/\d[jp]! =xp):=⟨hxj,hxp⟩;clear hxj hxp;cases hev:ef xj xp with
    | false=>
     rw[hev]at hcg
     go_wp2_with fail
     go_quiet_grown (first | (go_at_fn gf; refine Calls.grown_of (hcg _ _)))
     go_wp2
     go_roundg (d.size-(jp+1+1))
     case measure=>omega
     case rel=>
      refine⟨jp+1+1,by omega,by omega,war _,by go_num,⟨zb3 HH.out hgw _ _⟩,⟨HF.out.grow hgW _ _⟩,⟨fun j hj=> ?_⟩⟩;by_cases e:j=jp
      ·subst e; rw[HX.out.1,HX.out.2]; exact hev
      ·exact HA.out j (by omega)
    | true=>
     rw[hev]at hcg;have hck: ¬(cap=jp+1):=by omega
     go_wp2_with fail
     go_quiet_grown (first | (go_at_fn gf; refine Calls.grown_of (hcg _ _)))
     go_wp2;have HD:Hc (ef d[jp+1]! d[jp]! =true):=⟨by rw[HX.out.1,HX.out.2]; exact hev⟩;have HH2:=zb3 HH.out hgw nq osq;have HF2:=HF.out.grow hgW nq osq;clear lj lp hcg hev HX HA hgw;generalize grow (wr.drewN nq) osq=wq at HH2 HF2 ⊢;have HH3:Hc (HoldsK enc k wq g off d):=⟨HH2⟩;have HF3:Hc (Frm W wq g 64 sz):=⟨HF2⟩;clear HH2 HF2 HH HF
     go_loopg [5,7] d.size (fun g2 s5 s7 wr=> ∃(k5 k7:Nat),s5= .int .i64 k5/\s7= .int .i64 k7/\1<=k5/\1<=k7/\k5<=jp+k7/\jp+1+k7<=d.size/\d.size-(jp+1+k7)<=g2/\ ∃dk:Array α,dk.size=d.size/\Hc (HoldsK enc k wr g off dk)/\Hc (Frm W wr g 64 sz))
     case atStart=>exact⟨jp+1,1,by go_num,rfl,by omega,war _,by omega,by omega,by omega,d,rfl,HH3,HF3⟩
     case round=>
      obtain⟨k5,k7,rfl,rfl,h51,h71,h57,hle,hg2,dk,hdk,HH,HF⟩:=hrel;by_cases hlt2:jp+1+k7<d.size
      ·obtain⟨q,rfl⟩: ∃q,k7=q+1:=⟨k7-1,by omega⟩;obtain⟨xj,hxj⟩: ∃x,dk[jp+1+(q+1)]! =x:=⟨_,rfl⟩;obtain⟨xp,hxp⟩: ∃x,dk[jp+1+q]! =x:=⟨_,rfl⟩;have hwq:IntKind.i64.wrap (q:Int)=(q:Int):=(by rw[IntKind.wrap_i64]; omega);have qz:(q:Int)+1<((d.size-(jp+1):Nat):Int):=(by omega);have qz1:(q:Int)<((d.size-(jp+1):Nat):Int):=(by omega);have q0:(0:Int)<=(q:Int)+1:=(by omega);have qe0:((q:Int)+1).toNat =q+1:=(by omega);have hgw:g<wr.heap.size:=waq hgW HF.out.size;have ea:off+(jp+1)*k+(q+1)*k=off+(jp+1+(q+1))*k:=(by rw[Nat.add_mul (jp+1) (q+1) k]; omega);have eb:off+(jp+1)*k+q*k=off+(jp+1+q)*k:=(by rw[Nat.add_mul (jp+1) q k]; omega);have lj: ∀n' os',Sem.run P (loadCellsFrom ⟨g,off+(jp+1)*k+(q+1)*k,none⟩ 0 k #[]) (grow (wr.drewN n') os')= .ok (enc xj).toArray (grow (wr.drewN n') os'):=fun n' os'=>by
        rw[ea,<-hxj]; exact run_loadCellsFrom_list P _ _ _ k (HK.out _) (HoldsK.cells (zb3 HH.out hgw n' os') HK.out (by omega))
       have lp: ∀n' os',Sem.run P (loadCellsFrom ⟨g,off+(jp+1)*k+q*k,none⟩ 0 k #[]) (grow (wr.drewN n') os')= .ok (enc xp).toArray (grow (wr.drewN n') os'):=fun n' os'=>by
        rw[eb,<-hxp]; exact run_loadCellsFrom_list P _ _ _ k (HK.out _) (HoldsK.cells (zb3 HH.out hgw n' os') HK.out (by omega))
       have hcg: ∀n' os',Calls P gf (#[.agg (enc xj).toArray,.agg (enc xp).toArray]++cb) (grow (wr.drewN n') os') fun e w'=>e= .returned (.bool (ef xj xp))/\ ∃q os'',w'=grow ((grow (wr.drewN n') os').drewN q) os'':=fun n' os'=>
        HC.out _ (HF.out.grow hgW n' os') xj xp
       clear ea eb;cases hev:ef xj xp with
       | true=>
        rw[hev]at hcg
        go_wp2_with fail
        go_quiet_grown (first | (go_at_fn gf; refine Calls.grown_of (hcg _ _)))
        go_wp2
        go_roundg (d.size-(jp+1+(q+1+1)))
        case measure=>omega
        case rel=>exact⟨k5,q+1+1,rfl,by go_num,h51,by omega,by omega,by omega,war _,dk,hdk,⟨zb3 HH.out hgw _ _⟩,⟨HF.out.grow hgW _ _⟩⟩
       | false=>
        rw[hev]at hcg
        go_wp2_with fail
        go_quiet_grown (first | (go_at_fn gf; refine Calls.grown_of (hcg _ _)))
        have HHn:Hc (HoldsK enc k (grow (wr.drewN nq) osq) g off dk):=⟨zb3 HH.out hgw nq osq⟩;have HFn:Hc (Frm W (grow (wr.drewN nq) osq) g 64 sz):=⟨HF.out.grow hgW nq osq⟩;have l2:=lj nq osq;clear lj lp hcg;generalize grow (wr.drewN nq) osq=wq2 at HHn HFn l2 ⊢;have hb5:k5*k+k<=dk.size*k:=(by have:=Nat.mul_le_mul_right k (show k5+1<=dk.size by omega); rwa [Nat.add_mul,Nat.one_mul]at this);have s1:Sem.run P (storeCells ⟨g,off+k5*k,none⟩ (enc xj) 0) wq2= .ok () (wq2.setCells g (off+k5*k) (enc xj)):=stores_of_holds P HHn.out (k5*k) _ (by rw[HK.out,size_flatK]; exact hb5) (H1.out _);have k5z:(k5:Int)<(d.size:Int):=(by omega);have hsJ:(enc xj).length =k:=HK.out _;clear hb5;go_wp2
        go_roundg (d.size-(jp+1+(q+1+1)))
        case measure=>omega
        case rel=>exact⟨k5+1,q+1+1,by go_num,by go_num,by omega,by omega,by omega,by omega,war _,dk.setIfInBounds k5 xj,by simpa using hdk,⟨zvA HK.out HHn.out k5 xj (by omega)⟩,⟨HFn.out.put _ _⟩⟩
      ·have hend:jp+1+k7=d.size:=(by omega);have k5z:(k5:Int)<=(d.size:Int):=(by omega);have hck5: ¬(cap=k5):=(by omega);have k5c:k5<=cap:=(by omega);have hz: ∀n,(Builtin.zeroCells zz.cells n).toList.length =n*k:=fun n=>by simp[Builtin.zeroCells,ZS.out]
       have hcl: ∀ty c,(Builtin.clear_ #[51] ty #[.slice (some ⟨g,off+k5*k,none⟩) (d.size-k5) c]).run P wr= .ok (.tuple #[]) (wr.setCells g (off+k5*k) (Builtin.zeroCells zz.cells (d.size-k5)).toList):=fun ty c=>by
        have hb5: ∀j,j<(d.size-k5)*k->k5*k+j<dk.size*k:=fun j hj=>by
         have:k5*k+(d.size-k5)*k=dk.size*k:=(by rw[<-Nat.add_mul]; congr 1; omega);omega
        refine zua wr _ _ ty zz tS ZV.out g _ _ c (by omega) (ZO.out _) (fun j hj=> ?_) (fun j hj=> ?_)
        ·rw[hz]at hj;rw[Nat.add_assoc,(HH.out (k5*k+j) (by rw[size_flatK]; exact hb5 j hj)).1]; rfl
        ·rw[hz]at hj;rw[Nat.add_assoc]; exact(HH.out (k5*k+j) (by rw[size_flatK]; exact hb5 j hj)).2
       obtain⟨ZL,hZL⟩: ∃ZL,(Builtin.zeroCells zz.cells (d.size-k5)).toList =ZL:=⟨_,rfl⟩;rw[hZL]at hcl;clear hz hZL;go_wp2;go_ret;exact⟨k5,rfl,HF.out.put _ _,.inr ⟨by omega,jp,by omega,HD.out⟩⟩
   ·have:kk=d.size:=(by omega);subst this;go_wp2;go_ret;exact⟨d.size,rfl,HF.out,.inl ⟨rfl,HA.out⟩⟩
set_option maxHeartbeats 8000000 in
theorem zsn{P:Program}(hP:prog=P)(enc:α->List Value)(k:Nat)(hk2:k=4)(hk: ∀x,(enc x).length =k)(h1: ∀x,∀v∈enc x,v.oneCell'=true)(ef:α->α->Bool)(gf:Nat)(cb:Array Value)(g off cap sz:Nat)(d:Array α)(W:World)
  (eg: ∀args w,(callFunc gf args).run P w= .ok (.enter gf args) w)
  (hcmp: ∀wr,Frm W wr g 53 sz-> ∀x y:α,Calls P gf (#[.agg (enc x).toArray,.agg (enc y).toArray]++cb) wr fun e w'=>e= .returned (.bool (ef x y))/\ ∃q os',w'=grow (wr.drewN q) os')
  (hH:HoldsK enc k W g off d) (hg: ∃cur,W.heap[g]? =some (.cells cur 53 (0,0))/\cur.size=sz) (hcap:d.size<=cap) (hmx:cap<=9223372036854775807) (hsz:d.size<4611686018427387904):
  Calls P 113 #[.slice (some ⟨g,off,none⟩) d.size cap,.func (.func gf) #[] cb] W (CompQ d ef W g off cap 53 sz):=by
 have F:=func113;have zat:=zat;have t0:=underlying0; have a0:=isAgg0; have z0:=sizeOf0; have v0:=zeroValue0;have t3:=underlying3; have a3:=isAgg3; have z3:=sizeOf3; have v3:=zeroValue3;have t4:=underlying4; have a4:=isAgg4; have z4:=sizeOf4; have v4:=zeroValue4;have tS:=underlying28; have aS:=isAgg28; have zS:=sizeOf28; have vS:=zeroValue28;have aE:=isAgg53; have zE:=sizeOf53;have uS:=run_underlying tS;obtain⟨i0,zz,_,hi0,hz0,hzc,_,_,_⟩:=zeW tA28;have hz0v: ∀w,(zeroValue 53).run prog w= .ok zz w:=fun w=>by simp[zeroValue,typeInfo,hi0,hz0]
 have hz1: ∀v∈zz.cells.toList,v.oneCell'=true:=by
  have h0:=zeroValue53 W;rw[hz0v W]at h0;cases h0;rw[<-List.all_eq_true];kernel_rfl
 have ZV:Hc (∀w,(zeroValue 53).run P w= .ok zz w):=⟨by rw[<-hP]; exact hz0v⟩;have ZS:Hc (zz.cells.size=k):=⟨by rw[hk2]; exact hzc⟩;have ZO:Hc (∀n,∀v∈(Builtin.zeroCells zz.cells n).toList,v.oneCell'=true):=⟨fun n=>zpR (by rw[hzc]; omega) hz1 n⟩;clear hi0 hz0 hzc hz0v hz1;rw[<-hk2]at zE;rw[hP]at F zat t0 a0 z0 v0 t3 a3 z3 v3 t4 a4 z4 v4 tS aS zS vS aE zE uS;clear hk2;obtain⟨cur,hg1,hg2⟩:=hg;have hgW:g<W.heap.size:=(Array.getElem?_eq_some_iff.1 hg1).1;have F0:Frm W W g 53 sz:=⟨rfl,rfl,rfl,war _,fun _ _ _=>rfl,cur,hg1,hg2⟩;have HC:Hc (∀wr,Frm W wr g 53 sz-> ∀x y:α,Calls P gf (#[.agg (enc x).toArray,.agg (enc y).toArray]++cb) wr fun e w'=>e= .returned (.bool (ef x y))/\ ∃q os',w'=grow (wr.drewN q) os'):=⟨hcmp⟩;have HK:Hc (∀x,(enc x).length =k):=⟨hk⟩;have H1:Hc (∀x,∀v∈enc x,v.oneCell'=true):=⟨h1⟩;have HF0:Hc (Frm W W g 53 sz):=⟨F0⟩;have HH0:Hc (HoldsK enc k W g off d):=⟨hH⟩;clear hcmp hk h1 F0 hH hg1 hg2;by_cases h2:d.size<2
 ·have h2z:(d.size:Int)<2:=by omega
  go_enter F,ntmps113
  go_wp2;go_ret;exact⟨d.size,rfl,HF0.out,.inl ⟨rfl,fun j hj=>by omega⟩⟩
 ·have h2z: ¬(d.size:Int)<2:=by omega
  go_enter F,ntmps113
  go_wp2
  go_loopg [5] d.size (fun g1 s5 wr=> ∃kk:Nat,1<=kk/\kk<=d.size/\d.size-kk<=g1/\s5= .int .i64 kk/\Hc (HoldsK enc k wr g off d)/\Hc (Frm W wr g 53 sz)/\Hc (∀j,j+1<kk->ef d[j+1]! d[j]! =false))
  case atStart=>exact⟨1,war _,by omega,by omega,rfl,HH0,HF0,⟨fun j hj=>by omega⟩⟩
  case round=>
   obtain⟨kk,hk1,hkn,hg1,rfl,HH,HF,HA⟩:=hrel;by_cases hlt:kk<d.size
   ·obtain⟨jp,rfl⟩: ∃jp,kk=jp+1:=⟨kk-1,by omega⟩;obtain⟨xj,hxj⟩: ∃x,d[jp+1]! =x:=⟨_,rfl⟩;obtain⟨xp,hxp⟩: ∃x,d[jp]! =x:=⟨_,rfl⟩;have hwp:IntKind.i64.wrap (jp:Int)=(jp:Int):=(by rw[IntKind.wrap_i64]; omega);have jz:(jp:Int)+1<(d.size:Int):=(by omega);have jz1:(jp:Int)<(d.size:Int):=(by omega);have p0:(0:Int)<=(jp:Int)+1:=(by omega);have e0:((jp:Int)+1).toNat =jp+1:=(by omega);have hgw:g<wr.heap.size:=waq hgW HF.out.size;have lj: ∀n' os',Sem.run P (loadCellsFrom ⟨g,off+(jp+1)*k,none⟩ 0 k #[]) (grow (wr.drewN n') os')= .ok (enc xj).toArray (grow (wr.drewN n') os'):=fun n' os'=>by
     rw[<-hxj]; exact run_loadCellsFrom_list P _ _ _ k (HK.out _) (HoldsK.cells (zb3 HH.out hgw n' os') HK.out (by omega))
    have lp: ∀n' os',Sem.run P (loadCellsFrom ⟨g,off+jp*k,none⟩ 0 k #[]) (grow (wr.drewN n') os')= .ok (enc xp).toArray (grow (wr.drewN n') os'):=fun n' os'=>by
     rw[<-hxp]; exact run_loadCellsFrom_list P _ _ _ k (HK.out _) (HoldsK.cells (zb3 HH.out hgw n' os') HK.out (by omega))
    have hcg: ∀n' os',Calls P gf (#[.agg (enc xj).toArray,.agg (enc xp).toArray]++cb) (grow (wr.drewN n') os') fun e w'=>e= .returned (.bool (ef xj xp))/\ ∃q os'',w'=grow ((grow (wr.drewN n') os').drewN q) os'':=fun n' os'=>
     HC.out _ (HF.out.grow hgW n' os') xj xp
    have HX:Hc (d[jp+1]! =xj/\d[jp]! =xp):=⟨hxj,hxp⟩;clear hxj hxp;cases hev:ef xj xp with
    | false=>
     rw[hev]at hcg
     go_wp2_with fail
     go_quiet_grown (first | (go_at_fn gf; refine Calls.grown_of (hcg _ _)))
     go_wp2
     go_roundg (d.size-(jp+1+1))
     case measure=>omega
     case rel=>
      refine⟨jp+1+1,by omega,by omega,war _,by go_num,⟨zb3 HH.out hgw _ _⟩,⟨HF.out.grow hgW _ _⟩,⟨fun j hj=> ?_⟩⟩;by_cases e:j=jp
      ·subst e; rw[HX.out.1,HX.out.2]; exact hev
      ·exact HA.out j (by omega)
    | true=>
     rw[hev]at hcg;have hck: ¬(cap=jp+1):=by omega
     go_wp2_with fail
     go_quiet_grown (first | (go_at_fn gf; refine Calls.grown_of (hcg _ _)))
     go_wp2;have HD:Hc (ef d[jp+1]! d[jp]! =true):=⟨by rw[HX.out.1,HX.out.2]; exact hev⟩;have HH2:=zb3 HH.out hgw nq osq;have HF2:=HF.out.grow hgW nq osq;clear lj lp hcg hev HX HA hgw;generalize grow (wr.drewN nq) osq=wq at HH2 HF2 ⊢;have HH3:Hc (HoldsK enc k wq g off d):=⟨HH2⟩;have HF3:Hc (Frm W wq g 53 sz):=⟨HF2⟩;clear HH2 HF2 HH HF
     go_loopg [5,7] d.size (fun g2 s5 s7 wr=> ∃(k5 k7:Nat),s5= .int .i64 k5/\s7= .int .i64 k7/\1<=k5/\1<=k7/\k5<=jp+k7/\jp+1+k7<=d.size/\d.size-(jp+1+k7)<=g2/\ ∃dk:Array α,dk.size=d.size/\Hc (HoldsK enc k wr g off dk)/\Hc (Frm W wr g 53 sz))
     case atStart=>exact⟨jp+1,1,by go_num,rfl,by omega,war _,by omega,by omega,by omega,d,rfl,HH3,HF3⟩
     case round=>
      obtain⟨k5,k7,rfl,rfl,h51,h71,h57,hle,hg2,dk,hdk,HH,HF⟩:=hrel;by_cases hlt2:jp+1+k7<d.size
      ·obtain⟨q,rfl⟩: ∃q,k7=q+1:=⟨k7-1,by omega⟩;obtain⟨xj,hxj⟩: ∃x,dk[jp+1+(q+1)]! =x:=⟨_,rfl⟩;obtain⟨xp,hxp⟩: ∃x,dk[jp+1+q]! =x:=⟨_,rfl⟩;have hwq:IntKind.i64.wrap (q:Int)=(q:Int):=(by rw[IntKind.wrap_i64]; omega);have qz:(q:Int)+1<((d.size-(jp+1):Nat):Int):=(by omega);have qz1:(q:Int)<((d.size-(jp+1):Nat):Int):=(by omega);have q0:(0:Int)<=(q:Int)+1:=(by omega);have qe0:((q:Int)+1).toNat =q+1:=(by omega);have hgw:g<wr.heap.size:=waq hgW HF.out.size;have ea:off+(jp+1)*k+(q+1)*k=off+(jp+1+(q+1))*k:=(by rw[Nat.add_mul (jp+1) (q+1) k]; omega);have eb:off+(jp+1)*k+q*k=off+(jp+1+q)*k:=(by rw[Nat.add_mul (jp+1) q k]; omega);have lj: ∀n' os',Sem.run P (loadCellsFrom ⟨g,off+(jp+1)*k+(q+1)*k,none⟩ 0 k #[]) (grow (wr.drewN n') os')= .ok (enc xj).toArray (grow (wr.drewN n') os'):=fun n' os'=>by
        rw[ea,<-hxj]; exact run_loadCellsFrom_list P _ _ _ k (HK.out _) (HoldsK.cells (zb3 HH.out hgw n' os') HK.out (by omega))
       have lp: ∀n' os',Sem.run P (loadCellsFrom ⟨g,off+(jp+1)*k+q*k,none⟩ 0 k #[]) (grow (wr.drewN n') os')= .ok (enc xp).toArray (grow (wr.drewN n') os'):=fun n' os'=>by
        rw[eb,<-hxp]; exact run_loadCellsFrom_list P _ _ _ k (HK.out _) (HoldsK.cells (zb3 HH.out hgw n' os') HK.out (by omega))
       have hcg: ∀n' os',Calls P gf (#[.agg (enc xj).toArray,.agg (enc xp).toArray]++cb) (grow (wr.drewN n') os') fun e w'=>e= .returned (.bool (ef xj xp))/\ ∃q os'',w'=grow ((grow (wr.drewN n') os').drewN q) os'':=fun n' os'=>
        HC.out _ (HF.out.grow hgW n' os') xj xp
       clear ea eb;cases hev:ef xj xp with
       | true=>
        rw[hev]at hcg
        go_wp2_with fail
        go_quiet_grown (first | (go_at_fn gf; refine Calls.grown_of (hcg _ _)))
        go_wp2
        go_roundg (d.size-(jp+1+(q+1+1)))
        case measure=>omega
        case rel=>exact⟨k5,q+1+1,rfl,by go_num,h51,by omega,by omega,by omega,war _,dk,hdk,⟨zb3 HH.out hgw _ _⟩,⟨HF.out.grow hgW _ _⟩⟩
       | false=>
        rw[hev]at hcg
        go_wp2_with fail
        go_quiet_grown (first | (go_at_fn gf; refine Calls.grown_of (hcg _ _)))
        have HHn:Hc (HoldsK enc k (grow (wr.drewN nq) osq) g off dk):=⟨zb3 HH.out hgw nq osq⟩;have HFn:Hc (Frm W (grow (wr.drewN nq) osq) g 53 sz):=⟨HF.out.grow hgW nq osq⟩;have l2:=lj nq osq;clear lj lp hcg;generalize grow (wr.drewN nq) osq=wq2 at HHn HFn l2 ⊢;have hb5:k5*k+k<=dk.size*k:=(by have:=Nat.mul_le_mul_right k (show k5+1<=dk.size by omega); rwa [Nat.add_mul,Nat.one_mul]at this);have s1:Sem.run P (storeCells ⟨g,off+k5*k,none⟩ (enc xj) 0) wq2= .ok () (wq2.setCells g (off+k5*k) (enc xj)):=stores_of_holds P HHn.out (k5*k) _ (by rw[HK.out,size_flatK]; exact hb5) (H1.out _);have k5z:(k5:Int)<(d.size:Int):=(by omega);have hsJ:(enc xj).length =k:=HK.out _;clear hb5;go_wp2
        go_roundg (d.size-(jp+1+(q+1+1)))
        case measure=>omega
        case rel=>exact⟨k5+1,q+1+1,by go_num,by go_num,by omega,by omega,by omega,by omega,war _,dk.setIfInBounds k5 xj,by simpa using hdk,⟨zvA HK.out HHn.out k5 xj (by omega)⟩,⟨HFn.out.put _ _⟩⟩
      ·have hend:jp+1+k7=d.size:=(by omega);have k5z:(k5:Int)<=(d.size:Int):=(by omega);have hck5: ¬(cap=k5):=(by omega);have k5c:k5<=cap:=(by omega);have hz: ∀n,(Builtin.zeroCells zz.cells n).toList.length =n*k:=fun n=>by simp[Builtin.zeroCells,ZS.out]
       have hcl: ∀ty c,(Builtin.clear_ #[28] ty #[.slice (some ⟨g,off+k5*k,none⟩) (d.size-k5) c]).run P wr= .ok (.tuple #[]) (wr.setCells g (off+k5*k) (Builtin.zeroCells zz.cells (d.size-k5)).toList):=fun ty c=>by
        have hb5: ∀j,j<(d.size-k5)*k->k5*k+j<dk.size*k:=fun j hj=>by
         have:k5*k+(d.size-k5)*k=dk.size*k:=(by rw[<-Nat.add_mul]; congr 1; omega);omega
        refine zua wr _ _ ty zz tS ZV.out g _ _ c (by omega) (ZO.out _) (fun j hj=> ?_) (fun j hj=> ?_)
        ·rw[hz]at hj;rw[Nat.add_assoc,(HH.out (k5*k+j) (by rw[size_flatK]; exact hb5 j hj)).1]; rfl
        ·rw[hz]at hj;rw[Nat.add_assoc]; exact(HH.out (k5*k+j) (by rw[size_flatK]; exact hb5 j hj)).2
       obtain⟨ZL,hZL⟩: ∃ZL,(Builtin.zeroCells zz.cells (d.size-k5)).toList =ZL:=⟨_,rfl⟩;rw[hZL]at hcl;clear hz hZL;go_wp2;go_ret;exact⟨k5,rfl,HF.out.put _ _,.inr ⟨by omega,jp,by omega,HD.out⟩⟩
   ·have:kk=d.size:=(by omega);subst this;go_wp2;go_ret;exact⟨d.size,rfl,HF.out,.inl ⟨rfl,HA.out⟩⟩
end
end Go.Proofs.YtbenhdgpogiadaaGreat
