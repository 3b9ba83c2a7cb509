/-
 CONTRACTS and plain laws. Conditions: those of each law.
-/
import Derived.Test.YtbenhdgpogiadaaGreatNK1
import Derived.WalkKit
import Derived.Shelf.SlSortCmp.QuietGrown
import Derived.StillTailTactics
import Derived.Below
import Derived.Shelf.RegionOpenPlain
import Derived.Handy
import Derived.Laws.Cover1
import Derived.Laws.Rows
import Derived.Shelf.SlicesQ.Load
set_option linter.unusedSimpArgs false
set_option linter.unusedVariables false
namespace Go.Proofs.YtbenhdgpogiadaaGreat
section
open Go.Aw Go.Sort Go.RowKit
set_option maxRecDepth 100000
def zh1(x y:Int):Int:=if x<y then-1 else if y<x then 1 else 0
def orI(l:List Int):Int:=(l.find? fun x=>x !=0).getD 0
theorem two_w(w:World)(o1 o2:Obj)(W:World)(hW:W={((w.alloc o1).alloc o2)with drawn:=((w.alloc o1).alloc o2).drawn +1}):
  W.heap[w.heap.size]? =some o1/\W.heap[w.heap.size+1]? =some o2/\ ∃q os',W=grow (w.drewN q) os':=by
 subst hW;refine⟨?_,?_,1,#[o1,o2],?_⟩
 ·show((w.alloc o1).alloc o2).heap[w.heap.size]? =_;exact(Go.RowKit.Below.heap_alloc _ _ _ (by simp)).trans (World.alloc_heap_new w _)
 ·show((w.alloc o1).alloc o2).heap[w.heap.size+1]? =_;have:=World.alloc_heap_new (w.alloc o1) o2;rwa [World.size_alloc]at this
 ·rw[alloc_eq_grow,alloc_eq_grow,grow_grow]; rfl
end
section
open Go.Aw Go.Sort Go.RowKit
set_option maxRecDepth 100000
def zsi(x y:ByteArray):Int:=if Op.bytesLess x.toList y.toList=true then-1 else if (!(Op.bytesLess x.toList y.toList||x.toList==y.toList))=true then 1 else 0
theorem nanI_w(x:Int)(w:World):Calls Tryz.prog 210 #[.int .i64 x] w fun e w'=>e= .returned (.bool false)/\w'=w:=by
 go_enter Tryz.func210,Tryz.ntmps210
 go_wp2;go_ret;exact⟨by simp,rfl⟩
set_option maxHeartbeats 1000000 in
theorem cmpI_w(x y:Int)(w:World):Calls Tryz.prog 155 #[.int .i64 x,.int .i64 y] w fun e w'=>e= .returned (.int .i64 (zh1 x y))/\w'=w:=by
 go_enter Tryz.func155,Tryz.ntmps155
 go_wp2_with (go_at_call 210; refine(nanI_w _ _).mono ?_; rintro e w' ⟨rfl,hw⟩; rw[hw])
 all_goals (go_ret; refine⟨?_,rfl⟩; unfold zh1; (repeat' split) <;> first | rfl | (exfalso; omega))
theorem nanS_w(x:ByteArray)(w:World):Calls Tryz.prog 167 #[.string x] w fun e w'=>e= .returned (.bool false)/\w'=w:=by
 go_enter Tryz.func167,Tryz.ntmps167
 go_wp2;go_ret;exact⟨by simp,rfl⟩
set_option maxHeartbeats 1000000 in
theorem cmpS_w(x y:ByteArray)(w:World):Calls Tryz.prog 115 #[.string x,.string y] w fun e w'=>e= .returned (.int .i64 (zsi x y))/\w'=w:=by
 go_enter Tryz.func115,Tryz.ntmps115
 go_wp2_with (go_at_call 167; refine(nanS_w _ _).mono ?_; rintro e w' ⟨rfl,hw⟩; rw[hw])
 all_goals (go_ret; refine⟨?_,rfl⟩; unfold zsi; simp_all)
set_option maxHeartbeats 2000000 in
theorem or2_w(x y:Int)(b cap:Nat)(w:World)(h0:w.cell? ⟨b,0,none⟩=some (.int .i64 x))(h1:w.cell? ⟨b,1,none⟩=some (.int .i64 y)):
  Calls Tryz.prog 154 #[.slice (some ⟨b,0,none⟩) 2 cap] w fun e w'=>e= .returned (.int .i64 (orI [x,y]))/\w'=w:=by
 go_enter Tryz.func154,Tryz.ntmps154
 go_wp2
 go_rounds 3
 all_goals go_ret
 all_goals refine⟨?_,rfl⟩
 all_goals simp_all [orI]
set_option maxHeartbeats 4000000 in
theorem part_w(ak:Int)(an:ByteArray)(bk:Int)(bn:ByteArray)(w:World):Calls Tryz.prog 110 #[.agg #[.int .i64 ak,.string an],.agg #[.int .i64 bk,.string bn]] w fun e w'=>
  e= .returned (.int .i64 (orI [zh1 ak bk,zsi an bn]))/\ ∃q os',w'=grow (w.drewN q) os':=by
 go_enter Tryz.func110,Tryz.ntmps110
 go_wp2;refine wp_region_still_tail 10 zat (by kernel_rfl) ?_;obtain⟨W,hW⟩: ∃W:World,W={((w.alloc (.cells #[.int .i64 ak,.string an] 66)).alloc (.cells #[.int .i64 bk,.string bn] 66))with drawn:=((w.alloc (.cells #[.int .i64 ak,.string an] 66)).alloc (.cells #[.int .i64 bk,.string bn] 66)).drawn +1}:=⟨_,rfl⟩;rw[<-hW];obtain⟨c0,c1,hG⟩:=two_w w _ _ W hW;have a0:W.cell? ⟨w.heap.size,0,none⟩=some (.int .i64 ak):=by simp[World.cell?,c0]
 have a1:W.cell? ⟨w.heap.size,1,none⟩=some (.string an):=by simp[World.cell?,c0]
 have b0:W.cell? ⟨w.heap.size+1,0,none⟩=some (.int .i64 bk):=by simp[World.cell?,c1]
 have b1:W.cell? ⟨w.heap.size+1,1,none⟩=some (.string bn):=by simp[World.cell?,c1]
 clear hW c0 c1;simp only[List.take_succ_cons,List.take_zero,List.drop_succ_cons,List.drop_zero]
 repeat still_step
 still_call (cmpI_w _ _ _)
 repeat still_step
 still_call (cmpS_w _ _ _)
 repeat still_step
 try refine wpStill_nil ?_
 generalize hx:zh1 ak bk=x at*;generalize hy:zsi an bn=y at*;clear a0 a1 b0 b1;obtain⟨q,os',rfl⟩:=hG;generalize hWW:grow (w.drewN q) os'=W;have hor: ∀W',W'=W.alloc (.cells #[.int .i64 x,.int .i64 y] 3)->Calls Tryz.prog 154 #[.slice (some ⟨W.heap.size,0,none⟩) 2 2] W' fun e w'=>e= .returned (.int .i64 (orI [x,y]))/\w'=W':=by
  rintro W' rfl;have hh:=World.alloc_heap_new W (.cells #[.int .i64 x,.int .i64 y] 3);exact or2_w x y _ _ _ (by simp only[World.cell?,hh]; rfl) (by simp only[World.cell?,hh]; rfl)
 generalize hr:orI [x,y]=r at*
 go_wp2_with (go_at_call 154; refine(hor _ rfl).mono ?_; rintro e w' ⟨rfl,rfl⟩)
 go_ret;refine⟨by rw[hx,hy,hr]; rfl,q,os'++#[.cells #[.int .i64 x,.int .i64 y] 3],?_⟩;rw[alloc_eq_grow,<-hWW,grow_grow]
theorem of_w(row:Array Value)(hsz:row.size=35)(k:Int)(s:ByteArray)(h0:row[0]? =some (.int .i64 k))(h1:row[1]? =some (.string s))(w:World):
  Calls Tryz.prog 111 #[.agg row] w fun e w'=>e= .returned (.agg #[.int .i64 k,.string s])/\ ∃os',w'=grow w os':=by
 have g0:row[0]'(by omega)= .int .i64 k:=by simpa [hsz]using h0
 have g1:row[1]'(by omega)= .string s:=by simpa [hsz]using h1
 go_enter Tryz.func111,Tryz.ntmps111
 go_wp2;refine bodyPost_ret (v:=.agg #[.int .i64 k,.string s]) (results_cell_row rfl _ _ (w.heap.size+1) 66 #[.int .i64 k,.string s] (0,0) _ rfl (heap_alloc2_new _ _ _) Tryz.underlying66 rfl (by kernel_rfl)) rfl ⟨rfl,#[.cells row 64,.cells #[.int .i64 k,.string s] 66],?_⟩;rw[alloc_eq_grow,alloc_eq_grow,grow_grow]; rfl
theorem znU{P:Program}{o:Oper}{a:Act}{C:World->Prop}{K:Act->Prop}(ty:TypeId)(x:Operand)(ho:o.op= .load ty x)
  (g:Nat) (hx:a.eval x= .pointer (some ⟨g,0,none⟩)) (t:TypeId) (cs:Array Value) (fr:Nat×Nat) (d:TypeDesc) (hg: ∀w,C w->w.heap[g]? =some (.cells cs t fr))
  (hu:P.underlying ty=some d) (hd:(match d with | .struct _ | .array _ _=>true | _=>false)=true) (hi:(P.info? ty).map (·.size)=some cs.size)
  (h:K (a.put o.dst (.agg cs))):o.quiet P a C K:=by
 refine⟨.agg cs,fun w hw=> ?_,h⟩;unfold Oper.quietAt execOp;simp only[ho,hx,Instr.loadAt,Instr.sureAddr,Sem.run_bind,Sem.run_pure,Result.andThen_ok,run_loadVar_row w g t ty cs fr d (hg w hw) hu hd hi];exact⟨rfl,rfl⟩
theorem zvz{w:World}{g:Nat}{o:Obj}(h:w.heap[g]? =some o): ∀w',(∃p:GrownBy,w'=grow (w.drewN p.n) p.os)->w'.heap[g]? =some o:=by
 rintro w' ⟨p,rfl⟩;have hb:g<w.heap.size:=(Array.getElem?_eq_some_iff.1 h).1;show(w.heap++p.os)[g]? =some o;rw[Array.getElem?_append_left hb]; exact h
theorem item_w(ra rb:Array Value)(sa:ra.size=35)(sb:rb.size=35)(ak bk:Int)(an bn:ByteArray)(a0:ra[0]? =some (.int .i64 ak))(a1:ra[1]? =some (.string an))(b0:rb[0]? =some (.int .i64 bk))(b1:rb[1]? =some (.string bn))(w:World):
  Calls Tryz.prog 53 #[.agg ra,.agg rb] w fun e w'=>e= .returned (.int .i64 (orI [zh1 ak bk,zsi an bn]))/\ ∃q os',w'=grow (w.drewN q) os':=by
 go_enter Tryz.func53,Tryz.ntmps53
 go_wp2;obtain⟨wq,hwq⟩: ∃wq,(w.alloc (.cells ra 64)).alloc (.cells rb 64)=wq:=⟨_,rfl⟩;have l1:=zvz (w:=wq) (g:=w.heap.size) (o:=.cells ra 64 (0,0)) (by rw[<-hwq]; exact(Go.RowKit.Below.heap_alloc _ _ _ (by simp)).trans (World.alloc_heap_new w _));have l2:=zvz (w:=wq) (g:=w.heap.size+1) (o:=.cells rb 64 (0,0)) (by rw[<-hwq]; exact heap_alloc2_new _ _ _);have o1: ∀W,Calls Tryz.prog 111 #[.agg ra] W fun e w'=>e= .returned (.agg #[.int .i64 ak,.string an])/\ ∃q os',w'=grow (W.drewN q) os':=fun W=>(of_w ra sa ak an a0 a1 W).mono fun _ _ ⟨he,os',hq⟩=>⟨he,0,os',hq⟩;have o2: ∀W,Calls Tryz.prog 111 #[.agg rb] W fun e w'=>e= .returned (.agg #[.int .i64 bk,.string bn])/\ ∃q os',w'=grow (W.drewN q) os':=fun W=>(of_w rb sb bk bn b0 b1 W).mono fun _ _ ⟨he,os',hq⟩=>⟨he,0,os',hq⟩;have o3:=part_w ak an bk bn;have hm:=zat;rw[hwq];refine wp_region_quiet_grown (by assumption) (by kernel_rfl) ?_;refine wpQuiet_step (fun K hK=> ?_);refine Eq.mpr (if_pos rfl) (znU 64 _ rfl w.heap.size rfl 64 ra (0,0) _ l1 Tryz.underlying64 rfl (by rw[sa]; kernel_rfl) (hK _ ?_));clear hK K
 quiet_step ((exact Calls.grown_of (o1 _)))
 refine wpQuiet_step (fun K hK=> ?_);refine Eq.mpr (if_pos rfl) (znU 64 _ rfl (w.heap.size+1) rfl 64 rb (0,0) _ l2 Tryz.underlying64 rfl (by rw[sb]; kernel_rfl) (hK _ ?_));clear hK K
 quiet_step ((exact Calls.grown_of (o2 _)))
 quiet_step ((exact Calls.grown_of (o3 _)))
 quiet_step (skip)
 refine wpQuiet_nil ?_;rintro _ ⟨⟨nq,osq⟩,rfl⟩;go_wp2;go_ret;refine⟨rfl,nq,#[.cells ra 64,.cells rb 64]++osq,?_⟩;have e1:grow (grow w #[.cells ra 64]) #[.cells rb 64]=grow w #[.cells ra 64,.cells rb 64]:=by rw[grow_grow]; rfl
 rw[<-hwq,alloc_eq_grow,alloc_eq_grow,e1];show grow (grow (w.drewN nq) #[.cells ra 64,.cells rb 64]) osq=_;rw[grow_grow]
theorem name_w(ra rb:Array Value)(sa:ra.size=4)(sb:rb.size=4)(an bn:ByteArray)(a0:ra[0]? =some (.string an))(b0:rb[0]? =some (.string bn))(w:World):
  Calls Tryz.prog 57 #[.agg ra,.agg rb] w fun e w'=>e= .returned (.int .i64 (zsi an bn))/\ ∃q os',w'=grow (w.drewN q) os':=by
 have g0:ra[0]'(by omega)= .string an:=by simpa [sa]using a0
 have g1:rb[0]'(by omega)= .string bn:=by simpa [sb]using b0
 go_enter Tryz.func57,Tryz.ntmps57
 go_wp2_with (go_at_call 115; refine(cmpS_w _ _ _).mono ?_; rintro e w' ⟨rfl,rfl⟩)
 go_ret;refine⟨rfl,0,#[.cells ra 53,.cells rb 53],?_⟩;rw[alloc_eq_grow,alloc_eq_grow,grow_grow]; rfl
end
end Go.Proofs.YtbenhdgpogiadaaGreat
