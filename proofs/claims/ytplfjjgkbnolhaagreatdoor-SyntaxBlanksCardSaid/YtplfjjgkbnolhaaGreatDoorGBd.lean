/- Machinery. Conditions: those of each. -/
import Derived.Test.YtplfjjgkbnolhaaGreatDoorGO
set_option linter.unusedSimpArgs false
set_option linter.unusedVariables false
/-
 A strings.Builder's copyCheck, out of walks on cells: behind it the variable names itself.
 Conditions: those of 'CopyW'; over any program.
-/
namespace Go.Aw
open Go.RowKit

def CopyW(P:Program)(f:FuncId)(T:TypeId)(k:Nat):Prop:=
 ∀(W:World) (b cap:Nat) (cur:Array Value),W.heap[b]? =some (.cells cur T (0,0))->1<=cap->cur.size=cap*k->
  (cur[0]? =some (.pointer none)->Calls P f #[.pointer (some ⟨b,0,none⟩)] W fun e W'=>e= .returned (.tuple #[])/\W'=W.setCell ⟨b,0,none⟩ (.pointer (some ⟨b,0,none⟩)))/\
  (cur[0]? =some (.pointer (some ⟨b,0,none⟩))->Calls P f #[.pointer (some ⟨b,0,none⟩)] W fun e W'=>e= .returned (.tuple #[])/\W'=W)
theorem copy_own{P:Program}{f:FuncId}{T:TypeId}{k:Nat}(hc: ∀args w,(callFunc f args).run P w= .ok (.enter f args) w)(h:CopyW P f T k)(hk:0<k)(x0:AV)(hx0:x0= .d (.lit (.pointer none))\/x0= .ep 0 1 0 0)(hs:List (Nat×AV))(row:List D)(rest:OL)(hl:hs.lookup 0=some x0):
  FnL P f [.ep 0 1 0 0] ((0,.arr T k (.deep [] hs) [row])::rest) (fun V ol new=>V= .tup []/\ol=(0,.arr T k (.deep [] (zFv 0 (.ep 0 1 0 0) hs)) [row])::rest/\new=[]):=by
 refine⟨fun W bs=>hc bs W,?_⟩;intro W F O0 η S vs hm hO0 hr;obtain⟨O,hO⟩: ∃O,om ((0,AO.arr T k (.deep [] hs) [row])::rest)=O:=⟨_,rfl⟩;rw[hO]at hm hr ⊢;have hO1:O 0=some (.arr T k (.deep [] hs) [row]):=by rw[<-hO]; simp[om]
 simp only[zaN,zaL]at hr;obtain⟨v0,_,rfl,hv0,rfl⟩:=hr;obtain⟨g0,len,cap0,hη,rfl⟩:=(hv0 _ _ _ _ hO1).2 rfl;obtain⟨d,hd⟩:=zD8 hm hO1 (i:=0) (j:=0) (by simp) hk;obtain⟨g,cap,cur,u,sa,s1,sb,h1,h2,h3,h4,h5,h6,h7,h8⟩:=zwA hm hO1 (i:=0) (j:=0) (by simp) hk hd;rw[h1]at hη;simp only[Value.slice.injEq,Option.some.injEq,Addr.mk.injEq,and_true]at hη;obtain⟨rfl,_,_⟩:=hη;simp only[Nat.zero_mul,Nat.add_zero]at h4 h5 h6 h7 h8 ⊢;unfold znF at h7;rw[hl]at h7;obtain⟨h7,rfl⟩:=h7;obtain⟨_,_,hcase⟩:=hm.obj 0 _ hO1;have hcs:1<=cap/\cur.size=cap*k:=by
  rcases hcase with⟨_,hes,_⟩ | ⟨g',cap',cur',s',q1,q2,q3,q4,q5,_⟩
  ·cases hes
  ·rw[h1]at q1;simp only[Value.slice.injEq,Option.some.injEq,Addr.mk.injEq,and_true]at q1;obtain⟨rfl,_,rfl⟩:=q1;rw[h2]at q2;simp only[Option.some.injEq,Obj.cells.injEq]at q2;obtain⟨rfl,_⟩:=q2;exact⟨q3,q5⟩
 obtain⟨c1,c2⟩:=h W g cap cur h2 hcs.1 hcs.2;have hset2:[row].set 0 (([row].getD 0 []).set 0 d)=[row]:=by grind [zm7]
 have hnd:=hm.nd 0;rw[h3,List.nodup_cons]at hnd;have hrel:zaL O W F η x0 u:=h7;obtain⟨O',hO'⟩: ∃O',upd O 0 (some (.arr T k (.deep [] (zFv 0 (.ep 0 1 0 0) hs)) [row]))=O':=⟨_,rfl⟩;have hOl:O'=om ((0,AO.arr T k (.deep [] (zFv 0 (.ep 0 1 0 0) hs)) [row])::rest):=by
  rw[<-hO',<-hO];funext j;by_cases hj:j=0
  ·subst hj; simp[upd,om]
  ·simp[upd,om,hj]
 have hkeep:za7 O O' η η []:=by
  rw[<-hO'];intro j o ho;by_cases hj:j=0
  ·subst hj;simp only[upd,if_true,Option.some.injEq]at ho;subst ho;exact .inr ⟨_,hO1,by simp⟩
  ·simp only[upd,if_neg hj]at ho;exact za7.refl O η j o ho
 have fin: ∀W',W'.os=W.os->W'.tape=W.tape->W'.output=W.output->W'.heap.size=W.heap.size->(∀b,b≠g->W'.heap[b]? =W.heap[b]?)->W'.heap[g]? =some (.cells (cur.setIfInBounds 0 (.pointer (some ⟨g,0,none⟩))) T (0,0))->
   ∃v V Oo new F' η' S',Ending.returned (.tuple #[])= .returned v/\(∃ol,Oo=om ol/\V=AV.tup []/\ol=(0,AO.arr T k (.deep [] (zFv 0 (.ep 0 1 0 0) hs)) [row])::rest/\new=[])/\(∀i∈new,∀lim fam stop l rest,Oo i≠some (.ext lim fam stop l rest))/\
    Mem ⟨P,N0,W,F,O0,[],[],fun _=>undef,[]⟩ Oo W' F' η' S'/\zaL Oo W' F' η' V v/\za7 O Oo η η' new:=by
  intro W' f1 f2 f3 f4 hother hset;have hk2:za7 O (upd O 0 (some (.arr T k (.deep [] (zFv 0 (.ep 0 1 0 0) hs)) [row]))) η (upd η 0 (η 0)) []:=by rw[zcb,hO']; exact hkeep
  obtain⟨m1,m2⟩:=Mem.change (W':=W') (F':=F) hm 0 (some (.arr T k (.deep [] (zFv 0 (.ep 0 1 0 0) hs)) [row])) (η 0) (S 0) [] f1 f2 f3 (by rw[f4]; exact Nat.le_refl _)
   (fun j _ hj=>hother j (by rintro rfl; exact hj (by rw[h3]; simp))) (fun _ h=>h) (fun _ h=>.inl h) (fun j hj=>(hm.apart 0 j hj).1) (hm.nd 0) (fun j hj=>.inl hj) (fun h=>by cases h) hk2
   (fun j o _ _=>AO.noRef_nil o)
   (fun o ho hF=>by
    cases ho;rw[zcb]at hk2 ⊢;have:=h8 (upd O 0 (some (.arr T k (.deep [] (zFv 0 (.ep 0 1 0 0) hs)) [row]))) W' F η (zFv 0 (.ep 0 1 0 0) hs) d (.pointer (some ⟨g,0,none⟩)) [] (fun m hm=>by
      rw[zB9,if_neg hm]) (fun x hx v' hv'=>zaL.pres hk2 hF x v' (AV.noRef_nil _) hv') hF
     (fun b hb=>hother b (by rintro rfl; exact hnd.1 (by simpa using hb)))
     (by
      unfold znF;rw[zB9,if_pos rfl,hl];refine⟨?_,rfl⟩;simp only[zaL];intro e2 k2 dep2 es2 ho;simp only[upd,if_true,Option.some.injEq,AO.arr.injEq]at ho;obtain⟨rfl,rfl,rfl,rfl⟩:=ho;exact⟨by simp,fun _=>⟨g,_,_,h1,by simp⟩⟩)
     hset
    rw[hset2]at this;rw[h3];exact this)
  rw[zcb,zcb,hO',hOl]at m1;refine⟨_,_,_,[],F,_,_,rfl,⟨_,rfl,rfl,rfl,rfl⟩,by simp,m1,by simp[zaL,zaN],?_⟩;rw[<-hOl];exact hkeep
 rcases hx0 with rfl | rfl
 ·simp only[zaL,Rd]at hrel;subst hrel;refine(c1 h4).mono ?_;rintro e W' ⟨rfl,rfl⟩;have hlt:g<W.heap.size:=(Array.getElem?_eq_some_iff.1 h2).1;refine fin _ rfl rfl rfl (by simp[World.setCell]) (fun b hb=>Below.heap_setCell _ _ _ _ hb) ?_;simp[World.setCell,Array.getElem?_modify,h2]
 ·simp only[zaL]at hrel;obtain⟨g1,len1,cap1,hη1,rfl⟩:=(hrel _ _ _ _ hO1).2 rfl;rw[h1]at hη1;simp only[Value.slice.injEq,Option.some.injEq,Addr.mk.injEq,and_true]at hη1;obtain⟨rfl,_,_⟩:=hη1;simp only[Nat.zero_mul,Nat.add_zero]at h4;refine(c2 h4).mono ?_;rintro e W' ⟨rfl,rfl⟩;exact fin _ rfl rfl rfl rfl (fun _ _=>rfl) (by rw[zF1 h4]; exact h2)
end Go.Aw
