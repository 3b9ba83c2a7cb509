/- Machinery. Conditions: those of each. -/
import Derived.Test.YtplfjjgkbnolhaaGreatDoorGZ
set_option linter.unusedSimpArgs false
set_option linter.unusedVariables false
/-
 OPEN REGIONS IN WHICH TWO EFFECTS MAY COME IN EITHER ORDER: both orders are walked.
 Conditions: none; over any program.
-/
namespace Go.Aw
open Go.RowKit
inductive OT where
 | nil
 | st (k:Nat) (t:OT)
 | fk (k1:Nat) (t1:OT) (k2:Nat) (t2:OT)
section
variable {P:Program} {N:NP} {ops:Array Oper} {md:Region.Mode} {r:Ord}
def rdyB(md:Region.Mode)(ops:Array Oper)(done:List Nat)(k:Nat):Bool:=match ops[k]? with | some o=>o.after.all fun e=> !Region.binds md e||done.contains e.on | none=>false
def waitB(md:Region.Mode)(ops:Array Oper)(al rem:List Nat):Bool:=rem.all fun j=>al.contains j||rem.any fun q=>zka md ops j q
def goT(md:Region.Mode)(ops:Array Oper)(r:Ord):List Nat->List Nat->OT->Bool
 | _,rem,.nil =>rem.isEmpty
 | done,rem,.st k t=>rem.contains k&&rdyB md ops done k&&(r.isQ k||(waitB md ops [k] rem&&rem.all fun j=> !r.isQ j))&&goT md ops r (k::done) (rem.erase k) t
 | done,rem,.fk k1 t1 k2 t2=>rem.contains k1&&rem.contains k2&&rdyB md ops done k1&&rdyB md ops done k2&&(rem.all fun j=> !r.isQ j)&&waitB md ops [k1,k2] rem&&goT md ops r (k1::done) (rem.erase k1) t1&&goT md ops r (k2::done) (rem.erase k2) t2
def zEff(P:Program)(N:NP)(r:Ord)(ops:Array Oper)(k:Nat)(σ:St)(K:St->Prop):Prop:=
 match ops[k]? with
 | some o=>if r.lateOf k=[]then gwp P N ops o σ K else sgwp P N ops o σ (fun σ'=>lateA P N ops (r.lateOf k) σ'/\K σ')
 | none=>False
def zT(P:Program)(N:NP)(r:Ord)(ops:Array Oper):OT->St->(St->Prop)->Prop
 | .nil,σ,K=>K σ
 | .st k t,σ,K=>match ops[k]? with
  | some o=>if r.isQ k then ∃V,ZY P N ops o V σ/\zT P N r ops t (σ.put o.dst V σ.objs) K else zEff P N r ops k σ (fun σ'=>zT P N r ops t σ' K)
  | none=>False
 | .fk k1 t1 k2 t2,σ,K=>zEff P N r ops k1 σ (fun σ'=>zT P N r ops t1 σ' K)/\zEff P N r ops k2 σ (fun σ'=>zT P N r ops t2 σ' K)
theorem rdyB_ok{done:List Nat}{k:Nat}{listed:Array Bool}(h:rdyB md ops done k=true)(hk:listed.getD k false=false)(hsz:listed.size=ops.size)(hl: ∀j,j<ops.size->listed.getD j false=decide (j∈done))(hd: ∀j∈done,j<ops.size):k∈Region.ready md ops listed:=by
 unfold rdyB at h;split at h
 case h_2=>cases h
 rename_i o ho;have hks:k<ops.size:=(Array.getElem?_eq_some_iff.1 ho).1;grind [mem_ready,Array.all_eq_true_iff_forall_mem]
theorem waitB_ok{al rem:List Nat}{listed:Array Bool}{j:Nat}(h:waitB md ops al rem=true)(hj:j∈Region.ready md ops listed)(hjr:j∈rem)(hl: ∀q∈rem,listed.getD q false=false):j∈al:=by
 unfold waitB at h;simp only[List.all_eq_true,Bool.or_eq_true,List.contains_eq_mem,decide_eq_true_eq,List.any_eq_true]at h;rcases h j hjr with h1 | ⟨q,hq,he⟩
 ·exact h1
 ·have:=zcu he hj;rw[hl q hq]at this;cases this
theorem zEff_op{k:Nat}{o:Oper}{K K':St->Prop}{listed:Array Bool}{σ:St}(hq:r.isQ k=false)(ho:ops[k]? =some o)(h:zEff P N r ops k σ K)(hk: ∀σ',K σ'->K' σ'):zOp P N r ops listed k K' σ:=by
 unfold zEff at h;unfold zOp;rw[ho]at h ⊢;simp only[hq,Bool.false_eq_true,if_false]at h ⊢;split at h
 ·rename_i hl;simp only[hl,if_true];exact zhp h hk
 ·rename_i hl;simp only[hl,if_false];exact zja h (fun σ' hz=>⟨fun i hi _ oi hoi=>hz.1 i hi oi hoi,hk σ' hz.2⟩)
theorem zAny_T{K:St->Prop}(hss: ∀i,r.isQ i=true->ssaB md ops i=true)(hlate: ∀k i,k<ops.size->r.isQ k=false->r.isQ i=true->i∈r.lateOf k\/zgw md ops k i=true):
  ∀(T:OT) (done rem:List Nat) (listed:Array Bool) (σ:St),goT md ops r done rem T=true->(∀j,j<ops.size->j∈done\/j∈rem)->(∀j∈done,j<ops.size)->(∀j∈rem,j<ops.size/\j∉done)->rem.Nodup->listed.size=ops.size->(∀j,j<ops.size->listed.getD j false=decide (j∈done))->
   ziy md ops listed->(∀i∈rem,r.isQ i=true-> ∀oi d,ops[i]? =some oi->oi.dst=some d->σ.tmps d= .dead)->zT P N r ops T σ K->zAny P N md r ops K rem.length listed σ:=by
 intro T
 -- one step
 have step: ∀(done rem:List Nat) (listed:Array Bool) (k:Nat),rdyB md ops done k=true->k∈rem->(∀j,j<ops.size->j∈done\/j∈rem)->(∀j∈done,j<ops.size)->(∀j∈rem,j<ops.size/\j∉done)->rem.Nodup->listed.size=ops.size->(∀j,j<ops.size->listed.getD j false=decide (j∈done))->ziy md ops listed->
   k∈Region.ready md ops listed/\listed.getD k false=false/\(∀j,j<ops.size->j∈k::done\/j∈rem.erase k)/\(∀j∈k::done,j<ops.size)/\(∀j∈rem.erase k,j<ops.size/\j∉k::done)/\(rem.erase k).Nodup /\(listed.setIfInBounds k true).size =ops.size/\
   (∀j,j<ops.size->(listed.setIfInBounds k true).getD j false=decide (j∈k::done))/\ziy md ops (listed.setIfInBounds k true)/\rem.length=(rem.erase k).length +1:=by
  intro done rem listed k hr hk hall hdl hrl hnd hsz hlis hcl;obtain⟨hks,hkd⟩:=hrl k hk;have hun:listed.getD k false=false:=by rw[hlis k hks]; simpa using hkd
  have hready:=rdyB_ok hr hun hsz hlis hdl;refine⟨hready,hun,fun j hj=> ?_,fun j hj=> ?_,fun j hj=> ?_,hnd.erase k,by simpa using hsz,fun j hj=> ?_,zfw hcl hready,?_⟩
  ·rcases hall j hj with h | h
   ·exact .inl (by simp[h])
   ·by_cases e:j=k
    ·exact .inl (by simp[e])
    ·exact .inr ((List.mem_erase_of_ne e).2 h)
  ·rcases List.mem_cons.1 hj with rfl | hj
   ·exact hks
   ·exact hdl j hj
  ·obtain⟨h1,h2⟩:=(hnd.mem_erase_iff).1 hj;obtain⟨h3,h4⟩:=hrl j h2;exact⟨h3,by simp[h1,h4]⟩
  ·by_cases hjk:j=k
   ·subst hjk;have:j<listed.size:=(by omega);simp[this]
   ·rw[getD_set_ne false (fun e=>hjk e.symm),hlis j hj];simp[hjk]
  ·have:=List.length_erase_of_mem hk;have:=List.length_pos_of_mem hk;omega
 have undone: ∀(done rem:List Nat) (listed:Array Bool),(∀j∈rem,j<ops.size/\j∉done)->(∀j,j<ops.size->listed.getD j false=decide (j∈done))-> ∀q∈rem,listed.getD q false=false:=by
  intro done rem listed hrl hlis q hq;rw[hlis q (hrl q hq).1];simpa using(hrl q hq).2
 have inrem: ∀(done rem:List Nat) (listed:Array Bool) (j:Nat),(∀j,j<ops.size->j∈done\/j∈rem)->listed.size=ops.size->(∀j,j<ops.size->listed.getD j false=decide (j∈done))->j∈Region.ready md ops listed->j∈rem:=by
  intro done rem listed j hall hsz hlis hj;obtain⟨hjun,oj,hoj,_⟩:=mem_ready.1 hj;have hjs:j<ops.size:=(Array.getElem?_eq_some_iff.1 hoj).1;have hjl:listed.getD j false=false:=by grind
  rw[hlis j hjs]at hjl;exact(hall j hjs).resolve_left (by simpa using hjl)
 induction T with
 | nil=>
  intro done rem listed σ hgo hall hdl hrl hnd hsz hlis hcl hdead h;simp only[goT,List.isEmpty_iff]at hgo;subst hgo;refine⟨?_,h⟩;rw[List.eq_nil_iff_forall_not_mem];intro j hj;have:=inrem done [] listed j hall hsz hlis hj;cases this
 | st k t ih=>
  intro done rem listed σ hgo hall hdl hrl hnd hsz hlis hcl hdead h;simp only[goT,Bool.and_eq_true,List.contains_eq_mem,decide_eq_true_eq]at hgo;obtain⟨⟨⟨g1,g2⟩,g3⟩,g4⟩:=hgo;obtain⟨s1,s2,s3,s4,s5,s6,s7,s8,s9,s10⟩:=step done rem listed k g2 g1 hall hdl hrl hnd hsz hlis hcl;simp only[zT]at h;split at h
  case h_2=>exact h.elim
  rename_i o ho;rw[s10];by_cases hkA:r.isQ k=true
  ·simp only[hkA,if_true]at h;obtain⟨V,hy,hK⟩:=h;obtain⟨oi,d,hoi,hd,hssa⟩:=zjd (hss k hkA);rw[ho]at hoi;cases hoi;have hdk:=hdead k g1 hkA o d ho hd;refine zHW hss hlate ho hd hkA _ listed σ hcl hsz s2 s1 hdk hy ?_;rw[hd]at hK;refine ih (k::done) (rem.erase k) _ _ g4 s3 s4 s5 s6 s7 s8 s9 (fun i hi hiq oi' d' hoi' hd'=> ?_) hK;have hik:i≠k:=fun e=>(s5 i hi).2 (by simp[e]);have h1:=hdead i (List.mem_of_mem_erase hi) hiq oi' d' hoi' hd';have hne:d'≠d:=fun e=>(hssa i oi' hoi').1 hik (by rw[hd',e]);rw[zd1 (fun e he=>by cases he; exact hne)];exact h1
  ·have hkA':r.isQ k=false:=by simpa using hkA
   simp only[hkA',Bool.false_eq_true,if_false]at h;simp only[hkA',Bool.false_or,Bool.and_eq_true,List.all_eq_true,Bool.not_eq_true']at g3;obtain⟨hw,hnq⟩:=g3;refine⟨fun h0=>(by rw[h0]at s1; cases s1),fun j hj=> ?_⟩;have hjk:j=k:=by
    have:=waitB_ok hw hj (inrem done rem listed j hall hsz hlis hj) (undone done rem listed hrl hlis);simpa using this
   subst hjk;exact zEff_op hkA' ho h (fun σ' hz=>ih (j::done) (rem.erase j) (listed.setIfInBounds j true) σ' g4 s3 s4 s5 s6 s7 s8 s9 (fun i hi hiq=>by rw[hnq i (List.mem_of_mem_erase hi)]at hiq; cases hiq) hz)
 | fk k1 t1 k2 t2 ih1 ih2=>
  intro done rem listed σ hgo hall hdl hrl hnd hsz hlis hcl hdead h;simp only[goT,Bool.and_eq_true,List.contains_eq_mem,decide_eq_true_eq,List.all_eq_true,Bool.not_eq_true']at hgo;obtain⟨⟨⟨⟨⟨⟨⟨g1,g2⟩,g3⟩,g4⟩,hnq⟩,hw⟩,g5⟩,g6⟩:=hgo;obtain⟨s1,s2,s3,s4,s5,s6,s7,s8,s9,s10⟩:=step done rem listed k1 g3 g1 hall hdl hrl hnd hsz hlis hcl;obtain⟨r1,r2,r3,r4,r5,r6,r7,r8,r9,r10⟩:=step done rem listed k2 g4 g2 hall hdl hrl hnd hsz hlis hcl;obtain⟨h1,h2⟩:=h;rw[s10];refine⟨fun h0=>(by rw[h0]at s1; cases s1),fun j hj=> ?_⟩;have hjk:=waitB_ok hw hj (inrem done rem listed j hall hsz hlis hj) (undone done rem listed hrl hlis);simp only[List.mem_cons,List.not_mem_nil,or_false]at hjk;rcases hjk with rfl | rfl
  ·obtain⟨o,ho⟩: ∃o,ops[j]? =some o:=⟨_,Array.getElem?_eq_getElem (hrl j g1).1⟩;exact zEff_op (hnq j g1) ho h1 (fun σ' hz=>ih1 (j::done) (rem.erase j) (listed.setIfInBounds j true) σ' g5 s3 s4 s5 s6 s7 s8 s9 (fun i hi hiq=>by rw[hnq i (List.mem_of_mem_erase hi)]at hiq; cases hiq) hz)
  ·obtain⟨o,ho⟩: ∃o,ops[j]? =some o:=⟨_,Array.getElem?_eq_getElem (hrl j g2).1⟩;refine zEff_op (hnq j g2) ho h2 (fun σ' hz=> ?_);have:=ih2 (j::done) (rem.erase j) (listed.setIfInBounds j true) σ' g6 r3 r4 r5 r6 r7 r8 r9 (fun i hi hiq=>by rw[hnq i (List.mem_of_mem_erase hi)]at hiq; cases hiq) hz;rwa [show(rem.erase k1).length =(rem.erase j).length by omega]
def ordTB(md:Region.Mode)(ops:Array Oper)(r:Ord)(T:OT):Bool:=
 Region.noSelect ops&&r.steps.all (fun p=>r.steps.lookup p.1==some p.2)&&(List.range ops.size).all (fun i=> !r.isQ i||ssaB md ops i)&&r.pi.all (fun i=>decide (i<ops.size))&&
 (List.range ops.size).all (fun k=>r.isQ k||(List.range ops.size).all fun i=> !r.isQ i||(r.lateOf k).contains i||zgw md ops k i)&&
 goT md ops r [] (List.range ops.size) T
theorem region_ordT{T:OT}{c:Ctx}{σ:St}{a:Act}{W:World}{K:St->Prop}{Q:Exit->Act->World->Prop}{R:Option Nat}{n:Nat}(hB:ordTB md ops r T=true)(hK: ∀σ' a' W',K σ'->Rel c σ' a' W'->Q .normal a' W')(hX: ∀v σ' a' W',pxS c.N v σ'.objs->Rel c σ' a' W'->Q (.panic [{v:=v,recovered:=false}]) a' W')(hr:Rel c σ a W)
  (hdead: ∀i∈r.pi,r.isQ i=true-> ∀oi d,ops[i]? =some oi->oi.dst=some d->σ.tmps d= .dead) (h:zT c.P c.N r ops T σ K):wpAnyIn (FW R) n c.P md ops Q ops.size (Array.replicate ops.size false) a W:=by
 simp only[ordTB,Bool.and_eq_true,List.all_eq_true,List.mem_range,decide_eq_true_eq,Bool.or_eq_true,Bool.not_eq_true',beq_iff_eq,List.contains_eq_mem]at hB;obtain⟨⟨⟨⟨⟨_,_⟩,h3⟩,h4⟩,h5⟩,h6⟩:=hB;have hqs: ∀i,r.isQ i=true->i<ops.size:=fun i hi=>h4 i (Ord.isQ_mem hi);have hss: ∀i,r.isQ i=true->ssaB md ops i=true:=fun i hi=>(h3 i (hqs i hi)).resolve_left (by simp[hi]);have hlate: ∀k i,k<ops.size->r.isQ k=false->r.isQ i=true->i∈r.lateOf k\/zgw md ops k i=true:=fun k i hk hkq hi=>by
  have:=(h5 k hk).resolve_left (by simp[hkq]) i (hqs i hi);rcases this with(h | h) | h
  ·rw[hi]at h; cases h
  ·exact .inl h
  ·exact .inr h
 refine znD (r:=r) hK hX ops.size _ _ a W hr ?_;have:=zAny_T (P:=c.P) (N:=c.N) (K:=K) hss hlate T [] (List.range ops.size) (Array.replicate ops.size false) σ h6 (fun j hj=>.inr (by simpa using hj)) (by simp) (fun j hj=>by simpa using hj) List.nodup_range (by simp) (fun j hj=>by simp[hj]) (fun j o ho hj=>by
  rw[Array.getD_eq_getD_getElem?,Array.getElem?_replicate]at hj; grind) (fun i hi hiq=>hdead i (Ord.isQ_mem hiq) hiq) h
 simpa using this
end
end Go.Aw
