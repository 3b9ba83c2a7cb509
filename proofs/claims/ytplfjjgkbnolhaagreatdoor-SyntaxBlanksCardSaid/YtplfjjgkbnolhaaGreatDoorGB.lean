/- Machinery. Conditions: those of each. -/
import Derived.Test.YtplfjjgkbnolhaaGreatDoorGA
import Derived.Test.YtplfjjgkbnolhaaGreatDoorGF
import Derived.Great.BuildSlice
set_option linter.unusedSimpArgs false
set_option linter.unusedVariables false
/-
 SLICE LITERALS.
 Conditions: those of 'bsE'; over any program.
-/
namespace Go.Aw
open Go.RowKit

def zgF(k:Nat):Nat->List D->List (List D)
 | 0,_=>[]
 | n+1,l=>l.take k::zgF k n (l.drop k)
def bsE(P:Program)(ρ:Operand->AV)(O:zbI)(t:TypeId)(len:Nat)(parts:Array (Nat×Operand)):Option (Prop×AO×List Nat):=
 match zdj P t with
 | some (e,k,_)=>match lay P e,zad P e with
  | some (ag,_),some z=>match zod (fun i=>some (i*k,ag,k)) ρ O parts.toList ((List.replicate len (z.map zdB)).flatten)with
   | some (vc,cs)=>match frz.frzL O cs with
    | some (vc2,ds,ids)=>some (vc/\vc2/\len*k<=16777216,.arr e k .flat (zgF k len ds),ids)
    | none=>none
   | none=>none
  | _,_=>none
 | none=>none

theorem zdZ(k:Nat): ∀(n:Nat) (l:List D),(zgF k n l).length =n
 | 0,_=>rfl
 | n+1,l=>by simp[zgF,zdZ k n]
theorem zny(k:Nat): ∀(n:Nat) (l:List D),l.length=n*k-> ∀x∈zgF k n l,x.length=k
 | 0,_,_,x,hx=>by simp[zgF]at hx
 | n+1,l,h,x,hx=>by
  rw[Nat.add_mul]at h;simp only[zgF,List.mem_cons]at hx;rcases hx with rfl | hx
  ·rw[List.length_take]; omega
  ·exact zny k n (l.drop k) (by rw[List.length_drop]; omega) x hx
theorem zhs(k:Nat): ∀(n:Nat) (l:List D),l.length=n*k->(zgF k n l).flatten =l
 | 0,l,h=>by simp at h; simp[zgF,h]
 | n+1,l,h=>by
  rw[Nat.add_mul]at h;simp only[zgF,List.flatten_cons,zhs k n (l.drop k) (by rw[List.length_drop]; omega),List.take_append_drop]
theorem zmX(z:Array Value)(len:Nat):(Array.range (len*z.size)).map (z[· % z.size]!)=(List.replicate len z.toList).flatten.toArray :=by
 apply Array.ext
 ·simp
 ·intro i h1 h2;simp at h1 h2;have hp:0<z.size:=Nat.pos_of_ne_zero (by rintro h; rw[h]at h1; omega);have hm:i % z.size<z.size:=Nat.mod_lt _ hp;simp only[Array.getElem_map,Array.getElem_range];rw[getElem!_pos z _ hm];have key: ∀(n i:Nat) (h:i<n*z.size),(List.replicate n z.toList).flatten[i]? =z[i % z.size]? :=by
   intro n
   induction n with
   | zero=>intro i h; omega
   | succ n ih=>
    intro i h;rw[List.replicate_succ,List.flatten_cons];rw[Nat.add_mul]at h;by_cases hi:i<z.size
    ·rw[List.getElem?_append_left (by simpa using hi),Nat.mod_eq_of_lt hi]; simp
    ·rw[List.getElem?_append_right (by simpa using hi)];simp only[Array.length_toList];rw[ih (i-z.size) (by omega),Nat.mod_eq_sub_mod (show i>=z.size by omega)]
  have:=key len i h1;rw[Array.getElem?_eq_getElem hm]at this;obtain⟨h3,h4⟩:=List.getElem?_eq_some_iff.1 this;simp only[List.getElem_toArray];exact h4.symm

theorem zju{pl:Nat->Option (Nat×Bool×Nat)}{ρ:Operand->AV}{O:zbI}: ∀(ps:List (Nat×Operand)) (cs:List AV) (r:Prop×List AV),zod pl ρ O ps cs=some r->r.2.length=cs.length
 | [],cs,r,h=>by simp only[zod,Option.some.injEq]at h; subst h; rfl
 | (i,x)::rest,cs,r,h=>by
  simp only[zod]at h;split at h
  ·split at h
   ·split at h
    ·rename_i hsz;simp only[Option.map_eq_some_iff]at h;obtain⟨r',h1,rfl⟩:=h;have:=zju rest _ r' h1;simp only at this ⊢;rw[this];simp only[List.length_append,List.length_take,List.length_drop];omega
    ·cases h
   ·cases h
  ·cases h
section
variable {c:Ctx} {O:zbI} {W:World} {F:Nat->Prop} {η:Nat->Value} {S:Nat->List Nat} {ρ:Operand->AV} {a:Operand->Value}
theorem zlD(z:List Value)(O:zbI)(η:Nat->Value): ∀n:Nat,zaN O W F η (List.replicate n (z.map zdB)).flatten (List.replicate n z).flatten
 | 0=>by simp[zaN]
 | n+1=>by
  rw[List.replicate_succ,List.replicate_succ,List.flatten_cons,List.flatten_cons];exact(zaN.append _ _ _).2 ⟨_,_,rfl,zdY z,zlD z O η n⟩

theorem bsE_sound(hm:Mem c O W F η S)(hρ: ∀x,zaL O W F η (ρ x) (a x)){dst:Nat}{t:TypeId}{len:Nat}{parts:Array (Nat×Operand)}{vc:Prop}{o':AO}{ids:List Nat}
  (h:bsE c.P ρ O t len parts=some (vc,o',ids)) (hvc:vc) (hf:zff dst (drop O ids)):
  ∃v W' F' η' S',(Instr.buildSlice t len (parts.map fun(i,x)=>(i,a x))).run c.P W= .ok v W'/\Mem c (upd (drop O ids) dst (some o')) W' F' η' S'/\za7 O (upd (drop O ids) dst (some o')) η η' [dst]/\
   (∀b,F b->F' b/\W'.heap[b]? =W.heap[b]?)/\zaL (upd (drop O ids) dst (some o')) W' F' η' (.ar dst len) v:=by
 unfold bsE at h;split at h
 case h_2=>cases h
 rename_i e k bytes hty;obtain⟨i,z,t1,t2,t3,t4,t5,t6,t7⟩:=zeW hty;split at h
 case h_2=>cases h
 rename_i ag sz z' hlay hz;obtain⟨i',u,z1,z2,z3⟩:=zeK hz;rw[t2]at z1;cases z1;rw[t3]at z2;cases z2;split at h
 case h_2=>cases h
 rename_i vc1 cs hfill;split at h
 case h_2=>cases h
 rename_i vc2 ds ids' hfrz;simp only[Option.some.injEq,Prod.mk.injEq]at h;obtain⟨rfl,rfl,rfl⟩:=h;obtain⟨hvc1,hvc2,hsz⟩:=hvc;subst z3;obtain⟨cells,hc1,hc2⟩:=zmt hm hρ (fun i=>some (i*k,k)) (fun i off ag n hp=>by
  simp only[Option.some.injEq,Prod.mk.injEq]at hp ⊢; exact⟨hp.1,hp.2.2⟩) parts.toList _ ((List.replicate len z.cells.toList).flatten) _ (zlD z.cells.toList O η len) hfill hvc1
 have hrd:=zmx (F':=fun b=>F b\/ ∃id∈ids',b∈S id) hm (fun b hb=>.inl hb) _ _ _ hc2 hfrz hvc2 (fun id hid b hb=>.inr ⟨id,hid,hb⟩);have hcl:cells.length=len*k:=by
  have h1:=zaN.length _ _ hc2;rw[zju _ _ _ hfill]at h1;simpa [t4]using h1
 have hdl:ds.length=len*k:=by rw[<-zav.length _ _ hrd]; exact hcl
 obtain⟨hm1,hF1⟩:=hm.dropL (W':=W) (F':=fun b=>F b\/ ∃id∈ids',b∈S id) ids' (Below.refl _ _) (fun b hb=>.inl hb) (fun b hb=>by
  rcases hb with hb | hb
  ·exact .inl hb
  ·exact .inr (.inr hb))
 have hpl:len<=maxLen:=by
  unfold maxLen;have:len*1<=len*k:=Nat.mul_le_mul_left len t7;omega
 have hrun:(Instr.buildSlice t len (parts.map fun(i,x)=>(i,a x))).run c.P W= .ok (.slice (some ⟨W.heap.size,0,none⟩) len len) (W.alloc (.cells cells.toArray e)):=by
  have hparts:(parts.map fun(i,x)=>(i,a x)).toList =parts.toList.map fun p=>(p.1,a p.2):=by simp
  by_cases h0:len=0
  ·subst h0;have hcells:cells=[]:=List.eq_nil_of_length_eq_zero (by simpa using hcl);subst hcells;simp only[List.replicate_zero,List.flatten_nil]at hc1;have h0:Array.range 0=#[]:=rfl;simp[Instr.buildSlice,run_underlying t1,sizeOf,typeInfo,t2,newRow,t5,h0,hc1]
  ·refine run_buildSlice W t e len _ cells.toArray i z t1 t2 t3 (by rw[t5]; omega) (by rw[t5]; intro e; rcases Nat.mul_eq_zero.1 e with h | h <;> omega) ?_;rw[t5,hparts];have:=zmX z.cells len;rw[t4]at this;rw[show(fun x=>z.cells[x % z.cells.size]!)=(fun x=>z.cells[x % k]!) by rw[t4],this];exact hc1
 have hk:=za7.newA (drop O ids') η dst (.arr e k .flat (zgF k len ds)) (.slice (some ⟨W.heap.size,0,none⟩) len len);obtain⟨m1,m2⟩:=Mem.newArr (id:=dst) (e:=e) (k:=k) (es:=zgF k len ds) (cap:=len) (W':=W.alloc (.cells cells.toArray e)) hm1 [dst] rfl rfl rfl rfl
  (zny k len ds hdl) (by rw[zdZ]; exact Nat.le_refl _) hpl (by simpa using hcl)
  (by rw[zhs k len ds hdl,zdZ]; simp only[hcl.symm,List.take_length]; exact hrd) (by rw[zdZ]; exact hk) (fun i o ho _=>hf.2 i o ho)
 rw[zdZ]at m1;refine⟨_,_,_,_,_,hrun,m1,(za7.drop O η ids').trans hk (by simp),fun b hb=>⟨.inl hb,(m2 b (.inl hb)).2⟩,?_⟩;simp only[zaL];intro e' k' d' es' ho;simp only[upd,if_true,Option.some.injEq,AO.arr.injEq]at ho;obtain⟨_,_,_,rfl⟩:=ho;rw[zdZ];exact⟨Nat.le_refl _,fun _=>by simp[upd]⟩
end
end Go.Aw
