/- Machinery. Conditions: those of each. -/
import Derived.Test.YtplfjjgkbnolhaaGreatDoorGB
set_option linter.unusedSimpArgs false
set_option linter.unusedVariables false
/-
 MAKE WITH A LENGTH: a slice of zeros is a new own array.
-/
namespace Go.Aw
def msE(P:Program)(dst:Nat)(ρ:Operand->AV)(t:TypeId)(l m:Operand):Option (Prop×AV×Nat×AO×List Nat×Bool):=
 match zdj P t with
 | some (e,k,bytes)=>match zad P e with
  | some z=>match zwy (z.map zdB)with
   | some ds=>match ρ l,ρ m with
    | .d (.lit (.int .i64 n)),.d (.lit (.int .i64 n'))=>some ((0<=n/\n=n'/\n.toNat*bytes<=140737488355328/\n.toNat<=140737488355328),.ar dst n.toNat,dst,.arr e k .flat (List.replicate n.toNat ds),[],true)
    | _,_=>none
   | none=>none
  | none=>none
 | none=>none
section
variable {c:Ctx} {O:zbI} {W:World} {F:Nat->Prop} {η:Nat->Value} {S:Nat->List Nat} {ρ:Operand->AV} {a:Operand->Value}
theorem zxB{P:Program}{W:World}{t e:TypeId}{i:TypeInfo}{z:Value}{k bytes:Nat}(t1:P.underlying t=some (.slice e))(t2:P.info? e=some i)(t3:i.zero=some z)(t4:z.cells.size=k)(t5:i.size=k)(t6:i.bytes=bytes)(t7:0<k){n:Int}(h0:0<=n)(h1:n.toNat*bytes<=140737488355328)(h2:n.toNat<=140737488355328):
  (Instr.makeSlice t (.int .i64 n) (.int .i64 n)).run P W= .ok (.slice (some ⟨W.heap.size,0,none⟩) n.toNat n.toNat) (W.alloc (.cells (List.replicate n.toNat z.cells.toList).flatten.toArray e)):=by
 have hw:IntKind.i64.wrap n=n:=by
  simp only[IntKind.wrap,IntKind.bits,IntKind.signed];simp;omega
 have hn:(n.toNat:Int)=n:=Int.toNat_of_nonneg h0;have hb: ¬(2:Int) ^ 48<(bytes:Int)*n:=by
  have h3:(bytes:Int)*n=((n.toNat*bytes:Nat):Int):=by rw[Int.natCast_mul,hn,Int.mul_comm]
  rw[h3];omega
 have hlt: ¬n<0:=by omega
 simp[Instr.makeSlice,run_underlying t1,asInt,asIntOf,sizeOf,typeInfo,t2,t5,t6,hw,hb,hlt,newRow,askRoom];have hb': ¬(281474976710656:Int)<(bytes:Int)*n:=by
  have h3:(bytes:Int)*n=((n.toNat*bytes:Nat):Int):=by rw[Int.natCast_mul,hn,Int.mul_comm]
  rw[h3];omega
 rw[if_neg hb'];by_cases hz:n.toNat*k=0
 ·have h0':n.toNat=0:=by
   rcases Nat.mul_eq_zero.1 hz with h | h <;> omega
  rw[if_pos hz,h0'];have hr:Array.range 0=#[]:=rfl;simp[hr]
 ·rw[if_neg hz];have hm:=zmX z.cells n.toNat;rw[t4]at hm;simp[zeroValue,typeInfo,t2,t3,t4,hm,Result.andThen]
theorem zoB{ds:List D}{z:List Value}(h:zav W F ds z): ∀n:Nat,zav W F (List.replicate n ds).flatten (List.replicate n z).flatten
 | 0=>by simp[zav]
 | n+1=>by
  rw[List.replicate_succ,List.replicate_succ,List.flatten_cons,List.flatten_cons];exact(zav.append _ _ _).2 ⟨_,_,rfl,h,zoB h n⟩
theorem msE_sound(hm:Mem c O W F η S)(hρ: ∀x,zaL O W F η (ρ x) (a x)){dst:Nat}{t:TypeId}{l m:Operand}{vc:Prop}{V:AV}{id:Nat}{o':AO}{ids:List Nat}{b:Bool}
  (h:msE c.P dst ρ t l m=some (vc,V,id,o',ids,b)) (hvc:vc) (hf:zff dst O):id=dst/\ids=[]/\b=true/\
  ∃v W' η' S',(Instr.makeSlice t (a l) (a m)).run c.P W= .ok v W'/\Mem c (upd O dst (some o')) W' F η' S'/\za7 O (upd O dst (some o')) η η' [dst]/\
   (∀b,F b->F b/\W'.heap[b]? =W.heap[b]?)/\zaL (upd O dst (some o')) W' F η' V v:=by
 unfold msE at h;split at h
 case h_2=>cases h
 rename_i e k bytes hty;obtain⟨i,z,t1,t2,t3,t4,t5,t6,t7⟩:=zeW hty;split at h
 case h_2=>cases h
 rename_i z' hz;obtain⟨i',u,z1,z2,z3⟩:=zeK hz;rw[t2]at z1;cases z1;rw[t3]at z2;cases z2;split at h
 case h_2=>cases h
 rename_i ds hds;split at h
 case h_2=>cases h
 rename_i n n' hl hn';simp only[Option.some.injEq,Prod.mk.injEq]at h;obtain⟨rfl,rfl,rfl,rfl,rfl,rfl⟩:=h;obtain⟨h0,rfl,h1,h2⟩:=hvc;have hx:=hρ l;have hy:=hρ m;rw[hl]at hx;rw[hn']at hy;simp only[zaL,Rd]at hx hy;subst z3;have hrun:(Instr.makeSlice t (a l) (a m)).run c.P W= .ok (.slice (some ⟨W.heap.size,0,none⟩) n.toNat n.toNat) (W.alloc (.cells (List.replicate n.toNat z.cells.toList).flatten.toArray e)):=by
  rw[hx,hy]; exact zxB t1 t2 t3 t4 t5 t6 t7 h0 h1 h2
 have hds:zav W F ds z.cells.toList:=by
  have h5:=zdY (O:=O) (W:=W) (F:=F) (η:=η) z.cells.toList;rwa [zj2 _ _ hds,zaN.of_ds]at h5
 have hdl:ds.length=k:=by rw[<-zav.length _ _ hds]; simpa using t4
 have hk:=za7.newA O η dst (.arr e k .flat (List.replicate n.toNat ds)) (.slice (some ⟨W.heap.size,0,none⟩) n.toNat n.toNat);have hcl:((List.replicate n.toNat z.cells.toList).flatten).length =n.toNat*k:=by simp[t4]
 obtain⟨m1,m2⟩:=Mem.newArr (id:=dst) (e:=e) (k:=k) (es:=List.replicate n.toNat ds) (cap:=n.toNat) (W':=W.alloc (.cells (List.replicate n.toNat z.cells.toList).flatten.toArray e)) hm [dst] rfl rfl rfl rfl
  (fun x hx=>by rw[(List.mem_replicate.1 hx).2]; exact hdl) (by simp) (by unfold maxLen; omega) (by simpa using hcl)
  (by simp only[List.length_replicate]; rw[<-hcl]; simp only[List.take_length]; exact zoB hds _) (by rw[List.length_replicate]; exact hk) (fun i o ho _=>hf.2 i o ho)
 rw[List.length_replicate]at m1;refine⟨rfl,rfl,rfl,_,_,_,_,hrun,m1,hk,m2,?_⟩;simp only[zaL];intro e' k' d' es' ho;simp only[upd,if_true,Option.some.injEq,AO.arr.injEq]at ho;obtain⟨_,_,_,rfl⟩:=ho;rw[List.length_replicate];exact⟨Nat.le_refl _,fun _=>by simp[upd]⟩
end
end Go.Aw
