/- Machinery. Conditions: those of each. -/
import Derived.Test.YtplfjjgkbnolhaaGreatDoorGSb
import Derived.Test.YtplfjjgkbnolhaaGreatDoorGQv
import Derived.Lib.AppendStr
set_option linter.unusedSimpArgs false
set_option linter.unusedVariables false
/-
 VARIABLES WHOSE TYPE IS KNOWN, as own arrays of one element whose cells hold other values; a string's bytes appended to an own array; a nil slice in such a cell taken as own array.
 Conditions: those of each law; over any program.
-/
namespace Go.Aw
open Go.RowKit Go.Lib

section
variable {c:Ctx} {O:zbI} {W:World} {F:Nat->Prop} {η:Nat->Value} {S:Nat->List Nat} {ρ:Operand->AV} {a:Operand->Value}

def hsOf:Nat->List AV->List (Nat×AV)
 | _,[]=>[]
 | i,x::xs=>(i,x)::hsOf (i+1) xs
theorem zGY: ∀(cs:List AV) (i j:Nat) (x:AV),cs[j]? =some x->(hsOf i cs).lookup (i+j)=some x
 | [],_,_,_,h=>by simp at h
 | y::cs,i,0,x,h=>by
  simp only[List.getElem?_cons_zero,Option.some.injEq]at h;subst h;simp[hsOf]
 | y::cs,i,j+1,x,h=>by
  have:((i+(j+1):Nat)==i)=false:=beq_eq_false_iff_ne.2 (by omega);simp only[hsOf,List.lookup_cons,this];have:=zGY cs (i+1) j x (by simpa using h);rwa [show i+1+j=i+(j+1) by omega]at this
def bxE(P:Program)(dst:Nat)(ρ:Operand->AV)(O:zbI)(t:TypeId)(x:Operand):Option (Prop×AV×Nat×AO×List Nat×Bool):=
 match lay P t with
 | some (ag,n)=>match cellsOf ag (ρ x)with
  | some cs=>some ((ones O cs/\AV.noRefs [dst] cs)/\cs.length=n/\0<n,.ep dst 1 0 0,dst,.arr t n (.deep [] (hsOf 0 cs)) [cs.map fun _=>D.lit undef],[],true)
  | none=>none
 | none=>none
theorem ownHs_bx{hs:List (Nat×AV)}: ∀(cs:List AV) (vs:List Value) (i:Nat),(∀j x,cs[j]? =some x->hs.lookup (i+j)=some x)->zaN O W F η cs vs->zdA O W F η [] hs i (cs.map fun _=>D.lit undef) vs []
 | [],vs,i,_,h=>by simp only[zaN]at h; subst h; simp[zdA]
 | x::cs,vs,i,hl,h=>by
  simp only[zaN]at h;obtain⟨v,rest,rfl,h1,h2⟩:=h;simp only[List.map_cons,zdA];refine⟨v,rest,[],[],rfl,rfl,?_,ownHs_bx cs rest (i+1) (fun j y hj=> ?_) h2⟩
  ·have:=hl 0 x rfl;rw[Nat.add_zero]at this;rw[this];exact⟨h1,rfl⟩
  ·have:=hl (j+1) y (by simpa using hj);rwa [show i+(j+1)=i+1+j by omega]at this
theorem bxE_sound(hm:Mem c O W F η S)(hρ: ∀x,zaL O W F η (ρ x) (a x)){dst:Nat}{t:TypeId}{x:Operand}{vc:Prop}{V:AV}{id:Nat}{o':AO}{ids:List Nat}{isNew:Bool}
  (h:bxE c.P dst ρ O t x=some (vc,V,id,o',ids,isNew)) (hvc:vc) (hf:zff dst O):
  (id=dst/\ids=[]/\isNew=true)/\ ∃v W' η' S',(Instr.box t (a x)).run c.P W= .ok v W'/\Mem c (upd O id (some o')) W' F η' S'/\za7 O (upd O id (some o')) η η' [dst]/\
   (∀b,F b->F b/\W'.heap[b]? =W.heap[b]?)/\zaL (upd O id (some o')) W' F η' V v:=by
 unfold bxE at h;split at h
 case h_2=>cases h
 rename_i ag n hl;split at h
 case h_2=>cases h
 rename_i cs hcs;simp only[Option.some.injEq,Prod.mk.injEq]at h;obtain⟨rfl,rfl,rfl,rfl,rfl,rfl⟩:=h;obtain⟨⟨h1,hn⟩,hlen,hpos⟩:=hvc;refine⟨⟨rfl,rfl,rfl⟩,?_⟩;have hc:=ziC hm (hρ x) hcs h1;have hvl:=zaN.length cs _ hc;have hk:=za7.newA O η dst (.arr t n (.deep [] (hsOf 0 cs)) [cs.map fun _=>D.lit undef]) (.slice (some ⟨W.heap.size,0,none⟩) 1 1);have hS:=hm.gone dst hf.1;obtain⟨m1,m2⟩:=Mem.change (W':=W.alloc (.cells (a x).cells t)) (F':=F) hm dst (some (.arr t n (.deep [] (hsOf 0 cs)) [cs.map fun _=>D.lit undef])) (.slice (some ⟨W.heap.size,0,none⟩) 1 1) [W.heap.size] [dst] rfl rfl rfl (by simp)
  (fun b hb _=>Below.heap_alloc W _ b hb) (fun _ h=>h) (fun _ h=>.inl h) (fun b hb hF=>by have:=hm.flt b hF; simp at hb; omega)
  (by simp) (fun b hb=>.inr (by simp at hb ⊢; omega)) (fun h=>by cases h) hk (fun id o ho _=>hf.2 id o ho)
  (fun o ho hF=>by
   cases ho;refine⟨by unfold maxLen; simp,by simp[hlen],.inr ⟨W.heap.size,1,(a x).cells,[],rfl,heap_alloc_new W _,by simp,by unfold maxLen; omega,?_,rfl,?_⟩⟩
   ·rw[Nat.one_mul,<-hlen,<-hvl]; simp
   ·have e1:[cs.map fun _=>D.lit undef].flatten =cs.map fun _=>D.lit undef:=by simp
    have e2:(a x).cells.toList.take ([cs.map fun _=>D.lit undef].length *n)=(a x).cells.toList :=by
     rw[List.take_of_length_le];simp only[List.length_singleton,Nat.one_mul];omega
    rw[e1,e2];exact ownHs_bx cs _ 0 (fun j y hj=>zGY cs 0 j y hj) (zaN.pres hk hF cs _ hn hc))
 refine⟨_,_,_,_,(show(Instr.box t (a x)).run c.P W= .ok (.pointer (some ⟨W.heap.size,0,none⟩)) (W.alloc (.cells (a x).cells t)) by simp[Instr.box,newVar,newRow]),m1,hk,m2,?_⟩;simp only[zaL];intro e' k' dep' es' ho;simp only[upd,if_true,Option.some.injEq,AO.arr.injEq]at ho;obtain⟨rfl,rfl,rfl,rfl⟩:=ho;exact⟨by simp,fun _=>⟨W.heap.size,1,1,by simp[upd],by simp⟩⟩

def zAr(b:ByteArray):List (List D):=b.data.toList.map fun c=>[.lit (.int .u8 c.toNat)]
def apT(P:Program)(ρ:Operand->AV)(O:zbI)(t t':TypeId)(s x:Operand):Option (Prop×AV×Nat×AO×List Nat×Bool):=
 match zdj P t,P.underlying t',ρ x with
 | some (e,k,bytes),some .string,.d (.lit (.string b))=>match ρ s with
  | .ar id n=>match O id with
   | some (.arr e' k' .flat es)=>some ((k=1/\bytes=1)/\(e'=e/\k'=1/\n=es.length)/\es.length+b.size<=140737488355328,.ar id (es.length+b.size),id,.arr e' k' .flat (es++zAr b),[],false)
   | _=>none
  | _=>none
 | _,_,_=>none
theorem zAd(b:ByteArray):(zAr b).length =b.size:=by
 unfold zAr;rw[List.length_map,Array.length_toList];rfl
theorem strRows_flat(b:ByteArray):(zAr b).flatten =b.data.toList.map fun c=>D.lit (.int .u8 c.toNat):=by
 unfold zAr
 induction b.data.toList with
 | nil=>rfl
 | cons x l ih=>simp only[List.map_cons,List.flatten_cons,ih]; rfl
theorem rd_strRows(W:World)(F:Nat->Prop)(b:ByteArray):zav W F (zAr b).flatten (strCells b):=by
 rw[strRows_flat];unfold strCells
 induction b.data.toList with
 | nil=>simp[zav]
 | cons x l ih=>simp only[List.map_cons,zav]; exact⟨_,_,rfl,by simp[Rd],ih⟩
theorem zES{P:Program}{W:World}{t u ty e:TypeId}{i:TypeInfo}(ht:P.underlying t=some (.slice e))(hu:P.underlying u=some .string)(hi:P.info? e=some i)(h1:i.size=1)(s:Option Addr)(n cap:Nat)(hn:n<=cap)(b:ByteArray)(hb:b.size=0):
  (Builtin.append_ #[t,u] ty #[.slice s n cap,.string b]).run P W= .ok (.slice s n cap) W:=by
 have hf:=run_firstCells_string (P:=P) W 1 b;have h0:strCells b=[]:=List.eq_nil_of_length_eq_zero (by rw[strCells_length]; exact hb);rw[hb,h0]at hf;cases s <;> simp[Builtin.append_,run_underlying ht,run_underlying hu,sizeOf,typeInfo,hi,h1,Builtin.lenOf,hb,hn,hf,storeCells]
theorem apT_sound(hm:Mem c O W F η S)(hρ: ∀x,zaL O W F η (ρ x) (a x)){t t':TypeId}{s x:Operand}{vc:Prop}{V:AV}{id:Nat}{o':AO}{ids:List Nat}{isNew:Bool}
  (h:apT c.P ρ O t t' s x=some (vc,V,id,o',ids,isNew)) (hvc:vc) (ty:TypeId):
  (ids=[]/\isNew=false)/\ ∃v W' η' S',(Builtin.append_ #[t,t'] ty #[a s,a x]).run c.P W= .ok v W'/\Mem c (upd O id (some o')) W' F η' S'/\za7 O (upd O id (some o')) η η' []/\
   (∀b,F b->F b/\W'.heap[b]? =W.heap[b]?)/\zaL (upd O id (some o')) W' F η' V v:=by
 unfold apT at h;split at h
 case h_2=>cases h
 rename_i e k bytes b hty hu hxs;split at h
 case h_2=>cases h
 rename_i id' n hid;split at h
 case h_2=>cases h
 rename_i e' k' es hO;simp only[Option.some.injEq,Prod.mk.injEq]at h;obtain⟨rfl,rfl,rfl,rfl,rfl,rfl⟩:=h;obtain⟨⟨rfl,rfl⟩,⟨rfl,rfl,rfl⟩,hsz⟩:=hvc;refine⟨⟨rfl,rfl⟩,?_⟩;obtain⟨i,z,t1,t2,t3,t4,t5,t6,t7⟩:=zeW hty;have hx:a x= .string b:=by have:=hρ x; rw[hxs]at this; simpa [zaL,Rd]using this
 have hs:=hρ s;rw[hid]at hs;simp only[zaL]at hs;have hsv:=(hs _ _ _ _ hO).2 rfl;obtain⟨r1,r2,r3⟩:=hm.obj id' _ hO;have hbl:=zAd b;have hcl:=strCells_length b;have hrd:=rd_strRows W F b;have hone: ∀y∈zAr b,y.length=1:=fun y hy=>by
  simp only[zAr,List.mem_map]at hy;obtain⟨_,_,rfl⟩:=hy;rfl
 have fin: ∀(W':World) (v:Value),zaL (upd O id' (some (.arr e' 1 .flat (es++zAr b)))) W' F (upd η id' v) (.ar id' (es.length+b.size)) v:=by
  intro W' v;simp only[zaL];intro e2 k2 dep2 es2 ho;simp only[upd,if_true,Option.some.injEq,AO.arr.injEq]at ho;obtain⟨rfl,rfl,rfl,rfl⟩:=ho;exact⟨by rw[List.length_append,hbl]; omega,fun _=>by simp[upd]⟩
 by_cases h0:b.size=0
 ·have hy:zAr b=[]:=List.eq_nil_of_length_eq_zero (by omega);have hk:=za7.grow (O:=O) (η:=η) (ys:=[]) hO (η id') (fun _=>rfl);rw[zcb]at hk;have he: ∃ad0 n0 c0,η id'= .slice ad0 n0 c0/\n0<=c0:=by
   rcases r3 with⟨r4,_,_⟩ | ⟨g,cap,cur,s1,r4,hh,a1,_⟩
   ·obtain⟨ad,r4⟩:=r4; exact⟨_,_,_,r4,Nat.le_refl _⟩
   ·exact⟨_,_,_,r4,a1⟩
  obtain⟨ad0,n0,c0,hη,hle⟩:=he;have hO2:upd O id' (some (.arr e' 1 .flat (es++[])))=O:=by
   funext j;by_cases hj:j=id'
   ·subst hj; simp[upd,hO]
   ·simp[upd,hj]
  rw[hy];rw[hy]at fin;refine⟨_,W,η,S,by rw[hsv,hx,hη]; exact zES t1 hu t2 t5 ad0 n0 c0 hle b h0,by rw[hO2]; exact hm,hk,fun b hb=>⟨hb,rfl⟩,?_⟩;have:=fin W (η id');rw[zcb,hη]at this;exact this
 have hrows2: ∀y∈es++zAr b,y.length=1:=by
  intro y hy;rcases List.mem_append.1 hy with hy | hy
  ·exact r2 y hy
  ·exact hone y hy
 have hlen2:(es++zAr b).length =es.length+b.size:=by rw[List.length_append,hbl]
 rcases r3 with⟨r4,rfl,r6⟩ | ⟨g,cp,cur,s1,r4,hh,a1,a2,a3,a4,a5⟩
 ·obtain⟨ad1,r4⟩:=r4;have hcap1:=grownCap_ge W b.size 0 e';have hcap2:grownCap W b.size 0 e'<=maxLen:=grownCap_le_maxLen W b.size 0 e' (by unfold maxLen; simp at hsz; omega);have hrun:(Builtin.append_ #[t,t'] ty #[.slice ad1 0 0,.string b]).run c.P W= .ok (.slice (some ⟨W.heap.size,0,none⟩) b.size (grownCap W b.size 0 e')) (W.drew.alloc (.cells ((strCells b).toArray ++Builtin.zeroCells z.cells (grownCap W b.size 0 e'-b.size)) e')):=by
   cases ad1 with
   | none=>
    have hr:=run_append_nil_string (P:=c.P) W t t' ty e' i z t1 hu t2 t3 b (by omega) (by simp at hsz; omega) (by rw[t6]; simp at hsz; omega);have e1:(b.data.map fun b=>Value.int .u8 b.toNat)=(strCells b).toArray :=by
     apply Array.ext';simp[strCells]
    rw[e1]at hr;exact hr
   | some ad=>
    have hr:=run_append_grow_string (P:=c.P) W t t' ty e' i z t1 hu t2 t3 ad 0 0 [] (by simp) (by simp) b (by omega) (by simp at hsz; omega) (by rw[t6]; exact growslice_fits (by omega) (by simp at hsz; omega));simpa using hr
  have hk:=za7.grow (O:=O) (η:=η) (ys:=zAr b) hO (.slice (some ⟨W.heap.size,0,none⟩) ([]++zAr b).length (grownCap W b.size 0 e')) (fun h=>absurd (hbl▸h) h0);obtain⟨m1,m2⟩:=Mem.newArr (id:=id') (e:=e') (k:=1) (es:=[]++zAr b) (cap:=grownCap W b.size 0 e') (W':=W.drew.alloc (.cells ((strCells b).toArray ++Builtin.zeroCells z.cells (grownCap W b.size 0 e'-b.size)) e')) hm [] rfl rfl rfl rfl
   hrows2 (by rw[hlen2]; simp; omega) hcap2 (by simp only[Array.size_append,List.size_toArray,size_zeroCells,t4,t5,hcl]; omega)
   (by
    have e3:((strCells b).toArray ++Builtin.zeroCells z.cells (grownCap W b.size 0 e'-b.size)).toList.take (([]++zAr b).length *1)=strCells b:=by
     simp only[Array.toList_append,List.nil_append,Nat.mul_one,hbl];exact List.take_left' hcl
    rw[e3];exact hrd) hk (fun j o _ _=>AO.noRef_nil o)
  refine⟨_,_,_,_,by rw[hsv,r4,hx]; exact hrun,m1,hk,m2,?_⟩;have:=fin (W.drew.alloc (.cells ((strCells b).toArray ++Builtin.zeroCells z.cells (grownCap W b.size 0 e'-b.size)) e')) (.slice (some ⟨W.heap.size,0,none⟩) ([]++zAr b).length (grownCap W b.size 0 e'));rw[hlen2]at this ⊢;simpa using this
 ·obtain⟨a6,rfl⟩:=(zuK _ _ _).1 a5;have hfl:=zd6 es r2;simp only[Nat.mul_one]at a3 a6 hfl;have hol:(cur.toList.take es.length).length =es.length:=by simp; omega
  have hfl2:zav W F (es++zAr b).flatten (cur.toList.take es.length++strCells b):=by
   rw[List.flatten_append];exact(zav.append _ _ _).2 ⟨_,_,rfl,a6,hrd⟩
  by_cases hroom:es.length+b.size<=cp
  ·have hrun:=run_append_room_string (P:=c.P) W t t' ty e' i t1 hu t2 t5 g es.length cp cur hh b hroom (by omega);have hk:=za7.grow (O:=O) (η:=η) (ys:=zAr b) hO (.slice (some ⟨g,0,none⟩) (es.length+b.size) cp) (fun h=>absurd (hbl▸h) h0);have hset:=setRow_heap W g cur (cur.toList.take es.length++strCells b++cur.toList.drop (es.length+b.size)).toArray e' (0,0) hh;obtain⟨f1,f2,f3,f4⟩:=zgh W g (cur.toList.take es.length++strCells b++cur.toList.drop (es.length+b.size)).toArray;obtain⟨m1,m2⟩:=Mem.change (F':=F) hm id' (some (.arr e' 1 .flat (es++zAr b))) (.slice (some ⟨g,0,none⟩) (es.length+b.size) cp) [g] [] f1 f2 f3 (by omega)
    (fun j _ hj=>setRow_other W g j _ (by rintro rfl; exact hj (by rw[a4]; simp))) (fun _ h=>h) (fun _ h=>.inl h) (fun j hj=>(hm.apart id' j (by rw[a4]; exact hj)).1) (by simp) (fun j hj=>.inl (by rw[a4]; exact hj)) (fun h=>by cases h) hk
    (fun j o _ _=>AO.noRef_nil o)
    (fun o ho hF=>by
     cases ho;refine⟨by rw[hlen2]; unfold maxLen; omega,hrows2,.inr ⟨g,cp,_,[],by rw[hlen2],hset,by rw[hlen2]; exact hroom,a2,?_,rfl,?_⟩⟩
     ·simp only[List.size_toArray,List.length_append,List.length_take,List.length_drop,Array.length_toList,hcl];omega
     ·rw[zuK];refine⟨?_,rfl⟩;have e1:(cur.toList.take es.length++strCells b++cur.toList.drop (es.length+b.size)).toArray.toList.take ((es++zAr b).length *1)=cur.toList.take es.length++strCells b:=by
       simp only[Nat.mul_one,hlen2];exact List.take_left' (by rw[List.length_append,hol,hcl])
      rw[e1];exact zav.mono hF _ _ hfl2)
   refine⟨_,_,_,_,by rw[hsv,r4,hx]; exact hrun,m1,hk,m2,fin _ _⟩
  ·have hrun:=run_append_grow_string (P:=c.P) W t t' ty e' i z t1 hu t2 t3 ⟨g,0,none⟩ es.length cp (cur.toList.take es.length) (by rw[t5,Nat.mul_one]; exact hol) (fun j v hj=>by
     grind [Addr.add_lit,World.cell?]) b (by omega) (by omega) (by rw[t6]; exact growslice_fits (by omega) (by omega))
   have hcap1:=grownCap_ge W (es.length+b.size) cp e';have hcap2:grownCap W (es.length+b.size) cp e'<=maxLen:=grownCap_le_maxLen W (es.length+b.size) cp e' (by unfold maxLen; omega);have hk:=za7.grow (O:=O) (η:=η) (ys:=zAr b) hO (.slice (some ⟨W.heap.size,0,none⟩) (es++zAr b).length (grownCap W (es.length+b.size) cp e')) (fun h=>absurd (hbl▸h) h0);obtain⟨m1,m2⟩:=Mem.newArr (id:=id') (e:=e') (k:=1) (es:=es++zAr b) (cap:=grownCap W (es.length+b.size) cp e')
    (W':=W.drew.alloc (.cells ((cur.toList.take es.length).toArray ++(strCells b).toArray ++Builtin.zeroCells z.cells (grownCap W (es.length+b.size) cp e'-(es.length+b.size))) e')) hm [] rfl rfl rfl rfl
    hrows2 (by rw[hlen2]; exact hcap1) hcap2 (by simp only[Array.size_append,List.size_toArray,size_zeroCells,t4,t5,hol,hcl]; omega)
    (by
     have e3:((cur.toList.take es.length).toArray ++(strCells b).toArray ++Builtin.zeroCells z.cells (grownCap W (es.length+b.size) cp e'-(es.length+b.size))).toList.take ((es++zAr b).length *1)=cur.toList.take es.length++strCells b:=by
      simp only[Array.toList_append,Nat.mul_one,hlen2];exact List.take_left' (by rw[List.length_append,hol,hcl])
     rw[e3];exact hfl2) hk (fun j o _ _=>AO.noRef_nil o)
   refine⟨_,_,_,_,by rw[hsv,r4,hx]; exact hrun,m1,hk,m2,?_⟩;rw[hlen2];exact fin _ _

theorem Rel.adoptH{σ:St}{a:Act}(h:Rel c σ a W){id nw i j:Nat}{e e':TypeId}{k k':Nat}{tys:List (TypeId×Nat)}{hs:List (Nat×AV)}{es:List (List D)}(hO:σ.objs id=some (.arr e k (.deep tys hs) es))(hi:i<es.length)(hj:j<k)
  (hl:hs.lookup (i*k+j)=some .nils) (hf:zff nw σ.objs) (hn: ∀t,(σ.tmps t).noRef [nw]):
  Rel c ⟨σ.tmps,upd (upd σ.objs nw (some (.arr e' k' .flat []))) id (some (.arr e k (.deep tys (zFv (i*k+j) (.ar nw 0) hs)) es))⟩ a W:=by
 obtain⟨hsz,hdf,F,η,S,hm,hr⟩:=h;have hne:id≠nw:=by rintro rfl; rw[hf.1]at hO; cases hO
 have hk:=za7.newA σ.objs η nw (.arr e' k' .flat []) (.slice none 0 0);obtain⟨m1,m2⟩:=Mem.change (W':=W) (F':=F) hm nw (some (.arr e' k' .flat [])) (.slice none 0 0) [] [nw] rfl rfl rfl (Nat.le_refl _) (fun _ _ _=>rfl) (fun _ h=>h) (fun _ h=>.inl h) (by simp) (by simp) (by simp) (fun _=>rfl) hk
  (fun i o ho _=>hf.2 i o ho) (fun o ho _=>by cases ho; exact⟨by simp,by simp,.inl ⟨⟨_,rfl⟩,rfl,rfl⟩⟩)
 have hO1:upd σ.objs nw (some (AO.arr e' k' .flat [])) id=some (.arr e k (.deep tys hs) es):=by simp[upd,hne,hO]
 obtain⟨d,hd⟩:=zD8 m1 hO1 hi hj;obtain⟨g,cap,cur,u,sa,s1,sb,h1,h2,h3,h4,h5,h6,h7,h8⟩:=zwA m1 hO1 hi hj hd;unfold znF at h7;rw[hl]at h7;obtain⟨h7,rfl⟩:=h7;simp only[zaL]at h7;have hk2:za7 (upd σ.objs nw (some (.arr e' k' .flat []))) (upd (upd σ.objs nw (some (.arr e' k' .flat []))) id (some (.arr e k (.deep tys (zFv (i*k+j) (.ar nw 0) hs)) es))) (upd η nw (.slice none 0 0)) (upd (upd η nw (.slice none 0 0)) id (upd η nw (.slice none 0 0) id)) []:=by
  rw[zcb];intro x o ho;by_cases hx:x=id
  ·subst hx;simp only[upd,if_true,Option.some.injEq]at ho;subst ho;exact .inr ⟨_,hO1,by simp⟩
  ·simp only[upd,if_neg hx]at ho;exact za7.refl _ _ x o (by simpa [upd]using ho)
 have hset2:es.set i ((es.getD i []).set j d)=es:=by grind [zm7]
 obtain⟨n1,n2⟩:=Mem.change (W':=W) (F':=F) m1 id (some (.arr e k (.deep tys (zFv (i*k+j) (.ar nw 0) hs)) es)) (upd η nw (.slice none 0 0) id) (upd S nw [] id) [] rfl rfl rfl (Nat.le_refl _) (fun _ _ _=>rfl) (fun _ h=>h) (fun _ h=>.inl h) (fun x hx=>(m1.apart id x hx).1) (m1.nd id) (fun x hx=>.inl hx) (fun h=>by cases h) hk2
  (fun i o _ _=>AO.noRef_nil o) (fun o ho hF=>by
   cases ho;rw[zcb]at hk2 ⊢;have:=h8 (upd (upd σ.objs nw (some (.arr e' k' .flat []))) id (some (.arr e k (.deep tys (zFv (i*k+j) (.ar nw 0) hs)) es))) W F (upd η nw (.slice none 0 0)) (zFv (i*k+j) (.ar nw 0) hs) d u [] (fun m hm=>by
     rw[zB9,if_neg hm]) (fun x hx v' hv'=>zaL.pres hk2 hF x v' (AV.noRef_nil _) hv') hF (fun _ _=>rfl)
    (by
     unfold znF;rw[zB9,if_pos rfl,hl];refine⟨?_,rfl⟩;subst h7;show zaL _ _ _ _ (AV.ar nw 0) (.slice none 0 0);simp only[zaL];intro e2 k2 dep2 es2 ho;have hne':nw≠id:=fun e=>hne e.symm;simp only[upd,if_neg hne',if_true,Option.some.injEq,AO.arr.injEq]at ho;obtain⟨rfl,rfl,rfl,rfl⟩:=ho;exact⟨by simp,fun _=>by simp[upd]⟩)
    (by rw[h2,zF1 h4])
   rw[hset2]at this;rw[h3];exact this)
 exact⟨hsz,hdf,F,_,_,n1,fun t=>zaL.pres hk2 n2 _ _ (AV.noRef_nil _) (zaL.pres hk m2 _ _ (hn t) (hr t))⟩
end
end Go.Aw
