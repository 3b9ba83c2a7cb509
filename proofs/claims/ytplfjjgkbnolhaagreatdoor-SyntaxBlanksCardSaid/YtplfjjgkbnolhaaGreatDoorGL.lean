/- Machinery. Conditions: those of each. -/
import Derived.Test.YtplfjjgkbnolhaaGreatDoorGC
import Derived.Carry
import Derived.ProofKit
import Derived.JoinedCond
set_option linter.unusedSimpArgs false
set_option linter.unusedVariables false
/-
 FROM A STATEMENT'S FORM TO CONTRACTS ON DATA: arguments that read as Go's data read as plain data of their types' zh7; a function that answers true by contract meets its law's statement.
 Conditions: those of each law; over any program.
-/
namespace Go.Aw
open Go.RowKit Go.ChangeShapes Go.WideShapes

inductive Sh where
 | bool
 | int (k:IntKind)
 | str
 | sl (row:List Sh)
mutual
def Sh.fits:Sh->D->Prop
 | .bool,d=> ∃b,d= .lit (.bool b)
 | .int k,d=> ∃n,d= .lit (.int k n)/\(Lit.int k n).wf =true
 | .str,d=> ∃s:ByteArray,d= .lit (.string s)/\s.size<=maxLen
 | .sl row,d=> ∃es:List (List D),d= .sl es/\ ∀e∈es,Sh.fitsL row e
def Sh.fitsL:List Sh->List D->Prop
 | [],ds=>ds=[]
 | s::ss,ds=> ∃d r,ds=d::r/\Sh.fits s d/\Sh.fitsL ss r
end
def zfi:Value->Nat
 | .string s=>s.size+1
 | _=>1
mutual
def D.bulk:D->Nat
 | .lit v=>zfi v
 | .sl es=>D.bulkLL es+1
 | .agg cs=>D.bulkL cs
 | _=>1
def D.bulkL:List D->Nat
 | []=>0
 | x::xs=>D.bulk x+D.bulkL xs
def D.bulkLL:List (List D)->Nat
 | []=>0
 | x::xs=>D.bulkL x+D.bulkLL xs
end
mutual
def zbt{H:Type}:DataW H->Nat
 | .lit (.string bytes)=>bytes.length+1
 | .lit _=>1
 | .nil =>1
 | .ptr d=>zbt d+1
 | .slice elems spare=>zbv elems+zbv spare+1
 | .agg parts=>zbv parts+1
 | .iface _ d=>zbt d+1
 | .map _=>1
 | .held _=>1
def zbv{H:Type}:List (DataW H)->Nat
 | []=>0
 | d::r=>zbt d+zbv r
end

def ziI(f:TypeId->Option (List Sh))(n:TypeId->Nat):Nat->List Field->Option (List Sh)
 | _,[]=>some []
 | off,x::r=>match f x.type with
  | some s=>if x.offset=off/\s.length=n x.type then(ziI f n (off+n x.type) r).map (s++ ·)else none
  | none=>none
def zhz(s:List Sh):Nat->List Sh
 | 0=>[]
 | m+1=>s++zhz s m
def zh7(P:Program):Nat->TypeId->Option (List Sh)
 | 0,_=>none
 | n+1,t=>match P.underlying t with
  | some .bool =>some [.bool]
  | some (.int k)=>some [.int k]
  | some .string =>some [.str]
  | some (.slice e)=>match zh7 P n e with
   | some r=>if r.length=P.cellsOf e/\r≠[]then some [.sl r]else none
   | none=>none
  | some (.struct fs)=>match ziI (zh7 P n) P.cellsOf 0 fs.toList with
   | some r=>if r.length=P.cellsOf t then some r else none
   | none=>none
  | some (.array m e)=>match zh7 P n e with
   | some r=>if r.length=P.cellsOf e/\(zhz r m).length =P.cellsOf t then some (zhz r m)else none
   | none=>none
  | _=>none

def zGs(w:World):Nat->Prop:=fun b=>b<w.heap.size
section
variable {H:Type} {enc:TypeId×Value->H} {P:Program} {w:World} {sp:Nat->Bool}

theorem zI2{a:Addr}{v:Value}(h:w.cell? a=some v):a.spot=none/\a.block<w.heap.size:=by
 refine⟨World.cell?_spot h,?_⟩;simp only[World.cell?]at h;rcases Nat.lt_or_ge a.block w.heap.size with h1 | h1
 ·exact h1
 ·rw[Array.getElem?_eq_none h1]at h; cases h
theorem zav.app{F:Nat->Prop}: ∀ {d1 d2:List D} {v1 v2:List Value},zav w F d1 v1->zav w F d2 v2->zav w F (d1++d2) (v1++v2)
 | [],_,_,_,h1,h2=>by simp only[zav]at h1; subst h1; exact h2
 | d::ds,_,_,_,h1,h2=>by
  simp only[zav]at h1;obtain⟨v,r,rfl,h3,h4⟩:=h1;simp only[List.cons_append,zav];exact⟨v,_,rfl,h3,zav.app h4 h2⟩
theorem zsG: ∀ {s1 s2:List Sh} {d1 d2:List D},Sh.fitsL s1 d1->Sh.fitsL s2 d2->Sh.fitsL (s1++s2) (d1++d2)
 | [],_,_,_,h1,h2=>by simp only[Sh.fitsL]at h1; subst h1; exact h2
 | s::ss,_,_,_,h1,h2=>by
  simp only[Sh.fitsL]at h1;obtain⟨d,r,rfl,h3,h4⟩:=h1;simp only[List.cons_append,Sh.fitsL];exact⟨d,_,rfl,h3,zsG h4 h2⟩
theorem zhB: ∀d1 d2:List D,D.bulkL (d1++d2)=D.bulkL d1+D.bulkL d2
 | [],d2=>by simp[D.bulkL]
 | d::ds,d2=>by simp only[List.cons_append,D.bulkL,zhB ds d2]; omega
theorem fitsL_len: ∀ {s:List Sh} {d:List D},Sh.fitsL s d->d.length=s.length
 | [],_,h=>by simp only[Sh.fitsL]at h; simp[h]
 | s::ss,_,h=>by
  simp only[Sh.fitsL]at h;obtain⟨d,r,rfl,_,h4⟩:=h;simp[fitsL_len h4]
theorem cells_rd{F:Nat->Prop}{ds:List D}{vs:List Value}(h:zav w F ds vs): ∀(b off:Nat),(∀i (hi:i<vs.length),w.cell? ⟨b,off+i,none⟩=some vs[i])->zbd w F ds b off:=by
 induction ds generalizing vs with
 | nil=>intro b off _; simp only[zbd]
 | cons d ds ih=>
  intro b off hc;simp only[zav]at h;obtain⟨v,r,rfl,h3,h4⟩:=h;simp only[zbd];refine⟨⟨v,hc 0 (by simp),h3⟩,ih h4 b (off+1) (fun i hi=> ?_)⟩;have:=hc (i+1) (by simp; omega);simpa [Nat.add_assoc,Nat.add_comm 1 i]using this
theorem zoV{a:Addr}{n:Nat}{cs:List Value}(h:w.cells? 0 a n=some cs)(hn:0<n):cs.length=n/\a.spot=none/\a.block<w.heap.size/\ ∀i (hi:i<cs.length),w.cell? ⟨a.block,a.off+i,none⟩=some cs[i]:=by
 unfold World.cells? at h;rw[if_pos (Nat.zero_le _)]at h;have hl:cs.length=n:=by simpa using mapM_some_length h
 have hg: ∀i (hi:i<cs.length),w.cell? (a.add i)=some cs[i]:=by
  intro i hi;have:=mapM_some_get h i i (by rw[List.getElem?_range (by omega)]);rw[this];simp[hi]
 have h0:=hg 0 (by omega);have hs:a.spot=none:=by
  have:=(zI2 h0).1;unfold Addr.add at this;simpa using this
 refine⟨hl,hs,?_,fun i hi=> ?_⟩
 ·have:=(zI2 h0).2;unfold Addr.add at this;simpa using this
 ·have h1:=hg i hi;have e:a.add i=⟨a.block,a.off+i,none⟩:=by
   have h2:=(zI2 h1).1;unfold Addr.add at h2 ⊢;split
   ·rename_i h0;subst h0;cases a;simp_all
   ·rfl
  rwa [e]at h1

def Reads(w:World)(ss:List Sh)(cs:List Value)(bk:Nat):Prop:= ∃ds,zav w (zGs w) ds cs/\Sh.fitsL ss ds/\D.bulkL ds<=bk
theorem zm0{s:Sh}{v:Value}{d:D}{bk:Nat}(h1:Rd w (zGs w) d v)(h2:s.fits d)(h3:d.bulk<=bk):Reads w [s] [v] bk:=by
 refine⟨[d],?_,?_,?_⟩
 ·simp only[zav]; exact⟨v,[],rfl,h1,rfl⟩
 ·simp only[Sh.fitsL]; exact⟨d,[],rfl,h2,rfl⟩
 ·simpa only[D.bulkL,Nat.add_zero]using h3
theorem fields_rd{n:Nat}{r:TypeId->List Value->Option (DataW H×List MemPlace)}(ih: ∀t cs x ss,zh7 P n t=some ss->r t cs=some x->Reads w ss cs (zbt x.1)):
  ∀(fs:List Field) (off:Nat) (cs:List Value) (xs:List (DataW H×List MemPlace)) (ss:List Sh),ziI (zh7 P n) P.cellsOf off fs=some ss->cs.length=off+ss.length->
   fs.mapM (fun f=>r f.type ((cs.drop f.offset).take (P.cellsOf f.type)))=some xs->Reads w ss (cs.drop off) (zbv (xs.map (·.1)))
 | [],off,cs,xs,ss,hs,hl,hm=>by
  simp only[ziI,Option.some.injEq]at hs;subst hs;simp at hm;subst hm;simp only[List.length_nil,Nat.add_zero]at hl;refine⟨[],?_,?_,?_⟩
  ·simp only[zav]; exact List.drop_of_length_le (by omega)
  ·simp only[Sh.fitsL]
  ·simp[D.bulkL]
 | f::fs,off,cs,xs,ss,hs,hl,hm=>by
  simp only[ziI]at hs;split at hs
  ·rename_i s hs1;split at hs
   ·rename_i hc;obtain⟨h1,h2⟩:=hc;simp only[Option.map_eq_some_iff]at hs;obtain⟨ss',h3,rfl⟩:=hs;rw[List.mapM_cons]at hm;simp only[Option.bind_eq_bind,Option.bind_eq_some_iff,Option.pure_def,Option.some.injEq]at hm;obtain⟨x,hx,xs',hxs,rfl⟩:=hm;rw[List.length_append]at hl;rw[h1]at hx;obtain⟨d1,a1,a2,a3⟩:=ih _ _ _ _ hs1 hx;obtain⟨d2,b1,b2,b3⟩:=fields_rd ih fs (off+P.cellsOf f.type) cs xs' ss' h3 (by omega) hxs;refine⟨d1++d2,?_,zsG a2 b2,?_⟩
    ·have:=zav.app a1 b1;rwa [<-List.drop_drop,List.take_append_drop]at this
    ·rw[zhB];simp only[List.map_cons,zbv];omega
   ·cases hs
  ·cases hs
theorem arr_rd{e:TypeId}{s:List Sh}{k:Nat}{r:TypeId->List Value->Option (DataW H×List MemPlace)}(ih: ∀cs x,r e cs=some x->Reads w s cs (zbt x.1))(hk:s.length=k):
  ∀(m i:Nat) (cs:List Value) (xs:List (DataW H×List MemPlace)),cs.length=(i+m)*k->(List.range' i m).mapM (fun i=>r e ((cs.drop (i*k)).take k))=some xs->Reads w (zhz s m) (cs.drop (i*k)) (zbv (xs.map (·.1)))
 | 0,i,cs,xs,hl,hm=>by
  simp at hm;subst hm;refine⟨[],?_,?_,?_⟩
  ·simp only[zav]; exact List.drop_of_length_le (by simp at hl; omega)
  ·simp only[zhz,Sh.fitsL]
  ·simp[D.bulkL]
 | m+1,i,cs,xs,hl,hm=>by
  rw[List.range'_succ,List.mapM_cons]at hm;simp only[Option.bind_eq_bind,Option.bind_eq_some_iff,Option.pure_def,Option.some.injEq]at hm;obtain⟨x,hx,xs',hxs,rfl⟩:=hm;obtain⟨d1,a1,a2,a3⟩:=ih _ _ hx;obtain⟨d2,b1,b2,b3⟩:=arr_rd ih hk m (i+1) cs xs' (by rw[hl]; congr 1; omega) hxs;refine⟨d1++d2,?_,zsG a2 b2,?_⟩
  ·have:=zav.app a1 b1;rw[Nat.add_mul,Nat.one_mul,<-List.drop_drop,List.take_append_drop]at this;exact this
  ·rw[zhB];simp only[List.map_cons,zbv];omega
theorem rows_rd{k:Nat}{s:List Sh}{b off:Nat}(hs:s.length=k): ∀(xs:List (DataW H)) (i:Nat),(∀j (hj:j<xs.length),∃cs,Reads w s cs (zbt xs[j])/\cs.length=k/\ ∀q (hq:q<cs.length),w.cell? ⟨b,off+(i+j)*k+q,none⟩=some cs[q])->
  ∃es:List (List D),es.length=xs.length/\zbJ w (zGs w) k es b (off+i*k)/\(∀e∈es,Sh.fitsL s e)/\D.bulkLL es<=zbv xs
 | [],i,_=>⟨[],rfl,by simp only[zbJ],by simp,by simp[D.bulkLL]⟩
 | x::xs,i,h=>by
  obtain⟨cs,⟨ds,a1,a2,a3⟩,h2,h3⟩:=h 0 (by simp);simp only[Nat.add_zero]at h3;obtain⟨es,b1,b2,b3,b4⟩:=rows_rd hs xs (i+1) (fun j hj=>by
   have:=h (j+1) (by simp; omega);simpa [Nat.add_assoc,Nat.add_comm 1 j]using this)
  refine⟨ds::es,by simp[b1],?_,?_,?_⟩
  ·simp only[zbJ];refine⟨⟨by rw[fitsL_len a2,hs],cells_rd a1 b _ h3⟩,?_⟩;rw[Nat.add_mul,Nat.one_mul,<-Nat.add_assoc]at b2;exact b2
  ·intro e he;rcases List.mem_cons.1 he with rfl | he
   ·exact a2
   ·exact b3 e he
  ·simp only[D.bulkLL,zbv];simp only[List.getElem_cons_zero]at a3;omega
theorem zuz{t:TypeId}{fs:Array Field}{fuel:Nat}{cs:List Value}{x:DataW H×List MemPlace}(ht:P.underlying t=some (.struct fs))(h:DataW.trod enc P w 0 sp true (fuel+1) t cs=some x):
  cs.length=P.cellsOf t/\ ∃xs,fs.toList.mapM (fun f=>DataW.trod enc P w 0 sp true fuel f.type ((cs.drop f.offset).take (P.cellsOf f.type)))=some xs/\x.1= .agg (xs.map (·.1)):=by
 simp only[DataW.trod,ht]at h;split at h
 ·rename_i hc;simp only[Option.map_eq_some_iff]at h;obtain⟨xs,hx,rfl⟩:=h;exact⟨hc,xs,hx,rfl⟩
 ·cases h
theorem trod_array{t m e:TypeId}{fuel:Nat}{cs:List Value}{x:DataW H×List MemPlace}(ht:P.underlying t=some (.array m e))(h:DataW.trod enc P w 0 sp true (fuel+1) t cs=some x):
  cs.length=P.cellsOf t/\ ∃xs,(List.range m).mapM (fun i=>DataW.trod enc P w 0 sp true fuel e ((cs.drop (i*P.cellsOf e)).take (P.cellsOf e)))=some xs/\x.1= .agg (xs.map (·.1)):=by
 simp only[DataW.trod,ht]at h;split at h
 ·rename_i hc;simp only[Option.map_eq_some_iff]at h;obtain⟨xs,hx,rfl⟩:=h;exact⟨hc,xs,hx,rfl⟩
 ·cases h
theorem zoT(s:List Sh): ∀m,(zhz s m).length =m*s.length
 | 0=>by simp[zhz]
 | m+1=>by simp only[zhz,List.length_append,zoT s m,Nat.add_mul,Nat.one_mul]; omega
theorem zkT: ∀(n fuel:Nat) (t:TypeId) (cs:List Value) (x:DataW H×List MemPlace) (ss:List Sh),zh7 P n t=some ss->DataW.trod enc P w 0 sp true fuel t cs=some x->Reads w ss cs (zbt x.1)
 | 0,_,_,_,_,_,h,_=>by simp[zh7]at h
 | n+1,0,_,_,_,_,_,h=>by simp[DataW.trod]at h
 | n+1,fuel+1,t,cs,x,ss,hs,h=>by
  have hfull:=h;unfold DataW.trod at h;unfold zh7 at hs;split at hs
  ·rename_i ht;cases hs;rw[ht]at h;split at h <;> simp_all;rename_i b;subst h;exact zm0 (d:=.lit (.bool b)) (by simp[Rd]) (by simp[Sh.fits]) (by simp[D.bulk,zfi,zbt])
  ·rename_i k ht;cases hs;rw[ht]at h;split at h <;> simp_all;rename_i k' v e;obtain⟨⟨h1,h3⟩,h2⟩:=h;subst h2;subst e;exact zm0 (d:=.lit (.int k v)) (by simp[Rd]) (by simp[Sh.fits,h3]) (by simp[D.bulk,zfi,zbt])
  ·rename_i ht;cases hs;rw[ht]at h;split at h <;> simp_all;rename_i b;obtain⟨h1,h2⟩:=h;subst h2;exact zm0 (d:=.lit (.string b)) (by simp[Rd]) (by simp[Sh.fits,h1]) (by simp[D.bulk,zfi,zbt])
  ·rename_i e ht;split at hs
   ·rename_i r hr;split at hs
    ·rename_i hk;obtain⟨hk1,hk2⟩:=hk;cases hs;have hk0:0<P.cellsOf e:=(by rw[<-hk1]; exact List.length_pos_iff.2 hk2);rw[ht]at h;split at h <;> simp_all
     ·subst h;refine zm0 (d:=.sl []) ?_ ?_ ?_
      ·simp only[Rd]; exact⟨⟨none,0,rfl,Nat.le_refl _,by simp⟩,by simp⟩
      ·simp only[Sh.fits]; exact⟨[],rfl,by simp⟩
      ·simp[D.bulk,D.bulkLL,zbt]
     ·rename_i a len cap _;rename_i e _;obtain⟨⟨hc1,hc2⟩,h⟩:=h;simp only[Option.bind_eq_some_iff,Option.map_eq_some_iff]at h;obtain⟨elems,hel,rest,_,rfl⟩:=h;have hlen:elems.length=len:=(by simpa using mapM_some_length hel);have hone: ∀j (hj:j<elems.length),∃cs,w.cells? 0 (a.add (j*P.cellsOf e)) (P.cellsOf e)=some cs/\DataW.trod enc P w 0 sp true fuel e cs=some elems[j]:=by
       intro j hj;have:=mapM_some_get hel j j (by rw[List.getElem?_range (by omega)]);simp only[List.getElem?_eq_getElem hj,Option.bind_eq_some_iff]at this;exact this
      have hadr: ∀j,a.spot=none->(a.add (j*P.cellsOf e)).off =a.off+j*P.cellsOf e/\(a.add (j*P.cellsOf e)).block =a.block:=by
       intro j _;unfold Addr.add;split
       ·rename_i h0; simp[h0]
       ·simp
      have hsp:elems.length≠0->a.spot=none/\a.block<w.heap.size:=by
       intro h0;obtain⟨cs,h1,h2⟩:=hone 0 (by omega);obtain⟨_,h4,h5,_⟩:=zoV h1 hk0;simpa [Addr.add]using And.intro h4 h5
      have hrows:=rows_rd (w:=w) (k:=P.cellsOf e) (s:=r) (b:=a.block) (off:=a.off) hk1 (elems.map (·.1)) 0 (fun j hj=>by
       rw[List.length_map]at hj;obtain⟨cs,h1,h2⟩:=hone j hj;obtain⟨h3,h4,h5,h6⟩:=zoV h1 hk0;obtain⟨h7,h8⟩:=hadr j (hsp (by omega)).1;refine⟨cs,?_,h3,fun q hq=> ?_⟩
       ·simpa using zkT n fuel e cs _ r hr h2
       ·have:=h6 q hq;rw[h7,h8]at this;simpa using this)
      obtain⟨es,g1,g2,g3,g4⟩:=hrows;rw[List.length_map]at g1;refine zm0 (d:=.sl es) ?_ ?_ ?_
      ·simp only[Rd];refine⟨⟨some a,cap,by rw[g1,hlen],by omega,fun h0=> ?_⟩,by omega⟩;obtain⟨h1,h2⟩:=hsp (by omega);refine⟨a.block,a.off,P.cellsOf e,?_,h2,by simpa using g2⟩;cases a;simp_all
      ·simp only[Sh.fits]; exact⟨es,rfl,g3⟩
      ·simp only[D.bulk,zbt]; omega
    ·cases hs
   ·cases hs
  ·rename_i fs ht;obtain⟨h1,xs,h2,h3⟩:=zuz ht hfull;split at hs
   ·rename_i r hr;split at hs
    ·rename_i hl;cases hs;rw[h3];have:=fields_rd (w:=w) (n:=n) (r:=DataW.trod enc P w 0 sp true fuel) (fun t cs x ss a b=>zkT n fuel t cs x ss a b) fs.toList 0 cs xs ss hr (by rw[h1,Nat.zero_add]; exact hl.symm) h2;obtain⟨ds,a1,a2,a3⟩:=this;exact⟨ds,by simpa using a1,a2,by simp only[zbt]; omega⟩
    ·cases hs
   ·cases hs
  ·rename_i m e ht;obtain⟨h1,xs,h2,h3⟩:=trod_array ht hfull;split at hs
   ·rename_i r hr;split at hs
    ·rename_i hl;cases hs;rw[h3];rw[List.range_eq_range']at h2;have:=arr_rd (w:=w) (e:=e) (s:=r) (k:=P.cellsOf e) (r:=DataW.trod enc P w 0 sp true fuel) (fun cs x b=>zkT n fuel e cs x r hr b) hl.1 m 0 cs xs (by rw[h1,Nat.zero_add,<-hl.2,<-hl.1,zoT]) h2;obtain⟨ds,a1,a2,a3⟩:=this;exact⟨ds,by simpa using a1,a2,by simp only[zbt]; omega⟩
    ·cases hs
   ·cases hs
  ·cases hs

inductive ASh where
 | one (s:Sh)
 | agg (ss:List Sh)
def ASh.fits:ASh->D->Prop
 | .one s,d=>s.fits d
 | .agg ss,d=> ∃ds,d= .agg ds/\Sh.fitsL ss ds
def fitsA:List ASh->List D->Prop
 | [],ds=>ds=[]
 | s::ss,ds=> ∃d r,ds=d::r/\s.fits d/\fitsA ss r
def argSh(P:Program)(n:Nat)(t:TypeId):Option ASh:=
 match P.underlying t with
 | some (.struct _) | some (.array _ _)=>(zh7 P n t).map .agg
 | _=>match zh7 P n t with
  | some [s]=>some (.one s)
  | _=>none
def zHA(P:Program)(n:Nat):List TypeId->Option (List ASh)
 | []=>some []
 | t::ts=>match argSh P n t,zHA P n ts with
  | some s,some ss=>some (s::ss)
  | _,_=>none
theorem arg_read{n b0:Nat}{t:TypeId}{v:Value}{d:DataW H}{p:List MemPlace}{s:ASh}(hval:Value.okWide P w .any b0 t v)(h:DataW.Trod enc P w 0 sp true t v d p)(hs:argSh P n t=some s):
  ∃D,Rd w (zGs w) D v/\s.fits D/\D.bulk<=zbt d:=by
 obtain⟨fuel,h⟩:=h;have key: ∀cs:Array Value,v= .agg cs->(zh7 P n t).map .agg =some s-> ∃D,Rd w (zGs w) D v/\s.fits D/\D.bulk<=zbt d:=by
  rintro cs rfl h1;simp only[Option.map_eq_some_iff]at h1;obtain⟨ss,h2,rfl⟩:=h1;obtain⟨ds,a1,a2,a3⟩:=zkT n fuel t _ _ ss h2 h;refine⟨.agg ds,?_,⟨ds,rfl,a2⟩,by simpa only[D.bulk]using a3⟩;simp only[Rd];exact⟨cs.toList,by simp,by simpa [Value.cells]using a1⟩
 unfold argSh at hs;unfold Value.okWide at hval;split at hs
 ·rename_i fs ht;rw[ht]at hval;obtain⟨cs,hv,_⟩:=hval;exact key cs hv hs
 ·rename_i m e ht;rw[ht]at hval;obtain⟨cs,hv,_⟩:=hval;exact key cs hv hs
 ·split at hs
  ·rename_i s' hs';cases hs;obtain⟨ds,a1,a2,a3⟩:=zkT n fuel t _ _ _ hs' h;simp only[Sh.fitsL]at a2;obtain⟨d1,r,rfl,a4,rfl⟩:=a2;have hc:v.cells.toList=[v]:=by
    cases v with
    | agg cs=>
     exfalso;split at hval
     ·rename_i fs ht; simp_all
     ·rename_i m e ht; simp_all
     ·rename_i n3 n4;unfold Cell.okWide at hval;split at hval <;> simp_all;unfold Cell.ok at hval;split at hval <;> simp_all
    | _=>simp[Value.cells]
   rw[hc]at a1;simp only[zav]at a1;obtain⟨u,r,e1,a5,rfl⟩:=a1;cases e1;exact⟨d1,a5,a4,by simpa [D.bulkL]using a3⟩
  ·cases hs
theorem zGT{n b0:Nat}: ∀ {ts:List TypeId} {vs:List Value} {ds:List (DataW H)} {p:List MemPlace} {ss:List ASh},(∀(j:Nat) t v,ts[j]? =some t->vs[j]? =some v->Value.okWide P w .any b0 t v)->DataW.TrodAll enc P w 0 sp true ts vs ds p->zHA P n ts=some ss->
  ∃Ds,zav w (zGs w) Ds vs/\fitsA ss Ds/\D.bulkL Ds<=zbv ds
 | [],_,_,_,ss,_,h,hs=>by
  obtain⟨rfl,rfl,rfl⟩:=trodAll_nil h;simp only[zHA,Option.some.injEq]at hs;subst hs;exact⟨[],by simp[zav],rfl,by simp[D.bulkL]⟩
 | t::ts,_,_,_,ss,hv,h,hs=>by
  obtain⟨v,vs,d,ds,p,q,rfl,rfl,rfl,h1,h2⟩:=trodAll_cons h;simp only[zHA]at hs;split at hs
  ·rename_i s ss' e1 e2;cases hs;obtain⟨D1,a1,a2,a3⟩:=arg_read (hv 0 t v rfl rfl) h1 e1;obtain⟨Ds,b1,b2,b3⟩:=zGT (fun j t' v' x y=>hv (j+1) t' v' (by simpa using x) (by simpa using y)) h2 e2;exact⟨D1::Ds,by simp only[zav]; exact⟨v,vs,rfl,a1,b1⟩,⟨D1,Ds,rfl,a2,b2⟩,by simp only[D.bulkL,zbv]; omega⟩
  ·cases hs
theorem zlQ(hl:laidOutB P=true){W':World}(hb:Below w.heap.size w W'): ∀ {ts:List TypeId} {vs:List Value} {ds:List (DataW H)} {p:List MemPlace},(∀t∈ts,P.readableRec t=true/\t<P.types.size)->DataW.TrodAll enc P w 0 (fun _=>true) true ts vs ds p->(∀x∈p,x.block<w.heap.size)->
  DataW.TrodAll enc P W' 0 (fun b=>decide (b<w.heap.size)) true ts vs ds p
 | [],_,_,_,_,h,_=>by
  obtain⟨rfl,rfl,rfl⟩:=trodAll_nil h;rfl
 | t::ts,_,_,_,ht,h,hlt=>by
  obtain⟨v,vs,d,ds,p,q,rfl,rfl,rfl,h1,h2⟩:=trodAll_cons h;exact⟨p,q,Below.trod hl (ht t (by simp)).1 (ht t (by simp)).2 h1 hb (fun x hx=>hlt x (by simp[hx])),zlQ hl hb (fun t' h'=>ht t' (by simp[h'])) h2 (fun x hx=>hlt x (by simp[hx])),rfl⟩

theorem zoP: ∀ {ts:List TypeId} {vs:List Value} {ds:List (DataW H)} {p:List MemPlace},DataW.TrodAll enc P w 0 sp true ts vs ds p->ds.length=ts.length
 | [],_,_,_,h=>by
  obtain⟨_,rfl,_⟩:=trodAll_nil h;rfl
 | t::ts,_,_,_,h=>by
  obtain⟨v,vs,d,ds,p,q,rfl,rfl,rfl,h1,h2⟩:=trodAll_cons h;simp[zoP h2]
theorem zdL{n:Nat}{f:FuncId}{fn:Func}{s:ChangeSpec}{args:Array Value}{ds gs:List (DataW H)}{before:List MemPlace}{b0:Nat}{ss:List ASh}{tb:TypeId}(hl:laidOutB P=true)(hts: ∀t∈fn.params.toList,P.readableRec t=true/\t<P.types.size)
  (hr:fn.resultTypes=#[tb]) (htb:P.underlying tb=some .bool) (hss:zHA P n fn.params.toList=some ss) (hvars:s.vars=[])
  (hval: ∀(j:Nat) t v,fn.params[j]? =some t->args[j]? =some v->Value.okWide P w .any b0 t v)
  (hW:DataW.Whole enc P fn.params.toList s.vars false w args.toList ds gs before)
  (hspec:ds.length=fn.params.toList.length->s.fn H ds={results:=[.lit (.bool true)],args:=ds})
  (hc: ∀Ds,fitsA ss Ds->D.bulkL Ds<=zbv ds->FnP P f Ds (.d (.lit (.bool true))) []):
  Calls P f args w fun e W'=> ∃v,e= .returned v/\s.post enc P fn false true false false w args v W':=by
 have hW':=hW;obtain⟨p,q,hA,hV,rfl,hfz,hnd⟩:=hW;rw[hvars]at hV;obtain⟨rfl,rfl⟩:=trodVars_none hV;obtain⟨Ds,a1,a2,a3⟩:=zGT (fun j t v x y=>hval j t v (by simpa using x) (by simpa using y)) hA hss;obtain⟨_,hcall⟩:=hc Ds a2 a3;have:=hcall w (zGs w) args.toList (fun b hb=>hb) a1;rw[Array.toArray_toList]at this;refine this.mono ?_;rintro e W' ⟨v,F',η,S,rfl,hm,hv⟩;simp only[zaL,Rd]at hv;subst hv;refine⟨_,rfl,?_⟩;have hb:Below w.heap.size w W':=⟨hm.os,hm.tape,hm.output,hm.size,fun k hk=>hm.old k hk (by simp[noO])⟩;have hlt: ∀x∈p,x.block<w.heap.size:=fun x hx=>by simpa using hW'.lt x (by simp[hx])
 replace hspec:=hspec (zoP hA)
 simp only[List.append_nil]at*;refine⟨ds,[],p,[],p,[],by simpa using hW',?_,?_,?_,?_,fun h=>by cases h⟩
 ·rw[List.append_nil,hspec,hr];exact trodAll_mk1 (shut_bool htb _)
 ·rw[List.append_nil,hspec];exact zlQ hl hb hts hA hlt
 ·rw[List.append_nil,hspec,hvars];rfl
 ·exact hb.frame _
end

theorem zeG{d:D}(h:Sh.fits (.int .u8) d): ∃n:Nat,d= .lit (.int .u8 n)/\n<256:=by
 simp only[Sh.fits]at h;obtain⟨n,rfl,h⟩:=h;have:0<=n/\n<=255:=by simpa [Lit.wf,IntKind.min,IntKind.max,IntKind.bits,IntKind.signed]using h
 exact⟨n.toNat,by rw[Int.toNat_of_nonneg this.1],by omega⟩
theorem zmI{X:Type}{enc:X->List D}{p:X->Prop}{q:List D->Prop}(h: ∀e,q e-> ∃x,e=enc x/\p x): ∀es:List (List D),(∀e∈es,q e)-> ∃l:List X,es=l.map enc/\ ∀x∈l,p x
 | [],_=>⟨[],rfl,by simp⟩
 | e::es,hq=>by
  obtain⟨x,rfl,hx⟩:=h e (hq e (by simp));obtain⟨l,rfl,hl⟩:=zmI h es (fun e' h'=>hq e' (by simp[h']));exact⟨x::l,rfl,fun y hy=>by rcases List.mem_cons.1 hy with rfl | hy; exact hx; exact hl y hy⟩
theorem zgZ{X:Type}{ss:List Sh}{enc:X->List D}{p:X->Prop}(h: ∀e,Sh.fitsL ss e-> ∃x,e=enc x/\p x){d:D}(hd:Sh.fits (.sl ss) d): ∃l:List X,d= .sl (l.map enc)/\ ∀x∈l,p x:=by
 simp only[Sh.fits]at hd;obtain⟨es,rfl,he⟩:=hd;obtain⟨l,rfl,hl⟩:=zmI h es he;exact⟨l,rfl,hl⟩
theorem zjP{s:Sh}{ds:List D}(h:Sh.fitsL [s] ds): ∃a,ds=[a]/\s.fits a:=by
 simp only[Sh.fitsL]at h;obtain⟨a,_,rfl,h1,rfl⟩:=h;exact⟨a,rfl,h1⟩
theorem zlb{s t:ASh}{ds:List D}(h:fitsA [s,t] ds): ∃a b,ds=[a,b]/\s.fits a/\t.fits b:=by
 obtain⟨a,_,rfl,h1,b,_,rfl,h2,rfl⟩:=h;exact⟨a,b,rfl,h1,h2⟩
end Go.Aw
