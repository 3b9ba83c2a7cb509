/- Machinery. Conditions: those of each. -/
import Derived.Test.YtbenhdgpogiadaaGreatGO
import Derived.Test.YtbenhdgpogiadaaGreatGSo
import Derived.Shelf.SlSortCmp.NoneTotal
set_option linter.unusedSimpArgs false
set_option linter.unusedVariables false
/-
 SLICES SORTED BY THE SHELF: an own array of rows, in order of keys.
 Conditions: those of 'sort_own'; over any program with the shelf's bodies.
-/
namespace Go.Aw
open Go.Sort Go.RowKit Go.Shelf Go.Proofs
theorem zsI{α:Type}(enc:α->List Value)(k:Nat)(hk0:0<k)(h: ∀x,(enc x).length =k): ∀(l:List α) (t:Nat),(l.flatMap enc)[t]? =(l[t / k]?).bind fun x=>(enc x)[t % k]?
 | [],t=>by simp
 | x::l,t=>by
  rw[List.flatMap_cons];rcases Nat.lt_or_ge t k with ht | ht
  ·rw[List.getElem?_append_left (by rw[h]; exact ht),Nat.div_eq_of_lt ht,Nat.mod_eq_of_lt ht];simp
  ·obtain⟨s,rfl⟩: ∃s,t=s+k:=⟨t-k,by omega⟩;rw[List.getElem?_append_right (by rw[h]; omega),h,Nat.add_sub_cancel,zsI enc k hk0 h l s,Nat.add_mod_right,Nat.add_div_right _ hk0];simp
theorem zjv{α:Type}[Inhabited α](enc:α->List Value)(k:Nat)(hk0:0<k)(h: ∀x,(enc x).length =k)(d:Array α):(flatK enc k d).toList =d.toList.flatMap enc:=by
 apply List.ext_getElem?;intro t;rw[zsI enc k hk0 h];by_cases ht:t<d.size*k
 ·have h3:t / k<d.size:=Nat.div_lt_of_lt_mul (by rw[Nat.mul_comm]; exact ht);have h5:t % k<(enc d[t / k]).length :=by rw[h]; exact Nat.mod_lt _ hk0
  rw[List.getElem?_eq_getElem (show t / k<d.toList.length from by rw[Array.length_toList]; exact h3)];simp only[Option.bind_some,Array.getElem_toList];rw[List.getElem?_eq_getElem h5];simp[flatK,ht,h3,getElem!_pos,h5]
 ·have h4:d.size<=t / k:=(Nat.le_div_iff_mul_le hk0).2 (by omega);rw[List.getElem?_eq_none (by simp; omega),List.getElem?_eq_none (by simpa using h4)];rfl
section
variable {W:World} {F:Nat->Prop}
theorem zlB{X:Type}(encD:X->List D): ∀(l:List X) (vs:List Value),zav W F (l.map encD).flatten vs-> ∃rows:List (List Value),rows.length=l.length/\vs=rows.flatten/\ ∀i (h:i<l.length) (h':i<rows.length),zav W F (encD l[i]) rows[i]
 | [],vs,h=>⟨[],rfl,by simpa [zav]using h,fun i h=>by simp at h⟩
 | x::l,vs,h=>by
  rw[List.map_cons,List.flatten_cons]at h;obtain⟨a,b,rfl,h1,h2⟩:=(zav.append _ _ _).1 h;obtain⟨rows,e1,rfl,h3⟩:=zlB encD l b h2;refine⟨a::rows,by simp[e1],rfl,fun i h h'=> ?_⟩;cases i with
  | zero=>exact h1
  | succ i=>exact h3 i _ _
theorem ztY{ι:Type}(f:ι->List D)(r:ι->List Value)(h: ∀i,zav W F (f i) (r i)): ∀is:List ι,zav W F (is.map f).flatten (is.flatMap r)
 | []=>by simp[zav]
 | i::is=>by
  rw[List.map_cons,List.flatten_cons,List.flatMap_cons];exact(zav.append _ _ _).2 ⟨_,_,rfl,h i,ztY f r h is⟩
end
theorem zu7(F cur:Array Value)(h:F.size<=cur.size):(putCells id 0 F cur).toList.take F.size=F.toList:=by
 apply List.ext_getElem?;intro t;rw[List.getElem?_take];split
 ·rename_i ht;have h2:t<cur.size:=by omega
  simp[putCells,ht,h2,getElem!_pos]
 ·rename_i ht;rw[List.getElem?_eq_none (by simpa using ht)]
theorem zu6(F cur:Array Value):(putCells id 0 F cur).size =cur.size:=by simp[putCells]
theorem sortW_heap'{α:Type}[Inhabited α]{enc:α->List Value}{k m g:Nat}{d:Array α}{os:Array Obj}{W:World}{cur:Array Value}{e:TypeId}(hg:W.heap[g]? =some (.cells cur e (0,0))):
  (∀b,b<W.heap.size->b≠g->(sortWorldK enc k W g 0 m d os).heap[b]? =W.heap[b]?)/\(sortWorldK enc k W g 0 m d os).heap[g]? =some (.cells (putCells id 0 (flatK enc k d) cur) e (0,0))/\
   W.heap.size<=(sortWorldK enc k W g 0 m d os).heap.size :=by
 have hlt:g<W.heap.size:=(Array.getElem?_eq_some_iff.1 hg).1;have hh:(sortWorldK enc k W g 0 m d os).heap =W.heap.modify g (onCells (putCells id 0 (flatK enc k d)))++os:=rfl;rw[hh];refine⟨fun b hb hne=> ?_,?_,by simp⟩
 ·rw[Array.getElem?_append_left (by simpa using hb),Array.getElem?_modify,if_neg (Ne.symm hne)]
 ·rw[Array.getElem?_append_left (by simpa using hlt),Array.getElem?_modify,if_pos rfl,hg];rfl
theorem zxH{P:Program}{ρ:Ren}(L:SlLaysF0.n6 P ρ){X κ:Type}(encD:X->List D)(key:X->κ)(cf:κ->κ->Int)(k:Nat)(hk0:0<k)(hk: ∀x,(encD x).length =k)(hone: ∀x,∀d∈encD x,d.one)
  (aE: ∀w,(isAgg (ρ.t 24)).run P w= .ok true w) (zE: ∀w,(Go.sizeOf (ρ.t 24)).run P w= .ok k w)
  (hO: ∀ {α:Type} (f:α->κ),SWO (ltOf fun a b=>cf (f a) (f b))) (g:FuncId) (eg: ∀args w,(callFunc g args).run P w= .ok (.enter g args) w) (e6: ∀args w,(callFunc (ρ.f 6) args).run P w= .ok (.enter (ρ.f 6) args) w)
  (hcmp: ∀(W:World) (F:Nat->Prop) (x y:X) (ra rb:List Value),zav W F (encD x) ra->zav W F (encD y) rb-> ∀w,Calls P g #[.agg ra.toArray,.agg rb.toArray] w fun e w'=>e= .returned (.int .i64 (cf (key x) (key y)))/\ ∃q os',w'=grow (w.drewN q) os')
  (l:List X) (hl:l.length<4611686018427387904):
  FnL P (ρ.f 6) [.ar 0 l.length,.d (.clo (.func g) [] [])] [(0,.arr (ρ.t 24) k .flat (l.map encD))] (fun V ol new=>V= .tup []/\(∃l':List X,l.Perm l'/\(l'.Pairwise fun x y=> ¬cf (key y) (key x)<0)/\ol=[(0,.arr (ρ.t 24) k .flat (l'.map encD))])/\new=[]):=by
 refine⟨fun W bs=>e6 bs W,?_⟩;intro W F O0 η S vs hm hO' hr;simp only[zaN,zaL]at hr;obtain⟨v0,r0,rfl,hv0,v1,r1,rfl,hv1,rfl⟩:=hr;have hobj:=hm.obj 0 _ (by simp only[om,if_true]; rfl);have e0:v0=η 0:=(hv0 (ρ.t 24) k .flat (l.map encD) (by simp[om])).2 (by simp);have fin: ∀(l':List X) (W':World) (F':Nat->Prop),l.Perm l'->(l'.Pairwise fun x y=> ¬cf (key y) (key x)<0)->Mem ⟨P,N0,W,F,O0,[],[],fun _=>undef⟩ (om [(0,.arr (ρ.t 24) k .flat (l'.map encD))]) W' F' η S->
   ∃v' V Oo new F' η' S',Ending.returned (.tuple #[])= .returned v'/\(∃ol,Oo=om ol/\(V=AV.tup []/\(∃l':List X,l.Perm l'/\(l'.Pairwise fun x y=> ¬cf (key y) (key x)<0)/\ol=[(0,AO.arr (ρ.t 24) k .flat (l'.map encD))])/\new=[]))/\(∀i∈new,∀lim fam stop l rest,Oo i≠some (.ext lim fam stop l rest))/\
    Mem ⟨P,N0,W,F,O0,[],[],fun _=>undef⟩ Oo W' F' η' S'/\zaL Oo W' F' η' V v'/\za7 (om [(0,.arr (ρ.t 24) k .flat (l.map encD))]) Oo η η' new:=by
  intro l' W' F' hp hs m1;refine⟨_,.tup [],_,[],F',η,S,rfl,⟨_,rfl,rfl,⟨l',hp,hs,rfl⟩,rfl⟩,by simp,m1,by simp[zaL,zaN],?_⟩;intro id o' ho;simp only[om]at ho;split at ho
  ·rename_i h0;subst h0;cases ho;exact .inr ⟨_,by simp only[om,if_true]; rfl,by simp[hp.length_eq]⟩
  ·cases ho
 have e1:v1= .func (.func g) #[] #[]:=by
  simp only[Aw.Rd,zav]at hv1;obtain⟨a,b,rfl,rfl,rfl⟩:=hv1;rfl
 subst e0 e1;obtain⟨_,hkk,hcase⟩:=hobj;by_cases hl0:l=[]
 ·subst hl0;have hnone: ∀(p:Option Addr) (cap:Nat),Calls P (ρ.f 6) #[.slice p 0 cap,.func (.func g) #[] #[]] W fun e w'=>e= .returned (.tuple #[])/\w'=W:=fun p cap=>AnyF.slices_SortFunc_none L p cap _ W;have hη: ∃p cap,η 0= .slice p 0 cap:=by
   rcases hcase with⟨⟨ad,hn⟩,_⟩ | ⟨g',cap,cur,s1,hv,_⟩
   ·exact⟨ad,0,hn⟩
   ·exact⟨_,_,hv⟩
  obtain⟨p,cap,hη⟩:=hη;rw[hη];refine(hnone p cap).mono ?_;rintro e W' ⟨rfl,hW⟩;subst hW;exact fin [] _ F (List.Perm.refl _) List.Pairwise.nil (by simpa using hm)
 ·have hn:0<l.length:=List.length_pos_iff.2 hl0;rcases hcase with⟨hn',hes,hs⟩ | ⟨gb,cap,cur,s1,hv,hg,hle,hcap,hcur,hs,hC⟩
  ·simp at hes; exact absurd hes hl0
  ·obtain⟨hC2,rfl⟩:=(zuK _ _ _).1 hC;obtain⟨rows,er,hcells,hrow⟩:=zlB encD l _ hC2;rw[List.length_map]at hv hcells;rw[hv];have:Inhabited (Fin l.length):=⟨⟨0,hn⟩⟩;obtain⟨enc,henc⟩: ∃enc:Fin l.length->List Value,∀i,enc i=rows[i.1]'(by omega):=⟨fun i=>rows[i.1]'(by omega),fun _=>rfl⟩;have hrd: ∀i:Fin l.length,zav W F (encD l[i.1]) (enc i):=fun i=>by rw[henc]; exact hrow i.1 i.2 (by omega)
   have hek: ∀i,(enc i).length =k:=fun i=>by rw[zav.length _ _ (hrd i),hk]
   have he1: ∀i,∀v∈enc i,v.oneCell'=true:=fun i=>zg6 _ _ (hrd i) (hone _);obtain⟨d,hd⟩: ∃d:Array (Fin l.length),d=(List.finRange l.length).toArray :=⟨_,rfl⟩;have hdl:d.toList=List.finRange l.length:=by rw[hd]
   have hdz:d.size=l.length:=by rw[hd]; simp
   have hfm:d.toList.flatMap enc=rows.flatten:=by
    rw[hdl,List.flatMap];congr 1;apply List.ext_getElem (by simp[er]);intro i h1 h2;simp[henc]
   have hsz:(flatK enc k d).size =l.length*k:=by simp[hdz]
   have hcur':l.length*k<=cur.size:=by rw[hcur]; exact Nat.mul_le_mul_right _ (by simpa using hle)
   have hH:HoldsK enc k W gb 0 d:=by
    intro j hj;rw[hsz]at hj;have hjc:j<cur.size:=(by omega);have e2:cur[j]? =(flatK enc k d)[j]? :=by
     have h1:=congrArg (fun x=>x[j]?) hcells;rw[<-hfm,<-zjv enc k hk0 hek]at h1;simp only[List.getElem?_take,hj,if_true,Array.getElem?_toList]at h1;exact h1
    refine⟨?_,by simp[World.frozen?,hg]⟩;simp only[World.cell?,hg,Nat.zero_add];have:(flatK enc k d)[j]! =(flatK enc k d)[j]'(by rw[hsz]; exact hj):=getElem!_pos _ j (by rw[hsz]; exact hj);simp only[id,this];rw[show(({block:=gb,off:=j,spot:=none}:Addr).spot.isSome)=false from rfl];simp only[Bool.false_eq_true,if_false,e2];rw[Array.getElem?_eq_getElem]
   have hsort:=AnyQ.slices_SortFunc L k aE zE enc hek he1 (fun a b=>cf (key l[a.1]) (key l[b.1])) (hO (fun i:Fin l.length=>key l[i.1])) g #[] gb 0 cap d W (fun bs w=>eg bs w)
    (fun m os dk _ x y=>by simpa using hcmp W F l[x.1] l[y.1] (enc x) (enc y) (hrd x) (hrd y) _) hH (Array.getElem?_eq_some_iff.1 hg).1 (by rw[hdz]; exact hl)
   rw[hdz]at hsort;refine hsort.mono ?_;rintro e W' ⟨rfl,d',n,os,hp,hso,hW⟩;obtain⟨p1,_,p3⟩:=hp;rw[hdz]at p1;have hd'l:d'.toList.Perm (List.finRange l.length):=by
    have hx: ∀c:Array (Fin l.length),c.size=l.length->(c.extract 0 l.length).toList =c.toList:=fun c hc=>by
     rw[Array.toList_extract,List.extract_eq_take_drop,List.drop_zero];exact List.take_of_length_le (by rw[Array.length_toList,hc]; omega)
    rw[hx d' p1,hx d hdz,hdl]at p3;exact p3
   obtain⟨l',hl'⟩: ∃l':List X,l'=d'.toList.map fun i=>l[i.1]:=⟨_,rfl⟩;have hlen':l'.length=l.length:=by rw[hl']; simp[p1]
   have hperm:l.Perm l':=by
    have:=hd'l.map fun i:Fin l.length=>l[i.1];rw[<-hl']at this;have e3:(List.finRange l.length).map (fun i:Fin l.length=>l[i.1])=l:=by
     apply List.ext_getElem (by simp);intro i h1 h2;simp
    rw[e3]at this;exact this.symm
   have hpw:l'.Pairwise fun x y=> ¬cf (key y) (key x)<0:=by
    rw[hl',List.pairwise_map,List.pairwise_iff_getElem];intro i j hi hj hij;have hi':i<d'.size:=(by simpa using hi);have hj':j<d'.size:=(by simpa using hj);have:=hso i j (Nat.zero_le _) hij (by omega);rw[getElem!_pos d' j hj',getElem!_pos d' i hi']at this;unfold ltOf at this;simpa using this
   obtain⟨b1,b2,b3⟩:=sortW_heap' (enc:=enc) (k:=k) (m:=n) (d:=d') (os:=os) hg;have f1:W'.os=W.os:=by rw[hW]; rfl
   have f2:W'.tape=W.tape:=by rw[hW]; rfl
   have f3:W'.output=W.output:=by rw[hW]; rfl
   rw[<-hW]at b1 b2 b3;clear hW hsort;have hk2:za7 (om [(0,.arr (ρ.t 24) k .flat (l.map encD))]) (upd (om [(0,.arr (ρ.t 24) k .flat (l.map encD))]) 0 (some (.arr (ρ.t 24) k .flat (l'.map encD)))) η (upd η 0 (η 0)) []:=by
    intro id o' ho;simp only[upd,om]at ho;split at ho
    ·rename_i h0;subst h0;cases ho;exact .inr ⟨_,by simp only[om,if_true]; rfl,by simp[hlen',upd]⟩
    ·rename_i h0;cases ho
   obtain⟨m1,m2⟩:=hm.change (W':=W') (F':=F) 0 (some (.arr (ρ.t 24) k .flat (l'.map encD))) (η 0) (S 0) [] f1 f2 f3 b3
    (fun b hb hne=>b1 b hb (fun e=>hne (by rw[hs,e]; simp))) (fun _ h=>h) (fun _ h=>.inl h) (fun b hb=>(hm.apart 0 b hb).1) (hm.nd 0) (fun b hb=>.inl hb) (fun h=>by cases h) hk2 (fun id o ho hne=>by simp[om]at ho; exact absurd ho.1 hne) (fun o ho hF=>by
     cases ho;refine⟨by simp[hlen']; simpa using Nat.le_trans hle hcap,fun x hx=> ?_,.inr ⟨gb,cap,_,[],?_,b2,?_,hcap,?_,hs,?_⟩⟩
     ·obtain⟨p,_,rfl⟩:=List.mem_map.1 hx; exact hk p
     ·rw[hv,List.length_map,hlen']
     ·simpa [hlen']using hle
     ·rw[zu6,hcur]
     ·refine(zuK _ _ _).2 ⟨?_,rfl⟩;have hsz2:(flatK enc k d').size =l.length*k:=(by simp[p1]);have:=zu7 (flatK enc k d') cur (by rw[hsz2]; exact hcur');rw[hsz2,zjv enc k hk0 hek]at this;rw[List.length_map,hlen',this];have hj:=ztY (W:=W) (F:=F) (fun i:Fin l.length=>encD l[i.1]) enc hrd d'.toList;have e4:l'.map encD=d'.toList.map fun i:Fin l.length=>encD l[i.1]:=(congrArg (List.map encD) hl').trans (by rw[List.map_map]; rfl);rw[e4];exact zav.mono hF _ _ hj)
   have u1:upd (om [(0,.arr (ρ.t 24) k .flat (l.map encD))]) 0 (some (.arr (ρ.t 24) k .flat (l'.map encD)))=om [(0,.arr (ρ.t 24) k .flat (l'.map encD))]:=by
    funext id;simp only[upd,om];split
    ·rfl
    ·rfl
   have u2:upd η 0 (η 0)=η:=by funext id; simp only[upd]; split <;> simp_all
   have u3:upd S 0 (S 0)=S:=by funext id; simp only[upd]; split <;> simp_all
   rw[u1,u2,u3]at m1;exact fin l' _ F hperm hpw m1
end Go.Aw
