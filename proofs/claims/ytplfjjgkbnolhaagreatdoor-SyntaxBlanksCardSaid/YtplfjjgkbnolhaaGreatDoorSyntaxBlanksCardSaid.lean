/- SyntaxBlanks: blanks, line feeds and comments between tokens do not change the tree.
 Conditions: the named library and program variables read as their initialisers lay them (the given statement's own condition). -/
import Derived.Test.YtplfjjgkbnolhaaGreatDoorK1
import Derived.Test.YtplfjjgkbnolhaaGreatDoorGL
import Derived.Test.YtplfjjgkbnolhaaGreatDoorGJf
import Derived.LaidMore
import Derived.LaidLaws
import Derived.OpenShut
import Derived.Stop.Joined
import Derived.Test.YtplfjjgkbnolhaaGreatDoorChecked
import Derived.Test.YtplfjjgkbnolhaaGreatDoorCards
import Derived.Test.YtplfjjgkbnolhaaGreatDoorTie
import Derived.SevenTiedAt
import Derived.Test.YtplfjjgkbnolhaaGreatDoorK4
import Derived.WideKeyElems2
set_option linter.unusedSimpArgs false
set_option linter.unusedVariables false
/-
 ARGUMENTS OF THE LAWS OF SYNTAX AS DATA; the world in which the named variables lie as their initialisers lay them.
-/
open List renaming getElem?_map -> waa, getElem?_eq_getElem -> wab
namespace Go.Proofs.YtplfjjgkbnolhaaGreatDoor
open Go.Aw Go.ChangeShapes Go.WideShapes Go.ChangeAt Go.RowKit
open _root_.Go.Proofs.Tryz (prog)
set_option maxRecDepth 100000
theorem own:ownKnob prog.godebug=none:=by kernel_rfl
theorem zdF:laidOutB prog=true:=by kernel_rfl
theorem jP1:laidOutB prog=true:=zdF
theorem jP2:mapsRowed prog=true:=by kernel_rfl
theorem jP6:(prog.stops==[])=true:=by kernel_rfl
theorem jP8:(prog.stopKnobs==[])=true:=by kernel_rfl
theorem jP24:prog.stopsHeard=true:=by kernel_rfl
theorem jP25:prog.mayEnter=true:=by kernel_rfl
theorem zk5{d:D}(h:Sh.fits (.sl [.int .u8]) d): ∃l:List Nat,d=eBy l/\ ∀b∈l,b<256:=by
 obtain⟨l,rfl,hl⟩:=zgZ (enc:=fun n:Nat=>[eU8 n]) (p:=fun n=>n<256) (fun e0 h0=>by
  obtain⟨a,rfl,h1⟩:=zjP h0;obtain⟨a,rfl,ha⟩:=zeG h1;exact⟨a,rfl,ha⟩) h
 exact⟨l,rfl,hl⟩
def shFile:ASh:=.agg [.sl [.sl [.int .u8]]]
theorem file_of{d:D}(h:shFile.fits d): ∃x:List (List Nat),d= .agg [.sl (x.map fun l=>[eBy l])]/\ ∀l∈x,∀b∈l,b<256:=by
 obtain⟨ds,rfl,h⟩:=h;obtain⟨a,rfl,h1⟩:=zjP h;obtain⟨x,rfl,hx⟩:=zgZ (enc:=fun l:List Nat=>[eBy l]) (p:=fun l=> ∀b∈l,b<256) (fun e0 h0=>by
  obtain⟨a,rfl,h1⟩:=zjP h0;obtain⟨l,rfl,hl⟩:=zk5 h1;exact⟨l,rfl,hl⟩) h1
 exact⟨x,rfl,hx⟩
def zDf:List (String×DataW Unit):=Rows.syntaxTokensRow.laid
theorem zD9(os:Os)(args:Array Value):laidMetH prog zDf ((World.doorLaid prog 192 os).forCall (fun _ _=>0) ⟨#[],args,[]⟩).memory :=
 laidMetH_of_parts3 (fuel:=8) (laidMet_of_run' 8 (by kernel_rfl) (by kernel_rfl)) (by kernel_rfl) (by kernel_rfl)
theorem cP2 : Tryz.pinned.checked.prog.mainIs = some (true,("415a2752c97c208b60879d37bb74c06387b46dafddcbe37e27d33e8976973eff" : String).toList) := by kernel_rfl
theorem cP3:true=Tryz.pinned.checked.prog.looks []:=by kernel_rfl
theorem zHO{fn:Func}(h:fn.params.toList.all (fun t=> !prog.wantsStandIn t)=true)(j:Nat)(t:TypeId)(ht:fn.params[j]? =some t):prog.wantsStandIn t=false:=by
 have hm:t∈fn.params.toList:=by
  rw[<-Array.getElem?_toList]at ht;exact List.mem_of_getElem? ht
 have:=List.all_eq_true.1 h t hm;simpa using this
open Go.Aw Go.RowKit
theorem zG4{α β:Type}{R:α->β->Prop}: ∀ {l:List α},(∀x∈l,∃y,R x y)-> ∃m:List β,m.length=l.length/\ ∀(i:Nat) (x:α) (y:β),l[i]? =some x->m[i]? =some y->R x y
 | [],_=>⟨[],rfl,fun i x y h=>by simp at h⟩
 | a::r,h=>by
  obtain⟨b,hb⟩:=h a (by simp);obtain⟨m,h1,h2⟩:=zG4 (l:=r) (fun x hx=>h x (by simp[hx]));refine⟨b::m,by simp[h1],fun i x y hx hy=> ?_⟩;cases i with
  | zero=>simp only[List.getElem?_cons_zero,Option.some.injEq]at hx hy; subst hx hy; exact hb
  | succ i=>exact h2 i x y (by simpa using hx) (by simpa using hy)
theorem map_two{α β γ:Type}{f:α->γ}{g:β->γ}{l:List α}{m:List β}(hl:m.length=l.length)(h: ∀(i:Nat) (x:α) (y:β),l[i]? =some x->m[i]? =some y->f x=g y):l.map f=m.map g:=by
 apply List.ext_getElem?;intro i;rw[waa,waa];rcases Nat.lt_or_ge i l.length with hi | hi
 ·rw[wab hi,wab (by omega)];simp only[Option.map_some];rw[h i _ _ (wab hi) (wab (by omega))]
 ·rw[List.getElem?_eq_none hi,List.getElem?_eq_none (by omega)];rfl
theorem map_read{α:Type}(val:α->Value)(lt:α->Lit){w:World}{sp:Nat->Bool}{fuel:Nat}{t k e:TypeId}{cs:List Value}{L:List (Lit×DataW Unit)}{p:List MemPlace}(ht:prog.underlying t=some (.map k e))(hk:prog.underlying k=some .string)
  (hv: ∀n v y,Go.WideElems.elemAt (fun _=>()) prog w 0 sp false n e v=some y-> ∃a,v=val a/\y.1= .lit (lt a))
  (h:DataW.trod (fun _=>()) prog w 0 sp false fuel t cs=some (.map L,p)):
  ∃b es clock,∃l:List (Bts×α),cs=[.map (some b)]/\w.heap[b]? =some (.map es clock)/\es.toList.map (·.key)=l.map (fun p=>.string p.1)/\es.toList.map (·.val)=l.map (fun p=>val p.2)/\Go.MapKept.Stamped es clock/\
   ∀s d,(Lit.string s,d)∈L↔ ∃p∈l,p.1.data.toList=s/\d= .lit (lt p.2):=by
 rcases Go.WideElems.open_map ht h with⟨_,hx⟩ | ⟨b,es,clock,n,rfl,rfl,hb,_,F,hx⟩
 ·simp at hx
 have hL:L=(es.toList.map (Go.WideElems.rg prog k (Go.WideElems.elemAt (fun _=>()) prog w 0 sp false n e))).foldr DataW.insert []:=by
  have:=congrArg Prod.fst hx;simpa using this
 have key: ∀x∈es.toList,∃y:Bts×α,x.key= .string y.1/\x.val=val y.2/\Go.WideElems.rg prog k (Go.WideElems.elemAt (fun _=>()) prog w 0 sp false n e) x=(.string y.1.data.toList,.lit (lt y.2)):=by
  intro x hx;obtain⟨y,hy⟩:=F.reads x hx;have h1:=Go.WideElems.rd_key hy;obtain⟨z,h2,h3⟩:=Go.WideElems.rd_val hy;obtain⟨a,h4,h5⟩:=hv n _ _ h2;have h6: ∃s,x.key= .string s/\y.1= .string s.data.toList:=by
   unfold keyOf at h1;rw[hk]at h1;simp only[mapKey,hk]at h1;split at h1
   ·rename_i e1 _; cases e1
   ·rename_i e1 _; cases e1
   ·rename_i s _ e2;split at h1
    ·exact⟨s,e2,(Option.some.inj h1).symm⟩
    ·cases h1
   ·cases h1
  obtain⟨s,h7,h8⟩:=h6;refine⟨(s,a),h7,h4,?_⟩;rw[Go.WideElems.rg_of hy];exact Prod.ext h8 (by rw[h3,h5])
 obtain⟨l,hl,hR⟩:=zG4 key;refine⟨b,es,clock,l,rfl,hb,map_two hl fun i x y hx hy=>(hR i x y hx hy).1,map_two hl fun i x y hx hy=>(hR i x y hx hy).2.1,F.stamped,fun s d=> ?_⟩;have hg:es.toList.map (Go.WideElems.rg prog k (Go.WideElems.elemAt (fun _=>()) prog w 0 sp false n e))=l.map (fun y=>(Lit.string y.1.data.toList,DataW.lit (lt y.2))):=map_two hl fun i x y hx hy=>(hR i x y hx hy).2.2;rw[hL,(Go.WideShapes.sorted_perm _).mem_iff,hg,List.mem_map];constructor
 ·rintro⟨q,hq,e1⟩;simp only[Prod.mk.injEq,Lit.string.injEq]at e1;exact⟨q,hq,e1.1,e1.2.symm⟩
 ·rintro⟨q,hq,e1,e2⟩;exact⟨q,hq,by rw[e1,e2]⟩
theorem zHg{α:Type}(f:α->Value){w:World}{F:Nat->Prop}: ∀l:List α,zav w F (l.map fun x=>D.lit (f x)) (l.map f)
 | []=>by simp[zav]
 | x::r=>by
  simp only[List.map_cons,zav,Rd];exact⟨_,_,rfl,rfl,zHg f r⟩
theorem zDZ{α:Type}: ∀ {l:List (Bts×α)},(l.map (·.1)).Nodup -> ∀ {s:Bts} {v:α},(s,v)∈l->l.lookup s=some v
 | (a,b)::r,hn,s,v,h=>by
  simp only[List.map_cons,List.nodup_cons]at hn;rw[List.lookup_cons];rcases List.mem_cons.1 h with e | h
  ·cases e;have h1:(a==a)=true:=by rw[zDo]; simp
   rw[h1]
  ·have hne:s≠a:=fun e=>hn.1 (List.mem_map.2 ⟨(s,v),h,e⟩);have:(s==a)=false:=by rw[zDo]; simpa using hne
   rw[this];exact zDZ hn.2 h
theorem zG7{α:Type}: ∀ {l:List (Bts×α)} {s:Bts},(∀p∈l,p.1≠s)->l.lookup s=none
 | [],_,_=>rfl
 | (a,b)::r,s,h=>by
  rw[List.lookup_cons];have:(s==a)=false:=by rw[zDo]; simpa using(h (a,b) (by simp)).symm
  rw[this];exact zG7 (fun p hp=>h p (by simp[hp]))
theorem zHL{α:Type}{l:List (Bts×α)}{ks:List Value}(h:ks=l.map (fun p=>Value.string p.1))(hn:ks.Nodup):(l.map (·.1)).Nodup /\(l.map fun p=>D.lit (.string p.1)).Nodup :=by
 subst h;have h1:(l.map (·.1)).Nodup :=by
  have:l.map (fun p=>Value.string p.1)=(l.map (·.1)).map Value.string:=by simp
  rw[this]at hn;exact List.Pairwise.of_map _ (fun _ _ hab=>fun e=>hab (by rw[e])) hn
 refine⟨h1,?_⟩;have:(l.map fun p=>D.lit (.string p.1))=(l.map (·.1)).map fun s=>D.lit (.string s):=by simp
 rw[this];refine List.Pairwise.map _ (fun a b hab e=>hab ?_) h1;cases e;rfl
theorem bts_eq{a b:Bts}(h:a.data.toList=b.data.toList):a=b:=ByteArray.ext (Array.toList_inj.1 h)
def resS:List Bts:=[(⟨#[97,100,100]⟩:ByteArray),(⟨#[97,116]⟩:ByteArray),(⟨#[99,104,97,110]⟩:ByteArray),(⟨#[99,111,112,121]⟩:ByteArray),(⟨#[105,102]⟩:ByteArray),(⟨#[105,110]⟩:ByteArray),(⟨#[105,110,105,116]⟩:ByteArray),(⟨#[105,110,115,116]⟩:ByteArray),(⟨#[107,101,101,112]⟩:ByteArray),(⟨#[109,101,109]⟩:ByteArray),(⟨#[109,111,100,117,108,101]⟩:ByteArray),(⟨#[111,117,116]⟩:ByteArray),(⟨#[112,117,116]⟩:ByteArray),(⟨#[114,101,103]⟩:ByteArray),(⟨#[116,97,107,101]⟩:ByteArray),(⟨#[119,105,114,101]⟩:ByteArray)]
def opS:List (Bts×Int):=[((⟨#[38]⟩:ByteArray),3),((⟨#[43]⟩:ByteArray),6),((⟨#[45]⟩:ByteArray),7),((⟨#[46]⟩:ByteArray),11),((⟨#[60]⟩:ByteArray),9),((⟨#[61,61]⟩:ByteArray),8),((⟨#[94]⟩:ByteArray),5),((⟨#[124]⟩:ByteArray),4)]
def resD:List (Lit×DataW Unit):=resS.map fun s=>(.string s.data.toList,.lit (.bool true))
def opD:List (Lit×DataW Unit):=opS.map fun s=>(.string s.1.data.toList,.lit (.int .i64 s.2))
theorem laid_res:Rows.laid_wireloom_syntax_reserved=DataW.map resD:=rfl
theorem laid_op:Rows.laid_wireloom_syntax_operators=DataW.map opD:=rfl
theorem bool_val{w:World}{sp:Nat->Bool}: ∀n v (y:DataW Unit×List MemPlace),Go.WideElems.elemAt (fun _=>()) prog w 0 sp false n 4 v=some y-> ∃a,v= .bool a/\y.1= .lit (.bool a):=by
 intro n v y h;unfold Go.WideElems.elemAt at h;split at h
 ·rename_i hf;obtain⟨b,h1,h2⟩:=DataW.trod_bool tU4 h;refine⟨b,?_,by rw[h2]⟩;cases v <;> simp[Value.cells,Value.formed,tU4]at h1 hf;rw[h1]
 ·cases h
theorem int_val{w:World}{sp:Nat->Bool}: ∀n v (y:DataW Unit×List MemPlace),Go.WideElems.elemAt (fun _=>()) prog w 0 sp false n 3 v=some y-> ∃a:Int,v= .int .i64 a/\y.1= .lit (.int .i64 a):=by
 intro n v y h;unfold Go.WideElems.elemAt at h;split at h
 ·rename_i hf;obtain⟨b,h1,h2,_⟩:=DataW.trod_int tU3 h;refine⟨b,?_,by rw[h2]⟩;cases v <;> simp[Value.cells,Value.formed,tU3]at h1 hf;rw[h1.1,h1.2]
 ·cases h
theorem isRes_iff(s:Bts):zFM s=true↔s∈resS:=by
 have h1': ∀r∈resL,∃q∈resS,q=r:=by decide
 have h2': ∀r∈resS,∃q∈resL,q=r:=by decide
 have h1: ∀r∈resL,r∈resS:=fun r hr=>by obtain⟨q,hq,rfl⟩:=h1' r hr; exact hq
 have h2: ∀r∈resS,r∈resL:=fun r hr=>by obtain⟨q,hq,rfl⟩:=h2' r hr; exact hq
 unfold zFM;rw[List.any_eq_true];constructor
 ·rintro⟨x,hx,e⟩;rw[<-of_decide_eq_true e];exact h1 x hx
 ·intro h;exact⟨s,h2 s h,by simp⟩
theorem opOf_mem: ∀p∈opS,(zGx p.1:Int)=p.2/\zGx p.1≠0/\ ∃q∈opL,q.1=p.1/\(q.2:Int)=p.2:=by decide
theorem opOf_not{s:Bts}(h: ∀p∈opS,p.1≠s):zGx s=0:=by
 by_cases h0:zGx s=0
 ·exact h0
 obtain⟨p,hp,h1,_⟩:=opOf_ne h0;have h2: ∀p∈opL,∃q∈opS,q.1=p.1:=by decide
 obtain⟨q,hq,h3⟩:=h2 p hp;exact absurd (h3.trans h1) (h q hq)
theorem res_get{l:List (Bts×Bool)}(hn:(l.map (·.1)).Nodup)(h: ∀s d,(Lit.string s,d)∈resD↔ ∃p∈l,p.1.data.toList=s/\d= .lit (.bool p.2))(s:Bts):
  zjZ (l.map fun p=>D.lit (.string p.1)) (l.map fun p=>D.lit (.bool p.2)) (.lit (.string s))=if zFM s=true then some (.lit (.bool true))else none:=by
 rw[zCS (fun b:Bool=>D.lit (.bool b)) l s];by_cases hs:zFM s=true
 ·rw[if_pos hs];have hm:(Lit.string s.data.toList,DataW.lit (.bool true))∈resD:=List.mem_map.2 ⟨s,(isRes_iff s).1 hs,rfl⟩;obtain⟨p,hp,e1,e2⟩:=(h _ _).1 hm;have e3:p=(s,true):=by
   refine Prod.ext (bts_eq e1) ?_;have:=DataW.lit.inj e2;exact(Lit.bool.inj this).symm
  rw[e3]at hp;rw[zDZ hn hp];rfl
 ·rw[if_neg hs,zG7]
  ·rfl
  ·intro p hp e;apply hs;rw[isRes_iff];have:=(h p.1.data.toList (.lit (.bool p.2))).2 ⟨p,hp,rfl,rfl⟩;obtain⟨r,hr,e2⟩:=List.mem_map.1 this;simp only[Prod.mk.injEq,Lit.string.injEq]at e2;rw[<-e,<-bts_eq e2.1];exact hr
theorem op_get{l:List (Bts×Int)}(hn:(l.map (·.1)).Nodup)(h: ∀s d,(Lit.string s,d)∈opD↔ ∃p∈l,p.1.data.toList=s/\d= .lit (.int .i64 p.2)):
  (∀p∈l,p∈opS)/\ ∀s:Bts,zjZ (l.map fun p=>D.lit (.string p.1)) (l.map fun p=>D.lit (.int .i64 p.2)) (.lit (.string s))=if zGx s=0 then none else some (eI (zGx s)):=by
 have h1: ∀p∈l,p∈opS:=by
  intro p hp;have:=(h p.1.data.toList (.lit (.int .i64 p.2))).2 ⟨p,hp,rfl,rfl⟩;obtain⟨r,hr,e2⟩:=List.mem_map.1 this;simp only[Prod.mk.injEq,Lit.string.injEq,DataW.lit.injEq,Lit.int.injEq,true_and]at e2;have:r=p:=Prod.ext (bts_eq e2.1) e2.2;rw[<-this];exact hr
 refine⟨h1,fun s=> ?_⟩;rw[zCS (fun n:Int=>D.lit (.int .i64 n)) l s];by_cases hs: ∃p∈opS,p.1=s
 ·obtain⟨p,hp,rfl⟩:=hs;obtain⟨e1,e2,_⟩:=opOf_mem p hp;rw[if_neg e2,e1];obtain⟨q,hq,e3,e4⟩:=(h p.1.data.toList (.lit (.int .i64 p.2))).1 (List.mem_map.2 ⟨p,hp,rfl⟩);have e5:q=p:=by
   refine Prod.ext (bts_eq e3) ?_;have:=DataW.lit.inj e4;exact(Lit.int.inj this).2.symm
  rw[e5]at hq;rw[zDZ hn (show(p.1,p.2)∈l from hq)];rfl
 ·have hno: ∀p∈opS,p.1≠s:=fun p hp e=>hs ⟨p,hp,e⟩;rw[if_pos (opOf_not hno),zG7 (fun p hp=>hno p (h1 p hp))];rfl
theorem gn0 : prog.globalNamed "wireloom/syntax.reserved" = some 0 := by kernel_rfl
theorem gn1 : prog.globalNamed "wireloom/syntax.operators" = some 1 := by kernel_rfl
theorem gn3 : prog.globalNamed "strconv.ErrSyntax" = some 3 := by kernel_rfl
theorem gn4 : prog.globalNamed "strconv.ErrRange" = some 4 := by kernel_rfl
theorem gn5 : prog.globalNamed "internal/strconv.uint64pow10" = some 5 := by kernel_rfl
theorem gt0:(prog.globals[0]?).map (·.type)=some 269:=by kernel_rfl
theorem gt1:(prog.globals[1]?).map (·.type)=some 288:=by kernel_rfl
theorem gt3:(prog.globals[3]?).map (·.type)=some 163:=by kernel_rfl
theorem gt4:(prog.globals[4]?).map (·.type)=some 163:=by kernel_rfl
theorem gt5:(prog.globals[5]?).map (·.type)=some 323:=by kernel_rfl
theorem laid_pow:Rows.laid_internal_strconv_uint64pow10=(DataW.agg (Go.Lib.pow10Tab.map fun z=>DataW.lit (.int .u64 z)):DataW Unit):=rfl
theorem zFy{w:World}{n:String}{g:Nat}{cs:Array Value}(hg:prog.globalNamed n=some g)(h:w.var? prog n=some cs): ∃e z,w.heap[g]? =some (.cells cs e z):=by
 unfold World.var? at h;rw[hg]at h;simp only[Option.bind_some]at h;split at h
 ·rename_i c e z hh;cases h;exact⟨e,z,hh⟩
 ·cases h
theorem zGB{w:World}{g:Nat}{cs:Array Value}{e:TypeId}{z:Nat×Nat}{v:Value}(h:w.heap[g]? =some (.cells cs e z))(hv:cs.toList=[v]):w.cell? ⟨g,0,none⟩=some v:=by
 have:cs=#[v]:=Array.toList_inj.1 hv;subst this;simp[World.cell?,h]
theorem pow_cells{w:World}{sp:Nat->Bool}{fuel:Nat}{cs:Array Value}{p:List MemPlace}(h:DataW.trod (fun _=>()) prog w 0 sp false fuel 323 cs.toList=some (.agg (Go.Lib.pow10Tab.map fun z=>DataW.lit (.int .u64 z)),p)):cs=zEg:=by
 obtain⟨xs,m,rfl,hx,hl,hn,hi⟩:=DataW.trod_array tU323 h;have hc:prog.cellsOf 62=1:=by kernel_rfl
 have hc2:prog.cellsOf 323=20:=by kernel_rfl
 have hx1:Go.Lib.pow10Tab.map (fun z=>(DataW.lit (.int .u64 z):DataW Unit))=xs.map (·.1):=by
  have:=congrArg Prod.fst hx;simpa using this
 apply Array.toList_inj.1;apply List.ext_getElem?;intro i;rcases Nat.lt_or_ge i 20 with h2 | h2
 ·have h3:=hi i h2;rw[hc,Nat.mul_one]at h3;have hxi:xs[i]? =some xs[i]:=wab (by omega);rw[hxi]at h3;obtain⟨n,e1,e2,_⟩:=DataW.trod_int tU62 h3;have e3:cs.toList[i]? =some (.int .u64 n):=by
   have:=congrArg List.head? e1;rw[List.head?_take,if_neg (by decide),List.head?_drop]at this;simpa using this
  have e4:(xs.map (·.1))[i]? =some (.lit (.int .u64 n)):=by
   rw[waa,hxi,e2]; rfl
  rw[<-hx1,waa]at e4;rw[e3];unfold zEg;rw[waa];cases hp:Go.Lib.pow10Tab[i]? with
  | none=>rw[hp]at e4; cases e4
  | some z=>
   rw[hp]at e4;simp only[Option.map_some,Option.some.injEq,DataW.lit.injEq,Lit.int.injEq,true_and]at e4;rw[e4]; rfl
 ·rw[List.getElem?_eq_none (by rw[hl,hc2]; exact h2),List.getElem?_eq_none];exact h2
def laidL : List (String × DataW Unit) := [("math/bits.deBruijn32tab",Rows.laid_math_bits_deBruijn32tab),("math/bits.deBruijn64tab",Rows.laid_math_bits_deBruijn64tab),("internal/strconv.uint64pow10",Rows.laid_internal_strconv_uint64pow10),("strconv.ErrRange",Rows.laid_strconv_ErrRange),("strconv.ErrSyntax",Rows.laid_strconv_ErrSyntax),("wireloom/syntax.reserved",Rows.laid_wireloom_syntax_reserved),("wireloom/syntax.operators",Rows.laid_wireloom_syntax_operators)]
theorem laid_L:zDf=laidL:=rfl
theorem laid_no:(laidL.filter fun x=>x.2.handleName?.isSome)=[]:=by kernel_rfl
theorem glo_of{w:World}(h:laidMetH prog zDf w): ∃Z:GP,Z.Ok/\zFQ w (zGs w) Z.vs/\ ∀O η,zaN O w (zGs w) η Z.cs Z.vs:=by
 have h2:laidMet prog laidL w:=by
  unfold laidMetH at h;rw[laid_L,laid_no]at h;exact h
 obtain⟨ps,hv,_,_⟩:=h2;unfold laidL at hv;simp only[DataW.LaidVars]at hv;obtain⟨_,_,_,_,_,_,_,_,_,_,hv,_⟩:=hv;obtain⟨_,_,_,_,_,_,_,_,_,_,hv,_⟩:=hv;obtain⟨g5,t5,c5,f5,p5,_,a5,b5,v5,r5,hv,_⟩:=hv;obtain⟨g4,t4,c4,f4,p4,_,a4,b4,v4,r4,hv,_⟩:=hv;obtain⟨g3,t3,c3,f3,p3,_,a3,b3,v3,r3,hv,_⟩:=hv;obtain⟨g0,t0,c0,f0,p0,_,a0,b0,v0,r0,hv,_⟩:=hv;obtain⟨g1,t1,c1,f1,p1,_,a1,b1,v1,r1,_,_⟩:=hv;obtain rfl:5=g5:=Option.some.inj (gn5.symm.trans a5);obtain rfl:4=g4:=Option.some.inj (gn4.symm.trans a4);obtain rfl:3=g3:=Option.some.inj (gn3.symm.trans a3);obtain rfl:0=g0:=Option.some.inj (gn0.symm.trans a0);obtain rfl:1=g1:=Option.some.inj (gn1.symm.trans a1);obtain rfl:323=t5:=Option.some.inj (gt5.symm.trans b5);obtain rfl:163=t4:=Option.some.inj (gt4.symm.trans b4);obtain rfl:163=t3:=Option.some.inj (gt3.symm.trans b3);obtain rfl:269=t0:=Option.some.inj (gt0.symm.trans b0);obtain rfl:288=t1:=Option.some.inj (gt1.symm.trans b1);obtain⟨e5,z5,h5⟩:=zFy gn5 v5;obtain⟨e4,z4,h4⟩:=zFy gn4 v4;obtain⟨e3,z3,h3⟩:=zFy gn3 v3;obtain⟨e0',z0,h0⟩:=zFy gn0 v0;obtain⟨e1,z1,h1⟩:=zFy gn1 v1;rw[laid_pow]at r5;obtain rfl:=pow_cells r5;rw[laid_res]at r0;rw[laid_op]at r1;unfold Rows.laid_strconv_ErrRange at r4;unfold Rows.laid_strconv_ErrSyntax at r3;obtain⟨ms,hms⟩:=tUerr;obtain⟨_,u4,w4,k4,_,_⟩:=iface_of_trod hms r4;obtain⟨_,u3,w3,k3,_,_⟩:=iface_of_trod hms r3;obtain⟨b,es,clock,l,i1,i2,i3,i4,i5,i6⟩:=map_read Value.bool Lit.bool tU269 tU9 bool_val r0;obtain⟨b',es',clock',l',j1,j2,j3,j4,j5,j6⟩:=map_read (fun n:Int=>Value.int .i64 n) (fun n:Int=>Lit.int .i64 n) tU288 tU9 int_val r1;obtain⟨n1,n2⟩:=zHL i3 i5.2.2;obtain⟨m1,m2⟩:=zHL j3 j5.2.2;obtain⟨o1,o2⟩:=op_get m1 j6;have hlt: ∀ {g:Nat} {o:Go.Obj},w.heap[g]? =some o->zGs w g:=fun h=>(Array.getElem?_eq_some_iff.1 h).1;refine⟨⟨l.map fun p=>D.lit (.string p.1),l.map fun p=>D.lit (.bool p.2),es.toList.map (·.born),clock,l'.map fun p=>D.lit (.string p.1),l'.map fun p=>D.lit (.int .i64 p.2),es'.toList.map (·.born),clock',u3,.lit w3,u4,.lit w4⟩,?_,?_,?_⟩
 ·refine{res:=res_get n1 i6,ops:=o2,rk:= ?_,ok:= ?_,it:= ?_}
  ·intro y hy;obtain⟨p,hp,rfl⟩:=List.mem_map.1 hy;refine zB5 ?_;have:=(i6 p.1.data.toList (.lit (.bool p.2))).2 ⟨p,hp,rfl,rfl⟩;obtain⟨r,hr,e2⟩:=List.mem_map.1 this;simp only[Prod.mk.injEq,Lit.string.injEq]at e2;rw[<-bts_eq e2.1];have hz: ∀r∈resS,r.size<=1000000:=by decide
   exact hz r hr
  ·intro y hy;obtain⟨p,hp,rfl⟩:=List.mem_map.1 hy;refine zB5 ?_;have hz: ∀r∈opS,r.1.size<=1000000:=by decide
   exact hz p (o1 p hp)
  ·intro j hj;simp only[List.length_map]at hj;obtain⟨_,_,q,hq,e1,e2⟩:=opOf_mem l'[j] (o1 _ (List.getElem_mem hj));refine⟨q,hq,?_,?_⟩
   ·rw[e1]; simp[List.getD,hj]
   ·rw[e2]; simp[List.getD,hj,eI]
 ·intro b cells hm;simp only[GP.vs,List.mem_cons,List.not_mem_nil,or_false,reduceCtorEq,false_or,Value.tuple.injEq]at hm;have e:=congrArg Array.toList hm;simp only[List.cons.injEq,Value.pointer.injEq,Option.some.injEq,Addr.mk.injEq,Value.agg.injEq,and_true]at e;obtain⟨rfl,rfl⟩:=e;exact⟨hlt h5,e5,z5,h5⟩
 ·intro O η;simp only[GP.cs,GP.vs,zaN,zaL,Rd,zbd];refine⟨_,_,rfl,⟨0,0,rfl,hlt h0,⟨_,zGB h0 i1,b,es,rfl,hlt i2,i2,?_,?_,rfl,n2,i5.2.1,?_⟩,trivial⟩,_,_,rfl,⟨1,0,rfl,hlt h1,⟨_,zGB h1 j1,b',es',rfl,hlt j2,j2,?_,?_,rfl,m2,j5.2.1,?_⟩,trivial⟩,_,_,rfl,⟨3,0,rfl,hlt h3,⟨_,zGB h3 k3,w3,rfl,rfl⟩,trivial⟩,_,_,rfl,⟨4,0,rfl,hlt h4,⟨_,zGB h4 k4,w4,rfl,rfl⟩,trivial⟩,_,_,rfl,rfl,rfl⟩
  ·rw[i3]; exact zHg _ l
  ·rw[i4]; exact zHg _ l
  ·intro x hx;obtain⟨y,hy,rfl⟩:=List.mem_map.1 hx;exact i5.1 y hy
  ·rw[j3]; exact zHg _ l'
  ·rw[j4]; exact zHg _ l'
  ·intro x hx;obtain⟨y,hy,rfl⟩:=List.mem_map.1 hx;exact j5.1 y hy
theorem blk_lifted(os:Os)(started:os.Started)(H:Type)(enc:TypeId×Value->H):
  ReturnsInHanded {} Tryz.checked os 7 .any (fun w args=>(Rows.syntaxBlanksSpec.pre enc prog Tryz.f7 [] false w args/\laidMetH prog zDf w)/\sizedMet enc prog Tryz.f7 (OpenSpec.ofChange Rows.syntaxBlanksSpec) false w args)
   (Rows.syntaxBlanksSpec.post enc prog Tryz.f7 false true false false):=by
 refine returnsInHanded_of_change_and (C:=Tryz.checked) (X:=fun w _=>laidMetH prog zDf w) (fun _ _ _ hh h=>h.of_heap hh) own started (by kernel_rfl) Tryz.func7
  (ChangeSpec.witness_shaped (enc:=enc) (C:=Tryz.checked) (os:=os) (X:=fun w _=>laidMetH prog zDf w) false (World.doorLaid prog 192 os) #[.agg #[.slice none 0 0],.slice none 0 0] 8 rfl (World.shaped_of_RefB (by kernel_rfl) (by kernel_rfl)) (by kernel_rfl) (by kernel_rfl) (by kernel_rfl) (zD9 os _)) ?_
 intro W base args ds gs before hval hW _ _ hX _;obtain⟨Z,hZ,hg1,hg2⟩:=glo_of hX;refine zIV (P:=prog) (n:=8) (ss:=[shFile,.one (.sl [.int .u8])]) (id:=7777777) (cs:=Z.cs) (gv:=Z.vs) zdF (of_decide_eq_true (by kernel_rfl)) (tb:=4) (by kernel_rfl) Tryz.underlying4 (by kernel_rfl) rfl hval hW (fun hl=> ?_) hg1 hg2 (fun Ds hD _=> ?_)
 ·match ds,hl with
  | [_,_],_=>rfl
 ·obtain⟨x,y,rfl,hx,hy⟩:=zlb hD;obtain⟨a,rfl,ha⟩:=file_of hx;obtain⟨b,rfl,hb⟩:=zk5 hy;exact blanks_w Z hZ a b ha hb
theorem blk_j0:jG0 prog 7 Tryz.f7 Rows.syntaxBlanksSpec Rows.syntaxBlanksRow=true:=by kernel_rfl
theorem blk_j1:jG1 prog 7 Tryz.f7 Rows.syntaxBlanksSpec Rows.syntaxBlanksRow=true:=by kernel_rfl
theorem blk_j2:jG2 prog 7 Tryz.f7 Rows.syntaxBlanksSpec Rows.syntaxBlanksRow=true:=by kernel_rfl
theorem blk_j3:jG3 prog 7 Tryz.f7 Rows.syntaxBlanksSpec Rows.syntaxBlanksRow=true:=by kernel_rfl
theorem blk_j4:jG4 prog 7 Tryz.f7 Rows.syntaxBlanksSpec Rows.syntaxBlanksRow=true:=by kernel_rfl
theorem blk_j5:jG5 prog 7 Tryz.f7 Rows.syntaxBlanksSpec Rows.syntaxBlanksRow=true:=by kernel_rfl
theorem blk_j6:jG6 prog 7 Tryz.f7 Rows.syntaxBlanksSpec Rows.syntaxBlanksRow=true:=by kernel_rfl
theorem blk_j7:jG7 prog 7 Tryz.f7 Rows.syntaxBlanksSpec Rows.syntaxBlanksRow=true:=by kernel_rfl
theorem blk_j8:jG8 prog 7 Tryz.f7 Rows.syntaxBlanksSpec Rows.syntaxBlanksRow=true:=by kernel_rfl
theorem blk_j:joinedFacts prog 7 Tryz.f7 Rows.syntaxBlanksSpec Rows.syntaxBlanksRow=true:=ziO jP1 jP2 jP6 jP8 jP24 jP25 blk_j0 blk_j1 blk_j2 blk_j3 blk_j4 blk_j5 blk_j6 blk_j7 blk_j8
theorem blk_row:Rows.SyntaxBlanksSaid:=
 OpenClaim.holds_of_wide 7 Tryz.f7 rfl rfl rfl rfl rfl rfl rfl ⟨rfl,rfl,rfl,rfl,rfl⟩ rfl rfl rfl rfl rfl (by kernel_rfl) Tryz.func7 blk_j
  (of_decide_eq_true (by kernel_rfl)) (by unfold Func.isWrapper; first | (rw[if_pos (by decide+kernel)]; kernel_rfl) | (rw[if_neg (by decide+kernel)]; exact⟨rfl,rfl⟩))
  (fun os started H enc _=>blk_lifted os started H enc)
theorem blk_p1:Rows.syntaxBlanksRow.wfByText (OpenSpec.ofChange Rows.syntaxBlanksSpec)=true:=by kernel_rfl
theorem blk_p4 : prog.funcNamed "wireloom/wireloomlaw09.SyntaxBlanks" = some 7 := by kernel_rfl
theorem blk_p5:Tryz.f7.params.toList.all (fun t=> !prog.wantsStandIn t)=true:=by kernel_rfl
theorem blk_p6:false=Rows.syntaxBlanksRow.goesBy Tryz.pinned.checked.prog:=by kernel_rfl
theorem blk_holds:Rows.SyntaxBlanksCardSaid:=
 Claim7.holds_tied_plain_at .later [] [.data,.data,.data,.sentinel,.sentinel,.mapped,.mapped] true (true,"415a2752c97c208b60879d37bb74c06387b46dafddcbe37e27d33e8976973eff") true
  blk_row (fun _ h=>by cases h) blk_p1 (fun _ h=>by cases h) syntaxBlanks_row_tie rfl ⟨rfl,rfl⟩ cP2 rfl
  (fun f fn hf hfn=>by
   obtain rfl:f=7:=Option.some.inj (blk_p4.symm.trans hf) |>.symm;obtain rfl:fn=Tryz.f7:=(Option.some.inj (Tryz.func7.symm.trans hfn)).symm;exact⟨cP3,fun j t ht=>zHO blk_p5 j t ht⟩)
  blk_p6
end Go.Proofs.YtplfjjgkbnolhaaGreatDoor
