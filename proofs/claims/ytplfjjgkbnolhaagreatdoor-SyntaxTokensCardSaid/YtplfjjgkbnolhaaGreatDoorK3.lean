/- Contracts and laws. Conditions: those of each. -/
import Derived.Test.YtplfjjgkbnolhaaGreatDoorK1
import Derived.Lib.AtoiTie
import Derived.Lib.ItoaLen
import Derived.Test.YtplfjjgkbnolhaaGreatDoorGCg
set_option linter.unusedSimpArgs false
set_option linter.unusedVariables false
open List renaming length_map -> waa, length_append -> wab, length_cons -> wac, map_append -> wad, length_nil -> wae, append_assoc -> waf, append_nil -> wag, nil_append -> wah, cons_append -> wai, getElem?_eq_getElem -> waj
open ByteArray renaming empty -> wak
open Int renaming toNat_natCast -> wal
open Nat renaming le_refl -> wam
open Bool renaming and_eq_true -> wan, eq_iff_iff -> wao
open Option renaming map_some -> wap, map_none -> waq, getD_some -> war, getD_none -> was
namespace Go.Proofs.YtplfjjgkbnolhaaGreatDoor
open Go.Aw
open _root_.Go.Proofs.Tryz
def Ge{α:Type}(a:Nat)(r:PR α):Prop:= ∀x b,r= .ok (x,b)->a<=b
theorem zB0{α:Type}{a b:Nat}{x:α}(h:a<=b):Ge a (.ok (x,b)):=fun y c e=>by cases e; exact h
theorem zCM{α:Type}{a i:Nat}:Ge a (.error i:PR α):=fun y c e=>by cases e
theorem zAM{α β:Type}{a:Nat}{r:PR α}{f:α->Nat->PR β}(h:Ge a r)(h2: ∀x b,Ge b (f x b)):Ge a (r.bd f):=by
 intro y c e;cases r with
 | error i=>cases e
 | ok p=>exact Nat.le_trans (h p.1 p.2 rfl) (h2 p.1 p.2 y c e)
theorem zBW{α:Type}{a:Nat}{c:Prop}[Decidable c]{r s:PR α}(h1:Ge a r)(h2:Ge a s):Ge a (if c then r else s):=by split <;> assumption
theorem Ge.le{α:Type}{a b:Nat}{r:PR α}(h:Ge b r)(hab:a<=b):Ge a r:=fun x c e=>Nat.le_trans hab (h x c e)
theorem zBe(T:List Tok)(s:Bts)(a:Nat):Ge a (zBx T s a):=zBW (zB0 (by omega)) zCM
theorem ge_word(T:List Tok)(s:Bts)(a:Nat):Ge a (zDG T s a):=zBW (zB0 (by omega)) zCM
theorem zCn(T:List Tok)(a:Nat):Ge a (zBE T a):=zBW (zB0 (by omega)) zCM
theorem zE6(T:List Tok)(m:Int)(a:Nat):Ge a (zAZ T m a):=by
 unfold zAZ;split
 ·exact zBW (zB0 (by omega)) zCM
 ·exact zCM
theorem zE5(T:List Tok)(a:Nat):Ge a (zDM T a):=by
 unfold zDM;refine zBW (zAM (zE6 _ _ _) fun _ _=>zB0 (wam _)) (zAM (zCn _ _) fun _ _=>zBW (zAM ((zE6 _ _ _).le (by omega)) fun _ _=>zB0 (wam _)) (zBW (zAM ((zE6 _ _ _).le (by omega)) fun _ _=>zB0 (wam _)) (zB0 (wam _))))
theorem ge_round{rec:Nat->PR Expr}(hr: ∀a,Ge a (rec a))(T:List Tok)(a:Nat):Ge a (zC7 rec T a):=by
 unfold zC7;refine zAM (hr _) fun _ _=>zBW (zAM ((hr _).le (by omega)) fun _ _=>zAM (zBe _ _ _) fun _ _=>zAM (hr _) fun _ _=>zAM (zBe _ _ _) fun _ _=>zB0 (wam _)) (zBW zCM (zAM ((hr _).le (by omega)) fun _ _=>zAM (zBe _ _ _) fun _ _=>zB0 (wam _)))
theorem ge_curly{rec:Nat->PR Expr}(hr: ∀a,Ge a (rec a))(T:List Tok)(a:Nat):Ge a (zC0 rec T a):=by
 unfold zC0;refine zAM (hr _) fun _ _=>zBW (zAM ((zE5 _ _).le (by omega)) fun _ _=>zAM (zBe _ _ _) fun _ _=>zAM (zE5 _ _) fun _ _=>zAM (zBe _ _ _) fun _ _=>zB0 (wam _)) (zAM (zBe _ _ _) fun _ _=>zAM (zE5 _ _) fun _ _=>zAM (zBe _ _ _) fun _ _=>zB0 (wam _))
theorem ge_exprG{rec:Nat->PR Expr}(hr: ∀a,Ge a (rec a))(deep:Bool)(T:List Tok)(a:Nat):Ge a (zCK rec deep T a):=by
 unfold zCK;refine zBW (zAM ((zE5 _ _).le (by omega)) fun _ _=>zAM (zBe _ _ _) fun _ _=>zAM (zE5 _ _) fun _ _=>zAM (zBe _ _ _) fun _ _=>zB0 (wam _)) (zBW (zAM (zCn _ _) fun _ _=>zBW (zAM ((hr _).le (by omega)) fun _ _=>zAM (zBe _ _ _) fun _ _=>zB0 (wam _)) (zB0 (wam _)))
  (zBW zCM (zBW (zAM ((hr _).le (by omega)) fun _ _=>zB0 (wam _)) (zBW ((ge_round hr _ _).le (by omega)) (zBW ((ge_curly hr _ _).le (by omega)) zCM)))))
theorem zDT(T:List Tok): ∀(d a:Nat),Ge a (zBA T d a)
 | 0,a=>ge_exprG (fun _=>zCM) _ _ _
 | d+1,a=>ge_exprG (zDT T d) _ _ _
theorem ge_rule(T:List Tok)(a:Nat):Ge a (zEm T a):=by
 unfold zEm;refine zBW zCM ?_;split
 ·exact zAM ((zCn _ _).le (by omega)) fun _ _=>zB0 (wam _)
 ·exact zAM ((zCn _ _).le (by omega)) fun _ _=>zAM (zE6 _ _ _) fun _ _=>zB0 (wam _)
 ·exact zB0 (by omega)
 ·exact zCM
theorem ge_rest{α:Type}{one:Nat->PR α}(ho: ∀a,Ge a (one a))(T:List Tok): ∀(n:Nat) (l:List α) (a:Nat),Ge a (zDB one T n l a)
 | 0,_,_=>zCM
 | n+1,l,a=>zBW (zAM ((ho _).le (by omega)) fun _ _=>ge_rest ho T n _ _) (zAM (zBe _ _ _) fun _ _=>zB0 (wam _))
theorem ge_list{α:Type}{one:Nat->PR α}(ho: ∀a,Ge a (one a))(T:List Tok)(a:Nat):Ge a (zDg one T a):=
 zAM (zBe _ _ _) fun _ _=>zBW (zB0 (by omega)) (zAM (ho _) fun _ _=>ge_rest ho T _ _ _)
theorem ge_bind(T:List Tok)(a:Nat):Ge a (zDP T a):=zAM (zCn _ _) fun _ _=>zAM (zBe _ _ _) fun _ _=>zAM (zCn _ _) fun _ _=>zB0 (wam _)
theorem zGD(x:Item)(T:List Tok)(a:Nat):Ge a (zCc x T a):=zAM (zCn _ _) fun _ _=>zAM (zBe _ _ _) fun _ _=>zAM (zE5 _ _) fun _ _=>zB0 (wam _)
theorem ge_chan(x:Item)(T:List Tok)(a:Nat):Ge a (zE0 x T a):=zAM (zGD _ _ _) fun _ _=>zAM (zBe _ _ _) fun _ _=>zAM (zE5 _ _) fun _ _=>zAM (zBe _ _ _) fun _ _=>zB0 (wam _)
theorem ge_take(x:Item)(T:List Tok)(a:Nat):Ge a (zFw x T a):=zAM (zCn _ _) fun _ _=>zAM (ge_word _ _ _) fun _ _=>zAM (zDT _ _ _) fun _ _=>zB0 (wam _)
theorem ge_read(k:Nat)(T:List Tok)(a:Nat):Ge a (zHh k T a):=by
 unfold zHh;split
 ·exact ge_chan _ _ _
 ·exact zAM (zGD _ _ _) fun _ _=>zAM (zBe _ _ _) fun _ _=>zAM (zE5 _ _) fun _ _=>zAM (zBe _ _ _) fun _ _=>zAM (zDT _ _ _) fun _ _=>zAM (ge_rule _ _) fun _ _=>zB0 (wam _)
 ·exact zAM (zGD _ _ _) fun _ _=>zAM (zBe _ _ _) fun _ _=>zAM (zDT _ _ _) fun _ _=>zB0 (wam _)
 ·exact zAM (ge_chan _ _ _) fun _ _=>zAM (ge_word _ _ _) fun _ _=>zAM (zDT _ _ _) fun _ _=>zAM (ge_word _ _ _) fun _ _=>zAM (zDT _ _ _) fun _ _=>zAM (zBe _ _ _) fun _ _=>zAM (zDT _ _ _) fun _ _=>zAM (ge_rule _ _) fun _ _=>zB0 (wam _)
 ·exact ge_take _ _ _
 ·exact zAM (ge_take _ _ _) fun _ _=>zAM (zBe _ _ _) fun _ _=>zAM (zDT _ _ _) fun _ _=>zB0 (wam _)
 ·exact zAM (zCn _ _) fun _ _=>zAM (zBe _ _ _) fun _ _=>zAM (zCn _ _) fun _ _=>zAM (ge_list (zE5 T) _ _) fun _ _=>zAM (ge_list (ge_bind T) _ _) fun _ _=>zB0 (wam _)
 ·exact zGD _ _ _
theorem ge_item(T:List Tok)(a:Nat):Ge a (zDV T a):=by
 unfold zDV;refine zBW zCM ?_;split
 ·exact zAM ((ge_read _ _ _).le (by omega)) fun _ _=>zAM (zBe _ _ _) fun _ _=>zB0 (wam _)
 ·exact zCM
theorem ge_items(T:List Tok): ∀(n:Nat) (l:List Item) (a:Nat),Ge a (zCN T n l a)
 | 0,_,_=>zCM
 | n+1,l,a=>zBW (zB0 (by omega)) (zAM (ge_item _ _) fun _ _=>ge_items T n _ _)
theorem gt_module{T:List Tok}{a:Nat}{m:Module}{b:Nat}(h:zBC T a= .ok (m,b)):a+1<=b:=by
 unfold zBC at h;unfold zDG at h;split at h
 ·rw[PR.bd_ok]at h;exact(zAM (zCn _ _) fun _ _=>zAM (ge_list (zCn T) _ _) fun _ _=>zAM (zBe _ _ _) fun _ _=>zAM (zCn _ _) fun _ _=>zAM (zBe _ _ _) fun _ _=>zAM (ge_items _ _ _ _) fun _ _=>zB0 (wam _)) _ _ h
 ·cases h
def In{α:Type}(n:Nat):PR α->Prop
 | .ok (_,b)=>b<n
 | .error i=>i<n
theorem zAL{α β:Type}{n:Nat}{r:PR α}{f:α->Nat->PR β}(h:In n r)(h2: ∀x b,b<n->In n (f x b)):In n (r.bd f):=by
 cases r with
 | error i=>exact h
 | ok p=>exact h2 p.1 p.2 h
theorem zBX{α:Type}{n:Nat}{c:Prop}[Decidable c]{r s:PR α}(h1:c->In n r)(h2: ¬c->In n s):In n (if c then r else s):=by
 by_cases h:c
 ·rw[if_pos h]; exact h1 h
 ·rw[if_neg h]; exact h2 h
section
variable {T:List Tok} (hT:TOk T)
include hT
theorem zBf(s:Bts){a:Nat}(ha:a<T.length):In T.length (zBx T s a):=zBX (fun h=>zBj hT ha (by decide) h) (fun _=>ha)
theorem zIe(s:Bts){a:Nat}(ha:a<T.length):In T.length (zDG T s a):=zBX (fun h=>zBj hT ha (by decide) h) (fun _=>ha)
theorem zCp{a:Nat}(ha:a<T.length):In T.length (zBE T a):=zBX (fun h=>hT.last a ha (by rw[h.1]; decide)) (fun _=>ha)
theorem zFa(m:Int){a:Nat}(ha:a<T.length):In T.length (zAZ T m a):=by
 unfold zAZ;split
 ·exact zBX (fun h=>hT.last a ha (by rw[h.1]; decide)) (fun _=>ha)
 ·exact ha
theorem zE9{a:Nat}(ha:a<T.length):In T.length (zDM T a):=by
 unfold zDM;refine zBX (fun _=>zAL (zFa hT _ ha) fun _ _ h=>h) (fun _=>zAL (zCp hT ha) fun _ b hb=>zBX (fun h=>zAL (zFa hT _ (zBj hT hb (by decide) h)) fun _ _ h=>h) (fun _=>zBX (fun h=>zAL (zFa hT _ (zBj hT hb (by decide) h)) fun _ _ h=>h) (fun _=>hb)))
theorem in_round{rec:Nat->PR Expr}(hr: ∀a,a<T.length->In T.length (rec a)){a:Nat}(ha:a<T.length):In T.length (zC7 rec T a):=by
 unfold zC7;refine zAL (hr _ ha) fun _ b hb=>zBX (fun h=>zAL (hr _ (zBj hT hb (by decide) h)) fun _ _ hc=>zAL (zBf hT _ hc) fun _ _ hd=>zAL (hr _ hd) fun _ _ he=>zAL (zBf hT _ he) fun _ _ h=>h) (fun _=>zBX (fun _=>hb) (fun h=>zAL (hr _ (hT.last b hb (by intro e; apply h; right; rw[e]; decide))) fun _ _ hc=>zAL (zBf hT _ hc) fun _ _ h=>h))
theorem in_curly{rec:Nat->PR Expr}(hr: ∀a,a<T.length->In T.length (rec a)){a:Nat}(ha:a<T.length):In T.length (zC0 rec T a):=by
 unfold zC0;refine zAL (hr _ ha) fun _ b hb=>zBX (fun h=>zAL (zE9 hT (zBj hT hb (by decide) h)) fun _ _ hc=>zAL (zBf hT _ hc) fun _ _ hd=>zAL (zE9 hT hd) fun _ _ he=>zAL (zBf hT _ he) fun _ _ h=>h) (fun _=>zAL (zBf hT _ hb) fun _ _ hd=>zAL (zE9 hT hd) fun _ _ he=>zAL (zBf hT _ he) fun _ _ h=>h)
theorem in_exprG{rec:Nat->PR Expr}(hr: ∀a,a<T.length->In T.length (rec a))(deep:Bool){a:Nat}(ha:a<T.length):In T.length (zCK rec deep T a):=by
 unfold zCK;refine zBX (fun h=>zAL (zE9 hT (zBj hT ha (by decide) h)) fun _ _ hc=>zAL (zBf hT _ hc) fun _ _ hd=>zAL (zE9 hT hd) fun _ _ he=>zAL (zBf hT _ he) fun _ _ h=>h)
  (fun _=>zBX (fun _=>zAL (zCp hT ha) fun _ b hb=>zBX (fun h=>zAL (hr _ (zBj hT hb (by decide) h.2)) fun _ _ hc=>zAL (zBf hT _ hc) fun _ _ h=>h) (fun _=>hb))
   (fun _=>zBX (fun _=>ha) (fun _=>zBX (fun h=>zAL (hr _ (zBj hT ha (by decide) h)) fun _ _ h=>h) (fun _=>zBX (fun h=>in_round hT hr (zBj hT ha (by decide) h)) (fun _=>zBX (fun h=>in_curly hT hr (zBj hT ha (by decide) h)) (fun _=>ha))))))
theorem zDU: ∀(d:Nat) {a:Nat},a<T.length->In T.length (zBA T d a)
 | 0,_,ha=>in_exprG hT (rec:=fun a=>.error a) (fun a h=>(show In T.length (.error a:PR Expr)from h)) _ ha
 | d+1,_,ha=>in_exprG hT (fun _ h=>zDU d h) _ ha
theorem in_rule{a:Nat}(ha:a<T.length):In T.length (zEm T a):=by
 unfold zEm;refine zBX (fun _=>ha) (fun h=> ?_);have h1:=hT.last a ha (by intro e; apply h; rw[e]; decide);split
 ·exact zAL (zCp hT h1) fun _ _ h=>h
 ·exact zAL (zCp hT h1) fun _ _ hb=>zAL (zFa hT _ hb) fun _ _ h=>h
 ·exact h1
 ·exact ha
theorem in_rest{α:Type}{one:Nat->PR α}(ho: ∀a,a<T.length->In T.length (one a)): ∀(n:Nat) (l:List α) {a:Nat},a<T.length->In T.length (zDB one T n l a)
 | 0,_,_,ha=>ha
 | n+1,l,_,ha=>zBX (fun h=>zAL (ho _ (zBj hT ha (by decide) h)) fun _ _ hb=>in_rest ho n _ hb) (fun _=>zAL (zBf hT _ ha) fun _ _ h=>h)
theorem in_list{α:Type}{one:Nat->PR α}(ho: ∀a,a<T.length->In T.length (one a)){a:Nat}(ha:a<T.length):In T.length (zDg one T a):=
 zAL (zBf hT _ ha) fun _ b hb=>zBX (fun h=>zBj hT hb (by decide) h) (fun _=>zAL (ho _ hb) fun _ _ hc=>in_rest hT ho _ _ hc)
theorem in_bind{a:Nat}(ha:a<T.length):In T.length (zDP T a):=zAL (zCp hT ha) fun _ _ hb=>zAL (zBf hT _ hb) fun _ _ hc=>zAL (zCp hT hc) fun _ _ h=>h
theorem zGH(x:Item){a:Nat}(ha:a<T.length):In T.length (zCc x T a):=zAL (zCp hT ha) fun _ _ hb=>zAL (zBf hT _ hb) fun _ _ hc=>zAL (zE9 hT hc) fun _ _ h=>h
theorem in_chan(x:Item){a:Nat}(ha:a<T.length):In T.length (zE0 x T a):=zAL (zGH hT _ ha) fun _ _ hb=>zAL (zBf hT _ hb) fun _ _ hc=>zAL (zE9 hT hc) fun _ _ hd=>zAL (zBf hT _ hd) fun _ _ h=>h
theorem in_take(x:Item){a:Nat}(ha:a<T.length):In T.length (zFw x T a):=zAL (zCp hT ha) fun _ _ hb=>zAL (zIe hT _ hb) fun _ _ hc=>zAL (zDU hT _ hc) fun _ _ h=>h
theorem in_read(k:Nat){a:Nat}(ha:a<T.length):In T.length (zHh k T a):=by
 unfold zHh;split
 ·exact in_chan hT _ ha
 ·exact zAL (zGH hT _ ha) fun _ _ hb=>zAL (zBf hT _ hb) fun _ _ hc=>zAL (zE9 hT hc) fun _ _ hd=>zAL (zBf hT _ hd) fun _ _ he=>zAL (zDU hT _ he) fun _ _ hf=>zAL (in_rule hT hf) fun _ _ h=>h
 ·exact zAL (zGH hT _ ha) fun _ _ hb=>zAL (zBf hT _ hb) fun _ _ hc=>zAL (zDU hT _ hc) fun _ _ h=>h
 ·exact zAL (in_chan hT _ ha) fun _ _ hb=>zAL (zIe hT _ hb) fun _ _ hc=>zAL (zDU hT _ hc) fun _ _ hd=>zAL (zIe hT _ hd) fun _ _ he=>zAL (zDU hT _ he) fun _ _ hf=>zAL (zBf hT _ hf) fun _ _ hg=>zAL (zDU hT _ hg) fun _ _ hh=>zAL (in_rule hT hh) fun _ _ h=>h
 ·exact in_take hT _ ha
 ·exact zAL (in_take hT _ ha) fun _ _ hb=>zAL (zBf hT _ hb) fun _ _ hc=>zAL (zDU hT _ hc) fun _ _ h=>h
 ·exact zAL (zCp hT ha) fun _ _ hb=>zAL (zBf hT _ hb) fun _ _ hc=>zAL (zCp hT hc) fun _ _ hd=>zAL (in_list hT (fun _ h=>zE9 hT h) hd) fun _ _ he=>zAL (in_list hT (fun _ h=>in_bind hT h) he) fun _ _ h=>h
 ·exact zGH hT _ ha
theorem in_item{a:Nat}(ha:a<T.length):In T.length (zDV T a):=by
 unfold zDV;refine zBX (fun _=>ha) (fun h=> ?_);have h1:=hT.last a ha (by intro e; apply h; rw[e]; decide);split
 ·exact zAL (in_read hT _ h1) fun _ _ hb=>zAL (zBf hT _ hb) fun _ _ h=>h
 ·exact ha
theorem in_items: ∀(n:Nat) (l:List Item) {a:Nat},a<T.length->In T.length (zCN T n l a)
 | 0,_,_,ha=>ha
 | n+1,l,_,ha=>zBX (fun h=>zBj hT ha (by decide) h) (fun _=>zAL (in_item hT ha) fun _ _ hb=>in_items n _ hb)
theorem in_module{a:Nat}(ha:a<T.length):In T.length (zBC T a):=
 zAL (zIe hT _ ha) fun _ _ hb=>zAL (zCp hT hb) fun _ _ hc=>zAL (in_list hT (fun _ h=>zCp hT h) hc) fun _ _ hd=>zAL (zBf hT _ hd) fun _ _ he=>zAL (zCp hT he) fun _ _ hf=>zAL (zBf hT _ hf) fun _ _ hg=>zAL (in_items hT _ _ hg) fun _ _ h=>h
end
set_option maxRecDepth 100000
set_option maxHeartbeats 4000000
def paC(Z:GP)(T:List Tok)(a:Nat):OL:=[(1,paO T a),(95,.box [.bp 1 0]),(7777777,Z.o)]
theorem pc_free5(Z:GP)(T:List Tok)(a:Nat)(args:List AV)(ha:AV.noRefs [1999] args):
  (zyk 1999 (paC Z T a)/\AV.noRefs [1999] args)/\zCV (om (paC Z T a)) [.bp 1 0]/\AV.noRefs [1999] [.bp 1 0]:=by
 simp[paC,paO,GZ,zyk,AO.noRef,AV.noRefs,AV.noRef,zCV,om,ha]
theorem pc_free15(Z:GP)(T:List Tok)(a:Nat)(args:List AV)(ha:AV.noRefs [1999] args):
  (zyk 1999 (paC Z T a)/\AV.noRefs [1999] args)/\zCV (om (paC Z T a)) [.bp 95 0]/\AV.noRefs [1999] [.bp 95 0]:=by
 simp[paC,paO,GZ,zyk,AO.noRef,AV.noRefs,AV.noRef,zCV,om,ha]
def PConC(Z:GP)(T:List Tok)(f:Nat)(args:List AV)(a:Nat){α:Type}(R:PR α)(enc:α->AV):Prop:=
 zBL prog f args (paC Z T a) (fun V ol new=> ∃x b,R= .ok (x,b)/\b<T.length/\V=enc x/\ol=paC Z T b/\new=[]) (fun v=> ∃i,R= .error i/\v=zCU i)
def eX(e:Expr):AV:=.d (.agg (zbx e))
theorem zCx(x:Expr):eX x= .d (.agg [eI x.op,eSb x.name,eI x.k.n,eSb x.k.p,eI x.w.n,eSb x.w.p,.sl (x.args.map zbx)]):=by rw[<-zb6 x]; rfl
theorem eX_mk1(o:Int)(n:Bts)(k w:Num)(x:Expr):eX (.mk o n k w [x])= .d (.agg [eI o,eSb n,eI k.n,eSb k.p,eI w.n,eSb w.p,.sl [[eI x.op,eSb x.name,eI x.k.n,eSb x.k.p,eI x.w.n,eSb x.w.p,.sl (x.args.map zbx)]]]):=by rw[<-zb6 x]; rfl
theorem eX_mk2(o:Int)(n:Bts)(k w:Num)(x y:Expr):eX (.mk o n k w [x,y])= .d (.agg [eI o,eSb n,eI k.n,eSb k.p,eI w.n,eSb w.p,.sl [[eI x.op,eSb x.name,eI x.k.n,eSb x.k.p,eI x.w.n,eSb x.w.p,.sl (x.args.map zbx)],[eI y.op,eSb y.name,eI y.k.n,eSb y.k.p,eI y.w.n,eSb y.w.p,.sl (y.args.map zbx)]]]):=by rw[<-zb6 x,<-zb6 y]; rfl
theorem eX_mk3(o:Int)(n:Bts)(k w:Num)(x y z:Expr):eX (.mk o n k w [x,y,z])= .d (.agg [eI o,eSb n,eI k.n,eSb k.p,eI w.n,eSb w.p,.sl [[eI x.op,eSb x.name,eI x.k.n,eSb x.k.p,eI x.w.n,eSb x.w.p,.sl (x.args.map zbx)],[eI y.op,eSb y.name,eI y.k.n,eSb y.k.p,eI y.w.n,eSb y.w.p,.sl (y.args.map zbx)],[eI z.op,eSb z.name,eI z.k.n,eSb z.k.p,eI z.w.n,eSb z.w.p,.sl (z.args.map zbx)]]]):=by rw[<-zb6 x,<-zb6 y,<-zb6 z]; rfl
theorem cl_p(Z:GP)(T:List Tok)(d a:Nat)(h:PCon Z T 222 [.bp 1 0,.d (eI d)] a (zBA T d a) eX)(hd:d<=1000):
  PConC Z T 236 [.bp 95 0,.d (.ptr [eI (d+1)])] a (zBA T d a) eX:=by
 refine zBL.srt (zBL.of_eH 1999 [.bp 1 0] (own:=[]) (fun _=>[]) [0] zat func236 rfl call236 ntmps236 (zle rfl) results236 (pc_free5 Z T a _ (by simp[AV.noRefs,AV.noRef])) (fun gs=> ?_));have hw:IntKind.i64.wrap ((d:Int)+1-1)=d:=by rw[show(d:Int)+1-1=d by omega]; exact zaQ (by omega) (by omega)
 obtain⟨R,hR⟩: ∃R,R=zBA T d a:=⟨_,rfl⟩;rw[<-hR]at h ⊢;simp only[ZE,seval,KE]at h;simp only[ZE,seval,hw,KE,GZ,paO,paL,paC,zAc];refine EFn.gX [(1,1),(7777777,7777777)] h ?_ (fun v hv=>hv) ?_
 ·simp only[ZE,seval,GZ,paO,paL,paC,zAc]
 rintro V ol new ⟨x,b,h1,hb,rfl,rfl,rfl⟩;simp only[ZE,seval,zCx x,zAt.eq_def,zAF.eq_def,KE,GZ,paO,paL,paC,zAc];refine⟨[2,1999],[],?_⟩;simp only[ZE,seval,zAp.eq_1,zAp.eq_2,zAq.eq_1,zAq.eq_2,GZ,zAt.eq_def,zAj.eq_def,ghK.eq_def,zAF.eq_def,zAi.eq_def,hdH.eq_1,hdH.eq_2,kpH.eq_1,kpH.eq_2,hdl.eq_def,zpC.eq_def,zht,AV.core,GZ,paO,paL,paC,zAc];exact⟨x,b,h1,hb,(zCx x).symm,rfl⟩
theorem curly_p(Z:GP)(hZ:Z.Ok)(T:List Tok)(hT:TOk T)(d a:Nat)(ha:a<T.length)(h: ∀a,a<T.length->PConC Z T 236 [.bp 95 0,.d (.ptr [eI (d+1)])] a (zBA T d a) eX):
  PConC Z T 238 [.bp 1 0,(.clo (.func 236) [] [.bp 95 0,.d (.ptr [eI (d+1)])])] a (zC0 (zBA T d) T a) eX:=by
 refine zBL.srt (zBL.of_eH 1999 [.bp 95 0] (own:=[]) (fun i=>if i=1 then [.frz 8]else []) [0] zat func238 rfl call238 ntmps238 (zle rfl) results238 (pc_free15 Z T a _ (by simp[AV.noRefs,AV.noRef])) (fun gs=> ?_));have h1:=h a ha;obtain⟨R,hR⟩: ∃R,R=zC0 (zBA T d) T a:=⟨_,rfl⟩;rw[<-hR];unfold zC0 at hR;obtain⟨rec,hrec⟩:=zX (zBA T d);rw[hrec]at h1 hR;simp only[ZE,seval,KE]at h1;simp only[ZE,seval,KE,GZ,paO,paL,paC,zAc];refine EFn.gX [(1,1),(95,95),(7777777,7777777)] (h1) ?_ (fun v hv=>by obtain⟨i,hi,hv⟩:=hv; exact⟨i,by rw[hR,hi]; rfl,hv⟩) ?_
 ·simp only[ZE,seval,GZ,paO,paL,paC,zAc]
 rintro V ol new ⟨x,b,hx,hb,rfl,rfl,rfl⟩;rw[hx,PR.bd_ok]at hR;have hp:=zBq Z T hT b (⟨#[64]⟩:ByteArray) hb;have hl:=zBj hT hb (s:=(⟨#[64]⟩:ByteArray)) (k:=3) (by decide);obtain⟨g,hg⟩:=zX (isT T b 3 (⟨#[64]⟩:ByteArray));rw[hg]at hp hl hR;cases g with
 | true=>
  rw[if_pos rfl]at hR hp;have hn:=zIs Z hZ T hT (b+1) (hl rfl);simp only[ZE,seval,KE]at hp;simp only[ZE,seval,KE]at hn;simp only[ZE,seval,zCx x,KE,GZ,paO,paL,paC,zAc];refine EFn.gV [(1,1),(7777777,7777777)] (hp) ?_ ?_
  ·simp only[ZE,seval,GZ,paO,paL,paC,zAc]
  rintro V ol new ⟨rfl,rfl,rfl⟩;simp only[ZE,seval,GZ,paO,paL,paC,zAc];refine EFn.gX [(1,1),(7777777,7777777)] (hn) ?_ (fun v hv=>by obtain⟨i,hi,hv⟩:=hv; exact⟨i,by rw[hR,hi]; rfl,hv⟩) ?_
  ·simp only[ZE,seval,GZ,paO,paL,paC,zAc]
  rintro V ol new ⟨k,c,h2,hc,rfl,rfl,rfl⟩;rw[h2,PR.bd_ok]at hR;simp only[ZE,seval,KE,GZ,paO,paL,paC,zAc];have hs:=zBu Z T hT c (⟨#[58]⟩:ByteArray) hc;simp only[ZE,seval,KE]at hs;refine EFn.gX [(1,1),(7777777,7777777)] (hs) ?_ (fun v hv=>by obtain⟨i,hi,hv⟩:=hv; exact⟨i,by rw[hR,hi]; rfl,hv⟩) ?_
  ·simp only[ZE,seval,GZ,paO,paL,paC,zAc]
  rintro V ol new ⟨_u,e,h3,he,rfl,rfl,rfl⟩;rw[h3,PR.bd_ok]at hR;simp only[ZE,seval,KE,GZ,paO,paL,paC,zAc];have hm:=zIs Z hZ T hT e he;simp only[ZE,seval,KE]at hm;refine EFn.gX [(1,1),(7777777,7777777)] (hm) ?_ (fun v hv=>by obtain⟨i,hi,hv⟩:=hv; exact⟨i,by rw[hR,hi]; rfl,hv⟩) ?_
  ·simp only[ZE,seval,GZ,paO,paL,paC,zAc]
  rintro V ol new ⟨w,f,h4,hf,rfl,rfl,rfl⟩;rw[h4,PR.bd_ok]at hR;simp only[ZE,seval,KE,GZ,paO,paL,paC,zAc];have hq:=zBu Z T hT f (⟨#[125]⟩:ByteArray) hf;simp only[ZE,seval,KE]at hq;refine EFn.gX [(1,1),(7777777,7777777)] (hq) ?_ (fun v hv=>by obtain⟨i,hi,hv⟩:=hv; exact⟨i,by rw[hR,hi]; rfl,hv⟩) ?_
  ·simp only[ZE,seval,GZ,paO,paL,paC,zAc]
  rintro V ol new ⟨_u,i,h5,hi,rfl,rfl,rfl⟩;rw[h5,PR.bd_ok]at hR;simp only[ZE,seval,zAt.eq_def,zAF.eq_def,KE,GZ,paO,paL,paC,zAc];refine⟨[4,5,1999],[],?_⟩;simp only[ZE,seval,zAp.eq_1,zAp.eq_2,zAq.eq_1,zAq.eq_2,GZ,zAt.eq_def,zAj.eq_def,ghK.eq_def,zAF.eq_def,zAi.eq_def,hdH.eq_1,hdH.eq_2,kpH.eq_1,kpH.eq_2,hdl.eq_def,zpC.eq_def,zht,AV.core,GZ,paO,paL,paC,zAc];exact⟨_,i,hR,hi,(eX_mk1 _ _ _ _ _).symm,rfl⟩
 | false=>
  rw[if_neg (by decide)]at hR hp;have hs:=zBu Z T hT b (⟨#[58]⟩:ByteArray) hb;simp only[ZE,seval,KE]at hp;simp only[ZE,seval,KE]at hs;simp only[ZE,seval,zCx x,KE,GZ,paO,paL,paC,zAc];refine EFn.gV [(1,1),(7777777,7777777)] (hp) ?_ ?_
  ·simp only[ZE,seval,GZ,paO,paL,paC,zAc]
  rintro V ol new ⟨rfl,rfl,rfl⟩;simp only[ZE,seval,GZ,paO,paL,paC,zAc];refine EFn.gX [(1,1),(7777777,7777777)] (hs) ?_ (fun v hv=>by obtain⟨i,hi,hv⟩:=hv; exact⟨i,by rw[hR,hi]; rfl,hv⟩) ?_
  ·simp only[ZE,seval,GZ,paO,paL,paC,zAc]
  rintro V ol new ⟨_u,e,h3,he,rfl,rfl,rfl⟩;rw[h3,PR.bd_ok]at hR;simp only[ZE,seval,KE,GZ,paO,paL,paC,zAc];have hm:=zIs Z hZ T hT e he;simp only[ZE,seval,KE]at hm;refine EFn.gX [(1,1),(7777777,7777777)] (hm) ?_ (fun v hv=>by obtain⟨i,hi,hv⟩:=hv; exact⟨i,by rw[hR,hi]; rfl,hv⟩) ?_
  ·simp only[ZE,seval,GZ,paO,paL,paC,zAc]
  rintro V ol new ⟨w,f,h4,hf,rfl,rfl,rfl⟩;rw[h4,PR.bd_ok]at hR;simp only[ZE,seval,KE,GZ,paO,paL,paC,zAc];have hq:=zBu Z T hT f (⟨#[125]⟩:ByteArray) hf;simp only[ZE,seval,KE]at hq;refine EFn.gX [(1,1),(7777777,7777777)] (hq) ?_ (fun v hv=>by obtain⟨i,hi,hv⟩:=hv; exact⟨i,by rw[hR,hi]; rfl,hv⟩) ?_
  ·simp only[ZE,seval,GZ,paO,paL,paC,zAc]
  rintro V ol new ⟨_u,i,h5,hi,rfl,rfl,rfl⟩;rw[h5,PR.bd_ok]at hR;simp only[ZE,seval,zAt.eq_def,zAF.eq_def,KE,GZ,paO,paL,paC,zAc];refine⟨[4,5,1999],[],?_⟩;simp only[ZE,seval,zAp.eq_1,zAp.eq_2,zAq.eq_1,zAq.eq_2,GZ,zAt.eq_def,zAj.eq_def,ghK.eq_def,zAF.eq_def,zAi.eq_def,hdH.eq_1,hdH.eq_2,kpH.eq_1,kpH.eq_2,hdl.eq_def,zpC.eq_def,zht,AV.core,GZ,paO,paL,paC,zAc];exact⟨_,i,hR,hi,(eX_mk1 13 e0 n0 w x).symm,rfl⟩
theorem round_p(Z:GP)(hZ:Z.Ok)(T:List Tok)(hT:TOk T)(d a:Nat)(ha:a<T.length)(h: ∀a,a<T.length->PConC Z T 236 [.bp 95 0,.d (.ptr [eI (d+1)])] a (zBA T d a) eX):
  PConC Z T 237 [.bp 1 0,(.clo (.func 236) [] [.bp 95 0,.d (.ptr [eI (d+1)])])] a (zC7 (zBA T d) T a) eX:=by
 refine zBL.srt (zBL.of_eH 1999 [.bp 95 0] (own:=[]) (fun i=>if i=2006 then [.flt ⟨[(0,none),(1,none),(2,none),(3,none),(4,none),(5,none),(6,none),(7,none),(8,none),(9,none),(11,some [])]⟩ ⟨[10],[(11,[10])]⟩]else if i=1013 then [.frz 10]else []) [0] zat func237 rfl call237 ntmps237 (zle rfl) results237 (pc_free15 Z T a _ (by simp[AV.noRefs,AV.noRef])) (fun gs=> ?_));have h1:=h a ha;obtain⟨R,hR⟩: ∃R,R=zC7 (zBA T d) T a:=⟨_,rfl⟩;rw[<-hR];unfold zC7 at hR;obtain⟨rec,hrec⟩:=zX (zBA T d);rw[hrec]at h1 hR;rw[hrec]at h;simp only[ZE,seval,KE]at h1;simp only[ZE,seval,KE,GZ,paO,paL,paC,zAc];refine EFn.gX [(1,1),(95,95),(7777777,7777777)] (h1) ?_ (fun v hv=>by obtain⟨i,hi,hv⟩:=hv; exact⟨i,by rw[hR,hi]; rfl,hv⟩) ?_
 ·simp only[ZE,seval,GZ,paO,paL,paC,zAc]
 rintro V ol new ⟨x,b,hx,hb,rfl,rfl,rfl⟩;rw[hx,PR.bd_ok]at hR;have hp:=zBq Z T hT b (⟨#[63]⟩:ByteArray) hb;have hl:=zBj hT hb (s:=(⟨#[63]⟩:ByteArray)) (k:=3) (by decide);obtain⟨g,hg⟩:=zX (isT T b 3 (⟨#[63]⟩:ByteArray));rw[hg]at hp hl hR;cases g with
 | true=>
  rw[if_pos rfl]at hR hp;have h2:=h (b+1) (hl rfl);simp only[ZE,seval,KE]at hp;simp only[ZE,seval,KE]at h2;simp only[ZE,seval,zCx x,KE,GZ,paO,paL,paC,zAc];refine EFn.gV [(1,1),(7777777,7777777)] (hp) ?_ ?_
  ·simp only[ZE,seval,GZ,paO,paL,paC,zAc]
  rintro V ol new ⟨rfl,rfl,rfl⟩;simp only[ZE,seval,GZ,paO,paL,paC,zAc];refine EFn.gX [(1,1),(95,95),(7777777,7777777)] (h2) ?_ (fun v hv=>by obtain⟨i,hi,hv⟩:=hv; exact⟨i,by rw[hR,hi]; rfl,hv⟩) ?_
  ·simp only[ZE,seval,GZ,paO,paL,paC,zAc]
  rintro V ol new ⟨y,c,hy,hc,rfl,rfl,rfl⟩;rw[hy,PR.bd_ok]at hR;simp only[ZE,seval,zCx y,KE,GZ,paO,paL,paC,zAc];have hs:=zBu Z T hT c (⟨#[58]⟩:ByteArray) hc;simp only[ZE,seval,KE]at hs;refine EFn.gX [(1,1),(7777777,7777777)] (hs) ?_ (fun v hv=>by obtain⟨i,hi,hv⟩:=hv; exact⟨i,by rw[hR,hi]; rfl,hv⟩) ?_
  ·simp only[ZE,seval,GZ,paO,paL,paC,zAc]
  rintro V ol new ⟨_u,e,h3,he,rfl,rfl,rfl⟩;rw[h3,PR.bd_ok]at hR;have h4:=h e he;simp only[ZE,seval,KE]at h4;simp only[ZE,seval,KE,GZ,paO,paL,paC,zAc];refine EFn.gX [(1,1),(95,95),(7777777,7777777)] (h4) ?_ (fun v hv=>by obtain⟨i,hi,hv⟩:=hv; exact⟨i,by rw[hR,hi]; rfl,hv⟩) ?_
  ·simp only[ZE,seval,GZ,paO,paL,paC,zAc]
  rintro V ol new ⟨z,f,hz,hf,rfl,rfl,rfl⟩;rw[hz,PR.bd_ok]at hR;simp only[ZE,seval,zCx z,KE,GZ,paO,paL,paC,zAc];have hq:=zBu Z T hT f (⟨#[41]⟩:ByteArray) hf;simp only[ZE,seval,KE]at hq;refine EFn.gX [(1,1),(7777777,7777777)] (hq) ?_ (fun v hv=>by obtain⟨i,hi,hv⟩:=hv; exact⟨i,by rw[hR,hi]; rfl,hv⟩) ?_
  ·simp only[ZE,seval,GZ,paO,paL,paC,zAc]
  rintro V ol new ⟨_u,i,h5,hi,rfl,rfl,rfl⟩;rw[h5,PR.bd_ok]at hR;simp only[ZE,seval,zAt.eq_def,zAF.eq_def,KE,GZ,paO,paL,paC,zAc];refine⟨[4,1999],[],?_⟩;simp only[ZE,seval,zAp.eq_1,zAp.eq_2,zAq.eq_1,zAq.eq_2,GZ,zAt.eq_def,zAj.eq_def,ghK.eq_def,zAF.eq_def,zAi.eq_def,hdH.eq_1,hdH.eq_2,kpH.eq_1,kpH.eq_2,hdl.eq_def,zpC.eq_def,zht,AV.core,GZ,paO,paL,paC,zAc];exact⟨_,i,hR,hi,(eX_mk3 10 e0 n0 n0 x y z).symm,rfl⟩
 | false=>
  rw[if_neg (by decide)]at hR hp;have e1:=zai hb;have e2:=zDl hb;have hf:=zGc Z T b;have hlen:=hT.len;have hw:=zaq (show b<9223372036854775807 by omega);have hl2:=hT.last b hb;have ks:zd3 prog 9 (.lit (.string (tk T b).2.1)):=zB5 (hT.size hb);have kr:(∀y∈Z.kO,zd3 prog 9 y)=True:=eq_true hZ.ok;have hr:=hZ.ops (tk T b).2.1;obtain⟨⟨k,s,p⟩,ht⟩: ∃t,tk T b=t:=⟨_,rfl⟩;rw[ht]at e2 hr hl2 hR ks;simp only at e2 hr hl2 hR ks;simp only[ZE,seval,KE]at hp;by_cases h0:zGx s=0
  ·rw[if_pos h0]at hr;rw[if_pos (.inl h0)]at hR;have c1:((0:Int)==0)=true:=rfl;simp only[ZE,seval,zCx x,KE,GZ,paO,paL,paC,zAc];refine EFn.gV [(1,1),(7777777,7777777)] (hp) ?_ ?_
   ·simp only[ZE,seval,GZ,paO,paL,paC,zAc]
   rintro V ol new ⟨rfl,rfl,rfl⟩;simp only[ZE,seval,e1,e2,wal,KE,GZ,paO,paL,paC,zAc];refine⟨by kernel_rfl,?_⟩;simp only[ZE,seval,hr,kr,ks,zal,c1,was,hw,KE,GZ,paO,paL,paC,zAc];refine EFn.gX [(1,1),(7777777,7777777)] hf ?_ (fun v hv=>by exact⟨b,hR,hv⟩) (fun _ _ _ h=>h.elim);simp only[ZE,seval,GZ,paO,paL,paC,zAc]
  rw[if_neg h0]at hr;have c1:((zGx s:Int)==0)=false:=by simp; omega
  by_cases hk:k=3
  ·subst hk;have e3:(((3:Nat):Int) !=3)=false:=rfl;have hb1:=hl2 (by decide);have h2:=h (b+1) hb1;rw[if_neg (by simp[h0])]at hR;simp only[ZE,seval,KE]at h2;simp only[ZE,seval,zCx x,KE,GZ,paO,paL,paC,zAc];refine EFn.gV [(1,1),(7777777,7777777)] (hp) ?_ ?_
   ·simp only[ZE,seval,GZ,paO,paL,paC,zAc]
   rintro V ol new ⟨rfl,rfl,rfl⟩;simp only[ZE,seval,e1,e2,wal,KE,GZ,paO,paL,paC,zAc];refine⟨by kernel_rfl,?_⟩;simp only[ZE,seval,hr,kr,ks,zal,c1,e3,hw,war,KE,GZ,paO,paL,paC,zAc];refine EFn.gX [(1,1),(95,95),(7777777,7777777)] (h2) ?_ (fun v hv=>by obtain⟨i,hi,hv⟩:=hv; exact⟨i,by rw[hR,hi]; rfl,hv⟩) ?_
   ·simp only[ZE,seval,GZ,paO,paL,paC,zAc]
   rintro V ol new ⟨y,c,hy,hc,rfl,rfl,rfl⟩;rw[hy,PR.bd_ok]at hR;simp only[ZE,seval,zCx y,KE,GZ,paO,paL,paC,zAc];have hq:=zBu Z T hT c (⟨#[41]⟩:ByteArray) hc;simp only[ZE,seval,KE]at hq;refine EFn.gX [(1,1),(7777777,7777777)] (hq) ?_ (fun v hv=>by obtain⟨i,hi,hv⟩:=hv; exact⟨i,by rw[hR,hi]; rfl,hv⟩) ?_
   ·simp only[ZE,seval,GZ,paO,paL,paC,zAc]
   rintro V ol new ⟨_u,i,h5,hi,rfl,rfl,rfl⟩;rw[h5,PR.bd_ok]at hR;simp only[ZE,seval,zAt.eq_def,zAF.eq_def,KE,GZ,paO,paL,paC,zAc];refine⟨[4,10,7,1999],[],?_⟩;simp only[ZE,seval,zAp.eq_1,zAp.eq_2,zAq.eq_1,zAq.eq_2,GZ,zAt.eq_def,zAj.eq_def,ghK.eq_def,zAF.eq_def,zAi.eq_def,hdH.eq_1,hdH.eq_2,kpH.eq_1,kpH.eq_2,hdl.eq_def,zpC.eq_def,zht,AV.core,GZ,paO,paL,paC,zAc];exact⟨_,i,hR,hi,(eX_mk2 (zGx s) e0 n0 n0 x y).symm,rfl⟩
  ·have e3:((k:Int) !=3)=true:=by simp; omega
   rw[if_pos (.inr hk)]at hR;simp only[ZE,seval,zCx x,KE,GZ,paO,paL,paC,zAc];refine EFn.gV [(1,1),(7777777,7777777)] (hp) ?_ ?_
   ·simp only[ZE,seval,GZ,paO,paL,paC,zAc]
   rintro V ol new ⟨rfl,rfl,rfl⟩;simp only[ZE,seval,e1,e2,wal,KE,GZ,paO,paL,paC,zAc];refine⟨by kernel_rfl,?_⟩;simp only[ZE,seval,hr,kr,ks,zal,c1,e3,hw,war,KE,GZ,paO,paL,paC,zAc];refine EFn.gX [(1,1),(7777777,7777777)] hf ?_ (fun v hv=>by exact⟨b,hR,hv⟩) (fun _ _ _ h=>h.elim);simp only[ZE,seval,GZ,paO,paL,paC,zAc]
def exL(i:Nat):List Gh:=if i=2008 then [.ord ⟨[(0,none),(1,none),(2,none),(3,none),(4,none),(5,none),(6,none),(7,none),(8,none),(9,none),(10,none),(11,none),(12,none)]⟩]else if i=1 then [.frz 3]else if i=11 then [.frz 47]else if i=17 then [.frz 63]else []
theorem zHE(Z:GP)(hZ:Z.Ok)(T:List Tok)(hT:TOk T): ∀(d:Nat),d<=1000-> ∀a,a<T.length->PCon Z T 222 [.bp 1 0,.d (eI d)] a (zBA T d a) eX:=by
 have key: ∀(d:Nat) (D:Int) (rec:Nat->PR Expr) (deep:Bool),decide (D>1)=deep->decide (D<=1)= !deep ->(deep=true-> ∃n:Nat,D=n+1/\rec=zBA T n/\ ∀a,a<T.length->PConC Z T 236 [.bp 95 0,.d (.ptr [eI (n+1)])] a (zBA T n a) eX)-> ∀a,a<T.length->
   PCon Z T 222 [.bp 1 0,.d (eI D)] a (zCK rec deep T a) eX:=by
  intro _ D rec deep hD1 hD2 hrec a ha;refine zBL.srt (zBL.of_eH 1999 [] (own:=[]) exL [0] zat func222 rfl call222 ntmps222 (zle rfl) results222 (zDb Z T a _ (by simp[AV.noRefs,AV.noRef])) (fun gs=> ?_));obtain⟨R,hR⟩: ∃R,R=zCK rec deep T a:=⟨_,rfl⟩;rw[<-hR];unfold zCK at hR;have e1:=zai ha;have e2:=zDl ha;have hf:=zGc Z T a;have p1:=zBq Z T hT a (⟨#[91]⟩:ByteArray) ha;have l1:=zBj hT ha (s:=(⟨#[91]⟩:ByteArray)) (k:=3) (by decide);obtain⟨g,hg⟩:=zX (isT T a 3 (⟨#[91]⟩:ByteArray));rw[hg]at p1 l1 hR;cases g with
  | true=>
   rw[if_pos rfl]at hR p1;have hn:=zIs Z hZ T hT (a+1) (l1 rfl);simp only[ZE,seval,KE]at p1;simp only[ZE,seval,KE]at hn;simp only[ZE,seval,exL,KE,GZ,paO,paL,paC,zAc];refine EFn.gV [(1,1),(7777777,7777777)] (p1) ?_ ?_
   ·simp only[ZE,seval,GZ,paO,paL,paC,zAc]
   rintro V ol new ⟨rfl,rfl,rfl⟩;simp only[ZE,seval,exL,GZ,paO,paL,paC,zAc];refine EFn.gX [(1,1),(7777777,7777777)] (hn) ?_ (fun v hv=>by obtain⟨i,hi,hv⟩:=hv; exact⟨i,by rw[hR,hi]; rfl,hv⟩) ?_
   ·simp only[ZE,seval,GZ,paO,paL,paC,zAc]
   rintro V ol new ⟨k,c,h2,hc,rfl,rfl,rfl⟩;rw[h2,PR.bd_ok]at hR;simp only[ZE,seval,exL,KE,GZ,paO,paL,paC,zAc];have hs:=zBu Z T hT c (⟨#[58]⟩:ByteArray) hc;simp only[ZE,seval,KE]at hs;refine EFn.gX [(1,1),(7777777,7777777)] (hs) ?_ (fun v hv=>by obtain⟨i,hi,hv⟩:=hv; exact⟨i,by rw[hR,hi]; rfl,hv⟩) ?_
   ·simp only[ZE,seval,GZ,paO,paL,paC,zAc]
   rintro V ol new ⟨_u,e,h3,he,rfl,rfl,rfl⟩;rw[h3,PR.bd_ok]at hR;simp only[ZE,seval,exL,KE,GZ,paO,paL,paC,zAc];have hm:=zIs Z hZ T hT e he;simp only[ZE,seval,KE]at hm;refine EFn.gX [(1,1),(7777777,7777777)] (hm) ?_ (fun v hv=>by obtain⟨i,hi,hv⟩:=hv; exact⟨i,by rw[hR,hi]; rfl,hv⟩) ?_
   ·simp only[ZE,seval,GZ,paO,paL,paC,zAc]
   rintro V ol new ⟨w,f,h4,hf,rfl,rfl,rfl⟩;rw[h4,PR.bd_ok]at hR;simp only[ZE,seval,exL,KE,GZ,paO,paL,paC,zAc];have hq:=zBu Z T hT f (⟨#[93]⟩:ByteArray) hf;simp only[ZE,seval,KE]at hq;refine EFn.gX [(1,1),(7777777,7777777)] (hq) ?_ (fun v hv=>by obtain⟨i,hi,hv⟩:=hv; exact⟨i,by rw[hR,hi]; rfl,hv⟩) ?_
   ·simp only[ZE,seval,GZ,paO,paL,paC,zAc]
   rintro V ol new ⟨_u,i,h5,hi,rfl,rfl,rfl⟩;rw[h5,PR.bd_ok]at hR;simp only[ZE,seval,exL,zAt.eq_def,zAF.eq_def,KE,GZ,paO,paL,paC,zAc];refine⟨[2,4,6,1999],[],?_⟩;simp only[ZE,seval,zAp.eq_1,zAp.eq_2,zAq.eq_1,zAq.eq_2,GZ,zAt.eq_def,zAj.eq_def,ghK.eq_def,zAF.eq_def,zAi.eq_def,hdH.eq_1,hdH.eq_2,kpH.eq_1,kpH.eq_2,hdl.eq_def,zpC.eq_def,zht,AV.core,GZ,paO,paL,paC,zAc];exact⟨_,i,hR,hi,rfl,rfl⟩
  | false=>
  rw[if_neg (by decide)]at hR p1;simp only[ZE,seval,KE]at p1;by_cases hk:(tk T a).1 =1
  ·rw[if_pos hk]at hR;have e3:(((tk T a).1 :Int)==1)=true:=by rw[hk]; rfl
   have hm:=zDj Z hZ T hT a ha;simp only[ZE,seval,KE]at hm;simp only[ZE,seval,exL,KE,GZ,paO,paL,paC,zAc];refine EFn.gV [(1,1),(7777777,7777777)] (p1) ?_ ?_
   ·simp only[ZE,seval,GZ,paO,paL,paC,zAc]
   rintro V ol new ⟨rfl,rfl,rfl⟩;simp only[ZE,seval,exL,e1,e2,e3,wal,KE,GZ,paO,paL,paC,zAc];refine⟨by kernel_rfl,?_⟩;refine EFn.gX [(1,1),(7777777,7777777)] (hm) ?_ (fun v hv=>by obtain⟨i,hi,hv⟩:=hv; exact⟨i,by rw[hR,hi]; rfl,hv⟩) ?_
   ·simp only[ZE,seval,GZ,paO,paL,paC,zAc]
   rintro V ol new ⟨s,b,h1,hb,rfl,rfl,rfl⟩;rw[h1,PR.bd_ok]at hR;cases deep with
   | false=>
    rw[if_neg (by simp)]at hR;simp only[ZE,seval,exL,hD1,zAt.eq_def,zAF.eq_def,KE,GZ,paO,paL,paC,zAc];refine⟨[2,4,7,1999],[],?_⟩;simp only[ZE,seval,zAp.eq_1,zAp.eq_2,zAq.eq_1,zAq.eq_2,GZ,zAt.eq_def,zAj.eq_def,ghK.eq_def,zAF.eq_def,zAi.eq_def,hdH.eq_1,hdH.eq_2,kpH.eq_1,kpH.eq_2,hdl.eq_def,zpC.eq_def,zht,AV.core,GZ,paO,paL,paC,zAc];exact⟨_,b,hR,hb,rfl,rfl⟩
   | true=>
   have p2:=zBq Z T hT b (⟨#[91]⟩:ByteArray) hb;have l2:=zBj hT hb (s:=(⟨#[91]⟩:ByteArray)) (k:=3) (by decide);obtain⟨g,hg⟩:=zX (isT T b 3 (⟨#[91]⟩:ByteArray));rw[hg]at p2 l2 hR;cases g with
   | false=>
    rw[if_neg (by simp)]at hR;rw[if_neg (by decide)]at p2;simp only[ZE,seval,KE]at p2;simp only[ZE,seval,exL,hD1,KE,GZ,paO,paL,paC,zAc];refine EFn.gV [(1,1),(7777777,7777777)] (p2) ?_ ?_
    ·simp only[ZE,seval,GZ,paO,paL,paC,zAc]
    rintro V ol new ⟨rfl,rfl,rfl⟩;simp only[ZE,seval,exL,zAt.eq_def,zAF.eq_def,KE,GZ,paO,paL,paC,zAc];refine⟨[2,4,7,1999],[],?_⟩;simp only[ZE,seval,zAp.eq_1,zAp.eq_2,zAq.eq_1,zAq.eq_2,GZ,zAt.eq_def,zAj.eq_def,ghK.eq_def,zAF.eq_def,zAi.eq_def,hdH.eq_1,hdH.eq_2,kpH.eq_1,kpH.eq_2,hdl.eq_def,zpC.eq_def,zht,AV.core,GZ,paO,paL,paC,zAc];exact⟨_,b,hR,hb,rfl,rfl⟩
   | true=>
    rw[if_pos ⟨rfl,rfl⟩]at hR;rw[if_pos rfl]at p2;obtain⟨n,rfl,rfl,hc⟩:=hrec rfl;have hc2:=hc (b+1) (l2 rfl);obtain⟨rec,hrec2⟩:=zX (zBA T n);rw[hrec2]at hc2 hR;simp only[ZE,seval,KE]at p2;simp only[ZE,seval,KE]at hc2;simp only[ZE,seval,exL,hD1,KE,GZ,paO,paL,paC,zAc];refine EFn.gV [(1,1),(7777777,7777777)] (p2) ?_ ?_
    ·simp only[ZE,seval,GZ,paO,paL,paC,zAc]
    rintro V ol new ⟨rfl,rfl,rfl⟩;simp only[ZE,seval,exL,GZ,paO,paL,paC,zAc];refine EFn.gX [(1,1),(95,2),(7777777,7777777)] (hc2) ?_ (fun v hv=>by obtain⟨i,hi,hv⟩:=hv; exact⟨i,by rw[hR,hi]; rfl,hv⟩) ?_
    ·simp only[ZE,seval,GZ,paO,paL,paC,zAc]
    rintro V ol new ⟨x,c,h2,hc3,rfl,rfl,rfl⟩;rw[h2,PR.bd_ok]at hR;simp only[ZE,seval,exL,zCx x,KE,GZ,paO,paL,paC,zAc];have hs:=zBu Z T hT c (⟨#[93]⟩:ByteArray) hc3;simp only[ZE,seval,KE]at hs;refine EFn.gX [(1,1),(7777777,7777777)] (hs) ?_ (fun v hv=>by obtain⟨i,hi,hv⟩:=hv; exact⟨i,by rw[hR,hi]; rfl,hv⟩) ?_
    ·simp only[ZE,seval,GZ,paO,paL,paC,zAc]
    rintro V ol new ⟨_u,e,h3,he,rfl,rfl,rfl⟩;rw[h3,PR.bd_ok]at hR;simp only[ZE,seval,exL,zAt.eq_def,zAF.eq_def,KE,GZ,paO,paL,paC,zAc];refine⟨[2,4,7,1999],[],?_⟩;simp only[ZE,seval,zAp.eq_1,zAp.eq_2,zAq.eq_1,zAq.eq_2,GZ,zAt.eq_def,zAj.eq_def,ghK.eq_def,zAF.eq_def,zAi.eq_def,hdH.eq_1,hdH.eq_2,kpH.eq_1,kpH.eq_2,hdl.eq_def,zpC.eq_def,zht,AV.core,GZ,paO,paL,paC,zAc];exact⟨_,e,hR,he,(eX_mk1 15 s n0 n0 x).symm,rfl⟩
  rw[if_neg hk]at hR;have e3:(((tk T a).1 :Int)==1)=false:=by simp; omega
  cases deep with
  | false=>
   rw[if_pos rfl]at hR;simp only[ZE,seval,exL,KE,GZ,paO,paL,paC,zAc];refine EFn.gV [(1,1),(7777777,7777777)] (p1) ?_ ?_
   ·simp only[ZE,seval,GZ,paO,paL,paC,zAc]
   rintro V ol new ⟨rfl,rfl,rfl⟩;simp only[ZE,seval,exL,e1,e2,e3,wal,KE,GZ,paO,paL,paC,zAc];refine⟨by kernel_rfl,?_⟩;simp only[ZE,seval,exL,hD2,Bool.not_false,KE,GZ,paO,paL,paC,zAc];refine EFn.gX [(1,1),(7777777,7777777)] hf ?_ (fun v hv=>by exact⟨a,hR,hv⟩) (fun _ _ _ h=>h.elim);simp only[ZE,seval,GZ,paO,paL,paC,zAc]
  | true=>
  rw[if_neg (by decide)]at hR;obtain⟨n,rfl,rfl,hc⟩:=hrec rfl;have hcu:=fun b hb=>curly_p Z hZ T hT n b hb hc;have hro:=fun b hb=>round_p Z hZ T hT n b hb hc;obtain⟨rec,hrec2⟩:=zX (zBA T n);rw[hrec2]at hcu hro hc hR;have p2:=zBq Z T hT a (⟨#[126]⟩:ByteArray) ha;have l2:=zBj hT ha (s:=(⟨#[126]⟩:ByteArray)) (k:=3) (by decide);obtain⟨g,hg⟩:=zX (isT T a 3 (⟨#[126]⟩:ByteArray));rw[hg]at p2 l2 hR;cases g with
  | true=>
   rw[if_pos rfl]at hR p2;have hc2:=hc (a+1) (l2 rfl);simp only[ZE,seval,KE]at p2;simp only[ZE,seval,KE]at hc2;simp only[ZE,seval,exL,KE,GZ,paO,paL,paC,zAc];refine EFn.gV [(1,1),(7777777,7777777)] (p1) ?_ ?_
   ·simp only[ZE,seval,GZ,paO,paL,paC,zAc]
   rintro V ol new ⟨rfl,rfl,rfl⟩;simp only[ZE,seval,exL,e1,e2,e3,wal,KE,GZ,paO,paL,paC,zAc];refine⟨by kernel_rfl,?_⟩;simp only[ZE,seval,exL,hD2,Bool.not_true,KE,GZ,paO,paL,paC,zAc];refine EFn.gV [(1,1),(7777777,7777777)] (p2) ?_ ?_
   ·simp only[ZE,seval,GZ,paO,paL,paC,zAc]
   rintro V ol new ⟨rfl,rfl,rfl⟩;simp only[ZE,seval,exL,GZ,paO,paL,paC,zAc];refine EFn.gX [(1,1),(95,2),(7777777,7777777)] (hc2) ?_ (fun v hv=>by obtain⟨i,hi,hv⟩:=hv; exact⟨i,by rw[hR,hi]; rfl,hv⟩) ?_
   ·simp only[ZE,seval,GZ,paO,paL,paC,zAc]
   rintro V ol new ⟨x,c,h2,hc3,rfl,rfl,rfl⟩;rw[h2,PR.bd_ok]at hR;simp only[ZE,seval,exL,zCx x,zAt.eq_def,zAF.eq_def,KE,GZ,paO,paL,paC,zAc];refine⟨[2,4,1999],[],?_⟩;simp only[ZE,seval,zAp.eq_1,zAp.eq_2,zAq.eq_1,zAq.eq_2,GZ,zAt.eq_def,zAj.eq_def,ghK.eq_def,zAF.eq_def,zAi.eq_def,hdH.eq_1,hdH.eq_2,kpH.eq_1,kpH.eq_2,hdl.eq_def,zpC.eq_def,zht,AV.core,GZ,paO,paL,paC,zAc];exact⟨_,c,hR,hc3,(eX_mk1 2 e0 n0 n0 x).symm,rfl⟩
  | false=>
  rw[if_neg (by decide)]at hR p2;have p3:=zBq Z T hT a (⟨#[40]⟩:ByteArray) ha;have l3:=zBj hT ha (s:=(⟨#[40]⟩:ByteArray)) (k:=3) (by decide);obtain⟨g,hg⟩:=zX (isT T a 3 (⟨#[40]⟩:ByteArray));rw[hg]at p3 l3 hR;simp only[ZE,seval,KE]at p2;cases g with
  | true=>
   rw[if_pos rfl]at hR p3;have hc2:=hro (a+1) (l3 rfl);simp only[ZE,seval,KE]at p3;simp only[ZE,seval,KE]at hc2;simp only[ZE,seval,exL,KE,GZ,paO,paL,paC,zAc];refine EFn.gV [(1,1),(7777777,7777777)] (p1) ?_ ?_
   ·simp only[ZE,seval,GZ,paO,paL,paC,zAc]
   rintro V ol new ⟨rfl,rfl,rfl⟩;simp only[ZE,seval,exL,e1,e2,e3,wal,KE,GZ,paO,paL,paC,zAc];refine⟨by kernel_rfl,?_⟩;simp only[ZE,seval,exL,hD2,Bool.not_true,KE,GZ,paO,paL,paC,zAc];refine EFn.gV [(1,1),(7777777,7777777)] (p2) ?_ ?_
   ·simp only[ZE,seval,GZ,paO,paL,paC,zAc]
   rintro V ol new ⟨rfl,rfl,rfl⟩;simp only[ZE,seval,exL,GZ,paO,paL,paC,zAc];refine EFn.gV [(1,1),(7777777,7777777)] (p3) ?_ ?_
   ·simp only[ZE,seval,GZ,paO,paL,paC,zAc]
   rintro V ol new ⟨rfl,rfl,rfl⟩;simp only[ZE,seval,exL,GZ,paO,paL,paC,zAc];refine EFn.gX [(1,1),(95,2),(7777777,7777777)] hc2 ?_ (fun v hv=>by obtain⟨i,hi,hv⟩:=hv; exact⟨i,by rw[hR,hi],hv⟩) ?_
   ·simp only[ZE,seval,GZ,paO,paL,paC,zAc]
   rintro V ol new ⟨x,c,h2,hc3,rfl,rfl,rfl⟩;rw[h2]at hR;simp only[ZE,seval,exL,zCx x,zAt.eq_def,zAF.eq_def,KE,GZ,paO,paL,paC,zAc];refine⟨[2,4,1999],[],?_⟩;simp only[ZE,seval,zAp.eq_1,zAp.eq_2,zAq.eq_1,zAq.eq_2,GZ,zAt.eq_def,zAj.eq_def,ghK.eq_def,zAF.eq_def,zAi.eq_def,hdH.eq_1,hdH.eq_2,kpH.eq_1,kpH.eq_2,hdl.eq_def,zpC.eq_def,zht,AV.core,GZ,paO,paL,paC,zAc];exact⟨_,c,hR,hc3,(zCx x).symm,rfl⟩
  | false=>
  rw[if_neg (by decide)]at hR p3;have p4:=zBq Z T hT a (⟨#[123]⟩:ByteArray) ha;have l4:=zBj hT ha (s:=(⟨#[123]⟩:ByteArray)) (k:=3) (by decide);obtain⟨g,hg⟩:=zX (isT T a 3 (⟨#[123]⟩:ByteArray));rw[hg]at p4 l4 hR;simp only[ZE,seval,KE]at p3;cases g with
  | true=>
   rw[if_pos rfl]at hR p4;have hc2:=hcu (a+1) (l4 rfl);simp only[ZE,seval,KE]at p4;simp only[ZE,seval,KE]at hc2;simp only[ZE,seval,exL,KE,GZ,paO,paL,paC,zAc];refine EFn.gV [(1,1),(7777777,7777777)] (p1) ?_ ?_
   ·simp only[ZE,seval,GZ,paO,paL,paC,zAc]
   rintro V ol new ⟨rfl,rfl,rfl⟩;simp only[ZE,seval,exL,e1,e2,e3,wal,KE,GZ,paO,paL,paC,zAc];refine⟨by kernel_rfl,?_⟩;simp only[ZE,seval,exL,hD2,Bool.not_true,KE,GZ,paO,paL,paC,zAc];refine EFn.gV [(1,1),(7777777,7777777)] (p2) ?_ ?_
   ·simp only[ZE,seval,GZ,paO,paL,paC,zAc]
   rintro V ol new ⟨rfl,rfl,rfl⟩;simp only[ZE,seval,exL,GZ,paO,paL,paC,zAc];refine EFn.gV [(1,1),(7777777,7777777)] (p3) ?_ ?_
   ·simp only[ZE,seval,GZ,paO,paL,paC,zAc]
   rintro V ol new ⟨rfl,rfl,rfl⟩;simp only[ZE,seval,exL,GZ,paO,paL,paC,zAc];refine EFn.gV [(1,1),(7777777,7777777)] (p4) ?_ ?_
   ·simp only[ZE,seval,GZ,paO,paL,paC,zAc]
   rintro V ol new ⟨rfl,rfl,rfl⟩;simp only[ZE,seval,exL,GZ,paO,paL,paC,zAc];refine EFn.gX [(1,1),(95,2),(7777777,7777777)] hc2 ?_ (fun v hv=>by obtain⟨i,hi,hv⟩:=hv; exact⟨i,by rw[hR,hi],hv⟩) ?_
   ·simp only[ZE,seval,GZ,paO,paL,paC,zAc]
   rintro V ol new ⟨x,c,h2,hc3,rfl,rfl,rfl⟩;rw[h2]at hR;simp only[ZE,seval,exL,zCx x,zAt.eq_def,zAF.eq_def,KE,GZ,paO,paL,paC,zAc];refine⟨[2,4,1999],[],?_⟩;simp only[ZE,seval,zAp.eq_1,zAp.eq_2,zAq.eq_1,zAq.eq_2,GZ,zAt.eq_def,zAj.eq_def,ghK.eq_def,zAF.eq_def,zAi.eq_def,hdH.eq_1,hdH.eq_2,kpH.eq_1,kpH.eq_2,hdl.eq_def,zpC.eq_def,zht,AV.core,GZ,paO,paL,paC,zAc];exact⟨_,c,hR,hc3,(zCx x).symm,rfl⟩
  | false=>
   rw[if_neg (by decide)]at hR p4;simp only[ZE,seval,KE]at p4;simp only[ZE,seval,exL,KE,GZ,paO,paL,paC,zAc];refine EFn.gV [(1,1),(7777777,7777777)] (p1) ?_ ?_
   ·simp only[ZE,seval,GZ,paO,paL,paC,zAc]
   rintro V ol new ⟨rfl,rfl,rfl⟩;simp only[ZE,seval,exL,e1,e2,e3,wal,KE,GZ,paO,paL,paC,zAc];refine⟨by kernel_rfl,?_⟩;simp only[ZE,seval,exL,hD2,Bool.not_true,KE,GZ,paO,paL,paC,zAc];refine EFn.gV [(1,1),(7777777,7777777)] (p2) ?_ ?_
   ·simp only[ZE,seval,GZ,paO,paL,paC,zAc]
   rintro V ol new ⟨rfl,rfl,rfl⟩;simp only[ZE,seval,exL,GZ,paO,paL,paC,zAc];refine EFn.gV [(1,1),(7777777,7777777)] (p3) ?_ ?_
   ·simp only[ZE,seval,GZ,paO,paL,paC,zAc]
   rintro V ol new ⟨rfl,rfl,rfl⟩;simp only[ZE,seval,exL,GZ,paO,paL,paC,zAc];refine EFn.gV [(1,1),(7777777,7777777)] (p4) ?_ ?_
   ·simp only[ZE,seval,GZ,paO,paL,paC,zAc]
   rintro V ol new ⟨rfl,rfl,rfl⟩;simp only[ZE,seval,exL,GZ,paO,paL,paC,zAc];refine EFn.gX [(1,1),(7777777,7777777)] hf ?_ (fun v hv=>by exact⟨a,hR,hv⟩) (fun _ _ _ h=>h.elim);simp only[ZE,seval,GZ,paO,paL,paC,zAc]
 intro d
 induction d with
 | zero=>
  intro _ a ha;exact key 0 0 (fun a=>.error a) false rfl rfl (by intro h; cases h) a ha
 | succ d ih=>
  intro hd a ha;refine key (d+1) ((d+1:Nat):Int) (zBA T d) (decide (0<d)) ?_ ?_ (fun h=> ?_) a ha
  ·rw[wao]; simp only[decide_eq_true_eq]; omega
  ·rw[wao]; simp only[decide_eq_true_eq,Bool.not_eq_true',decide_eq_false_iff_not]; omega
  ·exact⟨d,by omega,rfl,fun a ha=>cl_p Z T d a (ih (by omega) a ha) (by omega)⟩
def itA(x:Item):List AV:=
 [.d (eI x.kind),.d (eSb x.name),.d (eI x.width.n),.d (eSb x.width.p),.d (eI x.depth.n),.d (eSb x.depth.p),.d (eI x.init.n),.d (eSb x.init.p),
  .d (eI x.a.op),.d (eSb x.a.name),.d (eI x.a.k.n),.d (eSb x.a.k.p),.d (eI x.a.w.n),.d (eSb x.a.w.p),.d (.sl (x.a.args.map zbx)),
  .d (eI x.b.op),.d (eSb x.b.name),.d (eI x.b.k.n),.d (eSb x.b.k.p),.d (eI x.b.w.n),.d (eSb x.b.w.p),.d (.sl (x.b.args.map zbx)),
  .d (eI x.c.op),.d (eSb x.c.name),.d (eI x.c.k.n),.d (eSb x.c.k.p),.d (eI x.c.w.n),.d (eSb x.c.w.p),.d (.sl (x.c.args.map zbx)),
  .d (eI x.rule.kind),.d (eSb x.rule.from'),.d (eI x.rule.n),.d (eSb x.of),.ar 103 x.args.length,.ar 104 x.ports.length]
def nmO(l:List Num):AO:=.arr 105 2 .flat (l.map zgL)
def bnO(l:List Bind):AO:=.arr 230 2 .flat (l.map zjO)
def paI(Z:GP)(T:List Tok)(a:Nat)(x:Item):OL:=[(1,paO T a),(101,.box (itA x)),(103,nmO x.args),(104,bnO x.ports),(7777777,Z.o)]
def zHw(Z:GP)(T:List Tok)(f:Nat)(a:Nat)(x:Item)(R:PR Item):Prop:=
 zBL prog f [.bp 1 0,.bp 101 0] (paI Z T a x) (fun V ol new=> ∃y b,R= .ok (y,b)/\b<T.length/\V= .tup []/\ol=paI Z T b y/\new=[]) (fun v=> ∃i,R= .error i/\v=zCU i)
theorem zD1(Z:GP)(T:List Tok)(a:Nat)(x:Item)(args:List AV)(ha:AV.noRefs [1999] args):
  (zyk 1999 (paI Z T a x)/\AV.noRefs [1999] args)/\zCV (om (paI Z T a x)) [.ar 103 x.args.length,.ar 104 x.ports.length]/\AV.noRefs [1999] [.ar 103 x.args.length,.ar 104 x.ports.length]:=by
 simp[paI,paO,itA,nmO,bnO,GZ,zyk,AO.noRef,AV.noRefs,AV.noRef,zCV,om,ha]
theorem zw7(k:D):zeN [] k=0:=by simp[zeN]
open Classical in
theorem ziQ(a:D)(ks:List D)(k:D):zeN (a::ks) k=if a=k then 0 else zeN ks k+1:=by
 unfold zeN;rw[List.findIdx_cons];by_cases h:a=k
 ·simp[h]
 ·simp[h]
theorem zjz(vs:List D)(k:D):zjZ [] vs k=none:=by simp[zjZ,zw7]
open Classical in
theorem zhM(a v:D)(ks vs:List D)(k:D):zjZ (a::ks) (v::vs) k=if a=k then some v else zjZ ks vs k:=by
 unfold zjZ;rw[ziQ];by_cases h:a=k
 ·simp[h]
 ·simp only[h,if_false,wac,Nat.add_lt_add_iff_right,List.getElem?_cons_succ]
theorem zoz{ks vs:List D}{bs:List Nat}{c:Nat}{k v:D}(h:k∉ks):zgQ ks k=ks++[k]/\zjk ks vs k v=vs++[v]:=by
 have: ¬zeN ks k<ks.length:=fun h'=>h (zcO.1 h');simp[zgQ,zjk,this]
theorem zdt{ks:List D}{k:D}(h:k∉ks):zgQ ks k=ks++[k]:=(zoz (vs:=[]) (v:=k) (bs:=[]) (c:=0) h).1
theorem zdu{ks vs:List D}{k v:D}(h:k∉ks):zjk ks vs k v=vs++[v]:=(zoz (bs:=[]) (c:=0) h).2
theorem zHr(Z:GP)(hZ:Z.Ok)(T:List Tok)(hT:TOk T)(a:Nat)(ha:a<T.length)(x:Item):zHw Z T 203 a x (zCc x T a):=by
 refine zBL.srt (zBL.of_eH 1999 [.ar 103 x.args.length,.ar 104 x.ports.length] (own:=[]) (fun _=>[]) [0,1] zat func203 rfl call203 ntmps203 (zle rfl) results203 (zD1 Z T a x _ (by simp[AV.noRefs,AV.noRef])) (fun gs=> ?_));obtain⟨R,hR⟩: ∃R,R=zCc x T a:=⟨_,rfl⟩;rw[<-hR];unfold zCc at hR;have h1:=zDj Z hZ T hT a ha;simp only[ZE,seval,KE]at h1;simp only[ZE,seval,KE,GZ,paO,paL,paI,itA,nmO,bnO,zAc];refine EFn.gX [(1,1),(7777777,7777777)] (h1) ?_ (fun v hv=>by obtain⟨i,hi,hv⟩:=hv; exact⟨i,by rw[hR,hi]; rfl,hv⟩) ?_
 ·simp only[ZE,seval,GZ,paO,paL,paI,itA,nmO,bnO,zAc]
 rintro V ol new ⟨s,b,e1,hb,rfl,rfl,rfl⟩;rw[e1,PR.bd_ok]at hR;have h2:=zBu Z T hT b (⟨#[58]⟩:ByteArray) hb;simp only[ZE,seval,KE]at h2;simp only[ZE,seval,KE,GZ,paO,paL,paI,itA,nmO,bnO,zAc];refine EFn.gX [(1,1),(7777777,7777777)] (h2) ?_ (fun v hv=>by obtain⟨i,hi,hv⟩:=hv; exact⟨i,by rw[hR,hi]; rfl,hv⟩) ?_
 ·simp only[ZE,seval,GZ,paO,paL,paI,itA,nmO,bnO,zAc]
 rintro V ol new ⟨_u,c,e2,hc,rfl,rfl,rfl⟩;rw[e2,PR.bd_ok]at hR;have h3:=zIs Z hZ T hT c hc;simp only[ZE,seval,KE]at h3;simp only[ZE,seval,KE,GZ,paO,paL,paI,itA,nmO,bnO,zAc];refine EFn.gX [(1,1),(7777777,7777777)] (h3) ?_ (fun v hv=>by obtain⟨i,hi,hv⟩:=hv; exact⟨i,by rw[hR,hi]; rfl,hv⟩) ?_
 ·simp only[ZE,seval,GZ,paO,paL,paI,itA,nmO,bnO,zAc]
 rintro V ol new ⟨w,d,e3,hd,rfl,rfl,rfl⟩;rw[e3,PR.bd_ok]at hR;simp only[ZE,seval,zAt.eq_def,zAF.eq_def,KE,GZ,paO,paL,paI,itA,nmO,bnO,zAc];refine⟨[1999],[],?_⟩;simp only[ZE,seval,zAp.eq_1,zAp.eq_2,zAq.eq_1,zAq.eq_2,GZ,zAt.eq_def,zAj.eq_def,ghK.eq_def,zAF.eq_def,zAi.eq_def,hdH.eq_1,hdH.eq_2,kpH.eq_1,kpH.eq_2,hdl.eq_def,zpC.eq_def,zht,AV.core,GZ,paO,paL,paI,itA,nmO,bnO,zAc];exact⟨_,d,hR,hd,rfl⟩
theorem zDo(s a:ByteArray):(s==a)=decide (s=a):=by
 show ByteArray.beq s a=_;rcases s with⟨x⟩;rcases a with⟨y⟩;unfold ByteArray.beq;rw[wao];simp
theorem zCS{α:Type}(enc:α->D): ∀(l:List (Bts×α)) (s:Bts),zjZ (l.map fun p=>D.lit (.string p.1)) (l.map fun p=>enc p.2) (D.lit (.string s))=(l.lookup s).map enc
 | [],s=>by simp[zjz]
 | (a,v)::l,s=>by
  rw[List.map_cons,List.map_cons,zhM,zCS enc l s,List.lookup_cons];by_cases h:s=a
  ·subst h;have h1:(s==s)=true:=by rw[zDo]; simp
   rw[if_pos rfl,h1];rfl
  ·have h1:(s==a)=false:=by rw[zDo]; simpa using h
   rw[if_neg (by simp only[D.lit.injEq,Value.string.injEq]; exact fun e=>h e.symm),h1]
theorem ruleL_le{s:Bts}{k:Nat}(h:zFX.lookup s=some k):k=0\/k=1\/k=2\/k=3:=by
 unfold zFX at h;simp only[List.lookup_cons,List.lookup_nil]at h
 repeat' split at h
 all_goals first | (cases h; simp) | cases h
theorem rule_p(Z:GP)(hZ:Z.Ok)(T:List Tok)(hT:TOk T)(a:Nat)(ha:a<T.length):
  PCon Z T 223 [.bp 1 0] a (zEm T a) (fun r=>.d (.agg (zib r))):=by
 refine zBL.srt (zBL.of_eH 1999 [] (own:=[]) (fun i=>if i=2002 then [.flt ⟨[(0,none),(1,none),(2,none),(3,none),(4,none),(5,none),(6,none),(7,none),(8,none),(9,none),(11,some [])]⟩ ⟨[10],[(11,[10])]⟩]else chL i) [0] zat func223 rfl call223 ntmps223 (zle rfl) results223 (zDb Z T a _ (by simp[AV.noRefs,AV.noRef])) (fun gs=> ?_));have e1:=zai ha;have e2:=zDl ha;have hf:=zGc Z T a;have hlen:=hT.len;have hw:=zaq (show a<9223372036854775807 by omega);have hl:=hT.last a ha;have ks:zd3 prog 9 (.lit (.string (tk T a).2.1)):=zB5 (hT.size ha);have i0:zgQ [] (D.lit (.string (⟨#[105,110,105,116]⟩:ByteArray)))=[D.lit (.string (⟨#[105,110,105,116]⟩:ByteArray))]:=zdt (by simp);have j0: ∀vs v,zjk [] vs (D.lit (.string (⟨#[105,110,105,116]⟩:ByteArray))) v=vs++[v]:=fun vs v=>zdu (by simp);have k0:zd3 prog 9 (D.lit (.string (⟨#[105,110,105,116]⟩:ByteArray))):=zB5 (by decide);have i1:zgQ [D.lit (.string (⟨#[105,110,105,116]⟩:ByteArray))] (D.lit (.string (⟨#[107,101,101,112]⟩:ByteArray)))=[D.lit (.string (⟨#[105,110,105,116]⟩:ByteArray)),D.lit (.string (⟨#[107,101,101,112]⟩:ByteArray))]:=zdt (by simp);have j1: ∀vs v,zjk [D.lit (.string (⟨#[105,110,105,116]⟩:ByteArray))] vs (D.lit (.string (⟨#[107,101,101,112]⟩:ByteArray))) v=vs++[v]:=fun vs v=>zdu (by simp);have k1:zd3 prog 9 (D.lit (.string (⟨#[107,101,101,112]⟩:ByteArray))):=zB5 (by decide);have i2:zgQ [D.lit (.string (⟨#[105,110,105,116]⟩:ByteArray)),D.lit (.string (⟨#[107,101,101,112]⟩:ByteArray))] (D.lit (.string (⟨#[99,111,112,121]⟩:ByteArray)))=[D.lit (.string (⟨#[105,110,105,116]⟩:ByteArray)),D.lit (.string (⟨#[107,101,101,112]⟩:ByteArray)),D.lit (.string (⟨#[99,111,112,121]⟩:ByteArray))]:=zdt (by simp);have j2: ∀vs v,zjk [D.lit (.string (⟨#[105,110,105,116]⟩:ByteArray)),D.lit (.string (⟨#[107,101,101,112]⟩:ByteArray))] vs (D.lit (.string (⟨#[99,111,112,121]⟩:ByteArray))) v=vs++[v]:=fun vs v=>zdu (by simp);have k2:zd3 prog 9 (D.lit (.string (⟨#[99,111,112,121]⟩:ByteArray))):=zB5 (by decide);have i3:zgQ [D.lit (.string (⟨#[105,110,105,116]⟩:ByteArray)),D.lit (.string (⟨#[107,101,101,112]⟩:ByteArray)),D.lit (.string (⟨#[99,111,112,121]⟩:ByteArray))] (D.lit (.string (⟨#[97,100,100]⟩:ByteArray)))=[D.lit (.string (⟨#[105,110,105,116]⟩:ByteArray)),D.lit (.string (⟨#[107,101,101,112]⟩:ByteArray)),D.lit (.string (⟨#[99,111,112,121]⟩:ByteArray)),D.lit (.string (⟨#[97,100,100]⟩:ByteArray))]:=zdt (by simp);have j3: ∀vs v,zjk [D.lit (.string (⟨#[105,110,105,116]⟩:ByteArray)),D.lit (.string (⟨#[107,101,101,112]⟩:ByteArray)),D.lit (.string (⟨#[99,111,112,121]⟩:ByteArray))] vs (D.lit (.string (⟨#[97,100,100]⟩:ByteArray))) v=vs++[v]:=fun vs v=>zdu (by simp);have k3:zd3 prog 9 (D.lit (.string (⟨#[97,100,100]⟩:ByteArray))):=zB5 (by decide);have hm:zjZ [D.lit (.string (⟨#[105,110,105,116]⟩:ByteArray)),D.lit (.string (⟨#[107,101,101,112]⟩:ByteArray)),D.lit (.string (⟨#[99,111,112,121]⟩:ByteArray)),D.lit (.string (⟨#[97,100,100]⟩:ByteArray))] [D.lit (.int .i64 0),D.lit (.int .i64 1),D.lit (.int .i64 2),D.lit (.int .i64 3)] (D.lit (.string (tk T a).2.1))=(zFX.lookup (tk T a).2.1).map (fun k:Nat=>D.lit (.int .i64 (k:Int))):=zCS (fun k:Nat=>D.lit (.int .i64 (k:Int))) zFX _;obtain⟨R,hR⟩: ∃R,R=zEm T a:=⟨_,rfl⟩;rw[<-hR];unfold zEm at hR;obtain⟨⟨k,s,p⟩,ht⟩: ∃t,tk T a=t:=⟨_,rfl⟩;rw[ht]at e2 ks hl hR hm;simp only at e2 ks hl hR hm;obtain⟨o,ho⟩:=zX (zFX.lookup s);rw[ho]at hR hm;by_cases hk:k=1
 ·subst hk;rw[if_neg (by simp)]at hR;have e3:(((1:Nat):Int) !=1)=false:=rfl;have hla:=hl (by decide);rcases o with _ | q
  ·rw[waq]at hm;simp only[ZE,seval,i0,j0,k0,i1,j1,k1,i2,j2,k2,i3,j3,k3,zal,e1,e2,wal,wah,wai,or_imp,forall_and,KE,GZ,paO,paL,paI,itA,nmO,bnO,zAc];refine⟨by kernel_rfl,?_⟩;simp only[ZE,seval,k0,k1,k2,k3,ks,hm,zal,e3,hw,or_imp,forall_and,was,Option.isSome_none,Bool.not_false,KE,GZ,paO,paL,paI,itA,nmO,bnO,zAc];refine EFn.gX [(1,1),(7777777,7777777)] hf ?_ (fun v hv=>by exact⟨a,hR,hv⟩) (fun _ _ _ h=>h.elim);simp only[ZE,seval,GZ,paO,paL,paI,itA,nmO,bnO,zAc]
  rw[wap]at hm;rcases ruleL_le ho with rfl | rfl | rfl | rfl
  ·simp only[ZE,seval,i0,j0,k0,i1,j1,k1,i2,j2,k2,i3,j3,k3,zal,e1,e2,wal,wah,wai,or_imp,forall_and,KE,GZ,paO,paL,paI,itA,nmO,bnO,zAc];refine⟨by kernel_rfl,?_⟩;simp only[ZE,seval,k0,k1,k2,k3,ks,hm,zal,e3,hw,or_imp,forall_and,war,Option.isSome_some,Bool.not_true,zAt.eq_def,zAF.eq_def,KE,GZ,paO,paL,paI,itA,nmO,bnO,zAc];refine⟨[2,4,7,8,1999],[],?_⟩;simp only[ZE,seval,zAp.eq_1,zAp.eq_2,zAq.eq_1,zAq.eq_2,GZ,zAt.eq_def,zAj.eq_def,ghK.eq_def,zAF.eq_def,zAi.eq_def,hdH.eq_1,hdH.eq_2,kpH.eq_1,kpH.eq_2,hdl.eq_def,zpC.eq_def,zht,AV.core,GZ,paO,paL,paI,itA,nmO,bnO,zAc];exact⟨_,_,hR,hla,rfl,rfl⟩
  ·simp only[ZE,seval,i0,j0,k0,i1,j1,k1,i2,j2,k2,i3,j3,k3,zal,e1,e2,wal,wah,wai,or_imp,forall_and,KE,GZ,paO,paL,paI,itA,nmO,bnO,zAc];refine⟨by kernel_rfl,?_⟩;simp only[ZE,seval,k0,k1,k2,k3,ks,hm,zal,e3,hw,or_imp,forall_and,war,Option.isSome_some,Bool.not_true,zAt.eq_def,zAF.eq_def,KE,GZ,paO,paL,paI,itA,nmO,bnO,zAc];refine⟨[2,4,7,8,1999],[],?_⟩;simp only[ZE,seval,zAp.eq_1,zAp.eq_2,zAq.eq_1,zAq.eq_2,GZ,zAt.eq_def,zAj.eq_def,ghK.eq_def,zAF.eq_def,zAi.eq_def,hdH.eq_1,hdH.eq_2,kpH.eq_1,kpH.eq_2,hdl.eq_def,zpC.eq_def,zht,AV.core,GZ,paO,paL,paI,itA,nmO,bnO,zAc];exact⟨_,_,hR,hla,rfl,rfl⟩
  ·have c1:=zDj Z hZ T hT (a+1) hla;simp only[ZE,seval,KE]at c1;simp only[ZE,seval,i0,j0,k0,i1,j1,k1,i2,j2,k2,i3,j3,k3,zal,e1,e2,wal,wah,wai,or_imp,forall_and,KE,GZ,paO,paL,paI,itA,nmO,bnO,zAc];refine⟨by kernel_rfl,?_⟩;simp only[ZE,seval,k0,k1,k2,k3,ks,hm,zal,e3,hw,or_imp,forall_and,war,Option.isSome_some,Bool.not_true,KE,GZ,paO,paL,paI,itA,nmO,bnO,zAc];refine EFn.gX [(1,1),(7777777,7777777)] (c1) ?_ (fun v hv=>by obtain⟨i,hi,hv⟩:=hv; exact⟨i,by rw[hR,hi]; rfl,hv⟩) ?_
   ·simp only[ZE,seval,GZ,paO,paL,paI,itA,nmO,bnO,zAc]
   rintro V ol new ⟨n,b,h1,hb,rfl,rfl,rfl⟩;rw[h1,PR.bd_ok]at hR;simp only[ZE,seval,zAt.eq_def,zAF.eq_def,KE,GZ,paO,paL,paI,itA,nmO,bnO,zAc];refine⟨[2,4,7,8,1999],[],?_⟩;simp only[ZE,seval,zAp.eq_1,zAp.eq_2,zAq.eq_1,zAq.eq_2,GZ,zAt.eq_def,zAj.eq_def,ghK.eq_def,zAF.eq_def,zAi.eq_def,hdH.eq_1,hdH.eq_2,kpH.eq_1,kpH.eq_2,hdl.eq_def,zpC.eq_def,zht,AV.core,GZ,paO,paL,paI,itA,nmO,bnO,zAc];exact⟨_,_,hR,hb,rfl,rfl⟩
  ·have c1:=zDj Z hZ T hT (a+1) hla;simp only[ZE,seval,KE]at c1;simp only[ZE,seval,i0,j0,k0,i1,j1,k1,i2,j2,k2,i3,j3,k3,zal,e1,e2,wal,wah,wai,or_imp,forall_and,KE,GZ,paO,paL,paI,itA,nmO,bnO,zAc];refine⟨by kernel_rfl,?_⟩;simp only[ZE,seval,k0,k1,k2,k3,ks,hm,zal,e3,hw,or_imp,forall_and,war,Option.isSome_some,Bool.not_true,KE,GZ,paO,paL,paI,itA,nmO,bnO,zAc];refine EFn.gX [(1,1),(7777777,7777777)] (c1) ?_ (fun v hv=>by obtain⟨i,hi,hv⟩:=hv; exact⟨i,by rw[hR,hi]; rfl,hv⟩) ?_
   ·simp only[ZE,seval,GZ,paO,paL,paI,itA,nmO,bnO,zAc]
   rintro V ol new ⟨n,b,h1,hb,rfl,rfl,rfl⟩;rw[h1,PR.bd_ok]at hR
   replace hR:R=(zAZ T 0 b).bd fun m c=>.ok (⟨3,n,m⟩,c):=hR
   have c2:=zGL Z T hT 0 b hb;simp only[ZE,seval,KE]at c2;simp only[ZE,seval,KE,GZ,paO,paL,paI,itA,nmO,bnO,zAc];refine EFn.gX [(1,1),(7777777,7777777)] (c2) ?_ (fun v hv=>by obtain⟨i,hi,hv⟩:=hv; exact⟨i,by rw[hR,hi]; rfl,hv⟩) ?_
   ·simp only[ZE,seval,GZ,paO,paL,paI,itA,nmO,bnO,zAc]
   rintro V ol new ⟨m,c,h2,hc,rfl,rfl,rfl⟩;rw[h2,PR.bd_ok]at hR;simp only[ZE,seval,zAt.eq_def,zAF.eq_def,KE,GZ,paO,paL,paI,itA,nmO,bnO,zAc];refine⟨[2,4,7,8,1999],[],?_⟩;simp only[ZE,seval,zAp.eq_1,zAp.eq_2,zAq.eq_1,zAq.eq_2,GZ,zAt.eq_def,zAj.eq_def,ghK.eq_def,zAF.eq_def,zAi.eq_def,hdH.eq_1,hdH.eq_2,kpH.eq_1,kpH.eq_2,hdl.eq_def,zpC.eq_def,zht,AV.core,GZ,paO,paL,paI,itA,nmO,bnO,zAc];exact⟨_,_,hR,hc,rfl,rfl⟩
 ·rw[if_pos hk]at hR;have e3:((k:Int) !=1)=true:=by simp; omega
  rcases o with _ | q
  ·rw[waq]at hm;simp only[ZE,seval,i0,j0,k0,i1,j1,k1,i2,j2,k2,i3,j3,k3,zal,e1,e2,wal,wah,wai,or_imp,forall_and,KE,GZ,paO,paL,paI,itA,nmO,bnO,zAc];refine⟨by kernel_rfl,?_⟩;simp only[ZE,seval,k0,k1,k2,k3,ks,hm,zal,e3,hw,or_imp,forall_and,was,Option.isSome_none,Bool.not_false,KE,GZ,paO,paL,paI,itA,nmO,bnO,zAc];refine EFn.gX [(1,1),(7777777,7777777)] hf ?_ (fun v hv=>by exact⟨a,hR,hv⟩) (fun _ _ _ h=>h.elim);simp only[ZE,seval,GZ,paO,paL,paI,itA,nmO,bnO,zAc]
  ·rw[wap]at hm;simp only[ZE,seval,i0,j0,k0,i1,j1,k1,i2,j2,k2,i3,j3,k3,zal,e1,e2,wal,wah,wai,or_imp,forall_and,KE,GZ,paO,paL,paI,itA,nmO,bnO,zAc];refine⟨by kernel_rfl,?_⟩;simp only[ZE,seval,k0,k1,k2,k3,ks,hm,zal,e3,hw,or_imp,forall_and,war,Option.isSome_some,Bool.not_true,KE,GZ,paO,paL,paI,itA,nmO,bnO,zAc];refine EFn.gX [(1,1),(7777777,7777777)] hf ?_ (fun v hv=>by exact⟨a,hR,hv⟩) (fun _ _ _ h=>h.elim);simp only[ZE,seval,GZ,paO,paL,paI,itA,nmO,bnO,zAc]
theorem channel_p(Z:GP)(hZ:Z.Ok)(T:List Tok)(hT:TOk T)(a:Nat)(ha:a<T.length)(x:Item):zHw Z T 204 a x (zE0 x T a):=by
 refine zBL.srt (zBL.of_eH 1999 [.ar 103 x.args.length,.ar 104 x.ports.length] (own:=[]) (fun _=>[]) [0,1] zat func204 rfl call204 ntmps204 (zle rfl) results204 (zD1 Z T a x _ (by simp[AV.noRefs,AV.noRef])) (fun gs=> ?_));obtain⟨R,hR⟩: ∃R,R=zE0 x T a:=⟨_,rfl⟩;rw[<-hR];unfold zE0 at hR;obtain⟨ex,hex⟩:=zX (zBA T 8);have hE:=fun b hb=>zHE Z hZ T hT 8 (by decide) b hb;rw[hex]at hE
 try rw[hex]at hR
 have c1:=zHr Z hZ T hT a ha x;simp only[ZE,seval,KE,GZ,paO,paL,paI,itA,nmO,bnO,zAc];refine EFn.gX [(1,1),(101,101),(103,103),(104,104),(7777777,7777777)] (c1) ?_ (fun v hv=>by obtain⟨i,hi,hv⟩:=hv; exact⟨i,by rw[hR,hi]; rfl,hv⟩) ?_
 ·simp only[ZE,seval,KE,GZ,paO,paL,paI,itA,nmO,bnO,zAc]
 rintro V ol new ⟨y,p1,e1,h1,rfl,rfl,rfl⟩;rw[e1,PR.bd_ok]at hR;have c2:=zBu Z T hT p1 (⟨#[91]⟩:ByteArray) h1;simp only[ZE,seval,KE]at c2;simp only[ZE,seval,KE,GZ,paO,paL,paI,itA,nmO,bnO,zAc];refine EFn.gX [(1,1),(7777777,7777777)] (c2) ?_ (fun v hv=>by obtain⟨i,hi,hv⟩:=hv; exact⟨i,by rw[hR,hi]; rfl,hv⟩) ?_
 ·simp only[ZE,seval,GZ,paO,paL,paI,itA,nmO,bnO,zAc]
 rintro V ol new ⟨_u,p2,e2,h2,rfl,rfl,rfl⟩;rw[e2,PR.bd_ok]at hR;have c3:=zIs Z hZ T hT p2 h2;simp only[ZE,seval,KE]at c3;simp only[ZE,seval,KE,GZ,paO,paL,paI,itA,nmO,bnO,zAc];refine EFn.gX [(1,1),(7777777,7777777)] (c3) ?_ (fun v hv=>by obtain⟨i,hi,hv⟩:=hv; exact⟨i,by rw[hR,hi]; rfl,hv⟩) ?_
 ·simp only[ZE,seval,GZ,paO,paL,paI,itA,nmO,bnO,zAc]
 rintro V ol new ⟨w,p3,e3,h3,rfl,rfl,rfl⟩;rw[e3,PR.bd_ok]at hR;have c4:=zBu Z T hT p3 (⟨#[93]⟩:ByteArray) h3;simp only[ZE,seval,KE]at c4;simp only[ZE,seval,KE,GZ,paO,paL,paI,itA,nmO,bnO,zAc];refine EFn.gX [(1,1),(7777777,7777777)] (c4) ?_ (fun v hv=>by obtain⟨i,hi,hv⟩:=hv; exact⟨i,by rw[hR,hi]; rfl,hv⟩) ?_
 ·simp only[ZE,seval,GZ,paO,paL,paI,itA,nmO,bnO,zAc]
 rintro V ol new ⟨_u,p4,e4,h4,rfl,rfl,rfl⟩;rw[e4,PR.bd_ok]at hR;simp only[ZE,seval,zAt.eq_def,zAF.eq_def,KE,GZ,paO,paL,paI,itA,nmO,bnO,zAc];refine⟨[1999],[],?_⟩;simp only[ZE,seval,zAp.eq_1,zAp.eq_2,zAq.eq_1,zAq.eq_2,GZ,zAt.eq_def,zAj.eq_def,ghK.eq_def,zAF.eq_def,zAi.eq_def,hdH.eq_1,hdH.eq_2,kpH.eq_1,kpH.eq_2,hdl.eq_def,zpC.eq_def,zht,AV.core,GZ,paO,paL,paI,itA,nmO,bnO,zAc];exact⟨_,p4,hR,h4,rfl⟩
theorem register_p(Z:GP)(hZ:Z.Ok)(T:List Tok)(hT:TOk T)(a:Nat)(ha:a<T.length)(x:Item):zHw Z T 205 a x (regP x T a):=by
 refine zBL.srt (zBL.of_eH 1999 [.ar 103 x.args.length,.ar 104 x.ports.length] (own:=[]) (fun _=>[]) [0,1] zat func205 rfl call205 ntmps205 (zle rfl) results205 (zD1 Z T a x _ (by simp[AV.noRefs,AV.noRef])) (fun gs=> ?_));obtain⟨R,hR⟩: ∃R,R=regP x T a:=⟨_,rfl⟩;rw[<-hR];unfold regP at hR;obtain⟨ex,hex⟩:=zX (zBA T 8);have hE:=fun b hb=>zHE Z hZ T hT 8 (by decide) b hb;rw[hex]at hE
 try rw[hex]at hR
 have c1:=zHr Z hZ T hT a ha x;simp only[ZE,seval,KE,GZ,paO,paL,paI,itA,nmO,bnO,zAc];refine EFn.gX [(1,1),(101,101),(103,103),(104,104),(7777777,7777777)] (c1) ?_ (fun v hv=>by obtain⟨i,hi,hv⟩:=hv; exact⟨i,by rw[hR,hi]; rfl,hv⟩) ?_
 ·simp only[ZE,seval,KE,GZ,paO,paL,paI,itA,nmO,bnO,zAc]
 rintro V ol new ⟨y,p1,e1,h1,rfl,rfl,rfl⟩;rw[e1,PR.bd_ok]at hR;have c2:=zBu Z T hT p1 (⟨#[61]⟩:ByteArray) h1;simp only[ZE,seval,KE]at c2;simp only[ZE,seval,KE,GZ,paO,paL,paI,itA,nmO,bnO,zAc];refine EFn.gX [(1,1),(7777777,7777777)] (c2) ?_ (fun v hv=>by obtain⟨i,hi,hv⟩:=hv; exact⟨i,by rw[hR,hi]; rfl,hv⟩) ?_
 ·simp only[ZE,seval,GZ,paO,paL,paI,itA,nmO,bnO,zAc]
 rintro V ol new ⟨_u,p2,e2,h2,rfl,rfl,rfl⟩;rw[e2,PR.bd_ok]at hR;have c3:=zIs Z hZ T hT p2 h2;simp only[ZE,seval,KE]at c3;simp only[ZE,seval,KE,GZ,paO,paL,paI,itA,nmO,bnO,zAc];refine EFn.gX [(1,1),(7777777,7777777)] (c3) ?_ (fun v hv=>by obtain⟨i,hi,hv⟩:=hv; exact⟨i,by rw[hR,hi]; rfl,hv⟩) ?_
 ·simp only[ZE,seval,GZ,paO,paL,paI,itA,nmO,bnO,zAc]
 rintro V ol new ⟨w,p3,e3,h3,rfl,rfl,rfl⟩;rw[e3,PR.bd_ok]at hR;have c4:=zBu Z T hT p3 (⟨#[45,62]⟩:ByteArray) h3;simp only[ZE,seval,KE]at c4;simp only[ZE,seval,KE,GZ,paO,paL,paI,itA,nmO,bnO,zAc];refine EFn.gX [(1,1),(7777777,7777777)] (c4) ?_ (fun v hv=>by obtain⟨i,hi,hv⟩:=hv; exact⟨i,by rw[hR,hi]; rfl,hv⟩) ?_
 ·simp only[ZE,seval,GZ,paO,paL,paI,itA,nmO,bnO,zAc]
 rintro V ol new ⟨_u,p4,e4,h4,rfl,rfl,rfl⟩;rw[e4,PR.bd_ok]at hR;have c5:=hE p4 h4;simp only[ZE,seval,KE]at c5;simp only[ZE,seval,KE,GZ,paO,paL,paI,itA,nmO,bnO,zAc];refine EFn.gX [(1,1),(7777777,7777777)] (c5) ?_ (fun v hv=>by obtain⟨i,hi,hv⟩:=hv; exact⟨i,by rw[hR,hi]; rfl,hv⟩) ?_
 ·simp only[ZE,seval,GZ,paO,paL,paI,itA,nmO,bnO,zAc]
 rintro V ol new ⟨e,p5,e5,h5,rfl,rfl,rfl⟩;rw[e5,PR.bd_ok]at hR;have c6:=rule_p Z hZ T hT p5 h5;simp only[ZE,seval,KE]at c6;simp only[ZE,seval,zCx e,KE,GZ,paO,paL,paI,itA,nmO,bnO,zAc];refine EFn.gX [(1,1),(7777777,7777777)] (c6) ?_ (fun v hv=>by obtain⟨i,hi,hv⟩:=hv; exact⟨i,by rw[hR,hi]; rfl,hv⟩) ?_
 ·simp only[ZE,seval,GZ,paO,paL,paI,itA,nmO,bnO,zAc]
 rintro V ol new ⟨r,p6,e6,h6,rfl,rfl,rfl⟩;rw[e6,PR.bd_ok]at hR;simp only[ZE,seval,zAt.eq_def,zAF.eq_def,KE,GZ,paO,paL,paI,itA,nmO,bnO,zAc];refine⟨[1999],[],?_⟩;simp only[ZE,seval,zAp.eq_1,zAp.eq_2,zAq.eq_1,zAq.eq_2,GZ,zAt.eq_def,zAj.eq_def,ghK.eq_def,zAF.eq_def,zAi.eq_def,hdH.eq_1,hdH.eq_2,kpH.eq_1,kpH.eq_2,hdl.eq_def,zpC.eq_def,zht,AV.core,GZ,paO,paL,paI,itA,nmO,bnO,zAc];exact⟨_,p6,hR,h6,rfl⟩
theorem wire_p(Z:GP)(hZ:Z.Ok)(T:List Tok)(hT:TOk T)(a:Nat)(ha:a<T.length)(x:Item):zHw Z T 206 a x (wireP x T a):=by
 refine zBL.srt (zBL.of_eH 1999 [.ar 103 x.args.length,.ar 104 x.ports.length] (own:=[]) (fun _=>[]) [0,1] zat func206 rfl call206 ntmps206 (zle rfl) results206 (zD1 Z T a x _ (by simp[AV.noRefs,AV.noRef])) (fun gs=> ?_));obtain⟨R,hR⟩: ∃R,R=wireP x T a:=⟨_,rfl⟩;rw[<-hR];unfold wireP at hR;obtain⟨ex,hex⟩:=zX (zBA T 8);have hE:=fun b hb=>zHE Z hZ T hT 8 (by decide) b hb;rw[hex]at hE
 try rw[hex]at hR
 have c1:=zHr Z hZ T hT a ha x;simp only[ZE,seval,KE,GZ,paO,paL,paI,itA,nmO,bnO,zAc];refine EFn.gX [(1,1),(101,101),(103,103),(104,104),(7777777,7777777)] (c1) ?_ (fun v hv=>by obtain⟨i,hi,hv⟩:=hv; exact⟨i,by rw[hR,hi]; rfl,hv⟩) ?_
 ·simp only[ZE,seval,KE,GZ,paO,paL,paI,itA,nmO,bnO,zAc]
 rintro V ol new ⟨y,p1,e1,h1,rfl,rfl,rfl⟩;rw[e1,PR.bd_ok]at hR;have c2:=zBu Z T hT p1 (⟨#[61]⟩:ByteArray) h1;simp only[ZE,seval,KE]at c2;simp only[ZE,seval,KE,GZ,paO,paL,paI,itA,nmO,bnO,zAc];refine EFn.gX [(1,1),(7777777,7777777)] (c2) ?_ (fun v hv=>by obtain⟨i,hi,hv⟩:=hv; exact⟨i,by rw[hR,hi]; rfl,hv⟩) ?_
 ·simp only[ZE,seval,GZ,paO,paL,paI,itA,nmO,bnO,zAc]
 rintro V ol new ⟨_u,p2,e2,h2,rfl,rfl,rfl⟩;rw[e2,PR.bd_ok]at hR;have c3:=hE p2 h2;simp only[ZE,seval,KE]at c3;simp only[ZE,seval,KE,GZ,paO,paL,paI,itA,nmO,bnO,zAc];refine EFn.gX [(1,1),(7777777,7777777)] (c3) ?_ (fun v hv=>by obtain⟨i,hi,hv⟩:=hv; exact⟨i,by rw[hR,hi]; rfl,hv⟩) ?_
 ·simp only[ZE,seval,GZ,paO,paL,paI,itA,nmO,bnO,zAc]
 rintro V ol new ⟨e,p3,e3,h3,rfl,rfl,rfl⟩;rw[e3,PR.bd_ok]at hR;simp only[ZE,seval,zCx e,zAt.eq_def,zAF.eq_def,KE,GZ,paO,paL,paI,itA,nmO,bnO,zAc];refine⟨[1999],[],?_⟩;simp only[ZE,seval,zAp.eq_1,zAp.eq_2,zAq.eq_1,zAq.eq_2,GZ,zAt.eq_def,zAj.eq_def,ghK.eq_def,zAF.eq_def,zAi.eq_def,hdH.eq_1,hdH.eq_2,kpH.eq_1,kpH.eq_2,hdl.eq_def,zpC.eq_def,zht,AV.core,GZ,paO,paL,paI,itA,nmO,bnO,zAc];exact⟨_,p3,hR,h3,rfl⟩
theorem memory_p(Z:GP)(hZ:Z.Ok)(T:List Tok)(hT:TOk T)(a:Nat)(ha:a<T.length)(x:Item):zHw Z T 207 a x (memP x T a):=by
 refine zBL.srt (zBL.of_eH 1999 [.ar 103 x.args.length,.ar 104 x.ports.length] (own:=[]) (fun _=>[]) [0,1] zat func207 rfl call207 ntmps207 (zle rfl) results207 (zD1 Z T a x _ (by simp[AV.noRefs,AV.noRef])) (fun gs=> ?_));obtain⟨R,hR⟩: ∃R,R=memP x T a:=⟨_,rfl⟩;rw[<-hR];unfold memP at hR;obtain⟨ex,hex⟩:=zX (zBA T 8);have hE:=fun b hb=>zHE Z hZ T hT 8 (by decide) b hb;rw[hex]at hE
 try rw[hex]at hR
 have c1:=channel_p Z hZ T hT a ha x;simp only[ZE,seval,KE,GZ,paO,paL,paI,itA,nmO,bnO,zAc];refine EFn.gX [(1,1),(101,101),(103,103),(104,104),(7777777,7777777)] (c1) ?_ (fun v hv=>by obtain⟨i,hi,hv⟩:=hv; exact⟨i,by rw[hR,hi]; rfl,hv⟩) ?_
 ·simp only[ZE,seval,KE,GZ,paO,paL,paI,itA,nmO,bnO,zAc]
 rintro V ol new ⟨y,p1,e1,h1,rfl,rfl,rfl⟩;rw[e1,PR.bd_ok]at hR;have c2:=word_p Z T hT p1 (⟨#[105,102]⟩:ByteArray) h1;simp only[ZE,seval,KE]at c2;simp only[ZE,seval,KE,GZ,paO,paL,paI,itA,nmO,bnO,zAc];refine EFn.gX [(1,1),(7777777,7777777)] (c2) ?_ (fun v hv=>by obtain⟨i,hi,hv⟩:=hv; exact⟨i,by rw[hR,hi]; rfl,hv⟩) ?_
 ·simp only[ZE,seval,GZ,paO,paL,paI,itA,nmO,bnO,zAc]
 rintro V ol new ⟨_u,p2,e2,h2,rfl,rfl,rfl⟩;rw[e2,PR.bd_ok]at hR;have c3:=hE p2 h2;simp only[ZE,seval,KE]at c3;simp only[ZE,seval,KE,GZ,paO,paL,paI,itA,nmO,bnO,zAc];refine EFn.gX [(1,1),(7777777,7777777)] (c3) ?_ (fun v hv=>by obtain⟨i,hi,hv⟩:=hv; exact⟨i,by rw[hR,hi]; rfl,hv⟩) ?_
 ·simp only[ZE,seval,GZ,paO,paL,paI,itA,nmO,bnO,zAc]
 rintro V ol new ⟨e,p3,e3,h3,rfl,rfl,rfl⟩;rw[e3,PR.bd_ok]at hR;have c4:=word_p Z T hT p3 (⟨#[97,116]⟩:ByteArray) h3;simp only[ZE,seval,KE]at c4;simp only[ZE,seval,zCx e,KE,GZ,paO,paL,paI,itA,nmO,bnO,zAc];refine EFn.gX [(1,1),(7777777,7777777)] (c4) ?_ (fun v hv=>by obtain⟨i,hi,hv⟩:=hv; exact⟨i,by rw[hR,hi]; rfl,hv⟩) ?_
 ·simp only[ZE,seval,GZ,paO,paL,paI,itA,nmO,bnO,zAc]
 rintro V ol new ⟨_u,p4,e4,h4,rfl,rfl,rfl⟩;rw[e4,PR.bd_ok]at hR;have c5:=hE p4 h4;simp only[ZE,seval,KE]at c5;simp only[ZE,seval,KE,GZ,paO,paL,paI,itA,nmO,bnO,zAc];refine EFn.gX [(1,1),(7777777,7777777)] (c5) ?_ (fun v hv=>by obtain⟨i,hi,hv⟩:=hv; exact⟨i,by rw[hR,hi]; rfl,hv⟩) ?_
 ·simp only[ZE,seval,GZ,paO,paL,paI,itA,nmO,bnO,zAc]
 rintro V ol new ⟨f,p5,e5,h5,rfl,rfl,rfl⟩;rw[e5,PR.bd_ok]at hR;have c6:=zBu Z T hT p5 (⟨#[61]⟩:ByteArray) h5;simp only[ZE,seval,KE]at c6;simp only[ZE,seval,zCx f,KE,GZ,paO,paL,paI,itA,nmO,bnO,zAc];refine EFn.gX [(1,1),(7777777,7777777)] (c6) ?_ (fun v hv=>by obtain⟨i,hi,hv⟩:=hv; exact⟨i,by rw[hR,hi]; rfl,hv⟩) ?_
 ·simp only[ZE,seval,GZ,paO,paL,paI,itA,nmO,bnO,zAc]
 rintro V ol new ⟨_u,p6,e6,h6,rfl,rfl,rfl⟩;rw[e6,PR.bd_ok]at hR;have c7:=hE p6 h6;simp only[ZE,seval,KE]at c7;simp only[ZE,seval,KE,GZ,paO,paL,paI,itA,nmO,bnO,zAc];refine EFn.gX [(1,1),(7777777,7777777)] (c7) ?_ (fun v hv=>by obtain⟨i,hi,hv⟩:=hv; exact⟨i,by rw[hR,hi]; rfl,hv⟩) ?_
 ·simp only[ZE,seval,GZ,paO,paL,paI,itA,nmO,bnO,zAc]
 rintro V ol new ⟨g,p7,e7,h7,rfl,rfl,rfl⟩;rw[e7,PR.bd_ok]at hR;have c8:=rule_p Z hZ T hT p7 h7;simp only[ZE,seval,KE]at c8;simp only[ZE,seval,zCx g,KE,GZ,paO,paL,paI,itA,nmO,bnO,zAc];refine EFn.gX [(1,1),(7777777,7777777)] (c8) ?_ (fun v hv=>by obtain⟨i,hi,hv⟩:=hv; exact⟨i,by rw[hR,hi]; rfl,hv⟩) ?_
 ·simp only[ZE,seval,GZ,paO,paL,paI,itA,nmO,bnO,zAc]
 rintro V ol new ⟨r,p8,e8,h8,rfl,rfl,rfl⟩;rw[e8,PR.bd_ok]at hR;simp only[ZE,seval,zAt.eq_def,zAF.eq_def,KE,GZ,paO,paL,paI,itA,nmO,bnO,zAc];refine⟨[1999],[],?_⟩;simp only[ZE,seval,zAp.eq_1,zAp.eq_2,zAq.eq_1,zAq.eq_2,GZ,zAt.eq_def,zAj.eq_def,ghK.eq_def,zAF.eq_def,zAi.eq_def,hdH.eq_1,hdH.eq_2,kpH.eq_1,kpH.eq_2,hdl.eq_def,zpC.eq_def,zht,AV.core,GZ,paO,paL,paI,itA,nmO,bnO,zAc];exact⟨_,p8,hR,h8,rfl⟩
theorem take_p(Z:GP)(hZ:Z.Ok)(T:List Tok)(hT:TOk T)(a:Nat)(ha:a<T.length)(x:Item):zHw Z T 208 a x (zFw x T a):=by
 refine zBL.srt (zBL.of_eH 1999 [.ar 103 x.args.length,.ar 104 x.ports.length] (own:=[]) (fun _=>[]) [0,1] zat func208 rfl call208 ntmps208 (zle rfl) results208 (zD1 Z T a x _ (by simp[AV.noRefs,AV.noRef])) (fun gs=> ?_));obtain⟨R,hR⟩: ∃R,R=zFw x T a:=⟨_,rfl⟩;rw[<-hR];unfold zFw at hR;obtain⟨ex,hex⟩:=zX (zBA T 8);have hE:=fun b hb=>zHE Z hZ T hT 8 (by decide) b hb;rw[hex]at hE
 try rw[hex]at hR
 have c1:=zDj Z hZ T hT a ha;simp only[ZE,seval,KE]at c1;simp only[ZE,seval,KE,GZ,paO,paL,paI,itA,nmO,bnO,zAc];refine EFn.gX [(1,1),(7777777,7777777)] (c1) ?_ (fun v hv=>by obtain⟨i,hi,hv⟩:=hv; exact⟨i,by rw[hR,hi]; rfl,hv⟩) ?_
 ·simp only[ZE,seval,GZ,paO,paL,paI,itA,nmO,bnO,zAc]
 rintro V ol new ⟨s,p1,e1,h1,rfl,rfl,rfl⟩;rw[e1,PR.bd_ok]at hR;have c2:=word_p Z T hT p1 (⟨#[105,102]⟩:ByteArray) h1;simp only[ZE,seval,KE]at c2;simp only[ZE,seval,KE,GZ,paO,paL,paI,itA,nmO,bnO,zAc];refine EFn.gX [(1,1),(7777777,7777777)] (c2) ?_ (fun v hv=>by obtain⟨i,hi,hv⟩:=hv; exact⟨i,by rw[hR,hi]; rfl,hv⟩) ?_
 ·simp only[ZE,seval,GZ,paO,paL,paI,itA,nmO,bnO,zAc]
 rintro V ol new ⟨_u,p2,e2,h2,rfl,rfl,rfl⟩;rw[e2,PR.bd_ok]at hR;have c3:=hE p2 h2;simp only[ZE,seval,KE]at c3;simp only[ZE,seval,KE,GZ,paO,paL,paI,itA,nmO,bnO,zAc];refine EFn.gX [(1,1),(7777777,7777777)] (c3) ?_ (fun v hv=>by obtain⟨i,hi,hv⟩:=hv; exact⟨i,by rw[hR,hi]; rfl,hv⟩) ?_
 ·simp only[ZE,seval,GZ,paO,paL,paI,itA,nmO,bnO,zAc]
 rintro V ol new ⟨e,p3,e3,h3,rfl,rfl,rfl⟩;rw[e3,PR.bd_ok]at hR;simp only[ZE,seval,zCx e,zAt.eq_def,zAF.eq_def,KE,GZ,paO,paL,paI,itA,nmO,bnO,zAc];refine⟨[1999],[],?_⟩;simp only[ZE,seval,zAp.eq_1,zAp.eq_2,zAq.eq_1,zAq.eq_2,GZ,zAt.eq_def,zAj.eq_def,ghK.eq_def,zAF.eq_def,zAi.eq_def,hdH.eq_1,hdH.eq_2,kpH.eq_1,kpH.eq_2,hdl.eq_def,zpC.eq_def,zht,AV.core,GZ,paO,paL,paI,itA,nmO,bnO,zAc];exact⟨_,p3,hR,h3,rfl⟩
theorem put_p(Z:GP)(hZ:Z.Ok)(T:List Tok)(hT:TOk T)(a:Nat)(ha:a<T.length)(x:Item):zHw Z T 209 a x (putP x T a):=by
 refine zBL.srt (zBL.of_eH 1999 [.ar 103 x.args.length,.ar 104 x.ports.length] (own:=[]) (fun _=>[]) [0,1] zat func209 rfl call209 ntmps209 (zle rfl) results209 (zD1 Z T a x _ (by simp[AV.noRefs,AV.noRef])) (fun gs=> ?_));obtain⟨R,hR⟩: ∃R,R=putP x T a:=⟨_,rfl⟩;rw[<-hR];unfold putP at hR;obtain⟨ex,hex⟩:=zX (zBA T 8);have hE:=fun b hb=>zHE Z hZ T hT 8 (by decide) b hb;rw[hex]at hE
 try rw[hex]at hR
 have c1:=take_p Z hZ T hT a ha x;simp only[ZE,seval,KE,GZ,paO,paL,paI,itA,nmO,bnO,zAc];refine EFn.gX [(1,1),(101,101),(103,103),(104,104),(7777777,7777777)] (c1) ?_ (fun v hv=>by obtain⟨i,hi,hv⟩:=hv; exact⟨i,by rw[hR,hi]; rfl,hv⟩) ?_
 ·simp only[ZE,seval,KE,GZ,paO,paL,paI,itA,nmO,bnO,zAc]
 rintro V ol new ⟨y,p1,e1,h1,rfl,rfl,rfl⟩;rw[e1,PR.bd_ok]at hR;have c2:=zBu Z T hT p1 (⟨#[61]⟩:ByteArray) h1;simp only[ZE,seval,KE]at c2;simp only[ZE,seval,KE,GZ,paO,paL,paI,itA,nmO,bnO,zAc];refine EFn.gX [(1,1),(7777777,7777777)] (c2) ?_ (fun v hv=>by obtain⟨i,hi,hv⟩:=hv; exact⟨i,by rw[hR,hi]; rfl,hv⟩) ?_
 ·simp only[ZE,seval,GZ,paO,paL,paI,itA,nmO,bnO,zAc]
 rintro V ol new ⟨_u,p2,e2,h2,rfl,rfl,rfl⟩;rw[e2,PR.bd_ok]at hR;have c3:=hE p2 h2;simp only[ZE,seval,KE]at c3;simp only[ZE,seval,KE,GZ,paO,paL,paI,itA,nmO,bnO,zAc];refine EFn.gX [(1,1),(7777777,7777777)] (c3) ?_ (fun v hv=>by obtain⟨i,hi,hv⟩:=hv; exact⟨i,by rw[hR,hi]; rfl,hv⟩) ?_
 ·simp only[ZE,seval,GZ,paO,paL,paI,itA,nmO,bnO,zAc]
 rintro V ol new ⟨e,p3,e3,h3,rfl,rfl,rfl⟩;rw[e3,PR.bd_ok]at hR;simp only[ZE,seval,zCx e,zAt.eq_def,zAF.eq_def,KE,GZ,paO,paL,paI,itA,nmO,bnO,zAc];refine⟨[1999],[],?_⟩;simp only[ZE,seval,zAp.eq_1,zAp.eq_2,zAq.eq_1,zAq.eq_2,GZ,zAt.eq_def,zAj.eq_def,ghK.eq_def,zAF.eq_def,zAi.eq_def,hdH.eq_1,hdH.eq_2,kpH.eq_1,kpH.eq_2,hdl.eq_def,zpC.eq_def,zht,AV.core,GZ,paO,paL,paI,itA,nmO,bnO,zAc];exact⟨_,p3,hR,h3,rfl⟩
def pxI(Z:GP)(T:List Tok)(a:Nat)(x:Item):OL:=[(1,paO T a),(95,.box [.bp 1 0]),(96,.box [.bp 101 0]),(101,.box (itA x)),(103,nmO x.args),(104,bnO x.ports),(7777777,Z.o)]
theorem zIC(Z:GP)(T:List Tok)(a:Nat)(x:Item)(args:List AV)(ha:AV.noRefs [1999] args):
  (zyk 1999 (pxI Z T a x)/\AV.noRefs [1999] args)/\zCV (om (pxI Z T a x)) [.bp 1 0,.bp 95 0,.bp 96 0,.bp 101 0,.ar 103 x.args.length,.ar 104 x.ports.length]/\AV.noRefs [1999] [.bp 1 0,.bp 95 0,.bp 96 0,.bp 101 0,.ar 103 x.args.length,.ar 104 x.ports.length]:=by
 simp[pxI,paO,itA,nmO,bnO,GZ,zyk,AO.noRef,AV.noRefs,AV.noRef,zCV,om,ha]
def PConX{α:Type}(Z:GP)(T:List Tok)(f:Nat)(args:List AV)(a:Nat)(x:Item)(R:PR α)(up:α->Item):Prop:=
 zBL prog f args (pxI Z T a x) (fun V ol new=> ∃y b,R= .ok (y,b)/\b<T.length/\V= .tup []/\ol=pxI Z T b (up y)/\new=[]) (fun v=> ∃i,R= .error i/\v=zCU i)
theorem inst1_p(Z:GP)(hZ:Z.Ok)(T:List Tok)(hT:TOk T)(a:Nat)(ha:a<T.length)(x:Item)(hx:x.args.length<=10000000):
  PConX Z T 224 [.bp 96 0,.bp 95 0] a x (zDM T a) (fun n=>{x with args:=x.args++[n]}):=by
 refine zBL.srt (zBL.of_eH 1999 [.bp 1 0,.bp 95 0,.bp 96 0,.bp 101 0,.ar 103 x.args.length,.ar 104 x.ports.length] (own:=[]) (fun i=>if i=2000 then [.flt ⟨[(0,none),(1,none),(2,none),(3,none),(4,none),(5,none),(6,some [0,1,2,3,4]),(7,some [0,1,2,3,4]),(8,some [0]),(9,none),(10,none),(11,some [])]⟩ ⟨[],[]⟩]else []) [0,1] zat func224 rfl call224 ntmps224 (zle rfl) results224 (zIC Z T a x _ (by simp[AV.noRefs,AV.noRef])) (fun gs=> ?_));obtain⟨R,hR⟩: ∃R,R=zDM T a:=⟨_,rfl⟩;have c1:=zIs Z hZ T hT a ha;rw[<-hR]at c1 ⊢;simp only[ZE,seval,KE]at c1;simp only[ZE,seval,KE,GZ,paO,paL,paI,pxI,itA,nmO,bnO,zAc];refine⟨by kernel_rfl,?_⟩;refine EFn.gX [(1,1),(7777777,7777777)] c1 ?_ (fun v hv=>by exact hv) ?_
 ·simp only[ZE,seval,GZ,paO,paL,paI,pxI,itA,nmO,bnO,zAc]
 rintro V ol new ⟨n,b,h1,hb,rfl,rfl,rfl⟩;have hlen:x.args.length+1=(x.args++[n]).length :=by simp
 have hmap:x.args.map zgL++[[D.lit (.int .i64 n.n),D.lit (.string n.p)]]=(x.args++[n]).map zgL:=by rw[wad]; rfl
 simp only[ZE,seval,KE,hmap,waa,GZ,paO,paL,paI,pxI,itA,nmO,bnO,zAc];refine⟨⟨by omega,by omega⟩,hlen,?_⟩;simp only[ZE,seval,zAt.eq_def,zAF.eq_def,KE,GZ,paO,paL,paI,pxI,itA,nmO,bnO,zAc];refine⟨[9,1999],[],?_⟩;simp only[ZE,seval,zAp.eq_1,zAp.eq_2,zAq.eq_1,zAq.eq_2,GZ,zAt.eq_def,zAj.eq_def,ghK.eq_def,zAF.eq_def,zAi.eq_def,hdH.eq_1,hdH.eq_2,kpH.eq_1,kpH.eq_2,hdl.eq_def,zpC.eq_def,zht,AV.core,GZ,paO,paL,paI,pxI,itA,nmO,bnO,zAc];exact⟨n,b,h1,hb,by simp only[wab,wac,wae,Nat.zero_add]⟩
theorem inst2_p(Z:GP)(hZ:Z.Ok)(T:List Tok)(hT:TOk T)(a:Nat)(ha:a<T.length)(x:Item)(hx:x.ports.length<=10000000):
  PConX Z T 225 [.bp 95 0,.bp 96 0] a x (zDP T a) (fun n=>{x with ports:=x.ports++[n]}):=by
 refine zBL.srt (zBL.of_eH 1999 [.bp 1 0,.bp 95 0,.bp 96 0,.bp 101 0,.ar 103 x.args.length,.ar 104 x.ports.length] (own:=[]) (fun i=>if i=2003 then [.flt ⟨[(0,none),(1,none),(2,none),(3,none),(4,none),(5,none),(6,some [0,1,2,3,4]),(7,some [0]),(8,none),(9,none),(10,some [])]⟩ ⟨[],[]⟩]else []) [0,1] zat func225 rfl call225 ntmps225 (zle rfl) results225 (zIC Z T a x _ (by simp[AV.noRefs,AV.noRef])) (fun gs=> ?_));obtain⟨R,hR⟩: ∃R,R=zDP T a:=⟨_,rfl⟩;rw[<-hR];unfold zDP at hR;have c1:=zDj Z hZ T hT a ha;simp only[ZE,seval,KE]at c1;simp only[ZE,seval,KE,GZ,paO,paL,paI,pxI,itA,nmO,bnO,zAc];refine EFn.gX [(1,1),(7777777,7777777)] (c1) ?_ (fun v hv=>by obtain⟨i,hi,hv⟩:=hv; exact⟨i,by rw[hR,hi]; rfl,hv⟩) ?_
 ·simp only[ZE,seval,GZ,paO,paL,paI,pxI,itA,nmO,bnO,zAc]
 rintro V ol new ⟨s,b,h1,hb,rfl,rfl,rfl⟩;rw[h1,PR.bd_ok]at hR;have c2:=zBu Z T hT b (⟨#[61]⟩:ByteArray) hb;simp only[ZE,seval,KE]at c2;simp only[ZE,seval,KE,GZ,paO,paL,paI,pxI,itA,nmO,bnO,zAc];refine EFn.gX [(1,1),(7777777,7777777)] (c2) ?_ (fun v hv=>by obtain⟨i,hi,hv⟩:=hv; exact⟨i,by rw[hR,hi]; rfl,hv⟩) ?_
 ·simp only[ZE,seval,GZ,paO,paL,paI,pxI,itA,nmO,bnO,zAc]
 rintro V ol new ⟨_u,c,h2,hc,rfl,rfl,rfl⟩;rw[h2,PR.bd_ok]at hR;have c3:=zDj Z hZ T hT c hc;simp only[ZE,seval,KE]at c3;simp only[ZE,seval,KE,GZ,paO,paL,paI,pxI,itA,nmO,bnO,zAc];refine EFn.gX [(1,1),(7777777,7777777)] (c3) ?_ (fun v hv=>by obtain⟨i,hi,hv⟩:=hv; exact⟨i,by rw[hR,hi]; rfl,hv⟩) ?_
 ·simp only[ZE,seval,GZ,paO,paL,paI,pxI,itA,nmO,bnO,zAc]
 rintro V ol new ⟨t,d,h3,hd,rfl,rfl,rfl⟩;rw[h3,PR.bd_ok]at hR;have hlen:x.ports.length+1=(x.ports++[(⟨s,t⟩:Bind)]).length :=by simp
 have hmap:x.ports.map zjO++[[D.lit (.string s),D.lit (.string t)]]=(x.ports++[(⟨s,t⟩:Bind)]).map zjO:=by rw[wad]; rfl
 simp only[ZE,seval,KE,hmap,waa,GZ,paO,paL,paI,pxI,itA,nmO,bnO,zAc];refine⟨by kernel_rfl,⟨by omega,by omega⟩,hlen,?_⟩;simp only[ZE,seval,zAt.eq_def,zAF.eq_def,KE,GZ,paO,paL,paI,pxI,itA,nmO,bnO,zAc];refine⟨[2,6,17,1999],[],?_⟩;simp only[ZE,seval,zAp.eq_1,zAp.eq_2,zAq.eq_1,zAq.eq_2,GZ,zAt.eq_def,zAj.eq_def,ghK.eq_def,zAF.eq_def,zAi.eq_def,hdH.eq_1,hdH.eq_2,kpH.eq_1,kpH.eq_2,hdl.eq_def,zpC.eq_def,zht,AV.core,GZ,paO,paL,paI,pxI,itA,nmO,bnO,zAc];exact⟨⟨s,t⟩,d,hR,hd,by simp only[wab,wac,wae,Nat.zero_add]⟩
theorem zAs{α β:Type}{r:PR α}{f:α->Nat->PR β}{y:β}{c:Nat}(h:r.bd f= .ok (y,c)): ∃x b,r= .ok (x,b)/\f x b= .ok (y,c):=by
 cases r with
 | error i=>cases h
 | ok p=>exact⟨p.1,p.2,rfl,h⟩
theorem signP_gt{T:List Tok}{s:Bts}{a b:Nat}{u:Unit}(h:zBx T s a= .ok (u,b)):a<b:=by
 unfold zBx at h;split at h
 ·simp only[Except.ok.injEq,Prod.mk.injEq]at h; omega
 ·cases h
theorem zGI{T:List Tok}{s:Bts}{a b:Nat}(h:zBE T a= .ok (s,b)):a<b:=by
 unfold zBE at h;split at h
 ·simp only[Except.ok.injEq,Prod.mk.injEq]at h; omega
 ·cases h
theorem zFT{T:List Tok}{m n:Int}{a b:Nat}(h:zAZ T m a= .ok (n,b)):a<b:=by
 unfold zAZ at h;split at h
 ·split at h
  ·simp only[Except.ok.injEq,Prod.mk.injEq]at h; omega
  ·cases h
 ·cases h
theorem numP_gt{T:List Tok}{n:Num}{a b:Nat}(h:zDM T a= .ok (n,b)):a<b:=by
 unfold zDM at h;split at h
 ·obtain⟨x,c,h1,h2⟩:=zAs h;have:=zFT h1;simp only[Except.ok.injEq,Prod.mk.injEq]at h2; omega
 ·obtain⟨x,c,h1,h2⟩:=zAs h;have:=zGI h1;split at h2
  ·obtain⟨y,d,h3,h4⟩:=zAs h2;have:=zFT h3;simp only[Except.ok.injEq,Prod.mk.injEq]at h4; omega
  ·split at h2
   ·obtain⟨y,d,h3,h4⟩:=zAs h2;have:=zFT h3;simp only[Except.ok.injEq,Prod.mk.injEq]at h4; omega
   ·simp only[Except.ok.injEq,Prod.mk.injEq]at h2; omega
theorem bindP_gt{T:List Tok}{n:Bind}{a b:Nat}(h:zDP T a= .ok (n,b)):a<b:=by
 unfold zDP at h;obtain⟨x,c,h1,h2⟩:=zAs h;obtain⟨_,d,h3,h4⟩:=zAs h2;obtain⟨y,e,h5,h6⟩:=zAs h4;have:=zGI h1;have:=signP_gt h3;have:=zGI h5;simp only[Except.ok.injEq,Prod.mk.injEq]at h6;omega
theorem list1_p(Z:GP)(hZ:Z.Ok)(T:List Tok)(hT:TOk T)(a:Nat)(ha:a<T.length)(x:Item)(hx:x.args.length<=1000):
  PConX Z T 160 [.bp 1 0,.clo (.func 224) [] [.bp 96 0,.bp 95 0]] a x (zDg (zDM T) T a) (fun l=>{x with args:=x.args++l}):=by
 refine zBL.srt (zBL.of_eH 1999 [.bp 1 0,.bp 95 0,.bp 96 0,.bp 101 0,.ar 103 x.args.length,.ar 104 x.ports.length] (own:=[]) (fun _=>[]) [0] zat func160 rfl call160 ntmps160 (zle rfl) results160 (zIC Z T a x _ (by simp[AV.noRefs,AV.noRef])) (fun gs=> ?_));have hlen:=hT.len;obtain⟨R,hR⟩: ∃R,R=zDg (zDM T) T a:=⟨_,rfl⟩;rw[<-hR];unfold zDg at hR;obtain⟨one,hone⟩:=zX (zDM T);have hO:=fun b hb y hy=>inst1_p Z hZ T hT b hb y hy;rw[hone]at hR;have c1:=zBu Z T hT a (⟨#[40]⟩:ByteArray) ha;simp only[ZE,seval,KE]at c1;simp only[ZE,seval,KE,GZ,paO,paL,paI,pxI,itA,nmO,bnO,zAc];refine EFn.gX [(1,1),(7777777,7777777)] (c1) ?_ (fun v hv=>by obtain⟨i,hi,hv⟩:=hv; exact⟨i,by rw[hR,hi]; rfl,hv⟩) ?_
 ·simp only[ZE,seval,GZ,paO,paL,paI,pxI,itA,nmO,bnO,zAc]
 rintro V ol new ⟨_u,b,h1,hb,rfl,rfl,rfl⟩;rw[h1,PR.bd_ok]at hR;have p1:=zBq Z T hT b (⟨#[41]⟩:ByteArray) hb;have l1:=zBj hT hb (s:=(⟨#[41]⟩:ByteArray)) (k:=3) (by decide);obtain⟨g,hg⟩:=zX (isT T b 3 (⟨#[41]⟩:ByteArray));rw[hg]at p1 l1 hR;cases g with
 | true=>
  rw[if_pos rfl]at hR p1;simp only[ZE,seval,KE]at p1;simp only[ZE,seval,KE,GZ,paO,paL,paI,pxI,itA,nmO,bnO,zAc];refine EFn.gV [(1,1),(7777777,7777777)] p1 ?_ ?_
  ·simp only[ZE,seval,GZ,paO,paL,paI,pxI,itA,nmO,bnO,zAc]
  rintro V ol new ⟨rfl,rfl,rfl⟩;simp only[ZE,seval,zAt.eq_def,zAF.eq_def,KE,GZ,paO,paL,paI,pxI,itA,nmO,bnO,zAc];refine⟨[1999],[],?_⟩;simp only[ZE,seval,zAp.eq_1,zAp.eq_2,zAq.eq_1,zAq.eq_2,GZ,zAt.eq_def,zAj.eq_def,ghK.eq_def,zAF.eq_def,zAi.eq_def,hdH.eq_1,hdH.eq_2,kpH.eq_1,kpH.eq_2,hdl.eq_def,zpC.eq_def,zht,AV.core,GZ,paO,paL,paI,pxI,itA,nmO,bnO,zAc];exact⟨[],b+1,hR,l1 rfl,by simp only[wag]⟩
 | false=>
  rw[if_neg (by decide)]at hR p1;simp only[ZE,seval,KE]at p1;simp only[ZE,seval,KE,GZ,paO,paL,paI,pxI,itA,nmO,bnO,zAc];refine EFn.gV [(1,1),(7777777,7777777)] p1 ?_ ?_
  ·simp only[ZE,seval,GZ,paO,paL,paI,pxI,itA,nmO,bnO,zAc]
  rintro V ol new ⟨rfl,rfl,rfl⟩;have c2:=hO b hb x (by omega);rw[hone]at c2;simp only[ZE,seval,KE,GZ,paO,paL,paI,pxI,itA,nmO,bnO,zAc];refine EFn.gX [(1,1),(95,95),(96,96),(101,101),(103,103),(104,104),(7777777,7777777)] c2 ?_ (fun v hv=>by obtain⟨i,hi,hv⟩:=hv; exact⟨i,by rw[hR,hi]; rfl,hv⟩) ?_
  ·simp only[ZE,seval,KE,GZ,paO,paL,paI,pxI,itA,nmO,bnO,zAc]
  rintro V ol new ⟨y,c,h2,hc,rfl,rfl,rfl⟩;rw[h2,PR.bd_ok]at hR;simp only[ZE,seval,KE,GZ,paO,paL,paI,pxI,itA,nmO,bnO,zAc];refine zgR (X:=List Num×Nat) (fun _ _=>[]) zat T.length (fun i z=>i<=z.2/\z.2<T.length/\z.1.length=i+1/\R=zDB one T (T.length-i) z.1 z.2)
   (fun _ z=>([(0,.bp 1 0),(1,.clo (.func 224) [] [.bp 96 0,.bp 95 0])],(1999,.gh [.bp 1 0,.bp 95 0,.bp 96 0,.bp 101 0,.ar 103 x.args.length,.ar 104 x.ports.length] gs)::pxI Z T z.2 {x with args:=x.args++z.1})) ([y],c) ⟨Nat.zero_le _,hc,rfl,hR⟩ ?_ ?_ (fun i z hi hI=> ?_)
  ·simp only[ZE,seval]
  ·simp only[ZE,seval,KE,GZ,paO,paL,paI,pxI,itA,nmO,bnO,zAc]
  obtain⟨l,b⟩:=z;obtain⟨I1,I2,I3,I4⟩:=hI;simp only at I1 I2 I3 I4;rw[show T.length-i=T.length-(i+1)+1 by omega]at I4;unfold zDB at I4;have p2:=zBq Z T hT b (⟨#[44]⟩:ByteArray) I2;have l2:=zBj hT I2 (s:=(⟨#[44]⟩:ByteArray)) (k:=3) (by decide);obtain⟨g,hg⟩:=zX (isT T b 3 (⟨#[44]⟩:ByteArray));rw[hg]at p2 l2 I4;cases g with
  | true=>
   rw[if_pos rfl]at I4 p2;have c3:=hO (b+1) (l2 rfl) {x with args:=x.args++l} (by simp only[wab]; omega);rw[hone]at c3;simp only[ZE,seval,KE]at p2;simp only[ZE,seval,KE,GZ,paO,paL,paI,pxI,itA,nmO,bnO,zAc];refine EFn.gV [(1,1),(7777777,7777777)] p2 ?_ ?_
   ·simp only[ZE,seval,GZ,paO,paL,paI,pxI,itA,nmO,bnO,zAc]
   rintro V ol new ⟨rfl,rfl,rfl⟩;simp only[ZE,seval,KE,GZ,paO,paL,paI,pxI,itA,nmO,bnO,zAc];refine EFn.gX [(1,1),(95,95),(96,96),(101,101),(103,103),(104,104),(7777777,7777777)] c3 ?_ (fun v hv=>by obtain⟨i,hi,hv⟩:=hv; exact⟨i,by rw[I4,hi]; rfl,hv⟩) ?_
   ·simp only[ZE,seval,KE,GZ,paO,paL,paI,pxI,itA,nmO,bnO,zAc]
   rintro V ol new ⟨y2,c',h3,hc',rfl,rfl,rfl⟩;rw[h3,PR.bd_ok]at I4;simp only[ZE,seval,KE,GZ,paO,paL,paI,pxI,itA,nmO,bnO,zAc];have hgt:=numP_gt (by rw[<-hone]at h3; exact h3);refine⟨by omega,(l++[y2],c'),⟨by omega,hc',by simp only[wab,wac,wae]; omega,I4⟩,?_,?_⟩
   ·simp only[ZE,seval]
   ·simp only[ZE,seval,KE,waf,GZ,paO,paL,paI,pxI,itA,nmO,bnO,zAc]
  | false=>
   rw[if_neg (by decide)]at I4 p2;have c3:=zBu Z T hT b (⟨#[41]⟩:ByteArray) I2;simp only[ZE,seval,KE]at p2;simp only[ZE,seval,KE]at c3;simp only[ZE,seval,KE,GZ,paO,paL,paI,pxI,itA,nmO,bnO,zAc];refine EFn.gV [(1,1),(7777777,7777777)] p2 ?_ ?_
   ·simp only[ZE,seval,GZ,paO,paL,paI,pxI,itA,nmO,bnO,zAc]
   rintro V ol new ⟨rfl,rfl,rfl⟩;simp only[ZE,seval,KE,GZ,paO,paL,paI,pxI,itA,nmO,bnO,zAc];refine EFn.gX [(1,1),(7777777,7777777)] c3 ?_ (fun v hv=>by obtain⟨i,hi,hv⟩:=hv; exact⟨i,by rw[I4,hi]; rfl,hv⟩) ?_
   ·simp only[ZE,seval,GZ,paO,paL,paI,pxI,itA,nmO,bnO,zAc]
   rintro V ol new ⟨_u,e,h3,he,rfl,rfl,rfl⟩;rw[h3,PR.bd_ok]at I4;simp only[ZE,seval,zAt.eq_def,zAF.eq_def,KE,GZ,paO,paL,paI,pxI,itA,nmO,bnO,zAc];refine⟨[1999],[],?_⟩;simp only[ZE,seval,zAp.eq_1,zAp.eq_2,zAq.eq_1,zAq.eq_2,GZ,zAt.eq_def,zAj.eq_def,ghK.eq_def,zAF.eq_def,zAi.eq_def,hdH.eq_1,hdH.eq_2,kpH.eq_1,kpH.eq_2,hdl.eq_def,zpC.eq_def,zht,AV.core,GZ,paO,paL,paI,pxI,itA,nmO,bnO,zAc];exact⟨l,e,I4,he,rfl⟩
theorem list2_p(Z:GP)(hZ:Z.Ok)(T:List Tok)(hT:TOk T)(a:Nat)(ha:a<T.length)(x:Item)(hx:x.ports.length<=1000):
  PConX Z T 160 [.bp 1 0,.clo (.func 225) [] [.bp 95 0,.bp 96 0]] a x (zDg (zDP T) T a) (fun l=>{x with ports:=x.ports++l}):=by
 refine zBL.srt (zBL.of_eH 1999 [.bp 1 0,.bp 95 0,.bp 96 0,.bp 101 0,.ar 103 x.args.length,.ar 104 x.ports.length] (own:=[]) (fun _=>[]) [0] zat func160 rfl call160 ntmps160 (zle rfl) results160 (zIC Z T a x _ (by simp[AV.noRefs,AV.noRef])) (fun gs=> ?_));have hlen:=hT.len;obtain⟨R,hR⟩: ∃R,R=zDg (zDP T) T a:=⟨_,rfl⟩;rw[<-hR];unfold zDg at hR;obtain⟨one,hone⟩:=zX (zDP T);have hO:=fun b hb y hy=>inst2_p Z hZ T hT b hb y hy;rw[hone]at hR;have c1:=zBu Z T hT a (⟨#[40]⟩:ByteArray) ha;simp only[ZE,seval,KE]at c1;simp only[ZE,seval,KE,GZ,paO,paL,paI,pxI,itA,nmO,bnO,zAc];refine EFn.gX [(1,1),(7777777,7777777)] (c1) ?_ (fun v hv=>by obtain⟨i,hi,hv⟩:=hv; exact⟨i,by rw[hR,hi]; rfl,hv⟩) ?_
 ·simp only[ZE,seval,GZ,paO,paL,paI,pxI,itA,nmO,bnO,zAc]
 rintro V ol new ⟨_u,b,h1,hb,rfl,rfl,rfl⟩;rw[h1,PR.bd_ok]at hR;have p1:=zBq Z T hT b (⟨#[41]⟩:ByteArray) hb;have l1:=zBj hT hb (s:=(⟨#[41]⟩:ByteArray)) (k:=3) (by decide);obtain⟨g,hg⟩:=zX (isT T b 3 (⟨#[41]⟩:ByteArray));rw[hg]at p1 l1 hR;cases g with
 | true=>
  rw[if_pos rfl]at hR p1;simp only[ZE,seval,KE]at p1;simp only[ZE,seval,KE,GZ,paO,paL,paI,pxI,itA,nmO,bnO,zAc];refine EFn.gV [(1,1),(7777777,7777777)] p1 ?_ ?_
  ·simp only[ZE,seval,GZ,paO,paL,paI,pxI,itA,nmO,bnO,zAc]
  rintro V ol new ⟨rfl,rfl,rfl⟩;simp only[ZE,seval,zAt.eq_def,zAF.eq_def,KE,GZ,paO,paL,paI,pxI,itA,nmO,bnO,zAc];refine⟨[1999],[],?_⟩;simp only[ZE,seval,zAp.eq_1,zAp.eq_2,zAq.eq_1,zAq.eq_2,GZ,zAt.eq_def,zAj.eq_def,ghK.eq_def,zAF.eq_def,zAi.eq_def,hdH.eq_1,hdH.eq_2,kpH.eq_1,kpH.eq_2,hdl.eq_def,zpC.eq_def,zht,AV.core,GZ,paO,paL,paI,pxI,itA,nmO,bnO,zAc];exact⟨[],b+1,hR,l1 rfl,by simp only[wag]⟩
 | false=>
  rw[if_neg (by decide)]at hR p1;simp only[ZE,seval,KE]at p1;simp only[ZE,seval,KE,GZ,paO,paL,paI,pxI,itA,nmO,bnO,zAc];refine EFn.gV [(1,1),(7777777,7777777)] p1 ?_ ?_
  ·simp only[ZE,seval,GZ,paO,paL,paI,pxI,itA,nmO,bnO,zAc]
  rintro V ol new ⟨rfl,rfl,rfl⟩;have c2:=hO b hb x (by omega);rw[hone]at c2;simp only[ZE,seval,KE,GZ,paO,paL,paI,pxI,itA,nmO,bnO,zAc];refine EFn.gX [(1,1),(95,95),(96,96),(101,101),(103,103),(104,104),(7777777,7777777)] c2 ?_ (fun v hv=>by obtain⟨i,hi,hv⟩:=hv; exact⟨i,by rw[hR,hi]; rfl,hv⟩) ?_
  ·simp only[ZE,seval,KE,GZ,paO,paL,paI,pxI,itA,nmO,bnO,zAc]
  rintro V ol new ⟨y,c,h2,hc,rfl,rfl,rfl⟩;rw[h2,PR.bd_ok]at hR;simp only[ZE,seval,KE,GZ,paO,paL,paI,pxI,itA,nmO,bnO,zAc];refine zgR (X:=List Bind×Nat) (fun _ _=>[]) zat T.length (fun i z=>i<=z.2/\z.2<T.length/\z.1.length=i+1/\R=zDB one T (T.length-i) z.1 z.2)
   (fun _ z=>([(0,.bp 1 0),(1,.clo (.func 225) [] [.bp 95 0,.bp 96 0])],(1999,.gh [.bp 1 0,.bp 95 0,.bp 96 0,.bp 101 0,.ar 103 x.args.length,.ar 104 x.ports.length] gs)::pxI Z T z.2 {x with ports:=x.ports++z.1})) ([y],c) ⟨Nat.zero_le _,hc,rfl,hR⟩ ?_ ?_ (fun i z hi hI=> ?_)
  ·simp only[ZE,seval]
  ·simp only[ZE,seval,KE,GZ,paO,paL,paI,pxI,itA,nmO,bnO,zAc]
  obtain⟨l,b⟩:=z;obtain⟨I1,I2,I3,I4⟩:=hI;simp only at I1 I2 I3 I4;rw[show T.length-i=T.length-(i+1)+1 by omega]at I4;unfold zDB at I4;have p2:=zBq Z T hT b (⟨#[44]⟩:ByteArray) I2;have l2:=zBj hT I2 (s:=(⟨#[44]⟩:ByteArray)) (k:=3) (by decide);obtain⟨g,hg⟩:=zX (isT T b 3 (⟨#[44]⟩:ByteArray));rw[hg]at p2 l2 I4;cases g with
  | true=>
   rw[if_pos rfl]at I4 p2;have c3:=hO (b+1) (l2 rfl) {x with ports:=x.ports++l} (by simp only[wab]; omega);rw[hone]at c3;simp only[ZE,seval,KE]at p2;simp only[ZE,seval,KE,GZ,paO,paL,paI,pxI,itA,nmO,bnO,zAc];refine EFn.gV [(1,1),(7777777,7777777)] p2 ?_ ?_
   ·simp only[ZE,seval,GZ,paO,paL,paI,pxI,itA,nmO,bnO,zAc]
   rintro V ol new ⟨rfl,rfl,rfl⟩;simp only[ZE,seval,KE,GZ,paO,paL,paI,pxI,itA,nmO,bnO,zAc];refine EFn.gX [(1,1),(95,95),(96,96),(101,101),(103,103),(104,104),(7777777,7777777)] c3 ?_ (fun v hv=>by obtain⟨i,hi,hv⟩:=hv; exact⟨i,by rw[I4,hi]; rfl,hv⟩) ?_
   ·simp only[ZE,seval,KE,GZ,paO,paL,paI,pxI,itA,nmO,bnO,zAc]
   rintro V ol new ⟨y2,c',h3,hc',rfl,rfl,rfl⟩;rw[h3,PR.bd_ok]at I4;simp only[ZE,seval,KE,GZ,paO,paL,paI,pxI,itA,nmO,bnO,zAc];have hgt:=bindP_gt (by rw[<-hone]at h3; exact h3);refine⟨by omega,(l++[y2],c'),⟨by omega,hc',by simp only[wab,wac,wae]; omega,I4⟩,?_,?_⟩
   ·simp only[ZE,seval]
   ·simp only[ZE,seval,KE,waf,GZ,paO,paL,paI,pxI,itA,nmO,bnO,zAc]
  | false=>
   rw[if_neg (by decide)]at I4 p2;have c3:=zBu Z T hT b (⟨#[41]⟩:ByteArray) I2;simp only[ZE,seval,KE]at p2;simp only[ZE,seval,KE]at c3;simp only[ZE,seval,KE,GZ,paO,paL,paI,pxI,itA,nmO,bnO,zAc];refine EFn.gV [(1,1),(7777777,7777777)] p2 ?_ ?_
   ·simp only[ZE,seval,GZ,paO,paL,paI,pxI,itA,nmO,bnO,zAc]
   rintro V ol new ⟨rfl,rfl,rfl⟩;simp only[ZE,seval,KE,GZ,paO,paL,paI,pxI,itA,nmO,bnO,zAc];refine EFn.gX [(1,1),(7777777,7777777)] c3 ?_ (fun v hv=>by obtain⟨i,hi,hv⟩:=hv; exact⟨i,by rw[I4,hi]; rfl,hv⟩) ?_
   ·simp only[ZE,seval,GZ,paO,paL,paI,pxI,itA,nmO,bnO,zAc]
   rintro V ol new ⟨_u,e,h3,he,rfl,rfl,rfl⟩;rw[h3,PR.bd_ok]at I4;simp only[ZE,seval,zAt.eq_def,zAF.eq_def,KE,GZ,paO,paL,paI,pxI,itA,nmO,bnO,zAc];refine⟨[1999],[],?_⟩;simp only[ZE,seval,zAp.eq_1,zAp.eq_2,zAq.eq_1,zAq.eq_2,GZ,zAt.eq_def,zAj.eq_def,ghK.eq_def,zAF.eq_def,zAi.eq_def,hdH.eq_1,hdH.eq_2,kpH.eq_1,kpH.eq_2,hdl.eq_def,zpC.eq_def,zht,AV.core,GZ,paO,paL,paI,pxI,itA,nmO,bnO,zAc];exact⟨l,e,I4,he,rfl⟩
theorem instance_p(Z:GP)(hZ:Z.Ok)(T:List Tok)(hT:TOk T)(a:Nat)(ha:a<T.length)(x:Item)(hx:x.args=[])(hy:x.ports=[]):zHw Z T 210 a x (instP x T a):=by
 refine zBL.srt (zBL.of_eH 1999 [.ar 103 x.args.length,.ar 104 x.ports.length] (own:=[]) (fun i=>if i=2001 then [.flt ⟨[(0,none),(1,none),(2,some [0]),(3,none),(4,none),(5,some [])]⟩ ⟨[],[]⟩]else if i=2003 then [.flt ⟨[(0,none),(1,none),(2,some [0]),(3,none),(4,none),(5,some [])]⟩ ⟨[],[]⟩]else []) [0,1] zat func210 rfl call210 ntmps210 (zle rfl) results210 (zD1 Z T a x _ (by simp[AV.noRefs,AV.noRef])) (fun gs=> ?_));obtain⟨R,hR⟩: ∃R,R=instP x T a:=⟨_,rfl⟩;rw[<-hR];unfold instP at hR;have c1:=zDj Z hZ T hT a ha;simp only[ZE,seval,KE]at c1;simp only[ZE,seval,KE,GZ,paO,paL,paI,pxI,itA,nmO,bnO,zAc];refine⟨by kernel_rfl,?_⟩;refine EFn.gX [(1,1),(7777777,7777777)] (c1) ?_ (fun v hv=>by obtain⟨i,hi,hv⟩:=hv; exact⟨i,by rw[hR,hi]; rfl,hv⟩) ?_
 ·simp only[ZE,seval,GZ,paO,paL,paI,pxI,itA,nmO,bnO,zAc]
 rintro V ol new ⟨s,b,h1,hb,rfl,rfl,rfl⟩;rw[h1,PR.bd_ok]at hR;have c2:=zBu Z T hT b (⟨#[58]⟩:ByteArray) hb;simp only[ZE,seval,KE]at c2;simp only[ZE,seval,KE,GZ,paO,paL,paI,pxI,itA,nmO,bnO,zAc];refine EFn.gX [(1,1),(7777777,7777777)] (c2) ?_ (fun v hv=>by obtain⟨i,hi,hv⟩:=hv; exact⟨i,by rw[hR,hi]; rfl,hv⟩) ?_
 ·simp only[ZE,seval,GZ,paO,paL,paI,pxI,itA,nmO,bnO,zAc]
 rintro V ol new ⟨_u,c,h2,hc,rfl,rfl,rfl⟩;rw[h2,PR.bd_ok]at hR;have c3:=zDj Z hZ T hT c hc;simp only[ZE,seval,KE]at c3;simp only[ZE,seval,KE,GZ,paO,paL,paI,pxI,itA,nmO,bnO,zAc];refine⟨by kernel_rfl,?_⟩;refine EFn.gX [(1,1),(7777777,7777777)] (c3) ?_ (fun v hv=>by obtain⟨i,hi,hv⟩:=hv; exact⟨i,by rw[hR,hi]; rfl,hv⟩) ?_
 ·simp only[ZE,seval,GZ,paO,paL,paI,pxI,itA,nmO,bnO,zAc]
 rintro V ol new ⟨o,d,h3,hd,rfl,rfl,rfl⟩;rw[h3,PR.bd_ok]at hR;have c4:=list1_p Z hZ T hT d hd {x with name:=s,of:=o} (by show x.args.length<=1000; rw[hx]; exact Nat.zero_le _);simp only[ZE,seval,KE,GZ,paO,paL,paI,pxI,itA,nmO,bnO,zAc];refine EFn.gX [(1,1),(95,2),(96,3),(101,101),(103,103),(104,104),(7777777,7777777)] c4 ?_ (fun v hv=>by obtain⟨i,hi,hv⟩:=hv; exact⟨i,by rw[hR,hi]; rfl,hv⟩) ?_
 ·simp only[ZE,seval,KE,GZ,paO,paL,paI,pxI,itA,nmO,bnO,zAc]
 rintro V ol new ⟨l,e,h4,he,rfl,rfl,rfl⟩;rw[h4,PR.bd_ok]at hR;have c5:=list2_p Z hZ T hT e he {x with name:=s,of:=o,args:=x.args++l} (by show x.ports.length<=1000; rw[hy]; exact Nat.zero_le _);simp only[ZE,seval,KE,GZ,paO,paL,paI,pxI,itA,nmO,bnO,zAc];refine EFn.gX [(1,1),(95,2),(96,3),(101,101),(103,103),(104,104),(7777777,7777777)] c5 ?_ (fun v hv=>by obtain⟨i,hi,hv⟩:=hv; exact⟨i,by rw[hR,hi]; rfl,hv⟩) ?_
 ·simp only[ZE,seval,KE,GZ,paO,paL,paI,pxI,itA,nmO,bnO,zAc]
 rintro V ol new ⟨m,f,h5,hf,rfl,rfl,rfl⟩;rw[h5,PR.bd_ok]at hR;simp only[ZE,seval,zAt.eq_def,zAF.eq_def,KE,GZ,paO,paL,paI,pxI,itA,nmO,bnO,zAc];refine⟨[2,3,1999],[],?_⟩;simp only[ZE,seval,zAp.eq_1,zAp.eq_2,zAq.eq_1,zAq.eq_2,GZ,zAt.eq_def,zAj.eq_def,ghK.eq_def,zAF.eq_def,zAi.eq_def,hdH.eq_1,hdH.eq_2,kpH.eq_1,kpH.eq_2,hdl.eq_def,zpC.eq_def,zht,AV.core,GZ,paO,paL,paI,pxI,itA,nmO,bnO,zAc];exact⟨_,f,hR,hf,by rw[hx,hy]; rfl⟩
def rdF(k:Nat):Nat:=
 if k<=2 then 203 else if k=3 then 204 else if k=4 then 205 else if k=5 then 206 else if k=6 then 207
 else if k=7 then 208 else if k=8 then 209 else 210
def eForm(k:Nat):D:=.agg [.lit (.int .i64 k),.clo (.func (rdF k)) [] []]
def formK:List D:=[D.lit (.string (⟨#[105,110]⟩:ByteArray)),D.lit (.string (⟨#[111,117,116]⟩:ByteArray)),D.lit (.string (⟨#[99,104,97,110]⟩:ByteArray)),D.lit (.string (⟨#[114,101,103]⟩:ByteArray)),D.lit (.string (⟨#[119,105,114,101]⟩:ByteArray)),D.lit (.string (⟨#[109,101,109]⟩:ByteArray)),D.lit (.string (⟨#[116,97,107,101]⟩:ByteArray)),D.lit (.string (⟨#[112,117,116]⟩:ByteArray)),D.lit (.string (⟨#[105,110,115,116]⟩:ByteArray))]
def formV:List D:=[.agg [.lit (.int .i64 1),.clo (.func 203) [] []],.agg [.lit (.int .i64 2),.clo (.func 203) [] []],.agg [.lit (.int .i64 3),.clo (.func 204) [] []],.agg [.lit (.int .i64 4),.clo (.func 205) [] []],.agg [.lit (.int .i64 5),.clo (.func 206) [] []],.agg [.lit (.int .i64 6),.clo (.func 207) [] []],.agg [.lit (.int .i64 7),.clo (.func 208) [] []],.agg [.lit (.int .i64 8),.clo (.func 209) [] []],.agg [.lit (.int .i64 9),.clo (.func 210) [] []]]
theorem form_get(s:Bts):zjZ formK formV (D.lit (.string s))=(zIg.lookup s).map eForm:=zCS eForm zIg s
theorem forms_c: ∃bs c,FnP prog 163 [] (.d (.mp formK formV bs c)) []:=by
 refine⟨?bs,?c,FnP.of_eC (own:=[]) (fun _=>[]) zat func163 rfl call163 ntmps163 (zle rfl) results163 (fun hok=> ?g)⟩
 case g=>
  have i0:zgQ [] (D.lit (.string (⟨#[105,110]⟩:ByteArray)))=[D.lit (.string (⟨#[105,110]⟩:ByteArray))]:=zdt (by simp);have j0: ∀vs v,zjk [] vs (D.lit (.string (⟨#[105,110]⟩:ByteArray))) v=vs++[v]:=fun vs v=>zdu (by simp);have k0:zd3 prog 9 (D.lit (.string (⟨#[105,110]⟩:ByteArray))):=zB5 (by decide);have i1:zgQ [D.lit (.string (⟨#[105,110]⟩:ByteArray))] (D.lit (.string (⟨#[111,117,116]⟩:ByteArray)))=[D.lit (.string (⟨#[105,110]⟩:ByteArray)),D.lit (.string (⟨#[111,117,116]⟩:ByteArray))]:=zdt (by simp);have j1: ∀vs v,zjk [D.lit (.string (⟨#[105,110]⟩:ByteArray))] vs (D.lit (.string (⟨#[111,117,116]⟩:ByteArray))) v=vs++[v]:=fun vs v=>zdu (by simp);have k1:zd3 prog 9 (D.lit (.string (⟨#[111,117,116]⟩:ByteArray))):=zB5 (by decide);have i2:zgQ [D.lit (.string (⟨#[105,110]⟩:ByteArray)),D.lit (.string (⟨#[111,117,116]⟩:ByteArray))] (D.lit (.string (⟨#[99,104,97,110]⟩:ByteArray)))=[D.lit (.string (⟨#[105,110]⟩:ByteArray)),D.lit (.string (⟨#[111,117,116]⟩:ByteArray)),D.lit (.string (⟨#[99,104,97,110]⟩:ByteArray))]:=zdt (by simp);have j2: ∀vs v,zjk [D.lit (.string (⟨#[105,110]⟩:ByteArray)),D.lit (.string (⟨#[111,117,116]⟩:ByteArray))] vs (D.lit (.string (⟨#[99,104,97,110]⟩:ByteArray))) v=vs++[v]:=fun vs v=>zdu (by simp);have k2:zd3 prog 9 (D.lit (.string (⟨#[99,104,97,110]⟩:ByteArray))):=zB5 (by decide);have i3:zgQ [D.lit (.string (⟨#[105,110]⟩:ByteArray)),D.lit (.string (⟨#[111,117,116]⟩:ByteArray)),D.lit (.string (⟨#[99,104,97,110]⟩:ByteArray))] (D.lit (.string (⟨#[114,101,103]⟩:ByteArray)))=[D.lit (.string (⟨#[105,110]⟩:ByteArray)),D.lit (.string (⟨#[111,117,116]⟩:ByteArray)),D.lit (.string (⟨#[99,104,97,110]⟩:ByteArray)),D.lit (.string (⟨#[114,101,103]⟩:ByteArray))]:=zdt (by simp);have j3: ∀vs v,zjk [D.lit (.string (⟨#[105,110]⟩:ByteArray)),D.lit (.string (⟨#[111,117,116]⟩:ByteArray)),D.lit (.string (⟨#[99,104,97,110]⟩:ByteArray))] vs (D.lit (.string (⟨#[114,101,103]⟩:ByteArray))) v=vs++[v]:=fun vs v=>zdu (by simp);have k3:zd3 prog 9 (D.lit (.string (⟨#[114,101,103]⟩:ByteArray))):=zB5 (by decide);have i4:zgQ [D.lit (.string (⟨#[105,110]⟩:ByteArray)),D.lit (.string (⟨#[111,117,116]⟩:ByteArray)),D.lit (.string (⟨#[99,104,97,110]⟩:ByteArray)),D.lit (.string (⟨#[114,101,103]⟩:ByteArray))] (D.lit (.string (⟨#[119,105,114,101]⟩:ByteArray)))=[D.lit (.string (⟨#[105,110]⟩:ByteArray)),D.lit (.string (⟨#[111,117,116]⟩:ByteArray)),D.lit (.string (⟨#[99,104,97,110]⟩:ByteArray)),D.lit (.string (⟨#[114,101,103]⟩:ByteArray)),D.lit (.string (⟨#[119,105,114,101]⟩:ByteArray))]:=zdt (by simp);have j4: ∀vs v,zjk [D.lit (.string (⟨#[105,110]⟩:ByteArray)),D.lit (.string (⟨#[111,117,116]⟩:ByteArray)),D.lit (.string (⟨#[99,104,97,110]⟩:ByteArray)),D.lit (.string (⟨#[114,101,103]⟩:ByteArray))] vs (D.lit (.string (⟨#[119,105,114,101]⟩:ByteArray))) v=vs++[v]:=fun vs v=>zdu (by simp);have k4:zd3 prog 9 (D.lit (.string (⟨#[119,105,114,101]⟩:ByteArray))):=zB5 (by decide);have i5:zgQ [D.lit (.string (⟨#[105,110]⟩:ByteArray)),D.lit (.string (⟨#[111,117,116]⟩:ByteArray)),D.lit (.string (⟨#[99,104,97,110]⟩:ByteArray)),D.lit (.string (⟨#[114,101,103]⟩:ByteArray)),D.lit (.string (⟨#[119,105,114,101]⟩:ByteArray))] (D.lit (.string (⟨#[109,101,109]⟩:ByteArray)))=[D.lit (.string (⟨#[105,110]⟩:ByteArray)),D.lit (.string (⟨#[111,117,116]⟩:ByteArray)),D.lit (.string (⟨#[99,104,97,110]⟩:ByteArray)),D.lit (.string (⟨#[114,101,103]⟩:ByteArray)),D.lit (.string (⟨#[119,105,114,101]⟩:ByteArray)),D.lit (.string (⟨#[109,101,109]⟩:ByteArray))]:=zdt (by simp);have j5: ∀vs v,zjk [D.lit (.string (⟨#[105,110]⟩:ByteArray)),D.lit (.string (⟨#[111,117,116]⟩:ByteArray)),D.lit (.string (⟨#[99,104,97,110]⟩:ByteArray)),D.lit (.string (⟨#[114,101,103]⟩:ByteArray)),D.lit (.string (⟨#[119,105,114,101]⟩:ByteArray))] vs (D.lit (.string (⟨#[109,101,109]⟩:ByteArray))) v=vs++[v]:=fun vs v=>zdu (by simp);have k5:zd3 prog 9 (D.lit (.string (⟨#[109,101,109]⟩:ByteArray))):=zB5 (by decide);have i6:zgQ [D.lit (.string (⟨#[105,110]⟩:ByteArray)),D.lit (.string (⟨#[111,117,116]⟩:ByteArray)),D.lit (.string (⟨#[99,104,97,110]⟩:ByteArray)),D.lit (.string (⟨#[114,101,103]⟩:ByteArray)),D.lit (.string (⟨#[119,105,114,101]⟩:ByteArray)),D.lit (.string (⟨#[109,101,109]⟩:ByteArray))] (D.lit (.string (⟨#[116,97,107,101]⟩:ByteArray)))=[D.lit (.string (⟨#[105,110]⟩:ByteArray)),D.lit (.string (⟨#[111,117,116]⟩:ByteArray)),D.lit (.string (⟨#[99,104,97,110]⟩:ByteArray)),D.lit (.string (⟨#[114,101,103]⟩:ByteArray)),D.lit (.string (⟨#[119,105,114,101]⟩:ByteArray)),D.lit (.string (⟨#[109,101,109]⟩:ByteArray)),D.lit (.string (⟨#[116,97,107,101]⟩:ByteArray))]:=zdt (by simp);have j6: ∀vs v,zjk [D.lit (.string (⟨#[105,110]⟩:ByteArray)),D.lit (.string (⟨#[111,117,116]⟩:ByteArray)),D.lit (.string (⟨#[99,104,97,110]⟩:ByteArray)),D.lit (.string (⟨#[114,101,103]⟩:ByteArray)),D.lit (.string (⟨#[119,105,114,101]⟩:ByteArray)),D.lit (.string (⟨#[109,101,109]⟩:ByteArray))] vs (D.lit (.string (⟨#[116,97,107,101]⟩:ByteArray))) v=vs++[v]:=fun vs v=>zdu (by simp);have k6:zd3 prog 9 (D.lit (.string (⟨#[116,97,107,101]⟩:ByteArray))):=zB5 (by decide);have i7:zgQ [D.lit (.string (⟨#[105,110]⟩:ByteArray)),D.lit (.string (⟨#[111,117,116]⟩:ByteArray)),D.lit (.string (⟨#[99,104,97,110]⟩:ByteArray)),D.lit (.string (⟨#[114,101,103]⟩:ByteArray)),D.lit (.string (⟨#[119,105,114,101]⟩:ByteArray)),D.lit (.string (⟨#[109,101,109]⟩:ByteArray)),D.lit (.string (⟨#[116,97,107,101]⟩:ByteArray))] (D.lit (.string (⟨#[112,117,116]⟩:ByteArray)))=[D.lit (.string (⟨#[105,110]⟩:ByteArray)),D.lit (.string (⟨#[111,117,116]⟩:ByteArray)),D.lit (.string (⟨#[99,104,97,110]⟩:ByteArray)),D.lit (.string (⟨#[114,101,103]⟩:ByteArray)),D.lit (.string (⟨#[119,105,114,101]⟩:ByteArray)),D.lit (.string (⟨#[109,101,109]⟩:ByteArray)),D.lit (.string (⟨#[116,97,107,101]⟩:ByteArray)),D.lit (.string (⟨#[112,117,116]⟩:ByteArray))]:=zdt (by simp);have j7: ∀vs v,zjk [D.lit (.string (⟨#[105,110]⟩:ByteArray)),D.lit (.string (⟨#[111,117,116]⟩:ByteArray)),D.lit (.string (⟨#[99,104,97,110]⟩:ByteArray)),D.lit (.string (⟨#[114,101,103]⟩:ByteArray)),D.lit (.string (⟨#[119,105,114,101]⟩:ByteArray)),D.lit (.string (⟨#[109,101,109]⟩:ByteArray)),D.lit (.string (⟨#[116,97,107,101]⟩:ByteArray))] vs (D.lit (.string (⟨#[112,117,116]⟩:ByteArray))) v=vs++[v]:=fun vs v=>zdu (by simp);have k7:zd3 prog 9 (D.lit (.string (⟨#[112,117,116]⟩:ByteArray))):=zB5 (by decide);have i8:zgQ [D.lit (.string (⟨#[105,110]⟩:ByteArray)),D.lit (.string (⟨#[111,117,116]⟩:ByteArray)),D.lit (.string (⟨#[99,104,97,110]⟩:ByteArray)),D.lit (.string (⟨#[114,101,103]⟩:ByteArray)),D.lit (.string (⟨#[119,105,114,101]⟩:ByteArray)),D.lit (.string (⟨#[109,101,109]⟩:ByteArray)),D.lit (.string (⟨#[116,97,107,101]⟩:ByteArray)),D.lit (.string (⟨#[112,117,116]⟩:ByteArray))] (D.lit (.string (⟨#[105,110,115,116]⟩:ByteArray)))=[D.lit (.string (⟨#[105,110]⟩:ByteArray)),D.lit (.string (⟨#[111,117,116]⟩:ByteArray)),D.lit (.string (⟨#[99,104,97,110]⟩:ByteArray)),D.lit (.string (⟨#[114,101,103]⟩:ByteArray)),D.lit (.string (⟨#[119,105,114,101]⟩:ByteArray)),D.lit (.string (⟨#[109,101,109]⟩:ByteArray)),D.lit (.string (⟨#[116,97,107,101]⟩:ByteArray)),D.lit (.string (⟨#[112,117,116]⟩:ByteArray)),D.lit (.string (⟨#[105,110,115,116]⟩:ByteArray))]:=zdt (by simp);have j8: ∀vs v,zjk [D.lit (.string (⟨#[105,110]⟩:ByteArray)),D.lit (.string (⟨#[111,117,116]⟩:ByteArray)),D.lit (.string (⟨#[99,104,97,110]⟩:ByteArray)),D.lit (.string (⟨#[114,101,103]⟩:ByteArray)),D.lit (.string (⟨#[119,105,114,101]⟩:ByteArray)),D.lit (.string (⟨#[109,101,109]⟩:ByteArray)),D.lit (.string (⟨#[116,97,107,101]⟩:ByteArray)),D.lit (.string (⟨#[112,117,116]⟩:ByteArray))] vs (D.lit (.string (⟨#[105,110,115,116]⟩:ByteArray))) v=vs++[v]:=fun vs v=>zdu (by simp);have k8:zd3 prog 9 (D.lit (.string (⟨#[105,110,115,116]⟩:ByteArray))):=zB5 (by decide);simp only[ZE,seval,i0,j0,k0,i1,j1,k1,i2,j2,k2,i3,j3,k3,i4,j4,k4,i5,j5,k5,i6,j6,k6,i7,j7,k7,i8,j8,k8,zal,wah,wai,or_imp,forall_and];exact rfl
def pxM(Z:GP)(T:List Tok)(a:Nat)(s:Bts)(l:List Bts):OL:=[(90,paO T a),(95,.box [.bp 90 0]),(96,.box [.d (eSb s),.d (eSb e0),.ar 97 l.length,.nils]),(97,.arr 9 1 .flat (l.map fun s=>[eSb s])),(7777777,Z.o)]
theorem pm_free(Z:GP)(T:List Tok)(a:Nat)(s:Bts)(l:List Bts)(args:List AV)(ha:AV.noRefs [1999] args):
  (zyk 1999 (pxM Z T a s l)/\AV.noRefs [1999] args)/\zCV (om (pxM Z T a s l)) [.bp 90 0,.bp 95 0,.bp 96 0,.ar 97 l.length]/\AV.noRefs [1999] [.bp 90 0,.bp 95 0,.bp 96 0,.ar 97 l.length]:=by
 simp[pxM,paO,GZ,zyk,AO.noRef,AV.noRefs,AV.noRef,zCV,om,ha]
def PConM{α:Type}(Z:GP)(T:List Tok)(f:Nat)(args:List AV)(a:Nat)(s:Bts)(l:List Bts)(R:PR α)(up:α->List Bts):Prop:=
 zBL prog f args (pxM Z T a s l) (fun V ol new=> ∃y b,R= .ok (y,b)/\b<T.length/\V= .tup []/\ol=pxM Z T b s (up y)/\new=[]) (fun v=> ∃i,R= .error i/\v=zCU i)
theorem mod1_p(Z:GP)(hZ:Z.Ok)(T:List Tok)(hT:TOk T)(a:Nat)(ha:a<T.length)(s:Bts)(l:List Bts)(hl:l.length<=10000000):
  PConM Z T 161 [.bp 96 0,.bp 95 0] a s l (zBE T a) (fun n=>l++[n]):=by
 refine zBL.srt (zBL.of_eH 1999 [.bp 90 0,.bp 95 0,.bp 96 0,.ar 97 l.length] (own:=[]) (fun i=>if i=2000 then [.flt ⟨[(0,none),(1,none),(2,none),(3,some [0,1]),(4,some [0,1]),(5,some []),(6,none),(7,some [])]⟩ ⟨[],[]⟩]else []) [0,1] zat func161 rfl call161 ntmps161 (zle rfl) results161 (pm_free Z T a s l _ (by simp[AV.noRefs,AV.noRef])) (fun gs=> ?_));obtain⟨R,hR⟩: ∃R,R=zBE T a:=⟨_,rfl⟩;have c1:=zDj Z hZ T hT a ha;rw[<-hR]at c1 ⊢;simp only[ZE,seval,KE]at c1;simp only[ZE,seval,KE,GZ,paO,paL,pxM,zAc];refine⟨by kernel_rfl,?_⟩;refine EFn.gX [(1,90),(7777777,7777777)] c1 ?_ (fun v hv=>by exact hv) ?_
 ·simp only[ZE,seval,GZ,paO,paL,pxM,zAc]
 rintro V ol new ⟨n,b,h1,hb,rfl,rfl,rfl⟩;have hlen:l.length+1=(l++[n]).length :=by simp
 have hmap:(l.map fun s=>[D.lit (.string s)])++[[D.lit (.string n)]]=(l++[n]).map fun s=>[D.lit (.string s)]:=by rw[wad]; rfl
 simp only[ZE,seval,KE,hmap,waa,GZ,paO,paL,pxM,zAc];refine⟨⟨by omega,by omega⟩,hlen,?_⟩;simp only[ZE,seval,zAt.eq_def,zAF.eq_def,KE,GZ,paO,paL,pxM,zAc];refine⟨[4,6,1999],[],?_⟩;simp only[ZE,seval,zAp.eq_1,zAp.eq_2,zAq.eq_1,zAq.eq_2,GZ,zAt.eq_def,zAj.eq_def,ghK.eq_def,zAF.eq_def,zAi.eq_def,hdH.eq_1,hdH.eq_2,kpH.eq_1,kpH.eq_2,hdl.eq_def,zpC.eq_def,zht,AV.core,GZ,paO,paL,pxM,zAc];exact⟨n,b,h1,hb,by simp only[wab,wac,wae,Nat.zero_add]⟩
theorem list3_p(Z:GP)(hZ:Z.Ok)(T:List Tok)(hT:TOk T)(a:Nat)(ha:a<T.length)(s:Bts)(l:List Bts)(hx:l.length<=1000):
  PConM Z T 160 [.bp 90 0,.clo (.func 161) [] [.bp 96 0,.bp 95 0]] a s l (zDg (zBE T) T a) (fun m=>l++m):=by
 refine zBL.srt (zBL.of_eH 1999 [.bp 90 0,.bp 95 0,.bp 96 0,.ar 97 l.length] (own:=[]) (fun _=>[]) [0] zat func160 rfl call160 ntmps160 (zle rfl) results160 (pm_free Z T a s l _ (by simp[AV.noRefs,AV.noRef])) (fun gs=> ?_));have hlen:=hT.len;obtain⟨R,hR⟩: ∃R,R=zDg (zBE T) T a:=⟨_,rfl⟩;rw[<-hR];unfold zDg at hR;obtain⟨one,hone⟩:=zX (zBE T);have hO:=fun b hb y hy=>mod1_p Z hZ T hT b hb s y hy;rw[hone]at hR;have c1:=zBu Z T hT a (⟨#[40]⟩:ByteArray) ha;simp only[ZE,seval,KE]at c1;simp only[ZE,seval,KE,GZ,paO,paL,pxM,zAc];refine EFn.gX [(1,90),(7777777,7777777)] c1 ?_ (fun v hv=>by obtain⟨i,hi,hv⟩:=hv; exact⟨i,by rw[hR,hi]; rfl,hv⟩) ?_
 ·simp only[ZE,seval,GZ,paO,paL,pxM,zAc]
 rintro V ol new ⟨_u,b,h1,hb,rfl,rfl,rfl⟩;rw[h1,PR.bd_ok]at hR;have p1:=zBq Z T hT b (⟨#[41]⟩:ByteArray) hb;have l1:=zBj hT hb (s:=(⟨#[41]⟩:ByteArray)) (k:=3) (by decide);obtain⟨g,hg⟩:=zX (isT T b 3 (⟨#[41]⟩:ByteArray));rw[hg]at p1 l1 hR;cases g with
 | true=>
  rw[if_pos rfl]at hR p1;simp only[ZE,seval,KE]at p1;simp only[ZE,seval,KE,GZ,paO,paL,pxM,zAc];refine EFn.gV [(1,90),(7777777,7777777)] p1 ?_ ?_
  ·simp only[ZE,seval,GZ,paO,paL,pxM,zAc]
  rintro V ol new ⟨rfl,rfl,rfl⟩;simp only[ZE,seval,zAt.eq_def,zAF.eq_def,KE,GZ,paO,paL,pxM,zAc];refine⟨[1999],[],?_⟩;simp only[ZE,seval,zAp.eq_1,zAp.eq_2,zAq.eq_1,zAq.eq_2,GZ,zAt.eq_def,zAj.eq_def,ghK.eq_def,zAF.eq_def,zAi.eq_def,hdH.eq_1,hdH.eq_2,kpH.eq_1,kpH.eq_2,hdl.eq_def,zpC.eq_def,zht,AV.core,GZ,paO,paL,pxM,zAc];exact⟨[],b+1,hR,l1 rfl,by simp only[wag]⟩
 | false=>
  rw[if_neg (by decide)]at hR p1;simp only[ZE,seval,KE]at p1;simp only[ZE,seval,KE,GZ,paO,paL,pxM,zAc];refine EFn.gV [(1,90),(7777777,7777777)] p1 ?_ ?_
  ·simp only[ZE,seval,GZ,paO,paL,pxM,zAc]
  rintro V ol new ⟨rfl,rfl,rfl⟩;have c2:=hO b hb l (by omega);rw[hone]at c2;simp only[ZE,seval,KE,GZ,paO,paL,pxM,zAc];refine EFn.gX [(90,90),(95,95),(96,96),(97,97),(7777777,7777777)] c2 ?_ (fun v hv=>by obtain⟨i,hi,hv⟩:=hv; exact⟨i,by rw[hR,hi]; rfl,hv⟩) ?_
  ·simp only[ZE,seval,KE,GZ,paO,paL,pxM,zAc]
  rintro V ol new ⟨y,c,h2,hc,rfl,rfl,rfl⟩;rw[h2,PR.bd_ok]at hR;simp only[ZE,seval,KE,GZ,paO,paL,pxM,zAc];refine zgR (X:=List Bts×Nat) (fun _ _=>[]) zat T.length (fun i z=>i<=z.2/\z.2<T.length/\z.1.length=i+1/\R=zDB one T (T.length-i) z.1 z.2)
   (fun _ z=>([(0,.bp 90 0),(1,.clo (.func 161) [] [.bp 96 0,.bp 95 0])],(1999,.gh [.bp 90 0,.bp 95 0,.bp 96 0,.ar 97 l.length] gs)::pxM Z T z.2 s (l++z.1))) ([y],c) ⟨Nat.zero_le _,hc,rfl,hR⟩ ?_ ?_ (fun i z hi hI=> ?_)
  ·simp only[ZE,seval]
  ·simp only[ZE,seval,KE,GZ,paO,paL,pxM,zAc]
  obtain⟨m,b⟩:=z;obtain⟨I1,I2,I3,I4⟩:=hI;simp only at I1 I2 I3 I4;rw[show T.length-i=T.length-(i+1)+1 by omega]at I4;unfold zDB at I4;have p2:=zBq Z T hT b (⟨#[44]⟩:ByteArray) I2;have l2:=zBj hT I2 (s:=(⟨#[44]⟩:ByteArray)) (k:=3) (by decide);obtain⟨g,hg⟩:=zX (isT T b 3 (⟨#[44]⟩:ByteArray));rw[hg]at p2 l2 I4;cases g with
  | true=>
   rw[if_pos rfl]at I4 p2;have c3:=hO (b+1) (l2 rfl) (l++m) (by simp only[wab]; omega);rw[hone]at c3;simp only[ZE,seval,KE]at p2;simp only[ZE,seval,KE,GZ,paO,paL,pxM,zAc];refine EFn.gV [(1,90),(7777777,7777777)] p2 ?_ ?_
   ·simp only[ZE,seval,GZ,paO,paL,pxM,zAc]
   rintro V ol new ⟨rfl,rfl,rfl⟩;simp only[ZE,seval,KE,GZ,paO,paL,pxM,zAc];refine EFn.gX [(90,90),(95,95),(96,96),(97,97),(7777777,7777777)] c3 ?_ (fun v hv=>by obtain⟨i,hi,hv⟩:=hv; exact⟨i,by rw[I4,hi]; rfl,hv⟩) ?_
   ·simp only[ZE,seval,KE,GZ,paO,paL,pxM,zAc]
   rintro V ol new ⟨y2,c',h3,hc',rfl,rfl,rfl⟩;rw[h3,PR.bd_ok]at I4;simp only[ZE,seval,KE,GZ,paO,paL,pxM,zAc];have hgt:=zGI (by rw[<-hone]at h3; exact h3);refine⟨by omega,(m++[y2],c'),⟨by omega,hc',by simp only[wab,wac,wae]; omega,I4⟩,?_,?_⟩
   ·simp only[ZE,seval]
   ·simp only[ZE,seval,KE,waf,GZ,paO,paL,pxM,zAc]
  | false=>
   rw[if_neg (by decide)]at I4 p2;have c3:=zBu Z T hT b (⟨#[41]⟩:ByteArray) I2;simp only[ZE,seval,KE]at p2;simp only[ZE,seval,KE]at c3;simp only[ZE,seval,KE,GZ,paO,paL,pxM,zAc];refine EFn.gV [(1,90),(7777777,7777777)] p2 ?_ ?_
   ·simp only[ZE,seval,GZ,paO,paL,pxM,zAc]
   rintro V ol new ⟨rfl,rfl,rfl⟩;simp only[ZE,seval,KE,GZ,paO,paL,pxM,zAc];refine EFn.gX [(1,90),(7777777,7777777)] c3 ?_ (fun v hv=>by obtain⟨i,hi,hv⟩:=hv; exact⟨i,by rw[I4,hi]; rfl,hv⟩) ?_
   ·simp only[ZE,seval,GZ,paO,paL,pxM,zAc]
   rintro V ol new ⟨_u,e,h3,he,rfl,rfl,rfl⟩;rw[h3,PR.bd_ok]at I4;simp only[ZE,seval,zAt.eq_def,zAF.eq_def,KE,GZ,paO,paL,pxM,zAc];refine⟨[1999],[],?_⟩;simp only[ZE,seval,zAp.eq_1,zAp.eq_2,zAq.eq_1,zAq.eq_2,GZ,zAt.eq_def,zAj.eq_def,ghK.eq_def,zAF.eq_def,zAi.eq_def,hdH.eq_1,hdH.eq_2,kpH.eq_1,kpH.eq_2,hdl.eq_def,zpC.eq_def,zht,AV.core,GZ,paO,paL,pxM,zAc];exact⟨m,e,I4,he,rfl⟩
set_option maxHeartbeats 8000000
theorem e0E:e0=wak:=rfl
theorem zEV:x0.op=0:=rfl
theorem zCb:x0.name=wak:=rfl
theorem x0_k:x0.k=n0:=rfl
theorem x0_w:x0.w=n0:=rfl
theorem zCa:x0.args=[]:=rfl
def paM(Z:GP)(T:List Tok)(a:Nat):OL:=[(90,paO T a),(7777777,Z.o)]
theorem pmm_free(Z:GP)(T:List Tok)(a:Nat)(args:List AV)(ha:AV.noRefs [1999] args):
  (zyk 1999 (paM Z T a)/\AV.noRefs [1999] args)/\zCV (om (paM Z T a)) []/\AV.noRefs [1999] []:=by
 simp[paM,paO,GZ,zyk,AO.noRef,AV.noRefs,AV.noRef,zCV,ha]
theorem zBJ(x:Item):zaK x=[eI x.kind,eSb x.name,eI x.width.n,eSb x.width.p,eI x.depth.n,eSb x.depth.p,eI x.init.n,eSb x.init.p,
  eI x.a.op,eSb x.a.name,eI x.a.k.n,eSb x.a.k.p,eI x.a.w.n,eSb x.a.w.p,.sl (x.a.args.map zbx),
  eI x.b.op,eSb x.b.name,eI x.b.k.n,eSb x.b.k.p,eI x.b.w.n,eSb x.b.w.p,.sl (x.b.args.map zbx),
  eI x.c.op,eSb x.c.name,eI x.c.k.n,eSb x.c.k.p,eI x.c.w.n,eSb x.c.w.p,.sl (x.c.args.map zbx),
  eI x.rule.kind,eSb x.rule.from',eI x.rule.n,eSb x.of,.sl (x.args.map zgL),.sl (x.ports.map zjO)]:=by
 unfold zaK;rw[zb6,zb6,zb6];rfl
theorem rd_p(Z:GP)(hZ:Z.Ok)(T:List Tok)(hT:TOk T)(k:Nat)(hk:1<=k/\k<=9)(b:Nat)(hb:b<T.length):zHw Z T (rdF k) b (zBg k) (zHh k T b):=by
 rcases(show k=1\/k=2\/k=3\/k=4\/k=5\/k=6\/k=7\/k=8\/k=9 by omega)with rfl | rfl | rfl | rfl | rfl | rfl | rfl | rfl | rfl
 ·exact zHr Z hZ T hT b hb _
 ·exact zHr Z hZ T hT b hb _
 ·exact channel_p Z hZ T hT b hb _
 ·exact register_p Z hZ T hT b hb _
 ·exact wire_p Z hZ T hT b hb _
 ·exact memory_p Z hZ T hT b hb _
 ·exact take_p Z hZ T hT b hb _
 ·exact put_p Z hZ T hT b hb _
 ·exact instance_p Z hZ T hT b hb _ rfl rfl
theorem itemL_le{s:Bts}{k:Nat}(h:zIg.lookup s=some k):1<=k/\k<=9:=by
 unfold zIg at h;simp only[List.lookup_cons,List.lookup_nil]at h
 repeat' split at h
 all_goals first | (cases h; simp) | cases h
def eM1(m:Module):AV:=.d (.agg (zaC m))
theorem module_p(Z:GP)(hZ:Z.Ok)(T:List Tok)(hT:TOk T)(a:Nat)(ha:a<T.length):
  zBL prog 107 [.bp 90 0] (paM Z T a) (fun V ol new=> ∃m b,zBC T a= .ok (m,b)/\b<T.length/\V=eM1 m/\ol=paM Z T b/\new=[]) (fun v=> ∃i,zBC T a= .error i/\v=zCU i):=by
 refine zBL.srt (zBL.of_eH 1999 [] (own:=[]) (fun i=>if i=2 then [.adB 3 2 97 9 1]else if i=4 then [.frz 97,.adB 3 3 98 114 35]else if i=2009 then [.flt ⟨[(0,none),(1,none),(2,none),(3,none),(4,none),(5,none),(6,none),(7,none),(8,none),(9,none),(11,some [])]⟩ ⟨[10],[(11,[10])]⟩]else if i=14 then [.adB 8 14 1000 108 7,.frz 1000,.adB 8 21 1001 108 7,.frz 1001,.adB 8 28 1002 108 7,.frz 1002,.adB 8 33 1003 105 2,.adB 8 34 1004 230 2]else if i=1017 then [.frz 1003,.frz 1004]else if i=1018 then [.frz 98]else chL i) [0] zat func107 rfl call107 ntmps107 (zle rfl) results107 (pmm_free Z T a _ (by simp[AV.noRefs,AV.noRef])) (fun gs=> ?_));have hlen:=hT.len;obtain⟨bs,cl,hfo⟩:=forms_c;obtain⟨R,hR⟩: ∃R,R=zBC T a:=⟨_,rfl⟩;rw[<-hR];unfold zBC at hR;have c1:=word_p Z T hT a (⟨#[109,111,100,117,108,101]⟩:ByteArray) ha;simp only[ZE,seval,KE]at c1;simp only[ZE,seval,KE,GZ,paO,paL,paM,pxM,zAc];refine EFn.gX [(1,90),(7777777,7777777)] c1 ?_ (fun v hv=>by obtain⟨i,hi,hv⟩:=hv; exact⟨i,by rw[hR,hi]; rfl,hv⟩) ?_
 ·simp only[ZE,seval,GZ,paO,paL,paM,pxM,zAc]
 rintro V ol new ⟨_u,b,h1,hb,rfl,rfl,rfl⟩;rw[h1,PR.bd_ok]at hR;have c2:=zDj Z hZ T hT b hb;simp only[ZE,seval,KE]at c2;simp only[ZE,seval,KE,GZ,paO,paL,paM,pxM,zAc];refine EFn.gX [(1,90),(7777777,7777777)] c2 ?_ (fun v hv=>by obtain⟨i,hi,hv⟩:=hv; exact⟨i,by rw[hR,hi]; rfl,hv⟩) ?_
 ·simp only[ZE,seval,GZ,paO,paL,paM,pxM,zAc]
 rintro V ol new ⟨s,c,h2,hc,rfl,rfl,rfl⟩;rw[h2,PR.bd_ok]at hR;have c3:=list3_p Z hZ T hT c hc s [] (by simp);simp only[ZE,seval,KE,GZ,paO,paL,paM,pxM,zAc];refine EFn.gX [(90,90),(95,1),(96,3),(97,97),(7777777,7777777)] c3 ?_ (fun v hv=>by obtain⟨i,hi,hv⟩:=hv; exact⟨i,by rw[hR,hi]; rfl,hv⟩) ?_
 ·simp only[ZE,seval,KE,e0E,List.map_nil,wae,GZ,paO,paL,paM,pxM,zAc]
 rintro V ol new ⟨l,d,h3,hd,rfl,rfl,rfl⟩;rw[h3,PR.bd_ok]at hR;have c4:=zBu Z T hT d (⟨#[64]⟩:ByteArray) hd;simp only[ZE,seval,KE]at c4;simp only[ZE,seval,KE,e0E,wah,GZ,paO,paL,paM,pxM,zAc];refine EFn.gX [(1,90),(7777777,7777777)] c4 ?_ (fun v hv=>by obtain⟨i,hi,hv⟩:=hv; exact⟨i,by rw[hR,hi]; rfl,hv⟩) ?_
 ·simp only[ZE,seval,GZ,paO,paL,paM,pxM,zAc]
 rintro V ol new ⟨_u,e,h4,he,rfl,rfl,rfl⟩;rw[h4,PR.bd_ok]at hR;have c5:=zDj Z hZ T hT e he;simp only[ZE,seval,KE]at c5;simp only[ZE,seval,KE,waa,GZ,paO,paL,paM,pxM,zAc];refine EFn.gX [(1,90),(7777777,7777777)] c5 ?_ (fun v hv=>by obtain⟨i,hi,hv⟩:=hv; exact⟨i,by rw[hR,hi]; rfl,hv⟩) ?_
 ·simp only[ZE,seval,GZ,paO,paL,paM,pxM,zAc]
 rintro V ol new ⟨k,f,h5,hf,rfl,rfl,rfl⟩;rw[h5,PR.bd_ok]at hR;have c6:=zBu Z T hT f (⟨#[123]⟩:ByteArray) hf;simp only[ZE,seval,KE]at c6;simp only[ZE,seval,KE,GZ,paO,paL,paM,pxM,zAc];refine EFn.gX [(1,90),(7777777,7777777)] c6 ?_ (fun v hv=>by obtain⟨i,hi,hv⟩:=hv; exact⟨i,by rw[hR,hi]; rfl,hv⟩) ?_
 ·simp only[ZE,seval,GZ,paO,paL,paM,pxM,zAc]
 rintro V ol new ⟨_u,g,h6,hg,rfl,rfl,rfl⟩;rw[h6,PR.bd_ok]at hR;simp only[ZE,seval,KE,GZ,paO,paL,paM,pxM,zAc];refine EFn.p ?_;simp only[ZE,seval];refine zar.i (hfo) ?_;simp only[ZE,seval,KE,GZ,paO,paL,paM,pxM,zAc];have kf:(∀y∈formK,zd3 prog 9 y)=True:=eq_true (fun y hy=>by
  unfold formK at hy;simp only[List.mem_cons,List.not_mem_nil,or_false]at hy;rcases hy with rfl | rfl | rfl | rfl | rfl | rfl | rfl | rfl | rfl <;> exact zB5 (by decide))
 refine zgR (X:=List Item×Nat) (fun _=>(fun i=>if i=2 then [.adB 3 2 97 9 1]else if i=4 then [.frz 97,.adB 3 3 98 114 35]else if i=2009 then [.flt ⟨[(0,none),(1,none),(2,none),(3,none),(4,none),(5,none),(6,none),(7,none),(8,none),(9,none),(11,some [])]⟩ ⟨[10],[(11,[10])]⟩]else if i=14 then [.adB 8 14 1000 108 7,.frz 1000,.adB 8 21 1001 108 7,.frz 1001,.adB 8 28 1002 108 7,.frz 1002,.adB 8 33 1003 105 2,.adB 8 34 1004 230 2]else if i=1017 then [.frz 1003,.frz 1004]else if i=1018 then [.frz 98]else chL i)) zat T.length (fun i z=>i<=z.2/\z.2<T.length/\z.1.length<=i/\R=(zCN T (T.length-i) z.1 z.2).bd fun m h=>.ok (⟨s,k,l,m⟩,h))
  (fun _ z=>([(0,.bp 90 0),(1,.bp 1 0),(2,.bp 2 0),(3,.bp 3 0),(4,.d (.mp formK formV bs cl))],
   [(1,.box [.bp 90 0]),(2,.box [.d (eSb wak),.d (eSb wak),.nils,.nils]),(3,.box [.d (eSb s),.d (eSb k),.d (eSbs l),.ar 98 z.1.length]),(90,paO T z.2),(98,.arr 114 35 .flat (z.1.map zaK)),(1999,.gh [] gs),(7777777,Z.o)])) ([],g) ⟨Nat.zero_le _,hg,wam _,hR⟩ ?_ ?_ (fun i z hi hI=> ?_)
 ·simp only[ZE,seval]
 ·simp only[ZE,seval,KE,GZ,paO,paL,paM,pxM,zAc]
 obtain⟨m,b⟩:=z;obtain⟨I1,I2,I3,I4⟩:=hI;simp only at I1 I2 I3 I4;rw[show T.length-i=T.length-(i+1)+1 by omega]at I4;unfold zCN at I4;have p2:=zBq Z T hT b (⟨#[125]⟩:ByteArray) I2;have l2:=zBj hT I2 (s:=(⟨#[125]⟩:ByteArray)) (k:=3) (by decide);obtain⟨gg,hgg⟩: ∃g,isT T b 3 (⟨#[125]⟩:ByteArray)=g:=⟨_,rfl⟩;rw[hgg]at p2 l2 I4;cases gg with
 | true=>
  rw[if_pos rfl]at I4 p2;simp only[ZE,seval,KE]at p2;simp only[ZE,seval,KE,GZ,paO,paL,paM,pxM,zAc];refine EFn.gV [(1,90),(7777777,7777777)] p2 ?_ ?_
  ·simp only[ZE,seval,GZ,paO,paL,paM,pxM,zAc]
  rintro V ol new ⟨rfl,rfl,rfl⟩;simp only[ZE,seval,waa,zAt.eq_def,zAF.eq_def,KE,GZ,paO,paL,paM,pxM,zAc];refine⟨[1,2,3,1999],[],?_⟩;simp only[ZE,seval,zAp.eq_1,zAp.eq_2,zAq.eq_1,zAq.eq_2,GZ,zAt.eq_def,zAj.eq_def,ghK.eq_def,zAF.eq_def,zAi.eq_def,hdH.eq_1,hdH.eq_2,kpH.eq_1,kpH.eq_2,hdl.eq_def,zpC.eq_def,zht,AV.core,GZ,paO,paL,paM,pxM,zAc];exact⟨_,b+1,I4,l2 rfl,rfl,rfl⟩
 | false=>
  rw[if_neg (by decide)]at I4 p2;simp only[ZE,seval,KE]at p2;unfold zDV at I4;have e1:=zai I2;have e2:=zDl I2;have hfx:=zGc Z T b;have hw:=zaq (show b<9223372036854775807 by omega);have hl2:=hT.last b I2;have ks:zd3 prog 9 (.lit (.string (tk T b).2.1)):=zB5 (hT.size I2);have hm:=form_get (tk T b).2.1;obtain⟨⟨q,w,p⟩,ht⟩: ∃t,tk T b=t:=⟨_,rfl⟩;rw[ht]at e2 ks hl2 I4 hm;simp only at e2 ks hl2 I4 hm;obtain⟨o,ho⟩:=zX (zIg.lookup w);rw[ho]at I4 hm;by_cases hq:q=1
  ·subst hq;rw[if_neg (by simp)]at I4;have e3:(((1:Nat):Int) !=1)=false:=rfl;rcases o with _ | n
   ·rw[waq]at hm;simp only[ZE,seval,KE,GZ,paO,paL,paM,pxM,zAc];refine EFn.gV [(1,90),(7777777,7777777)] p2 ?_ ?_
    ·simp only[ZE,seval,GZ,paO,paL,paM,pxM,zAc]
    rintro V ol new ⟨rfl,rfl,rfl⟩;simp only[ZE,seval,e1,e2,wal,ks,kf,hm,zal,was,Option.isSome_none,Bool.not_false,KE,GZ,paO,paL,paM,pxM,zAc];refine⟨by kernel_rfl,?_⟩;refine EFn.gX [(1,90),(7777777,7777777)] hfx ?_ (fun v hv=>by exact⟨b,I4,hv⟩) (fun _ _ _ h=>h.elim);simp only[ZE,seval,GZ,paO,paL,paM,pxM,zAc]
   ·rw[wap]at hm;have hn:=itemL_le ho;have hb1:=hl2 (by decide);have cI:=rd_p Z hZ T hT n hn (b+1) hb1;unfold zHw at cI;obtain⟨fn,hfn⟩:=zX (rdF n);obtain⟨rp,hrp⟩:=zX (zHh n T (b+1));have hfo2:eForm n= .agg [.lit (.int .i64 n),.clo (.func fn) [] []]:=(by unfold eForm; rw[hfn]);rw[hfo2]at hm;rw[hfn,hrp]at cI;simp only[hrp]at I4;simp only[ZE,seval,KE,GZ,paO,paL,paM,pxM,zAc];refine EFn.gV [(1,90),(7777777,7777777)] p2 ?_ ?_
    ·simp only[ZE,seval,GZ,paO,paL,paM,pxM,zAc]
    rintro V ol new ⟨rfl,rfl,rfl⟩;simp only[ZE,seval,e1,e2,wal,ks,kf,hm,e3,hw,zal,war,Option.isSome_some,Bool.not_true,KE,GZ,paO,paL,paM,pxM,zAc];refine⟨by kernel_rfl,?_⟩;refine EFn.gX [(1,90),(101,8),(103,1003),(104,1004),(7777777,7777777)] cI ?_ (fun v hv=>by obtain⟨j,hj,hv⟩:=hv; exact⟨j,by rw[I4,hj]; rfl,hv⟩) ?_
    ·simp only[ZE,seval,KE,paI,itA,nmO,bnO,zBg,zEV,zCb,x0_k,x0_w,zCa,n0,r0,e0E,List.map_nil,wae,GZ,paO,paL,paM,pxM,zAc]
    rintro V ol new ⟨x,c,h7,hc,rfl,rfl,rfl⟩;rw[h7,PR.bd_ok]at I4;have c8:=zBu Z T hT c (⟨#[59]⟩:ByteArray) hc;simp only[ZE,seval,KE]at c8;simp only[ZE,seval,KE,paI,itA,nmO,bnO,zBg,zEV,zCb,x0_k,x0_w,zCa,n0,r0,e0E,List.map_nil,wae,GZ,paO,paL,paM,pxM,zAc];refine EFn.gX [(1,90),(7777777,7777777)] c8 ?_ (fun v hv=>by obtain⟨j,hj,hv⟩:=hv; exact⟨j,by rw[I4,hj]; rfl,hv⟩) ?_
    ·simp only[ZE,seval,GZ,paO,paL,paM,pxM,zAc]
    rintro V ol new ⟨_u,d,h8,hd,rfl,rfl,rfl⟩;rw[h8,PR.bd_ok]at I4;have hmap:=zBJ x;simp only[ZE,seval,KE]at hmap;have hmap2:m.map zaK++[zaK x]=(m++[x]).map zaK:=(by rw[wad]; rfl);rw[hmap]at hmap2;have hgt:=signP_gt h8;have hge:=ge_read n T (b+1) x c (by rw[hrp]; exact h7);simp only[ZE,seval,KE,waa,hmap2,GZ,paO,paL,paM,pxM,zAc];refine⟨⟨by omega,by omega⟩,by simp only[waa,wab,wac,wae],?_⟩;have hl9:m.length+1=(m++[x]).length :=(by simp);refine⟨by omega,(m++[x],d),⟨by omega,hd,by simp only[wab,wac,wae]; omega,I4⟩,?_,?_⟩
    ·simp only[ZE,seval]
    ·simp only[ZE,seval,KE,<-hl9,GZ,paO,paL,paM,pxM,zAc]
  ·rw[if_pos hq]at I4;have e3:((q:Int) !=1)=true:=by simp; omega
   rcases o with _ | n
   ·rw[waq]at hm;simp only[ZE,seval,KE,GZ,paO,paL,paM,pxM,zAc];refine EFn.gV [(1,90),(7777777,7777777)] p2 ?_ ?_
    ·simp only[ZE,seval,GZ,paO,paL,paM,pxM,zAc]
    rintro V ol new ⟨rfl,rfl,rfl⟩;simp only[ZE,seval,e1,e2,wal,ks,kf,hm,zal,was,Option.isSome_none,Bool.not_false,KE,GZ,paO,paL,paM,pxM,zAc];refine⟨by kernel_rfl,?_⟩;refine EFn.gX [(1,90),(7777777,7777777)] hfx ?_ (fun v hv=>by exact⟨b,I4,hv⟩) (fun _ _ _ h=>h.elim);simp only[ZE,seval,GZ,paO,paL,paM,pxM,zAc]
   ·rw[wap]at hm;obtain⟨fn,hfn⟩:=zX (rdF n);have hfo2:eForm n= .agg [.lit (.int .i64 n),.clo (.func fn) [] []]:=(by unfold eForm; rw[hfn]);rw[hfo2]at hm;simp only[ZE,seval,KE,GZ,paO,paL,paM,pxM,zAc];refine EFn.gV [(1,90),(7777777,7777777)] p2 ?_ ?_
    ·simp only[ZE,seval,GZ,paO,paL,paM,pxM,zAc]
    rintro V ol new ⟨rfl,rfl,rfl⟩;simp only[ZE,seval,e1,e2,wal,ks,kf,hm,e3,hw,zal,war,Option.isSome_some,Bool.not_true,KE,GZ,paO,paL,paM,pxM,zAc];refine⟨by kernel_rfl,?_⟩;refine EFn.gX [(1,90),(7777777,7777777)] hfx ?_ (fun v hv=>by exact⟨b,I4,hv⟩) (fun _ _ _ h=>h.elim);simp only[ZE,seval,GZ,paO,paL,paM,pxM,zAc]
def bl:Pc:=(0,(⟨#[32]⟩:ByteArray))
def nl:Pc:=(0,(⟨#[10]⟩:ByteArray))
def sg(s:Bts):Pc:=(3,s)
def nm(s:Bts):Pc:=(1,s)
def nu(n:Int):Pc:=(2,zB2 n)
def zCf(n:Int):Bool:=decide (n>=0)&&decide (n<=1000000)
def zAD(x:Num):List Pc:=
 if x.p=e0 then [nu x.n]else if x.n>0 then [nm x.p,bl,sg (⟨#[43]⟩:ByteArray),bl,nu x.n]else if x.n<0 then [nm x.p,bl,sg (⟨#[45]⟩:ByteArray),bl,nu (-x.n)]else [nm x.p]
def zAX(x:Num):Bool:=if x.p=e0 then zCf x.n else zAN x.p&&(decide (x.n>= -1000000)&&decide (x.n<=1000000))
def zDn(rec:Expr->List Pc)(e:Expr):List Pc:=
 if e.op=1 then sg (⟨#[91]⟩:ByteArray)::(zAD e.k++([bl,sg (⟨#[58]⟩:ByteArray),bl]++(zAD e.w++[sg (⟨#[93]⟩:ByteArray)])))
 else if e.op=14 then [nm e.name]
 else if e.op=15 then nm e.name::sg (⟨#[91]⟩:ByteArray)::(rec (e.args.getD 0 x0)++[sg (⟨#[93]⟩:ByteArray)])
 else if e.op=2 then sg (⟨#[126]⟩:ByteArray)::rec (e.args.getD 0 x0)
 else if e.op=10 then sg (⟨#[40]⟩:ByteArray)::(rec (e.args.getD 0 x0)++([bl,sg (⟨#[63]⟩:ByteArray),bl]++(rec (e.args.getD 1 x0)++([bl,sg (⟨#[58]⟩:ByteArray),bl]++(rec (e.args.getD 2 x0)++[sg (⟨#[41]⟩:ByteArray)])))))
 else if e.op=12 then sg (⟨#[123]⟩:ByteArray)::(rec (e.args.getD 0 x0)++([bl,sg (⟨#[64]⟩:ByteArray),bl]++(zAD e.k++([bl,sg (⟨#[58]⟩:ByteArray),bl]++(zAD e.w++[sg (⟨#[125]⟩:ByteArray)])))))
 else if e.op=13 then sg (⟨#[123]⟩:ByteArray)::(rec (e.args.getD 0 x0)++([bl,sg (⟨#[58]⟩:ByteArray),bl]++(zAD e.w++[sg (⟨#[125]⟩:ByteArray)])))
 else sg (⟨#[40]⟩:ByteArray)::(rec (e.args.getD 0 x0)++([bl,sg (zAS e.op),bl]++(rec (e.args.getD 1 x0)++[sg (⟨#[41]⟩:ByteArray)])))
def zCj(rec:Expr->Bool)(e:Expr):Bool:=
 if e.op=1 then zAX e.k&&zAX e.w
 else if e.op=14 then zAN e.name
 else if e.op=15 then zAN e.name&&rec (e.args.getD 0 x0)
 else if e.op=2 then rec (e.args.getD 0 x0)
 else if e.op=10 then rec (e.args.getD 0 x0)&&(rec (e.args.getD 1 x0)&&rec (e.args.getD 2 x0))
 else if e.op=12 then rec (e.args.getD 0 x0)&&(zAX e.k&&zAX e.w)
 else if e.op=13 then rec (e.args.getD 0 x0)&&zAX e.w
 else rec (e.args.getD 0 x0)&&rec (e.args.getD 1 x0)
def zAA:Nat->Expr->List Pc
 | 0,_=>[]
 | d+1,e=>zDn (zAA d) e
def zAB:Nat->Expr->Bool
 | 0,_=>false
 | d+1,e=>decide ((e.args.length:Int)=zBi e.op)&&(zCi e&&zCj (zAB d) e)
def zBk(r:Rule):List Pc:=
 if r.kind=0 then [nm (⟨#[105,110,105,116]⟩:ByteArray)]else if r.kind=1 then [nm (⟨#[107,101,101,112]⟩:ByteArray)]else if r.kind=2 then [nm (⟨#[99,111,112,121]⟩:ByteArray),bl,nm r.from']else [nm (⟨#[97,100,100]⟩:ByteArray),bl,nm r.from',bl,nu r.n]
def zBZ(r:Rule):Bool:=
 ((decide (r.from'=e0)||decide (r.kind>=2))&&(decide (r.n=0)||decide (r.kind=3)))&&
 (if r.kind=0 then true else if r.kind=1 then true else if r.kind=2 then zAN r.from' else if r.kind=3 then zAN r.from'&&zCf r.n else false)
def zBU{α:Type}(one:α->List Pc):List α->List Pc
 | []=>[]
 | [x]=>one x
 | x::y::r=>one x++(sg (⟨#[44]⟩:ByteArray)::bl::zBU one (y::r))
def zA5{α:Type}(one:α->List Pc)(l:List α):List Pc:=sg (⟨#[40]⟩:ByteArray)::(zBU one l++[sg (⟨#[41]⟩:ByteArray)])
def zBz(b:Bind):List Pc:=[nm b.port,bl,sg (⟨#[61]⟩:ByteArray),bl,nm b.chan]
def zCL(b:Bind):Bool:=zAN b.port&&zAN b.chan
def zBt(s:Bts):List Pc:=[nm s]
def zB7(x:Item):List Pc:=
 if x.kind=4 then [bl,sg (⟨#[61]⟩:ByteArray),bl]++(zAD x.init++([bl,sg (⟨#[45,62]⟩:ByteArray),bl]++(zAA 8 x.a++(bl::zBk x.rule))))
 else if x.kind=5 then [bl,sg (⟨#[61]⟩:ByteArray),bl]++zAA 8 x.a
 else if x.kind=6 then [bl,nm (⟨#[105,102]⟩:ByteArray),bl]++(zAA 8 x.a++([bl,nm (⟨#[97,116]⟩:ByteArray),bl]++(zAA 8 x.b++([bl,sg (⟨#[61]⟩:ByteArray),bl]++(zAA 8 x.c++(bl::zBk x.rule))))))
 else if x.kind=7 then [bl,nm (⟨#[105,102]⟩:ByteArray),bl]++zAA 8 x.a
 else if x.kind=8 then [bl,nm (⟨#[105,102]⟩:ByteArray),bl]++(zAA 8 x.a++([bl,sg (⟨#[61]⟩:ByteArray),bl]++zAA 8 x.b))
 else if x.kind=9 then [sg (⟨#[58]⟩:ByteArray),bl,nm x.of]++(zA5 zAD x.args++(bl::zA5 zBz x.ports))
 else []
def zBB(x:Item):Bool:=
 if x.kind=4 then zAX x.init&&(zAB 8 x.a&&zBZ x.rule)
 else if x.kind=5 then zAB 8 x.a
 else if x.kind=6 then zAB 8 x.a&&(zAB 8 x.b&&(zAB 8 x.c&&zBZ x.rule))
 else if x.kind=7 then zAB 8 x.a
 else if x.kind=8 then zAB 8 x.a&&zAB 8 x.b
 else if x.kind=9 then zAN x.of&&(x.args.all zAX&&x.ports.all zCL)
 else true
def zDL(x:Item):List Pc:=if x.kind<=6 then [sg (⟨#[58]⟩:ByteArray),bl]++zAD x.width else []
def zDx(x:Item):List Pc:=if x.kind=3\/x.kind=6 then [bl,sg (⟨#[91]⟩:ByteArray)]++(zAD x.depth++[sg (⟨#[93]⟩:ByteArray)])else []
def zAV(x:Item):List Pc:=[nm (kwL.getD (x.kind-1).toNat e0),bl,nm x.name]++(zDL x++(zDx x++zB7 x))
def zAW(x:Item):Bool:=
 decide (1<=x.kind/\x.kind<=9)&&(zDm x&&(zAN x.name&&((if x.kind<=6 then zAX x.width else true)&&((if x.kind=3\/x.kind=6 then zAX x.depth else true)&&zBB x))))
def zAJ:List Item->List Pc
 | []=>[]
 | x::r=>[bl,bl]++(zAV x++(sg (⟨#[59]⟩:ByteArray)::nl::zAJ r))
def zBQ(m:Module):List Pc:=[nm (⟨#[109,111,100,117,108,101]⟩:ByteArray),bl,nm m.name]++(zA5 zBt m.params++[bl,sg (⟨#[64]⟩:ByteArray),bl,nm m.clock,bl])
def zAE(m:Module):List Pc:=zBQ m++([sg (⟨#[123]⟩:ByteArray),nl]++(zAJ m.items++[sg (⟨#[125]⟩:ByteArray),nl]))
def zAG(m:Module):Bool:=zAN m.name&&(m.params.all zAN&&(zAN m.clock&&m.items.all zAW))
def zAk:List Module->List Pc
 | []=>[]
 | m::r=>zAE m++zAk r
structure WLaw (f:PW->PW) (fit:Bool) (ps:List Pc):Prop where
 ok:fit=true-> ∀t,f (t,true)=(t++pcB ps,true)
 no:fit=false-> ∀t,(f (t,true)).2 =false
 bad: ∀t,(f (t,false)).2 =false
theorem zEo(t:Bts):t++e0=t:=by apply ByteArray.ext; simp[ByteArray.data_append,e0]
theorem app_assoc(a b c:Bts):a++b++c=a++(b++c):=by apply ByteArray.ext; simp[ByteArray.data_append]
theorem WLaw.comp{f g:PW->PW}{a b:Bool}{p q:List Pc}(hf:WLaw f a p)(hg:WLaw g b q):WLaw (fun w=>g (f w)) (a&&b) (p++q):=by
 refine⟨fun h t=> ?_,fun h t=> ?_,fun t=> ?_⟩
 ·simp only[wan]at h;simp only[hf.ok h.1,hg.ok h.2,zAx,app_assoc]
 ·cases ha:a with
  | false=>
   have:=hf.no ha t;rw[show f (t,true)=((f (t,true)).1,false)from Prod.ext rfl this];exact hg.bad _
  | true=>
   rw[hf.ok ha];rw[ha]at h;exact hg.no h _
 ·rw[show f (t,false)=((f (t,false)).1,false)from Prod.ext rfl (hf.bad t)];exact hg.bad _
theorem WLaw.s{s:Bts}{ps:List Pc}(h:pcB ps=s):WLaw (wS s) true ps:=by
 subst h;exact⟨fun _ _=>rfl,fun h=>(by cases h),fun _=>rfl⟩
theorem WLaw.okb(b:Bool):WLaw (wOk b) b []:=by
 refine⟨fun h t=> ?_,fun h t=> ?_,fun t=> ?_⟩
 ·simp[wOk,h,pcB,zEo]
 ·simp[wOk,h]
 ·simp[wOk]
theorem WLaw.cast{f g:PW->PW}{a b:Bool}{p q:List Pc}(h:WLaw f a p)(hf: ∀w,f w=g w)(ha:a=b)(hp:a=true->pcB p=pcB q):WLaw g b q:=by
 subst ha;rw[show g=f from funext fun w=>(hf w).symm];exact⟨fun h1 t=>by rw[<-hp h1]; exact h.ok h1 t,h.no,h.bad⟩
theorem zCh(s:Bts):WLaw (zAu s) (zAN s) [nm s]:=
 (WLaw.comp (WLaw.okb (zAN s)) (WLaw.s (s:=s) (ps:=[nm s]) (by simp[pcB,nm,zEo]))).cast (fun _=>rfl) (Bool.and_true _) (fun _=>rfl)
theorem zFG(n:Int):WLaw (zCr n) (zCf n) [nu n]:=
 (WLaw.comp (WLaw.okb (zCf n)) (WLaw.s (s:=zB2 n) (ps:=[nu n]) (by simp[pcB,nu,zEo]))).cast (fun _=>rfl) (Bool.and_true _) (fun _=>rfl)
theorem zFF(x:Num):WLaw (zBl x) (zAX x) (zAD x):=by
 unfold zAD zAX;by_cases h0:x.p=e0
 ·rw[if_pos h0,if_pos h0];exact(zFG x.n).cast (fun w=>by unfold zBl; rw[if_pos h0]) rfl (fun _=>rfl)
 rw[if_neg h0,if_neg h0];by_cases h1:x.n>0
 ·rw[if_pos h1];refine(((zCh x.p).comp (WLaw.s (s:=(⟨#[32,43,32]⟩:ByteArray)) (ps:=[bl,sg (⟨#[43]⟩:ByteArray),bl]) rfl)).comp (zFG x.n)).cast (fun w=>by unfold zBl; rw[if_neg h0,if_pos h1]) ?_ (fun _=>rfl);rw[show zCf x.n=(decide (x.n>= -1000000)&&decide (x.n<=1000000)) by unfold zCf; rw[wao]; simp only[wan,decide_eq_true_eq]; omega];simp only[Bool.and_true]
 rw[if_neg h1];by_cases h2:x.n<0
 ·rw[if_pos h2];refine((((zCh x.p).comp (WLaw.okb (decide (x.n>= -1000000)))).comp (WLaw.s (s:=(⟨#[32,45,32]⟩:ByteArray)) (ps:=[bl,sg (⟨#[45]⟩:ByteArray),bl]) rfl)).comp (zFG (max (IntKind.i64.wrap (-x.n)) 0))).cast (fun w=>by unfold zBl; rw[if_neg h0,if_neg h1,if_pos h2]) ?_ (fun h=> ?_)
  ·by_cases h3:x.n>= -1000000
   ·have hw:IntKind.i64.wrap (-x.n)= -x.n:=zaQ (by omega) (by omega);rw[hw,show zCf (max (-x.n) 0)=(decide (x.n>= -1000000)&&decide (x.n<=1000000)) by unfold zCf; rw[wao]; simp only[wan,decide_eq_true_eq]; omega];simp[h3]
   ·simp[h3]
  ·simp only[wan,decide_eq_true_eq]at h;have hw:IntKind.i64.wrap (-x.n)= -x.n:=zaQ (by omega) (by omega);rw[hw,show max (-x.n) 0= -x.n by omega];rfl
 ·rw[if_neg h2];refine(zCh x.p).cast (fun w=>by unfold zBl; rw[if_neg h0,if_neg h1,if_neg h2]) ?_ (fun _=>rfl);rw[show(decide (x.n>= -1000000)&&decide (x.n<=1000000))=true by simp only[wan,decide_eq_true_eq]; omega,Bool.and_true]
theorem zFE{rec:Expr->PW->PW}{fit:Expr->Bool}{pc:Expr->List Pc}(hr: ∀e,WLaw (rec e) (fit e) (pc e))(e:Expr){s:Bts}{ps:List Pc}(hs:pcB ps=s)(i:Nat):WLaw (argW rec e s i) (fit (e.args.getD i x0)) (ps++pc (e.args.getD i x0)):=
 ((WLaw.s hs).comp (hr (e.args.getD i x0))).cast (fun _=>rfl) (Bool.true_and _) (fun _=>rfl)
theorem wl_op{rec:Expr->PW->PW}{fit:Expr->Bool}{pc:Expr->List Pc}(hr: ∀e,WLaw (rec e) (fit e) (pc e))(e:Expr):WLaw (opW rec e) (zCj fit e) (zDn pc e):=by
 have ho:WLaw (wS (⟨#[91]⟩:ByteArray)) true [sg (⟨#[91]⟩:ByteArray)]:=WLaw.s rfl;have hc:WLaw (wS (⟨#[93]⟩:ByteArray)) true [sg (⟨#[93]⟩:ByteArray)]:=WLaw.s rfl;have hd:WLaw (wS (⟨#[32,58,32]⟩:ByteArray)) true [bl,sg (⟨#[58]⟩:ByteArray),bl]:=WLaw.s rfl;have hp:WLaw (wS (⟨#[41]⟩:ByteArray)) true [sg (⟨#[41]⟩:ByteArray)]:=WLaw.s rfl;have hb:WLaw (wS (⟨#[125]⟩:ByteArray)) true [sg (⟨#[125]⟩:ByteArray)]:=WLaw.s rfl;have hat:WLaw (wS (⟨#[32,64,32]⟩:ByteArray)) true [bl,sg (⟨#[64]⟩:ByteArray),bl]:=WLaw.s rfl;unfold zCj zDn;by_cases h1:e.op=1
 ·rw[if_pos h1,if_pos h1];exact((((ho.comp (zFF e.k)).comp hd).comp (zFF e.w)).comp hc).cast (fun w=>by unfold opW; rw[if_pos h1]) (by simp) (fun _=>by simp)
 rw[if_neg h1,if_neg h1];by_cases h2:e.op=14
 ·rw[if_pos h2,if_pos h2];exact(zCh e.name).cast (fun w=>by unfold opW; rw[if_neg h1,if_pos h2]) rfl (fun _=>rfl)
 rw[if_neg h2,if_neg h2];by_cases h3:e.op=15
 ·rw[if_pos h3,if_pos h3];exact(((zCh e.name).comp (zFE hr e (s:=(⟨#[91]⟩:ByteArray)) (ps:=[sg (⟨#[91]⟩:ByteArray)]) rfl 0)).comp hc).cast (fun w=>by unfold opW; rw[if_neg h1,if_neg h2,if_pos h3]) (by simp) (fun _=>by simp)
 rw[if_neg h3,if_neg h3];by_cases h4:e.op=2
 ·rw[if_pos h4,if_pos h4];exact(zFE hr e (s:=(⟨#[126]⟩:ByteArray)) (ps:=[sg (⟨#[126]⟩:ByteArray)]) rfl 0).cast (fun w=>by unfold opW; rw[if_neg h1,if_neg h2,if_neg h3,if_pos h4]) rfl (fun _=>by simp)
 rw[if_neg h4,if_neg h4];by_cases h5:e.op=10
 ·rw[if_pos h5,if_pos h5];exact((((zFE hr e (s:=(⟨#[40]⟩:ByteArray)) (ps:=[sg (⟨#[40]⟩:ByteArray)]) rfl 0).comp (zFE hr e (s:=(⟨#[32,63,32]⟩:ByteArray)) (ps:=[bl,sg (⟨#[63]⟩:ByteArray),bl]) rfl 1)).comp (zFE hr e (s:=(⟨#[32,58,32]⟩:ByteArray)) (ps:=[bl,sg (⟨#[58]⟩:ByteArray),bl]) rfl 2)).comp hp).cast (fun w=>by unfold opW; rw[if_neg h1,if_neg h2,if_neg h3,if_neg h4,if_pos h5]) (by simp[Bool.and_assoc]) (fun _=>by simp)
 rw[if_neg h5,if_neg h5];by_cases h6:e.op=12
 ·rw[if_pos h6,if_pos h6];exact((((((zFE hr e (s:=(⟨#[123]⟩:ByteArray)) (ps:=[sg (⟨#[123]⟩:ByteArray)]) rfl 0).comp hat).comp (zFF e.k)).comp hd).comp (zFF e.w)).comp hb).cast (fun w=>by unfold opW; rw[if_neg h1,if_neg h2,if_neg h3,if_neg h4,if_neg h5,if_pos h6]) (by simp[Bool.and_assoc]) (fun _=>by simp)
 rw[if_neg h6,if_neg h6];by_cases h7:e.op=13
 ·rw[if_pos h7,if_pos h7];exact((((zFE hr e (s:=(⟨#[123]⟩:ByteArray)) (ps:=[sg (⟨#[123]⟩:ByteArray)]) rfl 0).comp hd).comp (zFF e.w)).comp hb).cast (fun w=>by unfold opW; rw[if_neg h1,if_neg h2,if_neg h3,if_neg h4,if_neg h5,if_neg h6,if_pos h7]) (by simp[Bool.and_assoc]) (fun _=>by simp)
 rw[if_neg h7,if_neg h7];exact(((zFE hr e (s:=(⟨#[40]⟩:ByteArray)) (ps:=[sg (⟨#[40]⟩:ByteArray)]) rfl 0).comp (zFE hr e (s:=(⟨#[32]⟩:ByteArray)++zAS e.op++(⟨#[32]⟩:ByteArray)) (ps:=[bl,sg (zAS e.op),bl]) (by simp[pcB,bl,sg,zEo,app_assoc]) 1)).comp hp).cast (fun w=>by unfold opW; rw[if_neg h1,if_neg h2,if_neg h3,if_neg h4,if_neg h5,if_neg h6,if_neg h7]) (by simp) (fun _=>by simp)
theorem wl_expr: ∀(d:Nat) (e:Expr),WLaw (zA6 d e) (zAB d e) (zAA d e)
 | 0,e=>⟨fun h=>(by cases h),fun _ _=>rfl,fun _=>rfl⟩
 | d+1,e=>by
  have L:=(WLaw.okb (zCi e)).comp (wl_op (wl_expr d) e);refine⟨fun h t=> ?_,fun h t=> ?_,fun t=> ?_⟩
  ·simp only[zAB,wan,decide_eq_true_eq]at h;have:=L.ok (by simp only[wan]; exact h.2) t;unfold zA6;rw[if_neg (by simp[h.1])];exact this
  ·unfold zA6;by_cases hl:(e.args.length:Int)=zBi e.op
   ·rw[if_neg (by simp[hl])];refine L.no ?_ t;simpa [zAB,hl]using h
   ·rw[if_pos (.inl hl)]
  ·unfold zA6;rw[if_pos (.inr rfl)]
theorem wl_rule(r:Rule):WLaw (zEn r) (zBZ r) (zBk r):=by
 have hz:=WLaw.okb ((decide (r.from'=e0)||decide (r.kind>=2))&&(decide (r.n=0)||decide (r.kind=3)));unfold zBZ zBk;by_cases h0:r.kind=0
 ·rw[if_pos h0,if_pos h0];exact(hz.comp (WLaw.s (s:=(⟨#[105,110,105,116]⟩:ByteArray)) (ps:=[nm (⟨#[105,110,105,116]⟩:ByteArray)]) rfl)).cast (fun w=>by unfold zEn; rw[if_pos h0]) rfl (fun _=>rfl)
 rw[if_neg h0,if_neg h0];by_cases h1:r.kind=1
 ·rw[if_pos h1,if_pos h1];exact(hz.comp (WLaw.s (s:=(⟨#[107,101,101,112]⟩:ByteArray)) (ps:=[nm (⟨#[107,101,101,112]⟩:ByteArray)]) rfl)).cast (fun w=>by unfold zEn; rw[if_neg h0,if_pos h1]) rfl (fun _=>rfl)
 rw[if_neg h1,if_neg h1];by_cases h2:r.kind=2
 ·rw[if_pos h2,if_pos h2];exact((hz.comp (WLaw.s (s:=(⟨#[99,111,112,121,32]⟩:ByteArray)) (ps:=[nm (⟨#[99,111,112,121]⟩:ByteArray),bl]) rfl)).comp (zCh r.from')).cast (fun w=>by unfold zEn; rw[if_neg h0,if_neg h1,if_pos h2]) (by simp) (fun _=>rfl)
 rw[if_neg h2,if_neg h2];by_cases h3:r.kind=3
 ·rw[if_pos h3];exact((((hz.comp (WLaw.s (s:=(⟨#[97,100,100,32]⟩:ByteArray)) (ps:=[nm (⟨#[97,100,100]⟩:ByteArray),bl]) rfl)).comp (zCh r.from')).comp (WLaw.s (s:=(⟨#[32]⟩:ByteArray)) (ps:=[bl]) rfl)).comp (zFG r.n)).cast (fun w=>by unfold zEn; rw[if_neg h0,if_neg h1,if_neg h2,if_pos h3]) (by simp[Bool.and_assoc]) (fun _=>rfl)
 rw[if_neg h3];refine⟨fun h=>(by simp at h),fun _ t=> ?_,fun t=> ?_⟩
 ·unfold zEn; rw[if_neg h0,if_neg h1,if_neg h2,if_neg h3]; simp[wOk]
 ·unfold zEn; rw[if_neg h0,if_neg h1,if_neg h2,if_neg h3]; simp[wOk]
theorem zHP{α:Type}(one:α->List Pc)(x:α): ∀l:List α,l≠[]->zBU one (l++[x])=zBU one l++(sg (⟨#[44]⟩:ByteArray)::bl::one x)
 | [y],_=>by simp[zBU]
 | y::z::r,_=>by
  have:=zHP one x (z::r) (by simp);simp only[wai]at this ⊢;simp only[zBU,this,waf,wai]
theorem wl_ls{α:Type}{one:α->PW->PW}{fit:α->Bool}{pc:α->List Pc}(ho: ∀x,WLaw (one x) (fit x) (pc x))(z:α)(l:List α): ∀i,i<=l.length->WLaw (wLs one z l i) ((l.take i).all fit) (zBU pc (l.take i))
 | 0,_=>⟨fun _ t=>by simp[wLs,zBU,pcB,zEo],fun h=>(by simp at h),fun _=>rfl⟩
 | i+1,hi=>by
  have ih:=wl_ls ho z l i (by omega);have ht:l.take (i+1)=l.take i++[l.getD i z]:=by
   rw[List.take_add_one,List.getD,waj (by omega)]; rfl
  rw[ht];by_cases h0:0<i
  ·have hne:l.take i≠[]:=by
    intro e;have:=congrArg List.length e;rw[List.length_take,wae]at this;omega
   rw[zHP _ _ _ hne];exact((ih.comp (WLaw.s (s:=(⟨#[44,32]⟩:ByteArray)) (ps:=[sg (⟨#[44]⟩:ByteArray),bl]) rfl)).comp (ho (l.getD i z))).cast (fun w=>by simp only[wLs]; rw[if_pos h0]) (by simp) (fun _=>by simp)
  ·have:i=0:=by omega
   subst this;exact(ih.comp (ho (l.getD 0 z))).cast (fun w=>by simp only[wLs]; rw[if_neg h0]) (by simp) (fun _=>by simp[zBU])
theorem wl_list{α:Type}{one:α->PW->PW}{fit:α->Bool}{pc:α->List Pc}(ho: ∀x,WLaw (one x) (fit x) (pc x))(z:α)(l:List α):WLaw (zCv one z l) (l.all fit) (zA5 pc l):=by
 have h:=wl_ls ho z l l.length (wam _);rw[List.take_length]at h;exact(((WLaw.s (s:=(⟨#[40]⟩:ByteArray)) (ps:=[sg (⟨#[40]⟩:ByteArray)]) rfl).comp h).comp (WLaw.s (s:=(⟨#[41]⟩:ByteArray)) (ps:=[sg (⟨#[41]⟩:ByteArray)]) rfl)).cast (fun _=>rfl) (by simp) (fun _=>by simp[zA5])
theorem wl_bind(b:Bind):WLaw (zDE b) (zCL b) (zBz b):=
 (((zCh b.port).comp (WLaw.s (s:=(⟨#[32,61,32]⟩:ByteArray)) (ps:=[bl,sg (⟨#[61]⟩:ByteArray),bl]) rfl)).comp (zCh b.chan)).cast (fun _=>rfl) (by simp[zCL]) (fun _=>rfl)
theorem zD6(e:Expr){s:Bts}{ps:List Pc}(hs:pcB ps=s):WLaw (zBH s e) (zAB 8 e) (ps++zAA 8 e):=
 ((WLaw.s hs).comp (wl_expr 8 e)).cast (fun _=>rfl) (by simp) (fun _=>rfl)
theorem wl_body(x:Item):WLaw (zGt x) (zBB x) (zB7 x):=by
 have hb:WLaw (wS (⟨#[32]⟩:ByteArray)) true [bl]:=WLaw.s rfl;unfold zBB zB7;by_cases h4:x.kind=4
 ·rw[if_pos h4,if_pos h4];exact((((((WLaw.s (s:=(⟨#[32,61,32]⟩:ByteArray)) (ps:=[bl,sg (⟨#[61]⟩:ByteArray),bl]) rfl).comp (zFF x.init)).comp (zD6 x.a (s:=(⟨#[32,45,62,32]⟩:ByteArray)) (ps:=[bl,sg (⟨#[45,62]⟩:ByteArray),bl]) rfl)).comp hb).comp (wl_rule x.rule))).cast (fun w=>by unfold zGt; rw[if_pos h4]) (by simp[Bool.and_assoc]) (fun _=>by simp)
 rw[if_neg h4,if_neg h4];by_cases h5:x.kind=5
 ·rw[if_pos h5,if_pos h5];exact(zD6 x.a (s:=(⟨#[32,61,32]⟩:ByteArray)) (ps:=[bl,sg (⟨#[61]⟩:ByteArray),bl]) rfl).cast (fun w=>by unfold zGt; rw[if_neg h4,if_pos h5]) rfl (fun _=>rfl)
 rw[if_neg h5,if_neg h5];by_cases h6:x.kind=6
 ·rw[if_pos h6,if_pos h6];exact(((((zD6 x.a (s:=(⟨#[32,105,102,32]⟩:ByteArray)) (ps:=[bl,nm (⟨#[105,102]⟩:ByteArray),bl]) rfl).comp (zD6 x.b (s:=(⟨#[32,97,116,32]⟩:ByteArray)) (ps:=[bl,nm (⟨#[97,116]⟩:ByteArray),bl]) rfl)).comp (zD6 x.c (s:=(⟨#[32,61,32]⟩:ByteArray)) (ps:=[bl,sg (⟨#[61]⟩:ByteArray),bl]) rfl)).comp hb).comp (wl_rule x.rule)).cast (fun w=>by unfold zGt; rw[if_neg h4,if_neg h5,if_pos h6]) (by simp[Bool.and_assoc]) (fun _=>by simp)
 rw[if_neg h6,if_neg h6];by_cases h7:x.kind=7
 ·rw[if_pos h7,if_pos h7];exact(zD6 x.a (s:=(⟨#[32,105,102,32]⟩:ByteArray)) (ps:=[bl,nm (⟨#[105,102]⟩:ByteArray),bl]) rfl).cast (fun w=>by unfold zGt; rw[if_neg h4,if_neg h5,if_neg h6,if_pos h7]) rfl (fun _=>rfl)
 rw[if_neg h7,if_neg h7];by_cases h8:x.kind=8
 ·rw[if_pos h8,if_pos h8];exact((zD6 x.a (s:=(⟨#[32,105,102,32]⟩:ByteArray)) (ps:=[bl,nm (⟨#[105,102]⟩:ByteArray),bl]) rfl).comp (zD6 x.b (s:=(⟨#[32,61,32]⟩:ByteArray)) (ps:=[bl,sg (⟨#[61]⟩:ByteArray),bl]) rfl)).cast (fun w=>by unfold zGt; rw[if_neg h4,if_neg h5,if_neg h6,if_neg h7,if_pos h8]) rfl (fun _=>by simp)
 rw[if_neg h8,if_neg h8];by_cases h9:x.kind=9
 ·rw[if_pos h9,if_pos h9];exact(((((WLaw.s (s:=(⟨#[58,32]⟩:ByteArray)) (ps:=[sg (⟨#[58]⟩:ByteArray),bl]) rfl).comp (zCh x.of)).comp (wl_list zFF n0 x.args)).comp hb).comp (wl_list wl_bind b0 x.ports)).cast (fun w=>by unfold zGt; rw[if_neg h4,if_neg h5,if_neg h6,if_neg h7,if_neg h8,if_pos h9]) (by simp[Bool.and_assoc]) (fun _=>by simp)
 rw[if_neg h9,if_neg h9];exact⟨fun _ t=>by simp[zGt,h4,h5,h6,h7,h8,h9,pcB,zEo],fun h=>(by cases h),fun t=>by simp[zGt,h4,h5,h6,h7,h8,h9]⟩
theorem wl_id:WLaw id true []:=⟨fun _ t=>by simp[pcB,zEo],fun h=>(by cases h),fun _=>rfl⟩
theorem wl_item(x:Item):WLaw (zCB x) (zAW x) (zAV x):=by
 by_cases hk:x.kind<1\/x.kind>9
 ·refine⟨fun h=> ?_,fun _ t=> ?_,fun t=> ?_⟩
  ·simp only[zAW,wan,decide_eq_true_eq]at h; omega
  ·unfold zCB; rw[if_pos hk]
  ·unfold zCB; rw[if_pos hk]
 have hw:WLaw (fun w=>if x.kind<=6 then zBl x.width (wS (⟨#[58,32]⟩:ByteArray) w)else w) (if x.kind<=6 then zAX x.width else true) (zDL x):=by
  unfold zDL;by_cases h:x.kind<=6
  ·simp only[if_pos h];exact((WLaw.s (s:=(⟨#[58,32]⟩:ByteArray)) (ps:=[sg (⟨#[58]⟩:ByteArray),bl]) rfl).comp (zFF x.width)).cast (fun _=>rfl) (by simp) (fun _=>rfl)
  ·simp only[if_neg h]; exact wl_id
 have hd:WLaw (fun w=>if x.kind=3\/x.kind=6 then wS (⟨#[93]⟩:ByteArray) (zBl x.depth (wS (⟨#[32,91]⟩:ByteArray) w))else w) (if x.kind=3\/x.kind=6 then zAX x.depth else true) (zDx x):=by
  unfold zDx;by_cases h:x.kind=3\/x.kind=6
  ·simp only[if_pos h];exact(((WLaw.s (s:=(⟨#[32,91]⟩:ByteArray)) (ps:=[bl,sg (⟨#[91]⟩:ByteArray)]) rfl).comp (zFF x.depth)).comp (WLaw.s (s:=(⟨#[93]⟩:ByteArray)) (ps:=[sg (⟨#[93]⟩:ByteArray)]) rfl)).cast (fun _=>rfl) (by simp) (fun _=>by simp)
  ·simp only[if_neg h]; exact wl_id
 have hn:=((WLaw.okb (zDm x)).comp (WLaw.s (s:=kwL.getD (x.kind-1).toNat e0++(⟨#[32]⟩:ByteArray)) (ps:=[nm (kwL.getD (x.kind-1).toNat e0),bl]) (by simp[pcB,nm,bl,zEo]))).comp (zCh x.name);refine(((hn.comp hw).comp hd).comp (wl_body x)).cast (fun w=>by unfold zCB; rw[if_neg hk]) ?_ (fun _=> ?_)
 ·have h1:decide (1<=x.kind/\x.kind<=9)=true:=by simp; omega
  simp only[zAW,h1,Bool.true_and,Bool.and_true,Bool.and_assoc]
 ·simp[zAV]
theorem zGg(x:Item): ∀l:List Item,zAJ (l++[x])=zAJ l++([bl,bl]++(zAV x++[sg (⟨#[59]⟩:ByteArray),nl]))
 | []=>by simp[zAJ]
 | y::r=>by simp[zAJ,zGg x r]
theorem wl_items(l:List Item): ∀i,i<=l.length->WLaw (zDK l i) ((l.take i).all zAW) (zAJ (l.take i))
 | 0,_=>⟨fun _ t=>by simp[zDK,zAJ,pcB,zEo],fun h=>(by simp at h),fun _=>rfl⟩
 | i+1,hi=>by
  have ih:=wl_items l i (by omega);have ht:l.take (i+1)=l.take i++[l.getD i (zBg 0)]:=by
   rw[List.take_add_one,List.getD,waj (by omega)]; rfl
  rw[ht,zGg];exact(((ih.comp (WLaw.s (s:=(⟨#[32,32]⟩:ByteArray)) (ps:=[bl,bl]) rfl)).comp (wl_item (l.getD i (zBg 0)))).comp (WLaw.s (s:=(⟨#[59,10]⟩:ByteArray)) (ps:=[sg (⟨#[59]⟩:ByteArray),nl]) rfl)).cast (fun _=>rfl) (by simp) (fun _=>by simp)
theorem wl_module(m:Module):WLaw (zD4 m) (zAG m) (zAE m):=by
 have h:=wl_items m.items m.items.length (wam _);rw[List.take_length]at h;refine(((((((WLaw.s (s:=(⟨#[109,111,100,117,108,101,32]⟩:ByteArray)) (ps:=[nm (⟨#[109,111,100,117,108,101]⟩:ByteArray),bl]) rfl).comp (zCh m.name)).comp (wl_list zCh e0 m.params)).comp (WLaw.s (s:=(⟨#[32,64,32]⟩:ByteArray)) (ps:=[bl,sg (⟨#[64]⟩:ByteArray),bl]) rfl)).comp (zCh m.clock)).comp
  (WLaw.s (s:=(⟨#[32,123,10]⟩:ByteArray)) (ps:=[bl,sg (⟨#[123]⟩:ByteArray),nl]) rfl)).comp h).comp (WLaw.s (s:=(⟨#[125,10]⟩:ByteArray)) (ps:=[sg (⟨#[125]⟩:ByteArray),nl]) rfl) |>.cast (fun _=>rfl) ?_ (fun _=> ?_)
 ·simp[zAG,Bool.and_assoc]
 ·have:zA5 (fun s=>[nm s]) m.params=zA5 zBt m.params:=rfl;simp[zAE,zBQ,this]
theorem zER(m:Module): ∀l:List Module,zAk (l++[m])=zAk l++zAE m
 | []=>by simp[zAk]
 | y::r=>by simp[zAk,zER m r]
theorem wl_mods(l:List Module): ∀i,i<=l.length->WLaw (zDF l i) ((l.take i).all zAG) (zAk (l.take i))
 | 0,_=>⟨fun _ t=>by simp[zDF,zAk,pcB,zEo],fun h=>(by simp at h),fun _=>rfl⟩
 | i+1,hi=>by
  have ih:=wl_mods l i (by omega);have ht:l.take (i+1)=l.take i++[l.getD i m0]:=by
   rw[List.take_add_one,List.getD,waj (by omega)]; rfl
  rw[ht,zER];exact(ih.comp (wl_module (l.getD i m0))).cast (fun _=>rfl) (by simp) (fun _=>rfl)
theorem print_law(l:List Module):zCl l=if l.all zAG=true/\(pcB (zAk l)).size <=8000 then(pcB (zAk l),0)else(e0,90):=by
 have h:=wl_mods l l.length (wam _);rw[List.take_length]at h;have e:e0++pcB (zAk l)=pcB (zAk l):=by apply ByteArray.ext; simp[ByteArray.data_append,e0]
 unfold zCl;cases hf:l.all zAG with
 | true=>
  have:=h.ok hf e0;simp only[this,e];by_cases hs:(pcB (zAk l)).size <=8000
  ·rw[if_neg (by simp; omega),if_pos (by simpa using hs)]
  ·rw[if_pos (by simp; omega),if_neg (by simpa using hs)]
 | false=>
  have:=h.no hf e0;simp only[this];rw[if_pos (by simp),if_neg (by simp)]
theorem zEH{s:Bts}(h:zAN s=true):zAC s=1/\s.data.toList.all isW=true/\zFM s=false/\s≠e0:=by
 unfold zAN at h;simp only[wan,decide_eq_true_eq,Bool.not_eq_true']at h;obtain⟨h1,h2⟩:=h;unfold zGv at h1;split at h1
 ·rename_i hw;have hz:s.data.toList.length=s.size:=by rw[Array.length_toList]; rfl
  have e1:zA4 s 0=((s.data.toList.drop 0).takeWhile isW).length :=rfl;rw[List.drop_zero]at e1;have e2:s.data.toList.takeWhile isW=s.data.toList:=by
   have h3:=List.takeWhile_prefix isW (l:=s.data.toList);exact h3.eq_of_length (by omega)
  have e3:zb0 s 0=zAC s:=by
   unfold zb0;rw[hw.2,Nat.zero_add,zDq s 0 s.size (wam _) (Nat.zero_le _),List.drop_zero,List.take_of_length_le (by omega)]
  rw[e3]at h1;refine⟨h1,?_,h2,?_⟩
  ·rw[<-e2];exact List.all_takeWhile
  ·rintro rfl;have:zAC e0=0:=rfl;omega
 ·split at h1 <;> omega
theorem name_word{s:Bts}(h1:zAC s=1)(h2:s.data.toList.all isW=true)(h3:zFM s=false):zAN s=true:=by
 have hz:s.data.toList.length=s.size:=by rw[Array.length_toList]; rfl
 have e1:zA4 s 0=s.size:=by
  have:zA4 s 0=((s.data.toList.drop 0).takeWhile isW).length :=rfl;rw[this,List.drop_zero,<-hz];have:=zCA isW s.data.toList [] h2 (fun x hx=>by cases hx);rw[wag]at this;rw[this]
 have e2:zb0 s 0=zAC s:=by
  unfold zb0;rw[e1,Nat.zero_add,zDq s 0 s.size (wam _) (Nat.zero_le _),List.drop_zero,List.take_of_length_le (by omega)]
 unfold zAN zGv;rw[e2,e1,h1,h3];simp
theorem digit_val{d:Nat}(h:d<10):Go.Lib.digitVal (UInt8.ofNat (48+d))=some d:=by
 revert d;decide
theorem zGa: ∀(l:List UInt8) (acc n:Nat) (b:UInt8) (d:Nat),Go.Lib.decFrom acc l=some n->Go.Lib.digitVal b=some d->Go.Lib.decFrom acc (l++[b])=some (n*10+d)
 | [],acc,n,b,d,h,hb=>by
  simp only[Go.Lib.decFrom,Option.some.injEq]at h;subst h;simp[Go.Lib.decFrom,hb]
 | c::l,acc,n,b,d,h,hb=>by
  simp only[wai,Go.Lib.decFrom]at h ⊢;cases hc:Go.Lib.digitVal c with
  | none=>rw[hc]at h; cases h
  | some e=>
   rw[hc]at h;exact zGa l _ n b d h hb
theorem dec_digits(u:Nat):Go.Lib.decFrom 0 (Go.Lib.decDigits u)=some u:=by
 induction u using Nat.strongRecOn with
 | _ u ih=>
  rw[Go.Lib.decDigits];split
  ·rename_i h;simp only[Go.Lib.decFrom,digit_val h];simp
  ·rename_i h;have:=zGa _ 0 (u / 10) (UInt8.ofNat (48+u % 10)) (u % 10) (ih (u / 10) (by omega)) (digit_val (by omega));rw[this];congr 1;omega
theorem zHC(u:Nat):(Go.Lib.decDigits u).all (fun b=>decide (zCs b.toNat=2))=true:=by
 have key: ∀d:Nat,d<10->decide (zCs (UInt8.ofNat (48+d)).toNat =2)=true:=by decide
 induction u using Nat.strongRecOn with
 | _ u ih=>
  rw[Go.Lib.decDigits];split
  ·rename_i h;simp only[List.all_cons,List.all_nil,Bool.and_true];exact key u h
  ·rename_i h;simp only[List.all_append,List.all_cons,List.all_nil,Bool.and_true,ih (u / 10) (by omega),Bool.true_and];exact key _ (by omega)
theorem digits_ne(u:Nat):Go.Lib.decDigits u≠[]:=by
 intro e;have:=congrArg List.length e;rw[Go.Lib.decDigits_length]at this;have:=Go.Lib.nDigits_pos u;simp_all
theorem nDig_le: ∀(k u:Nat),u<10 ^ (k+1)->Go.Lib.nDigits u<=k+1
 | 0,u,h=>by rw[Go.Lib.nDigits_small (by omega)]; exact wam _
 | k+1,u,h=>by
  by_cases h5:u<10
  ·rw[Go.Lib.nDigits_small h5]; omega
  ·rw[Go.Lib.nDigits_big h5];have:=nDig_le k (u / 10) (by rw[Nat.pow_succ]at h; omega);omega
theorem atoi_itoa{n:Int}(h:zCf n=true):Go.Lib.atoiAll (zB2 n).data.toList = .ok n:=by
 unfold zCf at h;simp only[wan,decide_eq_true_eq]at h;obtain⟨u,rfl⟩: ∃u:Nat,n=u:=⟨n.toNat,by omega⟩;have e:(zB2 (u:Int)).data.toList =Go.Lib.decDigits u:=by
  unfold zB2 Go.Lib.itoa;rw[if_neg (by omega)];simp
 rw[e];have hu:u<10 ^ 7:=by omega
 have hl:(Go.Lib.decDigits u).length <=18:=by
  rw[Go.Lib.decDigits_length];have:=nDig_le 6 u hu;omega
 rw[Go.Lib.atoiAll_short _ hl];have hd:=dec_digits u;have hne:=digits_ne u;have hc:=zHC u;generalize Go.Lib.decDigits u=L at hd hne hc ⊢;cases L with
 | nil=>exact absurd rfl hne
 | cons b r=>
  simp only[List.all_cons,wan,decide_eq_true_eq]at hc;have h1:(b==45)=false:=by
   simp only[beq_eq_false_iff_ne,ne_eq];rintro rfl;exact absurd hc.1 (by decide)
  have h2:(b==43)=false:=by
   simp only[beq_eq_false_iff_ne,ne_eq];rintro rfl;exact absurd hc.1 (by decide)
  simp only[Go.Lib.atoi,h1,h2,Go.Lib.decNat];simp[hd,Go.Lib.NumEnd.ofOption]
theorem num_word{n:Int}(h:zCf n=true):zAC (zB2 n)=2/\(zB2 n).data.toList.all isW=true:=by
 have ha:=atoi_itoa h;unfold zCf at h;simp only[wan,decide_eq_true_eq]at h;obtain⟨u,rfl⟩: ∃u:Nat,n=u:=⟨n.toNat,by omega⟩;have e:(zB2 (u:Int)).data.toList =Go.Lib.decDigits u:=by
  unfold zB2 Go.Lib.itoa;rw[if_neg (by omega)];simp
 have hc:=zHC u;have hne:=digits_ne u;have hsz:(zB2 (u:Int)).size =(Go.Lib.decDigits u).length :=by rw[<-e,Array.length_toList]; rfl
 refine⟨?_,?_⟩
 ·unfold zAC;rw[ha];have h0: ¬(zB2 (u:Int)).size =0:=by
   rw[hsz]; intro h; exact hne (List.length_eq_zero_iff.1 h)
  have h1: ¬(97<=((zB2 (u:Int)).data.getD 0 0).toNat /\((zB2 (u:Int)).data.getD 0 0).toNat <=122):=by
   have hg:(zB2 (u:Int)).data.getD 0 0=(Go.Lib.decDigits u).headD 0:=by
    rw[<-e];cases hd:(zB2 (u:Int)).data with
    | mk L=>cases L <;> rfl
   rw[hg];generalize Go.Lib.decDigits u=L at hc hne ⊢;cases L with
   | nil=>exact absurd rfl hne
   | cons b r=>
    simp only[List.all_cons,wan,decide_eq_true_eq]at hc;simp only[List.headD_cons];have key: ∀v:Nat,v<256->zCs v=2-> ¬(97<=v/\v<=122):=(by decide);exact key _ b.toNat_lt hc.1
  rw[if_neg h0,if_neg h1];simp only[];rw[if_neg (by simp; omega)]
 ·rw[e];rw[List.all_eq_true]at hc ⊢;intro b hb;have:=hc b hb;unfold isW;simp_all
theorem pcOk_bl(h:Option UInt8):zDd bl h=true:=rfl
theorem pcOk_nl(h:Option UInt8):zDd nl h=true:=rfl
theorem zCg{s:Bts}(hs:zAN s=true){h:Option UInt8}(hh:zAO h=true):zDd (nm s) h=true:=by
 obtain⟨h1,h2,_⟩:=zEH hs;unfold zDd nm;simp[h1,h2,hh]
theorem zIx{n:Int}(hn:zCf n=true){h:Option UInt8}(hh:zAO h=true):zDd (nu n) h=true:=by
 obtain⟨h1,h2⟩:=num_word hn;unfold zDd nu;simp[h1,h2,hh]
theorem zAb(b:UInt8)(hb:decide (zCs b.toNat=4)&&decide (b≠45)&&decide (b≠61)=true)(h:Option UInt8):zDd (sg ⟨#[b]⟩) h=true:=by
 simp only[wan,decide_eq_true_eq]at hb;unfold zDd sg;simp[hb.1.1,hb.1.2,hb.2]
theorem pcOk_kw{s:Bts}(hs:zAC s=1/\s.data.toList.all isW=true){h:Option UInt8}(hh:zAO h=true):zDd (nm s) h=true:=by
 unfold zDd nm;simp[hs.1,hs.2,hh]
theorem pcH_bl(h:Option UInt8)(r:List Pc):pcH h (bl::r)=some 32:=rfl
theorem pcH_nl(h:Option UInt8)(r:List Pc):pcH h (nl::r)=some 10:=rfl
theorem pcH_sg1(b:UInt8)(h:Option UInt8)(r:List Pc):pcH h (sg ⟨#[b]⟩::r)=some b:=rfl
theorem pcH_sg2(b c:UInt8)(h:Option UInt8)(r:List Pc):pcH h (sg ⟨#[b,c]⟩::r)=some b:=rfl
theorem pcOk_eq:zDd (sg (⟨#[61]⟩:ByteArray)) (some 32)=true:=rfl
theorem pcOk_minus:zDd (sg (⟨#[45]⟩:ByteArray)) (some 32)=true:=rfl
theorem pcOk_arrow(h:Option UInt8):zDd (sg (⟨#[45,62]⟩:ByteArray)) h=true:=rfl
theorem pcOk_op{op:Int}(h:zAS op≠e0):zDd (sg (zAS op)) (some 32)=true:=by
 unfold zAS at h ⊢;split at h
 ·rename_i p hp;have hm:=List.mem_of_find?_eq_some hp;have key: ∀p∈opL,zDd (sg p.1) (some 32)=true:=by decide
  exact key p hm
 ·exact absurd rfl h
set_option linter.defProp false
def PCW:=And.intro @pcOk_bl (And.intro @pcOk_nl (And.intro @pcH_bl (And.intro @pcH_nl (And.intro @pcH_sg1 (And.intro @pcH_sg2 (And.intro pcOk_eq (And.intro pcOk_minus (And.intro @pcOk_arrow (And.intro @zBb.eq_1 (And.intro @zBb.eq_2 (And.intro @zBR (And.intro @zHQ @pcH.eq_1))))))))))))
theorem zGR:zAO (some 32)=true:=rfl
theorem zDz{x:Num}(hx:zAX x=true){h:Option UInt8}(hh:zAO h=true):zBb h (zAD x)=true:=by
 unfold zAX at hx;unfold zAD;by_cases h0:x.p=e0
 ·rw[if_pos h0]at hx ⊢;simp only[PCW,wai,wah,Bool.and_true,Bool.true_and,Bool.and_self,zIx hx hh]
 rw[if_neg h0]at hx ⊢;simp only[wan,decide_eq_true_eq]at hx;by_cases h1:x.n>0
 ·rw[if_pos h1];have hn:zCf x.n=true:=by simp[zCf]; omega
  simp only[PCW,wai,wah,Bool.and_true,Bool.true_and,Bool.and_self,zAb 91 rfl,zAb 93 rfl,zAb 40 rfl,zAb 41 rfl,zAb 123 rfl,zAb 125 rfl,zAb 58 rfl,zAb 59 rfl,zAb 44 rfl,zAb 63 rfl,zAb 64 rfl,zAb 126 rfl,zAb 43 rfl,zCg hx.1 zGR,zIx hn hh]
 rw[if_neg h1];by_cases h2:x.n<0
 ·rw[if_pos h2];have hn:zCf (-x.n)=true:=by simp[zCf]; omega
  simp only[PCW,wai,wah,Bool.and_true,Bool.true_and,Bool.and_self,zAb 91 rfl,zAb 93 rfl,zAb 40 rfl,zAb 41 rfl,zAb 123 rfl,zAb 125 rfl,zAb 58 rfl,zAb 59 rfl,zAb 44 rfl,zAb 63 rfl,zAb 64 rfl,zAb 126 rfl,zAb 43 rfl,zCg hx.1 zGR,zIx hn hh]
 ·rw[if_neg h2];simp only[PCW,wai,wah,Bool.and_true,Bool.true_and,Bool.and_self,zCg hx.1 hh]
theorem zHB{e:Expr}(h:(e.args.length:Int)=zBi e.op)(h1:e.op≠1)(h2:e.op≠14)(h3:e.op≠15)(h4:e.op≠2)(h5:e.op≠10)(h6:e.op≠12)(h7:e.op≠13):zAS e.op≠e0:=by
 intro h8;unfold zBi at h;rw[if_neg (by omega),if_neg (by omega),if_neg h5,if_neg (by simpa using h8)]at h;omega
theorem pcs_op{fit:Expr->Bool}{pc:Expr->List Pc}(hr: ∀e,fit e=true-> ∀h,zAO h=true->zBb h (pc e)=true){e:Expr}(he:zCj fit e=true)(hs:(e.args.length:Int)=zBi e.op){h:Option UInt8}(hh:zAO h=true):zBb h (zDn pc e)=true:=by
 have w93:zAO (some 93)=true:=rfl;have w125:zAO (some 125)=true:=rfl;have w41:zAO (some 41)=true:=rfl;have w91:zAO (some 91)=true:=rfl;unfold zCj at he;unfold zDn;by_cases h1:e.op=1
 ·rw[if_pos h1]at he ⊢;simp only[wan]at he;simp only[PCW,wai,wah,Bool.and_true,Bool.true_and,Bool.and_self,zAb 91 rfl,zAb 93 rfl,zAb 40 rfl,zAb 41 rfl,zAb 123 rfl,zAb 125 rfl,zAb 58 rfl,zAb 59 rfl,zAb 44 rfl,zAb 63 rfl,zAb 64 rfl,zAb 126 rfl,zAb 43 rfl,zDz he.1 zGR,zDz he.2 w93]
 rw[if_neg h1]at he ⊢;by_cases h2:e.op=14
 ·rw[if_pos h2]at he ⊢;simp only[PCW,wai,wah,Bool.and_true,Bool.true_and,Bool.and_self,zCg he hh]
 rw[if_neg h2]at he ⊢;by_cases h3:e.op=15
 ·rw[if_pos h3]at he ⊢;simp only[wan]at he;simp only[PCW,wai,wah,Bool.and_true,Bool.true_and,Bool.and_self,zAb 91 rfl,zAb 93 rfl,zAb 40 rfl,zAb 41 rfl,zAb 123 rfl,zAb 125 rfl,zAb 58 rfl,zAb 59 rfl,zAb 44 rfl,zAb 63 rfl,zAb 64 rfl,zAb 126 rfl,zAb 43 rfl,zCg he.1 w91,hr _ he.2 _ w93]
 rw[if_neg h3]at he ⊢;by_cases h4:e.op=2
 ·rw[if_pos h4]at he ⊢;simp only[PCW,wai,wah,Bool.and_true,Bool.true_and,Bool.and_self,zAb 91 rfl,zAb 93 rfl,zAb 40 rfl,zAb 41 rfl,zAb 123 rfl,zAb 125 rfl,zAb 58 rfl,zAb 59 rfl,zAb 44 rfl,zAb 63 rfl,zAb 64 rfl,zAb 126 rfl,zAb 43 rfl,hr _ he _ hh]
 rw[if_neg h4]at he ⊢;by_cases h5:e.op=10
 ·rw[if_pos h5]at he ⊢;simp only[wan]at he;simp only[PCW,wai,wah,Bool.and_true,Bool.true_and,Bool.and_self,zAb 91 rfl,zAb 93 rfl,zAb 40 rfl,zAb 41 rfl,zAb 123 rfl,zAb 125 rfl,zAb 58 rfl,zAb 59 rfl,zAb 44 rfl,zAb 63 rfl,zAb 64 rfl,zAb 126 rfl,zAb 43 rfl,hr _ he.1 _ zGR,hr _ he.2.1 _ zGR,hr _ he.2.2 _ w41]
 rw[if_neg h5]at he ⊢;by_cases h6:e.op=12
 ·rw[if_pos h6]at he ⊢;simp only[wan]at he;simp only[PCW,wai,wah,Bool.and_true,Bool.true_and,Bool.and_self,zAb 91 rfl,zAb 93 rfl,zAb 40 rfl,zAb 41 rfl,zAb 123 rfl,zAb 125 rfl,zAb 58 rfl,zAb 59 rfl,zAb 44 rfl,zAb 63 rfl,zAb 64 rfl,zAb 126 rfl,zAb 43 rfl,hr _ he.1 _ zGR,zDz he.2.1 zGR,zDz he.2.2 w125]
 rw[if_neg h6]at he ⊢;by_cases h7:e.op=13
 ·rw[if_pos h7]at he ⊢;simp only[wan]at he;simp only[PCW,wai,wah,Bool.and_true,Bool.true_and,Bool.and_self,zAb 91 rfl,zAb 93 rfl,zAb 40 rfl,zAb 41 rfl,zAb 123 rfl,zAb 125 rfl,zAb 58 rfl,zAb 59 rfl,zAb 44 rfl,zAb 63 rfl,zAb 64 rfl,zAb 126 rfl,zAb 43 rfl,hr _ he.1 _ zGR,zDz he.2 w125]
 rw[if_neg h7]at he ⊢;simp only[wan]at he;have ho:=pcOk_op (zHB hs h1 h2 h3 h4 h5 h6 h7);simp only[PCW,wai,wah,Bool.and_true,Bool.true_and,Bool.and_self,zAb 91 rfl,zAb 93 rfl,zAb 40 rfl,zAb 41 rfl,zAb 123 rfl,zAb 125 rfl,zAb 58 rfl,zAb 59 rfl,zAb 44 rfl,zAb 63 rfl,zAb 64 rfl,zAb 126 rfl,zAb 43 rfl,hr _ he.1 _ zGR,hr _ he.2 _ w41,ho]
theorem zCz: ∀(d:Nat) (e:Expr),zAB d e=true-> ∀h,zAO h=true->zBb h (zAA d e)=true
 | 0,_,h=>by cases h
 | d+1,e,he=>fun h hh=>by
  simp only[zAB,wan,decide_eq_true_eq]at he;exact pcs_op (zCz d) he.2.2 he.1 hh
theorem kw_ok: ∀s∈resL,zAC s=1/\s.data.toList.all isW=true:=by
 have key:resL.all (fun s=>decide (zAC s=1)&&s.data.toList.all isW)=true:=by kernel_rfl
 intro s hs;have:=List.all_eq_true.1 key s hs;simpa using this
theorem zC6{s:Bts}(hs:s∈resL){h:Option UInt8}(hh:zAO h=true):zDd (nm s) h=true:=pcOk_kw (kw_ok s hs) hh
theorem pcs_rule{r:Rule}(hr:zBZ r=true){h:Option UInt8}(hh:zAO h=true):zBb h (zBk r)=true:=by
 have k1:=zC6 (s:=(⟨#[105,110,105,116]⟩:ByteArray)) (by simp[resL]) hh;have k2:=zC6 (s:=(⟨#[107,101,101,112]⟩:ByteArray)) (by simp[resL]) hh;have k3:=zC6 (s:=(⟨#[99,111,112,121]⟩:ByteArray)) (by simp[resL]) zGR;have k4:=zC6 (s:=(⟨#[97,100,100]⟩:ByteArray)) (by simp[resL]) zGR;unfold zBZ at hr;unfold zBk;simp only[wan]at hr;obtain⟨_,hr⟩:=hr;by_cases h0:r.kind=0
 ·rw[if_pos h0]; simp only[PCW,wai,wah,Bool.and_true,Bool.true_and,Bool.and_self,k1]
 rw[if_neg h0]at hr ⊢;by_cases h1:r.kind=1
 ·rw[if_pos h1]; simp only[PCW,wai,wah,Bool.and_true,Bool.true_and,Bool.and_self,k2]
 rw[if_neg h1]at hr ⊢;by_cases h2:r.kind=2
 ·rw[if_pos h2]at hr ⊢;simp only[PCW,wai,wah,Bool.and_true,Bool.true_and,Bool.and_self,k3,zCg hr hh]
 rw[if_neg h2]at hr ⊢;by_cases h3:r.kind=3
 ·rw[if_pos h3]at hr;simp only[wan]at hr;simp only[PCW,wai,wah,Bool.and_true,Bool.true_and,Bool.and_self,k4,zCg hr.1 zGR,zIx hr.2 hh]
 ·rw[if_neg h3]at hr; cases hr
theorem pcs_els{α:Type}{fit:α->Bool}{one:α->List Pc}(ho: ∀x,fit x=true-> ∀h,zAO h=true->zBb h (one x)=true): ∀(l:List α),l.all fit=true-> ∀h,zAO h=true->zBb h (zBU one l)=true
 | [],_,_,_=>rfl
 | [x],hl,h,hh=>by simp only[List.all_cons,List.all_nil,Bool.and_true]at hl; exact ho x hl h hh
 | x::y::r,hl,h,hh=>by
  rw[List.all_cons,wan]at hl;have ih:=pcs_els ho (y::r) hl.2 h hh;have w44:zAO (some 44)=true:=rfl;simp only[zBU,PCW,wai,wah,Bool.and_true,Bool.true_and,Bool.and_self,zAb 91 rfl,zAb 93 rfl,zAb 40 rfl,zAb 41 rfl,zAb 123 rfl,zAb 125 rfl,zAb 58 rfl,zAb 59 rfl,zAb 44 rfl,zAb 63 rfl,zAb 64 rfl,zAb 126 rfl,zAb 43 rfl,ho x hl.1 _ w44,ih]
theorem zIz{α:Type}{fit:α->Bool}{one:α->List Pc}(ho: ∀x,fit x=true-> ∀h,zAO h=true->zBb h (one x)=true){l:List α}(hl:l.all fit=true)(h:Option UInt8):zBb h (zA5 one l)=true:=by
 have w41:zAO (some 41)=true:=rfl;simp only[zA5,PCW,wai,wah,Bool.and_true,Bool.true_and,Bool.and_self,zAb 91 rfl,zAb 93 rfl,zAb 40 rfl,zAb 41 rfl,zAb 123 rfl,zAb 125 rfl,zAb 58 rfl,zAb 59 rfl,zAb 44 rfl,zAb 63 rfl,zAb 64 rfl,zAb 126 rfl,zAb 43 rfl,pcs_els ho l hl _ w41]
theorem pcs_bind{b:Bind}(hb:zCL b=true)(h:Option UInt8)(hh:zAO h=true):zBb h (zBz b)=true:=by
 unfold zCL at hb;simp only[wan]at hb;simp only[zBz,PCW,wai,wah,Bool.and_true,Bool.true_and,Bool.and_self,zAb 91 rfl,zAb 93 rfl,zAb 40 rfl,zAb 41 rfl,zAb 123 rfl,zAb 125 rfl,zAb 58 rfl,zAb 59 rfl,zAb 44 rfl,zAb 63 rfl,zAb 64 rfl,zAb 126 rfl,zAb 43 rfl,zCg hb.1 zGR,zCg hb.2 hh]
theorem pcs_body{x:Item}(hx:zBB x=true){h:Option UInt8}(hh:zAO h=true):zBb h (zB7 x)=true:=by
 have k1:=zC6 (s:=(⟨#[105,102]⟩:ByteArray)) (by simp[resL]) zGR;have k2:=zC6 (s:=(⟨#[97,116]⟩:ByteArray)) (by simp[resL]) zGR;have w40:zAO (some 40)=true:=rfl;unfold zBB at hx;unfold zB7;by_cases h4:x.kind=4
 ·rw[if_pos h4]at hx ⊢;simp only[wan]at hx;simp only[PCW,wai,wah,Bool.and_true,Bool.true_and,Bool.and_self,zAb 91 rfl,zAb 93 rfl,zAb 40 rfl,zAb 41 rfl,zAb 123 rfl,zAb 125 rfl,zAb 58 rfl,zAb 59 rfl,zAb 44 rfl,zAb 63 rfl,zAb 64 rfl,zAb 126 rfl,zAb 43 rfl,zDz hx.1 zGR,zCz 8 _ hx.2.1 _ zGR,pcs_rule hx.2.2 hh]
 rw[if_neg h4]at hx ⊢;by_cases h5:x.kind=5
 ·rw[if_pos h5]at hx ⊢;simp only[PCW,wai,wah,Bool.and_true,Bool.true_and,Bool.and_self,zAb 91 rfl,zAb 93 rfl,zAb 40 rfl,zAb 41 rfl,zAb 123 rfl,zAb 125 rfl,zAb 58 rfl,zAb 59 rfl,zAb 44 rfl,zAb 63 rfl,zAb 64 rfl,zAb 126 rfl,zAb 43 rfl,zCz 8 _ hx _ hh]
 rw[if_neg h5]at hx ⊢;by_cases h6:x.kind=6
 ·rw[if_pos h6]at hx ⊢;simp only[wan]at hx;simp only[PCW,wai,wah,Bool.and_true,Bool.true_and,Bool.and_self,zAb 91 rfl,zAb 93 rfl,zAb 40 rfl,zAb 41 rfl,zAb 123 rfl,zAb 125 rfl,zAb 58 rfl,zAb 59 rfl,zAb 44 rfl,zAb 63 rfl,zAb 64 rfl,zAb 126 rfl,zAb 43 rfl,k1,k2,zCz 8 _ hx.1 _ zGR,zCz 8 _ hx.2.1 _ zGR,zCz 8 _ hx.2.2.1 _ zGR,pcs_rule hx.2.2.2 hh]
 rw[if_neg h6]at hx ⊢;by_cases h7:x.kind=7
 ·rw[if_pos h7]at hx ⊢;simp only[PCW,wai,wah,Bool.and_true,Bool.true_and,Bool.and_self,zAb 91 rfl,zAb 93 rfl,zAb 40 rfl,zAb 41 rfl,zAb 123 rfl,zAb 125 rfl,zAb 58 rfl,zAb 59 rfl,zAb 44 rfl,zAb 63 rfl,zAb 64 rfl,zAb 126 rfl,zAb 43 rfl,k1,zCz 8 _ hx _ hh]
 rw[if_neg h7]at hx ⊢;by_cases h8:x.kind=8
 ·rw[if_pos h8]at hx ⊢;simp only[wan]at hx;simp only[PCW,wai,wah,Bool.and_true,Bool.true_and,Bool.and_self,zAb 91 rfl,zAb 93 rfl,zAb 40 rfl,zAb 41 rfl,zAb 123 rfl,zAb 125 rfl,zAb 58 rfl,zAb 59 rfl,zAb 44 rfl,zAb 63 rfl,zAb 64 rfl,zAb 126 rfl,zAb 43 rfl,k1,zCz 8 _ hx.1 _ zGR,zCz 8 _ hx.2 _ hh]
 rw[if_neg h8]at hx ⊢;by_cases h9:x.kind=9
 ·rw[if_pos h9]at hx ⊢;simp only[wan]at hx;have a1:=zIz (fun y hy h hh=>zDz hy hh) hx.2.1 (some 32);have a2:=zIz (fun y hy h hh=>pcs_bind hy h hh) hx.2.2 h;have a3: ∀(h:Option UInt8) (l:List Num),pcH h (zA5 zAD l)=some 40:=fun _ _=>rfl;simp only[PCW,wai,wah,Bool.and_true,Bool.true_and,Bool.and_self,zAb 91 rfl,zAb 93 rfl,zAb 40 rfl,zAb 41 rfl,zAb 123 rfl,zAb 125 rfl,zAb 58 rfl,zAb 59 rfl,zAb 44 rfl,zAb 63 rfl,zAb 64 rfl,zAb 126 rfl,zAb 43 rfl,a3,zCg hx.1 w40,a1,a2]
 ·rw[if_neg h9]; rfl
theorem pcH_body{x:Item}{h:Option UInt8}(hh:zAO h=true):zAO (pcH h (zB7 x))=true:=by
 unfold zB7
 repeat' split
 all_goals first | rfl | exact hh
theorem pcH_dep{x:Item}{h:Option UInt8}(hh:zAO h=true):zAO (pcH h (zDx x))=true:=by
 unfold zDx;split
 ·rfl
 ·exact hh
theorem pcH_wid{x:Item}{h:Option UInt8}(hh:zAO h=true):zAO (pcH h (zDL x))=true:=by
 unfold zDL;split
 ·rfl
 ·exact hh
theorem pcs_item{x:Item}(hx:zAW x=true){h:Option UInt8}(hh:zAO h=true):zBb h (zAV x)=true:=by
 simp only[zAW,wan,decide_eq_true_eq]at hx;obtain⟨hk,_,hn,hw,hd,hb⟩:=hx;have w93:zAO (some 93)=true:=rfl;have hkw:kwL.getD (x.kind-1).toNat e0∈resL:=by
  have key: ∀i:Nat,i<9->(resL.any fun x=>decide (x=kwL.getD i e0))=true:=by decide
  obtain⟨y,h1,h2⟩:=List.any_eq_true.1 (key _ (show(x.kind-1).toNat <9 by omega));rw[<-of_decide_eq_true h2];exact h1
 have a1:=pcs_body hb hh;have a2:=pcH_body (x:=x) hh;have a3:zBb (pcH h (zB7 x)) (zDx x)=true:=by
  unfold zDx;by_cases h3:x.kind=3\/x.kind=6
  ·rw[if_pos h3]at hd ⊢;simp only[PCW,wai,wah,Bool.and_true,Bool.true_and,Bool.and_self,zAb 91 rfl,zAb 93 rfl,zAb 40 rfl,zAb 41 rfl,zAb 123 rfl,zAb 125 rfl,zAb 58 rfl,zAb 59 rfl,zAb 44 rfl,zAb 63 rfl,zAb 64 rfl,zAb 126 rfl,zAb 43 rfl,zDz hd w93]
  ·rw[if_neg h3]; rfl
 have a4:=pcH_dep (x:=x) a2;have a5:zBb (pcH (pcH h (zB7 x)) (zDx x)) (zDL x)=true:=by
  unfold zDL;by_cases h3:x.kind<=6
  ·rw[if_pos h3]at hw ⊢;simp only[PCW,wai,wah,Bool.and_true,Bool.true_and,Bool.and_self,zAb 91 rfl,zAb 93 rfl,zAb 40 rfl,zAb 41 rfl,zAb 123 rfl,zAb 125 rfl,zAb 58 rfl,zAb 59 rfl,zAb 44 rfl,zAb 63 rfl,zAb 64 rfl,zAb 126 rfl,zAb 43 rfl,zDz hw a4]
  ·rw[if_neg h3]; rfl
 have a6:=pcH_wid (x:=x) a4;simp only[zAV,PCW,wai,wah,Bool.and_true,Bool.true_and,Bool.and_self,zC6 hkw zGR,zCg hn a6,a5,a3,a1]
theorem pcs_items: ∀(l:List Item),l.all zAW=true-> ∀h,zBb h (zAJ l)=true
 | [],_,_=>rfl
 | x::r,hl,h=>by
  rw[List.all_cons,wan]at hl;have w59:zAO (some 59)=true:=rfl;simp only[zAJ,PCW,wai,wah,Bool.and_true,Bool.true_and,Bool.and_self,zAb 91 rfl,zAb 93 rfl,zAb 40 rfl,zAb 41 rfl,zAb 123 rfl,zAb 125 rfl,zAb 58 rfl,zAb 59 rfl,zAb 44 rfl,zAb 63 rfl,zAb 64 rfl,zAb 126 rfl,zAb 43 rfl,pcs_item hl.1 w59,pcs_items r hl.2 h]
theorem pcs_module{m:Module}(hm:zAG m=true)(h:Option UInt8):zBb h (zAE m)=true:=by
 simp only[zAG,wan]at hm;obtain⟨h1,h2,h3,h4⟩:=hm;have k1:=zC6 (s:=(⟨#[109,111,100,117,108,101]⟩:ByteArray)) (by simp[resL]) zGR;have w40:zAO (some 40)=true:=rfl;have a1:=zIz (one:=zBt) (fun y hy h hh=>by simp only[zBt,PCW,wai,wah,Bool.and_true,Bool.true_and,Bool.and_self,zCg hy hh]) h2 (some 32);have a2:=pcs_items m.items h4;have a3: ∀(h:Option UInt8) (l:List Bts),pcH h (zA5 zBt l)=some 40:=fun _ _=>rfl;simp only[zAE,zBQ,PCW,wai,wah,Bool.and_true,Bool.true_and,Bool.and_self,zAb 91 rfl,zAb 93 rfl,zAb 40 rfl,zAb 41 rfl,zAb 123 rfl,zAb 125 rfl,zAb 58 rfl,zAb 59 rfl,zAb 44 rfl,zAb 63 rfl,zAb 64 rfl,zAb 126 rfl,zAb 43 rfl,k1,zCg h1 w40,a3,a1,zCg h3 zGR,a2]
theorem zEf: ∀(l:List Module),l.all zAG=true->zBb none (zAk l)=true
 | [],_=>rfl
 | m::r,hl=>by
  rw[List.all_cons,wan]at hl;simp only[zAk,PCW,wai,wah,Bool.and_true,Bool.true_and,Bool.and_self,pcs_module hl.1,zEf r hl.2]
def At(T:List Tok)(a:Nat):List Pc->Prop
 | []=>True
 | p::r=>if p.1=0 then At T a r else(tk T a).1 =p.1/\(tk T a).2.1 =p.2/\At T (a+1) r
def nT:List Pc->Nat
 | []=>0
 | p::r=>if p.1=0 then nT r else nT r+1
theorem zAI(p q:List Pc):nT (p++q)=nT p+nT q:=by
 induction p with
 | nil=>simp[nT]
 | cons x r ih=>
  simp only[wai,nT,ih];split <;> omega
theorem zEZ(T:List Tok): ∀(p q:List Pc) (a:Nat),At T a (p++q)↔At T a p/\At T (a+nT p) q
 | [],q,a=>by simp[At,nT]
 | x::r,q,a=>by
  simp only[wai,At,nT];by_cases hx:x.1=0
  ·simp only[hx,if_true]; exact zEZ T r q a
  ·simp only[hx,if_false,zEZ T r q (a+1),and_assoc];rw[show a+1+nT r=a+(nT r+1) by omega]
theorem At_bl(T:List Tok)(a:Nat)(r:List Pc):At T a (bl::r)↔At T a r:=Iff.rfl
theorem At_nl(T:List Tok)(a:Nat)(r:List Pc):At T a (nl::r)↔At T a r:=Iff.rfl
def tkP(T:List Tok)(a k:Nat)(s:Bts):Prop:=(tk T a).1 =k/\(tk T a).2.1 =s
theorem At_sg(T:List Tok)(a:Nat)(s:Bts)(r:List Pc):At T a (sg s::r)↔tkP T a 3 s/\At T (a+1) r:=by
 show _/\_/\_↔_;unfold tkP; rw[and_assoc]; rfl
theorem At_nm(T:List Tok)(a:Nat)(s:Bts)(r:List Pc):At T a (nm s::r)↔tkP T a 1 s/\At T (a+1) r:=by
 show _/\_/\_↔_;unfold tkP; rw[and_assoc]; rfl
theorem At_nu(T:List Tok)(a:Nat)(n:Int)(r:List Pc):At T a (nu n::r)↔tkP T a 2 (zB2 n)/\At T (a+1) r:=by
 show _/\_/\_↔_;unfold tkP; rw[and_assoc]; rfl
theorem At_nil(T:List Tok)(a:Nat):At T a []↔True:=Iff.rfl
theorem zEK(r:List Pc):nT (bl::r)=nT r:=rfl
theorem zEL(r:List Pc):nT (nl::r)=nT r:=rfl
theorem zEO(s:Bts)(r:List Pc):nT (sg s::r)=nT r+1:=rfl
theorem zEM(s:Bts)(r:List Pc):nT (nm s::r)=nT r+1:=rfl
theorem zEN(n:Int)(r:List Pc):nT (nu n::r)=nT r+1:=rfl
theorem zCT:nT []=0:=rfl
def AtW:=And.intro @zEZ (And.intro @At_bl (And.intro @At_nl (And.intro @At_sg (And.intro @At_nm (And.intro @At_nu (And.intro @At_nil (And.intro @zAI (And.intro @zEK (And.intro @zEL (And.intro @zEO (And.intro @zEM (And.intro @zEN zCT))))))))))))
section
variable {T:List Tok} {a:Nat}
theorem zB1{k:Nat}{s:Bts}(h:tkP T a k s):isT T a k s=true:=by unfold isT; simp[h.1,h.2]
theorem zBa{k k':Nat}{s s':Bts}(h:tkP T a k s)(hn:(decide (k=k')&&decide (s=s'))=false):isT T a k' s'=false:=by
 unfold isT; rw[h.1,h.2]; exact hn
theorem zA0{s:Bts}(h:tkP T a 3 s):zBx T s a= .ok ((),a+1):=by unfold zBx; rw[if_pos (zB1 h)]
theorem word_f{s:Bts}(h:tkP T a 1 s):zDG T s a= .ok ((),a+1):=by unfold zDG; rw[if_pos (zB1 h)]
theorem zBY{s:Bts}(h:tkP T a 1 s)(hs:zAN s=true):zBE T a= .ok (s,a+1):=by
 unfold zBE; rw[h.1,h.2,if_pos ⟨rfl,(zEH hs).2.2.1⟩]
theorem zGJ{n least:Int}(h:tkP T a 2 (zB2 n))(hn:zCf n=true)(hl:least<=n):zAZ T least a= .ok (n,a+1):=by
 unfold zAZ; rw[h.2,atoi_itoa hn]; simp only[]; rw[if_pos ⟨h.1,hl⟩]
theorem num_f{x:Num}(hx:zAX x=true)(h:At T a (zAD x))(h1:isT T (a+nT (zAD x)) 3 (⟨#[43]⟩:ByteArray)=false)(h2:isT T (a+nT (zAD x)) 3 (⟨#[45]⟩:ByteArray)=false):zDM T a= .ok (x,a+nT (zAD x)):=by
 obtain⟨n,p⟩:=x;unfold zAX at hx;unfold zAD at h h1 h2 ⊢;simp only at hx h h1 h2 ⊢;by_cases hp:p=e0
 ·rw[if_pos hp]at hx h ⊢;simp only[AtW,wai,wah,and_true,true_and,Nat.zero_add,Nat.add_zero]at h ⊢;unfold zDM;rw[if_pos h.1,zGJ h hx (by simp[zCf]at hx; omega)];simp[hp]
 rw[if_neg hp]at hx h h1 h2 ⊢;simp only[wan,decide_eq_true_eq]at hx;by_cases hn:n>0
 ·rw[if_pos hn]at h ⊢;simp only[AtW,wai,wah,and_true,true_and,Nat.zero_add,Nat.add_zero]at h ⊢;obtain⟨g1,g2,g3⟩:=h;unfold zDM;rw[if_neg (by rw[g1.1]; decide),zBY g1 hx.1];simp only[PR.bd_ok];rw[if_pos (zB1 g2),zGJ g3 (by simp[zCf]; omega) (by omega)];rfl
 rw[if_neg hn]at h h1 h2 ⊢;by_cases hm:n<0
 ·rw[if_pos hm]at h ⊢;simp only[AtW,wai,wah,and_true,true_and,Nat.zero_add,Nat.add_zero]at h ⊢;obtain⟨g1,g2,g3⟩:=h;unfold zDM;rw[if_neg (by rw[g1.1]; decide),zBY g1 hx.1];simp only[PR.bd_ok];rw[if_neg (by rw[zBa g2 (by decide)]; decide),if_pos (zB1 g2),zGJ g3 (by simp[zCf]; omega) (by omega)];simp
 ·rw[if_neg hm]at h h1 h2 ⊢;simp only[AtW,wai,wah,and_true,true_and,Nat.zero_add,Nat.add_zero]at h h1 h2 ⊢;unfold zDM;rw[if_neg (by rw[h.1]; decide),zBY h hx.1];simp only[PR.bd_ok];rw[h1,h2];have:n=0:=by omega
  subst this;simp
theorem zEk{x:Num}(hx:zAX x=true)(h:At T a (zAD x)){k:Nat}{s:Bts}(hs:tkP T (a+nT (zAD x)) k s)(h1:(decide (k=3)&&decide (s=(⟨#[43]⟩:ByteArray)))=false)(h2:(decide (k=3)&&decide (s=(⟨#[45]⟩:ByteArray)))=false):zDM T a= .ok (x,a+nT (zAD x)):=
 num_f hx h (zBa hs h1) (zBa hs h2)
theorem opOf_sign{op:Int}(h:zAS op≠e0):(zGx (zAS op):Int)=op/\zAS op≠(⟨#[63]⟩:ByteArray):=by
 unfold zAS at h ⊢;split at h
 ·rename_i p hp;have hm:=List.mem_of_find?_eq_some hp;have hq:=List.find?_some hp;have key: ∀p∈opL,zGx p.1=p.2/\p.1≠(⟨#[63]⟩:ByteArray):=by decide
  have:=key p hm;simp only[decide_eq_true_eq]at hq;rw[this.1];exact⟨hq,this.2⟩
 ·exact absurd rfl h
theorem zDv{x:Num}(h:zCW x=true):x=n0:=by
 unfold zCW at h;simp only[wan,decide_eq_true_eq]at h;cases x;simp_all [n0]
def nameZ(e:Expr):Prop:=e.op≠14->e.op≠15->e.name=e0
def kZ(e:Expr):Prop:=e.op≠1->e.op≠12->e.k=n0
def wZ(e:Expr):Prop:=e.op≠1->e.op≠12->e.op≠13->e.w=n0
theorem zeroX_eq{e:Expr}(h:zCi e=true):nameZ e/\kZ e/\wZ e:=by
 unfold zCi at h;simp only[wan,Bool.or_eq_true,decide_eq_true_eq]at h;obtain⟨⟨h1,h2⟩,h3⟩:=h;refine⟨fun a b=> ?_,fun a b=> ?_,fun a b c=> ?_⟩
 ·simp_all
 ·rcases h2 with(h2 | h2) | h2
  ·exact zDv h2
  ·exact absurd h2 a
  ·exact absurd h2 b
 ·rcases h3 with((h3 | h3) | h3) | h3
  ·exact zDv h3
  ·exact absurd h3 a
  ·exact absurd h3 b
  ·exact absurd h3 c
theorem len_1{α:Type}{l:List α}{z:α}(h:(l.length:Int)=1):l=[l.getD 0 z]:=by
 match l,h with
 | [x],_=>rfl
 | [],h=>simp at h
 | x::y::r,h=>simp at h; omega
theorem len_2{α:Type}{l:List α}{z:α}(h:(l.length:Int)=2):l=[l.getD 0 z,l.getD 1 z]:=by
 match l,h with
 | [x,y],_=>rfl
 | [],h=>simp at h
 | [x],h=>simp at h
 | x::y::u::r,h=>simp at h; omega
theorem len_3{α:Type}{l:List α}{z:α}(h:(l.length:Int)=3):l=[l.getD 0 z,l.getD 1 z,l.getD 2 z]:=by
 match l,h with
 | [x,y,u],_=>rfl
 | [],h=>simp at h
 | [x],h=>simp at h
 | [x,y],h=>simp at h
 | x::y::u::v::r,h=>simp at h; omega
theorem zC1(e:Expr):e= .mk e.op e.name e.k e.w e.args:=by cases e; rfl
theorem op_f{rec:Nat->PR Expr}{fit:Expr->Bool}{pc:Expr->List Pc}{deep:Bool}(hd:deep=false-> ∀e,fit e=false)
  (hr: ∀e a,fit e=true->At T a (pc e)->isT T (a+nT (pc e)) 3 (⟨#[91]⟩:ByteArray)=false->rec a= .ok (e,a+nT (pc e)))
  {e:Expr} (he:zCj fit e=true) (hl:(e.args.length:Int)=zBi e.op) (hz:zCi e=true) (h:At T a (zDn pc e)) (hn:isT T (a+nT (zDn pc e)) 3 (⟨#[91]⟩:ByteArray)=false):zCK rec deep T a= .ok (e,a+nT (zDn pc e)):=by
 obtain⟨z1,z2,z3⟩:=zeroX_eq hz;have hdd: ∀e,fit e=true->deep=true:=fun e h=>by
  cases hdp:deep with
  | true=>rfl
  | false=>rw[hd hdp e]at h; cases h
 unfold zBi at hl;unfold zCj at he;unfold zDn at h hn ⊢;by_cases h1:e.op=1
 ·rw[if_pos h1]at he h ⊢;rw[if_pos (.inl h1)]at hl;simp only[wan]at he;simp only[AtW,wai,wah,and_true,true_and,Nat.zero_add,Nat.add_zero]at h ⊢;obtain⟨g1,g2,g3,g4,g5⟩:=h;unfold zCK;rw[if_pos (zB1 g1),zEk he.1 g2 g3 (by decide) (by decide)];simp only[PR.bd_ok];rw[zA0 g3];simp only[PR.bd_ok];rw[zEk he.2 g4 g5 (by decide) (by decide)];simp only[PR.bd_ok];rw[zA0 g5];simp only[PR.bd_ok];have ha:e.args=[]:=by
   cases hh:e.args with
   | nil=>rfl
   | cons x r=>rw[hh]at hl; simp at hl; omega
  rw[show e= .mk 1 e0 e.k e.w [] by rw[zC1 e,h1,ha,z1 (by omega) (by omega)]; rfl];simp only[Expr.k,Expr.w,Except.ok.injEq,Prod.mk.injEq,true_and];omega
 rw[if_neg h1]at he h hn ⊢;by_cases h2:e.op=14
 ·rw[if_pos h2]at he h hn ⊢;rw[if_pos (.inr h2)]at hl;simp only[AtW,wai,wah,and_true,true_and,Nat.zero_add,Nat.add_zero]at h hn ⊢;unfold zCK;rw[if_neg (by rw[zBa h (by simp)]; decide),if_pos h.1,zBY h he];simp only[PR.bd_ok];rw[if_neg (by rw[hn]; simp)];have ha:e.args=[]:=by
   cases hh:e.args with
   | nil=>rfl
   | cons x r=>rw[hh]at hl; simp at hl; omega
  rw[show e= .mk 14 e.name n0 n0 [] by rw[zC1 e,h2,ha,z2 (by omega) (by omega),z3 (by omega) (by omega) (by omega)]; rfl];rfl
 rw[if_neg h2]at he h hn ⊢;rw[if_neg (by omega)]at hl;by_cases h3:e.op=15
 ·rw[if_pos h3]at he h hn ⊢;rw[if_pos (by omega)]at hl;simp only[wan]at he;simp only[AtW,wai,wah,and_true,true_and,Nat.zero_add,Nat.add_zero]at h ⊢;obtain⟨g1,g2,g3,g4⟩:=h;have hdp:=hdd _ he.2;unfold zCK;rw[if_neg (by rw[zBa g1 (by simp)]; decide),if_pos g1.1,zBY g1 he.1];simp only[PR.bd_ok];rw[if_pos ⟨hdp,zB1 g2⟩,hr _ _ he.2 g3 (zBa g4 (by decide))];simp only[PR.bd_ok];rw[zA0 g4];simp only[PR.bd_ok,Except.ok.injEq,Prod.mk.injEq];refine⟨?_,by omega⟩;have ha:=len_1 (z:=x0) hl
  conv=>rhs; rw[zC1 e,h3,ha,z2 (by omega) (by omega),z3 (by omega) (by omega) (by omega)]
 rw[if_neg h3]at he h hn ⊢;by_cases h4:e.op=2
 ·rw[if_pos h4]at he h hn ⊢;rw[if_pos (by omega)]at hl;simp only[AtW,wai,wah,and_true,true_and,Nat.zero_add,Nat.add_zero]at h hn ⊢;obtain⟨g1,g2⟩:=h;have hdp:=hdd _ he;unfold zCK;rw[if_neg (by rw[zBa g1 (by decide)]; decide),if_neg (by rw[g1.1]; decide),if_neg (by rw[hdp]; decide),if_pos (zB1 g1),
   hr _ _ he g2 (by rw[show a+1+nT (pc (e.args.getD 0 x0))=a+(nT (pc (e.args.getD 0 x0))+1) by omega]; exact hn)]
  simp only[PR.bd_ok,Except.ok.injEq,Prod.mk.injEq];refine⟨?_,by omega⟩;have ha:=len_1 (z:=x0) hl
  conv=>rhs; rw[zC1 e,h4,ha,z1 (by omega) (by omega),z2 (by omega) (by omega),z3 (by omega) (by omega) (by omega)]
 rw[if_neg h4]at he h hn ⊢;by_cases h5:e.op=10
 ·rw[if_pos h5]at he h hn ⊢;rw[if_neg (by omega),if_pos h5]at hl;simp only[wan]at he;simp only[AtW,wai,wah,and_true,true_and,Nat.zero_add,Nat.add_zero]at h ⊢;obtain⟨g1,g2,g3,g4,g5,g6,g7⟩:=h;have hdp:=hdd _ he.1;unfold zCK;rw[if_neg (by rw[zBa g1 (by decide)]; decide),if_neg (by rw[g1.1]; decide),if_neg (by rw[hdp]; decide),if_neg (by rw[zBa g1 (by decide)]; decide),if_pos (zB1 g1)];unfold zC7;rw[hr _ _ he.1 g2 (zBa g3 (by decide))];simp only[PR.bd_ok];rw[if_pos (zB1 g3),hr _ _ he.2.1 g4 (zBa g5 (by decide))];simp only[PR.bd_ok];rw[zA0 g5];simp only[PR.bd_ok];rw[hr _ _ he.2.2 g6 (zBa g7 (by decide))];simp only[PR.bd_ok];rw[zA0 g7];simp only[PR.bd_ok,Except.ok.injEq,Prod.mk.injEq];refine⟨?_,by omega⟩;have ha:=len_3 (z:=x0) hl
  conv=>rhs; rw[zC1 e,h5,ha,z1 (by omega) (by omega),z2 (by omega) (by omega),z3 (by omega) (by omega) (by omega)]
 rw[if_neg h5]at he h hn ⊢;by_cases h6:e.op=12
 ·rw[if_pos h6]at he h hn ⊢;rw[if_pos (by omega)]at hl;simp only[wan]at he;simp only[AtW,wai,wah,and_true,true_and,Nat.zero_add,Nat.add_zero]at h ⊢;obtain⟨g1,g2,g3,g4,g5,g6,g7⟩:=h;have hdp:=hdd _ he.1;unfold zCK;rw[if_neg (by rw[zBa g1 (by decide)]; decide),if_neg (by rw[g1.1]; decide),if_neg (by rw[hdp]; decide),if_neg (by rw[zBa g1 (by decide)]; decide),if_neg (by rw[zBa g1 (by decide)]; decide),if_pos (zB1 g1)];unfold zC0;rw[hr _ _ he.1 g2 (zBa g3 (by decide))];simp only[PR.bd_ok];rw[if_pos (zB1 g3),zEk he.2.1 g4 g5 (by decide) (by decide)];simp only[PR.bd_ok];rw[zA0 g5];simp only[PR.bd_ok];rw[zEk he.2.2 g6 g7 (by decide) (by decide)];simp only[PR.bd_ok];rw[zA0 g7];simp only[PR.bd_ok,Except.ok.injEq,Prod.mk.injEq];refine⟨?_,by omega⟩;have ha:=len_1 (z:=x0) hl
  conv=>rhs; rw[zC1 e,h6,ha,z1 (by omega) (by omega)]
 rw[if_neg h6]at he h hn ⊢;by_cases h7:e.op=13
 ·rw[if_pos h7]at he h hn ⊢;rw[if_pos (by omega)]at hl;simp only[wan]at he;simp only[AtW,wai,wah,and_true,true_and,Nat.zero_add,Nat.add_zero]at h ⊢;obtain⟨g1,g2,g3,g6,g7⟩:=h;have hdp:=hdd _ he.1;unfold zCK;rw[if_neg (by rw[zBa g1 (by decide)]; decide),if_neg (by rw[g1.1]; decide),if_neg (by rw[hdp]; decide),if_neg (by rw[zBa g1 (by decide)]; decide),if_neg (by rw[zBa g1 (by decide)]; decide),if_pos (zB1 g1)];unfold zC0;rw[hr _ _ he.1 g2 (zBa g3 (by decide))];simp only[PR.bd_ok];rw[if_neg (by rw[zBa g3 (by decide)]; decide),zA0 g3];simp only[PR.bd_ok];rw[zEk he.2 g6 g7 (by decide) (by decide)];simp only[PR.bd_ok];rw[zA0 g7];simp only[PR.bd_ok,Except.ok.injEq,Prod.mk.injEq];refine⟨?_,by omega⟩;have ha:=len_1 (z:=x0) hl
  conv=>rhs; rw[zC1 e,h7,ha,z1 (by omega) (by omega),z2 (by omega) (by omega)]
 rw[if_neg h7]at he h hn ⊢;have hsg:zAS e.op≠e0:=by
  intro h8;rw[if_neg (by omega),if_neg h5,if_neg (by simpa using h8)]at hl;omega
 rw[if_neg (by omega),if_neg h5,if_pos hsg]at hl;obtain⟨o1,o2⟩:=opOf_sign hsg;simp only[wan]at he;simp only[AtW,wai,wah,and_true,true_and,Nat.zero_add,Nat.add_zero]at h ⊢;obtain⟨g1,g2,g3,g4,g5⟩:=h;have hdp:=hdd _ he.1;have hop:e.op≠0:=by
  intro h0;rw[h0]at hsg;exact hsg rfl
 unfold zCK;rw[if_neg (by rw[zBa g1 (by decide)]; decide),if_neg (by rw[g1.1]; decide),if_neg (by rw[hdp]; decide),if_neg (by rw[zBa g1 (by decide)]; decide),if_pos (zB1 g1)];unfold zC7;have g3':isT T (a+1+nT (pc (e.args.getD 0 x0))) 3 (⟨#[91]⟩:ByteArray)=false:=by
  refine zBa g3 ?_;have key: ∀p∈opL,p.1≠(⟨#[91]⟩:ByteArray):=by decide
  unfold zAS at hsg ⊢;split at hsg
  ·rename_i p hp;simp[key p (List.mem_of_find?_eq_some hp)]
  ·exact absurd rfl hsg
 rw[hr _ _ he.1 g2 g3'];simp only[PR.bd_ok];rw[if_neg (by rw[zBa g3 (by simp[o2])]; decide),if_neg (by rw[g3.1,g3.2]; omega),hr _ _ he.2 g4 (zBa g5 (by decide))];simp only[PR.bd_ok];rw[zA0 g5];simp only[PR.bd_ok,Except.ok.injEq,Prod.mk.injEq];refine⟨?_,by omega⟩;have ha:=len_2 (z:=x0) hl;rw[g3.2,o1]
 conv=>rhs; rw[zC1 e,ha,z1 (by omega) (by omega),z2 (by omega) (by omega),z3 (by omega) (by omega) (by omega)]
end
theorem expr_f{T:List Tok}: ∀(d:Nat) (e:Expr) (a:Nat),zAB d e=true->At T a (zAA d e)->isT T (a+nT (zAA d e)) 3 (⟨#[91]⟩:ByteArray)=false->zBA T d a= .ok (e,a+nT (zAA d e))
 | 0,_,_,h,_,_=>by cases h
 | d+1,e,a,he,h,hn=>by
  simp only[zAB,wan,decide_eq_true_eq]at he;refine op_f (fit:=zAB d) (pc:=zAA d) (fun hd=> ?_) (expr_f d) he.2.2 he.1 he.2.1 h hn;have:d=0:=by simpa using hd
  subst this;exact fun _=>rfl
section
variable {T:List Tok} {a:Nat}
theorem zAl{n m k:Nat}{s:Bts}(h:tkP T n k s)(e:n=m):tkP T m k s:=e▸h
theorem zAz{n m:Nat}{p:List Pc}(h:At T n p)(e:n=m):At T m p:=e▸h
theorem zAK{α β:Type}{r:PR α}{f:α->Nat->PR β}{x:α}{b:Nat}{z:PR β}(h:r= .ok (x,b))(h2:f x b=z):r.bd f=z:=by rw[h]; exact h2
theorem zBy{α:Type}{x y:α}{n m:Nat}(h:x=y)(e:n=m):(Except.ok (x,n):PR α)= .ok (y,m):=by rw[h,e]
theorem tkP_lt{k:Nat}{s:Bts}(h:tkP T a k s)(hk:k≠0):a<T.length:=by
 rcases Nat.lt_or_ge a T.length with h1 | h1
 ·exact h1
 ·exfalso;have:=h.1;unfold tk at this;rw[List.getD,List.getElem?_eq_none h1]at this;exact hk this.symm
theorem At_lt: ∀(p:List Pc) (a:Nat),At T a p->0<nT p->a+nT p<=T.length
 | [],_,_,h=>by simp[nT]at h
 | x::r,a,h,hn=>by
  simp only[At,nT]at h hn ⊢;by_cases hx:x.1=0
  ·simp only[hx,if_true]at h hn ⊢;exact At_lt r a h hn
  ·simp only[hx,if_false]at h hn ⊢;have h1:=tkP_lt (k:=x.1) (s:=x.2.1 |> fun _=>x.2) ⟨h.1,h.2.1⟩ hx;rcases Nat.eq_zero_or_pos (nT r)with h0 | h0
   ·omega
   ·have:=At_lt r (a+1) h.2.2 h0;omega
theorem rule_f{r:Rule}(hr:zBZ r=true)(h:At T a (zBk r)):zEm T a= .ok (r,a+nT (zBk r)):=by
 obtain⟨k,f,n⟩:=r;unfold zBZ at hr;simp only[wan,Bool.or_eq_true,decide_eq_true_eq]at hr;obtain⟨⟨h1,h2⟩,hr⟩:=hr;unfold zBk at h ⊢;simp only at h ⊢;have l0:zFX.lookup (⟨#[105,110,105,116]⟩:ByteArray)=some 0:=by decide
 have l1:zFX.lookup (⟨#[107,101,101,112]⟩:ByteArray)=some 1:=by decide
 have l2:zFX.lookup (⟨#[99,111,112,121]⟩:ByteArray)=some 2:=by decide
 have l3:zFX.lookup (⟨#[97,100,100]⟩:ByteArray)=some 3:=by decide
 unfold zEm;by_cases h0:k=0
 ·rw[if_pos h0]at h ⊢;simp only[AtW,wai,wah,and_true,true_and,Nat.zero_add,Nat.add_zero]at h ⊢;rw[if_neg (by rw[h.1]; simp),h.2,l0];have e1:f=e0:=by rcases h1 with h1 | h1; exact h1; omega
  have e2:n=0:=by rcases h2 with h2 | h2; exact h2; omega
  simp[h0,e1,e2]
 rw[if_neg h0]at hr h ⊢;by_cases h1':k=1
 ·rw[if_pos h1']at h ⊢;simp only[AtW,wai,wah,and_true,true_and,Nat.zero_add,Nat.add_zero]at h ⊢;rw[if_neg (by rw[h.1]; simp),h.2,l1];have e1:f=e0:=by rcases h1 with h1 | h1; exact h1; omega
  have e2:n=0:=by rcases h2 with h2 | h2; exact h2; omega
  simp[h1',e1,e2]
 rw[if_neg h1']at hr h ⊢;by_cases h2':k=2
 ·rw[if_pos h2']at hr h ⊢;simp only[AtW,wai,wah,and_true,true_and,Nat.zero_add,Nat.add_zero]at h ⊢;obtain⟨g1,g2⟩:=h;rw[if_neg (by rw[g1.1]; simp),g1.2,l2];simp only[];rw[zBY g2 hr];have e2:n=0:=by rcases h2 with h2 | h2; exact h2; omega
  simp[h2',e2]
 rw[if_neg h2']at hr h ⊢;by_cases h3:k=3
 ·rw[if_pos h3,wan]at hr;simp only[AtW,wai,wah,and_true,true_and,Nat.zero_add,Nat.add_zero]at h ⊢;obtain⟨g1,g2,g3⟩:=h;rw[if_neg (by rw[g1.1]; simp),g1.2,l3];simp only[];rw[zBY g2 hr.1];simp only[PR.bd_ok];have:=hr.2;simp only[zCf,wan,decide_eq_true_eq]at this;rw[zGJ g3 hr.2 (by omega)];simp[h3]
 ·rw[if_neg h3]at hr; cases hr
def zBK{α:Type}(pc:α->List Pc):List α->List Pc
 | []=>[]
 | x::r=>sg (⟨#[44]⟩:ByteArray)::bl::(pc x++zBK pc r)
theorem zEe{α:Type}(pc:α->List Pc): ∀(x:α) (r:List α),zBU pc (x::r)=pc x++zBK pc r
 | x,[]=>by simp[zBU,zBK]
 | x,y::r=>by
  have:=zEe pc y r;simp only[zBU,zBK,this]
def zeZ(T:List Tok)(b:Nat):Prop:=tkP T b 3 (⟨#[44]⟩:ByteArray)\/tkP T b 3 (⟨#[41]⟩:ByteArray)
theorem rest_ends{α:Type}(pc:α->List Pc)(l:List α)(h:At T a (zBK pc l++[sg (⟨#[41]⟩:ByteArray)])):zeZ T a:=by
 cases l with
 | nil=>simp only[zBK,AtW,wai,wah,and_true,true_and,Nat.zero_add,Nat.add_zero]at h; exact .inr h
 | cons x r=>simp only[zBK,AtW,wai,wah,and_true,true_and,Nat.zero_add,Nat.add_zero]at h; exact .inl h.1
theorem rest_f{α:Type}{one:Nat->PR α}{fit:α->Bool}{pc:α->List Pc}(ho: ∀x a,fit x=true->At T a (pc x)->zeZ T (a+nT (pc x))->one a= .ok (x,a+nT (pc x))):
  ∀(l:List α) (n:Nat) (acc:List α) (a:Nat),l.length<n->l.all fit=true->At T a (zBK pc l++[sg (⟨#[41]⟩:ByteArray)])->zDB one T n acc a= .ok (acc++l,a+nT (zBK pc l)+1)
 | [],n+1,acc,a,_,_,h=>by
  simp only[zBK,AtW,wai,wah,and_true,true_and,Nat.zero_add,Nat.add_zero]at h;unfold zDB;rw[if_neg (by rw[zBa h (by decide)]; decide),zA0 h];simp[zBK,nT]
 | x::r,n+1,acc,a,hn,hl,h=>by
  rw[List.all_cons,wan]at hl;simp only[zBK,AtW,wai,wah,and_true,true_and,Nat.zero_add,Nat.add_zero]at h;obtain⟨g1,⟨g2,g3⟩,g4⟩:=h;have h2:At T (a+1+nT (pc x)) (zBK pc r++[sg (⟨#[41]⟩:ByteArray)]):=by
   simp only[AtW,wai,wah,and_true,true_and,Nat.zero_add,Nat.add_zero];exact⟨g3,zAl g4 (by omega)⟩
  unfold zDB;rw[if_pos (zB1 g1),ho x (a+1) hl.1 g2 (rest_ends pc r h2)];simp only[PR.bd_ok];rw[rest_f ho r n _ _ (by simpa using hn) hl.2 h2];simp only[waf,wai,wah,zBK,AtW,wai,wah,and_true,true_and,Nat.zero_add,Nat.add_zero,Except.ok.injEq,Prod.mk.injEq];omega
theorem list_f{α:Type}{one:Nat->PR α}{fit:α->Bool}{pc:α->List Pc}(ho: ∀x a,fit x=true->At T a (pc x)->zeZ T (a+nT (pc x))->one a= .ok (x,a+nT (pc x)))
  (hp: ∀x a,fit x=true->At T a (pc x)->isT T a 3 (⟨#[41]⟩:ByteArray)=false) {l:List α} (hl:l.all fit=true) (h:At T a (zA5 pc l)):zDg one T a= .ok (l,a+nT (zA5 pc l)):=by
 unfold zA5 at h ⊢;simp only[AtW,wai,wah,and_true,true_and,Nat.zero_add,Nat.add_zero]at h ⊢;obtain⟨g1,g2,g3⟩:=h;unfold zDg;rw[zA0 g1];simp only[PR.bd_ok];cases l with
 | nil=>
  simp only[zBU,AtW,wai,wah,and_true,true_and,Nat.zero_add,Nat.add_zero]at g3 ⊢;rw[if_pos (zB1 g3)]
 | cons x r=>
  rw[zEe]at g2 g3 ⊢;rw[List.all_cons,wan]at hl;simp only[AtW,wai,wah,and_true,true_and,Nat.zero_add,Nat.add_zero]at g2 g3 ⊢;obtain⟨g2,g4⟩:=g2;have h2:At T (a+1+nT (pc x)) (zBK pc r++[sg (⟨#[41]⟩:ByteArray)]):=by
   simp only[AtW,wai,wah,and_true,true_and,Nat.zero_add,Nat.add_zero];exact⟨g4,by rw[show a+1+nT (pc x)+nT (zBK pc r)=a+1+(nT (pc x)+nT (zBK pc r)) by omega]; exact g3⟩
  have hlen:r.length<T.length:=by
   have h3:=At_lt _ _ h2 (by simp only[AtW,wai,wah,and_true,true_and,Nat.zero_add,Nat.add_zero]; omega);have: ∀r:List α,r.length<=nT (zBK pc r):=by
    intro r
    induction r with
    | nil=>exact Nat.zero_le _
    | cons y r ih=>simp only[zBK,AtW,wai,wah,and_true,true_and,Nat.zero_add,Nat.add_zero,wac]; omega
   have:=this r;simp only[AtW,wai,wah,and_true,true_and,Nat.zero_add,Nat.add_zero]at h3;omega
  rw[if_neg (by rw[hp x _ hl.1 g2]; decide),ho x _ hl.1 g2 (rest_ends pc r h2)];simp only[PR.bd_ok];rw[rest_f ho r _ _ _ hlen hl.2 h2];simp only[wai,wah,Except.ok.injEq,Prod.mk.injEq,true_and];omega
theorem num_e{x:Num}(hx:zAX x=true)(h:At T a (zAD x))(he:zeZ T (a+nT (zAD x))):zDM T a= .ok (x,a+nT (zAD x)):=by
 rcases he with he | he
 ·exact zEk hx h he (by decide) (by decide)
 ·exact zEk hx h he (by decide) (by decide)
theorem num_hp{x:Num}(h:At T a (zAD x)):isT T a 3 (⟨#[41]⟩:ByteArray)=false:=by
 unfold zAD at h;split at h
 ·simp only[AtW,wai,wah,and_true,true_and,Nat.zero_add,Nat.add_zero]at h; exact zBa h (by simp)
 split at h
 ·simp only[AtW,wai,wah,and_true,true_and,Nat.zero_add,Nat.add_zero]at h; exact zBa h.1 (by simp)
 split at h
 ·simp only[AtW,wai,wah,and_true,true_and,Nat.zero_add,Nat.add_zero]at h; exact zBa h.1 (by simp)
 ·simp only[AtW,wai,wah,and_true,true_and,Nat.zero_add,Nat.add_zero]at h; exact zBa h (by simp)
theorem bind_f{b:Bind}(hb:zCL b=true)(h:At T a (zBz b)):zDP T a= .ok (b,a+nT (zBz b)):=by
 unfold zCL at hb;rw[wan]at hb;unfold zBz at h ⊢;simp only[AtW,wai,wah,and_true,true_and,Nat.zero_add,Nat.add_zero]at h ⊢;obtain⟨g1,g2,g3⟩:=h;unfold zDP;rw[zBY g1 hb.1];simp only[PR.bd_ok];rw[zA0 g2];simp only[PR.bd_ok];rw[zBY g3 hb.2];rfl
theorem bind_hp{b:Bind}(h:At T a (zBz b)):isT T a 3 (⟨#[41]⟩:ByteArray)=false:=by
 unfold zBz at h;simp only[AtW,wai,wah,and_true,true_and,Nat.zero_add,Nat.add_zero]at h;exact zBa h.1 (by simp)
theorem zFI{e:Expr}(h:zCE e=true):e=x0:=by
 obtain⟨o,n,k,w,l⟩:=e;unfold zCE at h;simp only[wan,decide_eq_true_eq]at h;obtain⟨⟨⟨⟨h1,h2⟩,h3⟩,h4⟩,h5⟩:=h;simp only[Expr.op,Expr.name,Expr.k,Expr.w,Expr.args]at h1 h2 h3 h4 h5;rw[h1,h2,zDv h3,zDv h4,List.length_eq_zero_iff.1 h5];rfl
theorem zeroI_eq{x:Item}(h:zDm x=true):
  (6<x.kind->x.width=n0)/\(x.kind≠3->x.kind≠6->x.depth=n0)/\(x.kind≠4->x.init=n0)/\(x.kind<4\/x.kind=9->x.a=x0)/\(x.kind≠6->x.kind≠8->x.b=x0)/\(x.kind≠6->x.c=x0)/\
   (x.kind≠4->x.kind≠6->x.rule=r0)/\(x.kind≠9->x.of=e0/\x.args=[]/\x.ports=[]):=by
 unfold zDm at h;simp only[wan,Bool.or_eq_true,decide_eq_true_eq]at h;obtain⟨⟨⟨⟨⟨⟨⟨h1,h2⟩,h3⟩,h4⟩,h5⟩,h6⟩,h7⟩,h8⟩:=h;refine⟨fun _=> ?_,fun _ _=> ?_,fun _=> ?_,fun _=> ?_,fun _ _=> ?_,fun _=> ?_,fun _ _=> ?_,fun _=> ?_⟩
 ·rcases h1 with h1 | h1; exact zDv h1; omega
 ·rcases h2 with(h2 | h2) | h2; exact zDv h2; omega; omega
 ·rcases h3 with h3 | h3; exact zDv h3; omega
 ·rcases h4 with h4 | h4; exact zFI h4; omega
 ·rcases h5 with(h5 | h5) | h5; exact zFI h5; omega; omega
 ·rcases h6 with h6 | h6; exact zFI h6; omega
 ·rcases h7 with(h7 | h7) | h7; exact h7; omega; omega
 ·rcases h8 with h8 | h8
  ·exact⟨h8.1.1,List.length_eq_zero_iff.1 h8.1.2,List.length_eq_zero_iff.1 h8.2⟩
  ·omega
theorem zCy(x:Item):x=⟨x.kind,x.name,x.width,x.depth,x.init,x.a,x.b,x.c,x.rule,x.of,x.args,x.ports⟩:=rfl
theorem zGb{d:Nat}{e:Expr}(he:zAB d e=true)(h:At T a (zAA d e)){k:Nat}{s:Bts}(hs:tkP T (a+nT (zAA d e)) k s)(h1:(decide (k=3)&&decide (s=(⟨#[91]⟩:ByteArray)))=false):zBA T d a= .ok (e,a+nT (zAA d e)):=
 expr_f d e a he h (zBa hs h1)
theorem rule_hd{r:Rule}(h:At T a (zBk r)): ∃s,tkP T a 1 s:=by
 unfold zBk at h;split at h
 ·simp only[AtW,wai,wah,and_true,true_and,Nat.zero_add,Nat.add_zero]at h; exact⟨_,h⟩
 split at h
 ·simp only[AtW,wai,wah,and_true,true_and,Nat.zero_add,Nat.add_zero]at h; exact⟨_,h⟩
 split at h
 ·simp only[AtW,wai,wah,and_true,true_and,Nat.zero_add,Nat.add_zero]at h; exact⟨_,h.1⟩
 ·simp only[AtW,wai,wah,and_true,true_and,Nat.zero_add,Nat.add_zero]at h; exact⟨_,h.1⟩
end
theorem item_f{T:List Tok}{a:Nat}{x:Item}(hx:zAW x=true)(h:At T a (zAV x++[sg (⟨#[59]⟩:ByteArray),nl])):zDV T a= .ok (x,a+nT (zAV x)+1):=by
 simp only[zAW,wan,decide_eq_true_eq]at hx;obtain⟨hk,hz,hn,hw,hd,hb⟩:=hx;obtain⟨z1,z2,z3,z4,z5,z6,z7,z8⟩:=zeroI_eq hz;have key: ∀i:Nat,i<9->zIg.lookup (kwL.getD i e0)=some (i+1):=by decide
 have hkey:=key (x.kind-1).toNat (by omega);simp only[zAV,AtW,wai,wah,and_true,true_and,Nat.zero_add,Nat.add_zero]at h ⊢;obtain⟨g1,g2,⟨gw,gd,gb⟩,ge⟩:=h;unfold zDV;rw[if_neg (by rw[g1.1]; simp),g1.2,hkey];simp only[];unfold zDL at gw gd gb ge ⊢;unfold zDx at gd gb ge ⊢;unfold zB7 at gb ge ⊢;unfold zBB at hb;clear hkey key;have q1: ∀ {α:Type} (x y:α),(if (1:Int)=3\/(1:Int)=6 then x else y)=y:=fun _ _=>rfl;rcases(show x.kind=1\/x.kind=2\/x.kind=3\/x.kind=4\/x.kind=5\/x.kind=6\/x.kind=7\/x.kind=8\/x.kind=9 by omega)with hK | hK | hK | hK | hK | hK | hK | hK | hK
 all_goals
  simp only[hK,Int.reduceLE,Int.reduceEq,Int.reduceSub,Int.reduceToNat,Nat.reduceAdd,or_false,false_or,or_true,true_or,or_self,if_true,if_false,wan,Bool.true_and,Bool.and_true,reduceCtorEq,AtW,wai,wah,and_true,true_and,Nat.zero_add,Nat.add_zero]at gw gd gb ge hw hd hb ⊢;unfold zHh
 ·have hX:{zBg 1 with name:=x.name,width:=x.width}=x:=by
   rw[zCy x,hK,z2 (by omega) (by omega),z3 (by omega),z4 (by omega),z5 (by omega) (by omega),z6 (by omega),z7 (by omega) (by omega),(z8 (by omega)).1,(z8 (by omega)).2.1,(z8 (by omega)).2.2]; rfl
  refine zAK (x:=x) (b:=a+(nT (zAD x.width)+1+1+1)) ?_ ?_
  ·simp only[];unfold zCc;refine zAK (zBY g2 hn) (zAK (zA0 (zAl gw.1 (by omega))) (zAK (zEk hw (zAz gw.2 (by omega)) (zAl ge (by omega)) (by decide) (by decide)) (zBy hX (by omega))))
  ·refine zAK (zA0 (zAl ge (by omega))) (zBy rfl (by omega))
 ·have hX:{zBg 2 with name:=x.name,width:=x.width}=x:=by
   rw[zCy x,hK,z2 (by omega) (by omega),z3 (by omega),z4 (by omega),z5 (by omega) (by omega),z6 (by omega),z7 (by omega) (by omega),(z8 (by omega)).1,(z8 (by omega)).2.1,(z8 (by omega)).2.2]; rfl
  refine zAK (x:=x) (b:=a+(nT (zAD x.width)+1+1+1)) ?_ ?_
  ·simp only[];unfold zCc;refine zAK (zBY g2 hn) (zAK (zA0 (zAl gw.1 (by omega))) (zAK (zEk hw (zAz gw.2 (by omega)) (zAl ge (by omega)) (by decide) (by decide)) (zBy hX (by omega))))
  ·refine zAK (zA0 (zAl ge (by omega))) (zBy rfl (by omega))
 ·have hX:{zBg 3 with name:=x.name,width:=x.width,depth:=x.depth}=x:=by
   rw[zCy x,hK,z3 (by omega),z4 (by omega),z5 (by omega) (by omega),z6 (by omega),z7 (by omega) (by omega),(z8 (by omega)).1,(z8 (by omega)).2.1,(z8 (by omega)).2.2]; rfl
  refine zAK (x:=x) (b:=a+(nT (zAD x.width)+nT (zAD x.depth)+1+1+1+1+1)) ?_ ?_
  ·simp only[];unfold zE0 zCc;refine zAK (x:={zBg 3 with name:=x.name,width:=x.width}) (b:=a+(nT (zAD x.width)+1+1+1)) (zAK (zBY g2 hn) (zAK (zA0 (zAl gw.1 (by omega))) (zAK (zEk hw (zAz gw.2 (by omega)) (zAl gd.1 (by omega)) (by decide) (by decide)) (zBy rfl (by omega))))) (zAK (zA0 (zAl gd.1 (by omega))) (zAK (zEk hd (zAz gd.2.1 (by omega)) (zAl gd.2.2 (by omega)) (by decide) (by decide)) (zAK (zA0 (zAl gd.2.2 (by omega))) (zBy hX (by omega)))))
  ·refine zAK (zA0 (zAl ge (by omega))) (zBy rfl (by omega))
 ·have hX:{zBg 4 with name:=x.name,width:=x.width,init:=x.init,a:=x.a,rule:=x.rule}=x:=by
   rw[zCy x,hK,z2 (by omega) (by omega),z5 (by omega) (by omega),z6 (by omega),(z8 (by omega)).1,(z8 (by omega)).2.1,(z8 (by omega)).2.2]; rfl
  obtain⟨_,hr⟩:=rule_hd gb.2.2.2.2;refine zAK (x:=x) (b:=a+(nT (zAD x.width)+nT (zAD x.init)+nT (zAA 8 x.a)+nT (zBk x.rule)+1+1+1+1+1)) ?_ ?_
  ·simp only[];unfold regP zCc;refine zAK (x:={zBg 4 with name:=x.name,width:=x.width}) (b:=a+(nT (zAD x.width)+1+1+1)) (zAK (zBY g2 hn) (zAK (zA0 (zAl gw.1 (by omega))) (zAK (zEk hw (zAz gw.2 (by omega)) (zAl gb.1 (by omega)) (by decide) (by decide)) (zBy rfl (by omega))))) (zAK (zA0 (zAl gb.1 (by omega))) (zAK (zEk hb.1 (zAz gb.2.1 (by omega)) (zAl gb.2.2.1 (by omega)) (by decide) (by decide)) (zAK (zA0 (zAl gb.2.2.1 (by omega))) (zAK (zGb hb.2.1 (zAz gb.2.2.2.1 (by omega)) (zAl hr (by omega)) (by simp)) (zAK (rule_f hb.2.2 (zAz gb.2.2.2.2 (by omega))) (zBy hX (by omega)))))))
  ·refine zAK (zA0 (zAl ge (by omega))) (zBy rfl (by omega))
 ·have hX:{zBg 5 with name:=x.name,width:=x.width,a:=x.a}=x:=by
   rw[zCy x,hK,z2 (by omega) (by omega),z3 (by omega),z5 (by omega) (by omega),z6 (by omega),z7 (by omega) (by omega),(z8 (by omega)).1,(z8 (by omega)).2.1,(z8 (by omega)).2.2]; rfl
  refine zAK (x:=x) (b:=a+(nT (zAD x.width)+nT (zAA 8 x.a)+1+1+1+1)) ?_ ?_
  ·simp only[];unfold wireP zCc;refine zAK (x:={zBg 5 with name:=x.name,width:=x.width}) (b:=a+(nT (zAD x.width)+1+1+1)) (zAK (zBY g2 hn) (zAK (zA0 (zAl gw.1 (by omega))) (zAK (zEk hw (zAz gw.2 (by omega)) (zAl gb.1 (by omega)) (by decide) (by decide)) (zBy rfl (by omega))))) (zAK (zA0 (zAl gb.1 (by omega))) (zAK (zGb hb (zAz gb.2 (by omega)) (zAl ge (by omega)) (by decide)) (zBy hX (by omega))))
  ·refine zAK (zA0 (zAl ge (by omega))) (zBy rfl (by omega))
 ·have hX:{zBg 6 with name:=x.name,width:=x.width,depth:=x.depth,a:=x.a,b:=x.b,c:=x.c,rule:=x.rule}=x:=by
   rw[zCy x,hK,z3 (by omega),(z8 (by omega)).1,(z8 (by omega)).2.1,(z8 (by omega)).2.2]; rfl
  obtain⟨_,hr⟩:=rule_hd gb.2.2.2.2.2.2;refine zAK (x:=x) (b:=a+(nT (zAD x.width)+nT (zAD x.depth)+nT (zAA 8 x.a)+nT (zAA 8 x.b)+nT (zAA 8 x.c)+nT (zBk x.rule)+1+1+1+1+1+1+1+1)) ?_ ?_
  ·simp only[];unfold memP zE0 zCc;refine zAK (x:={zBg 6 with name:=x.name,width:=x.width,depth:=x.depth}) (b:=a+(nT (zAD x.width)+nT (zAD x.depth)+1+1+1+1+1)) (zAK (x:={zBg 6 with name:=x.name,width:=x.width}) (b:=a+(nT (zAD x.width)+1+1+1)) (zAK (zBY g2 hn) (zAK (zA0 (zAl gw.1 (by omega))) (zAK (zEk hw (zAz gw.2 (by omega)) (zAl gd.1 (by omega)) (by decide) (by decide)) (zBy rfl (by omega))))) (zAK (zA0 (zAl gd.1 (by omega))) (zAK (zEk hd (zAz gd.2.1 (by omega)) (zAl gd.2.2 (by omega)) (by decide) (by decide)) (zAK (zA0 (zAl gd.2.2 (by omega))) (zBy rfl (by omega)))))) (zAK (word_f (zAl gb.1 (by omega))) (zAK (zGb hb.1 (zAz gb.2.1 (by omega)) (zAl gb.2.2.1 (by omega)) (by decide)) (zAK (word_f (zAl gb.2.2.1 (by omega))) (zAK (zGb hb.2.1 (zAz gb.2.2.2.1 (by omega)) (zAl gb.2.2.2.2.1 (by omega)) (by decide)) (zAK (zA0 (zAl gb.2.2.2.2.1 (by omega))) (zAK (zGb hb.2.2.1 (zAz gb.2.2.2.2.2.1 (by omega)) (zAl hr (by omega)) (by simp)) (zAK (rule_f hb.2.2.2 (zAz gb.2.2.2.2.2.2 (by omega))) (zBy hX (by omega)))))))))
  ·refine zAK (zA0 (zAl ge (by omega))) (zBy rfl (by omega))
 ·have hX:{zBg 7 with name:=x.name,a:=x.a}=x:=by
   rw[zCy x,hK,z1 (by omega),z2 (by omega) (by omega),z3 (by omega),z5 (by omega) (by omega),z6 (by omega),z7 (by omega) (by omega),(z8 (by omega)).1,(z8 (by omega)).2.1,(z8 (by omega)).2.2]; rfl
  refine zAK (x:=x) (b:=a+(nT (zAA 8 x.a)+1+1+1)) ?_ ?_
  ·simp only[];unfold zFw;refine zAK (zBY g2 hn) (zAK (word_f (zAl gb.1 (by omega))) (zAK (zGb hb (zAz gb.2 (by omega)) (zAl ge (by omega)) (by decide)) (zBy hX (by omega))))
  ·refine zAK (zA0 (zAl ge (by omega))) (zBy rfl (by omega))
 ·have hX:{zBg 8 with name:=x.name,a:=x.a,b:=x.b}=x:=by
   rw[zCy x,hK,z1 (by omega),z2 (by omega) (by omega),z3 (by omega),z6 (by omega),z7 (by omega) (by omega),(z8 (by omega)).1,(z8 (by omega)).2.1,(z8 (by omega)).2.2]; rfl
  refine zAK (x:=x) (b:=a+(nT (zAA 8 x.a)+nT (zAA 8 x.b)+1+1+1+1)) ?_ ?_
  ·simp only[];unfold putP zFw;refine zAK (x:={zBg 8 with name:=x.name,a:=x.a}) (b:=a+(nT (zAA 8 x.a)+1+1+1)) (zAK (zBY g2 hn) (zAK (word_f (zAl gb.1 (by omega))) (zAK (zGb hb.1 (zAz gb.2.1 (by omega)) (zAl gb.2.2.1 (by omega)) (by decide)) (zBy rfl (by omega))))) (zAK (zA0 (zAl gb.2.2.1 (by omega))) (zAK (zGb hb.2 (zAz gb.2.2.2 (by omega)) (zAl ge (by omega)) (by decide)) (zBy hX (by omega))))
  ·refine zAK (zA0 (zAl ge (by omega))) (zBy rfl (by omega))
 ·have hX:{zBg 9 with name:=x.name,of:=x.of,args:=x.args,ports:=x.ports}=x:=by
   rw[zCy x,hK,z1 (by omega),z2 (by omega) (by omega),z3 (by omega),z4 (by omega),z5 (by omega) (by omega),z6 (by omega),z7 (by omega) (by omega)]; rfl
  refine zAK (x:=x) (b:=a+(nT (zA5 zAD x.args)+nT (zA5 zBz x.ports)+1+1+1+1)) ?_ ?_
  ·simp only[];unfold instP;refine zAK (zBY g2 hn) (zAK (zA0 (zAl gb.1 (by omega))) (zAK (zBY (zAl gb.2.1 (by omega)) hb.1) (zAK (list_f (fun y b hy hA he=>num_e hy hA he) (fun y b _ hA=>num_hp hA) hb.2.1 (zAz gb.2.2.1 (by omega))) (zAK (list_f (fun y b hy hA _=>bind_f hy hA) (fun y b _ hA=>bind_hp hA) hb.2.2 (zAz gb.2.2.2 (by omega))) (zBy hX (by omega))))))
  ·refine zAK (zA0 (zAl ge (by omega))) (zBy rfl (by omega))
theorem zGe: ∀l:List Item,l.length<=nT (zAJ l)
 | []=>Nat.zero_le _
 | x::r=>by
  have:=zGe r;simp only[zAJ,AtW,wai,wah,and_true,true_and,Nat.zero_add,Nat.add_zero,wac];omega
theorem items_f{T:List Tok}: ∀(l:List Item) (n:Nat) (acc:List Item) (a:Nat),l.length<n->l.all zAW=true->At T a (zAJ l++[sg (⟨#[125]⟩:ByteArray),nl])->zCN T n acc a= .ok (acc++l,a+nT (zAJ l)+1)
 | _,0,_,_,h,_,_=>absurd h (Nat.not_lt_zero _)
 | [],n+1,acc,a,_,_,h=>by
  simp only[zAJ,AtW,wai,wah,and_true,true_and,Nat.zero_add,Nat.add_zero]at h;unfold zCN;rw[if_pos (zB1 h)];simp[zAJ,nT]
 | x::r,n+1,acc,a,hn,hl,h=>by
  rw[List.all_cons,wan]at hl;have h1:At T a (zAV x++[sg (⟨#[59]⟩:ByteArray),nl])/\At T (a+nT (zAV x)+1) (zAJ r++[sg (⟨#[125]⟩:ByteArray),nl]):=by
   simp only[zAJ,AtW,wai,wah,and_true,true_and,Nat.zero_add,Nat.add_zero]at h ⊢;exact⟨⟨h.1.1,h.1.2.1⟩,zAz h.1.2.2 (by omega),zAl h.2 (by omega)⟩
  have hk: ∃s,tkP T a 1 s:=by
   have:=h1.1;simp only[zAV,AtW,wai,wah,and_true,true_and,Nat.zero_add,Nat.add_zero]at this;exact⟨_,this.1⟩
  obtain⟨s,hk⟩:=hk;unfold zCN;rw[if_neg (by rw[zBa hk (by simp)]; decide),item_f hl.1 h1.1];simp only[PR.bd_ok];rw[items_f r n _ _ (by simpa using hn) hl.2 h1.2];simp only[zAJ,AtW,wai,wah,and_true,true_and,Nat.zero_add,Nat.add_zero,waf];exact zBy rfl (by omega)
theorem name_p1{T:List Tok}{s:Bts}{a:Nat}(h:At T a (zBt s)):isT T a 3 (⟨#[41]⟩:ByteArray)=false:=by
 unfold zBt at h;simp only[AtW,wai,wah,and_true,true_and,Nat.zero_add,Nat.add_zero]at h;exact zBa h (by simp)
theorem module_f{T:List Tok}{a:Nat}{m:Module}(hm:zAG m=true)(h:At T a (zAE m)):zBC T a= .ok (m,a+nT (zAE m)):=by
 simp only[zAG,wan]at hm;obtain⟨h1,h2,h3,h4⟩:=hm;simp only[zAE,zBQ,AtW,wai,wah,and_true,true_and,Nat.zero_add,Nat.add_zero]at h ⊢;obtain⟨g1,g2,⟨g3,g4,g5⟩,g6,g7,g8⟩:=h;unfold zBC;refine zAK (word_f g1) ?_;refine zAK (zBY g2 h1) ?_;refine zAK (list_f (pc:=zBt) (fun y b hy hA _=> ?_) (fun y b _ hA=>name_p1 hA) h2 (zAz g3 (by omega))) ?_
 ·unfold zBt at hA ⊢;simp only[AtW,wai,wah,and_true,true_and,Nat.zero_add,Nat.add_zero]at hA ⊢;exact zBY hA hy
 refine zAK (zA0 (zAl g4 (by omega))) ?_;refine zAK (zBY (zAl g5 (by omega)) h3) ?_;refine zAK (zA0 (zAl g6 (by omega))) ?_;have hA:At T (a+1+1+nT (zA5 zBt m.params)+1+1+1) (zAJ m.items++[sg (⟨#[125]⟩:ByteArray),nl]):=by
  simp only[AtW,wai,wah,and_true,true_and,Nat.zero_add,Nat.add_zero];exact⟨zAz g7 (by omega),zAl g8 (by omega)⟩
 refine zAK (items_f m.items _ _ _ ?_ h4 hA) (zBy rfl (by omega));have:=At_lt _ _ hA (by simp only[AtW,wai,wah,and_true,true_and,Nat.zero_add,Nat.add_zero]; omega);have h6:=zGe m.items;simp only[AtW,wai,wah,and_true,true_and,Nat.zero_add,Nat.add_zero]at this;omega
theorem zIn(m:Module):0<nT (zAE m):=by
 simp only[zAE,zBQ,AtW,wai,wah,and_true,true_and,Nat.zero_add,Nat.add_zero];omega
theorem zG8: ∀l:List Module,l.length<=nT (zAk l)
 | []=>Nat.zero_le _
 | m::r=>by
  have:=zG8 r;have:=zIn m;simp only[zAk,AtW,wai,wah,and_true,true_and,Nat.zero_add,Nat.add_zero,wac];omega
theorem file_f{T:List Tok}: ∀(l:List Module) (n:Nat) (acc:List Module) (a:Nat),l.length<n->l.all zAG=true->At T a (zAk l)->(tk T (a+nT (zAk l))).1 =4->zB4 T n acc a= .ok (acc++l)
 | _,0,_,_,h,_,_,_=>absurd h (Nat.not_lt_zero _)
 | [],n+1,acc,a,_,_,_,h4=>by
  simp only[zAk,AtW,wai,wah,and_true,true_and,Nat.zero_add,Nat.add_zero]at h4;unfold zB4;rw[if_pos h4,wag]
 | m::r,n+1,acc,a,hn,hl,h,h4=>by
  rw[List.all_cons,wan]at hl;simp only[zAk,AtW,wai,wah,and_true,true_and,Nat.zero_add,Nat.add_zero]at h h4;have hk:(tk T a).1 =1:=by
   have:=h.1;simp only[zAE,zBQ,AtW,wai,wah,and_true,true_and,Nat.zero_add,Nat.add_zero]at this;exact this.1.1
  unfold zB4;rw[if_neg (by rw[hk]; decide),module_f hl.1 h.1];simp only[];rw[file_f r n _ _ (by simpa using hn) hl.2 h.2 (by rw[<-h4,Nat.add_assoc]),waf];rfl
theorem zIJ(t:Tok)(T:List Tok)(a:Nat):tk (t::T) (a+1)=tk T a:=rfl
theorem At_cons(t:Tok)(T:List Tok): ∀(p:List Pc) (a:Nat),At (t::T) (a+1) p↔At T a p
 | [],_=>Iff.rfl
 | x::r,a=>by
  simp only[At,zIJ];split
  ·exact At_cons t T r a
  ·rw[At_cons t T r (a+1)]
theorem zGS: ∀(p:List Pc) (o:Nat),At (pcT o p) 0 p
 | [],_=>trivial
 | x::r,o=>by
  unfold pcT At;by_cases hx:x.1=0
  ·simp only[hx,if_true]; exact zGS r _
  ·simp only[hx,if_false];refine⟨rfl,rfl,?_⟩;rw[At_cons];exact zGS r _
theorem zDy: ∀(p:List Pc) (o:Nat),tk (pcT o p) (nT p)=(4,e0,o+(pcB p).size)/\(pcT o p).length =nT p+1
 | [],o=>⟨rfl,rfl⟩
 | x::r,o=>by
  unfold pcT nT;have ih:=zDy r (o+x.2.size);have hz:o+(pcB (x::r)).size =o+x.2.size+(pcB r).size :=by simp only[pcB,ByteArray.size_append]; omega
  rw[hz];by_cases hx:x.1=0
  ·simp only[hx,if_true]; exact ih
  ·simp only[hx,if_false,wac];exact⟨ih.1,by rw[ih.2]⟩
def zDI(T:List Tok):Except Nat (List Module):=zB4 T T.length [] 0
theorem zFt(l:List Module)(hl:l.all zAG=true){T:List Tok}(h:At T 0 (zAk l))(h4:(tk T (nT (zAk l))).1 =4)(hn:T.length=nT (zAk l)+1):zDI T= .ok l:=by
 unfold zDI;have:=zG8 l;rw[file_f l _ [] 0 (by omega) hl h (by rw[Nat.zero_add]; exact h4),wah]
set_option maxHeartbeats 4000000
theorem strings_r(l:List Bts):FnP prog 127 [eSbs l,eSbs l] (.d (eB true)) []:=by
 refine FnP.of_eC (own:=[]) (fun i=>if i=2006 then [.ord ⟨[(0,none),(1,none),(2,none),(3,none),(4,none),(5,none),(6,none),(7,none),(8,none)]⟩]else chL i) zat func127 rfl call127 ntmps127 (zle rfl) results127 (fun hok=> ?_);have hl:l.length<=maxLen:=by
  simp only[D.okL,D.ok,eSbs,waa]at hok;exact hok.1.1
 unfold maxLen at hl;simp only[ZE,seval,KE,bne_self_eq_false,beq_self_eq_true,decide_true,Bool.not_true,Bool.not_false,waa];refine za1 (fun i=>if i=2006 then [.ord ⟨[(0,none),(1,none),(2,none),(3,none),(4,none),(5,none),(6,none),(7,none),(8,none)]⟩]else chL i) zat l.length (fun _=>True) (fun i=>([(0,.d (eSbs l)),(1,.d (eSbs l)),(5,.d (eI i))],[])) trivial ?_ ?_ (fun i hi _=> ?_)
 ·simp only[ZE,seval,KE]
 ·simp only[ZE,seval,KE]
 by_cases h:i<l.length
 ·have e1:=zai h;have e2:(l.map fun s=>[eSb s]).getD i []=[eSb l[i]]:=zaa h [];have hw:=zaq (show i<9223372036854775807 by omega);obtain⟨x,hx⟩:=zX (l[i]);rw[hx]at e2;simp only[ZE,seval,KE]at e2;simp only[ZE,seval,zaw h,e1,e2,wal,hw,KE,bne_self_eq_false,beq_self_eq_true,decide_true,Bool.not_true,Bool.not_false,waa];exact⟨by kernel_rfl,h⟩
 ·have:i=l.length:=by omega
  subst this;simp only[ZE,seval,zaI (wam l.length),KE,bne_self_eq_false,beq_self_eq_true,decide_true,Bool.not_true,Bool.not_false,waa]
theorem zIF: ∀(n:Nat) (e:Expr),SizeOf.sizeOf e<n->FnP prog 184 [.agg (zbx e),.agg (zbx e)] (.d (eB true)) []
 | 0,_,h=>absurd h (Nat.not_lt_zero _)
 | n+1,.mk op nme k wd l,h=>by
  have ih: ∀x∈l,FnP prog 184 [.agg (zbx x),.agg (zbx x)] (.d (eB true)) []:=fun x hx=>zIF n x (by
   have:=List.sizeOf_lt_of_mem hx;simp only[Expr.mk.sizeOf_spec]at h;omega)
  rw[zb6];refine FnP.of_eC (own:=[]) (fun i=>if i=2006 then [.ord ⟨[(0,none),(1,none),(2,none),(3,none),(4,none),(5,none),(6,none),(7,none),(8,none),(9,none),(10,none),(11,none)]⟩]else chL i) zat func184 rfl call184 ntmps184 (zle rfl) results184 (fun hok=> ?_);have hl:l.length<=maxLen:=by
   simp only[D.okL,D.ok,Expr.args,eSb,eI,waa,true_and,and_true]at hok;exact hok.1.1
  unfold maxLen at hl;simp only[ZE,seval,KE,Expr.op,Expr.name,Expr.k,Expr.w,Expr.args,↓zA7,↓zA8,↓zA9,zBN.eq_1,zBI.eq_1,bne_self_eq_false,beq_self_eq_true,decide_true,Bool.not_true,Bool.not_false,waa];refine za1 (fun i=>if i=2006 then [.ord ⟨[(0,none),(1,none),(2,none),(3,none),(4,none),(5,none),(6,none),(7,none),(8,none),(9,none),(10,none),(11,none)]⟩]else chL i) zat l.length (fun _=>True) (fun i=>([(2,.bp 2 0),(3,.bp 3 0),(5,.d (eI i))],[(3,.box [.d (eI op),.d (eSb nme),.d (eI k.n),.d (eSb k.p),.d (eI wd.n),.d (eSb wd.p),.d (.sl (l.map zbx))]),(2,.box [.d (eI op),.d (eSb nme),.d (eI k.n),.d (eSb k.p),.d (eI wd.n),.d (eSb wd.p),.d (.sl (l.map zbx))])])) trivial ?_ ?_ (fun i hi _=> ?_)
  ·simp only[ZE,seval,KE]
  ·simp only[ZE,seval,KE]
  by_cases h2:i<l.length
  ·have e1:=zai h2;have e2:(l.map zbx).getD i []=zbx l[i]:=zaa h2 [];have hw:=zaq (show i<9223372036854775807 by omega);have hc:=ih _ (List.getElem_mem h2);obtain⟨x,hx⟩:=zX (l[i]);rw[hx]at e2 hc;rw[zb6]at e2 hc;simp only[ZE,seval,KE]at e2;simp only[ZE,seval,KE]at hc;simp only[ZE,seval,zaw h2,e1,e2,wal,hw,KE,bne_self_eq_false,beq_self_eq_true,decide_true,Bool.not_true,Bool.not_false,waa];refine⟨by kernel_rfl,zaz.i hc ?_⟩;simp only[ZE,seval,hw,KE,bne_self_eq_false,beq_self_eq_true,decide_true,Bool.not_true,Bool.not_false,waa];exact h2
  ·have:i=l.length:=by omega
   subst this;simp only[ZE,seval,zaI (wam l.length),KE,bne_self_eq_false,beq_self_eq_true,decide_true,Bool.not_true,Bool.not_false,waa]
theorem eItem_r(x:Item):zaK x=[eI x.kind,eSb x.name,eI x.width.n,eSb x.width.p,eI x.depth.n,eSb x.depth.p,eI x.init.n,eSb x.init.p,eI x.a.op,eSb x.a.name,eI x.a.k.n,eSb x.a.k.p,eI x.a.w.n,eSb x.a.w.p,.sl (x.a.args.map zbx),eI x.b.op,eSb x.b.name,eI x.b.k.n,eSb x.b.k.p,eI x.b.w.n,eSb x.b.w.p,.sl (x.b.args.map zbx),eI x.c.op,eSb x.c.name,eI x.c.k.n,eSb x.c.k.p,eI x.c.w.n,eSb x.c.w.p,.sl (x.c.args.map zbx),eI x.rule.kind,eSb x.rule.from',eI x.rule.n,eSb x.of,ziG x.args,zel x.ports]:=by
 unfold zaK;rw[zb6,zb6,zb6];rfl
theorem sameI_r(x:Item):FnP prog 128 [.agg (zaK x),.agg (zaK x)] (.d (eB true)) []:=by
 have ha:=zIF _ x.a (Nat.lt_succ_self _);have hb:=zIF _ x.b (Nat.lt_succ_self _);have hc:=zIF _ x.c (Nat.lt_succ_self _);rw[zb6]at ha hb hc;simp only[ZE,seval,KE]at ha;simp only[ZE,seval,KE]at hb;simp only[ZE,seval,KE]at hc;rw[eItem_r];refine FnP.of_eC (own:=[]) (fun i=>if i=2008 then [.ord ⟨[(0,none),(1,none),(2,none),(3,none),(4,none),(5,none),(6,none),(7,none),(8,none),(9,none),(10,none)]⟩]else if i=2013 then [.ord ⟨[(0,none),(1,none),(2,none),(3,none),(4,none),(5,none),(6,none),(7,none),(8,none),(9,none),(10,none)]⟩]else chL i) zat func128 rfl call128 ntmps128 (zle rfl) results128 (fun hok=> ?_);have hl:x.args.length<=maxLen/\x.ports.length<=maxLen:=by
  simp only[D.okL,D.ok,eSb,eI,ziG,zel,waa,true_and,and_true]at hok;exact⟨by simp_all,by simp_all⟩
 obtain⟨hl1,hl2⟩:=hl;unfold maxLen at hl1 hl2;simp only[ZE,seval,KE,↓zA7,↓zA8,↓zA9,zBN.eq_1,zBI.eq_1,bne_self_eq_false,beq_self_eq_true,decide_true,Bool.not_true,Bool.not_false,waa];refine za1 (fun i=>if i=2008 then [.ord ⟨[(0,none),(1,none),(2,none),(3,none),(4,none),(5,none),(6,none),(7,none),(8,none),(9,none),(10,none)]⟩]else if i=2013 then [.ord ⟨[(0,none),(1,none),(2,none),(3,none),(4,none),(5,none),(6,none),(7,none),(8,none),(9,none),(10,none)]⟩]else chL i) zat x.args.length (fun _=>True) (fun i=>([(2,.bp 2 0),(3,.bp 3 0),(5,.d (eI i))],[(3,.box [.d (eI x.kind),.d (eSb x.name),.d (eI x.width.n),.d (eSb x.width.p),.d (eI x.depth.n),.d (eSb x.depth.p),.d (eI x.init.n),.d (eSb x.init.p),.d (eI x.a.op),.d (eSb x.a.name),.d (eI x.a.k.n),.d (eSb x.a.k.p),.d (eI x.a.w.n),.d (eSb x.a.w.p),.d (.sl (x.a.args.map zbx)),.d (eI x.b.op),.d (eSb x.b.name),.d (eI x.b.k.n),.d (eSb x.b.k.p),.d (eI x.b.w.n),.d (eSb x.b.w.p),.d (.sl (x.b.args.map zbx)),.d (eI x.c.op),.d (eSb x.c.name),.d (eI x.c.k.n),.d (eSb x.c.k.p),.d (eI x.c.w.n),.d (eSb x.c.w.p),.d (.sl (x.c.args.map zbx)),.d (eI x.rule.kind),.d (eSb x.rule.from'),.d (eI x.rule.n),.d (eSb x.of),.d (ziG x.args),.d (zel x.ports)]),(2,.box [.d (eI x.kind),.d (eSb x.name),.d (eI x.width.n),.d (eSb x.width.p),.d (eI x.depth.n),.d (eSb x.depth.p),.d (eI x.init.n),.d (eSb x.init.p),.d (eI x.a.op),.d (eSb x.a.name),.d (eI x.a.k.n),.d (eSb x.a.k.p),.d (eI x.a.w.n),.d (eSb x.a.w.p),.d (.sl (x.a.args.map zbx)),.d (eI x.b.op),.d (eSb x.b.name),.d (eI x.b.k.n),.d (eSb x.b.k.p),.d (eI x.b.w.n),.d (eSb x.b.w.p),.d (.sl (x.b.args.map zbx)),.d (eI x.c.op),.d (eSb x.c.name),.d (eI x.c.k.n),.d (eSb x.c.k.p),.d (eI x.c.w.n),.d (eSb x.c.w.p),.d (.sl (x.c.args.map zbx)),.d (eI x.rule.kind),.d (eSb x.rule.from'),.d (eI x.rule.n),.d (eSb x.of),.d (ziG x.args),.d (zel x.ports)])])) trivial ?_ ?_ (fun i hi _=> ?_)
 ·simp only[ZE,seval,KE]
 ·simp only[ZE,seval,KE]
 by_cases h2:i<x.args.length
 ·have e1:=zai h2;have e2:(x.args.map zgL).getD i []=zgL x.args[i]:=zaa h2 [];have hw:=zaq (show i<9223372036854775807 by omega);obtain⟨y,hy⟩:=zX (x.args[i]);rw[hy]at e2;simp only[ZE,seval,KE]at e2;simp only[ZE,seval,zaw h2,e1,e2,wal,hw,KE,bne_self_eq_false,beq_self_eq_true,decide_true,Bool.not_true,Bool.not_false,waa];exact⟨by kernel_rfl,h2⟩
 have:i=x.args.length:=by omega
 subst this;simp only[ZE,seval,zaI (wam x.args.length),KE,bne_self_eq_false,beq_self_eq_true,decide_true,Bool.not_true,Bool.not_false,waa];refine za1 (fun i=>if i=2008 then [.ord ⟨[(0,none),(1,none),(2,none),(3,none),(4,none),(5,none),(6,none),(7,none),(8,none),(9,none),(10,none)]⟩]else if i=2013 then [.ord ⟨[(0,none),(1,none),(2,none),(3,none),(4,none),(5,none),(6,none),(7,none),(8,none),(9,none),(10,none)]⟩]else chL i) zat x.ports.length (fun _=>True) (fun i=>([(2,.bp 2 0),(3,.bp 3 0),(6,.d (eI i))],[(3,.box [.d (eI x.kind),.d (eSb x.name),.d (eI x.width.n),.d (eSb x.width.p),.d (eI x.depth.n),.d (eSb x.depth.p),.d (eI x.init.n),.d (eSb x.init.p),.d (eI x.a.op),.d (eSb x.a.name),.d (eI x.a.k.n),.d (eSb x.a.k.p),.d (eI x.a.w.n),.d (eSb x.a.w.p),.d (.sl (x.a.args.map zbx)),.d (eI x.b.op),.d (eSb x.b.name),.d (eI x.b.k.n),.d (eSb x.b.k.p),.d (eI x.b.w.n),.d (eSb x.b.w.p),.d (.sl (x.b.args.map zbx)),.d (eI x.c.op),.d (eSb x.c.name),.d (eI x.c.k.n),.d (eSb x.c.k.p),.d (eI x.c.w.n),.d (eSb x.c.w.p),.d (.sl (x.c.args.map zbx)),.d (eI x.rule.kind),.d (eSb x.rule.from'),.d (eI x.rule.n),.d (eSb x.of),.d (ziG x.args),.d (zel x.ports)]),(2,.box [.d (eI x.kind),.d (eSb x.name),.d (eI x.width.n),.d (eSb x.width.p),.d (eI x.depth.n),.d (eSb x.depth.p),.d (eI x.init.n),.d (eSb x.init.p),.d (eI x.a.op),.d (eSb x.a.name),.d (eI x.a.k.n),.d (eSb x.a.k.p),.d (eI x.a.w.n),.d (eSb x.a.w.p),.d (.sl (x.a.args.map zbx)),.d (eI x.b.op),.d (eSb x.b.name),.d (eI x.b.k.n),.d (eSb x.b.k.p),.d (eI x.b.w.n),.d (eSb x.b.w.p),.d (.sl (x.b.args.map zbx)),.d (eI x.c.op),.d (eSb x.c.name),.d (eI x.c.k.n),.d (eSb x.c.k.p),.d (eI x.c.w.n),.d (eSb x.c.w.p),.d (.sl (x.c.args.map zbx)),.d (eI x.rule.kind),.d (eSb x.rule.from'),.d (eI x.rule.n),.d (eSb x.of),.d (ziG x.args),.d (zel x.ports)])])) trivial ?_ ?_ (fun i hi _=> ?_)
 ·simp only[ZE,seval,KE]
 ·simp only[ZE,seval,KE]
 by_cases h2:i<x.ports.length
 ·have e1:=zai h2;have e2:(x.ports.map zjO).getD i []=zjO x.ports[i]:=zaa h2 [];have hw:=zaq (show i<9223372036854775807 by omega);obtain⟨y,hy⟩:=zX (x.ports[i]);rw[hy]at e2;simp only[ZE,seval,KE]at e2;simp only[ZE,seval,zaw h2,e1,e2,wal,hw,KE,bne_self_eq_false,beq_self_eq_true,decide_true,Bool.not_true,Bool.not_false,waa];exact⟨by kernel_rfl,h2⟩
 have:i=x.ports.length:=by omega
 subst this;simp only[ZE,seval,zaI (wam x.ports.length),KE,↓zA7,↓zA8,↓zA9,zBN.eq_1,zBI.eq_1,bne_self_eq_false,beq_self_eq_true,decide_true,Bool.not_true,Bool.not_false,waa];refine EFn.p ?_;simp only[ZE,seval,KE,↓zA7,↓zA8,↓zA9,zBN.eq_1,zBI.eq_1,bne_self_eq_false,beq_self_eq_true,decide_true,Bool.not_true,Bool.not_false,waa];refine zar.i (ha) ?_;simp only[ZE,seval,KE,↓zA7,↓zA8,↓zA9,zBN.eq_1,zBI.eq_1,bne_self_eq_false,beq_self_eq_true,decide_true,Bool.not_true,Bool.not_false,waa];refine za3.i (fun _=>hb) ?_;simp only[ZE,seval,KE,↓zA7,↓zA8,↓zA9,zBN.eq_1,zBI.eq_1,bne_self_eq_false,beq_self_eq_true,decide_true,Bool.not_true,Bool.not_false,waa];refine za3.i (fun _=>hc) ?_;simp only[ZE,seval,KE,↓zA7,↓zA8,↓zA9,zBN.eq_1,zBI.eq_1,bne_self_eq_false,beq_self_eq_true,decide_true,Bool.not_true,Bool.not_false,waa]
theorem sameM_r(m:Module):FnP prog 84 [.agg (zaC m),.agg (zaC m)] (.d (eB true)) []:=by
 have hs:=strings_r m.params;simp only[ZE,seval,KE]at hs;refine FnP.of_eC (own:=[]) (fun i=>if i=2006 then [.ord ⟨[(0,none),(1,none),(2,none),(3,none),(4,none),(5,none),(6,none),(7,none),(8,none),(9,none),(10,none),(11,none)]⟩]else chL i) zat func84 rfl call84 ntmps84 (zle rfl) results84 (fun hok=> ?_);have hl:m.items.length<=maxLen:=by
  simp only[D.okL,D.ok,zaC,eSbs,zbR,eSb,eI,waa,true_and,and_true]at hok;simp_all
 unfold maxLen at hl;simp only[ZE,seval,KE,↓zA7,↓zA8,↓zA9,zBN.eq_1,zBI.eq_1,bne_self_eq_false,beq_self_eq_true,decide_true,Bool.not_true,Bool.not_false,waa];refine za3.i (fun _=>hs) ?_;simp only[ZE,seval,KE,↓zA7,↓zA8,↓zA9,zBN.eq_1,zBI.eq_1,bne_self_eq_false,beq_self_eq_true,decide_true,Bool.not_true,Bool.not_false,waa];refine za1 (fun i=>if i=2006 then [.ord ⟨[(0,none),(1,none),(2,none),(3,none),(4,none),(5,none),(6,none),(7,none),(8,none),(9,none),(10,none),(11,none)]⟩]else chL i) zat m.items.length (fun _=>True) (fun i=>([(2,.bp 2 0),(3,.bp 3 0),(5,.d (eI i))],[(3,.box [.d (eSb m.name),.d (eSb m.clock),.d (eSbs m.params),.d (zbR m.items)]),(2,.box [.d (eSb m.name),.d (eSb m.clock),.d (eSbs m.params),.d (zbR m.items)])])) trivial ?_ ?_ (fun i hi _=> ?_)
 ·simp only[ZE,seval,KE]
 ·simp only[ZE,seval,KE]
 by_cases h2:i<m.items.length
 ·have e1:=zai h2;have e2:(m.items.map zaK).getD i []=zaK m.items[i]:=zaa h2 [];have hw:=zaq (show i<9223372036854775807 by omega);have hc:=sameI_r m.items[i];obtain⟨y,hy⟩:=zX (m.items[i]);rw[hy]at e2 hc;rw[eItem_r]at e2 hc;simp only[ZE,seval,KE]at e2;simp only[ZE,seval,KE]at hc;simp only[ZE,seval,zaw h2,e1,e2,wal,hw,KE,bne_self_eq_false,beq_self_eq_true,decide_true,Bool.not_true,Bool.not_false,waa];refine⟨by kernel_rfl,zaz.i hc ?_⟩;simp only[ZE,seval,hw,KE,bne_self_eq_false,beq_self_eq_true,decide_true,Bool.not_true,Bool.not_false,waa];exact h2
 ·have:i=m.items.length:=by omega
  subst this;simp only[ZE,seval,zaI (wam m.items.length),KE,bne_self_eq_false,beq_self_eq_true,decide_true,Bool.not_true,Bool.not_false,waa]
theorem same_r(l:List Module):FnP prog 52 [.agg [zax l],.agg [zax l]] (.d (eB true)) []:=by
 refine FnP.of_eC (own:=[]) (fun i=>if i=2006 then [.ord ⟨[(0,none),(1,none),(2,none),(3,none),(4,none),(5,none),(6,none),(7,none),(8,none),(9,none),(10,none),(11,none)]⟩]else chL i) zat func52 rfl call52 ntmps52 (zle rfl) results52 (fun hok=> ?_);have hl:l.length<=maxLen:=by
  simp only[D.okL,D.ok,zax,waa,true_and,and_true]at hok;simp_all
 unfold maxLen at hl;simp only[ZE,seval,KE,↓zA7,↓zA8,↓zA9,zBN.eq_1,zBI.eq_1,bne_self_eq_false,beq_self_eq_true,decide_true,Bool.not_true,Bool.not_false,waa];refine za1 (fun i=>if i=2006 then [.ord ⟨[(0,none),(1,none),(2,none),(3,none),(4,none),(5,none),(6,none),(7,none),(8,none),(9,none),(10,none),(11,none)]⟩]else chL i) zat l.length (fun _=>True) (fun i=>([(2,.bp 2 0),(3,.bp 3 0),(5,.d (eI i))],[(3,.box [.d (zax l)]),(2,.box [.d (zax l)])])) trivial ?_ ?_ (fun i hi _=> ?_)
 ·simp only[ZE,seval,KE]
 ·simp only[ZE,seval,KE]
 by_cases h2:i<l.length
 ·have e1:=zai h2;have e2:(l.map zaC).getD i []=zaC l[i]:=zaa h2 [];have hw:=zaq (show i<9223372036854775807 by omega);have hc:=sameM_r l[i];obtain⟨y,hy⟩:=zX (l[i]);rw[hy]at e2 hc;simp only[ZE,seval,KE]at e2;simp only[ZE,seval,KE]at hc;simp only[ZE,seval,zaw h2,e1,e2,wal,hw,KE,bne_self_eq_false,beq_self_eq_true,decide_true,Bool.not_true,Bool.not_false,waa];refine⟨by kernel_rfl,zaz.i hc ?_⟩;simp only[ZE,seval,hw,KE,bne_self_eq_false,beq_self_eq_true,decide_true,Bool.not_true,Bool.not_false,waa];exact h2
 ·have:i=l.length:=by omega
  subst this;simp only[ZE,seval,zaI (wam l.length),KE,bne_self_eq_false,beq_self_eq_true,decide_true,Bool.not_true,Bool.not_false,waa]
end Go.Proofs.YtplfjjgkbnolhaaGreatDoor
