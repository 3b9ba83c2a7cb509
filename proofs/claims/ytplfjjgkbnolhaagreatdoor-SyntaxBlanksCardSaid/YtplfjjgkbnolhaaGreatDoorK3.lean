/- Contracts and laws. Conditions: those of each. -/
import Derived.Test.YtplfjjgkbnolhaaGreatDoorK1
import Derived.Test.YtplfjjgkbnolhaaGreatDoorGDg
import Derived.Test.YtplfjjgkbnolhaaGreatDoorGCg
set_option linter.unusedSimpArgs false
set_option linter.unusedVariables false
open List renaming length_map -> waa, length_append -> wab, map_nil -> wac, length_cons -> wad, map_append -> wae, length_nil -> waf, append_assoc -> wag, append_nil -> wah, nil_append -> wai, cons_append -> waj
open ByteArray renaming empty -> wak
open Int renaming toNat_natCast -> wal
open Nat renaming le_trans -> wam, le_refl -> wan
open Bool renaming eq_iff_iff -> wao
open Option renaming map_some -> wap, map_none -> waq, getD_some -> war, getD_none -> was
namespace Go.Proofs.YtplfjjgkbnolhaaGreatDoor
open Go.Aw
open _root_.Go.Proofs.Tryz
def Ge{α:Type}(a:Nat)(r:PR α):Prop:= ∀x b,r= .ok (x,b)->a<=b
theorem zB0{α:Type}{a b:Nat}{x:α}(h:a<=b):Ge a (.ok (x,b)):=fun y c e=>by cases e; exact h
theorem zCM{α:Type}{a i:Nat}:Ge a (.error i:PR α):=fun y c e=>by cases e
theorem zAM{α β:Type}{a:Nat}{r:PR α}{f:α->Nat->PR β}(h:Ge a r)(h2: ∀x b,Ge b (f x b)):Ge a (r.bd f):=by
 intro y c e;cases r with
 | error i=>cases e
 | ok p=>exact wam (h p.1 p.2 rfl) (h2 p.1 p.2 y c e)
theorem zBW{α:Type}{a:Nat}{c:Prop}[Decidable c]{r s:PR α}(h1:Ge a r)(h2:Ge a s):Ge a (if c then r else s):=by split <;> assumption
theorem Ge.le{α:Type}{a b:Nat}{r:PR α}(h:Ge b r)(hab:a<=b):Ge a r:=fun x c e=>wam hab (h x c e)
theorem zBe(T:List Tok)(s:Bts)(a:Nat):Ge a (zBx T s a):=zBW (zB0 (by omega)) zCM
theorem ge_word(T:List Tok)(s:Bts)(a:Nat):Ge a (zDG T s a):=zBW (zB0 (by omega)) zCM
theorem zCn(T:List Tok)(a:Nat):Ge a (zBE T a):=zBW (zB0 (by omega)) zCM
theorem zE6(T:List Tok)(m:Int)(a:Nat):Ge a (zAZ T m a):=by
 unfold zAZ;split
 ·exact zBW (zB0 (by omega)) zCM
 ·exact zCM
theorem zE5(T:List Tok)(a:Nat):Ge a (zDM T a):=by
 unfold zDM;refine zBW (zAM (zE6 _ _ _) fun _ _=>zB0 (wan _)) (zAM (zCn _ _) fun _ _=>zBW (zAM ((zE6 _ _ _).le (by omega)) fun _ _=>zB0 (wan _)) (zBW (zAM ((zE6 _ _ _).le (by omega)) fun _ _=>zB0 (wan _)) (zB0 (wan _))))
theorem ge_round{rec:Nat->PR Expr}(hr: ∀a,Ge a (rec a))(T:List Tok)(a:Nat):Ge a (zC7 rec T a):=by
 unfold zC7;refine zAM (hr _) fun _ _=>zBW (zAM ((hr _).le (by omega)) fun _ _=>zAM (zBe _ _ _) fun _ _=>zAM (hr _) fun _ _=>zAM (zBe _ _ _) fun _ _=>zB0 (wan _)) (zBW zCM (zAM ((hr _).le (by omega)) fun _ _=>zAM (zBe _ _ _) fun _ _=>zB0 (wan _)))
theorem ge_curly{rec:Nat->PR Expr}(hr: ∀a,Ge a (rec a))(T:List Tok)(a:Nat):Ge a (zC0 rec T a):=by
 unfold zC0;refine zAM (hr _) fun _ _=>zBW (zAM ((zE5 _ _).le (by omega)) fun _ _=>zAM (zBe _ _ _) fun _ _=>zAM (zE5 _ _) fun _ _=>zAM (zBe _ _ _) fun _ _=>zB0 (wan _)) (zAM (zBe _ _ _) fun _ _=>zAM (zE5 _ _) fun _ _=>zAM (zBe _ _ _) fun _ _=>zB0 (wan _))
theorem ge_exprG{rec:Nat->PR Expr}(hr: ∀a,Ge a (rec a))(deep:Bool)(T:List Tok)(a:Nat):Ge a (zCK rec deep T a):=by
 unfold zCK;refine zBW (zAM ((zE5 _ _).le (by omega)) fun _ _=>zAM (zBe _ _ _) fun _ _=>zAM (zE5 _ _) fun _ _=>zAM (zBe _ _ _) fun _ _=>zB0 (wan _)) (zBW (zAM (zCn _ _) fun _ _=>zBW (zAM ((hr _).le (by omega)) fun _ _=>zAM (zBe _ _ _) fun _ _=>zB0 (wan _)) (zB0 (wan _)))
  (zBW zCM (zBW (zAM ((hr _).le (by omega)) fun _ _=>zB0 (wan _)) (zBW ((ge_round hr _ _).le (by omega)) (zBW ((ge_curly hr _ _).le (by omega)) zCM)))))
theorem zDT(T:List Tok): ∀(d a:Nat),Ge a (zBA T d a)
 | 0,a=>ge_exprG (fun _=>zCM) _ _ _
 | d+1,a=>ge_exprG (zDT T d) _ _ _
theorem ge_rule(T:List Tok)(a:Nat):Ge a (zEm T a):=by
 unfold zEm;refine zBW zCM ?_;split
 ·exact zAM ((zCn _ _).le (by omega)) fun _ _=>zB0 (wan _)
 ·exact zAM ((zCn _ _).le (by omega)) fun _ _=>zAM (zE6 _ _ _) fun _ _=>zB0 (wan _)
 ·exact zB0 (by omega)
 ·exact zCM
theorem ge_rest{α:Type}{one:Nat->PR α}(ho: ∀a,Ge a (one a))(T:List Tok): ∀(n:Nat) (l:List α) (a:Nat),Ge a (zDB one T n l a)
 | 0,_,_=>zCM
 | n+1,l,a=>zBW (zAM ((ho _).le (by omega)) fun _ _=>ge_rest ho T n _ _) (zAM (zBe _ _ _) fun _ _=>zB0 (wan _))
theorem ge_list{α:Type}{one:Nat->PR α}(ho: ∀a,Ge a (one a))(T:List Tok)(a:Nat):Ge a (zDg one T a):=
 zAM (zBe _ _ _) fun _ _=>zBW (zB0 (by omega)) (zAM (ho _) fun _ _=>ge_rest ho T _ _ _)
theorem ge_bind(T:List Tok)(a:Nat):Ge a (zDP T a):=zAM (zCn _ _) fun _ _=>zAM (zBe _ _ _) fun _ _=>zAM (zCn _ _) fun _ _=>zB0 (wan _)
theorem zGD(x:Item)(T:List Tok)(a:Nat):Ge a (zCc x T a):=zAM (zCn _ _) fun _ _=>zAM (zBe _ _ _) fun _ _=>zAM (zE5 _ _) fun _ _=>zB0 (wan _)
theorem ge_chan(x:Item)(T:List Tok)(a:Nat):Ge a (zE0 x T a):=zAM (zGD _ _ _) fun _ _=>zAM (zBe _ _ _) fun _ _=>zAM (zE5 _ _) fun _ _=>zAM (zBe _ _ _) fun _ _=>zB0 (wan _)
theorem ge_take(x:Item)(T:List Tok)(a:Nat):Ge a (zFw x T a):=zAM (zCn _ _) fun _ _=>zAM (ge_word _ _ _) fun _ _=>zAM (zDT _ _ _) fun _ _=>zB0 (wan _)
theorem ge_read(k:Nat)(T:List Tok)(a:Nat):Ge a (zHh k T a):=by
 unfold zHh;split
 ·exact ge_chan _ _ _
 ·exact zAM (zGD _ _ _) fun _ _=>zAM (zBe _ _ _) fun _ _=>zAM (zE5 _ _) fun _ _=>zAM (zBe _ _ _) fun _ _=>zAM (zDT _ _ _) fun _ _=>zAM (ge_rule _ _) fun _ _=>zB0 (wan _)
 ·exact zAM (zGD _ _ _) fun _ _=>zAM (zBe _ _ _) fun _ _=>zAM (zDT _ _ _) fun _ _=>zB0 (wan _)
 ·exact zAM (ge_chan _ _ _) fun _ _=>zAM (ge_word _ _ _) fun _ _=>zAM (zDT _ _ _) fun _ _=>zAM (ge_word _ _ _) fun _ _=>zAM (zDT _ _ _) fun _ _=>zAM (zBe _ _ _) fun _ _=>zAM (zDT _ _ _) fun _ _=>zAM (ge_rule _ _) fun _ _=>zB0 (wan _)
 ·exact ge_take _ _ _
 ·exact zAM (ge_take _ _ _) fun _ _=>zAM (zBe _ _ _) fun _ _=>zAM (zDT _ _ _) fun _ _=>zB0 (wan _)
 ·exact zAM (zCn _ _) fun _ _=>zAM (zBe _ _ _) fun _ _=>zAM (zCn _ _) fun _ _=>zAM (ge_list (zE5 T) _ _) fun _ _=>zAM (ge_list (ge_bind T) _ _) fun _ _=>zB0 (wan _)
 ·exact zGD _ _ _
theorem ge_item(T:List Tok)(a:Nat):Ge a (zDV T a):=by
 unfold zDV;refine zBW zCM ?_;split
 ·exact zAM ((ge_read _ _ _).le (by omega)) fun _ _=>zAM (zBe _ _ _) fun _ _=>zB0 (wan _)
 ·exact zCM
theorem ge_items(T:List Tok): ∀(n:Nat) (l:List Item) (a:Nat),Ge a (zCN T n l a)
 | 0,_,_=>zCM
 | n+1,l,a=>zBW (zB0 (by omega)) (zAM (ge_item _ _) fun _ _=>ge_items T n _ _)
theorem gt_module{T:List Tok}{a:Nat}{m:Module}{b:Nat}(h:zBC T a= .ok (m,b)):a+1<=b:=by
 unfold zBC at h;unfold zDG at h;split at h
 ·rw[PR.bd_ok]at h;exact(zAM (zCn _ _) fun _ _=>zAM (ge_list (zCn T) _ _) fun _ _=>zAM (zBe _ _ _) fun _ _=>zAM (zCn _ _) fun _ _=>zAM (zBe _ _ _) fun _ _=>zAM (ge_items _ _ _ _) fun _ _=>zB0 (wan _)) _ _ h
 ·cases h
def In{α:Type}(n:Nat):PR α->Prop
 | .ok (_,b)=>b<n
 | .error i=>i<n
theorem zAL{α β:Type}{n:Nat}{r:PR α}{f:α->Nat->PR β}(h:In n r)(h2: ∀x b,b<n->In n (f x b)):In n (r.bd f):=by
 cases r with
 | error i=>exact h
 | ok p=>exact h2 p.1 p.2 h
theorem zBX{α:Type}{n:Nat}{c:Prop}[Decidable c]{r s:PR α}(h1:c->In n r)(h2: ¬c->In n s):In n (if c then r else s):=by
 by_cases h:c
 ·rw[if_pos h]; exact h1 h
 ·rw[if_neg h]; exact h2 h
section
variable {T:List Tok} (hT:TOk T)
include hT
theorem zBf(s:Bts){a:Nat}(ha:a<T.length):In T.length (zBx T s a):=zBX (fun h=>zBj hT ha (by decide) h) (fun _=>ha)
theorem zIe(s:Bts){a:Nat}(ha:a<T.length):In T.length (zDG T s a):=zBX (fun h=>zBj hT ha (by decide) h) (fun _=>ha)
theorem zCp{a:Nat}(ha:a<T.length):In T.length (zBE T a):=zBX (fun h=>hT.last a ha (by rw[h.1]; decide)) (fun _=>ha)
theorem zFa(m:Int){a:Nat}(ha:a<T.length):In T.length (zAZ T m a):=by
 unfold zAZ;split
 ·exact zBX (fun h=>hT.last a ha (by rw[h.1]; decide)) (fun _=>ha)
 ·exact ha
theorem zE9{a:Nat}(ha:a<T.length):In T.length (zDM T a):=by
 unfold zDM;refine zBX (fun _=>zAL (zFa hT _ ha) fun _ _ h=>h) (fun _=>zAL (zCp hT ha) fun _ b hb=>zBX (fun h=>zAL (zFa hT _ (zBj hT hb (by decide) h)) fun _ _ h=>h) (fun _=>zBX (fun h=>zAL (zFa hT _ (zBj hT hb (by decide) h)) fun _ _ h=>h) (fun _=>hb)))
theorem in_round{rec:Nat->PR Expr}(hr: ∀a,a<T.length->In T.length (rec a)){a:Nat}(ha:a<T.length):In T.length (zC7 rec T a):=by
 unfold zC7;refine zAL (hr _ ha) fun _ b hb=>zBX (fun h=>zAL (hr _ (zBj hT hb (by decide) h)) fun _ _ hc=>zAL (zBf hT _ hc) fun _ _ hd=>zAL (hr _ hd) fun _ _ he=>zAL (zBf hT _ he) fun _ _ h=>h) (fun _=>zBX (fun _=>hb) (fun h=>zAL (hr _ (hT.last b hb (by intro e; apply h; right; rw[e]; decide))) fun _ _ hc=>zAL (zBf hT _ hc) fun _ _ h=>h))
theorem in_curly{rec:Nat->PR Expr}(hr: ∀a,a<T.length->In T.length (rec a)){a:Nat}(ha:a<T.length):In T.length (zC0 rec T a):=by
 unfold zC0;refine zAL (hr _ ha) fun _ b hb=>zBX (fun h=>zAL (zE9 hT (zBj hT hb (by decide) h)) fun _ _ hc=>zAL (zBf hT _ hc) fun _ _ hd=>zAL (zE9 hT hd) fun _ _ he=>zAL (zBf hT _ he) fun _ _ h=>h) (fun _=>zAL (zBf hT _ hb) fun _ _ hd=>zAL (zE9 hT hd) fun _ _ he=>zAL (zBf hT _ he) fun _ _ h=>h)
theorem in_exprG{rec:Nat->PR Expr}(hr: ∀a,a<T.length->In T.length (rec a))(deep:Bool){a:Nat}(ha:a<T.length):In T.length (zCK rec deep T a):=by
 unfold zCK;refine zBX (fun h=>zAL (zE9 hT (zBj hT ha (by decide) h)) fun _ _ hc=>zAL (zBf hT _ hc) fun _ _ hd=>zAL (zE9 hT hd) fun _ _ he=>zAL (zBf hT _ he) fun _ _ h=>h)
  (fun _=>zBX (fun _=>zAL (zCp hT ha) fun _ b hb=>zBX (fun h=>zAL (hr _ (zBj hT hb (by decide) h.2)) fun _ _ hc=>zAL (zBf hT _ hc) fun _ _ h=>h) (fun _=>hb))
   (fun _=>zBX (fun _=>ha) (fun _=>zBX (fun h=>zAL (hr _ (zBj hT ha (by decide) h)) fun _ _ h=>h) (fun _=>zBX (fun h=>in_round hT hr (zBj hT ha (by decide) h)) (fun _=>zBX (fun h=>in_curly hT hr (zBj hT ha (by decide) h)) (fun _=>ha))))))
theorem zDU: ∀(d:Nat) {a:Nat},a<T.length->In T.length (zBA T d a)
 | 0,_,ha=>in_exprG hT (rec:=fun a=>.error a) (fun a h=>(show In T.length (.error a:PR Expr)from h)) _ ha
 | d+1,_,ha=>in_exprG hT (fun _ h=>zDU d h) _ ha
theorem in_rule{a:Nat}(ha:a<T.length):In T.length (zEm T a):=by
 unfold zEm;refine zBX (fun _=>ha) (fun h=> ?_);have h1:=hT.last a ha (by intro e; apply h; rw[e]; decide);split
 ·exact zAL (zCp hT h1) fun _ _ h=>h
 ·exact zAL (zCp hT h1) fun _ _ hb=>zAL (zFa hT _ hb) fun _ _ h=>h
 ·exact h1
 ·exact ha
theorem in_rest{α:Type}{one:Nat->PR α}(ho: ∀a,a<T.length->In T.length (one a)): ∀(n:Nat) (l:List α) {a:Nat},a<T.length->In T.length (zDB one T n l a)
 | 0,_,_,ha=>ha
 | n+1,l,_,ha=>zBX (fun h=>zAL (ho _ (zBj hT ha (by decide) h)) fun _ _ hb=>in_rest ho n _ hb) (fun _=>zAL (zBf hT _ ha) fun _ _ h=>h)
theorem in_list{α:Type}{one:Nat->PR α}(ho: ∀a,a<T.length->In T.length (one a)){a:Nat}(ha:a<T.length):In T.length (zDg one T a):=
 zAL (zBf hT _ ha) fun _ b hb=>zBX (fun h=>zBj hT hb (by decide) h) (fun _=>zAL (ho _ hb) fun _ _ hc=>in_rest hT ho _ _ hc)
theorem in_bind{a:Nat}(ha:a<T.length):In T.length (zDP T a):=zAL (zCp hT ha) fun _ _ hb=>zAL (zBf hT _ hb) fun _ _ hc=>zAL (zCp hT hc) fun _ _ h=>h
theorem zGH(x:Item){a:Nat}(ha:a<T.length):In T.length (zCc x T a):=zAL (zCp hT ha) fun _ _ hb=>zAL (zBf hT _ hb) fun _ _ hc=>zAL (zE9 hT hc) fun _ _ h=>h
theorem in_chan(x:Item){a:Nat}(ha:a<T.length):In T.length (zE0 x T a):=zAL (zGH hT _ ha) fun _ _ hb=>zAL (zBf hT _ hb) fun _ _ hc=>zAL (zE9 hT hc) fun _ _ hd=>zAL (zBf hT _ hd) fun _ _ h=>h
theorem in_take(x:Item){a:Nat}(ha:a<T.length):In T.length (zFw x T a):=zAL (zCp hT ha) fun _ _ hb=>zAL (zIe hT _ hb) fun _ _ hc=>zAL (zDU hT _ hc) fun _ _ h=>h
theorem in_read(k:Nat){a:Nat}(ha:a<T.length):In T.length (zHh k T a):=by
 unfold zHh;split
 ·exact in_chan hT _ ha
 ·exact zAL (zGH hT _ ha) fun _ _ hb=>zAL (zBf hT _ hb) fun _ _ hc=>zAL (zE9 hT hc) fun _ _ hd=>zAL (zBf hT _ hd) fun _ _ he=>zAL (zDU hT _ he) fun _ _ hf=>zAL (in_rule hT hf) fun _ _ h=>h
 ·exact zAL (zGH hT _ ha) fun _ _ hb=>zAL (zBf hT _ hb) fun _ _ hc=>zAL (zDU hT _ hc) fun _ _ h=>h
 ·exact zAL (in_chan hT _ ha) fun _ _ hb=>zAL (zIe hT _ hb) fun _ _ hc=>zAL (zDU hT _ hc) fun _ _ hd=>zAL (zIe hT _ hd) fun _ _ he=>zAL (zDU hT _ he) fun _ _ hf=>zAL (zBf hT _ hf) fun _ _ hg=>zAL (zDU hT _ hg) fun _ _ hh=>zAL (in_rule hT hh) fun _ _ h=>h
 ·exact in_take hT _ ha
 ·exact zAL (in_take hT _ ha) fun _ _ hb=>zAL (zBf hT _ hb) fun _ _ hc=>zAL (zDU hT _ hc) fun _ _ h=>h
 ·exact zAL (zCp hT ha) fun _ _ hb=>zAL (zBf hT _ hb) fun _ _ hc=>zAL (zCp hT hc) fun _ _ hd=>zAL (in_list hT (fun _ h=>zE9 hT h) hd) fun _ _ he=>zAL (in_list hT (fun _ h=>in_bind hT h) he) fun _ _ h=>h
 ·exact zGH hT _ ha
theorem in_item{a:Nat}(ha:a<T.length):In T.length (zDV T a):=by
 unfold zDV;refine zBX (fun _=>ha) (fun h=> ?_);have h1:=hT.last a ha (by intro e; apply h; rw[e]; decide);split
 ·exact zAL (in_read hT _ h1) fun _ _ hb=>zAL (zBf hT _ hb) fun _ _ h=>h
 ·exact ha
theorem in_items: ∀(n:Nat) (l:List Item) {a:Nat},a<T.length->In T.length (zCN T n l a)
 | 0,_,_,ha=>ha
 | n+1,l,_,ha=>zBX (fun h=>zBj hT ha (by decide) h) (fun _=>zAL (in_item hT ha) fun _ _ hb=>in_items n _ hb)
theorem in_module{a:Nat}(ha:a<T.length):In T.length (zBC T a):=
 zAL (zIe hT _ ha) fun _ _ hb=>zAL (zCp hT hb) fun _ _ hc=>zAL (in_list hT (fun _ h=>zCp hT h) hc) fun _ _ hd=>zAL (zBf hT _ hd) fun _ _ he=>zAL (zCp hT he) fun _ _ hf=>zAL (zBf hT _ hf) fun _ _ hg=>zAL (in_items hT _ _ hg) fun _ _ h=>h
end
set_option maxRecDepth 100000
set_option maxHeartbeats 4000000
def paC(Z:GP)(T:List Tok)(a:Nat):OL:=[(1,paO T a),(95,.box [.bp 1 0]),(7777777,Z.o)]
theorem pc_free5(Z:GP)(T:List Tok)(a:Nat)(args:List AV)(ha:AV.noRefs [1999] args):
  (zyk 1999 (paC Z T a)/\AV.noRefs [1999] args)/\zCV (om (paC Z T a)) [.bp 1 0]/\AV.noRefs [1999] [.bp 1 0]:=by
 simp[paC,paO,GZ,zyk,AO.noRef,AV.noRefs,AV.noRef,zCV,om,ha]
theorem pc_free15(Z:GP)(T:List Tok)(a:Nat)(args:List AV)(ha:AV.noRefs [1999] args):
  (zyk 1999 (paC Z T a)/\AV.noRefs [1999] args)/\zCV (om (paC Z T a)) [.bp 95 0]/\AV.noRefs [1999] [.bp 95 0]:=by
 simp[paC,paO,GZ,zyk,AO.noRef,AV.noRefs,AV.noRef,zCV,om,ha]
def PConC(Z:GP)(T:List Tok)(f:Nat)(args:List AV)(a:Nat){α:Type}(R:PR α)(enc:α->AV):Prop:=
 zBL prog f args (paC Z T a) (fun V ol new=> ∃x b,R= .ok (x,b)/\b<T.length/\V=enc x/\ol=paC Z T b/\new=[]) (fun v=> ∃i,R= .error i/\v=zCU i)
def eX(e:Expr):AV:=.d (.agg (zbx e))
theorem zCx(x:Expr):eX x= .d (.agg [eI x.op,eSb x.name,eI x.k.n,eSb x.k.p,eI x.w.n,eSb x.w.p,.sl (x.args.map zbx)]):=by rw[<-zb6 x]; rfl
theorem eX_mk1(o:Int)(n:Bts)(k w:Num)(x:Expr):eX (.mk o n k w [x])= .d (.agg [eI o,eSb n,eI k.n,eSb k.p,eI w.n,eSb w.p,.sl [[eI x.op,eSb x.name,eI x.k.n,eSb x.k.p,eI x.w.n,eSb x.w.p,.sl (x.args.map zbx)]]]):=by rw[<-zb6 x]; rfl
theorem eX_mk2(o:Int)(n:Bts)(k w:Num)(x y:Expr):eX (.mk o n k w [x,y])= .d (.agg [eI o,eSb n,eI k.n,eSb k.p,eI w.n,eSb w.p,.sl [[eI x.op,eSb x.name,eI x.k.n,eSb x.k.p,eI x.w.n,eSb x.w.p,.sl (x.args.map zbx)],[eI y.op,eSb y.name,eI y.k.n,eSb y.k.p,eI y.w.n,eSb y.w.p,.sl (y.args.map zbx)]]]):=by rw[<-zb6 x,<-zb6 y]; rfl
theorem eX_mk3(o:Int)(n:Bts)(k w:Num)(x y z:Expr):eX (.mk o n k w [x,y,z])= .d (.agg [eI o,eSb n,eI k.n,eSb k.p,eI w.n,eSb w.p,.sl [[eI x.op,eSb x.name,eI x.k.n,eSb x.k.p,eI x.w.n,eSb x.w.p,.sl (x.args.map zbx)],[eI y.op,eSb y.name,eI y.k.n,eSb y.k.p,eI y.w.n,eSb y.w.p,.sl (y.args.map zbx)],[eI z.op,eSb z.name,eI z.k.n,eSb z.k.p,eI z.w.n,eSb z.w.p,.sl (z.args.map zbx)]]]):=by rw[<-zb6 x,<-zb6 y,<-zb6 z]; rfl
theorem cl_p(Z:GP)(T:List Tok)(d a:Nat)(h:PCon Z T 222 [.bp 1 0,.d (eI d)] a (zBA T d a) eX)(hd:d<=1000):
  PConC Z T 236 [.bp 95 0,.d (.ptr [eI (d+1)])] a (zBA T d a) eX:=by
 refine zBL.srt (zBL.of_eH 1999 [.bp 1 0] (own:=[]) (fun _=>[]) [0] zat func236 rfl call236 ntmps236 (zle rfl) results236 (pc_free5 Z T a _ (by simp[AV.noRefs,AV.noRef])) (fun gs=> ?_));have hw:IntKind.i64.wrap ((d:Int)+1-1)=d:=by rw[show(d:Int)+1-1=d by omega]; exact zaQ (by omega) (by omega)
 obtain⟨R,hR⟩: ∃R,R=zBA T d a:=⟨_,rfl⟩;rw[<-hR]at h ⊢;simp only[ZE,seval,KE]at h;simp only[ZE,seval,hw,KE,GZ,paO,paL,paC,zAc];refine EFn.gX [(1,1),(7777777,7777777)] h ?_ (fun v hv=>hv) ?_
 ·simp only[ZE,seval,GZ,paO,paL,paC,zAc]
 rintro V ol new ⟨x,b,h1,hb,rfl,rfl,rfl⟩;simp only[ZE,seval,zCx x,zAt.eq_def,zAF.eq_def,KE,GZ,paO,paL,paC,zAc];refine⟨[2,1999],[],?_⟩;simp only[ZE,seval,zAp.eq_1,zAp.eq_2,zAq.eq_1,zAq.eq_2,GZ,zAt.eq_def,zAj.eq_def,ghK.eq_def,zAF.eq_def,zAi.eq_def,zHK,zht,AV.core,GZ,paO,paL,paC,zAc];exact⟨x,b,h1,hb,(zCx x).symm,rfl⟩
theorem curly_p(Z:GP)(hZ:Z.Ok)(T:List Tok)(hT:TOk T)(d a:Nat)(ha:a<T.length)(h: ∀a,a<T.length->PConC Z T 236 [.bp 95 0,.d (.ptr [eI (d+1)])] a (zBA T d a) eX):
  PConC Z T 238 [.bp 1 0,(.clo (.func 236) [] [.bp 95 0,.d (.ptr [eI (d+1)])])] a (zC0 (zBA T d) T a) eX:=by
 refine zBL.srt (zBL.of_eH 1999 [.bp 95 0] (own:=[]) (fun i=>if i=1 then [.frz 8]else []) [0] zat func238 rfl call238 ntmps238 (zle rfl) results238 (pc_free15 Z T a _ (by simp[AV.noRefs,AV.noRef])) (fun gs=> ?_));have h1:=h a ha;obtain⟨R,hR⟩: ∃R,R=zC0 (zBA T d) T a:=⟨_,rfl⟩;rw[<-hR];unfold zC0 at hR;obtain⟨rec,hrec⟩:=zX (zBA T d);rw[hrec]at h1 hR;simp only[ZE,seval,KE]at h1;simp only[ZE,seval,KE,GZ,paO,paL,paC,zAc];refine EFn.gX [(1,1),(95,95),(7777777,7777777)] (h1) ?_ (fun v hv=>by obtain⟨i,hi,hv⟩:=hv; exact⟨i,by rw[hR,hi]; rfl,hv⟩) ?_
 ·simp only[ZE,seval,GZ,paO,paL,paC,zAc]
 rintro V ol new ⟨x,b,hx,hb,rfl,rfl,rfl⟩;rw[hx,PR.bd_ok]at hR;have hp:=zBq Z T hT b (⟨#[64]⟩:ByteArray) hb;have hl:=zBj hT hb (s:=(⟨#[64]⟩:ByteArray)) (k:=3) (by decide);obtain⟨g,hg⟩:=zX (isT T b 3 (⟨#[64]⟩:ByteArray));rw[hg]at hp hl hR;cases g with
 | true=>
  rw[if_pos rfl]at hR hp;have hn:=zIs Z hZ T hT (b+1) (hl rfl);simp only[ZE,seval,KE]at hp;simp only[ZE,seval,KE]at hn;simp only[ZE,seval,zCx x,KE,GZ,paO,paL,paC,zAc];refine EFn.gV [(1,1),(7777777,7777777)] (hp) ?_ ?_
  ·simp only[ZE,seval,GZ,paO,paL,paC,zAc]
  rintro V ol new ⟨rfl,rfl,rfl⟩;simp only[ZE,seval,GZ,paO,paL,paC,zAc];refine EFn.gX [(1,1),(7777777,7777777)] (hn) ?_ (fun v hv=>by obtain⟨i,hi,hv⟩:=hv; exact⟨i,by rw[hR,hi]; rfl,hv⟩) ?_
  ·simp only[ZE,seval,GZ,paO,paL,paC,zAc]
  rintro V ol new ⟨k,c,h2,hc,rfl,rfl,rfl⟩;rw[h2,PR.bd_ok]at hR;simp only[ZE,seval,KE,GZ,paO,paL,paC,zAc];have hs:=zBu Z T hT c (⟨#[58]⟩:ByteArray) hc;simp only[ZE,seval,KE]at hs;refine EFn.gX [(1,1),(7777777,7777777)] (hs) ?_ (fun v hv=>by obtain⟨i,hi,hv⟩:=hv; exact⟨i,by rw[hR,hi]; rfl,hv⟩) ?_
  ·simp only[ZE,seval,GZ,paO,paL,paC,zAc]
  rintro V ol new ⟨_u,e,h3,he,rfl,rfl,rfl⟩;rw[h3,PR.bd_ok]at hR;simp only[ZE,seval,KE,GZ,paO,paL,paC,zAc];have hm:=zIs Z hZ T hT e he;simp only[ZE,seval,KE]at hm;refine EFn.gX [(1,1),(7777777,7777777)] (hm) ?_ (fun v hv=>by obtain⟨i,hi,hv⟩:=hv; exact⟨i,by rw[hR,hi]; rfl,hv⟩) ?_
  ·simp only[ZE,seval,GZ,paO,paL,paC,zAc]
  rintro V ol new ⟨w,f,h4,hf,rfl,rfl,rfl⟩;rw[h4,PR.bd_ok]at hR;simp only[ZE,seval,KE,GZ,paO,paL,paC,zAc];have hq:=zBu Z T hT f (⟨#[125]⟩:ByteArray) hf;simp only[ZE,seval,KE]at hq;refine EFn.gX [(1,1),(7777777,7777777)] (hq) ?_ (fun v hv=>by obtain⟨i,hi,hv⟩:=hv; exact⟨i,by rw[hR,hi]; rfl,hv⟩) ?_
  ·simp only[ZE,seval,GZ,paO,paL,paC,zAc]
  rintro V ol new ⟨_u,i,h5,hi,rfl,rfl,rfl⟩;rw[h5,PR.bd_ok]at hR;simp only[ZE,seval,zAt.eq_def,zAF.eq_def,KE,GZ,paO,paL,paC,zAc];refine⟨[4,5,1999],[],?_⟩;simp only[ZE,seval,zAp.eq_1,zAp.eq_2,zAq.eq_1,zAq.eq_2,GZ,zAt.eq_def,zAj.eq_def,ghK.eq_def,zAF.eq_def,zAi.eq_def,zHK,zht,AV.core,GZ,paO,paL,paC,zAc];exact⟨_,i,hR,hi,(eX_mk1 _ _ _ _ _).symm,rfl⟩
 | false=>
  rw[if_neg (by decide)]at hR hp;have hs:=zBu Z T hT b (⟨#[58]⟩:ByteArray) hb;simp only[ZE,seval,KE]at hp;simp only[ZE,seval,KE]at hs;simp only[ZE,seval,zCx x,KE,GZ,paO,paL,paC,zAc];refine EFn.gV [(1,1),(7777777,7777777)] (hp) ?_ ?_
  ·simp only[ZE,seval,GZ,paO,paL,paC,zAc]
  rintro V ol new ⟨rfl,rfl,rfl⟩;simp only[ZE,seval,GZ,paO,paL,paC,zAc];refine EFn.gX [(1,1),(7777777,7777777)] (hs) ?_ (fun v hv=>by obtain⟨i,hi,hv⟩:=hv; exact⟨i,by rw[hR,hi]; rfl,hv⟩) ?_
  ·simp only[ZE,seval,GZ,paO,paL,paC,zAc]
  rintro V ol new ⟨_u,e,h3,he,rfl,rfl,rfl⟩;rw[h3,PR.bd_ok]at hR;simp only[ZE,seval,KE,GZ,paO,paL,paC,zAc];have hm:=zIs Z hZ T hT e he;simp only[ZE,seval,KE]at hm;refine EFn.gX [(1,1),(7777777,7777777)] (hm) ?_ (fun v hv=>by obtain⟨i,hi,hv⟩:=hv; exact⟨i,by rw[hR,hi]; rfl,hv⟩) ?_
  ·simp only[ZE,seval,GZ,paO,paL,paC,zAc]
  rintro V ol new ⟨w,f,h4,hf,rfl,rfl,rfl⟩;rw[h4,PR.bd_ok]at hR;simp only[ZE,seval,KE,GZ,paO,paL,paC,zAc];have hq:=zBu Z T hT f (⟨#[125]⟩:ByteArray) hf;simp only[ZE,seval,KE]at hq;refine EFn.gX [(1,1),(7777777,7777777)] (hq) ?_ (fun v hv=>by obtain⟨i,hi,hv⟩:=hv; exact⟨i,by rw[hR,hi]; rfl,hv⟩) ?_
  ·simp only[ZE,seval,GZ,paO,paL,paC,zAc]
  rintro V ol new ⟨_u,i,h5,hi,rfl,rfl,rfl⟩;rw[h5,PR.bd_ok]at hR;simp only[ZE,seval,zAt.eq_def,zAF.eq_def,KE,GZ,paO,paL,paC,zAc];refine⟨[4,5,1999],[],?_⟩;simp only[ZE,seval,zAp.eq_1,zAp.eq_2,zAq.eq_1,zAq.eq_2,GZ,zAt.eq_def,zAj.eq_def,ghK.eq_def,zAF.eq_def,zAi.eq_def,zHK,zht,AV.core,GZ,paO,paL,paC,zAc];exact⟨_,i,hR,hi,(eX_mk1 13 e0 n0 w x).symm,rfl⟩
theorem round_p(Z:GP)(hZ:Z.Ok)(T:List Tok)(hT:TOk T)(d a:Nat)(ha:a<T.length)(h: ∀a,a<T.length->PConC Z T 236 [.bp 95 0,.d (.ptr [eI (d+1)])] a (zBA T d a) eX):
  PConC Z T 237 [.bp 1 0,(.clo (.func 236) [] [.bp 95 0,.d (.ptr [eI (d+1)])])] a (zC7 (zBA T d) T a) eX:=by
 refine zBL.srt (zBL.of_eH 1999 [.bp 95 0] (own:=[]) (fun i=>if i=2006 then [.flt ⟨[(0,none),(1,none),(2,none),(3,none),(4,none),(5,none),(6,none),(7,none),(8,none),(9,none),(11,some [])]⟩ ⟨[10],[(11,[10])]⟩]else if i=1013 then [.frz 10]else []) [0] zat func237 rfl call237 ntmps237 (zle rfl) results237 (pc_free15 Z T a _ (by simp[AV.noRefs,AV.noRef])) (fun gs=> ?_));have h1:=h a ha;obtain⟨R,hR⟩: ∃R,R=zC7 (zBA T d) T a:=⟨_,rfl⟩;rw[<-hR];unfold zC7 at hR;obtain⟨rec,hrec⟩:=zX (zBA T d);rw[hrec]at h1 hR;rw[hrec]at h;simp only[ZE,seval,KE]at h1;simp only[ZE,seval,KE,GZ,paO,paL,paC,zAc];refine EFn.gX [(1,1),(95,95),(7777777,7777777)] (h1) ?_ (fun v hv=>by obtain⟨i,hi,hv⟩:=hv; exact⟨i,by rw[hR,hi]; rfl,hv⟩) ?_
 ·simp only[ZE,seval,GZ,paO,paL,paC,zAc]
 rintro V ol new ⟨x,b,hx,hb,rfl,rfl,rfl⟩;rw[hx,PR.bd_ok]at hR;have hp:=zBq Z T hT b (⟨#[63]⟩:ByteArray) hb;have hl:=zBj hT hb (s:=(⟨#[63]⟩:ByteArray)) (k:=3) (by decide);obtain⟨g,hg⟩:=zX (isT T b 3 (⟨#[63]⟩:ByteArray));rw[hg]at hp hl hR;cases g with
 | true=>
  rw[if_pos rfl]at hR hp;have h2:=h (b+1) (hl rfl);simp only[ZE,seval,KE]at hp;simp only[ZE,seval,KE]at h2;simp only[ZE,seval,zCx x,KE,GZ,paO,paL,paC,zAc];refine EFn.gV [(1,1),(7777777,7777777)] (hp) ?_ ?_
  ·simp only[ZE,seval,GZ,paO,paL,paC,zAc]
  rintro V ol new ⟨rfl,rfl,rfl⟩;simp only[ZE,seval,GZ,paO,paL,paC,zAc];refine EFn.gX [(1,1),(95,95),(7777777,7777777)] (h2) ?_ (fun v hv=>by obtain⟨i,hi,hv⟩:=hv; exact⟨i,by rw[hR,hi]; rfl,hv⟩) ?_
  ·simp only[ZE,seval,GZ,paO,paL,paC,zAc]
  rintro V ol new ⟨y,c,hy,hc,rfl,rfl,rfl⟩;rw[hy,PR.bd_ok]at hR;simp only[ZE,seval,zCx y,KE,GZ,paO,paL,paC,zAc];have hs:=zBu Z T hT c (⟨#[58]⟩:ByteArray) hc;simp only[ZE,seval,KE]at hs;refine EFn.gX [(1,1),(7777777,7777777)] (hs) ?_ (fun v hv=>by obtain⟨i,hi,hv⟩:=hv; exact⟨i,by rw[hR,hi]; rfl,hv⟩) ?_
  ·simp only[ZE,seval,GZ,paO,paL,paC,zAc]
  rintro V ol new ⟨_u,e,h3,he,rfl,rfl,rfl⟩;rw[h3,PR.bd_ok]at hR;have h4:=h e he;simp only[ZE,seval,KE]at h4;simp only[ZE,seval,KE,GZ,paO,paL,paC,zAc];refine EFn.gX [(1,1),(95,95),(7777777,7777777)] (h4) ?_ (fun v hv=>by obtain⟨i,hi,hv⟩:=hv; exact⟨i,by rw[hR,hi]; rfl,hv⟩) ?_
  ·simp only[ZE,seval,GZ,paO,paL,paC,zAc]
  rintro V ol new ⟨z,f,hz,hf,rfl,rfl,rfl⟩;rw[hz,PR.bd_ok]at hR;simp only[ZE,seval,zCx z,KE,GZ,paO,paL,paC,zAc];have hq:=zBu Z T hT f (⟨#[41]⟩:ByteArray) hf;simp only[ZE,seval,KE]at hq;refine EFn.gX [(1,1),(7777777,7777777)] (hq) ?_ (fun v hv=>by obtain⟨i,hi,hv⟩:=hv; exact⟨i,by rw[hR,hi]; rfl,hv⟩) ?_
  ·simp only[ZE,seval,GZ,paO,paL,paC,zAc]
  rintro V ol new ⟨_u,i,h5,hi,rfl,rfl,rfl⟩;rw[h5,PR.bd_ok]at hR;simp only[ZE,seval,zAt.eq_def,zAF.eq_def,KE,GZ,paO,paL,paC,zAc];refine⟨[4,1999],[],?_⟩;simp only[ZE,seval,zAp.eq_1,zAp.eq_2,zAq.eq_1,zAq.eq_2,GZ,zAt.eq_def,zAj.eq_def,ghK.eq_def,zAF.eq_def,zAi.eq_def,zHK,zht,AV.core,GZ,paO,paL,paC,zAc];exact⟨_,i,hR,hi,(eX_mk3 10 e0 n0 n0 x y z).symm,rfl⟩
 | false=>
  rw[if_neg (by decide)]at hR hp;have e1:=zai hb;have e2:=zDl hb;have hf:=zGc Z T b;have hlen:=hT.len;have hw:=zaq (show b<9223372036854775807 by omega);have hl2:=hT.last b hb;have ks:zd3 prog 9 (.lit (.string (tk T b).2.1)):=zB5 (hT.size hb);have kr:(∀y∈Z.kO,zd3 prog 9 y)=True:=eq_true hZ.ok;have hr:=hZ.ops (tk T b).2.1;obtain⟨⟨k,s,p⟩,ht⟩: ∃t,tk T b=t:=⟨_,rfl⟩;rw[ht]at e2 hr hl2 hR ks;simp only at e2 hr hl2 hR ks;simp only[ZE,seval,KE]at hp;by_cases h0:zGx s=0
  ·rw[if_pos h0]at hr;rw[if_pos (.inl h0)]at hR;have c1:((0:Int)==0)=true:=rfl;simp only[ZE,seval,zCx x,KE,GZ,paO,paL,paC,zAc];refine EFn.gV [(1,1),(7777777,7777777)] (hp) ?_ ?_
   ·simp only[ZE,seval,GZ,paO,paL,paC,zAc]
   rintro V ol new ⟨rfl,rfl,rfl⟩;simp only[ZE,seval,e1,e2,wal,KE,GZ,paO,paL,paC,zAc];refine⟨by kernel_rfl,?_⟩;simp only[ZE,seval,hr,kr,ks,zal,c1,was,hw,KE,GZ,paO,paL,paC,zAc];refine EFn.gX [(1,1),(7777777,7777777)] hf ?_ (fun v hv=>by exact⟨b,hR,hv⟩) (fun _ _ _ h=>h.elim);simp only[ZE,seval,GZ,paO,paL,paC,zAc]
  rw[if_neg h0]at hr;have c1:((zGx s:Int)==0)=false:=by simp; omega
  by_cases hk:k=3
  ·subst hk;have e3:(((3:Nat):Int) !=3)=false:=rfl;have hb1:=hl2 (by decide);have h2:=h (b+1) hb1;rw[if_neg (by simp[h0])]at hR;simp only[ZE,seval,KE]at h2;simp only[ZE,seval,zCx x,KE,GZ,paO,paL,paC,zAc];refine EFn.gV [(1,1),(7777777,7777777)] (hp) ?_ ?_
   ·simp only[ZE,seval,GZ,paO,paL,paC,zAc]
   rintro V ol new ⟨rfl,rfl,rfl⟩;simp only[ZE,seval,e1,e2,wal,KE,GZ,paO,paL,paC,zAc];refine⟨by kernel_rfl,?_⟩;simp only[ZE,seval,hr,kr,ks,zal,c1,e3,hw,war,KE,GZ,paO,paL,paC,zAc];refine EFn.gX [(1,1),(95,95),(7777777,7777777)] (h2) ?_ (fun v hv=>by obtain⟨i,hi,hv⟩:=hv; exact⟨i,by rw[hR,hi]; rfl,hv⟩) ?_
   ·simp only[ZE,seval,GZ,paO,paL,paC,zAc]
   rintro V ol new ⟨y,c,hy,hc,rfl,rfl,rfl⟩;rw[hy,PR.bd_ok]at hR;simp only[ZE,seval,zCx y,KE,GZ,paO,paL,paC,zAc];have hq:=zBu Z T hT c (⟨#[41]⟩:ByteArray) hc;simp only[ZE,seval,KE]at hq;refine EFn.gX [(1,1),(7777777,7777777)] (hq) ?_ (fun v hv=>by obtain⟨i,hi,hv⟩:=hv; exact⟨i,by rw[hR,hi]; rfl,hv⟩) ?_
   ·simp only[ZE,seval,GZ,paO,paL,paC,zAc]
   rintro V ol new ⟨_u,i,h5,hi,rfl,rfl,rfl⟩;rw[h5,PR.bd_ok]at hR;simp only[ZE,seval,zAt.eq_def,zAF.eq_def,KE,GZ,paO,paL,paC,zAc];refine⟨[4,10,7,1999],[],?_⟩;simp only[ZE,seval,zAp.eq_1,zAp.eq_2,zAq.eq_1,zAq.eq_2,GZ,zAt.eq_def,zAj.eq_def,ghK.eq_def,zAF.eq_def,zAi.eq_def,zHK,zht,AV.core,GZ,paO,paL,paC,zAc];exact⟨_,i,hR,hi,(eX_mk2 (zGx s) e0 n0 n0 x y).symm,rfl⟩
  ·have e3:((k:Int) !=3)=true:=by simp; omega
   rw[if_pos (.inr hk)]at hR;simp only[ZE,seval,zCx x,KE,GZ,paO,paL,paC,zAc];refine EFn.gV [(1,1),(7777777,7777777)] (hp) ?_ ?_
   ·simp only[ZE,seval,GZ,paO,paL,paC,zAc]
   rintro V ol new ⟨rfl,rfl,rfl⟩;simp only[ZE,seval,e1,e2,wal,KE,GZ,paO,paL,paC,zAc];refine⟨by kernel_rfl,?_⟩;simp only[ZE,seval,hr,kr,ks,zal,c1,e3,hw,war,KE,GZ,paO,paL,paC,zAc];refine EFn.gX [(1,1),(7777777,7777777)] hf ?_ (fun v hv=>by exact⟨b,hR,hv⟩) (fun _ _ _ h=>h.elim);simp only[ZE,seval,GZ,paO,paL,paC,zAc]
def exL(i:Nat):List Gh:=if i=2008 then [.ord ⟨[(0,none),(1,none),(2,none),(3,none),(4,none),(5,none),(6,none),(7,none),(8,none),(9,none),(10,none),(11,none),(12,none)]⟩]else if i=1 then [.frz 3]else if i=11 then [.frz 47]else if i=17 then [.frz 63]else []
theorem zHE(Z:GP)(hZ:Z.Ok)(T:List Tok)(hT:TOk T): ∀(d:Nat),d<=1000-> ∀a,a<T.length->PCon Z T 222 [.bp 1 0,.d (eI d)] a (zBA T d a) eX:=by
 have key: ∀(d:Nat) (D:Int) (rec:Nat->PR Expr) (deep:Bool),decide (D>1)=deep->decide (D<=1)= !deep ->(deep=true-> ∃n:Nat,D=n+1/\rec=zBA T n/\ ∀a,a<T.length->PConC Z T 236 [.bp 95 0,.d (.ptr [eI (n+1)])] a (zBA T n a) eX)-> ∀a,a<T.length->
   PCon Z T 222 [.bp 1 0,.d (eI D)] a (zCK rec deep T a) eX:=by
  intro _ D rec deep hD1 hD2 hrec a ha;refine zBL.srt (zBL.of_eH 1999 [] (own:=[]) exL [0] zat func222 rfl call222 ntmps222 (zle rfl) results222 (zDb Z T a _ (by simp[AV.noRefs,AV.noRef])) (fun gs=> ?_));obtain⟨R,hR⟩: ∃R,R=zCK rec deep T a:=⟨_,rfl⟩;rw[<-hR];unfold zCK at hR;have e1:=zai ha;have e2:=zDl ha;have hf:=zGc Z T a;have p1:=zBq Z T hT a (⟨#[91]⟩:ByteArray) ha;have l1:=zBj hT ha (s:=(⟨#[91]⟩:ByteArray)) (k:=3) (by decide);obtain⟨g,hg⟩:=zX (isT T a 3 (⟨#[91]⟩:ByteArray));rw[hg]at p1 l1 hR;cases g with
  | true=>
   rw[if_pos rfl]at hR p1;have hn:=zIs Z hZ T hT (a+1) (l1 rfl);simp only[ZE,seval,KE]at p1;simp only[ZE,seval,KE]at hn;simp only[ZE,seval,exL,KE,GZ,paO,paL,paC,zAc];refine EFn.gV [(1,1),(7777777,7777777)] (p1) ?_ ?_
   ·simp only[ZE,seval,GZ,paO,paL,paC,zAc]
   rintro V ol new ⟨rfl,rfl,rfl⟩;simp only[ZE,seval,exL,GZ,paO,paL,paC,zAc];refine EFn.gX [(1,1),(7777777,7777777)] (hn) ?_ (fun v hv=>by obtain⟨i,hi,hv⟩:=hv; exact⟨i,by rw[hR,hi]; rfl,hv⟩) ?_
   ·simp only[ZE,seval,GZ,paO,paL,paC,zAc]
   rintro V ol new ⟨k,c,h2,hc,rfl,rfl,rfl⟩;rw[h2,PR.bd_ok]at hR;simp only[ZE,seval,exL,KE,GZ,paO,paL,paC,zAc];have hs:=zBu Z T hT c (⟨#[58]⟩:ByteArray) hc;simp only[ZE,seval,KE]at hs;refine EFn.gX [(1,1),(7777777,7777777)] (hs) ?_ (fun v hv=>by obtain⟨i,hi,hv⟩:=hv; exact⟨i,by rw[hR,hi]; rfl,hv⟩) ?_
   ·simp only[ZE,seval,GZ,paO,paL,paC,zAc]
   rintro V ol new ⟨_u,e,h3,he,rfl,rfl,rfl⟩;rw[h3,PR.bd_ok]at hR;simp only[ZE,seval,exL,KE,GZ,paO,paL,paC,zAc];have hm:=zIs Z hZ T hT e he;simp only[ZE,seval,KE]at hm;refine EFn.gX [(1,1),(7777777,7777777)] (hm) ?_ (fun v hv=>by obtain⟨i,hi,hv⟩:=hv; exact⟨i,by rw[hR,hi]; rfl,hv⟩) ?_
   ·simp only[ZE,seval,GZ,paO,paL,paC,zAc]
   rintro V ol new ⟨w,f,h4,hf,rfl,rfl,rfl⟩;rw[h4,PR.bd_ok]at hR;simp only[ZE,seval,exL,KE,GZ,paO,paL,paC,zAc];have hq:=zBu Z T hT f (⟨#[93]⟩:ByteArray) hf;simp only[ZE,seval,KE]at hq;refine EFn.gX [(1,1),(7777777,7777777)] (hq) ?_ (fun v hv=>by obtain⟨i,hi,hv⟩:=hv; exact⟨i,by rw[hR,hi]; rfl,hv⟩) ?_
   ·simp only[ZE,seval,GZ,paO,paL,paC,zAc]
   rintro V ol new ⟨_u,i,h5,hi,rfl,rfl,rfl⟩;rw[h5,PR.bd_ok]at hR;simp only[ZE,seval,exL,zAt.eq_def,zAF.eq_def,KE,GZ,paO,paL,paC,zAc];refine⟨[2,4,6,1999],[],?_⟩;simp only[ZE,seval,zAp.eq_1,zAp.eq_2,zAq.eq_1,zAq.eq_2,GZ,zAt.eq_def,zAj.eq_def,ghK.eq_def,zAF.eq_def,zAi.eq_def,zHK,zht,AV.core,GZ,paO,paL,paC,zAc];exact⟨_,i,hR,hi,rfl,rfl⟩
  | false=>
  rw[if_neg (by decide)]at hR p1;simp only[ZE,seval,KE]at p1;by_cases hk:(tk T a).1 =1
  ·rw[if_pos hk]at hR;have e3:(((tk T a).1 :Int)==1)=true:=by rw[hk]; rfl
   have hm:=zDj Z hZ T hT a ha;simp only[ZE,seval,KE]at hm;simp only[ZE,seval,exL,KE,GZ,paO,paL,paC,zAc];refine EFn.gV [(1,1),(7777777,7777777)] (p1) ?_ ?_
   ·simp only[ZE,seval,GZ,paO,paL,paC,zAc]
   rintro V ol new ⟨rfl,rfl,rfl⟩;simp only[ZE,seval,exL,e1,e2,e3,wal,KE,GZ,paO,paL,paC,zAc];refine⟨by kernel_rfl,?_⟩;refine EFn.gX [(1,1),(7777777,7777777)] (hm) ?_ (fun v hv=>by obtain⟨i,hi,hv⟩:=hv; exact⟨i,by rw[hR,hi]; rfl,hv⟩) ?_
   ·simp only[ZE,seval,GZ,paO,paL,paC,zAc]
   rintro V ol new ⟨s,b,h1,hb,rfl,rfl,rfl⟩;rw[h1,PR.bd_ok]at hR;cases deep with
   | false=>
    rw[if_neg (by simp)]at hR;simp only[ZE,seval,exL,hD1,zAt.eq_def,zAF.eq_def,KE,GZ,paO,paL,paC,zAc];refine⟨[2,4,7,1999],[],?_⟩;simp only[ZE,seval,zAp.eq_1,zAp.eq_2,zAq.eq_1,zAq.eq_2,GZ,zAt.eq_def,zAj.eq_def,ghK.eq_def,zAF.eq_def,zAi.eq_def,zHK,zht,AV.core,GZ,paO,paL,paC,zAc];exact⟨_,b,hR,hb,rfl,rfl⟩
   | true=>
   have p2:=zBq Z T hT b (⟨#[91]⟩:ByteArray) hb;have l2:=zBj hT hb (s:=(⟨#[91]⟩:ByteArray)) (k:=3) (by decide);obtain⟨g,hg⟩:=zX (isT T b 3 (⟨#[91]⟩:ByteArray));rw[hg]at p2 l2 hR;cases g with
   | false=>
    rw[if_neg (by simp)]at hR;rw[if_neg (by decide)]at p2;simp only[ZE,seval,KE]at p2;simp only[ZE,seval,exL,hD1,KE,GZ,paO,paL,paC,zAc];refine EFn.gV [(1,1),(7777777,7777777)] (p2) ?_ ?_
    ·simp only[ZE,seval,GZ,paO,paL,paC,zAc]
    rintro V ol new ⟨rfl,rfl,rfl⟩;simp only[ZE,seval,exL,zAt.eq_def,zAF.eq_def,KE,GZ,paO,paL,paC,zAc];refine⟨[2,4,7,1999],[],?_⟩;simp only[ZE,seval,zAp.eq_1,zAp.eq_2,zAq.eq_1,zAq.eq_2,GZ,zAt.eq_def,zAj.eq_def,ghK.eq_def,zAF.eq_def,zAi.eq_def,zHK,zht,AV.core,GZ,paO,paL,paC,zAc];exact⟨_,b,hR,hb,rfl,rfl⟩
   | true=>
    rw[if_pos ⟨rfl,rfl⟩]at hR;rw[if_pos rfl]at p2;obtain⟨n,rfl,rfl,hc⟩:=hrec rfl;have hc2:=hc (b+1) (l2 rfl);obtain⟨rec,hrec2⟩:=zX (zBA T n);rw[hrec2]at hc2 hR;simp only[ZE,seval,KE]at p2;simp only[ZE,seval,KE]at hc2;simp only[ZE,seval,exL,hD1,KE,GZ,paO,paL,paC,zAc];refine EFn.gV [(1,1),(7777777,7777777)] (p2) ?_ ?_
    ·simp only[ZE,seval,GZ,paO,paL,paC,zAc]
    rintro V ol new ⟨rfl,rfl,rfl⟩;simp only[ZE,seval,exL,GZ,paO,paL,paC,zAc];refine EFn.gX [(1,1),(95,2),(7777777,7777777)] (hc2) ?_ (fun v hv=>by obtain⟨i,hi,hv⟩:=hv; exact⟨i,by rw[hR,hi]; rfl,hv⟩) ?_
    ·simp only[ZE,seval,GZ,paO,paL,paC,zAc]
    rintro V ol new ⟨x,c,h2,hc3,rfl,rfl,rfl⟩;rw[h2,PR.bd_ok]at hR;simp only[ZE,seval,exL,zCx x,KE,GZ,paO,paL,paC,zAc];have hs:=zBu Z T hT c (⟨#[93]⟩:ByteArray) hc3;simp only[ZE,seval,KE]at hs;refine EFn.gX [(1,1),(7777777,7777777)] (hs) ?_ (fun v hv=>by obtain⟨i,hi,hv⟩:=hv; exact⟨i,by rw[hR,hi]; rfl,hv⟩) ?_
    ·simp only[ZE,seval,GZ,paO,paL,paC,zAc]
    rintro V ol new ⟨_u,e,h3,he,rfl,rfl,rfl⟩;rw[h3,PR.bd_ok]at hR;simp only[ZE,seval,exL,zAt.eq_def,zAF.eq_def,KE,GZ,paO,paL,paC,zAc];refine⟨[2,4,7,1999],[],?_⟩;simp only[ZE,seval,zAp.eq_1,zAp.eq_2,zAq.eq_1,zAq.eq_2,GZ,zAt.eq_def,zAj.eq_def,ghK.eq_def,zAF.eq_def,zAi.eq_def,zHK,zht,AV.core,GZ,paO,paL,paC,zAc];exact⟨_,e,hR,he,(eX_mk1 15 s n0 n0 x).symm,rfl⟩
  rw[if_neg hk]at hR;have e3:(((tk T a).1 :Int)==1)=false:=by simp; omega
  cases deep with
  | false=>
   rw[if_pos rfl]at hR;simp only[ZE,seval,exL,KE,GZ,paO,paL,paC,zAc];refine EFn.gV [(1,1),(7777777,7777777)] (p1) ?_ ?_
   ·simp only[ZE,seval,GZ,paO,paL,paC,zAc]
   rintro V ol new ⟨rfl,rfl,rfl⟩;simp only[ZE,seval,exL,e1,e2,e3,wal,KE,GZ,paO,paL,paC,zAc];refine⟨by kernel_rfl,?_⟩;simp only[ZE,seval,exL,hD2,Bool.not_false,KE,GZ,paO,paL,paC,zAc];refine EFn.gX [(1,1),(7777777,7777777)] hf ?_ (fun v hv=>by exact⟨a,hR,hv⟩) (fun _ _ _ h=>h.elim);simp only[ZE,seval,GZ,paO,paL,paC,zAc]
  | true=>
  rw[if_neg (by decide)]at hR;obtain⟨n,rfl,rfl,hc⟩:=hrec rfl;have hcu:=fun b hb=>curly_p Z hZ T hT n b hb hc;have hro:=fun b hb=>round_p Z hZ T hT n b hb hc;obtain⟨rec,hrec2⟩:=zX (zBA T n);rw[hrec2]at hcu hro hc hR;have p2:=zBq Z T hT a (⟨#[126]⟩:ByteArray) ha;have l2:=zBj hT ha (s:=(⟨#[126]⟩:ByteArray)) (k:=3) (by decide);obtain⟨g,hg⟩:=zX (isT T a 3 (⟨#[126]⟩:ByteArray));rw[hg]at p2 l2 hR;cases g with
  | true=>
   rw[if_pos rfl]at hR p2;have hc2:=hc (a+1) (l2 rfl);simp only[ZE,seval,KE]at p2;simp only[ZE,seval,KE]at hc2;simp only[ZE,seval,exL,KE,GZ,paO,paL,paC,zAc];refine EFn.gV [(1,1),(7777777,7777777)] (p1) ?_ ?_
   ·simp only[ZE,seval,GZ,paO,paL,paC,zAc]
   rintro V ol new ⟨rfl,rfl,rfl⟩;simp only[ZE,seval,exL,e1,e2,e3,wal,KE,GZ,paO,paL,paC,zAc];refine⟨by kernel_rfl,?_⟩;simp only[ZE,seval,exL,hD2,Bool.not_true,KE,GZ,paO,paL,paC,zAc];refine EFn.gV [(1,1),(7777777,7777777)] (p2) ?_ ?_
   ·simp only[ZE,seval,GZ,paO,paL,paC,zAc]
   rintro V ol new ⟨rfl,rfl,rfl⟩;simp only[ZE,seval,exL,GZ,paO,paL,paC,zAc];refine EFn.gX [(1,1),(95,2),(7777777,7777777)] (hc2) ?_ (fun v hv=>by obtain⟨i,hi,hv⟩:=hv; exact⟨i,by rw[hR,hi]; rfl,hv⟩) ?_
   ·simp only[ZE,seval,GZ,paO,paL,paC,zAc]
   rintro V ol new ⟨x,c,h2,hc3,rfl,rfl,rfl⟩;rw[h2,PR.bd_ok]at hR;simp only[ZE,seval,exL,zCx x,zAt.eq_def,zAF.eq_def,KE,GZ,paO,paL,paC,zAc];refine⟨[2,4,1999],[],?_⟩;simp only[ZE,seval,zAp.eq_1,zAp.eq_2,zAq.eq_1,zAq.eq_2,GZ,zAt.eq_def,zAj.eq_def,ghK.eq_def,zAF.eq_def,zAi.eq_def,zHK,zht,AV.core,GZ,paO,paL,paC,zAc];exact⟨_,c,hR,hc3,(eX_mk1 2 e0 n0 n0 x).symm,rfl⟩
  | false=>
  rw[if_neg (by decide)]at hR p2;have p3:=zBq Z T hT a (⟨#[40]⟩:ByteArray) ha;have l3:=zBj hT ha (s:=(⟨#[40]⟩:ByteArray)) (k:=3) (by decide);obtain⟨g,hg⟩:=zX (isT T a 3 (⟨#[40]⟩:ByteArray));rw[hg]at p3 l3 hR;simp only[ZE,seval,KE]at p2;cases g with
  | true=>
   rw[if_pos rfl]at hR p3;have hc2:=hro (a+1) (l3 rfl);simp only[ZE,seval,KE]at p3;simp only[ZE,seval,KE]at hc2;simp only[ZE,seval,exL,KE,GZ,paO,paL,paC,zAc];refine EFn.gV [(1,1),(7777777,7777777)] (p1) ?_ ?_
   ·simp only[ZE,seval,GZ,paO,paL,paC,zAc]
   rintro V ol new ⟨rfl,rfl,rfl⟩;simp only[ZE,seval,exL,e1,e2,e3,wal,KE,GZ,paO,paL,paC,zAc];refine⟨by kernel_rfl,?_⟩;simp only[ZE,seval,exL,hD2,Bool.not_true,KE,GZ,paO,paL,paC,zAc];refine EFn.gV [(1,1),(7777777,7777777)] (p2) ?_ ?_
   ·simp only[ZE,seval,GZ,paO,paL,paC,zAc]
   rintro V ol new ⟨rfl,rfl,rfl⟩;simp only[ZE,seval,exL,GZ,paO,paL,paC,zAc];refine EFn.gV [(1,1),(7777777,7777777)] (p3) ?_ ?_
   ·simp only[ZE,seval,GZ,paO,paL,paC,zAc]
   rintro V ol new ⟨rfl,rfl,rfl⟩;simp only[ZE,seval,exL,GZ,paO,paL,paC,zAc];refine EFn.gX [(1,1),(95,2),(7777777,7777777)] hc2 ?_ (fun v hv=>by obtain⟨i,hi,hv⟩:=hv; exact⟨i,by rw[hR,hi],hv⟩) ?_
   ·simp only[ZE,seval,GZ,paO,paL,paC,zAc]
   rintro V ol new ⟨x,c,h2,hc3,rfl,rfl,rfl⟩;rw[h2]at hR;simp only[ZE,seval,exL,zCx x,zAt.eq_def,zAF.eq_def,KE,GZ,paO,paL,paC,zAc];refine⟨[2,4,1999],[],?_⟩;simp only[ZE,seval,zAp.eq_1,zAp.eq_2,zAq.eq_1,zAq.eq_2,GZ,zAt.eq_def,zAj.eq_def,ghK.eq_def,zAF.eq_def,zAi.eq_def,zHK,zht,AV.core,GZ,paO,paL,paC,zAc];exact⟨_,c,hR,hc3,(zCx x).symm,rfl⟩
  | false=>
  rw[if_neg (by decide)]at hR p3;have p4:=zBq Z T hT a (⟨#[123]⟩:ByteArray) ha;have l4:=zBj hT ha (s:=(⟨#[123]⟩:ByteArray)) (k:=3) (by decide);obtain⟨g,hg⟩:=zX (isT T a 3 (⟨#[123]⟩:ByteArray));rw[hg]at p4 l4 hR;simp only[ZE,seval,KE]at p3;cases g with
  | true=>
   rw[if_pos rfl]at hR p4;have hc2:=hcu (a+1) (l4 rfl);simp only[ZE,seval,KE]at p4;simp only[ZE,seval,KE]at hc2;simp only[ZE,seval,exL,KE,GZ,paO,paL,paC,zAc];refine EFn.gV [(1,1),(7777777,7777777)] (p1) ?_ ?_
   ·simp only[ZE,seval,GZ,paO,paL,paC,zAc]
   rintro V ol new ⟨rfl,rfl,rfl⟩;simp only[ZE,seval,exL,e1,e2,e3,wal,KE,GZ,paO,paL,paC,zAc];refine⟨by kernel_rfl,?_⟩;simp only[ZE,seval,exL,hD2,Bool.not_true,KE,GZ,paO,paL,paC,zAc];refine EFn.gV [(1,1),(7777777,7777777)] (p2) ?_ ?_
   ·simp only[ZE,seval,GZ,paO,paL,paC,zAc]
   rintro V ol new ⟨rfl,rfl,rfl⟩;simp only[ZE,seval,exL,GZ,paO,paL,paC,zAc];refine EFn.gV [(1,1),(7777777,7777777)] (p3) ?_ ?_
   ·simp only[ZE,seval,GZ,paO,paL,paC,zAc]
   rintro V ol new ⟨rfl,rfl,rfl⟩;simp only[ZE,seval,exL,GZ,paO,paL,paC,zAc];refine EFn.gV [(1,1),(7777777,7777777)] (p4) ?_ ?_
   ·simp only[ZE,seval,GZ,paO,paL,paC,zAc]
   rintro V ol new ⟨rfl,rfl,rfl⟩;simp only[ZE,seval,exL,GZ,paO,paL,paC,zAc];refine EFn.gX [(1,1),(95,2),(7777777,7777777)] hc2 ?_ (fun v hv=>by obtain⟨i,hi,hv⟩:=hv; exact⟨i,by rw[hR,hi],hv⟩) ?_
   ·simp only[ZE,seval,GZ,paO,paL,paC,zAc]
   rintro V ol new ⟨x,c,h2,hc3,rfl,rfl,rfl⟩;rw[h2]at hR;simp only[ZE,seval,exL,zCx x,zAt.eq_def,zAF.eq_def,KE,GZ,paO,paL,paC,zAc];refine⟨[2,4,1999],[],?_⟩;simp only[ZE,seval,zAp.eq_1,zAp.eq_2,zAq.eq_1,zAq.eq_2,GZ,zAt.eq_def,zAj.eq_def,ghK.eq_def,zAF.eq_def,zAi.eq_def,zHK,zht,AV.core,GZ,paO,paL,paC,zAc];exact⟨_,c,hR,hc3,(zCx x).symm,rfl⟩
  | false=>
   rw[if_neg (by decide)]at hR p4;simp only[ZE,seval,KE]at p4;simp only[ZE,seval,exL,KE,GZ,paO,paL,paC,zAc];refine EFn.gV [(1,1),(7777777,7777777)] (p1) ?_ ?_
   ·simp only[ZE,seval,GZ,paO,paL,paC,zAc]
   rintro V ol new ⟨rfl,rfl,rfl⟩;simp only[ZE,seval,exL,e1,e2,e3,wal,KE,GZ,paO,paL,paC,zAc];refine⟨by kernel_rfl,?_⟩;simp only[ZE,seval,exL,hD2,Bool.not_true,KE,GZ,paO,paL,paC,zAc];refine EFn.gV [(1,1),(7777777,7777777)] (p2) ?_ ?_
   ·simp only[ZE,seval,GZ,paO,paL,paC,zAc]
   rintro V ol new ⟨rfl,rfl,rfl⟩;simp only[ZE,seval,exL,GZ,paO,paL,paC,zAc];refine EFn.gV [(1,1),(7777777,7777777)] (p3) ?_ ?_
   ·simp only[ZE,seval,GZ,paO,paL,paC,zAc]
   rintro V ol new ⟨rfl,rfl,rfl⟩;simp only[ZE,seval,exL,GZ,paO,paL,paC,zAc];refine EFn.gV [(1,1),(7777777,7777777)] (p4) ?_ ?_
   ·simp only[ZE,seval,GZ,paO,paL,paC,zAc]
   rintro V ol new ⟨rfl,rfl,rfl⟩;simp only[ZE,seval,exL,GZ,paO,paL,paC,zAc];refine EFn.gX [(1,1),(7777777,7777777)] hf ?_ (fun v hv=>by exact⟨a,hR,hv⟩) (fun _ _ _ h=>h.elim);simp only[ZE,seval,GZ,paO,paL,paC,zAc]
 intro d
 induction d with
 | zero=>
  intro _ a ha;exact key 0 0 (fun a=>.error a) false rfl rfl (by intro h; cases h) a ha
 | succ d ih=>
  intro hd a ha;refine key (d+1) ((d+1:Nat):Int) (zBA T d) (decide (0<d)) ?_ ?_ (fun h=> ?_) a ha
  ·rw[wao]; simp only[decide_eq_true_eq]; omega
  ·rw[wao]; simp only[decide_eq_true_eq,Bool.not_eq_true',decide_eq_false_iff_not]; omega
  ·exact⟨d,by omega,rfl,fun a ha=>cl_p Z T d a (ih (by omega) a ha) (by omega)⟩
def itA(x:Item):List AV:=
 [.d (eI x.kind),.d (eSb x.name),.d (eI x.width.n),.d (eSb x.width.p),.d (eI x.depth.n),.d (eSb x.depth.p),.d (eI x.init.n),.d (eSb x.init.p),
  .d (eI x.a.op),.d (eSb x.a.name),.d (eI x.a.k.n),.d (eSb x.a.k.p),.d (eI x.a.w.n),.d (eSb x.a.w.p),.d (.sl (x.a.args.map zbx)),
  .d (eI x.b.op),.d (eSb x.b.name),.d (eI x.b.k.n),.d (eSb x.b.k.p),.d (eI x.b.w.n),.d (eSb x.b.w.p),.d (.sl (x.b.args.map zbx)),
  .d (eI x.c.op),.d (eSb x.c.name),.d (eI x.c.k.n),.d (eSb x.c.k.p),.d (eI x.c.w.n),.d (eSb x.c.w.p),.d (.sl (x.c.args.map zbx)),
  .d (eI x.rule.kind),.d (eSb x.rule.from'),.d (eI x.rule.n),.d (eSb x.of),.ar 103 x.args.length,.ar 104 x.ports.length]
def nmO(l:List Num):AO:=.arr 105 2 .flat (l.map zgL)
def bnO(l:List Bind):AO:=.arr 230 2 .flat (l.map zjO)
def paI(Z:GP)(T:List Tok)(a:Nat)(x:Item):OL:=[(1,paO T a),(101,.box (itA x)),(103,nmO x.args),(104,bnO x.ports),(7777777,Z.o)]
def zHw(Z:GP)(T:List Tok)(f:Nat)(a:Nat)(x:Item)(R:PR Item):Prop:=
 zBL prog f [.bp 1 0,.bp 101 0] (paI Z T a x) (fun V ol new=> ∃y b,R= .ok (y,b)/\b<T.length/\V= .tup []/\ol=paI Z T b y/\new=[]) (fun v=> ∃i,R= .error i/\v=zCU i)
theorem zD1(Z:GP)(T:List Tok)(a:Nat)(x:Item)(args:List AV)(ha:AV.noRefs [1999] args):
  (zyk 1999 (paI Z T a x)/\AV.noRefs [1999] args)/\zCV (om (paI Z T a x)) [.ar 103 x.args.length,.ar 104 x.ports.length]/\AV.noRefs [1999] [.ar 103 x.args.length,.ar 104 x.ports.length]:=by
 simp[paI,paO,itA,nmO,bnO,GZ,zyk,AO.noRef,AV.noRefs,AV.noRef,zCV,om,ha]
theorem zw7(k:D):zeN [] k=0:=by simp[zeN]
open Classical in
theorem ziQ(a:D)(ks:List D)(k:D):zeN (a::ks) k=if a=k then 0 else zeN ks k+1:=by
 unfold zeN;rw[List.findIdx_cons];by_cases h:a=k
 ·simp[h]
 ·simp[h]
theorem zjz(vs:List D)(k:D):zjZ [] vs k=none:=by simp[zjZ,zw7]
open Classical in
theorem zhM(a v:D)(ks vs:List D)(k:D):zjZ (a::ks) (v::vs) k=if a=k then some v else zjZ ks vs k:=by
 unfold zjZ;rw[ziQ];by_cases h:a=k
 ·simp[h]
 ·simp only[h,if_false,wad,Nat.add_lt_add_iff_right,List.getElem?_cons_succ]
theorem zoz{ks vs:List D}{bs:List Nat}{c:Nat}{k v:D}(h:k∉ks):zgQ ks k=ks++[k]/\zjk ks vs k v=vs++[v]:=by
 have: ¬zeN ks k<ks.length:=fun h'=>h (zcO.1 h');simp[zgQ,zjk,this]
theorem zdt{ks:List D}{k:D}(h:k∉ks):zgQ ks k=ks++[k]:=(zoz (vs:=[]) (v:=k) (bs:=[]) (c:=0) h).1
theorem zdu{ks vs:List D}{k v:D}(h:k∉ks):zjk ks vs k v=vs++[v]:=(zoz (bs:=[]) (c:=0) h).2
theorem zHr(Z:GP)(hZ:Z.Ok)(T:List Tok)(hT:TOk T)(a:Nat)(ha:a<T.length)(x:Item):zHw Z T 203 a x (zCc x T a):=by
 refine zBL.srt (zBL.of_eH 1999 [.ar 103 x.args.length,.ar 104 x.ports.length] (own:=[]) (fun _=>[]) [0,1] zat func203 rfl call203 ntmps203 (zle rfl) results203 (zD1 Z T a x _ (by simp[AV.noRefs,AV.noRef])) (fun gs=> ?_));obtain⟨R,hR⟩: ∃R,R=zCc x T a:=⟨_,rfl⟩;rw[<-hR];unfold zCc at hR;have h1:=zDj Z hZ T hT a ha;simp only[ZE,seval,KE]at h1;simp only[ZE,seval,KE,GZ,paO,paL,paI,itA,nmO,bnO,zAc];refine EFn.gX [(1,1),(7777777,7777777)] (h1) ?_ (fun v hv=>by obtain⟨i,hi,hv⟩:=hv; exact⟨i,by rw[hR,hi]; rfl,hv⟩) ?_
 ·simp only[ZE,seval,GZ,paO,paL,paI,itA,nmO,bnO,zAc]
 rintro V ol new ⟨s,b,e1,hb,rfl,rfl,rfl⟩;rw[e1,PR.bd_ok]at hR;have h2:=zBu Z T hT b (⟨#[58]⟩:ByteArray) hb;simp only[ZE,seval,KE]at h2;simp only[ZE,seval,KE,GZ,paO,paL,paI,itA,nmO,bnO,zAc];refine EFn.gX [(1,1),(7777777,7777777)] (h2) ?_ (fun v hv=>by obtain⟨i,hi,hv⟩:=hv; exact⟨i,by rw[hR,hi]; rfl,hv⟩) ?_
 ·simp only[ZE,seval,GZ,paO,paL,paI,itA,nmO,bnO,zAc]
 rintro V ol new ⟨_u,c,e2,hc,rfl,rfl,rfl⟩;rw[e2,PR.bd_ok]at hR;have h3:=zIs Z hZ T hT c hc;simp only[ZE,seval,KE]at h3;simp only[ZE,seval,KE,GZ,paO,paL,paI,itA,nmO,bnO,zAc];refine EFn.gX [(1,1),(7777777,7777777)] (h3) ?_ (fun v hv=>by obtain⟨i,hi,hv⟩:=hv; exact⟨i,by rw[hR,hi]; rfl,hv⟩) ?_
 ·simp only[ZE,seval,GZ,paO,paL,paI,itA,nmO,bnO,zAc]
 rintro V ol new ⟨w,d,e3,hd,rfl,rfl,rfl⟩;rw[e3,PR.bd_ok]at hR;simp only[ZE,seval,zAt.eq_def,zAF.eq_def,KE,GZ,paO,paL,paI,itA,nmO,bnO,zAc];refine⟨[1999],[],?_⟩;simp only[ZE,seval,zAp.eq_1,zAp.eq_2,zAq.eq_1,zAq.eq_2,GZ,zAt.eq_def,zAj.eq_def,ghK.eq_def,zAF.eq_def,zAi.eq_def,zHK,zht,AV.core,GZ,paO,paL,paI,itA,nmO,bnO,zAc];exact⟨_,d,hR,hd,rfl⟩
theorem zDo(s a:ByteArray):(s==a)=decide (s=a):=by
 show ByteArray.beq s a=_;rcases s with⟨x⟩;rcases a with⟨y⟩;unfold ByteArray.beq;rw[wao];simp
theorem zCS{α:Type}(enc:α->D): ∀(l:List (Bts×α)) (s:Bts),zjZ (l.map fun p=>D.lit (.string p.1)) (l.map fun p=>enc p.2) (D.lit (.string s))=(l.lookup s).map enc
 | [],s=>by simp[zjz]
 | (a,v)::l,s=>by
  rw[List.map_cons,List.map_cons,zhM,zCS enc l s,List.lookup_cons];by_cases h:s=a
  ·subst h;have h1:(s==s)=true:=by rw[zDo]; simp
   rw[if_pos rfl,h1];rfl
  ·have h1:(s==a)=false:=by rw[zDo]; simpa using h
   rw[if_neg (by simp only[D.lit.injEq,Value.string.injEq]; exact fun e=>h e.symm),h1]
theorem ruleL_le{s:Bts}{k:Nat}(h:zFX.lookup s=some k):k=0\/k=1\/k=2\/k=3:=by
 unfold zFX at h;simp only[List.lookup_cons,List.lookup_nil]at h
 repeat' split at h
 all_goals first | (cases h; simp) | cases h
theorem rule_p(Z:GP)(hZ:Z.Ok)(T:List Tok)(hT:TOk T)(a:Nat)(ha:a<T.length):
  PCon Z T 223 [.bp 1 0] a (zEm T a) (fun r=>.d (.agg (zib r))):=by
 refine zBL.srt (zBL.of_eH 1999 [] (own:=[]) (fun i=>if i=2002 then [.flt ⟨[(0,none),(1,none),(2,none),(3,none),(4,none),(5,none),(6,none),(7,none),(8,none),(9,none),(11,some [])]⟩ ⟨[10],[(11,[10])]⟩]else chL i) [0] zat func223 rfl call223 ntmps223 (zle rfl) results223 (zDb Z T a _ (by simp[AV.noRefs,AV.noRef])) (fun gs=> ?_));have e1:=zai ha;have e2:=zDl ha;have hf:=zGc Z T a;have hlen:=hT.len;have hw:=zaq (show a<9223372036854775807 by omega);have hl:=hT.last a ha;have ks:zd3 prog 9 (.lit (.string (tk T a).2.1)):=zB5 (hT.size ha);have i0:zgQ [] (D.lit (.string (⟨#[105,110,105,116]⟩:ByteArray)))=[D.lit (.string (⟨#[105,110,105,116]⟩:ByteArray))]:=zdt (by simp);have j0: ∀vs v,zjk [] vs (D.lit (.string (⟨#[105,110,105,116]⟩:ByteArray))) v=vs++[v]:=fun vs v=>zdu (by simp);have k0:zd3 prog 9 (D.lit (.string (⟨#[105,110,105,116]⟩:ByteArray))):=zB5 (by decide);have i1:zgQ [D.lit (.string (⟨#[105,110,105,116]⟩:ByteArray))] (D.lit (.string (⟨#[107,101,101,112]⟩:ByteArray)))=[D.lit (.string (⟨#[105,110,105,116]⟩:ByteArray)),D.lit (.string (⟨#[107,101,101,112]⟩:ByteArray))]:=zdt (by simp);have j1: ∀vs v,zjk [D.lit (.string (⟨#[105,110,105,116]⟩:ByteArray))] vs (D.lit (.string (⟨#[107,101,101,112]⟩:ByteArray))) v=vs++[v]:=fun vs v=>zdu (by simp);have k1:zd3 prog 9 (D.lit (.string (⟨#[107,101,101,112]⟩:ByteArray))):=zB5 (by decide);have i2:zgQ [D.lit (.string (⟨#[105,110,105,116]⟩:ByteArray)),D.lit (.string (⟨#[107,101,101,112]⟩:ByteArray))] (D.lit (.string (⟨#[99,111,112,121]⟩:ByteArray)))=[D.lit (.string (⟨#[105,110,105,116]⟩:ByteArray)),D.lit (.string (⟨#[107,101,101,112]⟩:ByteArray)),D.lit (.string (⟨#[99,111,112,121]⟩:ByteArray))]:=zdt (by simp);have j2: ∀vs v,zjk [D.lit (.string (⟨#[105,110,105,116]⟩:ByteArray)),D.lit (.string (⟨#[107,101,101,112]⟩:ByteArray))] vs (D.lit (.string (⟨#[99,111,112,121]⟩:ByteArray))) v=vs++[v]:=fun vs v=>zdu (by simp);have k2:zd3 prog 9 (D.lit (.string (⟨#[99,111,112,121]⟩:ByteArray))):=zB5 (by decide);have i3:zgQ [D.lit (.string (⟨#[105,110,105,116]⟩:ByteArray)),D.lit (.string (⟨#[107,101,101,112]⟩:ByteArray)),D.lit (.string (⟨#[99,111,112,121]⟩:ByteArray))] (D.lit (.string (⟨#[97,100,100]⟩:ByteArray)))=[D.lit (.string (⟨#[105,110,105,116]⟩:ByteArray)),D.lit (.string (⟨#[107,101,101,112]⟩:ByteArray)),D.lit (.string (⟨#[99,111,112,121]⟩:ByteArray)),D.lit (.string (⟨#[97,100,100]⟩:ByteArray))]:=zdt (by simp);have j3: ∀vs v,zjk [D.lit (.string (⟨#[105,110,105,116]⟩:ByteArray)),D.lit (.string (⟨#[107,101,101,112]⟩:ByteArray)),D.lit (.string (⟨#[99,111,112,121]⟩:ByteArray))] vs (D.lit (.string (⟨#[97,100,100]⟩:ByteArray))) v=vs++[v]:=fun vs v=>zdu (by simp);have k3:zd3 prog 9 (D.lit (.string (⟨#[97,100,100]⟩:ByteArray))):=zB5 (by decide);have hm:zjZ [D.lit (.string (⟨#[105,110,105,116]⟩:ByteArray)),D.lit (.string (⟨#[107,101,101,112]⟩:ByteArray)),D.lit (.string (⟨#[99,111,112,121]⟩:ByteArray)),D.lit (.string (⟨#[97,100,100]⟩:ByteArray))] [D.lit (.int .i64 0),D.lit (.int .i64 1),D.lit (.int .i64 2),D.lit (.int .i64 3)] (D.lit (.string (tk T a).2.1))=(zFX.lookup (tk T a).2.1).map (fun k:Nat=>D.lit (.int .i64 (k:Int))):=zCS (fun k:Nat=>D.lit (.int .i64 (k:Int))) zFX _;obtain⟨R,hR⟩: ∃R,R=zEm T a:=⟨_,rfl⟩;rw[<-hR];unfold zEm at hR;obtain⟨⟨k,s,p⟩,ht⟩: ∃t,tk T a=t:=⟨_,rfl⟩;rw[ht]at e2 ks hl hR hm;simp only at e2 ks hl hR hm;obtain⟨o,ho⟩:=zX (zFX.lookup s);rw[ho]at hR hm;by_cases hk:k=1
 ·subst hk;rw[if_neg (by simp)]at hR;have e3:(((1:Nat):Int) !=1)=false:=rfl;have hla:=hl (by decide);rcases o with _ | q
  ·rw[waq]at hm;simp only[ZE,seval,i0,j0,k0,i1,j1,k1,i2,j2,k2,i3,j3,k3,zal,e1,e2,wal,wai,waj,or_imp,forall_and,KE,GZ,paO,paL,paI,itA,nmO,bnO,zAc];refine⟨by kernel_rfl,?_⟩;simp only[ZE,seval,k0,k1,k2,k3,ks,hm,zal,e3,hw,or_imp,forall_and,was,Option.isSome_none,Bool.not_false,KE,GZ,paO,paL,paI,itA,nmO,bnO,zAc];refine EFn.gX [(1,1),(7777777,7777777)] hf ?_ (fun v hv=>by exact⟨a,hR,hv⟩) (fun _ _ _ h=>h.elim);simp only[ZE,seval,GZ,paO,paL,paI,itA,nmO,bnO,zAc]
  rw[wap]at hm;rcases ruleL_le ho with rfl | rfl | rfl | rfl
  ·simp only[ZE,seval,i0,j0,k0,i1,j1,k1,i2,j2,k2,i3,j3,k3,zal,e1,e2,wal,wai,waj,or_imp,forall_and,KE,GZ,paO,paL,paI,itA,nmO,bnO,zAc];refine⟨by kernel_rfl,?_⟩;simp only[ZE,seval,k0,k1,k2,k3,ks,hm,zal,e3,hw,or_imp,forall_and,war,Option.isSome_some,Bool.not_true,zAt.eq_def,zAF.eq_def,KE,GZ,paO,paL,paI,itA,nmO,bnO,zAc];refine⟨[2,4,7,8,1999],[],?_⟩;simp only[ZE,seval,zAp.eq_1,zAp.eq_2,zAq.eq_1,zAq.eq_2,GZ,zAt.eq_def,zAj.eq_def,ghK.eq_def,zAF.eq_def,zAi.eq_def,zHK,zht,AV.core,GZ,paO,paL,paI,itA,nmO,bnO,zAc];exact⟨_,_,hR,hla,rfl,rfl⟩
  ·simp only[ZE,seval,i0,j0,k0,i1,j1,k1,i2,j2,k2,i3,j3,k3,zal,e1,e2,wal,wai,waj,or_imp,forall_and,KE,GZ,paO,paL,paI,itA,nmO,bnO,zAc];refine⟨by kernel_rfl,?_⟩;simp only[ZE,seval,k0,k1,k2,k3,ks,hm,zal,e3,hw,or_imp,forall_and,war,Option.isSome_some,Bool.not_true,zAt.eq_def,zAF.eq_def,KE,GZ,paO,paL,paI,itA,nmO,bnO,zAc];refine⟨[2,4,7,8,1999],[],?_⟩;simp only[ZE,seval,zAp.eq_1,zAp.eq_2,zAq.eq_1,zAq.eq_2,GZ,zAt.eq_def,zAj.eq_def,ghK.eq_def,zAF.eq_def,zAi.eq_def,zHK,zht,AV.core,GZ,paO,paL,paI,itA,nmO,bnO,zAc];exact⟨_,_,hR,hla,rfl,rfl⟩
  ·have c1:=zDj Z hZ T hT (a+1) hla;simp only[ZE,seval,KE]at c1;simp only[ZE,seval,i0,j0,k0,i1,j1,k1,i2,j2,k2,i3,j3,k3,zal,e1,e2,wal,wai,waj,or_imp,forall_and,KE,GZ,paO,paL,paI,itA,nmO,bnO,zAc];refine⟨by kernel_rfl,?_⟩;simp only[ZE,seval,k0,k1,k2,k3,ks,hm,zal,e3,hw,or_imp,forall_and,war,Option.isSome_some,Bool.not_true,KE,GZ,paO,paL,paI,itA,nmO,bnO,zAc];refine EFn.gX [(1,1),(7777777,7777777)] (c1) ?_ (fun v hv=>by obtain⟨i,hi,hv⟩:=hv; exact⟨i,by rw[hR,hi]; rfl,hv⟩) ?_
   ·simp only[ZE,seval,GZ,paO,paL,paI,itA,nmO,bnO,zAc]
   rintro V ol new ⟨n,b,h1,hb,rfl,rfl,rfl⟩;rw[h1,PR.bd_ok]at hR;simp only[ZE,seval,zAt.eq_def,zAF.eq_def,KE,GZ,paO,paL,paI,itA,nmO,bnO,zAc];refine⟨[2,4,7,8,1999],[],?_⟩;simp only[ZE,seval,zAp.eq_1,zAp.eq_2,zAq.eq_1,zAq.eq_2,GZ,zAt.eq_def,zAj.eq_def,ghK.eq_def,zAF.eq_def,zAi.eq_def,zHK,zht,AV.core,GZ,paO,paL,paI,itA,nmO,bnO,zAc];exact⟨_,_,hR,hb,rfl,rfl⟩
  ·have c1:=zDj Z hZ T hT (a+1) hla;simp only[ZE,seval,KE]at c1;simp only[ZE,seval,i0,j0,k0,i1,j1,k1,i2,j2,k2,i3,j3,k3,zal,e1,e2,wal,wai,waj,or_imp,forall_and,KE,GZ,paO,paL,paI,itA,nmO,bnO,zAc];refine⟨by kernel_rfl,?_⟩;simp only[ZE,seval,k0,k1,k2,k3,ks,hm,zal,e3,hw,or_imp,forall_and,war,Option.isSome_some,Bool.not_true,KE,GZ,paO,paL,paI,itA,nmO,bnO,zAc];refine EFn.gX [(1,1),(7777777,7777777)] (c1) ?_ (fun v hv=>by obtain⟨i,hi,hv⟩:=hv; exact⟨i,by rw[hR,hi]; rfl,hv⟩) ?_
   ·simp only[ZE,seval,GZ,paO,paL,paI,itA,nmO,bnO,zAc]
   rintro V ol new ⟨n,b,h1,hb,rfl,rfl,rfl⟩;rw[h1,PR.bd_ok]at hR
   replace hR:R=(zAZ T 0 b).bd fun m c=>.ok (⟨3,n,m⟩,c):=hR
   have c2:=zGL Z T hT 0 b hb;simp only[ZE,seval,KE]at c2;simp only[ZE,seval,KE,GZ,paO,paL,paI,itA,nmO,bnO,zAc];refine EFn.gX [(1,1),(7777777,7777777)] (c2) ?_ (fun v hv=>by obtain⟨i,hi,hv⟩:=hv; exact⟨i,by rw[hR,hi]; rfl,hv⟩) ?_
   ·simp only[ZE,seval,GZ,paO,paL,paI,itA,nmO,bnO,zAc]
   rintro V ol new ⟨m,c,h2,hc,rfl,rfl,rfl⟩;rw[h2,PR.bd_ok]at hR;simp only[ZE,seval,zAt.eq_def,zAF.eq_def,KE,GZ,paO,paL,paI,itA,nmO,bnO,zAc];refine⟨[2,4,7,8,1999],[],?_⟩;simp only[ZE,seval,zAp.eq_1,zAp.eq_2,zAq.eq_1,zAq.eq_2,GZ,zAt.eq_def,zAj.eq_def,ghK.eq_def,zAF.eq_def,zAi.eq_def,zHK,zht,AV.core,GZ,paO,paL,paI,itA,nmO,bnO,zAc];exact⟨_,_,hR,hc,rfl,rfl⟩
 ·rw[if_pos hk]at hR;have e3:((k:Int) !=1)=true:=by simp; omega
  rcases o with _ | q
  ·rw[waq]at hm;simp only[ZE,seval,i0,j0,k0,i1,j1,k1,i2,j2,k2,i3,j3,k3,zal,e1,e2,wal,wai,waj,or_imp,forall_and,KE,GZ,paO,paL,paI,itA,nmO,bnO,zAc];refine⟨by kernel_rfl,?_⟩;simp only[ZE,seval,k0,k1,k2,k3,ks,hm,zal,e3,hw,or_imp,forall_and,was,Option.isSome_none,Bool.not_false,KE,GZ,paO,paL,paI,itA,nmO,bnO,zAc];refine EFn.gX [(1,1),(7777777,7777777)] hf ?_ (fun v hv=>by exact⟨a,hR,hv⟩) (fun _ _ _ h=>h.elim);simp only[ZE,seval,GZ,paO,paL,paI,itA,nmO,bnO,zAc]
  ·rw[wap]at hm;simp only[ZE,seval,i0,j0,k0,i1,j1,k1,i2,j2,k2,i3,j3,k3,zal,e1,e2,wal,wai,waj,or_imp,forall_and,KE,GZ,paO,paL,paI,itA,nmO,bnO,zAc];refine⟨by kernel_rfl,?_⟩;simp only[ZE,seval,k0,k1,k2,k3,ks,hm,zal,e3,hw,or_imp,forall_and,war,Option.isSome_some,Bool.not_true,KE,GZ,paO,paL,paI,itA,nmO,bnO,zAc];refine EFn.gX [(1,1),(7777777,7777777)] hf ?_ (fun v hv=>by exact⟨a,hR,hv⟩) (fun _ _ _ h=>h.elim);simp only[ZE,seval,GZ,paO,paL,paI,itA,nmO,bnO,zAc]
theorem channel_p(Z:GP)(hZ:Z.Ok)(T:List Tok)(hT:TOk T)(a:Nat)(ha:a<T.length)(x:Item):zHw Z T 204 a x (zE0 x T a):=by
 refine zBL.srt (zBL.of_eH 1999 [.ar 103 x.args.length,.ar 104 x.ports.length] (own:=[]) (fun _=>[]) [0,1] zat func204 rfl call204 ntmps204 (zle rfl) results204 (zD1 Z T a x _ (by simp[AV.noRefs,AV.noRef])) (fun gs=> ?_));obtain⟨R,hR⟩: ∃R,R=zE0 x T a:=⟨_,rfl⟩;rw[<-hR];unfold zE0 at hR;obtain⟨ex,hex⟩:=zX (zBA T 8);have hE:=fun b hb=>zHE Z hZ T hT 8 (by decide) b hb;rw[hex]at hE
 try rw[hex]at hR
 have c1:=zHr Z hZ T hT a ha x;simp only[ZE,seval,KE,GZ,paO,paL,paI,itA,nmO,bnO,zAc];refine EFn.gX [(1,1),(101,101),(103,103),(104,104),(7777777,7777777)] (c1) ?_ (fun v hv=>by obtain⟨i,hi,hv⟩:=hv; exact⟨i,by rw[hR,hi]; rfl,hv⟩) ?_
 ·simp only[ZE,seval,KE,GZ,paO,paL,paI,itA,nmO,bnO,zAc]
 rintro V ol new ⟨y,p1,e1,h1,rfl,rfl,rfl⟩;rw[e1,PR.bd_ok]at hR;have c2:=zBu Z T hT p1 (⟨#[91]⟩:ByteArray) h1;simp only[ZE,seval,KE]at c2;simp only[ZE,seval,KE,GZ,paO,paL,paI,itA,nmO,bnO,zAc];refine EFn.gX [(1,1),(7777777,7777777)] (c2) ?_ (fun v hv=>by obtain⟨i,hi,hv⟩:=hv; exact⟨i,by rw[hR,hi]; rfl,hv⟩) ?_
 ·simp only[ZE,seval,GZ,paO,paL,paI,itA,nmO,bnO,zAc]
 rintro V ol new ⟨_u,p2,e2,h2,rfl,rfl,rfl⟩;rw[e2,PR.bd_ok]at hR;have c3:=zIs Z hZ T hT p2 h2;simp only[ZE,seval,KE]at c3;simp only[ZE,seval,KE,GZ,paO,paL,paI,itA,nmO,bnO,zAc];refine EFn.gX [(1,1),(7777777,7777777)] (c3) ?_ (fun v hv=>by obtain⟨i,hi,hv⟩:=hv; exact⟨i,by rw[hR,hi]; rfl,hv⟩) ?_
 ·simp only[ZE,seval,GZ,paO,paL,paI,itA,nmO,bnO,zAc]
 rintro V ol new ⟨w,p3,e3,h3,rfl,rfl,rfl⟩;rw[e3,PR.bd_ok]at hR;have c4:=zBu Z T hT p3 (⟨#[93]⟩:ByteArray) h3;simp only[ZE,seval,KE]at c4;simp only[ZE,seval,KE,GZ,paO,paL,paI,itA,nmO,bnO,zAc];refine EFn.gX [(1,1),(7777777,7777777)] (c4) ?_ (fun v hv=>by obtain⟨i,hi,hv⟩:=hv; exact⟨i,by rw[hR,hi]; rfl,hv⟩) ?_
 ·simp only[ZE,seval,GZ,paO,paL,paI,itA,nmO,bnO,zAc]
 rintro V ol new ⟨_u,p4,e4,h4,rfl,rfl,rfl⟩;rw[e4,PR.bd_ok]at hR;simp only[ZE,seval,zAt.eq_def,zAF.eq_def,KE,GZ,paO,paL,paI,itA,nmO,bnO,zAc];refine⟨[1999],[],?_⟩;simp only[ZE,seval,zAp.eq_1,zAp.eq_2,zAq.eq_1,zAq.eq_2,GZ,zAt.eq_def,zAj.eq_def,ghK.eq_def,zAF.eq_def,zAi.eq_def,zHK,zht,AV.core,GZ,paO,paL,paI,itA,nmO,bnO,zAc];exact⟨_,p4,hR,h4,rfl⟩
theorem register_p(Z:GP)(hZ:Z.Ok)(T:List Tok)(hT:TOk T)(a:Nat)(ha:a<T.length)(x:Item):zHw Z T 205 a x (regP x T a):=by
 refine zBL.srt (zBL.of_eH 1999 [.ar 103 x.args.length,.ar 104 x.ports.length] (own:=[]) (fun _=>[]) [0,1] zat func205 rfl call205 ntmps205 (zle rfl) results205 (zD1 Z T a x _ (by simp[AV.noRefs,AV.noRef])) (fun gs=> ?_));obtain⟨R,hR⟩: ∃R,R=regP x T a:=⟨_,rfl⟩;rw[<-hR];unfold regP at hR;obtain⟨ex,hex⟩:=zX (zBA T 8);have hE:=fun b hb=>zHE Z hZ T hT 8 (by decide) b hb;rw[hex]at hE
 try rw[hex]at hR
 have c1:=zHr Z hZ T hT a ha x;simp only[ZE,seval,KE,GZ,paO,paL,paI,itA,nmO,bnO,zAc];refine EFn.gX [(1,1),(101,101),(103,103),(104,104),(7777777,7777777)] (c1) ?_ (fun v hv=>by obtain⟨i,hi,hv⟩:=hv; exact⟨i,by rw[hR,hi]; rfl,hv⟩) ?_
 ·simp only[ZE,seval,KE,GZ,paO,paL,paI,itA,nmO,bnO,zAc]
 rintro V ol new ⟨y,p1,e1,h1,rfl,rfl,rfl⟩;rw[e1,PR.bd_ok]at hR;have c2:=zBu Z T hT p1 (⟨#[61]⟩:ByteArray) h1;simp only[ZE,seval,KE]at c2;simp only[ZE,seval,KE,GZ,paO,paL,paI,itA,nmO,bnO,zAc];refine EFn.gX [(1,1),(7777777,7777777)] (c2) ?_ (fun v hv=>by obtain⟨i,hi,hv⟩:=hv; exact⟨i,by rw[hR,hi]; rfl,hv⟩) ?_
 ·simp only[ZE,seval,GZ,paO,paL,paI,itA,nmO,bnO,zAc]
 rintro V ol new ⟨_u,p2,e2,h2,rfl,rfl,rfl⟩;rw[e2,PR.bd_ok]at hR;have c3:=zIs Z hZ T hT p2 h2;simp only[ZE,seval,KE]at c3;simp only[ZE,seval,KE,GZ,paO,paL,paI,itA,nmO,bnO,zAc];refine EFn.gX [(1,1),(7777777,7777777)] (c3) ?_ (fun v hv=>by obtain⟨i,hi,hv⟩:=hv; exact⟨i,by rw[hR,hi]; rfl,hv⟩) ?_
 ·simp only[ZE,seval,GZ,paO,paL,paI,itA,nmO,bnO,zAc]
 rintro V ol new ⟨w,p3,e3,h3,rfl,rfl,rfl⟩;rw[e3,PR.bd_ok]at hR;have c4:=zBu Z T hT p3 (⟨#[45,62]⟩:ByteArray) h3;simp only[ZE,seval,KE]at c4;simp only[ZE,seval,KE,GZ,paO,paL,paI,itA,nmO,bnO,zAc];refine EFn.gX [(1,1),(7777777,7777777)] (c4) ?_ (fun v hv=>by obtain⟨i,hi,hv⟩:=hv; exact⟨i,by rw[hR,hi]; rfl,hv⟩) ?_
 ·simp only[ZE,seval,GZ,paO,paL,paI,itA,nmO,bnO,zAc]
 rintro V ol new ⟨_u,p4,e4,h4,rfl,rfl,rfl⟩;rw[e4,PR.bd_ok]at hR;have c5:=hE p4 h4;simp only[ZE,seval,KE]at c5;simp only[ZE,seval,KE,GZ,paO,paL,paI,itA,nmO,bnO,zAc];refine EFn.gX [(1,1),(7777777,7777777)] (c5) ?_ (fun v hv=>by obtain⟨i,hi,hv⟩:=hv; exact⟨i,by rw[hR,hi]; rfl,hv⟩) ?_
 ·simp only[ZE,seval,GZ,paO,paL,paI,itA,nmO,bnO,zAc]
 rintro V ol new ⟨e,p5,e5,h5,rfl,rfl,rfl⟩;rw[e5,PR.bd_ok]at hR;have c6:=rule_p Z hZ T hT p5 h5;simp only[ZE,seval,KE]at c6;simp only[ZE,seval,zCx e,KE,GZ,paO,paL,paI,itA,nmO,bnO,zAc];refine EFn.gX [(1,1),(7777777,7777777)] (c6) ?_ (fun v hv=>by obtain⟨i,hi,hv⟩:=hv; exact⟨i,by rw[hR,hi]; rfl,hv⟩) ?_
 ·simp only[ZE,seval,GZ,paO,paL,paI,itA,nmO,bnO,zAc]
 rintro V ol new ⟨r,p6,e6,h6,rfl,rfl,rfl⟩;rw[e6,PR.bd_ok]at hR;simp only[ZE,seval,zAt.eq_def,zAF.eq_def,KE,GZ,paO,paL,paI,itA,nmO,bnO,zAc];refine⟨[1999],[],?_⟩;simp only[ZE,seval,zAp.eq_1,zAp.eq_2,zAq.eq_1,zAq.eq_2,GZ,zAt.eq_def,zAj.eq_def,ghK.eq_def,zAF.eq_def,zAi.eq_def,zHK,zht,AV.core,GZ,paO,paL,paI,itA,nmO,bnO,zAc];exact⟨_,p6,hR,h6,rfl⟩
theorem wire_p(Z:GP)(hZ:Z.Ok)(T:List Tok)(hT:TOk T)(a:Nat)(ha:a<T.length)(x:Item):zHw Z T 206 a x (wireP x T a):=by
 refine zBL.srt (zBL.of_eH 1999 [.ar 103 x.args.length,.ar 104 x.ports.length] (own:=[]) (fun _=>[]) [0,1] zat func206 rfl call206 ntmps206 (zle rfl) results206 (zD1 Z T a x _ (by simp[AV.noRefs,AV.noRef])) (fun gs=> ?_));obtain⟨R,hR⟩: ∃R,R=wireP x T a:=⟨_,rfl⟩;rw[<-hR];unfold wireP at hR;obtain⟨ex,hex⟩:=zX (zBA T 8);have hE:=fun b hb=>zHE Z hZ T hT 8 (by decide) b hb;rw[hex]at hE
 try rw[hex]at hR
 have c1:=zHr Z hZ T hT a ha x;simp only[ZE,seval,KE,GZ,paO,paL,paI,itA,nmO,bnO,zAc];refine EFn.gX [(1,1),(101,101),(103,103),(104,104),(7777777,7777777)] (c1) ?_ (fun v hv=>by obtain⟨i,hi,hv⟩:=hv; exact⟨i,by rw[hR,hi]; rfl,hv⟩) ?_
 ·simp only[ZE,seval,KE,GZ,paO,paL,paI,itA,nmO,bnO,zAc]
 rintro V ol new ⟨y,p1,e1,h1,rfl,rfl,rfl⟩;rw[e1,PR.bd_ok]at hR;have c2:=zBu Z T hT p1 (⟨#[61]⟩:ByteArray) h1;simp only[ZE,seval,KE]at c2;simp only[ZE,seval,KE,GZ,paO,paL,paI,itA,nmO,bnO,zAc];refine EFn.gX [(1,1),(7777777,7777777)] (c2) ?_ (fun v hv=>by obtain⟨i,hi,hv⟩:=hv; exact⟨i,by rw[hR,hi]; rfl,hv⟩) ?_
 ·simp only[ZE,seval,GZ,paO,paL,paI,itA,nmO,bnO,zAc]
 rintro V ol new ⟨_u,p2,e2,h2,rfl,rfl,rfl⟩;rw[e2,PR.bd_ok]at hR;have c3:=hE p2 h2;simp only[ZE,seval,KE]at c3;simp only[ZE,seval,KE,GZ,paO,paL,paI,itA,nmO,bnO,zAc];refine EFn.gX [(1,1),(7777777,7777777)] (c3) ?_ (fun v hv=>by obtain⟨i,hi,hv⟩:=hv; exact⟨i,by rw[hR,hi]; rfl,hv⟩) ?_
 ·simp only[ZE,seval,GZ,paO,paL,paI,itA,nmO,bnO,zAc]
 rintro V ol new ⟨e,p3,e3,h3,rfl,rfl,rfl⟩;rw[e3,PR.bd_ok]at hR;simp only[ZE,seval,zCx e,zAt.eq_def,zAF.eq_def,KE,GZ,paO,paL,paI,itA,nmO,bnO,zAc];refine⟨[1999],[],?_⟩;simp only[ZE,seval,zAp.eq_1,zAp.eq_2,zAq.eq_1,zAq.eq_2,GZ,zAt.eq_def,zAj.eq_def,ghK.eq_def,zAF.eq_def,zAi.eq_def,zHK,zht,AV.core,GZ,paO,paL,paI,itA,nmO,bnO,zAc];exact⟨_,p3,hR,h3,rfl⟩
theorem memory_p(Z:GP)(hZ:Z.Ok)(T:List Tok)(hT:TOk T)(a:Nat)(ha:a<T.length)(x:Item):zHw Z T 207 a x (memP x T a):=by
 refine zBL.srt (zBL.of_eH 1999 [.ar 103 x.args.length,.ar 104 x.ports.length] (own:=[]) (fun _=>[]) [0,1] zat func207 rfl call207 ntmps207 (zle rfl) results207 (zD1 Z T a x _ (by simp[AV.noRefs,AV.noRef])) (fun gs=> ?_));obtain⟨R,hR⟩: ∃R,R=memP x T a:=⟨_,rfl⟩;rw[<-hR];unfold memP at hR;obtain⟨ex,hex⟩:=zX (zBA T 8);have hE:=fun b hb=>zHE Z hZ T hT 8 (by decide) b hb;rw[hex]at hE
 try rw[hex]at hR
 have c1:=channel_p Z hZ T hT a ha x;simp only[ZE,seval,KE,GZ,paO,paL,paI,itA,nmO,bnO,zAc];refine EFn.gX [(1,1),(101,101),(103,103),(104,104),(7777777,7777777)] (c1) ?_ (fun v hv=>by obtain⟨i,hi,hv⟩:=hv; exact⟨i,by rw[hR,hi]; rfl,hv⟩) ?_
 ·simp only[ZE,seval,KE,GZ,paO,paL,paI,itA,nmO,bnO,zAc]
 rintro V ol new ⟨y,p1,e1,h1,rfl,rfl,rfl⟩;rw[e1,PR.bd_ok]at hR;have c2:=word_p Z T hT p1 (⟨#[105,102]⟩:ByteArray) h1;simp only[ZE,seval,KE]at c2;simp only[ZE,seval,KE,GZ,paO,paL,paI,itA,nmO,bnO,zAc];refine EFn.gX [(1,1),(7777777,7777777)] (c2) ?_ (fun v hv=>by obtain⟨i,hi,hv⟩:=hv; exact⟨i,by rw[hR,hi]; rfl,hv⟩) ?_
 ·simp only[ZE,seval,GZ,paO,paL,paI,itA,nmO,bnO,zAc]
 rintro V ol new ⟨_u,p2,e2,h2,rfl,rfl,rfl⟩;rw[e2,PR.bd_ok]at hR;have c3:=hE p2 h2;simp only[ZE,seval,KE]at c3;simp only[ZE,seval,KE,GZ,paO,paL,paI,itA,nmO,bnO,zAc];refine EFn.gX [(1,1),(7777777,7777777)] (c3) ?_ (fun v hv=>by obtain⟨i,hi,hv⟩:=hv; exact⟨i,by rw[hR,hi]; rfl,hv⟩) ?_
 ·simp only[ZE,seval,GZ,paO,paL,paI,itA,nmO,bnO,zAc]
 rintro V ol new ⟨e,p3,e3,h3,rfl,rfl,rfl⟩;rw[e3,PR.bd_ok]at hR;have c4:=word_p Z T hT p3 (⟨#[97,116]⟩:ByteArray) h3;simp only[ZE,seval,KE]at c4;simp only[ZE,seval,zCx e,KE,GZ,paO,paL,paI,itA,nmO,bnO,zAc];refine EFn.gX [(1,1),(7777777,7777777)] (c4) ?_ (fun v hv=>by obtain⟨i,hi,hv⟩:=hv; exact⟨i,by rw[hR,hi]; rfl,hv⟩) ?_
 ·simp only[ZE,seval,GZ,paO,paL,paI,itA,nmO,bnO,zAc]
 rintro V ol new ⟨_u,p4,e4,h4,rfl,rfl,rfl⟩;rw[e4,PR.bd_ok]at hR;have c5:=hE p4 h4;simp only[ZE,seval,KE]at c5;simp only[ZE,seval,KE,GZ,paO,paL,paI,itA,nmO,bnO,zAc];refine EFn.gX [(1,1),(7777777,7777777)] (c5) ?_ (fun v hv=>by obtain⟨i,hi,hv⟩:=hv; exact⟨i,by rw[hR,hi]; rfl,hv⟩) ?_
 ·simp only[ZE,seval,GZ,paO,paL,paI,itA,nmO,bnO,zAc]
 rintro V ol new ⟨f,p5,e5,h5,rfl,rfl,rfl⟩;rw[e5,PR.bd_ok]at hR;have c6:=zBu Z T hT p5 (⟨#[61]⟩:ByteArray) h5;simp only[ZE,seval,KE]at c6;simp only[ZE,seval,zCx f,KE,GZ,paO,paL,paI,itA,nmO,bnO,zAc];refine EFn.gX [(1,1),(7777777,7777777)] (c6) ?_ (fun v hv=>by obtain⟨i,hi,hv⟩:=hv; exact⟨i,by rw[hR,hi]; rfl,hv⟩) ?_
 ·simp only[ZE,seval,GZ,paO,paL,paI,itA,nmO,bnO,zAc]
 rintro V ol new ⟨_u,p6,e6,h6,rfl,rfl,rfl⟩;rw[e6,PR.bd_ok]at hR;have c7:=hE p6 h6;simp only[ZE,seval,KE]at c7;simp only[ZE,seval,KE,GZ,paO,paL,paI,itA,nmO,bnO,zAc];refine EFn.gX [(1,1),(7777777,7777777)] (c7) ?_ (fun v hv=>by obtain⟨i,hi,hv⟩:=hv; exact⟨i,by rw[hR,hi]; rfl,hv⟩) ?_
 ·simp only[ZE,seval,GZ,paO,paL,paI,itA,nmO,bnO,zAc]
 rintro V ol new ⟨g,p7,e7,h7,rfl,rfl,rfl⟩;rw[e7,PR.bd_ok]at hR;have c8:=rule_p Z hZ T hT p7 h7;simp only[ZE,seval,KE]at c8;simp only[ZE,seval,zCx g,KE,GZ,paO,paL,paI,itA,nmO,bnO,zAc];refine EFn.gX [(1,1),(7777777,7777777)] (c8) ?_ (fun v hv=>by obtain⟨i,hi,hv⟩:=hv; exact⟨i,by rw[hR,hi]; rfl,hv⟩) ?_
 ·simp only[ZE,seval,GZ,paO,paL,paI,itA,nmO,bnO,zAc]
 rintro V ol new ⟨r,p8,e8,h8,rfl,rfl,rfl⟩;rw[e8,PR.bd_ok]at hR;simp only[ZE,seval,zAt.eq_def,zAF.eq_def,KE,GZ,paO,paL,paI,itA,nmO,bnO,zAc];refine⟨[1999],[],?_⟩;simp only[ZE,seval,zAp.eq_1,zAp.eq_2,zAq.eq_1,zAq.eq_2,GZ,zAt.eq_def,zAj.eq_def,ghK.eq_def,zAF.eq_def,zAi.eq_def,zHK,zht,AV.core,GZ,paO,paL,paI,itA,nmO,bnO,zAc];exact⟨_,p8,hR,h8,rfl⟩
theorem take_p(Z:GP)(hZ:Z.Ok)(T:List Tok)(hT:TOk T)(a:Nat)(ha:a<T.length)(x:Item):zHw Z T 208 a x (zFw x T a):=by
 refine zBL.srt (zBL.of_eH 1999 [.ar 103 x.args.length,.ar 104 x.ports.length] (own:=[]) (fun _=>[]) [0,1] zat func208 rfl call208 ntmps208 (zle rfl) results208 (zD1 Z T a x _ (by simp[AV.noRefs,AV.noRef])) (fun gs=> ?_));obtain⟨R,hR⟩: ∃R,R=zFw x T a:=⟨_,rfl⟩;rw[<-hR];unfold zFw at hR;obtain⟨ex,hex⟩:=zX (zBA T 8);have hE:=fun b hb=>zHE Z hZ T hT 8 (by decide) b hb;rw[hex]at hE
 try rw[hex]at hR
 have c1:=zDj Z hZ T hT a ha;simp only[ZE,seval,KE]at c1;simp only[ZE,seval,KE,GZ,paO,paL,paI,itA,nmO,bnO,zAc];refine EFn.gX [(1,1),(7777777,7777777)] (c1) ?_ (fun v hv=>by obtain⟨i,hi,hv⟩:=hv; exact⟨i,by rw[hR,hi]; rfl,hv⟩) ?_
 ·simp only[ZE,seval,GZ,paO,paL,paI,itA,nmO,bnO,zAc]
 rintro V ol new ⟨s,p1,e1,h1,rfl,rfl,rfl⟩;rw[e1,PR.bd_ok]at hR;have c2:=word_p Z T hT p1 (⟨#[105,102]⟩:ByteArray) h1;simp only[ZE,seval,KE]at c2;simp only[ZE,seval,KE,GZ,paO,paL,paI,itA,nmO,bnO,zAc];refine EFn.gX [(1,1),(7777777,7777777)] (c2) ?_ (fun v hv=>by obtain⟨i,hi,hv⟩:=hv; exact⟨i,by rw[hR,hi]; rfl,hv⟩) ?_
 ·simp only[ZE,seval,GZ,paO,paL,paI,itA,nmO,bnO,zAc]
 rintro V ol new ⟨_u,p2,e2,h2,rfl,rfl,rfl⟩;rw[e2,PR.bd_ok]at hR;have c3:=hE p2 h2;simp only[ZE,seval,KE]at c3;simp only[ZE,seval,KE,GZ,paO,paL,paI,itA,nmO,bnO,zAc];refine EFn.gX [(1,1),(7777777,7777777)] (c3) ?_ (fun v hv=>by obtain⟨i,hi,hv⟩:=hv; exact⟨i,by rw[hR,hi]; rfl,hv⟩) ?_
 ·simp only[ZE,seval,GZ,paO,paL,paI,itA,nmO,bnO,zAc]
 rintro V ol new ⟨e,p3,e3,h3,rfl,rfl,rfl⟩;rw[e3,PR.bd_ok]at hR;simp only[ZE,seval,zCx e,zAt.eq_def,zAF.eq_def,KE,GZ,paO,paL,paI,itA,nmO,bnO,zAc];refine⟨[1999],[],?_⟩;simp only[ZE,seval,zAp.eq_1,zAp.eq_2,zAq.eq_1,zAq.eq_2,GZ,zAt.eq_def,zAj.eq_def,ghK.eq_def,zAF.eq_def,zAi.eq_def,zHK,zht,AV.core,GZ,paO,paL,paI,itA,nmO,bnO,zAc];exact⟨_,p3,hR,h3,rfl⟩
theorem put_p(Z:GP)(hZ:Z.Ok)(T:List Tok)(hT:TOk T)(a:Nat)(ha:a<T.length)(x:Item):zHw Z T 209 a x (putP x T a):=by
 refine zBL.srt (zBL.of_eH 1999 [.ar 103 x.args.length,.ar 104 x.ports.length] (own:=[]) (fun _=>[]) [0,1] zat func209 rfl call209 ntmps209 (zle rfl) results209 (zD1 Z T a x _ (by simp[AV.noRefs,AV.noRef])) (fun gs=> ?_));obtain⟨R,hR⟩: ∃R,R=putP x T a:=⟨_,rfl⟩;rw[<-hR];unfold putP at hR;obtain⟨ex,hex⟩:=zX (zBA T 8);have hE:=fun b hb=>zHE Z hZ T hT 8 (by decide) b hb;rw[hex]at hE
 try rw[hex]at hR
 have c1:=take_p Z hZ T hT a ha x;simp only[ZE,seval,KE,GZ,paO,paL,paI,itA,nmO,bnO,zAc];refine EFn.gX [(1,1),(101,101),(103,103),(104,104),(7777777,7777777)] (c1) ?_ (fun v hv=>by obtain⟨i,hi,hv⟩:=hv; exact⟨i,by rw[hR,hi]; rfl,hv⟩) ?_
 ·simp only[ZE,seval,KE,GZ,paO,paL,paI,itA,nmO,bnO,zAc]
 rintro V ol new ⟨y,p1,e1,h1,rfl,rfl,rfl⟩;rw[e1,PR.bd_ok]at hR;have c2:=zBu Z T hT p1 (⟨#[61]⟩:ByteArray) h1;simp only[ZE,seval,KE]at c2;simp only[ZE,seval,KE,GZ,paO,paL,paI,itA,nmO,bnO,zAc];refine EFn.gX [(1,1),(7777777,7777777)] (c2) ?_ (fun v hv=>by obtain⟨i,hi,hv⟩:=hv; exact⟨i,by rw[hR,hi]; rfl,hv⟩) ?_
 ·simp only[ZE,seval,GZ,paO,paL,paI,itA,nmO,bnO,zAc]
 rintro V ol new ⟨_u,p2,e2,h2,rfl,rfl,rfl⟩;rw[e2,PR.bd_ok]at hR;have c3:=hE p2 h2;simp only[ZE,seval,KE]at c3;simp only[ZE,seval,KE,GZ,paO,paL,paI,itA,nmO,bnO,zAc];refine EFn.gX [(1,1),(7777777,7777777)] (c3) ?_ (fun v hv=>by obtain⟨i,hi,hv⟩:=hv; exact⟨i,by rw[hR,hi]; rfl,hv⟩) ?_
 ·simp only[ZE,seval,GZ,paO,paL,paI,itA,nmO,bnO,zAc]
 rintro V ol new ⟨e,p3,e3,h3,rfl,rfl,rfl⟩;rw[e3,PR.bd_ok]at hR;simp only[ZE,seval,zCx e,zAt.eq_def,zAF.eq_def,KE,GZ,paO,paL,paI,itA,nmO,bnO,zAc];refine⟨[1999],[],?_⟩;simp only[ZE,seval,zAp.eq_1,zAp.eq_2,zAq.eq_1,zAq.eq_2,GZ,zAt.eq_def,zAj.eq_def,ghK.eq_def,zAF.eq_def,zAi.eq_def,zHK,zht,AV.core,GZ,paO,paL,paI,itA,nmO,bnO,zAc];exact⟨_,p3,hR,h3,rfl⟩
def pxI(Z:GP)(T:List Tok)(a:Nat)(x:Item):OL:=[(1,paO T a),(95,.box [.bp 1 0]),(96,.box [.bp 101 0]),(101,.box (itA x)),(103,nmO x.args),(104,bnO x.ports),(7777777,Z.o)]
theorem zIC(Z:GP)(T:List Tok)(a:Nat)(x:Item)(args:List AV)(ha:AV.noRefs [1999] args):
  (zyk 1999 (pxI Z T a x)/\AV.noRefs [1999] args)/\zCV (om (pxI Z T a x)) [.bp 1 0,.bp 95 0,.bp 96 0,.bp 101 0,.ar 103 x.args.length,.ar 104 x.ports.length]/\AV.noRefs [1999] [.bp 1 0,.bp 95 0,.bp 96 0,.bp 101 0,.ar 103 x.args.length,.ar 104 x.ports.length]:=by
 simp[pxI,paO,itA,nmO,bnO,GZ,zyk,AO.noRef,AV.noRefs,AV.noRef,zCV,om,ha]
def PConX{α:Type}(Z:GP)(T:List Tok)(f:Nat)(args:List AV)(a:Nat)(x:Item)(R:PR α)(up:α->Item):Prop:=
 zBL prog f args (pxI Z T a x) (fun V ol new=> ∃y b,R= .ok (y,b)/\b<T.length/\V= .tup []/\ol=pxI Z T b (up y)/\new=[]) (fun v=> ∃i,R= .error i/\v=zCU i)
theorem inst1_p(Z:GP)(hZ:Z.Ok)(T:List Tok)(hT:TOk T)(a:Nat)(ha:a<T.length)(x:Item)(hx:x.args.length<=10000000):
  PConX Z T 224 [.bp 96 0,.bp 95 0] a x (zDM T a) (fun n=>{x with args:=x.args++[n]}):=by
 refine zBL.srt (zBL.of_eH 1999 [.bp 1 0,.bp 95 0,.bp 96 0,.bp 101 0,.ar 103 x.args.length,.ar 104 x.ports.length] (own:=[]) (fun i=>if i=2000 then [.flt ⟨[(0,none),(1,none),(2,none),(3,none),(4,none),(5,none),(6,some [0,1,2,3,4]),(7,some [0,1,2,3,4]),(8,some [0]),(9,none),(10,none),(11,some [])]⟩ ⟨[],[]⟩]else []) [0,1] zat func224 rfl call224 ntmps224 (zle rfl) results224 (zIC Z T a x _ (by simp[AV.noRefs,AV.noRef])) (fun gs=> ?_));obtain⟨R,hR⟩: ∃R,R=zDM T a:=⟨_,rfl⟩;have c1:=zIs Z hZ T hT a ha;rw[<-hR]at c1 ⊢;simp only[ZE,seval,KE]at c1;simp only[ZE,seval,KE,GZ,paO,paL,paI,pxI,itA,nmO,bnO,zAc];refine⟨by kernel_rfl,?_⟩;refine EFn.gX [(1,1),(7777777,7777777)] c1 ?_ (fun v hv=>by exact hv) ?_
 ·simp only[ZE,seval,GZ,paO,paL,paI,pxI,itA,nmO,bnO,zAc]
 rintro V ol new ⟨n,b,h1,hb,rfl,rfl,rfl⟩;have hlen:x.args.length+1=(x.args++[n]).length :=by simp
 have hmap:x.args.map zgL++[[D.lit (.int .i64 n.n),D.lit (.string n.p)]]=(x.args++[n]).map zgL:=by rw[wae]; rfl
 simp only[ZE,seval,KE,hmap,waa,GZ,paO,paL,paI,pxI,itA,nmO,bnO,zAc];refine⟨⟨by omega,by omega⟩,hlen,?_⟩;simp only[ZE,seval,zAt.eq_def,zAF.eq_def,KE,GZ,paO,paL,paI,pxI,itA,nmO,bnO,zAc];refine⟨[9,1999],[],?_⟩;simp only[ZE,seval,zAp.eq_1,zAp.eq_2,zAq.eq_1,zAq.eq_2,GZ,zAt.eq_def,zAj.eq_def,ghK.eq_def,zAF.eq_def,zAi.eq_def,zHK,zht,AV.core,GZ,paO,paL,paI,pxI,itA,nmO,bnO,zAc];exact⟨n,b,h1,hb,by simp only[wab,wad,waf,Nat.zero_add]⟩
theorem inst2_p(Z:GP)(hZ:Z.Ok)(T:List Tok)(hT:TOk T)(a:Nat)(ha:a<T.length)(x:Item)(hx:x.ports.length<=10000000):
  PConX Z T 225 [.bp 95 0,.bp 96 0] a x (zDP T a) (fun n=>{x with ports:=x.ports++[n]}):=by
 refine zBL.srt (zBL.of_eH 1999 [.bp 1 0,.bp 95 0,.bp 96 0,.bp 101 0,.ar 103 x.args.length,.ar 104 x.ports.length] (own:=[]) (fun i=>if i=2003 then [.flt ⟨[(0,none),(1,none),(2,none),(3,none),(4,none),(5,none),(6,some [0,1,2,3,4]),(7,some [0]),(8,none),(9,none),(10,some [])]⟩ ⟨[],[]⟩]else []) [0,1] zat func225 rfl call225 ntmps225 (zle rfl) results225 (zIC Z T a x _ (by simp[AV.noRefs,AV.noRef])) (fun gs=> ?_));obtain⟨R,hR⟩: ∃R,R=zDP T a:=⟨_,rfl⟩;rw[<-hR];unfold zDP at hR;have c1:=zDj Z hZ T hT a ha;simp only[ZE,seval,KE]at c1;simp only[ZE,seval,KE,GZ,paO,paL,paI,pxI,itA,nmO,bnO,zAc];refine EFn.gX [(1,1),(7777777,7777777)] (c1) ?_ (fun v hv=>by obtain⟨i,hi,hv⟩:=hv; exact⟨i,by rw[hR,hi]; rfl,hv⟩) ?_
 ·simp only[ZE,seval,GZ,paO,paL,paI,pxI,itA,nmO,bnO,zAc]
 rintro V ol new ⟨s,b,h1,hb,rfl,rfl,rfl⟩;rw[h1,PR.bd_ok]at hR;have c2:=zBu Z T hT b (⟨#[61]⟩:ByteArray) hb;simp only[ZE,seval,KE]at c2;simp only[ZE,seval,KE,GZ,paO,paL,paI,pxI,itA,nmO,bnO,zAc];refine EFn.gX [(1,1),(7777777,7777777)] (c2) ?_ (fun v hv=>by obtain⟨i,hi,hv⟩:=hv; exact⟨i,by rw[hR,hi]; rfl,hv⟩) ?_
 ·simp only[ZE,seval,GZ,paO,paL,paI,pxI,itA,nmO,bnO,zAc]
 rintro V ol new ⟨_u,c,h2,hc,rfl,rfl,rfl⟩;rw[h2,PR.bd_ok]at hR;have c3:=zDj Z hZ T hT c hc;simp only[ZE,seval,KE]at c3;simp only[ZE,seval,KE,GZ,paO,paL,paI,pxI,itA,nmO,bnO,zAc];refine EFn.gX [(1,1),(7777777,7777777)] (c3) ?_ (fun v hv=>by obtain⟨i,hi,hv⟩:=hv; exact⟨i,by rw[hR,hi]; rfl,hv⟩) ?_
 ·simp only[ZE,seval,GZ,paO,paL,paI,pxI,itA,nmO,bnO,zAc]
 rintro V ol new ⟨t,d,h3,hd,rfl,rfl,rfl⟩;rw[h3,PR.bd_ok]at hR;have hlen:x.ports.length+1=(x.ports++[(⟨s,t⟩:Bind)]).length :=by simp
 have hmap:x.ports.map zjO++[[D.lit (.string s),D.lit (.string t)]]=(x.ports++[(⟨s,t⟩:Bind)]).map zjO:=by rw[wae]; rfl
 simp only[ZE,seval,KE,hmap,waa,GZ,paO,paL,paI,pxI,itA,nmO,bnO,zAc];refine⟨by kernel_rfl,⟨by omega,by omega⟩,hlen,?_⟩;simp only[ZE,seval,zAt.eq_def,zAF.eq_def,KE,GZ,paO,paL,paI,pxI,itA,nmO,bnO,zAc];refine⟨[2,6,17,1999],[],?_⟩;simp only[ZE,seval,zAp.eq_1,zAp.eq_2,zAq.eq_1,zAq.eq_2,GZ,zAt.eq_def,zAj.eq_def,ghK.eq_def,zAF.eq_def,zAi.eq_def,zHK,zht,AV.core,GZ,paO,paL,paI,pxI,itA,nmO,bnO,zAc];exact⟨⟨s,t⟩,d,hR,hd,by simp only[wab,wad,waf,Nat.zero_add]⟩
theorem zAs{α β:Type}{r:PR α}{f:α->Nat->PR β}{y:β}{c:Nat}(h:r.bd f= .ok (y,c)): ∃x b,r= .ok (x,b)/\f x b= .ok (y,c):=by
 cases r with
 | error i=>cases h
 | ok p=>exact⟨p.1,p.2,rfl,h⟩
theorem signP_gt{T:List Tok}{s:Bts}{a b:Nat}{u:Unit}(h:zBx T s a= .ok (u,b)):a<b:=by
 unfold zBx at h;split at h
 ·simp only[Except.ok.injEq,Prod.mk.injEq]at h; omega
 ·cases h
theorem zGI{T:List Tok}{s:Bts}{a b:Nat}(h:zBE T a= .ok (s,b)):a<b:=by
 unfold zBE at h;split at h
 ·simp only[Except.ok.injEq,Prod.mk.injEq]at h; omega
 ·cases h
theorem zFT{T:List Tok}{m n:Int}{a b:Nat}(h:zAZ T m a= .ok (n,b)):a<b:=by
 unfold zAZ at h;split at h
 ·split at h
  ·simp only[Except.ok.injEq,Prod.mk.injEq]at h; omega
  ·cases h
 ·cases h
theorem numP_gt{T:List Tok}{n:Num}{a b:Nat}(h:zDM T a= .ok (n,b)):a<b:=by
 unfold zDM at h;split at h
 ·obtain⟨x,c,h1,h2⟩:=zAs h;have:=zFT h1;simp only[Except.ok.injEq,Prod.mk.injEq]at h2; omega
 ·obtain⟨x,c,h1,h2⟩:=zAs h;have:=zGI h1;split at h2
  ·obtain⟨y,d,h3,h4⟩:=zAs h2;have:=zFT h3;simp only[Except.ok.injEq,Prod.mk.injEq]at h4; omega
  ·split at h2
   ·obtain⟨y,d,h3,h4⟩:=zAs h2;have:=zFT h3;simp only[Except.ok.injEq,Prod.mk.injEq]at h4; omega
   ·simp only[Except.ok.injEq,Prod.mk.injEq]at h2; omega
theorem bindP_gt{T:List Tok}{n:Bind}{a b:Nat}(h:zDP T a= .ok (n,b)):a<b:=by
 unfold zDP at h;obtain⟨x,c,h1,h2⟩:=zAs h;obtain⟨_,d,h3,h4⟩:=zAs h2;obtain⟨y,e,h5,h6⟩:=zAs h4;have:=zGI h1;have:=signP_gt h3;have:=zGI h5;simp only[Except.ok.injEq,Prod.mk.injEq]at h6;omega
theorem list1_p(Z:GP)(hZ:Z.Ok)(T:List Tok)(hT:TOk T)(a:Nat)(ha:a<T.length)(x:Item)(hx:x.args.length<=1000):
  PConX Z T 160 [.bp 1 0,.clo (.func 224) [] [.bp 96 0,.bp 95 0]] a x (zDg (zDM T) T a) (fun l=>{x with args:=x.args++l}):=by
 refine zBL.srt (zBL.of_eH 1999 [.bp 1 0,.bp 95 0,.bp 96 0,.bp 101 0,.ar 103 x.args.length,.ar 104 x.ports.length] (own:=[]) (fun _=>[]) [0] zat func160 rfl call160 ntmps160 (zle rfl) results160 (zIC Z T a x _ (by simp[AV.noRefs,AV.noRef])) (fun gs=> ?_));have hlen:=hT.len;obtain⟨R,hR⟩: ∃R,R=zDg (zDM T) T a:=⟨_,rfl⟩;rw[<-hR];unfold zDg at hR;obtain⟨one,hone⟩:=zX (zDM T);have hO:=fun b hb y hy=>inst1_p Z hZ T hT b hb y hy;rw[hone]at hR;have c1:=zBu Z T hT a (⟨#[40]⟩:ByteArray) ha;simp only[ZE,seval,KE]at c1;simp only[ZE,seval,KE,GZ,paO,paL,paI,pxI,itA,nmO,bnO,zAc];refine EFn.gX [(1,1),(7777777,7777777)] (c1) ?_ (fun v hv=>by obtain⟨i,hi,hv⟩:=hv; exact⟨i,by rw[hR,hi]; rfl,hv⟩) ?_
 ·simp only[ZE,seval,GZ,paO,paL,paI,pxI,itA,nmO,bnO,zAc]
 rintro V ol new ⟨_u,b,h1,hb,rfl,rfl,rfl⟩;rw[h1,PR.bd_ok]at hR;have p1:=zBq Z T hT b (⟨#[41]⟩:ByteArray) hb;have l1:=zBj hT hb (s:=(⟨#[41]⟩:ByteArray)) (k:=3) (by decide);obtain⟨g,hg⟩:=zX (isT T b 3 (⟨#[41]⟩:ByteArray));rw[hg]at p1 l1 hR;cases g with
 | true=>
  rw[if_pos rfl]at hR p1;simp only[ZE,seval,KE]at p1;simp only[ZE,seval,KE,GZ,paO,paL,paI,pxI,itA,nmO,bnO,zAc];refine EFn.gV [(1,1),(7777777,7777777)] p1 ?_ ?_
  ·simp only[ZE,seval,GZ,paO,paL,paI,pxI,itA,nmO,bnO,zAc]
  rintro V ol new ⟨rfl,rfl,rfl⟩;simp only[ZE,seval,zAt.eq_def,zAF.eq_def,KE,GZ,paO,paL,paI,pxI,itA,nmO,bnO,zAc];refine⟨[1999],[],?_⟩;simp only[ZE,seval,zAp.eq_1,zAp.eq_2,zAq.eq_1,zAq.eq_2,GZ,zAt.eq_def,zAj.eq_def,ghK.eq_def,zAF.eq_def,zAi.eq_def,zHK,zht,AV.core,GZ,paO,paL,paI,pxI,itA,nmO,bnO,zAc];exact⟨[],b+1,hR,l1 rfl,by simp only[wah]⟩
 | false=>
  rw[if_neg (by decide)]at hR p1;simp only[ZE,seval,KE]at p1;simp only[ZE,seval,KE,GZ,paO,paL,paI,pxI,itA,nmO,bnO,zAc];refine EFn.gV [(1,1),(7777777,7777777)] p1 ?_ ?_
  ·simp only[ZE,seval,GZ,paO,paL,paI,pxI,itA,nmO,bnO,zAc]
  rintro V ol new ⟨rfl,rfl,rfl⟩;have c2:=hO b hb x (by omega);rw[hone]at c2;simp only[ZE,seval,KE,GZ,paO,paL,paI,pxI,itA,nmO,bnO,zAc];refine EFn.gX [(1,1),(95,95),(96,96),(101,101),(103,103),(104,104),(7777777,7777777)] c2 ?_ (fun v hv=>by obtain⟨i,hi,hv⟩:=hv; exact⟨i,by rw[hR,hi]; rfl,hv⟩) ?_
  ·simp only[ZE,seval,KE,GZ,paO,paL,paI,pxI,itA,nmO,bnO,zAc]
  rintro V ol new ⟨y,c,h2,hc,rfl,rfl,rfl⟩;rw[h2,PR.bd_ok]at hR;simp only[ZE,seval,KE,GZ,paO,paL,paI,pxI,itA,nmO,bnO,zAc];refine zgR (X:=List Num×Nat) (fun _ _=>[]) zat T.length (fun i z=>i<=z.2/\z.2<T.length/\z.1.length=i+1/\R=zDB one T (T.length-i) z.1 z.2)
   (fun _ z=>([(0,.bp 1 0),(1,.clo (.func 224) [] [.bp 96 0,.bp 95 0])],(1999,.gh [.bp 1 0,.bp 95 0,.bp 96 0,.bp 101 0,.ar 103 x.args.length,.ar 104 x.ports.length] gs)::pxI Z T z.2 {x with args:=x.args++z.1})) ([y],c) ⟨Nat.zero_le _,hc,rfl,hR⟩ ?_ ?_ (fun i z hi hI=> ?_)
  ·simp only[ZE,seval]
  ·simp only[ZE,seval,KE,GZ,paO,paL,paI,pxI,itA,nmO,bnO,zAc]
  obtain⟨l,b⟩:=z;obtain⟨I1,I2,I3,I4⟩:=hI;simp only at I1 I2 I3 I4;rw[show T.length-i=T.length-(i+1)+1 by omega]at I4;unfold zDB at I4;have p2:=zBq Z T hT b (⟨#[44]⟩:ByteArray) I2;have l2:=zBj hT I2 (s:=(⟨#[44]⟩:ByteArray)) (k:=3) (by decide);obtain⟨g,hg⟩:=zX (isT T b 3 (⟨#[44]⟩:ByteArray));rw[hg]at p2 l2 I4;cases g with
  | true=>
   rw[if_pos rfl]at I4 p2;have c3:=hO (b+1) (l2 rfl) {x with args:=x.args++l} (by simp only[wab]; omega);rw[hone]at c3;simp only[ZE,seval,KE]at p2;simp only[ZE,seval,KE,GZ,paO,paL,paI,pxI,itA,nmO,bnO,zAc];refine EFn.gV [(1,1),(7777777,7777777)] p2 ?_ ?_
   ·simp only[ZE,seval,GZ,paO,paL,paI,pxI,itA,nmO,bnO,zAc]
   rintro V ol new ⟨rfl,rfl,rfl⟩;simp only[ZE,seval,KE,GZ,paO,paL,paI,pxI,itA,nmO,bnO,zAc];refine EFn.gX [(1,1),(95,95),(96,96),(101,101),(103,103),(104,104),(7777777,7777777)] c3 ?_ (fun v hv=>by obtain⟨i,hi,hv⟩:=hv; exact⟨i,by rw[I4,hi]; rfl,hv⟩) ?_
   ·simp only[ZE,seval,KE,GZ,paO,paL,paI,pxI,itA,nmO,bnO,zAc]
   rintro V ol new ⟨y2,c',h3,hc',rfl,rfl,rfl⟩;rw[h3,PR.bd_ok]at I4;simp only[ZE,seval,KE,GZ,paO,paL,paI,pxI,itA,nmO,bnO,zAc];have hgt:=numP_gt (by rw[<-hone]at h3; exact h3);refine⟨by omega,(l++[y2],c'),⟨by omega,hc',by simp only[wab,wad,waf]; omega,I4⟩,?_,?_⟩
   ·simp only[ZE,seval]
   ·simp only[ZE,seval,KE,wag,GZ,paO,paL,paI,pxI,itA,nmO,bnO,zAc]
  | false=>
   rw[if_neg (by decide)]at I4 p2;have c3:=zBu Z T hT b (⟨#[41]⟩:ByteArray) I2;simp only[ZE,seval,KE]at p2;simp only[ZE,seval,KE]at c3;simp only[ZE,seval,KE,GZ,paO,paL,paI,pxI,itA,nmO,bnO,zAc];refine EFn.gV [(1,1),(7777777,7777777)] p2 ?_ ?_
   ·simp only[ZE,seval,GZ,paO,paL,paI,pxI,itA,nmO,bnO,zAc]
   rintro V ol new ⟨rfl,rfl,rfl⟩;simp only[ZE,seval,KE,GZ,paO,paL,paI,pxI,itA,nmO,bnO,zAc];refine EFn.gX [(1,1),(7777777,7777777)] c3 ?_ (fun v hv=>by obtain⟨i,hi,hv⟩:=hv; exact⟨i,by rw[I4,hi]; rfl,hv⟩) ?_
   ·simp only[ZE,seval,GZ,paO,paL,paI,pxI,itA,nmO,bnO,zAc]
   rintro V ol new ⟨_u,e,h3,he,rfl,rfl,rfl⟩;rw[h3,PR.bd_ok]at I4;simp only[ZE,seval,zAt.eq_def,zAF.eq_def,KE,GZ,paO,paL,paI,pxI,itA,nmO,bnO,zAc];refine⟨[1999],[],?_⟩;simp only[ZE,seval,zAp.eq_1,zAp.eq_2,zAq.eq_1,zAq.eq_2,GZ,zAt.eq_def,zAj.eq_def,ghK.eq_def,zAF.eq_def,zAi.eq_def,zHK,zht,AV.core,GZ,paO,paL,paI,pxI,itA,nmO,bnO,zAc];exact⟨l,e,I4,he,rfl⟩
theorem list2_p(Z:GP)(hZ:Z.Ok)(T:List Tok)(hT:TOk T)(a:Nat)(ha:a<T.length)(x:Item)(hx:x.ports.length<=1000):
  PConX Z T 160 [.bp 1 0,.clo (.func 225) [] [.bp 95 0,.bp 96 0]] a x (zDg (zDP T) T a) (fun l=>{x with ports:=x.ports++l}):=by
 refine zBL.srt (zBL.of_eH 1999 [.bp 1 0,.bp 95 0,.bp 96 0,.bp 101 0,.ar 103 x.args.length,.ar 104 x.ports.length] (own:=[]) (fun _=>[]) [0] zat func160 rfl call160 ntmps160 (zle rfl) results160 (zIC Z T a x _ (by simp[AV.noRefs,AV.noRef])) (fun gs=> ?_));have hlen:=hT.len;obtain⟨R,hR⟩: ∃R,R=zDg (zDP T) T a:=⟨_,rfl⟩;rw[<-hR];unfold zDg at hR;obtain⟨one,hone⟩:=zX (zDP T);have hO:=fun b hb y hy=>inst2_p Z hZ T hT b hb y hy;rw[hone]at hR;have c1:=zBu Z T hT a (⟨#[40]⟩:ByteArray) ha;simp only[ZE,seval,KE]at c1;simp only[ZE,seval,KE,GZ,paO,paL,paI,pxI,itA,nmO,bnO,zAc];refine EFn.gX [(1,1),(7777777,7777777)] (c1) ?_ (fun v hv=>by obtain⟨i,hi,hv⟩:=hv; exact⟨i,by rw[hR,hi]; rfl,hv⟩) ?_
 ·simp only[ZE,seval,GZ,paO,paL,paI,pxI,itA,nmO,bnO,zAc]
 rintro V ol new ⟨_u,b,h1,hb,rfl,rfl,rfl⟩;rw[h1,PR.bd_ok]at hR;have p1:=zBq Z T hT b (⟨#[41]⟩:ByteArray) hb;have l1:=zBj hT hb (s:=(⟨#[41]⟩:ByteArray)) (k:=3) (by decide);obtain⟨g,hg⟩:=zX (isT T b 3 (⟨#[41]⟩:ByteArray));rw[hg]at p1 l1 hR;cases g with
 | true=>
  rw[if_pos rfl]at hR p1;simp only[ZE,seval,KE]at p1;simp only[ZE,seval,KE,GZ,paO,paL,paI,pxI,itA,nmO,bnO,zAc];refine EFn.gV [(1,1),(7777777,7777777)] p1 ?_ ?_
  ·simp only[ZE,seval,GZ,paO,paL,paI,pxI,itA,nmO,bnO,zAc]
  rintro V ol new ⟨rfl,rfl,rfl⟩;simp only[ZE,seval,zAt.eq_def,zAF.eq_def,KE,GZ,paO,paL,paI,pxI,itA,nmO,bnO,zAc];refine⟨[1999],[],?_⟩;simp only[ZE,seval,zAp.eq_1,zAp.eq_2,zAq.eq_1,zAq.eq_2,GZ,zAt.eq_def,zAj.eq_def,ghK.eq_def,zAF.eq_def,zAi.eq_def,zHK,zht,AV.core,GZ,paO,paL,paI,pxI,itA,nmO,bnO,zAc];exact⟨[],b+1,hR,l1 rfl,by simp only[wah]⟩
 | false=>
  rw[if_neg (by decide)]at hR p1;simp only[ZE,seval,KE]at p1;simp only[ZE,seval,KE,GZ,paO,paL,paI,pxI,itA,nmO,bnO,zAc];refine EFn.gV [(1,1),(7777777,7777777)] p1 ?_ ?_
  ·simp only[ZE,seval,GZ,paO,paL,paI,pxI,itA,nmO,bnO,zAc]
  rintro V ol new ⟨rfl,rfl,rfl⟩;have c2:=hO b hb x (by omega);rw[hone]at c2;simp only[ZE,seval,KE,GZ,paO,paL,paI,pxI,itA,nmO,bnO,zAc];refine EFn.gX [(1,1),(95,95),(96,96),(101,101),(103,103),(104,104),(7777777,7777777)] c2 ?_ (fun v hv=>by obtain⟨i,hi,hv⟩:=hv; exact⟨i,by rw[hR,hi]; rfl,hv⟩) ?_
  ·simp only[ZE,seval,KE,GZ,paO,paL,paI,pxI,itA,nmO,bnO,zAc]
  rintro V ol new ⟨y,c,h2,hc,rfl,rfl,rfl⟩;rw[h2,PR.bd_ok]at hR;simp only[ZE,seval,KE,GZ,paO,paL,paI,pxI,itA,nmO,bnO,zAc];refine zgR (X:=List Bind×Nat) (fun _ _=>[]) zat T.length (fun i z=>i<=z.2/\z.2<T.length/\z.1.length=i+1/\R=zDB one T (T.length-i) z.1 z.2)
   (fun _ z=>([(0,.bp 1 0),(1,.clo (.func 225) [] [.bp 95 0,.bp 96 0])],(1999,.gh [.bp 1 0,.bp 95 0,.bp 96 0,.bp 101 0,.ar 103 x.args.length,.ar 104 x.ports.length] gs)::pxI Z T z.2 {x with ports:=x.ports++z.1})) ([y],c) ⟨Nat.zero_le _,hc,rfl,hR⟩ ?_ ?_ (fun i z hi hI=> ?_)
  ·simp only[ZE,seval]
  ·simp only[ZE,seval,KE,GZ,paO,paL,paI,pxI,itA,nmO,bnO,zAc]
  obtain⟨l,b⟩:=z;obtain⟨I1,I2,I3,I4⟩:=hI;simp only at I1 I2 I3 I4;rw[show T.length-i=T.length-(i+1)+1 by omega]at I4;unfold zDB at I4;have p2:=zBq Z T hT b (⟨#[44]⟩:ByteArray) I2;have l2:=zBj hT I2 (s:=(⟨#[44]⟩:ByteArray)) (k:=3) (by decide);obtain⟨g,hg⟩:=zX (isT T b 3 (⟨#[44]⟩:ByteArray));rw[hg]at p2 l2 I4;cases g with
  | true=>
   rw[if_pos rfl]at I4 p2;have c3:=hO (b+1) (l2 rfl) {x with ports:=x.ports++l} (by simp only[wab]; omega);rw[hone]at c3;simp only[ZE,seval,KE]at p2;simp only[ZE,seval,KE,GZ,paO,paL,paI,pxI,itA,nmO,bnO,zAc];refine EFn.gV [(1,1),(7777777,7777777)] p2 ?_ ?_
   ·simp only[ZE,seval,GZ,paO,paL,paI,pxI,itA,nmO,bnO,zAc]
   rintro V ol new ⟨rfl,rfl,rfl⟩;simp only[ZE,seval,KE,GZ,paO,paL,paI,pxI,itA,nmO,bnO,zAc];refine EFn.gX [(1,1),(95,95),(96,96),(101,101),(103,103),(104,104),(7777777,7777777)] c3 ?_ (fun v hv=>by obtain⟨i,hi,hv⟩:=hv; exact⟨i,by rw[I4,hi]; rfl,hv⟩) ?_
   ·simp only[ZE,seval,KE,GZ,paO,paL,paI,pxI,itA,nmO,bnO,zAc]
   rintro V ol new ⟨y2,c',h3,hc',rfl,rfl,rfl⟩;rw[h3,PR.bd_ok]at I4;simp only[ZE,seval,KE,GZ,paO,paL,paI,pxI,itA,nmO,bnO,zAc];have hgt:=bindP_gt (by rw[<-hone]at h3; exact h3);refine⟨by omega,(l++[y2],c'),⟨by omega,hc',by simp only[wab,wad,waf]; omega,I4⟩,?_,?_⟩
   ·simp only[ZE,seval]
   ·simp only[ZE,seval,KE,wag,GZ,paO,paL,paI,pxI,itA,nmO,bnO,zAc]
  | false=>
   rw[if_neg (by decide)]at I4 p2;have c3:=zBu Z T hT b (⟨#[41]⟩:ByteArray) I2;simp only[ZE,seval,KE]at p2;simp only[ZE,seval,KE]at c3;simp only[ZE,seval,KE,GZ,paO,paL,paI,pxI,itA,nmO,bnO,zAc];refine EFn.gV [(1,1),(7777777,7777777)] p2 ?_ ?_
   ·simp only[ZE,seval,GZ,paO,paL,paI,pxI,itA,nmO,bnO,zAc]
   rintro V ol new ⟨rfl,rfl,rfl⟩;simp only[ZE,seval,KE,GZ,paO,paL,paI,pxI,itA,nmO,bnO,zAc];refine EFn.gX [(1,1),(7777777,7777777)] c3 ?_ (fun v hv=>by obtain⟨i,hi,hv⟩:=hv; exact⟨i,by rw[I4,hi]; rfl,hv⟩) ?_
   ·simp only[ZE,seval,GZ,paO,paL,paI,pxI,itA,nmO,bnO,zAc]
   rintro V ol new ⟨_u,e,h3,he,rfl,rfl,rfl⟩;rw[h3,PR.bd_ok]at I4;simp only[ZE,seval,zAt.eq_def,zAF.eq_def,KE,GZ,paO,paL,paI,pxI,itA,nmO,bnO,zAc];refine⟨[1999],[],?_⟩;simp only[ZE,seval,zAp.eq_1,zAp.eq_2,zAq.eq_1,zAq.eq_2,GZ,zAt.eq_def,zAj.eq_def,ghK.eq_def,zAF.eq_def,zAi.eq_def,zHK,zht,AV.core,GZ,paO,paL,paI,pxI,itA,nmO,bnO,zAc];exact⟨l,e,I4,he,rfl⟩
theorem instance_p(Z:GP)(hZ:Z.Ok)(T:List Tok)(hT:TOk T)(a:Nat)(ha:a<T.length)(x:Item)(hx:x.args=[])(hy:x.ports=[]):zHw Z T 210 a x (instP x T a):=by
 refine zBL.srt (zBL.of_eH 1999 [.ar 103 x.args.length,.ar 104 x.ports.length] (own:=[]) (fun i=>if i=2001 then [.flt ⟨[(0,none),(1,none),(2,some [0]),(3,none),(4,none),(5,some [])]⟩ ⟨[],[]⟩]else if i=2003 then [.flt ⟨[(0,none),(1,none),(2,some [0]),(3,none),(4,none),(5,some [])]⟩ ⟨[],[]⟩]else []) [0,1] zat func210 rfl call210 ntmps210 (zle rfl) results210 (zD1 Z T a x _ (by simp[AV.noRefs,AV.noRef])) (fun gs=> ?_));obtain⟨R,hR⟩: ∃R,R=instP x T a:=⟨_,rfl⟩;rw[<-hR];unfold instP at hR;have c1:=zDj Z hZ T hT a ha;simp only[ZE,seval,KE]at c1;simp only[ZE,seval,KE,GZ,paO,paL,paI,pxI,itA,nmO,bnO,zAc];refine⟨by kernel_rfl,?_⟩;refine EFn.gX [(1,1),(7777777,7777777)] (c1) ?_ (fun v hv=>by obtain⟨i,hi,hv⟩:=hv; exact⟨i,by rw[hR,hi]; rfl,hv⟩) ?_
 ·simp only[ZE,seval,GZ,paO,paL,paI,pxI,itA,nmO,bnO,zAc]
 rintro V ol new ⟨s,b,h1,hb,rfl,rfl,rfl⟩;rw[h1,PR.bd_ok]at hR;have c2:=zBu Z T hT b (⟨#[58]⟩:ByteArray) hb;simp only[ZE,seval,KE]at c2;simp only[ZE,seval,KE,GZ,paO,paL,paI,pxI,itA,nmO,bnO,zAc];refine EFn.gX [(1,1),(7777777,7777777)] (c2) ?_ (fun v hv=>by obtain⟨i,hi,hv⟩:=hv; exact⟨i,by rw[hR,hi]; rfl,hv⟩) ?_
 ·simp only[ZE,seval,GZ,paO,paL,paI,pxI,itA,nmO,bnO,zAc]
 rintro V ol new ⟨_u,c,h2,hc,rfl,rfl,rfl⟩;rw[h2,PR.bd_ok]at hR;have c3:=zDj Z hZ T hT c hc;simp only[ZE,seval,KE]at c3;simp only[ZE,seval,KE,GZ,paO,paL,paI,pxI,itA,nmO,bnO,zAc];refine⟨by kernel_rfl,?_⟩;refine EFn.gX [(1,1),(7777777,7777777)] (c3) ?_ (fun v hv=>by obtain⟨i,hi,hv⟩:=hv; exact⟨i,by rw[hR,hi]; rfl,hv⟩) ?_
 ·simp only[ZE,seval,GZ,paO,paL,paI,pxI,itA,nmO,bnO,zAc]
 rintro V ol new ⟨o,d,h3,hd,rfl,rfl,rfl⟩;rw[h3,PR.bd_ok]at hR;have c4:=list1_p Z hZ T hT d hd {x with name:=s,of:=o} (by show x.args.length<=1000; rw[hx]; exact Nat.zero_le _);simp only[ZE,seval,KE,GZ,paO,paL,paI,pxI,itA,nmO,bnO,zAc];refine EFn.gX [(1,1),(95,2),(96,3),(101,101),(103,103),(104,104),(7777777,7777777)] c4 ?_ (fun v hv=>by obtain⟨i,hi,hv⟩:=hv; exact⟨i,by rw[hR,hi]; rfl,hv⟩) ?_
 ·simp only[ZE,seval,KE,GZ,paO,paL,paI,pxI,itA,nmO,bnO,zAc]
 rintro V ol new ⟨l,e,h4,he,rfl,rfl,rfl⟩;rw[h4,PR.bd_ok]at hR;have c5:=list2_p Z hZ T hT e he {x with name:=s,of:=o,args:=x.args++l} (by show x.ports.length<=1000; rw[hy]; exact Nat.zero_le _);simp only[ZE,seval,KE,GZ,paO,paL,paI,pxI,itA,nmO,bnO,zAc];refine EFn.gX [(1,1),(95,2),(96,3),(101,101),(103,103),(104,104),(7777777,7777777)] c5 ?_ (fun v hv=>by obtain⟨i,hi,hv⟩:=hv; exact⟨i,by rw[hR,hi]; rfl,hv⟩) ?_
 ·simp only[ZE,seval,KE,GZ,paO,paL,paI,pxI,itA,nmO,bnO,zAc]
 rintro V ol new ⟨m,f,h5,hf,rfl,rfl,rfl⟩;rw[h5,PR.bd_ok]at hR;simp only[ZE,seval,zAt.eq_def,zAF.eq_def,KE,GZ,paO,paL,paI,pxI,itA,nmO,bnO,zAc];refine⟨[2,3,1999],[],?_⟩;simp only[ZE,seval,zAp.eq_1,zAp.eq_2,zAq.eq_1,zAq.eq_2,GZ,zAt.eq_def,zAj.eq_def,ghK.eq_def,zAF.eq_def,zAi.eq_def,zHK,zht,AV.core,GZ,paO,paL,paI,pxI,itA,nmO,bnO,zAc];exact⟨_,f,hR,hf,by rw[hx,hy]; rfl⟩
def rdF(k:Nat):Nat:=
 if k<=2 then 203 else if k=3 then 204 else if k=4 then 205 else if k=5 then 206 else if k=6 then 207
 else if k=7 then 208 else if k=8 then 209 else 210
def eForm(k:Nat):D:=.agg [.lit (.int .i64 k),.clo (.func (rdF k)) [] []]
def formK:List D:=[D.lit (.string (⟨#[105,110]⟩:ByteArray)),D.lit (.string (⟨#[111,117,116]⟩:ByteArray)),D.lit (.string (⟨#[99,104,97,110]⟩:ByteArray)),D.lit (.string (⟨#[114,101,103]⟩:ByteArray)),D.lit (.string (⟨#[119,105,114,101]⟩:ByteArray)),D.lit (.string (⟨#[109,101,109]⟩:ByteArray)),D.lit (.string (⟨#[116,97,107,101]⟩:ByteArray)),D.lit (.string (⟨#[112,117,116]⟩:ByteArray)),D.lit (.string (⟨#[105,110,115,116]⟩:ByteArray))]
def formV:List D:=[.agg [.lit (.int .i64 1),.clo (.func 203) [] []],.agg [.lit (.int .i64 2),.clo (.func 203) [] []],.agg [.lit (.int .i64 3),.clo (.func 204) [] []],.agg [.lit (.int .i64 4),.clo (.func 205) [] []],.agg [.lit (.int .i64 5),.clo (.func 206) [] []],.agg [.lit (.int .i64 6),.clo (.func 207) [] []],.agg [.lit (.int .i64 7),.clo (.func 208) [] []],.agg [.lit (.int .i64 8),.clo (.func 209) [] []],.agg [.lit (.int .i64 9),.clo (.func 210) [] []]]
theorem form_get(s:Bts):zjZ formK formV (D.lit (.string s))=(zIg.lookup s).map eForm:=zCS eForm zIg s
theorem forms_c: ∃bs c,FnP prog 163 [] (.d (.mp formK formV bs c)) []:=by
 refine⟨?bs,?c,FnP.of_eC (own:=[]) (fun _=>[]) zat func163 rfl call163 ntmps163 (zle rfl) results163 (fun hok=> ?g)⟩
 case g=>
  have i0:zgQ [] (D.lit (.string (⟨#[105,110]⟩:ByteArray)))=[D.lit (.string (⟨#[105,110]⟩:ByteArray))]:=zdt (by simp);have j0: ∀vs v,zjk [] vs (D.lit (.string (⟨#[105,110]⟩:ByteArray))) v=vs++[v]:=fun vs v=>zdu (by simp);have k0:zd3 prog 9 (D.lit (.string (⟨#[105,110]⟩:ByteArray))):=zB5 (by decide);have i1:zgQ [D.lit (.string (⟨#[105,110]⟩:ByteArray))] (D.lit (.string (⟨#[111,117,116]⟩:ByteArray)))=[D.lit (.string (⟨#[105,110]⟩:ByteArray)),D.lit (.string (⟨#[111,117,116]⟩:ByteArray))]:=zdt (by simp);have j1: ∀vs v,zjk [D.lit (.string (⟨#[105,110]⟩:ByteArray))] vs (D.lit (.string (⟨#[111,117,116]⟩:ByteArray))) v=vs++[v]:=fun vs v=>zdu (by simp);have k1:zd3 prog 9 (D.lit (.string (⟨#[111,117,116]⟩:ByteArray))):=zB5 (by decide);have i2:zgQ [D.lit (.string (⟨#[105,110]⟩:ByteArray)),D.lit (.string (⟨#[111,117,116]⟩:ByteArray))] (D.lit (.string (⟨#[99,104,97,110]⟩:ByteArray)))=[D.lit (.string (⟨#[105,110]⟩:ByteArray)),D.lit (.string (⟨#[111,117,116]⟩:ByteArray)),D.lit (.string (⟨#[99,104,97,110]⟩:ByteArray))]:=zdt (by simp);have j2: ∀vs v,zjk [D.lit (.string (⟨#[105,110]⟩:ByteArray)),D.lit (.string (⟨#[111,117,116]⟩:ByteArray))] vs (D.lit (.string (⟨#[99,104,97,110]⟩:ByteArray))) v=vs++[v]:=fun vs v=>zdu (by simp);have k2:zd3 prog 9 (D.lit (.string (⟨#[99,104,97,110]⟩:ByteArray))):=zB5 (by decide);have i3:zgQ [D.lit (.string (⟨#[105,110]⟩:ByteArray)),D.lit (.string (⟨#[111,117,116]⟩:ByteArray)),D.lit (.string (⟨#[99,104,97,110]⟩:ByteArray))] (D.lit (.string (⟨#[114,101,103]⟩:ByteArray)))=[D.lit (.string (⟨#[105,110]⟩:ByteArray)),D.lit (.string (⟨#[111,117,116]⟩:ByteArray)),D.lit (.string (⟨#[99,104,97,110]⟩:ByteArray)),D.lit (.string (⟨#[114,101,103]⟩:ByteArray))]:=zdt (by simp);have j3: ∀vs v,zjk [D.lit (.string (⟨#[105,110]⟩:ByteArray)),D.lit (.string (⟨#[111,117,116]⟩:ByteArray)),D.lit (.string (⟨#[99,104,97,110]⟩:ByteArray))] vs (D.lit (.string (⟨#[114,101,103]⟩:ByteArray))) v=vs++[v]:=fun vs v=>zdu (by simp);have k3:zd3 prog 9 (D.lit (.string (⟨#[114,101,103]⟩:ByteArray))):=zB5 (by decide);have i4:zgQ [D.lit (.string (⟨#[105,110]⟩:ByteArray)),D.lit (.string (⟨#[111,117,116]⟩:ByteArray)),D.lit (.string (⟨#[99,104,97,110]⟩:ByteArray)),D.lit (.string (⟨#[114,101,103]⟩:ByteArray))] (D.lit (.string (⟨#[119,105,114,101]⟩:ByteArray)))=[D.lit (.string (⟨#[105,110]⟩:ByteArray)),D.lit (.string (⟨#[111,117,116]⟩:ByteArray)),D.lit (.string (⟨#[99,104,97,110]⟩:ByteArray)),D.lit (.string (⟨#[114,101,103]⟩:ByteArray)),D.lit (.string (⟨#[119,105,114,101]⟩:ByteArray))]:=zdt (by simp);have j4: ∀vs v,zjk [D.lit (.string (⟨#[105,110]⟩:ByteArray)),D.lit (.string (⟨#[111,117,116]⟩:ByteArray)),D.lit (.string (⟨#[99,104,97,110]⟩:ByteArray)),D.lit (.string (⟨#[114,101,103]⟩:ByteArray))] vs (D.lit (.string (⟨#[119,105,114,101]⟩:ByteArray))) v=vs++[v]:=fun vs v=>zdu (by simp);have k4:zd3 prog 9 (D.lit (.string (⟨#[119,105,114,101]⟩:ByteArray))):=zB5 (by decide);have i5:zgQ [D.lit (.string (⟨#[105,110]⟩:ByteArray)),D.lit (.string (⟨#[111,117,116]⟩:ByteArray)),D.lit (.string (⟨#[99,104,97,110]⟩:ByteArray)),D.lit (.string (⟨#[114,101,103]⟩:ByteArray)),D.lit (.string (⟨#[119,105,114,101]⟩:ByteArray))] (D.lit (.string (⟨#[109,101,109]⟩:ByteArray)))=[D.lit (.string (⟨#[105,110]⟩:ByteArray)),D.lit (.string (⟨#[111,117,116]⟩:ByteArray)),D.lit (.string (⟨#[99,104,97,110]⟩:ByteArray)),D.lit (.string (⟨#[114,101,103]⟩:ByteArray)),D.lit (.string (⟨#[119,105,114,101]⟩:ByteArray)),D.lit (.string (⟨#[109,101,109]⟩:ByteArray))]:=zdt (by simp);have j5: ∀vs v,zjk [D.lit (.string (⟨#[105,110]⟩:ByteArray)),D.lit (.string (⟨#[111,117,116]⟩:ByteArray)),D.lit (.string (⟨#[99,104,97,110]⟩:ByteArray)),D.lit (.string (⟨#[114,101,103]⟩:ByteArray)),D.lit (.string (⟨#[119,105,114,101]⟩:ByteArray))] vs (D.lit (.string (⟨#[109,101,109]⟩:ByteArray))) v=vs++[v]:=fun vs v=>zdu (by simp);have k5:zd3 prog 9 (D.lit (.string (⟨#[109,101,109]⟩:ByteArray))):=zB5 (by decide);have i6:zgQ [D.lit (.string (⟨#[105,110]⟩:ByteArray)),D.lit (.string (⟨#[111,117,116]⟩:ByteArray)),D.lit (.string (⟨#[99,104,97,110]⟩:ByteArray)),D.lit (.string (⟨#[114,101,103]⟩:ByteArray)),D.lit (.string (⟨#[119,105,114,101]⟩:ByteArray)),D.lit (.string (⟨#[109,101,109]⟩:ByteArray))] (D.lit (.string (⟨#[116,97,107,101]⟩:ByteArray)))=[D.lit (.string (⟨#[105,110]⟩:ByteArray)),D.lit (.string (⟨#[111,117,116]⟩:ByteArray)),D.lit (.string (⟨#[99,104,97,110]⟩:ByteArray)),D.lit (.string (⟨#[114,101,103]⟩:ByteArray)),D.lit (.string (⟨#[119,105,114,101]⟩:ByteArray)),D.lit (.string (⟨#[109,101,109]⟩:ByteArray)),D.lit (.string (⟨#[116,97,107,101]⟩:ByteArray))]:=zdt (by simp);have j6: ∀vs v,zjk [D.lit (.string (⟨#[105,110]⟩:ByteArray)),D.lit (.string (⟨#[111,117,116]⟩:ByteArray)),D.lit (.string (⟨#[99,104,97,110]⟩:ByteArray)),D.lit (.string (⟨#[114,101,103]⟩:ByteArray)),D.lit (.string (⟨#[119,105,114,101]⟩:ByteArray)),D.lit (.string (⟨#[109,101,109]⟩:ByteArray))] vs (D.lit (.string (⟨#[116,97,107,101]⟩:ByteArray))) v=vs++[v]:=fun vs v=>zdu (by simp);have k6:zd3 prog 9 (D.lit (.string (⟨#[116,97,107,101]⟩:ByteArray))):=zB5 (by decide);have i7:zgQ [D.lit (.string (⟨#[105,110]⟩:ByteArray)),D.lit (.string (⟨#[111,117,116]⟩:ByteArray)),D.lit (.string (⟨#[99,104,97,110]⟩:ByteArray)),D.lit (.string (⟨#[114,101,103]⟩:ByteArray)),D.lit (.string (⟨#[119,105,114,101]⟩:ByteArray)),D.lit (.string (⟨#[109,101,109]⟩:ByteArray)),D.lit (.string (⟨#[116,97,107,101]⟩:ByteArray))] (D.lit (.string (⟨#[112,117,116]⟩:ByteArray)))=[D.lit (.string (⟨#[105,110]⟩:ByteArray)),D.lit (.string (⟨#[111,117,116]⟩:ByteArray)),D.lit (.string (⟨#[99,104,97,110]⟩:ByteArray)),D.lit (.string (⟨#[114,101,103]⟩:ByteArray)),D.lit (.string (⟨#[119,105,114,101]⟩:ByteArray)),D.lit (.string (⟨#[109,101,109]⟩:ByteArray)),D.lit (.string (⟨#[116,97,107,101]⟩:ByteArray)),D.lit (.string (⟨#[112,117,116]⟩:ByteArray))]:=zdt (by simp);have j7: ∀vs v,zjk [D.lit (.string (⟨#[105,110]⟩:ByteArray)),D.lit (.string (⟨#[111,117,116]⟩:ByteArray)),D.lit (.string (⟨#[99,104,97,110]⟩:ByteArray)),D.lit (.string (⟨#[114,101,103]⟩:ByteArray)),D.lit (.string (⟨#[119,105,114,101]⟩:ByteArray)),D.lit (.string (⟨#[109,101,109]⟩:ByteArray)),D.lit (.string (⟨#[116,97,107,101]⟩:ByteArray))] vs (D.lit (.string (⟨#[112,117,116]⟩:ByteArray))) v=vs++[v]:=fun vs v=>zdu (by simp);have k7:zd3 prog 9 (D.lit (.string (⟨#[112,117,116]⟩:ByteArray))):=zB5 (by decide);have i8:zgQ [D.lit (.string (⟨#[105,110]⟩:ByteArray)),D.lit (.string (⟨#[111,117,116]⟩:ByteArray)),D.lit (.string (⟨#[99,104,97,110]⟩:ByteArray)),D.lit (.string (⟨#[114,101,103]⟩:ByteArray)),D.lit (.string (⟨#[119,105,114,101]⟩:ByteArray)),D.lit (.string (⟨#[109,101,109]⟩:ByteArray)),D.lit (.string (⟨#[116,97,107,101]⟩:ByteArray)),D.lit (.string (⟨#[112,117,116]⟩:ByteArray))] (D.lit (.string (⟨#[105,110,115,116]⟩:ByteArray)))=[D.lit (.string (⟨#[105,110]⟩:ByteArray)),D.lit (.string (⟨#[111,117,116]⟩:ByteArray)),D.lit (.string (⟨#[99,104,97,110]⟩:ByteArray)),D.lit (.string (⟨#[114,101,103]⟩:ByteArray)),D.lit (.string (⟨#[119,105,114,101]⟩:ByteArray)),D.lit (.string (⟨#[109,101,109]⟩:ByteArray)),D.lit (.string (⟨#[116,97,107,101]⟩:ByteArray)),D.lit (.string (⟨#[112,117,116]⟩:ByteArray)),D.lit (.string (⟨#[105,110,115,116]⟩:ByteArray))]:=zdt (by simp);have j8: ∀vs v,zjk [D.lit (.string (⟨#[105,110]⟩:ByteArray)),D.lit (.string (⟨#[111,117,116]⟩:ByteArray)),D.lit (.string (⟨#[99,104,97,110]⟩:ByteArray)),D.lit (.string (⟨#[114,101,103]⟩:ByteArray)),D.lit (.string (⟨#[119,105,114,101]⟩:ByteArray)),D.lit (.string (⟨#[109,101,109]⟩:ByteArray)),D.lit (.string (⟨#[116,97,107,101]⟩:ByteArray)),D.lit (.string (⟨#[112,117,116]⟩:ByteArray))] vs (D.lit (.string (⟨#[105,110,115,116]⟩:ByteArray))) v=vs++[v]:=fun vs v=>zdu (by simp);have k8:zd3 prog 9 (D.lit (.string (⟨#[105,110,115,116]⟩:ByteArray))):=zB5 (by decide);simp only[ZE,seval,i0,j0,k0,i1,j1,k1,i2,j2,k2,i3,j3,k3,i4,j4,k4,i5,j5,k5,i6,j6,k6,i7,j7,k7,i8,j8,k8,zal,wai,waj,or_imp,forall_and];exact rfl
def pxM(Z:GP)(T:List Tok)(a:Nat)(s:Bts)(l:List Bts):OL:=[(90,paO T a),(95,.box [.bp 90 0]),(96,.box [.d (eSb s),.d (eSb e0),.ar 97 l.length,.nils]),(97,.arr 9 1 .flat (l.map fun s=>[eSb s])),(7777777,Z.o)]
theorem pm_free(Z:GP)(T:List Tok)(a:Nat)(s:Bts)(l:List Bts)(args:List AV)(ha:AV.noRefs [1999] args):
  (zyk 1999 (pxM Z T a s l)/\AV.noRefs [1999] args)/\zCV (om (pxM Z T a s l)) [.bp 90 0,.bp 95 0,.bp 96 0,.ar 97 l.length]/\AV.noRefs [1999] [.bp 90 0,.bp 95 0,.bp 96 0,.ar 97 l.length]:=by
 simp[pxM,paO,GZ,zyk,AO.noRef,AV.noRefs,AV.noRef,zCV,om,ha]
def PConM{α:Type}(Z:GP)(T:List Tok)(f:Nat)(args:List AV)(a:Nat)(s:Bts)(l:List Bts)(R:PR α)(up:α->List Bts):Prop:=
 zBL prog f args (pxM Z T a s l) (fun V ol new=> ∃y b,R= .ok (y,b)/\b<T.length/\V= .tup []/\ol=pxM Z T b s (up y)/\new=[]) (fun v=> ∃i,R= .error i/\v=zCU i)
theorem mod1_p(Z:GP)(hZ:Z.Ok)(T:List Tok)(hT:TOk T)(a:Nat)(ha:a<T.length)(s:Bts)(l:List Bts)(hl:l.length<=10000000):
  PConM Z T 161 [.bp 96 0,.bp 95 0] a s l (zBE T a) (fun n=>l++[n]):=by
 refine zBL.srt (zBL.of_eH 1999 [.bp 90 0,.bp 95 0,.bp 96 0,.ar 97 l.length] (own:=[]) (fun i=>if i=2000 then [.flt ⟨[(0,none),(1,none),(2,none),(3,some [0,1]),(4,some [0,1]),(5,some []),(6,none),(7,some [])]⟩ ⟨[],[]⟩]else []) [0,1] zat func161 rfl call161 ntmps161 (zle rfl) results161 (pm_free Z T a s l _ (by simp[AV.noRefs,AV.noRef])) (fun gs=> ?_));obtain⟨R,hR⟩: ∃R,R=zBE T a:=⟨_,rfl⟩;have c1:=zDj Z hZ T hT a ha;rw[<-hR]at c1 ⊢;simp only[ZE,seval,KE]at c1;simp only[ZE,seval,KE,GZ,paO,paL,pxM,zAc];refine⟨by kernel_rfl,?_⟩;refine EFn.gX [(1,90),(7777777,7777777)] c1 ?_ (fun v hv=>by exact hv) ?_
 ·simp only[ZE,seval,GZ,paO,paL,pxM,zAc]
 rintro V ol new ⟨n,b,h1,hb,rfl,rfl,rfl⟩;have hlen:l.length+1=(l++[n]).length :=by simp
 have hmap:(l.map fun s=>[D.lit (.string s)])++[[D.lit (.string n)]]=(l++[n]).map fun s=>[D.lit (.string s)]:=by rw[wae]; rfl
 simp only[ZE,seval,KE,hmap,waa,GZ,paO,paL,pxM,zAc];refine⟨⟨by omega,by omega⟩,hlen,?_⟩;simp only[ZE,seval,zAt.eq_def,zAF.eq_def,KE,GZ,paO,paL,pxM,zAc];refine⟨[4,6,1999],[],?_⟩;simp only[ZE,seval,zAp.eq_1,zAp.eq_2,zAq.eq_1,zAq.eq_2,GZ,zAt.eq_def,zAj.eq_def,ghK.eq_def,zAF.eq_def,zAi.eq_def,zHK,zht,AV.core,GZ,paO,paL,pxM,zAc];exact⟨n,b,h1,hb,by simp only[wab,wad,waf,Nat.zero_add]⟩
theorem list3_p(Z:GP)(hZ:Z.Ok)(T:List Tok)(hT:TOk T)(a:Nat)(ha:a<T.length)(s:Bts)(l:List Bts)(hx:l.length<=1000):
  PConM Z T 160 [.bp 90 0,.clo (.func 161) [] [.bp 96 0,.bp 95 0]] a s l (zDg (zBE T) T a) (fun m=>l++m):=by
 refine zBL.srt (zBL.of_eH 1999 [.bp 90 0,.bp 95 0,.bp 96 0,.ar 97 l.length] (own:=[]) (fun _=>[]) [0] zat func160 rfl call160 ntmps160 (zle rfl) results160 (pm_free Z T a s l _ (by simp[AV.noRefs,AV.noRef])) (fun gs=> ?_));have hlen:=hT.len;obtain⟨R,hR⟩: ∃R,R=zDg (zBE T) T a:=⟨_,rfl⟩;rw[<-hR];unfold zDg at hR;obtain⟨one,hone⟩:=zX (zBE T);have hO:=fun b hb y hy=>mod1_p Z hZ T hT b hb s y hy;rw[hone]at hR;have c1:=zBu Z T hT a (⟨#[40]⟩:ByteArray) ha;simp only[ZE,seval,KE]at c1;simp only[ZE,seval,KE,GZ,paO,paL,pxM,zAc];refine EFn.gX [(1,90),(7777777,7777777)] c1 ?_ (fun v hv=>by obtain⟨i,hi,hv⟩:=hv; exact⟨i,by rw[hR,hi]; rfl,hv⟩) ?_
 ·simp only[ZE,seval,GZ,paO,paL,pxM,zAc]
 rintro V ol new ⟨_u,b,h1,hb,rfl,rfl,rfl⟩;rw[h1,PR.bd_ok]at hR;have p1:=zBq Z T hT b (⟨#[41]⟩:ByteArray) hb;have l1:=zBj hT hb (s:=(⟨#[41]⟩:ByteArray)) (k:=3) (by decide);obtain⟨g,hg⟩:=zX (isT T b 3 (⟨#[41]⟩:ByteArray));rw[hg]at p1 l1 hR;cases g with
 | true=>
  rw[if_pos rfl]at hR p1;simp only[ZE,seval,KE]at p1;simp only[ZE,seval,KE,GZ,paO,paL,pxM,zAc];refine EFn.gV [(1,90),(7777777,7777777)] p1 ?_ ?_
  ·simp only[ZE,seval,GZ,paO,paL,pxM,zAc]
  rintro V ol new ⟨rfl,rfl,rfl⟩;simp only[ZE,seval,zAt.eq_def,zAF.eq_def,KE,GZ,paO,paL,pxM,zAc];refine⟨[1999],[],?_⟩;simp only[ZE,seval,zAp.eq_1,zAp.eq_2,zAq.eq_1,zAq.eq_2,GZ,zAt.eq_def,zAj.eq_def,ghK.eq_def,zAF.eq_def,zAi.eq_def,zHK,zht,AV.core,GZ,paO,paL,pxM,zAc];exact⟨[],b+1,hR,l1 rfl,by simp only[wah]⟩
 | false=>
  rw[if_neg (by decide)]at hR p1;simp only[ZE,seval,KE]at p1;simp only[ZE,seval,KE,GZ,paO,paL,pxM,zAc];refine EFn.gV [(1,90),(7777777,7777777)] p1 ?_ ?_
  ·simp only[ZE,seval,GZ,paO,paL,pxM,zAc]
  rintro V ol new ⟨rfl,rfl,rfl⟩;have c2:=hO b hb l (by omega);rw[hone]at c2;simp only[ZE,seval,KE,GZ,paO,paL,pxM,zAc];refine EFn.gX [(90,90),(95,95),(96,96),(97,97),(7777777,7777777)] c2 ?_ (fun v hv=>by obtain⟨i,hi,hv⟩:=hv; exact⟨i,by rw[hR,hi]; rfl,hv⟩) ?_
  ·simp only[ZE,seval,KE,GZ,paO,paL,pxM,zAc]
  rintro V ol new ⟨y,c,h2,hc,rfl,rfl,rfl⟩;rw[h2,PR.bd_ok]at hR;simp only[ZE,seval,KE,GZ,paO,paL,pxM,zAc];refine zgR (X:=List Bts×Nat) (fun _ _=>[]) zat T.length (fun i z=>i<=z.2/\z.2<T.length/\z.1.length=i+1/\R=zDB one T (T.length-i) z.1 z.2)
   (fun _ z=>([(0,.bp 90 0),(1,.clo (.func 161) [] [.bp 96 0,.bp 95 0])],(1999,.gh [.bp 90 0,.bp 95 0,.bp 96 0,.ar 97 l.length] gs)::pxM Z T z.2 s (l++z.1))) ([y],c) ⟨Nat.zero_le _,hc,rfl,hR⟩ ?_ ?_ (fun i z hi hI=> ?_)
  ·simp only[ZE,seval]
  ·simp only[ZE,seval,KE,GZ,paO,paL,pxM,zAc]
  obtain⟨m,b⟩:=z;obtain⟨I1,I2,I3,I4⟩:=hI;simp only at I1 I2 I3 I4;rw[show T.length-i=T.length-(i+1)+1 by omega]at I4;unfold zDB at I4;have p2:=zBq Z T hT b (⟨#[44]⟩:ByteArray) I2;have l2:=zBj hT I2 (s:=(⟨#[44]⟩:ByteArray)) (k:=3) (by decide);obtain⟨g,hg⟩:=zX (isT T b 3 (⟨#[44]⟩:ByteArray));rw[hg]at p2 l2 I4;cases g with
  | true=>
   rw[if_pos rfl]at I4 p2;have c3:=hO (b+1) (l2 rfl) (l++m) (by simp only[wab]; omega);rw[hone]at c3;simp only[ZE,seval,KE]at p2;simp only[ZE,seval,KE,GZ,paO,paL,pxM,zAc];refine EFn.gV [(1,90),(7777777,7777777)] p2 ?_ ?_
   ·simp only[ZE,seval,GZ,paO,paL,pxM,zAc]
   rintro V ol new ⟨rfl,rfl,rfl⟩;simp only[ZE,seval,KE,GZ,paO,paL,pxM,zAc];refine EFn.gX [(90,90),(95,95),(96,96),(97,97),(7777777,7777777)] c3 ?_ (fun v hv=>by obtain⟨i,hi,hv⟩:=hv; exact⟨i,by rw[I4,hi]; rfl,hv⟩) ?_
   ·simp only[ZE,seval,KE,GZ,paO,paL,pxM,zAc]
   rintro V ol new ⟨y2,c',h3,hc',rfl,rfl,rfl⟩;rw[h3,PR.bd_ok]at I4;simp only[ZE,seval,KE,GZ,paO,paL,pxM,zAc];have hgt:=zGI (by rw[<-hone]at h3; exact h3);refine⟨by omega,(m++[y2],c'),⟨by omega,hc',by simp only[wab,wad,waf]; omega,I4⟩,?_,?_⟩
   ·simp only[ZE,seval]
   ·simp only[ZE,seval,KE,wag,GZ,paO,paL,pxM,zAc]
  | false=>
   rw[if_neg (by decide)]at I4 p2;have c3:=zBu Z T hT b (⟨#[41]⟩:ByteArray) I2;simp only[ZE,seval,KE]at p2;simp only[ZE,seval,KE]at c3;simp only[ZE,seval,KE,GZ,paO,paL,pxM,zAc];refine EFn.gV [(1,90),(7777777,7777777)] p2 ?_ ?_
   ·simp only[ZE,seval,GZ,paO,paL,pxM,zAc]
   rintro V ol new ⟨rfl,rfl,rfl⟩;simp only[ZE,seval,KE,GZ,paO,paL,pxM,zAc];refine EFn.gX [(1,90),(7777777,7777777)] c3 ?_ (fun v hv=>by obtain⟨i,hi,hv⟩:=hv; exact⟨i,by rw[I4,hi]; rfl,hv⟩) ?_
   ·simp only[ZE,seval,GZ,paO,paL,pxM,zAc]
   rintro V ol new ⟨_u,e,h3,he,rfl,rfl,rfl⟩;rw[h3,PR.bd_ok]at I4;simp only[ZE,seval,zAt.eq_def,zAF.eq_def,KE,GZ,paO,paL,pxM,zAc];refine⟨[1999],[],?_⟩;simp only[ZE,seval,zAp.eq_1,zAp.eq_2,zAq.eq_1,zAq.eq_2,GZ,zAt.eq_def,zAj.eq_def,ghK.eq_def,zAF.eq_def,zAi.eq_def,zHK,zht,AV.core,GZ,paO,paL,pxM,zAc];exact⟨m,e,I4,he,rfl⟩
set_option maxHeartbeats 8000000
theorem e0E:e0=wak:=rfl
theorem zEV:x0.op=0:=rfl
theorem zCb:x0.name=wak:=rfl
theorem x0_k:x0.k=n0:=rfl
theorem x0_w:x0.w=n0:=rfl
theorem zCa:x0.args=[]:=rfl
def paM(Z:GP)(T:List Tok)(a:Nat):OL:=[(90,paO T a),(7777777,Z.o)]
theorem pmm_free(Z:GP)(T:List Tok)(a:Nat)(args:List AV)(ha:AV.noRefs [1999] args):
  (zyk 1999 (paM Z T a)/\AV.noRefs [1999] args)/\zCV (om (paM Z T a)) []/\AV.noRefs [1999] []:=by
 simp[paM,paO,GZ,zyk,AO.noRef,AV.noRefs,AV.noRef,zCV,ha]
theorem zBJ(x:Item):zaK x=[eI x.kind,eSb x.name,eI x.width.n,eSb x.width.p,eI x.depth.n,eSb x.depth.p,eI x.init.n,eSb x.init.p,
  eI x.a.op,eSb x.a.name,eI x.a.k.n,eSb x.a.k.p,eI x.a.w.n,eSb x.a.w.p,.sl (x.a.args.map zbx),
  eI x.b.op,eSb x.b.name,eI x.b.k.n,eSb x.b.k.p,eI x.b.w.n,eSb x.b.w.p,.sl (x.b.args.map zbx),
  eI x.c.op,eSb x.c.name,eI x.c.k.n,eSb x.c.k.p,eI x.c.w.n,eSb x.c.w.p,.sl (x.c.args.map zbx),
  eI x.rule.kind,eSb x.rule.from',eI x.rule.n,eSb x.of,.sl (x.args.map zgL),.sl (x.ports.map zjO)]:=by
 unfold zaK;rw[zb6,zb6,zb6];rfl
theorem rd_p(Z:GP)(hZ:Z.Ok)(T:List Tok)(hT:TOk T)(k:Nat)(hk:1<=k/\k<=9)(b:Nat)(hb:b<T.length):zHw Z T (rdF k) b (zBg k) (zHh k T b):=by
 rcases(show k=1\/k=2\/k=3\/k=4\/k=5\/k=6\/k=7\/k=8\/k=9 by omega)with rfl | rfl | rfl | rfl | rfl | rfl | rfl | rfl | rfl
 ·exact zHr Z hZ T hT b hb _
 ·exact zHr Z hZ T hT b hb _
 ·exact channel_p Z hZ T hT b hb _
 ·exact register_p Z hZ T hT b hb _
 ·exact wire_p Z hZ T hT b hb _
 ·exact memory_p Z hZ T hT b hb _
 ·exact take_p Z hZ T hT b hb _
 ·exact put_p Z hZ T hT b hb _
 ·exact instance_p Z hZ T hT b hb _ rfl rfl
theorem itemL_le{s:Bts}{k:Nat}(h:zIg.lookup s=some k):1<=k/\k<=9:=by
 unfold zIg at h;simp only[List.lookup_cons,List.lookup_nil]at h
 repeat' split at h
 all_goals first | (cases h; simp) | cases h
def eM1(m:Module):AV:=.d (.agg (zaC m))
theorem module_p(Z:GP)(hZ:Z.Ok)(T:List Tok)(hT:TOk T)(a:Nat)(ha:a<T.length):
  zBL prog 107 [.bp 90 0] (paM Z T a) (fun V ol new=> ∃m b,zBC T a= .ok (m,b)/\b<T.length/\V=eM1 m/\ol=paM Z T b/\new=[]) (fun v=> ∃i,zBC T a= .error i/\v=zCU i):=by
 refine zBL.srt (zBL.of_eH 1999 [] (own:=[]) (fun i=>if i=2 then [.adB 3 2 97 9 1]else if i=4 then [.frz 97,.adB 3 3 98 114 35]else if i=2009 then [.flt ⟨[(0,none),(1,none),(2,none),(3,none),(4,none),(5,none),(6,none),(7,none),(8,none),(9,none),(11,some [])]⟩ ⟨[10],[(11,[10])]⟩]else if i=14 then [.adB 8 14 1000 108 7,.frz 1000,.adB 8 21 1001 108 7,.frz 1001,.adB 8 28 1002 108 7,.frz 1002,.adB 8 33 1003 105 2,.adB 8 34 1004 230 2]else if i=1017 then [.frz 1003,.frz 1004]else if i=1018 then [.frz 98]else chL i) [0] zat func107 rfl call107 ntmps107 (zle rfl) results107 (pmm_free Z T a _ (by simp[AV.noRefs,AV.noRef])) (fun gs=> ?_));have hlen:=hT.len;obtain⟨bs,cl,hfo⟩:=forms_c;obtain⟨R,hR⟩: ∃R,R=zBC T a:=⟨_,rfl⟩;rw[<-hR];unfold zBC at hR;have c1:=word_p Z T hT a (⟨#[109,111,100,117,108,101]⟩:ByteArray) ha;simp only[ZE,seval,KE]at c1;simp only[ZE,seval,KE,GZ,paO,paL,paM,pxM,zAc];refine EFn.gX [(1,90),(7777777,7777777)] c1 ?_ (fun v hv=>by obtain⟨i,hi,hv⟩:=hv; exact⟨i,by rw[hR,hi]; rfl,hv⟩) ?_
 ·simp only[ZE,seval,GZ,paO,paL,paM,pxM,zAc]
 rintro V ol new ⟨_u,b,h1,hb,rfl,rfl,rfl⟩;rw[h1,PR.bd_ok]at hR;have c2:=zDj Z hZ T hT b hb;simp only[ZE,seval,KE]at c2;simp only[ZE,seval,KE,GZ,paO,paL,paM,pxM,zAc];refine EFn.gX [(1,90),(7777777,7777777)] c2 ?_ (fun v hv=>by obtain⟨i,hi,hv⟩:=hv; exact⟨i,by rw[hR,hi]; rfl,hv⟩) ?_
 ·simp only[ZE,seval,GZ,paO,paL,paM,pxM,zAc]
 rintro V ol new ⟨s,c,h2,hc,rfl,rfl,rfl⟩;rw[h2,PR.bd_ok]at hR;have c3:=list3_p Z hZ T hT c hc s [] (by simp);simp only[ZE,seval,KE,GZ,paO,paL,paM,pxM,zAc];refine EFn.gX [(90,90),(95,1),(96,3),(97,97),(7777777,7777777)] c3 ?_ (fun v hv=>by obtain⟨i,hi,hv⟩:=hv; exact⟨i,by rw[hR,hi]; rfl,hv⟩) ?_
 ·simp only[ZE,seval,KE,e0E,wac,waf,GZ,paO,paL,paM,pxM,zAc]
 rintro V ol new ⟨l,d,h3,hd,rfl,rfl,rfl⟩;rw[h3,PR.bd_ok]at hR;have c4:=zBu Z T hT d (⟨#[64]⟩:ByteArray) hd;simp only[ZE,seval,KE]at c4;simp only[ZE,seval,KE,e0E,wai,GZ,paO,paL,paM,pxM,zAc];refine EFn.gX [(1,90),(7777777,7777777)] c4 ?_ (fun v hv=>by obtain⟨i,hi,hv⟩:=hv; exact⟨i,by rw[hR,hi]; rfl,hv⟩) ?_
 ·simp only[ZE,seval,GZ,paO,paL,paM,pxM,zAc]
 rintro V ol new ⟨_u,e,h4,he,rfl,rfl,rfl⟩;rw[h4,PR.bd_ok]at hR;have c5:=zDj Z hZ T hT e he;simp only[ZE,seval,KE]at c5;simp only[ZE,seval,KE,waa,GZ,paO,paL,paM,pxM,zAc];refine EFn.gX [(1,90),(7777777,7777777)] c5 ?_ (fun v hv=>by obtain⟨i,hi,hv⟩:=hv; exact⟨i,by rw[hR,hi]; rfl,hv⟩) ?_
 ·simp only[ZE,seval,GZ,paO,paL,paM,pxM,zAc]
 rintro V ol new ⟨k,f,h5,hf,rfl,rfl,rfl⟩;rw[h5,PR.bd_ok]at hR;have c6:=zBu Z T hT f (⟨#[123]⟩:ByteArray) hf;simp only[ZE,seval,KE]at c6;simp only[ZE,seval,KE,GZ,paO,paL,paM,pxM,zAc];refine EFn.gX [(1,90),(7777777,7777777)] c6 ?_ (fun v hv=>by obtain⟨i,hi,hv⟩:=hv; exact⟨i,by rw[hR,hi]; rfl,hv⟩) ?_
 ·simp only[ZE,seval,GZ,paO,paL,paM,pxM,zAc]
 rintro V ol new ⟨_u,g,h6,hg,rfl,rfl,rfl⟩;rw[h6,PR.bd_ok]at hR;simp only[ZE,seval,KE,GZ,paO,paL,paM,pxM,zAc];refine EFn.p ?_;simp only[ZE,seval];refine zar.i (hfo) ?_;simp only[ZE,seval,KE,GZ,paO,paL,paM,pxM,zAc];have kf:(∀y∈formK,zd3 prog 9 y)=True:=eq_true (fun y hy=>by
  unfold formK at hy;simp only[List.mem_cons,List.not_mem_nil,or_false]at hy;rcases hy with rfl | rfl | rfl | rfl | rfl | rfl | rfl | rfl | rfl <;> exact zB5 (by decide))
 refine zgR (X:=List Item×Nat) (fun _=>(fun i=>if i=2 then [.adB 3 2 97 9 1]else if i=4 then [.frz 97,.adB 3 3 98 114 35]else if i=2009 then [.flt ⟨[(0,none),(1,none),(2,none),(3,none),(4,none),(5,none),(6,none),(7,none),(8,none),(9,none),(11,some [])]⟩ ⟨[10],[(11,[10])]⟩]else if i=14 then [.adB 8 14 1000 108 7,.frz 1000,.adB 8 21 1001 108 7,.frz 1001,.adB 8 28 1002 108 7,.frz 1002,.adB 8 33 1003 105 2,.adB 8 34 1004 230 2]else if i=1017 then [.frz 1003,.frz 1004]else if i=1018 then [.frz 98]else chL i)) zat T.length (fun i z=>i<=z.2/\z.2<T.length/\z.1.length<=i/\R=(zCN T (T.length-i) z.1 z.2).bd fun m h=>.ok (⟨s,k,l,m⟩,h))
  (fun _ z=>([(0,.bp 90 0),(1,.bp 1 0),(2,.bp 2 0),(3,.bp 3 0),(4,.d (.mp formK formV bs cl))],
   [(1,.box [.bp 90 0]),(2,.box [.d (eSb wak),.d (eSb wak),.nils,.nils]),(3,.box [.d (eSb s),.d (eSb k),.d (eSbs l),.ar 98 z.1.length]),(90,paO T z.2),(98,.arr 114 35 .flat (z.1.map zaK)),(1999,.gh [] gs),(7777777,Z.o)])) ([],g) ⟨Nat.zero_le _,hg,wan _,hR⟩ ?_ ?_ (fun i z hi hI=> ?_)
 ·simp only[ZE,seval]
 ·simp only[ZE,seval,KE,GZ,paO,paL,paM,pxM,zAc]
 obtain⟨m,b⟩:=z;obtain⟨I1,I2,I3,I4⟩:=hI;simp only at I1 I2 I3 I4;rw[show T.length-i=T.length-(i+1)+1 by omega]at I4;unfold zCN at I4;have p2:=zBq Z T hT b (⟨#[125]⟩:ByteArray) I2;have l2:=zBj hT I2 (s:=(⟨#[125]⟩:ByteArray)) (k:=3) (by decide);obtain⟨gg,hgg⟩: ∃g,isT T b 3 (⟨#[125]⟩:ByteArray)=g:=⟨_,rfl⟩;rw[hgg]at p2 l2 I4;cases gg with
 | true=>
  rw[if_pos rfl]at I4 p2;simp only[ZE,seval,KE]at p2;simp only[ZE,seval,KE,GZ,paO,paL,paM,pxM,zAc];refine EFn.gV [(1,90),(7777777,7777777)] p2 ?_ ?_
  ·simp only[ZE,seval,GZ,paO,paL,paM,pxM,zAc]
  rintro V ol new ⟨rfl,rfl,rfl⟩;simp only[ZE,seval,waa,zAt.eq_def,zAF.eq_def,KE,GZ,paO,paL,paM,pxM,zAc];refine⟨[1,2,3,1999],[],?_⟩;simp only[ZE,seval,zAp.eq_1,zAp.eq_2,zAq.eq_1,zAq.eq_2,GZ,zAt.eq_def,zAj.eq_def,ghK.eq_def,zAF.eq_def,zAi.eq_def,zHK,zht,AV.core,GZ,paO,paL,paM,pxM,zAc];exact⟨_,b+1,I4,l2 rfl,rfl,rfl⟩
 | false=>
  rw[if_neg (by decide)]at I4 p2;simp only[ZE,seval,KE]at p2;unfold zDV at I4;have e1:=zai I2;have e2:=zDl I2;have hfx:=zGc Z T b;have hw:=zaq (show b<9223372036854775807 by omega);have hl2:=hT.last b I2;have ks:zd3 prog 9 (.lit (.string (tk T b).2.1)):=zB5 (hT.size I2);have hm:=form_get (tk T b).2.1;obtain⟨⟨q,w,p⟩,ht⟩: ∃t,tk T b=t:=⟨_,rfl⟩;rw[ht]at e2 ks hl2 I4 hm;simp only at e2 ks hl2 I4 hm;obtain⟨o,ho⟩:=zX (zIg.lookup w);rw[ho]at I4 hm;by_cases hq:q=1
  ·subst hq;rw[if_neg (by simp)]at I4;have e3:(((1:Nat):Int) !=1)=false:=rfl;rcases o with _ | n
   ·rw[waq]at hm;simp only[ZE,seval,KE,GZ,paO,paL,paM,pxM,zAc];refine EFn.gV [(1,90),(7777777,7777777)] p2 ?_ ?_
    ·simp only[ZE,seval,GZ,paO,paL,paM,pxM,zAc]
    rintro V ol new ⟨rfl,rfl,rfl⟩;simp only[ZE,seval,e1,e2,wal,ks,kf,hm,zal,was,Option.isSome_none,Bool.not_false,KE,GZ,paO,paL,paM,pxM,zAc];refine⟨by kernel_rfl,?_⟩;refine EFn.gX [(1,90),(7777777,7777777)] hfx ?_ (fun v hv=>by exact⟨b,I4,hv⟩) (fun _ _ _ h=>h.elim);simp only[ZE,seval,GZ,paO,paL,paM,pxM,zAc]
   ·rw[wap]at hm;have hn:=itemL_le ho;have hb1:=hl2 (by decide);have cI:=rd_p Z hZ T hT n hn (b+1) hb1;unfold zHw at cI;obtain⟨fn,hfn⟩:=zX (rdF n);obtain⟨rp,hrp⟩:=zX (zHh n T (b+1));have hfo2:eForm n= .agg [.lit (.int .i64 n),.clo (.func fn) [] []]:=(by unfold eForm; rw[hfn]);rw[hfo2]at hm;rw[hfn,hrp]at cI;simp only[hrp]at I4;simp only[ZE,seval,KE,GZ,paO,paL,paM,pxM,zAc];refine EFn.gV [(1,90),(7777777,7777777)] p2 ?_ ?_
    ·simp only[ZE,seval,GZ,paO,paL,paM,pxM,zAc]
    rintro V ol new ⟨rfl,rfl,rfl⟩;simp only[ZE,seval,e1,e2,wal,ks,kf,hm,e3,hw,zal,war,Option.isSome_some,Bool.not_true,KE,GZ,paO,paL,paM,pxM,zAc];refine⟨by kernel_rfl,?_⟩;refine EFn.gX [(1,90),(101,8),(103,1003),(104,1004),(7777777,7777777)] cI ?_ (fun v hv=>by obtain⟨j,hj,hv⟩:=hv; exact⟨j,by rw[I4,hj]; rfl,hv⟩) ?_
    ·simp only[ZE,seval,KE,paI,itA,nmO,bnO,zBg,zEV,zCb,x0_k,x0_w,zCa,n0,r0,e0E,wac,waf,GZ,paO,paL,paM,pxM,zAc]
    rintro V ol new ⟨x,c,h7,hc,rfl,rfl,rfl⟩;rw[h7,PR.bd_ok]at I4;have c8:=zBu Z T hT c (⟨#[59]⟩:ByteArray) hc;simp only[ZE,seval,KE]at c8;simp only[ZE,seval,KE,paI,itA,nmO,bnO,zBg,zEV,zCb,x0_k,x0_w,zCa,n0,r0,e0E,wac,waf,GZ,paO,paL,paM,pxM,zAc];refine EFn.gX [(1,90),(7777777,7777777)] c8 ?_ (fun v hv=>by obtain⟨j,hj,hv⟩:=hv; exact⟨j,by rw[I4,hj]; rfl,hv⟩) ?_
    ·simp only[ZE,seval,GZ,paO,paL,paM,pxM,zAc]
    rintro V ol new ⟨_u,d,h8,hd,rfl,rfl,rfl⟩;rw[h8,PR.bd_ok]at I4;have hmap:=zBJ x;simp only[ZE,seval,KE]at hmap;have hmap2:m.map zaK++[zaK x]=(m++[x]).map zaK:=(by rw[wae]; rfl);rw[hmap]at hmap2;have hgt:=signP_gt h8;have hge:=ge_read n T (b+1) x c (by rw[hrp]; exact h7);simp only[ZE,seval,KE,waa,hmap2,GZ,paO,paL,paM,pxM,zAc];refine⟨⟨by omega,by omega⟩,by simp only[waa,wab,wad,waf],?_⟩;have hl9:m.length+1=(m++[x]).length :=(by simp);refine⟨by omega,(m++[x],d),⟨by omega,hd,by simp only[wab,wad,waf]; omega,I4⟩,?_,?_⟩
    ·simp only[ZE,seval]
    ·simp only[ZE,seval,KE,<-hl9,GZ,paO,paL,paM,pxM,zAc]
  ·rw[if_pos hq]at I4;have e3:((q:Int) !=1)=true:=by simp; omega
   rcases o with _ | n
   ·rw[waq]at hm;simp only[ZE,seval,KE,GZ,paO,paL,paM,pxM,zAc];refine EFn.gV [(1,90),(7777777,7777777)] p2 ?_ ?_
    ·simp only[ZE,seval,GZ,paO,paL,paM,pxM,zAc]
    rintro V ol new ⟨rfl,rfl,rfl⟩;simp only[ZE,seval,e1,e2,wal,ks,kf,hm,zal,was,Option.isSome_none,Bool.not_false,KE,GZ,paO,paL,paM,pxM,zAc];refine⟨by kernel_rfl,?_⟩;refine EFn.gX [(1,90),(7777777,7777777)] hfx ?_ (fun v hv=>by exact⟨b,I4,hv⟩) (fun _ _ _ h=>h.elim);simp only[ZE,seval,GZ,paO,paL,paM,pxM,zAc]
   ·rw[wap]at hm;obtain⟨fn,hfn⟩:=zX (rdF n);have hfo2:eForm n= .agg [.lit (.int .i64 n),.clo (.func fn) [] []]:=(by unfold eForm; rw[hfn]);rw[hfo2]at hm;simp only[ZE,seval,KE,GZ,paO,paL,paM,pxM,zAc];refine EFn.gV [(1,90),(7777777,7777777)] p2 ?_ ?_
    ·simp only[ZE,seval,GZ,paO,paL,paM,pxM,zAc]
    rintro V ol new ⟨rfl,rfl,rfl⟩;simp only[ZE,seval,e1,e2,wal,ks,kf,hm,e3,hw,zal,war,Option.isSome_some,Bool.not_true,KE,GZ,paO,paL,paM,pxM,zAc];refine⟨by kernel_rfl,?_⟩;refine EFn.gX [(1,90),(7777777,7777777)] hfx ?_ (fun v hv=>by exact⟨b,I4,hv⟩) (fun _ _ _ h=>h.elim);simp only[ZE,seval,GZ,paO,paL,paM,pxM,zAc]
theorem rec_idle(vs:List Value)(W:World)(hv:vs.length=4):CallsDIn Fence.wide 0 prog 106 vs.toArray .returning W fun e u' w'=>(∃x,e= .returned x)/\u'= .returning /\w'=W:=by
 match vs,hv with
 | [a,b,c,d],_=>
  refine callsDIn_of_wpSIn func106 rfl trivial (fun c₀ cs hu=> ?_);apply wpSIn_seq;apply wpSIn_region;simp[wpOpsSIn,go_sem,recoverD,hu,ntmps106,Exit.thenS];apply wpSIn_seq;apply wpSIn_region;simp[wpOpsSIn,go_sem,recoverD,hu,Exit.thenS];refine wpSIn_cond (t:=false) (by simp[Act.eval]) ?_;simp only[Bool.false_eq_true,if_false];refine wpSIn_of_wpIn rfl (wpIn_skip ?_);cases c₀;simp_all [bodyPostS,results,results106]
def zEY:List AV:=[.bp 5 0,.bp 2 0,.bp 3 0,.bp 4 0]
def zFu(Z:GP)(T:List Tok)(gs:List Value)(x y z:AV):OL:=[(2,.box [x]),(3,.box [y]),(4,.box [z]),(5,.box [.d (zAc T)]),(500,.gh zEY gs),(7777778,Z.o)]
theorem stuck_assert(n:Int)(xT:TypeId)(W:World):(Instr.typeAssert (.iface 189 (.int .i64 n)) xT 189 true).run prog W= .ok (.tuple #[.int .i64 n,.bool true]) W:=by
 have h:=tU189;simp[Instr.typeAssert,run_underlying h]
theorem rec_core(Z:GP)(T:List Tok)(i:Nat)(hi:i<T.length)(x y z:AV)(o:OL)(a b d e:Value)(ho:zwd (om o) (zFu Z T [a,b,d,e] x y z))(c:Ctx)(W:World)(F:Nat->Prop)(η:Nat->Value)(S:Nat->List Nat)(hP:c.P=prog)(hds:c.ds=[])(hZ:c.Z=[])(hm:Mem c (om o) W F η S)
  (ha:zaL (om o) W F η (.bp 5 0) a) (hb:zaL (om o) W F η (.bp 2 0) b) (hd:zaL (om o) W F η (.bp 3 0) d) (he:zaL (om o) W F η (.bp 4 0) e) (R:Ending->FrameMode->World->Prop)
  (hR: ∀(w':World) (F':Nat->Prop) (η':Nat->Value) (S':Nat->List Nat),Mem c (om (zFu Z T [a,b,d,e] .nils (.d (eI (tk T i).2.2)) (.d (eI 90)))) w' F' η' S'->zaN (om (zFu Z T [a,b,d,e] .nils (.d (eI (tk T i).2.2)) (.d (eI 90)))) w' F' η' zEY [a,b,d,e]-> ∀v,R (.returned v) (.panicking [{v:=zCU i,recovered:=true}]) w'):
  CallsDIn Fence.wide 0 prog 106 #[a,b,d,e] (.panicking [{v:=zCU i,recovered:=false}]) W R:=by
 have hta:=stuck_assert i;refine callsDIn_of_wpSIn func106 rfl trivial (fun c₀ cs hu=> ?_);apply wpSIn_seq;apply wpSIn_region;simp[wpOpsSIn,go_sem,recoverD,hu,ntmps106,Exit.thenS];apply wpSIn_seq;apply wpSIn_region;simp[wpOpsSIn,go_sem,recoverD,hu,Exit.thenS,zCU];refine wpSIn_cond (t:=true) (by simp[Act.eval]) ?_;simp only[if_true];apply wpSIn_seq;apply wpSIn_region;simp[wpOpsSIn,go_sem,recoverD,hu,Exit.thenS,zCU,hta];apply wpSIn_seq;apply wpSIn_seq;apply wpSIn_region;simp[wpOpsSIn,go_sem,recoverD,hu,Exit.thenS,zCU];refine wpSIn_cond (t:=false) (by simp[Act.eval]) ?_;simp only[Bool.false_eq_true,if_false];refine wpSIn_of_wpIn rfl (wpIn_skip ?_);simp only[Exit.thenS];generalize hA:(#[a,b,d,e]++_:Array Value)=A;have hA0:A.size=24/\A.getD 0 undef=a/\A.getD 1 undef=b/\A.getD 2 undef=d/\A.getD 3 undef=e/\A.getD 5 undef= .int .i64 i:=by
  rw[<-hA];simp[Array.getD]
 obtain⟨hsz,g0,g1,g2,g3,g5⟩:=hA0;clear hA;refine wpSIn_of_wpIn rfl ?_;obtain⟨P0,N0',W0,F0,O0,Z0,ds0,pv0,dl0⟩:=c;simp only at hP hds hZ;subst hP hds hZ;have hr0:Rel ⟨prog,⟨24,[0,1,2,3],false,[],fun _ _=>False⟩,W0,F0,O0,[],[],fun t=>A.getD t undef,[]⟩ ⟨tm [(0,.bp 5 0),(1,.bp 2 0),(2,.bp 3 0),(3,.bp 4 0),(5,.d (.lit (.int .i64 i)))],om o⟩ {tmps:=A,defers:=[]} W:=by
  refine⟨⟨hsz,fun _ _=>rfl⟩,rfl,F,η,S,hm.same rfl rfl rfl rfl rfl,fun t=> ?_⟩;simp only[tm];split
  ·rename_i h; subst h; rw[g0]; exact ha
  split
  ·rename_i h; subst h; rw[g1]; exact hb
  split
  ·rename_i h; subst h; rw[g2]; exact hd
  split
  ·rename_i h; subst h; rw[g3]; exact he
  split
  ·rename_i h; subst h; rw[g5]; simp only[zaL,Rd]
  ·simp only[zaL]
 have hr:=zzH (σ:=⟨tm [(0,.bp 5 0),(1,.bp 2 0),(2,.bp 3 0),(3,.bp 4 0),(5,.d (.lit (.int .i64 i)))],om o⟩) (l:=[(0,.bp 5 0),(1,.bp 2 0),(2,.bp 3 0),(3,.bp 4 0),(5,.d (.lit (.int .i64 i)))]) (by simp[zuM,tm]) ho _ _ W hr0;refine wpIn_mono (zBm (N:=⟨24,[0,1,2,3],false,[],fun _ _=>False⟩) (L:=fun _=>[]) zat _ (fun ex t o'=>ex= .normal /\zwd (om o') (zFu Z T [a,b,d,e] .nils (.d (eI (tk T i).2.2)) (.d (eI 90)))/\tm t 0= .bp 5 0/\tm t 1= .bp 2 0/\tm t 2= .bp 3 0/\tm t 3= .bp 4 0) _ _ (fun _ _ h=>h.elim) ?_ none 0 _ (fun _=>rfl) rfl rfl _ W hr) ?_
 ·have e1:=zai hi;have e2:=zDl hi;simp only[ZE,seval,zFu,KE,zAc,GZ,e1,e2,wal,zEY]
 ·rintro ex a' W' ⟨σ',⟨t',o',rfl,rfl,h1,t0,t1,t2,t3⟩,Ds,hD,hr'⟩;have hDs:Ds=[]:=hD.2.2 rfl;subst hDs;rw[Ctx.more_nil]at hr';obtain⟨⟨hsz',hpin⟩,hdf,F',η',S',hm',ht'⟩:=zzH (σ:=⟨tm t',om o'⟩) (l:=[(0,.bp 5 0),(1,.bp 2 0),(2,.bp 3 0),(3,.bp 4 0)]) (by simp[zuM,t0,t1,t2,t3]) h1 _ _ W' hr';refine⟨by simpa using hdf,_,rfl,.tuple #[],by simp[results,results106],hR W' F' η' S' (hm'.same rfl rfl rfl rfl rfl) ?_ _⟩;simp only[zEY,zaN];have k0:=ht' 0;have k1:=ht' 1;have k2:=ht' 2;have k3:=ht' 3;rw[hpin 0 (by simp)]at k0;rw[hpin 1 (by simp)]at k1;rw[hpin 2 (by simp)]at k2;rw[hpin 3 (by simp)]at k3;simp only[g0,g1,g2,g3]at k0 k1 k2 k3;exact⟨_,_,rfl,k0,_,_,rfl,k1,_,_,rfl,k2,_,_,rfl,k3,rfl⟩
def zAQ(s:Bts):List Module×Int×Int:=
 if s.size>8000 then([],0,2)else match zEW s with
  | .error a=>([],a,5)
  | .ok T=>match zB4 T T.length [] 0 with
   | .ok f=>(f,0,0)
   | .error i=>([],(tk T i).2.2,90)
def zHb(s:Bts):AV:=.tup [.d (.agg [zax (zAQ s).1]),.d (eI (zAQ s).2.1),.d (eI (zAQ s).2.2)]
def paB(Z:GP)(T:List Tok):OL:=[(2,.box [.nils]),(3,.box [.d (eI 0)]),(4,.box [.d (eI 0)]),(5,.box [.d (zAc T)]),(7777777,Z.o),(7777778,Z.o)]
theorem parse_c(Z:GP)(hZ:Z.Ok)(s:Bts)(hs:s.size<=1000000)(T:List Tok)(hL:zEW s= .ok T)(h8: ¬s.size>8000)(hT:TOk T)(h0:0<T.length):
  FnL prog 64 [.d (.lit (.string s))] [(7777777,Z.o)] (fun V ol new=>V=zHb s/\ol=[(7777777,Z.o)]/\new=[]):=by
 refine FnL.dupG (b:=7777778) (by decide) rfl (by simp[AV.noRefs,AV.noRef]) rfl ?_;have hR:zAQ s=match zB4 T T.length [] 0 with | .ok f=>(f,0,0) | .error i=>([],(tk T i).2.2,90):=by unfold zAQ; rw[if_neg h8,hL]
 obtain⟨E,hEE⟩:=zX (zB4 T T.length [] 0);rw[hEE]at hR;refine FnL.of_df (pre:=[_,_,_]) (own:=[]) 500 zEY (fun i=>if i=5 then [.adB 2 0 98 46 4]else if i=1008 then [.frz 98]else if i=2006 then [.ord ⟨[(0,none),(1,none),(2,none),(3,none),(4,none),(5,none),(6,none),(7,none),(8,none),(9,none),(10,none),(11,none)]⟩]else if i=2007 then [.flt ⟨[(0,none),(1,none),(2,none),(3,some [0,1]),(4,some [0,1]),(5,some []),(6,none),(7,some [])]⟩ ⟨[],[]⟩]else [])
  (fun gs v o=> ∃i n,E= .error i/\i<T.length/\v=zCU i/\zwd (om o) (zFu Z T gs (.ar 98 n) (.d (eI 0)) (.d (eI 0)))) [(2,.bp 2 0),(3,.bp 3 0),(4,.bp 4 0),(5,.bp 5 0)] (paB Z T) [5,2,3,4] 106
  zat func64 rfl call64 ntmps64 (zle rfl) results64 ?_ rfl rfl ?_ ?_ ?_ (fun vs W hv=>rec_idle vs W hv) ?_
 ·simp[paB,zEY,GZ,zyk,zjB,AO.noRef,AV.noRefs,AV.noRef,zCV,om]
 ·have hl:=lex_g Z s hs;have hV:lexV s= .tup [.d (zAc T),.d (eI 0),.d (eI 0)]:=by unfold lexV; rw[if_neg h8,hL]; rfl
  rw[hV]at hl;simp only[ZE,seval,KE]at hl;simp only[ZE,seval,eP.eq_1,eP.eq_2,KE,GZ,zFu,zEY,zAc,paB,paM,paO];refine EFn.gV [(7777777,7777777)] hl ?_ ?_
  ·simp only[ZE,seval,GZ,zFu,zEY,zAc,paB,paM,paO]
  rintro V ol new ⟨rfl,rfl,rfl⟩;simp only[ZE,seval,eP.eq_1,eP.eq_2,subK.eq_1,KE,GZ,zFu,zEY,zAc,paB,paM,paO]
 ·intro n a W hsz hd;have hfw:FW none=Fence.wide:=rfl;have hmf: ∀(fn:Fn) (first cap:Array Value) (w:World),(Instr.makeFunc fn first cap).run prog w= .ok (.func fn first cap) w:=fun _ _ _ _=>rfl;rw[hfw];refine wpIn_region_list ?_;simp[wpListIn,go_sem,Fence.wide,Oper.semAt,hmf,hsz,hd];exact⟨_,_,_,rfl,rfl,fun W=>rfl⟩
 ·intro gs;have hm:=module_p Z hZ T hT;have e1:=zai h0;have e2:=zDl h0;simp only[ZE,seval,paB,KE,GZ,zFu,zEY,zAc,paB,paM,paO];refine zgR (X:=List Module×Nat) (fun _ i=>if i=2006 then [.ord ⟨[(0,none),(1,none),(2,none),(3,none),(4,none),(5,none),(6,none),(7,none),(8,none),(9,none),(10,none),(11,none)]⟩]else if i=2007 then [.flt ⟨[(0,none),(1,none),(2,none),(3,some [0,1]),(4,some [0,1]),(5,some []),(6,none),(7,some [])]⟩ ⟨[],[]⟩]else []) zat T.length (fun i z=>i<=z.2/\z.2<T.length/\z.1.length<=i/\E=zB4 T (T.length-i) z.1 z.2)
   (fun _ z=>([(2,.bp 2 0),(3,.bp 3 0),(4,.bp 4 0),(6,.bp 21 0)],
    [(2,.box [.ar 98 z.1.length]),(3,.box [.d (eI 0)]),(4,.box [.d (eI 0)]),(5,.box [.d (zAc T)]),(21,paO T z.2),(98,.arr 46 4 .flat (z.1.map zaC)),(500,.gh zEY gs),(7777777,Z.o),(7777778,Z.o)])) ([],0) ⟨wan _,h0,wan _,hEE.symm⟩ ?_ ?_ (fun i z hi hI=> ?_)
  ·simp only[ZE,seval]
  ·simp only[ZE,seval,KE,GZ,zFu,zEY,zAc,paB,paM,paO]
  obtain⟨l,b⟩:=z;obtain⟨I1,I2,I3,I4⟩:=hI;simp only at I1 I2 I3 I4;rw[show T.length-i=T.length-(i+1)+1 by omega]at I4;unfold zB4 at I4;have e1:=zai I2;have e2:=zDl I2;have hin:=in_module hT I2;have hlen:=hT.len;by_cases hk:(tk T b).1 =4
  ·rw[if_pos hk]at I4;have e3:(((tk T b).1 :Int) !=4)=false:=by rw[hk]; rfl
   have hV:zAQ s=(l,0,0):=by rw[hR,I4]
   simp only[ZE,seval,e1,e2,e3,wal,KE,waa,GZ,zFu,zEY,zAc,paB,paM,paO];refine⟨by kernel_rfl,?_⟩;simp only[ZE,seval,retDX.eq_def,KE,GZ,zFu,zEY,zAc,paB,paM,paO];refine⟨[2,3,4,5,21,500,7777778],?_⟩;simp only[ZE,seval,zHb.eq_1,hV,KE,GZ,zFu,zEY,zAc,paB,paM,paO];exact⟨trivial,trivial⟩
  ·rw[if_neg hk]at I4;have e3:(((tk T b).1 :Int) !=4)=true:=by simp; omega
   simp only[ZE,seval,e1,e2,e3,wal,KE,GZ,zFu,zEY,zAc,paB,paM,paO];refine⟨by kernel_rfl,by kernel_rfl,?_⟩;refine EFn.gX [(90,21),(7777777,7777777)] (hm b I2) ?_ (fun v hv=> ?_) ?_
   ·simp only[ZE,seval,KE,GZ,zFu,zEY,zAc,paB,paM,paO]
   ·obtain⟨j,hj,hv⟩:=hv;rw[hj]at I4 hin;refine⟨j,l.length,I4,hin,hv,?_⟩;simp only[ZE,seval,KE,GZ,zFu,zEY,zAc,paB,paM,paO]
   ·rintro V ol new ⟨m,c,h7,hc,rfl,rfl,rfl⟩;rw[h7]at I4;have hgt:=gt_module h7;have hmap:l.map zaC++[zaC m]=(l++[m]).map zaC:=(by rw[wae]; rfl);have hlm:l.length+1=(l++[m]).length :=(by simp);have hE:eM1 m= .d (.agg (zaC m)):=rfl;simp only[ZE,seval,KE]at hmap;simp only[ZE,seval,hE,KE,hmap,waa,GZ,zFu,zEY,zAc,paB,paM,paO];refine⟨⟨by omega,by omega⟩,hlm,?_⟩;refine⟨by omega,(l++[m],c),⟨by omega,hc,by simp only[wab,wad,waf]; omega,I4⟩,?_,?_⟩
    ·simp only[ZE,seval]
    ·simp only[ZE,seval,KE,<-hlm,GZ,zFu,zEY,zAc,paB,paM,paO]
 ·rintro gs v o ⟨i,n,hi1,hi2,rfl,ho⟩;refine⟨?_,fun c W F η S hP hds hZ hm hgs=> ?_⟩
  ·simp only[zFu,zwd]at ho;exact ho.2.2.2.2.1
  ·simp only[zEY,zaN]at hgs;obtain⟨a,_,rfl,ha,b,_,rfl,hb,d,_,rfl,hd,e,_,rfl,he,rfl⟩:=hgs;refine rec_core Z T i hi2 _ _ _ o a b d e ho c W F η S hP hds hZ hm ha hb hd he _ (fun w' F' η' S' h1 h2 v=>⟨⟨v,rfl⟩,rfl,_,F',η',S',h1,h2,?_⟩);have hV:zAQ s=([],((tk T i).2.2 :Int),90):=by rw[hR,hi1]
   refine⟨[2,3,4,5,500],?_⟩;simp only[ZE,seval,zHb.eq_1,hV,List.map_cons,wac,KE,GZ,zFu,zEY,zAc,paB,paM,paO];exact⟨trivial,trivial⟩
theorem lxL_tok: ∀(n:Nat) (l:List UInt8) (a:Nat) (T0 T:List Tok),lxL n l a T0= .ok T->(∀t∈T0,(t.1=1\/t.1=2\/t.1=3)/\t.2.1.size<=a)->T0.length<=a->
  ∃T1 e,T=T1++[(4,e0,e)]/\e<=a+l.length/\T1.length<=e/\ ∀t∈T1,(t.1=1\/t.1=2\/t.1=3)/\t.2.1.size<=e
 | 0,l,a,T0,T,h,h0,hl=>by
  simp only[lxL,Except.ok.injEq]at h;subst h;exact⟨T0,a,rfl,by omega,hl,h0⟩
 | n+1,l,a,T0,T,h,h0,hl=>by
  unfold lxL at h;split at h
  ·simp only[Except.ok.injEq]at h;subst h;exact⟨T0,a,rfl,by omega,hl,h0⟩
  ·rename_i hne;split at h
   ·cases h
   ·rename_i k hst;have hk:0<k/\k<=l.length:=zC8 hst;obtain⟨T1,e,e1,e2,e3,e4⟩:=lxL_tok n (l.drop k) (a+k) T0 T h (fun t ht=>⟨(h0 t ht).1,by have:=(h0 t ht).2; omega⟩) (by omega);exact⟨T1,e,e1,by rw[List.length_drop]at e2; omega,e3,e4⟩
   ·rename_i k q hst;have hk:0<k/\k<=l.length:=zC8 hst;have hq:=zF4 hst;obtain⟨T1,e,e1,e2,e3,e4⟩:=lxL_tok n (l.drop k) (a+k) _ T h (fun t ht=>by
     rw[List.mem_append,List.mem_singleton]at ht;rcases ht with ht | rfl
     ·exact⟨(h0 t ht).1,by have:=(h0 t ht).2; omega⟩
     ·refine⟨hq,?_⟩;show(l.take k).toArray.size <=a+k;rw[List.size_toArray,List.length_take]; omega) (by rw[wab,List.length_singleton]; omega)
    exact⟨T1,e,e1,by rw[List.length_drop]at e2; omega,e3,e4⟩
theorem lex_tok{s:Bts}{T:List Tok}(h:zEW s= .ok T)(hs:s.size<=900000):TOk T/\0<T.length:=by
 unfold zEW at h;rw[zCO _ _ _ _ (Nat.zero_le _),List.drop_zero]at h;have hz:s.data.toList.length=s.size:=by rw[Array.length_toList]; rfl
 obtain⟨T1,e,rfl,h2,h3,h4⟩:=lxL_tok _ _ _ _ _ h (by simp) (Nat.zero_le _);rw[hz]at h2;refine⟨⟨by rw[wab,List.length_singleton]; omega,fun t ht=> ?_,fun a ha hk=> ?_⟩,by rw[wab,List.length_singleton]; omega⟩
 ·rw[List.mem_append,List.mem_singleton]at ht;rcases ht with ht | rfl
  ·have:=(h4 t ht).2; omega
  ·exact Nat.zero_le _
 ·rw[wab,List.length_singleton]at ha ⊢;rcases Nat.lt_or_ge a T1.length with h5 | h5
  ·omega
  ·exfalso;have:a=T1.length:=by omega
   subst this;apply hk;simp[tk]
theorem parse_g(Z:GP)(hZ:Z.Ok)(s:Bts)(hs:s.size<=900000):
  FnL prog 64 [.d (.lit (.string s))] [(7777777,Z.o)] (fun V ol new=>V=zHb s/\ol=[(7777777,Z.o)]/\new=[]):=by
 have hl:=lex_g Z s (by omega);by_cases h8:s.size>8000
 ·have hV:lexV s= .tup [.d (.sl []),.d (eI 0),.d (eI 2)]:=by unfold lexV; rw[if_pos h8]
  have hR:zAQ s=([],0,2):=by unfold zAQ; rw[if_pos h8]
  rw[hV]at hl;refine FnL.srt (FnL.of_eH 1999 [] (own:=[]) (fun i=>if i=2003 then [.flt ⟨[(0,none),(1,none),(2,none),(3,some [1,2]),(4,some [2]),(5,some [])]⟩ ⟨[],[]⟩]else []) [] zat func64 rfl call64 ntmps64 (zle rfl) results64 (zCw Z _ (by simp[AV.noRefs,AV.noRef])) (fun gs=> ?_));simp only[ZE,seval,KE]at hl;simp only[ZE,seval,KE,GZ,zFu,zEY,zAc,paB,paM,paO];refine EFn.gV [(7777777,7777777)] hl ?_ ?_
  ·simp only[ZE,seval,GZ,zFu,zEY,zAc,paB,paM,paO]
  rintro V ol new ⟨rfl,rfl,rfl⟩;simp only[ZE,seval,KE,GZ,zFu,zEY,zAc,paB,paM,paO];refine⟨by kernel_rfl,?_⟩;refine⟨[2,3,4,5,1999],[],?_⟩;simp only[ZE,seval,zHb.eq_1,hR,KE,zHH,zht,AV.core,wac,GZ,zFu,zEY,zAc,paB,paM,paO]
 cases hL:zEW s with
 | ok T=>
  obtain⟨h1,h2⟩:=lex_tok hL hs;exact parse_c Z hZ s (by omega) T hL h8 h1 h2
 | error a=>
  have hV:lexV s= .tup [.d (.sl []),.d (eI a),.d (eI 5)]:=by unfold lexV; rw[if_neg h8,hL]; rfl
  have hR:zAQ s=([],(a:Int),5):=by unfold zAQ; rw[if_neg h8,hL]
  rw[hV]at hl;refine FnL.srt (FnL.of_eH 1999 [] (own:=[]) (fun i=>if i=2003 then [.flt ⟨[(0,none),(1,none),(2,none),(3,some [1,2]),(4,some [2]),(5,some [])]⟩ ⟨[],[]⟩]else []) [] zat func64 rfl call64 ntmps64 (zle rfl) results64 (zCw Z _ (by simp[AV.noRefs,AV.noRef])) (fun gs=> ?_));simp only[ZE,seval,KE]at hl;simp only[ZE,seval,KE,GZ,zFu,zEY,zAc,paB,paM,paO];refine EFn.gV [(7777777,7777777)] hl ?_ ?_
  ·simp only[ZE,seval,GZ,zFu,zEY,zAc,paB,paM,paO]
  rintro V ol new ⟨rfl,rfl,rfl⟩;simp only[ZE,seval,KE,GZ,zFu,zEY,zAc,paB,paM,paO];refine⟨by kernel_rfl,?_⟩;refine⟨[2,3,4,5,1999],[],?_⟩;simp only[ZE,seval,zHb.eq_1,hR,KE,zHH,zht,AV.core,wac,GZ,zFu,zEY,zAc,paB,paM,paO]
set_option maxHeartbeats 4000000
theorem strings_r(l:List Bts):FnP prog 127 [eSbs l,eSbs l] (.d (eB true)) []:=by
 refine FnP.of_eC (own:=[]) (fun i=>if i=2006 then [.ord ⟨[(0,none),(1,none),(2,none),(3,none),(4,none),(5,none),(6,none),(7,none),(8,none)]⟩]else chL i) zat func127 rfl call127 ntmps127 (zle rfl) results127 (fun hok=> ?_);have hl:l.length<=maxLen:=by
  simp only[D.okL,D.ok,eSbs,waa]at hok;exact hok.1.1
 unfold maxLen at hl;simp only[ZE,seval,KE,bne_self_eq_false,beq_self_eq_true,decide_true,Bool.not_true,Bool.not_false,waa];refine za1 (fun i=>if i=2006 then [.ord ⟨[(0,none),(1,none),(2,none),(3,none),(4,none),(5,none),(6,none),(7,none),(8,none)]⟩]else chL i) zat l.length (fun _=>True) (fun i=>([(0,.d (eSbs l)),(1,.d (eSbs l)),(5,.d (eI i))],[])) trivial ?_ ?_ (fun i hi _=> ?_)
 ·simp only[ZE,seval,KE]
 ·simp only[ZE,seval,KE]
 by_cases h:i<l.length
 ·have e1:=zai h;have e2:(l.map fun s=>[eSb s]).getD i []=[eSb l[i]]:=zaa h [];have hw:=zaq (show i<9223372036854775807 by omega);obtain⟨x,hx⟩:=zX (l[i]);rw[hx]at e2;simp only[ZE,seval,KE]at e2;simp only[ZE,seval,zaw h,e1,e2,wal,hw,KE,bne_self_eq_false,beq_self_eq_true,decide_true,Bool.not_true,Bool.not_false,waa];exact⟨by kernel_rfl,h⟩
 ·have:i=l.length:=by omega
  subst this;simp only[ZE,seval,zaI (wan l.length),KE,bne_self_eq_false,beq_self_eq_true,decide_true,Bool.not_true,Bool.not_false,waa]
theorem zIF: ∀(n:Nat) (e:Expr),SizeOf.sizeOf e<n->FnP prog 184 [.agg (zbx e),.agg (zbx e)] (.d (eB true)) []
 | 0,_,h=>absurd h (Nat.not_lt_zero _)
 | n+1,.mk op nme k wd l,h=>by
  have ih: ∀x∈l,FnP prog 184 [.agg (zbx x),.agg (zbx x)] (.d (eB true)) []:=fun x hx=>zIF n x (by
   have:=List.sizeOf_lt_of_mem hx;simp only[Expr.mk.sizeOf_spec]at h;omega)
  rw[zb6];refine FnP.of_eC (own:=[]) (fun i=>if i=2006 then [.ord ⟨[(0,none),(1,none),(2,none),(3,none),(4,none),(5,none),(6,none),(7,none),(8,none),(9,none),(10,none),(11,none)]⟩]else chL i) zat func184 rfl call184 ntmps184 (zle rfl) results184 (fun hok=> ?_);have hl:l.length<=maxLen:=by
   simp only[D.okL,D.ok,Expr.args,eSb,eI,waa,true_and,and_true]at hok;exact hok.1.1
  unfold maxLen at hl;simp only[ZE,seval,KE,Expr.op,Expr.name,Expr.k,Expr.w,Expr.args,↓zA7,↓zA8,↓zA9,zBN.eq_1,zBI.eq_1,bne_self_eq_false,beq_self_eq_true,decide_true,Bool.not_true,Bool.not_false,waa];refine za1 (fun i=>if i=2006 then [.ord ⟨[(0,none),(1,none),(2,none),(3,none),(4,none),(5,none),(6,none),(7,none),(8,none),(9,none),(10,none),(11,none)]⟩]else chL i) zat l.length (fun _=>True) (fun i=>([(2,.bp 2 0),(3,.bp 3 0),(5,.d (eI i))],[(3,.box [.d (eI op),.d (eSb nme),.d (eI k.n),.d (eSb k.p),.d (eI wd.n),.d (eSb wd.p),.d (.sl (l.map zbx))]),(2,.box [.d (eI op),.d (eSb nme),.d (eI k.n),.d (eSb k.p),.d (eI wd.n),.d (eSb wd.p),.d (.sl (l.map zbx))])])) trivial ?_ ?_ (fun i hi _=> ?_)
  ·simp only[ZE,seval,KE]
  ·simp only[ZE,seval,KE]
  by_cases h2:i<l.length
  ·have e1:=zai h2;have e2:(l.map zbx).getD i []=zbx l[i]:=zaa h2 [];have hw:=zaq (show i<9223372036854775807 by omega);have hc:=ih _ (List.getElem_mem h2);obtain⟨x,hx⟩:=zX (l[i]);rw[hx]at e2 hc;rw[zb6]at e2 hc;simp only[ZE,seval,KE]at e2;simp only[ZE,seval,KE]at hc;simp only[ZE,seval,zaw h2,e1,e2,wal,hw,KE,bne_self_eq_false,beq_self_eq_true,decide_true,Bool.not_true,Bool.not_false,waa];refine⟨by kernel_rfl,zaz.i hc ?_⟩;simp only[ZE,seval,hw,KE,bne_self_eq_false,beq_self_eq_true,decide_true,Bool.not_true,Bool.not_false,waa];exact h2
  ·have:i=l.length:=by omega
   subst this;simp only[ZE,seval,zaI (wan l.length),KE,bne_self_eq_false,beq_self_eq_true,decide_true,Bool.not_true,Bool.not_false,waa]
theorem eItem_r(x:Item):zaK x=[eI x.kind,eSb x.name,eI x.width.n,eSb x.width.p,eI x.depth.n,eSb x.depth.p,eI x.init.n,eSb x.init.p,eI x.a.op,eSb x.a.name,eI x.a.k.n,eSb x.a.k.p,eI x.a.w.n,eSb x.a.w.p,.sl (x.a.args.map zbx),eI x.b.op,eSb x.b.name,eI x.b.k.n,eSb x.b.k.p,eI x.b.w.n,eSb x.b.w.p,.sl (x.b.args.map zbx),eI x.c.op,eSb x.c.name,eI x.c.k.n,eSb x.c.k.p,eI x.c.w.n,eSb x.c.w.p,.sl (x.c.args.map zbx),eI x.rule.kind,eSb x.rule.from',eI x.rule.n,eSb x.of,ziG x.args,zel x.ports]:=by
 unfold zaK;rw[zb6,zb6,zb6];rfl
theorem sameI_r(x:Item):FnP prog 128 [.agg (zaK x),.agg (zaK x)] (.d (eB true)) []:=by
 have ha:=zIF _ x.a (Nat.lt_succ_self _);have hb:=zIF _ x.b (Nat.lt_succ_self _);have hc:=zIF _ x.c (Nat.lt_succ_self _);rw[zb6]at ha hb hc;simp only[ZE,seval,KE]at ha;simp only[ZE,seval,KE]at hb;simp only[ZE,seval,KE]at hc;rw[eItem_r];refine FnP.of_eC (own:=[]) (fun i=>if i=2008 then [.ord ⟨[(0,none),(1,none),(2,none),(3,none),(4,none),(5,none),(6,none),(7,none),(8,none),(9,none),(10,none)]⟩]else if i=2013 then [.ord ⟨[(0,none),(1,none),(2,none),(3,none),(4,none),(5,none),(6,none),(7,none),(8,none),(9,none),(10,none)]⟩]else chL i) zat func128 rfl call128 ntmps128 (zle rfl) results128 (fun hok=> ?_);have hl:x.args.length<=maxLen/\x.ports.length<=maxLen:=by
  simp only[D.okL,D.ok,eSb,eI,ziG,zel,waa,true_and,and_true]at hok;exact⟨by simp_all,by simp_all⟩
 obtain⟨hl1,hl2⟩:=hl;unfold maxLen at hl1 hl2;simp only[ZE,seval,KE,↓zA7,↓zA8,↓zA9,zBN.eq_1,zBI.eq_1,bne_self_eq_false,beq_self_eq_true,decide_true,Bool.not_true,Bool.not_false,waa];refine za1 (fun i=>if i=2008 then [.ord ⟨[(0,none),(1,none),(2,none),(3,none),(4,none),(5,none),(6,none),(7,none),(8,none),(9,none),(10,none)]⟩]else if i=2013 then [.ord ⟨[(0,none),(1,none),(2,none),(3,none),(4,none),(5,none),(6,none),(7,none),(8,none),(9,none),(10,none)]⟩]else chL i) zat x.args.length (fun _=>True) (fun i=>([(2,.bp 2 0),(3,.bp 3 0),(5,.d (eI i))],[(3,.box [.d (eI x.kind),.d (eSb x.name),.d (eI x.width.n),.d (eSb x.width.p),.d (eI x.depth.n),.d (eSb x.depth.p),.d (eI x.init.n),.d (eSb x.init.p),.d (eI x.a.op),.d (eSb x.a.name),.d (eI x.a.k.n),.d (eSb x.a.k.p),.d (eI x.a.w.n),.d (eSb x.a.w.p),.d (.sl (x.a.args.map zbx)),.d (eI x.b.op),.d (eSb x.b.name),.d (eI x.b.k.n),.d (eSb x.b.k.p),.d (eI x.b.w.n),.d (eSb x.b.w.p),.d (.sl (x.b.args.map zbx)),.d (eI x.c.op),.d (eSb x.c.name),.d (eI x.c.k.n),.d (eSb x.c.k.p),.d (eI x.c.w.n),.d (eSb x.c.w.p),.d (.sl (x.c.args.map zbx)),.d (eI x.rule.kind),.d (eSb x.rule.from'),.d (eI x.rule.n),.d (eSb x.of),.d (ziG x.args),.d (zel x.ports)]),(2,.box [.d (eI x.kind),.d (eSb x.name),.d (eI x.width.n),.d (eSb x.width.p),.d (eI x.depth.n),.d (eSb x.depth.p),.d (eI x.init.n),.d (eSb x.init.p),.d (eI x.a.op),.d (eSb x.a.name),.d (eI x.a.k.n),.d (eSb x.a.k.p),.d (eI x.a.w.n),.d (eSb x.a.w.p),.d (.sl (x.a.args.map zbx)),.d (eI x.b.op),.d (eSb x.b.name),.d (eI x.b.k.n),.d (eSb x.b.k.p),.d (eI x.b.w.n),.d (eSb x.b.w.p),.d (.sl (x.b.args.map zbx)),.d (eI x.c.op),.d (eSb x.c.name),.d (eI x.c.k.n),.d (eSb x.c.k.p),.d (eI x.c.w.n),.d (eSb x.c.w.p),.d (.sl (x.c.args.map zbx)),.d (eI x.rule.kind),.d (eSb x.rule.from'),.d (eI x.rule.n),.d (eSb x.of),.d (ziG x.args),.d (zel x.ports)])])) trivial ?_ ?_ (fun i hi _=> ?_)
 ·simp only[ZE,seval,KE]
 ·simp only[ZE,seval,KE]
 by_cases h2:i<x.args.length
 ·have e1:=zai h2;have e2:(x.args.map zgL).getD i []=zgL x.args[i]:=zaa h2 [];have hw:=zaq (show i<9223372036854775807 by omega);obtain⟨y,hy⟩:=zX (x.args[i]);rw[hy]at e2;simp only[ZE,seval,KE]at e2;simp only[ZE,seval,zaw h2,e1,e2,wal,hw,KE,bne_self_eq_false,beq_self_eq_true,decide_true,Bool.not_true,Bool.not_false,waa];exact⟨by kernel_rfl,h2⟩
 have:i=x.args.length:=by omega
 subst this;simp only[ZE,seval,zaI (wan x.args.length),KE,bne_self_eq_false,beq_self_eq_true,decide_true,Bool.not_true,Bool.not_false,waa];refine za1 (fun i=>if i=2008 then [.ord ⟨[(0,none),(1,none),(2,none),(3,none),(4,none),(5,none),(6,none),(7,none),(8,none),(9,none),(10,none)]⟩]else if i=2013 then [.ord ⟨[(0,none),(1,none),(2,none),(3,none),(4,none),(5,none),(6,none),(7,none),(8,none),(9,none),(10,none)]⟩]else chL i) zat x.ports.length (fun _=>True) (fun i=>([(2,.bp 2 0),(3,.bp 3 0),(6,.d (eI i))],[(3,.box [.d (eI x.kind),.d (eSb x.name),.d (eI x.width.n),.d (eSb x.width.p),.d (eI x.depth.n),.d (eSb x.depth.p),.d (eI x.init.n),.d (eSb x.init.p),.d (eI x.a.op),.d (eSb x.a.name),.d (eI x.a.k.n),.d (eSb x.a.k.p),.d (eI x.a.w.n),.d (eSb x.a.w.p),.d (.sl (x.a.args.map zbx)),.d (eI x.b.op),.d (eSb x.b.name),.d (eI x.b.k.n),.d (eSb x.b.k.p),.d (eI x.b.w.n),.d (eSb x.b.w.p),.d (.sl (x.b.args.map zbx)),.d (eI x.c.op),.d (eSb x.c.name),.d (eI x.c.k.n),.d (eSb x.c.k.p),.d (eI x.c.w.n),.d (eSb x.c.w.p),.d (.sl (x.c.args.map zbx)),.d (eI x.rule.kind),.d (eSb x.rule.from'),.d (eI x.rule.n),.d (eSb x.of),.d (ziG x.args),.d (zel x.ports)]),(2,.box [.d (eI x.kind),.d (eSb x.name),.d (eI x.width.n),.d (eSb x.width.p),.d (eI x.depth.n),.d (eSb x.depth.p),.d (eI x.init.n),.d (eSb x.init.p),.d (eI x.a.op),.d (eSb x.a.name),.d (eI x.a.k.n),.d (eSb x.a.k.p),.d (eI x.a.w.n),.d (eSb x.a.w.p),.d (.sl (x.a.args.map zbx)),.d (eI x.b.op),.d (eSb x.b.name),.d (eI x.b.k.n),.d (eSb x.b.k.p),.d (eI x.b.w.n),.d (eSb x.b.w.p),.d (.sl (x.b.args.map zbx)),.d (eI x.c.op),.d (eSb x.c.name),.d (eI x.c.k.n),.d (eSb x.c.k.p),.d (eI x.c.w.n),.d (eSb x.c.w.p),.d (.sl (x.c.args.map zbx)),.d (eI x.rule.kind),.d (eSb x.rule.from'),.d (eI x.rule.n),.d (eSb x.of),.d (ziG x.args),.d (zel x.ports)])])) trivial ?_ ?_ (fun i hi _=> ?_)
 ·simp only[ZE,seval,KE]
 ·simp only[ZE,seval,KE]
 by_cases h2:i<x.ports.length
 ·have e1:=zai h2;have e2:(x.ports.map zjO).getD i []=zjO x.ports[i]:=zaa h2 [];have hw:=zaq (show i<9223372036854775807 by omega);obtain⟨y,hy⟩:=zX (x.ports[i]);rw[hy]at e2;simp only[ZE,seval,KE]at e2;simp only[ZE,seval,zaw h2,e1,e2,wal,hw,KE,bne_self_eq_false,beq_self_eq_true,decide_true,Bool.not_true,Bool.not_false,waa];exact⟨by kernel_rfl,h2⟩
 have:i=x.ports.length:=by omega
 subst this;simp only[ZE,seval,zaI (wan x.ports.length),KE,↓zA7,↓zA8,↓zA9,zBN.eq_1,zBI.eq_1,bne_self_eq_false,beq_self_eq_true,decide_true,Bool.not_true,Bool.not_false,waa];refine EFn.p ?_;simp only[ZE,seval,KE,↓zA7,↓zA8,↓zA9,zBN.eq_1,zBI.eq_1,bne_self_eq_false,beq_self_eq_true,decide_true,Bool.not_true,Bool.not_false,waa];refine zar.i (ha) ?_;simp only[ZE,seval,KE,↓zA7,↓zA8,↓zA9,zBN.eq_1,zBI.eq_1,bne_self_eq_false,beq_self_eq_true,decide_true,Bool.not_true,Bool.not_false,waa];refine za3.i (fun _=>hb) ?_;simp only[ZE,seval,KE,↓zA7,↓zA8,↓zA9,zBN.eq_1,zBI.eq_1,bne_self_eq_false,beq_self_eq_true,decide_true,Bool.not_true,Bool.not_false,waa];refine za3.i (fun _=>hc) ?_;simp only[ZE,seval,KE,↓zA7,↓zA8,↓zA9,zBN.eq_1,zBI.eq_1,bne_self_eq_false,beq_self_eq_true,decide_true,Bool.not_true,Bool.not_false,waa]
theorem sameM_r(m:Module):FnP prog 84 [.agg (zaC m),.agg (zaC m)] (.d (eB true)) []:=by
 have hs:=strings_r m.params;simp only[ZE,seval,KE]at hs;refine FnP.of_eC (own:=[]) (fun i=>if i=2006 then [.ord ⟨[(0,none),(1,none),(2,none),(3,none),(4,none),(5,none),(6,none),(7,none),(8,none),(9,none),(10,none),(11,none)]⟩]else chL i) zat func84 rfl call84 ntmps84 (zle rfl) results84 (fun hok=> ?_);have hl:m.items.length<=maxLen:=by
  simp only[D.okL,D.ok,zaC,eSbs,zbR,eSb,eI,waa,true_and,and_true]at hok;simp_all
 unfold maxLen at hl;simp only[ZE,seval,KE,↓zA7,↓zA8,↓zA9,zBN.eq_1,zBI.eq_1,bne_self_eq_false,beq_self_eq_true,decide_true,Bool.not_true,Bool.not_false,waa];refine za3.i (fun _=>hs) ?_;simp only[ZE,seval,KE,↓zA7,↓zA8,↓zA9,zBN.eq_1,zBI.eq_1,bne_self_eq_false,beq_self_eq_true,decide_true,Bool.not_true,Bool.not_false,waa];refine za1 (fun i=>if i=2006 then [.ord ⟨[(0,none),(1,none),(2,none),(3,none),(4,none),(5,none),(6,none),(7,none),(8,none),(9,none),(10,none),(11,none)]⟩]else chL i) zat m.items.length (fun _=>True) (fun i=>([(2,.bp 2 0),(3,.bp 3 0),(5,.d (eI i))],[(3,.box [.d (eSb m.name),.d (eSb m.clock),.d (eSbs m.params),.d (zbR m.items)]),(2,.box [.d (eSb m.name),.d (eSb m.clock),.d (eSbs m.params),.d (zbR m.items)])])) trivial ?_ ?_ (fun i hi _=> ?_)
 ·simp only[ZE,seval,KE]
 ·simp only[ZE,seval,KE]
 by_cases h2:i<m.items.length
 ·have e1:=zai h2;have e2:(m.items.map zaK).getD i []=zaK m.items[i]:=zaa h2 [];have hw:=zaq (show i<9223372036854775807 by omega);have hc:=sameI_r m.items[i];obtain⟨y,hy⟩:=zX (m.items[i]);rw[hy]at e2 hc;rw[eItem_r]at e2 hc;simp only[ZE,seval,KE]at e2;simp only[ZE,seval,KE]at hc;simp only[ZE,seval,zaw h2,e1,e2,wal,hw,KE,bne_self_eq_false,beq_self_eq_true,decide_true,Bool.not_true,Bool.not_false,waa];refine⟨by kernel_rfl,zaz.i hc ?_⟩;simp only[ZE,seval,hw,KE,bne_self_eq_false,beq_self_eq_true,decide_true,Bool.not_true,Bool.not_false,waa];exact h2
 ·have:i=m.items.length:=by omega
  subst this;simp only[ZE,seval,zaI (wan m.items.length),KE,bne_self_eq_false,beq_self_eq_true,decide_true,Bool.not_true,Bool.not_false,waa]
theorem same_r(l:List Module):FnP prog 52 [.agg [zax l],.agg [zax l]] (.d (eB true)) []:=by
 refine FnP.of_eC (own:=[]) (fun i=>if i=2006 then [.ord ⟨[(0,none),(1,none),(2,none),(3,none),(4,none),(5,none),(6,none),(7,none),(8,none),(9,none),(10,none),(11,none)]⟩]else chL i) zat func52 rfl call52 ntmps52 (zle rfl) results52 (fun hok=> ?_);have hl:l.length<=maxLen:=by
  simp only[D.okL,D.ok,zax,waa,true_and,and_true]at hok;simp_all
 unfold maxLen at hl;simp only[ZE,seval,KE,↓zA7,↓zA8,↓zA9,zBN.eq_1,zBI.eq_1,bne_self_eq_false,beq_self_eq_true,decide_true,Bool.not_true,Bool.not_false,waa];refine za1 (fun i=>if i=2006 then [.ord ⟨[(0,none),(1,none),(2,none),(3,none),(4,none),(5,none),(6,none),(7,none),(8,none),(9,none),(10,none),(11,none)]⟩]else chL i) zat l.length (fun _=>True) (fun i=>([(2,.bp 2 0),(3,.bp 3 0),(5,.d (eI i))],[(3,.box [.d (zax l)]),(2,.box [.d (zax l)])])) trivial ?_ ?_ (fun i hi _=> ?_)
 ·simp only[ZE,seval,KE]
 ·simp only[ZE,seval,KE]
 by_cases h2:i<l.length
 ·have e1:=zai h2;have e2:(l.map zaC).getD i []=zaC l[i]:=zaa h2 [];have hw:=zaq (show i<9223372036854775807 by omega);have hc:=sameM_r l[i];obtain⟨y,hy⟩:=zX (l[i]);rw[hy]at e2 hc;simp only[ZE,seval,KE]at e2;simp only[ZE,seval,KE]at hc;simp only[ZE,seval,zaw h2,e1,e2,wal,hw,KE,bne_self_eq_false,beq_self_eq_true,decide_true,Bool.not_true,Bool.not_false,waa];refine⟨by kernel_rfl,zaz.i hc ?_⟩;simp only[ZE,seval,hw,KE,bne_self_eq_false,beq_self_eq_true,decide_true,Bool.not_true,Bool.not_false,waa];exact h2
 ·have:i=l.length:=by omega
  subst this;simp only[ZE,seval,zaI (wan l.length),KE,bne_self_eq_false,beq_self_eq_true,decide_true,Bool.not_true,Bool.not_false,waa]
structure Lo {α:Type} (i a c:Nat) (r r':PR α):Prop where
 ok: ∀x b,r= .ok (x,b)->c<=b
 er: ∀j,r= .error j->a<=j
 same: ∀x b,r= .ok (x,b)->b<=i->r'= .ok (x,b)
 err:r= .error i->r'= .error i
section
variable {α β:Type} {i a c:Nat}
theorem zA2{r r':PR α}{a' c':Nat}(h:Lo i a c r r')(ha:a'<=a)(hc:c'<=c):Lo i a' c' r r':=
 ⟨fun x b e=>wam hc (h.ok x b e),fun j e=>wam ha (h.er j e),h.same,h.err⟩
end
def Ag(T T':List Tok)(i:Nat):Prop:= ∀j,j<=i->(tk T j).1 =(tk T' j).1 /\(tk T j).2.1 =(tk T' j).2.1
section
variable {T T':List Tok} {i:Nat} (hA:Ag T T' i)
include hA
def Rl(i:Nat){α:Type}(r r':Nat->PR α):Prop:= ∀a,Lo i a (a+1) (r a) (r' a)
omit hA in
theorem Rl.b{α:Type}{r r':Nat->PR α}(h:Rl i r r')(b:Nat):Lo i b b (r b) (r' b):=zA2 (h b) (wan _) (by omega)
def ruleK(o:Option Nat)(T:List Tok)(a:Nat):PR Rule:=
 match o with
 | some 2=>(zBE T (a+1)).bd fun s b=>.ok (⟨2,s,0⟩,b)
 | some 3=>(zBE T (a+1)).bd fun s b=>(zAZ T 0 b).bd fun n c=>.ok (⟨3,s,n⟩,c)
 | some k=>.ok (⟨k,e0,0⟩,a+1)
 | none=>.error a
def itemK'(o:Option Nat)(T:List Tok)(a:Nat):PR Item:=
 match o with
 | some k=>(zHh k T (a+1)).bd fun x b=>(zBx T (⟨#[59]⟩:ByteArray) b).bd fun _ c=>.ok (x,c)
 | none=>.error a
end
end Go.Proofs.YtplfjjgkbnolhaaGreatDoor
