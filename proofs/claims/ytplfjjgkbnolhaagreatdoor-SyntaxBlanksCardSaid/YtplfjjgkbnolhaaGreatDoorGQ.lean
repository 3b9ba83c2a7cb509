/- Machinery. Conditions: those of each. -/
import Derived.Test.YtplfjjgkbnolhaaGreatDoorGM
import Derived.Maps.Keyed
set_option linter.unusedSimpArgs false
set_option linter.unusedVariables false
/-
 THE OPERATIONS THAT READ AND MAKE, ON ABSTRACT STATES: 'qsem' says, for an operation whose operands stand for these abstract values, under which condition it goes through, what its value stands for, and which own object it makes.
 Conditions: none; definitions over any program.
-/
namespace Go.Aw
open Go.RowKit

def lay(P:Program)(t:TypeId):Option (Bool×Nat):=
 match P.underlying t,P.info? t with
 | some (.struct _),some i | some (.array _ _),some i=>some (true,i.size)
 | some _,some i=>some (false,i.size)
 | _,_=>none
def zah(P:Program)(t:TypeId)(f:Nat):Option (Nat×Bool×Nat):=
 match P.underlying t with
 | some (.struct fs)=>match fs[f]? with
  | some fd=>(lay P fd.type).map fun p=>(fd.offset,p.1,p.2)
  | none=>none
 | _=>none
def za0(P:Program)(t:TypeId):Option (TypeId×Bool×Nat):=
 match P.underlying t with
 | some (.slice e)=>(lay P e).map fun p=>(e,p.1,p.2)
 | _=>none
def zcN(P:Program)(t:TypeId):Option (Nat×Bool×Nat):=
 match P.underlying t with
 | some (.array n e)=>(lay P e).map fun p=>(n,p.1,p.2)
 | _=>none
def zad(P:Program)(t:TypeId):Option (List Value):=
 match P.info? t with
 | some i=>i.zero.map fun z=>z.cells.toList
 | none=>none

def zwy:List AV->Option (List D)
 | []=>some []
 | .d x::r=>(zwy r).map (x:: ·)
 | _::_=>none
def zu0(cs:List AV):AV:=match zwy cs with | some ds=>.d (.agg ds) | none=>.agg cs
def zdB(v:Value):AV:=match v with | .slice none 0 0=>.nils | v=>.d (.lit v)
def zjM(v:Value):AV:=match v with | .agg cs=>zu0 (cs.toList.map zdB) | .slice none 0 0=>.nils | .tuple _=>.dead | v=>.d (.lit v)
def D.one:D->Prop
 | .lit v=>v.oneCell'=true
 | .agg _=>False
 | _=>True
def AV.one(O:zbI):AV->Prop
 | .d x=>x.one
 | .nils =>True
 | .emp =>True
 | .ar id m=>match O id with | some (.arr _ _ _ es)=>m=es.length | _=>False
 | .ep id m _ _=>match O id with | some (.arr _ _ _ es)=>m=es.length | _=>False
 | .bp id _=>match O id with | some (.box _)=>True | _=>False
 | .mo id=>match O id with | some (.map ..)=>True | some (.it ..)=>True | _=>False
 | .clo .. =>True
 | .yv id=>match O id with | some (.ext ..)=>True | _=>False
 | .agg _ | .tup _ | .dead | .und | .sub .. =>False
def cellsOf(ag:Bool)(x:AV):Option (List AV):=if ag then(match x with | .d (.agg ds)=>some (ds.map .d) | .agg cs=>some cs | _=>none)else some [x]
def ones(O:zbI):List AV->Prop
 | []=>True
 | x::xs=>x.one O/\ones O xs

def St.ev(tmps:Nat->AV):Operand->AV
 | .tmp t=>tmps t
 | .const v=>zjM v
 | .global g=>.d (.lit (.pointer (some ⟨g,0,none⟩)))
 | .func f=>.d (.clo (.func f) [] [])

def zmJ(op:BinOp)(a b:Value):Option (Prop×Value):=
 match op,a,b with
 | .shl,.int k x,.int _ y=>some (0<=y,.int k (k.wrap (x*2 ^ (min y.toNat k.bits))))
 | .shr,.int k x,.int _ y=>some (0<=y,.int k (x.fdiv (2 ^ (min y.toNat k.bits))))
 | .add,.int k x,.int j y=>some (k=j,.int k (k.wrap (x+y)))
 | .sub,.int k x,.int j y=>some (k=j,.int k (k.wrap (x-y)))
 | .mul,.int k x,.int j y=>some (k=j,.int k (k.wrap (x*y)))
 | .quo,.int k x,.int j y=>some (k=j/\y≠0,.int k (k.wrap (x.tdiv y)))
 | .rem,.int k x,.int j y=>some (k=j/\y≠0,.int k (x.tmod y))
 | .and,.int k x,.int j y=>some (k=j,.int k (k.wrap (BitVec.ofInt k.bits x&&& BitVec.ofInt k.bits y).toNat))
 | .or,.int k x,.int j y=>some (k=j,.int k (k.wrap (BitVec.ofInt k.bits x||| BitVec.ofInt k.bits y).toNat))
 | .xor,.int k x,.int j y=>some (k=j,.int k (k.wrap (BitVec.ofInt k.bits x ^^^ BitVec.ofInt k.bits y).toNat))
 | .andNot,.int k x,.int j y=>some (k=j,.int k (k.wrap (BitVec.ofInt k.bits x&&& ~~~(BitVec.ofInt k.bits y)).toNat))
 | .eql,.int k x,.int j y=>some (k=j,.bool (x==y))
 | .neq,.int k x,.int j y=>some (k=j,.bool (x !=y))
 | .lss,.int k x,.int j y=>some (k=j,.bool (x<y))
 | .leq,.int k x,.int j y=>some (k=j,.bool (x<=y))
 | .gtr,.int k x,.int j y=>some (k=j,.bool (x>y))
 | .geq,.int k x,.int j y=>some (k=j,.bool (x>=y))
 | .eql,.string x,.string y=>some (True,.bool (x.toList==y.toList))
 | .neq,.string x,.string y=>some (True,.bool !(x.toList==y.toList))
 | .lss,.string x,.string y=>some (True,.bool (Op.bytesLess x.toList y.toList))
 | .leq,.string x,.string y=>some (True,.bool (Op.bytesLess x.toList y.toList||x.toList==y.toList))
 | .gtr,.string x,.string y=>some (True,.bool !(Op.bytesLess x.toList y.toList||x.toList==y.toList))
 | .geq,.string x,.string y=>some (True,.bool !(Op.bytesLess x.toList y.toList))
 | .add,.string x,.string y=>some (((x.size+y.size:Nat):Int)<=IntKind.i64.max,.string (x++y))
 | _,_,_=>none
def litUn(op:UnOp)(a:Value):Option Value:=
 match op,a with
 | .not,.bool b=>some (.bool !b)
 | .neg,.int k n=>some (.int k (k.wrap (0-n)))
 | _,_=>none

def zuT(P:Program)(t:TypeId):Option Nat:=
 match lay P t with
 | some (false,1)=>match P.underlying t with
  | some (.int _)=>some 0
  | some .bool =>some 1
  | some .string =>some 2
  | _=>none
 | _=>none
def eqTags(P:Program):Nat->List Field->Option (List Nat)
 | _,[]=>some []
 | i, f :: fs => if f.name ≠ "_" ∧ f.offset = i then (match zuT P f.type, eqTags P (i + 1) fs with | some g, some gs => some (g :: gs) | _, _ => none) else none
def zqc(P:Program):Nat->List Field->Option (List Nat)
 | _,[]=>some []
 | i, f :: fs => if f.name ≠ "_" ∧ f.offset = i then (match zuT P f.type with
  | some g=>match zqc P (i+1) fs with | some gs=>some (g::gs) | none=>none
  | none=>match P.underlying f.type,lay P f.type with
   | some (.struct fs'),some (true,n)=>if P.stoodInHeld f.type=false then(match eqTags P 0 fs'.toList,zqc P (i+n) fs with
    | some gs',some gs=>if gs'.length=n then some (gs'++gs)else none
    | _,_=>none)else none
   | _,_=>none)else none
def zdE(P:Program)(t:TypeId):Option (List Nat):=
 match P.underlying t with
 | some (.struct fs)=>if P.eqGuardType P.depth t=false/\P.stoodInHeld t=false then zqc P 0 fs.toList else none
 | some (.array n e)=>if P.eqGuardType P.depth t=false then(zuT P e).map (List.replicate n ·)else none
 | _=>none
def litEq(g:Nat)(a b:Value):Option Bool:=
 match g,a,b with
 | 0,.int k x,.int j y=>if k=j then some (x==y)else none
 | 1,.bool x,.bool y=>some (x==y)
 | 2,.string x,.string y=>some (x.toList==y.toList)
 | _,_,_=>none
def zfJ:List Nat->List D->List D->Option Bool
 | [],[],[]=>some true
 | g::gs,.lit a::xs,.lit b::ys=>match litEq g a b,zfJ gs xs ys with
  | some p,some q=>some (p&&q)
  | _,_=>none
 | _,_,_=>none

def zag(P:Program)(t:TypeId)(i:Nat):Option (Nat×Bool×Nat):=
 match P.underlying t with
 | some (.array _ e)=>(lay P e).map fun p=>(i*p.2,p.1,p.2)
 | _=>zah P t i
def zaB(P:Program)(t:TypeId):Bool:=
 match P.underlying t with
 | some (.struct fs)=>fs.toList.all fun f=>(P.info? f.type).isSome
 | some (.array _ e)=>(P.info? e).isSome
 | _=>false
def zod(pl:Nat->Option (Nat×Bool×Nat))(ρ:Operand->AV)(O:zbI):List (Nat×Operand)->List AV->Option (Prop×List AV)
 | [],cs=>some (True,cs)
 | (i,x)::rest,cs=>match pl i with
  | some (o,ag,n)=>match cellsOf ag (ρ x)with
   | some xs=>if xs.length=n/\o+n<=cs.length then(zod pl ρ O rest (cs.take o++xs++cs.drop (o+n))).map fun r=>(ones O xs/\r.1,r.2)else none
   | none=>none
  | none=>none

def zgx:List D->Option (List Value)
 | []=>some []
 | .lit v::r=>(zgx r).map (v:: ·)
 | _::_=>none
def D.valOf:D->Option Value
 | .lit (.agg _)=>none
 | .lit v=>some v
 | .agg cs=>(zgx cs).map fun vs=>.agg vs.toArray
 | _=>none
def zd3(P:Program)(kt:TypeId)(d:D):Prop:= ∃v l,d.valOf=some v/\keyOf P kt v=some l
abbrev zj0(P:Program)(kt:TypeId):Prop:=Go.Maps.Keyed P kt
noncomputable def zeN(ks:List D)(k:D):Nat:=by classical exact ks.findIdx fun x=>decide (x=k)
noncomputable def zjZ(ks vs:List D)(k:D):Option D:=if zeN ks k<ks.length then vs[zeN ks k]? else none
def mapOf(O:zbI):AV->Option (List D×List D)
 | .d (.mp ks vs _ _)=>some (ks,vs)
 | .mo id=>match O id with
  | some (.map ks vs _ _)=>some (ks,vs)
  | _=>none
 | _=>none
def cellD(v:Value):D:=match v with | .slice none 0 0=>.sl [] | v=>.lit v
def valD(v:Value):D:=match v with | .agg cs=>.agg (cs.toList.map cellD) | v=>cellD v
def zrA(P:Program)(t:TypeId):Option D:=
 match P.info? t with
 | some i=>i.zero.map valD
 | none=>none
def mkClo(f:Fn)(fs cs:List AV):AV:=match zwy fs,zwy cs with | some a,some b=>.d (.clo f a b) | _,_=>.clo f fs cs
def intO(ρ:Operand->AV):Option Operand->Option (Option Int)
 | none=>some none
 | some x=>match ρ x with
  | .d (.lit (.int _ n))=>some (some n)
  | _=>none

def numD:List D->Int
 | [.lit (.int _ n)]=>n
 | _=>0
def byteD(x:List D):UInt8:=UInt8.ofNat (numD x).toNat
def bytesD(es:List (List D)):ByteArray:=⟨(es.map byteD).toArray⟩
def gloR(g:Nat):List AV->List Value->Option (List D)
 | .d (.ptr ds)::cs,.pointer (some ⟨b,0,none⟩)::vs=>if b=g then some ds else gloR g cs vs
 | _::cs,_::vs=>gloR g cs vs
 | _,_=>none
abbrev Made:=Option AO
def ifcE(P:Program)(t:TypeId)(op:BinOp)(y:Operand)(b:Bool):Option (Prop×AV×Made):=
 match P.underlying t,op,y with
 | some (.interface _),.eql,.const _=>some (True,.d (.lit (.bool b)),none)
 | some (.interface _),.neq,.const _=>some (True,.d (.lit (.bool !b)),none)
 | _,_,_=>none
noncomputable def zeu(P:Program)(dst:Nat)(ρ:Operand->AV)(O:zbI):Op->Option (Prop×AV×Made)
 | .move x | .assign x=>some (True,ρ x,none)
 | .pick c a b=>match ρ c with
  | .d (.lit (.bool t))=>some (True,cond t (ρ a) (ρ b),none)
  | _=>none
 | .load t a=>match lay P t with
  | some (ag,n)=>match ρ a with
   | .d (.ptr cs)=>if ag then some (n<=cs.length,.d (.agg (cs.take n)),none)else some (cs.length≠0,.d (cs.headD default),none)
   | .d (.lit (.pointer (some ⟨g,0,none⟩)))=>match O 7777777 with
    | some (.gh cs vs)=>match gloR g cs vs with
     | some ds=>if ag then some (n<=ds.length,.d (.agg (ds.take n)),none)else some (ds.length≠0,.d (ds.headD default),none)
     | none=>none
    | _=>none
   | .bp id off=>match O id with
    | some (.box cs)=>if ag then some (off+n<=cs.length,zu0 ((cs.drop off).take n),none)else some (off<cs.length,(cs.drop off).headD .dead,none)
    | _=>none
   | .ep id m i off=>match O id with
    | some (.arr _ k .flat es)=>if ag then some (m=es.length/\i<es.length/\off+n<=k,.d (.agg (((es.getD i []).drop off).take n)),none)
      else some (m=es.length/\i<es.length/\off<k,.d (((es.getD i []).drop off).headD default),none)
    | some (.arr _ k (.deep _ hs) es)=>if ag then none else match hs.lookup (i*k+off)with
     | some y=>some (m=es.length/\i<es.length/\off<k,y,none)
     | none=>none
    | _=>none
   | _=>none
  | none=>none
 | .nilCheck x=>match ρ x with
  | .d (.ptr cs)=>some (True,.d (.ptr cs),none)
  | .bp id off=>match O id with | some (.box _)=>some (True,.bp id off,none) | _=>none
  | .ep id m i off=>match O id with | some (.arr _ _ _ es)=>some (m=es.length,.ep id m i off,none) | _=>none
  | .d (.clo (.func f) a b)=>some (True,.d (.clo (.func f) a b),none)
  | _=>none
 | .binOp op t x y _=>match ρ x,ρ y with
  | .d (.lit (.bool a)),.d (.lit (.bool b))=>match P.underlying t,op with
   | some .bool,.eql =>some (True,.d (.lit (.bool (a==b))),none)
   | some .bool,.neq =>some (True,.d (.lit (.bool !(a==b))),none)
   | _,_=>none
  | .d (.lit .nilIface),.d (.lit .nilIface)=>ifcE P t op y true
  | .d (.ifc _ _),.d (.lit .nilIface)=>ifcE P t op y false
  | .d (.lit a),.d (.lit b)=>(zmJ op a b).map fun r=>(r.1,.d (.lit r.2),none)
  | .d (.agg xs),.d (.agg ys)=>match zdE P t,op with
   | some gs,.eql =>(zfJ gs xs ys).map fun r=>(True,.d (.lit (.bool r)),none)
   | some gs,.neq =>(zfJ gs xs ys).map fun r=>(True,.d (.lit (.bool !r)),none)
   | _,_=>none
  | _,_=>none
 | .unOp op _ x=>match ρ x with
  | .d (.lit a)=>(litUn op a).map fun r=>(True,.d (.lit r),none)
  | _=>none
 | .makeInterface t x=>match P.underlying t,ρ x with
  | some (.int _),.d d=>some (True,.d (.ifc t d),none)
  | _,_=>none
 | .convert s t x=>match P.underlying s,P.underlying t,ρ x with
  | some _,some (.int k),.d (.lit (.int _ n))=>some (True,.d (.lit (.int k (k.wrap n))),none)
  | some _,some .string,.d (.lit (.string b))=>some (True,.d (.lit (.string b)),none)
  | some (.slice e),some .string,.d (.sl es)=>match P.underlying e with
   | some (.int .u8)=>some (∀x∈es,∃n,x=[.lit (.int .u8 n)],.d (.lit (.string (bytesD es))),none)
   | _=>none
  | _,_,_=>none
 | .fieldAddr s x f=>match zah P s f with
  | some (o,_,_+1)=>match ρ x with
   | .d (.ptr cs)=>some (True,.d (.ptr (cs.drop o)),none)
   | .bp id off=>match O id with | some (.box _)=>some (True,.bp id (off+o),none) | _=>none
   | .ep id m i off=>match O id with | some (.arr _ _ _ es)=>some (m=es.length,.ep id m i (off+o),none) | _=>none
   | _=>none
  | _=>none
 | .field s x f=>match zah P s f with
  | some (o,ag,n)=>match ρ x with
   | .d (.agg cs)=>if ag then some (True,.d (.agg ((cs.drop o).take n)),none)else some (o<cs.length,.d ((cs.drop o).headD default),none)
   | .agg cs=>if ag then some (True,zu0 ((cs.drop o).take n),none)else some (o<cs.length,(cs.drop o).headD .dead,none)
   | _=>none
  | _=>none
 | .indexAddr t x i=>match ρ i with
  | .d (.lit (.int _ j))=>match za0 P t with
   | some (_,_,n)=>match ρ x with
    | .d (.sl es)=>some ((0<=j/\j<es.length)/\(es.getD j.toNat []).length =n,.d (.ptr (es.getD j.toNat [])),none)
    | .ar id m=>match O id with | some (.arr _ k _ es)=>some ((m=es.length/\0<=j/\j<es.length)/\k=n,.ep id m j.toNat 0,none) | _=>none
    | .sub id m lo hi=>match O id with | some (.arr _ k _ es)=>some ((m=es.length/\(0<=j/\j<(hi-lo:Nat))/\hi<=es.length)/\k=n,.ep id m (lo+j.toNat) 0,none) | _=>none
    | _=>none
   | none=>match zcN P t with
    | some (len,_,n)=>match ρ x with
     | .d (.ptr cs)=>some (0<=j/\j<len,.d (.ptr (cs.drop (j.toNat*n))),none)
     | .bp id off=>match O id with | some (.box _)=>some (0<=j/\j<len,.bp id (off+j.toNat*n),none) | _=>none
     | _=>none
    | none=>none
  | _=>none
 | .index t x i=>match ρ i with
  | .d (.lit (.int _ j))=>match P.underlying t,ρ x with
   | some .string,.d (.lit (.string s))=>some (0<=j/\j<s.size,.d (.lit (.int .u8 (s.data.getD j.toNat 0).toNat)),none)
   | some (.array n e),.d (.agg ds)=>match lay P e with
    | some (false,1)=>some ((0<=j/\j<n)/\ds.length=n,.d (ds.getD j.toNat default),none)
    | _=>none
   | _,_=>none
  | _=>none
 | .extract x i=>match ρ x with
  | .tup vs=>some (i<vs.length,vs.getD i .dead,none)
  | _=>none
 | .build t parts=>match zad P t,zaB P t with
  | some z,true=>(zod (zag P t) ρ O parts.toList (z.map zdB)).map fun r=>(r.1,zu0 r.2,none)
  | _,_=>none
 | .alloc t=>(zad P t).map fun z=>(True,.bp dst 0,some (.box (z.map zdB)))
 | .box t x=>match lay P t with
  | some (ag,_)=>match cellsOf ag (ρ x)with
   | some cs=>some (ones O cs,.bp dst 0,some (.box cs))
   | none=>none
  | none=>none
 | .makeFunc f fs cs=>some (True,mkClo f (fs.toList.map ρ) (cs.toList.map ρ),none)
 | .entry it=>match ρ it with
  | .mo id=>match O id with
   | some (.it ks vs _ _ seen)=>match seen.getLast? with
    | some j=>some (True,.tup [.d (ks.getD j default),.d (vs.getD j default)],none)
    | none=>none
   | _=>none
  | _=>none
 | .lookup t m x ok=>match P.underlying t with
  | some (.map kt et)=>match zrA P et with
   | some z=>match mapOf O (ρ m),ρ x with
    | some (ks,vs),.d k=>some (zj0 P kt/\zd3 P kt k/\ ∀y∈ks,zd3 P kt y,if ok then .tup [.d ((zjZ ks vs k).getD z),.d (.lit (.bool (zjZ ks vs k).isSome))]else .d ((zjZ ks vs k).getD z),none)
    | _,_=>none
   | none=>none
  | _=>none
 | .slice t x lo hi mx=>match za0 P t,ρ x with
  | some (_,_,n),.d (.sl es)=>match intO ρ lo,intO ρ hi,intO ρ mx with
   | some l,some h,some m=>some ((∀e∈es,e.length=n)/\0<=l.getD 0/\l.getD 0<=h.getD es.length/\h.getD es.length<=m.getD es.length/\m.getD es.length<=es.length/\(m.isSome=true->h.isSome=true),.d (.sl ((es.drop (l.getD 0).toNat).take ((h.getD es.length).toNat -(l.getD 0).toNat))),none)
   | _,_,_=>none
  | some (_,_,n),.ar id m=>match O id,intO ρ lo,intO ρ hi,mx with
   | some (.arr _ k _ es),some l,some h,none=>some ((m=es.length/\0<es.length/\k=n)/\0<=l.getD 0/\l.getD 0<=h.getD es.length/\h.getD es.length<=es.length,.sub id m (l.getD 0).toNat (h.getD es.length).toNat,none)
   | _,_,_,_=>none
  | none,.d (.lit (.string s))=>match P.underlying t,intO ρ lo,intO ρ hi,mx with
   | some .string,some l,some h,none=>some (0<=l.getD 0/\l.getD 0<=h.getD s.size/\h.getD s.size<=s.size,.d (.lit (.string (s.extract (l.getD 0).toNat (h.getD s.size).toNat))),none)
   | _,_,_,_=>none
  | _,_=>none
 | .call {callee:=.builtin .min,args,argTypes}=>match args.toList,argTypes.toList with
  | [x,y],[t,_]=>match P.underlying t,ρ x,ρ y with
   | some (.int _),.d (.lit (.int k a)),.d (.lit (.int j b))=>some (k=j,.d (.lit (.int k (if b<a then b else a))),none)
   | _,_,_=>none
  | _,_=>none
 | .call {callee:=.builtin .max,args,argTypes}=>match args.toList,argTypes.toList with
  | [x,y],[t,_]=>match P.underlying t,ρ x,ρ y with
   | some (.int _),.d (.lit (.int k a)),.d (.lit (.int j b))=>some (k=j,.d (.lit (.int k (if b>a then b else a))),none)
   | _,_,_=>none
  | _,_=>none
 | .call {callee:=.builtin .len,args,argTypes}=>match argTypes[0]?,args[0]? with
  | some t,some x=>match P.underlying t,ρ x with
   | some .string,.d (.lit (.string s))=>some (True,.d (.lit (goInt s.size)),none)
   | some (.slice _),.d (.sl es)=>some (True,.d (.lit (goInt es.length)),none)
   | some (.slice _),.nils =>some (True,.d (.lit (goInt 0)),none)
   | some (.slice _),.emp =>some (True,.d (.lit (goInt 0)),none)
   | some (.slice _),.ar id m=>match O id with | some (.arr _ _ _ es)=>some (m=es.length,.d (.lit (goInt es.length)),none) | _=>none
   | some (.slice _),.sub id m lo hi=>match O id with | some (.arr _ _ _ es)=>some (m=es.length,.d (.lit (goInt ((hi-lo:Nat):Int))),none) | _=>none
   | some (.map _ _),.mo id=>match O id with | some (.map ks _ _ _)=>some (True,.d (.lit (goInt ks.length)),none) | _=>none
   | some (.map _ _),.d (.mp ks _ _ _)=>some (True,.d (.lit (goInt ks.length)),none)
   | _,_=>none
  | _,_=>none
 | _=>none
end Go.Aw
