/- Contracts and laws. Conditions: those of each. -/
import Derived.Test.YtplfjjgkbnolhaaGreatDoorGD
import Derived.Test.YtplfjjgkbnolhaaGreatDoorGO
import Derived.Test.YtplfjjgkbnolhaaGreatDoorProg
import Derived.Test.YtplfjjgkbnolhaaGreatDoorGOr
import Derived.Test.YtplfjjgkbnolhaaGreatDoorGRb
import Derived.Test.YtplfjjgkbnolhaaGreatDoorGFp
import Derived.Test.YtplfjjgkbnolhaaGreatDoorGGh
import Derived.Test.YtplfjjgkbnolhaaGreatDoorGMs
import Derived.Test.YtplfjjgkbnolhaaGreatDoorGRw
import Derived.Shelf.Strings.Builder1
import Derived.Shelf.Strings.Builder2
import Derived.Shelf.Strings.OnBuilder
import Derived.Shelf.Small.Strs
import Derived.Shelf.Strings.BuilderF
import Derived.Shelf.Strings.BuilderK
import Derived.Shelf.Strings.Builder2Cap
import Derived.Shelf.Strconv.Atoi
import Derived.Shelf.Strconv.Itoa0
import Derived.Shelf.Strconv.Itoa1
import Derived.Shelf.LaysM
import Derived.Shelf.Strconv.Itoa2
import Derived.Shelf.Strconv.Itoa3
import Derived.Shelf.Strconv.AtoiErrFast
import Derived.Shelf.Strconv.ParseIntEmpty
import Derived.Shelf.Strconv.AtoiFail
import Derived.Shelf.Strconv.Clone
import Derived.Shelf.Strconv.SyntaxError
import Derived.Shelf.LaysC
import Derived.Shelf.Strconv.ToError
import Derived.Shelf.Strconv.Lower
import Derived.Shelf.Strconv.ParseUint10
import Derived.Shelf.Strconv.ParseUint10Empty
import Derived.Shelf.Strconv.ParseUint10Any
import Derived.Shelf.Strconv.ParseInt10
import Derived.Shelf.Strconv.AtoiLong
import Derived.Shelf.Strconv.AtoiInnerAll
import Derived.Shelf.Strconv.RangeError
import Derived.Shelf.Strconv.ToErrorRange
import Derived.Shelf.Strconv.AtoiAll
import Derived.Shelf.Strconv.ParseUintEmpty
import Derived.Shelf.Strconv.ParseUint10b64
import Derived.Shelf.Strconv.ParseUint10b32
import Derived.Shelf.Strconv.ParseUint10b16
import Derived.Shelf.Strconv.ParseUint10b8
import Derived.Shelf.Strings.Search1
import Derived.Shelf.Strings.Prefix
import Derived.Lib.ItoaNum
import Derived.Lib.AtoiErrMem
import Derived.Lib.AppendIntMem
import Derived.Lib.IndexLaws
import Derived.Test.YtplfjjgkbnolhaaGreatDoorGGx
import Derived.Lib.AtoiAllCases
import Derived.Test.YtplfjjgkbnolhaaGreatDoorGBd
import Derived.Test.YtplfjjgkbnolhaaGreatDoorGGk
import Derived.Lib.Builder
import Derived.Shelf.RegionOpenPlain
import Derived.WalkKit
import Derived.Lib.Walk
import Derived.Laws.Externs
set_option linter.unusedSimpArgs false
set_option linter.unusedVariables false
open List renaming length_cons -> waa, map_cons -> wab, length_nil -> wac, take_of_length_le -> wad, append_assoc -> wae, nil_append -> waf, cons_append -> wag
open ByteArray renaming empty -> wah
open Int renaming toNat_natCast -> wai
open Nat renaming lt_or_ge -> waj, le_refl -> wak
open Bool renaming and_eq_true -> wal
namespace Go.Proofs.YtplfjjgkbnolhaaGreatDoor
open Go.Aw
def W64:Nat:=18446744073709551616
def zHS(h w:Nat):Nat:=(h ^^^ w)*15485907386658061715 % W64
def zoM(h w:Nat):Nat:=(zHS h w ^^^ (zHS h w / 4294967296))*11562461410679940143 % W64
def zuV(a:Nat)(l:List Nat):Nat:=l.foldl zoM a
def zkY:List Nat->Nat
 | []=>0
 | b::r=>b+256*zkY r
def zAP(l:List Nat):List Nat:=(List.range ((l.length+7) / 8)).map fun i=>zkY ((l.drop (8*i)).take 8)
def zBr(l:List Nat):Nat:=zoM (zuV 422944466291 (zAP l)) (l.length % W64)
abbrev Obj:=Nat×List Nat
def okS(s:List Obj):Prop:=s.Pairwise fun a b=>a.1<b.1
def lk:List Obj->Nat->Option (List Nat)
 | [],_=>none
 | x::r,id=>if x.1=id then some x.2 else lk r id
def zFb(o:Obj):List Obj->List Obj
 | []=>[o]
 | x::r=>if x.1<o.1 then x::zFb o r else if x.1=o.1 then o::r else o::x::r
def zA1(o:Obj):Bool:=decide (o.1=zBr o.2)
def zCo(s:List Obj)(id:Nat):Option (List Nat):=match lk s id with | some d=>if id=zBr d then some d else none | none=>none
def zpT(s:List Obj)(data:List Nat):List Obj:=match zCo s (zBr data)with | some _=>s | none=>zFb (zBr data,data) s
def zD2:Option (List Nat)->Option (List Nat)->Nat->Option (List Nat)
 | none,y,_=>y
 | x,none,_=>x
 | some d,some e,id=>if ¬id=zBr d/\id=zBr e then some e else some d
def zB3:List Obj->List Obj->List Obj
 | [],b=>b
 | a,[]=>a
 | x::a,y::b=>if x.1<y.1 then x::zB3 a (y::b)else if y.1<x.1 then y::zB3 (x::a) b else(if !zA1 x&&zA1 y then y else x)::zB3 a b
termination_by a b=>a.length+b.length
def zBG(s:List Obj)(ids:List Nat):List Obj:=s.filter fun o=>ids.contains o.1
open _root_.Go.Proofs.Tryz (prog)
theorem zat:Tryz.prog.follows .mixedOrders =true:=by kernel_rfl
theorem tU3:Tryz.prog.underlying 3=some (.int .i64):=by kernel_rfl
theorem tU4:Tryz.prog.underlying 4=some .bool :=by kernel_rfl
theorem TF0:lay prog 1=some (false,1)/\zad prog 1=some [.nilFunc]/\prog.underlying 2=some (.int .i64)/\lay prog 2=some (false,1)/\zad prog 2=some [.int .i64 0]/\prog.underlying 3=some (.int .i64)/\lay prog 3=some (false,1)/\zad prog 3=some [.int .i64 0]/\prog.underlying 4=some .bool /\lay prog 4=some (false,1)/\zad prog 4=some [.bool false]/\prog.underlying 5=some (.int .u8)/\lay prog 5=some (false,1)/\zad prog 5=some [.int .u8 0]/\prog.underlying 6=some (.int .u8)/\lay prog 6=some (false,1)/\zad prog 6=some [.int .u8 0]/\lay prog 7=some (true,4)/\zad prog 7=some [.int .i64 0,.int .i64 0,.bool false,.int .u8 0]/\zah prog 7 0=some (0,false,1)/\zag prog 7 0=some (0,false,1)/\zah prog 7 1=some (1,false,1)/\zag prog 7 1=some (1,false,1)/\zah prog 7 2=some (2,false,1)/\zag prog 7 2=some (2,false,1)/\zah prog 7 3=some (3,false,1)/\zag prog 7 3=some (3,false,1)/\zaB prog 7=true/\zdE prog 7=some [0,0,1,0]/\lay prog 8=some (true,4)/\zad prog 8=some [.int .i64 0,.int .i64 0,.bool false,.int .u8 0]/\zah prog 8 0=some (0,false,1)/\zag prog 8 0=some (0,false,1)/\zah prog 8 1=some (1,false,1)/\zag prog 8 1=some (1,false,1)/\zah prog 8 2=some (2,false,1)/\zag prog 8 2=some (2,false,1)/\zah prog 8 3=some (3,false,1)/\zag prog 8 3=some (3,false,1)/\zaB prog 8=true:=by and_intros <;> kernel_rfl
theorem tU9:Tryz.prog.underlying 9=some .string :=by kernel_rfl
theorem TF1:zdE prog 8=some [0,0,1,0]/\prog.underlying 9=some .string /\lay prog 9=some (false,1)/\zad prog 9=some [.string wah]/\za0 prog 9=none/\prog.underlying 10=some .string /\lay prog 10=some (false,1)/\zad prog 10=some [.string wah]/\za0 prog 10=none/\prog.underlying 12=some (.int .u64)/\lay prog 12=some (false,1)/\zad prog 12=some [.int .u64 0]/\prog.underlying 15=some (.pointer 331)/\lay prog 15=some (false,1)/\zad prog 15=some [.pointer none]/\prog.underlying 17=some (.pointer 341)/\lay prog 17=some (false,1)/\zad prog 17=some [.pointer none]/\lay prog 20=some (false,1)/\zad prog 20=some [.nilIface]/\prog.underlying 21=some (.int .i32)/\lay prog 21=some (false,1)/\zad prog 21=some [.int .i32 0]/\prog.underlying 22=some (.slice 54)/\lay prog 22=some (false,1)/\zad prog 22=some [.slice none 0 0]/\za0 prog 22=some (54,false,1)/\zdj prog 22=some (54,1,24)/\lay prog 23=some (true,1)/\zad prog 23=some [.slice none 0 0]/\zah prog 23 0=some (0,false,1)/\zag prog 23 0=some (0,false,1)/\zaB prog 23=true/\lay prog 24=some (true,1)/\zad prog 24=some [.slice none 0 0]/\zah prog 24 0=some (0,false,1)/\zag prog 24 0=some (0,false,1)/\zaB prog 24=true/\prog.underlying 25=some (.slice 46)/\lay prog 25=some (false,1):=by and_intros <;> kernel_rfl
theorem TF2:zad prog 25=some [.slice none 0 0]/\za0 prog 25=some (46,true,4)/\zdj prog 25=some (46,4,80)/\lay prog 26=some (true,1)/\zad prog 26=some [.slice none 0 0]/\zah prog 26 0=some (0,false,1)/\zag prog 26 0=some (0,false,1)/\zaB prog 26=true/\lay prog 27=some (true,1)/\zad prog 27=some [.slice none 0 0]/\zah prog 27 0=some (0,false,1)/\zag prog 27 0=some (0,false,1)/\zaB prog 27=true/\lay prog 29=some (false,1)/\zad prog 29=some [.nilFunc]/\prog.underlying 31=some (.int .i64)/\lay prog 31=some (false,1)/\zad prog 31=some [.int .i64 0]/\lay prog 32=some (true,2)/\zad prog 32=some [.string wah,.int .i64 0]/\zah prog 32 0=some (0,false,1)/\zag prog 32 0=some (0,false,1)/\zah prog 32 1=some (1,false,1)/\zag prog 32 1=some (1,false,1)/\zaB prog 32=true/\zdE prog 32=some [2,0]/\lay prog 33=some (true,2)/\zad prog 33=some [.string wah,.int .i64 0]/\zah prog 33 0=some (0,false,1)/\zag prog 33 0=some (0,false,1)/\zah prog 33 1=some (1,false,1)/\zag prog 33 1=some (1,false,1)/\zaB prog 33=true/\zdE prog 33=some [2,0]/\lay prog 34=some (false,1)/\zad prog 34=some [.nilFunc]/\prog.underlying 35=some (.slice 49)/\lay prog 35=some (false,1)/\zad prog 35=some [.slice none 0 0]/\za0 prog 35=some (49,true,3):=by and_intros <;> kernel_rfl
theorem TF3:zdj prog 35=some (49,3,32)/\prog.underlying 38=some (.slice 9)/\lay prog 38=some (false,1)/\zad prog 38=some [.slice none 0 0]/\za0 prog 38=some (9,false,1)/\zdj prog 38=some (9,1,16)/\lay prog 40=some (true,3)/\zad prog 40=some [.slice none 0 0,.int .i64 0,.int .i64 0]/\zah prog 40 0=some (0,true,1)/\zag prog 40 0=some (0,true,1)/\zah prog 40 1=some (1,false,1)/\zag prog 40 1=some (1,false,1)/\zah prog 40 2=some (2,false,1)/\zag prog 40 2=some (2,false,1)/\zaB prog 40=true/\lay prog 41=some (true,3)/\zad prog 41=some [.slice none 0 0,.int .i64 0,.int .i64 0]/\zah prog 41 0=some (0,true,1)/\zag prog 41 0=some (0,true,1)/\zah prog 41 1=some (1,false,1)/\zag prog 41 1=some (1,false,1)/\zah prog 41 2=some (2,false,1)/\zag prog 41 2=some (2,false,1)/\zaB prog 41=true/\prog.underlying 44=some (.slice 114)/\lay prog 44=some (false,1)/\zad prog 44=some [.slice none 0 0]/\za0 prog 44=some (114,true,35)/\zdj prog 44=some (114,35,480)/\lay prog 45=some (true,4)/\zad prog 45=some [.string wah,.string wah,.slice none 0 0,.slice none 0 0]/\zah prog 45 0=some (0,false,1)/\zag prog 45 0=some (0,false,1)/\zah prog 45 1=some (1,false,1)/\zag prog 45 1=some (1,false,1)/\zah prog 45 2=some (2,false,1)/\zag prog 45 2=some (2,false,1)/\zah prog 45 3=some (3,false,1)/\zag prog 45 3=some (3,false,1)/\zaB prog 45=true:=by and_intros <;> kernel_rfl
theorem TF4:lay prog 46=some (true,4)/\zad prog 46=some [.string wah,.string wah,.slice none 0 0,.slice none 0 0]/\zah prog 46 0=some (0,false,1)/\zag prog 46 0=some (0,false,1)/\zah prog 46 1=some (1,false,1)/\zag prog 46 1=some (1,false,1)/\zah prog 46 2=some (2,false,1)/\zag prog 46 2=some (2,false,1)/\zah prog 46 3=some (3,false,1)/\zag prog 46 3=some (3,false,1)/\zaB prog 46=true/\lay prog 48=some (true,3)/\zad prog 48=some [.int .i64 0,.string wah,.int .i64 0]/\zah prog 48 0=some (0,false,1)/\zag prog 48 0=some (0,false,1)/\zah prog 48 1=some (1,false,1)/\zag prog 48 1=some (1,false,1)/\zah prog 48 2=some (2,false,1)/\zag prog 48 2=some (2,false,1)/\zaB prog 48=true/\zdE prog 48=some [0,2,0]/\lay prog 49=some (true,3)/\zad prog 49=some [.int .i64 0,.string wah,.int .i64 0]/\zah prog 49 0=some (0,false,1)/\zag prog 49 0=some (0,false,1)/\zah prog 49 1=some (1,false,1)/\zag prog 49 1=some (1,false,1)/\zah prog 49 2=some (2,false,1)/\zag prog 49 2=some (2,false,1)/\zaB prog 49=true/\zdE prog 49=some [0,2,0]/\prog.underlying 54=some (.slice 5)/\lay prog 54=some (false,1)/\zad prog 54=some [.slice none 0 0]/\za0 prog 54=some (5,false,1)/\zdj prog 54=some (5,1,1)/\prog.underlying 56=some (.int .u16)/\lay prog 56=some (false,1)/\zad prog 56=some [.int .u16 0]/\prog.underlying 59=some (.slice 135):=by and_intros <;> kernel_rfl
theorem tU62:Tryz.prog.underlying 62=some (.int .u64):=by kernel_rfl
theorem TF5:lay prog 59=some (false,1)/\zad prog 59=some [.slice none 0 0]/\za0 prog 59=some (135,true,3)/\zdj prog 59=some (135,3,3)/\lay prog 60=some (true,2)/\zad prog 60=some [.slice none 0 0,.slice none 0 0]/\zah prog 60 0=some (0,false,1)/\zag prog 60 0=some (0,false,1)/\zah prog 60 1=some (1,false,1)/\zag prog 60 1=some (1,false,1)/\zaB prog 60=true/\lay prog 61=some (true,2)/\zad prog 61=some [.slice none 0 0,.slice none 0 0]/\zah prog 61 0=some (0,false,1)/\zag prog 61 0=some (0,false,1)/\zah prog 61 1=some (1,false,1)/\zag prog 61 1=some (1,false,1)/\zaB prog 61=true/\prog.underlying 62=some (.int .u64)/\lay prog 62=some (false,1)/\zad prog 62=some [.int .u64 0]/\prog.underlying 63=some (.slice 92)/\lay prog 63=some (false,1)/\zad prog 63=some [.slice none 0 0]/\za0 prog 63=some (92,true,2)/\zdj prog 63=some (92,2,32)/\lay prog 64=some (true,6)/\zad prog 64=some [.slice none 0 0,.slice none 0 0,.slice none 0 0,.int .u64 0,.int .u16 0,.slice none 0 0]/\zah prog 64 0=some (0,true,2)/\zag prog 64 0=some (0,true,2)/\zah prog 64 1=some (2,false,1)/\zag prog 64 1=some (2,false,1)/\zah prog 64 2=some (3,false,1)/\zag prog 64 2=some (3,false,1)/\zah prog 64 3=some (4,false,1)/\zag prog 64 3=some (4,false,1)/\zah prog 64 4=some (5,false,1)/\zag prog 64 4=some (5,false,1)/\zaB prog 64=true/\lay prog 65=some (true,6):=by and_intros <;> kernel_rfl
theorem TF6:zad prog 65=some [.slice none 0 0,.slice none 0 0,.slice none 0 0,.int .u64 0,.int .u16 0,.slice none 0 0]/\zah prog 65 0=some (0,true,2)/\zag prog 65 0=some (0,true,2)/\zah prog 65 1=some (2,false,1)/\zag prog 65 1=some (2,false,1)/\zah prog 65 2=some (3,false,1)/\zag prog 65 2=some (3,false,1)/\zah prog 65 3=some (4,false,1)/\zag prog 65 3=some (4,false,1)/\zah prog 65 4=some (5,false,1)/\zag prog 65 4=some (5,false,1)/\zaB prog 65=true/\lay prog 91=some (true,2)/\zad prog 91=some [.int .u64 0,.slice none 0 0]/\zah prog 91 0=some (0,false,1)/\zag prog 91 0=some (0,false,1)/\zah prog 91 1=some (1,false,1)/\zag prog 91 1=some (1,false,1)/\zaB prog 91=true/\lay prog 92=some (true,2)/\zad prog 92=some [.int .u64 0,.slice none 0 0]/\zah prog 92 0=some (0,false,1)/\zag prog 92 0=some (0,false,1)/\zah prog 92 1=some (1,false,1)/\zag prog 92 1=some (1,false,1)/\zaB prog 92=true/\lay prog 104=some (true,2)/\zad prog 104=some [.int .i64 0,.string wah]/\zah prog 104 0=some (0,false,1)/\zag prog 104 0=some (0,false,1)/\zah prog 104 1=some (1,false,1)/\zag prog 104 1=some (1,false,1)/\zaB prog 104=true/\zdE prog 104=some [0,2]/\lay prog 105=some (true,2)/\zad prog 105=some [.int .i64 0,.string wah]/\zah prog 105 0=some (0,false,1)/\zag prog 105 0=some (0,false,1)/\zah prog 105 1=some (1,false,1)/\zag prog 105 1=some (1,false,1):=by and_intros <;> kernel_rfl
theorem TF7:zaB prog 105=true/\zdE prog 105=some [0,2]/\prog.underlying 106=some (.slice 108)/\lay prog 106=some (false,1)/\zad prog 106=some [.slice none 0 0]/\za0 prog 106=some (108,true,7)/\zdj prog 106=some (108,7,96)/\lay prog 107=some (true,7)/\zad prog 107=some [.int .i64 0,.string wah,.int .i64 0,.string wah,.int .i64 0,.string wah,.slice none 0 0]/\zah prog 107 0=some (0,false,1)/\zag prog 107 0=some (0,false,1)/\zah prog 107 1=some (1,false,1)/\zag prog 107 1=some (1,false,1)/\zah prog 107 2=some (2,true,2)/\zag prog 107 2=some (2,true,2)/\zah prog 107 3=some (4,true,2)/\zag prog 107 3=some (4,true,2)/\zah prog 107 4=some (6,false,1)/\zag prog 107 4=some (6,false,1)/\zaB prog 107=true/\lay prog 108=some (true,7)/\zad prog 108=some [.int .i64 0,.string wah,.int .i64 0,.string wah,.int .i64 0,.string wah,.slice none 0 0]/\zah prog 108 0=some (0,false,1)/\zag prog 108 0=some (0,false,1)/\zah prog 108 1=some (1,false,1)/\zag prog 108 1=some (1,false,1)/\zah prog 108 2=some (2,true,2)/\zag prog 108 2=some (2,true,2)/\zah prog 108 3=some (4,true,2)/\zag prog 108 3=some (4,true,2)/\zah prog 108 4=some (6,false,1)/\zag prog 108 4=some (6,false,1)/\zaB prog 108=true/\lay prog 109=some (true,3)/\zad prog 109=some [.int .i64 0,.string wah,.int .i64 0]/\zah prog 109 0=some (0,false,1)/\zag prog 109 0=some (0,false,1)/\zah prog 109 1=some (1,false,1)/\zag prog 109 1=some (1,false,1)/\zah prog 109 2=some (2,false,1):=by and_intros <;> kernel_rfl
theorem TF8:zag prog 109 2=some (2,false,1)/\zaB prog 109=true/\zdE prog 109=some [0,2,0]/\lay prog 110=some (true,3)/\zad prog 110=some [.int .i64 0,.string wah,.int .i64 0]/\zah prog 110 0=some (0,false,1)/\zag prog 110 0=some (0,false,1)/\zah prog 110 1=some (1,false,1)/\zag prog 110 1=some (1,false,1)/\zah prog 110 2=some (2,false,1)/\zag prog 110 2=some (2,false,1)/\zaB prog 110=true/\zdE prog 110=some [0,2,0]/\prog.underlying 111=some (.slice 105)/\lay prog 111=some (false,1)/\zad prog 111=some [.slice none 0 0]/\za0 prog 111=some (105,true,2)/\zdj prog 111=some (105,2,24)/\prog.underlying 112=some (.slice 230)/\lay prog 112=some (false,1)/\zad prog 112=some [.slice none 0 0]/\za0 prog 112=some (230,true,2)/\zdj prog 112=some (230,2,32)/\lay prog 113=some (true,35)/\zad prog 113=some [.int .i64 0,.string wah,.int .i64 0,.string wah,.int .i64 0,.string wah,.int .i64 0,.string wah,.int .i64 0,.string wah,.int .i64 0,.string wah,.int .i64 0,.string wah,.slice none 0 0,.int .i64 0,.string wah,.int .i64 0,.string wah,.int .i64 0,.string wah,.slice none 0 0,.int .i64 0,.string wah,.int .i64 0,.string wah,.int .i64 0,.string wah,.slice none 0 0,.int .i64 0,.string wah,.int .i64 0,.string wah,.slice none 0 0,.slice none 0 0]/\zah prog 113 0=some (0,false,1)/\zag prog 113 0=some (0,false,1)/\zah prog 113 1=some (1,false,1)/\zag prog 113 1=some (1,false,1)/\zah prog 113 2=some (2,true,2)/\zag prog 113 2=some (2,true,2)/\zah prog 113 3=some (4,true,2)/\zag prog 113 3=some (4,true,2)/\zah prog 113 4=some (6,true,2)/\zag prog 113 4=some (6,true,2)/\zah prog 113 5=some (8,true,7)/\zag prog 113 5=some (8,true,7)/\zah prog 113 6=some (15,true,7)/\zag prog 113 6=some (15,true,7)/\zah prog 113 7=some (22,true,7):=by and_intros <;> kernel_rfl
theorem TF9:zag prog 113 7=some (22,true,7)/\zah prog 113 8=some (29,true,3)/\zag prog 113 8=some (29,true,3)/\zah prog 113 9=some (32,false,1)/\zag prog 113 9=some (32,false,1)/\zah prog 113 10=some (33,false,1)/\zag prog 113 10=some (33,false,1)/\zah prog 113 11=some (34,false,1)/\zag prog 113 11=some (34,false,1)/\zaB prog 113=true/\lay prog 114=some (true,35)/\zad prog 114=some [.int .i64 0,.string wah,.int .i64 0,.string wah,.int .i64 0,.string wah,.int .i64 0,.string wah,.int .i64 0,.string wah,.int .i64 0,.string wah,.int .i64 0,.string wah,.slice none 0 0,.int .i64 0,.string wah,.int .i64 0,.string wah,.int .i64 0,.string wah,.slice none 0 0,.int .i64 0,.string wah,.int .i64 0,.string wah,.int .i64 0,.string wah,.slice none 0 0,.int .i64 0,.string wah,.int .i64 0,.string wah,.slice none 0 0,.slice none 0 0]/\zah prog 114 0=some (0,false,1)/\zag prog 114 0=some (0,false,1)/\zah prog 114 1=some (1,false,1)/\zag prog 114 1=some (1,false,1)/\zah prog 114 2=some (2,true,2)/\zag prog 114 2=some (2,true,2)/\zah prog 114 3=some (4,true,2)/\zag prog 114 3=some (4,true,2)/\zah prog 114 4=some (6,true,2)/\zag prog 114 4=some (6,true,2)/\zah prog 114 5=some (8,true,7)/\zag prog 114 5=some (8,true,7)/\zah prog 114 6=some (15,true,7)/\zag prog 114 6=some (15,true,7)/\zah prog 114 7=some (22,true,7)/\zag prog 114 7=some (22,true,7)/\zah prog 114 8=some (29,true,3)/\zag prog 114 8=some (29,true,3)/\zah prog 114 9=some (32,false,1)/\zag prog 114 9=some (32,false,1)/\zah prog 114 10=some (33,false,1)/\zag prog 114 10=some (33,false,1)/\zah prog 114 11=some (34,false,1)/\zag prog 114 11=some (34,false,1)/\zaB prog 114=true/\lay prog 126=some (true,3)/\zad prog 126=some [.slice none 0 0,.int .i64 0,.bool false]/\zah prog 126 0=some (0,false,1):=by and_intros <;> kernel_rfl
theorem TF10:zag prog 126 0=some (0,false,1)/\zah prog 126 1=some (1,false,1)/\zag prog 126 1=some (1,false,1)/\zah prog 126 2=some (2,false,1)/\zag prog 126 2=some (2,false,1)/\zaB prog 126=true/\lay prog 127=some (true,3)/\zad prog 127=some [.slice none 0 0,.int .i64 0,.bool false]/\zah prog 127 0=some (0,false,1)/\zag prog 127 0=some (0,false,1)/\zah prog 127 1=some (1,false,1)/\zag prog 127 1=some (1,false,1)/\zah prog 127 2=some (2,false,1)/\zag prog 127 2=some (2,false,1)/\zaB prog 127=true/\prog.underlying 135=some (.array 3 5)/\lay prog 135=some (true,3)/\zad prog 135=some [.int .u8 0,.int .u8 0,.int .u8 0]/\za0 prog 135=none/\zcN prog 135=some (3,false,1)/\zag prog 135 0=some (0,false,1)/\zag prog 135 1=some (1,false,1)/\zag prog 135 2=some (2,false,1)/\zaB prog 135=true/\zdE prog 135=some [0,0,0]/\prog.underlying 145=some (.int .u64)/\lay prog 145=some (false,1)/\zad prog 145=some [.int .u64 0]/\prog.underlying 156=some (.pointer 161)/\lay prog 156=some (false,1)/\zad prog 156=some [.pointer none]/\prog.underlying 157=some (.pointer 159)/\lay prog 157=some (false,1)/\zad prog 157=some [.pointer none]/\lay prog 158=some (true,2)/\zad prog 158=some [.pointer none,.slice none 0 0]/\zah prog 158 0=some (0,false,1)/\zag prog 158 0=some (0,false,1)/\zah prog 158 1=some (1,false,1)/\zag prog 158 1=some (1,false,1):=by and_intros <;> kernel_rfl
theorem TF11:zaB prog 158=true/\lay prog 159=some (true,2)/\zad prog 159=some [.pointer none,.slice none 0 0]/\zah prog 159 0=some (0,false,1)/\zag prog 159 0=some (0,false,1)/\zah prog 159 1=some (1,false,1)/\zag prog 159 1=some (1,false,1)/\zaB prog 159=true/\lay prog 160=some (true,3)/\zad prog 160=some [.pointer none,.slice none 0 0,.bool false]/\zah prog 160 0=some (0,true,2)/\zag prog 160 0=some (0,true,2)/\zah prog 160 1=some (2,false,1)/\zag prog 160 1=some (2,false,1)/\zaB prog 160=true/\lay prog 161=some (true,3)/\zad prog 161=some [.pointer none,.slice none 0 0,.bool false]/\zah prog 161 0=some (0,true,2)/\zag prog 161 0=some (0,true,2)/\zah prog 161 1=some (2,false,1)/\zag prog 161 1=some (2,false,1)/\zaB prog 161=true/\lay prog 162=some (false,1)/\zad prog 162=some [.nilIface]/\lay prog 163=some (false,1)/\zad prog 163=some [.nilIface]/\lay prog 166=some (false,1)/\zad prog 166=some [.nilFunc]/\lay prog 170=some (false,1)/\zad prog 170=some [.nilFunc]/\lay prog 171=some (true,2)/\zad prog 171=some [.slice none 0 0,.int .i64 0]/\zah prog 171 0=some (0,false,1)/\zag prog 171 0=some (0,false,1)/\zah prog 171 1=some (1,false,1)/\zag prog 171 1=some (1,false,1)/\zaB prog 171=true/\lay prog 172=some (true,2)/\zad prog 172=some [.slice none 0 0,.int .i64 0]/\zah prog 172 0=some (0,false,1):=by and_intros <;> kernel_rfl
theorem TF12:zag prog 172 0=some (0,false,1)/\zah prog 172 1=some (1,false,1)/\zag prog 172 1=some (1,false,1)/\zaB prog 172=true/\lay prog 175=some (true,37)/\zad prog 175=some [.int .i64 0,.string wah,.int .i64 0,.string wah,.int .i64 0,.string wah,.int .i64 0,.string wah,.int .i64 0,.string wah,.int .i64 0,.string wah,.int .i64 0,.string wah,.slice none 0 0,.int .i64 0,.string wah,.int .i64 0,.string wah,.int .i64 0,.string wah,.slice none 0 0,.int .i64 0,.string wah,.int .i64 0,.string wah,.int .i64 0,.string wah,.slice none 0 0,.int .i64 0,.string wah,.int .i64 0,.string wah,.slice none 0 0,.slice none 0 0,.slice none 0 0,.int .i64 0]/\zah prog 175 0=some (0,true,35)/\zag prog 175 0=some (0,true,35)/\zah prog 175 1=some (35,true,2)/\zag prog 175 1=some (35,true,2)/\zaB prog 175=true/\lay prog 176=some (true,37)/\zad prog 176=some [.int .i64 0,.string wah,.int .i64 0,.string wah,.int .i64 0,.string wah,.int .i64 0,.string wah,.int .i64 0,.string wah,.int .i64 0,.string wah,.int .i64 0,.string wah,.slice none 0 0,.int .i64 0,.string wah,.int .i64 0,.string wah,.int .i64 0,.string wah,.slice none 0 0,.int .i64 0,.string wah,.int .i64 0,.string wah,.int .i64 0,.string wah,.slice none 0 0,.int .i64 0,.string wah,.int .i64 0,.string wah,.slice none 0 0,.slice none 0 0,.slice none 0 0,.int .i64 0]/\zah prog 176 0=some (0,true,35)/\zag prog 176 0=some (0,true,35)/\zah prog 176 1=some (35,true,2)/\zag prog 176 1=some (35,true,2)/\zaB prog 176=true/\prog.underlying 181=some (.pointer 185)/\lay prog 181=some (false,1)/\zad prog 181=some [.pointer none]/\prog.underlying 182=some (.array 256 5)/\lay prog 182=some (true,256)/\za0 prog 182=none/\zcN prog 182=some (256,false,1)/\zag prog 182 0=some (0,false,1)/\zag prog 182 1=some (1,false,1)/\zag prog 182 2=some (2,false,1)/\zag prog 182 3=some (3,false,1)/\zaB prog 182=true/\lay prog 184=some (true,259)/\zah prog 184 0=some (0,false,1)/\zag prog 184 0=some (0,false,1)/\zah prog 184 1=some (1,false,1)/\zag prog 184 1=some (1,false,1)/\zah prog 184 2=some (2,true,256)/\zag prog 184 2=some (2,true,256)/\zah prog 184 3=some (258,false,1)/\zag prog 184 3=some (258,false,1)/\zaB prog 184=true:=by and_intros <;> kernel_rfl
theorem tU189:Tryz.prog.underlying 189=some (.int .i64):=by kernel_rfl
theorem TF13:lay prog 185=some (true,259)/\zah prog 185 0=some (0,false,1)/\zag prog 185 0=some (0,false,1)/\zah prog 185 1=some (1,false,1)/\zag prog 185 1=some (1,false,1)/\zah prog 185 2=some (2,true,256)/\zag prog 185 2=some (2,true,256)/\zah prog 185 3=some (258,false,1)/\zag prog 185 3=some (258,false,1)/\zaB prog 185=true/\lay prog 186=some (false,1)/\zad prog 186=some [.nilFunc]/\prog.underlying 187=some (.array 3 186)/\lay prog 187=some (true,3)/\zad prog 187=some [.nilFunc,.nilFunc,.nilFunc]/\za0 prog 187=none/\zcN prog 187=some (3,false,1)/\zag prog 187 0=some (0,false,1)/\zag prog 187 1=some (1,false,1)/\zag prog 187 2=some (2,false,1)/\zaB prog 187=true/\prog.underlying 189=some (.int .i64)/\lay prog 189=some (false,1)/\zad prog 189=some [.int .i64 0]/\prog.underlying 191=some (.pointer 193)/\lay prog 191=some (false,1)/\zad prog 191=some [.pointer none]/\lay prog 192=some (true,2)/\zad prog 192=some [.slice none 0 0,.int .i64 0]/\zah prog 192 0=some (0,false,1)/\zag prog 192 0=some (0,false,1)/\zah prog 192 1=some (1,false,1)/\zag prog 192 1=some (1,false,1)/\zaB prog 192=true/\lay prog 193=some (true,2)/\zad prog 193=some [.slice none 0 0,.int .i64 0]/\zah prog 193 0=some (0,false,1)/\zag prog 193 0=some (0,false,1)/\zah prog 193 1=some (1,false,1)/\zag prog 193 1=some (1,false,1):=by and_intros <;> kernel_rfl
theorem TF14:zaB prog 193=true/\prog.underlying 206=some (.slice 3)/\lay prog 206=some (false,1)/\zad prog 206=some [.slice none 0 0]/\za0 prog 206=some (3,false,1)/\zdj prog 206=some (3,1,8)/\lay prog 224=some (false,1)/\zad prog 224=some [.nilFunc]/\lay prog 226=some (false,1)/\zad prog 226=some [.nilFunc]/\lay prog 229=some (true,2)/\zad prog 229=some [.string wah,.string wah]/\zah prog 229 0=some (0,false,1)/\zag prog 229 0=some (0,false,1)/\zah prog 229 1=some (1,false,1)/\zag prog 229 1=some (1,false,1)/\zaB prog 229=true/\zdE prog 229=some [2,2]/\lay prog 230=some (true,2)/\zad prog 230=some [.string wah,.string wah]/\zah prog 230 0=some (0,false,1)/\zag prog 230 0=some (0,false,1)/\zah prog 230 1=some (1,false,1)/\zag prog 230 1=some (1,false,1)/\zaB prog 230=true/\zdE prog 230=some [2,2]/\lay prog 231=some (false,1)/\zad prog 231=some [.nilFunc]/\prog.underlying 233=some (.pointer 5)/\lay prog 233=some (false,1)/\zad prog 233=some [.pointer none]/\lay prog 236=some (true,9)/\zad prog 236=some [.int .i64 0,.string wah,.int .i64 0,.string wah,.int .i64 0,.string wah,.slice none 0 0,.slice none 0 0,.int .i64 0]/\zah prog 236 0=some (0,true,7)/\zag prog 236 0=some (0,true,7)/\zah prog 236 1=some (7,true,2)/\zag prog 236 1=some (7,true,2)/\zaB prog 236=true/\lay prog 237=some (true,9)/\zad prog 237=some [.int .i64 0,.string wah,.int .i64 0,.string wah,.int .i64 0,.string wah,.slice none 0 0,.slice none 0 0,.int .i64 0]:=by and_intros <;> kernel_rfl
theorem tU269:Tryz.prog.underlying 269=some (.map 9 4):=by kernel_rfl
theorem TF15:zah prog 237 0=some (0,true,7)/\zag prog 237 0=some (0,true,7)/\zah prog 237 1=some (7,true,2)/\zag prog 237 1=some (7,true,2)/\zaB prog 237=true/\prog.underlying 251=some (.map 9 255)/\lay prog 251=some (false,1)/\zad prog 251=some [.map none]/\lay prog 253=some (false,1)/\zad prog 253=some [.nilFunc]/\lay prog 254=some (true,2)/\zad prog 254=some [.int .i64 0,.nilFunc]/\zah prog 254 0=some (0,false,1)/\zag prog 254 0=some (0,false,1)/\zah prog 254 1=some (1,false,1)/\zag prog 254 1=some (1,false,1)/\zaB prog 254=true/\lay prog 255=some (true,2)/\zad prog 255=some [.int .i64 0,.nilFunc]/\zah prog 255 0=some (0,false,1)/\zag prog 255 0=some (0,false,1)/\zah prog 255 1=some (1,false,1)/\zag prog 255 1=some (1,false,1)/\zaB prog 255=true/\prog.underlying 257=some (.pointer 114)/\lay prog 257=some (false,1)/\zad prog 257=some [.pointer none]/\lay prog 258=some (false,1)/\zad prog 258=some [.nilFunc]/\lay prog 267=some (false,1)/\zad prog 267=some [.pointer none]/\prog.underlying 269=some (.map 9 4)/\lay prog 269=some (false,1)/\zad prog 269=some [.map none]/\prog.underlying 270=some (.slice 4)/\lay prog 270=some (false,1)/\zad prog 270=some [.slice none 0 0]/\za0 prog 270=some (4,false,1)/\zdj prog 270=some (4,1,1)/\lay prog 272=some (false,1):=by and_intros <;> kernel_rfl
theorem tU288:Tryz.prog.underlying 288=some (.map 9 3):=by kernel_rfl
theorem TF16:zad prog 272=some [.nilFunc]/\lay prog 273=some (true,5)/\zad prog 273=some [.bool false,.bool false,.bool false,.bool false,.int .i64 0]/\zah prog 273 0=some (0,false,1)/\zag prog 273 0=some (0,false,1)/\zah prog 273 1=some (1,false,1)/\zag prog 273 1=some (1,false,1)/\zah prog 273 2=some (2,false,1)/\zag prog 273 2=some (2,false,1)/\zah prog 273 3=some (3,false,1)/\zag prog 273 3=some (3,false,1)/\zah prog 273 4=some (4,false,1)/\zag prog 273 4=some (4,false,1)/\zaB prog 273=true/\zdE prog 273=some [1,1,1,1,0]/\lay prog 274=some (true,5)/\zad prog 274=some [.bool false,.bool false,.bool false,.bool false,.int .i64 0]/\zah prog 274 0=some (0,false,1)/\zag prog 274 0=some (0,false,1)/\zah prog 274 1=some (1,false,1)/\zag prog 274 1=some (1,false,1)/\zah prog 274 2=some (2,false,1)/\zag prog 274 2=some (2,false,1)/\zah prog 274 3=some (3,false,1)/\zag prog 274 3=some (3,false,1)/\zah prog 274 4=some (4,false,1)/\zag prog 274 4=some (4,false,1)/\zaB prog 274=true/\zdE prog 274=some [1,1,1,1,0]/\prog.underlying 287=some (.array 2 186)/\lay prog 287=some (true,2)/\zad prog 287=some [.nilFunc,.nilFunc]/\za0 prog 287=none/\zcN prog 287=some (2,false,1)/\zag prog 287 0=some (0,false,1)/\zag prog 287 1=some (1,false,1)/\zaB prog 287=true/\prog.underlying 288=some (.map 9 3)/\lay prog 288=some (false,1)/\zad prog 288=some [.map none]:=by and_intros <;> kernel_rfl
theorem TF17:prog.underlying 301=some (.pointer 311)/\lay prog 301=some (false,1)/\zad prog 301=some [.pointer none]/\lay prog 305=some (false,1)/\zad prog 305=some [.nilFunc]/\lay prog 310=some (true,3)/\zad prog 310=some [.string wah,.string wah,.nilIface]/\zah prog 310 0=some (0,false,1)/\zag prog 310 0=some (0,false,1)/\zah prog 310 1=some (1,false,1)/\zag prog 310 1=some (1,false,1)/\zah prog 310 2=some (2,false,1)/\zag prog 310 2=some (2,false,1)/\zaB prog 310=true/\lay prog 311=some (true,3)/\zad prog 311=some [.string wah,.string wah,.nilIface]/\zah prog 311 0=some (0,false,1)/\zag prog 311 0=some (0,false,1)/\zah prog 311 1=some (1,false,1)/\zag prog 311 1=some (1,false,1)/\zah prog 311 2=some (2,false,1)/\zag prog 311 2=some (2,false,1)/\zaB prog 311=true/\prog.underlying 313=some (.array 24 5)/\lay prog 313=some (true,24)/\zad prog 313=some [.int .u8 0,.int .u8 0,.int .u8 0,.int .u8 0,.int .u8 0,.int .u8 0,.int .u8 0,.int .u8 0,.int .u8 0,.int .u8 0,.int .u8 0,.int .u8 0,.int .u8 0,.int .u8 0,.int .u8 0,.int .u8 0,.int .u8 0,.int .u8 0,.int .u8 0,.int .u8 0,.int .u8 0,.int .u8 0,.int .u8 0,.int .u8 0]/\za0 prog 313=none/\zcN prog 313=some (24,false,1)/\zag prog 313 0=some (0,false,1)/\zag prog 313 1=some (1,false,1)/\zag prog 313 2=some (2,false,1)/\zag prog 313 3=some (3,false,1)/\zaB prog 313=true/\prog.underlying 319=some (.pointer 321)/\lay prog 319=some (false,1)/\zad prog 319=some [.pointer none]/\lay prog 320=some (true,1)/\zad prog 320=some [.string wah]/\zah prog 320 0=some (0,false,1)/\zag prog 320 0=some (0,false,1):=by and_intros <;> kernel_rfl
theorem tU323:Tryz.prog.underlying 323=some (.array 20 62):=by kernel_rfl
theorem TF18:zaB prog 320=true/\zdE prog 320=some [2]/\lay prog 321=some (true,1)/\zad prog 321=some [.string wah]/\zah prog 321 0=some (0,false,1)/\zag prog 321 0=some (0,false,1)/\zaB prog 321=true/\zdE prog 321=some [2]/\prog.underlying 323=some (.array 20 62)/\lay prog 323=some (true,20)/\zad prog 323=some [.int .u64 0,.int .u64 0,.int .u64 0,.int .u64 0,.int .u64 0,.int .u64 0,.int .u64 0,.int .u64 0,.int .u64 0,.int .u64 0,.int .u64 0,.int .u64 0,.int .u64 0,.int .u64 0,.int .u64 0,.int .u64 0,.int .u64 0,.int .u64 0,.int .u64 0,.int .u64 0]/\za0 prog 323=none/\zcN prog 323=some (20,false,1)/\zag prog 323 0=some (0,false,1)/\zag prog 323 1=some (1,false,1)/\zag prog 323 2=some (2,false,1)/\zag prog 323 3=some (3,false,1)/\zaB prog 323=true/\prog.underlying 324=some (.int .u32)/\lay prog 324=some (false,1)/\zad prog 324=some [.int .u32 0]/\prog.underlying 325=some (.array 65 5)/\lay prog 325=some (true,65)/\za0 prog 325=none/\zcN prog 325=some (65,false,1)/\zag prog 325 0=some (0,false,1)/\zag prog 325 1=some (1,false,1)/\zag prog 325 2=some (2,false,1)/\zag prog 325 3=some (3,false,1)/\zaB prog 325=true/\prog.underlying 328=some (.array 32 5)/\lay prog 328=some (true,32)/\zad prog 328=some [.int .u8 0,.int .u8 0,.int .u8 0,.int .u8 0,.int .u8 0,.int .u8 0,.int .u8 0,.int .u8 0,.int .u8 0,.int .u8 0,.int .u8 0,.int .u8 0,.int .u8 0,.int .u8 0,.int .u8 0,.int .u8 0,.int .u8 0,.int .u8 0,.int .u8 0,.int .u8 0,.int .u8 0,.int .u8 0,.int .u8 0,.int .u8 0,.int .u8 0,.int .u8 0,.int .u8 0,.int .u8 0,.int .u8 0,.int .u8 0,.int .u8 0,.int .u8 0]/\za0 prog 328=none/\zcN prog 328=some (32,false,1)/\zag prog 328 0=some (0,false,1)/\zag prog 328 1=some (1,false,1)/\zag prog 328 2=some (2,false,1)/\zag prog 328 3=some (3,false,1)/\zaB prog 328=true:=by and_intros <;> kernel_rfl
theorem TF19:prog.underlying 329=some (.array 64 5)/\lay prog 329=some (true,64)/\zad prog 329=some [.int .u8 0,.int .u8 0,.int .u8 0,.int .u8 0,.int .u8 0,.int .u8 0,.int .u8 0,.int .u8 0,.int .u8 0,.int .u8 0,.int .u8 0,.int .u8 0,.int .u8 0,.int .u8 0,.int .u8 0,.int .u8 0,.int .u8 0,.int .u8 0,.int .u8 0,.int .u8 0,.int .u8 0,.int .u8 0,.int .u8 0,.int .u8 0,.int .u8 0,.int .u8 0,.int .u8 0,.int .u8 0,.int .u8 0,.int .u8 0,.int .u8 0,.int .u8 0,.int .u8 0,.int .u8 0,.int .u8 0,.int .u8 0,.int .u8 0,.int .u8 0,.int .u8 0,.int .u8 0,.int .u8 0,.int .u8 0,.int .u8 0,.int .u8 0,.int .u8 0,.int .u8 0,.int .u8 0,.int .u8 0,.int .u8 0,.int .u8 0,.int .u8 0,.int .u8 0,.int .u8 0,.int .u8 0,.int .u8 0,.int .u8 0,.int .u8 0,.int .u8 0,.int .u8 0,.int .u8 0,.int .u8 0,.int .u8 0,.int .u8 0,.int .u8 0]/\za0 prog 329=none/\zcN prog 329=some (64,false,1)/\zag prog 329 0=some (0,false,1)/\zag prog 329 1=some (1,false,1)/\zag prog 329 2=some (2,false,1)/\zag prog 329 3=some (3,false,1)/\zaB prog 329=true/\lay prog 330=some (true,4)/\zad prog 330=some [.pointer none,.pointer none,.pointer none,.string wah]/\zah prog 330 0=some (0,false,1)/\zag prog 330 0=some (0,false,1)/\zah prog 330 1=some (1,false,1)/\zag prog 330 1=some (1,false,1)/\zah prog 330 2=some (2,false,1)/\zag prog 330 2=some (2,false,1)/\zah prog 330 3=some (3,false,1)/\zag prog 330 3=some (3,false,1)/\zaB prog 330=true/\lay prog 331=some (true,4)/\zad prog 331=some [.pointer none,.pointer none,.pointer none,.string wah]/\zah prog 331 0=some (0,false,1)/\zag prog 331 0=some (0,false,1)/\zah prog 331 1=some (1,false,1)/\zag prog 331 1=some (1,false,1)/\zah prog 331 2=some (2,false,1)/\zag prog 331 2=some (2,false,1)/\zah prog 331 3=some (3,false,1)/\zag prog 331 3=some (3,false,1)/\zaB prog 331=true/\prog.underlying 335=some (.int .u8)/\lay prog 335=some (false,1)/\zad prog 335=some [.int .u8 0]/\prog.underlying 336=some (.int .u8)/\lay prog 336=some (false,1)/\zad prog 336=some [.int .u8 0]/\lay prog 337=some (false,1)/\zad prog 337=some [.nilFunc]:=by and_intros <;> kernel_rfl
theorem TF20:prog.underlying 338=some (.int .i32)/\lay prog 338=some (false,1)/\zad prog 338=some [.int .i32 0]/\prog.underlying 339=some (.int .i32)/\lay prog 339=some (false,1)/\zad prog 339=some [.int .i32 0]/\lay prog 340=some (true,11)/\zad prog 340=some [.int .u64 0,.int .u64 0,.int .u32 0,.int .u8 0,.int .u8 0,.int .u8 0,.int .u8 0,.nilFunc,.pointer none,.int .i32 0,.int .i32 0]/\zah prog 340 0=some (0,false,1)/\zag prog 340 0=some (0,false,1)/\zah prog 340 1=some (1,false,1)/\zag prog 340 1=some (1,false,1)/\zah prog 340 2=some (2,false,1)/\zag prog 340 2=some (2,false,1)/\zah prog 340 3=some (3,false,1)/\zag prog 340 3=some (3,false,1)/\zah prog 340 4=some (4,false,1)/\zag prog 340 4=some (4,false,1)/\zah prog 340 5=some (5,false,1)/\zag prog 340 5=some (5,false,1)/\zah prog 340 6=some (6,false,1)/\zag prog 340 6=some (6,false,1)/\zah prog 340 7=some (7,false,1)/\zag prog 340 7=some (7,false,1)/\zah prog 340 8=some (8,false,1)/\zag prog 340 8=some (8,false,1)/\zah prog 340 9=some (9,false,1)/\zag prog 340 9=some (9,false,1)/\zah prog 340 10=some (10,false,1)/\zag prog 340 10=some (10,false,1)/\zaB prog 340=true/\lay prog 341=some (true,11)/\zad prog 341=some [.int .u64 0,.int .u64 0,.int .u32 0,.int .u8 0,.int .u8 0,.int .u8 0,.int .u8 0,.nilFunc,.pointer none,.int .i32 0,.int .i32 0]/\zah prog 341 0=some (0,false,1)/\zag prog 341 0=some (0,false,1)/\zah prog 341 1=some (1,false,1)/\zag prog 341 1=some (1,false,1)/\zah prog 341 2=some (2,false,1)/\zag prog 341 2=some (2,false,1)/\zah prog 341 3=some (3,false,1):=by and_intros <;> kernel_rfl
theorem TF21:zag prog 341 3=some (3,false,1)/\zah prog 341 4=some (4,false,1)/\zag prog 341 4=some (4,false,1)/\zah prog 341 5=some (5,false,1)/\zag prog 341 5=some (5,false,1)/\zah prog 341 6=some (6,false,1)/\zag prog 341 6=some (6,false,1)/\zah prog 341 7=some (7,false,1)/\zag prog 341 7=some (7,false,1)/\zah prog 341 8=some (8,false,1)/\zag prog 341 8=some (8,false,1)/\zah prog 341 9=some (9,false,1)/\zag prog 341 9=some (9,false,1)/\zah prog 341 10=some (10,false,1)/\zag prog 341 10=some (10,false,1)/\zaB prog 341=true/\zrA prog 255=some (.agg [.lit (.int .i64 0),.lit (.nilFunc)])/\zrA prog 4=some (.lit (.bool false))/\zrA prog 3=some (.lit (.int .i64 0)):=by and_intros <;> kernel_rfl
set_option linter.defProp false
def TF:=And.intro TF0 (And.intro TF1 (And.intro TF2 (And.intro TF3 (And.intro TF4 (And.intro TF5 (And.intro TF6 (And.intro TF7 (And.intro TF8 (And.intro TF9 (And.intro TF10 (And.intro TF11 (And.intro TF12 (And.intro TF13 (And.intro TF14 (And.intro TF15 (And.intro TF16 (And.intro TF17 (And.intro TF18 (And.intro TF19 (And.intro TF20 TF21))))))))))))))))))))
set_option maxRecDepth 100000
abbrev Str:={s:ByteArray // s.size<=maxLen}
theorem str_eq(x y:Str):decide (x.1=y.1)=decide (x=y):=by rw[decide_eq_decide]; exact Subtype.ext_iff.symm
def eU8(n:Nat):D:=.lit (.int .u8 n)
def eU(n:Nat):D:=.lit (.int .u64 n)
def eI(n:Int):D:=.lit (.int .i64 n)
def eB(b:Bool):D:=.lit (.bool b)
def eS(s:Str):D:=.lit (.string s.1)
def eBy(l:List Nat):D:=.sl (l.map fun n=>[eU8 n])
def zHx(l:List Nat):D:=.sl (l.map fun n=>[eU n])
def zCd(o:Obj):List D:=[eU o.1,eBy o.2]
def eSt(s:List Obj):D:=.sl (s.map zCd)
def chL(i:Nat):List Gh:=if 2000<=i then [.chn]else []
def KD:=And.intro @str_eq (And.intro @chL.eq_1 (And.intro @eU8.eq_1 (And.intro @eU.eq_1 (And.intro @eI.eq_1 (And.intro @eB.eq_1 (And.intro @eS.eq_1 (And.intro @eBy.eq_1 (And.intro @zHx.eq_1 (And.intro @zCd.eq_1 @eSt.eq_1)))))))))
theorem zaa{α β:Type}{f:α->β}{l:List α}{i:Nat}(h:i<l.length)(d:β):(l.map f).getD i d=f l[i]:=by simp[List.getD,h]
theorem zaw{i n:Nat}(h:i<n):decide ((i:Int)<(n:Int))=true:=by simp; omega
theorem zaI{i n:Nat}(h:n<=i):decide ((i:Int)<(n:Int))=false:=by simp; omega
theorem zai{i n:Nat}(h:i<n):(0<=(i:Int)/\(i:Int)<(n:Int))=True:=by simp; omega
theorem zaQ{x:Int}(h0: -9223372036854775808<=x)(h1:x<=9223372036854775807):IntKind.i64.wrap x=x:=by
 simp only[IntKind.wrap,IntKind.bits,IntKind.signed];simp;omega
theorem zaq{i:Nat}(h:i<9223372036854775807):IntKind.i64.wrap ((i:Int)+1)=((i+1:Nat):Int):=by
 rw[zaQ (by omega) (by omega)]; simp
theorem ztE{es:List (List D)}(h:(D.sl es).ok):es.length<=9223372036854775807:=by
 simp only[D.ok]at h; have:=h.1; unfold maxLen at this; omega
theorem zaM{x:D}{xs:List D}(h:D.okL (x::xs)):x.ok/\D.okL xs:=by simpa only[D.okL]using h
theorem za9{α:Type}{f:α->List D}{l:List α}(h:(D.sl (l.map f)).ok):l.length<=9223372036854775807/\ ∀x∈l,D.okL (f x):=by
 refine⟨by simpa using ztE h,fun x hx=> ?_⟩;simp only[D.ok]at h;exact zxp h.2 _ (List.mem_map.2 ⟨x,hx,rfl⟩)
def zl8(h w:Int):Int:=IntKind.u64.wrap (IntKind.u64.wrap (BitVec.ofInt IntKind.u64.bits (IntKind.u64.wrap (IntKind.u64.wrap (BitVec.ofInt IntKind.u64.bits h ^^^ BitVec.ofInt IntKind.u64.bits w).toNat *15485907386658061715)) ^^^ BitVec.ofInt IntKind.u64.bits ((IntKind.u64.wrap (IntKind.u64.wrap (BitVec.ofInt IntKind.u64.bits h ^^^ BitVec.ofInt IntKind.u64.bits w).toNat *15485907386658061715)).fdiv (2 ^ (min 32 IntKind.u64.bits)))).toNat *11562461410679940143)
theorem zA.{u}{α:Sort u}(a:α):(a=a)=True:=eq_self a
theorem zB.{u}{α:Sort u}(a b:α):(a≠b)= ¬(a=b):=ne_eq a b
theorem zC.{u}(α:Sort u):(α->True)=True:=implies_true α
theorem zD.{u}{b:Prop}(α:Sort u)[i:Nonempty α]:(α->b)↔b:=forall_const α
theorem zF.{u}{α:Sort u}{i:Decidable True}(t e:α):ite True t e=t:=if_true t e
theorem zG.{u}{α:Sort u}{i:Decidable False}(t e:α):ite False t e=e:=if_false t e
theorem zH.{u}{α:Sort u}(a b:α):cond true a b=a:=rfl
theorem zI.{u}{α:Sort u}(a b:α):cond false a b=b:=rfl
theorem zJ.{u}{α:Sort u}{p:α->Prop}{c:α}:(∀a,a=c->p a)↔p c:=forall_eq
def ZZ:=And.intro @zA.{1} (And.intro @zB.{1} (And.intro @zC.{0} (And.intro @zC.{1} (And.intro @zD.{0} (And.intro @zD.{1} (And.intro @zF.{1} (And.intro @zG.{1} (And.intro @zH.{1} (And.intro @zI.{1} @zJ.{1})))))))))
def ZY:=And.intro GE (And.intro ZZ (And.intro @List.replicate.eq_1.{0} @List.replicate.eq_2.{0}))
def ZE:=And.intro SE (And.intro SX (And.intro TF (And.intro KD ZY)))
def ZM:=And.intro SE (And.intro SXm (And.intro TF (And.intro KD ZY)))
theorem zX.{u}{α:Sort u}(a:α): ∃x,a=x:=⟨a,rfl⟩
theorem zle{n m:Nat}(h:Nat.ble n m=true):n<=m:=Nat.le_of_ble_eq_true h
def zN:=And.intro Nat.zero_add Int.natCast_one
section
open Go.Shelf
def Tryz.lays169_ren:Go.Shelf.Ren:=⟨fun | 169=>92 | n=>n,fun | 70=>157 | 9=>9 | 0=>0 | 72=>159 | 37=>54 | 127=>233 | 3=>3 | 5=>5 | n=>n,fun | n=>n⟩
open Go.RowKit in
def Tryz.lays156_ren:Go.Shelf.Ren:=⟨fun | 156=>71 | 165=>119 | 166=>87 | 169=>92 | 240=>130 | 241=>178 | 276=>185 | 277=>215 | n=>n,fun | 31=>38 | 9=>9 | 3=>3 | 4=>4 | 0=>0 | 20=>20 | 72=>159 | 76=>164 | 70=>157 | 37=>54 | 75=>163 | 127=>233 | 164=>267 | 5=>5 | 80=>170 | n=>n,fun | n=>n⟩
open Go.RowKit in
open Go.RowKit in
def Tryz.lays137_ren:Go.Shelf.Ren:=⟨fun | 137=>156 | 217=>199 | 266=>217 | n=>n,fun | 9=>9 | 5=>5 | 3=>3 | n=>n,fun | n=>n⟩
theorem Tryz.lays137:Go.Proofs.Lays.n137 Tryz.prog Tryz.lays137_ren:={
 mixed:=by kernel_rfl
 f137:=Tryz.func156.trans (congrArg some (by kernel_rfl))
 f217:=Tryz.func199.trans (congrArg some (by kernel_rfl))
 f266:=Tryz.func217.trans (congrArg some (by kernel_rfl))
 t3:=Tryz.underlying3
 a3:=Tryz.isAgg3
 z3:=Tryz.sizeOf3
 v3:=Tryz.zeroValue3
 t5:=Tryz.underlying5
 a5:=Tryz.isAgg5
 z5:=Tryz.sizeOf5
 v5:=Tryz.zeroValue5
 t9:=Tryz.underlying9
 a9:=Tryz.isAgg9
 z9:=Tryz.sizeOf9
 v9:=Tryz.zeroValue9}
open Go.RowKit in
theorem Tryz.strings_IndexByte(s:ByteArray)(c:Int)(w:World):
  Calls Tryz.prog 156 #[.string s,.int .u8 c] w fun e w'=>e= .returned (.int .i64 (Lib.indexByte s.data.toList c.toNat.toUInt8))/\w'=w:=Any.strings_IndexByte Tryz.lays137 s c w
def Tryz.laysM171_ren:Go.Shelf.Ren:=⟨fun | 171=>201 | 243=>220 | 246=>234 | 283=>242 | 284=>243 | 285=>244 | 286=>245 | 129=>249 | 317=>248 | 318=>250 | 319=>251 | 320=>252 | 337=>253 | 338=>254 | n=>n,fun | 3=>3 | 9=>9 | 2=>2 | 4=>4 | 171=>313 | 0=>0 | 53=>62 | 37=>54 | 5=>5 | 173=>316 | 212=>323 | 51=>324 | 20=>20 | 213=>325 | 46=>145 | 232=>328 | 233=>329 | n=>n,fun | 17=>5 | 18=>6 | 19=>7 | n=>n⟩
theorem Tryz.laysM171:Go.Proofs.LaysM.n171 Tryz.prog Tryz.laysM171_ren:={
 mixed:=by kernel_rfl
 f129:=Tryz.func249.trans (congrArg some (by kernel_rfl))
 f171:=Tryz.func201.trans (congrArg some (by kernel_rfl))
 f243:=Tryz.func220.trans (congrArg some (by kernel_rfl))
 f246:=Tryz.func234.trans (congrArg some (by kernel_rfl))
 f283:=Tryz.func242.trans (congrArg some (by kernel_rfl))
 f284:=Tryz.func243.trans (congrArg some (by kernel_rfl))
 f285:=Tryz.func244.trans (congrArg some (by kernel_rfl))
 f286:=Tryz.func245.trans (congrArg some (by kernel_rfl))
 f317:=Tryz.func248.trans (congrArg some (by kernel_rfl))
 f318:=Tryz.func250.trans (congrArg some (by kernel_rfl))
 f319:=Tryz.func251.trans (congrArg some (by kernel_rfl))
 f320:=Tryz.func252.trans (congrArg some (by kernel_rfl))
 f337:=Tryz.func253.trans (congrArg some (by kernel_rfl))
 f338:=Tryz.func254.trans (congrArg some (by kernel_rfl))
 t0:=Tryz.underlying0
 a0:=Tryz.isAgg0
 z0:=Tryz.sizeOf0
 v0:=Tryz.zeroValue0
 t2:=Tryz.underlying2
 a2:=Tryz.isAgg2
 z2:=Tryz.sizeOf2
 v2:=Tryz.zeroValue2
 t3:=Tryz.underlying3
 a3:=Tryz.isAgg3
 z3:=Tryz.sizeOf3
 v3:=Tryz.zeroValue3
 t4:=Tryz.underlying4
 a4:=Tryz.isAgg4
 z4:=Tryz.sizeOf4
 v4:=Tryz.zeroValue4
 t5:=Tryz.underlying5
 a5:=Tryz.isAgg5
 z5:=Tryz.sizeOf5
 v5:=Tryz.zeroValue5
 t9:=Tryz.underlying9
 a9:=Tryz.isAgg9
 z9:=Tryz.sizeOf9
 v9:=Tryz.zeroValue9
 t20:=Tryz.underlying20
 a20:=Tryz.isAgg20
 z20:=Tryz.sizeOf20
 v20:=Tryz.zeroValue20
 t37:=Tryz.underlying54
 a37:=Tryz.isAgg54
 z37:=Tryz.sizeOf54
 v37:=Tryz.zeroValue54
 t46:=Tryz.underlying145
 a46:=Tryz.isAgg145
 z46:=Tryz.sizeOf145
 v46:=Tryz.zeroValue145
 t51:=Tryz.underlying324
 a51:=Tryz.isAgg324
 z51:=Tryz.sizeOf324
 v51:=Tryz.zeroValue324
 t53:=Tryz.underlying62
 a53:=Tryz.isAgg62
 z53:=Tryz.sizeOf62
 v53:=Tryz.zeroValue62
 t171:=Tryz.underlying313
 a171:=Tryz.isAgg313
 z171:=Tryz.sizeOf313
 v171:=Tryz.zeroValue313
 t173:=Tryz.underlying316
 a173:=Tryz.isAgg316
 z173:=Tryz.sizeOf316
 v173:=Tryz.zeroValue316
 t212:=Tryz.underlying323
 a212:=Tryz.isAgg323
 z212:=Tryz.sizeOf323
 v212:=Tryz.zeroValue323
 t213:=Tryz.underlying325
 a213:=Tryz.isAgg325
 z213:=Tryz.sizeOf325
 t232:=Tryz.underlying328
 a232:=Tryz.isAgg328
 z232:=Tryz.sizeOf328
 v232:=Tryz.zeroValue328
 t233:=Tryz.underlying329
 a233:=Tryz.isAgg329
 z233:=Tryz.sizeOf329
 v233:=Tryz.zeroValue329
 g17:=by kernel_rfl
 g18:=by kernel_rfl
 g19:=by kernel_rfl
 i0:=by kernel_rfl
 i2:=by kernel_rfl
 i3:=by kernel_rfl
 i4:=by kernel_rfl
 i5:=by kernel_rfl
 i9:=by kernel_rfl
 i20:=by kernel_rfl
 i37:=by kernel_rfl
 i46:=by kernel_rfl
 i51:=by kernel_rfl
 i53:=by kernel_rfl
 i171:=by kernel_rfl
 i173:=by kernel_rfl
 i212:=by kernel_rfl
 i232:=by kernel_rfl
 i233:=by kernel_rfl
 m17:=by kernel_rfl
 m18:=by kernel_rfl
 m19:=by kernel_rfl}
open Go.RowKit Go.Sort Go.Lib in
theorem Tryz.strconv_Itoa (n : Int) (h0 : -9223372036854775808 ≤ n) (h1 : n ≤ 9223372036854775807) (w : World) (htab : Lib.TabIs Tryz.prog w "internal/strconv.uint64pow10" .u64 Lib.pow10Tab) :
  Calls Tryz.prog 201 #[.int .i64 n] w fun e w'=>e= .returned (.string ⟨(Lib.itoa n).toArray⟩)/\ ∃k os,w'=grow (w.drewN k) os:=Any.strconv_Itoa Tryz.laysM171 n h0 h1 w htab
def Tryz.laysC172_ren:Go.Shelf.Ren:=⟨fun | 172=>200 | 244=>218 | 245=>219 | 247=>229 | 279=>230 | 280=>231 | 281=>232 | 282=>233 | 287=>239 | 316=>240 | 171=>201 | 205=>241 | 321=>246 | 322=>247 | 243=>220 | 246=>234 | 283=>242 | 284=>243 | 285=>244 | 286=>245 | 129=>249 | 317=>248 | 318=>250 | 319=>251 | 320=>252 | 337=>253 | 338=>254 | n=>n,fun | 9=>9 | 3=>3 | 75=>163 | 76=>164 | 4=>4 | 5=>5 | 167=>298 | 37=>54 | 0=>0 | 85=>299 | 2=>2 | 168=>301 | 53=>62 | 175=>307 | 46=>145 | 210=>311 | 127=>233 | 145=>321 | 143=>319 | 21=>21 | 171=>313 | 173=>316 | 212=>323 | 51=>324 | 20=>20 | 213=>325 | 232=>328 | 233=>329 | 80=>170 | n=>n,fun | 15=>3 | 16=>4 | 17=>5 | 18=>6 | 19=>7 | n=>n⟩
theorem Tryz.laysC172:Go.Proofs.LaysC.n172 Tryz.prog Tryz.laysC172_ren:={
 mixed:=by kernel_rfl
 f129:=Tryz.func249.trans (congrArg some (by kernel_rfl))
 f171:=Tryz.func201.trans (congrArg some (by kernel_rfl))
 f172:=Tryz.func200.trans (congrArg some (by kernel_rfl))
 f205:=Tryz.func241.trans (congrArg some (by kernel_rfl))
 f243:=Tryz.func220.trans (congrArg some (by kernel_rfl))
 f244:=Tryz.func218.trans (congrArg some (by kernel_rfl))
 f245:=Tryz.func219.trans (congrArg some (by kernel_rfl))
 f246:=Tryz.func234.trans (congrArg some (by kernel_rfl))
 f247:=Tryz.func229.trans (congrArg some (by kernel_rfl))
 f279:=Tryz.func230.trans (congrArg some (by kernel_rfl))
 f280:=Tryz.func231.trans (congrArg some (by kernel_rfl))
 f281:=Tryz.func232.trans (congrArg some (by kernel_rfl))
 f282:=Tryz.func233.trans (congrArg some (by kernel_rfl))
 f283:=Tryz.func242.trans (congrArg some (by kernel_rfl))
 f284:=Tryz.func243.trans (congrArg some (by kernel_rfl))
 f285:=Tryz.func244.trans (congrArg some (by kernel_rfl))
 f286:=Tryz.func245.trans (congrArg some (by kernel_rfl))
 f287:=Tryz.func239.trans (congrArg some (by kernel_rfl))
 f316:=Tryz.func240.trans (congrArg some (by kernel_rfl))
 f317:=Tryz.func248.trans (congrArg some (by kernel_rfl))
 f318:=Tryz.func250.trans (congrArg some (by kernel_rfl))
 f319:=Tryz.func251.trans (congrArg some (by kernel_rfl))
 f320:=Tryz.func252.trans (congrArg some (by kernel_rfl))
 f321:=Tryz.func246.trans (congrArg some (by kernel_rfl))
 f322:=Tryz.func247.trans (congrArg some (by kernel_rfl))
 f337:=Tryz.func253.trans (congrArg some (by kernel_rfl))
 f338:=Tryz.func254.trans (congrArg some (by kernel_rfl))
 t0:=Tryz.underlying0
 a0:=Tryz.isAgg0
 z0:=Tryz.sizeOf0
 v0:=Tryz.zeroValue0
 t2:=Tryz.underlying2
 a2:=Tryz.isAgg2
 z2:=Tryz.sizeOf2
 v2:=Tryz.zeroValue2
 t3:=Tryz.underlying3
 a3:=Tryz.isAgg3
 z3:=Tryz.sizeOf3
 v3:=Tryz.zeroValue3
 t4:=Tryz.underlying4
 a4:=Tryz.isAgg4
 z4:=Tryz.sizeOf4
 v4:=Tryz.zeroValue4
 t5:=Tryz.underlying5
 a5:=Tryz.isAgg5
 z5:=Tryz.sizeOf5
 v5:=Tryz.zeroValue5
 t9:=Tryz.underlying9
 a9:=Tryz.isAgg9
 z9:=Tryz.sizeOf9
 v9:=Tryz.zeroValue9
 t20:=Tryz.underlying20
 a20:=Tryz.isAgg20
 z20:=Tryz.sizeOf20
 v20:=Tryz.zeroValue20
 t21:=Tryz.underlying21
 a21:=Tryz.isAgg21
 z21:=Tryz.sizeOf21
 v21:=Tryz.zeroValue21
 t37:=Tryz.underlying54
 a37:=Tryz.isAgg54
 z37:=Tryz.sizeOf54
 v37:=Tryz.zeroValue54
 t46:=Tryz.underlying145
 a46:=Tryz.isAgg145
 z46:=Tryz.sizeOf145
 v46:=Tryz.zeroValue145
 t51:=Tryz.underlying324
 a51:=Tryz.isAgg324
 z51:=Tryz.sizeOf324
 v51:=Tryz.zeroValue324
 t53:=Tryz.underlying62
 a53:=Tryz.isAgg62
 z53:=Tryz.sizeOf62
 v53:=Tryz.zeroValue62
 t75:=Tryz.underlying163
 a75:=Tryz.isAgg163
 z75:=Tryz.sizeOf163
 v75:=Tryz.zeroValue163
 t76:=Tryz.underlying164
 a76:=Tryz.isAgg164
 z76:=Tryz.sizeOf164
 v76:=Tryz.zeroValue164
 t85:=Tryz.underlying299
 a85:=Tryz.isAgg299
 z85:=Tryz.sizeOf299
 v85:=Tryz.zeroValue299
 t127:=Tryz.underlying233
 a127:=Tryz.isAgg233
 z127:=Tryz.sizeOf233
 v127:=Tryz.zeroValue233
 t143:=Tryz.underlying319
 a143:=Tryz.isAgg319
 z143:=Tryz.sizeOf319
 v143:=Tryz.zeroValue319
 t145:=Tryz.underlying321
 a145:=Tryz.isAgg321
 z145:=Tryz.sizeOf321
 v145:=Tryz.zeroValue321
 t167:=Tryz.underlying298
 a167:=Tryz.isAgg298
 z167:=Tryz.sizeOf298
 v167:=Tryz.zeroValue298
 t168:=Tryz.underlying301
 a168:=Tryz.isAgg301
 z168:=Tryz.sizeOf301
 v168:=Tryz.zeroValue301
 t171:=Tryz.underlying313
 a171:=Tryz.isAgg313
 z171:=Tryz.sizeOf313
 v171:=Tryz.zeroValue313
 t173:=Tryz.underlying316
 a173:=Tryz.isAgg316
 z173:=Tryz.sizeOf316
 v173:=Tryz.zeroValue316
 t175:=Tryz.underlying307
 a175:=Tryz.isAgg307
 z175:=Tryz.sizeOf307
 v175:=Tryz.zeroValue307
 t210:=Tryz.underlying311
 a210:=Tryz.isAgg311
 z210:=Tryz.sizeOf311
 v210:=Tryz.zeroValue311
 t212:=Tryz.underlying323
 a212:=Tryz.isAgg323
 z212:=Tryz.sizeOf323
 v212:=Tryz.zeroValue323
 t213:=Tryz.underlying325
 a213:=Tryz.isAgg325
 z213:=Tryz.sizeOf325
 t232:=Tryz.underlying328
 a232:=Tryz.isAgg328
 z232:=Tryz.sizeOf328
 v232:=Tryz.zeroValue328
 t233:=Tryz.underlying329
 a233:=Tryz.isAgg329
 z233:=Tryz.sizeOf329
 v233:=Tryz.zeroValue329
 g15:=by kernel_rfl
 g16:=by kernel_rfl
 g17:=by kernel_rfl
 g18:=by kernel_rfl
 g19:=by kernel_rfl
 t80:=Tryz.underlying170
 a80:=Tryz.isAgg170
 z80:=Tryz.sizeOf170
 v80:=Tryz.zeroValue170
 i0:=by kernel_rfl
 i2:=by kernel_rfl
 i3:=by kernel_rfl
 i4:=by kernel_rfl
 i5:=by kernel_rfl
 i9:=by kernel_rfl
 i20:=by kernel_rfl
 i21:=by kernel_rfl
 i37:=by kernel_rfl
 i46:=by kernel_rfl
 i51:=by kernel_rfl
 i53:=by kernel_rfl
 i75:=by kernel_rfl
 i76:=by kernel_rfl
 i80:=by kernel_rfl
 i85:=by kernel_rfl
 i127:=by kernel_rfl
 i143:=by kernel_rfl
 i145:=by kernel_rfl
 i167:=by kernel_rfl
 i168:=by kernel_rfl
 i171:=by kernel_rfl
 i173:=by kernel_rfl
 i175:=by kernel_rfl
 i210:=by kernel_rfl
 i212:=by kernel_rfl
 i232:=by kernel_rfl
 i233:=by kernel_rfl
 m15:=by kernel_rfl
 m16:=by kernel_rfl
 m17:=by kernel_rfl
 m18:=by kernel_rfl
 m19:=by kernel_rfl
 c0:=by kernel_rfl
 c2:=by kernel_rfl
 c3:=by kernel_rfl
 c4:=by kernel_rfl
 c5:=by kernel_rfl
 c9:=by kernel_rfl
 c20:=by kernel_rfl
 c21:=by kernel_rfl
 c37:=by kernel_rfl
 c46:=by kernel_rfl
 c51:=by kernel_rfl
 c53:=by kernel_rfl
 c75:=by kernel_rfl
 c76:=by kernel_rfl
 c80:=by kernel_rfl
 c85:=by kernel_rfl
 c127:=by kernel_rfl
 c143:=by kernel_rfl
 c145:=by kernel_rfl
 c167:=by kernel_rfl
 c168:=by kernel_rfl
 c171:=by kernel_rfl
 c173:=by kernel_rfl
 c175:=by kernel_rfl
 c210:=by kernel_rfl
 c212:=by kernel_rfl
 c213:=by kernel_rfl
 c232:=by kernel_rfl
 c233:=by kernel_rfl}
open Go.RowKit in
theorem Tryz.strconv_Atoi_ok(s:ByteArray)(hmax:s.size<=9223372036854775806)(v:Int)(h:Lib.atoiAll s.data.toList= .ok v)(w:World):
  Calls Tryz.prog 200 #[.string s] w fun e w'=>e= .returned (.tuple #[.int .i64 v,.nilIface])/\(w'=w\/ ∃t,w'=Lib.bytesWorld w 5 t):=Any.strconv_Atoi_ok Tryz.laysC172 s hmax v h w
def atoiBad(s:ByteArray):Bool:=match Lib.atoiAll s.data.toList with
 | .ok _=>false
 | .range =>false
 | _=>true
open Go.RowKit in
theorem Tryz.strconv_Atoi_bad(s:ByteArray)(hlim:s.size<=281474976710656)(h:atoiBad s=true)(ev:Value)(w:World)(hv:w.cell? ⟨3,0,none⟩=some ev)(hev:ev= .nilIface \/ ∃te pe,ev= .iface te pe):
  Calls Tryz.prog 200 #[.string s] w fun e w'=> ∃N,e= .returned (.tuple #[.int .i64 (0),.iface 301 (.pointer (some ⟨N,0,none⟩))])/\w.heap.size<=N/\w'.heap[N]? =some (.cells #[.string ⟨#[65,116,111,105]⟩,.string s,ev] 311 (0,0))/\Below w.heap.size w w':=by
 unfold atoiBad at h;cases hr:Lib.atoiAll s.data.toList with
 | ok v=>rw[hr]at h; cases h
 | range=>rw[hr]at h; cases h
 | _=>exact Any.strconv_Atoi_syntax Tryz.laysC172 s hlim hr ev w hv hev
open Go.RowKit in
theorem Tryz.strconv_Atoi_range(s:ByteArray)(hlim:s.size<=281474976710656)(h:Lib.atoiAll s.data.toList= .range)(ev:Value)(w:World)(hv:w.cell? ⟨4,0,none⟩=some ev)(hev:ev= .nilIface \/ ∃te pe,ev= .iface te pe):
  Calls Tryz.prog 200 #[.string s] w fun e w'=> ∃N,e= .returned (.tuple #[.int .i64 (Lib.atoiSat s.data.toList),.iface 301 (.pointer (some ⟨N,0,none⟩))])/\w.heap.size<=N/\w'.heap[N]? =some (.cells #[.string ⟨#[65,116,111,105]⟩,.string s,ev] 311 (0,0))/\Below w.heap.size w w':=Any.strconv_Atoi_range Tryz.laysC172 s hlim h ev w hv hev
end
set_option maxHeartbeats 1000000
def zDN(f:Nat->Nat):List AV:=(List.range 256).map fun b=>AV.d (eU8 (f b))
def tabD(f:Nat->Nat):List D:=(List.range 256).map fun b=>eU8 (f b)
def upF(f:Nat->Nat)(j v:Nat):Nat->Nat:=fun b=>if b=j then v else f b
def zTb:List Value:=(List.range 256).map fun _=>Value.int .u8 0
theorem tZ182:zad Tryz.prog 182=some zTb:=by kernel_rfl
theorem zTb_map:zTb.map zdB=zDN fun _=>0:=by
 unfold zTb zDN;rw[List.map_map];rfl
theorem zBo(f:Nat->Nat):(zDN f).length =256:=by simp[zDN]
theorem zDC(f:Nat->Nat):(tabD f).map AV.d=zDN f:=by
 unfold zDN tabD;rw[List.map_map];rfl
theorem zHo(f:Nat->Nat)(j v:Nat)(hj:j<256):(zDN f).take j++(AV.d (.lit (.int .u8 v))::(zDN f).drop (j+1))=zDN (upF f j v):=by
 apply List.ext_getElem
 ·simp[zBo]; omega
 intro i h1 h2;simp only[List.getElem_append,List.length_take,zBo,List.getElem_take,List.getElem_cons,List.getElem_drop,Nat.min_eq_left (Nat.le_of_lt hj)];have hi:i<256:=by rw[zBo]at h2; exact h2
 simp only[zDN,List.getElem_map,List.getElem_range,upF,eU8];by_cases c1:i<j
 ·simp[c1,show i≠j by omega]
 ·by_cases c2:i=j
  ·subst c2; simp
  ·simp[c1,c2,show i-j≠0 by omega,show j+1+(i-j-1)=i by omega]
theorem tab_ones(O:zbI)(f:Nat->Nat):ones O (zDN f):=by
 unfold zDN
 induction List.range 256 with
 | nil=>trivial
 | cons b l ih=>exact⟨rfl,ih⟩
theorem zHU(l:List Nat)(f:Nat->Nat):AV.noRefs l (zDN f)=True:=by
 refine eq_true ?_;unfold zDN
 induction List.range 256 with
 | nil=>trivial
 | cons b l ih=>exact⟨trivial,ih⟩
def f1(i:Nat):Nat->Nat:=fun b=>if 97<=b/\b<97+i then 1 else 0
def f2(i:Nat):Nat->Nat:=fun b=>if 48<=b/\b<48+i then 2 else f1 26 b
def zDJ:List Nat:=[40,41,123,125,91,93,44,59,58,61,43,45,38,124,94,126,60,63,64,35,46]
def f3(i:Nat):Nat->Nat:=fun b=>if (zDJ.take i).contains b then 4 else f2 10 b
def zCs:Nat->Nat:=upF (upF (f3 21) 32 3) 10 3
theorem f1_succ(i:Nat):upF (f1 i) (97+i) 1=f1 (i+1):=by
 funext b;unfold upF f1;by_cases h:b=97+i
 ·subst h; simp
 ·have:(97<=b/\b<97+(i+1))↔(97<=b/\b<97+i):=by omega
  simp only[h,if_false,this]
theorem f2_succ(i:Nat):upF (f2 i) (48+i) 2=f2 (i+1):=by
 funext b;unfold upF f2;by_cases h:b=48+i
 ·subst h; simp
 ·have:(48<=b/\b<48+(i+1))↔(48<=b/\b<48+i):=by omega
  simp only[h,if_false,this]
theorem f3_succ{i:Nat}(h:i<21):upF (f3 i) (zDJ.getD i 0) 4=f3 (i+1):=by
 have hl:i<zDJ.length:=h;funext b;unfold upF f3;rw[List.take_succ_eq_append_getElem hl,List.contains_append];have e:zDJ.getD i 0=zDJ[i]:=by simp[List.getD,hl]
 rw[e];by_cases hb:b=zDJ[i]
 ·subst hb; simp
 ·have:[zDJ[i]].contains b=false:=by simp[hb]
  rw[this];simp[hb]
theorem wrap32{i:Nat}(h:i<2147483647):IntKind.i32.wrap ((i:Int)+1)=((i+1:Nat):Int):=by
 unfold IntKind.wrap; simp[IntKind.bits,IntKind.signed]; omega
def sgnB:ByteArray:=⟨#[40,41,123,125,91,93,44,59,58,61,43,45,38,124,94,126,60,63,64,35,46]⟩
theorem sgnB_eq:(⟨#[40,41,123,125,91,93,44,59,58,61,43,45,38,124,94,126,60,63,64,35,46]⟩:ByteArray)=sgnB:=rfl
theorem sgnB_size:sgnB.size=21:=rfl
theorem sgnB_get{i:Nat}(h:i<21):(sgnB.data.getD i 0).toNat =zDJ.getD i 0/\zDJ.getD i 0<128:=by
 have: ∀i:Fin 21,(sgnB.data.getD i.1 0).toNat =zDJ.getD i.1 0/\zDJ.getD i.1 0<128:=by decide
 exact this ⟨i,h⟩
theorem zE1:FnP Tryz.prog 101 [] (.d (.agg (tabD zCs))) []:=by
 refine FnP.of_eC (own:=[]) (fun _=>[]) zat Tryz.func101 rfl Tryz.call101 Tryz.ntmps101 (zle rfl) Tryz.results101 (fun hok=> ?_);have z1:(zDN fun _=>0)=zDN (f1 0):=by congr 1; funext b; unfold f1; rw[if_neg (by omega)]
 have z2:f1 26=f2 0:=by funext b; unfold f2; rw[if_neg (by omega)]
 have z3:f2 10=f3 0:=by funext b; simp[f3]
 simp only[ZE,seval,tZ182,zTb_map,zHU];refine za1 (fun _=>[]) zat 26 (fun _=>True) (fun i=>([(0,.bp 0 0),(1,.bp 1 0),(2,.d (.lit (.int .i32 ((97+i:Nat):Int))))],[(0,.box (zDN fun _=>0)),(1,.box (zDN (f1 i)))])) trivial ?_ ?_ (fun i hi _=> ?_)
 ·simp only[ZE,seval]
 ·simp only[ZE,seval,<-z1]
 rcases waj i 26 with h | h
 ·have e1:decide (((97+i:Nat):Int)<=122)=true:=by simp; omega
  have e2:((0:Int)<=((97+i:Nat):Int)/\((97+i:Nat):Int)<256)=True:=by simp; omega
  have e3:=zHo (f1 i) (97+i) 1 (by omega);have e4:=wrap32 (show 97+i<2147483647 by omega);rw[f1_succ]at e3;simp only[ZE,seval]at e3;simp only[ZE,seval,e1,e2,e3,e4,wai,zBo,wae,wag,waf,Nat.mul_one,Nat.zero_add];exact⟨by omega,h,rfl⟩
 have hi26:i=26:=by omega
 subst hi26;simp only[ZE,seval,z2,zN];refine za1 (fun _=>[]) zat 10 (fun _=>True) (fun i=>([(0,.bp 0 0),(1,.bp 1 0),(3,.d (.lit (.int .i32 ((48+i:Nat):Int))))],[(0,.box (zDN fun _=>0)),(1,.box (zDN (f2 i)))])) trivial ?_ ?_ (fun i hi _=> ?_)
 ·simp only[ZE,seval]
 ·simp only[ZE,seval]
 rcases waj i 10 with h | h
 ·have e1:decide (((48+i:Nat):Int)<=57)=true:=by simp; omega
  have e2:((0:Int)<=((48+i:Nat):Int)/\((48+i:Nat):Int)<256)=True:=by simp; omega
  have e3:=zHo (f2 i) (48+i) 2 (by omega);have e4:=wrap32 (show 48+i<2147483647 by omega);rw[f2_succ]at e3;simp only[ZE,seval]at e3;simp only[ZE,seval,e1,e2,e3,e4,wai,zBo,wae,wag,waf,Nat.mul_one,Nat.zero_add];exact⟨by omega,h,rfl⟩
 have hi26:i=10:=by omega
 subst hi26;simp only[ZE,seval,z3,sgnB_eq,zHU,zN];refine za1 (fun _=>[]) zat 21 (fun _=>True) (fun i=>([(0,.bp 0 0),(1,.bp 1 0),(18,.mo 18)],[(0,.box (zDN fun _=>0)),(1,.box (zDN (f3 i))),(18,.sit sgnB i)])) trivial ?_ ?_ (fun i hi _=> ?_)
 ·simp only[ZE,seval]
 ·simp only[ZE,seval]
 rcases waj i 21 with h | h
 ·obtain⟨g1,g2⟩:=sgnB_get h;have hlt:i<sgnB.size:=h;have hf:=f3_succ h;obtain⟨v,hv⟩:=zX (zDJ.getD i 0);rw[hv]at hf g1 g2;have e2:((0:Int)<=((v:Nat):Int)/\((v:Nat):Int)<256)=True:=by simp; omega
  have e3:=zHo (f3 i) v 4 (by omega);rw[hf]at e3;simp only[ZE,seval]at e3;simp only[ZE,seval,hlt,g1,e2,e3,wai,zBo,wae,wag,waf,Nat.mul_one,Nat.zero_add];exact⟨g2,by omega,h⟩
 have hi26:i=21:=by omega
 subst hi26;have e5:=zHo (f3 21) 32 3 (by omega);have e6:=zHo (upF (f3 21) 32 3) 10 3 (by omega);simp only[ZE,seval]at e5;simp only[ZE,seval]at e6;simp only[ZE,seval,sgnB_size,zN];trivial
def scA(s:ByteArray)(a:Int)(tk:AV):List AV:=.d (.lit (.string s)):: .d (.lit (.int .i64 a))::(zDN zCs++[tk])
theorem zAg(s:ByteArray)(a:Int)(tk:AV):(scA s a tk).length =259:=by simp[scA,zBo]
theorem zAm(s:ByteArray)(a:Int)(tk:AV):(scA s a tk).headD .dead = .d (.lit (.string s)):=rfl
theorem zAn(s:ByteArray)(a:Int)(tk:AV):((scA s a tk).drop 1).headD .dead = .d (.lit (.int .i64 a)):=rfl
theorem sc_h2(s:ByteArray)(a:Int)(tk:AV){j:Nat}(h:j<256):((scA s a tk).drop (2+j)).headD .dead = .d (.lit (.int .u8 (zCs j))):=by
 have e:(scA s a tk).drop (2+j)=(zDN zCs++[tk]).drop j:=by rw[Nat.add_comm]; rfl
 rw[e,List.drop_append_of_le_length (by rw[zBo]; omega),List.drop_eq_getElem_cons (by rw[zBo]; exact h)];simp[zDN,eU8]
theorem zAo(s:ByteArray)(a:Int)(tk:AV):((scA s a tk).drop 258).headD .dead =tk:=by
 have e:(scA s a tk).drop 258=(zDN zCs++[tk]).drop 256:=rfl;rw[e,List.drop_append_of_le_length (by rw[zBo]; exact wak _),List.drop_of_length_le (by rw[zBo]; exact wak _)];rfl
theorem zAf(s:ByteArray)(a b:Int)(tk:AV):(scA s a tk).take 1++(.d (.lit (.int .i64 b))::(scA s a tk).drop 2)=scA s b tk:=rfl
theorem zAh(r:List (Nat×Nat))(s:ByteArray)(a:Int)(tk:AV):AV.renL r (scA s a tk)=scA s a (tk.ren r):=by
 have key: ∀l:List Nat,AV.renL r ((l.map fun b=>AV.d (eU8 (zCs b)))++[tk])=(l.map fun b=>AV.d (eU8 (zCs b)))++[tk.ren r]:=by
  intro l
  induction l with
  | nil=>rfl
  | cons b l ih=>simp only[wab,wag,AV.renL,ih,AV.ren]
 unfold scA;simp only[AV.renL,AV.ren];rw[show zDN zCs=(List.range 256).map fun b=>AV.d (eU8 (zCs b))from rfl,key]
theorem zAe(l:List Nat)(s:ByteArray)(a:Int)(tk:AV):AV.noRefs l (scA s a tk)=tk.noRef l:=by
 have key: ∀k:List Nat,AV.noRefs l ((k.map fun b=>AV.d (eU8 (zCs b)))++[tk])=tk.noRef l:=by
  intro k
  induction k with
  | nil=>simp[AV.noRefs]
  | cons b k ih=>simp only[wab,wag,AV.noRefs,ih,AV.noRef,true_and]
 unfold scA;simp only[AV.noRefs,AV.noRef,true_and];exact key _
theorem byte_lt(s:ByteArray)(i:Nat):(s.data.getD i 0).toNat <256:=UInt8.toNat_lt _
def isF(s:ByteArray)(a k:Nat)(cl:List Nat):Bool:=decide (a+k<s.size)&&cl.any fun c=>decide (zCs (s.data.getD (a+k) 0).toNat =c)
def zFW(s p:ByteArray):Bool:=decide (p.size<=s.size)&&((s.extract 0 p.size).toList ==p.toList)
theorem hasPre0_c(s p:ByteArray):FnP Tryz.prog 198 [.lit (.string s),.lit (.string p)] (.d (eB (zFW s p))) []:=by
 refine FnP.of_eC (own:=[]) (fun _=>[]) zat Tryz.func198 rfl Tryz.call198 Tryz.ntmps198 (zle rfl) Tryz.results198 (fun hok=> ?_);by_cases h:p.size<=s.size
 ·have e1:decide ((s.size:Int)>=(p.size:Int))=true:=by simp; omega
  have e2:((0:Int)<=(p.size:Int)/\(p.size:Int)<=(s.size:Int))=True:=by simp; omega
  have e3:zFW s p=((s.extract 0 p.size).toList ==p.toList):=by unfold zFW; simp[h]
  simp only[ZE,seval,e1,e2,e3,wai]
 ·have e1:decide ((s.size:Int)>=(p.size:Int))=false:=by simp; omega
  have e3:zFW s p=false:=by unfold zFW; simp[h]
  simp only[ZE,seval,e1,e3]
theorem zEa(s p:ByteArray):FnP Tryz.prog 155 [.lit (.string s),.lit (.string p)] (.d (eB (zFW s p))) []:=by
 refine FnP.of_eC (own:=[]) (fun _=>[]) zat Tryz.func155 rfl Tryz.call155 Tryz.ntmps155 (zle rfl) Tryz.results155 (fun hok=> ?_);have h:=hasPre0_c s p;simp only[ZE,seval];refine EFn.p ?_;simp only[ZE,seval];have hc:=h;simp only[ZE,seval]at hc;refine zar.i hc ?_;clear hc;simp only[ZE,seval]
def zSc:List Value:=.string ⟨#[]⟩:: .int .i64 0::(zTb++[.slice none 0 0])
theorem tZ185:zad Tryz.prog 185=some zSc:=by kernel_rfl
def zS:List AV:=zSc.map zdB
theorem zHX:zS.length=259:=rfl
theorem zF7:(zS.drop 1).length =258:=rfl
theorem zFZ(s:ByteArray):(AV.d (D.lit (Value.string s))::(List.take 1 (List.drop 1 zS)++zDN zCs++List.drop 257 (List.drop 1 zS)))=scA s 0 .nils :=by
 have e1:List.take 1 (List.drop 1 zS)=[.d (.lit (.int .i64 0))]:=rfl;have e2:List.drop 257 (List.drop 1 zS)=[.nils]:=by kernel_rfl
 rw[e1,e2];rfl
theorem zFY(s:ByteArray)(a:Int):zwy (scA s a .nils)=none:=by
 have key: ∀k:List Nat,zwy ((k.map fun b=>AV.d (eU8 (zCs b)))++[.nils])=none:=by
  intro k
  induction k with
  | nil=>rfl
  | cons b k ih=>simp only[wab,wag,zwy,ih,Option.map_none]
 unfold scA zDN;simp only[zwy,key,Option.map_none]
theorem zF0(O:zbI)(s:ByteArray)(a:Int):ones O (scA s a .nils)=True:=by
 have key: ∀k:List Nat,ones O ((k.map fun b=>AV.d (eU8 (zCs b)))++[.nils]):=by
  intro k
  induction k with
  | nil=>exact⟨trivial,trivial⟩
  | cons b k ih=>exact⟨rfl,ih⟩
 exact eq_true ⟨rfl,rfl,key _⟩
theorem zDk(O:zbI)(f:Nat->Nat):ones O (zDN f)=True:=eq_true (tab_ones O f)
set_option maxHeartbeats 2000000
structure GP where
 kR:List D
 vR:List D
 bR:List Nat
 cR:Nat
 kO:List D
 vO:List D
 bO:List Nat
 cO:Nat
 t1:TypeId
 x1:D
 t2:TypeId
 x2:D
def zEg:Array Value:=(Go.Lib.pow10Tab.map fun z=>Value.int .u64 z).toArray
def GP.cs(Z:GP):List AV:=[.d (.ptr [.mp Z.kR Z.vR Z.bR Z.cR]),.d (.ptr [.mp Z.kO Z.vO Z.bO Z.cO]),.d (.ptr [.ifc Z.t1 Z.x1]),.d (.ptr [.ifc Z.t2 Z.x2]),.d (.lit (.tuple #[.pointer (some ⟨5,0,none⟩),.agg zEg]))]
def GP.vs(_:GP):List Value:=[.pointer (some ⟨0,0,none⟩),.pointer (some ⟨1,0,none⟩),.pointer (some ⟨3,0,none⟩),.pointer (some ⟨4,0,none⟩),.tuple #[.pointer (some ⟨5,0,none⟩),.agg zEg]]
def GP.o(Z:GP):AO:=.gh Z.cs Z.vs
theorem GP.ren(Z:GP)(r:List (Nat×Nat)):AV.renL r Z.cs=Z.cs:=by simp[GP.cs,AV.renL,AV.ren]
theorem GP.noRefs(Z:GP)(l:List Nat):AV.noRefs l Z.cs=True:=by simp[GP.cs,AV.noRefs,AV.noRef]
theorem GP.fz(Z:GP)(id:Nat)(d:D)(m:Option Nat):AV.fz.fzL id d m Z.cs=Z.cs:=by simp[GP.cs,AV.fz.fzL,AV.fz]
theorem GP.g0(Z:GP):gloR 0 Z.cs Z.vs=some [.mp Z.kR Z.vR Z.bR Z.cR]:=by simp[GP.cs,GP.vs,gloR]
theorem GP.g1(Z:GP):gloR 1 Z.cs Z.vs=some [.mp Z.kO Z.vO Z.bO Z.cO]:=by simp[GP.cs,GP.vs,gloR]
def GZ:=And.intro @GP.o.eq_1 (And.intro @GP.ren (And.intro @GP.noRefs (And.intro @GP.fz (And.intro @GP.g0 @GP.g1))))
def zHK:=And.intro @hdH.eq_1 (And.intro @hdH.eq_2 (And.intro @kpH.eq_1 (And.intro @kpH.eq_2 (And.intro @hdl.eq_def @zpC.eq_def))))
def zHH:=And.intro @zAp.eq_1 (And.intro @zAp.eq_2 (And.intro @zAq.eq_1 (And.intro @zAq.eq_2 (And.intro GZ (And.intro @zAj.eq_def (And.intro @ghK.eq_def (And.intro @zAi.eq_def zHK)))))))
abbrev Tok:=Nat×ByteArray×Nat
def zJb(t:Tok):List D:=[eI t.1,.lit (.string t.2.1),eI t.2.2]
def tkO(T:List Tok):AO:=.arr 49 3 .flat (T.map zJb)
def scO(Z:GP)(s:ByteArray)(a:Nat)(T:List Tok):OL:=[(1,.box (scA s a (.ar 2 T.length))),(2,tkO T),(7777777,Z.o)]
theorem zHl(Z:GP)(s:ByteArray)(a:Nat)(T:List Tok)(args:List AV)(ha:AV.noRefs [1999] args):
  (zyk 1999 (scO Z s a T)/\AV.noRefs [1999] args)/\zCV (om (scO Z s a T)) [.ar 2 T.length]/\AV.noRefs [1999] [.ar 2 T.length]:=by
 simp[scO,tkO,GZ,zyk,AO.noRef,zAe,AV.noRefs,AV.noRef,zCV,om,ha]
theorem is_g(Z:GP)(s:ByteArray)(a k:Nat)(T:List Tok)(cl:List Nat)(hs:s.size<=9223372036854775807)(ha:a+k<=9223372036854775807)(hcl:cl.length<=1000):
  FnL Tryz.prog 154 [.bp 1 0,.d (eI k),.d (eBy cl)] (scO Z s a T) (fun V ol new=>V= .d (eB (isF s a k cl))/\ol=scO Z s a T/\new=[]):=by
 refine FnL.srt (FnL.of_eH 1999 [.ar 2 T.length] (own:=[]) chL [0] zat Tryz.func154 rfl Tryz.call154 Tryz.ntmps154 (zle rfl) Tryz.results154 (zHl Z s a T _ (by simp[AV.noRefs,AV.noRef])) (fun gs=> ?_));have hw:=zaQ (x:=((a+k:Nat):Int)) (by omega) (by omega);rw[Int.natCast_add]at hw;by_cases hk:a+k<s.size
 ·have e1:decide ((a:Int)+(k:Int)>=(s.size:Int))=false:=by simp; omega
  obtain⟨v,hv⟩:=zX ((s.data.getD (a+k) 0).toNat);have hv2:v<256:=hv▸byte_lt s (a+k);have hF:isF s a k cl=cl.any fun c=>decide (zCs v=c):=by unfold isF; rw[hv]; simp[hk]
  have e2:((0:Int)<=(a:Int)+(k:Int)/\(a:Int)+(k:Int)<(s.size:Int))=True:=by simp; omega
  have e3:((a:Int)+(k:Int)).toNat =a+k:=by omega
  have e4:((0:Int)<=(v:Int)/\(v:Int)<256)=True:=by simp; omega
  have e5:=sc_h2 s a (.ar 2 T.length) hv2;rw[hF];obtain⟨w,hw2⟩:=zX (zCs v);rw[hw2]at e5 ⊢;simp only[ZE,seval,hw,e1,scO,tkO,zAg,zAm,zAn,zAo,zAf,zAh,zAe];refine⟨by kernel_rfl,?_⟩;refine za1 chL zat cl.length (fun i=> ∀j (h:j<cl.length),j<i->w≠cl[j]) (fun i=>([(0,.bp 1 0),(1,.d (eI k)),(21,.d (eBy cl)),(22,.d (eI cl.length)),(23,.d (eI i))],[(1,.box (scA s a (.ar 2 T.length))),(2,tkO T),(1999,.gh [.ar 2 T.length] gs),(7777777,Z.o)])) (fun j h hj=>by omega) ?_ ?_ (fun i hi hI=> ?_)
  ·simp only[ZE,seval]
  ·simp only[ZE,seval,tkO]
  rcases waj i cl.length with h | h
  ·have hwi:=zaq (show i<9223372036854775807 by omega);by_cases he:w=cl[i]
   ·have c1:((w:Int)==(cl[i]:Int))=true:=(by simp[he]);have c2:(cl.any fun c=>decide (w=c))=true:=List.any_eq_true.2 ⟨cl[i],List.getElem_mem h,by simp[he]⟩;simp only[ZE,seval,zaw h,zai h,zaa h,hw,hv,e2,e3,e4,e5,c1,c2,scO,tkO,zAg,zAm,zAn,zAo,zAf,zAh,zAe];refine⟨by kernel_rfl,by omega,[1999],[],?_⟩;simp only[ZE,seval,zht,AV.core,zAp.eq_1,zAp.eq_2,zAq.eq_1,zAq.eq_2,GZ,ghK.eq_def,zAj.eq_def,zAi.eq_def,zHK,scO,tkO,zAg,zAm,zAn,zAo,zAf,zAh,zAe]
   ·have c1:((w:Int)==(cl[i]:Int))=false:=(by simp; omega);simp only[ZE,seval,zaw h,zai h,zaa h,hw,hv,e2,e3,e4,e5,c1,hwi,scO,tkO,zAg,zAm,zAn,zAo,zAf,zAh,zAe];refine⟨by kernel_rfl,by omega,h,fun j hj hji=> ?_⟩;rcases waj j i with h2 | h2
    ·exact hI j hj h2
    ·have:j=i:=(by omega);subst this;exact he
  ·have c2:(cl.any fun c=>decide (w=c))=false:=by
    rw[List.any_eq_false];intro c hc;obtain⟨j,hj,rfl⟩:=List.mem_iff_getElem.1 hc;simpa using hI j hj (by omega)
   simp only[ZE,seval,zaI h,c2];refine⟨[1999],[],?_⟩;simp only[ZE,seval,zht,AV.core,zAp.eq_1,zAp.eq_2,zAq.eq_1,zAq.eq_2,GZ,ghK.eq_def,zAj.eq_def,zAi.eq_def,zHK,scO,tkO,zAg,zAm,zAn,zAo,zAf,zAh,zAe]
 ·have e1:decide ((a:Int)+(k:Int)>=(s.size:Int))=true:=by simp; omega
  have e2:isF s a k cl=false:=by unfold isF; simp[hk]
  simp only[ZE,seval,hw,e1,e2,scO,tkO,zAg,zAm,zAn,zAo,zAf,zAh,zAe];refine⟨by kernel_rfl,[1999],[],?_⟩;simp only[ZE,seval,zht,AV.core,zAp.eq_1,zAp.eq_2,zAq.eq_1,zAq.eq_2,GZ,ghK.eq_def,zAj.eq_def,zAi.eq_def,zHK,scO,tkO,zAg,zAm,zAn,zAo,zAf,zAh,zAe]
theorem tok_snoc(T:List Tok)(t:Tok):T.map zJb++[zJb t]=(T++[t]).map zJb:=by rw[List.map_append]; rfl
theorem sc_set3(s:ByteArray)(a:Int)(tk x:AV):(scA s a tk).take 258++[x]++(scA s a tk).drop 259=scA s a x:=by
 have e:(scA s a tk).take 258= .d (.lit (.string s)):: .d (.lit (.int .i64 a))::(zDN zCs++[tk]).take 256:=rfl;rw[e,List.take_append_of_le_length (by rw[zBo]; exact wak _),wad (by rw[zBo]; exact wak _),List.drop_of_length_le (by rw[zAg]; exact wak _),List.append_nil];rfl
theorem zGQ(s:ByteArray)(a b:Int)(tk:AV):(scA s a tk).take 1++[.d (.lit (.int .i64 b))]++(scA s a tk).drop 2=scA s b tk:=rfl
theorem take_g(Z:GP)(s:ByteArray)(a k n:Nat)(T:List Tok)(hs:s.size<=1000000)(ha:a+n<=s.size)(hT:T.length<=1000000):
  FnL Tryz.prog 105 [.bp 1 0,.d (eI k),.d (eI n)] (scO Z s a T) (fun V ol new=>V= .d (eB true)/\ol=scO Z s (a+n) (T++[(k,s.extract a (a+n),a)])/\new=[]):=by
 refine FnL.srt (FnL.of_eH 1999 [.ar 2 T.length] (own:=[]) (fun i=>if i=2001 then [.flt ⟨[(0,none),(1,none),(2,none),(3,none),(4,none),(5,none),(6,none),(7,none),(8,none),(9,none),(10,none),(11,none),(12,none),(13,none),(14,none),(15,none),(16,none),(17,none),(18,none),(19,none),(20,none),(21,none),(22,none),(23,none),(24,none),(25,none),(26,none),(27,some [0,14]),(28,none),(29,none),(30,some [])]⟩ ⟨[],[]⟩]else []) [0] zat Tryz.func105 rfl Tryz.call105 Tryz.ntmps105 (zle rfl) Tryz.results105 (zHl Z s a T _ (by simp[AV.noRefs,AV.noRef])) (fun gs=> ?_));have hw:=zaQ (x:=((a+n:Nat):Int)) (by omega) (by omega);rw[Int.natCast_add]at hw;have e1:((0:Int)<=(a:Int)/\(a:Int)<=(a:Int)+(n:Int)/\(a:Int)+(n:Int)<=(s.size:Int))=True:=by simp; omega
 have e3:((a:Int)+(n:Int)).toNat =a+n:=by omega
 have htk:T.map zJb++[[D.lit (.int .i64 (k:Int)),D.lit (.string (s.extract a (a+n))),D.lit (.int .i64 (a:Int))]]=(T++[(k,s.extract a (a+n),a)]).map zJb:=tok_snoc T (k,s.extract a (a+n),a);simp only[ZE,seval,hw,e1,e3,wai,scO,tkO,zAg,zAm,zAn,zAo,zAf,zAh,zAe,sc_set3,zGQ,htk];refine⟨by kernel_rfl,⟨by omega,by omega⟩,by simp,?_⟩;simp only[ZE,seval,zAp.eq_1,zAp.eq_2,zAq.eq_1,zAq.eq_2,GZ,ghK.eq_def,zAj.eq_def,zAi.eq_def,zHK];refine⟨[1999],[],?_⟩;simp only[ZE,seval,zht,AV.core,zAp.eq_1,zAp.eq_2,zAq.eq_1,zAq.eq_2,GZ,ghK.eq_def,zAj.eq_def,zAi.eq_def,zHK,scO,tkO,zAg,zAm,zAn,zAo,zAf,zAh,zAe,List.length_append,waa,wac,Int.natCast_add]
open Go.Aw Go.RowKit
theorem indexByte_c(s:ByteArray):FnP Tryz.prog 156 [.lit (.string s),.lit (.int .u8 10)] (.d (.lit (.int .i64 (Go.Lib.indexByte s.data.toList 10)))) []:=by
 refine FnP.of_raw (fun W ags=>by kernel_rfl) _ _ (fun W F vs hr=> ?_);simp only[zav,Rd]at hr;obtain⟨_,_,rfl,rfl,_,_,rfl,rfl,rfl⟩:=hr;refine(Tryz.strings_IndexByte s 10 W).mono ?_;rintro e W' ⟨rfl,rfl⟩;exact⟨_,rfl,Below.refl _ _,fun F' _ _ η=>by simp[zaL,Rd]⟩
def atoiR(s:ByteArray):Int×D:=
 match Go.Lib.atoiAll s.data.toList with
 | .ok v=>(v,.lit .nilIface)
 | .range =>(Go.Lib.atoiSat s.data.toList,.ifc 301 (.ptr []))
 | _=>(0,.ifc 301 (.ptr []))
theorem GP.glo{O:zbI}{W:World}{F:Nat->Prop}{η:Nat->Value}{v:Value}{S:List Nat}{Z:GP}(h:zj1 O W F η v S Z.o):
  (∃v,W.cell? ⟨3,0,none⟩=some (.iface Z.t1 v))/\(∃v,W.cell? ⟨4,0,none⟩=some (.iface Z.t2 v))/\ ∃e z,W.heap[5]? =some (.cells zEg e z):=by
 obtain⟨⟨_,hm⟩,hr⟩:=h;refine⟨?_,?_,(hm 5 zEg (by simp[GP.vs])).2⟩
 ·have:=zE8 (g:=3) hr (ds:=[.ifc Z.t1 Z.x1]) (by simp[GP.cs,GP.vs,gloR]);simp only[Rd,zbd]at this;obtain⟨b,off,h1,_,⟨v,h2,w,rfl,_⟩,_⟩:=this;simp only[Value.pointer.injEq,Option.some.injEq,Addr.mk.injEq,and_true]at h1;obtain⟨rfl,rfl⟩:=h1;exact⟨w,h2⟩
 ·have:=zE8 (g:=4) hr (ds:=[.ifc Z.t2 Z.x2]) (by simp[GP.cs,GP.vs,gloR]);simp only[Rd,zbd]at this;obtain⟨b,off,h1,_,⟨v,h2,w,rfl,_⟩,_⟩:=this;simp only[Value.pointer.injEq,Option.some.injEq,Addr.mk.injEq,and_true]at h1;obtain⟨rfl,rfl⟩:=h1;exact⟨w,h2⟩
theorem atoi_c(Z:GP)(s:ByteArray)(hs:s.size<=1000000):
  FnL Tryz.prog 200 [.d (.lit (.string s))] [(7777777,Z.o)] (fun V ol new=>V= .tup [.d (.lit (.int .i64 (atoiR s).1)),.d (atoiR s).2]/\ol=[(7777777,Z.o)]/\new=[]):=by
 refine FnL.of_raw (fun W ags=>by kernel_rfl) [.lit (.string s)] _ _ (fun W F η S vs hO hr=> ?_);simp only[zav,Rd]at hr;obtain⟨_,_,rfl,rfl,rfl⟩:=hr;obtain⟨⟨v1,h1⟩,⟨v2,h2⟩,_⟩:=GP.glo (hO 7777777 Z.o (by simp[om]));unfold atoiR;cases ha:Go.Lib.atoiAll s.data.toList with
 | ok v=>
  refine(Tryz.strconv_Atoi_ok s (by omega) v ha W).mono ?_;rintro e W' ⟨rfl,hw⟩;refine⟨_,rfl,?_,fun F' _ _=>by simp[zaL,zaN,Rd]⟩;rcases hw with rfl | ⟨t,rfl⟩
  ·exact Below.refl _ _
  ·exact Go.Lib.bytesWorld_below W 5 t
 | range=>
  refine(Tryz.strconv_Atoi_range s (by omega) ha _ W h2 (.inr ⟨_,_,rfl⟩)).mono ?_;rintro e W' ⟨N,rfl,hN,hc,hb⟩;refine⟨_,rfl,hb,fun F' _ hF'=> ?_⟩;have hlt:N<W'.heap.size:=by
   rcases waj N W'.heap.size with h | h
   ·exact h
   ·rw[Array.getElem?_eq_none h]at hc; cases hc
  simp only[zaL,zaN,Rd,zbd];exact⟨_,rfl,_,_,rfl,rfl,_,_,rfl,⟨_,rfl,N,0,rfl,hF' N hN hlt,trivial⟩,rfl⟩
 | _=>
  refine(Tryz.strconv_Atoi_bad s (by omega) (by unfold atoiBad; rw[ha]) _ W h1 (.inr ⟨_,_,rfl⟩)).mono ?_;rintro e W' ⟨N,rfl,hN,hc,hb⟩;refine⟨_,rfl,hb,fun F' _ hF'=> ?_⟩;have hlt:N<W'.heap.size:=by
   rcases waj N W'.heap.size with h | h
   ·exact h
   ·rw[Array.getElem?_eq_none h]at hc; cases hc
  simp only[zaL,zaN,Rd,zbd];exact⟨_,rfl,_,_,rfl,rfl,_,_,rfl,⟨_,rfl,N,0,rfl,hF' N hN hlt,trivial⟩,rfl⟩
def zB2(n:Int):ByteArray:=⟨(Go.Lib.itoa n).toArray⟩
theorem itoa_c(Z:GP)(n:Int)(h0: -9223372036854775808<=n)(h1:n<=9223372036854775807):
  FnL Tryz.prog 201 [.d (.lit (.int .i64 n))] [(7777777,Z.o)] (fun V ol new=>V= .d (.lit (.string (zB2 n)))/\ol=[(7777777,Z.o)]/\new=[]):=by
 refine FnL.of_raw (fun W ags=>by kernel_rfl) [.lit (.int .i64 n)] _ _ (fun W F η S vs hO hr=> ?_);simp only[zav,Rd]at hr;obtain⟨_,_,rfl,rfl,rfl⟩:=hr;obtain⟨_,_,e,z,h5⟩:=GP.glo (hO 7777777 Z.o (by simp[om]))
 have htab : Go.Lib.TabIs Tryz.prog W "internal/strconv.uint64pow10" .u64 Go.Lib.pow10Tab := by
  have hg : Tryz.prog.globalNamed "internal/strconv.uint64pow10" = some 5 := by kernel_rfl
  unfold Go.Lib.TabIs World.var?;rw[hg];simp only[Option.bind_some,h5];rfl
 refine(Tryz.strconv_Itoa n h0 h1 W htab).mono ?_;rintro e W' ⟨rfl,k,os,rfl⟩;exact⟨_,rfl,Go.Lib.below_grow _ W (wak _) k os,fun F' _ _=>by simp[zaL,Rd,zB2]⟩
theorem tUerr : ∃ m,Tryz.prog.underlying 163 = some (.interface m) := ⟨#[("Error",170)],by kernel_rfl⟩
theorem bytes_ext{x y:ByteArray}(h:x.toList=y.toList):x=y:=by
 rw[ByteArray.toList_eq,ByteArray.toList_eq]at h;cases x; cases y;simp only[ByteArray.mk.injEq];exact Array.toList_inj.1 h
theorem zDQ(x y:ByteArray):(x.toList==y.toList)=decide (x=y):=by
 by_cases h:x=y
 ·subst h; simp
 ·have:x.toList≠y.toList:=fun e=>h (bytes_ext e);simp[h,this]
def zAC(b:ByteArray):Nat:=
 if b.size=0 then 0
 else if 97<=(b.data.getD 0 0).toNat /\(b.data.getD 0 0).toNat <=122 then 1
 else match Go.Lib.atoiAll b.data.toList with
  | .ok n=>if n>1000000\/zB2 n≠b then 0 else 2
  | _=>0
theorem atoi_ge{l:List UInt8}{n:Int}(h:Go.Lib.atoiAll l= .ok n): -9223372036854775808<=n:=by
 unfold Go.Lib.atoiAll at h;grind
theorem zCw(Z:GP)(args:List AV)(ha:AV.noRefs [1999] args):(zyk 1999 [(7777777,Z.o)]/\AV.noRefs [1999] args)/\zCV (om [(7777777,Z.o)]) []/\AV.noRefs [1999] []:=by
 simp[GZ,zyk,AO.noRef,AV.noRefs,AV.noRef,zCV,ha]
theorem wordKind_c(Z:GP)(b:ByteArray)(hb:b.size<=1000000):
  FnL Tryz.prog 157 [.d (.lit (.string b))] [(7777777,Z.o)] (fun V ol new=>V= .d (eI (zAC b))/\ol=[(7777777,Z.o)]/\new=[]):=by
 refine FnL.of_eH 1999 [] (own:=[]) (fun _=>[]) [] zat Tryz.func157 rfl Tryz.call157 Tryz.ntmps157 (zle rfl) Tryz.results157 (zCw Z _ (by simp[AV.noRefs,AV.noRef])) (fun gs=> ?_);by_cases h0:b.size=0
 ·have e:b=⟨#[]⟩:=by
   cases b with
   | mk d=>simp[ByteArray.size]at h0; rw[h0]
  subst e;have e2:((⟨#[]⟩:ByteArray).toList ==(⟨#[]⟩:ByteArray).toList)=true:=by simp
  have e3:zAC ⟨#[]⟩=0:=rfl;simp only[ZE,seval,e2];refine⟨[1999],[],?_⟩;simp only[ZE,seval,zAj.eq_def,ghK.eq_def,zAi.eq_def,zHK,GZ,e3]
 have e1:(b.toList==(⟨#[]⟩:ByteArray).toList)=false:=by
  rw[zDQ];simp only[decide_eq_false_iff_not];rintro rfl;exact h0 rfl
 have e2:((0:Int)<(b.size:Int))=True:=by simp; omega
 obtain⟨v,hv⟩:=zX ((b.data.getD 0 0).toNat);by_cases h1:97<=v/\v<=122
 ·have c1:decide ((v:Int)>=97)=true:=by simp; omega
  have c2:decide ((v:Int)<=122)=true:=by simp; omega
  have e:zAC b=1:=by unfold zAC; rw[if_neg h0,hv,if_pos h1]
  rw[e];simp only[ZE,seval,e1,e2,hv,c1,c2];refine⟨[1999],[],?_⟩;simp only[ZE,seval,zAj.eq_def,ghK.eq_def,zAi.eq_def,zHK,GZ]
 have ha:=atoi_c Z b hb;obtain⟨mE,tUE⟩:=tUerr;have hF:zAC b=match Go.Lib.atoiAll b.data.toList with | .ok n=>if n>1000000\/zB2 n≠b then 0 else 2 | _=>0:=by unfold zAC; rw[if_neg h0,hv,if_neg h1]
 rw[hF];unfold atoiR at ha;have hc: ∃g1 g2:Bool,decide ((v:Int)>=97)=g1/\decide ((v:Int)<=122)=g2/\(g1&&g2)=false:=⟨_,_,rfl,rfl,by
  simp only[Bool.and_eq_false_iff,decide_eq_false_iff_not]; omega⟩
 obtain⟨g1,g2,c1,c2,hg⟩:=hc;rcases hA:Go.Lib.atoiAll b.data.toList with n | _ | _
 ·simp only[];rw[hA]at ha;dsimp only at ha;have hn:=atoi_ge hA;by_cases hm:n>1000000
  ·have c3:decide (n>1000000)=true:=by simp; omega
   cases g1 <;> cases g2 <;> simp at hg
   all_goals
    simp only[ZE,seval,e1,e2,hv,c1,c2];refine EFn.gV [(7777777,7777777)] ha ?_ ?_
    ·simp only[ZE,seval,zAj.eq_def,ghK.eq_def,zAi.eq_def,zHK,GZ]
    rintro V ol new ⟨rfl,rfl,rfl⟩;simp only[ZE,seval,c3,tUE,zAj.eq_def,ghK.eq_def,zAi.eq_def,zHK,GZ];refine⟨[1999],[],?_⟩;simp only[ZE,seval,tUE,zAj.eq_def,ghK.eq_def,zAi.eq_def,zHK,GZ];simp[hm]
  have c3:decide (n>1000000)=false:=by simp; omega
  have hi:=itoa_c Z n hn (by omega);have c4:((zB2 n).toList ==b.toList)=decide (zB2 n=b):=zDQ _ _;obtain⟨g,hg3⟩:=zX (decide (zB2 n=b));rw[hg3]at c4;cases g1 <;> cases g2 <;> simp at hg
  all_goals
   cases g
   all_goals
    simp only[ZE,seval,e1,e2,hv,c1,c2];refine EFn.gV [(7777777,7777777)] ha ?_ ?_
    ·simp only[ZE,seval,zAj.eq_def,ghK.eq_def,zAi.eq_def,zHK,GZ]
    rintro V ol new ⟨rfl,rfl,rfl⟩;simp only[ZE,seval,c3,tUE,zAj.eq_def,ghK.eq_def,zAi.eq_def,zHK,GZ];refine EFn.gV [(7777777,7777777)] hi ?_ ?_
    ·simp only[ZE,seval,zAj.eq_def,ghK.eq_def,zAi.eq_def,zHK,GZ]
    rintro V ol new ⟨rfl,rfl,rfl⟩;simp only[ZE,seval,c4,tUE,zAj.eq_def,ghK.eq_def,zAi.eq_def,zHK,GZ];refine⟨[1999],[],?_⟩;simp only[ZE,seval,tUE,zAj.eq_def,ghK.eq_def,zAi.eq_def,zHK,GZ];simp at hg3;simp[hm,hg3]
 ·simp only[];rw[hA]at ha;dsimp only at ha;cases g1 <;> cases g2 <;> simp at hg
  all_goals
   simp only[ZE,seval,e1,e2,hv,c1,c2];refine EFn.gV [(7777777,7777777)] ha ?_ ?_
   ·simp only[ZE,seval,zAj.eq_def,ghK.eq_def,zAi.eq_def,zHK,GZ]
   rintro V ol new ⟨rfl,rfl,rfl⟩;simp only[ZE,seval,tUE,zAj.eq_def,ghK.eq_def,zAi.eq_def,zHK,GZ];refine⟨[1999],[],?_⟩;simp only[ZE,seval,tUE,zAj.eq_def,ghK.eq_def,zAi.eq_def,zHK,GZ]
 ·simp only[];rw[hA]at ha;dsimp only at ha;cases g1 <;> cases g2 <;> simp at hg
  all_goals
   simp only[ZE,seval,e1,e2,hv,c1,c2];refine EFn.gV [(7777777,7777777)] ha ?_ ?_
   ·simp only[ZE,seval,zAj.eq_def,ghK.eq_def,zAi.eq_def,zHK,GZ]
   rintro V ol new ⟨rfl,rfl,rfl⟩;simp only[ZE,seval,tUE,zAj.eq_def,ghK.eq_def,zAi.eq_def,zHK,GZ];refine⟨[1999],[],?_⟩;simp only[ZE,seval,tUE,zAj.eq_def,ghK.eq_def,zAi.eq_def,zHK,GZ]
def zD3(s:ByteArray)(a:Nat):Option Nat:=
 if isF s a 0 [3]=true then some (a+1)
 else if zFW (s.extract a s.size) ⟨#[47,47]⟩=true then
  some (if Go.Lib.indexByte (s.extract a s.size).data.toList 10<0 then s.size else a+(Go.Lib.indexByte (s.extract a s.size).data.toList 10).toNat)
 else none
theorem index_le(s:ByteArray)(a:Nat)(ha:a<=s.size): -1<=Go.Lib.indexByte (s.extract a s.size).data.toList 10/\Go.Lib.indexByte (s.extract a s.size).data.toList 10<=(s.size:Int)-a:=by
 refine⟨Go.Lib.indexByte_ge _ _,?_⟩;by_cases h:Go.Lib.indexByte (s.extract a s.size).data.toList 10<0
 ·omega
 obtain⟨o,ho⟩: ∃o:Nat,Go.Lib.indexByte (s.extract a s.size).data.toList 10=o:=⟨_,(Int.toNat_of_nonneg (by omega)).symm⟩;obtain⟨h1,_⟩:=Go.Lib.indexByte_some ho;rw[ho];have h2:o<(s.extract a s.size).data.toList.length :=by
  rcases waj o (s.extract a s.size).data.toList.length with h | h
  ·exact h
  ·rw[List.getElem?_eq_none h]at h1; cases h1
 have h3:(s.extract a s.size).data.toList.length =s.size-a:=by
  rw[Array.length_toList];show(s.extract a s.size).size =_;rw[ByteArray.size_extract]; omega
 omega
theorem space_g(Z:GP)(s:ByteArray)(a:Nat)(T:List Tok)(hs:s.size<=1000000)(ha:a<=s.size)(hT:T.length<=1000000):
  FnL Tryz.prog 102 [.bp 1 0] (scO Z s a T) (fun V ol new=>V= .d (eB (zD3 s a).isSome)/\ol=scO Z s ((zD3 s a).getD a) T/\new=[]):=by
 refine FnL.srt (FnL.of_eH 1999 [.ar 2 T.length] (own:=[]) chL [0] zat Tryz.func102 rfl Tryz.call102 Tryz.ntmps102 (zle rfl) Tryz.results102 (zHl Z s a T _ (by simp[AV.noRefs,AV.noRef])) (fun gs=> ?_));have hi:=is_g Z s a 0 T [3] (by omega) (by omega) (by simp);have hp:=zEa (s.extract a s.size) ⟨#[47,47]⟩;simp only[ZE,seval,Int.natCast_zero]at hi;have e1:((0:Int)<=(a:Int)/\(a:Int)<=(s.size:Int))=True:=by simp; omega
 have hw1:=zaq (show a<9223372036854775807 by omega);have hF:zD3 s a=if isF s a 0 [3]=true then some (a+1)
   else if zFW (s.extract a s.size) ⟨#[47,47]⟩=true then
    some (if Go.Lib.indexByte (s.extract a s.size).data.toList 10<0 then s.size else a+(Go.Lib.indexByte (s.extract a s.size).data.toList 10).toNat)
   else none:=rfl
 obtain⟨hn1,hn2⟩:=index_le s a ha;have hx:=indexByte_c (s.extract a s.size);obtain⟨n,hn⟩:=zX (Go.Lib.indexByte (s.extract a s.size).data.toList 10);rw[hn]at hx hF hn1 hn2;by_cases h1:isF s a 0 [3]=true
 ·rw[h1]at hi;rw[if_pos h1]at hF;rw[hF];simp only[ZE,seval,GZ,scO,tkO,zAg,zAm,zAn,zAo,zAf,zAh,zAe];refine EFn.gV [(1,1),(2,2),(7777777,7777777)] hi ?_ ?_
  ·simp only[ZE,seval,GZ,scO,tkO,zAg,zAm,zAn,zAo,zAf,zAh,zAe]
  rintro V ol new ⟨rfl,rfl,rfl⟩;simp only[ZE,seval,hw1,GZ,scO,tkO,zAg,zAm,zAn,zAo,zAf,zAh,zAe];refine⟨[1999],[],?_⟩;simp only[ZE,seval,zht,AV.core,zHH,GZ,scO,tkO,zAg,zAm,zAn,zAo,zAf,zAh,zAe,zGQ]
 have h1':isF s a 0 [3]=false:=by simpa using h1
 rw[h1']at hi;rw[if_neg h1]at hF;by_cases h2:zFW (s.extract a s.size) ⟨#[47,47]⟩=true
 ·rw[h2]at hp;simp only[ZE,seval]at hp;rw[if_pos h2]at hF;rw[hF];by_cases h3:n<0
  ·have c1:decide (n<0)=true:=by simp; omega
   have hw2:=zaQ (x:=(s.size:Int)-(a:Int)) (by omega) (by omega);have hw3:IntKind.i64.wrap ((a:Int)+((s.size:Int)-(a:Int)))=(s.size:Int):=by rw[zaQ (by omega) (by omega)]; omega
   simp only[ZE,seval,GZ,scO,tkO,zAg,zAm,zAn,zAo,zAf,zAh,zAe];refine EFn.gV [(1,1),(2,2),(7777777,7777777)] hi ?_ ?_
   ·simp only[ZE,seval,GZ,scO,tkO,zAg,zAm,zAn,zAo,zAf,zAh,zAe]
   rintro V ol new ⟨rfl,rfl,rfl⟩;simp only[ZE,seval,e1,wai,GZ,scO,tkO,zAg,zAm,zAn,zAo,zAf,zAh,zAe];refine⟨by kernel_rfl,⟨by omega,by omega,by omega⟩,zaz.i hp ?_⟩;simp only[ZE,seval,e1,wai,GZ,scO,tkO,zAg,zAm,zAn,zAo,zAf,zAh,zAe];refine⟨by kernel_rfl,⟨by omega,by omega,by omega⟩,zaz.i hx ?_⟩;simp only[ZE,seval,c1,hw2,hw3,GZ,scO,tkO,zAg,zAm,zAn,zAo,zAf,zAh,zAe];refine⟨by kernel_rfl,?_⟩;refine⟨[1999],[],?_⟩;simp only[ZE,seval,zht,AV.core,zHH,GZ,scO,tkO,zAg,zAm,zAn,zAo,zAf,zAh,zAe,zGQ];rw[if_pos h3]
  ·have c1:decide (n<0)=false:=by simp; omega
   have hw3:IntKind.i64.wrap ((a:Int)+n)=(a:Int)+n:=zaQ (by omega) (by omega);simp only[ZE,seval,GZ,scO,tkO,zAg,zAm,zAn,zAo,zAf,zAh,zAe];refine EFn.gV [(1,1),(2,2),(7777777,7777777)] hi ?_ ?_
   ·simp only[ZE,seval,GZ,scO,tkO,zAg,zAm,zAn,zAo,zAf,zAh,zAe]
   rintro V ol new ⟨rfl,rfl,rfl⟩;simp only[ZE,seval,e1,wai,GZ,scO,tkO,zAg,zAm,zAn,zAo,zAf,zAh,zAe];refine⟨by kernel_rfl,⟨by omega,by omega,by omega⟩,zaz.i hp ?_⟩;simp only[ZE,seval,e1,wai,GZ,scO,tkO,zAg,zAm,zAn,zAo,zAf,zAh,zAe];refine⟨by kernel_rfl,⟨by omega,by omega,by omega⟩,zaz.i hx ?_⟩;simp only[ZE,seval,c1,hw3,GZ,scO,tkO,zAg,zAm,zAn,zAo,zAf,zAh,zAe];refine⟨[1999],[],?_⟩;simp only[ZE,seval,zht,AV.core,zHH,GZ,scO,tkO,zAg,zAm,zAn,zAo,zAf,zAh,zAe,zGQ];rw[if_neg h3,show(a:Int)+n=((a+n.toNat:Nat):Int) by omega]
 ·have h2':zFW (s.extract a s.size) ⟨#[47,47]⟩=false:=by simpa using h2
  rw[h2']at hp;simp only[ZE,seval]at hp;rw[if_neg h2]at hF;rw[hF];simp only[ZE,seval,GZ,scO,tkO,zAg,zAm,zAn,zAo,zAf,zAh,zAe];refine EFn.gV [(1,1),(2,2),(7777777,7777777)] hi ?_ ?_
  ·simp only[ZE,seval,GZ,scO,tkO,zAg,zAm,zAn,zAo,zAf,zAh,zAe]
  rintro V ol new ⟨rfl,rfl,rfl⟩;simp only[ZE,seval,e1,wai,GZ,scO,tkO,zAg,zAm,zAn,zAo,zAf,zAh,zAe];refine⟨by kernel_rfl,⟨by omega,by omega,by omega⟩,zaz.i hp ?_⟩;simp only[ZE,seval,GZ,scO,tkO,zAg,zAm,zAn,zAo,zAf,zAh,zAe];refine⟨[1999],[],?_⟩;simp only[ZE,seval,zht,AV.core,zHH,GZ,scO,tkO,zAg,zAm,zAn,zAo,zAf,zAh,zAe]
def zA4(s:ByteArray)(a:Nat):Nat:=((s.data.toList.drop a).takeWhile fun b=>decide (zCs b.toNat=1)||decide (zCs b.toNat=2)).length
theorem zF5(s:ByteArray)(a:Nat)(ha:a<=s.size):a+zA4 s a<=s.size:=by
 have h:=(List.takeWhile_sublist (fun b:UInt8=>decide (zCs b.toNat=1)||decide (zCs b.toNat=2)) (l:=s.data.toList.drop a)).length_le;rw[List.length_drop,Array.length_toList]at h;have h2:zA4 s a<=s.size-a:=h;omega
theorem isF_word(s:ByteArray)(a k:Nat):isF s a k [1,2]=match (s.data.toList.drop a)[k]? with | some b=>decide (zCs b.toNat=1)||decide (zCs b.toNat=2) | none=>false:=by
 have hz:s.data.size=s.size:=rfl;rw[List.getElem?_drop];unfold isF;by_cases h:a+k<s.size
 ·rw[List.getElem?_eq_getElem (by rw[Array.length_toList,hz]; exact h)];simp[h,Array.getD,hz]
 ·rw[List.getElem?_eq_none (by rw[Array.length_toList,hz]; omega)];simp[h]
theorem zGp{α:Type}(p:α->Bool): ∀(l:List α) (k:Nat),k<(l.takeWhile p).length -> ∃x,l[k]? =some x/\p x=true
 | [],k,h=>by simp at h
 | x::l,k,h=>by
  simp only[List.takeWhile_cons]at h;split at h
  ·rename_i hx;cases k with
   | zero=>exact⟨x,rfl,hx⟩
   | succ k=>simpa using zGp p l k (by simpa using h)
  ·simp at h
theorem zGo{α:Type}(p:α->Bool): ∀(l:List α) (x:α),l[(l.takeWhile p).length]? =some x->p x=false
 | [],x,h=>by simp at h
 | y::l,x,h=>by
  simp only[List.takeWhile_cons]at h;split at h
  ·exact zGo p l x (by simpa using h)
  ·rename_i hy;simp only[wac,List.getElem?_cons_zero,Option.some.injEq]at h;subst h;simpa using hy
theorem wordLen_lt(s:ByteArray)(a k:Nat)(h:k<zA4 s a):isF s a k [1,2]=true:=by
 obtain⟨x,h1,h2⟩:=zGp _ _ k h;rw[isF_word,h1];exact h2
theorem wordLen_at(s:ByteArray)(a:Nat):isF s a (zA4 s a) [1,2]=false:=by
 rw[isF_word];cases h:(s.data.toList.drop a)[zA4 s a]? with
 | none=>rfl
 | some x=>exact zGo _ _ x h
def zb0(s:ByteArray)(a:Nat):Nat:=zAC (s.extract a (a+zA4 s a))
def zHu(Z:GP)(s:ByteArray)(a:Nat)(T:List Tok):OL:=if zb0 s a=0 then scO Z s a T else scO Z s (a+zA4 s a) (T++[(zb0 s a,s.extract a (a+zA4 s a),a)])
theorem word_g(Z:GP)(s:ByteArray)(a:Nat)(T:List Tok)(hs:s.size<=1000000)(ha:a<=s.size)(hT:T.length<=1000000):
  FnL Tryz.prog 103 [.bp 1 0] (scO Z s a T) (fun V ol new=>V= .d (eB (decide (zb0 s a≠0)))/\ol=zHu Z s a T/\new=[]):=by
 refine FnL.srt (FnL.of_eH 1999 [.ar 2 T.length] (own:=[]) (fun i=>if i=2004 then [.flt ⟨[(0,none),(1,none),(2,none),(3,none),(4,none),(5,none),(6,none),(7,none),(8,none),(9,none),(10,none),(11,none),(12,none),(13,none),(14,none),(15,some []),(16,none)]⟩ ⟨[],[]⟩]else chL i) [0] zat Tryz.func103 rfl Tryz.call103 Tryz.ntmps103 (zle rfl) Tryz.results103 (zHl Z s a T _ (by simp[AV.noRefs,AV.noRef])) (fun gs=> ?_));have hle:=zF5 s a ha;have hlt:=wordLen_lt s a;have hat:=wordLen_at s a;obtain⟨L,hL⟩:=zX (zA4 s a);have hk:=wordKind_c Z (s.extract a (a+L)) (by rw[ByteArray.size_extract]; omega);have hK:zb0 s a=zAC (s.extract a (a+L)):=by unfold zb0; rw[hL]
 obtain⟨K,hK2⟩:=zX (zAC (s.extract a (a+L)));rw[hK2]at hk hK;have hG:zHu Z s a T=if K=0 then scO Z s a T else scO Z s (a+L) (T++[(K,s.extract a (a+L),a)]):=by unfold zHu; rw[hK,hL]
 rw[hG,hK];rw[hL]at hle hlt hat;clear hG hK hK2 hL;have ht:=take_g Z s a K L T hs hle hT;have e1:=zaQ (x:=(a:Int)+(L:Int)) (by omega) (by omega);have e2:((0:Int)<=(a:Int)/\(a:Int)<=(a:Int)+(L:Int)/\(a:Int)+(L:Int)<=(s.size:Int))=True:=by simp; omega
 have e3:((a:Int)+(L:Int)).toNat =a+L:=by omega
 simp only[ZE,seval,GZ,scO,tkO,zAg,zAm,zAn,zAo,zAf,zAh,zAe];refine za1 (fun i=>if i=2004 then [.flt ⟨[(0,none),(1,none),(2,none),(3,none),(4,none),(5,none),(6,none),(7,none),(8,none),(9,none),(10,none),(11,none),(12,none),(13,none),(14,none),(15,some []),(16,none)]⟩ ⟨[],[]⟩]else chL i) zat L (fun _=>True) (fun i=>([(0,.bp 1 0),(3,.d (eI i))],[(1,.box (scA s a (.ar 2 T.length))),(2,tkO T),(1999,.gh [.ar 2 T.length] gs),(7777777,Z.o)])) trivial ?_ ?_ (fun i hi' _=> ?_)
 ·simp only[ZE,seval]
 ·simp only[ZE,seval,tkO,GZ]
 have hi:=is_g Z s a i T [1,2] (by omega) (by omega) (by simp);rcases waj i L with h | h
 ·rw[hlt i h]at hi;have hwi:=zaq (show i<9223372036854775807 by omega);simp only[ZE,seval,hwi,h,GZ,scO,tkO,zAg,zAm,zAn,zAo,zAf,zAh,zAe];refine EFn.gV [(1,1),(2,2),(7777777,7777777)] hi ?_ ?_
  ·simp only[ZE,seval,GZ,scO,tkO,zAg,zAm,zAn,zAo,zAf,zAh,zAe]
  rintro V ol new ⟨rfl,rfl,rfl⟩;simp only[ZE,seval,hwi,h,GZ,scO,tkO,zAg,zAm,zAn,zAo,zAf,zAh,zAe]
 ·have:i=L:=by omega
  subst this;rw[hat]at hi;simp only[ZE,seval,GZ,scO,tkO,zAg,zAm,zAn,zAo,zAf,zAh,zAe];refine EFn.gV [(1,1),(2,2),(7777777,7777777)] hi ?_ ?_
  ·simp only[ZE,seval,GZ,scO,tkO,zAg,zAm,zAn,zAo,zAf,zAh,zAe]
  rintro V ol new ⟨rfl,rfl,rfl⟩;simp only[ZE,seval,e1,e2,e3,wai,GZ,scO,tkO,zAg,zAm,zAn,zAo,zAf,zAh,zAe];refine⟨by kernel_rfl,?_⟩;refine EFn.gV [(7777777,7777777)] hk ?_ ?_
  ·simp only[ZE,seval,GZ]
  rintro V ol new ⟨rfl,rfl,rfl⟩;by_cases h0:K=0
  ·subst h0;simp only[ZE,seval,Int.natCast_zero];refine⟨[1999],[],?_⟩;simp only[ZE,seval,zht,AV.core,zHH,GZ,scO,tkO,zAg,zAm,zAn,zAo,zAf,zAh,zAe]
  ·have c1:((K:Int) !=0)=true:=by simp; omega
   have c2:decide (¬K=0)=true:=by simp[h0]
   rw[c2];simp only[h0,if_false];simp only[ZE,seval,c1];refine EFn.gV [(1,1),(2,2),(7777777,7777777)] ht ?_ ?_
   ·simp only[ZE,seval,GZ,scO,tkO,zAg,zAm,zAn,zAo,zAf,zAh,zAe]
   rintro V ol new ⟨rfl,rfl,rfl⟩;simp only[ZE,seval,GZ,scO,tkO,zAg,zAm,zAn,zAo,zAf,zAh,zAe];refine⟨[1999],[],?_⟩;simp only[ZE,seval,zht,AV.core,zHH,GZ,scO,tkO,zAg,zAm,zAn,zAo,zAf,zAh,zAe]
theorem is_ga(Z:GP)(s:ByteArray)(a:Nat)(T:List Tok)(c:Nat)(hs:s.size<=1000000)(ha:a<=s.size):
  FnL Tryz.prog 154 [.bp 1 0,.d (eI 0),.ar 28 1] (scO Z s a T++[(28,.arr 5 1 .flat [[eU8 c]])]) (fun V ol new=>V= .d (eB (isF s a 0 [c]))/\ol=scO Z s a T/\new=[]):=by
 refine FnL.srt (FnL.of_eH 1999 [.ar 2 T.length] (own:=[]) chL [0] zat Tryz.func154 rfl Tryz.call154 Tryz.ntmps154 (zle rfl) Tryz.results154 (by simp[scO,tkO,GZ,zyk,AO.noRef,zAe,AV.noRefs,AV.noRef,zCV,om]) (fun gs=> ?_));have hw:=zaQ (x:=(a:Int)) (by omega) (by omega);by_cases hk:a<s.size
 ·have e1:decide ((a:Int)>=(s.size:Int))=false:=by simp; omega
  obtain⟨v,hv⟩:=zX ((s.data.getD a 0).toNat);have hv2:v<256:=hv▸byte_lt s a;have hF:isF s a 0 [c]=decide (zCs v=c):=by unfold isF; rw[Nat.add_zero,hv]; simp[hk]
  have e2:((0:Int)<=(a:Int)/\(a:Int)<(s.size:Int))=True:=by simp; omega
  have e4:((0:Int)<=(v:Int)/\(v:Int)<256)=True:=by simp; omega
  have e5:=sc_h2 s a (.ar 2 T.length) hv2;rw[hF];obtain⟨w,hw2⟩:=zX (zCs v);rw[hw2]at e5 ⊢;simp only[ZE,seval,hw,e1,Int.natCast_zero,Int.add_zero,GZ,scO,tkO,zAg,zAm,zAn,zAo,zAf,zAh,zAe];refine⟨by kernel_rfl,?_⟩;refine za1 chL zat 1 (fun i=>1<=i->w≠c) (fun i=>([(0,.bp 1 0),(1,.d (.lit (.int .i64 0))),(21,.ar 28 1),(22,.d (.lit (.int .i64 1))),(23,.d (eI i))],[(1,.box (scA s a (.ar 2 T.length))),(2,tkO T),(28,.arr 5 1 .flat [[eU8 c]]),(1999,.gh [.ar 2 T.length] gs),(7777777,Z.o)])) (by omega) ?_ ?_ (fun i hi hI=> ?_)
  ·simp only[ZE,seval]
  ·simp only[ZE,seval,tkO,GZ]
  rcases(show i=0\/i=1 by omega)with rfl | rfl
  ·by_cases he:w=c
   ·have c1:((w:Int)==(c:Int))=true:=(by simp[he]);have c2:decide (w=c)=true:=(by simp[he]);simp only[ZE,seval,hw,hv,e2,e4,e5,c1,c2,Int.add_zero,wai,GZ,scO,tkO,zAg,zAm,zAn,zAo,zAf,zAh,zAe];refine⟨by kernel_rfl,by omega,[28,1999],[],?_⟩;simp only[ZE,seval,zht,AV.core,zHH,GZ,scO,tkO,zAg,zAm,zAn,zAo,zAf,zAh,zAe]
   ·have c1:((w:Int)==(c:Int))=false:=(by simp; omega);have w1:IntKind.i64.wrap 1=1:=rfl;simp only[ZE,seval,hw,hv,e2,e4,e5,c1,w1,Int.add_zero,wai,GZ,scO,tkO,zAg,zAm,zAn,zAo,zAf,zAh,zAe];exact⟨by kernel_rfl,by omega,he⟩
  ·have c2:decide (w=c)=false:=by simpa using hI (by omega)
   simp only[ZE,seval,c2];refine⟨[28,1999],[],?_⟩;simp only[ZE,seval,zht,AV.core,zHH,GZ,scO,tkO,zAg,zAm,zAn,zAo,zAf,zAh,zAe]
 ·have e1:decide ((a:Int)>=(s.size:Int))=true:=by simp; omega
  have e2:isF s a 0 [c]=false:=by unfold isF; simp[hk]
  simp only[ZE,seval,hw,e1,e2,Int.natCast_zero,Int.add_zero,GZ,scO,tkO,zAg,zAm,zAn,zAo,zAf,zAh,zAe];refine⟨by kernel_rfl,[28,1999],[],?_⟩;simp only[ZE,seval,zht,AV.core,zHH,GZ,scO,tkO,zAg,zAm,zAn,zAo,zAf,zAh,zAe]
def zB8(s:ByteArray)(a:Nat):Nat:=
 if zFW (s.extract a s.size) ⟨#[45,62]⟩=true\/zFW (s.extract a s.size) ⟨#[61,61]⟩=true then 2
 else if isF s a 0 [4]=true then 1 else 0
def zHz(Z:GP)(s:ByteArray)(a:Nat)(T:List Tok):OL:=if zB8 s a=0 then scO Z s a T else scO Z s (a+zB8 s a) (T++[(3,s.extract a (a+zB8 s a),a)])
theorem zIB(s p:ByteArray)(h:zFW s p=true):p.size<=s.size:=by
 unfold zFW at h;simp only[wal,decide_eq_true_eq]at h;exact h.1
theorem sign_g(Z:GP)(s:ByteArray)(a:Nat)(T:List Tok)(hs:s.size<=1000000)(ha:a<=s.size)(hT:T.length<=1000000):
  FnL Tryz.prog 104 [.bp 1 0] (scO Z s a T) (fun V ol new=>V= .d (eB (decide (zB8 s a≠0)))/\ol=zHz Z s a T/\new=[]):=by
 refine FnL.srt (FnL.of_eH 1999 [.ar 2 T.length] (own:=[]) (fun i=>if i=2007 then []else chL i) [0] zat Tryz.func104 rfl Tryz.call104 Tryz.ntmps104 (zle rfl) Tryz.results104 (zHl Z s a T _ (by simp[AV.noRefs,AV.noRef])) (fun gs=> ?_));have hi:=is_ga Z s a T 4 hs ha;have hp:=zEa (s.extract a s.size) ⟨#[45,62]⟩;have hq:=zEa (s.extract a s.size) ⟨#[61,61]⟩;simp only[ZE,seval,Int.natCast_zero,scO,wag,waf]at hi;have e1:((0:Int)<=(a:Int)/\(a:Int)<=(s.size:Int))=True:=by simp; omega
 have ht2:a+2<=s.size->FnL Tryz.prog 105 [.bp 1 0,.d (.lit (.int .i64 3)),.d (.lit (.int .i64 2))] (scO Z s a T) (fun V ol new=>V= .d (eB true)/\ol=scO Z s (a+2) (T++[(3,s.extract a (a+2),a)])/\new=[]):=fun h=>take_g Z s a 3 2 T hs h hT;have ht1:a+1<=s.size->FnL Tryz.prog 105 [.bp 1 0,.d (.lit (.int .i64 3)),.d (.lit (.int .i64 1))] (scO Z s a T) (fun V ol new=>V= .d (eB true)/\ol=scO Z s (a+1) (T++[(3,s.extract a (a+1),a)])/\new=[]):=fun h=>take_g Z s a 3 1 T hs h hT;have hpl:=zIB (s.extract a s.size) ⟨#[45,62]⟩;have hql:=zIB (s.extract a s.size) ⟨#[61,61]⟩;rw[ByteArray.size_extract]at hpl hql;have hil:isF s a 0 [4]=true->a+1<=s.size:=by
  unfold isF;simp only[wal,decide_eq_true_eq];omega
 have hF:zB8 s a=if zFW (s.extract a s.size) ⟨#[45,62]⟩=true\/zFW (s.extract a s.size) ⟨#[61,61]⟩=true then 2 else if isF s a 0 [4]=true then 1 else 0:=rfl
 unfold zHz;rw[hF];obtain⟨b1,hb1⟩: ∃b,zFW (s.extract a s.size) ⟨#[45,62]⟩=b:=⟨_,rfl⟩;obtain⟨b2,hb2⟩: ∃b,zFW (s.extract a s.size) ⟨#[61,61]⟩=b:=⟨_,rfl⟩;obtain⟨b3,hb3⟩: ∃b,isF s a 0 [4]=b:=⟨_,rfl⟩;rw[hb1]at hp hpl;rw[hb2]at hq hql;rw[hb3]at hi hil;rw[hb1,hb2,hb3];clear hF hb1 hb2 hb3;simp only[ZE,seval]at hp;simp only[ZE,seval]at hq;have sz:(⟨#[45,62]⟩:ByteArray).size =2:=rfl;have szI:((⟨#[45,62]⟩:ByteArray).size :Int)=2:=rfl;have szJ:((⟨#[61,61]⟩:ByteArray).size :Int)=2:=rfl;have w1:IntKind.i64.wrap 1=1:=rfl;have w2:IntKind.i64.wrap 2=2:=rfl;have sz2:(⟨#[61,61]⟩:ByteArray).size =2:=rfl;rw[sz]at hpl;rw[sz2]at hql;simp only[ZE,seval,GZ,scO,tkO,zAg,zAm,zAn,zAo,zAf,zAh,zAe];refine za1 (fun i=>if i=2007 then []else chL i) zat 2 (fun i=>(1<=i->b1=false)/\(2<=i->b2=false)) (fun i=>([(0,.bp 1 0),(5,.d (.sl [[.lit (.string ⟨#[45,62]⟩)],[.lit (.string ⟨#[61,61]⟩)]])),(6,.d (.lit (.int .i64 2))),(7,.d (eI i))],[(1,.box (scA s a (.ar 2 T.length))),(2,tkO T),(1999,.gh [.ar 2 T.length] gs),(7777777,Z.o)])) (by omega) ?_ ?_ (fun i hi' hI=> ?_)
 ·simp only[ZE,seval]
 ·simp only[ZE,seval,tkO,GZ]
 rcases(show i=0\/i=1\/i=2 by omega)with rfl | rfl | rfl
 ·cases b1 with
  | true=>
   have ht2:=ht2 (by have:=hpl rfl; omega);simp only[ZE,seval,e1,wai,GZ,scO,tkO,zAg,zAm,zAn,zAo,zAf,zAh,zAe];refine⟨by kernel_rfl,⟨by omega,by omega,by omega⟩,zaz.i hp ?_⟩;simp only[ZE,seval,w1,szI,GZ,scO,tkO,zAg,zAm,zAn,zAo,zAf,zAh,zAe];refine EFn.gV [(1,1),(2,2),(7777777,7777777)] ht2 ?_ ?_
   ·simp only[ZE,seval,GZ,scO,tkO,zAg,zAm,zAn,zAo,zAf,zAh,zAe]
   rintro V ol new ⟨rfl,rfl,rfl⟩;simp only[ZE,seval,GZ,scO,tkO,zAg,zAm,zAn,zAo,zAf,zAh,zAe];refine⟨[1999],[],?_⟩;simp only[ZE,seval,zht,AV.core,zHH,GZ,scO,tkO,zAg,zAm,zAn,zAo,zAf,zAh,zAe]
  | false=>
   simp only[ZE,seval,e1,wai,GZ,scO,tkO,zAg,zAm,zAn,zAo,zAf,zAh,zAe];refine⟨by kernel_rfl,⟨by omega,by omega,by omega⟩,zaz.i hp ?_⟩;simp only[ZE,seval,w1,szI,GZ,scO,tkO,zAg,zAm,zAn,zAo,zAf,zAh,zAe]
 ·have h1:=hI.1 (by omega);subst h1;cases b2 with
  | true=>
   have ht2:=ht2 (by have:=hql rfl; omega);simp only[ZE,seval,e1,wai,GZ,scO,tkO,zAg,zAm,zAn,zAo,zAf,zAh,zAe];refine⟨by kernel_rfl,⟨by omega,by omega,by omega⟩,zaz.i hq ?_⟩;simp only[ZE,seval,w2,szJ,GZ,scO,tkO,zAg,zAm,zAn,zAo,zAf,zAh,zAe];refine EFn.gV [(1,1),(2,2),(7777777,7777777)] ht2 ?_ ?_
   ·simp only[ZE,seval,GZ,scO,tkO,zAg,zAm,zAn,zAo,zAf,zAh,zAe]
   rintro V ol new ⟨rfl,rfl,rfl⟩;simp only[ZE,seval,GZ,scO,tkO,zAg,zAm,zAn,zAo,zAf,zAh,zAe];refine⟨[1999],[],?_⟩;simp only[ZE,seval,zht,AV.core,zHH,GZ,scO,tkO,zAg,zAm,zAn,zAo,zAf,zAh,zAe]
  | false=>
   simp only[ZE,seval,e1,wai,GZ,scO,tkO,zAg,zAm,zAn,zAo,zAf,zAh,zAe];refine⟨by kernel_rfl,⟨by omega,by omega,by omega⟩,zaz.i hq ?_⟩;simp only[ZE,seval,w2,szJ,GZ,scO,tkO,zAg,zAm,zAn,zAo,zAf,zAh,zAe]
 ·have h1:=hI.1 (by omega);have h2:=hI.2 (by omega);subst h1;subst h2;simp only[ZE,seval,GZ,scO,tkO,zAg,zAm,zAn,zAo,zAf,zAh,zAe];refine EFn.gV [(1,1),(2,2),(28,28),(7777777,7777777)] hi ?_ ?_
  ·simp only[ZE,seval,GZ,scO,tkO,zAg,zAm,zAn,zAo,zAf,zAh,zAe]
  rintro V ol new ⟨rfl,rfl,rfl⟩;cases b3 with
  | true=>
   have ht1:=ht1 (hil rfl);simp only[ZE,seval,GZ,scO,tkO,zAg,zAm,zAn,zAo,zAf,zAh,zAe];refine EFn.gV [(1,1),(2,2),(7777777,7777777)] ht1 ?_ ?_
   ·simp only[ZE,seval,GZ,scO,tkO,zAg,zAm,zAn,zAo,zAf,zAh,zAe]
   rintro V ol new ⟨rfl,rfl,rfl⟩;simp only[ZE,seval,GZ,scO,tkO,zAg,zAm,zAn,zAo,zAf,zAh,zAe];refine⟨[1999],[],?_⟩;simp only[ZE,seval,zht,AV.core,zHH,GZ,scO,tkO,zAg,zAm,zAn,zAo,zAf,zAh,zAe]
  | false=>
   simp only[ZE,seval,GZ,scO,tkO,zAg,zAm,zAn,zAo,zAf,zAh,zAe];refine⟨[1999],[],?_⟩;simp only[ZE,seval,zht,AV.core,zHH,GZ,scO,tkO,zAg,zAm,zAn,zAo,zAf,zAh,zAe]
def zCP(s:ByteArray)(a:Nat)(T:List Tok):Option (Nat×List Tok):=
 match zD3 s a with
 | some b=>some (b,T)
 | none=>if zb0 s a≠0 then some (a+zA4 s a,T++[(zb0 s a,s.extract a (a+zA4 s a),a)])
  else if zB8 s a≠0 then some (a+zB8 s a,T++[(3,s.extract a (a+zB8 s a),a)])else none
def lexL(s:ByteArray):Nat->Nat->List Tok->Except Nat (List Tok)
 | 0,a,T=>.ok (T++[(4,⟨#[]⟩,a)])
 | n+1,a,T=>if a<s.size then(match zCP s a T with | some (b,T')=>lexL s n b T' | none=>.error a)else .ok (T++[(4,⟨#[]⟩,a)])
theorem lexL_end(s:ByteArray)(n a:Nat)(T:List Tok)(h:s.size<=a):lexL s n a T= .ok (T++[(4,⟨#[]⟩,a)]):=by
 cases n with
 | zero=>rfl
 | succ n=>unfold lexL; rw[if_neg (by omega)]
theorem space_gt{s:ByteArray}{a b:Nat}(ha:a<s.size)(h:zD3 s a=some b):a<b/\b<=s.size:=by
 unfold zD3 at h;split at h
 ·cases h; omega
 ·split at h
  ·rename_i h1 h2;cases h;obtain⟨g1,g2⟩:=index_le s a (by omega);split
   ·omega
   ·refine⟨?_,by omega⟩;rename_i h3;rcases Nat.eq_zero_or_pos (Go.Lib.indexByte (s.extract a s.size).data.toList 10).toNat with h4 | h4
    ·exfalso;have h5:Go.Lib.indexByte (s.extract a s.size).data.toList 10=((0:Nat):Int):=(by omega);obtain⟨h6,_⟩:=Go.Lib.indexByte_some h5;unfold zFW at h2;simp only[wal,decide_eq_true_eq,zDQ]at h2;obtain⟨h7,h8⟩:=h2;have h9:=congrArg (fun b:ByteArray=>b.data.toList[0]?) h8;simp only[ByteArray.data_extract,Array.toList_extract,List.extract_eq_take_drop]at h9 h6;simp at h9 h6;have hz:(⟨#[47,47]⟩:ByteArray).size =2:=rfl;simp[hz]at h9;simp_all
    ·omega
  ·cases h
theorem sign_le{s:ByteArray}{a:Nat}(ha:a<=s.size):a+zB8 s a<=s.size:=by
 have hpl:=zIB (s.extract a s.size) ⟨#[45,62]⟩;have hql:=zIB (s.extract a s.size) ⟨#[61,61]⟩;rw[ByteArray.size_extract]at hpl hql;have sz:(⟨#[45,62]⟩:ByteArray).size =2:=rfl;have sz2:(⟨#[61,61]⟩:ByteArray).size =2:=rfl;rw[sz]at hpl;rw[sz2]at hql;unfold zB8;split
 ·rename_i h;rcases h with h | h
  ·have:=hpl h; omega
  ·have:=hql h; omega
 ·split
  ·rename_i h;unfold isF at h;simp only[wal,decide_eq_true_eq]at h;omega
  ·omega
theorem word_pos{s:ByteArray}{a:Nat}(h:zb0 s a≠0):0<zA4 s a:=by
 rcases Nat.eq_zero_or_pos (zA4 s a)with h0 | h0
 ·exfalso;apply h;unfold zb0;rw[h0];unfold zAC;rw[if_pos (by rw[ByteArray.size_extract]; omega)]
 ·exact h0
theorem zFO{s:ByteArray}{a b:Nat}{T T':List Tok}(ha:a<s.size)(h:zCP s a T=some (b,T')):a<b/\b<=s.size/\T'.length<=T.length+1:=by
 unfold zCP at h;cases hs:zD3 s a with
 | some c=>
  rw[hs]at h;simp only[Option.some.injEq,Prod.mk.injEq]at h;obtain⟨rfl,rfl⟩:=h;have:=space_gt ha hs;omega
 | none=>
  rw[hs]at h;simp only at h;split at h
  ·rename_i hw;simp only[Option.some.injEq,Prod.mk.injEq]at h;obtain⟨rfl,rfl⟩:=h;have:=word_pos hw;have:=zF5 s a (by omega);simp; omega
  ·split at h
   ·simp only[Option.some.injEq,Prod.mk.injEq]at h;obtain⟨rfl,rfl⟩:=h;have:=sign_le (s:=s) (a:=a) (by omega);simp; omega
   ·cases h
theorem sc_fz(id:Nat)(d:D)(m:Option Nat)(s:ByteArray)(a:Int)(tk:AV):AV.fz.fzL id d m (scA s a tk)=scA s a (tk.fz id d m):=by
 have key: ∀l:List Nat,AV.fz.fzL id d m ((l.map fun b=>AV.d (eU8 (zCs b)))++[tk])=(l.map fun b=>AV.d (eU8 (zCs b)))++[tk.fz id d m]:=by
  intro l
  induction l with
  | nil=>rfl
  | cons b l ih=>simp only[wab,wag,AV.fz.fzL,ih,AV.fz]
 unfold scA;simp only[AV.fz.fzL,AV.fz];rw[show zDN zCs=(List.range 256).map fun b=>AV.d (eU8 (zCs b))from rfl,key]
def zAc(T:List Tok):D:=.sl (T.map zJb)
def lexR:Except Nat (List Tok)->AV
 | .ok T=>.tup [.d (zAc T),.d (eI 0),.d (eI 0)]
 | .error a=>.tup [.d (.sl []),.d (eI a),.d (eI 5)]
def zEW(s:ByteArray):Except Nat (List Tok):=lexL s s.size 0 []
def lexV(s:ByteArray):AV:=if s.size>8000 then .tup [.d (.sl []),.d (eI 0),.d (eI 2)]else lexR (zEW s)
theorem sc_setD(s:ByteArray)(a:Int)(tk x:AV):(scA s a tk).set 258 x=scA s a x:=by
 unfold scA;rw[show(258:Nat)=256+1+1 from rfl,List.set_cons_succ,List.set_cons_succ,List.set_append_right _ _ (by rw[zBo]; exact wak _),zBo];rfl
theorem sc_getD(s:ByteArray)(a:Int)(tk:AV):(scA s a tk).getD 258 .dead =tk:=by
 unfold scA;rw[show(258:Nat)=256+1+1 from rfl,List.getD_cons_succ,List.getD_cons_succ];simp[List.getD,zBo]
theorem extract_nil(s:ByteArray)(a:Nat):s.extract a (a+0)=⟨#[]⟩:=by
 apply ByteArray.ext;rw[ByteArray.data_extract];simp;omega
theorem lex_g(Z:GP)(s:ByteArray)(hs:s.size<=1000000):
  FnL Tryz.prog 63 [.d (.lit (.string s))] [(7777777,Z.o)] (fun V ol new=>V=lexV s/\ol=[(7777777,Z.o)]/\new=[]):=by
 refine FnL.srt (FnL.of_eH 1999 [] (own:=[]) (fun i=>if i=3 then [.adB 15 258 1000 49 3]else if i=1013 then [.frz 1000]else chL i) [] zat Tryz.func63 rfl Tryz.call63 Tryz.ntmps63 (zle rfl) Tryz.results63 (zCw Z _ (by simp[AV.noRefs,AV.noRef])) (fun gs=> ?_));by_cases h8:s.size>8000
 ·have e0:decide ((s.size:Int)>8000)=true:=by simp; omega
  have eV:lexV s= .tup [.d (.sl []),.d (eI 0),.d (eI 2)]:=by unfold lexV; rw[if_pos h8]
  rw[eV];simp only[ZE,seval,e0];refine⟨[1999],[],?_⟩;simp only[ZE,seval,zHH]
 have e0:decide ((s.size:Int)>8000)=false:=by simp; omega
 obtain⟨E,hE⟩:=zX (zEW s);have eV:lexV s=lexR E:=by unfold lexV; rw[if_neg h8,hE]
 rw[eV];clear eV;have cc:=zE1;simp only[ZE,seval,e0];refine EFn.p ?_;simp only[ZE,seval];refine zar.i (cc) ?_;simp only[ZE,seval,GZ,scO,tkO,zAg,zAm,zAn,zAo,zAf,zAh,zAe,tZ185,<-zS.eq_1,zHX,zF7,zDC,zBo,zFZ,zFY,zF0,zDk,sc_setD,sc_getD];refine zgR (X:=Nat×List Tok) (fun _=>(fun i=>if i=3 then [.adB 15 258 1000 49 3]else if i=1013 then [.frz 1000]else chL i)) zat s.size (fun i y=>i<=y.1/\y.1<=s.size/\y.2.length<=y.1/\lexL s (s.size-i) y.1 y.2=E) (fun _ y=>([(0,.d (.lit (.string s))),(2,.nils),(3,.d (eI 0)),(4,.d (eI 0)),(5,.bp 15 0),(6,.bp 6 0)],[(15,.box (scA s y.1 (.ar 1000 y.2.length))),(1000,tkO y.2),(6,.box [.d (.clo (.func 102) [] []),.d (.clo (.func 103) [] []),.d (.clo (.func 104) [] [])]),(1999,.gh [] gs),(7777777,Z.o)])) (0,[]) ⟨wak _,Nat.zero_le _,wak _,hE⟩ ?_ ?_ (fun i y hi hI=> ?_)
 ·simp only[ZE,seval]
 ·simp only[ZE,seval,tkO,GZ]
 obtain⟨a,T⟩:=y;obtain⟨hI1,hI2,hI3,hI4⟩:=hI;simp only at hI1 hI2 hI3 hI4;by_cases ha:a<s.size
 ·have e1:decide ((a:Int)<(s.size:Int))=true:=by simp; omega
  have hc1:=space_g Z s a T hs hI2 (by omega);have hc2:=word_g Z s a T hs hI2 (by omega);have hc3:=sign_g Z s a T hs hI2 (by omega);have hstep: ∀b T',zCP s a T=some (b,T')->i<s.size/\(i+1<=b/\b<=s.size/\T'.length<=b/\lexL s (s.size-(i+1)) b T'=E):=by
   intro b T' h;have h1:=zFO ha h;refine⟨by omega,by omega,by omega,by omega,?_⟩;rw[show s.size-i=s.size-(i+1)+1 by omega]at hI4;unfold lexL at hI4;rw[if_pos ha,h]at hI4;exact hI4
  simp only[ZE,seval,e1,GZ,scO,tkO,zAg,zAm,zAn,zAo,zAf,zAh,zAe];refine za1 (fun i=>if i=3 then [.adB 15 258 1000 49 3]else if i=1013 then [.frz 1000]else chL i) zat 3 (fun j=>(1<=j->zD3 s a=none)/\(2<=j->zb0 s a=0)/\(3<=j->zB8 s a=0)) (fun j=>([(0,.d (.lit (.string s))),(2,.nils),(3,.d (eI 0)),(4,.d (eI 0)),(5,.bp 15 0),(6,.bp 6 0),(24,.d (.agg [.clo (.func 102) [] [],.clo (.func 103) [] [],.clo (.func 104) [] []])),(25,.d (eI j))],[(15,.box (scA s a (.ar 1000 T.length))),(1000,tkO T),(6,.box [.d (.clo (.func 102) [] []),.d (.clo (.func 103) [] []),.d (.clo (.func 104) [] [])]),(1999,.gh [] gs),(7777777,Z.o)])) (by omega) ?_ ?_ (fun j hj hJ=> ?_)
  ·simp only[ZE,seval]
  ·simp only[ZE,seval,tkO,GZ]
  rcases(show j=0\/j=1\/j=2\/j=3 by omega)with rfl | rfl | rfl | rfl
  ·simp only[ZE,seval,wai,GZ,scO,tkO,zAg,zAm,zAn,zAo,zAf,zAh,zAe];refine EFn.gV [(1,15),(2,1000),(7777777,7777777)] hc1 ?_ ?_
   ·simp only[ZE,seval,GZ,scO,tkO,zAg,zAm,zAn,zAo,zAf,zAh,zAe]
   rintro V ol new ⟨rfl,rfl,rfl⟩;cases hsp:zD3 s a with
   | some b=>
    have h:=hstep b T (by unfold zCP; rw[hsp]);simp only[ZE,seval,GZ,scO,tkO,zAg,zAm,zAn,zAo,zAf,zAh,zAe,Option.isSome_some,Option.getD_some];refine⟨h.1,(b,T),h.2,?_,?_⟩
    ·simp only[ZE,seval]
    ·simp only[ZE,seval,GZ,scO,tkO,zAg,zAm,zAn,zAo,zAf,zAh,zAe]
   | none=>
    have w1:IntKind.i64.wrap 1=1:=rfl;have hj:(1<=1->zD3 s a=none):=fun _=>hsp;simp only[ZE,seval,GZ,scO,tkO,zAg,zAm,zAn,zAo,zAf,zAh,zAe,Option.isSome_none,Option.getD_none,w1,hsp]
  ·have hsp:=hJ.1 (by omega);simp only[ZE,seval,wai,GZ,scO,tkO,zAg,zAm,zAn,zAo,zAf,zAh,zAe];refine EFn.gV [(1,15),(2,1000),(7777777,7777777)] hc2 ?_ ?_
   ·simp only[ZE,seval,GZ,scO,tkO,zAg,zAm,zAn,zAo,zAf,zAh,zAe]
   rintro V ol new ⟨rfl,rfl,rfl⟩;by_cases hw:zb0 s a=0
   ·have w2:IntKind.i64.wrap 2=2:=rfl;have c1:decide (zb0 s a≠0)=false:=(by simp[hw]);have c2:zHu Z s a T=scO Z s a T:=(by unfold zHu; rw[if_pos hw]);rw[c1,c2];simp only[ZE,seval,GZ,scO,tkO,zAg,zAm,zAn,zAo,zAf,zAh,zAe,w2,hsp,hw]
   ·have c1:decide (zb0 s a≠0)=true:=(by simp[hw]);have c2:zHu Z s a T=scO Z s (a+zA4 s a) (T++[(zb0 s a,s.extract a (a+zA4 s a),a)]):=(by unfold zHu; rw[if_neg hw]);have h:=hstep (a+zA4 s a) (T++[(zb0 s a,s.extract a (a+zA4 s a),a)]) (by unfold zCP; rw[hsp]; simp only; rw[if_pos hw]);rw[c1,c2];simp only[ZE,seval,GZ,scO,tkO,zAg,zAm,zAn,zAo,zAf,zAh,zAe];refine⟨h.1,(_,_),h.2,?_,?_⟩
    ·simp only[ZE,seval]
    ·simp only[ZE,seval,GZ,scO,tkO,zAg,zAm,zAn,zAo,zAf,zAh,zAe]
  ·have hsp:=hJ.1 (by omega);have hw:=hJ.2.1 (by omega);simp only[ZE,seval,wai,GZ,scO,tkO,zAg,zAm,zAn,zAo,zAf,zAh,zAe];refine EFn.gV [(1,15),(2,1000),(7777777,7777777)] hc3 ?_ ?_
   ·simp only[ZE,seval,GZ,scO,tkO,zAg,zAm,zAn,zAo,zAf,zAh,zAe]
   rintro V ol new ⟨rfl,rfl,rfl⟩;by_cases hg:zB8 s a=0
   ·have w3:IntKind.i64.wrap 3=3:=rfl;have c1:decide (zB8 s a≠0)=false:=(by simp[hg]);have c2:zHz Z s a T=scO Z s a T:=(by unfold zHz; rw[if_pos hg]);rw[c1,c2];simp only[ZE,seval,GZ,scO,tkO,zAg,zAm,zAn,zAo,zAf,zAh,zAe,w3,hsp,hw,hg]
   ·have c1:decide (zB8 s a≠0)=true:=(by simp[hg]);have c2:zHz Z s a T=scO Z s (a+zB8 s a) (T++[(3,s.extract a (a+zB8 s a),a)]):=(by unfold zHz; rw[if_neg hg]);have h:=hstep (a+zB8 s a) (T++[(3,s.extract a (a+zB8 s a),a)]) (by unfold zCP; rw[hsp]; simp only; rw[if_neg (by omega),if_pos hg]);rw[c1,c2];simp only[ZE,seval,GZ,scO,tkO,zAg,zAm,zAn,zAo,zAf,zAh,zAe];refine⟨h.1,(_,_),h.2,?_,?_⟩
    ·simp only[ZE,seval]
    ·simp only[ZE,seval,GZ,scO,tkO,zAg,zAm,zAn,zAo,zAf,zAh,zAe]
  ·have hsp:=hJ.1 (by omega);have hw:=hJ.2.1 (by omega);have hg:=hJ.2.2 (by omega);have hE2:E= .error a:=by
    rw[<-hI4,show s.size-i=s.size-(i+1)+1 by omega];unfold lexL;rw[if_pos ha];have:zCP s a T=none:=(by unfold zCP; rw[hsp]; simp[hw,hg]);rw[this]
   subst hE2;simp only[ZE,seval,GZ,scO,tkO,zAg,zAm,zAn,zAo,zAf,zAh,zAe];refine⟨by kernel_rfl,[6,15,1000,1999],[],?_⟩;simp only[ZE,seval,zHH,lexR]
 ·have ha:a=s.size:=by omega
  have e1:decide ((a:Int)<(s.size:Int))=false:=by simp; omega
  have ht:=take_g Z s a 4 0 T hs (by omega) (by omega);rw[lexL_end s _ a T (by omega)]at hI4;rw[extract_nil]at ht;subst hI4;simp only[ZE,seval,Int.natCast_zero,Nat.add_zero]at ht;simp only[ZE,seval,e1,GZ,scO,tkO,zAg,zAm,zAn,zAo,zAf,zAh,zAe];refine EFn.gV [(1,15),(2,1000),(7777777,7777777)] ht ?_ ?_
  ·simp only[ZE,seval,GZ,scO,tkO,zAg,zAm,zAn,zAo,zAf,zAh,zAe]
  rintro V ol new ⟨rfl,rfl,rfl⟩;simp only[ZE,seval,GZ,scO,tkO,zAg,zAm,zAn,zAo,zAf,zAh,zAe,sc_fz];refine⟨[6,15,1999],[],?_⟩;simp only[ZE,seval,zHH,lexR,zAc]
abbrev Bts:=ByteArray
structure Num where
 n:Int
 p:Bts
 deriving DecidableEq
structure Rule where
 kind:Int
 from':Bts
 n:Int
 deriving DecidableEq
structure Bind where
 port:Bts
 chan:Bts
 deriving DecidableEq
inductive Expr where
 | mk (op:Int) (name:Bts) (k w:Num) (args:List Expr)
def Expr.op:Expr->Int | .mk o _ _ _ _=>o
def Expr.name:Expr->Bts | .mk _ n _ _ _=>n
def Expr.k:Expr->Num | .mk _ _ k _ _=>k
def Expr.w:Expr->Num | .mk _ _ _ w _=>w
def Expr.args:Expr->List Expr | .mk _ _ _ _ a=>a
structure Item where
 kind:Int
 name:Bts
 width:Num
 depth:Num
 init:Num
 a:Expr
 b:Expr
 c:Expr
 rule:Rule
 of:Bts
 args:List Num
 ports:List Bind
structure Module where
 name:Bts
 clock:Bts
 params:List Bts
 items:List Item
def eSb(s:Bts):D:=.lit (.string s)
def zgL(x:Num):List D:=[eI x.n,eSb x.p]
def zib(x:Rule):List D:=[eI x.kind,eSb x.from',eI x.n]
def zjO(x:Bind):List D:=[eSb x.port,eSb x.chan]
def eSbs(l:List Bts):D:=.sl (l.map fun s=>[eSb s])
def ziG(l:List Num):D:=.sl (l.map zgL)
def zel(l:List Bind):D:=.sl (l.map zjO)
mutual
def zbx:Expr->List D
 | .mk o n k w a=>[eI o,eSb n,eI k.n,eSb k.p,eI w.n,eSb w.p,.sl (ziF a)]
def ziF:List Expr->List (List D)
 | []=>[]
 | e::r=>zbx e::ziF r
end
theorem zj8: ∀l:List Expr,ziF l=l.map zbx
 | []=>by simp[ziF]
 | e::r=>by simp[ziF,zj8 r]
theorem zb6(e:Expr):zbx e=[eI e.op,eSb e.name,eI e.k.n,eSb e.k.p,eI e.w.n,eSb e.w.p,.sl (e.args.map zbx)]:=by
 cases e; simp[zbx,zj8,Expr.op,Expr.name,Expr.k,Expr.w,Expr.args]
def zaK(x:Item):List D:=eI x.kind::eSb x.name::(zgL x.width++(zgL x.depth++(zgL x.init++(zbx x.a++(zbx x.b++(zbx x.c++(zib x.rule++[eSb x.of,ziG x.args,zel x.ports])))))))
def zbR(l:List Item):D:=.sl (l.map zaK)
def zaC(m:Module):List D:=[eSb m.name,eSb m.clock,eSbs m.params,zbR m.items]
def zax(l:List Module):D:=.sl (l.map zaC)
def KE:=And.intro @eSb.eq_1 (And.intro @zgL.eq_1 (And.intro @zib.eq_1 (And.intro @zjO.eq_1 (And.intro @eSbs.eq_1 (And.intro @ziG.eq_1 (And.intro @zel.eq_1 (And.intro @zbR.eq_1 (And.intro @zaC.eq_1 @zax.eq_1))))))))
def e0:Bts:=⟨#[]⟩
def n0:Num:=⟨0,e0⟩
def r0:Rule:=⟨0,e0,0⟩
def x0:Expr:=.mk 0 e0 n0 n0 []
def tk(T:List Tok)(a:Nat):Tok:=T.getD a (0,e0,0)
def isT(T:List Tok)(a k:Nat)(s:Bts):Bool:=decide ((tk T a).1 =k)&&decide ((tk T a).2.1 =s)
abbrev PR(α:Type):=Except Nat (α×Nat)
def zBx(T:List Tok)(s:Bts)(a:Nat):PR Unit:=if isT T a 3 s=true then .ok ((),a+1)else .error a
def zDG(T:List Tok)(s:Bts)(a:Nat):PR Unit:=if isT T a 1 s=true then .ok ((),a+1)else .error a
def resL:List Bts:=[(⟨#[109,111,100,117,108,101]⟩:ByteArray),(⟨#[105,110]⟩:ByteArray),(⟨#[111,117,116]⟩:ByteArray),(⟨#[99,104,97,110]⟩:ByteArray),(⟨#[114,101,103]⟩:ByteArray),(⟨#[119,105,114,101]⟩:ByteArray),(⟨#[109,101,109]⟩:ByteArray),(⟨#[116,97,107,101]⟩:ByteArray),(⟨#[112,117,116]⟩:ByteArray),(⟨#[105,110,115,116]⟩:ByteArray),(⟨#[105,102]⟩:ByteArray),(⟨#[97,116]⟩:ByteArray),(⟨#[105,110,105,116]⟩:ByteArray),(⟨#[107,101,101,112]⟩:ByteArray),(⟨#[99,111,112,121]⟩:ByteArray),(⟨#[97,100,100]⟩:ByteArray)]
def zFM(s:Bts):Bool:=resL.any fun x=>decide (x=s)
def opL:List (Bts×Nat):=[((⟨#[38]⟩:ByteArray),3),((⟨#[124]⟩:ByteArray),4),((⟨#[94]⟩:ByteArray),5),((⟨#[43]⟩:ByteArray),6),((⟨#[45]⟩:ByteArray),7),((⟨#[61,61]⟩:ByteArray),8),((⟨#[60]⟩:ByteArray),9),((⟨#[46]⟩:ByteArray),11)]
def zGx(s:Bts):Nat:=(opL.lookup s).getD 0
def zBE(T:List Tok)(a:Nat):PR Bts:=if (tk T a).1 =1/\zFM (tk T a).2.1 =false then .ok ((tk T a).2.1,a+1)else .error a
def zAZ(T:List Tok)(least:Int)(a:Nat):PR Int:=
 match Go.Lib.atoiAll (tk T a).2.1.data.toList with
 | .ok n=>if (tk T a).1 =2/\least<=n then .ok (n,a+1)else .error a
 | _=>.error a
def PR.bd{α β:Type}(r:PR α)(f:α->Nat->PR β):PR β:=
 match r with
 | .ok (x,b)=>f x b
 | .error i=>.error i
@[simp] theorem PR.bd_ok {α β:Type} (x:α) (b:Nat) (f:α->Nat->PR β):PR.bd (.ok (x,b)) f=f x b:=rfl
@[simp] theorem PR.bd_error {α β:Type} (i:Nat) (f:α->Nat->PR β):PR.bd (.error i) f= .error i:=rfl
def zDM(T:List Tok)(a:Nat):PR Num:=
 if (tk T a).1 =2 then(zAZ T 0 a).bd fun n b=>.ok (⟨n,e0⟩,b)
 else(zBE T a).bd fun s b=>
  if isT T b 3 (⟨#[43]⟩:ByteArray)=true then(zAZ T 1 (b+1)).bd fun n c=>.ok (⟨n,s⟩,c)
  else if isT T b 3 (⟨#[45]⟩:ByteArray)=true then(zAZ T 1 (b+1)).bd fun n c=>.ok (⟨-n,s⟩,c)
  else .ok (⟨0,s⟩,b)
def zC7(rec:Nat->PR Expr)(T:List Tok)(a:Nat):PR Expr:=
 (rec a).bd fun x b=>
  if isT T b 3 (⟨#[63]⟩:ByteArray)=true then(rec (b+1)).bd fun y c=>(zBx T (⟨#[58]⟩:ByteArray) c).bd fun _ d=>(rec d).bd fun z e=>(zBx T (⟨#[41]⟩:ByteArray) e).bd fun _ f=>.ok (.mk 10 e0 n0 n0 [x,y,z],f)
  else if zGx (tk T b).2.1 =0\/(tk T b).1 ≠3 then .error b
  else(rec (b+1)).bd fun y c=>(zBx T (⟨#[41]⟩:ByteArray) c).bd fun _ d=>.ok (.mk (zGx (tk T b).2.1) e0 n0 n0 [x,y],d)
def zC0(rec:Nat->PR Expr)(T:List Tok)(a:Nat):PR Expr:=
 (rec a).bd fun x b=>
  if isT T b 3 (⟨#[64]⟩:ByteArray)=true then(zDM T (b+1)).bd fun k c=>(zBx T (⟨#[58]⟩:ByteArray) c).bd fun _ d=>(zDM T d).bd fun w e=>(zBx T (⟨#[125]⟩:ByteArray) e).bd fun _ f=>.ok (.mk 12 e0 k w [x],f)
  else(zBx T (⟨#[58]⟩:ByteArray) b).bd fun _ d=>(zDM T d).bd fun w e=>(zBx T (⟨#[125]⟩:ByteArray) e).bd fun _ f=>.ok (.mk 13 e0 n0 w [x],f)
def zCK(rec:Nat->PR Expr)(deep:Bool)(T:List Tok)(a:Nat):PR Expr:=
 if isT T a 3 (⟨#[91]⟩:ByteArray)=true then(zDM T (a+1)).bd fun k b=>(zBx T (⟨#[58]⟩:ByteArray) b).bd fun _ c=>(zDM T c).bd fun w d=>(zBx T (⟨#[93]⟩:ByteArray) d).bd fun _ e=>.ok (.mk 1 e0 k w [],e)
 else if (tk T a).1 =1 then(zBE T a).bd fun s b=>
  if deep=true/\isT T b 3 (⟨#[91]⟩:ByteArray)=true then(rec (b+1)).bd fun x c=>(zBx T (⟨#[93]⟩:ByteArray) c).bd fun _ d=>.ok (.mk 15 s n0 n0 [x],d)
  else .ok (.mk 14 s n0 n0 [],b)
 else if deep=false then .error a
 else if isT T a 3 (⟨#[126]⟩:ByteArray)=true then(rec (a+1)).bd fun x b=>.ok (.mk 2 e0 n0 n0 [x],b)
 else if isT T a 3 (⟨#[40]⟩:ByteArray)=true then zC7 rec T (a+1)
 else if isT T a 3 (⟨#[123]⟩:ByteArray)=true then zC0 rec T (a+1)
 else .error a
def zBA(T:List Tok):Nat->Nat->PR Expr
 | 0,a=>zCK (fun a=>.error a) false T a
 | d+1,a=>zCK (zBA T d) (decide (0<d)) T a
def zFX:List (Bts×Nat):=[((⟨#[105,110,105,116]⟩:ByteArray),0),((⟨#[107,101,101,112]⟩:ByteArray),1),((⟨#[99,111,112,121]⟩:ByteArray),2),((⟨#[97,100,100]⟩:ByteArray),3)]
def zEm(T:List Tok)(a:Nat):PR Rule:=
 if (tk T a).1 ≠1 then .error a
 else match zFX.lookup (tk T a).2.1 with
  | some 2=>(zBE T (a+1)).bd fun s b=>.ok (⟨2,s,0⟩,b)
  | some 3=>(zBE T (a+1)).bd fun s b=>(zAZ T 0 b).bd fun n c=>.ok (⟨3,s,n⟩,c)
  | some k=>.ok (⟨k,e0,0⟩,a+1)
  | none=>.error a
def zCc(x:Item)(T:List Tok)(a:Nat):PR Item:=(zBE T a).bd fun s b=>(zBx T (⟨#[58]⟩:ByteArray) b).bd fun _ c=>(zDM T c).bd fun w d=>.ok ({x with name:=s,width:=w},d)
def zE0(x:Item)(T:List Tok)(a:Nat):PR Item:=(zCc x T a).bd fun x b=>(zBx T (⟨#[91]⟩:ByteArray) b).bd fun _ c=>(zDM T c).bd fun w d=>(zBx T (⟨#[93]⟩:ByteArray) d).bd fun _ e=>.ok ({x with depth:=w},e)
def regP(x:Item)(T:List Tok)(a:Nat):PR Item:=(zCc x T a).bd fun x b=>(zBx T (⟨#[61]⟩:ByteArray) b).bd fun _ c=>(zDM T c).bd fun w d=>(zBx T (⟨#[45,62]⟩:ByteArray) d).bd fun _ e=>(zBA T 8 e).bd fun y f=>(zEm T f).bd fun r g=>.ok ({x with init:=w,a:=y,rule:=r},g)
def wireP(x:Item)(T:List Tok)(a:Nat):PR Item:=(zCc x T a).bd fun x b=>(zBx T (⟨#[61]⟩:ByteArray) b).bd fun _ c=>(zBA T 8 c).bd fun y f=>.ok ({x with a:=y},f)
def memP(x:Item)(T:List Tok)(a:Nat):PR Item:=(zE0 x T a).bd fun x b=>(zDG T (⟨#[105,102]⟩:ByteArray) b).bd fun _ c=>(zBA T 8 c).bd fun y d=>(zDG T (⟨#[97,116]⟩:ByteArray) d).bd fun _ e=>(zBA T 8 e).bd fun z f=>(zBx T (⟨#[61]⟩:ByteArray) f).bd fun _ g=>(zBA T 8 g).bd fun u h=>(zEm T h).bd fun r i=>.ok ({x with a:=y,b:=z,c:=u,rule:=r},i)
def zFw(x:Item)(T:List Tok)(a:Nat):PR Item:=(zBE T a).bd fun s b=>(zDG T (⟨#[105,102]⟩:ByteArray) b).bd fun _ c=>(zBA T 8 c).bd fun y d=>.ok ({x with name:=s,a:=y},d)
def putP(x:Item)(T:List Tok)(a:Nat):PR Item:=(zFw x T a).bd fun x b=>(zBx T (⟨#[61]⟩:ByteArray) b).bd fun _ c=>(zBA T 8 c).bd fun y d=>.ok ({x with b:=y},d)
def zDB{α:Type}(one:Nat->PR α)(T:List Tok):Nat->List α->Nat->PR (List α)
 | 0,_,a=>.error a
 | n+1,l,a=>if isT T a 3 (⟨#[44]⟩:ByteArray)=true then(one (a+1)).bd fun x b=>zDB one T n (l++[x]) b else(zBx T (⟨#[41]⟩:ByteArray) a).bd fun _ b=>.ok (l,b)
def zDg{α:Type}(one:Nat->PR α)(T:List Tok)(a:Nat):PR (List α):=
 (zBx T (⟨#[40]⟩:ByteArray) a).bd fun _ b=>if isT T b 3 (⟨#[41]⟩:ByteArray)=true then .ok ([],b+1)else(one b).bd fun x c=>zDB one T T.length [x] c
def zDP(T:List Tok)(a:Nat):PR Bind:=(zBE T a).bd fun s b=>(zBx T (⟨#[61]⟩:ByteArray) b).bd fun _ c=>(zBE T c).bd fun t d=>.ok (⟨s,t⟩,d)
def instP(x:Item)(T:List Tok)(a:Nat):PR Item:=(zBE T a).bd fun s b=>(zBx T (⟨#[58]⟩:ByteArray) b).bd fun _ c=>(zBE T c).bd fun o d=>(zDg (zDM T) T d).bd fun l e=>(zDg (zDP T) T e).bd fun m f=>.ok ({x with name:=s,of:=o,args:=l,ports:=m},f)
def zIg:List (Bts×Nat):=[((⟨#[105,110]⟩:ByteArray),1),((⟨#[111,117,116]⟩:ByteArray),2),((⟨#[99,104,97,110]⟩:ByteArray),3),((⟨#[114,101,103]⟩:ByteArray),4),((⟨#[119,105,114,101]⟩:ByteArray),5),((⟨#[109,101,109]⟩:ByteArray),6),((⟨#[116,97,107,101]⟩:ByteArray),7),((⟨#[112,117,116]⟩:ByteArray),8),((⟨#[105,110,115,116]⟩:ByteArray),9)]
def zBg(k:Nat):Item:=⟨k,e0,n0,n0,n0,x0,x0,x0,r0,e0,[],[]⟩
def zHh(k:Nat)(T:List Tok)(a:Nat):PR Item:=
 match k with
 | 3=>zE0 (zBg 3) T a
 | 4=>regP (zBg 4) T a
 | 5=>wireP (zBg 5) T a
 | 6=>memP (zBg 6) T a
 | 7=>zFw (zBg 7) T a
 | 8=>putP (zBg 8) T a
 | 9=>instP (zBg 9) T a
 | k=>zCc (zBg k) T a
def zDV(T:List Tok)(a:Nat):PR Item:=
 if (tk T a).1 ≠1 then .error a
 else match zIg.lookup (tk T a).2.1 with
  | some k=>(zHh k T (a+1)).bd fun x b=>(zBx T (⟨#[59]⟩:ByteArray) b).bd fun _ c=>.ok (x,c)
  | none=>.error a
def zCN(T:List Tok):Nat->List Item->Nat->PR (List Item)
 | 0,_,a=>.error a
 | n+1,l,a=>if isT T a 3 (⟨#[125]⟩:ByteArray)=true then .ok (l,a+1)else(zDV T a).bd fun x b=>zCN T n (l++[x]) b
def zBC(T:List Tok)(a:Nat):PR Module:=
 (zDG T (⟨#[109,111,100,117,108,101]⟩:ByteArray) a).bd fun _ b=>(zBE T b).bd fun s c=>(zDg (zBE T) T c).bd fun l d=>(zBx T (⟨#[64]⟩:ByteArray) d).bd fun _ e=>(zBE T e).bd fun k f=>(zBx T (⟨#[123]⟩:ByteArray) f).bd fun _ g=>(zCN T T.length [] g).bd fun m h=>.ok (⟨s,k,l,m⟩,h)
def zB4(T:List Tok):Nat->List Module->Nat->Except Nat (List Module)
 | 0,_,a=>.error a
 | n+1,l,a=>if (tk T a).1 =4 then .ok l else match zBC T a with
  | .ok (m,b)=>zB4 T n (l++[m]) b
  | .error i=>.error i
structure TOk (T:List Tok):Prop where
 len:T.length<=1000000
 sz: ∀t∈T,t.2.1.size<=1000000
 last: ∀a,a<T.length->(tk T a).1 ≠4->a+1<T.length
theorem tk_get{T:List Tok}{a:Nat}(h:a<T.length):tk T a=T[a]:=by simp[tk,List.getD,h]
theorem zDl{T:List Tok}{a:Nat}(h:a<T.length):(T.map zJb).getD a []=[eI (tk T a).1,eSb (tk T a).2.1,eI (tk T a).2.2]:=by
 rw[zaa h,tk_get h]; rfl
theorem TOk.size{T:List Tok}(hT:TOk T){a:Nat}(h:a<T.length):(tk T a).2.1.size <=1000000:=by
 rw[tk_get h]; exact hT.sz _ (List.getElem_mem h)
theorem zBj{T:List Tok}(hT:TOk T){a k:Nat}{s:Bts}(ha:a<T.length)(hk:k≠4)(h:isT T a k s=true):a+1<T.length:=by
 unfold isT at h;simp only[wal,decide_eq_true_eq]at h;exact hT.last a ha (by omega)
structure GP.Ok (Z:GP):Prop where
 res: ∀s:Bts,zjZ Z.kR Z.vR (.lit (.string s))=if zFM s=true then some (.lit (.bool true))else none
 ops: ∀s:Bts,zjZ Z.kO Z.vO (.lit (.string s))=if zGx s=0 then none else some (eI (zGx s))
 rk: ∀y∈Z.kR,zd3 Tryz.prog 9 y
 ok: ∀y∈Z.kO,zd3 Tryz.prog 9 y
 it: ∀j,j<Z.kO.length-> ∃p∈opL,Z.kO.getD j default= .lit (.string p.1)/\Z.vO.getD j default=eI p.2
theorem zal:zj0 Tryz.prog 9:=Go.Maps.string_keyed tU9
theorem zB5{s:Bts}(h:s.size<=1000000):zd3 Tryz.prog 9 (.lit (.string s)):=⟨.string s,.string s.data.toList,rfl,by
 have h2:s.size<=maxLen:=by simp only[maxLen]; omega
 unfold keyOf mapKey;simp[tU9,h2]⟩
def zCU(a:Nat):Value:=.iface 189 (.int .i64 a)
def paO(T:List Tok)(a:Nat):AO:=.box [.d (zAc T),.d (eI a)]
def paL(Z:GP)(T:List Tok)(a:Nat):OL:=[(1,paO T a),(7777777,Z.o)]
def PCon(Z:GP)(T:List Tok)(f:Nat)(args:List AV)(a:Nat){α:Type}(R:PR α)(enc:α->AV):Prop:=
 zBL Tryz.prog f args (paL Z T a) (fun V ol new=> ∃x b,R= .ok (x,b)/\b<T.length/\V=enc x/\ol=paL Z T b/\new=[]) (fun v=> ∃i,R= .error i/\v=zCU i)
theorem PCon.ok{Z:GP}{T:List Tok}{f:Nat}{args:List AV}{a:Nat}{α:Type}{R:PR α}{enc:α->AV}(h:PCon Z T f args a R enc){x:α}{b:Nat}(hR:R= .ok (x,b)):
  FnL Tryz.prog f args (paL Z T a) (fun V ol new=>b<T.length/\V=enc x/\ol=paL Z T b/\new=[]):=by
 refine⟨h.1,fun W F O0 η S vs hm hO hr=>Calls.mono (h.2 W F O0 η S vs hm hO hr) ?_⟩;rintro e W' (⟨v,V,Oo,new,F',η',S',a1,⟨ol,a2,y,c,a3,a4,a5,a6,a7⟩,a8⟩ | ⟨v,F',η',S',a1,⟨i,a2,_⟩,a3⟩)
 ·rw[hR]at a3;cases a3;exact⟨v,V,Oo,new,F',η',S',a1,⟨ol,a2,a4,a5,a6,a7⟩,a8⟩
 ·rw[hR]at a2;cases a2
theorem PCon.err{Z:GP}{T:List Tok}{f:Nat}{args:List AV}{a:Nat}{α:Type}{R:PR α}{enc:α->AV}(h:PCon Z T f args a R enc){i:Nat}(hR:R= .error i):
  zBL Tryz.prog f args (paL Z T a) (fun _ _ _=>False) (fun v=>v=zCU i):=by
 refine zBL.mono h ?_ ?_
 ·rintro V ol new ⟨x,b,h1,_⟩;rw[hR]at h1;cases h1
 ·rintro v ⟨j,h1,h2⟩;rw[hR]at h1;cases h1;exact h2
theorem zDb(Z:GP)(T:List Tok)(a:Nat)(args:List AV)(ha:AV.noRefs [1999] args):
  (zyk 1999 (paL Z T a)/\AV.noRefs [1999] args)/\zCV (om (paL Z T a)) []/\AV.noRefs [1999] []:=by
 simp[paL,paO,GZ,zyk,AO.noRef,AV.noRefs,AV.noRef,zCV,ha]
theorem zGc(Z:GP)(T:List Tok)(a:Nat):zBL Tryz.prog 165 [.bp 1 0] (paL Z T a) (fun _ _ _=>False) (fun v=>v=zCU a):=by
 refine zBL.srt (zBL.of_eH 1999 [] (own:=[]) (fun _=>[]) [0] zat Tryz.func165 rfl Tryz.call165 Tryz.ntmps165 (zle rfl) Tryz.results165 (zDb Z T a _ (by simp[AV.noRefs,AV.noRef])) (fun gs=> ?_));simp only[ZE,seval,GZ,paO,paL,zAc,zCU]
theorem is_p(Z:GP)(T:List Tok)(a k:Nat)(s:Bts)(ha:a<T.length):
  FnL Tryz.prog 202 [.bp 1 0,.d (eI k),.d (eSb s)] (paL Z T a) (fun V ol new=>V= .d (eB (isT T a k s))/\ol=paL Z T a/\new=[]):=by
 refine FnL.srt (FnL.of_eH 1999 [] (own:=[]) (fun i=>if i=2001 then [.flt ⟨[(0,none),(1,none),(2,none),(3,none),(4,none),(5,none),(6,none),(7,none),(8,none),(9,none),(11,some [])]⟩ ⟨[10],[(11,[10])]⟩]else chL i) [0] zat Tryz.func202 rfl Tryz.call202 Tryz.ntmps202 (zle rfl) Tryz.results202 (zDb Z T a _ (by simp[AV.noRefs,AV.noRef])) (fun gs=> ?_));have e1:=zai ha;have e2:=zDl ha;have e3:(((tk T a).1 :Int)==(k:Int))=decide ((tk T a).1 =k):=by
  rw[Bool.eq_iff_iff]; simp; omega
 simp only[ZE,seval,e1,e2,wai,KE,GZ,paO,paL,zAc];refine⟨by kernel_rfl,[7,1999],[],?_⟩;simp only[ZE,seval,zAp.eq_1,zAp.eq_2,zAq.eq_1,zAq.eq_2,GZ,zAt.eq_def,zAj.eq_def,ghK.eq_def,zAF.eq_def,zAi.eq_def,zHK,zht,AV.core,GZ,paO,paL,zAc,e3,isT]
theorem zBq(Z:GP)(T:List Tok)(hT:TOk T)(a:Nat)(s:Bts)(ha:a<T.length):
  FnL Tryz.prog 164 [.bp 1 0,.d (eSb s)] (paL Z T a) (fun V ol new=>V= .d (eB (isT T a 3 s))/\ol=paL Z T (if isT T a 3 s=true then a+1 else a)/\new=[]):=by
 refine FnL.srt (FnL.of_eH 1999 [] (own:=[]) chL [0] zat Tryz.func164 rfl Tryz.call164 Tryz.ntmps164 (zle rfl) Tryz.results164 (zDb Z T a _ (by simp[AV.noRefs,AV.noRef])) (fun gs=> ?_));have hi:FnL Tryz.prog 202 [.bp 1 0,.d (.lit (.int .i64 3)),.d (eSb s)] (paL Z T a) (fun V ol new=>V= .d (eB (isT T a 3 s))/\ol=paL Z T a/\new=[]):=is_p Z T a 3 s ha;have hl:=hT.len;have hw:=zaq (show a<9223372036854775807 by omega);obtain⟨b,hb⟩:=zX (isT T a 3 s);rw[hb]at hi ⊢;simp only[ZE,seval,KE]at hi;simp only[ZE,seval,KE,GZ,paO,paL,zAc];refine EFn.gV [(1,1),(7777777,7777777)] hi ?_ ?_
 ·simp only[ZE,seval,GZ,paO,paL,zAc]
 rintro V ol new ⟨rfl,rfl,rfl⟩;cases b with
 | true=>
  simp only[ZE,seval,hw,GZ,paO,paL,zAc];refine⟨[1999],[],?_⟩;simp only[ZE,seval,zAp.eq_1,zAp.eq_2,zAq.eq_1,zAq.eq_2,GZ,zAt.eq_def,zAj.eq_def,ghK.eq_def,zAF.eq_def,zAi.eq_def,zHK,zht,AV.core,GZ,paO,paL,zAc]
 | false=>
  simp only[ZE,seval,GZ,paO,paL,zAc];refine⟨[1999],[],?_⟩;simp only[ZE,seval,zAp.eq_1,zAp.eq_2,zAq.eq_1,zAq.eq_2,GZ,zAt.eq_def,zAj.eq_def,ghK.eq_def,zAF.eq_def,zAi.eq_def,zHK,zht,AV.core,GZ,paO,paL,zAc]
theorem zBu(Z:GP)(T:List Tok)(hT:TOk T)(a:Nat)(s:Bts)(ha:a<T.length):
  PCon Z T 162 [.bp 1 0,.d (eSb s)] a (zBx T s a) (fun _=>.tup []):=by
 refine zBL.srt (zBL.of_eH 1999 [] (own:=[]) chL [0] zat Tryz.func162 rfl Tryz.call162 Tryz.ntmps162 (zle rfl) Tryz.results162 (zDb Z T a _ (by simp[AV.noRefs,AV.noRef])) (fun gs=> ?_));have hi:=zBq Z T hT a s ha;have hf:=zGc Z T a;have hl:isT T a 3 s=true->a+1<T.length:=zBj hT ha (by decide);have hR:zBx T s a=if isT T a 3 s=true then .ok ((),a+1)else .error a:=rfl
 obtain⟨b,hb⟩:=zX (isT T a 3 s);rw[hb]at hi hl hR;simp only[ZE,seval,KE]at hi;cases b with
 | true=>
  rw[if_pos rfl]at hi hR;simp only[ZE,seval,KE,GZ,paO,paL,zAc];refine EFn.gV [(1,1),(7777777,7777777)] hi ?_ ?_
  ·simp only[ZE,seval,GZ,paO,paL,zAc]
  rintro V ol new ⟨rfl,rfl,rfl⟩;simp only[ZE,seval,GZ,paO,paL,zAc,zAt.eq_def,zAF.eq_def];refine⟨[1999],[],?_⟩;simp only[ZE,seval,zAp.eq_1,zAp.eq_2,zAq.eq_1,zAq.eq_2,GZ,zAt.eq_def,zAj.eq_def,ghK.eq_def,zAF.eq_def,zAi.eq_def,zHK,zht,AV.core,GZ,paO,paL,zAc];exact⟨(),a+1,hR,hl rfl,rfl⟩
 | false=>
  rw[if_neg (by simp)]at hi hR;simp only[ZE,seval,KE,GZ,paO,paL,zAc];refine EFn.gV [(1,1),(7777777,7777777)] hi ?_ ?_
  ·simp only[ZE,seval,GZ,paO,paL,zAc]
  rintro V ol new ⟨rfl,rfl,rfl⟩;simp only[ZE,seval,GZ,paO,paL,zAc];refine EFn.gX [(1,1),(7777777,7777777)] hf ?_ (fun v hv=>by exact⟨a,hR,hv⟩) (fun _ _ _ h=>h.elim);simp only[ZE,seval,GZ,paO,paL,zAc]
theorem word_p(Z:GP)(T:List Tok)(hT:TOk T)(a:Nat)(s:Bts)(ha:a<T.length):
  PCon Z T 158 [.bp 1 0,.d (eSb s)] a (zDG T s a) (fun _=>.tup []):=by
 refine zBL.srt (zBL.of_eH 1999 [] (own:=[]) chL [0] zat Tryz.func158 rfl Tryz.call158 Tryz.ntmps158 (zle rfl) Tryz.results158 (zDb Z T a _ (by simp[AV.noRefs,AV.noRef])) (fun gs=> ?_));have hi:FnL Tryz.prog 202 [.bp 1 0,.d (.lit (.int .i64 1)),.d (eSb s)] (paL Z T a) (fun V ol new=>V= .d (eB (isT T a 1 s))/\ol=paL Z T a/\new=[]):=is_p Z T a 1 s ha;have hf:=zGc Z T a;have hlen:=hT.len;have hw:=zaq (show a<9223372036854775807 by omega);have hl:isT T a 1 s=true->a+1<T.length:=zBj hT ha (by decide);have hR:zDG T s a=if isT T a 1 s=true then .ok ((),a+1)else .error a:=rfl
 obtain⟨b,hb⟩:=zX (isT T a 1 s);rw[hb]at hi hl hR;simp only[ZE,seval,KE]at hi;cases b with
 | true=>
  rw[if_pos rfl]at hR;simp only[ZE,seval,KE,GZ,paO,paL,zAc];refine EFn.gV [(1,1),(7777777,7777777)] hi ?_ ?_
  ·simp only[ZE,seval,GZ,paO,paL,zAc]
  rintro V ol new ⟨rfl,rfl,rfl⟩;simp only[ZE,seval,hw,GZ,paO,paL,zAc,zAt.eq_def,zAF.eq_def];refine⟨[1999],[],?_⟩;simp only[ZE,seval,zAp.eq_1,zAp.eq_2,zAq.eq_1,zAq.eq_2,GZ,zAt.eq_def,zAj.eq_def,ghK.eq_def,zAF.eq_def,zAi.eq_def,zHK,zht,AV.core,GZ,paO,paL,zAc];exact⟨(),a+1,hR,hl rfl,rfl⟩
 | false=>
  rw[if_neg (by simp)]at hR;simp only[ZE,seval,KE,GZ,paO,paL,zAc];refine EFn.gV [(1,1),(7777777,7777777)] hi ?_ ?_
  ·simp only[ZE,seval,GZ,paO,paL,zAc]
  rintro V ol new ⟨rfl,rfl,rfl⟩;simp only[ZE,seval,GZ,paO,paL,zAc];refine EFn.gX [(1,1),(7777777,7777777)] hf ?_ (fun v hv=>by exact⟨a,hR,hv⟩) (fun _ _ _ h=>h.elim);simp only[ZE,seval,GZ,paO,paL,zAc]
theorem zDj(Z:GP)(hZ:Z.Ok)(T:List Tok)(hT:TOk T)(a:Nat)(ha:a<T.length):
  PCon Z T 159 [.bp 1 0] a (zBE T a) (fun s=>.d (eSb s)):=by
 refine zBL.srt (zBL.of_eH 1999 [] (own:=[]) (fun i=>if i=2001 then [.flt ⟨[(0,none),(1,none),(2,none),(3,none),(4,none),(5,none),(6,none),(7,none),(8,none),(9,none),(11,some [])]⟩ ⟨[10],[(11,[10])]⟩]else chL i) [0] zat Tryz.func159 rfl Tryz.call159 Tryz.ntmps159 (zle rfl) Tryz.results159 (zDb Z T a _ (by simp[AV.noRefs,AV.noRef])) (fun gs=> ?_));have hf:=zGc Z T a;have hlen:=hT.len;have hw:=zaq (show a<9223372036854775807 by omega);have e1:=zai ha;have e2:=zDl ha;have hr:=hZ.res (tk T a).2.1;have hl:=hT.last a ha;have hR:zBE T a=if (tk T a).1 =1/\zFM (tk T a).2.1 =false then .ok ((tk T a).2.1,a+1)else .error a:=rfl
 obtain⟨⟨k,s,p⟩,ht⟩: ∃t,tk T a=t:=⟨_,rfl⟩;rw[ht]at e2 hr hl hR;simp only at e2 hr hl hR;obtain⟨r,hrs⟩:=zX (zFM s);rw[hrs]at hr hR;have ks:zd3 Tryz.prog 9 (.lit (.string s)):=zB5 (by have:=hT.size ha; rw[ht]at this; exact this);have kr:(∀y∈Z.kR,zd3 Tryz.prog 9 y)=True:=eq_true hZ.rk;by_cases hk:k=1
 ·subst hk;have e3:(((1:Nat):Int) !=1)=false:=rfl;cases r with
  | false=>
   rw[if_pos ⟨rfl,rfl⟩]at hR;simp only[ZE,seval,e1,e2,e3,wai,KE,GZ,paO,paL,zAc];refine⟨by kernel_rfl,?_⟩;simp only[ZE,seval,hr,kr,ks,zal,e3,hw,zAt.eq_def,zAF.eq_def,GZ,paO,paL,zAc];refine⟨[3,1999],[],?_⟩;simp only[ZE,seval,zAp.eq_1,zAp.eq_2,zAq.eq_1,zAq.eq_2,GZ,zAt.eq_def,zAj.eq_def,ghK.eq_def,zAF.eq_def,zAi.eq_def,zHK,zht,AV.core,GZ,paO,paL,zAc];exact⟨s,a+1,hR,hl (by decide),rfl,rfl⟩
  | true=>
   rw[if_neg (by simp)]at hR;simp only[ZE,seval,e1,e2,e3,wai,KE,GZ,paO,paL,zAc];refine⟨by kernel_rfl,?_⟩;simp only[ZE,seval,hr,kr,ks,zal,e3,hw,GZ,paO,paL,zAc];refine EFn.gX [(1,1),(7777777,7777777)] hf ?_ (fun v hv=>by exact⟨a,hR,hv⟩) (fun _ _ _ h=>h.elim);simp only[ZE,seval,GZ,paO,paL,zAc]
 ·have e3:((k:Int) !=1)=true:=by simp; omega
  rw[if_neg (fun h=>hk h.1)]at hR;cases r
  all_goals
   simp only[ZE,seval,e1,e2,e3,wai,KE,GZ,paO,paL,zAc];refine⟨by kernel_rfl,?_⟩;simp only[ZE,seval,hr,kr,ks,zal,e3,hw,GZ,paO,paL,zAc];refine EFn.gX [(1,1),(7777777,7777777)] hf ?_ (fun v hv=>by exact⟨a,hR,hv⟩) (fun _ _ _ h=>h.elim);simp only[ZE,seval,GZ,paO,paL,zAc]
theorem zGL(Z:GP)(T:List Tok)(hT:TOk T)(least:Int)(a:Nat)(ha:a<T.length):
  PCon Z T 235 [.bp 1 0,.d (eI least)] a (zAZ T least a) (fun n=>.d (eI n)):=by
 refine zBL.srt (zBL.of_eH 1999 [] (own:=[]) (fun i=>if i=2001 then [.flt ⟨[(0,none),(1,none),(2,none),(3,none),(4,none),(5,none),(6,none),(7,none),(8,none),(9,none),(11,some [])]⟩ ⟨[10],[(11,[10])]⟩]else chL i) [0] zat Tryz.func235 rfl Tryz.call235 Tryz.ntmps235 (zle rfl) Tryz.results235 (zDb Z T a _ (by simp[AV.noRefs,AV.noRef])) (fun gs=> ?_));have hf:=zGc Z T a;have hlen:=hT.len;have hw:=zaq (show a<9223372036854775807 by omega);have e1:=zai ha;have e2:=zDl ha;have hl:=hT.last a ha;have hA:=atoi_c Z (tk T a).2.1 (hT.size ha);have hR:zAZ T least a=match Go.Lib.atoiAll (tk T a).2.1.data.toList with | .ok n=>if (tk T a).1 =2/\least<=n then .ok (n,a+1)else .error a | _=>.error a:=rfl
 unfold atoiR at hA;obtain⟨⟨k,s,p⟩,ht⟩: ∃t,tk T a=t:=⟨_,rfl⟩;rw[ht]at e2 hA hl hR;simp only at e2 hA hl hR;obtain⟨mE,tUE⟩:=tUerr;cases hA2:Go.Lib.atoiAll s.data.toList with
 | ok n=>
  rw[hA2]at hA hR;dsimp only at hA hR;by_cases hk:k=2
  ·subst hk;have e3:(((2:Nat):Int) !=2)=false:=rfl;by_cases hn:least<=n
   ·rw[if_pos ⟨rfl,hn⟩]at hR;have c1:decide (n<least)=false:=(by simp; omega);simp only[ZE,seval,e1,e2,wai,KE,GZ,paO,paL,zAc];refine⟨by kernel_rfl,?_⟩;refine EFn.gV [(7777777,7777777)] hA ?_ ?_
    ·simp only[ZE,seval,GZ,paO,paL,zAc]
    rintro V ol new ⟨rfl,rfl,rfl⟩;simp only[ZE,seval,e3,c1,tUE,hw,zAt.eq_def,zAF.eq_def,GZ,paO,paL,zAc];refine⟨[5,1999],[],?_⟩;simp only[ZE,seval,zAp.eq_1,zAp.eq_2,zAq.eq_1,zAq.eq_2,GZ,zAt.eq_def,zAj.eq_def,ghK.eq_def,zAF.eq_def,zAi.eq_def,zHK,zht,AV.core,GZ,paO,paL,zAc];exact⟨n,a+1,hR,hl (by decide),rfl,rfl⟩
   ·rw[if_neg (by simp[hn])]at hR;have c1:decide (n<least)=true:=(by simp; omega);simp only[ZE,seval,e1,e2,wai,KE,GZ,paO,paL,zAc];refine⟨by kernel_rfl,?_⟩;refine EFn.gV [(7777777,7777777)] hA ?_ ?_
    ·simp only[ZE,seval,GZ,paO,paL,zAc]
    rintro V ol new ⟨rfl,rfl,rfl⟩;simp only[ZE,seval,e3,c1,tUE,hw,GZ,paO,paL,zAc];refine EFn.gX [(1,1),(7777777,7777777)] hf ?_ (fun v hv=>by exact⟨a,hR,hv⟩) (fun _ _ _ h=>h.elim);simp only[ZE,seval,GZ,paO,paL,zAc]
  ·have e3:((k:Int) !=2)=true:=by simp; omega
   rw[if_neg (by simp[hk])]at hR;simp only[ZE,seval,e1,e2,wai,KE,GZ,paO,paL,zAc];refine⟨by kernel_rfl,?_⟩;refine EFn.gV [(7777777,7777777)] hA ?_ ?_
   ·simp only[ZE,seval,GZ,paO,paL,zAc]
   rintro V ol new ⟨rfl,rfl,rfl⟩;simp only[ZE,seval,e3,tUE,hw,GZ,paO,paL,zAc];refine EFn.gX [(1,1),(7777777,7777777)] hf ?_ (fun v hv=>by exact⟨a,hR,hv⟩) (fun _ _ _ h=>h.elim);simp only[ZE,seval,GZ,paO,paL,zAc]
 | range=>
  rw[hA2]at hA hR;dsimp only at hA hR;obtain⟨g,e3⟩:=zX (((k:Int) !=2));cases g
  all_goals
   simp only[ZE,seval,e1,e2,wai,KE,GZ,paO,paL,zAc];refine⟨by kernel_rfl,?_⟩;refine EFn.gV [(7777777,7777777)] hA ?_ ?_
   ·simp only[ZE,seval,GZ,paO,paL,zAc]
   rintro V ol new ⟨rfl,rfl,rfl⟩;simp only[ZE,seval,e3,tUE,hw,GZ,paO,paL,zAc];refine EFn.gX [(1,1),(7777777,7777777)] hf ?_ (fun v hv=>by exact⟨a,hR,hv⟩) (fun _ _ _ h=>h.elim);simp only[ZE,seval,GZ,paO,paL,zAc]
 | _=>
  rw[hA2]at hA hR;dsimp only at hA hR;obtain⟨g,e3⟩:=zX (((k:Int) !=2));cases g
  all_goals
   simp only[ZE,seval,e1,e2,wai,KE,GZ,paO,paL,zAc];refine⟨by kernel_rfl,?_⟩;refine EFn.gV [(7777777,7777777)] hA ?_ ?_
   ·simp only[ZE,seval,GZ,paO,paL,zAc]
   rintro V ol new ⟨rfl,rfl,rfl⟩;simp only[ZE,seval,e3,tUE,hw,GZ,paO,paL,zAc];refine EFn.gX [(1,1),(7777777,7777777)] hf ?_ (fun v hv=>by exact⟨a,hR,hv⟩) (fun _ _ _ h=>h.elim);simp only[ZE,seval,GZ,paO,paL,zAc]
theorem numberP_bd{T:List Tok}{least n:Int}{a b:Nat}(h:zAZ T least a= .ok (n,b)):least<=n/\n<=9223372036854775807:=by
 unfold zAZ at h;split at h
 ·rename_i m hm;split at h
  ·rename_i hk;simp only[Except.ok.injEq,Prod.mk.injEq]at h;obtain⟨rfl,_⟩:=h;exact⟨hk.2,(Go.Lib.atoiAll_bounds hm).2⟩
  ·cases h
 ·cases h
theorem zIs(Z:GP)(hZ:Z.Ok)(T:List Tok)(hT:TOk T)(a:Nat)(ha:a<T.length):
  PCon Z T 221 [.bp 1 0] a (zDM T a) (fun x=>.d (.agg (zgL x))):=by
 refine zBL.srt (zBL.of_eH 1999 [] (own:=[]) (fun i=>if i=2001 then [.ord ⟨[(0,none),(1,none),(2,none),(3,none),(4,none),(5,none),(6,none),(7,none),(8,none),(9,none),(10,none),(11,none)]⟩]else chL i) [0] zat Tryz.func221 rfl Tryz.call221 Tryz.ntmps221 (zle rfl) Tryz.results221 (zDb Z T a _ (by simp[AV.noRefs,AV.noRef])) (fun gs=> ?_));have e1:=zai ha;have e2:=zDl ha;have hn:=zGL Z T hT 0 a ha;have hm:=zDj Z hZ T hT a ha;have hR:zDM T a=if (tk T a).1 =2 then(zAZ T 0 a).bd fun n b=>.ok (⟨n,e0⟩,b)else(zBE T a).bd fun s b=>
  if isT T b 3 (⟨#[43]⟩:ByteArray)=true then(zAZ T 1 (b+1)).bd fun n c=>.ok (⟨n,s⟩,c)
  else if isT T b 3 (⟨#[45]⟩:ByteArray)=true then(zAZ T 1 (b+1)).bd fun n c=>.ok (⟨-n,s⟩,c)
  else .ok (⟨0,s⟩,b):=rfl
 by_cases hk:(tk T a).1 =2
 ·rw[if_pos hk]at hR;have e3:(((tk T a).1 :Int)==2)=true:=by rw[hk]; rfl
  simp only[ZE,seval,e1,e2,e3,wai,KE,GZ,paO,paL,zAc];refine⟨by kernel_rfl,?_⟩;simp only[ZE,seval,KE]at hn;refine EFn.gX [(1,1),(7777777,7777777)] (hn) ?_ (fun v hv=>by obtain⟨i,hi,hv⟩:=hv; exact⟨i,by rw[hR,hi]; rfl,hv⟩) ?_
  ·simp only[ZE,seval,GZ,paO,paL,zAc]
  rintro V ol new ⟨n,b,h1,hb,rfl,rfl,rfl⟩;rw[h1,PR.bd_ok]at hR;simp only[ZE,seval,zAt.eq_def,zAF.eq_def,GZ,paO,paL,zAc];refine⟨[2,1999],[],?_⟩;simp only[ZE,seval,zAp.eq_1,zAp.eq_2,zAq.eq_1,zAq.eq_2,GZ,zAt.eq_def,zAj.eq_def,ghK.eq_def,zAF.eq_def,zAi.eq_def,zHK,zht,AV.core,GZ,paO,paL,zAc];exact⟨⟨n,e0⟩,b,hR,hb,rfl,rfl⟩
 ·rw[if_neg hk]at hR;have e3:(((tk T a).1 :Int)==2)=false:=by simp; omega
  simp only[ZE,seval,e1,e2,e3,wai,KE,GZ,paO,paL,zAc];refine⟨by kernel_rfl,?_⟩;refine EFn.gX [(1,1),(7777777,7777777)] (hm) ?_ (fun v hv=>by obtain⟨i,hi,hv⟩:=hv; exact⟨i,by rw[hR,hi]; rfl,hv⟩) ?_
  ·simp only[ZE,seval,GZ,paO,paL,zAc]
  rintro V ol new ⟨s,b,h1,hb,rfl,rfl,rfl⟩;rw[h1,PR.bd_ok]at hR;have hp:=zBq Z T hT b (⟨#[43]⟩:ByteArray) hb;have hl:=zBj hT hb (s:=(⟨#[43]⟩:ByteArray)) (k:=3) (by decide);obtain⟨g,hg⟩:=zX (isT T b 3 (⟨#[43]⟩:ByteArray));rw[hg]at hp hl hR;cases g with
  | true=>
   rw[if_pos rfl]at hR hp;have hn2:=zGL Z T hT 1 (b+1) (hl rfl);simp only[ZE,seval,KE]at hp;simp only[ZE,seval,KE]at hn2;simp only[ZE,seval,KE,GZ,paO,paL,zAc];refine EFn.gV [(1,1),(7777777,7777777)] (hp) ?_ ?_
   ·simp only[ZE,seval,GZ,paO,paL,zAc]
   rintro V ol new ⟨rfl,rfl,rfl⟩;simp only[ZE,seval,GZ,paO,paL,zAc];refine EFn.gX [(1,1),(7777777,7777777)] (hn2) ?_ (fun v hv=>by obtain⟨i,hi,hv⟩:=hv; exact⟨i,by rw[hR,hi]; rfl,hv⟩) ?_
   ·simp only[ZE,seval,GZ,paO,paL,zAc]
   rintro V ol new ⟨n,c,h2,hc,rfl,rfl,rfl⟩;rw[h2,PR.bd_ok]at hR;simp only[ZE,seval,zAt.eq_def,zAF.eq_def,KE,GZ,paO,paL,zAc];refine⟨[2,3,1999],[],?_⟩;simp only[ZE,seval,zAp.eq_1,zAp.eq_2,zAq.eq_1,zAq.eq_2,GZ,zAt.eq_def,zAj.eq_def,ghK.eq_def,zAF.eq_def,zAi.eq_def,zHK,zht,AV.core,GZ,paO,paL,zAc];exact⟨⟨n,s⟩,c,hR,hc,rfl,rfl⟩
  | false=>
   rw[if_neg (by decide)]at hR hp;have hp2:=zBq Z T hT b (⟨#[45]⟩:ByteArray) hb;have hl2:=zBj hT hb (s:=(⟨#[45]⟩:ByteArray)) (k:=3) (by decide);obtain⟨g,hg2⟩:=zX (isT T b 3 (⟨#[45]⟩:ByteArray));rw[hg2]at hp2 hl2 hR;cases g with
   | true=>
    rw[if_pos rfl]at hR hp2;have hn2:=zGL Z T hT 1 (b+1) (hl2 rfl);simp only[ZE,seval,KE]at hp;simp only[ZE,seval,KE]at hp2;simp only[ZE,seval,KE]at hn2;simp only[ZE,seval,KE,GZ,paO,paL,zAc];refine EFn.gV [(1,1),(7777777,7777777)] (hp) ?_ ?_
    ·simp only[ZE,seval,GZ,paO,paL,zAc]
    rintro V ol new ⟨rfl,rfl,rfl⟩;simp only[ZE,seval,GZ,paO,paL,zAc];refine EFn.gV [(1,1),(7777777,7777777)] (hp2) ?_ ?_
    ·simp only[ZE,seval,GZ,paO,paL,zAc]
    rintro V ol new ⟨rfl,rfl,rfl⟩;simp only[ZE,seval,GZ,paO,paL,zAc];refine EFn.gX [(1,1),(7777777,7777777)] (hn2) ?_ (fun v hv=>by obtain⟨i,hi,hv⟩:=hv; exact⟨i,by rw[hR,hi]; rfl,hv⟩) ?_
    ·simp only[ZE,seval,GZ,paO,paL,zAc]
    rintro V ol new ⟨n,c,h2,hc,rfl,rfl,rfl⟩;rw[h2,PR.bd_ok]at hR;have hw:IntKind.i64.wrap (0-n)= -n:=(by have:=numberP_bd h2; rw[Int.zero_sub]; exact zaQ (by omega) (by omega));simp only[ZE,seval,hw,zAt.eq_def,zAF.eq_def,KE,GZ,paO,paL,zAc];refine⟨[2,3,1999],[],?_⟩;simp only[ZE,seval,zAp.eq_1,zAp.eq_2,zAq.eq_1,zAq.eq_2,GZ,zAt.eq_def,zAj.eq_def,ghK.eq_def,zAF.eq_def,zAi.eq_def,zHK,zht,AV.core,GZ,paO,paL,zAc];exact⟨⟨-n,s⟩,c,hR,hc,rfl,rfl⟩
   | false=>
    rw[if_neg (by decide)]at hR hp2;simp only[ZE,seval,KE]at hp;simp only[ZE,seval,KE]at hp2;simp only[ZE,seval,KE,GZ,paO,paL,zAc];refine EFn.gV [(1,1),(7777777,7777777)] (hp) ?_ ?_
    ·simp only[ZE,seval,GZ,paO,paL,zAc]
    rintro V ol new ⟨rfl,rfl,rfl⟩;simp only[ZE,seval,GZ,paO,paL,zAc];refine EFn.gV [(1,1),(7777777,7777777)] (hp2) ?_ ?_
    ·simp only[ZE,seval,GZ,paO,paL,zAc]
    rintro V ol new ⟨rfl,rfl,rfl⟩;simp only[ZE,seval,zAt.eq_def,zAF.eq_def,KE,GZ,paO,paL,zAc];refine⟨[2,3,1999],[],?_⟩;simp only[ZE,seval,zAp.eq_1,zAp.eq_2,zAq.eq_1,zAq.eq_2,GZ,zAt.eq_def,zAj.eq_def,ghK.eq_def,zAF.eq_def,zAi.eq_def,zHK,zht,AV.core,GZ,paO,paL,zAc];exact⟨⟨0,s⟩,b,hR,hb,rfl,rfl⟩
def isW(b:UInt8):Bool:=decide (zCs b.toNat=1)||decide (zCs b.toNat=2)
def zG3(l:List UInt8):Nat:=zAC ⟨l.toArray⟩
def zEX(l:List UInt8)(x y:UInt8):Bool:=match l with | a::b::_=>decide (a=x)&&decide (b=y) | _=>false
def zCY(l:List UInt8):Option (Nat×Option Nat):=
 match l with
 | []=>none
 | c::_=>
  if zCs c.toNat=3 then some (1,none)
  else if zEX l 47 47=true then some ((l.takeWhile fun b=>decide (b≠10)).length,none)
  else if zG3 (l.takeWhile isW)≠0 then some ((l.takeWhile isW).length,some (zG3 (l.takeWhile isW)))
  else if zEX l 45 62=true\/zEX l 61 61=true then some (2,some 3)
  else if zCs c.toNat=4 then some (1,some 3)else none
def lxL:Nat->List UInt8->Nat->List Tok->Except Nat (List Tok)
 | 0,_,a,T=>.ok (T++[(4,e0,a)])
 | n+1,l,a,T=>if l=[]then .ok (T++[(4,e0,a)])else match zCY l with
  | none=>.error a
  | some (k,none)=>lxL n (l.drop k) (a+k) T
  | some (k,some q)=>lxL n (l.drop k) (a+k) (T++[(q,⟨(l.take k).toArray⟩,a)])
theorem zC8{l:List UInt8}{k:Nat}{q:Option Nat}(h:zCY l=some (k,q)):0<k/\k<=l.length:=by
 unfold zCY at h;split at h
 ·cases h
 ·rename_i c r;split at h
  ·cases h; simp
  split at h
  ·rename_i h2;cases h;refine⟨?_,(List.takeWhile_sublist _).length_le⟩;cases r with
   | nil=>simp[zEX]at h2
   | cons d r=>
    simp only[zEX,wal,decide_eq_true_eq]at h2;rw[h2.1];simp[List.takeWhile_cons]
  split at h
  ·rename_i h3;cases h;refine⟨?_,(List.takeWhile_sublist _).length_le⟩;rcases Nat.eq_zero_or_pos ((c::r).takeWhile isW).length with h0 | h0
   ·rw[List.length_eq_zero_iff.1 h0]at h3;exact absurd rfl h3
   ·exact h0
  split at h
  ·rename_i h4;cases h;cases r with
   | nil=>simp[zEX]at h4
   | cons d r=>simp
  split at h
  ·cases h; simp
  ·cases h
theorem wordKindF_le(b:Bts):zAC b<=2:=by
 unfold zAC;split
 ·omega
 split
 ·omega
 split
 ·split <;> omega
 ·omega
theorem kindL_le(l:List UInt8):zG3 l<=2:=wordKindF_le _
theorem zF4{l:List UInt8}{k q:Nat}(h:zCY l=some (k,some q)):q=1\/q=2\/q=3:=by
 unfold zCY at h;split at h
 ·cases h
 ·rename_i c r;have h5:=kindL_le ((c::r).takeWhile isW);split at h
  ·cases h
  split at h
  ·cases h
  split at h
  ·simp only[Option.some.injEq,Prod.mk.injEq]at h;obtain⟨_,rfl⟩:=h;omega
  split at h
  ·cases h; simp
  split at h
  ·cases h; simp
  ·cases h
theorem zDq(s:Bts)(a b:Nat)(hb:b<=s.size)(hab:a<=b):s.extract a b=⟨((s.data.toList.drop a).take (b-a)).toArray⟩:=by
 apply ByteArray.ext;rw[ByteArray.data_extract];apply Array.toList_inj.1;rw[Array.toList_extract,List.extract_eq_take_drop]
theorem getD_head(s:Bts)(a:Nat)(h:a<s.size):s.data.toList.drop a=s.data.getD a 0::s.data.toList.drop (a+1):=by
 have hz:s.data.size=s.size:=rfl;have h2:a<s.data.toList.length:=by rw[Array.length_toList,hz]; exact h
 rw[List.drop_eq_getElem_cons h2];simp[Array.getD,hz,h]
theorem zHe(s:Bts)(a:Nat)(ha:a<=s.size)(x y:UInt8):zFW (s.extract a s.size) ⟨#[x,y]⟩=zEX (s.data.toList.drop a) x y:=by
 have hz:(⟨#[x,y]⟩:Bts).size =2:=rfl;have hl:(s.data.toList.drop a).length =s.size-a:=by rw[List.length_drop,Array.length_toList]; rfl
 unfold zFW;rw[hz,zDq s a s.size (wak _) ha,zDQ];rw[wad (by omega)];generalize s.data.toList.drop a=l at hl ⊢;have hs:(⟨l.toArray⟩:Bts).size =l.length:=by show l.toArray.size=_; simp
 rw[hs];rcases l with _ | ⟨b,_ | ⟨c,r⟩⟩
 ·rfl
 ·rfl
 ·have e:(⟨(b::c::r).toArray⟩:Bts).extract 0 2=⟨#[b,c]⟩:=by
   rw[zDq _ 0 2 (by rw[hs]; simp) (by omega)];rfl
  rw[e];simp only[zEX,waa];rw[decide_eq_true (by omega),Bool.true_and,Bool.eq_iff_iff];simp
theorem isF0(s:Bts)(a c:Nat)(ha:a<s.size):isF s a 0 [c]=decide (zCs (s.data.getD a 0).toNat =c):=by
 unfold isF;simp[ha]
theorem indexByte_tw(l:List UInt8):(Go.Lib.indexByte l 10<0->(l.takeWhile fun b=>decide (b≠10)).length =l.length)/\(¬Go.Lib.indexByte l 10<0->(l.takeWhile fun b=>decide (b≠10)).length =(Go.Lib.indexByte l 10).toNat):=by
 induction l with
 | nil=>simp[Go.Lib.indexByte]
 | cons b l ih=>
  have hge:=Go.Lib.indexByte_ge l 10;unfold Go.Lib.indexByte;by_cases hb:b=10
  ·subst hb; simp
  ·have h1:(b==10)=false:=by simpa using hb
   by_cases h2:Go.Lib.indexByte l 10= -1
   ·have:=ih.1 (by omega);simp_all
   ·have:=ih.2 (by omega);have h3:(Go.Lib.indexByte l 10== -1)=false:=(by simpa using h2);simp_all;omega
theorem lexStep_list(s:Bts)(a:Nat)(T:List Tok)(ha:a<s.size):
  zCP s a T=match zCY (s.data.toList.drop a)with
   | none=>none
   | some (k,none)=>some (a+k,T)
   | some (k,some q)=>some (a+k,T++[(q,⟨((s.data.toList.drop a).take k).toArray⟩,a)]):=by
 have hl:(s.data.toList.drop a).length =s.size-a:=by rw[List.length_drop,Array.length_toList]; rfl
 have hc:=getD_head s a ha;have e1:isF s a 0 [3]=decide (zCs (s.data.getD a 0).toNat =3):=isF0 s a 3 ha;have e4:isF s a 0 [4]=decide (zCs (s.data.getD a 0).toNat =4):=isF0 s a 4 ha;have p1:=zHe s a (by omega) 47 47;have p2:=zHe s a (by omega) 45 62;have p3:=zHe s a (by omega) 61 61;have hw:zA4 s a=((s.data.toList.drop a).takeWhile isW).length :=rfl;have hwl:=zF5 s a (by omega);have hk:zb0 s a=zG3 ((s.data.toList.drop a).takeWhile isW):=by
  unfold zb0 zG3;rw[zDq s a _ hwl (by omega),Nat.add_sub_cancel_left,hw];rw[<-List.prefix_iff_eq_take.1 (List.takeWhile_prefix isW (l:=s.data.toList.drop a))]
 obtain⟨i1,i2⟩:=indexByte_tw (s.data.toList.drop a);have hx:(s.extract a s.size).data.toList =s.data.toList.drop a:=by
  rw[zDq s a s.size (wak _) (by omega),wad (by omega)]
 have hext: ∀k,a+k<=s.size->s.extract a (a+k)=⟨((s.data.toList.drop a).take k).toArray⟩:=fun k h=>by
  rw[zDq s a _ h (by omega),Nat.add_sub_cancel_left]
 have hsl:=sign_le (s:=s) (a:=a) (by omega);unfold zCP zD3;rw[hk,hw,hx,e1,p1];have hS:zB8 s a=if zEX (s.data.toList.drop a) 45 62=true\/zEX (s.data.toList.drop a) 61 61=true then 2 else if zCs (s.data.getD a 0).toNat =4 then 1 else 0:=by
  unfold zB8;rw[p2,p3,e4];simp
 rw[hS]at hsl ⊢;rw[hw]at hwl;generalize hL:s.data.toList.drop a=L at hl hc i1 i2 hext hsl hwl ⊢;subst hc;unfold zCY;by_cases c1:zCs (s.data.getD a 0).toNat =3
 ·simp only[c1,decide_true,if_true]
 ·simp only[c1,decide_false,Bool.false_eq_true,if_false];by_cases c2:zEX (s.data.getD a 0::s.data.toList.drop (a+1)) 47 47=true
  ·simp only[c2,if_true];by_cases c3:Go.Lib.indexByte (s.data.getD a 0::s.data.toList.drop (a+1)) 10<0
   ·rw[if_pos c3,i1 c3,hl];simp; omega
   ·rw[if_neg c3,i2 c3]
  ·simp only[c2,Bool.false_eq_true,if_false];by_cases c4:zG3 ((s.data.getD a 0::s.data.toList.drop (a+1)).takeWhile isW)=0
   ·simp only[c4,ne_eq,not_true,if_false];by_cases c5:zEX (s.data.getD a 0::s.data.toList.drop (a+1)) 45 62=true\/zEX (s.data.getD a 0::s.data.toList.drop (a+1)) 61 61=true
    ·simp only[c5,if_true]at hsl ⊢;rw[hext 2 hsl]; simp
    ·simp only[c5,if_false]at hsl ⊢;by_cases c6:zCs (s.data.getD a 0).toNat =4
     ·simp only[c6,if_true]at hsl ⊢;rw[hext 1 hsl]; simp
     ·simp only[c6,if_false]; simp
   ·simp only[c4,ne_eq,not_false_eq_true,if_true];rw[hext _ hwl]
theorem zCO(s:Bts): ∀(n a:Nat) (T:List Tok),a<=s.size->lexL s n a T=lxL n (s.data.toList.drop a) a T
 | 0,_,_,_=>rfl
 | n+1,a,T,ha=>by
  unfold lexL lxL;by_cases h:a<s.size
  ·have hne:s.data.toList.drop a≠[]:=by rw[getD_head s a h]; simp
   rw[if_pos h,if_neg hne];have hst:=lexStep_list s a T h;cases hs:zCY (s.data.toList.drop a)with
   | none=>rw[hs]at hst; rw[hst]
   | some x=>
    obtain⟨k,q⟩:=x;rw[hs]at hst;cases q with
    | none=>
     simp only at hst;have hgt:=zFO h hst;rw[hst];simp only[];rw[zCO s n (a+k) T hgt.2.1,List.drop_drop]
    | some q=>
     simp only at hst;have hgt:=zFO h hst;rw[hst];simp only[];rw[zCO s n (a+k) _ hgt.2.1,List.drop_drop]
  ·rw[if_neg h,List.drop_of_length_le (by rw[Array.length_toList]; show s.size<=_; omega),if_pos rfl];rfl
abbrev Pc:=Nat×Bts
def pcB:List Pc->Bts
 | []=>e0
 | p::r=>p.2++pcB r
def pcT(a:Nat):List Pc->List Tok
 | []=>[(4,e0,a)]
 | p::r=>if p.1=0 then pcT (a+p.2.size) r else(p.1,p.2,a)::pcT (a+p.2.size) r
def pcH(h:Option UInt8):List Pc->Option UInt8
 | []=>h
 | p::r=>match p.2.data.toList with | b::_=>some b | []=>pcH h r
def zAO:Option UInt8->Bool
 | none=>true
 | some b=> !isW b
def zDH(b:UInt8):Option UInt8->Bool
 | none=>false
 | some c=>decide (c=b)
def zDd(p:Pc)(h:Option UInt8):Bool:=
 match p.1 with
 | 0=>(match p.2.data.toList with
  | [b]=>decide (zCs b.toNat=3)
  | 47::47::r=>r.all (fun b=>decide (b≠10))&&(h.isNone||zDH 10 h)
  | _=>false)
 | 3=>(match p.2.data.toList with
  | [b]=>decide (zCs b.toNat=4)&& !(decide (b=45)&&zDH 62 h)&& !(decide (b=61)&&zDH 61 h)
  | [b,c]=>(decide (b=45)&&decide (c=62))||(decide (b=61)&&decide (c=61))
  | _=>false)
 | k=>decide (k<=2)&&decide (zAC p.2=k)&&p.2.data.toList.all isW&&zAO h
def zBb(h:Option UInt8):List Pc->Bool
 | []=>true
 | p::r=>zDd p (pcH h r)&&zBb h r
theorem zAx(l m:List Pc):pcB (l++m)=pcB l++pcB m:=by
 induction l with
 | nil=>simp only[waf,pcB]; apply ByteArray.ext; simp[ByteArray.data_append,e0]
 | cons p r ih=>simp only[wag,pcB,ih]; apply ByteArray.ext; simp[ByteArray.data_append]
theorem zHQ(h:Option UInt8)(l m:List Pc):pcH h (l++m)=pcH (pcH h m) l:=by
 induction l with
 | nil=>rfl
 | cons p r ih=>simp only[wag,pcH,ih]
theorem zBR(h:Option UInt8)(l m:List Pc):zBb h (l++m)=(zBb (pcH h m) l&&zBb h m):=by
 induction l with
 | nil=>simp[zBb]
 | cons p r ih=>simp only[wag,zBb,zHQ,ih,Bool.and_assoc]
theorem pcH_head(l:List Pc)(r:List UInt8):pcH r.head? l=((pcB l).data.toList ++r).head? :=by
 induction l with
 | nil=>simp[pcH,pcB,e0]
 | cons p q ih=>
  simp only[pcH,pcB,ByteArray.data_append,Array.toList_append];cases p.2.data.toList with
  | nil=>simpa using ih
  | cons b t=>simp
theorem cls47:zCs (47:UInt8).toNat =0:=by decide
theorem zCA{α:Type}(q:α->Bool): ∀(l r:List α),l.all q=true->(∀x,r.head?=some x->q x=false)->(l++r).takeWhile q=l
 | [],r,_,h=>by
  cases r with
  | nil=>rfl
  | cons x r=>simp[List.takeWhile_cons,h x rfl]
 | x::l,r,ha,h=>by
  simp only[List.all_cons,wal]at ha;simp[List.takeWhile_cons,ha.1,zCA q l r ha.2 h]
theorem zFd:zG3 []=0:=rfl
theorem isW_cls{b:UInt8}(h:isW b=true):zCs b.toNat≠3/\zCs b.toNat≠4/\b≠47:=by
 unfold isW at h;simp only[Bool.or_eq_true,decide_eq_true_eq]at h;refine⟨by omega,by omega,?_⟩;rintro rfl;rw[cls47]at h;omega
theorem step_pc{p:Pc}{r:List UInt8}(h:zDd p r.head?=true)(hp:p.1<=3):p.2.data.toList≠[]/\zCY (p.2.data.toList++r)=some (p.2.size,if p.1=0 then none else some p.1):=by
 obtain⟨k,t⟩:=p;have hz:t.size=t.data.toList.length:=by rw[Array.length_toList]; rfl
 simp only at hp;rw[hz];unfold zDd at h;simp only at h;rcases(show k=0\/k=3\/(k=1\/k=2) by omega)with rfl | rfl | hk
 ·simp only at h;generalize t.data.toList=L at h ⊢;split at h
  ·rename_i b;simp only[decide_eq_true_eq]at h;refine⟨by simp,?_⟩;simp only[wag,waf,zCY,h,if_true,waa,wac]
  ·rename_i q;simp only[wal,Bool.or_eq_true]at h;refine⟨by simp,?_⟩;have e:((47::47::q)++r).takeWhile (fun b=>decide (b≠10))=47::47::q:=by
    refine zCA _ _ _ (by simp only[List.all_cons,h.1]; decide) (fun x hx=> ?_);rw[hx]at h;simpa [zDH]using h.2
   have e2:zEX ((47::47::q)++r) 47 47=true:=by simp[zEX]
   have e3: ¬zCs (47:UInt8).toNat =3:=by rw[cls47]; decide
   rw[wag,wag]at e e2 ⊢;unfold zCY;simp only[e3,if_false,e2,if_true,e,waa]
  ·cases h
 ·simp only at h;generalize t.data.toList=L at h ⊢;split at h
  ·rename_i b;simp only[wal,decide_eq_true_eq,Bool.not_eq_true',Bool.and_eq_false_iff,decide_eq_false_iff_not]at h;obtain⟨⟨h1,h2⟩,h3⟩:=h;refine⟨by simp,?_⟩;have a1:isW b=false:=by unfold isW; simp[h1]
   have a2:b≠47:=by rintro rfl; rw[cls47]at h1; omega
   have a3:zEX (b::r) 47 47=false:=by cases r <;> simp[zEX,a2]
   have a4:zEX (b::r) 45 62=false:=by
    cases r with
    | nil=>rfl
    | cons c r=>simp only[List.head?_cons,zDH,decide_eq_false_iff_not]at h2; simp only[zEX]; rcases h2 with h2 | h2 <;> simp[h2]
   have a5:zEX (b::r) 61 61=false:=by
    cases r with
    | nil=>rfl
    | cons c r=>simp only[List.head?_cons,zDH,decide_eq_false_iff_not]at h3; simp only[zEX]; rcases h3 with h3 | h3 <;> simp[h3]
   have a6:(b::r).takeWhile isW=[]:=by simp[List.takeWhile_cons,a1]
   simp only[wag,waf,zCY,h1,a3,a4,a5,a6,zFd];simp
  ·rename_i b c;refine⟨by simp,?_⟩;have hbc:(b=45/\c=62)\/(b=61/\c=61):=by simpa using h
   have key: ∀b c:UInt8,(b=45/\c=62)\/(b=61/\c=61)->zCY (b::c::r)=some (2,some 3):=by
    rintro b c (⟨rfl,rfl⟩ | ⟨rfl,rfl⟩)
    ·have a1:isW 45=false:=(by decide);have a2:(45::62::r:List UInt8).takeWhile isW=[]:=(by simp[List.takeWhile_cons,a1]);have a3: ¬zCs (45:UInt8).toNat =3:=(by decide);unfold zCY;simp only[a3,a2,zFd];simp[zEX]
    ·have a1:isW 61=false:=(by decide);have a2:(61::61::r:List UInt8).takeWhile isW=[]:=(by simp[List.takeWhile_cons,a1]);have a3: ¬zCs (61:UInt8).toNat =3:=(by decide);unfold zCY;simp only[a3,a2,zFd];simp[zEX]
   simpa using key b c hbc
  ·cases h
 ·have h2:(zAC t=k/\t.data.toList.all isW=true)/\zAO r.head?=true:=by
   rcases hk with rfl | rfl <;> simpa [wal]using h
  obtain⟨⟨h3,h4⟩,h5⟩:=h2;have hkl:zG3 t.data.toList=k:=by unfold zG3; rw[<-h3]
  have hne:t.data.toList≠[]:=by
   intro e;rw[e,zFd]at hkl;omega
  have htw:=zCA isW t.data.toList r h4 (fun x hx=>by rw[hx]at h5; simpa [zAO]using h5);refine⟨hne,?_⟩;rw[if_neg (by omega)];generalize t.data.toList=L at h4 hkl hne htw ⊢;cases L with
  | nil=>exact absurd rfl hne
  | cons b L=>
   simp only[List.all_cons,wal]at h4;obtain⟨c1,c2,c3⟩:=isW_cls h4.1;have c4:zEX (b::(L++r)) 47 47=false:=by
    cases hL:L++r with
    | nil=>rfl
    | cons c q=>simp[zEX,c3]
   rw[wag]at htw ⊢;unfold zCY;simp only[c1,c4,htw,hkl];have hk0:k≠0:=by omega
   simp[hk0]
theorem pcOk_le{p:Pc}{h:Option UInt8}(hp:zDd p h=true):p.1<=3:=by
 unfold zDd at hp;split at hp
 ·omega
 ·omega
 ·simp only[wal,decide_eq_true_eq]at hp;omega
theorem lx_pcs: ∀(l:List Pc) (n a:Nat) (T:List Tok),zBb none l=true->l.length<=n->lxL n (pcB l).data.toList a T= .ok (T++pcT a l)
 | [],n,a,T,_,_=>by cases n <;> rfl
 | p::r,0,_,_,_,hn=>by simp at hn
 | p::r,n+1,a,T,h,hn=>by
  simp only[zBb,wal]at h;obtain⟨h1,h2⟩:=h;have hh:pcH none r=(pcB r).data.toList.head? :=by
   have:=pcH_head r [];simpa using this
  rw[hh]at h1;obtain⟨hne,hst⟩:=step_pc h1 (pcOk_le h1);have hz:p.2.size=p.2.data.toList.length:=by rw[Array.length_toList]; rfl
  have ih:=fun T a=>lx_pcs r n a T h2 (by simpa using hn);unfold lxL;simp only[pcB,ByteArray.data_append,Array.toList_append];rw[if_neg (by simp only[List.append_eq_nil_iff,not_and]; intro e; exact absurd e hne),hst];have hd:((p.2.data.toList++(pcB r).data.toList).drop p.2.size)=(pcB r).data.toList :=by rw[hz,List.drop_left]
  have ht:((p.2.data.toList++(pcB r).data.toList).take p.2.size)=p.2.data.toList:=by rw[hz,List.take_left]
  by_cases hk:p.1=0
  ·simp only[hk,if_true,hd,ih,pcT]
  ·simp only[hk,if_false,hd,ht,ih,pcT];simp
theorem pcs_len: ∀(l:List Pc) (h:Option UInt8),zBb h l=true->l.length<=(pcB l).size
 | [],_,_=>Nat.zero_le _
 | p::r,h,hp=>by
  simp only[zBb,wal]at hp;have h1:=pcs_len r h hp.2;have h2:0<p.2.size:=by
   have hz:p.2.size=p.2.data.toList.length:=by rw[Array.length_toList]; rfl
   rw[hz];have:=hp.1;unfold zDd at this;cases hL:p.2.data.toList with
   | cons=>simp
   | nil=>
    rw[hL]at this;split at this
    ·cases this
    ·cases this
    ·simp only[wal,decide_eq_true_eq]at this;have e:p.2=e0:=by
      apply ByteArray.ext; apply Array.toList_inj.1; rw[hL]; rfl
     rw[e]at this;have e0k:zAC e0=0:=rfl;rw[e0k]at this;rename_i hk _;exact absurd this.1.1.2.symm hk
  simp only[pcB,ByteArray.size_append,waa];omega
theorem zIX(l:List Pc)(h:zBb none l=true):zEW (pcB l)= .ok (pcT 0 l):=by
 unfold zEW;rw[zCO _ _ _ _ (Nat.zero_le _),List.drop_zero,lx_pcs l _ 0 [] h (pcs_len l none h)];rfl
set_option maxRecDepth 1000000
theorem rowAt_le(p:Program)(fits:TypeId->Bool)(d:Nat)(e:TypeId){c c':Nat}(off n:Nat)(hc:c<=c')(h:rowAt p fits d e c off n=true):rowAt p fits d e c' off n=true:=by
 cases d with
 | zero=>exact h
 | succ d=>
  unfold rowAt at h ⊢;by_cases hs:p.cellsOf e=0
  ·simp only[hs,if_true]at h;cases h
  ·simp only[hs,if_false,Bool.or_eq_true,wal,decide_eq_true_eq]at h ⊢;rcases h with⟨⟨h1,h2⟩,h3⟩ | ⟨h1,h2⟩
   ·exact .inl ⟨⟨h1,by omega⟩,h3⟩
   ·exact .inr ⟨by omega,h2⟩
theorem liesAt_le(p:Program)(e:TypeId){c c':Nat}(off:Nat)(hc:c<=c'): ∀(d:Nat) (u:TypeId) (n:Nat),liesAt p d e c off u n=true->liesAt p d e c' off u n=true
 | 0,_,_,h=>h
 | d+1,u,n,h=>by
  unfold liesAt at h ⊢;simp only[Bool.or_eq_true]at h ⊢;rcases h with h | h
  ·exact .inl (rowAt_le p _ _ e off n hc h)
  ·right;split at h
   ·exact liesAt_le p e off hc d _ _ h
   ·cases h
theorem copy_w:CopyW Tryz.prog 130 161 3:=by
 intro w b cap cur hb hcap hsz;have hcell: ∀v,cur[0]? =some v->w.cell? ⟨b,0,none⟩=some v:=fun v h=>by simp[World.cell?,hb,h]
 have hsh:w.shape? b=some (161,cap*3):=by simp[World.shape?,hb,hsz]
 have hfz:w.frozen? ⟨b,0,none⟩=false:=by simp[World.frozen?,hb]
 obtain⟨j,hj,hjs⟩:=Option.map_eq_some_iff.1 (show(Tryz.prog.info? 159).map (·.size)=some 2 by kernel_rfl);have hlies:liesAt Tryz.prog Tryz.prog.depth 161 (cap*3 / Tryz.prog.cellsOf 161) 0 159 1=true:=by
  have e1:Tryz.prog.cellsOf 161=3:=by kernel_rfl
  rw[e1,Nat.mul_div_cancel _ (by decide)];exact liesAt_le _ _ 0 hcap _ _ _ (by kernel_rfl:liesAt Tryz.prog Tryz.prog.depth 161 1 0 159 1=true)
 have zat:=zat;refine⟨fun h=> ?_,fun h=> ?_⟩
 ·have h0:=hcell _ h
  go_enter Tryz.func130,Tryz.ntmps130
  go_wp2;rw[Lib.run_to_unsafe w ⟨b,0,none⟩ Tryz.underlying157 Tryz.underlying267 hj (by rw[hjs]; decide) hsh (by show 0<cap*3; omega)];simp only[Result.andThen];rw[Oper.upon_value];go_wp2;rw[run_callFunc_extern Tryz.func185 (by kernel_rfl) (by kernel_rfl) (by kernel_rfl) (e:=Extern.AbiNoEscape.same) (by kernel_rfl)];rw[Lib.run_noEscape];simp only[Result.andThen];rw[Oper.upon_value];go_wp2;rw[Lib.run_from_unsafe w ⟨b,0,none⟩ Tryz.underlying267 Tryz.underlying157 hj hsh hlies];simp only[Result.andThen];rw[Oper.upon_value];go_wp2
  go_end0
  exact⟨rfl,rfl⟩
 ·have h0:=hcell _ h
  go_enter Tryz.func130,Tryz.ntmps130
  go_wp2;rw[Lib.run_neq_ptr_same w _ Tryz.underlying157 hj];go_wp2
  go_end0
  exact⟨rfl,rfl⟩
theorem copy_enters(vs:Array Value)(W:World):(callFunc 130 vs).run Tryz.prog W= .ok (.enter 130 vs) W:=by kernel_rfl
def prO(x:AV)(n:Nat)(ok:AV):AO:=.arr 161 3 (.deep [] [(0,x),(1,.ar 5 n),(2,ok)]) [[.lit undef,.lit undef,.lit undef]]
def txO(tx:List (List D)):AO:=.arr 5 1 .flat tx
theorem copy_cl(x0:AV)(hx0:x0= .d (.lit (.pointer none))\/x0= .ep 0 1 0 0)(tx:List (List D))(ok:AV):
  FnL Tryz.prog 130 [.ep 0 1 0 0] [(0,prO x0 tx.length ok),(5,txO tx)] (fun V ol new=>V= .tup []/\ol=[(0,prO (.ep 0 1 0 0) tx.length ok),(5,txO tx)]/\new=[]):=
 copy_own (fun vs W=>copy_enters vs W) copy_w (by decide) x0 hx0 [(0,x0),(1,.ar 5 tx.length),(2,ok)] [.lit undef,.lit undef,.lit undef] [(5,txO tx)] rfl
set_option maxHeartbeats 1000000
theorem zHd(x0:AV)(hx0:x0= .d (.lit (.pointer none))\/x0= .ep 0 1 0 0)(tx:List (List D))(ok:D)(args:List AV)(ha:AV.noRefs [1999] args):
  (zyk 1999 [(0,prO x0 tx.length (.d ok)),(5,txO tx)]/\AV.noRefs [1999] args)/\zCV (om [(0,prO x0 tx.length (.d ok)),(5,txO tx)]) [.ar 0 1,.ar 5 tx.length]/\AV.noRefs [1999] [.ar 0 1,.ar 5 tx.length]:=by
 rcases hx0 with rfl | rfl <;> simp[prO,txO,zyk,AO.noRef,AV.noRefs,AV.noRef,zCV,om,ha]
end Go.Proofs.YtplfjjgkbnolhaaGreatDoor
