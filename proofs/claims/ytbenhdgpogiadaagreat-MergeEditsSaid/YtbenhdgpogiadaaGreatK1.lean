/- Contracts and laws. Conditions: those of each. -/
import Derived.Test.YtbenhdgpogiadaaGreatGO
import Derived.Test.YtbenhdgpogiadaaGreatProg
import Derived.Test.YtbenhdgpogiadaaGreatGOr
import Derived.DeepKeys4
import Derived.Maps.Keyed
import Derived.Test.YtbenhdgpogiadaaGreatGSo
import Derived.Sort.Walk0
import Derived.Test.YtbenhdgpogiadaaGreatGSp
set_option linter.unusedSimpArgs false
set_option linter.unusedVariables false
open List renaming length_map -> waa, length_append -> wab, length_cons -> wac, map_cons -> wad, map_append -> wae, length_nil -> waf, take_succ_eq_append_getElem -> wag, getElem_mem -> wah, append_assoc -> wai
open ByteArray renaming empty -> waj
open Int renaming toNat_natCast -> wak
open Nat renaming lt_or_ge -> wal
open Bool renaming and_eq_true -> wam, eq_iff_iff -> wan
namespace Go.Proofs.YtbenhdgpogiadaaGreat
open Go.Aw
open Tryz (prog)
theorem zat:Tryz.prog.follows .mixedOrders =true:=by kernel_rfl
theorem tU3:Tryz.prog.underlying 3=some (.int .i64):=by kernel_rfl
theorem TF0:lay prog 1=some (false,1)/\zad prog 1=some [.nilFunc]/\prog.underlying 2=some (.int .i64)/\lay prog 2=some (false,1)/\zad prog 2=some [.int .i64 0]/\prog.underlying 3=some (.int .i64)/\lay prog 3=some (false,1)/\zad prog 3=some [.int .i64 0]/\prog.underlying 4=some .bool /\lay prog 4=some (false,1)/\zad prog 4=some [.bool false]/\prog.underlying 5=some (.int .u8)/\lay prog 5=some (false,1)/\zad prog 5=some [.int .u8 0]/\prog.underlying 6=some (.int .u8)/\lay prog 6=some (false,1)/\zad prog 6=some [.int .u8 0]/\lay prog 7=some (true,4)/\zad prog 7=some [.int .i64 0,.int .i64 0,.bool false,.int .u8 0]/\zah prog 7 0=some (0,false,1)/\zag prog 7 0=some (0,false,1)/\zah prog 7 1=some (1,false,1)/\zag prog 7 1=some (1,false,1)/\zah prog 7 2=some (2,false,1)/\zag prog 7 2=some (2,false,1)/\zah prog 7 3=some (3,false,1)/\zag prog 7 3=some (3,false,1)/\zaB prog 7=true/\zdE prog 7=some [0,0,1,0]/\lay prog 8=some (true,4)/\zad prog 8=some [.int .i64 0,.int .i64 0,.bool false,.int .u8 0]/\zah prog 8 0=some (0,false,1)/\zag prog 8 0=some (0,false,1)/\zah prog 8 1=some (1,false,1)/\zag prog 8 1=some (1,false,1)/\zah prog 8 2=some (2,false,1)/\zag prog 8 2=some (2,false,1)/\zah prog 8 3=some (3,false,1)/\zag prog 8 3=some (3,false,1)/\zaB prog 8=true:=by and_intros <;> kernel_rfl
theorem tU9:Tryz.prog.underlying 9=some .string :=by kernel_rfl
theorem TF1:zdE prog 8=some [0,0,1,0]/\prog.underlying 9=some .string /\lay prog 9=some (false,1)/\zad prog 9=some [.string waj]/\za0 prog 9=none/\prog.underlying 10=some .string /\lay prog 10=some (false,1)/\zad prog 10=some [.string waj]/\za0 prog 10=none/\prog.underlying 12=some (.int .u64)/\lay prog 12=some (false,1)/\zad prog 12=some [.int .u64 0]/\prog.underlying 15=some (.pointer 374)/\lay prog 15=some (false,1)/\zad prog 15=some [.pointer none]/\prog.underlying 17=some (.pointer 386)/\lay prog 17=some (false,1)/\zad prog 17=some [.pointer none]/\prog.underlying 21=some (.int .i32)/\lay prog 21=some (false,1)/\zad prog 21=some [.int .i32 0]/\prog.underlying 22=some (.slice 5)/\lay prog 22=some (false,1)/\zad prog 22=some [.slice none 0 0]/\za0 prog 22=some (5,false,1)/\zdj prog 22=some (5,1,1)/\lay prog 23=some (true,3)/\zad prog 23=some [.int .u8 0,.int .u8 0,.slice none 0 0]/\zah prog 23 0=some (0,false,1)/\zag prog 23 0=some (0,false,1)/\zah prog 23 1=some (1,false,1)/\zag prog 23 1=some (1,false,1)/\zah prog 23 2=some (2,false,1)/\zag prog 23 2=some (2,false,1)/\zaB prog 23=true/\lay prog 24=some (true,3)/\zad prog 24=some [.int .u8 0,.int .u8 0,.slice none 0 0]/\zah prog 24 0=some (0,false,1)/\zag prog 24 0=some (0,false,1)/\zah prog 24 1=some (1,false,1):=by and_intros <;> kernel_rfl
theorem tA28:zdj Tryz.prog 28=some (53,4,80):=by kernel_rfl
theorem TF2:zag prog 24 1=some (1,false,1)/\zah prog 24 2=some (2,false,1)/\zag prog 24 2=some (2,false,1)/\zaB prog 24=true/\prog.underlying 25=some (.slice 73)/\lay prog 25=some (false,1)/\zad prog 25=some [.slice none 0 0]/\za0 prog 25=some (73,true,4)/\zdj prog 25=some (73,4,4)/\prog.underlying 28=some (.slice 53)/\lay prog 28=some (false,1)/\zad prog 28=some [.slice none 0 0]/\za0 prog 28=some (53,true,4)/\zdj prog 28=some (53,4,80)/\lay prog 29=some (true,1)/\zad prog 29=some [.slice none 0 0]/\zah prog 29 0=some (0,false,1)/\zag prog 29 0=some (0,false,1)/\zaB prog 29=true/\lay prog 30=some (true,1)/\zad prog 30=some [.slice none 0 0]/\zah prog 30 0=some (0,false,1)/\zag prog 30 0=some (0,false,1)/\zaB prog 30=true/\prog.underlying 31=some (.slice 69)/\lay prog 31=some (false,1)/\zad prog 31=some [.slice none 0 0]/\za0 prog 31=some (69,true,43)/\zdj prog 31=some (69,43,608)/\lay prog 32=some (false,1)/\zad prog 32=some [.nilFunc]/\lay prog 33=some (false,1)/\zad prog 33=some [.nilFunc]/\lay prog 34=some (false,1)/\zad prog 34=some [.nilFunc]/\lay prog 39=some (false,1)/\zad prog 39=some [.nilFunc]/\prog.underlying 40=some (.int .i64)/\lay prog 40=some (false,1)/\zad prog 40=some [.int .i64 0]:=by and_intros <;> kernel_rfl
theorem tA51:zdj Tryz.prog 51=some (64,35,480):=by kernel_rfl
theorem TF3:prog.underlying 50=some (.slice 9)/\lay prog 50=some (false,1)/\zad prog 50=some [.slice none 0 0]/\za0 prog 50=some (9,false,1)/\zdj prog 50=some (9,1,16)/\prog.underlying 51=some (.slice 64)/\lay prog 51=some (false,1)/\zad prog 51=some [.slice none 0 0]/\za0 prog 51=some (64,true,35)/\zdj prog 51=some (64,35,480)/\lay prog 52=some (true,4)/\zad prog 52=some [.string waj,.string waj,.slice none 0 0,.slice none 0 0]/\zah prog 52 0=some (0,false,1)/\zag prog 52 0=some (0,false,1)/\zah prog 52 1=some (1,false,1)/\zag prog 52 1=some (1,false,1)/\zah prog 52 2=some (2,false,1)/\zag prog 52 2=some (2,false,1)/\zah prog 52 3=some (3,false,1)/\zag prog 52 3=some (3,false,1)/\zaB prog 52=true/\lay prog 53=some (true,4)/\zad prog 53=some [.string waj,.string waj,.slice none 0 0,.slice none 0 0]/\zah prog 53 0=some (0,false,1)/\zag prog 53 0=some (0,false,1)/\zah prog 53 1=some (1,false,1)/\zag prog 53 1=some (1,false,1)/\zah prog 53 2=some (2,false,1)/\zag prog 53 2=some (2,false,1)/\zah prog 53 3=some (3,false,1)/\zag prog 53 3=some (3,false,1)/\zaB prog 53=true/\lay prog 54=some (true,2)/\zad prog 54=some [.int .i64 0,.string waj]/\zah prog 54 0=some (0,false,1)/\zag prog 54 0=some (0,false,1)/\zah prog 54 1=some (1,false,1)/\zag prog 54 1=some (1,false,1)/\zaB prog 54=true/\zdE prog 54=some [0,2]:=by and_intros <;> kernel_rfl
theorem TF4:lay prog 55=some (true,2)/\zad prog 55=some [.int .i64 0,.string waj]/\zah prog 55 0=some (0,false,1)/\zag prog 55 0=some (0,false,1)/\zah prog 55 1=some (1,false,1)/\zag prog 55 1=some (1,false,1)/\zaB prog 55=true/\zdE prog 55=some [0,2]/\prog.underlying 56=some (.slice 58)/\lay prog 56=some (false,1)/\zad prog 56=some [.slice none 0 0]/\za0 prog 56=some (58,true,7)/\zdj prog 56=some (58,7,96)/\lay prog 57=some (true,7)/\zad prog 57=some [.int .i64 0,.string waj,.int .i64 0,.string waj,.int .i64 0,.string waj,.slice none 0 0]/\zah prog 57 0=some (0,false,1)/\zag prog 57 0=some (0,false,1)/\zah prog 57 1=some (1,false,1)/\zag prog 57 1=some (1,false,1)/\zah prog 57 2=some (2,true,2)/\zag prog 57 2=some (2,true,2)/\zah prog 57 3=some (4,true,2)/\zag prog 57 3=some (4,true,2)/\zah prog 57 4=some (6,false,1)/\zag prog 57 4=some (6,false,1)/\zaB prog 57=true/\lay prog 58=some (true,7)/\zad prog 58=some [.int .i64 0,.string waj,.int .i64 0,.string waj,.int .i64 0,.string waj,.slice none 0 0]/\zah prog 58 0=some (0,false,1)/\zag prog 58 0=some (0,false,1)/\zah prog 58 1=some (1,false,1)/\zag prog 58 1=some (1,false,1)/\zah prog 58 2=some (2,true,2)/\zag prog 58 2=some (2,true,2)/\zah prog 58 3=some (4,true,2)/\zag prog 58 3=some (4,true,2)/\zah prog 58 4=some (6,false,1)/\zag prog 58 4=some (6,false,1)/\zaB prog 58=true/\lay prog 59=some (true,3):=by and_intros <;> kernel_rfl
theorem TF5:zad prog 59=some [.int .i64 0,.string waj,.int .i64 0]/\zah prog 59 0=some (0,false,1)/\zag prog 59 0=some (0,false,1)/\zah prog 59 1=some (1,false,1)/\zag prog 59 1=some (1,false,1)/\zah prog 59 2=some (2,false,1)/\zag prog 59 2=some (2,false,1)/\zaB prog 59=true/\zdE prog 59=some [0,2,0]/\lay prog 60=some (true,3)/\zad prog 60=some [.int .i64 0,.string waj,.int .i64 0]/\zah prog 60 0=some (0,false,1)/\zag prog 60 0=some (0,false,1)/\zah prog 60 1=some (1,false,1)/\zag prog 60 1=some (1,false,1)/\zah prog 60 2=some (2,false,1)/\zag prog 60 2=some (2,false,1)/\zaB prog 60=true/\zdE prog 60=some [0,2,0]/\prog.underlying 61=some (.slice 55)/\lay prog 61=some (false,1)/\zad prog 61=some [.slice none 0 0]/\za0 prog 61=some (55,true,2)/\zdj prog 61=some (55,2,24)/\prog.underlying 62=some (.slice 146)/\lay prog 62=some (false,1)/\zad prog 62=some [.slice none 0 0]/\za0 prog 62=some (146,true,2)/\zdj prog 62=some (146,2,32)/\lay prog 63=some (true,35)/\zad prog 63=some [.int .i64 0,.string waj,.int .i64 0,.string waj,.int .i64 0,.string waj,.int .i64 0,.string waj,.int .i64 0,.string waj,.int .i64 0,.string waj,.int .i64 0,.string waj,.slice none 0 0,.int .i64 0,.string waj,.int .i64 0,.string waj,.int .i64 0,.string waj,.slice none 0 0,.int .i64 0,.string waj,.int .i64 0,.string waj,.int .i64 0,.string waj,.slice none 0 0,.int .i64 0,.string waj,.int .i64 0,.string waj,.slice none 0 0,.slice none 0 0]/\zah prog 63 0=some (0,false,1)/\zag prog 63 0=some (0,false,1)/\zah prog 63 1=some (1,false,1)/\zag prog 63 1=some (1,false,1)/\zah prog 63 2=some (2,true,2)/\zag prog 63 2=some (2,true,2)/\zah prog 63 3=some (4,true,2)/\zag prog 63 3=some (4,true,2)/\zah prog 63 4=some (6,true,2):=by and_intros <;> kernel_rfl
theorem TF6:zag prog 63 4=some (6,true,2)/\zah prog 63 5=some (8,true,7)/\zag prog 63 5=some (8,true,7)/\zah prog 63 6=some (15,true,7)/\zag prog 63 6=some (15,true,7)/\zah prog 63 7=some (22,true,7)/\zag prog 63 7=some (22,true,7)/\zah prog 63 8=some (29,true,3)/\zag prog 63 8=some (29,true,3)/\zah prog 63 9=some (32,false,1)/\zag prog 63 9=some (32,false,1)/\zah prog 63 10=some (33,false,1)/\zag prog 63 10=some (33,false,1)/\zah prog 63 11=some (34,false,1)/\zag prog 63 11=some (34,false,1)/\zaB prog 63=true/\lay prog 64=some (true,35)/\zad prog 64=some [.int .i64 0,.string waj,.int .i64 0,.string waj,.int .i64 0,.string waj,.int .i64 0,.string waj,.int .i64 0,.string waj,.int .i64 0,.string waj,.int .i64 0,.string waj,.slice none 0 0,.int .i64 0,.string waj,.int .i64 0,.string waj,.int .i64 0,.string waj,.slice none 0 0,.int .i64 0,.string waj,.int .i64 0,.string waj,.int .i64 0,.string waj,.slice none 0 0,.int .i64 0,.string waj,.int .i64 0,.string waj,.slice none 0 0,.slice none 0 0]/\zah prog 64 0=some (0,false,1)/\zag prog 64 0=some (0,false,1)/\zah prog 64 1=some (1,false,1)/\zag prog 64 1=some (1,false,1)/\zah prog 64 2=some (2,true,2)/\zag prog 64 2=some (2,true,2)/\zah prog 64 3=some (4,true,2)/\zag prog 64 3=some (4,true,2)/\zah prog 64 4=some (6,true,2)/\zag prog 64 4=some (6,true,2)/\zah prog 64 5=some (8,true,7)/\zag prog 64 5=some (8,true,7)/\zah prog 64 6=some (15,true,7)/\zag prog 64 6=some (15,true,7)/\zah prog 64 7=some (22,true,7)/\zag prog 64 7=some (22,true,7)/\zah prog 64 8=some (29,true,3)/\zag prog 64 8=some (29,true,3)/\zah prog 64 9=some (32,false,1)/\zag prog 64 9=some (32,false,1)/\zah prog 64 10=some (33,false,1)/\zag prog 64 10=some (33,false,1):=by and_intros <;> kernel_rfl
theorem TF7:zah prog 64 11=some (34,false,1)/\zag prog 64 11=some (34,false,1)/\zaB prog 64=true/\lay prog 65=some (true,2)/\zad prog 65=some [.int .i64 0,.string waj]/\zah prog 65 0=some (0,false,1)/\zag prog 65 0=some (0,false,1)/\zah prog 65 1=some (1,false,1)/\zag prog 65 1=some (1,false,1)/\zaB prog 65=true/\zdE prog 65=some [0,2]/\lay prog 66=some (true,2)/\zad prog 66=some [.int .i64 0,.string waj]/\zah prog 66 0=some (0,false,1)/\zag prog 66 0=some (0,false,1)/\zah prog 66 1=some (1,false,1)/\zag prog 66 1=some (1,false,1)/\zaB prog 66=true/\zdE prog 66=some [0,2]/\lay prog 68=some (true,43)/\zad prog 68=some [.string waj,.int .i64 0,.string waj,.bool false,.int .i64 0,.string waj,.int .i64 0,.string waj,.int .i64 0,.string waj,.int .i64 0,.string waj,.int .i64 0,.string waj,.int .i64 0,.string waj,.int .i64 0,.string waj,.slice none 0 0,.int .i64 0,.string waj,.int .i64 0,.string waj,.int .i64 0,.string waj,.slice none 0 0,.int .i64 0,.string waj,.int .i64 0,.string waj,.int .i64 0,.string waj,.slice none 0 0,.int .i64 0,.string waj,.int .i64 0,.string waj,.slice none 0 0,.slice none 0 0,.string waj,.string waj,.slice none 0 0,.slice none 0 0]/\zah prog 68 0=some (0,false,1)/\zag prog 68 0=some (0,false,1)/\zah prog 68 1=some (1,true,2)/\zag prog 68 1=some (1,true,2)/\zah prog 68 2=some (3,false,1)/\zag prog 68 2=some (3,false,1)/\zah prog 68 3=some (4,true,35)/\zag prog 68 3=some (4,true,35)/\zah prog 68 4=some (39,true,4)/\zag prog 68 4=some (39,true,4)/\zaB prog 68=true/\lay prog 69=some (true,43)/\zad prog 69=some [.string waj,.int .i64 0,.string waj,.bool false,.int .i64 0,.string waj,.int .i64 0,.string waj,.int .i64 0,.string waj,.int .i64 0,.string waj,.int .i64 0,.string waj,.int .i64 0,.string waj,.int .i64 0,.string waj,.slice none 0 0,.int .i64 0,.string waj,.int .i64 0,.string waj,.int .i64 0,.string waj,.slice none 0 0,.int .i64 0,.string waj,.int .i64 0,.string waj,.int .i64 0,.string waj,.slice none 0 0,.int .i64 0,.string waj,.int .i64 0,.string waj,.slice none 0 0,.slice none 0 0,.string waj,.string waj,.slice none 0 0,.slice none 0 0]/\zah prog 69 0=some (0,false,1)/\zag prog 69 0=some (0,false,1)/\zah prog 69 1=some (1,true,2)/\zag prog 69 1=some (1,true,2)/\zah prog 69 2=some (3,false,1)/\zag prog 69 2=some (3,false,1):=by and_intros <;> kernel_rfl
theorem TF8:zah prog 69 3=some (4,true,35)/\zag prog 69 3=some (4,true,35)/\zah prog 69 4=some (39,true,4)/\zag prog 69 4=some (39,true,4)/\zaB prog 69=true/\prog.underlying 71=some (.slice 202)/\lay prog 71=some (false,1)/\zad prog 71=some [.slice none 0 0]/\za0 prog 71=some (202,true,3)/\zdj prog 71=some (202,3,3)/\prog.underlying 72=some (.array 3 71)/\lay prog 72=some (true,3)/\zad prog 72=some [.slice none 0 0,.slice none 0 0,.slice none 0 0]/\za0 prog 72=none/\zcN prog 72=some (3,false,1)/\zag prog 72 0=some (0,false,1)/\zag prog 72 1=some (1,false,1)/\zag prog 72 2=some (2,false,1)/\zaB prog 72=true/\prog.underlying 73=some (.array 4 5)/\lay prog 73=some (true,4)/\zad prog 73=some [.int .u8 0,.int .u8 0,.int .u8 0,.int .u8 0]/\za0 prog 73=none/\zcN prog 73=some (4,false,1)/\zag prog 73 0=some (0,false,1)/\zag prog 73 1=some (1,false,1)/\zag prog 73 2=some (2,false,1)/\zag prog 73 3=some (3,false,1)/\zaB prog 73=true/\zdE prog 73=some [0,0,0,0]/\lay prog 74=some (true,3)/\zad prog 74=some [.string waj,.int .i64 0,.string waj]/\zah prog 74 0=some (0,false,1)/\zag prog 74 0=some (0,false,1)/\zah prog 74 1=some (1,true,2)/\zag prog 74 1=some (1,true,2)/\zaB prog 74=true/\zdE prog 74=some [2,0,2]/\lay prog 75=some (true,3)/\zad prog 75=some [.string waj,.int .i64 0,.string waj]:=by and_intros <;> kernel_rfl
theorem TF9:zah prog 75 0=some (0,false,1)/\zag prog 75 0=some (0,false,1)/\zah prog 75 1=some (1,true,2)/\zag prog 75 1=some (1,true,2)/\zaB prog 75=true/\zdE prog 75=some [2,0,2]/\lay prog 78=some (true,3)/\zad prog 78=some [.slice none 0 0,.slice none 0 0,.slice none 0 0]/\zah prog 78 0=some (0,true,1)/\zag prog 78 0=some (0,true,1)/\zah prog 78 1=some (1,true,1)/\zag prog 78 1=some (1,true,1)/\zah prog 78 2=some (2,true,1)/\zag prog 78 2=some (2,true,1)/\zaB prog 78=true/\lay prog 79=some (true,3)/\zad prog 79=some [.slice none 0 0,.slice none 0 0,.slice none 0 0]/\zah prog 79 0=some (0,true,1)/\zag prog 79 0=some (0,true,1)/\zah prog 79 1=some (1,true,1)/\zag prog 79 1=some (1,true,1)/\zah prog 79 2=some (2,true,1)/\zag prog 79 2=some (2,true,1)/\zaB prog 79=true/\prog.underlying 83=some (.slice 75)/\lay prog 83=some (false,1)/\zad prog 83=some [.slice none 0 0]/\za0 prog 83=some (75,true,3)/\zdj prog 83=some (75,3,40)/\lay prog 84=some (true,2)/\zad prog 84=some [.slice none 0 0,.int .i64 0]/\zah prog 84 0=some (0,false,1)/\zag prog 84 0=some (0,false,1)/\zah prog 84 1=some (1,false,1)/\zag prog 84 1=some (1,false,1)/\zaB prog 84=true/\lay prog 85=some (true,2)/\zad prog 85=some [.slice none 0 0,.int .i64 0]/\zah prog 85 0=some (0,false,1)/\zag prog 85 0=some (0,false,1):=by and_intros <;> kernel_rfl
theorem TF10:zah prog 85 1=some (1,false,1)/\zag prog 85 1=some (1,false,1)/\zaB prog 85=true/\lay prog 88=some (true,3)/\zad prog 88=some [.slice none 0 0,.slice none 0 0,.int .i64 0]/\zah prog 88 0=some (0,true,1)/\zag prog 88 0=some (0,true,1)/\zah prog 88 1=some (1,false,1)/\zag prog 88 1=some (1,false,1)/\zah prog 88 2=some (2,false,1)/\zag prog 88 2=some (2,false,1)/\zaB prog 88=true/\lay prog 89=some (true,3)/\zad prog 89=some [.slice none 0 0,.slice none 0 0,.int .i64 0]/\zah prog 89 0=some (0,true,1)/\zag prog 89 0=some (0,true,1)/\zah prog 89 1=some (1,false,1)/\zag prog 89 1=some (1,false,1)/\zah prog 89 2=some (2,false,1)/\zag prog 89 2=some (2,false,1)/\zaB prog 89=true/\lay prog 92=some (true,2)/\zad prog 92=some [.int .i64 0,.int .i64 0]/\zah prog 92 0=some (0,false,1)/\zag prog 92 0=some (0,false,1)/\zah prog 92 1=some (1,false,1)/\zag prog 92 1=some (1,false,1)/\zaB prog 92=true/\zdE prog 92=some [0,0]/\lay prog 93=some (true,2)/\zad prog 93=some [.int .i64 0,.int .i64 0]/\zah prog 93 0=some (0,false,1)/\zag prog 93 0=some (0,false,1)/\zah prog 93 1=some (1,false,1)/\zag prog 93 1=some (1,false,1)/\zaB prog 93=true/\zdE prog 93=some [0,0]/\lay prog 109=some (false,1)/\zad prog 109=some [.nilFunc]/\lay prog 111=some (false,1):=by and_intros <;> kernel_rfl
theorem TF11:zad prog 111=some [.nilFunc]/\lay prog 113=some (false,1)/\zad prog 113=some [.nilFunc]/\lay prog 116=some (false,1)/\zad prog 116=some [.nilFunc]/\lay prog 118=some (false,1)/\zad prog 118=some [.nilFunc]/\prog.underlying 119=some (.pointer 121)/\lay prog 119=some (false,1)/\zad prog 119=some [.pointer none]/\lay prog 120=some (true,1)/\zad prog 120=some [.slice none 0 0]/\zah prog 120 0=some (0,false,1)/\zag prog 120 0=some (0,false,1)/\zaB prog 120=true/\lay prog 121=some (true,1)/\zad prog 121=some [.slice none 0 0]/\zah prog 121 0=some (0,false,1)/\zag prog 121 0=some (0,false,1)/\zaB prog 121=true/\lay prog 124=some (false,1)/\zad prog 124=some [.nilFunc]/\lay prog 125=some (false,1)/\zad prog 125=some [.nilFunc]/\lay prog 126=some (true,4)/\zad prog 126=some [.nilFunc,.nilFunc,.nilFunc,.nilFunc]/\zah prog 126 0=some (0,false,1)/\zag prog 126 0=some (0,false,1)/\zah prog 126 1=some (1,false,1)/\zag prog 126 1=some (1,false,1)/\zah prog 126 2=some (2,false,1)/\zag prog 126 2=some (2,false,1)/\zah prog 126 3=some (3,false,1)/\zag prog 126 3=some (3,false,1)/\zaB prog 126=true/\lay prog 127=some (true,4)/\zad prog 127=some [.nilFunc,.nilFunc,.nilFunc,.nilFunc]/\zah prog 127 0=some (0,false,1)/\zag prog 127 0=some (0,false,1)/\zah prog 127 1=some (1,false,1):=by and_intros <;> kernel_rfl
theorem TF12:zag prog 127 1=some (1,false,1)/\zah prog 127 2=some (2,false,1)/\zag prog 127 2=some (2,false,1)/\zah prog 127 3=some (3,false,1)/\zag prog 127 3=some (3,false,1)/\zaB prog 127=true/\lay prog 131=some (false,1)/\zad prog 131=some [.nilFunc]/\lay prog 132=some (false,1)/\zad prog 132=some [.nilFunc]/\lay prog 135=some (false,1)/\zad prog 135=some [.nilFunc]/\lay prog 136=some (false,1)/\zad prog 136=some [.nilFunc]/\lay prog 145=some (true,2)/\zad prog 145=some [.string waj,.string waj]/\zah prog 145 0=some (0,false,1)/\zag prog 145 0=some (0,false,1)/\zah prog 145 1=some (1,false,1)/\zag prog 145 1=some (1,false,1)/\zaB prog 145=true/\zdE prog 145=some [2,2]/\lay prog 146=some (true,2)/\zad prog 146=some [.string waj,.string waj]/\zah prog 146 0=some (0,false,1)/\zag prog 146 0=some (0,false,1)/\zah prog 146 1=some (1,false,1)/\zag prog 146 1=some (1,false,1)/\zaB prog 146=true/\zdE prog 146=some [2,2]/\prog.underlying 147=some (.slice 166)/\lay prog 147=some (false,1)/\zad prog 147=some [.slice none 0 0]/\za0 prog 147=some (166,true,3)/\zdj prog 147=some (166,3,40)/\prog.underlying 152=some (.slice 30)/\lay prog 152=some (false,1)/\zad prog 152=some [.slice none 0 0]/\za0 prog 152=some (30,true,1)/\zdj prog 152=some (30,1,24):=by and_intros <;> kernel_rfl
theorem TF13:prog.underlying 162=some (.slice 221)/\lay prog 162=some (false,1)/\zad prog 162=some [.slice none 0 0]/\za0 prog 162=some (221,true,3)/\zdj prog 162=some (221,3,24)/\lay prog 166=some (true,3)/\zad prog 166=some [.string waj,.int .i64 0,.string waj]/\zah prog 166 0=some (0,false,1)/\zag prog 166 0=some (0,false,1)/\zah prog 166 1=some (1,true,2)/\zag prog 166 1=some (1,true,2)/\zaB prog 166=true/\zdE prog 166=some [2,0,2]/\prog.underlying 168=some (.slice 3)/\lay prog 168=some (false,1)/\zad prog 168=some [.slice none 0 0]/\za0 prog 168=some (3,false,1)/\zdj prog 168=some (3,1,8)/\lay prog 170=some (false,1)/\zad prog 170=some [.nilFunc]/\prog.underlying 174=some (.array 2 9)/\lay prog 174=some (true,2)/\zad prog 174=some [.string waj,.string waj]/\za0 prog 174=none/\zcN prog 174=some (2,false,1)/\zag prog 174 0=some (0,false,1)/\zag prog 174 1=some (1,false,1)/\zaB prog 174=true/\zdE prog 174=some [2,2]/\lay prog 176=some (true,3)/\zad prog 176=some [.slice none 0 0,.int .i64 0,.string waj]/\zah prog 176 0=some (0,false,1)/\zag prog 176 0=some (0,false,1)/\zah prog 176 1=some (1,true,2)/\zag prog 176 1=some (1,true,2)/\zaB prog 176=true/\lay prog 177=some (true,3)/\zad prog 177=some [.slice none 0 0,.int .i64 0,.string waj]/\zah prog 177 0=some (0,false,1)/\zag prog 177 0=some (0,false,1):=by and_intros <;> kernel_rfl
theorem TF14:zah prog 177 1=some (1,true,2)/\zag prog 177 1=some (1,true,2)/\zaB prog 177=true/\prog.underlying 180=some (.array 2 3)/\lay prog 180=some (true,2)/\zad prog 180=some [.int .i64 0,.int .i64 0]/\za0 prog 180=none/\zcN prog 180=some (2,false,1)/\zag prog 180 0=some (0,false,1)/\zag prog 180 1=some (1,false,1)/\zaB prog 180=true/\zdE prog 180=some [0,0]/\lay prog 190=some (false,1)/\zad prog 190=some [.nilFunc]/\lay prog 191=some (false,1)/\zad prog 191=some [.nilFunc]/\lay prog 193=some (false,1)/\zad prog 193=some [.nilFunc]/\lay prog 194=some (true,4)/\zad prog 194=some [.nilFunc,.nilFunc,.nilFunc,.nilFunc]/\zah prog 194 0=some (0,false,1)/\zag prog 194 0=some (0,false,1)/\zah prog 194 1=some (1,false,1)/\zag prog 194 1=some (1,false,1)/\zah prog 194 2=some (2,false,1)/\zag prog 194 2=some (2,false,1)/\zah prog 194 3=some (3,false,1)/\zag prog 194 3=some (3,false,1)/\zaB prog 194=true/\lay prog 195=some (true,4)/\zad prog 195=some [.nilFunc,.nilFunc,.nilFunc,.nilFunc]/\zah prog 195 0=some (0,false,1)/\zag prog 195 0=some (0,false,1)/\zah prog 195 1=some (1,false,1)/\zag prog 195 1=some (1,false,1)/\zah prog 195 2=some (2,false,1)/\zag prog 195 2=some (2,false,1)/\zah prog 195 3=some (3,false,1)/\zag prog 195 3=some (3,false,1)/\zaB prog 195=true:=by and_intros <;> kernel_rfl
theorem TF15:lay prog 199=some (false,1)/\zad prog 199=some [.nilFunc]/\prog.underlying 202=some (.array 3 5)/\lay prog 202=some (true,3)/\zad prog 202=some [.int .u8 0,.int .u8 0,.int .u8 0]/\za0 prog 202=none/\zcN prog 202=some (3,false,1)/\zag prog 202 0=some (0,false,1)/\zag prog 202 1=some (1,false,1)/\zag prog 202 2=some (2,false,1)/\zaB prog 202=true/\zdE prog 202=some [0,0,0]/\prog.underlying 204=some (.slice 211)/\lay prog 204=some (false,1)/\zad prog 204=some [.slice none 0 0]/\za0 prog 204=some (211,false,1)/\zdj prog 204=some (211,1,8)/\prog.underlying 210=some (.map 166 53)/\lay prog 210=some (false,1)/\zad prog 210=some [.map none]/\prog.underlying 211=some (.map 166 53)/\lay prog 211=some (false,1)/\zad prog 211=some [.map none]/\lay prog 212=some (false,1)/\zad prog 212=some [.nilFunc]/\prog.underlying 217=some (.pointer 53)/\lay prog 217=some (false,1)/\zad prog 217=some [.pointer none]/\lay prog 220=some (true,3)/\zad prog 220=some [.int .i64 0,.int .i64 0,.int .i64 0]/\zah prog 220 0=some (0,false,1)/\zag prog 220 0=some (0,false,1)/\zah prog 220 1=some (1,false,1)/\zag prog 220 1=some (1,false,1)/\zah prog 220 2=some (2,false,1)/\zag prog 220 2=some (2,false,1)/\zaB prog 220=true/\zdE prog 220=some [0,0,0]/\lay prog 221=some (true,3)/\zad prog 221=some [.int .i64 0,.int .i64 0,.int .i64 0]:=by and_intros <;> kernel_rfl
theorem TF16:zah prog 221 0=some (0,false,1)/\zag prog 221 0=some (0,false,1)/\zah prog 221 1=some (1,false,1)/\zag prog 221 1=some (1,false,1)/\zah prog 221 2=some (2,false,1)/\zag prog 221 2=some (2,false,1)/\zaB prog 221=true/\zdE prog 221=some [0,0,0]/\prog.underlying 224=some (.map 9 3)/\lay prog 224=some (false,1)/\zad prog 224=some [.map none]/\prog.underlying 225=some (.map 221 4)/\lay prog 225=some (false,1)/\zad prog 225=some [.map none]/\prog.underlying 226=some (.slice 232)/\lay prog 226=some (false,1)/\zad prog 226=some [.slice none 0 0]/\za0 prog 226=some (232,true,6)/\zdj prog 226=some (232,6,96)/\lay prog 227=some (true,3)/\zad prog 227=some [.slice none 0 0,.map none,.map none]/\zah prog 227 0=some (0,false,1)/\zag prog 227 0=some (0,false,1)/\zah prog 227 1=some (1,false,1)/\zag prog 227 1=some (1,false,1)/\zah prog 227 2=some (2,false,1)/\zag prog 227 2=some (2,false,1)/\zaB prog 227=true/\lay prog 228=some (true,3)/\zad prog 228=some [.slice none 0 0,.map none,.map none]/\zah prog 228 0=some (0,false,1)/\zag prog 228 0=some (0,false,1)/\zah prog 228 1=some (1,false,1)/\zag prog 228 1=some (1,false,1)/\zah prog 228 2=some (2,false,1)/\zag prog 228 2=some (2,false,1)/\zaB prog 228=true/\prog.underlying 229=some (.map 9 64)/\lay prog 229=some (false,1)/\zad prog 229=some [.map none]:=by and_intros <;> kernel_rfl
theorem TF17:prog.underlying 230=some (.map 9 4)/\lay prog 230=some (false,1)/\zad prog 230=some [.map none]/\lay prog 231=some (true,6)/\zad prog 231=some [.string waj,.string waj,.slice none 0 0,.slice none 0 0,.map none,.map none]/\zah prog 231 0=some (0,true,4)/\zag prog 231 0=some (0,true,4)/\zah prog 231 1=some (4,false,1)/\zag prog 231 1=some (4,false,1)/\zah prog 231 2=some (5,false,1)/\zag prog 231 2=some (5,false,1)/\zaB prog 231=true/\lay prog 232=some (true,6)/\zad prog 232=some [.string waj,.string waj,.slice none 0 0,.slice none 0 0,.map none,.map none]/\zah prog 232 0=some (0,true,4)/\zag prog 232 0=some (0,true,4)/\zah prog 232 1=some (4,false,1)/\zag prog 232 1=some (4,false,1)/\zah prog 232 2=some (5,false,1)/\zag prog 232 2=some (5,false,1)/\zaB prog 232=true/\lay prog 238=some (false,1)/\zad prog 238=some [.nilFunc]/\lay prog 239=some (false,1)/\zad prog 239=some [.nilFunc]/\lay prog 243=some (false,1)/\zad prog 243=some [.nilFunc]/\prog.underlying 253=some (.int .u64)/\lay prog 253=some (false,1)/\zad prog 253=some [.int .u64 0]/\prog.underlying 265=some (.map 166 4)/\lay prog 265=some (false,1)/\zad prog 265=some [.map none]/\lay prog 267=some (false,1)/\zad prog 267=some [.nilFunc]/\lay prog 268=some (false,1)/\zad prog 268=some [.nilFunc]/\lay prog 270=some (false,1)/\zad prog 270=some [.nilFunc]/\prog.underlying 287=some (.map 3 4):=by and_intros <;> kernel_rfl
theorem TF18:lay prog 287=some (false,1)/\zad prog 287=some [.map none]/\lay prog 294=some (false,1)/\zad prog 294=some [.nilFunc]/\prog.underlying 300=some (.int .i64)/\lay prog 300=some (false,1)/\zad prog 300=some [.int .i64 0]/\prog.underlying 307=some (.int .u32)/\lay prog 307=some (false,1)/\zad prog 307=some [.int .u32 0]/\prog.underlying 309=some (.int .u64)/\lay prog 309=some (false,1)/\zad prog 309=some [.int .u64 0]/\lay prog 320=some (false,1)/\zad prog 320=some [.nilFunc]/\lay prog 326=some (false,1)/\zad prog 326=some [.nilFunc]/\lay prog 327=some (false,1)/\zad prog 327=some [.nilFunc]/\lay prog 332=some (false,1)/\zad prog 332=some [.nilFunc]/\lay prog 334=some (false,1)/\zad prog 334=some [.nilFunc]/\prog.underlying 337=some (.int .u64)/\lay prog 337=some (false,1)/\zad prog 337=some [.int .u64 0]/\prog.underlying 341=some (.pointer 3)/\lay prog 341=some (false,1)/\zad prog 341=some [.pointer none]/\prog.underlying 351=some (.map 3 3)/\lay prog 351=some (false,1)/\zad prog 351=some [.map none]/\prog.underlying 362=some (.pointer 337)/\lay prog 362=some (false,1)/\zad prog 362=some [.pointer none]/\lay prog 373=some (true,4)/\zad prog 373=some [.pointer none,.pointer none,.pointer none,.string waj]/\zah prog 373 0=some (0,false,1)/\zag prog 373 0=some (0,false,1)/\zah prog 373 1=some (1,false,1):=by and_intros <;> kernel_rfl
theorem TF19:zag prog 373 1=some (1,false,1)/\zah prog 373 2=some (2,false,1)/\zag prog 373 2=some (2,false,1)/\zah prog 373 3=some (3,false,1)/\zag prog 373 3=some (3,false,1)/\zaB prog 373=true/\lay prog 374=some (true,4)/\zad prog 374=some [.pointer none,.pointer none,.pointer none,.string waj]/\zah prog 374 0=some (0,false,1)/\zag prog 374 0=some (0,false,1)/\zah prog 374 1=some (1,false,1)/\zag prog 374 1=some (1,false,1)/\zah prog 374 2=some (2,false,1)/\zag prog 374 2=some (2,false,1)/\zah prog 374 3=some (3,false,1)/\zag prog 374 3=some (3,false,1)/\zaB prog 374=true/\prog.underlying 379=some (.int .u8)/\lay prog 379=some (false,1)/\zad prog 379=some [.int .u8 0]/\prog.underlying 380=some (.int .u8)/\lay prog 380=some (false,1)/\zad prog 380=some [.int .u8 0]/\lay prog 381=some (false,1)/\zad prog 381=some [.nilFunc]/\prog.underlying 382=some (.pointer 5)/\lay prog 382=some (false,1)/\zad prog 382=some [.pointer none]/\prog.underlying 383=some (.int .i32)/\lay prog 383=some (false,1)/\zad prog 383=some [.int .i32 0]/\prog.underlying 384=some (.int .i32)/\lay prog 384=some (false,1)/\zad prog 384=some [.int .i32 0]/\lay prog 385=some (true,11)/\zad prog 385=some [.int .u64 0,.int .u64 0,.int .u32 0,.int .u8 0,.int .u8 0,.int .u8 0,.int .u8 0,.nilFunc,.pointer none,.int .i32 0,.int .i32 0]/\zah prog 385 0=some (0,false,1)/\zag prog 385 0=some (0,false,1)/\zah prog 385 1=some (1,false,1)/\zag prog 385 1=some (1,false,1):=by and_intros <;> kernel_rfl
theorem TF20:zah prog 385 2=some (2,false,1)/\zag prog 385 2=some (2,false,1)/\zah prog 385 3=some (3,false,1)/\zag prog 385 3=some (3,false,1)/\zah prog 385 4=some (4,false,1)/\zag prog 385 4=some (4,false,1)/\zah prog 385 5=some (5,false,1)/\zag prog 385 5=some (5,false,1)/\zah prog 385 6=some (6,false,1)/\zag prog 385 6=some (6,false,1)/\zah prog 385 7=some (7,false,1)/\zag prog 385 7=some (7,false,1)/\zah prog 385 8=some (8,false,1)/\zag prog 385 8=some (8,false,1)/\zah prog 385 9=some (9,false,1)/\zag prog 385 9=some (9,false,1)/\zah prog 385 10=some (10,false,1)/\zag prog 385 10=some (10,false,1)/\zaB prog 385=true/\lay prog 386=some (true,11)/\zad prog 386=some [.int .u64 0,.int .u64 0,.int .u32 0,.int .u8 0,.int .u8 0,.int .u8 0,.int .u8 0,.nilFunc,.pointer none,.int .i32 0,.int .i32 0]/\zah prog 386 0=some (0,false,1)/\zag prog 386 0=some (0,false,1)/\zah prog 386 1=some (1,false,1)/\zag prog 386 1=some (1,false,1)/\zah prog 386 2=some (2,false,1)/\zag prog 386 2=some (2,false,1)/\zah prog 386 3=some (3,false,1)/\zag prog 386 3=some (3,false,1)/\zah prog 386 4=some (4,false,1)/\zag prog 386 4=some (4,false,1)/\zah prog 386 5=some (5,false,1)/\zag prog 386 5=some (5,false,1)/\zah prog 386 6=some (6,false,1)/\zag prog 386 6=some (6,false,1)/\zah prog 386 7=some (7,false,1)/\zag prog 386 7=some (7,false,1)/\zah prog 386 8=some (8,false,1)/\zag prog 386 8=some (8,false,1)/\zah prog 386 9=some (9,false,1):=by and_intros <;> kernel_rfl
theorem TF21:zag prog 386 9=some (9,false,1)/\zah prog 386 10=some (10,false,1)/\zag prog 386 10=some (10,false,1)/\zaB prog 386=true/\lay prog 387=some (false,1)/\zad prog 387=some [.pointer none]/\zrA prog 53=some (.agg [.lit (.string waj),.lit (.string waj),.sl [],.sl []])/\zrA prog 3=some (.lit (.int .i64 0))/\zrA prog 4=some (.lit (.bool false))/\zrA prog 64=some (.agg [.lit (.int .i64 0),.lit (.string waj),.lit (.int .i64 0),.lit (.string waj),.lit (.int .i64 0),.lit (.string waj),.lit (.int .i64 0),.lit (.string waj),.lit (.int .i64 0),.lit (.string waj),.lit (.int .i64 0),.lit (.string waj),.lit (.int .i64 0),.lit (.string waj),.sl [],.lit (.int .i64 0),.lit (.string waj),.lit (.int .i64 0),.lit (.string waj),.lit (.int .i64 0),.lit (.string waj),.sl [],.lit (.int .i64 0),.lit (.string waj),.lit (.int .i64 0),.lit (.string waj),.lit (.int .i64 0),.lit (.string waj),.sl [],.lit (.int .i64 0),.lit (.string waj),.lit (.int .i64 0),.lit (.string waj),.sl [],.sl []]):=by and_intros <;> kernel_rfl
set_option linter.defProp false
def TF:=And.intro TF0 (And.intro TF1 (And.intro TF2 (And.intro TF3 (And.intro TF4 (And.intro TF5 (And.intro TF6 (And.intro TF7 (And.intro TF8 (And.intro TF9 (And.intro TF10 (And.intro TF11 (And.intro TF12 (And.intro TF13 (And.intro TF14 (And.intro TF15 (And.intro TF16 (And.intro TF17 (And.intro TF18 (And.intro TF19 (And.intro TF20 TF21))))))))))))))))))))
abbrev Str:={s:ByteArray // s.size<=maxLen}
abbrev I64:={n:Int // (Lit.int .i64 n).wf =true}
structure Num where
 n:Int
 p:Str
 deriving DecidableEq
structure Rule where
 kind:Int
 from':Str
 n:Int
 deriving DecidableEq
structure Bind where
 port:Str
 chan:Str
 deriving DecidableEq
inductive Expr where
 | mk (op:Int) (name:Str) (k w:Num) (args:List Expr)
def Expr.op:Expr->Int | .mk o _ _ _ _=>o
def Expr.name:Expr->Str | .mk _ n _ _ _=>n
def Expr.k:Expr->Num | .mk _ _ k _ _=>k
def Expr.w:Expr->Num | .mk _ _ _ w _=>w
def Expr.args:Expr->List Expr | .mk _ _ _ _ a=>a
structure Item where
 kind:I64
 name:Str
 width:Num
 depth:Num
 init:Num
 a:Expr
 b:Expr
 c:Expr
 rule:Rule
 of:Str
 args:List Num
 ports:List Bind
structure Module where
 name:Str
 clock:Str
 params:List Str
 items:List Item
structure Problem where
 code:Int
 module:Int
 item:Int
 deriving DecidableEq
def eU8(n:Nat):D:=.lit (.int .u8 n)
def eI(n:Int):D:=.lit (.int .i64 n)
def eB(b:Bool):D:=.lit (.bool b)
def eS(s:Str):D:=.lit (.string s.1)
theorem str_eq(x y:Str):decide (x.1=y.1)=decide (x=y):=by rw[decide_eq_decide]; exact Subtype.ext_iff.symm
def zgL(x:Num):List D:=[eI x.n,eS x.p]
def zib(x:Rule):List D:=[eI x.kind,eS x.from',eI x.n]
def zjO(x:Bind):List D:=[eS x.port,eS x.chan]
def zbW(x:Problem):List D:=[eI x.code,eI x.module,eI x.item]
def zd5(l:List Str):D:=.sl (l.map fun s=>[eS s])
def zfA(l:List Int):D:=.sl (l.map fun s=>[eI s])
def ziG(l:List Num):D:=.sl (l.map zgL)
def zel(l:List Bind):D:=.sl (l.map zjO)
def ze3(l:List Problem):D:=.sl (l.map zbW)
def zau(l:List Nat):D:=.sl (l.map fun n=>[eU8 n])
mutual
def zbx:Expr->List D
 | .mk o n k w a=>[eI o,eS n,eI k.n,eS k.p,eI w.n,eS w.p,.sl (ziF a)]
def ziF:List Expr->List (List D)
 | []=>[]
 | e::r=>zbx e::ziF r
end
theorem zj8: ∀l:List Expr,ziF l=l.map zbx
 | []=>by simp[ziF]
 | e::r=>by simp[ziF,zj8 r]
theorem zb6(e:Expr):zbx e=[eI e.op,eS e.name,eI e.k.n,eS e.k.p,eI e.w.n,eS e.w.p,.sl (e.args.map zbx)]:=by
 cases e; simp[zbx,zj8,Expr.op,Expr.name,Expr.k,Expr.w,Expr.args]
def zbF(l:List Expr):D:=.sl (l.map zbx)
def zaK(x:Item):List D:=eI x.kind.1::eS x.name::(zgL x.width++(zgL x.depth++(zgL x.init++(zbx x.a++(zbx x.b++(zbx x.c++(zib x.rule++[eS x.of,ziG x.args,zel x.ports])))))))
def zbR(l:List Item):D:=.sl (l.map zaK)
def zaC(m:Module):List D:=[eS m.name,eS m.clock,zd5 m.params,zbR m.items]
def zax(l:List Module):D:=.sl (l.map zaC)
def chL(i:Nat):List Gh:=if 2000<=i then [.chn]else []
def KD:=And.intro @str_eq (And.intro @chL.eq_1 (And.intro @eU8.eq_1 (And.intro @eI.eq_1 (And.intro @eB.eq_1 (And.intro @eS.eq_1 (And.intro @zgL.eq_1 (And.intro @zib.eq_1 (And.intro @zjO.eq_1 (And.intro @zbW.eq_1 (And.intro @zd5.eq_1 (And.intro @zfA.eq_1 (And.intro @ziG.eq_1 (And.intro @zel.eq_1 (And.intro @ze3.eq_1 (And.intro @zau.eq_1 (And.intro @zb6 (And.intro @zbF.eq_1 (And.intro @zaK.eq_1 (And.intro @zbR.eq_1 (And.intro @zaC.eq_1 @zax.eq_1))))))))))))))))))))
theorem zA.{u}{α:Sort u}(a:α):(a=a)=True:=eq_self a
theorem zB.{u}{α:Sort u}(a b:α):(a≠b)= ¬(a=b):=ne_eq a b
theorem zC.{u}(α:Sort u):(α->True)=True:=implies_true α
theorem zD.{u}{b:Prop}(α:Sort u)[i:Nonempty α]:(α->b)↔b:=forall_const α
theorem zF.{u}{α:Sort u}{i:Decidable True}(t e:α):ite True t e=t:=if_true t e
theorem zG.{u}{α:Sort u}{i:Decidable False}(t e:α):ite False t e=e:=if_false t e
theorem zH.{u}{α:Sort u}(a b:α):cond true a b=a:=rfl
theorem zI.{u}{α:Sort u}(a b:α):cond false a b=b:=rfl
theorem zJ.{u}{α:Sort u}{p:α->Prop}{c:α}:(∀a,a=c->p a)↔p c:=forall_eq
def ZZ:=And.intro @zA.{1} (And.intro @zB.{1} (And.intro @zC.{0} (And.intro @zC.{1} (And.intro @zD.{0} (And.intro @zD.{1} (And.intro @zF.{1} (And.intro @zG.{1} (And.intro @zH.{1} (And.intro @zI.{1} @zJ.{1})))))))))
def ZY:=And.intro GE (And.intro ZZ (And.intro @List.replicate.eq_1.{0} @List.replicate.eq_2.{0}))
def ZE:=And.intro SE (And.intro SX (And.intro TF (And.intro KD ZY)))
def ZM:=And.intro SE (And.intro SXm (And.intro TF (And.intro KD ZY)))
theorem zX.{u}{α:Sort u}(a:α): ∃x,a=x:=⟨a,rfl⟩
theorem zle{n m:Nat}(h:Nat.ble n m=true):n<=m:=Nat.le_of_ble_eq_true h
def zN:=And.intro Nat.zero_add Int.natCast_one
set_option maxRecDepth 100000
set_option maxHeartbeats 1000000
theorem zaa{α β:Type}{f:α->β}{l:List α}{i:Nat}(h:i<l.length)(d:β):(l.map f).getD i d=f l[i]:=by simp[List.getD,h]
theorem zaw{i n:Nat}(h:i<n):decide ((i:Int)<(n:Int))=true:=by simp; omega
theorem zaI{i n:Nat}(h:n<=i):decide ((i:Int)<(n:Int))=false:=by simp; omega
theorem zai{i n:Nat}(h:i<n):(0<=(i:Int)/\(i:Int)<(n:Int))=True:=by simp; omega
theorem zaQ{x:Int}(h0: -9223372036854775808<=x)(h1:x<=9223372036854775807):IntKind.i64.wrap x=x:=by
 simp only[IntKind.wrap,IntKind.bits,IntKind.signed];simp;omega
theorem zaq{i:Nat}(h:i<9223372036854775807):IntKind.i64.wrap ((i:Int)+1)=((i+1:Nat):Int):=by
 rw[zaQ (by omega) (by omega)]; simp
theorem ztE{es:List (List D)}(h:(D.sl es).ok):es.length<=9223372036854775807:=by
 simp only[D.ok]at h; have:=h.1; unfold maxLen at this; omega
theorem zaM{x:D}{xs:List D}(h:D.okL (x::xs)):x.ok/\D.okL xs:=by simpa only[D.okL]using h
theorem za9{α:Type}{f:α->List D}{l:List α}(h:(D.sl (l.map f)).ok):l.length<=9223372036854775807/\ ∀x∈l,D.okL (f x):=by
 refine⟨by simpa using ztE h,fun x hx=> ?_⟩;simp only[D.ok]at h;exact zxp h.2 _ (List.mem_map.2 ⟨x,hx,rfl⟩)
def zaW(k:Int):Bool:=decide (1<=k)&&decide (k<=6)||k==9
theorem zgV(k:Int):FnP Tryz.prog 195 [eI k] (.d (eB (zaW k))) []:=by
 refine FnP.of_eC (own:=[]) chL zat Tryz.func195 rfl Tryz.call195 Tryz.ntmps195 (zle rfl) Tryz.results195 (fun hok=> ?_);simp only[ZE,seval,zN];rfl
def zmf(k:Int):Int:=
 if (k==1||k==14)=true then 0
 else if (k==2||k==12||k==13||k==15)=true then 1
 else if (k==10)=true then 3
 else if (decide (2<k)&&decide (k<12))=true then 2
 else-1
theorem arity_c(k:Int):FnP Tryz.prog 248 [eI k] (.d (eI (zmf k))) []:=by
 refine FnP.of_eC (own:=[]) chL zat Tryz.func248 rfl Tryz.call248 Tryz.ntmps248 (zle rfl) Tryz.results248 (fun hok=> ?_);simp only[ZE,seval,zN];unfold zmf;refine zd8 (fun h=> ?_) (fun h=> ?_)
 ·simp only[h,if_true]
 refine zd8 (fun h2=> ?_) (fun h2=> ?_)
 ·simp only[h,h2,if_true,Bool.false_eq_true,if_false]
 refine zd8 (fun h3=> ?_) (fun h3=> ?_)
 ·simp only[h,h2,h3,if_true,Bool.false_eq_true,if_false]
 simp only[GT.gt];refine zd8 (fun h4=> ?_) (fun h4=> ?_)
 ·simp only[h,h2,h3,h4,if_true,Bool.false_eq_true,if_false]
 ·simp only[h,h2,h3,h4,Bool.false_eq_true,if_false]
def idx{α:Type}[DecidableEq α](l:List α)(x:α):Int:=match l.findIdx? (fun y=>decide (x=y))with | some i=>(i:Int) | none=> -1
theorem zpd{α:Type}[DecidableEq α]{l:List α}{x:α}{i:Nat}(h:i<l.length)(hx:x=l[i])(hn: ∀j (hj:j<i),x≠l[j]):idx l x=i:=by
 unfold idx;have:l.findIdx? (fun y=>decide (x=y))=some i:=by
  rw[List.findIdx?_eq_some_iff_getElem];exact⟨h,by simpa using hx,fun j hj=>by simpa using hn j hj⟩
 rw[this]
theorem zpc{α:Type}[DecidableEq α]{l:List α}{x:α}(hn: ∀j (hj:j<l.length),x≠l[j]):idx l x= -1:=by
 unfold idx;have:l.findIdx? (fun y=>decide (x=y))=none:=by
  rw[List.findIdx?_eq_none_iff];intro y hy;obtain⟨j,hj,rfl⟩:=List.getElem_of_mem hy;simpa using hn j hj
 rw[this]
def has{α:Type}[DecidableEq α](l:List α)(x:α):Bool:=l.any fun y=>decide (x=y)
theorem zsR{α:Type}[DecidableEq α]{l:List α}{x:α}:has l x=true↔x∈l:=by
 unfold has;rw[List.any_eq_true];exact⟨fun⟨y,h1,h2⟩=>by rw[of_decide_eq_true h2]; exact h1,fun h=>⟨x,h,by simp⟩⟩
theorem zkg{α:Type}[DecidableEq α](l:List α)(x:α):decide (idx l x>=0)=has l x:=by
 rw[wan,zsR,decide_eq_true_eq];unfold idx;split
 ·rename_i i h;rw[List.findIdx?_eq_some_iff_getElem]at h;obtain⟨h1,h2,_⟩:=h;have:x∈l:=by rw[of_decide_eq_true h2]; exact wah h1
  simp[this]
 ·rename_i h;rw[List.findIdx?_eq_none_iff]at h;have:x∉l:=fun hx=>by simpa using h x hx
  simp[this]
theorem beq_dec(a b:Int):(a==b)=decide (a=b):=rfl
theorem zw2(l:List Int)(x:Int):FnP Tryz.prog 296 [zfA l,eI x] (.d (eI (idx l x))) []:=by
 refine FnP.of_eC (own:=[]) chL zat Tryz.func296 rfl Tryz.call296 Tryz.ntmps296 (zle rfl) Tryz.results296 (fun hok=> ?_);obtain⟨hl,_⟩:=za9 (zaM hok).1;simp only[ZE,seval,zN];refine za1 chL zat l.length (fun i=> ∀j (_:j<i) (hj:j<l.length),x≠l[j]) (fun i=>([(0,.d (zfA l)),(1,.d (eI x)),(7,.d (eI l.length)),(8,.d (eI i))],[])) (by simp) (by simp only[ZE,seval,zN]) (by simp only[ZE,seval]) (fun i hi hI=> ?_);rcases wal i l.length with h | h
 ·have hw:=zaq (show i<9223372036854775807 by omega);simp only[ZE,seval,zaw h,zaa h,zai h,hw,beq_dec];refine zd8 (fun h3=> ?_) (fun h3=>⟨h,fun j hj hj'=> ?_⟩)
  ·rw[zpd h (of_decide_eq_true h3) (fun j hj=>hI j hj (by omega))]
  ·rcases Nat.lt_succ_iff_lt_or_eq.1 hj with hj | rfl
   ·exact hI j hj hj'
   ·exact of_decide_eq_false h3
 ·simp only[ZE,seval,zaI h];rw[zpc (fun j hj=>hI j (by omega) hj)]
theorem zn5(l:List Int)(x:Int):FnP Tryz.prog 279 [zfA l,eI x] (.d (eB (has l x))) []:=by
 refine FnP.of_eC (own:=[]) chL zat Tryz.func279 rfl Tryz.call279 Tryz.ntmps279 (zle rfl) Tryz.results279 (fun hok=> ?_);simp only[ZE,seval,zN];refine EFn.p ?_;simp only[ZE,seval];have hc:=zw2 l x;simp only[ZE,seval]at hc;refine zar.i hc ?_;clear hc;simp only[ZE,seval,zN,zkg]
theorem zw3(l:List Str)(x:Str):FnP Tryz.prog 245 [zd5 l,eS x] (.d (eI (idx l x))) []:=by
 refine FnP.of_eC (own:=[]) chL zat Tryz.func245 rfl Tryz.call245 Tryz.ntmps245 (zle rfl) Tryz.results245 (fun hok=> ?_);obtain⟨hl,_⟩:=za9 (zaM hok).1;simp only[ZE,seval,zN];refine za1 chL zat l.length (fun i=> ∀j (_:j<i) (hj:j<l.length),x≠l[j]) (fun i=>([(0,.d (zd5 l)),(1,.d (eS x)),(7,.d (eI l.length)),(8,.d (eI i))],[])) (by simp) (by simp only[ZE,seval,zN]) (by simp only[ZE,seval]) (fun i hi hI=> ?_);rcases wal i l.length with h | h
 ·have hw:=zaq (show i<9223372036854775807 by omega);simp only[ZE,seval,zaw h,zaa h,zai h,hw];refine zd8 (fun h3=> ?_) (fun h3=>⟨h,fun j hj hj'=> ?_⟩)
  ·rw[zpd h (of_decide_eq_true h3) (fun j hj=>hI j hj (by omega))]
  ·rcases Nat.lt_succ_iff_lt_or_eq.1 hj with hj | rfl
   ·exact hI j hj hj'
   ·exact of_decide_eq_false h3
 ·simp only[ZE,seval,zaI h];rw[zpc (fun j hj=>hI j (by omega) hj)]
theorem zcd(l:List Str)(x:Str):FnP Tryz.prog 197 [zd5 l,eS x] (.d (eB (has l x))) []:=by
 refine FnP.of_eC (own:=[]) chL zat Tryz.func197 rfl Tryz.call197 Tryz.ntmps197 (zle rfl) Tryz.results197 (fun hok=> ?_);simp only[ZE,seval,zN];refine EFn.p ?_;simp only[ZE,seval];have hc:=zw3 l x;simp only[ZE,seval]at hc;refine zar.i hc ?_;clear hc;simp only[ZE,seval,zN,zkg]
def zsb(s:ByteArray)(i:Nat):Nat:=(s.data.getD i 0).toNat
def ztk(b:Nat):Bool:=decide ((97:Int)<=b)&&decide ((b:Int)<=122)
def digitB(b:Nat):Bool:=decide ((48:Int)<=b)&&decide ((b:Int)<=57)
def zkq(s:ByteArray)(i:Nat):Bool:=ztk (zsb s i)||(decide (i≠0)&&digitB (zsb s i))
def zcX(s:ByteArray):Bool:= !((s.size:Int)==0||decide ((s.size:Int)>16))&&(List.range s.size).all (zkq s)
theorem ztv(s:ByteArray)(i:Nat):(!(decide ((97:Int)<=((s.data.getD i 0).toNat :Int))&&decide (((s.data.getD i 0).toNat :Int)<=122))&&((i:Int)==0|| !(decide ((48:Int)<=((s.data.getD i 0).toNat :Int))&&decide (((s.data.getD i 0).toNat :Int)<=57))))= !zkq s i:=by
 unfold zkq ztk digitB zsb;have:((i:Int)==0)= !decide (i≠0):=by rw[wan]; simp
 rw[this];simp only[Bool.not_or,Bool.not_and,Bool.not_not]
theorem zdd(s:ByteArray):FnP Tryz.prog 196 [.lit (.string s)] (.d (eB (zcX s))) []:=by
 refine FnP.of_eC (own:=[]) (fun i=>if i=2006 then [.chn,.ord ⟨[(0,none),(1,none),(2,none),(3,none),(4,none),(5,none),(6,none),(7,none),(8,none),(9,none),(10,none),(11,none),(12,none),(13,none),(14,none),(15,none),(16,none),(17,none),(18,none),(19,none),(20,none),(21,none)]⟩]else chL i) zat Tryz.func196 rfl Tryz.call196 Tryz.ntmps196 (zle rfl) Tryz.results196 (fun hok=> ?_);simp only[ZE,seval,zN];unfold zcX;refine zd8 (fun h=> ?_) (fun h=> ?_)
 ·simp only[h,Bool.not_true,Bool.false_and]
 rw[h];have hs:s.size<=16:=by
  have:=(Bool.or_eq_false_iff.1 h).2;simp at this;omega
 refine za1 (fun i=>if i=2006 then [.chn,.ord ⟨[(0,none),(1,none),(2,none),(3,none),(4,none),(5,none),(6,none),(7,none),(8,none),(9,none),(10,none),(11,none),(12,none),(13,none),(14,none),(15,none),(16,none),(17,none),(18,none),(19,none),(20,none),(21,none)]⟩]else chL i) zat s.size (fun i=> ∀j,j<i->zkq s j=true) (fun i=>([(0,.d (.lit (.string s))),(15,.d (eI s.size)),(16,.d (eI i))],[])) (by simp) (by simp only[ZE,seval,zN]) (by simp only[ZE,seval]) (fun i hi hI=> ?_);rcases wal i s.size with hlt | hge
 ·have hw:=zaq (show i<9223372036854775807 by omega);simp only[ZE,seval,zaw hlt,zai hlt,hw,ztv];refine⟨by kernel_rfl,zd8 (fun h3=> ?_) (fun h3=> ?_)⟩
  ·simp only[Bool.not_eq_true',Bool.not_not]at h3;have:(List.range s.size).all (zkq s)=false:=by
    rw[List.all_eq_false];exact⟨i,List.mem_range.2 hlt,by simp[h3]⟩
   rw[this]
  ·refine⟨hlt,fun j hj=> ?_⟩;rcases Nat.lt_succ_iff_lt_or_eq.1 hj with hj | rfl
   ·exact hI j hj
   ·simpa using h3
 ·simp only[ZE,seval,zaI hge];have:(List.range s.size).all (zkq s)=true:=List.all_eq_true.2 fun j hj=>hI j (by have:=List.mem_range.1 hj; omega);rw[this]
theorem zph:zj0 Tryz.prog 3:=Go.Maps.int_keyed tU3
theorem zal:zj0 Tryz.prog 9:=Go.Maps.string_keyed tU9
theorem ziP{n:Int}(h:(Lit.int .i64 n).wf =true):zd3 Tryz.prog 3 (.lit (.int .i64 n)):=⟨.int .i64 n,.int .i64 n,rfl,by unfold keyOf mapKey; simp[tU3,h]⟩
theorem zaj(s:Str):zd3 Tryz.prog 9 (.lit (.string s.1)):=⟨.string s.1,.string s.1.data.toList,rfl,by unfold keyOf mapKey; simp[tU9,s.2]⟩
theorem zw7(k:D):zeN [] k=0:=by simp[zeN]
open Classical in
theorem ziQ(a:D)(ks:List D)(k:D):zeN (a::ks) k=if a=k then 0 else zeN ks k+1:=by
 unfold zeN;rw[List.findIdx_cons];by_cases h:a=k
 ·simp[h]
 ·simp[h]
theorem zjz(vs:List D)(k:D):zjZ [] vs k=none:=by simp[zjZ,zw7]
open Classical in
theorem zhM(a v:D)(ks vs:List D)(k:D):zjZ (a::ks) (v::vs) k=if a=k then some v else zjZ ks vs k:=by
 unfold zjZ;rw[ziQ];by_cases h:a=k
 ·simp[h]
 ·simp only[h,if_false,wac,Nat.add_lt_add_iff_right,List.getElem?_cons_succ]
theorem zoz{ks vs:List D}{bs:List Nat}{c:Nat}{k v:D}(h:k∉ks):zgQ ks k=ks++[k]/\zjk ks vs k v=vs++[v]:=by
 have: ¬zeN ks k<ks.length:=fun h'=>h (zcO.1 h');simp[zgQ,zjk,this]
theorem zdt{ks:List D}{k:D}(h:k∉ks):zgQ ks k=ks++[k]:=(zoz (vs:=[]) (v:=k) (bs:=[]) (c:=0) h).1
theorem zdu{ks vs:List D}{k v:D}(h:k∉ks):zjk ks vs k v=vs++[v]:=(zoz (bs:=[]) (c:=0) h).2
def zhe(k:Int):Nat:=if k=4 then 1 else if k=5 then 1 else if k=7 then 1 else if k=8 then 2 else if k=6 then 3 else 0
def zbo(x:Item):List Expr:=[x.a,x.b,x.c].take (zhe x.kind.1)
theorem zuB(x:Item):FnP Tryz.prog 247 [.agg (zaK x)] (.d (zbF (zbo x))) []:=by
 refine FnP.of_eC (own:=[]) chL zat Tryz.func247 rfl Tryz.call247 Tryz.ntmps247 (zle rfl) Tryz.results247 (fun hok=> ?_);have i1:zgQ [] (D.lit (.int .i64 4))=[D.lit (.int .i64 4)]:=zdt (by simp);have i2:zgQ [D.lit (.int .i64 4)] (D.lit (.int .i64 5))=[D.lit (.int .i64 4),D.lit (.int .i64 5)]:=zdt (by simp);have i3:zgQ [D.lit (.int .i64 4),D.lit (.int .i64 5)] (D.lit (.int .i64 7))=[D.lit (.int .i64 4),D.lit (.int .i64 5),D.lit (.int .i64 7)]:=zdt (by simp);have i4:zgQ [D.lit (.int .i64 4),D.lit (.int .i64 5),D.lit (.int .i64 7)] (D.lit (.int .i64 8))=[D.lit (.int .i64 4),D.lit (.int .i64 5),D.lit (.int .i64 7),D.lit (.int .i64 8)]:=zdt (by simp);have i5:zgQ [D.lit (.int .i64 4),D.lit (.int .i64 5),D.lit (.int .i64 7),D.lit (.int .i64 8)] (D.lit (.int .i64 6))=[D.lit (.int .i64 4),D.lit (.int .i64 5),D.lit (.int .i64 7),D.lit (.int .i64 8),D.lit (.int .i64 6)]:=zdt (by simp);have j1: ∀v,zjk [] [] (D.lit (.int .i64 4)) v=[v]:=fun v=>zdu (by simp);have j2: ∀vs v,zjk [D.lit (.int .i64 4)] vs (D.lit (.int .i64 5)) v=vs++[v]:=fun vs v=>zdu (by simp);have j3: ∀vs v,zjk [D.lit (.int .i64 4),D.lit (.int .i64 5)] vs (D.lit (.int .i64 7)) v=vs++[v]:=fun vs v=>zdu (by simp);have j4: ∀vs v,zjk [D.lit (.int .i64 4),D.lit (.int .i64 5),D.lit (.int .i64 7)] vs (D.lit (.int .i64 8)) v=vs++[v]:=fun vs v=>zdu (by simp);have j5: ∀vs v,zjk [D.lit (.int .i64 4),D.lit (.int .i64 5),D.lit (.int .i64 7),D.lit (.int .i64 8)] vs (D.lit (.int .i64 6)) v=vs++[v]:=fun vs v=>zdu (by simp);have k4:zd3 Tryz.prog 3 (.lit (.int .i64 4)):=ziP rfl;have k5:zd3 Tryz.prog 3 (.lit (.int .i64 5)):=ziP rfl;have k6:zd3 Tryz.prog 3 (.lit (.int .i64 6)):=ziP rfl;have k7:zd3 Tryz.prog 3 (.lit (.int .i64 7)):=ziP rfl;have k8:zd3 Tryz.prog 3 (.lit (.int .i64 8)):=ziP rfl;have kx:zd3 Tryz.prog 3 (.lit (.int .i64 x.kind.1)):=ziP x.kind.2;have hm:(zjZ [D.lit (.int .i64 4),D.lit (.int .i64 5),D.lit (.int .i64 7),D.lit (.int .i64 8),D.lit (.int .i64 6)] [D.lit (.int .i64 1),D.lit (.int .i64 1),D.lit (.int .i64 1),D.lit (.int .i64 2),D.lit (.int .i64 3)] (D.lit (.int .i64 x.kind.1))).getD (.lit (.int .i64 0))= .lit (.int .i64 (zhe x.kind.1:Nat)):=by
  simp only[zhM,zjz,D.lit.injEq,Value.int.injEq,true_and,zhe,eq_comm (b:=x.kind.1)]
  repeat' split
  all_goals rfl
 have hle:zhe x.kind.1<=3:=by unfold zhe; (repeat' split) <;> omega
 simp only[ZE,seval,zN,i1,i2,i3,i4,i5,j1,j2,j3,j4,j5,zph,k4,k5,k6,k7,k8,kx,hm,or_imp,forall_and];refine⟨⟨by omega,by omega⟩,?_⟩;simp only[Nat.sub_zero,zbo,List.map_take,wad,List.map_nil,zb6,eI,eS]
mutual
def Expr.all:Expr->List Expr
 | .mk o n k w a=>.mk o n k w a::Expr.allL a
def Expr.allL:List Expr->List Expr
 | []=>[]
 | e::r=>Expr.all e++Expr.allL r
end
theorem Expr.all_eq(e:Expr):e.all=e::Expr.allL e.args:=by cases e; simp[Expr.all,Expr.args]
theorem zk3: ∀a b:List Expr,Expr.allL (a++b)=Expr.allL a++Expr.allL b
 | [],b=>by simp[Expr.allL]
 | e::a,b=>by simp[Expr.allL,zk3 a b]
theorem zgn(l:List Expr)(i:Nat)(h:i<l.length):Expr.allL (l.take (i+1))=Expr.allL (l.take i)++(l[i]::Expr.allL l[i].args):=by
 rw[wag h,zk3];simp[Expr.allL,Expr.all_eq]
theorem zhj(l:List Expr)(i:Nat):Expr.allL (l.take i)<+:Expr.allL l:=by
 conv=>rhs; rw[<-List.take_append_drop i l]
 rw[zk3];exact List.prefix_append _ _
def eA(e:Expr):List D:=[.agg (zbx e)]
theorem zeg(l:List Expr):FnP Tryz.prog 246 [zbF l] (.d (.clo (.func 277) [] [.ptr [zbF l]])) []:=by
 refine FnP.of_eC (own:=[]) chL zat Tryz.func246 rfl Tryz.call246 Tryz.ntmps246 (zle rfl) Tryz.results246 (fun hok=> ?_);simp only[ZE,seval]
theorem zwQ{e:Expr}(h:D.okL (zbx e)):(zbF e.args).ok :=by
 rw[zb6]at h;simp only[D.okL]at h;exact h.2.2.2.2.2.2.1
theorem ztT{α β:Type}{f:α->β}{l:List α}{pre:List β}{x:β}(h:pre++[x]<+:l.map f): ∃(k:Nat) (hk:k<l.length),pre=(l.take k).map f/\x=f l[k]:=by
 have h1:=List.prefix_iff_eq_take.1 h;have h2:=h.length_le;simp only[wab,wac,waf,waa]at h1 h2;have hk:pre.length<l.length:=by omega
 rw[<-List.map_take,Nat.zero_add,wag hk,wae]at h1;have h3:=List.append_inj' h1 (by simp);exact⟨pre.length,hk,h3.1,by simpa using h3.2⟩
theorem all_it: ∀(n:Nat) (l:List Expr) (hn:(Expr.allL l).length <n) (hok:(zbF l).ok),zoR Tryz.prog 277 [.ptr [zbF l]] (fun pre=>pre<+:(Expr.allL l).map eA) (fun xs=>xs=(Expr.allL l).map eA)
 | 0,l,hn,_=>by omega
 | n+1,l,hn,hok=>by
  intro lim fam stop yl hY;obtain⟨hl,hl2⟩:=za9 hok;have:=FnL.of_eC (P:=Tryz.prog) (args:=[.yv 0,.d (.ptr [zbF l])]) (os:=[(0,.ext lim fam stop yl [])]) (PL:=fun _ ol new=>(∃xs,xs=(Expr.allL l).map eA/\ol=[(0,.ext lim fam stop yl xs)]/\new=[])\/(ol=[(0,.ext lim (fun _=>stop) stop yl [])]/\new=[])) (own:=[]) chL [0] zat Tryz.func277 rfl Tryz.call277 Tryz.ntmps277 (zle rfl) Tryz.results277 ?_
  ·refine this.mono ?_;rintro V Oo new ⟨ol,rfl,⟨xs,h1,rfl,h2⟩ | ⟨rfl,h2⟩⟩
   ·exact .inl ⟨xs,h1,rfl,h2⟩
   ·exact .inr ⟨rfl,h2⟩
  simp only[ZE,seval];refine za1 chL zat l.length (fun i=>True) (fun i=>([(0,.yv 0),(2,.bp 2 0),(6,.d (zbF l)),(7,.d (eI l.length)),(8,.d (eI i))],[(2,.box [.yv 0]),(0,.ext lim fam stop yl ((Expr.allL (l.take i)).map eA))])) trivial ?_ ?_ (fun i hi hI=> ?_)
  ·simp only[ZE,seval]
  ·simp only[ZE,seval,List.take_zero,Expr.allL]
  rcases wal i l.length with h | h
  ·have hw:=zaq (show i<9223372036854775807 by omega);have hsz:(Expr.allL l[i].args).length <n:=by
    have h1:=(zhj l (i+1)).length_le;rw[zgn l i h,wab,wac]at h1;omega
   have hoke:=zwQ (hl2 l[i] (wah h));have hS:=zgn l i h;simp only[ZE,seval,zaw h,zaa h,zai h];have hp: ∀j,(Expr.allL (l.take i)).map eA++(eA l[i]::((Expr.allL l[i].args).take j).map eA)<+:(Expr.allL l).map eA:=fun j=>by
    have h1:=(zhj l (i+1)).map eA;rw[hS,wae,wad]at h1;refine List.IsPrefix.trans ?_ h1;refine(List.prefix_append_right_inj _).2 ?_;rw[List.cons_prefix_cons];exact⟨rfl,(List.take_prefix j _).map eA⟩
   have eA_eq: ∀e:Expr,[D.agg [D.lit (.int .i64 e.op),.lit (.string e.name.1),.lit (.int .i64 e.k.n),.lit (.string e.k.p.1),.lit (.int .i64 e.w.n),.lit (.string e.w.p.1),.sl (e.args.map zbx)]]=eA e:=fun e=>by simp only[eA,zb6,eI,eS]
   refine⟨_,hY,?_,?_,?_⟩
   ·rw[eA_eq]; exact hp 0
   ·simp only[ZE,seval,eA_eq];refine EFn.p ?_;simp only[ZE,seval];have hc:=zeg l[i].args;simp only[ZE,seval]at hc;refine zar.i hc ?_;clear hc;simp only[ZE,seval];refine zwU zat (fun _ _=>chL) rfl (by simp only[ZE,seval]) (all_it n l[i].args hsz hoke) (fun pre=>[(2,.box [.yv 0]),(0,.ext lim fam stop yl ((Expr.allL (l.take i)).map eA++[eA l[i]]++pre))]) (fun _=>True) trivial ?_ ?_ (fun pre x _ hA=> ?_) (fun xs hS _=> ?_)
    ·simp only[ZE,seval]
    ·simp only[ZE,seval]
    ·obtain⟨k,hk,rfl,rfl⟩:=ztT hA;have hp2:=hp (k+1);rw[wag hk,wae]at hp2;refine⟨rfl,?_⟩;simp only[ZE,seval,eA];refine⟨_,hY,?_,?_,?_⟩
     ·simp only[eA_eq];simpa only[wai,List.cons_append,List.nil_append,wad,List.map_nil]using hp2
     ·simp only[ZE,seval,wag hk,wae,eA,wai]
     ·simp only[ZE,seval];refine⟨[2,5],[],?_⟩;simp only[ZE,seval]
    ·subst hS;simp only[ZE,seval,hw,zgn l i h,wae,wad,wai];exact h
   ·simp only[ZE,seval];refine⟨[2,4],[],?_⟩;simp only[ZE,seval]
  ·have:i=l.length:=by omega
   subst this;simp only[ZE,seval,zaI h];refine⟨[2],[],?_⟩;simp only[ZE,seval];exact .inl ⟨_,rfl,by rw[List.take_length]⟩
theorem zrq{N:NP}{g:Operand}{ps:Array Tmp}{assign body:Code}{Q:EQ}{t:TL}{o:OL}(L:Nat->Nat->List Gh)(l:List Expr)(hok:(zbF l).ok)(htop:N.top=true)(hg:St.ev (tm t) g= .d (.clo (.func 277) [] [.ptr [zbF l]]))
  (O:Nat->OL) (I:Nat->Prop) (hI0:I 0) (h0:zwd (om o) (O 0)) (hps:psOk N.n (zeQ t) ps.toList) (hp1:ps.size=1)
  (hb: ∀k (hk:k<(Expr.allL l).length),I k->eC Tryz.prog ⟨N.n,zeQ t,false,N.own⟩ (L k) assign (zry (bodyX Tryz.prog ⟨N.n,zeQ t,false,N.own⟩ (L k) body t (O k) (O (k+1)) (I (k+1)) Q) noQ) (zve ps.toList (eA (Expr.allL l)[k]) t) (O k))
  (hd:I (Expr.allL l).length ->Q .normal t (O (Expr.allL l).length)):zrZ Tryz.prog N (.rangeFunc g ps assign body) Q t o:=by
 refine zwU zat (fun pre _=>L pre.length) htop hg (all_it _ l (Nat.lt_succ_self _) hok) (fun pre=>O pre.length) (fun pre=>I pre.length) hI0 h0 hps (fun pre x hi hA=> ?_) (fun xs hS hi=> ?_)
 ·obtain⟨k,hk,rfl,rfl⟩:=ztT hA;have hl:((Expr.allL l).take k).length =k:=by rw[List.length_take]; omega
  simp only[waa,wab,wac,waf,hl]at hi ⊢;exact⟨by rw[hp1]; rfl,hb k hk hi⟩
 ·subst hS;simp only[waa]at hi ⊢;exact hd hi
def zuO(e:Expr):Bool:= !(zmf e.op==(e.args.length:Int))
def zay(x:Item):Bool:=decide (x.kind.1<1)||decide (x.kind.1>9)||(Expr.allL (zbo x)).any zuO||((x.kind.1==4||x.kind.1==6)&&(decide (x.rule.kind<0)||decide (x.rule.kind>3)))
theorem zbK: ∀ {a b:List D},D.okL (a++b)->D.okL a/\D.okL b
 | [],_,h=>⟨by simp only[D.okL],h⟩
 | x::a,b,h=>by
  simp only[List.cons_append,D.okL]at h ⊢;obtain⟨h1,h2⟩:=zbK h.2;exact⟨⟨h.1,h1⟩,h2⟩
theorem zom{x:Item}(h:D.okL (zaK x)):D.okL (zbx x.a)/\D.okL (zbx x.b)/\D.okL (zbx x.c):=by
 simp only[zaK,D.okL]at h;have h1:=(zbK (zbK (zbK h.2.2).2).2).2;have h2:=zbK h1;have h3:=zbK h2.2;have h4:=zbK h3.2;exact⟨h2.1,h3.1,h4.1⟩
theorem zov{l:List (List D)}(h: ∀y∈l,D.okL y):D.okLL l:=by
 induction l with
 | nil=>simp only[D.okLL]
 | cons y r ih=>simp only[D.okLL]; exact⟨h y (by simp),ih fun z hz=>h z (by simp[hz])⟩
theorem zea{x:Item}(h:D.okL (zaK x)):(zbF (zbo x)).ok :=by
 obtain⟨h1,h2,h3⟩:=zom h;simp only[zbF,D.ok];refine⟨?_,zov fun y hy=> ?_⟩
 ·simp only[zbo,waa,List.length_take,wac,waf]; unfold maxLen; omega
 ·obtain⟨e,he,rfl⟩:=List.mem_map.1 hy;have:=List.mem_of_mem_take he;simp only[List.mem_cons,List.not_mem_nil,or_false]at this;rcases this with rfl | rfl | rfl <;> assumption
theorem zor(x:Item):FnP Tryz.prog 201 [.agg (zaK x)] (.d (eB (zay x))) []:=by
 refine FnP.of_eC (own:=[]) (fun i=>if i=2005 then [.chn,.ord ⟨[(0,none),(1,none),(2,none),(3,none),(4,none),(5,none),(6,none)]⟩]else chL i) zat Tryz.func201 rfl Tryz.call201 Tryz.ntmps201 (zle rfl) Tryz.results201 (fun hok=> ?_);have hx:D.okL (zaK x):=by simpa only[D.okL,D.ok,and_true]using hok
 simp only[ZE,seval,zN];refine zd8 (fun h=> ?_) (fun h=> ?_)
 ·simp only[zay,h,Bool.true_or]
 have uc:=zuB x;simp only[ZE,seval]at uc;refine EFn.p ?_;simp only[ZE,seval];refine zar.i uc ?_;simp only[ZE,seval];refine EFn.p ?_;simp only[ZE,seval];have hc:=zeg (zbo x);simp only[ZE,seval]at hc;refine zar.i hc ?_;clear hc;simp only[ZE,seval];refine zrq (fun _ i=>if i=2005 then [.chn,.ord ⟨[(0,none),(1,none),(2,none),(3,none),(4,none),(5,none),(6,none)]⟩]else chL i) (zbo x) (zea hx) rfl (by simp only[ZE,seval]) (fun _=>[(2,.box [.d (eB false)]),(1,.box ((zaK x).map .d))]) (fun k=> ∀e∈(Expr.allL (zbo x)).take k,zuO e=false) (by simp) ?_ ?_ rfl (fun k hk hI=> ?_) (fun hI=> ?_)
 ·simp only[ZE,seval]
 ·simp only[ZE,seval]
 ·simp only[ZE,seval,eA];refine⟨by kernel_rfl,?_⟩;have hc:=arity_c (Expr.allL (zbo x))[k].op;simp only[ZE,seval]at hc;refine za3.i (fun _=>hc) ?_;simp only[ZE,seval];refine zd8 (fun hb=> ?_) (fun hb e he=> ?_)
  ·have:(Expr.allL (zbo x)).any zuO=true:=List.any_eq_true.2 ⟨_,wah hk,by simpa only[zuO,bne]using hb⟩;simp only[zay,this,Bool.or_true,Bool.true_or]
  ·rw[wag hk,List.mem_append,List.mem_singleton]at he;rcases he with he | rfl
   ·exact hI e he
   ·simpa only[zuO,bne]using hb
 ·simp only[ZE,seval];have:(Expr.allL (zbo x)).any zuO=false:=List.any_eq_false.2 fun e he=>by
   rw[hI e (by rw[List.take_length]; exact he)]; simp
  simp only[zay,h,this,Bool.false_or]
def get{α:Type}(l:List (Str×α))(s:Str):Option α:=(l.find? fun p=>decide (p.1=s)).map (·.2)
def sK{α:Type}(l:List (Str×α)):List D:=l.map fun p=>.lit (.string p.1.1)
def sV{α:Type}(f:α->D)(l:List (Str×α)):List D:=l.map fun p=>f p.2
def sMp{α:Type}(f:α->D)(l:List (Str×α)):D:=.mp (sK l) (sV f l) (List.range l.length) l.length
theorem str_ne{s t:Str}(h:s≠t):(D.lit (.string s.1))≠ .lit (.string t.1):=by
 intro e;simp only[D.lit.injEq,Value.string.injEq]at e;exact h (Subtype.ext e)
theorem zak{α:Type}(f:α->D): ∀(l:List (Str×α)) (s:Str),zjZ (sK l) (sV f l) (.lit (.string s.1))=(get l s).map f
 | [],s=>by simp[sK,sV,get,zjz]
 | (n,x)::l,s=>by
  have ih:=zak f l s;simp only[sK,sV,get,wad]at ih ⊢;rw[zhM,List.find?_cons];by_cases h:n=s
  ·subst h; simp
  ·rw[if_neg (str_ne h),ih];simp[h]
theorem zlg{α:Type}{l:List (Str×α)}{s:Str}:get l s=none↔(D.lit (.string s.1))∉sK l:=by
 unfold get sK;rw[Option.map_eq_none_iff,List.find?_eq_none];constructor
 ·intro h hm;obtain⟨p,hp,e⟩:=List.mem_map.1 hm;simp only[D.lit.injEq,Value.string.injEq]at e;exact h p hp (by simpa using Subtype.ext e)
 ·intro h p hp e;exact h (List.mem_map.2 ⟨p,hp,by rw[of_decide_eq_true e]⟩)
theorem zcr{α:Type}(l:List (Str×α)): ∀y∈sK l,zd3 Tryz.prog 9 y:=by
 intro y hy;obtain⟨p,_,rfl⟩:=List.mem_map.1 hy;exact zaj p.1
theorem zqH{α:Type}(f:α->D){l:List (Str×α)}{s:Str}{x:α}(h:get l s=none):zgQ (sK l) (.lit (.string s.1))=sK (l++[(s,x)])/\zjk (sK l) (sV f l) (.lit (.string s.1)) (f x)=sV f (l++[(s,x)])/\
  zjs (sK l) (List.range l.length) l.length (.lit (.string s.1))=List.range (l++[(s,x)]).length /\zjT (sK l) l.length (.lit (.string s.1))=(l++[(s,x)]).length :=by
 have hn:=zlg.1 h;have: ¬zeN (sK l) (.lit (.string s.1))<(sK l).length :=fun h'=>hn (zcO.1 h');refine⟨by rw[zdt hn]; simp[sK],by rw[zdu hn]; simp[sV],?_,?_⟩
 ·simp only[zjs,if_neg this,wab,wac,waf,Nat.zero_add,List.range_succ]
 ·simp only[zjT,if_neg this,wab,wac,waf,Nat.zero_add]
theorem zxw{α:Type}(f:α->D){l:List (Str×α)}{s:Str}{x:α}(h:get l s=some x):zgQ (sK l) (.lit (.string s.1))=sK l/\zjk (sK l) (sV f l) (.lit (.string s.1)) (f x)=sV f l/\
  zjs (sK l) (List.range l.length) l.length (.lit (.string s.1))=List.range l.length/\zjT (sK l) l.length (.lit (.string s.1))=l.length:=by
 have hm:(D.lit (.string s.1))∈sK l:=by
  by_cases hm:(D.lit (.string s.1))∈sK l
  ·exact hm
  ·rw[zlg.2 hm]at h; cases h
 have hlt:=zcO.2 hm;have hg:=zak f l s;rw[h,zjZ,if_pos hlt]at hg;refine⟨by simp only[zgQ,if_pos hlt],?_,by simp only[zjs,if_pos hlt],by simp only[zjT,if_pos hlt]⟩;simp only[zjk,if_pos hlt];simp only[Option.map_some]at hg;obtain⟨hi,he⟩:=List.getElem?_eq_some_iff.1 hg;rw[<-he,List.set_getElem_self]
def tk(l:List Str):List (Str×Bool):=l.map fun n=>(n,true)
theorem zo9(s:Str): ∀l:List Str,get (tk l) s=if has l s=true then some true else none
 | []=>rfl
 | n::l=>by
  have ih:=zo9 s l;simp only[get,tk,has,wad,List.find?_cons,List.any_cons,Bool.or_eq_true]at ih ⊢;by_cases h:n=s
  ·subst h; simp
  ·have h': ¬s=n:=fun e=>h e.symm;simp only[h,decide_false,h',Bool.false_eq_true,false_or];exact ih
def emp:Str:=⟨waj,by decide⟩
def zbj:Num:=⟨0,emp⟩
def zbQ:Expr:=.mk 0 emp zbj zbj []
def zaU:Item:=⟨⟨0,rfl⟩,emp,zbj,zbj,zbj,zbQ,zbQ,zbQ,⟨0,emp,0⟩,emp,[],[]⟩
def zdP:Module:=⟨emp,emp,[],[]⟩
def eIt(x:Item):D:=.agg (zaK x)
def zcf(acc:List (Str×Item))(x:Item):List (Str×Item):=if (zaW x.kind.1&&(get acc x.name).isNone)=true then acc++[(x.name,x)]else acc
def zbG(l:List Item):List (Str×Item):=l.foldl zcf []
def zbT(acc:List Str)(x:Item):List Str:=if (x.kind.1==7&& !has acc x.name)=true then acc++[x.name]else acc
def zbz(l:List Item):List Str:=l.foldl zbT []
theorem zoe(l:List Item)(i:Nat)(h:i<l.length):zbG (l.take (i+1))=zcf (zbG (l.take i)) l[i]:=by
 rw[wag h,zbG,List.foldl_append]; rfl
theorem zoO(l:List Item)(i:Nat)(h:i<l.length):zbz (l.take (i+1))=zbT (zbz (l.take i)) l[i]:=by
 rw[wag h,zbz,List.foldl_append]; rfl
def zaf(m:Module):List D:=[eS m.name,eS m.clock,zd5 m.params,zbR m.items,sMp eIt (zbG m.items),sMp eB (tk (zbz m.items))]
theorem zfu:D.agg [D.lit (.int .i64 0),D.lit (.string waj),D.lit (.int .i64 0),D.lit (.string waj),D.lit (.int .i64 0),D.lit (.string waj),D.lit (.int .i64 0),D.lit (.string waj),D.lit (.int .i64 0),D.lit (.string waj),D.lit (.int .i64 0),D.lit (.string waj),D.lit (.int .i64 0),D.lit (.string waj),D.sl [],D.lit (.int .i64 0),D.lit (.string waj),D.lit (.int .i64 0),D.lit (.string waj),D.lit (.int .i64 0),D.lit (.string waj),D.sl [],D.lit (.int .i64 0),D.lit (.string waj),D.lit (.int .i64 0),D.lit (.string waj),D.lit (.int .i64 0),D.lit (.string waj),D.sl [],D.lit (.int .i64 0),D.lit (.string waj),D.lit (.int .i64 0),D.lit (.string waj),D.sl [],D.sl []]=eIt zaU:=rfl
theorem zfg(o:Option Item):(o.map eIt).getD (eIt zaU)= .agg (zaK (o.getD zaU)):=by cases o <;> rfl
theorem zxG(m:Module):FnP Tryz.prog 148 [.agg (zaC m)] (.d (.agg (zaf m))) []:=by
 refine FnP.of_eC (own:=[]) chL zat Tryz.func148 rfl Tryz.call148 Tryz.ntmps148 (zle rfl) Tryz.results148 (fun hok=> ?_);have hl:m.items.length<=9223372036854775807:=by
  have:D.okL (zaC m):=by simpa only[D.okL,D.ok,and_true]using hok
  simp only[zaC,D.okL]at this;exact(za9 this.2.2.2.1).1
 simp only[ZE,seval,zN];refine za1 chL zat m.items.length (fun i=>True) (fun i=>([(2,.bp 2 0),(3,.bp 3 0),(13,.d (zbR m.items)),(14,.d (eI m.items.length)),(15,.d (eI i))],
  [(3,.box [.d (eS m.name),.d (eS m.clock),.d (zd5 m.params),.d (zbR m.items),.mo 9,.mo 10]),(9,.map (sK (zbG (m.items.take i))) (sV eIt (zbG (m.items.take i))) (List.range (zbG (m.items.take i)).length) (zbG (m.items.take i)).length),
   (10,.map (sK (tk (zbz (m.items.take i)))) (sV eB (tk (zbz (m.items.take i)))) (List.range (tk (zbz (m.items.take i))).length) (tk (zbz (m.items.take i))).length),
   (2,.box [.d (eS emp),.d (eS emp),.nils,.nils,.d (.lit (.map none)),.d (.lit (.map none))])])) trivial ?_ ?_ (fun i hi _=> ?_)
 ·simp only[ZE,seval]
 ·simp only[ZE,seval];exact⟨rfl,rfl,rfl⟩
 rcases wal i m.items.length with h | h
 ·have hw:=zaq (show i<9223372036854775807 by omega);simp only[ZE,seval,zaw h,zaa h,zai h,zak,zal,zaj,zfu,zfg,zcr,Option.isSome_map];refine⟨fun y hy=>zcr _ y hy,?_⟩;have hc:=zgV m.items[i].kind.1;simp only[ZE,seval]at hc;refine EFn.p ?_;simp only[ZE,seval];refine zar.i hc ?_;simp only[ZE,seval,hw,zal,zaj];obtain⟨r,hr⟩:=zX (eIt m.items[i]);have hr':=hr;simp only[eIt,ZE,seval]at hr';simp only[hr',zoe _ _ h,zoO _ _ h];rw[<-hr];have zkl: ∀ {a a':List D} {b b':List D} {c c':List Nat} {d d':Nat},a=a'/\b=b'/\c=c'/\d=d'->AO.map a b c d=AO.map a' b' c' d':=fun⟨h1,h2,h3,h4⟩=>by rw[h1,h2,h3,h4]
  have t7:(m.items[i].kind.1 ==7)=true->AO.map (zgQ (sK (tk (zbz (m.items.take i)))) (.lit (.string m.items[i].name.1))) (zjk (sK (tk (zbz (m.items.take i)))) (sV eB (tk (zbz (m.items.take i)))) (.lit (.string m.items[i].name.1)) (.lit (.bool true)))
    (zjs (sK (tk (zbz (m.items.take i)))) (List.range (tk (zbz (m.items.take i))).length) (tk (zbz (m.items.take i))).length (.lit (.string m.items[i].name.1))) (zjT (sK (tk (zbz (m.items.take i)))) (tk (zbz (m.items.take i))).length (.lit (.string m.items[i].name.1)))=
    AO.map (sK (tk (zbT (zbz (m.items.take i)) m.items[i]))) (sV eB (tk (zbT (zbz (m.items.take i)) m.items[i]))) (List.range (tk (zbT (zbz (m.items.take i)) m.items[i])).length) (tk (zbT (zbz (m.items.take i)) m.items[i])).length :=fun h7=>by
   have hg:=zo9 m.items[i].name (zbz (m.items.take i));by_cases hh:has (zbz (m.items.take i)) m.items[i].name =true
   ·rw[if_pos hh]at hg;have e:zbT (zbz (m.items.take i)) m.items[i]=zbz (m.items.take i):=(by simp[zbT,hh]);rw[e];exact zkl (zxw eB hg)
   ·rw[if_neg hh]at hg;have e:zbT (zbz (m.items.take i)) m.items[i]=zbz (m.items.take i)++[m.items[i].name]:=(by simp[zbT,hh,h7]);rw[e];have:=zkl (zqH eB (x:=true) hg);simpa only[tk,wae,wad,List.map_nil,eB]using this
  have n7:(m.items[i].kind.1 ==7)=false->zbT (zbz (m.items.take i)) m.items[i]=zbz (m.items.take i):=fun h7=>by simp[zbT,h7]
  refine zd8 (fun h1=> ?_) (fun h1=> ?_)
  ·have hg:get (zbG (m.items.take i)) m.items[i].name =none:=by
    have:=(wam _ _▸h1:_/\_).2;simpa using this
   have e:zcf (zbG (m.items.take i)) m.items[i]=zbG (m.items.take i)++[(m.items[i].name,m.items[i])]:=by
    unfold zcf; rw[if_pos]; simpa [hg]using h1
   refine⟨fun y hy=>zcr _ y hy,zd8 (fun h7=>⟨fun y hy=>zcr _ y hy,h,?_,t7 h7⟩) (fun h7=>⟨h,?_,by rw[n7 h7]⟩)⟩
   all_goals rw[e]; exact zkl (zqH eIt hg)
  ·have e:zcf (zbG (m.items.take i)) m.items[i]=zbG (m.items.take i):=by
    unfold zcf;rw[if_neg];intro h2;rw[wam]at h2;rw[h2.1,Bool.true_and]at h1;cases hg:get (zbG (m.items.take i)) m.items[i].name with
    | none=>rw[hg]at h1; cases h1
    | some y=>rw[hg]at h2; cases h2.2
   refine zd8 (fun h7=>⟨fun y hy=>zcr _ y hy,h,by rw[e],t7 h7⟩) (fun h7=>⟨h,by rw[e],by rw[n7 h7]⟩)
 ·have:i=m.items.length:=by omega
  subst this;simp only[ZE,seval,zaI h,List.take_length,zaf,sMp]
def zgM{α:Type}(p:α->Bool)(l:List α):Int:=match l.findIdx? p with | some i=>(i:Int) | none=> -1
theorem zeP{α:Type}{p:α->Bool}{l:List α}{i:Nat}(h:i<l.length)(hx:p l[i]=true)(hn: ∀j (_:j<i) (hj:j<l.length),p l[j]=false):zgM p l=i:=by
 unfold zgM;have:l.findIdx? p=some i:=by
  rw[List.findIdx?_eq_some_iff_getElem];exact⟨h,hx,fun j hj=>by rw[hn j hj (by omega)]; simp⟩
 rw[this]
theorem zeO{α:Type}{p:α->Bool}{l:List α}(hn: ∀j (hj:j<l.length),p l[j]=false):zgM p l= -1:=by
 unfold zgM;have:l.findIdx? p=none:=by
  rw[List.findIdx?_eq_none_iff];intro y hy;obtain⟨j,hj,rfl⟩:=List.getElem_of_mem hy;exact hn j hj
 rw[this]
theorem zf0{α:Type}(p:α->Bool)(l:List α):decide (zgM p l>=0)=l.any p:=by
 rw[wan,List.any_eq_true,decide_eq_true_eq];unfold zgM;split
 ·rename_i i h;rw[List.findIdx?_eq_some_iff_getElem]at h;obtain⟨h1,h2,_⟩:=h;have: ∃x,x∈l/\p x=true:=⟨_,wah h1,h2⟩;simp[this]
 ·rename_i h;rw[List.findIdx?_eq_none_iff]at h;have: ¬ ∃x,x∈l/\p x=true:=fun⟨x,h1,h2⟩=>by rw[h x h1]at h2; cases h2
  simp[this]
theorem zw0{α:Type}(p:α->Bool)(l:List α):zgM p l<(l.length:Int):=by
 unfold zgM;split
 ·rename_i i hi;have:=(List.findIdx?_eq_some_iff_findIdx_eq.1 hi).1;omega
 ·omega
theorem zdi{n:Nat}(h:n<=9223372036854775807):(Lit.int .i64 (n:Int)).wf =true:=by
 simp only[Lit.wf,wam,decide_eq_true_eq];have h1:IntKind.i64.min= -9223372036854775808:=by decide
 have h2:IntKind.i64.max=9223372036854775807:=by decide
 rw[h1,h2];omega
def st(s:List UInt8)(h:s.length<=100:=by decide):Str:=⟨⟨s.toArray⟩,by
 have:(⟨s.toArray⟩:ByteArray).size =s.length:=by simp[ByteArray.size]
 rw[this]; unfold maxLen; omega⟩
def zaR(l:List Nat)(i:Nat):Nat:=if l.length=0 then 0 else l.getD (i % l.length) 0
theorem zgo{l:List Nat}(h: ∀b∈l,b<256)(i:Nat):zaR l i<256:=by
 unfold zaR;split
 ·omega
 ·have hl:i % l.length<l.length:=Nat.mod_lt _ (by omega);have:l.getD (i % l.length) 0=l[i % l.length]:=by simp[List.getD,hl]
  rw[this];exact h _ (wah hl)
theorem zwB(l:List Nat)(i:Nat)(hb: ∀b∈l,b<256)(hi:i<4611686018427387904):FnP Tryz.prog 164 [zau l,eI i] (.d (eI (zaR l i))) []:=by
 refine FnP.of_eC (own:=[]) (fun _=>[]) zat Tryz.func164 rfl Tryz.call164 Tryz.ntmps164 (zle rfl) Tryz.results164 (fun hok=> ?_);have hl:l.length<=9223372036854775807:=(za9 (zaM hok).1).1;by_cases h:l.length=0
 ·have h':((l.length:Int)==0)=true:=by simpa using h
  simp only[ZE,seval,h',zN,zaR,if_pos h]
 ·have h':((l.length:Int)==0)=false:=by simpa using h
  have ht:(i:Int).tmod (l.length:Int)=((i % l.length:Nat):Int):=(Int.ofNat_tmod i l.length).symm;have hm:i % l.length<l.length:=Nat.mod_lt _ (by omega);have hbl:zaR l i=l[i % l.length]:=by rw[zaR,if_neg h]; simp[List.getD,hm]
  have hlt:=hb _ (wah hm);have hw:IntKind.i64.wrap (l[i % l.length]:Int)=(l[i % l.length]:Int):=zaQ (by omega) (by omega);have h0: ¬(l.length:Int)=0:=by omega
  simp only[ZE,seval,h',zN,ht,wak,zaa hm,zai hm,hw,hbl,h0]
def zmH(l:List Nat)(ns:List Str)(w:Num)(a:Nat):Expr:=
 if zaR l a % 2=0 then .mk 14 (ns.getD (zaR l a / 8 % ns.length) emp) zbj zbj []else .mk 1 emp ⟨(zaR l a / 8 % 2:Nat),emp⟩ w []
def zfa(x y:Expr)(b:Nat):Expr:=
 if b % 4=0 then .mk 8 emp zbj zbj [x,y]else if b % 4=1 then .mk 9 emp zbj zbj [x,y]else if b % 4=2 then .mk 12 emp zbj ⟨1,emp⟩ [x]else .mk 1 emp ⟨1,emp⟩ ⟨1,emp⟩ []
def ziW(x y c:Expr)(b:Nat):Expr:=
 if b / 8 % 7=0 then .mk 2 emp zbj zbj [x]else if b / 8 % 7=1 then .mk 3 emp zbj zbj [x,y]else if b / 8 % 7=2 then .mk 4 emp zbj zbj [x,y]else if b / 8 % 7=3 then .mk 5 emp zbj zbj [x,y]
 else if b / 8 % 7=4 then .mk 6 emp zbj zbj [x,y]else if b / 8 % 7=5 then .mk 7 emp zbj zbj [x,y]else .mk 10 emp zbj zbj [c,x,y]
def gen(l:List Nat)(ns:List Str)(w:Num):Nat->Nat->Expr
 | 0,a=>zmH l ns w a
 | d+1,a=>if zaR l a % 8<3 then zmH l ns w a else
  ziW (gen l ns w d (3*a+1)) (gen l ns w d (3*a+2)) (zfa (gen l ns w d (3*a+4)) (zmH l ns w (3*a+5)) (zaR l (3*a+3))) (zaR l a)
def cond(l:List Nat)(ns:List Str)(w:Num)(d a:Nat):Expr:=zfa (gen l ns w d (a+1)) (zmH l ns w (a+2)) (zaR l a)
def zhW(ns:List Str)(w:Num):D:=.agg [zd5 ns,eI w.n,eS w.p]
def eAt(a d:Int):D:=.agg [eI a,eI d]
theorem ziL(l:List Nat)(ns:List Str)(w:Num)(hb: ∀b∈l,b<256)(hn:0<ns.length)(hn2:ns.length<=1000)(a:Nat)(ha:a<=1000000):FnP Tryz.prog 106 [zau l,eAt a 0,zhW ns w] (.d (.agg (zbx (gen l ns w 0 a)))) []:=by
 refine FnP.of_eC (own:=[]) (fun i=>if i=2004 then [.chn,.ord ⟨[(0,none),(1,none),(2,none),(3,none),(4,none),(5,none),(6,none),(7,none),(8,none),(9,none),(10,none),(11,some [])]⟩]else chL i) zat Tryz.func106 rfl Tryz.call106 Tryz.ntmps106 (zle rfl) Tryz.results106 (fun hok=> ?_);have ac:=zwB l a hb (by omega);have hB:=zgo hb a;obtain⟨b,hbb⟩:=zX (zaR l a);rw[hbb]at ac hB;simp only[ZE,seval]at ac;have hm:((b:Int).tmod 2==0)=decide (b % 2=0):=by
  rw[show((b:Int).tmod 2)=((b % 2:Nat):Int)from(Int.ofNat_tmod b 2).symm,wan]; simp; omega
 have hq:(b:Int).tdiv 8=((b / 8:Nat):Int):=(Int.ofNat_tdiv b 8).symm;have hwq:IntKind.i64.wrap ((b / 8:Nat):Int)=((b / 8:Nat):Int):=zaQ (by omega) (by omega);have hr:((b / 8:Nat):Int).tmod (ns.length:Int)=((b / 8 % ns.length:Nat):Int):=(Int.ofNat_tmod _ _).symm;have hr2:((b / 8:Nat):Int).tmod 2=((b / 8 % 2:Nat):Int):=(Int.ofNat_tmod _ _).symm;have hlt:b / 8 % ns.length<ns.length:=Nat.mod_lt _ hn;have hgt:decide ((ns.length:Int)>0)=true:=by simp; omega
 have hne: ¬(ns.length:Int)=0:=by omega
 have hL:gen l ns w 0 a=zmH l ns w a:=rfl;rw[hL,zmH,hbb];simp only[ZE,seval,eAt,zhW,zN];refine EFn.p ?_;simp only[ZE,seval];refine zar.i ac ?_;by_cases he:b % 2=0
 ·have hg:ns.getD (b / 8 % ns.length) emp=ns[b / 8 % ns.length]:=by simp[List.getD,hlt]
  rw[if_pos he,hg];simp only[ZE,seval,zN,hm,he,decide_true,hgt,hq,hr,hne,hwq,zai hlt,zaa hlt,wak,Expr.op,Expr.name,Expr.k,Expr.w,Expr.args,zbj,emp,not_false_eq_true];show ordB _ _ _=true;kernel_rfl
 ·rw[if_neg he];simp only[ZE,seval,zN,hm,he,decide_false,hgt,hq,hwq,hr2,Expr.op,Expr.name,Expr.k,Expr.w,Expr.args,zbj,emp,not_false_eq_true]
theorem cond_c(l:List Nat)(ns:List Str)(w:Num)(hb: ∀b∈l,b<256)(d a:Nat)(ha:a<=1000000)
  (i1:FnP Tryz.prog 106 [zau l,eAt ((a+1:Nat):Int) d,zhW ns w] (.d (.agg (zbx (gen l ns w d (a+1))))) [])
  (i2:FnP Tryz.prog 106 [zau l,eAt ((a+2:Nat):Int) 0,zhW ns w] (.d (.agg (zbx (gen l ns w 0 (a+2))))) []):
  FnP Tryz.prog 166 [zau l,eAt a d,zhW ns w] (.d (.agg (zbx (cond l ns w d a)))) []:=by
 refine FnP.of_eC (own:=[]) (fun i=>if i=2001 then [.flt ⟨[(0,none),(1,none),(2,none),(3,none),(4,none),(5,none),(6,none),(7,none),(8,none),(9,none),(10,none),(11,none),(12,none),(13,none),(14,none),(15,none),(18,some []),(19,some [])]⟩ ⟨[16,17],[(18,[16]),(19,[17])]⟩]else chL i) zat Tryz.func166 rfl Tryz.call166 Tryz.ntmps166 (zle rfl) Tryz.results166 (fun hok=> ?_);have ac:=zwB l a hb (by omega);have hB:=zgo hb a;obtain⟨b,hbb⟩:=zX (zaR l a);rw[hbb]at ac hB;obtain⟨x,hx⟩:=zX (gen l ns w d (a+1));obtain⟨y,hy⟩:=zX (zmH l ns w (a+2));have hy':gen l ns w 0 (a+2)=y:=hy;rw[cond,hbb,hx,hy];rw[hx]at i1;rw[hy']at i2;have w1:IntKind.i64.wrap ((a:Int)+1)=((a+1:Nat):Int):=by rw[<-Int.natCast_succ]; exact zaQ (by omega) (by omega)
 have w2:IntKind.i64.wrap ((a:Int)+2)=((a+2:Nat):Int):=zaQ (by omega) (by omega);have hm:(b:Int).tmod 4=((b % 4:Nat):Int):=(Int.ofNat_tmod b 4).symm;simp only[ZE,seval,eAt,zhW]at ac i1 i2;simp only[ZE,seval,eAt,zhW,zN,w1,w2];refine⟨by kernel_rfl,zaz.i i1 ?_⟩;simp only[ZE,seval,eAt,zhW,zN,w1,w2];refine zaz.i i2 ?_;simp only[ZE,seval,eAt,zhW,zN,w1,w2];refine EFn.p ?_;simp only[ZE,seval];refine zar.i ac ?_;by_cases b0:b % 4=0
 ·have h0:(((b % 4:Nat):Int)==0)=true:=by simp[b0]
  rw[zfa,if_pos b0];simp only[ZE,seval,zN,hm,h0,Expr.op,Expr.name,Expr.k,Expr.w,Expr.args,zbj,emp,not_false_eq_true]
 have h0:(((b % 4:Nat):Int)==0)=false:=by simp; omega
 by_cases b1:b % 4=1
 ·have h1:(((b % 4:Nat):Int)==1)=true:=by simp[b1]
  rw[zfa,if_neg b0,if_pos b1];simp only[ZE,seval,zN,hm,h0,h1,Expr.op,Expr.name,Expr.k,Expr.w,Expr.args,zbj,emp,not_false_eq_true]
 have h1:(((b % 4:Nat):Int)==1)=false:=by simp; omega
 by_cases b2:b % 4=2
 ·have h2:(((b % 4:Nat):Int)==2)=true:=by simp[b2]
  rw[zfa,if_neg b0,if_neg b1,if_pos b2];simp only[ZE,seval,zN,hm,h0,h1,h2,Expr.op,Expr.name,Expr.k,Expr.w,Expr.args,zbj,emp,not_false_eq_true]
 have h2:(((b % 4:Nat):Int)==2)=false:=by simp; omega
 rw[zfa,if_neg b0,if_neg b1,if_neg b2];simp only[ZE,seval,zN,hm,h0,h1,h2,Expr.op,Expr.name,Expr.k,Expr.w,Expr.args,zbj,emp,not_false_eq_true]
theorem genS_c(l:List Nat)(ns:List Str)(w:Num)(hb: ∀b∈l,b<256)(hn:0<ns.length)(hn2:ns.length<=1000)(d a:Nat)(hd:d<=100)(ha:a<=100000)
  (i1:FnP Tryz.prog 106 [zau l,eAt ((3*a+1:Nat):Int) d,zhW ns w] (.d (.agg (zbx (gen l ns w d (3*a+1))))) [])
  (i2:FnP Tryz.prog 106 [zau l,eAt ((3*a+2:Nat):Int) d,zhW ns w] (.d (.agg (zbx (gen l ns w d (3*a+2))))) [])
  (i3:FnP Tryz.prog 166 [zau l,eAt ((3*a+3:Nat):Int) d,zhW ns w] (.d (.agg (zbx (cond l ns w d (3*a+3))))) []):
  FnP Tryz.prog 106 [zau l,eAt a ((d+1:Nat):Int),zhW ns w] (.d (.agg (zbx (gen l ns w (d+1) a)))) []:=by
 refine FnP.of_eC (own:=[]) (fun i=>if i=2004 then [.chn,.ord ⟨[(0,none),(1,none),(2,none),(3,none),(4,none),(5,none),(6,none),(7,none),(8,none),(9,none),(10,none),(11,some [])]⟩]else if i=2021 then [.ord ⟨[(0,none),(1,none),(2,none),(3,none),(4,none),(5,none),(6,none),(7,none),(8,none),(9,none),(10,none),(11,none),(12,none),(13,none),(14,none),(15,some [])]⟩]else chL i) zat Tryz.func106 rfl Tryz.call106 Tryz.ntmps106 (zle rfl) Tryz.results106 (fun hok=> ?_);have ac:=zwB l a hb (by omega);have hB:=zgo hb a;have hgen:gen l ns w (d+1) a=if zaR l a % 8<3 then zmH l ns w a else ziW (gen l ns w d (3*a+1)) (gen l ns w d (3*a+2)) (cond l ns w d (3*a+3)) (zaR l a):=rfl
 obtain⟨b,hbb⟩:=zX (zaR l a);obtain⟨x,hx⟩:=zX (gen l ns w d (3*a+1));obtain⟨y,hy⟩:=zX (gen l ns w d (3*a+2));obtain⟨z,hz⟩:=zX (cond l ns w d (3*a+3));rw[hx,hy,hz,hbb]at hgen;rw[hgen];rw[hx]at i1;rw[hy]at i2;rw[hz]at i3;rw[hbb]at ac hB;have hm:((b:Int).tmod 2==0)=decide (b % 2=0):=by
  rw[show((b:Int).tmod 2)=((b % 2:Nat):Int)from(Int.ofNat_tmod b 2).symm,wan]; simp; omega
 have hm8:decide ((b:Int).tmod 8<3)=decide (b % 8<3):=by
  rw[show((b:Int).tmod 8)=((b % 8:Nat):Int)from(Int.ofNat_tmod b 8).symm,wan]; simp; omega
 have hq:(b:Int).tdiv 8=((b / 8:Nat):Int):=(Int.ofNat_tdiv b 8).symm;have hwq:IntKind.i64.wrap ((b / 8:Nat):Int)=((b / 8:Nat):Int):=zaQ (by omega) (by omega);have hr:((b / 8:Nat):Int).tmod (ns.length:Int)=((b / 8 % ns.length:Nat):Int):=(Int.ofNat_tmod _ _).symm;have hr2:((b / 8:Nat):Int).tmod 2=((b / 8 % 2:Nat):Int):=(Int.ofNat_tmod _ _).symm;have hr7:((b / 8:Nat):Int).tmod 7=((b / 8 % 7:Nat):Int):=(Int.ofNat_tmod _ _).symm;have hlt:b / 8 % ns.length<ns.length:=Nat.mod_lt _ hn;have hgt:decide ((ns.length:Int)>0)=true:=by simp; omega
 have hne: ¬(ns.length:Int)=0:=by omega
 have w3:IntKind.i64.wrap (3*(a:Int))=((3*a:Nat):Int):=zaQ (by omega) (by omega);have w1:IntKind.i64.wrap (((3*a:Nat):Int)+1)=((3*a+1:Nat):Int):=zaQ (by omega) (by omega);have w2:IntKind.i64.wrap (((3*a:Nat):Int)+2)=((3*a+2:Nat):Int):=zaQ (by omega) (by omega);have w4:IntKind.i64.wrap (((3*a:Nat):Int)+3)=((3*a+3:Nat):Int):=zaQ (by omega) (by omega);have wd:IntKind.i64.wrap (((d+1:Nat):Int)-1)=(d:Int):=by rw[show((d+1:Nat):Int)-1=(d:Int) by omega]; exact zaQ (by omega) (by omega)
 have hd0:(((d+1:Nat):Int)==0)=false:=by simp; omega
 simp only[ZE,seval,eAt,zhW]at ac i1 i2 i3;simp only[ZE,seval,eAt,zhW,zN];refine EFn.p ?_;simp only[ZE,seval];refine zar.i ac ?_;by_cases h8:b % 8<3
 ·rw[if_pos h8,zmH,hbb];by_cases he:b % 2=0
  ·have hg:ns.getD (b / 8 % ns.length) emp=ns[b / 8 % ns.length]:=by simp[List.getD,hlt]
   rw[if_pos he,hg];simp only[ZE,seval,zN,hd0,hm8,h8,hm,he,decide_true,hgt,hq,hr,hne,hwq,zai hlt,zaa hlt,wak,Expr.op,Expr.name,Expr.k,Expr.w,Expr.args,zbj,emp,not_false_eq_true];show ordB _ _ _=true;kernel_rfl
  ·rw[if_neg he];simp only[ZE,seval,zN,hd0,hm8,h8,hm,he,decide_true,decide_false,hgt,hq,hwq,hr2,Expr.op,Expr.name,Expr.k,Expr.w,Expr.args,zbj,emp,not_false_eq_true]
 ·rw[if_neg h8];simp only[ZE,seval,zN,hd0,hm8,h8,decide_false,w3,w1,wd,not_false_eq_true];refine EFn.p ?_;simp only[ZE,seval];refine zar.i i1 ?_;simp only[ZE,seval,zN,w3,w2,wd];refine EFn.p ?_;simp only[ZE,seval];refine zar.i i2 ?_;rw[ziW];by_cases e0:b / 8 % 7=0
  ·have h0:(((b / 8 % 7:Nat):Int)==0)=true:=by simp[e0]
   rw[if_pos e0];simp only[ZE,seval,zN,hq,hwq,hr7,hm,h0,Expr.op,Expr.name,Expr.k,Expr.w,Expr.args,zbj,emp,not_false_eq_true]
  have h0:(((b / 8 % 7:Nat):Int)==0)=false:=by simp; omega
  rw[if_neg e0];by_cases e1:b / 8 % 7=1
  ·have h1:(((b / 8 % 7:Nat):Int)==1)=true:=by simp[e1]
   rw[if_pos e1];simp only[ZE,seval,zN,hq,hwq,hr7,h0,h1,Expr.op,Expr.name,Expr.k,Expr.w,Expr.args,zbj,emp,not_false_eq_true]
  have h1:(((b / 8 % 7:Nat):Int)==1)=false:=by simp; omega
  rw[if_neg e1];by_cases e2:b / 8 % 7=2
  ·have h2:(((b / 8 % 7:Nat):Int)==2)=true:=by simp[e2]
   rw[if_pos e2];simp only[ZE,seval,zN,hq,hwq,hr7,h0,h1,h2,Expr.op,Expr.name,Expr.k,Expr.w,Expr.args,zbj,emp,not_false_eq_true]
  have h2:(((b / 8 % 7:Nat):Int)==2)=false:=by simp; omega
  rw[if_neg e2];by_cases e3:b / 8 % 7=3
  ·have h3:(((b / 8 % 7:Nat):Int)==3)=true:=by simp[e3]
   rw[if_pos e3];simp only[ZE,seval,zN,hq,hwq,hr7,h0,h1,h2,h3,Expr.op,Expr.name,Expr.k,Expr.w,Expr.args,zbj,emp,not_false_eq_true]
  have h3:(((b / 8 % 7:Nat):Int)==3)=false:=by simp; omega
  rw[if_neg e3];by_cases e4:b / 8 % 7=4
  ·have h4:(((b / 8 % 7:Nat):Int)==4)=true:=by simp[e4]
   rw[if_pos e4];simp only[ZE,seval,zN,hq,hwq,hr7,h0,h1,h2,h3,h4,Expr.op,Expr.name,Expr.k,Expr.w,Expr.args,zbj,emp,not_false_eq_true]
  have h4:(((b / 8 % 7:Nat):Int)==4)=false:=by simp; omega
  rw[if_neg e4];by_cases e5:b / 8 % 7=5
  ·have h5:(((b / 8 % 7:Nat):Int)==5)=true:=by simp[e5]
   rw[if_pos e5];simp only[ZE,seval,zN,hq,hwq,hr7,h0,h1,h2,h3,h4,h5,Expr.op,Expr.name,Expr.k,Expr.w,Expr.args,zbj,emp,not_false_eq_true]
  have h5:(((b / 8 % 7:Nat):Int)==5)=false:=by simp; omega
  rw[if_neg e5];simp only[ZE,seval,zN,hq,hwq,hr7,h0,h1,h2,h3,h4,h5,w3,w4,wd,Expr.op,Expr.name,Expr.k,Expr.w,Expr.args,zbj,emp,not_false_eq_true];refine⟨by kernel_rfl,zaz.i i3 ?_⟩;simp only[ZE,seval,zN,Expr.op,Expr.name,Expr.k,Expr.w,Expr.args,zbj,emp,not_false_eq_true]
theorem zhF(l:List Nat)(ns:List Str)(w:Num)(hb: ∀b∈l,b<256)(hn:0<ns.length)(hn2:ns.length<=1000)(a:Nat)(ha:a<=10000):FnP Tryz.prog 106 [zau l,eAt a 1,zhW ns w] (.d (.agg (zbx (gen l ns w 1 a)))) []:=
 genS_c l ns w hb hn hn2 0 a (by omega) (by omega) (ziL l ns w hb hn hn2 _ (by omega)) (ziL l ns w hb hn hn2 _ (by omega)) (cond_c l ns w hb 0 _ (by omega) (ziL l ns w hb hn hn2 _ (by omega)) (ziL l ns w hb hn hn2 _ (by omega)))
theorem zgU(l:List Nat)(ns:List Str)(w:Num)(hb: ∀b∈l,b<256)(hn:0<ns.length)(hn2:ns.length<=1000)(a:Nat)(ha:a<=1000):FnP Tryz.prog 105 [zau l,eI a,zhW ns w] (.d (.agg (zbx (cond l ns w 1 a)))) []:=by
 refine FnP.of_eC (own:=[]) (fun _=>[]) zat Tryz.func105 rfl Tryz.call105 Tryz.ntmps105 (zle rfl) Tryz.results105 (fun hok=> ?_);have cc:=cond_c l ns w hb 1 a (by omega) (zhF l ns w hb hn hn2 _ (by omega)) (ziL l ns w hb hn hn2 _ (by omega));simp only[ZE,seval,eAt,zhW,Int.natCast_one]at cc;simp only[ZE,seval,zhW];refine EFn.p ?_;simp only[ZE,seval];refine zar.i cc ?_;simp only[ZE,seval]
set_option maxHeartbeats 4000000
def sA:Str:=st [97]
def sB:Str:=st [98]
def sC:Str:=st [99]
def sD:Str:=st [100]
def sM:Str:=st [109]
def sR:Str:=st [114]
def sS:Str:=st [115]
def sT:Str:=st [116]
def sU:Str:=st [117]
def sVV:Str:=st [118]
def sW:Str:=st [119]
def sX:Str:=st [120]
def sY:Str:=st [121]
def sAux:Str:=st [97,117,120]
def zxC:Str:=st [99,108,107]
def zg7:Str:=st [99,101,108,108]
def zma:Str:=st [116,111,112]
def zd0(b:Nat):Rule:=if b % 6=0 then⟨0,emp,0⟩else if b % 6=1 then⟨2,sR,0⟩else if b % 6=2 then⟨3,sS,(b / 6 % 3:Nat)⟩else⟨1,emp,0⟩
theorem rule_c(b:Nat)(hb:b<256):FnP Tryz.prog 165 [eI b] (.d (.agg (zib (zd0 b)))) []:=by
 refine FnP.of_eC (own:=[]) (fun _=>[]) zat Tryz.func165 rfl Tryz.call165 Tryz.ntmps165 (zle rfl) Tryz.results165 (fun hok=> ?_);have hm:(b:Int).tmod 6=((b % 6:Nat):Int):=(Int.ofNat_tmod b 6).symm;have hq:(b:Int).tdiv 6=((b / 6:Nat):Int):=(Int.ofNat_tdiv b 6).symm;have hwq:IntKind.i64.wrap ((b / 6:Nat):Int)=((b / 6:Nat):Int):=zaQ (by omega) (by omega);have hr:((b / 6:Nat):Int).tmod 3=((b / 6 % 3:Nat):Int):=(Int.ofNat_tmod _ _).symm;by_cases b0:b % 6=0
 ·have h0:(((b % 6:Nat):Int)==0)=true:=by simp[b0]
  rw[zd0,if_pos b0];simp only[ZE,seval,zN,hm,h0,Expr.op,Expr.name,Expr.k,Expr.w,Expr.args,zbj,emp,not_false_eq_true]
 have h0:(((b % 6:Nat):Int)==0)=false:=by simp; omega
 by_cases b1:b % 6=1
 ·have h1:(((b % 6:Nat):Int)==1)=true:=by simp[b1]
  rw[zd0,if_neg b0,if_pos b1];simp only[ZE,seval,zN,hm,h0,h1,Expr.op,Expr.name,Expr.k,Expr.w,Expr.args,zbj,emp,not_false_eq_true,sR,st]
 have h1:(((b % 6:Nat):Int)==1)=false:=by simp; omega
 by_cases b2:b % 6=2
 ·have h2:(((b % 6:Nat):Int)==2)=true:=by simp[b2]
  rw[zd0,if_neg b0,if_neg b1,if_pos b2];simp only[ZE,seval,zN,hm,h0,h1,h2,hq,hwq,hr,Expr.op,Expr.name,Expr.k,Expr.w,Expr.args,zbj,emp,not_false_eq_true,sS,st]
 have h2:(((b % 6:Nat):Int)==2)=false:=by simp; omega
 rw[zd0,if_neg b0,if_neg b1,if_neg b2];simp only[ZE,seval,zN,hm,h0,h1,h2,Expr.op,Expr.name,Expr.k,Expr.w,Expr.args,zbj,emp,not_false_eq_true]
def zdk(b:Nat):Str:=if b % 3=0 then sAux else zxC
theorem zsg(b:Nat):FnP Tryz.prog 102 [eI b] (.d (eS (zdk b))) []:=by
 refine FnP.of_eC (own:=[]) (fun _=>[]) zat Tryz.func102 rfl Tryz.call102 Tryz.ntmps102 (zle rfl) Tryz.results102 (fun hok=> ?_);have hm:(b:Int).tmod 3=((b % 3:Nat):Int):=(Int.ofNat_tmod b 3).symm;by_cases b0:b % 3=0
 ·have h0:(((b % 3:Nat):Int)==0)=true:=by simp[b0]
  rw[zdk,if_pos b0];simp only[ZE,seval,zN,hm,h0,Expr.op,Expr.name,Expr.k,Expr.w,Expr.args,zbj,emp,not_false_eq_true,sAux,st]
 have h0:(((b % 3:Nat):Int)==0)=false:=by simp; omega
 rw[zdk,if_neg b0];simp only[ZE,seval,zN,hm,h0,Expr.op,Expr.name,Expr.k,Expr.w,Expr.args,zbj,emp,not_false_eq_true,zxC,st]
def zk1(name:Str)(l:List Nat)(a:Nat)(ns:List Str)(w:Num):Item:={zaU with kind:=⟨4,rfl⟩,name:=name,width:=w,init:=⟨(zaR l a % 2:Nat),emp⟩,a:=gen l ns w 1 a,rule:=zd0 (zaR l (a+1))}
theorem reg_c(name:Str)(l:List Nat)(ns:List Str)(w:Num)(hb: ∀b∈l,b<256)(hn:0<ns.length)(hn2:ns.length<=1000)(a:Nat)(ha:a<=1000):FnP Tryz.prog 163 [eS name,zau l,eI a,zhW ns w] (.d (.agg (zaK (zk1 name l a ns w)))) []:=by
 refine FnP.of_eC (own:=[]) (fun i=>if i=2001 then [.ord ⟨[(0,none),(1,none),(2,none),(3,none),(4,none),(5,none),(6,none),(7,none),(8,none),(9,none),(10,none),(11,none),(12,none),(13,none),(14,none),(15,none),(16,none),(17,none),(18,none),(19,some [])]⟩]else []) zat Tryz.func163 rfl Tryz.call163 Tryz.ntmps163 (zle rfl) Tryz.results163 (fun hok=> ?_);have a1:=zwB l a hb (by omega);have a2:=zwB l (a+1) hb (by omega);have g1:=zhF l ns w hb hn hn2 a (by omega);have r1:=rule_c (zaR l (a+1)) (zgo hb _);have w1:IntKind.i64.wrap ((a:Int)+1)=((a+1:Nat):Int):=zaQ (by omega) (by omega);have hm:(zaR l a:Int).tmod 2=((zaR l a % 2:Nat):Int):=(Int.ofNat_tmod _ 2).symm;simp only[ZE,seval,eAt,zhW]at a1 a2 g1 r1;simp only[ZE,seval,zhW,zN,not_false_eq_true];refine⟨by kernel_rfl,zaz.i a1 ?_⟩;simp only[ZE,seval,zN,not_false_eq_true,true_and];refine zaz.i g1 ?_;simp only[ZE,seval,zN,w1];refine zaz.i a2 ?_;simp only[ZE,seval,zN];refine zaz.i r1 ?_;simp only[ZE,seval,zN,hm,zk1,zaU,zbQ,Expr.op,Expr.name,Expr.k,Expr.w,Expr.args,zbj,emp,not_false_eq_true]
def zc2(name:Str)(w:Num)(c0 c1:Str):Item:={zaU with kind:=⟨9,rfl⟩,name:=name,of:=zg7,args:=[w],ports:=[⟨sX,c0⟩,⟨sY,c1⟩]}
def zj9(a b:Str):D:=.agg [eS a,eS b]
theorem zsZ(name:Str)(w:Num)(c0 c1:Str):FnP Tryz.prog 104 [eS name,.agg (zgL w),zj9 c0 c1] (.d (.agg (zaK (zc2 name w c0 c1)))) []:=by
 refine FnP.of_eC (own:=[]) chL zat Tryz.func104 rfl Tryz.call104 Tryz.ntmps104 (zle rfl) Tryz.results104 (fun hok=> ?_);simp only[ZE,seval,zj9,zN,zc2,zaU,zbQ,Expr.op,Expr.name,Expr.k,Expr.w,Expr.args,zbj,emp,not_false_eq_true,sX,sY,zg7,st]
structure Part where
 kind:I64
 name:Str
 deriving DecidableEq
structure Edit where
 module:Str
 part:Part
 has:Bool
 to:Item
 head:Module
def zbg(x:Item):Part:=⟨x.kind,x.name⟩
def zc7:Part:=⟨⟨0,rfl⟩,emp⟩
def ltS(a b:Str):Bool:=Op.bytesLess a.1.toList b.1.toList
def ltP(a b:Part):Bool:=decide (a.kind.1<b.kind.1)||(decide (a.kind.1=b.kind.1)&&ltS a.name b.name)
theorem zsd: ∀a:List UInt8,Op.bytesLess a a=false
 | []=>rfl
 | x::a=>by simp[Op.bytesLess,zsd a]
theorem bytes_tr: ∀a b c:List UInt8,Op.bytesLess a b=true->Op.bytesLess b c=true->Op.bytesLess a c=true
 | _,[],_,h,_=>by simp[Op.bytesLess]at h
 | _,_::_,[],_,h=>by simp[Op.bytesLess]at h
 | [],_::_,_::_,_,_=>rfl
 | x::a,y::b,z::c,h1,h2=>by
  simp only[Op.bytesLess,Bool.or_eq_true,decide_eq_true_eq,wam,beq_iff_eq]at h1 h2 ⊢;rcases h1 with h1 | ⟨rfl,h1⟩
  ·grind
  ·rcases h2 with h2 | ⟨rfl,h2⟩
   ·exact .inl h2
   ·exact .inr ⟨rfl,bytes_tr a b c h1 h2⟩
theorem zvj: ∀a b:List UInt8,Op.bytesLess a b=false->Op.bytesLess b a=false->a=b
 | [],[],_,_=>rfl
 | [],_::_,h,_=>by simp[Op.bytesLess]at h
 | _::_,[],_,h=>by simp[Op.bytesLess]at h
 | x::a,y::b,h1,h2=>by
  simp only[Op.bytesLess,Bool.or_eq_false_iff,decide_eq_false_iff_not,Bool.and_eq_false_iff,beq_eq_false_iff_ne]at h1 h2;obtain⟨p1,p2⟩:=h1;obtain⟨q1,q2⟩:=h2;have e:x=y:=UInt8.le_antisymm (UInt8.not_lt.1 q1) (UInt8.not_lt.1 p1);subst e;rw[zvj a b (p2.resolve_left (fun h=>h rfl)) (q2.resolve_left (fun h=>h rfl))]
theorem toList_inj{a b:Str}(h:a.1.toList=b.1.toList):a=b:=by
 grind [Lib.toList_data,ByteArray.ext,Array.toList_inj]
theorem zrt:TOrd ltS:={
 irr:=fun a=>zsd _
 tr:=fun a b c=>bytes_tr _ _ _
 conn:=fun a b h1 h2=>toList_inj (zvj _ _ h1 h2)}
theorem zuJ:TOrd ltP:={
 irr:=fun a=>by simp[ltP,zrt.irr]
 tr:=fun a b c h1 h2=>by
  simp only[ltP,Bool.or_eq_true,decide_eq_true_eq,wam]at h1 h2 ⊢;rcases h1 with h1 | ⟨e1,h1⟩
  ·omega
  ·rcases h2 with h2 | ⟨e2,h2⟩
   ·omega
   ·exact .inr ⟨by omega,zrt.tr _ _ _ h1 h2⟩
 conn:=fun a b h1 h2=>by
  simp only[ltP,Bool.or_eq_false_iff,decide_eq_false_iff_not,Bool.and_eq_false_iff]at h1 h2;obtain⟨⟨a1,a2⟩,a3⟩:=a;obtain⟨⟨b1,b2⟩,b3⟩:=b;simp only at h1 h2;have e:a1=b1:=by omega
  subst e;have:=zrt.conn a3 b3 (h1.2.resolve_left (fun h=>h rfl)) (h2.2.resolve_left (fun h=>h rfl));rw[this]}
mutual
def zil:Expr->Expr->Bool
 | .mk o n k w a,.mk o' n' k' w' a'=>(o==o'&&decide (n=n')&&decide (k=k')&&decide (w=w'))&&zjF a a'
def zjF:List Expr->List Expr->Bool
 | [],[]=>true
 | x::a,y::b=>zil x y&&zjF a b
 | _,_=>false
end
mutual
theorem sameE_iff: ∀a b:Expr,zil a b=true↔a=b
 | .mk o n k w a,.mk o' n' k' w' a'=>by
  simp only[zil,wam,beq_iff_eq,decide_eq_true_eq,zv1 a a',Expr.mk.injEq];grind
theorem zv1: ∀a b:List Expr,zjF a b=true↔a=b
 | [],[]=>by simp[zjF]
 | [],_::_=>by simp[zjF]
 | _::_,[]=>by simp[zjF]
 | x::a,y::b=>by simp only[zjF,wam,sameE_iff x y,zv1 a b,List.cons.injEq]
end
def zlG(x y:Item):Bool:=decide (zbg x=zbg y)&&(decide (x.width=y.width)&&decide (x.depth=y.depth)&&decide (x.init=y.init))&&decide (x.rule=y.rule)&&decide (x.of=y.of)&&decide (x.args=y.args)&&decide (x.ports=y.ports)&&zil x.a y.a&&zil x.b y.b&&zil x.c y.c
theorem zyQ(x y:Item):zlG x y=true↔x=y:=by
 obtain⟨k,n,w,d,i,a,b,c,r,o,ar,po⟩:=x;obtain⟨k',n',w',d',i',a',b',c',r',o',ar',po'⟩:=y;grind [zlG,zbg,sameE_iff]
def zug(m n:Module):Bool:=decide (m.name=n.name)&&decide (m.clock=n.clock)&&decide (m.params=n.params)
theorem zyP(m n:Module):zug m n=true↔{n with items:=m.items}=m:=by
 obtain⟨a,b,c,d⟩:=m;grind [zug]
def zl1:List Item->List Item->Bool
 | [],[]=>true
 | x::a,y::b=>zlG x y&&zl1 a b
 | _,_=>false
theorem zv3: ∀a b:List Item,zl1 a b=true↔a=b
 | [],[]=>by simp[zl1]
 | [],_::_=>by simp[zl1]
 | _::_,[]=>by simp[zl1]
 | x::a,y::b=>by simp only[zl1,wam,zyQ x y,zv3 a b,List.cons.injEq]
def zm4(m n:Module):Bool:=zug m n&&zl1 m.items n.items
theorem zuh(m n:Module):zm4 m n=true↔m=n:=by
 unfold zm4;rw[wam,zyP,zv3];obtain⟨a,b,c,d⟩:=m;obtain⟨a',b',c',d'⟩:=n;grind
def zl6:List Module->List Module->Bool
 | [],[]=>true
 | x::a,y::b=>zm4 x y&&zl6 a b
 | _,_=>false
theorem zm3: ∀a b:List Module,zl6 a b=true↔a=b
 | [],[]=>by simp[zl6]
 | [],_::_=>by simp[zl6]
 | _::_,[]=>by simp[zl6]
 | x::a,y::b=>by simp only[zl6,wam,zuh x y,zm3 a b,List.cons.injEq]
def zl5(m:Module):Module:={m with items:=zl7 ltP zbg m.items}
def zcC(l:List Module):List Module:=(zl7 ltS Module.name l).map zl5
structure Parted (l:List Module):Prop where
 names:(l.map Module.name).Nodup
 parts: ∀m∈l,(m.items.map zbg).Nodup
 kinds: ∀m∈l,∀x∈m.items,x.kind.1≠0
def zyw(n:Str)(x:Item):Edit:=⟨n,zbg x,false,zaU,zdP⟩
def zco(n:Str)(x:Item):Edit:=⟨n,zbg x,true,x,zdP⟩
def zx7(m:Module):Edit:=⟨m.name,zc7,true,zaU,{m with items:=[]}⟩
def zuR(n:Str):Edit:=⟨n,zc7,false,zaU,zdP⟩
def zs8(n:Str)(a b:List Item):List Edit:=mrgM ltP zbg (fun x=>[zyw n x]) (fun y=>[zco n y]) (fun x y=>if zlG x y=true then []else [zco n y]) a b
def headD(m n:Module):List Edit:=if zug m n=true then []else [zx7 n]
def zyJ(a b:List Module):List Edit:=mrgM ltS Module.name (fun m=>zs8 m.name m.items []++[zuR m.name]) (fun m=>zx7 m::zs8 m.name [] m.items) (fun m n=>headD m n++zs8 n.name m.items n.items) a b
def zrp(a b:List Module):List Edit:=zyJ (zcC a) (zcC b)
def zl8(l:List Module)(e:Edit):Option (List Module):=
 match lkp Module.name l e.module with
 | none=>none
 | some m=>
  if e.has=true then if zbg e.to≠e.part\/e.part.kind.1=0 then none else some (zpT ltS Module.name l {m with items:=zpT ltP zbg m.items e.to})
  else if (lkp zbg m.items e.part).isSome =true then some (zpT ltS Module.name l {m with items:=zyC zbg m.items e.part})else none
def zzb(l:List Module)(e:Edit):Option (List Module):=
 if e.has=true then
  if e.head.name≠e.module\/e.head.items≠[]then none
  else match lkp Module.name l e.module with
   | none=>some (zpT ltS Module.name l e.head)
   | some m=>some (zpT ltS Module.name l {m with clock:=e.head.clock,params:=e.head.params})
 else match lkp Module.name l e.module with
  | none=>none
  | some m=>if m.items≠[]then none else some (zyC Module.name l e.module)
def zx4(l:List Module)(e:Edit):Option (List Module):=if e.part=zc7 then zzb l e else zl8 l e
def zoS(l:List Module)(es:List Edit):Option (List Module):=es.foldlM zx4 (zcC l)
structure Good (l:List Module):Prop where
 srt:Srt ltS Module.name l
 parts: ∀m∈l,Srt ltP zbg m.items
structure Kinds (l:List Module):Prop where
 kinds: ∀m∈l,∀x∈m.items,x.kind.1≠0
theorem ziv{l:List Module}(h:Parted l):Good (zcC l):=by
 refine⟨?_,fun m hm=> ?_⟩
 ·unfold zcC Srt;rw[List.pairwise_map];exact zm9 zrt h.names
 ·unfold zcC at hm;obtain⟨n,hn,rfl⟩:=List.mem_map.1 hm;exact zm9 zuJ (h.parts n ((zcn l).mem_iff.1 hn))
theorem zlv{l:List Module}(h:Parted l):Kinds (zcC l):=by
 refine⟨fun m hm x hx=> ?_⟩;unfold zcC at hm;obtain⟨n,hn,rfl⟩:=List.mem_map.1 hm;exact h.kinds n ((zcn l).mem_iff.1 hn) x ((zcn n.items).mem_iff.1 hx)
theorem zyb(l:List Module):(zcC l).length =l.length:=by unfold zcC; rw[waa]; exact(zcn l).length_eq
theorem Good.put{l:List Module}(h:Good l){m:Module}(hm:Srt ltP zbg m.items):Good (zpT ltS Module.name l m):=by
 refine⟨h.srt.ins zrt m,fun z hz=> ?_⟩;rcases zxh hz with rfl | hz
 ·exact hm
 ·exact h.parts z hz
theorem Good.rmv{l:List Module}(h:Good l)(n:Str):Good (zyC Module.name l n):=⟨h.srt.del n,fun z hz=>h.parts z (zxi hz)⟩
theorem Good.at{l:List Module}(h:Good l){n:Str}{m:Module}(hm:lkp Module.name l n=some m):Srt ltP zbg m.items/\m.name=n:=⟨h.parts m (zeI hm).1,(zeI hm).2⟩
theorem Good.ext{l l':List Module}(h:Good l)(h':Good l')(he: ∀k,lkp Module.name l k=lkp Module.name l' k):l=l':=Srt.ext zrt h.srt h'.srt he
theorem zlW{x:Item}(h:x.kind.1≠0):zbg x≠zc7:=fun e=>h (by have:=congrArg (fun p:Part=>p.kind.1) e; exact this)
structure InMod (s0:List Module) (n:Str) (m:Module) (s:List Module):Prop where
 good:Good s
 here: ∃its,lkp Module.name s n=some {m with items:=its}
 rest: ∀k,k≠n->lkp Module.name s k=lkp Module.name s0 k
def ansI(n:Str)(s:List Module)(p:Part):Option Item:=match lkp Module.name s n with | some m=>lkp zbg m.items p | none=>none
theorem items_act(s0:List Module)(n:Str)(m:Module)(hm:m.name=n)(N:Nat)(xs ys:List Item)(s:List Module)(hN:xs.length+ys.length<=N)(hxs:Srt ltP zbg xs)(hys:Srt ltP zbg ys)(kx: ∀x∈xs,x.kind.1≠0)(ky: ∀y∈ys,y.kind.1≠0)
  (hs:InMod s0 n m s) (hl:lkp Module.name s n=some {m with items:=xs}):
  ∃s',(zyn ltP zbg (fun x=>[zyw n x]) (fun y=>[zco n y]) (fun x y=>if zlG x y=true then []else [zco n y]) N xs ys).foldlM zx4 s=some s'/\InMod s0 n m s'/\lkp Module.name s' n=some {m with items:=ys}:=by
 have hset: ∀s y,InMod s0 n m s->y.kind.1≠0-> ∃s',[zco n y].foldlM zx4 s=some s'/\InMod s0 n m s'/\ ∀k,ansI n s' k=if k=zbg y then some y else ansI n s k:=by
  intro s y hs hy;obtain⟨its,h1⟩:=hs.here;have hsr:=(hs.good.at h1).1;have e:zx4 s (zco n y)=some (zpT ltS Module.name s {m with items:=zpT ltP zbg its y}):=by
   grind [zco,zlW,zbg,zx4,zl8]
  have hg:=hs.good.put (m:={m with items:=zpT ltP zbg its y}) (hsr.ins zuJ y);have hlk: ∀k,lkp Module.name (zpT ltS Module.name s {m with items:=zpT ltP zbg its y}) k=if k=n then some {m with items:=zpT ltP zbg its y}else lkp Module.name s k:=fun k=>by
   rw[zym zrt _ _ hs.good.srt];grind
  refine⟨_,by simp_all,⟨hg,⟨_,by rw[hlk,if_pos rfl]⟩,fun k hk=>by rw[hlk,if_neg hk]; exact hs.rest k hk⟩,fun k=> ?_⟩;grind [ansI,zym,zuJ]
 obtain⟨s',e,G,a⟩:=zx8 zuJ zx4 (ansI n) (InMod s0 n m) id (g:=fun x=>[zyw n x]) (c:=fun y=>[zco n y]) (b:=fun x y=>if zlG x y=true then []else [zco n y]) (A:=fun x=>x.kind.1≠0) (B:=fun y=>y.kind.1≠0)
  (fun s x hs hx ha=>by
   obtain⟨its,h1⟩:=hs.here;have hsr:=(hs.good.at h1).1;have ha':lkp zbg its (zbg x)=some x:=by grind [ansI]
   have e:zx4 s (zyw n x)=some (zpT ltS Module.name s {m with items:=zyC zbg its (zbg x)}):=by
    grind [zyw,zlW,zx4,zl8]
   have hg:=hs.good.put (m:={m with items:=zyC zbg its (zbg x)}) (hsr.del _);have hlk: ∀k,lkp Module.name (zpT ltS Module.name s {m with items:=zyC zbg its (zbg x)}) k=if k=n then some {m with items:=zyC zbg its (zbg x)}else lkp Module.name s k:=fun k=>by
    rw[zym zrt _ _ hs.good.srt];grind
   refine⟨_,by simp_all,⟨hg,⟨_,by rw[hlk,if_pos rfl]⟩,fun k hk=>by rw[hlk,if_neg hk]; exact hs.rest k hk⟩,fun k=> ?_⟩;grind [ansI,zzO,zuJ])
  (fun s y hs hy _=>hset s y hs hy)
  (fun s x y hs hx hy he ha=>by
   grind [zyQ])
  N xs ys s hN hxs hys kx ky hs (fun x hx=>by grind [ansI,zyM,zuJ]) (fun y hy hne=>by grind [ansI,zlr])
 refine⟨s',e,G,?_⟩;obtain⟨its,h1⟩:=G.here;have hsr:=(G.good.at h1).1;have:its=ys:=by
  refine Srt.ext zuJ hsr hys (fun k=> ?_);have:=a k;grind [ansI,lkp]
 rw[h1,this]
def mOk(m:Module):Prop:=Srt ltP zbg m.items/\ ∀x∈m.items,x.kind.1≠0
theorem zyy{s:List Module}{n:Str}{m:Module}(hg:Good s)(h:lkp Module.name s n=some m)(hm:mOk m){ys:List Item}(hys:Srt ltP zbg ys)(ky: ∀y∈ys,y.kind.1≠0):
  ∃s',(zs8 n m.items ys).foldlM zx4 s=some s'/\Good s'/\ ∀k,lkp Module.name s' k=if k=n then some {m with items:=ys}else lkp Module.name s k:=by
 obtain⟨s',e,G,a⟩:=items_act s n m (zeI h).2 _ m.items ys s (Nat.le_refl _) hm.1 hys hm.2 ky ⟨hg,⟨m.items,h⟩,fun _ _=>rfl⟩ h;refine⟨s',e,G.good,fun k=> ?_⟩;split
 ·simp_all
 ·rename_i hk; exact G.rest k hk
theorem eHead_new{s:List Module}(hg:Good s){m:Module}(h:lkp Module.name s m.name=none): ∃s',zx4 s (zx7 m)=some s'/\Good s'/\ ∀k,lkp Module.name s' k=if k=m.name then some {m with items:=[]}else lkp Module.name s k:=by
 refine⟨zpT ltS Module.name s {m with items:=[]},?_,hg.put (by simp[Srt]),fun k=>zym zrt _ k hg.srt⟩;unfold zx4 zzb;simp[zx7,h]
theorem eHead_old{s:List Module}(hg:Good s){m n:Module}(h:lkp Module.name s n.name=some m): ∃s',zx4 s (zx7 n)=some s'/\Good s'/\ ∀k,lkp Module.name s' k=if k=n.name then some {n with items:=m.items}else lkp Module.name s k:=by
 obtain⟨h1,h2⟩:=hg.at h;have e:({m with clock:=n.clock,params:=n.params}:Module)={n with items:=m.items}:=by
  simp_all
 refine⟨zpT ltS Module.name s {n with items:=m.items},?_,hg.put h1,fun k=>zym zrt _ k hg.srt⟩;grind [zx4,zzb,zx7]
theorem eGone_act{s:List Module}(hg:Good s){n:Str}{m:Module}(h:lkp Module.name s n=some m)(hm:m.items=[]): ∃s',zx4 s (zuR n)=some s'/\Good s'/\ ∀k,lkp Module.name s' k=if k=n then none else lkp Module.name s k:=by
 refine⟨zyC Module.name s n,?_,hg.rmv n,fun k=>zzO zrt n k hg.srt⟩;grind [zx4,zzb,zuR]
theorem diffN_act{a b:List Module}(ha:Good a)(hb:Good b)(ka:Kinds a)(kb:Kinds b):(zyJ a b).foldlM zx4 a=some b:=by
 have oa: ∀m∈a,mOk m:=fun m hm=>⟨ha.parts m hm,ka.kinds m hm⟩;have ob: ∀m∈b,mOk m:=fun m hm=>⟨hb.parts m hm,kb.kinds m hm⟩;obtain⟨s',e,G,an⟩:=zx8 zrt zx4 (lkp Module.name) Good id (g:=fun m=>zs8 m.name m.items []++[zuR m.name]) (c:=fun m=>zx7 m::zs8 m.name [] m.items) (b:=fun m n=>headD m n++zs8 n.name m.items n.items) (A:=mOk) (B:=mOk)
  (fun s m hs hm h=>by
   obtain⟨s1,e1,G1,a1⟩:=zyy (ys:=[]) hs h hm (by simp[Srt]) (by simp);obtain⟨s2,e2,G2,a2⟩:=eGone_act G1 (n:=m.name) (m:={m with items:=[]}) (by simp_all) rfl;simp_all)
  (fun s m hs hm h=>by
   obtain⟨s1,e1,G1,a1⟩:=eHead_new hs h;obtain⟨s2,e2,G2,a2⟩:=zyy (m:={m with items:=[]}) (ys:=m.items) G1 (n:=m.name) (by simp_all) ⟨by simp[Srt],by simp⟩ hm.1 hm.2;simp_all)
  (fun s m n hs hm hn he h=>by
   have key: ∃s1,(headD m n).foldlM zx4 s=some s1/\Good s1/\ ∀k,lkp Module.name s1 k=if k=n.name then some {n with items:=m.items}else lkp Module.name s k:=by
    grind [headD,zyP,eHead_old]
   obtain⟨s1,e1,G1,a1⟩:=key;obtain⟨s2,e2,G2,a2⟩:=zyy (m:={n with items:=m.items}) (ys:=n.items) G1 (n:=n.name) (by simp_all) hm hn.1 hn.2;simp_all)
  _ a b a (Nat.le_refl _) ha.srt hb.srt oa ob ha (fun x hx=>zyM zrt ha.srt hx) (fun y _ hne=>zlr.2 hne)
 have:s'=b:=by
  refine G.ext hb (fun k=> ?_);grind [lkp]
 rw[this]at e; exact e
def zs0(a:List Module)(l:List Edit):Option (List Edit):=(zoS a l).map fun g=>zrp g a
def tgt(e:Edit):Str×Part:=(e.module,e.part)
def chg(m:Module)(e:Edit):Module:={m with items:=if e.has=true then zpT ltP zbg m.items e.to else zyC zbg m.items e.part}
def fitE(m:Module)(e:Edit):Prop:=if e.has=true then zbg e.to=e.part/\e.part.kind.1≠0 else(lkp zbg m.items e.part).isSome =true
end Go.Proofs.YtbenhdgpogiadaaGreat
