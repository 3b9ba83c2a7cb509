/-
 CONTRACTS and plain laws. Conditions: those of each law.
-/
import Derived.Test.YtbenhdgpogiadaaGreatGO
import Derived.Test.YtbenhdgpogiadaaGreatProg
import Derived.Test.YtbenhdgpogiadaaGreatGOr
import Derived.DeepKeys4
import Derived.Maps.Keyed
set_option linter.unusedSimpArgs false
set_option linter.unusedVariables false
namespace Go.Proofs.YtbenhdgpogiadaaGreat
open Go.Aw
open Tryz (prog)
theorem zat:Tryz.prog.follows .mixedOrders =true:=by kernel_rfl
theorem tU3:Tryz.prog.underlying 3=some (.int .i64):=by kernel_rfl
theorem TF0:lay prog 1=some (false,1)/\zad prog 1=some [.nilFunc]/\prog.underlying 2=some (.int .i64)/\lay prog 2=some (false,1)/\zad prog 2=some [.int .i64 0]/\prog.underlying 3=some (.int .i64)/\lay prog 3=some (false,1)/\zad prog 3=some [.int .i64 0]/\prog.underlying 4=some .bool /\lay prog 4=some (false,1)/\zad prog 4=some [.bool false]/\prog.underlying 5=some (.int .u8)/\lay prog 5=some (false,1)/\zad prog 5=some [.int .u8 0]/\prog.underlying 6=some (.int .u8)/\lay prog 6=some (false,1)/\zad prog 6=some [.int .u8 0]/\lay prog 7=some (true,4)/\zad prog 7=some [.int .i64 0,.int .i64 0,.bool false,.int .u8 0]/\zah prog 7 0=some (0,false,1)/\zag prog 7 0=some (0,false,1)/\zah prog 7 1=some (1,false,1)/\zag prog 7 1=some (1,false,1)/\zah prog 7 2=some (2,false,1)/\zag prog 7 2=some (2,false,1)/\zah prog 7 3=some (3,false,1)/\zag prog 7 3=some (3,false,1)/\zaB prog 7=true/\zdD prog 7=some [0,0,1,0]/\lay prog 8=some (true,4)/\zad prog 8=some [.int .i64 0,.int .i64 0,.bool false,.int .u8 0]/\zah prog 8 0=some (0,false,1)/\zag prog 8 0=some (0,false,1)/\zah prog 8 1=some (1,false,1)/\zag prog 8 1=some (1,false,1)/\zah prog 8 2=some (2,false,1)/\zag prog 8 2=some (2,false,1)/\zah prog 8 3=some (3,false,1)/\zag prog 8 3=some (3,false,1)/\zaB prog 8=true:=by and_intros <;> kernel_rfl
theorem tU9:Tryz.prog.underlying 9=some .string :=by kernel_rfl
theorem TF1:zdD prog 8=some [0,0,1,0]/\prog.underlying 9=some .string /\lay prog 9=some (false,1)/\zad prog 9=some [.string ByteArray.empty]/\za0 prog 9=none/\prog.underlying 10=some .string /\lay prog 10=some (false,1)/\zad prog 10=some [.string ByteArray.empty]/\za0 prog 10=none/\prog.underlying 12=some (.int .u64)/\lay prog 12=some (false,1)/\zad prog 12=some [.int .u64 0]/\prog.underlying 15=some (.pointer 374)/\lay prog 15=some (false,1)/\zad prog 15=some [.pointer none]/\prog.underlying 17=some (.pointer 386)/\lay prog 17=some (false,1)/\zad prog 17=some [.pointer none]/\prog.underlying 21=some (.int .i32)/\lay prog 21=some (false,1)/\zad prog 21=some [.int .i32 0]/\prog.underlying 22=some (.slice 5)/\lay prog 22=some (false,1)/\zad prog 22=some [.slice none 0 0]/\za0 prog 22=some (5,false,1)/\zdl prog 22=some (5,1,1)/\lay prog 23=some (true,3)/\zad prog 23=some [.int .u8 0,.int .u8 0,.slice none 0 0]/\zah prog 23 0=some (0,false,1)/\zag prog 23 0=some (0,false,1)/\zah prog 23 1=some (1,false,1)/\zag prog 23 1=some (1,false,1)/\zah prog 23 2=some (2,false,1)/\zag prog 23 2=some (2,false,1)/\zaB prog 23=true/\lay prog 24=some (true,3)/\zad prog 24=some [.int .u8 0,.int .u8 0,.slice none 0 0]/\zah prog 24 0=some (0,false,1)/\zag prog 24 0=some (0,false,1)/\zah prog 24 1=some (1,false,1):=by and_intros <;> kernel_rfl
theorem tA28:zdl Tryz.prog 28=some (53,4,80):=by kernel_rfl
theorem TF2:zag prog 24 1=some (1,false,1)/\zah prog 24 2=some (2,false,1)/\zag prog 24 2=some (2,false,1)/\zaB prog 24=true/\prog.underlying 25=some (.slice 73)/\lay prog 25=some (false,1)/\zad prog 25=some [.slice none 0 0]/\za0 prog 25=some (73,true,4)/\zdl prog 25=some (73,4,4)/\prog.underlying 28=some (.slice 53)/\lay prog 28=some (false,1)/\zad prog 28=some [.slice none 0 0]/\za0 prog 28=some (53,true,4)/\zdl prog 28=some (53,4,80)/\lay prog 29=some (true,1)/\zad prog 29=some [.slice none 0 0]/\zah prog 29 0=some (0,false,1)/\zag prog 29 0=some (0,false,1)/\zaB prog 29=true/\lay prog 30=some (true,1)/\zad prog 30=some [.slice none 0 0]/\zah prog 30 0=some (0,false,1)/\zag prog 30 0=some (0,false,1)/\zaB prog 30=true/\prog.underlying 31=some (.slice 69)/\lay prog 31=some (false,1)/\zad prog 31=some [.slice none 0 0]/\za0 prog 31=some (69,true,43)/\zdl prog 31=some (69,43,608)/\lay prog 32=some (false,1)/\zad prog 32=some [.nilFunc]/\lay prog 33=some (false,1)/\zad prog 33=some [.nilFunc]/\lay prog 34=some (false,1)/\zad prog 34=some [.nilFunc]/\lay prog 39=some (false,1)/\zad prog 39=some [.nilFunc]/\prog.underlying 40=some (.int .i64)/\lay prog 40=some (false,1)/\zad prog 40=some [.int .i64 0]:=by and_intros <;> kernel_rfl
theorem tA51:zdl Tryz.prog 51=some (64,35,480):=by kernel_rfl
theorem TF3:prog.underlying 50=some (.slice 9)/\lay prog 50=some (false,1)/\zad prog 50=some [.slice none 0 0]/\za0 prog 50=some (9,false,1)/\zdl prog 50=some (9,1,16)/\prog.underlying 51=some (.slice 64)/\lay prog 51=some (false,1)/\zad prog 51=some [.slice none 0 0]/\za0 prog 51=some (64,true,35)/\zdl prog 51=some (64,35,480)/\lay prog 52=some (true,4)/\zad prog 52=some [.string ByteArray.empty,.string ByteArray.empty,.slice none 0 0,.slice none 0 0]/\zah prog 52 0=some (0,false,1)/\zag prog 52 0=some (0,false,1)/\zah prog 52 1=some (1,false,1)/\zag prog 52 1=some (1,false,1)/\zah prog 52 2=some (2,false,1)/\zag prog 52 2=some (2,false,1)/\zah prog 52 3=some (3,false,1)/\zag prog 52 3=some (3,false,1)/\zaB prog 52=true/\lay prog 53=some (true,4)/\zad prog 53=some [.string ByteArray.empty,.string ByteArray.empty,.slice none 0 0,.slice none 0 0]/\zah prog 53 0=some (0,false,1)/\zag prog 53 0=some (0,false,1)/\zah prog 53 1=some (1,false,1)/\zag prog 53 1=some (1,false,1)/\zah prog 53 2=some (2,false,1)/\zag prog 53 2=some (2,false,1)/\zah prog 53 3=some (3,false,1)/\zag prog 53 3=some (3,false,1)/\zaB prog 53=true/\lay prog 54=some (true,2)/\zad prog 54=some [.int .i64 0,.string ByteArray.empty]/\zah prog 54 0=some (0,false,1)/\zag prog 54 0=some (0,false,1)/\zah prog 54 1=some (1,false,1)/\zag prog 54 1=some (1,false,1)/\zaB prog 54=true/\zdD prog 54=some [0,2]:=by and_intros <;> kernel_rfl
theorem TF4:lay prog 55=some (true,2)/\zad prog 55=some [.int .i64 0,.string ByteArray.empty]/\zah prog 55 0=some (0,false,1)/\zag prog 55 0=some (0,false,1)/\zah prog 55 1=some (1,false,1)/\zag prog 55 1=some (1,false,1)/\zaB prog 55=true/\zdD prog 55=some [0,2]/\prog.underlying 56=some (.slice 58)/\lay prog 56=some (false,1)/\zad prog 56=some [.slice none 0 0]/\za0 prog 56=some (58,true,7)/\zdl prog 56=some (58,7,96)/\lay prog 57=some (true,7)/\zad prog 57=some [.int .i64 0,.string ByteArray.empty,.int .i64 0,.string ByteArray.empty,.int .i64 0,.string ByteArray.empty,.slice none 0 0]/\zah prog 57 0=some (0,false,1)/\zag prog 57 0=some (0,false,1)/\zah prog 57 1=some (1,false,1)/\zag prog 57 1=some (1,false,1)/\zah prog 57 2=some (2,true,2)/\zag prog 57 2=some (2,true,2)/\zah prog 57 3=some (4,true,2)/\zag prog 57 3=some (4,true,2)/\zah prog 57 4=some (6,false,1)/\zag prog 57 4=some (6,false,1)/\zaB prog 57=true/\lay prog 58=some (true,7)/\zad prog 58=some [.int .i64 0,.string ByteArray.empty,.int .i64 0,.string ByteArray.empty,.int .i64 0,.string ByteArray.empty,.slice none 0 0]/\zah prog 58 0=some (0,false,1)/\zag prog 58 0=some (0,false,1)/\zah prog 58 1=some (1,false,1)/\zag prog 58 1=some (1,false,1)/\zah prog 58 2=some (2,true,2)/\zag prog 58 2=some (2,true,2)/\zah prog 58 3=some (4,true,2)/\zag prog 58 3=some (4,true,2)/\zah prog 58 4=some (6,false,1)/\zag prog 58 4=some (6,false,1)/\zaB prog 58=true/\lay prog 59=some (true,3):=by and_intros <;> kernel_rfl
theorem TF5:zad prog 59=some [.int .i64 0,.string ByteArray.empty,.int .i64 0]/\zah prog 59 0=some (0,false,1)/\zag prog 59 0=some (0,false,1)/\zah prog 59 1=some (1,false,1)/\zag prog 59 1=some (1,false,1)/\zah prog 59 2=some (2,false,1)/\zag prog 59 2=some (2,false,1)/\zaB prog 59=true/\zdD prog 59=some [0,2,0]/\lay prog 60=some (true,3)/\zad prog 60=some [.int .i64 0,.string ByteArray.empty,.int .i64 0]/\zah prog 60 0=some (0,false,1)/\zag prog 60 0=some (0,false,1)/\zah prog 60 1=some (1,false,1)/\zag prog 60 1=some (1,false,1)/\zah prog 60 2=some (2,false,1)/\zag prog 60 2=some (2,false,1)/\zaB prog 60=true/\zdD prog 60=some [0,2,0]/\prog.underlying 61=some (.slice 55)/\lay prog 61=some (false,1)/\zad prog 61=some [.slice none 0 0]/\za0 prog 61=some (55,true,2)/\zdl prog 61=some (55,2,24)/\prog.underlying 62=some (.slice 146)/\lay prog 62=some (false,1)/\zad prog 62=some [.slice none 0 0]/\za0 prog 62=some (146,true,2)/\zdl prog 62=some (146,2,32)/\lay prog 63=some (true,35)/\zad prog 63=some [.int .i64 0,.string ByteArray.empty,.int .i64 0,.string ByteArray.empty,.int .i64 0,.string ByteArray.empty,.int .i64 0,.string ByteArray.empty,.int .i64 0,.string ByteArray.empty,.int .i64 0,.string ByteArray.empty,.int .i64 0,.string ByteArray.empty,.slice none 0 0,.int .i64 0,.string ByteArray.empty,.int .i64 0,.string ByteArray.empty,.int .i64 0,.string ByteArray.empty,.slice none 0 0,.int .i64 0,.string ByteArray.empty,.int .i64 0,.string ByteArray.empty,.int .i64 0,.string ByteArray.empty,.slice none 0 0,.int .i64 0,.string ByteArray.empty,.int .i64 0,.string ByteArray.empty,.slice none 0 0,.slice none 0 0]/\zah prog 63 0=some (0,false,1)/\zag prog 63 0=some (0,false,1)/\zah prog 63 1=some (1,false,1)/\zag prog 63 1=some (1,false,1)/\zah prog 63 2=some (2,true,2)/\zag prog 63 2=some (2,true,2)/\zah prog 63 3=some (4,true,2)/\zag prog 63 3=some (4,true,2)/\zah prog 63 4=some (6,true,2):=by and_intros <;> kernel_rfl
theorem TF6:zag prog 63 4=some (6,true,2)/\zah prog 63 5=some (8,true,7)/\zag prog 63 5=some (8,true,7)/\zah prog 63 6=some (15,true,7)/\zag prog 63 6=some (15,true,7)/\zah prog 63 7=some (22,true,7)/\zag prog 63 7=some (22,true,7)/\zah prog 63 8=some (29,true,3)/\zag prog 63 8=some (29,true,3)/\zah prog 63 9=some (32,false,1)/\zag prog 63 9=some (32,false,1)/\zah prog 63 10=some (33,false,1)/\zag prog 63 10=some (33,false,1)/\zah prog 63 11=some (34,false,1)/\zag prog 63 11=some (34,false,1)/\zaB prog 63=true/\lay prog 64=some (true,35)/\zad prog 64=some [.int .i64 0,.string ByteArray.empty,.int .i64 0,.string ByteArray.empty,.int .i64 0,.string ByteArray.empty,.int .i64 0,.string ByteArray.empty,.int .i64 0,.string ByteArray.empty,.int .i64 0,.string ByteArray.empty,.int .i64 0,.string ByteArray.empty,.slice none 0 0,.int .i64 0,.string ByteArray.empty,.int .i64 0,.string ByteArray.empty,.int .i64 0,.string ByteArray.empty,.slice none 0 0,.int .i64 0,.string ByteArray.empty,.int .i64 0,.string ByteArray.empty,.int .i64 0,.string ByteArray.empty,.slice none 0 0,.int .i64 0,.string ByteArray.empty,.int .i64 0,.string ByteArray.empty,.slice none 0 0,.slice none 0 0]/\zah prog 64 0=some (0,false,1)/\zag prog 64 0=some (0,false,1)/\zah prog 64 1=some (1,false,1)/\zag prog 64 1=some (1,false,1)/\zah prog 64 2=some (2,true,2)/\zag prog 64 2=some (2,true,2)/\zah prog 64 3=some (4,true,2)/\zag prog 64 3=some (4,true,2)/\zah prog 64 4=some (6,true,2)/\zag prog 64 4=some (6,true,2)/\zah prog 64 5=some (8,true,7)/\zag prog 64 5=some (8,true,7)/\zah prog 64 6=some (15,true,7)/\zag prog 64 6=some (15,true,7)/\zah prog 64 7=some (22,true,7)/\zag prog 64 7=some (22,true,7)/\zah prog 64 8=some (29,true,3)/\zag prog 64 8=some (29,true,3)/\zah prog 64 9=some (32,false,1)/\zag prog 64 9=some (32,false,1)/\zah prog 64 10=some (33,false,1)/\zag prog 64 10=some (33,false,1):=by and_intros <;> kernel_rfl
theorem TF7:zah prog 64 11=some (34,false,1)/\zag prog 64 11=some (34,false,1)/\zaB prog 64=true/\lay prog 65=some (true,2)/\zad prog 65=some [.int .i64 0,.string ByteArray.empty]/\zah prog 65 0=some (0,false,1)/\zag prog 65 0=some (0,false,1)/\zah prog 65 1=some (1,false,1)/\zag prog 65 1=some (1,false,1)/\zaB prog 65=true/\zdD prog 65=some [0,2]/\lay prog 66=some (true,2)/\zad prog 66=some [.int .i64 0,.string ByteArray.empty]/\zah prog 66 0=some (0,false,1)/\zag prog 66 0=some (0,false,1)/\zah prog 66 1=some (1,false,1)/\zag prog 66 1=some (1,false,1)/\zaB prog 66=true/\zdD prog 66=some [0,2]/\lay prog 68=some (true,43)/\zad prog 68=some [.string ByteArray.empty,.int .i64 0,.string ByteArray.empty,.bool false,.int .i64 0,.string ByteArray.empty,.int .i64 0,.string ByteArray.empty,.int .i64 0,.string ByteArray.empty,.int .i64 0,.string ByteArray.empty,.int .i64 0,.string ByteArray.empty,.int .i64 0,.string ByteArray.empty,.int .i64 0,.string ByteArray.empty,.slice none 0 0,.int .i64 0,.string ByteArray.empty,.int .i64 0,.string ByteArray.empty,.int .i64 0,.string ByteArray.empty,.slice none 0 0,.int .i64 0,.string ByteArray.empty,.int .i64 0,.string ByteArray.empty,.int .i64 0,.string ByteArray.empty,.slice none 0 0,.int .i64 0,.string ByteArray.empty,.int .i64 0,.string ByteArray.empty,.slice none 0 0,.slice none 0 0,.string ByteArray.empty,.string ByteArray.empty,.slice none 0 0,.slice none 0 0]/\zah prog 68 0=some (0,false,1)/\zag prog 68 0=some (0,false,1)/\zah prog 68 1=some (1,true,2)/\zag prog 68 1=some (1,true,2)/\zah prog 68 2=some (3,false,1)/\zag prog 68 2=some (3,false,1)/\zah prog 68 3=some (4,true,35)/\zag prog 68 3=some (4,true,35)/\zah prog 68 4=some (39,true,4)/\zag prog 68 4=some (39,true,4)/\zaB prog 68=true/\lay prog 69=some (true,43)/\zad prog 69=some [.string ByteArray.empty,.int .i64 0,.string ByteArray.empty,.bool false,.int .i64 0,.string ByteArray.empty,.int .i64 0,.string ByteArray.empty,.int .i64 0,.string ByteArray.empty,.int .i64 0,.string ByteArray.empty,.int .i64 0,.string ByteArray.empty,.int .i64 0,.string ByteArray.empty,.int .i64 0,.string ByteArray.empty,.slice none 0 0,.int .i64 0,.string ByteArray.empty,.int .i64 0,.string ByteArray.empty,.int .i64 0,.string ByteArray.empty,.slice none 0 0,.int .i64 0,.string ByteArray.empty,.int .i64 0,.string ByteArray.empty,.int .i64 0,.string ByteArray.empty,.slice none 0 0,.int .i64 0,.string ByteArray.empty,.int .i64 0,.string ByteArray.empty,.slice none 0 0,.slice none 0 0,.string ByteArray.empty,.string ByteArray.empty,.slice none 0 0,.slice none 0 0]/\zah prog 69 0=some (0,false,1)/\zag prog 69 0=some (0,false,1)/\zah prog 69 1=some (1,true,2)/\zag prog 69 1=some (1,true,2)/\zah prog 69 2=some (3,false,1)/\zag prog 69 2=some (3,false,1):=by and_intros <;> kernel_rfl
theorem TF8:zah prog 69 3=some (4,true,35)/\zag prog 69 3=some (4,true,35)/\zah prog 69 4=some (39,true,4)/\zag prog 69 4=some (39,true,4)/\zaB prog 69=true/\prog.underlying 71=some (.slice 202)/\lay prog 71=some (false,1)/\zad prog 71=some [.slice none 0 0]/\za0 prog 71=some (202,true,3)/\zdl prog 71=some (202,3,3)/\prog.underlying 72=some (.array 3 71)/\lay prog 72=some (true,3)/\zad prog 72=some [.slice none 0 0,.slice none 0 0,.slice none 0 0]/\za0 prog 72=none/\zcO prog 72=some (3,false,1)/\zag prog 72 0=some (0,false,1)/\zag prog 72 1=some (1,false,1)/\zag prog 72 2=some (2,false,1)/\zaB prog 72=true/\prog.underlying 73=some (.array 4 5)/\lay prog 73=some (true,4)/\zad prog 73=some [.int .u8 0,.int .u8 0,.int .u8 0,.int .u8 0]/\za0 prog 73=none/\zcO prog 73=some (4,false,1)/\zag prog 73 0=some (0,false,1)/\zag prog 73 1=some (1,false,1)/\zag prog 73 2=some (2,false,1)/\zag prog 73 3=some (3,false,1)/\zaB prog 73=true/\zdD prog 73=some [0,0,0,0]/\lay prog 74=some (true,3)/\zad prog 74=some [.string ByteArray.empty,.int .i64 0,.string ByteArray.empty]/\zah prog 74 0=some (0,false,1)/\zag prog 74 0=some (0,false,1)/\zah prog 74 1=some (1,true,2)/\zag prog 74 1=some (1,true,2)/\zaB prog 74=true/\zdD prog 74=some [2,0,2]/\lay prog 75=some (true,3)/\zad prog 75=some [.string ByteArray.empty,.int .i64 0,.string ByteArray.empty]:=by and_intros <;> kernel_rfl
theorem TF9:zah prog 75 0=some (0,false,1)/\zag prog 75 0=some (0,false,1)/\zah prog 75 1=some (1,true,2)/\zag prog 75 1=some (1,true,2)/\zaB prog 75=true/\zdD prog 75=some [2,0,2]/\lay prog 78=some (true,3)/\zad prog 78=some [.slice none 0 0,.slice none 0 0,.slice none 0 0]/\zah prog 78 0=some (0,true,1)/\zag prog 78 0=some (0,true,1)/\zah prog 78 1=some (1,true,1)/\zag prog 78 1=some (1,true,1)/\zah prog 78 2=some (2,true,1)/\zag prog 78 2=some (2,true,1)/\zaB prog 78=true/\lay prog 79=some (true,3)/\zad prog 79=some [.slice none 0 0,.slice none 0 0,.slice none 0 0]/\zah prog 79 0=some (0,true,1)/\zag prog 79 0=some (0,true,1)/\zah prog 79 1=some (1,true,1)/\zag prog 79 1=some (1,true,1)/\zah prog 79 2=some (2,true,1)/\zag prog 79 2=some (2,true,1)/\zaB prog 79=true/\prog.underlying 83=some (.slice 75)/\lay prog 83=some (false,1)/\zad prog 83=some [.slice none 0 0]/\za0 prog 83=some (75,true,3)/\zdl prog 83=some (75,3,40)/\lay prog 84=some (true,2)/\zad prog 84=some [.slice none 0 0,.int .i64 0]/\zah prog 84 0=some (0,false,1)/\zag prog 84 0=some (0,false,1)/\zah prog 84 1=some (1,false,1)/\zag prog 84 1=some (1,false,1)/\zaB prog 84=true/\lay prog 85=some (true,2)/\zad prog 85=some [.slice none 0 0,.int .i64 0]/\zah prog 85 0=some (0,false,1)/\zag prog 85 0=some (0,false,1):=by and_intros <;> kernel_rfl
theorem TF10:zah prog 85 1=some (1,false,1)/\zag prog 85 1=some (1,false,1)/\zaB prog 85=true/\lay prog 88=some (true,3)/\zad prog 88=some [.slice none 0 0,.slice none 0 0,.int .i64 0]/\zah prog 88 0=some (0,true,1)/\zag prog 88 0=some (0,true,1)/\zah prog 88 1=some (1,false,1)/\zag prog 88 1=some (1,false,1)/\zah prog 88 2=some (2,false,1)/\zag prog 88 2=some (2,false,1)/\zaB prog 88=true/\lay prog 89=some (true,3)/\zad prog 89=some [.slice none 0 0,.slice none 0 0,.int .i64 0]/\zah prog 89 0=some (0,true,1)/\zag prog 89 0=some (0,true,1)/\zah prog 89 1=some (1,false,1)/\zag prog 89 1=some (1,false,1)/\zah prog 89 2=some (2,false,1)/\zag prog 89 2=some (2,false,1)/\zaB prog 89=true/\lay prog 92=some (true,2)/\zad prog 92=some [.int .i64 0,.int .i64 0]/\zah prog 92 0=some (0,false,1)/\zag prog 92 0=some (0,false,1)/\zah prog 92 1=some (1,false,1)/\zag prog 92 1=some (1,false,1)/\zaB prog 92=true/\zdD prog 92=some [0,0]/\lay prog 93=some (true,2)/\zad prog 93=some [.int .i64 0,.int .i64 0]/\zah prog 93 0=some (0,false,1)/\zag prog 93 0=some (0,false,1)/\zah prog 93 1=some (1,false,1)/\zag prog 93 1=some (1,false,1)/\zaB prog 93=true/\zdD prog 93=some [0,0]/\lay prog 109=some (false,1)/\zad prog 109=some [.nilFunc]/\lay prog 111=some (false,1):=by and_intros <;> kernel_rfl
theorem TF11:zad prog 111=some [.nilFunc]/\lay prog 113=some (false,1)/\zad prog 113=some [.nilFunc]/\lay prog 116=some (false,1)/\zad prog 116=some [.nilFunc]/\lay prog 118=some (false,1)/\zad prog 118=some [.nilFunc]/\lay prog 131=some (false,1)/\zad prog 131=some [.nilFunc]/\lay prog 132=some (false,1)/\zad prog 132=some [.nilFunc]/\lay prog 135=some (false,1)/\zad prog 135=some [.nilFunc]/\lay prog 136=some (false,1)/\zad prog 136=some [.nilFunc]/\lay prog 145=some (true,2)/\zad prog 145=some [.string ByteArray.empty,.string ByteArray.empty]/\zah prog 145 0=some (0,false,1)/\zag prog 145 0=some (0,false,1)/\zah prog 145 1=some (1,false,1)/\zag prog 145 1=some (1,false,1)/\zaB prog 145=true/\zdD prog 145=some [2,2]/\lay prog 146=some (true,2)/\zad prog 146=some [.string ByteArray.empty,.string ByteArray.empty]/\zah prog 146 0=some (0,false,1)/\zag prog 146 0=some (0,false,1)/\zah prog 146 1=some (1,false,1)/\zag prog 146 1=some (1,false,1)/\zaB prog 146=true/\zdD prog 146=some [2,2]/\prog.underlying 147=some (.slice 166)/\lay prog 147=some (false,1)/\zad prog 147=some [.slice none 0 0]/\za0 prog 147=some (166,true,3)/\zdl prog 147=some (166,3,40)/\prog.underlying 152=some (.slice 30)/\lay prog 152=some (false,1)/\zad prog 152=some [.slice none 0 0]/\za0 prog 152=some (30,true,1):=by and_intros <;> kernel_rfl
theorem TF12:zdl prog 152=some (30,1,24)/\prog.underlying 162=some (.slice 221)/\lay prog 162=some (false,1)/\zad prog 162=some [.slice none 0 0]/\za0 prog 162=some (221,true,3)/\zdl prog 162=some (221,3,24)/\lay prog 166=some (true,3)/\zad prog 166=some [.string ByteArray.empty,.int .i64 0,.string ByteArray.empty]/\zah prog 166 0=some (0,false,1)/\zag prog 166 0=some (0,false,1)/\zah prog 166 1=some (1,true,2)/\zag prog 166 1=some (1,true,2)/\zaB prog 166=true/\zdD prog 166=some [2,0,2]/\prog.underlying 168=some (.slice 3)/\lay prog 168=some (false,1)/\zad prog 168=some [.slice none 0 0]/\za0 prog 168=some (3,false,1)/\zdl prog 168=some (3,1,8)/\prog.underlying 174=some (.array 2 9)/\lay prog 174=some (true,2)/\zad prog 174=some [.string ByteArray.empty,.string ByteArray.empty]/\za0 prog 174=none/\zcO prog 174=some (2,false,1)/\zag prog 174 0=some (0,false,1)/\zag prog 174 1=some (1,false,1)/\zaB prog 174=true/\zdD prog 174=some [2,2]/\lay prog 176=some (true,3)/\zad prog 176=some [.slice none 0 0,.int .i64 0,.string ByteArray.empty]/\zah prog 176 0=some (0,false,1)/\zag prog 176 0=some (0,false,1)/\zah prog 176 1=some (1,true,2)/\zag prog 176 1=some (1,true,2)/\zaB prog 176=true/\lay prog 177=some (true,3)/\zad prog 177=some [.slice none 0 0,.int .i64 0,.string ByteArray.empty]/\zah prog 177 0=some (0,false,1)/\zag prog 177 0=some (0,false,1)/\zah prog 177 1=some (1,true,2):=by and_intros <;> kernel_rfl
theorem TF13:zag prog 177 1=some (1,true,2)/\zaB prog 177=true/\prog.underlying 180=some (.array 2 3)/\lay prog 180=some (true,2)/\zad prog 180=some [.int .i64 0,.int .i64 0]/\za0 prog 180=none/\zcO prog 180=some (2,false,1)/\zag prog 180 0=some (0,false,1)/\zag prog 180 1=some (1,false,1)/\zaB prog 180=true/\zdD prog 180=some [0,0]/\lay prog 190=some (false,1)/\zad prog 190=some [.nilFunc]/\lay prog 199=some (false,1)/\zad prog 199=some [.nilFunc]/\prog.underlying 202=some (.array 3 5)/\lay prog 202=some (true,3)/\zad prog 202=some [.int .u8 0,.int .u8 0,.int .u8 0]/\za0 prog 202=none/\zcO prog 202=some (3,false,1)/\zag prog 202 0=some (0,false,1)/\zag prog 202 1=some (1,false,1)/\zag prog 202 2=some (2,false,1)/\zaB prog 202=true/\zdD prog 202=some [0,0,0]/\prog.underlying 204=some (.slice 211)/\lay prog 204=some (false,1)/\zad prog 204=some [.slice none 0 0]/\za0 prog 204=some (211,false,1)/\zdl prog 204=some (211,1,8)/\prog.underlying 210=some (.map 166 53)/\lay prog 210=some (false,1)/\zad prog 210=some [.map none]/\prog.underlying 211=some (.map 166 53)/\lay prog 211=some (false,1)/\zad prog 211=some [.map none]/\lay prog 212=some (false,1)/\zad prog 212=some [.nilFunc]/\prog.underlying 217=some (.pointer 53)/\lay prog 217=some (false,1):=by and_intros <;> kernel_rfl
theorem TF14:zad prog 217=some [.pointer none]/\lay prog 220=some (true,3)/\zad prog 220=some [.int .i64 0,.int .i64 0,.int .i64 0]/\zah prog 220 0=some (0,false,1)/\zag prog 220 0=some (0,false,1)/\zah prog 220 1=some (1,false,1)/\zag prog 220 1=some (1,false,1)/\zah prog 220 2=some (2,false,1)/\zag prog 220 2=some (2,false,1)/\zaB prog 220=true/\zdD prog 220=some [0,0,0]/\lay prog 221=some (true,3)/\zad prog 221=some [.int .i64 0,.int .i64 0,.int .i64 0]/\zah prog 221 0=some (0,false,1)/\zag prog 221 0=some (0,false,1)/\zah prog 221 1=some (1,false,1)/\zag prog 221 1=some (1,false,1)/\zah prog 221 2=some (2,false,1)/\zag prog 221 2=some (2,false,1)/\zaB prog 221=true/\zdD prog 221=some [0,0,0]/\prog.underlying 224=some (.map 9 3)/\lay prog 224=some (false,1)/\zad prog 224=some [.map none]/\prog.underlying 225=some (.map 221 4)/\lay prog 225=some (false,1)/\zad prog 225=some [.map none]/\prog.underlying 226=some (.slice 232)/\lay prog 226=some (false,1)/\zad prog 226=some [.slice none 0 0]/\za0 prog 226=some (232,true,6)/\zdl prog 226=some (232,6,96)/\lay prog 227=some (true,3)/\zad prog 227=some [.slice none 0 0,.map none,.map none]/\zah prog 227 0=some (0,false,1)/\zag prog 227 0=some (0,false,1)/\zah prog 227 1=some (1,false,1)/\zag prog 227 1=some (1,false,1)/\zah prog 227 2=some (2,false,1)/\zag prog 227 2=some (2,false,1):=by and_intros <;> kernel_rfl
theorem TF15:zaB prog 227=true/\lay prog 228=some (true,3)/\zad prog 228=some [.slice none 0 0,.map none,.map none]/\zah prog 228 0=some (0,false,1)/\zag prog 228 0=some (0,false,1)/\zah prog 228 1=some (1,false,1)/\zag prog 228 1=some (1,false,1)/\zah prog 228 2=some (2,false,1)/\zag prog 228 2=some (2,false,1)/\zaB prog 228=true/\prog.underlying 229=some (.map 9 64)/\lay prog 229=some (false,1)/\zad prog 229=some [.map none]/\prog.underlying 230=some (.map 9 4)/\lay prog 230=some (false,1)/\zad prog 230=some [.map none]/\lay prog 231=some (true,6)/\zad prog 231=some [.string ByteArray.empty,.string ByteArray.empty,.slice none 0 0,.slice none 0 0,.map none,.map none]/\zah prog 231 0=some (0,true,4)/\zag prog 231 0=some (0,true,4)/\zah prog 231 1=some (4,false,1)/\zag prog 231 1=some (4,false,1)/\zah prog 231 2=some (5,false,1)/\zag prog 231 2=some (5,false,1)/\zaB prog 231=true/\lay prog 232=some (true,6)/\zad prog 232=some [.string ByteArray.empty,.string ByteArray.empty,.slice none 0 0,.slice none 0 0,.map none,.map none]/\zah prog 232 0=some (0,true,4)/\zag prog 232 0=some (0,true,4)/\zah prog 232 1=some (4,false,1)/\zag prog 232 1=some (4,false,1)/\zah prog 232 2=some (5,false,1)/\zag prog 232 2=some (5,false,1)/\zaB prog 232=true/\lay prog 238=some (false,1)/\zad prog 238=some [.nilFunc]/\lay prog 239=some (false,1)/\zad prog 239=some [.nilFunc]/\lay prog 243=some (false,1)/\zad prog 243=some [.nilFunc]:=by and_intros <;> kernel_rfl
theorem TF16:prog.underlying 253=some (.int .u64)/\lay prog 253=some (false,1)/\zad prog 253=some [.int .u64 0]/\prog.underlying 265=some (.map 166 4)/\lay prog 265=some (false,1)/\zad prog 265=some [.map none]/\lay prog 267=some (false,1)/\zad prog 267=some [.nilFunc]/\lay prog 268=some (false,1)/\zad prog 268=some [.nilFunc]/\lay prog 270=some (false,1)/\zad prog 270=some [.nilFunc]/\prog.underlying 287=some (.map 3 4)/\lay prog 287=some (false,1)/\zad prog 287=some [.map none]/\lay prog 294=some (false,1)/\zad prog 294=some [.nilFunc]/\prog.underlying 300=some (.int .i64)/\lay prog 300=some (false,1)/\zad prog 300=some [.int .i64 0]/\prog.underlying 307=some (.int .u32)/\lay prog 307=some (false,1)/\zad prog 307=some [.int .u32 0]/\prog.underlying 309=some (.int .u64)/\lay prog 309=some (false,1)/\zad prog 309=some [.int .u64 0]/\lay prog 320=some (false,1)/\zad prog 320=some [.nilFunc]/\lay prog 326=some (false,1)/\zad prog 326=some [.nilFunc]/\lay prog 327=some (false,1)/\zad prog 327=some [.nilFunc]/\lay prog 332=some (false,1)/\zad prog 332=some [.nilFunc]/\lay prog 334=some (false,1)/\zad prog 334=some [.nilFunc]/\prog.underlying 337=some (.int .u64)/\lay prog 337=some (false,1)/\zad prog 337=some [.int .u64 0]/\prog.underlying 341=some (.pointer 3):=by and_intros <;> kernel_rfl
theorem TF17:lay prog 341=some (false,1)/\zad prog 341=some [.pointer none]/\prog.underlying 351=some (.map 3 3)/\lay prog 351=some (false,1)/\zad prog 351=some [.map none]/\prog.underlying 362=some (.pointer 337)/\lay prog 362=some (false,1)/\zad prog 362=some [.pointer none]/\lay prog 373=some (true,4)/\zad prog 373=some [.pointer none,.pointer none,.pointer none,.string ByteArray.empty]/\zah prog 373 0=some (0,false,1)/\zag prog 373 0=some (0,false,1)/\zah prog 373 1=some (1,false,1)/\zag prog 373 1=some (1,false,1)/\zah prog 373 2=some (2,false,1)/\zag prog 373 2=some (2,false,1)/\zah prog 373 3=some (3,false,1)/\zag prog 373 3=some (3,false,1)/\zaB prog 373=true/\lay prog 374=some (true,4)/\zad prog 374=some [.pointer none,.pointer none,.pointer none,.string ByteArray.empty]/\zah prog 374 0=some (0,false,1)/\zag prog 374 0=some (0,false,1)/\zah prog 374 1=some (1,false,1)/\zag prog 374 1=some (1,false,1)/\zah prog 374 2=some (2,false,1)/\zag prog 374 2=some (2,false,1)/\zah prog 374 3=some (3,false,1)/\zag prog 374 3=some (3,false,1)/\zaB prog 374=true/\prog.underlying 379=some (.int .u8)/\lay prog 379=some (false,1)/\zad prog 379=some [.int .u8 0]/\prog.underlying 380=some (.int .u8)/\lay prog 380=some (false,1)/\zad prog 380=some [.int .u8 0]/\lay prog 381=some (false,1)/\zad prog 381=some [.nilFunc]/\prog.underlying 382=some (.pointer 5)/\lay prog 382=some (false,1):=by and_intros <;> kernel_rfl
theorem TF18:zad prog 382=some [.pointer none]/\prog.underlying 383=some (.int .i32)/\lay prog 383=some (false,1)/\zad prog 383=some [.int .i32 0]/\prog.underlying 384=some (.int .i32)/\lay prog 384=some (false,1)/\zad prog 384=some [.int .i32 0]/\lay prog 385=some (true,11)/\zad prog 385=some [.int .u64 0,.int .u64 0,.int .u32 0,.int .u8 0,.int .u8 0,.int .u8 0,.int .u8 0,.nilFunc,.pointer none,.int .i32 0,.int .i32 0]/\zah prog 385 0=some (0,false,1)/\zag prog 385 0=some (0,false,1)/\zah prog 385 1=some (1,false,1)/\zag prog 385 1=some (1,false,1)/\zah prog 385 2=some (2,false,1)/\zag prog 385 2=some (2,false,1)/\zah prog 385 3=some (3,false,1)/\zag prog 385 3=some (3,false,1)/\zah prog 385 4=some (4,false,1)/\zag prog 385 4=some (4,false,1)/\zah prog 385 5=some (5,false,1)/\zag prog 385 5=some (5,false,1)/\zah prog 385 6=some (6,false,1)/\zag prog 385 6=some (6,false,1)/\zah prog 385 7=some (7,false,1)/\zag prog 385 7=some (7,false,1)/\zah prog 385 8=some (8,false,1)/\zag prog 385 8=some (8,false,1)/\zah prog 385 9=some (9,false,1)/\zag prog 385 9=some (9,false,1)/\zah prog 385 10=some (10,false,1)/\zag prog 385 10=some (10,false,1)/\zaB prog 385=true/\lay prog 386=some (true,11)/\zad prog 386=some [.int .u64 0,.int .u64 0,.int .u32 0,.int .u8 0,.int .u8 0,.int .u8 0,.int .u8 0,.nilFunc,.pointer none,.int .i32 0,.int .i32 0]/\zah prog 386 0=some (0,false,1)/\zag prog 386 0=some (0,false,1)/\zah prog 386 1=some (1,false,1)/\zag prog 386 1=some (1,false,1)/\zah prog 386 2=some (2,false,1)/\zag prog 386 2=some (2,false,1):=by and_intros <;> kernel_rfl
theorem TF19:zah prog 386 3=some (3,false,1)/\zag prog 386 3=some (3,false,1)/\zah prog 386 4=some (4,false,1)/\zag prog 386 4=some (4,false,1)/\zah prog 386 5=some (5,false,1)/\zag prog 386 5=some (5,false,1)/\zah prog 386 6=some (6,false,1)/\zag prog 386 6=some (6,false,1)/\zah prog 386 7=some (7,false,1)/\zag prog 386 7=some (7,false,1)/\zah prog 386 8=some (8,false,1)/\zag prog 386 8=some (8,false,1)/\zah prog 386 9=some (9,false,1)/\zag prog 386 9=some (9,false,1)/\zah prog 386 10=some (10,false,1)/\zag prog 386 10=some (10,false,1)/\zaB prog 386=true/\lay prog 387=some (false,1)/\zad prog 387=some [.pointer none]/\zrL prog 53=some (.agg [.lit (.string ByteArray.empty),.lit (.string ByteArray.empty),.sl [],.sl []])/\zrL prog 3=some (.lit (.int .i64 0))/\zrL prog 4=some (.lit (.bool false))/\zrL prog 64=some (.agg [.lit (.int .i64 0),.lit (.string ByteArray.empty),.lit (.int .i64 0),.lit (.string ByteArray.empty),.lit (.int .i64 0),.lit (.string ByteArray.empty),.lit (.int .i64 0),.lit (.string ByteArray.empty),.lit (.int .i64 0),.lit (.string ByteArray.empty),.lit (.int .i64 0),.lit (.string ByteArray.empty),.lit (.int .i64 0),.lit (.string ByteArray.empty),.sl [],.lit (.int .i64 0),.lit (.string ByteArray.empty),.lit (.int .i64 0),.lit (.string ByteArray.empty),.lit (.int .i64 0),.lit (.string ByteArray.empty),.sl [],.lit (.int .i64 0),.lit (.string ByteArray.empty),.lit (.int .i64 0),.lit (.string ByteArray.empty),.lit (.int .i64 0),.lit (.string ByteArray.empty),.sl [],.lit (.int .i64 0),.lit (.string ByteArray.empty),.lit (.int .i64 0),.lit (.string ByteArray.empty),.sl [],.sl []]):=by and_intros <;> kernel_rfl
set_option linter.defProp false
def TF:=And.intro TF0 (And.intro TF1 (And.intro TF2 (And.intro TF3 (And.intro TF4 (And.intro TF5 (And.intro TF6 (And.intro TF7 (And.intro TF8 (And.intro TF9 (And.intro TF10 (And.intro TF11 (And.intro TF12 (And.intro TF13 (And.intro TF14 (And.intro TF15 (And.intro TF16 (And.intro TF17 (And.intro TF18 TF19))))))))))))))))))
/-! ### Data -/
/-- Strings and zaX as long and as large as they can be. -/
abbrev Str:={s:ByteArray // s.size<=maxLen}
abbrev I64:={n:Int // (Lit.int .i64 n).wf =true}
structure Num where
 n:Int
 p:Str
 deriving DecidableEq
structure Rule where
 kind:Int
 from':Str
 n:Int
 deriving DecidableEq
structure Bind where
 port:Str
 chan:Str
 deriving DecidableEq
inductive Expr where
 | mk (op:Int) (name:Str) (k w:Num) (args:List Expr)
def Expr.op:Expr->Int | .mk o _ _ _ _=>o
def Expr.name:Expr->Str | .mk _ n _ _ _=>n
def Expr.k:Expr->Num | .mk _ _ k _ _=>k
def Expr.w:Expr->Num | .mk _ _ _ w _=>w
def Expr.args:Expr->List Expr | .mk _ _ _ _ a=>a
structure Item where
 kind:I64
 name:Str
 width:Num
 depth:Num
 init:Num
 a:Expr
 b:Expr
 c:Expr
 rule:Rule
 of:Str
 args:List Num
 ports:List Bind
structure Module where
 name:Str
 clock:Str
 params:List Str
 items:List Item
structure Problem where
 code:Int
 module:Int
 item:Int
 deriving DecidableEq
def eU8(n:Nat):D:=.lit (.int .u8 n)
def eI(n:Int):D:=.lit (.int .i64 n)
def eB(b:Bool):D:=.lit (.bool b)
def eS(s:Str):D:=.lit (.string s.1)
theorem str_eq(x y:Str):decide (x.1=y.1)=decide (x=y):=by rw[decide_eq_decide]; exact Subtype.ext_iff.symm
def zgY(x:Num):List D:=[eI x.n,eS x.p]
def zim(x:Rule):List D:=[eI x.kind,eS x.from',eI x.n]
def zj4(x:Bind):List D:=[eS x.port,eS x.chan]
def zbZ(x:Problem):List D:=[eI x.code,eI x.module,eI x.item]
def zd7(l:List Str):D:=.sl (l.map fun s=>[eS s])
def zfv(l:List Int):D:=.sl (l.map fun s=>[eI s])
def ziR(l:List Num):D:=.sl (l.map zgY)
def zen(l:List Bind):D:=.sl (l.map zj4)
def zeY(l:List Problem):D:=.sl (l.map zbZ)
def zau(l:List Nat):D:=.sl (l.map fun n=>[eU8 n])
mutual
def zby:Expr->List D
 | .mk o n k w a=>[eI o,eS n,eI k.n,eS k.p,eI w.n,eS w.p,.sl (ziQ a)]
def ziQ:List Expr->List (List D)
 | []=>[]
 | e::r=>zby e::ziQ r
end
theorem zkl: ∀l:List Expr,ziQ l=l.map zby
 | []=>by simp[ziQ]
 | e::r=>by simp[ziQ,zkl r]
theorem zca(e:Expr):zby e=[eI e.op,eS e.name,eI e.k.n,eS e.k.p,eI e.w.n,eS e.w.p,.sl (e.args.map zby)]:=by
 cases e; simp[zby,zkl,Expr.op,Expr.name,Expr.k,Expr.w,Expr.args]
def zbH(l:List Expr):D:=.sl (l.map zby)
def zaK(x:Item):List D:=eI x.kind.1::eS x.name::(zgY x.width++(zgY x.depth++(zgY x.init++(zby x.a++(zby x.b++(zby x.c++(zim x.rule++[eS x.of,ziR x.args,zen x.ports])))))))
def zbU(l:List Item):D:=.sl (l.map zaK)
def zaC(m:Module):List D:=[eS m.name,eS m.clock,zd7 m.params,zbU m.items]
def zaz(l:List Module):D:=.sl (l.map zaC)
/-- Regions walked with chains. -/
def chL(i:Nat):List Gh:=if 2000<=i then [.chn]else []
def KD:=And.intro @str_eq (And.intro @chL.eq_1 (And.intro @eU8.eq_1 (And.intro @eI.eq_1 (And.intro @eB.eq_1 (And.intro @eS.eq_1 (And.intro @zgY.eq_1 (And.intro @zim.eq_1 (And.intro @zj4.eq_1 (And.intro @zbZ.eq_1 (And.intro @zd7.eq_1 (And.intro @zfv.eq_1 (And.intro @ziR.eq_1 (And.intro @zen.eq_1 (And.intro @zeY.eq_1 (And.intro @zau.eq_1 (And.intro @zca (And.intro @zbH.eq_1 (And.intro @zaK.eq_1 (And.intro @zbU.eq_1 (And.intro @zaC.eq_1 @zaz.eq_1))))))))))))))))))))
theorem zA.{u}{α:Sort u}(a:α):(a=a)=True:=eq_self a
theorem zB.{u}{α:Sort u}(a b:α):(a≠b)= ¬(a=b):=ne_eq a b
theorem zC.{u}(α:Sort u):(α->True)=True:=implies_true α
theorem zD.{u}{b:Prop}(α:Sort u)[i:Nonempty α]:(α->b)↔b:=forall_const α
theorem zF.{u}{α:Sort u}{i:Decidable True}(t e:α):ite True t e=t:=if_true t e
theorem zG.{u}{α:Sort u}{i:Decidable False}(t e:α):ite False t e=e:=if_false t e
theorem zH.{u}{α:Sort u}(a b:α):cond true a b=a:=rfl
theorem zI.{u}{α:Sort u}(a b:α):cond false a b=b:=rfl
theorem zJ.{u}{α:Sort u}{p:α->Prop}{c:α}:(∀a,a=c->p a)↔p c:=forall_eq
def ZZ:=And.intro @zA.{1} (And.intro @zB.{1} (And.intro @zC.{0} (And.intro @zC.{1} (And.intro @zD.{0} (And.intro @zD.{1} (And.intro @zF.{1} (And.intro @zG.{1} (And.intro @zH.{1} (And.intro @zI.{1} @zJ.{1})))))))))
def ZY:=And.intro GE (And.intro ZZ (And.intro @List.replicate.eq_1.{0} @List.replicate.eq_2.{0}))
def ZE:=And.intro SE (And.intro SX (And.intro TF (And.intro KD ZY)))
def ZM:=And.intro SE (And.intro SXm (And.intro TF (And.intro KD ZY)))
theorem zX.{u}{α:Sort u}(a:α): ∃x,a=x:=⟨a,rfl⟩
def zN:=And.intro Nat.zero_add Int.natCast_one
open Nat renaming reduceEqDiff->pE,reduceLT->pL,reduceAdd->pA,reduceSub->pS,reduceMul->pM,reduceLeDiff->pD
open Int renaming reduceToNat->qT,reduceGT->qG,reduceLT->qL,reduceGE->qH,reduceBNe->qN,reduceBEq->qB,reduceLE->qE,reduceNe->qO,reduceAdd->qA,reduceNeg->qM
set_option maxRecDepth 100000
set_option maxHeartbeats 1000000
theorem zaa{α β:Type}{f:α->β}{l:List α}{i:Nat}(h:i<l.length)(d:β):(l.map f).getD i d=f l[i]:=by simp[List.getD,h]
theorem zax{i n:Nat}(h:i<n):decide ((i:Int)<(n:Int))=true:=by simp; omega
theorem zaI{i n:Nat}(h:n<=i):decide ((i:Int)<(n:Int))=false:=by simp; omega
theorem zal{i n:Nat}(h:i<n):(0<=(i:Int)/\(i:Int)<(n:Int))=True:=by simp; omega
theorem zaQ{x:Int}(h0: -9223372036854775808<=x)(h1:x<=9223372036854775807):IntKind.i64.wrap x=x:=by
 simp only[IntKind.wrap,IntKind.bits,IntKind.signed];simp;omega
theorem zas{i:Nat}(h:i<9223372036854775807):IntKind.i64.wrap ((i:Int)+1)=((i+1:Nat):Int):=by
 rw[zaQ (by omega) (by omega)]; simp
theorem ztS{es:List (List D)}(h:(D.sl es).ok):es.length<=9223372036854775807:=by
 simp only[D.ok]at h; have:=h.1; unfold maxLen at this; omega
theorem zaM{x:D}{xs:List D}(h:D.okL (x::xs)):x.ok/\D.okL xs:=by simpa only[D.okL]using h
theorem za9{α:Type}{f:α->List D}{l:List α}(h:(D.sl (l.map f)).ok):l.length<=9223372036854775807/\ ∀x∈l,D.okL (f x):=by
 refine⟨by simpa using ztS h,fun x hx=> ?_⟩;simp only[D.ok]at h;exact zxJ h.2 _ (List.mem_map.2 ⟨x,hx,rfl⟩)
def zaU(k:Int):Bool:=decide (1<=k)&&decide (k<=6)||k==9
theorem zg7(k:Int):FnP Tryz.prog 195 [eI k] (.d (eB (zaU k))) []:=by
 refine FnP.of_eC (own:=[]) chL zat Tryz.func195 rfl Tryz.call195 Tryz.ntmps195 (Nat.le_of_ble_eq_true rfl) Tryz.results195 (fun hok=> ?_);simp only[ZE,↓reduceIte,pE,pL,pA,pS,pM,pD,zN,qT,qG,qL,qH,qN,qB,qE,qO,qA,qM];rfl
def zmj(k:Int):Int:=
 if (k==1||k==14)=true then 0
 else if (k==2||k==12||k==13||k==15)=true then 1
 else if (k==10)=true then 3
 else if (decide (2<k)&&decide (k<12))=true then 2
 else-1
theorem arity_c(k:Int):FnP Tryz.prog 248 [eI k] (.d (eI (zmj k))) []:=by
 refine FnP.of_eC (own:=[]) chL zat Tryz.func248 rfl Tryz.call248 Tryz.ntmps248 (Nat.le_of_ble_eq_true rfl) Tryz.results248 (fun hok=> ?_);simp only[ZE,↓reduceIte,pE,pL,pA,pS,pM,pD,zN,qT,qG,qL,qH,qN,qB,qE,qO,qA,qM];unfold zmj;refine zea (fun h=> ?_) (fun h=> ?_)
 ·simp only[h,if_true]
 refine zea (fun h2=> ?_) (fun h2=> ?_)
 ·simp only[h,h2,if_true,Bool.false_eq_true,if_false]
 refine zea (fun h3=> ?_) (fun h3=> ?_)
 ·simp only[h,h2,h3,if_true,Bool.false_eq_true,if_false]
 simp only[GT.gt];refine zea (fun h4=> ?_) (fun h4=> ?_)
 ·simp only[h,h2,h3,h4,if_true,Bool.false_eq_true,if_false]
 ·simp only[h,h2,h3,h4,Bool.false_eq_true,if_false]
/-- The first place of an element. -/
def idx{α:Type}[DecidableEq α](l:List α)(x:α):Int:=match l.findIdx? (fun y=>decide (x=y))with | some i=>(i:Int) | none=> -1
theorem zpr{α:Type}[DecidableEq α]{l:List α}{x:α}{i:Nat}(h:i<l.length)(hx:x=l[i])(hn: ∀j (hj:j<i),x≠l[j]):idx l x=i:=by
 unfold idx;have:l.findIdx? (fun y=>decide (x=y))=some i:=by
  rw[List.findIdx?_eq_some_iff_getElem];exact⟨h,by simpa using hx,fun j hj=>by simpa using hn j hj⟩
 rw[this]
theorem zpq{α:Type}[DecidableEq α]{l:List α}{x:α}(hn: ∀j (hj:j<l.length),x≠l[j]):idx l x= -1:=by
 unfold idx;have:l.findIdx? (fun y=>decide (x=y))=none:=by
  rw[List.findIdx?_eq_none_iff];intro y hy;obtain⟨j,hj,rfl⟩:=List.getElem_of_mem hy;simpa using hn j hj
 rw[this]
/-- Is it in the list? -/
def has{α:Type}[DecidableEq α](l:List α)(x:α):Bool:=l.any fun y=>decide (x=y)
theorem zs3{α:Type}[DecidableEq α]{l:List α}{x:α}:has l x=true↔x∈l:=by
 unfold has;rw[List.any_eq_true];exact⟨fun⟨y,h1,h2⟩=>by rw[of_decide_eq_true h2]; exact h1,fun h=>⟨x,h,by simp⟩⟩
theorem zks{α:Type}[DecidableEq α](l:List α)(x:α):decide (idx l x>=0)=has l x:=by
 rw[Bool.eq_iff_iff,zs3,decide_eq_true_eq];unfold idx;split
 ·rename_i i h;rw[List.findIdx?_eq_some_iff_getElem]at h;obtain⟨h1,h2,_⟩:=h;have:x∈l:=by rw[of_decide_eq_true h2]; exact List.getElem_mem h1
  simp[this]
 ·rename_i h;rw[List.findIdx?_eq_none_iff]at h;have:x∉l:=fun hx=>by simpa using h x hx
  simp[this]
theorem beq_dec(a b:Int):(a==b)=decide (a=b):=rfl
theorem zxi(l:List Int)(x:Int):FnP Tryz.prog 296 [zfv l,eI x] (.d (eI (idx l x))) []:=by
 refine FnP.of_eC (own:=[]) chL zat Tryz.func296 rfl Tryz.call296 Tryz.ntmps296 (Nat.le_of_ble_eq_true rfl) Tryz.results296 (fun hok=> ?_);obtain⟨hl,_⟩:=za9 (zaM hok).1;simp only[ZE,↓reduceIte,pE,pL,pA,pS,pM,pD,zN,qT,qG,qL,qH,qN,qB,qE,qO,qA,qM];refine za2 chL zat l.length (fun i=> ∀j (_:j<i) (hj:j<l.length),x≠l[j]) (fun i=>([(0,.d (zfv l)),(1,.d (eI x)),(7,.d (eI l.length)),(8,.d (eI i))],[])) (by simp) (by simp only[ZE,↓reduceIte,pE,pL,pA,pS,pM,pD,zN,qT,qG,qL,qH,qN,qB,qE,qO,qA,qM]) (by simp only[ZE,↓reduceIte,pE,pL,pA,pS,pM,pD]) (fun i hi hI=> ?_);rcases Nat.lt_or_ge i l.length with h | h
 ·have hw:=zas (show i<9223372036854775807 by omega);simp only[ZE,↓reduceIte,pE,pL,pA,pS,pM,pD,zax h,zaa h,zal h,hw,beq_dec];refine zea (fun h3=> ?_) (fun h3=>⟨h,fun j hj hj'=> ?_⟩)
  ·rw[zpr h (of_decide_eq_true h3) (fun j hj=>hI j hj (by omega))]
  ·rcases Nat.lt_succ_iff_lt_or_eq.1 hj with hj | rfl
   ·exact hI j hj hj'
   ·exact of_decide_eq_false h3
 ·simp only[ZE,↓reduceIte,pE,pL,pA,pS,pM,pD,zaI h];rw[zpq (fun j hj=>hI j (by omega) hj)]
theorem zn9(l:List Int)(x:Int):FnP Tryz.prog 279 [zfv l,eI x] (.d (eB (has l x))) []:=by
 refine FnP.of_eC (own:=[]) chL zat Tryz.func279 rfl Tryz.call279 Tryz.ntmps279 (Nat.le_of_ble_eq_true rfl) Tryz.results279 (fun hok=> ?_);simp only[ZE,↓reduceIte,pE,pL,pA,pS,pM,pD,zN,qT,qG,qL,qH,qN,qB,qE,qO,qA,qM];refine EFn.p ?_;simp(maxSteps:=4000000) only[ZE,↓reduceIte,pE,pL,pA,pS,pM,pD];have hc:=zxi l x;simp(maxSteps:=4000000) only[ZE,↓reduceIte,pE,pL,pA,pS,pM,pD]at hc;refine zar.i hc ?_;clear hc;simp only[ZE,↓reduceIte,pE,pL,pA,pS,pM,pD,zN,qT,qG,qL,qH,qN,qB,qE,qO,qA,qM,zks]
theorem zxj(l:List Str)(x:Str):FnP Tryz.prog 245 [zd7 l,eS x] (.d (eI (idx l x))) []:=by
 refine FnP.of_eC (own:=[]) chL zat Tryz.func245 rfl Tryz.call245 Tryz.ntmps245 (Nat.le_of_ble_eq_true rfl) Tryz.results245 (fun hok=> ?_);obtain⟨hl,_⟩:=za9 (zaM hok).1;simp only[ZE,↓reduceIte,pE,pL,pA,pS,pM,pD,zN,qT,qG,qL,qH,qN,qB,qE,qO,qA,qM];refine za2 chL zat l.length (fun i=> ∀j (_:j<i) (hj:j<l.length),x≠l[j]) (fun i=>([(0,.d (zd7 l)),(1,.d (eS x)),(7,.d (eI l.length)),(8,.d (eI i))],[])) (by simp) (by simp only[ZE,↓reduceIte,pE,pL,pA,pS,pM,pD,zN,qT,qG,qL,qH,qN,qB,qE,qO,qA,qM]) (by simp only[ZE,↓reduceIte,pE,pL,pA,pS,pM,pD]) (fun i hi hI=> ?_);rcases Nat.lt_or_ge i l.length with h | h
 ·have hw:=zas (show i<9223372036854775807 by omega);simp only[ZE,↓reduceIte,pE,pL,pA,pS,pM,pD,zax h,zaa h,zal h,hw];refine zea (fun h3=> ?_) (fun h3=>⟨h,fun j hj hj'=> ?_⟩)
  ·rw[zpr h (of_decide_eq_true h3) (fun j hj=>hI j hj (by omega))]
  ·rcases Nat.lt_succ_iff_lt_or_eq.1 hj with hj | rfl
   ·exact hI j hj hj'
   ·exact of_decide_eq_false h3
 ·simp only[ZE,↓reduceIte,pE,pL,pA,pS,pM,pD,zaI h];rw[zpq (fun j hj=>hI j (by omega) hj)]
theorem zcg(l:List Str)(x:Str):FnP Tryz.prog 197 [zd7 l,eS x] (.d (eB (has l x))) []:=by
 refine FnP.of_eC (own:=[]) chL zat Tryz.func197 rfl Tryz.call197 Tryz.ntmps197 (Nat.le_of_ble_eq_true rfl) Tryz.results197 (fun hok=> ?_);simp only[ZE,↓reduceIte,pE,pL,pA,pS,pM,pD,zN,qT,qG,qL,qH,qN,qB,qE,qO,qA,qM];refine EFn.p ?_;simp(maxSteps:=4000000) only[ZE,↓reduceIte,pE,pL,pA,pS,pM,pD];have hc:=zxj l x;simp(maxSteps:=4000000) only[ZE,↓reduceIte,pE,pL,pA,pS,pM,pD]at hc;refine zar.i hc ?_;clear hc;simp only[ZE,↓reduceIte,pE,pL,pA,pS,pM,pD,zN,qT,qG,qL,qH,qN,qB,qE,qO,qA,qM,zks]
/-- The byte at a place. -/
def zsn(s:ByteArray)(i:Nat):Nat:=(s.data.getD i 0).toNat
def ztv(b:Nat):Bool:=decide ((97:Int)<=b)&&decide ((b:Int)<=122)
def digitB(b:Nat):Bool:=decide ((48:Int)<=b)&&decide ((b:Int)<=57)
def zmW(s:ByteArray)(i:Nat):Bool:=ztv (zsn s i)||(decide (i≠0)&&digitB (zsn s i))
def ze0(s:ByteArray):Bool:= !((s.size:Int)==0||decide ((s.size:Int)>16))&&(List.range s.size).all (zmW s)
theorem ztJ(s:ByteArray)(i:Nat):(!(decide ((97:Int)<=((s.data.getD i 0).toNat :Int))&&decide (((s.data.getD i 0).toNat :Int)<=122))&&((i:Int)==0|| !(decide ((48:Int)<=((s.data.getD i 0).toNat :Int))&&decide (((s.data.getD i 0).toNat :Int)<=57))))= !nameAt s i:=by
 unfold zmW ztv digitB zsn;have:((i:Int)==0)= !decide (i≠0):=by rw[Bool.eq_iff_iff]; simp
 rw[this];simp only[Bool.not_or,Bool.not_and,Bool.not_not]
theorem zdg(s:ByteArray):FnP Tryz.prog 196 [.lit (.string s)] (.d (eB (ze0 s))) []:=by
 refine FnP.of_eC (own:=[]) (fun i=>if i=2006 then [.chn,.ord ⟨[(0,none),(1,none),(2,none),(3,none),(4,none),(5,none),(6,none),(7,none),(8,none),(9,none),(10,none),(11,none),(12,none),(13,none),(14,none),(15,none),(16,none),(17,none),(18,none),(19,none),(20,none),(21,none)]⟩]else chL i) zat Tryz.func196 rfl Tryz.call196 Tryz.ntmps196 (Nat.le_of_ble_eq_true rfl) Tryz.results196 (fun hok=> ?_);simp only[ZE,↓reduceIte,pE,pL,pA,pS,pM,pD,zN,qT,qG,qL,qH,qN,qB,qE,qO,qA,qM];unfold ze0;refine zea (fun h=> ?_) (fun h=> ?_)
 ·simp only[h,Bool.not_true,Bool.false_and]
 rw[h];have hs:s.size<=16:=by
  have:=(Bool.or_eq_false_iff.1 h).2;simp at this;omega
 refine za2 (fun i=>if i=2006 then [.chn,.ord ⟨[(0,none),(1,none),(2,none),(3,none),(4,none),(5,none),(6,none),(7,none),(8,none),(9,none),(10,none),(11,none),(12,none),(13,none),(14,none),(15,none),(16,none),(17,none),(18,none),(19,none),(20,none),(21,none)]⟩]else chL i) zat s.size (fun i=> ∀j,j<i->zmW s j=true) (fun i=>([(0,.d (.lit (.string s))),(15,.d (eI s.size)),(16,.d (eI i))],[])) (by simp) (by simp only[ZE,↓reduceIte,pE,pL,pA,pS,pM,pD,zN,qT,qG,qL,qH,qN,qB,qE,qO,qA,qM]) (by simp only[ZE,↓reduceIte,pE,pL,pA,pS,pM,pD]) (fun i hi hI=> ?_);rcases Nat.lt_or_ge i s.size with hlt | hge
 ·have hw:=zas (show i<9223372036854775807 by omega);simp only[ZE,↓reduceIte,pE,pL,pA,pS,pM,pD,zax hlt,zal hlt,hw,ztJ];refine⟨by kernel_rfl,zea (fun h3=> ?_) (fun h3=> ?_)⟩
  ·simp only[Bool.not_eq_true',Bool.not_not]at h3;have:(List.range s.size).all (zmW s)=false:=by
    rw[List.all_eq_false];exact⟨i,List.mem_range.2 hlt,by simp[h3]⟩
   rw[this]
  ·refine⟨hlt,fun j hj=> ?_⟩;rcases Nat.lt_succ_iff_lt_or_eq.1 hj with hj | rfl
   ·exact hI j hj
   ·simpa using h3
 ·simp only[ZE,↓reduceIte,pE,pL,pA,pS,pM,pD,zaI hge];have:(List.range s.size).all (zmW s)=true:=List.all_eq_true.2 fun j hj=>hI j (by have:=List.mem_range.1 hj; omega);rw[this]
theorem zpv:zkf Tryz.prog 3:=Go.Maps.int_keyed tU3
theorem zak:zkf Tryz.prog 9:=Go.Maps.string_keyed tU9
theorem zi0{n:Int}(h:(Lit.int .i64 n).wf =true):zd5 Tryz.prog 3 (.lit (.int .i64 n)):=⟨.int .i64 n,.int .i64 n,rfl,by unfold keyOf mapKey; simp[tU3,h]⟩
theorem zai(s:Str):zd5 Tryz.prog 9 (.lit (.string s.1)):=⟨.string s.1,.string s.1.data.toList,rfl,by unfold keyOf mapKey; simp[tU9,s.2]⟩
/-! ### Maps by their entries -/
theorem zxn(k:D):zeM [] k=0:=by simp[zeM]
open Classical in
theorem zi1(a:D)(ks:List D)(k:D):zeM (a::ks) k=if a=k then 0 else zeM ks k+1:=by
 unfold zeM;rw[List.findIdx_cons];by_cases h:a=k
 ·simp[h]
 ·simp[h]
theorem zjM(vs:List D)(k:D):zke [] vs k=none:=by simp[zke,zxn]
open Classical in
theorem zhY(a v:D)(ks vs:List D)(k:D):zke (a::ks) (v::vs) k=if a=k then some v else zke ks vs k:=by
 unfold zke;rw[zi1];by_cases h:a=k
 ·simp[h]
 ·simp only[h,if_false,List.length_cons,Nat.add_lt_add_iff_right,List.getElem?_cons_succ]
theorem zoI{ks vs:List D}{bs:List Nat}{c:Nat}{k v:D}(h:k∉ks):zg2 ks k=ks++[k]/\zjx ks vs k v=vs++[v]:=by
 have: ¬zeM ks k<ks.length:=fun h'=>h (zcP.1 h');simp[zg2,zjx,this]
theorem zds{ks:List D}{k:D}(h:k∉ks):zg2 ks k=ks++[k]:=(zoI (vs:=[]) (v:=k) (bs:=[]) (c:=0) h).1
theorem zdt{ks vs:List D}{k v:D}(h:k∉ks):zjx ks vs k v=vs++[v]:=(zoI (bs:=[]) (c:=0) h).2
def zhv(k:Int):Nat:=if k=4 then 1 else if k=5 then 1 else if k=7 then 1 else if k=8 then 2 else if k=6 then 3 else 0
def zbl(x:Item):List Expr:=[x.a,x.b,x.c].take (zhv x.kind.1)
theorem zuT(x:Item):FnP Tryz.prog 247 [.agg (zaK x)] (.d (zbH (zbl x))) []:=by
 refine FnP.of_eC (own:=[]) chL zat Tryz.func247 rfl Tryz.call247 Tryz.ntmps247 (Nat.le_of_ble_eq_true rfl) Tryz.results247 (fun hok=> ?_);have i1:zg2 [] (D.lit (.int .i64 4))=[D.lit (.int .i64 4)]:=zds (by simp);have i2:zg2 [D.lit (.int .i64 4)] (D.lit (.int .i64 5))=[D.lit (.int .i64 4),D.lit (.int .i64 5)]:=zds (by simp);have i3:zg2 [D.lit (.int .i64 4),D.lit (.int .i64 5)] (D.lit (.int .i64 7))=[D.lit (.int .i64 4),D.lit (.int .i64 5),D.lit (.int .i64 7)]:=zds (by simp);have i4:zg2 [D.lit (.int .i64 4),D.lit (.int .i64 5),D.lit (.int .i64 7)] (D.lit (.int .i64 8))=[D.lit (.int .i64 4),D.lit (.int .i64 5),D.lit (.int .i64 7),D.lit (.int .i64 8)]:=zds (by simp);have i5:zg2 [D.lit (.int .i64 4),D.lit (.int .i64 5),D.lit (.int .i64 7),D.lit (.int .i64 8)] (D.lit (.int .i64 6))=[D.lit (.int .i64 4),D.lit (.int .i64 5),D.lit (.int .i64 7),D.lit (.int .i64 8),D.lit (.int .i64 6)]:=zds (by simp);have j1: ∀v,zjx [] [] (D.lit (.int .i64 4)) v=[v]:=fun v=>zdt (by simp);have j2: ∀vs v,zjx [D.lit (.int .i64 4)] vs (D.lit (.int .i64 5)) v=vs++[v]:=fun vs v=>zdt (by simp);have j3: ∀vs v,zjx [D.lit (.int .i64 4),D.lit (.int .i64 5)] vs (D.lit (.int .i64 7)) v=vs++[v]:=fun vs v=>zdt (by simp);have j4: ∀vs v,zjx [D.lit (.int .i64 4),D.lit (.int .i64 5),D.lit (.int .i64 7)] vs (D.lit (.int .i64 8)) v=vs++[v]:=fun vs v=>zdt (by simp);have j5: ∀vs v,zjx [D.lit (.int .i64 4),D.lit (.int .i64 5),D.lit (.int .i64 7),D.lit (.int .i64 8)] vs (D.lit (.int .i64 6)) v=vs++[v]:=fun vs v=>zdt (by simp);have k4:zd5 Tryz.prog 3 (.lit (.int .i64 4)):=zi0 rfl;have k5:zd5 Tryz.prog 3 (.lit (.int .i64 5)):=zi0 rfl;have k6:zd5 Tryz.prog 3 (.lit (.int .i64 6)):=zi0 rfl;have k7:zd5 Tryz.prog 3 (.lit (.int .i64 7)):=zi0 rfl;have k8:zd5 Tryz.prog 3 (.lit (.int .i64 8)):=zi0 rfl;have kx:zd5 Tryz.prog 3 (.lit (.int .i64 x.kind.1)):=zi0 x.kind.2;have hm:(zke [D.lit (.int .i64 4),D.lit (.int .i64 5),D.lit (.int .i64 7),D.lit (.int .i64 8),D.lit (.int .i64 6)] [D.lit (.int .i64 1),D.lit (.int .i64 1),D.lit (.int .i64 1),D.lit (.int .i64 2),D.lit (.int .i64 3)] (D.lit (.int .i64 x.kind.1))).getD (.lit (.int .i64 0))= .lit (.int .i64 (zhv x.kind.1:Nat)):=by
  simp only[zhY,zjM,D.lit.injEq,Value.int.injEq,true_and,zhv,eq_comm (b:=x.kind.1)]
  repeat' split
  all_goals rfl
 have hle:zhv x.kind.1<=3:=by unfold zhv; (repeat' split) <;> omega
 simp only[ZE,↓reduceIte,pE,pL,pA,pS,pM,pD,zN,qT,qG,qL,qH,qN,qB,qE,qO,qA,qM,i1,i2,i3,i4,i5,j1,j2,j3,j4,j5,zpv,k4,k5,k6,k7,k8,kx,hm,or_imp,forall_and];refine⟨⟨by omega,by omega⟩,?_⟩;simp only[Nat.sub_zero,zbl,List.map_take,List.map_cons,List.map_nil,zca,eI,eS]
mutual
def Expr.all:Expr->List Expr
 | .mk o n k w a=>.mk o n k w a::Expr.allL a
def Expr.allL:List Expr->List Expr
 | []=>[]
 | e::r=>Expr.all e++Expr.allL r
end
theorem Expr.all_eq(e:Expr):e.all=e::Expr.allL e.args:=by cases e; simp[Expr.all,Expr.args]
theorem zk8: ∀a b:List Expr,Expr.allL (a++b)=Expr.allL a++Expr.allL b
 | [],b=>by simp[Expr.allL]
 | e::a,b=>by simp[Expr.allL,zk8 a b]
theorem zgp(l:List Expr)(i:Nat)(h:i<l.length):Expr.allL (l.take (i+1))=Expr.allL (l.take i)++(l[i]::Expr.allL l[i].args):=by
 rw[List.take_succ_eq_append_getElem h,zk8];simp[Expr.allL,Expr.all_eq]
theorem zhA(l:List Expr)(i:Nat):Expr.allL (l.take i)<+:Expr.allL l:=by
 conv=>rhs; rw[<-List.take_append_drop i l]
 rw[zk8];exact List.prefix_append _ _
def eA(e:Expr):List D:=[.agg (zby e)]
theorem zej(l:List Expr):FnP Tryz.prog 246 [zbH l] (.d (.clo (.func 277) [] [.ptr [zbH l]])) []:=by
 refine FnP.of_eC (own:=[]) chL zat Tryz.func246 rfl Tryz.call246 Tryz.ntmps246 (Nat.le_of_ble_eq_true rfl) Tryz.results246 (fun hok=> ?_);simp only[ZE,↓reduceIte,pE,pL,pA,pS,pM,pD]
theorem zw6{e:Expr}(h:D.okL (zby e)):(zbH e.args).ok :=by
 rw[zca]at h;simp only[D.okL]at h;exact h.2.2.2.2.2.2.1
theorem zt9{α β:Type}{f:α->β}{l:List α}{pre:List β}{x:β}(h:pre++[x]<+:l.map f): ∃(k:Nat) (hk:k<l.length),pre=(l.take k).map f/\x=f l[k]:=by
 have h1:=List.prefix_iff_eq_take.1 h;have h2:=h.length_le;simp only[List.length_append,List.length_cons,List.length_nil,List.length_map]at h1 h2;have hk:pre.length<l.length:=by omega
 rw[<-List.map_take,Nat.zero_add,List.take_succ_eq_append_getElem hk,List.map_append]at h1;have h3:=List.append_inj' h1 (by simp);exact⟨pre.length,hk,h3.1,by simpa using h3.2⟩
theorem all_it: ∀(n:Nat) (l:List Expr) (hn:(Expr.allL l).length <n) (hok:(zbH l).ok),zo4 Tryz.prog 277 [.ptr [zbH l]] (fun pre=>pre<+:(Expr.allL l).map eA) (fun xs=>xs=(Expr.allL l).map eA)
 | 0,l,hn,_=>by omega
 | n+1,l,hn,hok=>by
  intro lim fam stop yl hY;obtain⟨hl,hl2⟩:=za9 hok;have:=FnL.of_eC (P:=Tryz.prog) (args:=[.yv 0,.d (.ptr [zbH l])]) (os:=[(0,.ext lim fam stop yl [])]) (PL:=fun _ ol new=>(∃xs,xs=(Expr.allL l).map eA/\ol=[(0,.ext lim fam stop yl xs)]/\new=[])\/(ol=[(0,.ext lim (fun _=>stop) stop yl [])]/\new=[])) (own:=[]) chL [0] zat Tryz.func277 rfl Tryz.call277 Tryz.ntmps277 (Nat.le_of_ble_eq_true rfl) Tryz.results277 ?_
  ·refine this.mono ?_;rintro V Oo new ⟨ol,rfl,⟨xs,h1,rfl,h2⟩ | ⟨rfl,h2⟩⟩
   ·exact .inl ⟨xs,h1,rfl,h2⟩
   ·exact .inr ⟨rfl,h2⟩
  simp only[ZE,↓reduceIte,pE,pL,pA,pS,pM,pD];refine za2 chL zat l.length (fun i=>True) (fun i=>([(0,.yv 0),(2,.bp 2 0),(6,.d (zbH l)),(7,.d (eI l.length)),(8,.d (eI i))],[(2,.box [.yv 0]),(0,.ext lim fam stop yl ((Expr.allL (l.take i)).map eA))])) trivial ?_ ?_ (fun i hi hI=> ?_)
  ·simp only[ZE,↓reduceIte,pE,pL,pA,pS,pM,pD]
  ·simp only[ZE,↓reduceIte,pE,pL,pA,pS,pM,pD,List.take_zero,Expr.allL]
  rcases Nat.lt_or_ge i l.length with h | h
  ·have hw:=zas (show i<9223372036854775807 by omega);have hsz:(Expr.allL l[i].args).length <n:=by
    have h1:=(zhA l (i+1)).length_le;rw[zgp l i h,List.length_append,List.length_cons]at h1;omega
   have hoke:=zw6 (hl2 l[i] (List.getElem_mem h));have hS:=zgp l i h;simp only[ZE,↓reduceIte,pE,pL,pA,pS,pM,pD,zax h,zaa h,zal h];have hp: ∀j,(Expr.allL (l.take i)).map eA++(eA l[i]::((Expr.allL l[i].args).take j).map eA)<+:(Expr.allL l).map eA:=fun j=>by
    have h1:=(zhA l (i+1)).map eA;rw[hS,List.map_append,List.map_cons]at h1;refine List.IsPrefix.trans ?_ h1;refine(List.prefix_append_right_inj _).2 ?_;rw[List.cons_prefix_cons];exact⟨rfl,(List.take_prefix j _).map eA⟩
   have eA_eq: ∀e:Expr,[D.agg [D.lit (.int .i64 e.op),.lit (.string e.name.1),.lit (.int .i64 e.k.n),.lit (.string e.k.p.1),.lit (.int .i64 e.w.n),.lit (.string e.w.p.1),.sl (e.args.map zby)]]=eA e:=fun e=>by simp only[eA,zca,eI,eS]
   refine⟨_,hY,?_,?_,?_⟩
   ·rw[eA_eq]; exact hp 0
   ·simp only[ZE,↓reduceIte,pE,pL,pA,pS,pM,pD,eA_eq];refine EFn.p ?_;simp(maxSteps:=4000000) only[ZE,↓reduceIte,pE,pL,pA,pS,pM,pD];have hc:=zej l[i].args;simp(maxSteps:=4000000) only[ZE,↓reduceIte,pE,pL,pA,pS,pM,pD]at hc;refine zar.i hc ?_;clear hc;simp only[ZE,↓reduceIte,pE,pL,pA,pS,pM,pD];refine zxa zat (fun _ _=>chL) rfl (by simp only[ZE,↓reduceIte,pE,pL,pA,pS,pM,pD]) (all_it n l[i].args hsz hoke) (fun pre=>[(2,.box [.yv 0]),(0,.ext lim fam stop yl ((Expr.allL (l.take i)).map eA++[eA l[i]]++pre))]) (fun _=>True) trivial ?_ ?_ (fun pre x _ hA=> ?_) (fun xs hS _=> ?_)
    ·simp only[ZE,↓reduceIte,pE,pL,pA,pS,pM,pD]
    ·simp only[ZE,↓reduceIte,pE,pL,pA,pS,pM,pD]
    ·obtain⟨k,hk,rfl,rfl⟩:=zt9 hA;have hp2:=hp (k+1);rw[List.take_succ_eq_append_getElem hk,List.map_append]at hp2;refine⟨rfl,?_⟩;simp only[ZE,↓reduceIte,pE,pL,pA,pS,pM,pD,eA];refine⟨_,hY,?_,?_,?_⟩
     ·simp only[eA_eq];simpa only[List.append_assoc,List.cons_append,List.nil_append,List.map_cons,List.map_nil]using hp2
     ·simp only[ZE,↓reduceIte,pE,pL,pA,pS,pM,pD,List.take_succ_eq_append_getElem hk,List.map_append,eA,List.append_assoc]
     ·simp only[ZE,↓reduceIte,pE,pL,pA,pS,pM,pD];refine⟨[2,5],[],?_⟩;simp only[ZE,↓reduceIte,pE,pL,pA,pS,pM,pD]
    ·subst hS;simp only[ZE,↓reduceIte,pE,pL,pA,pS,pM,pD,hw,zgp l i h,List.map_append,List.map_cons,List.append_assoc];exact h
   ·simp only[ZE,↓reduceIte,pE,pL,pA,pS,pM,pD];refine⟨[2,4],[],?_⟩;simp only[ZE,↓reduceIte,pE,pL,pA,pS,pM,pD]
  ·have:i=l.length:=by omega
   subst this;simp only[ZE,↓reduceIte,pE,pL,pA,pS,pM,pD,zaI h];refine⟨[2],[],?_⟩;simp only[ZE,↓reduceIte,pE,pL,pA,pS,pM,pD];exact .inl ⟨_,rfl,by rw[List.take_length]⟩
/-- A LOOP OVER ALL EXPRESSIONS. -/
theorem zrD{N:NP}{g:Operand}{ps:Array Tmp}{assign body:Code}{Q:EQ}{t:TL}{o:OL}(L:Nat->Nat->List Gh)(l:List Expr)(hok:(zbH l).ok)(htop:N.top=true)(hg:St.ev (tm t) g= .d (.clo (.func 277) [] [.ptr [zbH l]]))
  (O:Nat->OL) (I:Nat->Prop) (hI0:I 0) (h0:zwu (om o) (O 0)) (hps:psOk N.n (zeP t) ps.toList) (hp1:ps.size=1)
  (hb: ∀k (hk:k<(Expr.allL l).length),I k->eC Tryz.prog ⟨N.n,zeP t,false,N.own⟩ (L k) assign (zrJ (bodyX Tryz.prog ⟨N.n,zeP t,false,N.own⟩ (L k) body t (O k) (O (k+1)) (I (k+1)) Q) noQ) (zvz ps.toList (eA (Expr.allL l)[k]) t) (O k))
  (hd:I (Expr.allL l).length ->Q .normal t (O (Expr.allL l).length)):zsb Tryz.prog N (.rangeFunc g ps assign body) Q t o:=by
 refine zxa zat (fun pre _=>L pre.length) htop hg (all_it _ l (Nat.lt_succ_self _) hok) (fun pre=>O pre.length) (fun pre=>I pre.length) hI0 h0 hps (fun pre x hi hA=> ?_) (fun xs hS hi=> ?_)
 ·obtain⟨k,hk,rfl,rfl⟩:=zt9 hA;have hl:((Expr.allL l).take k).length =k:=by rw[List.length_take]; omega
  simp only[List.length_map,List.length_append,List.length_cons,List.length_nil,hl]at hi ⊢;exact⟨by rw[hp1]; rfl,hb k hk hi⟩
 ·subst hS;simp only[List.length_map]at hi ⊢;exact hd hi
def zu6(e:Expr):Bool:= !(zmj e.op==(e.args.length:Int))
def zaw(x:Item):Bool:=decide (x.kind.1<1)||decide (x.kind.1>9)||(Expr.allL (zbl x)).any zu6||((x.kind.1==4||x.kind.1==6)&&(decide (x.rule.kind<0)||decide (x.rule.kind>3)))
theorem zbN: ∀ {a b:List D},D.okL (a++b)->D.okL a/\D.okL b
 | [],_,h=>⟨by simp only[D.okL],h⟩
 | x::a,b,h=>by
  simp only[List.cons_append,D.okL]at h ⊢;obtain⟨h1,h2⟩:=zbN h.2;exact⟨⟨h.1,h1⟩,h2⟩
theorem zou{x:Item}(h:D.okL (zaK x)):D.okL (zby x.a)/\D.okL (zby x.b)/\D.okL (zby x.c):=by
 simp only[zaK,D.okL]at h;have h1:=(zbN (zbN (zbN h.2.2).2).2).2;have h2:=zbN h1;have h3:=zbN h2.2;have h4:=zbN h3.2;exact⟨h2.1,h3.1,h4.1⟩
theorem zoE{l:List (List D)}(h: ∀y∈l,D.okL y):D.okLL l:=by
 induction l with
 | nil=>simp only[D.okLL]
 | cons y r ih=>simp only[D.okLL]; exact⟨h y (by simp),ih fun z hz=>h z (by simp[hz])⟩
theorem zed{x:Item}(h:D.okL (zaK x)):(zbH (zbl x)).ok :=by
 obtain⟨h1,h2,h3⟩:=zou h;simp only[zbH,D.ok];refine⟨?_,zoE fun y hy=> ?_⟩
 ·simp only[zbl,List.length_map,List.length_take,List.length_cons,List.length_nil]; unfold maxLen; omega
 ·obtain⟨e,he,rfl⟩:=List.mem_map.1 hy;have:=List.mem_of_mem_take he;simp only[List.mem_cons,List.not_mem_nil,or_false]at this;rcases this with rfl | rfl | rfl <;> assumption
theorem zoz(x:Item):FnP Tryz.prog 201 [.agg (zaK x)] (.d (eB (zaw x))) []:=by
 refine FnP.of_eC (own:=[]) (fun i=>if i=2005 then [.chn,.ord ⟨[(0,none),(1,none),(2,none),(3,none),(4,none),(5,none),(6,none)]⟩]else chL i) zat Tryz.func201 rfl Tryz.call201 Tryz.ntmps201 (Nat.le_of_ble_eq_true rfl) Tryz.results201 (fun hok=> ?_);have hx:D.okL (zaK x):=by simpa only[D.okL,D.ok,and_true]using hok
 simp only[ZE,↓reduceIte,pE,pL,pA,pS,pM,pD,zN,qT,qG,qL,qH,qN,qB,qE,qO,qA,qM];refine zea (fun h=> ?_) (fun h=> ?_)
 ·simp only[zaw,h,Bool.true_or]
 have uc:=zuT x;simp only[ZE,↓reduceIte,pE,pL,pA,pS,pM,pD]at uc;refine EFn.p ?_;simp only[ZE,↓reduceIte,pE,pL,pA,pS,pM,pD];refine zar.i uc ?_;simp only[ZE,↓reduceIte,pE,pL,pA,pS,pM,pD];refine EFn.p ?_;simp(maxSteps:=4000000) only[ZE,↓reduceIte,pE,pL,pA,pS,pM,pD];have hc:=zej (zbl x);simp(maxSteps:=4000000) only[ZE,↓reduceIte,pE,pL,pA,pS,pM,pD]at hc;refine zar.i hc ?_;clear hc;simp only[ZE,↓reduceIte,pE,pL,pA,pS,pM,pD];refine zrD (fun _ i=>if i=2005 then [.chn,.ord ⟨[(0,none),(1,none),(2,none),(3,none),(4,none),(5,none),(6,none)]⟩]else chL i) (zbl x) (zed hx) rfl (by simp only[ZE,↓reduceIte,pE,pL,pA,pS,pM,pD]) (fun _=>[(2,.box [.d (eB false)]),(1,.box ((zaK x).map .d))]) (fun k=> ∀e∈(Expr.allL (zbl x)).take k,zu6 e=false) (by simp) ?_ ?_ rfl (fun k hk hI=> ?_) (fun hI=> ?_)
 ·simp only[ZE,↓reduceIte,pE,pL,pA,pS,pM,pD]
 ·simp only[ZE,↓reduceIte,pE,pL,pA,pS,pM,pD]
 ·simp only[ZE,↓reduceIte,pE,pL,pA,pS,pM,pD,eA];refine⟨by kernel_rfl,?_⟩;have hc:=arity_c (Expr.allL (zbl x))[k].op;simp only[ZE,↓reduceIte,pE,pL,pA,pS,pM,pD]at hc;refine za4.i (fun _=>hc) ?_;simp only[ZE,↓reduceIte,pE,pL,pA,pS,pM,pD];refine zea (fun hb=> ?_) (fun hb e he=> ?_)
  ·have:(Expr.allL (zbl x)).any zu6=true:=List.any_eq_true.2 ⟨_,List.getElem_mem hk,by simpa only[zu6,bne]using hb⟩;simp only[zaw,this,Bool.or_true,Bool.true_or]
  ·rw[List.take_succ_eq_append_getElem hk,List.mem_append,List.mem_singleton]at he;rcases he with he | rfl
   ·exact hI e he
   ·simpa only[zu6,bne]using hb
 ·simp only[ZE,↓reduceIte,pE,pL,pA,pS,pM,pD];have:(Expr.allL (zbl x)).any zu6=false:=List.any_eq_false.2 fun e he=>by
   rw[hI e (by rw[List.take_length]; exact he)]; simp
  simp only[zaw,h,this,Bool.false_or]
/-- What a name stands for. -/
def get{α:Type}(l:List (Str×α))(s:Str):Option α:=(l.find? fun p=>decide (p.1=s)).map (·.2)
def sK{α:Type}(l:List (Str×α)):List D:=l.map fun p=>.lit (.string p.1.1)
def sV{α:Type}(f:α->D)(l:List (Str×α)):List D:=l.map fun p=>f p.2
def sMp{α:Type}(f:α->D)(l:List (Str×α)):D:=.mp (sK l) (sV f l) (List.range l.length) l.length
theorem str_ne{s t:Str}(h:s≠t):(D.lit (.string s.1))≠ .lit (.string t.1):=by
 intro e;simp only[D.lit.injEq,Value.string.injEq]at e;exact h (Subtype.ext e)
theorem zaj{α:Type}(f:α->D): ∀(l:List (Str×α)) (s:Str),zke (sK l) (sV f l) (.lit (.string s.1))=(get l s).map f
 | [],s=>by simp[sK,sV,get,zjM]
 | (n,x)::l,s=>by
  have ih:=zaj f l s;simp only[sK,sV,get,List.map_cons]at ih ⊢;rw[zhY,List.find?_cons];by_cases h:n=s
  ·subst h; simp
  ·rw[if_neg (str_ne h),ih];simp[h]
theorem zln{α:Type}{l:List (Str×α)}{s:Str}:get l s=none↔(D.lit (.string s.1))∉sK l:=by
 unfold get sK;rw[Option.map_eq_none_iff,List.find?_eq_none];constructor
 ·intro h hm;obtain⟨p,hp,e⟩:=List.mem_map.1 hm;simp only[D.lit.injEq,Value.string.injEq]at e;exact h p hp (by simpa using Subtype.ext e)
 ·intro h p hp e;exact h (List.mem_map.2 ⟨p,hp,by rw[of_decide_eq_true e]⟩)
theorem zcv{α:Type}(l:List (Str×α)): ∀y∈sK l,zd5 Tryz.prog 9 y:=by
 intro y hy;obtain⟨p,_,rfl⟩:=List.mem_map.1 hy;exact zai p.1
/-- The entries of a map in which a name more was put down. -/
theorem zqX{α:Type}(f:α->D){l:List (Str×α)}{s:Str}{x:α}(h:get l s=none):zg2 (sK l) (.lit (.string s.1))=sK (l++[(s,x)])/\zjx (sK l) (sV f l) (.lit (.string s.1)) (f x)=sV f (l++[(s,x)])/\
  zjF (sK l) (List.range l.length) l.length (.lit (.string s.1))=List.range (l++[(s,x)]).length /\zj9 (sK l) l.length (.lit (.string s.1))=(l++[(s,x)]).length :=by
 have hn:=zln.1 h;have: ¬zeM (sK l) (.lit (.string s.1))<(sK l).length :=fun h'=>hn (zcP.1 h');refine⟨by rw[zds hn]; simp[sK],by rw[zdt hn]; simp[sV],?_,?_⟩
 ·simp only[zjF,if_neg this,List.length_append,List.length_cons,List.length_nil,Nat.zero_add,List.range_succ]
 ·simp only[zj9,if_neg this,List.length_append,List.length_cons,List.length_nil,Nat.zero_add]
/-- A name that is there is put down again with the same value. -/
theorem zxQ{α:Type}(f:α->D){l:List (Str×α)}{s:Str}{x:α}(h:get l s=some x):zg2 (sK l) (.lit (.string s.1))=sK l/\zjx (sK l) (sV f l) (.lit (.string s.1)) (f x)=sV f l/\
  zjF (sK l) (List.range l.length) l.length (.lit (.string s.1))=List.range l.length/\zj9 (sK l) l.length (.lit (.string s.1))=l.length:=by
 have hm:(D.lit (.string s.1))∈sK l:=by
  by_cases hm:(D.lit (.string s.1))∈sK l
  ·exact hm
  ·rw[zln.2 hm]at h; cases h
 have hlt:=zcP.2 hm;have hg:=zaj f l s;rw[h,zke,if_pos hlt]at hg;refine⟨by simp only[zg2,if_pos hlt],?_,by simp only[zjF,if_pos hlt],by simp only[zj9,if_pos hlt]⟩;simp only[zjx,if_pos hlt];simp only[Option.map_some]at hg;obtain⟨hi,he⟩:=List.getElem?_eq_some_iff.1 hg;rw[<-he,List.set_getElem_self]
/-- A set of names. -/
def tk(l:List Str):List (Str×Bool):=l.map fun n=>(n,true)
theorem zpo(s:Str): ∀l:List Str,get (tk l) s=if has l s=true then some true else none
 | []=>rfl
 | n::l=>by
  have ih:=zpo s l;simp only[get,tk,has,List.map_cons,List.find?_cons,List.any_cons,Bool.or_eq_true]at ih ⊢;by_cases h:n=s
  ·subst h; simp
  ·have h': ¬s=n:=fun e=>h e.symm;simp only[h,decide_false,h',Bool.false_eq_true,false_or];exact ih
def emp:Str:=⟨ByteArray.empty,by decide⟩
def zbh:Num:=⟨0,emp⟩
def zbS:Expr:=.mk 0 emp zbh zbh []
def zaV:Item:=⟨⟨0,rfl⟩,emp,zbh,zbh,zbh,zbS,zbS,zbS,⟨0,emp,0⟩,emp,[],[]⟩
def zdQ:Module:=⟨emp,emp,[],[]⟩
def eIt(x:Item):D:=.agg (zaK x)
def zci(acc:List (Str×Item))(x:Item):List (Str×Item):=if (zaU x.kind.1&&(get acc x.name).isNone)=true then acc++[(x.name,x)]else acc
def zbI(l:List Item):List (Str×Item):=l.foldl zci []
def zbT(acc:List Str)(x:Item):List Str:=if (x.kind.1==7&& !has acc x.name)=true then acc++[x.name]else acc
def zbB(l:List Item):List Str:=l.foldl zbT []
theorem zok(l:List Item)(i:Nat)(h:i<l.length):zbI (l.take (i+1))=zci (zbI (l.take i)) l[i]:=by
 rw[List.take_succ_eq_append_getElem h,zbI,List.foldl_append]; rfl
theorem zo0(l:List Item)(i:Nat)(h:i<l.length):zbB (l.take (i+1))=zbT (zbB (l.take i)) l[i]:=by
 rw[List.take_succ_eq_append_getElem h,zbB,List.foldl_append]; rfl
def zaf(m:Module):List D:=[eS m.name,eS m.clock,zd7 m.params,zbU m.items,sMp eIt (zbI m.items),sMp eB (tk (zbB m.items))]
theorem zfp:D.agg [D.lit (.int .i64 0),D.lit (.string ByteArray.empty),D.lit (.int .i64 0),D.lit (.string ByteArray.empty),D.lit (.int .i64 0),D.lit (.string ByteArray.empty),D.lit (.int .i64 0),D.lit (.string ByteArray.empty),D.lit (.int .i64 0),D.lit (.string ByteArray.empty),D.lit (.int .i64 0),D.lit (.string ByteArray.empty),D.lit (.int .i64 0),D.lit (.string ByteArray.empty),D.sl [],D.lit (.int .i64 0),D.lit (.string ByteArray.empty),D.lit (.int .i64 0),D.lit (.string ByteArray.empty),D.lit (.int .i64 0),D.lit (.string ByteArray.empty),D.sl [],D.lit (.int .i64 0),D.lit (.string ByteArray.empty),D.lit (.int .i64 0),D.lit (.string ByteArray.empty),D.lit (.int .i64 0),D.lit (.string ByteArray.empty),D.sl [],D.lit (.int .i64 0),D.lit (.string ByteArray.empty),D.lit (.int .i64 0),D.lit (.string ByteArray.empty),D.sl [],D.sl []]=eIt zaV:=rfl
theorem zfe(o:Option Item):(o.map eIt).getD (eIt zaV)= .agg (zaK (o.getD zaV)):=by cases o <;> rfl
theorem zx0(m:Module):FnP Tryz.prog 148 [.agg (zaC m)] (.d (.agg (zaf m))) []:=by
 refine FnP.of_eC (own:=[]) chL zat Tryz.func148 rfl Tryz.call148 Tryz.ntmps148 (Nat.le_of_ble_eq_true rfl) Tryz.results148 (fun hok=> ?_);have hl:m.items.length<=9223372036854775807:=by
  have:D.okL (zaC m):=by simpa only[D.okL,D.ok,and_true]using hok
  simp only[zaC,D.okL]at this;exact(za9 this.2.2.2.1).1
 simp only[ZE,↓reduceIte,pE,pL,pA,pS,pM,pD,zN,qT,qG,qL,qH,qN,qB,qE,qO,qA,qM];refine za2 chL zat m.items.length (fun i=>True) (fun i=>([(2,.bp 2 0),(3,.bp 3 0),(13,.d (zbU m.items)),(14,.d (eI m.items.length)),(15,.d (eI i))],
  [(3,.box [.d (eS m.name),.d (eS m.clock),.d (zd7 m.params),.d (zbU m.items),.mo 9,.mo 10]),(9,.map (sK (zbI (m.items.take i))) (sV eIt (zbI (m.items.take i))) (List.range (zbI (m.items.take i)).length) (zbI (m.items.take i)).length),
   (10,.map (sK (tk (zbB (m.items.take i)))) (sV eB (tk (zbB (m.items.take i)))) (List.range (tk (zbB (m.items.take i))).length) (tk (zbB (m.items.take i))).length),
   (2,.box [.d (eS emp),.d (eS emp),.nils,.nils,.d (.lit (.map none)),.d (.lit (.map none))])])) trivial ?_ ?_ (fun i hi _=> ?_)
 ·simp only[ZE,↓reduceIte,pE,pL,pA,pS,pM,pD]
 ·simp only[ZE,↓reduceIte,pE,pL,pA,pS,pM,pD];exact⟨rfl,rfl,rfl⟩
 rcases Nat.lt_or_ge i m.items.length with h | h
 ·have hw:=zas (show i<9223372036854775807 by omega);simp only[ZE,↓reduceIte,pE,pL,pA,pS,pM,pD,zax h,zaa h,zal h,zaj,zak,zai,zfp,zfe,zcv,Option.isSome_map];refine⟨fun y hy=>zcv _ y hy,?_⟩;have hc:=zg7 m.items[i].kind.1;simp only[ZE,↓reduceIte,pE,pL,pA,pS,pM,pD]at hc;refine EFn.p ?_;simp only[ZE,↓reduceIte,pE,pL,pA,pS,pM,pD];refine zar.i hc ?_;simp only[ZE,↓reduceIte,pE,pL,pA,pS,pM,pD,hw,zak,zai];obtain⟨r,hr⟩:=zX (eIt m.items[i]);have hr':=hr;simp only[eIt,ZE,↓reduceIte,pE,pL,pA,pS,pM,pD]at hr';simp only[hr',zok _ _ h,zo0 _ _ h];rw[<-hr];have zkw: ∀ {a a':List D} {b b':List D} {c c':List Nat} {d d':Nat},a=a'/\b=b'/\c=c'/\d=d'->AO.map a b c d=AO.map a' b' c' d':=fun⟨h1,h2,h3,h4⟩=>by rw[h1,h2,h3,h4]
  have t7:(m.items[i].kind.1 ==7)=true->AO.map (zg2 (sK (tk (zbB (m.items.take i)))) (.lit (.string m.items[i].name.1))) (zjx (sK (tk (zbB (m.items.take i)))) (sV eB (tk (zbB (m.items.take i)))) (.lit (.string m.items[i].name.1)) (.lit (.bool true)))
    (zjF (sK (tk (zbB (m.items.take i)))) (List.range (tk (zbB (m.items.take i))).length) (tk (zbB (m.items.take i))).length (.lit (.string m.items[i].name.1))) (zj9 (sK (tk (zbB (m.items.take i)))) (tk (zbB (m.items.take i))).length (.lit (.string m.items[i].name.1)))=
    AO.map (sK (tk (zbT (zbB (m.items.take i)) m.items[i]))) (sV eB (tk (zbT (zbB (m.items.take i)) m.items[i]))) (List.range (tk (zbT (zbB (m.items.take i)) m.items[i])).length) (tk (zbT (zbB (m.items.take i)) m.items[i])).length :=fun h7=>by
   have hg:=zpo m.items[i].name (zbB (m.items.take i));by_cases hh:has (zbB (m.items.take i)) m.items[i].name =true
   ·rw[if_pos hh]at hg;have e:zbT (zbB (m.items.take i)) m.items[i]=zbB (m.items.take i):=(by simp[zbT,hh]);rw[e];exact zkw (zxQ eB hg)
   ·rw[if_neg hh]at hg;have e:zbT (zbB (m.items.take i)) m.items[i]=zbB (m.items.take i)++[m.items[i].name]:=(by simp[zbT,hh,h7]);rw[e];have:=zkw (zqX eB (x:=true) hg);simpa only[tk,List.map_append,List.map_cons,List.map_nil,eB]using this
  have n7:(m.items[i].kind.1 ==7)=false->zbT (zbB (m.items.take i)) m.items[i]=zbB (m.items.take i):=fun h7=>by simp[zbT,h7]
  refine zea (fun h1=> ?_) (fun h1=> ?_)
  ·have hg:get (zbI (m.items.take i)) m.items[i].name =none:=by
    have:=(Bool.and_eq_true _ _▸h1:_/\_).2;simpa using this
   have e:zci (zbI (m.items.take i)) m.items[i]=zbI (m.items.take i)++[(m.items[i].name,m.items[i])]:=by
    unfold zci; rw[if_pos]; simpa [hg]using h1
   refine⟨fun y hy=>zcv _ y hy,zea (fun h7=>⟨fun y hy=>zcv _ y hy,h,?_,t7 h7⟩) (fun h7=>⟨h,?_,by rw[n7 h7]⟩)⟩
   all_goals rw[e]; exact zkw (zqX eIt hg)
  ·have e:zci (zbI (m.items.take i)) m.items[i]=zbI (m.items.take i):=by
    unfold zci;rw[if_neg];intro h2;rw[Bool.and_eq_true]at h2;rw[h2.1,Bool.true_and]at h1;cases hg:get (zbI (m.items.take i)) m.items[i].name with
    | none=>rw[hg]at h1; cases h1
    | some y=>rw[hg]at h2; cases h2.2
   refine zea (fun h7=>⟨fun y hy=>zcv _ y hy,h,by rw[e],t7 h7⟩) (fun h7=>⟨h,by rw[e],by rw[n7 h7]⟩)
 ·have:i=m.items.length:=by omega
  subst this;simp only[ZE,↓reduceIte,pE,pL,pA,pS,pM,pD,zaI h,List.take_length,zaf,sMp]
/-- The first item that zaU a name; its kind. -/
def zch(m:Module)(n:Str):Item:=(get (zbI m.items) n).getD zaV
def zbr(m:Module)(n:Str):Int:=(zch m n).kind.1
theorem zte(m:Module)(n:Str)(ks:List Int):FnP Tryz.prog 250 [.agg (zaf m),eS n,zfv ks] (.d (eB (has ks (zbr m n)))) []:=by
 refine FnP.of_eC (own:=[]) chL zat Tryz.func250 rfl Tryz.call250 Tryz.ntmps250 (Nat.le_of_ble_eq_true rfl) Tryz.results250 (fun hok=> ?_);simp only[ZE,↓reduceIte,pE,pL,pA,pS,pM,pD,zN,qT,qG,qL,qH,qN,qB,qE,qO,qA,qM,zaf,sMp,zaj,zak,zai,zfp,zfe];refine⟨fun y hy=>zcv _ y hy,?_⟩;have hc:=zn9 ks (zbr m n);simp only[ZE,↓reduceIte,pE,pL,pA,pS,pM,pD]at hc;refine EFn.p ?_;simp only[ZE,↓reduceIte,pE,pL,pA,pS,pM,pD];refine zar.i hc ?_;simp only[ZE,↓reduceIte,pE,pL,pA,pS,pM,pD]
/-- The first place of an element with a property. -/
def zhd{α:Type}(p:α->Bool)(l:List α):Int:=match l.findIdx? p with | some i=>(i:Int) | none=> -1
theorem zeO{α:Type}{p:α->Bool}{l:List α}{i:Nat}(h:i<l.length)(hx:p l[i]=true)(hn: ∀j (_:j<i) (hj:j<l.length),p l[j]=false):zhd p l=i:=by
 unfold zhd;have:l.findIdx? p=some i:=by
  rw[List.findIdx?_eq_some_iff_getElem];exact⟨h,hx,fun j hj=>by rw[hn j hj (by omega)]; simp⟩
 rw[this]
theorem zff{α:Type}{p:α->Bool}{l:List α}(hn: ∀j (hj:j<l.length),p l[j]=false):zhd p l= -1:=by
 unfold zhd;have:l.findIdx? p=none:=by
  rw[List.findIdx?_eq_none_iff];intro y hy;obtain⟨j,hj,rfl⟩:=List.getElem_of_mem hy;exact hn j hj
 rw[this]
theorem zfZ{α:Type}(p:α->Bool)(l:List α):decide (zhd p l>=0)=l.any p:=by
 rw[Bool.eq_iff_iff,List.any_eq_true,decide_eq_true_eq];unfold zhd;split
 ·rename_i i h;rw[List.findIdx?_eq_some_iff_getElem]at h;obtain⟨h1,h2,_⟩:=h;have: ∃x,x∈l/\p x=true:=⟨_,List.getElem_mem h1,h2⟩;simp[this]
 ·rename_i h;rw[List.findIdx?_eq_none_iff]at h;have: ¬ ∃x,x∈l/\p x=true:=fun⟨x,h1,h2⟩=>by rw[h x h1]at h2; cases h2
  simp[this]
theorem zxg{α:Type}(p:α->Bool)(l:List α):zhd p l<(l.length:Int):=by
 unfold zhd;split
 ·rename_i i hi;have:=(List.findIdx?_eq_some_iff_findIdx_eq.1 hi).1;omega
 ·omega
theorem zdk{n:Nat}(h:n<=9223372036854775807):(Lit.int .i64 (n:Int)).wf =true:=by
 simp only[Lit.wf,Bool.and_eq_true,decide_eq_true_eq];have h1:IntKind.i64.min= -9223372036854775808:=by decide
 have h2:IntKind.i64.max=9223372036854775807:=by decide
 rw[h1,h2];omega
theorem zs8(l:List Bind)(g:Nat)(c:D)(p:Bind->Bool)(hf: ∀b∈l,FnP Tryz.prog g [.agg (zj4 b),c] (.d (eB (p b))) []):FnP Tryz.prog 280 [zen l,.clo (.func g) [] [c]] (.d (eI (zhd p l))) []:=by
 refine FnP.of_eC (own:=[]) chL zat Tryz.func280 rfl Tryz.call280 Tryz.ntmps280 (Nat.le_of_ble_eq_true rfl) Tryz.results280 (fun hok=> ?_);obtain⟨hl,_⟩:=za9 (zaM hok).1;simp only[ZE,↓reduceIte,pE,pL,pA,pS,pM,pD,zN,qT,qG,qL,qH,qN,qB,qE,qO,qA,qM];refine za2 chL zat l.length (fun i=> ∀j (_:j<i) (hj:j<l.length),p l[j]=false) (fun i=>([(0,.d (zen l)),(1,.d (.clo (.func g) [] [c])),(7,.d (eI l.length)),(8,.d (eI i))],[])) (by simp) (by simp only[ZE,↓reduceIte,pE,pL,pA,pS,pM,pD,zN,qT,qG,qL,qH,qN,qB,qE,qO,qA,qM]) (by simp only[ZE,↓reduceIte,pE,pL,pA,pS,pM,pD]) (fun i hi hI=> ?_);rcases Nat.lt_or_ge i l.length with h | h
 ·have hw:=zas (show i<9223372036854775807 by omega);simp only[ZE,↓reduceIte,pE,pL,pA,pS,pM,pD,zax h,zaa h,zal h];have hc:=hf l[i] (List.getElem_mem h);simp only[ZE,↓reduceIte,pE,pL,pA,pS,pM,pD]at hc;refine EFn.p ?_;simp only[ZE,↓reduceIte,pE,pL,pA,pS,pM,pD];refine zar.i hc ?_;simp only[ZE,↓reduceIte,pE,pL,pA,pS,pM,pD,hw];refine zea (fun h3=> ?_) (fun h3=>⟨h,fun j hj hj'=> ?_⟩)
  ·rw[zeO h h3 hI]
  ·rcases Nat.lt_succ_iff_lt_or_eq.1 hj with hj | rfl
   ·exact hI j hj hj'
   ·exact h3
 ·simp only[ZE,↓reduceIte,pE,pL,pA,pS,pM,pD,zaI h];rw[zff (fun j hj=>hI j (by omega) hj)]
theorem zmq(l:List Bind)(g:Nat)(c:D)(p:Bind->Bool)(hf: ∀b∈l,FnP Tryz.prog g [.agg (zj4 b),c] (.d (eB (p b))) []):FnP Tryz.prog 251 [zen l,.clo (.func g) [] [c]] (.d (eB (l.any p))) []:=by
 refine FnP.of_eC (own:=[]) chL zat Tryz.func251 rfl Tryz.call251 Tryz.ntmps251 (Nat.le_of_ble_eq_true rfl) Tryz.results251 (fun hok=> ?_);simp only[ZE,↓reduceIte,pE,pL,pA,pS,pM,pD,zN,qT,qG,qL,qH,qN,qB,qE,qO,qA,qM];refine EFn.p ?_;simp(maxSteps:=4000000) only[ZE,↓reduceIte,pE,pL,pA,pS,pM,pD];have hc:=zs8 l g c p hf;simp(maxSteps:=4000000) only[ZE,↓reduceIte,pE,pL,pA,pS,pM,pD]at hc;refine zar.i hc ?_;clear hc;simp only[ZE,↓reduceIte,pE,pL,pA,pS,pM,pD,zN,qT,qG,qL,qH,qN,qB,qE,qO,qA,qM,zfZ]
theorem zs9(l:List Item)(g:Nat)(c:D)(p:Item->Bool)(hf: ∀b∈l,FnP Tryz.prog g [.agg (zaK b),c] (.d (eB (p b))) []):FnP Tryz.prog 112 [zbU l,.clo (.func g) [] [c]] (.d (eI (zhd p l))) []:=by
 refine FnP.of_eC (own:=[]) chL zat Tryz.func112 rfl Tryz.call112 Tryz.ntmps112 (Nat.le_of_ble_eq_true rfl) Tryz.results112 (fun hok=> ?_);obtain⟨hl,_⟩:=za9 (zaM hok).1;simp only[ZE,↓reduceIte,pE,pL,pA,pS,pM,pD,zN,qT,qG,qL,qH,qN,qB,qE,qO,qA,qM];refine za2 chL zat l.length (fun i=> ∀j (_:j<i) (hj:j<l.length),p l[j]=false) (fun i=>([(0,.d (zbU l)),(1,.d (.clo (.func g) [] [c])),(7,.d (eI l.length)),(8,.d (eI i))],[])) (by simp) (by simp only[ZE,↓reduceIte,pE,pL,pA,pS,pM,pD,zN,qT,qG,qL,qH,qN,qB,qE,qO,qA,qM]) (by simp only[ZE,↓reduceIte,pE,pL,pA,pS,pM,pD]) (fun i hi hI=> ?_);rcases Nat.lt_or_ge i l.length with h | h
 ·have hw:=zas (show i<9223372036854775807 by omega);simp only[ZE,↓reduceIte,pE,pL,pA,pS,pM,pD,zax h,zaa h,zal h];have hc:=hf l[i] (List.getElem_mem h);simp only[ZE,↓reduceIte,pE,pL,pA,pS,pM,pD]at hc;refine EFn.p ?_;simp only[ZE,↓reduceIte,pE,pL,pA,pS,pM,pD];refine zar.i hc ?_;simp only[ZE,↓reduceIte,pE,pL,pA,pS,pM,pD,hw];refine zea (fun h3=> ?_) (fun h3=>⟨h,fun j hj hj'=> ?_⟩)
  ·rw[zeO h h3 hI]
  ·rcases Nat.lt_succ_iff_lt_or_eq.1 hj with hj | rfl
   ·exact hI j hj hj'
   ·exact h3
 ·simp only[ZE,↓reduceIte,pE,pL,pA,pS,pM,pD,zaI h];rw[zff (fun j hj=>hI j (by omega) hj)]
theorem zcK(l:List Item)(g:Nat)(c:D)(p:Item->Bool)(hf: ∀b∈l,FnP Tryz.prog g [.agg (zaK b),c] (.d (eB (p b))) []):FnP Tryz.prog 54 [zbU l,.clo (.func g) [] [c]] (.d (eB (l.any p))) []:=by
 refine FnP.of_eC (own:=[]) chL zat Tryz.func54 rfl Tryz.call54 Tryz.ntmps54 (Nat.le_of_ble_eq_true rfl) Tryz.results54 (fun hok=> ?_);simp only[ZE,↓reduceIte,pE,pL,pA,pS,pM,pD,zN,qT,qG,qL,qH,qN,qB,qE,qO,qA,qM];refine EFn.p ?_;simp(maxSteps:=4000000) only[ZE,↓reduceIte,pE,pL,pA,pS,pM,pD];have hc:=zs9 l g c p hf;simp(maxSteps:=4000000) only[ZE,↓reduceIte,pE,pL,pA,pS,pM,pD]at hc;refine zar.i hc ?_;clear hc;simp only[ZE,↓reduceIte,pE,pL,pA,pS,pM,pD,zN,qT,qG,qL,qH,qN,qB,qE,qO,qA,qM,zfZ]
end Go.Proofs.YtbenhdgpogiadaaGreat
