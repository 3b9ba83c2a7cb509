/-
 CONTRACTS of the functions that the law reaches, and plain laws on what they compute. Conditions: those of each law.
-/
import Derived.Test.YtnnhfhodbfgfdaaGreatGO
import Derived.Test.YtnnhfhodbfgfdaaGreatProg
import Derived.Test.YtnnhfhodbfgfdaaGreatGOr
import Derived.DeepKeys4
import Derived.Maps.Keyed
set_option linter.unusedSimpArgs false
set_option linter.unusedVariables false
namespace Go.Proofs.YtnnhfhodbfgfdaaGreat
open And renaming intro → aI
open Go.Aw
theorem mixed : Tryz.prog.follows .mixedOrders = true := by kernel_rfl
theorem tL1 : lay Tryz.prog 1 = some (false, 1) := by kernel_rfl
theorem tZ1 : zeroOf Tryz.prog 1 = some [.nilFunc] := by kernel_rfl
theorem tU2 : Tryz.prog.underlying 2 = some (.int .i64) := by kernel_rfl
theorem tL2 : lay Tryz.prog 2 = some (false, 1) := by kernel_rfl
theorem tZ2 : zeroOf Tryz.prog 2 = some [.int .i64 0] := by kernel_rfl
theorem tU3 : Tryz.prog.underlying 3 = some (.int .i64) := by kernel_rfl
theorem tL3 : lay Tryz.prog 3 = some (false, 1) := by kernel_rfl
theorem tZ3 : zeroOf Tryz.prog 3 = some [.int .i64 0] := by kernel_rfl
theorem tU4 : Tryz.prog.underlying 4 = some .bool := by kernel_rfl
theorem tL4 : lay Tryz.prog 4 = some (false, 1) := by kernel_rfl
theorem tZ4 : zeroOf Tryz.prog 4 = some [.bool false] := by kernel_rfl
theorem tU5 : Tryz.prog.underlying 5 = some (.int .u8) := by kernel_rfl
theorem tL5 : lay Tryz.prog 5 = some (false, 1) := by kernel_rfl
theorem tZ5 : zeroOf Tryz.prog 5 = some [.int .u8 0] := by kernel_rfl
theorem tU6 : Tryz.prog.underlying 6 = some (.int .u8) := by kernel_rfl
theorem tL6 : lay Tryz.prog 6 = some (false, 1) := by kernel_rfl
theorem tZ6 : zeroOf Tryz.prog 6 = some [.int .u8 0] := by kernel_rfl
theorem tL7 : lay Tryz.prog 7 = some (true, 4) := by kernel_rfl
theorem tZ7 : zeroOf Tryz.prog 7 = some [.int .i64 0, .int .i64 0, .bool false, .int .u8 0] := by kernel_rfl
theorem tF7x0 : fieldOf Tryz.prog 7 0 = some (0, false, 1) := by kernel_rfl
theorem tP7x0 : placeOf Tryz.prog 7 0 = some (0, false, 1) := by kernel_rfl
theorem tF7x1 : fieldOf Tryz.prog 7 1 = some (1, false, 1) := by kernel_rfl
theorem tP7x1 : placeOf Tryz.prog 7 1 = some (1, false, 1) := by kernel_rfl
theorem tF7x2 : fieldOf Tryz.prog 7 2 = some (2, false, 1) := by kernel_rfl
theorem tP7x2 : placeOf Tryz.prog 7 2 = some (2, false, 1) := by kernel_rfl
theorem tF7x3 : fieldOf Tryz.prog 7 3 = some (3, false, 1) := by kernel_rfl
theorem tP7x3 : placeOf Tryz.prog 7 3 = some (3, false, 1) := by kernel_rfl
theorem tK7 : placesOk Tryz.prog 7 = true := by kernel_rfl
theorem tQ7 : eqTys Tryz.prog 7 = some [0, 0, 1, 0] := by kernel_rfl
theorem tL8 : lay Tryz.prog 8 = some (true, 4) := by kernel_rfl
theorem tZ8 : zeroOf Tryz.prog 8 = some [.int .i64 0, .int .i64 0, .bool false, .int .u8 0] := by kernel_rfl
theorem tF8x0 : fieldOf Tryz.prog 8 0 = some (0, false, 1) := by kernel_rfl
theorem tP8x0 : placeOf Tryz.prog 8 0 = some (0, false, 1) := by kernel_rfl
theorem tF8x1 : fieldOf Tryz.prog 8 1 = some (1, false, 1) := by kernel_rfl
theorem tP8x1 : placeOf Tryz.prog 8 1 = some (1, false, 1) := by kernel_rfl
theorem tF8x2 : fieldOf Tryz.prog 8 2 = some (2, false, 1) := by kernel_rfl
theorem tP8x2 : placeOf Tryz.prog 8 2 = some (2, false, 1) := by kernel_rfl
theorem tF8x3 : fieldOf Tryz.prog 8 3 = some (3, false, 1) := by kernel_rfl
theorem tP8x3 : placeOf Tryz.prog 8 3 = some (3, false, 1) := by kernel_rfl
theorem tK8 : placesOk Tryz.prog 8 = true := by kernel_rfl
theorem tQ8 : eqTys Tryz.prog 8 = some [0, 0, 1, 0] := by kernel_rfl
theorem tU9 : Tryz.prog.underlying 9 = some .string := by kernel_rfl
theorem tL9 : lay Tryz.prog 9 = some (false, 1) := by kernel_rfl
theorem tZ9 : zeroOf Tryz.prog 9 = some [.string ByteArray.empty] := by kernel_rfl
theorem tU10 : Tryz.prog.underlying 10 = some .string := by kernel_rfl
theorem tL10 : lay Tryz.prog 10 = some (false, 1) := by kernel_rfl
theorem tZ10 : zeroOf Tryz.prog 10 = some [.string ByteArray.empty] := by kernel_rfl
theorem tU11 : Tryz.prog.underlying 11 = some .string := by kernel_rfl
theorem tL11 : lay Tryz.prog 11 = some (false, 1) := by kernel_rfl
theorem tZ11 : zeroOf Tryz.prog 11 = some [.string ByteArray.empty] := by kernel_rfl
theorem tU12 : Tryz.prog.underlying 12 = some (.int .u64) := by kernel_rfl
theorem tL12 : lay Tryz.prog 12 = some (false, 1) := by kernel_rfl
theorem tZ12 : zeroOf Tryz.prog 12 = some [.int .u64 0] := by kernel_rfl
theorem tL13 : lay Tryz.prog 13 = some (true, 2) := by kernel_rfl
theorem tZ13 : zeroOf Tryz.prog 13 = some [.string ByteArray.empty, .int .u64 0] := by kernel_rfl
theorem tF13x0 : fieldOf Tryz.prog 13 0 = some (0, false, 1) := by kernel_rfl
theorem tP13x0 : placeOf Tryz.prog 13 0 = some (0, false, 1) := by kernel_rfl
theorem tF13x1 : fieldOf Tryz.prog 13 1 = some (1, false, 1) := by kernel_rfl
theorem tP13x1 : placeOf Tryz.prog 13 1 = some (1, false, 1) := by kernel_rfl
theorem tK13 : placesOk Tryz.prog 13 = true := by kernel_rfl
theorem tL14 : lay Tryz.prog 14 = some (true, 2) := by kernel_rfl
theorem tZ14 : zeroOf Tryz.prog 14 = some [.string ByteArray.empty, .int .u64 0] := by kernel_rfl
theorem tF14x0 : fieldOf Tryz.prog 14 0 = some (0, false, 1) := by kernel_rfl
theorem tP14x0 : placeOf Tryz.prog 14 0 = some (0, false, 1) := by kernel_rfl
theorem tF14x1 : fieldOf Tryz.prog 14 1 = some (1, false, 1) := by kernel_rfl
theorem tP14x1 : placeOf Tryz.prog 14 1 = some (1, false, 1) := by kernel_rfl
theorem tK14 : placesOk Tryz.prog 14 = true := by kernel_rfl
theorem tU15 : Tryz.prog.underlying 15 = some (.pointer 274) := by kernel_rfl
theorem tL15 : lay Tryz.prog 15 = some (false, 1) := by kernel_rfl
theorem tZ15 : zeroOf Tryz.prog 15 = some [.pointer none] := by kernel_rfl
theorem tU16 : Tryz.prog.underlying 16 = some (.pointer 277) := by kernel_rfl
theorem tL16 : lay Tryz.prog 16 = some (false, 1) := by kernel_rfl
theorem tZ16 : zeroOf Tryz.prog 16 = some [.pointer none] := by kernel_rfl
theorem tU17 : Tryz.prog.underlying 17 = some (.pointer 286) := by kernel_rfl
theorem tL17 : lay Tryz.prog 17 = some (false, 1) := by kernel_rfl
theorem tZ17 : zeroOf Tryz.prog 17 = some [.pointer none] := by kernel_rfl
theorem tL18 : lay Tryz.prog 18 = some (true, 1) := by kernel_rfl
theorem tZ18 : zeroOf Tryz.prog 18 = some [.pointer none] := by kernel_rfl
theorem tF18x0 : fieldOf Tryz.prog 18 0 = some (0, false, 1) := by kernel_rfl
theorem tP18x0 : placeOf Tryz.prog 18 0 = some (0, false, 1) := by kernel_rfl
theorem tK18 : placesOk Tryz.prog 18 = true := by kernel_rfl
theorem tL19 : lay Tryz.prog 19 = some (true, 1) := by kernel_rfl
theorem tZ19 : zeroOf Tryz.prog 19 = some [.pointer none] := by kernel_rfl
theorem tF19x0 : fieldOf Tryz.prog 19 0 = some (0, false, 1) := by kernel_rfl
theorem tP19x0 : placeOf Tryz.prog 19 0 = some (0, false, 1) := by kernel_rfl
theorem tK19 : placesOk Tryz.prog 19 = true := by kernel_rfl
theorem tL20 : lay Tryz.prog 20 = some (false, 1) := by kernel_rfl
theorem tZ20 : zeroOf Tryz.prog 20 = some [.nilIface] := by kernel_rfl
theorem tU21 : Tryz.prog.underlying 21 = some (.int .i32) := by kernel_rfl
theorem tL21 : lay Tryz.prog 21 = some (false, 1) := by kernel_rfl
theorem tZ21 : zeroOf Tryz.prog 21 = some [.int .i32 0] := by kernel_rfl
theorem tU22 : Tryz.prog.underlying 22 = some (.slice 5) := by kernel_rfl
theorem tL22 : lay Tryz.prog 22 = some (false, 1) := by kernel_rfl
theorem tZ22 : zeroOf Tryz.prog 22 = some [.slice none 0 0] := by kernel_rfl
theorem tE22 : elemOfSl Tryz.prog 22 = some (5, false, 1) := by kernel_rfl
theorem tA22 : appTy Tryz.prog 22 = some (5, 1, 1) := by kernel_rfl
theorem tL23 : lay Tryz.prog 23 = some (true, 3) := by kernel_rfl
theorem tZ23 : zeroOf Tryz.prog 23 = some [.int .u8 0, .int .u8 0, .slice none 0 0] := by kernel_rfl
theorem tF23x0 : fieldOf Tryz.prog 23 0 = some (0, false, 1) := by kernel_rfl
theorem tP23x0 : placeOf Tryz.prog 23 0 = some (0, false, 1) := by kernel_rfl
theorem tF23x1 : fieldOf Tryz.prog 23 1 = some (1, false, 1) := by kernel_rfl
theorem tP23x1 : placeOf Tryz.prog 23 1 = some (1, false, 1) := by kernel_rfl
theorem tF23x2 : fieldOf Tryz.prog 23 2 = some (2, false, 1) := by kernel_rfl
theorem tP23x2 : placeOf Tryz.prog 23 2 = some (2, false, 1) := by kernel_rfl
theorem tK23 : placesOk Tryz.prog 23 = true := by kernel_rfl
theorem tL24 : lay Tryz.prog 24 = some (true, 3) := by kernel_rfl
theorem tZ24 : zeroOf Tryz.prog 24 = some [.int .u8 0, .int .u8 0, .slice none 0 0] := by kernel_rfl
theorem tF24x0 : fieldOf Tryz.prog 24 0 = some (0, false, 1) := by kernel_rfl
theorem tP24x0 : placeOf Tryz.prog 24 0 = some (0, false, 1) := by kernel_rfl
theorem tF24x1 : fieldOf Tryz.prog 24 1 = some (1, false, 1) := by kernel_rfl
theorem tP24x1 : placeOf Tryz.prog 24 1 = some (1, false, 1) := by kernel_rfl
theorem tF24x2 : fieldOf Tryz.prog 24 2 = some (2, false, 1) := by kernel_rfl
theorem tP24x2 : placeOf Tryz.prog 24 2 = some (2, false, 1) := by kernel_rfl
theorem tK24 : placesOk Tryz.prog 24 = true := by kernel_rfl
theorem tU25 : Tryz.prog.underlying 25 = some (.slice 80) := by kernel_rfl
theorem tL25 : lay Tryz.prog 25 = some (false, 1) := by kernel_rfl
theorem tZ25 : zeroOf Tryz.prog 25 = some [.slice none 0 0] := by kernel_rfl
theorem tE25 : elemOfSl Tryz.prog 25 = some (80, true, 4) := by kernel_rfl
theorem tA25 : appTy Tryz.prog 25 = some (80, 4, 4) := by kernel_rfl
theorem tL26 : lay Tryz.prog 26 = some (true, 8) := by kernel_rfl
theorem tZ26 : zeroOf Tryz.prog 26 = some [.int .u8 0, .int .u8 0, .slice none 0 0, .int .u8 0, .int .u8 0, .slice none 0 0, .slice none 0 0, .slice none 0 0] := by kernel_rfl
theorem tF26x0 : fieldOf Tryz.prog 26 0 = some (0, true, 3) := by kernel_rfl
theorem tP26x0 : placeOf Tryz.prog 26 0 = some (0, true, 3) := by kernel_rfl
theorem tF26x1 : fieldOf Tryz.prog 26 1 = some (3, true, 3) := by kernel_rfl
theorem tP26x1 : placeOf Tryz.prog 26 1 = some (3, true, 3) := by kernel_rfl
theorem tF26x2 : fieldOf Tryz.prog 26 2 = some (6, false, 1) := by kernel_rfl
theorem tP26x2 : placeOf Tryz.prog 26 2 = some (6, false, 1) := by kernel_rfl
theorem tF26x3 : fieldOf Tryz.prog 26 3 = some (7, false, 1) := by kernel_rfl
theorem tP26x3 : placeOf Tryz.prog 26 3 = some (7, false, 1) := by kernel_rfl
theorem tK26 : placesOk Tryz.prog 26 = true := by kernel_rfl
theorem tL27 : lay Tryz.prog 27 = some (true, 8) := by kernel_rfl
theorem tZ27 : zeroOf Tryz.prog 27 = some [.int .u8 0, .int .u8 0, .slice none 0 0, .int .u8 0, .int .u8 0, .slice none 0 0, .slice none 0 0, .slice none 0 0] := by kernel_rfl
theorem tF27x0 : fieldOf Tryz.prog 27 0 = some (0, true, 3) := by kernel_rfl
theorem tP27x0 : placeOf Tryz.prog 27 0 = some (0, true, 3) := by kernel_rfl
theorem tF27x1 : fieldOf Tryz.prog 27 1 = some (3, true, 3) := by kernel_rfl
theorem tP27x1 : placeOf Tryz.prog 27 1 = some (3, true, 3) := by kernel_rfl
theorem tF27x2 : fieldOf Tryz.prog 27 2 = some (6, false, 1) := by kernel_rfl
theorem tP27x2 : placeOf Tryz.prog 27 2 = some (6, false, 1) := by kernel_rfl
theorem tF27x3 : fieldOf Tryz.prog 27 3 = some (7, false, 1) := by kernel_rfl
theorem tP27x3 : placeOf Tryz.prog 27 3 = some (7, false, 1) := by kernel_rfl
theorem tK27 : placesOk Tryz.prog 27 = true := by kernel_rfl
theorem tU28 : Tryz.prog.underlying 28 = some (.slice 64) := by kernel_rfl
theorem tL28 : lay Tryz.prog 28 = some (false, 1) := by kernel_rfl
theorem tZ28 : zeroOf Tryz.prog 28 = some [.slice none 0 0] := by kernel_rfl
theorem tE28 : elemOfSl Tryz.prog 28 = some (64, true, 4) := by kernel_rfl
theorem tA28 : appTy Tryz.prog 28 = some (64, 4, 80) := by kernel_rfl
theorem tL29 : lay Tryz.prog 29 = some (true, 1) := by kernel_rfl
theorem tZ29 : zeroOf Tryz.prog 29 = some [.slice none 0 0] := by kernel_rfl
theorem tF29x0 : fieldOf Tryz.prog 29 0 = some (0, false, 1) := by kernel_rfl
theorem tP29x0 : placeOf Tryz.prog 29 0 = some (0, false, 1) := by kernel_rfl
theorem tK29 : placesOk Tryz.prog 29 = true := by kernel_rfl
theorem tL30 : lay Tryz.prog 30 = some (true, 1) := by kernel_rfl
theorem tZ30 : zeroOf Tryz.prog 30 = some [.slice none 0 0] := by kernel_rfl
theorem tF30x0 : fieldOf Tryz.prog 30 0 = some (0, false, 1) := by kernel_rfl
theorem tP30x0 : placeOf Tryz.prog 30 0 = some (0, false, 1) := by kernel_rfl
theorem tK30 : placesOk Tryz.prog 30 = true := by kernel_rfl
theorem tU31 : Tryz.prog.underlying 31 = some (.slice 66) := by kernel_rfl
theorem tL31 : lay Tryz.prog 31 = some (false, 1) := by kernel_rfl
theorem tZ31 : zeroOf Tryz.prog 31 = some [.slice none 0 0] := by kernel_rfl
theorem tE31 : elemOfSl Tryz.prog 31 = some (66, true, 43) := by kernel_rfl
theorem tA31 : appTy Tryz.prog 31 = some (66, 43, 608) := by kernel_rfl
theorem tL32 : lay Tryz.prog 32 = some (false, 1) := by kernel_rfl
theorem tZ32 : zeroOf Tryz.prog 32 = some [.nilFunc] := by kernel_rfl
theorem tL33 : lay Tryz.prog 33 = some (false, 1) := by kernel_rfl
theorem tZ33 : zeroOf Tryz.prog 33 = some [.nilFunc] := by kernel_rfl
theorem tL34 : lay Tryz.prog 34 = some (false, 1) := by kernel_rfl
theorem tZ34 : zeroOf Tryz.prog 34 = some [.nilFunc] := by kernel_rfl
theorem tL35 : lay Tryz.prog 35 = some (false, 1) := by kernel_rfl
theorem tZ35 : zeroOf Tryz.prog 35 = some [.nilFunc] := by kernel_rfl
theorem tL36 : lay Tryz.prog 36 = some (false, 1) := by kernel_rfl
theorem tZ36 : zeroOf Tryz.prog 36 = some [.nilFunc] := by kernel_rfl
theorem tL37 : lay Tryz.prog 37 = some (false, 1) := by kernel_rfl
theorem tZ37 : zeroOf Tryz.prog 37 = some [.nilFunc] := by kernel_rfl
theorem tL38 : lay Tryz.prog 38 = some (false, 1) := by kernel_rfl
theorem tZ38 : zeroOf Tryz.prog 38 = some [.nilFunc] := by kernel_rfl
theorem tL39 : lay Tryz.prog 39 = some (false, 1) := by kernel_rfl
theorem tZ39 : zeroOf Tryz.prog 39 = some [.nilFunc] := by kernel_rfl
theorem tU40 : Tryz.prog.underlying 40 = some (.int .i64) := by kernel_rfl
theorem tL40 : lay Tryz.prog 40 = some (false, 1) := by kernel_rfl
theorem tZ40 : zeroOf Tryz.prog 40 = some [.int .i64 0] := by kernel_rfl
theorem tL41 : lay Tryz.prog 41 = some (true, 2) := by kernel_rfl
theorem tZ41 : zeroOf Tryz.prog 41 = some [.slice none 0 0, .int .i64 0] := by kernel_rfl
theorem tF41x0 : fieldOf Tryz.prog 41 0 = some (0, true, 1) := by kernel_rfl
theorem tP41x0 : placeOf Tryz.prog 41 0 = some (0, true, 1) := by kernel_rfl
theorem tF41x1 : fieldOf Tryz.prog 41 1 = some (1, false, 1) := by kernel_rfl
theorem tP41x1 : placeOf Tryz.prog 41 1 = some (1, false, 1) := by kernel_rfl
theorem tK41 : placesOk Tryz.prog 41 = true := by kernel_rfl
theorem tL42 : lay Tryz.prog 42 = some (true, 2) := by kernel_rfl
theorem tZ42 : zeroOf Tryz.prog 42 = some [.slice none 0 0, .int .i64 0] := by kernel_rfl
theorem tF42x0 : fieldOf Tryz.prog 42 0 = some (0, true, 1) := by kernel_rfl
theorem tP42x0 : placeOf Tryz.prog 42 0 = some (0, true, 1) := by kernel_rfl
theorem tF42x1 : fieldOf Tryz.prog 42 1 = some (1, false, 1) := by kernel_rfl
theorem tP42x1 : placeOf Tryz.prog 42 1 = some (1, false, 1) := by kernel_rfl
theorem tK42 : placesOk Tryz.prog 42 = true := by kernel_rfl
theorem tL43 : lay Tryz.prog 43 = some (false, 1) := by kernel_rfl
theorem tZ43 : zeroOf Tryz.prog 43 = some [.nilFunc] := by kernel_rfl
theorem tL44 : lay Tryz.prog 44 = some (true, 2) := by kernel_rfl
theorem tZ44 : zeroOf Tryz.prog 44 = some [.slice none 0 0, .int .i64 0] := by kernel_rfl
theorem tF44x0 : fieldOf Tryz.prog 44 0 = some (0, false, 1) := by kernel_rfl
theorem tP44x0 : placeOf Tryz.prog 44 0 = some (0, false, 1) := by kernel_rfl
theorem tF44x1 : fieldOf Tryz.prog 44 1 = some (1, false, 1) := by kernel_rfl
theorem tP44x1 : placeOf Tryz.prog 44 1 = some (1, false, 1) := by kernel_rfl
theorem tK44 : placesOk Tryz.prog 44 = true := by kernel_rfl
theorem tL45 : lay Tryz.prog 45 = some (true, 2) := by kernel_rfl
theorem tZ45 : zeroOf Tryz.prog 45 = some [.slice none 0 0, .int .i64 0] := by kernel_rfl
theorem tF45x0 : fieldOf Tryz.prog 45 0 = some (0, false, 1) := by kernel_rfl
theorem tP45x0 : placeOf Tryz.prog 45 0 = some (0, false, 1) := by kernel_rfl
theorem tF45x1 : fieldOf Tryz.prog 45 1 = some (1, false, 1) := by kernel_rfl
theorem tP45x1 : placeOf Tryz.prog 45 1 = some (1, false, 1) := by kernel_rfl
theorem tK45 : placesOk Tryz.prog 45 = true := by kernel_rfl
theorem tL46 : lay Tryz.prog 46 = some (false, 1) := by kernel_rfl
theorem tZ46 : zeroOf Tryz.prog 46 = some [.nilFunc] := by kernel_rfl
theorem tL47 : lay Tryz.prog 47 = some (false, 1) := by kernel_rfl
theorem tZ47 : zeroOf Tryz.prog 47 = some [.nilFunc] := by kernel_rfl
theorem tL48 : lay Tryz.prog 48 = some (true, 2) := by kernel_rfl
theorem tZ48 : zeroOf Tryz.prog 48 = some [.int .i64 0, .string ByteArray.empty] := by kernel_rfl
theorem tF48x0 : fieldOf Tryz.prog 48 0 = some (0, false, 1) := by kernel_rfl
theorem tP48x0 : placeOf Tryz.prog 48 0 = some (0, false, 1) := by kernel_rfl
theorem tF48x1 : fieldOf Tryz.prog 48 1 = some (1, false, 1) := by kernel_rfl
theorem tP48x1 : placeOf Tryz.prog 48 1 = some (1, false, 1) := by kernel_rfl
theorem tK48 : placesOk Tryz.prog 48 = true := by kernel_rfl
theorem tQ48 : eqTys Tryz.prog 48 = some [0, 2] := by kernel_rfl
theorem tL49 : lay Tryz.prog 49 = some (true, 2) := by kernel_rfl
theorem tZ49 : zeroOf Tryz.prog 49 = some [.int .i64 0, .string ByteArray.empty] := by kernel_rfl
theorem tF49x0 : fieldOf Tryz.prog 49 0 = some (0, false, 1) := by kernel_rfl
theorem tP49x0 : placeOf Tryz.prog 49 0 = some (0, false, 1) := by kernel_rfl
theorem tF49x1 : fieldOf Tryz.prog 49 1 = some (1, false, 1) := by kernel_rfl
theorem tP49x1 : placeOf Tryz.prog 49 1 = some (1, false, 1) := by kernel_rfl
theorem tK49 : placesOk Tryz.prog 49 = true := by kernel_rfl
theorem tQ49 : eqTys Tryz.prog 49 = some [0, 2] := by kernel_rfl
theorem tL50 : lay Tryz.prog 50 = some (true, 2) := by kernel_rfl
theorem tZ50 : zeroOf Tryz.prog 50 = some [.int .i64 0, .string ByteArray.empty] := by kernel_rfl
theorem tF50x0 : fieldOf Tryz.prog 50 0 = some (0, false, 1) := by kernel_rfl
theorem tP50x0 : placeOf Tryz.prog 50 0 = some (0, false, 1) := by kernel_rfl
theorem tF50x1 : fieldOf Tryz.prog 50 1 = some (1, false, 1) := by kernel_rfl
theorem tP50x1 : placeOf Tryz.prog 50 1 = some (1, false, 1) := by kernel_rfl
theorem tK50 : placesOk Tryz.prog 50 = true := by kernel_rfl
theorem tQ50 : eqTys Tryz.prog 50 = some [0, 2] := by kernel_rfl
theorem tL51 : lay Tryz.prog 51 = some (true, 2) := by kernel_rfl
theorem tZ51 : zeroOf Tryz.prog 51 = some [.int .i64 0, .string ByteArray.empty] := by kernel_rfl
theorem tF51x0 : fieldOf Tryz.prog 51 0 = some (0, false, 1) := by kernel_rfl
theorem tP51x0 : placeOf Tryz.prog 51 0 = some (0, false, 1) := by kernel_rfl
theorem tF51x1 : fieldOf Tryz.prog 51 1 = some (1, false, 1) := by kernel_rfl
theorem tP51x1 : placeOf Tryz.prog 51 1 = some (1, false, 1) := by kernel_rfl
theorem tK51 : placesOk Tryz.prog 51 = true := by kernel_rfl
theorem tQ51 : eqTys Tryz.prog 51 = some [0, 2] := by kernel_rfl
theorem tU52 : Tryz.prog.underlying 52 = some (.slice 54) := by kernel_rfl
theorem tL52 : lay Tryz.prog 52 = some (false, 1) := by kernel_rfl
theorem tZ52 : zeroOf Tryz.prog 52 = some [.slice none 0 0] := by kernel_rfl
theorem tE52 : elemOfSl Tryz.prog 52 = some (54, true, 7) := by kernel_rfl
theorem tA52 : appTy Tryz.prog 52 = some (54, 7, 96) := by kernel_rfl
theorem tL53 : lay Tryz.prog 53 = some (true, 7) := by kernel_rfl
theorem tZ53 : zeroOf Tryz.prog 53 = some [.int .i64 0, .string ByteArray.empty, .int .i64 0, .string ByteArray.empty, .int .i64 0, .string ByteArray.empty, .slice none 0 0] := by kernel_rfl
theorem tF53x0 : fieldOf Tryz.prog 53 0 = some (0, false, 1) := by kernel_rfl
theorem tP53x0 : placeOf Tryz.prog 53 0 = some (0, false, 1) := by kernel_rfl
theorem tF53x1 : fieldOf Tryz.prog 53 1 = some (1, false, 1) := by kernel_rfl
theorem tP53x1 : placeOf Tryz.prog 53 1 = some (1, false, 1) := by kernel_rfl
theorem tF53x2 : fieldOf Tryz.prog 53 2 = some (2, true, 2) := by kernel_rfl
theorem tP53x2 : placeOf Tryz.prog 53 2 = some (2, true, 2) := by kernel_rfl
theorem tF53x3 : fieldOf Tryz.prog 53 3 = some (4, true, 2) := by kernel_rfl
theorem tP53x3 : placeOf Tryz.prog 53 3 = some (4, true, 2) := by kernel_rfl
theorem tF53x4 : fieldOf Tryz.prog 53 4 = some (6, false, 1) := by kernel_rfl
theorem tP53x4 : placeOf Tryz.prog 53 4 = some (6, false, 1) := by kernel_rfl
theorem tK53 : placesOk Tryz.prog 53 = true := by kernel_rfl
theorem tL54 : lay Tryz.prog 54 = some (true, 7) := by kernel_rfl
theorem tZ54 : zeroOf Tryz.prog 54 = some [.int .i64 0, .string ByteArray.empty, .int .i64 0, .string ByteArray.empty, .int .i64 0, .string ByteArray.empty, .slice none 0 0] := by kernel_rfl
theorem tF54x0 : fieldOf Tryz.prog 54 0 = some (0, false, 1) := by kernel_rfl
theorem tP54x0 : placeOf Tryz.prog 54 0 = some (0, false, 1) := by kernel_rfl
theorem tF54x1 : fieldOf Tryz.prog 54 1 = some (1, false, 1) := by kernel_rfl
theorem tP54x1 : placeOf Tryz.prog 54 1 = some (1, false, 1) := by kernel_rfl
theorem tF54x2 : fieldOf Tryz.prog 54 2 = some (2, true, 2) := by kernel_rfl
theorem tP54x2 : placeOf Tryz.prog 54 2 = some (2, true, 2) := by kernel_rfl
theorem tF54x3 : fieldOf Tryz.prog 54 3 = some (4, true, 2) := by kernel_rfl
theorem tP54x3 : placeOf Tryz.prog 54 3 = some (4, true, 2) := by kernel_rfl
theorem tF54x4 : fieldOf Tryz.prog 54 4 = some (6, false, 1) := by kernel_rfl
theorem tP54x4 : placeOf Tryz.prog 54 4 = some (6, false, 1) := by kernel_rfl
theorem tK54 : placesOk Tryz.prog 54 = true := by kernel_rfl
theorem tL55 : lay Tryz.prog 55 = some (true, 3) := by kernel_rfl
theorem tZ55 : zeroOf Tryz.prog 55 = some [.int .i64 0, .string ByteArray.empty, .int .i64 0] := by kernel_rfl
theorem tF55x0 : fieldOf Tryz.prog 55 0 = some (0, false, 1) := by kernel_rfl
theorem tP55x0 : placeOf Tryz.prog 55 0 = some (0, false, 1) := by kernel_rfl
theorem tF55x1 : fieldOf Tryz.prog 55 1 = some (1, false, 1) := by kernel_rfl
theorem tP55x1 : placeOf Tryz.prog 55 1 = some (1, false, 1) := by kernel_rfl
theorem tF55x2 : fieldOf Tryz.prog 55 2 = some (2, false, 1) := by kernel_rfl
theorem tP55x2 : placeOf Tryz.prog 55 2 = some (2, false, 1) := by kernel_rfl
theorem tK55 : placesOk Tryz.prog 55 = true := by kernel_rfl
theorem tQ55 : eqTys Tryz.prog 55 = some [0, 2, 0] := by kernel_rfl
theorem tL56 : lay Tryz.prog 56 = some (true, 3) := by kernel_rfl
theorem tZ56 : zeroOf Tryz.prog 56 = some [.int .i64 0, .string ByteArray.empty, .int .i64 0] := by kernel_rfl
theorem tF56x0 : fieldOf Tryz.prog 56 0 = some (0, false, 1) := by kernel_rfl
theorem tP56x0 : placeOf Tryz.prog 56 0 = some (0, false, 1) := by kernel_rfl
theorem tF56x1 : fieldOf Tryz.prog 56 1 = some (1, false, 1) := by kernel_rfl
theorem tP56x1 : placeOf Tryz.prog 56 1 = some (1, false, 1) := by kernel_rfl
theorem tF56x2 : fieldOf Tryz.prog 56 2 = some (2, false, 1) := by kernel_rfl
theorem tP56x2 : placeOf Tryz.prog 56 2 = some (2, false, 1) := by kernel_rfl
theorem tK56 : placesOk Tryz.prog 56 = true := by kernel_rfl
theorem tQ56 : eqTys Tryz.prog 56 = some [0, 2, 0] := by kernel_rfl
theorem tU57 : Tryz.prog.underlying 57 = some (.slice 51) := by kernel_rfl
theorem tL57 : lay Tryz.prog 57 = some (false, 1) := by kernel_rfl
theorem tZ57 : zeroOf Tryz.prog 57 = some [.slice none 0 0] := by kernel_rfl
theorem tE57 : elemOfSl Tryz.prog 57 = some (51, true, 2) := by kernel_rfl
theorem tA57 : appTy Tryz.prog 57 = some (51, 2, 24) := by kernel_rfl
theorem tU58 : Tryz.prog.underlying 58 = some (.slice 135) := by kernel_rfl
theorem tL58 : lay Tryz.prog 58 = some (false, 1) := by kernel_rfl
theorem tZ58 : zeroOf Tryz.prog 58 = some [.slice none 0 0] := by kernel_rfl
theorem tE58 : elemOfSl Tryz.prog 58 = some (135, true, 2) := by kernel_rfl
theorem tA58 : appTy Tryz.prog 58 = some (135, 2, 32) := by kernel_rfl
theorem tL59 : lay Tryz.prog 59 = some (true, 35) := by kernel_rfl
theorem tZ59 : zeroOf Tryz.prog 59 = some [.int .i64 0, .string ByteArray.empty, .int .i64 0, .string ByteArray.empty, .int .i64 0, .string ByteArray.empty, .int .i64 0, .string ByteArray.empty, .int .i64 0, .string ByteArray.empty, .int .i64 0, .string ByteArray.empty, .int .i64 0, .string ByteArray.empty, .slice none 0 0, .int .i64 0, .string ByteArray.empty, .int .i64 0, .string ByteArray.empty, .int .i64 0, .string ByteArray.empty, .slice none 0 0, .int .i64 0, .string ByteArray.empty, .int .i64 0, .string ByteArray.empty, .int .i64 0, .string ByteArray.empty, .slice none 0 0, .int .i64 0, .string ByteArray.empty, .int .i64 0, .string ByteArray.empty, .slice none 0 0, .slice none 0 0] := by kernel_rfl
theorem tF59x0 : fieldOf Tryz.prog 59 0 = some (0, false, 1) := by kernel_rfl
theorem tP59x0 : placeOf Tryz.prog 59 0 = some (0, false, 1) := by kernel_rfl
theorem tF59x1 : fieldOf Tryz.prog 59 1 = some (1, false, 1) := by kernel_rfl
theorem tP59x1 : placeOf Tryz.prog 59 1 = some (1, false, 1) := by kernel_rfl
theorem tF59x2 : fieldOf Tryz.prog 59 2 = some (2, true, 2) := by kernel_rfl
theorem tP59x2 : placeOf Tryz.prog 59 2 = some (2, true, 2) := by kernel_rfl
theorem tF59x3 : fieldOf Tryz.prog 59 3 = some (4, true, 2) := by kernel_rfl
theorem tP59x3 : placeOf Tryz.prog 59 3 = some (4, true, 2) := by kernel_rfl
theorem tF59x4 : fieldOf Tryz.prog 59 4 = some (6, true, 2) := by kernel_rfl
theorem tP59x4 : placeOf Tryz.prog 59 4 = some (6, true, 2) := by kernel_rfl
theorem tF59x5 : fieldOf Tryz.prog 59 5 = some (8, true, 7) := by kernel_rfl
theorem tP59x5 : placeOf Tryz.prog 59 5 = some (8, true, 7) := by kernel_rfl
theorem tF59x6 : fieldOf Tryz.prog 59 6 = some (15, true, 7) := by kernel_rfl
theorem tP59x6 : placeOf Tryz.prog 59 6 = some (15, true, 7) := by kernel_rfl
theorem tF59x7 : fieldOf Tryz.prog 59 7 = some (22, true, 7) := by kernel_rfl
theorem tP59x7 : placeOf Tryz.prog 59 7 = some (22, true, 7) := by kernel_rfl
theorem tF59x8 : fieldOf Tryz.prog 59 8 = some (29, true, 3) := by kernel_rfl
theorem tP59x8 : placeOf Tryz.prog 59 8 = some (29, true, 3) := by kernel_rfl
theorem tF59x9 : fieldOf Tryz.prog 59 9 = some (32, false, 1) := by kernel_rfl
theorem tP59x9 : placeOf Tryz.prog 59 9 = some (32, false, 1) := by kernel_rfl
theorem tF59x10 : fieldOf Tryz.prog 59 10 = some (33, false, 1) := by kernel_rfl
theorem tP59x10 : placeOf Tryz.prog 59 10 = some (33, false, 1) := by kernel_rfl
theorem tF59x11 : fieldOf Tryz.prog 59 11 = some (34, false, 1) := by kernel_rfl
theorem tP59x11 : placeOf Tryz.prog 59 11 = some (34, false, 1) := by kernel_rfl
theorem tK59 : placesOk Tryz.prog 59 = true := by kernel_rfl
theorem tL60 : lay Tryz.prog 60 = some (true, 35) := by kernel_rfl
theorem tZ60 : zeroOf Tryz.prog 60 = some [.int .i64 0, .string ByteArray.empty, .int .i64 0, .string ByteArray.empty, .int .i64 0, .string ByteArray.empty, .int .i64 0, .string ByteArray.empty, .int .i64 0, .string ByteArray.empty, .int .i64 0, .string ByteArray.empty, .int .i64 0, .string ByteArray.empty, .slice none 0 0, .int .i64 0, .string ByteArray.empty, .int .i64 0, .string ByteArray.empty, .int .i64 0, .string ByteArray.empty, .slice none 0 0, .int .i64 0, .string ByteArray.empty, .int .i64 0, .string ByteArray.empty, .int .i64 0, .string ByteArray.empty, .slice none 0 0, .int .i64 0, .string ByteArray.empty, .int .i64 0, .string ByteArray.empty, .slice none 0 0, .slice none 0 0] := by kernel_rfl
theorem tF60x0 : fieldOf Tryz.prog 60 0 = some (0, false, 1) := by kernel_rfl
theorem tP60x0 : placeOf Tryz.prog 60 0 = some (0, false, 1) := by kernel_rfl
theorem tF60x1 : fieldOf Tryz.prog 60 1 = some (1, false, 1) := by kernel_rfl
theorem tP60x1 : placeOf Tryz.prog 60 1 = some (1, false, 1) := by kernel_rfl
theorem tF60x2 : fieldOf Tryz.prog 60 2 = some (2, true, 2) := by kernel_rfl
theorem tP60x2 : placeOf Tryz.prog 60 2 = some (2, true, 2) := by kernel_rfl
theorem tF60x3 : fieldOf Tryz.prog 60 3 = some (4, true, 2) := by kernel_rfl
theorem tP60x3 : placeOf Tryz.prog 60 3 = some (4, true, 2) := by kernel_rfl
theorem tF60x4 : fieldOf Tryz.prog 60 4 = some (6, true, 2) := by kernel_rfl
theorem tP60x4 : placeOf Tryz.prog 60 4 = some (6, true, 2) := by kernel_rfl
theorem tF60x5 : fieldOf Tryz.prog 60 5 = some (8, true, 7) := by kernel_rfl
theorem tP60x5 : placeOf Tryz.prog 60 5 = some (8, true, 7) := by kernel_rfl
theorem tF60x6 : fieldOf Tryz.prog 60 6 = some (15, true, 7) := by kernel_rfl
theorem tP60x6 : placeOf Tryz.prog 60 6 = some (15, true, 7) := by kernel_rfl
theorem tF60x7 : fieldOf Tryz.prog 60 7 = some (22, true, 7) := by kernel_rfl
theorem tP60x7 : placeOf Tryz.prog 60 7 = some (22, true, 7) := by kernel_rfl
theorem tF60x8 : fieldOf Tryz.prog 60 8 = some (29, true, 3) := by kernel_rfl
theorem tP60x8 : placeOf Tryz.prog 60 8 = some (29, true, 3) := by kernel_rfl
theorem tF60x9 : fieldOf Tryz.prog 60 9 = some (32, false, 1) := by kernel_rfl
theorem tP60x9 : placeOf Tryz.prog 60 9 = some (32, false, 1) := by kernel_rfl
theorem tF60x10 : fieldOf Tryz.prog 60 10 = some (33, false, 1) := by kernel_rfl
theorem tP60x10 : placeOf Tryz.prog 60 10 = some (33, false, 1) := by kernel_rfl
theorem tF60x11 : fieldOf Tryz.prog 60 11 = some (34, false, 1) := by kernel_rfl
theorem tP60x11 : placeOf Tryz.prog 60 11 = some (34, false, 1) := by kernel_rfl
theorem tK60 : placesOk Tryz.prog 60 = true := by kernel_rfl
theorem tU61 : Tryz.prog.underlying 61 = some (.slice 9) := by kernel_rfl
theorem tL61 : lay Tryz.prog 61 = some (false, 1) := by kernel_rfl
theorem tZ61 : zeroOf Tryz.prog 61 = some [.slice none 0 0] := by kernel_rfl
theorem tE61 : elemOfSl Tryz.prog 61 = some (9, false, 1) := by kernel_rfl
theorem tA61 : appTy Tryz.prog 61 = some (9, 1, 16) := by kernel_rfl
theorem tU62 : Tryz.prog.underlying 62 = some (.slice 60) := by kernel_rfl
theorem tL62 : lay Tryz.prog 62 = some (false, 1) := by kernel_rfl
theorem tZ62 : zeroOf Tryz.prog 62 = some [.slice none 0 0] := by kernel_rfl
theorem tE62 : elemOfSl Tryz.prog 62 = some (60, true, 35) := by kernel_rfl
theorem tA62 : appTy Tryz.prog 62 = some (60, 35, 480) := by kernel_rfl
theorem tL63 : lay Tryz.prog 63 = some (true, 4) := by kernel_rfl
theorem tZ63 : zeroOf Tryz.prog 63 = some [.string ByteArray.empty, .string ByteArray.empty, .slice none 0 0, .slice none 0 0] := by kernel_rfl
theorem tF63x0 : fieldOf Tryz.prog 63 0 = some (0, false, 1) := by kernel_rfl
theorem tP63x0 : placeOf Tryz.prog 63 0 = some (0, false, 1) := by kernel_rfl
theorem tF63x1 : fieldOf Tryz.prog 63 1 = some (1, false, 1) := by kernel_rfl
theorem tP63x1 : placeOf Tryz.prog 63 1 = some (1, false, 1) := by kernel_rfl
theorem tF63x2 : fieldOf Tryz.prog 63 2 = some (2, false, 1) := by kernel_rfl
theorem tP63x2 : placeOf Tryz.prog 63 2 = some (2, false, 1) := by kernel_rfl
theorem tF63x3 : fieldOf Tryz.prog 63 3 = some (3, false, 1) := by kernel_rfl
theorem tP63x3 : placeOf Tryz.prog 63 3 = some (3, false, 1) := by kernel_rfl
theorem tK63 : placesOk Tryz.prog 63 = true := by kernel_rfl
theorem tL64 : lay Tryz.prog 64 = some (true, 4) := by kernel_rfl
theorem tZ64 : zeroOf Tryz.prog 64 = some [.string ByteArray.empty, .string ByteArray.empty, .slice none 0 0, .slice none 0 0] := by kernel_rfl
theorem tF64x0 : fieldOf Tryz.prog 64 0 = some (0, false, 1) := by kernel_rfl
theorem tP64x0 : placeOf Tryz.prog 64 0 = some (0, false, 1) := by kernel_rfl
theorem tF64x1 : fieldOf Tryz.prog 64 1 = some (1, false, 1) := by kernel_rfl
theorem tP64x1 : placeOf Tryz.prog 64 1 = some (1, false, 1) := by kernel_rfl
theorem tF64x2 : fieldOf Tryz.prog 64 2 = some (2, false, 1) := by kernel_rfl
theorem tP64x2 : placeOf Tryz.prog 64 2 = some (2, false, 1) := by kernel_rfl
theorem tF64x3 : fieldOf Tryz.prog 64 3 = some (3, false, 1) := by kernel_rfl
theorem tP64x3 : placeOf Tryz.prog 64 3 = some (3, false, 1) := by kernel_rfl
theorem tK64 : placesOk Tryz.prog 64 = true := by kernel_rfl
theorem tL65 : lay Tryz.prog 65 = some (true, 43) := by kernel_rfl
theorem tZ65 : zeroOf Tryz.prog 65 = some [.string ByteArray.empty, .int .i64 0, .string ByteArray.empty, .bool false, .int .i64 0, .string ByteArray.empty, .int .i64 0, .string ByteArray.empty, .int .i64 0, .string ByteArray.empty, .int .i64 0, .string ByteArray.empty, .int .i64 0, .string ByteArray.empty, .int .i64 0, .string ByteArray.empty, .int .i64 0, .string ByteArray.empty, .slice none 0 0, .int .i64 0, .string ByteArray.empty, .int .i64 0, .string ByteArray.empty, .int .i64 0, .string ByteArray.empty, .slice none 0 0, .int .i64 0, .string ByteArray.empty, .int .i64 0, .string ByteArray.empty, .int .i64 0, .string ByteArray.empty, .slice none 0 0, .int .i64 0, .string ByteArray.empty, .int .i64 0, .string ByteArray.empty, .slice none 0 0, .slice none 0 0, .string ByteArray.empty, .string ByteArray.empty, .slice none 0 0, .slice none 0 0] := by kernel_rfl
theorem tF65x0 : fieldOf Tryz.prog 65 0 = some (0, false, 1) := by kernel_rfl
theorem tP65x0 : placeOf Tryz.prog 65 0 = some (0, false, 1) := by kernel_rfl
theorem tF65x1 : fieldOf Tryz.prog 65 1 = some (1, true, 2) := by kernel_rfl
theorem tP65x1 : placeOf Tryz.prog 65 1 = some (1, true, 2) := by kernel_rfl
theorem tF65x2 : fieldOf Tryz.prog 65 2 = some (3, false, 1) := by kernel_rfl
theorem tP65x2 : placeOf Tryz.prog 65 2 = some (3, false, 1) := by kernel_rfl
theorem tF65x3 : fieldOf Tryz.prog 65 3 = some (4, true, 35) := by kernel_rfl
theorem tP65x3 : placeOf Tryz.prog 65 3 = some (4, true, 35) := by kernel_rfl
theorem tF65x4 : fieldOf Tryz.prog 65 4 = some (39, true, 4) := by kernel_rfl
theorem tP65x4 : placeOf Tryz.prog 65 4 = some (39, true, 4) := by kernel_rfl
theorem tK65 : placesOk Tryz.prog 65 = true := by kernel_rfl
theorem tL66 : lay Tryz.prog 66 = some (true, 43) := by kernel_rfl
theorem tZ66 : zeroOf Tryz.prog 66 = some [.string ByteArray.empty, .int .i64 0, .string ByteArray.empty, .bool false, .int .i64 0, .string ByteArray.empty, .int .i64 0, .string ByteArray.empty, .int .i64 0, .string ByteArray.empty, .int .i64 0, .string ByteArray.empty, .int .i64 0, .string ByteArray.empty, .int .i64 0, .string ByteArray.empty, .int .i64 0, .string ByteArray.empty, .slice none 0 0, .int .i64 0, .string ByteArray.empty, .int .i64 0, .string ByteArray.empty, .int .i64 0, .string ByteArray.empty, .slice none 0 0, .int .i64 0, .string ByteArray.empty, .int .i64 0, .string ByteArray.empty, .int .i64 0, .string ByteArray.empty, .slice none 0 0, .int .i64 0, .string ByteArray.empty, .int .i64 0, .string ByteArray.empty, .slice none 0 0, .slice none 0 0, .string ByteArray.empty, .string ByteArray.empty, .slice none 0 0, .slice none 0 0] := by kernel_rfl
theorem tF66x0 : fieldOf Tryz.prog 66 0 = some (0, false, 1) := by kernel_rfl
theorem tP66x0 : placeOf Tryz.prog 66 0 = some (0, false, 1) := by kernel_rfl
theorem tF66x1 : fieldOf Tryz.prog 66 1 = some (1, true, 2) := by kernel_rfl
theorem tP66x1 : placeOf Tryz.prog 66 1 = some (1, true, 2) := by kernel_rfl
theorem tF66x2 : fieldOf Tryz.prog 66 2 = some (3, false, 1) := by kernel_rfl
theorem tP66x2 : placeOf Tryz.prog 66 2 = some (3, false, 1) := by kernel_rfl
theorem tF66x3 : fieldOf Tryz.prog 66 3 = some (4, true, 35) := by kernel_rfl
theorem tP66x3 : placeOf Tryz.prog 66 3 = some (4, true, 35) := by kernel_rfl
theorem tF66x4 : fieldOf Tryz.prog 66 4 = some (39, true, 4) := by kernel_rfl
theorem tP66x4 : placeOf Tryz.prog 66 4 = some (39, true, 4) := by kernel_rfl
theorem tK66 : placesOk Tryz.prog 66 = true := by kernel_rfl
theorem tL67 : lay Tryz.prog 67 = some (false, 1) := by kernel_rfl
theorem tZ67 : zeroOf Tryz.prog 67 = some [.nilFunc] := by kernel_rfl
theorem tL68 : lay Tryz.prog 68 = some (false, 1) := by kernel_rfl
theorem tZ68 : zeroOf Tryz.prog 68 = some [.nilFunc] := by kernel_rfl
theorem tL69 : lay Tryz.prog 69 = some (false, 1) := by kernel_rfl
theorem tZ69 : zeroOf Tryz.prog 69 = some [.nilFunc] := by kernel_rfl
theorem tL70 : lay Tryz.prog 70 = some (false, 1) := by kernel_rfl
theorem tZ70 : zeroOf Tryz.prog 70 = some [.nilFunc] := by kernel_rfl
theorem tU71 : Tryz.prog.underlying 71 = some (.array 2 5) := by kernel_rfl
theorem tL71 : lay Tryz.prog 71 = some (true, 2) := by kernel_rfl
theorem tZ71 : zeroOf Tryz.prog 71 = some [.int .u8 0, .int .u8 0] := by kernel_rfl
theorem tE71 : elemOfSl Tryz.prog 71 = none := by kernel_rfl
theorem tR71 : elemOfArr Tryz.prog 71 = some (2, false, 1) := by kernel_rfl
theorem tP71x0 : placeOf Tryz.prog 71 0 = some (0, false, 1) := by kernel_rfl
theorem tP71x1 : placeOf Tryz.prog 71 1 = some (1, false, 1) := by kernel_rfl
theorem tK71 : placesOk Tryz.prog 71 = true := by kernel_rfl
theorem tQ71 : eqTys Tryz.prog 71 = some [0, 0] := by kernel_rfl
theorem tL72 : lay Tryz.prog 72 = some (false, 1) := by kernel_rfl
theorem tZ72 : zeroOf Tryz.prog 72 = some [.nilFunc] := by kernel_rfl
theorem tL73 : lay Tryz.prog 73 = some (false, 1) := by kernel_rfl
theorem tZ73 : zeroOf Tryz.prog 73 = some [.nilFunc] := by kernel_rfl
theorem tL74 : lay Tryz.prog 74 = some (false, 1) := by kernel_rfl
theorem tZ74 : zeroOf Tryz.prog 74 = some [.nilFunc] := by kernel_rfl
theorem tL75 : lay Tryz.prog 75 = some (false, 1) := by kernel_rfl
theorem tZ75 : zeroOf Tryz.prog 75 = some [.nilFunc] := by kernel_rfl
theorem tL76 : lay Tryz.prog 76 = some (false, 1) := by kernel_rfl
theorem tZ76 : zeroOf Tryz.prog 76 = some [.nilFunc] := by kernel_rfl
theorem tL77 : lay Tryz.prog 77 = some (false, 1) := by kernel_rfl
theorem tZ77 : zeroOf Tryz.prog 77 = some [.nilFunc] := by kernel_rfl
theorem tL78 : lay Tryz.prog 78 = some (false, 1) := by kernel_rfl
theorem tZ78 : zeroOf Tryz.prog 78 = some [.nilFunc] := by kernel_rfl
theorem tL79 : lay Tryz.prog 79 = some (false, 1) := by kernel_rfl
theorem tZ79 : zeroOf Tryz.prog 79 = some [.nilFunc] := by kernel_rfl
theorem tU80 : Tryz.prog.underlying 80 = some (.array 4 5) := by kernel_rfl
theorem tL80 : lay Tryz.prog 80 = some (true, 4) := by kernel_rfl
theorem tZ80 : zeroOf Tryz.prog 80 = some [.int .u8 0, .int .u8 0, .int .u8 0, .int .u8 0] := by kernel_rfl
theorem tE80 : elemOfSl Tryz.prog 80 = none := by kernel_rfl
theorem tR80 : elemOfArr Tryz.prog 80 = some (4, false, 1) := by kernel_rfl
theorem tP80x0 : placeOf Tryz.prog 80 0 = some (0, false, 1) := by kernel_rfl
theorem tP80x1 : placeOf Tryz.prog 80 1 = some (1, false, 1) := by kernel_rfl
theorem tP80x2 : placeOf Tryz.prog 80 2 = some (2, false, 1) := by kernel_rfl
theorem tP80x3 : placeOf Tryz.prog 80 3 = some (3, false, 1) := by kernel_rfl
theorem tK80 : placesOk Tryz.prog 80 = true := by kernel_rfl
theorem tQ80 : eqTys Tryz.prog 80 = some [0, 0, 0, 0] := by kernel_rfl
theorem tL81 : lay Tryz.prog 81 = some (false, 1) := by kernel_rfl
theorem tZ81 : zeroOf Tryz.prog 81 = some [.nilFunc] := by kernel_rfl
theorem tL82 : lay Tryz.prog 82 = some (false, 1) := by kernel_rfl
theorem tZ82 : zeroOf Tryz.prog 82 = some [.nilFunc] := by kernel_rfl
theorem tL83 : lay Tryz.prog 83 = some (false, 1) := by kernel_rfl
theorem tZ83 : zeroOf Tryz.prog 83 = some [.nilFunc] := by kernel_rfl
theorem tL84 : lay Tryz.prog 84 = some (false, 1) := by kernel_rfl
theorem tZ84 : zeroOf Tryz.prog 84 = some [.nilFunc] := by kernel_rfl
theorem tL85 : lay Tryz.prog 85 = some (false, 1) := by kernel_rfl
theorem tZ85 : zeroOf Tryz.prog 85 = some [.nilFunc] := by kernel_rfl
theorem tL86 : lay Tryz.prog 86 = some (false, 1) := by kernel_rfl
theorem tZ86 : zeroOf Tryz.prog 86 = some [.nilFunc] := by kernel_rfl
theorem tL87 : lay Tryz.prog 87 = some (false, 1) := by kernel_rfl
theorem tZ87 : zeroOf Tryz.prog 87 = some [.nilFunc] := by kernel_rfl
theorem tL88 : lay Tryz.prog 88 = some (false, 1) := by kernel_rfl
theorem tZ88 : zeroOf Tryz.prog 88 = some [.nilFunc] := by kernel_rfl
theorem tL89 : lay Tryz.prog 89 = some (false, 1) := by kernel_rfl
theorem tZ89 : zeroOf Tryz.prog 89 = some [.nilFunc] := by kernel_rfl
theorem tL90 : lay Tryz.prog 90 = some (false, 1) := by kernel_rfl
theorem tZ90 : zeroOf Tryz.prog 90 = some [.nilFunc] := by kernel_rfl
theorem tL91 : lay Tryz.prog 91 = some (false, 1) := by kernel_rfl
theorem tZ91 : zeroOf Tryz.prog 91 = some [.nilFunc] := by kernel_rfl
theorem tL92 : lay Tryz.prog 92 = some (false, 1) := by kernel_rfl
theorem tZ92 : zeroOf Tryz.prog 92 = some [.nilFunc] := by kernel_rfl
theorem tL93 : lay Tryz.prog 93 = some (false, 1) := by kernel_rfl
theorem tZ93 : zeroOf Tryz.prog 93 = some [.nilFunc] := by kernel_rfl
theorem tU94 : Tryz.prog.underlying 94 = some (.pointer 96) := by kernel_rfl
theorem tL94 : lay Tryz.prog 94 = some (false, 1) := by kernel_rfl
theorem tZ94 : zeroOf Tryz.prog 94 = some [.pointer none] := by kernel_rfl
theorem tL95 : lay Tryz.prog 95 = some (true, 1) := by kernel_rfl
theorem tZ95 : zeroOf Tryz.prog 95 = some [.slice none 0 0] := by kernel_rfl
theorem tF95x0 : fieldOf Tryz.prog 95 0 = some (0, false, 1) := by kernel_rfl
theorem tP95x0 : placeOf Tryz.prog 95 0 = some (0, false, 1) := by kernel_rfl
theorem tK95 : placesOk Tryz.prog 95 = true := by kernel_rfl
theorem tL96 : lay Tryz.prog 96 = some (true, 1) := by kernel_rfl
theorem tZ96 : zeroOf Tryz.prog 96 = some [.slice none 0 0] := by kernel_rfl
theorem tF96x0 : fieldOf Tryz.prog 96 0 = some (0, false, 1) := by kernel_rfl
theorem tP96x0 : placeOf Tryz.prog 96 0 = some (0, false, 1) := by kernel_rfl
theorem tK96 : placesOk Tryz.prog 96 = true := by kernel_rfl
theorem tL97 : lay Tryz.prog 97 = some (false, 1) := by kernel_rfl
theorem tZ97 : zeroOf Tryz.prog 97 = some [.nilFunc] := by kernel_rfl
theorem tL98 : lay Tryz.prog 98 = some (false, 1) := by kernel_rfl
theorem tZ98 : zeroOf Tryz.prog 98 = some [.nilFunc] := by kernel_rfl
theorem tL99 : lay Tryz.prog 99 = some (false, 1) := by kernel_rfl
theorem tZ99 : zeroOf Tryz.prog 99 = some [.nilFunc] := by kernel_rfl
theorem tL100 : lay Tryz.prog 100 = some (false, 1) := by kernel_rfl
theorem tZ100 : zeroOf Tryz.prog 100 = some [.nilFunc] := by kernel_rfl
theorem tL101 : lay Tryz.prog 101 = some (true, 4) := by kernel_rfl
theorem tZ101 : zeroOf Tryz.prog 101 = some [.nilFunc, .nilFunc, .nilFunc, .nilFunc] := by kernel_rfl
theorem tF101x0 : fieldOf Tryz.prog 101 0 = some (0, false, 1) := by kernel_rfl
theorem tP101x0 : placeOf Tryz.prog 101 0 = some (0, false, 1) := by kernel_rfl
theorem tF101x1 : fieldOf Tryz.prog 101 1 = some (1, false, 1) := by kernel_rfl
theorem tP101x1 : placeOf Tryz.prog 101 1 = some (1, false, 1) := by kernel_rfl
theorem tF101x2 : fieldOf Tryz.prog 101 2 = some (2, false, 1) := by kernel_rfl
theorem tP101x2 : placeOf Tryz.prog 101 2 = some (2, false, 1) := by kernel_rfl
theorem tF101x3 : fieldOf Tryz.prog 101 3 = some (3, false, 1) := by kernel_rfl
theorem tP101x3 : placeOf Tryz.prog 101 3 = some (3, false, 1) := by kernel_rfl
theorem tK101 : placesOk Tryz.prog 101 = true := by kernel_rfl
theorem tL102 : lay Tryz.prog 102 = some (true, 4) := by kernel_rfl
theorem tZ102 : zeroOf Tryz.prog 102 = some [.nilFunc, .nilFunc, .nilFunc, .nilFunc] := by kernel_rfl
theorem tF102x0 : fieldOf Tryz.prog 102 0 = some (0, false, 1) := by kernel_rfl
theorem tP102x0 : placeOf Tryz.prog 102 0 = some (0, false, 1) := by kernel_rfl
theorem tF102x1 : fieldOf Tryz.prog 102 1 = some (1, false, 1) := by kernel_rfl
theorem tP102x1 : placeOf Tryz.prog 102 1 = some (1, false, 1) := by kernel_rfl
theorem tF102x2 : fieldOf Tryz.prog 102 2 = some (2, false, 1) := by kernel_rfl
theorem tP102x2 : placeOf Tryz.prog 102 2 = some (2, false, 1) := by kernel_rfl
theorem tF102x3 : fieldOf Tryz.prog 102 3 = some (3, false, 1) := by kernel_rfl
theorem tP102x3 : placeOf Tryz.prog 102 3 = some (3, false, 1) := by kernel_rfl
theorem tK102 : placesOk Tryz.prog 102 = true := by kernel_rfl
theorem tL103 : lay Tryz.prog 103 = some (false, 1) := by kernel_rfl
theorem tZ103 : zeroOf Tryz.prog 103 = some [.nilFunc] := by kernel_rfl
theorem tL104 : lay Tryz.prog 104 = some (false, 1) := by kernel_rfl
theorem tZ104 : zeroOf Tryz.prog 104 = some [.nilFunc] := by kernel_rfl
theorem tL105 : lay Tryz.prog 105 = some (false, 1) := by kernel_rfl
theorem tZ105 : zeroOf Tryz.prog 105 = some [.nilFunc] := by kernel_rfl
theorem tL106 : lay Tryz.prog 106 = some (false, 1) := by kernel_rfl
theorem tZ106 : zeroOf Tryz.prog 106 = some [.nilFunc] := by kernel_rfl
theorem tL107 : lay Tryz.prog 107 = some (false, 1) := by kernel_rfl
theorem tZ107 : zeroOf Tryz.prog 107 = some [.nilFunc] := by kernel_rfl
theorem tL108 : lay Tryz.prog 108 = some (false, 1) := by kernel_rfl
theorem tZ108 : zeroOf Tryz.prog 108 = some [.nilFunc] := by kernel_rfl
theorem tL109 : lay Tryz.prog 109 = some (false, 1) := by kernel_rfl
theorem tZ109 : zeroOf Tryz.prog 109 = some [.nilFunc] := by kernel_rfl
theorem tL110 : lay Tryz.prog 110 = some (false, 1) := by kernel_rfl
theorem tZ110 : zeroOf Tryz.prog 110 = some [.nilFunc] := by kernel_rfl
theorem tL111 : lay Tryz.prog 111 = some (false, 1) := by kernel_rfl
theorem tZ111 : zeroOf Tryz.prog 111 = some [.nilFunc] := by kernel_rfl
theorem tL112 : lay Tryz.prog 112 = some (false, 1) := by kernel_rfl
theorem tZ112 : zeroOf Tryz.prog 112 = some [.nilFunc] := by kernel_rfl
theorem tL113 : lay Tryz.prog 113 = some (false, 1) := by kernel_rfl
theorem tZ113 : zeroOf Tryz.prog 113 = some [.nilFunc] := by kernel_rfl
theorem tL114 : lay Tryz.prog 114 = some (false, 1) := by kernel_rfl
theorem tZ114 : zeroOf Tryz.prog 114 = some [.nilFunc] := by kernel_rfl
theorem tL116 : lay Tryz.prog 116 = some (false, 1) := by kernel_rfl
theorem tZ116 : zeroOf Tryz.prog 116 = some [.nilFunc] := by kernel_rfl
theorem tL117 : lay Tryz.prog 117 = some (false, 1) := by kernel_rfl
theorem tZ117 : zeroOf Tryz.prog 117 = some [.nilFunc] := by kernel_rfl
theorem tL119 : lay Tryz.prog 119 = some (false, 1) := by kernel_rfl
theorem tZ119 : zeroOf Tryz.prog 119 = some [.nilFunc] := by kernel_rfl
theorem tL120 : lay Tryz.prog 120 = some (false, 1) := by kernel_rfl
theorem tZ120 : zeroOf Tryz.prog 120 = some [.nilFunc] := by kernel_rfl
theorem tL121 : lay Tryz.prog 121 = some (false, 1) := by kernel_rfl
theorem tZ121 : zeroOf Tryz.prog 121 = some [.nilFunc] := by kernel_rfl
theorem tU122 : Tryz.prog.underlying 122 = some (.array 2 9) := by kernel_rfl
theorem tL122 : lay Tryz.prog 122 = some (true, 2) := by kernel_rfl
theorem tZ122 : zeroOf Tryz.prog 122 = some [.string ByteArray.empty, .string ByteArray.empty] := by kernel_rfl
theorem tE122 : elemOfSl Tryz.prog 122 = none := by kernel_rfl
theorem tR122 : elemOfArr Tryz.prog 122 = some (2, false, 1) := by kernel_rfl
theorem tP122x0 : placeOf Tryz.prog 122 0 = some (0, false, 1) := by kernel_rfl
theorem tP122x1 : placeOf Tryz.prog 122 1 = some (1, false, 1) := by kernel_rfl
theorem tK122 : placesOk Tryz.prog 122 = true := by kernel_rfl
theorem tQ122 : eqTys Tryz.prog 122 = some [2, 2] := by kernel_rfl
theorem tL123 : lay Tryz.prog 123 = some (false, 1) := by kernel_rfl
theorem tZ123 : zeroOf Tryz.prog 123 = some [.nilFunc] := by kernel_rfl
theorem tL124 : lay Tryz.prog 124 = some (true, 3) := by kernel_rfl
theorem tZ124 : zeroOf Tryz.prog 124 = some [.slice none 0 0, .int .i64 0, .string ByteArray.empty] := by kernel_rfl
theorem tF124x0 : fieldOf Tryz.prog 124 0 = some (0, false, 1) := by kernel_rfl
theorem tP124x0 : placeOf Tryz.prog 124 0 = some (0, false, 1) := by kernel_rfl
theorem tF124x1 : fieldOf Tryz.prog 124 1 = some (1, true, 2) := by kernel_rfl
theorem tP124x1 : placeOf Tryz.prog 124 1 = some (1, true, 2) := by kernel_rfl
theorem tK124 : placesOk Tryz.prog 124 = true := by kernel_rfl
theorem tL125 : lay Tryz.prog 125 = some (true, 3) := by kernel_rfl
theorem tZ125 : zeroOf Tryz.prog 125 = some [.slice none 0 0, .int .i64 0, .string ByteArray.empty] := by kernel_rfl
theorem tF125x0 : fieldOf Tryz.prog 125 0 = some (0, false, 1) := by kernel_rfl
theorem tP125x0 : placeOf Tryz.prog 125 0 = some (0, false, 1) := by kernel_rfl
theorem tF125x1 : fieldOf Tryz.prog 125 1 = some (1, true, 2) := by kernel_rfl
theorem tP125x1 : placeOf Tryz.prog 125 1 = some (1, true, 2) := by kernel_rfl
theorem tK125 : placesOk Tryz.prog 125 = true := by kernel_rfl
theorem tL126 : lay Tryz.prog 126 = some (false, 1) := by kernel_rfl
theorem tZ126 : zeroOf Tryz.prog 126 = some [.nilFunc] := by kernel_rfl
theorem tL127 : lay Tryz.prog 127 = some (false, 1) := by kernel_rfl
theorem tZ127 : zeroOf Tryz.prog 127 = some [.nilFunc] := by kernel_rfl
theorem tU128 : Tryz.prog.underlying 128 = some (.array 2 3) := by kernel_rfl
theorem tL128 : lay Tryz.prog 128 = some (true, 2) := by kernel_rfl
theorem tZ128 : zeroOf Tryz.prog 128 = some [.int .i64 0, .int .i64 0] := by kernel_rfl
theorem tE128 : elemOfSl Tryz.prog 128 = none := by kernel_rfl
theorem tR128 : elemOfArr Tryz.prog 128 = some (2, false, 1) := by kernel_rfl
theorem tP128x0 : placeOf Tryz.prog 128 0 = some (0, false, 1) := by kernel_rfl
theorem tP128x1 : placeOf Tryz.prog 128 1 = some (1, false, 1) := by kernel_rfl
theorem tK128 : placesOk Tryz.prog 128 = true := by kernel_rfl
theorem tQ128 : eqTys Tryz.prog 128 = some [0, 0] := by kernel_rfl
theorem tL129 : lay Tryz.prog 129 = some (false, 1) := by kernel_rfl
theorem tZ129 : zeroOf Tryz.prog 129 = some [.nilFunc] := by kernel_rfl
theorem tU130 : Tryz.prog.underlying 130 = some (.slice 3) := by kernel_rfl
theorem tL130 : lay Tryz.prog 130 = some (false, 1) := by kernel_rfl
theorem tZ130 : zeroOf Tryz.prog 130 = some [.slice none 0 0] := by kernel_rfl
theorem tE130 : elemOfSl Tryz.prog 130 = some (3, false, 1) := by kernel_rfl
theorem tA130 : appTy Tryz.prog 130 = some (3, 1, 8) := by kernel_rfl
theorem tL131 : lay Tryz.prog 131 = some (false, 1) := by kernel_rfl
theorem tZ131 : zeroOf Tryz.prog 131 = some [.nilFunc] := by kernel_rfl
theorem tU132 : Tryz.prog.underlying 132 = some (.slice 177) := by kernel_rfl
theorem tL132 : lay Tryz.prog 132 = some (false, 1) := by kernel_rfl
theorem tZ132 : zeroOf Tryz.prog 132 = some [.slice none 0 0] := by kernel_rfl
theorem tE132 : elemOfSl Tryz.prog 132 = some (177, true, 3) := by kernel_rfl
theorem tA132 : appTy Tryz.prog 132 = some (177, 3, 24) := by kernel_rfl
theorem tL133 : lay Tryz.prog 133 = some (false, 1) := by kernel_rfl
theorem tZ133 : zeroOf Tryz.prog 133 = some [.nilFunc] := by kernel_rfl
theorem tL134 : lay Tryz.prog 134 = some (true, 2) := by kernel_rfl
theorem tZ134 : zeroOf Tryz.prog 134 = some [.string ByteArray.empty, .string ByteArray.empty] := by kernel_rfl
theorem tF134x0 : fieldOf Tryz.prog 134 0 = some (0, false, 1) := by kernel_rfl
theorem tP134x0 : placeOf Tryz.prog 134 0 = some (0, false, 1) := by kernel_rfl
theorem tF134x1 : fieldOf Tryz.prog 134 1 = some (1, false, 1) := by kernel_rfl
theorem tP134x1 : placeOf Tryz.prog 134 1 = some (1, false, 1) := by kernel_rfl
theorem tK134 : placesOk Tryz.prog 134 = true := by kernel_rfl
theorem tQ134 : eqTys Tryz.prog 134 = some [2, 2] := by kernel_rfl
theorem tL135 : lay Tryz.prog 135 = some (true, 2) := by kernel_rfl
theorem tZ135 : zeroOf Tryz.prog 135 = some [.string ByteArray.empty, .string ByteArray.empty] := by kernel_rfl
theorem tF135x0 : fieldOf Tryz.prog 135 0 = some (0, false, 1) := by kernel_rfl
theorem tP135x0 : placeOf Tryz.prog 135 0 = some (0, false, 1) := by kernel_rfl
theorem tF135x1 : fieldOf Tryz.prog 135 1 = some (1, false, 1) := by kernel_rfl
theorem tP135x1 : placeOf Tryz.prog 135 1 = some (1, false, 1) := by kernel_rfl
theorem tK135 : placesOk Tryz.prog 135 = true := by kernel_rfl
theorem tQ135 : eqTys Tryz.prog 135 = some [2, 2] := by kernel_rfl
theorem tL136 : lay Tryz.prog 136 = some (false, 1) := by kernel_rfl
theorem tZ136 : zeroOf Tryz.prog 136 = some [.nilFunc] := by kernel_rfl
theorem tL137 : lay Tryz.prog 137 = some (false, 1) := by kernel_rfl
theorem tZ137 : zeroOf Tryz.prog 137 = some [.nilFunc] := by kernel_rfl
theorem tL138 : lay Tryz.prog 138 = some (false, 1) := by kernel_rfl
theorem tZ138 : zeroOf Tryz.prog 138 = some [.nilFunc] := by kernel_rfl
theorem tL139 : lay Tryz.prog 139 = some (false, 1) := by kernel_rfl
theorem tZ139 : zeroOf Tryz.prog 139 = some [.nilFunc] := by kernel_rfl
theorem tL140 : lay Tryz.prog 140 = some (false, 1) := by kernel_rfl
theorem tZ140 : zeroOf Tryz.prog 140 = some [.nilFunc] := by kernel_rfl
theorem tL141 : lay Tryz.prog 141 = some (false, 1) := by kernel_rfl
theorem tZ141 : zeroOf Tryz.prog 141 = some [.nilFunc] := by kernel_rfl
theorem tL142 : lay Tryz.prog 142 = some (false, 1) := by kernel_rfl
theorem tZ142 : zeroOf Tryz.prog 142 = some [.nilFunc] := by kernel_rfl
theorem tL143 : lay Tryz.prog 143 = some (false, 1) := by kernel_rfl
theorem tZ143 : zeroOf Tryz.prog 143 = some [.nilFunc] := by kernel_rfl
theorem tL144 : lay Tryz.prog 144 = some (false, 1) := by kernel_rfl
theorem tZ144 : zeroOf Tryz.prog 144 = some [.nilFunc] := by kernel_rfl
theorem tL145 : lay Tryz.prog 145 = some (false, 1) := by kernel_rfl
theorem tZ145 : zeroOf Tryz.prog 145 = some [.nilFunc] := by kernel_rfl
theorem tL146 : lay Tryz.prog 146 = some (false, 1) := by kernel_rfl
theorem tZ146 : zeroOf Tryz.prog 146 = some [.nilFunc] := by kernel_rfl
theorem tL147 : lay Tryz.prog 147 = some (false, 1) := by kernel_rfl
theorem tZ147 : zeroOf Tryz.prog 147 = some [.nilFunc] := by kernel_rfl
theorem tL148 : lay Tryz.prog 148 = some (true, 4) := by kernel_rfl
theorem tZ148 : zeroOf Tryz.prog 148 = some [.nilFunc, .nilFunc, .nilFunc, .nilFunc] := by kernel_rfl
theorem tF148x0 : fieldOf Tryz.prog 148 0 = some (0, false, 1) := by kernel_rfl
theorem tP148x0 : placeOf Tryz.prog 148 0 = some (0, false, 1) := by kernel_rfl
theorem tF148x1 : fieldOf Tryz.prog 148 1 = some (1, false, 1) := by kernel_rfl
theorem tP148x1 : placeOf Tryz.prog 148 1 = some (1, false, 1) := by kernel_rfl
theorem tF148x2 : fieldOf Tryz.prog 148 2 = some (2, false, 1) := by kernel_rfl
theorem tP148x2 : placeOf Tryz.prog 148 2 = some (2, false, 1) := by kernel_rfl
theorem tF148x3 : fieldOf Tryz.prog 148 3 = some (3, false, 1) := by kernel_rfl
theorem tP148x3 : placeOf Tryz.prog 148 3 = some (3, false, 1) := by kernel_rfl
theorem tK148 : placesOk Tryz.prog 148 = true := by kernel_rfl
theorem tL149 : lay Tryz.prog 149 = some (true, 4) := by kernel_rfl
theorem tZ149 : zeroOf Tryz.prog 149 = some [.nilFunc, .nilFunc, .nilFunc, .nilFunc] := by kernel_rfl
theorem tF149x0 : fieldOf Tryz.prog 149 0 = some (0, false, 1) := by kernel_rfl
theorem tP149x0 : placeOf Tryz.prog 149 0 = some (0, false, 1) := by kernel_rfl
theorem tF149x1 : fieldOf Tryz.prog 149 1 = some (1, false, 1) := by kernel_rfl
theorem tP149x1 : placeOf Tryz.prog 149 1 = some (1, false, 1) := by kernel_rfl
theorem tF149x2 : fieldOf Tryz.prog 149 2 = some (2, false, 1) := by kernel_rfl
theorem tP149x2 : placeOf Tryz.prog 149 2 = some (2, false, 1) := by kernel_rfl
theorem tF149x3 : fieldOf Tryz.prog 149 3 = some (3, false, 1) := by kernel_rfl
theorem tP149x3 : placeOf Tryz.prog 149 3 = some (3, false, 1) := by kernel_rfl
theorem tK149 : placesOk Tryz.prog 149 = true := by kernel_rfl
theorem tL150 : lay Tryz.prog 150 = some (false, 1) := by kernel_rfl
theorem tZ150 : zeroOf Tryz.prog 150 = some [.nilFunc] := by kernel_rfl
theorem tL151 : lay Tryz.prog 151 = some (false, 1) := by kernel_rfl
theorem tZ151 : zeroOf Tryz.prog 151 = some [.nilFunc] := by kernel_rfl
theorem tL152 : lay Tryz.prog 152 = some (false, 1) := by kernel_rfl
theorem tZ152 : zeroOf Tryz.prog 152 = some [.nilFunc] := by kernel_rfl
theorem tL153 : lay Tryz.prog 153 = some (false, 1) := by kernel_rfl
theorem tZ153 : zeroOf Tryz.prog 153 = some [.nilFunc] := by kernel_rfl
theorem tL154 : lay Tryz.prog 154 = some (false, 1) := by kernel_rfl
theorem tZ154 : zeroOf Tryz.prog 154 = some [.nilFunc] := by kernel_rfl
theorem tL155 : lay Tryz.prog 155 = some (false, 1) := by kernel_rfl
theorem tZ155 : zeroOf Tryz.prog 155 = some [.nilFunc] := by kernel_rfl
theorem tL156 : lay Tryz.prog 156 = some (false, 1) := by kernel_rfl
theorem tZ156 : zeroOf Tryz.prog 156 = some [.nilFunc] := by kernel_rfl
theorem tL158 : lay Tryz.prog 158 = some (false, 1) := by kernel_rfl
theorem tZ158 : zeroOf Tryz.prog 158 = some [.nilFunc] := by kernel_rfl
theorem tL159 : lay Tryz.prog 159 = some (false, 1) := by kernel_rfl
theorem tZ159 : zeroOf Tryz.prog 159 = some [.nilFunc] := by kernel_rfl
theorem tU160 : Tryz.prog.underlying 160 = some (.int .u64) := by kernel_rfl
theorem tL160 : lay Tryz.prog 160 = some (false, 1) := by kernel_rfl
theorem tZ160 : zeroOf Tryz.prog 160 = some [.int .u64 0] := by kernel_rfl
theorem tL161 : lay Tryz.prog 161 = some (false, 1) := by kernel_rfl
theorem tZ161 : zeroOf Tryz.prog 161 = some [.nilFunc] := by kernel_rfl
theorem tU162 : Tryz.prog.underlying 162 = some (.map 9 3) := by kernel_rfl
theorem tL162 : lay Tryz.prog 162 = some (false, 1) := by kernel_rfl
theorem tZ162 : zeroOf Tryz.prog 162 = some [.map none] := by kernel_rfl
theorem tU163 : Tryz.prog.underlying 163 = some (.map 177 4) := by kernel_rfl
theorem tL163 : lay Tryz.prog 163 = some (false, 1) := by kernel_rfl
theorem tZ163 : zeroOf Tryz.prog 163 = some [.map none] := by kernel_rfl
theorem tU164 : Tryz.prog.underlying 164 = some (.slice 170) := by kernel_rfl
theorem tL164 : lay Tryz.prog 164 = some (false, 1) := by kernel_rfl
theorem tZ164 : zeroOf Tryz.prog 164 = some [.slice none 0 0] := by kernel_rfl
theorem tE164 : elemOfSl Tryz.prog 164 = some (170, true, 6) := by kernel_rfl
theorem tA164 : appTy Tryz.prog 164 = some (170, 6, 96) := by kernel_rfl
theorem tL165 : lay Tryz.prog 165 = some (true, 3) := by kernel_rfl
theorem tZ165 : zeroOf Tryz.prog 165 = some [.slice none 0 0, .map none, .map none] := by kernel_rfl
theorem tF165x0 : fieldOf Tryz.prog 165 0 = some (0, false, 1) := by kernel_rfl
theorem tP165x0 : placeOf Tryz.prog 165 0 = some (0, false, 1) := by kernel_rfl
theorem tF165x1 : fieldOf Tryz.prog 165 1 = some (1, false, 1) := by kernel_rfl
theorem tP165x1 : placeOf Tryz.prog 165 1 = some (1, false, 1) := by kernel_rfl
theorem tF165x2 : fieldOf Tryz.prog 165 2 = some (2, false, 1) := by kernel_rfl
theorem tP165x2 : placeOf Tryz.prog 165 2 = some (2, false, 1) := by kernel_rfl
theorem tK165 : placesOk Tryz.prog 165 = true := by kernel_rfl
theorem tL166 : lay Tryz.prog 166 = some (true, 3) := by kernel_rfl
theorem tZ166 : zeroOf Tryz.prog 166 = some [.slice none 0 0, .map none, .map none] := by kernel_rfl
theorem tF166x0 : fieldOf Tryz.prog 166 0 = some (0, false, 1) := by kernel_rfl
theorem tP166x0 : placeOf Tryz.prog 166 0 = some (0, false, 1) := by kernel_rfl
theorem tF166x1 : fieldOf Tryz.prog 166 1 = some (1, false, 1) := by kernel_rfl
theorem tP166x1 : placeOf Tryz.prog 166 1 = some (1, false, 1) := by kernel_rfl
theorem tF166x2 : fieldOf Tryz.prog 166 2 = some (2, false, 1) := by kernel_rfl
theorem tP166x2 : placeOf Tryz.prog 166 2 = some (2, false, 1) := by kernel_rfl
theorem tK166 : placesOk Tryz.prog 166 = true := by kernel_rfl
theorem tU167 : Tryz.prog.underlying 167 = some (.map 9 60) := by kernel_rfl
theorem tL167 : lay Tryz.prog 167 = some (false, 1) := by kernel_rfl
theorem tZ167 : zeroOf Tryz.prog 167 = some [.map none] := by kernel_rfl
theorem tU168 : Tryz.prog.underlying 168 = some (.map 9 4) := by kernel_rfl
theorem tL168 : lay Tryz.prog 168 = some (false, 1) := by kernel_rfl
theorem tZ168 : zeroOf Tryz.prog 168 = some [.map none] := by kernel_rfl
theorem tL169 : lay Tryz.prog 169 = some (true, 6) := by kernel_rfl
theorem tZ169 : zeroOf Tryz.prog 169 = some [.string ByteArray.empty, .string ByteArray.empty, .slice none 0 0, .slice none 0 0, .map none, .map none] := by kernel_rfl
theorem tF169x0 : fieldOf Tryz.prog 169 0 = some (0, true, 4) := by kernel_rfl
theorem tP169x0 : placeOf Tryz.prog 169 0 = some (0, true, 4) := by kernel_rfl
theorem tF169x1 : fieldOf Tryz.prog 169 1 = some (4, false, 1) := by kernel_rfl
theorem tP169x1 : placeOf Tryz.prog 169 1 = some (4, false, 1) := by kernel_rfl
theorem tF169x2 : fieldOf Tryz.prog 169 2 = some (5, false, 1) := by kernel_rfl
theorem tP169x2 : placeOf Tryz.prog 169 2 = some (5, false, 1) := by kernel_rfl
theorem tK169 : placesOk Tryz.prog 169 = true := by kernel_rfl
theorem tL170 : lay Tryz.prog 170 = some (true, 6) := by kernel_rfl
theorem tZ170 : zeroOf Tryz.prog 170 = some [.string ByteArray.empty, .string ByteArray.empty, .slice none 0 0, .slice none 0 0, .map none, .map none] := by kernel_rfl
theorem tF170x0 : fieldOf Tryz.prog 170 0 = some (0, true, 4) := by kernel_rfl
theorem tP170x0 : placeOf Tryz.prog 170 0 = some (0, true, 4) := by kernel_rfl
theorem tF170x1 : fieldOf Tryz.prog 170 1 = some (4, false, 1) := by kernel_rfl
theorem tP170x1 : placeOf Tryz.prog 170 1 = some (4, false, 1) := by kernel_rfl
theorem tF170x2 : fieldOf Tryz.prog 170 2 = some (5, false, 1) := by kernel_rfl
theorem tP170x2 : placeOf Tryz.prog 170 2 = some (5, false, 1) := by kernel_rfl
theorem tK170 : placesOk Tryz.prog 170 = true := by kernel_rfl
theorem tL171 : lay Tryz.prog 171 = some (false, 1) := by kernel_rfl
theorem tZ171 : zeroOf Tryz.prog 171 = some [.nilFunc] := by kernel_rfl
theorem tL173 : lay Tryz.prog 173 = some (false, 1) := by kernel_rfl
theorem tZ173 : zeroOf Tryz.prog 173 = some [.nilFunc] := by kernel_rfl
theorem tL174 : lay Tryz.prog 174 = some (false, 1) := by kernel_rfl
theorem tZ174 : zeroOf Tryz.prog 174 = some [.nilFunc] := by kernel_rfl
theorem tL175 : lay Tryz.prog 175 = some (false, 1) := by kernel_rfl
theorem tZ175 : zeroOf Tryz.prog 175 = some [.nilFunc] := by kernel_rfl
theorem tL176 : lay Tryz.prog 176 = some (true, 3) := by kernel_rfl
theorem tZ176 : zeroOf Tryz.prog 176 = some [.int .i64 0, .int .i64 0, .int .i64 0] := by kernel_rfl
theorem tF176x0 : fieldOf Tryz.prog 176 0 = some (0, false, 1) := by kernel_rfl
theorem tP176x0 : placeOf Tryz.prog 176 0 = some (0, false, 1) := by kernel_rfl
theorem tF176x1 : fieldOf Tryz.prog 176 1 = some (1, false, 1) := by kernel_rfl
theorem tP176x1 : placeOf Tryz.prog 176 1 = some (1, false, 1) := by kernel_rfl
theorem tF176x2 : fieldOf Tryz.prog 176 2 = some (2, false, 1) := by kernel_rfl
theorem tP176x2 : placeOf Tryz.prog 176 2 = some (2, false, 1) := by kernel_rfl
theorem tK176 : placesOk Tryz.prog 176 = true := by kernel_rfl
theorem tQ176 : eqTys Tryz.prog 176 = some [0, 0, 0] := by kernel_rfl
theorem tL177 : lay Tryz.prog 177 = some (true, 3) := by kernel_rfl
theorem tZ177 : zeroOf Tryz.prog 177 = some [.int .i64 0, .int .i64 0, .int .i64 0] := by kernel_rfl
theorem tF177x0 : fieldOf Tryz.prog 177 0 = some (0, false, 1) := by kernel_rfl
theorem tP177x0 : placeOf Tryz.prog 177 0 = some (0, false, 1) := by kernel_rfl
theorem tF177x1 : fieldOf Tryz.prog 177 1 = some (1, false, 1) := by kernel_rfl
theorem tP177x1 : placeOf Tryz.prog 177 1 = some (1, false, 1) := by kernel_rfl
theorem tF177x2 : fieldOf Tryz.prog 177 2 = some (2, false, 1) := by kernel_rfl
theorem tP177x2 : placeOf Tryz.prog 177 2 = some (2, false, 1) := by kernel_rfl
theorem tK177 : placesOk Tryz.prog 177 = true := by kernel_rfl
theorem tQ177 : eqTys Tryz.prog 177 = some [0, 0, 0] := by kernel_rfl
theorem tL178 : lay Tryz.prog 178 = some (false, 1) := by kernel_rfl
theorem tZ178 : zeroOf Tryz.prog 178 = some [.nilFunc] := by kernel_rfl
theorem tL179 : lay Tryz.prog 179 = some (false, 1) := by kernel_rfl
theorem tZ179 : zeroOf Tryz.prog 179 = some [.nilFunc] := by kernel_rfl
theorem tL180 : lay Tryz.prog 180 = some (false, 1) := by kernel_rfl
theorem tZ180 : zeroOf Tryz.prog 180 = some [.nilFunc] := by kernel_rfl
theorem tL181 : lay Tryz.prog 181 = some (false, 1) := by kernel_rfl
theorem tZ181 : zeroOf Tryz.prog 181 = some [.nilFunc] := by kernel_rfl
theorem tL182 : lay Tryz.prog 182 = some (false, 1) := by kernel_rfl
theorem tZ182 : zeroOf Tryz.prog 182 = some [.nilFunc] := by kernel_rfl
theorem tL183 : lay Tryz.prog 183 = some (false, 1) := by kernel_rfl
theorem tZ183 : zeroOf Tryz.prog 183 = some [.nilFunc] := by kernel_rfl
theorem tL184 : lay Tryz.prog 184 = some (false, 1) := by kernel_rfl
theorem tZ184 : zeroOf Tryz.prog 184 = some [.nilFunc] := by kernel_rfl
theorem tL185 : lay Tryz.prog 185 = some (false, 1) := by kernel_rfl
theorem tZ185 : zeroOf Tryz.prog 185 = some [.nilFunc] := by kernel_rfl
theorem tL186 : lay Tryz.prog 186 = some (false, 1) := by kernel_rfl
theorem tZ186 : zeroOf Tryz.prog 186 = some [.nilFunc] := by kernel_rfl
theorem tL187 : lay Tryz.prog 187 = some (false, 1) := by kernel_rfl
theorem tZ187 : zeroOf Tryz.prog 187 = some [.nilFunc] := by kernel_rfl
theorem tL188 : lay Tryz.prog 188 = some (false, 1) := by kernel_rfl
theorem tZ188 : zeroOf Tryz.prog 188 = some [.nilFunc] := by kernel_rfl
theorem tL189 : lay Tryz.prog 189 = some (false, 1) := by kernel_rfl
theorem tZ189 : zeroOf Tryz.prog 189 = some [.nilFunc] := by kernel_rfl
theorem tL190 : lay Tryz.prog 190 = some (false, 1) := by kernel_rfl
theorem tZ190 : zeroOf Tryz.prog 190 = some [.nilFunc] := by kernel_rfl
theorem tL191 : lay Tryz.prog 191 = some (false, 1) := by kernel_rfl
theorem tZ191 : zeroOf Tryz.prog 191 = some [.nilFunc] := by kernel_rfl
theorem tL192 : lay Tryz.prog 192 = some (false, 1) := by kernel_rfl
theorem tZ192 : zeroOf Tryz.prog 192 = some [.nilFunc] := by kernel_rfl
theorem tL193 : lay Tryz.prog 193 = some (false, 1) := by kernel_rfl
theorem tZ193 : zeroOf Tryz.prog 193 = some [.nilFunc] := by kernel_rfl
theorem tL194 : lay Tryz.prog 194 = some (false, 1) := by kernel_rfl
theorem tZ194 : zeroOf Tryz.prog 194 = some [.nilFunc] := by kernel_rfl
theorem tL195 : lay Tryz.prog 195 = some (false, 1) := by kernel_rfl
theorem tZ195 : zeroOf Tryz.prog 195 = some [.nilFunc] := by kernel_rfl
theorem tL196 : lay Tryz.prog 196 = some (false, 1) := by kernel_rfl
theorem tZ196 : zeroOf Tryz.prog 196 = some [.nilFunc] := by kernel_rfl
theorem tL197 : lay Tryz.prog 197 = some (false, 1) := by kernel_rfl
theorem tZ197 : zeroOf Tryz.prog 197 = some [.nilFunc] := by kernel_rfl
theorem tL199 : lay Tryz.prog 199 = some (false, 1) := by kernel_rfl
theorem tZ199 : zeroOf Tryz.prog 199 = some [.nilFunc] := by kernel_rfl
theorem tL200 : lay Tryz.prog 200 = some (false, 1) := by kernel_rfl
theorem tZ200 : zeroOf Tryz.prog 200 = some [.nilFunc] := by kernel_rfl
theorem tL201 : lay Tryz.prog 201 = some (false, 1) := by kernel_rfl
theorem tZ201 : zeroOf Tryz.prog 201 = some [.nilFunc] := by kernel_rfl
theorem tL202 : lay Tryz.prog 202 = some (false, 1) := by kernel_rfl
theorem tZ202 : zeroOf Tryz.prog 202 = some [.nilFunc] := by kernel_rfl
theorem tU203 : Tryz.prog.underlying 203 = some (.map 3 4) := by kernel_rfl
theorem tL203 : lay Tryz.prog 203 = some (false, 1) := by kernel_rfl
theorem tZ203 : zeroOf Tryz.prog 203 = some [.map none] := by kernel_rfl
theorem tL204 : lay Tryz.prog 204 = some (false, 1) := by kernel_rfl
theorem tZ204 : zeroOf Tryz.prog 204 = some [.nilFunc] := by kernel_rfl
theorem tL206 : lay Tryz.prog 206 = some (false, 1) := by kernel_rfl
theorem tZ206 : zeroOf Tryz.prog 206 = some [.nilFunc] := by kernel_rfl
theorem tL207 : lay Tryz.prog 207 = some (false, 1) := by kernel_rfl
theorem tZ207 : zeroOf Tryz.prog 207 = some [.nilFunc] := by kernel_rfl
theorem tL208 : lay Tryz.prog 208 = some (false, 1) := by kernel_rfl
theorem tZ208 : zeroOf Tryz.prog 208 = some [.nilFunc] := by kernel_rfl
theorem tL209 : lay Tryz.prog 209 = some (false, 1) := by kernel_rfl
theorem tZ209 : zeroOf Tryz.prog 209 = some [.nilFunc] := by kernel_rfl
theorem tL210 : lay Tryz.prog 210 = some (false, 1) := by kernel_rfl
theorem tZ210 : zeroOf Tryz.prog 210 = some [.nilFunc] := by kernel_rfl
theorem tL211 : lay Tryz.prog 211 = some (false, 1) := by kernel_rfl
theorem tZ211 : zeroOf Tryz.prog 211 = some [.nilFunc] := by kernel_rfl
theorem tU212 : Tryz.prog.underlying 212 = some (.int .i64) := by kernel_rfl
theorem tL212 : lay Tryz.prog 212 = some (false, 1) := by kernel_rfl
theorem tZ212 : zeroOf Tryz.prog 212 = some [.int .i64 0] := by kernel_rfl
theorem tL214 : lay Tryz.prog 214 = some (false, 1) := by kernel_rfl
theorem tZ214 : zeroOf Tryz.prog 214 = some [.nilFunc] := by kernel_rfl
theorem tL215 : lay Tryz.prog 215 = some (false, 1) := by kernel_rfl
theorem tZ215 : zeroOf Tryz.prog 215 = some [.nilFunc] := by kernel_rfl
theorem tL216 : lay Tryz.prog 216 = some (false, 1) := by kernel_rfl
theorem tZ216 : zeroOf Tryz.prog 216 = some [.nilFunc] := by kernel_rfl
theorem tL217 : lay Tryz.prog 217 = some (false, 1) := by kernel_rfl
theorem tZ217 : zeroOf Tryz.prog 217 = some [.nilFunc] := by kernel_rfl
theorem tL218 : lay Tryz.prog 218 = some (false, 1) := by kernel_rfl
theorem tZ218 : zeroOf Tryz.prog 218 = some [.nilFunc] := by kernel_rfl
theorem tU219 : Tryz.prog.underlying 219 = some (.int .u32) := by kernel_rfl
theorem tL219 : lay Tryz.prog 219 = some (false, 1) := by kernel_rfl
theorem tZ219 : zeroOf Tryz.prog 219 = some [.int .u32 0] := by kernel_rfl
theorem tL220 : lay Tryz.prog 220 = some (false, 1) := by kernel_rfl
theorem tZ220 : zeroOf Tryz.prog 220 = some [.nilFunc] := by kernel_rfl
theorem tU221 : Tryz.prog.underlying 221 = some (.int .u64) := by kernel_rfl
theorem tL221 : lay Tryz.prog 221 = some (false, 1) := by kernel_rfl
theorem tZ221 : zeroOf Tryz.prog 221 = some [.int .u64 0] := by kernel_rfl
theorem tL222 : lay Tryz.prog 222 = some (false, 1) := by kernel_rfl
theorem tZ222 : zeroOf Tryz.prog 222 = some [.nilFunc] := by kernel_rfl
theorem tL223 : lay Tryz.prog 223 = some (false, 1) := by kernel_rfl
theorem tZ223 : zeroOf Tryz.prog 223 = some [.nilFunc] := by kernel_rfl
theorem tL224 : lay Tryz.prog 224 = some (false, 1) := by kernel_rfl
theorem tZ224 : zeroOf Tryz.prog 224 = some [.nilFunc] := by kernel_rfl
theorem tL225 : lay Tryz.prog 225 = some (false, 1) := by kernel_rfl
theorem tZ225 : zeroOf Tryz.prog 225 = some [.nilFunc] := by kernel_rfl
theorem tL226 : lay Tryz.prog 226 = some (false, 1) := by kernel_rfl
theorem tZ226 : zeroOf Tryz.prog 226 = some [.nilFunc] := by kernel_rfl
theorem tL227 : lay Tryz.prog 227 = some (false, 1) := by kernel_rfl
theorem tZ227 : zeroOf Tryz.prog 227 = some [.nilFunc] := by kernel_rfl
theorem tL228 : lay Tryz.prog 228 = some (false, 1) := by kernel_rfl
theorem tZ228 : zeroOf Tryz.prog 228 = some [.nilFunc] := by kernel_rfl
theorem tL229 : lay Tryz.prog 229 = some (false, 1) := by kernel_rfl
theorem tZ229 : zeroOf Tryz.prog 229 = some [.nilFunc] := by kernel_rfl
theorem tL230 : lay Tryz.prog 230 = some (false, 1) := by kernel_rfl
theorem tZ230 : zeroOf Tryz.prog 230 = some [.nilFunc] := by kernel_rfl
theorem tL231 : lay Tryz.prog 231 = some (false, 1) := by kernel_rfl
theorem tZ231 : zeroOf Tryz.prog 231 = some [.nilFunc] := by kernel_rfl
theorem tL232 : lay Tryz.prog 232 = some (false, 1) := by kernel_rfl
theorem tZ232 : zeroOf Tryz.prog 232 = some [.nilFunc] := by kernel_rfl
theorem tL233 : lay Tryz.prog 233 = some (false, 1) := by kernel_rfl
theorem tZ233 : zeroOf Tryz.prog 233 = some [.nilFunc] := by kernel_rfl
theorem tL234 : lay Tryz.prog 234 = some (false, 1) := by kernel_rfl
theorem tZ234 : zeroOf Tryz.prog 234 = some [.nilFunc] := by kernel_rfl
theorem tL235 : lay Tryz.prog 235 = some (false, 1) := by kernel_rfl
theorem tZ235 : zeroOf Tryz.prog 235 = some [.nilFunc] := by kernel_rfl
theorem tL236 : lay Tryz.prog 236 = some (false, 1) := by kernel_rfl
theorem tZ236 : zeroOf Tryz.prog 236 = some [.nilFunc] := by kernel_rfl
theorem tL237 : lay Tryz.prog 237 = some (false, 1) := by kernel_rfl
theorem tZ237 : zeroOf Tryz.prog 237 = some [.nilFunc] := by kernel_rfl
theorem tL238 : lay Tryz.prog 238 = some (false, 1) := by kernel_rfl
theorem tZ238 : zeroOf Tryz.prog 238 = some [.nilFunc] := by kernel_rfl
theorem tL239 : lay Tryz.prog 239 = some (false, 1) := by kernel_rfl
theorem tZ239 : zeroOf Tryz.prog 239 = some [.nilFunc] := by kernel_rfl
theorem tL240 : lay Tryz.prog 240 = some (false, 1) := by kernel_rfl
theorem tZ240 : zeroOf Tryz.prog 240 = some [.nilFunc] := by kernel_rfl
theorem tL241 : lay Tryz.prog 241 = some (false, 1) := by kernel_rfl
theorem tZ241 : zeroOf Tryz.prog 241 = some [.nilFunc] := by kernel_rfl
theorem tL242 : lay Tryz.prog 242 = some (false, 1) := by kernel_rfl
theorem tZ242 : zeroOf Tryz.prog 242 = some [.nilFunc] := by kernel_rfl
theorem tL243 : lay Tryz.prog 243 = some (false, 1) := by kernel_rfl
theorem tZ243 : zeroOf Tryz.prog 243 = some [.nilFunc] := by kernel_rfl
theorem tL244 : lay Tryz.prog 244 = some (false, 1) := by kernel_rfl
theorem tZ244 : zeroOf Tryz.prog 244 = some [.nilFunc] := by kernel_rfl
theorem tU245 : Tryz.prog.underlying 245 = some (.int .u64) := by kernel_rfl
theorem tL245 : lay Tryz.prog 245 = some (false, 1) := by kernel_rfl
theorem tZ245 : zeroOf Tryz.prog 245 = some [.int .u64 0] := by kernel_rfl
theorem tL246 : lay Tryz.prog 246 = some (false, 1) := by kernel_rfl
theorem tZ246 : zeroOf Tryz.prog 246 = some [.nilFunc] := by kernel_rfl
theorem tL247 : lay Tryz.prog 247 = some (false, 1) := by kernel_rfl
theorem tZ247 : zeroOf Tryz.prog 247 = some [.nilFunc] := by kernel_rfl
theorem tL248 : lay Tryz.prog 248 = some (false, 1) := by kernel_rfl
theorem tZ248 : zeroOf Tryz.prog 248 = some [.nilFunc] := by kernel_rfl
theorem tU249 : Tryz.prog.underlying 249 = some (.pointer 3) := by kernel_rfl
theorem tL249 : lay Tryz.prog 249 = some (false, 1) := by kernel_rfl
theorem tZ249 : zeroOf Tryz.prog 249 = some [.pointer none] := by kernel_rfl
theorem tL250 : lay Tryz.prog 250 = some (false, 1) := by kernel_rfl
theorem tZ250 : zeroOf Tryz.prog 250 = some [.nilFunc] := by kernel_rfl
theorem tL251 : lay Tryz.prog 251 = some (false, 1) := by kernel_rfl
theorem tZ251 : zeroOf Tryz.prog 251 = some [.nilFunc] := by kernel_rfl
theorem tL252 : lay Tryz.prog 252 = some (false, 1) := by kernel_rfl
theorem tZ252 : zeroOf Tryz.prog 252 = some [.nilFunc] := by kernel_rfl
theorem tL253 : lay Tryz.prog 253 = some (false, 1) := by kernel_rfl
theorem tZ253 : zeroOf Tryz.prog 253 = some [.nilFunc] := by kernel_rfl
theorem tU254 : Tryz.prog.underlying 254 = some (.map 3 3) := by kernel_rfl
theorem tL254 : lay Tryz.prog 254 = some (false, 1) := by kernel_rfl
theorem tZ254 : zeroOf Tryz.prog 254 = some [.map none] := by kernel_rfl
theorem tL255 : lay Tryz.prog 255 = some (false, 1) := by kernel_rfl
theorem tZ255 : zeroOf Tryz.prog 255 = some [.nilFunc] := by kernel_rfl
theorem tL256 : lay Tryz.prog 256 = some (false, 1) := by kernel_rfl
theorem tZ256 : zeroOf Tryz.prog 256 = some [.nilFunc] := by kernel_rfl
theorem tL257 : lay Tryz.prog 257 = some (false, 1) := by kernel_rfl
theorem tZ257 : zeroOf Tryz.prog 257 = some [.nilFunc] := by kernel_rfl
theorem tL258 : lay Tryz.prog 258 = some (false, 1) := by kernel_rfl
theorem tZ258 : zeroOf Tryz.prog 258 = some [.nilFunc] := by kernel_rfl
theorem tL259 : lay Tryz.prog 259 = some (false, 1) := by kernel_rfl
theorem tZ259 : zeroOf Tryz.prog 259 = some [.nilFunc] := by kernel_rfl
theorem tL260 : lay Tryz.prog 260 = some (false, 1) := by kernel_rfl
theorem tZ260 : zeroOf Tryz.prog 260 = some [.nilFunc] := by kernel_rfl
theorem tL261 : lay Tryz.prog 261 = some (false, 1) := by kernel_rfl
theorem tZ261 : zeroOf Tryz.prog 261 = some [.nilFunc] := by kernel_rfl
theorem tL262 : lay Tryz.prog 262 = some (false, 1) := by kernel_rfl
theorem tZ262 : zeroOf Tryz.prog 262 = some [.nilFunc] := by kernel_rfl
theorem tU263 : Tryz.prog.underlying 263 = some (.pointer 245) := by kernel_rfl
theorem tL263 : lay Tryz.prog 263 = some (false, 1) := by kernel_rfl
theorem tZ263 : zeroOf Tryz.prog 263 = some [.pointer none] := by kernel_rfl
theorem tL264 : lay Tryz.prog 264 = some (false, 1) := by kernel_rfl
theorem tZ264 : zeroOf Tryz.prog 264 = some [.nilFunc] := by kernel_rfl
theorem tL265 : lay Tryz.prog 265 = some (false, 1) := by kernel_rfl
theorem tZ265 : zeroOf Tryz.prog 265 = some [.nilFunc] := by kernel_rfl
theorem tL266 : lay Tryz.prog 266 = some (false, 1) := by kernel_rfl
theorem tZ266 : zeroOf Tryz.prog 266 = some [.nilFunc] := by kernel_rfl
theorem tL267 : lay Tryz.prog 267 = some (false, 1) := by kernel_rfl
theorem tZ267 : zeroOf Tryz.prog 267 = some [.nilFunc] := by kernel_rfl
theorem tL268 : lay Tryz.prog 268 = some (false, 1) := by kernel_rfl
theorem tZ268 : zeroOf Tryz.prog 268 = some [.nilFunc] := by kernel_rfl
theorem tL269 : lay Tryz.prog 269 = some (false, 1) := by kernel_rfl
theorem tZ269 : zeroOf Tryz.prog 269 = some [.nilFunc] := by kernel_rfl
theorem tL270 : lay Tryz.prog 270 = some (false, 1) := by kernel_rfl
theorem tZ270 : zeroOf Tryz.prog 270 = some [.nilFunc] := by kernel_rfl
theorem tL271 : lay Tryz.prog 271 = some (false, 1) := by kernel_rfl
theorem tZ271 : zeroOf Tryz.prog 271 = some [.nilFunc] := by kernel_rfl
theorem tL272 : lay Tryz.prog 272 = some (false, 1) := by kernel_rfl
theorem tZ272 : zeroOf Tryz.prog 272 = some [.nilFunc] := by kernel_rfl
theorem tL273 : lay Tryz.prog 273 = some (true, 4) := by kernel_rfl
theorem tZ273 : zeroOf Tryz.prog 273 = some [.pointer none, .pointer none, .pointer none, .string ByteArray.empty] := by kernel_rfl
theorem tF273x0 : fieldOf Tryz.prog 273 0 = some (0, false, 1) := by kernel_rfl
theorem tP273x0 : placeOf Tryz.prog 273 0 = some (0, false, 1) := by kernel_rfl
theorem tF273x1 : fieldOf Tryz.prog 273 1 = some (1, false, 1) := by kernel_rfl
theorem tP273x1 : placeOf Tryz.prog 273 1 = some (1, false, 1) := by kernel_rfl
theorem tF273x2 : fieldOf Tryz.prog 273 2 = some (2, false, 1) := by kernel_rfl
theorem tP273x2 : placeOf Tryz.prog 273 2 = some (2, false, 1) := by kernel_rfl
theorem tF273x3 : fieldOf Tryz.prog 273 3 = some (3, false, 1) := by kernel_rfl
theorem tP273x3 : placeOf Tryz.prog 273 3 = some (3, false, 1) := by kernel_rfl
theorem tK273 : placesOk Tryz.prog 273 = true := by kernel_rfl
theorem tL274 : lay Tryz.prog 274 = some (true, 4) := by kernel_rfl
theorem tZ274 : zeroOf Tryz.prog 274 = some [.pointer none, .pointer none, .pointer none, .string ByteArray.empty] := by kernel_rfl
theorem tF274x0 : fieldOf Tryz.prog 274 0 = some (0, false, 1) := by kernel_rfl
theorem tP274x0 : placeOf Tryz.prog 274 0 = some (0, false, 1) := by kernel_rfl
theorem tF274x1 : fieldOf Tryz.prog 274 1 = some (1, false, 1) := by kernel_rfl
theorem tP274x1 : placeOf Tryz.prog 274 1 = some (1, false, 1) := by kernel_rfl
theorem tF274x2 : fieldOf Tryz.prog 274 2 = some (2, false, 1) := by kernel_rfl
theorem tP274x2 : placeOf Tryz.prog 274 2 = some (2, false, 1) := by kernel_rfl
theorem tF274x3 : fieldOf Tryz.prog 274 3 = some (3, false, 1) := by kernel_rfl
theorem tP274x3 : placeOf Tryz.prog 274 3 = some (3, false, 1) := by kernel_rfl
theorem tK274 : placesOk Tryz.prog 274 = true := by kernel_rfl
theorem tU275 : Tryz.prog.underlying 275 = some (.array 0 16) := by kernel_rfl
theorem tL275 : lay Tryz.prog 275 = some (true, 0) := by kernel_rfl
theorem tZ275 : zeroOf Tryz.prog 275 = some [] := by kernel_rfl
theorem tE275 : elemOfSl Tryz.prog 275 = none := by kernel_rfl
theorem tR275 : elemOfArr Tryz.prog 275 = some (0, false, 1) := by kernel_rfl
theorem tK275 : placesOk Tryz.prog 275 = true := by kernel_rfl
theorem tL276 : lay Tryz.prog 276 = some (true, 0) := by kernel_rfl
theorem tZ276 : zeroOf Tryz.prog 276 = some [] := by kernel_rfl
theorem tF276x0 : fieldOf Tryz.prog 276 0 = some (0, true, 0) := by kernel_rfl
theorem tP276x0 : placeOf Tryz.prog 276 0 = some (0, true, 0) := by kernel_rfl
theorem tK276 : placesOk Tryz.prog 276 = true := by kernel_rfl
theorem tL277 : lay Tryz.prog 277 = some (true, 0) := by kernel_rfl
theorem tZ277 : zeroOf Tryz.prog 277 = some [] := by kernel_rfl
theorem tF277x0 : fieldOf Tryz.prog 277 0 = some (0, true, 0) := by kernel_rfl
theorem tP277x0 : placeOf Tryz.prog 277 0 = some (0, true, 0) := by kernel_rfl
theorem tK277 : placesOk Tryz.prog 277 = true := by kernel_rfl
theorem tL278 : lay Tryz.prog 278 = some (false, 1) := by kernel_rfl
theorem tZ278 : zeroOf Tryz.prog 278 = some [.nilFunc] := by kernel_rfl
theorem tU279 : Tryz.prog.underlying 279 = some (.int .u8) := by kernel_rfl
theorem tL279 : lay Tryz.prog 279 = some (false, 1) := by kernel_rfl
theorem tZ279 : zeroOf Tryz.prog 279 = some [.int .u8 0] := by kernel_rfl
theorem tU280 : Tryz.prog.underlying 280 = some (.int .u8) := by kernel_rfl
theorem tL280 : lay Tryz.prog 280 = some (false, 1) := by kernel_rfl
theorem tZ280 : zeroOf Tryz.prog 280 = some [.int .u8 0] := by kernel_rfl
theorem tL281 : lay Tryz.prog 281 = some (false, 1) := by kernel_rfl
theorem tZ281 : zeroOf Tryz.prog 281 = some [.nilFunc] := by kernel_rfl
theorem tU282 : Tryz.prog.underlying 282 = some (.pointer 5) := by kernel_rfl
theorem tL282 : lay Tryz.prog 282 = some (false, 1) := by kernel_rfl
theorem tZ282 : zeroOf Tryz.prog 282 = some [.pointer none] := by kernel_rfl
theorem tU283 : Tryz.prog.underlying 283 = some (.int .i32) := by kernel_rfl
theorem tL283 : lay Tryz.prog 283 = some (false, 1) := by kernel_rfl
theorem tZ283 : zeroOf Tryz.prog 283 = some [.int .i32 0] := by kernel_rfl
theorem tU284 : Tryz.prog.underlying 284 = some (.int .i32) := by kernel_rfl
theorem tL284 : lay Tryz.prog 284 = some (false, 1) := by kernel_rfl
theorem tZ284 : zeroOf Tryz.prog 284 = some [.int .i32 0] := by kernel_rfl
theorem tL285 : lay Tryz.prog 285 = some (true, 11) := by kernel_rfl
theorem tZ285 : zeroOf Tryz.prog 285 = some [.int .u64 0, .int .u64 0, .int .u32 0, .int .u8 0, .int .u8 0, .int .u8 0, .int .u8 0, .nilFunc, .pointer none, .int .i32 0, .int .i32 0] := by kernel_rfl
theorem tF285x0 : fieldOf Tryz.prog 285 0 = some (0, false, 1) := by kernel_rfl
theorem tP285x0 : placeOf Tryz.prog 285 0 = some (0, false, 1) := by kernel_rfl
theorem tF285x1 : fieldOf Tryz.prog 285 1 = some (1, false, 1) := by kernel_rfl
theorem tP285x1 : placeOf Tryz.prog 285 1 = some (1, false, 1) := by kernel_rfl
theorem tF285x2 : fieldOf Tryz.prog 285 2 = some (2, false, 1) := by kernel_rfl
theorem tP285x2 : placeOf Tryz.prog 285 2 = some (2, false, 1) := by kernel_rfl
theorem tF285x3 : fieldOf Tryz.prog 285 3 = some (3, false, 1) := by kernel_rfl
theorem tP285x3 : placeOf Tryz.prog 285 3 = some (3, false, 1) := by kernel_rfl
theorem tF285x4 : fieldOf Tryz.prog 285 4 = some (4, false, 1) := by kernel_rfl
theorem tP285x4 : placeOf Tryz.prog 285 4 = some (4, false, 1) := by kernel_rfl
theorem tF285x5 : fieldOf Tryz.prog 285 5 = some (5, false, 1) := by kernel_rfl
theorem tP285x5 : placeOf Tryz.prog 285 5 = some (5, false, 1) := by kernel_rfl
theorem tF285x6 : fieldOf Tryz.prog 285 6 = some (6, false, 1) := by kernel_rfl
theorem tP285x6 : placeOf Tryz.prog 285 6 = some (6, false, 1) := by kernel_rfl
theorem tF285x7 : fieldOf Tryz.prog 285 7 = some (7, false, 1) := by kernel_rfl
theorem tP285x7 : placeOf Tryz.prog 285 7 = some (7, false, 1) := by kernel_rfl
theorem tF285x8 : fieldOf Tryz.prog 285 8 = some (8, false, 1) := by kernel_rfl
theorem tP285x8 : placeOf Tryz.prog 285 8 = some (8, false, 1) := by kernel_rfl
theorem tF285x9 : fieldOf Tryz.prog 285 9 = some (9, false, 1) := by kernel_rfl
theorem tP285x9 : placeOf Tryz.prog 285 9 = some (9, false, 1) := by kernel_rfl
theorem tF285x10 : fieldOf Tryz.prog 285 10 = some (10, false, 1) := by kernel_rfl
theorem tP285x10 : placeOf Tryz.prog 285 10 = some (10, false, 1) := by kernel_rfl
theorem tK285 : placesOk Tryz.prog 285 = true := by kernel_rfl
theorem tL286 : lay Tryz.prog 286 = some (true, 11) := by kernel_rfl
theorem tZ286 : zeroOf Tryz.prog 286 = some [.int .u64 0, .int .u64 0, .int .u32 0, .int .u8 0, .int .u8 0, .int .u8 0, .int .u8 0, .nilFunc, .pointer none, .int .i32 0, .int .i32 0] := by kernel_rfl
theorem tF286x0 : fieldOf Tryz.prog 286 0 = some (0, false, 1) := by kernel_rfl
theorem tP286x0 : placeOf Tryz.prog 286 0 = some (0, false, 1) := by kernel_rfl
theorem tF286x1 : fieldOf Tryz.prog 286 1 = some (1, false, 1) := by kernel_rfl
theorem tP286x1 : placeOf Tryz.prog 286 1 = some (1, false, 1) := by kernel_rfl
theorem tF286x2 : fieldOf Tryz.prog 286 2 = some (2, false, 1) := by kernel_rfl
theorem tP286x2 : placeOf Tryz.prog 286 2 = some (2, false, 1) := by kernel_rfl
theorem tF286x3 : fieldOf Tryz.prog 286 3 = some (3, false, 1) := by kernel_rfl
theorem tP286x3 : placeOf Tryz.prog 286 3 = some (3, false, 1) := by kernel_rfl
theorem tF286x4 : fieldOf Tryz.prog 286 4 = some (4, false, 1) := by kernel_rfl
theorem tP286x4 : placeOf Tryz.prog 286 4 = some (4, false, 1) := by kernel_rfl
theorem tF286x5 : fieldOf Tryz.prog 286 5 = some (5, false, 1) := by kernel_rfl
theorem tP286x5 : placeOf Tryz.prog 286 5 = some (5, false, 1) := by kernel_rfl
theorem tF286x6 : fieldOf Tryz.prog 286 6 = some (6, false, 1) := by kernel_rfl
theorem tP286x6 : placeOf Tryz.prog 286 6 = some (6, false, 1) := by kernel_rfl
theorem tF286x7 : fieldOf Tryz.prog 286 7 = some (7, false, 1) := by kernel_rfl
theorem tP286x7 : placeOf Tryz.prog 286 7 = some (7, false, 1) := by kernel_rfl
theorem tF286x8 : fieldOf Tryz.prog 286 8 = some (8, false, 1) := by kernel_rfl
theorem tP286x8 : placeOf Tryz.prog 286 8 = some (8, false, 1) := by kernel_rfl
theorem tF286x9 : fieldOf Tryz.prog 286 9 = some (9, false, 1) := by kernel_rfl
theorem tP286x9 : placeOf Tryz.prog 286 9 = some (9, false, 1) := by kernel_rfl
theorem tF286x10 : fieldOf Tryz.prog 286 10 = some (10, false, 1) := by kernel_rfl
theorem tP286x10 : placeOf Tryz.prog 286 10 = some (10, false, 1) := by kernel_rfl
theorem tK286 : placesOk Tryz.prog 286 = true := by kernel_rfl
theorem tL287 : lay Tryz.prog 287 = some (false, 1) := by kernel_rfl
theorem tZ287 : zeroOf Tryz.prog 287 = some [.pointer none] := by kernel_rfl
theorem tD3 : zeroD Tryz.prog 3 = some (.lit (.int .i64 0)) := by kernel_rfl
theorem tD4 : zeroD Tryz.prog 4 = some (.lit (.bool false)) := by kernel_rfl
theorem tD60 : zeroD Tryz.prog 60 = some (.agg [.lit (.int .i64 0), .lit (.string ByteArray.empty), .lit (.int .i64 0), .lit (.string ByteArray.empty), .lit (.int .i64 0), .lit (.string ByteArray.empty), .lit (.int .i64 0), .lit (.string ByteArray.empty), .lit (.int .i64 0), .lit (.string ByteArray.empty), .lit (.int .i64 0), .lit (.string ByteArray.empty), .lit (.int .i64 0), .lit (.string ByteArray.empty), .sl [], .lit (.int .i64 0), .lit (.string ByteArray.empty), .lit (.int .i64 0), .lit (.string ByteArray.empty), .lit (.int .i64 0), .lit (.string ByteArray.empty), .sl [], .lit (.int .i64 0), .lit (.string ByteArray.empty), .lit (.int .i64 0), .lit (.string ByteArray.empty), .lit (.int .i64 0), .lit (.string ByteArray.empty), .sl [], .lit (.int .i64 0), .lit (.string ByteArray.empty), .lit (.int .i64 0), .lit (.string ByteArray.empty), .sl [], .sl []]) := by kernel_rfl
set_option linter.defProp false
def TF0 := aI tL1 (aI tZ1 (aI tU2 (aI tL2 (aI tZ2 (aI tU3 (aI tL3 (aI tZ3 (aI tU4 (aI tL4 (aI tZ4 (aI tU5 (aI tL5 (aI tZ5 (aI tU6 (aI tL6 (aI tZ6 (aI tL7 (aI tZ7 (aI tF7x0 (aI tP7x0 (aI tF7x1 (aI tP7x1 (aI tF7x2 (aI tP7x2 (aI tF7x3 (aI tP7x3 (aI tK7 (aI tQ7 (aI tL8 (aI tZ8 (aI tF8x0 (aI tP8x0 (aI tF8x1 (aI tP8x1 (aI tF8x2 (aI tP8x2 (aI tF8x3 (aI tP8x3 tK8))))))))))))))))))))))))))))))))))))))
def TF1 := aI tQ8 (aI tU9 (aI tL9 (aI tZ9 (aI tU10 (aI tL10 (aI tZ10 (aI tU11 (aI tL11 (aI tZ11 (aI tU12 (aI tL12 (aI tZ12 (aI tL13 (aI tZ13 (aI tF13x0 (aI tP13x0 (aI tF13x1 (aI tP13x1 (aI tK13 (aI tL14 (aI tZ14 (aI tF14x0 (aI tP14x0 (aI tF14x1 (aI tP14x1 (aI tK14 (aI tU15 (aI tL15 (aI tZ15 (aI tU16 (aI tL16 (aI tZ16 (aI tU17 (aI tL17 (aI tZ17 (aI tL18 (aI tZ18 (aI tF18x0 tP18x0))))))))))))))))))))))))))))))))))))))
def TF2 := aI tK18 (aI tL19 (aI tZ19 (aI tF19x0 (aI tP19x0 (aI tK19 (aI tL20 (aI tZ20 (aI tU21 (aI tL21 (aI tZ21 (aI tU22 (aI tL22 (aI tZ22 (aI tE22 (aI tA22 (aI tL23 (aI tZ23 (aI tF23x0 (aI tP23x0 (aI tF23x1 (aI tP23x1 (aI tF23x2 (aI tP23x2 (aI tK23 (aI tL24 (aI tZ24 (aI tF24x0 (aI tP24x0 (aI tF24x1 (aI tP24x1 (aI tF24x2 (aI tP24x2 (aI tK24 (aI tU25 (aI tL25 (aI tZ25 (aI tE25 (aI tA25 tL26))))))))))))))))))))))))))))))))))))))
def TF3 := aI tZ26 (aI tF26x0 (aI tP26x0 (aI tF26x1 (aI tP26x1 (aI tF26x2 (aI tP26x2 (aI tF26x3 (aI tP26x3 (aI tK26 (aI tL27 (aI tZ27 (aI tF27x0 (aI tP27x0 (aI tF27x1 (aI tP27x1 (aI tF27x2 (aI tP27x2 (aI tF27x3 (aI tP27x3 (aI tK27 (aI tU28 (aI tL28 (aI tZ28 (aI tE28 (aI tA28 (aI tL29 (aI tZ29 (aI tF29x0 (aI tP29x0 (aI tK29 (aI tL30 (aI tZ30 (aI tF30x0 (aI tP30x0 (aI tK30 (aI tU31 (aI tL31 (aI tZ31 tE31))))))))))))))))))))))))))))))))))))))
def TF4 := aI tA31 (aI tL32 (aI tZ32 (aI tL33 (aI tZ33 (aI tL34 (aI tZ34 (aI tL35 (aI tZ35 (aI tL36 (aI tZ36 (aI tL37 (aI tZ37 (aI tL38 (aI tZ38 (aI tL39 (aI tZ39 (aI tU40 (aI tL40 (aI tZ40 (aI tL41 (aI tZ41 (aI tF41x0 (aI tP41x0 (aI tF41x1 (aI tP41x1 (aI tK41 (aI tL42 (aI tZ42 (aI tF42x0 (aI tP42x0 (aI tF42x1 (aI tP42x1 (aI tK42 (aI tL43 (aI tZ43 (aI tL44 (aI tZ44 (aI tF44x0 tP44x0))))))))))))))))))))))))))))))))))))))
def TF5 := aI tF44x1 (aI tP44x1 (aI tK44 (aI tL45 (aI tZ45 (aI tF45x0 (aI tP45x0 (aI tF45x1 (aI tP45x1 (aI tK45 (aI tL46 (aI tZ46 (aI tL47 (aI tZ47 (aI tL48 (aI tZ48 (aI tF48x0 (aI tP48x0 (aI tF48x1 (aI tP48x1 (aI tK48 (aI tQ48 (aI tL49 (aI tZ49 (aI tF49x0 (aI tP49x0 (aI tF49x1 (aI tP49x1 (aI tK49 (aI tQ49 (aI tL50 (aI tZ50 (aI tF50x0 (aI tP50x0 (aI tF50x1 (aI tP50x1 (aI tK50 (aI tQ50 (aI tL51 tZ51))))))))))))))))))))))))))))))))))))))
def TF6 := aI tF51x0 (aI tP51x0 (aI tF51x1 (aI tP51x1 (aI tK51 (aI tQ51 (aI tU52 (aI tL52 (aI tZ52 (aI tE52 (aI tA52 (aI tL53 (aI tZ53 (aI tF53x0 (aI tP53x0 (aI tF53x1 (aI tP53x1 (aI tF53x2 (aI tP53x2 (aI tF53x3 (aI tP53x3 (aI tF53x4 (aI tP53x4 (aI tK53 (aI tL54 (aI tZ54 (aI tF54x0 (aI tP54x0 (aI tF54x1 (aI tP54x1 (aI tF54x2 (aI tP54x2 (aI tF54x3 (aI tP54x3 (aI tF54x4 (aI tP54x4 (aI tK54 (aI tL55 (aI tZ55 tF55x0))))))))))))))))))))))))))))))))))))))
def TF7 := aI tP55x0 (aI tF55x1 (aI tP55x1 (aI tF55x2 (aI tP55x2 (aI tK55 (aI tQ55 (aI tL56 (aI tZ56 (aI tF56x0 (aI tP56x0 (aI tF56x1 (aI tP56x1 (aI tF56x2 (aI tP56x2 (aI tK56 (aI tQ56 (aI tU57 (aI tL57 (aI tZ57 (aI tE57 (aI tA57 (aI tU58 (aI tL58 (aI tZ58 (aI tE58 (aI tA58 (aI tL59 (aI tZ59 (aI tF59x0 (aI tP59x0 (aI tF59x1 (aI tP59x1 (aI tF59x2 (aI tP59x2 (aI tF59x3 (aI tP59x3 (aI tF59x4 (aI tP59x4 tF59x5))))))))))))))))))))))))))))))))))))))
def TF8 := aI tP59x5 (aI tF59x6 (aI tP59x6 (aI tF59x7 (aI tP59x7 (aI tF59x8 (aI tP59x8 (aI tF59x9 (aI tP59x9 (aI tF59x10 (aI tP59x10 (aI tF59x11 (aI tP59x11 (aI tK59 (aI tL60 (aI tZ60 (aI tF60x0 (aI tP60x0 (aI tF60x1 (aI tP60x1 (aI tF60x2 (aI tP60x2 (aI tF60x3 (aI tP60x3 (aI tF60x4 (aI tP60x4 (aI tF60x5 (aI tP60x5 (aI tF60x6 (aI tP60x6 (aI tF60x7 (aI tP60x7 (aI tF60x8 (aI tP60x8 (aI tF60x9 (aI tP60x9 (aI tF60x10 (aI tP60x10 (aI tF60x11 tP60x11))))))))))))))))))))))))))))))))))))))
def TF9 := aI tK60 (aI tU61 (aI tL61 (aI tZ61 (aI tE61 (aI tA61 (aI tU62 (aI tL62 (aI tZ62 (aI tE62 (aI tA62 (aI tL63 (aI tZ63 (aI tF63x0 (aI tP63x0 (aI tF63x1 (aI tP63x1 (aI tF63x2 (aI tP63x2 (aI tF63x3 (aI tP63x3 (aI tK63 (aI tL64 (aI tZ64 (aI tF64x0 (aI tP64x0 (aI tF64x1 (aI tP64x1 (aI tF64x2 (aI tP64x2 (aI tF64x3 (aI tP64x3 (aI tK64 (aI tL65 (aI tZ65 (aI tF65x0 (aI tP65x0 (aI tF65x1 (aI tP65x1 tF65x2))))))))))))))))))))))))))))))))))))))
def TF10 := aI tP65x2 (aI tF65x3 (aI tP65x3 (aI tF65x4 (aI tP65x4 (aI tK65 (aI tL66 (aI tZ66 (aI tF66x0 (aI tP66x0 (aI tF66x1 (aI tP66x1 (aI tF66x2 (aI tP66x2 (aI tF66x3 (aI tP66x3 (aI tF66x4 (aI tP66x4 (aI tK66 (aI tL67 (aI tZ67 (aI tL68 (aI tZ68 (aI tL69 (aI tZ69 (aI tL70 (aI tZ70 (aI tU71 (aI tL71 (aI tZ71 (aI tE71 (aI tR71 (aI tP71x0 (aI tP71x1 (aI tK71 (aI tQ71 (aI tL72 (aI tZ72 (aI tL73 tZ73))))))))))))))))))))))))))))))))))))))
def TF11 := aI tL74 (aI tZ74 (aI tL75 (aI tZ75 (aI tL76 (aI tZ76 (aI tL77 (aI tZ77 (aI tL78 (aI tZ78 (aI tL79 (aI tZ79 (aI tU80 (aI tL80 (aI tZ80 (aI tE80 (aI tR80 (aI tP80x0 (aI tP80x1 (aI tP80x2 (aI tP80x3 (aI tK80 (aI tQ80 (aI tL81 (aI tZ81 (aI tL82 (aI tZ82 (aI tL83 (aI tZ83 (aI tL84 (aI tZ84 (aI tL85 (aI tZ85 (aI tL86 (aI tZ86 (aI tL87 (aI tZ87 (aI tL88 (aI tZ88 tL89))))))))))))))))))))))))))))))))))))))
def TF12 := aI tZ89 (aI tL90 (aI tZ90 (aI tL91 (aI tZ91 (aI tL92 (aI tZ92 (aI tL93 (aI tZ93 (aI tU94 (aI tL94 (aI tZ94 (aI tL95 (aI tZ95 (aI tF95x0 (aI tP95x0 (aI tK95 (aI tL96 (aI tZ96 (aI tF96x0 (aI tP96x0 (aI tK96 (aI tL97 (aI tZ97 (aI tL98 (aI tZ98 (aI tL99 (aI tZ99 (aI tL100 (aI tZ100 (aI tL101 (aI tZ101 (aI tF101x0 (aI tP101x0 (aI tF101x1 (aI tP101x1 (aI tF101x2 (aI tP101x2 (aI tF101x3 tP101x3))))))))))))))))))))))))))))))))))))))
def TF13 := aI tK101 (aI tL102 (aI tZ102 (aI tF102x0 (aI tP102x0 (aI tF102x1 (aI tP102x1 (aI tF102x2 (aI tP102x2 (aI tF102x3 (aI tP102x3 (aI tK102 (aI tL103 (aI tZ103 (aI tL104 (aI tZ104 (aI tL105 (aI tZ105 (aI tL106 (aI tZ106 (aI tL107 (aI tZ107 (aI tL108 (aI tZ108 (aI tL109 (aI tZ109 (aI tL110 (aI tZ110 (aI tL111 (aI tZ111 (aI tL112 (aI tZ112 (aI tL113 (aI tZ113 (aI tL114 (aI tZ114 (aI tL116 (aI tZ116 (aI tL117 tZ117))))))))))))))))))))))))))))))))))))))
def TF14 := aI tL119 (aI tZ119 (aI tL120 (aI tZ120 (aI tL121 (aI tZ121 (aI tU122 (aI tL122 (aI tZ122 (aI tE122 (aI tR122 (aI tP122x0 (aI tP122x1 (aI tK122 (aI tQ122 (aI tL123 (aI tZ123 (aI tL124 (aI tZ124 (aI tF124x0 (aI tP124x0 (aI tF124x1 (aI tP124x1 (aI tK124 (aI tL125 (aI tZ125 (aI tF125x0 (aI tP125x0 (aI tF125x1 (aI tP125x1 (aI tK125 (aI tL126 (aI tZ126 (aI tL127 (aI tZ127 (aI tU128 (aI tL128 (aI tZ128 (aI tE128 tR128))))))))))))))))))))))))))))))))))))))
def TF15 := aI tP128x0 (aI tP128x1 (aI tK128 (aI tQ128 (aI tL129 (aI tZ129 (aI tU130 (aI tL130 (aI tZ130 (aI tE130 (aI tA130 (aI tL131 (aI tZ131 (aI tU132 (aI tL132 (aI tZ132 (aI tE132 (aI tA132 (aI tL133 (aI tZ133 (aI tL134 (aI tZ134 (aI tF134x0 (aI tP134x0 (aI tF134x1 (aI tP134x1 (aI tK134 (aI tQ134 (aI tL135 (aI tZ135 (aI tF135x0 (aI tP135x0 (aI tF135x1 (aI tP135x1 (aI tK135 (aI tQ135 (aI tL136 (aI tZ136 (aI tL137 tZ137))))))))))))))))))))))))))))))))))))))
def TF16 := aI tL138 (aI tZ138 (aI tL139 (aI tZ139 (aI tL140 (aI tZ140 (aI tL141 (aI tZ141 (aI tL142 (aI tZ142 (aI tL143 (aI tZ143 (aI tL144 (aI tZ144 (aI tL145 (aI tZ145 (aI tL146 (aI tZ146 (aI tL147 (aI tZ147 (aI tL148 (aI tZ148 (aI tF148x0 (aI tP148x0 (aI tF148x1 (aI tP148x1 (aI tF148x2 (aI tP148x2 (aI tF148x3 (aI tP148x3 (aI tK148 (aI tL149 (aI tZ149 (aI tF149x0 (aI tP149x0 (aI tF149x1 (aI tP149x1 (aI tF149x2 (aI tP149x2 tF149x3))))))))))))))))))))))))))))))))))))))
def TF17 := aI tP149x3 (aI tK149 (aI tL150 (aI tZ150 (aI tL151 (aI tZ151 (aI tL152 (aI tZ152 (aI tL153 (aI tZ153 (aI tL154 (aI tZ154 (aI tL155 (aI tZ155 (aI tL156 (aI tZ156 (aI tL158 (aI tZ158 (aI tL159 (aI tZ159 (aI tU160 (aI tL160 (aI tZ160 (aI tL161 (aI tZ161 (aI tU162 (aI tL162 (aI tZ162 (aI tU163 (aI tL163 (aI tZ163 (aI tU164 (aI tL164 (aI tZ164 (aI tE164 (aI tA164 (aI tL165 (aI tZ165 (aI tF165x0 tP165x0))))))))))))))))))))))))))))))))))))))
def TF18 := aI tF165x1 (aI tP165x1 (aI tF165x2 (aI tP165x2 (aI tK165 (aI tL166 (aI tZ166 (aI tF166x0 (aI tP166x0 (aI tF166x1 (aI tP166x1 (aI tF166x2 (aI tP166x2 (aI tK166 (aI tU167 (aI tL167 (aI tZ167 (aI tU168 (aI tL168 (aI tZ168 (aI tL169 (aI tZ169 (aI tF169x0 (aI tP169x0 (aI tF169x1 (aI tP169x1 (aI tF169x2 (aI tP169x2 (aI tK169 (aI tL170 (aI tZ170 (aI tF170x0 (aI tP170x0 (aI tF170x1 (aI tP170x1 (aI tF170x2 (aI tP170x2 (aI tK170 (aI tL171 tZ171))))))))))))))))))))))))))))))))))))))
def TF19 := aI tL173 (aI tZ173 (aI tL174 (aI tZ174 (aI tL175 (aI tZ175 (aI tL176 (aI tZ176 (aI tF176x0 (aI tP176x0 (aI tF176x1 (aI tP176x1 (aI tF176x2 (aI tP176x2 (aI tK176 (aI tQ176 (aI tL177 (aI tZ177 (aI tF177x0 (aI tP177x0 (aI tF177x1 (aI tP177x1 (aI tF177x2 (aI tP177x2 (aI tK177 (aI tQ177 (aI tL178 (aI tZ178 (aI tL179 (aI tZ179 (aI tL180 (aI tZ180 (aI tL181 (aI tZ181 (aI tL182 (aI tZ182 (aI tL183 (aI tZ183 (aI tL184 tZ184))))))))))))))))))))))))))))))))))))))
def TF20 := aI tL185 (aI tZ185 (aI tL186 (aI tZ186 (aI tL187 (aI tZ187 (aI tL188 (aI tZ188 (aI tL189 (aI tZ189 (aI tL190 (aI tZ190 (aI tL191 (aI tZ191 (aI tL192 (aI tZ192 (aI tL193 (aI tZ193 (aI tL194 (aI tZ194 (aI tL195 (aI tZ195 (aI tL196 (aI tZ196 (aI tL197 (aI tZ197 (aI tL199 (aI tZ199 (aI tL200 (aI tZ200 (aI tL201 (aI tZ201 (aI tL202 (aI tZ202 (aI tU203 (aI tL203 (aI tZ203 (aI tL204 (aI tZ204 tL206))))))))))))))))))))))))))))))))))))))
def TF21 := aI tZ206 (aI tL207 (aI tZ207 (aI tL208 (aI tZ208 (aI tL209 (aI tZ209 (aI tL210 (aI tZ210 (aI tL211 (aI tZ211 (aI tU212 (aI tL212 (aI tZ212 (aI tL214 (aI tZ214 (aI tL215 (aI tZ215 (aI tL216 (aI tZ216 (aI tL217 (aI tZ217 (aI tL218 (aI tZ218 (aI tU219 (aI tL219 (aI tZ219 (aI tL220 (aI tZ220 (aI tU221 (aI tL221 (aI tZ221 (aI tL222 (aI tZ222 (aI tL223 (aI tZ223 (aI tL224 (aI tZ224 (aI tL225 tZ225))))))))))))))))))))))))))))))))))))))
def TF22 := aI tL226 (aI tZ226 (aI tL227 (aI tZ227 (aI tL228 (aI tZ228 (aI tL229 (aI tZ229 (aI tL230 (aI tZ230 (aI tL231 (aI tZ231 (aI tL232 (aI tZ232 (aI tL233 (aI tZ233 (aI tL234 (aI tZ234 (aI tL235 (aI tZ235 (aI tL236 (aI tZ236 (aI tL237 (aI tZ237 (aI tL238 (aI tZ238 (aI tL239 (aI tZ239 (aI tL240 (aI tZ240 (aI tL241 (aI tZ241 (aI tL242 (aI tZ242 (aI tL243 (aI tZ243 (aI tL244 (aI tZ244 (aI tU245 tL245))))))))))))))))))))))))))))))))))))))
def TF23 := aI tZ245 (aI tL246 (aI tZ246 (aI tL247 (aI tZ247 (aI tL248 (aI tZ248 (aI tU249 (aI tL249 (aI tZ249 (aI tL250 (aI tZ250 (aI tL251 (aI tZ251 (aI tL252 (aI tZ252 (aI tL253 (aI tZ253 (aI tU254 (aI tL254 (aI tZ254 (aI tL255 (aI tZ255 (aI tL256 (aI tZ256 (aI tL257 (aI tZ257 (aI tL258 (aI tZ258 (aI tL259 (aI tZ259 (aI tL260 (aI tZ260 (aI tL261 (aI tZ261 (aI tL262 (aI tZ262 (aI tU263 (aI tL263 tZ263))))))))))))))))))))))))))))))))))))))
def TF24 := aI tL264 (aI tZ264 (aI tL265 (aI tZ265 (aI tL266 (aI tZ266 (aI tL267 (aI tZ267 (aI tL268 (aI tZ268 (aI tL269 (aI tZ269 (aI tL270 (aI tZ270 (aI tL271 (aI tZ271 (aI tL272 (aI tZ272 (aI tL273 (aI tZ273 (aI tF273x0 (aI tP273x0 (aI tF273x1 (aI tP273x1 (aI tF273x2 (aI tP273x2 (aI tF273x3 (aI tP273x3 (aI tK273 (aI tL274 (aI tZ274 (aI tF274x0 (aI tP274x0 (aI tF274x1 (aI tP274x1 (aI tF274x2 (aI tP274x2 (aI tF274x3 (aI tP274x3 tK274))))))))))))))))))))))))))))))))))))))
def TF25 := aI tU275 (aI tL275 (aI tZ275 (aI tE275 (aI tR275 (aI tK275 (aI tL276 (aI tZ276 (aI tF276x0 (aI tP276x0 (aI tK276 (aI tL277 (aI tZ277 (aI tF277x0 (aI tP277x0 (aI tK277 (aI tL278 (aI tZ278 (aI tU279 (aI tL279 (aI tZ279 (aI tU280 (aI tL280 (aI tZ280 (aI tL281 (aI tZ281 (aI tU282 (aI tL282 (aI tZ282 (aI tU283 (aI tL283 (aI tZ283 (aI tU284 (aI tL284 (aI tZ284 (aI tL285 (aI tZ285 (aI tF285x0 (aI tP285x0 tF285x1))))))))))))))))))))))))))))))))))))))
def TF26 := aI tP285x1 (aI tF285x2 (aI tP285x2 (aI tF285x3 (aI tP285x3 (aI tF285x4 (aI tP285x4 (aI tF285x5 (aI tP285x5 (aI tF285x6 (aI tP285x6 (aI tF285x7 (aI tP285x7 (aI tF285x8 (aI tP285x8 (aI tF285x9 (aI tP285x9 (aI tF285x10 (aI tP285x10 (aI tK285 (aI tL286 (aI tZ286 (aI tF286x0 (aI tP286x0 (aI tF286x1 (aI tP286x1 (aI tF286x2 (aI tP286x2 (aI tF286x3 (aI tP286x3 (aI tF286x4 (aI tP286x4 (aI tF286x5 (aI tP286x5 (aI tF286x6 (aI tP286x6 (aI tF286x7 (aI tP286x7 (aI tF286x8 tP286x8))))))))))))))))))))))))))))))))))))))
def TF27 := aI tF286x9 (aI tP286x9 (aI tF286x10 (aI tP286x10 (aI tK286 (aI tL287 (aI tZ287 (aI tD3 (aI tD4 tD60))))))))
def TF := aI TF0 (aI TF1 (aI TF2 (aI TF3 (aI TF4 (aI TF5 (aI TF6 (aI TF7 (aI TF8 (aI TF9 (aI TF10 (aI TF11 (aI TF12 (aI TF13 (aI TF14 (aI TF15 (aI TF16 (aI TF17 (aI TF18 (aI TF19 (aI TF20 (aI TF21 (aI TF22 (aI TF23 (aI TF24 (aI TF25 (aI TF26 TF27))))))))))))))))))))))))))
end Go.Proofs.YtnnhfhodbfgfdaaGreat

namespace Go.Proofs.YtnnhfhodbfgfdaaGreat
open Go.Aw
/-! ### Data -/
/-- Strings and numbers as long and as large as they can be. -/
abbrev Str := {s : ByteArray // s.size ≤ maxLen}
abbrev I64 := {n : Int // (Lit.int .i64 n).wf = true}
structure Num where
 n : Int
 p : Str
 deriving DecidableEq
structure Rule where
 kind : Int
 from' : Str
 n : Int
 deriving DecidableEq
structure Bind where
 port : Str
 chan : Str
 deriving DecidableEq
inductive Expr where
 | mk (op : Int) (name : Str) (k w : Num) (args : List Expr)
def Expr.op : Expr → Int | .mk o _ _ _ _ => o
def Expr.name : Expr → Str | .mk _ n _ _ _ => n
def Expr.k : Expr → Num | .mk _ _ k _ _ => k
def Expr.w : Expr → Num | .mk _ _ _ w _ => w
def Expr.args : Expr → List Expr | .mk _ _ _ _ a => a
structure Item where
 kind : I64
 name : Str
 width : Num
 depth : Num
 init : Num
 a : Expr
 b : Expr
 c : Expr
 rule : Rule
 of : Str
 args : List Num
 ports : List Bind
structure Module where
 name : Str
 clock : Str
 params : List Str
 items : List Item
structure Problem where
 code : Int
 module : Int
 item : Int
 deriving DecidableEq
def eU8 (n : Nat) : D := .lit (.int .u8 n)
def eI (n : Int) : D := .lit (.int .i64 n)
def eB (b : Bool) : D := .lit (.bool b)
def eS (s : Str) : D := .lit (.string s.1)
theorem str_eq (x y : Str) : decide (x.1 = y.1) = decide (x = y) := by rw [decide_eq_decide]; exact Subtype.ext_iff.symm
def eNum (x : Num) : List D := [eI x.n, eS x.p]
def eRule (x : Rule) : List D := [eI x.kind, eS x.from', eI x.n]
def eBind (x : Bind) : List D := [eS x.port, eS x.chan]
def eProb (x : Problem) : List D := [eI x.code, eI x.module, eI x.item]
def eStrs (l : List Str) : D := .sl (l.map fun s => [eS s])
def eInts (l : List Int) : D := .sl (l.map fun s => [eI s])
def eNums (l : List Num) : D := .sl (l.map eNum)
def eBinds (l : List Bind) : D := .sl (l.map eBind)
def eProbs (l : List Problem) : D := .sl (l.map eProb)
def eBytes (l : List Nat) : D := .sl (l.map fun n => [eU8 n])
mutual
def eExpr : Expr → List D
 | .mk o n k w a => [eI o, eS n, eI k.n, eS k.p, eI w.n, eS w.p, .sl (eExprL a)]
def eExprL : List Expr → List (List D)
 | [] => []
 | e :: r => eExpr e :: eExprL r
end
theorem eExprL_map : ∀ l : List Expr, eExprL l = l.map eExpr
 | [] => by simp [eExprL]
 | e :: r => by simp [eExprL, eExprL_map r]
theorem eExpr_eq (e : Expr) : eExpr e = [eI e.op, eS e.name, eI e.k.n, eS e.k.p, eI e.w.n, eS e.w.p, .sl (e.args.map eExpr)] := by
 cases e; simp [eExpr, eExprL_map, Expr.op, Expr.name, Expr.k, Expr.w, Expr.args]
def eExprs (l : List Expr) : D := .sl (l.map eExpr)
def eItem (x : Item) : List D := eI x.kind.1 :: eS x.name :: (eNum x.width ++ (eNum x.depth ++ (eNum x.init ++ (eExpr x.a ++ (eExpr x.b ++ (eExpr x.c ++ (eRule x.rule ++ [eS x.of, eNums x.args, eBinds x.ports])))))))
def eItems (l : List Item) : D := .sl (l.map eItem)
def eModule (m : Module) : List D := [eS m.name, eS m.clock, eStrs m.params, eItems m.items]
def eModules (l : List Module) : D := .sl (l.map eModule)
/-- Regions walked with chains. -/
def chL (i : Nat) : List Gh := if 2000 ≤ i then [.chn] else []
set_option linter.defProp false
def KD := And.intro @str_eq (And.intro @chL.eq_1 (And.intro @eU8.eq_1 (And.intro @eI.eq_1 (And.intro @eB.eq_1 (And.intro @eS.eq_1 (And.intro @eNum.eq_1 (And.intro @eRule.eq_1 (And.intro @eBind.eq_1 (And.intro @eProb.eq_1 (And.intro @eStrs.eq_1 (And.intro @eInts.eq_1 (And.intro @eNums.eq_1 (And.intro @eBinds.eq_1 (And.intro @eProbs.eq_1 (And.intro @eBytes.eq_1 (And.intro @eExpr_eq (And.intro @eExprs.eq_1 (And.intro @eItem.eq_1 (And.intro @eItems.eq_1 (And.intro @eModule.eq_1 @eModules.eq_1))))))))))))))))))))
theorem zA.{u} {α : Sort u} (a : α) : (a = a) = True := eq_self a
theorem zB.{u} {α : Sort u} (a b : α) : (a ≠ b) = ¬(a = b) := ne_eq a b
theorem zC.{u} (α : Sort u) : (α → True) = True := implies_true α
theorem zD.{u} {b : Prop} (α : Sort u) [i : Nonempty α] : (α → b) ↔ b := forall_const α
theorem zF.{u} {α : Sort u} {i : Decidable True} (t e : α) : ite True t e = t := if_true t e
theorem zG.{u} {α : Sort u} {i : Decidable False} (t e : α) : ite False t e = e := if_false t e
theorem zH.{u} {α : Sort u} (a b : α) : cond true a b = a := rfl
theorem zI.{u} {α : Sort u} (a b : α) : cond false a b = b := rfl
theorem zJ.{u} {α : Sort u} {p : α → Prop} {c : α} : (∀ a, a = c → p a) ↔ p c := forall_eq
def ZZ := And.intro @zA.{1} (And.intro @zB.{1} (And.intro @zC.{0} (And.intro @zC.{1} (And.intro @zD.{0} (And.intro @zD.{1} (And.intro @zF.{1} (And.intro @zG.{1} (And.intro @zH.{1} (And.intro @zI.{1} @zJ.{1})))))))))
def ZY := And.intro GE (And.intro ZZ (And.intro @List.replicate.eq_1.{0} @List.replicate.eq_2.{0}))
def ZE := And.intro SE (And.intro SX (And.intro TF (And.intro KD ZY)))
def ZM := And.intro SE (And.intro SXm (And.intro TF (And.intro KD ZY)))
def zN := And.intro Nat.zero_add Int.natCast_one
end Go.Proofs.YtnnhfhodbfgfdaaGreat

namespace Go.Proofs.YtnnhfhodbfgfdaaGreat
open Go.Aw
set_option maxRecDepth 100000
set_option maxHeartbeats 1000000
theorem getD_map {α β : Type} {f : α → β} {l : List α} {i : Nat} (h : i < l.length) (d : β) : (l.map f).getD i d = f l[i] := by simp [List.getD, h]
theorem dec_lt {i n : Nat} (h : i < n) : decide ((i : Int) < (n : Int)) = true := by simp; omega
theorem dec_ge {i n : Nat} (h : n ≤ i) : decide ((i : Int) < (n : Int)) = false := by simp; omega
theorem lt_int {i n : Nat} (h : i < n) : (0 ≤ (i : Int) ∧ (i : Int) < (n : Int)) = True := by simp; omega
theorem wrap_id {x : Int} (h0 : -9223372036854775808 ≤ x) (h1 : x ≤ 9223372036854775807) : IntKind.i64.wrap x = x := by
 simp only [IntKind.wrap, IntKind.bits, IntKind.signed]
 simp
 omega
theorem wrap_succ {i : Nat} (h : i < 9223372036854775807) : IntKind.i64.wrap ((i : Int) + 1) = ((i + 1 : Nat) : Int) := by
 rw [wrap_id (by omega) (by omega)]; simp
theorem ok_len {es : List (List D)} (h : (D.sl es).ok) : es.length ≤ 9223372036854775807 := by
 simp only [D.ok] at h; have := h.1; unfold maxLen at this; omega
theorem okL_cons {x : D} {xs : List D} (h : D.okL (x :: xs)) : x.ok ∧ D.okL xs := by simpa only [D.okL] using h
theorem ok_map {α : Type} {f : α → List D} {l : List α} (h : (D.sl (l.map f)).ok) : l.length ≤ 9223372036854775807 ∧ ∀ x ∈ l, D.okL (f x) := by
 refine ⟨by simpa using ok_len h, fun x hx => ?_⟩
 simp only [D.ok] at h
 exact okLL_mem h.2 _ (List.mem_map.2 ⟨x, hx, rfl⟩)
def declares (k : Int) : Bool := decide (1 ≤ k) && decide (k ≤ 6) || k == 9
def arity (k : Int) : Int :=
 if (k == 1 || k == 14) = true then 0
 else if (k == 2 || k == 12 || k == 13 || k == 15) = true then 1
 else if (k == 10) = true then 3
 else if (decide (2 < k) && decide (k < 12)) = true then 2
 else -1
/-- The first place of an element. -/
def idx {α : Type} [DecidableEq α] (l : List α) (x : α) : Int := match l.findIdx? (fun y => decide (x = y)) with | some i => (i : Int) | none => -1
/-- Is it in the list? -/
def has {α : Type} [DecidableEq α] (l : List α) (x : α) : Bool := l.any fun y => decide (x = y)
end Go.Proofs.YtnnhfhodbfgfdaaGreat

namespace Go.Proofs.YtnnhfhodbfgfdaaGreat
open Go.Aw
set_option maxRecDepth 100000
set_option maxHeartbeats 1000000
/-- The byte at a place. -/
def byteAt (s : ByteArray) (i : Nat) : Nat := (s.data.getD i 0).toNat
def letterB (b : Nat) : Bool := decide ((97 : Int) ≤ b) && decide ((b : Int) ≤ 122)
def digitB (b : Nat) : Bool := decide ((48 : Int) ≤ b) && decide ((b : Int) ≤ 57)
def nameAt (s : ByteArray) (i : Nat) : Bool := letterB (byteAt s i) || (decide (i ≠ 0) && digitB (byteAt s i))
def isName (s : ByteArray) : Bool := !((s.size : Int) == 0 || decide ((s.size : Int) > 16)) && (List.range s.size).all (nameAt s)
end Go.Proofs.YtnnhfhodbfgfdaaGreat

namespace Go.Proofs.YtnnhfhodbfgfdaaGreat
open Go.Aw
set_option maxRecDepth 100000
set_option maxHeartbeats 1000000
open Classical in
open Classical in
def usesN (k : Int) : Nat := if k = 4 then 1 else if k = 5 then 1 else if k = 7 then 1 else if k = 8 then 2 else if k = 6 then 3 else 0
def uses (x : Item) : List Expr := [x.a, x.b, x.c].take (usesN x.kind.1)
end Go.Proofs.YtnnhfhodbfgfdaaGreat

namespace Go.Proofs.YtnnhfhodbfgfdaaGreat
open Go.Aw
set_option maxRecDepth 100000
set_option maxHeartbeats 1000000
mutual
def Expr.all : Expr → List Expr
 | .mk o n k w a => .mk o n k w a :: Expr.allL a
def Expr.allL : List Expr → List Expr
 | [] => []
 | e :: r => Expr.all e ++ Expr.allL r
end
theorem Expr.all_eq (e : Expr) : e.all = e :: Expr.allL e.args := by cases e; simp [Expr.all, Expr.args]
theorem allL_app : ∀ a b : List Expr, Expr.allL (a ++ b) = Expr.allL a ++ Expr.allL b
 | [], b => by simp [Expr.allL]
 | e :: a, b => by simp [Expr.allL, allL_app a b]
theorem allL_step (l : List Expr) (i : Nat) (h : i < l.length) : Expr.allL (l.take (i + 1)) = Expr.allL (l.take i) ++ (l[i] :: Expr.allL l[i].args) := by
 rw [List.take_succ_eq_append_getElem h, allL_app]
 simp [Expr.allL, Expr.all_eq]
theorem allL_pre (l : List Expr) (i : Nat) : Expr.allL (l.take i) <+: Expr.allL l := by
 conv => rhs; rw [← List.take_append_drop i l]
 rw [allL_app]
 exact List.prefix_append _ _
def eA (e : Expr) : List D := [.agg (eExpr e)]
end Go.Proofs.YtnnhfhodbfgfdaaGreat

namespace Go.Proofs.YtnnhfhodbfgfdaaGreat
open Go.Aw
set_option maxRecDepth 100000
set_option maxHeartbeats 1000000
def badE (e : Expr) : Bool := !(arity e.op == (e.args.length : Int))
def malformed (x : Item) : Bool := decide (x.kind.1 < 1) || decide (x.kind.1 > 9) || (Expr.allL (uses x)).any badE || ((x.kind.1 == 4 || x.kind.1 == 6) && (decide (x.rule.kind < 0) || decide (x.rule.kind > 3)))
end Go.Proofs.YtnnhfhodbfgfdaaGreat

namespace Go.Proofs.YtnnhfhodbfgfdaaGreat
open Go.Aw
set_option maxRecDepth 100000
set_option maxHeartbeats 1000000
/-- What a name stands for. -/
def get {α : Type} (l : List (Str × α)) (s : Str) : Option α := (l.find? fun p => decide (p.1 = s)).map (·.2)
def sK {α : Type} (l : List (Str × α)) : List D := l.map fun p => .lit (.string p.1.1)
def sV {α : Type} (f : α → D) (l : List (Str × α)) : List D := l.map fun p => f p.2
def sMp {α : Type} (f : α → D) (l : List (Str × α)) : D := .mp (sK l) (sV f l) (List.range l.length) l.length
/-- A set of names. -/
def tk (l : List Str) : List (Str × Bool) := l.map fun n => (n, true)
end Go.Proofs.YtnnhfhodbfgfdaaGreat

namespace Go.Proofs.YtnnhfhodbfgfdaaGreat
open Go.Aw
set_option maxRecDepth 100000
set_option maxHeartbeats 1000000
def emp : Str := ⟨ByteArray.empty, by decide⟩
def zNum : Num := ⟨0, emp⟩
def zExpr : Expr := .mk 0 emp zNum zNum []
def zItem : Item := ⟨⟨0, rfl⟩, emp, zNum, zNum, zNum, zExpr, zExpr, zExpr, ⟨0, emp, 0⟩, emp, [], []⟩
def zMod : Module := ⟨emp, emp, [], []⟩
def eIt (x : Item) : D := .agg (eItem x)
def firstStep (acc : List (Str × Item)) (x : Item) : List (Str × Item) := if (declares x.kind.1 && (get acc x.name).isNone) = true then acc ++ [(x.name, x)] else acc
def firsts (l : List Item) : List (Str × Item) := l.foldl firstStep []
def takenStep (acc : List Str) (x : Item) : List Str := if (x.kind.1 == 7 && !has acc x.name) = true then acc ++ [x.name] else acc
def takens (l : List Item) : List Str := l.foldl takenStep []
def eScope (m : Module) : List D := [eS m.name, eS m.clock, eStrs m.params, eItems m.items, sMp eIt (firsts m.items), sMp eB (tk (takens m.items))]
end Go.Proofs.YtnnhfhodbfgfdaaGreat

namespace Go.Proofs.YtnnhfhodbfgfdaaGreat
open Go.Aw
open Nat renaming reduceEqDiff → pE, reduceLT → pL, reduceAdd → pA, reduceSub → pS, reduceMul → pM, reduceLeDiff → pD
open Int renaming reduceToNat → qT, reduceGT → qG, reduceLT → qL, reduceGE → qH, reduceBNe → qN, reduceBEq → qB, reduceLE → qE, reduceNe → qO, reduceAdd → qA, reduceNeg → qM
set_option maxRecDepth 100000
set_option maxHeartbeats 1000000
/-- Short strings. -/
def st (s : List UInt8) (h : s.length ≤ 100 := by decide) : Str := ⟨⟨s.toArray⟩, by
 have : (⟨s.toArray⟩ : ByteArray).size = s.length := by simp [ByteArray.size]
 rw [this]; unfold maxLen; omega⟩
def byteL (l : List Nat) (i : Nat) : Nat := if l.length = 0 then 0 else l.getD (i % l.length) 0
theorem byteL_lt {l : List Nat} (h : ∀ b ∈ l, b < 256) (i : Nat) : byteL l i < 256 := by
 unfold byteL
 split
 ·omega
 ·have hl : i % l.length < l.length := Nat.mod_lt _ (by omega)
  have : l.getD (i % l.length) 0 = l[i % l.length] := by simp [List.getD, hl]
  rw [this]
  exact h _ (List.getElem_mem hl)
theorem at_c (l : List Nat) (i : Nat) (hb : ∀ b ∈ l, b < 256) (hi : i < 4611686018427387904) : FnP Tryz.prog 104 [eBytes l, eI i] (.d (eI (byteL l i))) [] := by
 refine FnP.of_eC (own := []) (fun _ => []) mixed Tryz.func104 rfl Tryz.call104 Tryz.ntmps104 (Nat.le_of_ble_eq_true rfl) Tryz.results104 (fun hok => ?_)
 have hl : l.length ≤ 9223372036854775807 := (ok_map (okL_cons hok).1).1
 by_cases h : l.length = 0
 ·have h' : ((l.length : Int) == 0) = true := by simpa using h
  simp (maxSteps := 4000000) only [ZE,↓reduceIte,pE,pL,pA,pS,pM,pD, h', zN,qT,qG,qL,qH,qN,qB,qE,qO,qA,qM, byteL, if_pos h]
 ·have h' : ((l.length : Int) == 0) = false := by simpa using h
  have ht : (i : Int).tmod (l.length : Int) = ((i % l.length : Nat) : Int) := (Int.ofNat_tmod i l.length).symm
  have hm : i % l.length < l.length := Nat.mod_lt _ (by omega)
  have hbl : byteL l i = l[i % l.length] := by rw [byteL, if_neg h]; simp [List.getD, hm]
  have hlt := hb _ (List.getElem_mem hm)
  have hw : IntKind.i64.wrap (l[i % l.length] : Int) = (l[i % l.length] : Int) := wrap_id (by omega) (by omega)
  have h0 : ¬ (l.length : Int) = 0 := by omega
  simp (maxSteps := 4000000) only [ZE,↓reduceIte,pE,pL,pA,pS,pM,pD, h', zN,qT,qG,qL,qH,qN,qB,qE,qO,qA,qM, ht, Int.toNat_natCast, getD_map hm, lt_int hm, hw, hbl, h0]
def leaf (l : List Nat) (ns : List Str) (w : Num) (a : Nat) : Expr :=
 if byteL l a % 2 = 0 then .mk 14 (ns.getD (byteL l a / 8 % ns.length) emp) zNum zNum [] else .mk 1 emp ⟨(byteL l a / 8 % 2 : Nat), emp⟩ w []
def condOf (x y : Expr) (b : Nat) : Expr :=
 if b % 4 = 0 then .mk 8 emp zNum zNum [x, y] else if b % 4 = 1 then .mk 9 emp zNum zNum [x, y] else if b % 4 = 2 then .mk 12 emp zNum ⟨1, emp⟩ [x] else .mk 1 emp ⟨1, emp⟩ ⟨1, emp⟩ []
def nodeOf (x y c : Expr) (b : Nat) : Expr :=
 if b / 8 % 7 = 0 then .mk 2 emp zNum zNum [x] else if b / 8 % 7 = 1 then .mk 3 emp zNum zNum [x, y] else if b / 8 % 7 = 2 then .mk 4 emp zNum zNum [x, y] else if b / 8 % 7 = 3 then .mk 5 emp zNum zNum [x, y]
 else if b / 8 % 7 = 4 then .mk 6 emp zNum zNum [x, y] else if b / 8 % 7 = 5 then .mk 7 emp zNum zNum [x, y] else .mk 10 emp zNum zNum [c, x, y]
/-- An expression that bytes say, of some depth. -/
def gen (l : List Nat) (ns : List Str) (w : Num) : Nat → Nat → Expr
 | 0, a => leaf l ns w a
 | d + 1, a => if byteL l a % 8 < 3 then leaf l ns w a else
  nodeOf (gen l ns w d (3 * a + 1)) (gen l ns w d (3 * a + 2)) (condOf (gen l ns w d (3 * a + 4)) (leaf l ns w (3 * a + 5)) (byteL l (3 * a + 3))) (byteL l a)
def cond (l : List Nat) (ns : List Str) (w : Num) (d a : Nat) : Expr := condOf (gen l ns w d (a + 1)) (leaf l ns w (a + 2)) (byteL l a)
def eCtx (ns : List Str) (w : Num) : D := .agg [eStrs ns, eI w.n, eS w.p]
def eAt (a d : Int) : D := .agg [eI a, eI d]
theorem gen0_c (l : List Nat) (ns : List Str) (w : Num) (hb : ∀ b ∈ l, b < 256) (hn : 0 < ns.length) (hn2 : ns.length ≤ 1000) (a : Nat) (ha : a ≤ 1000000) : FnP Tryz.prog 72 [eBytes l, eAt a 0, eCtx ns w] (.d (.agg (eExpr (gen l ns w 0 a)))) [] := by
 refine FnP.of_eC (own := []) (fun i => if i = 2004 then [.chn, .ord ⟨[(0, none), (1, none), (2, none), (3, none), (4, none), (5, none), (6, none), (7, none), (8, none), (9, none), (10, none), (11, some [])]⟩] else chL i) mixed Tryz.func72 rfl Tryz.call72 Tryz.ntmps72 (Nat.le_of_ble_eq_true rfl) Tryz.results72 (fun hok => ?_)
 have ac := at_c l a hb (by omega)
 have hB := byteL_lt hb a
 obtain ⟨b, hbb⟩ : ∃ b, byteL l a = b := ⟨_, rfl⟩
 rw [hbb] at ac hB
 simp only [ZE,↓reduceIte,pE,pL,pA,pS,pM,pD] at ac
 have hm : ((b : Int).tmod 2 == 0) = decide (b % 2 = 0) := by
  rw [show ((b : Int).tmod 2) = ((b % 2 : Nat) : Int) from (Int.ofNat_tmod b 2).symm, Bool.eq_iff_iff]; simp; omega
 have hq : (b : Int).tdiv 8 = ((b / 8 : Nat) : Int) := (Int.ofNat_tdiv b 8).symm
 have hwq : IntKind.i64.wrap ((b / 8 : Nat) : Int) = ((b / 8 : Nat) : Int) := wrap_id (by omega) (by omega)
 have hr : ((b / 8 : Nat) : Int).tmod (ns.length : Int) = ((b / 8 % ns.length : Nat) : Int) := (Int.ofNat_tmod _ _).symm
 have hr2 : ((b / 8 : Nat) : Int).tmod 2 = ((b / 8 % 2 : Nat) : Int) := (Int.ofNat_tmod _ _).symm
 have hlt : b / 8 % ns.length < ns.length := Nat.mod_lt _ hn
 have hgt : decide ((ns.length : Int) > 0) = true := by simp; omega
 have hne : ¬ (ns.length : Int) = 0 := by omega
 have hL : gen l ns w 0 a = leaf l ns w a := rfl
 rw [hL, leaf, hbb]
 simp (maxSteps := 4000000) only [ZE,↓reduceIte,pE,pL,pA,pS,pM,pD, eAt, eCtx, zN,qT,qG,qL,qH,qN,qB,qE,qO,qA,qM]
 refine EFn.p ?_
 simp only [ZE,↓reduceIte,pE,pL,pA,pS,pM,pD]
 refine ECall.i ac ?_
 by_cases he : b % 2 = 0
 ·have hg : ns.getD (b / 8 % ns.length) emp = ns[b / 8 % ns.length] := by simp [List.getD, hlt]
  rw [if_pos he, hg]
  simp only [ZE,↓reduceIte,pE,pL,pA,pS,pM,pD, zN,qT,qG,qL,qH,qN,qB,qE,qO,qA,qM, hm, he, decide_true, hgt, hq, hr, hne, hwq, lt_int hlt, getD_map hlt, Int.toNat_natCast, Expr.op, Expr.name, Expr.k, Expr.w, Expr.args, zNum, emp, Int.reduceEq, not_false_eq_true]
  show ordB _ _ _ = true
  kernel_rfl
 ·rw [if_neg he]
  simp only [ZE,↓reduceIte,pE,pL,pA,pS,pM,pD, zN,qT,qG,qL,qH,qN,qB,qE,qO,qA,qM, hm, he, decide_false, hgt, hq, hwq, hr2, Expr.op, Expr.name, Expr.k, Expr.w, Expr.args, zNum, emp, Int.reduceEq, not_false_eq_true]
theorem cond_c (l : List Nat) (ns : List Str) (w : Num) (hb : ∀ b ∈ l, b < 256) (d a : Nat) (ha : a ≤ 1000000)
  (i1 : FnP Tryz.prog 72 [eBytes l, eAt ((a + 1 : Nat) : Int) d, eCtx ns w] (.d (.agg (eExpr (gen l ns w d (a + 1))))) [])
  (i2 : FnP Tryz.prog 72 [eBytes l, eAt ((a + 2 : Nat) : Int) 0, eCtx ns w] (.d (.agg (eExpr (gen l ns w 0 (a + 2))))) []) :
  FnP Tryz.prog 106 [eBytes l, eAt a d, eCtx ns w] (.d (.agg (eExpr (cond l ns w d a)))) [] := by
 refine FnP.of_eC (own := []) (fun i => if i = 2001 then [.flt ⟨[(0, none), (1, none), (2, none), (3, none), (4, none), (5, none), (6, none), (7, none), (8, none), (9, none), (10, none), (11, none), (12, none), (13, none), (14, none), (15, none), (18, some []), (19, some [])]⟩ ⟨[16, 17], [(18, [16]), (19, [17])]⟩] else chL i) mixed Tryz.func106 rfl Tryz.call106 Tryz.ntmps106 (Nat.le_of_ble_eq_true rfl) Tryz.results106 (fun hok => ?_)
 have ac := at_c l a hb (by omega)
 have hB := byteL_lt hb a
 obtain ⟨b, hbb⟩ : ∃ b, byteL l a = b := ⟨_, rfl⟩
 rw [hbb] at ac hB
 obtain ⟨x, hx⟩ : ∃ x, gen l ns w d (a + 1) = x := ⟨_, rfl⟩
 obtain ⟨y, hy⟩ : ∃ y, leaf l ns w (a + 2) = y := ⟨_, rfl⟩
 have hy' : gen l ns w 0 (a + 2) = y := hy
 rw [cond, hbb, hx, hy]
 rw [hx] at i1
 rw [hy'] at i2
 have w1 : IntKind.i64.wrap ((a : Int) + 1) = ((a + 1 : Nat) : Int) := by rw [← Int.natCast_succ]; exact wrap_id (by omega) (by omega)
 have w2 : IntKind.i64.wrap ((a : Int) + 2) = ((a + 2 : Nat) : Int) := wrap_id (by omega) (by omega)
 have hm : (b : Int).tmod 4 = ((b % 4 : Nat) : Int) := (Int.ofNat_tmod b 4).symm
 simp only [ZE,↓reduceIte,pE,pL,pA,pS,pM,pD, eAt, eCtx] at ac i1 i2
 simp (maxSteps := 4000000) only [ZE,↓reduceIte,pE,pL,pA,pS,pM,pD, eAt, eCtx, zN,qT,qG,qL,qH,qN,qB,qE,qO,qA,qM, w1, w2]
 refine ⟨by kernel_rfl, ECall'.i i1 ?_⟩
 simp (maxSteps := 4000000) only [ZE,↓reduceIte,pE,pL,pA,pS,pM,pD, eAt, eCtx, zN,qT,qG,qL,qH,qN,qB,qE,qO,qA,qM, w1, w2]
 refine ECall'.i i2 ?_
 simp (maxSteps := 4000000) only [ZE,↓reduceIte,pE,pL,pA,pS,pM,pD, eAt, eCtx, zN,qT,qG,qL,qH,qN,qB,qE,qO,qA,qM, w1, w2]
 refine EFn.p ?_
 simp only [ZE,↓reduceIte,pE,pL,pA,pS,pM,pD]
 refine ECall.i ac ?_
 by_cases b0 : b % 4 = 0
 ·have h0 : (((b % 4 : Nat) : Int) == 0) = true := by simp [b0]
  rw [condOf, if_pos b0]
  simp only [ZE,↓reduceIte,pE,pL,pA,pS,pM,pD, zN,qT,qG,qL,qH,qN,qB,qE,qO,qA,qM, hm, h0, Expr.op, Expr.name, Expr.k, Expr.w, Expr.args, zNum, emp, Int.reduceEq, not_false_eq_true]
 have h0 : (((b % 4 : Nat) : Int) == 0) = false := by simp; omega
 by_cases b1 : b % 4 = 1
 ·have h1 : (((b % 4 : Nat) : Int) == 1) = true := by simp [b1]
  rw [condOf, if_neg b0, if_pos b1]
  simp only [ZE,↓reduceIte,pE,pL,pA,pS,pM,pD, zN,qT,qG,qL,qH,qN,qB,qE,qO,qA,qM, hm, h0, h1, Expr.op, Expr.name, Expr.k, Expr.w, Expr.args, zNum, emp, Int.reduceEq, not_false_eq_true]
 have h1 : (((b % 4 : Nat) : Int) == 1) = false := by simp; omega
 by_cases b2 : b % 4 = 2
 ·have h2 : (((b % 4 : Nat) : Int) == 2) = true := by simp [b2]
  rw [condOf, if_neg b0, if_neg b1, if_pos b2]
  simp only [ZE,↓reduceIte,pE,pL,pA,pS,pM,pD, zN,qT,qG,qL,qH,qN,qB,qE,qO,qA,qM, hm, h0, h1, h2, Expr.op, Expr.name, Expr.k, Expr.w, Expr.args, zNum, emp, Int.reduceEq, not_false_eq_true]
 have h2 : (((b % 4 : Nat) : Int) == 2) = false := by simp; omega
 rw [condOf, if_neg b0, if_neg b1, if_neg b2]
 simp only [ZE,↓reduceIte,pE,pL,pA,pS,pM,pD, zN,qT,qG,qL,qH,qN,qB,qE,qO,qA,qM, hm, h0, h1, h2, Expr.op, Expr.name, Expr.k, Expr.w, Expr.args, zNum, emp, Int.reduceEq, not_false_eq_true]
theorem genS_c (l : List Nat) (ns : List Str) (w : Num) (hb : ∀ b ∈ l, b < 256) (hn : 0 < ns.length) (hn2 : ns.length ≤ 1000) (d a : Nat) (hd : d ≤ 100) (ha : a ≤ 100000)
  (i1 : FnP Tryz.prog 72 [eBytes l, eAt ((3 * a + 1 : Nat) : Int) d, eCtx ns w] (.d (.agg (eExpr (gen l ns w d (3 * a + 1))))) [])
  (i2 : FnP Tryz.prog 72 [eBytes l, eAt ((3 * a + 2 : Nat) : Int) d, eCtx ns w] (.d (.agg (eExpr (gen l ns w d (3 * a + 2))))) [])
  (i3 : FnP Tryz.prog 106 [eBytes l, eAt ((3 * a + 3 : Nat) : Int) d, eCtx ns w] (.d (.agg (eExpr (cond l ns w d (3 * a + 3))))) []) :
  FnP Tryz.prog 72 [eBytes l, eAt a ((d + 1 : Nat) : Int), eCtx ns w] (.d (.agg (eExpr (gen l ns w (d + 1) a)))) [] := by
 refine FnP.of_eC (own := []) (fun i => if i = 2004 then [.chn, .ord ⟨[(0, none), (1, none), (2, none), (3, none), (4, none), (5, none), (6, none), (7, none), (8, none), (9, none), (10, none), (11, some [])]⟩] else if i = 2021 then [.ord ⟨[(0, none), (1, none), (2, none), (3, none), (4, none), (5, none), (6, none), (7, none), (8, none), (9, none), (10, none), (11, none), (12, none), (13, none), (14, none), (15, some [])]⟩] else chL i) mixed Tryz.func72 rfl Tryz.call72 Tryz.ntmps72 (Nat.le_of_ble_eq_true rfl) Tryz.results72 (fun hok => ?_)
 have ac := at_c l a hb (by omega)
 have hB := byteL_lt hb a
 have hgen : gen l ns w (d + 1) a = if byteL l a % 8 < 3 then leaf l ns w a else nodeOf (gen l ns w d (3 * a + 1)) (gen l ns w d (3 * a + 2)) (cond l ns w d (3 * a + 3)) (byteL l a) := rfl
 obtain ⟨b, hbb⟩ : ∃ b, byteL l a = b := ⟨_, rfl⟩
 obtain ⟨x, hx⟩ : ∃ x, gen l ns w d (3 * a + 1) = x := ⟨_, rfl⟩
 obtain ⟨y, hy⟩ : ∃ y, gen l ns w d (3 * a + 2) = y := ⟨_, rfl⟩
 obtain ⟨z, hz⟩ : ∃ z, cond l ns w d (3 * a + 3) = z := ⟨_, rfl⟩
 rw [hx, hy, hz, hbb] at hgen
 rw [hgen]
 rw [hx] at i1
 rw [hy] at i2
 rw [hz] at i3
 rw [hbb] at ac hB
 have hm : ((b : Int).tmod 2 == 0) = decide (b % 2 = 0) := by
  rw [show ((b : Int).tmod 2) = ((b % 2 : Nat) : Int) from (Int.ofNat_tmod b 2).symm, Bool.eq_iff_iff]; simp; omega
 have hm8 : decide ((b : Int).tmod 8 < 3) = decide (b % 8 < 3) := by
  rw [show ((b : Int).tmod 8) = ((b % 8 : Nat) : Int) from (Int.ofNat_tmod b 8).symm, Bool.eq_iff_iff]; simp; omega
 have hq : (b : Int).tdiv 8 = ((b / 8 : Nat) : Int) := (Int.ofNat_tdiv b 8).symm
 have hwq : IntKind.i64.wrap ((b / 8 : Nat) : Int) = ((b / 8 : Nat) : Int) := wrap_id (by omega) (by omega)
 have hr : ((b / 8 : Nat) : Int).tmod (ns.length : Int) = ((b / 8 % ns.length : Nat) : Int) := (Int.ofNat_tmod _ _).symm
 have hr2 : ((b / 8 : Nat) : Int).tmod 2 = ((b / 8 % 2 : Nat) : Int) := (Int.ofNat_tmod _ _).symm
 have hr7 : ((b / 8 : Nat) : Int).tmod 7 = ((b / 8 % 7 : Nat) : Int) := (Int.ofNat_tmod _ _).symm
 have hlt : b / 8 % ns.length < ns.length := Nat.mod_lt _ hn
 have hgt : decide ((ns.length : Int) > 0) = true := by simp; omega
 have hne : ¬ (ns.length : Int) = 0 := by omega
 have w3 : IntKind.i64.wrap (3 * (a : Int)) = ((3 * a : Nat) : Int) := wrap_id (by omega) (by omega)
 have w1 : IntKind.i64.wrap (((3 * a : Nat) : Int) + 1) = ((3 * a + 1 : Nat) : Int) := wrap_id (by omega) (by omega)
 have w2 : IntKind.i64.wrap (((3 * a : Nat) : Int) + 2) = ((3 * a + 2 : Nat) : Int) := wrap_id (by omega) (by omega)
 have w4 : IntKind.i64.wrap (((3 * a : Nat) : Int) + 3) = ((3 * a + 3 : Nat) : Int) := wrap_id (by omega) (by omega)
 have wd : IntKind.i64.wrap (((d + 1 : Nat) : Int) - 1) = (d : Int) := by rw [show ((d + 1 : Nat) : Int) - 1 = (d : Int) by omega]; exact wrap_id (by omega) (by omega)
 have hd0 : (((d + 1 : Nat) : Int) == 0) = false := by simp; omega
 simp only [ZE,↓reduceIte,pE,pL,pA,pS,pM,pD, eAt, eCtx] at ac i1 i2 i3
 simp (maxSteps := 4000000) only [ZE,↓reduceIte,pE,pL,pA,pS,pM,pD, eAt, eCtx, zN,qT,qG,qL,qH,qN,qB,qE,qO,qA,qM]
 refine EFn.p ?_
 simp only [ZE,↓reduceIte,pE,pL,pA,pS,pM,pD]
 refine ECall.i ac ?_
 by_cases h8 : b % 8 < 3
 ·rw [if_pos h8, leaf, hbb]
  by_cases he : b % 2 = 0
  ·have hg : ns.getD (b / 8 % ns.length) emp = ns[b / 8 % ns.length] := by simp [List.getD, hlt]
   rw [if_pos he, hg]
   simp only [ZE,↓reduceIte,pE,pL,pA,pS,pM,pD, zN,qT,qG,qL,qH,qN,qB,qE,qO,qA,qM, hd0, hm8, h8, hm, he, decide_true, hgt, hq, hr, hne, hwq, lt_int hlt, getD_map hlt, Int.toNat_natCast, Expr.op, Expr.name, Expr.k, Expr.w, Expr.args, zNum, emp, Int.reduceEq, not_false_eq_true]
   show ordB _ _ _ = true
   kernel_rfl
  ·rw [if_neg he]
   simp only [ZE,↓reduceIte,pE,pL,pA,pS,pM,pD, zN,qT,qG,qL,qH,qN,qB,qE,qO,qA,qM, hd0, hm8, h8, hm, he, decide_true, decide_false, hgt, hq, hwq, hr2, Expr.op, Expr.name, Expr.k, Expr.w, Expr.args, zNum, emp, Int.reduceEq, not_false_eq_true]
 ·rw [if_neg h8]
  simp only [ZE,↓reduceIte,pE,pL,pA,pS,pM,pD, zN,qT,qG,qL,qH,qN,qB,qE,qO,qA,qM, hd0, hm8, h8, decide_false, w3, w1, wd, Int.reduceEq, not_false_eq_true]
  refine EFn.p ?_
  simp only [ZE,↓reduceIte,pE,pL,pA,pS,pM,pD]
  refine ECall.i i1 ?_
  simp only [ZE,↓reduceIte,pE,pL,pA,pS,pM,pD, zN,qT,qG,qL,qH,qN,qB,qE,qO,qA,qM, w3, w2, wd]
  refine EFn.p ?_
  simp only [ZE,↓reduceIte,pE,pL,pA,pS,pM,pD]
  refine ECall.i i2 ?_
  rw [nodeOf]
  by_cases e0 : b / 8 % 7 = 0
  ·have h0 : (((b / 8 % 7 : Nat) : Int) == 0) = true := by simp [e0]
   rw [if_pos e0]
   simp only [ZE,↓reduceIte,pE,pL,pA,pS,pM,pD, zN,qT,qG,qL,qH,qN,qB,qE,qO,qA,qM, hq, hwq, hr7, hm, h0, Expr.op, Expr.name, Expr.k, Expr.w, Expr.args, zNum, emp, Int.reduceEq, not_false_eq_true]
  have h0 : (((b / 8 % 7 : Nat) : Int) == 0) = false := by simp; omega
  rw [if_neg e0]
  by_cases e1 : b / 8 % 7 = 1
  ·have h1 : (((b / 8 % 7 : Nat) : Int) == 1) = true := by simp [e1]
   rw [if_pos e1]
   simp only [ZE,↓reduceIte,pE,pL,pA,pS,pM,pD, zN,qT,qG,qL,qH,qN,qB,qE,qO,qA,qM, hq, hwq, hr7, h0, h1, Expr.op, Expr.name, Expr.k, Expr.w, Expr.args, zNum, emp, Int.reduceEq, not_false_eq_true]
  have h1 : (((b / 8 % 7 : Nat) : Int) == 1) = false := by simp; omega
  rw [if_neg e1]
  by_cases e2 : b / 8 % 7 = 2
  ·have h2 : (((b / 8 % 7 : Nat) : Int) == 2) = true := by simp [e2]
   rw [if_pos e2]
   simp only [ZE,↓reduceIte,pE,pL,pA,pS,pM,pD, zN,qT,qG,qL,qH,qN,qB,qE,qO,qA,qM, hq, hwq, hr7, h0, h1, h2, Expr.op, Expr.name, Expr.k, Expr.w, Expr.args, zNum, emp, Int.reduceEq, not_false_eq_true]
  have h2 : (((b / 8 % 7 : Nat) : Int) == 2) = false := by simp; omega
  rw [if_neg e2]
  by_cases e3 : b / 8 % 7 = 3
  ·have h3 : (((b / 8 % 7 : Nat) : Int) == 3) = true := by simp [e3]
   rw [if_pos e3]
   simp only [ZE,↓reduceIte,pE,pL,pA,pS,pM,pD, zN,qT,qG,qL,qH,qN,qB,qE,qO,qA,qM, hq, hwq, hr7, h0, h1, h2, h3, Expr.op, Expr.name, Expr.k, Expr.w, Expr.args, zNum, emp, Int.reduceEq, not_false_eq_true]
  have h3 : (((b / 8 % 7 : Nat) : Int) == 3) = false := by simp; omega
  rw [if_neg e3]
  by_cases e4 : b / 8 % 7 = 4
  ·have h4 : (((b / 8 % 7 : Nat) : Int) == 4) = true := by simp [e4]
   rw [if_pos e4]
   simp only [ZE,↓reduceIte,pE,pL,pA,pS,pM,pD, zN,qT,qG,qL,qH,qN,qB,qE,qO,qA,qM, hq, hwq, hr7, h0, h1, h2, h3, h4, Expr.op, Expr.name, Expr.k, Expr.w, Expr.args, zNum, emp, Int.reduceEq, not_false_eq_true]
  have h4 : (((b / 8 % 7 : Nat) : Int) == 4) = false := by simp; omega
  rw [if_neg e4]
  by_cases e5 : b / 8 % 7 = 5
  ·have h5 : (((b / 8 % 7 : Nat) : Int) == 5) = true := by simp [e5]
   rw [if_pos e5]
   simp only [ZE,↓reduceIte,pE,pL,pA,pS,pM,pD, zN,qT,qG,qL,qH,qN,qB,qE,qO,qA,qM, hq, hwq, hr7, h0, h1, h2, h3, h4, h5, Expr.op, Expr.name, Expr.k, Expr.w, Expr.args, zNum, emp, Int.reduceEq, not_false_eq_true]
  have h5 : (((b / 8 % 7 : Nat) : Int) == 5) = false := by simp; omega
  rw [if_neg e5]
  simp only [ZE,↓reduceIte,pE,pL,pA,pS,pM,pD, zN,qT,qG,qL,qH,qN,qB,qE,qO,qA,qM, hq, hwq, hr7, h0, h1, h2, h3, h4, h5, w3, w4, wd, Expr.op, Expr.name, Expr.k, Expr.w, Expr.args, zNum, emp, Int.reduceEq, not_false_eq_true]
  refine ⟨by kernel_rfl, ECall'.i i3 ?_⟩
  simp only [ZE,↓reduceIte,pE,pL,pA,pS,pM,pD, zN,qT,qG,qL,qH,qN,qB,qE,qO,qA,qM, Expr.op, Expr.name, Expr.k, Expr.w, Expr.args, zNum, emp, Int.reduceEq, not_false_eq_true]
/-- Expressions of depth 1 and conditions. -/
theorem gen1_c (l : List Nat) (ns : List Str) (w : Num) (hb : ∀ b ∈ l, b < 256) (hn : 0 < ns.length) (hn2 : ns.length ≤ 1000) (a : Nat) (ha : a ≤ 10000) : FnP Tryz.prog 72 [eBytes l, eAt a 1, eCtx ns w] (.d (.agg (eExpr (gen l ns w 1 a)))) [] :=
 genS_c l ns w hb hn hn2 0 a (by omega) (by omega) (gen0_c l ns w hb hn hn2 _ (by omega)) (gen0_c l ns w hb hn hn2 _ (by omega)) (cond_c l ns w hb 0 _ (by omega) (gen0_c l ns w hb hn hn2 _ (by omega)) (gen0_c l ns w hb hn hn2 _ (by omega)))
theorem cond1_c (l : List Nat) (ns : List Str) (w : Num) (hb : ∀ b ∈ l, b < 256) (hn : 0 < ns.length) (hn2 : ns.length ≤ 1000) (a : Nat) (ha : a ≤ 1000) : FnP Tryz.prog 71 [eBytes l, eI a, eCtx ns w] (.d (.agg (eExpr (cond l ns w 1 a)))) [] := by
 refine FnP.of_eC (own := []) (fun _ => []) mixed Tryz.func71 rfl Tryz.call71 Tryz.ntmps71 (Nat.le_of_ble_eq_true rfl) Tryz.results71 (fun hok => ?_)
 have cc := cond_c l ns w hb 1 a (by omega) (gen1_c l ns w hb hn hn2 _ (by omega)) (gen0_c l ns w hb hn hn2 _ (by omega))
 simp only [ZE,↓reduceIte,pE,pL,pA,pS,pM,pD, eAt, eCtx, Int.natCast_one] at cc
 simp (maxSteps := 4000000) only [ZE,↓reduceIte,pE,pL,pA,pS,pM,pD, eCtx]
 refine EFn.p ?_
 simp only [ZE,↓reduceIte,pE,pL,pA,pS,pM,pD]
 refine ECall.i cc ?_
 simp only [ZE,↓reduceIte,pE,pL,pA,pS,pM,pD]
end Go.Proofs.YtnnhfhodbfgfdaaGreat

namespace Go.Proofs.YtnnhfhodbfgfdaaGreat
open Go.Aw
open Nat renaming reduceEqDiff → pE, reduceLT → pL, reduceAdd → pA, reduceSub → pS, reduceMul → pM, reduceLeDiff → pD
open Int renaming reduceToNat → qT, reduceGT → qG, reduceLT → qL, reduceGE → qH, reduceBNe → qN, reduceBEq → qB, reduceLE → qE, reduceNe → qO, reduceAdd → qA, reduceNeg → qM
set_option maxRecDepth 100000
set_option maxHeartbeats 4000000
def sA : Str := st [97]
def sB : Str := st [98]
def sC : Str := st [99]
def sD : Str := st [100]
def sM : Str := st [109]
def sR : Str := st [114]
def sS : Str := st [115]
def sT : Str := st [116]
def sU : Str := st [117]
def sVV : Str := st [118]
def sW : Str := st [119]
def sX : Str := st [120]
def sY : Str := st [121]
def sAux : Str := st [97, 117, 120]
def sClk : Str := st [99, 108, 107]
def sCell : Str := st [99, 101, 108, 108]
def sTop : Str := st [116, 111, 112]
def ruleOf (b : Nat) : Rule := if b % 6 = 0 then ⟨0, emp, 0⟩ else if b % 6 = 1 then ⟨2, sR, 0⟩ else if b % 6 = 2 then ⟨3, sS, (b / 6 % 3 : Nat)⟩ else ⟨1, emp, 0⟩
theorem rule_c (b : Nat) (hb : b < 256) : FnP Tryz.prog 105 [eI b] (.d (.agg (eRule (ruleOf b)))) [] := by
 refine FnP.of_eC (own := []) (fun _ => []) mixed Tryz.func105 rfl Tryz.call105 Tryz.ntmps105 (Nat.le_of_ble_eq_true rfl) Tryz.results105 (fun hok => ?_)
 have hm : (b : Int).tmod 6 = ((b % 6 : Nat) : Int) := (Int.ofNat_tmod b 6).symm
 have hq : (b : Int).tdiv 6 = ((b / 6 : Nat) : Int) := (Int.ofNat_tdiv b 6).symm
 have hwq : IntKind.i64.wrap ((b / 6 : Nat) : Int) = ((b / 6 : Nat) : Int) := wrap_id (by omega) (by omega)
 have hr : ((b / 6 : Nat) : Int).tmod 3 = ((b / 6 % 3 : Nat) : Int) := (Int.ofNat_tmod _ _).symm
 by_cases b0 : b % 6 = 0
 ·have h0 : (((b % 6 : Nat) : Int) == 0) = true := by simp [b0]
  rw [ruleOf, if_pos b0]
  simp (maxSteps := 4000000) only [ZE,↓reduceIte,pE,pL,pA,pS,pM,pD, zN,qT,qG,qL,qH,qN,qB,qE,qO,qA,qM, hm, h0, Expr.op, Expr.name, Expr.k, Expr.w, Expr.args, zNum, emp, Int.reduceEq, not_false_eq_true]
 have h0 : (((b % 6 : Nat) : Int) == 0) = false := by simp; omega
 by_cases b1 : b % 6 = 1
 ·have h1 : (((b % 6 : Nat) : Int) == 1) = true := by simp [b1]
  rw [ruleOf, if_neg b0, if_pos b1]
  simp (maxSteps := 4000000) only [ZE,↓reduceIte,pE,pL,pA,pS,pM,pD, zN,qT,qG,qL,qH,qN,qB,qE,qO,qA,qM, hm, h0, h1, Expr.op, Expr.name, Expr.k, Expr.w, Expr.args, zNum, emp, Int.reduceEq, not_false_eq_true, sR, st]
 have h1 : (((b % 6 : Nat) : Int) == 1) = false := by simp; omega
 by_cases b2 : b % 6 = 2
 ·have h2 : (((b % 6 : Nat) : Int) == 2) = true := by simp [b2]
  rw [ruleOf, if_neg b0, if_neg b1, if_pos b2]
  simp (maxSteps := 4000000) only [ZE,↓reduceIte,pE,pL,pA,pS,pM,pD, zN,qT,qG,qL,qH,qN,qB,qE,qO,qA,qM, hm, h0, h1, h2, hq, hwq, hr, Expr.op, Expr.name, Expr.k, Expr.w, Expr.args, zNum, emp, Int.reduceEq, not_false_eq_true, sS, st]
 have h2 : (((b % 6 : Nat) : Int) == 2) = false := by simp; omega
 rw [ruleOf, if_neg b0, if_neg b1, if_neg b2]
 simp (maxSteps := 4000000) only [ZE,↓reduceIte,pE,pL,pA,pS,pM,pD, zN,qT,qG,qL,qH,qN,qB,qE,qO,qA,qM, hm, h0, h1, h2, Expr.op, Expr.name, Expr.k, Expr.w, Expr.args, zNum, emp, Int.reduceEq, not_false_eq_true]
def clockOf (b : Nat) : Str := if b % 3 = 0 then sAux else sClk
theorem clock_c (b : Nat) : FnP Tryz.prog 68 [eI b] (.d (eS (clockOf b))) [] := by
 refine FnP.of_eC (own := []) (fun _ => []) mixed Tryz.func68 rfl Tryz.call68 Tryz.ntmps68 (Nat.le_of_ble_eq_true rfl) Tryz.results68 (fun hok => ?_)
 have hm : (b : Int).tmod 3 = ((b % 3 : Nat) : Int) := (Int.ofNat_tmod b 3).symm
 by_cases b0 : b % 3 = 0
 ·have h0 : (((b % 3 : Nat) : Int) == 0) = true := by simp [b0]
  rw [clockOf, if_pos b0]
  simp (maxSteps := 4000000) only [ZE,↓reduceIte,pE,pL,pA,pS,pM,pD, zN,qT,qG,qL,qH,qN,qB,qE,qO,qA,qM, hm, h0, Expr.op, Expr.name, Expr.k, Expr.w, Expr.args, zNum, emp, Int.reduceEq, not_false_eq_true, sAux, st]
 have h0 : (((b % 3 : Nat) : Int) == 0) = false := by simp; omega
 rw [clockOf, if_neg b0]
 simp (maxSteps := 4000000) only [ZE,↓reduceIte,pE,pL,pA,pS,pM,pD, zN,qT,qG,qL,qH,qN,qB,qE,qO,qA,qM, hm, h0, Expr.op, Expr.name, Expr.k, Expr.w, Expr.args, zNum, emp, Int.reduceEq, not_false_eq_true, sClk, st]
def regI (name : Str) (l : List Nat) (a : Nat) (ns : List Str) (w : Num) : Item := { zItem with kind := ⟨4, rfl⟩, name := name, width := w, init := ⟨(byteL l a % 2 : Nat), emp⟩, a := gen l ns w 1 a, rule := ruleOf (byteL l (a + 1)) }
theorem reg_c (name : Str) (l : List Nat) (ns : List Str) (w : Num) (hb : ∀ b ∈ l, b < 256) (hn : 0 < ns.length) (hn2 : ns.length ≤ 1000) (a : Nat) (ha : a ≤ 1000) : FnP Tryz.prog 103 [eS name, eBytes l, eI a, eCtx ns w] (.d (.agg (eItem (regI name l a ns w)))) [] := by
 refine FnP.of_eC (own := []) (fun i => if i = 2001 then [.ord ⟨[(0, none), (1, none), (2, none), (3, none), (4, none), (5, none), (6, none), (7, none), (8, none), (9, none), (10, none), (11, none), (12, none), (13, none), (14, none), (15, none), (16, none), (17, none), (18, none), (19, some [])]⟩] else []) mixed Tryz.func103 rfl Tryz.call103 Tryz.ntmps103 (Nat.le_of_ble_eq_true rfl) Tryz.results103 (fun hok => ?_)
 have a1 := at_c l a hb (by omega)
 have a2 := at_c l (a + 1) hb (by omega)
 have g1 := gen1_c l ns w hb hn hn2 a (by omega)
 have r1 := rule_c (byteL l (a + 1)) (byteL_lt hb _)
 have w1 : IntKind.i64.wrap ((a : Int) + 1) = ((a + 1 : Nat) : Int) := wrap_id (by omega) (by omega)
 have hm : (byteL l a : Int).tmod 2 = ((byteL l a % 2 : Nat) : Int) := (Int.ofNat_tmod _ 2).symm
 simp only [ZE,↓reduceIte,pE,pL,pA,pS,pM,pD, eAt, eCtx] at a1 a2 g1 r1
 simp (maxSteps := 4000000) only [ZE,↓reduceIte,pE,pL,pA,pS,pM,pD, eCtx, zN,qT,qG,qL,qH,qN,qB,qE,qO,qA,qM, Int.reduceEq, not_false_eq_true]
 refine ⟨by kernel_rfl, ECall'.i a1 ?_⟩
 simp only [ZE,↓reduceIte,pE,pL,pA,pS,pM,pD, zN,qT,qG,qL,qH,qN,qB,qE,qO,qA,qM, Int.reduceEq, not_false_eq_true, true_and]
 refine ECall'.i g1 ?_
 simp only [ZE,↓reduceIte,pE,pL,pA,pS,pM,pD, zN,qT,qG,qL,qH,qN,qB,qE,qO,qA,qM, w1]
 refine ECall'.i a2 ?_
 simp only [ZE,↓reduceIte,pE,pL,pA,pS,pM,pD, zN,qT,qG,qL,qH,qN,qB,qE,qO,qA,qM]
 refine ECall'.i r1 ?_
 simp only [ZE,↓reduceIte,pE,pL,pA,pS,pM,pD, zN,qT,qG,qL,qH,qN,qB,qE,qO,qA,qM, hm, regI, zItem, zExpr, Expr.op, Expr.name, Expr.k, Expr.w, Expr.args, zNum, emp, Int.reduceEq, not_false_eq_true]
def instI (name : Str) (w : Num) (c0 c1 : Str) : Item := { zItem with kind := ⟨9, rfl⟩, name := name, of := sCell, args := [w], ports := [⟨sX, c0⟩, ⟨sY, c1⟩] }
def ePair (a b : Str) : D := .agg [eS a, eS b]
theorem inst_c (name : Str) (w : Num) (c0 c1 : Str) : FnP Tryz.prog 70 [eS name, .agg (eNum w), ePair c0 c1] (.d (.agg (eItem (instI name w c0 c1)))) [] := by
 refine FnP.of_eC (own := []) chL mixed Tryz.func70 rfl Tryz.call70 Tryz.ntmps70 (Nat.le_of_ble_eq_true rfl) Tryz.results70 (fun hok => ?_)
 simp (maxSteps := 4000000) only [ZE,↓reduceIte,pE,pL,pA,pS,pM,pD, ePair, zN,qT,qG,qL,qH,qN,qB,qE,qO,qA,qM, instI, zItem, zExpr, Expr.op, Expr.name, Expr.k, Expr.w, Expr.args, zNum, emp, Int.reduceEq, not_false_eq_true, sX, sY, sCell, st]
end Go.Proofs.YtnnhfhodbfgfdaaGreat

namespace Go.Proofs.YtnnhfhodbfgfdaaGreat
open Go.Aw
open Nat renaming reduceEqDiff → pE, reduceLT → pL, reduceAdd → pA, reduceSub → pS, reduceMul → pM, reduceLeDiff → pD
open Int renaming reduceToNat → qT, reduceGT → qG, reduceLT → qL, reduceGE → qH, reduceBNe → qN, reduceBEq → qB, reduceLE → qE, reduceNe → qO, reduceAdd → qA, reduceNeg → qM
set_option maxRecDepth 100000
set_option maxHeartbeats 8000000
theorem op_mk (o : Int) (n : Str) (k w : Num) (a : List Expr) : (Expr.mk o n k w a).op = o := rfl
theorem name_mk (o : Int) (n : Str) (k w : Num) (a : List Expr) : (Expr.mk o n k w a).name = n := rfl
theorem k_mk (o : Int) (n : Str) (k w : Num) (a : List Expr) : (Expr.mk o n k w a).k = k := rfl
theorem w_mk (o : Int) (n : Str) (k w : Num) (a : List Expr) : (Expr.mk o n k w a).w = w := rfl
theorem args_mk (o : Int) (n : Str) (k w : Num) (a : List Expr) : (Expr.mk o n k w a).args = a := rfl
def portI (kind : I64) (name : Str) (w : Num) : Item := { zItem with kind := kind, name := name, width := w }
def wireI (name : Str) (w : Num) (e : Expr) : Item := { zItem with kind := ⟨5, rfl⟩, name := name, width := w, a := e }
def takeI (name : Str) (e : Expr) : Item := { zItem with kind := ⟨7, rfl⟩, name := name, a := e }
def putI (name : Str) (e x : Expr) : Item := { zItem with kind := ⟨8, rfl⟩, name := name, a := e, b := x }
def wN : Num := ⟨0, sW⟩
def cellM (l : List Nat) : Module := ⟨sCell, clockOf (byteL l 5), [sW], [portI ⟨1, rfl⟩ sX wN, portI ⟨2, rfl⟩ sY wN, regI sR l 7 [sR, sX] wN, wireI sT wN (gen l [sR] wN 1 9), takeI sX (cond l [sR, sT] wN 1 11), putI sY (cond l [sR, sX, sT] wN 1 13) (gen l [sR, sX, sT] wN 1 15)]⟩
theorem cell_c (l : List Nat) (hb : ∀ b ∈ l, b < 256) : FnP Tryz.prog 73 [eBytes l] (.d (.agg (eModule (cellM l)))) [] := by
 refine FnP.of_eC (own := []) (fun i => if i = 2002 then [.flt ⟨[(0, none), (1, none), (2, none), (3, none), (4, none), (5, none), (8, some [3, 4, 5]), (9, some [])]⟩ ⟨[6, 7], [(8, [6]), (9, [7])]⟩] else if i = 2003 then [.ord ⟨[(0, none), (1, none), (2, none), (3, none), (4, none), (5, none), (6, none), (7, none), (8, none), (9, none), (10, none), (11, none), (12, none), (13, none), (14, none), (15, none), (16, none), (17, none), (18, none), (19, none), (20, none), (21, none), (22, none), (23, none), (24, none), (25, none), (26, none), (27, none), (28, none), (29, none), (30, none), (31, none), (32, none), (33, none), (34, none), (35, some [])]⟩] else []) mixed Tryz.func73 rfl Tryz.call73 Tryz.ntmps73 (Nat.le_of_ble_eq_true rfl) Tryz.results73 (fun hok => ?_)
 have a1 := at_c l 5 hb (by omega)
 have k1 := clock_c (byteL l 5)
 have r1 := reg_c sR l [sR, sX] wN hb (by simp) (by simp) 7 (by omega)
 have g1 := gen1_c l [sR] wN hb (by simp) (by simp) 9 (by omega)
 have c1 := cond1_c l [sR, sT] wN hb (by simp) (by simp) 11 (by omega)
 have c2 := cond1_c l [sR, sX, sT] wN hb (by simp) (by simp) 13 (by omega)
 have g2 := gen1_c l [sR, sX, sT] wN hb (by simp) (by simp) 15 (by omega)
 rw [cellM]
 obtain ⟨e1, h1⟩ : ∃ e, clockOf (byteL l 5) = e := ⟨_, rfl⟩
 obtain ⟨e2, h2⟩ : ∃ e, regI sR l 7 [sR, sX] wN = e := ⟨_, rfl⟩
 obtain ⟨e3, h3⟩ : ∃ e, gen l [sR] wN 1 9 = e := ⟨_, rfl⟩
 obtain ⟨e4, h4⟩ : ∃ e, cond l [sR, sT] wN 1 11 = e := ⟨_, rfl⟩
 obtain ⟨e5, h5⟩ : ∃ e, cond l [sR, sX, sT] wN 1 13 = e := ⟨_, rfl⟩
 obtain ⟨e6, h6⟩ : ∃ e, gen l [sR, sX, sT] wN 1 15 = e := ⟨_, rfl⟩
 rw [h1] at k1 ⊢
 rw [h2] at r1 ⊢
 rw [h3] at g1 ⊢
 rw [h4] at c1 ⊢
 rw [h5] at c2 ⊢
 rw [h6] at g2 ⊢
 clear h1 h2 h3 h4 h5 h6
 simp only [ZE,↓reduceIte,pE,pL,pA,pS,pM,pD, eAt, eCtx, List.map_cons, List.map_nil, sR, sX, sT, sW, wN, st, emp] at a1 k1 r1 g1 c1 c2 g2
 simp (maxSteps := 4000000) only [ZE,↓reduceIte,pE,pL,pA,pS,pM,pD, zN,qT,qG,qL,qH,qN,qB,qE,qO,qA,qM]
 refine ⟨by kernel_rfl, by kernel_rfl, ECall'.i a1 ?_⟩
 simp only [ZE,↓reduceIte,pE,pL,pA,pS,pM,pD, zN,qT,qG,qL,qH,qN,qB,qE,qO,qA,qM]
 refine ECall'.i k1 ?_
 simp only [ZE,↓reduceIte,pE,pL,pA,pS,pM,pD, zN,qT,qG,qL,qH,qN,qB,qE,qO,qA,qM]
 refine ECall'.i r1 ?_
 simp only [ZE,↓reduceIte,pE,pL,pA,pS,pM,pD, zN,qT,qG,qL,qH,qN,qB,qE,qO,qA,qM]
 refine ECall'.i g1 ?_
 simp only [ZE,↓reduceIte,pE,pL,pA,pS,pM,pD, zN,qT,qG,qL,qH,qN,qB,qE,qO,qA,qM]
 refine ECall'.i c1 ?_
 simp only [ZE,↓reduceIte,pE,pL,pA,pS,pM,pD, zN,qT,qG,qL,qH,qN,qB,qE,qO,qA,qM]
 refine ECall'.i c2 ?_
 simp only [ZE,↓reduceIte,pE,pL,pA,pS,pM,pD, zN,qT,qG,qL,qH,qN,qB,qE,qO,qA,qM]
 refine ECall'.i g2 ?_
 simp only [ZE,↓reduceIte,pE,pL,pA,pS,pM,pD, zN,qT,qG,qL,qH,qN,qB,qE,qO,qA,qM, portI, wireI, takeI, putI, zItem, zExpr, sCell, wN, sW, sX, sY, sT, st, op_mk, name_mk, k_mk, w_mk, args_mk, zNum, emp, Int.reduceEq, not_false_eq_true]
 trace_state
def ownHead (l : List Nat) (w : Num) (c0 : Str) : List Item := [regI sR l 2 [sR, sS, sT, c0] w, regI sS l 4 [sS, sR, c0] w, wireI sT w (gen l [sR, sS] w 1 6)]
def depthN (l : List Nat) : Num := ⟨if byteL l 1 % 2 = 0 then 2 else 4, emp⟩
def memI (l : List Nat) (w : Num) (c0 : Str) : Item := { zItem with kind := ⟨6, rfl⟩, name := sM, width := w, depth := depthN l, a := cond l [sR, sS, sT, c0] w 1 12, b := gen l [sR, sS, sT, c0] w 0 14, c := gen l [sR, sS, sT, c0] w 1 16, rule := ruleOf (byteL l 3) }
def ownMem (l : List Nat) (w : Num) (c0 : Str) : List Item := if byteL l 0 % 2 = 1 then [memI l w c0] else []
def ownData (l : List Nat) (w : Num) (c0 : Str) : Expr := if byteL l 0 % 2 = 1 then .mk 5 emp zNum zNum [gen l [sR, sS, sT, c0] w 1 8, .mk 15 sM zNum zNum [gen l [sR, sS] w 0 10]] else gen l [sR, sS, sT, c0] w 1 8
def ownTail (l : List Nat) (w : Num) (c0 c1 : Str) : List Item := [takeI c0 (cond l [sR, sS] w 1 18), putI c1 (cond l [sR, sS, sT, c0] w 1 20) (ownData l w c0)]
def ownL (l : List Nat) (w : Num) (c0 c1 : Str) : List Item := ownHead l w c0 ++ ownMem l w c0 ++ ownTail l w c0 c1
theorem own_c (l : List Nat) (w : Num) (c0 c1 : Str) (hb : ∀ b ∈ l, b < 256) : FnP Tryz.prog 69 [eBytes l, .agg (eNum w), ePair c0 c1] (.d (eItems (ownL l w c0 c1))) [] := by
 refine FnP.of_eC (own := []) (fun i => if i = 2001 then [.flt ⟨[(0, none), (1, none), (2, none), (3, none), (4, none), (5, none), (6, none), (7, none), (10, some [3, 4, 5, 6, 7]), (11, some [])]⟩ ⟨[8, 9], [(10, [8]), (11, [9])]⟩] else if i = 2002 then [.ord ⟨[(0, none), (1, none), (2, none), (3, none), (4, none), (5, none), (6, none), (7, none), (8, none), (9, none), (10, none), (11, none), (12, none), (13, none), (14, none), (15, none), (16, some []), (17, some [])]⟩] else if i = 2007 then [.ord ⟨[(0, none), (1, none), (2, none), (3, none), (4, none), (5, none), (6, none), (7, none), (8, none), (9, none), (10, none), (11, none), (12, none), (13, none), (14, none), (15, none), (16, none), (17, none), (18, none), (19, none), (20, none), (21, none), (22, none), (23, none), (24, some []), (25, some [])]⟩] else if i = 2008 then [.ord ⟨[(0, none), (1, none), (2, none), (3, none), (4, none), (5, none), (6, none), (7, none), (8, none), (9, none), (10, none), (11, none), (12, none), (13, none), (14, none), (15, some []), (16, some [])]⟩] else if i = 2005 then [.chn] else if i = 2006 then [.chn] else []) mixed Tryz.func69 rfl Tryz.call69 Tryz.ntmps69 (Nat.le_of_ble_eq_true rfl) Tryz.results69 (fun hok => ?_)
 have a0 := at_c l 0 hb (by omega)
 have a1 := at_c l 1 hb (by omega)
 have a3 := at_c l 3 hb (by omega)
 have r1 := reg_c sR l [sR, sS, sT, c0] w hb (by simp) (by simp) 2 (by omega)
 have r2 := reg_c sS l [sS, sR, c0] w hb (by simp) (by simp) 4 (by omega)
 have g6 := gen1_c l [sR, sS] w hb (by simp) (by simp) 6 (by omega)
 have g8 := gen1_c l [sR, sS, sT, c0] w hb (by simp) (by simp) 8 (by omega)
 have g10 := gen0_c l [sR, sS] w hb (by simp) (by simp) 10 (by omega)
 have c12 := cond1_c l [sR, sS, sT, c0] w hb (by simp) (by simp) 12 (by omega)
 have g14 := gen0_c l [sR, sS, sT, c0] w hb (by simp) (by simp) 14 (by omega)
 have g16 := gen1_c l [sR, sS, sT, c0] w hb (by simp) (by simp) 16 (by omega)
 have c18 := cond1_c l [sR, sS] w hb (by simp) (by simp) 18 (by omega)
 have c20 := cond1_c l [sR, sS, sT, c0] w hb (by simp) (by simp) 20 (by omega)
 have u3 := rule_c (byteL l 3) (byteL_lt hb _)
 rw [ownL, ownHead, ownTail, ownMem, ownData, memI, depthN]
 obtain ⟨x1, h1⟩ : ∃ e, regI sR l 2 [sR, sS, sT, c0] w = e := ⟨_, rfl⟩
 obtain ⟨x2, h2⟩ : ∃ e, regI sS l 4 [sS, sR, c0] w = e := ⟨_, rfl⟩
 obtain ⟨x3, h3⟩ : ∃ e, gen l [sR, sS] w 1 6 = e := ⟨_, rfl⟩
 obtain ⟨x4, h4⟩ : ∃ e, gen l [sR, sS, sT, c0] w 1 8 = e := ⟨_, rfl⟩
 obtain ⟨x5, h5⟩ : ∃ e, gen l [sR, sS] w 0 10 = e := ⟨_, rfl⟩
 obtain ⟨x6, h6⟩ : ∃ e, cond l [sR, sS, sT, c0] w 1 12 = e := ⟨_, rfl⟩
 obtain ⟨x7, h7⟩ : ∃ e, gen l [sR, sS, sT, c0] w 0 14 = e := ⟨_, rfl⟩
 obtain ⟨x8, h8⟩ : ∃ e, gen l [sR, sS, sT, c0] w 1 16 = e := ⟨_, rfl⟩
 obtain ⟨x9, h9⟩ : ∃ e, cond l [sR, sS] w 1 18 = e := ⟨_, rfl⟩
 obtain ⟨x10, h10⟩ : ∃ e, cond l [sR, sS, sT, c0] w 1 20 = e := ⟨_, rfl⟩
 obtain ⟨x11, h11⟩ : ∃ e, ruleOf (byteL l 3) = e := ⟨_, rfl⟩
 rw [h1] at r1 ⊢
 rw [h2] at r2 ⊢
 rw [h3] at g6 ⊢
 rw [h4] at g8 ⊢
 rw [h5] at g10 ⊢
 rw [h6] at c12 ⊢
 rw [h7] at g14 ⊢
 rw [h8] at g16 ⊢
 rw [h9] at c18 ⊢
 rw [h10] at c20 ⊢
 rw [h11] at u3 ⊢
 have hm : (byteL l 0 : Int).tmod 2 = ((byteL l 0 % 2 : Nat) : Int) := (Int.ofNat_tmod _ 2).symm
 have hm1 : (byteL l 1 : Int).tmod 2 = ((byteL l 1 % 2 : Nat) : Int) := (Int.ofNat_tmod _ 2).symm
 clear h1 h2 h3 h4 h5 h6 h7 h8 h9 h10 h11
 simp only [ZE,↓reduceIte,pE,pL,pA,pS,pM,pD, eAt, eCtx, ePair, List.map_cons, List.map_nil, sR, sS, sT, st, emp] at a0 a1 a3 r1 r2 g6 g8 g10 c12 g14 g16 c18 c20 u3
 by_cases hodd : byteL l 0 % 2 = 1
 ·have ho : (((byteL l 0 % 2 : Nat) : Int) == 1) = true := by simp [hodd]
  rw [if_pos hodd, if_pos hodd]
  simp (maxSteps := 4000000) only [ZE,↓reduceIte,pE,pL,pA,pS,pM,pD, zN,qT,qG,qL,qH,qN,qB,qE,qO,qA,qM, ePair]
  refine ⟨by kernel_rfl, by kernel_rfl, ECall'.i r1 ?_⟩
  simp only [ZE,↓reduceIte,pE,pL,pA,pS,pM,pD, zN,qT,qG,qL,qH,qN,qB,qE,qO,qA,qM]
  refine ECall'.i r2 ?_
  simp only [ZE,↓reduceIte,pE,pL,pA,pS,pM,pD, zN,qT,qG,qL,qH,qN,qB,qE,qO,qA,qM]
  refine ECall'.i g6 ?_
  simp only [ZE,↓reduceIte,pE,pL,pA,pS,pM,pD, zN,qT,qG,qL,qH,qN,qB,qE,qO,qA,qM]
  refine EFn.p ?_
  simp only [ZE,↓reduceIte,pE,pL,pA,pS,pM,pD, zN,qT,qG,qL,qH,qN,qB,qE,qO,qA,qM]
  refine ECall.i g8 ?_
  simp only [ZE,↓reduceIte,pE,pL,pA,pS,pM,pD, zN,qT,qG,qL,qH,qN,qB,qE,qO,qA,qM]
  refine EFn.p ?_
  simp only [ZE,↓reduceIte,pE,pL,pA,pS,pM,pD, zN,qT,qG,qL,qH,qN,qB,qE,qO,qA,qM]
  refine ECall.i a0 ?_
  simp only [ZE,↓reduceIte,pE,pL,pA,pS,pM,pD, zN,qT,qG,qL,qH,qN,qB,qE,qO,qA,qM, hm, ho, Int.reduceEq, not_false_eq_true]
  refine EFn.p ?_
  simp only [ZE,↓reduceIte,pE,pL,pA,pS,pM,pD, zN,qT,qG,qL,qH,qN,qB,qE,qO,qA,qM]
  refine ECall.i g10 ?_
  simp only [ZE,↓reduceIte,pE,pL,pA,pS,pM,pD, zN,qT,qG,qL,qH,qN,qB,qE,qO,qA,qM, Int.reduceEq, not_false_eq_true]
  refine ⟨by kernel_rfl, ECall'.i a1 ?_⟩
  by_cases hd : byteL l 1 % 2 = 0
  ·have hm2 : (byteL l 1 : Int).tmod 2 = 0 := by rw [hm1, hd]; rfl
   have hw1 : IntKind.u64.wrap 0 = 0 := by decide
   have hw2 : IntKind.i64.wrap (2 * 2 ^ (min 0 IntKind.i64.bits)) = 2 := by decide
   rw [if_pos hd]
   simp only [ZE,↓reduceIte,pE,pL,pA,pS,pM,pD, zN,qT,qG,qL,qH,qN,qB,qE,qO,qA,qM, Int.reduceEq, not_false_eq_true, hm2, hw1, hw2]
   refine ECall'.i c12 ?_
   simp only [ZE,↓reduceIte,pE,pL,pA,pS,pM,pD, zN,qT,qG,qL,qH,qN,qB,qE,qO,qA,qM]
   refine ECall'.i g14 ?_
   simp only [ZE,↓reduceIte,pE,pL,pA,pS,pM,pD, zN,qT,qG,qL,qH,qN,qB,qE,qO,qA,qM]
   refine ECall'.i g16 ?_
   simp only [ZE,↓reduceIte,pE,pL,pA,pS,pM,pD, zN,qT,qG,qL,qH,qN,qB,qE,qO,qA,qM]
   refine ECall'.i a3 ?_
   simp only [ZE,↓reduceIte,pE,pL,pA,pS,pM,pD, zN,qT,qG,qL,qH,qN,qB,qE,qO,qA,qM]
   refine ECall'.i u3 ?_
   simp only [ZE,↓reduceIte,pE,pL,pA,pS,pM,pD, zN,qT,qG,qL,qH,qN,qB,qE,qO,qA,qM]
   refine ⟨by kernel_rfl, ECall'.i c18 ?_⟩
   simp only [ZE,↓reduceIte,pE,pL,pA,pS,pM,pD, zN,qT,qG,qL,qH,qN,qB,qE,qO,qA,qM]
   refine ECall'.i c20 ?_
   simp only [ZE,↓reduceIte,pE,pL,pA,pS,pM,pD, zN,qT,qG,qL,qH,qN,qB,qE,qO,qA,qM, wireI, takeI, putI, zItem, zExpr, sM, sT, st, op_mk, name_mk, k_mk, w_mk, args_mk, zNum, emp, Int.reduceEq, not_false_eq_true]
  ·have hm2 : (byteL l 1 : Int).tmod 2 = 1 := by rw [hm1]; omega
   have hw1 : IntKind.u64.wrap 1 = 1 := by decide
   have hw2 : IntKind.i64.wrap (2 * 2 ^ (min 1 IntKind.i64.bits)) = 4 := by decide
   rw [if_neg hd]
   simp only [ZE,↓reduceIte,pE,pL,pA,pS,pM,pD, zN,qT,qG,qL,qH,qN,qB,qE,qO,qA,qM, Int.reduceEq, not_false_eq_true, hm2, hw1, hw2]
   refine ECall'.i c12 ?_
   simp only [ZE,↓reduceIte,pE,pL,pA,pS,pM,pD, zN,qT,qG,qL,qH,qN,qB,qE,qO,qA,qM]
   refine ECall'.i g14 ?_
   simp only [ZE,↓reduceIte,pE,pL,pA,pS,pM,pD, zN,qT,qG,qL,qH,qN,qB,qE,qO,qA,qM]
   refine ECall'.i g16 ?_
   simp only [ZE,↓reduceIte,pE,pL,pA,pS,pM,pD, zN,qT,qG,qL,qH,qN,qB,qE,qO,qA,qM]
   refine ECall'.i a3 ?_
   simp only [ZE,↓reduceIte,pE,pL,pA,pS,pM,pD, zN,qT,qG,qL,qH,qN,qB,qE,qO,qA,qM]
   refine ECall'.i u3 ?_
   simp only [ZE,↓reduceIte,pE,pL,pA,pS,pM,pD, zN,qT,qG,qL,qH,qN,qB,qE,qO,qA,qM]
   refine ⟨by kernel_rfl, ECall'.i c18 ?_⟩
   simp only [ZE,↓reduceIte,pE,pL,pA,pS,pM,pD, zN,qT,qG,qL,qH,qN,qB,qE,qO,qA,qM]
   refine ECall'.i c20 ?_
   simp only [ZE,↓reduceIte,pE,pL,pA,pS,pM,pD, zN,qT,qG,qL,qH,qN,qB,qE,qO,qA,qM, wireI, takeI, putI, zItem, zExpr, sM, sT, st, op_mk, name_mk, k_mk, w_mk, args_mk, zNum, emp, Int.reduceEq, not_false_eq_true]
 ·have ho : (((byteL l 0 % 2 : Nat) : Int) == 1) = false := by
   have : byteL l 0 % 2 = 0 := by omega
   rw [this]; rfl
  rw [if_neg hodd, if_neg hodd]
  simp (maxSteps := 4000000) only [ZE,↓reduceIte,pE,pL,pA,pS,pM,pD, zN,qT,qG,qL,qH,qN,qB,qE,qO,qA,qM, ePair]
  refine ⟨by kernel_rfl, by kernel_rfl, ECall'.i r1 ?_⟩
  simp only [ZE,↓reduceIte,pE,pL,pA,pS,pM,pD, zN,qT,qG,qL,qH,qN,qB,qE,qO,qA,qM]
  refine ECall'.i r2 ?_
  simp only [ZE,↓reduceIte,pE,pL,pA,pS,pM,pD, zN,qT,qG,qL,qH,qN,qB,qE,qO,qA,qM]
  refine ECall'.i g6 ?_
  simp only [ZE,↓reduceIte,pE,pL,pA,pS,pM,pD, zN,qT,qG,qL,qH,qN,qB,qE,qO,qA,qM]
  refine EFn.p ?_
  simp only [ZE,↓reduceIte,pE,pL,pA,pS,pM,pD, zN,qT,qG,qL,qH,qN,qB,qE,qO,qA,qM]
  refine ECall.i g8 ?_
  simp only [ZE,↓reduceIte,pE,pL,pA,pS,pM,pD, zN,qT,qG,qL,qH,qN,qB,qE,qO,qA,qM]
  refine EFn.p ?_
  simp only [ZE,↓reduceIte,pE,pL,pA,pS,pM,pD, zN,qT,qG,qL,qH,qN,qB,qE,qO,qA,qM]
  refine ECall.i a0 ?_
  simp only [ZE,↓reduceIte,pE,pL,pA,pS,pM,pD, zN,qT,qG,qL,qH,qN,qB,qE,qO,qA,qM, hm, ho, Int.reduceEq, not_false_eq_true]
  refine ⟨by kernel_rfl, ECall'.i c18 ?_⟩
  simp only [ZE,↓reduceIte,pE,pL,pA,pS,pM,pD, zN,qT,qG,qL,qH,qN,qB,qE,qO,qA,qM]
  refine ECall'.i c20 ?_
  simp only [ZE,↓reduceIte,pE,pL,pA,pS,pM,pD, zN,qT,qG,qL,qH,qN,qB,qE,qO,qA,qM, wireI, takeI, putI, zItem, zExpr, sM, sT, st, op_mk, name_mk, k_mk, w_mk, args_mk, zNum, emp, Int.reduceEq, not_false_eq_true]
end Go.Proofs.YtnnhfhodbfgfdaaGreat
