/-
 CONTRACTS of the functions that the law reaches, and plain laws on what they compute. Conditions: those of each law.
-/
import Derived.Test.YtejpmjnefokdoaaGO
import Derived.Test.YtejpmjnefokdoaaProg
import Derived.Test.YtejpmjnefokdoaaGOr
import Derived.DeepKeys4
import Derived.Maps.Keyed
set_option linter.unusedSimpArgs false
set_option linter.unusedVariables false
namespace Go.Proofs.Ytejpmjnefokdoaa
open And renaming intro → aI
open Go.Aw
theorem mixed : Try.prog.follows .mixedOrders = true := by kernel_rfl
theorem tL1 : lay Try.prog 1 = some (false, 1) := by kernel_rfl
theorem tZ1 : zeroOf Try.prog 1 = some [.nilFunc] := by kernel_rfl
theorem tU2 : Try.prog.underlying 2 = some (.int .i64) := by kernel_rfl
theorem tL2 : lay Try.prog 2 = some (false, 1) := by kernel_rfl
theorem tZ2 : zeroOf Try.prog 2 = some [.int .i64 0] := by kernel_rfl
theorem tU3 : Try.prog.underlying 3 = some (.int .i64) := by kernel_rfl
theorem tL3 : lay Try.prog 3 = some (false, 1) := by kernel_rfl
theorem tZ3 : zeroOf Try.prog 3 = some [.int .i64 0] := by kernel_rfl
theorem tU4 : Try.prog.underlying 4 = some .bool := by kernel_rfl
theorem tL4 : lay Try.prog 4 = some (false, 1) := by kernel_rfl
theorem tZ4 : zeroOf Try.prog 4 = some [.bool false] := by kernel_rfl
theorem tU5 : Try.prog.underlying 5 = some (.int .u8) := by kernel_rfl
theorem tL5 : lay Try.prog 5 = some (false, 1) := by kernel_rfl
theorem tZ5 : zeroOf Try.prog 5 = some [.int .u8 0] := by kernel_rfl
theorem tU6 : Try.prog.underlying 6 = some (.int .u8) := by kernel_rfl
theorem tL6 : lay Try.prog 6 = some (false, 1) := by kernel_rfl
theorem tZ6 : zeroOf Try.prog 6 = some [.int .u8 0] := by kernel_rfl
theorem tL7 : lay Try.prog 7 = some (true, 4) := by kernel_rfl
theorem tZ7 : zeroOf Try.prog 7 = some [.int .i64 0, .int .i64 0, .bool false, .int .u8 0] := by kernel_rfl
theorem tF7x0 : fieldOf Try.prog 7 0 = some (0, false, 1) := by kernel_rfl
theorem tP7x0 : placeOf Try.prog 7 0 = some (0, false, 1) := by kernel_rfl
theorem tF7x1 : fieldOf Try.prog 7 1 = some (1, false, 1) := by kernel_rfl
theorem tP7x1 : placeOf Try.prog 7 1 = some (1, false, 1) := by kernel_rfl
theorem tF7x2 : fieldOf Try.prog 7 2 = some (2, false, 1) := by kernel_rfl
theorem tP7x2 : placeOf Try.prog 7 2 = some (2, false, 1) := by kernel_rfl
theorem tF7x3 : fieldOf Try.prog 7 3 = some (3, false, 1) := by kernel_rfl
theorem tP7x3 : placeOf Try.prog 7 3 = some (3, false, 1) := by kernel_rfl
theorem tK7 : placesOk Try.prog 7 = true := by kernel_rfl
theorem tQ7 : eqTys Try.prog 7 = some [0, 0, 1, 0] := by kernel_rfl
theorem tL8 : lay Try.prog 8 = some (true, 4) := by kernel_rfl
theorem tZ8 : zeroOf Try.prog 8 = some [.int .i64 0, .int .i64 0, .bool false, .int .u8 0] := by kernel_rfl
theorem tF8x0 : fieldOf Try.prog 8 0 = some (0, false, 1) := by kernel_rfl
theorem tP8x0 : placeOf Try.prog 8 0 = some (0, false, 1) := by kernel_rfl
theorem tF8x1 : fieldOf Try.prog 8 1 = some (1, false, 1) := by kernel_rfl
theorem tP8x1 : placeOf Try.prog 8 1 = some (1, false, 1) := by kernel_rfl
theorem tF8x2 : fieldOf Try.prog 8 2 = some (2, false, 1) := by kernel_rfl
theorem tP8x2 : placeOf Try.prog 8 2 = some (2, false, 1) := by kernel_rfl
theorem tF8x3 : fieldOf Try.prog 8 3 = some (3, false, 1) := by kernel_rfl
theorem tP8x3 : placeOf Try.prog 8 3 = some (3, false, 1) := by kernel_rfl
theorem tK8 : placesOk Try.prog 8 = true := by kernel_rfl
theorem tQ8 : eqTys Try.prog 8 = some [0, 0, 1, 0] := by kernel_rfl
theorem tU9 : Try.prog.underlying 9 = some .string := by kernel_rfl
theorem tL9 : lay Try.prog 9 = some (false, 1) := by kernel_rfl
theorem tZ9 : zeroOf Try.prog 9 = some [.string ByteArray.empty] := by kernel_rfl
theorem tU10 : Try.prog.underlying 10 = some .string := by kernel_rfl
theorem tL10 : lay Try.prog 10 = some (false, 1) := by kernel_rfl
theorem tZ10 : zeroOf Try.prog 10 = some [.string ByteArray.empty] := by kernel_rfl
theorem tU11 : Try.prog.underlying 11 = some .string := by kernel_rfl
theorem tL11 : lay Try.prog 11 = some (false, 1) := by kernel_rfl
theorem tZ11 : zeroOf Try.prog 11 = some [.string ByteArray.empty] := by kernel_rfl
theorem tU12 : Try.prog.underlying 12 = some (.int .u64) := by kernel_rfl
theorem tL12 : lay Try.prog 12 = some (false, 1) := by kernel_rfl
theorem tZ12 : zeroOf Try.prog 12 = some [.int .u64 0] := by kernel_rfl
theorem tL13 : lay Try.prog 13 = some (true, 2) := by kernel_rfl
theorem tZ13 : zeroOf Try.prog 13 = some [.string ByteArray.empty, .int .u64 0] := by kernel_rfl
theorem tF13x0 : fieldOf Try.prog 13 0 = some (0, false, 1) := by kernel_rfl
theorem tP13x0 : placeOf Try.prog 13 0 = some (0, false, 1) := by kernel_rfl
theorem tF13x1 : fieldOf Try.prog 13 1 = some (1, false, 1) := by kernel_rfl
theorem tP13x1 : placeOf Try.prog 13 1 = some (1, false, 1) := by kernel_rfl
theorem tK13 : placesOk Try.prog 13 = true := by kernel_rfl
theorem tL14 : lay Try.prog 14 = some (true, 2) := by kernel_rfl
theorem tZ14 : zeroOf Try.prog 14 = some [.string ByteArray.empty, .int .u64 0] := by kernel_rfl
theorem tF14x0 : fieldOf Try.prog 14 0 = some (0, false, 1) := by kernel_rfl
theorem tP14x0 : placeOf Try.prog 14 0 = some (0, false, 1) := by kernel_rfl
theorem tF14x1 : fieldOf Try.prog 14 1 = some (1, false, 1) := by kernel_rfl
theorem tP14x1 : placeOf Try.prog 14 1 = some (1, false, 1) := by kernel_rfl
theorem tK14 : placesOk Try.prog 14 = true := by kernel_rfl
theorem tU15 : Try.prog.underlying 15 = some (.pointer 166) := by kernel_rfl
theorem tL15 : lay Try.prog 15 = some (false, 1) := by kernel_rfl
theorem tZ15 : zeroOf Try.prog 15 = some [.pointer none] := by kernel_rfl
theorem tU16 : Try.prog.underlying 16 = some (.pointer 169) := by kernel_rfl
theorem tL16 : lay Try.prog 16 = some (false, 1) := by kernel_rfl
theorem tZ16 : zeroOf Try.prog 16 = some [.pointer none] := by kernel_rfl
theorem tU17 : Try.prog.underlying 17 = some (.pointer 178) := by kernel_rfl
theorem tL17 : lay Try.prog 17 = some (false, 1) := by kernel_rfl
theorem tZ17 : zeroOf Try.prog 17 = some [.pointer none] := by kernel_rfl
theorem tL18 : lay Try.prog 18 = some (true, 1) := by kernel_rfl
theorem tZ18 : zeroOf Try.prog 18 = some [.pointer none] := by kernel_rfl
theorem tF18x0 : fieldOf Try.prog 18 0 = some (0, false, 1) := by kernel_rfl
theorem tP18x0 : placeOf Try.prog 18 0 = some (0, false, 1) := by kernel_rfl
theorem tK18 : placesOk Try.prog 18 = true := by kernel_rfl
theorem tL19 : lay Try.prog 19 = some (true, 1) := by kernel_rfl
theorem tZ19 : zeroOf Try.prog 19 = some [.pointer none] := by kernel_rfl
theorem tF19x0 : fieldOf Try.prog 19 0 = some (0, false, 1) := by kernel_rfl
theorem tP19x0 : placeOf Try.prog 19 0 = some (0, false, 1) := by kernel_rfl
theorem tK19 : placesOk Try.prog 19 = true := by kernel_rfl
theorem tL20 : lay Try.prog 20 = some (false, 1) := by kernel_rfl
theorem tZ20 : zeroOf Try.prog 20 = some [.nilIface] := by kernel_rfl
theorem tU21 : Try.prog.underlying 21 = some (.int .i32) := by kernel_rfl
theorem tL21 : lay Try.prog 21 = some (false, 1) := by kernel_rfl
theorem tZ21 : zeroOf Try.prog 21 = some [.int .i32 0] := by kernel_rfl
theorem tU22 : Try.prog.underlying 22 = some (.slice 5) := by kernel_rfl
theorem tL22 : lay Try.prog 22 = some (false, 1) := by kernel_rfl
theorem tZ22 : zeroOf Try.prog 22 = some [.slice none 0 0] := by kernel_rfl
theorem tE22 : elemOfSl Try.prog 22 = some (5, false, 1) := by kernel_rfl
theorem tA22 : appTy Try.prog 22 = some (5, 1, 1) := by kernel_rfl
theorem tL23 : lay Try.prog 23 = some (true, 3) := by kernel_rfl
theorem tZ23 : zeroOf Try.prog 23 = some [.int .u8 0, .int .u8 0, .slice none 0 0] := by kernel_rfl
theorem tF23x0 : fieldOf Try.prog 23 0 = some (0, false, 1) := by kernel_rfl
theorem tP23x0 : placeOf Try.prog 23 0 = some (0, false, 1) := by kernel_rfl
theorem tF23x1 : fieldOf Try.prog 23 1 = some (1, false, 1) := by kernel_rfl
theorem tP23x1 : placeOf Try.prog 23 1 = some (1, false, 1) := by kernel_rfl
theorem tF23x2 : fieldOf Try.prog 23 2 = some (2, false, 1) := by kernel_rfl
theorem tP23x2 : placeOf Try.prog 23 2 = some (2, false, 1) := by kernel_rfl
theorem tK23 : placesOk Try.prog 23 = true := by kernel_rfl
theorem tL24 : lay Try.prog 24 = some (true, 3) := by kernel_rfl
theorem tZ24 : zeroOf Try.prog 24 = some [.int .u8 0, .int .u8 0, .slice none 0 0] := by kernel_rfl
theorem tF24x0 : fieldOf Try.prog 24 0 = some (0, false, 1) := by kernel_rfl
theorem tP24x0 : placeOf Try.prog 24 0 = some (0, false, 1) := by kernel_rfl
theorem tF24x1 : fieldOf Try.prog 24 1 = some (1, false, 1) := by kernel_rfl
theorem tP24x1 : placeOf Try.prog 24 1 = some (1, false, 1) := by kernel_rfl
theorem tF24x2 : fieldOf Try.prog 24 2 = some (2, false, 1) := by kernel_rfl
theorem tP24x2 : placeOf Try.prog 24 2 = some (2, false, 1) := by kernel_rfl
theorem tK24 : placesOk Try.prog 24 = true := by kernel_rfl
theorem tU25 : Try.prog.underlying 25 = some (.array 4 5) := by kernel_rfl
theorem tL25 : lay Try.prog 25 = some (true, 4) := by kernel_rfl
theorem tZ25 : zeroOf Try.prog 25 = some [.int .u8 0, .int .u8 0, .int .u8 0, .int .u8 0] := by kernel_rfl
theorem tE25 : elemOfSl Try.prog 25 = none := by kernel_rfl
theorem tR25 : elemOfArr Try.prog 25 = some (4, false, 1) := by kernel_rfl
theorem tP25x0 : placeOf Try.prog 25 0 = some (0, false, 1) := by kernel_rfl
theorem tP25x1 : placeOf Try.prog 25 1 = some (1, false, 1) := by kernel_rfl
theorem tP25x2 : placeOf Try.prog 25 2 = some (2, false, 1) := by kernel_rfl
theorem tP25x3 : placeOf Try.prog 25 3 = some (3, false, 1) := by kernel_rfl
theorem tK25 : placesOk Try.prog 25 = true := by kernel_rfl
theorem tQ25 : eqTys Try.prog 25 = some [0, 0, 0, 0] := by kernel_rfl
theorem tL26 : lay Try.prog 26 = some (false, 1) := by kernel_rfl
theorem tZ26 : zeroOf Try.prog 26 = some [.nilFunc] := by kernel_rfl
theorem tU27 : Try.prog.underlying 27 = some (.slice 38) := by kernel_rfl
theorem tL27 : lay Try.prog 27 = some (false, 1) := by kernel_rfl
theorem tZ27 : zeroOf Try.prog 27 = some [.slice none 0 0] := by kernel_rfl
theorem tE27 : elemOfSl Try.prog 27 = some (38, true, 4) := by kernel_rfl
theorem tA27 : appTy Try.prog 27 = some (38, 4, 80) := by kernel_rfl
theorem tL28 : lay Try.prog 28 = some (true, 1) := by kernel_rfl
theorem tZ28 : zeroOf Try.prog 28 = some [.slice none 0 0] := by kernel_rfl
theorem tF28x0 : fieldOf Try.prog 28 0 = some (0, false, 1) := by kernel_rfl
theorem tP28x0 : placeOf Try.prog 28 0 = some (0, false, 1) := by kernel_rfl
theorem tK28 : placesOk Try.prog 28 = true := by kernel_rfl
theorem tL29 : lay Try.prog 29 = some (true, 1) := by kernel_rfl
theorem tZ29 : zeroOf Try.prog 29 = some [.slice none 0 0] := by kernel_rfl
theorem tF29x0 : fieldOf Try.prog 29 0 = some (0, false, 1) := by kernel_rfl
theorem tP29x0 : placeOf Try.prog 29 0 = some (0, false, 1) := by kernel_rfl
theorem tK29 : placesOk Try.prog 29 = true := by kernel_rfl
theorem tL30 : lay Try.prog 30 = some (false, 1) := by kernel_rfl
theorem tZ30 : zeroOf Try.prog 30 = some [.nilFunc] := by kernel_rfl
theorem tL31 : lay Try.prog 31 = some (false, 1) := by kernel_rfl
theorem tZ31 : zeroOf Try.prog 31 = some [.nilFunc] := by kernel_rfl
theorem tU32 : Try.prog.underlying 32 = some (.slice 9) := by kernel_rfl
theorem tL32 : lay Try.prog 32 = some (false, 1) := by kernel_rfl
theorem tZ32 : zeroOf Try.prog 32 = some [.slice none 0 0] := by kernel_rfl
theorem tE32 : elemOfSl Try.prog 32 = some (9, false, 1) := by kernel_rfl
theorem tA32 : appTy Try.prog 32 = some (9, 1, 16) := by kernel_rfl
theorem tL33 : lay Try.prog 33 = some (false, 1) := by kernel_rfl
theorem tZ33 : zeroOf Try.prog 33 = some [.nilFunc] := by kernel_rfl
theorem tU34 : Try.prog.underlying 34 = some (.slice 3) := by kernel_rfl
theorem tL34 : lay Try.prog 34 = some (false, 1) := by kernel_rfl
theorem tZ34 : zeroOf Try.prog 34 = some [.slice none 0 0] := by kernel_rfl
theorem tE34 : elemOfSl Try.prog 34 = some (3, false, 1) := by kernel_rfl
theorem tA34 : appTy Try.prog 34 = some (3, 1, 8) := by kernel_rfl
theorem tL35 : lay Try.prog 35 = some (false, 1) := by kernel_rfl
theorem tZ35 : zeroOf Try.prog 35 = some [.nilFunc] := by kernel_rfl
theorem tU36 : Try.prog.underlying 36 = some (.slice 56) := by kernel_rfl
theorem tL36 : lay Try.prog 36 = some (false, 1) := by kernel_rfl
theorem tZ36 : zeroOf Try.prog 36 = some [.slice none 0 0] := by kernel_rfl
theorem tE36 : elemOfSl Try.prog 36 = some (56, true, 35) := by kernel_rfl
theorem tA36 : appTy Try.prog 36 = some (56, 35, 480) := by kernel_rfl
theorem tL37 : lay Try.prog 37 = some (true, 4) := by kernel_rfl
theorem tZ37 : zeroOf Try.prog 37 = some [.string ByteArray.empty, .string ByteArray.empty, .slice none 0 0, .slice none 0 0] := by kernel_rfl
theorem tF37x0 : fieldOf Try.prog 37 0 = some (0, false, 1) := by kernel_rfl
theorem tP37x0 : placeOf Try.prog 37 0 = some (0, false, 1) := by kernel_rfl
theorem tF37x1 : fieldOf Try.prog 37 1 = some (1, false, 1) := by kernel_rfl
theorem tP37x1 : placeOf Try.prog 37 1 = some (1, false, 1) := by kernel_rfl
theorem tF37x2 : fieldOf Try.prog 37 2 = some (2, false, 1) := by kernel_rfl
theorem tP37x2 : placeOf Try.prog 37 2 = some (2, false, 1) := by kernel_rfl
theorem tF37x3 : fieldOf Try.prog 37 3 = some (3, false, 1) := by kernel_rfl
theorem tP37x3 : placeOf Try.prog 37 3 = some (3, false, 1) := by kernel_rfl
theorem tK37 : placesOk Try.prog 37 = true := by kernel_rfl
theorem tL38 : lay Try.prog 38 = some (true, 4) := by kernel_rfl
theorem tZ38 : zeroOf Try.prog 38 = some [.string ByteArray.empty, .string ByteArray.empty, .slice none 0 0, .slice none 0 0] := by kernel_rfl
theorem tF38x0 : fieldOf Try.prog 38 0 = some (0, false, 1) := by kernel_rfl
theorem tP38x0 : placeOf Try.prog 38 0 = some (0, false, 1) := by kernel_rfl
theorem tF38x1 : fieldOf Try.prog 38 1 = some (1, false, 1) := by kernel_rfl
theorem tP38x1 : placeOf Try.prog 38 1 = some (1, false, 1) := by kernel_rfl
theorem tF38x2 : fieldOf Try.prog 38 2 = some (2, false, 1) := by kernel_rfl
theorem tP38x2 : placeOf Try.prog 38 2 = some (2, false, 1) := by kernel_rfl
theorem tF38x3 : fieldOf Try.prog 38 3 = some (3, false, 1) := by kernel_rfl
theorem tP38x3 : placeOf Try.prog 38 3 = some (3, false, 1) := by kernel_rfl
theorem tK38 : placesOk Try.prog 38 = true := by kernel_rfl
theorem tU39 : Try.prog.underlying 39 = some (.slice 42) := by kernel_rfl
theorem tL39 : lay Try.prog 39 = some (false, 1) := by kernel_rfl
theorem tZ39 : zeroOf Try.prog 39 = some [.slice none 0 0] := by kernel_rfl
theorem tE39 : elemOfSl Try.prog 39 = some (42, true, 3) := by kernel_rfl
theorem tA39 : appTy Try.prog 39 = some (42, 3, 24) := by kernel_rfl
theorem tL40 : lay Try.prog 40 = some (false, 1) := by kernel_rfl
theorem tZ40 : zeroOf Try.prog 40 = some [.nilFunc] := by kernel_rfl
theorem tL41 : lay Try.prog 41 = some (true, 3) := by kernel_rfl
theorem tZ41 : zeroOf Try.prog 41 = some [.int .i64 0, .int .i64 0, .int .i64 0] := by kernel_rfl
theorem tF41x0 : fieldOf Try.prog 41 0 = some (0, false, 1) := by kernel_rfl
theorem tP41x0 : placeOf Try.prog 41 0 = some (0, false, 1) := by kernel_rfl
theorem tF41x1 : fieldOf Try.prog 41 1 = some (1, false, 1) := by kernel_rfl
theorem tP41x1 : placeOf Try.prog 41 1 = some (1, false, 1) := by kernel_rfl
theorem tF41x2 : fieldOf Try.prog 41 2 = some (2, false, 1) := by kernel_rfl
theorem tP41x2 : placeOf Try.prog 41 2 = some (2, false, 1) := by kernel_rfl
theorem tK41 : placesOk Try.prog 41 = true := by kernel_rfl
theorem tQ41 : eqTys Try.prog 41 = some [0, 0, 0] := by kernel_rfl
theorem tL42 : lay Try.prog 42 = some (true, 3) := by kernel_rfl
theorem tZ42 : zeroOf Try.prog 42 = some [.int .i64 0, .int .i64 0, .int .i64 0] := by kernel_rfl
theorem tF42x0 : fieldOf Try.prog 42 0 = some (0, false, 1) := by kernel_rfl
theorem tP42x0 : placeOf Try.prog 42 0 = some (0, false, 1) := by kernel_rfl
theorem tF42x1 : fieldOf Try.prog 42 1 = some (1, false, 1) := by kernel_rfl
theorem tP42x1 : placeOf Try.prog 42 1 = some (1, false, 1) := by kernel_rfl
theorem tF42x2 : fieldOf Try.prog 42 2 = some (2, false, 1) := by kernel_rfl
theorem tP42x2 : placeOf Try.prog 42 2 = some (2, false, 1) := by kernel_rfl
theorem tK42 : placesOk Try.prog 42 = true := by kernel_rfl
theorem tQ42 : eqTys Try.prog 42 = some [0, 0, 0] := by kernel_rfl
theorem tL43 : lay Try.prog 43 = some (false, 1) := by kernel_rfl
theorem tZ43 : zeroOf Try.prog 43 = some [.nilFunc] := by kernel_rfl
theorem tL44 : lay Try.prog 44 = some (false, 1) := by kernel_rfl
theorem tZ44 : zeroOf Try.prog 44 = some [.nilFunc] := by kernel_rfl
theorem tL45 : lay Try.prog 45 = some (false, 1) := by kernel_rfl
theorem tZ45 : zeroOf Try.prog 45 = some [.nilFunc] := by kernel_rfl
theorem tL46 : lay Try.prog 46 = some (true, 2) := by kernel_rfl
theorem tZ46 : zeroOf Try.prog 46 = some [.int .i64 0, .string ByteArray.empty] := by kernel_rfl
theorem tF46x0 : fieldOf Try.prog 46 0 = some (0, false, 1) := by kernel_rfl
theorem tP46x0 : placeOf Try.prog 46 0 = some (0, false, 1) := by kernel_rfl
theorem tF46x1 : fieldOf Try.prog 46 1 = some (1, false, 1) := by kernel_rfl
theorem tP46x1 : placeOf Try.prog 46 1 = some (1, false, 1) := by kernel_rfl
theorem tK46 : placesOk Try.prog 46 = true := by kernel_rfl
theorem tQ46 : eqTys Try.prog 46 = some [0, 2] := by kernel_rfl
theorem tL47 : lay Try.prog 47 = some (true, 2) := by kernel_rfl
theorem tZ47 : zeroOf Try.prog 47 = some [.int .i64 0, .string ByteArray.empty] := by kernel_rfl
theorem tF47x0 : fieldOf Try.prog 47 0 = some (0, false, 1) := by kernel_rfl
theorem tP47x0 : placeOf Try.prog 47 0 = some (0, false, 1) := by kernel_rfl
theorem tF47x1 : fieldOf Try.prog 47 1 = some (1, false, 1) := by kernel_rfl
theorem tP47x1 : placeOf Try.prog 47 1 = some (1, false, 1) := by kernel_rfl
theorem tK47 : placesOk Try.prog 47 = true := by kernel_rfl
theorem tQ47 : eqTys Try.prog 47 = some [0, 2] := by kernel_rfl
theorem tU48 : Try.prog.underlying 48 = some (.slice 50) := by kernel_rfl
theorem tL48 : lay Try.prog 48 = some (false, 1) := by kernel_rfl
theorem tZ48 : zeroOf Try.prog 48 = some [.slice none 0 0] := by kernel_rfl
theorem tE48 : elemOfSl Try.prog 48 = some (50, true, 7) := by kernel_rfl
theorem tA48 : appTy Try.prog 48 = some (50, 7, 96) := by kernel_rfl
theorem tL49 : lay Try.prog 49 = some (true, 7) := by kernel_rfl
theorem tZ49 : zeroOf Try.prog 49 = some [.int .i64 0, .string ByteArray.empty, .int .i64 0, .string ByteArray.empty, .int .i64 0, .string ByteArray.empty, .slice none 0 0] := by kernel_rfl
theorem tF49x0 : fieldOf Try.prog 49 0 = some (0, false, 1) := by kernel_rfl
theorem tP49x0 : placeOf Try.prog 49 0 = some (0, false, 1) := by kernel_rfl
theorem tF49x1 : fieldOf Try.prog 49 1 = some (1, false, 1) := by kernel_rfl
theorem tP49x1 : placeOf Try.prog 49 1 = some (1, false, 1) := by kernel_rfl
theorem tF49x2 : fieldOf Try.prog 49 2 = some (2, true, 2) := by kernel_rfl
theorem tP49x2 : placeOf Try.prog 49 2 = some (2, true, 2) := by kernel_rfl
theorem tF49x3 : fieldOf Try.prog 49 3 = some (4, true, 2) := by kernel_rfl
theorem tP49x3 : placeOf Try.prog 49 3 = some (4, true, 2) := by kernel_rfl
theorem tF49x4 : fieldOf Try.prog 49 4 = some (6, false, 1) := by kernel_rfl
theorem tP49x4 : placeOf Try.prog 49 4 = some (6, false, 1) := by kernel_rfl
theorem tK49 : placesOk Try.prog 49 = true := by kernel_rfl
theorem tL50 : lay Try.prog 50 = some (true, 7) := by kernel_rfl
theorem tZ50 : zeroOf Try.prog 50 = some [.int .i64 0, .string ByteArray.empty, .int .i64 0, .string ByteArray.empty, .int .i64 0, .string ByteArray.empty, .slice none 0 0] := by kernel_rfl
theorem tF50x0 : fieldOf Try.prog 50 0 = some (0, false, 1) := by kernel_rfl
theorem tP50x0 : placeOf Try.prog 50 0 = some (0, false, 1) := by kernel_rfl
theorem tF50x1 : fieldOf Try.prog 50 1 = some (1, false, 1) := by kernel_rfl
theorem tP50x1 : placeOf Try.prog 50 1 = some (1, false, 1) := by kernel_rfl
theorem tF50x2 : fieldOf Try.prog 50 2 = some (2, true, 2) := by kernel_rfl
theorem tP50x2 : placeOf Try.prog 50 2 = some (2, true, 2) := by kernel_rfl
theorem tF50x3 : fieldOf Try.prog 50 3 = some (4, true, 2) := by kernel_rfl
theorem tP50x3 : placeOf Try.prog 50 3 = some (4, true, 2) := by kernel_rfl
theorem tF50x4 : fieldOf Try.prog 50 4 = some (6, false, 1) := by kernel_rfl
theorem tP50x4 : placeOf Try.prog 50 4 = some (6, false, 1) := by kernel_rfl
theorem tK50 : placesOk Try.prog 50 = true := by kernel_rfl
theorem tL51 : lay Try.prog 51 = some (true, 3) := by kernel_rfl
theorem tZ51 : zeroOf Try.prog 51 = some [.int .i64 0, .string ByteArray.empty, .int .i64 0] := by kernel_rfl
theorem tF51x0 : fieldOf Try.prog 51 0 = some (0, false, 1) := by kernel_rfl
theorem tP51x0 : placeOf Try.prog 51 0 = some (0, false, 1) := by kernel_rfl
theorem tF51x1 : fieldOf Try.prog 51 1 = some (1, false, 1) := by kernel_rfl
theorem tP51x1 : placeOf Try.prog 51 1 = some (1, false, 1) := by kernel_rfl
theorem tF51x2 : fieldOf Try.prog 51 2 = some (2, false, 1) := by kernel_rfl
theorem tP51x2 : placeOf Try.prog 51 2 = some (2, false, 1) := by kernel_rfl
theorem tK51 : placesOk Try.prog 51 = true := by kernel_rfl
theorem tQ51 : eqTys Try.prog 51 = some [0, 2, 0] := by kernel_rfl
theorem tL52 : lay Try.prog 52 = some (true, 3) := by kernel_rfl
theorem tZ52 : zeroOf Try.prog 52 = some [.int .i64 0, .string ByteArray.empty, .int .i64 0] := by kernel_rfl
theorem tF52x0 : fieldOf Try.prog 52 0 = some (0, false, 1) := by kernel_rfl
theorem tP52x0 : placeOf Try.prog 52 0 = some (0, false, 1) := by kernel_rfl
theorem tF52x1 : fieldOf Try.prog 52 1 = some (1, false, 1) := by kernel_rfl
theorem tP52x1 : placeOf Try.prog 52 1 = some (1, false, 1) := by kernel_rfl
theorem tF52x2 : fieldOf Try.prog 52 2 = some (2, false, 1) := by kernel_rfl
theorem tP52x2 : placeOf Try.prog 52 2 = some (2, false, 1) := by kernel_rfl
theorem tK52 : placesOk Try.prog 52 = true := by kernel_rfl
theorem tQ52 : eqTys Try.prog 52 = some [0, 2, 0] := by kernel_rfl
theorem tU53 : Try.prog.underlying 53 = some (.slice 47) := by kernel_rfl
theorem tL53 : lay Try.prog 53 = some (false, 1) := by kernel_rfl
theorem tZ53 : zeroOf Try.prog 53 = some [.slice none 0 0] := by kernel_rfl
theorem tE53 : elemOfSl Try.prog 53 = some (47, true, 2) := by kernel_rfl
theorem tA53 : appTy Try.prog 53 = some (47, 2, 24) := by kernel_rfl
theorem tU54 : Try.prog.underlying 54 = some (.slice 80) := by kernel_rfl
theorem tL54 : lay Try.prog 54 = some (false, 1) := by kernel_rfl
theorem tZ54 : zeroOf Try.prog 54 = some [.slice none 0 0] := by kernel_rfl
theorem tE54 : elemOfSl Try.prog 54 = some (80, true, 2) := by kernel_rfl
theorem tA54 : appTy Try.prog 54 = some (80, 2, 32) := by kernel_rfl
theorem tL55 : lay Try.prog 55 = some (true, 35) := by kernel_rfl
theorem tZ55 : zeroOf Try.prog 55 = some [.int .i64 0, .string ByteArray.empty, .int .i64 0, .string ByteArray.empty, .int .i64 0, .string ByteArray.empty, .int .i64 0, .string ByteArray.empty, .int .i64 0, .string ByteArray.empty, .int .i64 0, .string ByteArray.empty, .int .i64 0, .string ByteArray.empty, .slice none 0 0, .int .i64 0, .string ByteArray.empty, .int .i64 0, .string ByteArray.empty, .int .i64 0, .string ByteArray.empty, .slice none 0 0, .int .i64 0, .string ByteArray.empty, .int .i64 0, .string ByteArray.empty, .int .i64 0, .string ByteArray.empty, .slice none 0 0, .int .i64 0, .string ByteArray.empty, .int .i64 0, .string ByteArray.empty, .slice none 0 0, .slice none 0 0] := by kernel_rfl
theorem tF55x0 : fieldOf Try.prog 55 0 = some (0, false, 1) := by kernel_rfl
theorem tP55x0 : placeOf Try.prog 55 0 = some (0, false, 1) := by kernel_rfl
theorem tF55x1 : fieldOf Try.prog 55 1 = some (1, false, 1) := by kernel_rfl
theorem tP55x1 : placeOf Try.prog 55 1 = some (1, false, 1) := by kernel_rfl
theorem tF55x2 : fieldOf Try.prog 55 2 = some (2, true, 2) := by kernel_rfl
theorem tP55x2 : placeOf Try.prog 55 2 = some (2, true, 2) := by kernel_rfl
theorem tF55x3 : fieldOf Try.prog 55 3 = some (4, true, 2) := by kernel_rfl
theorem tP55x3 : placeOf Try.prog 55 3 = some (4, true, 2) := by kernel_rfl
theorem tF55x4 : fieldOf Try.prog 55 4 = some (6, true, 2) := by kernel_rfl
theorem tP55x4 : placeOf Try.prog 55 4 = some (6, true, 2) := by kernel_rfl
theorem tF55x5 : fieldOf Try.prog 55 5 = some (8, true, 7) := by kernel_rfl
theorem tP55x5 : placeOf Try.prog 55 5 = some (8, true, 7) := by kernel_rfl
theorem tF55x6 : fieldOf Try.prog 55 6 = some (15, true, 7) := by kernel_rfl
theorem tP55x6 : placeOf Try.prog 55 6 = some (15, true, 7) := by kernel_rfl
theorem tF55x7 : fieldOf Try.prog 55 7 = some (22, true, 7) := by kernel_rfl
theorem tP55x7 : placeOf Try.prog 55 7 = some (22, true, 7) := by kernel_rfl
theorem tF55x8 : fieldOf Try.prog 55 8 = some (29, true, 3) := by kernel_rfl
theorem tP55x8 : placeOf Try.prog 55 8 = some (29, true, 3) := by kernel_rfl
theorem tF55x9 : fieldOf Try.prog 55 9 = some (32, false, 1) := by kernel_rfl
theorem tP55x9 : placeOf Try.prog 55 9 = some (32, false, 1) := by kernel_rfl
theorem tF55x10 : fieldOf Try.prog 55 10 = some (33, false, 1) := by kernel_rfl
theorem tP55x10 : placeOf Try.prog 55 10 = some (33, false, 1) := by kernel_rfl
theorem tF55x11 : fieldOf Try.prog 55 11 = some (34, false, 1) := by kernel_rfl
theorem tP55x11 : placeOf Try.prog 55 11 = some (34, false, 1) := by kernel_rfl
theorem tK55 : placesOk Try.prog 55 = true := by kernel_rfl
theorem tL56 : lay Try.prog 56 = some (true, 35) := by kernel_rfl
theorem tZ56 : zeroOf Try.prog 56 = some [.int .i64 0, .string ByteArray.empty, .int .i64 0, .string ByteArray.empty, .int .i64 0, .string ByteArray.empty, .int .i64 0, .string ByteArray.empty, .int .i64 0, .string ByteArray.empty, .int .i64 0, .string ByteArray.empty, .int .i64 0, .string ByteArray.empty, .slice none 0 0, .int .i64 0, .string ByteArray.empty, .int .i64 0, .string ByteArray.empty, .int .i64 0, .string ByteArray.empty, .slice none 0 0, .int .i64 0, .string ByteArray.empty, .int .i64 0, .string ByteArray.empty, .int .i64 0, .string ByteArray.empty, .slice none 0 0, .int .i64 0, .string ByteArray.empty, .int .i64 0, .string ByteArray.empty, .slice none 0 0, .slice none 0 0] := by kernel_rfl
theorem tF56x0 : fieldOf Try.prog 56 0 = some (0, false, 1) := by kernel_rfl
theorem tP56x0 : placeOf Try.prog 56 0 = some (0, false, 1) := by kernel_rfl
theorem tF56x1 : fieldOf Try.prog 56 1 = some (1, false, 1) := by kernel_rfl
theorem tP56x1 : placeOf Try.prog 56 1 = some (1, false, 1) := by kernel_rfl
theorem tF56x2 : fieldOf Try.prog 56 2 = some (2, true, 2) := by kernel_rfl
theorem tP56x2 : placeOf Try.prog 56 2 = some (2, true, 2) := by kernel_rfl
theorem tF56x3 : fieldOf Try.prog 56 3 = some (4, true, 2) := by kernel_rfl
theorem tP56x3 : placeOf Try.prog 56 3 = some (4, true, 2) := by kernel_rfl
theorem tF56x4 : fieldOf Try.prog 56 4 = some (6, true, 2) := by kernel_rfl
theorem tP56x4 : placeOf Try.prog 56 4 = some (6, true, 2) := by kernel_rfl
theorem tF56x5 : fieldOf Try.prog 56 5 = some (8, true, 7) := by kernel_rfl
theorem tP56x5 : placeOf Try.prog 56 5 = some (8, true, 7) := by kernel_rfl
theorem tF56x6 : fieldOf Try.prog 56 6 = some (15, true, 7) := by kernel_rfl
theorem tP56x6 : placeOf Try.prog 56 6 = some (15, true, 7) := by kernel_rfl
theorem tF56x7 : fieldOf Try.prog 56 7 = some (22, true, 7) := by kernel_rfl
theorem tP56x7 : placeOf Try.prog 56 7 = some (22, true, 7) := by kernel_rfl
theorem tF56x8 : fieldOf Try.prog 56 8 = some (29, true, 3) := by kernel_rfl
theorem tP56x8 : placeOf Try.prog 56 8 = some (29, true, 3) := by kernel_rfl
theorem tF56x9 : fieldOf Try.prog 56 9 = some (32, false, 1) := by kernel_rfl
theorem tP56x9 : placeOf Try.prog 56 9 = some (32, false, 1) := by kernel_rfl
theorem tF56x10 : fieldOf Try.prog 56 10 = some (33, false, 1) := by kernel_rfl
theorem tP56x10 : placeOf Try.prog 56 10 = some (33, false, 1) := by kernel_rfl
theorem tF56x11 : fieldOf Try.prog 56 11 = some (34, false, 1) := by kernel_rfl
theorem tP56x11 : placeOf Try.prog 56 11 = some (34, false, 1) := by kernel_rfl
theorem tK56 : placesOk Try.prog 56 = true := by kernel_rfl
theorem tL57 : lay Try.prog 57 = some (false, 1) := by kernel_rfl
theorem tZ57 : zeroOf Try.prog 57 = some [.nilFunc] := by kernel_rfl
theorem tL58 : lay Try.prog 58 = some (false, 1) := by kernel_rfl
theorem tZ58 : zeroOf Try.prog 58 = some [.nilFunc] := by kernel_rfl
theorem tL59 : lay Try.prog 59 = some (false, 1) := by kernel_rfl
theorem tZ59 : zeroOf Try.prog 59 = some [.nilFunc] := by kernel_rfl
theorem tU60 : Try.prog.underlying 60 = some (.slice 29) := by kernel_rfl
theorem tL60 : lay Try.prog 60 = some (false, 1) := by kernel_rfl
theorem tZ60 : zeroOf Try.prog 60 = some [.slice none 0 0] := by kernel_rfl
theorem tE60 : elemOfSl Try.prog 60 = some (29, true, 1) := by kernel_rfl
theorem tA60 : appTy Try.prog 60 = some (29, 1, 24) := by kernel_rfl
theorem tL61 : lay Try.prog 61 = some (false, 1) := by kernel_rfl
theorem tZ61 : zeroOf Try.prog 61 = some [.nilFunc] := by kernel_rfl
theorem tL62 : lay Try.prog 62 = some (false, 1) := by kernel_rfl
theorem tZ62 : zeroOf Try.prog 62 = some [.nilFunc] := by kernel_rfl
theorem tU63 : Try.prog.underlying 63 = some (.array 2 5) := by kernel_rfl
theorem tL63 : lay Try.prog 63 = some (true, 2) := by kernel_rfl
theorem tZ63 : zeroOf Try.prog 63 = some [.int .u8 0, .int .u8 0] := by kernel_rfl
theorem tE63 : elemOfSl Try.prog 63 = none := by kernel_rfl
theorem tR63 : elemOfArr Try.prog 63 = some (2, false, 1) := by kernel_rfl
theorem tP63x0 : placeOf Try.prog 63 0 = some (0, false, 1) := by kernel_rfl
theorem tP63x1 : placeOf Try.prog 63 1 = some (1, false, 1) := by kernel_rfl
theorem tK63 : placesOk Try.prog 63 = true := by kernel_rfl
theorem tQ63 : eqTys Try.prog 63 = some [0, 0] := by kernel_rfl
theorem tL64 : lay Try.prog 64 = some (false, 1) := by kernel_rfl
theorem tZ64 : zeroOf Try.prog 64 = some [.nilFunc] := by kernel_rfl
theorem tU65 : Try.prog.underlying 65 = some (.array 2 9) := by kernel_rfl
theorem tL65 : lay Try.prog 65 = some (true, 2) := by kernel_rfl
theorem tZ65 : zeroOf Try.prog 65 = some [.string ByteArray.empty, .string ByteArray.empty] := by kernel_rfl
theorem tE65 : elemOfSl Try.prog 65 = none := by kernel_rfl
theorem tR65 : elemOfArr Try.prog 65 = some (2, false, 1) := by kernel_rfl
theorem tP65x0 : placeOf Try.prog 65 0 = some (0, false, 1) := by kernel_rfl
theorem tP65x1 : placeOf Try.prog 65 1 = some (1, false, 1) := by kernel_rfl
theorem tK65 : placesOk Try.prog 65 = true := by kernel_rfl
theorem tQ65 : eqTys Try.prog 65 = some [2, 2] := by kernel_rfl
theorem tL66 : lay Try.prog 66 = some (false, 1) := by kernel_rfl
theorem tZ66 : zeroOf Try.prog 66 = some [.nilFunc] := by kernel_rfl
theorem tL67 : lay Try.prog 67 = some (false, 1) := by kernel_rfl
theorem tZ67 : zeroOf Try.prog 67 = some [.nilFunc] := by kernel_rfl
theorem tL68 : lay Try.prog 68 = some (false, 1) := by kernel_rfl
theorem tZ68 : zeroOf Try.prog 68 = some [.nilFunc] := by kernel_rfl
theorem tL69 : lay Try.prog 69 = some (false, 1) := by kernel_rfl
theorem tZ69 : zeroOf Try.prog 69 = some [.nilFunc] := by kernel_rfl
theorem tL70 : lay Try.prog 70 = some (false, 1) := by kernel_rfl
theorem tZ70 : zeroOf Try.prog 70 = some [.nilFunc] := by kernel_rfl
theorem tL71 : lay Try.prog 71 = some (false, 1) := by kernel_rfl
theorem tZ71 : zeroOf Try.prog 71 = some [.nilFunc] := by kernel_rfl
theorem tL72 : lay Try.prog 72 = some (false, 1) := by kernel_rfl
theorem tZ72 : zeroOf Try.prog 72 = some [.nilFunc] := by kernel_rfl
theorem tL73 : lay Try.prog 73 = some (true, 3) := by kernel_rfl
theorem tZ73 : zeroOf Try.prog 73 = some [.slice none 0 0, .int .i64 0, .string ByteArray.empty] := by kernel_rfl
theorem tF73x0 : fieldOf Try.prog 73 0 = some (0, false, 1) := by kernel_rfl
theorem tP73x0 : placeOf Try.prog 73 0 = some (0, false, 1) := by kernel_rfl
theorem tF73x1 : fieldOf Try.prog 73 1 = some (1, true, 2) := by kernel_rfl
theorem tP73x1 : placeOf Try.prog 73 1 = some (1, true, 2) := by kernel_rfl
theorem tK73 : placesOk Try.prog 73 = true := by kernel_rfl
theorem tL74 : lay Try.prog 74 = some (true, 3) := by kernel_rfl
theorem tZ74 : zeroOf Try.prog 74 = some [.slice none 0 0, .int .i64 0, .string ByteArray.empty] := by kernel_rfl
theorem tF74x0 : fieldOf Try.prog 74 0 = some (0, false, 1) := by kernel_rfl
theorem tP74x0 : placeOf Try.prog 74 0 = some (0, false, 1) := by kernel_rfl
theorem tF74x1 : fieldOf Try.prog 74 1 = some (1, true, 2) := by kernel_rfl
theorem tP74x1 : placeOf Try.prog 74 1 = some (1, true, 2) := by kernel_rfl
theorem tK74 : placesOk Try.prog 74 = true := by kernel_rfl
theorem tL75 : lay Try.prog 75 = some (false, 1) := by kernel_rfl
theorem tZ75 : zeroOf Try.prog 75 = some [.nilFunc] := by kernel_rfl
theorem tL76 : lay Try.prog 76 = some (false, 1) := by kernel_rfl
theorem tZ76 : zeroOf Try.prog 76 = some [.nilFunc] := by kernel_rfl
theorem tU77 : Try.prog.underlying 77 = some (.array 2 3) := by kernel_rfl
theorem tL77 : lay Try.prog 77 = some (true, 2) := by kernel_rfl
theorem tZ77 : zeroOf Try.prog 77 = some [.int .i64 0, .int .i64 0] := by kernel_rfl
theorem tE77 : elemOfSl Try.prog 77 = none := by kernel_rfl
theorem tR77 : elemOfArr Try.prog 77 = some (2, false, 1) := by kernel_rfl
theorem tP77x0 : placeOf Try.prog 77 0 = some (0, false, 1) := by kernel_rfl
theorem tP77x1 : placeOf Try.prog 77 1 = some (1, false, 1) := by kernel_rfl
theorem tK77 : placesOk Try.prog 77 = true := by kernel_rfl
theorem tQ77 : eqTys Try.prog 77 = some [0, 0] := by kernel_rfl
theorem tL78 : lay Try.prog 78 = some (false, 1) := by kernel_rfl
theorem tZ78 : zeroOf Try.prog 78 = some [.nilFunc] := by kernel_rfl
theorem tL79 : lay Try.prog 79 = some (true, 2) := by kernel_rfl
theorem tZ79 : zeroOf Try.prog 79 = some [.string ByteArray.empty, .string ByteArray.empty] := by kernel_rfl
theorem tF79x0 : fieldOf Try.prog 79 0 = some (0, false, 1) := by kernel_rfl
theorem tP79x0 : placeOf Try.prog 79 0 = some (0, false, 1) := by kernel_rfl
theorem tF79x1 : fieldOf Try.prog 79 1 = some (1, false, 1) := by kernel_rfl
theorem tP79x1 : placeOf Try.prog 79 1 = some (1, false, 1) := by kernel_rfl
theorem tK79 : placesOk Try.prog 79 = true := by kernel_rfl
theorem tQ79 : eqTys Try.prog 79 = some [2, 2] := by kernel_rfl
theorem tL80 : lay Try.prog 80 = some (true, 2) := by kernel_rfl
theorem tZ80 : zeroOf Try.prog 80 = some [.string ByteArray.empty, .string ByteArray.empty] := by kernel_rfl
theorem tF80x0 : fieldOf Try.prog 80 0 = some (0, false, 1) := by kernel_rfl
theorem tP80x0 : placeOf Try.prog 80 0 = some (0, false, 1) := by kernel_rfl
theorem tF80x1 : fieldOf Try.prog 80 1 = some (1, false, 1) := by kernel_rfl
theorem tP80x1 : placeOf Try.prog 80 1 = some (1, false, 1) := by kernel_rfl
theorem tK80 : placesOk Try.prog 80 = true := by kernel_rfl
theorem tQ80 : eqTys Try.prog 80 = some [2, 2] := by kernel_rfl
theorem tL81 : lay Try.prog 81 = some (false, 1) := by kernel_rfl
theorem tZ81 : zeroOf Try.prog 81 = some [.nilFunc] := by kernel_rfl
theorem tU82 : Try.prog.underlying 82 = some (.map 9 3) := by kernel_rfl
theorem tL82 : lay Try.prog 82 = some (false, 1) := by kernel_rfl
theorem tZ82 : zeroOf Try.prog 82 = some [.map none] := by kernel_rfl
theorem tU83 : Try.prog.underlying 83 = some (.map 42 4) := by kernel_rfl
theorem tL83 : lay Try.prog 83 = some (false, 1) := by kernel_rfl
theorem tZ83 : zeroOf Try.prog 83 = some [.map none] := by kernel_rfl
theorem tU84 : Try.prog.underlying 84 = some (.slice 90) := by kernel_rfl
theorem tL84 : lay Try.prog 84 = some (false, 1) := by kernel_rfl
theorem tZ84 : zeroOf Try.prog 84 = some [.slice none 0 0] := by kernel_rfl
theorem tE84 : elemOfSl Try.prog 84 = some (90, true, 6) := by kernel_rfl
theorem tA84 : appTy Try.prog 84 = some (90, 6, 96) := by kernel_rfl
theorem tL85 : lay Try.prog 85 = some (true, 3) := by kernel_rfl
theorem tZ85 : zeroOf Try.prog 85 = some [.slice none 0 0, .map none, .map none] := by kernel_rfl
theorem tF85x0 : fieldOf Try.prog 85 0 = some (0, false, 1) := by kernel_rfl
theorem tP85x0 : placeOf Try.prog 85 0 = some (0, false, 1) := by kernel_rfl
theorem tF85x1 : fieldOf Try.prog 85 1 = some (1, false, 1) := by kernel_rfl
theorem tP85x1 : placeOf Try.prog 85 1 = some (1, false, 1) := by kernel_rfl
theorem tF85x2 : fieldOf Try.prog 85 2 = some (2, false, 1) := by kernel_rfl
theorem tP85x2 : placeOf Try.prog 85 2 = some (2, false, 1) := by kernel_rfl
theorem tK85 : placesOk Try.prog 85 = true := by kernel_rfl
theorem tL86 : lay Try.prog 86 = some (true, 3) := by kernel_rfl
theorem tZ86 : zeroOf Try.prog 86 = some [.slice none 0 0, .map none, .map none] := by kernel_rfl
theorem tF86x0 : fieldOf Try.prog 86 0 = some (0, false, 1) := by kernel_rfl
theorem tP86x0 : placeOf Try.prog 86 0 = some (0, false, 1) := by kernel_rfl
theorem tF86x1 : fieldOf Try.prog 86 1 = some (1, false, 1) := by kernel_rfl
theorem tP86x1 : placeOf Try.prog 86 1 = some (1, false, 1) := by kernel_rfl
theorem tF86x2 : fieldOf Try.prog 86 2 = some (2, false, 1) := by kernel_rfl
theorem tP86x2 : placeOf Try.prog 86 2 = some (2, false, 1) := by kernel_rfl
theorem tK86 : placesOk Try.prog 86 = true := by kernel_rfl
theorem tU87 : Try.prog.underlying 87 = some (.map 9 56) := by kernel_rfl
theorem tL87 : lay Try.prog 87 = some (false, 1) := by kernel_rfl
theorem tZ87 : zeroOf Try.prog 87 = some [.map none] := by kernel_rfl
theorem tU88 : Try.prog.underlying 88 = some (.map 9 4) := by kernel_rfl
theorem tL88 : lay Try.prog 88 = some (false, 1) := by kernel_rfl
theorem tZ88 : zeroOf Try.prog 88 = some [.map none] := by kernel_rfl
theorem tL89 : lay Try.prog 89 = some (true, 6) := by kernel_rfl
theorem tZ89 : zeroOf Try.prog 89 = some [.string ByteArray.empty, .string ByteArray.empty, .slice none 0 0, .slice none 0 0, .map none, .map none] := by kernel_rfl
theorem tF89x0 : fieldOf Try.prog 89 0 = some (0, true, 4) := by kernel_rfl
theorem tP89x0 : placeOf Try.prog 89 0 = some (0, true, 4) := by kernel_rfl
theorem tF89x1 : fieldOf Try.prog 89 1 = some (4, false, 1) := by kernel_rfl
theorem tP89x1 : placeOf Try.prog 89 1 = some (4, false, 1) := by kernel_rfl
theorem tF89x2 : fieldOf Try.prog 89 2 = some (5, false, 1) := by kernel_rfl
theorem tP89x2 : placeOf Try.prog 89 2 = some (5, false, 1) := by kernel_rfl
theorem tK89 : placesOk Try.prog 89 = true := by kernel_rfl
theorem tL90 : lay Try.prog 90 = some (true, 6) := by kernel_rfl
theorem tZ90 : zeroOf Try.prog 90 = some [.string ByteArray.empty, .string ByteArray.empty, .slice none 0 0, .slice none 0 0, .map none, .map none] := by kernel_rfl
theorem tF90x0 : fieldOf Try.prog 90 0 = some (0, true, 4) := by kernel_rfl
theorem tP90x0 : placeOf Try.prog 90 0 = some (0, true, 4) := by kernel_rfl
theorem tF90x1 : fieldOf Try.prog 90 1 = some (4, false, 1) := by kernel_rfl
theorem tP90x1 : placeOf Try.prog 90 1 = some (4, false, 1) := by kernel_rfl
theorem tF90x2 : fieldOf Try.prog 90 2 = some (5, false, 1) := by kernel_rfl
theorem tP90x2 : placeOf Try.prog 90 2 = some (5, false, 1) := by kernel_rfl
theorem tK90 : placesOk Try.prog 90 = true := by kernel_rfl
theorem tL91 : lay Try.prog 91 = some (false, 1) := by kernel_rfl
theorem tZ91 : zeroOf Try.prog 91 = some [.nilFunc] := by kernel_rfl
theorem tL93 : lay Try.prog 93 = some (false, 1) := by kernel_rfl
theorem tZ93 : zeroOf Try.prog 93 = some [.nilFunc] := by kernel_rfl
theorem tL94 : lay Try.prog 94 = some (false, 1) := by kernel_rfl
theorem tZ94 : zeroOf Try.prog 94 = some [.nilFunc] := by kernel_rfl
theorem tL95 : lay Try.prog 95 = some (false, 1) := by kernel_rfl
theorem tZ95 : zeroOf Try.prog 95 = some [.nilFunc] := by kernel_rfl
theorem tL96 : lay Try.prog 96 = some (false, 1) := by kernel_rfl
theorem tZ96 : zeroOf Try.prog 96 = some [.nilFunc] := by kernel_rfl
theorem tL97 : lay Try.prog 97 = some (false, 1) := by kernel_rfl
theorem tZ97 : zeroOf Try.prog 97 = some [.nilFunc] := by kernel_rfl
theorem tL98 : lay Try.prog 98 = some (false, 1) := by kernel_rfl
theorem tZ98 : zeroOf Try.prog 98 = some [.nilFunc] := by kernel_rfl
theorem tL99 : lay Try.prog 99 = some (false, 1) := by kernel_rfl
theorem tZ99 : zeroOf Try.prog 99 = some [.nilFunc] := by kernel_rfl
theorem tL100 : lay Try.prog 100 = some (false, 1) := by kernel_rfl
theorem tZ100 : zeroOf Try.prog 100 = some [.nilFunc] := by kernel_rfl
theorem tL101 : lay Try.prog 101 = some (false, 1) := by kernel_rfl
theorem tZ101 : zeroOf Try.prog 101 = some [.nilFunc] := by kernel_rfl
theorem tU102 : Try.prog.underlying 102 = some (.slice 4) := by kernel_rfl
theorem tL102 : lay Try.prog 102 = some (false, 1) := by kernel_rfl
theorem tZ102 : zeroOf Try.prog 102 = some [.slice none 0 0] := by kernel_rfl
theorem tE102 : elemOfSl Try.prog 102 = some (4, false, 1) := by kernel_rfl
theorem tA102 : appTy Try.prog 102 = some (4, 1, 1) := by kernel_rfl
theorem tL103 : lay Try.prog 103 = some (false, 1) := by kernel_rfl
theorem tZ103 : zeroOf Try.prog 103 = some [.nilFunc] := by kernel_rfl
theorem tL104 : lay Try.prog 104 = some (false, 1) := by kernel_rfl
theorem tZ104 : zeroOf Try.prog 104 = some [.nilFunc] := by kernel_rfl
theorem tL105 : lay Try.prog 105 = some (false, 1) := by kernel_rfl
theorem tZ105 : zeroOf Try.prog 105 = some [.nilFunc] := by kernel_rfl
theorem tU106 : Try.prog.underlying 106 = some (.int .u64) := by kernel_rfl
theorem tL106 : lay Try.prog 106 = some (false, 1) := by kernel_rfl
theorem tZ106 : zeroOf Try.prog 106 = some [.int .u64 0] := by kernel_rfl
theorem tL107 : lay Try.prog 107 = some (false, 1) := by kernel_rfl
theorem tZ107 : zeroOf Try.prog 107 = some [.nilFunc] := by kernel_rfl
theorem tL109 : lay Try.prog 109 = some (false, 1) := by kernel_rfl
theorem tZ109 : zeroOf Try.prog 109 = some [.nilFunc] := by kernel_rfl
theorem tL110 : lay Try.prog 110 = some (false, 1) := by kernel_rfl
theorem tZ110 : zeroOf Try.prog 110 = some [.nilFunc] := by kernel_rfl
theorem tL111 : lay Try.prog 111 = some (false, 1) := by kernel_rfl
theorem tZ111 : zeroOf Try.prog 111 = some [.nilFunc] := by kernel_rfl
theorem tL112 : lay Try.prog 112 = some (false, 1) := by kernel_rfl
theorem tZ112 : zeroOf Try.prog 112 = some [.nilFunc] := by kernel_rfl
theorem tU113 : Try.prog.underlying 113 = some (.map 3 4) := by kernel_rfl
theorem tL113 : lay Try.prog 113 = some (false, 1) := by kernel_rfl
theorem tZ113 : zeroOf Try.prog 113 = some [.map none] := by kernel_rfl
theorem tL114 : lay Try.prog 114 = some (false, 1) := by kernel_rfl
theorem tZ114 : zeroOf Try.prog 114 = some [.nilFunc] := by kernel_rfl
theorem tL115 : lay Try.prog 115 = some (false, 1) := by kernel_rfl
theorem tZ115 : zeroOf Try.prog 115 = some [.nilFunc] := by kernel_rfl
theorem tL116 : lay Try.prog 116 = some (false, 1) := by kernel_rfl
theorem tZ116 : zeroOf Try.prog 116 = some [.nilFunc] := by kernel_rfl
theorem tL118 : lay Try.prog 118 = some (false, 1) := by kernel_rfl
theorem tZ118 : zeroOf Try.prog 118 = some [.nilFunc] := by kernel_rfl
theorem tL119 : lay Try.prog 119 = some (false, 1) := by kernel_rfl
theorem tZ119 : zeroOf Try.prog 119 = some [.nilFunc] := by kernel_rfl
theorem tL120 : lay Try.prog 120 = some (false, 1) := by kernel_rfl
theorem tZ120 : zeroOf Try.prog 120 = some [.nilFunc] := by kernel_rfl
theorem tL121 : lay Try.prog 121 = some (false, 1) := by kernel_rfl
theorem tZ121 : zeroOf Try.prog 121 = some [.nilFunc] := by kernel_rfl
theorem tL122 : lay Try.prog 122 = some (false, 1) := by kernel_rfl
theorem tZ122 : zeroOf Try.prog 122 = some [.nilFunc] := by kernel_rfl
theorem tL123 : lay Try.prog 123 = some (false, 1) := by kernel_rfl
theorem tZ123 : zeroOf Try.prog 123 = some [.nilFunc] := by kernel_rfl
theorem tL124 : lay Try.prog 124 = some (false, 1) := by kernel_rfl
theorem tZ124 : zeroOf Try.prog 124 = some [.nilFunc] := by kernel_rfl
theorem tL125 : lay Try.prog 125 = some (false, 1) := by kernel_rfl
theorem tZ125 : zeroOf Try.prog 125 = some [.nilFunc] := by kernel_rfl
theorem tL126 : lay Try.prog 126 = some (false, 1) := by kernel_rfl
theorem tZ126 : zeroOf Try.prog 126 = some [.nilFunc] := by kernel_rfl
theorem tL127 : lay Try.prog 127 = some (false, 1) := by kernel_rfl
theorem tZ127 : zeroOf Try.prog 127 = some [.nilFunc] := by kernel_rfl
theorem tL128 : lay Try.prog 128 = some (false, 1) := by kernel_rfl
theorem tZ128 : zeroOf Try.prog 128 = some [.nilFunc] := by kernel_rfl
theorem tL129 : lay Try.prog 129 = some (false, 1) := by kernel_rfl
theorem tZ129 : zeroOf Try.prog 129 = some [.nilFunc] := by kernel_rfl
theorem tL130 : lay Try.prog 130 = some (false, 1) := by kernel_rfl
theorem tZ130 : zeroOf Try.prog 130 = some [.nilFunc] := by kernel_rfl
theorem tL131 : lay Try.prog 131 = some (false, 1) := by kernel_rfl
theorem tZ131 : zeroOf Try.prog 131 = some [.nilFunc] := by kernel_rfl
theorem tL132 : lay Try.prog 132 = some (false, 1) := by kernel_rfl
theorem tZ132 : zeroOf Try.prog 132 = some [.nilFunc] := by kernel_rfl
theorem tL133 : lay Try.prog 133 = some (false, 1) := by kernel_rfl
theorem tZ133 : zeroOf Try.prog 133 = some [.nilFunc] := by kernel_rfl
theorem tL134 : lay Try.prog 134 = some (false, 1) := by kernel_rfl
theorem tZ134 : zeroOf Try.prog 134 = some [.nilFunc] := by kernel_rfl
theorem tL135 : lay Try.prog 135 = some (false, 1) := by kernel_rfl
theorem tZ135 : zeroOf Try.prog 135 = some [.nilFunc] := by kernel_rfl
theorem tL136 : lay Try.prog 136 = some (false, 1) := by kernel_rfl
theorem tZ136 : zeroOf Try.prog 136 = some [.nilFunc] := by kernel_rfl
theorem tL137 : lay Try.prog 137 = some (false, 1) := by kernel_rfl
theorem tZ137 : zeroOf Try.prog 137 = some [.nilFunc] := by kernel_rfl
theorem tL138 : lay Try.prog 138 = some (false, 1) := by kernel_rfl
theorem tZ138 : zeroOf Try.prog 138 = some [.nilFunc] := by kernel_rfl
theorem tL139 : lay Try.prog 139 = some (false, 1) := by kernel_rfl
theorem tZ139 : zeroOf Try.prog 139 = some [.nilFunc] := by kernel_rfl
theorem tU140 : Try.prog.underlying 140 = some (.map 3 3) := by kernel_rfl
theorem tL140 : lay Try.prog 140 = some (false, 1) := by kernel_rfl
theorem tZ140 : zeroOf Try.prog 140 = some [.map none] := by kernel_rfl
theorem tL141 : lay Try.prog 141 = some (false, 1) := by kernel_rfl
theorem tZ141 : zeroOf Try.prog 141 = some [.nilFunc] := by kernel_rfl
theorem tL142 : lay Try.prog 142 = some (false, 1) := by kernel_rfl
theorem tZ142 : zeroOf Try.prog 142 = some [.nilFunc] := by kernel_rfl
theorem tL143 : lay Try.prog 143 = some (false, 1) := by kernel_rfl
theorem tZ143 : zeroOf Try.prog 143 = some [.nilFunc] := by kernel_rfl
theorem tL144 : lay Try.prog 144 = some (false, 1) := by kernel_rfl
theorem tZ144 : zeroOf Try.prog 144 = some [.nilFunc] := by kernel_rfl
theorem tU145 : Try.prog.underlying 145 = some (.int .i64) := by kernel_rfl
theorem tL145 : lay Try.prog 145 = some (false, 1) := by kernel_rfl
theorem tZ145 : zeroOf Try.prog 145 = some [.int .i64 0] := by kernel_rfl
theorem tL147 : lay Try.prog 147 = some (false, 1) := by kernel_rfl
theorem tZ147 : zeroOf Try.prog 147 = some [.nilFunc] := by kernel_rfl
theorem tL148 : lay Try.prog 148 = some (false, 1) := by kernel_rfl
theorem tZ148 : zeroOf Try.prog 148 = some [.nilFunc] := by kernel_rfl
theorem tL149 : lay Try.prog 149 = some (false, 1) := by kernel_rfl
theorem tZ149 : zeroOf Try.prog 149 = some [.nilFunc] := by kernel_rfl
theorem tL150 : lay Try.prog 150 = some (false, 1) := by kernel_rfl
theorem tZ150 : zeroOf Try.prog 150 = some [.nilFunc] := by kernel_rfl
theorem tL151 : lay Try.prog 151 = some (false, 1) := by kernel_rfl
theorem tZ151 : zeroOf Try.prog 151 = some [.nilFunc] := by kernel_rfl
theorem tU152 : Try.prog.underlying 152 = some (.int .u32) := by kernel_rfl
theorem tL152 : lay Try.prog 152 = some (false, 1) := by kernel_rfl
theorem tZ152 : zeroOf Try.prog 152 = some [.int .u32 0] := by kernel_rfl
theorem tL153 : lay Try.prog 153 = some (false, 1) := by kernel_rfl
theorem tZ153 : zeroOf Try.prog 153 = some [.nilFunc] := by kernel_rfl
theorem tU154 : Try.prog.underlying 154 = some (.int .u64) := by kernel_rfl
theorem tL154 : lay Try.prog 154 = some (false, 1) := by kernel_rfl
theorem tZ154 : zeroOf Try.prog 154 = some [.int .u64 0] := by kernel_rfl
theorem tL155 : lay Try.prog 155 = some (false, 1) := by kernel_rfl
theorem tZ155 : zeroOf Try.prog 155 = some [.nilFunc] := by kernel_rfl
theorem tU156 : Try.prog.underlying 156 = some (.int .u64) := by kernel_rfl
theorem tL156 : lay Try.prog 156 = some (false, 1) := by kernel_rfl
theorem tZ156 : zeroOf Try.prog 156 = some [.int .u64 0] := by kernel_rfl
theorem tL157 : lay Try.prog 157 = some (false, 1) := by kernel_rfl
theorem tZ157 : zeroOf Try.prog 157 = some [.nilFunc] := by kernel_rfl
theorem tL158 : lay Try.prog 158 = some (false, 1) := by kernel_rfl
theorem tZ158 : zeroOf Try.prog 158 = some [.nilFunc] := by kernel_rfl
theorem tL159 : lay Try.prog 159 = some (false, 1) := by kernel_rfl
theorem tZ159 : zeroOf Try.prog 159 = some [.nilFunc] := by kernel_rfl
theorem tU160 : Try.prog.underlying 160 = some (.pointer 3) := by kernel_rfl
theorem tL160 : lay Try.prog 160 = some (false, 1) := by kernel_rfl
theorem tZ160 : zeroOf Try.prog 160 = some [.pointer none] := by kernel_rfl
theorem tL161 : lay Try.prog 161 = some (false, 1) := by kernel_rfl
theorem tZ161 : zeroOf Try.prog 161 = some [.nilFunc] := by kernel_rfl
theorem tU162 : Try.prog.underlying 162 = some (.pointer 156) := by kernel_rfl
theorem tL162 : lay Try.prog 162 = some (false, 1) := by kernel_rfl
theorem tZ162 : zeroOf Try.prog 162 = some [.pointer none] := by kernel_rfl
theorem tL163 : lay Try.prog 163 = some (false, 1) := by kernel_rfl
theorem tZ163 : zeroOf Try.prog 163 = some [.nilFunc] := by kernel_rfl
theorem tL164 : lay Try.prog 164 = some (false, 1) := by kernel_rfl
theorem tZ164 : zeroOf Try.prog 164 = some [.nilFunc] := by kernel_rfl
theorem tL165 : lay Try.prog 165 = some (true, 4) := by kernel_rfl
theorem tZ165 : zeroOf Try.prog 165 = some [.pointer none, .pointer none, .pointer none, .string ByteArray.empty] := by kernel_rfl
theorem tF165x0 : fieldOf Try.prog 165 0 = some (0, false, 1) := by kernel_rfl
theorem tP165x0 : placeOf Try.prog 165 0 = some (0, false, 1) := by kernel_rfl
theorem tF165x1 : fieldOf Try.prog 165 1 = some (1, false, 1) := by kernel_rfl
theorem tP165x1 : placeOf Try.prog 165 1 = some (1, false, 1) := by kernel_rfl
theorem tF165x2 : fieldOf Try.prog 165 2 = some (2, false, 1) := by kernel_rfl
theorem tP165x2 : placeOf Try.prog 165 2 = some (2, false, 1) := by kernel_rfl
theorem tF165x3 : fieldOf Try.prog 165 3 = some (3, false, 1) := by kernel_rfl
theorem tP165x3 : placeOf Try.prog 165 3 = some (3, false, 1) := by kernel_rfl
theorem tK165 : placesOk Try.prog 165 = true := by kernel_rfl
theorem tL166 : lay Try.prog 166 = some (true, 4) := by kernel_rfl
theorem tZ166 : zeroOf Try.prog 166 = some [.pointer none, .pointer none, .pointer none, .string ByteArray.empty] := by kernel_rfl
theorem tF166x0 : fieldOf Try.prog 166 0 = some (0, false, 1) := by kernel_rfl
theorem tP166x0 : placeOf Try.prog 166 0 = some (0, false, 1) := by kernel_rfl
theorem tF166x1 : fieldOf Try.prog 166 1 = some (1, false, 1) := by kernel_rfl
theorem tP166x1 : placeOf Try.prog 166 1 = some (1, false, 1) := by kernel_rfl
theorem tF166x2 : fieldOf Try.prog 166 2 = some (2, false, 1) := by kernel_rfl
theorem tP166x2 : placeOf Try.prog 166 2 = some (2, false, 1) := by kernel_rfl
theorem tF166x3 : fieldOf Try.prog 166 3 = some (3, false, 1) := by kernel_rfl
theorem tP166x3 : placeOf Try.prog 166 3 = some (3, false, 1) := by kernel_rfl
theorem tK166 : placesOk Try.prog 166 = true := by kernel_rfl
theorem tU167 : Try.prog.underlying 167 = some (.array 0 16) := by kernel_rfl
theorem tL167 : lay Try.prog 167 = some (true, 0) := by kernel_rfl
theorem tZ167 : zeroOf Try.prog 167 = some [] := by kernel_rfl
theorem tE167 : elemOfSl Try.prog 167 = none := by kernel_rfl
theorem tR167 : elemOfArr Try.prog 167 = some (0, false, 1) := by kernel_rfl
theorem tK167 : placesOk Try.prog 167 = true := by kernel_rfl
theorem tL168 : lay Try.prog 168 = some (true, 0) := by kernel_rfl
theorem tZ168 : zeroOf Try.prog 168 = some [] := by kernel_rfl
theorem tF168x0 : fieldOf Try.prog 168 0 = some (0, true, 0) := by kernel_rfl
theorem tP168x0 : placeOf Try.prog 168 0 = some (0, true, 0) := by kernel_rfl
theorem tK168 : placesOk Try.prog 168 = true := by kernel_rfl
theorem tL169 : lay Try.prog 169 = some (true, 0) := by kernel_rfl
theorem tZ169 : zeroOf Try.prog 169 = some [] := by kernel_rfl
theorem tF169x0 : fieldOf Try.prog 169 0 = some (0, true, 0) := by kernel_rfl
theorem tP169x0 : placeOf Try.prog 169 0 = some (0, true, 0) := by kernel_rfl
theorem tK169 : placesOk Try.prog 169 = true := by kernel_rfl
theorem tL170 : lay Try.prog 170 = some (false, 1) := by kernel_rfl
theorem tZ170 : zeroOf Try.prog 170 = some [.nilFunc] := by kernel_rfl
theorem tU171 : Try.prog.underlying 171 = some (.int .u8) := by kernel_rfl
theorem tL171 : lay Try.prog 171 = some (false, 1) := by kernel_rfl
theorem tZ171 : zeroOf Try.prog 171 = some [.int .u8 0] := by kernel_rfl
theorem tU172 : Try.prog.underlying 172 = some (.int .u8) := by kernel_rfl
theorem tL172 : lay Try.prog 172 = some (false, 1) := by kernel_rfl
theorem tZ172 : zeroOf Try.prog 172 = some [.int .u8 0] := by kernel_rfl
theorem tL173 : lay Try.prog 173 = some (false, 1) := by kernel_rfl
theorem tZ173 : zeroOf Try.prog 173 = some [.nilFunc] := by kernel_rfl
theorem tU174 : Try.prog.underlying 174 = some (.pointer 5) := by kernel_rfl
theorem tL174 : lay Try.prog 174 = some (false, 1) := by kernel_rfl
theorem tZ174 : zeroOf Try.prog 174 = some [.pointer none] := by kernel_rfl
theorem tU175 : Try.prog.underlying 175 = some (.int .i32) := by kernel_rfl
theorem tL175 : lay Try.prog 175 = some (false, 1) := by kernel_rfl
theorem tZ175 : zeroOf Try.prog 175 = some [.int .i32 0] := by kernel_rfl
theorem tU176 : Try.prog.underlying 176 = some (.int .i32) := by kernel_rfl
theorem tL176 : lay Try.prog 176 = some (false, 1) := by kernel_rfl
theorem tZ176 : zeroOf Try.prog 176 = some [.int .i32 0] := by kernel_rfl
theorem tL177 : lay Try.prog 177 = some (true, 11) := by kernel_rfl
theorem tZ177 : zeroOf Try.prog 177 = some [.int .u64 0, .int .u64 0, .int .u32 0, .int .u8 0, .int .u8 0, .int .u8 0, .int .u8 0, .nilFunc, .pointer none, .int .i32 0, .int .i32 0] := by kernel_rfl
theorem tF177x0 : fieldOf Try.prog 177 0 = some (0, false, 1) := by kernel_rfl
theorem tP177x0 : placeOf Try.prog 177 0 = some (0, false, 1) := by kernel_rfl
theorem tF177x1 : fieldOf Try.prog 177 1 = some (1, false, 1) := by kernel_rfl
theorem tP177x1 : placeOf Try.prog 177 1 = some (1, false, 1) := by kernel_rfl
theorem tF177x2 : fieldOf Try.prog 177 2 = some (2, false, 1) := by kernel_rfl
theorem tP177x2 : placeOf Try.prog 177 2 = some (2, false, 1) := by kernel_rfl
theorem tF177x3 : fieldOf Try.prog 177 3 = some (3, false, 1) := by kernel_rfl
theorem tP177x3 : placeOf Try.prog 177 3 = some (3, false, 1) := by kernel_rfl
theorem tF177x4 : fieldOf Try.prog 177 4 = some (4, false, 1) := by kernel_rfl
theorem tP177x4 : placeOf Try.prog 177 4 = some (4, false, 1) := by kernel_rfl
theorem tF177x5 : fieldOf Try.prog 177 5 = some (5, false, 1) := by kernel_rfl
theorem tP177x5 : placeOf Try.prog 177 5 = some (5, false, 1) := by kernel_rfl
theorem tF177x6 : fieldOf Try.prog 177 6 = some (6, false, 1) := by kernel_rfl
theorem tP177x6 : placeOf Try.prog 177 6 = some (6, false, 1) := by kernel_rfl
theorem tF177x7 : fieldOf Try.prog 177 7 = some (7, false, 1) := by kernel_rfl
theorem tP177x7 : placeOf Try.prog 177 7 = some (7, false, 1) := by kernel_rfl
theorem tF177x8 : fieldOf Try.prog 177 8 = some (8, false, 1) := by kernel_rfl
theorem tP177x8 : placeOf Try.prog 177 8 = some (8, false, 1) := by kernel_rfl
theorem tF177x9 : fieldOf Try.prog 177 9 = some (9, false, 1) := by kernel_rfl
theorem tP177x9 : placeOf Try.prog 177 9 = some (9, false, 1) := by kernel_rfl
theorem tF177x10 : fieldOf Try.prog 177 10 = some (10, false, 1) := by kernel_rfl
theorem tP177x10 : placeOf Try.prog 177 10 = some (10, false, 1) := by kernel_rfl
theorem tK177 : placesOk Try.prog 177 = true := by kernel_rfl
theorem tL178 : lay Try.prog 178 = some (true, 11) := by kernel_rfl
theorem tZ178 : zeroOf Try.prog 178 = some [.int .u64 0, .int .u64 0, .int .u32 0, .int .u8 0, .int .u8 0, .int .u8 0, .int .u8 0, .nilFunc, .pointer none, .int .i32 0, .int .i32 0] := by kernel_rfl
theorem tF178x0 : fieldOf Try.prog 178 0 = some (0, false, 1) := by kernel_rfl
theorem tP178x0 : placeOf Try.prog 178 0 = some (0, false, 1) := by kernel_rfl
theorem tF178x1 : fieldOf Try.prog 178 1 = some (1, false, 1) := by kernel_rfl
theorem tP178x1 : placeOf Try.prog 178 1 = some (1, false, 1) := by kernel_rfl
theorem tF178x2 : fieldOf Try.prog 178 2 = some (2, false, 1) := by kernel_rfl
theorem tP178x2 : placeOf Try.prog 178 2 = some (2, false, 1) := by kernel_rfl
theorem tF178x3 : fieldOf Try.prog 178 3 = some (3, false, 1) := by kernel_rfl
theorem tP178x3 : placeOf Try.prog 178 3 = some (3, false, 1) := by kernel_rfl
theorem tF178x4 : fieldOf Try.prog 178 4 = some (4, false, 1) := by kernel_rfl
theorem tP178x4 : placeOf Try.prog 178 4 = some (4, false, 1) := by kernel_rfl
theorem tF178x5 : fieldOf Try.prog 178 5 = some (5, false, 1) := by kernel_rfl
theorem tP178x5 : placeOf Try.prog 178 5 = some (5, false, 1) := by kernel_rfl
theorem tF178x6 : fieldOf Try.prog 178 6 = some (6, false, 1) := by kernel_rfl
theorem tP178x6 : placeOf Try.prog 178 6 = some (6, false, 1) := by kernel_rfl
theorem tF178x7 : fieldOf Try.prog 178 7 = some (7, false, 1) := by kernel_rfl
theorem tP178x7 : placeOf Try.prog 178 7 = some (7, false, 1) := by kernel_rfl
theorem tF178x8 : fieldOf Try.prog 178 8 = some (8, false, 1) := by kernel_rfl
theorem tP178x8 : placeOf Try.prog 178 8 = some (8, false, 1) := by kernel_rfl
theorem tF178x9 : fieldOf Try.prog 178 9 = some (9, false, 1) := by kernel_rfl
theorem tP178x9 : placeOf Try.prog 178 9 = some (9, false, 1) := by kernel_rfl
theorem tF178x10 : fieldOf Try.prog 178 10 = some (10, false, 1) := by kernel_rfl
theorem tP178x10 : placeOf Try.prog 178 10 = some (10, false, 1) := by kernel_rfl
theorem tK178 : placesOk Try.prog 178 = true := by kernel_rfl
theorem tL179 : lay Try.prog 179 = some (false, 1) := by kernel_rfl
theorem tZ179 : zeroOf Try.prog 179 = some [.pointer none] := by kernel_rfl
theorem tD3 : zeroD Try.prog 3 = some (.lit (.int .i64 0)) := by kernel_rfl
theorem tD4 : zeroD Try.prog 4 = some (.lit (.bool false)) := by kernel_rfl
theorem tD56 : zeroD Try.prog 56 = some (.agg [.lit (.int .i64 0), .lit (.string ByteArray.empty), .lit (.int .i64 0), .lit (.string ByteArray.empty), .lit (.int .i64 0), .lit (.string ByteArray.empty), .lit (.int .i64 0), .lit (.string ByteArray.empty), .lit (.int .i64 0), .lit (.string ByteArray.empty), .lit (.int .i64 0), .lit (.string ByteArray.empty), .lit (.int .i64 0), .lit (.string ByteArray.empty), .sl [], .lit (.int .i64 0), .lit (.string ByteArray.empty), .lit (.int .i64 0), .lit (.string ByteArray.empty), .lit (.int .i64 0), .lit (.string ByteArray.empty), .sl [], .lit (.int .i64 0), .lit (.string ByteArray.empty), .lit (.int .i64 0), .lit (.string ByteArray.empty), .lit (.int .i64 0), .lit (.string ByteArray.empty), .sl [], .lit (.int .i64 0), .lit (.string ByteArray.empty), .lit (.int .i64 0), .lit (.string ByteArray.empty), .sl [], .sl []]) := by kernel_rfl
set_option linter.defProp false
def TF0 := aI tL1 (aI tZ1 (aI tU2 (aI tL2 (aI tZ2 (aI tU3 (aI tL3 (aI tZ3 (aI tU4 (aI tL4 (aI tZ4 (aI tU5 (aI tL5 (aI tZ5 (aI tU6 (aI tL6 (aI tZ6 (aI tL7 (aI tZ7 (aI tF7x0 (aI tP7x0 (aI tF7x1 (aI tP7x1 (aI tF7x2 (aI tP7x2 (aI tF7x3 (aI tP7x3 (aI tK7 (aI tQ7 (aI tL8 (aI tZ8 (aI tF8x0 (aI tP8x0 (aI tF8x1 (aI tP8x1 (aI tF8x2 (aI tP8x2 (aI tF8x3 (aI tP8x3 tK8))))))))))))))))))))))))))))))))))))))
def TF1 := aI tQ8 (aI tU9 (aI tL9 (aI tZ9 (aI tU10 (aI tL10 (aI tZ10 (aI tU11 (aI tL11 (aI tZ11 (aI tU12 (aI tL12 (aI tZ12 (aI tL13 (aI tZ13 (aI tF13x0 (aI tP13x0 (aI tF13x1 (aI tP13x1 (aI tK13 (aI tL14 (aI tZ14 (aI tF14x0 (aI tP14x0 (aI tF14x1 (aI tP14x1 (aI tK14 (aI tU15 (aI tL15 (aI tZ15 (aI tU16 (aI tL16 (aI tZ16 (aI tU17 (aI tL17 (aI tZ17 (aI tL18 (aI tZ18 (aI tF18x0 tP18x0))))))))))))))))))))))))))))))))))))))
def TF2 := aI tK18 (aI tL19 (aI tZ19 (aI tF19x0 (aI tP19x0 (aI tK19 (aI tL20 (aI tZ20 (aI tU21 (aI tL21 (aI tZ21 (aI tU22 (aI tL22 (aI tZ22 (aI tE22 (aI tA22 (aI tL23 (aI tZ23 (aI tF23x0 (aI tP23x0 (aI tF23x1 (aI tP23x1 (aI tF23x2 (aI tP23x2 (aI tK23 (aI tL24 (aI tZ24 (aI tF24x0 (aI tP24x0 (aI tF24x1 (aI tP24x1 (aI tF24x2 (aI tP24x2 (aI tK24 (aI tU25 (aI tL25 (aI tZ25 (aI tE25 (aI tR25 tP25x0))))))))))))))))))))))))))))))))))))))
def TF3 := aI tP25x1 (aI tP25x2 (aI tP25x3 (aI tK25 (aI tQ25 (aI tL26 (aI tZ26 (aI tU27 (aI tL27 (aI tZ27 (aI tE27 (aI tA27 (aI tL28 (aI tZ28 (aI tF28x0 (aI tP28x0 (aI tK28 (aI tL29 (aI tZ29 (aI tF29x0 (aI tP29x0 (aI tK29 (aI tL30 (aI tZ30 (aI tL31 (aI tZ31 (aI tU32 (aI tL32 (aI tZ32 (aI tE32 (aI tA32 (aI tL33 (aI tZ33 (aI tU34 (aI tL34 (aI tZ34 (aI tE34 (aI tA34 (aI tL35 tZ35))))))))))))))))))))))))))))))))))))))
def TF4 := aI tU36 (aI tL36 (aI tZ36 (aI tE36 (aI tA36 (aI tL37 (aI tZ37 (aI tF37x0 (aI tP37x0 (aI tF37x1 (aI tP37x1 (aI tF37x2 (aI tP37x2 (aI tF37x3 (aI tP37x3 (aI tK37 (aI tL38 (aI tZ38 (aI tF38x0 (aI tP38x0 (aI tF38x1 (aI tP38x1 (aI tF38x2 (aI tP38x2 (aI tF38x3 (aI tP38x3 (aI tK38 (aI tU39 (aI tL39 (aI tZ39 (aI tE39 (aI tA39 (aI tL40 (aI tZ40 (aI tL41 (aI tZ41 (aI tF41x0 (aI tP41x0 (aI tF41x1 tP41x1))))))))))))))))))))))))))))))))))))))
def TF5 := aI tF41x2 (aI tP41x2 (aI tK41 (aI tQ41 (aI tL42 (aI tZ42 (aI tF42x0 (aI tP42x0 (aI tF42x1 (aI tP42x1 (aI tF42x2 (aI tP42x2 (aI tK42 (aI tQ42 (aI tL43 (aI tZ43 (aI tL44 (aI tZ44 (aI tL45 (aI tZ45 (aI tL46 (aI tZ46 (aI tF46x0 (aI tP46x0 (aI tF46x1 (aI tP46x1 (aI tK46 (aI tQ46 (aI tL47 (aI tZ47 (aI tF47x0 (aI tP47x0 (aI tF47x1 (aI tP47x1 (aI tK47 (aI tQ47 (aI tU48 (aI tL48 (aI tZ48 tE48))))))))))))))))))))))))))))))))))))))
def TF6 := aI tA48 (aI tL49 (aI tZ49 (aI tF49x0 (aI tP49x0 (aI tF49x1 (aI tP49x1 (aI tF49x2 (aI tP49x2 (aI tF49x3 (aI tP49x3 (aI tF49x4 (aI tP49x4 (aI tK49 (aI tL50 (aI tZ50 (aI tF50x0 (aI tP50x0 (aI tF50x1 (aI tP50x1 (aI tF50x2 (aI tP50x2 (aI tF50x3 (aI tP50x3 (aI tF50x4 (aI tP50x4 (aI tK50 (aI tL51 (aI tZ51 (aI tF51x0 (aI tP51x0 (aI tF51x1 (aI tP51x1 (aI tF51x2 (aI tP51x2 (aI tK51 (aI tQ51 (aI tL52 (aI tZ52 tF52x0))))))))))))))))))))))))))))))))))))))
def TF7 := aI tP52x0 (aI tF52x1 (aI tP52x1 (aI tF52x2 (aI tP52x2 (aI tK52 (aI tQ52 (aI tU53 (aI tL53 (aI tZ53 (aI tE53 (aI tA53 (aI tU54 (aI tL54 (aI tZ54 (aI tE54 (aI tA54 (aI tL55 (aI tZ55 (aI tF55x0 (aI tP55x0 (aI tF55x1 (aI tP55x1 (aI tF55x2 (aI tP55x2 (aI tF55x3 (aI tP55x3 (aI tF55x4 (aI tP55x4 (aI tF55x5 (aI tP55x5 (aI tF55x6 (aI tP55x6 (aI tF55x7 (aI tP55x7 (aI tF55x8 (aI tP55x8 (aI tF55x9 (aI tP55x9 tF55x10))))))))))))))))))))))))))))))))))))))
def TF8 := aI tP55x10 (aI tF55x11 (aI tP55x11 (aI tK55 (aI tL56 (aI tZ56 (aI tF56x0 (aI tP56x0 (aI tF56x1 (aI tP56x1 (aI tF56x2 (aI tP56x2 (aI tF56x3 (aI tP56x3 (aI tF56x4 (aI tP56x4 (aI tF56x5 (aI tP56x5 (aI tF56x6 (aI tP56x6 (aI tF56x7 (aI tP56x7 (aI tF56x8 (aI tP56x8 (aI tF56x9 (aI tP56x9 (aI tF56x10 (aI tP56x10 (aI tF56x11 (aI tP56x11 (aI tK56 (aI tL57 (aI tZ57 (aI tL58 (aI tZ58 (aI tL59 (aI tZ59 (aI tU60 (aI tL60 tZ60))))))))))))))))))))))))))))))))))))))
def TF9 := aI tE60 (aI tA60 (aI tL61 (aI tZ61 (aI tL62 (aI tZ62 (aI tU63 (aI tL63 (aI tZ63 (aI tE63 (aI tR63 (aI tP63x0 (aI tP63x1 (aI tK63 (aI tQ63 (aI tL64 (aI tZ64 (aI tU65 (aI tL65 (aI tZ65 (aI tE65 (aI tR65 (aI tP65x0 (aI tP65x1 (aI tK65 (aI tQ65 (aI tL66 (aI tZ66 (aI tL67 (aI tZ67 (aI tL68 (aI tZ68 (aI tL69 (aI tZ69 (aI tL70 (aI tZ70 (aI tL71 (aI tZ71 (aI tL72 tZ72))))))))))))))))))))))))))))))))))))))
def TF10 := aI tL73 (aI tZ73 (aI tF73x0 (aI tP73x0 (aI tF73x1 (aI tP73x1 (aI tK73 (aI tL74 (aI tZ74 (aI tF74x0 (aI tP74x0 (aI tF74x1 (aI tP74x1 (aI tK74 (aI tL75 (aI tZ75 (aI tL76 (aI tZ76 (aI tU77 (aI tL77 (aI tZ77 (aI tE77 (aI tR77 (aI tP77x0 (aI tP77x1 (aI tK77 (aI tQ77 (aI tL78 (aI tZ78 (aI tL79 (aI tZ79 (aI tF79x0 (aI tP79x0 (aI tF79x1 (aI tP79x1 (aI tK79 (aI tQ79 (aI tL80 (aI tZ80 tF80x0))))))))))))))))))))))))))))))))))))))
def TF11 := aI tP80x0 (aI tF80x1 (aI tP80x1 (aI tK80 (aI tQ80 (aI tL81 (aI tZ81 (aI tU82 (aI tL82 (aI tZ82 (aI tU83 (aI tL83 (aI tZ83 (aI tU84 (aI tL84 (aI tZ84 (aI tE84 (aI tA84 (aI tL85 (aI tZ85 (aI tF85x0 (aI tP85x0 (aI tF85x1 (aI tP85x1 (aI tF85x2 (aI tP85x2 (aI tK85 (aI tL86 (aI tZ86 (aI tF86x0 (aI tP86x0 (aI tF86x1 (aI tP86x1 (aI tF86x2 (aI tP86x2 (aI tK86 (aI tU87 (aI tL87 (aI tZ87 tU88))))))))))))))))))))))))))))))))))))))
def TF12 := aI tL88 (aI tZ88 (aI tL89 (aI tZ89 (aI tF89x0 (aI tP89x0 (aI tF89x1 (aI tP89x1 (aI tF89x2 (aI tP89x2 (aI tK89 (aI tL90 (aI tZ90 (aI tF90x0 (aI tP90x0 (aI tF90x1 (aI tP90x1 (aI tF90x2 (aI tP90x2 (aI tK90 (aI tL91 (aI tZ91 (aI tL93 (aI tZ93 (aI tL94 (aI tZ94 (aI tL95 (aI tZ95 (aI tL96 (aI tZ96 (aI tL97 (aI tZ97 (aI tL98 (aI tZ98 (aI tL99 (aI tZ99 (aI tL100 (aI tZ100 (aI tL101 tZ101))))))))))))))))))))))))))))))))))))))
def TF13 := aI tU102 (aI tL102 (aI tZ102 (aI tE102 (aI tA102 (aI tL103 (aI tZ103 (aI tL104 (aI tZ104 (aI tL105 (aI tZ105 (aI tU106 (aI tL106 (aI tZ106 (aI tL107 (aI tZ107 (aI tL109 (aI tZ109 (aI tL110 (aI tZ110 (aI tL111 (aI tZ111 (aI tL112 (aI tZ112 (aI tU113 (aI tL113 (aI tZ113 (aI tL114 (aI tZ114 (aI tL115 (aI tZ115 (aI tL116 (aI tZ116 (aI tL118 (aI tZ118 (aI tL119 (aI tZ119 (aI tL120 (aI tZ120 tL121))))))))))))))))))))))))))))))))))))))
def TF14 := aI tZ121 (aI tL122 (aI tZ122 (aI tL123 (aI tZ123 (aI tL124 (aI tZ124 (aI tL125 (aI tZ125 (aI tL126 (aI tZ126 (aI tL127 (aI tZ127 (aI tL128 (aI tZ128 (aI tL129 (aI tZ129 (aI tL130 (aI tZ130 (aI tL131 (aI tZ131 (aI tL132 (aI tZ132 (aI tL133 (aI tZ133 (aI tL134 (aI tZ134 (aI tL135 (aI tZ135 (aI tL136 (aI tZ136 (aI tL137 (aI tZ137 (aI tL138 (aI tZ138 (aI tL139 (aI tZ139 (aI tU140 (aI tL140 tZ140))))))))))))))))))))))))))))))))))))))
def TF15 := aI tL141 (aI tZ141 (aI tL142 (aI tZ142 (aI tL143 (aI tZ143 (aI tL144 (aI tZ144 (aI tU145 (aI tL145 (aI tZ145 (aI tL147 (aI tZ147 (aI tL148 (aI tZ148 (aI tL149 (aI tZ149 (aI tL150 (aI tZ150 (aI tL151 (aI tZ151 (aI tU152 (aI tL152 (aI tZ152 (aI tL153 (aI tZ153 (aI tU154 (aI tL154 (aI tZ154 (aI tL155 (aI tZ155 (aI tU156 (aI tL156 (aI tZ156 (aI tL157 (aI tZ157 (aI tL158 (aI tZ158 (aI tL159 tZ159))))))))))))))))))))))))))))))))))))))
def TF16 := aI tU160 (aI tL160 (aI tZ160 (aI tL161 (aI tZ161 (aI tU162 (aI tL162 (aI tZ162 (aI tL163 (aI tZ163 (aI tL164 (aI tZ164 (aI tL165 (aI tZ165 (aI tF165x0 (aI tP165x0 (aI tF165x1 (aI tP165x1 (aI tF165x2 (aI tP165x2 (aI tF165x3 (aI tP165x3 (aI tK165 (aI tL166 (aI tZ166 (aI tF166x0 (aI tP166x0 (aI tF166x1 (aI tP166x1 (aI tF166x2 (aI tP166x2 (aI tF166x3 (aI tP166x3 (aI tK166 (aI tU167 (aI tL167 (aI tZ167 (aI tE167 (aI tR167 tK167))))))))))))))))))))))))))))))))))))))
def TF17 := aI tL168 (aI tZ168 (aI tF168x0 (aI tP168x0 (aI tK168 (aI tL169 (aI tZ169 (aI tF169x0 (aI tP169x0 (aI tK169 (aI tL170 (aI tZ170 (aI tU171 (aI tL171 (aI tZ171 (aI tU172 (aI tL172 (aI tZ172 (aI tL173 (aI tZ173 (aI tU174 (aI tL174 (aI tZ174 (aI tU175 (aI tL175 (aI tZ175 (aI tU176 (aI tL176 (aI tZ176 (aI tL177 (aI tZ177 (aI tF177x0 (aI tP177x0 (aI tF177x1 (aI tP177x1 (aI tF177x2 (aI tP177x2 (aI tF177x3 (aI tP177x3 tF177x4))))))))))))))))))))))))))))))))))))))
def TF18 := aI tP177x4 (aI tF177x5 (aI tP177x5 (aI tF177x6 (aI tP177x6 (aI tF177x7 (aI tP177x7 (aI tF177x8 (aI tP177x8 (aI tF177x9 (aI tP177x9 (aI tF177x10 (aI tP177x10 (aI tK177 (aI tL178 (aI tZ178 (aI tF178x0 (aI tP178x0 (aI tF178x1 (aI tP178x1 (aI tF178x2 (aI tP178x2 (aI tF178x3 (aI tP178x3 (aI tF178x4 (aI tP178x4 (aI tF178x5 (aI tP178x5 (aI tF178x6 (aI tP178x6 (aI tF178x7 (aI tP178x7 (aI tF178x8 (aI tP178x8 (aI tF178x9 (aI tP178x9 (aI tF178x10 (aI tP178x10 (aI tK178 tL179))))))))))))))))))))))))))))))))))))))
def TF19 := aI tZ179 (aI tD3 (aI tD4 tD56))
def TF := aI TF0 (aI TF1 (aI TF2 (aI TF3 (aI TF4 (aI TF5 (aI TF6 (aI TF7 (aI TF8 (aI TF9 (aI TF10 (aI TF11 (aI TF12 (aI TF13 (aI TF14 (aI TF15 (aI TF16 (aI TF17 (aI TF18 TF19))))))))))))))))))
end Go.Proofs.Ytejpmjnefokdoaa

namespace Go.Proofs.Ytejpmjnefokdoaa
open Go.Aw
/-! ### Data -/
/-- Strings and numbers as long and as large as they can be. -/
abbrev Str := {s : ByteArray // s.size ≤ maxLen}
abbrev I64 := {n : Int // (Lit.int .i64 n).wf = true}
structure Num where
 n : Int
 p : Str
 deriving DecidableEq
structure Rule where
 kind : Int
 from' : Str
 n : Int
 deriving DecidableEq
structure Bind where
 port : Str
 chan : Str
 deriving DecidableEq
inductive Expr where
 | mk (op : Int) (name : Str) (k w : Num) (args : List Expr)
def Expr.op : Expr → Int | .mk o _ _ _ _ => o
def Expr.name : Expr → Str | .mk _ n _ _ _ => n
def Expr.k : Expr → Num | .mk _ _ k _ _ => k
def Expr.w : Expr → Num | .mk _ _ _ w _ => w
def Expr.args : Expr → List Expr | .mk _ _ _ _ a => a
structure Item where
 kind : I64
 name : Str
 width : Num
 depth : Num
 init : Num
 a : Expr
 b : Expr
 c : Expr
 rule : Rule
 of : Str
 args : List Num
 ports : List Bind
structure Module where
 name : Str
 clock : Str
 params : List Str
 items : List Item
structure Problem where
 code : Int
 module : Int
 item : Int
 deriving DecidableEq
def eU8 (n : Nat) : D := .lit (.int .u8 n)
def eI (n : Int) : D := .lit (.int .i64 n)
def eB (b : Bool) : D := .lit (.bool b)
def eS (s : Str) : D := .lit (.string s.1)
theorem str_eq (x y : Str) : decide (x.1 = y.1) = decide (x = y) := by rw [decide_eq_decide]; exact Subtype.ext_iff.symm
def eNum (x : Num) : List D := [eI x.n, eS x.p]
def eRule (x : Rule) : List D := [eI x.kind, eS x.from', eI x.n]
def eBind (x : Bind) : List D := [eS x.port, eS x.chan]
def eProb (x : Problem) : List D := [eI x.code, eI x.module, eI x.item]
def eStrs (l : List Str) : D := .sl (l.map fun s => [eS s])
def eInts (l : List Int) : D := .sl (l.map fun s => [eI s])
def eNums (l : List Num) : D := .sl (l.map eNum)
def eBinds (l : List Bind) : D := .sl (l.map eBind)
def eProbs (l : List Problem) : D := .sl (l.map eProb)
def eBytes (l : List Nat) : D := .sl (l.map fun n => [eU8 n])
mutual
def eExpr : Expr → List D
 | .mk o n k w a => [eI o, eS n, eI k.n, eS k.p, eI w.n, eS w.p, .sl (eExprL a)]
def eExprL : List Expr → List (List D)
 | [] => []
 | e :: r => eExpr e :: eExprL r
end
theorem eExprL_map : ∀ l : List Expr, eExprL l = l.map eExpr
 | [] => by simp [eExprL]
 | e :: r => by simp [eExprL, eExprL_map r]
theorem eExpr_eq (e : Expr) : eExpr e = [eI e.op, eS e.name, eI e.k.n, eS e.k.p, eI e.w.n, eS e.w.p, .sl (e.args.map eExpr)] := by
 cases e; simp [eExpr, eExprL_map, Expr.op, Expr.name, Expr.k, Expr.w, Expr.args]
def eExprs (l : List Expr) : D := .sl (l.map eExpr)
def eItem (x : Item) : List D := eI x.kind.1 :: eS x.name :: (eNum x.width ++ (eNum x.depth ++ (eNum x.init ++ (eExpr x.a ++ (eExpr x.b ++ (eExpr x.c ++ (eRule x.rule ++ [eS x.of, eNums x.args, eBinds x.ports])))))))
def eItems (l : List Item) : D := .sl (l.map eItem)
def eModule (m : Module) : List D := [eS m.name, eS m.clock, eStrs m.params, eItems m.items]
def eModules (l : List Module) : D := .sl (l.map eModule)
/-- Regions walked with chains. -/
def chL (i : Nat) : List Gh := if 2000 ≤ i then [.chn] else []
set_option linter.defProp false
def KD := And.intro @str_eq (And.intro @chL.eq_1 (And.intro @eU8.eq_1 (And.intro @eI.eq_1 (And.intro @eB.eq_1 (And.intro @eS.eq_1 (And.intro @eNum.eq_1 (And.intro @eRule.eq_1 (And.intro @eBind.eq_1 (And.intro @eProb.eq_1 (And.intro @eStrs.eq_1 (And.intro @eInts.eq_1 (And.intro @eNums.eq_1 (And.intro @eBinds.eq_1 (And.intro @eProbs.eq_1 (And.intro @eBytes.eq_1 (And.intro @eExpr_eq (And.intro @eExprs.eq_1 (And.intro @eItem.eq_1 (And.intro @eItems.eq_1 (And.intro @eModule.eq_1 @eModules.eq_1))))))))))))))))))))
theorem zA.{u} {α : Sort u} (a : α) : (a = a) = True := eq_self a
theorem zB.{u} {α : Sort u} (a b : α) : (a ≠ b) = ¬(a = b) := ne_eq a b
theorem zC.{u} (α : Sort u) : (α → True) = True := implies_true α
theorem zD.{u} {b : Prop} (α : Sort u) [i : Nonempty α] : (α → b) ↔ b := forall_const α
theorem zF.{u} {α : Sort u} {i : Decidable True} (t e : α) : ite True t e = t := if_true t e
theorem zG.{u} {α : Sort u} {i : Decidable False} (t e : α) : ite False t e = e := if_false t e
theorem zH.{u} {α : Sort u} (a b : α) : cond true a b = a := rfl
theorem zI.{u} {α : Sort u} (a b : α) : cond false a b = b := rfl
theorem zJ.{u} {α : Sort u} {p : α → Prop} {c : α} : (∀ a, a = c → p a) ↔ p c := forall_eq
def ZZ := And.intro @zA.{1} (And.intro @zB.{1} (And.intro @zC.{0} (And.intro @zC.{1} (And.intro @zD.{0} (And.intro @zD.{1} (And.intro @zF.{1} (And.intro @zG.{1} (And.intro @zH.{1} (And.intro @zI.{1} @zJ.{1})))))))))
def ZY := And.intro GE (And.intro ZZ (And.intro @List.replicate.eq_1.{0} @List.replicate.eq_2.{0}))
def ZE := And.intro SE (And.intro SX (And.intro TF (And.intro KD ZY)))
def ZM := And.intro SE (And.intro SXm (And.intro TF (And.intro KD ZY)))
def zN := And.intro Nat.zero_add Int.natCast_one
end Go.Proofs.Ytejpmjnefokdoaa

namespace Go.Proofs.Ytejpmjnefokdoaa
open Go.Aw
open Nat renaming reduceEqDiff → pE, reduceLT → pL, reduceAdd → pA, reduceSub → pS, reduceMul → pM, reduceLeDiff → pD
open Int renaming reduceToNat → qT, reduceGT → qG, reduceLT → qL, reduceGE → qH, reduceBNe → qN, reduceBEq → qB, reduceLE → qE, reduceNe → qO, reduceAdd → qA, reduceNeg → qM
set_option maxRecDepth 100000
set_option maxHeartbeats 1000000
theorem getD_map {α β : Type} {f : α → β} {l : List α} {i : Nat} (h : i < l.length) (d : β) : (l.map f).getD i d = f l[i] := by simp [List.getD, h]
theorem dec_lt {i n : Nat} (h : i < n) : decide ((i : Int) < (n : Int)) = true := by simp; omega
theorem dec_ge {i n : Nat} (h : n ≤ i) : decide ((i : Int) < (n : Int)) = false := by simp; omega
theorem lt_int {i n : Nat} (h : i < n) : (0 ≤ (i : Int) ∧ (i : Int) < (n : Int)) = True := by simp; omega
theorem wrap_id {x : Int} (h0 : -9223372036854775808 ≤ x) (h1 : x ≤ 9223372036854775807) : IntKind.i64.wrap x = x := by
 simp only [IntKind.wrap, IntKind.bits, IntKind.signed]
 simp
 omega
theorem wrap_succ {i : Nat} (h : i < 9223372036854775807) : IntKind.i64.wrap ((i : Int) + 1) = ((i + 1 : Nat) : Int) := by
 rw [wrap_id (by omega) (by omega)]; simp
theorem ok_len {es : List (List D)} (h : (D.sl es).ok) : es.length ≤ 9223372036854775807 := by
 simp only [D.ok] at h; have := h.1; unfold maxLen at this; omega
theorem okL_cons {x : D} {xs : List D} (h : D.okL (x :: xs)) : x.ok ∧ D.okL xs := by simpa only [D.okL] using h
theorem ok_map {α : Type} {f : α → List D} {l : List α} (h : (D.sl (l.map f)).ok) : l.length ≤ 9223372036854775807 ∧ ∀ x ∈ l, D.okL (f x) := by
 refine ⟨by simpa using ok_len h, fun x hx => ?_⟩
 simp only [D.ok] at h
 exact okLL_mem h.2 _ (List.mem_map.2 ⟨x, hx, rfl⟩)
theorem natCast_beq (a b : Nat) : ((a : Int) == (b : Int)) = (a == b) := by
 rw [Bool.eq_iff_iff, beq_iff_eq, beq_iff_eq]; omega
theorem natCast_bne (a b : Nat) : ((a : Int) != (b : Int)) = (a != b) := by rw [bne, bne, natCast_beq]

def declares (k : Int) : Bool := decide (1 ≤ k) && decide (k ≤ 6) || k == 9
theorem declares_c (k : Int) : FnP Try.prog 45 [eI k] (.d (eB (declares k))) [] := by
 refine FnP.of_eC (own := []) chL mixed Try.func45 rfl Try.call45 Try.ntmps45 (Nat.le_of_ble_eq_true rfl) Try.results45 (fun hok => ?_)
 simp only [ZE,↓reduceIte,pE,pL,pA,pS,pM,pD, zN,qT,qG,qL,qH,qN,qB,qE,qO,qA,qM]
 rfl

def arity (k : Int) : Int :=
 if (k == 1 || k == 14) = true then 0
 else if (k == 2 || k == 12 || k == 13 || k == 15) = true then 1
 else if (k == 10) = true then 3
 else if (decide (2 < k) && decide (k < 12)) = true then 2
 else -1
theorem arity_c (k : Int) : FnP Try.prog 65 [eI k] (.d (eI (arity k))) [] := by
 refine FnP.of_eC (own := []) chL mixed Try.func65 rfl Try.call65 Try.ntmps65 (Nat.le_of_ble_eq_true rfl) Try.results65 (fun hok => ?_)
 simp only [ZE,↓reduceIte,pE,pL,pA,pS,pM,pD, zN,qT,qG,qL,qH,qN,qB,qE,qO,qA,qM]
 unfold arity
 refine iteI (fun h => ?_) (fun h => ?_)
 ·simp only [h, if_true]
 refine iteI (fun h2 => ?_) (fun h2 => ?_)
 ·simp only [h, h2, if_true, Bool.false_eq_true, if_false]
 refine iteI (fun h3 => ?_) (fun h3 => ?_)
 ·simp only [h, h2, h3, if_true, Bool.false_eq_true, if_false]
 simp only [GT.gt]
 refine iteI (fun h4 => ?_) (fun h4 => ?_)
 ·simp only [h, h2, h3, h4, if_true, Bool.false_eq_true, if_false]
 ·simp only [h, h2, h3, h4, Bool.false_eq_true, if_false]

/-- The first place of an element. -/
def idx {α : Type} [DecidableEq α] (l : List α) (x : α) : Int := match l.findIdx? (fun y => decide (x = y)) with | some i => (i : Int) | none => -1
theorem idx_some {α : Type} [DecidableEq α] {l : List α} {x : α} {i : Nat} (h : i < l.length) (hx : x = l[i]) (hn : ∀ j (hj : j < i), x ≠ l[j]) : idx l x = i := by
 unfold idx
 have : l.findIdx? (fun y => decide (x = y)) = some i := by
  rw [List.findIdx?_eq_some_iff_getElem]
  exact ⟨h, by simpa using hx, fun j hj => by simpa using hn j hj⟩
 rw [this]
theorem idx_none {α : Type} [DecidableEq α] {l : List α} {x : α} (hn : ∀ j (hj : j < l.length), x ≠ l[j]) : idx l x = -1 := by
 unfold idx
 have : l.findIdx? (fun y => decide (x = y)) = none := by
  rw [List.findIdx?_eq_none_iff]
  intro y hy
  obtain ⟨j, hj, rfl⟩ := List.getElem_of_mem hy
  simpa using hn j hj
 rw [this]
/-- Is it in the list? -/
def has {α : Type} [DecidableEq α] (l : List α) (x : α) : Bool := l.any fun y => decide (x = y)
theorem has_iff {α : Type} [DecidableEq α] {l : List α} {x : α} : has l x = true ↔ x ∈ l := by
 unfold has
 rw [List.any_eq_true]
 exact ⟨fun ⟨y, h1, h2⟩ => by rw [of_decide_eq_true h2]; exact h1, fun h => ⟨x, h, by simp⟩⟩
theorem idx_nonneg {α : Type} [DecidableEq α] (l : List α) (x : α) : decide (idx l x ≥ 0) = has l x := by
 rw [Bool.eq_iff_iff, has_iff, decide_eq_true_eq]
 unfold idx
 split
 ·rename_i i h
  rw [List.findIdx?_eq_some_iff_getElem] at h
  obtain ⟨h1, h2, _⟩ := h
  have : x ∈ l := by rw [of_decide_eq_true h2]; exact List.getElem_mem h1
  simp [this]
 ·rename_i h
  rw [List.findIdx?_eq_none_iff] at h
  have : x ∉ l := fun hx => by simpa using h x hx
  simp [this]
theorem beq_dec (a b : Int) : (a == b) = decide (a = b) := rfl

theorem indexI_c (l : List Int) (x : Int) : FnP Try.prog 89 [eInts l, eI x] (.d (eI (idx l x))) [] := by
 refine FnP.of_eC (own := []) chL mixed Try.func89 rfl Try.call89 Try.ntmps89 (Nat.le_of_ble_eq_true rfl) Try.results89 (fun hok => ?_)
 obtain ⟨hl, _⟩ := ok_map (okL_cons hok).1
 simp only [ZE,↓reduceIte,pE,pL,pA,pS,pM,pD, zN,qT,qG,qL,qH,qN,qB,qE,qO,qA,qM]
 refine eloop chL mixed l.length (fun i => ∀ j (_ : j < i) (hj : j < l.length), x ≠ l[j]) (fun i => ([(0, .d (eInts l)), (1, .d (eI x)), (7, .d (eI l.length)), (8, .d (eI i))], [])) (by simp) (by simp only [ZE,↓reduceIte,pE,pL,pA,pS,pM,pD, zN,qT,qG,qL,qH,qN,qB,qE,qO,qA,qM]) (by simp only [ZE,↓reduceIte,pE,pL,pA,pS,pM,pD]) (fun i hi hI => ?_)
 rcases Nat.lt_or_ge i l.length with h | h
 ·have hw := wrap_succ (show i < 9223372036854775807 by omega)
  simp only [ZE,↓reduceIte,pE,pL,pA,pS,pM,pD, dec_lt h, getD_map h, lt_int h, hw, beq_dec]
  refine iteI (fun h3 => ?_) (fun h3 => ⟨h, fun j hj hj' => ?_⟩)
  ·rw [idx_some h (of_decide_eq_true h3) (fun j hj => hI j hj (by omega))]
  ·rcases Nat.lt_succ_iff_lt_or_eq.1 hj with hj | rfl
   ·exact hI j hj hj'
   ·exact of_decide_eq_false h3
 ·simp only [ZE,↓reduceIte,pE,pL,pA,pS,pM,pD, dec_ge h]
  rw [idx_none (fun j hj => hI j (by omega) hj)]
theorem containsI_c (l : List Int) (x : Int) : FnP Try.prog 77 [eInts l, eI x] (.d (eB (has l x))) [] := by
 refine FnP.of_eC (own := []) chL mixed Try.func77 rfl Try.call77 Try.ntmps77 (Nat.le_of_ble_eq_true rfl) Try.results77 (fun hok => ?_)
 simp only [ZE,↓reduceIte,pE,pL,pA,pS,pM,pD, zN,qT,qG,qL,qH,qN,qB,qE,qO,qA,qM]
 refine EFn.p ?_
 simp (maxSteps := 4000000) only [ZE,↓reduceIte,pE,pL,pA,pS,pM,pD]
 have hc := indexI_c l x
 simp (maxSteps := 4000000) only [ZE,↓reduceIte,pE,pL,pA,pS,pM,pD] at hc
 refine ECall.i hc ?_
 clear hc
 simp only [ZE,↓reduceIte,pE,pL,pA,pS,pM,pD, zN,qT,qG,qL,qH,qN,qB,qE,qO,qA,qM, idx_nonneg]
theorem indexS_c (l : List Str) (x : Str) : FnP Try.prog 61 [eStrs l, eS x] (.d (eI (idx l x))) [] := by
 refine FnP.of_eC (own := []) chL mixed Try.func61 rfl Try.call61 Try.ntmps61 (Nat.le_of_ble_eq_true rfl) Try.results61 (fun hok => ?_)
 obtain ⟨hl, _⟩ := ok_map (okL_cons hok).1
 simp only [ZE,↓reduceIte,pE,pL,pA,pS,pM,pD, zN,qT,qG,qL,qH,qN,qB,qE,qO,qA,qM]
 refine eloop chL mixed l.length (fun i => ∀ j (_ : j < i) (hj : j < l.length), x ≠ l[j]) (fun i => ([(0, .d (eStrs l)), (1, .d (eS x)), (7, .d (eI l.length)), (8, .d (eI i))], [])) (by simp) (by simp only [ZE,↓reduceIte,pE,pL,pA,pS,pM,pD, zN,qT,qG,qL,qH,qN,qB,qE,qO,qA,qM]) (by simp only [ZE,↓reduceIte,pE,pL,pA,pS,pM,pD]) (fun i hi hI => ?_)
 rcases Nat.lt_or_ge i l.length with h | h
 ·have hw := wrap_succ (show i < 9223372036854775807 by omega)
  simp only [ZE,↓reduceIte,pE,pL,pA,pS,pM,pD, dec_lt h, getD_map h, lt_int h, hw]
  refine iteI (fun h3 => ?_) (fun h3 => ⟨h, fun j hj hj' => ?_⟩)
  ·rw [idx_some h (of_decide_eq_true h3) (fun j hj => hI j hj (by omega))]
  ·rcases Nat.lt_succ_iff_lt_or_eq.1 hj with hj | rfl
   ·exact hI j hj hj'
   ·exact of_decide_eq_false h3
 ·simp only [ZE,↓reduceIte,pE,pL,pA,pS,pM,pD, dec_ge h]
  rw [idx_none (fun j hj => hI j (by omega) hj)]
theorem containsS_c (l : List Str) (x : Str) : FnP Try.prog 46 [eStrs l, eS x] (.d (eB (has l x))) [] := by
 refine FnP.of_eC (own := []) chL mixed Try.func46 rfl Try.call46 Try.ntmps46 (Nat.le_of_ble_eq_true rfl) Try.results46 (fun hok => ?_)
 simp only [ZE,↓reduceIte,pE,pL,pA,pS,pM,pD, zN,qT,qG,qL,qH,qN,qB,qE,qO,qA,qM]
 refine EFn.p ?_
 simp (maxSteps := 4000000) only [ZE,↓reduceIte,pE,pL,pA,pS,pM,pD]
 have hc := indexS_c l x
 simp (maxSteps := 4000000) only [ZE,↓reduceIte,pE,pL,pA,pS,pM,pD] at hc
 refine ECall.i hc ?_
 clear hc
 simp only [ZE,↓reduceIte,pE,pL,pA,pS,pM,pD, zN,qT,qG,qL,qH,qN,qB,qE,qO,qA,qM, idx_nonneg]
end Go.Proofs.Ytejpmjnefokdoaa

namespace Go.Proofs.Ytejpmjnefokdoaa
open Go.Aw
open Nat renaming reduceEqDiff → pE, reduceLT → pL, reduceAdd → pA, reduceSub → pS, reduceMul → pM, reduceLeDiff → pD
open Int renaming reduceToNat → qT, reduceGT → qG, reduceLT → qL, reduceGE → qH, reduceBNe → qN, reduceBEq → qB, reduceLE → qE, reduceNe → qO, reduceAdd → qA, reduceNeg → qM
set_option maxRecDepth 100000
set_option maxHeartbeats 1000000
/-- The byte at a place. -/
def byteAt (s : ByteArray) (i : Nat) : Nat := (s.data.getD i 0).toNat
def letterB (b : Nat) : Bool := decide ((97 : Int) ≤ b) && decide ((b : Int) ≤ 122)
def digitB (b : Nat) : Bool := decide ((48 : Int) ≤ b) && decide ((b : Int) ≤ 57)
def nameAt (s : ByteArray) (i : Nat) : Bool := letterB (byteAt s i) || (decide (i ≠ 0) && digitB (byteAt s i))
def isName (s : ByteArray) : Bool := !((s.size : Int) == 0 || decide ((s.size : Int) > 16)) && (List.range s.size).all (nameAt s)
theorem nameAt_eq (s : ByteArray) (i : Nat) : (!(decide ((97 : Int) ≤ ((s.data.getD i 0).toNat : Int)) && decide (((s.data.getD i 0).toNat : Int) ≤ 122)) && ((i : Int) == 0 || !(decide ((48 : Int) ≤ ((s.data.getD i 0).toNat : Int)) && decide (((s.data.getD i 0).toNat : Int) ≤ 57)))) = !nameAt s i := by
 unfold nameAt letterB digitB byteAt
 have : ((i : Int) == 0) = !decide (i ≠ 0) := by rw [Bool.eq_iff_iff]; simp
 rw [this]
 simp only [Bool.not_or, Bool.not_and, Bool.not_not]
theorem name_c' (s : ByteArray) : FnP Try.prog 24 [.lit (.string s)] (.d (eB (isName s))) [] := by
 refine FnP.of_eC (own := []) (fun i => if i = 2006 then [.chn, .ord ⟨[(0, none), (1, none), (2, none), (3, none), (4, none), (5, none), (6, none), (7, none), (8, none), (9, none), (10, none), (11, none), (12, none), (13, none), (14, none), (15, none), (16, none), (17, none), (18, none), (19, none), (20, none), (21, none)]⟩] else chL i) mixed Try.func24 rfl Try.call24 Try.ntmps24 (Nat.le_of_ble_eq_true rfl) Try.results24 (fun hok => ?_)
 simp only [ZE,↓reduceIte,pE,pL,pA,pS,pM,pD, zN,qT,qG,qL,qH,qN,qB,qE,qO,qA,qM]
 unfold isName
 refine iteI (fun h => ?_) (fun h => ?_)
 ·simp only [h, Bool.not_true, Bool.false_and]
 rw [h]
 have hs : s.size ≤ 16 := by
  have := (Bool.or_eq_false_iff.1 h).2
  simp at this
  omega
 refine eloop (fun i => if i = 2006 then [.chn, .ord ⟨[(0, none), (1, none), (2, none), (3, none), (4, none), (5, none), (6, none), (7, none), (8, none), (9, none), (10, none), (11, none), (12, none), (13, none), (14, none), (15, none), (16, none), (17, none), (18, none), (19, none), (20, none), (21, none)]⟩] else chL i) mixed s.size (fun i => ∀ j, j < i → nameAt s j = true) (fun i => ([(0, .d (.lit (.string s))), (15, .d (eI s.size)), (16, .d (eI i))], [])) (by simp) (by simp only [ZE,↓reduceIte,pE,pL,pA,pS,pM,pD, zN,qT,qG,qL,qH,qN,qB,qE,qO,qA,qM]) (by simp only [ZE,↓reduceIte,pE,pL,pA,pS,pM,pD]) (fun i hi hI => ?_)
 rcases Nat.lt_or_ge i s.size with hlt | hge
 ·have hw := wrap_succ (show i < 9223372036854775807 by omega)
  simp only [ZE,↓reduceIte,pE,pL,pA,pS,pM,pD, dec_lt hlt, lt_int hlt, hw, nameAt_eq]
  refine ⟨by kernel_rfl, iteI (fun h3 => ?_) (fun h3 => ?_)⟩
  ·simp only [Bool.not_eq_true', Bool.not_not] at h3
   have : (List.range s.size).all (nameAt s) = false := by
    rw [List.all_eq_false]
    exact ⟨i, List.mem_range.2 hlt, by simp [h3]⟩
   rw [this]
  ·refine ⟨hlt, fun j hj => ?_⟩
   rcases Nat.lt_succ_iff_lt_or_eq.1 hj with hj | rfl
   ·exact hI j hj
   ·simpa using h3
 ·simp only [ZE,↓reduceIte,pE,pL,pA,pS,pM,pD, dec_ge hge]
  have : (List.range s.size).all (nameAt s) = true := List.all_eq_true.2 fun j hj => hI j (by have := List.mem_range.1 hj; omega)
  rw [this]
theorem name_c (s : Str) : FnP Try.prog 24 [eS s] (.d (eB (isName s.1))) [] := name_c' s.1
end Go.Proofs.Ytejpmjnefokdoaa

namespace Go.Proofs.Ytejpmjnefokdoaa
open Go.Aw
open Nat renaming reduceEqDiff → pE, reduceLT → pL, reduceAdd → pA, reduceSub → pS, reduceMul → pM, reduceLeDiff → pD
open Int renaming reduceToNat → qT, reduceGT → qG, reduceLT → qL, reduceGE → qH, reduceBNe → qN, reduceBEq → qB, reduceLE → qE, reduceNe → qO, reduceAdd → qA, reduceNeg → qM
set_option maxRecDepth 100000
set_option maxHeartbeats 1000000
theorem keyedI : Keyed' Try.prog 3 := Go.Maps.int_keyed tU3
theorem keyedS : Keyed' Try.prog 9 := Go.Maps.string_keyed tU9
theorem keyOkI {n : Int} (h : (Lit.int .i64 n).wf = true) : KeyOk Try.prog 3 (.lit (.int .i64 n)) := ⟨.int .i64 n, .int .i64 n, rfl, by unfold keyOf mapKey; simp [tU3, h]⟩
theorem keyOkS (s : Str) : KeyOk Try.prog 9 (.lit (.string s.1)) := ⟨.string s.1, .string s.1.data.toList, rfl, by unfold keyOf mapKey; simp [tU9, s.2]⟩

/-! ### Maps by their entries -/
theorem kidx_nil (k : D) : kidx [] k = 0 := by simp [kidx]
open Classical in
theorem kidx_cons (a : D) (ks : List D) (k : D) : kidx (a :: ks) k = if a = k then 0 else kidx ks k + 1 := by
 unfold kidx
 rw [List.findIdx_cons]
 by_cases h : a = k
 ·simp [h]
 ·simp [h]
theorem mget_nil (vs : List D) (k : D) : mget [] vs k = none := by simp [mget, kidx_nil]
open Classical in
theorem mget_cons (a v : D) (ks vs : List D) (k : D) : mget (a :: ks) (v :: vs) k = if a = k then some v else mget ks vs k := by
 unfold mget
 rw [kidx_cons]
 by_cases h : a = k
 ·simp [h]
 ·simp only [h, if_false, List.length_cons, Nat.add_lt_add_iff_right, List.getElem?_cons_succ]
theorem put_new {ks vs : List D} {bs : List Nat} {c : Nat} {k v : D} (h : k ∉ ks) : putK ks k = ks ++ [k] ∧ putV ks vs k v = vs ++ [v] := by
 have : ¬ kidx ks k < ks.length := fun h' => h (kidx_lt.1 h')
 simp [putK, putV, this]
theorem putK_new {ks : List D} {k : D} (h : k ∉ ks) : putK ks k = ks ++ [k] := (put_new (vs := []) (v := k) (bs := []) (c := 0) h).1
theorem putV_new {ks vs : List D} {k v : D} (h : k ∉ ks) : putV ks vs k v = vs ++ [v] := (put_new (bs := []) (c := 0) h).2
theorem mem_putK {ks : List D} {k y : D} (h : y ∈ putK ks k) : y ∈ ks ∨ y = k := by
 unfold putK at h
 split at h
 ·exact .inl h
 ·simpa using h

def usesN (k : Int) : Nat := if k = 4 then 1 else if k = 5 then 1 else if k = 7 then 1 else if k = 8 then 2 else if k = 6 then 3 else 0
def uses (x : Item) : List Expr := [x.a, x.b, x.c].take (usesN x.kind.1)
theorem uses_c (x : Item) : FnP Try.prog 64 [.agg (eItem x)] (.d (eExprs (uses x))) [] := by
 refine FnP.of_eC (own := []) chL mixed Try.func64 rfl Try.call64 Try.ntmps64 (Nat.le_of_ble_eq_true rfl) Try.results64 (fun hok => ?_)
 have i1 : putK [] (D.lit (.int .i64 4)) = [D.lit (.int .i64 4)] := putK_new (by simp)
 have i2 : putK [D.lit (.int .i64 4)] (D.lit (.int .i64 5)) = [D.lit (.int .i64 4), D.lit (.int .i64 5)] := putK_new (by simp)
 have i3 : putK [D.lit (.int .i64 4), D.lit (.int .i64 5)] (D.lit (.int .i64 7)) = [D.lit (.int .i64 4), D.lit (.int .i64 5), D.lit (.int .i64 7)] := putK_new (by simp)
 have i4 : putK [D.lit (.int .i64 4), D.lit (.int .i64 5), D.lit (.int .i64 7)] (D.lit (.int .i64 8)) = [D.lit (.int .i64 4), D.lit (.int .i64 5), D.lit (.int .i64 7), D.lit (.int .i64 8)] := putK_new (by simp)
 have i5 : putK [D.lit (.int .i64 4), D.lit (.int .i64 5), D.lit (.int .i64 7), D.lit (.int .i64 8)] (D.lit (.int .i64 6)) = [D.lit (.int .i64 4), D.lit (.int .i64 5), D.lit (.int .i64 7), D.lit (.int .i64 8), D.lit (.int .i64 6)] := putK_new (by simp)
 have j1 : ∀ v, putV [] [] (D.lit (.int .i64 4)) v = [v] := fun v => putV_new (by simp)
 have j2 : ∀ vs v, putV [D.lit (.int .i64 4)] vs (D.lit (.int .i64 5)) v = vs ++ [v] := fun vs v => putV_new (by simp)
 have j3 : ∀ vs v, putV [D.lit (.int .i64 4), D.lit (.int .i64 5)] vs (D.lit (.int .i64 7)) v = vs ++ [v] := fun vs v => putV_new (by simp)
 have j4 : ∀ vs v, putV [D.lit (.int .i64 4), D.lit (.int .i64 5), D.lit (.int .i64 7)] vs (D.lit (.int .i64 8)) v = vs ++ [v] := fun vs v => putV_new (by simp)
 have j5 : ∀ vs v, putV [D.lit (.int .i64 4), D.lit (.int .i64 5), D.lit (.int .i64 7), D.lit (.int .i64 8)] vs (D.lit (.int .i64 6)) v = vs ++ [v] := fun vs v => putV_new (by simp)
 have k4 : KeyOk Try.prog 3 (.lit (.int .i64 4)) := keyOkI rfl
 have k5 : KeyOk Try.prog 3 (.lit (.int .i64 5)) := keyOkI rfl
 have k6 : KeyOk Try.prog 3 (.lit (.int .i64 6)) := keyOkI rfl
 have k7 : KeyOk Try.prog 3 (.lit (.int .i64 7)) := keyOkI rfl
 have k8 : KeyOk Try.prog 3 (.lit (.int .i64 8)) := keyOkI rfl
 have kx : KeyOk Try.prog 3 (.lit (.int .i64 x.kind.1)) := keyOkI x.kind.2
 have hm : (mget [D.lit (.int .i64 4), D.lit (.int .i64 5), D.lit (.int .i64 7), D.lit (.int .i64 8), D.lit (.int .i64 6)] [D.lit (.int .i64 1), D.lit (.int .i64 1), D.lit (.int .i64 1), D.lit (.int .i64 2), D.lit (.int .i64 3)] (D.lit (.int .i64 x.kind.1))).getD (.lit (.int .i64 0)) = .lit (.int .i64 (usesN x.kind.1 : Nat)) := by
  simp only [mget_cons, mget_nil, D.lit.injEq, Value.int.injEq, true_and, usesN, eq_comm (b := x.kind.1)]
  repeat' split
  all_goals rfl
 have hle : usesN x.kind.1 ≤ 3 := by unfold usesN; (repeat' split) <;> omega
 simp only [ZE,↓reduceIte,pE,pL,pA,pS,pM,pD, zN,qT,qG,qL,qH,qN,qB,qE,qO,qA,qM, i1, i2, i3, i4, i5, j1, j2, j3, j4, j5, keyedI, k4, k5, k6, k7, k8, kx, hm, or_imp, forall_and]
 refine ⟨⟨by omega, by omega⟩, ?_⟩
 simp only [Nat.sub_zero, uses, List.map_take, List.map_cons, List.map_nil, eExpr_eq, eI, eS]
end Go.Proofs.Ytejpmjnefokdoaa

namespace Go.Proofs.Ytejpmjnefokdoaa
open Go.Aw
open Nat renaming reduceEqDiff → pE, reduceLT → pL, reduceAdd → pA, reduceSub → pS, reduceMul → pM, reduceLeDiff → pD
open Int renaming reduceToNat → qT, reduceGT → qG, reduceLT → qL, reduceGE → qH, reduceBNe → qN, reduceBEq → qB, reduceLE → qE, reduceNe → qO, reduceAdd → qA, reduceNeg → qM
set_option maxRecDepth 100000
set_option maxHeartbeats 1000000
mutual
def Expr.all : Expr → List Expr
 | .mk o n k w a => .mk o n k w a :: Expr.allL a
def Expr.allL : List Expr → List Expr
 | [] => []
 | e :: r => Expr.all e ++ Expr.allL r
end
theorem Expr.all_eq (e : Expr) : e.all = e :: Expr.allL e.args := by cases e; simp [Expr.all, Expr.args]
theorem allL_app : ∀ a b : List Expr, Expr.allL (a ++ b) = Expr.allL a ++ Expr.allL b
 | [], b => by simp [Expr.allL]
 | e :: a, b => by simp [Expr.allL, allL_app a b]
theorem allL_step (l : List Expr) (i : Nat) (h : i < l.length) : Expr.allL (l.take (i + 1)) = Expr.allL (l.take i) ++ (l[i] :: Expr.allL l[i].args) := by
 rw [List.take_succ_eq_append_getElem h, allL_app]
 simp [Expr.allL, Expr.all_eq]
theorem allL_pre (l : List Expr) (i : Nat) : Expr.allL (l.take i) <+: Expr.allL l := by
 conv => rhs; rw [← List.take_append_drop i l]
 rw [allL_app]
 exact List.prefix_append _ _
def eA (e : Expr) : List D := [.agg (eExpr e)]
theorem all_fc (l : List Expr) : FnP Try.prog 63 [eExprs l] (.d (.clo (.func 75) [] [.ptr [eExprs l]])) [] := by
 refine FnP.of_eC (own := []) chL mixed Try.func63 rfl Try.call63 Try.ntmps63 (Nat.le_of_ble_eq_true rfl) Try.results63 (fun hok => ?_)
 simp only [ZE,↓reduceIte,pE,pL,pA,pS,pM,pD]
theorem eExpr_ok {e : Expr} (h : D.okL (eExpr e)) : (eExprs e.args).ok := by
 rw [eExpr_eq] at h
 simp only [D.okL] at h
 exact h.2.2.2.2.2.2.1
theorem pre_map {α β : Type} {f : α → β} {l : List α} {pre : List β} {x : β} (h : pre ++ [x] <+: l.map f) : ∃ (k : Nat) (hk : k < l.length), pre = (l.take k).map f ∧ x = f l[k] := by
 have h1 := List.prefix_iff_eq_take.1 h
 have h2 := h.length_le
 simp only [List.length_append, List.length_cons, List.length_nil, List.length_map] at h1 h2
 have hk : pre.length < l.length := by omega
 rw [← List.map_take, Nat.zero_add, List.take_succ_eq_append_getElem hk, List.map_append] at h1
 have h3 := List.append_inj' h1 (by simp)
 exact ⟨pre.length, hk, h3.1, by simpa using h3.2⟩
theorem all_it : ∀ (n : Nat) (l : List Expr) (hn : (Expr.allL l).length < n) (hok : (eExprs l).ok), IterP Try.prog 75 [.ptr [eExprs l]] (fun pre => pre <+: (Expr.allL l).map eA) (fun xs => xs = (Expr.allL l).map eA)
 | 0, l, hn, _ => by omega
 | n + 1, l, hn, hok => by
  intro lim fam stop yl hY
  obtain ⟨hl, hl2⟩ := ok_map hok
  have := FnL.of_eC (P := Try.prog) (args := [.yv 0, .d (.ptr [eExprs l])]) (os := [(0, .ext lim fam stop yl [])]) (PL := fun _ ol new => (∃ xs, xs = (Expr.allL l).map eA ∧ ol = [(0, .ext lim fam stop yl xs)] ∧ new = []) ∨ (ol = [(0, .ext lim (fun _ => stop) stop yl [])] ∧ new = [])) (own := []) chL [0] mixed Try.func75 rfl Try.call75 Try.ntmps75 (Nat.le_of_ble_eq_true rfl) Try.results75 ?_
  ·refine this.mono ?_
   rintro V Oo new ⟨ol, rfl, ⟨xs, h1, rfl, h2⟩ | ⟨rfl, h2⟩⟩
   ·exact .inl ⟨xs, h1, rfl, h2⟩
   ·exact .inr ⟨rfl, h2⟩
  simp only [ZE,↓reduceIte,pE,pL,pA,pS,pM,pD]
  refine eloop chL mixed l.length (fun i => True) (fun i => ([(0, .yv 0), (2, .bp 2 0), (6, .d (eExprs l)), (7, .d (eI l.length)), (8, .d (eI i))], [(2, .box [.yv 0]), (0, .ext lim fam stop yl ((Expr.allL (l.take i)).map eA))])) trivial ?_ ?_ (fun i hi hI => ?_)
  ·simp only [ZE,↓reduceIte,pE,pL,pA,pS,pM,pD]
  ·simp only [ZE,↓reduceIte,pE,pL,pA,pS,pM,pD, List.take_zero, Expr.allL]
  rcases Nat.lt_or_ge i l.length with h | h
  ·have hw := wrap_succ (show i < 9223372036854775807 by omega)
   have hsz : (Expr.allL l[i].args).length < n := by
    have h1 := (allL_pre l (i + 1)).length_le
    rw [allL_step l i h, List.length_append, List.length_cons] at h1
    omega
   have hoke := eExpr_ok (hl2 l[i] (List.getElem_mem h))
   have hS := allL_step l i h
   simp only [ZE,↓reduceIte,pE,pL,pA,pS,pM,pD, dec_lt h, getD_map h, lt_int h]
   have hp : ∀ j, (Expr.allL (l.take i)).map eA ++ (eA l[i] :: ((Expr.allL l[i].args).take j).map eA) <+: (Expr.allL l).map eA := fun j => by
    have h1 := (allL_pre l (i + 1)).map eA
    rw [hS, List.map_append, List.map_cons] at h1
    refine List.IsPrefix.trans ?_ h1
    refine (List.prefix_append_right_inj _).2 ?_
    rw [List.cons_prefix_cons]
    exact ⟨rfl, (List.take_prefix j _).map eA⟩
   have eA_eq : ∀ e : Expr, [D.agg [D.lit (.int .i64 e.op), .lit (.string e.name.1), .lit (.int .i64 e.k.n), .lit (.string e.k.p.1), .lit (.int .i64 e.w.n), .lit (.string e.w.p.1), .sl (e.args.map eExpr)]] = eA e := fun e => by simp only [eA, eExpr_eq, eI, eS]
   refine ⟨_, hY, ?_, ?_, ?_⟩
   ·rw [eA_eq]; exact hp 0
   ·simp only [ZE,↓reduceIte,pE,pL,pA,pS,pM,pD, eA_eq]
    refine EFn.p ?_
    simp (maxSteps := 4000000) only [ZE,↓reduceIte,pE,pL,pA,pS,pM,pD]
    have hc := all_fc l[i].args
    simp (maxSteps := 4000000) only [ZE,↓reduceIte,pE,pL,pA,pS,pM,pD] at hc
    refine ECall.i hc ?_
    clear hc
    simp only [ZE,↓reduceIte,pE,pL,pA,pS,pM,pD]
    refine erangeX mixed (fun _ _ => chL) rfl (by simp only [ZE,↓reduceIte,pE,pL,pA,pS,pM,pD]) (all_it n l[i].args hsz hoke) (fun pre => [(2, .box [.yv 0]), (0, .ext lim fam stop yl ((Expr.allL (l.take i)).map eA ++ [eA l[i]] ++ pre))]) (fun _ => True) trivial ?_ ?_ (fun pre x _ hA => ?_) (fun xs hS _ => ?_)
    ·simp only [ZE,↓reduceIte,pE,pL,pA,pS,pM,pD]
    ·simp only [ZE,↓reduceIte,pE,pL,pA,pS,pM,pD]
    ·obtain ⟨k, hk, rfl, rfl⟩ := pre_map hA
     have hp2 := hp (k + 1)
     rw [List.take_succ_eq_append_getElem hk, List.map_append] at hp2
     refine ⟨rfl, ?_⟩
     simp only [ZE,↓reduceIte,pE,pL,pA,pS,pM,pD, eA]
     refine ⟨_, hY, ?_, ?_, ?_⟩
     ·simp only [eA_eq]
      simpa only [List.append_assoc, List.cons_append, List.nil_append, List.map_cons, List.map_nil] using hp2
     ·simp only [ZE,↓reduceIte,pE,pL,pA,pS,pM,pD, List.take_succ_eq_append_getElem hk, List.map_append, eA, List.append_assoc]
     ·simp only [ZE,↓reduceIte,pE,pL,pA,pS,pM,pD]
      refine ⟨[2, 5], [], ?_⟩
      simp only [ZE,↓reduceIte,pE,pL,pA,pS,pM,pD]
    ·subst hS
     simp only [ZE,↓reduceIte,pE,pL,pA,pS,pM,pD, hw, allL_step l i h, List.map_append, List.map_cons, List.append_assoc]
     exact h
   ·simp only [ZE,↓reduceIte,pE,pL,pA,pS,pM,pD]
    refine ⟨[2, 4], [], ?_⟩
    simp only [ZE,↓reduceIte,pE,pL,pA,pS,pM,pD]
  ·have : i = l.length := by omega
   subst this
   simp only [ZE,↓reduceIte,pE,pL,pA,pS,pM,pD, dec_ge h]
   refine ⟨[2], [], ?_⟩
   simp only [ZE,↓reduceIte,pE,pL,pA,pS,pM,pD]
   exact .inl ⟨_, rfl, by rw [List.take_length]⟩
/-- A LOOP OVER ALL EXPRESSIONS. -/
theorem eAll {N : NP} {g : Operand} {ps : Array Tmp} {assign body : Code} {Q : EQ} {t : TL} {o : OL} (L : Nat → Nat → List Gh) (l : List Expr) (hok : (eExprs l).ok) (htop : N.top = true) (hg : St.ev (tm t) g = .d (.clo (.func 75) [] [.ptr [eExprs l]]))
  (O : Nat → OL) (I : Nat → Prop) (hI0 : I 0) (h0 : subO (om o) (O 0)) (hps : psOk N.n (keysT t) ps.toList) (hp1 : ps.size = 1)
  (hb : ∀ k (hk : k < (Expr.allL l).length), I k → eC Try.prog ⟨N.n, keysT t, false, N.own⟩ (L k) assign (thenE (bodyX Try.prog ⟨N.n, keysT t, false, N.own⟩ (L k) body t (O k) (O (k + 1)) (I (k + 1)) Q) noQ) (zipL ps.toList (eA (Expr.allL l)[k]) t) (O k))
  (hd : I (Expr.allL l).length → Q .normal t (O (Expr.allL l).length)) : EOther Try.prog N (.rangeFunc g ps assign body) Q t o := by
 refine erangeX mixed (fun pre _ => L pre.length) htop hg (all_it _ l (Nat.lt_succ_self _) hok) (fun pre => O pre.length) (fun pre => I pre.length) hI0 h0 hps (fun pre x hi hA => ?_) (fun xs hS hi => ?_)
 ·obtain ⟨k, hk, rfl, rfl⟩ := pre_map hA
  have hl : ((Expr.allL l).take k).length = k := by rw [List.length_take]; omega
  simp only [List.length_map, List.length_append, List.length_cons, List.length_nil, hl] at hi ⊢
  exact ⟨by rw [hp1]; rfl, hb k hk hi⟩
 ·subst hS
  simp only [List.length_map] at hi ⊢
  exact hd hi
end Go.Proofs.Ytejpmjnefokdoaa

namespace Go.Proofs.Ytejpmjnefokdoaa
open Go.Aw
open Nat renaming reduceEqDiff → pE, reduceLT → pL, reduceAdd → pA, reduceSub → pS, reduceMul → pM, reduceLeDiff → pD
open Int renaming reduceToNat → qT, reduceGT → qG, reduceLT → qL, reduceGE → qH, reduceBNe → qN, reduceBEq → qB, reduceLE → qE, reduceNe → qO, reduceAdd → qA, reduceNeg → qM
set_option maxRecDepth 100000
set_option maxHeartbeats 1000000
def badE (e : Expr) : Bool := !(arity e.op == (e.args.length : Int))
def malformed (x : Item) : Bool := decide (x.kind.1 < 1) || decide (x.kind.1 > 9) || (Expr.allL (uses x)).any badE || ((x.kind.1 == 4 || x.kind.1 == 6) && (decide (x.rule.kind < 0) || decide (x.rule.kind > 3)))
theorem okL_app : ∀ {a b : List D}, D.okL (a ++ b) → D.okL a ∧ D.okL b
 | [], _, h => ⟨by simp only [D.okL], h⟩
 | x :: a, b, h => by
  simp only [List.cons_append, D.okL] at h ⊢
  obtain ⟨h1, h2⟩ := okL_app h.2
  exact ⟨⟨h.1, h1⟩, h2⟩
theorem item_ok {x : Item} (h : D.okL (eItem x)) : D.okL (eExpr x.a) ∧ D.okL (eExpr x.b) ∧ D.okL (eExpr x.c) := by
 simp only [eItem, D.okL] at h
 have h1 := (okL_app (okL_app (okL_app h.2.2).2).2).2
 have h2 := okL_app h1
 have h3 := okL_app h2.2
 have h4 := okL_app h3.2
 exact ⟨h2.1, h3.1, h4.1⟩
theorem okLL_of {l : List (List D)} (h : ∀ y ∈ l, D.okL y) : D.okLL l := by
 induction l with
 | nil => simp only [D.okLL]
 | cons y r ih => simp only [D.okLL]; exact ⟨h y (by simp), ih fun z hz => h z (by simp [hz])⟩
theorem uses_ok {x : Item} (h : D.okL (eItem x)) : (eExprs (uses x)).ok := by
 obtain ⟨h1, h2, h3⟩ := item_ok h
 simp only [eExprs, D.ok]
 refine ⟨?_, okLL_of fun y hy => ?_⟩
 ·simp only [uses, List.length_map, List.length_take, List.length_cons, List.length_nil]; unfold maxLen; omega
 ·obtain ⟨e, he, rfl⟩ := List.mem_map.1 hy
  have := List.mem_of_mem_take he
  simp only [List.mem_cons, List.not_mem_nil, or_false] at this
  rcases this with rfl | rfl | rfl <;> assumption
theorem malformed_c (x : Item) : FnP Try.prog 51 [.agg (eItem x)] (.d (eB (malformed x))) [] := by
 refine FnP.of_eC (own := []) (fun i => if i = 2005 then [.chn, .ord ⟨[(0, none), (1, none), (2, none), (3, none), (4, none), (5, none), (6, none)]⟩] else chL i) mixed Try.func51 rfl Try.call51 Try.ntmps51 (Nat.le_of_ble_eq_true rfl) Try.results51 (fun hok => ?_)
 have hx : D.okL (eItem x) := by simpa only [D.okL, D.ok, and_true] using hok
 simp only [ZE,↓reduceIte,pE,pL,pA,pS,pM,pD, zN,qT,qG,qL,qH,qN,qB,qE,qO,qA,qM]
 refine iteI (fun h => ?_) (fun h => ?_)
 ·simp only [malformed, h, Bool.true_or]
 have uc := uses_c x
 simp only [ZE,↓reduceIte,pE,pL,pA,pS,pM,pD] at uc
 refine EFn.p ?_
 simp only [ZE,↓reduceIte,pE,pL,pA,pS,pM,pD]
 refine ECall.i uc ?_
 simp only [ZE,↓reduceIte,pE,pL,pA,pS,pM,pD]
 refine EFn.p ?_
 simp (maxSteps := 4000000) only [ZE,↓reduceIte,pE,pL,pA,pS,pM,pD]
 have hc := all_fc (uses x)
 simp (maxSteps := 4000000) only [ZE,↓reduceIte,pE,pL,pA,pS,pM,pD] at hc
 refine ECall.i hc ?_
 clear hc
 simp only [ZE,↓reduceIte,pE,pL,pA,pS,pM,pD]
 refine eAll (fun _ i => if i = 2005 then [.chn, .ord ⟨[(0, none), (1, none), (2, none), (3, none), (4, none), (5, none), (6, none)]⟩] else chL i) (uses x) (uses_ok hx) rfl (by simp only [ZE,↓reduceIte,pE,pL,pA,pS,pM,pD]) (fun _ => [(2, .box [.d (eB false)]), (1, .box ((eItem x).map .d))]) (fun k => ∀ e ∈ (Expr.allL (uses x)).take k, badE e = false) (by simp) ?_ ?_ rfl (fun k hk hI => ?_) (fun hI => ?_)
 ·simp only [ZE,↓reduceIte,pE,pL,pA,pS,pM,pD]
 ·simp only [ZE,↓reduceIte,pE,pL,pA,pS,pM,pD]
 ·simp only [ZE,↓reduceIte,pE,pL,pA,pS,pM,pD, eA]
  refine ⟨by kernel_rfl, ?_⟩
  have hc := arity_c (Expr.allL (uses x))[k].op
  simp only [ZE,↓reduceIte,pE,pL,pA,pS,pM,pD] at hc
  refine ECallC.i (fun _ => hc) ?_
  simp only [ZE,↓reduceIte,pE,pL,pA,pS,pM,pD]
  refine iteI (fun hb => ?_) (fun hb e he => ?_)
  ·have : (Expr.allL (uses x)).any badE = true := List.any_eq_true.2 ⟨_, List.getElem_mem hk, by simpa only [badE, bne] using hb⟩
   simp only [malformed, this, Bool.or_true, Bool.true_or]
  ·rw [List.take_succ_eq_append_getElem hk, List.mem_append, List.mem_singleton] at he
   rcases he with he | rfl
   ·exact hI e he
   ·simpa only [badE, bne] using hb
 ·simp only [ZE,↓reduceIte,pE,pL,pA,pS,pM,pD]
  have : (Expr.allL (uses x)).any badE = false := List.any_eq_false.2 fun e he => by
   rw [hI e (by rw [List.take_length]; exact he)]; simp
  simp only [malformed, h, this, Bool.false_or]
end Go.Proofs.Ytejpmjnefokdoaa

namespace Go.Proofs.Ytejpmjnefokdoaa
open Go.Aw
set_option maxRecDepth 100000
set_option maxHeartbeats 1000000
/-- What a name stands for. -/
def get {α : Type} (l : List (Str × α)) (s : Str) : Option α := (l.find? fun p => decide (p.1 = s)).map (·.2)
def sK {α : Type} (l : List (Str × α)) : List D := l.map fun p => .lit (.string p.1.1)
def sV {α : Type} (f : α → D) (l : List (Str × α)) : List D := l.map fun p => f p.2
def sMp {α : Type} (f : α → D) (l : List (Str × α)) : D := .mp (sK l) (sV f l) (List.range l.length) l.length
theorem str_ne {s t : Str} (h : s ≠ t) : (D.lit (.string s.1)) ≠ .lit (.string t.1) := by
 intro e
 simp only [D.lit.injEq, Value.string.injEq] at e
 exact h (Subtype.ext e)
theorem mget_s {α : Type} (f : α → D) : ∀ (l : List (Str × α)) (s : Str), mget (sK l) (sV f l) (.lit (.string s.1)) = (get l s).map f
 | [], s => by simp [sK, sV, get, mget_nil]
 | (n, x) :: l, s => by
  have ih := mget_s f l s
  simp only [sK, sV, get, List.map_cons] at ih ⊢
  rw [mget_cons, List.find?_cons]
  by_cases h : n = s
  ·subst h; simp
  ·rw [if_neg (str_ne h), ih]
   simp [h]
theorem get_none {α : Type} {l : List (Str × α)} {s : Str} : get l s = none ↔ (D.lit (.string s.1)) ∉ sK l := by
 unfold get sK
 rw [Option.map_eq_none_iff, List.find?_eq_none]
 constructor
 ·intro h hm
  obtain ⟨p, hp, e⟩ := List.mem_map.1 hm
  simp only [D.lit.injEq, Value.string.injEq] at e
  exact h p hp (by simpa using Subtype.ext e)
 ·intro h p hp e
  exact h (List.mem_map.2 ⟨p, hp, by rw [of_decide_eq_true e]⟩)
theorem sK_ok {α : Type} (l : List (Str × α)) : ∀ y ∈ sK l, KeyOk Try.prog 9 y := by
 intro y hy
 obtain ⟨p, _, rfl⟩ := List.mem_map.1 hy
 exact keyOkS p.1
/-- The entries of a map in which a name more was put down. -/
theorem put_s {α : Type} (f : α → D) {l : List (Str × α)} {s : Str} {x : α} (h : get l s = none) : putK (sK l) (.lit (.string s.1)) = sK (l ++ [(s, x)]) ∧ putV (sK l) (sV f l) (.lit (.string s.1)) (f x) = sV f (l ++ [(s, x)]) ∧
  putB (sK l) (List.range l.length) l.length (.lit (.string s.1)) = List.range (l ++ [(s, x)]).length ∧ putC (sK l) l.length (.lit (.string s.1)) = (l ++ [(s, x)]).length := by
 have hn := get_none.1 h
 have : ¬ kidx (sK l) (.lit (.string s.1)) < (sK l).length := fun h' => hn (kidx_lt.1 h')
 refine ⟨by rw [putK_new hn]; simp [sK], by rw [putV_new hn]; simp [sV], ?_, ?_⟩
 ·simp only [putB, if_neg this, List.length_append, List.length_cons, List.length_nil, Nat.zero_add, List.range_succ]
 ·simp only [putC, if_neg this, List.length_append, List.length_cons, List.length_nil, Nat.zero_add]
/-- A name that is there is put down again with the same value. -/
theorem put_same {α : Type} (f : α → D) {l : List (Str × α)} {s : Str} {x : α} (h : get l s = some x) : putK (sK l) (.lit (.string s.1)) = sK l ∧ putV (sK l) (sV f l) (.lit (.string s.1)) (f x) = sV f l ∧
  putB (sK l) (List.range l.length) l.length (.lit (.string s.1)) = List.range l.length ∧ putC (sK l) l.length (.lit (.string s.1)) = l.length := by
 have hm : (D.lit (.string s.1)) ∈ sK l := by
  by_cases hm : (D.lit (.string s.1)) ∈ sK l
  ·exact hm
  ·rw [get_none.2 hm] at h; cases h
 have hlt := kidx_lt.2 hm
 have hg := mget_s f l s
 rw [h, mget, if_pos hlt] at hg
 refine ⟨by simp only [putK, if_pos hlt], ?_, by simp only [putB, if_pos hlt], by simp only [putC, if_pos hlt]⟩
 simp only [putV, if_pos hlt]
 simp only [Option.map_some] at hg
 obtain ⟨hi, he⟩ := List.getElem?_eq_some_iff.1 hg
 rw [← he, List.set_getElem_self]
/-- A set of names. -/
def tk (l : List Str) : List (Str × Bool) := l.map fun n => (n, true)
theorem get_tk (s : Str) : ∀ l : List Str, get (tk l) s = if has l s = true then some true else none
 | [] => rfl
 | n :: l => by
  have ih := get_tk s l
  simp only [get, tk, has, List.map_cons, List.find?_cons, List.any_cons, Bool.or_eq_true] at ih ⊢
  by_cases h : n = s
  ·subst h; simp
  ·have h' : ¬ s = n := fun e => h e.symm
   simp only [h, decide_false, h', Bool.false_eq_true, false_or]
   exact ih
end Go.Proofs.Ytejpmjnefokdoaa

namespace Go.Proofs.Ytejpmjnefokdoaa
open Go.Aw
open Nat renaming reduceEqDiff → pE, reduceLT → pL, reduceAdd → pA, reduceSub → pS, reduceMul → pM, reduceLeDiff → pD
open Int renaming reduceToNat → qT, reduceGT → qG, reduceLT → qL, reduceGE → qH, reduceBNe → qN, reduceBEq → qB, reduceLE → qE, reduceNe → qO, reduceAdd → qA, reduceNeg → qM
set_option maxRecDepth 100000
set_option maxHeartbeats 1000000
def emp : Str := ⟨ByteArray.empty, by decide⟩
def zNum : Num := ⟨0, emp⟩
def zExpr : Expr := .mk 0 emp zNum zNum []
def zItem : Item := ⟨⟨0, rfl⟩, emp, zNum, zNum, zNum, zExpr, zExpr, zExpr, ⟨0, emp, 0⟩, emp, [], []⟩
def eIt (x : Item) : D := .agg (eItem x)
def firstStep (acc : List (Str × Item)) (x : Item) : List (Str × Item) := if (declares x.kind.1 && (get acc x.name).isNone) = true then acc ++ [(x.name, x)] else acc
def firsts (l : List Item) : List (Str × Item) := l.foldl firstStep []
def takenStep (acc : List Str) (x : Item) : List Str := if (x.kind.1 == 7 && !has acc x.name) = true then acc ++ [x.name] else acc
def takens (l : List Item) : List Str := l.foldl takenStep []
theorem firsts_step (l : List Item) (i : Nat) (h : i < l.length) : firsts (l.take (i + 1)) = firstStep (firsts (l.take i)) l[i] := by
 rw [List.take_succ_eq_append_getElem h, firsts, List.foldl_append]; rfl
theorem takens_step (l : List Item) (i : Nat) (h : i < l.length) : takens (l.take (i + 1)) = takenStep (takens (l.take i)) l[i] := by
 rw [List.take_succ_eq_append_getElem h, takens, List.foldl_append]; rfl
def eScope (m : Module) : List D := [eS m.name, eS m.clock, eStrs m.params, eItems m.items, sMp eIt (firsts m.items), sMp eB (tk (takens m.items))]
theorem zItem_raw : D.agg [D.lit (.int .i64 0), D.lit (.string ByteArray.empty), D.lit (.int .i64 0), D.lit (.string ByteArray.empty), D.lit (.int .i64 0), D.lit (.string ByteArray.empty), D.lit (.int .i64 0), D.lit (.string ByteArray.empty), D.lit (.int .i64 0), D.lit (.string ByteArray.empty), D.lit (.int .i64 0), D.lit (.string ByteArray.empty), D.lit (.int .i64 0), D.lit (.string ByteArray.empty), D.sl [], D.lit (.int .i64 0), D.lit (.string ByteArray.empty), D.lit (.int .i64 0), D.lit (.string ByteArray.empty), D.lit (.int .i64 0), D.lit (.string ByteArray.empty), D.sl [], D.lit (.int .i64 0), D.lit (.string ByteArray.empty), D.lit (.int .i64 0), D.lit (.string ByteArray.empty), D.lit (.int .i64 0), D.lit (.string ByteArray.empty), D.sl [], D.lit (.int .i64 0), D.lit (.string ByteArray.empty), D.lit (.int .i64 0), D.lit (.string ByteArray.empty), D.sl [], D.sl []] = eIt zItem := rfl
theorem getD_item (o : Option Item) : (o.map eIt).getD (eIt zItem) = .agg (eItem (o.getD zItem)) := by cases o <;> rfl
theorem scoped_c (m : Module) : FnP Try.prog 32 [.agg (eModule m)] (.d (.agg (eScope m))) [] := by
 refine FnP.of_eC (own := []) chL mixed Try.func32 rfl Try.call32 Try.ntmps32 (Nat.le_of_ble_eq_true rfl) Try.results32 (fun hok => ?_)
 have hl : m.items.length ≤ 9223372036854775807 := by
  have : D.okL (eModule m) := by simpa only [D.okL, D.ok, and_true] using hok
  simp only [eModule, D.okL] at this
  exact (ok_map this.2.2.2.1).1
 simp only [ZE,↓reduceIte,pE,pL,pA,pS,pM,pD, zN,qT,qG,qL,qH,qN,qB,qE,qO,qA,qM]
 refine eloop chL mixed m.items.length (fun i => True) (fun i => ([(2, .bp 2 0), (3, .bp 3 0), (13, .d (eItems m.items)), (14, .d (eI m.items.length)), (15, .d (eI i))],
  [(3, .box [.d (eS m.name), .d (eS m.clock), .d (eStrs m.params), .d (eItems m.items), .mo 9, .mo 10]), (9, .map (sK (firsts (m.items.take i))) (sV eIt (firsts (m.items.take i))) (List.range (firsts (m.items.take i)).length) (firsts (m.items.take i)).length),
   (10, .map (sK (tk (takens (m.items.take i)))) (sV eB (tk (takens (m.items.take i)))) (List.range (tk (takens (m.items.take i))).length) (tk (takens (m.items.take i))).length),
   (2, .box [.d (eS emp), .d (eS emp), .nils, .nils, .d (.lit (.map none)), .d (.lit (.map none))])])) trivial ?_ ?_ (fun i hi _ => ?_)
 ·simp only [ZE,↓reduceIte,pE,pL,pA,pS,pM,pD]
 ·simp only [ZE,↓reduceIte,pE,pL,pA,pS,pM,pD]
  exact ⟨rfl, rfl, rfl⟩
 rcases Nat.lt_or_ge i m.items.length with h | h
 ·have hw := wrap_succ (show i < 9223372036854775807 by omega)
  simp only [ZE,↓reduceIte,pE,pL,pA,pS,pM,pD, dec_lt h, getD_map h, lt_int h, mget_s, keyedS, keyOkS, zItem_raw, getD_item, sK_ok, Option.isSome_map]
  refine ⟨fun y hy => sK_ok _ y hy, ?_⟩
  have hc := declares_c m.items[i].kind.1
  simp only [ZE,↓reduceIte,pE,pL,pA,pS,pM,pD] at hc
  refine EFn.p ?_
  simp only [ZE,↓reduceIte,pE,pL,pA,pS,pM,pD]
  refine ECall.i hc ?_
  simp only [ZE,↓reduceIte,pE,pL,pA,pS,pM,pD, hw, keyedS, keyOkS]
  obtain ⟨r, hr⟩ : ∃ r, eIt m.items[i] = r := ⟨_, rfl⟩
  have hr' := hr
  simp only [eIt, ZE,↓reduceIte,pE,pL,pA,pS,pM,pD] at hr'
  simp only [hr', firsts_step _ _ h, takens_step _ _ h]
  rw [← hr]
  have mapEq : ∀ {a a' : List D} {b b' : List D} {c c' : List Nat} {d d' : Nat}, a = a' ∧ b = b' ∧ c = c' ∧ d = d' → AO.map a b c d = AO.map a' b' c' d' := fun ⟨h1, h2, h3, h4⟩ => by rw [h1, h2, h3, h4]
  have t7 : (m.items[i].kind.1 == 7) = true → AO.map (putK (sK (tk (takens (m.items.take i)))) (.lit (.string m.items[i].name.1))) (putV (sK (tk (takens (m.items.take i)))) (sV eB (tk (takens (m.items.take i)))) (.lit (.string m.items[i].name.1)) (.lit (.bool true)))
    (putB (sK (tk (takens (m.items.take i)))) (List.range (tk (takens (m.items.take i))).length) (tk (takens (m.items.take i))).length (.lit (.string m.items[i].name.1))) (putC (sK (tk (takens (m.items.take i)))) (tk (takens (m.items.take i))).length (.lit (.string m.items[i].name.1))) =
    AO.map (sK (tk (takenStep (takens (m.items.take i)) m.items[i]))) (sV eB (tk (takenStep (takens (m.items.take i)) m.items[i]))) (List.range (tk (takenStep (takens (m.items.take i)) m.items[i])).length) (tk (takenStep (takens (m.items.take i)) m.items[i])).length := fun h7 => by
   have hg := get_tk m.items[i].name (takens (m.items.take i))
   by_cases hh : has (takens (m.items.take i)) m.items[i].name = true
   ·rw [if_pos hh] at hg
    have e : takenStep (takens (m.items.take i)) m.items[i] = takens (m.items.take i) := by simp [takenStep, hh]
    rw [e]
    exact mapEq (put_same eB hg)
   ·rw [if_neg hh] at hg
    have e : takenStep (takens (m.items.take i)) m.items[i] = takens (m.items.take i) ++ [m.items[i].name] := by simp [takenStep, hh, h7]
    rw [e]
    have := mapEq (put_s eB (x := true) hg)
    simpa only [tk, List.map_append, List.map_cons, List.map_nil, eB] using this
  have n7 : (m.items[i].kind.1 == 7) = false → takenStep (takens (m.items.take i)) m.items[i] = takens (m.items.take i) := fun h7 => by simp [takenStep, h7]
  refine iteI (fun h1 => ?_) (fun h1 => ?_)
  ·have hg : get (firsts (m.items.take i)) m.items[i].name = none := by
    have := (Bool.and_eq_true _ _ ▸ h1 : _ ∧ _).2
    simpa using this
   have e : firstStep (firsts (m.items.take i)) m.items[i] = firsts (m.items.take i) ++ [(m.items[i].name, m.items[i])] := by
    unfold firstStep; rw [if_pos]; simpa [hg] using h1
   refine ⟨fun y hy => sK_ok _ y hy, iteI (fun h7 => ⟨fun y hy => sK_ok _ y hy, h, ?_, t7 h7⟩) (fun h7 => ⟨h, ?_, by rw [n7 h7]⟩)⟩
   all_goals rw [e]; exact mapEq (put_s eIt hg)
  ·have e : firstStep (firsts (m.items.take i)) m.items[i] = firsts (m.items.take i) := by
    unfold firstStep
    rw [if_neg]
    intro h2
    rw [Bool.and_eq_true] at h2
    rw [h2.1, Bool.true_and] at h1
    cases hg : get (firsts (m.items.take i)) m.items[i].name with
    | none => rw [hg] at h1; cases h1
    | some y => rw [hg] at h2; cases h2.2
   refine iteI (fun h7 => ⟨fun y hy => sK_ok _ y hy, h, by rw [e], t7 h7⟩) (fun h7 => ⟨h, by rw [e], by rw [n7 h7]⟩)
 ·have : i = m.items.length := by omega
  subst this
  simp only [ZE,↓reduceIte,pE,pL,pA,pS,pM,pD, dec_ge h, List.take_length, eScope, sMp]
end Go.Proofs.Ytejpmjnefokdoaa

namespace Go.Proofs.Ytejpmjnefokdoaa
open Go.Aw
open Nat renaming reduceEqDiff → pE, reduceLT → pL, reduceAdd → pA, reduceSub → pS, reduceMul → pM, reduceLeDiff → pD
open Int renaming reduceToNat → qT, reduceGT → qG, reduceLT → qL, reduceGE → qH, reduceBNe → qN, reduceBEq → qB, reduceLE → qE, reduceNe → qO, reduceAdd → qA, reduceNeg → qM
set_option maxRecDepth 100000
set_option maxHeartbeats 1000000
/-- The first item that declares a name; its kind. -/
def declOf (m : Module) (n : Str) : Item := (get (firsts m.items) n).getD zItem
def kindOf (m : Module) (n : Str) : Int := (declOf m n).kind.1
theorem is_c (m : Module) (n : Str) (ks : List Int) : FnP Try.prog 67 [.agg (eScope m), eS n, eInts ks] (.d (eB (has ks (kindOf m n)))) [] := by
 refine FnP.of_eC (own := []) chL mixed Try.func67 rfl Try.call67 Try.ntmps67 (Nat.le_of_ble_eq_true rfl) Try.results67 (fun hok => ?_)
 simp only [ZE,↓reduceIte,pE,pL,pA,pS,pM,pD, zN,qT,qG,qL,qH,qN,qB,qE,qO,qA,qM, eScope, sMp, mget_s, keyedS, keyOkS, zItem_raw, getD_item]
 refine ⟨fun y hy => sK_ok _ y hy, ?_⟩
 have hc := containsI_c ks (kindOf m n)
 simp only [ZE,↓reduceIte,pE,pL,pA,pS,pM,pD] at hc
 refine EFn.p ?_
 simp only [ZE,↓reduceIte,pE,pL,pA,pS,pM,pD]
 refine ECall.i hc ?_
 simp only [ZE,↓reduceIte,pE,pL,pA,pS,pM,pD]
end Go.Proofs.Ytejpmjnefokdoaa

namespace Go.Proofs.Ytejpmjnefokdoaa
open Go.Aw
open Nat renaming reduceEqDiff → pE, reduceLT → pL, reduceAdd → pA, reduceSub → pS, reduceMul → pM, reduceLeDiff → pD
open Int renaming reduceToNat → qT, reduceGT → qG, reduceLT → qL, reduceGE → qH, reduceBNe → qN, reduceBEq → qB, reduceLE → qE, reduceNe → qO, reduceAdd → qA, reduceNeg → qM
set_option maxRecDepth 100000
set_option maxHeartbeats 1000000
/-- The first place of an element with a property. -/
def idxP {α : Type} (p : α → Bool) (l : List α) : Int := match l.findIdx? p with | some i => (i : Int) | none => -1
theorem idxP_some {α : Type} {p : α → Bool} {l : List α} {i : Nat} (h : i < l.length) (hx : p l[i] = true) (hn : ∀ j (_ : j < i) (hj : j < l.length), p l[j] = false) : idxP p l = i := by
 unfold idxP
 have : l.findIdx? p = some i := by
  rw [List.findIdx?_eq_some_iff_getElem]
  exact ⟨h, hx, fun j hj => by rw [hn j hj (by omega)]; simp⟩
 rw [this]
theorem idxP_none {α : Type} {p : α → Bool} {l : List α} (hn : ∀ j (hj : j < l.length), p l[j] = false) : idxP p l = -1 := by
 unfold idxP
 have : l.findIdx? p = none := by
  rw [List.findIdx?_eq_none_iff]
  intro y hy
  obtain ⟨j, hj, rfl⟩ := List.getElem_of_mem hy
  exact hn j hj
 rw [this]
theorem idxP_nonneg {α : Type} (p : α → Bool) (l : List α) : decide (idxP p l ≥ 0) = l.any p := by
 rw [Bool.eq_iff_iff, List.any_eq_true, decide_eq_true_eq]
 unfold idxP
 split
 ·rename_i i h
  rw [List.findIdx?_eq_some_iff_getElem] at h
  obtain ⟨h1, h2, _⟩ := h
  have : ∃ x, x ∈ l ∧ p x = true := ⟨_, List.getElem_mem h1, h2⟩
  simp [this]
 ·rename_i h
  rw [List.findIdx?_eq_none_iff] at h
  have : ¬ ∃ x, x ∈ l ∧ p x = true := fun ⟨x, h1, h2⟩ => by rw [h x h1] at h2; cases h2
  simp [this]
theorem indexFB_c (l : List Bind) (g : Nat) (c : D) (p : Bind → Bool) (hf : ∀ b ∈ l, FnP Try.prog g [.agg (eBind b), c] (.d (eB (p b))) []) : FnP Try.prog 78 [eBinds l, .clo (.func g) [] [c]] (.d (eI (idxP p l))) [] := by
 refine FnP.of_eC (own := []) chL mixed Try.func78 rfl Try.call78 Try.ntmps78 (Nat.le_of_ble_eq_true rfl) Try.results78 (fun hok => ?_)
 obtain ⟨hl, _⟩ := ok_map (okL_cons hok).1
 simp only [ZE,↓reduceIte,pE,pL,pA,pS,pM,pD, zN,qT,qG,qL,qH,qN,qB,qE,qO,qA,qM]
 refine eloop chL mixed l.length (fun i => ∀ j (_ : j < i) (hj : j < l.length), p l[j] = false) (fun i => ([(0, .d (eBinds l)), (1, .d (.clo (.func g) [] [c])), (7, .d (eI l.length)), (8, .d (eI i))], [])) (by simp) (by simp only [ZE,↓reduceIte,pE,pL,pA,pS,pM,pD, zN,qT,qG,qL,qH,qN,qB,qE,qO,qA,qM]) (by simp only [ZE,↓reduceIte,pE,pL,pA,pS,pM,pD]) (fun i hi hI => ?_)
 rcases Nat.lt_or_ge i l.length with h | h
 ·have hw := wrap_succ (show i < 9223372036854775807 by omega)
  simp only [ZE,↓reduceIte,pE,pL,pA,pS,pM,pD, dec_lt h, getD_map h, lt_int h]
  have hc := hf l[i] (List.getElem_mem h)
  simp only [ZE,↓reduceIte,pE,pL,pA,pS,pM,pD] at hc
  refine EFn.p ?_
  simp only [ZE,↓reduceIte,pE,pL,pA,pS,pM,pD]
  refine ECall.i hc ?_
  simp only [ZE,↓reduceIte,pE,pL,pA,pS,pM,pD, hw]
  refine iteI (fun h3 => ?_) (fun h3 => ⟨h, fun j hj hj' => ?_⟩)
  ·rw [idxP_some h h3 hI]
  ·rcases Nat.lt_succ_iff_lt_or_eq.1 hj with hj | rfl
   ·exact hI j hj hj'
   ·exact h3
 ·simp only [ZE,↓reduceIte,pE,pL,pA,pS,pM,pD, dec_ge h]
  rw [idxP_none (fun j hj => hI j (by omega) hj)]
theorem containsFB_c (l : List Bind) (g : Nat) (c : D) (p : Bind → Bool) (hf : ∀ b ∈ l, FnP Try.prog g [.agg (eBind b), c] (.d (eB (p b))) []) : FnP Try.prog 68 [eBinds l, .clo (.func g) [] [c]] (.d (eB (l.any p))) [] := by
 refine FnP.of_eC (own := []) chL mixed Try.func68 rfl Try.call68 Try.ntmps68 (Nat.le_of_ble_eq_true rfl) Try.results68 (fun hok => ?_)
 simp only [ZE,↓reduceIte,pE,pL,pA,pS,pM,pD, zN,qT,qG,qL,qH,qN,qB,qE,qO,qA,qM]
 refine EFn.p ?_
 simp (maxSteps := 4000000) only [ZE,↓reduceIte,pE,pL,pA,pS,pM,pD]
 have hc := indexFB_c l g c p hf
 simp (maxSteps := 4000000) only [ZE,↓reduceIte,pE,pL,pA,pS,pM,pD] at hc
 refine ECall.i hc ?_
 clear hc
 simp only [ZE,↓reduceIte,pE,pL,pA,pS,pM,pD, zN,qT,qG,qL,qH,qN,qB,qE,qO,qA,qM, idxP_nonneg]
theorem indexFI_c (l : List Item) (g : Nat) (c : D) (p : Item → Bool) (hf : ∀ b ∈ l, FnP Try.prog g [.agg (eItem b), c] (.d (eB (p b))) []) : FnP Try.prog 62 [eItems l, .clo (.func g) [] [c]] (.d (eI (idxP p l))) [] := by
 refine FnP.of_eC (own := []) chL mixed Try.func62 rfl Try.call62 Try.ntmps62 (Nat.le_of_ble_eq_true rfl) Try.results62 (fun hok => ?_)
 obtain ⟨hl, _⟩ := ok_map (okL_cons hok).1
 simp only [ZE,↓reduceIte,pE,pL,pA,pS,pM,pD, zN,qT,qG,qL,qH,qN,qB,qE,qO,qA,qM]
 refine eloop chL mixed l.length (fun i => ∀ j (_ : j < i) (hj : j < l.length), p l[j] = false) (fun i => ([(0, .d (eItems l)), (1, .d (.clo (.func g) [] [c])), (7, .d (eI l.length)), (8, .d (eI i))], [])) (by simp) (by simp only [ZE,↓reduceIte,pE,pL,pA,pS,pM,pD, zN,qT,qG,qL,qH,qN,qB,qE,qO,qA,qM]) (by simp only [ZE,↓reduceIte,pE,pL,pA,pS,pM,pD]) (fun i hi hI => ?_)
 rcases Nat.lt_or_ge i l.length with h | h
 ·have hw := wrap_succ (show i < 9223372036854775807 by omega)
  simp only [ZE,↓reduceIte,pE,pL,pA,pS,pM,pD, dec_lt h, getD_map h, lt_int h]
  have hc := hf l[i] (List.getElem_mem h)
  simp only [ZE,↓reduceIte,pE,pL,pA,pS,pM,pD] at hc
  refine EFn.p ?_
  simp only [ZE,↓reduceIte,pE,pL,pA,pS,pM,pD]
  refine ECall.i hc ?_
  simp only [ZE,↓reduceIte,pE,pL,pA,pS,pM,pD, hw]
  refine iteI (fun h3 => ?_) (fun h3 => ⟨h, fun j hj hj' => ?_⟩)
  ·rw [idxP_some h h3 hI]
  ·rcases Nat.lt_succ_iff_lt_or_eq.1 hj with hj | rfl
   ·exact hI j hj hj'
   ·exact h3
 ·simp only [ZE,↓reduceIte,pE,pL,pA,pS,pM,pD, dec_ge h]
  rw [idxP_none (fun j hj => hI j (by omega) hj)]
theorem containsFI_c (l : List Item) (g : Nat) (c : D) (p : Item → Bool) (hf : ∀ b ∈ l, FnP Try.prog g [.agg (eItem b), c] (.d (eB (p b))) []) : FnP Try.prog 49 [eItems l, .clo (.func g) [] [c]] (.d (eB (l.any p))) [] := by
 refine FnP.of_eC (own := []) chL mixed Try.func49 rfl Try.call49 Try.ntmps49 (Nat.le_of_ble_eq_true rfl) Try.results49 (fun hok => ?_)
 simp only [ZE,↓reduceIte,pE,pL,pA,pS,pM,pD, zN,qT,qG,qL,qH,qN,qB,qE,qO,qA,qM]
 refine EFn.p ?_
 simp (maxSteps := 4000000) only [ZE,↓reduceIte,pE,pL,pA,pS,pM,pD]
 have hc := indexFI_c l g c p hf
 simp (maxSteps := 4000000) only [ZE,↓reduceIte,pE,pL,pA,pS,pM,pD] at hc
 refine ECall.i hc ?_
 clear hc
 simp only [ZE,↓reduceIte,pE,pL,pA,pS,pM,pD, zN,qT,qG,qL,qH,qN,qB,qE,qO,qA,qM, idxP_nonneg]
end Go.Proofs.Ytejpmjnefokdoaa

namespace Go.Proofs.Ytejpmjnefokdoaa
open Go.Aw
open Nat renaming reduceEqDiff → pE, reduceLT → pL, reduceAdd → pA, reduceSub → pS, reduceMul → pM, reduceLeDiff → pD
open Int renaming reduceToNat → qT, reduceGT → qG, reduceLT → qL, reduceGE → qH, reduceBNe → qN, reduceBEq → qB, reduceLE → qE, reduceNe → qO, reduceAdd → qA, reduceNeg → qM
set_option maxRecDepth 100000
set_option maxHeartbeats 1000000
/-- What a file is while it is checked, but for what was found: the scopes, the first module of each name. -/
def idxStep (acc : List (Str × Int)) (p : Module × Nat) : List (Str × Int) := if (get acc p.1.name).isNone = true then acc ++ [(p.1.name, (p.2 : Int))] else acc
def idxs (l : List Module) : List (Str × Int) := l.zipIdx.foldl idxStep []
def eScopes (l : List Module) : D := .sl (l.map eScope)
def eIdx (l : List Module) : D := sMp eI (idxs l)
/-- The first module of a name. -/
def findM (l : List Module) (n : Str) : Option Int := get (idxs l) n
def eFile (l : List Module) (ks vs : List D) (bs : List Nat) (cl : Nat) : List D := [eScopes l, eIdx l, .mp ks vs bs cl]
theorem findM_lt {l : List Module} {n : Str} {i : Int} (h : findM l n = some i) : ∃ (k : Nat) (hk : k < l.length), i = k ∧ l[k].name = n := by
 have key : ∀ (r : List (Module × Nat)) (acc : List (Str × Int)), (∀ p ∈ r, ∃ hk : p.2 < l.length, l[p.2] = p.1) → (∀ e ∈ acc, ∃ (k : Nat) (hk : k < l.length), e.2 = k ∧ l[k].name = e.1) → ∀ e ∈ r.foldl idxStep acc, ∃ (k : Nat) (hk : k < l.length), e.2 = k ∧ l[k].name = e.1 := by
  intro r
  induction r with
  | nil => intro acc _ h e he; exact h e he
  | cons p r ih =>
   intro acc hr ha e he
   rw [List.foldl_cons] at he
   refine ih _ (fun q hq => hr q (List.mem_cons_of_mem _ hq)) (fun e he => ?_) e he
   unfold idxStep at he
   split at he
   ·rcases List.mem_append.1 he with he | he
    ·exact ha e he
    ·simp only [List.mem_singleton] at he
     subst he
     obtain ⟨hk, e1⟩ := hr p List.mem_cons_self
     exact ⟨p.2, hk, rfl, by rw [e1]⟩
   ·exact ha e he
 unfold findM get at h
 rw [Option.map_eq_some_iff] at h
 obtain ⟨e, he, rfl⟩ := h
 obtain ⟨k, hk, h1, h2⟩ := key l.zipIdx [] (fun p hp => by
  obtain ⟨q, i⟩ := p
  rw [List.mem_zipIdx_iff_getElem?] at hp
  obtain ⟨h3, h4⟩ := List.getElem?_eq_some_iff.1 hp
  exact ⟨h3, h4⟩) (by simp) e (List.mem_of_find?_eq_some he)
 have h5 := List.find?_some he
 exact ⟨k, hk, h1, by rw [h2]; exact of_decide_eq_true h5⟩
/-- The kind of a port of the module of an instance, or 0. -/
def portOf (l : List Module) (x : Item) (n : Str) : Int :=
 match findM l x.of with
 | some i => if (x.kind.1 == 9 && has [1, 2] (kindOf (l.getD i.toNat ⟨emp, emp, [], []⟩) n)) = true then kindOf (l.getD i.toNat ⟨emp, emp, [], []⟩) n else 0
 | none => 0
theorem port_c (l : List Module) (ks vs : List D) (bs : List Nat) (cl : Nat) (x : Item) (n : Str) : FnP Try.prog 70 [.agg (eFile l ks vs bs cl), .agg (eItem x), eS n] (.d (eI (portOf l x n))) [] := by
 cases hf : get (idxs l) x.of with
 | none =>
  refine FnP.of_eC (own := []) (fun _ => []) mixed Try.func70 rfl Try.call70 Try.ntmps70 (Nat.le_of_ble_eq_true rfl) Try.results70 (fun hok => ?_)
  simp (maxSteps := 4000000) only [ZE,↓reduceIte,pE,pL,pA,pS,pM,pD, zN,qT,qG,qL,qH,qN,qB,qE,qO,qA,qM, eFile, eScopes, eIdx, sMp, mget_s, keyedS, keyOkS, hf]
  refine ⟨fun y hy => sK_ok _ y hy, ?_⟩
  have : findM l x.of = none := hf
  simp only [portOf, this]
 | some i =>
  obtain ⟨k, hk, rfl, hn⟩ := findM_lt hf
  have hp : portOf l x n = if (x.kind.1 == 9 && has [1, 2] (kindOf l[k] n)) = true then kindOf l[k] n else 0 := by
   have : findM l x.of = some (k : Int) := hf
   have e : l.getD k ⟨emp, emp, [], []⟩ = l[k] := by simp [List.getD, hk]
   simp only [portOf, this, Int.toNat_natCast, e]
  refine FnP.of_eC (own := []) chL mixed Try.func70 rfl Try.call70 Try.ntmps70 (Nat.le_of_ble_eq_true rfl) Try.results70 (fun hok => ?_)
  have hc := is_c l[k] n [1, 2]
  simp only [ZE,↓reduceIte,pE,pL,pA,pS,pM,pD, eScope, sMp] at hc
  simp (maxSteps := 4000000) only [ZE,↓reduceIte,pE,pL,pA,pS,pM,pD, zN,qT,qG,qL,qH,qN,qB,qE,qO,qA,qM, eFile, eScopes, eIdx, sMp, mget_s, keyedS, keyOkS, hf, lt_int hk, getD_map hk, eScope, zItem_raw, getD_item]
  refine ⟨fun y hy => sK_ok _ y hy, ECallC.i (fun _ => hc) ?_⟩
  simp only [ZE,↓reduceIte,pE,pL,pA,pS,pM,pD]
  refine iteI (fun h => ⟨fun y hy => sK_ok _ y hy, ?_⟩) (fun h => ?_)
  ·rw [hp, if_pos h]; rfl
  ·rw [hp, if_neg (by rw [h]; simp)]
end Go.Proofs.Ytejpmjnefokdoaa

namespace Go.Proofs.Ytejpmjnefokdoaa
open Go.Aw
open Nat renaming reduceEqDiff → pE, reduceLT → pL, reduceAdd → pA, reduceSub → pS, reduceMul → pM, reduceLeDiff → pD
open Int renaming reduceToNat → qT, reduceGT → qG, reduceLT → qL, reduceGE → qH, reduceBNe → qN, reduceBEq → qB, reduceLE → qE, reduceNe → qO, reduceAdd → qA, reduceNeg → qM
set_option maxRecDepth 100000
set_option maxHeartbeats 1000000
def inc (n : Int) : Int := IntKind.i64.wrap (n + 1)
def endI (n : Str) (acc : Int × Int) (x : Item) : Int × Int := if (x.kind.1 == 7 && decide (x.name = n)) = true then (inc acc.1, acc.2) else if (x.kind.1 == 8 && decide (x.name = n)) = true then (acc.1, inc acc.2) else acc
def endB (l : List Module) (x : Item) (n : Str) (acc : Int × Int) (b : Bind) : Int × Int := if (decide (b.chan = n) && portOf l x b.port == 1) = true then (inc acc.1, acc.2) else if (decide (b.chan = n) && portOf l x b.port == 2) = true then (acc.1, inc acc.2) else acc
def endX (l : List Module) (n : Str) (acc : Int × Int) (x : Item) : Int × Int := x.ports.foldl (endB l x n) (endI n acc x)
def ends (l : List Module) (m : Module) (n : Str) : Int × Int := m.items.foldl (endX l n) (0, 0)
theorem foldl_step {α β : Type} (f : β → α → β) (b : β) (l : List α) (i : Nat) (h : i < l.length) : (l.take (i + 1)).foldl f b = f ((l.take i).foldl f b) l[i] := by
 rw [List.take_succ_eq_append_getElem h, List.foldl_append]; rfl
theorem ends_c (l : List Module) (ks vs : List D) (bs : List Nat) (cl : Nat) (m : Module) (n : Str) : FnP Try.prog 53 [.agg (eFile l ks vs bs cl), .agg (eScope m), eS n] (.tup [.d (eI (ends l m n).1), .d (eI (ends l m n).2)]) [] := by
 refine FnP.of_eC (own := []) chL mixed Try.func53 rfl Try.call53 Try.ntmps53 (Nat.le_of_ble_eq_true rfl) Try.results53 (fun hok => ?_)
 have hm : m.items.length ≤ 9223372036854775807 ∧ ∀ x ∈ m.items, D.okL (eItem x) := by
  have := (okL_cons (okL_cons hok).2).1
  simp only [D.ok, eScope, D.okL] at this
  exact ok_map this.2.2.2.1
 simp (maxSteps := 4000000) only [ZE,↓reduceIte,pE,pL,pA,pS,pM,pD, zN,qT,qG,qL,qH,qN,qB,qE,qO,qA,qM, eScope, sMp, eFile, eScopes, eIdx]
 refine eloop chL mixed m.items.length (fun i => True) (fun i => ([(2, .d (eS n)), (3, .bp 3 0), (6, .d (eI ((m.items.take i).foldl (endX l n) (0, 0)).1)), (7, .d (eI ((m.items.take i).foldl (endX l n) (0, 0)).2)), (15, .d (eItems m.items)), (16, .d (eI m.items.length)), (17, .d (eI i))],
  [(3, .box ((eFile l ks vs bs cl).map .d))])) trivial ?_ ?_ (fun i hi _ => ?_)
 ·simp only [ZE,↓reduceIte,pE,pL,pA,pS,pM,pD, List.take_zero, List.foldl_nil]
 ·simp only [ZE,↓reduceIte,pE,pL,pA,pS,pM,pD, eFile, eScopes, eIdx, sMp]
 obtain ⟨acc, hacc⟩ : ∃ acc, (m.items.take i).foldl (endX l n) (0, 0) = acc := ⟨_, rfl⟩
 rcases Nat.lt_or_ge i m.items.length with h | h
 ·have hw := wrap_succ (show i < 9223372036854775807 by omega)
  have hs := foldl_step (endX l n) (0, 0) m.items i h
  rw [hacc] at hs
  simp (maxSteps := 4000000) only [ZE,↓reduceIte,pE,pL,pA,pS,pM,pD, dec_lt h, getD_map h, lt_int h, hacc, hs, eFile, eScopes, eIdx, sMp]
  have hbok : m.items[i].ports.length ≤ 9223372036854775807 := by
   have := hm.2 m.items[i] (List.getElem_mem h)
   simp only [eItem, D.okL] at this
   have h1 := (okL_app (okL_app (okL_app (okL_app (okL_app (okL_app (okL_app this.2.2).2).2).2).2).2).2).2
   simp only [D.okL] at h1
   exact (ok_map h1.2.2.1).1
  obtain ⟨e0, he0⟩ : ∃ e0, endI n acc m.items[i] = e0 := ⟨_, rfl⟩
  have he := he0
  unfold endI inc at he
  have hx : endX l n acc m.items[i] = m.items[i].ports.foldl (endB l m.items[i] n) e0 := by rw [← he0]; rfl
  refine iteI (fun h7 => ?_) (fun h7 => iteI (fun h8 => ?_) (fun h8 => ?_))
  ·rw [if_pos h7] at he
   subst he
   refine eloop chL mixed m.items[i].ports.length (fun j => True) (fun j => ([(2, .d (eS n)), (3, .bp 3 0), (6, .d (eI ((m.items[i].ports.take j).foldl (endB l m.items[i] n) (IntKind.i64.wrap (acc.1 + 1), acc.2)).1)), (7, .d (eI ((m.items[i].ports.take j).foldl (endB l m.items[i] n) (IntKind.i64.wrap (acc.1 + 1), acc.2)).2)), (9, .bp 9 0), (15, .d (eItems m.items)), (16, .d (eI m.items.length)), (17, .d (eI i)), (46, .d (eBinds m.items[i].ports)), (47, .d (eI m.items[i].ports.length)), (48, .d (eI j))],
    [(9, .box ((eItem m.items[i]).map .d)), (3, .box ((eFile l ks vs bs cl).map .d))])) trivial ?_ ?_ (fun j hj _ => ?_)
   ·simp only [ZE,↓reduceIte,pE,pL,pA,pS,pM,pD, List.take_zero, List.foldl_nil]
   ·simp only [ZE,↓reduceIte,pE,pL,pA,pS,pM,pD, eFile, eScopes, eIdx, sMp]
   rcases Nat.lt_or_ge j m.items[i].ports.length with h' | h'
   ·have hw' := wrap_succ (show j < 9223372036854775807 by omega)
    obtain ⟨a2, ha2⟩ : ∃ a2, (m.items[i].ports.take j).foldl (endB l m.items[i] n) (IntKind.i64.wrap (acc.1 + 1), acc.2) = a2 := ⟨_, rfl⟩
    have hs2 := foldl_step (endB l m.items[i] n) (IntKind.i64.wrap (acc.1 + 1), acc.2) m.items[i].ports j h'
    rw [ha2] at hs2
    have hc := port_c l ks vs bs cl m.items[i] m.items[i].ports[j].port
    simp only [ZE,↓reduceIte,pE,pL,pA,pS,pM,pD, eFile, eScopes, eIdx, sMp] at hc
    simp (maxSteps := 4000000) only [ZE,↓reduceIte,pE,pL,pA,pS,pM,pD, dec_lt h', getD_map h', lt_int h', ha2, hs2, eFile, eScopes, eIdx, sMp]
    refine EFn.p ?_
    simp only [ZE,↓reduceIte,pE,pL,pA,pS,pM,pD]
    refine ECall.i hc ?_
    simp only [ZE,↓reduceIte,pE,pL,pA,pS,pM,pD, hw', endB, inc]
    refine iteI (fun g1 => ?_) (fun g1 => iteI (fun g2 => ?_) (fun g2 => ?_))
    ·simp only [g1, if_true]; exact ⟨h', trivial, trivial⟩
    ·simp only [g1, g2, if_true, Bool.false_eq_true, if_false]; exact ⟨h', trivial, trivial⟩
    ·simp only [g1, g2, Bool.false_eq_true, if_false]; exact ⟨h', trivial, trivial⟩
   ·have : j = m.items[i].ports.length := by omega
    subst this
    simp only [ZE,↓reduceIte,pE,pL,pA,pS,pM,pD, dec_ge h', List.take_length, hw, hx, eFile, eScopes, eIdx, sMp]
    exact h
  ·rw [if_neg (by rw [h7]; simp), if_pos h8] at he
   subst he
   refine eloop chL mixed m.items[i].ports.length (fun j => True) (fun j => ([(2, .d (eS n)), (3, .bp 3 0), (6, .d (eI ((m.items[i].ports.take j).foldl (endB l m.items[i] n) (acc.1, IntKind.i64.wrap (acc.2 + 1))).1)), (7, .d (eI ((m.items[i].ports.take j).foldl (endB l m.items[i] n) (acc.1, IntKind.i64.wrap (acc.2 + 1))).2)), (9, .bp 9 0), (15, .d (eItems m.items)), (16, .d (eI m.items.length)), (17, .d (eI i)), (46, .d (eBinds m.items[i].ports)), (47, .d (eI m.items[i].ports.length)), (48, .d (eI j))],
    [(9, .box ((eItem m.items[i]).map .d)), (3, .box ((eFile l ks vs bs cl).map .d))])) trivial ?_ ?_ (fun j hj _ => ?_)
   ·simp only [ZE,↓reduceIte,pE,pL,pA,pS,pM,pD, List.take_zero, List.foldl_nil]
   ·simp only [ZE,↓reduceIte,pE,pL,pA,pS,pM,pD, eFile, eScopes, eIdx, sMp]
   rcases Nat.lt_or_ge j m.items[i].ports.length with h' | h'
   ·have hw' := wrap_succ (show j < 9223372036854775807 by omega)
    obtain ⟨a2, ha2⟩ : ∃ a2, (m.items[i].ports.take j).foldl (endB l m.items[i] n) (acc.1, IntKind.i64.wrap (acc.2 + 1)) = a2 := ⟨_, rfl⟩
    have hs2 := foldl_step (endB l m.items[i] n) (acc.1, IntKind.i64.wrap (acc.2 + 1)) m.items[i].ports j h'
    rw [ha2] at hs2
    have hc := port_c l ks vs bs cl m.items[i] m.items[i].ports[j].port
    simp only [ZE,↓reduceIte,pE,pL,pA,pS,pM,pD, eFile, eScopes, eIdx, sMp] at hc
    simp (maxSteps := 4000000) only [ZE,↓reduceIte,pE,pL,pA,pS,pM,pD, dec_lt h', getD_map h', lt_int h', ha2, hs2, eFile, eScopes, eIdx, sMp]
    refine EFn.p ?_
    simp only [ZE,↓reduceIte,pE,pL,pA,pS,pM,pD]
    refine ECall.i hc ?_
    simp only [ZE,↓reduceIte,pE,pL,pA,pS,pM,pD, hw', endB, inc]
    refine iteI (fun g1 => ?_) (fun g1 => iteI (fun g2 => ?_) (fun g2 => ?_))
    ·simp only [g1, if_true]; exact ⟨h', trivial, trivial⟩
    ·simp only [g1, g2, if_true, Bool.false_eq_true, if_false]; exact ⟨h', trivial, trivial⟩
    ·simp only [g1, g2, Bool.false_eq_true, if_false]; exact ⟨h', trivial, trivial⟩
   ·have : j = m.items[i].ports.length := by omega
    subst this
    simp only [ZE,↓reduceIte,pE,pL,pA,pS,pM,pD, dec_ge h', List.take_length, hw, hx, eFile, eScopes, eIdx, sMp]
    exact h
  ·rw [if_neg (by rw [h7]; simp), if_neg (by rw [h8]; simp)] at he
   subst he
   refine eloop chL mixed m.items[i].ports.length (fun j => True) (fun j => ([(2, .d (eS n)), (3, .bp 3 0), (6, .d (eI ((m.items[i].ports.take j).foldl (endB l m.items[i] n) acc).1)), (7, .d (eI ((m.items[i].ports.take j).foldl (endB l m.items[i] n) acc).2)), (9, .bp 9 0), (15, .d (eItems m.items)), (16, .d (eI m.items.length)), (17, .d (eI i)), (46, .d (eBinds m.items[i].ports)), (47, .d (eI m.items[i].ports.length)), (48, .d (eI j))],
    [(9, .box ((eItem m.items[i]).map .d)), (3, .box ((eFile l ks vs bs cl).map .d))])) trivial ?_ ?_ (fun j hj _ => ?_)
   ·simp only [ZE,↓reduceIte,pE,pL,pA,pS,pM,pD, List.take_zero, List.foldl_nil]
   ·simp only [ZE,↓reduceIte,pE,pL,pA,pS,pM,pD, eFile, eScopes, eIdx, sMp]
   rcases Nat.lt_or_ge j m.items[i].ports.length with h' | h'
   ·have hw' := wrap_succ (show j < 9223372036854775807 by omega)
    obtain ⟨a2, ha2⟩ : ∃ a2, (m.items[i].ports.take j).foldl (endB l m.items[i] n) acc = a2 := ⟨_, rfl⟩
    have hs2 := foldl_step (endB l m.items[i] n) acc m.items[i].ports j h'
    rw [ha2] at hs2
    have hc := port_c l ks vs bs cl m.items[i] m.items[i].ports[j].port
    simp only [ZE,↓reduceIte,pE,pL,pA,pS,pM,pD, eFile, eScopes, eIdx, sMp] at hc
    simp (maxSteps := 4000000) only [ZE,↓reduceIte,pE,pL,pA,pS,pM,pD, dec_lt h', getD_map h', lt_int h', ha2, hs2, eFile, eScopes, eIdx, sMp]
    refine EFn.p ?_
    simp only [ZE,↓reduceIte,pE,pL,pA,pS,pM,pD]
    refine ECall.i hc ?_
    simp only [ZE,↓reduceIte,pE,pL,pA,pS,pM,pD, hw', endB, inc]
    refine iteI (fun g1 => ?_) (fun g1 => iteI (fun g2 => ?_) (fun g2 => ?_))
    ·simp only [g1, if_true]; exact ⟨h', trivial, trivial⟩
    ·simp only [g1, g2, if_true, Bool.false_eq_true, if_false]; exact ⟨h', trivial, trivial⟩
    ·simp only [g1, g2, Bool.false_eq_true, if_false]; exact ⟨h', trivial, trivial⟩
   ·have : j = m.items[i].ports.length := by omega
    subst this
    simp only [ZE,↓reduceIte,pE,pL,pA,pS,pM,pD, dec_ge h', List.take_length, hw, hx, eFile, eScopes, eIdx, sMp]
    exact h
 ·have : i = m.items.length := by omega
  subst this
  simp (maxSteps := 4000000) only [ZE,↓reduceIte,pE,pL,pA,pS,pM,pD, dec_ge h, List.take_length, ends]
end Go.Proofs.Ytejpmjnefokdoaa
