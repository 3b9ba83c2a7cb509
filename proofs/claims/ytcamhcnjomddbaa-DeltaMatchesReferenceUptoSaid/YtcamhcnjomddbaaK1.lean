/-
  CONTRACTS of the functions that the law reaches, and plain laws on what they compute. Conditions: those of each law.
-/
import Derived.Test.YtcamhcnjomddbaaGO
import Derived.Test.YtcamhcnjomddbaaProg
import Derived.Test.YtcamhcnjomddbaaGP
import Derived.DeepKeys4
import Derived.Maps.Keyed
set_option linter.unusedSimpArgs false
set_option linter.unusedVariables false
/-
  FACTS ON THE PROGRAM'S TYPES (printed by wip/tools/facts.py).
-/
namespace Go.Proofs.Ytcamhcnjomddbaa
open Go.Aw
theorem mixed : Try.prog.follows .mixedOrders = true := by kernel_rfl
theorem tL1 : lay Try.prog 1 = some (false, 1) := by kernel_rfl
theorem tZ1 : zeroOf Try.prog 1 = some [.nilFunc] := by kernel_rfl
theorem tU2 : Try.prog.underlying 2 = some (.int .i64) := by kernel_rfl
theorem tL2 : lay Try.prog 2 = some (false, 1) := by kernel_rfl
theorem tZ2 : zeroOf Try.prog 2 = some [.int .i64 0] := by kernel_rfl
theorem tU3 : Try.prog.underlying 3 = some (.int .i64) := by kernel_rfl
theorem tL3 : lay Try.prog 3 = some (false, 1) := by kernel_rfl
theorem tZ3 : zeroOf Try.prog 3 = some [.int .i64 0] := by kernel_rfl
theorem tU4 : Try.prog.underlying 4 = some .bool := by kernel_rfl
theorem tL4 : lay Try.prog 4 = some (false, 1) := by kernel_rfl
theorem tZ4 : zeroOf Try.prog 4 = some [.bool false] := by kernel_rfl
theorem tU5 : Try.prog.underlying 5 = some (.int .u8) := by kernel_rfl
theorem tL5 : lay Try.prog 5 = some (false, 1) := by kernel_rfl
theorem tZ5 : zeroOf Try.prog 5 = some [.int .u8 0] := by kernel_rfl
theorem tU6 : Try.prog.underlying 6 = some (.int .u8) := by kernel_rfl
theorem tL6 : lay Try.prog 6 = some (false, 1) := by kernel_rfl
theorem tZ6 : zeroOf Try.prog 6 = some [.int .u8 0] := by kernel_rfl
theorem tL7 : lay Try.prog 7 = some (true, 4) := by kernel_rfl
theorem tZ7 : zeroOf Try.prog 7 = some [.int .i64 0, .int .i64 0, .bool false, .int .u8 0] := by kernel_rfl
theorem tF7x0 : fieldOf Try.prog 7 0 = some (0, false, 1) := by kernel_rfl
theorem tP7x0 : placeOf Try.prog 7 0 = some (0, false, 1) := by kernel_rfl
theorem tF7x1 : fieldOf Try.prog 7 1 = some (1, false, 1) := by kernel_rfl
theorem tP7x1 : placeOf Try.prog 7 1 = some (1, false, 1) := by kernel_rfl
theorem tF7x2 : fieldOf Try.prog 7 2 = some (2, false, 1) := by kernel_rfl
theorem tP7x2 : placeOf Try.prog 7 2 = some (2, false, 1) := by kernel_rfl
theorem tF7x3 : fieldOf Try.prog 7 3 = some (3, false, 1) := by kernel_rfl
theorem tP7x3 : placeOf Try.prog 7 3 = some (3, false, 1) := by kernel_rfl
theorem tK7 : placesOk Try.prog 7 = true := by kernel_rfl
theorem tQ7 : eqTys Try.prog 7 = some [0, 0, 1, 0] := by kernel_rfl
theorem tL8 : lay Try.prog 8 = some (true, 4) := by kernel_rfl
theorem tZ8 : zeroOf Try.prog 8 = some [.int .i64 0, .int .i64 0, .bool false, .int .u8 0] := by kernel_rfl
theorem tF8x0 : fieldOf Try.prog 8 0 = some (0, false, 1) := by kernel_rfl
theorem tP8x0 : placeOf Try.prog 8 0 = some (0, false, 1) := by kernel_rfl
theorem tF8x1 : fieldOf Try.prog 8 1 = some (1, false, 1) := by kernel_rfl
theorem tP8x1 : placeOf Try.prog 8 1 = some (1, false, 1) := by kernel_rfl
theorem tF8x2 : fieldOf Try.prog 8 2 = some (2, false, 1) := by kernel_rfl
theorem tP8x2 : placeOf Try.prog 8 2 = some (2, false, 1) := by kernel_rfl
theorem tF8x3 : fieldOf Try.prog 8 3 = some (3, false, 1) := by kernel_rfl
theorem tP8x3 : placeOf Try.prog 8 3 = some (3, false, 1) := by kernel_rfl
theorem tK8 : placesOk Try.prog 8 = true := by kernel_rfl
theorem tQ8 : eqTys Try.prog 8 = some [0, 0, 1, 0] := by kernel_rfl
theorem tU9 : Try.prog.underlying 9 = some .string := by kernel_rfl
theorem tL9 : lay Try.prog 9 = some (false, 1) := by kernel_rfl
theorem tZ9 : zeroOf Try.prog 9 = some [.string ByteArray.empty] := by kernel_rfl
theorem tU10 : Try.prog.underlying 10 = some .string := by kernel_rfl
theorem tL10 : lay Try.prog 10 = some (false, 1) := by kernel_rfl
theorem tZ10 : zeroOf Try.prog 10 = some [.string ByteArray.empty] := by kernel_rfl
theorem tU11 : Try.prog.underlying 11 = some .string := by kernel_rfl
theorem tL11 : lay Try.prog 11 = some (false, 1) := by kernel_rfl
theorem tZ11 : zeroOf Try.prog 11 = some [.string ByteArray.empty] := by kernel_rfl
theorem tU12 : Try.prog.underlying 12 = some (.int .u64) := by kernel_rfl
theorem tL12 : lay Try.prog 12 = some (false, 1) := by kernel_rfl
theorem tZ12 : zeroOf Try.prog 12 = some [.int .u64 0] := by kernel_rfl
theorem tL13 : lay Try.prog 13 = some (true, 2) := by kernel_rfl
theorem tZ13 : zeroOf Try.prog 13 = some [.string ByteArray.empty, .int .u64 0] := by kernel_rfl
theorem tF13x0 : fieldOf Try.prog 13 0 = some (0, false, 1) := by kernel_rfl
theorem tP13x0 : placeOf Try.prog 13 0 = some (0, false, 1) := by kernel_rfl
theorem tF13x1 : fieldOf Try.prog 13 1 = some (1, false, 1) := by kernel_rfl
theorem tP13x1 : placeOf Try.prog 13 1 = some (1, false, 1) := by kernel_rfl
theorem tK13 : placesOk Try.prog 13 = true := by kernel_rfl
theorem tL14 : lay Try.prog 14 = some (true, 2) := by kernel_rfl
theorem tZ14 : zeroOf Try.prog 14 = some [.string ByteArray.empty, .int .u64 0] := by kernel_rfl
theorem tF14x0 : fieldOf Try.prog 14 0 = some (0, false, 1) := by kernel_rfl
theorem tP14x0 : placeOf Try.prog 14 0 = some (0, false, 1) := by kernel_rfl
theorem tF14x1 : fieldOf Try.prog 14 1 = some (1, false, 1) := by kernel_rfl
theorem tP14x1 : placeOf Try.prog 14 1 = some (1, false, 1) := by kernel_rfl
theorem tK14 : placesOk Try.prog 14 = true := by kernel_rfl
theorem tU15 : Try.prog.underlying 15 = some (.pointer 148) := by kernel_rfl
theorem tL15 : lay Try.prog 15 = some (false, 1) := by kernel_rfl
theorem tZ15 : zeroOf Try.prog 15 = some [.pointer none] := by kernel_rfl
theorem tU16 : Try.prog.underlying 16 = some (.pointer 151) := by kernel_rfl
theorem tL16 : lay Try.prog 16 = some (false, 1) := by kernel_rfl
theorem tZ16 : zeroOf Try.prog 16 = some [.pointer none] := by kernel_rfl
theorem tU17 : Try.prog.underlying 17 = some (.pointer 160) := by kernel_rfl
theorem tL17 : lay Try.prog 17 = some (false, 1) := by kernel_rfl
theorem tZ17 : zeroOf Try.prog 17 = some [.pointer none] := by kernel_rfl
theorem tL18 : lay Try.prog 18 = some (true, 1) := by kernel_rfl
theorem tZ18 : zeroOf Try.prog 18 = some [.pointer none] := by kernel_rfl
theorem tF18x0 : fieldOf Try.prog 18 0 = some (0, false, 1) := by kernel_rfl
theorem tP18x0 : placeOf Try.prog 18 0 = some (0, false, 1) := by kernel_rfl
theorem tK18 : placesOk Try.prog 18 = true := by kernel_rfl
theorem tL19 : lay Try.prog 19 = some (true, 1) := by kernel_rfl
theorem tZ19 : zeroOf Try.prog 19 = some [.pointer none] := by kernel_rfl
theorem tF19x0 : fieldOf Try.prog 19 0 = some (0, false, 1) := by kernel_rfl
theorem tP19x0 : placeOf Try.prog 19 0 = some (0, false, 1) := by kernel_rfl
theorem tK19 : placesOk Try.prog 19 = true := by kernel_rfl
theorem tL20 : lay Try.prog 20 = some (false, 1) := by kernel_rfl
theorem tZ20 : zeroOf Try.prog 20 = some [.nilIface] := by kernel_rfl
theorem tU21 : Try.prog.underlying 21 = some (.int .i32) := by kernel_rfl
theorem tL21 : lay Try.prog 21 = some (false, 1) := by kernel_rfl
theorem tZ21 : zeroOf Try.prog 21 = some [.int .i32 0] := by kernel_rfl
theorem tU22 : Try.prog.underlying 22 = some (.slice 5) := by kernel_rfl
theorem tL22 : lay Try.prog 22 = some (false, 1) := by kernel_rfl
theorem tZ22 : zeroOf Try.prog 22 = some [.slice none 0 0] := by kernel_rfl
theorem tE22 : elemOfSl Try.prog 22 = some (5, false, 1) := by kernel_rfl
theorem tA22 : appTy Try.prog 22 = some (5, 1, 1) := by kernel_rfl
theorem tU23 : Try.prog.underlying 23 = some (.slice 63) := by kernel_rfl
theorem tL23 : lay Try.prog 23 = some (false, 1) := by kernel_rfl
theorem tZ23 : zeroOf Try.prog 23 = some [.slice none 0 0] := by kernel_rfl
theorem tE23 : elemOfSl Try.prog 23 = some (63, false, 1) := by kernel_rfl
theorem tA23 : appTy Try.prog 23 = some (63, 1, 8) := by kernel_rfl
theorem tL24 : lay Try.prog 24 = some (true, 2) := by kernel_rfl
theorem tZ24 : zeroOf Try.prog 24 = some [.slice none 0 0, .slice none 0 0] := by kernel_rfl
theorem tF24x0 : fieldOf Try.prog 24 0 = some (0, false, 1) := by kernel_rfl
theorem tP24x0 : placeOf Try.prog 24 0 = some (0, false, 1) := by kernel_rfl
theorem tF24x1 : fieldOf Try.prog 24 1 = some (1, false, 1) := by kernel_rfl
theorem tP24x1 : placeOf Try.prog 24 1 = some (1, false, 1) := by kernel_rfl
theorem tK24 : placesOk Try.prog 24 = true := by kernel_rfl
theorem tL25 : lay Try.prog 25 = some (true, 2) := by kernel_rfl
theorem tZ25 : zeroOf Try.prog 25 = some [.slice none 0 0, .slice none 0 0] := by kernel_rfl
theorem tF25x0 : fieldOf Try.prog 25 0 = some (0, false, 1) := by kernel_rfl
theorem tP25x0 : placeOf Try.prog 25 0 = some (0, false, 1) := by kernel_rfl
theorem tF25x1 : fieldOf Try.prog 25 1 = some (1, false, 1) := by kernel_rfl
theorem tP25x1 : placeOf Try.prog 25 1 = some (1, false, 1) := by kernel_rfl
theorem tK25 : placesOk Try.prog 25 = true := by kernel_rfl
theorem tU26 : Try.prog.underlying 26 = some (.slice 69) := by kernel_rfl
theorem tL26 : lay Try.prog 26 = some (false, 1) := by kernel_rfl
theorem tZ26 : zeroOf Try.prog 26 = some [.slice none 0 0] := by kernel_rfl
theorem tE26 : elemOfSl Try.prog 26 = some (69, true, 2) := by kernel_rfl
theorem tA26 : appTy Try.prog 26 = some (69, 2, 16) := by kernel_rfl
theorem tU27 : Try.prog.underlying 27 = some (.slice 60) := by kernel_rfl
theorem tL27 : lay Try.prog 27 = some (false, 1) := by kernel_rfl
theorem tZ27 : zeroOf Try.prog 27 = some [.slice none 0 0] := by kernel_rfl
theorem tE27 : elemOfSl Try.prog 27 = some (60, false, 1) := by kernel_rfl
theorem tA27 : appTy Try.prog 27 = some (60, 1, 24) := by kernel_rfl
theorem tU28 : Try.prog.underlying 28 = some (.slice 65) := by kernel_rfl
theorem tL28 : lay Try.prog 28 = some (false, 1) := by kernel_rfl
theorem tZ28 : zeroOf Try.prog 28 = some [.slice none 0 0] := by kernel_rfl
theorem tE28 : elemOfSl Try.prog 28 = some (65, true, 4) := by kernel_rfl
theorem tA28 : appTy Try.prog 28 = some (65, 4, 32) := by kernel_rfl
theorem tU29 : Try.prog.underlying 29 = some (.slice 23) := by kernel_rfl
theorem tL29 : lay Try.prog 29 = some (false, 1) := by kernel_rfl
theorem tZ29 : zeroOf Try.prog 29 = some [.slice none 0 0] := by kernel_rfl
theorem tE29 : elemOfSl Try.prog 29 = some (23, false, 1) := by kernel_rfl
theorem tA29 : appTy Try.prog 29 = some (23, 1, 24) := by kernel_rfl
theorem tL30 : lay Try.prog 30 = some (true, 5) := by kernel_rfl
theorem tZ30 : zeroOf Try.prog 30 = some [.slice none 0 0, .slice none 0 0, .slice none 0 0, .int .i64 0, .slice none 0 0] := by kernel_rfl
theorem tF30x0 : fieldOf Try.prog 30 0 = some (0, false, 1) := by kernel_rfl
theorem tP30x0 : placeOf Try.prog 30 0 = some (0, false, 1) := by kernel_rfl
theorem tF30x1 : fieldOf Try.prog 30 1 = some (1, false, 1) := by kernel_rfl
theorem tP30x1 : placeOf Try.prog 30 1 = some (1, false, 1) := by kernel_rfl
theorem tF30x2 : fieldOf Try.prog 30 2 = some (2, false, 1) := by kernel_rfl
theorem tP30x2 : placeOf Try.prog 30 2 = some (2, false, 1) := by kernel_rfl
theorem tF30x3 : fieldOf Try.prog 30 3 = some (3, false, 1) := by kernel_rfl
theorem tP30x3 : placeOf Try.prog 30 3 = some (3, false, 1) := by kernel_rfl
theorem tF30x4 : fieldOf Try.prog 30 4 = some (4, false, 1) := by kernel_rfl
theorem tP30x4 : placeOf Try.prog 30 4 = some (4, false, 1) := by kernel_rfl
theorem tK30 : placesOk Try.prog 30 = true := by kernel_rfl
theorem tL31 : lay Try.prog 31 = some (true, 5) := by kernel_rfl
theorem tZ31 : zeroOf Try.prog 31 = some [.slice none 0 0, .slice none 0 0, .slice none 0 0, .int .i64 0, .slice none 0 0] := by kernel_rfl
theorem tF31x0 : fieldOf Try.prog 31 0 = some (0, false, 1) := by kernel_rfl
theorem tP31x0 : placeOf Try.prog 31 0 = some (0, false, 1) := by kernel_rfl
theorem tF31x1 : fieldOf Try.prog 31 1 = some (1, false, 1) := by kernel_rfl
theorem tP31x1 : placeOf Try.prog 31 1 = some (1, false, 1) := by kernel_rfl
theorem tF31x2 : fieldOf Try.prog 31 2 = some (2, false, 1) := by kernel_rfl
theorem tP31x2 : placeOf Try.prog 31 2 = some (2, false, 1) := by kernel_rfl
theorem tF31x3 : fieldOf Try.prog 31 3 = some (3, false, 1) := by kernel_rfl
theorem tP31x3 : placeOf Try.prog 31 3 = some (3, false, 1) := by kernel_rfl
theorem tF31x4 : fieldOf Try.prog 31 4 = some (4, false, 1) := by kernel_rfl
theorem tP31x4 : placeOf Try.prog 31 4 = some (4, false, 1) := by kernel_rfl
theorem tK31 : placesOk Try.prog 31 = true := by kernel_rfl
theorem tL32 : lay Try.prog 32 = some (false, 1) := by kernel_rfl
theorem tZ32 : zeroOf Try.prog 32 = some [.nilFunc] := by kernel_rfl
theorem tL33 : lay Try.prog 33 = some (false, 1) := by kernel_rfl
theorem tZ33 : zeroOf Try.prog 33 = some [.nilFunc] := by kernel_rfl
theorem tL34 : lay Try.prog 34 = some (false, 1) := by kernel_rfl
theorem tZ34 : zeroOf Try.prog 34 = some [.nilFunc] := by kernel_rfl
theorem tL35 : lay Try.prog 35 = some (false, 1) := by kernel_rfl
theorem tZ35 : zeroOf Try.prog 35 = some [.nilFunc] := by kernel_rfl
theorem tU36 : Try.prog.underlying 36 = some (.int .i64) := by kernel_rfl
theorem tL36 : lay Try.prog 36 = some (false, 1) := by kernel_rfl
theorem tZ36 : zeroOf Try.prog 36 = some [.int .i64 0] := by kernel_rfl
theorem tL37 : lay Try.prog 37 = some (true, 2) := by kernel_rfl
theorem tZ37 : zeroOf Try.prog 37 = some [.slice none 0 0, .int .i64 0] := by kernel_rfl
theorem tF37x0 : fieldOf Try.prog 37 0 = some (0, false, 1) := by kernel_rfl
theorem tP37x0 : placeOf Try.prog 37 0 = some (0, false, 1) := by kernel_rfl
theorem tF37x1 : fieldOf Try.prog 37 1 = some (1, false, 1) := by kernel_rfl
theorem tP37x1 : placeOf Try.prog 37 1 = some (1, false, 1) := by kernel_rfl
theorem tK37 : placesOk Try.prog 37 = true := by kernel_rfl
theorem tL38 : lay Try.prog 38 = some (true, 2) := by kernel_rfl
theorem tZ38 : zeroOf Try.prog 38 = some [.slice none 0 0, .int .i64 0] := by kernel_rfl
theorem tF38x0 : fieldOf Try.prog 38 0 = some (0, false, 1) := by kernel_rfl
theorem tP38x0 : placeOf Try.prog 38 0 = some (0, false, 1) := by kernel_rfl
theorem tF38x1 : fieldOf Try.prog 38 1 = some (1, false, 1) := by kernel_rfl
theorem tP38x1 : placeOf Try.prog 38 1 = some (1, false, 1) := by kernel_rfl
theorem tK38 : placesOk Try.prog 38 = true := by kernel_rfl
theorem tL39 : lay Try.prog 39 = some (false, 1) := by kernel_rfl
theorem tZ39 : zeroOf Try.prog 39 = some [.nilFunc] := by kernel_rfl
theorem tL40 : lay Try.prog 40 = some (false, 1) := by kernel_rfl
theorem tZ40 : zeroOf Try.prog 40 = some [.nilFunc] := by kernel_rfl
theorem tL41 : lay Try.prog 41 = some (false, 1) := by kernel_rfl
theorem tZ41 : zeroOf Try.prog 41 = some [.nilFunc] := by kernel_rfl
theorem tL42 : lay Try.prog 42 = some (true, 2) := by kernel_rfl
theorem tZ42 : zeroOf Try.prog 42 = some [.slice none 0 0, .int .i64 0] := by kernel_rfl
theorem tF42x0 : fieldOf Try.prog 42 0 = some (0, false, 1) := by kernel_rfl
theorem tP42x0 : placeOf Try.prog 42 0 = some (0, false, 1) := by kernel_rfl
theorem tF42x1 : fieldOf Try.prog 42 1 = some (1, false, 1) := by kernel_rfl
theorem tP42x1 : placeOf Try.prog 42 1 = some (1, false, 1) := by kernel_rfl
theorem tK42 : placesOk Try.prog 42 = true := by kernel_rfl
theorem tL43 : lay Try.prog 43 = some (true, 2) := by kernel_rfl
theorem tZ43 : zeroOf Try.prog 43 = some [.slice none 0 0, .int .i64 0] := by kernel_rfl
theorem tF43x0 : fieldOf Try.prog 43 0 = some (0, false, 1) := by kernel_rfl
theorem tP43x0 : placeOf Try.prog 43 0 = some (0, false, 1) := by kernel_rfl
theorem tF43x1 : fieldOf Try.prog 43 1 = some (1, false, 1) := by kernel_rfl
theorem tP43x1 : placeOf Try.prog 43 1 = some (1, false, 1) := by kernel_rfl
theorem tK43 : placesOk Try.prog 43 = true := by kernel_rfl
theorem tL44 : lay Try.prog 44 = some (false, 1) := by kernel_rfl
theorem tZ44 : zeroOf Try.prog 44 = some [.nilFunc] := by kernel_rfl
theorem tL45 : lay Try.prog 45 = some (false, 1) := by kernel_rfl
theorem tZ45 : zeroOf Try.prog 45 = some [.nilFunc] := by kernel_rfl
theorem tL46 : lay Try.prog 46 = some (false, 1) := by kernel_rfl
theorem tZ46 : zeroOf Try.prog 46 = some [.nilFunc] := by kernel_rfl
theorem tU47 : Try.prog.underlying 47 = some (.slice 28) := by kernel_rfl
theorem tL47 : lay Try.prog 47 = some (false, 1) := by kernel_rfl
theorem tZ47 : zeroOf Try.prog 47 = some [.slice none 0 0] := by kernel_rfl
theorem tE47 : elemOfSl Try.prog 47 = some (28, false, 1) := by kernel_rfl
theorem tA47 : appTy Try.prog 47 = some (28, 1, 24) := by kernel_rfl
theorem tL48 : lay Try.prog 48 = some (true, 2) := by kernel_rfl
theorem tZ48 : zeroOf Try.prog 48 = some [.slice none 0 0, .int .i64 0] := by kernel_rfl
theorem tF48x0 : fieldOf Try.prog 48 0 = some (0, false, 1) := by kernel_rfl
theorem tP48x0 : placeOf Try.prog 48 0 = some (0, false, 1) := by kernel_rfl
theorem tF48x1 : fieldOf Try.prog 48 1 = some (1, false, 1) := by kernel_rfl
theorem tP48x1 : placeOf Try.prog 48 1 = some (1, false, 1) := by kernel_rfl
theorem tK48 : placesOk Try.prog 48 = true := by kernel_rfl
theorem tL49 : lay Try.prog 49 = some (true, 2) := by kernel_rfl
theorem tZ49 : zeroOf Try.prog 49 = some [.slice none 0 0, .int .i64 0] := by kernel_rfl
theorem tF49x0 : fieldOf Try.prog 49 0 = some (0, false, 1) := by kernel_rfl
theorem tP49x0 : placeOf Try.prog 49 0 = some (0, false, 1) := by kernel_rfl
theorem tF49x1 : fieldOf Try.prog 49 1 = some (1, false, 1) := by kernel_rfl
theorem tP49x1 : placeOf Try.prog 49 1 = some (1, false, 1) := by kernel_rfl
theorem tK49 : placesOk Try.prog 49 = true := by kernel_rfl
theorem tL50 : lay Try.prog 50 = some (false, 1) := by kernel_rfl
theorem tZ50 : zeroOf Try.prog 50 = some [.nilFunc] := by kernel_rfl
theorem tL51 : lay Try.prog 51 = some (false, 1) := by kernel_rfl
theorem tZ51 : zeroOf Try.prog 51 = some [.nilFunc] := by kernel_rfl
theorem tL52 : lay Try.prog 52 = some (false, 1) := by kernel_rfl
theorem tZ52 : zeroOf Try.prog 52 = some [.nilFunc] := by kernel_rfl
theorem tU53 : Try.prog.underlying 53 = some (.slice 70) := by kernel_rfl
theorem tL53 : lay Try.prog 53 = some (false, 1) := by kernel_rfl
theorem tZ53 : zeroOf Try.prog 53 = some [.slice none 0 0] := by kernel_rfl
theorem tE53 : elemOfSl Try.prog 53 = some (70, true, 2) := by kernel_rfl
theorem tA53 : appTy Try.prog 53 = some (70, 2, 16) := by kernel_rfl
theorem tL54 : lay Try.prog 54 = some (false, 1) := by kernel_rfl
theorem tZ54 : zeroOf Try.prog 54 = some [.nilFunc] := by kernel_rfl
theorem tL55 : lay Try.prog 55 = some (false, 1) := by kernel_rfl
theorem tZ55 : zeroOf Try.prog 55 = some [.nilFunc] := by kernel_rfl
theorem tL56 : lay Try.prog 56 = some (false, 1) := by kernel_rfl
theorem tZ56 : zeroOf Try.prog 56 = some [.nilFunc] := by kernel_rfl
theorem tL57 : lay Try.prog 57 = some (false, 1) := by kernel_rfl
theorem tZ57 : zeroOf Try.prog 57 = some [.nilFunc] := by kernel_rfl
theorem tL58 : lay Try.prog 58 = some (false, 1) := by kernel_rfl
theorem tZ58 : zeroOf Try.prog 58 = some [.nilFunc] := by kernel_rfl
theorem tL59 : lay Try.prog 59 = some (false, 1) := by kernel_rfl
theorem tZ59 : zeroOf Try.prog 59 = some [.nilFunc] := by kernel_rfl
theorem tU60 : Try.prog.underlying 60 = some (.slice 62) := by kernel_rfl
theorem tL60 : lay Try.prog 60 = some (false, 1) := by kernel_rfl
theorem tZ60 : zeroOf Try.prog 60 = some [.slice none 0 0] := by kernel_rfl
theorem tE60 : elemOfSl Try.prog 60 = some (62, true, 1) := by kernel_rfl
theorem tA60 : appTy Try.prog 60 = some (62, 1, 24) := by kernel_rfl
theorem tL61 : lay Try.prog 61 = some (true, 1) := by kernel_rfl
theorem tZ61 : zeroOf Try.prog 61 = some [.slice none 0 0] := by kernel_rfl
theorem tF61x0 : fieldOf Try.prog 61 0 = some (0, false, 1) := by kernel_rfl
theorem tP61x0 : placeOf Try.prog 61 0 = some (0, false, 1) := by kernel_rfl
theorem tK61 : placesOk Try.prog 61 = true := by kernel_rfl
theorem tL62 : lay Try.prog 62 = some (true, 1) := by kernel_rfl
theorem tZ62 : zeroOf Try.prog 62 = some [.slice none 0 0] := by kernel_rfl
theorem tF62x0 : fieldOf Try.prog 62 0 = some (0, false, 1) := by kernel_rfl
theorem tP62x0 : placeOf Try.prog 62 0 = some (0, false, 1) := by kernel_rfl
theorem tK62 : placesOk Try.prog 62 = true := by kernel_rfl
theorem tU63 : Try.prog.underlying 63 = some (.int .u64) := by kernel_rfl
theorem tL63 : lay Try.prog 63 = some (false, 1) := by kernel_rfl
theorem tZ63 : zeroOf Try.prog 63 = some [.int .u64 0] := by kernel_rfl
theorem tL64 : lay Try.prog 64 = some (true, 4) := by kernel_rfl
theorem tZ64 : zeroOf Try.prog 64 = some [.int .i64 0, .int .i64 0, .int .i64 0, .int .u64 0] := by kernel_rfl
theorem tF64x0 : fieldOf Try.prog 64 0 = some (0, false, 1) := by kernel_rfl
theorem tP64x0 : placeOf Try.prog 64 0 = some (0, false, 1) := by kernel_rfl
theorem tF64x1 : fieldOf Try.prog 64 1 = some (1, false, 1) := by kernel_rfl
theorem tP64x1 : placeOf Try.prog 64 1 = some (1, false, 1) := by kernel_rfl
theorem tF64x2 : fieldOf Try.prog 64 2 = some (2, false, 1) := by kernel_rfl
theorem tP64x2 : placeOf Try.prog 64 2 = some (2, false, 1) := by kernel_rfl
theorem tF64x3 : fieldOf Try.prog 64 3 = some (3, false, 1) := by kernel_rfl
theorem tP64x3 : placeOf Try.prog 64 3 = some (3, false, 1) := by kernel_rfl
theorem tK64 : placesOk Try.prog 64 = true := by kernel_rfl
theorem tQ64 : eqTys Try.prog 64 = some [0, 0, 0, 0] := by kernel_rfl
theorem tL65 : lay Try.prog 65 = some (true, 4) := by kernel_rfl
theorem tZ65 : zeroOf Try.prog 65 = some [.int .i64 0, .int .i64 0, .int .i64 0, .int .u64 0] := by kernel_rfl
theorem tF65x0 : fieldOf Try.prog 65 0 = some (0, false, 1) := by kernel_rfl
theorem tP65x0 : placeOf Try.prog 65 0 = some (0, false, 1) := by kernel_rfl
theorem tF65x1 : fieldOf Try.prog 65 1 = some (1, false, 1) := by kernel_rfl
theorem tP65x1 : placeOf Try.prog 65 1 = some (1, false, 1) := by kernel_rfl
theorem tF65x2 : fieldOf Try.prog 65 2 = some (2, false, 1) := by kernel_rfl
theorem tP65x2 : placeOf Try.prog 65 2 = some (2, false, 1) := by kernel_rfl
theorem tF65x3 : fieldOf Try.prog 65 3 = some (3, false, 1) := by kernel_rfl
theorem tP65x3 : placeOf Try.prog 65 3 = some (3, false, 1) := by kernel_rfl
theorem tK65 : placesOk Try.prog 65 = true := by kernel_rfl
theorem tQ65 : eqTys Try.prog 65 = some [0, 0, 0, 0] := by kernel_rfl
theorem tU66 : Try.prog.underlying 66 = some (.slice 3) := by kernel_rfl
theorem tL66 : lay Try.prog 66 = some (false, 1) := by kernel_rfl
theorem tZ66 : zeroOf Try.prog 66 = some [.slice none 0 0] := by kernel_rfl
theorem tE66 : elemOfSl Try.prog 66 = some (3, false, 1) := by kernel_rfl
theorem tA66 : appTy Try.prog 66 = some (3, 1, 8) := by kernel_rfl
theorem tL67 : lay Try.prog 67 = some (false, 1) := by kernel_rfl
theorem tZ67 : zeroOf Try.prog 67 = some [.nilFunc] := by kernel_rfl
theorem tL68 : lay Try.prog 68 = some (false, 1) := by kernel_rfl
theorem tZ68 : zeroOf Try.prog 68 = some [.nilFunc] := by kernel_rfl
theorem tU69 : Try.prog.underlying 69 = some (.array 2 63) := by kernel_rfl
theorem tL69 : lay Try.prog 69 = some (true, 2) := by kernel_rfl
theorem tZ69 : zeroOf Try.prog 69 = some [.int .u64 0, .int .u64 0] := by kernel_rfl
theorem tE69 : elemOfSl Try.prog 69 = none := by kernel_rfl
theorem tR69 : elemOfArr Try.prog 69 = some (2, false, 1) := by kernel_rfl
theorem tP69x0 : placeOf Try.prog 69 0 = some (0, false, 1) := by kernel_rfl
theorem tP69x1 : placeOf Try.prog 69 1 = some (1, false, 1) := by kernel_rfl
theorem tK69 : placesOk Try.prog 69 = true := by kernel_rfl
theorem tQ69 : eqTys Try.prog 69 = some [0, 0] := by kernel_rfl
theorem tU70 : Try.prog.underlying 70 = some (.array 2 3) := by kernel_rfl
theorem tL70 : lay Try.prog 70 = some (true, 2) := by kernel_rfl
theorem tZ70 : zeroOf Try.prog 70 = some [.int .i64 0, .int .i64 0] := by kernel_rfl
theorem tE70 : elemOfSl Try.prog 70 = none := by kernel_rfl
theorem tR70 : elemOfArr Try.prog 70 = some (2, false, 1) := by kernel_rfl
theorem tP70x0 : placeOf Try.prog 70 0 = some (0, false, 1) := by kernel_rfl
theorem tP70x1 : placeOf Try.prog 70 1 = some (1, false, 1) := by kernel_rfl
theorem tK70 : placesOk Try.prog 70 = true := by kernel_rfl
theorem tQ70 : eqTys Try.prog 70 = some [0, 0] := by kernel_rfl
theorem tL71 : lay Try.prog 71 = some (false, 1) := by kernel_rfl
theorem tZ71 : zeroOf Try.prog 71 = some [.nilFunc] := by kernel_rfl
theorem tL72 : lay Try.prog 72 = some (false, 1) := by kernel_rfl
theorem tZ72 : zeroOf Try.prog 72 = some [.nilFunc] := by kernel_rfl
theorem tL73 : lay Try.prog 73 = some (false, 1) := by kernel_rfl
theorem tZ73 : zeroOf Try.prog 73 = some [.nilFunc] := by kernel_rfl
theorem tL74 : lay Try.prog 74 = some (false, 1) := by kernel_rfl
theorem tZ74 : zeroOf Try.prog 74 = some [.nilFunc] := by kernel_rfl
theorem tL76 : lay Try.prog 76 = some (false, 1) := by kernel_rfl
theorem tZ76 : zeroOf Try.prog 76 = some [.nilFunc] := by kernel_rfl
theorem tL78 : lay Try.prog 78 = some (false, 1) := by kernel_rfl
theorem tZ78 : zeroOf Try.prog 78 = some [.nilFunc] := by kernel_rfl
theorem tL79 : lay Try.prog 79 = some (false, 1) := by kernel_rfl
theorem tZ79 : zeroOf Try.prog 79 = some [.nilFunc] := by kernel_rfl
theorem tL80 : lay Try.prog 80 = some (false, 1) := by kernel_rfl
theorem tZ80 : zeroOf Try.prog 80 = some [.nilFunc] := by kernel_rfl
theorem tL81 : lay Try.prog 81 = some (false, 1) := by kernel_rfl
theorem tZ81 : zeroOf Try.prog 81 = some [.nilFunc] := by kernel_rfl
theorem tL82 : lay Try.prog 82 = some (false, 1) := by kernel_rfl
theorem tZ82 : zeroOf Try.prog 82 = some [.nilFunc] := by kernel_rfl
theorem tL84 : lay Try.prog 84 = some (false, 1) := by kernel_rfl
theorem tZ84 : zeroOf Try.prog 84 = some [.nilFunc] := by kernel_rfl
theorem tL85 : lay Try.prog 85 = some (false, 1) := by kernel_rfl
theorem tZ85 : zeroOf Try.prog 85 = some [.nilFunc] := by kernel_rfl
theorem tL86 : lay Try.prog 86 = some (false, 1) := by kernel_rfl
theorem tZ86 : zeroOf Try.prog 86 = some [.nilFunc] := by kernel_rfl
theorem tL87 : lay Try.prog 87 = some (false, 1) := by kernel_rfl
theorem tZ87 : zeroOf Try.prog 87 = some [.nilFunc] := by kernel_rfl
theorem tL88 : lay Try.prog 88 = some (false, 1) := by kernel_rfl
theorem tZ88 : zeroOf Try.prog 88 = some [.nilFunc] := by kernel_rfl
theorem tL89 : lay Try.prog 89 = some (false, 1) := by kernel_rfl
theorem tZ89 : zeroOf Try.prog 89 = some [.nilFunc] := by kernel_rfl
theorem tL90 : lay Try.prog 90 = some (true, 3) := by kernel_rfl
theorem tZ90 : zeroOf Try.prog 90 = some [.int .i64 0, .int .i64 0, .int .i64 0] := by kernel_rfl
theorem tF90x0 : fieldOf Try.prog 90 0 = some (0, false, 1) := by kernel_rfl
theorem tP90x0 : placeOf Try.prog 90 0 = some (0, false, 1) := by kernel_rfl
theorem tF90x1 : fieldOf Try.prog 90 1 = some (1, false, 1) := by kernel_rfl
theorem tP90x1 : placeOf Try.prog 90 1 = some (1, false, 1) := by kernel_rfl
theorem tF90x2 : fieldOf Try.prog 90 2 = some (2, false, 1) := by kernel_rfl
theorem tP90x2 : placeOf Try.prog 90 2 = some (2, false, 1) := by kernel_rfl
theorem tK90 : placesOk Try.prog 90 = true := by kernel_rfl
theorem tQ90 : eqTys Try.prog 90 = some [0, 0, 0] := by kernel_rfl
theorem tL91 : lay Try.prog 91 = some (true, 3) := by kernel_rfl
theorem tZ91 : zeroOf Try.prog 91 = some [.int .i64 0, .int .i64 0, .int .i64 0] := by kernel_rfl
theorem tF91x0 : fieldOf Try.prog 91 0 = some (0, false, 1) := by kernel_rfl
theorem tP91x0 : placeOf Try.prog 91 0 = some (0, false, 1) := by kernel_rfl
theorem tF91x1 : fieldOf Try.prog 91 1 = some (1, false, 1) := by kernel_rfl
theorem tP91x1 : placeOf Try.prog 91 1 = some (1, false, 1) := by kernel_rfl
theorem tF91x2 : fieldOf Try.prog 91 2 = some (2, false, 1) := by kernel_rfl
theorem tP91x2 : placeOf Try.prog 91 2 = some (2, false, 1) := by kernel_rfl
theorem tK91 : placesOk Try.prog 91 = true := by kernel_rfl
theorem tQ91 : eqTys Try.prog 91 = some [0, 0, 0] := by kernel_rfl
theorem tU92 : Try.prog.underlying 92 = some (.map 91 63) := by kernel_rfl
theorem tL92 : lay Try.prog 92 = some (false, 1) := by kernel_rfl
theorem tZ92 : zeroOf Try.prog 92 = some [.map none] := by kernel_rfl
theorem tL93 : lay Try.prog 93 = some (false, 1) := by kernel_rfl
theorem tZ93 : zeroOf Try.prog 93 = some [.nilFunc] := by kernel_rfl
theorem tL94 : lay Try.prog 94 = some (false, 1) := by kernel_rfl
theorem tZ94 : zeroOf Try.prog 94 = some [.nilFunc] := by kernel_rfl
theorem tL95 : lay Try.prog 95 = some (false, 1) := by kernel_rfl
theorem tZ95 : zeroOf Try.prog 95 = some [.nilFunc] := by kernel_rfl
theorem tU96 : Try.prog.underlying 96 = some (.slice 91) := by kernel_rfl
theorem tL96 : lay Try.prog 96 = some (false, 1) := by kernel_rfl
theorem tZ96 : zeroOf Try.prog 96 = some [.slice none 0 0] := by kernel_rfl
theorem tE96 : elemOfSl Try.prog 96 = some (91, true, 3) := by kernel_rfl
theorem tA96 : appTy Try.prog 96 = some (91, 3, 24) := by kernel_rfl
theorem tL97 : lay Try.prog 97 = some (false, 1) := by kernel_rfl
theorem tZ97 : zeroOf Try.prog 97 = some [.nilFunc] := by kernel_rfl
theorem tL98 : lay Try.prog 98 = some (false, 1) := by kernel_rfl
theorem tZ98 : zeroOf Try.prog 98 = some [.nilFunc] := by kernel_rfl
theorem tL99 : lay Try.prog 99 = some (false, 1) := by kernel_rfl
theorem tZ99 : zeroOf Try.prog 99 = some [.nilFunc] := by kernel_rfl
theorem tL100 : lay Try.prog 100 = some (false, 1) := by kernel_rfl
theorem tZ100 : zeroOf Try.prog 100 = some [.nilFunc] := by kernel_rfl
theorem tL101 : lay Try.prog 101 = some (false, 1) := by kernel_rfl
theorem tZ101 : zeroOf Try.prog 101 = some [.nilFunc] := by kernel_rfl
theorem tL102 : lay Try.prog 102 = some (false, 1) := by kernel_rfl
theorem tZ102 : zeroOf Try.prog 102 = some [.nilFunc] := by kernel_rfl
theorem tL103 : lay Try.prog 103 = some (false, 1) := by kernel_rfl
theorem tZ103 : zeroOf Try.prog 103 = some [.nilFunc] := by kernel_rfl
theorem tL104 : lay Try.prog 104 = some (false, 1) := by kernel_rfl
theorem tZ104 : zeroOf Try.prog 104 = some [.nilFunc] := by kernel_rfl
theorem tL105 : lay Try.prog 105 = some (false, 1) := by kernel_rfl
theorem tZ105 : zeroOf Try.prog 105 = some [.nilFunc] := by kernel_rfl
theorem tL106 : lay Try.prog 106 = some (false, 1) := by kernel_rfl
theorem tZ106 : zeroOf Try.prog 106 = some [.nilFunc] := by kernel_rfl
theorem tL107 : lay Try.prog 107 = some (false, 1) := by kernel_rfl
theorem tZ107 : zeroOf Try.prog 107 = some [.nilFunc] := by kernel_rfl
theorem tL108 : lay Try.prog 108 = some (false, 1) := by kernel_rfl
theorem tZ108 : zeroOf Try.prog 108 = some [.nilFunc] := by kernel_rfl
theorem tL109 : lay Try.prog 109 = some (false, 1) := by kernel_rfl
theorem tZ109 : zeroOf Try.prog 109 = some [.nilFunc] := by kernel_rfl
theorem tL110 : lay Try.prog 110 = some (false, 1) := by kernel_rfl
theorem tZ110 : zeroOf Try.prog 110 = some [.nilFunc] := by kernel_rfl
theorem tL111 : lay Try.prog 111 = some (false, 1) := by kernel_rfl
theorem tZ111 : zeroOf Try.prog 111 = some [.nilFunc] := by kernel_rfl
theorem tL112 : lay Try.prog 112 = some (false, 1) := by kernel_rfl
theorem tZ112 : zeroOf Try.prog 112 = some [.nilFunc] := by kernel_rfl
theorem tL113 : lay Try.prog 113 = some (false, 1) := by kernel_rfl
theorem tZ113 : zeroOf Try.prog 113 = some [.nilFunc] := by kernel_rfl
theorem tL114 : lay Try.prog 114 = some (false, 1) := by kernel_rfl
theorem tZ114 : zeroOf Try.prog 114 = some [.nilFunc] := by kernel_rfl
theorem tL115 : lay Try.prog 115 = some (false, 1) := by kernel_rfl
theorem tZ115 : zeroOf Try.prog 115 = some [.nilFunc] := by kernel_rfl
theorem tL116 : lay Try.prog 116 = some (false, 1) := by kernel_rfl
theorem tZ116 : zeroOf Try.prog 116 = some [.nilFunc] := by kernel_rfl
theorem tU117 : Try.prog.underlying 117 = some (.int .u64) := by kernel_rfl
theorem tL117 : lay Try.prog 117 = some (false, 1) := by kernel_rfl
theorem tZ117 : zeroOf Try.prog 117 = some [.int .u64 0] := by kernel_rfl
theorem tL118 : lay Try.prog 118 = some (false, 1) := by kernel_rfl
theorem tZ118 : zeroOf Try.prog 118 = some [.nilFunc] := by kernel_rfl
theorem tL119 : lay Try.prog 119 = some (false, 1) := by kernel_rfl
theorem tZ119 : zeroOf Try.prog 119 = some [.nilFunc] := by kernel_rfl
theorem tL120 : lay Try.prog 120 = some (false, 1) := by kernel_rfl
theorem tZ120 : zeroOf Try.prog 120 = some [.nilFunc] := by kernel_rfl
theorem tL121 : lay Try.prog 121 = some (false, 1) := by kernel_rfl
theorem tZ121 : zeroOf Try.prog 121 = some [.nilFunc] := by kernel_rfl
theorem tL122 : lay Try.prog 122 = some (false, 1) := by kernel_rfl
theorem tZ122 : zeroOf Try.prog 122 = some [.nilFunc] := by kernel_rfl
theorem tU123 : Try.prog.underlying 123 = some (.int .u64) := by kernel_rfl
theorem tL123 : lay Try.prog 123 = some (false, 1) := by kernel_rfl
theorem tZ123 : zeroOf Try.prog 123 = some [.int .u64 0] := by kernel_rfl
theorem tL124 : lay Try.prog 124 = some (false, 1) := by kernel_rfl
theorem tZ124 : zeroOf Try.prog 124 = some [.nilFunc] := by kernel_rfl
theorem tU125 : Try.prog.underlying 125 = some (.pointer 117) := by kernel_rfl
theorem tL125 : lay Try.prog 125 = some (false, 1) := by kernel_rfl
theorem tZ125 : zeroOf Try.prog 125 = some [.pointer none] := by kernel_rfl
theorem tL126 : lay Try.prog 126 = some (false, 1) := by kernel_rfl
theorem tZ126 : zeroOf Try.prog 126 = some [.nilFunc] := by kernel_rfl
theorem tU127 : Try.prog.underlying 127 = some (.int .i64) := by kernel_rfl
theorem tL127 : lay Try.prog 127 = some (false, 1) := by kernel_rfl
theorem tZ127 : zeroOf Try.prog 127 = some [.int .i64 0] := by kernel_rfl
theorem tL129 : lay Try.prog 129 = some (false, 1) := by kernel_rfl
theorem tZ129 : zeroOf Try.prog 129 = some [.nilFunc] := by kernel_rfl
theorem tL130 : lay Try.prog 130 = some (false, 1) := by kernel_rfl
theorem tZ130 : zeroOf Try.prog 130 = some [.nilFunc] := by kernel_rfl
theorem tL131 : lay Try.prog 131 = some (false, 1) := by kernel_rfl
theorem tZ131 : zeroOf Try.prog 131 = some [.nilFunc] := by kernel_rfl
theorem tL133 : lay Try.prog 133 = some (false, 1) := by kernel_rfl
theorem tZ133 : zeroOf Try.prog 133 = some [.nilFunc] := by kernel_rfl
theorem tL134 : lay Try.prog 134 = some (false, 1) := by kernel_rfl
theorem tZ134 : zeroOf Try.prog 134 = some [.nilFunc] := by kernel_rfl
theorem tU135 : Try.prog.underlying 135 = some (.int .u32) := by kernel_rfl
theorem tL135 : lay Try.prog 135 = some (false, 1) := by kernel_rfl
theorem tZ135 : zeroOf Try.prog 135 = some [.int .u32 0] := by kernel_rfl
theorem tL136 : lay Try.prog 136 = some (false, 1) := by kernel_rfl
theorem tZ136 : zeroOf Try.prog 136 = some [.nilFunc] := by kernel_rfl
theorem tU137 : Try.prog.underlying 137 = some (.int .u64) := by kernel_rfl
theorem tL137 : lay Try.prog 137 = some (false, 1) := by kernel_rfl
theorem tZ137 : zeroOf Try.prog 137 = some [.int .u64 0] := by kernel_rfl
theorem tL138 : lay Try.prog 138 = some (false, 1) := by kernel_rfl
theorem tZ138 : zeroOf Try.prog 138 = some [.nilFunc] := by kernel_rfl
theorem tL139 : lay Try.prog 139 = some (false, 1) := by kernel_rfl
theorem tZ139 : zeroOf Try.prog 139 = some [.nilFunc] := by kernel_rfl
theorem tL140 : lay Try.prog 140 = some (false, 1) := by kernel_rfl
theorem tZ140 : zeroOf Try.prog 140 = some [.nilFunc] := by kernel_rfl
theorem tU141 : Try.prog.underlying 141 = some (.pointer 3) := by kernel_rfl
theorem tL141 : lay Try.prog 141 = some (false, 1) := by kernel_rfl
theorem tZ141 : zeroOf Try.prog 141 = some [.pointer none] := by kernel_rfl
theorem tL142 : lay Try.prog 142 = some (false, 1) := by kernel_rfl
theorem tZ142 : zeroOf Try.prog 142 = some [.nilFunc] := by kernel_rfl
theorem tU143 : Try.prog.underlying 143 = some (.pointer 137) := by kernel_rfl
theorem tL143 : lay Try.prog 143 = some (false, 1) := by kernel_rfl
theorem tZ143 : zeroOf Try.prog 143 = some [.pointer none] := by kernel_rfl
theorem tL145 : lay Try.prog 145 = some (false, 1) := by kernel_rfl
theorem tZ145 : zeroOf Try.prog 145 = some [.nilFunc] := by kernel_rfl
theorem tL146 : lay Try.prog 146 = some (false, 1) := by kernel_rfl
theorem tZ146 : zeroOf Try.prog 146 = some [.nilFunc] := by kernel_rfl
theorem tL147 : lay Try.prog 147 = some (true, 4) := by kernel_rfl
theorem tZ147 : zeroOf Try.prog 147 = some [.pointer none, .pointer none, .pointer none, .string ByteArray.empty] := by kernel_rfl
theorem tF147x0 : fieldOf Try.prog 147 0 = some (0, false, 1) := by kernel_rfl
theorem tP147x0 : placeOf Try.prog 147 0 = some (0, false, 1) := by kernel_rfl
theorem tF147x1 : fieldOf Try.prog 147 1 = some (1, false, 1) := by kernel_rfl
theorem tP147x1 : placeOf Try.prog 147 1 = some (1, false, 1) := by kernel_rfl
theorem tF147x2 : fieldOf Try.prog 147 2 = some (2, false, 1) := by kernel_rfl
theorem tP147x2 : placeOf Try.prog 147 2 = some (2, false, 1) := by kernel_rfl
theorem tF147x3 : fieldOf Try.prog 147 3 = some (3, false, 1) := by kernel_rfl
theorem tP147x3 : placeOf Try.prog 147 3 = some (3, false, 1) := by kernel_rfl
theorem tK147 : placesOk Try.prog 147 = true := by kernel_rfl
theorem tL148 : lay Try.prog 148 = some (true, 4) := by kernel_rfl
theorem tZ148 : zeroOf Try.prog 148 = some [.pointer none, .pointer none, .pointer none, .string ByteArray.empty] := by kernel_rfl
theorem tF148x0 : fieldOf Try.prog 148 0 = some (0, false, 1) := by kernel_rfl
theorem tP148x0 : placeOf Try.prog 148 0 = some (0, false, 1) := by kernel_rfl
theorem tF148x1 : fieldOf Try.prog 148 1 = some (1, false, 1) := by kernel_rfl
theorem tP148x1 : placeOf Try.prog 148 1 = some (1, false, 1) := by kernel_rfl
theorem tF148x2 : fieldOf Try.prog 148 2 = some (2, false, 1) := by kernel_rfl
theorem tP148x2 : placeOf Try.prog 148 2 = some (2, false, 1) := by kernel_rfl
theorem tF148x3 : fieldOf Try.prog 148 3 = some (3, false, 1) := by kernel_rfl
theorem tP148x3 : placeOf Try.prog 148 3 = some (3, false, 1) := by kernel_rfl
theorem tK148 : placesOk Try.prog 148 = true := by kernel_rfl
theorem tU149 : Try.prog.underlying 149 = some (.array 0 16) := by kernel_rfl
theorem tL149 : lay Try.prog 149 = some (true, 0) := by kernel_rfl
theorem tZ149 : zeroOf Try.prog 149 = some [] := by kernel_rfl
theorem tE149 : elemOfSl Try.prog 149 = none := by kernel_rfl
theorem tR149 : elemOfArr Try.prog 149 = some (0, false, 1) := by kernel_rfl
theorem tK149 : placesOk Try.prog 149 = true := by kernel_rfl
theorem tL150 : lay Try.prog 150 = some (true, 0) := by kernel_rfl
theorem tZ150 : zeroOf Try.prog 150 = some [] := by kernel_rfl
theorem tF150x0 : fieldOf Try.prog 150 0 = some (0, true, 0) := by kernel_rfl
theorem tP150x0 : placeOf Try.prog 150 0 = some (0, true, 0) := by kernel_rfl
theorem tK150 : placesOk Try.prog 150 = true := by kernel_rfl
theorem tL151 : lay Try.prog 151 = some (true, 0) := by kernel_rfl
theorem tZ151 : zeroOf Try.prog 151 = some [] := by kernel_rfl
theorem tF151x0 : fieldOf Try.prog 151 0 = some (0, true, 0) := by kernel_rfl
theorem tP151x0 : placeOf Try.prog 151 0 = some (0, true, 0) := by kernel_rfl
theorem tK151 : placesOk Try.prog 151 = true := by kernel_rfl
theorem tL152 : lay Try.prog 152 = some (false, 1) := by kernel_rfl
theorem tZ152 : zeroOf Try.prog 152 = some [.nilFunc] := by kernel_rfl
theorem tU153 : Try.prog.underlying 153 = some (.int .u8) := by kernel_rfl
theorem tL153 : lay Try.prog 153 = some (false, 1) := by kernel_rfl
theorem tZ153 : zeroOf Try.prog 153 = some [.int .u8 0] := by kernel_rfl
theorem tU154 : Try.prog.underlying 154 = some (.int .u8) := by kernel_rfl
theorem tL154 : lay Try.prog 154 = some (false, 1) := by kernel_rfl
theorem tZ154 : zeroOf Try.prog 154 = some [.int .u8 0] := by kernel_rfl
theorem tL155 : lay Try.prog 155 = some (false, 1) := by kernel_rfl
theorem tZ155 : zeroOf Try.prog 155 = some [.nilFunc] := by kernel_rfl
theorem tU156 : Try.prog.underlying 156 = some (.pointer 5) := by kernel_rfl
theorem tL156 : lay Try.prog 156 = some (false, 1) := by kernel_rfl
theorem tZ156 : zeroOf Try.prog 156 = some [.pointer none] := by kernel_rfl
theorem tU157 : Try.prog.underlying 157 = some (.int .i32) := by kernel_rfl
theorem tL157 : lay Try.prog 157 = some (false, 1) := by kernel_rfl
theorem tZ157 : zeroOf Try.prog 157 = some [.int .i32 0] := by kernel_rfl
theorem tU158 : Try.prog.underlying 158 = some (.int .i32) := by kernel_rfl
theorem tL158 : lay Try.prog 158 = some (false, 1) := by kernel_rfl
theorem tZ158 : zeroOf Try.prog 158 = some [.int .i32 0] := by kernel_rfl
theorem tL159 : lay Try.prog 159 = some (true, 11) := by kernel_rfl
theorem tZ159 : zeroOf Try.prog 159 = some [.int .u64 0, .int .u64 0, .int .u32 0, .int .u8 0, .int .u8 0, .int .u8 0, .int .u8 0, .nilFunc, .pointer none, .int .i32 0, .int .i32 0] := by kernel_rfl
theorem tF159x0 : fieldOf Try.prog 159 0 = some (0, false, 1) := by kernel_rfl
theorem tP159x0 : placeOf Try.prog 159 0 = some (0, false, 1) := by kernel_rfl
theorem tF159x1 : fieldOf Try.prog 159 1 = some (1, false, 1) := by kernel_rfl
theorem tP159x1 : placeOf Try.prog 159 1 = some (1, false, 1) := by kernel_rfl
theorem tF159x2 : fieldOf Try.prog 159 2 = some (2, false, 1) := by kernel_rfl
theorem tP159x2 : placeOf Try.prog 159 2 = some (2, false, 1) := by kernel_rfl
theorem tF159x3 : fieldOf Try.prog 159 3 = some (3, false, 1) := by kernel_rfl
theorem tP159x3 : placeOf Try.prog 159 3 = some (3, false, 1) := by kernel_rfl
theorem tF159x4 : fieldOf Try.prog 159 4 = some (4, false, 1) := by kernel_rfl
theorem tP159x4 : placeOf Try.prog 159 4 = some (4, false, 1) := by kernel_rfl
theorem tF159x5 : fieldOf Try.prog 159 5 = some (5, false, 1) := by kernel_rfl
theorem tP159x5 : placeOf Try.prog 159 5 = some (5, false, 1) := by kernel_rfl
theorem tF159x6 : fieldOf Try.prog 159 6 = some (6, false, 1) := by kernel_rfl
theorem tP159x6 : placeOf Try.prog 159 6 = some (6, false, 1) := by kernel_rfl
theorem tF159x7 : fieldOf Try.prog 159 7 = some (7, false, 1) := by kernel_rfl
theorem tP159x7 : placeOf Try.prog 159 7 = some (7, false, 1) := by kernel_rfl
theorem tF159x8 : fieldOf Try.prog 159 8 = some (8, false, 1) := by kernel_rfl
theorem tP159x8 : placeOf Try.prog 159 8 = some (8, false, 1) := by kernel_rfl
theorem tF159x9 : fieldOf Try.prog 159 9 = some (9, false, 1) := by kernel_rfl
theorem tP159x9 : placeOf Try.prog 159 9 = some (9, false, 1) := by kernel_rfl
theorem tF159x10 : fieldOf Try.prog 159 10 = some (10, false, 1) := by kernel_rfl
theorem tP159x10 : placeOf Try.prog 159 10 = some (10, false, 1) := by kernel_rfl
theorem tK159 : placesOk Try.prog 159 = true := by kernel_rfl
theorem tL160 : lay Try.prog 160 = some (true, 11) := by kernel_rfl
theorem tZ160 : zeroOf Try.prog 160 = some [.int .u64 0, .int .u64 0, .int .u32 0, .int .u8 0, .int .u8 0, .int .u8 0, .int .u8 0, .nilFunc, .pointer none, .int .i32 0, .int .i32 0] := by kernel_rfl
theorem tF160x0 : fieldOf Try.prog 160 0 = some (0, false, 1) := by kernel_rfl
theorem tP160x0 : placeOf Try.prog 160 0 = some (0, false, 1) := by kernel_rfl
theorem tF160x1 : fieldOf Try.prog 160 1 = some (1, false, 1) := by kernel_rfl
theorem tP160x1 : placeOf Try.prog 160 1 = some (1, false, 1) := by kernel_rfl
theorem tF160x2 : fieldOf Try.prog 160 2 = some (2, false, 1) := by kernel_rfl
theorem tP160x2 : placeOf Try.prog 160 2 = some (2, false, 1) := by kernel_rfl
theorem tF160x3 : fieldOf Try.prog 160 3 = some (3, false, 1) := by kernel_rfl
theorem tP160x3 : placeOf Try.prog 160 3 = some (3, false, 1) := by kernel_rfl
theorem tF160x4 : fieldOf Try.prog 160 4 = some (4, false, 1) := by kernel_rfl
theorem tP160x4 : placeOf Try.prog 160 4 = some (4, false, 1) := by kernel_rfl
theorem tF160x5 : fieldOf Try.prog 160 5 = some (5, false, 1) := by kernel_rfl
theorem tP160x5 : placeOf Try.prog 160 5 = some (5, false, 1) := by kernel_rfl
theorem tF160x6 : fieldOf Try.prog 160 6 = some (6, false, 1) := by kernel_rfl
theorem tP160x6 : placeOf Try.prog 160 6 = some (6, false, 1) := by kernel_rfl
theorem tF160x7 : fieldOf Try.prog 160 7 = some (7, false, 1) := by kernel_rfl
theorem tP160x7 : placeOf Try.prog 160 7 = some (7, false, 1) := by kernel_rfl
theorem tF160x8 : fieldOf Try.prog 160 8 = some (8, false, 1) := by kernel_rfl
theorem tP160x8 : placeOf Try.prog 160 8 = some (8, false, 1) := by kernel_rfl
theorem tF160x9 : fieldOf Try.prog 160 9 = some (9, false, 1) := by kernel_rfl
theorem tP160x9 : placeOf Try.prog 160 9 = some (9, false, 1) := by kernel_rfl
theorem tF160x10 : fieldOf Try.prog 160 10 = some (10, false, 1) := by kernel_rfl
theorem tP160x10 : placeOf Try.prog 160 10 = some (10, false, 1) := by kernel_rfl
theorem tK160 : placesOk Try.prog 160 = true := by kernel_rfl
theorem tL161 : lay Try.prog 161 = some (false, 1) := by kernel_rfl
theorem tZ161 : zeroOf Try.prog 161 = some [.pointer none] := by kernel_rfl
theorem tD63 : zeroD Try.prog 63 = some (.lit (.int .u64 0)) := by kernel_rfl
set_option linter.defProp false
def TF0 := And.intro tL1 (And.intro tZ1 (And.intro tU2 (And.intro tL2 (And.intro tZ2 (And.intro tU3 (And.intro tL3 (And.intro tZ3 (And.intro tU4 (And.intro tL4 (And.intro tZ4 (And.intro tU5 (And.intro tL5 (And.intro tZ5 (And.intro tU6 (And.intro tL6 (And.intro tZ6 (And.intro tL7 (And.intro tZ7 (And.intro tF7x0 (And.intro tP7x0 (And.intro tF7x1 (And.intro tP7x1 (And.intro tF7x2 (And.intro tP7x2 (And.intro tF7x3 (And.intro tP7x3 (And.intro tK7 (And.intro tQ7 (And.intro tL8 (And.intro tZ8 (And.intro tF8x0 (And.intro tP8x0 (And.intro tF8x1 (And.intro tP8x1 (And.intro tF8x2 (And.intro tP8x2 (And.intro tF8x3 (And.intro tP8x3 tK8))))))))))))))))))))))))))))))))))))))
def TF1 := And.intro tQ8 (And.intro tU9 (And.intro tL9 (And.intro tZ9 (And.intro tU10 (And.intro tL10 (And.intro tZ10 (And.intro tU11 (And.intro tL11 (And.intro tZ11 (And.intro tU12 (And.intro tL12 (And.intro tZ12 (And.intro tL13 (And.intro tZ13 (And.intro tF13x0 (And.intro tP13x0 (And.intro tF13x1 (And.intro tP13x1 (And.intro tK13 (And.intro tL14 (And.intro tZ14 (And.intro tF14x0 (And.intro tP14x0 (And.intro tF14x1 (And.intro tP14x1 (And.intro tK14 (And.intro tU15 (And.intro tL15 (And.intro tZ15 (And.intro tU16 (And.intro tL16 (And.intro tZ16 (And.intro tU17 (And.intro tL17 (And.intro tZ17 (And.intro tL18 (And.intro tZ18 (And.intro tF18x0 tP18x0))))))))))))))))))))))))))))))))))))))
def TF2 := And.intro tK18 (And.intro tL19 (And.intro tZ19 (And.intro tF19x0 (And.intro tP19x0 (And.intro tK19 (And.intro tL20 (And.intro tZ20 (And.intro tU21 (And.intro tL21 (And.intro tZ21 (And.intro tU22 (And.intro tL22 (And.intro tZ22 (And.intro tE22 (And.intro tA22 (And.intro tU23 (And.intro tL23 (And.intro tZ23 (And.intro tE23 (And.intro tA23 (And.intro tL24 (And.intro tZ24 (And.intro tF24x0 (And.intro tP24x0 (And.intro tF24x1 (And.intro tP24x1 (And.intro tK24 (And.intro tL25 (And.intro tZ25 (And.intro tF25x0 (And.intro tP25x0 (And.intro tF25x1 (And.intro tP25x1 (And.intro tK25 (And.intro tU26 (And.intro tL26 (And.intro tZ26 (And.intro tE26 tA26))))))))))))))))))))))))))))))))))))))
def TF3 := And.intro tU27 (And.intro tL27 (And.intro tZ27 (And.intro tE27 (And.intro tA27 (And.intro tU28 (And.intro tL28 (And.intro tZ28 (And.intro tE28 (And.intro tA28 (And.intro tU29 (And.intro tL29 (And.intro tZ29 (And.intro tE29 (And.intro tA29 (And.intro tL30 (And.intro tZ30 (And.intro tF30x0 (And.intro tP30x0 (And.intro tF30x1 (And.intro tP30x1 (And.intro tF30x2 (And.intro tP30x2 (And.intro tF30x3 (And.intro tP30x3 (And.intro tF30x4 (And.intro tP30x4 (And.intro tK30 (And.intro tL31 (And.intro tZ31 (And.intro tF31x0 (And.intro tP31x0 (And.intro tF31x1 (And.intro tP31x1 (And.intro tF31x2 (And.intro tP31x2 (And.intro tF31x3 (And.intro tP31x3 (And.intro tF31x4 tP31x4))))))))))))))))))))))))))))))))))))))
def TF4 := And.intro tK31 (And.intro tL32 (And.intro tZ32 (And.intro tL33 (And.intro tZ33 (And.intro tL34 (And.intro tZ34 (And.intro tL35 (And.intro tZ35 (And.intro tU36 (And.intro tL36 (And.intro tZ36 (And.intro tL37 (And.intro tZ37 (And.intro tF37x0 (And.intro tP37x0 (And.intro tF37x1 (And.intro tP37x1 (And.intro tK37 (And.intro tL38 (And.intro tZ38 (And.intro tF38x0 (And.intro tP38x0 (And.intro tF38x1 (And.intro tP38x1 (And.intro tK38 (And.intro tL39 (And.intro tZ39 (And.intro tL40 (And.intro tZ40 (And.intro tL41 (And.intro tZ41 (And.intro tL42 (And.intro tZ42 (And.intro tF42x0 (And.intro tP42x0 (And.intro tF42x1 (And.intro tP42x1 (And.intro tK42 tL43))))))))))))))))))))))))))))))))))))))
def TF5 := And.intro tZ43 (And.intro tF43x0 (And.intro tP43x0 (And.intro tF43x1 (And.intro tP43x1 (And.intro tK43 (And.intro tL44 (And.intro tZ44 (And.intro tL45 (And.intro tZ45 (And.intro tL46 (And.intro tZ46 (And.intro tU47 (And.intro tL47 (And.intro tZ47 (And.intro tE47 (And.intro tA47 (And.intro tL48 (And.intro tZ48 (And.intro tF48x0 (And.intro tP48x0 (And.intro tF48x1 (And.intro tP48x1 (And.intro tK48 (And.intro tL49 (And.intro tZ49 (And.intro tF49x0 (And.intro tP49x0 (And.intro tF49x1 (And.intro tP49x1 (And.intro tK49 (And.intro tL50 (And.intro tZ50 (And.intro tL51 (And.intro tZ51 (And.intro tL52 (And.intro tZ52 (And.intro tU53 (And.intro tL53 tZ53))))))))))))))))))))))))))))))))))))))
def TF6 := And.intro tE53 (And.intro tA53 (And.intro tL54 (And.intro tZ54 (And.intro tL55 (And.intro tZ55 (And.intro tL56 (And.intro tZ56 (And.intro tL57 (And.intro tZ57 (And.intro tL58 (And.intro tZ58 (And.intro tL59 (And.intro tZ59 (And.intro tU60 (And.intro tL60 (And.intro tZ60 (And.intro tE60 (And.intro tA60 (And.intro tL61 (And.intro tZ61 (And.intro tF61x0 (And.intro tP61x0 (And.intro tK61 (And.intro tL62 (And.intro tZ62 (And.intro tF62x0 (And.intro tP62x0 (And.intro tK62 (And.intro tU63 (And.intro tL63 (And.intro tZ63 (And.intro tL64 (And.intro tZ64 (And.intro tF64x0 (And.intro tP64x0 (And.intro tF64x1 (And.intro tP64x1 (And.intro tF64x2 tP64x2))))))))))))))))))))))))))))))))))))))
def TF7 := And.intro tF64x3 (And.intro tP64x3 (And.intro tK64 (And.intro tQ64 (And.intro tL65 (And.intro tZ65 (And.intro tF65x0 (And.intro tP65x0 (And.intro tF65x1 (And.intro tP65x1 (And.intro tF65x2 (And.intro tP65x2 (And.intro tF65x3 (And.intro tP65x3 (And.intro tK65 (And.intro tQ65 (And.intro tU66 (And.intro tL66 (And.intro tZ66 (And.intro tE66 (And.intro tA66 (And.intro tL67 (And.intro tZ67 (And.intro tL68 (And.intro tZ68 (And.intro tU69 (And.intro tL69 (And.intro tZ69 (And.intro tE69 (And.intro tR69 (And.intro tP69x0 (And.intro tP69x1 (And.intro tK69 (And.intro tQ69 (And.intro tU70 (And.intro tL70 (And.intro tZ70 (And.intro tE70 (And.intro tR70 tP70x0))))))))))))))))))))))))))))))))))))))
def TF8 := And.intro tP70x1 (And.intro tK70 (And.intro tQ70 (And.intro tL71 (And.intro tZ71 (And.intro tL72 (And.intro tZ72 (And.intro tL73 (And.intro tZ73 (And.intro tL74 (And.intro tZ74 (And.intro tL76 (And.intro tZ76 (And.intro tL78 (And.intro tZ78 (And.intro tL79 (And.intro tZ79 (And.intro tL80 (And.intro tZ80 (And.intro tL81 (And.intro tZ81 (And.intro tL82 (And.intro tZ82 (And.intro tL84 (And.intro tZ84 (And.intro tL85 (And.intro tZ85 (And.intro tL86 (And.intro tZ86 (And.intro tL87 (And.intro tZ87 (And.intro tL88 (And.intro tZ88 (And.intro tL89 (And.intro tZ89 (And.intro tL90 (And.intro tZ90 (And.intro tF90x0 (And.intro tP90x0 tF90x1))))))))))))))))))))))))))))))))))))))
def TF9 := And.intro tP90x1 (And.intro tF90x2 (And.intro tP90x2 (And.intro tK90 (And.intro tQ90 (And.intro tL91 (And.intro tZ91 (And.intro tF91x0 (And.intro tP91x0 (And.intro tF91x1 (And.intro tP91x1 (And.intro tF91x2 (And.intro tP91x2 (And.intro tK91 (And.intro tQ91 (And.intro tU92 (And.intro tL92 (And.intro tZ92 (And.intro tL93 (And.intro tZ93 (And.intro tL94 (And.intro tZ94 (And.intro tL95 (And.intro tZ95 (And.intro tU96 (And.intro tL96 (And.intro tZ96 (And.intro tE96 (And.intro tA96 (And.intro tL97 (And.intro tZ97 (And.intro tL98 (And.intro tZ98 (And.intro tL99 (And.intro tZ99 (And.intro tL100 (And.intro tZ100 (And.intro tL101 (And.intro tZ101 tL102))))))))))))))))))))))))))))))))))))))
def TF10 := And.intro tZ102 (And.intro tL103 (And.intro tZ103 (And.intro tL104 (And.intro tZ104 (And.intro tL105 (And.intro tZ105 (And.intro tL106 (And.intro tZ106 (And.intro tL107 (And.intro tZ107 (And.intro tL108 (And.intro tZ108 (And.intro tL109 (And.intro tZ109 (And.intro tL110 (And.intro tZ110 (And.intro tL111 (And.intro tZ111 (And.intro tL112 (And.intro tZ112 (And.intro tL113 (And.intro tZ113 (And.intro tL114 (And.intro tZ114 (And.intro tL115 (And.intro tZ115 (And.intro tL116 (And.intro tZ116 (And.intro tU117 (And.intro tL117 (And.intro tZ117 (And.intro tL118 (And.intro tZ118 (And.intro tL119 (And.intro tZ119 (And.intro tL120 (And.intro tZ120 (And.intro tL121 tZ121))))))))))))))))))))))))))))))))))))))
def TF11 := And.intro tL122 (And.intro tZ122 (And.intro tU123 (And.intro tL123 (And.intro tZ123 (And.intro tL124 (And.intro tZ124 (And.intro tU125 (And.intro tL125 (And.intro tZ125 (And.intro tL126 (And.intro tZ126 (And.intro tU127 (And.intro tL127 (And.intro tZ127 (And.intro tL129 (And.intro tZ129 (And.intro tL130 (And.intro tZ130 (And.intro tL131 (And.intro tZ131 (And.intro tL133 (And.intro tZ133 (And.intro tL134 (And.intro tZ134 (And.intro tU135 (And.intro tL135 (And.intro tZ135 (And.intro tL136 (And.intro tZ136 (And.intro tU137 (And.intro tL137 (And.intro tZ137 (And.intro tL138 (And.intro tZ138 (And.intro tL139 (And.intro tZ139 (And.intro tL140 (And.intro tZ140 tU141))))))))))))))))))))))))))))))))))))))
def TF12 := And.intro tL141 (And.intro tZ141 (And.intro tL142 (And.intro tZ142 (And.intro tU143 (And.intro tL143 (And.intro tZ143 (And.intro tL145 (And.intro tZ145 (And.intro tL146 (And.intro tZ146 (And.intro tL147 (And.intro tZ147 (And.intro tF147x0 (And.intro tP147x0 (And.intro tF147x1 (And.intro tP147x1 (And.intro tF147x2 (And.intro tP147x2 (And.intro tF147x3 (And.intro tP147x3 (And.intro tK147 (And.intro tL148 (And.intro tZ148 (And.intro tF148x0 (And.intro tP148x0 (And.intro tF148x1 (And.intro tP148x1 (And.intro tF148x2 (And.intro tP148x2 (And.intro tF148x3 (And.intro tP148x3 (And.intro tK148 (And.intro tU149 (And.intro tL149 (And.intro tZ149 (And.intro tE149 (And.intro tR149 (And.intro tK149 tL150))))))))))))))))))))))))))))))))))))))
def TF13 := And.intro tF159x5 (And.intro tP159x5 (And.intro tF159x6 (And.intro tP159x6 (And.intro tF159x7 (And.intro tP159x7 (And.intro tF159x8 (And.intro tP159x8 (And.intro tF159x9 (And.intro tP159x9 (And.intro tF159x10 (And.intro tP159x10 (And.intro tK159 (And.intro tL160 (And.intro tZ160 (And.intro tF160x0 (And.intro tP160x0 (And.intro tF160x1 (And.intro tP160x1 (And.intro tF160x2 (And.intro tP160x2 (And.intro tF160x3 (And.intro tP160x3 (And.intro tF160x4 (And.intro tP160x4 (And.intro tF160x5 (And.intro tP160x5 (And.intro tF160x6 (And.intro tP160x6 (And.intro tF160x7 (And.intro tP160x7 (And.intro tF160x8 (And.intro tP160x8 (And.intro tF160x9 (And.intro tP160x9 (And.intro tF160x10 (And.intro tP160x10 (And.intro tK160 (And.intro tL161 (And.intro tZ161 tD63)))))))))))))))))))))))))))))))))))))))
def TF14 := And.intro tF159x5 (And.intro tP159x5 (And.intro tF159x6 (And.intro tP159x6 (And.intro tF159x7 (And.intro tP159x7 (And.intro tF159x8 (And.intro tP159x8 (And.intro tF159x9 (And.intro tP159x9 (And.intro tF159x10 (And.intro tP159x10 (And.intro tK159 (And.intro tL160 (And.intro tZ160 (And.intro tF160x0 (And.intro tP160x0 (And.intro tF160x1 (And.intro tP160x1 (And.intro tF160x2 (And.intro tP160x2 (And.intro tF160x3 (And.intro tP160x3 (And.intro tF160x4 (And.intro tP160x4 (And.intro tF160x5 (And.intro tP160x5 (And.intro tF160x6 (And.intro tP160x6 (And.intro tF160x7 (And.intro tP160x7 (And.intro tF160x8 (And.intro tP160x8 (And.intro tF160x9 (And.intro tP160x9 (And.intro tF160x10 (And.intro tP160x10 (And.intro tK160 (And.intro tL161 (And.intro tZ161 tD63)))))))))))))))))))))))))))))))))))))))
def TF := And.intro TF0 (And.intro TF1 (And.intro TF2 (And.intro TF3 (And.intro TF4 (And.intro TF5 (And.intro TF6 (And.intro TF7 (And.intro TF8 (And.intro TF9 (And.intro TF10 (And.intro TF11 (And.intro TF12 (And.intro TF13 TF14)))))))))))))
end Go.Proofs.Ytcamhcnjomddbaa

/-
  DATA OF THE DELTA LAWS AS THEY LIE IN MEMORY.
-/
namespace Go.Proofs.Ytcamhcnjomddbaa
open Go.Aw
/-! ### Data -/
def eU (w : Nat) : D := .lit (.int .u64 w)
def eI (n : Int) : D := .lit (.int .i64 n)
abbrev Frames := List (List (List Nat))
def eWords (ws : List Nat) : D := .sl (ws.map fun w => [eU w])
def eFrame (ws : List Nat) : List D := [eWords ws]
def eRow (fs : List (List Nat)) : List D := [.sl (fs.map eFrame)]
def eSet (s : Frames) : D := .sl (s.map eRow)
structure Patch where
  p : Int
  f : Int
  w : Int
  x : Nat
  deriving DecidableEq, Inhabited
def ePatch (q : Patch) : List D := [eI q.p, eI q.f, eI q.w, eU q.x]
def ePatches (l : List Patch) : D := .sl (l.map ePatch)
def ePair (q : Int × Int) : List D := [eI q.1, eI q.2]
def ePairs (l : List (Int × Int)) : D := .sl (l.map ePair)
def eB (b : Bool) : D := .lit (.bool b)
def eUI (x : Int) : D := .lit (.int .u64 x)
def eInts (l : List Int) : D := .sl (l.map fun x => [eI x])
def eDig (d : List (List Int)) : D := .sl (d.map fun r => [.sl (r.map fun x => [eUI x])])
structure Pos where
  p : Int
  f : Int
  w : Int
  deriving DecidableEq, Inhabited
def ePos (q : Pos) : List D := [eI q.p, eI q.f, eI q.w]
def posOf (q : Patch) : Pos := ⟨q.p, q.f, q.w⟩
set_option linter.defProp false
def KD := And.intro @eU.eq_1 (And.intro @eI.eq_1 (And.intro @eWords.eq_1 (And.intro @eFrame.eq_1 (And.intro @eRow.eq_1 (And.intro @eSet.eq_1 (And.intro @ePatch.eq_1 (And.intro @ePatches.eq_1 (And.intro @ePair.eq_1 (And.intro @ePairs.eq_1 (And.intro @eB.eq_1 (And.intro @eUI.eq_1 (And.intro @eInts.eq_1 (And.intro @eDig.eq_1 (And.intro @ePos.eq_1 @posOf.eq_1))))))))))))))
end Go.Proofs.Ytcamhcnjomddbaa

/-
  CONTRACTS: comparisons of sets of frames, lists of patches.
-/
namespace Go.Proofs.Ytcamhcnjomddbaa
open Go.Aw
set_option maxRecDepth 100000

theorem getD_map {α β : Type} {f : α → β} {l : List α} {i : Nat} (h : i < l.length) (d : β) : (l.map f).getD i d = f l[i] := by simp [List.getD, h]
theorem dec_lt {i n : Nat} (h : i < n) : decide ((i : Int) < (n : Int)) = true := by simp; omega
theorem dec_ge {i n : Nat} (h : n ≤ i) : decide ((i : Int) < (n : Int)) = false := by simp; omega
theorem lt_int {i n : Nat} (h : i < n) : (0 ≤ (i : Int) ∧ (i : Int) < (n : Int)) = True := by simp; omega
theorem wrap_id {x : Int} (h0 : -9223372036854775808 ≤ x) (h1 : x ≤ 9223372036854775807) : IntKind.i64.wrap x = x := by
  simp only [IntKind.wrap, IntKind.bits, IntKind.signed]
  simp
  omega
theorem wrap_succ {i : Nat} (h : i < 9223372036854775807) : IntKind.i64.wrap ((i : Int) + 1) = ((i + 1 : Nat) : Int) := by
  rw [wrap_id (by omega) (by omega)]; simp
theorem ok_len {es : List (List D)} (h : (D.sl es).ok) : es.length ≤ 9223372036854775807 := by
  simp only [D.ok] at h; have := h.1; unfold maxLen at this; omega
theorem okL_cons {x : D} {xs : List D} (h : D.okL (x :: xs)) : x.ok ∧ D.okL xs := by simpa only [D.okL] using h
theorem ok_map {α : Type} {f : α → List D} {l : List α} (h : (D.sl (l.map f)).ok) : l.length ≤ 9223372036854775807 ∧ ∀ x ∈ l, D.okL (f x) := by
  refine ⟨by simpa using ok_len h, fun x hx => ?_⟩
  simp only [D.ok] at h
  exact okLL_mem h.2 _ (List.mem_map.2 ⟨x, hx, rfl⟩)
theorem take_step {α : Type} {a b : List α} {i : Nat} (h : i < a.length) (hb : i < b.length) (hI : a.take i = b.take i) (he : a[i] = b[i]) : a.take (i + 1) = b.take (i + 1) := by
  rw [List.take_succ_eq_append_getElem h, List.take_succ_eq_append_getElem hb, hI, he]
theorem take_end {α : Type} {a b : List α} {i : Nat} (h : a.length ≤ i) (hab : a.length = b.length) (hI : a.take i = b.take i) : a = b := by
  rwa [List.take_of_length_le h, List.take_of_length_le (by omega)] at hI
theorem natCast_beq (a b : Nat) : ((a : Int) == (b : Int)) = (a == b) := by
  rw [Bool.eq_iff_iff, beq_iff_eq, beq_iff_eq]; omega
theorem natCast_bne (a b : Nat) : ((a : Int) != (b : Int)) = (a != b) := by rw [bne, bne, natCast_beq]
theorem Patch.beq (a b : Patch) : (a.p == b.p && (a.f == b.f && (a.w == b.w && ((a.x : Int) == (b.x : Int))))) = decide (a = b) := by
  obtain ⟨p, f, w, x⟩ := a
  obtain ⟨p', f', w', x'⟩ := b
  rw [natCast_beq, Bool.eq_iff_iff]
  simp
theorem pair_beq (a b : Int × Int) : (a.1 == b.1 && a.2 == b.2) = decide (a = b) := by
  obtain ⟨p, f⟩ := a
  obtain ⟨p', f'⟩ := b
  rw [Bool.eq_iff_iff]
  simp

theorem samePatches_c (a b : List Patch) : FnP Try.prog 36 [ePatches a, ePatches b] (.d (eB (decide (a = b)))) [] := by
  refine FnP.of_eC (own := []) (fun _ => []) mixed Try.func36 rfl Try.call36 Try.ntmps36 (Nat.le_of_ble_eq_true rfl) Try.results36 (fun hok => ?_)
  obtain ⟨hl, _⟩ := ok_map (okL_cons hok).1
  simp only [SE, TF, KD, GE, eq_self, ne_eq, implies_true, forall_const, if_true, if_false, cond_true, cond_false, forall_eq, List.replicate, ↓reduceIte, Nat.reduceEqDiff, Nat.reduceLT, Nat.reduceAdd, Nat.reduceSub, Nat.reduceMul, Nat.reduceLeDiff]
  refine iteI (fun h => ?_) (fun h1 => ?_)
  · rw [decide_eq_false]; rintro rfl; simp at h
  have hab : a.length = b.length := by simp at h1; omega
  refine eloop (fun _ => []) mixed a.length (fun i => a.take i = b.take i) (fun i => ([(0, .d (ePatches a)), (1, .d (ePatches b)), (5, .d (eI i))], [])) ?_ ?_ ?_ (fun i hi hI => ?_)
  · simp
  · simp [SE, TF, KD, GE, eq_self, ne_eq, implies_true, forall_const, if_true, if_false, cond_true, cond_false, forall_eq, List.replicate, ↓reduceIte, Nat.reduceEqDiff, Nat.reduceLT, Nat.reduceAdd, Nat.reduceSub, Nat.reduceMul, Nat.reduceLeDiff]
  · simp [SE, TF, KD, GE, eq_self, ne_eq, implies_true, forall_const, if_true, if_false, cond_true, cond_false, forall_eq, List.replicate, ↓reduceIte, Nat.reduceEqDiff, Nat.reduceLT, Nat.reduceAdd, Nat.reduceSub, Nat.reduceMul, Nat.reduceLeDiff]
  rcases Nat.lt_or_ge i a.length with h | h
  · have hB : i < b.length := by omega
    have hw := wrap_succ (show i < 9223372036854775807 by omega)
    simp only [SE, TF, KD, GE, eq_self, ne_eq, implies_true, forall_const, if_true, if_false, cond_true, cond_false, forall_eq, List.replicate, ↓reduceIte, Nat.reduceEqDiff, Nat.reduceLT, Nat.reduceAdd, Nat.reduceSub, Nat.reduceMul, Nat.reduceLeDiff, dec_lt h, getD_map h, getD_map hB, lt_int h, lt_int hB, Patch.beq, hw]
    refine ⟨by kernel_rfl, iteI (fun h3 => ?_) (fun h3 => ⟨h, take_step h hB hI (by simpa using h3)⟩)⟩
    rw [decide_eq_false]; rintro rfl; simp at h3
  · simp only [SE, TF, KD, GE, eq_self, ne_eq, implies_true, forall_const, if_true, if_false, cond_true, cond_false, forall_eq, List.replicate, ↓reduceIte, Nat.reduceEqDiff, Nat.reduceLT, Nat.reduceAdd, Nat.reduceSub, Nat.reduceMul, Nat.reduceLeDiff, dec_ge h]
    rw [decide_eq_true (take_end h hab hI)]

theorem samePairs_c (a b : List (Int × Int)) : FnP Try.prog 28 [ePairs a, ePairs b] (.d (eB (decide (a = b)))) [] := by
  refine FnP.of_eC (own := []) (fun _ => []) mixed Try.func28 rfl Try.call28 Try.ntmps28 (Nat.le_of_ble_eq_true rfl) Try.results28 (fun hok => ?_)
  obtain ⟨hl, _⟩ := ok_map (okL_cons hok).1
  simp only [SE, TF, KD, GE, eq_self, ne_eq, implies_true, forall_const, if_true, if_false, cond_true, cond_false, forall_eq, List.replicate, ↓reduceIte, Nat.reduceEqDiff, Nat.reduceLT, Nat.reduceAdd, Nat.reduceSub, Nat.reduceMul, Nat.reduceLeDiff]
  refine iteI (fun h => ?_) (fun h1 => ?_)
  · rw [decide_eq_false]; rintro rfl; simp at h
  have hab : a.length = b.length := by simp at h1; omega
  refine eloop (fun _ => []) mixed a.length (fun i => a.take i = b.take i) (fun i => ([(0, .d (ePairs a)), (1, .d (ePairs b)), (5, .d (eI i))], [])) ?_ ?_ ?_ (fun i hi hI => ?_)
  · simp
  · simp [SE, TF, KD, GE, eq_self, ne_eq, implies_true, forall_const, if_true, if_false, cond_true, cond_false, forall_eq, List.replicate, ↓reduceIte, Nat.reduceEqDiff, Nat.reduceLT, Nat.reduceAdd, Nat.reduceSub, Nat.reduceMul, Nat.reduceLeDiff]
  · simp [SE, TF, KD, GE, eq_self, ne_eq, implies_true, forall_const, if_true, if_false, cond_true, cond_false, forall_eq, List.replicate, ↓reduceIte, Nat.reduceEqDiff, Nat.reduceLT, Nat.reduceAdd, Nat.reduceSub, Nat.reduceMul, Nat.reduceLeDiff]
  rcases Nat.lt_or_ge i a.length with h | h
  · have hB : i < b.length := by omega
    have hw := wrap_succ (show i < 9223372036854775807 by omega)
    simp only [SE, TF, KD, GE, eq_self, ne_eq, implies_true, forall_const, if_true, if_false, cond_true, cond_false, forall_eq, List.replicate, ↓reduceIte, Nat.reduceEqDiff, Nat.reduceLT, Nat.reduceAdd, Nat.reduceSub, Nat.reduceMul, Nat.reduceLeDiff, dec_lt h, getD_map h, getD_map hB, lt_int h, lt_int hB, pair_beq, hw]
    refine ⟨by kernel_rfl, iteI (fun h3 => ?_) (fun h3 => ⟨h, take_step h hB hI (by simpa using h3)⟩)⟩
    rw [decide_eq_false]; rintro rfl; simp at h3
  · simp only [SE, TF, KD, GE, eq_self, ne_eq, implies_true, forall_const, if_true, if_false, cond_true, cond_false, forall_eq, List.replicate, ↓reduceIte, Nat.reduceEqDiff, Nat.reduceLT, Nat.reduceAdd, Nat.reduceSub, Nat.reduceMul, Nat.reduceLeDiff, dec_ge h]
    rw [decide_eq_true (take_end h hab hI)]

theorem sameWords_c (a b : List Nat) : FnP Try.prog 46 [eWords a, eWords b] (.d (eB (decide (a = b)))) [] := by
  refine FnP.of_eC (own := []) (fun _ => []) mixed Try.func46 rfl Try.call46 Try.ntmps46 (Nat.le_of_ble_eq_true rfl) Try.results46 (fun hok => ?_)
  obtain ⟨hl, _⟩ := ok_map (okL_cons hok).1
  simp only [SE, TF, KD, GE, eq_self, ne_eq, implies_true, forall_const, if_true, if_false, cond_true, cond_false, forall_eq, List.replicate, ↓reduceIte, Nat.reduceEqDiff, Nat.reduceLT, Nat.reduceAdd, Nat.reduceSub, Nat.reduceMul, Nat.reduceLeDiff]
  refine iteI (fun h => ?_) (fun h1 => ?_)
  · rw [decide_eq_false]; rintro rfl; simp at h
  have hab : a.length = b.length := by simp at h1; omega
  refine eloop (fun _ => []) mixed a.length (fun i => a.take i = b.take i) (fun i => ([(0, .d (eWords a)), (1, .d (eWords b)), (5, .d (eI i))], [])) ?_ ?_ ?_ (fun i hi hI => ?_)
  · simp
  · simp [SE, TF, KD, GE, eq_self, ne_eq, implies_true, forall_const, if_true, if_false, cond_true, cond_false, forall_eq, List.replicate, ↓reduceIte, Nat.reduceEqDiff, Nat.reduceLT, Nat.reduceAdd, Nat.reduceSub, Nat.reduceMul, Nat.reduceLeDiff]
  · simp [SE, TF, KD, GE, eq_self, ne_eq, implies_true, forall_const, if_true, if_false, cond_true, cond_false, forall_eq, List.replicate, ↓reduceIte, Nat.reduceEqDiff, Nat.reduceLT, Nat.reduceAdd, Nat.reduceSub, Nat.reduceMul, Nat.reduceLeDiff]
  rcases Nat.lt_or_ge i a.length with h | h
  · have hB : i < b.length := by omega
    have hw := wrap_succ (show i < 9223372036854775807 by omega)
    simp only [SE, TF, KD, GE, eq_self, ne_eq, implies_true, forall_const, if_true, if_false, cond_true, cond_false, forall_eq, List.replicate, ↓reduceIte, Nat.reduceEqDiff, Nat.reduceLT, Nat.reduceAdd, Nat.reduceSub, Nat.reduceMul, Nat.reduceLeDiff, dec_lt h, getD_map h, getD_map hB, lt_int h, lt_int hB, natCast_bne, hw]
    refine ⟨by kernel_rfl, iteI (fun h3 => ?_) (fun h3 => ⟨h, take_step h hB hI (by simpa using h3)⟩)⟩
    rw [decide_eq_false]; rintro rfl; simp at h3
  · simp only [SE, TF, KD, GE, eq_self, ne_eq, implies_true, forall_const, if_true, if_false, cond_true, cond_false, forall_eq, List.replicate, ↓reduceIte, Nat.reduceEqDiff, Nat.reduceLT, Nat.reduceAdd, Nat.reduceSub, Nat.reduceMul, Nat.reduceLeDiff, dec_ge h]
    rw [decide_eq_true (take_end h hab hI)]

/-! ### The shape of a set of frames -/
def shape (A : Frames) : List (List Nat) := A.map (·.map List.length)
theorem shape_len {A B : Frames} (h : shape A = shape B) : A.length = B.length := by simpa [shape] using congrArg List.length h
theorem shape_row {A B : Frames} {i : Nat} (h : shape A = shape B) (ha : i < A.length) (hb : i < B.length) : A[i].map List.length = B[i].map List.length := by
  have := congrArg (fun l => l[i]?) h
  simpa [shape, ha, hb] using this
theorem shape_take (A : Frames) (i : Nat) : (shape A).take i = shape (A.take i) := by simp [shape, List.map_take]
theorem shape_c (A B : Frames) : FnP Try.prog 32 [eSet A, eSet B] (.d (eB (decide (shape A = shape B)))) [] := by
  refine FnP.of_eC (own := []) (fun _ => []) mixed Try.func32 rfl Try.call32 Try.ntmps32 (Nat.le_of_ble_eq_true rfl) Try.results32 (fun hok => ?_)
  obtain ⟨hl, hlA⟩ := ok_map (okL_cons hok).1
  simp only [SE, TF, KD, GE, eq_self, ne_eq, implies_true, forall_const, if_true, if_false, cond_true, cond_false, forall_eq, List.replicate, ↓reduceIte, Nat.reduceEqDiff, Nat.reduceLT, Nat.reduceAdd, Nat.reduceSub, Nat.reduceMul, Nat.reduceLeDiff]
  refine iteI (fun h => ?_) (fun h1 => ?_)
  · rw [decide_eq_false]; intro e; simp [shape_len e] at h
  have hab : A.length = B.length := by simp at h1; omega
  refine eloop (fun _ => []) mixed A.length (fun i => (shape A).take i = (shape B).take i) (fun i => ([(0, .d (eSet A)), (1, .d (eSet B)), (5, .d (eI i))], [])) ?_ ?_ ?_ (fun i hi hI => ?_)
  · simp
  · simp [SE, TF, KD, GE, eq_self, ne_eq, implies_true, forall_const, if_true, if_false, cond_true, cond_false, forall_eq, List.replicate, ↓reduceIte, Nat.reduceEqDiff, Nat.reduceLT, Nat.reduceAdd, Nat.reduceSub, Nat.reduceMul, Nat.reduceLeDiff]
  · simp [SE, TF, KD, GE, eq_self, ne_eq, implies_true, forall_const, if_true, if_false, cond_true, cond_false, forall_eq, List.replicate, ↓reduceIte, Nat.reduceEqDiff, Nat.reduceLT, Nat.reduceAdd, Nat.reduceSub, Nat.reduceMul, Nat.reduceLeDiff]
  rcases Nat.lt_or_ge i A.length with h | h
  · have hB : i < B.length := by omega
    have hw := wrap_succ (show i < 9223372036854775807 by omega)
    obtain ⟨hl2, _⟩ := ok_map (okL_cons (hlA A[i] (by simp))).1
    simp only [SE, TF, KD, GE, eq_self, ne_eq, implies_true, forall_const, if_true, if_false, cond_true, cond_false, forall_eq, List.replicate, ↓reduceIte, Nat.reduceEqDiff, Nat.reduceLT, Nat.reduceAdd, Nat.reduceSub, Nat.reduceMul, Nat.reduceLeDiff, dec_lt h, getD_map h, getD_map hB, lt_int h, lt_int hB]
    refine ⟨by kernel_rfl, iteI (fun h3 => ?_) (fun h3 => ?_)⟩
    · rw [decide_eq_false]; intro e
      have := congrArg List.length (shape_row e h hB)
      simp at this; simp [this] at h3
    have h4 : A[i].length = B[i].length := by simp at h3; omega
    refine eloop (fun _ => []) mixed A[i].length (fun j => (A[i].map List.length).take j = (B[i].map List.length).take j) (fun j => ([(0, .d (eSet A)), (1, .d (eSet B)), (5, .d (eI i)), (6, .d (eI j))], [])) ?_ ?_ ?_ (fun j hj hJ => ?_)
    · simp
    · simp [SE, TF, KD, GE, eq_self, ne_eq, implies_true, forall_const, if_true, if_false, cond_true, cond_false, forall_eq, List.replicate, ↓reduceIte, Nat.reduceEqDiff, Nat.reduceLT, Nat.reduceAdd, Nat.reduceSub, Nat.reduceMul, Nat.reduceLeDiff]
    · simp [SE, TF, KD, GE, eq_self, ne_eq, implies_true, forall_const, if_true, if_false, cond_true, cond_false, forall_eq, List.replicate, ↓reduceIte, Nat.reduceEqDiff, Nat.reduceLT, Nat.reduceAdd, Nat.reduceSub, Nat.reduceMul, Nat.reduceLeDiff]
    rcases Nat.lt_or_ge j A[i].length with h' | h'
    · have hB' : j < B[i].length := by omega
      have hw' := wrap_succ (show j < 9223372036854775807 by omega)
      simp only [SE, TF, KD, GE, eq_self, ne_eq, implies_true, forall_const, if_true, if_false, cond_true, cond_false, forall_eq, List.replicate, ↓reduceIte, Nat.reduceEqDiff, Nat.reduceLT, Nat.reduceAdd, Nat.reduceSub, Nat.reduceMul, Nat.reduceLeDiff, dec_lt h, getD_map h, getD_map hB, lt_int h, lt_int hB, dec_lt h', getD_map h', getD_map hB', lt_int h', lt_int hB', natCast_bne, hw']
      refine ⟨by kernel_rfl, iteI (fun h5 => ?_) (fun h5 => ⟨h', take_step (by simpa using h') (by simpa using hB') hJ (by simpa using h5)⟩)⟩
      rw [decide_eq_false]; intro e
      have := congrArg (fun l => l[j]?) (shape_row e h hB)
      simp [h', hB'] at this
      simp [this] at h5
    · simp only [SE, TF, KD, GE, eq_self, ne_eq, implies_true, forall_const, if_true, if_false, cond_true, cond_false, forall_eq, List.replicate, ↓reduceIte, Nat.reduceEqDiff, Nat.reduceLT, Nat.reduceAdd, Nat.reduceSub, Nat.reduceMul, Nat.reduceLeDiff, dec_lt h, getD_map h, getD_map hB, lt_int h, lt_int hB, dec_ge h', hw]
      refine ⟨h, take_step (by simpa [shape] using h) (by simpa [shape] using hB) hI ?_⟩
      have := take_end (by simpa using h') (by simpa using h4) hJ
      simpa [shape] using this
  · simp only [SE, TF, KD, GE, eq_self, ne_eq, implies_true, forall_const, if_true, if_false, cond_true, cond_false, forall_eq, List.replicate, ↓reduceIte, Nat.reduceEqDiff, Nat.reduceLT, Nat.reduceAdd, Nat.reduceSub, Nat.reduceMul, Nat.reduceLeDiff, dec_ge h]
    rw [decide_eq_true (take_end (by simpa [shape] using h) (by simpa [shape] using hab) hI)]
end Go.Proofs.Ytcamhcnjomddbaa

/-
  CONTRACTS: equality of sets of frames; normal lists; lists that fit.
-/
namespace Go.Proofs.Ytcamhcnjomddbaa
open Go.Aw
set_option maxRecDepth 100000

def Patch.lt (a b : Patch) : Prop := a.p < b.p ∨ (a.p = b.p ∧ (a.f < b.f ∨ (a.f = b.f ∧ a.w < b.w)))
instance (a b : Patch) : Decidable (a.lt b) := by unfold Patch.lt; infer_instance

theorem same_c (A B : Frames) : FnP Try.prog 31 [eSet A, eSet B] (.d (eB (decide (A = B)))) [] := by
  refine FnP.of_eC (own := []) (fun id => if id = 9 then [.keep [0, 1, 5, 6, 43]] else []) mixed Try.func31 rfl Try.call31 Try.ntmps31 (Nat.le_of_ble_eq_true rfl) Try.results31 (fun hok => ?_)
  obtain ⟨hl, hlA⟩ := ok_map (okL_cons hok).1
  simp only [SE, TF, KD, GE, eq_self, ne_eq, implies_true, forall_const, if_true, if_false, cond_true, cond_false, forall_eq, List.replicate, ↓reduceIte, Nat.reduceEqDiff, Nat.reduceLT, Nat.reduceAdd, Nat.reduceSub, Nat.reduceMul, Nat.reduceLeDiff]
  refine EFn.p ?_
  simp only [SE, TF, KD, GE, eq_self, ne_eq, implies_true, forall_const, if_true, if_false, cond_true, cond_false, forall_eq, List.replicate, ↓reduceIte, Nat.reduceEqDiff, Nat.reduceLT, Nat.reduceAdd, Nat.reduceSub, Nat.reduceMul, Nat.reduceLeDiff, ECall]
  refine ⟨_, shape_c A B, ?_⟩
  simp only [SE, TF, KD, GE, eq_self, ne_eq, implies_true, forall_const, if_true, if_false, cond_true, cond_false, forall_eq, List.replicate, ↓reduceIte, Nat.reduceEqDiff, Nat.reduceLT, Nat.reduceAdd, Nat.reduceSub, Nat.reduceMul, Nat.reduceLeDiff]
  refine iteI (fun h => ?_) (fun h1 => ?_)
  · rw [decide_eq_false]; rintro rfl; simp at h
  have hs : shape A = shape B := by simpa using h1
  have hab := shape_len hs
  refine eloop (fun id => if id = 9 then [.keep [0, 1, 5, 6, 43]] else []) mixed A.length (fun i => A.take i = B.take i) (fun i => ([(0, .d (eSet A)), (1, .d (eSet B)), (5, .d (eI i))], [])) ?_ ?_ ?_ (fun i hi hI => ?_)
  · simp
  · simp [SE, TF, KD, GE, eq_self, ne_eq, implies_true, forall_const, if_true, if_false, cond_true, cond_false, forall_eq, List.replicate, ↓reduceIte, Nat.reduceEqDiff, Nat.reduceLT, Nat.reduceAdd, Nat.reduceSub, Nat.reduceMul, Nat.reduceLeDiff]
  · simp [SE, TF, KD, GE, eq_self, ne_eq, implies_true, forall_const, if_true, if_false, cond_true, cond_false, forall_eq, List.replicate, ↓reduceIte, Nat.reduceEqDiff, Nat.reduceLT, Nat.reduceAdd, Nat.reduceSub, Nat.reduceMul, Nat.reduceLeDiff]
  rcases Nat.lt_or_ge i A.length with h | h
  · have hB : i < B.length := by omega
    have hw := wrap_succ (show i < 9223372036854775807 by omega)
    obtain ⟨hl2, _⟩ := ok_map (okL_cons (hlA A[i] (by simp))).1
    simp only [SE, TF, KD, GE, eq_self, ne_eq, implies_true, forall_const, if_true, if_false, cond_true, cond_false, forall_eq, List.replicate, ↓reduceIte, Nat.reduceEqDiff, Nat.reduceLT, Nat.reduceAdd, Nat.reduceSub, Nat.reduceMul, Nat.reduceLeDiff, dec_lt h]
    have h4 : A[i].length = B[i].length := by simpa using congrArg List.length (shape_row hs h hB)
    refine eloop (fun id => if id = 9 then [.keep [0, 1, 5, 6, 43]] else []) mixed A[i].length (fun j => A[i].take j = B[i].take j) (fun j => ([(0, .d (eSet A)), (1, .d (eSet B)), (5, .d (eI i)), (6, .d (eI j))], [])) ?_ ?_ ?_ (fun j hj hJ => ?_)
    · simp
    · simp [SE, TF, KD, GE, eq_self, ne_eq, implies_true, forall_const, if_true, if_false, cond_true, cond_false, forall_eq, List.replicate, ↓reduceIte, Nat.reduceEqDiff, Nat.reduceLT, Nat.reduceAdd, Nat.reduceSub, Nat.reduceMul, Nat.reduceLeDiff]
    · simp [SE, TF, KD, GE, eq_self, ne_eq, implies_true, forall_const, if_true, if_false, cond_true, cond_false, forall_eq, List.replicate, ↓reduceIte, Nat.reduceEqDiff, Nat.reduceLT, Nat.reduceAdd, Nat.reduceSub, Nat.reduceMul, Nat.reduceLeDiff]
    rcases Nat.lt_or_ge j A[i].length with h' | h'
    · have hB' : j < B[i].length := by omega
      have hw' := wrap_succ (show j < 9223372036854775807 by omega)
      simp only [SE, TF, KD, GE, eq_self, ne_eq, implies_true, forall_const, if_true, if_false, cond_true, cond_false, forall_eq, List.replicate, ↓reduceIte, Nat.reduceEqDiff, Nat.reduceLT, Nat.reduceAdd, Nat.reduceSub, Nat.reduceMul, Nat.reduceLeDiff, ECall', getD_map h, getD_map hB, lt_int h, lt_int hB, dec_lt h', getD_map h', getD_map hB', lt_int h', lt_int hB']
      refine ⟨by kernel_rfl, _, sameWords_c _ _, ?_⟩
      simp only [SE, TF, KD, GE, eq_self, ne_eq, implies_true, forall_const, if_true, if_false, cond_true, cond_false, forall_eq, List.replicate, ↓reduceIte, Nat.reduceEqDiff, Nat.reduceLT, Nat.reduceAdd, Nat.reduceSub, Nat.reduceMul, Nat.reduceLeDiff, getD_map h, getD_map hB, hw']
      refine iteI (fun h5 => ?_) (fun h5 => ⟨h', take_step h' hB' hJ (by simpa using h5)⟩)
      rw [decide_eq_false]; rintro rfl; simp at h5
    · simp only [SE, TF, KD, GE, eq_self, ne_eq, implies_true, forall_const, if_true, if_false, cond_true, cond_false, forall_eq, List.replicate, ↓reduceIte, Nat.reduceEqDiff, Nat.reduceLT, Nat.reduceAdd, Nat.reduceSub, Nat.reduceMul, Nat.reduceLeDiff, getD_map h, lt_int h, dec_ge h', hw]
      exact ⟨h, take_step h hB hI (take_end h' h4 hJ)⟩
  · simp only [SE, TF, KD, GE, eq_self, ne_eq, implies_true, forall_const, if_true, if_false, cond_true, cond_false, forall_eq, List.replicate, ↓reduceIte, Nat.reduceEqDiff, Nat.reduceLT, Nat.reduceAdd, Nat.reduceSub, Nat.reduceMul, Nat.reduceLeDiff, dec_ge h]
    rw [decide_eq_true (take_end h hab hI)]

theorem less_c (a b : Patch) : FnP Try.prog 42 [.agg (ePatch a), .agg (ePatch b)] (.d (eB (decide (a.lt b)))) [] := by
  refine FnP.of_eC (own := []) (fun _ => []) mixed Try.func42 rfl Try.call42 Try.ntmps42 (Nat.le_of_ble_eq_true rfl) Try.results42 (fun hok => ?_)
  unfold Patch.lt
  by_cases h1 : a.p < b.p
  · simp only [SE, TF, KD, GE, eq_self, ne_eq, implies_true, forall_const, if_true, if_false, cond_true, cond_false, forall_eq, List.replicate, ↓reduceIte, Nat.reduceEqDiff, Nat.reduceLT, Nat.reduceAdd, Nat.reduceSub, Nat.reduceMul, Nat.reduceLeDiff, h1]
  by_cases h2 : a.p = b.p
  · have h2' : (a.p == b.p) = true := by simpa using h2
    by_cases h3 : a.f < b.f
    · simp only [SE, TF, KD, GE, eq_self, ne_eq, implies_true, forall_const, if_true, if_false, cond_true, cond_false, forall_eq, List.replicate, ↓reduceIte, Nat.reduceEqDiff, Nat.reduceLT, Nat.reduceAdd, Nat.reduceSub, Nat.reduceMul, Nat.reduceLeDiff, h1, h2', h3]
      simp [h2, h3]
    by_cases h4 : a.f = b.f
    · have h4' : (a.f == b.f) = true := by simpa using h4
      simp only [SE, TF, KD, GE, eq_self, ne_eq, implies_true, forall_const, if_true, if_false, cond_true, cond_false, forall_eq, List.replicate, ↓reduceIte, Nat.reduceEqDiff, Nat.reduceLT, Nat.reduceAdd, Nat.reduceSub, Nat.reduceMul, Nat.reduceLeDiff, h1, h2', h3, h4']
      simp [h2, h4]
    · have h4' : (a.f == b.f) = false := by simpa using h4
      simp only [SE, TF, KD, GE, eq_self, ne_eq, implies_true, forall_const, if_true, if_false, cond_true, cond_false, forall_eq, List.replicate, ↓reduceIte, Nat.reduceEqDiff, Nat.reduceLT, Nat.reduceAdd, Nat.reduceSub, Nat.reduceMul, Nat.reduceLeDiff, h1, h2', h3, h4']
      simp [h2, h4]
  · have h2' : (a.p == b.p) = false := by simpa using h2
    simp only [SE, TF, KD, GE, eq_self, ne_eq, implies_true, forall_const, if_true, if_false, cond_true, cond_false, forall_eq, List.replicate, ↓reduceIte, Nat.reduceEqDiff, Nat.reduceLT, Nat.reduceAdd, Nat.reduceSub, Nat.reduceMul, Nat.reduceLeDiff, h1, h2']
    simp [h1, h2]
end Go.Proofs.Ytcamhcnjomddbaa

/-
  CONTRACTS: normal lists of patches; lists that fit.
-/
namespace Go.Proofs.Ytcamhcnjomddbaa
open Go.Aw
set_option maxRecDepth 100000
/-- No word 0; positions go up. -/
def normalTo (l : List Patch) (n : Nat) : Prop := ∀ i, i < n → (l.getD i default).x ≠ 0 ∧ (0 < i → (l.getD (i - 1) default).lt (l.getD i default))
def Normal (l : List Patch) : Prop := normalTo l l.length
instance (l : List Patch) : Decidable (Normal l) := by unfold Normal normalTo; infer_instance

theorem normal_c (l : List Patch) : FnP Try.prog 41 [ePatches l] (.d (eB (decide (Normal l)))) [] := by
  refine FnP.of_eC (own := []) (fun _ => []) mixed Try.func41 rfl Try.call41 Try.ntmps41 (Nat.le_of_ble_eq_true rfl) Try.results41 (fun hok => ?_)
  obtain ⟨hl, _⟩ := ok_map (okL_cons hok).1
  simp only [SE, TF, KD, GE, eq_self, ne_eq, implies_true, forall_const, if_true, if_false, cond_true, cond_false, forall_eq, List.replicate, ↓reduceIte, Nat.reduceEqDiff, Nat.reduceLT, Nat.reduceAdd, Nat.reduceSub, Nat.reduceMul, Nat.reduceLeDiff]
  refine eloop (fun _ => []) mixed l.length (fun i => normalTo l i) (fun i => ([(0, .d (ePatches l)), (3, .d (eI i))], [])) ?_ ?_ ?_ (fun i hi hI => ?_)
  · intro i hi; omega
  · simp [SE, TF, KD, GE, eq_self, ne_eq, implies_true, forall_const, if_true, if_false, cond_true, cond_false, forall_eq, List.replicate, ↓reduceIte, Nat.reduceEqDiff, Nat.reduceLT, Nat.reduceAdd, Nat.reduceSub, Nat.reduceMul, Nat.reduceLeDiff]
  · simp [SE, TF, KD, GE, eq_self, ne_eq, implies_true, forall_const, if_true, if_false, cond_true, cond_false, forall_eq, List.replicate, ↓reduceIte, Nat.reduceEqDiff, Nat.reduceLT, Nat.reduceAdd, Nat.reduceSub, Nat.reduceMul, Nat.reduceLeDiff]
  rcases Nat.lt_or_ge i l.length with h | h
  · have hw := wrap_succ (show i < 9223372036854775807 by omega)
    have hd : l.getD i default = l[i] := by simp [List.getD, h]
    by_cases hx : l[i].x = 0
    · have hx' : ((l[i].x : Int) == 0) = true := by simp [hx]
      simp only [SE, TF, KD, GE, eq_self, ne_eq, implies_true, forall_const, if_true, if_false, cond_true, cond_false, forall_eq, List.replicate, ↓reduceIte, Nat.reduceEqDiff, Nat.reduceLT, Nat.reduceAdd, Nat.reduceSub, Nat.reduceMul, Nat.reduceLeDiff, dec_lt h, getD_map h, lt_int h, hx']
      refine ⟨by kernel_rfl, ?_⟩
      rw [decide_eq_false]
      intro e
      exact (e i h).1 (by rw [hd]; exact hx)
    have hx' : ((l[i].x : Int) == 0) = false := by simp [hx]
    by_cases h0 : i = 0
    · have h0' : ((i : Int) > 0) = False := by simp; omega
      simp only [SE, TF, KD, GE, eq_self, ne_eq, implies_true, forall_const, if_true, if_false, cond_true, cond_false, forall_eq, List.replicate, ↓reduceIte, Nat.reduceEqDiff, Nat.reduceLT, Nat.reduceAdd, Nat.reduceSub, Nat.reduceMul, Nat.reduceLeDiff, dec_lt h, getD_map h, lt_int h, hx', h0', hw]
      refine ⟨by kernel_rfl, h, fun k hk => ?_⟩
      have : k = i := by omega
      subst this
      exact ⟨by rw [hd]; exact hx, fun h => absurd h (by omega)⟩
    · have h0' : ((i : Int) > 0) = True := by simp; omega
      have hs : IntKind.i64.wrap ((i : Int) - 1) = ((i - 1 : Nat) : Int) := by rw [wrap_id (by omega) (by omega)]; omega
      have hp : i - 1 < l.length := by omega
      have hd1 : l.getD (i - 1) default = l[i - 1] := by simp [List.getD, hp]
      simp only [SE, TF, KD, GE, eq_self, ne_eq, implies_true, forall_const, if_true, if_false, cond_true, cond_false, forall_eq, List.replicate, ↓reduceIte, Nat.reduceEqDiff, Nat.reduceLT, Nat.reduceAdd, Nat.reduceSub, Nat.reduceMul, Nat.reduceLeDiff, ECall', dec_lt h, getD_map h, getD_map hp, lt_int h, lt_int hp, hx', h0', hs]
      refine ⟨by kernel_rfl, _, less_c _ _, ?_⟩
      by_cases hlt : l[i - 1].lt l[i]
      · simp only [SE, TF, KD, GE, eq_self, ne_eq, implies_true, forall_const, if_true, if_false, cond_true, cond_false, forall_eq, List.replicate, ↓reduceIte, Nat.reduceEqDiff, Nat.reduceLT, Nat.reduceAdd, Nat.reduceSub, Nat.reduceMul, Nat.reduceLeDiff, hlt, hw]
        refine ⟨h, fun k hk => ?_⟩
        by_cases hk' : k < i
        · exact hI k hk'
        · have : k = i := by omega
          subst this
          exact ⟨by rw [hd]; exact hx, fun _ => by rw [hd, hd1]; exact hlt⟩
      · simp only [SE, TF, KD, GE, eq_self, ne_eq, implies_true, forall_const, if_true, if_false, cond_true, cond_false, forall_eq, List.replicate, ↓reduceIte, Nat.reduceEqDiff, Nat.reduceLT, Nat.reduceAdd, Nat.reduceSub, Nat.reduceMul, Nat.reduceLeDiff, hlt]
        rw [decide_eq_false]
        intro e
        have := (e i h).2 (by omega)
        rw [hd, hd1] at this
        exact hlt this
  · simp only [SE, TF, KD, GE, eq_self, ne_eq, implies_true, forall_const, if_true, if_false, cond_true, cond_false, forall_eq, List.replicate, ↓reduceIte, Nat.reduceEqDiff, Nat.reduceLT, Nat.reduceAdd, Nat.reduceSub, Nat.reduceMul, Nat.reduceLeDiff, dec_ge h]
    rw [decide_eq_true]
    intro i hi'
    exact hI i (by omega)
end Go.Proofs.Ytcamhcnjomddbaa

/-
  CONTRACTS: lists that fit.
-/
namespace Go.Proofs.Ytcamhcnjomddbaa
open Go.Aw
set_option maxRecDepth 100000
set_option maxHeartbeats 2000000
def fit1 (A : Frames) (q : Patch) : Prop :=
  (0 ≤ q.p ∧ q.p < A.length) ∧ (0 ≤ q.f ∧ q.f < (A.getD q.p.toNat []).length) ∧ (0 ≤ q.w ∧ q.w < ((A.getD q.p.toNat []).getD q.f.toNat []).length)
def Fits (A : Frames) (l : List Patch) : Prop := (∀ q ∈ l, fit1 A q) ∧ Normal l
instance (A : Frames) (q : Patch) : Decidable (fit1 A q) := by unfold fit1; infer_instance
instance (A : Frames) (l : List Patch) : Decidable (Fits A l) := by unfold Fits; infer_instance

theorem fits_c (A : Frames) (l : List Patch) : FnP Try.prog 39 [eSet A, ePatches l] (.d (eB (decide (Fits A l)))) [] := by
  refine FnP.of_eC (own := []) (fun id => if id = 4 then [.keep [0, 1, 5, 6]] else []) mixed Try.func39 rfl Try.call39 Try.ntmps39 (Nat.le_of_ble_eq_true rfl) Try.results39 (fun hok => ?_)
  obtain ⟨hl, _⟩ := ok_map (okL_cons (okL_cons hok).2).1
  simp only [SE, TF, KD, GE, eq_self, ne_eq, implies_true, forall_const, if_true, if_false, cond_true, cond_false, forall_eq, List.replicate, ↓reduceIte, Nat.reduceEqDiff, Nat.reduceLT, Nat.reduceAdd, Nat.reduceSub, Nat.reduceMul, Nat.reduceLeDiff]
  refine eloop (fun id => if id = 4 then [.keep [0, 1, 5, 6]] else []) mixed l.length (fun i => ∀ q ∈ l.take i, fit1 A q) (fun i => ([(0, .d (eSet A)), (1, .d (ePatches l)), (5, .d (eI i))], [])) ?_ ?_ ?_ (fun i hi hI => ?_)
  · simp
  · simp [SE, TF, KD, GE, eq_self, ne_eq, implies_true, forall_const, if_true, if_false, cond_true, cond_false, forall_eq, List.replicate, ↓reduceIte, Nat.reduceEqDiff, Nat.reduceLT, Nat.reduceAdd, Nat.reduceSub, Nat.reduceMul, Nat.reduceLeDiff]
  · simp [SE, TF, KD, GE, eq_self, ne_eq, implies_true, forall_const, if_true, if_false, cond_true, cond_false, forall_eq, List.replicate, ↓reduceIte, Nat.reduceEqDiff, Nat.reduceLT, Nat.reduceAdd, Nat.reduceSub, Nat.reduceMul, Nat.reduceLeDiff]
  rcases Nat.lt_or_ge i l.length with h | h
  · have hw := wrap_succ (show i < 9223372036854775807 by omega)
    have no : ¬ fit1 A l[i] → AV.d (D.lit (Value.bool false)) = AV.d (D.lit (Value.bool (decide (Fits A l)))) := by
      intro hn
      rw [decide_eq_false]
      intro e
      exact hn (e.1 _ (by simp))
    by_cases h1 : l[i].p < 0
    · simp (config := { maxSteps := 2000000 }) only [SE, TF, KD, GE, eq_self, ne_eq, implies_true, forall_const, if_true, if_false, cond_true, cond_false, forall_eq, List.replicate, ↓reduceIte, Nat.reduceEqDiff, Nat.reduceLT, Nat.reduceAdd, Nat.reduceSub, Nat.reduceMul, Nat.reduceLeDiff, dec_lt h, getD_map h, lt_int h, h1]
      exact ⟨by kernel_rfl, no (fun e => by have := e.1.1; omega)⟩
    obtain ⟨p, hp⟩ := Int.eq_ofNat_of_zero_le (show 0 ≤ l[i].p by omega)
    by_cases h2 : ¬ p < A.length
    · have h2' : ((p : Int) ≥ (A.length : Int)) = True := by simp; omega
      have h1' : ((p : Int) < 0) = False := by simp
      simp (config := { maxSteps := 2000000 }) only [SE, TF, KD, GE, eq_self, ne_eq, implies_true, forall_const, if_true, if_false, cond_true, cond_false, forall_eq, List.replicate, ↓reduceIte, Nat.reduceEqDiff, Nat.reduceLT, Nat.reduceAdd, Nat.reduceSub, Nat.reduceMul, Nat.reduceLeDiff, dec_lt h, getD_map h, lt_int h, hp, h2', h1']
      exact ⟨by kernel_rfl, no (fun e => by have := e.1.2; omega)⟩
    rw [Decidable.not_not] at h2
    have h1' : ((p : Int) < 0) = False := by simp
    have h2' : ((p : Int) ≥ (A.length : Int)) = False := by simp; omega
    have eA : A.getD p [] = A[p] := by simp [List.getD, h2]
    have efit : fit1 A l[i] ↔ (0 ≤ l[i].f ∧ l[i].f < A[p].length) ∧ (0 ≤ l[i].w ∧ l[i].w < (A[p].getD l[i].f.toNat []).length) := by
      unfold fit1
      rw [hp]
      simp only [Int.toNat_natCast, eA]
      constructor
      · intro e; exact e.2
      · intro e; exact ⟨⟨by omega, by omega⟩, e⟩
    by_cases h3 : l[i].f < 0
    · simp (config := { maxSteps := 2000000 }) only [SE, TF, KD, GE, eq_self, ne_eq, implies_true, forall_const, if_true, if_false, cond_true, cond_false, forall_eq, List.replicate, ↓reduceIte, Nat.reduceEqDiff, Nat.reduceLT, Nat.reduceAdd, Nat.reduceSub, Nat.reduceMul, Nat.reduceLeDiff, dec_lt h, getD_map h, lt_int h, hp, h2', h1', h3, lt_int h2]
      exact ⟨by kernel_rfl, no (fun e => by have := (efit.1 e).1.1; omega)⟩
    obtain ⟨f, hf⟩ := Int.eq_ofNat_of_zero_le (show 0 ≤ l[i].f by omega)
    have h3' : ((f : Int) < 0) = False := by simp
    by_cases h4 : ¬ f < A[p].length
    · have h4' : ((f : Int) ≥ (A[p].length : Int)) = True := by simp; omega
      simp (config := { maxSteps := 2000000 }) only [SE, TF, KD, GE, eq_self, ne_eq, implies_true, forall_const, if_true, if_false, cond_true, cond_false, forall_eq, List.replicate, ↓reduceIte, Nat.reduceEqDiff, Nat.reduceLT, Nat.reduceAdd, Nat.reduceSub, Nat.reduceMul, Nat.reduceLeDiff, dec_lt h, getD_map h, lt_int h, hp, h2', h1', hf, h3', h4', lt_int h2, getD_map h2]
      exact ⟨by kernel_rfl, no (fun e => by have := (efit.1 e).1.2; omega)⟩
    rw [Decidable.not_not] at h4
    have h4' : ((f : Int) ≥ (A[p].length : Int)) = False := by simp; omega
    have eF : A[p].getD f [] = A[p][f] := by simp [List.getD, h4]
    by_cases h5 : l[i].w < 0
    · simp (config := { maxSteps := 2000000 }) only [SE, TF, KD, GE, eq_self, ne_eq, implies_true, forall_const, if_true, if_false, cond_true, cond_false, forall_eq, List.replicate, ↓reduceIte, Nat.reduceEqDiff, Nat.reduceLT, Nat.reduceAdd, Nat.reduceSub, Nat.reduceMul, Nat.reduceLeDiff, dec_lt h, getD_map h, lt_int h, hp, h2', h1', hf, h3', h4', h5, lt_int h2, getD_map h2]
      exact ⟨by kernel_rfl, no (fun e => by have := (efit.1 e).2.1; omega)⟩
    obtain ⟨w, hw'⟩ := Int.eq_ofNat_of_zero_le (show 0 ≤ l[i].w by omega)
    have h5' : ((w : Int) < 0) = False := by simp
    have eW : fit1 A l[i] ↔ w < A[p][f].length := by
      rw [efit, hf, hw']
      simp only [Int.toNat_natCast, eF]
      constructor
      · intro e; have := e.2.2; omega
      · intro e; exact ⟨⟨by omega, by omega⟩, by omega, by omega⟩
    by_cases h6 : w < A[p][f].length
    · have h6' : ((w : Int) ≥ (A[p][f].length : Int)) = False := by simp; omega
      simp (config := { maxSteps := 2000000 }) only [SE, TF, KD, GE, eq_self, ne_eq, implies_true, forall_const, if_true, if_false, cond_true, cond_false, forall_eq, List.replicate, ↓reduceIte, Nat.reduceEqDiff, Nat.reduceLT, Nat.reduceAdd, Nat.reduceSub, Nat.reduceMul, Nat.reduceLeDiff, dec_lt h, getD_map h, lt_int h, hp, h2', h1', hf, h3', h4', hw', h5', h6', lt_int h2, getD_map h2, lt_int h4, getD_map h4, hw]
      refine ⟨by kernel_rfl, h, fun q hq => ?_⟩
      rw [List.take_succ_eq_append_getElem h] at hq
      rcases List.mem_append.1 hq with hq | hq
      · exact hI q hq
      · simp only [List.mem_singleton] at hq
        rw [hq]
        exact eW.2 h6
    · have h6' : ((w : Int) ≥ (A[p][f].length : Int)) = True := by simp; omega
      simp (config := { maxSteps := 2000000 }) only [SE, TF, KD, GE, eq_self, ne_eq, implies_true, forall_const, if_true, if_false, cond_true, cond_false, forall_eq, List.replicate, ↓reduceIte, Nat.reduceEqDiff, Nat.reduceLT, Nat.reduceAdd, Nat.reduceSub, Nat.reduceMul, Nat.reduceLeDiff, dec_lt h, getD_map h, lt_int h, hp, h2', h1', hf, h3', h4', hw', h5', h6', lt_int h2, getD_map h2, lt_int h4, getD_map h4, hw]
      exact ⟨by kernel_rfl, no (fun e => h6 (eW.1 e))⟩
  · simp only [SE, TF, KD, GE, eq_self, ne_eq, implies_true, forall_const, if_true, if_false, cond_true, cond_false, forall_eq, List.replicate, ↓reduceIte, Nat.reduceEqDiff, Nat.reduceLT, Nat.reduceAdd, Nat.reduceSub, Nat.reduceMul, Nat.reduceLeDiff, dec_ge h]
    refine EFn.p ?_
    simp only [SE, TF, KD, GE, eq_self, ne_eq, implies_true, forall_const, if_true, if_false, cond_true, cond_false, forall_eq, List.replicate, ↓reduceIte, Nat.reduceEqDiff, Nat.reduceLT, Nat.reduceAdd, Nat.reduceSub, Nat.reduceMul, Nat.reduceLeDiff, ECall, dec_ge h]
    refine ⟨_, normal_c _, ?_⟩
    simp only [SE, TF, KD, GE, eq_self, ne_eq, implies_true, forall_const, if_true, if_false, cond_true, cond_false, forall_eq, List.replicate, ↓reduceIte, Nat.reduceEqDiff, Nat.reduceLT, Nat.reduceAdd, Nat.reduceSub, Nat.reduceMul, Nat.reduceLeDiff]
    rw [List.take_of_length_le h] at hI
    congr 3
    rw [decide_eq_decide]
    exact ⟨fun e => ⟨hI, e⟩, fun e => e.2⟩
end Go.Proofs.Ytcamhcnjomddbaa

/-
  CONTRACTS: digests of the reference.
-/
namespace Go.Proofs.Ytcamhcnjomddbaa
open Go.Aw
set_option maxRecDepth 100000
def xorU (x y : Int) : Int := IntKind.u64.wrap (BitVec.ofInt IntKind.u64.bits x ^^^ BitVec.ofInt IntKind.u64.bits y).toNat
def stepA (h w : Int) : Int := IntKind.u64.wrap (xorU h w * 15485907386658061715)
def stepI (h w : Int) : Int := IntKind.u64.wrap (xorU (stepA h w) ((stepA h w).fdiv (2 ^ (min (Int.toNat 32) IntKind.u64.bits))) * 11562461410679940143)

theorem step_c (h w : Int) : FnP Try.prog 73 [eUI h, eUI w] (.d (eUI (stepI h w))) [] := by
  refine FnP.of_eC (own := []) (fun _ => []) mixed Try.func73 rfl Try.call73 Try.ntmps73 (Nat.le_of_ble_eq_true rfl) Try.results73 (fun hok => ?_)
  simp only [SE, TF, KD, GE, eq_self, ne_eq, implies_true, forall_const, if_true, if_false, cond_true, cond_false, forall_eq, List.replicate, ↓reduceIte, Nat.reduceEqDiff, Nat.reduceLT, Nat.reduceAdd, Nat.reduceSub, Nat.reduceMul, Nat.reduceLeDiff, Int.reduceLE, true_and, stepI, stepA, xorU]

def wordsI (l : List Int) : Int := stepI (l.foldl (fun h x => stepI h (IntKind.u64.wrap x)) 512970876019) (IntKind.u64.wrap l.length)

theorem rwords_c (l : List Int) : FnP Try.prog 59 [eInts l] (.d (eUI (wordsI l))) [] := by
  refine FnP.of_eC (own := []) (fun _ => []) mixed Try.func59 rfl Try.call59 Try.ntmps59 (Nat.le_of_ble_eq_true rfl) Try.results59 (fun hok => ?_)
  obtain ⟨hl, _⟩ := ok_map (okL_cons hok).1
  simp only [SE, TF, KD, GE, eq_self, ne_eq, implies_true, forall_const, if_true, if_false, cond_true, cond_false, forall_eq, List.replicate, ↓reduceIte, Nat.reduceEqDiff, Nat.reduceLT, Nat.reduceAdd, Nat.reduceSub, Nat.reduceMul, Nat.reduceLeDiff]
  refine eloop (fun _ => []) mixed l.length (fun i => True) (fun i => ([(0, .d (eInts l)), (3, .d (eUI ((l.take i).foldl (fun h x => stepI h (IntKind.u64.wrap x)) 512970876019))), (4, .d (eI i))], [])) ?_ ?_ ?_ (fun i hi hI => ?_)
  · trivial
  · simp [SE, TF, KD, GE, eq_self, ne_eq, implies_true, forall_const, if_true, if_false, cond_true, cond_false, forall_eq, List.replicate, ↓reduceIte, Nat.reduceEqDiff, Nat.reduceLT, Nat.reduceAdd, Nat.reduceSub, Nat.reduceMul, Nat.reduceLeDiff]
  · simp [SE, TF, KD, GE, eq_self, ne_eq, implies_true, forall_const, if_true, if_false, cond_true, cond_false, forall_eq, List.replicate, ↓reduceIte, Nat.reduceEqDiff, Nat.reduceLT, Nat.reduceAdd, Nat.reduceSub, Nat.reduceMul, Nat.reduceLeDiff]
  rcases Nat.lt_or_ge i l.length with h | h
  · have hw := wrap_succ (show i < 9223372036854775807 by omega)
    simp only [SE, TF, KD, GE, eq_self, ne_eq, implies_true, forall_const, if_true, if_false, cond_true, cond_false, forall_eq, List.replicate, ↓reduceIte, Nat.reduceEqDiff, Nat.reduceLT, Nat.reduceAdd, Nat.reduceSub, Nat.reduceMul, Nat.reduceLeDiff, dec_lt h, getD_map h, lt_int h]
    refine EFn.p ?_
    simp only [SE, TF, KD, GE, eq_self, ne_eq, implies_true, forall_const, if_true, if_false, cond_true, cond_false, forall_eq, List.replicate, ↓reduceIte, Nat.reduceEqDiff, Nat.reduceLT, Nat.reduceAdd, Nat.reduceSub, Nat.reduceMul, Nat.reduceLeDiff, ECall, dec_lt h, getD_map h, lt_int h]
    refine ⟨_, step_c _ _, ?_⟩
    simp only [SE, TF, KD, GE, eq_self, ne_eq, implies_true, forall_const, if_true, if_false, cond_true, cond_false, forall_eq, List.replicate, ↓reduceIte, Nat.reduceEqDiff, Nat.reduceLT, Nat.reduceAdd, Nat.reduceSub, Nat.reduceMul, Nat.reduceLeDiff, hw, List.take_succ_eq_append_getElem h, List.foldl_append, List.foldl_cons, List.foldl_nil, h]
  · simp only [SE, TF, KD, GE, eq_self, ne_eq, implies_true, forall_const, if_true, if_false, cond_true, cond_false, forall_eq, List.replicate, ↓reduceIte, Nat.reduceEqDiff, Nat.reduceLT, Nat.reduceAdd, Nat.reduceSub, Nat.reduceMul, Nat.reduceLeDiff, dec_ge h]
    refine EFn.p ?_
    simp only [SE, TF, KD, GE, eq_self, ne_eq, implies_true, forall_const, if_true, if_false, cond_true, cond_false, forall_eq, List.replicate, ↓reduceIte, Nat.reduceEqDiff, Nat.reduceLT, Nat.reduceAdd, Nat.reduceSub, Nat.reduceMul, Nat.reduceLeDiff, ECall, dec_ge h]
    refine ⟨_, step_c _ _, ?_⟩
    simp only [SE, TF, KD, GE, eq_self, ne_eq, implies_true, forall_const, if_true, if_false, cond_true, cond_false, forall_eq, List.replicate, ↓reduceIte, Nat.reduceEqDiff, Nat.reduceLT, Nat.reduceAdd, Nat.reduceSub, Nat.reduceMul, Nat.reduceLeDiff, List.take_of_length_le h, wordsI]

def toI (w : Nat) : Int := IntKind.i64.wrap (w : Int)
def digI (ws : List Nat) : Int := wordsI (ws.map toI)
theorem take_map_snoc {α β : Type} (f : α → β) (l : List α) (i : Nat) (h : i < l.length) : (l.take i).map f ++ [f l[i]] = (l.take (i + 1)).map f := by
  rw [List.take_succ_eq_append_getElem h, List.map_append]; rfl
theorem take_len {α : Type} (l : List α) (i : Nat) (h : i ≤ l.length) : (l.take i).length = i := by simp; omega
theorem rdig_c (ws : List Nat) (hb : ws.length ≤ 2000000) : FnP Try.prog 45 [.agg (eFrame ws)] (.d (eUI (digI ws))) [] := by
  refine FnP.of_eC (own := []) (fun _ => []) mixed Try.func45 rfl Try.call45 Try.ntmps45 (Nat.le_of_ble_eq_true rfl) Try.results45 (fun hok => ?_)
  simp only [SE, TF, KD, GE, eq_self, ne_eq, implies_true, forall_const, if_true, if_false, cond_true, cond_false, forall_eq, List.replicate, ↓reduceIte, Nat.reduceEqDiff, Nat.reduceLT, Nat.reduceAdd, Nat.reduceSub, Nat.reduceMul, Nat.reduceLeDiff]
  refine eloop (fun _ => []) mixed ws.length (fun i => True) (fun i => ([(0, .d (.agg (eFrame ws))), (1, .bp 1 0), (3, .ar 5 i), (4, .d (eI i))], [(1, .box [.d (eWords ws)]), (5, .arr 3 1 .flat ((ws.take i).map fun w => [eI (toI w)]))])) ?_ ?_ ?_ (fun i hi hI => ?_)
  · trivial
  · simp [SE, TF, KD, GE, eq_self, ne_eq, implies_true, forall_const, if_true, if_false, cond_true, cond_false, forall_eq, List.replicate, ↓reduceIte, Nat.reduceEqDiff, Nat.reduceLT, Nat.reduceAdd, Nat.reduceSub, Nat.reduceMul, Nat.reduceLeDiff]
  · simp [SE, TF, KD, GE, eq_self, ne_eq, implies_true, forall_const, if_true, if_false, cond_true, cond_false, forall_eq, List.replicate, ↓reduceIte, Nat.reduceEqDiff, Nat.reduceLT, Nat.reduceAdd, Nat.reduceSub, Nat.reduceMul, Nat.reduceLeDiff]
  rcases Nat.lt_or_ge i ws.length with h | h
  · have hw := wrap_succ (show i < 9223372036854775807 by omega)
    have hlen := take_len ws i (by omega)
    simp only [SE, TF, KD, GE, eq_self, ne_eq, implies_true, forall_const, if_true, if_false, cond_true, cond_false, forall_eq, List.replicate, ↓reduceIte, Nat.reduceEqDiff, Nat.reduceLT, Nat.reduceAdd, Nat.reduceSub, Nat.reduceMul, Nat.reduceLeDiff, dec_lt h, getD_map h, lt_int h, hlen, hw]
    refine ⟨⟨by omega, by omega⟩, h, ?_⟩
    exact congrArg _ ((take_map_snoc (fun w => [D.lit (.int .i64 (toI w))]) ws i h))
  · simp only [SE, TF, KD, GE, eq_self, ne_eq, implies_true, forall_const, if_true, if_false, cond_true, cond_false, forall_eq, List.replicate, ↓reduceIte, Nat.reduceEqDiff, Nat.reduceLT, Nat.reduceAdd, Nat.reduceSub, Nat.reduceMul, Nat.reduceLeDiff, dec_ge h, take_len ws i hi]
    refine EFn.p ?_
    simp only [SE, TF, KD, GE, eq_self, ne_eq, implies_true, forall_const, if_true, if_false, cond_true, cond_false, forall_eq, List.replicate, ↓reduceIte, Nat.reduceEqDiff, Nat.reduceLT, Nat.reduceAdd, Nat.reduceSub, Nat.reduceMul, Nat.reduceLeDiff, ECall, dec_ge h, take_len ws i hi]
    rw [List.take_of_length_le h]
    refine ⟨_, by have := rwords_c (ws.map toI); simp only [eInts, List.map_map] at this; exact this, ?_⟩
    simp only [SE, TF, KD, GE, eq_self, ne_eq, implies_true, forall_const, if_true, if_false, cond_true, cond_false, forall_eq, List.replicate, ↓reduceIte, Nat.reduceEqDiff, Nat.reduceLT, Nat.reduceAdd, Nat.reduceSub, Nat.reduceMul, Nat.reduceLeDiff, digI]
end Go.Proofs.Ytcamhcnjomddbaa

/-
  CONTRACTS: the shapes compared by package slices; the words of a set, one after the other.
-/
namespace Go.Proofs.Ytcamhcnjomddbaa
open Go.Aw
set_option maxRecDepth 100000
set_option maxHeartbeats 1000000
theorem sameLen_c (x y : List Nat) : FnP Try.prog 63 [.agg (eFrame x), .agg (eFrame y)] (.d (eB (decide (x.length = y.length)))) [] := by
  refine FnP.of_eC (own := []) (fun _ => []) mixed Try.func63 rfl Try.call63 Try.ntmps63 (Nat.le_of_ble_eq_true rfl) Try.results63 (fun hok => ?_)
  simp only [SE, TF, KD, GE, eq_self, ne_eq, implies_true, forall_const, if_true, if_false, cond_true, cond_false, forall_eq, List.replicate, ↓reduceIte, Nat.reduceEqDiff, Nat.reduceLT, Nat.reduceAdd, Nat.reduceSub, Nat.reduceMul, Nat.reduceLeDiff]
  have : ((x.length : Int) == (y.length : Int)) = decide (x.length = y.length) := by rw [natCast_beq]; rfl
  rw [this]

def eRowS (r : List (List Nat)) : D := .sl (r.map eFrame)
theorem equalRow_c (a b : List (List Nat)) : FnP Try.prog 62 [eRowS a, eRowS b, .clo (.func 63) [] []] (.d (eB (decide (a.map List.length = b.map List.length)))) [] := by
  refine FnP.of_eC (own := []) (fun _ => []) mixed Try.func62 rfl Try.call62 Try.ntmps62 (Nat.le_of_ble_eq_true rfl) Try.results62 (fun hok => ?_)
  obtain ⟨hl, _⟩ := ok_map (okL_cons hok).1
  simp only [SE, TF, KD, GE, eq_self, ne_eq, implies_true, forall_const, if_true, if_false, cond_true, cond_false, forall_eq, List.replicate, ↓reduceIte, Nat.reduceEqDiff, Nat.reduceLT, Nat.reduceAdd, Nat.reduceSub, Nat.reduceMul, Nat.reduceLeDiff, eRowS, natCast_bne]
  refine iteI (fun h => ?_) (fun h1 => ?_)
  · rw [decide_eq_false]; intro e; have := congrArg List.length e; simp at this; simp [this] at h
  have hab : a.length = b.length := by simpa using h1
  refine eloop (fun _ => []) mixed a.length (fun i => (a.map List.length).take i = (b.map List.length).take i) (fun i => ([(1, .d (eRowS b)), (2, .d (.clo (.func 63) [] [])), (15, .d (eRowS a)), (16, .d (eI a.length)), (17, .d (eI i))], [])) ?_ ?_ ?_ (fun i hi hI => ?_)
  · simp
  · simp only [SE, TF, KD, GE, eq_self, ne_eq, implies_true, forall_const, if_true, if_false, cond_true, cond_false, forall_eq, List.replicate, ↓reduceIte, Nat.reduceEqDiff, Nat.reduceLT, Nat.reduceAdd, Nat.reduceSub, Nat.reduceMul, Nat.reduceLeDiff, eRowS]
  · simp only [SE, TF, KD, GE, eq_self, ne_eq, implies_true, forall_const, if_true, if_false, cond_true, cond_false, forall_eq, List.replicate, ↓reduceIte, Nat.reduceEqDiff, Nat.reduceLT, Nat.reduceAdd, Nat.reduceSub, Nat.reduceMul, Nat.reduceLeDiff, eRowS]
  rcases Nat.lt_or_ge i a.length with h | h
  · have hB : i < b.length := by omega
    have hw := wrap_succ (show i < 9223372036854775807 by omega)
    simp only [SE, TF, KD, GE, eq_self, ne_eq, implies_true, forall_const, if_true, if_false, cond_true, cond_false, forall_eq, List.replicate, ↓reduceIte, Nat.reduceEqDiff, Nat.reduceLT, Nat.reduceAdd, Nat.reduceSub, Nat.reduceMul, Nat.reduceLeDiff, eRowS, dec_lt h, getD_map h, getD_map hB, lt_int h, lt_int hB]
    refine EFn.p ?_
    simp only [SE, TF, KD, GE, eq_self, ne_eq, implies_true, forall_const, if_true, if_false, cond_true, cond_false, forall_eq, List.replicate, ↓reduceIte, Nat.reduceEqDiff, Nat.reduceLT, Nat.reduceAdd, Nat.reduceSub, Nat.reduceMul, Nat.reduceLeDiff, ECall]
    refine ⟨_, sameLen_c _ _, ?_⟩
    simp only [SE, TF, KD, GE, eq_self, ne_eq, implies_true, forall_const, if_true, if_false, cond_true, cond_false, forall_eq, List.replicate, ↓reduceIte, Nat.reduceEqDiff, Nat.reduceLT, Nat.reduceAdd, Nat.reduceSub, Nat.reduceMul, Nat.reduceLeDiff, hw]
    by_cases he : a[i].length = b[i].length
    · simp only [he, decide_true, SE, TF, KD, GE, eq_self, ne_eq, implies_true, forall_const, if_true, if_false, cond_true, cond_false, forall_eq, List.replicate, ↓reduceIte, Nat.reduceEqDiff, Nat.reduceLT, Nat.reduceAdd, Nat.reduceSub, Nat.reduceMul, Nat.reduceLeDiff]
      exact ⟨h, take_step (by simpa using h) (by simpa using hB) hI (by simpa using he)⟩
    · simp only [he, decide_false, SE, TF, KD, GE, eq_self, ne_eq, implies_true, forall_const, if_true, if_false, cond_true, cond_false, forall_eq, List.replicate, ↓reduceIte, Nat.reduceEqDiff, Nat.reduceLT, Nat.reduceAdd, Nat.reduceSub, Nat.reduceMul, Nat.reduceLeDiff]
      rw [decide_eq_false]; intro e
      have := congrArg (fun l => l[i]?) e
      simp [h, hB] at this
      exact he this
  · simp only [SE, TF, KD, GE, eq_self, ne_eq, implies_true, forall_const, if_true, if_false, cond_true, cond_false, forall_eq, List.replicate, ↓reduceIte, Nat.reduceEqDiff, Nat.reduceLT, Nat.reduceAdd, Nat.reduceSub, Nat.reduceMul, Nat.reduceLeDiff, eRowS, dec_ge h]
    rw [decide_eq_true (take_end (by simpa using h) (by simpa using hab) hI)]

theorem sameRow_c (a b : List (List Nat)) : FnP Try.prog 61 [eRowS a, eRowS b] (.d (eB (decide (a.map List.length = b.map List.length)))) [] := by
  refine FnP.of_eC (own := []) (fun _ => []) mixed Try.func61 rfl Try.call61 Try.ntmps61 (Nat.le_of_ble_eq_true rfl) Try.results61 (fun hok => ?_)
  simp only [SE, TF, KD, GE, eq_self, ne_eq, implies_true, forall_const, if_true, if_false, cond_true, cond_false, forall_eq, List.replicate, ↓reduceIte, Nat.reduceEqDiff, Nat.reduceLT, Nat.reduceAdd, Nat.reduceSub, Nat.reduceMul, Nat.reduceLeDiff, eRowS]
  refine EFn.p ?_
  simp only [SE, TF, KD, GE, eq_self, ne_eq, implies_true, forall_const, if_true, if_false, cond_true, cond_false, forall_eq, List.replicate, ↓reduceIte, Nat.reduceEqDiff, Nat.reduceLT, Nat.reduceAdd, Nat.reduceSub, Nat.reduceMul, Nat.reduceLeDiff, ECall]
  refine ⟨_, equalRow_c _ _, ?_⟩
  simp only [SE, TF, KD, GE, eq_self, ne_eq, implies_true, forall_const, if_true, if_false, cond_true, cond_false, forall_eq, List.replicate, ↓reduceIte, Nat.reduceEqDiff, Nat.reduceLT, Nat.reduceAdd, Nat.reduceSub, Nat.reduceMul, Nat.reduceLeDiff]

theorem equalSet_c (A B : Frames) : FnP Try.prog 60 [eSet A, eSet B, .clo (.func 61) [] []] (.d (eB (decide (shape A = shape B)))) [] := by
  refine FnP.of_eC (own := []) (fun _ => []) mixed Try.func60 rfl Try.call60 Try.ntmps60 (Nat.le_of_ble_eq_true rfl) Try.results60 (fun hok => ?_)
  obtain ⟨hl, _⟩ := ok_map (okL_cons hok).1
  simp only [SE, TF, KD, GE, eq_self, ne_eq, implies_true, forall_const, if_true, if_false, cond_true, cond_false, forall_eq, List.replicate, ↓reduceIte, Nat.reduceEqDiff, Nat.reduceLT, Nat.reduceAdd, Nat.reduceSub, Nat.reduceMul, Nat.reduceLeDiff, natCast_bne]
  refine iteI (fun h => ?_) (fun h1 => ?_)
  · rw [decide_eq_false]; intro e; simp [shape_len e] at h
  have hab : A.length = B.length := by simpa using h1
  refine eloop (fun _ => []) mixed A.length (fun i => (shape A).take i = (shape B).take i) (fun i => ([(1, .d (eSet B)), (2, .d (.clo (.func 61) [] [])), (15, .d (eSet A)), (16, .d (eI A.length)), (17, .d (eI i))], [])) ?_ ?_ ?_ (fun i hi hI => ?_)
  · simp
  · simp only [SE, TF, KD, GE, eq_self, ne_eq, implies_true, forall_const, if_true, if_false, cond_true, cond_false, forall_eq, List.replicate, ↓reduceIte, Nat.reduceEqDiff, Nat.reduceLT, Nat.reduceAdd, Nat.reduceSub, Nat.reduceMul, Nat.reduceLeDiff]
  · simp only [SE, TF, KD, GE, eq_self, ne_eq, implies_true, forall_const, if_true, if_false, cond_true, cond_false, forall_eq, List.replicate, ↓reduceIte, Nat.reduceEqDiff, Nat.reduceLT, Nat.reduceAdd, Nat.reduceSub, Nat.reduceMul, Nat.reduceLeDiff]
  rcases Nat.lt_or_ge i A.length with h | h
  · have hB : i < B.length := by omega
    have hw := wrap_succ (show i < 9223372036854775807 by omega)
    simp only [SE, TF, KD, GE, eq_self, ne_eq, implies_true, forall_const, if_true, if_false, cond_true, cond_false, forall_eq, List.replicate, ↓reduceIte, Nat.reduceEqDiff, Nat.reduceLT, Nat.reduceAdd, Nat.reduceSub, Nat.reduceMul, Nat.reduceLeDiff, dec_lt h, getD_map h, getD_map hB, lt_int h, lt_int hB]
    refine EFn.p ?_
    simp only [SE, TF, KD, GE, eq_self, ne_eq, implies_true, forall_const, if_true, if_false, cond_true, cond_false, forall_eq, List.replicate, ↓reduceIte, Nat.reduceEqDiff, Nat.reduceLT, Nat.reduceAdd, Nat.reduceSub, Nat.reduceMul, Nat.reduceLeDiff, ECall]
    refine ⟨_, sameRow_c _ _, ?_⟩
    simp only [SE, TF, KD, GE, eq_self, ne_eq, implies_true, forall_const, if_true, if_false, cond_true, cond_false, forall_eq, List.replicate, ↓reduceIte, Nat.reduceEqDiff, Nat.reduceLT, Nat.reduceAdd, Nat.reduceSub, Nat.reduceMul, Nat.reduceLeDiff, hw]
    by_cases he : A[i].map List.length = B[i].map List.length
    · simp only [he, decide_true, SE, TF, KD, GE, eq_self, ne_eq, implies_true, forall_const, if_true, if_false, cond_true, cond_false, forall_eq, List.replicate, ↓reduceIte, Nat.reduceEqDiff, Nat.reduceLT, Nat.reduceAdd, Nat.reduceSub, Nat.reduceMul, Nat.reduceLeDiff]
      exact ⟨h, take_step (by simpa [shape] using h) (by simpa [shape] using hB) hI (by simpa [shape] using he)⟩
    · simp only [he, decide_false, SE, TF, KD, GE, eq_self, ne_eq, implies_true, forall_const, if_true, if_false, cond_true, cond_false, forall_eq, List.replicate, ↓reduceIte, Nat.reduceEqDiff, Nat.reduceLT, Nat.reduceAdd, Nat.reduceSub, Nat.reduceMul, Nat.reduceLeDiff]
      rw [decide_eq_false]; intro e
      exact he (shape_row e h hB)
  · simp only [SE, TF, KD, GE, eq_self, ne_eq, implies_true, forall_const, if_true, if_false, cond_true, cond_false, forall_eq, List.replicate, ↓reduceIte, Nat.reduceEqDiff, Nat.reduceLT, Nat.reduceAdd, Nat.reduceSub, Nat.reduceMul, Nat.reduceLeDiff, dec_ge h]
    rw [decide_eq_true (take_end (by simpa [shape] using h) (by simpa [shape] using hab) hI)]

theorem sameShape_c (A B : Frames) : FnP Try.prog 48 [eSet A, eSet B] (.d (eB (decide (shape A = shape B)))) [] := by
  refine FnP.of_eC (own := []) (fun _ => []) mixed Try.func48 rfl Try.call48 Try.ntmps48 (Nat.le_of_ble_eq_true rfl) Try.results48 (fun hok => ?_)
  simp only [SE, TF, KD, GE, eq_self, ne_eq, implies_true, forall_const, if_true, if_false, cond_true, cond_false, forall_eq, List.replicate, ↓reduceIte, Nat.reduceEqDiff, Nat.reduceLT, Nat.reduceAdd, Nat.reduceSub, Nat.reduceMul, Nat.reduceLeDiff]
  refine EFn.p ?_
  simp only [SE, TF, KD, GE, eq_self, ne_eq, implies_true, forall_const, if_true, if_false, cond_true, cond_false, forall_eq, List.replicate, ↓reduceIte, Nat.reduceEqDiff, Nat.reduceLT, Nat.reduceAdd, Nat.reduceSub, Nat.reduceMul, Nat.reduceLeDiff, ECall]
  refine ⟨_, equalSet_c _ _, ?_⟩
  simp only [SE, TF, KD, GE, eq_self, ne_eq, implies_true, forall_const, if_true, if_false, cond_true, cond_false, forall_eq, List.replicate, ↓reduceIte, Nat.reduceEqDiff, Nat.reduceLT, Nat.reduceAdd, Nat.reduceSub, Nat.reduceMul, Nat.reduceLeDiff]

/-! ### The words of a set -/
def wordsF (i j : Nat) (ws : List Nat) : List (Pos × Nat) := ws.zipIdx.map fun p => (⟨i, j, p.2⟩, p.1)
def wordsR (i : Nat) (r : List (List Nat)) : List (Pos × Nat) := r.zipIdx.flatMap fun p => wordsF i p.2 p.1
def wordsA (A : Frames) : List (Pos × Nat) := A.zipIdx.flatMap fun p => wordsR p.2 p.1
def eW (p : Pos × Nat) : List D := [.agg (ePos p.1), eU p.2]
theorem wordsF_step (i j : Nat) (ws : List Nat) (k : Nat) (h : k < ws.length) : wordsF i j (ws.take (k + 1)) = wordsF i j (ws.take k) ++ [(⟨i, j, k⟩, ws[k])] := by
  simp only [wordsF, List.take_succ_eq_append_getElem h, List.zipIdx_append, List.map_append]
  simp [Nat.min_eq_left (Nat.le_of_lt h)]
theorem wordsR_step (i : Nat) (r : List (List Nat)) (j : Nat) (h : j < r.length) : wordsR i (r.take (j + 1)) = wordsR i (r.take j) ++ wordsF i j r[j] := by
  simp only [wordsR, List.take_succ_eq_append_getElem h, List.zipIdx_append, List.flatMap_append]
  simp [Nat.min_eq_left (Nat.le_of_lt h)]
theorem wordsA_step (A : Frames) (i : Nat) (h : i < A.length) : wordsA (A.take (i + 1)) = wordsA (A.take i) ++ wordsR i A[i] := by
  simp only [wordsA, List.take_succ_eq_append_getElem h, List.zipIdx_append, List.flatMap_append]
  simp [Nat.min_eq_left (Nat.le_of_lt h)]
theorem wordsF_pre (i j : Nat) (ws : List Nat) (k : Nat) : wordsF i j (ws.take k) <+: wordsF i j ws := by
  conv => rhs; rw [← List.take_append_drop k ws]
  simp only [wordsF, List.zipIdx_append, List.map_append]
  exact List.prefix_append _ _
theorem wordsR_pre (i : Nat) (r : List (List Nat)) (j : Nat) : wordsR i (r.take j) <+: wordsR i r := by
  conv => rhs; rw [← List.take_append_drop j r]
  simp only [wordsR, List.zipIdx_append, List.flatMap_append]
  exact List.prefix_append _ _
theorem wordsA_pre (A : Frames) (i : Nat) : wordsA (A.take i) <+: wordsA A := by
  conv => rhs; rw [← List.take_append_drop i A]
  simp only [wordsA, List.zipIdx_append, List.flatMap_append]
  exact List.prefix_append _ _
def wordsTo (A : Frames) (i j k : Nat) : List (Pos × Nat) := wordsA (A.take i) ++ (wordsR i ((A.getD i []).take j) ++ wordsF i j (((A.getD i []).getD j []).take k))
theorem wordsTo_pre (A : Frames) (i j k : Nat) (h : i < A.length) (h' : j < A[i].length) : wordsTo A i j k <+: wordsA A := by
  have hA : A.getD i [] = A[i] := by simp [List.getD, h]
  have hB : A[i].getD j [] = A[i][j] := by simp [List.getD, h']
  refine List.IsPrefix.trans ?_ (wordsA_pre A (i + 1))
  rw [wordsA_step A i h, wordsTo, hA, hB]
  refine (List.prefix_append_right_inj _).2 (List.IsPrefix.trans ?_ (wordsR_pre i A[i] (j + 1)))
  rw [wordsR_step i A[i] j h']
  exact (List.prefix_append_right_inj _).2 (wordsF_pre _ _ _ _)
theorem words_it (A : Frames) (hok : (eSet A).ok) : IterP Try.prog 64 [.ptr [eSet A]] (fun pre => pre <+: (wordsA A).map eW) (fun xs => xs = (wordsA A).map eW) := by
  intro lim fam stop l hY
  obtain ⟨hl, hl2⟩ := ok_map hok
  have := FnL.of_eC (P := Try.prog) (args := [.yv 0, .d (.ptr [eSet A])]) (os := [(0, .ext lim fam stop l [])]) (PL := fun _ ol new => (∃ xs, xs = (wordsA A).map eW ∧ ol = [(0, .ext lim fam stop l xs)] ∧ new = []) ∨ (ol = [(0, .ext lim (fun _ => stop) stop l [])] ∧ new = [])) (own := []) (fun _ => []) [0] mixed Try.func64 rfl Try.call64 Try.ntmps64 (Nat.le_of_ble_eq_true rfl) Try.results64 ?_
  · refine this.mono ?_
    rintro V Oo new ⟨ol, rfl, ⟨xs, h1, rfl, h2⟩ | ⟨rfl, h2⟩⟩
    · exact .inl ⟨xs, h1, rfl, h2⟩
    · exact .inr ⟨rfl, h2⟩
  simp only [SE, TF, KD, GE, eq_self, ne_eq, implies_true, forall_const, if_true, if_false, cond_true, cond_false, forall_eq, List.replicate, ↓reduceIte, Nat.reduceEqDiff, Nat.reduceLT, Nat.reduceAdd, Nat.reduceSub, Nat.reduceMul, Nat.reduceLeDiff]
  refine eloop (fun _ => []) mixed A.length (fun i => True) (fun i => ([(0, .yv 0), (9, .d (eSet A)), (10, .d (eI A.length)), (11, .d (eI i))], [(0, .ext lim fam stop l ((wordsA (A.take i)).map eW))])) ?_ ?_ ?_ (fun i hi hI => ?_)
  · trivial
  · simp [SE, TF, KD, GE, eq_self, ne_eq, implies_true, forall_const, if_true, if_false, cond_true, cond_false, forall_eq, List.replicate, ↓reduceIte, Nat.reduceEqDiff, Nat.reduceLT, Nat.reduceAdd, Nat.reduceSub, Nat.reduceMul, Nat.reduceLeDiff]
  · simp [SE, TF, KD, GE, eq_self, ne_eq, implies_true, forall_const, if_true, if_false, cond_true, cond_false, forall_eq, List.replicate, ↓reduceIte, Nat.reduceEqDiff, Nat.reduceLT, Nat.reduceAdd, Nat.reduceSub, Nat.reduceMul, Nat.reduceLeDiff, wordsA]
  rcases Nat.lt_or_ge i A.length with h | h
  · have hw := wrap_succ (show i < 9223372036854775807 by omega)
    have hA : A.getD i [] = A[i] := by simp [List.getD, h]
    obtain ⟨hl3, hl4⟩ := ok_map (okL_cons (hl2 A[i] (by simp))).1
    simp only [SE, TF, KD, GE, eq_self, ne_eq, implies_true, forall_const, if_true, if_false, cond_true, cond_false, forall_eq, List.replicate, ↓reduceIte, Nat.reduceEqDiff, Nat.reduceLT, Nat.reduceAdd, Nat.reduceSub, Nat.reduceMul, Nat.reduceLeDiff, dec_lt h, getD_map h, lt_int h]
    refine eloop (fun _ => []) mixed A[i].length (fun j => True) (fun j => ([(0, .yv 0), (3, .d (eI i)), (9, .d (eSet A)), (10, .d (eI A.length)), (11, .d (eI i)), (16, .d (eRowS A[i])), (17, .d (eI A[i].length)), (18, .d (eI j))], [(0, .ext lim fam stop l ((wordsA (A.take i) ++ wordsR i (A[i].take j)).map eW))])) ?_ ?_ ?_ (fun j hj hJ => ?_)
    · trivial
    · simp only [SE, TF, KD, GE, eq_self, ne_eq, implies_true, forall_const, if_true, if_false, cond_true, cond_false, forall_eq, List.replicate, ↓reduceIte, Nat.reduceEqDiff, Nat.reduceLT, Nat.reduceAdd, Nat.reduceSub, Nat.reduceMul, Nat.reduceLeDiff, eRowS]
    · simp only [SE, TF, KD, GE, eq_self, ne_eq, implies_true, forall_const, if_true, if_false, cond_true, cond_false, forall_eq, List.replicate, ↓reduceIte, Nat.reduceEqDiff, Nat.reduceLT, Nat.reduceAdd, Nat.reduceSub, Nat.reduceMul, Nat.reduceLeDiff, wordsR, List.take_zero, List.zipIdx_nil, List.flatMap_nil, List.append_nil]
    rcases Nat.lt_or_ge j A[i].length with h' | h'
    · have hw' := wrap_succ (show j < 9223372036854775807 by omega)
      have hB : A[i].getD j [] = A[i][j] := by simp [List.getD, h']
      have hl5 := (ok_len (okL_cons (hl4 A[i][j] (by simp))).1)
      simp only [List.length_map] at hl5
      simp only [SE, TF, KD, GE, eq_self, ne_eq, implies_true, forall_const, if_true, if_false, cond_true, cond_false, forall_eq, List.replicate, ↓reduceIte, Nat.reduceEqDiff, Nat.reduceLT, Nat.reduceAdd, Nat.reduceSub, Nat.reduceMul, Nat.reduceLeDiff, eRowS, dec_lt h', getD_map h', lt_int h']
      refine eloop (fun _ => []) mixed A[i][j].length (fun k => True) (fun k => ([(0, .yv 0), (3, .d (eI i)), (5, .d (eI j)), (9, .d (eSet A)), (10, .d (eI A.length)), (11, .d (eI i)), (16, .d (eRowS A[i])), (17, .d (eI A[i].length)), (18, .d (eI j)), (24, .d (eWords A[i][j])), (25, .d (eI A[i][j].length)), (26, .d (eI k))], [(0, .ext lim fam stop l ((wordsTo A i j k).map eW))])) ?_ ?_ ?_ (fun k hk hK => ?_)
      · trivial
      · simp only [SE, TF, KD, GE, eq_self, ne_eq, implies_true, forall_const, if_true, if_false, cond_true, cond_false, forall_eq, List.replicate, ↓reduceIte, Nat.reduceEqDiff, Nat.reduceLT, Nat.reduceAdd, Nat.reduceSub, Nat.reduceMul, Nat.reduceLeDiff, eRowS]
      · simp only [SE, TF, KD, GE, eq_self, ne_eq, implies_true, forall_const, if_true, if_false, cond_true, cond_false, forall_eq, List.replicate, ↓reduceIte, Nat.reduceEqDiff, Nat.reduceLT, Nat.reduceAdd, Nat.reduceSub, Nat.reduceMul, Nat.reduceLeDiff, wordsTo, hA, wordsF, List.take_zero, List.zipIdx_nil, List.map_nil, List.append_nil]
      rcases Nat.lt_or_ge k A[i][j].length with h'' | h''
      · have hw'' := wrap_succ (show k < 9223372036854775807 by omega)
        have hs : wordsTo A i j (k + 1) = wordsTo A i j k ++ [(⟨i, j, k⟩, A[i][j][k])] := by
          simp only [wordsTo, hA, hB, wordsF_step i j A[i][j] k h'', List.append_assoc]
        simp only [SE, TF, KD, GE, eq_self, ne_eq, implies_true, forall_const, if_true, if_false, cond_true, cond_false, forall_eq, List.replicate, ↓reduceIte, Nat.reduceEqDiff, Nat.reduceLT, Nat.reduceAdd, Nat.reduceSub, Nat.reduceMul, Nat.reduceLeDiff, dec_lt h'', getD_map h'', lt_int h'']
        refine ⟨_, hY, ?_, ?_, ?_⟩
        · have := (wordsTo_pre A i j (k + 1) h h').map eW
          rw [hs, List.map_append] at this
          exact this
        · simp only [SE, TF, KD, GE, eq_self, ne_eq, implies_true, forall_const, if_true, if_false, cond_true, cond_false, forall_eq, List.replicate, ↓reduceIte, Nat.reduceEqDiff, Nat.reduceLT, Nat.reduceAdd, Nat.reduceSub, Nat.reduceMul, Nat.reduceLeDiff, hw'', hs, List.map_append, List.map_cons, List.map_nil, eW]
          exact h''
        · simp only [SE, TF, KD, GE, eq_self, ne_eq, implies_true, forall_const, if_true, if_false, cond_true, cond_false, forall_eq, List.replicate, ↓reduceIte, Nat.reduceEqDiff, Nat.reduceLT, Nat.reduceAdd, Nat.reduceSub, Nat.reduceMul, Nat.reduceLeDiff]
          refine ⟨[], [], ?_⟩
          simp only [SE, TF, KD, GE, eq_self, ne_eq, implies_true, forall_const, if_true, if_false, cond_true, cond_false, forall_eq, List.replicate, ↓reduceIte, Nat.reduceEqDiff, Nat.reduceLT, Nat.reduceAdd, Nat.reduceSub, Nat.reduceMul, Nat.reduceLeDiff]
      · have : k = A[i][j].length := by omega
        subst this
        simp only [SE, TF, KD, GE, eq_self, ne_eq, implies_true, forall_const, if_true, if_false, cond_true, cond_false, forall_eq, List.replicate, ↓reduceIte, Nat.reduceEqDiff, Nat.reduceLT, Nat.reduceAdd, Nat.reduceSub, Nat.reduceMul, Nat.reduceLeDiff, dec_ge h'', hw', wordsTo, hA, hB, List.take_length, wordsR_step i A[i] j h', List.append_assoc, eRowS]
        exact h'
    · have : j = A[i].length := by omega
      subst this
      simp only [SE, TF, KD, GE, eq_self, ne_eq, implies_true, forall_const, if_true, if_false, cond_true, cond_false, forall_eq, List.replicate, ↓reduceIte, Nat.reduceEqDiff, Nat.reduceLT, Nat.reduceAdd, Nat.reduceSub, Nat.reduceMul, Nat.reduceLeDiff, dec_ge h', hw, List.take_length, wordsA_step A i h]
      exact h
  · have : i = A.length := by omega
    subst this
    simp only [SE, TF, KD, GE, eq_self, ne_eq, implies_true, forall_const, if_true, if_false, cond_true, cond_false, forall_eq, List.replicate, ↓reduceIte, Nat.reduceEqDiff, Nat.reduceLT, Nat.reduceAdd, Nat.reduceSub, Nat.reduceMul, Nat.reduceLeDiff, dec_ge h]
    refine ⟨[], [], ?_⟩
    simp only [SE, TF, KD, GE, eq_self, ne_eq, implies_true, forall_const, if_true, if_false, cond_true, cond_false, forall_eq, List.replicate, ↓reduceIte, Nat.reduceEqDiff, Nat.reduceLT, Nat.reduceAdd, Nat.reduceSub, Nat.reduceMul, Nat.reduceLeDiff]
    exact .inl ⟨_, rfl, by rw [List.take_length]⟩

theorem words_fc (A : Frames) : FnP Try.prog 49 [eSet A] (.d (.clo (.func 64) [] [.ptr [eSet A]])) [] := by
  refine FnP.of_eC (own := []) (fun _ => []) mixed Try.func49 rfl Try.call49 Try.ntmps49 (Nat.le_of_ble_eq_true rfl) Try.results49 (fun hok => ?_)
  simp only [SE, TF, KD, GE, eq_self, ne_eq, implies_true, forall_const, if_true, if_false, cond_true, cond_false, forall_eq, List.replicate, ↓reduceIte, Nat.reduceEqDiff, Nat.reduceLT, Nat.reduceAdd, Nat.reduceSub, Nat.reduceMul, Nat.reduceLeDiff]
end Go.Proofs.Ytcamhcnjomddbaa

/-
  CONTRACTS: package delta's differences.
-/
namespace Go.Proofs.Ytcamhcnjomddbaa
open Go.Aw
set_option maxRecDepth 100000
set_option maxHeartbeats 1000000
def xorN (a b : Nat) : Nat := (xorU a b).toNat
theorem wrap_u_nonneg (x : Int) : 0 ≤ IntKind.u64.wrap x := by
  simp only [IntKind.wrap, IntKind.bits, IntKind.signed]
  simp
  omega
theorem xorU_N (a b : Nat) : xorU a b = (xorN a b : Int) := by
  have : 0 ≤ xorU a b := wrap_u_nonneg _
  unfold xorN
  omega
def wordAt (A : Frames) (p : Pos) : Nat := ((A.getD p.p.toNat []).getD p.f.toNat []).getD p.w.toNat 0
def diff1 (now : Frames) (q : Pos × Nat) : Option Patch := if xorN q.2 (wordAt now q.1) = 0 then none else some ⟨q.1.p, q.1.f, q.1.w, xorN q.2 (wordAt now q.1)⟩
def diffL (now : Frames) (l : List (Pos × Nat)) : List Patch := l.filterMap (diff1 now)
def diffR (old now : Frames) : List Patch × Int := if shape old = shape now then (diffL now (wordsA old), 0) else ([], 490)
theorem diffL_le (now : Frames) (l : List (Pos × Nat)) : (diffL now l).length ≤ l.length := List.length_filterMap_le _ _

theorem wordsF_mem {i j : Nat} {ws : List Nat} {q : Pos × Nat} (h : q ∈ wordsF i j ws) : ∃ k, ∃ h : k < ws.length, q = (⟨i, j, k⟩, ws[k]) := by
  simp only [wordsF, List.mem_map, Prod.exists, List.mk_mem_zipIdx_iff_getElem?] at h
  obtain ⟨w, k, h1, rfl⟩ := h
  obtain ⟨h2, h3⟩ := List.getElem?_eq_some_iff.1 h1
  exact ⟨k, h2, by rw [h3]⟩
theorem wordsR_mem {i : Nat} {r : List (List Nat)} {q : Pos × Nat} (h : q ∈ wordsR i r) : ∃ j k, ∃ h : j < r.length, ∃ h' : k < r[j].length, q = (⟨i, j, k⟩, r[j][k]) := by
  simp only [wordsR, List.mem_flatMap, Prod.exists, List.mk_mem_zipIdx_iff_getElem?] at h
  obtain ⟨ws, j, h1, h2⟩ := h
  obtain ⟨h3, rfl⟩ := List.getElem?_eq_some_iff.1 h1
  obtain ⟨k, h4, rfl⟩ := wordsF_mem h2
  exact ⟨j, k, h3, h4, rfl⟩
theorem wordsA_mem {A : Frames} {q : Pos × Nat} (h : q ∈ wordsA A) : ∃ i j k, ∃ h : i < A.length, ∃ h' : j < A[i].length, ∃ h'' : k < A[i][j].length, q = (⟨i, j, k⟩, A[i][j][k]) := by
  simp only [wordsA, List.mem_flatMap, Prod.exists, List.mk_mem_zipIdx_iff_getElem?] at h
  obtain ⟨r, i, h1, h2⟩ := h
  obtain ⟨h3, rfl⟩ := List.getElem?_eq_some_iff.1 h1
  obtain ⟨j, k, h4, h5, rfl⟩ := wordsR_mem h2
  exact ⟨i, j, k, h3, h4, h5, rfl⟩
/-- Sets of one shape have their words at the same places. -/
theorem shape_in {A B : Frames} (h : shape A = shape B) {i j k : Nat} (h1 : i < A.length) (h2 : j < A[i].length) (h3 : k < A[i][j].length) : ∃ g1 : i < B.length, ∃ g2 : j < B[i].length, k < B[i][j].length := by
  have g1 : i < B.length := by rw [← shape_len h]; exact h1
  have e1 := shape_row h h1 g1
  have g2 : j < B[i].length := by have := congrArg List.length e1; simp only [List.length_map] at this; omega
  refine ⟨g1, g2, ?_⟩
  have := congrArg (fun l => l[j]?) e1
  simp only [List.getElem?_map, h2, g2, List.getElem?_eq_getElem, Option.map_some, Option.some.injEq] at this
  omega
/-- What comes next of a list whose first part has come. -/
theorem pre_next {α : Type} {f : α → List D} {l : List α} {pre : List (List D)} {x : List D} (h : pre ++ [x] <+: l.map f) : ∃ hn : pre.length < l.length, x = f l[pre.length] ∧ l.take (pre ++ [x]).length = l.take pre.length ++ [l[pre.length]] := by
  have hl := h.length_le
  simp only [List.length_append, List.length_cons, List.length_nil, List.length_map] at hl
  have hn : pre.length < l.length := by omega
  refine ⟨hn, ?_, ?_⟩
  · have := h.getElem (i := pre.length) (by simp)
    simpa using this
  · rw [List.length_append, List.length_singleton, List.take_succ_eq_append_getElem hn]

theorem diff_c (old now : Frames) (hn : (wordsA old).length ≤ 2000000) : FnP Try.prog 37 [eSet old, eSet now] (.tup [.d (ePatches (diffR old now).1), .d (eI (diffR old now).2)]) [] := by
  refine FnP.of_eC (own := []) (fun id => if id = 3 then [.adB 6 0 90 65 4] else []) mixed Try.func37 rfl Try.call37 Try.ntmps37 (Nat.le_of_ble_eq_true rfl) Try.results37 (fun hok => ?_)
  have hok1 := (okL_cons hok).1
  simp only [SE, TF, KD, GE, eq_self, ne_eq, implies_true, forall_const, if_true, if_false, cond_true, cond_false, forall_eq, List.replicate, ↓reduceIte, Nat.reduceEqDiff, Nat.reduceLT, Nat.reduceAdd, Nat.reduceSub, Nat.reduceMul, Nat.reduceLeDiff]
  refine EFn.p ?_
  simp only [SE, TF, KD, GE, eq_self, ne_eq, implies_true, forall_const, if_true, if_false, cond_true, cond_false, forall_eq, List.replicate, ↓reduceIte, Nat.reduceEqDiff, Nat.reduceLT, Nat.reduceAdd, Nat.reduceSub, Nat.reduceMul, Nat.reduceLeDiff, ECall]
  refine ⟨_, sameShape_c _ _, ?_⟩
  by_cases hs : shape old = shape now
  · simp only [SE, TF, KD, GE, eq_self, ne_eq, implies_true, forall_const, if_true, if_false, cond_true, cond_false, forall_eq, List.replicate, ↓reduceIte, Nat.reduceEqDiff, Nat.reduceLT, Nat.reduceAdd, Nat.reduceSub, Nat.reduceMul, Nat.reduceLeDiff, hs, decide_true]
    refine EFn.p ?_
    simp only [SE, TF, KD, GE, eq_self, ne_eq, implies_true, forall_const, if_true, if_false, cond_true, cond_false, forall_eq, List.replicate, ↓reduceIte, Nat.reduceEqDiff, Nat.reduceLT, Nat.reduceAdd, Nat.reduceSub, Nat.reduceMul, Nat.reduceLeDiff, ECall]
    refine ⟨_, words_fc _, ?_⟩
    simp only [SE, TF, KD, GE, eq_self, ne_eq, implies_true, forall_const, if_true, if_false, cond_true, cond_false, forall_eq, List.replicate, ↓reduceIte, Nat.reduceEqDiff, Nat.reduceLT, Nat.reduceAdd, Nat.reduceSub, Nat.reduceMul, Nat.reduceLeDiff]
    refine erange mixed (fun _ => []) rfl (by simp only [SE, TF, KD, GE, eq_self, ne_eq, implies_true, forall_const, if_true, if_false, cond_true, cond_false, forall_eq, List.replicate, ↓reduceIte, Nat.reduceEqDiff, Nat.reduceLT, Nat.reduceAdd, Nat.reduceSub, Nat.reduceMul, Nat.reduceLeDiff]) (words_it old hok1) (fun pre => [(3, .box [.d (eSet now)]), (6, .box [.ar 90 (diffL now ((wordsA old).take pre.length)).length]), (90, .arr 65 4 .flat ((diffL now ((wordsA old).take pre.length)).map ePatch))]) ?_ ?_ ?_ ?_ ?_
    · simp only [SE, TF, KD, GE, eq_self, ne_eq, implies_true, forall_const, if_true, if_false, cond_true, cond_false, forall_eq, List.replicate, ↓reduceIte, Nat.reduceEqDiff, Nat.reduceLT, Nat.reduceAdd, Nat.reduceSub, Nat.reduceMul, Nat.reduceLeDiff, List.length_nil, List.take_zero, diffL, List.filterMap_nil, List.map_nil]
    · intro pre; simp [noExtL, isExt]
    · simp only [SE, TF, KD, GE, eq_self, ne_eq, implies_true, forall_const, if_true, if_false, cond_true, cond_false, forall_eq, List.replicate, ↓reduceIte, Nat.reduceEqDiff, Nat.reduceLT, Nat.reduceAdd, Nat.reduceSub, Nat.reduceMul, Nat.reduceLeDiff, psOk, keysT]
    · intro pre x hA
      obtain ⟨hlt, hx, htk⟩ := pre_next hA
      obtain ⟨i, j, k, h1, h2, h3, hq⟩ := wordsA_mem (List.getElem_mem hlt)
      obtain ⟨g1, g2, g3⟩ := shape_in hs h1 h2 h3
      have hlen := diffL_le now ((wordsA old).take pre.length)
      have hd : diffL now ((wordsA old).take (pre ++ [x]).length) = diffL now ((wordsA old).take pre.length) ++ (diff1 now (wordsA old)[pre.length]).toList := by
        rw [htk, diffL, diffL, List.filterMap_append]; simp [List.filterMap_cons]; split <;> simp_all
      subst hx
      rw [hd, hq]
      have hw : wordAt now ⟨i, j, k⟩ = now[i][j][k] := by simp [wordAt, List.getD, g1, g2, g3]
      have hn' : (diffL now ((wordsA old).take pre.length)).length ≤ 2000000 := by simp only [List.length_take] at hlen; omega
      have hxor := xorU_N old[i][j][k] now[i][j][k]
      unfold xorU at hxor
      by_cases hz : xorN old[i][j][k] now[i][j][k] = 0
      · have hz' : (((xorN old[i][j][k] now[i][j][k] : Nat) : Int) != 0) = false := by simp [hz]
        simp only [eW, SE, TF, KD, GE, eq_self, ne_eq, implies_true, forall_const, if_true, if_false, cond_true, cond_false, forall_eq, List.replicate, ↓reduceIte, Nat.reduceEqDiff, Nat.reduceLT, Nat.reduceAdd, Nat.reduceSub, Nat.reduceMul, Nat.reduceLeDiff, lt_int g1, getD_map g1, lt_int g2, getD_map g2, lt_int g3, getD_map g3, hxor, hz', zipL, roundE, diff1, hw, hz, noExtL, isExt, bodyE, keysT]
        exact ⟨by kernel_rfl, by simp, by simp⟩
      · have hz' : (((xorN old[i][j][k] now[i][j][k] : Nat) : Int) != 0) = true := by simp [hz]
        simp only [eW, SE, TF, KD, GE, eq_self, ne_eq, implies_true, forall_const, if_true, if_false, cond_true, cond_false, forall_eq, List.replicate, ↓reduceIte, Nat.reduceEqDiff, Nat.reduceLT, Nat.reduceAdd, Nat.reduceSub, Nat.reduceMul, Nat.reduceLeDiff, lt_int g1, getD_map g1, lt_int g2, getD_map g2, lt_int g3, getD_map g3, hxor, hz', zipL, roundE, diff1, hw, hz, noExtL, isExt, bodyE, keysT]
        exact ⟨by kernel_rfl, ⟨by omega, by omega⟩, by simp, by simp, by simp [ePatch, eI, eU]⟩
    · rintro xs rfl
      simp only [List.length_map, List.take_length, SE, TF, KD, GE, eq_self, ne_eq, implies_true, forall_const, if_true, if_false, cond_true, cond_false, forall_eq, List.replicate, ↓reduceIte, Nat.reduceEqDiff, Nat.reduceLT, Nat.reduceAdd, Nat.reduceSub, Nat.reduceMul, Nat.reduceLeDiff, diffR, hs]
  · simp only [SE, TF, KD, GE, eq_self, ne_eq, implies_true, forall_const, if_true, if_false, cond_true, cond_false, forall_eq, List.replicate, ↓reduceIte, Nat.reduceEqDiff, Nat.reduceLT, Nat.reduceAdd, Nat.reduceSub, Nat.reduceMul, Nat.reduceLeDiff, hs, decide_false, diffR]
end Go.Proofs.Ytcamhcnjomddbaa

/-
  CONTRACTS: digests and stale frames of the reference.
-/
namespace Go.Proofs.Ytcamhcnjomddbaa
open Go.Aw
set_option maxRecDepth 100000
def digests (A : Frames) : List (List Int) := A.map (·.map digI)
/-- Lists of at most so many elements, so many words. -/
def small (A : Frames) : Prop := A.length ≤ 2000000 ∧ ∀ r ∈ A, r.length ≤ 2000000 ∧ ∀ ws ∈ r, ws.length ≤ 2000000

theorem rdigests_c (A : Frames) (hs : small A) : FnP Try.prog 27 [eSet A] (.d (eDig (digests A))) [] := by
  refine FnP.of_eC (own := []) (fun id => if id = 5 then [.keep [0, 3, 4, 5, 6]] else []) mixed Try.func27 rfl Try.call27 Try.ntmps27 (Nat.le_of_ble_eq_true rfl) Try.results27 (fun hok => ?_)
  obtain ⟨hs1, hs2⟩ := hs
  simp only [SE, TF, KD, GE, eq_self, ne_eq, implies_true, forall_const, if_true, if_false, cond_true, cond_false, forall_eq, List.replicate, ↓reduceIte, Nat.reduceEqDiff, Nat.reduceLT, Nat.reduceAdd, Nat.reduceSub, Nat.reduceMul, Nat.reduceLeDiff]
  refine eloop (fun _ => []) mixed A.length (fun i => True) (fun i => ([(0, .d (eSet A)), (3, .ar 7 i), (4, .d (eI i))], [(7, .arr 23 1 .flat ((A.take i).map fun r => [.sl ((r.map digI).map fun x => [eUI x])]))])) ?_ ?_ ?_ (fun i hi hI => ?_)
  · trivial
  · simp [SE, TF, KD, GE, eq_self, ne_eq, implies_true, forall_const, if_true, if_false, cond_true, cond_false, forall_eq, List.replicate, ↓reduceIte, Nat.reduceEqDiff, Nat.reduceLT, Nat.reduceAdd, Nat.reduceSub, Nat.reduceMul, Nat.reduceLeDiff]
  · simp [SE, TF, KD, GE, eq_self, ne_eq, implies_true, forall_const, if_true, if_false, cond_true, cond_false, forall_eq, List.replicate, ↓reduceIte, Nat.reduceEqDiff, Nat.reduceLT, Nat.reduceAdd, Nat.reduceSub, Nat.reduceMul, Nat.reduceLeDiff]
  have hlen := take_len A i (by omega)
  rcases Nat.lt_or_ge i A.length with h | h
  · have hw := wrap_succ (show i < 9223372036854775807 by omega)
    obtain ⟨h2, h3⟩ := hs2 A[i] (by simp)
    simp only [SE, TF, KD, GE, eq_self, ne_eq, implies_true, forall_const, if_true, if_false, cond_true, cond_false, forall_eq, List.replicate, ↓reduceIte, Nat.reduceEqDiff, Nat.reduceLT, Nat.reduceAdd, Nat.reduceSub, Nat.reduceMul, Nat.reduceLeDiff, dec_lt h]
    refine eloop (fun _ => []) mixed A[i].length (fun j => True) (fun j => ([(0, .d (eSet A)), (3, .ar 7 i), (4, .d (eI i)), (5, .ar 14 j), (6, .d (eI j))],
      [(7, .arr 23 1 .flat ((A.take i).map fun r => [.sl ((r.map digI).map fun x => [eUI x])])), (14, .arr 63 1 .flat (((A[i].take j).map fun ws => [eUI (digI ws)])))])) ?_ ?_ ?_ (fun j hj hJ => ?_)
    · trivial
    · simp [SE, TF, KD, GE, eq_self, ne_eq, implies_true, forall_const, if_true, if_false, cond_true, cond_false, forall_eq, List.replicate, ↓reduceIte, Nat.reduceEqDiff, Nat.reduceLT, Nat.reduceAdd, Nat.reduceSub, Nat.reduceMul, Nat.reduceLeDiff]
    · simp [SE, TF, KD, GE, eq_self, ne_eq, implies_true, forall_const, if_true, if_false, cond_true, cond_false, forall_eq, List.replicate, ↓reduceIte, Nat.reduceEqDiff, Nat.reduceLT, Nat.reduceAdd, Nat.reduceSub, Nat.reduceMul, Nat.reduceLeDiff]
    have hlen' := take_len A[i] j (by omega)
    rcases Nat.lt_or_ge j A[i].length with h' | h'
    · have hw' := wrap_succ (show j < 9223372036854775807 by omega)
      simp only [SE, TF, KD, GE, eq_self, ne_eq, implies_true, forall_const, if_true, if_false, cond_true, cond_false, forall_eq, List.replicate, ↓reduceIte, Nat.reduceEqDiff, Nat.reduceLT, Nat.reduceAdd, Nat.reduceSub, Nat.reduceMul, Nat.reduceLeDiff, getD_map h, lt_int h, dec_lt h', getD_map h', lt_int h']
      refine EFn.p ?_
      simp only [SE, TF, KD, GE, eq_self, ne_eq, implies_true, forall_const, if_true, if_false, cond_true, cond_false, forall_eq, List.replicate, ↓reduceIte, Nat.reduceEqDiff, Nat.reduceLT, Nat.reduceAdd, Nat.reduceSub, Nat.reduceMul, Nat.reduceLeDiff, ECall, getD_map h, lt_int h, dec_lt h', getD_map h', lt_int h']
      refine ⟨_, rdig_c _ (h3 _ (by simp)), ?_⟩
      simp only [SE, TF, KD, GE, eq_self, ne_eq, implies_true, forall_const, if_true, if_false, cond_true, cond_false, forall_eq, List.replicate, ↓reduceIte, Nat.reduceEqDiff, Nat.reduceLT, Nat.reduceAdd, Nat.reduceSub, Nat.reduceMul, Nat.reduceLeDiff, hlen', hw', getD_map h, getD_map h']
      refine ⟨⟨by omega, by omega⟩, h', ?_⟩
      exact congrArg _ ((take_map_snoc (fun ws => [D.lit (.int .u64 (digI ws))]) A[i] j h'))
    · simp only [SE, TF, KD, GE, eq_self, ne_eq, implies_true, forall_const, if_true, if_false, cond_true, cond_false, forall_eq, List.replicate, ↓reduceIte, Nat.reduceEqDiff, Nat.reduceLT, Nat.reduceAdd, Nat.reduceSub, Nat.reduceMul, Nat.reduceLeDiff, getD_map h, lt_int h, dec_ge h', hlen, hlen', hw]
      rw [List.take_of_length_le h']
      refine ⟨⟨by omega, by omega⟩, h, ?_⟩
      have := take_map_snoc (fun r : List (List Nat) => [D.sl ((r.map digI).map fun x => [D.lit (.int .u64 x)])]) A i h
      simp only [List.map_map] at this ⊢
      exact congrArg _ this
  · simp only [SE, TF, KD, GE, eq_self, ne_eq, implies_true, forall_const, if_true, if_false, cond_true, cond_false, forall_eq, List.replicate, ↓reduceIte, Nat.reduceEqDiff, Nat.reduceLT, Nat.reduceAdd, Nat.reduceSub, Nat.reduceMul, Nat.reduceLeDiff, dec_ge h, hlen]
    rw [List.take_of_length_le h]
    simp [digests, Function.comp_def]
end Go.Proofs.Ytcamhcnjomddbaa

/-
  CONTRACTS: copies of sets.
-/
namespace Go.Proofs.Ytcamhcnjomddbaa
open Go.Aw
set_option maxRecDepth 100000
set_option maxHeartbeats 1000000
def rWords (ws : List Nat) : List (List D) := ws.map fun w => [eU w]
def rRow (r : List (List Nat)) : List (List D) := r.map eFrame
def rSet (A : Frames) : List (List D) := A.map eRow
theorem rowsOk_words (ws : List Nat) : rowsOk 1 (List.map (fun w : Nat => [D.lit (Value.int IntKind.u64 (w : Int))]) ws) := by
  intro y hy
  obtain ⟨w, _, rfl⟩ := List.mem_map.1 hy
  simp [SE, TF, KD, GE, eq_self, ne_eq, implies_true, forall_const, if_true, if_false, cond_true, cond_false, forall_eq, List.replicate, ↓reduceIte, Nat.reduceEqDiff, Nat.reduceLT, Nat.reduceAdd, Nat.reduceSub, Nat.reduceMul, Nat.reduceLeDiff]
theorem clone_c (ws : List Nat) (hb : ws.length ≤ 2000000) : FnL Try.prog 52 [.d (eWords ws)] [] (fun V ol new => V = .ar 5 ws.length ∧ ol = [(5, .arr 63 1 .flat (rWords ws))] ∧ new = [5]) := by
  refine FnL.of_eC (own := []) (fun id => if id = 2 then [.adT 2 5 63 1] else []) [] mixed Try.func52 rfl Try.call52 Try.ntmps52 (Nat.le_of_ble_eq_true rfl) Try.results52 ?_
  simp only [SE, TF, KD, GE, eq_self, ne_eq, implies_true, forall_const, if_true, if_false, cond_true, cond_false, forall_eq, List.replicate, ↓reduceIte, Nat.reduceEqDiff, Nat.reduceLT, Nat.reduceAdd, Nat.reduceSub, Nat.reduceMul, Nat.reduceLeDiff]
  refine ⟨by simp [SE, TF, KD, GE, eq_self, ne_eq, implies_true, forall_const, if_true, if_false, cond_true, cond_false, forall_eq, List.replicate, ↓reduceIte, Nat.reduceEqDiff, Nat.reduceLT, Nat.reduceAdd, Nat.reduceSub, Nat.reduceMul, Nat.reduceLeDiff], fun b hb' => ?_⟩
  cases b with
  | true =>
    have : ws = [] := by simpa using hb' rfl
    subst this
    simp only [SE, TF, KD, GE, eq_self, ne_eq, implies_true, forall_const, if_true, if_false, cond_true, cond_false, forall_eq, List.replicate, ↓reduceIte, Nat.reduceEqDiff, Nat.reduceLT, Nat.reduceAdd, Nat.reduceSub, Nat.reduceMul, Nat.reduceLeDiff, rWords]
    refine ⟨[], [5], ?_⟩
    simp only [SE, TF, KD, GE, eq_self, ne_eq, implies_true, forall_const, if_true, if_false, cond_true, cond_false, forall_eq, List.replicate, ↓reduceIte, Nat.reduceEqDiff, Nat.reduceLT, Nat.reduceAdd, Nat.reduceSub, Nat.reduceMul, Nat.reduceLeDiff, List.length_nil]
  | false =>
    simp only [SE, TF, KD, GE, eq_self, ne_eq, implies_true, forall_const, if_true, if_false, cond_true, cond_false, forall_eq, List.replicate, ↓reduceIte, Nat.reduceEqDiff, Nat.reduceLT, Nat.reduceAdd, Nat.reduceSub, Nat.reduceMul, Nat.reduceLeDiff, rWords]
    refine ⟨⟨rowsOk_words ws, by omega, by omega⟩, [], [5], ?_⟩
    simp only [SE, TF, KD, GE, eq_self, ne_eq, implies_true, forall_const, if_true, if_false, cond_true, cond_false, forall_eq, List.replicate, ↓reduceIte, Nat.reduceEqDiff, Nat.reduceLT, Nat.reduceAdd, Nat.reduceSub, Nat.reduceMul, Nat.reduceLeDiff, Nat.zero_add]

theorem copy_c (A : Frames) (hs : small A) : FnL Try.prog 35 [.d (eSet A)] [] (fun V ol new => V = .ar 7 A.length ∧ ol = [(7, .arr 60 1 (.deep [(62, 1), (63, 1)] []) (rSet A))] ∧ new = [7]) := by
  refine FnL.of_eC (own := [(7, [(62, 1), (63, 1)]), (40, [(62, 1), (63, 1)]), (14, [(63, 1)]), (36, [(63, 1)])]) (fun _ => []) [] mixed Try.func35 rfl Try.call35 Try.ntmps35 (Nat.le_of_ble_eq_true rfl) Try.results35 ?_
  obtain ⟨hs1, hs2⟩ := hs
  simp only [SE, TF, KD, GE, eq_self, ne_eq, implies_true, forall_const, if_true, if_false, cond_true, cond_false, forall_eq, List.replicate, ↓reduceIte, Nat.reduceEqDiff, Nat.reduceLT, Nat.reduceAdd, Nat.reduceSub, Nat.reduceMul, Nat.reduceLeDiff]
  refine eloop (fun _ => []) mixed A.length (fun i => True) (fun i => ([(0, .d (eSet A)), (3, .ar 7 i), (4, .d (eI i))], [(7, .arr 60 1 (.deep [(62, 1), (63, 1)] []) (rSet (A.take i)))])) ?_ ?_ ?_ (fun i hi hI => ?_)
  · trivial
  · simp [SE, TF, KD, GE, eq_self, ne_eq, implies_true, forall_const, if_true, if_false, cond_true, cond_false, forall_eq, List.replicate, ↓reduceIte, Nat.reduceEqDiff, Nat.reduceLT, Nat.reduceAdd, Nat.reduceSub, Nat.reduceMul, Nat.reduceLeDiff]
  · simp [SE, TF, KD, GE, eq_self, ne_eq, implies_true, forall_const, if_true, if_false, cond_true, cond_false, forall_eq, List.replicate, ↓reduceIte, Nat.reduceEqDiff, Nat.reduceLT, Nat.reduceAdd, Nat.reduceSub, Nat.reduceMul, Nat.reduceLeDiff, rSet]
  have hlen := take_len A i (by omega)
  rcases Nat.lt_or_ge i A.length with h | h
  · have hw := wrap_succ (show i < 9223372036854775807 by omega)
    obtain ⟨h2, h3⟩ := hs2 A[i] (by simp)
    simp only [SE, TF, KD, GE, eq_self, ne_eq, implies_true, forall_const, if_true, if_false, cond_true, cond_false, forall_eq, List.replicate, ↓reduceIte, Nat.reduceEqDiff, Nat.reduceLT, Nat.reduceAdd, Nat.reduceSub, Nat.reduceMul, Nat.reduceLeDiff, dec_lt h]
    refine eloop (fun _ => []) mixed A[i].length (fun j => True) (fun j => ([(0, .d (eSet A)), (3, .ar 7 i), (4, .d (eI i)), (5, .ar 14 j), (6, .d (eI j))],
      [(7, .arr 60 1 (.deep [(62, 1), (63, 1)] []) (rSet (A.take i))), (14, .arr 62 1 (.deep [(63, 1)] []) (rRow (A[i].take j)))])) ?_ ?_ ?_ (fun j hj hJ => ?_)
    · trivial
    · simp [SE, TF, KD, GE, eq_self, ne_eq, implies_true, forall_const, if_true, if_false, cond_true, cond_false, forall_eq, List.replicate, ↓reduceIte, Nat.reduceEqDiff, Nat.reduceLT, Nat.reduceAdd, Nat.reduceSub, Nat.reduceMul, Nat.reduceLeDiff]
    · simp [SE, TF, KD, GE, eq_self, ne_eq, implies_true, forall_const, if_true, if_false, cond_true, cond_false, forall_eq, List.replicate, ↓reduceIte, Nat.reduceEqDiff, Nat.reduceLT, Nat.reduceAdd, Nat.reduceSub, Nat.reduceMul, Nat.reduceLeDiff, rRow]
    have hlen' := take_len A[i] j (by omega)
    rcases Nat.lt_or_ge j A[i].length with h' | h'
    · have hw' := wrap_succ (show j < 9223372036854775807 by omega)
      have h4 := h3 _ (List.getElem_mem h')
      simp only [SE, TF, KD, GE, eq_self, ne_eq, implies_true, forall_const, if_true, if_false, cond_true, cond_false, forall_eq, List.replicate, ↓reduceIte, Nat.reduceEqDiff, Nat.reduceLT, Nat.reduceAdd, Nat.reduceSub, Nat.reduceMul, Nat.reduceLeDiff, getD_map h, lt_int h, dec_lt h', getD_map h', lt_int h', hw']
      refine ⟨⟨rowsOk_words _, by omega, by omega⟩, Nat.zero_add _, Nat.zero_add _, ⟨⟨?_, ?_⟩, ?_⟩, h', ?_, ?_⟩
      · simp only [rRow, List.length_map]; omega
      · simp only [rRow, List.length_map]; omega
      · simp only [rRow, List.length_map]; omega
      · simp only [rRow, List.length_map, hlen']
      · exact congrArg _ (take_map_snoc eFrame A[i] j h')
    · simp only [SE, TF, KD, GE, eq_self, ne_eq, implies_true, forall_const, if_true, if_false, cond_true, cond_false, forall_eq, List.replicate, ↓reduceIte, Nat.reduceEqDiff, Nat.reduceLT, Nat.reduceAdd, Nat.reduceSub, Nat.reduceMul, Nat.reduceLeDiff, getD_map h, lt_int h, dec_ge h', hlen, hlen', hw]
      refine ⟨?_, ⟨⟨?_, ?_⟩, ?_⟩, h, ?_, ?_⟩
      · simp only [rRow, List.length_map]; omega
      · simp only [rSet, List.length_map]; omega
      · simp only [rSet, List.length_map]; omega
      · simp only [rSet, List.length_map]; omega
      · simp only [rSet, List.length_map, hlen]
      · rw [List.take_of_length_le h']; exact congrArg _ (take_map_snoc eRow A i h)
  · have : i = A.length := by omega
    subst this
    simp only [SE, TF, KD, GE, eq_self, ne_eq, implies_true, forall_const, if_true, if_false, cond_true, cond_false, forall_eq, List.replicate, ↓reduceIte, Nat.reduceEqDiff, Nat.reduceLT, Nat.reduceAdd, Nat.reduceSub, Nat.reduceMul, Nat.reduceLeDiff, dec_ge h, hlen]
    refine ⟨[], [7], ?_⟩
    simp only [SE, TF, KD, GE, eq_self, ne_eq, implies_true, forall_const, if_true, if_false, cond_true, cond_false, forall_eq, List.replicate, ↓reduceIte, Nat.reduceEqDiff, Nat.reduceLT, Nat.reduceAdd, Nat.reduceSub, Nat.reduceMul, Nat.reduceLeDiff, List.take_length, rSet, List.length_map]
end Go.Proofs.Ytcamhcnjomddbaa

/-
  CONTRACTS: lists applied, in the reference.
-/
namespace Go.Proofs.Ytcamhcnjomddbaa
open Go.Aw
set_option maxRecDepth 100000
set_option maxHeartbeats 2000000
def setW (A : Frames) (p f w v : Nat) : Frames := A.set p ((A.getD p []).set f (((A.getD p []).getD f []).set w v))
def apply1 (A : Frames) (q : Patch) : Frames := setW A q.p.toNat q.f.toNat q.w.toNat (xorN (wordAt A ⟨q.p, q.f, q.w⟩) q.x)
def applyL (A : Frames) (l : List Patch) : Frames := l.foldl apply1 A
def applyIn (A : Frames) (l : List Patch) : Frames × Int := if Fits A l then (applyL A l, 0) else ([], 490)
def eApplied (r : Frames × Int) : D := .agg [eSet r.1, eI r.2]
theorem set_getD_self {α : Type} (l : List α) (i : Nat) (d : α) : l.set i (l.getD i d) = l := by
  rcases Nat.lt_or_ge i l.length with h | h
  · simp [List.getD, h]
  · rw [List.set_eq_of_length_le h]
theorem shape_setW (A : Frames) (p f w v : Nat) : shape (setW A p f w v) = shape A := by
  have hA : shape A = (shape A).set p ((shape A).getD p []) := (set_getD_self _ _ _).symm
  unfold setW
  rw [hA]
  simp only [shape, List.map_set, List.length_set]
  congr 1
  have h1 : (List.map (fun x => List.map List.length x) A).getD p [] = (A.getD p []).map List.length := by
    simp only [List.getD, List.getElem?_map]
    cases A[p]? <;> rfl
  have h2 : ((A.getD p []).getD f []).length = ((A.getD p []).map List.length).getD f 0 := by
    simp only [List.getD, List.getElem?_map]
    cases ((A[p]?.getD [])[f]?) <;> rfl
  rw [h1, h2, set_getD_self]
theorem shape_apply1 (A : Frames) (q : Patch) : shape (apply1 A q) = shape A := shape_setW _ _ _ _ _
theorem shape_applyL (l : List Patch) : ∀ A : Frames, shape (applyL A l) = shape A := by
  induction l with
  | nil => intro A; rfl
  | cons q l ih => intro A; simp only [applyL, List.foldl_cons]; rw [← applyL, ih, shape_apply1]
theorem fit1_get {A : Frames} {q : Patch} (h : fit1 A q) : ∃ p f w : Nat, q.p = p ∧ q.f = f ∧ q.w = w ∧ ∃ h1 : p < A.length, ∃ h2 : f < A[p].length, w < A[p][f].length := by
  obtain ⟨⟨a1, a2⟩, ⟨b1, b2⟩, c1, c2⟩ := h
  obtain ⟨p, hp⟩ := Int.eq_ofNat_of_zero_le a1
  obtain ⟨f, hf⟩ := Int.eq_ofNat_of_zero_le b1
  obtain ⟨w, hw⟩ := Int.eq_ofNat_of_zero_le c1
  rw [hp] at a2 b2 c2
  rw [hf] at b2 c2
  rw [hw] at c2
  simp only [Int.toNat_natCast] at b2 c2
  have h1 : p < A.length := by omega
  have e1 : A.getD p [] = A[p] := by simp [List.getD, h1]
  rw [e1] at b2 c2
  have h2 : f < A[p].length := by omega
  have e2 : A[p].getD f [] = A[p][f] := by simp [List.getD, h2]
  rw [e2] at c2
  exact ⟨p, f, w, hp, hf, hw, h1, h2, by omega⟩
theorem getD_rSet {A : Frames} {p : Nat} (h : p < A.length) : (rSet A).getD p [] = [.sl (rRow A[p])] := by simp [rSet, rRow, List.getD, h, eRow]
theorem getD_rRow {r : List (List Nat)} {f : Nat} (h : f < r.length) : (rRow r).getD f [] = [.sl (rWords r[f])] := by simp [rRow, rWords, List.getD, h, eFrame, eWords]
theorem getD_rWords {ws : List Nat} {w : Nat} (h : w < ws.length) (d : List D) : (rWords ws).getD w d = [eU ws[w]] := by simp [rWords, List.getD, h]
theorem rSet_len (A : Frames) : (rSet A).length = A.length := by simp [rSet]
theorem rRow_len (r : List (List Nat)) : (rRow r).length = r.length := by simp [rRow]
theorem rWords_len (ws : List Nat) : (rWords ws).length = ws.length := by simp [rWords]
theorem rWords_set (ws : List Nat) (w v : Nat) : (rWords ws).set w [eU v] = rWords (ws.set w v) := by simp [rWords, List.map_set]
theorem rRow_set (r : List (List Nat)) (f : Nat) (ws : List Nat) : (rRow r).set f [.sl (rWords ws)] = rRow (r.set f ws) := by simp [rRow, rWords, List.map_set, eFrame, eWords]
theorem rSet_set (A : Frames) (p : Nat) (r : List (List Nat)) : (rSet A).set p [.sl (rRow r)] = rSet (A.set p r) := by simp [rSet, rRow, List.map_set, eRow]

theorem applyIn_c (A : Frames) (l : List Patch) (hs : small A) : FnP Try.prog 20 [eSet A, ePatches l] (.d (eApplied (applyIn A l))) [] := by
  refine FnP.of_eC (own := []) (fun id => []) mixed Try.func20 rfl Try.call20 Try.ntmps20 (Nat.le_of_ble_eq_true rfl) Try.results20 (fun hok => ?_)
  obtain ⟨hl, _⟩ := ok_map (okL_cons (okL_cons hok).2).1
  simp only [SE, TF, KD, GE, eq_self, ne_eq, implies_true, forall_const, if_true, if_false, cond_true, cond_false, forall_eq, List.replicate, ↓reduceIte, Nat.reduceEqDiff, Nat.reduceLT, Nat.reduceAdd, Nat.reduceSub, Nat.reduceMul, Nat.reduceLeDiff]
  refine EFn.p ?_
  simp only [SE, TF, KD, GE, eq_self, ne_eq, implies_true, forall_const, if_true, if_false, cond_true, cond_false, forall_eq, List.replicate, ↓reduceIte, Nat.reduceEqDiff, Nat.reduceLT, Nat.reduceAdd, Nat.reduceSub, Nat.reduceMul, Nat.reduceLeDiff, ECall]
  refine ⟨_, fits_c _ _, ?_⟩
  by_cases hF : Fits A l
  · simp only [SE, TF, KD, GE, eq_self, ne_eq, implies_true, forall_const, if_true, if_false, cond_true, cond_false, forall_eq, List.replicate, ↓reduceIte, Nat.reduceEqDiff, Nat.reduceLT, Nat.reduceAdd, Nat.reduceSub, Nat.reduceMul, Nat.reduceLeDiff, hF, decide_true]
    refine EFn.g ⟨[(7, 90)], [.d (eSet A)], _, _, copy_c A hs, ?_⟩
    simp only [SE, TF, KD, GE, eq_self, ne_eq, implies_true, forall_const, if_true, if_false, cond_true, cond_false, forall_eq, List.replicate, ↓reduceIte, Nat.reduceEqDiff, Nat.reduceLT, Nat.reduceAdd, Nat.reduceSub, Nat.reduceMul, Nat.reduceLeDiff]
    rintro V ol new ⟨rfl, rfl, rfl⟩
    simp only [SE, TF, KD, GE, eq_self, ne_eq, implies_true, forall_const, if_true, if_false, cond_true, cond_false, forall_eq, List.replicate, ↓reduceIte, Nat.reduceEqDiff, Nat.reduceLT, Nat.reduceAdd, Nat.reduceSub, Nat.reduceMul, Nat.reduceLeDiff]
    refine eloopL (fun i id => if id = 1007 then [.opn 90 (l.getD i default).p.toNat 0 91 (rRow ((applyL A (l.take i)).getD (l.getD i default).p.toNat [])), .opn 91 (l.getD i default).f.toNat 0 92 (rWords (((applyL A (l.take i)).getD (l.getD i default).p.toNat []).getD (l.getD i default).f.toNat []))] else if id = 7 then [.cls 91 (l.getD i default).f.toNat 0 92, .cls 90 (l.getD i default).p.toNat 0 91] else []) mixed l.length (fun i => True) (fun i => ([(1, .d (ePatches l)), (4, .bp 4 0), (5, .ar 90 A.length), (6, .d (eI i))], [(4, .box [.nils, .d (eI 0)]), (90, .arr 60 1 (.deep [(62, 1), (63, 1)] []) (rSet (applyL A (l.take i))))])) ?_ ?_ ?_ (fun i hi hI => ?_)
    · trivial
    · simp [SE, TF, KD, GE, eq_self, ne_eq, implies_true, forall_const, if_true, if_false, cond_true, cond_false, forall_eq, List.replicate, ↓reduceIte, Nat.reduceEqDiff, Nat.reduceLT, Nat.reduceAdd, Nat.reduceSub, Nat.reduceMul, Nat.reduceLeDiff]
    · simp [SE, TF, KD, GE, eq_self, ne_eq, implies_true, forall_const, if_true, if_false, cond_true, cond_false, forall_eq, List.replicate, ↓reduceIte, Nat.reduceEqDiff, Nat.reduceLT, Nat.reduceAdd, Nat.reduceSub, Nat.reduceMul, Nat.reduceLeDiff, applyL]
    rcases Nat.lt_or_ge i l.length with h | h
    · have hw := wrap_succ (show i < 9223372036854775807 by omega)
      have hq : l.getD i default = l[i] := by simp [List.getD, h]
      obtain ⟨p, f, w, e1, e2, e3, a1, a2, a3⟩ := fit1_get (hF.1 _ (List.getElem_mem h))
      obtain ⟨B, hB⟩ : ∃ B, applyL A (l.take i) = B := ⟨_, rfl⟩
      have hsh : shape A = shape B := by rw [← hB, shape_applyL]
      obtain ⟨b1, b2, b3⟩ := shape_in hsh a1 a2 a3
      have eB : B.getD p [] = B[p] := by simp [List.getD, b1]
      have eB2 : B[p].getD f [] = B[p][f] := by simp [List.getD, b2]
      have eB3 : B[p][f].getD w 0 = B[p][f][w] := by simp [List.getD, b3]
      have hstep : applyL A (l.take (i + 1)) = B.set p (B[p].set f (B[p][f].set w (xorN B[p][f][w] l[i].x))) := by
        have hB' : List.foldl apply1 A (List.take i l) = B := hB
        rw [List.take_succ_eq_append_getElem h, applyL, List.foldl_append, hB']
        simp only [List.foldl_cons, List.foldl_nil, apply1, setW, e1, e2, e3, Int.toNat_natCast, eB, eB2, wordAt, eB3]
      have hxor := xorU_N B[p][f][w] l[i].x
      unfold xorU at hxor
      have hAB : A.length = B.length := shape_len hsh
      have hlp : (0 ≤ (p : Int) ∧ (p : Int) < (A.length : Int)) = True := by simp; omega
      simp (config := { maxSteps := 1000000 }) only [SE, TF, KD, GE, eq_self, ne_eq, implies_true, forall_const, if_true, if_false, cond_true, cond_false, forall_eq, List.replicate, ↓reduceIte, Nat.reduceEqDiff, Nat.reduceLT, Nat.reduceAdd, Nat.reduceSub, Nat.reduceMul, Nat.reduceLeDiff, dec_lt h, lt_int h, getD_map h, hB, hq, e1, e2, e3, Int.toNat_natCast, eB, eB2, rSet_len, rRow_len, rWords_len, getD_rSet b1, getD_rRow b2, getD_rWords b3, lt_int b1, lt_int b2, lt_int b3, hlp, hxor, rWords_set, hw, hstep]
      have g1 := rWords_set B[p][f] w (xorN B[p][f][w] l[i].x)
      simp only [eU] at g1
      rw [g1, rWords_len, rRow_set, rRow_len, rSet_set, List.length_set, List.length_set]
      exact ⟨b1, b2, by kernel_rfl, hAB, ⟨hAB, b1⟩, b2, hAB, ⟨hAB, b1⟩, b2, b3, b3, ⟨b2, rfl⟩, ⟨b1, rfl⟩, h, rfl⟩
    · have hAB := shape_len (shape_applyL (l.take i) A)
      simp only [SE, TF, KD, GE, eq_self, ne_eq, implies_true, forall_const, if_true, if_false, cond_true, cond_false, forall_eq, List.replicate, ↓reduceIte, Nat.reduceEqDiff, Nat.reduceLT, Nat.reduceAdd, Nat.reduceSub, Nat.reduceMul, Nat.reduceLeDiff, dec_ge h, rSet_len, applyIn, hF, eApplied, hAB]
      rw [List.take_of_length_le h]
      rfl
  · simp only [SE, TF, KD, GE, eq_self, ne_eq, implies_true, forall_const, if_true, if_false, cond_true, cond_false, forall_eq, List.replicate, ↓reduceIte, Nat.reduceEqDiff, Nat.reduceLT, Nat.reduceAdd, Nat.reduceSub, Nat.reduceMul, Nat.reduceLeDiff, hF, decide_false, applyIn, eApplied]
end Go.Proofs.Ytcamhcnjomddbaa

/-
  CONTRACTS: sets changed, in the reference.
-/
namespace Go.Proofs.Ytcamhcnjomddbaa
open Go.Aw
set_option maxRecDepth 100000
set_option maxHeartbeats 2000000
def eChange (c : Nat × Nat) : List D := [eU c.1, eU c.2]
def eChanges (l : List (Nat × Nat)) : D := .sl (l.map eChange)
/-- The n-th word becomes b. -/
def setNth (A : Frames) (n b : Nat) : Frames := match (wordsA A)[n]? with
  | some (p, _) => setW A p.p.toNat p.f.toNat p.w.toNat b
  | none => A
def changed1 (A : Frames) (c : Nat × Nat) : Frames := setNth A (c.1 % 64) c.2
def changedL (A : Frames) (l : List (Nat × Nat)) : Frames := l.foldl changed1 A
theorem shape_setNth (A : Frames) (n b : Nat) : shape (setNth A n b) = shape A := by
  unfold setNth
  split
  · exact shape_setW _ _ _ _ _
  · rfl
theorem shape_changedL (l : List (Nat × Nat)) : ∀ A : Frames, shape (changedL A l) = shape A := by
  induction l with
  | nil => intro A; rfl
  | cons q l ih => intro A; simp only [changedL, List.foldl_cons]; rw [← changedL, ih, changed1, shape_setNth]
theorem wordsF_len (i j : Nat) (ws : List Nat) : (wordsF i j ws).length = ws.length := by simp [wordsF]
def nWords (A : Frames) : Nat := ((shape A).map List.sum).sum
theorem wordsR_len (i : Nat) (r : List (List Nat)) : (wordsR i r).length = (r.map List.length).sum := by
  have : ∀ (k : Nat) (r : List (List Nat)), ((r.zipIdx k).flatMap fun p => wordsF i p.2 p.1).length = (r.map List.length).sum := by
    intro k r
    induction r generalizing k with
    | nil => rfl
    | cons x r ih => simp only [List.zipIdx_cons, List.flatMap_cons, List.length_append, List.map_cons, List.sum_cons, ih, wordsF_len]
  exact this 0 r
theorem wordsA_len (A : Frames) : (wordsA A).length = nWords A := by
  have : ∀ (k : Nat) (A : Frames), ((A.zipIdx k).flatMap fun p => wordsR p.2 p.1).length = ((shape A).map List.sum).sum := by
    intro k A
    induction A generalizing k with
    | nil => rfl
    | cons x r ih => simp only [List.zipIdx_cons, List.flatMap_cons, List.length_append, shape, List.map_cons, List.sum_cons, wordsR_len]; rw [ih]; rfl
  exact this 0 A
theorem words_len {A B : Frames} (h : shape A = shape B) : (wordsA A).length = (wordsA B).length := by rw [wordsA_len, wordsA_len, nWords, nWords, h]

/-- The set while the words are counted. -/
def mid (B : Frames) (n b c : Nat) : Frames := if n < c then setNth B n b else B
theorem shape_mid (B : Frames) (n b c : Nat) : shape B = shape (mid B n b c) := by
  unfold mid
  split
  · exact (shape_setNth _ _ _).symm
  · rfl
def cnt (B : Frames) (i j k : Nat) : Nat := (wordsTo B i j k).length
theorem mid_here {B : Frames} {n b i j k : Nat} (h1 : i < B.length) (h2 : j < B[i].length) (h3 : k < B[i][j].length) (hc : cnt B i j k = n) : setNth B n b = B.set i (B[i].set j (B[i][j].set k b)) := by
  have hA : B.getD i [] = B[i] := by simp [List.getD, h1]
  have hB : B[i].getD j [] = B[i][j] := by simp [List.getD, h2]
  have hs : wordsTo B i j (k + 1) = wordsTo B i j k ++ [(⟨i, j, k⟩, B[i][j][k])] := by
    simp only [wordsTo, hA, hB, wordsF_step i j B[i][j] k h3, List.append_assoc]
  have hp := wordsTo_pre B i j (k + 1) h1 h2
  rw [hs] at hp
  obtain ⟨rest, hr⟩ := hp
  have : (wordsA B)[n]? = some (⟨i, j, k⟩, B[i][j][k]) := by
    rw [← hr, ← hc, cnt]
    simp
  simp only [setNth, this, setW, Int.toNat_natCast, hA, hB]

theorem mid_len (B : Frames) (n b c : Nat) : (rSet (mid B n b c)).length = B.length := by rw [rSet_len, shape_len (shape_mid B n b c)]
theorem cnt_k {B : Frames} {i j k : Nat} (h1 : i < B.length) (h2 : j < B[i].length) (h3 : k < B[i][j].length) : cnt B i j (k + 1) = cnt B i j k + 1 := by
  have hA : B.getD i [] = B[i] := by simp [List.getD, h1]
  have hB : B[i].getD j [] = B[i][j] := by simp [List.getD, h2]
  simp only [cnt, wordsTo, hA, hB, wordsF_step i j B[i][j] k h3, List.length_append, List.length_singleton]
  omega
theorem cnt_j {B : Frames} {i j : Nat} (h1 : i < B.length) (h2 : j < B[i].length) : cnt B i (j + 1) 0 = cnt B i j B[i][j].length := by
  have hA : B.getD i [] = B[i] := by simp [List.getD, h1]
  have hB : B[i].getD j [] = B[i][j] := by simp [List.getD, h2]
  simp only [cnt, wordsTo, hA, hB, wordsR_step i B[i] j h2, List.take_length, List.take_zero]
  simp [wordsF]
theorem cnt_i {B : Frames} {i : Nat} (h1 : i < B.length) : cnt B (i + 1) 0 0 = cnt B i B[i].length 0 := by
  have hA : B.getD i [] = B[i] := by simp [List.getD, h1]
  simp only [cnt, wordsTo, hA, wordsA_step B i h1, List.take_length, List.take_zero]
  simp [wordsF, wordsR]
theorem cnt_end (B : Frames) : cnt B B.length 0 0 = (wordsA B).length := by
  simp [cnt, wordsTo, wordsF, wordsR]
theorem small_shape {A B : Frames} (h : shape A = shape B) (hs : small A) : small B := by
  obtain ⟨h1, h2⟩ := hs
  refine ⟨by rw [← shape_len h]; exact h1, fun r hr => ?_⟩
  obtain ⟨i, hi, rfl⟩ := List.getElem_of_mem hr
  have hi' : i < A.length := by rw [shape_len h]; exact hi
  have hrow := shape_row h hi' hi
  obtain ⟨h3, h4⟩ := h2 A[i] (by simp)
  refine ⟨by have := congrArg List.length hrow; simp at this; omega, fun ws hw => ?_⟩
  obtain ⟨j, hj, rfl⟩ := List.getElem_of_mem hw
  have hj' : j < A[i].length := by have := congrArg List.length hrow; simp at this; omega
  have := congrArg (fun l => l[j]?) hrow
  simp [hj, hj'] at this
  have h5 := h4 A[i][j] (by simp)
  omega
theorem wrap_u {n : Nat} (h : n < 18446744073709551616) : IntKind.u64.wrap (n : Int) = n := by
  simp only [IntKind.wrap, IntKind.bits, IntKind.signed]
  simp
  omega
theorem changed_c (A : Frames) (l : List (Nat × Nat)) (hs : small A) (hn : nWords A ≤ 2000000) : FnP Try.prog 14 [eSet A, eChanges l] (.d (eSet (changedL A l))) [] := by
  refine FnP.of_eC (own := []) (fun id => []) mixed Try.func14 rfl Try.call14 Try.ntmps14 (Nat.le_of_ble_eq_true rfl) Try.results14 (fun hok => ?_)
  obtain ⟨hl, _⟩ := ok_map (okL_cons (okL_cons hok).2).1
  simp only [SE, TF, KD, GE, eq_self, ne_eq, implies_true, forall_const, if_true, if_false, cond_true, cond_false, forall_eq, List.replicate, ↓reduceIte, Nat.reduceEqDiff, Nat.reduceLT, Nat.reduceAdd, Nat.reduceSub, Nat.reduceMul, Nat.reduceLeDiff]
  refine EFn.g ⟨[(7, 90)], [.d (eSet A)], _, _, copy_c A hs, ?_⟩
  simp only [SE, TF, KD, GE, eq_self, ne_eq, implies_true, forall_const, if_true, if_false, cond_true, cond_false, forall_eq, List.replicate, ↓reduceIte, Nat.reduceEqDiff, Nat.reduceLT, Nat.reduceAdd, Nat.reduceSub, Nat.reduceMul, Nat.reduceLeDiff]
  rintro V ol new ⟨rfl, rfl, rfl⟩
  simp only [SE, TF, KD, GE, eq_self, ne_eq, implies_true, forall_const, if_true, if_false, cond_true, cond_false, forall_eq, List.replicate, ↓reduceIte, Nat.reduceEqDiff, Nat.reduceLT, Nat.reduceAdd, Nat.reduceSub, Nat.reduceMul, Nat.reduceLeDiff]
  refine eloop (fun id => []) mixed l.length (fun m => True) (fun m => ([(1, .d (eChanges l)), (5, .ar 90 A.length), (6, .d (eI m))], [(90, .arr 60 1 (.deep [(62, 1), (63, 1)] []) (rSet (changedL A (l.take m))))])) ?_ ?_ ?_ (fun m hm hM => ?_)
  · trivial
  · simp [SE, TF, KD, GE, eq_self, ne_eq, implies_true, forall_const, if_true, if_false, cond_true, cond_false, forall_eq, List.replicate, ↓reduceIte, Nat.reduceEqDiff, Nat.reduceLT, Nat.reduceAdd, Nat.reduceSub, Nat.reduceMul, Nat.reduceLeDiff, eChanges]
  · simp [SE, TF, KD, GE, eq_self, ne_eq, implies_true, forall_const, if_true, if_false, cond_true, cond_false, forall_eq, List.replicate, ↓reduceIte, Nat.reduceEqDiff, Nat.reduceLT, Nat.reduceAdd, Nat.reduceSub, Nat.reduceMul, Nat.reduceLeDiff, changedL]
  rcases Nat.lt_or_ge m l.length with h | h
  · have hw := wrap_succ (show m < 9223372036854775807 by omega)
    obtain ⟨B, hB⟩ : ∃ B, changedL A (l.take m) = B := ⟨_, rfl⟩
    obtain ⟨n, hn⟩ : ∃ n, l[m].1 % 64 = n := ⟨_, rfl⟩
    obtain ⟨b, hb⟩ : ∃ b, l[m].2 = b := ⟨_, rfl⟩
    have hAB : A.length = B.length := by rw [← hB, shape_len (shape_changedL _ _)]
    have hst : changedL A (l.take (m + 1)) = setNth B n b := by
      have hB' : List.foldl changed1 A (List.take m l) = B := hB
      rw [List.take_succ_eq_append_getElem h, changedL, List.foldl_append, hB']
      simp only [List.foldl_cons, List.foldl_nil, changed1, hn, hb]
    have hsB : small B := small_shape (by rw [← hB, shape_changedL]) hs
    have hnB : nWords B ≤ 2000000 := by rw [← wordsA_len, ← hB, words_len (shape_changedL _ _), wordsA_len]; assumption
    have hmod : ((l[m].1 : Int)).tmod 64 = (n : Int) := by rw [← hn]; rfl
    simp only [SE, TF, KD, GE, eq_self, ne_eq, implies_true, forall_const, if_true, if_false, cond_true, cond_false, forall_eq, List.replicate, ↓reduceIte, Nat.reduceEqDiff, Nat.reduceLT, Nat.reduceAdd, Nat.reduceSub, Nat.reduceMul, Nat.reduceLeDiff, eChanges, eChange, dec_lt h, lt_int h, getD_map h, hB, Int.reduceLT, Int.reduceLE, Int.reduceToNat, List.drop_zero, List.headD_cons, hmod]
    refine ⟨by decide, ?_⟩
    refine eloop (fun id => []) mixed B.length (fun i => True) (fun i => ([(1, .d (eChanges l)), (5, .ar 90 A.length), (6, .d (eI m)), (7, .d (eI (cnt B i 0 0))), (8, .d (eU n)), (9, .d (eI i))], [(90, .arr 60 1 (.deep [(62, 1), (63, 1)] []) (rSet (mid B n b (cnt B i 0 0))))])) ?_ ?_ ?_ (fun i hi hI => ?_)
    · trivial
    · simp [SE, TF, KD, GE, eq_self, ne_eq, implies_true, forall_const, if_true, if_false, cond_true, cond_false, forall_eq, List.replicate, ↓reduceIte, Nat.reduceEqDiff, Nat.reduceLT, Nat.reduceAdd, Nat.reduceSub, Nat.reduceMul, Nat.reduceLeDiff, eChanges, eChange, cnt, wordsTo, wordsA, wordsR, wordsF]
    · simp [SE, TF, KD, GE, eq_self, ne_eq, implies_true, forall_const, if_true, if_false, cond_true, cond_false, forall_eq, List.replicate, ↓reduceIte, Nat.reduceEqDiff, Nat.reduceLT, Nat.reduceAdd, Nat.reduceSub, Nat.reduceMul, Nat.reduceLeDiff, cnt, wordsTo, wordsA, wordsR, wordsF, mid]
    rcases Nat.lt_or_ge i B.length with h1 | h1
    · have hw1 := wrap_succ (show i < 9223372036854775807 by have := hsB.1; omega)
      simp only [SE, TF, KD, GE, eq_self, ne_eq, implies_true, forall_const, if_true, if_false, cond_true, cond_false, forall_eq, List.replicate, ↓reduceIte, Nat.reduceEqDiff, Nat.reduceLT, Nat.reduceAdd, Nat.reduceSub, Nat.reduceMul, Nat.reduceLeDiff, eChanges, hAB, mid_len, dec_lt h1, h1]
      refine eloopL (fun j id => if id = 1011 then [.opn 90 i 0 91 (rRow ((mid B n b (cnt B i j 0)).getD i []))] else if id = 11 then [.cls 90 i 0 91] else []) mixed B[i].length (fun j => True) (fun j => ([(1, .d (eChanges l)), (5, .ar 90 B.length), (6, .d (eI m)), (7, .d (eI (cnt B i j 0))), (8, .d (eU n)), (9, .d (eI i)), (10, .d (eI j))], [(90, .arr 60 1 (.deep [(62, 1), (63, 1)] []) (rSet (mid B n b (cnt B i j 0))))])) ?_ ?_ ?_ (fun j hj hJ => ?_)
      · trivial
      · simp [SE, TF, KD, GE, eq_self, ne_eq, implies_true, forall_const, if_true, if_false, cond_true, cond_false, forall_eq, List.replicate, ↓reduceIte, Nat.reduceEqDiff, Nat.reduceLT, Nat.reduceAdd, Nat.reduceSub, Nat.reduceMul, Nat.reduceLeDiff, eChanges]
      · simp [SE, TF, KD, GE, eq_self, ne_eq, implies_true, forall_const, if_true, if_false, cond_true, cond_false, forall_eq, List.replicate, ↓reduceIte, Nat.reduceEqDiff, Nat.reduceLT, Nat.reduceAdd, Nat.reduceSub, Nat.reduceMul, Nat.reduceLeDiff]
      obtain ⟨C, hC⟩ : ∃ C, mid B n b (cnt B i j 0) = C := ⟨_, rfl⟩
      have hCs : shape B = shape C := by rw [← hC]; exact shape_mid _ _ _ _
      have c1 : i < C.length := by rw [← shape_len hCs]; exact h1
      have c2 : C[i].length = B[i].length := by simpa using (congrArg List.length (shape_row hCs h1 c1)).symm
      have hCi : C.getD i [] = C[i] := by simp [List.getD, c1]
      have hBC : C.length = B.length := (shape_len hCs).symm
      have hset : C.set i C[i] = C := by simp
      have hrs := rSet_set C i C[i]
      rw [hset] at hrs
      rcases Nat.lt_or_ge j B[i].length with h2 | h2
      · have hw2 := wrap_succ (show j < 9223372036854775807 by have := (hsB.2 B[i] (by simp)).1; omega)
        simp only [SE, TF, KD, GE, eq_self, ne_eq, implies_true, forall_const, if_true, if_false, cond_true, cond_false, forall_eq, List.replicate, ↓reduceIte, Nat.reduceEqDiff, Nat.reduceLT, Nat.reduceAdd, Nat.reduceSub, Nat.reduceMul, Nat.reduceLeDiff, eChanges, hC, hCi, rSet_len, rRow_len, getD_rSet c1, hBC, c2, lt_int h1, dec_lt h2, hrs, h1, h2]
        refine eloopL (fun k id => if id = 1014 then [.opn 90 i 0 91 (rRow ((mid B n b (cnt B i j k)).getD i [])), .opn 91 j 0 92 (rWords (((mid B n b (cnt B i j k)).getD i []).getD j []))] else if id = 14 then [.cls 91 j 0 92, .cls 90 i 0 91] else if id = 1017 then [.opn 90 i 0 93 (rRow ((mid B n b (cnt B i j k)).getD i [])), .opn 93 j 0 94 (rWords (((mid B n b (cnt B i j k)).getD i []).getD j []))] else if id = 17 then [.cls 93 j 0 94, .cls 90 i 0 93] else []) mixed B[i][j].length (fun k => True) (fun k => ([(1, .d (eChanges l)), (5, .ar 90 B.length), (6, .d (eI m)), (7, .d (eI (cnt B i j k))), (8, .d (eU n)), (9, .d (eI i)), (10, .d (eI j)), (11, .d (eI k))], [(90, .arr 60 1 (.deep [(62, 1), (63, 1)] []) (rSet (mid B n b (cnt B i j k))))])) ?_ ?_ ?_ (fun k hk hK => ?_)
        · trivial
        · simp [SE, TF, KD, GE, eq_self, ne_eq, implies_true, forall_const, if_true, if_false, cond_true, cond_false, forall_eq, List.replicate, ↓reduceIte, Nat.reduceEqDiff, Nat.reduceLT, Nat.reduceAdd, Nat.reduceSub, Nat.reduceMul, Nat.reduceLeDiff, eChanges]
        · simp [SE, TF, KD, GE, eq_self, ne_eq, implies_true, forall_const, if_true, if_false, cond_true, cond_false, forall_eq, List.replicate, ↓reduceIte, Nat.reduceEqDiff, Nat.reduceLT, Nat.reduceAdd, Nat.reduceSub, Nat.reduceMul, Nat.reduceLeDiff, hC]
        obtain ⟨G, hG⟩ : ∃ G, mid B n b (cnt B i j k) = G := ⟨_, rfl⟩
        have hGs : shape B = shape G := by rw [← hG]; exact shape_mid _ _ _ _
        have g1 : i < G.length := by rw [← shape_len hGs]; exact h1
        have g2 : G[i].length = B[i].length := by simpa using (congrArg List.length (shape_row hGs h1 g1)).symm
        have g2' : j < G[i].length := by omega
        have g3 : G[i][j].length = B[i][j].length := by
          have := congrArg (fun l => l[j]?) (shape_row hGs h1 g1)
          simp [h2, g2'] at this
          exact this.symm
        have hGi : G.getD i [] = G[i] := by simp [List.getD, g1]
        have hGij : G[i].getD j [] = G[i][j] := by simp [List.getD, g2']
        have hBG : G.length = B.length := (shape_len hGs).symm
        have hrs1 := rSet_set G i G[i]
        have hrs2 := rRow_set G[i] j G[i][j]
        rw [show G.set i G[i] = G by simp] at hrs1
        rw [show G[i].set j G[i][j] = G[i] by simp] at hrs2
        rcases Nat.lt_or_ge k B[i][j].length with h3 | h3
        · have hw3 := wrap_succ (show k < 9223372036854775807 by have := (hsB.2 B[i] (by simp)).2 B[i][j] (by simp); omega)
          have hck := cnt_k h1 h2 h3
          have hcl : cnt B i j k ≤ 2000000 := by have := (wordsTo_pre B i j k h1 h2).length_le; rw [wordsA_len] at this; unfold cnt; omega
          have hw4 := wrap_succ (show cnt B i j k < 9223372036854775807 by omega)
          have hwu : IntKind.u64.wrap (cnt B i j k : Int) = (cnt B i j k : Int) := wrap_u (by omega)
          by_cases hcn : cnt B i j k = n
          · have hcn' : ((cnt B i j k : Int) == (n : Int)) = true := by simp [hcn]
            simp only [SE, TF, KD, GE, eq_self, ne_eq, implies_true, forall_const, if_true, if_false, cond_true, cond_false, forall_eq, List.replicate, ↓reduceIte, Nat.reduceEqDiff, Nat.reduceLT, Nat.reduceAdd, Nat.reduceSub, Nat.reduceMul, Nat.reduceLeDiff, eChanges, eChange, hG, hGi, hGij, rSet_len, rRow_len, rWords_len, getD_rSet g1, getD_rRow g2', hBG, g2, g3, lt_int h1, lt_int h2, dec_lt h3, h1, h2, h3, hrs1, hrs2, hwu, hcn', lt_int h, getD_map h, lt_int h3, Int.reduceLT, Int.reduceLE, Int.reduceToNat, List.drop_zero, List.drop_succ_cons, List.headD_cons, hw3, hw4, hb]
            have g4 := rWords_set G[i][j] k b
            have e1 : List.drop 1 ((rWords G[i][j]).getD k []) = [] := by rw [getD_rWords (show k < G[i][j].length by omega)]; rfl
            rw [e1]
            simp only [eU] at g4
            have hGB : G = B := by rw [← hG, mid, if_neg (by omega)]
            subst hGB
            rw [g4, rWords_len, rRow_set, rRow_len, rSet_set, List.length_set, List.length_set, hck, mid, if_pos (by omega), mid_here h1 h2 h3 hcn]
            exact ⟨by kernel_rfl, rfl, rfl, rfl, rfl⟩
          · have hcn' : ((cnt B i j k : Int) == (n : Int)) = false := by simp; omega
            simp only [SE, TF, KD, GE, eq_self, ne_eq, implies_true, forall_const, if_true, if_false, cond_true, cond_false, forall_eq, List.replicate, ↓reduceIte, Nat.reduceEqDiff, Nat.reduceLT, Nat.reduceAdd, Nat.reduceSub, Nat.reduceMul, Nat.reduceLeDiff, eChanges, eChange, hG, hGi, hGij, rSet_len, rRow_len, rWords_len, getD_rSet g1, getD_rRow g2', hBG, g2, g3, lt_int h1, lt_int h2, dec_lt h3, h1, h2, h3, hrs1, hrs2, hwu, hcn', hw3, hw4]
            rw [hck]
            refine ⟨rfl, ?_⟩
            have : mid B n b (cnt B i j k + 1) = G := by
              rw [← hG]
              unfold mid
              by_cases h : n < cnt B i j k
              · rw [if_pos h, if_pos (by omega)]
              · rw [if_neg h, if_neg (by omega)]
            rw [this]
        · simp only [SE, TF, KD, GE, eq_self, ne_eq, implies_true, forall_const, if_true, if_false, cond_true, cond_false, forall_eq, List.replicate, ↓reduceIte, Nat.reduceEqDiff, Nat.reduceLT, Nat.reduceAdd, Nat.reduceSub, Nat.reduceMul, Nat.reduceLeDiff, eChanges, hG, hGi, hGij, rSet_len, rRow_len, rWords_len, getD_rSet g1, getD_rRow g2', hBG, g2, g3, lt_int h1, lt_int h2, dec_ge h3, h1, h2, hrs1, hrs2, hw2]
          have : k = B[i][j].length := by omega
          rw [cnt_j h1 h2, ← this, hG]
          exact ⟨rfl, rfl⟩
      · simp only [SE, TF, KD, GE, eq_self, ne_eq, implies_true, forall_const, if_true, if_false, cond_true, cond_false, forall_eq, List.replicate, ↓reduceIte, Nat.reduceEqDiff, Nat.reduceLT, Nat.reduceAdd, Nat.reduceSub, Nat.reduceMul, Nat.reduceLeDiff, eChanges, hC, hCi, rSet_len, rRow_len, getD_rSet c1, hBC, c2, lt_int h1, dec_ge h2, hrs, hw1, h1]
        have : j = B[i].length := by omega
        rw [cnt_i h1, ← this, hC]
        exact ⟨rfl, rfl⟩
    · simp only [SE, TF, KD, GE, eq_self, ne_eq, implies_true, forall_const, if_true, if_false, cond_true, cond_false, forall_eq, List.replicate, ↓reduceIte, Nat.reduceEqDiff, Nat.reduceLT, Nat.reduceAdd, Nat.reduceSub, Nat.reduceMul, Nat.reduceLeDiff, eChanges, hAB, mid_len, dec_ge h1, h, hw]
      have : i = B.length := by omega
      rw [this, cnt_end, hst]
      have : mid B n b (wordsA B).length = setNth B n b := by
        unfold mid
        split
        · rfl
        · rename_i hx
          simp only [setNth, List.getElem?_eq_none (Nat.not_lt.1 hx)]
      rw [this]
  · simp only [SE, TF, KD, GE, eq_self, ne_eq, implies_true, forall_const, if_true, if_false, cond_true, cond_false, forall_eq, List.replicate, ↓reduceIte, Nat.reduceEqDiff, Nat.reduceLT, Nat.reduceAdd, Nat.reduceSub, Nat.reduceMul, Nat.reduceLeDiff, eChanges, dec_ge h]
    rw [List.take_of_length_le h]
    exact ⟨by rw [rSet_len, shape_len (shape_changedL l A)], rfl⟩
end Go.Proofs.Ytcamhcnjomddbaa

/-
  CONTRACTS: positions compared; normal lists.
-/
namespace Go.Proofs.Ytcamhcnjomddbaa
open Go.Aw
set_option maxRecDepth 100000
set_option maxHeartbeats 1000000
def cmpI (x y : Int) : Int := if x < y then -1 else if y < x then 1 else 0
def orI (l : List Int) : Int := (l.find? fun x => x != 0).getD 0
def cmpPos (a b : Pos) : Int := orI [cmpI a.p b.p, cmpI a.f b.f, cmpI a.w b.w]

theorem isNaN_c (x : Int) : FnP Try.prog 77 [eI x] (.d (eB false)) [] := by
  refine FnP.of_eC (own := []) (fun _ => []) mixed Try.func77 rfl Try.call77 Try.ntmps77 (Nat.le_of_ble_eq_true rfl) Try.results77 (fun hok => ?_)
  simp only [SE, TF, KD, GE, eq_self, ne_eq, implies_true, forall_const, if_true, if_false, cond_true, cond_false, forall_eq, List.replicate, ↓reduceIte, Nat.reduceEqDiff, Nat.reduceLT, Nat.reduceAdd, Nat.reduceSub, Nat.reduceMul, Nat.reduceLeDiff]

theorem cmp_c (x y : Int) : FnP Try.prog 70 [eI x, eI y] (.d (eI (cmpI x y))) [] := by
  refine FnP.of_eC (own := []) (fun _ => []) mixed Try.func70 rfl Try.call70 Try.ntmps70 (Nat.le_of_ble_eq_true rfl) Try.results70 (fun hok => ?_)
  simp only [SE, TF, KD, GE, eq_self, ne_eq, implies_true, forall_const, if_true, if_false, cond_true, cond_false, forall_eq, List.replicate, ↓reduceIte, Nat.reduceEqDiff, Nat.reduceLT, Nat.reduceAdd, Nat.reduceSub, Nat.reduceMul, Nat.reduceLeDiff]
  refine EFn.p ?_
  simp only [SE, TF, KD, GE, eq_self, ne_eq, implies_true, forall_const, if_true, if_false, cond_true, cond_false, forall_eq, List.replicate, ↓reduceIte, Nat.reduceEqDiff, Nat.reduceLT, Nat.reduceAdd, Nat.reduceSub, Nat.reduceMul, Nat.reduceLeDiff, ECall]
  refine ⟨_, isNaN_c _, ?_⟩
  simp only [SE, TF, KD, GE, eq_self, ne_eq, implies_true, forall_const, if_true, if_false, cond_true, cond_false, forall_eq, List.replicate, ↓reduceIte, Nat.reduceEqDiff, Nat.reduceLT, Nat.reduceAdd, Nat.reduceSub, Nat.reduceMul, Nat.reduceLeDiff]
  refine EFn.p ?_
  simp only [SE, TF, KD, GE, eq_self, ne_eq, implies_true, forall_const, if_true, if_false, cond_true, cond_false, forall_eq, List.replicate, ↓reduceIte, Nat.reduceEqDiff, Nat.reduceLT, Nat.reduceAdd, Nat.reduceSub, Nat.reduceMul, Nat.reduceLeDiff, ECall]
  refine ⟨_, isNaN_c _, ?_⟩
  by_cases h1 : x < y
  · simp only [SE, TF, KD, GE, eq_self, ne_eq, implies_true, forall_const, if_true, if_false, cond_true, cond_false, forall_eq, List.replicate, ↓reduceIte, Nat.reduceEqDiff, Nat.reduceLT, Nat.reduceAdd, Nat.reduceSub, Nat.reduceMul, Nat.reduceLeDiff, h1, cmpI]
  · by_cases h2 : y < x
    · simp only [SE, TF, KD, GE, eq_self, ne_eq, implies_true, forall_const, if_true, if_false, cond_true, cond_false, forall_eq, List.replicate, ↓reduceIte, Nat.reduceEqDiff, Nat.reduceLT, Nat.reduceAdd, Nat.reduceSub, Nat.reduceMul, Nat.reduceLeDiff, h1, h2, cmpI, gt_iff_lt]
    · simp only [SE, TF, KD, GE, eq_self, ne_eq, implies_true, forall_const, if_true, if_false, cond_true, cond_false, forall_eq, List.replicate, ↓reduceIte, Nat.reduceEqDiff, Nat.reduceLT, Nat.reduceAdd, Nat.reduceSub, Nat.reduceMul, Nat.reduceLeDiff, h1, h2, cmpI, gt_iff_lt]

theorem or_c (l : List Int) : FnP Try.prog 69 [eInts l] (.d (eI (orI l))) [] := by
  refine FnP.of_eC (own := []) (fun _ => []) mixed Try.func69 rfl Try.call69 Try.ntmps69 (Nat.le_of_ble_eq_true rfl) Try.results69 (fun hok => ?_)
  obtain ⟨hl, _⟩ := ok_map (okL_cons hok).1
  simp only [SE, TF, KD, GE, eq_self, ne_eq, implies_true, forall_const, if_true, if_false, cond_true, cond_false, forall_eq, List.replicate, ↓reduceIte, Nat.reduceEqDiff, Nat.reduceLT, Nat.reduceAdd, Nat.reduceSub, Nat.reduceMul, Nat.reduceLeDiff]
  refine eloop (fun _ => []) mixed l.length (fun i => ∀ x ∈ l.take i, x = 0) (fun i => ([(3, .d (eI 0)), (6, .d (eInts l)), (7, .d (eI l.length)), (8, .d (eI i))], [])) ?_ ?_ ?_ (fun i hi hI => ?_)
  · simp
  · simp [SE, TF, KD, GE, eq_self, ne_eq, implies_true, forall_const, if_true, if_false, cond_true, cond_false, forall_eq, List.replicate, ↓reduceIte, Nat.reduceEqDiff, Nat.reduceLT, Nat.reduceAdd, Nat.reduceSub, Nat.reduceMul, Nat.reduceLeDiff]
  · simp [SE, TF, KD, GE, eq_self, ne_eq, implies_true, forall_const, if_true, if_false, cond_true, cond_false, forall_eq, List.replicate, ↓reduceIte, Nat.reduceEqDiff, Nat.reduceLT, Nat.reduceAdd, Nat.reduceSub, Nat.reduceMul, Nat.reduceLeDiff]
  rcases Nat.lt_or_ge i l.length with h | h
  · have hw := wrap_succ (show i < 9223372036854775807 by omega)
    by_cases hx : l[i] = 0
    · have hx' : (l[i] != 0) = false := by simp [hx]
      simp only [SE, TF, KD, GE, eq_self, ne_eq, implies_true, forall_const, if_true, if_false, cond_true, cond_false, forall_eq, List.replicate, ↓reduceIte, Nat.reduceEqDiff, Nat.reduceLT, Nat.reduceAdd, Nat.reduceSub, Nat.reduceMul, Nat.reduceLeDiff, dec_lt h, getD_map h, lt_int h, hx', hw]
      refine ⟨h, fun x hx2 => ?_⟩
      rw [List.take_succ_eq_append_getElem h] at hx2
      rcases List.mem_append.1 hx2 with hx2 | hx2
      · exact hI x hx2
      · simp only [List.mem_singleton] at hx2; rw [hx2, hx]
    · have hx' : (l[i] != 0) = true := by simp [hx]
      simp only [SE, TF, KD, GE, eq_self, ne_eq, implies_true, forall_const, if_true, if_false, cond_true, cond_false, forall_eq, List.replicate, ↓reduceIte, Nat.reduceEqDiff, Nat.reduceLT, Nat.reduceAdd, Nat.reduceSub, Nat.reduceMul, Nat.reduceLeDiff, dec_lt h, getD_map h, lt_int h, hx', orI]
      have : l.find? (fun x => x != 0) = some l[i] := by
        rw [List.find?_eq_some_iff_getElem]
        refine ⟨hx', i, h, rfl, fun j hj => ?_⟩
        have := hI l[j] (by rw [List.mem_take_iff_getElem]; exact ⟨j, by omega, rfl⟩)
        simp [this]
      rw [this]
      rfl
  · simp only [SE, TF, KD, GE, eq_self, ne_eq, implies_true, forall_const, if_true, if_false, cond_true, cond_false, forall_eq, List.replicate, ↓reduceIte, Nat.reduceEqDiff, Nat.reduceLT, Nat.reduceAdd, Nat.reduceSub, Nat.reduceMul, Nat.reduceLeDiff, dec_ge h, orI]
    rw [List.take_of_length_le h] at hI
    have : l.find? (fun x => x != 0) = none := by
      rw [List.find?_eq_none]
      intro x hx
      simp [hI x hx]
    rw [this]
    rfl

theorem compare_c (a b : Pos) : FnP Try.prog 56 [.agg (ePos a), .agg (ePos b)] (.d (eI (cmpPos a b))) [] := by
  refine FnP.of_eC (own := []) (fun _ => []) mixed Try.func56 rfl Try.call56 Try.ntmps56 (Nat.le_of_ble_eq_true rfl) Try.results56 (fun hok => ?_)
  simp only [SE, TF, KD, GE, eq_self, ne_eq, implies_true, forall_const, if_true, if_false, cond_true, cond_false, forall_eq, List.replicate, ↓reduceIte, Nat.reduceEqDiff, Nat.reduceLT, Nat.reduceAdd, Nat.reduceSub, Nat.reduceMul, Nat.reduceLeDiff, ECall']
  refine ⟨by kernel_rfl, _, cmp_c _ _, ?_⟩
  simp only [SE, TF, KD, GE, eq_self, ne_eq, implies_true, forall_const, if_true, if_false, cond_true, cond_false, forall_eq, List.replicate, ↓reduceIte, Nat.reduceEqDiff, Nat.reduceLT, Nat.reduceAdd, Nat.reduceSub, Nat.reduceMul, Nat.reduceLeDiff]
  refine ⟨_, cmp_c _ _, ?_⟩
  simp only [SE, TF, KD, GE, eq_self, ne_eq, implies_true, forall_const, if_true, if_false, cond_true, cond_false, forall_eq, List.replicate, ↓reduceIte, Nat.reduceEqDiff, Nat.reduceLT, Nat.reduceAdd, Nat.reduceSub, Nat.reduceMul, Nat.reduceLeDiff]
  refine ⟨_, cmp_c _ _, ?_⟩
  simp only [SE, TF, KD, GE, eq_self, ne_eq, implies_true, forall_const, if_true, if_false, cond_true, cond_false, forall_eq, List.replicate, ↓reduceIte, Nat.reduceEqDiff, Nat.reduceLT, Nat.reduceAdd, Nat.reduceSub, Nat.reduceMul, Nat.reduceLeDiff]
  refine EFn.p ?_
  simp only [SE, TF, KD, GE, eq_self, ne_eq, implies_true, forall_const, if_true, if_false, cond_true, cond_false, forall_eq, List.replicate, ↓reduceIte, Nat.reduceEqDiff, Nat.reduceLT, Nat.reduceAdd, Nat.reduceSub, Nat.reduceMul, Nat.reduceLeDiff, ECall]
  refine ⟨_, or_c [cmpI a.p b.p, cmpI a.f b.f, cmpI a.w b.w], ?_⟩
  simp only [SE, TF, KD, GE, eq_self, ne_eq, implies_true, forall_const, if_true, if_false, cond_true, cond_false, forall_eq, List.replicate, ↓reduceIte, Nat.reduceEqDiff, Nat.reduceLT, Nat.reduceAdd, Nat.reduceSub, Nat.reduceMul, Nat.reduceLeDiff, cmpPos]

theorem of_c (q : Patch) : FnP Try.prog 51 [.agg (ePatch q)] (.d (.agg (ePos (posOf q)))) [] := by
  refine FnP.of_eC (own := []) (fun _ => []) mixed Try.func51 rfl Try.call51 Try.ntmps51 (Nat.le_of_ble_eq_true rfl) Try.results51 (fun hok => ?_)
  simp only [SE, TF, KD, GE, eq_self, ne_eq, implies_true, forall_const, if_true, if_false, cond_true, cond_false, forall_eq, List.replicate, ↓reduceIte, Nat.reduceEqDiff, Nat.reduceLT, Nat.reduceAdd, Nat.reduceSub, Nat.reduceMul, Nat.reduceLeDiff]

theorem cmpPos_ge (a b : Patch) : cmpPos (posOf a) (posOf b) ≥ 0 ↔ ¬ a.lt b := by
  unfold cmpPos orI cmpI Patch.lt posOf
  simp only
  repeat' split
  all_goals simp_all
  all_goals omega

theorem normal2_c (l : List Patch) : FnP Try.prog 50 [ePatches l] (.d (eB (decide (Normal l)))) [] := by
  refine FnP.of_eC (own := []) (fun _ => []) mixed Try.func50 rfl Try.call50 Try.ntmps50 (Nat.le_of_ble_eq_true rfl) Try.results50 (fun hok => ?_)
  obtain ⟨hl, _⟩ := ok_map (okL_cons hok).1
  simp only [SE, TF, KD, GE, eq_self, ne_eq, implies_true, forall_const, if_true, if_false, cond_true, cond_false, forall_eq, List.replicate, ↓reduceIte, Nat.reduceEqDiff, Nat.reduceLT, Nat.reduceAdd, Nat.reduceSub, Nat.reduceMul, Nat.reduceLeDiff]
  refine eloop (fun _ => []) mixed l.length (fun i => normalTo l i) (fun i => ([(0, .d (ePatches l)), (5, .d (ePatches l)), (6, .d (eI l.length)), (7, .d (eI i))], [])) ?_ ?_ ?_ (fun i hi hI => ?_)
  · intro i hi; omega
  · simp [SE, TF, KD, GE, eq_self, ne_eq, implies_true, forall_const, if_true, if_false, cond_true, cond_false, forall_eq, List.replicate, ↓reduceIte, Nat.reduceEqDiff, Nat.reduceLT, Nat.reduceAdd, Nat.reduceSub, Nat.reduceMul, Nat.reduceLeDiff]
  · simp [SE, TF, KD, GE, eq_self, ne_eq, implies_true, forall_const, if_true, if_false, cond_true, cond_false, forall_eq, List.replicate, ↓reduceIte, Nat.reduceEqDiff, Nat.reduceLT, Nat.reduceAdd, Nat.reduceSub, Nat.reduceMul, Nat.reduceLeDiff]
  rcases Nat.lt_or_ge i l.length with h | h
  · have hw := wrap_succ (show i < 9223372036854775807 by omega)
    have hd : l.getD i default = l[i] := by simp [List.getD, h]
    by_cases hx : l[i].x = 0
    · have hx' : ((l[i].x : Int) == 0) = true := by simp [hx]
      simp only [SE, TF, KD, GE, eq_self, ne_eq, implies_true, forall_const, if_true, if_false, cond_true, cond_false, forall_eq, List.replicate, ↓reduceIte, Nat.reduceEqDiff, Nat.reduceLT, Nat.reduceAdd, Nat.reduceSub, Nat.reduceMul, Nat.reduceLeDiff, dec_lt h, getD_map h, lt_int h, hx']
      refine ⟨by kernel_rfl, ?_⟩
      rw [decide_eq_false]
      intro e
      exact (e i h).1 (by rw [hd]; exact hx)
    have hx' : ((l[i].x : Int) == 0) = false := by simp [hx]
    by_cases h0 : i = 0
    · have h0' : ((i : Int) > 0) = False := by simp; omega
      simp only [SE, TF, KD, GE, eq_self, ne_eq, implies_true, forall_const, if_true, if_false, cond_true, cond_false, forall_eq, List.replicate, ↓reduceIte, Nat.reduceEqDiff, Nat.reduceLT, Nat.reduceAdd, Nat.reduceSub, Nat.reduceMul, Nat.reduceLeDiff, dec_lt h, getD_map h, lt_int h, hx', h0', hw]
      refine ⟨by kernel_rfl, h, fun k hk => ?_⟩
      have : k = i := by omega
      subst this
      exact ⟨by rw [hd]; exact hx, fun h => absurd h (by omega)⟩
    · have h0' : ((i : Int) > 0) = True := by simp; omega
      have hs : IntKind.i64.wrap ((i : Int) - 1) = ((i - 1 : Nat) : Int) := by rw [wrap_id (by omega) (by omega)]; omega
      have hp : i - 1 < l.length := by omega
      have hd1 : l.getD (i - 1) default = l[i - 1] := by simp [List.getD, hp]
      simp only [SE, TF, KD, GE, eq_self, ne_eq, implies_true, forall_const, if_true, if_false, cond_true, cond_false, forall_eq, List.replicate, ↓reduceIte, Nat.reduceEqDiff, Nat.reduceLT, Nat.reduceAdd, Nat.reduceSub, Nat.reduceMul, Nat.reduceLeDiff, ECall', dec_lt h, getD_map h, getD_map hp, lt_int h, lt_int hp, hx', h0', hs]
      refine ⟨by kernel_rfl, _, of_c _, ?_⟩
      simp only [SE, TF, KD, GE, eq_self, ne_eq, implies_true, forall_const, if_true, if_false, cond_true, cond_false, forall_eq, List.replicate, ↓reduceIte, Nat.reduceEqDiff, Nat.reduceLT, Nat.reduceAdd, Nat.reduceSub, Nat.reduceMul, Nat.reduceLeDiff, h0', hx']
      refine ⟨_, of_c _, ?_⟩
      simp only [SE, TF, KD, GE, eq_self, ne_eq, implies_true, forall_const, if_true, if_false, cond_true, cond_false, forall_eq, List.replicate, ↓reduceIte, Nat.reduceEqDiff, Nat.reduceLT, Nat.reduceAdd, Nat.reduceSub, Nat.reduceMul, Nat.reduceLeDiff, h0', hx']
      refine ⟨_, compare_c ⟨_, _, _⟩ ⟨_, _, _⟩, ?_⟩
      by_cases hlt : l[i - 1].lt l[i]
      · have hc : (cmpPos (posOf l[i - 1]) (posOf l[i]) ≥ 0) = False := by simpa using fun h => (cmpPos_ge _ _).1 h hlt
        simp only [posOf] at hc
        simp only [SE, TF, KD, GE, eq_self, ne_eq, implies_true, forall_const, if_true, if_false, cond_true, cond_false, forall_eq, List.replicate, ↓reduceIte, Nat.reduceEqDiff, Nat.reduceLT, Nat.reduceAdd, Nat.reduceSub, Nat.reduceMul, Nat.reduceLeDiff, hc, hw, h0', hx']
        refine ⟨h, fun k hk => ?_⟩
        by_cases hk' : k < i
        · exact hI k hk'
        · have : k = i := by omega
          subst this
          exact ⟨by rw [hd]; exact hx, fun _ => by rw [hd, hd1]; exact hlt⟩
      · have hc : (cmpPos (posOf l[i - 1]) (posOf l[i]) ≥ 0) = True := by simpa using (cmpPos_ge _ _).2 hlt
        simp only [posOf] at hc
        simp only [SE, TF, KD, GE, eq_self, ne_eq, implies_true, forall_const, if_true, if_false, cond_true, cond_false, forall_eq, List.replicate, ↓reduceIte, Nat.reduceEqDiff, Nat.reduceLT, Nat.reduceAdd, Nat.reduceSub, Nat.reduceMul, Nat.reduceLeDiff, hc, h0', hx']
        rw [decide_eq_false]
        intro e
        have := (e i h).2 (by omega)
        rw [hd, hd1] at this
        exact hlt this
  · simp only [SE, TF, KD, GE, eq_self, ne_eq, implies_true, forall_const, if_true, if_false, cond_true, cond_false, forall_eq, List.replicate, ↓reduceIte, Nat.reduceEqDiff, Nat.reduceLT, Nat.reduceAdd, Nat.reduceSub, Nat.reduceMul, Nat.reduceLeDiff, dec_ge h]
    rw [decide_eq_true]
    intro i hi'
    exact hI i (by omega)
end Go.Proofs.Ytcamhcnjomddbaa

/-
  MAPS WHOSE KEYS ARE POSITIONS.
-/
namespace Go.Proofs.Ytcamhcnjomddbaa
open Go.Aw
set_option maxRecDepth 100000
theorem keyed91 : Keyed' Try.prog 91 := Go.Maps.Keyed.of_law (deep_law_laid (P := Try.prog) (by kernel_rfl) (m := 3) (by omega) (Nat.le_of_ble_eq_true (by kernel_rfl)) (by kernel_rfl) (by kernel_rfl))
def posIn (p : Pos) : Prop := (Lit.int .i64 p.p).wf = true ∧ (Lit.int .i64 p.f).wf = true ∧ (Lit.int .i64 p.w).wf = true
def fsOf (P : Program) (t : TypeId) : Option (List (TypeId × Nat) × Bool) := match P.underlying t with
  | some (.struct fs) => some (fs.toList.map fun f => (f.type, f.offset), fs.all (·.name != "_"))
  | _ => none
theorem fs91 : fsOf Try.prog 91 = some ([(3, 0), (3, 1), (3, 2)], true) := by kernel_rfl
theorem key91 : Try.prog.keyType 91 = true := by kernel_rfl
theorem cells91 : Try.prog.cellsOf 91 = 3 := by kernel_rfl
theorem cells3 : Try.prog.cellsOf 3 = 1 := by kernel_rfl
theorem size2 : ∃ n, Try.prog.types.size = n + 1 := ⟨_, (by kernel_rfl : Try.prog.types.size = (Try.prog.types.size - 1) + 1)⟩
def eKey (p : Pos) : D := .agg (ePos p)
theorem keyOk_pos {p : Pos} (h : posIn p) : KeyOk Try.prog 91 (eKey p) := by
  have hf := fs91
  unfold fsOf at hf
  split at hf
  · rename_i fs hu
    simp only [Option.some.injEq, Prod.mk.injEq] at hf
    obtain ⟨h1, h2⟩ := hf
    obtain ⟨n, hn⟩ := size2
    have hmap : ∀ (g : TypeId × Nat → Option (List Lit)), fs.toList.mapM (fun f => g (f.type, f.offset)) = List.mapM g [(3, 0), (3, 1), (3, 2)] := by
      intro g
      rw [← h1, List.mapM_map]
      rfl
    have one : ∀ x, (Lit.int .i64 x).wf = true → Try.prog.keyLits (n + 1) 3 [Value.int .i64 x] = some [Lit.int .i64 x] := by
      intro x hx
      simp [Program.keyLits, tU3, hx]
    have : Try.prog.keyLits (Try.prog.types.size + 1) 91 [Value.int .i64 p.p, .int .i64 p.f, .int .i64 p.w] = some [.int .i64 p.p, .int .i64 p.f, .int .i64 p.w] := by
      rw [hn]
      unfold Program.keyLits
      rw [hu]
      simp only [List.length_cons, List.length_nil, cells91, h2, and_self, if_true]
      have := hmap (fun x => Program.keyLits Try.prog (n + 1) x.1 ((List.drop x.2 [Value.int .i64 p.p, .int .i64 p.f, .int .i64 p.w]).take (Try.prog.cellsOf x.1)))
      simp only at this
      rw [this]
      simp [cells3, one _ h.1, one _ h.2.1, one _ h.2.2]
    refine ⟨.agg #[.int .i64 p.p, .int .i64 p.f, .int .i64 p.w], .string (keyBytes [.int .i64 p.p, .int .i64 p.f, .int .i64 p.w]), rfl, ?_⟩
    have hform : Value.formed Try.prog 91 (.agg #[.int .i64 p.p, .int .i64 p.f, .int .i64 p.w]) = true := by
      simp [Value.formed, hu, cells91]
    unfold keyOf
    rw [hu]
    simp only [key91, hform, Bool.and_self, if_true]
    have hc : (Value.agg #[.int .i64 p.p, .int .i64 p.f, .int .i64 p.w]).cells.toList = [Value.int .i64 p.p, .int .i64 p.f, .int .i64 p.w] := rfl
    rw [hc, this]
    rfl
  · cases hf
theorem eKey_inj {p q : Pos} (h : eKey p = eKey q) : p = q := by
  obtain ⟨a, b, c⟩ := p
  obtain ⟨a', b', c'⟩ := q
  simp [eKey, ePos, eI] at h
  simp [h]

/-! ### Entries -/
section
variable {α : Type} {key : α → D} {l : List α}
theorem kidx_new {k : D} (h : k ∉ l.map key) : ¬ kidx (l.map key) k < (l.map key).length := fun h' => h (kidx_lt.1 h')
theorem kidx_del (hn : (l.map key).Nodup) (k : D) [DecidableEq D] : l.eraseIdx (kidx (l.map key) k) = l.filter (fun x => decide (key x ≠ k)) := by
  by_cases hk : k ∈ l.map key
  · obtain ⟨x, hx, rfl⟩ := List.mem_map.1 hk
    obtain ⟨j, hj, rfl⟩ := List.getElem_of_mem hx
    have hi : kidx (l.map key) (key l[j]) = j := kidx_eq hn (by simp [hj])
    rw [hi]
    induction l generalizing j with
    | nil => simp at hj
    | cons y r ih =>
      rw [List.map_cons, List.nodup_cons] at hn
      cases j with
      | zero =>
        simp only [List.getElem_cons_zero, List.eraseIdx_cons_zero, List.filter_cons, ne_eq, not_true_eq_false, decide_false, Bool.false_eq_true, if_false]
        rw [List.filter_eq_self.2]
        intro z hz
        simp only [decide_eq_true_eq]
        intro e
        exact hn.1 (e ▸ List.mem_map_of_mem hz)
      | succ j =>
        have hj' : j < r.length := by simpa using hj
        have hne : key y ≠ key r[j] := fun e => hn.1 (e ▸ List.mem_map_of_mem (List.getElem_mem hj'))
        simp only [List.getElem_cons_succ, List.eraseIdx_cons_succ, List.filter_cons, ne_eq, hne, not_false_eq_true, decide_true, if_true]
        rw [ih hn.2 j hj' (List.getElem_mem hj') (List.mem_map_of_mem (List.getElem_mem hj')) (kidx_eq hn.2 (by simp only [List.getElem?_map, List.getElem?_eq_getElem hj', Option.map_some]))]
  · have h1 := kidx_new hk
    rw [List.eraseIdx_of_length_le (by simpa using h1), List.filter_eq_self.2]
    intro z hz
    simp only [decide_eq_true_eq]
    intro e
    exact hk (e ▸ List.mem_map_of_mem hz)
theorem eraseIdx_map' {β γ : Type} (f : β → γ) : ∀ (l : List β) (i : Nat), (l.map f).eraseIdx i = (l.eraseIdx i).map f
  | [], _ => rfl
  | _ :: _, 0 => rfl
  | x :: l, i + 1 => by simp [eraseIdx_map' f l i]
theorem mget_find {val : α → D} [DecidableEq D] (k : D) : mget (l.map key) (l.map val) k = (l.find? fun x => decide (key x = k)).map val := by
  unfold mget
  by_cases hk : k ∈ l.map key
  · rw [if_pos (kidx_lt.2 hk)]
    have h1 : kidx (l.map key) k = l.findIdx fun x => decide (key x = k) := by
      unfold kidx
      rw [List.findIdx_map]
      congr 1
      funext x
      exact decide_eq_decide.2 Iff.rfl
    rw [h1, List.getElem?_map, List.find?_eq_getElem?_findIdx]
  · rw [if_neg (kidx_new hk)]
    have : l.find? (fun x => decide (key x = k)) = none := by
      rw [List.find?_eq_none]
      intro x hx
      simp only [decide_eq_true_eq]
      intro e
      exact hk (e ▸ List.mem_map_of_mem hx)
    rw [this]; rfl
end
end Go.Proofs.Ytcamhcnjomddbaa

/-
  CONTRACTS: lists applied by package delta.
-/
namespace Go.Proofs.Ytcamhcnjomddbaa
open Go.Aw
set_option maxRecDepth 100000
set_option maxHeartbeats 2000000
abbrev Ents := List (Patch × Nat)
def eKs (R : Ents) : List D := R.map fun e => eKey (posOf e.1)
def eVs (R : Ents) : List D := R.map fun e => eU e.1.x
def eBs (R : Ents) : List Nat := R.map (·.2)
def valR (R : Ents) (p : Pos) : Nat := ((R.find? fun e => posOf e.1 = p).map (·.1.x)).getD 0
def stepW (s : Frames × Ents) (q : Pos × Nat) : Frames × Ents := (setW s.1 q.1.p.toNat q.1.f.toNat q.1.w.toNat (xorN (wordAt s.1 q.1) (valR s.2 q.1)), s.2.filter fun e => posOf e.1 ≠ q.1)
def runW (l : List Patch) (A : Frames) (ws : List (Pos × Nat)) : Frames × Ents := ws.foldl stepW (A, l.zipIdx)
def applyD (A : Frames) (l : List Patch) : Frames × Int := if Normal l then (if (runW l A (wordsA A)).2 = [] then ((runW l A (wordsA A)).1, 0) else ([], 490)) else ([], 490)

theorem Patch.lt_trans {a b c : Patch} (h1 : a.lt b) (h2 : b.lt c) : a.lt c := by
  unfold Patch.lt at *; omega
theorem Patch.lt_pos {a b : Patch} (h : a.lt b) : posOf a ≠ posOf b := by
  intro e
  simp only [posOf, Pos.mk.injEq] at e
  unfold Patch.lt at h
  omega
theorem normal_lt {l : List Patch} (h : Normal l) : ∀ i j (hi : i < j) (hj : j < l.length), l[i].lt l[j] := by
  intro i j
  induction j with
  | zero => intro hi; omega
  | succ j ih =>
    intro hi hj
    have h1 := (h (j + 1) hj).2 (by omega)
    have e1 : l.getD (j + 1) default = l[j + 1] := by simp [List.getD, hj]
    have e2 : l.getD j default = l[j] := by simp only [List.getD, List.getElem?_eq_getElem (show j < l.length by omega), Option.getD_some]
    rw [Nat.add_sub_cancel, e1, e2] at h1
    by_cases hij : i = j
    · subst hij; exact h1
    · exact Patch.lt_trans (ih (by omega) (by omega)) h1
theorem normal_nodup {l : List Patch} (h : Normal l) : (l.map posOf).Nodup := by
  rw [List.nodup_iff_pairwise_ne, List.pairwise_map, List.pairwise_iff_getElem]
  intro i j hi hj hij
  exact Patch.lt_pos (normal_lt h i j hij hj)
theorem eKs_nodup {R : Ents} (h : (R.map fun e => posOf e.1).Nodup) : (eKs R).Nodup := by
  unfold eKs
  rw [List.nodup_iff_pairwise_ne, List.pairwise_map] at h ⊢
  exact h.imp fun hne e => hne (eKey_inj e)
theorem eKs_del {R : Ents} (h : (R.map fun e => posOf e.1).Nodup) (p : Pos) : R.eraseIdx (kidx (eKs R) (eKey p)) = R.filter fun e => posOf e.1 ≠ p := by
  classical
  have := kidx_del (key := fun e : Patch × Nat => eKey (posOf e.1)) (l := R) (eKs_nodup h) (eKey p)
  unfold eKs
  rw [this]
  congr 1
  funext e
  exact decide_eq_decide.2 ⟨fun h1 h2 => h1 (by rw [h2]), fun h1 h2 => h1 (eKey_inj h2)⟩
theorem delK_e {R : Ents} (h : (R.map fun e => posOf e.1).Nodup) (p : Pos) : delK (eKs R) (eKey p) = eKs (R.filter fun e => posOf e.1 ≠ p) := by
  rw [← eKs_del h, delK, eKs, eKs, eraseIdx_map']
theorem delV_e {R : Ents} (h : (R.map fun e => posOf e.1).Nodup) (p : Pos) : delV (eKs R) (eVs R) (eKey p) = eVs (R.filter fun e => posOf e.1 ≠ p) := by
  rw [← eKs_del h, delV, eVs, eVs, eraseIdx_map']
theorem delB_e {R : Ents} (h : (R.map fun e => posOf e.1).Nodup) (p : Pos) : delB (eKs R) (eBs R) (eKey p) = eBs (R.filter fun e => posOf e.1 ≠ p) := by
  rw [← eKs_del h, delB, eBs, eBs, eraseIdx_map']
theorem mget_e (R : Ents) (p : Pos) : (mget (eKs R) (eVs R) (eKey p)).getD (.lit (.int .u64 0)) = .lit (.int .u64 (valR R p)) := by
  classical
  have := mget_find (key := fun e : Patch × Nat => eKey (posOf e.1)) (val := fun e : Patch × Nat => eU e.1.x) (l := R) (eKey p)
  unfold eKs eVs
  rw [this]
  have e1 : (fun x : Patch × Nat => decide (eKey (posOf x.1) = eKey p)) = fun e => decide (posOf e.1 = p) := by
    funext e
    exact decide_eq_decide.2 ⟨fun h => eKey_inj h, fun h => by rw [h]⟩
  rw [e1, valR]
  cases R.find? fun e => decide (posOf e.1 = p) <;> rfl
theorem put_new {R : Ents} {q : Patch} (n : Nat) (h : posOf q ∉ R.map fun e => posOf e.1) : ¬ kidx (eKs R) (eKey (posOf q)) < (eKs R).length := by
  refine kidx_new (key := fun e : Patch × Nat => eKey (posOf e.1)) (fun hm => h ?_)
  obtain ⟨e, he, h2⟩ := List.mem_map.1 hm
  exact List.mem_map.2 ⟨e, he, eKey_inj h2⟩

theorem runW_step (l : List Patch) (A : Frames) (ws : List (Pos × Nat)) (n : Nat) (h : n < ws.length) : runW l A (ws.take (n + 1)) = stepW (runW l A (ws.take n)) ws[n] := by
  rw [List.take_succ_eq_append_getElem h, runW, List.foldl_append]; rfl
theorem runW_inv (l : List Patch) (A : Frames) (ws : List (Pos × Nat)) : shape A = shape (runW l A ws).1 ∧ (runW l A ws).2.Sublist l.zipIdx := by
  have : ∀ (ws : List (Pos × Nat)) (s : Frames × Ents), shape s.1 = shape (ws.foldl stepW s).1 ∧ (ws.foldl stepW s).2.Sublist s.2 := by
    intro ws
    induction ws with
    | nil => intro s; exact ⟨rfl, List.Sublist.refl _⟩
    | cons q ws ih =>
      intro s
      obtain ⟨h1, h2⟩ := ih (stepW s q)
      refine ⟨?_, h2.trans List.filter_sublist⟩
      rw [List.foldl_cons, ← h1]
      exact (shape_setW _ _ _ _ _).symm
  exact this ws (A, l.zipIdx)
theorem wf_nat {n : Nat} (h : n ≤ 2000000) : (Lit.int .i64 (n : Int)).wf = true := by
  simp [Lit.wf, IntKind.min, IntKind.max, IntKind.bits, IntKind.signed]
  omega
theorem zipIdx_fst {α : Type} (l : List α) : l.zipIdx.map (·.1) = l := by simp
theorem apply_c (A : Frames) (l : List Patch) (hs : small A) (hin : ∀ q ∈ l, posIn (posOf q)) : FnP Try.prog 38 [eSet A, ePatches l] (.tup [.d (eSet (applyD A l).1), .d (eI (applyD A l).2)]) [] := by
  refine FnP.of_eC (own := [(49, [(63, 1)]), (54, [(62, 1), (63, 1)])]) (fun id => if id = 9 then [.adBd 9 0 90 60 1 [(62, 1), (63, 1)]] else []) mixed Try.func38 rfl Try.call38 Try.ntmps38 (Nat.le_of_ble_eq_true rfl) Try.results38 (fun hok => ?_)
  obtain ⟨hl, _⟩ := ok_map (okL_cons (okL_cons hok).2).1
  have hokA := (okL_cons hok).1
  obtain ⟨hs1, hs2⟩ := hs
  simp only [SE, TF, KD, GE, eq_self, ne_eq, implies_true, forall_const, if_true, if_false, cond_true, cond_false, forall_eq, List.replicate, ↓reduceIte, Nat.reduceEqDiff, Nat.reduceLT, Nat.reduceAdd, Nat.reduceSub, Nat.reduceMul, Nat.reduceLeDiff]
  refine EFn.p ?_
  simp only [SE, TF, KD, GE, eq_self, ne_eq, implies_true, forall_const, if_true, if_false, cond_true, cond_false, forall_eq, List.replicate, ↓reduceIte, Nat.reduceEqDiff, Nat.reduceLT, Nat.reduceAdd, Nat.reduceSub, Nat.reduceMul, Nat.reduceLeDiff, ECall]
  refine ⟨_, normal2_c _, ?_⟩
  by_cases hN : Normal l
  · have hnd := normal_nodup hN
    simp only [SE, TF, KD, GE, eq_self, ne_eq, implies_true, forall_const, if_true, if_false, cond_true, cond_false, forall_eq, List.replicate, ↓reduceIte, Nat.reduceEqDiff, Nat.reduceLT, Nat.reduceAdd, Nat.reduceSub, Nat.reduceMul, Nat.reduceLeDiff, hN, decide_true]
    refine eloop (fun _ => []) mixed l.length (fun i => True) (fun i => ([(0, .d (eSet A)), (6, .bp 6 0), (20, .d (ePatches l)), (21, .d (eI l.length)), (22, .d (eI i))], [(6, .box [.mo 19]), (19, .map (eKs (l.take i).zipIdx) (eVs (l.take i).zipIdx) (eBs (l.take i).zipIdx) i)])) ?_ ?_ ?_ (fun i hi hI => ?_)
    · trivial
    · simp [SE, TF, KD, GE, eq_self, ne_eq, implies_true, forall_const, if_true, if_false, cond_true, cond_false, forall_eq, List.replicate, ↓reduceIte, Nat.reduceEqDiff, Nat.reduceLT, Nat.reduceAdd, Nat.reduceSub, Nat.reduceMul, Nat.reduceLeDiff]
    · simp [SE, TF, KD, GE, eq_self, ne_eq, implies_true, forall_const, if_true, if_false, cond_true, cond_false, forall_eq, List.replicate, ↓reduceIte, Nat.reduceEqDiff, Nat.reduceLT, Nat.reduceAdd, Nat.reduceSub, Nat.reduceMul, Nat.reduceLeDiff, eKs, eVs, eBs]
    rcases Nat.lt_or_ge i l.length with h | h
    · have hw := wrap_succ (show i < 9223372036854775807 by omega)
      simp only [SE, TF, KD, GE, eq_self, ne_eq, implies_true, forall_const, if_true, if_false, cond_true, cond_false, forall_eq, List.replicate, ↓reduceIte, Nat.reduceEqDiff, Nat.reduceLT, Nat.reduceAdd, Nat.reduceSub, Nat.reduceMul, Nat.reduceLeDiff, ECall', dec_lt h, getD_map h, lt_int h, hw]
      refine ⟨by kernel_rfl, _, of_c _, ?_⟩
      simp only [SE, TF, KD, GE, eq_self, ne_eq, implies_true, forall_const, if_true, if_false, cond_true, cond_false, forall_eq, List.replicate, ↓reduceIte, Nat.reduceEqDiff, Nat.reduceLT, Nat.reduceAdd, Nat.reduceSub, Nat.reduceMul, Nat.reduceLeDiff, hw]
      have hnew : posOf l[i] ∉ (l.take i).zipIdx.map fun e => posOf e.1 := by
        intro hm
        obtain ⟨e, he, h2⟩ := List.mem_map.1 hm
        have h3 := List.fst_mem_of_mem_zipIdx he
        obtain ⟨j, hj, h4⟩ := List.getElem_of_mem h3
        rw [List.length_take] at hj
        rw [List.getElem_take] at h4
        have h5 := Patch.lt_pos (normal_lt hN j i (by omega) h)
        rw [h4] at h5
        exact h5 h2
      have hk := put_new 0 hnew
      have hz : (l.take (i + 1)).zipIdx = (l.take i).zipIdx ++ [(l[i], i)] := by
        rw [List.take_succ_eq_append_getElem h, List.zipIdx_append]
        simp [Nat.min_eq_left (Nat.le_of_lt h)]
      refine ⟨⟨keyed91, keyOk_pos (hin _ (by simp)), fun y hy => ?_⟩, h, ?_⟩
      · obtain ⟨e, he, rfl⟩ := List.mem_map.1 hy
        exact keyOk_pos (hin _ (List.mem_of_mem_take (List.fst_mem_of_mem_zipIdx he)))
      · have e1 : ∀ (x : D), x = eKey (posOf l[i]) → AO.map (putK (eKs (l.take i).zipIdx) x) (putV (eKs (l.take i).zipIdx) (eVs (l.take i).zipIdx) x (D.lit (.int .u64 l[i].x))) (putB (eKs (l.take i).zipIdx) (eBs (l.take i).zipIdx) i x) (putC (eKs (l.take i).zipIdx) i x) = AO.map (eKs (l.take (i + 1)).zipIdx) (eVs (l.take (i + 1)).zipIdx) (eBs (l.take (i + 1)).zipIdx) (i + 1) := by
          rintro x rfl
          rw [hz]
          simp only [putK, putV, putB, putC, if_neg hk]
          simp only [eKs, eVs, eBs, List.map_append, List.map_cons, List.map_nil, eU]
        exact e1 _ rfl
    · simp only [SE, TF, KD, GE, eq_self, ne_eq, implies_true, forall_const, if_true, if_false, cond_true, cond_false, forall_eq, List.replicate, ↓reduceIte, Nat.reduceEqDiff, Nat.reduceLT, Nat.reduceAdd, Nat.reduceSub, Nat.reduceMul, Nat.reduceLeDiff, dec_ge h]
      have : i = l.length := by omega
      subst this
      rw [List.take_length]
      refine eloop (fun id => if id = 13 then [.adTd 12 91 62 1 [(63, 1)]] else []) mixed A.length (fun i => True) (fun i => ([(0, .d (eSet A)), (6, .bp 6 0), (9, .bp 9 0), (32, .d (eSet A)), (33, .d (eI A.length)), (34, .d (eI i))], [(6, .box [.mo 19]), (19, .map (eKs l.zipIdx) (eVs l.zipIdx) (eBs l.zipIdx) l.length), (9, .box [.ar 90 i]), (90, .arr 60 1 (.deep [(62, 1), (63, 1)] []) (rSet (A.take i)))])) ?_ ?_ ?_ (fun i hi hI => ?_)
      · trivial
      · simp [SE, TF, KD, GE, eq_self, ne_eq, implies_true, forall_const, if_true, if_false, cond_true, cond_false, forall_eq, List.replicate, ↓reduceIte, Nat.reduceEqDiff, Nat.reduceLT, Nat.reduceAdd, Nat.reduceSub, Nat.reduceMul, Nat.reduceLeDiff]
      · simp [SE, TF, KD, GE, eq_self, ne_eq, implies_true, forall_const, if_true, if_false, cond_true, cond_false, forall_eq, List.replicate, ↓reduceIte, Nat.reduceEqDiff, Nat.reduceLT, Nat.reduceAdd, Nat.reduceSub, Nat.reduceMul, Nat.reduceLeDiff, rSet]
      have hlen := take_len A i (by omega)
      rcases Nat.lt_or_ge i A.length with h1 | h1
      · have hw1 := wrap_succ (show i < 9223372036854775807 by omega)
        obtain ⟨h2, h3⟩ := hs2 A[i] (by simp)
        simp only [SE, TF, KD, GE, eq_self, ne_eq, implies_true, forall_const, if_true, if_false, cond_true, cond_false, forall_eq, List.replicate, ↓reduceIte, Nat.reduceEqDiff, Nat.reduceLT, Nat.reduceAdd, Nat.reduceSub, Nat.reduceMul, Nat.reduceLeDiff, dec_lt h1, lt_int h1, getD_map h1]
        refine eloop (fun _ => []) mixed A[i].length (fun j => True) (fun j => ([(0, .d (eSet A)), (6, .bp 6 0), (9, .bp 9 0), (32, .d (eSet A)), (33, .d (eI A.length)), (34, .d (eI i)), (12, .ar 91 j), (38, .d (eRowS A[i])), (39, .d (eI A[i].length)), (40, .d (eI j))], [(6, .box [.mo 19]), (19, .map (eKs l.zipIdx) (eVs l.zipIdx) (eBs l.zipIdx) l.length), (9, .box [.ar 90 i]), (90, .arr 60 1 (.deep [(62, 1), (63, 1)] []) (rSet (A.take i))), (91, .arr 62 1 (.deep [(63, 1)] []) (rRow (A[i].take j)))])) ?_ ?_ ?_ (fun j hj hJ => ?_)
        · trivial
        · simp [SE, TF, KD, GE, eq_self, ne_eq, implies_true, forall_const, if_true, if_false, cond_true, cond_false, forall_eq, List.replicate, ↓reduceIte, Nat.reduceEqDiff, Nat.reduceLT, Nat.reduceAdd, Nat.reduceSub, Nat.reduceMul, Nat.reduceLeDiff, eRowS]
        · simp [SE, TF, KD, GE, eq_self, ne_eq, implies_true, forall_const, if_true, if_false, cond_true, cond_false, forall_eq, List.replicate, ↓reduceIte, Nat.reduceEqDiff, Nat.reduceLT, Nat.reduceAdd, Nat.reduceSub, Nat.reduceMul, Nat.reduceLeDiff, rRow]
        have hlen' := take_len A[i] j (by omega)
        rcases Nat.lt_or_ge j A[i].length with h' | h'
        · have hw' := wrap_succ (show j < 9223372036854775807 by omega)
          have h4 := h3 _ (List.getElem_mem h')
          simp only [SE, TF, KD, GE, eq_self, ne_eq, implies_true, forall_const, if_true, if_false, cond_true, cond_false, forall_eq, List.replicate, ↓reduceIte, Nat.reduceEqDiff, Nat.reduceLT, Nat.reduceAdd, Nat.reduceSub, Nat.reduceMul, Nat.reduceLeDiff, eRowS, dec_lt h', getD_map h', lt_int h', hw']
          refine EFn.g ⟨[(5, 92)], [.d (eWords A[i][j])], _, _, clone_c _ h4, ?_⟩
          simp only [SE, TF, KD, GE, eq_self, ne_eq, implies_true, forall_const, if_true, if_false, cond_true, cond_false, forall_eq, List.replicate, ↓reduceIte, Nat.reduceEqDiff, Nat.reduceLT, Nat.reduceAdd, Nat.reduceSub, Nat.reduceMul, Nat.reduceLeDiff]
          rintro V ol new ⟨rfl, rfl, rfl⟩
          simp only [SE, TF, KD, GE, eq_self, ne_eq, implies_true, forall_const, if_true, if_false, cond_true, cond_false, forall_eq, List.replicate, ↓reduceIte, Nat.reduceEqDiff, Nat.reduceLT, Nat.reduceAdd, Nat.reduceSub, Nat.reduceMul, Nat.reduceLeDiff, hw']
          refine ⟨(rWords_len _).symm, (rWords_len _).symm, ⟨⟨?_, ?_⟩, ?_⟩, h', ?_, ?_⟩
          · simp only [rRow_len]; omega
          · simp only [rRow_len]; omega
          · simp only [rRow_len]; omega
          · simp only [rRow_len, hlen']
          · exact congrArg _ (take_map_snoc eFrame A[i] j h')
        · simp only [SE, TF, KD, GE, eq_self, ne_eq, implies_true, forall_const, if_true, if_false, cond_true, cond_false, forall_eq, List.replicate, ↓reduceIte, Nat.reduceEqDiff, Nat.reduceLT, Nat.reduceAdd, Nat.reduceSub, Nat.reduceMul, Nat.reduceLeDiff, eRowS, dec_ge h', hlen, hlen', hw1]
          refine ⟨?_, ⟨⟨?_, ?_⟩, ?_⟩, ?_, h1, ?_, ?_⟩
          · simp only [rRow_len]; omega
          · simp only [rSet_len]; omega
          · simp only [rSet_len]; omega
          · simp only [rSet_len]; omega
          · simp
          · simp only [rSet_len, hlen]
          · rw [List.take_of_length_le h']; exact congrArg _ (take_map_snoc eRow A i h1)
      · have : i = A.length := by omega
        subst this
        simp only [SE, TF, KD, GE, eq_self, ne_eq, implies_true, forall_const, if_true, if_false, cond_true, cond_false, forall_eq, List.replicate, ↓reduceIte, Nat.reduceEqDiff, Nat.reduceLT, Nat.reduceAdd, Nat.reduceSub, Nat.reduceMul, Nat.reduceLeDiff, dec_ge h1, hlen]
        refine EFn.p ?_
        simp only [SE, TF, KD, GE, eq_self, ne_eq, implies_true, forall_const, if_true, if_false, cond_true, cond_false, forall_eq, List.replicate, ↓reduceIte, Nat.reduceEqDiff, Nat.reduceLT, Nat.reduceAdd, Nat.reduceSub, Nat.reduceMul, Nat.reduceLeDiff, ECall]
        refine ⟨_, words_fc _, ?_⟩
        simp only [SE, TF, KD, GE, eq_self, ne_eq, implies_true, forall_const, if_true, if_false, cond_true, cond_false, forall_eq, List.replicate, ↓reduceIte, Nat.reduceEqDiff, Nat.reduceLT, Nat.reduceAdd, Nat.reduceSub, Nat.reduceMul, Nat.reduceLeDiff, List.take_length]
        refine erangeL mixed (fun pre _ id => if id = 1023 then [.opn 90 ((wordsA A).getD pre.length default).1.p.toNat 0 93 (rRow ((runW l A ((wordsA A).take pre.length)).1.getD ((wordsA A).getD pre.length default).1.p.toNat [])), .opn 93 ((wordsA A).getD pre.length default).1.f.toNat 0 94 (rWords (((runW l A ((wordsA A).take pre.length)).1.getD ((wordsA A).getD pre.length default).1.p.toNat []).getD ((wordsA A).getD pre.length default).1.f.toNat []))] else if id = 23 then [.cls 93 ((wordsA A).getD pre.length default).1.f.toNat 0 94, .cls 90 ((wordsA A).getD pre.length default).1.p.toNat 0 93] else []) rfl (by simp only [SE, TF, KD, GE, eq_self, ne_eq, implies_true, forall_const, if_true, if_false, cond_true, cond_false, forall_eq, List.replicate, ↓reduceIte, Nat.reduceEqDiff, Nat.reduceLT, Nat.reduceAdd, Nat.reduceSub, Nat.reduceMul, Nat.reduceLeDiff]) (words_it A hokA)
          (fun pre => [(6, .box [.mo 19]), (19, .map (eKs (runW l A ((wordsA A).take pre.length)).2) (eVs (runW l A ((wordsA A).take pre.length)).2) (eBs (runW l A ((wordsA A).take pre.length)).2) l.length), (9, .box [.ar 90 A.length]), (90, .arr 60 1 (.deep [(62, 1), (63, 1)] []) (rSet (runW l A ((wordsA A).take pre.length)).1))]) ?_ ?_ ?_ ?_ ?_
        · simp only [SE, TF, KD, GE, eq_self, ne_eq, implies_true, forall_const, if_true, if_false, cond_true, cond_false, forall_eq, List.replicate, ↓reduceIte, Nat.reduceEqDiff, Nat.reduceLT, Nat.reduceAdd, Nat.reduceSub, Nat.reduceMul, Nat.reduceLeDiff, List.length_nil, List.take_zero, runW, List.foldl_nil]
        · intro pre; simp [noExtL, isExt]
        · simp only [SE, TF, KD, GE, eq_self, ne_eq, implies_true, forall_const, if_true, if_false, cond_true, cond_false, forall_eq, List.replicate, ↓reduceIte, Nat.reduceEqDiff, Nat.reduceLT, Nat.reduceAdd, Nat.reduceSub, Nat.reduceMul, Nat.reduceLeDiff, psOk, keysT]
        · intro pre x hA
          obtain ⟨hlt, hx, htk⟩ := pre_next hA
          obtain ⟨i, j, k, h1, h2, h3, hq⟩ := wordsA_mem (List.getElem_mem hlt)
          obtain ⟨B, R, hBR⟩ : ∃ B R, runW l A ((wordsA A).take pre.length) = (B, R) := ⟨_, _, rfl⟩
          obtain ⟨hsh, hsub⟩ := runW_inv l A ((wordsA A).take pre.length)
          rw [hBR] at hsh hsub
          simp only at hsh hsub
          obtain ⟨g1, g2, g3⟩ := shape_in hsh h1 h2 h3
          have hqD : (wordsA A).getD pre.length default = (⟨i, j, k⟩, A[i][j][k]) := by rw [← hq]; simp only [List.getD, List.getElem?_eq_getElem hlt, Option.getD_some]
          have hplus : ∀ y : List D, (pre ++ [y]).length = pre.length + 1 := by intro y; simp
          have hstep := runW_step l A (wordsA A) pre.length hlt
          rw [hBR, hq] at hstep
          have eB : B.getD i [] = B[i] := by simp [List.getD, g1]
          have eB2 : B[i].getD j [] = B[i][j] := by simp [List.getD, g2]
          have eB3 : B[i][j].getD k 0 = B[i][j][k] := by simp [List.getD, g3]
          simp only [stepW, setW, wordAt, Int.toNat_natCast, eB, eB2, eB3] at hstep
          subst hx
          have hAB : A.length = B.length := shape_len hsh
          have hmg := mget_e R ⟨i, j, k⟩
          simp only [eKey, ePos, eI] at hmg
          have hxor := xorU_N B[i][j][k] (valR R ⟨i, j, k⟩)
          unfold xorU at hxor
          have hlp : (0 ≤ (i : Int) ∧ (i : Int) < (A.length : Int)) = True := by simp; omega
          simp only [hBR, hqD, hq, eB, eB2, Int.toNat_natCast]
          simp (config := { maxSteps := 1000000 }) only [eW, SE, TF, KD, GE, eq_self, ne_eq, implies_true, forall_const, if_true, if_false, cond_true, cond_false, forall_eq, List.replicate, ↓reduceIte, Nat.reduceEqDiff, Nat.reduceLT, Nat.reduceAdd, Nat.reduceSub, Nat.reduceMul, Nat.reduceLeDiff, zipL, roundE, noExtL, isExt, bodyE, keysT, rSet_len, rRow_len, rWords_len, getD_rSet g1, getD_rRow g2, getD_rWords g3, lt_int g1, lt_int g2, lt_int g3, hlp, hmg, hxor, rWords_set]
          rw [hplus, hstep]
          have k1 : KeyOk Try.prog 91 (eKey ⟨i, j, k⟩) := by
            refine keyOk_pos ⟨wf_nat (by omega), wf_nat ?_, wf_nat ?_⟩
            · have := (hs2 A[i] (by simp)).1; omega
            · have := (hs2 A[i] (by simp)).2 A[i][j] (by simp); omega
          have k2 : ∀ y, y ∈ eKs R → KeyOk Try.prog 91 y := by
            intro y hy
            obtain ⟨e, he, rfl⟩ := List.mem_map.1 hy
            exact keyOk_pos (hin _ (List.fst_mem_of_mem_zipIdx (hsub.subset he)))
          have k3 : (R.map fun e => posOf e.1).Nodup := by
            refine List.Nodup.sublist (hsub.map _) ?_
            have : (l.zipIdx.map fun e => posOf e.1) = l.map posOf := by
              rw [← zipIdx_fst l, List.map_map, zipIdx_fst]; rfl
            rw [this]; exact hnd
          have d1 := delK_e k3 ⟨i, j, k⟩
          have d2 := delV_e k3 ⟨i, j, k⟩
          have d3 := delB_e k3 ⟨i, j, k⟩
          simp only [eKey, ePos, eI] at d1 d2 d3 k1
          have w1 := rWords_set B[i][j] k (xorN B[i][j][k] (valR R ⟨i, j, k⟩))
          simp only [eU] at w1
          rw [w1, rWords_len, rRow_set, rRow_len, rSet_set, List.length_set, List.length_set, d1, d2, d3]
          exact ⟨g1, g2, by kernel_rfl, hAB, ⟨hAB, g1⟩, g2, g3, ⟨keyed91, k1, k2⟩, g3, ⟨g2, rfl⟩, ⟨g1, rfl⟩, ⟨keyed91, k1, k2⟩, rfl, rfl⟩
        · rintro xs rfl
          simp only [List.length_map, List.take_length, SE, TF, KD, GE, eq_self, ne_eq, implies_true, forall_const, if_true, if_false, cond_true, cond_false, forall_eq, List.replicate, ↓reduceIte, Nat.reduceEqDiff, Nat.reduceLT, Nat.reduceAdd, Nat.reduceSub, Nat.reduceMul, Nat.reduceLeDiff, applyD, hN]
          have hsh := (runW_inv l A (wordsA A)).1
          by_cases hR : (runW l A (wordsA A)).2 = []
          · simp only [hR, eKs, List.map_nil, List.length_nil, if_true, rSet_len, shape_len hsh]
            exact ⟨trivial, rfl⟩
          · have : decide (((eKs (runW l A (wordsA A)).2).length : Int) > 0) = true := by
              have : (runW l A (wordsA A)).2.length ≠ 0 := fun h => hR (List.length_eq_zero_iff.1 h)
              simp [eKs]; omega
            simp only [this, hR, if_true, if_false, List.map_nil]
  · simp only [SE, TF, KD, GE, eq_self, ne_eq, implies_true, forall_const, if_true, if_false, cond_true, cond_false, forall_eq, List.replicate, ↓reduceIte, Nat.reduceEqDiff, Nat.reduceLT, Nat.reduceAdd, Nat.reduceSub, Nat.reduceMul, Nat.reduceLeDiff, hN, decide_false, applyD]
end Go.Proofs.Ytcamhcnjomddbaa
