/-
 CONTRACTS of the functions that the law reaches, and plain laws on what they compute. Conditions: those of each law.
-/
import Derived.Test.YtbenhdgpogiadaaGreatGO
import Derived.Test.YtbenhdgpogiadaaGreatProg
import Derived.Test.YtbenhdgpogiadaaGreatGOr
import Derived.DeepKeys4
import Derived.Maps.Keyed
set_option linter.unusedSimpArgs false
set_option linter.unusedVariables false
namespace Go.Proofs.YtbenhdgpogiadaaGreat
open Go.Aw
open Tryz (prog)
theorem mixed : Tryz.prog.follows .mixedOrders = true := by kernel_rfl
theorem TF0 : lay prog 1 = some (false, 1) ∧ zeroOf prog 1 = some [.nilFunc] ∧ prog.underlying 2 = some (.int .i64) ∧ lay prog 2 = some (false, 1) ∧ zeroOf prog 2 = some [.int .i64 0] ∧ prog.underlying 3 = some (.int .i64) ∧ lay prog 3 = some (false, 1) ∧ zeroOf prog 3 = some [.int .i64 0] ∧ prog.underlying 4 = some .bool ∧ lay prog 4 = some (false, 1) ∧ zeroOf prog 4 = some [.bool false] ∧ prog.underlying 5 = some (.int .u8) ∧ lay prog 5 = some (false, 1) ∧ zeroOf prog 5 = some [.int .u8 0] ∧ prog.underlying 6 = some (.int .u8) ∧ lay prog 6 = some (false, 1) ∧ zeroOf prog 6 = some [.int .u8 0] ∧ lay prog 7 = some (true, 4) ∧ zeroOf prog 7 = some [.int .i64 0, .int .i64 0, .bool false, .int .u8 0] ∧ fieldOf prog 7 0 = some (0, false, 1) ∧ placeOf prog 7 0 = some (0, false, 1) ∧ fieldOf prog 7 1 = some (1, false, 1) ∧ placeOf prog 7 1 = some (1, false, 1) ∧ fieldOf prog 7 2 = some (2, false, 1) ∧ placeOf prog 7 2 = some (2, false, 1) ∧ fieldOf prog 7 3 = some (3, false, 1) ∧ placeOf prog 7 3 = some (3, false, 1) ∧ placesOk prog 7 = true ∧ eqTys prog 7 = some [0, 0, 1, 0] ∧ lay prog 8 = some (true, 4) ∧ zeroOf prog 8 = some [.int .i64 0, .int .i64 0, .bool false, .int .u8 0] ∧ fieldOf prog 8 0 = some (0, false, 1) ∧ placeOf prog 8 0 = some (0, false, 1) ∧ fieldOf prog 8 1 = some (1, false, 1) ∧ placeOf prog 8 1 = some (1, false, 1) ∧ fieldOf prog 8 2 = some (2, false, 1) ∧ placeOf prog 8 2 = some (2, false, 1) ∧ fieldOf prog 8 3 = some (3, false, 1) ∧ placeOf prog 8 3 = some (3, false, 1) ∧ placesOk prog 8 = true := by and_intros <;> kernel_rfl
theorem TF1 : eqTys prog 8 = some [0, 0, 1, 0] ∧ prog.underlying 9 = some .string ∧ lay prog 9 = some (false, 1) ∧ zeroOf prog 9 = some [.string ByteArray.empty] ∧ elemOfSl prog 9 = none ∧ prog.underlying 10 = some .string ∧ lay prog 10 = some (false, 1) ∧ zeroOf prog 10 = some [.string ByteArray.empty] ∧ elemOfSl prog 10 = none ∧ prog.underlying 11 = some .string ∧ lay prog 11 = some (false, 1) ∧ zeroOf prog 11 = some [.string ByteArray.empty] ∧ elemOfSl prog 11 = none ∧ prog.underlying 12 = some (.int .u64) ∧ lay prog 12 = some (false, 1) ∧ zeroOf prog 12 = some [.int .u64 0] ∧ lay prog 13 = some (true, 2) ∧ zeroOf prog 13 = some [.string ByteArray.empty, .int .u64 0] ∧ fieldOf prog 13 0 = some (0, false, 1) ∧ placeOf prog 13 0 = some (0, false, 1) ∧ fieldOf prog 13 1 = some (1, false, 1) ∧ placeOf prog 13 1 = some (1, false, 1) ∧ placesOk prog 13 = true ∧ lay prog 14 = some (true, 2) ∧ zeroOf prog 14 = some [.string ByteArray.empty, .int .u64 0] ∧ fieldOf prog 14 0 = some (0, false, 1) ∧ placeOf prog 14 0 = some (0, false, 1) ∧ fieldOf prog 14 1 = some (1, false, 1) ∧ placeOf prog 14 1 = some (1, false, 1) ∧ placesOk prog 14 = true ∧ prog.underlying 15 = some (.pointer 374) ∧ lay prog 15 = some (false, 1) ∧ zeroOf prog 15 = some [.pointer none] ∧ prog.underlying 16 = some (.pointer 377) ∧ lay prog 16 = some (false, 1) ∧ zeroOf prog 16 = some [.pointer none] ∧ prog.underlying 17 = some (.pointer 386) ∧ lay prog 17 = some (false, 1) ∧ zeroOf prog 17 = some [.pointer none] ∧ lay prog 18 = some (true, 1) := by and_intros <;> kernel_rfl
theorem TF2 : zeroOf prog 18 = some [.pointer none] ∧ fieldOf prog 18 0 = some (0, false, 1) ∧ placeOf prog 18 0 = some (0, false, 1) ∧ placesOk prog 18 = true ∧ lay prog 19 = some (true, 1) ∧ zeroOf prog 19 = some [.pointer none] ∧ fieldOf prog 19 0 = some (0, false, 1) ∧ placeOf prog 19 0 = some (0, false, 1) ∧ placesOk prog 19 = true ∧ lay prog 20 = some (false, 1) ∧ zeroOf prog 20 = some [.nilIface] ∧ prog.underlying 21 = some (.int .i32) ∧ lay prog 21 = some (false, 1) ∧ zeroOf prog 21 = some [.int .i32 0] ∧ prog.underlying 22 = some (.slice 5) ∧ lay prog 22 = some (false, 1) ∧ zeroOf prog 22 = some [.slice none 0 0] ∧ elemOfSl prog 22 = some (5, false, 1) ∧ appTy prog 22 = some (5, 1, 1) ∧ lay prog 23 = some (true, 3) ∧ zeroOf prog 23 = some [.int .u8 0, .int .u8 0, .slice none 0 0] ∧ fieldOf prog 23 0 = some (0, false, 1) ∧ placeOf prog 23 0 = some (0, false, 1) ∧ fieldOf prog 23 1 = some (1, false, 1) ∧ placeOf prog 23 1 = some (1, false, 1) ∧ fieldOf prog 23 2 = some (2, false, 1) ∧ placeOf prog 23 2 = some (2, false, 1) ∧ placesOk prog 23 = true ∧ lay prog 24 = some (true, 3) ∧ zeroOf prog 24 = some [.int .u8 0, .int .u8 0, .slice none 0 0] ∧ fieldOf prog 24 0 = some (0, false, 1) ∧ placeOf prog 24 0 = some (0, false, 1) ∧ fieldOf prog 24 1 = some (1, false, 1) ∧ placeOf prog 24 1 = some (1, false, 1) ∧ fieldOf prog 24 2 = some (2, false, 1) ∧ placeOf prog 24 2 = some (2, false, 1) ∧ placesOk prog 24 = true ∧ prog.underlying 25 = some (.slice 73) ∧ lay prog 25 = some (false, 1) ∧ zeroOf prog 25 = some [.slice none 0 0] := by and_intros <;> kernel_rfl
theorem tA28 : appTy Tryz.prog 28 = some (53, 4, 80) := by kernel_rfl
theorem TF3 : elemOfSl prog 25 = some (73, true, 4) ∧ appTy prog 25 = some (73, 4, 4) ∧ lay prog 26 = some (true, 8) ∧ zeroOf prog 26 = some [.int .u8 0, .int .u8 0, .slice none 0 0, .int .u8 0, .int .u8 0, .slice none 0 0, .slice none 0 0, .slice none 0 0] ∧ fieldOf prog 26 0 = some (0, true, 3) ∧ placeOf prog 26 0 = some (0, true, 3) ∧ fieldOf prog 26 1 = some (3, true, 3) ∧ placeOf prog 26 1 = some (3, true, 3) ∧ fieldOf prog 26 2 = some (6, false, 1) ∧ placeOf prog 26 2 = some (6, false, 1) ∧ fieldOf prog 26 3 = some (7, false, 1) ∧ placeOf prog 26 3 = some (7, false, 1) ∧ placesOk prog 26 = true ∧ lay prog 27 = some (true, 8) ∧ zeroOf prog 27 = some [.int .u8 0, .int .u8 0, .slice none 0 0, .int .u8 0, .int .u8 0, .slice none 0 0, .slice none 0 0, .slice none 0 0] ∧ fieldOf prog 27 0 = some (0, true, 3) ∧ placeOf prog 27 0 = some (0, true, 3) ∧ fieldOf prog 27 1 = some (3, true, 3) ∧ placeOf prog 27 1 = some (3, true, 3) ∧ fieldOf prog 27 2 = some (6, false, 1) ∧ placeOf prog 27 2 = some (6, false, 1) ∧ fieldOf prog 27 3 = some (7, false, 1) ∧ placeOf prog 27 3 = some (7, false, 1) ∧ placesOk prog 27 = true ∧ prog.underlying 28 = some (.slice 53) ∧ lay prog 28 = some (false, 1) ∧ zeroOf prog 28 = some [.slice none 0 0] ∧ elemOfSl prog 28 = some (53, true, 4) ∧ appTy prog 28 = some (53, 4, 80) ∧ lay prog 29 = some (true, 1) ∧ zeroOf prog 29 = some [.slice none 0 0] ∧ fieldOf prog 29 0 = some (0, false, 1) ∧ placeOf prog 29 0 = some (0, false, 1) ∧ placesOk prog 29 = true ∧ lay prog 30 = some (true, 1) ∧ zeroOf prog 30 = some [.slice none 0 0] ∧ fieldOf prog 30 0 = some (0, false, 1) ∧ placeOf prog 30 0 = some (0, false, 1) ∧ placesOk prog 30 = true ∧ prog.underlying 31 = some (.slice 69) := by and_intros <;> kernel_rfl
theorem TF4 : lay prog 31 = some (false, 1) ∧ zeroOf prog 31 = some [.slice none 0 0] ∧ elemOfSl prog 31 = some (69, true, 43) ∧ appTy prog 31 = some (69, 43, 608) ∧ lay prog 32 = some (false, 1) ∧ zeroOf prog 32 = some [.nilFunc] ∧ lay prog 33 = some (false, 1) ∧ zeroOf prog 33 = some [.nilFunc] ∧ lay prog 34 = some (false, 1) ∧ zeroOf prog 34 = some [.nilFunc] ∧ lay prog 35 = some (false, 1) ∧ zeroOf prog 35 = some [.nilFunc] ∧ lay prog 36 = some (false, 1) ∧ zeroOf prog 36 = some [.nilFunc] ∧ lay prog 37 = some (false, 1) ∧ zeroOf prog 37 = some [.nilFunc] ∧ lay prog 38 = some (false, 1) ∧ zeroOf prog 38 = some [.nilFunc] ∧ lay prog 39 = some (false, 1) ∧ zeroOf prog 39 = some [.nilFunc] ∧ prog.underlying 40 = some (.int .i64) ∧ lay prog 40 = some (false, 1) ∧ zeroOf prog 40 = some [.int .i64 0] ∧ lay prog 41 = some (true, 2) ∧ zeroOf prog 41 = some [.slice none 0 0, .int .i64 0] ∧ fieldOf prog 41 0 = some (0, true, 1) ∧ placeOf prog 41 0 = some (0, true, 1) ∧ fieldOf prog 41 1 = some (1, false, 1) ∧ placeOf prog 41 1 = some (1, false, 1) ∧ placesOk prog 41 = true ∧ lay prog 42 = some (true, 2) ∧ zeroOf prog 42 = some [.slice none 0 0, .int .i64 0] ∧ fieldOf prog 42 0 = some (0, true, 1) ∧ placeOf prog 42 0 = some (0, true, 1) ∧ fieldOf prog 42 1 = some (1, false, 1) ∧ placeOf prog 42 1 = some (1, false, 1) ∧ placesOk prog 42 = true ∧ lay prog 43 = some (false, 1) ∧ zeroOf prog 43 = some [.nilFunc] ∧ lay prog 44 = some (true, 2) := by and_intros <;> kernel_rfl
theorem tA51 : appTy Tryz.prog 51 = some (64, 35, 480) := by kernel_rfl
theorem TF5 : zeroOf prog 44 = some [.slice none 0 0, .int .i64 0] ∧ fieldOf prog 44 0 = some (0, false, 1) ∧ placeOf prog 44 0 = some (0, false, 1) ∧ fieldOf prog 44 1 = some (1, false, 1) ∧ placeOf prog 44 1 = some (1, false, 1) ∧ placesOk prog 44 = true ∧ lay prog 45 = some (true, 2) ∧ zeroOf prog 45 = some [.slice none 0 0, .int .i64 0] ∧ fieldOf prog 45 0 = some (0, false, 1) ∧ placeOf prog 45 0 = some (0, false, 1) ∧ fieldOf prog 45 1 = some (1, false, 1) ∧ placeOf prog 45 1 = some (1, false, 1) ∧ placesOk prog 45 = true ∧ lay prog 46 = some (false, 1) ∧ zeroOf prog 46 = some [.nilFunc] ∧ lay prog 47 = some (false, 1) ∧ zeroOf prog 47 = some [.nilFunc] ∧ lay prog 48 = some (false, 1) ∧ zeroOf prog 48 = some [.nilFunc] ∧ prog.underlying 49 = some (.array 2 5) ∧ lay prog 49 = some (true, 2) ∧ zeroOf prog 49 = some [.int .u8 0, .int .u8 0] ∧ elemOfSl prog 49 = none ∧ elemOfArr prog 49 = some (2, false, 1) ∧ placeOf prog 49 0 = some (0, false, 1) ∧ placeOf prog 49 1 = some (1, false, 1) ∧ placesOk prog 49 = true ∧ eqTys prog 49 = some [0, 0] ∧ prog.underlying 50 = some (.slice 9) ∧ lay prog 50 = some (false, 1) ∧ zeroOf prog 50 = some [.slice none 0 0] ∧ elemOfSl prog 50 = some (9, false, 1) ∧ appTy prog 50 = some (9, 1, 16) ∧ prog.underlying 51 = some (.slice 64) ∧ lay prog 51 = some (false, 1) ∧ zeroOf prog 51 = some [.slice none 0 0] ∧ elemOfSl prog 51 = some (64, true, 35) ∧ appTy prog 51 = some (64, 35, 480) ∧ lay prog 52 = some (true, 4) ∧ zeroOf prog 52 = some [.string ByteArray.empty, .string ByteArray.empty, .slice none 0 0, .slice none 0 0] := by and_intros <;> kernel_rfl
theorem TF6 : fieldOf prog 52 0 = some (0, false, 1) ∧ placeOf prog 52 0 = some (0, false, 1) ∧ fieldOf prog 52 1 = some (1, false, 1) ∧ placeOf prog 52 1 = some (1, false, 1) ∧ fieldOf prog 52 2 = some (2, false, 1) ∧ placeOf prog 52 2 = some (2, false, 1) ∧ fieldOf prog 52 3 = some (3, false, 1) ∧ placeOf prog 52 3 = some (3, false, 1) ∧ placesOk prog 52 = true ∧ lay prog 53 = some (true, 4) ∧ zeroOf prog 53 = some [.string ByteArray.empty, .string ByteArray.empty, .slice none 0 0, .slice none 0 0] ∧ fieldOf prog 53 0 = some (0, false, 1) ∧ placeOf prog 53 0 = some (0, false, 1) ∧ fieldOf prog 53 1 = some (1, false, 1) ∧ placeOf prog 53 1 = some (1, false, 1) ∧ fieldOf prog 53 2 = some (2, false, 1) ∧ placeOf prog 53 2 = some (2, false, 1) ∧ fieldOf prog 53 3 = some (3, false, 1) ∧ placeOf prog 53 3 = some (3, false, 1) ∧ placesOk prog 53 = true ∧ lay prog 54 = some (true, 2) ∧ zeroOf prog 54 = some [.int .i64 0, .string ByteArray.empty] ∧ fieldOf prog 54 0 = some (0, false, 1) ∧ placeOf prog 54 0 = some (0, false, 1) ∧ fieldOf prog 54 1 = some (1, false, 1) ∧ placeOf prog 54 1 = some (1, false, 1) ∧ placesOk prog 54 = true ∧ eqTys prog 54 = some [0, 2] ∧ lay prog 55 = some (true, 2) ∧ zeroOf prog 55 = some [.int .i64 0, .string ByteArray.empty] ∧ fieldOf prog 55 0 = some (0, false, 1) ∧ placeOf prog 55 0 = some (0, false, 1) ∧ fieldOf prog 55 1 = some (1, false, 1) ∧ placeOf prog 55 1 = some (1, false, 1) ∧ placesOk prog 55 = true ∧ eqTys prog 55 = some [0, 2] ∧ prog.underlying 56 = some (.slice 58) ∧ lay prog 56 = some (false, 1) ∧ zeroOf prog 56 = some [.slice none 0 0] ∧ elemOfSl prog 56 = some (58, true, 7) := by and_intros <;> kernel_rfl
theorem TF7 : appTy prog 56 = some (58, 7, 96) ∧ lay prog 57 = some (true, 7) ∧ zeroOf prog 57 = some [.int .i64 0, .string ByteArray.empty, .int .i64 0, .string ByteArray.empty, .int .i64 0, .string ByteArray.empty, .slice none 0 0] ∧ fieldOf prog 57 0 = some (0, false, 1) ∧ placeOf prog 57 0 = some (0, false, 1) ∧ fieldOf prog 57 1 = some (1, false, 1) ∧ placeOf prog 57 1 = some (1, false, 1) ∧ fieldOf prog 57 2 = some (2, true, 2) ∧ placeOf prog 57 2 = some (2, true, 2) ∧ fieldOf prog 57 3 = some (4, true, 2) ∧ placeOf prog 57 3 = some (4, true, 2) ∧ fieldOf prog 57 4 = some (6, false, 1) ∧ placeOf prog 57 4 = some (6, false, 1) ∧ placesOk prog 57 = true ∧ lay prog 58 = some (true, 7) ∧ zeroOf prog 58 = some [.int .i64 0, .string ByteArray.empty, .int .i64 0, .string ByteArray.empty, .int .i64 0, .string ByteArray.empty, .slice none 0 0] ∧ fieldOf prog 58 0 = some (0, false, 1) ∧ placeOf prog 58 0 = some (0, false, 1) ∧ fieldOf prog 58 1 = some (1, false, 1) ∧ placeOf prog 58 1 = some (1, false, 1) ∧ fieldOf prog 58 2 = some (2, true, 2) ∧ placeOf prog 58 2 = some (2, true, 2) ∧ fieldOf prog 58 3 = some (4, true, 2) ∧ placeOf prog 58 3 = some (4, true, 2) ∧ fieldOf prog 58 4 = some (6, false, 1) ∧ placeOf prog 58 4 = some (6, false, 1) ∧ placesOk prog 58 = true ∧ lay prog 59 = some (true, 3) ∧ zeroOf prog 59 = some [.int .i64 0, .string ByteArray.empty, .int .i64 0] ∧ fieldOf prog 59 0 = some (0, false, 1) ∧ placeOf prog 59 0 = some (0, false, 1) ∧ fieldOf prog 59 1 = some (1, false, 1) ∧ placeOf prog 59 1 = some (1, false, 1) ∧ fieldOf prog 59 2 = some (2, false, 1) ∧ placeOf prog 59 2 = some (2, false, 1) ∧ placesOk prog 59 = true ∧ eqTys prog 59 = some [0, 2, 0] ∧ lay prog 60 = some (true, 3) ∧ zeroOf prog 60 = some [.int .i64 0, .string ByteArray.empty, .int .i64 0] ∧ fieldOf prog 60 0 = some (0, false, 1) := by and_intros <;> kernel_rfl
theorem TF8 : placeOf prog 60 0 = some (0, false, 1) ∧ fieldOf prog 60 1 = some (1, false, 1) ∧ placeOf prog 60 1 = some (1, false, 1) ∧ fieldOf prog 60 2 = some (2, false, 1) ∧ placeOf prog 60 2 = some (2, false, 1) ∧ placesOk prog 60 = true ∧ eqTys prog 60 = some [0, 2, 0] ∧ prog.underlying 61 = some (.slice 55) ∧ lay prog 61 = some (false, 1) ∧ zeroOf prog 61 = some [.slice none 0 0] ∧ elemOfSl prog 61 = some (55, true, 2) ∧ appTy prog 61 = some (55, 2, 24) ∧ prog.underlying 62 = some (.slice 146) ∧ lay prog 62 = some (false, 1) ∧ zeroOf prog 62 = some [.slice none 0 0] ∧ elemOfSl prog 62 = some (146, true, 2) ∧ appTy prog 62 = some (146, 2, 32) ∧ lay prog 63 = some (true, 35) ∧ zeroOf prog 63 = some [.int .i64 0, .string ByteArray.empty, .int .i64 0, .string ByteArray.empty, .int .i64 0, .string ByteArray.empty, .int .i64 0, .string ByteArray.empty, .int .i64 0, .string ByteArray.empty, .int .i64 0, .string ByteArray.empty, .int .i64 0, .string ByteArray.empty, .slice none 0 0, .int .i64 0, .string ByteArray.empty, .int .i64 0, .string ByteArray.empty, .int .i64 0, .string ByteArray.empty, .slice none 0 0, .int .i64 0, .string ByteArray.empty, .int .i64 0, .string ByteArray.empty, .int .i64 0, .string ByteArray.empty, .slice none 0 0, .int .i64 0, .string ByteArray.empty, .int .i64 0, .string ByteArray.empty, .slice none 0 0, .slice none 0 0] ∧ fieldOf prog 63 0 = some (0, false, 1) ∧ placeOf prog 63 0 = some (0, false, 1) ∧ fieldOf prog 63 1 = some (1, false, 1) ∧ placeOf prog 63 1 = some (1, false, 1) ∧ fieldOf prog 63 2 = some (2, true, 2) ∧ placeOf prog 63 2 = some (2, true, 2) ∧ fieldOf prog 63 3 = some (4, true, 2) ∧ placeOf prog 63 3 = some (4, true, 2) ∧ fieldOf prog 63 4 = some (6, true, 2) ∧ placeOf prog 63 4 = some (6, true, 2) ∧ fieldOf prog 63 5 = some (8, true, 7) ∧ placeOf prog 63 5 = some (8, true, 7) ∧ fieldOf prog 63 6 = some (15, true, 7) ∧ placeOf prog 63 6 = some (15, true, 7) ∧ fieldOf prog 63 7 = some (22, true, 7) ∧ placeOf prog 63 7 = some (22, true, 7) ∧ fieldOf prog 63 8 = some (29, true, 3) ∧ placeOf prog 63 8 = some (29, true, 3) ∧ fieldOf prog 63 9 = some (32, false, 1) ∧ placeOf prog 63 9 = some (32, false, 1) ∧ fieldOf prog 63 10 = some (33, false, 1) := by and_intros <;> kernel_rfl
theorem TF9 : placeOf prog 63 10 = some (33, false, 1) ∧ fieldOf prog 63 11 = some (34, false, 1) ∧ placeOf prog 63 11 = some (34, false, 1) ∧ placesOk prog 63 = true ∧ lay prog 64 = some (true, 35) ∧ zeroOf prog 64 = some [.int .i64 0, .string ByteArray.empty, .int .i64 0, .string ByteArray.empty, .int .i64 0, .string ByteArray.empty, .int .i64 0, .string ByteArray.empty, .int .i64 0, .string ByteArray.empty, .int .i64 0, .string ByteArray.empty, .int .i64 0, .string ByteArray.empty, .slice none 0 0, .int .i64 0, .string ByteArray.empty, .int .i64 0, .string ByteArray.empty, .int .i64 0, .string ByteArray.empty, .slice none 0 0, .int .i64 0, .string ByteArray.empty, .int .i64 0, .string ByteArray.empty, .int .i64 0, .string ByteArray.empty, .slice none 0 0, .int .i64 0, .string ByteArray.empty, .int .i64 0, .string ByteArray.empty, .slice none 0 0, .slice none 0 0] ∧ fieldOf prog 64 0 = some (0, false, 1) ∧ placeOf prog 64 0 = some (0, false, 1) ∧ fieldOf prog 64 1 = some (1, false, 1) ∧ placeOf prog 64 1 = some (1, false, 1) ∧ fieldOf prog 64 2 = some (2, true, 2) ∧ placeOf prog 64 2 = some (2, true, 2) ∧ fieldOf prog 64 3 = some (4, true, 2) ∧ placeOf prog 64 3 = some (4, true, 2) ∧ fieldOf prog 64 4 = some (6, true, 2) ∧ placeOf prog 64 4 = some (6, true, 2) ∧ fieldOf prog 64 5 = some (8, true, 7) ∧ placeOf prog 64 5 = some (8, true, 7) ∧ fieldOf prog 64 6 = some (15, true, 7) ∧ placeOf prog 64 6 = some (15, true, 7) ∧ fieldOf prog 64 7 = some (22, true, 7) ∧ placeOf prog 64 7 = some (22, true, 7) ∧ fieldOf prog 64 8 = some (29, true, 3) ∧ placeOf prog 64 8 = some (29, true, 3) ∧ fieldOf prog 64 9 = some (32, false, 1) ∧ placeOf prog 64 9 = some (32, false, 1) ∧ fieldOf prog 64 10 = some (33, false, 1) ∧ placeOf prog 64 10 = some (33, false, 1) ∧ fieldOf prog 64 11 = some (34, false, 1) ∧ placeOf prog 64 11 = some (34, false, 1) ∧ placesOk prog 64 = true ∧ lay prog 65 = some (true, 2) ∧ zeroOf prog 65 = some [.int .i64 0, .string ByteArray.empty] ∧ fieldOf prog 65 0 = some (0, false, 1) ∧ placeOf prog 65 0 = some (0, false, 1) ∧ fieldOf prog 65 1 = some (1, false, 1) ∧ placeOf prog 65 1 = some (1, false, 1) ∧ placesOk prog 65 = true ∧ eqTys prog 65 = some [0, 2] ∧ lay prog 66 = some (true, 2) := by and_intros <;> kernel_rfl
theorem TF10 : zeroOf prog 66 = some [.int .i64 0, .string ByteArray.empty] ∧ fieldOf prog 66 0 = some (0, false, 1) ∧ placeOf prog 66 0 = some (0, false, 1) ∧ fieldOf prog 66 1 = some (1, false, 1) ∧ placeOf prog 66 1 = some (1, false, 1) ∧ placesOk prog 66 = true ∧ eqTys prog 66 = some [0, 2] ∧ lay prog 67 = some (false, 1) ∧ zeroOf prog 67 = some [.nilFunc] ∧ lay prog 68 = some (true, 43) ∧ zeroOf prog 68 = some [.string ByteArray.empty, .int .i64 0, .string ByteArray.empty, .bool false, .int .i64 0, .string ByteArray.empty, .int .i64 0, .string ByteArray.empty, .int .i64 0, .string ByteArray.empty, .int .i64 0, .string ByteArray.empty, .int .i64 0, .string ByteArray.empty, .int .i64 0, .string ByteArray.empty, .int .i64 0, .string ByteArray.empty, .slice none 0 0, .int .i64 0, .string ByteArray.empty, .int .i64 0, .string ByteArray.empty, .int .i64 0, .string ByteArray.empty, .slice none 0 0, .int .i64 0, .string ByteArray.empty, .int .i64 0, .string ByteArray.empty, .int .i64 0, .string ByteArray.empty, .slice none 0 0, .int .i64 0, .string ByteArray.empty, .int .i64 0, .string ByteArray.empty, .slice none 0 0, .slice none 0 0, .string ByteArray.empty, .string ByteArray.empty, .slice none 0 0, .slice none 0 0] ∧ fieldOf prog 68 0 = some (0, false, 1) ∧ placeOf prog 68 0 = some (0, false, 1) ∧ fieldOf prog 68 1 = some (1, true, 2) ∧ placeOf prog 68 1 = some (1, true, 2) ∧ fieldOf prog 68 2 = some (3, false, 1) ∧ placeOf prog 68 2 = some (3, false, 1) ∧ fieldOf prog 68 3 = some (4, true, 35) ∧ placeOf prog 68 3 = some (4, true, 35) ∧ fieldOf prog 68 4 = some (39, true, 4) ∧ placeOf prog 68 4 = some (39, true, 4) ∧ placesOk prog 68 = true ∧ lay prog 69 = some (true, 43) ∧ zeroOf prog 69 = some [.string ByteArray.empty, .int .i64 0, .string ByteArray.empty, .bool false, .int .i64 0, .string ByteArray.empty, .int .i64 0, .string ByteArray.empty, .int .i64 0, .string ByteArray.empty, .int .i64 0, .string ByteArray.empty, .int .i64 0, .string ByteArray.empty, .int .i64 0, .string ByteArray.empty, .int .i64 0, .string ByteArray.empty, .slice none 0 0, .int .i64 0, .string ByteArray.empty, .int .i64 0, .string ByteArray.empty, .int .i64 0, .string ByteArray.empty, .slice none 0 0, .int .i64 0, .string ByteArray.empty, .int .i64 0, .string ByteArray.empty, .int .i64 0, .string ByteArray.empty, .slice none 0 0, .int .i64 0, .string ByteArray.empty, .int .i64 0, .string ByteArray.empty, .slice none 0 0, .slice none 0 0, .string ByteArray.empty, .string ByteArray.empty, .slice none 0 0, .slice none 0 0] ∧ fieldOf prog 69 0 = some (0, false, 1) ∧ placeOf prog 69 0 = some (0, false, 1) ∧ fieldOf prog 69 1 = some (1, true, 2) ∧ placeOf prog 69 1 = some (1, true, 2) ∧ fieldOf prog 69 2 = some (3, false, 1) ∧ placeOf prog 69 2 = some (3, false, 1) ∧ fieldOf prog 69 3 = some (4, true, 35) ∧ placeOf prog 69 3 = some (4, true, 35) ∧ fieldOf prog 69 4 = some (39, true, 4) ∧ placeOf prog 69 4 = some (39, true, 4) ∧ placesOk prog 69 = true ∧ lay prog 70 = some (false, 1) ∧ zeroOf prog 70 = some [.nilFunc] ∧ prog.underlying 71 = some (.slice 202) ∧ lay prog 71 = some (false, 1) ∧ zeroOf prog 71 = some [.slice none 0 0] := by and_intros <;> kernel_rfl
theorem TF11 : elemOfSl prog 71 = some (202, true, 3) ∧ appTy prog 71 = some (202, 3, 3) ∧ prog.underlying 72 = some (.array 3 71) ∧ lay prog 72 = some (true, 3) ∧ zeroOf prog 72 = some [.slice none 0 0, .slice none 0 0, .slice none 0 0] ∧ elemOfSl prog 72 = none ∧ elemOfArr prog 72 = some (3, false, 1) ∧ placeOf prog 72 0 = some (0, false, 1) ∧ placeOf prog 72 1 = some (1, false, 1) ∧ placeOf prog 72 2 = some (2, false, 1) ∧ placesOk prog 72 = true ∧ prog.underlying 73 = some (.array 4 5) ∧ lay prog 73 = some (true, 4) ∧ zeroOf prog 73 = some [.int .u8 0, .int .u8 0, .int .u8 0, .int .u8 0] ∧ elemOfSl prog 73 = none ∧ elemOfArr prog 73 = some (4, false, 1) ∧ placeOf prog 73 0 = some (0, false, 1) ∧ placeOf prog 73 1 = some (1, false, 1) ∧ placeOf prog 73 2 = some (2, false, 1) ∧ placeOf prog 73 3 = some (3, false, 1) ∧ placesOk prog 73 = true ∧ eqTys prog 73 = some [0, 0, 0, 0] ∧ lay prog 74 = some (true, 3) ∧ zeroOf prog 74 = some [.string ByteArray.empty, .int .i64 0, .string ByteArray.empty] ∧ fieldOf prog 74 0 = some (0, false, 1) ∧ placeOf prog 74 0 = some (0, false, 1) ∧ fieldOf prog 74 1 = some (1, true, 2) ∧ placeOf prog 74 1 = some (1, true, 2) ∧ placesOk prog 74 = true ∧ eqTys prog 74 = some [2, 0, 2] ∧ lay prog 75 = some (true, 3) ∧ zeroOf prog 75 = some [.string ByteArray.empty, .int .i64 0, .string ByteArray.empty] ∧ fieldOf prog 75 0 = some (0, false, 1) ∧ placeOf prog 75 0 = some (0, false, 1) ∧ fieldOf prog 75 1 = some (1, true, 2) ∧ placeOf prog 75 1 = some (1, true, 2) ∧ placesOk prog 75 = true ∧ eqTys prog 75 = some [2, 0, 2] ∧ lay prog 76 = some (true, 9) ∧ zeroOf prog 76 = some [.int .u8 0, .int .u8 0, .int .u8 0, .int .u8 0, .string ByteArray.empty, .string ByteArray.empty, .int .i64 0, .string ByteArray.empty, .int .u8 0] := by and_intros <;> kernel_rfl
theorem TF12 : fieldOf prog 76 0 = some (0, true, 4) ∧ placeOf prog 76 0 = some (0, true, 4) ∧ fieldOf prog 76 1 = some (4, false, 1) ∧ placeOf prog 76 1 = some (4, false, 1) ∧ fieldOf prog 76 2 = some (5, true, 3) ∧ placeOf prog 76 2 = some (5, true, 3) ∧ fieldOf prog 76 3 = some (8, false, 1) ∧ placeOf prog 76 3 = some (8, false, 1) ∧ placesOk prog 76 = true ∧ lay prog 77 = some (true, 9) ∧ zeroOf prog 77 = some [.int .u8 0, .int .u8 0, .int .u8 0, .int .u8 0, .string ByteArray.empty, .string ByteArray.empty, .int .i64 0, .string ByteArray.empty, .int .u8 0] ∧ fieldOf prog 77 0 = some (0, true, 4) ∧ placeOf prog 77 0 = some (0, true, 4) ∧ fieldOf prog 77 1 = some (4, false, 1) ∧ placeOf prog 77 1 = some (4, false, 1) ∧ fieldOf prog 77 2 = some (5, true, 3) ∧ placeOf prog 77 2 = some (5, true, 3) ∧ fieldOf prog 77 3 = some (8, false, 1) ∧ placeOf prog 77 3 = some (8, false, 1) ∧ placesOk prog 77 = true ∧ lay prog 78 = some (true, 3) ∧ zeroOf prog 78 = some [.slice none 0 0, .slice none 0 0, .slice none 0 0] ∧ fieldOf prog 78 0 = some (0, true, 1) ∧ placeOf prog 78 0 = some (0, true, 1) ∧ fieldOf prog 78 1 = some (1, true, 1) ∧ placeOf prog 78 1 = some (1, true, 1) ∧ fieldOf prog 78 2 = some (2, true, 1) ∧ placeOf prog 78 2 = some (2, true, 1) ∧ placesOk prog 78 = true ∧ lay prog 79 = some (true, 3) ∧ zeroOf prog 79 = some [.slice none 0 0, .slice none 0 0, .slice none 0 0] ∧ fieldOf prog 79 0 = some (0, true, 1) ∧ placeOf prog 79 0 = some (0, true, 1) ∧ fieldOf prog 79 1 = some (1, true, 1) ∧ placeOf prog 79 1 = some (1, true, 1) ∧ fieldOf prog 79 2 = some (2, true, 1) ∧ placeOf prog 79 2 = some (2, true, 1) ∧ placesOk prog 79 = true ∧ lay prog 80 = some (false, 1) ∧ zeroOf prog 80 = some [.nilFunc] := by and_intros <;> kernel_rfl
theorem TF13 : lay prog 81 = some (false, 1) ∧ zeroOf prog 81 = some [.nilFunc] ∧ prog.underlying 82 = some (.slice 79) ∧ lay prog 82 = some (false, 1) ∧ zeroOf prog 82 = some [.slice none 0 0] ∧ elemOfSl prog 82 = some (79, true, 3) ∧ appTy prog 82 = some (79, 3, 72) ∧ prog.underlying 83 = some (.slice 75) ∧ lay prog 83 = some (false, 1) ∧ zeroOf prog 83 = some [.slice none 0 0] ∧ elemOfSl prog 83 = some (75, true, 3) ∧ appTy prog 83 = some (75, 3, 40) ∧ lay prog 84 = some (true, 2) ∧ zeroOf prog 84 = some [.slice none 0 0, .int .i64 0] ∧ fieldOf prog 84 0 = some (0, false, 1) ∧ placeOf prog 84 0 = some (0, false, 1) ∧ fieldOf prog 84 1 = some (1, false, 1) ∧ placeOf prog 84 1 = some (1, false, 1) ∧ placesOk prog 84 = true ∧ lay prog 85 = some (true, 2) ∧ zeroOf prog 85 = some [.slice none 0 0, .int .i64 0] ∧ fieldOf prog 85 0 = some (0, false, 1) ∧ placeOf prog 85 0 = some (0, false, 1) ∧ fieldOf prog 85 1 = some (1, false, 1) ∧ placeOf prog 85 1 = some (1, false, 1) ∧ placesOk prog 85 = true ∧ lay prog 86 = some (false, 1) ∧ zeroOf prog 86 = some [.nilFunc] ∧ lay prog 87 = some (false, 1) ∧ zeroOf prog 87 = some [.nilFunc] ∧ lay prog 88 = some (true, 3) ∧ zeroOf prog 88 = some [.slice none 0 0, .slice none 0 0, .int .i64 0] ∧ fieldOf prog 88 0 = some (0, true, 1) ∧ placeOf prog 88 0 = some (0, true, 1) ∧ fieldOf prog 88 1 = some (1, false, 1) ∧ placeOf prog 88 1 = some (1, false, 1) ∧ fieldOf prog 88 2 = some (2, false, 1) ∧ placeOf prog 88 2 = some (2, false, 1) ∧ placesOk prog 88 = true ∧ lay prog 89 = some (true, 3) := by and_intros <;> kernel_rfl
theorem TF14 : zeroOf prog 89 = some [.slice none 0 0, .slice none 0 0, .int .i64 0] ∧ fieldOf prog 89 0 = some (0, true, 1) ∧ placeOf prog 89 0 = some (0, true, 1) ∧ fieldOf prog 89 1 = some (1, false, 1) ∧ placeOf prog 89 1 = some (1, false, 1) ∧ fieldOf prog 89 2 = some (2, false, 1) ∧ placeOf prog 89 2 = some (2, false, 1) ∧ placesOk prog 89 = true ∧ lay prog 90 = some (false, 1) ∧ zeroOf prog 90 = some [.nilFunc] ∧ lay prog 91 = some (false, 1) ∧ zeroOf prog 91 = some [.nilFunc] ∧ lay prog 92 = some (true, 2) ∧ zeroOf prog 92 = some [.int .i64 0, .int .i64 0] ∧ fieldOf prog 92 0 = some (0, false, 1) ∧ placeOf prog 92 0 = some (0, false, 1) ∧ fieldOf prog 92 1 = some (1, false, 1) ∧ placeOf prog 92 1 = some (1, false, 1) ∧ placesOk prog 92 = true ∧ eqTys prog 92 = some [0, 0] ∧ lay prog 93 = some (true, 2) ∧ zeroOf prog 93 = some [.int .i64 0, .int .i64 0] ∧ fieldOf prog 93 0 = some (0, false, 1) ∧ placeOf prog 93 0 = some (0, false, 1) ∧ fieldOf prog 93 1 = some (1, false, 1) ∧ placeOf prog 93 1 = some (1, false, 1) ∧ placesOk prog 93 = true ∧ eqTys prog 93 = some [0, 0] ∧ lay prog 94 = some (false, 1) ∧ zeroOf prog 94 = some [.nilFunc] ∧ lay prog 95 = some (false, 1) ∧ zeroOf prog 95 = some [.nilFunc] ∧ lay prog 96 = some (false, 1) ∧ zeroOf prog 96 = some [.nilFunc] ∧ lay prog 97 = some (false, 1) ∧ zeroOf prog 97 = some [.nilFunc] ∧ lay prog 98 = some (false, 1) ∧ zeroOf prog 98 = some [.nilFunc] ∧ lay prog 99 = some (false, 1) ∧ zeroOf prog 99 = some [.nilFunc] := by and_intros <;> kernel_rfl
theorem TF15 : lay prog 100 = some (false, 1) ∧ zeroOf prog 100 = some [.nilFunc] ∧ lay prog 102 = some (false, 1) ∧ zeroOf prog 102 = some [.nilFunc] ∧ lay prog 103 = some (false, 1) ∧ zeroOf prog 103 = some [.nilFunc] ∧ lay prog 104 = some (false, 1) ∧ zeroOf prog 104 = some [.nilFunc] ∧ lay prog 105 = some (false, 1) ∧ zeroOf prog 105 = some [.nilFunc] ∧ lay prog 106 = some (false, 1) ∧ zeroOf prog 106 = some [.nilFunc] ∧ lay prog 107 = some (false, 1) ∧ zeroOf prog 107 = some [.nilFunc] ∧ lay prog 108 = some (false, 1) ∧ zeroOf prog 108 = some [.nilFunc] ∧ lay prog 109 = some (false, 1) ∧ zeroOf prog 109 = some [.nilFunc] ∧ lay prog 110 = some (false, 1) ∧ zeroOf prog 110 = some [.nilFunc] ∧ lay prog 111 = some (false, 1) ∧ zeroOf prog 111 = some [.nilFunc] ∧ lay prog 112 = some (false, 1) ∧ zeroOf prog 112 = some [.nilFunc] ∧ lay prog 113 = some (false, 1) ∧ zeroOf prog 113 = some [.nilFunc] ∧ lay prog 114 = some (false, 1) ∧ zeroOf prog 114 = some [.nilFunc] ∧ lay prog 115 = some (false, 1) ∧ zeroOf prog 115 = some [.nilFunc] ∧ lay prog 116 = some (false, 1) ∧ zeroOf prog 116 = some [.nilFunc] ∧ lay prog 117 = some (false, 1) ∧ zeroOf prog 117 = some [.nilFunc] ∧ lay prog 118 = some (false, 1) ∧ zeroOf prog 118 = some [.nilFunc] ∧ prog.underlying 119 = some (.pointer 121) ∧ lay prog 119 = some (false, 1) ∧ zeroOf prog 119 = some [.pointer none] ∧ lay prog 120 = some (true, 1) := by and_intros <;> kernel_rfl
theorem TF16 : zeroOf prog 120 = some [.slice none 0 0] ∧ fieldOf prog 120 0 = some (0, false, 1) ∧ placeOf prog 120 0 = some (0, false, 1) ∧ placesOk prog 120 = true ∧ lay prog 121 = some (true, 1) ∧ zeroOf prog 121 = some [.slice none 0 0] ∧ fieldOf prog 121 0 = some (0, false, 1) ∧ placeOf prog 121 0 = some (0, false, 1) ∧ placesOk prog 121 = true ∧ lay prog 122 = some (false, 1) ∧ zeroOf prog 122 = some [.nilFunc] ∧ lay prog 123 = some (false, 1) ∧ zeroOf prog 123 = some [.nilFunc] ∧ lay prog 124 = some (false, 1) ∧ zeroOf prog 124 = some [.nilFunc] ∧ lay prog 125 = some (false, 1) ∧ zeroOf prog 125 = some [.nilFunc] ∧ lay prog 126 = some (true, 4) ∧ zeroOf prog 126 = some [.nilFunc, .nilFunc, .nilFunc, .nilFunc] ∧ fieldOf prog 126 0 = some (0, false, 1) ∧ placeOf prog 126 0 = some (0, false, 1) ∧ fieldOf prog 126 1 = some (1, false, 1) ∧ placeOf prog 126 1 = some (1, false, 1) ∧ fieldOf prog 126 2 = some (2, false, 1) ∧ placeOf prog 126 2 = some (2, false, 1) ∧ fieldOf prog 126 3 = some (3, false, 1) ∧ placeOf prog 126 3 = some (3, false, 1) ∧ placesOk prog 126 = true ∧ lay prog 127 = some (true, 4) ∧ zeroOf prog 127 = some [.nilFunc, .nilFunc, .nilFunc, .nilFunc] ∧ fieldOf prog 127 0 = some (0, false, 1) ∧ placeOf prog 127 0 = some (0, false, 1) ∧ fieldOf prog 127 1 = some (1, false, 1) ∧ placeOf prog 127 1 = some (1, false, 1) ∧ fieldOf prog 127 2 = some (2, false, 1) ∧ placeOf prog 127 2 = some (2, false, 1) ∧ fieldOf prog 127 3 = some (3, false, 1) ∧ placeOf prog 127 3 = some (3, false, 1) ∧ placesOk prog 127 = true ∧ lay prog 128 = some (false, 1) := by and_intros <;> kernel_rfl
theorem TF17 : zeroOf prog 128 = some [.nilFunc] ∧ lay prog 129 = some (false, 1) ∧ zeroOf prog 129 = some [.nilFunc] ∧ lay prog 130 = some (false, 1) ∧ zeroOf prog 130 = some [.nilFunc] ∧ lay prog 131 = some (false, 1) ∧ zeroOf prog 131 = some [.nilFunc] ∧ lay prog 132 = some (false, 1) ∧ zeroOf prog 132 = some [.nilFunc] ∧ lay prog 133 = some (false, 1) ∧ zeroOf prog 133 = some [.nilFunc] ∧ lay prog 134 = some (false, 1) ∧ zeroOf prog 134 = some [.nilFunc] ∧ lay prog 135 = some (false, 1) ∧ zeroOf prog 135 = some [.nilFunc] ∧ lay prog 136 = some (false, 1) ∧ zeroOf prog 136 = some [.nilFunc] ∧ lay prog 137 = some (false, 1) ∧ zeroOf prog 137 = some [.nilFunc] ∧ lay prog 138 = some (false, 1) ∧ zeroOf prog 138 = some [.nilFunc] ∧ lay prog 139 = some (false, 1) ∧ zeroOf prog 139 = some [.nilFunc] ∧ lay prog 140 = some (false, 1) ∧ zeroOf prog 140 = some [.nilFunc] ∧ lay prog 142 = some (false, 1) ∧ zeroOf prog 142 = some [.nilFunc] ∧ lay prog 143 = some (false, 1) ∧ zeroOf prog 143 = some [.nilFunc] ∧ lay prog 144 = some (false, 1) ∧ zeroOf prog 144 = some [.nilFunc] ∧ lay prog 145 = some (true, 2) ∧ zeroOf prog 145 = some [.string ByteArray.empty, .string ByteArray.empty] ∧ fieldOf prog 145 0 = some (0, false, 1) ∧ placeOf prog 145 0 = some (0, false, 1) ∧ fieldOf prog 145 1 = some (1, false, 1) ∧ placeOf prog 145 1 = some (1, false, 1) ∧ placesOk prog 145 = true ∧ eqTys prog 145 = some [2, 2] ∧ lay prog 146 = some (true, 2) := by and_intros <;> kernel_rfl
theorem TF18 : zeroOf prog 146 = some [.string ByteArray.empty, .string ByteArray.empty] ∧ fieldOf prog 146 0 = some (0, false, 1) ∧ placeOf prog 146 0 = some (0, false, 1) ∧ fieldOf prog 146 1 = some (1, false, 1) ∧ placeOf prog 146 1 = some (1, false, 1) ∧ placesOk prog 146 = true ∧ eqTys prog 146 = some [2, 2] ∧ prog.underlying 147 = some (.slice 166) ∧ lay prog 147 = some (false, 1) ∧ zeroOf prog 147 = some [.slice none 0 0] ∧ elemOfSl prog 147 = some (166, true, 3) ∧ appTy prog 147 = some (166, 3, 40) ∧ lay prog 149 = some (false, 1) ∧ zeroOf prog 149 = some [.nilFunc] ∧ lay prog 150 = some (false, 1) ∧ zeroOf prog 150 = some [.nilFunc] ∧ lay prog 151 = some (false, 1) ∧ zeroOf prog 151 = some [.nilFunc] ∧ prog.underlying 152 = some (.slice 30) ∧ lay prog 152 = some (false, 1) ∧ zeroOf prog 152 = some [.slice none 0 0] ∧ elemOfSl prog 152 = some (30, true, 1) ∧ appTy prog 152 = some (30, 1, 24) ∧ lay prog 153 = some (false, 1) ∧ zeroOf prog 153 = some [.nilFunc] ∧ lay prog 154 = some (true, 40) ∧ zeroOf prog 154 = some [.bool false, .string ByteArray.empty, .string ByteArray.empty, .slice none 0 0, .slice none 0 0, .int .i64 0, .string ByteArray.empty, .int .i64 0, .string ByteArray.empty, .int .i64 0, .string ByteArray.empty, .int .i64 0, .string ByteArray.empty, .int .i64 0, .string ByteArray.empty, .int .i64 0, .string ByteArray.empty, .int .i64 0, .string ByteArray.empty, .slice none 0 0, .int .i64 0, .string ByteArray.empty, .int .i64 0, .string ByteArray.empty, .int .i64 0, .string ByteArray.empty, .slice none 0 0, .int .i64 0, .string ByteArray.empty, .int .i64 0, .string ByteArray.empty, .int .i64 0, .string ByteArray.empty, .slice none 0 0, .int .i64 0, .string ByteArray.empty, .int .i64 0, .string ByteArray.empty, .slice none 0 0, .slice none 0 0] ∧ fieldOf prog 154 0 = some (0, false, 1) ∧ placeOf prog 154 0 = some (0, false, 1) ∧ fieldOf prog 154 1 = some (1, true, 4) ∧ placeOf prog 154 1 = some (1, true, 4) ∧ fieldOf prog 154 2 = some (5, true, 35) ∧ placeOf prog 154 2 = some (5, true, 35) ∧ placesOk prog 154 = true ∧ lay prog 155 = some (true, 40) ∧ zeroOf prog 155 = some [.bool false, .string ByteArray.empty, .string ByteArray.empty, .slice none 0 0, .slice none 0 0, .int .i64 0, .string ByteArray.empty, .int .i64 0, .string ByteArray.empty, .int .i64 0, .string ByteArray.empty, .int .i64 0, .string ByteArray.empty, .int .i64 0, .string ByteArray.empty, .int .i64 0, .string ByteArray.empty, .int .i64 0, .string ByteArray.empty, .slice none 0 0, .int .i64 0, .string ByteArray.empty, .int .i64 0, .string ByteArray.empty, .int .i64 0, .string ByteArray.empty, .slice none 0 0, .int .i64 0, .string ByteArray.empty, .int .i64 0, .string ByteArray.empty, .int .i64 0, .string ByteArray.empty, .slice none 0 0, .int .i64 0, .string ByteArray.empty, .int .i64 0, .string ByteArray.empty, .slice none 0 0, .slice none 0 0] ∧ fieldOf prog 155 0 = some (0, false, 1) ∧ placeOf prog 155 0 = some (0, false, 1) ∧ fieldOf prog 155 1 = some (1, true, 4) ∧ placeOf prog 155 1 = some (1, true, 4) := by and_intros <;> kernel_rfl
theorem TF19 : fieldOf prog 155 2 = some (5, true, 35) ∧ placeOf prog 155 2 = some (5, true, 35) ∧ placesOk prog 155 = true ∧ lay prog 156 = some (false, 1) ∧ zeroOf prog 156 = some [.nilFunc] ∧ lay prog 158 = some (false, 1) ∧ zeroOf prog 158 = some [.nilFunc] ∧ lay prog 159 = some (false, 1) ∧ zeroOf prog 159 = some [.nilFunc] ∧ lay prog 160 = some (false, 1) ∧ zeroOf prog 160 = some [.nilFunc] ∧ lay prog 161 = some (false, 1) ∧ zeroOf prog 161 = some [.nilFunc] ∧ prog.underlying 162 = some (.slice 221) ∧ lay prog 162 = some (false, 1) ∧ zeroOf prog 162 = some [.slice none 0 0] ∧ elemOfSl prog 162 = some (221, true, 3) ∧ appTy prog 162 = some (221, 3, 24) ∧ lay prog 163 = some (false, 1) ∧ zeroOf prog 163 = some [.nilFunc] ∧ lay prog 165 = some (false, 1) ∧ zeroOf prog 165 = some [.nilFunc] ∧ lay prog 166 = some (true, 3) ∧ zeroOf prog 166 = some [.string ByteArray.empty, .int .i64 0, .string ByteArray.empty] ∧ fieldOf prog 166 0 = some (0, false, 1) ∧ placeOf prog 166 0 = some (0, false, 1) ∧ fieldOf prog 166 1 = some (1, true, 2) ∧ placeOf prog 166 1 = some (1, true, 2) ∧ placesOk prog 166 = true ∧ eqTys prog 166 = some [2, 0, 2] ∧ lay prog 167 = some (false, 1) ∧ zeroOf prog 167 = some [.nilFunc] ∧ prog.underlying 168 = some (.slice 3) ∧ lay prog 168 = some (false, 1) ∧ zeroOf prog 168 = some [.slice none 0 0] ∧ elemOfSl prog 168 = some (3, false, 1) ∧ appTy prog 168 = some (3, 1, 8) ∧ lay prog 169 = some (false, 1) ∧ zeroOf prog 169 = some [.nilFunc] ∧ lay prog 170 = some (false, 1) := by and_intros <;> kernel_rfl
theorem TF20 : zeroOf prog 170 = some [.nilFunc] ∧ lay prog 172 = some (false, 1) ∧ zeroOf prog 172 = some [.nilFunc] ∧ lay prog 173 = some (false, 1) ∧ zeroOf prog 173 = some [.nilFunc] ∧ prog.underlying 174 = some (.array 2 9) ∧ lay prog 174 = some (true, 2) ∧ zeroOf prog 174 = some [.string ByteArray.empty, .string ByteArray.empty] ∧ elemOfSl prog 174 = none ∧ elemOfArr prog 174 = some (2, false, 1) ∧ placeOf prog 174 0 = some (0, false, 1) ∧ placeOf prog 174 1 = some (1, false, 1) ∧ placesOk prog 174 = true ∧ eqTys prog 174 = some [2, 2] ∧ lay prog 175 = some (false, 1) ∧ zeroOf prog 175 = some [.nilFunc] ∧ lay prog 176 = some (true, 3) ∧ zeroOf prog 176 = some [.slice none 0 0, .int .i64 0, .string ByteArray.empty] ∧ fieldOf prog 176 0 = some (0, false, 1) ∧ placeOf prog 176 0 = some (0, false, 1) ∧ fieldOf prog 176 1 = some (1, true, 2) ∧ placeOf prog 176 1 = some (1, true, 2) ∧ placesOk prog 176 = true ∧ lay prog 177 = some (true, 3) ∧ zeroOf prog 177 = some [.slice none 0 0, .int .i64 0, .string ByteArray.empty] ∧ fieldOf prog 177 0 = some (0, false, 1) ∧ placeOf prog 177 0 = some (0, false, 1) ∧ fieldOf prog 177 1 = some (1, true, 2) ∧ placeOf prog 177 1 = some (1, true, 2) ∧ placesOk prog 177 = true ∧ prog.underlying 180 = some (.array 2 3) ∧ lay prog 180 = some (true, 2) ∧ zeroOf prog 180 = some [.int .i64 0, .int .i64 0] ∧ elemOfSl prog 180 = none ∧ elemOfArr prog 180 = some (2, false, 1) ∧ placeOf prog 180 0 = some (0, false, 1) ∧ placeOf prog 180 1 = some (1, false, 1) ∧ placesOk prog 180 = true ∧ eqTys prog 180 = some [0, 0] ∧ lay prog 190 = some (false, 1) := by and_intros <;> kernel_rfl
theorem TF21 : zeroOf prog 190 = some [.nilFunc] ∧ lay prog 191 = some (false, 1) ∧ zeroOf prog 191 = some [.nilFunc] ∧ lay prog 193 = some (false, 1) ∧ zeroOf prog 193 = some [.nilFunc] ∧ lay prog 194 = some (true, 4) ∧ zeroOf prog 194 = some [.nilFunc, .nilFunc, .nilFunc, .nilFunc] ∧ fieldOf prog 194 0 = some (0, false, 1) ∧ placeOf prog 194 0 = some (0, false, 1) ∧ fieldOf prog 194 1 = some (1, false, 1) ∧ placeOf prog 194 1 = some (1, false, 1) ∧ fieldOf prog 194 2 = some (2, false, 1) ∧ placeOf prog 194 2 = some (2, false, 1) ∧ fieldOf prog 194 3 = some (3, false, 1) ∧ placeOf prog 194 3 = some (3, false, 1) ∧ placesOk prog 194 = true ∧ lay prog 195 = some (true, 4) ∧ zeroOf prog 195 = some [.nilFunc, .nilFunc, .nilFunc, .nilFunc] ∧ fieldOf prog 195 0 = some (0, false, 1) ∧ placeOf prog 195 0 = some (0, false, 1) ∧ fieldOf prog 195 1 = some (1, false, 1) ∧ placeOf prog 195 1 = some (1, false, 1) ∧ fieldOf prog 195 2 = some (2, false, 1) ∧ placeOf prog 195 2 = some (2, false, 1) ∧ fieldOf prog 195 3 = some (3, false, 1) ∧ placeOf prog 195 3 = some (3, false, 1) ∧ placesOk prog 195 = true ∧ lay prog 199 = some (false, 1) ∧ zeroOf prog 199 = some [.nilFunc] ∧ prog.underlying 202 = some (.array 3 5) ∧ lay prog 202 = some (true, 3) ∧ zeroOf prog 202 = some [.int .u8 0, .int .u8 0, .int .u8 0] ∧ elemOfSl prog 202 = none ∧ elemOfArr prog 202 = some (3, false, 1) ∧ placeOf prog 202 0 = some (0, false, 1) ∧ placeOf prog 202 1 = some (1, false, 1) ∧ placeOf prog 202 2 = some (2, false, 1) ∧ placesOk prog 202 = true ∧ eqTys prog 202 = some [0, 0, 0] ∧ prog.underlying 204 = some (.slice 211) := by and_intros <;> kernel_rfl
theorem TF22 : lay prog 204 = some (false, 1) ∧ zeroOf prog 204 = some [.slice none 0 0] ∧ elemOfSl prog 204 = some (211, false, 1) ∧ appTy prog 204 = some (211, 1, 8) ∧ prog.underlying 210 = some (.map 166 53) ∧ lay prog 210 = some (false, 1) ∧ zeroOf prog 210 = some [.map none] ∧ prog.underlying 211 = some (.map 166 53) ∧ lay prog 211 = some (false, 1) ∧ zeroOf prog 211 = some [.map none] ∧ lay prog 212 = some (false, 1) ∧ zeroOf prog 212 = some [.nilFunc] ∧ lay prog 213 = some (false, 1) ∧ zeroOf prog 213 = some [.nilFunc] ∧ lay prog 214 = some (false, 1) ∧ zeroOf prog 214 = some [.nilFunc] ∧ lay prog 216 = some (false, 1) ∧ zeroOf prog 216 = some [.nilFunc] ∧ prog.underlying 217 = some (.pointer 53) ∧ lay prog 217 = some (false, 1) ∧ zeroOf prog 217 = some [.pointer none] ∧ lay prog 218 = some (false, 1) ∧ zeroOf prog 218 = some [.nilFunc] ∧ lay prog 219 = some (false, 1) ∧ zeroOf prog 219 = some [.nilFunc] ∧ lay prog 220 = some (true, 3) ∧ zeroOf prog 220 = some [.int .i64 0, .int .i64 0, .int .i64 0] ∧ fieldOf prog 220 0 = some (0, false, 1) ∧ placeOf prog 220 0 = some (0, false, 1) ∧ fieldOf prog 220 1 = some (1, false, 1) ∧ placeOf prog 220 1 = some (1, false, 1) ∧ fieldOf prog 220 2 = some (2, false, 1) ∧ placeOf prog 220 2 = some (2, false, 1) ∧ placesOk prog 220 = true ∧ eqTys prog 220 = some [0, 0, 0] ∧ lay prog 221 = some (true, 3) ∧ zeroOf prog 221 = some [.int .i64 0, .int .i64 0, .int .i64 0] ∧ fieldOf prog 221 0 = some (0, false, 1) ∧ placeOf prog 221 0 = some (0, false, 1) ∧ fieldOf prog 221 1 = some (1, false, 1) := by and_intros <;> kernel_rfl
theorem TF23 : placeOf prog 221 1 = some (1, false, 1) ∧ fieldOf prog 221 2 = some (2, false, 1) ∧ placeOf prog 221 2 = some (2, false, 1) ∧ placesOk prog 221 = true ∧ eqTys prog 221 = some [0, 0, 0] ∧ lay prog 222 = some (false, 1) ∧ zeroOf prog 222 = some [.nilFunc] ∧ lay prog 223 = some (false, 1) ∧ zeroOf prog 223 = some [.nilFunc] ∧ prog.underlying 224 = some (.map 9 3) ∧ lay prog 224 = some (false, 1) ∧ zeroOf prog 224 = some [.map none] ∧ prog.underlying 225 = some (.map 221 4) ∧ lay prog 225 = some (false, 1) ∧ zeroOf prog 225 = some [.map none] ∧ prog.underlying 226 = some (.slice 232) ∧ lay prog 226 = some (false, 1) ∧ zeroOf prog 226 = some [.slice none 0 0] ∧ elemOfSl prog 226 = some (232, true, 6) ∧ appTy prog 226 = some (232, 6, 96) ∧ lay prog 227 = some (true, 3) ∧ zeroOf prog 227 = some [.slice none 0 0, .map none, .map none] ∧ fieldOf prog 227 0 = some (0, false, 1) ∧ placeOf prog 227 0 = some (0, false, 1) ∧ fieldOf prog 227 1 = some (1, false, 1) ∧ placeOf prog 227 1 = some (1, false, 1) ∧ fieldOf prog 227 2 = some (2, false, 1) ∧ placeOf prog 227 2 = some (2, false, 1) ∧ placesOk prog 227 = true ∧ lay prog 228 = some (true, 3) ∧ zeroOf prog 228 = some [.slice none 0 0, .map none, .map none] ∧ fieldOf prog 228 0 = some (0, false, 1) ∧ placeOf prog 228 0 = some (0, false, 1) ∧ fieldOf prog 228 1 = some (1, false, 1) ∧ placeOf prog 228 1 = some (1, false, 1) ∧ fieldOf prog 228 2 = some (2, false, 1) ∧ placeOf prog 228 2 = some (2, false, 1) ∧ placesOk prog 228 = true ∧ prog.underlying 229 = some (.map 9 64) ∧ lay prog 229 = some (false, 1) := by and_intros <;> kernel_rfl
theorem TF24 : zeroOf prog 229 = some [.map none] ∧ prog.underlying 230 = some (.map 9 4) ∧ lay prog 230 = some (false, 1) ∧ zeroOf prog 230 = some [.map none] ∧ lay prog 231 = some (true, 6) ∧ zeroOf prog 231 = some [.string ByteArray.empty, .string ByteArray.empty, .slice none 0 0, .slice none 0 0, .map none, .map none] ∧ fieldOf prog 231 0 = some (0, true, 4) ∧ placeOf prog 231 0 = some (0, true, 4) ∧ fieldOf prog 231 1 = some (4, false, 1) ∧ placeOf prog 231 1 = some (4, false, 1) ∧ fieldOf prog 231 2 = some (5, false, 1) ∧ placeOf prog 231 2 = some (5, false, 1) ∧ placesOk prog 231 = true ∧ lay prog 232 = some (true, 6) ∧ zeroOf prog 232 = some [.string ByteArray.empty, .string ByteArray.empty, .slice none 0 0, .slice none 0 0, .map none, .map none] ∧ fieldOf prog 232 0 = some (0, true, 4) ∧ placeOf prog 232 0 = some (0, true, 4) ∧ fieldOf prog 232 1 = some (4, false, 1) ∧ placeOf prog 232 1 = some (4, false, 1) ∧ fieldOf prog 232 2 = some (5, false, 1) ∧ placeOf prog 232 2 = some (5, false, 1) ∧ placesOk prog 232 = true ∧ lay prog 238 = some (false, 1) ∧ zeroOf prog 238 = some [.nilFunc] ∧ lay prog 239 = some (false, 1) ∧ zeroOf prog 239 = some [.nilFunc] ∧ prog.underlying 253 = some (.int .u64) ∧ lay prog 253 = some (false, 1) ∧ zeroOf prog 253 = some [.int .u64 0] ∧ lay prog 259 = some (false, 1) ∧ zeroOf prog 259 = some [.nilFunc] ∧ lay prog 260 = some (false, 1) ∧ zeroOf prog 260 = some [.nilFunc] ∧ lay prog 261 = some (false, 1) ∧ zeroOf prog 261 = some [.nilFunc] ∧ lay prog 262 = some (false, 1) ∧ zeroOf prog 262 = some [.nilFunc] ∧ lay prog 263 = some (false, 1) ∧ zeroOf prog 263 = some [.nilFunc] ∧ lay prog 264 = some (false, 1) := by and_intros <;> kernel_rfl
theorem TF25 : zeroOf prog 264 = some [.nilFunc] ∧ prog.underlying 265 = some (.map 166 4) ∧ lay prog 265 = some (false, 1) ∧ zeroOf prog 265 = some [.map none] ∧ lay prog 266 = some (false, 1) ∧ zeroOf prog 266 = some [.nilFunc] ∧ lay prog 267 = some (false, 1) ∧ zeroOf prog 267 = some [.nilFunc] ∧ lay prog 268 = some (false, 1) ∧ zeroOf prog 268 = some [.nilFunc] ∧ lay prog 270 = some (false, 1) ∧ zeroOf prog 270 = some [.nilFunc] ∧ lay prog 291 = some (false, 1) ∧ zeroOf prog 291 = some [.nilFunc] ∧ lay prog 292 = some (false, 1) ∧ zeroOf prog 292 = some [.nilFunc] ∧ lay prog 294 = some (false, 1) ∧ zeroOf prog 294 = some [.nilFunc] ∧ prog.underlying 300 = some (.int .i64) ∧ lay prog 300 = some (false, 1) ∧ zeroOf prog 300 = some [.int .i64 0] ∧ prog.underlying 307 = some (.int .u32) ∧ lay prog 307 = some (false, 1) ∧ zeroOf prog 307 = some [.int .u32 0] ∧ prog.underlying 309 = some (.int .u64) ∧ lay prog 309 = some (false, 1) ∧ zeroOf prog 309 = some [.int .u64 0] ∧ prog.underlying 337 = some (.int .u64) ∧ lay prog 337 = some (false, 1) ∧ zeroOf prog 337 = some [.int .u64 0] ∧ prog.underlying 341 = some (.pointer 3) ∧ lay prog 341 = some (false, 1) ∧ zeroOf prog 341 = some [.pointer none] ∧ prog.underlying 362 = some (.pointer 337) ∧ lay prog 362 = some (false, 1) ∧ zeroOf prog 362 = some [.pointer none] ∧ lay prog 373 = some (true, 4) ∧ zeroOf prog 373 = some [.pointer none, .pointer none, .pointer none, .string ByteArray.empty] ∧ fieldOf prog 373 0 = some (0, false, 1) ∧ placeOf prog 373 0 = some (0, false, 1) := by and_intros <;> kernel_rfl
theorem TF26 : fieldOf prog 373 1 = some (1, false, 1) ∧ placeOf prog 373 1 = some (1, false, 1) ∧ fieldOf prog 373 2 = some (2, false, 1) ∧ placeOf prog 373 2 = some (2, false, 1) ∧ fieldOf prog 373 3 = some (3, false, 1) ∧ placeOf prog 373 3 = some (3, false, 1) ∧ placesOk prog 373 = true ∧ lay prog 374 = some (true, 4) ∧ zeroOf prog 374 = some [.pointer none, .pointer none, .pointer none, .string ByteArray.empty] ∧ fieldOf prog 374 0 = some (0, false, 1) ∧ placeOf prog 374 0 = some (0, false, 1) ∧ fieldOf prog 374 1 = some (1, false, 1) ∧ placeOf prog 374 1 = some (1, false, 1) ∧ fieldOf prog 374 2 = some (2, false, 1) ∧ placeOf prog 374 2 = some (2, false, 1) ∧ fieldOf prog 374 3 = some (3, false, 1) ∧ placeOf prog 374 3 = some (3, false, 1) ∧ placesOk prog 374 = true ∧ prog.underlying 375 = some (.array 0 16) ∧ lay prog 375 = some (true, 0) ∧ zeroOf prog 375 = some [] ∧ elemOfSl prog 375 = none ∧ elemOfArr prog 375 = some (0, false, 1) ∧ placesOk prog 375 = true ∧ lay prog 376 = some (true, 0) ∧ zeroOf prog 376 = some [] ∧ fieldOf prog 376 0 = some (0, true, 0) ∧ placeOf prog 376 0 = some (0, true, 0) ∧ placesOk prog 376 = true ∧ lay prog 377 = some (true, 0) ∧ zeroOf prog 377 = some [] ∧ fieldOf prog 377 0 = some (0, true, 0) ∧ placeOf prog 377 0 = some (0, true, 0) ∧ placesOk prog 377 = true ∧ prog.underlying 379 = some (.int .u8) ∧ lay prog 379 = some (false, 1) ∧ zeroOf prog 379 = some [.int .u8 0] ∧ prog.underlying 380 = some (.int .u8) ∧ lay prog 380 = some (false, 1) ∧ zeroOf prog 380 = some [.int .u8 0] := by and_intros <;> kernel_rfl
theorem TF27 : lay prog 381 = some (false, 1) ∧ zeroOf prog 381 = some [.nilFunc] ∧ prog.underlying 382 = some (.pointer 5) ∧ lay prog 382 = some (false, 1) ∧ zeroOf prog 382 = some [.pointer none] ∧ prog.underlying 383 = some (.int .i32) ∧ lay prog 383 = some (false, 1) ∧ zeroOf prog 383 = some [.int .i32 0] ∧ prog.underlying 384 = some (.int .i32) ∧ lay prog 384 = some (false, 1) ∧ zeroOf prog 384 = some [.int .i32 0] ∧ lay prog 385 = some (true, 11) ∧ zeroOf prog 385 = some [.int .u64 0, .int .u64 0, .int .u32 0, .int .u8 0, .int .u8 0, .int .u8 0, .int .u8 0, .nilFunc, .pointer none, .int .i32 0, .int .i32 0] ∧ fieldOf prog 385 0 = some (0, false, 1) ∧ placeOf prog 385 0 = some (0, false, 1) ∧ fieldOf prog 385 1 = some (1, false, 1) ∧ placeOf prog 385 1 = some (1, false, 1) ∧ fieldOf prog 385 2 = some (2, false, 1) ∧ placeOf prog 385 2 = some (2, false, 1) ∧ fieldOf prog 385 3 = some (3, false, 1) ∧ placeOf prog 385 3 = some (3, false, 1) ∧ fieldOf prog 385 4 = some (4, false, 1) ∧ placeOf prog 385 4 = some (4, false, 1) ∧ fieldOf prog 385 5 = some (5, false, 1) ∧ placeOf prog 385 5 = some (5, false, 1) ∧ fieldOf prog 385 6 = some (6, false, 1) ∧ placeOf prog 385 6 = some (6, false, 1) ∧ fieldOf prog 385 7 = some (7, false, 1) ∧ placeOf prog 385 7 = some (7, false, 1) ∧ fieldOf prog 385 8 = some (8, false, 1) ∧ placeOf prog 385 8 = some (8, false, 1) ∧ fieldOf prog 385 9 = some (9, false, 1) ∧ placeOf prog 385 9 = some (9, false, 1) ∧ fieldOf prog 385 10 = some (10, false, 1) ∧ placeOf prog 385 10 = some (10, false, 1) ∧ placesOk prog 385 = true ∧ lay prog 386 = some (true, 11) ∧ zeroOf prog 386 = some [.int .u64 0, .int .u64 0, .int .u32 0, .int .u8 0, .int .u8 0, .int .u8 0, .int .u8 0, .nilFunc, .pointer none, .int .i32 0, .int .i32 0] ∧ fieldOf prog 386 0 = some (0, false, 1) ∧ placeOf prog 386 0 = some (0, false, 1) := by and_intros <;> kernel_rfl
theorem TF28 : fieldOf prog 386 1 = some (1, false, 1) ∧ placeOf prog 386 1 = some (1, false, 1) ∧ fieldOf prog 386 2 = some (2, false, 1) ∧ placeOf prog 386 2 = some (2, false, 1) ∧ fieldOf prog 386 3 = some (3, false, 1) ∧ placeOf prog 386 3 = some (3, false, 1) ∧ fieldOf prog 386 4 = some (4, false, 1) ∧ placeOf prog 386 4 = some (4, false, 1) ∧ fieldOf prog 386 5 = some (5, false, 1) ∧ placeOf prog 386 5 = some (5, false, 1) ∧ fieldOf prog 386 6 = some (6, false, 1) ∧ placeOf prog 386 6 = some (6, false, 1) ∧ fieldOf prog 386 7 = some (7, false, 1) ∧ placeOf prog 386 7 = some (7, false, 1) ∧ fieldOf prog 386 8 = some (8, false, 1) ∧ placeOf prog 386 8 = some (8, false, 1) ∧ fieldOf prog 386 9 = some (9, false, 1) ∧ placeOf prog 386 9 = some (9, false, 1) ∧ fieldOf prog 386 10 = some (10, false, 1) ∧ placeOf prog 386 10 = some (10, false, 1) ∧ placesOk prog 386 = true ∧ lay prog 387 = some (false, 1) ∧ zeroOf prog 387 = some [.pointer none] ∧ zeroD prog 53 = some (.agg [.lit (.string ByteArray.empty), .lit (.string ByteArray.empty), .sl [], .sl []]) ∧ zeroD prog 3 = some (.lit (.int .i64 0)) ∧ zeroD prog 4 = some (.lit (.bool false)) ∧ zeroD prog 64 = some (.agg [.lit (.int .i64 0), .lit (.string ByteArray.empty), .lit (.int .i64 0), .lit (.string ByteArray.empty), .lit (.int .i64 0), .lit (.string ByteArray.empty), .lit (.int .i64 0), .lit (.string ByteArray.empty), .lit (.int .i64 0), .lit (.string ByteArray.empty), .lit (.int .i64 0), .lit (.string ByteArray.empty), .lit (.int .i64 0), .lit (.string ByteArray.empty), .sl [], .lit (.int .i64 0), .lit (.string ByteArray.empty), .lit (.int .i64 0), .lit (.string ByteArray.empty), .lit (.int .i64 0), .lit (.string ByteArray.empty), .sl [], .lit (.int .i64 0), .lit (.string ByteArray.empty), .lit (.int .i64 0), .lit (.string ByteArray.empty), .lit (.int .i64 0), .lit (.string ByteArray.empty), .sl [], .lit (.int .i64 0), .lit (.string ByteArray.empty), .lit (.int .i64 0), .lit (.string ByteArray.empty), .sl [], .sl []]) := by and_intros <;> kernel_rfl
set_option linter.defProp false
def TF := And.intro TF0 (And.intro TF1 (And.intro TF2 (And.intro TF3 (And.intro TF4 (And.intro TF5 (And.intro TF6 (And.intro TF7 (And.intro TF8 (And.intro TF9 (And.intro TF10 (And.intro TF11 (And.intro TF12 (And.intro TF13 (And.intro TF14 (And.intro TF15 (And.intro TF16 (And.intro TF17 (And.intro TF18 (And.intro TF19 (And.intro TF20 (And.intro TF21 (And.intro TF22 (And.intro TF23 (And.intro TF24 (And.intro TF25 (And.intro TF26 (And.intro TF27 TF28)))))))))))))))))))))))))))
end Go.Proofs.YtbenhdgpogiadaaGreat

namespace Go.Proofs.YtbenhdgpogiadaaGreat
open Go.Aw
/-! ### Data -/
/-- Strings and numbers as long and as large as they can be. -/
abbrev Str := {s : ByteArray // s.size ≤ maxLen}
abbrev I64 := {n : Int // (Lit.int .i64 n).wf = true}
structure Num where
 n : Int
 p : Str
 deriving DecidableEq
structure Rule where
 kind : Int
 from' : Str
 n : Int
 deriving DecidableEq
structure Bind where
 port : Str
 chan : Str
 deriving DecidableEq
inductive Expr where
 | mk (op : Int) (name : Str) (k w : Num) (args : List Expr)
def Expr.op : Expr → Int | .mk o _ _ _ _ => o
def Expr.name : Expr → Str | .mk _ n _ _ _ => n
def Expr.k : Expr → Num | .mk _ _ k _ _ => k
def Expr.w : Expr → Num | .mk _ _ _ w _ => w
def Expr.args : Expr → List Expr | .mk _ _ _ _ a => a
structure Item where
 kind : I64
 name : Str
 width : Num
 depth : Num
 init : Num
 a : Expr
 b : Expr
 c : Expr
 rule : Rule
 of : Str
 args : List Num
 ports : List Bind
structure Module where
 name : Str
 clock : Str
 params : List Str
 items : List Item
structure Problem where
 code : Int
 module : Int
 item : Int
 deriving DecidableEq
def eU8 (n : Nat) : D := .lit (.int .u8 n)
def eI (n : Int) : D := .lit (.int .i64 n)
def eB (b : Bool) : D := .lit (.bool b)
def eS (s : Str) : D := .lit (.string s.1)
theorem str_eq (x y : Str) : decide (x.1 = y.1) = decide (x = y) := by rw [decide_eq_decide]; exact Subtype.ext_iff.symm
def eNum (x : Num) : List D := [eI x.n, eS x.p]
def eRule (x : Rule) : List D := [eI x.kind, eS x.from', eI x.n]
def eBind (x : Bind) : List D := [eS x.port, eS x.chan]
def eProb (x : Problem) : List D := [eI x.code, eI x.module, eI x.item]
def eStrs (l : List Str) : D := .sl (l.map fun s => [eS s])
def eInts (l : List Int) : D := .sl (l.map fun s => [eI s])
def eNums (l : List Num) : D := .sl (l.map eNum)
def eBinds (l : List Bind) : D := .sl (l.map eBind)
def eProbs (l : List Problem) : D := .sl (l.map eProb)
def eBytes (l : List Nat) : D := .sl (l.map fun n => [eU8 n])
mutual
def eExpr : Expr → List D
 | .mk o n k w a => [eI o, eS n, eI k.n, eS k.p, eI w.n, eS w.p, .sl (eExprL a)]
def eExprL : List Expr → List (List D)
 | [] => []
 | e :: r => eExpr e :: eExprL r
end
theorem eExprL_map : ∀ l : List Expr, eExprL l = l.map eExpr
 | [] => by simp [eExprL]
 | e :: r => by simp [eExprL, eExprL_map r]
theorem eExpr_eq (e : Expr) : eExpr e = [eI e.op, eS e.name, eI e.k.n, eS e.k.p, eI e.w.n, eS e.w.p, .sl (e.args.map eExpr)] := by
 cases e; simp [eExpr, eExprL_map, Expr.op, Expr.name, Expr.k, Expr.w, Expr.args]
def eExprs (l : List Expr) : D := .sl (l.map eExpr)
def eItem (x : Item) : List D := eI x.kind.1 :: eS x.name :: (eNum x.width ++ (eNum x.depth ++ (eNum x.init ++ (eExpr x.a ++ (eExpr x.b ++ (eExpr x.c ++ (eRule x.rule ++ [eS x.of, eNums x.args, eBinds x.ports])))))))
def eItems (l : List Item) : D := .sl (l.map eItem)
def eModule (m : Module) : List D := [eS m.name, eS m.clock, eStrs m.params, eItems m.items]
def eModules (l : List Module) : D := .sl (l.map eModule)
/-- Regions walked with chains. -/
def chL (i : Nat) : List Gh := if 2000 ≤ i then [.chn] else []
set_option linter.defProp false
def KD := And.intro @str_eq (And.intro @chL.eq_1 (And.intro @eU8.eq_1 (And.intro @eI.eq_1 (And.intro @eB.eq_1 (And.intro @eS.eq_1 (And.intro @eNum.eq_1 (And.intro @eRule.eq_1 (And.intro @eBind.eq_1 (And.intro @eProb.eq_1 (And.intro @eStrs.eq_1 (And.intro @eInts.eq_1 (And.intro @eNums.eq_1 (And.intro @eBinds.eq_1 (And.intro @eProbs.eq_1 (And.intro @eBytes.eq_1 (And.intro @eExpr_eq (And.intro @eExprs.eq_1 (And.intro @eItem.eq_1 (And.intro @eItems.eq_1 (And.intro @eModule.eq_1 @eModules.eq_1))))))))))))))))))))
theorem zA.{u} {α : Sort u} (a : α) : (a = a) = True := eq_self a
theorem zB.{u} {α : Sort u} (a b : α) : (a ≠ b) = ¬(a = b) := ne_eq a b
theorem zC.{u} (α : Sort u) : (α → True) = True := implies_true α
theorem zD.{u} {b : Prop} (α : Sort u) [i : Nonempty α] : (α → b) ↔ b := forall_const α
theorem zF.{u} {α : Sort u} {i : Decidable True} (t e : α) : ite True t e = t := if_true t e
theorem zG.{u} {α : Sort u} {i : Decidable False} (t e : α) : ite False t e = e := if_false t e
theorem zH.{u} {α : Sort u} (a b : α) : cond true a b = a := rfl
theorem zI.{u} {α : Sort u} (a b : α) : cond false a b = b := rfl
theorem zJ.{u} {α : Sort u} {p : α → Prop} {c : α} : (∀ a, a = c → p a) ↔ p c := forall_eq
def ZZ := And.intro @zA.{1} (And.intro @zB.{1} (And.intro @zC.{0} (And.intro @zC.{1} (And.intro @zD.{0} (And.intro @zD.{1} (And.intro @zF.{1} (And.intro @zG.{1} (And.intro @zH.{1} (And.intro @zI.{1} @zJ.{1})))))))))
def ZY := And.intro GE (And.intro ZZ (And.intro @List.replicate.eq_1.{0} @List.replicate.eq_2.{0}))
def ZE := And.intro SE (And.intro SX (And.intro TF (And.intro KD ZY)))
def ZM := And.intro SE (And.intro SXm (And.intro TF (And.intro KD ZY)))
def zN := And.intro Nat.zero_add Int.natCast_one
end Go.Proofs.YtbenhdgpogiadaaGreat

namespace Go.Proofs.YtbenhdgpogiadaaGreat
open Go.Aw
set_option maxRecDepth 100000
set_option maxHeartbeats 1000000
theorem getD_map {α β : Type} {f : α → β} {l : List α} {i : Nat} (h : i < l.length) (d : β) : (l.map f).getD i d = f l[i] := by simp [List.getD, h]
theorem dec_lt {i n : Nat} (h : i < n) : decide ((i : Int) < (n : Int)) = true := by simp; omega
theorem dec_ge {i n : Nat} (h : n ≤ i) : decide ((i : Int) < (n : Int)) = false := by simp; omega
theorem lt_int {i n : Nat} (h : i < n) : (0 ≤ (i : Int) ∧ (i : Int) < (n : Int)) = True := by simp; omega
theorem wrap_id {x : Int} (h0 : -9223372036854775808 ≤ x) (h1 : x ≤ 9223372036854775807) : IntKind.i64.wrap x = x := by
 simp only [IntKind.wrap, IntKind.bits, IntKind.signed]
 simp
 omega
theorem wrap_succ {i : Nat} (h : i < 9223372036854775807) : IntKind.i64.wrap ((i : Int) + 1) = ((i + 1 : Nat) : Int) := by
 rw [wrap_id (by omega) (by omega)]; simp
theorem ok_len {es : List (List D)} (h : (D.sl es).ok) : es.length ≤ 9223372036854775807 := by
 simp only [D.ok] at h; have := h.1; unfold maxLen at this; omega
theorem okL_cons {x : D} {xs : List D} (h : D.okL (x :: xs)) : x.ok ∧ D.okL xs := by simpa only [D.okL] using h
theorem ok_map {α : Type} {f : α → List D} {l : List α} (h : (D.sl (l.map f)).ok) : l.length ≤ 9223372036854775807 ∧ ∀ x ∈ l, D.okL (f x) := by
 refine ⟨by simpa using ok_len h, fun x hx => ?_⟩
 simp only [D.ok] at h
 exact okLL_mem h.2 _ (List.mem_map.2 ⟨x, hx, rfl⟩)
def declares (k : Int) : Bool := decide (1 ≤ k) && decide (k ≤ 6) || k == 9
def arity (k : Int) : Int :=
 if (k == 1 || k == 14) = true then 0
 else if (k == 2 || k == 12 || k == 13 || k == 15) = true then 1
 else if (k == 10) = true then 3
 else if (decide (2 < k) && decide (k < 12)) = true then 2
 else -1
/-- The first place of an element. -/
def idx {α : Type} [DecidableEq α] (l : List α) (x : α) : Int := match l.findIdx? (fun y => decide (x = y)) with | some i => (i : Int) | none => -1
/-- Is it in the list? -/
def has {α : Type} [DecidableEq α] (l : List α) (x : α) : Bool := l.any fun y => decide (x = y)
end Go.Proofs.YtbenhdgpogiadaaGreat

namespace Go.Proofs.YtbenhdgpogiadaaGreat
open Go.Aw
set_option maxRecDepth 100000
set_option maxHeartbeats 1000000
/-- The byte at a place. -/
def byteAt (s : ByteArray) (i : Nat) : Nat := (s.data.getD i 0).toNat
def letterB (b : Nat) : Bool := decide ((97 : Int) ≤ b) && decide ((b : Int) ≤ 122)
def digitB (b : Nat) : Bool := decide ((48 : Int) ≤ b) && decide ((b : Int) ≤ 57)
def nameAt (s : ByteArray) (i : Nat) : Bool := letterB (byteAt s i) || (decide (i ≠ 0) && digitB (byteAt s i))
def isName (s : ByteArray) : Bool := !((s.size : Int) == 0 || decide ((s.size : Int) > 16)) && (List.range s.size).all (nameAt s)
end Go.Proofs.YtbenhdgpogiadaaGreat

namespace Go.Proofs.YtbenhdgpogiadaaGreat
open Go.Aw
set_option maxRecDepth 100000
set_option maxHeartbeats 1000000
open Classical in
open Classical in
def usesN (k : Int) : Nat := if k = 4 then 1 else if k = 5 then 1 else if k = 7 then 1 else if k = 8 then 2 else if k = 6 then 3 else 0
def uses (x : Item) : List Expr := [x.a, x.b, x.c].take (usesN x.kind.1)
end Go.Proofs.YtbenhdgpogiadaaGreat

namespace Go.Proofs.YtbenhdgpogiadaaGreat
open Go.Aw
set_option maxRecDepth 100000
set_option maxHeartbeats 1000000
mutual
def Expr.all : Expr → List Expr
 | .mk o n k w a => .mk o n k w a :: Expr.allL a
def Expr.allL : List Expr → List Expr
 | [] => []
 | e :: r => Expr.all e ++ Expr.allL r
end
theorem Expr.all_eq (e : Expr) : e.all = e :: Expr.allL e.args := by cases e; simp [Expr.all, Expr.args]
theorem allL_app : ∀ a b : List Expr, Expr.allL (a ++ b) = Expr.allL a ++ Expr.allL b
 | [], b => by simp [Expr.allL]
 | e :: a, b => by simp [Expr.allL, allL_app a b]
theorem allL_step (l : List Expr) (i : Nat) (h : i < l.length) : Expr.allL (l.take (i + 1)) = Expr.allL (l.take i) ++ (l[i] :: Expr.allL l[i].args) := by
 rw [List.take_succ_eq_append_getElem h, allL_app]
 simp [Expr.allL, Expr.all_eq]
theorem allL_pre (l : List Expr) (i : Nat) : Expr.allL (l.take i) <+: Expr.allL l := by
 conv => rhs; rw [← List.take_append_drop i l]
 rw [allL_app]
 exact List.prefix_append _ _
def eA (e : Expr) : List D := [.agg (eExpr e)]
end Go.Proofs.YtbenhdgpogiadaaGreat

namespace Go.Proofs.YtbenhdgpogiadaaGreat
open Go.Aw
set_option maxRecDepth 100000
set_option maxHeartbeats 1000000
def badE (e : Expr) : Bool := !(arity e.op == (e.args.length : Int))
def malformed (x : Item) : Bool := decide (x.kind.1 < 1) || decide (x.kind.1 > 9) || (Expr.allL (uses x)).any badE || ((x.kind.1 == 4 || x.kind.1 == 6) && (decide (x.rule.kind < 0) || decide (x.rule.kind > 3)))
end Go.Proofs.YtbenhdgpogiadaaGreat

namespace Go.Proofs.YtbenhdgpogiadaaGreat
open Go.Aw
set_option maxRecDepth 100000
set_option maxHeartbeats 1000000
/-- What a name stands for. -/
def get {α : Type} (l : List (Str × α)) (s : Str) : Option α := (l.find? fun p => decide (p.1 = s)).map (·.2)
def sK {α : Type} (l : List (Str × α)) : List D := l.map fun p => .lit (.string p.1.1)
def sV {α : Type} (f : α → D) (l : List (Str × α)) : List D := l.map fun p => f p.2
def sMp {α : Type} (f : α → D) (l : List (Str × α)) : D := .mp (sK l) (sV f l) (List.range l.length) l.length
/-- A set of names. -/
def tk (l : List Str) : List (Str × Bool) := l.map fun n => (n, true)
end Go.Proofs.YtbenhdgpogiadaaGreat

namespace Go.Proofs.YtbenhdgpogiadaaGreat
open Go.Aw
set_option maxRecDepth 100000
set_option maxHeartbeats 1000000
def emp : Str := ⟨ByteArray.empty, by decide⟩
def zNum : Num := ⟨0, emp⟩
def zExpr : Expr := .mk 0 emp zNum zNum []
def zItem : Item := ⟨⟨0, rfl⟩, emp, zNum, zNum, zNum, zExpr, zExpr, zExpr, ⟨0, emp, 0⟩, emp, [], []⟩
def zMod : Module := ⟨emp, emp, [], []⟩
def eIt (x : Item) : D := .agg (eItem x)
def firstStep (acc : List (Str × Item)) (x : Item) : List (Str × Item) := if (declares x.kind.1 && (get acc x.name).isNone) = true then acc ++ [(x.name, x)] else acc
def firsts (l : List Item) : List (Str × Item) := l.foldl firstStep []
def takenStep (acc : List Str) (x : Item) : List Str := if (x.kind.1 == 7 && !has acc x.name) = true then acc ++ [x.name] else acc
def takens (l : List Item) : List Str := l.foldl takenStep []
def eScope (m : Module) : List D := [eS m.name, eS m.clock, eStrs m.params, eItems m.items, sMp eIt (firsts m.items), sMp eB (tk (takens m.items))]
end Go.Proofs.YtbenhdgpogiadaaGreat

namespace Go.Proofs.YtbenhdgpogiadaaGreat
open Go.Aw
open Nat renaming reduceEqDiff → pE, reduceLT → pL, reduceAdd → pA, reduceSub → pS, reduceMul → pM, reduceLeDiff → pD
open Int renaming reduceToNat → qT, reduceGT → qG, reduceLT → qL, reduceGE → qH, reduceBNe → qN, reduceBEq → qB, reduceLE → qE, reduceNe → qO, reduceAdd → qA, reduceNeg → qM
set_option maxRecDepth 100000
set_option maxHeartbeats 1000000
/-- Short strings. -/
def st (s : List UInt8) (h : s.length ≤ 100 := by decide) : Str := ⟨⟨s.toArray⟩, by
 have : (⟨s.toArray⟩ : ByteArray).size = s.length := by simp [ByteArray.size]
 rw [this]; unfold maxLen; omega⟩
def byteL (l : List Nat) (i : Nat) : Nat := if l.length = 0 then 0 else l.getD (i % l.length) 0
theorem byteL_lt {l : List Nat} (h : ∀ b ∈ l, b < 256) (i : Nat) : byteL l i < 256 := by
 unfold byteL
 split
 ·omega
 ·have hl : i % l.length < l.length := Nat.mod_lt _ (by omega)
  have : l.getD (i % l.length) 0 = l[i % l.length] := by simp [List.getD, hl]
  rw [this]
  exact h _ (List.getElem_mem hl)
theorem at_c (l : List Nat) (i : Nat) (hb : ∀ b ∈ l, b < 256) (hi : i < 4611686018427387904) : FnP Tryz.prog 164 [eBytes l, eI i] (.d (eI (byteL l i))) [] := by
 refine FnP.of_eC (own := []) (fun _ => []) mixed Tryz.func164 rfl Tryz.call164 Tryz.ntmps164 (Nat.le_of_ble_eq_true rfl) Tryz.results164 (fun hok => ?_)
 have hl : l.length ≤ 9223372036854775807 := (ok_map (okL_cons hok).1).1
 by_cases h : l.length = 0
 ·have h' : ((l.length : Int) == 0) = true := by simpa using h
  simp (maxSteps := 4000000) only [ZE,↓reduceIte,pE,pL,pA,pS,pM,pD, h', zN,qT,qG,qL,qH,qN,qB,qE,qO,qA,qM, byteL, if_pos h]
 ·have h' : ((l.length : Int) == 0) = false := by simpa using h
  have ht : (i : Int).tmod (l.length : Int) = ((i % l.length : Nat) : Int) := (Int.ofNat_tmod i l.length).symm
  have hm : i % l.length < l.length := Nat.mod_lt _ (by omega)
  have hbl : byteL l i = l[i % l.length] := by rw [byteL, if_neg h]; simp [List.getD, hm]
  have hlt := hb _ (List.getElem_mem hm)
  have hw : IntKind.i64.wrap (l[i % l.length] : Int) = (l[i % l.length] : Int) := wrap_id (by omega) (by omega)
  have h0 : ¬ (l.length : Int) = 0 := by omega
  simp (maxSteps := 4000000) only [ZE,↓reduceIte,pE,pL,pA,pS,pM,pD, h', zN,qT,qG,qL,qH,qN,qB,qE,qO,qA,qM, ht, Int.toNat_natCast, getD_map hm, lt_int hm, hw, hbl, h0]
def leaf (l : List Nat) (ns : List Str) (w : Num) (a : Nat) : Expr :=
 if byteL l a % 2 = 0 then .mk 14 (ns.getD (byteL l a / 8 % ns.length) emp) zNum zNum [] else .mk 1 emp ⟨(byteL l a / 8 % 2 : Nat), emp⟩ w []
def condOf (x y : Expr) (b : Nat) : Expr :=
 if b % 4 = 0 then .mk 8 emp zNum zNum [x, y] else if b % 4 = 1 then .mk 9 emp zNum zNum [x, y] else if b % 4 = 2 then .mk 12 emp zNum ⟨1, emp⟩ [x] else .mk 1 emp ⟨1, emp⟩ ⟨1, emp⟩ []
def nodeOf (x y c : Expr) (b : Nat) : Expr :=
 if b / 8 % 7 = 0 then .mk 2 emp zNum zNum [x] else if b / 8 % 7 = 1 then .mk 3 emp zNum zNum [x, y] else if b / 8 % 7 = 2 then .mk 4 emp zNum zNum [x, y] else if b / 8 % 7 = 3 then .mk 5 emp zNum zNum [x, y]
 else if b / 8 % 7 = 4 then .mk 6 emp zNum zNum [x, y] else if b / 8 % 7 = 5 then .mk 7 emp zNum zNum [x, y] else .mk 10 emp zNum zNum [c, x, y]
/-- An expression that bytes say, of some depth. -/
def gen (l : List Nat) (ns : List Str) (w : Num) : Nat → Nat → Expr
 | 0, a => leaf l ns w a
 | d + 1, a => if byteL l a % 8 < 3 then leaf l ns w a else
  nodeOf (gen l ns w d (3 * a + 1)) (gen l ns w d (3 * a + 2)) (condOf (gen l ns w d (3 * a + 4)) (leaf l ns w (3 * a + 5)) (byteL l (3 * a + 3))) (byteL l a)
def cond (l : List Nat) (ns : List Str) (w : Num) (d a : Nat) : Expr := condOf (gen l ns w d (a + 1)) (leaf l ns w (a + 2)) (byteL l a)
def eCtx (ns : List Str) (w : Num) : D := .agg [eStrs ns, eI w.n, eS w.p]
def eAt (a d : Int) : D := .agg [eI a, eI d]
theorem gen0_c (l : List Nat) (ns : List Str) (w : Num) (hb : ∀ b ∈ l, b < 256) (hn : 0 < ns.length) (hn2 : ns.length ≤ 1000) (a : Nat) (ha : a ≤ 1000000) : FnP Tryz.prog 106 [eBytes l, eAt a 0, eCtx ns w] (.d (.agg (eExpr (gen l ns w 0 a)))) [] := by
 refine FnP.of_eC (own := []) (fun i => if i = 2004 then [.chn, .ord ⟨[(0, none), (1, none), (2, none), (3, none), (4, none), (5, none), (6, none), (7, none), (8, none), (9, none), (10, none), (11, some [])]⟩] else chL i) mixed Tryz.func106 rfl Tryz.call106 Tryz.ntmps106 (Nat.le_of_ble_eq_true rfl) Tryz.results106 (fun hok => ?_)
 have ac := at_c l a hb (by omega)
 have hB := byteL_lt hb a
 obtain ⟨b, hbb⟩ : ∃ b, byteL l a = b := ⟨_, rfl⟩
 rw [hbb] at ac hB
 simp only [ZE,↓reduceIte,pE,pL,pA,pS,pM,pD] at ac
 have hm : ((b : Int).tmod 2 == 0) = decide (b % 2 = 0) := by
  rw [show ((b : Int).tmod 2) = ((b % 2 : Nat) : Int) from (Int.ofNat_tmod b 2).symm, Bool.eq_iff_iff]; simp; omega
 have hq : (b : Int).tdiv 8 = ((b / 8 : Nat) : Int) := (Int.ofNat_tdiv b 8).symm
 have hwq : IntKind.i64.wrap ((b / 8 : Nat) : Int) = ((b / 8 : Nat) : Int) := wrap_id (by omega) (by omega)
 have hr : ((b / 8 : Nat) : Int).tmod (ns.length : Int) = ((b / 8 % ns.length : Nat) : Int) := (Int.ofNat_tmod _ _).symm
 have hr2 : ((b / 8 : Nat) : Int).tmod 2 = ((b / 8 % 2 : Nat) : Int) := (Int.ofNat_tmod _ _).symm
 have hlt : b / 8 % ns.length < ns.length := Nat.mod_lt _ hn
 have hgt : decide ((ns.length : Int) > 0) = true := by simp; omega
 have hne : ¬ (ns.length : Int) = 0 := by omega
 have hL : gen l ns w 0 a = leaf l ns w a := rfl
 rw [hL, leaf, hbb]
 simp (maxSteps := 4000000) only [ZE,↓reduceIte,pE,pL,pA,pS,pM,pD, eAt, eCtx, zN,qT,qG,qL,qH,qN,qB,qE,qO,qA,qM]
 refine EFn.p ?_
 simp only [ZE,↓reduceIte,pE,pL,pA,pS,pM,pD]
 refine ECall.i ac ?_
 by_cases he : b % 2 = 0
 ·have hg : ns.getD (b / 8 % ns.length) emp = ns[b / 8 % ns.length] := by simp [List.getD, hlt]
  rw [if_pos he, hg]
  simp only [ZE,↓reduceIte,pE,pL,pA,pS,pM,pD, zN,qT,qG,qL,qH,qN,qB,qE,qO,qA,qM, hm, he, decide_true, hgt, hq, hr, hne, hwq, lt_int hlt, getD_map hlt, Int.toNat_natCast, Expr.op, Expr.name, Expr.k, Expr.w, Expr.args, zNum, emp, Int.reduceEq, not_false_eq_true]
  show ordB _ _ _ = true
  kernel_rfl
 ·rw [if_neg he]
  simp only [ZE,↓reduceIte,pE,pL,pA,pS,pM,pD, zN,qT,qG,qL,qH,qN,qB,qE,qO,qA,qM, hm, he, decide_false, hgt, hq, hwq, hr2, Expr.op, Expr.name, Expr.k, Expr.w, Expr.args, zNum, emp, Int.reduceEq, not_false_eq_true]
theorem cond_c (l : List Nat) (ns : List Str) (w : Num) (hb : ∀ b ∈ l, b < 256) (d a : Nat) (ha : a ≤ 1000000)
  (i1 : FnP Tryz.prog 106 [eBytes l, eAt ((a + 1 : Nat) : Int) d, eCtx ns w] (.d (.agg (eExpr (gen l ns w d (a + 1))))) [])
  (i2 : FnP Tryz.prog 106 [eBytes l, eAt ((a + 2 : Nat) : Int) 0, eCtx ns w] (.d (.agg (eExpr (gen l ns w 0 (a + 2))))) []) :
  FnP Tryz.prog 166 [eBytes l, eAt a d, eCtx ns w] (.d (.agg (eExpr (cond l ns w d a)))) [] := by
 refine FnP.of_eC (own := []) (fun i => if i = 2001 then [.flt ⟨[(0, none), (1, none), (2, none), (3, none), (4, none), (5, none), (6, none), (7, none), (8, none), (9, none), (10, none), (11, none), (12, none), (13, none), (14, none), (15, none), (18, some []), (19, some [])]⟩ ⟨[16, 17], [(18, [16]), (19, [17])]⟩] else chL i) mixed Tryz.func166 rfl Tryz.call166 Tryz.ntmps166 (Nat.le_of_ble_eq_true rfl) Tryz.results166 (fun hok => ?_)
 have ac := at_c l a hb (by omega)
 have hB := byteL_lt hb a
 obtain ⟨b, hbb⟩ : ∃ b, byteL l a = b := ⟨_, rfl⟩
 rw [hbb] at ac hB
 obtain ⟨x, hx⟩ : ∃ x, gen l ns w d (a + 1) = x := ⟨_, rfl⟩
 obtain ⟨y, hy⟩ : ∃ y, leaf l ns w (a + 2) = y := ⟨_, rfl⟩
 have hy' : gen l ns w 0 (a + 2) = y := hy
 rw [cond, hbb, hx, hy]
 rw [hx] at i1
 rw [hy'] at i2
 have w1 : IntKind.i64.wrap ((a : Int) + 1) = ((a + 1 : Nat) : Int) := by rw [← Int.natCast_succ]; exact wrap_id (by omega) (by omega)
 have w2 : IntKind.i64.wrap ((a : Int) + 2) = ((a + 2 : Nat) : Int) := wrap_id (by omega) (by omega)
 have hm : (b : Int).tmod 4 = ((b % 4 : Nat) : Int) := (Int.ofNat_tmod b 4).symm
 simp only [ZE,↓reduceIte,pE,pL,pA,pS,pM,pD, eAt, eCtx] at ac i1 i2
 simp (maxSteps := 4000000) only [ZE,↓reduceIte,pE,pL,pA,pS,pM,pD, eAt, eCtx, zN,qT,qG,qL,qH,qN,qB,qE,qO,qA,qM, w1, w2]
 refine ⟨by kernel_rfl, ECall'.i i1 ?_⟩
 simp (maxSteps := 4000000) only [ZE,↓reduceIte,pE,pL,pA,pS,pM,pD, eAt, eCtx, zN,qT,qG,qL,qH,qN,qB,qE,qO,qA,qM, w1, w2]
 refine ECall'.i i2 ?_
 simp (maxSteps := 4000000) only [ZE,↓reduceIte,pE,pL,pA,pS,pM,pD, eAt, eCtx, zN,qT,qG,qL,qH,qN,qB,qE,qO,qA,qM, w1, w2]
 refine EFn.p ?_
 simp only [ZE,↓reduceIte,pE,pL,pA,pS,pM,pD]
 refine ECall.i ac ?_
 by_cases b0 : b % 4 = 0
 ·have h0 : (((b % 4 : Nat) : Int) == 0) = true := by simp [b0]
  rw [condOf, if_pos b0]
  simp only [ZE,↓reduceIte,pE,pL,pA,pS,pM,pD, zN,qT,qG,qL,qH,qN,qB,qE,qO,qA,qM, hm, h0, Expr.op, Expr.name, Expr.k, Expr.w, Expr.args, zNum, emp, Int.reduceEq, not_false_eq_true]
 have h0 : (((b % 4 : Nat) : Int) == 0) = false := by simp; omega
 by_cases b1 : b % 4 = 1
 ·have h1 : (((b % 4 : Nat) : Int) == 1) = true := by simp [b1]
  rw [condOf, if_neg b0, if_pos b1]
  simp only [ZE,↓reduceIte,pE,pL,pA,pS,pM,pD, zN,qT,qG,qL,qH,qN,qB,qE,qO,qA,qM, hm, h0, h1, Expr.op, Expr.name, Expr.k, Expr.w, Expr.args, zNum, emp, Int.reduceEq, not_false_eq_true]
 have h1 : (((b % 4 : Nat) : Int) == 1) = false := by simp; omega
 by_cases b2 : b % 4 = 2
 ·have h2 : (((b % 4 : Nat) : Int) == 2) = true := by simp [b2]
  rw [condOf, if_neg b0, if_neg b1, if_pos b2]
  simp only [ZE,↓reduceIte,pE,pL,pA,pS,pM,pD, zN,qT,qG,qL,qH,qN,qB,qE,qO,qA,qM, hm, h0, h1, h2, Expr.op, Expr.name, Expr.k, Expr.w, Expr.args, zNum, emp, Int.reduceEq, not_false_eq_true]
 have h2 : (((b % 4 : Nat) : Int) == 2) = false := by simp; omega
 rw [condOf, if_neg b0, if_neg b1, if_neg b2]
 simp only [ZE,↓reduceIte,pE,pL,pA,pS,pM,pD, zN,qT,qG,qL,qH,qN,qB,qE,qO,qA,qM, hm, h0, h1, h2, Expr.op, Expr.name, Expr.k, Expr.w, Expr.args, zNum, emp, Int.reduceEq, not_false_eq_true]
theorem genS_c (l : List Nat) (ns : List Str) (w : Num) (hb : ∀ b ∈ l, b < 256) (hn : 0 < ns.length) (hn2 : ns.length ≤ 1000) (d a : Nat) (hd : d ≤ 100) (ha : a ≤ 100000)
  (i1 : FnP Tryz.prog 106 [eBytes l, eAt ((3 * a + 1 : Nat) : Int) d, eCtx ns w] (.d (.agg (eExpr (gen l ns w d (3 * a + 1))))) [])
  (i2 : FnP Tryz.prog 106 [eBytes l, eAt ((3 * a + 2 : Nat) : Int) d, eCtx ns w] (.d (.agg (eExpr (gen l ns w d (3 * a + 2))))) [])
  (i3 : FnP Tryz.prog 166 [eBytes l, eAt ((3 * a + 3 : Nat) : Int) d, eCtx ns w] (.d (.agg (eExpr (cond l ns w d (3 * a + 3))))) []) :
  FnP Tryz.prog 106 [eBytes l, eAt a ((d + 1 : Nat) : Int), eCtx ns w] (.d (.agg (eExpr (gen l ns w (d + 1) a)))) [] := by
 refine FnP.of_eC (own := []) (fun i => if i = 2004 then [.chn, .ord ⟨[(0, none), (1, none), (2, none), (3, none), (4, none), (5, none), (6, none), (7, none), (8, none), (9, none), (10, none), (11, some [])]⟩] else if i = 2021 then [.ord ⟨[(0, none), (1, none), (2, none), (3, none), (4, none), (5, none), (6, none), (7, none), (8, none), (9, none), (10, none), (11, none), (12, none), (13, none), (14, none), (15, some [])]⟩] else chL i) mixed Tryz.func106 rfl Tryz.call106 Tryz.ntmps106 (Nat.le_of_ble_eq_true rfl) Tryz.results106 (fun hok => ?_)
 have ac := at_c l a hb (by omega)
 have hB := byteL_lt hb a
 have hgen : gen l ns w (d + 1) a = if byteL l a % 8 < 3 then leaf l ns w a else nodeOf (gen l ns w d (3 * a + 1)) (gen l ns w d (3 * a + 2)) (cond l ns w d (3 * a + 3)) (byteL l a) := rfl
 obtain ⟨b, hbb⟩ : ∃ b, byteL l a = b := ⟨_, rfl⟩
 obtain ⟨x, hx⟩ : ∃ x, gen l ns w d (3 * a + 1) = x := ⟨_, rfl⟩
 obtain ⟨y, hy⟩ : ∃ y, gen l ns w d (3 * a + 2) = y := ⟨_, rfl⟩
 obtain ⟨z, hz⟩ : ∃ z, cond l ns w d (3 * a + 3) = z := ⟨_, rfl⟩
 rw [hx, hy, hz, hbb] at hgen
 rw [hgen]
 rw [hx] at i1
 rw [hy] at i2
 rw [hz] at i3
 rw [hbb] at ac hB
 have hm : ((b : Int).tmod 2 == 0) = decide (b % 2 = 0) := by
  rw [show ((b : Int).tmod 2) = ((b % 2 : Nat) : Int) from (Int.ofNat_tmod b 2).symm, Bool.eq_iff_iff]; simp; omega
 have hm8 : decide ((b : Int).tmod 8 < 3) = decide (b % 8 < 3) := by
  rw [show ((b : Int).tmod 8) = ((b % 8 : Nat) : Int) from (Int.ofNat_tmod b 8).symm, Bool.eq_iff_iff]; simp; omega
 have hq : (b : Int).tdiv 8 = ((b / 8 : Nat) : Int) := (Int.ofNat_tdiv b 8).symm
 have hwq : IntKind.i64.wrap ((b / 8 : Nat) : Int) = ((b / 8 : Nat) : Int) := wrap_id (by omega) (by omega)
 have hr : ((b / 8 : Nat) : Int).tmod (ns.length : Int) = ((b / 8 % ns.length : Nat) : Int) := (Int.ofNat_tmod _ _).symm
 have hr2 : ((b / 8 : Nat) : Int).tmod 2 = ((b / 8 % 2 : Nat) : Int) := (Int.ofNat_tmod _ _).symm
 have hr7 : ((b / 8 : Nat) : Int).tmod 7 = ((b / 8 % 7 : Nat) : Int) := (Int.ofNat_tmod _ _).symm
 have hlt : b / 8 % ns.length < ns.length := Nat.mod_lt _ hn
 have hgt : decide ((ns.length : Int) > 0) = true := by simp; omega
 have hne : ¬ (ns.length : Int) = 0 := by omega
 have w3 : IntKind.i64.wrap (3 * (a : Int)) = ((3 * a : Nat) : Int) := wrap_id (by omega) (by omega)
 have w1 : IntKind.i64.wrap (((3 * a : Nat) : Int) + 1) = ((3 * a + 1 : Nat) : Int) := wrap_id (by omega) (by omega)
 have w2 : IntKind.i64.wrap (((3 * a : Nat) : Int) + 2) = ((3 * a + 2 : Nat) : Int) := wrap_id (by omega) (by omega)
 have w4 : IntKind.i64.wrap (((3 * a : Nat) : Int) + 3) = ((3 * a + 3 : Nat) : Int) := wrap_id (by omega) (by omega)
 have wd : IntKind.i64.wrap (((d + 1 : Nat) : Int) - 1) = (d : Int) := by rw [show ((d + 1 : Nat) : Int) - 1 = (d : Int) by omega]; exact wrap_id (by omega) (by omega)
 have hd0 : (((d + 1 : Nat) : Int) == 0) = false := by simp; omega
 simp only [ZE,↓reduceIte,pE,pL,pA,pS,pM,pD, eAt, eCtx] at ac i1 i2 i3
 simp (maxSteps := 4000000) only [ZE,↓reduceIte,pE,pL,pA,pS,pM,pD, eAt, eCtx, zN,qT,qG,qL,qH,qN,qB,qE,qO,qA,qM]
 refine EFn.p ?_
 simp only [ZE,↓reduceIte,pE,pL,pA,pS,pM,pD]
 refine ECall.i ac ?_
 by_cases h8 : b % 8 < 3
 ·rw [if_pos h8, leaf, hbb]
  by_cases he : b % 2 = 0
  ·have hg : ns.getD (b / 8 % ns.length) emp = ns[b / 8 % ns.length] := by simp [List.getD, hlt]
   rw [if_pos he, hg]
   simp only [ZE,↓reduceIte,pE,pL,pA,pS,pM,pD, zN,qT,qG,qL,qH,qN,qB,qE,qO,qA,qM, hd0, hm8, h8, hm, he, decide_true, hgt, hq, hr, hne, hwq, lt_int hlt, getD_map hlt, Int.toNat_natCast, Expr.op, Expr.name, Expr.k, Expr.w, Expr.args, zNum, emp, Int.reduceEq, not_false_eq_true]
   show ordB _ _ _ = true
   kernel_rfl
  ·rw [if_neg he]
   simp only [ZE,↓reduceIte,pE,pL,pA,pS,pM,pD, zN,qT,qG,qL,qH,qN,qB,qE,qO,qA,qM, hd0, hm8, h8, hm, he, decide_true, decide_false, hgt, hq, hwq, hr2, Expr.op, Expr.name, Expr.k, Expr.w, Expr.args, zNum, emp, Int.reduceEq, not_false_eq_true]
 ·rw [if_neg h8]
  simp only [ZE,↓reduceIte,pE,pL,pA,pS,pM,pD, zN,qT,qG,qL,qH,qN,qB,qE,qO,qA,qM, hd0, hm8, h8, decide_false, w3, w1, wd, Int.reduceEq, not_false_eq_true]
  refine EFn.p ?_
  simp only [ZE,↓reduceIte,pE,pL,pA,pS,pM,pD]
  refine ECall.i i1 ?_
  simp only [ZE,↓reduceIte,pE,pL,pA,pS,pM,pD, zN,qT,qG,qL,qH,qN,qB,qE,qO,qA,qM, w3, w2, wd]
  refine EFn.p ?_
  simp only [ZE,↓reduceIte,pE,pL,pA,pS,pM,pD]
  refine ECall.i i2 ?_
  rw [nodeOf]
  by_cases e0 : b / 8 % 7 = 0
  ·have h0 : (((b / 8 % 7 : Nat) : Int) == 0) = true := by simp [e0]
   rw [if_pos e0]
   simp only [ZE,↓reduceIte,pE,pL,pA,pS,pM,pD, zN,qT,qG,qL,qH,qN,qB,qE,qO,qA,qM, hq, hwq, hr7, hm, h0, Expr.op, Expr.name, Expr.k, Expr.w, Expr.args, zNum, emp, Int.reduceEq, not_false_eq_true]
  have h0 : (((b / 8 % 7 : Nat) : Int) == 0) = false := by simp; omega
  rw [if_neg e0]
  by_cases e1 : b / 8 % 7 = 1
  ·have h1 : (((b / 8 % 7 : Nat) : Int) == 1) = true := by simp [e1]
   rw [if_pos e1]
   simp only [ZE,↓reduceIte,pE,pL,pA,pS,pM,pD, zN,qT,qG,qL,qH,qN,qB,qE,qO,qA,qM, hq, hwq, hr7, h0, h1, Expr.op, Expr.name, Expr.k, Expr.w, Expr.args, zNum, emp, Int.reduceEq, not_false_eq_true]
  have h1 : (((b / 8 % 7 : Nat) : Int) == 1) = false := by simp; omega
  rw [if_neg e1]
  by_cases e2 : b / 8 % 7 = 2
  ·have h2 : (((b / 8 % 7 : Nat) : Int) == 2) = true := by simp [e2]
   rw [if_pos e2]
   simp only [ZE,↓reduceIte,pE,pL,pA,pS,pM,pD, zN,qT,qG,qL,qH,qN,qB,qE,qO,qA,qM, hq, hwq, hr7, h0, h1, h2, Expr.op, Expr.name, Expr.k, Expr.w, Expr.args, zNum, emp, Int.reduceEq, not_false_eq_true]
  have h2 : (((b / 8 % 7 : Nat) : Int) == 2) = false := by simp; omega
  rw [if_neg e2]
  by_cases e3 : b / 8 % 7 = 3
  ·have h3 : (((b / 8 % 7 : Nat) : Int) == 3) = true := by simp [e3]
   rw [if_pos e3]
   simp only [ZE,↓reduceIte,pE,pL,pA,pS,pM,pD, zN,qT,qG,qL,qH,qN,qB,qE,qO,qA,qM, hq, hwq, hr7, h0, h1, h2, h3, Expr.op, Expr.name, Expr.k, Expr.w, Expr.args, zNum, emp, Int.reduceEq, not_false_eq_true]
  have h3 : (((b / 8 % 7 : Nat) : Int) == 3) = false := by simp; omega
  rw [if_neg e3]
  by_cases e4 : b / 8 % 7 = 4
  ·have h4 : (((b / 8 % 7 : Nat) : Int) == 4) = true := by simp [e4]
   rw [if_pos e4]
   simp only [ZE,↓reduceIte,pE,pL,pA,pS,pM,pD, zN,qT,qG,qL,qH,qN,qB,qE,qO,qA,qM, hq, hwq, hr7, h0, h1, h2, h3, h4, Expr.op, Expr.name, Expr.k, Expr.w, Expr.args, zNum, emp, Int.reduceEq, not_false_eq_true]
  have h4 : (((b / 8 % 7 : Nat) : Int) == 4) = false := by simp; omega
  rw [if_neg e4]
  by_cases e5 : b / 8 % 7 = 5
  ·have h5 : (((b / 8 % 7 : Nat) : Int) == 5) = true := by simp [e5]
   rw [if_pos e5]
   simp only [ZE,↓reduceIte,pE,pL,pA,pS,pM,pD, zN,qT,qG,qL,qH,qN,qB,qE,qO,qA,qM, hq, hwq, hr7, h0, h1, h2, h3, h4, h5, Expr.op, Expr.name, Expr.k, Expr.w, Expr.args, zNum, emp, Int.reduceEq, not_false_eq_true]
  have h5 : (((b / 8 % 7 : Nat) : Int) == 5) = false := by simp; omega
  rw [if_neg e5]
  simp only [ZE,↓reduceIte,pE,pL,pA,pS,pM,pD, zN,qT,qG,qL,qH,qN,qB,qE,qO,qA,qM, hq, hwq, hr7, h0, h1, h2, h3, h4, h5, w3, w4, wd, Expr.op, Expr.name, Expr.k, Expr.w, Expr.args, zNum, emp, Int.reduceEq, not_false_eq_true]
  refine ⟨by kernel_rfl, ECall'.i i3 ?_⟩
  simp only [ZE,↓reduceIte,pE,pL,pA,pS,pM,pD, zN,qT,qG,qL,qH,qN,qB,qE,qO,qA,qM, Expr.op, Expr.name, Expr.k, Expr.w, Expr.args, zNum, emp, Int.reduceEq, not_false_eq_true]
/-- Expressions of depth 1 and conditions. -/
theorem gen1_c (l : List Nat) (ns : List Str) (w : Num) (hb : ∀ b ∈ l, b < 256) (hn : 0 < ns.length) (hn2 : ns.length ≤ 1000) (a : Nat) (ha : a ≤ 10000) : FnP Tryz.prog 106 [eBytes l, eAt a 1, eCtx ns w] (.d (.agg (eExpr (gen l ns w 1 a)))) [] :=
 genS_c l ns w hb hn hn2 0 a (by omega) (by omega) (gen0_c l ns w hb hn hn2 _ (by omega)) (gen0_c l ns w hb hn hn2 _ (by omega)) (cond_c l ns w hb 0 _ (by omega) (gen0_c l ns w hb hn hn2 _ (by omega)) (gen0_c l ns w hb hn hn2 _ (by omega)))
theorem cond1_c (l : List Nat) (ns : List Str) (w : Num) (hb : ∀ b ∈ l, b < 256) (hn : 0 < ns.length) (hn2 : ns.length ≤ 1000) (a : Nat) (ha : a ≤ 1000) : FnP Tryz.prog 105 [eBytes l, eI a, eCtx ns w] (.d (.agg (eExpr (cond l ns w 1 a)))) [] := by
 refine FnP.of_eC (own := []) (fun _ => []) mixed Tryz.func105 rfl Tryz.call105 Tryz.ntmps105 (Nat.le_of_ble_eq_true rfl) Tryz.results105 (fun hok => ?_)
 have cc := cond_c l ns w hb 1 a (by omega) (gen1_c l ns w hb hn hn2 _ (by omega)) (gen0_c l ns w hb hn hn2 _ (by omega))
 simp only [ZE,↓reduceIte,pE,pL,pA,pS,pM,pD, eAt, eCtx, Int.natCast_one] at cc
 simp (maxSteps := 4000000) only [ZE,↓reduceIte,pE,pL,pA,pS,pM,pD, eCtx]
 refine EFn.p ?_
 simp only [ZE,↓reduceIte,pE,pL,pA,pS,pM,pD]
 refine ECall.i cc ?_
 simp only [ZE,↓reduceIte,pE,pL,pA,pS,pM,pD]
end Go.Proofs.YtbenhdgpogiadaaGreat

namespace Go.Proofs.YtbenhdgpogiadaaGreat
open Go.Aw
open Nat renaming reduceEqDiff → pE, reduceLT → pL, reduceAdd → pA, reduceSub → pS, reduceMul → pM, reduceLeDiff → pD
open Int renaming reduceToNat → qT, reduceGT → qG, reduceLT → qL, reduceGE → qH, reduceBNe → qN, reduceBEq → qB, reduceLE → qE, reduceNe → qO, reduceAdd → qA, reduceNeg → qM
set_option maxRecDepth 100000
set_option maxHeartbeats 4000000
def sA : Str := st [97]
def sB : Str := st [98]
def sC : Str := st [99]
def sD : Str := st [100]
def sM : Str := st [109]
def sR : Str := st [114]
def sS : Str := st [115]
def sT : Str := st [116]
def sU : Str := st [117]
def sVV : Str := st [118]
def sW : Str := st [119]
def sX : Str := st [120]
def sY : Str := st [121]
def sAux : Str := st [97, 117, 120]
def sClk : Str := st [99, 108, 107]
def sCell : Str := st [99, 101, 108, 108]
def sTop : Str := st [116, 111, 112]
def ruleOf (b : Nat) : Rule := if b % 6 = 0 then ⟨0, emp, 0⟩ else if b % 6 = 1 then ⟨2, sR, 0⟩ else if b % 6 = 2 then ⟨3, sS, (b / 6 % 3 : Nat)⟩ else ⟨1, emp, 0⟩
theorem rule_c (b : Nat) (hb : b < 256) : FnP Tryz.prog 165 [eI b] (.d (.agg (eRule (ruleOf b)))) [] := by
 refine FnP.of_eC (own := []) (fun _ => []) mixed Tryz.func165 rfl Tryz.call165 Tryz.ntmps165 (Nat.le_of_ble_eq_true rfl) Tryz.results165 (fun hok => ?_)
 have hm : (b : Int).tmod 6 = ((b % 6 : Nat) : Int) := (Int.ofNat_tmod b 6).symm
 have hq : (b : Int).tdiv 6 = ((b / 6 : Nat) : Int) := (Int.ofNat_tdiv b 6).symm
 have hwq : IntKind.i64.wrap ((b / 6 : Nat) : Int) = ((b / 6 : Nat) : Int) := wrap_id (by omega) (by omega)
 have hr : ((b / 6 : Nat) : Int).tmod 3 = ((b / 6 % 3 : Nat) : Int) := (Int.ofNat_tmod _ _).symm
 by_cases b0 : b % 6 = 0
 ·have h0 : (((b % 6 : Nat) : Int) == 0) = true := by simp [b0]
  rw [ruleOf, if_pos b0]
  simp (maxSteps := 4000000) only [ZE,↓reduceIte,pE,pL,pA,pS,pM,pD, zN,qT,qG,qL,qH,qN,qB,qE,qO,qA,qM, hm, h0, Expr.op, Expr.name, Expr.k, Expr.w, Expr.args, zNum, emp, Int.reduceEq, not_false_eq_true]
 have h0 : (((b % 6 : Nat) : Int) == 0) = false := by simp; omega
 by_cases b1 : b % 6 = 1
 ·have h1 : (((b % 6 : Nat) : Int) == 1) = true := by simp [b1]
  rw [ruleOf, if_neg b0, if_pos b1]
  simp (maxSteps := 4000000) only [ZE,↓reduceIte,pE,pL,pA,pS,pM,pD, zN,qT,qG,qL,qH,qN,qB,qE,qO,qA,qM, hm, h0, h1, Expr.op, Expr.name, Expr.k, Expr.w, Expr.args, zNum, emp, Int.reduceEq, not_false_eq_true, sR, st]
 have h1 : (((b % 6 : Nat) : Int) == 1) = false := by simp; omega
 by_cases b2 : b % 6 = 2
 ·have h2 : (((b % 6 : Nat) : Int) == 2) = true := by simp [b2]
  rw [ruleOf, if_neg b0, if_neg b1, if_pos b2]
  simp (maxSteps := 4000000) only [ZE,↓reduceIte,pE,pL,pA,pS,pM,pD, zN,qT,qG,qL,qH,qN,qB,qE,qO,qA,qM, hm, h0, h1, h2, hq, hwq, hr, Expr.op, Expr.name, Expr.k, Expr.w, Expr.args, zNum, emp, Int.reduceEq, not_false_eq_true, sS, st]
 have h2 : (((b % 6 : Nat) : Int) == 2) = false := by simp; omega
 rw [ruleOf, if_neg b0, if_neg b1, if_neg b2]
 simp (maxSteps := 4000000) only [ZE,↓reduceIte,pE,pL,pA,pS,pM,pD, zN,qT,qG,qL,qH,qN,qB,qE,qO,qA,qM, hm, h0, h1, h2, Expr.op, Expr.name, Expr.k, Expr.w, Expr.args, zNum, emp, Int.reduceEq, not_false_eq_true]
def clockOf (b : Nat) : Str := if b % 3 = 0 then sAux else sClk
theorem clock_c (b : Nat) : FnP Tryz.prog 102 [eI b] (.d (eS (clockOf b))) [] := by
 refine FnP.of_eC (own := []) (fun _ => []) mixed Tryz.func102 rfl Tryz.call102 Tryz.ntmps102 (Nat.le_of_ble_eq_true rfl) Tryz.results102 (fun hok => ?_)
 have hm : (b : Int).tmod 3 = ((b % 3 : Nat) : Int) := (Int.ofNat_tmod b 3).symm
 by_cases b0 : b % 3 = 0
 ·have h0 : (((b % 3 : Nat) : Int) == 0) = true := by simp [b0]
  rw [clockOf, if_pos b0]
  simp (maxSteps := 4000000) only [ZE,↓reduceIte,pE,pL,pA,pS,pM,pD, zN,qT,qG,qL,qH,qN,qB,qE,qO,qA,qM, hm, h0, Expr.op, Expr.name, Expr.k, Expr.w, Expr.args, zNum, emp, Int.reduceEq, not_false_eq_true, sAux, st]
 have h0 : (((b % 3 : Nat) : Int) == 0) = false := by simp; omega
 rw [clockOf, if_neg b0]
 simp (maxSteps := 4000000) only [ZE,↓reduceIte,pE,pL,pA,pS,pM,pD, zN,qT,qG,qL,qH,qN,qB,qE,qO,qA,qM, hm, h0, Expr.op, Expr.name, Expr.k, Expr.w, Expr.args, zNum, emp, Int.reduceEq, not_false_eq_true, sClk, st]
def regI (name : Str) (l : List Nat) (a : Nat) (ns : List Str) (w : Num) : Item := { zItem with kind := ⟨4, rfl⟩, name := name, width := w, init := ⟨(byteL l a % 2 : Nat), emp⟩, a := gen l ns w 1 a, rule := ruleOf (byteL l (a + 1)) }
theorem reg_c (name : Str) (l : List Nat) (ns : List Str) (w : Num) (hb : ∀ b ∈ l, b < 256) (hn : 0 < ns.length) (hn2 : ns.length ≤ 1000) (a : Nat) (ha : a ≤ 1000) : FnP Tryz.prog 163 [eS name, eBytes l, eI a, eCtx ns w] (.d (.agg (eItem (regI name l a ns w)))) [] := by
 refine FnP.of_eC (own := []) (fun i => if i = 2001 then [.ord ⟨[(0, none), (1, none), (2, none), (3, none), (4, none), (5, none), (6, none), (7, none), (8, none), (9, none), (10, none), (11, none), (12, none), (13, none), (14, none), (15, none), (16, none), (17, none), (18, none), (19, some [])]⟩] else []) mixed Tryz.func163 rfl Tryz.call163 Tryz.ntmps163 (Nat.le_of_ble_eq_true rfl) Tryz.results163 (fun hok => ?_)
 have a1 := at_c l a hb (by omega)
 have a2 := at_c l (a + 1) hb (by omega)
 have g1 := gen1_c l ns w hb hn hn2 a (by omega)
 have r1 := rule_c (byteL l (a + 1)) (byteL_lt hb _)
 have w1 : IntKind.i64.wrap ((a : Int) + 1) = ((a + 1 : Nat) : Int) := wrap_id (by omega) (by omega)
 have hm : (byteL l a : Int).tmod 2 = ((byteL l a % 2 : Nat) : Int) := (Int.ofNat_tmod _ 2).symm
 simp only [ZE,↓reduceIte,pE,pL,pA,pS,pM,pD, eAt, eCtx] at a1 a2 g1 r1
 simp (maxSteps := 4000000) only [ZE,↓reduceIte,pE,pL,pA,pS,pM,pD, eCtx, zN,qT,qG,qL,qH,qN,qB,qE,qO,qA,qM, Int.reduceEq, not_false_eq_true]
 refine ⟨by kernel_rfl, ECall'.i a1 ?_⟩
 simp only [ZE,↓reduceIte,pE,pL,pA,pS,pM,pD, zN,qT,qG,qL,qH,qN,qB,qE,qO,qA,qM, Int.reduceEq, not_false_eq_true, true_and]
 refine ECall'.i g1 ?_
 simp only [ZE,↓reduceIte,pE,pL,pA,pS,pM,pD, zN,qT,qG,qL,qH,qN,qB,qE,qO,qA,qM, w1]
 refine ECall'.i a2 ?_
 simp only [ZE,↓reduceIte,pE,pL,pA,pS,pM,pD, zN,qT,qG,qL,qH,qN,qB,qE,qO,qA,qM]
 refine ECall'.i r1 ?_
 simp only [ZE,↓reduceIte,pE,pL,pA,pS,pM,pD, zN,qT,qG,qL,qH,qN,qB,qE,qO,qA,qM, hm, regI, zItem, zExpr, Expr.op, Expr.name, Expr.k, Expr.w, Expr.args, zNum, emp, Int.reduceEq, not_false_eq_true]
def instI (name : Str) (w : Num) (c0 c1 : Str) : Item := { zItem with kind := ⟨9, rfl⟩, name := name, of := sCell, args := [w], ports := [⟨sX, c0⟩, ⟨sY, c1⟩] }
def ePair (a b : Str) : D := .agg [eS a, eS b]
theorem inst_c (name : Str) (w : Num) (c0 c1 : Str) : FnP Tryz.prog 104 [eS name, .agg (eNum w), ePair c0 c1] (.d (.agg (eItem (instI name w c0 c1)))) [] := by
 refine FnP.of_eC (own := []) chL mixed Tryz.func104 rfl Tryz.call104 Tryz.ntmps104 (Nat.le_of_ble_eq_true rfl) Tryz.results104 (fun hok => ?_)
 simp (maxSteps := 4000000) only [ZE,↓reduceIte,pE,pL,pA,pS,pM,pD, ePair, zN,qT,qG,qL,qH,qN,qB,qE,qO,qA,qM, instI, zItem, zExpr, Expr.op, Expr.name, Expr.k, Expr.w, Expr.args, zNum, emp, Int.reduceEq, not_false_eq_true, sX, sY, sCell, st]
end Go.Proofs.YtbenhdgpogiadaaGreat
