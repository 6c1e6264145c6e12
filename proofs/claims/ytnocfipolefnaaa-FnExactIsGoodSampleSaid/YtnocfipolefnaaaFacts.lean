/- The closed facts on the types of this seat's program, each by the kernel. Written by program. -/
import Derived.Test.YtnocfipolefnaaaAm10
import Derived.Test.YtnocfipolefnaaaRows
namespace Go.Proofs.Ytnocfipolefnaaa
open Go.Am
theorem fc1_load : loadT Try.prog 1 = some (1, false) := by kernel_rfl
theorem fc1_size : tySize Try.prog 1 = some 1 := by kernel_rfl
theorem fc1_zero : zeroT Try.prog 1 = some [.nilFunc] := by kernel_rfl
theorem fc2_load : loadT Try.prog 2 = some (1, false) := by kernel_rfl
theorem fc2_size : tySize Try.prog 2 = some 1 := by kernel_rfl
theorem fc2_int : intT Try.prog 2 = some .i64 := by kernel_rfl
theorem fc2_isb : isBoolT Try.prog 2 = false := by kernel_rfl
theorem fc2_u : Try.prog.underlying 2 = some (.int .i64) := by kernel_rfl
theorem fc2_zero : zeroT Try.prog 2 = some [.int .i64 0] := by kernel_rfl
theorem fc3_load : loadT Try.prog 3 = some (1, false) := by kernel_rfl
theorem fc3_size : tySize Try.prog 3 = some 1 := by kernel_rfl
theorem fc3_int : intT Try.prog 3 = some .i64 := by kernel_rfl
theorem fc3_isb : isBoolT Try.prog 3 = false := by kernel_rfl
theorem fc3_u : Try.prog.underlying 3 = some (.int .i64) := by kernel_rfl
theorem fc3_zero : zeroT Try.prog 3 = some [.int .i64 0] := by kernel_rfl
theorem fc4_load : loadT Try.prog 4 = some (1, false) := by kernel_rfl
theorem fc4_size : tySize Try.prog 4 = some 1 := by kernel_rfl
theorem fc4_isb : isBoolT Try.prog 4 = true := by kernel_rfl
theorem fc4_zero : zeroT Try.prog 4 = some [.bool false] := by kernel_rfl
theorem fc5_load : loadT Try.prog 5 = some (1, false) := by kernel_rfl
theorem fc5_size : tySize Try.prog 5 = some 1 := by kernel_rfl
theorem fc5_int : intT Try.prog 5 = some .u8 := by kernel_rfl
theorem fc5_isb : isBoolT Try.prog 5 = false := by kernel_rfl
theorem fc5_u : Try.prog.underlying 5 = some (.int .u8) := by kernel_rfl
theorem fc5_zero : zeroT Try.prog 5 = some [.int .u8 0] := by kernel_rfl
theorem fc6_load : loadT Try.prog 6 = some (1, false) := by kernel_rfl
theorem fc6_size : tySize Try.prog 6 = some 1 := by kernel_rfl
theorem fc6_int : intT Try.prog 6 = some .u8 := by kernel_rfl
theorem fc6_isb : isBoolT Try.prog 6 = false := by kernel_rfl
theorem fc6_u : Try.prog.underlying 6 = some (.int .u8) := by kernel_rfl
theorem fc6_zero : zeroT Try.prog 6 = some [.int .u8 0] := by kernel_rfl
theorem fc7_load : loadT Try.prog 7 = some (4, true) := by kernel_rfl
theorem fc7_size : tySize Try.prog 7 = some 4 := by kernel_rfl
theorem fc7_zero : zeroT Try.prog 7 = some [.int .i64 0, .int .i64 0, .bool false, .int .u8 0] := by kernel_rfl
theorem fc7_all : allPlaces Try.prog 7 = true := by kernel_rfl
theorem fc7_o0 : fieldOff Try.prog 7 0 = some 0 := by kernel_rfl
theorem fc7_f0 : fieldT Try.prog 7 0 = some (0, 1, false) := by kernel_rfl
theorem fc7_p0 : placeT Try.prog 7 0 = some (0, 1) := by kernel_rfl
theorem fc7_o1 : fieldOff Try.prog 7 1 = some 1 := by kernel_rfl
theorem fc7_f1 : fieldT Try.prog 7 1 = some (1, 1, false) := by kernel_rfl
theorem fc7_p1 : placeT Try.prog 7 1 = some (1, 1) := by kernel_rfl
theorem fc7_o2 : fieldOff Try.prog 7 2 = some 2 := by kernel_rfl
theorem fc7_f2 : fieldT Try.prog 7 2 = some (2, 1, false) := by kernel_rfl
theorem fc7_p2 : placeT Try.prog 7 2 = some (2, 1) := by kernel_rfl
theorem fc7_o3 : fieldOff Try.prog 7 3 = some 3 := by kernel_rfl
theorem fc7_f3 : fieldT Try.prog 7 3 = some (3, 1, false) := by kernel_rfl
theorem fc7_p3 : placeT Try.prog 7 3 = some (3, 1) := by kernel_rfl
theorem fc8_load : loadT Try.prog 8 = some (4, true) := by kernel_rfl
theorem fc8_size : tySize Try.prog 8 = some 4 := by kernel_rfl
theorem fc8_zero : zeroT Try.prog 8 = some [.int .i64 0, .int .i64 0, .bool false, .int .u8 0] := by kernel_rfl
theorem fc8_all : allPlaces Try.prog 8 = true := by kernel_rfl
theorem fc8_o0 : fieldOff Try.prog 8 0 = some 0 := by kernel_rfl
theorem fc8_f0 : fieldT Try.prog 8 0 = some (0, 1, false) := by kernel_rfl
theorem fc8_p0 : placeT Try.prog 8 0 = some (0, 1) := by kernel_rfl
theorem fc8_o1 : fieldOff Try.prog 8 1 = some 1 := by kernel_rfl
theorem fc8_f1 : fieldT Try.prog 8 1 = some (1, 1, false) := by kernel_rfl
theorem fc8_p1 : placeT Try.prog 8 1 = some (1, 1) := by kernel_rfl
theorem fc8_o2 : fieldOff Try.prog 8 2 = some 2 := by kernel_rfl
theorem fc8_f2 : fieldT Try.prog 8 2 = some (2, 1, false) := by kernel_rfl
theorem fc8_p2 : placeT Try.prog 8 2 = some (2, 1) := by kernel_rfl
theorem fc8_o3 : fieldOff Try.prog 8 3 = some 3 := by kernel_rfl
theorem fc8_f3 : fieldT Try.prog 8 3 = some (3, 1, false) := by kernel_rfl
theorem fc8_p3 : placeT Try.prog 8 3 = some (3, 1) := by kernel_rfl
theorem fc9_load : loadT Try.prog 9 = some (1, false) := by kernel_rfl
theorem fc9_size : tySize Try.prog 9 = some 1 := by kernel_rfl
theorem fc9_iss : isStrT Try.prog 9 = true := by kernel_rfl
theorem fc9_zero : zeroT Try.prog 9 = some [.string ⟨#[]⟩] := by kernel_rfl
theorem fc10_load : loadT Try.prog 10 = some (1, false) := by kernel_rfl
theorem fc10_size : tySize Try.prog 10 = some 1 := by kernel_rfl
theorem fc10_iss : isStrT Try.prog 10 = true := by kernel_rfl
theorem fc10_zero : zeroT Try.prog 10 = some [.string ⟨#[]⟩] := by kernel_rfl
theorem fc11_load : loadT Try.prog 11 = some (1, false) := by kernel_rfl
theorem fc11_size : tySize Try.prog 11 = some 1 := by kernel_rfl
theorem fc11_iss : isStrT Try.prog 11 = true := by kernel_rfl
theorem fc11_zero : zeroT Try.prog 11 = some [.string ⟨#[]⟩] := by kernel_rfl
theorem fc12_load : loadT Try.prog 12 = some (1, false) := by kernel_rfl
theorem fc12_size : tySize Try.prog 12 = some 1 := by kernel_rfl
theorem fc12_int : intT Try.prog 12 = some .u64 := by kernel_rfl
theorem fc12_isb : isBoolT Try.prog 12 = false := by kernel_rfl
theorem fc12_u : Try.prog.underlying 12 = some (.int .u64) := by kernel_rfl
theorem fc12_zero : zeroT Try.prog 12 = some [.int .u64 0] := by kernel_rfl
theorem fc13_load : loadT Try.prog 13 = some (2, true) := by kernel_rfl
theorem fc13_size : tySize Try.prog 13 = some 2 := by kernel_rfl
theorem fc13_zero : zeroT Try.prog 13 = some [.string ⟨#[]⟩, .int .u64 0] := by kernel_rfl
theorem fc13_all : allPlaces Try.prog 13 = true := by kernel_rfl
theorem fc13_o0 : fieldOff Try.prog 13 0 = some 0 := by kernel_rfl
theorem fc13_f0 : fieldT Try.prog 13 0 = some (0, 1, false) := by kernel_rfl
theorem fc13_p0 : placeT Try.prog 13 0 = some (0, 1) := by kernel_rfl
theorem fc13_o1 : fieldOff Try.prog 13 1 = some 1 := by kernel_rfl
theorem fc13_f1 : fieldT Try.prog 13 1 = some (1, 1, false) := by kernel_rfl
theorem fc13_p1 : placeT Try.prog 13 1 = some (1, 1) := by kernel_rfl
theorem fc14_load : loadT Try.prog 14 = some (2, true) := by kernel_rfl
theorem fc14_size : tySize Try.prog 14 = some 2 := by kernel_rfl
theorem fc14_zero : zeroT Try.prog 14 = some [.string ⟨#[]⟩, .int .u64 0] := by kernel_rfl
theorem fc14_all : allPlaces Try.prog 14 = true := by kernel_rfl
theorem fc14_o0 : fieldOff Try.prog 14 0 = some 0 := by kernel_rfl
theorem fc14_f0 : fieldT Try.prog 14 0 = some (0, 1, false) := by kernel_rfl
theorem fc14_p0 : placeT Try.prog 14 0 = some (0, 1) := by kernel_rfl
theorem fc14_o1 : fieldOff Try.prog 14 1 = some 1 := by kernel_rfl
theorem fc14_f1 : fieldT Try.prog 14 1 = some (1, 1, false) := by kernel_rfl
theorem fc14_p1 : placeT Try.prog 14 1 = some (1, 1) := by kernel_rfl
theorem fc15_load : loadT Try.prog 15 = some (1, false) := by kernel_rfl
theorem fc15_size : tySize Try.prog 15 = some 1 := by kernel_rfl
theorem fc15_zero : zeroT Try.prog 15 = some [.pointer none] := by kernel_rfl
theorem fc15_sl : sliceT Try.prog 15 = none := by kernel_rfl
theorem fc16_load : loadT Try.prog 16 = some (1, false) := by kernel_rfl
theorem fc16_size : tySize Try.prog 16 = some 1 := by kernel_rfl
theorem fc16_zero : zeroT Try.prog 16 = some [.pointer none] := by kernel_rfl
theorem fc16_sl : sliceT Try.prog 16 = none := by kernel_rfl
theorem fc17_load : loadT Try.prog 17 = some (1, false) := by kernel_rfl
theorem fc17_size : tySize Try.prog 17 = some 1 := by kernel_rfl
theorem fc17_zero : zeroT Try.prog 17 = some [.pointer none] := by kernel_rfl
theorem fc17_sl : sliceT Try.prog 17 = none := by kernel_rfl
theorem fc18_load : loadT Try.prog 18 = some (1, true) := by kernel_rfl
theorem fc18_size : tySize Try.prog 18 = some 1 := by kernel_rfl
theorem fc18_zero : zeroT Try.prog 18 = some [.pointer none] := by kernel_rfl
theorem fc18_all : allPlaces Try.prog 18 = true := by kernel_rfl
theorem fc18_o0 : fieldOff Try.prog 18 0 = some 0 := by kernel_rfl
theorem fc18_f0 : fieldT Try.prog 18 0 = some (0, 1, false) := by kernel_rfl
theorem fc18_p0 : placeT Try.prog 18 0 = some (0, 1) := by kernel_rfl
theorem fc19_load : loadT Try.prog 19 = some (1, true) := by kernel_rfl
theorem fc19_size : tySize Try.prog 19 = some 1 := by kernel_rfl
theorem fc19_zero : zeroT Try.prog 19 = some [.pointer none] := by kernel_rfl
theorem fc19_all : allPlaces Try.prog 19 = true := by kernel_rfl
theorem fc19_o0 : fieldOff Try.prog 19 0 = some 0 := by kernel_rfl
theorem fc19_f0 : fieldT Try.prog 19 0 = some (0, 1, false) := by kernel_rfl
theorem fc19_p0 : placeT Try.prog 19 0 = some (0, 1) := by kernel_rfl
theorem fc21_load : loadT Try.prog 21 = some (1, false) := by kernel_rfl
theorem fc21_size : tySize Try.prog 21 = some 1 := by kernel_rfl
theorem fc21_int : intT Try.prog 21 = some .i32 := by kernel_rfl
theorem fc21_isb : isBoolT Try.prog 21 = false := by kernel_rfl
theorem fc21_u : Try.prog.underlying 21 = some (.int .i32) := by kernel_rfl
theorem fc21_zero : zeroT Try.prog 21 = some [.int .i32 0] := by kernel_rfl
theorem fc22_load : loadT Try.prog 22 = some (4, true) := by kernel_rfl
theorem fc22_size : tySize Try.prog 22 = some 4 := by kernel_rfl
theorem fc22_zero : zeroT Try.prog 22 = some [.int .i64 0, .int .i64 0, .int .i64 0, .int .i64 0] := by kernel_rfl
theorem fc22_all : allPlaces Try.prog 22 = true := by kernel_rfl
theorem fc22_o0 : fieldOff Try.prog 22 0 = some 0 := by kernel_rfl
theorem fc22_f0 : fieldT Try.prog 22 0 = some (0, 1, false) := by kernel_rfl
theorem fc22_p0 : placeT Try.prog 22 0 = some (0, 1) := by kernel_rfl
theorem fc22_o1 : fieldOff Try.prog 22 1 = some 1 := by kernel_rfl
theorem fc22_f1 : fieldT Try.prog 22 1 = some (1, 1, false) := by kernel_rfl
theorem fc22_p1 : placeT Try.prog 22 1 = some (1, 1) := by kernel_rfl
theorem fc22_o2 : fieldOff Try.prog 22 2 = some 2 := by kernel_rfl
theorem fc22_f2 : fieldT Try.prog 22 2 = some (2, 1, false) := by kernel_rfl
theorem fc22_p2 : placeT Try.prog 22 2 = some (2, 1) := by kernel_rfl
theorem fc22_o3 : fieldOff Try.prog 22 3 = some 3 := by kernel_rfl
theorem fc22_f3 : fieldT Try.prog 22 3 = some (3, 1, false) := by kernel_rfl
theorem fc22_p3 : placeT Try.prog 22 3 = some (3, 1) := by kernel_rfl
theorem fc23_load : loadT Try.prog 23 = some (4, true) := by kernel_rfl
theorem fc23_size : tySize Try.prog 23 = some 4 := by kernel_rfl
theorem fc23_zero : zeroT Try.prog 23 = some [.int .i64 0, .int .i64 0, .int .i64 0, .int .i64 0] := by kernel_rfl
theorem fc23_all : allPlaces Try.prog 23 = true := by kernel_rfl
theorem fc23_o0 : fieldOff Try.prog 23 0 = some 0 := by kernel_rfl
theorem fc23_f0 : fieldT Try.prog 23 0 = some (0, 1, false) := by kernel_rfl
theorem fc23_p0 : placeT Try.prog 23 0 = some (0, 1) := by kernel_rfl
theorem fc23_o1 : fieldOff Try.prog 23 1 = some 1 := by kernel_rfl
theorem fc23_f1 : fieldT Try.prog 23 1 = some (1, 1, false) := by kernel_rfl
theorem fc23_p1 : placeT Try.prog 23 1 = some (1, 1) := by kernel_rfl
theorem fc23_o2 : fieldOff Try.prog 23 2 = some 2 := by kernel_rfl
theorem fc23_f2 : fieldT Try.prog 23 2 = some (2, 1, false) := by kernel_rfl
theorem fc23_p2 : placeT Try.prog 23 2 = some (2, 1) := by kernel_rfl
theorem fc23_o3 : fieldOff Try.prog 23 3 = some 3 := by kernel_rfl
theorem fc23_f3 : fieldT Try.prog 23 3 = some (3, 1, false) := by kernel_rfl
theorem fc23_p3 : placeT Try.prog 23 3 = some (3, 1) := by kernel_rfl
theorem fc24_load : loadT Try.prog 24 = some (1, false) := by kernel_rfl
theorem fc24_size : tySize Try.prog 24 = some 1 := by kernel_rfl
theorem fc24_zero : zeroT Try.prog 24 = some [.nilFunc] := by kernel_rfl
theorem fc25_load : loadT Try.prog 25 = some (4, true) := by kernel_rfl
theorem fc25_size : tySize Try.prog 25 = some 4 := by kernel_rfl
theorem fc25_zero : zeroT Try.prog 25 = some [.int .i64 0, .int .i64 0, .int .i64 0, .int .i64 0] := by kernel_rfl
theorem fc25_all : allPlaces Try.prog 25 = true := by kernel_rfl
theorem fc25_o0 : fieldOff Try.prog 25 0 = some 0 := by kernel_rfl
theorem fc25_f0 : fieldT Try.prog 25 0 = some (0, 1, false) := by kernel_rfl
theorem fc25_p0 : placeT Try.prog 25 0 = some (0, 1) := by kernel_rfl
theorem fc25_o1 : fieldOff Try.prog 25 1 = some 1 := by kernel_rfl
theorem fc25_f1 : fieldT Try.prog 25 1 = some (1, 1, false) := by kernel_rfl
theorem fc25_p1 : placeT Try.prog 25 1 = some (1, 1) := by kernel_rfl
theorem fc25_o2 : fieldOff Try.prog 25 2 = some 2 := by kernel_rfl
theorem fc25_f2 : fieldT Try.prog 25 2 = some (2, 1, false) := by kernel_rfl
theorem fc25_p2 : placeT Try.prog 25 2 = some (2, 1) := by kernel_rfl
theorem fc25_o3 : fieldOff Try.prog 25 3 = some 3 := by kernel_rfl
theorem fc25_f3 : fieldT Try.prog 25 3 = some (3, 1, false) := by kernel_rfl
theorem fc25_p3 : placeT Try.prog 25 3 = some (3, 1) := by kernel_rfl
theorem fc26_load : loadT Try.prog 26 = some (1, false) := by kernel_rfl
theorem fc26_size : tySize Try.prog 26 = some 1 := by kernel_rfl
theorem fc26_zero : zeroT Try.prog 26 = some [.nilFunc] := by kernel_rfl
theorem fc27_load : loadT Try.prog 27 = some (1, false) := by kernel_rfl
theorem fc27_size : tySize Try.prog 27 = some 1 := by kernel_rfl
theorem fc27_zero : zeroT Try.prog 27 = some [.nilFunc] := by kernel_rfl
theorem fc29_load : loadT Try.prog 29 = some (1, false) := by kernel_rfl
theorem fc29_size : tySize Try.prog 29 = some 1 := by kernel_rfl
theorem fc29_zero : zeroT Try.prog 29 = some [.nilFunc] := by kernel_rfl
theorem fc30_load : loadT Try.prog 30 = some (4, true) := by kernel_rfl
theorem fc30_size : tySize Try.prog 30 = some 4 := by kernel_rfl
theorem fc30_zero : zeroT Try.prog 30 = some [.int .i64 0, .int .i64 0, .int .i64 0, .int .i64 0] := by kernel_rfl
theorem fc30_all : allPlaces Try.prog 30 = true := by kernel_rfl
theorem fc30_o0 : fieldOff Try.prog 30 0 = some 0 := by kernel_rfl
theorem fc30_f0 : fieldT Try.prog 30 0 = some (0, 1, false) := by kernel_rfl
theorem fc30_p0 : placeT Try.prog 30 0 = some (0, 1) := by kernel_rfl
theorem fc30_o1 : fieldOff Try.prog 30 1 = some 1 := by kernel_rfl
theorem fc30_f1 : fieldT Try.prog 30 1 = some (1, 1, false) := by kernel_rfl
theorem fc30_p1 : placeT Try.prog 30 1 = some (1, 1) := by kernel_rfl
theorem fc30_o2 : fieldOff Try.prog 30 2 = some 2 := by kernel_rfl
theorem fc30_f2 : fieldT Try.prog 30 2 = some (2, 1, false) := by kernel_rfl
theorem fc30_p2 : placeT Try.prog 30 2 = some (2, 1) := by kernel_rfl
theorem fc30_o3 : fieldOff Try.prog 30 3 = some 3 := by kernel_rfl
theorem fc30_f3 : fieldT Try.prog 30 3 = some (3, 1, false) := by kernel_rfl
theorem fc30_p3 : placeT Try.prog 30 3 = some (3, 1) := by kernel_rfl
theorem fc31_load : loadT Try.prog 31 = some (4, true) := by kernel_rfl
theorem fc31_size : tySize Try.prog 31 = some 4 := by kernel_rfl
theorem fc31_zero : zeroT Try.prog 31 = some [.int .i64 0, .int .i64 0, .int .i64 0, .int .i64 0] := by kernel_rfl
theorem fc31_all : allPlaces Try.prog 31 = true := by kernel_rfl
theorem fc31_o0 : fieldOff Try.prog 31 0 = some 0 := by kernel_rfl
theorem fc31_f0 : fieldT Try.prog 31 0 = some (0, 1, false) := by kernel_rfl
theorem fc31_p0 : placeT Try.prog 31 0 = some (0, 1) := by kernel_rfl
theorem fc31_o1 : fieldOff Try.prog 31 1 = some 1 := by kernel_rfl
theorem fc31_f1 : fieldT Try.prog 31 1 = some (1, 1, false) := by kernel_rfl
theorem fc31_p1 : placeT Try.prog 31 1 = some (1, 1) := by kernel_rfl
theorem fc31_o2 : fieldOff Try.prog 31 2 = some 2 := by kernel_rfl
theorem fc31_f2 : fieldT Try.prog 31 2 = some (2, 1, false) := by kernel_rfl
theorem fc31_p2 : placeT Try.prog 31 2 = some (2, 1) := by kernel_rfl
theorem fc31_o3 : fieldOff Try.prog 31 3 = some 3 := by kernel_rfl
theorem fc31_f3 : fieldT Try.prog 31 3 = some (3, 1, false) := by kernel_rfl
theorem fc31_p3 : placeT Try.prog 31 3 = some (3, 1) := by kernel_rfl
theorem fc33_load : loadT Try.prog 33 = some (1, false) := by kernel_rfl
theorem fc33_size : tySize Try.prog 33 = some 1 := by kernel_rfl
theorem fc33_zero : zeroT Try.prog 33 = some [.nilFunc] := by kernel_rfl
theorem fc34_load : loadT Try.prog 34 = some (4, true) := by kernel_rfl
theorem fc34_size : tySize Try.prog 34 = some 4 := by kernel_rfl
theorem fc34_zero : zeroT Try.prog 34 = some [.int .i64 0, .int .i64 0, .int .i64 0, .int .i64 0] := by kernel_rfl
theorem fc34_all : allPlaces Try.prog 34 = true := by kernel_rfl
theorem fc34_o0 : fieldOff Try.prog 34 0 = some 0 := by kernel_rfl
theorem fc34_f0 : fieldT Try.prog 34 0 = some (0, 1, false) := by kernel_rfl
theorem fc34_p0 : placeT Try.prog 34 0 = some (0, 1) := by kernel_rfl
theorem fc34_o1 : fieldOff Try.prog 34 1 = some 1 := by kernel_rfl
theorem fc34_f1 : fieldT Try.prog 34 1 = some (1, 1, false) := by kernel_rfl
theorem fc34_p1 : placeT Try.prog 34 1 = some (1, 1) := by kernel_rfl
theorem fc34_o2 : fieldOff Try.prog 34 2 = some 2 := by kernel_rfl
theorem fc34_f2 : fieldT Try.prog 34 2 = some (2, 1, false) := by kernel_rfl
theorem fc34_p2 : placeT Try.prog 34 2 = some (2, 1) := by kernel_rfl
theorem fc34_o3 : fieldOff Try.prog 34 3 = some 3 := by kernel_rfl
theorem fc34_f3 : fieldT Try.prog 34 3 = some (3, 1, false) := by kernel_rfl
theorem fc34_p3 : placeT Try.prog 34 3 = some (3, 1) := by kernel_rfl
theorem fc35_load : loadT Try.prog 35 = some (1, false) := by kernel_rfl
theorem fc35_size : tySize Try.prog 35 = some 1 := by kernel_rfl
theorem fc35_zero : zeroT Try.prog 35 = some [.nilFunc] := by kernel_rfl
theorem fc36_load : loadT Try.prog 36 = some (1, false) := by kernel_rfl
theorem fc36_size : tySize Try.prog 36 = some 1 := by kernel_rfl
theorem fc36_zero : zeroT Try.prog 36 = some [.nilFunc] := by kernel_rfl
theorem fc37_load : loadT Try.prog 37 = some (1, false) := by kernel_rfl
theorem fc37_size : tySize Try.prog 37 = some 1 := by kernel_rfl
theorem fc37_zero : zeroT Try.prog 37 = some [.slice none 0 0] := by kernel_rfl
theorem fc37_sl : sliceT Try.prog 37 = some (60, 2) := by kernel_rfl
theorem fc37_arr : arrT Try.prog 37 = none := by kernel_rfl
theorem fc37_app : appT Try.prog 37 = some (60, 2, 16) := by kernel_rfl
theorem fc37_z1 : zeroNT Try.prog 37 = some (60, [.int .i64 0, .int .i64 0], 16) := by kernel_rfl
theorem fc38_load : loadT Try.prog 38 = some (1, false) := by kernel_rfl
theorem fc38_size : tySize Try.prog 38 = some 1 := by kernel_rfl
theorem fc38_zero : zeroT Try.prog 38 = some [.nilFunc] := by kernel_rfl
theorem fc39_load : loadT Try.prog 39 = some (1, false) := by kernel_rfl
theorem fc39_size : tySize Try.prog 39 = some 1 := by kernel_rfl
theorem fc39_zero : zeroT Try.prog 39 = some [.nilFunc] := by kernel_rfl
theorem fc40_load : loadT Try.prog 40 = some (1, false) := by kernel_rfl
theorem fc40_size : tySize Try.prog 40 = some 1 := by kernel_rfl
theorem fc40_zero : zeroT Try.prog 40 = some [.slice none 0 0] := by kernel_rfl
theorem fc40_sl : sliceT Try.prog 40 = some (58, 2) := by kernel_rfl
theorem fc40_arr : arrT Try.prog 40 = none := by kernel_rfl
theorem fc40_app : appT Try.prog 40 = some (58, 2, 16) := by kernel_rfl
theorem fc40_z1 : zeroNT Try.prog 40 = some (58, [.int .i64 0, .int .i64 0], 16) := by kernel_rfl
theorem fc41_load : loadT Try.prog 41 = some (1, false) := by kernel_rfl
theorem fc41_size : tySize Try.prog 41 = some 1 := by kernel_rfl
theorem fc41_zero : zeroT Try.prog 41 = some [.nilFunc] := by kernel_rfl
theorem fc42_load : loadT Try.prog 42 = some (1, false) := by kernel_rfl
theorem fc42_size : tySize Try.prog 42 = some 1 := by kernel_rfl
theorem fc42_zero : zeroT Try.prog 42 = some [.nilFunc] := by kernel_rfl
theorem fc43_load : loadT Try.prog 43 = some (1, false) := by kernel_rfl
theorem fc43_size : tySize Try.prog 43 = some 1 := by kernel_rfl
theorem fc43_zero : zeroT Try.prog 43 = some [.nilFunc] := by kernel_rfl
theorem fc44_load : loadT Try.prog 44 = some (1, false) := by kernel_rfl
theorem fc44_size : tySize Try.prog 44 = some 1 := by kernel_rfl
theorem fc44_zero : zeroT Try.prog 44 = some [.slice none 0 0] := by kernel_rfl
theorem fc44_sl : sliceT Try.prog 44 = some (66, 4) := by kernel_rfl
theorem fc44_arr : arrT Try.prog 44 = none := by kernel_rfl
theorem fc44_app : appT Try.prog 44 = some (66, 4, 32) := by kernel_rfl
theorem fc44_z1 : zeroNT Try.prog 44 = some (66, [.int .i64 0, .int .i64 0, .int .i64 0, .int .i64 0], 32) := by kernel_rfl
theorem fc45_load : loadT Try.prog 45 = some (1, false) := by kernel_rfl
theorem fc45_size : tySize Try.prog 45 = some 1 := by kernel_rfl
theorem fc45_zero : zeroT Try.prog 45 = some [.nilFunc] := by kernel_rfl
theorem fc46_load : loadT Try.prog 46 = some (1, false) := by kernel_rfl
theorem fc46_size : tySize Try.prog 46 = some 1 := by kernel_rfl
theorem fc46_zero : zeroT Try.prog 46 = some [.nilFunc] := by kernel_rfl
theorem fc47_load : loadT Try.prog 47 = some (1, false) := by kernel_rfl
theorem fc47_size : tySize Try.prog 47 = some 1 := by kernel_rfl
theorem fc47_zero : zeroT Try.prog 47 = some [.slice none 0 0] := by kernel_rfl
theorem fc47_sl : sliceT Try.prog 47 = some (64, 4) := by kernel_rfl
theorem fc47_arr : arrT Try.prog 47 = none := by kernel_rfl
theorem fc47_app : appT Try.prog 47 = some (64, 4, 32) := by kernel_rfl
theorem fc47_z1 : zeroNT Try.prog 47 = some (64, [.int .i64 0, .int .i64 0, .int .i64 0, .int .i64 0], 32) := by kernel_rfl
theorem fc48_load : loadT Try.prog 48 = some (1, false) := by kernel_rfl
theorem fc48_size : tySize Try.prog 48 = some 1 := by kernel_rfl
theorem fc48_zero : zeroT Try.prog 48 = some [.nilFunc] := by kernel_rfl
theorem fc49_load : loadT Try.prog 49 = some (1, false) := by kernel_rfl
theorem fc49_size : tySize Try.prog 49 = some 1 := by kernel_rfl
theorem fc49_zero : zeroT Try.prog 49 = some [.nilFunc] := by kernel_rfl
theorem fc50_load : loadT Try.prog 50 = some (1, false) := by kernel_rfl
theorem fc50_size : tySize Try.prog 50 = some 1 := by kernel_rfl
theorem fc50_zero : zeroT Try.prog 50 = some [.nilFunc] := by kernel_rfl
theorem fc51_load : loadT Try.prog 51 = some (1, false) := by kernel_rfl
theorem fc51_size : tySize Try.prog 51 = some 1 := by kernel_rfl
theorem fc51_zero : zeroT Try.prog 51 = some [.nilFunc] := by kernel_rfl
theorem fc52_load : loadT Try.prog 52 = some (1, false) := by kernel_rfl
theorem fc52_size : tySize Try.prog 52 = some 1 := by kernel_rfl
theorem fc52_zero : zeroT Try.prog 52 = some [.nilFunc] := by kernel_rfl
theorem fc53_load : loadT Try.prog 53 = some (1, false) := by kernel_rfl
theorem fc53_size : tySize Try.prog 53 = some 1 := by kernel_rfl
theorem fc53_zero : zeroT Try.prog 53 = some [.nilFunc] := by kernel_rfl
theorem fc54_load : loadT Try.prog 54 = some (1, false) := by kernel_rfl
theorem fc54_size : tySize Try.prog 54 = some 1 := by kernel_rfl
theorem fc54_zero : zeroT Try.prog 54 = some [.nilFunc] := by kernel_rfl
theorem fc55_load : loadT Try.prog 55 = some (1, false) := by kernel_rfl
theorem fc55_size : tySize Try.prog 55 = some 1 := by kernel_rfl
theorem fc55_zero : zeroT Try.prog 55 = some [.nilFunc] := by kernel_rfl
theorem fc56_load : loadT Try.prog 56 = some (1, false) := by kernel_rfl
theorem fc56_size : tySize Try.prog 56 = some 1 := by kernel_rfl
theorem fc56_zero : zeroT Try.prog 56 = some [.nilFunc] := by kernel_rfl
theorem fc57_load : loadT Try.prog 57 = some (2, true) := by kernel_rfl
theorem fc57_size : tySize Try.prog 57 = some 2 := by kernel_rfl
theorem fc57_zero : zeroT Try.prog 57 = some [.int .i64 0, .int .i64 0] := by kernel_rfl
theorem fc57_all : allPlaces Try.prog 57 = true := by kernel_rfl
theorem fc57_o0 : fieldOff Try.prog 57 0 = some 0 := by kernel_rfl
theorem fc57_f0 : fieldT Try.prog 57 0 = some (0, 1, false) := by kernel_rfl
theorem fc57_p0 : placeT Try.prog 57 0 = some (0, 1) := by kernel_rfl
theorem fc57_o1 : fieldOff Try.prog 57 1 = some 1 := by kernel_rfl
theorem fc57_f1 : fieldT Try.prog 57 1 = some (1, 1, false) := by kernel_rfl
theorem fc57_p1 : placeT Try.prog 57 1 = some (1, 1) := by kernel_rfl
theorem fc58_load : loadT Try.prog 58 = some (2, true) := by kernel_rfl
theorem fc58_size : tySize Try.prog 58 = some 2 := by kernel_rfl
theorem fc58_zero : zeroT Try.prog 58 = some [.int .i64 0, .int .i64 0] := by kernel_rfl
theorem fc58_all : allPlaces Try.prog 58 = true := by kernel_rfl
theorem fc58_o0 : fieldOff Try.prog 58 0 = some 0 := by kernel_rfl
theorem fc58_f0 : fieldT Try.prog 58 0 = some (0, 1, false) := by kernel_rfl
theorem fc58_p0 : placeT Try.prog 58 0 = some (0, 1) := by kernel_rfl
theorem fc58_o1 : fieldOff Try.prog 58 1 = some 1 := by kernel_rfl
theorem fc58_f1 : fieldT Try.prog 58 1 = some (1, 1, false) := by kernel_rfl
theorem fc58_p1 : placeT Try.prog 58 1 = some (1, 1) := by kernel_rfl
theorem fc59_load : loadT Try.prog 59 = some (1, false) := by kernel_rfl
theorem fc59_size : tySize Try.prog 59 = some 1 := by kernel_rfl
theorem fc59_zero : zeroT Try.prog 59 = some [.nilFunc] := by kernel_rfl
theorem fc60_load : loadT Try.prog 60 = some (2, true) := by kernel_rfl
theorem fc60_size : tySize Try.prog 60 = some 2 := by kernel_rfl
theorem fc60_zero : zeroT Try.prog 60 = some [.int .i64 0, .int .i64 0] := by kernel_rfl
theorem fc60_all : allPlaces Try.prog 60 = true := by kernel_rfl
theorem fc60_o0 : fieldOff Try.prog 60 0 = some 0 := by kernel_rfl
theorem fc60_f0 : fieldT Try.prog 60 0 = some (0, 1, false) := by kernel_rfl
theorem fc60_p0 : placeT Try.prog 60 0 = some (0, 1) := by kernel_rfl
theorem fc60_o1 : fieldOff Try.prog 60 1 = some 1 := by kernel_rfl
theorem fc60_f1 : fieldT Try.prog 60 1 = some (1, 1, false) := by kernel_rfl
theorem fc60_p1 : placeT Try.prog 60 1 = some (1, 1) := by kernel_rfl
theorem fc61_load : loadT Try.prog 61 = some (1, false) := by kernel_rfl
theorem fc61_size : tySize Try.prog 61 = some 1 := by kernel_rfl
theorem fc61_zero : zeroT Try.prog 61 = some [.nilFunc] := by kernel_rfl
theorem fc62_load : loadT Try.prog 62 = some (1, false) := by kernel_rfl
theorem fc62_size : tySize Try.prog 62 = some 1 := by kernel_rfl
theorem fc62_zero : zeroT Try.prog 62 = some [.nilFunc] := by kernel_rfl
theorem fc63_load : loadT Try.prog 63 = some (4, true) := by kernel_rfl
theorem fc63_size : tySize Try.prog 63 = some 4 := by kernel_rfl
theorem fc63_zero : zeroT Try.prog 63 = some [.int .i64 0, .int .i64 0, .int .i64 0, .int .i64 0] := by kernel_rfl
theorem fc63_all : allPlaces Try.prog 63 = true := by kernel_rfl
theorem fc63_o0 : fieldOff Try.prog 63 0 = some 0 := by kernel_rfl
theorem fc63_f0 : fieldT Try.prog 63 0 = some (0, 1, false) := by kernel_rfl
theorem fc63_p0 : placeT Try.prog 63 0 = some (0, 1) := by kernel_rfl
theorem fc63_o1 : fieldOff Try.prog 63 1 = some 1 := by kernel_rfl
theorem fc63_f1 : fieldT Try.prog 63 1 = some (1, 1, false) := by kernel_rfl
theorem fc63_p1 : placeT Try.prog 63 1 = some (1, 1) := by kernel_rfl
theorem fc63_o2 : fieldOff Try.prog 63 2 = some 2 := by kernel_rfl
theorem fc63_f2 : fieldT Try.prog 63 2 = some (2, 1, false) := by kernel_rfl
theorem fc63_p2 : placeT Try.prog 63 2 = some (2, 1) := by kernel_rfl
theorem fc63_o3 : fieldOff Try.prog 63 3 = some 3 := by kernel_rfl
theorem fc63_f3 : fieldT Try.prog 63 3 = some (3, 1, false) := by kernel_rfl
theorem fc63_p3 : placeT Try.prog 63 3 = some (3, 1) := by kernel_rfl
theorem fc64_load : loadT Try.prog 64 = some (4, true) := by kernel_rfl
theorem fc64_size : tySize Try.prog 64 = some 4 := by kernel_rfl
theorem fc64_zero : zeroT Try.prog 64 = some [.int .i64 0, .int .i64 0, .int .i64 0, .int .i64 0] := by kernel_rfl
theorem fc64_all : allPlaces Try.prog 64 = true := by kernel_rfl
theorem fc64_o0 : fieldOff Try.prog 64 0 = some 0 := by kernel_rfl
theorem fc64_f0 : fieldT Try.prog 64 0 = some (0, 1, false) := by kernel_rfl
theorem fc64_p0 : placeT Try.prog 64 0 = some (0, 1) := by kernel_rfl
theorem fc64_o1 : fieldOff Try.prog 64 1 = some 1 := by kernel_rfl
theorem fc64_f1 : fieldT Try.prog 64 1 = some (1, 1, false) := by kernel_rfl
theorem fc64_p1 : placeT Try.prog 64 1 = some (1, 1) := by kernel_rfl
theorem fc64_o2 : fieldOff Try.prog 64 2 = some 2 := by kernel_rfl
theorem fc64_f2 : fieldT Try.prog 64 2 = some (2, 1, false) := by kernel_rfl
theorem fc64_p2 : placeT Try.prog 64 2 = some (2, 1) := by kernel_rfl
theorem fc64_o3 : fieldOff Try.prog 64 3 = some 3 := by kernel_rfl
theorem fc64_f3 : fieldT Try.prog 64 3 = some (3, 1, false) := by kernel_rfl
theorem fc64_p3 : placeT Try.prog 64 3 = some (3, 1) := by kernel_rfl
theorem fc65_load : loadT Try.prog 65 = some (1, false) := by kernel_rfl
theorem fc65_size : tySize Try.prog 65 = some 1 := by kernel_rfl
theorem fc65_zero : zeroT Try.prog 65 = some [.nilFunc] := by kernel_rfl
theorem fc66_load : loadT Try.prog 66 = some (4, true) := by kernel_rfl
theorem fc66_size : tySize Try.prog 66 = some 4 := by kernel_rfl
theorem fc66_zero : zeroT Try.prog 66 = some [.int .i64 0, .int .i64 0, .int .i64 0, .int .i64 0] := by kernel_rfl
theorem fc66_all : allPlaces Try.prog 66 = true := by kernel_rfl
theorem fc66_o0 : fieldOff Try.prog 66 0 = some 0 := by kernel_rfl
theorem fc66_f0 : fieldT Try.prog 66 0 = some (0, 1, false) := by kernel_rfl
theorem fc66_p0 : placeT Try.prog 66 0 = some (0, 1) := by kernel_rfl
theorem fc66_o1 : fieldOff Try.prog 66 1 = some 1 := by kernel_rfl
theorem fc66_f1 : fieldT Try.prog 66 1 = some (1, 1, false) := by kernel_rfl
theorem fc66_p1 : placeT Try.prog 66 1 = some (1, 1) := by kernel_rfl
theorem fc66_o2 : fieldOff Try.prog 66 2 = some 2 := by kernel_rfl
theorem fc66_f2 : fieldT Try.prog 66 2 = some (2, 1, false) := by kernel_rfl
theorem fc66_p2 : placeT Try.prog 66 2 = some (2, 1) := by kernel_rfl
theorem fc66_o3 : fieldOff Try.prog 66 3 = some 3 := by kernel_rfl
theorem fc66_f3 : fieldT Try.prog 66 3 = some (3, 1, false) := by kernel_rfl
theorem fc66_p3 : placeT Try.prog 66 3 = some (3, 1) := by kernel_rfl
theorem fc67_load : loadT Try.prog 67 = some (1, false) := by kernel_rfl
theorem fc67_size : tySize Try.prog 67 = some 1 := by kernel_rfl
theorem fc67_zero : zeroT Try.prog 67 = some [.nilFunc] := by kernel_rfl
theorem fc68_load : loadT Try.prog 68 = some (1, false) := by kernel_rfl
theorem fc68_size : tySize Try.prog 68 = some 1 := by kernel_rfl
theorem fc68_zero : zeroT Try.prog 68 = some [.nilFunc] := by kernel_rfl
theorem fc69_load : loadT Try.prog 69 = some (1, false) := by kernel_rfl
theorem fc69_size : tySize Try.prog 69 = some 1 := by kernel_rfl
theorem fc69_zero : zeroT Try.prog 69 = some [.nilFunc] := by kernel_rfl
theorem fc70_load : loadT Try.prog 70 = some (1, false) := by kernel_rfl
theorem fc70_size : tySize Try.prog 70 = some 1 := by kernel_rfl
theorem fc70_zero : zeroT Try.prog 70 = some [.slice none 0 0] := by kernel_rfl
theorem fc70_sl : sliceT Try.prog 70 = some (3, 1) := by kernel_rfl
theorem fc70_arr : arrT Try.prog 70 = none := by kernel_rfl
theorem fc70_app : appT Try.prog 70 = some (3, 1, 8) := by kernel_rfl
theorem fc70_z1 : zeroNT Try.prog 70 = some (3, [.int .i64 0], 8) := by kernel_rfl
theorem fc71_load : loadT Try.prog 71 = some (1, false) := by kernel_rfl
theorem fc71_size : tySize Try.prog 71 = some 1 := by kernel_rfl
theorem fc71_zero : zeroT Try.prog 71 = some [.nilFunc] := by kernel_rfl
theorem fc72_load : loadT Try.prog 72 = some (1, false) := by kernel_rfl
theorem fc72_size : tySize Try.prog 72 = some 1 := by kernel_rfl
theorem fc72_zero : zeroT Try.prog 72 = some [.nilFunc] := by kernel_rfl
theorem fc73_load : loadT Try.prog 73 = some (1, false) := by kernel_rfl
theorem fc73_size : tySize Try.prog 73 = some 1 := by kernel_rfl
theorem fc73_zero : zeroT Try.prog 73 = some [.nilFunc] := by kernel_rfl
theorem fc74_load : loadT Try.prog 74 = some (1, false) := by kernel_rfl
theorem fc74_size : tySize Try.prog 74 = some 1 := by kernel_rfl
theorem fc74_zero : zeroT Try.prog 74 = some [.nilFunc] := by kernel_rfl
theorem fc75_load : loadT Try.prog 75 = some (1, false) := by kernel_rfl
theorem fc75_size : tySize Try.prog 75 = some 1 := by kernel_rfl
theorem fc75_zero : zeroT Try.prog 75 = some [.nilFunc] := by kernel_rfl
theorem fc76_load : loadT Try.prog 76 = some (5, true) := by kernel_rfl
theorem fc76_size : tySize Try.prog 76 = some 5 := by kernel_rfl
theorem fc76_zero : zeroT Try.prog 76 = some [.int .i64 0, .int .i64 0, .int .i64 0, .int .i64 0, .int .i64 0] := by kernel_rfl
theorem fc76_arr : arrT Try.prog 76 = some (5, 1, false) := by kernel_rfl
theorem fc76_sl : sliceT Try.prog 76 = none := by kernel_rfl
theorem fc76_all : allPlaces Try.prog 76 = true := by kernel_rfl
theorem fc76_p0 : placeT Try.prog 76 0 = some (0, 1) := by kernel_rfl
theorem fc76_p1 : placeT Try.prog 76 1 = some (1, 1) := by kernel_rfl
theorem fc76_p2 : placeT Try.prog 76 2 = some (2, 1) := by kernel_rfl
theorem fc76_p3 : placeT Try.prog 76 3 = some (3, 1) := by kernel_rfl
theorem fc76_p4 : placeT Try.prog 76 4 = some (4, 1) := by kernel_rfl
theorem fc77_load : loadT Try.prog 77 = some (1, false) := by kernel_rfl
theorem fc77_size : tySize Try.prog 77 = some 1 := by kernel_rfl
theorem fc77_zero : zeroT Try.prog 77 = some [.nilFunc] := by kernel_rfl
theorem fc78_load : loadT Try.prog 78 = some (4, true) := by kernel_rfl
theorem fc78_size : tySize Try.prog 78 = some 4 := by kernel_rfl
theorem fc78_zero : zeroT Try.prog 78 = some [.pointer none, .pointer none, .pointer none, .string ⟨#[]⟩] := by kernel_rfl
theorem fc78_all : allPlaces Try.prog 78 = true := by kernel_rfl
theorem fc78_o0 : fieldOff Try.prog 78 0 = some 0 := by kernel_rfl
theorem fc78_f0 : fieldT Try.prog 78 0 = some (0, 1, false) := by kernel_rfl
theorem fc78_p0 : placeT Try.prog 78 0 = some (0, 1) := by kernel_rfl
theorem fc78_o1 : fieldOff Try.prog 78 1 = some 1 := by kernel_rfl
theorem fc78_f1 : fieldT Try.prog 78 1 = some (1, 1, false) := by kernel_rfl
theorem fc78_p1 : placeT Try.prog 78 1 = some (1, 1) := by kernel_rfl
theorem fc78_o2 : fieldOff Try.prog 78 2 = some 2 := by kernel_rfl
theorem fc78_f2 : fieldT Try.prog 78 2 = some (2, 1, false) := by kernel_rfl
theorem fc78_p2 : placeT Try.prog 78 2 = some (2, 1) := by kernel_rfl
theorem fc78_o3 : fieldOff Try.prog 78 3 = some 3 := by kernel_rfl
theorem fc78_f3 : fieldT Try.prog 78 3 = some (3, 1, false) := by kernel_rfl
theorem fc78_p3 : placeT Try.prog 78 3 = some (3, 1) := by kernel_rfl
theorem fc79_load : loadT Try.prog 79 = some (4, true) := by kernel_rfl
theorem fc79_size : tySize Try.prog 79 = some 4 := by kernel_rfl
theorem fc79_zero : zeroT Try.prog 79 = some [.pointer none, .pointer none, .pointer none, .string ⟨#[]⟩] := by kernel_rfl
theorem fc79_all : allPlaces Try.prog 79 = true := by kernel_rfl
theorem fc79_o0 : fieldOff Try.prog 79 0 = some 0 := by kernel_rfl
theorem fc79_f0 : fieldT Try.prog 79 0 = some (0, 1, false) := by kernel_rfl
theorem fc79_p0 : placeT Try.prog 79 0 = some (0, 1) := by kernel_rfl
theorem fc79_o1 : fieldOff Try.prog 79 1 = some 1 := by kernel_rfl
theorem fc79_f1 : fieldT Try.prog 79 1 = some (1, 1, false) := by kernel_rfl
theorem fc79_p1 : placeT Try.prog 79 1 = some (1, 1) := by kernel_rfl
theorem fc79_o2 : fieldOff Try.prog 79 2 = some 2 := by kernel_rfl
theorem fc79_f2 : fieldT Try.prog 79 2 = some (2, 1, false) := by kernel_rfl
theorem fc79_p2 : placeT Try.prog 79 2 = some (2, 1) := by kernel_rfl
theorem fc79_o3 : fieldOff Try.prog 79 3 = some 3 := by kernel_rfl
theorem fc79_f3 : fieldT Try.prog 79 3 = some (3, 1, false) := by kernel_rfl
theorem fc79_p3 : placeT Try.prog 79 3 = some (3, 1) := by kernel_rfl
theorem fc80_load : loadT Try.prog 80 = some (0, true) := by kernel_rfl
theorem fc80_size : tySize Try.prog 80 = some 0 := by kernel_rfl
theorem fc80_zero : zeroT Try.prog 80 = some [] := by kernel_rfl
theorem fc80_arr : arrT Try.prog 80 = some (0, 1, false) := by kernel_rfl
theorem fc80_sl : sliceT Try.prog 80 = none := by kernel_rfl
theorem fc80_all : allPlaces Try.prog 80 = true := by kernel_rfl
theorem fc81_load : loadT Try.prog 81 = some (0, true) := by kernel_rfl
theorem fc81_size : tySize Try.prog 81 = some 0 := by kernel_rfl
theorem fc81_zero : zeroT Try.prog 81 = some [] := by kernel_rfl
theorem fc81_all : allPlaces Try.prog 81 = true := by kernel_rfl
theorem fc81_f0 : fieldT Try.prog 81 0 = some (0, 0, true) := by kernel_rfl
theorem fc81_p0 : placeT Try.prog 81 0 = some (0, 0) := by kernel_rfl
theorem fc82_load : loadT Try.prog 82 = some (0, true) := by kernel_rfl
theorem fc82_size : tySize Try.prog 82 = some 0 := by kernel_rfl
theorem fc82_zero : zeroT Try.prog 82 = some [] := by kernel_rfl
theorem fc82_all : allPlaces Try.prog 82 = true := by kernel_rfl
theorem fc82_f0 : fieldT Try.prog 82 0 = some (0, 0, true) := by kernel_rfl
theorem fc82_p0 : placeT Try.prog 82 0 = some (0, 0) := by kernel_rfl
theorem fc83_load : loadT Try.prog 83 = some (1, false) := by kernel_rfl
theorem fc83_size : tySize Try.prog 83 = some 1 := by kernel_rfl
theorem fc83_zero : zeroT Try.prog 83 = some [.nilFunc] := by kernel_rfl
theorem fc84_load : loadT Try.prog 84 = some (1, false) := by kernel_rfl
theorem fc84_size : tySize Try.prog 84 = some 1 := by kernel_rfl
theorem fc84_int : intT Try.prog 84 = some .u32 := by kernel_rfl
theorem fc84_isb : isBoolT Try.prog 84 = false := by kernel_rfl
theorem fc84_u : Try.prog.underlying 84 = some (.int .u32) := by kernel_rfl
theorem fc84_zero : zeroT Try.prog 84 = some [.int .u32 0] := by kernel_rfl
theorem fc85_load : loadT Try.prog 85 = some (1, false) := by kernel_rfl
theorem fc85_size : tySize Try.prog 85 = some 1 := by kernel_rfl
theorem fc85_int : intT Try.prog 85 = some .u8 := by kernel_rfl
theorem fc85_isb : isBoolT Try.prog 85 = false := by kernel_rfl
theorem fc85_u : Try.prog.underlying 85 = some (.int .u8) := by kernel_rfl
theorem fc85_zero : zeroT Try.prog 85 = some [.int .u8 0] := by kernel_rfl
theorem fc86_load : loadT Try.prog 86 = some (1, false) := by kernel_rfl
theorem fc86_size : tySize Try.prog 86 = some 1 := by kernel_rfl
theorem fc86_int : intT Try.prog 86 = some .u8 := by kernel_rfl
theorem fc86_isb : isBoolT Try.prog 86 = false := by kernel_rfl
theorem fc86_u : Try.prog.underlying 86 = some (.int .u8) := by kernel_rfl
theorem fc86_zero : zeroT Try.prog 86 = some [.int .u8 0] := by kernel_rfl
theorem fc87_load : loadT Try.prog 87 = some (1, false) := by kernel_rfl
theorem fc87_size : tySize Try.prog 87 = some 1 := by kernel_rfl
theorem fc87_zero : zeroT Try.prog 87 = some [.nilFunc] := by kernel_rfl
theorem fc88_load : loadT Try.prog 88 = some (1, false) := by kernel_rfl
theorem fc88_size : tySize Try.prog 88 = some 1 := by kernel_rfl
theorem fc88_zero : zeroT Try.prog 88 = some [.pointer none] := by kernel_rfl
theorem fc88_sl : sliceT Try.prog 88 = none := by kernel_rfl
theorem fc89_load : loadT Try.prog 89 = some (1, false) := by kernel_rfl
theorem fc89_size : tySize Try.prog 89 = some 1 := by kernel_rfl
theorem fc89_int : intT Try.prog 89 = some .i32 := by kernel_rfl
theorem fc89_isb : isBoolT Try.prog 89 = false := by kernel_rfl
theorem fc89_u : Try.prog.underlying 89 = some (.int .i32) := by kernel_rfl
theorem fc89_zero : zeroT Try.prog 89 = some [.int .i32 0] := by kernel_rfl
theorem fc90_load : loadT Try.prog 90 = some (1, false) := by kernel_rfl
theorem fc90_size : tySize Try.prog 90 = some 1 := by kernel_rfl
theorem fc90_int : intT Try.prog 90 = some .i32 := by kernel_rfl
theorem fc90_isb : isBoolT Try.prog 90 = false := by kernel_rfl
theorem fc90_u : Try.prog.underlying 90 = some (.int .i32) := by kernel_rfl
theorem fc90_zero : zeroT Try.prog 90 = some [.int .i32 0] := by kernel_rfl
theorem fc91_load : loadT Try.prog 91 = some (11, true) := by kernel_rfl
theorem fc91_size : tySize Try.prog 91 = some 11 := by kernel_rfl
theorem fc91_zero : zeroT Try.prog 91 = some [.int .u64 0, .int .u64 0, .int .u32 0, .int .u8 0, .int .u8 0, .int .u8 0, .int .u8 0, .nilFunc, .pointer none, .int .i32 0, .int .i32 0] := by kernel_rfl
theorem fc91_all : allPlaces Try.prog 91 = true := by kernel_rfl
theorem fc91_o0 : fieldOff Try.prog 91 0 = some 0 := by kernel_rfl
theorem fc91_f0 : fieldT Try.prog 91 0 = some (0, 1, false) := by kernel_rfl
theorem fc91_p0 : placeT Try.prog 91 0 = some (0, 1) := by kernel_rfl
theorem fc91_o1 : fieldOff Try.prog 91 1 = some 1 := by kernel_rfl
theorem fc91_f1 : fieldT Try.prog 91 1 = some (1, 1, false) := by kernel_rfl
theorem fc91_p1 : placeT Try.prog 91 1 = some (1, 1) := by kernel_rfl
theorem fc91_o2 : fieldOff Try.prog 91 2 = some 2 := by kernel_rfl
theorem fc91_f2 : fieldT Try.prog 91 2 = some (2, 1, false) := by kernel_rfl
theorem fc91_p2 : placeT Try.prog 91 2 = some (2, 1) := by kernel_rfl
theorem fc91_o3 : fieldOff Try.prog 91 3 = some 3 := by kernel_rfl
theorem fc91_f3 : fieldT Try.prog 91 3 = some (3, 1, false) := by kernel_rfl
theorem fc91_p3 : placeT Try.prog 91 3 = some (3, 1) := by kernel_rfl
theorem fc91_o4 : fieldOff Try.prog 91 4 = some 4 := by kernel_rfl
theorem fc91_f4 : fieldT Try.prog 91 4 = some (4, 1, false) := by kernel_rfl
theorem fc91_p4 : placeT Try.prog 91 4 = some (4, 1) := by kernel_rfl
theorem fc91_o5 : fieldOff Try.prog 91 5 = some 5 := by kernel_rfl
theorem fc91_f5 : fieldT Try.prog 91 5 = some (5, 1, false) := by kernel_rfl
theorem fc91_p5 : placeT Try.prog 91 5 = some (5, 1) := by kernel_rfl
theorem fc91_o6 : fieldOff Try.prog 91 6 = some 6 := by kernel_rfl
theorem fc91_f6 : fieldT Try.prog 91 6 = some (6, 1, false) := by kernel_rfl
theorem fc91_p6 : placeT Try.prog 91 6 = some (6, 1) := by kernel_rfl
theorem fc91_o7 : fieldOff Try.prog 91 7 = some 7 := by kernel_rfl
theorem fc91_f7 : fieldT Try.prog 91 7 = some (7, 1, false) := by kernel_rfl
theorem fc91_p7 : placeT Try.prog 91 7 = some (7, 1) := by kernel_rfl
theorem fc91_o8 : fieldOff Try.prog 91 8 = some 8 := by kernel_rfl
theorem fc91_f8 : fieldT Try.prog 91 8 = some (8, 1, false) := by kernel_rfl
theorem fc91_p8 : placeT Try.prog 91 8 = some (8, 1) := by kernel_rfl
theorem fc91_o9 : fieldOff Try.prog 91 9 = some 9 := by kernel_rfl
theorem fc91_f9 : fieldT Try.prog 91 9 = some (9, 1, false) := by kernel_rfl
theorem fc91_p9 : placeT Try.prog 91 9 = some (9, 1) := by kernel_rfl
theorem fc91_o10 : fieldOff Try.prog 91 10 = some 10 := by kernel_rfl
theorem fc91_f10 : fieldT Try.prog 91 10 = some (10, 1, false) := by kernel_rfl
theorem fc91_p10 : placeT Try.prog 91 10 = some (10, 1) := by kernel_rfl
theorem fc92_load : loadT Try.prog 92 = some (11, true) := by kernel_rfl
theorem fc92_size : tySize Try.prog 92 = some 11 := by kernel_rfl
theorem fc92_zero : zeroT Try.prog 92 = some [.int .u64 0, .int .u64 0, .int .u32 0, .int .u8 0, .int .u8 0, .int .u8 0, .int .u8 0, .nilFunc, .pointer none, .int .i32 0, .int .i32 0] := by kernel_rfl
theorem fc92_all : allPlaces Try.prog 92 = true := by kernel_rfl
theorem fc92_o0 : fieldOff Try.prog 92 0 = some 0 := by kernel_rfl
theorem fc92_f0 : fieldT Try.prog 92 0 = some (0, 1, false) := by kernel_rfl
theorem fc92_p0 : placeT Try.prog 92 0 = some (0, 1) := by kernel_rfl
theorem fc92_o1 : fieldOff Try.prog 92 1 = some 1 := by kernel_rfl
theorem fc92_f1 : fieldT Try.prog 92 1 = some (1, 1, false) := by kernel_rfl
theorem fc92_p1 : placeT Try.prog 92 1 = some (1, 1) := by kernel_rfl
theorem fc92_o2 : fieldOff Try.prog 92 2 = some 2 := by kernel_rfl
theorem fc92_f2 : fieldT Try.prog 92 2 = some (2, 1, false) := by kernel_rfl
theorem fc92_p2 : placeT Try.prog 92 2 = some (2, 1) := by kernel_rfl
theorem fc92_o3 : fieldOff Try.prog 92 3 = some 3 := by kernel_rfl
theorem fc92_f3 : fieldT Try.prog 92 3 = some (3, 1, false) := by kernel_rfl
theorem fc92_p3 : placeT Try.prog 92 3 = some (3, 1) := by kernel_rfl
theorem fc92_o4 : fieldOff Try.prog 92 4 = some 4 := by kernel_rfl
theorem fc92_f4 : fieldT Try.prog 92 4 = some (4, 1, false) := by kernel_rfl
theorem fc92_p4 : placeT Try.prog 92 4 = some (4, 1) := by kernel_rfl
theorem fc92_o5 : fieldOff Try.prog 92 5 = some 5 := by kernel_rfl
theorem fc92_f5 : fieldT Try.prog 92 5 = some (5, 1, false) := by kernel_rfl
theorem fc92_p5 : placeT Try.prog 92 5 = some (5, 1) := by kernel_rfl
theorem fc92_o6 : fieldOff Try.prog 92 6 = some 6 := by kernel_rfl
theorem fc92_f6 : fieldT Try.prog 92 6 = some (6, 1, false) := by kernel_rfl
theorem fc92_p6 : placeT Try.prog 92 6 = some (6, 1) := by kernel_rfl
theorem fc92_o7 : fieldOff Try.prog 92 7 = some 7 := by kernel_rfl
theorem fc92_f7 : fieldT Try.prog 92 7 = some (7, 1, false) := by kernel_rfl
theorem fc92_p7 : placeT Try.prog 92 7 = some (7, 1) := by kernel_rfl
theorem fc92_o8 : fieldOff Try.prog 92 8 = some 8 := by kernel_rfl
theorem fc92_f8 : fieldT Try.prog 92 8 = some (8, 1, false) := by kernel_rfl
theorem fc92_p8 : placeT Try.prog 92 8 = some (8, 1) := by kernel_rfl
theorem fc92_o9 : fieldOff Try.prog 92 9 = some 9 := by kernel_rfl
theorem fc92_f9 : fieldT Try.prog 92 9 = some (9, 1, false) := by kernel_rfl
theorem fc92_p9 : placeT Try.prog 92 9 = some (9, 1) := by kernel_rfl
theorem fc92_o10 : fieldOff Try.prog 92 10 = some 10 := by kernel_rfl
theorem fc92_f10 : fieldT Try.prog 92 10 = some (10, 1, false) := by kernel_rfl
theorem fc92_p10 : placeT Try.prog 92 10 = some (10, 1) := by kernel_rfl
attribute [go_sem] fc1_load fc1_size fc1_zero fc2_load fc2_size fc2_int fc2_isb fc2_u fc2_zero fc3_load fc3_size fc3_int fc3_isb fc3_u fc3_zero fc4_load fc4_size fc4_isb fc4_zero fc5_load fc5_size fc5_int fc5_isb fc5_u fc5_zero fc6_load fc6_size fc6_int fc6_isb fc6_u fc6_zero fc7_load fc7_size fc7_zero fc7_all fc7_o0 fc7_f0 fc7_p0 fc7_o1 fc7_f1 fc7_p1 fc7_o2 fc7_f2 fc7_p2 fc7_o3 fc7_f3 fc7_p3 fc8_load fc8_size fc8_zero fc8_all fc8_o0 fc8_f0 fc8_p0 fc8_o1 fc8_f1 fc8_p1 fc8_o2 fc8_f2 fc8_p2 fc8_o3 fc8_f3 fc8_p3 fc9_load fc9_size fc9_iss fc9_zero fc10_load fc10_size fc10_iss fc10_zero fc11_load fc11_size fc11_iss fc11_zero fc12_load fc12_size fc12_int fc12_isb fc12_u fc12_zero fc13_load fc13_size fc13_zero fc13_all fc13_o0 fc13_f0 fc13_p0 fc13_o1 fc13_f1 fc13_p1 fc14_load fc14_size fc14_zero fc14_all fc14_o0 fc14_f0 fc14_p0 fc14_o1 fc14_f1 fc14_p1 fc15_load fc15_size fc15_zero fc15_sl fc16_load fc16_size fc16_zero fc16_sl fc17_load fc17_size fc17_zero fc17_sl fc18_load fc18_size fc18_zero fc18_all fc18_o0 fc18_f0 fc18_p0 fc19_load fc19_size fc19_zero fc19_all fc19_o0 fc19_f0 fc19_p0 fc21_load fc21_size fc21_int fc21_isb fc21_u fc21_zero fc22_load fc22_size fc22_zero fc22_all fc22_o0 fc22_f0 fc22_p0 fc22_o1 fc22_f1 fc22_p1 fc22_o2 fc22_f2 fc22_p2 fc22_o3 fc22_f3 fc22_p3 fc23_load fc23_size fc23_zero fc23_all fc23_o0 fc23_f0 fc23_p0 fc23_o1 fc23_f1 fc23_p1 fc23_o2 fc23_f2 fc23_p2 fc23_o3 fc23_f3 fc23_p3 fc24_load fc24_size fc24_zero fc25_load fc25_size fc25_zero fc25_all fc25_o0 fc25_f0 fc25_p0 fc25_o1 fc25_f1 fc25_p1 fc25_o2 fc25_f2 fc25_p2 fc25_o3 fc25_f3 fc25_p3 fc26_load fc26_size fc26_zero fc27_load fc27_size fc27_zero fc29_load fc29_size fc29_zero fc30_load fc30_size fc30_zero fc30_all fc30_o0 fc30_f0 fc30_p0 fc30_o1 fc30_f1 fc30_p1 fc30_o2 fc30_f2 fc30_p2 fc30_o3 fc30_f3 fc30_p3 fc31_load fc31_size fc31_zero fc31_all fc31_o0 fc31_f0 fc31_p0 fc31_o1 fc31_f1 fc31_p1 fc31_o2 fc31_f2 fc31_p2 fc31_o3 fc31_f3 fc31_p3 fc33_load fc33_size fc33_zero fc34_load fc34_size fc34_zero fc34_all fc34_o0 fc34_f0 fc34_p0 fc34_o1 fc34_f1 fc34_p1 fc34_o2 fc34_f2 fc34_p2 fc34_o3 fc34_f3 fc34_p3 fc35_load fc35_size fc35_zero fc36_load fc36_size fc36_zero fc37_load fc37_size fc37_zero fc37_sl fc37_arr fc37_app fc37_z1 fc38_load fc38_size fc38_zero fc39_load fc39_size fc39_zero fc40_load fc40_size fc40_zero fc40_sl fc40_arr fc40_app fc40_z1 fc41_load fc41_size fc41_zero fc42_load fc42_size fc42_zero fc43_load fc43_size fc43_zero fc44_load fc44_size fc44_zero fc44_sl fc44_arr fc44_app fc44_z1 fc45_load fc45_size fc45_zero fc46_load fc46_size fc46_zero fc47_load fc47_size fc47_zero fc47_sl fc47_arr fc47_app fc47_z1 fc48_load fc48_size fc48_zero fc49_load fc49_size fc49_zero fc50_load fc50_size fc50_zero fc51_load fc51_size fc51_zero fc52_load fc52_size fc52_zero fc53_load fc53_size fc53_zero fc54_load fc54_size fc54_zero fc55_load fc55_size fc55_zero fc56_load fc56_size fc56_zero fc57_load fc57_size fc57_zero fc57_all fc57_o0 fc57_f0 fc57_p0 fc57_o1 fc57_f1 fc57_p1 fc58_load fc58_size fc58_zero fc58_all fc58_o0 fc58_f0 fc58_p0 fc58_o1 fc58_f1 fc58_p1 fc59_load fc59_size fc59_zero fc60_load fc60_size fc60_zero fc60_all fc60_o0 fc60_f0 fc60_p0 fc60_o1 fc60_f1 fc60_p1 fc61_load fc61_size fc61_zero fc62_load fc62_size fc62_zero fc63_load fc63_size fc63_zero fc63_all fc63_o0 fc63_f0 fc63_p0 fc63_o1 fc63_f1 fc63_p1 fc63_o2 fc63_f2 fc63_p2 fc63_o3 fc63_f3 fc63_p3 fc64_load fc64_size fc64_zero fc64_all fc64_o0 fc64_f0 fc64_p0 fc64_o1 fc64_f1 fc64_p1 fc64_o2 fc64_f2 fc64_p2 fc64_o3 fc64_f3 fc64_p3 fc65_load fc65_size fc65_zero fc66_load fc66_size fc66_zero fc66_all fc66_o0 fc66_f0 fc66_p0 fc66_o1 fc66_f1 fc66_p1 fc66_o2 fc66_f2 fc66_p2 fc66_o3 fc66_f3 fc66_p3 fc67_load fc67_size fc67_zero fc68_load fc68_size fc68_zero fc69_load fc69_size fc69_zero fc70_load fc70_size fc70_zero fc70_sl fc70_arr fc70_app fc70_z1 fc71_load fc71_size fc71_zero fc72_load fc72_size fc72_zero fc73_load fc73_size fc73_zero fc74_load fc74_size fc74_zero fc75_load fc75_size fc75_zero fc76_load fc76_size fc76_zero fc76_arr fc76_sl fc76_all fc76_p0 fc76_p1 fc76_p2 fc76_p3 fc76_p4 fc77_load fc77_size fc77_zero fc78_load fc78_size fc78_zero fc78_all fc78_o0 fc78_f0 fc78_p0 fc78_o1 fc78_f1 fc78_p1 fc78_o2 fc78_f2 fc78_p2 fc78_o3 fc78_f3 fc78_p3 fc79_load fc79_size fc79_zero fc79_all fc79_o0 fc79_f0 fc79_p0 fc79_o1 fc79_f1 fc79_p1 fc79_o2 fc79_f2 fc79_p2 fc79_o3 fc79_f3 fc79_p3 fc80_load fc80_size fc80_zero fc80_arr fc80_sl fc80_all fc81_load fc81_size fc81_zero fc81_all fc81_f0 fc81_p0 fc82_load fc82_size fc82_zero fc82_all fc82_f0 fc82_p0 fc83_load fc83_size fc83_zero fc84_load fc84_size fc84_int fc84_isb fc84_u fc84_zero fc85_load fc85_size fc85_int fc85_isb fc85_u fc85_zero fc86_load fc86_size fc86_int fc86_isb fc86_u fc86_zero fc87_load fc87_size fc87_zero fc88_load fc88_size fc88_zero fc88_sl fc89_load fc89_size fc89_int fc89_isb fc89_u fc89_zero fc90_load fc90_size fc90_int fc90_isb fc90_u fc90_zero fc91_load fc91_size fc91_zero fc91_all fc91_o0 fc91_f0 fc91_p0 fc91_o1 fc91_f1 fc91_p1 fc91_o2 fc91_f2 fc91_p2 fc91_o3 fc91_f3 fc91_p3 fc91_o4 fc91_f4 fc91_p4 fc91_o5 fc91_f5 fc91_p5 fc91_o6 fc91_f6 fc91_p6 fc91_o7 fc91_f7 fc91_p7 fc91_o8 fc91_f8 fc91_p8 fc91_o9 fc91_f9 fc91_p9 fc91_o10 fc91_f10 fc91_p10 fc92_load fc92_size fc92_zero fc92_all fc92_o0 fc92_f0 fc92_p0 fc92_o1 fc92_f1 fc92_p1 fc92_o2 fc92_f2 fc92_p2 fc92_o3 fc92_f3 fc92_p3 fc92_o4 fc92_f4 fc92_p4 fc92_o5 fc92_f5 fc92_p5 fc92_o6 fc92_f6 fc92_p6 fc92_o7 fc92_f7 fc92_p7 fc92_o8 fc92_f8 fc92_p8 fc92_o9 fc92_f9 fc92_p9 fc92_o10 fc92_f10 fc92_p10
end Go.Proofs.Ytnocfipolefnaaa
