/- The closed facts on the types of this seat's program, each by the kernel. Written by program. -/
import Derived.Test.YtffemhhfflpdjaaAm10
import Derived.Test.YtffemhhfflpdjaaRows
namespace Go.Proofs.Ytffemhhfflpdjaa
open Go.Am
theorem fc1_load : loadT Try.prog 1 = some (1, false) := by kernel_rfl
theorem fc1_size : tySize Try.prog 1 = some 1 := by kernel_rfl
theorem fc1_zero : zeroT Try.prog 1 = some [.nilFunc] := by kernel_rfl
theorem fc2_load : loadT Try.prog 2 = some (1, false) := by kernel_rfl
theorem fc2_size : tySize Try.prog 2 = some 1 := by kernel_rfl
theorem fc2_int : intT Try.prog 2 = some .i64 := by kernel_rfl
theorem fc2_isb : isBoolT Try.prog 2 = false := by kernel_rfl
theorem fc2_u : Try.prog.underlying 2 = some (.int .i64) := by kernel_rfl
theorem fc2_zero : zeroT Try.prog 2 = some [.int .i64 0] := by kernel_rfl
theorem fc3_load : loadT Try.prog 3 = some (1, false) := by kernel_rfl
theorem fc3_size : tySize Try.prog 3 = some 1 := by kernel_rfl
theorem fc3_int : intT Try.prog 3 = some .i64 := by kernel_rfl
theorem fc3_isb : isBoolT Try.prog 3 = false := by kernel_rfl
theorem fc3_u : Try.prog.underlying 3 = some (.int .i64) := by kernel_rfl
theorem fc3_zero : zeroT Try.prog 3 = some [.int .i64 0] := by kernel_rfl
theorem fc4_load : loadT Try.prog 4 = some (1, false) := by kernel_rfl
theorem fc4_size : tySize Try.prog 4 = some 1 := by kernel_rfl
theorem fc4_isb : isBoolT Try.prog 4 = true := by kernel_rfl
theorem fc4_zero : zeroT Try.prog 4 = some [.bool false] := by kernel_rfl
theorem fc5_load : loadT Try.prog 5 = some (1, false) := by kernel_rfl
theorem fc5_size : tySize Try.prog 5 = some 1 := by kernel_rfl
theorem fc5_int : intT Try.prog 5 = some .u8 := by kernel_rfl
theorem fc5_isb : isBoolT Try.prog 5 = false := by kernel_rfl
theorem fc5_u : Try.prog.underlying 5 = some (.int .u8) := by kernel_rfl
theorem fc5_zero : zeroT Try.prog 5 = some [.int .u8 0] := by kernel_rfl
theorem fc6_load : loadT Try.prog 6 = some (1, false) := by kernel_rfl
theorem fc6_size : tySize Try.prog 6 = some 1 := by kernel_rfl
theorem fc6_int : intT Try.prog 6 = some .u8 := by kernel_rfl
theorem fc6_isb : isBoolT Try.prog 6 = false := by kernel_rfl
theorem fc6_u : Try.prog.underlying 6 = some (.int .u8) := by kernel_rfl
theorem fc6_zero : zeroT Try.prog 6 = some [.int .u8 0] := by kernel_rfl
theorem fc7_load : loadT Try.prog 7 = some (4, true) := by kernel_rfl
theorem fc7_size : tySize Try.prog 7 = some 4 := by kernel_rfl
theorem fc7_zero : zeroT Try.prog 7 = some [.int .i64 0, .int .i64 0, .bool false, .int .u8 0] := by kernel_rfl
theorem fc7_all : allPlaces Try.prog 7 = true := by kernel_rfl
theorem fc7_o0 : fieldOff Try.prog 7 0 = some 0 := by kernel_rfl
theorem fc7_f0 : fieldT Try.prog 7 0 = some (0, 1, false) := by kernel_rfl
theorem fc7_p0 : placeT Try.prog 7 0 = some (0, 1) := by kernel_rfl
theorem fc7_o1 : fieldOff Try.prog 7 1 = some 1 := by kernel_rfl
theorem fc7_f1 : fieldT Try.prog 7 1 = some (1, 1, false) := by kernel_rfl
theorem fc7_p1 : placeT Try.prog 7 1 = some (1, 1) := by kernel_rfl
theorem fc7_o2 : fieldOff Try.prog 7 2 = some 2 := by kernel_rfl
theorem fc7_f2 : fieldT Try.prog 7 2 = some (2, 1, false) := by kernel_rfl
theorem fc7_p2 : placeT Try.prog 7 2 = some (2, 1) := by kernel_rfl
theorem fc7_o3 : fieldOff Try.prog 7 3 = some 3 := by kernel_rfl
theorem fc7_f3 : fieldT Try.prog 7 3 = some (3, 1, false) := by kernel_rfl
theorem fc7_p3 : placeT Try.prog 7 3 = some (3, 1) := by kernel_rfl
theorem fc8_load : loadT Try.prog 8 = some (4, true) := by kernel_rfl
theorem fc8_size : tySize Try.prog 8 = some 4 := by kernel_rfl
theorem fc8_zero : zeroT Try.prog 8 = some [.int .i64 0, .int .i64 0, .bool false, .int .u8 0] := by kernel_rfl
theorem fc8_all : allPlaces Try.prog 8 = true := by kernel_rfl
theorem fc8_o0 : fieldOff Try.prog 8 0 = some 0 := by kernel_rfl
theorem fc8_f0 : fieldT Try.prog 8 0 = some (0, 1, false) := by kernel_rfl
theorem fc8_p0 : placeT Try.prog 8 0 = some (0, 1) := by kernel_rfl
theorem fc8_o1 : fieldOff Try.prog 8 1 = some 1 := by kernel_rfl
theorem fc8_f1 : fieldT Try.prog 8 1 = some (1, 1, false) := by kernel_rfl
theorem fc8_p1 : placeT Try.prog 8 1 = some (1, 1) := by kernel_rfl
theorem fc8_o2 : fieldOff Try.prog 8 2 = some 2 := by kernel_rfl
theorem fc8_f2 : fieldT Try.prog 8 2 = some (2, 1, false) := by kernel_rfl
theorem fc8_p2 : placeT Try.prog 8 2 = some (2, 1) := by kernel_rfl
theorem fc8_o3 : fieldOff Try.prog 8 3 = some 3 := by kernel_rfl
theorem fc8_f3 : fieldT Try.prog 8 3 = some (3, 1, false) := by kernel_rfl
theorem fc8_p3 : placeT Try.prog 8 3 = some (3, 1) := by kernel_rfl
theorem fc9_load : loadT Try.prog 9 = some (1, false) := by kernel_rfl
theorem fc9_size : tySize Try.prog 9 = some 1 := by kernel_rfl
theorem fc9_iss : isStrT Try.prog 9 = true := by kernel_rfl
theorem fc9_zero : zeroT Try.prog 9 = some [.string ⟨#[]⟩] := by kernel_rfl
theorem fc10_load : loadT Try.prog 10 = some (1, false) := by kernel_rfl
theorem fc10_size : tySize Try.prog 10 = some 1 := by kernel_rfl
theorem fc10_iss : isStrT Try.prog 10 = true := by kernel_rfl
theorem fc10_zero : zeroT Try.prog 10 = some [.string ⟨#[]⟩] := by kernel_rfl
theorem fc11_load : loadT Try.prog 11 = some (1, false) := by kernel_rfl
theorem fc11_size : tySize Try.prog 11 = some 1 := by kernel_rfl
theorem fc11_iss : isStrT Try.prog 11 = true := by kernel_rfl
theorem fc11_zero : zeroT Try.prog 11 = some [.string ⟨#[]⟩] := by kernel_rfl
theorem fc12_load : loadT Try.prog 12 = some (1, false) := by kernel_rfl
theorem fc12_size : tySize Try.prog 12 = some 1 := by kernel_rfl
theorem fc12_int : intT Try.prog 12 = some .u64 := by kernel_rfl
theorem fc12_isb : isBoolT Try.prog 12 = false := by kernel_rfl
theorem fc12_u : Try.prog.underlying 12 = some (.int .u64) := by kernel_rfl
theorem fc12_zero : zeroT Try.prog 12 = some [.int .u64 0] := by kernel_rfl
theorem fc13_load : loadT Try.prog 13 = some (2, true) := by kernel_rfl
theorem fc13_size : tySize Try.prog 13 = some 2 := by kernel_rfl
theorem fc13_zero : zeroT Try.prog 13 = some [.string ⟨#[]⟩, .int .u64 0] := by kernel_rfl
theorem fc13_all : allPlaces Try.prog 13 = true := by kernel_rfl
theorem fc13_o0 : fieldOff Try.prog 13 0 = some 0 := by kernel_rfl
theorem fc13_f0 : fieldT Try.prog 13 0 = some (0, 1, false) := by kernel_rfl
theorem fc13_p0 : placeT Try.prog 13 0 = some (0, 1) := by kernel_rfl
theorem fc13_o1 : fieldOff Try.prog 13 1 = some 1 := by kernel_rfl
theorem fc13_f1 : fieldT Try.prog 13 1 = some (1, 1, false) := by kernel_rfl
theorem fc13_p1 : placeT Try.prog 13 1 = some (1, 1) := by kernel_rfl
theorem fc14_load : loadT Try.prog 14 = some (2, true) := by kernel_rfl
theorem fc14_size : tySize Try.prog 14 = some 2 := by kernel_rfl
theorem fc14_zero : zeroT Try.prog 14 = some [.string ⟨#[]⟩, .int .u64 0] := by kernel_rfl
theorem fc14_all : allPlaces Try.prog 14 = true := by kernel_rfl
theorem fc14_o0 : fieldOff Try.prog 14 0 = some 0 := by kernel_rfl
theorem fc14_f0 : fieldT Try.prog 14 0 = some (0, 1, false) := by kernel_rfl
theorem fc14_p0 : placeT Try.prog 14 0 = some (0, 1) := by kernel_rfl
theorem fc14_o1 : fieldOff Try.prog 14 1 = some 1 := by kernel_rfl
theorem fc14_f1 : fieldT Try.prog 14 1 = some (1, 1, false) := by kernel_rfl
theorem fc14_p1 : placeT Try.prog 14 1 = some (1, 1) := by kernel_rfl
theorem fc15_load : loadT Try.prog 15 = some (1, false) := by kernel_rfl
theorem fc15_size : tySize Try.prog 15 = some 1 := by kernel_rfl
theorem fc15_zero : zeroT Try.prog 15 = some [.pointer none] := by kernel_rfl
theorem fc15_sl : sliceT Try.prog 15 = none := by kernel_rfl
theorem fc16_load : loadT Try.prog 16 = some (1, false) := by kernel_rfl
theorem fc16_size : tySize Try.prog 16 = some 1 := by kernel_rfl
theorem fc16_zero : zeroT Try.prog 16 = some [.pointer none] := by kernel_rfl
theorem fc16_sl : sliceT Try.prog 16 = none := by kernel_rfl
theorem fc17_load : loadT Try.prog 17 = some (1, false) := by kernel_rfl
theorem fc17_size : tySize Try.prog 17 = some 1 := by kernel_rfl
theorem fc17_zero : zeroT Try.prog 17 = some [.pointer none] := by kernel_rfl
theorem fc17_sl : sliceT Try.prog 17 = none := by kernel_rfl
theorem fc18_load : loadT Try.prog 18 = some (1, true) := by kernel_rfl
theorem fc18_size : tySize Try.prog 18 = some 1 := by kernel_rfl
theorem fc18_zero : zeroT Try.prog 18 = some [.pointer none] := by kernel_rfl
theorem fc18_all : allPlaces Try.prog 18 = true := by kernel_rfl
theorem fc18_o0 : fieldOff Try.prog 18 0 = some 0 := by kernel_rfl
theorem fc18_f0 : fieldT Try.prog 18 0 = some (0, 1, false) := by kernel_rfl
theorem fc18_p0 : placeT Try.prog 18 0 = some (0, 1) := by kernel_rfl
theorem fc19_load : loadT Try.prog 19 = some (1, true) := by kernel_rfl
theorem fc19_size : tySize Try.prog 19 = some 1 := by kernel_rfl
theorem fc19_zero : zeroT Try.prog 19 = some [.pointer none] := by kernel_rfl
theorem fc19_all : allPlaces Try.prog 19 = true := by kernel_rfl
theorem fc19_o0 : fieldOff Try.prog 19 0 = some 0 := by kernel_rfl
theorem fc19_f0 : fieldT Try.prog 19 0 = some (0, 1, false) := by kernel_rfl
theorem fc19_p0 : placeT Try.prog 19 0 = some (0, 1) := by kernel_rfl
theorem fc21_load : loadT Try.prog 21 = some (1, false) := by kernel_rfl
theorem fc21_size : tySize Try.prog 21 = some 1 := by kernel_rfl
theorem fc21_int : intT Try.prog 21 = some .i32 := by kernel_rfl
theorem fc21_isb : isBoolT Try.prog 21 = false := by kernel_rfl
theorem fc21_u : Try.prog.underlying 21 = some (.int .i32) := by kernel_rfl
theorem fc21_zero : zeroT Try.prog 21 = some [.int .i32 0] := by kernel_rfl
theorem fc22_load : loadT Try.prog 22 = some (1, false) := by kernel_rfl
theorem fc22_size : tySize Try.prog 22 = some 1 := by kernel_rfl
theorem fc22_zero : zeroT Try.prog 22 = some [.slice none 0 0] := by kernel_rfl
theorem fc22_sl : sliceT Try.prog 22 = some (39, 4) := by kernel_rfl
theorem fc22_arr : arrT Try.prog 22 = none := by kernel_rfl
theorem fc22_app : appT Try.prog 22 = some (39, 4, 32) := by kernel_rfl
theorem fc22_z1 : zeroNT Try.prog 22 = some (39, [.int .i64 0, .int .i64 0, .int .i64 0, .int .i64 0], 32) := by kernel_rfl
theorem fc23_load : loadT Try.prog 23 = some (1, false) := by kernel_rfl
theorem fc23_size : tySize Try.prog 23 = some 1 := by kernel_rfl
theorem fc23_zero : zeroT Try.prog 23 = some [.nilFunc] := by kernel_rfl
theorem fc24_load : loadT Try.prog 24 = some (1, false) := by kernel_rfl
theorem fc24_size : tySize Try.prog 24 = some 1 := by kernel_rfl
theorem fc24_zero : zeroT Try.prog 24 = some [.nilFunc] := by kernel_rfl
theorem fc25_load : loadT Try.prog 25 = some (1, false) := by kernel_rfl
theorem fc25_size : tySize Try.prog 25 = some 1 := by kernel_rfl
theorem fc25_zero : zeroT Try.prog 25 = some [.slice none 0 0] := by kernel_rfl
theorem fc25_sl : sliceT Try.prog 25 = some (44, 4) := by kernel_rfl
theorem fc25_arr : arrT Try.prog 25 = none := by kernel_rfl
theorem fc25_app : appT Try.prog 25 = some (44, 4, 32) := by kernel_rfl
theorem fc25_z1 : zeroNT Try.prog 25 = some (44, [.int .i64 0, .int .i64 0, .int .i64 0, .int .i64 0], 32) := by kernel_rfl
theorem fc26_load : loadT Try.prog 26 = some (1, false) := by kernel_rfl
theorem fc26_size : tySize Try.prog 26 = some 1 := by kernel_rfl
theorem fc26_zero : zeroT Try.prog 26 = some [.nilFunc] := by kernel_rfl
theorem fc27_load : loadT Try.prog 27 = some (1, false) := by kernel_rfl
theorem fc27_size : tySize Try.prog 27 = some 1 := by kernel_rfl
theorem fc27_zero : zeroT Try.prog 27 = some [.nilFunc] := by kernel_rfl
theorem fc28_load : loadT Try.prog 28 = some (1, false) := by kernel_rfl
theorem fc28_size : tySize Try.prog 28 = some 1 := by kernel_rfl
theorem fc28_zero : zeroT Try.prog 28 = some [.nilFunc] := by kernel_rfl
theorem fc29_load : loadT Try.prog 29 = some (1, false) := by kernel_rfl
theorem fc29_size : tySize Try.prog 29 = some 1 := by kernel_rfl
theorem fc29_zero : zeroT Try.prog 29 = some [.slice none 0 0] := by kernel_rfl
theorem fc29_sl : sliceT Try.prog 29 = some (72, 4) := by kernel_rfl
theorem fc29_arr : arrT Try.prog 29 = none := by kernel_rfl
theorem fc29_app : appT Try.prog 29 = some (72, 4, 32) := by kernel_rfl
theorem fc29_z1 : zeroNT Try.prog 29 = some (72, [.int .i64 0, .int .i64 0, .int .i64 0, .bool false], 32) := by kernel_rfl
theorem fc30_load : loadT Try.prog 30 = some (1, false) := by kernel_rfl
theorem fc30_size : tySize Try.prog 30 = some 1 := by kernel_rfl
theorem fc30_zero : zeroT Try.prog 30 = some [.nilFunc] := by kernel_rfl
theorem fc31_load : loadT Try.prog 31 = some (1, false) := by kernel_rfl
theorem fc31_size : tySize Try.prog 31 = some 1 := by kernel_rfl
theorem fc31_zero : zeroT Try.prog 31 = some [.slice none 0 0] := by kernel_rfl
theorem fc31_sl : sliceT Try.prog 31 = some (70, 4) := by kernel_rfl
theorem fc31_arr : arrT Try.prog 31 = none := by kernel_rfl
theorem fc31_app : appT Try.prog 31 = some (70, 4, 32) := by kernel_rfl
theorem fc31_z1 : zeroNT Try.prog 31 = some (70, [.int .i64 0, .int .i64 0, .int .i64 0, .bool false], 32) := by kernel_rfl
theorem fc33_load : loadT Try.prog 33 = some (1, false) := by kernel_rfl
theorem fc33_size : tySize Try.prog 33 = some 1 := by kernel_rfl
theorem fc33_zero : zeroT Try.prog 33 = some [.nilFunc] := by kernel_rfl
theorem fc34_load : loadT Try.prog 34 = some (1, false) := by kernel_rfl
theorem fc34_size : tySize Try.prog 34 = some 1 := by kernel_rfl
theorem fc34_zero : zeroT Try.prog 34 = some [.nilFunc] := by kernel_rfl
theorem fc35_load : loadT Try.prog 35 = some (1, false) := by kernel_rfl
theorem fc35_size : tySize Try.prog 35 = some 1 := by kernel_rfl
theorem fc35_zero : zeroT Try.prog 35 = some [.nilFunc] := by kernel_rfl
theorem fc36_load : loadT Try.prog 36 = some (1, false) := by kernel_rfl
theorem fc36_size : tySize Try.prog 36 = some 1 := by kernel_rfl
theorem fc36_zero : zeroT Try.prog 36 = some [.nilFunc] := by kernel_rfl
theorem fc37_load : loadT Try.prog 37 = some (1, false) := by kernel_rfl
theorem fc37_size : tySize Try.prog 37 = some 1 := by kernel_rfl
theorem fc37_zero : zeroT Try.prog 37 = some [.nilFunc] := by kernel_rfl
theorem fc38_load : loadT Try.prog 38 = some (4, true) := by kernel_rfl
theorem fc38_size : tySize Try.prog 38 = some 4 := by kernel_rfl
theorem fc38_zero : zeroT Try.prog 38 = some [.int .i64 0, .int .i64 0, .int .i64 0, .int .i64 0] := by kernel_rfl
theorem fc38_all : allPlaces Try.prog 38 = true := by kernel_rfl
theorem fc38_o0 : fieldOff Try.prog 38 0 = some 0 := by kernel_rfl
theorem fc38_f0 : fieldT Try.prog 38 0 = some (0, 1, false) := by kernel_rfl
theorem fc38_p0 : placeT Try.prog 38 0 = some (0, 1) := by kernel_rfl
theorem fc38_o1 : fieldOff Try.prog 38 1 = some 1 := by kernel_rfl
theorem fc38_f1 : fieldT Try.prog 38 1 = some (1, 1, false) := by kernel_rfl
theorem fc38_p1 : placeT Try.prog 38 1 = some (1, 1) := by kernel_rfl
theorem fc38_o2 : fieldOff Try.prog 38 2 = some 2 := by kernel_rfl
theorem fc38_f2 : fieldT Try.prog 38 2 = some (2, 1, false) := by kernel_rfl
theorem fc38_p2 : placeT Try.prog 38 2 = some (2, 1) := by kernel_rfl
theorem fc38_o3 : fieldOff Try.prog 38 3 = some 3 := by kernel_rfl
theorem fc38_f3 : fieldT Try.prog 38 3 = some (3, 1, false) := by kernel_rfl
theorem fc38_p3 : placeT Try.prog 38 3 = some (3, 1) := by kernel_rfl
theorem fc39_load : loadT Try.prog 39 = some (4, true) := by kernel_rfl
theorem fc39_size : tySize Try.prog 39 = some 4 := by kernel_rfl
theorem fc39_zero : zeroT Try.prog 39 = some [.int .i64 0, .int .i64 0, .int .i64 0, .int .i64 0] := by kernel_rfl
theorem fc39_all : allPlaces Try.prog 39 = true := by kernel_rfl
theorem fc39_o0 : fieldOff Try.prog 39 0 = some 0 := by kernel_rfl
theorem fc39_f0 : fieldT Try.prog 39 0 = some (0, 1, false) := by kernel_rfl
theorem fc39_p0 : placeT Try.prog 39 0 = some (0, 1) := by kernel_rfl
theorem fc39_o1 : fieldOff Try.prog 39 1 = some 1 := by kernel_rfl
theorem fc39_f1 : fieldT Try.prog 39 1 = some (1, 1, false) := by kernel_rfl
theorem fc39_p1 : placeT Try.prog 39 1 = some (1, 1) := by kernel_rfl
theorem fc39_o2 : fieldOff Try.prog 39 2 = some 2 := by kernel_rfl
theorem fc39_f2 : fieldT Try.prog 39 2 = some (2, 1, false) := by kernel_rfl
theorem fc39_p2 : placeT Try.prog 39 2 = some (2, 1) := by kernel_rfl
theorem fc39_o3 : fieldOff Try.prog 39 3 = some 3 := by kernel_rfl
theorem fc39_f3 : fieldT Try.prog 39 3 = some (3, 1, false) := by kernel_rfl
theorem fc39_p3 : placeT Try.prog 39 3 = some (3, 1) := by kernel_rfl
theorem fc40_load : loadT Try.prog 40 = some (1, false) := by kernel_rfl
theorem fc40_size : tySize Try.prog 40 = some 1 := by kernel_rfl
theorem fc40_zero : zeroT Try.prog 40 = some [.slice none 0 0] := by kernel_rfl
theorem fc40_sl : sliceT Try.prog 40 = some (57, 3) := by kernel_rfl
theorem fc40_arr : arrT Try.prog 40 = none := by kernel_rfl
theorem fc40_app : appT Try.prog 40 = some (57, 3, 24) := by kernel_rfl
theorem fc40_z1 : zeroNT Try.prog 40 = some (57, [.int .i64 0, .int .i64 0, .int .i64 0], 24) := by kernel_rfl
theorem fc41_load : loadT Try.prog 41 = some (1, false) := by kernel_rfl
theorem fc41_size : tySize Try.prog 41 = some 1 := by kernel_rfl
theorem fc41_zero : zeroT Try.prog 41 = some [.nilFunc] := by kernel_rfl
theorem fc43_load : loadT Try.prog 43 = some (1, false) := by kernel_rfl
theorem fc43_size : tySize Try.prog 43 = some 1 := by kernel_rfl
theorem fc43_zero : zeroT Try.prog 43 = some [.nilFunc] := by kernel_rfl
theorem fc44_load : loadT Try.prog 44 = some (4, true) := by kernel_rfl
theorem fc44_size : tySize Try.prog 44 = some 4 := by kernel_rfl
theorem fc44_zero : zeroT Try.prog 44 = some [.int .i64 0, .int .i64 0, .int .i64 0, .int .i64 0] := by kernel_rfl
theorem fc44_all : allPlaces Try.prog 44 = true := by kernel_rfl
theorem fc44_o0 : fieldOff Try.prog 44 0 = some 0 := by kernel_rfl
theorem fc44_f0 : fieldT Try.prog 44 0 = some (0, 1, false) := by kernel_rfl
theorem fc44_p0 : placeT Try.prog 44 0 = some (0, 1) := by kernel_rfl
theorem fc44_o1 : fieldOff Try.prog 44 1 = some 1 := by kernel_rfl
theorem fc44_f1 : fieldT Try.prog 44 1 = some (1, 1, false) := by kernel_rfl
theorem fc44_p1 : placeT Try.prog 44 1 = some (1, 1) := by kernel_rfl
theorem fc44_o2 : fieldOff Try.prog 44 2 = some 2 := by kernel_rfl
theorem fc44_f2 : fieldT Try.prog 44 2 = some (2, 1, false) := by kernel_rfl
theorem fc44_p2 : placeT Try.prog 44 2 = some (2, 1) := by kernel_rfl
theorem fc44_o3 : fieldOff Try.prog 44 3 = some 3 := by kernel_rfl
theorem fc44_f3 : fieldT Try.prog 44 3 = some (3, 1, false) := by kernel_rfl
theorem fc44_p3 : placeT Try.prog 44 3 = some (3, 1) := by kernel_rfl
theorem fc45_load : loadT Try.prog 45 = some (1, false) := by kernel_rfl
theorem fc45_size : tySize Try.prog 45 = some 1 := by kernel_rfl
theorem fc45_zero : zeroT Try.prog 45 = some [.nilFunc] := by kernel_rfl
theorem fc46_load : loadT Try.prog 46 = some (1, false) := by kernel_rfl
theorem fc46_size : tySize Try.prog 46 = some 1 := by kernel_rfl
theorem fc46_zero : zeroT Try.prog 46 = some [.slice none 0 0] := by kernel_rfl
theorem fc46_sl : sliceT Try.prog 46 = some (59, 3) := by kernel_rfl
theorem fc46_arr : arrT Try.prog 46 = none := by kernel_rfl
theorem fc46_app : appT Try.prog 46 = some (59, 3, 24) := by kernel_rfl
theorem fc46_z1 : zeroNT Try.prog 46 = some (59, [.int .i64 0, .int .i64 0, .int .i64 0], 24) := by kernel_rfl
theorem fc47_load : loadT Try.prog 47 = some (1, false) := by kernel_rfl
theorem fc47_size : tySize Try.prog 47 = some 1 := by kernel_rfl
theorem fc47_zero : zeroT Try.prog 47 = some [.nilFunc] := by kernel_rfl
theorem fc48_load : loadT Try.prog 48 = some (1, false) := by kernel_rfl
theorem fc48_size : tySize Try.prog 48 = some 1 := by kernel_rfl
theorem fc48_zero : zeroT Try.prog 48 = some [.nilFunc] := by kernel_rfl
theorem fc49_load : loadT Try.prog 49 = some (1, false) := by kernel_rfl
theorem fc49_size : tySize Try.prog 49 = some 1 := by kernel_rfl
theorem fc49_zero : zeroT Try.prog 49 = some [.nilFunc] := by kernel_rfl
theorem fc50_load : loadT Try.prog 50 = some (1, false) := by kernel_rfl
theorem fc50_size : tySize Try.prog 50 = some 1 := by kernel_rfl
theorem fc50_zero : zeroT Try.prog 50 = some [.slice none 0 0] := by kernel_rfl
theorem fc50_sl : sliceT Try.prog 50 = some (3, 1) := by kernel_rfl
theorem fc50_arr : arrT Try.prog 50 = none := by kernel_rfl
theorem fc50_app : appT Try.prog 50 = some (3, 1, 8) := by kernel_rfl
theorem fc50_z1 : zeroNT Try.prog 50 = some (3, [.int .i64 0], 8) := by kernel_rfl
theorem fc52_load : loadT Try.prog 52 = some (1, false) := by kernel_rfl
theorem fc52_size : tySize Try.prog 52 = some 1 := by kernel_rfl
theorem fc52_zero : zeroT Try.prog 52 = some [.nilFunc] := by kernel_rfl
theorem fc53_load : loadT Try.prog 53 = some (1, false) := by kernel_rfl
theorem fc53_size : tySize Try.prog 53 = some 1 := by kernel_rfl
theorem fc53_zero : zeroT Try.prog 53 = some [.nilFunc] := by kernel_rfl
theorem fc54_load : loadT Try.prog 54 = some (1, false) := by kernel_rfl
theorem fc54_size : tySize Try.prog 54 = some 1 := by kernel_rfl
theorem fc54_zero : zeroT Try.prog 54 = some [.nilFunc] := by kernel_rfl
theorem fc55_load : loadT Try.prog 55 = some (1, false) := by kernel_rfl
theorem fc55_size : tySize Try.prog 55 = some 1 := by kernel_rfl
theorem fc55_zero : zeroT Try.prog 55 = some [.nilFunc] := by kernel_rfl
theorem fc56_load : loadT Try.prog 56 = some (3, true) := by kernel_rfl
theorem fc56_size : tySize Try.prog 56 = some 3 := by kernel_rfl
theorem fc56_zero : zeroT Try.prog 56 = some [.int .i64 0, .int .i64 0, .int .i64 0] := by kernel_rfl
theorem fc56_all : allPlaces Try.prog 56 = true := by kernel_rfl
theorem fc56_o0 : fieldOff Try.prog 56 0 = some 0 := by kernel_rfl
theorem fc56_f0 : fieldT Try.prog 56 0 = some (0, 1, false) := by kernel_rfl
theorem fc56_p0 : placeT Try.prog 56 0 = some (0, 1) := by kernel_rfl
theorem fc56_o1 : fieldOff Try.prog 56 1 = some 1 := by kernel_rfl
theorem fc56_f1 : fieldT Try.prog 56 1 = some (1, 1, false) := by kernel_rfl
theorem fc56_p1 : placeT Try.prog 56 1 = some (1, 1) := by kernel_rfl
theorem fc56_o2 : fieldOff Try.prog 56 2 = some 2 := by kernel_rfl
theorem fc56_f2 : fieldT Try.prog 56 2 = some (2, 1, false) := by kernel_rfl
theorem fc56_p2 : placeT Try.prog 56 2 = some (2, 1) := by kernel_rfl
theorem fc57_load : loadT Try.prog 57 = some (3, true) := by kernel_rfl
theorem fc57_size : tySize Try.prog 57 = some 3 := by kernel_rfl
theorem fc57_zero : zeroT Try.prog 57 = some [.int .i64 0, .int .i64 0, .int .i64 0] := by kernel_rfl
theorem fc57_all : allPlaces Try.prog 57 = true := by kernel_rfl
theorem fc57_o0 : fieldOff Try.prog 57 0 = some 0 := by kernel_rfl
theorem fc57_f0 : fieldT Try.prog 57 0 = some (0, 1, false) := by kernel_rfl
theorem fc57_p0 : placeT Try.prog 57 0 = some (0, 1) := by kernel_rfl
theorem fc57_o1 : fieldOff Try.prog 57 1 = some 1 := by kernel_rfl
theorem fc57_f1 : fieldT Try.prog 57 1 = some (1, 1, false) := by kernel_rfl
theorem fc57_p1 : placeT Try.prog 57 1 = some (1, 1) := by kernel_rfl
theorem fc57_o2 : fieldOff Try.prog 57 2 = some 2 := by kernel_rfl
theorem fc57_f2 : fieldT Try.prog 57 2 = some (2, 1, false) := by kernel_rfl
theorem fc57_p2 : placeT Try.prog 57 2 = some (2, 1) := by kernel_rfl
theorem fc58_load : loadT Try.prog 58 = some (1, false) := by kernel_rfl
theorem fc58_size : tySize Try.prog 58 = some 1 := by kernel_rfl
theorem fc58_zero : zeroT Try.prog 58 = some [.nilFunc] := by kernel_rfl
theorem fc59_load : loadT Try.prog 59 = some (3, true) := by kernel_rfl
theorem fc59_size : tySize Try.prog 59 = some 3 := by kernel_rfl
theorem fc59_zero : zeroT Try.prog 59 = some [.int .i64 0, .int .i64 0, .int .i64 0] := by kernel_rfl
theorem fc59_all : allPlaces Try.prog 59 = true := by kernel_rfl
theorem fc59_o0 : fieldOff Try.prog 59 0 = some 0 := by kernel_rfl
theorem fc59_f0 : fieldT Try.prog 59 0 = some (0, 1, false) := by kernel_rfl
theorem fc59_p0 : placeT Try.prog 59 0 = some (0, 1) := by kernel_rfl
theorem fc59_o1 : fieldOff Try.prog 59 1 = some 1 := by kernel_rfl
theorem fc59_f1 : fieldT Try.prog 59 1 = some (1, 1, false) := by kernel_rfl
theorem fc59_p1 : placeT Try.prog 59 1 = some (1, 1) := by kernel_rfl
theorem fc59_o2 : fieldOff Try.prog 59 2 = some 2 := by kernel_rfl
theorem fc59_f2 : fieldT Try.prog 59 2 = some (2, 1, false) := by kernel_rfl
theorem fc59_p2 : placeT Try.prog 59 2 = some (2, 1) := by kernel_rfl
theorem fc60_load : loadT Try.prog 60 = some (1, false) := by kernel_rfl
theorem fc60_size : tySize Try.prog 60 = some 1 := by kernel_rfl
theorem fc60_zero : zeroT Try.prog 60 = some [.nilFunc] := by kernel_rfl
theorem fc61_load : loadT Try.prog 61 = some (1, false) := by kernel_rfl
theorem fc61_size : tySize Try.prog 61 = some 1 := by kernel_rfl
theorem fc61_zero : zeroT Try.prog 61 = some [.nilFunc] := by kernel_rfl
theorem fc62_load : loadT Try.prog 62 = some (1, false) := by kernel_rfl
theorem fc62_size : tySize Try.prog 62 = some 1 := by kernel_rfl
theorem fc62_zero : zeroT Try.prog 62 = some [.nilFunc] := by kernel_rfl
theorem fc63_load : loadT Try.prog 63 = some (1, false) := by kernel_rfl
theorem fc63_size : tySize Try.prog 63 = some 1 := by kernel_rfl
theorem fc63_zero : zeroT Try.prog 63 = some [.nilFunc] := by kernel_rfl
theorem fc64_load : loadT Try.prog 64 = some (1, false) := by kernel_rfl
theorem fc64_size : tySize Try.prog 64 = some 1 := by kernel_rfl
theorem fc64_zero : zeroT Try.prog 64 = some [.nilFunc] := by kernel_rfl
theorem fc65_load : loadT Try.prog 65 = some (1, false) := by kernel_rfl
theorem fc65_size : tySize Try.prog 65 = some 1 := by kernel_rfl
theorem fc65_zero : zeroT Try.prog 65 = some [.nilFunc] := by kernel_rfl
theorem fc66_load : loadT Try.prog 66 = some (1, false) := by kernel_rfl
theorem fc66_size : tySize Try.prog 66 = some 1 := by kernel_rfl
theorem fc66_zero : zeroT Try.prog 66 = some [.nilFunc] := by kernel_rfl
theorem fc67_load : loadT Try.prog 67 = some (1, false) := by kernel_rfl
theorem fc67_size : tySize Try.prog 67 = some 1 := by kernel_rfl
theorem fc67_zero : zeroT Try.prog 67 = some [.nilFunc] := by kernel_rfl
theorem fc68_load : loadT Try.prog 68 = some (1, false) := by kernel_rfl
theorem fc68_size : tySize Try.prog 68 = some 1 := by kernel_rfl
theorem fc68_zero : zeroT Try.prog 68 = some [.nilFunc] := by kernel_rfl
theorem fc69_load : loadT Try.prog 69 = some (4, true) := by kernel_rfl
theorem fc69_size : tySize Try.prog 69 = some 4 := by kernel_rfl
theorem fc69_zero : zeroT Try.prog 69 = some [.int .i64 0, .int .i64 0, .int .i64 0, .bool false] := by kernel_rfl
theorem fc69_all : allPlaces Try.prog 69 = true := by kernel_rfl
theorem fc69_o0 : fieldOff Try.prog 69 0 = some 0 := by kernel_rfl
theorem fc69_f0 : fieldT Try.prog 69 0 = some (0, 1, false) := by kernel_rfl
theorem fc69_p0 : placeT Try.prog 69 0 = some (0, 1) := by kernel_rfl
theorem fc69_o1 : fieldOff Try.prog 69 1 = some 1 := by kernel_rfl
theorem fc69_f1 : fieldT Try.prog 69 1 = some (1, 1, false) := by kernel_rfl
theorem fc69_p1 : placeT Try.prog 69 1 = some (1, 1) := by kernel_rfl
theorem fc69_o2 : fieldOff Try.prog 69 2 = some 2 := by kernel_rfl
theorem fc69_f2 : fieldT Try.prog 69 2 = some (2, 1, false) := by kernel_rfl
theorem fc69_p2 : placeT Try.prog 69 2 = some (2, 1) := by kernel_rfl
theorem fc69_o3 : fieldOff Try.prog 69 3 = some 3 := by kernel_rfl
theorem fc69_f3 : fieldT Try.prog 69 3 = some (3, 1, false) := by kernel_rfl
theorem fc69_p3 : placeT Try.prog 69 3 = some (3, 1) := by kernel_rfl
theorem fc70_load : loadT Try.prog 70 = some (4, true) := by kernel_rfl
theorem fc70_size : tySize Try.prog 70 = some 4 := by kernel_rfl
theorem fc70_zero : zeroT Try.prog 70 = some [.int .i64 0, .int .i64 0, .int .i64 0, .bool false] := by kernel_rfl
theorem fc70_all : allPlaces Try.prog 70 = true := by kernel_rfl
theorem fc70_o0 : fieldOff Try.prog 70 0 = some 0 := by kernel_rfl
theorem fc70_f0 : fieldT Try.prog 70 0 = some (0, 1, false) := by kernel_rfl
theorem fc70_p0 : placeT Try.prog 70 0 = some (0, 1) := by kernel_rfl
theorem fc70_o1 : fieldOff Try.prog 70 1 = some 1 := by kernel_rfl
theorem fc70_f1 : fieldT Try.prog 70 1 = some (1, 1, false) := by kernel_rfl
theorem fc70_p1 : placeT Try.prog 70 1 = some (1, 1) := by kernel_rfl
theorem fc70_o2 : fieldOff Try.prog 70 2 = some 2 := by kernel_rfl
theorem fc70_f2 : fieldT Try.prog 70 2 = some (2, 1, false) := by kernel_rfl
theorem fc70_p2 : placeT Try.prog 70 2 = some (2, 1) := by kernel_rfl
theorem fc70_o3 : fieldOff Try.prog 70 3 = some 3 := by kernel_rfl
theorem fc70_f3 : fieldT Try.prog 70 3 = some (3, 1, false) := by kernel_rfl
theorem fc70_p3 : placeT Try.prog 70 3 = some (3, 1) := by kernel_rfl
theorem fc71_load : loadT Try.prog 71 = some (1, false) := by kernel_rfl
theorem fc71_size : tySize Try.prog 71 = some 1 := by kernel_rfl
theorem fc71_zero : zeroT Try.prog 71 = some [.nilFunc] := by kernel_rfl
theorem fc72_load : loadT Try.prog 72 = some (4, true) := by kernel_rfl
theorem fc72_size : tySize Try.prog 72 = some 4 := by kernel_rfl
theorem fc72_zero : zeroT Try.prog 72 = some [.int .i64 0, .int .i64 0, .int .i64 0, .bool false] := by kernel_rfl
theorem fc72_all : allPlaces Try.prog 72 = true := by kernel_rfl
theorem fc72_o0 : fieldOff Try.prog 72 0 = some 0 := by kernel_rfl
theorem fc72_f0 : fieldT Try.prog 72 0 = some (0, 1, false) := by kernel_rfl
theorem fc72_p0 : placeT Try.prog 72 0 = some (0, 1) := by kernel_rfl
theorem fc72_o1 : fieldOff Try.prog 72 1 = some 1 := by kernel_rfl
theorem fc72_f1 : fieldT Try.prog 72 1 = some (1, 1, false) := by kernel_rfl
theorem fc72_p1 : placeT Try.prog 72 1 = some (1, 1) := by kernel_rfl
theorem fc72_o2 : fieldOff Try.prog 72 2 = some 2 := by kernel_rfl
theorem fc72_f2 : fieldT Try.prog 72 2 = some (2, 1, false) := by kernel_rfl
theorem fc72_p2 : placeT Try.prog 72 2 = some (2, 1) := by kernel_rfl
theorem fc72_o3 : fieldOff Try.prog 72 3 = some 3 := by kernel_rfl
theorem fc72_f3 : fieldT Try.prog 72 3 = some (3, 1, false) := by kernel_rfl
theorem fc72_p3 : placeT Try.prog 72 3 = some (3, 1) := by kernel_rfl
theorem fc73_load : loadT Try.prog 73 = some (1, false) := by kernel_rfl
theorem fc73_size : tySize Try.prog 73 = some 1 := by kernel_rfl
theorem fc73_zero : zeroT Try.prog 73 = some [.nilFunc] := by kernel_rfl
theorem fc74_load : loadT Try.prog 74 = some (1, false) := by kernel_rfl
theorem fc74_size : tySize Try.prog 74 = some 1 := by kernel_rfl
theorem fc74_zero : zeroT Try.prog 74 = some [.nilFunc] := by kernel_rfl
theorem fc75_load : loadT Try.prog 75 = some (1, false) := by kernel_rfl
theorem fc75_size : tySize Try.prog 75 = some 1 := by kernel_rfl
theorem fc75_zero : zeroT Try.prog 75 = some [.nilFunc] := by kernel_rfl
theorem fc76_load : loadT Try.prog 76 = some (1, false) := by kernel_rfl
theorem fc76_size : tySize Try.prog 76 = some 1 := by kernel_rfl
theorem fc76_zero : zeroT Try.prog 76 = some [.nilFunc] := by kernel_rfl
theorem fc77_load : loadT Try.prog 77 = some (1, false) := by kernel_rfl
theorem fc77_size : tySize Try.prog 77 = some 1 := by kernel_rfl
theorem fc77_zero : zeroT Try.prog 77 = some [.nilFunc] := by kernel_rfl
theorem fc78_load : loadT Try.prog 78 = some (1, false) := by kernel_rfl
theorem fc78_size : tySize Try.prog 78 = some 1 := by kernel_rfl
theorem fc78_zero : zeroT Try.prog 78 = some [.nilFunc] := by kernel_rfl
theorem fc79_load : loadT Try.prog 79 = some (1, false) := by kernel_rfl
theorem fc79_size : tySize Try.prog 79 = some 1 := by kernel_rfl
theorem fc79_zero : zeroT Try.prog 79 = some [.nilFunc] := by kernel_rfl
theorem fc80_load : loadT Try.prog 80 = some (1, false) := by kernel_rfl
theorem fc80_size : tySize Try.prog 80 = some 1 := by kernel_rfl
theorem fc80_zero : zeroT Try.prog 80 = some [.nilFunc] := by kernel_rfl
theorem fc81_load : loadT Try.prog 81 = some (1, false) := by kernel_rfl
theorem fc81_size : tySize Try.prog 81 = some 1 := by kernel_rfl
theorem fc81_zero : zeroT Try.prog 81 = some [.nilFunc] := by kernel_rfl
theorem fc82_load : loadT Try.prog 82 = some (1, false) := by kernel_rfl
theorem fc82_size : tySize Try.prog 82 = some 1 := by kernel_rfl
theorem fc82_zero : zeroT Try.prog 82 = some [.nilFunc] := by kernel_rfl
theorem fc83_load : loadT Try.prog 83 = some (1, false) := by kernel_rfl
theorem fc83_size : tySize Try.prog 83 = some 1 := by kernel_rfl
theorem fc83_zero : zeroT Try.prog 83 = some [.nilFunc] := by kernel_rfl
theorem fc84_load : loadT Try.prog 84 = some (1, false) := by kernel_rfl
theorem fc84_size : tySize Try.prog 84 = some 1 := by kernel_rfl
theorem fc84_zero : zeroT Try.prog 84 = some [.nilFunc] := by kernel_rfl
theorem fc85_load : loadT Try.prog 85 = some (1, false) := by kernel_rfl
theorem fc85_size : tySize Try.prog 85 = some 1 := by kernel_rfl
theorem fc85_zero : zeroT Try.prog 85 = some [.nilFunc] := by kernel_rfl
theorem fc86_load : loadT Try.prog 86 = some (1, false) := by kernel_rfl
theorem fc86_size : tySize Try.prog 86 = some 1 := by kernel_rfl
theorem fc86_zero : zeroT Try.prog 86 = some [.nilFunc] := by kernel_rfl
theorem fc87_load : loadT Try.prog 87 = some (1, false) := by kernel_rfl
theorem fc87_size : tySize Try.prog 87 = some 1 := by kernel_rfl
theorem fc87_zero : zeroT Try.prog 87 = some [.nilFunc] := by kernel_rfl
theorem fc88_load : loadT Try.prog 88 = some (1, false) := by kernel_rfl
theorem fc88_size : tySize Try.prog 88 = some 1 := by kernel_rfl
theorem fc88_zero : zeroT Try.prog 88 = some [.nilFunc] := by kernel_rfl
theorem fc89_load : loadT Try.prog 89 = some (1, false) := by kernel_rfl
theorem fc89_size : tySize Try.prog 89 = some 1 := by kernel_rfl
theorem fc89_zero : zeroT Try.prog 89 = some [.nilFunc] := by kernel_rfl
theorem fc90_load : loadT Try.prog 90 = some (1, false) := by kernel_rfl
theorem fc90_size : tySize Try.prog 90 = some 1 := by kernel_rfl
theorem fc90_zero : zeroT Try.prog 90 = some [.nilFunc] := by kernel_rfl
theorem fc91_load : loadT Try.prog 91 = some (1, false) := by kernel_rfl
theorem fc91_size : tySize Try.prog 91 = some 1 := by kernel_rfl
theorem fc91_zero : zeroT Try.prog 91 = some [.nilFunc] := by kernel_rfl
theorem fc92_load : loadT Try.prog 92 = some (1, false) := by kernel_rfl
theorem fc92_size : tySize Try.prog 92 = some 1 := by kernel_rfl
theorem fc92_zero : zeroT Try.prog 92 = some [.nilFunc] := by kernel_rfl
theorem fc93_load : loadT Try.prog 93 = some (1, false) := by kernel_rfl
theorem fc93_size : tySize Try.prog 93 = some 1 := by kernel_rfl
theorem fc93_int : intT Try.prog 93 = some .u64 := by kernel_rfl
theorem fc93_isb : isBoolT Try.prog 93 = false := by kernel_rfl
theorem fc93_u : Try.prog.underlying 93 = some (.int .u64) := by kernel_rfl
theorem fc93_zero : zeroT Try.prog 93 = some [.int .u64 0] := by kernel_rfl
theorem fc94_load : loadT Try.prog 94 = some (1, false) := by kernel_rfl
theorem fc94_size : tySize Try.prog 94 = some 1 := by kernel_rfl
theorem fc94_zero : zeroT Try.prog 94 = some [.nilFunc] := by kernel_rfl
theorem fc95_load : loadT Try.prog 95 = some (1, false) := by kernel_rfl
theorem fc95_size : tySize Try.prog 95 = some 1 := by kernel_rfl
theorem fc95_zero : zeroT Try.prog 95 = some [.nilFunc] := by kernel_rfl
theorem fc96_load : loadT Try.prog 96 = some (4, true) := by kernel_rfl
theorem fc96_size : tySize Try.prog 96 = some 4 := by kernel_rfl
theorem fc96_zero : zeroT Try.prog 96 = some [.pointer none, .pointer none, .pointer none, .string ⟨#[]⟩] := by kernel_rfl
theorem fc96_all : allPlaces Try.prog 96 = true := by kernel_rfl
theorem fc96_o0 : fieldOff Try.prog 96 0 = some 0 := by kernel_rfl
theorem fc96_f0 : fieldT Try.prog 96 0 = some (0, 1, false) := by kernel_rfl
theorem fc96_p0 : placeT Try.prog 96 0 = some (0, 1) := by kernel_rfl
theorem fc96_o1 : fieldOff Try.prog 96 1 = some 1 := by kernel_rfl
theorem fc96_f1 : fieldT Try.prog 96 1 = some (1, 1, false) := by kernel_rfl
theorem fc96_p1 : placeT Try.prog 96 1 = some (1, 1) := by kernel_rfl
theorem fc96_o2 : fieldOff Try.prog 96 2 = some 2 := by kernel_rfl
theorem fc96_f2 : fieldT Try.prog 96 2 = some (2, 1, false) := by kernel_rfl
theorem fc96_p2 : placeT Try.prog 96 2 = some (2, 1) := by kernel_rfl
theorem fc96_o3 : fieldOff Try.prog 96 3 = some 3 := by kernel_rfl
theorem fc96_f3 : fieldT Try.prog 96 3 = some (3, 1, false) := by kernel_rfl
theorem fc96_p3 : placeT Try.prog 96 3 = some (3, 1) := by kernel_rfl
theorem fc97_load : loadT Try.prog 97 = some (4, true) := by kernel_rfl
theorem fc97_size : tySize Try.prog 97 = some 4 := by kernel_rfl
theorem fc97_zero : zeroT Try.prog 97 = some [.pointer none, .pointer none, .pointer none, .string ⟨#[]⟩] := by kernel_rfl
theorem fc97_all : allPlaces Try.prog 97 = true := by kernel_rfl
theorem fc97_o0 : fieldOff Try.prog 97 0 = some 0 := by kernel_rfl
theorem fc97_f0 : fieldT Try.prog 97 0 = some (0, 1, false) := by kernel_rfl
theorem fc97_p0 : placeT Try.prog 97 0 = some (0, 1) := by kernel_rfl
theorem fc97_o1 : fieldOff Try.prog 97 1 = some 1 := by kernel_rfl
theorem fc97_f1 : fieldT Try.prog 97 1 = some (1, 1, false) := by kernel_rfl
theorem fc97_p1 : placeT Try.prog 97 1 = some (1, 1) := by kernel_rfl
theorem fc97_o2 : fieldOff Try.prog 97 2 = some 2 := by kernel_rfl
theorem fc97_f2 : fieldT Try.prog 97 2 = some (2, 1, false) := by kernel_rfl
theorem fc97_p2 : placeT Try.prog 97 2 = some (2, 1) := by kernel_rfl
theorem fc97_o3 : fieldOff Try.prog 97 3 = some 3 := by kernel_rfl
theorem fc97_f3 : fieldT Try.prog 97 3 = some (3, 1, false) := by kernel_rfl
theorem fc97_p3 : placeT Try.prog 97 3 = some (3, 1) := by kernel_rfl
theorem fc98_load : loadT Try.prog 98 = some (0, true) := by kernel_rfl
theorem fc98_size : tySize Try.prog 98 = some 0 := by kernel_rfl
theorem fc98_zero : zeroT Try.prog 98 = some [] := by kernel_rfl
theorem fc98_arr : arrT Try.prog 98 = some (0, 1, false) := by kernel_rfl
theorem fc98_sl : sliceT Try.prog 98 = none := by kernel_rfl
theorem fc98_all : allPlaces Try.prog 98 = true := by kernel_rfl
theorem fc99_load : loadT Try.prog 99 = some (0, true) := by kernel_rfl
theorem fc99_size : tySize Try.prog 99 = some 0 := by kernel_rfl
theorem fc99_zero : zeroT Try.prog 99 = some [] := by kernel_rfl
theorem fc99_all : allPlaces Try.prog 99 = true := by kernel_rfl
theorem fc99_f0 : fieldT Try.prog 99 0 = some (0, 0, true) := by kernel_rfl
theorem fc99_p0 : placeT Try.prog 99 0 = some (0, 0) := by kernel_rfl
theorem fc100_load : loadT Try.prog 100 = some (0, true) := by kernel_rfl
theorem fc100_size : tySize Try.prog 100 = some 0 := by kernel_rfl
theorem fc100_zero : zeroT Try.prog 100 = some [] := by kernel_rfl
theorem fc100_all : allPlaces Try.prog 100 = true := by kernel_rfl
theorem fc100_f0 : fieldT Try.prog 100 0 = some (0, 0, true) := by kernel_rfl
theorem fc100_p0 : placeT Try.prog 100 0 = some (0, 0) := by kernel_rfl
theorem fc101_load : loadT Try.prog 101 = some (1, false) := by kernel_rfl
theorem fc101_size : tySize Try.prog 101 = some 1 := by kernel_rfl
theorem fc101_zero : zeroT Try.prog 101 = some [.nilFunc] := by kernel_rfl
theorem fc102_load : loadT Try.prog 102 = some (1, false) := by kernel_rfl
theorem fc102_size : tySize Try.prog 102 = some 1 := by kernel_rfl
theorem fc102_int : intT Try.prog 102 = some .u32 := by kernel_rfl
theorem fc102_isb : isBoolT Try.prog 102 = false := by kernel_rfl
theorem fc102_u : Try.prog.underlying 102 = some (.int .u32) := by kernel_rfl
theorem fc102_zero : zeroT Try.prog 102 = some [.int .u32 0] := by kernel_rfl
theorem fc103_load : loadT Try.prog 103 = some (1, false) := by kernel_rfl
theorem fc103_size : tySize Try.prog 103 = some 1 := by kernel_rfl
theorem fc103_int : intT Try.prog 103 = some .u8 := by kernel_rfl
theorem fc103_isb : isBoolT Try.prog 103 = false := by kernel_rfl
theorem fc103_u : Try.prog.underlying 103 = some (.int .u8) := by kernel_rfl
theorem fc103_zero : zeroT Try.prog 103 = some [.int .u8 0] := by kernel_rfl
theorem fc104_load : loadT Try.prog 104 = some (1, false) := by kernel_rfl
theorem fc104_size : tySize Try.prog 104 = some 1 := by kernel_rfl
theorem fc104_int : intT Try.prog 104 = some .u8 := by kernel_rfl
theorem fc104_isb : isBoolT Try.prog 104 = false := by kernel_rfl
theorem fc104_u : Try.prog.underlying 104 = some (.int .u8) := by kernel_rfl
theorem fc104_zero : zeroT Try.prog 104 = some [.int .u8 0] := by kernel_rfl
theorem fc105_load : loadT Try.prog 105 = some (1, false) := by kernel_rfl
theorem fc105_size : tySize Try.prog 105 = some 1 := by kernel_rfl
theorem fc105_zero : zeroT Try.prog 105 = some [.nilFunc] := by kernel_rfl
theorem fc106_load : loadT Try.prog 106 = some (1, false) := by kernel_rfl
theorem fc106_size : tySize Try.prog 106 = some 1 := by kernel_rfl
theorem fc106_zero : zeroT Try.prog 106 = some [.pointer none] := by kernel_rfl
theorem fc106_sl : sliceT Try.prog 106 = none := by kernel_rfl
theorem fc107_load : loadT Try.prog 107 = some (1, false) := by kernel_rfl
theorem fc107_size : tySize Try.prog 107 = some 1 := by kernel_rfl
theorem fc107_int : intT Try.prog 107 = some .i32 := by kernel_rfl
theorem fc107_isb : isBoolT Try.prog 107 = false := by kernel_rfl
theorem fc107_u : Try.prog.underlying 107 = some (.int .i32) := by kernel_rfl
theorem fc107_zero : zeroT Try.prog 107 = some [.int .i32 0] := by kernel_rfl
theorem fc108_load : loadT Try.prog 108 = some (1, false) := by kernel_rfl
theorem fc108_size : tySize Try.prog 108 = some 1 := by kernel_rfl
theorem fc108_int : intT Try.prog 108 = some .i32 := by kernel_rfl
theorem fc108_isb : isBoolT Try.prog 108 = false := by kernel_rfl
theorem fc108_u : Try.prog.underlying 108 = some (.int .i32) := by kernel_rfl
theorem fc108_zero : zeroT Try.prog 108 = some [.int .i32 0] := by kernel_rfl
theorem fc109_load : loadT Try.prog 109 = some (11, true) := by kernel_rfl
theorem fc109_size : tySize Try.prog 109 = some 11 := by kernel_rfl
theorem fc109_zero : zeroT Try.prog 109 = some [.int .u64 0, .int .u64 0, .int .u32 0, .int .u8 0, .int .u8 0, .int .u8 0, .int .u8 0, .nilFunc, .pointer none, .int .i32 0, .int .i32 0] := by kernel_rfl
theorem fc109_all : allPlaces Try.prog 109 = true := by kernel_rfl
theorem fc109_o0 : fieldOff Try.prog 109 0 = some 0 := by kernel_rfl
theorem fc109_f0 : fieldT Try.prog 109 0 = some (0, 1, false) := by kernel_rfl
theorem fc109_p0 : placeT Try.prog 109 0 = some (0, 1) := by kernel_rfl
theorem fc109_o1 : fieldOff Try.prog 109 1 = some 1 := by kernel_rfl
theorem fc109_f1 : fieldT Try.prog 109 1 = some (1, 1, false) := by kernel_rfl
theorem fc109_p1 : placeT Try.prog 109 1 = some (1, 1) := by kernel_rfl
theorem fc109_o2 : fieldOff Try.prog 109 2 = some 2 := by kernel_rfl
theorem fc109_f2 : fieldT Try.prog 109 2 = some (2, 1, false) := by kernel_rfl
theorem fc109_p2 : placeT Try.prog 109 2 = some (2, 1) := by kernel_rfl
theorem fc109_o3 : fieldOff Try.prog 109 3 = some 3 := by kernel_rfl
theorem fc109_f3 : fieldT Try.prog 109 3 = some (3, 1, false) := by kernel_rfl
theorem fc109_p3 : placeT Try.prog 109 3 = some (3, 1) := by kernel_rfl
theorem fc109_o4 : fieldOff Try.prog 109 4 = some 4 := by kernel_rfl
theorem fc109_f4 : fieldT Try.prog 109 4 = some (4, 1, false) := by kernel_rfl
theorem fc109_p4 : placeT Try.prog 109 4 = some (4, 1) := by kernel_rfl
theorem fc109_o5 : fieldOff Try.prog 109 5 = some 5 := by kernel_rfl
theorem fc109_f5 : fieldT Try.prog 109 5 = some (5, 1, false) := by kernel_rfl
theorem fc109_p5 : placeT Try.prog 109 5 = some (5, 1) := by kernel_rfl
theorem fc109_o6 : fieldOff Try.prog 109 6 = some 6 := by kernel_rfl
theorem fc109_f6 : fieldT Try.prog 109 6 = some (6, 1, false) := by kernel_rfl
theorem fc109_p6 : placeT Try.prog 109 6 = some (6, 1) := by kernel_rfl
theorem fc109_o7 : fieldOff Try.prog 109 7 = some 7 := by kernel_rfl
theorem fc109_f7 : fieldT Try.prog 109 7 = some (7, 1, false) := by kernel_rfl
theorem fc109_p7 : placeT Try.prog 109 7 = some (7, 1) := by kernel_rfl
theorem fc109_o8 : fieldOff Try.prog 109 8 = some 8 := by kernel_rfl
theorem fc109_f8 : fieldT Try.prog 109 8 = some (8, 1, false) := by kernel_rfl
theorem fc109_p8 : placeT Try.prog 109 8 = some (8, 1) := by kernel_rfl
theorem fc109_o9 : fieldOff Try.prog 109 9 = some 9 := by kernel_rfl
theorem fc109_f9 : fieldT Try.prog 109 9 = some (9, 1, false) := by kernel_rfl
theorem fc109_p9 : placeT Try.prog 109 9 = some (9, 1) := by kernel_rfl
theorem fc109_o10 : fieldOff Try.prog 109 10 = some 10 := by kernel_rfl
theorem fc109_f10 : fieldT Try.prog 109 10 = some (10, 1, false) := by kernel_rfl
theorem fc109_p10 : placeT Try.prog 109 10 = some (10, 1) := by kernel_rfl
theorem fc110_load : loadT Try.prog 110 = some (11, true) := by kernel_rfl
theorem fc110_size : tySize Try.prog 110 = some 11 := by kernel_rfl
theorem fc110_zero : zeroT Try.prog 110 = some [.int .u64 0, .int .u64 0, .int .u32 0, .int .u8 0, .int .u8 0, .int .u8 0, .int .u8 0, .nilFunc, .pointer none, .int .i32 0, .int .i32 0] := by kernel_rfl
theorem fc110_all : allPlaces Try.prog 110 = true := by kernel_rfl
theorem fc110_o0 : fieldOff Try.prog 110 0 = some 0 := by kernel_rfl
theorem fc110_f0 : fieldT Try.prog 110 0 = some (0, 1, false) := by kernel_rfl
theorem fc110_p0 : placeT Try.prog 110 0 = some (0, 1) := by kernel_rfl
theorem fc110_o1 : fieldOff Try.prog 110 1 = some 1 := by kernel_rfl
theorem fc110_f1 : fieldT Try.prog 110 1 = some (1, 1, false) := by kernel_rfl
theorem fc110_p1 : placeT Try.prog 110 1 = some (1, 1) := by kernel_rfl
theorem fc110_o2 : fieldOff Try.prog 110 2 = some 2 := by kernel_rfl
theorem fc110_f2 : fieldT Try.prog 110 2 = some (2, 1, false) := by kernel_rfl
theorem fc110_p2 : placeT Try.prog 110 2 = some (2, 1) := by kernel_rfl
theorem fc110_o3 : fieldOff Try.prog 110 3 = some 3 := by kernel_rfl
theorem fc110_f3 : fieldT Try.prog 110 3 = some (3, 1, false) := by kernel_rfl
theorem fc110_p3 : placeT Try.prog 110 3 = some (3, 1) := by kernel_rfl
theorem fc110_o4 : fieldOff Try.prog 110 4 = some 4 := by kernel_rfl
theorem fc110_f4 : fieldT Try.prog 110 4 = some (4, 1, false) := by kernel_rfl
theorem fc110_p4 : placeT Try.prog 110 4 = some (4, 1) := by kernel_rfl
theorem fc110_o5 : fieldOff Try.prog 110 5 = some 5 := by kernel_rfl
theorem fc110_f5 : fieldT Try.prog 110 5 = some (5, 1, false) := by kernel_rfl
theorem fc110_p5 : placeT Try.prog 110 5 = some (5, 1) := by kernel_rfl
theorem fc110_o6 : fieldOff Try.prog 110 6 = some 6 := by kernel_rfl
theorem fc110_f6 : fieldT Try.prog 110 6 = some (6, 1, false) := by kernel_rfl
theorem fc110_p6 : placeT Try.prog 110 6 = some (6, 1) := by kernel_rfl
theorem fc110_o7 : fieldOff Try.prog 110 7 = some 7 := by kernel_rfl
theorem fc110_f7 : fieldT Try.prog 110 7 = some (7, 1, false) := by kernel_rfl
theorem fc110_p7 : placeT Try.prog 110 7 = some (7, 1) := by kernel_rfl
theorem fc110_o8 : fieldOff Try.prog 110 8 = some 8 := by kernel_rfl
theorem fc110_f8 : fieldT Try.prog 110 8 = some (8, 1, false) := by kernel_rfl
theorem fc110_p8 : placeT Try.prog 110 8 = some (8, 1) := by kernel_rfl
theorem fc110_o9 : fieldOff Try.prog 110 9 = some 9 := by kernel_rfl
theorem fc110_f9 : fieldT Try.prog 110 9 = some (9, 1, false) := by kernel_rfl
theorem fc110_p9 : placeT Try.prog 110 9 = some (9, 1) := by kernel_rfl
theorem fc110_o10 : fieldOff Try.prog 110 10 = some 10 := by kernel_rfl
theorem fc110_f10 : fieldT Try.prog 110 10 = some (10, 1, false) := by kernel_rfl
theorem fc110_p10 : placeT Try.prog 110 10 = some (10, 1) := by kernel_rfl
attribute [go_sem] fc1_load fc1_size fc1_zero fc2_load fc2_size fc2_int fc2_isb fc2_u fc2_zero fc3_load fc3_size fc3_int fc3_isb fc3_u fc3_zero fc4_load fc4_size fc4_isb fc4_zero fc5_load fc5_size fc5_int fc5_isb fc5_u fc5_zero fc6_load fc6_size fc6_int fc6_isb fc6_u fc6_zero fc7_load fc7_size fc7_zero fc7_all fc7_o0 fc7_f0 fc7_p0 fc7_o1 fc7_f1 fc7_p1 fc7_o2 fc7_f2 fc7_p2 fc7_o3 fc7_f3 fc7_p3 fc8_load fc8_size fc8_zero fc8_all fc8_o0 fc8_f0 fc8_p0 fc8_o1 fc8_f1 fc8_p1 fc8_o2 fc8_f2 fc8_p2 fc8_o3 fc8_f3 fc8_p3 fc9_load fc9_size fc9_iss fc9_zero fc10_load fc10_size fc10_iss fc10_zero fc11_load fc11_size fc11_iss fc11_zero fc12_load fc12_size fc12_int fc12_isb fc12_u fc12_zero fc13_load fc13_size fc13_zero fc13_all fc13_o0 fc13_f0 fc13_p0 fc13_o1 fc13_f1 fc13_p1 fc14_load fc14_size fc14_zero fc14_all fc14_o0 fc14_f0 fc14_p0 fc14_o1 fc14_f1 fc14_p1 fc15_load fc15_size fc15_zero fc15_sl fc16_load fc16_size fc16_zero fc16_sl fc17_load fc17_size fc17_zero fc17_sl fc18_load fc18_size fc18_zero fc18_all fc18_o0 fc18_f0 fc18_p0 fc19_load fc19_size fc19_zero fc19_all fc19_o0 fc19_f0 fc19_p0 fc21_load fc21_size fc21_int fc21_isb fc21_u fc21_zero fc22_load fc22_size fc22_zero fc22_sl fc22_arr fc22_app fc22_z1 fc23_load fc23_size fc23_zero fc24_load fc24_size fc24_zero fc25_load fc25_size fc25_zero fc25_sl fc25_arr fc25_app fc25_z1 fc26_load fc26_size fc26_zero fc27_load fc27_size fc27_zero fc28_load fc28_size fc28_zero fc29_load fc29_size fc29_zero fc29_sl fc29_arr fc29_app fc29_z1 fc30_load fc30_size fc30_zero fc31_load fc31_size fc31_zero fc31_sl fc31_arr fc31_app fc31_z1 fc33_load fc33_size fc33_zero fc34_load fc34_size fc34_zero fc35_load fc35_size fc35_zero fc36_load fc36_size fc36_zero fc37_load fc37_size fc37_zero fc38_load fc38_size fc38_zero fc38_all fc38_o0 fc38_f0 fc38_p0 fc38_o1 fc38_f1 fc38_p1 fc38_o2 fc38_f2 fc38_p2 fc38_o3 fc38_f3 fc38_p3 fc39_load fc39_size fc39_zero fc39_all fc39_o0 fc39_f0 fc39_p0 fc39_o1 fc39_f1 fc39_p1 fc39_o2 fc39_f2 fc39_p2 fc39_o3 fc39_f3 fc39_p3 fc40_load fc40_size fc40_zero fc40_sl fc40_arr fc40_app fc40_z1 fc41_load fc41_size fc41_zero fc43_load fc43_size fc43_zero fc44_load fc44_size fc44_zero fc44_all fc44_o0 fc44_f0 fc44_p0 fc44_o1 fc44_f1 fc44_p1 fc44_o2 fc44_f2 fc44_p2 fc44_o3 fc44_f3 fc44_p3 fc45_load fc45_size fc45_zero fc46_load fc46_size fc46_zero fc46_sl fc46_arr fc46_app fc46_z1 fc47_load fc47_size fc47_zero fc48_load fc48_size fc48_zero fc49_load fc49_size fc49_zero fc50_load fc50_size fc50_zero fc50_sl fc50_arr fc50_app fc50_z1 fc52_load fc52_size fc52_zero fc53_load fc53_size fc53_zero fc54_load fc54_size fc54_zero fc55_load fc55_size fc55_zero fc56_load fc56_size fc56_zero fc56_all fc56_o0 fc56_f0 fc56_p0 fc56_o1 fc56_f1 fc56_p1 fc56_o2 fc56_f2 fc56_p2 fc57_load fc57_size fc57_zero fc57_all fc57_o0 fc57_f0 fc57_p0 fc57_o1 fc57_f1 fc57_p1 fc57_o2 fc57_f2 fc57_p2 fc58_load fc58_size fc58_zero fc59_load fc59_size fc59_zero fc59_all fc59_o0 fc59_f0 fc59_p0 fc59_o1 fc59_f1 fc59_p1 fc59_o2 fc59_f2 fc59_p2 fc60_load fc60_size fc60_zero fc61_load fc61_size fc61_zero fc62_load fc62_size fc62_zero fc63_load fc63_size fc63_zero fc64_load fc64_size fc64_zero fc65_load fc65_size fc65_zero fc66_load fc66_size fc66_zero fc67_load fc67_size fc67_zero fc68_load fc68_size fc68_zero fc69_load fc69_size fc69_zero fc69_all fc69_o0 fc69_f0 fc69_p0 fc69_o1 fc69_f1 fc69_p1 fc69_o2 fc69_f2 fc69_p2 fc69_o3 fc69_f3 fc69_p3 fc70_load fc70_size fc70_zero fc70_all fc70_o0 fc70_f0 fc70_p0 fc70_o1 fc70_f1 fc70_p1 fc70_o2 fc70_f2 fc70_p2 fc70_o3 fc70_f3 fc70_p3 fc71_load fc71_size fc71_zero fc72_load fc72_size fc72_zero fc72_all fc72_o0 fc72_f0 fc72_p0 fc72_o1 fc72_f1 fc72_p1 fc72_o2 fc72_f2 fc72_p2 fc72_o3 fc72_f3 fc72_p3 fc73_load fc73_size fc73_zero fc74_load fc74_size fc74_zero fc75_load fc75_size fc75_zero fc76_load fc76_size fc76_zero fc77_load fc77_size fc77_zero fc78_load fc78_size fc78_zero fc79_load fc79_size fc79_zero fc80_load fc80_size fc80_zero fc81_load fc81_size fc81_zero fc82_load fc82_size fc82_zero fc83_load fc83_size fc83_zero fc84_load fc84_size fc84_zero fc85_load fc85_size fc85_zero fc86_load fc86_size fc86_zero fc87_load fc87_size fc87_zero fc88_load fc88_size fc88_zero fc89_load fc89_size fc89_zero fc90_load fc90_size fc90_zero fc91_load fc91_size fc91_zero fc92_load fc92_size fc92_zero fc93_load fc93_size fc93_int fc93_isb fc93_u fc93_zero fc94_load fc94_size fc94_zero fc95_load fc95_size fc95_zero fc96_load fc96_size fc96_zero fc96_all fc96_o0 fc96_f0 fc96_p0 fc96_o1 fc96_f1 fc96_p1 fc96_o2 fc96_f2 fc96_p2 fc96_o3 fc96_f3 fc96_p3 fc97_load fc97_size fc97_zero fc97_all fc97_o0 fc97_f0 fc97_p0 fc97_o1 fc97_f1 fc97_p1 fc97_o2 fc97_f2 fc97_p2 fc97_o3 fc97_f3 fc97_p3 fc98_load fc98_size fc98_zero fc98_arr fc98_sl fc98_all fc99_load fc99_size fc99_zero fc99_all fc99_f0 fc99_p0 fc100_load fc100_size fc100_zero fc100_all fc100_f0 fc100_p0 fc101_load fc101_size fc101_zero fc102_load fc102_size fc102_int fc102_isb fc102_u fc102_zero fc103_load fc103_size fc103_int fc103_isb fc103_u fc103_zero fc104_load fc104_size fc104_int fc104_isb fc104_u fc104_zero fc105_load fc105_size fc105_zero fc106_load fc106_size fc106_zero fc106_sl fc107_load fc107_size fc107_int fc107_isb fc107_u fc107_zero fc108_load fc108_size fc108_int fc108_isb fc108_u fc108_zero fc109_load fc109_size fc109_zero fc109_all fc109_o0 fc109_f0 fc109_p0 fc109_o1 fc109_f1 fc109_p1 fc109_o2 fc109_f2 fc109_p2 fc109_o3 fc109_f3 fc109_p3 fc109_o4 fc109_f4 fc109_p4 fc109_o5 fc109_f5 fc109_p5 fc109_o6 fc109_f6 fc109_p6 fc109_o7 fc109_f7 fc109_p7 fc109_o8 fc109_f8 fc109_p8 fc109_o9 fc109_f9 fc109_p9 fc109_o10 fc109_f10 fc109_p10 fc110_load fc110_size fc110_zero fc110_all fc110_o0 fc110_f0 fc110_p0 fc110_o1 fc110_f1 fc110_p1 fc110_o2 fc110_f2 fc110_p2 fc110_o3 fc110_f3 fc110_p3 fc110_o4 fc110_f4 fc110_p4 fc110_o5 fc110_f5 fc110_p5 fc110_o6 fc110_f6 fc110_p6 fc110_o7 fc110_f7 fc110_p7 fc110_o8 fc110_f8 fc110_p8 fc110_o9 fc110_f9 fc110_p9 fc110_o10 fc110_f10 fc110_p10
end Go.Proofs.Ytffemhhfflpdjaa
