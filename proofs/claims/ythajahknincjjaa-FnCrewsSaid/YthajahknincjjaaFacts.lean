/- The closed facts on the types of this seat's program, each by the kernel. Written by program. -/
import Derived.Test.YthajahknincjjaaAm10
import Derived.Test.YthajahknincjjaaRows
namespace Go.Proofs.Ythajahknincjjaa
open Go.Am
theorem fc1_load : loadT Try.prog 1 = some (1, false) := by kernel_rfl
theorem fc1_size : tySize Try.prog 1 = some 1 := by kernel_rfl
theorem fc1_zero : zeroT Try.prog 1 = some [.nilFunc] := by kernel_rfl
theorem fc2_load : loadT Try.prog 2 = some (1, false) := by kernel_rfl
theorem fc2_size : tySize Try.prog 2 = some 1 := by kernel_rfl
theorem fc2_int : intT Try.prog 2 = some .i64 := by kernel_rfl
theorem fc2_isb : isBoolT Try.prog 2 = false := by kernel_rfl
theorem fc2_u : Try.prog.underlying 2 = some (.int .i64) := by kernel_rfl
theorem fc2_zero : zeroT Try.prog 2 = some [.int .i64 0] := by kernel_rfl
theorem fc3_load : loadT Try.prog 3 = some (1, false) := by kernel_rfl
theorem fc3_size : tySize Try.prog 3 = some 1 := by kernel_rfl
theorem fc3_int : intT Try.prog 3 = some .i64 := by kernel_rfl
theorem fc3_isb : isBoolT Try.prog 3 = false := by kernel_rfl
theorem fc3_u : Try.prog.underlying 3 = some (.int .i64) := by kernel_rfl
theorem fc3_zero : zeroT Try.prog 3 = some [.int .i64 0] := by kernel_rfl
theorem fc4_load : loadT Try.prog 4 = some (1, false) := by kernel_rfl
theorem fc4_size : tySize Try.prog 4 = some 1 := by kernel_rfl
theorem fc4_isb : isBoolT Try.prog 4 = true := by kernel_rfl
theorem fc4_zero : zeroT Try.prog 4 = some [.bool false] := by kernel_rfl
theorem fc5_load : loadT Try.prog 5 = some (1, false) := by kernel_rfl
theorem fc5_size : tySize Try.prog 5 = some 1 := by kernel_rfl
theorem fc5_int : intT Try.prog 5 = some .u8 := by kernel_rfl
theorem fc5_isb : isBoolT Try.prog 5 = false := by kernel_rfl
theorem fc5_u : Try.prog.underlying 5 = some (.int .u8) := by kernel_rfl
theorem fc5_zero : zeroT Try.prog 5 = some [.int .u8 0] := by kernel_rfl
theorem fc6_load : loadT Try.prog 6 = some (1, false) := by kernel_rfl
theorem fc6_size : tySize Try.prog 6 = some 1 := by kernel_rfl
theorem fc6_int : intT Try.prog 6 = some .u8 := by kernel_rfl
theorem fc6_isb : isBoolT Try.prog 6 = false := by kernel_rfl
theorem fc6_u : Try.prog.underlying 6 = some (.int .u8) := by kernel_rfl
theorem fc6_zero : zeroT Try.prog 6 = some [.int .u8 0] := by kernel_rfl
theorem fc7_load : loadT Try.prog 7 = some (4, true) := by kernel_rfl
theorem fc7_size : tySize Try.prog 7 = some 4 := by kernel_rfl
theorem fc7_zero : zeroT Try.prog 7 = some [.int .i64 0, .int .i64 0, .bool false, .int .u8 0] := by kernel_rfl
theorem fc7_eq : eqT Try.prog 7 = some [(0, false), (1, false), (2, true), (3, false)] := by kernel_rfl
theorem fc7_all : allPlaces Try.prog 7 = true := by kernel_rfl
theorem fc7_o0 : fieldOff Try.prog 7 0 = some 0 := by kernel_rfl
theorem fc7_f0 : fieldT Try.prog 7 0 = some (0, 1, false) := by kernel_rfl
theorem fc7_p0 : placeT Try.prog 7 0 = some (0, 1) := by kernel_rfl
theorem fc7_o1 : fieldOff Try.prog 7 1 = some 1 := by kernel_rfl
theorem fc7_f1 : fieldT Try.prog 7 1 = some (1, 1, false) := by kernel_rfl
theorem fc7_p1 : placeT Try.prog 7 1 = some (1, 1) := by kernel_rfl
theorem fc7_o2 : fieldOff Try.prog 7 2 = some 2 := by kernel_rfl
theorem fc7_f2 : fieldT Try.prog 7 2 = some (2, 1, false) := by kernel_rfl
theorem fc7_p2 : placeT Try.prog 7 2 = some (2, 1) := by kernel_rfl
theorem fc7_o3 : fieldOff Try.prog 7 3 = some 3 := by kernel_rfl
theorem fc7_f3 : fieldT Try.prog 7 3 = some (3, 1, false) := by kernel_rfl
theorem fc7_p3 : placeT Try.prog 7 3 = some (3, 1) := by kernel_rfl
theorem fc8_load : loadT Try.prog 8 = some (4, true) := by kernel_rfl
theorem fc8_size : tySize Try.prog 8 = some 4 := by kernel_rfl
theorem fc8_zero : zeroT Try.prog 8 = some [.int .i64 0, .int .i64 0, .bool false, .int .u8 0] := by kernel_rfl
theorem fc8_eq : eqT Try.prog 8 = some [(0, false), (1, false), (2, true), (3, false)] := by kernel_rfl
theorem fc8_all : allPlaces Try.prog 8 = true := by kernel_rfl
theorem fc8_o0 : fieldOff Try.prog 8 0 = some 0 := by kernel_rfl
theorem fc8_f0 : fieldT Try.prog 8 0 = some (0, 1, false) := by kernel_rfl
theorem fc8_p0 : placeT Try.prog 8 0 = some (0, 1) := by kernel_rfl
theorem fc8_o1 : fieldOff Try.prog 8 1 = some 1 := by kernel_rfl
theorem fc8_f1 : fieldT Try.prog 8 1 = some (1, 1, false) := by kernel_rfl
theorem fc8_p1 : placeT Try.prog 8 1 = some (1, 1) := by kernel_rfl
theorem fc8_o2 : fieldOff Try.prog 8 2 = some 2 := by kernel_rfl
theorem fc8_f2 : fieldT Try.prog 8 2 = some (2, 1, false) := by kernel_rfl
theorem fc8_p2 : placeT Try.prog 8 2 = some (2, 1) := by kernel_rfl
theorem fc8_o3 : fieldOff Try.prog 8 3 = some 3 := by kernel_rfl
theorem fc8_f3 : fieldT Try.prog 8 3 = some (3, 1, false) := by kernel_rfl
theorem fc8_p3 : placeT Try.prog 8 3 = some (3, 1) := by kernel_rfl
theorem fc9_load : loadT Try.prog 9 = some (1, false) := by kernel_rfl
theorem fc9_size : tySize Try.prog 9 = some 1 := by kernel_rfl
theorem fc9_iss : isStrT Try.prog 9 = true := by kernel_rfl
theorem fc9_zero : zeroT Try.prog 9 = some [.string ⟨#[]⟩] := by kernel_rfl
theorem fc10_load : loadT Try.prog 10 = some (1, false) := by kernel_rfl
theorem fc10_size : tySize Try.prog 10 = some 1 := by kernel_rfl
theorem fc10_iss : isStrT Try.prog 10 = true := by kernel_rfl
theorem fc10_zero : zeroT Try.prog 10 = some [.string ⟨#[]⟩] := by kernel_rfl
theorem fc11_load : loadT Try.prog 11 = some (1, false) := by kernel_rfl
theorem fc11_size : tySize Try.prog 11 = some 1 := by kernel_rfl
theorem fc11_iss : isStrT Try.prog 11 = true := by kernel_rfl
theorem fc11_zero : zeroT Try.prog 11 = some [.string ⟨#[]⟩] := by kernel_rfl
theorem fc12_load : loadT Try.prog 12 = some (1, false) := by kernel_rfl
theorem fc12_size : tySize Try.prog 12 = some 1 := by kernel_rfl
theorem fc12_int : intT Try.prog 12 = some .u64 := by kernel_rfl
theorem fc12_isb : isBoolT Try.prog 12 = false := by kernel_rfl
theorem fc12_u : Try.prog.underlying 12 = some (.int .u64) := by kernel_rfl
theorem fc12_zero : zeroT Try.prog 12 = some [.int .u64 0] := by kernel_rfl
theorem fc13_load : loadT Try.prog 13 = some (2, true) := by kernel_rfl
theorem fc13_size : tySize Try.prog 13 = some 2 := by kernel_rfl
theorem fc13_zero : zeroT Try.prog 13 = some [.string ⟨#[]⟩, .int .u64 0] := by kernel_rfl
theorem fc13_all : allPlaces Try.prog 13 = true := by kernel_rfl
theorem fc13_o0 : fieldOff Try.prog 13 0 = some 0 := by kernel_rfl
theorem fc13_f0 : fieldT Try.prog 13 0 = some (0, 1, false) := by kernel_rfl
theorem fc13_p0 : placeT Try.prog 13 0 = some (0, 1) := by kernel_rfl
theorem fc13_o1 : fieldOff Try.prog 13 1 = some 1 := by kernel_rfl
theorem fc13_f1 : fieldT Try.prog 13 1 = some (1, 1, false) := by kernel_rfl
theorem fc13_p1 : placeT Try.prog 13 1 = some (1, 1) := by kernel_rfl
theorem fc14_load : loadT Try.prog 14 = some (2, true) := by kernel_rfl
theorem fc14_size : tySize Try.prog 14 = some 2 := by kernel_rfl
theorem fc14_zero : zeroT Try.prog 14 = some [.string ⟨#[]⟩, .int .u64 0] := by kernel_rfl
theorem fc14_all : allPlaces Try.prog 14 = true := by kernel_rfl
theorem fc14_o0 : fieldOff Try.prog 14 0 = some 0 := by kernel_rfl
theorem fc14_f0 : fieldT Try.prog 14 0 = some (0, 1, false) := by kernel_rfl
theorem fc14_p0 : placeT Try.prog 14 0 = some (0, 1) := by kernel_rfl
theorem fc14_o1 : fieldOff Try.prog 14 1 = some 1 := by kernel_rfl
theorem fc14_f1 : fieldT Try.prog 14 1 = some (1, 1, false) := by kernel_rfl
theorem fc14_p1 : placeT Try.prog 14 1 = some (1, 1) := by kernel_rfl
theorem fc15_load : loadT Try.prog 15 = some (1, false) := by kernel_rfl
theorem fc15_size : tySize Try.prog 15 = some 1 := by kernel_rfl
theorem fc15_zero : zeroT Try.prog 15 = some [.pointer none] := by kernel_rfl
theorem fc15_sl : sliceT Try.prog 15 = none := by kernel_rfl
theorem fc16_load : loadT Try.prog 16 = some (1, false) := by kernel_rfl
theorem fc16_size : tySize Try.prog 16 = some 1 := by kernel_rfl
theorem fc16_zero : zeroT Try.prog 16 = some [.pointer none] := by kernel_rfl
theorem fc16_sl : sliceT Try.prog 16 = none := by kernel_rfl
theorem fc17_load : loadT Try.prog 17 = some (1, false) := by kernel_rfl
theorem fc17_size : tySize Try.prog 17 = some 1 := by kernel_rfl
theorem fc17_zero : zeroT Try.prog 17 = some [.pointer none] := by kernel_rfl
theorem fc17_sl : sliceT Try.prog 17 = none := by kernel_rfl
theorem fc18_load : loadT Try.prog 18 = some (1, true) := by kernel_rfl
theorem fc18_size : tySize Try.prog 18 = some 1 := by kernel_rfl
theorem fc18_zero : zeroT Try.prog 18 = some [.pointer none] := by kernel_rfl
theorem fc18_all : allPlaces Try.prog 18 = true := by kernel_rfl
theorem fc18_o0 : fieldOff Try.prog 18 0 = some 0 := by kernel_rfl
theorem fc18_f0 : fieldT Try.prog 18 0 = some (0, 1, false) := by kernel_rfl
theorem fc18_p0 : placeT Try.prog 18 0 = some (0, 1) := by kernel_rfl
theorem fc19_load : loadT Try.prog 19 = some (1, true) := by kernel_rfl
theorem fc19_size : tySize Try.prog 19 = some 1 := by kernel_rfl
theorem fc19_zero : zeroT Try.prog 19 = some [.pointer none] := by kernel_rfl
theorem fc19_all : allPlaces Try.prog 19 = true := by kernel_rfl
theorem fc19_o0 : fieldOff Try.prog 19 0 = some 0 := by kernel_rfl
theorem fc19_f0 : fieldT Try.prog 19 0 = some (0, 1, false) := by kernel_rfl
theorem fc19_p0 : placeT Try.prog 19 0 = some (0, 1) := by kernel_rfl
theorem fc21_load : loadT Try.prog 21 = some (1, false) := by kernel_rfl
theorem fc21_size : tySize Try.prog 21 = some 1 := by kernel_rfl
theorem fc21_int : intT Try.prog 21 = some .i32 := by kernel_rfl
theorem fc21_isb : isBoolT Try.prog 21 = false := by kernel_rfl
theorem fc21_u : Try.prog.underlying 21 = some (.int .i32) := by kernel_rfl
theorem fc21_zero : zeroT Try.prog 21 = some [.int .i32 0] := by kernel_rfl
theorem fc22_load : loadT Try.prog 22 = some (1, false) := by kernel_rfl
theorem fc22_size : tySize Try.prog 22 = some 1 := by kernel_rfl
theorem fc22_zero : zeroT Try.prog 22 = some [.slice none 0 0] := by kernel_rfl
theorem fc22_sl : sliceT Try.prog 22 = some (5, 1) := by kernel_rfl
theorem fc22_arr : arrT Try.prog 22 = none := by kernel_rfl
theorem fc22_app : appT Try.prog 22 = some (5, 1, 1) := by kernel_rfl
theorem fc22_z1 : zeroNT Try.prog 22 = some (5, [.int .u8 0], 1) := by kernel_rfl
theorem fc23_load : loadT Try.prog 23 = some (1, false) := by kernel_rfl
theorem fc23_size : tySize Try.prog 23 = some 1 := by kernel_rfl
theorem fc23_zero : zeroT Try.prog 23 = some [.nilFunc] := by kernel_rfl
theorem fc24_load : loadT Try.prog 24 = some (1, false) := by kernel_rfl
theorem fc24_size : tySize Try.prog 24 = some 1 := by kernel_rfl
theorem fc24_zero : zeroT Try.prog 24 = some [.slice none 0 0] := by kernel_rfl
theorem fc24_sl : sliceT Try.prog 24 = some (56, 3) := by kernel_rfl
theorem fc24_arr : arrT Try.prog 24 = none := by kernel_rfl
theorem fc24_app : appT Try.prog 24 = some (56, 3, 24) := by kernel_rfl
theorem fc24_z1 : zeroNT Try.prog 24 = some (56, [.int .i64 0, .int .i64 0, .int .i64 0], 24) := by kernel_rfl
theorem fc25_load : loadT Try.prog 25 = some (1, false) := by kernel_rfl
theorem fc25_size : tySize Try.prog 25 = some 1 := by kernel_rfl
theorem fc25_zero : zeroT Try.prog 25 = some [.slice none 0 0] := by kernel_rfl
theorem fc25_sl : sliceT Try.prog 25 = some (3, 1) := by kernel_rfl
theorem fc25_arr : arrT Try.prog 25 = none := by kernel_rfl
theorem fc25_app : appT Try.prog 25 = some (3, 1, 8) := by kernel_rfl
theorem fc25_z1 : zeroNT Try.prog 25 = some (3, [.int .i64 0], 8) := by kernel_rfl
theorem fc27_load : loadT Try.prog 27 = some (1, false) := by kernel_rfl
theorem fc27_size : tySize Try.prog 27 = some 1 := by kernel_rfl
theorem fc27_zero : zeroT Try.prog 27 = some [.nilFunc] := by kernel_rfl
theorem fc29_load : loadT Try.prog 29 = some (1, false) := by kernel_rfl
theorem fc29_size : tySize Try.prog 29 = some 1 := by kernel_rfl
theorem fc29_zero : zeroT Try.prog 29 = some [.nilFunc] := by kernel_rfl
theorem fc30_load : loadT Try.prog 30 = some (1, false) := by kernel_rfl
theorem fc30_size : tySize Try.prog 30 = some 1 := by kernel_rfl
theorem fc30_zero : zeroT Try.prog 30 = some [.nilFunc] := by kernel_rfl
theorem fc32_load : loadT Try.prog 32 = some (1, false) := by kernel_rfl
theorem fc32_size : tySize Try.prog 32 = some 1 := by kernel_rfl
theorem fc32_zero : zeroT Try.prog 32 = some [.nilFunc] := by kernel_rfl
theorem fc33_load : loadT Try.prog 33 = some (1, false) := by kernel_rfl
theorem fc33_size : tySize Try.prog 33 = some 1 := by kernel_rfl
theorem fc33_zero : zeroT Try.prog 33 = some [.nilFunc] := by kernel_rfl
theorem fc34_load : loadT Try.prog 34 = some (1, false) := by kernel_rfl
theorem fc34_size : tySize Try.prog 34 = some 1 := by kernel_rfl
theorem fc34_zero : zeroT Try.prog 34 = some [.nilFunc] := by kernel_rfl
theorem fc36_load : loadT Try.prog 36 = some (1, false) := by kernel_rfl
theorem fc36_size : tySize Try.prog 36 = some 1 := by kernel_rfl
theorem fc36_zero : zeroT Try.prog 36 = some [.nilFunc] := by kernel_rfl
theorem fc37_load : loadT Try.prog 37 = some (1, false) := by kernel_rfl
theorem fc37_size : tySize Try.prog 37 = some 1 := by kernel_rfl
theorem fc37_zero : zeroT Try.prog 37 = some [.nilFunc] := by kernel_rfl
theorem fc38_load : loadT Try.prog 38 = some (1, false) := by kernel_rfl
theorem fc38_size : tySize Try.prog 38 = some 1 := by kernel_rfl
theorem fc38_zero : zeroT Try.prog 38 = some [.pointer none] := by kernel_rfl
theorem fc38_sl : sliceT Try.prog 38 = none := by kernel_rfl
theorem fc39_load : loadT Try.prog 39 = some (1, false) := by kernel_rfl
theorem fc39_size : tySize Try.prog 39 = some 1 := by kernel_rfl
theorem fc39_int : intT Try.prog 39 = some .u64 := by kernel_rfl
theorem fc39_isb : isBoolT Try.prog 39 = false := by kernel_rfl
theorem fc39_u : Try.prog.underlying 39 = some (.int .u64) := by kernel_rfl
theorem fc39_zero : zeroT Try.prog 39 = some [.int .u64 0] := by kernel_rfl
theorem fc40_load : loadT Try.prog 40 = some (3, true) := by kernel_rfl
theorem fc40_size : tySize Try.prog 40 = some 3 := by kernel_rfl
theorem fc40_zero : zeroT Try.prog 40 = some [.slice none 0 0, .int .i64 0, .int .u64 0] := by kernel_rfl
theorem fc40_all : allPlaces Try.prog 40 = true := by kernel_rfl
theorem fc40_o0 : fieldOff Try.prog 40 0 = some 0 := by kernel_rfl
theorem fc40_f0 : fieldT Try.prog 40 0 = some (0, 1, false) := by kernel_rfl
theorem fc40_p0 : placeT Try.prog 40 0 = some (0, 1) := by kernel_rfl
theorem fc40_o1 : fieldOff Try.prog 40 1 = some 1 := by kernel_rfl
theorem fc40_f1 : fieldT Try.prog 40 1 = some (1, 1, false) := by kernel_rfl
theorem fc40_p1 : placeT Try.prog 40 1 = some (1, 1) := by kernel_rfl
theorem fc40_o2 : fieldOff Try.prog 40 2 = some 2 := by kernel_rfl
theorem fc40_f2 : fieldT Try.prog 40 2 = some (2, 1, false) := by kernel_rfl
theorem fc40_p2 : placeT Try.prog 40 2 = some (2, 1) := by kernel_rfl
theorem fc41_load : loadT Try.prog 41 = some (3, true) := by kernel_rfl
theorem fc41_size : tySize Try.prog 41 = some 3 := by kernel_rfl
theorem fc41_zero : zeroT Try.prog 41 = some [.slice none 0 0, .int .i64 0, .int .u64 0] := by kernel_rfl
theorem fc41_all : allPlaces Try.prog 41 = true := by kernel_rfl
theorem fc41_o0 : fieldOff Try.prog 41 0 = some 0 := by kernel_rfl
theorem fc41_f0 : fieldT Try.prog 41 0 = some (0, 1, false) := by kernel_rfl
theorem fc41_p0 : placeT Try.prog 41 0 = some (0, 1) := by kernel_rfl
theorem fc41_o1 : fieldOff Try.prog 41 1 = some 1 := by kernel_rfl
theorem fc41_f1 : fieldT Try.prog 41 1 = some (1, 1, false) := by kernel_rfl
theorem fc41_p1 : placeT Try.prog 41 1 = some (1, 1) := by kernel_rfl
theorem fc41_o2 : fieldOff Try.prog 41 2 = some 2 := by kernel_rfl
theorem fc41_f2 : fieldT Try.prog 41 2 = some (2, 1, false) := by kernel_rfl
theorem fc41_p2 : placeT Try.prog 41 2 = some (2, 1) := by kernel_rfl
theorem fc42_load : loadT Try.prog 42 = some (1, false) := by kernel_rfl
theorem fc42_size : tySize Try.prog 42 = some 1 := by kernel_rfl
theorem fc42_zero : zeroT Try.prog 42 = some [.nilFunc] := by kernel_rfl
theorem fc43_load : loadT Try.prog 43 = some (1, false) := by kernel_rfl
theorem fc43_size : tySize Try.prog 43 = some 1 := by kernel_rfl
theorem fc43_zero : zeroT Try.prog 43 = some [.nilFunc] := by kernel_rfl
theorem fc44_load : loadT Try.prog 44 = some (1, false) := by kernel_rfl
theorem fc44_size : tySize Try.prog 44 = some 1 := by kernel_rfl
theorem fc44_zero : zeroT Try.prog 44 = some [.nilFunc] := by kernel_rfl
theorem fc45_load : loadT Try.prog 45 = some (1, false) := by kernel_rfl
theorem fc45_size : tySize Try.prog 45 = some 1 := by kernel_rfl
theorem fc45_zero : zeroT Try.prog 45 = some [.nilFunc] := by kernel_rfl
theorem fc46_load : loadT Try.prog 46 = some (1, false) := by kernel_rfl
theorem fc46_size : tySize Try.prog 46 = some 1 := by kernel_rfl
theorem fc46_zero : zeroT Try.prog 46 = some [.nilFunc] := by kernel_rfl
theorem fc47_load : loadT Try.prog 47 = some (1, false) := by kernel_rfl
theorem fc47_size : tySize Try.prog 47 = some 1 := by kernel_rfl
theorem fc47_zero : zeroT Try.prog 47 = some [.nilFunc] := by kernel_rfl
theorem fc48_load : loadT Try.prog 48 = some (1, false) := by kernel_rfl
theorem fc48_size : tySize Try.prog 48 = some 1 := by kernel_rfl
theorem fc48_zero : zeroT Try.prog 48 = some [.nilFunc] := by kernel_rfl
theorem fc49_load : loadT Try.prog 49 = some (1, false) := by kernel_rfl
theorem fc49_size : tySize Try.prog 49 = some 1 := by kernel_rfl
theorem fc49_zero : zeroT Try.prog 49 = some [.nilFunc] := by kernel_rfl
theorem fc50_load : loadT Try.prog 50 = some (1, false) := by kernel_rfl
theorem fc50_size : tySize Try.prog 50 = some 1 := by kernel_rfl
theorem fc50_zero : zeroT Try.prog 50 = some [.nilFunc] := by kernel_rfl
theorem fc51_load : loadT Try.prog 51 = some (1, false) := by kernel_rfl
theorem fc51_size : tySize Try.prog 51 = some 1 := by kernel_rfl
theorem fc51_zero : zeroT Try.prog 51 = some [.nilFunc] := by kernel_rfl
theorem fc53_load : loadT Try.prog 53 = some (1, false) := by kernel_rfl
theorem fc53_size : tySize Try.prog 53 = some 1 := by kernel_rfl
theorem fc53_zero : zeroT Try.prog 53 = some [.nilFunc] := by kernel_rfl
theorem fc54_load : loadT Try.prog 54 = some (1, false) := by kernel_rfl
theorem fc54_size : tySize Try.prog 54 = some 1 := by kernel_rfl
theorem fc54_zero : zeroT Try.prog 54 = some [.nilFunc] := by kernel_rfl
theorem fc55_load : loadT Try.prog 55 = some (3, true) := by kernel_rfl
theorem fc55_size : tySize Try.prog 55 = some 3 := by kernel_rfl
theorem fc55_zero : zeroT Try.prog 55 = some [.int .i64 0, .int .i64 0, .int .i64 0] := by kernel_rfl
theorem fc55_eq : eqT Try.prog 55 = some [(0, false), (1, false), (2, false)] := by kernel_rfl
theorem fc55_all : allPlaces Try.prog 55 = true := by kernel_rfl
theorem fc55_o0 : fieldOff Try.prog 55 0 = some 0 := by kernel_rfl
theorem fc55_f0 : fieldT Try.prog 55 0 = some (0, 1, false) := by kernel_rfl
theorem fc55_p0 : placeT Try.prog 55 0 = some (0, 1) := by kernel_rfl
theorem fc55_o1 : fieldOff Try.prog 55 1 = some 1 := by kernel_rfl
theorem fc55_f1 : fieldT Try.prog 55 1 = some (1, 1, false) := by kernel_rfl
theorem fc55_p1 : placeT Try.prog 55 1 = some (1, 1) := by kernel_rfl
theorem fc55_o2 : fieldOff Try.prog 55 2 = some 2 := by kernel_rfl
theorem fc55_f2 : fieldT Try.prog 55 2 = some (2, 1, false) := by kernel_rfl
theorem fc55_p2 : placeT Try.prog 55 2 = some (2, 1) := by kernel_rfl
theorem fc56_load : loadT Try.prog 56 = some (3, true) := by kernel_rfl
theorem fc56_size : tySize Try.prog 56 = some 3 := by kernel_rfl
theorem fc56_zero : zeroT Try.prog 56 = some [.int .i64 0, .int .i64 0, .int .i64 0] := by kernel_rfl
theorem fc56_eq : eqT Try.prog 56 = some [(0, false), (1, false), (2, false)] := by kernel_rfl
theorem fc56_all : allPlaces Try.prog 56 = true := by kernel_rfl
theorem fc56_o0 : fieldOff Try.prog 56 0 = some 0 := by kernel_rfl
theorem fc56_f0 : fieldT Try.prog 56 0 = some (0, 1, false) := by kernel_rfl
theorem fc56_p0 : placeT Try.prog 56 0 = some (0, 1) := by kernel_rfl
theorem fc56_o1 : fieldOff Try.prog 56 1 = some 1 := by kernel_rfl
theorem fc56_f1 : fieldT Try.prog 56 1 = some (1, 1, false) := by kernel_rfl
theorem fc56_p1 : placeT Try.prog 56 1 = some (1, 1) := by kernel_rfl
theorem fc56_o2 : fieldOff Try.prog 56 2 = some 2 := by kernel_rfl
theorem fc56_f2 : fieldT Try.prog 56 2 = some (2, 1, false) := by kernel_rfl
theorem fc56_p2 : placeT Try.prog 56 2 = some (2, 1) := by kernel_rfl
theorem fc57_load : loadT Try.prog 57 = some (1, false) := by kernel_rfl
theorem fc57_size : tySize Try.prog 57 = some 1 := by kernel_rfl
theorem fc57_zero : zeroT Try.prog 57 = some [.nilFunc] := by kernel_rfl
theorem fc58_load : loadT Try.prog 58 = some (1, false) := by kernel_rfl
theorem fc58_size : tySize Try.prog 58 = some 1 := by kernel_rfl
theorem fc58_zero : zeroT Try.prog 58 = some [.nilFunc] := by kernel_rfl
theorem fc59_load : loadT Try.prog 59 = some (1, false) := by kernel_rfl
theorem fc59_size : tySize Try.prog 59 = some 1 := by kernel_rfl
theorem fc59_zero : zeroT Try.prog 59 = some [.nilFunc] := by kernel_rfl
theorem fc60_load : loadT Try.prog 60 = some (1, false) := by kernel_rfl
theorem fc60_size : tySize Try.prog 60 = some 1 := by kernel_rfl
theorem fc60_zero : zeroT Try.prog 60 = some [.nilFunc] := by kernel_rfl
theorem fc61_load : loadT Try.prog 61 = some (1, false) := by kernel_rfl
theorem fc61_size : tySize Try.prog 61 = some 1 := by kernel_rfl
theorem fc61_zero : zeroT Try.prog 61 = some [.nilFunc] := by kernel_rfl
theorem fc62_load : loadT Try.prog 62 = some (1, false) := by kernel_rfl
theorem fc62_size : tySize Try.prog 62 = some 1 := by kernel_rfl
theorem fc62_int : intT Try.prog 62 = some .u64 := by kernel_rfl
theorem fc62_isb : isBoolT Try.prog 62 = false := by kernel_rfl
theorem fc62_u : Try.prog.underlying 62 = some (.int .u64) := by kernel_rfl
theorem fc62_zero : zeroT Try.prog 62 = some [.int .u64 0] := by kernel_rfl
theorem fc63_load : loadT Try.prog 63 = some (1, false) := by kernel_rfl
theorem fc63_size : tySize Try.prog 63 = some 1 := by kernel_rfl
theorem fc63_zero : zeroT Try.prog 63 = some [.nilFunc] := by kernel_rfl
theorem fc64_load : loadT Try.prog 64 = some (1, false) := by kernel_rfl
theorem fc64_size : tySize Try.prog 64 = some 1 := by kernel_rfl
theorem fc64_zero : zeroT Try.prog 64 = some [.nilFunc] := by kernel_rfl
theorem fc65_load : loadT Try.prog 65 = some (1, false) := by kernel_rfl
theorem fc65_size : tySize Try.prog 65 = some 1 := by kernel_rfl
theorem fc65_zero : zeroT Try.prog 65 = some [.nilFunc] := by kernel_rfl
theorem fc66_load : loadT Try.prog 66 = some (1, false) := by kernel_rfl
theorem fc66_size : tySize Try.prog 66 = some 1 := by kernel_rfl
theorem fc66_zero : zeroT Try.prog 66 = some [.nilFunc] := by kernel_rfl
theorem fc67_load : loadT Try.prog 67 = some (4, true) := by kernel_rfl
theorem fc67_size : tySize Try.prog 67 = some 4 := by kernel_rfl
theorem fc67_zero : zeroT Try.prog 67 = some [.pointer none, .pointer none, .pointer none, .string ⟨#[]⟩] := by kernel_rfl
theorem fc67_all : allPlaces Try.prog 67 = true := by kernel_rfl
theorem fc67_o0 : fieldOff Try.prog 67 0 = some 0 := by kernel_rfl
theorem fc67_f0 : fieldT Try.prog 67 0 = some (0, 1, false) := by kernel_rfl
theorem fc67_p0 : placeT Try.prog 67 0 = some (0, 1) := by kernel_rfl
theorem fc67_o1 : fieldOff Try.prog 67 1 = some 1 := by kernel_rfl
theorem fc67_f1 : fieldT Try.prog 67 1 = some (1, 1, false) := by kernel_rfl
theorem fc67_p1 : placeT Try.prog 67 1 = some (1, 1) := by kernel_rfl
theorem fc67_o2 : fieldOff Try.prog 67 2 = some 2 := by kernel_rfl
theorem fc67_f2 : fieldT Try.prog 67 2 = some (2, 1, false) := by kernel_rfl
theorem fc67_p2 : placeT Try.prog 67 2 = some (2, 1) := by kernel_rfl
theorem fc67_o3 : fieldOff Try.prog 67 3 = some 3 := by kernel_rfl
theorem fc67_f3 : fieldT Try.prog 67 3 = some (3, 1, false) := by kernel_rfl
theorem fc67_p3 : placeT Try.prog 67 3 = some (3, 1) := by kernel_rfl
theorem fc68_load : loadT Try.prog 68 = some (4, true) := by kernel_rfl
theorem fc68_size : tySize Try.prog 68 = some 4 := by kernel_rfl
theorem fc68_zero : zeroT Try.prog 68 = some [.pointer none, .pointer none, .pointer none, .string ⟨#[]⟩] := by kernel_rfl
theorem fc68_all : allPlaces Try.prog 68 = true := by kernel_rfl
theorem fc68_o0 : fieldOff Try.prog 68 0 = some 0 := by kernel_rfl
theorem fc68_f0 : fieldT Try.prog 68 0 = some (0, 1, false) := by kernel_rfl
theorem fc68_p0 : placeT Try.prog 68 0 = some (0, 1) := by kernel_rfl
theorem fc68_o1 : fieldOff Try.prog 68 1 = some 1 := by kernel_rfl
theorem fc68_f1 : fieldT Try.prog 68 1 = some (1, 1, false) := by kernel_rfl
theorem fc68_p1 : placeT Try.prog 68 1 = some (1, 1) := by kernel_rfl
theorem fc68_o2 : fieldOff Try.prog 68 2 = some 2 := by kernel_rfl
theorem fc68_f2 : fieldT Try.prog 68 2 = some (2, 1, false) := by kernel_rfl
theorem fc68_p2 : placeT Try.prog 68 2 = some (2, 1) := by kernel_rfl
theorem fc68_o3 : fieldOff Try.prog 68 3 = some 3 := by kernel_rfl
theorem fc68_f3 : fieldT Try.prog 68 3 = some (3, 1, false) := by kernel_rfl
theorem fc68_p3 : placeT Try.prog 68 3 = some (3, 1) := by kernel_rfl
theorem fc69_load : loadT Try.prog 69 = some (0, true) := by kernel_rfl
theorem fc69_size : tySize Try.prog 69 = some 0 := by kernel_rfl
theorem fc69_zero : zeroT Try.prog 69 = some [] := by kernel_rfl
theorem fc69_arr : arrT Try.prog 69 = some (0, 1, false) := by kernel_rfl
theorem fc69_sl : sliceT Try.prog 69 = none := by kernel_rfl
theorem fc69_all : allPlaces Try.prog 69 = true := by kernel_rfl
theorem fc70_load : loadT Try.prog 70 = some (0, true) := by kernel_rfl
theorem fc70_size : tySize Try.prog 70 = some 0 := by kernel_rfl
theorem fc70_zero : zeroT Try.prog 70 = some [] := by kernel_rfl
theorem fc70_all : allPlaces Try.prog 70 = true := by kernel_rfl
theorem fc70_f0 : fieldT Try.prog 70 0 = some (0, 0, true) := by kernel_rfl
theorem fc70_p0 : placeT Try.prog 70 0 = some (0, 0) := by kernel_rfl
theorem fc71_load : loadT Try.prog 71 = some (0, true) := by kernel_rfl
theorem fc71_size : tySize Try.prog 71 = some 0 := by kernel_rfl
theorem fc71_zero : zeroT Try.prog 71 = some [] := by kernel_rfl
theorem fc71_all : allPlaces Try.prog 71 = true := by kernel_rfl
theorem fc71_f0 : fieldT Try.prog 71 0 = some (0, 0, true) := by kernel_rfl
theorem fc71_p0 : placeT Try.prog 71 0 = some (0, 0) := by kernel_rfl
theorem fc72_load : loadT Try.prog 72 = some (1, false) := by kernel_rfl
theorem fc72_size : tySize Try.prog 72 = some 1 := by kernel_rfl
theorem fc72_int : intT Try.prog 72 = some .u32 := by kernel_rfl
theorem fc72_isb : isBoolT Try.prog 72 = false := by kernel_rfl
theorem fc72_u : Try.prog.underlying 72 = some (.int .u32) := by kernel_rfl
theorem fc72_zero : zeroT Try.prog 72 = some [.int .u32 0] := by kernel_rfl
theorem fc73_load : loadT Try.prog 73 = some (1, false) := by kernel_rfl
theorem fc73_size : tySize Try.prog 73 = some 1 := by kernel_rfl
theorem fc73_int : intT Try.prog 73 = some .u8 := by kernel_rfl
theorem fc73_isb : isBoolT Try.prog 73 = false := by kernel_rfl
theorem fc73_u : Try.prog.underlying 73 = some (.int .u8) := by kernel_rfl
theorem fc73_zero : zeroT Try.prog 73 = some [.int .u8 0] := by kernel_rfl
theorem fc74_load : loadT Try.prog 74 = some (1, false) := by kernel_rfl
theorem fc74_size : tySize Try.prog 74 = some 1 := by kernel_rfl
theorem fc74_int : intT Try.prog 74 = some .u8 := by kernel_rfl
theorem fc74_isb : isBoolT Try.prog 74 = false := by kernel_rfl
theorem fc74_u : Try.prog.underlying 74 = some (.int .u8) := by kernel_rfl
theorem fc74_zero : zeroT Try.prog 74 = some [.int .u8 0] := by kernel_rfl
theorem fc75_load : loadT Try.prog 75 = some (1, false) := by kernel_rfl
theorem fc75_size : tySize Try.prog 75 = some 1 := by kernel_rfl
theorem fc75_zero : zeroT Try.prog 75 = some [.nilFunc] := by kernel_rfl
theorem fc76_load : loadT Try.prog 76 = some (1, false) := by kernel_rfl
theorem fc76_size : tySize Try.prog 76 = some 1 := by kernel_rfl
theorem fc76_zero : zeroT Try.prog 76 = some [.pointer none] := by kernel_rfl
theorem fc76_sl : sliceT Try.prog 76 = none := by kernel_rfl
theorem fc77_load : loadT Try.prog 77 = some (1, false) := by kernel_rfl
theorem fc77_size : tySize Try.prog 77 = some 1 := by kernel_rfl
theorem fc77_int : intT Try.prog 77 = some .i32 := by kernel_rfl
theorem fc77_isb : isBoolT Try.prog 77 = false := by kernel_rfl
theorem fc77_u : Try.prog.underlying 77 = some (.int .i32) := by kernel_rfl
theorem fc77_zero : zeroT Try.prog 77 = some [.int .i32 0] := by kernel_rfl
theorem fc78_load : loadT Try.prog 78 = some (1, false) := by kernel_rfl
theorem fc78_size : tySize Try.prog 78 = some 1 := by kernel_rfl
theorem fc78_int : intT Try.prog 78 = some .i32 := by kernel_rfl
theorem fc78_isb : isBoolT Try.prog 78 = false := by kernel_rfl
theorem fc78_u : Try.prog.underlying 78 = some (.int .i32) := by kernel_rfl
theorem fc78_zero : zeroT Try.prog 78 = some [.int .i32 0] := by kernel_rfl
theorem fc79_load : loadT Try.prog 79 = some (11, true) := by kernel_rfl
theorem fc79_size : tySize Try.prog 79 = some 11 := by kernel_rfl
theorem fc79_zero : zeroT Try.prog 79 = some [.int .u64 0, .int .u64 0, .int .u32 0, .int .u8 0, .int .u8 0, .int .u8 0, .int .u8 0, .nilFunc, .pointer none, .int .i32 0, .int .i32 0] := by kernel_rfl
theorem fc79_all : allPlaces Try.prog 79 = true := by kernel_rfl
theorem fc79_o0 : fieldOff Try.prog 79 0 = some 0 := by kernel_rfl
theorem fc79_f0 : fieldT Try.prog 79 0 = some (0, 1, false) := by kernel_rfl
theorem fc79_p0 : placeT Try.prog 79 0 = some (0, 1) := by kernel_rfl
theorem fc79_o1 : fieldOff Try.prog 79 1 = some 1 := by kernel_rfl
theorem fc79_f1 : fieldT Try.prog 79 1 = some (1, 1, false) := by kernel_rfl
theorem fc79_p1 : placeT Try.prog 79 1 = some (1, 1) := by kernel_rfl
theorem fc79_o2 : fieldOff Try.prog 79 2 = some 2 := by kernel_rfl
theorem fc79_f2 : fieldT Try.prog 79 2 = some (2, 1, false) := by kernel_rfl
theorem fc79_p2 : placeT Try.prog 79 2 = some (2, 1) := by kernel_rfl
theorem fc79_o3 : fieldOff Try.prog 79 3 = some 3 := by kernel_rfl
theorem fc79_f3 : fieldT Try.prog 79 3 = some (3, 1, false) := by kernel_rfl
theorem fc79_p3 : placeT Try.prog 79 3 = some (3, 1) := by kernel_rfl
theorem fc79_o4 : fieldOff Try.prog 79 4 = some 4 := by kernel_rfl
theorem fc79_f4 : fieldT Try.prog 79 4 = some (4, 1, false) := by kernel_rfl
theorem fc79_p4 : placeT Try.prog 79 4 = some (4, 1) := by kernel_rfl
theorem fc79_o5 : fieldOff Try.prog 79 5 = some 5 := by kernel_rfl
theorem fc79_f5 : fieldT Try.prog 79 5 = some (5, 1, false) := by kernel_rfl
theorem fc79_p5 : placeT Try.prog 79 5 = some (5, 1) := by kernel_rfl
theorem fc79_o6 : fieldOff Try.prog 79 6 = some 6 := by kernel_rfl
theorem fc79_f6 : fieldT Try.prog 79 6 = some (6, 1, false) := by kernel_rfl
theorem fc79_p6 : placeT Try.prog 79 6 = some (6, 1) := by kernel_rfl
theorem fc79_o7 : fieldOff Try.prog 79 7 = some 7 := by kernel_rfl
theorem fc79_f7 : fieldT Try.prog 79 7 = some (7, 1, false) := by kernel_rfl
theorem fc79_p7 : placeT Try.prog 79 7 = some (7, 1) := by kernel_rfl
theorem fc79_o8 : fieldOff Try.prog 79 8 = some 8 := by kernel_rfl
theorem fc79_f8 : fieldT Try.prog 79 8 = some (8, 1, false) := by kernel_rfl
theorem fc79_p8 : placeT Try.prog 79 8 = some (8, 1) := by kernel_rfl
theorem fc79_o9 : fieldOff Try.prog 79 9 = some 9 := by kernel_rfl
theorem fc79_f9 : fieldT Try.prog 79 9 = some (9, 1, false) := by kernel_rfl
theorem fc79_p9 : placeT Try.prog 79 9 = some (9, 1) := by kernel_rfl
theorem fc79_o10 : fieldOff Try.prog 79 10 = some 10 := by kernel_rfl
theorem fc79_f10 : fieldT Try.prog 79 10 = some (10, 1, false) := by kernel_rfl
theorem fc79_p10 : placeT Try.prog 79 10 = some (10, 1) := by kernel_rfl
theorem fc80_load : loadT Try.prog 80 = some (11, true) := by kernel_rfl
theorem fc80_size : tySize Try.prog 80 = some 11 := by kernel_rfl
theorem fc80_zero : zeroT Try.prog 80 = some [.int .u64 0, .int .u64 0, .int .u32 0, .int .u8 0, .int .u8 0, .int .u8 0, .int .u8 0, .nilFunc, .pointer none, .int .i32 0, .int .i32 0] := by kernel_rfl
theorem fc80_all : allPlaces Try.prog 80 = true := by kernel_rfl
theorem fc80_o0 : fieldOff Try.prog 80 0 = some 0 := by kernel_rfl
theorem fc80_f0 : fieldT Try.prog 80 0 = some (0, 1, false) := by kernel_rfl
theorem fc80_p0 : placeT Try.prog 80 0 = some (0, 1) := by kernel_rfl
theorem fc80_o1 : fieldOff Try.prog 80 1 = some 1 := by kernel_rfl
theorem fc80_f1 : fieldT Try.prog 80 1 = some (1, 1, false) := by kernel_rfl
theorem fc80_p1 : placeT Try.prog 80 1 = some (1, 1) := by kernel_rfl
theorem fc80_o2 : fieldOff Try.prog 80 2 = some 2 := by kernel_rfl
theorem fc80_f2 : fieldT Try.prog 80 2 = some (2, 1, false) := by kernel_rfl
theorem fc80_p2 : placeT Try.prog 80 2 = some (2, 1) := by kernel_rfl
theorem fc80_o3 : fieldOff Try.prog 80 3 = some 3 := by kernel_rfl
theorem fc80_f3 : fieldT Try.prog 80 3 = some (3, 1, false) := by kernel_rfl
theorem fc80_p3 : placeT Try.prog 80 3 = some (3, 1) := by kernel_rfl
theorem fc80_o4 : fieldOff Try.prog 80 4 = some 4 := by kernel_rfl
theorem fc80_f4 : fieldT Try.prog 80 4 = some (4, 1, false) := by kernel_rfl
theorem fc80_p4 : placeT Try.prog 80 4 = some (4, 1) := by kernel_rfl
theorem fc80_o5 : fieldOff Try.prog 80 5 = some 5 := by kernel_rfl
theorem fc80_f5 : fieldT Try.prog 80 5 = some (5, 1, false) := by kernel_rfl
theorem fc80_p5 : placeT Try.prog 80 5 = some (5, 1) := by kernel_rfl
theorem fc80_o6 : fieldOff Try.prog 80 6 = some 6 := by kernel_rfl
theorem fc80_f6 : fieldT Try.prog 80 6 = some (6, 1, false) := by kernel_rfl
theorem fc80_p6 : placeT Try.prog 80 6 = some (6, 1) := by kernel_rfl
theorem fc80_o7 : fieldOff Try.prog 80 7 = some 7 := by kernel_rfl
theorem fc80_f7 : fieldT Try.prog 80 7 = some (7, 1, false) := by kernel_rfl
theorem fc80_p7 : placeT Try.prog 80 7 = some (7, 1) := by kernel_rfl
theorem fc80_o8 : fieldOff Try.prog 80 8 = some 8 := by kernel_rfl
theorem fc80_f8 : fieldT Try.prog 80 8 = some (8, 1, false) := by kernel_rfl
theorem fc80_p8 : placeT Try.prog 80 8 = some (8, 1) := by kernel_rfl
theorem fc80_o9 : fieldOff Try.prog 80 9 = some 9 := by kernel_rfl
theorem fc80_f9 : fieldT Try.prog 80 9 = some (9, 1, false) := by kernel_rfl
theorem fc80_p9 : placeT Try.prog 80 9 = some (9, 1) := by kernel_rfl
theorem fc80_o10 : fieldOff Try.prog 80 10 = some 10 := by kernel_rfl
theorem fc80_f10 : fieldT Try.prog 80 10 = some (10, 1, false) := by kernel_rfl
theorem fc80_p10 : placeT Try.prog 80 10 = some (10, 1) := by kernel_rfl
attribute [go_sem] fc1_load fc1_size fc1_zero fc2_load fc2_size fc2_int fc2_isb fc2_u fc2_zero fc3_load fc3_size fc3_int fc3_isb fc3_u fc3_zero fc4_load fc4_size fc4_isb fc4_zero fc5_load fc5_size fc5_int fc5_isb fc5_u fc5_zero fc6_load fc6_size fc6_int fc6_isb fc6_u fc6_zero fc7_load fc7_size fc7_zero fc7_eq fc7_all fc7_o0 fc7_f0 fc7_p0 fc7_o1 fc7_f1 fc7_p1 fc7_o2 fc7_f2 fc7_p2 fc7_o3 fc7_f3 fc7_p3 fc8_load fc8_size fc8_zero fc8_eq fc8_all fc8_o0 fc8_f0 fc8_p0 fc8_o1 fc8_f1 fc8_p1 fc8_o2 fc8_f2 fc8_p2 fc8_o3 fc8_f3 fc8_p3 fc9_load fc9_size fc9_iss fc9_zero fc10_load fc10_size fc10_iss fc10_zero fc11_load fc11_size fc11_iss fc11_zero fc12_load fc12_size fc12_int fc12_isb fc12_u fc12_zero fc13_load fc13_size fc13_zero fc13_all fc13_o0 fc13_f0 fc13_p0 fc13_o1 fc13_f1 fc13_p1 fc14_load fc14_size fc14_zero fc14_all fc14_o0 fc14_f0 fc14_p0 fc14_o1 fc14_f1 fc14_p1 fc15_load fc15_size fc15_zero fc15_sl fc16_load fc16_size fc16_zero fc16_sl fc17_load fc17_size fc17_zero fc17_sl fc18_load fc18_size fc18_zero fc18_all fc18_o0 fc18_f0 fc18_p0 fc19_load fc19_size fc19_zero fc19_all fc19_o0 fc19_f0 fc19_p0 fc21_load fc21_size fc21_int fc21_isb fc21_u fc21_zero fc22_load fc22_size fc22_zero fc22_sl fc22_arr fc22_app fc22_z1 fc23_load fc23_size fc23_zero fc24_load fc24_size fc24_zero fc24_sl fc24_arr fc24_app fc24_z1 fc25_load fc25_size fc25_zero fc25_sl fc25_arr fc25_app fc25_z1 fc27_load fc27_size fc27_zero fc29_load fc29_size fc29_zero fc30_load fc30_size fc30_zero fc32_load fc32_size fc32_zero fc33_load fc33_size fc33_zero fc34_load fc34_size fc34_zero fc36_load fc36_size fc36_zero fc37_load fc37_size fc37_zero fc38_load fc38_size fc38_zero fc38_sl fc39_load fc39_size fc39_int fc39_isb fc39_u fc39_zero fc40_load fc40_size fc40_zero fc40_all fc40_o0 fc40_f0 fc40_p0 fc40_o1 fc40_f1 fc40_p1 fc40_o2 fc40_f2 fc40_p2 fc41_load fc41_size fc41_zero fc41_all fc41_o0 fc41_f0 fc41_p0 fc41_o1 fc41_f1 fc41_p1 fc41_o2 fc41_f2 fc41_p2 fc42_load fc42_size fc42_zero fc43_load fc43_size fc43_zero fc44_load fc44_size fc44_zero fc45_load fc45_size fc45_zero fc46_load fc46_size fc46_zero fc47_load fc47_size fc47_zero fc48_load fc48_size fc48_zero fc49_load fc49_size fc49_zero fc50_load fc50_size fc50_zero fc51_load fc51_size fc51_zero fc53_load fc53_size fc53_zero fc54_load fc54_size fc54_zero fc55_load fc55_size fc55_zero fc55_eq fc55_all fc55_o0 fc55_f0 fc55_p0 fc55_o1 fc55_f1 fc55_p1 fc55_o2 fc55_f2 fc55_p2 fc56_load fc56_size fc56_zero fc56_eq fc56_all fc56_o0 fc56_f0 fc56_p0 fc56_o1 fc56_f1 fc56_p1 fc56_o2 fc56_f2 fc56_p2 fc57_load fc57_size fc57_zero fc58_load fc58_size fc58_zero fc59_load fc59_size fc59_zero fc60_load fc60_size fc60_zero fc61_load fc61_size fc61_zero fc62_load fc62_size fc62_int fc62_isb fc62_u fc62_zero fc63_load fc63_size fc63_zero fc64_load fc64_size fc64_zero fc65_load fc65_size fc65_zero fc66_load fc66_size fc66_zero fc67_load fc67_size fc67_zero fc67_all fc67_o0 fc67_f0 fc67_p0 fc67_o1 fc67_f1 fc67_p1 fc67_o2 fc67_f2 fc67_p2 fc67_o3 fc67_f3 fc67_p3 fc68_load fc68_size fc68_zero fc68_all fc68_o0 fc68_f0 fc68_p0 fc68_o1 fc68_f1 fc68_p1 fc68_o2 fc68_f2 fc68_p2 fc68_o3 fc68_f3 fc68_p3 fc69_load fc69_size fc69_zero fc69_arr fc69_sl fc69_all fc70_load fc70_size fc70_zero fc70_all fc70_f0 fc70_p0 fc71_load fc71_size fc71_zero fc71_all fc71_f0 fc71_p0 fc72_load fc72_size fc72_int fc72_isb fc72_u fc72_zero fc73_load fc73_size fc73_int fc73_isb fc73_u fc73_zero fc74_load fc74_size fc74_int fc74_isb fc74_u fc74_zero fc75_load fc75_size fc75_zero fc76_load fc76_size fc76_zero fc76_sl fc77_load fc77_size fc77_int fc77_isb fc77_u fc77_zero fc78_load fc78_size fc78_int fc78_isb fc78_u fc78_zero fc79_load fc79_size fc79_zero fc79_all fc79_o0 fc79_f0 fc79_p0 fc79_o1 fc79_f1 fc79_p1 fc79_o2 fc79_f2 fc79_p2 fc79_o3 fc79_f3 fc79_p3 fc79_o4 fc79_f4 fc79_p4 fc79_o5 fc79_f5 fc79_p5 fc79_o6 fc79_f6 fc79_p6 fc79_o7 fc79_f7 fc79_p7 fc79_o8 fc79_f8 fc79_p8 fc79_o9 fc79_f9 fc79_p9 fc79_o10 fc79_f10 fc79_p10 fc80_load fc80_size fc80_zero fc80_all fc80_o0 fc80_f0 fc80_p0 fc80_o1 fc80_f1 fc80_p1 fc80_o2 fc80_f2 fc80_p2 fc80_o3 fc80_f3 fc80_p3 fc80_o4 fc80_f4 fc80_p4 fc80_o5 fc80_f5 fc80_p5 fc80_o6 fc80_f6 fc80_p6 fc80_o7 fc80_f7 fc80_p7 fc80_o8 fc80_f8 fc80_p8 fc80_o9 fc80_f9 fc80_p9 fc80_o10 fc80_f10 fc80_p10
end Go.Proofs.Ythajahknincjjaa
