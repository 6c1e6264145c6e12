/- The closed facts on the types of this seat's program, each by the kernel. Written by program. -/
import Derived.Test.YtaehphcaiabdmaaAm10
import Derived.Test.YtaehphcaiabdmaaRows
namespace Go.Proofs.Ytaehphcaiabdmaa
open Go.Am
theorem fc1_load : loadT Try.prog 1 = some (1, false) := by kernel_rfl
theorem fc1_size : tySize Try.prog 1 = some 1 := by kernel_rfl
theorem fc1_zero : zeroT Try.prog 1 = some [.nilFunc] := by kernel_rfl
theorem fc2_load : loadT Try.prog 2 = some (1, false) := by kernel_rfl
theorem fc2_size : tySize Try.prog 2 = some 1 := by kernel_rfl
theorem fc2_int : intT Try.prog 2 = some .i64 := by kernel_rfl
theorem fc2_isb : isBoolT Try.prog 2 = false := by kernel_rfl
theorem fc2_u : Try.prog.underlying 2 = some (.int .i64) := by kernel_rfl
theorem fc2_zero : zeroT Try.prog 2 = some [.int .i64 0] := by kernel_rfl
theorem fc3_load : loadT Try.prog 3 = some (1, false) := by kernel_rfl
theorem fc3_size : tySize Try.prog 3 = some 1 := by kernel_rfl
theorem fc3_int : intT Try.prog 3 = some .i64 := by kernel_rfl
theorem fc3_isb : isBoolT Try.prog 3 = false := by kernel_rfl
theorem fc3_u : Try.prog.underlying 3 = some (.int .i64) := by kernel_rfl
theorem fc3_zero : zeroT Try.prog 3 = some [.int .i64 0] := by kernel_rfl
theorem fc4_load : loadT Try.prog 4 = some (1, false) := by kernel_rfl
theorem fc4_size : tySize Try.prog 4 = some 1 := by kernel_rfl
theorem fc4_isb : isBoolT Try.prog 4 = true := by kernel_rfl
theorem fc4_zero : zeroT Try.prog 4 = some [.bool false] := by kernel_rfl
theorem fc5_load : loadT Try.prog 5 = some (1, false) := by kernel_rfl
theorem fc5_size : tySize Try.prog 5 = some 1 := by kernel_rfl
theorem fc5_int : intT Try.prog 5 = some .u8 := by kernel_rfl
theorem fc5_isb : isBoolT Try.prog 5 = false := by kernel_rfl
theorem fc5_u : Try.prog.underlying 5 = some (.int .u8) := by kernel_rfl
theorem fc5_zero : zeroT Try.prog 5 = some [.int .u8 0] := by kernel_rfl
theorem fc6_load : loadT Try.prog 6 = some (1, false) := by kernel_rfl
theorem fc6_size : tySize Try.prog 6 = some 1 := by kernel_rfl
theorem fc6_int : intT Try.prog 6 = some .u8 := by kernel_rfl
theorem fc6_isb : isBoolT Try.prog 6 = false := by kernel_rfl
theorem fc6_u : Try.prog.underlying 6 = some (.int .u8) := by kernel_rfl
theorem fc6_zero : zeroT Try.prog 6 = some [.int .u8 0] := by kernel_rfl
theorem fc7_load : loadT Try.prog 7 = some (4, true) := by kernel_rfl
theorem fc7_size : tySize Try.prog 7 = some 4 := by kernel_rfl
theorem fc7_zero : zeroT Try.prog 7 = some [.int .i64 0, .int .i64 0, .bool false, .int .u8 0] := by kernel_rfl
theorem fc7_all : allPlaces Try.prog 7 = true := by kernel_rfl
theorem fc7_o0 : fieldOff Try.prog 7 0 = some 0 := by kernel_rfl
theorem fc7_f0 : fieldT Try.prog 7 0 = some (0, 1, false) := by kernel_rfl
theorem fc7_p0 : placeT Try.prog 7 0 = some (0, 1) := by kernel_rfl
theorem fc7_o1 : fieldOff Try.prog 7 1 = some 1 := by kernel_rfl
theorem fc7_f1 : fieldT Try.prog 7 1 = some (1, 1, false) := by kernel_rfl
theorem fc7_p1 : placeT Try.prog 7 1 = some (1, 1) := by kernel_rfl
theorem fc7_o2 : fieldOff Try.prog 7 2 = some 2 := by kernel_rfl
theorem fc7_f2 : fieldT Try.prog 7 2 = some (2, 1, false) := by kernel_rfl
theorem fc7_p2 : placeT Try.prog 7 2 = some (2, 1) := by kernel_rfl
theorem fc7_o3 : fieldOff Try.prog 7 3 = some 3 := by kernel_rfl
theorem fc7_f3 : fieldT Try.prog 7 3 = some (3, 1, false) := by kernel_rfl
theorem fc7_p3 : placeT Try.prog 7 3 = some (3, 1) := by kernel_rfl
theorem fc8_load : loadT Try.prog 8 = some (4, true) := by kernel_rfl
theorem fc8_size : tySize Try.prog 8 = some 4 := by kernel_rfl
theorem fc8_zero : zeroT Try.prog 8 = some [.int .i64 0, .int .i64 0, .bool false, .int .u8 0] := by kernel_rfl
theorem fc8_all : allPlaces Try.prog 8 = true := by kernel_rfl
theorem fc8_o0 : fieldOff Try.prog 8 0 = some 0 := by kernel_rfl
theorem fc8_f0 : fieldT Try.prog 8 0 = some (0, 1, false) := by kernel_rfl
theorem fc8_p0 : placeT Try.prog 8 0 = some (0, 1) := by kernel_rfl
theorem fc8_o1 : fieldOff Try.prog 8 1 = some 1 := by kernel_rfl
theorem fc8_f1 : fieldT Try.prog 8 1 = some (1, 1, false) := by kernel_rfl
theorem fc8_p1 : placeT Try.prog 8 1 = some (1, 1) := by kernel_rfl
theorem fc8_o2 : fieldOff Try.prog 8 2 = some 2 := by kernel_rfl
theorem fc8_f2 : fieldT Try.prog 8 2 = some (2, 1, false) := by kernel_rfl
theorem fc8_p2 : placeT Try.prog 8 2 = some (2, 1) := by kernel_rfl
theorem fc8_o3 : fieldOff Try.prog 8 3 = some 3 := by kernel_rfl
theorem fc8_f3 : fieldT Try.prog 8 3 = some (3, 1, false) := by kernel_rfl
theorem fc8_p3 : placeT Try.prog 8 3 = some (3, 1) := by kernel_rfl
theorem fc9_load : loadT Try.prog 9 = some (1, false) := by kernel_rfl
theorem fc9_size : tySize Try.prog 9 = some 1 := by kernel_rfl
theorem fc9_iss : isStrT Try.prog 9 = true := by kernel_rfl
theorem fc9_zero : zeroT Try.prog 9 = some [.string ⟨#[]⟩] := by kernel_rfl
theorem fc10_load : loadT Try.prog 10 = some (1, false) := by kernel_rfl
theorem fc10_size : tySize Try.prog 10 = some 1 := by kernel_rfl
theorem fc10_iss : isStrT Try.prog 10 = true := by kernel_rfl
theorem fc10_zero : zeroT Try.prog 10 = some [.string ⟨#[]⟩] := by kernel_rfl
theorem fc11_load : loadT Try.prog 11 = some (1, false) := by kernel_rfl
theorem fc11_size : tySize Try.prog 11 = some 1 := by kernel_rfl
theorem fc11_iss : isStrT Try.prog 11 = true := by kernel_rfl
theorem fc11_zero : zeroT Try.prog 11 = some [.string ⟨#[]⟩] := by kernel_rfl
theorem fc12_load : loadT Try.prog 12 = some (1, false) := by kernel_rfl
theorem fc12_size : tySize Try.prog 12 = some 1 := by kernel_rfl
theorem fc12_int : intT Try.prog 12 = some .u64 := by kernel_rfl
theorem fc12_isb : isBoolT Try.prog 12 = false := by kernel_rfl
theorem fc12_u : Try.prog.underlying 12 = some (.int .u64) := by kernel_rfl
theorem fc12_zero : zeroT Try.prog 12 = some [.int .u64 0] := by kernel_rfl
theorem fc13_load : loadT Try.prog 13 = some (2, true) := by kernel_rfl
theorem fc13_size : tySize Try.prog 13 = some 2 := by kernel_rfl
theorem fc13_zero : zeroT Try.prog 13 = some [.string ⟨#[]⟩, .int .u64 0] := by kernel_rfl
theorem fc13_all : allPlaces Try.prog 13 = true := by kernel_rfl
theorem fc13_o0 : fieldOff Try.prog 13 0 = some 0 := by kernel_rfl
theorem fc13_f0 : fieldT Try.prog 13 0 = some (0, 1, false) := by kernel_rfl
theorem fc13_p0 : placeT Try.prog 13 0 = some (0, 1) := by kernel_rfl
theorem fc13_o1 : fieldOff Try.prog 13 1 = some 1 := by kernel_rfl
theorem fc13_f1 : fieldT Try.prog 13 1 = some (1, 1, false) := by kernel_rfl
theorem fc13_p1 : placeT Try.prog 13 1 = some (1, 1) := by kernel_rfl
theorem fc14_load : loadT Try.prog 14 = some (2, true) := by kernel_rfl
theorem fc14_size : tySize Try.prog 14 = some 2 := by kernel_rfl
theorem fc14_zero : zeroT Try.prog 14 = some [.string ⟨#[]⟩, .int .u64 0] := by kernel_rfl
theorem fc14_all : allPlaces Try.prog 14 = true := by kernel_rfl
theorem fc14_o0 : fieldOff Try.prog 14 0 = some 0 := by kernel_rfl
theorem fc14_f0 : fieldT Try.prog 14 0 = some (0, 1, false) := by kernel_rfl
theorem fc14_p0 : placeT Try.prog 14 0 = some (0, 1) := by kernel_rfl
theorem fc14_o1 : fieldOff Try.prog 14 1 = some 1 := by kernel_rfl
theorem fc14_f1 : fieldT Try.prog 14 1 = some (1, 1, false) := by kernel_rfl
theorem fc14_p1 : placeT Try.prog 14 1 = some (1, 1) := by kernel_rfl
theorem fc15_load : loadT Try.prog 15 = some (1, false) := by kernel_rfl
theorem fc15_size : tySize Try.prog 15 = some 1 := by kernel_rfl
theorem fc15_zero : zeroT Try.prog 15 = some [.pointer none] := by kernel_rfl
theorem fc15_sl : sliceT Try.prog 15 = none := by kernel_rfl
theorem fc16_load : loadT Try.prog 16 = some (1, false) := by kernel_rfl
theorem fc16_size : tySize Try.prog 16 = some 1 := by kernel_rfl
theorem fc16_zero : zeroT Try.prog 16 = some [.pointer none] := by kernel_rfl
theorem fc16_sl : sliceT Try.prog 16 = none := by kernel_rfl
theorem fc17_load : loadT Try.prog 17 = some (1, false) := by kernel_rfl
theorem fc17_size : tySize Try.prog 17 = some 1 := by kernel_rfl
theorem fc17_zero : zeroT Try.prog 17 = some [.pointer none] := by kernel_rfl
theorem fc17_sl : sliceT Try.prog 17 = none := by kernel_rfl
theorem fc18_load : loadT Try.prog 18 = some (1, true) := by kernel_rfl
theorem fc18_size : tySize Try.prog 18 = some 1 := by kernel_rfl
theorem fc18_zero : zeroT Try.prog 18 = some [.pointer none] := by kernel_rfl
theorem fc18_all : allPlaces Try.prog 18 = true := by kernel_rfl
theorem fc18_o0 : fieldOff Try.prog 18 0 = some 0 := by kernel_rfl
theorem fc18_f0 : fieldT Try.prog 18 0 = some (0, 1, false) := by kernel_rfl
theorem fc18_p0 : placeT Try.prog 18 0 = some (0, 1) := by kernel_rfl
theorem fc19_load : loadT Try.prog 19 = some (1, true) := by kernel_rfl
theorem fc19_size : tySize Try.prog 19 = some 1 := by kernel_rfl
theorem fc19_zero : zeroT Try.prog 19 = some [.pointer none] := by kernel_rfl
theorem fc19_all : allPlaces Try.prog 19 = true := by kernel_rfl
theorem fc19_o0 : fieldOff Try.prog 19 0 = some 0 := by kernel_rfl
theorem fc19_f0 : fieldT Try.prog 19 0 = some (0, 1, false) := by kernel_rfl
theorem fc19_p0 : placeT Try.prog 19 0 = some (0, 1) := by kernel_rfl
theorem fc21_load : loadT Try.prog 21 = some (1, false) := by kernel_rfl
theorem fc21_size : tySize Try.prog 21 = some 1 := by kernel_rfl
theorem fc21_int : intT Try.prog 21 = some .i32 := by kernel_rfl
theorem fc21_isb : isBoolT Try.prog 21 = false := by kernel_rfl
theorem fc21_u : Try.prog.underlying 21 = some (.int .i32) := by kernel_rfl
theorem fc21_zero : zeroT Try.prog 21 = some [.int .i32 0] := by kernel_rfl
theorem fc22_load : loadT Try.prog 22 = some (1, false) := by kernel_rfl
theorem fc22_size : tySize Try.prog 22 = some 1 := by kernel_rfl
theorem fc22_zero : zeroT Try.prog 22 = some [.slice none 0 0] := by kernel_rfl
theorem fc22_sl : sliceT Try.prog 22 = some (90, 4) := by kernel_rfl
theorem fc22_arr : arrT Try.prog 22 = none := by kernel_rfl
theorem fc22_app : appT Try.prog 22 = some (90, 4, 32) := by kernel_rfl
theorem fc22_z1 : zeroNT Try.prog 22 = some (90, [.int .i64 0, .int .i64 0, .int .i64 0, .int .i64 0], 32) := by kernel_rfl
theorem fc23_load : loadT Try.prog 23 = some (2, true) := by kernel_rfl
theorem fc23_size : tySize Try.prog 23 = some 2 := by kernel_rfl
theorem fc23_zero : zeroT Try.prog 23 = some [.int .i64 0, .slice none 0 0] := by kernel_rfl
theorem fc23_all : allPlaces Try.prog 23 = true := by kernel_rfl
theorem fc23_o0 : fieldOff Try.prog 23 0 = some 0 := by kernel_rfl
theorem fc23_f0 : fieldT Try.prog 23 0 = some (0, 1, false) := by kernel_rfl
theorem fc23_p0 : placeT Try.prog 23 0 = some (0, 1) := by kernel_rfl
theorem fc23_o1 : fieldOff Try.prog 23 1 = some 1 := by kernel_rfl
theorem fc23_f1 : fieldT Try.prog 23 1 = some (1, 1, false) := by kernel_rfl
theorem fc23_p1 : placeT Try.prog 23 1 = some (1, 1) := by kernel_rfl
theorem fc24_load : loadT Try.prog 24 = some (2, true) := by kernel_rfl
theorem fc24_size : tySize Try.prog 24 = some 2 := by kernel_rfl
theorem fc24_zero : zeroT Try.prog 24 = some [.int .i64 0, .slice none 0 0] := by kernel_rfl
theorem fc24_all : allPlaces Try.prog 24 = true := by kernel_rfl
theorem fc24_o0 : fieldOff Try.prog 24 0 = some 0 := by kernel_rfl
theorem fc24_f0 : fieldT Try.prog 24 0 = some (0, 1, false) := by kernel_rfl
theorem fc24_p0 : placeT Try.prog 24 0 = some (0, 1) := by kernel_rfl
theorem fc24_o1 : fieldOff Try.prog 24 1 = some 1 := by kernel_rfl
theorem fc24_f1 : fieldT Try.prog 24 1 = some (1, 1, false) := by kernel_rfl
theorem fc24_p1 : placeT Try.prog 24 1 = some (1, 1) := by kernel_rfl
theorem fc25_load : loadT Try.prog 25 = some (1, false) := by kernel_rfl
theorem fc25_size : tySize Try.prog 25 = some 1 := by kernel_rfl
theorem fc25_zero : zeroT Try.prog 25 = some [.slice none 0 0] := by kernel_rfl
theorem fc25_sl : sliceT Try.prog 25 = some (67, 4) := by kernel_rfl
theorem fc25_arr : arrT Try.prog 25 = none := by kernel_rfl
theorem fc25_app : appT Try.prog 25 = some (67, 4, 32) := by kernel_rfl
theorem fc25_z1 : zeroNT Try.prog 25 = some (67, [.int .i64 0, .int .i64 0, .int .i64 0, .bool false], 32) := by kernel_rfl
theorem fc26_load : loadT Try.prog 26 = some (1, false) := by kernel_rfl
theorem fc26_size : tySize Try.prog 26 = some 1 := by kernel_rfl
theorem fc26_zero : zeroT Try.prog 26 = some [.nilFunc] := by kernel_rfl
theorem fc27_load : loadT Try.prog 27 = some (1, false) := by kernel_rfl
theorem fc27_size : tySize Try.prog 27 = some 1 := by kernel_rfl
theorem fc27_zero : zeroT Try.prog 27 = some [.nilFunc] := by kernel_rfl
theorem fc28_load : loadT Try.prog 28 = some (1, false) := by kernel_rfl
theorem fc28_size : tySize Try.prog 28 = some 1 := by kernel_rfl
theorem fc28_zero : zeroT Try.prog 28 = some [.slice none 0 0] := by kernel_rfl
theorem fc28_sl : sliceT Try.prog 28 = some (3, 1) := by kernel_rfl
theorem fc28_arr : arrT Try.prog 28 = none := by kernel_rfl
theorem fc28_app : appT Try.prog 28 = some (3, 1, 8) := by kernel_rfl
theorem fc28_z1 : zeroNT Try.prog 28 = some (3, [.int .i64 0], 8) := by kernel_rfl
theorem fc30_load : loadT Try.prog 30 = some (1, false) := by kernel_rfl
theorem fc30_size : tySize Try.prog 30 = some 1 := by kernel_rfl
theorem fc30_zero : zeroT Try.prog 30 = some [.nilFunc] := by kernel_rfl
theorem fc31_load : loadT Try.prog 31 = some (1, false) := by kernel_rfl
theorem fc31_size : tySize Try.prog 31 = some 1 := by kernel_rfl
theorem fc31_zero : zeroT Try.prog 31 = some [.slice none 0 0] := by kernel_rfl
theorem fc31_sl : sliceT Try.prog 31 = some (88, 4) := by kernel_rfl
theorem fc31_arr : arrT Try.prog 31 = none := by kernel_rfl
theorem fc31_app : appT Try.prog 31 = some (88, 4, 32) := by kernel_rfl
theorem fc31_z1 : zeroNT Try.prog 31 = some (88, [.int .i64 0, .int .i64 0, .int .i64 0, .int .i64 0], 32) := by kernel_rfl
theorem fc32_load : loadT Try.prog 32 = some (2, true) := by kernel_rfl
theorem fc32_size : tySize Try.prog 32 = some 2 := by kernel_rfl
theorem fc32_zero : zeroT Try.prog 32 = some [.int .i64 0, .slice none 0 0] := by kernel_rfl
theorem fc32_all : allPlaces Try.prog 32 = true := by kernel_rfl
theorem fc32_o0 : fieldOff Try.prog 32 0 = some 0 := by kernel_rfl
theorem fc32_f0 : fieldT Try.prog 32 0 = some (0, 1, false) := by kernel_rfl
theorem fc32_p0 : placeT Try.prog 32 0 = some (0, 1) := by kernel_rfl
theorem fc32_o1 : fieldOff Try.prog 32 1 = some 1 := by kernel_rfl
theorem fc32_f1 : fieldT Try.prog 32 1 = some (1, 1, false) := by kernel_rfl
theorem fc32_p1 : placeT Try.prog 32 1 = some (1, 1) := by kernel_rfl
theorem fc33_load : loadT Try.prog 33 = some (2, true) := by kernel_rfl
theorem fc33_size : tySize Try.prog 33 = some 2 := by kernel_rfl
theorem fc33_zero : zeroT Try.prog 33 = some [.int .i64 0, .slice none 0 0] := by kernel_rfl
theorem fc33_all : allPlaces Try.prog 33 = true := by kernel_rfl
theorem fc33_o0 : fieldOff Try.prog 33 0 = some 0 := by kernel_rfl
theorem fc33_f0 : fieldT Try.prog 33 0 = some (0, 1, false) := by kernel_rfl
theorem fc33_p0 : placeT Try.prog 33 0 = some (0, 1) := by kernel_rfl
theorem fc33_o1 : fieldOff Try.prog 33 1 = some 1 := by kernel_rfl
theorem fc33_f1 : fieldT Try.prog 33 1 = some (1, 1, false) := by kernel_rfl
theorem fc33_p1 : placeT Try.prog 33 1 = some (1, 1) := by kernel_rfl
theorem fc34_load : loadT Try.prog 34 = some (1, false) := by kernel_rfl
theorem fc34_size : tySize Try.prog 34 = some 1 := by kernel_rfl
theorem fc34_zero : zeroT Try.prog 34 = some [.nilFunc] := by kernel_rfl
theorem fc35_load : loadT Try.prog 35 = some (1, false) := by kernel_rfl
theorem fc35_size : tySize Try.prog 35 = some 1 := by kernel_rfl
theorem fc35_zero : zeroT Try.prog 35 = some [.slice none 0 0] := by kernel_rfl
theorem fc35_sl : sliceT Try.prog 35 = some (65, 4) := by kernel_rfl
theorem fc35_arr : arrT Try.prog 35 = none := by kernel_rfl
theorem fc35_app : appT Try.prog 35 = some (65, 4, 32) := by kernel_rfl
theorem fc35_z1 : zeroNT Try.prog 35 = some (65, [.int .i64 0, .int .i64 0, .int .i64 0, .bool false], 32) := by kernel_rfl
theorem fc36_load : loadT Try.prog 36 = some (1, false) := by kernel_rfl
theorem fc36_size : tySize Try.prog 36 = some 1 := by kernel_rfl
theorem fc36_zero : zeroT Try.prog 36 = some [.nilFunc] := by kernel_rfl
theorem fc37_load : loadT Try.prog 37 = some (1, false) := by kernel_rfl
theorem fc37_size : tySize Try.prog 37 = some 1 := by kernel_rfl
theorem fc37_zero : zeroT Try.prog 37 = some [.nilFunc] := by kernel_rfl
theorem fc38_load : loadT Try.prog 38 = some (1, false) := by kernel_rfl
theorem fc38_size : tySize Try.prog 38 = some 1 := by kernel_rfl
theorem fc38_zero : zeroT Try.prog 38 = some [.nilFunc] := by kernel_rfl
theorem fc39_load : loadT Try.prog 39 = some (1, false) := by kernel_rfl
theorem fc39_size : tySize Try.prog 39 = some 1 := by kernel_rfl
theorem fc39_zero : zeroT Try.prog 39 = some [.nilFunc] := by kernel_rfl
theorem fc40_load : loadT Try.prog 40 = some (1, false) := by kernel_rfl
theorem fc40_size : tySize Try.prog 40 = some 1 := by kernel_rfl
theorem fc40_zero : zeroT Try.prog 40 = some [.nilFunc] := by kernel_rfl
theorem fc41_load : loadT Try.prog 41 = some (1, false) := by kernel_rfl
theorem fc41_size : tySize Try.prog 41 = some 1 := by kernel_rfl
theorem fc41_zero : zeroT Try.prog 41 = some [.nilFunc] := by kernel_rfl
theorem fc42_load : loadT Try.prog 42 = some (1, false) := by kernel_rfl
theorem fc42_size : tySize Try.prog 42 = some 1 := by kernel_rfl
theorem fc42_zero : zeroT Try.prog 42 = some [.nilFunc] := by kernel_rfl
theorem fc43_load : loadT Try.prog 43 = some (1, false) := by kernel_rfl
theorem fc43_size : tySize Try.prog 43 = some 1 := by kernel_rfl
theorem fc43_zero : zeroT Try.prog 43 = some [.nilFunc] := by kernel_rfl
theorem fc45_load : loadT Try.prog 45 = some (1, false) := by kernel_rfl
theorem fc45_size : tySize Try.prog 45 = some 1 := by kernel_rfl
theorem fc45_zero : zeroT Try.prog 45 = some [.nilFunc] := by kernel_rfl
theorem fc46_load : loadT Try.prog 46 = some (1, false) := by kernel_rfl
theorem fc46_size : tySize Try.prog 46 = some 1 := by kernel_rfl
theorem fc46_zero : zeroT Try.prog 46 = some [.nilFunc] := by kernel_rfl
theorem fc47_load : loadT Try.prog 47 = some (1, false) := by kernel_rfl
theorem fc47_size : tySize Try.prog 47 = some 1 := by kernel_rfl
theorem fc47_zero : zeroT Try.prog 47 = some [.nilFunc] := by kernel_rfl
theorem fc48_load : loadT Try.prog 48 = some (1, false) := by kernel_rfl
theorem fc48_size : tySize Try.prog 48 = some 1 := by kernel_rfl
theorem fc48_zero : zeroT Try.prog 48 = some [.nilFunc] := by kernel_rfl
theorem fc50_load : loadT Try.prog 50 = some (1, false) := by kernel_rfl
theorem fc50_size : tySize Try.prog 50 = some 1 := by kernel_rfl
theorem fc50_zero : zeroT Try.prog 50 = some [.nilFunc] := by kernel_rfl
theorem fc52_load : loadT Try.prog 52 = some (1, false) := by kernel_rfl
theorem fc52_size : tySize Try.prog 52 = some 1 := by kernel_rfl
theorem fc52_zero : zeroT Try.prog 52 = some [.nilFunc] := by kernel_rfl
theorem fc53_load : loadT Try.prog 53 = some (1, false) := by kernel_rfl
theorem fc53_size : tySize Try.prog 53 = some 1 := by kernel_rfl
theorem fc53_zero : zeroT Try.prog 53 = some [.nilFunc] := by kernel_rfl
theorem fc54_load : loadT Try.prog 54 = some (1, false) := by kernel_rfl
theorem fc54_size : tySize Try.prog 54 = some 1 := by kernel_rfl
theorem fc54_zero : zeroT Try.prog 54 = some [.slice none 0 0] := by kernel_rfl
theorem fc54_sl : sliceT Try.prog 54 = some (28, 1) := by kernel_rfl
theorem fc54_arr : arrT Try.prog 54 = none := by kernel_rfl
theorem fc54_app : appT Try.prog 54 = some (28, 1, 24) := by kernel_rfl
theorem fc54_z1 : zeroNT Try.prog 54 = some (28, [.slice none 0 0], 24) := by kernel_rfl
theorem fc56_load : loadT Try.prog 56 = some (1, false) := by kernel_rfl
theorem fc56_size : tySize Try.prog 56 = some 1 := by kernel_rfl
theorem fc56_zero : zeroT Try.prog 56 = some [.nilFunc] := by kernel_rfl
theorem fc57_load : loadT Try.prog 57 = some (1, false) := by kernel_rfl
theorem fc57_size : tySize Try.prog 57 = some 1 := by kernel_rfl
theorem fc57_zero : zeroT Try.prog 57 = some [.nilFunc] := by kernel_rfl
theorem fc58_load : loadT Try.prog 58 = some (1, false) := by kernel_rfl
theorem fc58_size : tySize Try.prog 58 = some 1 := by kernel_rfl
theorem fc58_zero : zeroT Try.prog 58 = some [.nilFunc] := by kernel_rfl
theorem fc59_load : loadT Try.prog 59 = some (1, false) := by kernel_rfl
theorem fc59_size : tySize Try.prog 59 = some 1 := by kernel_rfl
theorem fc59_zero : zeroT Try.prog 59 = some [.nilFunc] := by kernel_rfl
theorem fc60_load : loadT Try.prog 60 = some (1, false) := by kernel_rfl
theorem fc60_size : tySize Try.prog 60 = some 1 := by kernel_rfl
theorem fc60_zero : zeroT Try.prog 60 = some [.nilFunc] := by kernel_rfl
theorem fc61_load : loadT Try.prog 61 = some (1, false) := by kernel_rfl
theorem fc61_size : tySize Try.prog 61 = some 1 := by kernel_rfl
theorem fc61_zero : zeroT Try.prog 61 = some [.nilFunc] := by kernel_rfl
theorem fc62_load : loadT Try.prog 62 = some (1, false) := by kernel_rfl
theorem fc62_size : tySize Try.prog 62 = some 1 := by kernel_rfl
theorem fc62_zero : zeroT Try.prog 62 = some [.nilFunc] := by kernel_rfl
theorem fc63_load : loadT Try.prog 63 = some (1, false) := by kernel_rfl
theorem fc63_size : tySize Try.prog 63 = some 1 := by kernel_rfl
theorem fc63_zero : zeroT Try.prog 63 = some [.nilFunc] := by kernel_rfl
theorem fc64_load : loadT Try.prog 64 = some (4, true) := by kernel_rfl
theorem fc64_size : tySize Try.prog 64 = some 4 := by kernel_rfl
theorem fc64_zero : zeroT Try.prog 64 = some [.int .i64 0, .int .i64 0, .int .i64 0, .bool false] := by kernel_rfl
theorem fc64_all : allPlaces Try.prog 64 = true := by kernel_rfl
theorem fc64_o0 : fieldOff Try.prog 64 0 = some 0 := by kernel_rfl
theorem fc64_f0 : fieldT Try.prog 64 0 = some (0, 1, false) := by kernel_rfl
theorem fc64_p0 : placeT Try.prog 64 0 = some (0, 1) := by kernel_rfl
theorem fc64_o1 : fieldOff Try.prog 64 1 = some 1 := by kernel_rfl
theorem fc64_f1 : fieldT Try.prog 64 1 = some (1, 1, false) := by kernel_rfl
theorem fc64_p1 : placeT Try.prog 64 1 = some (1, 1) := by kernel_rfl
theorem fc64_o2 : fieldOff Try.prog 64 2 = some 2 := by kernel_rfl
theorem fc64_f2 : fieldT Try.prog 64 2 = some (2, 1, false) := by kernel_rfl
theorem fc64_p2 : placeT Try.prog 64 2 = some (2, 1) := by kernel_rfl
theorem fc64_o3 : fieldOff Try.prog 64 3 = some 3 := by kernel_rfl
theorem fc64_f3 : fieldT Try.prog 64 3 = some (3, 1, false) := by kernel_rfl
theorem fc64_p3 : placeT Try.prog 64 3 = some (3, 1) := by kernel_rfl
theorem fc65_load : loadT Try.prog 65 = some (4, true) := by kernel_rfl
theorem fc65_size : tySize Try.prog 65 = some 4 := by kernel_rfl
theorem fc65_zero : zeroT Try.prog 65 = some [.int .i64 0, .int .i64 0, .int .i64 0, .bool false] := by kernel_rfl
theorem fc65_all : allPlaces Try.prog 65 = true := by kernel_rfl
theorem fc65_o0 : fieldOff Try.prog 65 0 = some 0 := by kernel_rfl
theorem fc65_f0 : fieldT Try.prog 65 0 = some (0, 1, false) := by kernel_rfl
theorem fc65_p0 : placeT Try.prog 65 0 = some (0, 1) := by kernel_rfl
theorem fc65_o1 : fieldOff Try.prog 65 1 = some 1 := by kernel_rfl
theorem fc65_f1 : fieldT Try.prog 65 1 = some (1, 1, false) := by kernel_rfl
theorem fc65_p1 : placeT Try.prog 65 1 = some (1, 1) := by kernel_rfl
theorem fc65_o2 : fieldOff Try.prog 65 2 = some 2 := by kernel_rfl
theorem fc65_f2 : fieldT Try.prog 65 2 = some (2, 1, false) := by kernel_rfl
theorem fc65_p2 : placeT Try.prog 65 2 = some (2, 1) := by kernel_rfl
theorem fc65_o3 : fieldOff Try.prog 65 3 = some 3 := by kernel_rfl
theorem fc65_f3 : fieldT Try.prog 65 3 = some (3, 1, false) := by kernel_rfl
theorem fc65_p3 : placeT Try.prog 65 3 = some (3, 1) := by kernel_rfl
theorem fc66_load : loadT Try.prog 66 = some (1, false) := by kernel_rfl
theorem fc66_size : tySize Try.prog 66 = some 1 := by kernel_rfl
theorem fc66_zero : zeroT Try.prog 66 = some [.nilFunc] := by kernel_rfl
theorem fc67_load : loadT Try.prog 67 = some (4, true) := by kernel_rfl
theorem fc67_size : tySize Try.prog 67 = some 4 := by kernel_rfl
theorem fc67_zero : zeroT Try.prog 67 = some [.int .i64 0, .int .i64 0, .int .i64 0, .bool false] := by kernel_rfl
theorem fc67_all : allPlaces Try.prog 67 = true := by kernel_rfl
theorem fc67_o0 : fieldOff Try.prog 67 0 = some 0 := by kernel_rfl
theorem fc67_f0 : fieldT Try.prog 67 0 = some (0, 1, false) := by kernel_rfl
theorem fc67_p0 : placeT Try.prog 67 0 = some (0, 1) := by kernel_rfl
theorem fc67_o1 : fieldOff Try.prog 67 1 = some 1 := by kernel_rfl
theorem fc67_f1 : fieldT Try.prog 67 1 = some (1, 1, false) := by kernel_rfl
theorem fc67_p1 : placeT Try.prog 67 1 = some (1, 1) := by kernel_rfl
theorem fc67_o2 : fieldOff Try.prog 67 2 = some 2 := by kernel_rfl
theorem fc67_f2 : fieldT Try.prog 67 2 = some (2, 1, false) := by kernel_rfl
theorem fc67_p2 : placeT Try.prog 67 2 = some (2, 1) := by kernel_rfl
theorem fc67_o3 : fieldOff Try.prog 67 3 = some 3 := by kernel_rfl
theorem fc67_f3 : fieldT Try.prog 67 3 = some (3, 1, false) := by kernel_rfl
theorem fc67_p3 : placeT Try.prog 67 3 = some (3, 1) := by kernel_rfl
theorem fc68_load : loadT Try.prog 68 = some (1, false) := by kernel_rfl
theorem fc68_size : tySize Try.prog 68 = some 1 := by kernel_rfl
theorem fc68_zero : zeroT Try.prog 68 = some [.nilFunc] := by kernel_rfl
theorem fc69_load : loadT Try.prog 69 = some (1, false) := by kernel_rfl
theorem fc69_size : tySize Try.prog 69 = some 1 := by kernel_rfl
theorem fc69_zero : zeroT Try.prog 69 = some [.nilFunc] := by kernel_rfl
theorem fc70_load : loadT Try.prog 70 = some (1, false) := by kernel_rfl
theorem fc70_size : tySize Try.prog 70 = some 1 := by kernel_rfl
theorem fc70_zero : zeroT Try.prog 70 = some [.nilFunc] := by kernel_rfl
theorem fc71_load : loadT Try.prog 71 = some (1, false) := by kernel_rfl
theorem fc71_size : tySize Try.prog 71 = some 1 := by kernel_rfl
theorem fc71_zero : zeroT Try.prog 71 = some [.nilFunc] := by kernel_rfl
theorem fc72_load : loadT Try.prog 72 = some (1, false) := by kernel_rfl
theorem fc72_size : tySize Try.prog 72 = some 1 := by kernel_rfl
theorem fc72_zero : zeroT Try.prog 72 = some [.nilFunc] := by kernel_rfl
theorem fc74_load : loadT Try.prog 74 = some (1, false) := by kernel_rfl
theorem fc74_size : tySize Try.prog 74 = some 1 := by kernel_rfl
theorem fc74_zero : zeroT Try.prog 74 = some [.nilFunc] := by kernel_rfl
theorem fc75_load : loadT Try.prog 75 = some (1, false) := by kernel_rfl
theorem fc75_size : tySize Try.prog 75 = some 1 := by kernel_rfl
theorem fc75_zero : zeroT Try.prog 75 = some [.nilFunc] := by kernel_rfl
theorem fc76_load : loadT Try.prog 76 = some (1, false) := by kernel_rfl
theorem fc76_size : tySize Try.prog 76 = some 1 := by kernel_rfl
theorem fc76_zero : zeroT Try.prog 76 = some [.nilFunc] := by kernel_rfl
theorem fc77_load : loadT Try.prog 77 = some (1, false) := by kernel_rfl
theorem fc77_size : tySize Try.prog 77 = some 1 := by kernel_rfl
theorem fc77_zero : zeroT Try.prog 77 = some [.nilFunc] := by kernel_rfl
theorem fc78_load : loadT Try.prog 78 = some (1, false) := by kernel_rfl
theorem fc78_size : tySize Try.prog 78 = some 1 := by kernel_rfl
theorem fc78_zero : zeroT Try.prog 78 = some [.nilFunc] := by kernel_rfl
theorem fc79_load : loadT Try.prog 79 = some (1, false) := by kernel_rfl
theorem fc79_size : tySize Try.prog 79 = some 1 := by kernel_rfl
theorem fc79_zero : zeroT Try.prog 79 = some [.nilFunc] := by kernel_rfl
theorem fc80_load : loadT Try.prog 80 = some (1, false) := by kernel_rfl
theorem fc80_size : tySize Try.prog 80 = some 1 := by kernel_rfl
theorem fc80_zero : zeroT Try.prog 80 = some [.nilFunc] := by kernel_rfl
theorem fc81_load : loadT Try.prog 81 = some (1, false) := by kernel_rfl
theorem fc81_size : tySize Try.prog 81 = some 1 := by kernel_rfl
theorem fc81_zero : zeroT Try.prog 81 = some [.pointer none] := by kernel_rfl
theorem fc81_sl : sliceT Try.prog 81 = none := by kernel_rfl
theorem fc82_load : loadT Try.prog 82 = some (1, false) := by kernel_rfl
theorem fc82_size : tySize Try.prog 82 = some 1 := by kernel_rfl
theorem fc82_zero : zeroT Try.prog 82 = some [.nilFunc] := by kernel_rfl
theorem fc83_load : loadT Try.prog 83 = some (1, false) := by kernel_rfl
theorem fc83_size : tySize Try.prog 83 = some 1 := by kernel_rfl
theorem fc83_zero : zeroT Try.prog 83 = some [.nilFunc] := by kernel_rfl
theorem fc84_load : loadT Try.prog 84 = some (1, false) := by kernel_rfl
theorem fc84_size : tySize Try.prog 84 = some 1 := by kernel_rfl
theorem fc84_zero : zeroT Try.prog 84 = some [.nilFunc] := by kernel_rfl
theorem fc86_load : loadT Try.prog 86 = some (1, false) := by kernel_rfl
theorem fc86_size : tySize Try.prog 86 = some 1 := by kernel_rfl
theorem fc86_zero : zeroT Try.prog 86 = some [.nilFunc] := by kernel_rfl
theorem fc87_load : loadT Try.prog 87 = some (4, true) := by kernel_rfl
theorem fc87_size : tySize Try.prog 87 = some 4 := by kernel_rfl
theorem fc87_zero : zeroT Try.prog 87 = some [.int .i64 0, .int .i64 0, .int .i64 0, .int .i64 0] := by kernel_rfl
theorem fc87_all : allPlaces Try.prog 87 = true := by kernel_rfl
theorem fc87_o0 : fieldOff Try.prog 87 0 = some 0 := by kernel_rfl
theorem fc87_f0 : fieldT Try.prog 87 0 = some (0, 1, false) := by kernel_rfl
theorem fc87_p0 : placeT Try.prog 87 0 = some (0, 1) := by kernel_rfl
theorem fc87_o1 : fieldOff Try.prog 87 1 = some 1 := by kernel_rfl
theorem fc87_f1 : fieldT Try.prog 87 1 = some (1, 1, false) := by kernel_rfl
theorem fc87_p1 : placeT Try.prog 87 1 = some (1, 1) := by kernel_rfl
theorem fc87_o2 : fieldOff Try.prog 87 2 = some 2 := by kernel_rfl
theorem fc87_f2 : fieldT Try.prog 87 2 = some (2, 1, false) := by kernel_rfl
theorem fc87_p2 : placeT Try.prog 87 2 = some (2, 1) := by kernel_rfl
theorem fc87_o3 : fieldOff Try.prog 87 3 = some 3 := by kernel_rfl
theorem fc87_f3 : fieldT Try.prog 87 3 = some (3, 1, false) := by kernel_rfl
theorem fc87_p3 : placeT Try.prog 87 3 = some (3, 1) := by kernel_rfl
theorem fc88_load : loadT Try.prog 88 = some (4, true) := by kernel_rfl
theorem fc88_size : tySize Try.prog 88 = some 4 := by kernel_rfl
theorem fc88_zero : zeroT Try.prog 88 = some [.int .i64 0, .int .i64 0, .int .i64 0, .int .i64 0] := by kernel_rfl
theorem fc88_all : allPlaces Try.prog 88 = true := by kernel_rfl
theorem fc88_o0 : fieldOff Try.prog 88 0 = some 0 := by kernel_rfl
theorem fc88_f0 : fieldT Try.prog 88 0 = some (0, 1, false) := by kernel_rfl
theorem fc88_p0 : placeT Try.prog 88 0 = some (0, 1) := by kernel_rfl
theorem fc88_o1 : fieldOff Try.prog 88 1 = some 1 := by kernel_rfl
theorem fc88_f1 : fieldT Try.prog 88 1 = some (1, 1, false) := by kernel_rfl
theorem fc88_p1 : placeT Try.prog 88 1 = some (1, 1) := by kernel_rfl
theorem fc88_o2 : fieldOff Try.prog 88 2 = some 2 := by kernel_rfl
theorem fc88_f2 : fieldT Try.prog 88 2 = some (2, 1, false) := by kernel_rfl
theorem fc88_p2 : placeT Try.prog 88 2 = some (2, 1) := by kernel_rfl
theorem fc88_o3 : fieldOff Try.prog 88 3 = some 3 := by kernel_rfl
theorem fc88_f3 : fieldT Try.prog 88 3 = some (3, 1, false) := by kernel_rfl
theorem fc88_p3 : placeT Try.prog 88 3 = some (3, 1) := by kernel_rfl
theorem fc89_load : loadT Try.prog 89 = some (1, false) := by kernel_rfl
theorem fc89_size : tySize Try.prog 89 = some 1 := by kernel_rfl
theorem fc89_zero : zeroT Try.prog 89 = some [.nilFunc] := by kernel_rfl
theorem fc90_load : loadT Try.prog 90 = some (4, true) := by kernel_rfl
theorem fc90_size : tySize Try.prog 90 = some 4 := by kernel_rfl
theorem fc90_zero : zeroT Try.prog 90 = some [.int .i64 0, .int .i64 0, .int .i64 0, .int .i64 0] := by kernel_rfl
theorem fc90_all : allPlaces Try.prog 90 = true := by kernel_rfl
theorem fc90_o0 : fieldOff Try.prog 90 0 = some 0 := by kernel_rfl
theorem fc90_f0 : fieldT Try.prog 90 0 = some (0, 1, false) := by kernel_rfl
theorem fc90_p0 : placeT Try.prog 90 0 = some (0, 1) := by kernel_rfl
theorem fc90_o1 : fieldOff Try.prog 90 1 = some 1 := by kernel_rfl
theorem fc90_f1 : fieldT Try.prog 90 1 = some (1, 1, false) := by kernel_rfl
theorem fc90_p1 : placeT Try.prog 90 1 = some (1, 1) := by kernel_rfl
theorem fc90_o2 : fieldOff Try.prog 90 2 = some 2 := by kernel_rfl
theorem fc90_f2 : fieldT Try.prog 90 2 = some (2, 1, false) := by kernel_rfl
theorem fc90_p2 : placeT Try.prog 90 2 = some (2, 1) := by kernel_rfl
theorem fc90_o3 : fieldOff Try.prog 90 3 = some 3 := by kernel_rfl
theorem fc90_f3 : fieldT Try.prog 90 3 = some (3, 1, false) := by kernel_rfl
theorem fc90_p3 : placeT Try.prog 90 3 = some (3, 1) := by kernel_rfl
theorem fc91_load : loadT Try.prog 91 = some (1, false) := by kernel_rfl
theorem fc91_size : tySize Try.prog 91 = some 1 := by kernel_rfl
theorem fc91_zero : zeroT Try.prog 91 = some [.nilFunc] := by kernel_rfl
theorem fc92_load : loadT Try.prog 92 = some (1, false) := by kernel_rfl
theorem fc92_size : tySize Try.prog 92 = some 1 := by kernel_rfl
theorem fc92_zero : zeroT Try.prog 92 = some [.nilFunc] := by kernel_rfl
theorem fc93_load : loadT Try.prog 93 = some (1, false) := by kernel_rfl
theorem fc93_size : tySize Try.prog 93 = some 1 := by kernel_rfl
theorem fc93_zero : zeroT Try.prog 93 = some [.nilFunc] := by kernel_rfl
theorem fc94_load : loadT Try.prog 94 = some (1, false) := by kernel_rfl
theorem fc94_size : tySize Try.prog 94 = some 1 := by kernel_rfl
theorem fc94_zero : zeroT Try.prog 94 = some [.nilFunc] := by kernel_rfl
theorem fc95_load : loadT Try.prog 95 = some (1, false) := by kernel_rfl
theorem fc95_size : tySize Try.prog 95 = some 1 := by kernel_rfl
theorem fc95_zero : zeroT Try.prog 95 = some [.nilFunc] := by kernel_rfl
theorem fc96_load : loadT Try.prog 96 = some (1, false) := by kernel_rfl
theorem fc96_size : tySize Try.prog 96 = some 1 := by kernel_rfl
theorem fc96_zero : zeroT Try.prog 96 = some [.nilFunc] := by kernel_rfl
theorem fc97_load : loadT Try.prog 97 = some (1, false) := by kernel_rfl
theorem fc97_size : tySize Try.prog 97 = some 1 := by kernel_rfl
theorem fc97_zero : zeroT Try.prog 97 = some [.nilFunc] := by kernel_rfl
theorem fc98_load : loadT Try.prog 98 = some (1, false) := by kernel_rfl
theorem fc98_size : tySize Try.prog 98 = some 1 := by kernel_rfl
theorem fc98_zero : zeroT Try.prog 98 = some [.nilFunc] := by kernel_rfl
theorem fc99_load : loadT Try.prog 99 = some (1, false) := by kernel_rfl
theorem fc99_size : tySize Try.prog 99 = some 1 := by kernel_rfl
theorem fc99_int : intT Try.prog 99 = some .u64 := by kernel_rfl
theorem fc99_isb : isBoolT Try.prog 99 = false := by kernel_rfl
theorem fc99_u : Try.prog.underlying 99 = some (.int .u64) := by kernel_rfl
theorem fc99_zero : zeroT Try.prog 99 = some [.int .u64 0] := by kernel_rfl
theorem fc100_load : loadT Try.prog 100 = some (1, false) := by kernel_rfl
theorem fc100_size : tySize Try.prog 100 = some 1 := by kernel_rfl
theorem fc100_zero : zeroT Try.prog 100 = some [.nilFunc] := by kernel_rfl
theorem fc101_load : loadT Try.prog 101 = some (1, false) := by kernel_rfl
theorem fc101_size : tySize Try.prog 101 = some 1 := by kernel_rfl
theorem fc101_zero : zeroT Try.prog 101 = some [.nilFunc] := by kernel_rfl
theorem fc102_load : loadT Try.prog 102 = some (1, false) := by kernel_rfl
theorem fc102_size : tySize Try.prog 102 = some 1 := by kernel_rfl
theorem fc102_zero : zeroT Try.prog 102 = some [.nilFunc] := by kernel_rfl
theorem fc103_load : loadT Try.prog 103 = some (1, false) := by kernel_rfl
theorem fc103_size : tySize Try.prog 103 = some 1 := by kernel_rfl
theorem fc103_zero : zeroT Try.prog 103 = some [.nilFunc] := by kernel_rfl
theorem fc104_load : loadT Try.prog 104 = some (1, false) := by kernel_rfl
theorem fc104_size : tySize Try.prog 104 = some 1 := by kernel_rfl
theorem fc104_zero : zeroT Try.prog 104 = some [.nilFunc] := by kernel_rfl
theorem fc105_load : loadT Try.prog 105 = some (1, false) := by kernel_rfl
theorem fc105_size : tySize Try.prog 105 = some 1 := by kernel_rfl
theorem fc105_zero : zeroT Try.prog 105 = some [.nilFunc] := by kernel_rfl
theorem fc106_load : loadT Try.prog 106 = some (1, false) := by kernel_rfl
theorem fc106_size : tySize Try.prog 106 = some 1 := by kernel_rfl
theorem fc106_zero : zeroT Try.prog 106 = some [.nilFunc] := by kernel_rfl
theorem fc107_load : loadT Try.prog 107 = some (1, false) := by kernel_rfl
theorem fc107_size : tySize Try.prog 107 = some 1 := by kernel_rfl
theorem fc107_zero : zeroT Try.prog 107 = some [.nilFunc] := by kernel_rfl
theorem fc108_load : loadT Try.prog 108 = some (1, false) := by kernel_rfl
theorem fc108_size : tySize Try.prog 108 = some 1 := by kernel_rfl
theorem fc108_zero : zeroT Try.prog 108 = some [.nilFunc] := by kernel_rfl
theorem fc109_load : loadT Try.prog 109 = some (1, false) := by kernel_rfl
theorem fc109_size : tySize Try.prog 109 = some 1 := by kernel_rfl
theorem fc109_zero : zeroT Try.prog 109 = some [.nilFunc] := by kernel_rfl
theorem fc110_load : loadT Try.prog 110 = some (1, false) := by kernel_rfl
theorem fc110_size : tySize Try.prog 110 = some 1 := by kernel_rfl
theorem fc110_zero : zeroT Try.prog 110 = some [.nilFunc] := by kernel_rfl
theorem fc111_load : loadT Try.prog 111 = some (1, false) := by kernel_rfl
theorem fc111_size : tySize Try.prog 111 = some 1 := by kernel_rfl
theorem fc111_zero : zeroT Try.prog 111 = some [.nilFunc] := by kernel_rfl
theorem fc112_load : loadT Try.prog 112 = some (1, false) := by kernel_rfl
theorem fc112_size : tySize Try.prog 112 = some 1 := by kernel_rfl
theorem fc112_int : intT Try.prog 112 = some .i64 := by kernel_rfl
theorem fc112_isb : isBoolT Try.prog 112 = false := by kernel_rfl
theorem fc112_u : Try.prog.underlying 112 = some (.int .i64) := by kernel_rfl
theorem fc112_zero : zeroT Try.prog 112 = some [.int .i64 0] := by kernel_rfl
theorem fc114_load : loadT Try.prog 114 = some (1, false) := by kernel_rfl
theorem fc114_size : tySize Try.prog 114 = some 1 := by kernel_rfl
theorem fc114_zero : zeroT Try.prog 114 = some [.nilFunc] := by kernel_rfl
theorem fc115_load : loadT Try.prog 115 = some (1, false) := by kernel_rfl
theorem fc115_size : tySize Try.prog 115 = some 1 := by kernel_rfl
theorem fc115_zero : zeroT Try.prog 115 = some [.nilFunc] := by kernel_rfl
theorem fc116_load : loadT Try.prog 116 = some (1, false) := by kernel_rfl
theorem fc116_size : tySize Try.prog 116 = some 1 := by kernel_rfl
theorem fc116_zero : zeroT Try.prog 116 = some [.nilFunc] := by kernel_rfl
theorem fc117_load : loadT Try.prog 117 = some (1, false) := by kernel_rfl
theorem fc117_size : tySize Try.prog 117 = some 1 := by kernel_rfl
theorem fc117_zero : zeroT Try.prog 117 = some [.nilFunc] := by kernel_rfl
theorem fc118_load : loadT Try.prog 118 = some (1, false) := by kernel_rfl
theorem fc118_size : tySize Try.prog 118 = some 1 := by kernel_rfl
theorem fc118_zero : zeroT Try.prog 118 = some [.nilFunc] := by kernel_rfl
theorem fc119_load : loadT Try.prog 119 = some (1, false) := by kernel_rfl
theorem fc119_size : tySize Try.prog 119 = some 1 := by kernel_rfl
theorem fc119_zero : zeroT Try.prog 119 = some [.nilFunc] := by kernel_rfl
theorem fc120_load : loadT Try.prog 120 = some (1, false) := by kernel_rfl
theorem fc120_size : tySize Try.prog 120 = some 1 := by kernel_rfl
theorem fc120_int : intT Try.prog 120 = some .u32 := by kernel_rfl
theorem fc120_isb : isBoolT Try.prog 120 = false := by kernel_rfl
theorem fc120_u : Try.prog.underlying 120 = some (.int .u32) := by kernel_rfl
theorem fc120_zero : zeroT Try.prog 120 = some [.int .u32 0] := by kernel_rfl
theorem fc121_load : loadT Try.prog 121 = some (1, false) := by kernel_rfl
theorem fc121_size : tySize Try.prog 121 = some 1 := by kernel_rfl
theorem fc121_zero : zeroT Try.prog 121 = some [.nilFunc] := by kernel_rfl
theorem fc122_load : loadT Try.prog 122 = some (1, false) := by kernel_rfl
theorem fc122_size : tySize Try.prog 122 = some 1 := by kernel_rfl
theorem fc122_int : intT Try.prog 122 = some .u64 := by kernel_rfl
theorem fc122_isb : isBoolT Try.prog 122 = false := by kernel_rfl
theorem fc122_u : Try.prog.underlying 122 = some (.int .u64) := by kernel_rfl
theorem fc122_zero : zeroT Try.prog 122 = some [.int .u64 0] := by kernel_rfl
theorem fc123_load : loadT Try.prog 123 = some (19, true) := by kernel_rfl
theorem fc123_size : tySize Try.prog 123 = some 19 := by kernel_rfl
theorem fc123_zero : zeroT Try.prog 123 = some [.bool false, .bool false, .bool false, .bool false, .bool false, .bool false, .bool false, .bool false, .bool false, .bool false, .bool false, .bool false, .bool false, .bool false, .bool false, .bool false, .bool false, .bool false, .bool false] := by kernel_rfl
theorem fc123_arr : arrT Try.prog 123 = some (19, 1, false) := by kernel_rfl
theorem fc123_sl : sliceT Try.prog 123 = none := by kernel_rfl
theorem fc123_all : allPlaces Try.prog 123 = true := by kernel_rfl
theorem fc124_load : loadT Try.prog 124 = some (19, true) := by kernel_rfl
theorem fc124_size : tySize Try.prog 124 = some 19 := by kernel_rfl
theorem fc124_zero : zeroT Try.prog 124 = some [.bool false, .bool false, .bool false, .bool false, .bool false, .bool false, .bool false, .bool false, .bool false, .bool false, .bool false, .bool false, .bool false, .bool false, .bool false, .bool false, .bool false, .bool false, .bool false] := by kernel_rfl
theorem fc124_arr : arrT Try.prog 124 = some (19, 1, false) := by kernel_rfl
theorem fc124_sl : sliceT Try.prog 124 = none := by kernel_rfl
theorem fc124_all : allPlaces Try.prog 124 = true := by kernel_rfl
theorem fc125_load : loadT Try.prog 125 = some (1, false) := by kernel_rfl
theorem fc125_size : tySize Try.prog 125 = some 1 := by kernel_rfl
theorem fc125_zero : zeroT Try.prog 125 = some [.nilFunc] := by kernel_rfl
theorem fc126_load : loadT Try.prog 126 = some (1, false) := by kernel_rfl
theorem fc126_size : tySize Try.prog 126 = some 1 := by kernel_rfl
theorem fc126_zero : zeroT Try.prog 126 = some [.nilFunc] := by kernel_rfl
theorem fc127_load : loadT Try.prog 127 = some (1, false) := by kernel_rfl
theorem fc127_size : tySize Try.prog 127 = some 1 := by kernel_rfl
theorem fc127_zero : zeroT Try.prog 127 = some [.nilFunc] := by kernel_rfl
theorem fc128_load : loadT Try.prog 128 = some (1, false) := by kernel_rfl
theorem fc128_size : tySize Try.prog 128 = some 1 := by kernel_rfl
theorem fc128_zero : zeroT Try.prog 128 = some [.nilFunc] := by kernel_rfl
theorem fc129_load : loadT Try.prog 129 = some (1, false) := by kernel_rfl
theorem fc129_size : tySize Try.prog 129 = some 1 := by kernel_rfl
theorem fc129_zero : zeroT Try.prog 129 = some [.nilFunc] := by kernel_rfl
theorem fc130_load : loadT Try.prog 130 = some (1, false) := by kernel_rfl
theorem fc130_size : tySize Try.prog 130 = some 1 := by kernel_rfl
theorem fc130_int : intT Try.prog 130 = some .u64 := by kernel_rfl
theorem fc130_isb : isBoolT Try.prog 130 = false := by kernel_rfl
theorem fc130_u : Try.prog.underlying 130 = some (.int .u64) := by kernel_rfl
theorem fc130_zero : zeroT Try.prog 130 = some [.int .u64 0] := by kernel_rfl
theorem fc131_load : loadT Try.prog 131 = some (1, false) := by kernel_rfl
theorem fc131_size : tySize Try.prog 131 = some 1 := by kernel_rfl
theorem fc131_zero : zeroT Try.prog 131 = some [.nilFunc] := by kernel_rfl
theorem fc132_load : loadT Try.prog 132 = some (1, false) := by kernel_rfl
theorem fc132_size : tySize Try.prog 132 = some 1 := by kernel_rfl
theorem fc132_zero : zeroT Try.prog 132 = some [.nilFunc] := by kernel_rfl
theorem fc133_load : loadT Try.prog 133 = some (1, false) := by kernel_rfl
theorem fc133_size : tySize Try.prog 133 = some 1 := by kernel_rfl
theorem fc133_zero : zeroT Try.prog 133 = some [.nilFunc] := by kernel_rfl
theorem fc134_load : loadT Try.prog 134 = some (1, false) := by kernel_rfl
theorem fc134_size : tySize Try.prog 134 = some 1 := by kernel_rfl
theorem fc134_zero : zeroT Try.prog 134 = some [.pointer none] := by kernel_rfl
theorem fc134_sl : sliceT Try.prog 134 = none := by kernel_rfl
theorem fc135_load : loadT Try.prog 135 = some (1, false) := by kernel_rfl
theorem fc135_size : tySize Try.prog 135 = some 1 := by kernel_rfl
theorem fc135_zero : zeroT Try.prog 135 = some [.nilFunc] := by kernel_rfl
theorem fc136_load : loadT Try.prog 136 = some (1, false) := by kernel_rfl
theorem fc136_size : tySize Try.prog 136 = some 1 := by kernel_rfl
theorem fc136_zero : zeroT Try.prog 136 = some [.pointer none] := by kernel_rfl
theorem fc136_sl : sliceT Try.prog 136 = none := by kernel_rfl
theorem fc138_load : loadT Try.prog 138 = some (1, false) := by kernel_rfl
theorem fc138_size : tySize Try.prog 138 = some 1 := by kernel_rfl
theorem fc138_zero : zeroT Try.prog 138 = some [.nilFunc] := by kernel_rfl
theorem fc139_load : loadT Try.prog 139 = some (1, false) := by kernel_rfl
theorem fc139_size : tySize Try.prog 139 = some 1 := by kernel_rfl
theorem fc139_zero : zeroT Try.prog 139 = some [.nilFunc] := by kernel_rfl
theorem fc140_load : loadT Try.prog 140 = some (4, true) := by kernel_rfl
theorem fc140_size : tySize Try.prog 140 = some 4 := by kernel_rfl
theorem fc140_zero : zeroT Try.prog 140 = some [.pointer none, .pointer none, .pointer none, .string ⟨#[]⟩] := by kernel_rfl
theorem fc140_all : allPlaces Try.prog 140 = true := by kernel_rfl
theorem fc140_o0 : fieldOff Try.prog 140 0 = some 0 := by kernel_rfl
theorem fc140_f0 : fieldT Try.prog 140 0 = some (0, 1, false) := by kernel_rfl
theorem fc140_p0 : placeT Try.prog 140 0 = some (0, 1) := by kernel_rfl
theorem fc140_o1 : fieldOff Try.prog 140 1 = some 1 := by kernel_rfl
theorem fc140_f1 : fieldT Try.prog 140 1 = some (1, 1, false) := by kernel_rfl
theorem fc140_p1 : placeT Try.prog 140 1 = some (1, 1) := by kernel_rfl
theorem fc140_o2 : fieldOff Try.prog 140 2 = some 2 := by kernel_rfl
theorem fc140_f2 : fieldT Try.prog 140 2 = some (2, 1, false) := by kernel_rfl
theorem fc140_p2 : placeT Try.prog 140 2 = some (2, 1) := by kernel_rfl
theorem fc140_o3 : fieldOff Try.prog 140 3 = some 3 := by kernel_rfl
theorem fc140_f3 : fieldT Try.prog 140 3 = some (3, 1, false) := by kernel_rfl
theorem fc140_p3 : placeT Try.prog 140 3 = some (3, 1) := by kernel_rfl
theorem fc141_load : loadT Try.prog 141 = some (4, true) := by kernel_rfl
theorem fc141_size : tySize Try.prog 141 = some 4 := by kernel_rfl
theorem fc141_zero : zeroT Try.prog 141 = some [.pointer none, .pointer none, .pointer none, .string ⟨#[]⟩] := by kernel_rfl
theorem fc141_all : allPlaces Try.prog 141 = true := by kernel_rfl
theorem fc141_o0 : fieldOff Try.prog 141 0 = some 0 := by kernel_rfl
theorem fc141_f0 : fieldT Try.prog 141 0 = some (0, 1, false) := by kernel_rfl
theorem fc141_p0 : placeT Try.prog 141 0 = some (0, 1) := by kernel_rfl
theorem fc141_o1 : fieldOff Try.prog 141 1 = some 1 := by kernel_rfl
theorem fc141_f1 : fieldT Try.prog 141 1 = some (1, 1, false) := by kernel_rfl
theorem fc141_p1 : placeT Try.prog 141 1 = some (1, 1) := by kernel_rfl
theorem fc141_o2 : fieldOff Try.prog 141 2 = some 2 := by kernel_rfl
theorem fc141_f2 : fieldT Try.prog 141 2 = some (2, 1, false) := by kernel_rfl
theorem fc141_p2 : placeT Try.prog 141 2 = some (2, 1) := by kernel_rfl
theorem fc141_o3 : fieldOff Try.prog 141 3 = some 3 := by kernel_rfl
theorem fc141_f3 : fieldT Try.prog 141 3 = some (3, 1, false) := by kernel_rfl
theorem fc141_p3 : placeT Try.prog 141 3 = some (3, 1) := by kernel_rfl
theorem fc142_load : loadT Try.prog 142 = some (0, true) := by kernel_rfl
theorem fc142_size : tySize Try.prog 142 = some 0 := by kernel_rfl
theorem fc142_zero : zeroT Try.prog 142 = some [] := by kernel_rfl
theorem fc142_arr : arrT Try.prog 142 = some (0, 1, false) := by kernel_rfl
theorem fc142_sl : sliceT Try.prog 142 = none := by kernel_rfl
theorem fc142_all : allPlaces Try.prog 142 = true := by kernel_rfl
theorem fc143_load : loadT Try.prog 143 = some (0, true) := by kernel_rfl
theorem fc143_size : tySize Try.prog 143 = some 0 := by kernel_rfl
theorem fc143_zero : zeroT Try.prog 143 = some [] := by kernel_rfl
theorem fc143_all : allPlaces Try.prog 143 = true := by kernel_rfl
theorem fc143_f0 : fieldT Try.prog 143 0 = some (0, 0, true) := by kernel_rfl
theorem fc143_p0 : placeT Try.prog 143 0 = some (0, 0) := by kernel_rfl
theorem fc144_load : loadT Try.prog 144 = some (0, true) := by kernel_rfl
theorem fc144_size : tySize Try.prog 144 = some 0 := by kernel_rfl
theorem fc144_zero : zeroT Try.prog 144 = some [] := by kernel_rfl
theorem fc144_all : allPlaces Try.prog 144 = true := by kernel_rfl
theorem fc144_f0 : fieldT Try.prog 144 0 = some (0, 0, true) := by kernel_rfl
theorem fc144_p0 : placeT Try.prog 144 0 = some (0, 0) := by kernel_rfl
theorem fc145_load : loadT Try.prog 145 = some (1, false) := by kernel_rfl
theorem fc145_size : tySize Try.prog 145 = some 1 := by kernel_rfl
theorem fc145_zero : zeroT Try.prog 145 = some [.nilFunc] := by kernel_rfl
theorem fc146_load : loadT Try.prog 146 = some (1, false) := by kernel_rfl
theorem fc146_size : tySize Try.prog 146 = some 1 := by kernel_rfl
theorem fc146_int : intT Try.prog 146 = some .u8 := by kernel_rfl
theorem fc146_isb : isBoolT Try.prog 146 = false := by kernel_rfl
theorem fc146_u : Try.prog.underlying 146 = some (.int .u8) := by kernel_rfl
theorem fc146_zero : zeroT Try.prog 146 = some [.int .u8 0] := by kernel_rfl
theorem fc147_load : loadT Try.prog 147 = some (1, false) := by kernel_rfl
theorem fc147_size : tySize Try.prog 147 = some 1 := by kernel_rfl
theorem fc147_int : intT Try.prog 147 = some .u8 := by kernel_rfl
theorem fc147_isb : isBoolT Try.prog 147 = false := by kernel_rfl
theorem fc147_u : Try.prog.underlying 147 = some (.int .u8) := by kernel_rfl
theorem fc147_zero : zeroT Try.prog 147 = some [.int .u8 0] := by kernel_rfl
theorem fc148_load : loadT Try.prog 148 = some (1, false) := by kernel_rfl
theorem fc148_size : tySize Try.prog 148 = some 1 := by kernel_rfl
theorem fc148_zero : zeroT Try.prog 148 = some [.nilFunc] := by kernel_rfl
theorem fc149_load : loadT Try.prog 149 = some (1, false) := by kernel_rfl
theorem fc149_size : tySize Try.prog 149 = some 1 := by kernel_rfl
theorem fc149_zero : zeroT Try.prog 149 = some [.pointer none] := by kernel_rfl
theorem fc149_sl : sliceT Try.prog 149 = none := by kernel_rfl
theorem fc150_load : loadT Try.prog 150 = some (1, false) := by kernel_rfl
theorem fc150_size : tySize Try.prog 150 = some 1 := by kernel_rfl
theorem fc150_int : intT Try.prog 150 = some .i32 := by kernel_rfl
theorem fc150_isb : isBoolT Try.prog 150 = false := by kernel_rfl
theorem fc150_u : Try.prog.underlying 150 = some (.int .i32) := by kernel_rfl
theorem fc150_zero : zeroT Try.prog 150 = some [.int .i32 0] := by kernel_rfl
theorem fc151_load : loadT Try.prog 151 = some (1, false) := by kernel_rfl
theorem fc151_size : tySize Try.prog 151 = some 1 := by kernel_rfl
theorem fc151_int : intT Try.prog 151 = some .i32 := by kernel_rfl
theorem fc151_isb : isBoolT Try.prog 151 = false := by kernel_rfl
theorem fc151_u : Try.prog.underlying 151 = some (.int .i32) := by kernel_rfl
theorem fc151_zero : zeroT Try.prog 151 = some [.int .i32 0] := by kernel_rfl
theorem fc152_load : loadT Try.prog 152 = some (11, true) := by kernel_rfl
theorem fc152_size : tySize Try.prog 152 = some 11 := by kernel_rfl
theorem fc152_zero : zeroT Try.prog 152 = some [.int .u64 0, .int .u64 0, .int .u32 0, .int .u8 0, .int .u8 0, .int .u8 0, .int .u8 0, .nilFunc, .pointer none, .int .i32 0, .int .i32 0] := by kernel_rfl
theorem fc152_all : allPlaces Try.prog 152 = true := by kernel_rfl
theorem fc152_o0 : fieldOff Try.prog 152 0 = some 0 := by kernel_rfl
theorem fc152_f0 : fieldT Try.prog 152 0 = some (0, 1, false) := by kernel_rfl
theorem fc152_p0 : placeT Try.prog 152 0 = some (0, 1) := by kernel_rfl
theorem fc152_o1 : fieldOff Try.prog 152 1 = some 1 := by kernel_rfl
theorem fc152_f1 : fieldT Try.prog 152 1 = some (1, 1, false) := by kernel_rfl
theorem fc152_p1 : placeT Try.prog 152 1 = some (1, 1) := by kernel_rfl
theorem fc152_o2 : fieldOff Try.prog 152 2 = some 2 := by kernel_rfl
theorem fc152_f2 : fieldT Try.prog 152 2 = some (2, 1, false) := by kernel_rfl
theorem fc152_p2 : placeT Try.prog 152 2 = some (2, 1) := by kernel_rfl
theorem fc152_o3 : fieldOff Try.prog 152 3 = some 3 := by kernel_rfl
theorem fc152_f3 : fieldT Try.prog 152 3 = some (3, 1, false) := by kernel_rfl
theorem fc152_p3 : placeT Try.prog 152 3 = some (3, 1) := by kernel_rfl
theorem fc152_o4 : fieldOff Try.prog 152 4 = some 4 := by kernel_rfl
theorem fc152_f4 : fieldT Try.prog 152 4 = some (4, 1, false) := by kernel_rfl
theorem fc152_p4 : placeT Try.prog 152 4 = some (4, 1) := by kernel_rfl
theorem fc152_o5 : fieldOff Try.prog 152 5 = some 5 := by kernel_rfl
theorem fc152_f5 : fieldT Try.prog 152 5 = some (5, 1, false) := by kernel_rfl
theorem fc152_p5 : placeT Try.prog 152 5 = some (5, 1) := by kernel_rfl
theorem fc152_o6 : fieldOff Try.prog 152 6 = some 6 := by kernel_rfl
theorem fc152_f6 : fieldT Try.prog 152 6 = some (6, 1, false) := by kernel_rfl
theorem fc152_p6 : placeT Try.prog 152 6 = some (6, 1) := by kernel_rfl
theorem fc152_o7 : fieldOff Try.prog 152 7 = some 7 := by kernel_rfl
theorem fc152_f7 : fieldT Try.prog 152 7 = some (7, 1, false) := by kernel_rfl
theorem fc152_p7 : placeT Try.prog 152 7 = some (7, 1) := by kernel_rfl
theorem fc152_o8 : fieldOff Try.prog 152 8 = some 8 := by kernel_rfl
theorem fc152_f8 : fieldT Try.prog 152 8 = some (8, 1, false) := by kernel_rfl
theorem fc152_p8 : placeT Try.prog 152 8 = some (8, 1) := by kernel_rfl
theorem fc152_o9 : fieldOff Try.prog 152 9 = some 9 := by kernel_rfl
theorem fc152_f9 : fieldT Try.prog 152 9 = some (9, 1, false) := by kernel_rfl
theorem fc152_p9 : placeT Try.prog 152 9 = some (9, 1) := by kernel_rfl
theorem fc152_o10 : fieldOff Try.prog 152 10 = some 10 := by kernel_rfl
theorem fc152_f10 : fieldT Try.prog 152 10 = some (10, 1, false) := by kernel_rfl
theorem fc152_p10 : placeT Try.prog 152 10 = some (10, 1) := by kernel_rfl
theorem fc153_load : loadT Try.prog 153 = some (11, true) := by kernel_rfl
theorem fc153_size : tySize Try.prog 153 = some 11 := by kernel_rfl
theorem fc153_zero : zeroT Try.prog 153 = some [.int .u64 0, .int .u64 0, .int .u32 0, .int .u8 0, .int .u8 0, .int .u8 0, .int .u8 0, .nilFunc, .pointer none, .int .i32 0, .int .i32 0] := by kernel_rfl
theorem fc153_all : allPlaces Try.prog 153 = true := by kernel_rfl
theorem fc153_o0 : fieldOff Try.prog 153 0 = some 0 := by kernel_rfl
theorem fc153_f0 : fieldT Try.prog 153 0 = some (0, 1, false) := by kernel_rfl
theorem fc153_p0 : placeT Try.prog 153 0 = some (0, 1) := by kernel_rfl
theorem fc153_o1 : fieldOff Try.prog 153 1 = some 1 := by kernel_rfl
theorem fc153_f1 : fieldT Try.prog 153 1 = some (1, 1, false) := by kernel_rfl
theorem fc153_p1 : placeT Try.prog 153 1 = some (1, 1) := by kernel_rfl
theorem fc153_o2 : fieldOff Try.prog 153 2 = some 2 := by kernel_rfl
theorem fc153_f2 : fieldT Try.prog 153 2 = some (2, 1, false) := by kernel_rfl
theorem fc153_p2 : placeT Try.prog 153 2 = some (2, 1) := by kernel_rfl
theorem fc153_o3 : fieldOff Try.prog 153 3 = some 3 := by kernel_rfl
theorem fc153_f3 : fieldT Try.prog 153 3 = some (3, 1, false) := by kernel_rfl
theorem fc153_p3 : placeT Try.prog 153 3 = some (3, 1) := by kernel_rfl
theorem fc153_o4 : fieldOff Try.prog 153 4 = some 4 := by kernel_rfl
theorem fc153_f4 : fieldT Try.prog 153 4 = some (4, 1, false) := by kernel_rfl
theorem fc153_p4 : placeT Try.prog 153 4 = some (4, 1) := by kernel_rfl
theorem fc153_o5 : fieldOff Try.prog 153 5 = some 5 := by kernel_rfl
theorem fc153_f5 : fieldT Try.prog 153 5 = some (5, 1, false) := by kernel_rfl
theorem fc153_p5 : placeT Try.prog 153 5 = some (5, 1) := by kernel_rfl
theorem fc153_o6 : fieldOff Try.prog 153 6 = some 6 := by kernel_rfl
theorem fc153_f6 : fieldT Try.prog 153 6 = some (6, 1, false) := by kernel_rfl
theorem fc153_p6 : placeT Try.prog 153 6 = some (6, 1) := by kernel_rfl
theorem fc153_o7 : fieldOff Try.prog 153 7 = some 7 := by kernel_rfl
theorem fc153_f7 : fieldT Try.prog 153 7 = some (7, 1, false) := by kernel_rfl
theorem fc153_p7 : placeT Try.prog 153 7 = some (7, 1) := by kernel_rfl
theorem fc153_o8 : fieldOff Try.prog 153 8 = some 8 := by kernel_rfl
theorem fc153_f8 : fieldT Try.prog 153 8 = some (8, 1, false) := by kernel_rfl
theorem fc153_p8 : placeT Try.prog 153 8 = some (8, 1) := by kernel_rfl
theorem fc153_o9 : fieldOff Try.prog 153 9 = some 9 := by kernel_rfl
theorem fc153_f9 : fieldT Try.prog 153 9 = some (9, 1, false) := by kernel_rfl
theorem fc153_p9 : placeT Try.prog 153 9 = some (9, 1) := by kernel_rfl
theorem fc153_o10 : fieldOff Try.prog 153 10 = some 10 := by kernel_rfl
theorem fc153_f10 : fieldT Try.prog 153 10 = some (10, 1, false) := by kernel_rfl
theorem fc153_p10 : placeT Try.prog 153 10 = some (10, 1) := by kernel_rfl
attribute [go_sem] fc1_load fc1_size fc1_zero fc2_load fc2_size fc2_int fc2_isb fc2_u fc2_zero fc3_load fc3_size fc3_int fc3_isb fc3_u fc3_zero fc4_load fc4_size fc4_isb fc4_zero fc5_load fc5_size fc5_int fc5_isb fc5_u fc5_zero fc6_load fc6_size fc6_int fc6_isb fc6_u fc6_zero fc7_load fc7_size fc7_zero fc7_all fc7_o0 fc7_f0 fc7_p0 fc7_o1 fc7_f1 fc7_p1 fc7_o2 fc7_f2 fc7_p2 fc7_o3 fc7_f3 fc7_p3 fc8_load fc8_size fc8_zero fc8_all fc8_o0 fc8_f0 fc8_p0 fc8_o1 fc8_f1 fc8_p1 fc8_o2 fc8_f2 fc8_p2 fc8_o3 fc8_f3 fc8_p3 fc9_load fc9_size fc9_iss fc9_zero fc10_load fc10_size fc10_iss fc10_zero fc11_load fc11_size fc11_iss fc11_zero fc12_load fc12_size fc12_int fc12_isb fc12_u fc12_zero fc13_load fc13_size fc13_zero fc13_all fc13_o0 fc13_f0 fc13_p0 fc13_o1 fc13_f1 fc13_p1 fc14_load fc14_size fc14_zero fc14_all fc14_o0 fc14_f0 fc14_p0 fc14_o1 fc14_f1 fc14_p1 fc15_load fc15_size fc15_zero fc15_sl fc16_load fc16_size fc16_zero fc16_sl fc17_load fc17_size fc17_zero fc17_sl fc18_load fc18_size fc18_zero fc18_all fc18_o0 fc18_f0 fc18_p0 fc19_load fc19_size fc19_zero fc19_all fc19_o0 fc19_f0 fc19_p0 fc21_load fc21_size fc21_int fc21_isb fc21_u fc21_zero fc22_load fc22_size fc22_zero fc22_sl fc22_arr fc22_app fc22_z1 fc23_load fc23_size fc23_zero fc23_all fc23_o0 fc23_f0 fc23_p0 fc23_o1 fc23_f1 fc23_p1 fc24_load fc24_size fc24_zero fc24_all fc24_o0 fc24_f0 fc24_p0 fc24_o1 fc24_f1 fc24_p1 fc25_load fc25_size fc25_zero fc25_sl fc25_arr fc25_app fc25_z1 fc26_load fc26_size fc26_zero fc27_load fc27_size fc27_zero fc28_load fc28_size fc28_zero fc28_sl fc28_arr fc28_app fc28_z1 fc30_load fc30_size fc30_zero fc31_load fc31_size fc31_zero fc31_sl fc31_arr fc31_app fc31_z1 fc32_load fc32_size fc32_zero fc32_all fc32_o0 fc32_f0 fc32_p0 fc32_o1 fc32_f1 fc32_p1 fc33_load fc33_size fc33_zero fc33_all fc33_o0 fc33_f0 fc33_p0 fc33_o1 fc33_f1 fc33_p1 fc34_load fc34_size fc34_zero fc35_load fc35_size fc35_zero fc35_sl fc35_arr fc35_app fc35_z1 fc36_load fc36_size fc36_zero fc37_load fc37_size fc37_zero fc38_load fc38_size fc38_zero fc39_load fc39_size fc39_zero fc40_load fc40_size fc40_zero fc41_load fc41_size fc41_zero fc42_load fc42_size fc42_zero fc43_load fc43_size fc43_zero fc45_load fc45_size fc45_zero fc46_load fc46_size fc46_zero fc47_load fc47_size fc47_zero fc48_load fc48_size fc48_zero fc50_load fc50_size fc50_zero fc52_load fc52_size fc52_zero fc53_load fc53_size fc53_zero fc54_load fc54_size fc54_zero fc54_sl fc54_arr fc54_app fc54_z1 fc56_load fc56_size fc56_zero fc57_load fc57_size fc57_zero fc58_load fc58_size fc58_zero fc59_load fc59_size fc59_zero fc60_load fc60_size fc60_zero fc61_load fc61_size fc61_zero fc62_load fc62_size fc62_zero fc63_load fc63_size fc63_zero fc64_load fc64_size fc64_zero fc64_all fc64_o0 fc64_f0 fc64_p0 fc64_o1 fc64_f1 fc64_p1 fc64_o2 fc64_f2 fc64_p2 fc64_o3 fc64_f3 fc64_p3 fc65_load fc65_size fc65_zero fc65_all fc65_o0 fc65_f0 fc65_p0 fc65_o1 fc65_f1 fc65_p1 fc65_o2 fc65_f2 fc65_p2 fc65_o3 fc65_f3 fc65_p3 fc66_load fc66_size fc66_zero fc67_load fc67_size fc67_zero fc67_all fc67_o0 fc67_f0 fc67_p0 fc67_o1 fc67_f1 fc67_p1 fc67_o2 fc67_f2 fc67_p2 fc67_o3 fc67_f3 fc67_p3 fc68_load fc68_size fc68_zero fc69_load fc69_size fc69_zero fc70_load fc70_size fc70_zero fc71_load fc71_size fc71_zero fc72_load fc72_size fc72_zero fc74_load fc74_size fc74_zero fc75_load fc75_size fc75_zero fc76_load fc76_size fc76_zero fc77_load fc77_size fc77_zero fc78_load fc78_size fc78_zero fc79_load fc79_size fc79_zero fc80_load fc80_size fc80_zero fc81_load fc81_size fc81_zero fc81_sl fc82_load fc82_size fc82_zero fc83_load fc83_size fc83_zero fc84_load fc84_size fc84_zero fc86_load fc86_size fc86_zero fc87_load fc87_size fc87_zero fc87_all fc87_o0 fc87_f0 fc87_p0 fc87_o1 fc87_f1 fc87_p1 fc87_o2 fc87_f2 fc87_p2 fc87_o3 fc87_f3 fc87_p3 fc88_load fc88_size fc88_zero fc88_all fc88_o0 fc88_f0 fc88_p0 fc88_o1 fc88_f1 fc88_p1 fc88_o2 fc88_f2 fc88_p2 fc88_o3 fc88_f3 fc88_p3 fc89_load fc89_size fc89_zero fc90_load fc90_size fc90_zero fc90_all fc90_o0 fc90_f0 fc90_p0 fc90_o1 fc90_f1 fc90_p1 fc90_o2 fc90_f2 fc90_p2 fc90_o3 fc90_f3 fc90_p3 fc91_load fc91_size fc91_zero fc92_load fc92_size fc92_zero fc93_load fc93_size fc93_zero fc94_load fc94_size fc94_zero fc95_load fc95_size fc95_zero fc96_load fc96_size fc96_zero fc97_load fc97_size fc97_zero fc98_load fc98_size fc98_zero fc99_load fc99_size fc99_int fc99_isb fc99_u fc99_zero fc100_load fc100_size fc100_zero fc101_load fc101_size fc101_zero fc102_load fc102_size fc102_zero fc103_load fc103_size fc103_zero fc104_load fc104_size fc104_zero fc105_load fc105_size fc105_zero fc106_load fc106_size fc106_zero fc107_load fc107_size fc107_zero fc108_load fc108_size fc108_zero fc109_load fc109_size fc109_zero fc110_load fc110_size fc110_zero fc111_load fc111_size fc111_zero fc112_load fc112_size fc112_int fc112_isb fc112_u fc112_zero fc114_load fc114_size fc114_zero fc115_load fc115_size fc115_zero fc116_load fc116_size fc116_zero fc117_load fc117_size fc117_zero fc118_load fc118_size fc118_zero fc119_load fc119_size fc119_zero fc120_load fc120_size fc120_int fc120_isb fc120_u fc120_zero fc121_load fc121_size fc121_zero fc122_load fc122_size fc122_int fc122_isb fc122_u fc122_zero fc123_load fc123_size fc123_zero fc123_arr fc123_sl fc123_all fc124_load fc124_size fc124_zero fc124_arr fc124_sl fc124_all fc125_load fc125_size fc125_zero fc126_load fc126_size fc126_zero fc127_load fc127_size fc127_zero fc128_load fc128_size fc128_zero fc129_load fc129_size fc129_zero fc130_load fc130_size fc130_int fc130_isb fc130_u fc130_zero fc131_load fc131_size fc131_zero fc132_load fc132_size fc132_zero fc133_load fc133_size fc133_zero fc134_load fc134_size fc134_zero fc134_sl fc135_load fc135_size fc135_zero fc136_load fc136_size fc136_zero fc136_sl fc138_load fc138_size fc138_zero fc139_load fc139_size fc139_zero fc140_load fc140_size fc140_zero fc140_all fc140_o0 fc140_f0 fc140_p0 fc140_o1 fc140_f1 fc140_p1 fc140_o2 fc140_f2 fc140_p2 fc140_o3 fc140_f3 fc140_p3 fc141_load fc141_size fc141_zero fc141_all fc141_o0 fc141_f0 fc141_p0 fc141_o1 fc141_f1 fc141_p1 fc141_o2 fc141_f2 fc141_p2 fc141_o3 fc141_f3 fc141_p3 fc142_load fc142_size fc142_zero fc142_arr fc142_sl fc142_all fc143_load fc143_size fc143_zero fc143_all fc143_f0 fc143_p0 fc144_load fc144_size fc144_zero fc144_all fc144_f0 fc144_p0 fc145_load fc145_size fc145_zero fc146_load fc146_size fc146_int fc146_isb fc146_u fc146_zero fc147_load fc147_size fc147_int fc147_isb fc147_u fc147_zero fc148_load fc148_size fc148_zero fc149_load fc149_size fc149_zero fc149_sl fc150_load fc150_size fc150_int fc150_isb fc150_u fc150_zero fc151_load fc151_size fc151_int fc151_isb fc151_u fc151_zero fc152_load fc152_size fc152_zero fc152_all fc152_o0 fc152_f0 fc152_p0 fc152_o1 fc152_f1 fc152_p1 fc152_o2 fc152_f2 fc152_p2 fc152_o3 fc152_f3 fc152_p3 fc152_o4 fc152_f4 fc152_p4 fc152_o5 fc152_f5 fc152_p5 fc152_o6 fc152_f6 fc152_p6 fc152_o7 fc152_f7 fc152_p7 fc152_o8 fc152_f8 fc152_p8 fc152_o9 fc152_f9 fc152_p9 fc152_o10 fc152_f10 fc152_p10 fc153_load fc153_size fc153_zero fc153_all fc153_o0 fc153_f0 fc153_p0 fc153_o1 fc153_f1 fc153_p1 fc153_o2 fc153_f2 fc153_p2 fc153_o3 fc153_f3 fc153_p3 fc153_o4 fc153_f4 fc153_p4 fc153_o5 fc153_f5 fc153_p5 fc153_o6 fc153_f6 fc153_p6 fc153_o7 fc153_f7 fc153_p7 fc153_o8 fc153_f8 fc153_p8 fc153_o9 fc153_f9 fc153_p9 fc153_o10 fc153_f10 fc153_p10
end Go.Proofs.Ytaehphcaiabdmaa
