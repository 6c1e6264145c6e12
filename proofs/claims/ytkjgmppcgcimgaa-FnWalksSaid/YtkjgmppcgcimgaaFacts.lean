/- The closed facts on the types of this seat's program, each by the kernel. Written by program. -/
import Derived.Test.YtkjgmppcgcimgaaAm10
import Derived.Test.YtkjgmppcgcimgaaRows
namespace Go.Proofs.Ytkjgmppcgcimgaa
open Go.Am
theorem fc1_load : loadT Try.prog 1 = some (1, false) := by kernel_rfl
theorem fc1_size : tySize Try.prog 1 = some 1 := by kernel_rfl
theorem fc1_zero : zeroT Try.prog 1 = some [.nilFunc] := by kernel_rfl
theorem fc2_load : loadT Try.prog 2 = some (1, false) := by kernel_rfl
theorem fc2_size : tySize Try.prog 2 = some 1 := by kernel_rfl
theorem fc2_int : intT Try.prog 2 = some .i64 := by kernel_rfl
theorem fc2_isb : isBoolT Try.prog 2 = false := by kernel_rfl
theorem fc2_u : Try.prog.underlying 2 = some (.int .i64) := by kernel_rfl
theorem fc2_zero : zeroT Try.prog 2 = some [.int .i64 0] := by kernel_rfl
theorem fc3_load : loadT Try.prog 3 = some (1, false) := by kernel_rfl
theorem fc3_size : tySize Try.prog 3 = some 1 := by kernel_rfl
theorem fc3_int : intT Try.prog 3 = some .i64 := by kernel_rfl
theorem fc3_isb : isBoolT Try.prog 3 = false := by kernel_rfl
theorem fc3_u : Try.prog.underlying 3 = some (.int .i64) := by kernel_rfl
theorem fc3_zero : zeroT Try.prog 3 = some [.int .i64 0] := by kernel_rfl
theorem fc4_load : loadT Try.prog 4 = some (1, false) := by kernel_rfl
theorem fc4_size : tySize Try.prog 4 = some 1 := by kernel_rfl
theorem fc4_isb : isBoolT Try.prog 4 = true := by kernel_rfl
theorem fc4_zero : zeroT Try.prog 4 = some [.bool false] := by kernel_rfl
theorem fc5_load : loadT Try.prog 5 = some (1, false) := by kernel_rfl
theorem fc5_size : tySize Try.prog 5 = some 1 := by kernel_rfl
theorem fc5_int : intT Try.prog 5 = some .u8 := by kernel_rfl
theorem fc5_isb : isBoolT Try.prog 5 = false := by kernel_rfl
theorem fc5_u : Try.prog.underlying 5 = some (.int .u8) := by kernel_rfl
theorem fc5_zero : zeroT Try.prog 5 = some [.int .u8 0] := by kernel_rfl
theorem fc6_load : loadT Try.prog 6 = some (1, false) := by kernel_rfl
theorem fc6_size : tySize Try.prog 6 = some 1 := by kernel_rfl
theorem fc6_int : intT Try.prog 6 = some .u8 := by kernel_rfl
theorem fc6_isb : isBoolT Try.prog 6 = false := by kernel_rfl
theorem fc6_u : Try.prog.underlying 6 = some (.int .u8) := by kernel_rfl
theorem fc6_zero : zeroT Try.prog 6 = some [.int .u8 0] := by kernel_rfl
theorem fc7_load : loadT Try.prog 7 = some (4, true) := by kernel_rfl
theorem fc7_size : tySize Try.prog 7 = some 4 := by kernel_rfl
theorem fc7_zero : zeroT Try.prog 7 = some [.int .i64 0, .int .i64 0, .bool false, .int .u8 0] := by kernel_rfl
theorem fc7_eq : eqT Try.prog 7 = some [(0, false), (1, false), (2, true), (3, false)] := by kernel_rfl
theorem fc7_all : allPlaces Try.prog 7 = true := by kernel_rfl
theorem fc7_o0 : fieldOff Try.prog 7 0 = some 0 := by kernel_rfl
theorem fc7_f0 : fieldT Try.prog 7 0 = some (0, 1, false) := by kernel_rfl
theorem fc7_p0 : placeT Try.prog 7 0 = some (0, 1) := by kernel_rfl
theorem fc7_o1 : fieldOff Try.prog 7 1 = some 1 := by kernel_rfl
theorem fc7_f1 : fieldT Try.prog 7 1 = some (1, 1, false) := by kernel_rfl
theorem fc7_p1 : placeT Try.prog 7 1 = some (1, 1) := by kernel_rfl
theorem fc7_o2 : fieldOff Try.prog 7 2 = some 2 := by kernel_rfl
theorem fc7_f2 : fieldT Try.prog 7 2 = some (2, 1, false) := by kernel_rfl
theorem fc7_p2 : placeT Try.prog 7 2 = some (2, 1) := by kernel_rfl
theorem fc7_o3 : fieldOff Try.prog 7 3 = some 3 := by kernel_rfl
theorem fc7_f3 : fieldT Try.prog 7 3 = some (3, 1, false) := by kernel_rfl
theorem fc7_p3 : placeT Try.prog 7 3 = some (3, 1) := by kernel_rfl
theorem fc8_load : loadT Try.prog 8 = some (4, true) := by kernel_rfl
theorem fc8_size : tySize Try.prog 8 = some 4 := by kernel_rfl
theorem fc8_zero : zeroT Try.prog 8 = some [.int .i64 0, .int .i64 0, .bool false, .int .u8 0] := by kernel_rfl
theorem fc8_eq : eqT Try.prog 8 = some [(0, false), (1, false), (2, true), (3, false)] := by kernel_rfl
theorem fc8_all : allPlaces Try.prog 8 = true := by kernel_rfl
theorem fc8_o0 : fieldOff Try.prog 8 0 = some 0 := by kernel_rfl
theorem fc8_f0 : fieldT Try.prog 8 0 = some (0, 1, false) := by kernel_rfl
theorem fc8_p0 : placeT Try.prog 8 0 = some (0, 1) := by kernel_rfl
theorem fc8_o1 : fieldOff Try.prog 8 1 = some 1 := by kernel_rfl
theorem fc8_f1 : fieldT Try.prog 8 1 = some (1, 1, false) := by kernel_rfl
theorem fc8_p1 : placeT Try.prog 8 1 = some (1, 1) := by kernel_rfl
theorem fc8_o2 : fieldOff Try.prog 8 2 = some 2 := by kernel_rfl
theorem fc8_f2 : fieldT Try.prog 8 2 = some (2, 1, false) := by kernel_rfl
theorem fc8_p2 : placeT Try.prog 8 2 = some (2, 1) := by kernel_rfl
theorem fc8_o3 : fieldOff Try.prog 8 3 = some 3 := by kernel_rfl
theorem fc8_f3 : fieldT Try.prog 8 3 = some (3, 1, false) := by kernel_rfl
theorem fc8_p3 : placeT Try.prog 8 3 = some (3, 1) := by kernel_rfl
theorem fc9_load : loadT Try.prog 9 = some (1, false) := by kernel_rfl
theorem fc9_size : tySize Try.prog 9 = some 1 := by kernel_rfl
theorem fc9_iss : isStrT Try.prog 9 = true := by kernel_rfl
theorem fc9_zero : zeroT Try.prog 9 = some [.string ⟨#[]⟩] := by kernel_rfl
theorem fc10_load : loadT Try.prog 10 = some (1, false) := by kernel_rfl
theorem fc10_size : tySize Try.prog 10 = some 1 := by kernel_rfl
theorem fc10_iss : isStrT Try.prog 10 = true := by kernel_rfl
theorem fc10_zero : zeroT Try.prog 10 = some [.string ⟨#[]⟩] := by kernel_rfl
theorem fc11_load : loadT Try.prog 11 = some (1, false) := by kernel_rfl
theorem fc11_size : tySize Try.prog 11 = some 1 := by kernel_rfl
theorem fc11_iss : isStrT Try.prog 11 = true := by kernel_rfl
theorem fc11_zero : zeroT Try.prog 11 = some [.string ⟨#[]⟩] := by kernel_rfl
theorem fc12_load : loadT Try.prog 12 = some (1, false) := by kernel_rfl
theorem fc12_size : tySize Try.prog 12 = some 1 := by kernel_rfl
theorem fc12_int : intT Try.prog 12 = some .u64 := by kernel_rfl
theorem fc12_isb : isBoolT Try.prog 12 = false := by kernel_rfl
theorem fc12_u : Try.prog.underlying 12 = some (.int .u64) := by kernel_rfl
theorem fc12_zero : zeroT Try.prog 12 = some [.int .u64 0] := by kernel_rfl
theorem fc13_load : loadT Try.prog 13 = some (2, true) := by kernel_rfl
theorem fc13_size : tySize Try.prog 13 = some 2 := by kernel_rfl
theorem fc13_zero : zeroT Try.prog 13 = some [.string ⟨#[]⟩, .int .u64 0] := by kernel_rfl
theorem fc13_all : allPlaces Try.prog 13 = true := by kernel_rfl
theorem fc13_o0 : fieldOff Try.prog 13 0 = some 0 := by kernel_rfl
theorem fc13_f0 : fieldT Try.prog 13 0 = some (0, 1, false) := by kernel_rfl
theorem fc13_p0 : placeT Try.prog 13 0 = some (0, 1) := by kernel_rfl
theorem fc13_o1 : fieldOff Try.prog 13 1 = some 1 := by kernel_rfl
theorem fc13_f1 : fieldT Try.prog 13 1 = some (1, 1, false) := by kernel_rfl
theorem fc13_p1 : placeT Try.prog 13 1 = some (1, 1) := by kernel_rfl
theorem fc14_load : loadT Try.prog 14 = some (2, true) := by kernel_rfl
theorem fc14_size : tySize Try.prog 14 = some 2 := by kernel_rfl
theorem fc14_zero : zeroT Try.prog 14 = some [.string ⟨#[]⟩, .int .u64 0] := by kernel_rfl
theorem fc14_all : allPlaces Try.prog 14 = true := by kernel_rfl
theorem fc14_o0 : fieldOff Try.prog 14 0 = some 0 := by kernel_rfl
theorem fc14_f0 : fieldT Try.prog 14 0 = some (0, 1, false) := by kernel_rfl
theorem fc14_p0 : placeT Try.prog 14 0 = some (0, 1) := by kernel_rfl
theorem fc14_o1 : fieldOff Try.prog 14 1 = some 1 := by kernel_rfl
theorem fc14_f1 : fieldT Try.prog 14 1 = some (1, 1, false) := by kernel_rfl
theorem fc14_p1 : placeT Try.prog 14 1 = some (1, 1) := by kernel_rfl
theorem fc15_load : loadT Try.prog 15 = some (1, false) := by kernel_rfl
theorem fc15_size : tySize Try.prog 15 = some 1 := by kernel_rfl
theorem fc15_zero : zeroT Try.prog 15 = some [.pointer none] := by kernel_rfl
theorem fc15_sl : sliceT Try.prog 15 = none := by kernel_rfl
theorem fc16_load : loadT Try.prog 16 = some (1, false) := by kernel_rfl
theorem fc16_size : tySize Try.prog 16 = some 1 := by kernel_rfl
theorem fc16_zero : zeroT Try.prog 16 = some [.pointer none] := by kernel_rfl
theorem fc16_sl : sliceT Try.prog 16 = none := by kernel_rfl
theorem fc17_load : loadT Try.prog 17 = some (1, false) := by kernel_rfl
theorem fc17_size : tySize Try.prog 17 = some 1 := by kernel_rfl
theorem fc17_zero : zeroT Try.prog 17 = some [.pointer none] := by kernel_rfl
theorem fc17_sl : sliceT Try.prog 17 = none := by kernel_rfl
theorem fc18_load : loadT Try.prog 18 = some (1, true) := by kernel_rfl
theorem fc18_size : tySize Try.prog 18 = some 1 := by kernel_rfl
theorem fc18_zero : zeroT Try.prog 18 = some [.pointer none] := by kernel_rfl
theorem fc18_all : allPlaces Try.prog 18 = true := by kernel_rfl
theorem fc18_o0 : fieldOff Try.prog 18 0 = some 0 := by kernel_rfl
theorem fc18_f0 : fieldT Try.prog 18 0 = some (0, 1, false) := by kernel_rfl
theorem fc18_p0 : placeT Try.prog 18 0 = some (0, 1) := by kernel_rfl
theorem fc19_load : loadT Try.prog 19 = some (1, true) := by kernel_rfl
theorem fc19_size : tySize Try.prog 19 = some 1 := by kernel_rfl
theorem fc19_zero : zeroT Try.prog 19 = some [.pointer none] := by kernel_rfl
theorem fc19_all : allPlaces Try.prog 19 = true := by kernel_rfl
theorem fc19_o0 : fieldOff Try.prog 19 0 = some 0 := by kernel_rfl
theorem fc19_f0 : fieldT Try.prog 19 0 = some (0, 1, false) := by kernel_rfl
theorem fc19_p0 : placeT Try.prog 19 0 = some (0, 1) := by kernel_rfl
theorem fc21_load : loadT Try.prog 21 = some (1, false) := by kernel_rfl
theorem fc21_size : tySize Try.prog 21 = some 1 := by kernel_rfl
theorem fc21_int : intT Try.prog 21 = some .i32 := by kernel_rfl
theorem fc21_isb : isBoolT Try.prog 21 = false := by kernel_rfl
theorem fc21_u : Try.prog.underlying 21 = some (.int .i32) := by kernel_rfl
theorem fc21_zero : zeroT Try.prog 21 = some [.int .i32 0] := by kernel_rfl
theorem fc22_load : loadT Try.prog 22 = some (1, false) := by kernel_rfl
theorem fc22_size : tySize Try.prog 22 = some 1 := by kernel_rfl
theorem fc22_zero : zeroT Try.prog 22 = some [.slice none 0 0] := by kernel_rfl
theorem fc22_sl : sliceT Try.prog 22 = some (89, 4) := by kernel_rfl
theorem fc22_arr : arrT Try.prog 22 = none := by kernel_rfl
theorem fc22_app : appT Try.prog 22 = some (89, 4, 32) := by kernel_rfl
theorem fc22_z1 : zeroNT Try.prog 22 = some (89, [.int .i64 0, .int .i64 0, .int .i64 0, .int .i64 0], 32) := by kernel_rfl
theorem fc22_clear : clearT Try.prog 22 = some [.int .i64 0, .int .i64 0, .int .i64 0, .int .i64 0] := by kernel_rfl
theorem fc23_load : loadT Try.prog 23 = some (2, true) := by kernel_rfl
theorem fc23_size : tySize Try.prog 23 = some 2 := by kernel_rfl
theorem fc23_zero : zeroT Try.prog 23 = some [.int .i64 0, .slice none 0 0] := by kernel_rfl
theorem fc23_all : allPlaces Try.prog 23 = true := by kernel_rfl
theorem fc23_o0 : fieldOff Try.prog 23 0 = some 0 := by kernel_rfl
theorem fc23_f0 : fieldT Try.prog 23 0 = some (0, 1, false) := by kernel_rfl
theorem fc23_p0 : placeT Try.prog 23 0 = some (0, 1) := by kernel_rfl
theorem fc23_o1 : fieldOff Try.prog 23 1 = some 1 := by kernel_rfl
theorem fc23_f1 : fieldT Try.prog 23 1 = some (1, 1, false) := by kernel_rfl
theorem fc23_p1 : placeT Try.prog 23 1 = some (1, 1) := by kernel_rfl
theorem fc24_load : loadT Try.prog 24 = some (2, true) := by kernel_rfl
theorem fc24_size : tySize Try.prog 24 = some 2 := by kernel_rfl
theorem fc24_zero : zeroT Try.prog 24 = some [.int .i64 0, .slice none 0 0] := by kernel_rfl
theorem fc24_all : allPlaces Try.prog 24 = true := by kernel_rfl
theorem fc24_o0 : fieldOff Try.prog 24 0 = some 0 := by kernel_rfl
theorem fc24_f0 : fieldT Try.prog 24 0 = some (0, 1, false) := by kernel_rfl
theorem fc24_p0 : placeT Try.prog 24 0 = some (0, 1) := by kernel_rfl
theorem fc24_o1 : fieldOff Try.prog 24 1 = some 1 := by kernel_rfl
theorem fc24_f1 : fieldT Try.prog 24 1 = some (1, 1, false) := by kernel_rfl
theorem fc24_p1 : placeT Try.prog 24 1 = some (1, 1) := by kernel_rfl
theorem fc25_load : loadT Try.prog 25 = some (1, false) := by kernel_rfl
theorem fc25_size : tySize Try.prog 25 = some 1 := by kernel_rfl
theorem fc25_zero : zeroT Try.prog 25 = some [.slice none 0 0] := by kernel_rfl
theorem fc25_sl : sliceT Try.prog 25 = some (65, 3) := by kernel_rfl
theorem fc25_arr : arrT Try.prog 25 = none := by kernel_rfl
theorem fc25_app : appT Try.prog 25 = some (65, 3, 24) := by kernel_rfl
theorem fc25_z1 : zeroNT Try.prog 25 = some (65, [.int .i64 0, .int .i64 0, .int .i64 0], 24) := by kernel_rfl
theorem fc25_clear : clearT Try.prog 25 = some [.int .i64 0, .int .i64 0, .int .i64 0] := by kernel_rfl
theorem fc26_load : loadT Try.prog 26 = some (1, false) := by kernel_rfl
theorem fc26_size : tySize Try.prog 26 = some 1 := by kernel_rfl
theorem fc26_zero : zeroT Try.prog 26 = some [.nilFunc] := by kernel_rfl
theorem fc27_load : loadT Try.prog 27 = some (1, false) := by kernel_rfl
theorem fc27_size : tySize Try.prog 27 = some 1 := by kernel_rfl
theorem fc27_zero : zeroT Try.prog 27 = some [.nilFunc] := by kernel_rfl
theorem fc29_load : loadT Try.prog 29 = some (1, false) := by kernel_rfl
theorem fc29_size : tySize Try.prog 29 = some 1 := by kernel_rfl
theorem fc29_zero : zeroT Try.prog 29 = some [.nilFunc] := by kernel_rfl
theorem fc30_load : loadT Try.prog 30 = some (1, false) := by kernel_rfl
theorem fc30_size : tySize Try.prog 30 = some 1 := by kernel_rfl
theorem fc30_zero : zeroT Try.prog 30 = some [.slice none 0 0] := by kernel_rfl
theorem fc30_sl : sliceT Try.prog 30 = some (86, 4) := by kernel_rfl
theorem fc30_arr : arrT Try.prog 30 = none := by kernel_rfl
theorem fc30_app : appT Try.prog 30 = some (86, 4, 32) := by kernel_rfl
theorem fc30_z1 : zeroNT Try.prog 30 = some (86, [.int .i64 0, .int .i64 0, .int .i64 0, .int .i64 0], 32) := by kernel_rfl
theorem fc30_clear : clearT Try.prog 30 = some [.int .i64 0, .int .i64 0, .int .i64 0, .int .i64 0] := by kernel_rfl
theorem fc31_load : loadT Try.prog 31 = some (2, true) := by kernel_rfl
theorem fc31_size : tySize Try.prog 31 = some 2 := by kernel_rfl
theorem fc31_zero : zeroT Try.prog 31 = some [.int .i64 0, .slice none 0 0] := by kernel_rfl
theorem fc31_all : allPlaces Try.prog 31 = true := by kernel_rfl
theorem fc31_o0 : fieldOff Try.prog 31 0 = some 0 := by kernel_rfl
theorem fc31_f0 : fieldT Try.prog 31 0 = some (0, 1, false) := by kernel_rfl
theorem fc31_p0 : placeT Try.prog 31 0 = some (0, 1) := by kernel_rfl
theorem fc31_o1 : fieldOff Try.prog 31 1 = some 1 := by kernel_rfl
theorem fc31_f1 : fieldT Try.prog 31 1 = some (1, 1, false) := by kernel_rfl
theorem fc31_p1 : placeT Try.prog 31 1 = some (1, 1) := by kernel_rfl
theorem fc32_load : loadT Try.prog 32 = some (2, true) := by kernel_rfl
theorem fc32_size : tySize Try.prog 32 = some 2 := by kernel_rfl
theorem fc32_zero : zeroT Try.prog 32 = some [.int .i64 0, .slice none 0 0] := by kernel_rfl
theorem fc32_all : allPlaces Try.prog 32 = true := by kernel_rfl
theorem fc32_o0 : fieldOff Try.prog 32 0 = some 0 := by kernel_rfl
theorem fc32_f0 : fieldT Try.prog 32 0 = some (0, 1, false) := by kernel_rfl
theorem fc32_p0 : placeT Try.prog 32 0 = some (0, 1) := by kernel_rfl
theorem fc32_o1 : fieldOff Try.prog 32 1 = some 1 := by kernel_rfl
theorem fc32_f1 : fieldT Try.prog 32 1 = some (1, 1, false) := by kernel_rfl
theorem fc32_p1 : placeT Try.prog 32 1 = some (1, 1) := by kernel_rfl
theorem fc33_load : loadT Try.prog 33 = some (1, false) := by kernel_rfl
theorem fc33_size : tySize Try.prog 33 = some 1 := by kernel_rfl
theorem fc33_zero : zeroT Try.prog 33 = some [.nilFunc] := by kernel_rfl
theorem fc34_load : loadT Try.prog 34 = some (1, false) := by kernel_rfl
theorem fc34_size : tySize Try.prog 34 = some 1 := by kernel_rfl
theorem fc34_zero : zeroT Try.prog 34 = some [.slice none 0 0] := by kernel_rfl
theorem fc34_sl : sliceT Try.prog 34 = some (48, 3) := by kernel_rfl
theorem fc34_arr : arrT Try.prog 34 = none := by kernel_rfl
theorem fc34_app : appT Try.prog 34 = some (48, 3, 24) := by kernel_rfl
theorem fc34_z1 : zeroNT Try.prog 34 = some (48, [.int .i64 0, .int .i64 0, .int .i64 0], 24) := by kernel_rfl
theorem fc34_clear : clearT Try.prog 34 = some [.int .i64 0, .int .i64 0, .int .i64 0] := by kernel_rfl
theorem fc35_load : loadT Try.prog 35 = some (1, false) := by kernel_rfl
theorem fc35_size : tySize Try.prog 35 = some 1 := by kernel_rfl
theorem fc35_zero : zeroT Try.prog 35 = some [.nilFunc] := by kernel_rfl
theorem fc36_load : loadT Try.prog 36 = some (1, false) := by kernel_rfl
theorem fc36_size : tySize Try.prog 36 = some 1 := by kernel_rfl
theorem fc36_zero : zeroT Try.prog 36 = some [.nilFunc] := by kernel_rfl
theorem fc37_load : loadT Try.prog 37 = some (1, false) := by kernel_rfl
theorem fc37_size : tySize Try.prog 37 = some 1 := by kernel_rfl
theorem fc37_zero : zeroT Try.prog 37 = some [.nilFunc] := by kernel_rfl
theorem fc38_load : loadT Try.prog 38 = some (1, false) := by kernel_rfl
theorem fc38_size : tySize Try.prog 38 = some 1 := by kernel_rfl
theorem fc38_zero : zeroT Try.prog 38 = some [.nilFunc] := by kernel_rfl
theorem fc39_load : loadT Try.prog 39 = some (1, false) := by kernel_rfl
theorem fc39_size : tySize Try.prog 39 = some 1 := by kernel_rfl
theorem fc39_zero : zeroT Try.prog 39 = some [.slice none 0 0] := by kernel_rfl
theorem fc39_sl : sliceT Try.prog 39 = some (5, 1) := by kernel_rfl
theorem fc39_arr : arrT Try.prog 39 = none := by kernel_rfl
theorem fc39_app : appT Try.prog 39 = some (5, 1, 1) := by kernel_rfl
theorem fc39_z1 : zeroNT Try.prog 39 = some (5, [.int .u8 0], 1) := by kernel_rfl
theorem fc39_clear : clearT Try.prog 39 = some [.int .u8 0] := by kernel_rfl
theorem fc40_load : loadT Try.prog 40 = some (1, false) := by kernel_rfl
theorem fc40_size : tySize Try.prog 40 = some 1 := by kernel_rfl
theorem fc40_zero : zeroT Try.prog 40 = some [.nilFunc] := by kernel_rfl
theorem fc42_load : loadT Try.prog 42 = some (1, false) := by kernel_rfl
theorem fc42_size : tySize Try.prog 42 = some 1 := by kernel_rfl
theorem fc42_zero : zeroT Try.prog 42 = some [.nilFunc] := by kernel_rfl
theorem fc43_load : loadT Try.prog 43 = some (1, false) := by kernel_rfl
theorem fc43_size : tySize Try.prog 43 = some 1 := by kernel_rfl
theorem fc43_zero : zeroT Try.prog 43 = some [.slice none 0 0] := by kernel_rfl
theorem fc43_sl : sliceT Try.prog 43 = some (3, 1) := by kernel_rfl
theorem fc43_arr : arrT Try.prog 43 = none := by kernel_rfl
theorem fc43_app : appT Try.prog 43 = some (3, 1, 8) := by kernel_rfl
theorem fc43_z1 : zeroNT Try.prog 43 = some (3, [.int .i64 0], 8) := by kernel_rfl
theorem fc43_clear : clearT Try.prog 43 = some [.int .i64 0] := by kernel_rfl
theorem fc45_load : loadT Try.prog 45 = some (1, false) := by kernel_rfl
theorem fc45_size : tySize Try.prog 45 = some 1 := by kernel_rfl
theorem fc45_zero : zeroT Try.prog 45 = some [.nilFunc] := by kernel_rfl
theorem fc46_load : loadT Try.prog 46 = some (1, false) := by kernel_rfl
theorem fc46_size : tySize Try.prog 46 = some 1 := by kernel_rfl
theorem fc46_zero : zeroT Try.prog 46 = some [.nilFunc] := by kernel_rfl
theorem fc47_load : loadT Try.prog 47 = some (3, true) := by kernel_rfl
theorem fc47_size : tySize Try.prog 47 = some 3 := by kernel_rfl
theorem fc47_zero : zeroT Try.prog 47 = some [.int .i64 0, .int .i64 0, .int .i64 0] := by kernel_rfl
theorem fc47_eq : eqT Try.prog 47 = some [(0, false), (1, false), (2, false)] := by kernel_rfl
theorem fc47_all : allPlaces Try.prog 47 = true := by kernel_rfl
theorem fc47_o0 : fieldOff Try.prog 47 0 = some 0 := by kernel_rfl
theorem fc47_f0 : fieldT Try.prog 47 0 = some (0, 1, false) := by kernel_rfl
theorem fc47_p0 : placeT Try.prog 47 0 = some (0, 1) := by kernel_rfl
theorem fc47_o1 : fieldOff Try.prog 47 1 = some 1 := by kernel_rfl
theorem fc47_f1 : fieldT Try.prog 47 1 = some (1, 1, false) := by kernel_rfl
theorem fc47_p1 : placeT Try.prog 47 1 = some (1, 1) := by kernel_rfl
theorem fc47_o2 : fieldOff Try.prog 47 2 = some 2 := by kernel_rfl
theorem fc47_f2 : fieldT Try.prog 47 2 = some (2, 1, false) := by kernel_rfl
theorem fc47_p2 : placeT Try.prog 47 2 = some (2, 1) := by kernel_rfl
theorem fc48_load : loadT Try.prog 48 = some (3, true) := by kernel_rfl
theorem fc48_size : tySize Try.prog 48 = some 3 := by kernel_rfl
theorem fc48_zero : zeroT Try.prog 48 = some [.int .i64 0, .int .i64 0, .int .i64 0] := by kernel_rfl
theorem fc48_eq : eqT Try.prog 48 = some [(0, false), (1, false), (2, false)] := by kernel_rfl
theorem fc48_all : allPlaces Try.prog 48 = true := by kernel_rfl
theorem fc48_o0 : fieldOff Try.prog 48 0 = some 0 := by kernel_rfl
theorem fc48_f0 : fieldT Try.prog 48 0 = some (0, 1, false) := by kernel_rfl
theorem fc48_p0 : placeT Try.prog 48 0 = some (0, 1) := by kernel_rfl
theorem fc48_o1 : fieldOff Try.prog 48 1 = some 1 := by kernel_rfl
theorem fc48_f1 : fieldT Try.prog 48 1 = some (1, 1, false) := by kernel_rfl
theorem fc48_p1 : placeT Try.prog 48 1 = some (1, 1) := by kernel_rfl
theorem fc48_o2 : fieldOff Try.prog 48 2 = some 2 := by kernel_rfl
theorem fc48_f2 : fieldT Try.prog 48 2 = some (2, 1, false) := by kernel_rfl
theorem fc48_p2 : placeT Try.prog 48 2 = some (2, 1) := by kernel_rfl
theorem fc49_load : loadT Try.prog 49 = some (1, false) := by kernel_rfl
theorem fc49_size : tySize Try.prog 49 = some 1 := by kernel_rfl
theorem fc49_zero : zeroT Try.prog 49 = some [.nilFunc] := by kernel_rfl
theorem fc51_load : loadT Try.prog 51 = some (1, false) := by kernel_rfl
theorem fc51_size : tySize Try.prog 51 = some 1 := by kernel_rfl
theorem fc51_zero : zeroT Try.prog 51 = some [.nilFunc] := by kernel_rfl
theorem fc53_load : loadT Try.prog 53 = some (1, false) := by kernel_rfl
theorem fc53_size : tySize Try.prog 53 = some 1 := by kernel_rfl
theorem fc53_zero : zeroT Try.prog 53 = some [.nilFunc] := by kernel_rfl
theorem fc54_load : loadT Try.prog 54 = some (1, false) := by kernel_rfl
theorem fc54_size : tySize Try.prog 54 = some 1 := by kernel_rfl
theorem fc54_zero : zeroT Try.prog 54 = some [.nilFunc] := by kernel_rfl
theorem fc55_load : loadT Try.prog 55 = some (1, false) := by kernel_rfl
theorem fc55_size : tySize Try.prog 55 = some 1 := by kernel_rfl
theorem fc55_zero : zeroT Try.prog 55 = some [.nilFunc] := by kernel_rfl
theorem fc56_load : loadT Try.prog 56 = some (1, false) := by kernel_rfl
theorem fc56_size : tySize Try.prog 56 = some 1 := by kernel_rfl
theorem fc56_zero : zeroT Try.prog 56 = some [.nilFunc] := by kernel_rfl
theorem fc57_load : loadT Try.prog 57 = some (1, false) := by kernel_rfl
theorem fc57_size : tySize Try.prog 57 = some 1 := by kernel_rfl
theorem fc57_zero : zeroT Try.prog 57 = some [.nilFunc] := by kernel_rfl
theorem fc58_load : loadT Try.prog 58 = some (1, false) := by kernel_rfl
theorem fc58_size : tySize Try.prog 58 = some 1 := by kernel_rfl
theorem fc58_zero : zeroT Try.prog 58 = some [.nilFunc] := by kernel_rfl
theorem fc59_load : loadT Try.prog 59 = some (1, false) := by kernel_rfl
theorem fc59_size : tySize Try.prog 59 = some 1 := by kernel_rfl
theorem fc59_zero : zeroT Try.prog 59 = some [.nilFunc] := by kernel_rfl
theorem fc60_load : loadT Try.prog 60 = some (1, false) := by kernel_rfl
theorem fc60_size : tySize Try.prog 60 = some 1 := by kernel_rfl
theorem fc60_zero : zeroT Try.prog 60 = some [.nilFunc] := by kernel_rfl
theorem fc61_load : loadT Try.prog 61 = some (1, false) := by kernel_rfl
theorem fc61_size : tySize Try.prog 61 = some 1 := by kernel_rfl
theorem fc61_zero : zeroT Try.prog 61 = some [.nilFunc] := by kernel_rfl
theorem fc62_load : loadT Try.prog 62 = some (1, false) := by kernel_rfl
theorem fc62_size : tySize Try.prog 62 = some 1 := by kernel_rfl
theorem fc62_zero : zeroT Try.prog 62 = some [.nilFunc] := by kernel_rfl
theorem fc63_load : loadT Try.prog 63 = some (1, false) := by kernel_rfl
theorem fc63_size : tySize Try.prog 63 = some 1 := by kernel_rfl
theorem fc63_zero : zeroT Try.prog 63 = some [.nilFunc] := by kernel_rfl
theorem fc64_load : loadT Try.prog 64 = some (1, false) := by kernel_rfl
theorem fc64_size : tySize Try.prog 64 = some 1 := by kernel_rfl
theorem fc64_zero : zeroT Try.prog 64 = some [.nilFunc] := by kernel_rfl
theorem fc65_load : loadT Try.prog 65 = some (3, true) := by kernel_rfl
theorem fc65_size : tySize Try.prog 65 = some 3 := by kernel_rfl
theorem fc65_zero : zeroT Try.prog 65 = some [.int .i64 0, .int .i64 0, .int .i64 0] := by kernel_rfl
theorem fc65_eq : eqT Try.prog 65 = some [(0, false), (1, false), (2, false)] := by kernel_rfl
theorem fc65_all : allPlaces Try.prog 65 = true := by kernel_rfl
theorem fc65_o0 : fieldOff Try.prog 65 0 = some 0 := by kernel_rfl
theorem fc65_f0 : fieldT Try.prog 65 0 = some (0, 1, false) := by kernel_rfl
theorem fc65_p0 : placeT Try.prog 65 0 = some (0, 1) := by kernel_rfl
theorem fc65_o1 : fieldOff Try.prog 65 1 = some 1 := by kernel_rfl
theorem fc65_f1 : fieldT Try.prog 65 1 = some (1, 1, false) := by kernel_rfl
theorem fc65_p1 : placeT Try.prog 65 1 = some (1, 1) := by kernel_rfl
theorem fc65_o2 : fieldOff Try.prog 65 2 = some 2 := by kernel_rfl
theorem fc65_f2 : fieldT Try.prog 65 2 = some (2, 1, false) := by kernel_rfl
theorem fc65_p2 : placeT Try.prog 65 2 = some (2, 1) := by kernel_rfl
theorem fc66_load : loadT Try.prog 66 = some (1, false) := by kernel_rfl
theorem fc66_size : tySize Try.prog 66 = some 1 := by kernel_rfl
theorem fc66_zero : zeroT Try.prog 66 = some [.nilFunc] := by kernel_rfl
theorem fc67_load : loadT Try.prog 67 = some (1, false) := by kernel_rfl
theorem fc67_size : tySize Try.prog 67 = some 1 := by kernel_rfl
theorem fc67_zero : zeroT Try.prog 67 = some [.nilFunc] := by kernel_rfl
theorem fc68_load : loadT Try.prog 68 = some (1, false) := by kernel_rfl
theorem fc68_size : tySize Try.prog 68 = some 1 := by kernel_rfl
theorem fc68_zero : zeroT Try.prog 68 = some [.nilFunc] := by kernel_rfl
theorem fc69_load : loadT Try.prog 69 = some (1, false) := by kernel_rfl
theorem fc69_size : tySize Try.prog 69 = some 1 := by kernel_rfl
theorem fc69_zero : zeroT Try.prog 69 = some [.nilFunc] := by kernel_rfl
theorem fc70_load : loadT Try.prog 70 = some (1, false) := by kernel_rfl
theorem fc70_size : tySize Try.prog 70 = some 1 := by kernel_rfl
theorem fc70_zero : zeroT Try.prog 70 = some [.nilFunc] := by kernel_rfl
theorem fc71_load : loadT Try.prog 71 = some (1, false) := by kernel_rfl
theorem fc71_size : tySize Try.prog 71 = some 1 := by kernel_rfl
theorem fc71_zero : zeroT Try.prog 71 = some [.nilFunc] := by kernel_rfl
theorem fc73_load : loadT Try.prog 73 = some (1, false) := by kernel_rfl
theorem fc73_size : tySize Try.prog 73 = some 1 := by kernel_rfl
theorem fc73_zero : zeroT Try.prog 73 = some [.nilFunc] := by kernel_rfl
theorem fc74_load : loadT Try.prog 74 = some (1, false) := by kernel_rfl
theorem fc74_size : tySize Try.prog 74 = some 1 := by kernel_rfl
theorem fc74_zero : zeroT Try.prog 74 = some [.pointer none] := by kernel_rfl
theorem fc74_sl : sliceT Try.prog 74 = none := by kernel_rfl
theorem fc75_load : loadT Try.prog 75 = some (1, false) := by kernel_rfl
theorem fc75_size : tySize Try.prog 75 = some 1 := by kernel_rfl
theorem fc75_int : intT Try.prog 75 = some .u64 := by kernel_rfl
theorem fc75_isb : isBoolT Try.prog 75 = false := by kernel_rfl
theorem fc75_u : Try.prog.underlying 75 = some (.int .u64) := by kernel_rfl
theorem fc75_zero : zeroT Try.prog 75 = some [.int .u64 0] := by kernel_rfl
theorem fc76_load : loadT Try.prog 76 = some (3, true) := by kernel_rfl
theorem fc76_size : tySize Try.prog 76 = some 3 := by kernel_rfl
theorem fc76_zero : zeroT Try.prog 76 = some [.slice none 0 0, .int .i64 0, .int .u64 0] := by kernel_rfl
theorem fc76_all : allPlaces Try.prog 76 = true := by kernel_rfl
theorem fc76_o0 : fieldOff Try.prog 76 0 = some 0 := by kernel_rfl
theorem fc76_f0 : fieldT Try.prog 76 0 = some (0, 1, false) := by kernel_rfl
theorem fc76_p0 : placeT Try.prog 76 0 = some (0, 1) := by kernel_rfl
theorem fc76_o1 : fieldOff Try.prog 76 1 = some 1 := by kernel_rfl
theorem fc76_f1 : fieldT Try.prog 76 1 = some (1, 1, false) := by kernel_rfl
theorem fc76_p1 : placeT Try.prog 76 1 = some (1, 1) := by kernel_rfl
theorem fc76_o2 : fieldOff Try.prog 76 2 = some 2 := by kernel_rfl
theorem fc76_f2 : fieldT Try.prog 76 2 = some (2, 1, false) := by kernel_rfl
theorem fc76_p2 : placeT Try.prog 76 2 = some (2, 1) := by kernel_rfl
theorem fc77_load : loadT Try.prog 77 = some (3, true) := by kernel_rfl
theorem fc77_size : tySize Try.prog 77 = some 3 := by kernel_rfl
theorem fc77_zero : zeroT Try.prog 77 = some [.slice none 0 0, .int .i64 0, .int .u64 0] := by kernel_rfl
theorem fc77_all : allPlaces Try.prog 77 = true := by kernel_rfl
theorem fc77_o0 : fieldOff Try.prog 77 0 = some 0 := by kernel_rfl
theorem fc77_f0 : fieldT Try.prog 77 0 = some (0, 1, false) := by kernel_rfl
theorem fc77_p0 : placeT Try.prog 77 0 = some (0, 1) := by kernel_rfl
theorem fc77_o1 : fieldOff Try.prog 77 1 = some 1 := by kernel_rfl
theorem fc77_f1 : fieldT Try.prog 77 1 = some (1, 1, false) := by kernel_rfl
theorem fc77_p1 : placeT Try.prog 77 1 = some (1, 1) := by kernel_rfl
theorem fc77_o2 : fieldOff Try.prog 77 2 = some 2 := by kernel_rfl
theorem fc77_f2 : fieldT Try.prog 77 2 = some (2, 1, false) := by kernel_rfl
theorem fc77_p2 : placeT Try.prog 77 2 = some (2, 1) := by kernel_rfl
theorem fc78_load : loadT Try.prog 78 = some (1, false) := by kernel_rfl
theorem fc78_size : tySize Try.prog 78 = some 1 := by kernel_rfl
theorem fc78_zero : zeroT Try.prog 78 = some [.nilFunc] := by kernel_rfl
theorem fc79_load : loadT Try.prog 79 = some (1, false) := by kernel_rfl
theorem fc79_size : tySize Try.prog 79 = some 1 := by kernel_rfl
theorem fc79_zero : zeroT Try.prog 79 = some [.nilFunc] := by kernel_rfl
theorem fc80_load : loadT Try.prog 80 = some (1, false) := by kernel_rfl
theorem fc80_size : tySize Try.prog 80 = some 1 := by kernel_rfl
theorem fc80_zero : zeroT Try.prog 80 = some [.nilFunc] := by kernel_rfl
theorem fc81_load : loadT Try.prog 81 = some (1, false) := by kernel_rfl
theorem fc81_size : tySize Try.prog 81 = some 1 := by kernel_rfl
theorem fc81_zero : zeroT Try.prog 81 = some [.nilFunc] := by kernel_rfl
theorem fc82_load : loadT Try.prog 82 = some (1, false) := by kernel_rfl
theorem fc82_size : tySize Try.prog 82 = some 1 := by kernel_rfl
theorem fc82_zero : zeroT Try.prog 82 = some [.nilFunc] := by kernel_rfl
theorem fc83_load : loadT Try.prog 83 = some (1, false) := by kernel_rfl
theorem fc83_size : tySize Try.prog 83 = some 1 := by kernel_rfl
theorem fc83_zero : zeroT Try.prog 83 = some [.nilFunc] := by kernel_rfl
theorem fc84_load : loadT Try.prog 84 = some (1, false) := by kernel_rfl
theorem fc84_size : tySize Try.prog 84 = some 1 := by kernel_rfl
theorem fc84_zero : zeroT Try.prog 84 = some [.nilFunc] := by kernel_rfl
theorem fc85_load : loadT Try.prog 85 = some (4, true) := by kernel_rfl
theorem fc85_size : tySize Try.prog 85 = some 4 := by kernel_rfl
theorem fc85_zero : zeroT Try.prog 85 = some [.int .i64 0, .int .i64 0, .int .i64 0, .int .i64 0] := by kernel_rfl
theorem fc85_eq : eqT Try.prog 85 = some [(0, false), (1, false), (2, false), (3, false)] := by kernel_rfl
theorem fc85_all : allPlaces Try.prog 85 = true := by kernel_rfl
theorem fc85_o0 : fieldOff Try.prog 85 0 = some 0 := by kernel_rfl
theorem fc85_f0 : fieldT Try.prog 85 0 = some (0, 1, false) := by kernel_rfl
theorem fc85_p0 : placeT Try.prog 85 0 = some (0, 1) := by kernel_rfl
theorem fc85_o1 : fieldOff Try.prog 85 1 = some 1 := by kernel_rfl
theorem fc85_f1 : fieldT Try.prog 85 1 = some (1, 1, false) := by kernel_rfl
theorem fc85_p1 : placeT Try.prog 85 1 = some (1, 1) := by kernel_rfl
theorem fc85_o2 : fieldOff Try.prog 85 2 = some 2 := by kernel_rfl
theorem fc85_f2 : fieldT Try.prog 85 2 = some (2, 1, false) := by kernel_rfl
theorem fc85_p2 : placeT Try.prog 85 2 = some (2, 1) := by kernel_rfl
theorem fc85_o3 : fieldOff Try.prog 85 3 = some 3 := by kernel_rfl
theorem fc85_f3 : fieldT Try.prog 85 3 = some (3, 1, false) := by kernel_rfl
theorem fc85_p3 : placeT Try.prog 85 3 = some (3, 1) := by kernel_rfl
theorem fc86_load : loadT Try.prog 86 = some (4, true) := by kernel_rfl
theorem fc86_size : tySize Try.prog 86 = some 4 := by kernel_rfl
theorem fc86_zero : zeroT Try.prog 86 = some [.int .i64 0, .int .i64 0, .int .i64 0, .int .i64 0] := by kernel_rfl
theorem fc86_eq : eqT Try.prog 86 = some [(0, false), (1, false), (2, false), (3, false)] := by kernel_rfl
theorem fc86_all : allPlaces Try.prog 86 = true := by kernel_rfl
theorem fc86_o0 : fieldOff Try.prog 86 0 = some 0 := by kernel_rfl
theorem fc86_f0 : fieldT Try.prog 86 0 = some (0, 1, false) := by kernel_rfl
theorem fc86_p0 : placeT Try.prog 86 0 = some (0, 1) := by kernel_rfl
theorem fc86_o1 : fieldOff Try.prog 86 1 = some 1 := by kernel_rfl
theorem fc86_f1 : fieldT Try.prog 86 1 = some (1, 1, false) := by kernel_rfl
theorem fc86_p1 : placeT Try.prog 86 1 = some (1, 1) := by kernel_rfl
theorem fc86_o2 : fieldOff Try.prog 86 2 = some 2 := by kernel_rfl
theorem fc86_f2 : fieldT Try.prog 86 2 = some (2, 1, false) := by kernel_rfl
theorem fc86_p2 : placeT Try.prog 86 2 = some (2, 1) := by kernel_rfl
theorem fc86_o3 : fieldOff Try.prog 86 3 = some 3 := by kernel_rfl
theorem fc86_f3 : fieldT Try.prog 86 3 = some (3, 1, false) := by kernel_rfl
theorem fc86_p3 : placeT Try.prog 86 3 = some (3, 1) := by kernel_rfl
theorem fc87_load : loadT Try.prog 87 = some (1, false) := by kernel_rfl
theorem fc87_size : tySize Try.prog 87 = some 1 := by kernel_rfl
theorem fc87_zero : zeroT Try.prog 87 = some [.nilFunc] := by kernel_rfl
theorem fc88_load : loadT Try.prog 88 = some (1, false) := by kernel_rfl
theorem fc88_size : tySize Try.prog 88 = some 1 := by kernel_rfl
theorem fc88_zero : zeroT Try.prog 88 = some [.nilFunc] := by kernel_rfl
theorem fc89_load : loadT Try.prog 89 = some (4, true) := by kernel_rfl
theorem fc89_size : tySize Try.prog 89 = some 4 := by kernel_rfl
theorem fc89_zero : zeroT Try.prog 89 = some [.int .i64 0, .int .i64 0, .int .i64 0, .int .i64 0] := by kernel_rfl
theorem fc89_eq : eqT Try.prog 89 = some [(0, false), (1, false), (2, false), (3, false)] := by kernel_rfl
theorem fc89_all : allPlaces Try.prog 89 = true := by kernel_rfl
theorem fc89_o0 : fieldOff Try.prog 89 0 = some 0 := by kernel_rfl
theorem fc89_f0 : fieldT Try.prog 89 0 = some (0, 1, false) := by kernel_rfl
theorem fc89_p0 : placeT Try.prog 89 0 = some (0, 1) := by kernel_rfl
theorem fc89_o1 : fieldOff Try.prog 89 1 = some 1 := by kernel_rfl
theorem fc89_f1 : fieldT Try.prog 89 1 = some (1, 1, false) := by kernel_rfl
theorem fc89_p1 : placeT Try.prog 89 1 = some (1, 1) := by kernel_rfl
theorem fc89_o2 : fieldOff Try.prog 89 2 = some 2 := by kernel_rfl
theorem fc89_f2 : fieldT Try.prog 89 2 = some (2, 1, false) := by kernel_rfl
theorem fc89_p2 : placeT Try.prog 89 2 = some (2, 1) := by kernel_rfl
theorem fc89_o3 : fieldOff Try.prog 89 3 = some 3 := by kernel_rfl
theorem fc89_f3 : fieldT Try.prog 89 3 = some (3, 1, false) := by kernel_rfl
theorem fc89_p3 : placeT Try.prog 89 3 = some (3, 1) := by kernel_rfl
theorem fc90_load : loadT Try.prog 90 = some (1, false) := by kernel_rfl
theorem fc90_size : tySize Try.prog 90 = some 1 := by kernel_rfl
theorem fc90_zero : zeroT Try.prog 90 = some [.nilFunc] := by kernel_rfl
theorem fc91_load : loadT Try.prog 91 = some (1, false) := by kernel_rfl
theorem fc91_size : tySize Try.prog 91 = some 1 := by kernel_rfl
theorem fc91_zero : zeroT Try.prog 91 = some [.nilFunc] := by kernel_rfl
theorem fc92_load : loadT Try.prog 92 = some (1, false) := by kernel_rfl
theorem fc92_size : tySize Try.prog 92 = some 1 := by kernel_rfl
theorem fc92_zero : zeroT Try.prog 92 = some [.nilFunc] := by kernel_rfl
theorem fc93_load : loadT Try.prog 93 = some (1, false) := by kernel_rfl
theorem fc93_size : tySize Try.prog 93 = some 1 := by kernel_rfl
theorem fc93_zero : zeroT Try.prog 93 = some [.nilFunc] := by kernel_rfl
theorem fc94_load : loadT Try.prog 94 = some (1, false) := by kernel_rfl
theorem fc94_size : tySize Try.prog 94 = some 1 := by kernel_rfl
theorem fc94_zero : zeroT Try.prog 94 = some [.nilFunc] := by kernel_rfl
theorem fc95_load : loadT Try.prog 95 = some (1, false) := by kernel_rfl
theorem fc95_size : tySize Try.prog 95 = some 1 := by kernel_rfl
theorem fc95_zero : zeroT Try.prog 95 = some [.nilFunc] := by kernel_rfl
theorem fc96_load : loadT Try.prog 96 = some (1, false) := by kernel_rfl
theorem fc96_size : tySize Try.prog 96 = some 1 := by kernel_rfl
theorem fc96_zero : zeroT Try.prog 96 = some [.nilFunc] := by kernel_rfl
theorem fc97_load : loadT Try.prog 97 = some (1, false) := by kernel_rfl
theorem fc97_size : tySize Try.prog 97 = some 1 := by kernel_rfl
theorem fc97_zero : zeroT Try.prog 97 = some [.nilFunc] := by kernel_rfl
theorem fc98_load : loadT Try.prog 98 = some (1, false) := by kernel_rfl
theorem fc98_size : tySize Try.prog 98 = some 1 := by kernel_rfl
theorem fc98_zero : zeroT Try.prog 98 = some [.nilFunc] := by kernel_rfl
theorem fc99_load : loadT Try.prog 99 = some (1, false) := by kernel_rfl
theorem fc99_size : tySize Try.prog 99 = some 1 := by kernel_rfl
theorem fc99_int : intT Try.prog 99 = some .u64 := by kernel_rfl
theorem fc99_isb : isBoolT Try.prog 99 = false := by kernel_rfl
theorem fc99_u : Try.prog.underlying 99 = some (.int .u64) := by kernel_rfl
theorem fc99_zero : zeroT Try.prog 99 = some [.int .u64 0] := by kernel_rfl
theorem fc100_load : loadT Try.prog 100 = some (1, false) := by kernel_rfl
theorem fc100_size : tySize Try.prog 100 = some 1 := by kernel_rfl
theorem fc100_zero : zeroT Try.prog 100 = some [.nilFunc] := by kernel_rfl
theorem fc101_load : loadT Try.prog 101 = some (4, true) := by kernel_rfl
theorem fc101_size : tySize Try.prog 101 = some 4 := by kernel_rfl
theorem fc101_zero : zeroT Try.prog 101 = some [.pointer none, .pointer none, .pointer none, .string ⟨#[]⟩] := by kernel_rfl
theorem fc101_all : allPlaces Try.prog 101 = true := by kernel_rfl
theorem fc101_o0 : fieldOff Try.prog 101 0 = some 0 := by kernel_rfl
theorem fc101_f0 : fieldT Try.prog 101 0 = some (0, 1, false) := by kernel_rfl
theorem fc101_p0 : placeT Try.prog 101 0 = some (0, 1) := by kernel_rfl
theorem fc101_o1 : fieldOff Try.prog 101 1 = some 1 := by kernel_rfl
theorem fc101_f1 : fieldT Try.prog 101 1 = some (1, 1, false) := by kernel_rfl
theorem fc101_p1 : placeT Try.prog 101 1 = some (1, 1) := by kernel_rfl
theorem fc101_o2 : fieldOff Try.prog 101 2 = some 2 := by kernel_rfl
theorem fc101_f2 : fieldT Try.prog 101 2 = some (2, 1, false) := by kernel_rfl
theorem fc101_p2 : placeT Try.prog 101 2 = some (2, 1) := by kernel_rfl
theorem fc101_o3 : fieldOff Try.prog 101 3 = some 3 := by kernel_rfl
theorem fc101_f3 : fieldT Try.prog 101 3 = some (3, 1, false) := by kernel_rfl
theorem fc101_p3 : placeT Try.prog 101 3 = some (3, 1) := by kernel_rfl
theorem fc102_load : loadT Try.prog 102 = some (4, true) := by kernel_rfl
theorem fc102_size : tySize Try.prog 102 = some 4 := by kernel_rfl
theorem fc102_zero : zeroT Try.prog 102 = some [.pointer none, .pointer none, .pointer none, .string ⟨#[]⟩] := by kernel_rfl
theorem fc102_all : allPlaces Try.prog 102 = true := by kernel_rfl
theorem fc102_o0 : fieldOff Try.prog 102 0 = some 0 := by kernel_rfl
theorem fc102_f0 : fieldT Try.prog 102 0 = some (0, 1, false) := by kernel_rfl
theorem fc102_p0 : placeT Try.prog 102 0 = some (0, 1) := by kernel_rfl
theorem fc102_o1 : fieldOff Try.prog 102 1 = some 1 := by kernel_rfl
theorem fc102_f1 : fieldT Try.prog 102 1 = some (1, 1, false) := by kernel_rfl
theorem fc102_p1 : placeT Try.prog 102 1 = some (1, 1) := by kernel_rfl
theorem fc102_o2 : fieldOff Try.prog 102 2 = some 2 := by kernel_rfl
theorem fc102_f2 : fieldT Try.prog 102 2 = some (2, 1, false) := by kernel_rfl
theorem fc102_p2 : placeT Try.prog 102 2 = some (2, 1) := by kernel_rfl
theorem fc102_o3 : fieldOff Try.prog 102 3 = some 3 := by kernel_rfl
theorem fc102_f3 : fieldT Try.prog 102 3 = some (3, 1, false) := by kernel_rfl
theorem fc102_p3 : placeT Try.prog 102 3 = some (3, 1) := by kernel_rfl
theorem fc103_load : loadT Try.prog 103 = some (0, true) := by kernel_rfl
theorem fc103_size : tySize Try.prog 103 = some 0 := by kernel_rfl
theorem fc103_zero : zeroT Try.prog 103 = some [] := by kernel_rfl
theorem fc103_arr : arrT Try.prog 103 = some (0, 1, false) := by kernel_rfl
theorem fc103_sl : sliceT Try.prog 103 = none := by kernel_rfl
theorem fc103_all : allPlaces Try.prog 103 = true := by kernel_rfl
theorem fc104_load : loadT Try.prog 104 = some (0, true) := by kernel_rfl
theorem fc104_size : tySize Try.prog 104 = some 0 := by kernel_rfl
theorem fc104_zero : zeroT Try.prog 104 = some [] := by kernel_rfl
theorem fc104_all : allPlaces Try.prog 104 = true := by kernel_rfl
theorem fc104_f0 : fieldT Try.prog 104 0 = some (0, 0, true) := by kernel_rfl
theorem fc104_p0 : placeT Try.prog 104 0 = some (0, 0) := by kernel_rfl
theorem fc105_load : loadT Try.prog 105 = some (0, true) := by kernel_rfl
theorem fc105_size : tySize Try.prog 105 = some 0 := by kernel_rfl
theorem fc105_zero : zeroT Try.prog 105 = some [] := by kernel_rfl
theorem fc105_all : allPlaces Try.prog 105 = true := by kernel_rfl
theorem fc105_f0 : fieldT Try.prog 105 0 = some (0, 0, true) := by kernel_rfl
theorem fc105_p0 : placeT Try.prog 105 0 = some (0, 0) := by kernel_rfl
theorem fc106_load : loadT Try.prog 106 = some (1, false) := by kernel_rfl
theorem fc106_size : tySize Try.prog 106 = some 1 := by kernel_rfl
theorem fc106_int : intT Try.prog 106 = some .u32 := by kernel_rfl
theorem fc106_isb : isBoolT Try.prog 106 = false := by kernel_rfl
theorem fc106_u : Try.prog.underlying 106 = some (.int .u32) := by kernel_rfl
theorem fc106_zero : zeroT Try.prog 106 = some [.int .u32 0] := by kernel_rfl
theorem fc107_load : loadT Try.prog 107 = some (1, false) := by kernel_rfl
theorem fc107_size : tySize Try.prog 107 = some 1 := by kernel_rfl
theorem fc107_int : intT Try.prog 107 = some .u8 := by kernel_rfl
theorem fc107_isb : isBoolT Try.prog 107 = false := by kernel_rfl
theorem fc107_u : Try.prog.underlying 107 = some (.int .u8) := by kernel_rfl
theorem fc107_zero : zeroT Try.prog 107 = some [.int .u8 0] := by kernel_rfl
theorem fc108_load : loadT Try.prog 108 = some (1, false) := by kernel_rfl
theorem fc108_size : tySize Try.prog 108 = some 1 := by kernel_rfl
theorem fc108_int : intT Try.prog 108 = some .u8 := by kernel_rfl
theorem fc108_isb : isBoolT Try.prog 108 = false := by kernel_rfl
theorem fc108_u : Try.prog.underlying 108 = some (.int .u8) := by kernel_rfl
theorem fc108_zero : zeroT Try.prog 108 = some [.int .u8 0] := by kernel_rfl
theorem fc109_load : loadT Try.prog 109 = some (1, false) := by kernel_rfl
theorem fc109_size : tySize Try.prog 109 = some 1 := by kernel_rfl
theorem fc109_zero : zeroT Try.prog 109 = some [.nilFunc] := by kernel_rfl
theorem fc110_load : loadT Try.prog 110 = some (1, false) := by kernel_rfl
theorem fc110_size : tySize Try.prog 110 = some 1 := by kernel_rfl
theorem fc110_zero : zeroT Try.prog 110 = some [.pointer none] := by kernel_rfl
theorem fc110_sl : sliceT Try.prog 110 = none := by kernel_rfl
theorem fc111_load : loadT Try.prog 111 = some (1, false) := by kernel_rfl
theorem fc111_size : tySize Try.prog 111 = some 1 := by kernel_rfl
theorem fc111_int : intT Try.prog 111 = some .i32 := by kernel_rfl
theorem fc111_isb : isBoolT Try.prog 111 = false := by kernel_rfl
theorem fc111_u : Try.prog.underlying 111 = some (.int .i32) := by kernel_rfl
theorem fc111_zero : zeroT Try.prog 111 = some [.int .i32 0] := by kernel_rfl
theorem fc112_load : loadT Try.prog 112 = some (1, false) := by kernel_rfl
theorem fc112_size : tySize Try.prog 112 = some 1 := by kernel_rfl
theorem fc112_int : intT Try.prog 112 = some .i32 := by kernel_rfl
theorem fc112_isb : isBoolT Try.prog 112 = false := by kernel_rfl
theorem fc112_u : Try.prog.underlying 112 = some (.int .i32) := by kernel_rfl
theorem fc112_zero : zeroT Try.prog 112 = some [.int .i32 0] := by kernel_rfl
theorem fc113_load : loadT Try.prog 113 = some (11, true) := by kernel_rfl
theorem fc113_size : tySize Try.prog 113 = some 11 := by kernel_rfl
theorem fc113_zero : zeroT Try.prog 113 = some [.int .u64 0, .int .u64 0, .int .u32 0, .int .u8 0, .int .u8 0, .int .u8 0, .int .u8 0, .nilFunc, .pointer none, .int .i32 0, .int .i32 0] := by kernel_rfl
theorem fc113_all : allPlaces Try.prog 113 = true := by kernel_rfl
theorem fc113_o0 : fieldOff Try.prog 113 0 = some 0 := by kernel_rfl
theorem fc113_f0 : fieldT Try.prog 113 0 = some (0, 1, false) := by kernel_rfl
theorem fc113_p0 : placeT Try.prog 113 0 = some (0, 1) := by kernel_rfl
theorem fc113_o1 : fieldOff Try.prog 113 1 = some 1 := by kernel_rfl
theorem fc113_f1 : fieldT Try.prog 113 1 = some (1, 1, false) := by kernel_rfl
theorem fc113_p1 : placeT Try.prog 113 1 = some (1, 1) := by kernel_rfl
theorem fc113_o2 : fieldOff Try.prog 113 2 = some 2 := by kernel_rfl
theorem fc113_f2 : fieldT Try.prog 113 2 = some (2, 1, false) := by kernel_rfl
theorem fc113_p2 : placeT Try.prog 113 2 = some (2, 1) := by kernel_rfl
theorem fc113_o3 : fieldOff Try.prog 113 3 = some 3 := by kernel_rfl
theorem fc113_f3 : fieldT Try.prog 113 3 = some (3, 1, false) := by kernel_rfl
theorem fc113_p3 : placeT Try.prog 113 3 = some (3, 1) := by kernel_rfl
theorem fc113_o4 : fieldOff Try.prog 113 4 = some 4 := by kernel_rfl
theorem fc113_f4 : fieldT Try.prog 113 4 = some (4, 1, false) := by kernel_rfl
theorem fc113_p4 : placeT Try.prog 113 4 = some (4, 1) := by kernel_rfl
theorem fc113_o5 : fieldOff Try.prog 113 5 = some 5 := by kernel_rfl
theorem fc113_f5 : fieldT Try.prog 113 5 = some (5, 1, false) := by kernel_rfl
theorem fc113_p5 : placeT Try.prog 113 5 = some (5, 1) := by kernel_rfl
theorem fc113_o6 : fieldOff Try.prog 113 6 = some 6 := by kernel_rfl
theorem fc113_f6 : fieldT Try.prog 113 6 = some (6, 1, false) := by kernel_rfl
theorem fc113_p6 : placeT Try.prog 113 6 = some (6, 1) := by kernel_rfl
theorem fc113_o7 : fieldOff Try.prog 113 7 = some 7 := by kernel_rfl
theorem fc113_f7 : fieldT Try.prog 113 7 = some (7, 1, false) := by kernel_rfl
theorem fc113_p7 : placeT Try.prog 113 7 = some (7, 1) := by kernel_rfl
theorem fc113_o8 : fieldOff Try.prog 113 8 = some 8 := by kernel_rfl
theorem fc113_f8 : fieldT Try.prog 113 8 = some (8, 1, false) := by kernel_rfl
theorem fc113_p8 : placeT Try.prog 113 8 = some (8, 1) := by kernel_rfl
theorem fc113_o9 : fieldOff Try.prog 113 9 = some 9 := by kernel_rfl
theorem fc113_f9 : fieldT Try.prog 113 9 = some (9, 1, false) := by kernel_rfl
theorem fc113_p9 : placeT Try.prog 113 9 = some (9, 1) := by kernel_rfl
theorem fc113_o10 : fieldOff Try.prog 113 10 = some 10 := by kernel_rfl
theorem fc113_f10 : fieldT Try.prog 113 10 = some (10, 1, false) := by kernel_rfl
theorem fc113_p10 : placeT Try.prog 113 10 = some (10, 1) := by kernel_rfl
theorem fc114_load : loadT Try.prog 114 = some (11, true) := by kernel_rfl
theorem fc114_size : tySize Try.prog 114 = some 11 := by kernel_rfl
theorem fc114_zero : zeroT Try.prog 114 = some [.int .u64 0, .int .u64 0, .int .u32 0, .int .u8 0, .int .u8 0, .int .u8 0, .int .u8 0, .nilFunc, .pointer none, .int .i32 0, .int .i32 0] := by kernel_rfl
theorem fc114_all : allPlaces Try.prog 114 = true := by kernel_rfl
theorem fc114_o0 : fieldOff Try.prog 114 0 = some 0 := by kernel_rfl
theorem fc114_f0 : fieldT Try.prog 114 0 = some (0, 1, false) := by kernel_rfl
theorem fc114_p0 : placeT Try.prog 114 0 = some (0, 1) := by kernel_rfl
theorem fc114_o1 : fieldOff Try.prog 114 1 = some 1 := by kernel_rfl
theorem fc114_f1 : fieldT Try.prog 114 1 = some (1, 1, false) := by kernel_rfl
theorem fc114_p1 : placeT Try.prog 114 1 = some (1, 1) := by kernel_rfl
theorem fc114_o2 : fieldOff Try.prog 114 2 = some 2 := by kernel_rfl
theorem fc114_f2 : fieldT Try.prog 114 2 = some (2, 1, false) := by kernel_rfl
theorem fc114_p2 : placeT Try.prog 114 2 = some (2, 1) := by kernel_rfl
theorem fc114_o3 : fieldOff Try.prog 114 3 = some 3 := by kernel_rfl
theorem fc114_f3 : fieldT Try.prog 114 3 = some (3, 1, false) := by kernel_rfl
theorem fc114_p3 : placeT Try.prog 114 3 = some (3, 1) := by kernel_rfl
theorem fc114_o4 : fieldOff Try.prog 114 4 = some 4 := by kernel_rfl
theorem fc114_f4 : fieldT Try.prog 114 4 = some (4, 1, false) := by kernel_rfl
theorem fc114_p4 : placeT Try.prog 114 4 = some (4, 1) := by kernel_rfl
theorem fc114_o5 : fieldOff Try.prog 114 5 = some 5 := by kernel_rfl
theorem fc114_f5 : fieldT Try.prog 114 5 = some (5, 1, false) := by kernel_rfl
theorem fc114_p5 : placeT Try.prog 114 5 = some (5, 1) := by kernel_rfl
theorem fc114_o6 : fieldOff Try.prog 114 6 = some 6 := by kernel_rfl
theorem fc114_f6 : fieldT Try.prog 114 6 = some (6, 1, false) := by kernel_rfl
theorem fc114_p6 : placeT Try.prog 114 6 = some (6, 1) := by kernel_rfl
theorem fc114_o7 : fieldOff Try.prog 114 7 = some 7 := by kernel_rfl
theorem fc114_f7 : fieldT Try.prog 114 7 = some (7, 1, false) := by kernel_rfl
theorem fc114_p7 : placeT Try.prog 114 7 = some (7, 1) := by kernel_rfl
theorem fc114_o8 : fieldOff Try.prog 114 8 = some 8 := by kernel_rfl
theorem fc114_f8 : fieldT Try.prog 114 8 = some (8, 1, false) := by kernel_rfl
theorem fc114_p8 : placeT Try.prog 114 8 = some (8, 1) := by kernel_rfl
theorem fc114_o9 : fieldOff Try.prog 114 9 = some 9 := by kernel_rfl
theorem fc114_f9 : fieldT Try.prog 114 9 = some (9, 1, false) := by kernel_rfl
theorem fc114_p9 : placeT Try.prog 114 9 = some (9, 1) := by kernel_rfl
theorem fc114_o10 : fieldOff Try.prog 114 10 = some 10 := by kernel_rfl
theorem fc114_f10 : fieldT Try.prog 114 10 = some (10, 1, false) := by kernel_rfl
theorem fc114_p10 : placeT Try.prog 114 10 = some (10, 1) := by kernel_rfl
attribute [go_sem] fc1_load fc1_size fc1_zero fc2_load fc2_size fc2_int fc2_isb fc2_u fc2_zero fc3_load fc3_size fc3_int fc3_isb fc3_u fc3_zero fc4_load fc4_size fc4_isb fc4_zero fc5_load fc5_size fc5_int fc5_isb fc5_u fc5_zero fc6_load fc6_size fc6_int fc6_isb fc6_u fc6_zero fc7_load fc7_size fc7_zero fc7_eq fc7_all fc7_o0 fc7_f0 fc7_p0 fc7_o1 fc7_f1 fc7_p1 fc7_o2 fc7_f2 fc7_p2 fc7_o3 fc7_f3 fc7_p3 fc8_load fc8_size fc8_zero fc8_eq fc8_all fc8_o0 fc8_f0 fc8_p0 fc8_o1 fc8_f1 fc8_p1 fc8_o2 fc8_f2 fc8_p2 fc8_o3 fc8_f3 fc8_p3 fc9_load fc9_size fc9_iss fc9_zero fc10_load fc10_size fc10_iss fc10_zero fc11_load fc11_size fc11_iss fc11_zero fc12_load fc12_size fc12_int fc12_isb fc12_u fc12_zero fc13_load fc13_size fc13_zero fc13_all fc13_o0 fc13_f0 fc13_p0 fc13_o1 fc13_f1 fc13_p1 fc14_load fc14_size fc14_zero fc14_all fc14_o0 fc14_f0 fc14_p0 fc14_o1 fc14_f1 fc14_p1 fc15_load fc15_size fc15_zero fc15_sl fc16_load fc16_size fc16_zero fc16_sl fc17_load fc17_size fc17_zero fc17_sl fc18_load fc18_size fc18_zero fc18_all fc18_o0 fc18_f0 fc18_p0 fc19_load fc19_size fc19_zero fc19_all fc19_o0 fc19_f0 fc19_p0 fc21_load fc21_size fc21_int fc21_isb fc21_u fc21_zero fc22_load fc22_size fc22_zero fc22_sl fc22_arr fc22_app fc22_z1 fc22_clear fc23_load fc23_size fc23_zero fc23_all fc23_o0 fc23_f0 fc23_p0 fc23_o1 fc23_f1 fc23_p1 fc24_load fc24_size fc24_zero fc24_all fc24_o0 fc24_f0 fc24_p0 fc24_o1 fc24_f1 fc24_p1 fc25_load fc25_size fc25_zero fc25_sl fc25_arr fc25_app fc25_z1 fc25_clear fc26_load fc26_size fc26_zero fc27_load fc27_size fc27_zero fc29_load fc29_size fc29_zero fc30_load fc30_size fc30_zero fc30_sl fc30_arr fc30_app fc30_z1 fc30_clear fc31_load fc31_size fc31_zero fc31_all fc31_o0 fc31_f0 fc31_p0 fc31_o1 fc31_f1 fc31_p1 fc32_load fc32_size fc32_zero fc32_all fc32_o0 fc32_f0 fc32_p0 fc32_o1 fc32_f1 fc32_p1 fc33_load fc33_size fc33_zero fc34_load fc34_size fc34_zero fc34_sl fc34_arr fc34_app fc34_z1 fc34_clear fc35_load fc35_size fc35_zero fc36_load fc36_size fc36_zero fc37_load fc37_size fc37_zero fc38_load fc38_size fc38_zero fc39_load fc39_size fc39_zero fc39_sl fc39_arr fc39_app fc39_z1 fc39_clear fc40_load fc40_size fc40_zero fc42_load fc42_size fc42_zero fc43_load fc43_size fc43_zero fc43_sl fc43_arr fc43_app fc43_z1 fc43_clear fc45_load fc45_size fc45_zero fc46_load fc46_size fc46_zero fc47_load fc47_size fc47_zero fc47_eq fc47_all fc47_o0 fc47_f0 fc47_p0 fc47_o1 fc47_f1 fc47_p1 fc47_o2 fc47_f2 fc47_p2 fc48_load fc48_size fc48_zero fc48_eq fc48_all fc48_o0 fc48_f0 fc48_p0 fc48_o1 fc48_f1 fc48_p1 fc48_o2 fc48_f2 fc48_p2 fc49_load fc49_size fc49_zero fc51_load fc51_size fc51_zero fc53_load fc53_size fc53_zero fc54_load fc54_size fc54_zero fc55_load fc55_size fc55_zero fc56_load fc56_size fc56_zero fc57_load fc57_size fc57_zero fc58_load fc58_size fc58_zero fc59_load fc59_size fc59_zero fc60_load fc60_size fc60_zero fc61_load fc61_size fc61_zero fc62_load fc62_size fc62_zero fc63_load fc63_size fc63_zero fc64_load fc64_size fc64_zero fc65_load fc65_size fc65_zero fc65_eq fc65_all fc65_o0 fc65_f0 fc65_p0 fc65_o1 fc65_f1 fc65_p1 fc65_o2 fc65_f2 fc65_p2 fc66_load fc66_size fc66_zero fc67_load fc67_size fc67_zero fc68_load fc68_size fc68_zero fc69_load fc69_size fc69_zero fc70_load fc70_size fc70_zero fc71_load fc71_size fc71_zero fc73_load fc73_size fc73_zero fc74_load fc74_size fc74_zero fc74_sl fc75_load fc75_size fc75_int fc75_isb fc75_u fc75_zero fc76_load fc76_size fc76_zero fc76_all fc76_o0 fc76_f0 fc76_p0 fc76_o1 fc76_f1 fc76_p1 fc76_o2 fc76_f2 fc76_p2 fc77_load fc77_size fc77_zero fc77_all fc77_o0 fc77_f0 fc77_p0 fc77_o1 fc77_f1 fc77_p1 fc77_o2 fc77_f2 fc77_p2 fc78_load fc78_size fc78_zero fc79_load fc79_size fc79_zero fc80_load fc80_size fc80_zero fc81_load fc81_size fc81_zero fc82_load fc82_size fc82_zero fc83_load fc83_size fc83_zero fc84_load fc84_size fc84_zero fc85_load fc85_size fc85_zero fc85_eq fc85_all fc85_o0 fc85_f0 fc85_p0 fc85_o1 fc85_f1 fc85_p1 fc85_o2 fc85_f2 fc85_p2 fc85_o3 fc85_f3 fc85_p3 fc86_load fc86_size fc86_zero fc86_eq fc86_all fc86_o0 fc86_f0 fc86_p0 fc86_o1 fc86_f1 fc86_p1 fc86_o2 fc86_f2 fc86_p2 fc86_o3 fc86_f3 fc86_p3 fc87_load fc87_size fc87_zero fc88_load fc88_size fc88_zero fc89_load fc89_size fc89_zero fc89_eq fc89_all fc89_o0 fc89_f0 fc89_p0 fc89_o1 fc89_f1 fc89_p1 fc89_o2 fc89_f2 fc89_p2 fc89_o3 fc89_f3 fc89_p3 fc90_load fc90_size fc90_zero fc91_load fc91_size fc91_zero fc92_load fc92_size fc92_zero fc93_load fc93_size fc93_zero fc94_load fc94_size fc94_zero fc95_load fc95_size fc95_zero fc96_load fc96_size fc96_zero fc97_load fc97_size fc97_zero fc98_load fc98_size fc98_zero fc99_load fc99_size fc99_int fc99_isb fc99_u fc99_zero fc100_load fc100_size fc100_zero fc101_load fc101_size fc101_zero fc101_all fc101_o0 fc101_f0 fc101_p0 fc101_o1 fc101_f1 fc101_p1 fc101_o2 fc101_f2 fc101_p2 fc101_o3 fc101_f3 fc101_p3 fc102_load fc102_size fc102_zero fc102_all fc102_o0 fc102_f0 fc102_p0 fc102_o1 fc102_f1 fc102_p1 fc102_o2 fc102_f2 fc102_p2 fc102_o3 fc102_f3 fc102_p3 fc103_load fc103_size fc103_zero fc103_arr fc103_sl fc103_all fc104_load fc104_size fc104_zero fc104_all fc104_f0 fc104_p0 fc105_load fc105_size fc105_zero fc105_all fc105_f0 fc105_p0 fc106_load fc106_size fc106_int fc106_isb fc106_u fc106_zero fc107_load fc107_size fc107_int fc107_isb fc107_u fc107_zero fc108_load fc108_size fc108_int fc108_isb fc108_u fc108_zero fc109_load fc109_size fc109_zero fc110_load fc110_size fc110_zero fc110_sl fc111_load fc111_size fc111_int fc111_isb fc111_u fc111_zero fc112_load fc112_size fc112_int fc112_isb fc112_u fc112_zero fc113_load fc113_size fc113_zero fc113_all fc113_o0 fc113_f0 fc113_p0 fc113_o1 fc113_f1 fc113_p1 fc113_o2 fc113_f2 fc113_p2 fc113_o3 fc113_f3 fc113_p3 fc113_o4 fc113_f4 fc113_p4 fc113_o5 fc113_f5 fc113_p5 fc113_o6 fc113_f6 fc113_p6 fc113_o7 fc113_f7 fc113_p7 fc113_o8 fc113_f8 fc113_p8 fc113_o9 fc113_f9 fc113_p9 fc113_o10 fc113_f10 fc113_p10 fc114_load fc114_size fc114_zero fc114_all fc114_o0 fc114_f0 fc114_p0 fc114_o1 fc114_f1 fc114_p1 fc114_o2 fc114_f2 fc114_p2 fc114_o3 fc114_f3 fc114_p3 fc114_o4 fc114_f4 fc114_p4 fc114_o5 fc114_f5 fc114_p5 fc114_o6 fc114_f6 fc114_p6 fc114_o7 fc114_f7 fc114_p7 fc114_o8 fc114_f8 fc114_p8 fc114_o9 fc114_f9 fc114_p9 fc114_o10 fc114_f10 fc114_p10
end Go.Proofs.Ytkjgmppcgcimgaa
