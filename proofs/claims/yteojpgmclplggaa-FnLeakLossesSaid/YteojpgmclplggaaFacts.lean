/- The closed facts on the types of this seat's program, each by the kernel. Written by program. -/
import Derived.Test.YteojpgmclplggaaAm10
import Derived.Test.YteojpgmclplggaaRows
namespace Go.Proofs.Yteojpgmclplggaa
open Go.Am
theorem fc1_load : loadT Try.prog 1 = some (1, false) := by kernel_rfl
theorem fc1_size : tySize Try.prog 1 = some 1 := by kernel_rfl
theorem fc1_zero : zeroT Try.prog 1 = some [.nilFunc] := by kernel_rfl
theorem fc2_load : loadT Try.prog 2 = some (1, false) := by kernel_rfl
theorem fc2_size : tySize Try.prog 2 = some 1 := by kernel_rfl
theorem fc2_int : intT Try.prog 2 = some .i64 := by kernel_rfl
theorem fc2_isb : isBoolT Try.prog 2 = false := by kernel_rfl
theorem fc2_u : Try.prog.underlying 2 = some (.int .i64) := by kernel_rfl
theorem fc2_zero : zeroT Try.prog 2 = some [.int .i64 0] := by kernel_rfl
theorem fc3_load : loadT Try.prog 3 = some (1, false) := by kernel_rfl
theorem fc3_size : tySize Try.prog 3 = some 1 := by kernel_rfl
theorem fc3_int : intT Try.prog 3 = some .i64 := by kernel_rfl
theorem fc3_isb : isBoolT Try.prog 3 = false := by kernel_rfl
theorem fc3_u : Try.prog.underlying 3 = some (.int .i64) := by kernel_rfl
theorem fc3_zero : zeroT Try.prog 3 = some [.int .i64 0] := by kernel_rfl
theorem fc4_load : loadT Try.prog 4 = some (1, false) := by kernel_rfl
theorem fc4_size : tySize Try.prog 4 = some 1 := by kernel_rfl
theorem fc4_isb : isBoolT Try.prog 4 = true := by kernel_rfl
theorem fc4_zero : zeroT Try.prog 4 = some [.bool false] := by kernel_rfl
theorem fc5_load : loadT Try.prog 5 = some (1, false) := by kernel_rfl
theorem fc5_size : tySize Try.prog 5 = some 1 := by kernel_rfl
theorem fc5_int : intT Try.prog 5 = some .u8 := by kernel_rfl
theorem fc5_isb : isBoolT Try.prog 5 = false := by kernel_rfl
theorem fc5_u : Try.prog.underlying 5 = some (.int .u8) := by kernel_rfl
theorem fc5_zero : zeroT Try.prog 5 = some [.int .u8 0] := by kernel_rfl
theorem fc6_load : loadT Try.prog 6 = some (1, false) := by kernel_rfl
theorem fc6_size : tySize Try.prog 6 = some 1 := by kernel_rfl
theorem fc6_int : intT Try.prog 6 = some .u8 := by kernel_rfl
theorem fc6_isb : isBoolT Try.prog 6 = false := by kernel_rfl
theorem fc6_u : Try.prog.underlying 6 = some (.int .u8) := by kernel_rfl
theorem fc6_zero : zeroT Try.prog 6 = some [.int .u8 0] := by kernel_rfl
theorem fc7_load : loadT Try.prog 7 = some (4, true) := by kernel_rfl
theorem fc7_size : tySize Try.prog 7 = some 4 := by kernel_rfl
theorem fc7_zero : zeroT Try.prog 7 = some [.int .i64 0, .int .i64 0, .bool false, .int .u8 0] := by kernel_rfl
theorem fc7_eq : eqT Try.prog 7 = some [(0, false), (1, false), (2, true), (3, false)] := by kernel_rfl
theorem fc7_all : allPlaces Try.prog 7 = true := by kernel_rfl
theorem fc7_o0 : fieldOff Try.prog 7 0 = some 0 := by kernel_rfl
theorem fc7_f0 : fieldT Try.prog 7 0 = some (0, 1, false) := by kernel_rfl
theorem fc7_p0 : placeT Try.prog 7 0 = some (0, 1) := by kernel_rfl
theorem fc7_o1 : fieldOff Try.prog 7 1 = some 1 := by kernel_rfl
theorem fc7_f1 : fieldT Try.prog 7 1 = some (1, 1, false) := by kernel_rfl
theorem fc7_p1 : placeT Try.prog 7 1 = some (1, 1) := by kernel_rfl
theorem fc7_o2 : fieldOff Try.prog 7 2 = some 2 := by kernel_rfl
theorem fc7_f2 : fieldT Try.prog 7 2 = some (2, 1, false) := by kernel_rfl
theorem fc7_p2 : placeT Try.prog 7 2 = some (2, 1) := by kernel_rfl
theorem fc7_o3 : fieldOff Try.prog 7 3 = some 3 := by kernel_rfl
theorem fc7_f3 : fieldT Try.prog 7 3 = some (3, 1, false) := by kernel_rfl
theorem fc7_p3 : placeT Try.prog 7 3 = some (3, 1) := by kernel_rfl
theorem fc8_load : loadT Try.prog 8 = some (4, true) := by kernel_rfl
theorem fc8_size : tySize Try.prog 8 = some 4 := by kernel_rfl
theorem fc8_zero : zeroT Try.prog 8 = some [.int .i64 0, .int .i64 0, .bool false, .int .u8 0] := by kernel_rfl
theorem fc8_eq : eqT Try.prog 8 = some [(0, false), (1, false), (2, true), (3, false)] := by kernel_rfl
theorem fc8_all : allPlaces Try.prog 8 = true := by kernel_rfl
theorem fc8_o0 : fieldOff Try.prog 8 0 = some 0 := by kernel_rfl
theorem fc8_f0 : fieldT Try.prog 8 0 = some (0, 1, false) := by kernel_rfl
theorem fc8_p0 : placeT Try.prog 8 0 = some (0, 1) := by kernel_rfl
theorem fc8_o1 : fieldOff Try.prog 8 1 = some 1 := by kernel_rfl
theorem fc8_f1 : fieldT Try.prog 8 1 = some (1, 1, false) := by kernel_rfl
theorem fc8_p1 : placeT Try.prog 8 1 = some (1, 1) := by kernel_rfl
theorem fc8_o2 : fieldOff Try.prog 8 2 = some 2 := by kernel_rfl
theorem fc8_f2 : fieldT Try.prog 8 2 = some (2, 1, false) := by kernel_rfl
theorem fc8_p2 : placeT Try.prog 8 2 = some (2, 1) := by kernel_rfl
theorem fc8_o3 : fieldOff Try.prog 8 3 = some 3 := by kernel_rfl
theorem fc8_f3 : fieldT Try.prog 8 3 = some (3, 1, false) := by kernel_rfl
theorem fc8_p3 : placeT Try.prog 8 3 = some (3, 1) := by kernel_rfl
theorem fc9_load : loadT Try.prog 9 = some (1, false) := by kernel_rfl
theorem fc9_size : tySize Try.prog 9 = some 1 := by kernel_rfl
theorem fc9_iss : isStrT Try.prog 9 = true := by kernel_rfl
theorem fc9_zero : zeroT Try.prog 9 = some [.string ⟨#[]⟩] := by kernel_rfl
theorem fc10_load : loadT Try.prog 10 = some (1, false) := by kernel_rfl
theorem fc10_size : tySize Try.prog 10 = some 1 := by kernel_rfl
theorem fc10_iss : isStrT Try.prog 10 = true := by kernel_rfl
theorem fc10_zero : zeroT Try.prog 10 = some [.string ⟨#[]⟩] := by kernel_rfl
theorem fc11_load : loadT Try.prog 11 = some (1, false) := by kernel_rfl
theorem fc11_size : tySize Try.prog 11 = some 1 := by kernel_rfl
theorem fc11_iss : isStrT Try.prog 11 = true := by kernel_rfl
theorem fc11_zero : zeroT Try.prog 11 = some [.string ⟨#[]⟩] := by kernel_rfl
theorem fc12_load : loadT Try.prog 12 = some (1, false) := by kernel_rfl
theorem fc12_size : tySize Try.prog 12 = some 1 := by kernel_rfl
theorem fc12_int : intT Try.prog 12 = some .u64 := by kernel_rfl
theorem fc12_isb : isBoolT Try.prog 12 = false := by kernel_rfl
theorem fc12_u : Try.prog.underlying 12 = some (.int .u64) := by kernel_rfl
theorem fc12_zero : zeroT Try.prog 12 = some [.int .u64 0] := by kernel_rfl
theorem fc13_load : loadT Try.prog 13 = some (2, true) := by kernel_rfl
theorem fc13_size : tySize Try.prog 13 = some 2 := by kernel_rfl
theorem fc13_zero : zeroT Try.prog 13 = some [.string ⟨#[]⟩, .int .u64 0] := by kernel_rfl
theorem fc13_all : allPlaces Try.prog 13 = true := by kernel_rfl
theorem fc13_o0 : fieldOff Try.prog 13 0 = some 0 := by kernel_rfl
theorem fc13_f0 : fieldT Try.prog 13 0 = some (0, 1, false) := by kernel_rfl
theorem fc13_p0 : placeT Try.prog 13 0 = some (0, 1) := by kernel_rfl
theorem fc13_o1 : fieldOff Try.prog 13 1 = some 1 := by kernel_rfl
theorem fc13_f1 : fieldT Try.prog 13 1 = some (1, 1, false) := by kernel_rfl
theorem fc13_p1 : placeT Try.prog 13 1 = some (1, 1) := by kernel_rfl
theorem fc14_load : loadT Try.prog 14 = some (2, true) := by kernel_rfl
theorem fc14_size : tySize Try.prog 14 = some 2 := by kernel_rfl
theorem fc14_zero : zeroT Try.prog 14 = some [.string ⟨#[]⟩, .int .u64 0] := by kernel_rfl
theorem fc14_all : allPlaces Try.prog 14 = true := by kernel_rfl
theorem fc14_o0 : fieldOff Try.prog 14 0 = some 0 := by kernel_rfl
theorem fc14_f0 : fieldT Try.prog 14 0 = some (0, 1, false) := by kernel_rfl
theorem fc14_p0 : placeT Try.prog 14 0 = some (0, 1) := by kernel_rfl
theorem fc14_o1 : fieldOff Try.prog 14 1 = some 1 := by kernel_rfl
theorem fc14_f1 : fieldT Try.prog 14 1 = some (1, 1, false) := by kernel_rfl
theorem fc14_p1 : placeT Try.prog 14 1 = some (1, 1) := by kernel_rfl
theorem fc15_load : loadT Try.prog 15 = some (1, false) := by kernel_rfl
theorem fc15_size : tySize Try.prog 15 = some 1 := by kernel_rfl
theorem fc15_zero : zeroT Try.prog 15 = some [.pointer none] := by kernel_rfl
theorem fc15_sl : sliceT Try.prog 15 = none := by kernel_rfl
theorem fc16_load : loadT Try.prog 16 = some (1, false) := by kernel_rfl
theorem fc16_size : tySize Try.prog 16 = some 1 := by kernel_rfl
theorem fc16_zero : zeroT Try.prog 16 = some [.pointer none] := by kernel_rfl
theorem fc16_sl : sliceT Try.prog 16 = none := by kernel_rfl
theorem fc17_load : loadT Try.prog 17 = some (1, false) := by kernel_rfl
theorem fc17_size : tySize Try.prog 17 = some 1 := by kernel_rfl
theorem fc17_zero : zeroT Try.prog 17 = some [.pointer none] := by kernel_rfl
theorem fc17_sl : sliceT Try.prog 17 = none := by kernel_rfl
theorem fc18_load : loadT Try.prog 18 = some (1, true) := by kernel_rfl
theorem fc18_size : tySize Try.prog 18 = some 1 := by kernel_rfl
theorem fc18_zero : zeroT Try.prog 18 = some [.pointer none] := by kernel_rfl
theorem fc18_all : allPlaces Try.prog 18 = true := by kernel_rfl
theorem fc18_o0 : fieldOff Try.prog 18 0 = some 0 := by kernel_rfl
theorem fc18_f0 : fieldT Try.prog 18 0 = some (0, 1, false) := by kernel_rfl
theorem fc18_p0 : placeT Try.prog 18 0 = some (0, 1) := by kernel_rfl
theorem fc19_load : loadT Try.prog 19 = some (1, true) := by kernel_rfl
theorem fc19_size : tySize Try.prog 19 = some 1 := by kernel_rfl
theorem fc19_zero : zeroT Try.prog 19 = some [.pointer none] := by kernel_rfl
theorem fc19_all : allPlaces Try.prog 19 = true := by kernel_rfl
theorem fc19_o0 : fieldOff Try.prog 19 0 = some 0 := by kernel_rfl
theorem fc19_f0 : fieldT Try.prog 19 0 = some (0, 1, false) := by kernel_rfl
theorem fc19_p0 : placeT Try.prog 19 0 = some (0, 1) := by kernel_rfl
theorem fc21_load : loadT Try.prog 21 = some (1, false) := by kernel_rfl
theorem fc21_size : tySize Try.prog 21 = some 1 := by kernel_rfl
theorem fc21_int : intT Try.prog 21 = some .i32 := by kernel_rfl
theorem fc21_isb : isBoolT Try.prog 21 = false := by kernel_rfl
theorem fc21_u : Try.prog.underlying 21 = some (.int .i32) := by kernel_rfl
theorem fc21_zero : zeroT Try.prog 21 = some [.int .i32 0] := by kernel_rfl
theorem fc22_load : loadT Try.prog 22 = some (1, false) := by kernel_rfl
theorem fc22_size : tySize Try.prog 22 = some 1 := by kernel_rfl
theorem fc22_zero : zeroT Try.prog 22 = some [.slice none 0 0] := by kernel_rfl
theorem fc22_sl : sliceT Try.prog 22 = some (5, 1) := by kernel_rfl
theorem fc22_arr : arrT Try.prog 22 = none := by kernel_rfl
theorem fc22_app : appT Try.prog 22 = some (5, 1, 1) := by kernel_rfl
theorem fc22_z1 : zeroNT Try.prog 22 = some (5, [.int .u8 0], 1) := by kernel_rfl
theorem fc22_clear : clearT Try.prog 22 = some [.int .u8 0] := by kernel_rfl
theorem fc22_byt : bytesT Try.prog 22 = true := by kernel_rfl
theorem fc23_load : loadT Try.prog 23 = some (1, false) := by kernel_rfl
theorem fc23_size : tySize Try.prog 23 = some 1 := by kernel_rfl
theorem fc23_zero : zeroT Try.prog 23 = some [.nilFunc] := by kernel_rfl
theorem fc24_load : loadT Try.prog 24 = some (1, false) := by kernel_rfl
theorem fc24_size : tySize Try.prog 24 = some 1 := by kernel_rfl
theorem fc24_zero : zeroT Try.prog 24 = some [.slice none 0 0] := by kernel_rfl
theorem fc24_sl : sliceT Try.prog 24 = some (3, 1) := by kernel_rfl
theorem fc24_arr : arrT Try.prog 24 = none := by kernel_rfl
theorem fc24_app : appT Try.prog 24 = some (3, 1, 8) := by kernel_rfl
theorem fc24_z1 : zeroNT Try.prog 24 = some (3, [.int .i64 0], 8) := by kernel_rfl
theorem fc24_clear : clearT Try.prog 24 = some [.int .i64 0] := by kernel_rfl
theorem fc24_byt : bytesT Try.prog 24 = false := by kernel_rfl
theorem fc25_load : loadT Try.prog 25 = some (3, true) := by kernel_rfl
theorem fc25_size : tySize Try.prog 25 = some 3 := by kernel_rfl
theorem fc25_zero : zeroT Try.prog 25 = some [.int .i64 0, .int .i64 0, .slice none 0 0] := by kernel_rfl
theorem fc25_all : allPlaces Try.prog 25 = true := by kernel_rfl
theorem fc25_o0 : fieldOff Try.prog 25 0 = some 0 := by kernel_rfl
theorem fc25_f0 : fieldT Try.prog 25 0 = some (0, 1, false) := by kernel_rfl
theorem fc25_p0 : placeT Try.prog 25 0 = some (0, 1) := by kernel_rfl
theorem fc25_o1 : fieldOff Try.prog 25 1 = some 1 := by kernel_rfl
theorem fc25_f1 : fieldT Try.prog 25 1 = some (1, 1, false) := by kernel_rfl
theorem fc25_p1 : placeT Try.prog 25 1 = some (1, 1) := by kernel_rfl
theorem fc25_o2 : fieldOff Try.prog 25 2 = some 2 := by kernel_rfl
theorem fc25_f2 : fieldT Try.prog 25 2 = some (2, 1, false) := by kernel_rfl
theorem fc25_p2 : placeT Try.prog 25 2 = some (2, 1) := by kernel_rfl
theorem fc26_load : loadT Try.prog 26 = some (3, true) := by kernel_rfl
theorem fc26_size : tySize Try.prog 26 = some 3 := by kernel_rfl
theorem fc26_zero : zeroT Try.prog 26 = some [.int .i64 0, .int .i64 0, .slice none 0 0] := by kernel_rfl
theorem fc26_all : allPlaces Try.prog 26 = true := by kernel_rfl
theorem fc26_o0 : fieldOff Try.prog 26 0 = some 0 := by kernel_rfl
theorem fc26_f0 : fieldT Try.prog 26 0 = some (0, 1, false) := by kernel_rfl
theorem fc26_p0 : placeT Try.prog 26 0 = some (0, 1) := by kernel_rfl
theorem fc26_o1 : fieldOff Try.prog 26 1 = some 1 := by kernel_rfl
theorem fc26_f1 : fieldT Try.prog 26 1 = some (1, 1, false) := by kernel_rfl
theorem fc26_p1 : placeT Try.prog 26 1 = some (1, 1) := by kernel_rfl
theorem fc26_o2 : fieldOff Try.prog 26 2 = some 2 := by kernel_rfl
theorem fc26_f2 : fieldT Try.prog 26 2 = some (2, 1, false) := by kernel_rfl
theorem fc26_p2 : placeT Try.prog 26 2 = some (2, 1) := by kernel_rfl
theorem fc28_load : loadT Try.prog 28 = some (1, false) := by kernel_rfl
theorem fc28_size : tySize Try.prog 28 = some 1 := by kernel_rfl
theorem fc28_zero : zeroT Try.prog 28 = some [.nilFunc] := by kernel_rfl
theorem fc30_load : loadT Try.prog 30 = some (1, false) := by kernel_rfl
theorem fc30_size : tySize Try.prog 30 = some 1 := by kernel_rfl
theorem fc30_zero : zeroT Try.prog 30 = some [.nilFunc] := by kernel_rfl
theorem fc32_load : loadT Try.prog 32 = some (1, false) := by kernel_rfl
theorem fc32_size : tySize Try.prog 32 = some 1 := by kernel_rfl
theorem fc32_zero : zeroT Try.prog 32 = some [.nilFunc] := by kernel_rfl
theorem fc33_load : loadT Try.prog 33 = some (1, false) := by kernel_rfl
theorem fc33_size : tySize Try.prog 33 = some 1 := by kernel_rfl
theorem fc33_zero : zeroT Try.prog 33 = some [.nilFunc] := by kernel_rfl
theorem fc35_load : loadT Try.prog 35 = some (1, false) := by kernel_rfl
theorem fc35_size : tySize Try.prog 35 = some 1 := by kernel_rfl
theorem fc35_zero : zeroT Try.prog 35 = some [.nilFunc] := by kernel_rfl
theorem fc36_load : loadT Try.prog 36 = some (1, false) := by kernel_rfl
theorem fc36_size : tySize Try.prog 36 = some 1 := by kernel_rfl
theorem fc36_zero : zeroT Try.prog 36 = some [.nilFunc] := by kernel_rfl
theorem fc37_load : loadT Try.prog 37 = some (1, false) := by kernel_rfl
theorem fc37_size : tySize Try.prog 37 = some 1 := by kernel_rfl
theorem fc37_zero : zeroT Try.prog 37 = some [.slice none 0 0] := by kernel_rfl
theorem fc37_sl : sliceT Try.prog 37 = some (26, 3) := by kernel_rfl
theorem fc37_arr : arrT Try.prog 37 = none := by kernel_rfl
theorem fc37_app : appT Try.prog 37 = some (26, 3, 40) := by kernel_rfl
theorem fc37_z1 : zeroNT Try.prog 37 = some (26, [.int .i64 0, .int .i64 0, .slice none 0 0], 40) := by kernel_rfl
theorem fc37_clear : clearT Try.prog 37 = some [.int .i64 0, .int .i64 0, .slice none 0 0] := by kernel_rfl
theorem fc37_byt : bytesT Try.prog 37 = false := by kernel_rfl
theorem fc38_load : loadT Try.prog 38 = some (1, false) := by kernel_rfl
theorem fc38_size : tySize Try.prog 38 = some 1 := by kernel_rfl
theorem fc38_zero : zeroT Try.prog 38 = some [.nilFunc] := by kernel_rfl
theorem fc39_load : loadT Try.prog 39 = some (1, false) := by kernel_rfl
theorem fc39_size : tySize Try.prog 39 = some 1 := by kernel_rfl
theorem fc39_zero : zeroT Try.prog 39 = some [.nilFunc] := by kernel_rfl
theorem fc40_load : loadT Try.prog 40 = some (1, false) := by kernel_rfl
theorem fc40_size : tySize Try.prog 40 = some 1 := by kernel_rfl
theorem fc40_zero : zeroT Try.prog 40 = some [.nilFunc] := by kernel_rfl
theorem fc42_load : loadT Try.prog 42 = some (1, false) := by kernel_rfl
theorem fc42_size : tySize Try.prog 42 = some 1 := by kernel_rfl
theorem fc42_zero : zeroT Try.prog 42 = some [.nilFunc] := by kernel_rfl
theorem fc43_load : loadT Try.prog 43 = some (1, false) := by kernel_rfl
theorem fc43_size : tySize Try.prog 43 = some 1 := by kernel_rfl
theorem fc43_zero : zeroT Try.prog 43 = some [.nilFunc] := by kernel_rfl
theorem fc44_load : loadT Try.prog 44 = some (1, false) := by kernel_rfl
theorem fc44_size : tySize Try.prog 44 = some 1 := by kernel_rfl
theorem fc44_zero : zeroT Try.prog 44 = some [.pointer none] := by kernel_rfl
theorem fc44_sl : sliceT Try.prog 44 = none := by kernel_rfl
theorem fc45_load : loadT Try.prog 45 = some (1, false) := by kernel_rfl
theorem fc45_size : tySize Try.prog 45 = some 1 := by kernel_rfl
theorem fc45_int : intT Try.prog 45 = some .u64 := by kernel_rfl
theorem fc45_isb : isBoolT Try.prog 45 = false := by kernel_rfl
theorem fc45_u : Try.prog.underlying 45 = some (.int .u64) := by kernel_rfl
theorem fc45_zero : zeroT Try.prog 45 = some [.int .u64 0] := by kernel_rfl
theorem fc46_load : loadT Try.prog 46 = some (3, true) := by kernel_rfl
theorem fc46_size : tySize Try.prog 46 = some 3 := by kernel_rfl
theorem fc46_zero : zeroT Try.prog 46 = some [.slice none 0 0, .int .i64 0, .int .u64 0] := by kernel_rfl
theorem fc46_all : allPlaces Try.prog 46 = true := by kernel_rfl
theorem fc46_o0 : fieldOff Try.prog 46 0 = some 0 := by kernel_rfl
theorem fc46_f0 : fieldT Try.prog 46 0 = some (0, 1, false) := by kernel_rfl
theorem fc46_p0 : placeT Try.prog 46 0 = some (0, 1) := by kernel_rfl
theorem fc46_o1 : fieldOff Try.prog 46 1 = some 1 := by kernel_rfl
theorem fc46_f1 : fieldT Try.prog 46 1 = some (1, 1, false) := by kernel_rfl
theorem fc46_p1 : placeT Try.prog 46 1 = some (1, 1) := by kernel_rfl
theorem fc46_o2 : fieldOff Try.prog 46 2 = some 2 := by kernel_rfl
theorem fc46_f2 : fieldT Try.prog 46 2 = some (2, 1, false) := by kernel_rfl
theorem fc46_p2 : placeT Try.prog 46 2 = some (2, 1) := by kernel_rfl
theorem fc47_load : loadT Try.prog 47 = some (3, true) := by kernel_rfl
theorem fc47_size : tySize Try.prog 47 = some 3 := by kernel_rfl
theorem fc47_zero : zeroT Try.prog 47 = some [.slice none 0 0, .int .i64 0, .int .u64 0] := by kernel_rfl
theorem fc47_all : allPlaces Try.prog 47 = true := by kernel_rfl
theorem fc47_o0 : fieldOff Try.prog 47 0 = some 0 := by kernel_rfl
theorem fc47_f0 : fieldT Try.prog 47 0 = some (0, 1, false) := by kernel_rfl
theorem fc47_p0 : placeT Try.prog 47 0 = some (0, 1) := by kernel_rfl
theorem fc47_o1 : fieldOff Try.prog 47 1 = some 1 := by kernel_rfl
theorem fc47_f1 : fieldT Try.prog 47 1 = some (1, 1, false) := by kernel_rfl
theorem fc47_p1 : placeT Try.prog 47 1 = some (1, 1) := by kernel_rfl
theorem fc47_o2 : fieldOff Try.prog 47 2 = some 2 := by kernel_rfl
theorem fc47_f2 : fieldT Try.prog 47 2 = some (2, 1, false) := by kernel_rfl
theorem fc47_p2 : placeT Try.prog 47 2 = some (2, 1) := by kernel_rfl
theorem fc48_load : loadT Try.prog 48 = some (1, false) := by kernel_rfl
theorem fc48_size : tySize Try.prog 48 = some 1 := by kernel_rfl
theorem fc48_zero : zeroT Try.prog 48 = some [.nilFunc] := by kernel_rfl
theorem fc49_load : loadT Try.prog 49 = some (1, false) := by kernel_rfl
theorem fc49_size : tySize Try.prog 49 = some 1 := by kernel_rfl
theorem fc49_zero : zeroT Try.prog 49 = some [.nilFunc] := by kernel_rfl
theorem fc50_load : loadT Try.prog 50 = some (1, false) := by kernel_rfl
theorem fc50_size : tySize Try.prog 50 = some 1 := by kernel_rfl
theorem fc50_zero : zeroT Try.prog 50 = some [.nilFunc] := by kernel_rfl
theorem fc51_load : loadT Try.prog 51 = some (1, false) := by kernel_rfl
theorem fc51_size : tySize Try.prog 51 = some 1 := by kernel_rfl
theorem fc51_zero : zeroT Try.prog 51 = some [.nilFunc] := by kernel_rfl
theorem fc53_load : loadT Try.prog 53 = some (1, false) := by kernel_rfl
theorem fc53_size : tySize Try.prog 53 = some 1 := by kernel_rfl
theorem fc53_zero : zeroT Try.prog 53 = some [.nilFunc] := by kernel_rfl
theorem fc54_load : loadT Try.prog 54 = some (1, false) := by kernel_rfl
theorem fc54_size : tySize Try.prog 54 = some 1 := by kernel_rfl
theorem fc54_zero : zeroT Try.prog 54 = some [.nilFunc] := by kernel_rfl
theorem fc55_load : loadT Try.prog 55 = some (1, false) := by kernel_rfl
theorem fc55_size : tySize Try.prog 55 = some 1 := by kernel_rfl
theorem fc55_zero : zeroT Try.prog 55 = some [.nilFunc] := by kernel_rfl
theorem fc56_load : loadT Try.prog 56 = some (1, false) := by kernel_rfl
theorem fc56_size : tySize Try.prog 56 = some 1 := by kernel_rfl
theorem fc56_zero : zeroT Try.prog 56 = some [.nilFunc] := by kernel_rfl
theorem fc57_load : loadT Try.prog 57 = some (1, false) := by kernel_rfl
theorem fc57_size : tySize Try.prog 57 = some 1 := by kernel_rfl
theorem fc57_zero : zeroT Try.prog 57 = some [.nilFunc] := by kernel_rfl
theorem fc58_load : loadT Try.prog 58 = some (1, false) := by kernel_rfl
theorem fc58_size : tySize Try.prog 58 = some 1 := by kernel_rfl
theorem fc58_zero : zeroT Try.prog 58 = some [.nilFunc] := by kernel_rfl
theorem fc59_load : loadT Try.prog 59 = some (1, false) := by kernel_rfl
theorem fc59_size : tySize Try.prog 59 = some 1 := by kernel_rfl
theorem fc59_zero : zeroT Try.prog 59 = some [.nilFunc] := by kernel_rfl
theorem fc60_load : loadT Try.prog 60 = some (1, false) := by kernel_rfl
theorem fc60_size : tySize Try.prog 60 = some 1 := by kernel_rfl
theorem fc60_zero : zeroT Try.prog 60 = some [.nilFunc] := by kernel_rfl
theorem fc61_load : loadT Try.prog 61 = some (1, false) := by kernel_rfl
theorem fc61_size : tySize Try.prog 61 = some 1 := by kernel_rfl
theorem fc61_zero : zeroT Try.prog 61 = some [.nilFunc] := by kernel_rfl
theorem fc62_load : loadT Try.prog 62 = some (1, false) := by kernel_rfl
theorem fc62_size : tySize Try.prog 62 = some 1 := by kernel_rfl
theorem fc62_zero : zeroT Try.prog 62 = some [.nilFunc] := by kernel_rfl
theorem fc64_load : loadT Try.prog 64 = some (1, false) := by kernel_rfl
theorem fc64_size : tySize Try.prog 64 = some 1 := by kernel_rfl
theorem fc64_zero : zeroT Try.prog 64 = some [.nilFunc] := by kernel_rfl
theorem fc65_load : loadT Try.prog 65 = some (1, false) := by kernel_rfl
theorem fc65_size : tySize Try.prog 65 = some 1 := by kernel_rfl
theorem fc65_zero : zeroT Try.prog 65 = some [.nilFunc] := by kernel_rfl
theorem fc66_load : loadT Try.prog 66 = some (1, false) := by kernel_rfl
theorem fc66_size : tySize Try.prog 66 = some 1 := by kernel_rfl
theorem fc66_zero : zeroT Try.prog 66 = some [.nilFunc] := by kernel_rfl
theorem fc67_load : loadT Try.prog 67 = some (1, false) := by kernel_rfl
theorem fc67_size : tySize Try.prog 67 = some 1 := by kernel_rfl
theorem fc67_zero : zeroT Try.prog 67 = some [.nilFunc] := by kernel_rfl
theorem fc68_load : loadT Try.prog 68 = some (1, false) := by kernel_rfl
theorem fc68_size : tySize Try.prog 68 = some 1 := by kernel_rfl
theorem fc68_zero : zeroT Try.prog 68 = some [.nilFunc] := by kernel_rfl
theorem fc69_load : loadT Try.prog 69 = some (1, false) := by kernel_rfl
theorem fc69_size : tySize Try.prog 69 = some 1 := by kernel_rfl
theorem fc69_zero : zeroT Try.prog 69 = some [.nilFunc] := by kernel_rfl
theorem fc70_load : loadT Try.prog 70 = some (1, false) := by kernel_rfl
theorem fc70_size : tySize Try.prog 70 = some 1 := by kernel_rfl
theorem fc70_zero : zeroT Try.prog 70 = some [.nilFunc] := by kernel_rfl
theorem fc71_load : loadT Try.prog 71 = some (1, false) := by kernel_rfl
theorem fc71_size : tySize Try.prog 71 = some 1 := by kernel_rfl
theorem fc71_int : intT Try.prog 71 = some .u64 := by kernel_rfl
theorem fc71_isb : isBoolT Try.prog 71 = false := by kernel_rfl
theorem fc71_u : Try.prog.underlying 71 = some (.int .u64) := by kernel_rfl
theorem fc71_zero : zeroT Try.prog 71 = some [.int .u64 0] := by kernel_rfl
theorem fc72_load : loadT Try.prog 72 = some (1, false) := by kernel_rfl
theorem fc72_size : tySize Try.prog 72 = some 1 := by kernel_rfl
theorem fc72_zero : zeroT Try.prog 72 = some [.nilFunc] := by kernel_rfl
theorem fc73_load : loadT Try.prog 73 = some (1, false) := by kernel_rfl
theorem fc73_size : tySize Try.prog 73 = some 1 := by kernel_rfl
theorem fc73_zero : zeroT Try.prog 73 = some [.nilFunc] := by kernel_rfl
theorem fc74_load : loadT Try.prog 74 = some (1, false) := by kernel_rfl
theorem fc74_size : tySize Try.prog 74 = some 1 := by kernel_rfl
theorem fc74_zero : zeroT Try.prog 74 = some [.nilFunc] := by kernel_rfl
theorem fc75_load : loadT Try.prog 75 = some (1, false) := by kernel_rfl
theorem fc75_size : tySize Try.prog 75 = some 1 := by kernel_rfl
theorem fc75_zero : zeroT Try.prog 75 = some [.nilFunc] := by kernel_rfl
theorem fc76_load : loadT Try.prog 76 = some (1, false) := by kernel_rfl
theorem fc76_size : tySize Try.prog 76 = some 1 := by kernel_rfl
theorem fc76_zero : zeroT Try.prog 76 = some [.nilFunc] := by kernel_rfl
theorem fc77_load : loadT Try.prog 77 = some (4, true) := by kernel_rfl
theorem fc77_size : tySize Try.prog 77 = some 4 := by kernel_rfl
theorem fc77_zero : zeroT Try.prog 77 = some [.pointer none, .pointer none, .pointer none, .string ⟨#[]⟩] := by kernel_rfl
theorem fc77_all : allPlaces Try.prog 77 = true := by kernel_rfl
theorem fc77_o0 : fieldOff Try.prog 77 0 = some 0 := by kernel_rfl
theorem fc77_f0 : fieldT Try.prog 77 0 = some (0, 1, false) := by kernel_rfl
theorem fc77_p0 : placeT Try.prog 77 0 = some (0, 1) := by kernel_rfl
theorem fc77_o1 : fieldOff Try.prog 77 1 = some 1 := by kernel_rfl
theorem fc77_f1 : fieldT Try.prog 77 1 = some (1, 1, false) := by kernel_rfl
theorem fc77_p1 : placeT Try.prog 77 1 = some (1, 1) := by kernel_rfl
theorem fc77_o2 : fieldOff Try.prog 77 2 = some 2 := by kernel_rfl
theorem fc77_f2 : fieldT Try.prog 77 2 = some (2, 1, false) := by kernel_rfl
theorem fc77_p2 : placeT Try.prog 77 2 = some (2, 1) := by kernel_rfl
theorem fc77_o3 : fieldOff Try.prog 77 3 = some 3 := by kernel_rfl
theorem fc77_f3 : fieldT Try.prog 77 3 = some (3, 1, false) := by kernel_rfl
theorem fc77_p3 : placeT Try.prog 77 3 = some (3, 1) := by kernel_rfl
theorem fc78_load : loadT Try.prog 78 = some (4, true) := by kernel_rfl
theorem fc78_size : tySize Try.prog 78 = some 4 := by kernel_rfl
theorem fc78_zero : zeroT Try.prog 78 = some [.pointer none, .pointer none, .pointer none, .string ⟨#[]⟩] := by kernel_rfl
theorem fc78_all : allPlaces Try.prog 78 = true := by kernel_rfl
theorem fc78_o0 : fieldOff Try.prog 78 0 = some 0 := by kernel_rfl
theorem fc78_f0 : fieldT Try.prog 78 0 = some (0, 1, false) := by kernel_rfl
theorem fc78_p0 : placeT Try.prog 78 0 = some (0, 1) := by kernel_rfl
theorem fc78_o1 : fieldOff Try.prog 78 1 = some 1 := by kernel_rfl
theorem fc78_f1 : fieldT Try.prog 78 1 = some (1, 1, false) := by kernel_rfl
theorem fc78_p1 : placeT Try.prog 78 1 = some (1, 1) := by kernel_rfl
theorem fc78_o2 : fieldOff Try.prog 78 2 = some 2 := by kernel_rfl
theorem fc78_f2 : fieldT Try.prog 78 2 = some (2, 1, false) := by kernel_rfl
theorem fc78_p2 : placeT Try.prog 78 2 = some (2, 1) := by kernel_rfl
theorem fc78_o3 : fieldOff Try.prog 78 3 = some 3 := by kernel_rfl
theorem fc78_f3 : fieldT Try.prog 78 3 = some (3, 1, false) := by kernel_rfl
theorem fc78_p3 : placeT Try.prog 78 3 = some (3, 1) := by kernel_rfl
theorem fc79_load : loadT Try.prog 79 = some (0, true) := by kernel_rfl
theorem fc79_size : tySize Try.prog 79 = some 0 := by kernel_rfl
theorem fc79_zero : zeroT Try.prog 79 = some [] := by kernel_rfl
theorem fc79_arr : arrT Try.prog 79 = some (0, 1, false) := by kernel_rfl
theorem fc79_sl : sliceT Try.prog 79 = none := by kernel_rfl
theorem fc79_all : allPlaces Try.prog 79 = true := by kernel_rfl
theorem fc80_load : loadT Try.prog 80 = some (0, true) := by kernel_rfl
theorem fc80_size : tySize Try.prog 80 = some 0 := by kernel_rfl
theorem fc80_zero : zeroT Try.prog 80 = some [] := by kernel_rfl
theorem fc80_all : allPlaces Try.prog 80 = true := by kernel_rfl
theorem fc80_f0 : fieldT Try.prog 80 0 = some (0, 0, true) := by kernel_rfl
theorem fc80_p0 : placeT Try.prog 80 0 = some (0, 0) := by kernel_rfl
theorem fc81_load : loadT Try.prog 81 = some (0, true) := by kernel_rfl
theorem fc81_size : tySize Try.prog 81 = some 0 := by kernel_rfl
theorem fc81_zero : zeroT Try.prog 81 = some [] := by kernel_rfl
theorem fc81_all : allPlaces Try.prog 81 = true := by kernel_rfl
theorem fc81_f0 : fieldT Try.prog 81 0 = some (0, 0, true) := by kernel_rfl
theorem fc81_p0 : placeT Try.prog 81 0 = some (0, 0) := by kernel_rfl
theorem fc82_load : loadT Try.prog 82 = some (1, false) := by kernel_rfl
theorem fc82_size : tySize Try.prog 82 = some 1 := by kernel_rfl
theorem fc82_int : intT Try.prog 82 = some .u32 := by kernel_rfl
theorem fc82_isb : isBoolT Try.prog 82 = false := by kernel_rfl
theorem fc82_u : Try.prog.underlying 82 = some (.int .u32) := by kernel_rfl
theorem fc82_zero : zeroT Try.prog 82 = some [.int .u32 0] := by kernel_rfl
theorem fc83_load : loadT Try.prog 83 = some (1, false) := by kernel_rfl
theorem fc83_size : tySize Try.prog 83 = some 1 := by kernel_rfl
theorem fc83_int : intT Try.prog 83 = some .u8 := by kernel_rfl
theorem fc83_isb : isBoolT Try.prog 83 = false := by kernel_rfl
theorem fc83_u : Try.prog.underlying 83 = some (.int .u8) := by kernel_rfl
theorem fc83_zero : zeroT Try.prog 83 = some [.int .u8 0] := by kernel_rfl
theorem fc84_load : loadT Try.prog 84 = some (1, false) := by kernel_rfl
theorem fc84_size : tySize Try.prog 84 = some 1 := by kernel_rfl
theorem fc84_int : intT Try.prog 84 = some .u8 := by kernel_rfl
theorem fc84_isb : isBoolT Try.prog 84 = false := by kernel_rfl
theorem fc84_u : Try.prog.underlying 84 = some (.int .u8) := by kernel_rfl
theorem fc84_zero : zeroT Try.prog 84 = some [.int .u8 0] := by kernel_rfl
theorem fc85_load : loadT Try.prog 85 = some (1, false) := by kernel_rfl
theorem fc85_size : tySize Try.prog 85 = some 1 := by kernel_rfl
theorem fc85_zero : zeroT Try.prog 85 = some [.nilFunc] := by kernel_rfl
theorem fc86_load : loadT Try.prog 86 = some (1, false) := by kernel_rfl
theorem fc86_size : tySize Try.prog 86 = some 1 := by kernel_rfl
theorem fc86_zero : zeroT Try.prog 86 = some [.pointer none] := by kernel_rfl
theorem fc86_sl : sliceT Try.prog 86 = none := by kernel_rfl
theorem fc87_load : loadT Try.prog 87 = some (1, false) := by kernel_rfl
theorem fc87_size : tySize Try.prog 87 = some 1 := by kernel_rfl
theorem fc87_int : intT Try.prog 87 = some .i32 := by kernel_rfl
theorem fc87_isb : isBoolT Try.prog 87 = false := by kernel_rfl
theorem fc87_u : Try.prog.underlying 87 = some (.int .i32) := by kernel_rfl
theorem fc87_zero : zeroT Try.prog 87 = some [.int .i32 0] := by kernel_rfl
theorem fc88_load : loadT Try.prog 88 = some (1, false) := by kernel_rfl
theorem fc88_size : tySize Try.prog 88 = some 1 := by kernel_rfl
theorem fc88_int : intT Try.prog 88 = some .i32 := by kernel_rfl
theorem fc88_isb : isBoolT Try.prog 88 = false := by kernel_rfl
theorem fc88_u : Try.prog.underlying 88 = some (.int .i32) := by kernel_rfl
theorem fc88_zero : zeroT Try.prog 88 = some [.int .i32 0] := by kernel_rfl
theorem fc89_load : loadT Try.prog 89 = some (11, true) := by kernel_rfl
theorem fc89_size : tySize Try.prog 89 = some 11 := by kernel_rfl
theorem fc89_zero : zeroT Try.prog 89 = some [.int .u64 0, .int .u64 0, .int .u32 0, .int .u8 0, .int .u8 0, .int .u8 0, .int .u8 0, .nilFunc, .pointer none, .int .i32 0, .int .i32 0] := by kernel_rfl
theorem fc89_all : allPlaces Try.prog 89 = true := by kernel_rfl
theorem fc89_o0 : fieldOff Try.prog 89 0 = some 0 := by kernel_rfl
theorem fc89_f0 : fieldT Try.prog 89 0 = some (0, 1, false) := by kernel_rfl
theorem fc89_p0 : placeT Try.prog 89 0 = some (0, 1) := by kernel_rfl
theorem fc89_o1 : fieldOff Try.prog 89 1 = some 1 := by kernel_rfl
theorem fc89_f1 : fieldT Try.prog 89 1 = some (1, 1, false) := by kernel_rfl
theorem fc89_p1 : placeT Try.prog 89 1 = some (1, 1) := by kernel_rfl
theorem fc89_o2 : fieldOff Try.prog 89 2 = some 2 := by kernel_rfl
theorem fc89_f2 : fieldT Try.prog 89 2 = some (2, 1, false) := by kernel_rfl
theorem fc89_p2 : placeT Try.prog 89 2 = some (2, 1) := by kernel_rfl
theorem fc89_o3 : fieldOff Try.prog 89 3 = some 3 := by kernel_rfl
theorem fc89_f3 : fieldT Try.prog 89 3 = some (3, 1, false) := by kernel_rfl
theorem fc89_p3 : placeT Try.prog 89 3 = some (3, 1) := by kernel_rfl
theorem fc89_o4 : fieldOff Try.prog 89 4 = some 4 := by kernel_rfl
theorem fc89_f4 : fieldT Try.prog 89 4 = some (4, 1, false) := by kernel_rfl
theorem fc89_p4 : placeT Try.prog 89 4 = some (4, 1) := by kernel_rfl
theorem fc89_o5 : fieldOff Try.prog 89 5 = some 5 := by kernel_rfl
theorem fc89_f5 : fieldT Try.prog 89 5 = some (5, 1, false) := by kernel_rfl
theorem fc89_p5 : placeT Try.prog 89 5 = some (5, 1) := by kernel_rfl
theorem fc89_o6 : fieldOff Try.prog 89 6 = some 6 := by kernel_rfl
theorem fc89_f6 : fieldT Try.prog 89 6 = some (6, 1, false) := by kernel_rfl
theorem fc89_p6 : placeT Try.prog 89 6 = some (6, 1) := by kernel_rfl
theorem fc89_o7 : fieldOff Try.prog 89 7 = some 7 := by kernel_rfl
theorem fc89_f7 : fieldT Try.prog 89 7 = some (7, 1, false) := by kernel_rfl
theorem fc89_p7 : placeT Try.prog 89 7 = some (7, 1) := by kernel_rfl
theorem fc89_o8 : fieldOff Try.prog 89 8 = some 8 := by kernel_rfl
theorem fc89_f8 : fieldT Try.prog 89 8 = some (8, 1, false) := by kernel_rfl
theorem fc89_p8 : placeT Try.prog 89 8 = some (8, 1) := by kernel_rfl
theorem fc89_o9 : fieldOff Try.prog 89 9 = some 9 := by kernel_rfl
theorem fc89_f9 : fieldT Try.prog 89 9 = some (9, 1, false) := by kernel_rfl
theorem fc89_p9 : placeT Try.prog 89 9 = some (9, 1) := by kernel_rfl
theorem fc89_o10 : fieldOff Try.prog 89 10 = some 10 := by kernel_rfl
theorem fc89_f10 : fieldT Try.prog 89 10 = some (10, 1, false) := by kernel_rfl
theorem fc89_p10 : placeT Try.prog 89 10 = some (10, 1) := by kernel_rfl
theorem fc90_load : loadT Try.prog 90 = some (11, true) := by kernel_rfl
theorem fc90_size : tySize Try.prog 90 = some 11 := by kernel_rfl
theorem fc90_zero : zeroT Try.prog 90 = some [.int .u64 0, .int .u64 0, .int .u32 0, .int .u8 0, .int .u8 0, .int .u8 0, .int .u8 0, .nilFunc, .pointer none, .int .i32 0, .int .i32 0] := by kernel_rfl
theorem fc90_all : allPlaces Try.prog 90 = true := by kernel_rfl
theorem fc90_o0 : fieldOff Try.prog 90 0 = some 0 := by kernel_rfl
theorem fc90_f0 : fieldT Try.prog 90 0 = some (0, 1, false) := by kernel_rfl
theorem fc90_p0 : placeT Try.prog 90 0 = some (0, 1) := by kernel_rfl
theorem fc90_o1 : fieldOff Try.prog 90 1 = some 1 := by kernel_rfl
theorem fc90_f1 : fieldT Try.prog 90 1 = some (1, 1, false) := by kernel_rfl
theorem fc90_p1 : placeT Try.prog 90 1 = some (1, 1) := by kernel_rfl
theorem fc90_o2 : fieldOff Try.prog 90 2 = some 2 := by kernel_rfl
theorem fc90_f2 : fieldT Try.prog 90 2 = some (2, 1, false) := by kernel_rfl
theorem fc90_p2 : placeT Try.prog 90 2 = some (2, 1) := by kernel_rfl
theorem fc90_o3 : fieldOff Try.prog 90 3 = some 3 := by kernel_rfl
theorem fc90_f3 : fieldT Try.prog 90 3 = some (3, 1, false) := by kernel_rfl
theorem fc90_p3 : placeT Try.prog 90 3 = some (3, 1) := by kernel_rfl
theorem fc90_o4 : fieldOff Try.prog 90 4 = some 4 := by kernel_rfl
theorem fc90_f4 : fieldT Try.prog 90 4 = some (4, 1, false) := by kernel_rfl
theorem fc90_p4 : placeT Try.prog 90 4 = some (4, 1) := by kernel_rfl
theorem fc90_o5 : fieldOff Try.prog 90 5 = some 5 := by kernel_rfl
theorem fc90_f5 : fieldT Try.prog 90 5 = some (5, 1, false) := by kernel_rfl
theorem fc90_p5 : placeT Try.prog 90 5 = some (5, 1) := by kernel_rfl
theorem fc90_o6 : fieldOff Try.prog 90 6 = some 6 := by kernel_rfl
theorem fc90_f6 : fieldT Try.prog 90 6 = some (6, 1, false) := by kernel_rfl
theorem fc90_p6 : placeT Try.prog 90 6 = some (6, 1) := by kernel_rfl
theorem fc90_o7 : fieldOff Try.prog 90 7 = some 7 := by kernel_rfl
theorem fc90_f7 : fieldT Try.prog 90 7 = some (7, 1, false) := by kernel_rfl
theorem fc90_p7 : placeT Try.prog 90 7 = some (7, 1) := by kernel_rfl
theorem fc90_o8 : fieldOff Try.prog 90 8 = some 8 := by kernel_rfl
theorem fc90_f8 : fieldT Try.prog 90 8 = some (8, 1, false) := by kernel_rfl
theorem fc90_p8 : placeT Try.prog 90 8 = some (8, 1) := by kernel_rfl
theorem fc90_o9 : fieldOff Try.prog 90 9 = some 9 := by kernel_rfl
theorem fc90_f9 : fieldT Try.prog 90 9 = some (9, 1, false) := by kernel_rfl
theorem fc90_p9 : placeT Try.prog 90 9 = some (9, 1) := by kernel_rfl
theorem fc90_o10 : fieldOff Try.prog 90 10 = some 10 := by kernel_rfl
theorem fc90_f10 : fieldT Try.prog 90 10 = some (10, 1, false) := by kernel_rfl
theorem fc90_p10 : placeT Try.prog 90 10 = some (10, 1) := by kernel_rfl
attribute [go_sem] fc1_load fc1_size fc1_zero fc2_load fc2_size fc2_int fc2_isb fc2_u fc2_zero fc3_load fc3_size fc3_int fc3_isb fc3_u fc3_zero fc4_load fc4_size fc4_isb fc4_zero fc5_load fc5_size fc5_int fc5_isb fc5_u fc5_zero fc6_load fc6_size fc6_int fc6_isb fc6_u fc6_zero fc7_load fc7_size fc7_zero fc7_eq fc7_all fc7_o0 fc7_f0 fc7_p0 fc7_o1 fc7_f1 fc7_p1 fc7_o2 fc7_f2 fc7_p2 fc7_o3 fc7_f3 fc7_p3 fc8_load fc8_size fc8_zero fc8_eq fc8_all fc8_o0 fc8_f0 fc8_p0 fc8_o1 fc8_f1 fc8_p1 fc8_o2 fc8_f2 fc8_p2 fc8_o3 fc8_f3 fc8_p3 fc9_load fc9_size fc9_iss fc9_zero fc10_load fc10_size fc10_iss fc10_zero fc11_load fc11_size fc11_iss fc11_zero fc12_load fc12_size fc12_int fc12_isb fc12_u fc12_zero fc13_load fc13_size fc13_zero fc13_all fc13_o0 fc13_f0 fc13_p0 fc13_o1 fc13_f1 fc13_p1 fc14_load fc14_size fc14_zero fc14_all fc14_o0 fc14_f0 fc14_p0 fc14_o1 fc14_f1 fc14_p1 fc15_load fc15_size fc15_zero fc15_sl fc16_load fc16_size fc16_zero fc16_sl fc17_load fc17_size fc17_zero fc17_sl fc18_load fc18_size fc18_zero fc18_all fc18_o0 fc18_f0 fc18_p0 fc19_load fc19_size fc19_zero fc19_all fc19_o0 fc19_f0 fc19_p0 fc21_load fc21_size fc21_int fc21_isb fc21_u fc21_zero fc22_load fc22_size fc22_zero fc22_sl fc22_arr fc22_app fc22_z1 fc22_clear fc22_byt fc23_load fc23_size fc23_zero fc24_load fc24_size fc24_zero fc24_sl fc24_arr fc24_app fc24_z1 fc24_clear fc24_byt fc25_load fc25_size fc25_zero fc25_all fc25_o0 fc25_f0 fc25_p0 fc25_o1 fc25_f1 fc25_p1 fc25_o2 fc25_f2 fc25_p2 fc26_load fc26_size fc26_zero fc26_all fc26_o0 fc26_f0 fc26_p0 fc26_o1 fc26_f1 fc26_p1 fc26_o2 fc26_f2 fc26_p2 fc28_load fc28_size fc28_zero fc30_load fc30_size fc30_zero fc32_load fc32_size fc32_zero fc33_load fc33_size fc33_zero fc35_load fc35_size fc35_zero fc36_load fc36_size fc36_zero fc37_load fc37_size fc37_zero fc37_sl fc37_arr fc37_app fc37_z1 fc37_clear fc37_byt fc38_load fc38_size fc38_zero fc39_load fc39_size fc39_zero fc40_load fc40_size fc40_zero fc42_load fc42_size fc42_zero fc43_load fc43_size fc43_zero fc44_load fc44_size fc44_zero fc44_sl fc45_load fc45_size fc45_int fc45_isb fc45_u fc45_zero fc46_load fc46_size fc46_zero fc46_all fc46_o0 fc46_f0 fc46_p0 fc46_o1 fc46_f1 fc46_p1 fc46_o2 fc46_f2 fc46_p2 fc47_load fc47_size fc47_zero fc47_all fc47_o0 fc47_f0 fc47_p0 fc47_o1 fc47_f1 fc47_p1 fc47_o2 fc47_f2 fc47_p2 fc48_load fc48_size fc48_zero fc49_load fc49_size fc49_zero fc50_load fc50_size fc50_zero fc51_load fc51_size fc51_zero fc53_load fc53_size fc53_zero fc54_load fc54_size fc54_zero fc55_load fc55_size fc55_zero fc56_load fc56_size fc56_zero fc57_load fc57_size fc57_zero fc58_load fc58_size fc58_zero fc59_load fc59_size fc59_zero fc60_load fc60_size fc60_zero fc61_load fc61_size fc61_zero fc62_load fc62_size fc62_zero fc64_load fc64_size fc64_zero fc65_load fc65_size fc65_zero fc66_load fc66_size fc66_zero fc67_load fc67_size fc67_zero fc68_load fc68_size fc68_zero fc69_load fc69_size fc69_zero fc70_load fc70_size fc70_zero fc71_load fc71_size fc71_int fc71_isb fc71_u fc71_zero fc72_load fc72_size fc72_zero fc73_load fc73_size fc73_zero fc74_load fc74_size fc74_zero fc75_load fc75_size fc75_zero fc76_load fc76_size fc76_zero fc77_load fc77_size fc77_zero fc77_all fc77_o0 fc77_f0 fc77_p0 fc77_o1 fc77_f1 fc77_p1 fc77_o2 fc77_f2 fc77_p2 fc77_o3 fc77_f3 fc77_p3 fc78_load fc78_size fc78_zero fc78_all fc78_o0 fc78_f0 fc78_p0 fc78_o1 fc78_f1 fc78_p1 fc78_o2 fc78_f2 fc78_p2 fc78_o3 fc78_f3 fc78_p3 fc79_load fc79_size fc79_zero fc79_arr fc79_sl fc79_all fc80_load fc80_size fc80_zero fc80_all fc80_f0 fc80_p0 fc81_load fc81_size fc81_zero fc81_all fc81_f0 fc81_p0 fc82_load fc82_size fc82_int fc82_isb fc82_u fc82_zero fc83_load fc83_size fc83_int fc83_isb fc83_u fc83_zero fc84_load fc84_size fc84_int fc84_isb fc84_u fc84_zero fc85_load fc85_size fc85_zero fc86_load fc86_size fc86_zero fc86_sl fc87_load fc87_size fc87_int fc87_isb fc87_u fc87_zero fc88_load fc88_size fc88_int fc88_isb fc88_u fc88_zero fc89_load fc89_size fc89_zero fc89_all fc89_o0 fc89_f0 fc89_p0 fc89_o1 fc89_f1 fc89_p1 fc89_o2 fc89_f2 fc89_p2 fc89_o3 fc89_f3 fc89_p3 fc89_o4 fc89_f4 fc89_p4 fc89_o5 fc89_f5 fc89_p5 fc89_o6 fc89_f6 fc89_p6 fc89_o7 fc89_f7 fc89_p7 fc89_o8 fc89_f8 fc89_p8 fc89_o9 fc89_f9 fc89_p9 fc89_o10 fc89_f10 fc89_p10 fc90_load fc90_size fc90_zero fc90_all fc90_o0 fc90_f0 fc90_p0 fc90_o1 fc90_f1 fc90_p1 fc90_o2 fc90_f2 fc90_p2 fc90_o3 fc90_f3 fc90_p3 fc90_o4 fc90_f4 fc90_p4 fc90_o5 fc90_f5 fc90_p5 fc90_o6 fc90_f6 fc90_p6 fc90_o7 fc90_f7 fc90_p7 fc90_o8 fc90_f8 fc90_p8 fc90_o9 fc90_f9 fc90_p9 fc90_o10 fc90_f10 fc90_p10
end Go.Proofs.Yteojpgmclplggaa
