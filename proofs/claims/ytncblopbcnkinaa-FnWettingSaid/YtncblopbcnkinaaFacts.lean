/- The closed facts on the types of this seat's program, each by the kernel. Written by program. -/
import Derived.Test.YtncblopbcnkinaaAm10
import Derived.Test.YtncblopbcnkinaaRows
namespace Go.Proofs.Ytncblopbcnkinaa
open Go.Am
theorem fc1_load : loadT Try.prog 1 = some (1, false) := by kernel_rfl
theorem fc1_size : tySize Try.prog 1 = some 1 := by kernel_rfl
theorem fc1_zero : zeroT Try.prog 1 = some [.nilFunc] := by kernel_rfl
theorem fc2_load : loadT Try.prog 2 = some (1, false) := by kernel_rfl
theorem fc2_size : tySize Try.prog 2 = some 1 := by kernel_rfl
theorem fc2_int : intT Try.prog 2 = some .i64 := by kernel_rfl
theorem fc2_isb : isBoolT Try.prog 2 = false := by kernel_rfl
theorem fc2_u : Try.prog.underlying 2 = some (.int .i64) := by kernel_rfl
theorem fc2_zero : zeroT Try.prog 2 = some [.int .i64 0] := by kernel_rfl
theorem fc3_load : loadT Try.prog 3 = some (1, false) := by kernel_rfl
theorem fc3_size : tySize Try.prog 3 = some 1 := by kernel_rfl
theorem fc3_int : intT Try.prog 3 = some .i64 := by kernel_rfl
theorem fc3_isb : isBoolT Try.prog 3 = false := by kernel_rfl
theorem fc3_u : Try.prog.underlying 3 = some (.int .i64) := by kernel_rfl
theorem fc3_zero : zeroT Try.prog 3 = some [.int .i64 0] := by kernel_rfl
theorem fc4_load : loadT Try.prog 4 = some (1, false) := by kernel_rfl
theorem fc4_size : tySize Try.prog 4 = some 1 := by kernel_rfl
theorem fc4_isb : isBoolT Try.prog 4 = true := by kernel_rfl
theorem fc4_zero : zeroT Try.prog 4 = some [.bool false] := by kernel_rfl
theorem fc5_load : loadT Try.prog 5 = some (1, false) := by kernel_rfl
theorem fc5_size : tySize Try.prog 5 = some 1 := by kernel_rfl
theorem fc5_int : intT Try.prog 5 = some .u8 := by kernel_rfl
theorem fc5_isb : isBoolT Try.prog 5 = false := by kernel_rfl
theorem fc5_u : Try.prog.underlying 5 = some (.int .u8) := by kernel_rfl
theorem fc5_zero : zeroT Try.prog 5 = some [.int .u8 0] := by kernel_rfl
theorem fc6_load : loadT Try.prog 6 = some (1, false) := by kernel_rfl
theorem fc6_size : tySize Try.prog 6 = some 1 := by kernel_rfl
theorem fc6_int : intT Try.prog 6 = some .u8 := by kernel_rfl
theorem fc6_isb : isBoolT Try.prog 6 = false := by kernel_rfl
theorem fc6_u : Try.prog.underlying 6 = some (.int .u8) := by kernel_rfl
theorem fc6_zero : zeroT Try.prog 6 = some [.int .u8 0] := by kernel_rfl
theorem fc7_load : loadT Try.prog 7 = some (4, true) := by kernel_rfl
theorem fc7_size : tySize Try.prog 7 = some 4 := by kernel_rfl
theorem fc7_zero : zeroT Try.prog 7 = some [.int .i64 0, .int .i64 0, .bool false, .int .u8 0] := by kernel_rfl
theorem fc7_eq : eqT Try.prog 7 = some [(0, false), (1, false), (2, true), (3, false)] := by kernel_rfl
theorem fc7_all : allPlaces Try.prog 7 = true := by kernel_rfl
theorem fc7_o0 : fieldOff Try.prog 7 0 = some 0 := by kernel_rfl
theorem fc7_f0 : fieldT Try.prog 7 0 = some (0, 1, false) := by kernel_rfl
theorem fc7_p0 : placeT Try.prog 7 0 = some (0, 1) := by kernel_rfl
theorem fc7_o1 : fieldOff Try.prog 7 1 = some 1 := by kernel_rfl
theorem fc7_f1 : fieldT Try.prog 7 1 = some (1, 1, false) := by kernel_rfl
theorem fc7_p1 : placeT Try.prog 7 1 = some (1, 1) := by kernel_rfl
theorem fc7_o2 : fieldOff Try.prog 7 2 = some 2 := by kernel_rfl
theorem fc7_f2 : fieldT Try.prog 7 2 = some (2, 1, false) := by kernel_rfl
theorem fc7_p2 : placeT Try.prog 7 2 = some (2, 1) := by kernel_rfl
theorem fc7_o3 : fieldOff Try.prog 7 3 = some 3 := by kernel_rfl
theorem fc7_f3 : fieldT Try.prog 7 3 = some (3, 1, false) := by kernel_rfl
theorem fc7_p3 : placeT Try.prog 7 3 = some (3, 1) := by kernel_rfl
theorem fc8_load : loadT Try.prog 8 = some (4, true) := by kernel_rfl
theorem fc8_size : tySize Try.prog 8 = some 4 := by kernel_rfl
theorem fc8_zero : zeroT Try.prog 8 = some [.int .i64 0, .int .i64 0, .bool false, .int .u8 0] := by kernel_rfl
theorem fc8_eq : eqT Try.prog 8 = some [(0, false), (1, false), (2, true), (3, false)] := by kernel_rfl
theorem fc8_all : allPlaces Try.prog 8 = true := by kernel_rfl
theorem fc8_o0 : fieldOff Try.prog 8 0 = some 0 := by kernel_rfl
theorem fc8_f0 : fieldT Try.prog 8 0 = some (0, 1, false) := by kernel_rfl
theorem fc8_p0 : placeT Try.prog 8 0 = some (0, 1) := by kernel_rfl
theorem fc8_o1 : fieldOff Try.prog 8 1 = some 1 := by kernel_rfl
theorem fc8_f1 : fieldT Try.prog 8 1 = some (1, 1, false) := by kernel_rfl
theorem fc8_p1 : placeT Try.prog 8 1 = some (1, 1) := by kernel_rfl
theorem fc8_o2 : fieldOff Try.prog 8 2 = some 2 := by kernel_rfl
theorem fc8_f2 : fieldT Try.prog 8 2 = some (2, 1, false) := by kernel_rfl
theorem fc8_p2 : placeT Try.prog 8 2 = some (2, 1) := by kernel_rfl
theorem fc8_o3 : fieldOff Try.prog 8 3 = some 3 := by kernel_rfl
theorem fc8_f3 : fieldT Try.prog 8 3 = some (3, 1, false) := by kernel_rfl
theorem fc8_p3 : placeT Try.prog 8 3 = some (3, 1) := by kernel_rfl
theorem fc9_load : loadT Try.prog 9 = some (1, false) := by kernel_rfl
theorem fc9_size : tySize Try.prog 9 = some 1 := by kernel_rfl
theorem fc9_iss : isStrT Try.prog 9 = true := by kernel_rfl
theorem fc9_zero : zeroT Try.prog 9 = some [.string ⟨#[]⟩] := by kernel_rfl
theorem fc10_load : loadT Try.prog 10 = some (1, false) := by kernel_rfl
theorem fc10_size : tySize Try.prog 10 = some 1 := by kernel_rfl
theorem fc10_iss : isStrT Try.prog 10 = true := by kernel_rfl
theorem fc10_zero : zeroT Try.prog 10 = some [.string ⟨#[]⟩] := by kernel_rfl
theorem fc11_load : loadT Try.prog 11 = some (1, false) := by kernel_rfl
theorem fc11_size : tySize Try.prog 11 = some 1 := by kernel_rfl
theorem fc11_iss : isStrT Try.prog 11 = true := by kernel_rfl
theorem fc11_zero : zeroT Try.prog 11 = some [.string ⟨#[]⟩] := by kernel_rfl
theorem fc12_load : loadT Try.prog 12 = some (1, false) := by kernel_rfl
theorem fc12_size : tySize Try.prog 12 = some 1 := by kernel_rfl
theorem fc12_int : intT Try.prog 12 = some .u64 := by kernel_rfl
theorem fc12_isb : isBoolT Try.prog 12 = false := by kernel_rfl
theorem fc12_u : Try.prog.underlying 12 = some (.int .u64) := by kernel_rfl
theorem fc12_zero : zeroT Try.prog 12 = some [.int .u64 0] := by kernel_rfl
theorem fc13_load : loadT Try.prog 13 = some (2, true) := by kernel_rfl
theorem fc13_size : tySize Try.prog 13 = some 2 := by kernel_rfl
theorem fc13_zero : zeroT Try.prog 13 = some [.string ⟨#[]⟩, .int .u64 0] := by kernel_rfl
theorem fc13_all : allPlaces Try.prog 13 = true := by kernel_rfl
theorem fc13_o0 : fieldOff Try.prog 13 0 = some 0 := by kernel_rfl
theorem fc13_f0 : fieldT Try.prog 13 0 = some (0, 1, false) := by kernel_rfl
theorem fc13_p0 : placeT Try.prog 13 0 = some (0, 1) := by kernel_rfl
theorem fc13_o1 : fieldOff Try.prog 13 1 = some 1 := by kernel_rfl
theorem fc13_f1 : fieldT Try.prog 13 1 = some (1, 1, false) := by kernel_rfl
theorem fc13_p1 : placeT Try.prog 13 1 = some (1, 1) := by kernel_rfl
theorem fc14_load : loadT Try.prog 14 = some (2, true) := by kernel_rfl
theorem fc14_size : tySize Try.prog 14 = some 2 := by kernel_rfl
theorem fc14_zero : zeroT Try.prog 14 = some [.string ⟨#[]⟩, .int .u64 0] := by kernel_rfl
theorem fc14_all : allPlaces Try.prog 14 = true := by kernel_rfl
theorem fc14_o0 : fieldOff Try.prog 14 0 = some 0 := by kernel_rfl
theorem fc14_f0 : fieldT Try.prog 14 0 = some (0, 1, false) := by kernel_rfl
theorem fc14_p0 : placeT Try.prog 14 0 = some (0, 1) := by kernel_rfl
theorem fc14_o1 : fieldOff Try.prog 14 1 = some 1 := by kernel_rfl
theorem fc14_f1 : fieldT Try.prog 14 1 = some (1, 1, false) := by kernel_rfl
theorem fc14_p1 : placeT Try.prog 14 1 = some (1, 1) := by kernel_rfl
theorem fc15_load : loadT Try.prog 15 = some (1, false) := by kernel_rfl
theorem fc15_size : tySize Try.prog 15 = some 1 := by kernel_rfl
theorem fc15_zero : zeroT Try.prog 15 = some [.pointer none] := by kernel_rfl
theorem fc15_sl : sliceT Try.prog 15 = none := by kernel_rfl
theorem fc16_load : loadT Try.prog 16 = some (1, false) := by kernel_rfl
theorem fc16_size : tySize Try.prog 16 = some 1 := by kernel_rfl
theorem fc16_zero : zeroT Try.prog 16 = some [.pointer none] := by kernel_rfl
theorem fc16_sl : sliceT Try.prog 16 = none := by kernel_rfl
theorem fc17_load : loadT Try.prog 17 = some (1, false) := by kernel_rfl
theorem fc17_size : tySize Try.prog 17 = some 1 := by kernel_rfl
theorem fc17_zero : zeroT Try.prog 17 = some [.pointer none] := by kernel_rfl
theorem fc17_sl : sliceT Try.prog 17 = none := by kernel_rfl
theorem fc18_load : loadT Try.prog 18 = some (1, true) := by kernel_rfl
theorem fc18_size : tySize Try.prog 18 = some 1 := by kernel_rfl
theorem fc18_zero : zeroT Try.prog 18 = some [.pointer none] := by kernel_rfl
theorem fc18_all : allPlaces Try.prog 18 = true := by kernel_rfl
theorem fc18_o0 : fieldOff Try.prog 18 0 = some 0 := by kernel_rfl
theorem fc18_f0 : fieldT Try.prog 18 0 = some (0, 1, false) := by kernel_rfl
theorem fc18_p0 : placeT Try.prog 18 0 = some (0, 1) := by kernel_rfl
theorem fc19_load : loadT Try.prog 19 = some (1, true) := by kernel_rfl
theorem fc19_size : tySize Try.prog 19 = some 1 := by kernel_rfl
theorem fc19_zero : zeroT Try.prog 19 = some [.pointer none] := by kernel_rfl
theorem fc19_all : allPlaces Try.prog 19 = true := by kernel_rfl
theorem fc19_o0 : fieldOff Try.prog 19 0 = some 0 := by kernel_rfl
theorem fc19_f0 : fieldT Try.prog 19 0 = some (0, 1, false) := by kernel_rfl
theorem fc19_p0 : placeT Try.prog 19 0 = some (0, 1) := by kernel_rfl
theorem fc21_load : loadT Try.prog 21 = some (1, false) := by kernel_rfl
theorem fc21_size : tySize Try.prog 21 = some 1 := by kernel_rfl
theorem fc21_int : intT Try.prog 21 = some .i32 := by kernel_rfl
theorem fc21_isb : isBoolT Try.prog 21 = false := by kernel_rfl
theorem fc21_u : Try.prog.underlying 21 = some (.int .i32) := by kernel_rfl
theorem fc21_zero : zeroT Try.prog 21 = some [.int .i32 0] := by kernel_rfl
theorem fc22_load : loadT Try.prog 22 = some (1, false) := by kernel_rfl
theorem fc22_size : tySize Try.prog 22 = some 1 := by kernel_rfl
theorem fc22_zero : zeroT Try.prog 22 = some [.slice none 0 0] := by kernel_rfl
theorem fc22_sl : sliceT Try.prog 22 = some (5, 1) := by kernel_rfl
theorem fc22_arr : arrT Try.prog 22 = none := by kernel_rfl
theorem fc22_app : appT Try.prog 22 = some (5, 1, 1) := by kernel_rfl
theorem fc22_z1 : zeroNT Try.prog 22 = some (5, [.int .u8 0], 1) := by kernel_rfl
theorem fc22_clear : clearT Try.prog 22 = some [.int .u8 0] := by kernel_rfl
theorem fc22_byt : bytesT Try.prog 22 = true := by kernel_rfl
theorem fc23_load : loadT Try.prog 23 = some (1, false) := by kernel_rfl
theorem fc23_size : tySize Try.prog 23 = some 1 := by kernel_rfl
theorem fc23_zero : zeroT Try.prog 23 = some [.nilFunc] := by kernel_rfl
theorem fc24_load : loadT Try.prog 24 = some (1, false) := by kernel_rfl
theorem fc24_size : tySize Try.prog 24 = some 1 := by kernel_rfl
theorem fc24_zero : zeroT Try.prog 24 = some [.slice none 0 0] := by kernel_rfl
theorem fc24_sl : sliceT Try.prog 24 = some (3, 1) := by kernel_rfl
theorem fc24_arr : arrT Try.prog 24 = none := by kernel_rfl
theorem fc24_app : appT Try.prog 24 = some (3, 1, 8) := by kernel_rfl
theorem fc24_z1 : zeroNT Try.prog 24 = some (3, [.int .i64 0], 8) := by kernel_rfl
theorem fc24_clear : clearT Try.prog 24 = some [.int .i64 0] := by kernel_rfl
theorem fc24_byt : bytesT Try.prog 24 = false := by kernel_rfl
theorem fc25_load : loadT Try.prog 25 = some (3, true) := by kernel_rfl
theorem fc25_size : tySize Try.prog 25 = some 3 := by kernel_rfl
theorem fc25_zero : zeroT Try.prog 25 = some [.int .i64 0, .int .i64 0, .slice none 0 0] := by kernel_rfl
theorem fc25_all : allPlaces Try.prog 25 = true := by kernel_rfl
theorem fc25_o0 : fieldOff Try.prog 25 0 = some 0 := by kernel_rfl
theorem fc25_f0 : fieldT Try.prog 25 0 = some (0, 1, false) := by kernel_rfl
theorem fc25_p0 : placeT Try.prog 25 0 = some (0, 1) := by kernel_rfl
theorem fc25_o1 : fieldOff Try.prog 25 1 = some 1 := by kernel_rfl
theorem fc25_f1 : fieldT Try.prog 25 1 = some (1, 1, false) := by kernel_rfl
theorem fc25_p1 : placeT Try.prog 25 1 = some (1, 1) := by kernel_rfl
theorem fc25_o2 : fieldOff Try.prog 25 2 = some 2 := by kernel_rfl
theorem fc25_f2 : fieldT Try.prog 25 2 = some (2, 1, false) := by kernel_rfl
theorem fc25_p2 : placeT Try.prog 25 2 = some (2, 1) := by kernel_rfl
theorem fc26_load : loadT Try.prog 26 = some (3, true) := by kernel_rfl
theorem fc26_size : tySize Try.prog 26 = some 3 := by kernel_rfl
theorem fc26_zero : zeroT Try.prog 26 = some [.int .i64 0, .int .i64 0, .slice none 0 0] := by kernel_rfl
theorem fc26_all : allPlaces Try.prog 26 = true := by kernel_rfl
theorem fc26_o0 : fieldOff Try.prog 26 0 = some 0 := by kernel_rfl
theorem fc26_f0 : fieldT Try.prog 26 0 = some (0, 1, false) := by kernel_rfl
theorem fc26_p0 : placeT Try.prog 26 0 = some (0, 1) := by kernel_rfl
theorem fc26_o1 : fieldOff Try.prog 26 1 = some 1 := by kernel_rfl
theorem fc26_f1 : fieldT Try.prog 26 1 = some (1, 1, false) := by kernel_rfl
theorem fc26_p1 : placeT Try.prog 26 1 = some (1, 1) := by kernel_rfl
theorem fc26_o2 : fieldOff Try.prog 26 2 = some 2 := by kernel_rfl
theorem fc26_f2 : fieldT Try.prog 26 2 = some (2, 1, false) := by kernel_rfl
theorem fc26_p2 : placeT Try.prog 26 2 = some (2, 1) := by kernel_rfl
theorem fc28_load : loadT Try.prog 28 = some (1, false) := by kernel_rfl
theorem fc28_size : tySize Try.prog 28 = some 1 := by kernel_rfl
theorem fc28_zero : zeroT Try.prog 28 = some [.nilFunc] := by kernel_rfl
theorem fc30_load : loadT Try.prog 30 = some (1, false) := by kernel_rfl
theorem fc30_size : tySize Try.prog 30 = some 1 := by kernel_rfl
theorem fc30_zero : zeroT Try.prog 30 = some [.nilFunc] := by kernel_rfl
theorem fc32_load : loadT Try.prog 32 = some (1, false) := by kernel_rfl
theorem fc32_size : tySize Try.prog 32 = some 1 := by kernel_rfl
theorem fc32_zero : zeroT Try.prog 32 = some [.nilFunc] := by kernel_rfl
theorem fc33_load : loadT Try.prog 33 = some (1, false) := by kernel_rfl
theorem fc33_size : tySize Try.prog 33 = some 1 := by kernel_rfl
theorem fc33_zero : zeroT Try.prog 33 = some [.nilFunc] := by kernel_rfl
theorem fc35_load : loadT Try.prog 35 = some (1, false) := by kernel_rfl
theorem fc35_size : tySize Try.prog 35 = some 1 := by kernel_rfl
theorem fc35_zero : zeroT Try.prog 35 = some [.nilFunc] := by kernel_rfl
theorem fc36_load : loadT Try.prog 36 = some (1, false) := by kernel_rfl
theorem fc36_size : tySize Try.prog 36 = some 1 := by kernel_rfl
theorem fc36_zero : zeroT Try.prog 36 = some [.nilFunc] := by kernel_rfl
theorem fc37_load : loadT Try.prog 37 = some (1, false) := by kernel_rfl
theorem fc37_size : tySize Try.prog 37 = some 1 := by kernel_rfl
theorem fc37_zero : zeroT Try.prog 37 = some [.slice none 0 0] := by kernel_rfl
theorem fc37_sl : sliceT Try.prog 37 = some (26, 3) := by kernel_rfl
theorem fc37_arr : arrT Try.prog 37 = none := by kernel_rfl
theorem fc37_app : appT Try.prog 37 = some (26, 3, 40) := by kernel_rfl
theorem fc37_z1 : zeroNT Try.prog 37 = some (26, [.int .i64 0, .int .i64 0, .slice none 0 0], 40) := by kernel_rfl
theorem fc37_clear : clearT Try.prog 37 = some [.int .i64 0, .int .i64 0, .slice none 0 0] := by kernel_rfl
theorem fc37_byt : bytesT Try.prog 37 = false := by kernel_rfl
theorem fc38_load : loadT Try.prog 38 = some (1, false) := by kernel_rfl
theorem fc38_size : tySize Try.prog 38 = some 1 := by kernel_rfl
theorem fc38_zero : zeroT Try.prog 38 = some [.nilFunc] := by kernel_rfl
theorem fc39_load : loadT Try.prog 39 = some (1, false) := by kernel_rfl
theorem fc39_size : tySize Try.prog 39 = some 1 := by kernel_rfl
theorem fc39_zero : zeroT Try.prog 39 = some [.nilFunc] := by kernel_rfl
theorem fc40_load : loadT Try.prog 40 = some (1, false) := by kernel_rfl
theorem fc40_size : tySize Try.prog 40 = some 1 := by kernel_rfl
theorem fc40_zero : zeroT Try.prog 40 = some [.nilFunc] := by kernel_rfl
theorem fc42_load : loadT Try.prog 42 = some (1, false) := by kernel_rfl
theorem fc42_size : tySize Try.prog 42 = some 1 := by kernel_rfl
theorem fc42_zero : zeroT Try.prog 42 = some [.nilFunc] := by kernel_rfl
theorem fc43_load : loadT Try.prog 43 = some (1, false) := by kernel_rfl
theorem fc43_size : tySize Try.prog 43 = some 1 := by kernel_rfl
theorem fc43_zero : zeroT Try.prog 43 = some [.nilFunc] := by kernel_rfl
theorem fc44_load : loadT Try.prog 44 = some (1, false) := by kernel_rfl
theorem fc44_size : tySize Try.prog 44 = some 1 := by kernel_rfl
theorem fc44_zero : zeroT Try.prog 44 = some [.slice none 0 0] := by kernel_rfl
theorem fc44_sl : sliceT Try.prog 44 = some (105, 4) := by kernel_rfl
theorem fc44_arr : arrT Try.prog 44 = none := by kernel_rfl
theorem fc44_app : appT Try.prog 44 = some (105, 4, 32) := by kernel_rfl
theorem fc44_z1 : zeroNT Try.prog 44 = some (105, [.int .i64 0, .int .i64 0, .int .i64 0, .int .i64 0], 32) := by kernel_rfl
theorem fc44_clear : clearT Try.prog 44 = some [.int .i64 0, .int .i64 0, .int .i64 0, .int .i64 0] := by kernel_rfl
theorem fc44_byt : bytesT Try.prog 44 = false := by kernel_rfl
theorem fc45_load : loadT Try.prog 45 = some (2, true) := by kernel_rfl
theorem fc45_size : tySize Try.prog 45 = some 2 := by kernel_rfl
theorem fc45_zero : zeroT Try.prog 45 = some [.int .i64 0, .slice none 0 0] := by kernel_rfl
theorem fc45_all : allPlaces Try.prog 45 = true := by kernel_rfl
theorem fc45_o0 : fieldOff Try.prog 45 0 = some 0 := by kernel_rfl
theorem fc45_f0 : fieldT Try.prog 45 0 = some (0, 1, false) := by kernel_rfl
theorem fc45_p0 : placeT Try.prog 45 0 = some (0, 1) := by kernel_rfl
theorem fc45_o1 : fieldOff Try.prog 45 1 = some 1 := by kernel_rfl
theorem fc45_f1 : fieldT Try.prog 45 1 = some (1, 1, false) := by kernel_rfl
theorem fc45_p1 : placeT Try.prog 45 1 = some (1, 1) := by kernel_rfl
theorem fc46_load : loadT Try.prog 46 = some (2, true) := by kernel_rfl
theorem fc46_size : tySize Try.prog 46 = some 2 := by kernel_rfl
theorem fc46_zero : zeroT Try.prog 46 = some [.int .i64 0, .slice none 0 0] := by kernel_rfl
theorem fc46_all : allPlaces Try.prog 46 = true := by kernel_rfl
theorem fc46_o0 : fieldOff Try.prog 46 0 = some 0 := by kernel_rfl
theorem fc46_f0 : fieldT Try.prog 46 0 = some (0, 1, false) := by kernel_rfl
theorem fc46_p0 : placeT Try.prog 46 0 = some (0, 1) := by kernel_rfl
theorem fc46_o1 : fieldOff Try.prog 46 1 = some 1 := by kernel_rfl
theorem fc46_f1 : fieldT Try.prog 46 1 = some (1, 1, false) := by kernel_rfl
theorem fc46_p1 : placeT Try.prog 46 1 = some (1, 1) := by kernel_rfl
theorem fc47_load : loadT Try.prog 47 = some (1, false) := by kernel_rfl
theorem fc47_size : tySize Try.prog 47 = some 1 := by kernel_rfl
theorem fc47_zero : zeroT Try.prog 47 = some [.slice none 0 0] := by kernel_rfl
theorem fc47_sl : sliceT Try.prog 47 = some (92, 4) := by kernel_rfl
theorem fc47_arr : arrT Try.prog 47 = none := by kernel_rfl
theorem fc47_app : appT Try.prog 47 = some (92, 4, 32) := by kernel_rfl
theorem fc47_z1 : zeroNT Try.prog 47 = some (92, [.int .i64 0, .int .i64 0, .int .i64 0, .bool false], 32) := by kernel_rfl
theorem fc47_clear : clearT Try.prog 47 = some [.int .i64 0, .int .i64 0, .int .i64 0, .bool false] := by kernel_rfl
theorem fc47_byt : bytesT Try.prog 47 = false := by kernel_rfl
theorem fc49_load : loadT Try.prog 49 = some (1, false) := by kernel_rfl
theorem fc49_size : tySize Try.prog 49 = some 1 := by kernel_rfl
theorem fc49_zero : zeroT Try.prog 49 = some [.nilFunc] := by kernel_rfl
theorem fc50_load : loadT Try.prog 50 = some (1, false) := by kernel_rfl
theorem fc50_size : tySize Try.prog 50 = some 1 := by kernel_rfl
theorem fc50_zero : zeroT Try.prog 50 = some [.slice none 0 0] := by kernel_rfl
theorem fc50_sl : sliceT Try.prog 50 = some (24, 1) := by kernel_rfl
theorem fc50_arr : arrT Try.prog 50 = none := by kernel_rfl
theorem fc50_app : appT Try.prog 50 = some (24, 1, 24) := by kernel_rfl
theorem fc50_z1 : zeroNT Try.prog 50 = some (24, [.slice none 0 0], 24) := by kernel_rfl
theorem fc50_clear : clearT Try.prog 50 = some [.slice none 0 0] := by kernel_rfl
theorem fc50_byt : bytesT Try.prog 50 = false := by kernel_rfl
theorem fc52_load : loadT Try.prog 52 = some (1, false) := by kernel_rfl
theorem fc52_size : tySize Try.prog 52 = some 1 := by kernel_rfl
theorem fc52_zero : zeroT Try.prog 52 = some [.nilFunc] := by kernel_rfl
theorem fc53_load : loadT Try.prog 53 = some (1, false) := by kernel_rfl
theorem fc53_size : tySize Try.prog 53 = some 1 := by kernel_rfl
theorem fc53_zero : zeroT Try.prog 53 = some [.nilFunc] := by kernel_rfl
theorem fc54_load : loadT Try.prog 54 = some (1, false) := by kernel_rfl
theorem fc54_size : tySize Try.prog 54 = some 1 := by kernel_rfl
theorem fc54_zero : zeroT Try.prog 54 = some [.nilFunc] := by kernel_rfl
theorem fc55_load : loadT Try.prog 55 = some (1, false) := by kernel_rfl
theorem fc55_size : tySize Try.prog 55 = some 1 := by kernel_rfl
theorem fc55_zero : zeroT Try.prog 55 = some [.nilFunc] := by kernel_rfl
theorem fc57_load : loadT Try.prog 57 = some (1, false) := by kernel_rfl
theorem fc57_size : tySize Try.prog 57 = some 1 := by kernel_rfl
theorem fc57_zero : zeroT Try.prog 57 = some [.nilFunc] := by kernel_rfl
theorem fc59_load : loadT Try.prog 59 = some (1, false) := by kernel_rfl
theorem fc59_size : tySize Try.prog 59 = some 1 := by kernel_rfl
theorem fc59_zero : zeroT Try.prog 59 = some [.nilFunc] := by kernel_rfl
theorem fc60_load : loadT Try.prog 60 = some (1, false) := by kernel_rfl
theorem fc60_size : tySize Try.prog 60 = some 1 := by kernel_rfl
theorem fc60_zero : zeroT Try.prog 60 = some [.pointer none] := by kernel_rfl
theorem fc60_sl : sliceT Try.prog 60 = none := by kernel_rfl
theorem fc61_load : loadT Try.prog 61 = some (1, false) := by kernel_rfl
theorem fc61_size : tySize Try.prog 61 = some 1 := by kernel_rfl
theorem fc61_int : intT Try.prog 61 = some .u64 := by kernel_rfl
theorem fc61_isb : isBoolT Try.prog 61 = false := by kernel_rfl
theorem fc61_u : Try.prog.underlying 61 = some (.int .u64) := by kernel_rfl
theorem fc61_zero : zeroT Try.prog 61 = some [.int .u64 0] := by kernel_rfl
theorem fc62_load : loadT Try.prog 62 = some (3, true) := by kernel_rfl
theorem fc62_size : tySize Try.prog 62 = some 3 := by kernel_rfl
theorem fc62_zero : zeroT Try.prog 62 = some [.slice none 0 0, .int .i64 0, .int .u64 0] := by kernel_rfl
theorem fc62_all : allPlaces Try.prog 62 = true := by kernel_rfl
theorem fc62_o0 : fieldOff Try.prog 62 0 = some 0 := by kernel_rfl
theorem fc62_f0 : fieldT Try.prog 62 0 = some (0, 1, false) := by kernel_rfl
theorem fc62_p0 : placeT Try.prog 62 0 = some (0, 1) := by kernel_rfl
theorem fc62_o1 : fieldOff Try.prog 62 1 = some 1 := by kernel_rfl
theorem fc62_f1 : fieldT Try.prog 62 1 = some (1, 1, false) := by kernel_rfl
theorem fc62_p1 : placeT Try.prog 62 1 = some (1, 1) := by kernel_rfl
theorem fc62_o2 : fieldOff Try.prog 62 2 = some 2 := by kernel_rfl
theorem fc62_f2 : fieldT Try.prog 62 2 = some (2, 1, false) := by kernel_rfl
theorem fc62_p2 : placeT Try.prog 62 2 = some (2, 1) := by kernel_rfl
theorem fc63_load : loadT Try.prog 63 = some (3, true) := by kernel_rfl
theorem fc63_size : tySize Try.prog 63 = some 3 := by kernel_rfl
theorem fc63_zero : zeroT Try.prog 63 = some [.slice none 0 0, .int .i64 0, .int .u64 0] := by kernel_rfl
theorem fc63_all : allPlaces Try.prog 63 = true := by kernel_rfl
theorem fc63_o0 : fieldOff Try.prog 63 0 = some 0 := by kernel_rfl
theorem fc63_f0 : fieldT Try.prog 63 0 = some (0, 1, false) := by kernel_rfl
theorem fc63_p0 : placeT Try.prog 63 0 = some (0, 1) := by kernel_rfl
theorem fc63_o1 : fieldOff Try.prog 63 1 = some 1 := by kernel_rfl
theorem fc63_f1 : fieldT Try.prog 63 1 = some (1, 1, false) := by kernel_rfl
theorem fc63_p1 : placeT Try.prog 63 1 = some (1, 1) := by kernel_rfl
theorem fc63_o2 : fieldOff Try.prog 63 2 = some 2 := by kernel_rfl
theorem fc63_f2 : fieldT Try.prog 63 2 = some (2, 1, false) := by kernel_rfl
theorem fc63_p2 : placeT Try.prog 63 2 = some (2, 1) := by kernel_rfl
theorem fc64_load : loadT Try.prog 64 = some (1, false) := by kernel_rfl
theorem fc64_size : tySize Try.prog 64 = some 1 := by kernel_rfl
theorem fc64_zero : zeroT Try.prog 64 = some [.nilFunc] := by kernel_rfl
theorem fc65_load : loadT Try.prog 65 = some (1, false) := by kernel_rfl
theorem fc65_size : tySize Try.prog 65 = some 1 := by kernel_rfl
theorem fc65_zero : zeroT Try.prog 65 = some [.nilFunc] := by kernel_rfl
theorem fc66_load : loadT Try.prog 66 = some (1, false) := by kernel_rfl
theorem fc66_size : tySize Try.prog 66 = some 1 := by kernel_rfl
theorem fc66_zero : zeroT Try.prog 66 = some [.nilFunc] := by kernel_rfl
theorem fc67_load : loadT Try.prog 67 = some (1, false) := by kernel_rfl
theorem fc67_size : tySize Try.prog 67 = some 1 := by kernel_rfl
theorem fc67_zero : zeroT Try.prog 67 = some [.nilFunc] := by kernel_rfl
theorem fc69_load : loadT Try.prog 69 = some (1, false) := by kernel_rfl
theorem fc69_size : tySize Try.prog 69 = some 1 := by kernel_rfl
theorem fc69_zero : zeroT Try.prog 69 = some [.nilFunc] := by kernel_rfl
theorem fc70_load : loadT Try.prog 70 = some (1, false) := by kernel_rfl
theorem fc70_size : tySize Try.prog 70 = some 1 := by kernel_rfl
theorem fc70_zero : zeroT Try.prog 70 = some [.nilFunc] := by kernel_rfl
theorem fc71_load : loadT Try.prog 71 = some (1, false) := by kernel_rfl
theorem fc71_size : tySize Try.prog 71 = some 1 := by kernel_rfl
theorem fc71_zero : zeroT Try.prog 71 = some [.nilFunc] := by kernel_rfl
theorem fc72_load : loadT Try.prog 72 = some (1, false) := by kernel_rfl
theorem fc72_size : tySize Try.prog 72 = some 1 := by kernel_rfl
theorem fc72_zero : zeroT Try.prog 72 = some [.nilFunc] := by kernel_rfl
theorem fc73_load : loadT Try.prog 73 = some (1, false) := by kernel_rfl
theorem fc73_size : tySize Try.prog 73 = some 1 := by kernel_rfl
theorem fc73_zero : zeroT Try.prog 73 = some [.nilFunc] := by kernel_rfl
theorem fc74_load : loadT Try.prog 74 = some (1, false) := by kernel_rfl
theorem fc74_size : tySize Try.prog 74 = some 1 := by kernel_rfl
theorem fc74_zero : zeroT Try.prog 74 = some [.nilFunc] := by kernel_rfl
theorem fc75_load : loadT Try.prog 75 = some (1, false) := by kernel_rfl
theorem fc75_size : tySize Try.prog 75 = some 1 := by kernel_rfl
theorem fc75_zero : zeroT Try.prog 75 = some [.nilFunc] := by kernel_rfl
theorem fc76_load : loadT Try.prog 76 = some (1, false) := by kernel_rfl
theorem fc76_size : tySize Try.prog 76 = some 1 := by kernel_rfl
theorem fc76_zero : zeroT Try.prog 76 = some [.nilFunc] := by kernel_rfl
theorem fc77_load : loadT Try.prog 77 = some (1, false) := by kernel_rfl
theorem fc77_size : tySize Try.prog 77 = some 1 := by kernel_rfl
theorem fc77_zero : zeroT Try.prog 77 = some [.nilFunc] := by kernel_rfl
theorem fc79_load : loadT Try.prog 79 = some (1, false) := by kernel_rfl
theorem fc79_size : tySize Try.prog 79 = some 1 := by kernel_rfl
theorem fc79_zero : zeroT Try.prog 79 = some [.nilFunc] := by kernel_rfl
theorem fc80_load : loadT Try.prog 80 = some (1, false) := by kernel_rfl
theorem fc80_size : tySize Try.prog 80 = some 1 := by kernel_rfl
theorem fc80_zero : zeroT Try.prog 80 = some [.nilFunc] := by kernel_rfl
theorem fc81_load : loadT Try.prog 81 = some (1, false) := by kernel_rfl
theorem fc81_size : tySize Try.prog 81 = some 1 := by kernel_rfl
theorem fc81_zero : zeroT Try.prog 81 = some [.nilFunc] := by kernel_rfl
theorem fc82_load : loadT Try.prog 82 = some (1, false) := by kernel_rfl
theorem fc82_size : tySize Try.prog 82 = some 1 := by kernel_rfl
theorem fc82_zero : zeroT Try.prog 82 = some [.pointer none] := by kernel_rfl
theorem fc82_sl : sliceT Try.prog 82 = none := by kernel_rfl
theorem fc83_load : loadT Try.prog 83 = some (1, false) := by kernel_rfl
theorem fc83_size : tySize Try.prog 83 = some 1 := by kernel_rfl
theorem fc83_zero : zeroT Try.prog 83 = some [.nilFunc] := by kernel_rfl
theorem fc84_load : loadT Try.prog 84 = some (1, false) := by kernel_rfl
theorem fc84_size : tySize Try.prog 84 = some 1 := by kernel_rfl
theorem fc84_zero : zeroT Try.prog 84 = some [.nilFunc] := by kernel_rfl
theorem fc85_load : loadT Try.prog 85 = some (1, false) := by kernel_rfl
theorem fc85_size : tySize Try.prog 85 = some 1 := by kernel_rfl
theorem fc85_zero : zeroT Try.prog 85 = some [.nilFunc] := by kernel_rfl
theorem fc86_load : loadT Try.prog 86 = some (1, false) := by kernel_rfl
theorem fc86_size : tySize Try.prog 86 = some 1 := by kernel_rfl
theorem fc86_zero : zeroT Try.prog 86 = some [.nilFunc] := by kernel_rfl
theorem fc87_load : loadT Try.prog 87 = some (1, false) := by kernel_rfl
theorem fc87_size : tySize Try.prog 87 = some 1 := by kernel_rfl
theorem fc87_zero : zeroT Try.prog 87 = some [.nilFunc] := by kernel_rfl
theorem fc88_load : loadT Try.prog 88 = some (1, false) := by kernel_rfl
theorem fc88_size : tySize Try.prog 88 = some 1 := by kernel_rfl
theorem fc88_zero : zeroT Try.prog 88 = some [.nilFunc] := by kernel_rfl
theorem fc89_load : loadT Try.prog 89 = some (1, false) := by kernel_rfl
theorem fc89_size : tySize Try.prog 89 = some 1 := by kernel_rfl
theorem fc89_zero : zeroT Try.prog 89 = some [.nilFunc] := by kernel_rfl
theorem fc90_load : loadT Try.prog 90 = some (1, false) := by kernel_rfl
theorem fc90_size : tySize Try.prog 90 = some 1 := by kernel_rfl
theorem fc90_zero : zeroT Try.prog 90 = some [.nilFunc] := by kernel_rfl
theorem fc91_load : loadT Try.prog 91 = some (4, true) := by kernel_rfl
theorem fc91_size : tySize Try.prog 91 = some 4 := by kernel_rfl
theorem fc91_zero : zeroT Try.prog 91 = some [.int .i64 0, .int .i64 0, .int .i64 0, .bool false] := by kernel_rfl
theorem fc91_eq : eqT Try.prog 91 = some [(0, false), (1, false), (2, false), (3, true)] := by kernel_rfl
theorem fc91_all : allPlaces Try.prog 91 = true := by kernel_rfl
theorem fc91_o0 : fieldOff Try.prog 91 0 = some 0 := by kernel_rfl
theorem fc91_f0 : fieldT Try.prog 91 0 = some (0, 1, false) := by kernel_rfl
theorem fc91_p0 : placeT Try.prog 91 0 = some (0, 1) := by kernel_rfl
theorem fc91_o1 : fieldOff Try.prog 91 1 = some 1 := by kernel_rfl
theorem fc91_f1 : fieldT Try.prog 91 1 = some (1, 1, false) := by kernel_rfl
theorem fc91_p1 : placeT Try.prog 91 1 = some (1, 1) := by kernel_rfl
theorem fc91_o2 : fieldOff Try.prog 91 2 = some 2 := by kernel_rfl
theorem fc91_f2 : fieldT Try.prog 91 2 = some (2, 1, false) := by kernel_rfl
theorem fc91_p2 : placeT Try.prog 91 2 = some (2, 1) := by kernel_rfl
theorem fc91_o3 : fieldOff Try.prog 91 3 = some 3 := by kernel_rfl
theorem fc91_f3 : fieldT Try.prog 91 3 = some (3, 1, false) := by kernel_rfl
theorem fc91_p3 : placeT Try.prog 91 3 = some (3, 1) := by kernel_rfl
theorem fc92_load : loadT Try.prog 92 = some (4, true) := by kernel_rfl
theorem fc92_size : tySize Try.prog 92 = some 4 := by kernel_rfl
theorem fc92_zero : zeroT Try.prog 92 = some [.int .i64 0, .int .i64 0, .int .i64 0, .bool false] := by kernel_rfl
theorem fc92_eq : eqT Try.prog 92 = some [(0, false), (1, false), (2, false), (3, true)] := by kernel_rfl
theorem fc92_all : allPlaces Try.prog 92 = true := by kernel_rfl
theorem fc92_o0 : fieldOff Try.prog 92 0 = some 0 := by kernel_rfl
theorem fc92_f0 : fieldT Try.prog 92 0 = some (0, 1, false) := by kernel_rfl
theorem fc92_p0 : placeT Try.prog 92 0 = some (0, 1) := by kernel_rfl
theorem fc92_o1 : fieldOff Try.prog 92 1 = some 1 := by kernel_rfl
theorem fc92_f1 : fieldT Try.prog 92 1 = some (1, 1, false) := by kernel_rfl
theorem fc92_p1 : placeT Try.prog 92 1 = some (1, 1) := by kernel_rfl
theorem fc92_o2 : fieldOff Try.prog 92 2 = some 2 := by kernel_rfl
theorem fc92_f2 : fieldT Try.prog 92 2 = some (2, 1, false) := by kernel_rfl
theorem fc92_p2 : placeT Try.prog 92 2 = some (2, 1) := by kernel_rfl
theorem fc92_o3 : fieldOff Try.prog 92 3 = some 3 := by kernel_rfl
theorem fc92_f3 : fieldT Try.prog 92 3 = some (3, 1, false) := by kernel_rfl
theorem fc92_p3 : placeT Try.prog 92 3 = some (3, 1) := by kernel_rfl
theorem fc93_load : loadT Try.prog 93 = some (1, false) := by kernel_rfl
theorem fc93_size : tySize Try.prog 93 = some 1 := by kernel_rfl
theorem fc93_zero : zeroT Try.prog 93 = some [.nilFunc] := by kernel_rfl
theorem fc94_load : loadT Try.prog 94 = some (1, false) := by kernel_rfl
theorem fc94_size : tySize Try.prog 94 = some 1 := by kernel_rfl
theorem fc94_zero : zeroT Try.prog 94 = some [.nilFunc] := by kernel_rfl
theorem fc95_load : loadT Try.prog 95 = some (1, false) := by kernel_rfl
theorem fc95_size : tySize Try.prog 95 = some 1 := by kernel_rfl
theorem fc95_zero : zeroT Try.prog 95 = some [.nilFunc] := by kernel_rfl
theorem fc96_load : loadT Try.prog 96 = some (1, false) := by kernel_rfl
theorem fc96_size : tySize Try.prog 96 = some 1 := by kernel_rfl
theorem fc96_zero : zeroT Try.prog 96 = some [.nilFunc] := by kernel_rfl
theorem fc97_load : loadT Try.prog 97 = some (1, false) := by kernel_rfl
theorem fc97_size : tySize Try.prog 97 = some 1 := by kernel_rfl
theorem fc97_zero : zeroT Try.prog 97 = some [.nilFunc] := by kernel_rfl
theorem fc98_load : loadT Try.prog 98 = some (1, false) := by kernel_rfl
theorem fc98_size : tySize Try.prog 98 = some 1 := by kernel_rfl
theorem fc98_zero : zeroT Try.prog 98 = some [.nilFunc] := by kernel_rfl
theorem fc99_load : loadT Try.prog 99 = some (1, false) := by kernel_rfl
theorem fc99_size : tySize Try.prog 99 = some 1 := by kernel_rfl
theorem fc99_zero : zeroT Try.prog 99 = some [.nilFunc] := by kernel_rfl
theorem fc100_load : loadT Try.prog 100 = some (1, false) := by kernel_rfl
theorem fc100_size : tySize Try.prog 100 = some 1 := by kernel_rfl
theorem fc100_zero : zeroT Try.prog 100 = some [.nilFunc] := by kernel_rfl
theorem fc101_load : loadT Try.prog 101 = some (1, false) := by kernel_rfl
theorem fc101_size : tySize Try.prog 101 = some 1 := by kernel_rfl
theorem fc101_zero : zeroT Try.prog 101 = some [.nilFunc] := by kernel_rfl
theorem fc102_load : loadT Try.prog 102 = some (1, false) := by kernel_rfl
theorem fc102_size : tySize Try.prog 102 = some 1 := by kernel_rfl
theorem fc102_zero : zeroT Try.prog 102 = some [.nilFunc] := by kernel_rfl
theorem fc103_load : loadT Try.prog 103 = some (1, false) := by kernel_rfl
theorem fc103_size : tySize Try.prog 103 = some 1 := by kernel_rfl
theorem fc103_zero : zeroT Try.prog 103 = some [.nilFunc] := by kernel_rfl
theorem fc104_load : loadT Try.prog 104 = some (4, true) := by kernel_rfl
theorem fc104_size : tySize Try.prog 104 = some 4 := by kernel_rfl
theorem fc104_zero : zeroT Try.prog 104 = some [.int .i64 0, .int .i64 0, .int .i64 0, .int .i64 0] := by kernel_rfl
theorem fc104_eq : eqT Try.prog 104 = some [(0, false), (1, false), (2, false), (3, false)] := by kernel_rfl
theorem fc104_all : allPlaces Try.prog 104 = true := by kernel_rfl
theorem fc104_o0 : fieldOff Try.prog 104 0 = some 0 := by kernel_rfl
theorem fc104_f0 : fieldT Try.prog 104 0 = some (0, 1, false) := by kernel_rfl
theorem fc104_p0 : placeT Try.prog 104 0 = some (0, 1) := by kernel_rfl
theorem fc104_o1 : fieldOff Try.prog 104 1 = some 1 := by kernel_rfl
theorem fc104_f1 : fieldT Try.prog 104 1 = some (1, 1, false) := by kernel_rfl
theorem fc104_p1 : placeT Try.prog 104 1 = some (1, 1) := by kernel_rfl
theorem fc104_o2 : fieldOff Try.prog 104 2 = some 2 := by kernel_rfl
theorem fc104_f2 : fieldT Try.prog 104 2 = some (2, 1, false) := by kernel_rfl
theorem fc104_p2 : placeT Try.prog 104 2 = some (2, 1) := by kernel_rfl
theorem fc104_o3 : fieldOff Try.prog 104 3 = some 3 := by kernel_rfl
theorem fc104_f3 : fieldT Try.prog 104 3 = some (3, 1, false) := by kernel_rfl
theorem fc104_p3 : placeT Try.prog 104 3 = some (3, 1) := by kernel_rfl
theorem fc105_load : loadT Try.prog 105 = some (4, true) := by kernel_rfl
theorem fc105_size : tySize Try.prog 105 = some 4 := by kernel_rfl
theorem fc105_zero : zeroT Try.prog 105 = some [.int .i64 0, .int .i64 0, .int .i64 0, .int .i64 0] := by kernel_rfl
theorem fc105_eq : eqT Try.prog 105 = some [(0, false), (1, false), (2, false), (3, false)] := by kernel_rfl
theorem fc105_all : allPlaces Try.prog 105 = true := by kernel_rfl
theorem fc105_o0 : fieldOff Try.prog 105 0 = some 0 := by kernel_rfl
theorem fc105_f0 : fieldT Try.prog 105 0 = some (0, 1, false) := by kernel_rfl
theorem fc105_p0 : placeT Try.prog 105 0 = some (0, 1) := by kernel_rfl
theorem fc105_o1 : fieldOff Try.prog 105 1 = some 1 := by kernel_rfl
theorem fc105_f1 : fieldT Try.prog 105 1 = some (1, 1, false) := by kernel_rfl
theorem fc105_p1 : placeT Try.prog 105 1 = some (1, 1) := by kernel_rfl
theorem fc105_o2 : fieldOff Try.prog 105 2 = some 2 := by kernel_rfl
theorem fc105_f2 : fieldT Try.prog 105 2 = some (2, 1, false) := by kernel_rfl
theorem fc105_p2 : placeT Try.prog 105 2 = some (2, 1) := by kernel_rfl
theorem fc105_o3 : fieldOff Try.prog 105 3 = some 3 := by kernel_rfl
theorem fc105_f3 : fieldT Try.prog 105 3 = some (3, 1, false) := by kernel_rfl
theorem fc105_p3 : placeT Try.prog 105 3 = some (3, 1) := by kernel_rfl
theorem fc106_load : loadT Try.prog 106 = some (1, false) := by kernel_rfl
theorem fc106_size : tySize Try.prog 106 = some 1 := by kernel_rfl
theorem fc106_zero : zeroT Try.prog 106 = some [.nilFunc] := by kernel_rfl
theorem fc107_load : loadT Try.prog 107 = some (1, false) := by kernel_rfl
theorem fc107_size : tySize Try.prog 107 = some 1 := by kernel_rfl
theorem fc107_zero : zeroT Try.prog 107 = some [.nilFunc] := by kernel_rfl
theorem fc108_load : loadT Try.prog 108 = some (1, false) := by kernel_rfl
theorem fc108_size : tySize Try.prog 108 = some 1 := by kernel_rfl
theorem fc108_zero : zeroT Try.prog 108 = some [.nilFunc] := by kernel_rfl
theorem fc109_load : loadT Try.prog 109 = some (1, false) := by kernel_rfl
theorem fc109_size : tySize Try.prog 109 = some 1 := by kernel_rfl
theorem fc109_zero : zeroT Try.prog 109 = some [.nilFunc] := by kernel_rfl
theorem fc110_load : loadT Try.prog 110 = some (1, false) := by kernel_rfl
theorem fc110_size : tySize Try.prog 110 = some 1 := by kernel_rfl
theorem fc110_zero : zeroT Try.prog 110 = some [.nilFunc] := by kernel_rfl
theorem fc111_load : loadT Try.prog 111 = some (1, false) := by kernel_rfl
theorem fc111_size : tySize Try.prog 111 = some 1 := by kernel_rfl
theorem fc111_zero : zeroT Try.prog 111 = some [.nilFunc] := by kernel_rfl
theorem fc112_load : loadT Try.prog 112 = some (1, false) := by kernel_rfl
theorem fc112_size : tySize Try.prog 112 = some 1 := by kernel_rfl
theorem fc112_zero : zeroT Try.prog 112 = some [.nilFunc] := by kernel_rfl
theorem fc113_load : loadT Try.prog 113 = some (1, false) := by kernel_rfl
theorem fc113_size : tySize Try.prog 113 = some 1 := by kernel_rfl
theorem fc113_zero : zeroT Try.prog 113 = some [.nilFunc] := by kernel_rfl
theorem fc114_load : loadT Try.prog 114 = some (1, false) := by kernel_rfl
theorem fc114_size : tySize Try.prog 114 = some 1 := by kernel_rfl
theorem fc114_zero : zeroT Try.prog 114 = some [.nilFunc] := by kernel_rfl
theorem fc115_load : loadT Try.prog 115 = some (1, false) := by kernel_rfl
theorem fc115_size : tySize Try.prog 115 = some 1 := by kernel_rfl
theorem fc115_zero : zeroT Try.prog 115 = some [.nilFunc] := by kernel_rfl
theorem fc116_load : loadT Try.prog 116 = some (1, false) := by kernel_rfl
theorem fc116_size : tySize Try.prog 116 = some 1 := by kernel_rfl
theorem fc116_int : intT Try.prog 116 = some .u64 := by kernel_rfl
theorem fc116_isb : isBoolT Try.prog 116 = false := by kernel_rfl
theorem fc116_u : Try.prog.underlying 116 = some (.int .u64) := by kernel_rfl
theorem fc116_zero : zeroT Try.prog 116 = some [.int .u64 0] := by kernel_rfl
theorem fc117_load : loadT Try.prog 117 = some (1, false) := by kernel_rfl
theorem fc117_size : tySize Try.prog 117 = some 1 := by kernel_rfl
theorem fc117_zero : zeroT Try.prog 117 = some [.nilFunc] := by kernel_rfl
theorem fc118_load : loadT Try.prog 118 = some (1, false) := by kernel_rfl
theorem fc118_size : tySize Try.prog 118 = some 1 := by kernel_rfl
theorem fc118_zero : zeroT Try.prog 118 = some [.nilFunc] := by kernel_rfl
theorem fc119_load : loadT Try.prog 119 = some (1, false) := by kernel_rfl
theorem fc119_size : tySize Try.prog 119 = some 1 := by kernel_rfl
theorem fc119_zero : zeroT Try.prog 119 = some [.nilFunc] := by kernel_rfl
theorem fc120_load : loadT Try.prog 120 = some (1, false) := by kernel_rfl
theorem fc120_size : tySize Try.prog 120 = some 1 := by kernel_rfl
theorem fc120_zero : zeroT Try.prog 120 = some [.nilFunc] := by kernel_rfl
theorem fc121_load : loadT Try.prog 121 = some (1, false) := by kernel_rfl
theorem fc121_size : tySize Try.prog 121 = some 1 := by kernel_rfl
theorem fc121_zero : zeroT Try.prog 121 = some [.nilFunc] := by kernel_rfl
theorem fc122_load : loadT Try.prog 122 = some (1, false) := by kernel_rfl
theorem fc122_size : tySize Try.prog 122 = some 1 := by kernel_rfl
theorem fc122_zero : zeroT Try.prog 122 = some [.nilFunc] := by kernel_rfl
theorem fc123_load : loadT Try.prog 123 = some (19, true) := by kernel_rfl
theorem fc123_size : tySize Try.prog 123 = some 19 := by kernel_rfl
theorem fc123_zero : zeroT Try.prog 123 = some [.bool false, .bool false, .bool false, .bool false, .bool false, .bool false, .bool false, .bool false, .bool false, .bool false, .bool false, .bool false, .bool false, .bool false, .bool false, .bool false, .bool false, .bool false, .bool false] := by kernel_rfl
theorem fc123_arr : arrT Try.prog 123 = some (19, 1, false) := by kernel_rfl
theorem fc123_sl : sliceT Try.prog 123 = none := by kernel_rfl
theorem fc123_all : allPlaces Try.prog 123 = true := by kernel_rfl
theorem fc124_load : loadT Try.prog 124 = some (19, true) := by kernel_rfl
theorem fc124_size : tySize Try.prog 124 = some 19 := by kernel_rfl
theorem fc124_zero : zeroT Try.prog 124 = some [.bool false, .bool false, .bool false, .bool false, .bool false, .bool false, .bool false, .bool false, .bool false, .bool false, .bool false, .bool false, .bool false, .bool false, .bool false, .bool false, .bool false, .bool false, .bool false] := by kernel_rfl
theorem fc124_arr : arrT Try.prog 124 = some (19, 1, false) := by kernel_rfl
theorem fc124_sl : sliceT Try.prog 124 = none := by kernel_rfl
theorem fc124_all : allPlaces Try.prog 124 = true := by kernel_rfl
theorem fc125_load : loadT Try.prog 125 = some (1, false) := by kernel_rfl
theorem fc125_size : tySize Try.prog 125 = some 1 := by kernel_rfl
theorem fc125_zero : zeroT Try.prog 125 = some [.nilFunc] := by kernel_rfl
theorem fc126_load : loadT Try.prog 126 = some (1, false) := by kernel_rfl
theorem fc126_size : tySize Try.prog 126 = some 1 := by kernel_rfl
theorem fc126_zero : zeroT Try.prog 126 = some [.nilFunc] := by kernel_rfl
theorem fc127_load : loadT Try.prog 127 = some (1, false) := by kernel_rfl
theorem fc127_size : tySize Try.prog 127 = some 1 := by kernel_rfl
theorem fc127_zero : zeroT Try.prog 127 = some [.nilFunc] := by kernel_rfl
theorem fc128_load : loadT Try.prog 128 = some (1, false) := by kernel_rfl
theorem fc128_size : tySize Try.prog 128 = some 1 := by kernel_rfl
theorem fc128_zero : zeroT Try.prog 128 = some [.nilFunc] := by kernel_rfl
theorem fc129_load : loadT Try.prog 129 = some (1, false) := by kernel_rfl
theorem fc129_size : tySize Try.prog 129 = some 1 := by kernel_rfl
theorem fc129_int : intT Try.prog 129 = some .i64 := by kernel_rfl
theorem fc129_isb : isBoolT Try.prog 129 = false := by kernel_rfl
theorem fc129_u : Try.prog.underlying 129 = some (.int .i64) := by kernel_rfl
theorem fc129_zero : zeroT Try.prog 129 = some [.int .i64 0] := by kernel_rfl
theorem fc131_load : loadT Try.prog 131 = some (1, false) := by kernel_rfl
theorem fc131_size : tySize Try.prog 131 = some 1 := by kernel_rfl
theorem fc131_zero : zeroT Try.prog 131 = some [.nilFunc] := by kernel_rfl
theorem fc132_load : loadT Try.prog 132 = some (1, false) := by kernel_rfl
theorem fc132_size : tySize Try.prog 132 = some 1 := by kernel_rfl
theorem fc132_zero : zeroT Try.prog 132 = some [.nilFunc] := by kernel_rfl
theorem fc133_load : loadT Try.prog 133 = some (1, false) := by kernel_rfl
theorem fc133_size : tySize Try.prog 133 = some 1 := by kernel_rfl
theorem fc133_zero : zeroT Try.prog 133 = some [.nilFunc] := by kernel_rfl
theorem fc134_load : loadT Try.prog 134 = some (1, false) := by kernel_rfl
theorem fc134_size : tySize Try.prog 134 = some 1 := by kernel_rfl
theorem fc134_zero : zeroT Try.prog 134 = some [.nilFunc] := by kernel_rfl
theorem fc135_load : loadT Try.prog 135 = some (1, false) := by kernel_rfl
theorem fc135_size : tySize Try.prog 135 = some 1 := by kernel_rfl
theorem fc135_zero : zeroT Try.prog 135 = some [.nilFunc] := by kernel_rfl
theorem fc136_load : loadT Try.prog 136 = some (1, false) := by kernel_rfl
theorem fc136_size : tySize Try.prog 136 = some 1 := by kernel_rfl
theorem fc136_zero : zeroT Try.prog 136 = some [.nilFunc] := by kernel_rfl
theorem fc137_load : loadT Try.prog 137 = some (1, false) := by kernel_rfl
theorem fc137_size : tySize Try.prog 137 = some 1 := by kernel_rfl
theorem fc137_int : intT Try.prog 137 = some .u32 := by kernel_rfl
theorem fc137_isb : isBoolT Try.prog 137 = false := by kernel_rfl
theorem fc137_u : Try.prog.underlying 137 = some (.int .u32) := by kernel_rfl
theorem fc137_zero : zeroT Try.prog 137 = some [.int .u32 0] := by kernel_rfl
theorem fc138_load : loadT Try.prog 138 = some (1, false) := by kernel_rfl
theorem fc138_size : tySize Try.prog 138 = some 1 := by kernel_rfl
theorem fc138_zero : zeroT Try.prog 138 = some [.nilFunc] := by kernel_rfl
theorem fc139_load : loadT Try.prog 139 = some (1, false) := by kernel_rfl
theorem fc139_size : tySize Try.prog 139 = some 1 := by kernel_rfl
theorem fc139_zero : zeroT Try.prog 139 = some [.nilFunc] := by kernel_rfl
theorem fc140_load : loadT Try.prog 140 = some (1, false) := by kernel_rfl
theorem fc140_size : tySize Try.prog 140 = some 1 := by kernel_rfl
theorem fc140_zero : zeroT Try.prog 140 = some [.nilFunc] := by kernel_rfl
theorem fc141_load : loadT Try.prog 141 = some (1, false) := by kernel_rfl
theorem fc141_size : tySize Try.prog 141 = some 1 := by kernel_rfl
theorem fc141_zero : zeroT Try.prog 141 = some [.nilFunc] := by kernel_rfl
theorem fc142_load : loadT Try.prog 142 = some (1, false) := by kernel_rfl
theorem fc142_size : tySize Try.prog 142 = some 1 := by kernel_rfl
theorem fc142_int : intT Try.prog 142 = some .u64 := by kernel_rfl
theorem fc142_isb : isBoolT Try.prog 142 = false := by kernel_rfl
theorem fc142_u : Try.prog.underlying 142 = some (.int .u64) := by kernel_rfl
theorem fc142_zero : zeroT Try.prog 142 = some [.int .u64 0] := by kernel_rfl
theorem fc143_load : loadT Try.prog 143 = some (1, false) := by kernel_rfl
theorem fc143_size : tySize Try.prog 143 = some 1 := by kernel_rfl
theorem fc143_zero : zeroT Try.prog 143 = some [.nilFunc] := by kernel_rfl
theorem fc144_load : loadT Try.prog 144 = some (1, false) := by kernel_rfl
theorem fc144_size : tySize Try.prog 144 = some 1 := by kernel_rfl
theorem fc144_zero : zeroT Try.prog 144 = some [.nilFunc] := by kernel_rfl
theorem fc145_load : loadT Try.prog 145 = some (1, false) := by kernel_rfl
theorem fc145_size : tySize Try.prog 145 = some 1 := by kernel_rfl
theorem fc145_zero : zeroT Try.prog 145 = some [.nilFunc] := by kernel_rfl
theorem fc146_load : loadT Try.prog 146 = some (1, false) := by kernel_rfl
theorem fc146_size : tySize Try.prog 146 = some 1 := by kernel_rfl
theorem fc146_zero : zeroT Try.prog 146 = some [.pointer none] := by kernel_rfl
theorem fc146_sl : sliceT Try.prog 146 = none := by kernel_rfl
theorem fc147_load : loadT Try.prog 147 = some (1, false) := by kernel_rfl
theorem fc147_size : tySize Try.prog 147 = some 1 := by kernel_rfl
theorem fc147_zero : zeroT Try.prog 147 = some [.nilFunc] := by kernel_rfl
theorem fc148_load : loadT Try.prog 148 = some (1, false) := by kernel_rfl
theorem fc148_size : tySize Try.prog 148 = some 1 := by kernel_rfl
theorem fc148_zero : zeroT Try.prog 148 = some [.pointer none] := by kernel_rfl
theorem fc148_sl : sliceT Try.prog 148 = none := by kernel_rfl
theorem fc149_load : loadT Try.prog 149 = some (1, false) := by kernel_rfl
theorem fc149_size : tySize Try.prog 149 = some 1 := by kernel_rfl
theorem fc149_zero : zeroT Try.prog 149 = some [.nilFunc] := by kernel_rfl
theorem fc150_load : loadT Try.prog 150 = some (1, false) := by kernel_rfl
theorem fc150_size : tySize Try.prog 150 = some 1 := by kernel_rfl
theorem fc150_zero : zeroT Try.prog 150 = some [.nilFunc] := by kernel_rfl
theorem fc151_load : loadT Try.prog 151 = some (4, true) := by kernel_rfl
theorem fc151_size : tySize Try.prog 151 = some 4 := by kernel_rfl
theorem fc151_zero : zeroT Try.prog 151 = some [.pointer none, .pointer none, .pointer none, .string ⟨#[]⟩] := by kernel_rfl
theorem fc151_all : allPlaces Try.prog 151 = true := by kernel_rfl
theorem fc151_o0 : fieldOff Try.prog 151 0 = some 0 := by kernel_rfl
theorem fc151_f0 : fieldT Try.prog 151 0 = some (0, 1, false) := by kernel_rfl
theorem fc151_p0 : placeT Try.prog 151 0 = some (0, 1) := by kernel_rfl
theorem fc151_o1 : fieldOff Try.prog 151 1 = some 1 := by kernel_rfl
theorem fc151_f1 : fieldT Try.prog 151 1 = some (1, 1, false) := by kernel_rfl
theorem fc151_p1 : placeT Try.prog 151 1 = some (1, 1) := by kernel_rfl
theorem fc151_o2 : fieldOff Try.prog 151 2 = some 2 := by kernel_rfl
theorem fc151_f2 : fieldT Try.prog 151 2 = some (2, 1, false) := by kernel_rfl
theorem fc151_p2 : placeT Try.prog 151 2 = some (2, 1) := by kernel_rfl
theorem fc151_o3 : fieldOff Try.prog 151 3 = some 3 := by kernel_rfl
theorem fc151_f3 : fieldT Try.prog 151 3 = some (3, 1, false) := by kernel_rfl
theorem fc151_p3 : placeT Try.prog 151 3 = some (3, 1) := by kernel_rfl
theorem fc152_load : loadT Try.prog 152 = some (4, true) := by kernel_rfl
theorem fc152_size : tySize Try.prog 152 = some 4 := by kernel_rfl
theorem fc152_zero : zeroT Try.prog 152 = some [.pointer none, .pointer none, .pointer none, .string ⟨#[]⟩] := by kernel_rfl
theorem fc152_all : allPlaces Try.prog 152 = true := by kernel_rfl
theorem fc152_o0 : fieldOff Try.prog 152 0 = some 0 := by kernel_rfl
theorem fc152_f0 : fieldT Try.prog 152 0 = some (0, 1, false) := by kernel_rfl
theorem fc152_p0 : placeT Try.prog 152 0 = some (0, 1) := by kernel_rfl
theorem fc152_o1 : fieldOff Try.prog 152 1 = some 1 := by kernel_rfl
theorem fc152_f1 : fieldT Try.prog 152 1 = some (1, 1, false) := by kernel_rfl
theorem fc152_p1 : placeT Try.prog 152 1 = some (1, 1) := by kernel_rfl
theorem fc152_o2 : fieldOff Try.prog 152 2 = some 2 := by kernel_rfl
theorem fc152_f2 : fieldT Try.prog 152 2 = some (2, 1, false) := by kernel_rfl
theorem fc152_p2 : placeT Try.prog 152 2 = some (2, 1) := by kernel_rfl
theorem fc152_o3 : fieldOff Try.prog 152 3 = some 3 := by kernel_rfl
theorem fc152_f3 : fieldT Try.prog 152 3 = some (3, 1, false) := by kernel_rfl
theorem fc152_p3 : placeT Try.prog 152 3 = some (3, 1) := by kernel_rfl
theorem fc153_load : loadT Try.prog 153 = some (0, true) := by kernel_rfl
theorem fc153_size : tySize Try.prog 153 = some 0 := by kernel_rfl
theorem fc153_zero : zeroT Try.prog 153 = some [] := by kernel_rfl
theorem fc153_arr : arrT Try.prog 153 = some (0, 1, false) := by kernel_rfl
theorem fc153_sl : sliceT Try.prog 153 = none := by kernel_rfl
theorem fc153_all : allPlaces Try.prog 153 = true := by kernel_rfl
theorem fc154_load : loadT Try.prog 154 = some (0, true) := by kernel_rfl
theorem fc154_size : tySize Try.prog 154 = some 0 := by kernel_rfl
theorem fc154_zero : zeroT Try.prog 154 = some [] := by kernel_rfl
theorem fc154_all : allPlaces Try.prog 154 = true := by kernel_rfl
theorem fc154_f0 : fieldT Try.prog 154 0 = some (0, 0, true) := by kernel_rfl
theorem fc154_p0 : placeT Try.prog 154 0 = some (0, 0) := by kernel_rfl
theorem fc155_load : loadT Try.prog 155 = some (0, true) := by kernel_rfl
theorem fc155_size : tySize Try.prog 155 = some 0 := by kernel_rfl
theorem fc155_zero : zeroT Try.prog 155 = some [] := by kernel_rfl
theorem fc155_all : allPlaces Try.prog 155 = true := by kernel_rfl
theorem fc155_f0 : fieldT Try.prog 155 0 = some (0, 0, true) := by kernel_rfl
theorem fc155_p0 : placeT Try.prog 155 0 = some (0, 0) := by kernel_rfl
theorem fc156_load : loadT Try.prog 156 = some (1, false) := by kernel_rfl
theorem fc156_size : tySize Try.prog 156 = some 1 := by kernel_rfl
theorem fc156_int : intT Try.prog 156 = some .u8 := by kernel_rfl
theorem fc156_isb : isBoolT Try.prog 156 = false := by kernel_rfl
theorem fc156_u : Try.prog.underlying 156 = some (.int .u8) := by kernel_rfl
theorem fc156_zero : zeroT Try.prog 156 = some [.int .u8 0] := by kernel_rfl
theorem fc157_load : loadT Try.prog 157 = some (1, false) := by kernel_rfl
theorem fc157_size : tySize Try.prog 157 = some 1 := by kernel_rfl
theorem fc157_int : intT Try.prog 157 = some .u8 := by kernel_rfl
theorem fc157_isb : isBoolT Try.prog 157 = false := by kernel_rfl
theorem fc157_u : Try.prog.underlying 157 = some (.int .u8) := by kernel_rfl
theorem fc157_zero : zeroT Try.prog 157 = some [.int .u8 0] := by kernel_rfl
theorem fc158_load : loadT Try.prog 158 = some (1, false) := by kernel_rfl
theorem fc158_size : tySize Try.prog 158 = some 1 := by kernel_rfl
theorem fc158_zero : zeroT Try.prog 158 = some [.nilFunc] := by kernel_rfl
theorem fc159_load : loadT Try.prog 159 = some (1, false) := by kernel_rfl
theorem fc159_size : tySize Try.prog 159 = some 1 := by kernel_rfl
theorem fc159_zero : zeroT Try.prog 159 = some [.pointer none] := by kernel_rfl
theorem fc159_sl : sliceT Try.prog 159 = none := by kernel_rfl
theorem fc160_load : loadT Try.prog 160 = some (1, false) := by kernel_rfl
theorem fc160_size : tySize Try.prog 160 = some 1 := by kernel_rfl
theorem fc160_int : intT Try.prog 160 = some .i32 := by kernel_rfl
theorem fc160_isb : isBoolT Try.prog 160 = false := by kernel_rfl
theorem fc160_u : Try.prog.underlying 160 = some (.int .i32) := by kernel_rfl
theorem fc160_zero : zeroT Try.prog 160 = some [.int .i32 0] := by kernel_rfl
theorem fc161_load : loadT Try.prog 161 = some (1, false) := by kernel_rfl
theorem fc161_size : tySize Try.prog 161 = some 1 := by kernel_rfl
theorem fc161_int : intT Try.prog 161 = some .i32 := by kernel_rfl
theorem fc161_isb : isBoolT Try.prog 161 = false := by kernel_rfl
theorem fc161_u : Try.prog.underlying 161 = some (.int .i32) := by kernel_rfl
theorem fc161_zero : zeroT Try.prog 161 = some [.int .i32 0] := by kernel_rfl
theorem fc162_load : loadT Try.prog 162 = some (11, true) := by kernel_rfl
theorem fc162_size : tySize Try.prog 162 = some 11 := by kernel_rfl
theorem fc162_zero : zeroT Try.prog 162 = some [.int .u64 0, .int .u64 0, .int .u32 0, .int .u8 0, .int .u8 0, .int .u8 0, .int .u8 0, .nilFunc, .pointer none, .int .i32 0, .int .i32 0] := by kernel_rfl
theorem fc162_all : allPlaces Try.prog 162 = true := by kernel_rfl
theorem fc162_o0 : fieldOff Try.prog 162 0 = some 0 := by kernel_rfl
theorem fc162_f0 : fieldT Try.prog 162 0 = some (0, 1, false) := by kernel_rfl
theorem fc162_p0 : placeT Try.prog 162 0 = some (0, 1) := by kernel_rfl
theorem fc162_o1 : fieldOff Try.prog 162 1 = some 1 := by kernel_rfl
theorem fc162_f1 : fieldT Try.prog 162 1 = some (1, 1, false) := by kernel_rfl
theorem fc162_p1 : placeT Try.prog 162 1 = some (1, 1) := by kernel_rfl
theorem fc162_o2 : fieldOff Try.prog 162 2 = some 2 := by kernel_rfl
theorem fc162_f2 : fieldT Try.prog 162 2 = some (2, 1, false) := by kernel_rfl
theorem fc162_p2 : placeT Try.prog 162 2 = some (2, 1) := by kernel_rfl
theorem fc162_o3 : fieldOff Try.prog 162 3 = some 3 := by kernel_rfl
theorem fc162_f3 : fieldT Try.prog 162 3 = some (3, 1, false) := by kernel_rfl
theorem fc162_p3 : placeT Try.prog 162 3 = some (3, 1) := by kernel_rfl
theorem fc162_o4 : fieldOff Try.prog 162 4 = some 4 := by kernel_rfl
theorem fc162_f4 : fieldT Try.prog 162 4 = some (4, 1, false) := by kernel_rfl
theorem fc162_p4 : placeT Try.prog 162 4 = some (4, 1) := by kernel_rfl
theorem fc162_o5 : fieldOff Try.prog 162 5 = some 5 := by kernel_rfl
theorem fc162_f5 : fieldT Try.prog 162 5 = some (5, 1, false) := by kernel_rfl
theorem fc162_p5 : placeT Try.prog 162 5 = some (5, 1) := by kernel_rfl
theorem fc162_o6 : fieldOff Try.prog 162 6 = some 6 := by kernel_rfl
theorem fc162_f6 : fieldT Try.prog 162 6 = some (6, 1, false) := by kernel_rfl
theorem fc162_p6 : placeT Try.prog 162 6 = some (6, 1) := by kernel_rfl
theorem fc162_o7 : fieldOff Try.prog 162 7 = some 7 := by kernel_rfl
theorem fc162_f7 : fieldT Try.prog 162 7 = some (7, 1, false) := by kernel_rfl
theorem fc162_p7 : placeT Try.prog 162 7 = some (7, 1) := by kernel_rfl
theorem fc162_o8 : fieldOff Try.prog 162 8 = some 8 := by kernel_rfl
theorem fc162_f8 : fieldT Try.prog 162 8 = some (8, 1, false) := by kernel_rfl
theorem fc162_p8 : placeT Try.prog 162 8 = some (8, 1) := by kernel_rfl
theorem fc162_o9 : fieldOff Try.prog 162 9 = some 9 := by kernel_rfl
theorem fc162_f9 : fieldT Try.prog 162 9 = some (9, 1, false) := by kernel_rfl
theorem fc162_p9 : placeT Try.prog 162 9 = some (9, 1) := by kernel_rfl
theorem fc162_o10 : fieldOff Try.prog 162 10 = some 10 := by kernel_rfl
theorem fc162_f10 : fieldT Try.prog 162 10 = some (10, 1, false) := by kernel_rfl
theorem fc162_p10 : placeT Try.prog 162 10 = some (10, 1) := by kernel_rfl
theorem fc163_load : loadT Try.prog 163 = some (11, true) := by kernel_rfl
theorem fc163_size : tySize Try.prog 163 = some 11 := by kernel_rfl
theorem fc163_zero : zeroT Try.prog 163 = some [.int .u64 0, .int .u64 0, .int .u32 0, .int .u8 0, .int .u8 0, .int .u8 0, .int .u8 0, .nilFunc, .pointer none, .int .i32 0, .int .i32 0] := by kernel_rfl
theorem fc163_all : allPlaces Try.prog 163 = true := by kernel_rfl
theorem fc163_o0 : fieldOff Try.prog 163 0 = some 0 := by kernel_rfl
theorem fc163_f0 : fieldT Try.prog 163 0 = some (0, 1, false) := by kernel_rfl
theorem fc163_p0 : placeT Try.prog 163 0 = some (0, 1) := by kernel_rfl
theorem fc163_o1 : fieldOff Try.prog 163 1 = some 1 := by kernel_rfl
theorem fc163_f1 : fieldT Try.prog 163 1 = some (1, 1, false) := by kernel_rfl
theorem fc163_p1 : placeT Try.prog 163 1 = some (1, 1) := by kernel_rfl
theorem fc163_o2 : fieldOff Try.prog 163 2 = some 2 := by kernel_rfl
theorem fc163_f2 : fieldT Try.prog 163 2 = some (2, 1, false) := by kernel_rfl
theorem fc163_p2 : placeT Try.prog 163 2 = some (2, 1) := by kernel_rfl
theorem fc163_o3 : fieldOff Try.prog 163 3 = some 3 := by kernel_rfl
theorem fc163_f3 : fieldT Try.prog 163 3 = some (3, 1, false) := by kernel_rfl
theorem fc163_p3 : placeT Try.prog 163 3 = some (3, 1) := by kernel_rfl
theorem fc163_o4 : fieldOff Try.prog 163 4 = some 4 := by kernel_rfl
theorem fc163_f4 : fieldT Try.prog 163 4 = some (4, 1, false) := by kernel_rfl
theorem fc163_p4 : placeT Try.prog 163 4 = some (4, 1) := by kernel_rfl
theorem fc163_o5 : fieldOff Try.prog 163 5 = some 5 := by kernel_rfl
theorem fc163_f5 : fieldT Try.prog 163 5 = some (5, 1, false) := by kernel_rfl
theorem fc163_p5 : placeT Try.prog 163 5 = some (5, 1) := by kernel_rfl
theorem fc163_o6 : fieldOff Try.prog 163 6 = some 6 := by kernel_rfl
theorem fc163_f6 : fieldT Try.prog 163 6 = some (6, 1, false) := by kernel_rfl
theorem fc163_p6 : placeT Try.prog 163 6 = some (6, 1) := by kernel_rfl
theorem fc163_o7 : fieldOff Try.prog 163 7 = some 7 := by kernel_rfl
theorem fc163_f7 : fieldT Try.prog 163 7 = some (7, 1, false) := by kernel_rfl
theorem fc163_p7 : placeT Try.prog 163 7 = some (7, 1) := by kernel_rfl
theorem fc163_o8 : fieldOff Try.prog 163 8 = some 8 := by kernel_rfl
theorem fc163_f8 : fieldT Try.prog 163 8 = some (8, 1, false) := by kernel_rfl
theorem fc163_p8 : placeT Try.prog 163 8 = some (8, 1) := by kernel_rfl
theorem fc163_o9 : fieldOff Try.prog 163 9 = some 9 := by kernel_rfl
theorem fc163_f9 : fieldT Try.prog 163 9 = some (9, 1, false) := by kernel_rfl
theorem fc163_p9 : placeT Try.prog 163 9 = some (9, 1) := by kernel_rfl
theorem fc163_o10 : fieldOff Try.prog 163 10 = some 10 := by kernel_rfl
theorem fc163_f10 : fieldT Try.prog 163 10 = some (10, 1, false) := by kernel_rfl
theorem fc163_p10 : placeT Try.prog 163 10 = some (10, 1) := by kernel_rfl
attribute [go_sem] fc1_load fc1_size fc1_zero fc2_load fc2_size fc2_int fc2_isb fc2_u fc2_zero fc3_load fc3_size fc3_int fc3_isb fc3_u fc3_zero fc4_load fc4_size fc4_isb fc4_zero fc5_load fc5_size fc5_int fc5_isb fc5_u fc5_zero fc6_load fc6_size fc6_int fc6_isb fc6_u fc6_zero fc7_load fc7_size fc7_zero fc7_eq fc7_all fc7_o0 fc7_f0 fc7_p0 fc7_o1 fc7_f1 fc7_p1 fc7_o2 fc7_f2 fc7_p2 fc7_o3 fc7_f3 fc7_p3 fc8_load fc8_size fc8_zero fc8_eq fc8_all fc8_o0 fc8_f0 fc8_p0 fc8_o1 fc8_f1 fc8_p1 fc8_o2 fc8_f2 fc8_p2 fc8_o3 fc8_f3 fc8_p3 fc9_load fc9_size fc9_iss fc9_zero fc10_load fc10_size fc10_iss fc10_zero fc11_load fc11_size fc11_iss fc11_zero fc12_load fc12_size fc12_int fc12_isb fc12_u fc12_zero fc13_load fc13_size fc13_zero fc13_all fc13_o0 fc13_f0 fc13_p0 fc13_o1 fc13_f1 fc13_p1 fc14_load fc14_size fc14_zero fc14_all fc14_o0 fc14_f0 fc14_p0 fc14_o1 fc14_f1 fc14_p1 fc15_load fc15_size fc15_zero fc15_sl fc16_load fc16_size fc16_zero fc16_sl fc17_load fc17_size fc17_zero fc17_sl fc18_load fc18_size fc18_zero fc18_all fc18_o0 fc18_f0 fc18_p0 fc19_load fc19_size fc19_zero fc19_all fc19_o0 fc19_f0 fc19_p0 fc21_load fc21_size fc21_int fc21_isb fc21_u fc21_zero fc22_load fc22_size fc22_zero fc22_sl fc22_arr fc22_app fc22_z1 fc22_clear fc22_byt fc23_load fc23_size fc23_zero fc24_load fc24_size fc24_zero fc24_sl fc24_arr fc24_app fc24_z1 fc24_clear fc24_byt fc25_load fc25_size fc25_zero fc25_all fc25_o0 fc25_f0 fc25_p0 fc25_o1 fc25_f1 fc25_p1 fc25_o2 fc25_f2 fc25_p2 fc26_load fc26_size fc26_zero fc26_all fc26_o0 fc26_f0 fc26_p0 fc26_o1 fc26_f1 fc26_p1 fc26_o2 fc26_f2 fc26_p2 fc28_load fc28_size fc28_zero fc30_load fc30_size fc30_zero fc32_load fc32_size fc32_zero fc33_load fc33_size fc33_zero fc35_load fc35_size fc35_zero fc36_load fc36_size fc36_zero fc37_load fc37_size fc37_zero fc37_sl fc37_arr fc37_app fc37_z1 fc37_clear fc37_byt fc38_load fc38_size fc38_zero fc39_load fc39_size fc39_zero fc40_load fc40_size fc40_zero fc42_load fc42_size fc42_zero fc43_load fc43_size fc43_zero fc44_load fc44_size fc44_zero fc44_sl fc44_arr fc44_app fc44_z1 fc44_clear fc44_byt fc45_load fc45_size fc45_zero fc45_all fc45_o0 fc45_f0 fc45_p0 fc45_o1 fc45_f1 fc45_p1 fc46_load fc46_size fc46_zero fc46_all fc46_o0 fc46_f0 fc46_p0 fc46_o1 fc46_f1 fc46_p1 fc47_load fc47_size fc47_zero fc47_sl fc47_arr fc47_app fc47_z1 fc47_clear fc47_byt fc49_load fc49_size fc49_zero fc50_load fc50_size fc50_zero fc50_sl fc50_arr fc50_app fc50_z1 fc50_clear fc50_byt fc52_load fc52_size fc52_zero fc53_load fc53_size fc53_zero fc54_load fc54_size fc54_zero fc55_load fc55_size fc55_zero fc57_load fc57_size fc57_zero fc59_load fc59_size fc59_zero fc60_load fc60_size fc60_zero fc60_sl fc61_load fc61_size fc61_int fc61_isb fc61_u fc61_zero fc62_load fc62_size fc62_zero fc62_all fc62_o0 fc62_f0 fc62_p0 fc62_o1 fc62_f1 fc62_p1 fc62_o2 fc62_f2 fc62_p2 fc63_load fc63_size fc63_zero fc63_all fc63_o0 fc63_f0 fc63_p0 fc63_o1 fc63_f1 fc63_p1 fc63_o2 fc63_f2 fc63_p2 fc64_load fc64_size fc64_zero fc65_load fc65_size fc65_zero fc66_load fc66_size fc66_zero fc67_load fc67_size fc67_zero fc69_load fc69_size fc69_zero fc70_load fc70_size fc70_zero fc71_load fc71_size fc71_zero fc72_load fc72_size fc72_zero fc73_load fc73_size fc73_zero fc74_load fc74_size fc74_zero fc75_load fc75_size fc75_zero fc76_load fc76_size fc76_zero fc77_load fc77_size fc77_zero fc79_load fc79_size fc79_zero fc80_load fc80_size fc80_zero fc81_load fc81_size fc81_zero fc82_load fc82_size fc82_zero fc82_sl fc83_load fc83_size fc83_zero fc84_load fc84_size fc84_zero fc85_load fc85_size fc85_zero fc86_load fc86_size fc86_zero fc87_load fc87_size fc87_zero fc88_load fc88_size fc88_zero fc89_load fc89_size fc89_zero fc90_load fc90_size fc90_zero fc91_load fc91_size fc91_zero fc91_eq fc91_all fc91_o0 fc91_f0 fc91_p0 fc91_o1 fc91_f1 fc91_p1 fc91_o2 fc91_f2 fc91_p2 fc91_o3 fc91_f3 fc91_p3 fc92_load fc92_size fc92_zero fc92_eq fc92_all fc92_o0 fc92_f0 fc92_p0 fc92_o1 fc92_f1 fc92_p1 fc92_o2 fc92_f2 fc92_p2 fc92_o3 fc92_f3 fc92_p3 fc93_load fc93_size fc93_zero fc94_load fc94_size fc94_zero fc95_load fc95_size fc95_zero fc96_load fc96_size fc96_zero fc97_load fc97_size fc97_zero fc98_load fc98_size fc98_zero fc99_load fc99_size fc99_zero fc100_load fc100_size fc100_zero fc101_load fc101_size fc101_zero fc102_load fc102_size fc102_zero fc103_load fc103_size fc103_zero fc104_load fc104_size fc104_zero fc104_eq fc104_all fc104_o0 fc104_f0 fc104_p0 fc104_o1 fc104_f1 fc104_p1 fc104_o2 fc104_f2 fc104_p2 fc104_o3 fc104_f3 fc104_p3 fc105_load fc105_size fc105_zero fc105_eq fc105_all fc105_o0 fc105_f0 fc105_p0 fc105_o1 fc105_f1 fc105_p1 fc105_o2 fc105_f2 fc105_p2 fc105_o3 fc105_f3 fc105_p3 fc106_load fc106_size fc106_zero fc107_load fc107_size fc107_zero fc108_load fc108_size fc108_zero fc109_load fc109_size fc109_zero fc110_load fc110_size fc110_zero fc111_load fc111_size fc111_zero fc112_load fc112_size fc112_zero fc113_load fc113_size fc113_zero fc114_load fc114_size fc114_zero fc115_load fc115_size fc115_zero fc116_load fc116_size fc116_int fc116_isb fc116_u fc116_zero fc117_load fc117_size fc117_zero fc118_load fc118_size fc118_zero fc119_load fc119_size fc119_zero fc120_load fc120_size fc120_zero fc121_load fc121_size fc121_zero fc122_load fc122_size fc122_zero fc123_load fc123_size fc123_zero fc123_arr fc123_sl fc123_all fc124_load fc124_size fc124_zero fc124_arr fc124_sl fc124_all fc125_load fc125_size fc125_zero fc126_load fc126_size fc126_zero fc127_load fc127_size fc127_zero fc128_load fc128_size fc128_zero fc129_load fc129_size fc129_int fc129_isb fc129_u fc129_zero fc131_load fc131_size fc131_zero fc132_load fc132_size fc132_zero fc133_load fc133_size fc133_zero fc134_load fc134_size fc134_zero fc135_load fc135_size fc135_zero fc136_load fc136_size fc136_zero fc137_load fc137_size fc137_int fc137_isb fc137_u fc137_zero fc138_load fc138_size fc138_zero fc139_load fc139_size fc139_zero fc140_load fc140_size fc140_zero fc141_load fc141_size fc141_zero fc142_load fc142_size fc142_int fc142_isb fc142_u fc142_zero fc143_load fc143_size fc143_zero fc144_load fc144_size fc144_zero fc145_load fc145_size fc145_zero fc146_load fc146_size fc146_zero fc146_sl fc147_load fc147_size fc147_zero fc148_load fc148_size fc148_zero fc148_sl fc149_load fc149_size fc149_zero fc150_load fc150_size fc150_zero fc151_load fc151_size fc151_zero fc151_all fc151_o0 fc151_f0 fc151_p0 fc151_o1 fc151_f1 fc151_p1 fc151_o2 fc151_f2 fc151_p2 fc151_o3 fc151_f3 fc151_p3 fc152_load fc152_size fc152_zero fc152_all fc152_o0 fc152_f0 fc152_p0 fc152_o1 fc152_f1 fc152_p1 fc152_o2 fc152_f2 fc152_p2 fc152_o3 fc152_f3 fc152_p3 fc153_load fc153_size fc153_zero fc153_arr fc153_sl fc153_all fc154_load fc154_size fc154_zero fc154_all fc154_f0 fc154_p0 fc155_load fc155_size fc155_zero fc155_all fc155_f0 fc155_p0 fc156_load fc156_size fc156_int fc156_isb fc156_u fc156_zero fc157_load fc157_size fc157_int fc157_isb fc157_u fc157_zero fc158_load fc158_size fc158_zero fc159_load fc159_size fc159_zero fc159_sl fc160_load fc160_size fc160_int fc160_isb fc160_u fc160_zero fc161_load fc161_size fc161_int fc161_isb fc161_u fc161_zero fc162_load fc162_size fc162_zero fc162_all fc162_o0 fc162_f0 fc162_p0 fc162_o1 fc162_f1 fc162_p1 fc162_o2 fc162_f2 fc162_p2 fc162_o3 fc162_f3 fc162_p3 fc162_o4 fc162_f4 fc162_p4 fc162_o5 fc162_f5 fc162_p5 fc162_o6 fc162_f6 fc162_p6 fc162_o7 fc162_f7 fc162_p7 fc162_o8 fc162_f8 fc162_p8 fc162_o9 fc162_f9 fc162_p9 fc162_o10 fc162_f10 fc162_p10 fc163_load fc163_size fc163_zero fc163_all fc163_o0 fc163_f0 fc163_p0 fc163_o1 fc163_f1 fc163_p1 fc163_o2 fc163_f2 fc163_p2 fc163_o3 fc163_f3 fc163_p3 fc163_o4 fc163_f4 fc163_p4 fc163_o5 fc163_f5 fc163_p5 fc163_o6 fc163_f6 fc163_p6 fc163_o7 fc163_f7 fc163_p7 fc163_o8 fc163_f8 fc163_p8 fc163_o9 fc163_f9 fc163_p9 fc163_o10 fc163_f10 fc163_p10
end Go.Proofs.Ytncblopbcnkinaa
