/- The closed facts on the types of this seat's program, each by the kernel. Written by program. -/
import Derived.Test.YtokafhinmakdnaaAm10
import Derived.Test.YtokafhinmakdnaaRows
namespace Go.Proofs.Ytokafhinmakdnaa
open Go.Am
theorem fc1_load : loadT Try.prog 1 = some (1, false) := by kernel_rfl
theorem fc1_size : tySize Try.prog 1 = some 1 := by kernel_rfl
theorem fc1_zero : zeroT Try.prog 1 = some [.nilFunc] := by kernel_rfl
theorem fc2_load : loadT Try.prog 2 = some (1, false) := by kernel_rfl
theorem fc2_size : tySize Try.prog 2 = some 1 := by kernel_rfl
theorem fc2_int : intT Try.prog 2 = some .i64 := by kernel_rfl
theorem fc2_isb : isBoolT Try.prog 2 = false := by kernel_rfl
theorem fc2_u : Try.prog.underlying 2 = some (.int .i64) := by kernel_rfl
theorem fc2_zero : zeroT Try.prog 2 = some [.int .i64 0] := by kernel_rfl
theorem fc3_load : loadT Try.prog 3 = some (1, false) := by kernel_rfl
theorem fc3_size : tySize Try.prog 3 = some 1 := by kernel_rfl
theorem fc3_int : intT Try.prog 3 = some .i64 := by kernel_rfl
theorem fc3_isb : isBoolT Try.prog 3 = false := by kernel_rfl
theorem fc3_u : Try.prog.underlying 3 = some (.int .i64) := by kernel_rfl
theorem fc3_zero : zeroT Try.prog 3 = some [.int .i64 0] := by kernel_rfl
theorem fc4_load : loadT Try.prog 4 = some (1, false) := by kernel_rfl
theorem fc4_size : tySize Try.prog 4 = some 1 := by kernel_rfl
theorem fc4_isb : isBoolT Try.prog 4 = true := by kernel_rfl
theorem fc4_zero : zeroT Try.prog 4 = some [.bool false] := by kernel_rfl
theorem fc5_load : loadT Try.prog 5 = some (1, false) := by kernel_rfl
theorem fc5_size : tySize Try.prog 5 = some 1 := by kernel_rfl
theorem fc5_int : intT Try.prog 5 = some .u8 := by kernel_rfl
theorem fc5_isb : isBoolT Try.prog 5 = false := by kernel_rfl
theorem fc5_u : Try.prog.underlying 5 = some (.int .u8) := by kernel_rfl
theorem fc5_zero : zeroT Try.prog 5 = some [.int .u8 0] := by kernel_rfl
theorem fc6_load : loadT Try.prog 6 = some (1, false) := by kernel_rfl
theorem fc6_size : tySize Try.prog 6 = some 1 := by kernel_rfl
theorem fc6_int : intT Try.prog 6 = some .u8 := by kernel_rfl
theorem fc6_isb : isBoolT Try.prog 6 = false := by kernel_rfl
theorem fc6_u : Try.prog.underlying 6 = some (.int .u8) := by kernel_rfl
theorem fc6_zero : zeroT Try.prog 6 = some [.int .u8 0] := by kernel_rfl
theorem fc7_load : loadT Try.prog 7 = some (4, true) := by kernel_rfl
theorem fc7_size : tySize Try.prog 7 = some 4 := by kernel_rfl
theorem fc7_zero : zeroT Try.prog 7 = some [.int .i64 0, .int .i64 0, .bool false, .int .u8 0] := by kernel_rfl
theorem fc7_eq : eqT Try.prog 7 = some [(0, false), (1, false), (2, true), (3, false)] := by kernel_rfl
theorem fc7_all : allPlaces Try.prog 7 = true := by kernel_rfl
theorem fc7_o0 : fieldOff Try.prog 7 0 = some 0 := by kernel_rfl
theorem fc7_f0 : fieldT Try.prog 7 0 = some (0, 1, false) := by kernel_rfl
theorem fc7_p0 : placeT Try.prog 7 0 = some (0, 1) := by kernel_rfl
theorem fc7_o1 : fieldOff Try.prog 7 1 = some 1 := by kernel_rfl
theorem fc7_f1 : fieldT Try.prog 7 1 = some (1, 1, false) := by kernel_rfl
theorem fc7_p1 : placeT Try.prog 7 1 = some (1, 1) := by kernel_rfl
theorem fc7_o2 : fieldOff Try.prog 7 2 = some 2 := by kernel_rfl
theorem fc7_f2 : fieldT Try.prog 7 2 = some (2, 1, false) := by kernel_rfl
theorem fc7_p2 : placeT Try.prog 7 2 = some (2, 1) := by kernel_rfl
theorem fc7_o3 : fieldOff Try.prog 7 3 = some 3 := by kernel_rfl
theorem fc7_f3 : fieldT Try.prog 7 3 = some (3, 1, false) := by kernel_rfl
theorem fc7_p3 : placeT Try.prog 7 3 = some (3, 1) := by kernel_rfl
theorem fc8_load : loadT Try.prog 8 = some (4, true) := by kernel_rfl
theorem fc8_size : tySize Try.prog 8 = some 4 := by kernel_rfl
theorem fc8_zero : zeroT Try.prog 8 = some [.int .i64 0, .int .i64 0, .bool false, .int .u8 0] := by kernel_rfl
theorem fc8_eq : eqT Try.prog 8 = some [(0, false), (1, false), (2, true), (3, false)] := by kernel_rfl
theorem fc8_all : allPlaces Try.prog 8 = true := by kernel_rfl
theorem fc8_o0 : fieldOff Try.prog 8 0 = some 0 := by kernel_rfl
theorem fc8_f0 : fieldT Try.prog 8 0 = some (0, 1, false) := by kernel_rfl
theorem fc8_p0 : placeT Try.prog 8 0 = some (0, 1) := by kernel_rfl
theorem fc8_o1 : fieldOff Try.prog 8 1 = some 1 := by kernel_rfl
theorem fc8_f1 : fieldT Try.prog 8 1 = some (1, 1, false) := by kernel_rfl
theorem fc8_p1 : placeT Try.prog 8 1 = some (1, 1) := by kernel_rfl
theorem fc8_o2 : fieldOff Try.prog 8 2 = some 2 := by kernel_rfl
theorem fc8_f2 : fieldT Try.prog 8 2 = some (2, 1, false) := by kernel_rfl
theorem fc8_p2 : placeT Try.prog 8 2 = some (2, 1) := by kernel_rfl
theorem fc8_o3 : fieldOff Try.prog 8 3 = some 3 := by kernel_rfl
theorem fc8_f3 : fieldT Try.prog 8 3 = some (3, 1, false) := by kernel_rfl
theorem fc8_p3 : placeT Try.prog 8 3 = some (3, 1) := by kernel_rfl
theorem fc9_load : loadT Try.prog 9 = some (1, false) := by kernel_rfl
theorem fc9_size : tySize Try.prog 9 = some 1 := by kernel_rfl
theorem fc9_iss : isStrT Try.prog 9 = true := by kernel_rfl
theorem fc9_zero : zeroT Try.prog 9 = some [.string ⟨#[]⟩] := by kernel_rfl
theorem fc10_load : loadT Try.prog 10 = some (1, false) := by kernel_rfl
theorem fc10_size : tySize Try.prog 10 = some 1 := by kernel_rfl
theorem fc10_iss : isStrT Try.prog 10 = true := by kernel_rfl
theorem fc10_zero : zeroT Try.prog 10 = some [.string ⟨#[]⟩] := by kernel_rfl
theorem fc11_load : loadT Try.prog 11 = some (1, false) := by kernel_rfl
theorem fc11_size : tySize Try.prog 11 = some 1 := by kernel_rfl
theorem fc11_iss : isStrT Try.prog 11 = true := by kernel_rfl
theorem fc11_zero : zeroT Try.prog 11 = some [.string ⟨#[]⟩] := by kernel_rfl
theorem fc12_load : loadT Try.prog 12 = some (1, false) := by kernel_rfl
theorem fc12_size : tySize Try.prog 12 = some 1 := by kernel_rfl
theorem fc12_int : intT Try.prog 12 = some .u64 := by kernel_rfl
theorem fc12_isb : isBoolT Try.prog 12 = false := by kernel_rfl
theorem fc12_u : Try.prog.underlying 12 = some (.int .u64) := by kernel_rfl
theorem fc12_zero : zeroT Try.prog 12 = some [.int .u64 0] := by kernel_rfl
theorem fc13_load : loadT Try.prog 13 = some (2, true) := by kernel_rfl
theorem fc13_size : tySize Try.prog 13 = some 2 := by kernel_rfl
theorem fc13_zero : zeroT Try.prog 13 = some [.string ⟨#[]⟩, .int .u64 0] := by kernel_rfl
theorem fc13_all : allPlaces Try.prog 13 = true := by kernel_rfl
theorem fc13_o0 : fieldOff Try.prog 13 0 = some 0 := by kernel_rfl
theorem fc13_f0 : fieldT Try.prog 13 0 = some (0, 1, false) := by kernel_rfl
theorem fc13_p0 : placeT Try.prog 13 0 = some (0, 1) := by kernel_rfl
theorem fc13_o1 : fieldOff Try.prog 13 1 = some 1 := by kernel_rfl
theorem fc13_f1 : fieldT Try.prog 13 1 = some (1, 1, false) := by kernel_rfl
theorem fc13_p1 : placeT Try.prog 13 1 = some (1, 1) := by kernel_rfl
theorem fc14_load : loadT Try.prog 14 = some (2, true) := by kernel_rfl
theorem fc14_size : tySize Try.prog 14 = some 2 := by kernel_rfl
theorem fc14_zero : zeroT Try.prog 14 = some [.string ⟨#[]⟩, .int .u64 0] := by kernel_rfl
theorem fc14_all : allPlaces Try.prog 14 = true := by kernel_rfl
theorem fc14_o0 : fieldOff Try.prog 14 0 = some 0 := by kernel_rfl
theorem fc14_f0 : fieldT Try.prog 14 0 = some (0, 1, false) := by kernel_rfl
theorem fc14_p0 : placeT Try.prog 14 0 = some (0, 1) := by kernel_rfl
theorem fc14_o1 : fieldOff Try.prog 14 1 = some 1 := by kernel_rfl
theorem fc14_f1 : fieldT Try.prog 14 1 = some (1, 1, false) := by kernel_rfl
theorem fc14_p1 : placeT Try.prog 14 1 = some (1, 1) := by kernel_rfl
theorem fc15_load : loadT Try.prog 15 = some (1, false) := by kernel_rfl
theorem fc15_size : tySize Try.prog 15 = some 1 := by kernel_rfl
theorem fc15_zero : zeroT Try.prog 15 = some [.pointer none] := by kernel_rfl
theorem fc15_sl : sliceT Try.prog 15 = none := by kernel_rfl
theorem fc16_load : loadT Try.prog 16 = some (1, false) := by kernel_rfl
theorem fc16_size : tySize Try.prog 16 = some 1 := by kernel_rfl
theorem fc16_zero : zeroT Try.prog 16 = some [.pointer none] := by kernel_rfl
theorem fc16_sl : sliceT Try.prog 16 = none := by kernel_rfl
theorem fc17_load : loadT Try.prog 17 = some (1, false) := by kernel_rfl
theorem fc17_size : tySize Try.prog 17 = some 1 := by kernel_rfl
theorem fc17_zero : zeroT Try.prog 17 = some [.pointer none] := by kernel_rfl
theorem fc17_sl : sliceT Try.prog 17 = none := by kernel_rfl
theorem fc18_load : loadT Try.prog 18 = some (1, true) := by kernel_rfl
theorem fc18_size : tySize Try.prog 18 = some 1 := by kernel_rfl
theorem fc18_zero : zeroT Try.prog 18 = some [.pointer none] := by kernel_rfl
theorem fc18_all : allPlaces Try.prog 18 = true := by kernel_rfl
theorem fc18_o0 : fieldOff Try.prog 18 0 = some 0 := by kernel_rfl
theorem fc18_f0 : fieldT Try.prog 18 0 = some (0, 1, false) := by kernel_rfl
theorem fc18_p0 : placeT Try.prog 18 0 = some (0, 1) := by kernel_rfl
theorem fc19_load : loadT Try.prog 19 = some (1, true) := by kernel_rfl
theorem fc19_size : tySize Try.prog 19 = some 1 := by kernel_rfl
theorem fc19_zero : zeroT Try.prog 19 = some [.pointer none] := by kernel_rfl
theorem fc19_all : allPlaces Try.prog 19 = true := by kernel_rfl
theorem fc19_o0 : fieldOff Try.prog 19 0 = some 0 := by kernel_rfl
theorem fc19_f0 : fieldT Try.prog 19 0 = some (0, 1, false) := by kernel_rfl
theorem fc19_p0 : placeT Try.prog 19 0 = some (0, 1) := by kernel_rfl
theorem fc21_load : loadT Try.prog 21 = some (1, false) := by kernel_rfl
theorem fc21_size : tySize Try.prog 21 = some 1 := by kernel_rfl
theorem fc21_int : intT Try.prog 21 = some .i32 := by kernel_rfl
theorem fc21_isb : isBoolT Try.prog 21 = false := by kernel_rfl
theorem fc21_u : Try.prog.underlying 21 = some (.int .i32) := by kernel_rfl
theorem fc21_zero : zeroT Try.prog 21 = some [.int .i32 0] := by kernel_rfl
theorem fc22_load : loadT Try.prog 22 = some (1, false) := by kernel_rfl
theorem fc22_size : tySize Try.prog 22 = some 1 := by kernel_rfl
theorem fc22_zero : zeroT Try.prog 22 = some [.slice none 0 0] := by kernel_rfl
theorem fc22_sl : sliceT Try.prog 22 = some (72, 4) := by kernel_rfl
theorem fc22_arr : arrT Try.prog 22 = none := by kernel_rfl
theorem fc22_app : appT Try.prog 22 = some (72, 4, 32) := by kernel_rfl
theorem fc22_z1 : zeroNT Try.prog 22 = some (72, [.int .i64 0, .int .i64 0, .int .i64 0, .int .i64 0], 32) := by kernel_rfl
theorem fc22_clear : clearT Try.prog 22 = some [.int .i64 0, .int .i64 0, .int .i64 0, .int .i64 0] := by kernel_rfl
theorem fc22_byt : bytesT Try.prog 22 = false := by kernel_rfl
theorem fc23_load : loadT Try.prog 23 = some (1, false) := by kernel_rfl
theorem fc23_size : tySize Try.prog 23 = some 1 := by kernel_rfl
theorem fc23_zero : zeroT Try.prog 23 = some [.slice none 0 0] := by kernel_rfl
theorem fc23_sl : sliceT Try.prog 23 = some (76, 4) := by kernel_rfl
theorem fc23_arr : arrT Try.prog 23 = none := by kernel_rfl
theorem fc23_app : appT Try.prog 23 = some (76, 4, 32) := by kernel_rfl
theorem fc23_z1 : zeroNT Try.prog 23 = some (76, [.int .i64 0, .int .i64 0, .int .i64 0, .bool false], 32) := by kernel_rfl
theorem fc23_clear : clearT Try.prog 23 = some [.int .i64 0, .int .i64 0, .int .i64 0, .bool false] := by kernel_rfl
theorem fc23_byt : bytesT Try.prog 23 = false := by kernel_rfl
theorem fc24_load : loadT Try.prog 24 = some (3, true) := by kernel_rfl
theorem fc24_size : tySize Try.prog 24 = some 3 := by kernel_rfl
theorem fc24_zero : zeroT Try.prog 24 = some [.int .i64 0, .int .i64 0, .int .i64 0] := by kernel_rfl
theorem fc24_eq : eqT Try.prog 24 = some [(0, false), (1, false), (2, false)] := by kernel_rfl
theorem fc24_all : allPlaces Try.prog 24 = true := by kernel_rfl
theorem fc24_o0 : fieldOff Try.prog 24 0 = some 0 := by kernel_rfl
theorem fc24_f0 : fieldT Try.prog 24 0 = some (0, 1, false) := by kernel_rfl
theorem fc24_p0 : placeT Try.prog 24 0 = some (0, 1) := by kernel_rfl
theorem fc24_o1 : fieldOff Try.prog 24 1 = some 1 := by kernel_rfl
theorem fc24_f1 : fieldT Try.prog 24 1 = some (1, 1, false) := by kernel_rfl
theorem fc24_p1 : placeT Try.prog 24 1 = some (1, 1) := by kernel_rfl
theorem fc24_o2 : fieldOff Try.prog 24 2 = some 2 := by kernel_rfl
theorem fc24_f2 : fieldT Try.prog 24 2 = some (2, 1, false) := by kernel_rfl
theorem fc24_p2 : placeT Try.prog 24 2 = some (2, 1) := by kernel_rfl
theorem fc25_load : loadT Try.prog 25 = some (3, true) := by kernel_rfl
theorem fc25_size : tySize Try.prog 25 = some 3 := by kernel_rfl
theorem fc25_zero : zeroT Try.prog 25 = some [.int .i64 0, .int .i64 0, .int .i64 0] := by kernel_rfl
theorem fc25_eq : eqT Try.prog 25 = some [(0, false), (1, false), (2, false)] := by kernel_rfl
theorem fc25_all : allPlaces Try.prog 25 = true := by kernel_rfl
theorem fc25_o0 : fieldOff Try.prog 25 0 = some 0 := by kernel_rfl
theorem fc25_f0 : fieldT Try.prog 25 0 = some (0, 1, false) := by kernel_rfl
theorem fc25_p0 : placeT Try.prog 25 0 = some (0, 1) := by kernel_rfl
theorem fc25_o1 : fieldOff Try.prog 25 1 = some 1 := by kernel_rfl
theorem fc25_f1 : fieldT Try.prog 25 1 = some (1, 1, false) := by kernel_rfl
theorem fc25_p1 : placeT Try.prog 25 1 = some (1, 1) := by kernel_rfl
theorem fc25_o2 : fieldOff Try.prog 25 2 = some 2 := by kernel_rfl
theorem fc25_f2 : fieldT Try.prog 25 2 = some (2, 1, false) := by kernel_rfl
theorem fc25_p2 : placeT Try.prog 25 2 = some (2, 1) := by kernel_rfl
theorem fc26_load : loadT Try.prog 26 = some (1, false) := by kernel_rfl
theorem fc26_size : tySize Try.prog 26 = some 1 := by kernel_rfl
theorem fc26_zero : zeroT Try.prog 26 = some [.nilFunc] := by kernel_rfl
theorem fc27_load : loadT Try.prog 27 = some (1, false) := by kernel_rfl
theorem fc27_size : tySize Try.prog 27 = some 1 := by kernel_rfl
theorem fc27_zero : zeroT Try.prog 27 = some [.nilFunc] := by kernel_rfl
theorem fc28_load : loadT Try.prog 28 = some (1, false) := by kernel_rfl
theorem fc28_size : tySize Try.prog 28 = some 1 := by kernel_rfl
theorem fc28_zero : zeroT Try.prog 28 = some [.slice none 0 0] := by kernel_rfl
theorem fc28_sl : sliceT Try.prog 28 = some (74, 4) := by kernel_rfl
theorem fc28_arr : arrT Try.prog 28 = none := by kernel_rfl
theorem fc28_app : appT Try.prog 28 = some (74, 4, 32) := by kernel_rfl
theorem fc28_z1 : zeroNT Try.prog 28 = some (74, [.int .i64 0, .int .i64 0, .int .i64 0, .bool false], 32) := by kernel_rfl
theorem fc28_clear : clearT Try.prog 28 = some [.int .i64 0, .int .i64 0, .int .i64 0, .bool false] := by kernel_rfl
theorem fc28_byt : bytesT Try.prog 28 = false := by kernel_rfl
theorem fc30_load : loadT Try.prog 30 = some (1, false) := by kernel_rfl
theorem fc30_size : tySize Try.prog 30 = some 1 := by kernel_rfl
theorem fc30_zero : zeroT Try.prog 30 = some [.nilFunc] := by kernel_rfl
theorem fc31_load : loadT Try.prog 31 = some (1, false) := by kernel_rfl
theorem fc31_size : tySize Try.prog 31 = some 1 := by kernel_rfl
theorem fc31_zero : zeroT Try.prog 31 = some [.slice none 0 0] := by kernel_rfl
theorem fc31_sl : sliceT Try.prog 31 = some (54, 4) := by kernel_rfl
theorem fc31_arr : arrT Try.prog 31 = none := by kernel_rfl
theorem fc31_app : appT Try.prog 31 = some (54, 4, 32) := by kernel_rfl
theorem fc31_z1 : zeroNT Try.prog 31 = some (54, [.int .i64 0, .int .i64 0, .int .i64 0, .int .i64 0], 32) := by kernel_rfl
theorem fc31_clear : clearT Try.prog 31 = some [.int .i64 0, .int .i64 0, .int .i64 0, .int .i64 0] := by kernel_rfl
theorem fc31_byt : bytesT Try.prog 31 = false := by kernel_rfl
theorem fc32_load : loadT Try.prog 32 = some (1, false) := by kernel_rfl
theorem fc32_size : tySize Try.prog 32 = some 1 := by kernel_rfl
theorem fc32_zero : zeroT Try.prog 32 = some [.nilFunc] := by kernel_rfl
theorem fc33_load : loadT Try.prog 33 = some (1, false) := by kernel_rfl
theorem fc33_size : tySize Try.prog 33 = some 1 := by kernel_rfl
theorem fc33_zero : zeroT Try.prog 33 = some [.nilFunc] := by kernel_rfl
theorem fc34_load : loadT Try.prog 34 = some (3, true) := by kernel_rfl
theorem fc34_size : tySize Try.prog 34 = some 3 := by kernel_rfl
theorem fc34_zero : zeroT Try.prog 34 = some [.int .i64 0, .int .i64 0, .int .i64 0] := by kernel_rfl
theorem fc34_eq : eqT Try.prog 34 = some [(0, false), (1, false), (2, false)] := by kernel_rfl
theorem fc34_all : allPlaces Try.prog 34 = true := by kernel_rfl
theorem fc34_o0 : fieldOff Try.prog 34 0 = some 0 := by kernel_rfl
theorem fc34_f0 : fieldT Try.prog 34 0 = some (0, 1, false) := by kernel_rfl
theorem fc34_p0 : placeT Try.prog 34 0 = some (0, 1) := by kernel_rfl
theorem fc34_o1 : fieldOff Try.prog 34 1 = some 1 := by kernel_rfl
theorem fc34_f1 : fieldT Try.prog 34 1 = some (1, 1, false) := by kernel_rfl
theorem fc34_p1 : placeT Try.prog 34 1 = some (1, 1) := by kernel_rfl
theorem fc34_o2 : fieldOff Try.prog 34 2 = some 2 := by kernel_rfl
theorem fc34_f2 : fieldT Try.prog 34 2 = some (2, 1, false) := by kernel_rfl
theorem fc34_p2 : placeT Try.prog 34 2 = some (2, 1) := by kernel_rfl
theorem fc35_load : loadT Try.prog 35 = some (1, false) := by kernel_rfl
theorem fc35_size : tySize Try.prog 35 = some 1 := by kernel_rfl
theorem fc35_zero : zeroT Try.prog 35 = some [.nilFunc] := by kernel_rfl
theorem fc36_load : loadT Try.prog 36 = some (1, false) := by kernel_rfl
theorem fc36_size : tySize Try.prog 36 = some 1 := by kernel_rfl
theorem fc36_zero : zeroT Try.prog 36 = some [.nilFunc] := by kernel_rfl
theorem fc37_load : loadT Try.prog 37 = some (1, false) := by kernel_rfl
theorem fc37_size : tySize Try.prog 37 = some 1 := by kernel_rfl
theorem fc37_zero : zeroT Try.prog 37 = some [.nilFunc] := by kernel_rfl
theorem fc38_load : loadT Try.prog 38 = some (1, false) := by kernel_rfl
theorem fc38_size : tySize Try.prog 38 = some 1 := by kernel_rfl
theorem fc38_zero : zeroT Try.prog 38 = some [.nilFunc] := by kernel_rfl
theorem fc39_load : loadT Try.prog 39 = some (1, false) := by kernel_rfl
theorem fc39_size : tySize Try.prog 39 = some 1 := by kernel_rfl
theorem fc39_zero : zeroT Try.prog 39 = some [.nilFunc] := by kernel_rfl
theorem fc40_load : loadT Try.prog 40 = some (1, false) := by kernel_rfl
theorem fc40_size : tySize Try.prog 40 = some 1 := by kernel_rfl
theorem fc40_zero : zeroT Try.prog 40 = some [.nilFunc] := by kernel_rfl
theorem fc41_load : loadT Try.prog 41 = some (1, false) := by kernel_rfl
theorem fc41_size : tySize Try.prog 41 = some 1 := by kernel_rfl
theorem fc41_zero : zeroT Try.prog 41 = some [.slice none 0 0] := by kernel_rfl
theorem fc41_sl : sliceT Try.prog 41 = some (25, 3) := by kernel_rfl
theorem fc41_arr : arrT Try.prog 41 = none := by kernel_rfl
theorem fc41_app : appT Try.prog 41 = some (25, 3, 24) := by kernel_rfl
theorem fc41_z1 : zeroNT Try.prog 41 = some (25, [.int .i64 0, .int .i64 0, .int .i64 0], 24) := by kernel_rfl
theorem fc41_clear : clearT Try.prog 41 = some [.int .i64 0, .int .i64 0, .int .i64 0] := by kernel_rfl
theorem fc41_byt : bytesT Try.prog 41 = false := by kernel_rfl
theorem fc42_load : loadT Try.prog 42 = some (1, false) := by kernel_rfl
theorem fc42_size : tySize Try.prog 42 = some 1 := by kernel_rfl
theorem fc42_zero : zeroT Try.prog 42 = some [.nilFunc] := by kernel_rfl
theorem fc43_load : loadT Try.prog 43 = some (1, false) := by kernel_rfl
theorem fc43_size : tySize Try.prog 43 = some 1 := by kernel_rfl
theorem fc43_zero : zeroT Try.prog 43 = some [.nilFunc] := by kernel_rfl
theorem fc44_load : loadT Try.prog 44 = some (1, false) := by kernel_rfl
theorem fc44_size : tySize Try.prog 44 = some 1 := by kernel_rfl
theorem fc44_zero : zeroT Try.prog 44 = some [.slice none 0 0] := by kernel_rfl
theorem fc44_sl : sliceT Try.prog 44 = some (34, 3) := by kernel_rfl
theorem fc44_arr : arrT Try.prog 44 = none := by kernel_rfl
theorem fc44_app : appT Try.prog 44 = some (34, 3, 24) := by kernel_rfl
theorem fc44_z1 : zeroNT Try.prog 44 = some (34, [.int .i64 0, .int .i64 0, .int .i64 0], 24) := by kernel_rfl
theorem fc44_clear : clearT Try.prog 44 = some [.int .i64 0, .int .i64 0, .int .i64 0] := by kernel_rfl
theorem fc44_byt : bytesT Try.prog 44 = false := by kernel_rfl
theorem fc45_load : loadT Try.prog 45 = some (1, false) := by kernel_rfl
theorem fc45_size : tySize Try.prog 45 = some 1 := by kernel_rfl
theorem fc45_zero : zeroT Try.prog 45 = some [.nilFunc] := by kernel_rfl
theorem fc46_load : loadT Try.prog 46 = some (1, false) := by kernel_rfl
theorem fc46_size : tySize Try.prog 46 = some 1 := by kernel_rfl
theorem fc46_zero : zeroT Try.prog 46 = some [.nilFunc] := by kernel_rfl
theorem fc47_load : loadT Try.prog 47 = some (1, false) := by kernel_rfl
theorem fc47_size : tySize Try.prog 47 = some 1 := by kernel_rfl
theorem fc47_zero : zeroT Try.prog 47 = some [.nilFunc] := by kernel_rfl
theorem fc48_load : loadT Try.prog 48 = some (1, false) := by kernel_rfl
theorem fc48_size : tySize Try.prog 48 = some 1 := by kernel_rfl
theorem fc48_zero : zeroT Try.prog 48 = some [.nilFunc] := by kernel_rfl
theorem fc49_load : loadT Try.prog 49 = some (1, false) := by kernel_rfl
theorem fc49_size : tySize Try.prog 49 = some 1 := by kernel_rfl
theorem fc49_zero : zeroT Try.prog 49 = some [.slice none 0 0] := by kernel_rfl
theorem fc49_sl : sliceT Try.prog 49 = some (5, 1) := by kernel_rfl
theorem fc49_arr : arrT Try.prog 49 = none := by kernel_rfl
theorem fc49_app : appT Try.prog 49 = some (5, 1, 1) := by kernel_rfl
theorem fc49_z1 : zeroNT Try.prog 49 = some (5, [.int .u8 0], 1) := by kernel_rfl
theorem fc49_clear : clearT Try.prog 49 = some [.int .u8 0] := by kernel_rfl
theorem fc49_byt : bytesT Try.prog 49 = true := by kernel_rfl
theorem fc50_load : loadT Try.prog 50 = some (1, false) := by kernel_rfl
theorem fc50_size : tySize Try.prog 50 = some 1 := by kernel_rfl
theorem fc50_zero : zeroT Try.prog 50 = some [.nilFunc] := by kernel_rfl
theorem fc52_load : loadT Try.prog 52 = some (1, false) := by kernel_rfl
theorem fc52_size : tySize Try.prog 52 = some 1 := by kernel_rfl
theorem fc52_zero : zeroT Try.prog 52 = some [.nilFunc] := by kernel_rfl
theorem fc53_load : loadT Try.prog 53 = some (4, true) := by kernel_rfl
theorem fc53_size : tySize Try.prog 53 = some 4 := by kernel_rfl
theorem fc53_zero : zeroT Try.prog 53 = some [.int .i64 0, .int .i64 0, .int .i64 0, .int .i64 0] := by kernel_rfl
theorem fc53_eq : eqT Try.prog 53 = some [(0, false), (1, false), (2, false), (3, false)] := by kernel_rfl
theorem fc53_all : allPlaces Try.prog 53 = true := by kernel_rfl
theorem fc53_o0 : fieldOff Try.prog 53 0 = some 0 := by kernel_rfl
theorem fc53_f0 : fieldT Try.prog 53 0 = some (0, 1, false) := by kernel_rfl
theorem fc53_p0 : placeT Try.prog 53 0 = some (0, 1) := by kernel_rfl
theorem fc53_o1 : fieldOff Try.prog 53 1 = some 1 := by kernel_rfl
theorem fc53_f1 : fieldT Try.prog 53 1 = some (1, 1, false) := by kernel_rfl
theorem fc53_p1 : placeT Try.prog 53 1 = some (1, 1) := by kernel_rfl
theorem fc53_o2 : fieldOff Try.prog 53 2 = some 2 := by kernel_rfl
theorem fc53_f2 : fieldT Try.prog 53 2 = some (2, 1, false) := by kernel_rfl
theorem fc53_p2 : placeT Try.prog 53 2 = some (2, 1) := by kernel_rfl
theorem fc53_o3 : fieldOff Try.prog 53 3 = some 3 := by kernel_rfl
theorem fc53_f3 : fieldT Try.prog 53 3 = some (3, 1, false) := by kernel_rfl
theorem fc53_p3 : placeT Try.prog 53 3 = some (3, 1) := by kernel_rfl
theorem fc54_load : loadT Try.prog 54 = some (4, true) := by kernel_rfl
theorem fc54_size : tySize Try.prog 54 = some 4 := by kernel_rfl
theorem fc54_zero : zeroT Try.prog 54 = some [.int .i64 0, .int .i64 0, .int .i64 0, .int .i64 0] := by kernel_rfl
theorem fc54_eq : eqT Try.prog 54 = some [(0, false), (1, false), (2, false), (3, false)] := by kernel_rfl
theorem fc54_all : allPlaces Try.prog 54 = true := by kernel_rfl
theorem fc54_o0 : fieldOff Try.prog 54 0 = some 0 := by kernel_rfl
theorem fc54_f0 : fieldT Try.prog 54 0 = some (0, 1, false) := by kernel_rfl
theorem fc54_p0 : placeT Try.prog 54 0 = some (0, 1) := by kernel_rfl
theorem fc54_o1 : fieldOff Try.prog 54 1 = some 1 := by kernel_rfl
theorem fc54_f1 : fieldT Try.prog 54 1 = some (1, 1, false) := by kernel_rfl
theorem fc54_p1 : placeT Try.prog 54 1 = some (1, 1) := by kernel_rfl
theorem fc54_o2 : fieldOff Try.prog 54 2 = some 2 := by kernel_rfl
theorem fc54_f2 : fieldT Try.prog 54 2 = some (2, 1, false) := by kernel_rfl
theorem fc54_p2 : placeT Try.prog 54 2 = some (2, 1) := by kernel_rfl
theorem fc54_o3 : fieldOff Try.prog 54 3 = some 3 := by kernel_rfl
theorem fc54_f3 : fieldT Try.prog 54 3 = some (3, 1, false) := by kernel_rfl
theorem fc54_p3 : placeT Try.prog 54 3 = some (3, 1) := by kernel_rfl
theorem fc56_load : loadT Try.prog 56 = some (1, false) := by kernel_rfl
theorem fc56_size : tySize Try.prog 56 = some 1 := by kernel_rfl
theorem fc56_zero : zeroT Try.prog 56 = some [.nilFunc] := by kernel_rfl
theorem fc58_load : loadT Try.prog 58 = some (1, false) := by kernel_rfl
theorem fc58_size : tySize Try.prog 58 = some 1 := by kernel_rfl
theorem fc58_zero : zeroT Try.prog 58 = some [.nilFunc] := by kernel_rfl
theorem fc60_load : loadT Try.prog 60 = some (1, false) := by kernel_rfl
theorem fc60_size : tySize Try.prog 60 = some 1 := by kernel_rfl
theorem fc60_zero : zeroT Try.prog 60 = some [.nilFunc] := by kernel_rfl
theorem fc61_load : loadT Try.prog 61 = some (1, false) := by kernel_rfl
theorem fc61_size : tySize Try.prog 61 = some 1 := by kernel_rfl
theorem fc61_zero : zeroT Try.prog 61 = some [.nilFunc] := by kernel_rfl
theorem fc62_load : loadT Try.prog 62 = some (1, false) := by kernel_rfl
theorem fc62_size : tySize Try.prog 62 = some 1 := by kernel_rfl
theorem fc62_zero : zeroT Try.prog 62 = some [.nilFunc] := by kernel_rfl
theorem fc63_load : loadT Try.prog 63 = some (1, false) := by kernel_rfl
theorem fc63_size : tySize Try.prog 63 = some 1 := by kernel_rfl
theorem fc63_zero : zeroT Try.prog 63 = some [.slice none 0 0] := by kernel_rfl
theorem fc63_sl : sliceT Try.prog 63 = some (3, 1) := by kernel_rfl
theorem fc63_arr : arrT Try.prog 63 = none := by kernel_rfl
theorem fc63_app : appT Try.prog 63 = some (3, 1, 8) := by kernel_rfl
theorem fc63_z1 : zeroNT Try.prog 63 = some (3, [.int .i64 0], 8) := by kernel_rfl
theorem fc63_clear : clearT Try.prog 63 = some [.int .i64 0] := by kernel_rfl
theorem fc63_byt : bytesT Try.prog 63 = false := by kernel_rfl
theorem fc65_load : loadT Try.prog 65 = some (1, false) := by kernel_rfl
theorem fc65_size : tySize Try.prog 65 = some 1 := by kernel_rfl
theorem fc65_zero : zeroT Try.prog 65 = some [.nilFunc] := by kernel_rfl
theorem fc66_load : loadT Try.prog 66 = some (1, false) := by kernel_rfl
theorem fc66_size : tySize Try.prog 66 = some 1 := by kernel_rfl
theorem fc66_zero : zeroT Try.prog 66 = some [.nilFunc] := by kernel_rfl
theorem fc67_load : loadT Try.prog 67 = some (1, false) := by kernel_rfl
theorem fc67_size : tySize Try.prog 67 = some 1 := by kernel_rfl
theorem fc67_zero : zeroT Try.prog 67 = some [.nilFunc] := by kernel_rfl
theorem fc68_load : loadT Try.prog 68 = some (1, false) := by kernel_rfl
theorem fc68_size : tySize Try.prog 68 = some 1 := by kernel_rfl
theorem fc68_zero : zeroT Try.prog 68 = some [.nilFunc] := by kernel_rfl
theorem fc69_load : loadT Try.prog 69 = some (1, false) := by kernel_rfl
theorem fc69_size : tySize Try.prog 69 = some 1 := by kernel_rfl
theorem fc69_zero : zeroT Try.prog 69 = some [.nilFunc] := by kernel_rfl
theorem fc70_load : loadT Try.prog 70 = some (1, false) := by kernel_rfl
theorem fc70_size : tySize Try.prog 70 = some 1 := by kernel_rfl
theorem fc70_zero : zeroT Try.prog 70 = some [.nilFunc] := by kernel_rfl
theorem fc71_load : loadT Try.prog 71 = some (1, false) := by kernel_rfl
theorem fc71_size : tySize Try.prog 71 = some 1 := by kernel_rfl
theorem fc71_zero : zeroT Try.prog 71 = some [.nilFunc] := by kernel_rfl
theorem fc72_load : loadT Try.prog 72 = some (4, true) := by kernel_rfl
theorem fc72_size : tySize Try.prog 72 = some 4 := by kernel_rfl
theorem fc72_zero : zeroT Try.prog 72 = some [.int .i64 0, .int .i64 0, .int .i64 0, .int .i64 0] := by kernel_rfl
theorem fc72_eq : eqT Try.prog 72 = some [(0, false), (1, false), (2, false), (3, false)] := by kernel_rfl
theorem fc72_all : allPlaces Try.prog 72 = true := by kernel_rfl
theorem fc72_o0 : fieldOff Try.prog 72 0 = some 0 := by kernel_rfl
theorem fc72_f0 : fieldT Try.prog 72 0 = some (0, 1, false) := by kernel_rfl
theorem fc72_p0 : placeT Try.prog 72 0 = some (0, 1) := by kernel_rfl
theorem fc72_o1 : fieldOff Try.prog 72 1 = some 1 := by kernel_rfl
theorem fc72_f1 : fieldT Try.prog 72 1 = some (1, 1, false) := by kernel_rfl
theorem fc72_p1 : placeT Try.prog 72 1 = some (1, 1) := by kernel_rfl
theorem fc72_o2 : fieldOff Try.prog 72 2 = some 2 := by kernel_rfl
theorem fc72_f2 : fieldT Try.prog 72 2 = some (2, 1, false) := by kernel_rfl
theorem fc72_p2 : placeT Try.prog 72 2 = some (2, 1) := by kernel_rfl
theorem fc72_o3 : fieldOff Try.prog 72 3 = some 3 := by kernel_rfl
theorem fc72_f3 : fieldT Try.prog 72 3 = some (3, 1, false) := by kernel_rfl
theorem fc72_p3 : placeT Try.prog 72 3 = some (3, 1) := by kernel_rfl
theorem fc73_load : loadT Try.prog 73 = some (4, true) := by kernel_rfl
theorem fc73_size : tySize Try.prog 73 = some 4 := by kernel_rfl
theorem fc73_zero : zeroT Try.prog 73 = some [.int .i64 0, .int .i64 0, .int .i64 0, .bool false] := by kernel_rfl
theorem fc73_eq : eqT Try.prog 73 = some [(0, false), (1, false), (2, false), (3, true)] := by kernel_rfl
theorem fc73_all : allPlaces Try.prog 73 = true := by kernel_rfl
theorem fc73_o0 : fieldOff Try.prog 73 0 = some 0 := by kernel_rfl
theorem fc73_f0 : fieldT Try.prog 73 0 = some (0, 1, false) := by kernel_rfl
theorem fc73_p0 : placeT Try.prog 73 0 = some (0, 1) := by kernel_rfl
theorem fc73_o1 : fieldOff Try.prog 73 1 = some 1 := by kernel_rfl
theorem fc73_f1 : fieldT Try.prog 73 1 = some (1, 1, false) := by kernel_rfl
theorem fc73_p1 : placeT Try.prog 73 1 = some (1, 1) := by kernel_rfl
theorem fc73_o2 : fieldOff Try.prog 73 2 = some 2 := by kernel_rfl
theorem fc73_f2 : fieldT Try.prog 73 2 = some (2, 1, false) := by kernel_rfl
theorem fc73_p2 : placeT Try.prog 73 2 = some (2, 1) := by kernel_rfl
theorem fc73_o3 : fieldOff Try.prog 73 3 = some 3 := by kernel_rfl
theorem fc73_f3 : fieldT Try.prog 73 3 = some (3, 1, false) := by kernel_rfl
theorem fc73_p3 : placeT Try.prog 73 3 = some (3, 1) := by kernel_rfl
theorem fc74_load : loadT Try.prog 74 = some (4, true) := by kernel_rfl
theorem fc74_size : tySize Try.prog 74 = some 4 := by kernel_rfl
theorem fc74_zero : zeroT Try.prog 74 = some [.int .i64 0, .int .i64 0, .int .i64 0, .bool false] := by kernel_rfl
theorem fc74_eq : eqT Try.prog 74 = some [(0, false), (1, false), (2, false), (3, true)] := by kernel_rfl
theorem fc74_all : allPlaces Try.prog 74 = true := by kernel_rfl
theorem fc74_o0 : fieldOff Try.prog 74 0 = some 0 := by kernel_rfl
theorem fc74_f0 : fieldT Try.prog 74 0 = some (0, 1, false) := by kernel_rfl
theorem fc74_p0 : placeT Try.prog 74 0 = some (0, 1) := by kernel_rfl
theorem fc74_o1 : fieldOff Try.prog 74 1 = some 1 := by kernel_rfl
theorem fc74_f1 : fieldT Try.prog 74 1 = some (1, 1, false) := by kernel_rfl
theorem fc74_p1 : placeT Try.prog 74 1 = some (1, 1) := by kernel_rfl
theorem fc74_o2 : fieldOff Try.prog 74 2 = some 2 := by kernel_rfl
theorem fc74_f2 : fieldT Try.prog 74 2 = some (2, 1, false) := by kernel_rfl
theorem fc74_p2 : placeT Try.prog 74 2 = some (2, 1) := by kernel_rfl
theorem fc74_o3 : fieldOff Try.prog 74 3 = some 3 := by kernel_rfl
theorem fc74_f3 : fieldT Try.prog 74 3 = some (3, 1, false) := by kernel_rfl
theorem fc74_p3 : placeT Try.prog 74 3 = some (3, 1) := by kernel_rfl
theorem fc75_load : loadT Try.prog 75 = some (1, false) := by kernel_rfl
theorem fc75_size : tySize Try.prog 75 = some 1 := by kernel_rfl
theorem fc75_zero : zeroT Try.prog 75 = some [.nilFunc] := by kernel_rfl
theorem fc76_load : loadT Try.prog 76 = some (4, true) := by kernel_rfl
theorem fc76_size : tySize Try.prog 76 = some 4 := by kernel_rfl
theorem fc76_zero : zeroT Try.prog 76 = some [.int .i64 0, .int .i64 0, .int .i64 0, .bool false] := by kernel_rfl
theorem fc76_eq : eqT Try.prog 76 = some [(0, false), (1, false), (2, false), (3, true)] := by kernel_rfl
theorem fc76_all : allPlaces Try.prog 76 = true := by kernel_rfl
theorem fc76_o0 : fieldOff Try.prog 76 0 = some 0 := by kernel_rfl
theorem fc76_f0 : fieldT Try.prog 76 0 = some (0, 1, false) := by kernel_rfl
theorem fc76_p0 : placeT Try.prog 76 0 = some (0, 1) := by kernel_rfl
theorem fc76_o1 : fieldOff Try.prog 76 1 = some 1 := by kernel_rfl
theorem fc76_f1 : fieldT Try.prog 76 1 = some (1, 1, false) := by kernel_rfl
theorem fc76_p1 : placeT Try.prog 76 1 = some (1, 1) := by kernel_rfl
theorem fc76_o2 : fieldOff Try.prog 76 2 = some 2 := by kernel_rfl
theorem fc76_f2 : fieldT Try.prog 76 2 = some (2, 1, false) := by kernel_rfl
theorem fc76_p2 : placeT Try.prog 76 2 = some (2, 1) := by kernel_rfl
theorem fc76_o3 : fieldOff Try.prog 76 3 = some 3 := by kernel_rfl
theorem fc76_f3 : fieldT Try.prog 76 3 = some (3, 1, false) := by kernel_rfl
theorem fc76_p3 : placeT Try.prog 76 3 = some (3, 1) := by kernel_rfl
theorem fc77_load : loadT Try.prog 77 = some (1, false) := by kernel_rfl
theorem fc77_size : tySize Try.prog 77 = some 1 := by kernel_rfl
theorem fc77_zero : zeroT Try.prog 77 = some [.nilFunc] := by kernel_rfl
theorem fc78_load : loadT Try.prog 78 = some (1, false) := by kernel_rfl
theorem fc78_size : tySize Try.prog 78 = some 1 := by kernel_rfl
theorem fc78_zero : zeroT Try.prog 78 = some [.nilFunc] := by kernel_rfl
theorem fc79_load : loadT Try.prog 79 = some (1, false) := by kernel_rfl
theorem fc79_size : tySize Try.prog 79 = some 1 := by kernel_rfl
theorem fc79_zero : zeroT Try.prog 79 = some [.nilFunc] := by kernel_rfl
theorem fc80_load : loadT Try.prog 80 = some (1, false) := by kernel_rfl
theorem fc80_size : tySize Try.prog 80 = some 1 := by kernel_rfl
theorem fc80_zero : zeroT Try.prog 80 = some [.nilFunc] := by kernel_rfl
theorem fc81_load : loadT Try.prog 81 = some (1, false) := by kernel_rfl
theorem fc81_size : tySize Try.prog 81 = some 1 := by kernel_rfl
theorem fc81_zero : zeroT Try.prog 81 = some [.pointer none] := by kernel_rfl
theorem fc81_sl : sliceT Try.prog 81 = none := by kernel_rfl
theorem fc82_load : loadT Try.prog 82 = some (1, false) := by kernel_rfl
theorem fc82_size : tySize Try.prog 82 = some 1 := by kernel_rfl
theorem fc82_int : intT Try.prog 82 = some .u64 := by kernel_rfl
theorem fc82_isb : isBoolT Try.prog 82 = false := by kernel_rfl
theorem fc82_u : Try.prog.underlying 82 = some (.int .u64) := by kernel_rfl
theorem fc82_zero : zeroT Try.prog 82 = some [.int .u64 0] := by kernel_rfl
theorem fc83_load : loadT Try.prog 83 = some (3, true) := by kernel_rfl
theorem fc83_size : tySize Try.prog 83 = some 3 := by kernel_rfl
theorem fc83_zero : zeroT Try.prog 83 = some [.slice none 0 0, .int .i64 0, .int .u64 0] := by kernel_rfl
theorem fc83_all : allPlaces Try.prog 83 = true := by kernel_rfl
theorem fc83_o0 : fieldOff Try.prog 83 0 = some 0 := by kernel_rfl
theorem fc83_f0 : fieldT Try.prog 83 0 = some (0, 1, false) := by kernel_rfl
theorem fc83_p0 : placeT Try.prog 83 0 = some (0, 1) := by kernel_rfl
theorem fc83_o1 : fieldOff Try.prog 83 1 = some 1 := by kernel_rfl
theorem fc83_f1 : fieldT Try.prog 83 1 = some (1, 1, false) := by kernel_rfl
theorem fc83_p1 : placeT Try.prog 83 1 = some (1, 1) := by kernel_rfl
theorem fc83_o2 : fieldOff Try.prog 83 2 = some 2 := by kernel_rfl
theorem fc83_f2 : fieldT Try.prog 83 2 = some (2, 1, false) := by kernel_rfl
theorem fc83_p2 : placeT Try.prog 83 2 = some (2, 1) := by kernel_rfl
theorem fc84_load : loadT Try.prog 84 = some (3, true) := by kernel_rfl
theorem fc84_size : tySize Try.prog 84 = some 3 := by kernel_rfl
theorem fc84_zero : zeroT Try.prog 84 = some [.slice none 0 0, .int .i64 0, .int .u64 0] := by kernel_rfl
theorem fc84_all : allPlaces Try.prog 84 = true := by kernel_rfl
theorem fc84_o0 : fieldOff Try.prog 84 0 = some 0 := by kernel_rfl
theorem fc84_f0 : fieldT Try.prog 84 0 = some (0, 1, false) := by kernel_rfl
theorem fc84_p0 : placeT Try.prog 84 0 = some (0, 1) := by kernel_rfl
theorem fc84_o1 : fieldOff Try.prog 84 1 = some 1 := by kernel_rfl
theorem fc84_f1 : fieldT Try.prog 84 1 = some (1, 1, false) := by kernel_rfl
theorem fc84_p1 : placeT Try.prog 84 1 = some (1, 1) := by kernel_rfl
theorem fc84_o2 : fieldOff Try.prog 84 2 = some 2 := by kernel_rfl
theorem fc84_f2 : fieldT Try.prog 84 2 = some (2, 1, false) := by kernel_rfl
theorem fc84_p2 : placeT Try.prog 84 2 = some (2, 1) := by kernel_rfl
theorem fc85_load : loadT Try.prog 85 = some (1, false) := by kernel_rfl
theorem fc85_size : tySize Try.prog 85 = some 1 := by kernel_rfl
theorem fc85_zero : zeroT Try.prog 85 = some [.nilFunc] := by kernel_rfl
theorem fc86_load : loadT Try.prog 86 = some (1, false) := by kernel_rfl
theorem fc86_size : tySize Try.prog 86 = some 1 := by kernel_rfl
theorem fc86_zero : zeroT Try.prog 86 = some [.nilFunc] := by kernel_rfl
theorem fc87_load : loadT Try.prog 87 = some (1, false) := by kernel_rfl
theorem fc87_size : tySize Try.prog 87 = some 1 := by kernel_rfl
theorem fc87_zero : zeroT Try.prog 87 = some [.nilFunc] := by kernel_rfl
theorem fc88_load : loadT Try.prog 88 = some (1, false) := by kernel_rfl
theorem fc88_size : tySize Try.prog 88 = some 1 := by kernel_rfl
theorem fc88_zero : zeroT Try.prog 88 = some [.nilFunc] := by kernel_rfl
theorem fc89_load : loadT Try.prog 89 = some (1, false) := by kernel_rfl
theorem fc89_size : tySize Try.prog 89 = some 1 := by kernel_rfl
theorem fc89_zero : zeroT Try.prog 89 = some [.nilFunc] := by kernel_rfl
theorem fc90_load : loadT Try.prog 90 = some (1, false) := by kernel_rfl
theorem fc90_size : tySize Try.prog 90 = some 1 := by kernel_rfl
theorem fc90_zero : zeroT Try.prog 90 = some [.nilFunc] := by kernel_rfl
theorem fc91_load : loadT Try.prog 91 = some (1, false) := by kernel_rfl
theorem fc91_size : tySize Try.prog 91 = some 1 := by kernel_rfl
theorem fc91_zero : zeroT Try.prog 91 = some [.nilFunc] := by kernel_rfl
theorem fc92_load : loadT Try.prog 92 = some (1, false) := by kernel_rfl
theorem fc92_size : tySize Try.prog 92 = some 1 := by kernel_rfl
theorem fc92_zero : zeroT Try.prog 92 = some [.nilFunc] := by kernel_rfl
theorem fc93_load : loadT Try.prog 93 = some (1, false) := by kernel_rfl
theorem fc93_size : tySize Try.prog 93 = some 1 := by kernel_rfl
theorem fc93_zero : zeroT Try.prog 93 = some [.nilFunc] := by kernel_rfl
theorem fc94_load : loadT Try.prog 94 = some (1, false) := by kernel_rfl
theorem fc94_size : tySize Try.prog 94 = some 1 := by kernel_rfl
theorem fc94_zero : zeroT Try.prog 94 = some [.nilFunc] := by kernel_rfl
theorem fc95_load : loadT Try.prog 95 = some (1, false) := by kernel_rfl
theorem fc95_size : tySize Try.prog 95 = some 1 := by kernel_rfl
theorem fc95_zero : zeroT Try.prog 95 = some [.nilFunc] := by kernel_rfl
theorem fc96_load : loadT Try.prog 96 = some (1, false) := by kernel_rfl
theorem fc96_size : tySize Try.prog 96 = some 1 := by kernel_rfl
theorem fc96_zero : zeroT Try.prog 96 = some [.nilFunc] := by kernel_rfl
theorem fc97_load : loadT Try.prog 97 = some (1, false) := by kernel_rfl
theorem fc97_size : tySize Try.prog 97 = some 1 := by kernel_rfl
theorem fc97_zero : zeroT Try.prog 97 = some [.nilFunc] := by kernel_rfl
theorem fc98_load : loadT Try.prog 98 = some (1, false) := by kernel_rfl
theorem fc98_size : tySize Try.prog 98 = some 1 := by kernel_rfl
theorem fc98_zero : zeroT Try.prog 98 = some [.nilFunc] := by kernel_rfl
theorem fc99_load : loadT Try.prog 99 = some (1, false) := by kernel_rfl
theorem fc99_size : tySize Try.prog 99 = some 1 := by kernel_rfl
theorem fc99_zero : zeroT Try.prog 99 = some [.nilFunc] := by kernel_rfl
theorem fc100_load : loadT Try.prog 100 = some (1, false) := by kernel_rfl
theorem fc100_size : tySize Try.prog 100 = some 1 := by kernel_rfl
theorem fc100_zero : zeroT Try.prog 100 = some [.nilFunc] := by kernel_rfl
theorem fc101_load : loadT Try.prog 101 = some (1, false) := by kernel_rfl
theorem fc101_size : tySize Try.prog 101 = some 1 := by kernel_rfl
theorem fc101_zero : zeroT Try.prog 101 = some [.nilFunc] := by kernel_rfl
theorem fc102_load : loadT Try.prog 102 = some (1, false) := by kernel_rfl
theorem fc102_size : tySize Try.prog 102 = some 1 := by kernel_rfl
theorem fc102_zero : zeroT Try.prog 102 = some [.nilFunc] := by kernel_rfl
theorem fc103_load : loadT Try.prog 103 = some (1, false) := by kernel_rfl
theorem fc103_size : tySize Try.prog 103 = some 1 := by kernel_rfl
theorem fc103_zero : zeroT Try.prog 103 = some [.nilFunc] := by kernel_rfl
theorem fc104_load : loadT Try.prog 104 = some (1, false) := by kernel_rfl
theorem fc104_size : tySize Try.prog 104 = some 1 := by kernel_rfl
theorem fc104_zero : zeroT Try.prog 104 = some [.nilFunc] := by kernel_rfl
theorem fc105_load : loadT Try.prog 105 = some (1, false) := by kernel_rfl
theorem fc105_size : tySize Try.prog 105 = some 1 := by kernel_rfl
theorem fc105_zero : zeroT Try.prog 105 = some [.nilFunc] := by kernel_rfl
theorem fc106_load : loadT Try.prog 106 = some (1, false) := by kernel_rfl
theorem fc106_size : tySize Try.prog 106 = some 1 := by kernel_rfl
theorem fc106_zero : zeroT Try.prog 106 = some [.nilFunc] := by kernel_rfl
theorem fc107_load : loadT Try.prog 107 = some (1, false) := by kernel_rfl
theorem fc107_size : tySize Try.prog 107 = some 1 := by kernel_rfl
theorem fc107_int : intT Try.prog 107 = some .u64 := by kernel_rfl
theorem fc107_isb : isBoolT Try.prog 107 = false := by kernel_rfl
theorem fc107_u : Try.prog.underlying 107 = some (.int .u64) := by kernel_rfl
theorem fc107_zero : zeroT Try.prog 107 = some [.int .u64 0] := by kernel_rfl
theorem fc108_load : loadT Try.prog 108 = some (1, false) := by kernel_rfl
theorem fc108_size : tySize Try.prog 108 = some 1 := by kernel_rfl
theorem fc108_zero : zeroT Try.prog 108 = some [.nilFunc] := by kernel_rfl
theorem fc109_load : loadT Try.prog 109 = some (1, false) := by kernel_rfl
theorem fc109_size : tySize Try.prog 109 = some 1 := by kernel_rfl
theorem fc109_zero : zeroT Try.prog 109 = some [.nilFunc] := by kernel_rfl
theorem fc110_load : loadT Try.prog 110 = some (1, false) := by kernel_rfl
theorem fc110_size : tySize Try.prog 110 = some 1 := by kernel_rfl
theorem fc110_zero : zeroT Try.prog 110 = some [.nilFunc] := by kernel_rfl
theorem fc111_load : loadT Try.prog 111 = some (1, false) := by kernel_rfl
theorem fc111_size : tySize Try.prog 111 = some 1 := by kernel_rfl
theorem fc111_zero : zeroT Try.prog 111 = some [.nilFunc] := by kernel_rfl
theorem fc112_load : loadT Try.prog 112 = some (4, true) := by kernel_rfl
theorem fc112_size : tySize Try.prog 112 = some 4 := by kernel_rfl
theorem fc112_zero : zeroT Try.prog 112 = some [.pointer none, .pointer none, .pointer none, .string ⟨#[]⟩] := by kernel_rfl
theorem fc112_all : allPlaces Try.prog 112 = true := by kernel_rfl
theorem fc112_o0 : fieldOff Try.prog 112 0 = some 0 := by kernel_rfl
theorem fc112_f0 : fieldT Try.prog 112 0 = some (0, 1, false) := by kernel_rfl
theorem fc112_p0 : placeT Try.prog 112 0 = some (0, 1) := by kernel_rfl
theorem fc112_o1 : fieldOff Try.prog 112 1 = some 1 := by kernel_rfl
theorem fc112_f1 : fieldT Try.prog 112 1 = some (1, 1, false) := by kernel_rfl
theorem fc112_p1 : placeT Try.prog 112 1 = some (1, 1) := by kernel_rfl
theorem fc112_o2 : fieldOff Try.prog 112 2 = some 2 := by kernel_rfl
theorem fc112_f2 : fieldT Try.prog 112 2 = some (2, 1, false) := by kernel_rfl
theorem fc112_p2 : placeT Try.prog 112 2 = some (2, 1) := by kernel_rfl
theorem fc112_o3 : fieldOff Try.prog 112 3 = some 3 := by kernel_rfl
theorem fc112_f3 : fieldT Try.prog 112 3 = some (3, 1, false) := by kernel_rfl
theorem fc112_p3 : placeT Try.prog 112 3 = some (3, 1) := by kernel_rfl
theorem fc113_load : loadT Try.prog 113 = some (4, true) := by kernel_rfl
theorem fc113_size : tySize Try.prog 113 = some 4 := by kernel_rfl
theorem fc113_zero : zeroT Try.prog 113 = some [.pointer none, .pointer none, .pointer none, .string ⟨#[]⟩] := by kernel_rfl
theorem fc113_all : allPlaces Try.prog 113 = true := by kernel_rfl
theorem fc113_o0 : fieldOff Try.prog 113 0 = some 0 := by kernel_rfl
theorem fc113_f0 : fieldT Try.prog 113 0 = some (0, 1, false) := by kernel_rfl
theorem fc113_p0 : placeT Try.prog 113 0 = some (0, 1) := by kernel_rfl
theorem fc113_o1 : fieldOff Try.prog 113 1 = some 1 := by kernel_rfl
theorem fc113_f1 : fieldT Try.prog 113 1 = some (1, 1, false) := by kernel_rfl
theorem fc113_p1 : placeT Try.prog 113 1 = some (1, 1) := by kernel_rfl
theorem fc113_o2 : fieldOff Try.prog 113 2 = some 2 := by kernel_rfl
theorem fc113_f2 : fieldT Try.prog 113 2 = some (2, 1, false) := by kernel_rfl
theorem fc113_p2 : placeT Try.prog 113 2 = some (2, 1) := by kernel_rfl
theorem fc113_o3 : fieldOff Try.prog 113 3 = some 3 := by kernel_rfl
theorem fc113_f3 : fieldT Try.prog 113 3 = some (3, 1, false) := by kernel_rfl
theorem fc113_p3 : placeT Try.prog 113 3 = some (3, 1) := by kernel_rfl
theorem fc114_load : loadT Try.prog 114 = some (0, true) := by kernel_rfl
theorem fc114_size : tySize Try.prog 114 = some 0 := by kernel_rfl
theorem fc114_zero : zeroT Try.prog 114 = some [] := by kernel_rfl
theorem fc114_arr : arrT Try.prog 114 = some (0, 1, false) := by kernel_rfl
theorem fc114_sl : sliceT Try.prog 114 = none := by kernel_rfl
theorem fc114_all : allPlaces Try.prog 114 = true := by kernel_rfl
theorem fc115_load : loadT Try.prog 115 = some (0, true) := by kernel_rfl
theorem fc115_size : tySize Try.prog 115 = some 0 := by kernel_rfl
theorem fc115_zero : zeroT Try.prog 115 = some [] := by kernel_rfl
theorem fc115_all : allPlaces Try.prog 115 = true := by kernel_rfl
theorem fc115_f0 : fieldT Try.prog 115 0 = some (0, 0, true) := by kernel_rfl
theorem fc115_p0 : placeT Try.prog 115 0 = some (0, 0) := by kernel_rfl
theorem fc116_load : loadT Try.prog 116 = some (0, true) := by kernel_rfl
theorem fc116_size : tySize Try.prog 116 = some 0 := by kernel_rfl
theorem fc116_zero : zeroT Try.prog 116 = some [] := by kernel_rfl
theorem fc116_all : allPlaces Try.prog 116 = true := by kernel_rfl
theorem fc116_f0 : fieldT Try.prog 116 0 = some (0, 0, true) := by kernel_rfl
theorem fc116_p0 : placeT Try.prog 116 0 = some (0, 0) := by kernel_rfl
theorem fc117_load : loadT Try.prog 117 = some (1, false) := by kernel_rfl
theorem fc117_size : tySize Try.prog 117 = some 1 := by kernel_rfl
theorem fc117_int : intT Try.prog 117 = some .u32 := by kernel_rfl
theorem fc117_isb : isBoolT Try.prog 117 = false := by kernel_rfl
theorem fc117_u : Try.prog.underlying 117 = some (.int .u32) := by kernel_rfl
theorem fc117_zero : zeroT Try.prog 117 = some [.int .u32 0] := by kernel_rfl
theorem fc118_load : loadT Try.prog 118 = some (1, false) := by kernel_rfl
theorem fc118_size : tySize Try.prog 118 = some 1 := by kernel_rfl
theorem fc118_int : intT Try.prog 118 = some .u8 := by kernel_rfl
theorem fc118_isb : isBoolT Try.prog 118 = false := by kernel_rfl
theorem fc118_u : Try.prog.underlying 118 = some (.int .u8) := by kernel_rfl
theorem fc118_zero : zeroT Try.prog 118 = some [.int .u8 0] := by kernel_rfl
theorem fc119_load : loadT Try.prog 119 = some (1, false) := by kernel_rfl
theorem fc119_size : tySize Try.prog 119 = some 1 := by kernel_rfl
theorem fc119_int : intT Try.prog 119 = some .u8 := by kernel_rfl
theorem fc119_isb : isBoolT Try.prog 119 = false := by kernel_rfl
theorem fc119_u : Try.prog.underlying 119 = some (.int .u8) := by kernel_rfl
theorem fc119_zero : zeroT Try.prog 119 = some [.int .u8 0] := by kernel_rfl
theorem fc120_load : loadT Try.prog 120 = some (1, false) := by kernel_rfl
theorem fc120_size : tySize Try.prog 120 = some 1 := by kernel_rfl
theorem fc120_zero : zeroT Try.prog 120 = some [.nilFunc] := by kernel_rfl
theorem fc121_load : loadT Try.prog 121 = some (1, false) := by kernel_rfl
theorem fc121_size : tySize Try.prog 121 = some 1 := by kernel_rfl
theorem fc121_zero : zeroT Try.prog 121 = some [.pointer none] := by kernel_rfl
theorem fc121_sl : sliceT Try.prog 121 = none := by kernel_rfl
theorem fc122_load : loadT Try.prog 122 = some (1, false) := by kernel_rfl
theorem fc122_size : tySize Try.prog 122 = some 1 := by kernel_rfl
theorem fc122_int : intT Try.prog 122 = some .i32 := by kernel_rfl
theorem fc122_isb : isBoolT Try.prog 122 = false := by kernel_rfl
theorem fc122_u : Try.prog.underlying 122 = some (.int .i32) := by kernel_rfl
theorem fc122_zero : zeroT Try.prog 122 = some [.int .i32 0] := by kernel_rfl
theorem fc123_load : loadT Try.prog 123 = some (1, false) := by kernel_rfl
theorem fc123_size : tySize Try.prog 123 = some 1 := by kernel_rfl
theorem fc123_int : intT Try.prog 123 = some .i32 := by kernel_rfl
theorem fc123_isb : isBoolT Try.prog 123 = false := by kernel_rfl
theorem fc123_u : Try.prog.underlying 123 = some (.int .i32) := by kernel_rfl
theorem fc123_zero : zeroT Try.prog 123 = some [.int .i32 0] := by kernel_rfl
theorem fc124_load : loadT Try.prog 124 = some (11, true) := by kernel_rfl
theorem fc124_size : tySize Try.prog 124 = some 11 := by kernel_rfl
theorem fc124_zero : zeroT Try.prog 124 = some [.int .u64 0, .int .u64 0, .int .u32 0, .int .u8 0, .int .u8 0, .int .u8 0, .int .u8 0, .nilFunc, .pointer none, .int .i32 0, .int .i32 0] := by kernel_rfl
theorem fc124_all : allPlaces Try.prog 124 = true := by kernel_rfl
theorem fc124_o0 : fieldOff Try.prog 124 0 = some 0 := by kernel_rfl
theorem fc124_f0 : fieldT Try.prog 124 0 = some (0, 1, false) := by kernel_rfl
theorem fc124_p0 : placeT Try.prog 124 0 = some (0, 1) := by kernel_rfl
theorem fc124_o1 : fieldOff Try.prog 124 1 = some 1 := by kernel_rfl
theorem fc124_f1 : fieldT Try.prog 124 1 = some (1, 1, false) := by kernel_rfl
theorem fc124_p1 : placeT Try.prog 124 1 = some (1, 1) := by kernel_rfl
theorem fc124_o2 : fieldOff Try.prog 124 2 = some 2 := by kernel_rfl
theorem fc124_f2 : fieldT Try.prog 124 2 = some (2, 1, false) := by kernel_rfl
theorem fc124_p2 : placeT Try.prog 124 2 = some (2, 1) := by kernel_rfl
theorem fc124_o3 : fieldOff Try.prog 124 3 = some 3 := by kernel_rfl
theorem fc124_f3 : fieldT Try.prog 124 3 = some (3, 1, false) := by kernel_rfl
theorem fc124_p3 : placeT Try.prog 124 3 = some (3, 1) := by kernel_rfl
theorem fc124_o4 : fieldOff Try.prog 124 4 = some 4 := by kernel_rfl
theorem fc124_f4 : fieldT Try.prog 124 4 = some (4, 1, false) := by kernel_rfl
theorem fc124_p4 : placeT Try.prog 124 4 = some (4, 1) := by kernel_rfl
theorem fc124_o5 : fieldOff Try.prog 124 5 = some 5 := by kernel_rfl
theorem fc124_f5 : fieldT Try.prog 124 5 = some (5, 1, false) := by kernel_rfl
theorem fc124_p5 : placeT Try.prog 124 5 = some (5, 1) := by kernel_rfl
theorem fc124_o6 : fieldOff Try.prog 124 6 = some 6 := by kernel_rfl
theorem fc124_f6 : fieldT Try.prog 124 6 = some (6, 1, false) := by kernel_rfl
theorem fc124_p6 : placeT Try.prog 124 6 = some (6, 1) := by kernel_rfl
theorem fc124_o7 : fieldOff Try.prog 124 7 = some 7 := by kernel_rfl
theorem fc124_f7 : fieldT Try.prog 124 7 = some (7, 1, false) := by kernel_rfl
theorem fc124_p7 : placeT Try.prog 124 7 = some (7, 1) := by kernel_rfl
theorem fc124_o8 : fieldOff Try.prog 124 8 = some 8 := by kernel_rfl
theorem fc124_f8 : fieldT Try.prog 124 8 = some (8, 1, false) := by kernel_rfl
theorem fc124_p8 : placeT Try.prog 124 8 = some (8, 1) := by kernel_rfl
theorem fc124_o9 : fieldOff Try.prog 124 9 = some 9 := by kernel_rfl
theorem fc124_f9 : fieldT Try.prog 124 9 = some (9, 1, false) := by kernel_rfl
theorem fc124_p9 : placeT Try.prog 124 9 = some (9, 1) := by kernel_rfl
theorem fc124_o10 : fieldOff Try.prog 124 10 = some 10 := by kernel_rfl
theorem fc124_f10 : fieldT Try.prog 124 10 = some (10, 1, false) := by kernel_rfl
theorem fc124_p10 : placeT Try.prog 124 10 = some (10, 1) := by kernel_rfl
theorem fc125_load : loadT Try.prog 125 = some (11, true) := by kernel_rfl
theorem fc125_size : tySize Try.prog 125 = some 11 := by kernel_rfl
theorem fc125_zero : zeroT Try.prog 125 = some [.int .u64 0, .int .u64 0, .int .u32 0, .int .u8 0, .int .u8 0, .int .u8 0, .int .u8 0, .nilFunc, .pointer none, .int .i32 0, .int .i32 0] := by kernel_rfl
theorem fc125_all : allPlaces Try.prog 125 = true := by kernel_rfl
theorem fc125_o0 : fieldOff Try.prog 125 0 = some 0 := by kernel_rfl
theorem fc125_f0 : fieldT Try.prog 125 0 = some (0, 1, false) := by kernel_rfl
theorem fc125_p0 : placeT Try.prog 125 0 = some (0, 1) := by kernel_rfl
theorem fc125_o1 : fieldOff Try.prog 125 1 = some 1 := by kernel_rfl
theorem fc125_f1 : fieldT Try.prog 125 1 = some (1, 1, false) := by kernel_rfl
theorem fc125_p1 : placeT Try.prog 125 1 = some (1, 1) := by kernel_rfl
theorem fc125_o2 : fieldOff Try.prog 125 2 = some 2 := by kernel_rfl
theorem fc125_f2 : fieldT Try.prog 125 2 = some (2, 1, false) := by kernel_rfl
theorem fc125_p2 : placeT Try.prog 125 2 = some (2, 1) := by kernel_rfl
theorem fc125_o3 : fieldOff Try.prog 125 3 = some 3 := by kernel_rfl
theorem fc125_f3 : fieldT Try.prog 125 3 = some (3, 1, false) := by kernel_rfl
theorem fc125_p3 : placeT Try.prog 125 3 = some (3, 1) := by kernel_rfl
theorem fc125_o4 : fieldOff Try.prog 125 4 = some 4 := by kernel_rfl
theorem fc125_f4 : fieldT Try.prog 125 4 = some (4, 1, false) := by kernel_rfl
theorem fc125_p4 : placeT Try.prog 125 4 = some (4, 1) := by kernel_rfl
theorem fc125_o5 : fieldOff Try.prog 125 5 = some 5 := by kernel_rfl
theorem fc125_f5 : fieldT Try.prog 125 5 = some (5, 1, false) := by kernel_rfl
theorem fc125_p5 : placeT Try.prog 125 5 = some (5, 1) := by kernel_rfl
theorem fc125_o6 : fieldOff Try.prog 125 6 = some 6 := by kernel_rfl
theorem fc125_f6 : fieldT Try.prog 125 6 = some (6, 1, false) := by kernel_rfl
theorem fc125_p6 : placeT Try.prog 125 6 = some (6, 1) := by kernel_rfl
theorem fc125_o7 : fieldOff Try.prog 125 7 = some 7 := by kernel_rfl
theorem fc125_f7 : fieldT Try.prog 125 7 = some (7, 1, false) := by kernel_rfl
theorem fc125_p7 : placeT Try.prog 125 7 = some (7, 1) := by kernel_rfl
theorem fc125_o8 : fieldOff Try.prog 125 8 = some 8 := by kernel_rfl
theorem fc125_f8 : fieldT Try.prog 125 8 = some (8, 1, false) := by kernel_rfl
theorem fc125_p8 : placeT Try.prog 125 8 = some (8, 1) := by kernel_rfl
theorem fc125_o9 : fieldOff Try.prog 125 9 = some 9 := by kernel_rfl
theorem fc125_f9 : fieldT Try.prog 125 9 = some (9, 1, false) := by kernel_rfl
theorem fc125_p9 : placeT Try.prog 125 9 = some (9, 1) := by kernel_rfl
theorem fc125_o10 : fieldOff Try.prog 125 10 = some 10 := by kernel_rfl
theorem fc125_f10 : fieldT Try.prog 125 10 = some (10, 1, false) := by kernel_rfl
theorem fc125_p10 : placeT Try.prog 125 10 = some (10, 1) := by kernel_rfl
attribute [go_sem] fc1_load fc1_size fc1_zero fc2_load fc2_size fc2_int fc2_isb fc2_u fc2_zero fc3_load fc3_size fc3_int fc3_isb fc3_u fc3_zero fc4_load fc4_size fc4_isb fc4_zero fc5_load fc5_size fc5_int fc5_isb fc5_u fc5_zero fc6_load fc6_size fc6_int fc6_isb fc6_u fc6_zero fc7_load fc7_size fc7_zero fc7_eq fc7_all fc7_o0 fc7_f0 fc7_p0 fc7_o1 fc7_f1 fc7_p1 fc7_o2 fc7_f2 fc7_p2 fc7_o3 fc7_f3 fc7_p3 fc8_load fc8_size fc8_zero fc8_eq fc8_all fc8_o0 fc8_f0 fc8_p0 fc8_o1 fc8_f1 fc8_p1 fc8_o2 fc8_f2 fc8_p2 fc8_o3 fc8_f3 fc8_p3 fc9_load fc9_size fc9_iss fc9_zero fc10_load fc10_size fc10_iss fc10_zero fc11_load fc11_size fc11_iss fc11_zero fc12_load fc12_size fc12_int fc12_isb fc12_u fc12_zero fc13_load fc13_size fc13_zero fc13_all fc13_o0 fc13_f0 fc13_p0 fc13_o1 fc13_f1 fc13_p1 fc14_load fc14_size fc14_zero fc14_all fc14_o0 fc14_f0 fc14_p0 fc14_o1 fc14_f1 fc14_p1 fc15_load fc15_size fc15_zero fc15_sl fc16_load fc16_size fc16_zero fc16_sl fc17_load fc17_size fc17_zero fc17_sl fc18_load fc18_size fc18_zero fc18_all fc18_o0 fc18_f0 fc18_p0 fc19_load fc19_size fc19_zero fc19_all fc19_o0 fc19_f0 fc19_p0 fc21_load fc21_size fc21_int fc21_isb fc21_u fc21_zero fc22_load fc22_size fc22_zero fc22_sl fc22_arr fc22_app fc22_z1 fc22_clear fc22_byt fc23_load fc23_size fc23_zero fc23_sl fc23_arr fc23_app fc23_z1 fc23_clear fc23_byt fc24_load fc24_size fc24_zero fc24_eq fc24_all fc24_o0 fc24_f0 fc24_p0 fc24_o1 fc24_f1 fc24_p1 fc24_o2 fc24_f2 fc24_p2 fc25_load fc25_size fc25_zero fc25_eq fc25_all fc25_o0 fc25_f0 fc25_p0 fc25_o1 fc25_f1 fc25_p1 fc25_o2 fc25_f2 fc25_p2 fc26_load fc26_size fc26_zero fc27_load fc27_size fc27_zero fc28_load fc28_size fc28_zero fc28_sl fc28_arr fc28_app fc28_z1 fc28_clear fc28_byt fc30_load fc30_size fc30_zero fc31_load fc31_size fc31_zero fc31_sl fc31_arr fc31_app fc31_z1 fc31_clear fc31_byt fc32_load fc32_size fc32_zero fc33_load fc33_size fc33_zero fc34_load fc34_size fc34_zero fc34_eq fc34_all fc34_o0 fc34_f0 fc34_p0 fc34_o1 fc34_f1 fc34_p1 fc34_o2 fc34_f2 fc34_p2 fc35_load fc35_size fc35_zero fc36_load fc36_size fc36_zero fc37_load fc37_size fc37_zero fc38_load fc38_size fc38_zero fc39_load fc39_size fc39_zero fc40_load fc40_size fc40_zero fc41_load fc41_size fc41_zero fc41_sl fc41_arr fc41_app fc41_z1 fc41_clear fc41_byt fc42_load fc42_size fc42_zero fc43_load fc43_size fc43_zero fc44_load fc44_size fc44_zero fc44_sl fc44_arr fc44_app fc44_z1 fc44_clear fc44_byt fc45_load fc45_size fc45_zero fc46_load fc46_size fc46_zero fc47_load fc47_size fc47_zero fc48_load fc48_size fc48_zero fc49_load fc49_size fc49_zero fc49_sl fc49_arr fc49_app fc49_z1 fc49_clear fc49_byt fc50_load fc50_size fc50_zero fc52_load fc52_size fc52_zero fc53_load fc53_size fc53_zero fc53_eq fc53_all fc53_o0 fc53_f0 fc53_p0 fc53_o1 fc53_f1 fc53_p1 fc53_o2 fc53_f2 fc53_p2 fc53_o3 fc53_f3 fc53_p3 fc54_load fc54_size fc54_zero fc54_eq fc54_all fc54_o0 fc54_f0 fc54_p0 fc54_o1 fc54_f1 fc54_p1 fc54_o2 fc54_f2 fc54_p2 fc54_o3 fc54_f3 fc54_p3 fc56_load fc56_size fc56_zero fc58_load fc58_size fc58_zero fc60_load fc60_size fc60_zero fc61_load fc61_size fc61_zero fc62_load fc62_size fc62_zero fc63_load fc63_size fc63_zero fc63_sl fc63_arr fc63_app fc63_z1 fc63_clear fc63_byt fc65_load fc65_size fc65_zero fc66_load fc66_size fc66_zero fc67_load fc67_size fc67_zero fc68_load fc68_size fc68_zero fc69_load fc69_size fc69_zero fc70_load fc70_size fc70_zero fc71_load fc71_size fc71_zero fc72_load fc72_size fc72_zero fc72_eq fc72_all fc72_o0 fc72_f0 fc72_p0 fc72_o1 fc72_f1 fc72_p1 fc72_o2 fc72_f2 fc72_p2 fc72_o3 fc72_f3 fc72_p3 fc73_load fc73_size fc73_zero fc73_eq fc73_all fc73_o0 fc73_f0 fc73_p0 fc73_o1 fc73_f1 fc73_p1 fc73_o2 fc73_f2 fc73_p2 fc73_o3 fc73_f3 fc73_p3 fc74_load fc74_size fc74_zero fc74_eq fc74_all fc74_o0 fc74_f0 fc74_p0 fc74_o1 fc74_f1 fc74_p1 fc74_o2 fc74_f2 fc74_p2 fc74_o3 fc74_f3 fc74_p3 fc75_load fc75_size fc75_zero fc76_load fc76_size fc76_zero fc76_eq fc76_all fc76_o0 fc76_f0 fc76_p0 fc76_o1 fc76_f1 fc76_p1 fc76_o2 fc76_f2 fc76_p2 fc76_o3 fc76_f3 fc76_p3 fc77_load fc77_size fc77_zero fc78_load fc78_size fc78_zero fc79_load fc79_size fc79_zero fc80_load fc80_size fc80_zero fc81_load fc81_size fc81_zero fc81_sl fc82_load fc82_size fc82_int fc82_isb fc82_u fc82_zero fc83_load fc83_size fc83_zero fc83_all fc83_o0 fc83_f0 fc83_p0 fc83_o1 fc83_f1 fc83_p1 fc83_o2 fc83_f2 fc83_p2 fc84_load fc84_size fc84_zero fc84_all fc84_o0 fc84_f0 fc84_p0 fc84_o1 fc84_f1 fc84_p1 fc84_o2 fc84_f2 fc84_p2 fc85_load fc85_size fc85_zero fc86_load fc86_size fc86_zero fc87_load fc87_size fc87_zero fc88_load fc88_size fc88_zero fc89_load fc89_size fc89_zero fc90_load fc90_size fc90_zero fc91_load fc91_size fc91_zero fc92_load fc92_size fc92_zero fc93_load fc93_size fc93_zero fc94_load fc94_size fc94_zero fc95_load fc95_size fc95_zero fc96_load fc96_size fc96_zero fc97_load fc97_size fc97_zero fc98_load fc98_size fc98_zero fc99_load fc99_size fc99_zero fc100_load fc100_size fc100_zero fc101_load fc101_size fc101_zero fc102_load fc102_size fc102_zero fc103_load fc103_size fc103_zero fc104_load fc104_size fc104_zero fc105_load fc105_size fc105_zero fc106_load fc106_size fc106_zero fc107_load fc107_size fc107_int fc107_isb fc107_u fc107_zero fc108_load fc108_size fc108_zero fc109_load fc109_size fc109_zero fc110_load fc110_size fc110_zero fc111_load fc111_size fc111_zero fc112_load fc112_size fc112_zero fc112_all fc112_o0 fc112_f0 fc112_p0 fc112_o1 fc112_f1 fc112_p1 fc112_o2 fc112_f2 fc112_p2 fc112_o3 fc112_f3 fc112_p3 fc113_load fc113_size fc113_zero fc113_all fc113_o0 fc113_f0 fc113_p0 fc113_o1 fc113_f1 fc113_p1 fc113_o2 fc113_f2 fc113_p2 fc113_o3 fc113_f3 fc113_p3 fc114_load fc114_size fc114_zero fc114_arr fc114_sl fc114_all fc115_load fc115_size fc115_zero fc115_all fc115_f0 fc115_p0 fc116_load fc116_size fc116_zero fc116_all fc116_f0 fc116_p0 fc117_load fc117_size fc117_int fc117_isb fc117_u fc117_zero fc118_load fc118_size fc118_int fc118_isb fc118_u fc118_zero fc119_load fc119_size fc119_int fc119_isb fc119_u fc119_zero fc120_load fc120_size fc120_zero fc121_load fc121_size fc121_zero fc121_sl fc122_load fc122_size fc122_int fc122_isb fc122_u fc122_zero fc123_load fc123_size fc123_int fc123_isb fc123_u fc123_zero fc124_load fc124_size fc124_zero fc124_all fc124_o0 fc124_f0 fc124_p0 fc124_o1 fc124_f1 fc124_p1 fc124_o2 fc124_f2 fc124_p2 fc124_o3 fc124_f3 fc124_p3 fc124_o4 fc124_f4 fc124_p4 fc124_o5 fc124_f5 fc124_p5 fc124_o6 fc124_f6 fc124_p6 fc124_o7 fc124_f7 fc124_p7 fc124_o8 fc124_f8 fc124_p8 fc124_o9 fc124_f9 fc124_p9 fc124_o10 fc124_f10 fc124_p10 fc125_load fc125_size fc125_zero fc125_all fc125_o0 fc125_f0 fc125_p0 fc125_o1 fc125_f1 fc125_p1 fc125_o2 fc125_f2 fc125_p2 fc125_o3 fc125_f3 fc125_p3 fc125_o4 fc125_f4 fc125_p4 fc125_o5 fc125_f5 fc125_p5 fc125_o6 fc125_f6 fc125_p6 fc125_o7 fc125_f7 fc125_p7 fc125_o8 fc125_f8 fc125_p8 fc125_o9 fc125_f9 fc125_p9 fc125_o10 fc125_f10 fc125_p10
end Go.Proofs.Ytokafhinmakdnaa
