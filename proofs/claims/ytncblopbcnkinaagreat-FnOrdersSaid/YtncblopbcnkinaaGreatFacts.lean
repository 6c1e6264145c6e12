/- The closed facts on the types of this seat's program, each by the kernel. Written by program. -/
import Derived.Test.YtncblopbcnkinaaGreatAm10
import Derived.Test.YtncblopbcnkinaaGreatRows
namespace Go.Proofs.YtncblopbcnkinaaGreat
open Go.Am
theorem fc1_load : loadT Tryz.prog 1 = some (1, false) := by kernel_rfl
theorem fc1_size : tySize Tryz.prog 1 = some 1 := by kernel_rfl
theorem fc1_zero : zeroT Tryz.prog 1 = some [.nilFunc] := by kernel_rfl
theorem fc2_load : loadT Tryz.prog 2 = some (1, false) := by kernel_rfl
theorem fc2_size : tySize Tryz.prog 2 = some 1 := by kernel_rfl
theorem fc2_int : intT Tryz.prog 2 = some .i64 := by kernel_rfl
theorem fc2_isb : isBoolT Tryz.prog 2 = false := by kernel_rfl
theorem fc2_u : Tryz.prog.underlying 2 = some (.int .i64) := by kernel_rfl
theorem fc2_zero : zeroT Tryz.prog 2 = some [.int .i64 0] := by kernel_rfl
theorem fc3_load : loadT Tryz.prog 3 = some (1, false) := by kernel_rfl
theorem fc3_size : tySize Tryz.prog 3 = some 1 := by kernel_rfl
theorem fc3_int : intT Tryz.prog 3 = some .i64 := by kernel_rfl
theorem fc3_isb : isBoolT Tryz.prog 3 = false := by kernel_rfl
theorem fc3_u : Tryz.prog.underlying 3 = some (.int .i64) := by kernel_rfl
theorem fc3_zero : zeroT Tryz.prog 3 = some [.int .i64 0] := by kernel_rfl
theorem fc4_load : loadT Tryz.prog 4 = some (1, false) := by kernel_rfl
theorem fc4_size : tySize Tryz.prog 4 = some 1 := by kernel_rfl
theorem fc4_isb : isBoolT Tryz.prog 4 = true := by kernel_rfl
theorem fc4_zero : zeroT Tryz.prog 4 = some [.bool false] := by kernel_rfl
theorem fc5_load : loadT Tryz.prog 5 = some (1, false) := by kernel_rfl
theorem fc5_size : tySize Tryz.prog 5 = some 1 := by kernel_rfl
theorem fc5_int : intT Tryz.prog 5 = some .u8 := by kernel_rfl
theorem fc5_isb : isBoolT Tryz.prog 5 = false := by kernel_rfl
theorem fc5_u : Tryz.prog.underlying 5 = some (.int .u8) := by kernel_rfl
theorem fc5_zero : zeroT Tryz.prog 5 = some [.int .u8 0] := by kernel_rfl
theorem fc6_load : loadT Tryz.prog 6 = some (1, false) := by kernel_rfl
theorem fc6_size : tySize Tryz.prog 6 = some 1 := by kernel_rfl
theorem fc6_int : intT Tryz.prog 6 = some .u8 := by kernel_rfl
theorem fc6_isb : isBoolT Tryz.prog 6 = false := by kernel_rfl
theorem fc6_u : Tryz.prog.underlying 6 = some (.int .u8) := by kernel_rfl
theorem fc6_zero : zeroT Tryz.prog 6 = some [.int .u8 0] := by kernel_rfl
theorem fc7_load : loadT Tryz.prog 7 = some (4, true) := by kernel_rfl
theorem fc7_size : tySize Tryz.prog 7 = some 4 := by kernel_rfl
theorem fc7_zero : zeroT Tryz.prog 7 = some [.int .i64 0, .int .i64 0, .bool false, .int .u8 0] := by kernel_rfl
theorem fc7_eq : eqT Tryz.prog 7 = some [(0, false), (1, false), (2, true), (3, false)] := by kernel_rfl
theorem fc7_all : allPlaces Tryz.prog 7 = true := by kernel_rfl
theorem fc7_o0 : fieldOff Tryz.prog 7 0 = some 0 := by kernel_rfl
theorem fc7_f0 : fieldT Tryz.prog 7 0 = some (0, 1, false) := by kernel_rfl
theorem fc7_p0 : placeT Tryz.prog 7 0 = some (0, 1) := by kernel_rfl
theorem fc7_o1 : fieldOff Tryz.prog 7 1 = some 1 := by kernel_rfl
theorem fc7_f1 : fieldT Tryz.prog 7 1 = some (1, 1, false) := by kernel_rfl
theorem fc7_p1 : placeT Tryz.prog 7 1 = some (1, 1) := by kernel_rfl
theorem fc7_o2 : fieldOff Tryz.prog 7 2 = some 2 := by kernel_rfl
theorem fc7_f2 : fieldT Tryz.prog 7 2 = some (2, 1, false) := by kernel_rfl
theorem fc7_p2 : placeT Tryz.prog 7 2 = some (2, 1) := by kernel_rfl
theorem fc7_o3 : fieldOff Tryz.prog 7 3 = some 3 := by kernel_rfl
theorem fc7_f3 : fieldT Tryz.prog 7 3 = some (3, 1, false) := by kernel_rfl
theorem fc7_p3 : placeT Tryz.prog 7 3 = some (3, 1) := by kernel_rfl
theorem fc8_load : loadT Tryz.prog 8 = some (4, true) := by kernel_rfl
theorem fc8_size : tySize Tryz.prog 8 = some 4 := by kernel_rfl
theorem fc8_zero : zeroT Tryz.prog 8 = some [.int .i64 0, .int .i64 0, .bool false, .int .u8 0] := by kernel_rfl
theorem fc8_eq : eqT Tryz.prog 8 = some [(0, false), (1, false), (2, true), (3, false)] := by kernel_rfl
theorem fc8_all : allPlaces Tryz.prog 8 = true := by kernel_rfl
theorem fc8_o0 : fieldOff Tryz.prog 8 0 = some 0 := by kernel_rfl
theorem fc8_f0 : fieldT Tryz.prog 8 0 = some (0, 1, false) := by kernel_rfl
theorem fc8_p0 : placeT Tryz.prog 8 0 = some (0, 1) := by kernel_rfl
theorem fc8_o1 : fieldOff Tryz.prog 8 1 = some 1 := by kernel_rfl
theorem fc8_f1 : fieldT Tryz.prog 8 1 = some (1, 1, false) := by kernel_rfl
theorem fc8_p1 : placeT Tryz.prog 8 1 = some (1, 1) := by kernel_rfl
theorem fc8_o2 : fieldOff Tryz.prog 8 2 = some 2 := by kernel_rfl
theorem fc8_f2 : fieldT Tryz.prog 8 2 = some (2, 1, false) := by kernel_rfl
theorem fc8_p2 : placeT Tryz.prog 8 2 = some (2, 1) := by kernel_rfl
theorem fc8_o3 : fieldOff Tryz.prog 8 3 = some 3 := by kernel_rfl
theorem fc8_f3 : fieldT Tryz.prog 8 3 = some (3, 1, false) := by kernel_rfl
theorem fc8_p3 : placeT Tryz.prog 8 3 = some (3, 1) := by kernel_rfl
theorem fc9_load : loadT Tryz.prog 9 = some (1, false) := by kernel_rfl
theorem fc9_size : tySize Tryz.prog 9 = some 1 := by kernel_rfl
theorem fc9_iss : isStrT Tryz.prog 9 = true := by kernel_rfl
theorem fc9_zero : zeroT Tryz.prog 9 = some [.string ⟨#[]⟩] := by kernel_rfl
theorem fc10_load : loadT Tryz.prog 10 = some (1, false) := by kernel_rfl
theorem fc10_size : tySize Tryz.prog 10 = some 1 := by kernel_rfl
theorem fc10_iss : isStrT Tryz.prog 10 = true := by kernel_rfl
theorem fc10_zero : zeroT Tryz.prog 10 = some [.string ⟨#[]⟩] := by kernel_rfl
theorem fc11_load : loadT Tryz.prog 11 = some (1, false) := by kernel_rfl
theorem fc11_size : tySize Tryz.prog 11 = some 1 := by kernel_rfl
theorem fc11_iss : isStrT Tryz.prog 11 = true := by kernel_rfl
theorem fc11_zero : zeroT Tryz.prog 11 = some [.string ⟨#[]⟩] := by kernel_rfl
theorem fc12_load : loadT Tryz.prog 12 = some (1, false) := by kernel_rfl
theorem fc12_size : tySize Tryz.prog 12 = some 1 := by kernel_rfl
theorem fc12_int : intT Tryz.prog 12 = some .u64 := by kernel_rfl
theorem fc12_isb : isBoolT Tryz.prog 12 = false := by kernel_rfl
theorem fc12_u : Tryz.prog.underlying 12 = some (.int .u64) := by kernel_rfl
theorem fc12_zero : zeroT Tryz.prog 12 = some [.int .u64 0] := by kernel_rfl
theorem fc13_load : loadT Tryz.prog 13 = some (2, true) := by kernel_rfl
theorem fc13_size : tySize Tryz.prog 13 = some 2 := by kernel_rfl
theorem fc13_zero : zeroT Tryz.prog 13 = some [.string ⟨#[]⟩, .int .u64 0] := by kernel_rfl
theorem fc13_all : allPlaces Tryz.prog 13 = true := by kernel_rfl
theorem fc13_o0 : fieldOff Tryz.prog 13 0 = some 0 := by kernel_rfl
theorem fc13_f0 : fieldT Tryz.prog 13 0 = some (0, 1, false) := by kernel_rfl
theorem fc13_p0 : placeT Tryz.prog 13 0 = some (0, 1) := by kernel_rfl
theorem fc13_o1 : fieldOff Tryz.prog 13 1 = some 1 := by kernel_rfl
theorem fc13_f1 : fieldT Tryz.prog 13 1 = some (1, 1, false) := by kernel_rfl
theorem fc13_p1 : placeT Tryz.prog 13 1 = some (1, 1) := by kernel_rfl
theorem fc14_load : loadT Tryz.prog 14 = some (2, true) := by kernel_rfl
theorem fc14_size : tySize Tryz.prog 14 = some 2 := by kernel_rfl
theorem fc14_zero : zeroT Tryz.prog 14 = some [.string ⟨#[]⟩, .int .u64 0] := by kernel_rfl
theorem fc14_all : allPlaces Tryz.prog 14 = true := by kernel_rfl
theorem fc14_o0 : fieldOff Tryz.prog 14 0 = some 0 := by kernel_rfl
theorem fc14_f0 : fieldT Tryz.prog 14 0 = some (0, 1, false) := by kernel_rfl
theorem fc14_p0 : placeT Tryz.prog 14 0 = some (0, 1) := by kernel_rfl
theorem fc14_o1 : fieldOff Tryz.prog 14 1 = some 1 := by kernel_rfl
theorem fc14_f1 : fieldT Tryz.prog 14 1 = some (1, 1, false) := by kernel_rfl
theorem fc14_p1 : placeT Tryz.prog 14 1 = some (1, 1) := by kernel_rfl
theorem fc15_load : loadT Tryz.prog 15 = some (1, false) := by kernel_rfl
theorem fc15_size : tySize Tryz.prog 15 = some 1 := by kernel_rfl
theorem fc15_zero : zeroT Tryz.prog 15 = some [.pointer none] := by kernel_rfl
theorem fc15_sl : sliceT Tryz.prog 15 = none := by kernel_rfl
theorem fc16_load : loadT Tryz.prog 16 = some (1, false) := by kernel_rfl
theorem fc16_size : tySize Tryz.prog 16 = some 1 := by kernel_rfl
theorem fc16_zero : zeroT Tryz.prog 16 = some [.pointer none] := by kernel_rfl
theorem fc16_sl : sliceT Tryz.prog 16 = none := by kernel_rfl
theorem fc17_load : loadT Tryz.prog 17 = some (1, false) := by kernel_rfl
theorem fc17_size : tySize Tryz.prog 17 = some 1 := by kernel_rfl
theorem fc17_zero : zeroT Tryz.prog 17 = some [.pointer none] := by kernel_rfl
theorem fc17_sl : sliceT Tryz.prog 17 = none := by kernel_rfl
theorem fc18_load : loadT Tryz.prog 18 = some (1, true) := by kernel_rfl
theorem fc18_size : tySize Tryz.prog 18 = some 1 := by kernel_rfl
theorem fc18_zero : zeroT Tryz.prog 18 = some [.pointer none] := by kernel_rfl
theorem fc18_all : allPlaces Tryz.prog 18 = true := by kernel_rfl
theorem fc18_o0 : fieldOff Tryz.prog 18 0 = some 0 := by kernel_rfl
theorem fc18_f0 : fieldT Tryz.prog 18 0 = some (0, 1, false) := by kernel_rfl
theorem fc18_p0 : placeT Tryz.prog 18 0 = some (0, 1) := by kernel_rfl
theorem fc19_load : loadT Tryz.prog 19 = some (1, true) := by kernel_rfl
theorem fc19_size : tySize Tryz.prog 19 = some 1 := by kernel_rfl
theorem fc19_zero : zeroT Tryz.prog 19 = some [.pointer none] := by kernel_rfl
theorem fc19_all : allPlaces Tryz.prog 19 = true := by kernel_rfl
theorem fc19_o0 : fieldOff Tryz.prog 19 0 = some 0 := by kernel_rfl
theorem fc19_f0 : fieldT Tryz.prog 19 0 = some (0, 1, false) := by kernel_rfl
theorem fc19_p0 : placeT Tryz.prog 19 0 = some (0, 1) := by kernel_rfl
theorem fc21_load : loadT Tryz.prog 21 = some (1, false) := by kernel_rfl
theorem fc21_size : tySize Tryz.prog 21 = some 1 := by kernel_rfl
theorem fc21_int : intT Tryz.prog 21 = some .i32 := by kernel_rfl
theorem fc21_isb : isBoolT Tryz.prog 21 = false := by kernel_rfl
theorem fc21_u : Tryz.prog.underlying 21 = some (.int .i32) := by kernel_rfl
theorem fc21_zero : zeroT Tryz.prog 21 = some [.int .i32 0] := by kernel_rfl
theorem fc22_load : loadT Tryz.prog 22 = some (1, false) := by kernel_rfl
theorem fc22_size : tySize Tryz.prog 22 = some 1 := by kernel_rfl
theorem fc22_zero : zeroT Tryz.prog 22 = some [.slice none 0 0] := by kernel_rfl
theorem fc22_sl : sliceT Tryz.prog 22 = some (5, 1) := by kernel_rfl
theorem fc22_arr : arrT Tryz.prog 22 = none := by kernel_rfl
theorem fc22_app : appT Tryz.prog 22 = some (5, 1, 1) := by kernel_rfl
theorem fc22_z1 : zeroNT Tryz.prog 22 = some (5, [.int .u8 0], 1) := by kernel_rfl
theorem fc22_clear : clearT Tryz.prog 22 = some [.int .u8 0] := by kernel_rfl
theorem fc22_byt : bytesT Tryz.prog 22 = true := by kernel_rfl
theorem fc23_load : loadT Tryz.prog 23 = some (1, false) := by kernel_rfl
theorem fc23_size : tySize Tryz.prog 23 = some 1 := by kernel_rfl
theorem fc23_zero : zeroT Tryz.prog 23 = some [.nilFunc] := by kernel_rfl
theorem fc24_load : loadT Tryz.prog 24 = some (1, false) := by kernel_rfl
theorem fc24_size : tySize Tryz.prog 24 = some 1 := by kernel_rfl
theorem fc24_zero : zeroT Tryz.prog 24 = some [.slice none 0 0] := by kernel_rfl
theorem fc24_sl : sliceT Tryz.prog 24 = some (78, 4) := by kernel_rfl
theorem fc24_arr : arrT Tryz.prog 24 = none := by kernel_rfl
theorem fc24_app : appT Tryz.prog 24 = some (78, 4, 32) := by kernel_rfl
theorem fc24_z1 : zeroNT Tryz.prog 24 = some (78, [.int .i64 0, .int .i64 0, .int .i64 0, .int .i64 0], 32) := by kernel_rfl
theorem fc24_clear : clearT Tryz.prog 24 = some [.int .i64 0, .int .i64 0, .int .i64 0, .int .i64 0] := by kernel_rfl
theorem fc24_byt : bytesT Tryz.prog 24 = false := by kernel_rfl
theorem fc25_load : loadT Tryz.prog 25 = some (2, true) := by kernel_rfl
theorem fc25_size : tySize Tryz.prog 25 = some 2 := by kernel_rfl
theorem fc25_zero : zeroT Tryz.prog 25 = some [.int .i64 0, .slice none 0 0] := by kernel_rfl
theorem fc25_all : allPlaces Tryz.prog 25 = true := by kernel_rfl
theorem fc25_o0 : fieldOff Tryz.prog 25 0 = some 0 := by kernel_rfl
theorem fc25_f0 : fieldT Tryz.prog 25 0 = some (0, 1, false) := by kernel_rfl
theorem fc25_p0 : placeT Tryz.prog 25 0 = some (0, 1) := by kernel_rfl
theorem fc25_o1 : fieldOff Tryz.prog 25 1 = some 1 := by kernel_rfl
theorem fc25_f1 : fieldT Tryz.prog 25 1 = some (1, 1, false) := by kernel_rfl
theorem fc25_p1 : placeT Tryz.prog 25 1 = some (1, 1) := by kernel_rfl
theorem fc26_load : loadT Tryz.prog 26 = some (2, true) := by kernel_rfl
theorem fc26_size : tySize Tryz.prog 26 = some 2 := by kernel_rfl
theorem fc26_zero : zeroT Tryz.prog 26 = some [.int .i64 0, .slice none 0 0] := by kernel_rfl
theorem fc26_all : allPlaces Tryz.prog 26 = true := by kernel_rfl
theorem fc26_o0 : fieldOff Tryz.prog 26 0 = some 0 := by kernel_rfl
theorem fc26_f0 : fieldT Tryz.prog 26 0 = some (0, 1, false) := by kernel_rfl
theorem fc26_p0 : placeT Tryz.prog 26 0 = some (0, 1) := by kernel_rfl
theorem fc26_o1 : fieldOff Tryz.prog 26 1 = some 1 := by kernel_rfl
theorem fc26_f1 : fieldT Tryz.prog 26 1 = some (1, 1, false) := by kernel_rfl
theorem fc26_p1 : placeT Tryz.prog 26 1 = some (1, 1) := by kernel_rfl
theorem fc27_load : loadT Tryz.prog 27 = some (1, false) := by kernel_rfl
theorem fc27_size : tySize Tryz.prog 27 = some 1 := by kernel_rfl
theorem fc27_zero : zeroT Tryz.prog 27 = some [.slice none 0 0] := by kernel_rfl
theorem fc27_sl : sliceT Tryz.prog 27 = some (71, 4) := by kernel_rfl
theorem fc27_arr : arrT Tryz.prog 27 = none := by kernel_rfl
theorem fc27_app : appT Tryz.prog 27 = some (71, 4, 32) := by kernel_rfl
theorem fc27_z1 : zeroNT Tryz.prog 27 = some (71, [.int .i64 0, .int .i64 0, .int .i64 0, .bool false], 32) := by kernel_rfl
theorem fc27_clear : clearT Tryz.prog 27 = some [.int .i64 0, .int .i64 0, .int .i64 0, .bool false] := by kernel_rfl
theorem fc27_byt : bytesT Tryz.prog 27 = false := by kernel_rfl
theorem fc28_load : loadT Tryz.prog 28 = some (1, false) := by kernel_rfl
theorem fc28_size : tySize Tryz.prog 28 = some 1 := by kernel_rfl
theorem fc28_zero : zeroT Tryz.prog 28 = some [.slice none 0 0] := by kernel_rfl
theorem fc28_sl : sliceT Tryz.prog 28 = some (3, 1) := by kernel_rfl
theorem fc28_arr : arrT Tryz.prog 28 = none := by kernel_rfl
theorem fc28_app : appT Tryz.prog 28 = some (3, 1, 8) := by kernel_rfl
theorem fc28_z1 : zeroNT Tryz.prog 28 = some (3, [.int .i64 0], 8) := by kernel_rfl
theorem fc28_clear : clearT Tryz.prog 28 = some [.int .i64 0] := by kernel_rfl
theorem fc28_byt : bytesT Tryz.prog 28 = false := by kernel_rfl
theorem fc30_load : loadT Tryz.prog 30 = some (1, false) := by kernel_rfl
theorem fc30_size : tySize Tryz.prog 30 = some 1 := by kernel_rfl
theorem fc30_zero : zeroT Tryz.prog 30 = some [.nilFunc] := by kernel_rfl
theorem fc32_load : loadT Tryz.prog 32 = some (1, false) := by kernel_rfl
theorem fc32_size : tySize Tryz.prog 32 = some 1 := by kernel_rfl
theorem fc32_zero : zeroT Tryz.prog 32 = some [.nilFunc] := by kernel_rfl
theorem fc34_load : loadT Tryz.prog 34 = some (1, false) := by kernel_rfl
theorem fc34_size : tySize Tryz.prog 34 = some 1 := by kernel_rfl
theorem fc34_zero : zeroT Tryz.prog 34 = some [.nilFunc] := by kernel_rfl
theorem fc36_load : loadT Tryz.prog 36 = some (1, false) := by kernel_rfl
theorem fc36_size : tySize Tryz.prog 36 = some 1 := by kernel_rfl
theorem fc36_zero : zeroT Tryz.prog 36 = some [.nilFunc] := by kernel_rfl
theorem fc37_load : loadT Tryz.prog 37 = some (1, false) := by kernel_rfl
theorem fc37_size : tySize Tryz.prog 37 = some 1 := by kernel_rfl
theorem fc37_zero : zeroT Tryz.prog 37 = some [.nilFunc] := by kernel_rfl
theorem fc39_load : loadT Tryz.prog 39 = some (1, false) := by kernel_rfl
theorem fc39_size : tySize Tryz.prog 39 = some 1 := by kernel_rfl
theorem fc39_zero : zeroT Tryz.prog 39 = some [.nilFunc] := by kernel_rfl
theorem fc40_load : loadT Tryz.prog 40 = some (1, false) := by kernel_rfl
theorem fc40_size : tySize Tryz.prog 40 = some 1 := by kernel_rfl
theorem fc40_zero : zeroT Tryz.prog 40 = some [.nilFunc] := by kernel_rfl
theorem fc41_load : loadT Tryz.prog 41 = some (1, false) := by kernel_rfl
theorem fc41_size : tySize Tryz.prog 41 = some 1 := by kernel_rfl
theorem fc41_zero : zeroT Tryz.prog 41 = some [.pointer none] := by kernel_rfl
theorem fc41_sl : sliceT Tryz.prog 41 = none := by kernel_rfl
theorem fc42_load : loadT Tryz.prog 42 = some (1, false) := by kernel_rfl
theorem fc42_size : tySize Tryz.prog 42 = some 1 := by kernel_rfl
theorem fc42_int : intT Tryz.prog 42 = some .u64 := by kernel_rfl
theorem fc42_isb : isBoolT Tryz.prog 42 = false := by kernel_rfl
theorem fc42_u : Tryz.prog.underlying 42 = some (.int .u64) := by kernel_rfl
theorem fc42_zero : zeroT Tryz.prog 42 = some [.int .u64 0] := by kernel_rfl
theorem fc43_load : loadT Tryz.prog 43 = some (3, true) := by kernel_rfl
theorem fc43_size : tySize Tryz.prog 43 = some 3 := by kernel_rfl
theorem fc43_zero : zeroT Tryz.prog 43 = some [.slice none 0 0, .int .i64 0, .int .u64 0] := by kernel_rfl
theorem fc43_all : allPlaces Tryz.prog 43 = true := by kernel_rfl
theorem fc43_o0 : fieldOff Tryz.prog 43 0 = some 0 := by kernel_rfl
theorem fc43_f0 : fieldT Tryz.prog 43 0 = some (0, 1, false) := by kernel_rfl
theorem fc43_p0 : placeT Tryz.prog 43 0 = some (0, 1) := by kernel_rfl
theorem fc43_o1 : fieldOff Tryz.prog 43 1 = some 1 := by kernel_rfl
theorem fc43_f1 : fieldT Tryz.prog 43 1 = some (1, 1, false) := by kernel_rfl
theorem fc43_p1 : placeT Tryz.prog 43 1 = some (1, 1) := by kernel_rfl
theorem fc43_o2 : fieldOff Tryz.prog 43 2 = some 2 := by kernel_rfl
theorem fc43_f2 : fieldT Tryz.prog 43 2 = some (2, 1, false) := by kernel_rfl
theorem fc43_p2 : placeT Tryz.prog 43 2 = some (2, 1) := by kernel_rfl
theorem fc44_load : loadT Tryz.prog 44 = some (3, true) := by kernel_rfl
theorem fc44_size : tySize Tryz.prog 44 = some 3 := by kernel_rfl
theorem fc44_zero : zeroT Tryz.prog 44 = some [.slice none 0 0, .int .i64 0, .int .u64 0] := by kernel_rfl
theorem fc44_all : allPlaces Tryz.prog 44 = true := by kernel_rfl
theorem fc44_o0 : fieldOff Tryz.prog 44 0 = some 0 := by kernel_rfl
theorem fc44_f0 : fieldT Tryz.prog 44 0 = some (0, 1, false) := by kernel_rfl
theorem fc44_p0 : placeT Tryz.prog 44 0 = some (0, 1) := by kernel_rfl
theorem fc44_o1 : fieldOff Tryz.prog 44 1 = some 1 := by kernel_rfl
theorem fc44_f1 : fieldT Tryz.prog 44 1 = some (1, 1, false) := by kernel_rfl
theorem fc44_p1 : placeT Tryz.prog 44 1 = some (1, 1) := by kernel_rfl
theorem fc44_o2 : fieldOff Tryz.prog 44 2 = some 2 := by kernel_rfl
theorem fc44_f2 : fieldT Tryz.prog 44 2 = some (2, 1, false) := by kernel_rfl
theorem fc44_p2 : placeT Tryz.prog 44 2 = some (2, 1) := by kernel_rfl
theorem fc45_load : loadT Tryz.prog 45 = some (1, false) := by kernel_rfl
theorem fc45_size : tySize Tryz.prog 45 = some 1 := by kernel_rfl
theorem fc45_zero : zeroT Tryz.prog 45 = some [.nilFunc] := by kernel_rfl
theorem fc46_load : loadT Tryz.prog 46 = some (1, false) := by kernel_rfl
theorem fc46_size : tySize Tryz.prog 46 = some 1 := by kernel_rfl
theorem fc46_zero : zeroT Tryz.prog 46 = some [.nilFunc] := by kernel_rfl
theorem fc47_load : loadT Tryz.prog 47 = some (1, false) := by kernel_rfl
theorem fc47_size : tySize Tryz.prog 47 = some 1 := by kernel_rfl
theorem fc47_zero : zeroT Tryz.prog 47 = some [.nilFunc] := by kernel_rfl
theorem fc48_load : loadT Tryz.prog 48 = some (1, false) := by kernel_rfl
theorem fc48_size : tySize Tryz.prog 48 = some 1 := by kernel_rfl
theorem fc48_zero : zeroT Tryz.prog 48 = some [.nilFunc] := by kernel_rfl
theorem fc50_load : loadT Tryz.prog 50 = some (1, false) := by kernel_rfl
theorem fc50_size : tySize Tryz.prog 50 = some 1 := by kernel_rfl
theorem fc50_zero : zeroT Tryz.prog 50 = some [.nilFunc] := by kernel_rfl
theorem fc51_load : loadT Tryz.prog 51 = some (1, false) := by kernel_rfl
theorem fc51_size : tySize Tryz.prog 51 = some 1 := by kernel_rfl
theorem fc51_zero : zeroT Tryz.prog 51 = some [.nilFunc] := by kernel_rfl
theorem fc52_load : loadT Tryz.prog 52 = some (1, false) := by kernel_rfl
theorem fc52_size : tySize Tryz.prog 52 = some 1 := by kernel_rfl
theorem fc52_zero : zeroT Tryz.prog 52 = some [.nilFunc] := by kernel_rfl
theorem fc53_load : loadT Tryz.prog 53 = some (1, false) := by kernel_rfl
theorem fc53_size : tySize Tryz.prog 53 = some 1 := by kernel_rfl
theorem fc53_zero : zeroT Tryz.prog 53 = some [.nilFunc] := by kernel_rfl
theorem fc54_load : loadT Tryz.prog 54 = some (1, false) := by kernel_rfl
theorem fc54_size : tySize Tryz.prog 54 = some 1 := by kernel_rfl
theorem fc54_zero : zeroT Tryz.prog 54 = some [.nilFunc] := by kernel_rfl
theorem fc55_load : loadT Tryz.prog 55 = some (1, false) := by kernel_rfl
theorem fc55_size : tySize Tryz.prog 55 = some 1 := by kernel_rfl
theorem fc55_zero : zeroT Tryz.prog 55 = some [.nilFunc] := by kernel_rfl
theorem fc56_load : loadT Tryz.prog 56 = some (1, false) := by kernel_rfl
theorem fc56_size : tySize Tryz.prog 56 = some 1 := by kernel_rfl
theorem fc56_zero : zeroT Tryz.prog 56 = some [.nilFunc] := by kernel_rfl
theorem fc57_load : loadT Tryz.prog 57 = some (1, false) := by kernel_rfl
theorem fc57_size : tySize Tryz.prog 57 = some 1 := by kernel_rfl
theorem fc57_zero : zeroT Tryz.prog 57 = some [.nilFunc] := by kernel_rfl
theorem fc58_load : loadT Tryz.prog 58 = some (1, false) := by kernel_rfl
theorem fc58_size : tySize Tryz.prog 58 = some 1 := by kernel_rfl
theorem fc58_zero : zeroT Tryz.prog 58 = some [.nilFunc] := by kernel_rfl
theorem fc59_load : loadT Tryz.prog 59 = some (1, false) := by kernel_rfl
theorem fc59_size : tySize Tryz.prog 59 = some 1 := by kernel_rfl
theorem fc59_zero : zeroT Tryz.prog 59 = some [.nilFunc] := by kernel_rfl
theorem fc60_load : loadT Tryz.prog 60 = some (1, false) := by kernel_rfl
theorem fc60_size : tySize Tryz.prog 60 = some 1 := by kernel_rfl
theorem fc60_zero : zeroT Tryz.prog 60 = some [.nilFunc] := by kernel_rfl
theorem fc61_load : loadT Tryz.prog 61 = some (1, false) := by kernel_rfl
theorem fc61_size : tySize Tryz.prog 61 = some 1 := by kernel_rfl
theorem fc61_zero : zeroT Tryz.prog 61 = some [.nilFunc] := by kernel_rfl
theorem fc62_load : loadT Tryz.prog 62 = some (1, false) := by kernel_rfl
theorem fc62_size : tySize Tryz.prog 62 = some 1 := by kernel_rfl
theorem fc62_zero : zeroT Tryz.prog 62 = some [.nilFunc] := by kernel_rfl
theorem fc63_load : loadT Tryz.prog 63 = some (1, false) := by kernel_rfl
theorem fc63_size : tySize Tryz.prog 63 = some 1 := by kernel_rfl
theorem fc63_zero : zeroT Tryz.prog 63 = some [.nilFunc] := by kernel_rfl
theorem fc64_load : loadT Tryz.prog 64 = some (1, false) := by kernel_rfl
theorem fc64_size : tySize Tryz.prog 64 = some 1 := by kernel_rfl
theorem fc64_zero : zeroT Tryz.prog 64 = some [.nilFunc] := by kernel_rfl
theorem fc65_load : loadT Tryz.prog 65 = some (1, false) := by kernel_rfl
theorem fc65_size : tySize Tryz.prog 65 = some 1 := by kernel_rfl
theorem fc65_zero : zeroT Tryz.prog 65 = some [.nilFunc] := by kernel_rfl
theorem fc66_load : loadT Tryz.prog 66 = some (1, false) := by kernel_rfl
theorem fc66_size : tySize Tryz.prog 66 = some 1 := by kernel_rfl
theorem fc66_zero : zeroT Tryz.prog 66 = some [.nilFunc] := by kernel_rfl
theorem fc67_load : loadT Tryz.prog 67 = some (1, false) := by kernel_rfl
theorem fc67_size : tySize Tryz.prog 67 = some 1 := by kernel_rfl
theorem fc67_zero : zeroT Tryz.prog 67 = some [.nilFunc] := by kernel_rfl
theorem fc68_load : loadT Tryz.prog 68 = some (1, false) := by kernel_rfl
theorem fc68_size : tySize Tryz.prog 68 = some 1 := by kernel_rfl
theorem fc68_zero : zeroT Tryz.prog 68 = some [.pointer none] := by kernel_rfl
theorem fc68_sl : sliceT Tryz.prog 68 = none := by kernel_rfl
theorem fc69_load : loadT Tryz.prog 69 = some (1, false) := by kernel_rfl
theorem fc69_size : tySize Tryz.prog 69 = some 1 := by kernel_rfl
theorem fc69_zero : zeroT Tryz.prog 69 = some [.nilFunc] := by kernel_rfl
theorem fc70_load : loadT Tryz.prog 70 = some (4, true) := by kernel_rfl
theorem fc70_size : tySize Tryz.prog 70 = some 4 := by kernel_rfl
theorem fc70_zero : zeroT Tryz.prog 70 = some [.int .i64 0, .int .i64 0, .int .i64 0, .bool false] := by kernel_rfl
theorem fc70_eq : eqT Tryz.prog 70 = some [(0, false), (1, false), (2, false), (3, true)] := by kernel_rfl
theorem fc70_all : allPlaces Tryz.prog 70 = true := by kernel_rfl
theorem fc70_o0 : fieldOff Tryz.prog 70 0 = some 0 := by kernel_rfl
theorem fc70_f0 : fieldT Tryz.prog 70 0 = some (0, 1, false) := by kernel_rfl
theorem fc70_p0 : placeT Tryz.prog 70 0 = some (0, 1) := by kernel_rfl
theorem fc70_o1 : fieldOff Tryz.prog 70 1 = some 1 := by kernel_rfl
theorem fc70_f1 : fieldT Tryz.prog 70 1 = some (1, 1, false) := by kernel_rfl
theorem fc70_p1 : placeT Tryz.prog 70 1 = some (1, 1) := by kernel_rfl
theorem fc70_o2 : fieldOff Tryz.prog 70 2 = some 2 := by kernel_rfl
theorem fc70_f2 : fieldT Tryz.prog 70 2 = some (2, 1, false) := by kernel_rfl
theorem fc70_p2 : placeT Tryz.prog 70 2 = some (2, 1) := by kernel_rfl
theorem fc70_o3 : fieldOff Tryz.prog 70 3 = some 3 := by kernel_rfl
theorem fc70_f3 : fieldT Tryz.prog 70 3 = some (3, 1, false) := by kernel_rfl
theorem fc70_p3 : placeT Tryz.prog 70 3 = some (3, 1) := by kernel_rfl
theorem fc71_load : loadT Tryz.prog 71 = some (4, true) := by kernel_rfl
theorem fc71_size : tySize Tryz.prog 71 = some 4 := by kernel_rfl
theorem fc71_zero : zeroT Tryz.prog 71 = some [.int .i64 0, .int .i64 0, .int .i64 0, .bool false] := by kernel_rfl
theorem fc71_eq : eqT Tryz.prog 71 = some [(0, false), (1, false), (2, false), (3, true)] := by kernel_rfl
theorem fc71_all : allPlaces Tryz.prog 71 = true := by kernel_rfl
theorem fc71_o0 : fieldOff Tryz.prog 71 0 = some 0 := by kernel_rfl
theorem fc71_f0 : fieldT Tryz.prog 71 0 = some (0, 1, false) := by kernel_rfl
theorem fc71_p0 : placeT Tryz.prog 71 0 = some (0, 1) := by kernel_rfl
theorem fc71_o1 : fieldOff Tryz.prog 71 1 = some 1 := by kernel_rfl
theorem fc71_f1 : fieldT Tryz.prog 71 1 = some (1, 1, false) := by kernel_rfl
theorem fc71_p1 : placeT Tryz.prog 71 1 = some (1, 1) := by kernel_rfl
theorem fc71_o2 : fieldOff Tryz.prog 71 2 = some 2 := by kernel_rfl
theorem fc71_f2 : fieldT Tryz.prog 71 2 = some (2, 1, false) := by kernel_rfl
theorem fc71_p2 : placeT Tryz.prog 71 2 = some (2, 1) := by kernel_rfl
theorem fc71_o3 : fieldOff Tryz.prog 71 3 = some 3 := by kernel_rfl
theorem fc71_f3 : fieldT Tryz.prog 71 3 = some (3, 1, false) := by kernel_rfl
theorem fc71_p3 : placeT Tryz.prog 71 3 = some (3, 1) := by kernel_rfl
theorem fc72_load : loadT Tryz.prog 72 = some (1, false) := by kernel_rfl
theorem fc72_size : tySize Tryz.prog 72 = some 1 := by kernel_rfl
theorem fc72_zero : zeroT Tryz.prog 72 = some [.nilFunc] := by kernel_rfl
theorem fc73_load : loadT Tryz.prog 73 = some (1, false) := by kernel_rfl
theorem fc73_size : tySize Tryz.prog 73 = some 1 := by kernel_rfl
theorem fc73_zero : zeroT Tryz.prog 73 = some [.nilFunc] := by kernel_rfl
theorem fc74_load : loadT Tryz.prog 74 = some (1, false) := by kernel_rfl
theorem fc74_size : tySize Tryz.prog 74 = some 1 := by kernel_rfl
theorem fc74_zero : zeroT Tryz.prog 74 = some [.nilFunc] := by kernel_rfl
theorem fc75_load : loadT Tryz.prog 75 = some (1, false) := by kernel_rfl
theorem fc75_size : tySize Tryz.prog 75 = some 1 := by kernel_rfl
theorem fc75_zero : zeroT Tryz.prog 75 = some [.nilFunc] := by kernel_rfl
theorem fc76_load : loadT Tryz.prog 76 = some (1, false) := by kernel_rfl
theorem fc76_size : tySize Tryz.prog 76 = some 1 := by kernel_rfl
theorem fc76_int : intT Tryz.prog 76 = some .u64 := by kernel_rfl
theorem fc76_isb : isBoolT Tryz.prog 76 = false := by kernel_rfl
theorem fc76_u : Tryz.prog.underlying 76 = some (.int .u64) := by kernel_rfl
theorem fc76_zero : zeroT Tryz.prog 76 = some [.int .u64 0] := by kernel_rfl
theorem fc77_load : loadT Tryz.prog 77 = some (4, true) := by kernel_rfl
theorem fc77_size : tySize Tryz.prog 77 = some 4 := by kernel_rfl
theorem fc77_zero : zeroT Tryz.prog 77 = some [.int .i64 0, .int .i64 0, .int .i64 0, .int .i64 0] := by kernel_rfl
theorem fc77_eq : eqT Tryz.prog 77 = some [(0, false), (1, false), (2, false), (3, false)] := by kernel_rfl
theorem fc77_all : allPlaces Tryz.prog 77 = true := by kernel_rfl
theorem fc77_o0 : fieldOff Tryz.prog 77 0 = some 0 := by kernel_rfl
theorem fc77_f0 : fieldT Tryz.prog 77 0 = some (0, 1, false) := by kernel_rfl
theorem fc77_p0 : placeT Tryz.prog 77 0 = some (0, 1) := by kernel_rfl
theorem fc77_o1 : fieldOff Tryz.prog 77 1 = some 1 := by kernel_rfl
theorem fc77_f1 : fieldT Tryz.prog 77 1 = some (1, 1, false) := by kernel_rfl
theorem fc77_p1 : placeT Tryz.prog 77 1 = some (1, 1) := by kernel_rfl
theorem fc77_o2 : fieldOff Tryz.prog 77 2 = some 2 := by kernel_rfl
theorem fc77_f2 : fieldT Tryz.prog 77 2 = some (2, 1, false) := by kernel_rfl
theorem fc77_p2 : placeT Tryz.prog 77 2 = some (2, 1) := by kernel_rfl
theorem fc77_o3 : fieldOff Tryz.prog 77 3 = some 3 := by kernel_rfl
theorem fc77_f3 : fieldT Tryz.prog 77 3 = some (3, 1, false) := by kernel_rfl
theorem fc77_p3 : placeT Tryz.prog 77 3 = some (3, 1) := by kernel_rfl
theorem fc78_load : loadT Tryz.prog 78 = some (4, true) := by kernel_rfl
theorem fc78_size : tySize Tryz.prog 78 = some 4 := by kernel_rfl
theorem fc78_zero : zeroT Tryz.prog 78 = some [.int .i64 0, .int .i64 0, .int .i64 0, .int .i64 0] := by kernel_rfl
theorem fc78_eq : eqT Tryz.prog 78 = some [(0, false), (1, false), (2, false), (3, false)] := by kernel_rfl
theorem fc78_all : allPlaces Tryz.prog 78 = true := by kernel_rfl
theorem fc78_o0 : fieldOff Tryz.prog 78 0 = some 0 := by kernel_rfl
theorem fc78_f0 : fieldT Tryz.prog 78 0 = some (0, 1, false) := by kernel_rfl
theorem fc78_p0 : placeT Tryz.prog 78 0 = some (0, 1) := by kernel_rfl
theorem fc78_o1 : fieldOff Tryz.prog 78 1 = some 1 := by kernel_rfl
theorem fc78_f1 : fieldT Tryz.prog 78 1 = some (1, 1, false) := by kernel_rfl
theorem fc78_p1 : placeT Tryz.prog 78 1 = some (1, 1) := by kernel_rfl
theorem fc78_o2 : fieldOff Tryz.prog 78 2 = some 2 := by kernel_rfl
theorem fc78_f2 : fieldT Tryz.prog 78 2 = some (2, 1, false) := by kernel_rfl
theorem fc78_p2 : placeT Tryz.prog 78 2 = some (2, 1) := by kernel_rfl
theorem fc78_o3 : fieldOff Tryz.prog 78 3 = some 3 := by kernel_rfl
theorem fc78_f3 : fieldT Tryz.prog 78 3 = some (3, 1, false) := by kernel_rfl
theorem fc78_p3 : placeT Tryz.prog 78 3 = some (3, 1) := by kernel_rfl
theorem fc79_load : loadT Tryz.prog 79 = some (1, false) := by kernel_rfl
theorem fc79_size : tySize Tryz.prog 79 = some 1 := by kernel_rfl
theorem fc79_zero : zeroT Tryz.prog 79 = some [.nilFunc] := by kernel_rfl
theorem fc80_load : loadT Tryz.prog 80 = some (1, false) := by kernel_rfl
theorem fc80_size : tySize Tryz.prog 80 = some 1 := by kernel_rfl
theorem fc80_zero : zeroT Tryz.prog 80 = some [.nilFunc] := by kernel_rfl
theorem fc81_load : loadT Tryz.prog 81 = some (1, false) := by kernel_rfl
theorem fc81_size : tySize Tryz.prog 81 = some 1 := by kernel_rfl
theorem fc81_zero : zeroT Tryz.prog 81 = some [.nilFunc] := by kernel_rfl
theorem fc82_load : loadT Tryz.prog 82 = some (1, false) := by kernel_rfl
theorem fc82_size : tySize Tryz.prog 82 = some 1 := by kernel_rfl
theorem fc82_zero : zeroT Tryz.prog 82 = some [.nilFunc] := by kernel_rfl
theorem fc83_load : loadT Tryz.prog 83 = some (1, false) := by kernel_rfl
theorem fc83_size : tySize Tryz.prog 83 = some 1 := by kernel_rfl
theorem fc83_zero : zeroT Tryz.prog 83 = some [.nilFunc] := by kernel_rfl
theorem fc85_load : loadT Tryz.prog 85 = some (1, false) := by kernel_rfl
theorem fc85_size : tySize Tryz.prog 85 = some 1 := by kernel_rfl
theorem fc85_zero : zeroT Tryz.prog 85 = some [.nilFunc] := by kernel_rfl
theorem fc86_load : loadT Tryz.prog 86 = some (1, false) := by kernel_rfl
theorem fc86_size : tySize Tryz.prog 86 = some 1 := by kernel_rfl
theorem fc86_zero : zeroT Tryz.prog 86 = some [.nilFunc] := by kernel_rfl
theorem fc87_load : loadT Tryz.prog 87 = some (1, false) := by kernel_rfl
theorem fc87_size : tySize Tryz.prog 87 = some 1 := by kernel_rfl
theorem fc87_zero : zeroT Tryz.prog 87 = some [.nilFunc] := by kernel_rfl
theorem fc88_load : loadT Tryz.prog 88 = some (1, false) := by kernel_rfl
theorem fc88_size : tySize Tryz.prog 88 = some 1 := by kernel_rfl
theorem fc88_zero : zeroT Tryz.prog 88 = some [.nilFunc] := by kernel_rfl
theorem fc89_load : loadT Tryz.prog 89 = some (1, false) := by kernel_rfl
theorem fc89_size : tySize Tryz.prog 89 = some 1 := by kernel_rfl
theorem fc89_zero : zeroT Tryz.prog 89 = some [.nilFunc] := by kernel_rfl
theorem fc90_load : loadT Tryz.prog 90 = some (1, false) := by kernel_rfl
theorem fc90_size : tySize Tryz.prog 90 = some 1 := by kernel_rfl
theorem fc90_zero : zeroT Tryz.prog 90 = some [.nilFunc] := by kernel_rfl
theorem fc91_load : loadT Tryz.prog 91 = some (1, false) := by kernel_rfl
theorem fc91_size : tySize Tryz.prog 91 = some 1 := by kernel_rfl
theorem fc91_zero : zeroT Tryz.prog 91 = some [.nilFunc] := by kernel_rfl
theorem fc92_load : loadT Tryz.prog 92 = some (1, false) := by kernel_rfl
theorem fc92_size : tySize Tryz.prog 92 = some 1 := by kernel_rfl
theorem fc92_zero : zeroT Tryz.prog 92 = some [.nilFunc] := by kernel_rfl
theorem fc93_load : loadT Tryz.prog 93 = some (1, false) := by kernel_rfl
theorem fc93_size : tySize Tryz.prog 93 = some 1 := by kernel_rfl
theorem fc93_zero : zeroT Tryz.prog 93 = some [.nilFunc] := by kernel_rfl
theorem fc94_load : loadT Tryz.prog 94 = some (1, false) := by kernel_rfl
theorem fc94_size : tySize Tryz.prog 94 = some 1 := by kernel_rfl
theorem fc94_zero : zeroT Tryz.prog 94 = some [.nilFunc] := by kernel_rfl
theorem fc95_load : loadT Tryz.prog 95 = some (1, false) := by kernel_rfl
theorem fc95_size : tySize Tryz.prog 95 = some 1 := by kernel_rfl
theorem fc95_zero : zeroT Tryz.prog 95 = some [.nilFunc] := by kernel_rfl
theorem fc96_load : loadT Tryz.prog 96 = some (1, false) := by kernel_rfl
theorem fc96_size : tySize Tryz.prog 96 = some 1 := by kernel_rfl
theorem fc96_int : intT Tryz.prog 96 = some .i64 := by kernel_rfl
theorem fc96_isb : isBoolT Tryz.prog 96 = false := by kernel_rfl
theorem fc96_u : Tryz.prog.underlying 96 = some (.int .i64) := by kernel_rfl
theorem fc96_zero : zeroT Tryz.prog 96 = some [.int .i64 0] := by kernel_rfl
theorem fc98_load : loadT Tryz.prog 98 = some (1, false) := by kernel_rfl
theorem fc98_size : tySize Tryz.prog 98 = some 1 := by kernel_rfl
theorem fc98_zero : zeroT Tryz.prog 98 = some [.nilFunc] := by kernel_rfl
theorem fc99_load : loadT Tryz.prog 99 = some (1, false) := by kernel_rfl
theorem fc99_size : tySize Tryz.prog 99 = some 1 := by kernel_rfl
theorem fc99_zero : zeroT Tryz.prog 99 = some [.nilFunc] := by kernel_rfl
theorem fc100_load : loadT Tryz.prog 100 = some (1, false) := by kernel_rfl
theorem fc100_size : tySize Tryz.prog 100 = some 1 := by kernel_rfl
theorem fc100_zero : zeroT Tryz.prog 100 = some [.nilFunc] := by kernel_rfl
theorem fc101_load : loadT Tryz.prog 101 = some (1, false) := by kernel_rfl
theorem fc101_size : tySize Tryz.prog 101 = some 1 := by kernel_rfl
theorem fc101_zero : zeroT Tryz.prog 101 = some [.nilFunc] := by kernel_rfl
theorem fc102_load : loadT Tryz.prog 102 = some (1, false) := by kernel_rfl
theorem fc102_size : tySize Tryz.prog 102 = some 1 := by kernel_rfl
theorem fc102_zero : zeroT Tryz.prog 102 = some [.nilFunc] := by kernel_rfl
theorem fc103_load : loadT Tryz.prog 103 = some (1, false) := by kernel_rfl
theorem fc103_size : tySize Tryz.prog 103 = some 1 := by kernel_rfl
theorem fc103_zero : zeroT Tryz.prog 103 = some [.nilFunc] := by kernel_rfl
theorem fc104_load : loadT Tryz.prog 104 = some (1, false) := by kernel_rfl
theorem fc104_size : tySize Tryz.prog 104 = some 1 := by kernel_rfl
theorem fc104_int : intT Tryz.prog 104 = some .u32 := by kernel_rfl
theorem fc104_isb : isBoolT Tryz.prog 104 = false := by kernel_rfl
theorem fc104_u : Tryz.prog.underlying 104 = some (.int .u32) := by kernel_rfl
theorem fc104_zero : zeroT Tryz.prog 104 = some [.int .u32 0] := by kernel_rfl
theorem fc105_load : loadT Tryz.prog 105 = some (1, false) := by kernel_rfl
theorem fc105_size : tySize Tryz.prog 105 = some 1 := by kernel_rfl
theorem fc105_zero : zeroT Tryz.prog 105 = some [.nilFunc] := by kernel_rfl
theorem fc106_load : loadT Tryz.prog 106 = some (1, false) := by kernel_rfl
theorem fc106_size : tySize Tryz.prog 106 = some 1 := by kernel_rfl
theorem fc106_zero : zeroT Tryz.prog 106 = some [.nilFunc] := by kernel_rfl
theorem fc107_load : loadT Tryz.prog 107 = some (1, false) := by kernel_rfl
theorem fc107_size : tySize Tryz.prog 107 = some 1 := by kernel_rfl
theorem fc107_zero : zeroT Tryz.prog 107 = some [.nilFunc] := by kernel_rfl
theorem fc108_load : loadT Tryz.prog 108 = some (1, false) := by kernel_rfl
theorem fc108_size : tySize Tryz.prog 108 = some 1 := by kernel_rfl
theorem fc108_zero : zeroT Tryz.prog 108 = some [.nilFunc] := by kernel_rfl
theorem fc109_load : loadT Tryz.prog 109 = some (1, false) := by kernel_rfl
theorem fc109_size : tySize Tryz.prog 109 = some 1 := by kernel_rfl
theorem fc109_zero : zeroT Tryz.prog 109 = some [.nilFunc] := by kernel_rfl
theorem fc110_load : loadT Tryz.prog 110 = some (19, true) := by kernel_rfl
theorem fc110_size : tySize Tryz.prog 110 = some 19 := by kernel_rfl
theorem fc110_zero : zeroT Tryz.prog 110 = some [.bool false, .bool false, .bool false, .bool false, .bool false, .bool false, .bool false, .bool false, .bool false, .bool false, .bool false, .bool false, .bool false, .bool false, .bool false, .bool false, .bool false, .bool false, .bool false] := by kernel_rfl
theorem fc110_arr : arrT Tryz.prog 110 = some (19, 1, false) := by kernel_rfl
theorem fc110_sl : sliceT Tryz.prog 110 = none := by kernel_rfl
theorem fc110_all : allPlaces Tryz.prog 110 = true := by kernel_rfl
theorem fc111_load : loadT Tryz.prog 111 = some (19, true) := by kernel_rfl
theorem fc111_size : tySize Tryz.prog 111 = some 19 := by kernel_rfl
theorem fc111_zero : zeroT Tryz.prog 111 = some [.bool false, .bool false, .bool false, .bool false, .bool false, .bool false, .bool false, .bool false, .bool false, .bool false, .bool false, .bool false, .bool false, .bool false, .bool false, .bool false, .bool false, .bool false, .bool false] := by kernel_rfl
theorem fc111_arr : arrT Tryz.prog 111 = some (19, 1, false) := by kernel_rfl
theorem fc111_sl : sliceT Tryz.prog 111 = none := by kernel_rfl
theorem fc111_all : allPlaces Tryz.prog 111 = true := by kernel_rfl
theorem fc112_load : loadT Tryz.prog 112 = some (1, false) := by kernel_rfl
theorem fc112_size : tySize Tryz.prog 112 = some 1 := by kernel_rfl
theorem fc112_int : intT Tryz.prog 112 = some .u64 := by kernel_rfl
theorem fc112_isb : isBoolT Tryz.prog 112 = false := by kernel_rfl
theorem fc112_u : Tryz.prog.underlying 112 = some (.int .u64) := by kernel_rfl
theorem fc112_zero : zeroT Tryz.prog 112 = some [.int .u64 0] := by kernel_rfl
theorem fc113_load : loadT Tryz.prog 113 = some (1, false) := by kernel_rfl
theorem fc113_size : tySize Tryz.prog 113 = some 1 := by kernel_rfl
theorem fc113_zero : zeroT Tryz.prog 113 = some [.nilFunc] := by kernel_rfl
theorem fc114_load : loadT Tryz.prog 114 = some (1, false) := by kernel_rfl
theorem fc114_size : tySize Tryz.prog 114 = some 1 := by kernel_rfl
theorem fc114_zero : zeroT Tryz.prog 114 = some [.nilFunc] := by kernel_rfl
theorem fc115_load : loadT Tryz.prog 115 = some (1, false) := by kernel_rfl
theorem fc115_size : tySize Tryz.prog 115 = some 1 := by kernel_rfl
theorem fc115_zero : zeroT Tryz.prog 115 = some [.nilFunc] := by kernel_rfl
theorem fc116_load : loadT Tryz.prog 116 = some (1, false) := by kernel_rfl
theorem fc116_size : tySize Tryz.prog 116 = some 1 := by kernel_rfl
theorem fc116_zero : zeroT Tryz.prog 116 = some [.pointer none] := by kernel_rfl
theorem fc116_sl : sliceT Tryz.prog 116 = none := by kernel_rfl
theorem fc117_load : loadT Tryz.prog 117 = some (1, false) := by kernel_rfl
theorem fc117_size : tySize Tryz.prog 117 = some 1 := by kernel_rfl
theorem fc117_zero : zeroT Tryz.prog 117 = some [.nilFunc] := by kernel_rfl
theorem fc118_load : loadT Tryz.prog 118 = some (1, false) := by kernel_rfl
theorem fc118_size : tySize Tryz.prog 118 = some 1 := by kernel_rfl
theorem fc118_zero : zeroT Tryz.prog 118 = some [.nilFunc] := by kernel_rfl
theorem fc119_load : loadT Tryz.prog 119 = some (1, false) := by kernel_rfl
theorem fc119_size : tySize Tryz.prog 119 = some 1 := by kernel_rfl
theorem fc119_zero : zeroT Tryz.prog 119 = some [.nilFunc] := by kernel_rfl
theorem fc120_load : loadT Tryz.prog 120 = some (1, false) := by kernel_rfl
theorem fc120_size : tySize Tryz.prog 120 = some 1 := by kernel_rfl
theorem fc120_zero : zeroT Tryz.prog 120 = some [.nilFunc] := by kernel_rfl
theorem fc121_load : loadT Tryz.prog 121 = some (1, false) := by kernel_rfl
theorem fc121_size : tySize Tryz.prog 121 = some 1 := by kernel_rfl
theorem fc121_zero : zeroT Tryz.prog 121 = some [.pointer none] := by kernel_rfl
theorem fc121_sl : sliceT Tryz.prog 121 = none := by kernel_rfl
theorem fc123_load : loadT Tryz.prog 123 = some (1, false) := by kernel_rfl
theorem fc123_size : tySize Tryz.prog 123 = some 1 := by kernel_rfl
theorem fc123_zero : zeroT Tryz.prog 123 = some [.nilFunc] := by kernel_rfl
theorem fc124_load : loadT Tryz.prog 124 = some (1, false) := by kernel_rfl
theorem fc124_size : tySize Tryz.prog 124 = some 1 := by kernel_rfl
theorem fc124_zero : zeroT Tryz.prog 124 = some [.nilFunc] := by kernel_rfl
theorem fc125_load : loadT Tryz.prog 125 = some (4, true) := by kernel_rfl
theorem fc125_size : tySize Tryz.prog 125 = some 4 := by kernel_rfl
theorem fc125_zero : zeroT Tryz.prog 125 = some [.pointer none, .pointer none, .pointer none, .string ⟨#[]⟩] := by kernel_rfl
theorem fc125_all : allPlaces Tryz.prog 125 = true := by kernel_rfl
theorem fc125_o0 : fieldOff Tryz.prog 125 0 = some 0 := by kernel_rfl
theorem fc125_f0 : fieldT Tryz.prog 125 0 = some (0, 1, false) := by kernel_rfl
theorem fc125_p0 : placeT Tryz.prog 125 0 = some (0, 1) := by kernel_rfl
theorem fc125_o1 : fieldOff Tryz.prog 125 1 = some 1 := by kernel_rfl
theorem fc125_f1 : fieldT Tryz.prog 125 1 = some (1, 1, false) := by kernel_rfl
theorem fc125_p1 : placeT Tryz.prog 125 1 = some (1, 1) := by kernel_rfl
theorem fc125_o2 : fieldOff Tryz.prog 125 2 = some 2 := by kernel_rfl
theorem fc125_f2 : fieldT Tryz.prog 125 2 = some (2, 1, false) := by kernel_rfl
theorem fc125_p2 : placeT Tryz.prog 125 2 = some (2, 1) := by kernel_rfl
theorem fc125_o3 : fieldOff Tryz.prog 125 3 = some 3 := by kernel_rfl
theorem fc125_f3 : fieldT Tryz.prog 125 3 = some (3, 1, false) := by kernel_rfl
theorem fc125_p3 : placeT Tryz.prog 125 3 = some (3, 1) := by kernel_rfl
theorem fc126_load : loadT Tryz.prog 126 = some (4, true) := by kernel_rfl
theorem fc126_size : tySize Tryz.prog 126 = some 4 := by kernel_rfl
theorem fc126_zero : zeroT Tryz.prog 126 = some [.pointer none, .pointer none, .pointer none, .string ⟨#[]⟩] := by kernel_rfl
theorem fc126_all : allPlaces Tryz.prog 126 = true := by kernel_rfl
theorem fc126_o0 : fieldOff Tryz.prog 126 0 = some 0 := by kernel_rfl
theorem fc126_f0 : fieldT Tryz.prog 126 0 = some (0, 1, false) := by kernel_rfl
theorem fc126_p0 : placeT Tryz.prog 126 0 = some (0, 1) := by kernel_rfl
theorem fc126_o1 : fieldOff Tryz.prog 126 1 = some 1 := by kernel_rfl
theorem fc126_f1 : fieldT Tryz.prog 126 1 = some (1, 1, false) := by kernel_rfl
theorem fc126_p1 : placeT Tryz.prog 126 1 = some (1, 1) := by kernel_rfl
theorem fc126_o2 : fieldOff Tryz.prog 126 2 = some 2 := by kernel_rfl
theorem fc126_f2 : fieldT Tryz.prog 126 2 = some (2, 1, false) := by kernel_rfl
theorem fc126_p2 : placeT Tryz.prog 126 2 = some (2, 1) := by kernel_rfl
theorem fc126_o3 : fieldOff Tryz.prog 126 3 = some 3 := by kernel_rfl
theorem fc126_f3 : fieldT Tryz.prog 126 3 = some (3, 1, false) := by kernel_rfl
theorem fc126_p3 : placeT Tryz.prog 126 3 = some (3, 1) := by kernel_rfl
theorem fc127_load : loadT Tryz.prog 127 = some (0, true) := by kernel_rfl
theorem fc127_size : tySize Tryz.prog 127 = some 0 := by kernel_rfl
theorem fc127_zero : zeroT Tryz.prog 127 = some [] := by kernel_rfl
theorem fc127_arr : arrT Tryz.prog 127 = some (0, 1, false) := by kernel_rfl
theorem fc127_sl : sliceT Tryz.prog 127 = none := by kernel_rfl
theorem fc127_all : allPlaces Tryz.prog 127 = true := by kernel_rfl
theorem fc128_load : loadT Tryz.prog 128 = some (0, true) := by kernel_rfl
theorem fc128_size : tySize Tryz.prog 128 = some 0 := by kernel_rfl
theorem fc128_zero : zeroT Tryz.prog 128 = some [] := by kernel_rfl
theorem fc128_all : allPlaces Tryz.prog 128 = true := by kernel_rfl
theorem fc128_f0 : fieldT Tryz.prog 128 0 = some (0, 0, true) := by kernel_rfl
theorem fc128_p0 : placeT Tryz.prog 128 0 = some (0, 0) := by kernel_rfl
theorem fc129_load : loadT Tryz.prog 129 = some (0, true) := by kernel_rfl
theorem fc129_size : tySize Tryz.prog 129 = some 0 := by kernel_rfl
theorem fc129_zero : zeroT Tryz.prog 129 = some [] := by kernel_rfl
theorem fc129_all : allPlaces Tryz.prog 129 = true := by kernel_rfl
theorem fc129_f0 : fieldT Tryz.prog 129 0 = some (0, 0, true) := by kernel_rfl
theorem fc129_p0 : placeT Tryz.prog 129 0 = some (0, 0) := by kernel_rfl
theorem fc130_load : loadT Tryz.prog 130 = some (1, false) := by kernel_rfl
theorem fc130_size : tySize Tryz.prog 130 = some 1 := by kernel_rfl
theorem fc130_int : intT Tryz.prog 130 = some .u8 := by kernel_rfl
theorem fc130_isb : isBoolT Tryz.prog 130 = false := by kernel_rfl
theorem fc130_u : Tryz.prog.underlying 130 = some (.int .u8) := by kernel_rfl
theorem fc130_zero : zeroT Tryz.prog 130 = some [.int .u8 0] := by kernel_rfl
theorem fc131_load : loadT Tryz.prog 131 = some (1, false) := by kernel_rfl
theorem fc131_size : tySize Tryz.prog 131 = some 1 := by kernel_rfl
theorem fc131_int : intT Tryz.prog 131 = some .u8 := by kernel_rfl
theorem fc131_isb : isBoolT Tryz.prog 131 = false := by kernel_rfl
theorem fc131_u : Tryz.prog.underlying 131 = some (.int .u8) := by kernel_rfl
theorem fc131_zero : zeroT Tryz.prog 131 = some [.int .u8 0] := by kernel_rfl
theorem fc132_load : loadT Tryz.prog 132 = some (1, false) := by kernel_rfl
theorem fc132_size : tySize Tryz.prog 132 = some 1 := by kernel_rfl
theorem fc132_zero : zeroT Tryz.prog 132 = some [.nilFunc] := by kernel_rfl
theorem fc133_load : loadT Tryz.prog 133 = some (1, false) := by kernel_rfl
theorem fc133_size : tySize Tryz.prog 133 = some 1 := by kernel_rfl
theorem fc133_zero : zeroT Tryz.prog 133 = some [.pointer none] := by kernel_rfl
theorem fc133_sl : sliceT Tryz.prog 133 = none := by kernel_rfl
theorem fc134_load : loadT Tryz.prog 134 = some (1, false) := by kernel_rfl
theorem fc134_size : tySize Tryz.prog 134 = some 1 := by kernel_rfl
theorem fc134_int : intT Tryz.prog 134 = some .i32 := by kernel_rfl
theorem fc134_isb : isBoolT Tryz.prog 134 = false := by kernel_rfl
theorem fc134_u : Tryz.prog.underlying 134 = some (.int .i32) := by kernel_rfl
theorem fc134_zero : zeroT Tryz.prog 134 = some [.int .i32 0] := by kernel_rfl
theorem fc135_load : loadT Tryz.prog 135 = some (1, false) := by kernel_rfl
theorem fc135_size : tySize Tryz.prog 135 = some 1 := by kernel_rfl
theorem fc135_int : intT Tryz.prog 135 = some .i32 := by kernel_rfl
theorem fc135_isb : isBoolT Tryz.prog 135 = false := by kernel_rfl
theorem fc135_u : Tryz.prog.underlying 135 = some (.int .i32) := by kernel_rfl
theorem fc135_zero : zeroT Tryz.prog 135 = some [.int .i32 0] := by kernel_rfl
theorem fc136_load : loadT Tryz.prog 136 = some (11, true) := by kernel_rfl
theorem fc136_size : tySize Tryz.prog 136 = some 11 := by kernel_rfl
theorem fc136_zero : zeroT Tryz.prog 136 = some [.int .u64 0, .int .u64 0, .int .u32 0, .int .u8 0, .int .u8 0, .int .u8 0, .int .u8 0, .nilFunc, .pointer none, .int .i32 0, .int .i32 0] := by kernel_rfl
theorem fc136_all : allPlaces Tryz.prog 136 = true := by kernel_rfl
theorem fc136_o0 : fieldOff Tryz.prog 136 0 = some 0 := by kernel_rfl
theorem fc136_f0 : fieldT Tryz.prog 136 0 = some (0, 1, false) := by kernel_rfl
theorem fc136_p0 : placeT Tryz.prog 136 0 = some (0, 1) := by kernel_rfl
theorem fc136_o1 : fieldOff Tryz.prog 136 1 = some 1 := by kernel_rfl
theorem fc136_f1 : fieldT Tryz.prog 136 1 = some (1, 1, false) := by kernel_rfl
theorem fc136_p1 : placeT Tryz.prog 136 1 = some (1, 1) := by kernel_rfl
theorem fc136_o2 : fieldOff Tryz.prog 136 2 = some 2 := by kernel_rfl
theorem fc136_f2 : fieldT Tryz.prog 136 2 = some (2, 1, false) := by kernel_rfl
theorem fc136_p2 : placeT Tryz.prog 136 2 = some (2, 1) := by kernel_rfl
theorem fc136_o3 : fieldOff Tryz.prog 136 3 = some 3 := by kernel_rfl
theorem fc136_f3 : fieldT Tryz.prog 136 3 = some (3, 1, false) := by kernel_rfl
theorem fc136_p3 : placeT Tryz.prog 136 3 = some (3, 1) := by kernel_rfl
theorem fc136_o4 : fieldOff Tryz.prog 136 4 = some 4 := by kernel_rfl
theorem fc136_f4 : fieldT Tryz.prog 136 4 = some (4, 1, false) := by kernel_rfl
theorem fc136_p4 : placeT Tryz.prog 136 4 = some (4, 1) := by kernel_rfl
theorem fc136_o5 : fieldOff Tryz.prog 136 5 = some 5 := by kernel_rfl
theorem fc136_f5 : fieldT Tryz.prog 136 5 = some (5, 1, false) := by kernel_rfl
theorem fc136_p5 : placeT Tryz.prog 136 5 = some (5, 1) := by kernel_rfl
theorem fc136_o6 : fieldOff Tryz.prog 136 6 = some 6 := by kernel_rfl
theorem fc136_f6 : fieldT Tryz.prog 136 6 = some (6, 1, false) := by kernel_rfl
theorem fc136_p6 : placeT Tryz.prog 136 6 = some (6, 1) := by kernel_rfl
theorem fc136_o7 : fieldOff Tryz.prog 136 7 = some 7 := by kernel_rfl
theorem fc136_f7 : fieldT Tryz.prog 136 7 = some (7, 1, false) := by kernel_rfl
theorem fc136_p7 : placeT Tryz.prog 136 7 = some (7, 1) := by kernel_rfl
theorem fc136_o8 : fieldOff Tryz.prog 136 8 = some 8 := by kernel_rfl
theorem fc136_f8 : fieldT Tryz.prog 136 8 = some (8, 1, false) := by kernel_rfl
theorem fc136_p8 : placeT Tryz.prog 136 8 = some (8, 1) := by kernel_rfl
theorem fc136_o9 : fieldOff Tryz.prog 136 9 = some 9 := by kernel_rfl
theorem fc136_f9 : fieldT Tryz.prog 136 9 = some (9, 1, false) := by kernel_rfl
theorem fc136_p9 : placeT Tryz.prog 136 9 = some (9, 1) := by kernel_rfl
theorem fc136_o10 : fieldOff Tryz.prog 136 10 = some 10 := by kernel_rfl
theorem fc136_f10 : fieldT Tryz.prog 136 10 = some (10, 1, false) := by kernel_rfl
theorem fc136_p10 : placeT Tryz.prog 136 10 = some (10, 1) := by kernel_rfl
theorem fc137_load : loadT Tryz.prog 137 = some (11, true) := by kernel_rfl
theorem fc137_size : tySize Tryz.prog 137 = some 11 := by kernel_rfl
theorem fc137_zero : zeroT Tryz.prog 137 = some [.int .u64 0, .int .u64 0, .int .u32 0, .int .u8 0, .int .u8 0, .int .u8 0, .int .u8 0, .nilFunc, .pointer none, .int .i32 0, .int .i32 0] := by kernel_rfl
theorem fc137_all : allPlaces Tryz.prog 137 = true := by kernel_rfl
theorem fc137_o0 : fieldOff Tryz.prog 137 0 = some 0 := by kernel_rfl
theorem fc137_f0 : fieldT Tryz.prog 137 0 = some (0, 1, false) := by kernel_rfl
theorem fc137_p0 : placeT Tryz.prog 137 0 = some (0, 1) := by kernel_rfl
theorem fc137_o1 : fieldOff Tryz.prog 137 1 = some 1 := by kernel_rfl
theorem fc137_f1 : fieldT Tryz.prog 137 1 = some (1, 1, false) := by kernel_rfl
theorem fc137_p1 : placeT Tryz.prog 137 1 = some (1, 1) := by kernel_rfl
theorem fc137_o2 : fieldOff Tryz.prog 137 2 = some 2 := by kernel_rfl
theorem fc137_f2 : fieldT Tryz.prog 137 2 = some (2, 1, false) := by kernel_rfl
theorem fc137_p2 : placeT Tryz.prog 137 2 = some (2, 1) := by kernel_rfl
theorem fc137_o3 : fieldOff Tryz.prog 137 3 = some 3 := by kernel_rfl
theorem fc137_f3 : fieldT Tryz.prog 137 3 = some (3, 1, false) := by kernel_rfl
theorem fc137_p3 : placeT Tryz.prog 137 3 = some (3, 1) := by kernel_rfl
theorem fc137_o4 : fieldOff Tryz.prog 137 4 = some 4 := by kernel_rfl
theorem fc137_f4 : fieldT Tryz.prog 137 4 = some (4, 1, false) := by kernel_rfl
theorem fc137_p4 : placeT Tryz.prog 137 4 = some (4, 1) := by kernel_rfl
theorem fc137_o5 : fieldOff Tryz.prog 137 5 = some 5 := by kernel_rfl
theorem fc137_f5 : fieldT Tryz.prog 137 5 = some (5, 1, false) := by kernel_rfl
theorem fc137_p5 : placeT Tryz.prog 137 5 = some (5, 1) := by kernel_rfl
theorem fc137_o6 : fieldOff Tryz.prog 137 6 = some 6 := by kernel_rfl
theorem fc137_f6 : fieldT Tryz.prog 137 6 = some (6, 1, false) := by kernel_rfl
theorem fc137_p6 : placeT Tryz.prog 137 6 = some (6, 1) := by kernel_rfl
theorem fc137_o7 : fieldOff Tryz.prog 137 7 = some 7 := by kernel_rfl
theorem fc137_f7 : fieldT Tryz.prog 137 7 = some (7, 1, false) := by kernel_rfl
theorem fc137_p7 : placeT Tryz.prog 137 7 = some (7, 1) := by kernel_rfl
theorem fc137_o8 : fieldOff Tryz.prog 137 8 = some 8 := by kernel_rfl
theorem fc137_f8 : fieldT Tryz.prog 137 8 = some (8, 1, false) := by kernel_rfl
theorem fc137_p8 : placeT Tryz.prog 137 8 = some (8, 1) := by kernel_rfl
theorem fc137_o9 : fieldOff Tryz.prog 137 9 = some 9 := by kernel_rfl
theorem fc137_f9 : fieldT Tryz.prog 137 9 = some (9, 1, false) := by kernel_rfl
theorem fc137_p9 : placeT Tryz.prog 137 9 = some (9, 1) := by kernel_rfl
theorem fc137_o10 : fieldOff Tryz.prog 137 10 = some 10 := by kernel_rfl
theorem fc137_f10 : fieldT Tryz.prog 137 10 = some (10, 1, false) := by kernel_rfl
theorem fc137_p10 : placeT Tryz.prog 137 10 = some (10, 1) := by kernel_rfl
attribute [go_sem] fc1_load fc1_size fc1_zero fc2_load fc2_size fc2_int fc2_isb fc2_u fc2_zero fc3_load fc3_size fc3_int fc3_isb fc3_u fc3_zero fc4_load fc4_size fc4_isb fc4_zero fc5_load fc5_size fc5_int fc5_isb fc5_u fc5_zero fc6_load fc6_size fc6_int fc6_isb fc6_u fc6_zero fc7_load fc7_size fc7_zero fc7_eq fc7_all fc7_o0 fc7_f0 fc7_p0 fc7_o1 fc7_f1 fc7_p1 fc7_o2 fc7_f2 fc7_p2 fc7_o3 fc7_f3 fc7_p3 fc8_load fc8_size fc8_zero fc8_eq fc8_all fc8_o0 fc8_f0 fc8_p0 fc8_o1 fc8_f1 fc8_p1 fc8_o2 fc8_f2 fc8_p2 fc8_o3 fc8_f3 fc8_p3 fc9_load fc9_size fc9_iss fc9_zero fc10_load fc10_size fc10_iss fc10_zero fc11_load fc11_size fc11_iss fc11_zero fc12_load fc12_size fc12_int fc12_isb fc12_u fc12_zero fc13_load fc13_size fc13_zero fc13_all fc13_o0 fc13_f0 fc13_p0 fc13_o1 fc13_f1 fc13_p1 fc14_load fc14_size fc14_zero fc14_all fc14_o0 fc14_f0 fc14_p0 fc14_o1 fc14_f1 fc14_p1 fc15_load fc15_size fc15_zero fc15_sl fc16_load fc16_size fc16_zero fc16_sl fc17_load fc17_size fc17_zero fc17_sl fc18_load fc18_size fc18_zero fc18_all fc18_o0 fc18_f0 fc18_p0 fc19_load fc19_size fc19_zero fc19_all fc19_o0 fc19_f0 fc19_p0 fc21_load fc21_size fc21_int fc21_isb fc21_u fc21_zero fc22_load fc22_size fc22_zero fc22_sl fc22_arr fc22_app fc22_z1 fc22_clear fc22_byt fc23_load fc23_size fc23_zero fc24_load fc24_size fc24_zero fc24_sl fc24_arr fc24_app fc24_z1 fc24_clear fc24_byt fc25_load fc25_size fc25_zero fc25_all fc25_o0 fc25_f0 fc25_p0 fc25_o1 fc25_f1 fc25_p1 fc26_load fc26_size fc26_zero fc26_all fc26_o0 fc26_f0 fc26_p0 fc26_o1 fc26_f1 fc26_p1 fc27_load fc27_size fc27_zero fc27_sl fc27_arr fc27_app fc27_z1 fc27_clear fc27_byt fc28_load fc28_size fc28_zero fc28_sl fc28_arr fc28_app fc28_z1 fc28_clear fc28_byt fc30_load fc30_size fc30_zero fc32_load fc32_size fc32_zero fc34_load fc34_size fc34_zero fc36_load fc36_size fc36_zero fc37_load fc37_size fc37_zero fc39_load fc39_size fc39_zero fc40_load fc40_size fc40_zero fc41_load fc41_size fc41_zero fc41_sl fc42_load fc42_size fc42_int fc42_isb fc42_u fc42_zero fc43_load fc43_size fc43_zero fc43_all fc43_o0 fc43_f0 fc43_p0 fc43_o1 fc43_f1 fc43_p1 fc43_o2 fc43_f2 fc43_p2 fc44_load fc44_size fc44_zero fc44_all fc44_o0 fc44_f0 fc44_p0 fc44_o1 fc44_f1 fc44_p1 fc44_o2 fc44_f2 fc44_p2 fc45_load fc45_size fc45_zero fc46_load fc46_size fc46_zero fc47_load fc47_size fc47_zero fc48_load fc48_size fc48_zero fc50_load fc50_size fc50_zero fc51_load fc51_size fc51_zero fc52_load fc52_size fc52_zero fc53_load fc53_size fc53_zero fc54_load fc54_size fc54_zero fc55_load fc55_size fc55_zero fc56_load fc56_size fc56_zero fc57_load fc57_size fc57_zero fc58_load fc58_size fc58_zero fc59_load fc59_size fc59_zero fc60_load fc60_size fc60_zero fc61_load fc61_size fc61_zero fc62_load fc62_size fc62_zero fc63_load fc63_size fc63_zero fc64_load fc64_size fc64_zero fc65_load fc65_size fc65_zero fc66_load fc66_size fc66_zero fc67_load fc67_size fc67_zero fc68_load fc68_size fc68_zero fc68_sl fc69_load fc69_size fc69_zero fc70_load fc70_size fc70_zero fc70_eq fc70_all fc70_o0 fc70_f0 fc70_p0 fc70_o1 fc70_f1 fc70_p1 fc70_o2 fc70_f2 fc70_p2 fc70_o3 fc70_f3 fc70_p3 fc71_load fc71_size fc71_zero fc71_eq fc71_all fc71_o0 fc71_f0 fc71_p0 fc71_o1 fc71_f1 fc71_p1 fc71_o2 fc71_f2 fc71_p2 fc71_o3 fc71_f3 fc71_p3 fc72_load fc72_size fc72_zero fc73_load fc73_size fc73_zero fc74_load fc74_size fc74_zero fc75_load fc75_size fc75_zero fc76_load fc76_size fc76_int fc76_isb fc76_u fc76_zero fc77_load fc77_size fc77_zero fc77_eq fc77_all fc77_o0 fc77_f0 fc77_p0 fc77_o1 fc77_f1 fc77_p1 fc77_o2 fc77_f2 fc77_p2 fc77_o3 fc77_f3 fc77_p3 fc78_load fc78_size fc78_zero fc78_eq fc78_all fc78_o0 fc78_f0 fc78_p0 fc78_o1 fc78_f1 fc78_p1 fc78_o2 fc78_f2 fc78_p2 fc78_o3 fc78_f3 fc78_p3 fc79_load fc79_size fc79_zero fc80_load fc80_size fc80_zero fc81_load fc81_size fc81_zero fc82_load fc82_size fc82_zero fc83_load fc83_size fc83_zero fc85_load fc85_size fc85_zero fc86_load fc86_size fc86_zero fc87_load fc87_size fc87_zero fc88_load fc88_size fc88_zero fc89_load fc89_size fc89_zero fc90_load fc90_size fc90_zero fc91_load fc91_size fc91_zero fc92_load fc92_size fc92_zero fc93_load fc93_size fc93_zero fc94_load fc94_size fc94_zero fc95_load fc95_size fc95_zero fc96_load fc96_size fc96_int fc96_isb fc96_u fc96_zero fc98_load fc98_size fc98_zero fc99_load fc99_size fc99_zero fc100_load fc100_size fc100_zero fc101_load fc101_size fc101_zero fc102_load fc102_size fc102_zero fc103_load fc103_size fc103_zero fc104_load fc104_size fc104_int fc104_isb fc104_u fc104_zero fc105_load fc105_size fc105_zero fc106_load fc106_size fc106_zero fc107_load fc107_size fc107_zero fc108_load fc108_size fc108_zero fc109_load fc109_size fc109_zero fc110_load fc110_size fc110_zero fc110_arr fc110_sl fc110_all fc111_load fc111_size fc111_zero fc111_arr fc111_sl fc111_all fc112_load fc112_size fc112_int fc112_isb fc112_u fc112_zero fc113_load fc113_size fc113_zero fc114_load fc114_size fc114_zero fc115_load fc115_size fc115_zero fc116_load fc116_size fc116_zero fc116_sl fc117_load fc117_size fc117_zero fc118_load fc118_size fc118_zero fc119_load fc119_size fc119_zero fc120_load fc120_size fc120_zero fc121_load fc121_size fc121_zero fc121_sl fc123_load fc123_size fc123_zero fc124_load fc124_size fc124_zero fc125_load fc125_size fc125_zero fc125_all fc125_o0 fc125_f0 fc125_p0 fc125_o1 fc125_f1 fc125_p1 fc125_o2 fc125_f2 fc125_p2 fc125_o3 fc125_f3 fc125_p3 fc126_load fc126_size fc126_zero fc126_all fc126_o0 fc126_f0 fc126_p0 fc126_o1 fc126_f1 fc126_p1 fc126_o2 fc126_f2 fc126_p2 fc126_o3 fc126_f3 fc126_p3 fc127_load fc127_size fc127_zero fc127_arr fc127_sl fc127_all fc128_load fc128_size fc128_zero fc128_all fc128_f0 fc128_p0 fc129_load fc129_size fc129_zero fc129_all fc129_f0 fc129_p0 fc130_load fc130_size fc130_int fc130_isb fc130_u fc130_zero fc131_load fc131_size fc131_int fc131_isb fc131_u fc131_zero fc132_load fc132_size fc132_zero fc133_load fc133_size fc133_zero fc133_sl fc134_load fc134_size fc134_int fc134_isb fc134_u fc134_zero fc135_load fc135_size fc135_int fc135_isb fc135_u fc135_zero fc136_load fc136_size fc136_zero fc136_all fc136_o0 fc136_f0 fc136_p0 fc136_o1 fc136_f1 fc136_p1 fc136_o2 fc136_f2 fc136_p2 fc136_o3 fc136_f3 fc136_p3 fc136_o4 fc136_f4 fc136_p4 fc136_o5 fc136_f5 fc136_p5 fc136_o6 fc136_f6 fc136_p6 fc136_o7 fc136_f7 fc136_p7 fc136_o8 fc136_f8 fc136_p8 fc136_o9 fc136_f9 fc136_p9 fc136_o10 fc136_f10 fc136_p10 fc137_load fc137_size fc137_zero fc137_all fc137_o0 fc137_f0 fc137_p0 fc137_o1 fc137_f1 fc137_p1 fc137_o2 fc137_f2 fc137_p2 fc137_o3 fc137_f3 fc137_p3 fc137_o4 fc137_f4 fc137_p4 fc137_o5 fc137_f5 fc137_p5 fc137_o6 fc137_f6 fc137_p6 fc137_o7 fc137_f7 fc137_p7 fc137_o8 fc137_f8 fc137_p8 fc137_o9 fc137_f9 fc137_p9 fc137_o10 fc137_f10 fc137_p10
end Go.Proofs.YtncblopbcnkinaaGreat
