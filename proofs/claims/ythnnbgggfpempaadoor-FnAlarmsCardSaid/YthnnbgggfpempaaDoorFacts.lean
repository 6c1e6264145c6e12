/- The closed facts on the types of this seat's program, each by the kernel. Written by program. -/
import Derived.Test.YthnnbgggfpempaaDoorAm10
import Derived.Test.YthnnbgggfpempaaDoorRows
namespace Go.Proofs.YthnnbgggfpempaaDoor
open Go.Am
theorem fc1_load : loadT Tryd.prog 1 = some (1, false) := by kernel_rfl
theorem fc1_size : tySize Tryd.prog 1 = some 1 := by kernel_rfl
theorem fc1_zero : zeroT Tryd.prog 1 = some [.nilFunc] := by kernel_rfl
theorem fc2_load : loadT Tryd.prog 2 = some (1, false) := by kernel_rfl
theorem fc2_size : tySize Tryd.prog 2 = some 1 := by kernel_rfl
theorem fc2_int : intT Tryd.prog 2 = some .i64 := by kernel_rfl
theorem fc2_isb : isBoolT Tryd.prog 2 = false := by kernel_rfl
theorem fc2_u : Tryd.prog.underlying 2 = some (.int .i64) := by kernel_rfl
theorem fc2_zero : zeroT Tryd.prog 2 = some [.int .i64 0] := by kernel_rfl
theorem fc3_load : loadT Tryd.prog 3 = some (1, false) := by kernel_rfl
theorem fc3_size : tySize Tryd.prog 3 = some 1 := by kernel_rfl
theorem fc3_int : intT Tryd.prog 3 = some .i64 := by kernel_rfl
theorem fc3_isb : isBoolT Tryd.prog 3 = false := by kernel_rfl
theorem fc3_u : Tryd.prog.underlying 3 = some (.int .i64) := by kernel_rfl
theorem fc3_zero : zeroT Tryd.prog 3 = some [.int .i64 0] := by kernel_rfl
theorem fc4_load : loadT Tryd.prog 4 = some (1, false) := by kernel_rfl
theorem fc4_size : tySize Tryd.prog 4 = some 1 := by kernel_rfl
theorem fc4_isb : isBoolT Tryd.prog 4 = true := by kernel_rfl
theorem fc4_zero : zeroT Tryd.prog 4 = some [.bool false] := by kernel_rfl
theorem fc5_load : loadT Tryd.prog 5 = some (1, false) := by kernel_rfl
theorem fc5_size : tySize Tryd.prog 5 = some 1 := by kernel_rfl
theorem fc5_int : intT Tryd.prog 5 = some .u8 := by kernel_rfl
theorem fc5_isb : isBoolT Tryd.prog 5 = false := by kernel_rfl
theorem fc5_u : Tryd.prog.underlying 5 = some (.int .u8) := by kernel_rfl
theorem fc5_zero : zeroT Tryd.prog 5 = some [.int .u8 0] := by kernel_rfl
theorem fc6_load : loadT Tryd.prog 6 = some (1, false) := by kernel_rfl
theorem fc6_size : tySize Tryd.prog 6 = some 1 := by kernel_rfl
theorem fc6_int : intT Tryd.prog 6 = some .u8 := by kernel_rfl
theorem fc6_isb : isBoolT Tryd.prog 6 = false := by kernel_rfl
theorem fc6_u : Tryd.prog.underlying 6 = some (.int .u8) := by kernel_rfl
theorem fc6_zero : zeroT Tryd.prog 6 = some [.int .u8 0] := by kernel_rfl
theorem fc7_load : loadT Tryd.prog 7 = some (4, true) := by kernel_rfl
theorem fc7_size : tySize Tryd.prog 7 = some 4 := by kernel_rfl
theorem fc7_zero : zeroT Tryd.prog 7 = some [.int .i64 0, .int .i64 0, .bool false, .int .u8 0] := by kernel_rfl
theorem fc7_eq : eqT Tryd.prog 7 = some [(0, false), (1, false), (2, true), (3, false)] := by kernel_rfl
theorem fc7_all : allPlaces Tryd.prog 7 = true := by kernel_rfl
theorem fc7_o0 : fieldOff Tryd.prog 7 0 = some 0 := by kernel_rfl
theorem fc7_f0 : fieldT Tryd.prog 7 0 = some (0, 1, false) := by kernel_rfl
theorem fc7_p0 : placeT Tryd.prog 7 0 = some (0, 1) := by kernel_rfl
theorem fc7_o1 : fieldOff Tryd.prog 7 1 = some 1 := by kernel_rfl
theorem fc7_f1 : fieldT Tryd.prog 7 1 = some (1, 1, false) := by kernel_rfl
theorem fc7_p1 : placeT Tryd.prog 7 1 = some (1, 1) := by kernel_rfl
theorem fc7_o2 : fieldOff Tryd.prog 7 2 = some 2 := by kernel_rfl
theorem fc7_f2 : fieldT Tryd.prog 7 2 = some (2, 1, false) := by kernel_rfl
theorem fc7_p2 : placeT Tryd.prog 7 2 = some (2, 1) := by kernel_rfl
theorem fc7_o3 : fieldOff Tryd.prog 7 3 = some 3 := by kernel_rfl
theorem fc7_f3 : fieldT Tryd.prog 7 3 = some (3, 1, false) := by kernel_rfl
theorem fc7_p3 : placeT Tryd.prog 7 3 = some (3, 1) := by kernel_rfl
theorem fc8_load : loadT Tryd.prog 8 = some (4, true) := by kernel_rfl
theorem fc8_size : tySize Tryd.prog 8 = some 4 := by kernel_rfl
theorem fc8_zero : zeroT Tryd.prog 8 = some [.int .i64 0, .int .i64 0, .bool false, .int .u8 0] := by kernel_rfl
theorem fc8_eq : eqT Tryd.prog 8 = some [(0, false), (1, false), (2, true), (3, false)] := by kernel_rfl
theorem fc8_all : allPlaces Tryd.prog 8 = true := by kernel_rfl
theorem fc8_o0 : fieldOff Tryd.prog 8 0 = some 0 := by kernel_rfl
theorem fc8_f0 : fieldT Tryd.prog 8 0 = some (0, 1, false) := by kernel_rfl
theorem fc8_p0 : placeT Tryd.prog 8 0 = some (0, 1) := by kernel_rfl
theorem fc8_o1 : fieldOff Tryd.prog 8 1 = some 1 := by kernel_rfl
theorem fc8_f1 : fieldT Tryd.prog 8 1 = some (1, 1, false) := by kernel_rfl
theorem fc8_p1 : placeT Tryd.prog 8 1 = some (1, 1) := by kernel_rfl
theorem fc8_o2 : fieldOff Tryd.prog 8 2 = some 2 := by kernel_rfl
theorem fc8_f2 : fieldT Tryd.prog 8 2 = some (2, 1, false) := by kernel_rfl
theorem fc8_p2 : placeT Tryd.prog 8 2 = some (2, 1) := by kernel_rfl
theorem fc8_o3 : fieldOff Tryd.prog 8 3 = some 3 := by kernel_rfl
theorem fc8_f3 : fieldT Tryd.prog 8 3 = some (3, 1, false) := by kernel_rfl
theorem fc8_p3 : placeT Tryd.prog 8 3 = some (3, 1) := by kernel_rfl
theorem fc9_load : loadT Tryd.prog 9 = some (1, false) := by kernel_rfl
theorem fc9_size : tySize Tryd.prog 9 = some 1 := by kernel_rfl
theorem fc9_iss : isStrT Tryd.prog 9 = true := by kernel_rfl
theorem fc9_zero : zeroT Tryd.prog 9 = some [.string ⟨#[]⟩] := by kernel_rfl
theorem fc10_load : loadT Tryd.prog 10 = some (1, false) := by kernel_rfl
theorem fc10_size : tySize Tryd.prog 10 = some 1 := by kernel_rfl
theorem fc10_iss : isStrT Tryd.prog 10 = true := by kernel_rfl
theorem fc10_zero : zeroT Tryd.prog 10 = some [.string ⟨#[]⟩] := by kernel_rfl
theorem fc11_load : loadT Tryd.prog 11 = some (1, false) := by kernel_rfl
theorem fc11_size : tySize Tryd.prog 11 = some 1 := by kernel_rfl
theorem fc11_iss : isStrT Tryd.prog 11 = true := by kernel_rfl
theorem fc11_zero : zeroT Tryd.prog 11 = some [.string ⟨#[]⟩] := by kernel_rfl
theorem fc12_load : loadT Tryd.prog 12 = some (1, false) := by kernel_rfl
theorem fc12_size : tySize Tryd.prog 12 = some 1 := by kernel_rfl
theorem fc12_int : intT Tryd.prog 12 = some .u64 := by kernel_rfl
theorem fc12_isb : isBoolT Tryd.prog 12 = false := by kernel_rfl
theorem fc12_u : Tryd.prog.underlying 12 = some (.int .u64) := by kernel_rfl
theorem fc12_zero : zeroT Tryd.prog 12 = some [.int .u64 0] := by kernel_rfl
theorem fc13_load : loadT Tryd.prog 13 = some (2, true) := by kernel_rfl
theorem fc13_size : tySize Tryd.prog 13 = some 2 := by kernel_rfl
theorem fc13_zero : zeroT Tryd.prog 13 = some [.string ⟨#[]⟩, .int .u64 0] := by kernel_rfl
theorem fc13_all : allPlaces Tryd.prog 13 = true := by kernel_rfl
theorem fc13_o0 : fieldOff Tryd.prog 13 0 = some 0 := by kernel_rfl
theorem fc13_f0 : fieldT Tryd.prog 13 0 = some (0, 1, false) := by kernel_rfl
theorem fc13_p0 : placeT Tryd.prog 13 0 = some (0, 1) := by kernel_rfl
theorem fc13_o1 : fieldOff Tryd.prog 13 1 = some 1 := by kernel_rfl
theorem fc13_f1 : fieldT Tryd.prog 13 1 = some (1, 1, false) := by kernel_rfl
theorem fc13_p1 : placeT Tryd.prog 13 1 = some (1, 1) := by kernel_rfl
theorem fc14_load : loadT Tryd.prog 14 = some (2, true) := by kernel_rfl
theorem fc14_size : tySize Tryd.prog 14 = some 2 := by kernel_rfl
theorem fc14_zero : zeroT Tryd.prog 14 = some [.string ⟨#[]⟩, .int .u64 0] := by kernel_rfl
theorem fc14_all : allPlaces Tryd.prog 14 = true := by kernel_rfl
theorem fc14_o0 : fieldOff Tryd.prog 14 0 = some 0 := by kernel_rfl
theorem fc14_f0 : fieldT Tryd.prog 14 0 = some (0, 1, false) := by kernel_rfl
theorem fc14_p0 : placeT Tryd.prog 14 0 = some (0, 1) := by kernel_rfl
theorem fc14_o1 : fieldOff Tryd.prog 14 1 = some 1 := by kernel_rfl
theorem fc14_f1 : fieldT Tryd.prog 14 1 = some (1, 1, false) := by kernel_rfl
theorem fc14_p1 : placeT Tryd.prog 14 1 = some (1, 1) := by kernel_rfl
theorem fc15_load : loadT Tryd.prog 15 = some (1, false) := by kernel_rfl
theorem fc15_size : tySize Tryd.prog 15 = some 1 := by kernel_rfl
theorem fc15_zero : zeroT Tryd.prog 15 = some [.pointer none] := by kernel_rfl
theorem fc15_sl : sliceT Tryd.prog 15 = none := by kernel_rfl
theorem fc16_load : loadT Tryd.prog 16 = some (1, false) := by kernel_rfl
theorem fc16_size : tySize Tryd.prog 16 = some 1 := by kernel_rfl
theorem fc16_zero : zeroT Tryd.prog 16 = some [.pointer none] := by kernel_rfl
theorem fc16_sl : sliceT Tryd.prog 16 = none := by kernel_rfl
theorem fc17_load : loadT Tryd.prog 17 = some (1, false) := by kernel_rfl
theorem fc17_size : tySize Tryd.prog 17 = some 1 := by kernel_rfl
theorem fc17_zero : zeroT Tryd.prog 17 = some [.pointer none] := by kernel_rfl
theorem fc17_sl : sliceT Tryd.prog 17 = none := by kernel_rfl
theorem fc18_load : loadT Tryd.prog 18 = some (1, true) := by kernel_rfl
theorem fc18_size : tySize Tryd.prog 18 = some 1 := by kernel_rfl
theorem fc18_zero : zeroT Tryd.prog 18 = some [.pointer none] := by kernel_rfl
theorem fc18_all : allPlaces Tryd.prog 18 = true := by kernel_rfl
theorem fc18_o0 : fieldOff Tryd.prog 18 0 = some 0 := by kernel_rfl
theorem fc18_f0 : fieldT Tryd.prog 18 0 = some (0, 1, false) := by kernel_rfl
theorem fc18_p0 : placeT Tryd.prog 18 0 = some (0, 1) := by kernel_rfl
theorem fc19_load : loadT Tryd.prog 19 = some (1, true) := by kernel_rfl
theorem fc19_size : tySize Tryd.prog 19 = some 1 := by kernel_rfl
theorem fc19_zero : zeroT Tryd.prog 19 = some [.pointer none] := by kernel_rfl
theorem fc19_all : allPlaces Tryd.prog 19 = true := by kernel_rfl
theorem fc19_o0 : fieldOff Tryd.prog 19 0 = some 0 := by kernel_rfl
theorem fc19_f0 : fieldT Tryd.prog 19 0 = some (0, 1, false) := by kernel_rfl
theorem fc19_p0 : placeT Tryd.prog 19 0 = some (0, 1) := by kernel_rfl
theorem fc21_load : loadT Tryd.prog 21 = some (1, false) := by kernel_rfl
theorem fc21_size : tySize Tryd.prog 21 = some 1 := by kernel_rfl
theorem fc21_int : intT Tryd.prog 21 = some .i32 := by kernel_rfl
theorem fc21_isb : isBoolT Tryd.prog 21 = false := by kernel_rfl
theorem fc21_u : Tryd.prog.underlying 21 = some (.int .i32) := by kernel_rfl
theorem fc21_zero : zeroT Tryd.prog 21 = some [.int .i32 0] := by kernel_rfl
theorem fc22_load : loadT Tryd.prog 22 = some (1, false) := by kernel_rfl
theorem fc22_size : tySize Tryd.prog 22 = some 1 := by kernel_rfl
theorem fc22_zero : zeroT Tryd.prog 22 = some [.slice none 0 0] := by kernel_rfl
theorem fc22_sl : sliceT Tryd.prog 22 = some (5, 1) := by kernel_rfl
theorem fc22_arr : arrT Tryd.prog 22 = none := by kernel_rfl
theorem fc22_app : appT Tryd.prog 22 = some (5, 1, 1) := by kernel_rfl
theorem fc22_z1 : zeroNT Tryd.prog 22 = some (5, [.int .u8 0], 1) := by kernel_rfl
theorem fc22_clear : clearT Tryd.prog 22 = some [.int .u8 0] := by kernel_rfl
theorem fc22_byt : bytesT Tryd.prog 22 = true := by kernel_rfl
theorem fc23_load : loadT Tryd.prog 23 = some (1, false) := by kernel_rfl
theorem fc23_size : tySize Tryd.prog 23 = some 1 := by kernel_rfl
theorem fc23_zero : zeroT Tryd.prog 23 = some [.nilFunc] := by kernel_rfl
theorem fc24_load : loadT Tryd.prog 24 = some (2, true) := by kernel_rfl
theorem fc24_size : tySize Tryd.prog 24 = some 2 := by kernel_rfl
theorem fc24_zero : zeroT Tryd.prog 24 = some [.int .i64 0, .int .i64 0] := by kernel_rfl
theorem fc24_eq : eqT Tryd.prog 24 = some [(0, false), (1, false)] := by kernel_rfl
theorem fc24_all : allPlaces Tryd.prog 24 = true := by kernel_rfl
theorem fc24_o0 : fieldOff Tryd.prog 24 0 = some 0 := by kernel_rfl
theorem fc24_f0 : fieldT Tryd.prog 24 0 = some (0, 1, false) := by kernel_rfl
theorem fc24_p0 : placeT Tryd.prog 24 0 = some (0, 1) := by kernel_rfl
theorem fc24_o1 : fieldOff Tryd.prog 24 1 = some 1 := by kernel_rfl
theorem fc24_f1 : fieldT Tryd.prog 24 1 = some (1, 1, false) := by kernel_rfl
theorem fc24_p1 : placeT Tryd.prog 24 1 = some (1, 1) := by kernel_rfl
theorem fc25_load : loadT Tryd.prog 25 = some (2, true) := by kernel_rfl
theorem fc25_size : tySize Tryd.prog 25 = some 2 := by kernel_rfl
theorem fc25_zero : zeroT Tryd.prog 25 = some [.int .i64 0, .int .i64 0] := by kernel_rfl
theorem fc25_eq : eqT Tryd.prog 25 = some [(0, false), (1, false)] := by kernel_rfl
theorem fc25_all : allPlaces Tryd.prog 25 = true := by kernel_rfl
theorem fc25_o0 : fieldOff Tryd.prog 25 0 = some 0 := by kernel_rfl
theorem fc25_f0 : fieldT Tryd.prog 25 0 = some (0, 1, false) := by kernel_rfl
theorem fc25_p0 : placeT Tryd.prog 25 0 = some (0, 1) := by kernel_rfl
theorem fc25_o1 : fieldOff Tryd.prog 25 1 = some 1 := by kernel_rfl
theorem fc25_f1 : fieldT Tryd.prog 25 1 = some (1, 1, false) := by kernel_rfl
theorem fc25_p1 : placeT Tryd.prog 25 1 = some (1, 1) := by kernel_rfl
theorem fc26_load : loadT Tryd.prog 26 = some (1, false) := by kernel_rfl
theorem fc26_size : tySize Tryd.prog 26 = some 1 := by kernel_rfl
theorem fc26_zero : zeroT Tryd.prog 26 = some [.nilFunc] := by kernel_rfl
theorem fc28_load : loadT Tryd.prog 28 = some (1, false) := by kernel_rfl
theorem fc28_size : tySize Tryd.prog 28 = some 1 := by kernel_rfl
theorem fc28_zero : zeroT Tryd.prog 28 = some [.nilFunc] := by kernel_rfl
theorem fc30_load : loadT Tryd.prog 30 = some (1, false) := by kernel_rfl
theorem fc30_size : tySize Tryd.prog 30 = some 1 := by kernel_rfl
theorem fc30_zero : zeroT Tryd.prog 30 = some [.nilFunc] := by kernel_rfl
theorem fc31_load : loadT Tryd.prog 31 = some (1, false) := by kernel_rfl
theorem fc31_size : tySize Tryd.prog 31 = some 1 := by kernel_rfl
theorem fc31_zero : zeroT Tryd.prog 31 = some [.nilFunc] := by kernel_rfl
theorem fc32_load : loadT Tryd.prog 32 = some (1, false) := by kernel_rfl
theorem fc32_size : tySize Tryd.prog 32 = some 1 := by kernel_rfl
theorem fc32_zero : zeroT Tryd.prog 32 = some [.slice none 0 0] := by kernel_rfl
theorem fc32_sl : sliceT Tryd.prog 32 = some (25, 2) := by kernel_rfl
theorem fc32_arr : arrT Tryd.prog 32 = none := by kernel_rfl
theorem fc32_app : appT Tryd.prog 32 = some (25, 2, 16) := by kernel_rfl
theorem fc32_z1 : zeroNT Tryd.prog 32 = some (25, [.int .i64 0, .int .i64 0], 16) := by kernel_rfl
theorem fc32_clear : clearT Tryd.prog 32 = some [.int .i64 0, .int .i64 0] := by kernel_rfl
theorem fc32_byt : bytesT Tryd.prog 32 = false := by kernel_rfl
theorem fc33_load : loadT Tryd.prog 33 = some (1, false) := by kernel_rfl
theorem fc33_size : tySize Tryd.prog 33 = some 1 := by kernel_rfl
theorem fc33_zero : zeroT Tryd.prog 33 = some [.nilFunc] := by kernel_rfl
theorem fc35_load : loadT Tryd.prog 35 = some (1, false) := by kernel_rfl
theorem fc35_size : tySize Tryd.prog 35 = some 1 := by kernel_rfl
theorem fc35_zero : zeroT Tryd.prog 35 = some [.nilFunc] := by kernel_rfl
theorem fc36_load : loadT Tryd.prog 36 = some (1, false) := by kernel_rfl
theorem fc36_size : tySize Tryd.prog 36 = some 1 := by kernel_rfl
theorem fc36_zero : zeroT Tryd.prog 36 = some [.slice none 0 0] := by kernel_rfl
theorem fc36_sl : sliceT Tryd.prog 36 = some (3, 1) := by kernel_rfl
theorem fc36_arr : arrT Tryd.prog 36 = none := by kernel_rfl
theorem fc36_app : appT Tryd.prog 36 = some (3, 1, 8) := by kernel_rfl
theorem fc36_z1 : zeroNT Tryd.prog 36 = some (3, [.int .i64 0], 8) := by kernel_rfl
theorem fc36_clear : clearT Tryd.prog 36 = some [.int .i64 0] := by kernel_rfl
theorem fc36_byt : bytesT Tryd.prog 36 = false := by kernel_rfl
theorem fc38_load : loadT Tryd.prog 38 = some (1, false) := by kernel_rfl
theorem fc38_size : tySize Tryd.prog 38 = some 1 := by kernel_rfl
theorem fc38_zero : zeroT Tryd.prog 38 = some [.nilFunc] := by kernel_rfl
theorem fc40_load : loadT Tryd.prog 40 = some (1, false) := by kernel_rfl
theorem fc40_size : tySize Tryd.prog 40 = some 1 := by kernel_rfl
theorem fc40_zero : zeroT Tryd.prog 40 = some [.nilFunc] := by kernel_rfl
theorem fc41_load : loadT Tryd.prog 41 = some (4, true) := by kernel_rfl
theorem fc41_size : tySize Tryd.prog 41 = some 4 := by kernel_rfl
theorem fc41_zero : zeroT Tryd.prog 41 = some [.int .i64 0, .int .i64 0, .int .i64 0, .int .i64 0] := by kernel_rfl
theorem fc41_eq : eqT Tryd.prog 41 = some [(0, false), (1, false), (2, false), (3, false)] := by kernel_rfl
theorem fc41_all : allPlaces Tryd.prog 41 = true := by kernel_rfl
theorem fc41_o0 : fieldOff Tryd.prog 41 0 = some 0 := by kernel_rfl
theorem fc41_f0 : fieldT Tryd.prog 41 0 = some (0, 1, false) := by kernel_rfl
theorem fc41_p0 : placeT Tryd.prog 41 0 = some (0, 1) := by kernel_rfl
theorem fc41_o1 : fieldOff Tryd.prog 41 1 = some 1 := by kernel_rfl
theorem fc41_f1 : fieldT Tryd.prog 41 1 = some (1, 1, false) := by kernel_rfl
theorem fc41_p1 : placeT Tryd.prog 41 1 = some (1, 1) := by kernel_rfl
theorem fc41_o2 : fieldOff Tryd.prog 41 2 = some 2 := by kernel_rfl
theorem fc41_f2 : fieldT Tryd.prog 41 2 = some (2, 1, false) := by kernel_rfl
theorem fc41_p2 : placeT Tryd.prog 41 2 = some (2, 1) := by kernel_rfl
theorem fc41_o3 : fieldOff Tryd.prog 41 3 = some 3 := by kernel_rfl
theorem fc41_f3 : fieldT Tryd.prog 41 3 = some (3, 1, false) := by kernel_rfl
theorem fc41_p3 : placeT Tryd.prog 41 3 = some (3, 1) := by kernel_rfl
theorem fc42_load : loadT Tryd.prog 42 = some (4, true) := by kernel_rfl
theorem fc42_size : tySize Tryd.prog 42 = some 4 := by kernel_rfl
theorem fc42_zero : zeroT Tryd.prog 42 = some [.int .i64 0, .int .i64 0, .int .i64 0, .int .i64 0] := by kernel_rfl
theorem fc42_eq : eqT Tryd.prog 42 = some [(0, false), (1, false), (2, false), (3, false)] := by kernel_rfl
theorem fc42_all : allPlaces Tryd.prog 42 = true := by kernel_rfl
theorem fc42_o0 : fieldOff Tryd.prog 42 0 = some 0 := by kernel_rfl
theorem fc42_f0 : fieldT Tryd.prog 42 0 = some (0, 1, false) := by kernel_rfl
theorem fc42_p0 : placeT Tryd.prog 42 0 = some (0, 1) := by kernel_rfl
theorem fc42_o1 : fieldOff Tryd.prog 42 1 = some 1 := by kernel_rfl
theorem fc42_f1 : fieldT Tryd.prog 42 1 = some (1, 1, false) := by kernel_rfl
theorem fc42_p1 : placeT Tryd.prog 42 1 = some (1, 1) := by kernel_rfl
theorem fc42_o2 : fieldOff Tryd.prog 42 2 = some 2 := by kernel_rfl
theorem fc42_f2 : fieldT Tryd.prog 42 2 = some (2, 1, false) := by kernel_rfl
theorem fc42_p2 : placeT Tryd.prog 42 2 = some (2, 1) := by kernel_rfl
theorem fc42_o3 : fieldOff Tryd.prog 42 3 = some 3 := by kernel_rfl
theorem fc42_f3 : fieldT Tryd.prog 42 3 = some (3, 1, false) := by kernel_rfl
theorem fc42_p3 : placeT Tryd.prog 42 3 = some (3, 1) := by kernel_rfl
theorem fc43_load : loadT Tryd.prog 43 = some (1, false) := by kernel_rfl
theorem fc43_size : tySize Tryd.prog 43 = some 1 := by kernel_rfl
theorem fc43_zero : zeroT Tryd.prog 43 = some [.nilFunc] := by kernel_rfl
theorem fc44_load : loadT Tryd.prog 44 = some (1, false) := by kernel_rfl
theorem fc44_size : tySize Tryd.prog 44 = some 1 := by kernel_rfl
theorem fc44_zero : zeroT Tryd.prog 44 = some [.nilFunc] := by kernel_rfl
theorem fc46_load : loadT Tryd.prog 46 = some (1, false) := by kernel_rfl
theorem fc46_size : tySize Tryd.prog 46 = some 1 := by kernel_rfl
theorem fc46_zero : zeroT Tryd.prog 46 = some [.nilFunc] := by kernel_rfl
theorem fc47_load : loadT Tryd.prog 47 = some (1, false) := by kernel_rfl
theorem fc47_size : tySize Tryd.prog 47 = some 1 := by kernel_rfl
theorem fc47_zero : zeroT Tryd.prog 47 = some [.slice none 0 0] := by kernel_rfl
theorem fc47_sl : sliceT Tryd.prog 47 = some (42, 4) := by kernel_rfl
theorem fc47_arr : arrT Tryd.prog 47 = none := by kernel_rfl
theorem fc47_app : appT Tryd.prog 47 = some (42, 4, 32) := by kernel_rfl
theorem fc47_z1 : zeroNT Tryd.prog 47 = some (42, [.int .i64 0, .int .i64 0, .int .i64 0, .int .i64 0], 32) := by kernel_rfl
theorem fc47_clear : clearT Tryd.prog 47 = some [.int .i64 0, .int .i64 0, .int .i64 0, .int .i64 0] := by kernel_rfl
theorem fc47_byt : bytesT Tryd.prog 47 = false := by kernel_rfl
theorem fc49_load : loadT Tryd.prog 49 = some (1, false) := by kernel_rfl
theorem fc49_size : tySize Tryd.prog 49 = some 1 := by kernel_rfl
theorem fc49_zero : zeroT Tryd.prog 49 = some [.nilFunc] := by kernel_rfl
theorem fc50_load : loadT Tryd.prog 50 = some (1, false) := by kernel_rfl
theorem fc50_size : tySize Tryd.prog 50 = some 1 := by kernel_rfl
theorem fc50_zero : zeroT Tryd.prog 50 = some [.nilFunc] := by kernel_rfl
theorem fc52_load : loadT Tryd.prog 52 = some (1, false) := by kernel_rfl
theorem fc52_size : tySize Tryd.prog 52 = some 1 := by kernel_rfl
theorem fc52_zero : zeroT Tryd.prog 52 = some [.nilFunc] := by kernel_rfl
theorem fc53_load : loadT Tryd.prog 53 = some (1, false) := by kernel_rfl
theorem fc53_size : tySize Tryd.prog 53 = some 1 := by kernel_rfl
theorem fc53_zero : zeroT Tryd.prog 53 = some [.nilFunc] := by kernel_rfl
theorem fc54_load : loadT Tryd.prog 54 = some (1, false) := by kernel_rfl
theorem fc54_size : tySize Tryd.prog 54 = some 1 := by kernel_rfl
theorem fc54_zero : zeroT Tryd.prog 54 = some [.nilFunc] := by kernel_rfl
theorem fc55_load : loadT Tryd.prog 55 = some (1, false) := by kernel_rfl
theorem fc55_size : tySize Tryd.prog 55 = some 1 := by kernel_rfl
theorem fc55_zero : zeroT Tryd.prog 55 = some [.nilFunc] := by kernel_rfl
theorem fc56_load : loadT Tryd.prog 56 = some (1, false) := by kernel_rfl
theorem fc56_size : tySize Tryd.prog 56 = some 1 := by kernel_rfl
theorem fc56_zero : zeroT Tryd.prog 56 = some [.slice none 0 0] := by kernel_rfl
theorem fc56_sl : sliceT Tryd.prog 56 = some (117, 4) := by kernel_rfl
theorem fc56_arr : arrT Tryd.prog 56 = none := by kernel_rfl
theorem fc56_app : appT Tryd.prog 56 = some (117, 4, 32) := by kernel_rfl
theorem fc56_z1 : zeroNT Tryd.prog 56 = some (117, [.int .i64 0, .int .i64 0, .int .i64 0, .int .i64 0], 32) := by kernel_rfl
theorem fc56_clear : clearT Tryd.prog 56 = some [.int .i64 0, .int .i64 0, .int .i64 0, .int .i64 0] := by kernel_rfl
theorem fc56_byt : bytesT Tryd.prog 56 = false := by kernel_rfl
theorem fc57_load : loadT Tryd.prog 57 = some (1, false) := by kernel_rfl
theorem fc57_size : tySize Tryd.prog 57 = some 1 := by kernel_rfl
theorem fc57_zero : zeroT Tryd.prog 57 = some [.slice none 0 0] := by kernel_rfl
theorem fc57_sl : sliceT Tryd.prog 57 = some (67, 4) := by kernel_rfl
theorem fc57_arr : arrT Tryd.prog 57 = none := by kernel_rfl
theorem fc57_app : appT Tryd.prog 57 = some (67, 4, 32) := by kernel_rfl
theorem fc57_z1 : zeroNT Tryd.prog 57 = some (67, [.int .i64 0, .int .i64 0, .int .i64 0, .bool false], 32) := by kernel_rfl
theorem fc57_clear : clearT Tryd.prog 57 = some [.int .i64 0, .int .i64 0, .int .i64 0, .bool false] := by kernel_rfl
theorem fc57_byt : bytesT Tryd.prog 57 = false := by kernel_rfl
theorem fc58_load : loadT Tryd.prog 58 = some (3, true) := by kernel_rfl
theorem fc58_size : tySize Tryd.prog 58 = some 3 := by kernel_rfl
theorem fc58_zero : zeroT Tryd.prog 58 = some [.int .i64 0, .int .i64 0, .int .i64 0] := by kernel_rfl
theorem fc58_eq : eqT Tryd.prog 58 = some [(0, false), (1, false), (2, false)] := by kernel_rfl
theorem fc58_all : allPlaces Tryd.prog 58 = true := by kernel_rfl
theorem fc58_o0 : fieldOff Tryd.prog 58 0 = some 0 := by kernel_rfl
theorem fc58_f0 : fieldT Tryd.prog 58 0 = some (0, 1, false) := by kernel_rfl
theorem fc58_p0 : placeT Tryd.prog 58 0 = some (0, 1) := by kernel_rfl
theorem fc58_o1 : fieldOff Tryd.prog 58 1 = some 1 := by kernel_rfl
theorem fc58_f1 : fieldT Tryd.prog 58 1 = some (1, 1, false) := by kernel_rfl
theorem fc58_p1 : placeT Tryd.prog 58 1 = some (1, 1) := by kernel_rfl
theorem fc58_o2 : fieldOff Tryd.prog 58 2 = some 2 := by kernel_rfl
theorem fc58_f2 : fieldT Tryd.prog 58 2 = some (2, 1, false) := by kernel_rfl
theorem fc58_p2 : placeT Tryd.prog 58 2 = some (2, 1) := by kernel_rfl
theorem fc59_load : loadT Tryd.prog 59 = some (3, true) := by kernel_rfl
theorem fc59_size : tySize Tryd.prog 59 = some 3 := by kernel_rfl
theorem fc59_zero : zeroT Tryd.prog 59 = some [.int .i64 0, .int .i64 0, .int .i64 0] := by kernel_rfl
theorem fc59_eq : eqT Tryd.prog 59 = some [(0, false), (1, false), (2, false)] := by kernel_rfl
theorem fc59_all : allPlaces Tryd.prog 59 = true := by kernel_rfl
theorem fc59_o0 : fieldOff Tryd.prog 59 0 = some 0 := by kernel_rfl
theorem fc59_f0 : fieldT Tryd.prog 59 0 = some (0, 1, false) := by kernel_rfl
theorem fc59_p0 : placeT Tryd.prog 59 0 = some (0, 1) := by kernel_rfl
theorem fc59_o1 : fieldOff Tryd.prog 59 1 = some 1 := by kernel_rfl
theorem fc59_f1 : fieldT Tryd.prog 59 1 = some (1, 1, false) := by kernel_rfl
theorem fc59_p1 : placeT Tryd.prog 59 1 = some (1, 1) := by kernel_rfl
theorem fc59_o2 : fieldOff Tryd.prog 59 2 = some 2 := by kernel_rfl
theorem fc59_f2 : fieldT Tryd.prog 59 2 = some (2, 1, false) := by kernel_rfl
theorem fc59_p2 : placeT Tryd.prog 59 2 = some (2, 1) := by kernel_rfl
theorem fc61_load : loadT Tryd.prog 61 = some (1, false) := by kernel_rfl
theorem fc61_size : tySize Tryd.prog 61 = some 1 := by kernel_rfl
theorem fc61_zero : zeroT Tryd.prog 61 = some [.nilFunc] := by kernel_rfl
theorem fc63_load : loadT Tryd.prog 63 = some (1, false) := by kernel_rfl
theorem fc63_size : tySize Tryd.prog 63 = some 1 := by kernel_rfl
theorem fc63_zero : zeroT Tryd.prog 63 = some [.nilFunc] := by kernel_rfl
theorem fc64_load : loadT Tryd.prog 64 = some (1, false) := by kernel_rfl
theorem fc64_size : tySize Tryd.prog 64 = some 1 := by kernel_rfl
theorem fc64_zero : zeroT Tryd.prog 64 = some [.nilFunc] := by kernel_rfl
theorem fc65_load : loadT Tryd.prog 65 = some (1, false) := by kernel_rfl
theorem fc65_size : tySize Tryd.prog 65 = some 1 := by kernel_rfl
theorem fc65_zero : zeroT Tryd.prog 65 = some [.nilFunc] := by kernel_rfl
theorem fc66_load : loadT Tryd.prog 66 = some (4, true) := by kernel_rfl
theorem fc66_size : tySize Tryd.prog 66 = some 4 := by kernel_rfl
theorem fc66_zero : zeroT Tryd.prog 66 = some [.int .i64 0, .int .i64 0, .int .i64 0, .bool false] := by kernel_rfl
theorem fc66_eq : eqT Tryd.prog 66 = some [(0, false), (1, false), (2, false), (3, true)] := by kernel_rfl
theorem fc66_all : allPlaces Tryd.prog 66 = true := by kernel_rfl
theorem fc66_o0 : fieldOff Tryd.prog 66 0 = some 0 := by kernel_rfl
theorem fc66_f0 : fieldT Tryd.prog 66 0 = some (0, 1, false) := by kernel_rfl
theorem fc66_p0 : placeT Tryd.prog 66 0 = some (0, 1) := by kernel_rfl
theorem fc66_o1 : fieldOff Tryd.prog 66 1 = some 1 := by kernel_rfl
theorem fc66_f1 : fieldT Tryd.prog 66 1 = some (1, 1, false) := by kernel_rfl
theorem fc66_p1 : placeT Tryd.prog 66 1 = some (1, 1) := by kernel_rfl
theorem fc66_o2 : fieldOff Tryd.prog 66 2 = some 2 := by kernel_rfl
theorem fc66_f2 : fieldT Tryd.prog 66 2 = some (2, 1, false) := by kernel_rfl
theorem fc66_p2 : placeT Tryd.prog 66 2 = some (2, 1) := by kernel_rfl
theorem fc66_o3 : fieldOff Tryd.prog 66 3 = some 3 := by kernel_rfl
theorem fc66_f3 : fieldT Tryd.prog 66 3 = some (3, 1, false) := by kernel_rfl
theorem fc66_p3 : placeT Tryd.prog 66 3 = some (3, 1) := by kernel_rfl
theorem fc67_load : loadT Tryd.prog 67 = some (4, true) := by kernel_rfl
theorem fc67_size : tySize Tryd.prog 67 = some 4 := by kernel_rfl
theorem fc67_zero : zeroT Tryd.prog 67 = some [.int .i64 0, .int .i64 0, .int .i64 0, .bool false] := by kernel_rfl
theorem fc67_eq : eqT Tryd.prog 67 = some [(0, false), (1, false), (2, false), (3, true)] := by kernel_rfl
theorem fc67_all : allPlaces Tryd.prog 67 = true := by kernel_rfl
theorem fc67_o0 : fieldOff Tryd.prog 67 0 = some 0 := by kernel_rfl
theorem fc67_f0 : fieldT Tryd.prog 67 0 = some (0, 1, false) := by kernel_rfl
theorem fc67_p0 : placeT Tryd.prog 67 0 = some (0, 1) := by kernel_rfl
theorem fc67_o1 : fieldOff Tryd.prog 67 1 = some 1 := by kernel_rfl
theorem fc67_f1 : fieldT Tryd.prog 67 1 = some (1, 1, false) := by kernel_rfl
theorem fc67_p1 : placeT Tryd.prog 67 1 = some (1, 1) := by kernel_rfl
theorem fc67_o2 : fieldOff Tryd.prog 67 2 = some 2 := by kernel_rfl
theorem fc67_f2 : fieldT Tryd.prog 67 2 = some (2, 1, false) := by kernel_rfl
theorem fc67_p2 : placeT Tryd.prog 67 2 = some (2, 1) := by kernel_rfl
theorem fc67_o3 : fieldOff Tryd.prog 67 3 = some 3 := by kernel_rfl
theorem fc67_f3 : fieldT Tryd.prog 67 3 = some (3, 1, false) := by kernel_rfl
theorem fc67_p3 : placeT Tryd.prog 67 3 = some (3, 1) := by kernel_rfl
theorem fc68_load : loadT Tryd.prog 68 = some (1, false) := by kernel_rfl
theorem fc68_size : tySize Tryd.prog 68 = some 1 := by kernel_rfl
theorem fc68_zero : zeroT Tryd.prog 68 = some [.nilFunc] := by kernel_rfl
theorem fc69_load : loadT Tryd.prog 69 = some (1, false) := by kernel_rfl
theorem fc69_size : tySize Tryd.prog 69 = some 1 := by kernel_rfl
theorem fc69_zero : zeroT Tryd.prog 69 = some [.nilFunc] := by kernel_rfl
theorem fc71_load : loadT Tryd.prog 71 = some (1, false) := by kernel_rfl
theorem fc71_size : tySize Tryd.prog 71 = some 1 := by kernel_rfl
theorem fc71_zero : zeroT Tryd.prog 71 = some [.nilFunc] := by kernel_rfl
theorem fc73_load : loadT Tryd.prog 73 = some (1, false) := by kernel_rfl
theorem fc73_size : tySize Tryd.prog 73 = some 1 := by kernel_rfl
theorem fc73_zero : zeroT Tryd.prog 73 = some [.nilFunc] := by kernel_rfl
theorem fc74_load : loadT Tryd.prog 74 = some (1, false) := by kernel_rfl
theorem fc74_size : tySize Tryd.prog 74 = some 1 := by kernel_rfl
theorem fc74_zero : zeroT Tryd.prog 74 = some [.nilFunc] := by kernel_rfl
theorem fc75_load : loadT Tryd.prog 75 = some (1, false) := by kernel_rfl
theorem fc75_size : tySize Tryd.prog 75 = some 1 := by kernel_rfl
theorem fc75_zero : zeroT Tryd.prog 75 = some [.nilFunc] := by kernel_rfl
theorem fc76_load : loadT Tryd.prog 76 = some (1, false) := by kernel_rfl
theorem fc76_size : tySize Tryd.prog 76 = some 1 := by kernel_rfl
theorem fc76_zero : zeroT Tryd.prog 76 = some [.nilFunc] := by kernel_rfl
theorem fc77_load : loadT Tryd.prog 77 = some (1, false) := by kernel_rfl
theorem fc77_size : tySize Tryd.prog 77 = some 1 := by kernel_rfl
theorem fc77_zero : zeroT Tryd.prog 77 = some [.nilFunc] := by kernel_rfl
theorem fc78_load : loadT Tryd.prog 78 = some (1, false) := by kernel_rfl
theorem fc78_size : tySize Tryd.prog 78 = some 1 := by kernel_rfl
theorem fc78_zero : zeroT Tryd.prog 78 = some [.pointer none] := by kernel_rfl
theorem fc78_sl : sliceT Tryd.prog 78 = none := by kernel_rfl
theorem fc79_load : loadT Tryd.prog 79 = some (1, false) := by kernel_rfl
theorem fc79_size : tySize Tryd.prog 79 = some 1 := by kernel_rfl
theorem fc79_int : intT Tryd.prog 79 = some .u64 := by kernel_rfl
theorem fc79_isb : isBoolT Tryd.prog 79 = false := by kernel_rfl
theorem fc79_u : Tryd.prog.underlying 79 = some (.int .u64) := by kernel_rfl
theorem fc79_zero : zeroT Tryd.prog 79 = some [.int .u64 0] := by kernel_rfl
theorem fc80_load : loadT Tryd.prog 80 = some (3, true) := by kernel_rfl
theorem fc80_size : tySize Tryd.prog 80 = some 3 := by kernel_rfl
theorem fc80_zero : zeroT Tryd.prog 80 = some [.slice none 0 0, .int .i64 0, .int .u64 0] := by kernel_rfl
theorem fc80_all : allPlaces Tryd.prog 80 = true := by kernel_rfl
theorem fc80_o0 : fieldOff Tryd.prog 80 0 = some 0 := by kernel_rfl
theorem fc80_f0 : fieldT Tryd.prog 80 0 = some (0, 1, false) := by kernel_rfl
theorem fc80_p0 : placeT Tryd.prog 80 0 = some (0, 1) := by kernel_rfl
theorem fc80_o1 : fieldOff Tryd.prog 80 1 = some 1 := by kernel_rfl
theorem fc80_f1 : fieldT Tryd.prog 80 1 = some (1, 1, false) := by kernel_rfl
theorem fc80_p1 : placeT Tryd.prog 80 1 = some (1, 1) := by kernel_rfl
theorem fc80_o2 : fieldOff Tryd.prog 80 2 = some 2 := by kernel_rfl
theorem fc80_f2 : fieldT Tryd.prog 80 2 = some (2, 1, false) := by kernel_rfl
theorem fc80_p2 : placeT Tryd.prog 80 2 = some (2, 1) := by kernel_rfl
theorem fc81_load : loadT Tryd.prog 81 = some (3, true) := by kernel_rfl
theorem fc81_size : tySize Tryd.prog 81 = some 3 := by kernel_rfl
theorem fc81_zero : zeroT Tryd.prog 81 = some [.slice none 0 0, .int .i64 0, .int .u64 0] := by kernel_rfl
theorem fc81_all : allPlaces Tryd.prog 81 = true := by kernel_rfl
theorem fc81_o0 : fieldOff Tryd.prog 81 0 = some 0 := by kernel_rfl
theorem fc81_f0 : fieldT Tryd.prog 81 0 = some (0, 1, false) := by kernel_rfl
theorem fc81_p0 : placeT Tryd.prog 81 0 = some (0, 1) := by kernel_rfl
theorem fc81_o1 : fieldOff Tryd.prog 81 1 = some 1 := by kernel_rfl
theorem fc81_f1 : fieldT Tryd.prog 81 1 = some (1, 1, false) := by kernel_rfl
theorem fc81_p1 : placeT Tryd.prog 81 1 = some (1, 1) := by kernel_rfl
theorem fc81_o2 : fieldOff Tryd.prog 81 2 = some 2 := by kernel_rfl
theorem fc81_f2 : fieldT Tryd.prog 81 2 = some (2, 1, false) := by kernel_rfl
theorem fc81_p2 : placeT Tryd.prog 81 2 = some (2, 1) := by kernel_rfl
theorem fc82_load : loadT Tryd.prog 82 = some (1, false) := by kernel_rfl
theorem fc82_size : tySize Tryd.prog 82 = some 1 := by kernel_rfl
theorem fc82_zero : zeroT Tryd.prog 82 = some [.nilFunc] := by kernel_rfl
theorem fc83_load : loadT Tryd.prog 83 = some (1, false) := by kernel_rfl
theorem fc83_size : tySize Tryd.prog 83 = some 1 := by kernel_rfl
theorem fc83_zero : zeroT Tryd.prog 83 = some [.nilFunc] := by kernel_rfl
theorem fc84_load : loadT Tryd.prog 84 = some (1, false) := by kernel_rfl
theorem fc84_size : tySize Tryd.prog 84 = some 1 := by kernel_rfl
theorem fc84_zero : zeroT Tryd.prog 84 = some [.nilFunc] := by kernel_rfl
theorem fc85_load : loadT Tryd.prog 85 = some (1, false) := by kernel_rfl
theorem fc85_size : tySize Tryd.prog 85 = some 1 := by kernel_rfl
theorem fc85_zero : zeroT Tryd.prog 85 = some [.nilFunc] := by kernel_rfl
theorem fc86_load : loadT Tryd.prog 86 = some (1, false) := by kernel_rfl
theorem fc86_size : tySize Tryd.prog 86 = some 1 := by kernel_rfl
theorem fc86_zero : zeroT Tryd.prog 86 = some [.nilFunc] := by kernel_rfl
theorem fc87_load : loadT Tryd.prog 87 = some (1, false) := by kernel_rfl
theorem fc87_size : tySize Tryd.prog 87 = some 1 := by kernel_rfl
theorem fc87_zero : zeroT Tryd.prog 87 = some [.nilFunc] := by kernel_rfl
theorem fc88_load : loadT Tryd.prog 88 = some (1, false) := by kernel_rfl
theorem fc88_size : tySize Tryd.prog 88 = some 1 := by kernel_rfl
theorem fc88_zero : zeroT Tryd.prog 88 = some [.slice none 0 0] := by kernel_rfl
theorem fc88_sl : sliceT Tryd.prog 88 = some (9, 1) := by kernel_rfl
theorem fc88_arr : arrT Tryd.prog 88 = none := by kernel_rfl
theorem fc88_app : appT Tryd.prog 88 = some (9, 1, 16) := by kernel_rfl
theorem fc88_z1 : zeroNT Tryd.prog 88 = some (9, [.string ⟨#[]⟩], 16) := by kernel_rfl
theorem fc88_clear : clearT Tryd.prog 88 = some [.string ⟨#[]⟩] := by kernel_rfl
theorem fc88_byt : bytesT Tryd.prog 88 = false := by kernel_rfl
theorem fc89_load : loadT Tryd.prog 89 = some (1, false) := by kernel_rfl
theorem fc89_size : tySize Tryd.prog 89 = some 1 := by kernel_rfl
theorem fc89_zero : zeroT Tryd.prog 89 = some [.nilFunc] := by kernel_rfl
theorem fc90_load : loadT Tryd.prog 90 = some (1, false) := by kernel_rfl
theorem fc90_size : tySize Tryd.prog 90 = some 1 := by kernel_rfl
theorem fc90_zero : zeroT Tryd.prog 90 = some [.nilFunc] := by kernel_rfl
theorem fc91_load : loadT Tryd.prog 91 = some (1, false) := by kernel_rfl
theorem fc91_size : tySize Tryd.prog 91 = some 1 := by kernel_rfl
theorem fc91_zero : zeroT Tryd.prog 91 = some [.nilFunc] := by kernel_rfl
theorem fc92_load : loadT Tryd.prog 92 = some (2, true) := by kernel_rfl
theorem fc92_size : tySize Tryd.prog 92 = some 2 := by kernel_rfl
theorem fc92_zero : zeroT Tryd.prog 92 = some [.int .i64 0, .int .i64 0] := by kernel_rfl
theorem fc92_eq : eqT Tryd.prog 92 = some [(0, false), (1, false)] := by kernel_rfl
theorem fc92_all : allPlaces Tryd.prog 92 = true := by kernel_rfl
theorem fc92_o0 : fieldOff Tryd.prog 92 0 = some 0 := by kernel_rfl
theorem fc92_f0 : fieldT Tryd.prog 92 0 = some (0, 1, false) := by kernel_rfl
theorem fc92_p0 : placeT Tryd.prog 92 0 = some (0, 1) := by kernel_rfl
theorem fc92_o1 : fieldOff Tryd.prog 92 1 = some 1 := by kernel_rfl
theorem fc92_f1 : fieldT Tryd.prog 92 1 = some (1, 1, false) := by kernel_rfl
theorem fc92_p1 : placeT Tryd.prog 92 1 = some (1, 1) := by kernel_rfl
theorem fc93_load : loadT Tryd.prog 93 = some (2, true) := by kernel_rfl
theorem fc93_size : tySize Tryd.prog 93 = some 2 := by kernel_rfl
theorem fc93_zero : zeroT Tryd.prog 93 = some [.int .i64 0, .int .i64 0] := by kernel_rfl
theorem fc93_eq : eqT Tryd.prog 93 = some [(0, false), (1, false)] := by kernel_rfl
theorem fc93_all : allPlaces Tryd.prog 93 = true := by kernel_rfl
theorem fc93_o0 : fieldOff Tryd.prog 93 0 = some 0 := by kernel_rfl
theorem fc93_f0 : fieldT Tryd.prog 93 0 = some (0, 1, false) := by kernel_rfl
theorem fc93_p0 : placeT Tryd.prog 93 0 = some (0, 1) := by kernel_rfl
theorem fc93_o1 : fieldOff Tryd.prog 93 1 = some 1 := by kernel_rfl
theorem fc93_f1 : fieldT Tryd.prog 93 1 = some (1, 1, false) := by kernel_rfl
theorem fc93_p1 : placeT Tryd.prog 93 1 = some (1, 1) := by kernel_rfl
theorem fc94_load : loadT Tryd.prog 94 = some (1, false) := by kernel_rfl
theorem fc94_size : tySize Tryd.prog 94 = some 1 := by kernel_rfl
theorem fc94_zero : zeroT Tryd.prog 94 = some [.nilFunc] := by kernel_rfl
theorem fc95_load : loadT Tryd.prog 95 = some (1, false) := by kernel_rfl
theorem fc95_size : tySize Tryd.prog 95 = some 1 := by kernel_rfl
theorem fc95_zero : zeroT Tryd.prog 95 = some [.nilFunc] := by kernel_rfl
theorem fc96_load : loadT Tryd.prog 96 = some (1, false) := by kernel_rfl
theorem fc96_size : tySize Tryd.prog 96 = some 1 := by kernel_rfl
theorem fc96_zero : zeroT Tryd.prog 96 = some [.nilFunc] := by kernel_rfl
theorem fc97_load : loadT Tryd.prog 97 = some (1, false) := by kernel_rfl
theorem fc97_size : tySize Tryd.prog 97 = some 1 := by kernel_rfl
theorem fc97_zero : zeroT Tryd.prog 97 = some [.nilFunc] := by kernel_rfl
theorem fc99_load : loadT Tryd.prog 99 = some (1, false) := by kernel_rfl
theorem fc99_size : tySize Tryd.prog 99 = some 1 := by kernel_rfl
theorem fc99_zero : zeroT Tryd.prog 99 = some [.nilFunc] := by kernel_rfl
theorem fc100_load : loadT Tryd.prog 100 = some (1, false) := by kernel_rfl
theorem fc100_size : tySize Tryd.prog 100 = some 1 := by kernel_rfl
theorem fc100_zero : zeroT Tryd.prog 100 = some [.nilFunc] := by kernel_rfl
theorem fc101_load : loadT Tryd.prog 101 = some (1, false) := by kernel_rfl
theorem fc101_size : tySize Tryd.prog 101 = some 1 := by kernel_rfl
theorem fc101_zero : zeroT Tryd.prog 101 = some [.nilFunc] := by kernel_rfl
theorem fc102_load : loadT Tryd.prog 102 = some (1, false) := by kernel_rfl
theorem fc102_size : tySize Tryd.prog 102 = some 1 := by kernel_rfl
theorem fc102_zero : zeroT Tryd.prog 102 = some [.nilFunc] := by kernel_rfl
theorem fc104_load : loadT Tryd.prog 104 = some (1, false) := by kernel_rfl
theorem fc104_size : tySize Tryd.prog 104 = some 1 := by kernel_rfl
theorem fc104_zero : zeroT Tryd.prog 104 = some [.nilFunc] := by kernel_rfl
theorem fc105_load : loadT Tryd.prog 105 = some (1, false) := by kernel_rfl
theorem fc105_size : tySize Tryd.prog 105 = some 1 := by kernel_rfl
theorem fc105_zero : zeroT Tryd.prog 105 = some [.nilFunc] := by kernel_rfl
theorem fc106_load : loadT Tryd.prog 106 = some (1, false) := by kernel_rfl
theorem fc106_size : tySize Tryd.prog 106 = some 1 := by kernel_rfl
theorem fc106_zero : zeroT Tryd.prog 106 = some [.nilFunc] := by kernel_rfl
theorem fc107_load : loadT Tryd.prog 107 = some (1, false) := by kernel_rfl
theorem fc107_size : tySize Tryd.prog 107 = some 1 := by kernel_rfl
theorem fc107_zero : zeroT Tryd.prog 107 = some [.nilFunc] := by kernel_rfl
theorem fc108_load : loadT Tryd.prog 108 = some (1, false) := by kernel_rfl
theorem fc108_size : tySize Tryd.prog 108 = some 1 := by kernel_rfl
theorem fc108_zero : zeroT Tryd.prog 108 = some [.nilFunc] := by kernel_rfl
theorem fc109_load : loadT Tryd.prog 109 = some (1, false) := by kernel_rfl
theorem fc109_size : tySize Tryd.prog 109 = some 1 := by kernel_rfl
theorem fc109_zero : zeroT Tryd.prog 109 = some [.nilFunc] := by kernel_rfl
theorem fc110_load : loadT Tryd.prog 110 = some (1, false) := by kernel_rfl
theorem fc110_size : tySize Tryd.prog 110 = some 1 := by kernel_rfl
theorem fc110_zero : zeroT Tryd.prog 110 = some [.nilFunc] := by kernel_rfl
theorem fc111_load : loadT Tryd.prog 111 = some (1, false) := by kernel_rfl
theorem fc111_size : tySize Tryd.prog 111 = some 1 := by kernel_rfl
theorem fc111_zero : zeroT Tryd.prog 111 = some [.nilFunc] := by kernel_rfl
theorem fc112_load : loadT Tryd.prog 112 = some (1, false) := by kernel_rfl
theorem fc112_size : tySize Tryd.prog 112 = some 1 := by kernel_rfl
theorem fc112_zero : zeroT Tryd.prog 112 = some [.nilFunc] := by kernel_rfl
theorem fc113_load : loadT Tryd.prog 113 = some (1, false) := by kernel_rfl
theorem fc113_size : tySize Tryd.prog 113 = some 1 := by kernel_rfl
theorem fc113_zero : zeroT Tryd.prog 113 = some [.nilFunc] := by kernel_rfl
theorem fc114_load : loadT Tryd.prog 114 = some (1, false) := by kernel_rfl
theorem fc114_size : tySize Tryd.prog 114 = some 1 := by kernel_rfl
theorem fc114_zero : zeroT Tryd.prog 114 = some [.nilFunc] := by kernel_rfl
theorem fc115_load : loadT Tryd.prog 115 = some (1, false) := by kernel_rfl
theorem fc115_size : tySize Tryd.prog 115 = some 1 := by kernel_rfl
theorem fc115_zero : zeroT Tryd.prog 115 = some [.nilFunc] := by kernel_rfl
theorem fc116_load : loadT Tryd.prog 116 = some (4, true) := by kernel_rfl
theorem fc116_size : tySize Tryd.prog 116 = some 4 := by kernel_rfl
theorem fc116_zero : zeroT Tryd.prog 116 = some [.int .i64 0, .int .i64 0, .int .i64 0, .int .i64 0] := by kernel_rfl
theorem fc116_eq : eqT Tryd.prog 116 = some [(0, false), (1, false), (2, false), (3, false)] := by kernel_rfl
theorem fc116_all : allPlaces Tryd.prog 116 = true := by kernel_rfl
theorem fc116_o0 : fieldOff Tryd.prog 116 0 = some 0 := by kernel_rfl
theorem fc116_f0 : fieldT Tryd.prog 116 0 = some (0, 1, false) := by kernel_rfl
theorem fc116_p0 : placeT Tryd.prog 116 0 = some (0, 1) := by kernel_rfl
theorem fc116_o1 : fieldOff Tryd.prog 116 1 = some 1 := by kernel_rfl
theorem fc116_f1 : fieldT Tryd.prog 116 1 = some (1, 1, false) := by kernel_rfl
theorem fc116_p1 : placeT Tryd.prog 116 1 = some (1, 1) := by kernel_rfl
theorem fc116_o2 : fieldOff Tryd.prog 116 2 = some 2 := by kernel_rfl
theorem fc116_f2 : fieldT Tryd.prog 116 2 = some (2, 1, false) := by kernel_rfl
theorem fc116_p2 : placeT Tryd.prog 116 2 = some (2, 1) := by kernel_rfl
theorem fc116_o3 : fieldOff Tryd.prog 116 3 = some 3 := by kernel_rfl
theorem fc116_f3 : fieldT Tryd.prog 116 3 = some (3, 1, false) := by kernel_rfl
theorem fc116_p3 : placeT Tryd.prog 116 3 = some (3, 1) := by kernel_rfl
theorem fc117_load : loadT Tryd.prog 117 = some (4, true) := by kernel_rfl
theorem fc117_size : tySize Tryd.prog 117 = some 4 := by kernel_rfl
theorem fc117_zero : zeroT Tryd.prog 117 = some [.int .i64 0, .int .i64 0, .int .i64 0, .int .i64 0] := by kernel_rfl
theorem fc117_eq : eqT Tryd.prog 117 = some [(0, false), (1, false), (2, false), (3, false)] := by kernel_rfl
theorem fc117_all : allPlaces Tryd.prog 117 = true := by kernel_rfl
theorem fc117_o0 : fieldOff Tryd.prog 117 0 = some 0 := by kernel_rfl
theorem fc117_f0 : fieldT Tryd.prog 117 0 = some (0, 1, false) := by kernel_rfl
theorem fc117_p0 : placeT Tryd.prog 117 0 = some (0, 1) := by kernel_rfl
theorem fc117_o1 : fieldOff Tryd.prog 117 1 = some 1 := by kernel_rfl
theorem fc117_f1 : fieldT Tryd.prog 117 1 = some (1, 1, false) := by kernel_rfl
theorem fc117_p1 : placeT Tryd.prog 117 1 = some (1, 1) := by kernel_rfl
theorem fc117_o2 : fieldOff Tryd.prog 117 2 = some 2 := by kernel_rfl
theorem fc117_f2 : fieldT Tryd.prog 117 2 = some (2, 1, false) := by kernel_rfl
theorem fc117_p2 : placeT Tryd.prog 117 2 = some (2, 1) := by kernel_rfl
theorem fc117_o3 : fieldOff Tryd.prog 117 3 = some 3 := by kernel_rfl
theorem fc117_f3 : fieldT Tryd.prog 117 3 = some (3, 1, false) := by kernel_rfl
theorem fc117_p3 : placeT Tryd.prog 117 3 = some (3, 1) := by kernel_rfl
theorem fc118_load : loadT Tryd.prog 118 = some (1, false) := by kernel_rfl
theorem fc118_size : tySize Tryd.prog 118 = some 1 := by kernel_rfl
theorem fc118_zero : zeroT Tryd.prog 118 = some [.nilFunc] := by kernel_rfl
theorem fc119_load : loadT Tryd.prog 119 = some (1, false) := by kernel_rfl
theorem fc119_size : tySize Tryd.prog 119 = some 1 := by kernel_rfl
theorem fc119_zero : zeroT Tryd.prog 119 = some [.nilFunc] := by kernel_rfl
theorem fc120_load : loadT Tryd.prog 120 = some (1, false) := by kernel_rfl
theorem fc120_size : tySize Tryd.prog 120 = some 1 := by kernel_rfl
theorem fc120_zero : zeroT Tryd.prog 120 = some [.nilFunc] := by kernel_rfl
theorem fc121_load : loadT Tryd.prog 121 = some (1, false) := by kernel_rfl
theorem fc121_size : tySize Tryd.prog 121 = some 1 := by kernel_rfl
theorem fc121_zero : zeroT Tryd.prog 121 = some [.nilFunc] := by kernel_rfl
theorem fc122_load : loadT Tryd.prog 122 = some (1, false) := by kernel_rfl
theorem fc122_size : tySize Tryd.prog 122 = some 1 := by kernel_rfl
theorem fc122_zero : zeroT Tryd.prog 122 = some [.nilFunc] := by kernel_rfl
theorem fc123_load : loadT Tryd.prog 123 = some (1, false) := by kernel_rfl
theorem fc123_size : tySize Tryd.prog 123 = some 1 := by kernel_rfl
theorem fc123_zero : zeroT Tryd.prog 123 = some [.nilFunc] := by kernel_rfl
theorem fc124_load : loadT Tryd.prog 124 = some (1, false) := by kernel_rfl
theorem fc124_size : tySize Tryd.prog 124 = some 1 := by kernel_rfl
theorem fc124_zero : zeroT Tryd.prog 124 = some [.nilFunc] := by kernel_rfl
theorem fc125_load : loadT Tryd.prog 125 = some (1, false) := by kernel_rfl
theorem fc125_size : tySize Tryd.prog 125 = some 1 := by kernel_rfl
theorem fc125_zero : zeroT Tryd.prog 125 = some [.nilFunc] := by kernel_rfl
theorem fc126_load : loadT Tryd.prog 126 = some (1, false) := by kernel_rfl
theorem fc126_size : tySize Tryd.prog 126 = some 1 := by kernel_rfl
theorem fc126_zero : zeroT Tryd.prog 126 = some [.nilFunc] := by kernel_rfl
theorem fc127_load : loadT Tryd.prog 127 = some (1, false) := by kernel_rfl
theorem fc127_size : tySize Tryd.prog 127 = some 1 := by kernel_rfl
theorem fc127_zero : zeroT Tryd.prog 127 = some [.nilFunc] := by kernel_rfl
theorem fc128_load : loadT Tryd.prog 128 = some (1, false) := by kernel_rfl
theorem fc128_size : tySize Tryd.prog 128 = some 1 := by kernel_rfl
theorem fc128_zero : zeroT Tryd.prog 128 = some [.nilFunc] := by kernel_rfl
theorem fc129_load : loadT Tryd.prog 129 = some (1, false) := by kernel_rfl
theorem fc129_size : tySize Tryd.prog 129 = some 1 := by kernel_rfl
theorem fc129_zero : zeroT Tryd.prog 129 = some [.nilFunc] := by kernel_rfl
theorem fc130_load : loadT Tryd.prog 130 = some (1, false) := by kernel_rfl
theorem fc130_size : tySize Tryd.prog 130 = some 1 := by kernel_rfl
theorem fc130_zero : zeroT Tryd.prog 130 = some [.nilFunc] := by kernel_rfl
theorem fc131_load : loadT Tryd.prog 131 = some (1, false) := by kernel_rfl
theorem fc131_size : tySize Tryd.prog 131 = some 1 := by kernel_rfl
theorem fc131_zero : zeroT Tryd.prog 131 = some [.nilFunc] := by kernel_rfl
theorem fc132_load : loadT Tryd.prog 132 = some (1, false) := by kernel_rfl
theorem fc132_size : tySize Tryd.prog 132 = some 1 := by kernel_rfl
theorem fc132_zero : zeroT Tryd.prog 132 = some [.nilFunc] := by kernel_rfl
theorem fc133_load : loadT Tryd.prog 133 = some (1, false) := by kernel_rfl
theorem fc133_size : tySize Tryd.prog 133 = some 1 := by kernel_rfl
theorem fc133_zero : zeroT Tryd.prog 133 = some [.nilFunc] := by kernel_rfl
theorem fc134_load : loadT Tryd.prog 134 = some (3, true) := by kernel_rfl
theorem fc134_size : tySize Tryd.prog 134 = some 3 := by kernel_rfl
theorem fc134_zero : zeroT Tryd.prog 134 = some [.string ⟨#[]⟩, .string ⟨#[]⟩, .string ⟨#[]⟩] := by kernel_rfl
theorem fc134_arr : arrT Tryd.prog 134 = some (3, 1, false) := by kernel_rfl
theorem fc134_sl : sliceT Tryd.prog 134 = none := by kernel_rfl
theorem fc134_all : allPlaces Tryd.prog 134 = true := by kernel_rfl
theorem fc134_p0 : placeT Tryd.prog 134 0 = some (0, 1) := by kernel_rfl
theorem fc134_p1 : placeT Tryd.prog 134 1 = some (1, 1) := by kernel_rfl
theorem fc134_p2 : placeT Tryd.prog 134 2 = some (2, 1) := by kernel_rfl
theorem fc135_load : loadT Tryd.prog 135 = some (1, false) := by kernel_rfl
theorem fc135_size : tySize Tryd.prog 135 = some 1 := by kernel_rfl
theorem fc135_zero : zeroT Tryd.prog 135 = some [.nilFunc] := by kernel_rfl
theorem fc136_load : loadT Tryd.prog 136 = some (1, false) := by kernel_rfl
theorem fc136_size : tySize Tryd.prog 136 = some 1 := by kernel_rfl
theorem fc136_zero : zeroT Tryd.prog 136 = some [.nilFunc] := by kernel_rfl
theorem fc137_load : loadT Tryd.prog 137 = some (1, false) := by kernel_rfl
theorem fc137_size : tySize Tryd.prog 137 = some 1 := by kernel_rfl
theorem fc137_zero : zeroT Tryd.prog 137 = some [.nilFunc] := by kernel_rfl
theorem fc138_load : loadT Tryd.prog 138 = some (1, false) := by kernel_rfl
theorem fc138_size : tySize Tryd.prog 138 = some 1 := by kernel_rfl
theorem fc138_int : intT Tryd.prog 138 = some .u64 := by kernel_rfl
theorem fc138_isb : isBoolT Tryd.prog 138 = false := by kernel_rfl
theorem fc138_u : Tryd.prog.underlying 138 = some (.int .u64) := by kernel_rfl
theorem fc138_zero : zeroT Tryd.prog 138 = some [.int .u64 0] := by kernel_rfl
theorem fc139_load : loadT Tryd.prog 139 = some (1, false) := by kernel_rfl
theorem fc139_size : tySize Tryd.prog 139 = some 1 := by kernel_rfl
theorem fc139_zero : zeroT Tryd.prog 139 = some [.nilFunc] := by kernel_rfl
theorem fc140_load : loadT Tryd.prog 140 = some (1, false) := by kernel_rfl
theorem fc140_size : tySize Tryd.prog 140 = some 1 := by kernel_rfl
theorem fc140_zero : zeroT Tryd.prog 140 = some [.nilFunc] := by kernel_rfl
theorem fc141_load : loadT Tryd.prog 141 = some (1, false) := by kernel_rfl
theorem fc141_size : tySize Tryd.prog 141 = some 1 := by kernel_rfl
theorem fc141_zero : zeroT Tryd.prog 141 = some [.nilFunc] := by kernel_rfl
theorem fc142_load : loadT Tryd.prog 142 = some (1, false) := by kernel_rfl
theorem fc142_size : tySize Tryd.prog 142 = some 1 := by kernel_rfl
theorem fc142_zero : zeroT Tryd.prog 142 = some [.nilFunc] := by kernel_rfl
theorem fc143_load : loadT Tryd.prog 143 = some (1, false) := by kernel_rfl
theorem fc143_size : tySize Tryd.prog 143 = some 1 := by kernel_rfl
theorem fc143_zero : zeroT Tryd.prog 143 = some [.nilFunc] := by kernel_rfl
theorem fc144_load : loadT Tryd.prog 144 = some (24, true) := by kernel_rfl
theorem fc144_size : tySize Tryd.prog 144 = some 24 := by kernel_rfl
theorem fc144_zero : zeroT Tryd.prog 144 = some [.int .u8 0, .int .u8 0, .int .u8 0, .int .u8 0, .int .u8 0, .int .u8 0, .int .u8 0, .int .u8 0, .int .u8 0, .int .u8 0, .int .u8 0, .int .u8 0, .int .u8 0, .int .u8 0, .int .u8 0, .int .u8 0, .int .u8 0, .int .u8 0, .int .u8 0, .int .u8 0, .int .u8 0, .int .u8 0, .int .u8 0, .int .u8 0] := by kernel_rfl
theorem fc144_arr : arrT Tryd.prog 144 = some (24, 1, false) := by kernel_rfl
theorem fc144_sl : sliceT Tryd.prog 144 = none := by kernel_rfl
theorem fc144_all : allPlaces Tryd.prog 144 = true := by kernel_rfl
theorem fc145_load : loadT Tryd.prog 145 = some (1, false) := by kernel_rfl
theorem fc145_size : tySize Tryd.prog 145 = some 1 := by kernel_rfl
theorem fc145_zero : zeroT Tryd.prog 145 = some [.nilFunc] := by kernel_rfl
theorem fc146_load : loadT Tryd.prog 146 = some (1, false) := by kernel_rfl
theorem fc146_size : tySize Tryd.prog 146 = some 1 := by kernel_rfl
theorem fc146_zero : zeroT Tryd.prog 146 = some [.nilFunc] := by kernel_rfl
theorem fc148_load : loadT Tryd.prog 148 = some (1, false) := by kernel_rfl
theorem fc148_size : tySize Tryd.prog 148 = some 1 := by kernel_rfl
theorem fc148_zero : zeroT Tryd.prog 148 = some [.nilFunc] := by kernel_rfl
theorem fc149_load : loadT Tryd.prog 149 = some (1, false) := by kernel_rfl
theorem fc149_size : tySize Tryd.prog 149 = some 1 := by kernel_rfl
theorem fc149_int : intT Tryd.prog 149 = some .u32 := by kernel_rfl
theorem fc149_isb : isBoolT Tryd.prog 149 = false := by kernel_rfl
theorem fc149_u : Tryd.prog.underlying 149 = some (.int .u32) := by kernel_rfl
theorem fc149_zero : zeroT Tryd.prog 149 = some [.int .u32 0] := by kernel_rfl
theorem fc151_load : loadT Tryd.prog 151 = some (1, false) := by kernel_rfl
theorem fc151_size : tySize Tryd.prog 151 = some 1 := by kernel_rfl
theorem fc151_zero : zeroT Tryd.prog 151 = some [.nilFunc] := by kernel_rfl
theorem fc152_load : loadT Tryd.prog 152 = some (1, false) := by kernel_rfl
theorem fc152_size : tySize Tryd.prog 152 = some 1 := by kernel_rfl
theorem fc152_zero : zeroT Tryd.prog 152 = some [.nilFunc] := by kernel_rfl
theorem fc153_load : loadT Tryd.prog 153 = some (1, false) := by kernel_rfl
theorem fc153_size : tySize Tryd.prog 153 = some 1 := by kernel_rfl
theorem fc153_zero : zeroT Tryd.prog 153 = some [.nilFunc] := by kernel_rfl
theorem fc154_load : loadT Tryd.prog 154 = some (20, true) := by kernel_rfl
theorem fc154_size : tySize Tryd.prog 154 = some 20 := by kernel_rfl
theorem fc154_zero : zeroT Tryd.prog 154 = some [.int .u64 0, .int .u64 0, .int .u64 0, .int .u64 0, .int .u64 0, .int .u64 0, .int .u64 0, .int .u64 0, .int .u64 0, .int .u64 0, .int .u64 0, .int .u64 0, .int .u64 0, .int .u64 0, .int .u64 0, .int .u64 0, .int .u64 0, .int .u64 0, .int .u64 0, .int .u64 0] := by kernel_rfl
theorem fc154_arr : arrT Tryd.prog 154 = some (20, 1, false) := by kernel_rfl
theorem fc154_sl : sliceT Tryd.prog 154 = none := by kernel_rfl
theorem fc154_all : allPlaces Tryd.prog 154 = true := by kernel_rfl
theorem fc155_load : loadT Tryd.prog 155 = some (65, true) := by kernel_rfl
theorem fc155_size : tySize Tryd.prog 155 = some 65 := by kernel_rfl
theorem fc155_arr : arrT Tryd.prog 155 = some (65, 1, false) := by kernel_rfl
theorem fc155_sl : sliceT Tryd.prog 155 = none := by kernel_rfl
theorem fc155_all : allPlaces Tryd.prog 155 = true := by kernel_rfl
theorem fc156_load : loadT Tryd.prog 156 = some (1, false) := by kernel_rfl
theorem fc156_size : tySize Tryd.prog 156 = some 1 := by kernel_rfl
theorem fc156_zero : zeroT Tryd.prog 156 = some [.nilFunc] := by kernel_rfl
theorem fc157_load : loadT Tryd.prog 157 = some (1, false) := by kernel_rfl
theorem fc157_size : tySize Tryd.prog 157 = some 1 := by kernel_rfl
theorem fc157_zero : zeroT Tryd.prog 157 = some [.nilFunc] := by kernel_rfl
theorem fc158_load : loadT Tryd.prog 158 = some (32, true) := by kernel_rfl
theorem fc158_size : tySize Tryd.prog 158 = some 32 := by kernel_rfl
theorem fc158_zero : zeroT Tryd.prog 158 = some [.int .u8 0, .int .u8 0, .int .u8 0, .int .u8 0, .int .u8 0, .int .u8 0, .int .u8 0, .int .u8 0, .int .u8 0, .int .u8 0, .int .u8 0, .int .u8 0, .int .u8 0, .int .u8 0, .int .u8 0, .int .u8 0, .int .u8 0, .int .u8 0, .int .u8 0, .int .u8 0, .int .u8 0, .int .u8 0, .int .u8 0, .int .u8 0, .int .u8 0, .int .u8 0, .int .u8 0, .int .u8 0, .int .u8 0, .int .u8 0, .int .u8 0, .int .u8 0] := by kernel_rfl
theorem fc158_arr : arrT Tryd.prog 158 = some (32, 1, false) := by kernel_rfl
theorem fc158_sl : sliceT Tryd.prog 158 = none := by kernel_rfl
theorem fc158_all : allPlaces Tryd.prog 158 = true := by kernel_rfl
theorem fc159_load : loadT Tryd.prog 159 = some (64, true) := by kernel_rfl
theorem fc159_size : tySize Tryd.prog 159 = some 64 := by kernel_rfl
theorem fc159_arr : arrT Tryd.prog 159 = some (64, 1, false) := by kernel_rfl
theorem fc159_sl : sliceT Tryd.prog 159 = none := by kernel_rfl
theorem fc159_all : allPlaces Tryd.prog 159 = true := by kernel_rfl
theorem fc160_load : loadT Tryd.prog 160 = some (1, false) := by kernel_rfl
theorem fc160_size : tySize Tryd.prog 160 = some 1 := by kernel_rfl
theorem fc160_zero : zeroT Tryd.prog 160 = some [.nilFunc] := by kernel_rfl
theorem fc161_load : loadT Tryd.prog 161 = some (4, true) := by kernel_rfl
theorem fc161_size : tySize Tryd.prog 161 = some 4 := by kernel_rfl
theorem fc161_zero : zeroT Tryd.prog 161 = some [.pointer none, .pointer none, .pointer none, .string ⟨#[]⟩] := by kernel_rfl
theorem fc161_all : allPlaces Tryd.prog 161 = true := by kernel_rfl
theorem fc161_o0 : fieldOff Tryd.prog 161 0 = some 0 := by kernel_rfl
theorem fc161_f0 : fieldT Tryd.prog 161 0 = some (0, 1, false) := by kernel_rfl
theorem fc161_p0 : placeT Tryd.prog 161 0 = some (0, 1) := by kernel_rfl
theorem fc161_o1 : fieldOff Tryd.prog 161 1 = some 1 := by kernel_rfl
theorem fc161_f1 : fieldT Tryd.prog 161 1 = some (1, 1, false) := by kernel_rfl
theorem fc161_p1 : placeT Tryd.prog 161 1 = some (1, 1) := by kernel_rfl
theorem fc161_o2 : fieldOff Tryd.prog 161 2 = some 2 := by kernel_rfl
theorem fc161_f2 : fieldT Tryd.prog 161 2 = some (2, 1, false) := by kernel_rfl
theorem fc161_p2 : placeT Tryd.prog 161 2 = some (2, 1) := by kernel_rfl
theorem fc161_o3 : fieldOff Tryd.prog 161 3 = some 3 := by kernel_rfl
theorem fc161_f3 : fieldT Tryd.prog 161 3 = some (3, 1, false) := by kernel_rfl
theorem fc161_p3 : placeT Tryd.prog 161 3 = some (3, 1) := by kernel_rfl
theorem fc162_load : loadT Tryd.prog 162 = some (4, true) := by kernel_rfl
theorem fc162_size : tySize Tryd.prog 162 = some 4 := by kernel_rfl
theorem fc162_zero : zeroT Tryd.prog 162 = some [.pointer none, .pointer none, .pointer none, .string ⟨#[]⟩] := by kernel_rfl
theorem fc162_all : allPlaces Tryd.prog 162 = true := by kernel_rfl
theorem fc162_o0 : fieldOff Tryd.prog 162 0 = some 0 := by kernel_rfl
theorem fc162_f0 : fieldT Tryd.prog 162 0 = some (0, 1, false) := by kernel_rfl
theorem fc162_p0 : placeT Tryd.prog 162 0 = some (0, 1) := by kernel_rfl
theorem fc162_o1 : fieldOff Tryd.prog 162 1 = some 1 := by kernel_rfl
theorem fc162_f1 : fieldT Tryd.prog 162 1 = some (1, 1, false) := by kernel_rfl
theorem fc162_p1 : placeT Tryd.prog 162 1 = some (1, 1) := by kernel_rfl
theorem fc162_o2 : fieldOff Tryd.prog 162 2 = some 2 := by kernel_rfl
theorem fc162_f2 : fieldT Tryd.prog 162 2 = some (2, 1, false) := by kernel_rfl
theorem fc162_p2 : placeT Tryd.prog 162 2 = some (2, 1) := by kernel_rfl
theorem fc162_o3 : fieldOff Tryd.prog 162 3 = some 3 := by kernel_rfl
theorem fc162_f3 : fieldT Tryd.prog 162 3 = some (3, 1, false) := by kernel_rfl
theorem fc162_p3 : placeT Tryd.prog 162 3 = some (3, 1) := by kernel_rfl
theorem fc163_load : loadT Tryd.prog 163 = some (0, true) := by kernel_rfl
theorem fc163_size : tySize Tryd.prog 163 = some 0 := by kernel_rfl
theorem fc163_zero : zeroT Tryd.prog 163 = some [] := by kernel_rfl
theorem fc163_arr : arrT Tryd.prog 163 = some (0, 1, false) := by kernel_rfl
theorem fc163_sl : sliceT Tryd.prog 163 = none := by kernel_rfl
theorem fc163_all : allPlaces Tryd.prog 163 = true := by kernel_rfl
theorem fc164_load : loadT Tryd.prog 164 = some (0, true) := by kernel_rfl
theorem fc164_size : tySize Tryd.prog 164 = some 0 := by kernel_rfl
theorem fc164_zero : zeroT Tryd.prog 164 = some [] := by kernel_rfl
theorem fc164_all : allPlaces Tryd.prog 164 = true := by kernel_rfl
theorem fc164_f0 : fieldT Tryd.prog 164 0 = some (0, 0, true) := by kernel_rfl
theorem fc164_p0 : placeT Tryd.prog 164 0 = some (0, 0) := by kernel_rfl
theorem fc165_load : loadT Tryd.prog 165 = some (0, true) := by kernel_rfl
theorem fc165_size : tySize Tryd.prog 165 = some 0 := by kernel_rfl
theorem fc165_zero : zeroT Tryd.prog 165 = some [] := by kernel_rfl
theorem fc165_all : allPlaces Tryd.prog 165 = true := by kernel_rfl
theorem fc165_f0 : fieldT Tryd.prog 165 0 = some (0, 0, true) := by kernel_rfl
theorem fc165_p0 : placeT Tryd.prog 165 0 = some (0, 0) := by kernel_rfl
theorem fc166_load : loadT Tryd.prog 166 = some (1, false) := by kernel_rfl
theorem fc166_size : tySize Tryd.prog 166 = some 1 := by kernel_rfl
theorem fc166_int : intT Tryd.prog 166 = some .u8 := by kernel_rfl
theorem fc166_isb : isBoolT Tryd.prog 166 = false := by kernel_rfl
theorem fc166_u : Tryd.prog.underlying 166 = some (.int .u8) := by kernel_rfl
theorem fc166_zero : zeroT Tryd.prog 166 = some [.int .u8 0] := by kernel_rfl
theorem fc167_load : loadT Tryd.prog 167 = some (1, false) := by kernel_rfl
theorem fc167_size : tySize Tryd.prog 167 = some 1 := by kernel_rfl
theorem fc167_int : intT Tryd.prog 167 = some .u8 := by kernel_rfl
theorem fc167_isb : isBoolT Tryd.prog 167 = false := by kernel_rfl
theorem fc167_u : Tryd.prog.underlying 167 = some (.int .u8) := by kernel_rfl
theorem fc167_zero : zeroT Tryd.prog 167 = some [.int .u8 0] := by kernel_rfl
theorem fc168_load : loadT Tryd.prog 168 = some (1, false) := by kernel_rfl
theorem fc168_size : tySize Tryd.prog 168 = some 1 := by kernel_rfl
theorem fc168_zero : zeroT Tryd.prog 168 = some [.nilFunc] := by kernel_rfl
theorem fc169_load : loadT Tryd.prog 169 = some (1, false) := by kernel_rfl
theorem fc169_size : tySize Tryd.prog 169 = some 1 := by kernel_rfl
theorem fc169_zero : zeroT Tryd.prog 169 = some [.pointer none] := by kernel_rfl
theorem fc169_sl : sliceT Tryd.prog 169 = none := by kernel_rfl
theorem fc170_load : loadT Tryd.prog 170 = some (1, false) := by kernel_rfl
theorem fc170_size : tySize Tryd.prog 170 = some 1 := by kernel_rfl
theorem fc170_int : intT Tryd.prog 170 = some .i32 := by kernel_rfl
theorem fc170_isb : isBoolT Tryd.prog 170 = false := by kernel_rfl
theorem fc170_u : Tryd.prog.underlying 170 = some (.int .i32) := by kernel_rfl
theorem fc170_zero : zeroT Tryd.prog 170 = some [.int .i32 0] := by kernel_rfl
theorem fc171_load : loadT Tryd.prog 171 = some (1, false) := by kernel_rfl
theorem fc171_size : tySize Tryd.prog 171 = some 1 := by kernel_rfl
theorem fc171_int : intT Tryd.prog 171 = some .i32 := by kernel_rfl
theorem fc171_isb : isBoolT Tryd.prog 171 = false := by kernel_rfl
theorem fc171_u : Tryd.prog.underlying 171 = some (.int .i32) := by kernel_rfl
theorem fc171_zero : zeroT Tryd.prog 171 = some [.int .i32 0] := by kernel_rfl
theorem fc172_load : loadT Tryd.prog 172 = some (11, true) := by kernel_rfl
theorem fc172_size : tySize Tryd.prog 172 = some 11 := by kernel_rfl
theorem fc172_zero : zeroT Tryd.prog 172 = some [.int .u64 0, .int .u64 0, .int .u32 0, .int .u8 0, .int .u8 0, .int .u8 0, .int .u8 0, .nilFunc, .pointer none, .int .i32 0, .int .i32 0] := by kernel_rfl
theorem fc172_all : allPlaces Tryd.prog 172 = true := by kernel_rfl
theorem fc172_o0 : fieldOff Tryd.prog 172 0 = some 0 := by kernel_rfl
theorem fc172_f0 : fieldT Tryd.prog 172 0 = some (0, 1, false) := by kernel_rfl
theorem fc172_p0 : placeT Tryd.prog 172 0 = some (0, 1) := by kernel_rfl
theorem fc172_o1 : fieldOff Tryd.prog 172 1 = some 1 := by kernel_rfl
theorem fc172_f1 : fieldT Tryd.prog 172 1 = some (1, 1, false) := by kernel_rfl
theorem fc172_p1 : placeT Tryd.prog 172 1 = some (1, 1) := by kernel_rfl
theorem fc172_o2 : fieldOff Tryd.prog 172 2 = some 2 := by kernel_rfl
theorem fc172_f2 : fieldT Tryd.prog 172 2 = some (2, 1, false) := by kernel_rfl
theorem fc172_p2 : placeT Tryd.prog 172 2 = some (2, 1) := by kernel_rfl
theorem fc172_o3 : fieldOff Tryd.prog 172 3 = some 3 := by kernel_rfl
theorem fc172_f3 : fieldT Tryd.prog 172 3 = some (3, 1, false) := by kernel_rfl
theorem fc172_p3 : placeT Tryd.prog 172 3 = some (3, 1) := by kernel_rfl
theorem fc172_o4 : fieldOff Tryd.prog 172 4 = some 4 := by kernel_rfl
theorem fc172_f4 : fieldT Tryd.prog 172 4 = some (4, 1, false) := by kernel_rfl
theorem fc172_p4 : placeT Tryd.prog 172 4 = some (4, 1) := by kernel_rfl
theorem fc172_o5 : fieldOff Tryd.prog 172 5 = some 5 := by kernel_rfl
theorem fc172_f5 : fieldT Tryd.prog 172 5 = some (5, 1, false) := by kernel_rfl
theorem fc172_p5 : placeT Tryd.prog 172 5 = some (5, 1) := by kernel_rfl
theorem fc172_o6 : fieldOff Tryd.prog 172 6 = some 6 := by kernel_rfl
theorem fc172_f6 : fieldT Tryd.prog 172 6 = some (6, 1, false) := by kernel_rfl
theorem fc172_p6 : placeT Tryd.prog 172 6 = some (6, 1) := by kernel_rfl
theorem fc172_o7 : fieldOff Tryd.prog 172 7 = some 7 := by kernel_rfl
theorem fc172_f7 : fieldT Tryd.prog 172 7 = some (7, 1, false) := by kernel_rfl
theorem fc172_p7 : placeT Tryd.prog 172 7 = some (7, 1) := by kernel_rfl
theorem fc172_o8 : fieldOff Tryd.prog 172 8 = some 8 := by kernel_rfl
theorem fc172_f8 : fieldT Tryd.prog 172 8 = some (8, 1, false) := by kernel_rfl
theorem fc172_p8 : placeT Tryd.prog 172 8 = some (8, 1) := by kernel_rfl
theorem fc172_o9 : fieldOff Tryd.prog 172 9 = some 9 := by kernel_rfl
theorem fc172_f9 : fieldT Tryd.prog 172 9 = some (9, 1, false) := by kernel_rfl
theorem fc172_p9 : placeT Tryd.prog 172 9 = some (9, 1) := by kernel_rfl
theorem fc172_o10 : fieldOff Tryd.prog 172 10 = some 10 := by kernel_rfl
theorem fc172_f10 : fieldT Tryd.prog 172 10 = some (10, 1, false) := by kernel_rfl
theorem fc172_p10 : placeT Tryd.prog 172 10 = some (10, 1) := by kernel_rfl
theorem fc173_load : loadT Tryd.prog 173 = some (11, true) := by kernel_rfl
theorem fc173_size : tySize Tryd.prog 173 = some 11 := by kernel_rfl
theorem fc173_zero : zeroT Tryd.prog 173 = some [.int .u64 0, .int .u64 0, .int .u32 0, .int .u8 0, .int .u8 0, .int .u8 0, .int .u8 0, .nilFunc, .pointer none, .int .i32 0, .int .i32 0] := by kernel_rfl
theorem fc173_all : allPlaces Tryd.prog 173 = true := by kernel_rfl
theorem fc173_o0 : fieldOff Tryd.prog 173 0 = some 0 := by kernel_rfl
theorem fc173_f0 : fieldT Tryd.prog 173 0 = some (0, 1, false) := by kernel_rfl
theorem fc173_p0 : placeT Tryd.prog 173 0 = some (0, 1) := by kernel_rfl
theorem fc173_o1 : fieldOff Tryd.prog 173 1 = some 1 := by kernel_rfl
theorem fc173_f1 : fieldT Tryd.prog 173 1 = some (1, 1, false) := by kernel_rfl
theorem fc173_p1 : placeT Tryd.prog 173 1 = some (1, 1) := by kernel_rfl
theorem fc173_o2 : fieldOff Tryd.prog 173 2 = some 2 := by kernel_rfl
theorem fc173_f2 : fieldT Tryd.prog 173 2 = some (2, 1, false) := by kernel_rfl
theorem fc173_p2 : placeT Tryd.prog 173 2 = some (2, 1) := by kernel_rfl
theorem fc173_o3 : fieldOff Tryd.prog 173 3 = some 3 := by kernel_rfl
theorem fc173_f3 : fieldT Tryd.prog 173 3 = some (3, 1, false) := by kernel_rfl
theorem fc173_p3 : placeT Tryd.prog 173 3 = some (3, 1) := by kernel_rfl
theorem fc173_o4 : fieldOff Tryd.prog 173 4 = some 4 := by kernel_rfl
theorem fc173_f4 : fieldT Tryd.prog 173 4 = some (4, 1, false) := by kernel_rfl
theorem fc173_p4 : placeT Tryd.prog 173 4 = some (4, 1) := by kernel_rfl
theorem fc173_o5 : fieldOff Tryd.prog 173 5 = some 5 := by kernel_rfl
theorem fc173_f5 : fieldT Tryd.prog 173 5 = some (5, 1, false) := by kernel_rfl
theorem fc173_p5 : placeT Tryd.prog 173 5 = some (5, 1) := by kernel_rfl
theorem fc173_o6 : fieldOff Tryd.prog 173 6 = some 6 := by kernel_rfl
theorem fc173_f6 : fieldT Tryd.prog 173 6 = some (6, 1, false) := by kernel_rfl
theorem fc173_p6 : placeT Tryd.prog 173 6 = some (6, 1) := by kernel_rfl
theorem fc173_o7 : fieldOff Tryd.prog 173 7 = some 7 := by kernel_rfl
theorem fc173_f7 : fieldT Tryd.prog 173 7 = some (7, 1, false) := by kernel_rfl
theorem fc173_p7 : placeT Tryd.prog 173 7 = some (7, 1) := by kernel_rfl
theorem fc173_o8 : fieldOff Tryd.prog 173 8 = some 8 := by kernel_rfl
theorem fc173_f8 : fieldT Tryd.prog 173 8 = some (8, 1, false) := by kernel_rfl
theorem fc173_p8 : placeT Tryd.prog 173 8 = some (8, 1) := by kernel_rfl
theorem fc173_o9 : fieldOff Tryd.prog 173 9 = some 9 := by kernel_rfl
theorem fc173_f9 : fieldT Tryd.prog 173 9 = some (9, 1, false) := by kernel_rfl
theorem fc173_p9 : placeT Tryd.prog 173 9 = some (9, 1) := by kernel_rfl
theorem fc173_o10 : fieldOff Tryd.prog 173 10 = some 10 := by kernel_rfl
theorem fc173_f10 : fieldT Tryd.prog 173 10 = some (10, 1, false) := by kernel_rfl
theorem fc173_p10 : placeT Tryd.prog 173 10 = some (10, 1) := by kernel_rfl
attribute [go_sem] fc1_load fc1_size fc1_zero fc2_load fc2_size fc2_int fc2_isb fc2_u fc2_zero fc3_load fc3_size fc3_int fc3_isb fc3_u fc3_zero fc4_load fc4_size fc4_isb fc4_zero fc5_load fc5_size fc5_int fc5_isb fc5_u fc5_zero fc6_load fc6_size fc6_int fc6_isb fc6_u fc6_zero fc7_load fc7_size fc7_zero fc7_eq fc7_all fc7_o0 fc7_f0 fc7_p0 fc7_o1 fc7_f1 fc7_p1 fc7_o2 fc7_f2 fc7_p2 fc7_o3 fc7_f3 fc7_p3 fc8_load fc8_size fc8_zero fc8_eq fc8_all fc8_o0 fc8_f0 fc8_p0 fc8_o1 fc8_f1 fc8_p1 fc8_o2 fc8_f2 fc8_p2 fc8_o3 fc8_f3 fc8_p3 fc9_load fc9_size fc9_iss fc9_zero fc10_load fc10_size fc10_iss fc10_zero fc11_load fc11_size fc11_iss fc11_zero fc12_load fc12_size fc12_int fc12_isb fc12_u fc12_zero fc13_load fc13_size fc13_zero fc13_all fc13_o0 fc13_f0 fc13_p0 fc13_o1 fc13_f1 fc13_p1 fc14_load fc14_size fc14_zero fc14_all fc14_o0 fc14_f0 fc14_p0 fc14_o1 fc14_f1 fc14_p1 fc15_load fc15_size fc15_zero fc15_sl fc16_load fc16_size fc16_zero fc16_sl fc17_load fc17_size fc17_zero fc17_sl fc18_load fc18_size fc18_zero fc18_all fc18_o0 fc18_f0 fc18_p0 fc19_load fc19_size fc19_zero fc19_all fc19_o0 fc19_f0 fc19_p0 fc21_load fc21_size fc21_int fc21_isb fc21_u fc21_zero fc22_load fc22_size fc22_zero fc22_sl fc22_arr fc22_app fc22_z1 fc22_clear fc22_byt fc23_load fc23_size fc23_zero fc24_load fc24_size fc24_zero fc24_eq fc24_all fc24_o0 fc24_f0 fc24_p0 fc24_o1 fc24_f1 fc24_p1 fc25_load fc25_size fc25_zero fc25_eq fc25_all fc25_o0 fc25_f0 fc25_p0 fc25_o1 fc25_f1 fc25_p1 fc26_load fc26_size fc26_zero fc28_load fc28_size fc28_zero fc30_load fc30_size fc30_zero fc31_load fc31_size fc31_zero fc32_load fc32_size fc32_zero fc32_sl fc32_arr fc32_app fc32_z1 fc32_clear fc32_byt fc33_load fc33_size fc33_zero fc35_load fc35_size fc35_zero fc36_load fc36_size fc36_zero fc36_sl fc36_arr fc36_app fc36_z1 fc36_clear fc36_byt fc38_load fc38_size fc38_zero fc40_load fc40_size fc40_zero fc41_load fc41_size fc41_zero fc41_eq fc41_all fc41_o0 fc41_f0 fc41_p0 fc41_o1 fc41_f1 fc41_p1 fc41_o2 fc41_f2 fc41_p2 fc41_o3 fc41_f3 fc41_p3 fc42_load fc42_size fc42_zero fc42_eq fc42_all fc42_o0 fc42_f0 fc42_p0 fc42_o1 fc42_f1 fc42_p1 fc42_o2 fc42_f2 fc42_p2 fc42_o3 fc42_f3 fc42_p3 fc43_load fc43_size fc43_zero fc44_load fc44_size fc44_zero fc46_load fc46_size fc46_zero fc47_load fc47_size fc47_zero fc47_sl fc47_arr fc47_app fc47_z1 fc47_clear fc47_byt fc49_load fc49_size fc49_zero fc50_load fc50_size fc50_zero fc52_load fc52_size fc52_zero fc53_load fc53_size fc53_zero fc54_load fc54_size fc54_zero fc55_load fc55_size fc55_zero fc56_load fc56_size fc56_zero fc56_sl fc56_arr fc56_app fc56_z1 fc56_clear fc56_byt fc57_load fc57_size fc57_zero fc57_sl fc57_arr fc57_app fc57_z1 fc57_clear fc57_byt fc58_load fc58_size fc58_zero fc58_eq fc58_all fc58_o0 fc58_f0 fc58_p0 fc58_o1 fc58_f1 fc58_p1 fc58_o2 fc58_f2 fc58_p2 fc59_load fc59_size fc59_zero fc59_eq fc59_all fc59_o0 fc59_f0 fc59_p0 fc59_o1 fc59_f1 fc59_p1 fc59_o2 fc59_f2 fc59_p2 fc61_load fc61_size fc61_zero fc63_load fc63_size fc63_zero fc64_load fc64_size fc64_zero fc65_load fc65_size fc65_zero fc66_load fc66_size fc66_zero fc66_eq fc66_all fc66_o0 fc66_f0 fc66_p0 fc66_o1 fc66_f1 fc66_p1 fc66_o2 fc66_f2 fc66_p2 fc66_o3 fc66_f3 fc66_p3 fc67_load fc67_size fc67_zero fc67_eq fc67_all fc67_o0 fc67_f0 fc67_p0 fc67_o1 fc67_f1 fc67_p1 fc67_o2 fc67_f2 fc67_p2 fc67_o3 fc67_f3 fc67_p3 fc68_load fc68_size fc68_zero fc69_load fc69_size fc69_zero fc71_load fc71_size fc71_zero fc73_load fc73_size fc73_zero fc74_load fc74_size fc74_zero fc75_load fc75_size fc75_zero fc76_load fc76_size fc76_zero fc77_load fc77_size fc77_zero fc78_load fc78_size fc78_zero fc78_sl fc79_load fc79_size fc79_int fc79_isb fc79_u fc79_zero fc80_load fc80_size fc80_zero fc80_all fc80_o0 fc80_f0 fc80_p0 fc80_o1 fc80_f1 fc80_p1 fc80_o2 fc80_f2 fc80_p2 fc81_load fc81_size fc81_zero fc81_all fc81_o0 fc81_f0 fc81_p0 fc81_o1 fc81_f1 fc81_p1 fc81_o2 fc81_f2 fc81_p2 fc82_load fc82_size fc82_zero fc83_load fc83_size fc83_zero fc84_load fc84_size fc84_zero fc85_load fc85_size fc85_zero fc86_load fc86_size fc86_zero fc87_load fc87_size fc87_zero fc88_load fc88_size fc88_zero fc88_sl fc88_arr fc88_app fc88_z1 fc88_clear fc88_byt fc89_load fc89_size fc89_zero fc90_load fc90_size fc90_zero fc91_load fc91_size fc91_zero fc92_load fc92_size fc92_zero fc92_eq fc92_all fc92_o0 fc92_f0 fc92_p0 fc92_o1 fc92_f1 fc92_p1 fc93_load fc93_size fc93_zero fc93_eq fc93_all fc93_o0 fc93_f0 fc93_p0 fc93_o1 fc93_f1 fc93_p1 fc94_load fc94_size fc94_zero fc95_load fc95_size fc95_zero fc96_load fc96_size fc96_zero fc97_load fc97_size fc97_zero fc99_load fc99_size fc99_zero fc100_load fc100_size fc100_zero fc101_load fc101_size fc101_zero fc102_load fc102_size fc102_zero fc104_load fc104_size fc104_zero fc105_load fc105_size fc105_zero fc106_load fc106_size fc106_zero fc107_load fc107_size fc107_zero fc108_load fc108_size fc108_zero fc109_load fc109_size fc109_zero fc110_load fc110_size fc110_zero fc111_load fc111_size fc111_zero fc112_load fc112_size fc112_zero fc113_load fc113_size fc113_zero fc114_load fc114_size fc114_zero fc115_load fc115_size fc115_zero fc116_load fc116_size fc116_zero fc116_eq fc116_all fc116_o0 fc116_f0 fc116_p0 fc116_o1 fc116_f1 fc116_p1 fc116_o2 fc116_f2 fc116_p2 fc116_o3 fc116_f3 fc116_p3 fc117_load fc117_size fc117_zero fc117_eq fc117_all fc117_o0 fc117_f0 fc117_p0 fc117_o1 fc117_f1 fc117_p1 fc117_o2 fc117_f2 fc117_p2 fc117_o3 fc117_f3 fc117_p3 fc118_load fc118_size fc118_zero fc119_load fc119_size fc119_zero fc120_load fc120_size fc120_zero fc121_load fc121_size fc121_zero fc122_load fc122_size fc122_zero fc123_load fc123_size fc123_zero fc124_load fc124_size fc124_zero fc125_load fc125_size fc125_zero fc126_load fc126_size fc126_zero fc127_load fc127_size fc127_zero fc128_load fc128_size fc128_zero fc129_load fc129_size fc129_zero fc130_load fc130_size fc130_zero fc131_load fc131_size fc131_zero fc132_load fc132_size fc132_zero fc133_load fc133_size fc133_zero fc134_load fc134_size fc134_zero fc134_arr fc134_sl fc134_all fc134_p0 fc134_p1 fc134_p2 fc135_load fc135_size fc135_zero fc136_load fc136_size fc136_zero fc137_load fc137_size fc137_zero fc138_load fc138_size fc138_int fc138_isb fc138_u fc138_zero fc139_load fc139_size fc139_zero fc140_load fc140_size fc140_zero fc141_load fc141_size fc141_zero fc142_load fc142_size fc142_zero fc143_load fc143_size fc143_zero fc144_load fc144_size fc144_zero fc144_arr fc144_sl fc144_all fc145_load fc145_size fc145_zero fc146_load fc146_size fc146_zero fc148_load fc148_size fc148_zero fc149_load fc149_size fc149_int fc149_isb fc149_u fc149_zero fc151_load fc151_size fc151_zero fc152_load fc152_size fc152_zero fc153_load fc153_size fc153_zero fc154_load fc154_size fc154_zero fc154_arr fc154_sl fc154_all fc155_load fc155_size fc155_arr fc155_sl fc155_all fc156_load fc156_size fc156_zero fc157_load fc157_size fc157_zero fc158_load fc158_size fc158_zero fc158_arr fc158_sl fc158_all fc159_load fc159_size fc159_arr fc159_sl fc159_all fc160_load fc160_size fc160_zero fc161_load fc161_size fc161_zero fc161_all fc161_o0 fc161_f0 fc161_p0 fc161_o1 fc161_f1 fc161_p1 fc161_o2 fc161_f2 fc161_p2 fc161_o3 fc161_f3 fc161_p3 fc162_load fc162_size fc162_zero fc162_all fc162_o0 fc162_f0 fc162_p0 fc162_o1 fc162_f1 fc162_p1 fc162_o2 fc162_f2 fc162_p2 fc162_o3 fc162_f3 fc162_p3 fc163_load fc163_size fc163_zero fc163_arr fc163_sl fc163_all fc164_load fc164_size fc164_zero fc164_all fc164_f0 fc164_p0 fc165_load fc165_size fc165_zero fc165_all fc165_f0 fc165_p0 fc166_load fc166_size fc166_int fc166_isb fc166_u fc166_zero fc167_load fc167_size fc167_int fc167_isb fc167_u fc167_zero fc168_load fc168_size fc168_zero fc169_load fc169_size fc169_zero fc169_sl fc170_load fc170_size fc170_int fc170_isb fc170_u fc170_zero fc171_load fc171_size fc171_int fc171_isb fc171_u fc171_zero fc172_load fc172_size fc172_zero fc172_all fc172_o0 fc172_f0 fc172_p0 fc172_o1 fc172_f1 fc172_p1 fc172_o2 fc172_f2 fc172_p2 fc172_o3 fc172_f3 fc172_p3 fc172_o4 fc172_f4 fc172_p4 fc172_o5 fc172_f5 fc172_p5 fc172_o6 fc172_f6 fc172_p6 fc172_o7 fc172_f7 fc172_p7 fc172_o8 fc172_f8 fc172_p8 fc172_o9 fc172_f9 fc172_p9 fc172_o10 fc172_f10 fc172_p10 fc173_load fc173_size fc173_zero fc173_all fc173_o0 fc173_f0 fc173_p0 fc173_o1 fc173_f1 fc173_p1 fc173_o2 fc173_f2 fc173_p2 fc173_o3 fc173_f3 fc173_p3 fc173_o4 fc173_f4 fc173_p4 fc173_o5 fc173_f5 fc173_p5 fc173_o6 fc173_f6 fc173_p6 fc173_o7 fc173_f7 fc173_p7 fc173_o8 fc173_f8 fc173_p8 fc173_o9 fc173_f9 fc173_p9 fc173_o10 fc173_f10 fc173_p10
end Go.Proofs.YthnnbgggfpempaaDoor
