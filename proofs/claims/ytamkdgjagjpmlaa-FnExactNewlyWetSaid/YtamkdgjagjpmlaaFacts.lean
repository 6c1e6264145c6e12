/- The closed facts on the types of this seat's program, each by the kernel. Written by program. -/
import Derived.Test.YtamkdgjagjpmlaaAm10
import Derived.Test.YtamkdgjagjpmlaaRows
namespace Go.Proofs.Ytamkdgjagjpmlaa
open Go.Am
theorem fc1_load : loadT Try.prog 1 = some (1, false) := by kernel_rfl
theorem fc1_size : tySize Try.prog 1 = some 1 := by kernel_rfl
theorem fc1_zero : zeroT Try.prog 1 = some [.nilFunc] := by kernel_rfl
theorem fc2_load : loadT Try.prog 2 = some (1, false) := by kernel_rfl
theorem fc2_size : tySize Try.prog 2 = some 1 := by kernel_rfl
theorem fc2_int : intT Try.prog 2 = some .i64 := by kernel_rfl
theorem fc2_isb : isBoolT Try.prog 2 = false := by kernel_rfl
theorem fc2_u : Try.prog.underlying 2 = some (.int .i64) := by kernel_rfl
theorem fc2_zero : zeroT Try.prog 2 = some [.int .i64 0] := by kernel_rfl
theorem fc3_load : loadT Try.prog 3 = some (1, false) := by kernel_rfl
theorem fc3_size : tySize Try.prog 3 = some 1 := by kernel_rfl
theorem fc3_int : intT Try.prog 3 = some .i64 := by kernel_rfl
theorem fc3_isb : isBoolT Try.prog 3 = false := by kernel_rfl
theorem fc3_u : Try.prog.underlying 3 = some (.int .i64) := by kernel_rfl
theorem fc3_zero : zeroT Try.prog 3 = some [.int .i64 0] := by kernel_rfl
theorem fc4_load : loadT Try.prog 4 = some (1, false) := by kernel_rfl
theorem fc4_size : tySize Try.prog 4 = some 1 := by kernel_rfl
theorem fc4_isb : isBoolT Try.prog 4 = true := by kernel_rfl
theorem fc4_zero : zeroT Try.prog 4 = some [.bool false] := by kernel_rfl
theorem fc5_load : loadT Try.prog 5 = some (1, false) := by kernel_rfl
theorem fc5_size : tySize Try.prog 5 = some 1 := by kernel_rfl
theorem fc5_int : intT Try.prog 5 = some .u8 := by kernel_rfl
theorem fc5_isb : isBoolT Try.prog 5 = false := by kernel_rfl
theorem fc5_u : Try.prog.underlying 5 = some (.int .u8) := by kernel_rfl
theorem fc5_zero : zeroT Try.prog 5 = some [.int .u8 0] := by kernel_rfl
theorem fc6_load : loadT Try.prog 6 = some (1, false) := by kernel_rfl
theorem fc6_size : tySize Try.prog 6 = some 1 := by kernel_rfl
theorem fc6_int : intT Try.prog 6 = some .u8 := by kernel_rfl
theorem fc6_isb : isBoolT Try.prog 6 = false := by kernel_rfl
theorem fc6_u : Try.prog.underlying 6 = some (.int .u8) := by kernel_rfl
theorem fc6_zero : zeroT Try.prog 6 = some [.int .u8 0] := by kernel_rfl
theorem fc7_load : loadT Try.prog 7 = some (4, true) := by kernel_rfl
theorem fc7_size : tySize Try.prog 7 = some 4 := by kernel_rfl
theorem fc7_zero : zeroT Try.prog 7 = some [.int .i64 0, .int .i64 0, .bool false, .int .u8 0] := by kernel_rfl
theorem fc7_eq : eqT Try.prog 7 = some [(0, false), (1, false), (2, true), (3, false)] := by kernel_rfl
theorem fc7_all : allPlaces Try.prog 7 = true := by kernel_rfl
theorem fc7_o0 : fieldOff Try.prog 7 0 = some 0 := by kernel_rfl
theorem fc7_f0 : fieldT Try.prog 7 0 = some (0, 1, false) := by kernel_rfl
theorem fc7_p0 : placeT Try.prog 7 0 = some (0, 1) := by kernel_rfl
theorem fc7_o1 : fieldOff Try.prog 7 1 = some 1 := by kernel_rfl
theorem fc7_f1 : fieldT Try.prog 7 1 = some (1, 1, false) := by kernel_rfl
theorem fc7_p1 : placeT Try.prog 7 1 = some (1, 1) := by kernel_rfl
theorem fc7_o2 : fieldOff Try.prog 7 2 = some 2 := by kernel_rfl
theorem fc7_f2 : fieldT Try.prog 7 2 = some (2, 1, false) := by kernel_rfl
theorem fc7_p2 : placeT Try.prog 7 2 = some (2, 1) := by kernel_rfl
theorem fc7_o3 : fieldOff Try.prog 7 3 = some 3 := by kernel_rfl
theorem fc7_f3 : fieldT Try.prog 7 3 = some (3, 1, false) := by kernel_rfl
theorem fc7_p3 : placeT Try.prog 7 3 = some (3, 1) := by kernel_rfl
theorem fc8_load : loadT Try.prog 8 = some (4, true) := by kernel_rfl
theorem fc8_size : tySize Try.prog 8 = some 4 := by kernel_rfl
theorem fc8_zero : zeroT Try.prog 8 = some [.int .i64 0, .int .i64 0, .bool false, .int .u8 0] := by kernel_rfl
theorem fc8_eq : eqT Try.prog 8 = some [(0, false), (1, false), (2, true), (3, false)] := by kernel_rfl
theorem fc8_all : allPlaces Try.prog 8 = true := by kernel_rfl
theorem fc8_o0 : fieldOff Try.prog 8 0 = some 0 := by kernel_rfl
theorem fc8_f0 : fieldT Try.prog 8 0 = some (0, 1, false) := by kernel_rfl
theorem fc8_p0 : placeT Try.prog 8 0 = some (0, 1) := by kernel_rfl
theorem fc8_o1 : fieldOff Try.prog 8 1 = some 1 := by kernel_rfl
theorem fc8_f1 : fieldT Try.prog 8 1 = some (1, 1, false) := by kernel_rfl
theorem fc8_p1 : placeT Try.prog 8 1 = some (1, 1) := by kernel_rfl
theorem fc8_o2 : fieldOff Try.prog 8 2 = some 2 := by kernel_rfl
theorem fc8_f2 : fieldT Try.prog 8 2 = some (2, 1, false) := by kernel_rfl
theorem fc8_p2 : placeT Try.prog 8 2 = some (2, 1) := by kernel_rfl
theorem fc8_o3 : fieldOff Try.prog 8 3 = some 3 := by kernel_rfl
theorem fc8_f3 : fieldT Try.prog 8 3 = some (3, 1, false) := by kernel_rfl
theorem fc8_p3 : placeT Try.prog 8 3 = some (3, 1) := by kernel_rfl
theorem fc9_load : loadT Try.prog 9 = some (1, false) := by kernel_rfl
theorem fc9_size : tySize Try.prog 9 = some 1 := by kernel_rfl
theorem fc9_iss : isStrT Try.prog 9 = true := by kernel_rfl
theorem fc9_zero : zeroT Try.prog 9 = some [.string ⟨#[]⟩] := by kernel_rfl
theorem fc10_load : loadT Try.prog 10 = some (1, false) := by kernel_rfl
theorem fc10_size : tySize Try.prog 10 = some 1 := by kernel_rfl
theorem fc10_iss : isStrT Try.prog 10 = true := by kernel_rfl
theorem fc10_zero : zeroT Try.prog 10 = some [.string ⟨#[]⟩] := by kernel_rfl
theorem fc11_load : loadT Try.prog 11 = some (1, false) := by kernel_rfl
theorem fc11_size : tySize Try.prog 11 = some 1 := by kernel_rfl
theorem fc11_iss : isStrT Try.prog 11 = true := by kernel_rfl
theorem fc11_zero : zeroT Try.prog 11 = some [.string ⟨#[]⟩] := by kernel_rfl
theorem fc12_load : loadT Try.prog 12 = some (1, false) := by kernel_rfl
theorem fc12_size : tySize Try.prog 12 = some 1 := by kernel_rfl
theorem fc12_int : intT Try.prog 12 = some .u64 := by kernel_rfl
theorem fc12_isb : isBoolT Try.prog 12 = false := by kernel_rfl
theorem fc12_u : Try.prog.underlying 12 = some (.int .u64) := by kernel_rfl
theorem fc12_zero : zeroT Try.prog 12 = some [.int .u64 0] := by kernel_rfl
theorem fc13_load : loadT Try.prog 13 = some (2, true) := by kernel_rfl
theorem fc13_size : tySize Try.prog 13 = some 2 := by kernel_rfl
theorem fc13_zero : zeroT Try.prog 13 = some [.string ⟨#[]⟩, .int .u64 0] := by kernel_rfl
theorem fc13_all : allPlaces Try.prog 13 = true := by kernel_rfl
theorem fc13_o0 : fieldOff Try.prog 13 0 = some 0 := by kernel_rfl
theorem fc13_f0 : fieldT Try.prog 13 0 = some (0, 1, false) := by kernel_rfl
theorem fc13_p0 : placeT Try.prog 13 0 = some (0, 1) := by kernel_rfl
theorem fc13_o1 : fieldOff Try.prog 13 1 = some 1 := by kernel_rfl
theorem fc13_f1 : fieldT Try.prog 13 1 = some (1, 1, false) := by kernel_rfl
theorem fc13_p1 : placeT Try.prog 13 1 = some (1, 1) := by kernel_rfl
theorem fc14_load : loadT Try.prog 14 = some (2, true) := by kernel_rfl
theorem fc14_size : tySize Try.prog 14 = some 2 := by kernel_rfl
theorem fc14_zero : zeroT Try.prog 14 = some [.string ⟨#[]⟩, .int .u64 0] := by kernel_rfl
theorem fc14_all : allPlaces Try.prog 14 = true := by kernel_rfl
theorem fc14_o0 : fieldOff Try.prog 14 0 = some 0 := by kernel_rfl
theorem fc14_f0 : fieldT Try.prog 14 0 = some (0, 1, false) := by kernel_rfl
theorem fc14_p0 : placeT Try.prog 14 0 = some (0, 1) := by kernel_rfl
theorem fc14_o1 : fieldOff Try.prog 14 1 = some 1 := by kernel_rfl
theorem fc14_f1 : fieldT Try.prog 14 1 = some (1, 1, false) := by kernel_rfl
theorem fc14_p1 : placeT Try.prog 14 1 = some (1, 1) := by kernel_rfl
theorem fc15_load : loadT Try.prog 15 = some (1, false) := by kernel_rfl
theorem fc15_size : tySize Try.prog 15 = some 1 := by kernel_rfl
theorem fc15_zero : zeroT Try.prog 15 = some [.pointer none] := by kernel_rfl
theorem fc15_sl : sliceT Try.prog 15 = none := by kernel_rfl
theorem fc16_load : loadT Try.prog 16 = some (1, false) := by kernel_rfl
theorem fc16_size : tySize Try.prog 16 = some 1 := by kernel_rfl
theorem fc16_zero : zeroT Try.prog 16 = some [.pointer none] := by kernel_rfl
theorem fc16_sl : sliceT Try.prog 16 = none := by kernel_rfl
theorem fc17_load : loadT Try.prog 17 = some (1, false) := by kernel_rfl
theorem fc17_size : tySize Try.prog 17 = some 1 := by kernel_rfl
theorem fc17_zero : zeroT Try.prog 17 = some [.pointer none] := by kernel_rfl
theorem fc17_sl : sliceT Try.prog 17 = none := by kernel_rfl
theorem fc18_load : loadT Try.prog 18 = some (1, true) := by kernel_rfl
theorem fc18_size : tySize Try.prog 18 = some 1 := by kernel_rfl
theorem fc18_zero : zeroT Try.prog 18 = some [.pointer none] := by kernel_rfl
theorem fc18_all : allPlaces Try.prog 18 = true := by kernel_rfl
theorem fc18_o0 : fieldOff Try.prog 18 0 = some 0 := by kernel_rfl
theorem fc18_f0 : fieldT Try.prog 18 0 = some (0, 1, false) := by kernel_rfl
theorem fc18_p0 : placeT Try.prog 18 0 = some (0, 1) := by kernel_rfl
theorem fc19_load : loadT Try.prog 19 = some (1, true) := by kernel_rfl
theorem fc19_size : tySize Try.prog 19 = some 1 := by kernel_rfl
theorem fc19_zero : zeroT Try.prog 19 = some [.pointer none] := by kernel_rfl
theorem fc19_all : allPlaces Try.prog 19 = true := by kernel_rfl
theorem fc19_o0 : fieldOff Try.prog 19 0 = some 0 := by kernel_rfl
theorem fc19_f0 : fieldT Try.prog 19 0 = some (0, 1, false) := by kernel_rfl
theorem fc19_p0 : placeT Try.prog 19 0 = some (0, 1) := by kernel_rfl
theorem fc21_load : loadT Try.prog 21 = some (1, false) := by kernel_rfl
theorem fc21_size : tySize Try.prog 21 = some 1 := by kernel_rfl
theorem fc21_int : intT Try.prog 21 = some .i32 := by kernel_rfl
theorem fc21_isb : isBoolT Try.prog 21 = false := by kernel_rfl
theorem fc21_u : Try.prog.underlying 21 = some (.int .i32) := by kernel_rfl
theorem fc21_zero : zeroT Try.prog 21 = some [.int .i32 0] := by kernel_rfl
theorem fc22_load : loadT Try.prog 22 = some (1, false) := by kernel_rfl
theorem fc22_size : tySize Try.prog 22 = some 1 := by kernel_rfl
theorem fc22_zero : zeroT Try.prog 22 = some [.slice none 0 0] := by kernel_rfl
theorem fc22_sl : sliceT Try.prog 22 = some (70, 4) := by kernel_rfl
theorem fc22_arr : arrT Try.prog 22 = none := by kernel_rfl
theorem fc22_app : appT Try.prog 22 = some (70, 4, 32) := by kernel_rfl
theorem fc22_z1 : zeroNT Try.prog 22 = some (70, [.int .i64 0, .int .i64 0, .int .i64 0, .int .i64 0], 32) := by kernel_rfl
theorem fc22_clear : clearT Try.prog 22 = some [.int .i64 0, .int .i64 0, .int .i64 0, .int .i64 0] := by kernel_rfl
theorem fc22_byt : bytesT Try.prog 22 = false := by kernel_rfl
theorem fc23_load : loadT Try.prog 23 = some (2, true) := by kernel_rfl
theorem fc23_size : tySize Try.prog 23 = some 2 := by kernel_rfl
theorem fc23_zero : zeroT Try.prog 23 = some [.int .i64 0, .slice none 0 0] := by kernel_rfl
theorem fc23_all : allPlaces Try.prog 23 = true := by kernel_rfl
theorem fc23_o0 : fieldOff Try.prog 23 0 = some 0 := by kernel_rfl
theorem fc23_f0 : fieldT Try.prog 23 0 = some (0, 1, false) := by kernel_rfl
theorem fc23_p0 : placeT Try.prog 23 0 = some (0, 1) := by kernel_rfl
theorem fc23_o1 : fieldOff Try.prog 23 1 = some 1 := by kernel_rfl
theorem fc23_f1 : fieldT Try.prog 23 1 = some (1, 1, false) := by kernel_rfl
theorem fc23_p1 : placeT Try.prog 23 1 = some (1, 1) := by kernel_rfl
theorem fc24_load : loadT Try.prog 24 = some (2, true) := by kernel_rfl
theorem fc24_size : tySize Try.prog 24 = some 2 := by kernel_rfl
theorem fc24_zero : zeroT Try.prog 24 = some [.int .i64 0, .slice none 0 0] := by kernel_rfl
theorem fc24_all : allPlaces Try.prog 24 = true := by kernel_rfl
theorem fc24_o0 : fieldOff Try.prog 24 0 = some 0 := by kernel_rfl
theorem fc24_f0 : fieldT Try.prog 24 0 = some (0, 1, false) := by kernel_rfl
theorem fc24_p0 : placeT Try.prog 24 0 = some (0, 1) := by kernel_rfl
theorem fc24_o1 : fieldOff Try.prog 24 1 = some 1 := by kernel_rfl
theorem fc24_f1 : fieldT Try.prog 24 1 = some (1, 1, false) := by kernel_rfl
theorem fc24_p1 : placeT Try.prog 24 1 = some (1, 1) := by kernel_rfl
theorem fc25_load : loadT Try.prog 25 = some (1, false) := by kernel_rfl
theorem fc25_size : tySize Try.prog 25 = some 1 := by kernel_rfl
theorem fc25_zero : zeroT Try.prog 25 = some [.slice none 0 0] := by kernel_rfl
theorem fc25_sl : sliceT Try.prog 25 = some (56, 4) := by kernel_rfl
theorem fc25_arr : arrT Try.prog 25 = none := by kernel_rfl
theorem fc25_app : appT Try.prog 25 = some (56, 4, 32) := by kernel_rfl
theorem fc25_z1 : zeroNT Try.prog 25 = some (56, [.int .i64 0, .int .i64 0, .int .i64 0, .bool false], 32) := by kernel_rfl
theorem fc25_clear : clearT Try.prog 25 = some [.int .i64 0, .int .i64 0, .int .i64 0, .bool false] := by kernel_rfl
theorem fc25_byt : bytesT Try.prog 25 = false := by kernel_rfl
theorem fc26_load : loadT Try.prog 26 = some (1, false) := by kernel_rfl
theorem fc26_size : tySize Try.prog 26 = some 1 := by kernel_rfl
theorem fc26_zero : zeroT Try.prog 26 = some [.slice none 0 0] := by kernel_rfl
theorem fc26_sl : sliceT Try.prog 26 = some (3, 1) := by kernel_rfl
theorem fc26_arr : arrT Try.prog 26 = none := by kernel_rfl
theorem fc26_app : appT Try.prog 26 = some (3, 1, 8) := by kernel_rfl
theorem fc26_z1 : zeroNT Try.prog 26 = some (3, [.int .i64 0], 8) := by kernel_rfl
theorem fc26_clear : clearT Try.prog 26 = some [.int .i64 0] := by kernel_rfl
theorem fc26_byt : bytesT Try.prog 26 = false := by kernel_rfl
theorem fc27_load : loadT Try.prog 27 = some (1, false) := by kernel_rfl
theorem fc27_size : tySize Try.prog 27 = some 1 := by kernel_rfl
theorem fc27_zero : zeroT Try.prog 27 = some [.nilFunc] := by kernel_rfl
theorem fc28_load : loadT Try.prog 28 = some (1, false) := by kernel_rfl
theorem fc28_size : tySize Try.prog 28 = some 1 := by kernel_rfl
theorem fc28_zero : zeroT Try.prog 28 = some [.nilFunc] := by kernel_rfl
theorem fc29_load : loadT Try.prog 29 = some (1, false) := by kernel_rfl
theorem fc29_size : tySize Try.prog 29 = some 1 := by kernel_rfl
theorem fc29_zero : zeroT Try.prog 29 = some [.slice none 0 0] := by kernel_rfl
theorem fc29_sl : sliceT Try.prog 29 = some (26, 1) := by kernel_rfl
theorem fc29_arr : arrT Try.prog 29 = none := by kernel_rfl
theorem fc29_app : appT Try.prog 29 = some (26, 1, 24) := by kernel_rfl
theorem fc29_z1 : zeroNT Try.prog 29 = some (26, [.slice none 0 0], 24) := by kernel_rfl
theorem fc29_clear : clearT Try.prog 29 = some [.slice none 0 0] := by kernel_rfl
theorem fc29_byt : bytesT Try.prog 29 = false := by kernel_rfl
theorem fc31_load : loadT Try.prog 31 = some (1, false) := by kernel_rfl
theorem fc31_size : tySize Try.prog 31 = some 1 := by kernel_rfl
theorem fc31_zero : zeroT Try.prog 31 = some [.nilFunc] := by kernel_rfl
theorem fc32_load : loadT Try.prog 32 = some (1, false) := by kernel_rfl
theorem fc32_size : tySize Try.prog 32 = some 1 := by kernel_rfl
theorem fc32_zero : zeroT Try.prog 32 = some [.slice none 0 0] := by kernel_rfl
theorem fc32_sl : sliceT Try.prog 32 = some (68, 4) := by kernel_rfl
theorem fc32_arr : arrT Try.prog 32 = none := by kernel_rfl
theorem fc32_app : appT Try.prog 32 = some (68, 4, 32) := by kernel_rfl
theorem fc32_z1 : zeroNT Try.prog 32 = some (68, [.int .i64 0, .int .i64 0, .int .i64 0, .int .i64 0], 32) := by kernel_rfl
theorem fc32_clear : clearT Try.prog 32 = some [.int .i64 0, .int .i64 0, .int .i64 0, .int .i64 0] := by kernel_rfl
theorem fc32_byt : bytesT Try.prog 32 = false := by kernel_rfl
theorem fc33_load : loadT Try.prog 33 = some (2, true) := by kernel_rfl
theorem fc33_size : tySize Try.prog 33 = some 2 := by kernel_rfl
theorem fc33_zero : zeroT Try.prog 33 = some [.int .i64 0, .slice none 0 0] := by kernel_rfl
theorem fc33_all : allPlaces Try.prog 33 = true := by kernel_rfl
theorem fc33_o0 : fieldOff Try.prog 33 0 = some 0 := by kernel_rfl
theorem fc33_f0 : fieldT Try.prog 33 0 = some (0, 1, false) := by kernel_rfl
theorem fc33_p0 : placeT Try.prog 33 0 = some (0, 1) := by kernel_rfl
theorem fc33_o1 : fieldOff Try.prog 33 1 = some 1 := by kernel_rfl
theorem fc33_f1 : fieldT Try.prog 33 1 = some (1, 1, false) := by kernel_rfl
theorem fc33_p1 : placeT Try.prog 33 1 = some (1, 1) := by kernel_rfl
theorem fc34_load : loadT Try.prog 34 = some (2, true) := by kernel_rfl
theorem fc34_size : tySize Try.prog 34 = some 2 := by kernel_rfl
theorem fc34_zero : zeroT Try.prog 34 = some [.int .i64 0, .slice none 0 0] := by kernel_rfl
theorem fc34_all : allPlaces Try.prog 34 = true := by kernel_rfl
theorem fc34_o0 : fieldOff Try.prog 34 0 = some 0 := by kernel_rfl
theorem fc34_f0 : fieldT Try.prog 34 0 = some (0, 1, false) := by kernel_rfl
theorem fc34_p0 : placeT Try.prog 34 0 = some (0, 1) := by kernel_rfl
theorem fc34_o1 : fieldOff Try.prog 34 1 = some 1 := by kernel_rfl
theorem fc34_f1 : fieldT Try.prog 34 1 = some (1, 1, false) := by kernel_rfl
theorem fc34_p1 : placeT Try.prog 34 1 = some (1, 1) := by kernel_rfl
theorem fc35_load : loadT Try.prog 35 = some (1, false) := by kernel_rfl
theorem fc35_size : tySize Try.prog 35 = some 1 := by kernel_rfl
theorem fc35_zero : zeroT Try.prog 35 = some [.nilFunc] := by kernel_rfl
theorem fc36_load : loadT Try.prog 36 = some (1, false) := by kernel_rfl
theorem fc36_size : tySize Try.prog 36 = some 1 := by kernel_rfl
theorem fc36_zero : zeroT Try.prog 36 = some [.slice none 0 0] := by kernel_rfl
theorem fc36_sl : sliceT Try.prog 36 = some (54, 4) := by kernel_rfl
theorem fc36_arr : arrT Try.prog 36 = none := by kernel_rfl
theorem fc36_app : appT Try.prog 36 = some (54, 4, 32) := by kernel_rfl
theorem fc36_z1 : zeroNT Try.prog 36 = some (54, [.int .i64 0, .int .i64 0, .int .i64 0, .bool false], 32) := by kernel_rfl
theorem fc36_clear : clearT Try.prog 36 = some [.int .i64 0, .int .i64 0, .int .i64 0, .bool false] := by kernel_rfl
theorem fc36_byt : bytesT Try.prog 36 = false := by kernel_rfl
theorem fc37_load : loadT Try.prog 37 = some (1, false) := by kernel_rfl
theorem fc37_size : tySize Try.prog 37 = some 1 := by kernel_rfl
theorem fc37_zero : zeroT Try.prog 37 = some [.nilFunc] := by kernel_rfl
theorem fc38_load : loadT Try.prog 38 = some (1, false) := by kernel_rfl
theorem fc38_size : tySize Try.prog 38 = some 1 := by kernel_rfl
theorem fc38_zero : zeroT Try.prog 38 = some [.nilFunc] := by kernel_rfl
theorem fc39_load : loadT Try.prog 39 = some (1, false) := by kernel_rfl
theorem fc39_size : tySize Try.prog 39 = some 1 := by kernel_rfl
theorem fc39_zero : zeroT Try.prog 39 = some [.nilFunc] := by kernel_rfl
theorem fc40_load : loadT Try.prog 40 = some (1, false) := by kernel_rfl
theorem fc40_size : tySize Try.prog 40 = some 1 := by kernel_rfl
theorem fc40_zero : zeroT Try.prog 40 = some [.nilFunc] := by kernel_rfl
theorem fc41_load : loadT Try.prog 41 = some (1, false) := by kernel_rfl
theorem fc41_size : tySize Try.prog 41 = some 1 := by kernel_rfl
theorem fc41_zero : zeroT Try.prog 41 = some [.nilFunc] := by kernel_rfl
theorem fc42_load : loadT Try.prog 42 = some (1, false) := by kernel_rfl
theorem fc42_size : tySize Try.prog 42 = some 1 := by kernel_rfl
theorem fc42_zero : zeroT Try.prog 42 = some [.nilFunc] := by kernel_rfl
theorem fc43_load : loadT Try.prog 43 = some (1, false) := by kernel_rfl
theorem fc43_size : tySize Try.prog 43 = some 1 := by kernel_rfl
theorem fc43_zero : zeroT Try.prog 43 = some [.nilFunc] := by kernel_rfl
theorem fc44_load : loadT Try.prog 44 = some (1, false) := by kernel_rfl
theorem fc44_size : tySize Try.prog 44 = some 1 := by kernel_rfl
theorem fc44_zero : zeroT Try.prog 44 = some [.nilFunc] := by kernel_rfl
theorem fc45_load : loadT Try.prog 45 = some (1, false) := by kernel_rfl
theorem fc45_size : tySize Try.prog 45 = some 1 := by kernel_rfl
theorem fc45_zero : zeroT Try.prog 45 = some [.nilFunc] := by kernel_rfl
theorem fc46_load : loadT Try.prog 46 = some (1, false) := by kernel_rfl
theorem fc46_size : tySize Try.prog 46 = some 1 := by kernel_rfl
theorem fc46_zero : zeroT Try.prog 46 = some [.nilFunc] := by kernel_rfl
theorem fc47_load : loadT Try.prog 47 = some (1, false) := by kernel_rfl
theorem fc47_size : tySize Try.prog 47 = some 1 := by kernel_rfl
theorem fc47_zero : zeroT Try.prog 47 = some [.nilFunc] := by kernel_rfl
theorem fc48_load : loadT Try.prog 48 = some (1, false) := by kernel_rfl
theorem fc48_size : tySize Try.prog 48 = some 1 := by kernel_rfl
theorem fc48_zero : zeroT Try.prog 48 = some [.nilFunc] := by kernel_rfl
theorem fc49_load : loadT Try.prog 49 = some (1, false) := by kernel_rfl
theorem fc49_size : tySize Try.prog 49 = some 1 := by kernel_rfl
theorem fc49_zero : zeroT Try.prog 49 = some [.nilFunc] := by kernel_rfl
theorem fc50_load : loadT Try.prog 50 = some (1, false) := by kernel_rfl
theorem fc50_size : tySize Try.prog 50 = some 1 := by kernel_rfl
theorem fc50_zero : zeroT Try.prog 50 = some [.nilFunc] := by kernel_rfl
theorem fc51_load : loadT Try.prog 51 = some (1, false) := by kernel_rfl
theorem fc51_size : tySize Try.prog 51 = some 1 := by kernel_rfl
theorem fc51_zero : zeroT Try.prog 51 = some [.nilFunc] := by kernel_rfl
theorem fc52_load : loadT Try.prog 52 = some (1, false) := by kernel_rfl
theorem fc52_size : tySize Try.prog 52 = some 1 := by kernel_rfl
theorem fc52_zero : zeroT Try.prog 52 = some [.nilFunc] := by kernel_rfl
theorem fc53_load : loadT Try.prog 53 = some (4, true) := by kernel_rfl
theorem fc53_size : tySize Try.prog 53 = some 4 := by kernel_rfl
theorem fc53_zero : zeroT Try.prog 53 = some [.int .i64 0, .int .i64 0, .int .i64 0, .bool false] := by kernel_rfl
theorem fc53_eq : eqT Try.prog 53 = some [(0, false), (1, false), (2, false), (3, true)] := by kernel_rfl
theorem fc53_all : allPlaces Try.prog 53 = true := by kernel_rfl
theorem fc53_o0 : fieldOff Try.prog 53 0 = some 0 := by kernel_rfl
theorem fc53_f0 : fieldT Try.prog 53 0 = some (0, 1, false) := by kernel_rfl
theorem fc53_p0 : placeT Try.prog 53 0 = some (0, 1) := by kernel_rfl
theorem fc53_o1 : fieldOff Try.prog 53 1 = some 1 := by kernel_rfl
theorem fc53_f1 : fieldT Try.prog 53 1 = some (1, 1, false) := by kernel_rfl
theorem fc53_p1 : placeT Try.prog 53 1 = some (1, 1) := by kernel_rfl
theorem fc53_o2 : fieldOff Try.prog 53 2 = some 2 := by kernel_rfl
theorem fc53_f2 : fieldT Try.prog 53 2 = some (2, 1, false) := by kernel_rfl
theorem fc53_p2 : placeT Try.prog 53 2 = some (2, 1) := by kernel_rfl
theorem fc53_o3 : fieldOff Try.prog 53 3 = some 3 := by kernel_rfl
theorem fc53_f3 : fieldT Try.prog 53 3 = some (3, 1, false) := by kernel_rfl
theorem fc53_p3 : placeT Try.prog 53 3 = some (3, 1) := by kernel_rfl
theorem fc54_load : loadT Try.prog 54 = some (4, true) := by kernel_rfl
theorem fc54_size : tySize Try.prog 54 = some 4 := by kernel_rfl
theorem fc54_zero : zeroT Try.prog 54 = some [.int .i64 0, .int .i64 0, .int .i64 0, .bool false] := by kernel_rfl
theorem fc54_eq : eqT Try.prog 54 = some [(0, false), (1, false), (2, false), (3, true)] := by kernel_rfl
theorem fc54_all : allPlaces Try.prog 54 = true := by kernel_rfl
theorem fc54_o0 : fieldOff Try.prog 54 0 = some 0 := by kernel_rfl
theorem fc54_f0 : fieldT Try.prog 54 0 = some (0, 1, false) := by kernel_rfl
theorem fc54_p0 : placeT Try.prog 54 0 = some (0, 1) := by kernel_rfl
theorem fc54_o1 : fieldOff Try.prog 54 1 = some 1 := by kernel_rfl
theorem fc54_f1 : fieldT Try.prog 54 1 = some (1, 1, false) := by kernel_rfl
theorem fc54_p1 : placeT Try.prog 54 1 = some (1, 1) := by kernel_rfl
theorem fc54_o2 : fieldOff Try.prog 54 2 = some 2 := by kernel_rfl
theorem fc54_f2 : fieldT Try.prog 54 2 = some (2, 1, false) := by kernel_rfl
theorem fc54_p2 : placeT Try.prog 54 2 = some (2, 1) := by kernel_rfl
theorem fc54_o3 : fieldOff Try.prog 54 3 = some 3 := by kernel_rfl
theorem fc54_f3 : fieldT Try.prog 54 3 = some (3, 1, false) := by kernel_rfl
theorem fc54_p3 : placeT Try.prog 54 3 = some (3, 1) := by kernel_rfl
theorem fc55_load : loadT Try.prog 55 = some (1, false) := by kernel_rfl
theorem fc55_size : tySize Try.prog 55 = some 1 := by kernel_rfl
theorem fc55_zero : zeroT Try.prog 55 = some [.nilFunc] := by kernel_rfl
theorem fc56_load : loadT Try.prog 56 = some (4, true) := by kernel_rfl
theorem fc56_size : tySize Try.prog 56 = some 4 := by kernel_rfl
theorem fc56_zero : zeroT Try.prog 56 = some [.int .i64 0, .int .i64 0, .int .i64 0, .bool false] := by kernel_rfl
theorem fc56_eq : eqT Try.prog 56 = some [(0, false), (1, false), (2, false), (3, true)] := by kernel_rfl
theorem fc56_all : allPlaces Try.prog 56 = true := by kernel_rfl
theorem fc56_o0 : fieldOff Try.prog 56 0 = some 0 := by kernel_rfl
theorem fc56_f0 : fieldT Try.prog 56 0 = some (0, 1, false) := by kernel_rfl
theorem fc56_p0 : placeT Try.prog 56 0 = some (0, 1) := by kernel_rfl
theorem fc56_o1 : fieldOff Try.prog 56 1 = some 1 := by kernel_rfl
theorem fc56_f1 : fieldT Try.prog 56 1 = some (1, 1, false) := by kernel_rfl
theorem fc56_p1 : placeT Try.prog 56 1 = some (1, 1) := by kernel_rfl
theorem fc56_o2 : fieldOff Try.prog 56 2 = some 2 := by kernel_rfl
theorem fc56_f2 : fieldT Try.prog 56 2 = some (2, 1, false) := by kernel_rfl
theorem fc56_p2 : placeT Try.prog 56 2 = some (2, 1) := by kernel_rfl
theorem fc56_o3 : fieldOff Try.prog 56 3 = some 3 := by kernel_rfl
theorem fc56_f3 : fieldT Try.prog 56 3 = some (3, 1, false) := by kernel_rfl
theorem fc56_p3 : placeT Try.prog 56 3 = some (3, 1) := by kernel_rfl
theorem fc57_load : loadT Try.prog 57 = some (1, false) := by kernel_rfl
theorem fc57_size : tySize Try.prog 57 = some 1 := by kernel_rfl
theorem fc57_zero : zeroT Try.prog 57 = some [.pointer none] := by kernel_rfl
theorem fc57_sl : sliceT Try.prog 57 = none := by kernel_rfl
theorem fc58_load : loadT Try.prog 58 = some (1, false) := by kernel_rfl
theorem fc58_size : tySize Try.prog 58 = some 1 := by kernel_rfl
theorem fc58_zero : zeroT Try.prog 58 = some [.nilFunc] := by kernel_rfl
theorem fc59_load : loadT Try.prog 59 = some (1, false) := by kernel_rfl
theorem fc59_size : tySize Try.prog 59 = some 1 := by kernel_rfl
theorem fc59_zero : zeroT Try.prog 59 = some [.nilFunc] := by kernel_rfl
theorem fc60_load : loadT Try.prog 60 = some (1, false) := by kernel_rfl
theorem fc60_size : tySize Try.prog 60 = some 1 := by kernel_rfl
theorem fc60_zero : zeroT Try.prog 60 = some [.nilFunc] := by kernel_rfl
theorem fc61_load : loadT Try.prog 61 = some (1, false) := by kernel_rfl
theorem fc61_size : tySize Try.prog 61 = some 1 := by kernel_rfl
theorem fc61_zero : zeroT Try.prog 61 = some [.nilFunc] := by kernel_rfl
theorem fc62_load : loadT Try.prog 62 = some (1, false) := by kernel_rfl
theorem fc62_size : tySize Try.prog 62 = some 1 := by kernel_rfl
theorem fc62_zero : zeroT Try.prog 62 = some [.nilFunc] := by kernel_rfl
theorem fc63_load : loadT Try.prog 63 = some (1, false) := by kernel_rfl
theorem fc63_size : tySize Try.prog 63 = some 1 := by kernel_rfl
theorem fc63_zero : zeroT Try.prog 63 = some [.nilFunc] := by kernel_rfl
theorem fc64_load : loadT Try.prog 64 = some (1, false) := by kernel_rfl
theorem fc64_size : tySize Try.prog 64 = some 1 := by kernel_rfl
theorem fc64_zero : zeroT Try.prog 64 = some [.nilFunc] := by kernel_rfl
theorem fc66_load : loadT Try.prog 66 = some (1, false) := by kernel_rfl
theorem fc66_size : tySize Try.prog 66 = some 1 := by kernel_rfl
theorem fc66_zero : zeroT Try.prog 66 = some [.nilFunc] := by kernel_rfl
theorem fc67_load : loadT Try.prog 67 = some (4, true) := by kernel_rfl
theorem fc67_size : tySize Try.prog 67 = some 4 := by kernel_rfl
theorem fc67_zero : zeroT Try.prog 67 = some [.int .i64 0, .int .i64 0, .int .i64 0, .int .i64 0] := by kernel_rfl
theorem fc67_eq : eqT Try.prog 67 = some [(0, false), (1, false), (2, false), (3, false)] := by kernel_rfl
theorem fc67_all : allPlaces Try.prog 67 = true := by kernel_rfl
theorem fc67_o0 : fieldOff Try.prog 67 0 = some 0 := by kernel_rfl
theorem fc67_f0 : fieldT Try.prog 67 0 = some (0, 1, false) := by kernel_rfl
theorem fc67_p0 : placeT Try.prog 67 0 = some (0, 1) := by kernel_rfl
theorem fc67_o1 : fieldOff Try.prog 67 1 = some 1 := by kernel_rfl
theorem fc67_f1 : fieldT Try.prog 67 1 = some (1, 1, false) := by kernel_rfl
theorem fc67_p1 : placeT Try.prog 67 1 = some (1, 1) := by kernel_rfl
theorem fc67_o2 : fieldOff Try.prog 67 2 = some 2 := by kernel_rfl
theorem fc67_f2 : fieldT Try.prog 67 2 = some (2, 1, false) := by kernel_rfl
theorem fc67_p2 : placeT Try.prog 67 2 = some (2, 1) := by kernel_rfl
theorem fc67_o3 : fieldOff Try.prog 67 3 = some 3 := by kernel_rfl
theorem fc67_f3 : fieldT Try.prog 67 3 = some (3, 1, false) := by kernel_rfl
theorem fc67_p3 : placeT Try.prog 67 3 = some (3, 1) := by kernel_rfl
theorem fc68_load : loadT Try.prog 68 = some (4, true) := by kernel_rfl
theorem fc68_size : tySize Try.prog 68 = some 4 := by kernel_rfl
theorem fc68_zero : zeroT Try.prog 68 = some [.int .i64 0, .int .i64 0, .int .i64 0, .int .i64 0] := by kernel_rfl
theorem fc68_eq : eqT Try.prog 68 = some [(0, false), (1, false), (2, false), (3, false)] := by kernel_rfl
theorem fc68_all : allPlaces Try.prog 68 = true := by kernel_rfl
theorem fc68_o0 : fieldOff Try.prog 68 0 = some 0 := by kernel_rfl
theorem fc68_f0 : fieldT Try.prog 68 0 = some (0, 1, false) := by kernel_rfl
theorem fc68_p0 : placeT Try.prog 68 0 = some (0, 1) := by kernel_rfl
theorem fc68_o1 : fieldOff Try.prog 68 1 = some 1 := by kernel_rfl
theorem fc68_f1 : fieldT Try.prog 68 1 = some (1, 1, false) := by kernel_rfl
theorem fc68_p1 : placeT Try.prog 68 1 = some (1, 1) := by kernel_rfl
theorem fc68_o2 : fieldOff Try.prog 68 2 = some 2 := by kernel_rfl
theorem fc68_f2 : fieldT Try.prog 68 2 = some (2, 1, false) := by kernel_rfl
theorem fc68_p2 : placeT Try.prog 68 2 = some (2, 1) := by kernel_rfl
theorem fc68_o3 : fieldOff Try.prog 68 3 = some 3 := by kernel_rfl
theorem fc68_f3 : fieldT Try.prog 68 3 = some (3, 1, false) := by kernel_rfl
theorem fc68_p3 : placeT Try.prog 68 3 = some (3, 1) := by kernel_rfl
theorem fc69_load : loadT Try.prog 69 = some (1, false) := by kernel_rfl
theorem fc69_size : tySize Try.prog 69 = some 1 := by kernel_rfl
theorem fc69_zero : zeroT Try.prog 69 = some [.nilFunc] := by kernel_rfl
theorem fc70_load : loadT Try.prog 70 = some (4, true) := by kernel_rfl
theorem fc70_size : tySize Try.prog 70 = some 4 := by kernel_rfl
theorem fc70_zero : zeroT Try.prog 70 = some [.int .i64 0, .int .i64 0, .int .i64 0, .int .i64 0] := by kernel_rfl
theorem fc70_eq : eqT Try.prog 70 = some [(0, false), (1, false), (2, false), (3, false)] := by kernel_rfl
theorem fc70_all : allPlaces Try.prog 70 = true := by kernel_rfl
theorem fc70_o0 : fieldOff Try.prog 70 0 = some 0 := by kernel_rfl
theorem fc70_f0 : fieldT Try.prog 70 0 = some (0, 1, false) := by kernel_rfl
theorem fc70_p0 : placeT Try.prog 70 0 = some (0, 1) := by kernel_rfl
theorem fc70_o1 : fieldOff Try.prog 70 1 = some 1 := by kernel_rfl
theorem fc70_f1 : fieldT Try.prog 70 1 = some (1, 1, false) := by kernel_rfl
theorem fc70_p1 : placeT Try.prog 70 1 = some (1, 1) := by kernel_rfl
theorem fc70_o2 : fieldOff Try.prog 70 2 = some 2 := by kernel_rfl
theorem fc70_f2 : fieldT Try.prog 70 2 = some (2, 1, false) := by kernel_rfl
theorem fc70_p2 : placeT Try.prog 70 2 = some (2, 1) := by kernel_rfl
theorem fc70_o3 : fieldOff Try.prog 70 3 = some 3 := by kernel_rfl
theorem fc70_f3 : fieldT Try.prog 70 3 = some (3, 1, false) := by kernel_rfl
theorem fc70_p3 : placeT Try.prog 70 3 = some (3, 1) := by kernel_rfl
theorem fc71_load : loadT Try.prog 71 = some (1, false) := by kernel_rfl
theorem fc71_size : tySize Try.prog 71 = some 1 := by kernel_rfl
theorem fc71_zero : zeroT Try.prog 71 = some [.nilFunc] := by kernel_rfl
theorem fc72_load : loadT Try.prog 72 = some (1, false) := by kernel_rfl
theorem fc72_size : tySize Try.prog 72 = some 1 := by kernel_rfl
theorem fc72_zero : zeroT Try.prog 72 = some [.nilFunc] := by kernel_rfl
theorem fc73_load : loadT Try.prog 73 = some (1, false) := by kernel_rfl
theorem fc73_size : tySize Try.prog 73 = some 1 := by kernel_rfl
theorem fc73_zero : zeroT Try.prog 73 = some [.nilFunc] := by kernel_rfl
theorem fc74_load : loadT Try.prog 74 = some (1, false) := by kernel_rfl
theorem fc74_size : tySize Try.prog 74 = some 1 := by kernel_rfl
theorem fc74_zero : zeroT Try.prog 74 = some [.nilFunc] := by kernel_rfl
theorem fc75_load : loadT Try.prog 75 = some (1, false) := by kernel_rfl
theorem fc75_size : tySize Try.prog 75 = some 1 := by kernel_rfl
theorem fc75_zero : zeroT Try.prog 75 = some [.nilFunc] := by kernel_rfl
theorem fc76_load : loadT Try.prog 76 = some (1, false) := by kernel_rfl
theorem fc76_size : tySize Try.prog 76 = some 1 := by kernel_rfl
theorem fc76_zero : zeroT Try.prog 76 = some [.nilFunc] := by kernel_rfl
theorem fc77_load : loadT Try.prog 77 = some (1, false) := by kernel_rfl
theorem fc77_size : tySize Try.prog 77 = some 1 := by kernel_rfl
theorem fc77_zero : zeroT Try.prog 77 = some [.nilFunc] := by kernel_rfl
theorem fc78_load : loadT Try.prog 78 = some (1, false) := by kernel_rfl
theorem fc78_size : tySize Try.prog 78 = some 1 := by kernel_rfl
theorem fc78_zero : zeroT Try.prog 78 = some [.nilFunc] := by kernel_rfl
theorem fc79_load : loadT Try.prog 79 = some (1, false) := by kernel_rfl
theorem fc79_size : tySize Try.prog 79 = some 1 := by kernel_rfl
theorem fc79_zero : zeroT Try.prog 79 = some [.nilFunc] := by kernel_rfl
theorem fc80_load : loadT Try.prog 80 = some (1, false) := by kernel_rfl
theorem fc80_size : tySize Try.prog 80 = some 1 := by kernel_rfl
theorem fc80_zero : zeroT Try.prog 80 = some [.nilFunc] := by kernel_rfl
theorem fc81_load : loadT Try.prog 81 = some (1, false) := by kernel_rfl
theorem fc81_size : tySize Try.prog 81 = some 1 := by kernel_rfl
theorem fc81_zero : zeroT Try.prog 81 = some [.nilFunc] := by kernel_rfl
theorem fc82_load : loadT Try.prog 82 = some (1, false) := by kernel_rfl
theorem fc82_size : tySize Try.prog 82 = some 1 := by kernel_rfl
theorem fc82_zero : zeroT Try.prog 82 = some [.nilFunc] := by kernel_rfl
theorem fc83_load : loadT Try.prog 83 = some (1, false) := by kernel_rfl
theorem fc83_size : tySize Try.prog 83 = some 1 := by kernel_rfl
theorem fc83_int : intT Try.prog 83 = some .u64 := by kernel_rfl
theorem fc83_isb : isBoolT Try.prog 83 = false := by kernel_rfl
theorem fc83_u : Try.prog.underlying 83 = some (.int .u64) := by kernel_rfl
theorem fc83_zero : zeroT Try.prog 83 = some [.int .u64 0] := by kernel_rfl
theorem fc84_load : loadT Try.prog 84 = some (19, true) := by kernel_rfl
theorem fc84_size : tySize Try.prog 84 = some 19 := by kernel_rfl
theorem fc84_zero : zeroT Try.prog 84 = some [.bool false, .bool false, .bool false, .bool false, .bool false, .bool false, .bool false, .bool false, .bool false, .bool false, .bool false, .bool false, .bool false, .bool false, .bool false, .bool false, .bool false, .bool false, .bool false] := by kernel_rfl
theorem fc84_arr : arrT Try.prog 84 = some (19, 1, false) := by kernel_rfl
theorem fc84_sl : sliceT Try.prog 84 = none := by kernel_rfl
theorem fc84_all : allPlaces Try.prog 84 = true := by kernel_rfl
theorem fc85_load : loadT Try.prog 85 = some (19, true) := by kernel_rfl
theorem fc85_size : tySize Try.prog 85 = some 19 := by kernel_rfl
theorem fc85_zero : zeroT Try.prog 85 = some [.bool false, .bool false, .bool false, .bool false, .bool false, .bool false, .bool false, .bool false, .bool false, .bool false, .bool false, .bool false, .bool false, .bool false, .bool false, .bool false, .bool false, .bool false, .bool false] := by kernel_rfl
theorem fc85_arr : arrT Try.prog 85 = some (19, 1, false) := by kernel_rfl
theorem fc85_sl : sliceT Try.prog 85 = none := by kernel_rfl
theorem fc85_all : allPlaces Try.prog 85 = true := by kernel_rfl
theorem fc86_load : loadT Try.prog 86 = some (1, false) := by kernel_rfl
theorem fc86_size : tySize Try.prog 86 = some 1 := by kernel_rfl
theorem fc86_zero : zeroT Try.prog 86 = some [.nilFunc] := by kernel_rfl
theorem fc87_load : loadT Try.prog 87 = some (1, false) := by kernel_rfl
theorem fc87_size : tySize Try.prog 87 = some 1 := by kernel_rfl
theorem fc87_zero : zeroT Try.prog 87 = some [.nilFunc] := by kernel_rfl
theorem fc88_load : loadT Try.prog 88 = some (1, false) := by kernel_rfl
theorem fc88_size : tySize Try.prog 88 = some 1 := by kernel_rfl
theorem fc88_zero : zeroT Try.prog 88 = some [.nilFunc] := by kernel_rfl
theorem fc89_load : loadT Try.prog 89 = some (1, false) := by kernel_rfl
theorem fc89_size : tySize Try.prog 89 = some 1 := by kernel_rfl
theorem fc89_zero : zeroT Try.prog 89 = some [.nilFunc] := by kernel_rfl
theorem fc90_load : loadT Try.prog 90 = some (1, false) := by kernel_rfl
theorem fc90_size : tySize Try.prog 90 = some 1 := by kernel_rfl
theorem fc90_zero : zeroT Try.prog 90 = some [.nilFunc] := by kernel_rfl
theorem fc91_load : loadT Try.prog 91 = some (1, false) := by kernel_rfl
theorem fc91_size : tySize Try.prog 91 = some 1 := by kernel_rfl
theorem fc91_zero : zeroT Try.prog 91 = some [.nilFunc] := by kernel_rfl
theorem fc92_load : loadT Try.prog 92 = some (1, false) := by kernel_rfl
theorem fc92_size : tySize Try.prog 92 = some 1 := by kernel_rfl
theorem fc92_zero : zeroT Try.prog 92 = some [.nilFunc] := by kernel_rfl
theorem fc93_load : loadT Try.prog 93 = some (1, false) := by kernel_rfl
theorem fc93_size : tySize Try.prog 93 = some 1 := by kernel_rfl
theorem fc93_zero : zeroT Try.prog 93 = some [.nilFunc] := by kernel_rfl
theorem fc94_load : loadT Try.prog 94 = some (1, false) := by kernel_rfl
theorem fc94_size : tySize Try.prog 94 = some 1 := by kernel_rfl
theorem fc94_zero : zeroT Try.prog 94 = some [.nilFunc] := by kernel_rfl
theorem fc95_load : loadT Try.prog 95 = some (1, false) := by kernel_rfl
theorem fc95_size : tySize Try.prog 95 = some 1 := by kernel_rfl
theorem fc95_int : intT Try.prog 95 = some .i64 := by kernel_rfl
theorem fc95_isb : isBoolT Try.prog 95 = false := by kernel_rfl
theorem fc95_u : Try.prog.underlying 95 = some (.int .i64) := by kernel_rfl
theorem fc95_zero : zeroT Try.prog 95 = some [.int .i64 0] := by kernel_rfl
theorem fc97_load : loadT Try.prog 97 = some (1, false) := by kernel_rfl
theorem fc97_size : tySize Try.prog 97 = some 1 := by kernel_rfl
theorem fc97_zero : zeroT Try.prog 97 = some [.nilFunc] := by kernel_rfl
theorem fc98_load : loadT Try.prog 98 = some (1, false) := by kernel_rfl
theorem fc98_size : tySize Try.prog 98 = some 1 := by kernel_rfl
theorem fc98_zero : zeroT Try.prog 98 = some [.nilFunc] := by kernel_rfl
theorem fc99_load : loadT Try.prog 99 = some (1, false) := by kernel_rfl
theorem fc99_size : tySize Try.prog 99 = some 1 := by kernel_rfl
theorem fc99_zero : zeroT Try.prog 99 = some [.nilFunc] := by kernel_rfl
theorem fc100_load : loadT Try.prog 100 = some (1, false) := by kernel_rfl
theorem fc100_size : tySize Try.prog 100 = some 1 := by kernel_rfl
theorem fc100_zero : zeroT Try.prog 100 = some [.nilFunc] := by kernel_rfl
theorem fc102_load : loadT Try.prog 102 = some (1, false) := by kernel_rfl
theorem fc102_size : tySize Try.prog 102 = some 1 := by kernel_rfl
theorem fc102_zero : zeroT Try.prog 102 = some [.nilFunc] := by kernel_rfl
theorem fc103_load : loadT Try.prog 103 = some (1, false) := by kernel_rfl
theorem fc103_size : tySize Try.prog 103 = some 1 := by kernel_rfl
theorem fc103_zero : zeroT Try.prog 103 = some [.nilFunc] := by kernel_rfl
theorem fc104_load : loadT Try.prog 104 = some (1, false) := by kernel_rfl
theorem fc104_size : tySize Try.prog 104 = some 1 := by kernel_rfl
theorem fc104_int : intT Try.prog 104 = some .u32 := by kernel_rfl
theorem fc104_isb : isBoolT Try.prog 104 = false := by kernel_rfl
theorem fc104_u : Try.prog.underlying 104 = some (.int .u32) := by kernel_rfl
theorem fc104_zero : zeroT Try.prog 104 = some [.int .u32 0] := by kernel_rfl
theorem fc105_load : loadT Try.prog 105 = some (1, false) := by kernel_rfl
theorem fc105_size : tySize Try.prog 105 = some 1 := by kernel_rfl
theorem fc105_zero : zeroT Try.prog 105 = some [.nilFunc] := by kernel_rfl
theorem fc106_load : loadT Try.prog 106 = some (1, false) := by kernel_rfl
theorem fc106_size : tySize Try.prog 106 = some 1 := by kernel_rfl
theorem fc106_int : intT Try.prog 106 = some .u64 := by kernel_rfl
theorem fc106_isb : isBoolT Try.prog 106 = false := by kernel_rfl
theorem fc106_u : Try.prog.underlying 106 = some (.int .u64) := by kernel_rfl
theorem fc106_zero : zeroT Try.prog 106 = some [.int .u64 0] := by kernel_rfl
theorem fc107_load : loadT Try.prog 107 = some (1, false) := by kernel_rfl
theorem fc107_size : tySize Try.prog 107 = some 1 := by kernel_rfl
theorem fc107_zero : zeroT Try.prog 107 = some [.nilFunc] := by kernel_rfl
theorem fc108_load : loadT Try.prog 108 = some (1, false) := by kernel_rfl
theorem fc108_size : tySize Try.prog 108 = some 1 := by kernel_rfl
theorem fc108_zero : zeroT Try.prog 108 = some [.nilFunc] := by kernel_rfl
theorem fc109_load : loadT Try.prog 109 = some (1, false) := by kernel_rfl
theorem fc109_size : tySize Try.prog 109 = some 1 := by kernel_rfl
theorem fc109_zero : zeroT Try.prog 109 = some [.nilFunc] := by kernel_rfl
theorem fc110_load : loadT Try.prog 110 = some (1, false) := by kernel_rfl
theorem fc110_size : tySize Try.prog 110 = some 1 := by kernel_rfl
theorem fc110_int : intT Try.prog 110 = some .u64 := by kernel_rfl
theorem fc110_isb : isBoolT Try.prog 110 = false := by kernel_rfl
theorem fc110_u : Try.prog.underlying 110 = some (.int .u64) := by kernel_rfl
theorem fc110_zero : zeroT Try.prog 110 = some [.int .u64 0] := by kernel_rfl
theorem fc111_load : loadT Try.prog 111 = some (1, false) := by kernel_rfl
theorem fc111_size : tySize Try.prog 111 = some 1 := by kernel_rfl
theorem fc111_zero : zeroT Try.prog 111 = some [.nilFunc] := by kernel_rfl
theorem fc112_load : loadT Try.prog 112 = some (1, false) := by kernel_rfl
theorem fc112_size : tySize Try.prog 112 = some 1 := by kernel_rfl
theorem fc112_zero : zeroT Try.prog 112 = some [.nilFunc] := by kernel_rfl
theorem fc113_load : loadT Try.prog 113 = some (1, false) := by kernel_rfl
theorem fc113_size : tySize Try.prog 113 = some 1 := by kernel_rfl
theorem fc113_zero : zeroT Try.prog 113 = some [.nilFunc] := by kernel_rfl
theorem fc114_load : loadT Try.prog 114 = some (1, false) := by kernel_rfl
theorem fc114_size : tySize Try.prog 114 = some 1 := by kernel_rfl
theorem fc114_zero : zeroT Try.prog 114 = some [.pointer none] := by kernel_rfl
theorem fc114_sl : sliceT Try.prog 114 = none := by kernel_rfl
theorem fc115_load : loadT Try.prog 115 = some (1, false) := by kernel_rfl
theorem fc115_size : tySize Try.prog 115 = some 1 := by kernel_rfl
theorem fc115_zero : zeroT Try.prog 115 = some [.nilFunc] := by kernel_rfl
theorem fc116_load : loadT Try.prog 116 = some (1, false) := by kernel_rfl
theorem fc116_size : tySize Try.prog 116 = some 1 := by kernel_rfl
theorem fc116_zero : zeroT Try.prog 116 = some [.pointer none] := by kernel_rfl
theorem fc116_sl : sliceT Try.prog 116 = none := by kernel_rfl
theorem fc118_load : loadT Try.prog 118 = some (1, false) := by kernel_rfl
theorem fc118_size : tySize Try.prog 118 = some 1 := by kernel_rfl
theorem fc118_zero : zeroT Try.prog 118 = some [.nilFunc] := by kernel_rfl
theorem fc119_load : loadT Try.prog 119 = some (1, false) := by kernel_rfl
theorem fc119_size : tySize Try.prog 119 = some 1 := by kernel_rfl
theorem fc119_zero : zeroT Try.prog 119 = some [.nilFunc] := by kernel_rfl
theorem fc120_load : loadT Try.prog 120 = some (4, true) := by kernel_rfl
theorem fc120_size : tySize Try.prog 120 = some 4 := by kernel_rfl
theorem fc120_zero : zeroT Try.prog 120 = some [.pointer none, .pointer none, .pointer none, .string ⟨#[]⟩] := by kernel_rfl
theorem fc120_all : allPlaces Try.prog 120 = true := by kernel_rfl
theorem fc120_o0 : fieldOff Try.prog 120 0 = some 0 := by kernel_rfl
theorem fc120_f0 : fieldT Try.prog 120 0 = some (0, 1, false) := by kernel_rfl
theorem fc120_p0 : placeT Try.prog 120 0 = some (0, 1) := by kernel_rfl
theorem fc120_o1 : fieldOff Try.prog 120 1 = some 1 := by kernel_rfl
theorem fc120_f1 : fieldT Try.prog 120 1 = some (1, 1, false) := by kernel_rfl
theorem fc120_p1 : placeT Try.prog 120 1 = some (1, 1) := by kernel_rfl
theorem fc120_o2 : fieldOff Try.prog 120 2 = some 2 := by kernel_rfl
theorem fc120_f2 : fieldT Try.prog 120 2 = some (2, 1, false) := by kernel_rfl
theorem fc120_p2 : placeT Try.prog 120 2 = some (2, 1) := by kernel_rfl
theorem fc120_o3 : fieldOff Try.prog 120 3 = some 3 := by kernel_rfl
theorem fc120_f3 : fieldT Try.prog 120 3 = some (3, 1, false) := by kernel_rfl
theorem fc120_p3 : placeT Try.prog 120 3 = some (3, 1) := by kernel_rfl
theorem fc121_load : loadT Try.prog 121 = some (4, true) := by kernel_rfl
theorem fc121_size : tySize Try.prog 121 = some 4 := by kernel_rfl
theorem fc121_zero : zeroT Try.prog 121 = some [.pointer none, .pointer none, .pointer none, .string ⟨#[]⟩] := by kernel_rfl
theorem fc121_all : allPlaces Try.prog 121 = true := by kernel_rfl
theorem fc121_o0 : fieldOff Try.prog 121 0 = some 0 := by kernel_rfl
theorem fc121_f0 : fieldT Try.prog 121 0 = some (0, 1, false) := by kernel_rfl
theorem fc121_p0 : placeT Try.prog 121 0 = some (0, 1) := by kernel_rfl
theorem fc121_o1 : fieldOff Try.prog 121 1 = some 1 := by kernel_rfl
theorem fc121_f1 : fieldT Try.prog 121 1 = some (1, 1, false) := by kernel_rfl
theorem fc121_p1 : placeT Try.prog 121 1 = some (1, 1) := by kernel_rfl
theorem fc121_o2 : fieldOff Try.prog 121 2 = some 2 := by kernel_rfl
theorem fc121_f2 : fieldT Try.prog 121 2 = some (2, 1, false) := by kernel_rfl
theorem fc121_p2 : placeT Try.prog 121 2 = some (2, 1) := by kernel_rfl
theorem fc121_o3 : fieldOff Try.prog 121 3 = some 3 := by kernel_rfl
theorem fc121_f3 : fieldT Try.prog 121 3 = some (3, 1, false) := by kernel_rfl
theorem fc121_p3 : placeT Try.prog 121 3 = some (3, 1) := by kernel_rfl
theorem fc122_load : loadT Try.prog 122 = some (0, true) := by kernel_rfl
theorem fc122_size : tySize Try.prog 122 = some 0 := by kernel_rfl
theorem fc122_zero : zeroT Try.prog 122 = some [] := by kernel_rfl
theorem fc122_arr : arrT Try.prog 122 = some (0, 1, false) := by kernel_rfl
theorem fc122_sl : sliceT Try.prog 122 = none := by kernel_rfl
theorem fc122_all : allPlaces Try.prog 122 = true := by kernel_rfl
theorem fc123_load : loadT Try.prog 123 = some (0, true) := by kernel_rfl
theorem fc123_size : tySize Try.prog 123 = some 0 := by kernel_rfl
theorem fc123_zero : zeroT Try.prog 123 = some [] := by kernel_rfl
theorem fc123_all : allPlaces Try.prog 123 = true := by kernel_rfl
theorem fc123_f0 : fieldT Try.prog 123 0 = some (0, 0, true) := by kernel_rfl
theorem fc123_p0 : placeT Try.prog 123 0 = some (0, 0) := by kernel_rfl
theorem fc124_load : loadT Try.prog 124 = some (0, true) := by kernel_rfl
theorem fc124_size : tySize Try.prog 124 = some 0 := by kernel_rfl
theorem fc124_zero : zeroT Try.prog 124 = some [] := by kernel_rfl
theorem fc124_all : allPlaces Try.prog 124 = true := by kernel_rfl
theorem fc124_f0 : fieldT Try.prog 124 0 = some (0, 0, true) := by kernel_rfl
theorem fc124_p0 : placeT Try.prog 124 0 = some (0, 0) := by kernel_rfl
theorem fc125_load : loadT Try.prog 125 = some (1, false) := by kernel_rfl
theorem fc125_size : tySize Try.prog 125 = some 1 := by kernel_rfl
theorem fc125_zero : zeroT Try.prog 125 = some [.nilFunc] := by kernel_rfl
theorem fc126_load : loadT Try.prog 126 = some (1, false) := by kernel_rfl
theorem fc126_size : tySize Try.prog 126 = some 1 := by kernel_rfl
theorem fc126_int : intT Try.prog 126 = some .u8 := by kernel_rfl
theorem fc126_isb : isBoolT Try.prog 126 = false := by kernel_rfl
theorem fc126_u : Try.prog.underlying 126 = some (.int .u8) := by kernel_rfl
theorem fc126_zero : zeroT Try.prog 126 = some [.int .u8 0] := by kernel_rfl
theorem fc127_load : loadT Try.prog 127 = some (1, false) := by kernel_rfl
theorem fc127_size : tySize Try.prog 127 = some 1 := by kernel_rfl
theorem fc127_int : intT Try.prog 127 = some .u8 := by kernel_rfl
theorem fc127_isb : isBoolT Try.prog 127 = false := by kernel_rfl
theorem fc127_u : Try.prog.underlying 127 = some (.int .u8) := by kernel_rfl
theorem fc127_zero : zeroT Try.prog 127 = some [.int .u8 0] := by kernel_rfl
theorem fc128_load : loadT Try.prog 128 = some (1, false) := by kernel_rfl
theorem fc128_size : tySize Try.prog 128 = some 1 := by kernel_rfl
theorem fc128_zero : zeroT Try.prog 128 = some [.nilFunc] := by kernel_rfl
theorem fc129_load : loadT Try.prog 129 = some (1, false) := by kernel_rfl
theorem fc129_size : tySize Try.prog 129 = some 1 := by kernel_rfl
theorem fc129_zero : zeroT Try.prog 129 = some [.pointer none] := by kernel_rfl
theorem fc129_sl : sliceT Try.prog 129 = none := by kernel_rfl
theorem fc130_load : loadT Try.prog 130 = some (1, false) := by kernel_rfl
theorem fc130_size : tySize Try.prog 130 = some 1 := by kernel_rfl
theorem fc130_int : intT Try.prog 130 = some .i32 := by kernel_rfl
theorem fc130_isb : isBoolT Try.prog 130 = false := by kernel_rfl
theorem fc130_u : Try.prog.underlying 130 = some (.int .i32) := by kernel_rfl
theorem fc130_zero : zeroT Try.prog 130 = some [.int .i32 0] := by kernel_rfl
theorem fc131_load : loadT Try.prog 131 = some (1, false) := by kernel_rfl
theorem fc131_size : tySize Try.prog 131 = some 1 := by kernel_rfl
theorem fc131_int : intT Try.prog 131 = some .i32 := by kernel_rfl
theorem fc131_isb : isBoolT Try.prog 131 = false := by kernel_rfl
theorem fc131_u : Try.prog.underlying 131 = some (.int .i32) := by kernel_rfl
theorem fc131_zero : zeroT Try.prog 131 = some [.int .i32 0] := by kernel_rfl
theorem fc132_load : loadT Try.prog 132 = some (11, true) := by kernel_rfl
theorem fc132_size : tySize Try.prog 132 = some 11 := by kernel_rfl
theorem fc132_zero : zeroT Try.prog 132 = some [.int .u64 0, .int .u64 0, .int .u32 0, .int .u8 0, .int .u8 0, .int .u8 0, .int .u8 0, .nilFunc, .pointer none, .int .i32 0, .int .i32 0] := by kernel_rfl
theorem fc132_all : allPlaces Try.prog 132 = true := by kernel_rfl
theorem fc132_o0 : fieldOff Try.prog 132 0 = some 0 := by kernel_rfl
theorem fc132_f0 : fieldT Try.prog 132 0 = some (0, 1, false) := by kernel_rfl
theorem fc132_p0 : placeT Try.prog 132 0 = some (0, 1) := by kernel_rfl
theorem fc132_o1 : fieldOff Try.prog 132 1 = some 1 := by kernel_rfl
theorem fc132_f1 : fieldT Try.prog 132 1 = some (1, 1, false) := by kernel_rfl
theorem fc132_p1 : placeT Try.prog 132 1 = some (1, 1) := by kernel_rfl
theorem fc132_o2 : fieldOff Try.prog 132 2 = some 2 := by kernel_rfl
theorem fc132_f2 : fieldT Try.prog 132 2 = some (2, 1, false) := by kernel_rfl
theorem fc132_p2 : placeT Try.prog 132 2 = some (2, 1) := by kernel_rfl
theorem fc132_o3 : fieldOff Try.prog 132 3 = some 3 := by kernel_rfl
theorem fc132_f3 : fieldT Try.prog 132 3 = some (3, 1, false) := by kernel_rfl
theorem fc132_p3 : placeT Try.prog 132 3 = some (3, 1) := by kernel_rfl
theorem fc132_o4 : fieldOff Try.prog 132 4 = some 4 := by kernel_rfl
theorem fc132_f4 : fieldT Try.prog 132 4 = some (4, 1, false) := by kernel_rfl
theorem fc132_p4 : placeT Try.prog 132 4 = some (4, 1) := by kernel_rfl
theorem fc132_o5 : fieldOff Try.prog 132 5 = some 5 := by kernel_rfl
theorem fc132_f5 : fieldT Try.prog 132 5 = some (5, 1, false) := by kernel_rfl
theorem fc132_p5 : placeT Try.prog 132 5 = some (5, 1) := by kernel_rfl
theorem fc132_o6 : fieldOff Try.prog 132 6 = some 6 := by kernel_rfl
theorem fc132_f6 : fieldT Try.prog 132 6 = some (6, 1, false) := by kernel_rfl
theorem fc132_p6 : placeT Try.prog 132 6 = some (6, 1) := by kernel_rfl
theorem fc132_o7 : fieldOff Try.prog 132 7 = some 7 := by kernel_rfl
theorem fc132_f7 : fieldT Try.prog 132 7 = some (7, 1, false) := by kernel_rfl
theorem fc132_p7 : placeT Try.prog 132 7 = some (7, 1) := by kernel_rfl
theorem fc132_o8 : fieldOff Try.prog 132 8 = some 8 := by kernel_rfl
theorem fc132_f8 : fieldT Try.prog 132 8 = some (8, 1, false) := by kernel_rfl
theorem fc132_p8 : placeT Try.prog 132 8 = some (8, 1) := by kernel_rfl
theorem fc132_o9 : fieldOff Try.prog 132 9 = some 9 := by kernel_rfl
theorem fc132_f9 : fieldT Try.prog 132 9 = some (9, 1, false) := by kernel_rfl
theorem fc132_p9 : placeT Try.prog 132 9 = some (9, 1) := by kernel_rfl
theorem fc132_o10 : fieldOff Try.prog 132 10 = some 10 := by kernel_rfl
theorem fc132_f10 : fieldT Try.prog 132 10 = some (10, 1, false) := by kernel_rfl
theorem fc132_p10 : placeT Try.prog 132 10 = some (10, 1) := by kernel_rfl
theorem fc133_load : loadT Try.prog 133 = some (11, true) := by kernel_rfl
theorem fc133_size : tySize Try.prog 133 = some 11 := by kernel_rfl
theorem fc133_zero : zeroT Try.prog 133 = some [.int .u64 0, .int .u64 0, .int .u32 0, .int .u8 0, .int .u8 0, .int .u8 0, .int .u8 0, .nilFunc, .pointer none, .int .i32 0, .int .i32 0] := by kernel_rfl
theorem fc133_all : allPlaces Try.prog 133 = true := by kernel_rfl
theorem fc133_o0 : fieldOff Try.prog 133 0 = some 0 := by kernel_rfl
theorem fc133_f0 : fieldT Try.prog 133 0 = some (0, 1, false) := by kernel_rfl
theorem fc133_p0 : placeT Try.prog 133 0 = some (0, 1) := by kernel_rfl
theorem fc133_o1 : fieldOff Try.prog 133 1 = some 1 := by kernel_rfl
theorem fc133_f1 : fieldT Try.prog 133 1 = some (1, 1, false) := by kernel_rfl
theorem fc133_p1 : placeT Try.prog 133 1 = some (1, 1) := by kernel_rfl
theorem fc133_o2 : fieldOff Try.prog 133 2 = some 2 := by kernel_rfl
theorem fc133_f2 : fieldT Try.prog 133 2 = some (2, 1, false) := by kernel_rfl
theorem fc133_p2 : placeT Try.prog 133 2 = some (2, 1) := by kernel_rfl
theorem fc133_o3 : fieldOff Try.prog 133 3 = some 3 := by kernel_rfl
theorem fc133_f3 : fieldT Try.prog 133 3 = some (3, 1, false) := by kernel_rfl
theorem fc133_p3 : placeT Try.prog 133 3 = some (3, 1) := by kernel_rfl
theorem fc133_o4 : fieldOff Try.prog 133 4 = some 4 := by kernel_rfl
theorem fc133_f4 : fieldT Try.prog 133 4 = some (4, 1, false) := by kernel_rfl
theorem fc133_p4 : placeT Try.prog 133 4 = some (4, 1) := by kernel_rfl
theorem fc133_o5 : fieldOff Try.prog 133 5 = some 5 := by kernel_rfl
theorem fc133_f5 : fieldT Try.prog 133 5 = some (5, 1, false) := by kernel_rfl
theorem fc133_p5 : placeT Try.prog 133 5 = some (5, 1) := by kernel_rfl
theorem fc133_o6 : fieldOff Try.prog 133 6 = some 6 := by kernel_rfl
theorem fc133_f6 : fieldT Try.prog 133 6 = some (6, 1, false) := by kernel_rfl
theorem fc133_p6 : placeT Try.prog 133 6 = some (6, 1) := by kernel_rfl
theorem fc133_o7 : fieldOff Try.prog 133 7 = some 7 := by kernel_rfl
theorem fc133_f7 : fieldT Try.prog 133 7 = some (7, 1, false) := by kernel_rfl
theorem fc133_p7 : placeT Try.prog 133 7 = some (7, 1) := by kernel_rfl
theorem fc133_o8 : fieldOff Try.prog 133 8 = some 8 := by kernel_rfl
theorem fc133_f8 : fieldT Try.prog 133 8 = some (8, 1, false) := by kernel_rfl
theorem fc133_p8 : placeT Try.prog 133 8 = some (8, 1) := by kernel_rfl
theorem fc133_o9 : fieldOff Try.prog 133 9 = some 9 := by kernel_rfl
theorem fc133_f9 : fieldT Try.prog 133 9 = some (9, 1, false) := by kernel_rfl
theorem fc133_p9 : placeT Try.prog 133 9 = some (9, 1) := by kernel_rfl
theorem fc133_o10 : fieldOff Try.prog 133 10 = some 10 := by kernel_rfl
theorem fc133_f10 : fieldT Try.prog 133 10 = some (10, 1, false) := by kernel_rfl
theorem fc133_p10 : placeT Try.prog 133 10 = some (10, 1) := by kernel_rfl
attribute [go_sem] fc1_load fc1_size fc1_zero fc2_load fc2_size fc2_int fc2_isb fc2_u fc2_zero fc3_load fc3_size fc3_int fc3_isb fc3_u fc3_zero fc4_load fc4_size fc4_isb fc4_zero fc5_load fc5_size fc5_int fc5_isb fc5_u fc5_zero fc6_load fc6_size fc6_int fc6_isb fc6_u fc6_zero fc7_load fc7_size fc7_zero fc7_eq fc7_all fc7_o0 fc7_f0 fc7_p0 fc7_o1 fc7_f1 fc7_p1 fc7_o2 fc7_f2 fc7_p2 fc7_o3 fc7_f3 fc7_p3 fc8_load fc8_size fc8_zero fc8_eq fc8_all fc8_o0 fc8_f0 fc8_p0 fc8_o1 fc8_f1 fc8_p1 fc8_o2 fc8_f2 fc8_p2 fc8_o3 fc8_f3 fc8_p3 fc9_load fc9_size fc9_iss fc9_zero fc10_load fc10_size fc10_iss fc10_zero fc11_load fc11_size fc11_iss fc11_zero fc12_load fc12_size fc12_int fc12_isb fc12_u fc12_zero fc13_load fc13_size fc13_zero fc13_all fc13_o0 fc13_f0 fc13_p0 fc13_o1 fc13_f1 fc13_p1 fc14_load fc14_size fc14_zero fc14_all fc14_o0 fc14_f0 fc14_p0 fc14_o1 fc14_f1 fc14_p1 fc15_load fc15_size fc15_zero fc15_sl fc16_load fc16_size fc16_zero fc16_sl fc17_load fc17_size fc17_zero fc17_sl fc18_load fc18_size fc18_zero fc18_all fc18_o0 fc18_f0 fc18_p0 fc19_load fc19_size fc19_zero fc19_all fc19_o0 fc19_f0 fc19_p0 fc21_load fc21_size fc21_int fc21_isb fc21_u fc21_zero fc22_load fc22_size fc22_zero fc22_sl fc22_arr fc22_app fc22_z1 fc22_clear fc22_byt fc23_load fc23_size fc23_zero fc23_all fc23_o0 fc23_f0 fc23_p0 fc23_o1 fc23_f1 fc23_p1 fc24_load fc24_size fc24_zero fc24_all fc24_o0 fc24_f0 fc24_p0 fc24_o1 fc24_f1 fc24_p1 fc25_load fc25_size fc25_zero fc25_sl fc25_arr fc25_app fc25_z1 fc25_clear fc25_byt fc26_load fc26_size fc26_zero fc26_sl fc26_arr fc26_app fc26_z1 fc26_clear fc26_byt fc27_load fc27_size fc27_zero fc28_load fc28_size fc28_zero fc29_load fc29_size fc29_zero fc29_sl fc29_arr fc29_app fc29_z1 fc29_clear fc29_byt fc31_load fc31_size fc31_zero fc32_load fc32_size fc32_zero fc32_sl fc32_arr fc32_app fc32_z1 fc32_clear fc32_byt fc33_load fc33_size fc33_zero fc33_all fc33_o0 fc33_f0 fc33_p0 fc33_o1 fc33_f1 fc33_p1 fc34_load fc34_size fc34_zero fc34_all fc34_o0 fc34_f0 fc34_p0 fc34_o1 fc34_f1 fc34_p1 fc35_load fc35_size fc35_zero fc36_load fc36_size fc36_zero fc36_sl fc36_arr fc36_app fc36_z1 fc36_clear fc36_byt fc37_load fc37_size fc37_zero fc38_load fc38_size fc38_zero fc39_load fc39_size fc39_zero fc40_load fc40_size fc40_zero fc41_load fc41_size fc41_zero fc42_load fc42_size fc42_zero fc43_load fc43_size fc43_zero fc44_load fc44_size fc44_zero fc45_load fc45_size fc45_zero fc46_load fc46_size fc46_zero fc47_load fc47_size fc47_zero fc48_load fc48_size fc48_zero fc49_load fc49_size fc49_zero fc50_load fc50_size fc50_zero fc51_load fc51_size fc51_zero fc52_load fc52_size fc52_zero fc53_load fc53_size fc53_zero fc53_eq fc53_all fc53_o0 fc53_f0 fc53_p0 fc53_o1 fc53_f1 fc53_p1 fc53_o2 fc53_f2 fc53_p2 fc53_o3 fc53_f3 fc53_p3 fc54_load fc54_size fc54_zero fc54_eq fc54_all fc54_o0 fc54_f0 fc54_p0 fc54_o1 fc54_f1 fc54_p1 fc54_o2 fc54_f2 fc54_p2 fc54_o3 fc54_f3 fc54_p3 fc55_load fc55_size fc55_zero fc56_load fc56_size fc56_zero fc56_eq fc56_all fc56_o0 fc56_f0 fc56_p0 fc56_o1 fc56_f1 fc56_p1 fc56_o2 fc56_f2 fc56_p2 fc56_o3 fc56_f3 fc56_p3 fc57_load fc57_size fc57_zero fc57_sl fc58_load fc58_size fc58_zero fc59_load fc59_size fc59_zero fc60_load fc60_size fc60_zero fc61_load fc61_size fc61_zero fc62_load fc62_size fc62_zero fc63_load fc63_size fc63_zero fc64_load fc64_size fc64_zero fc66_load fc66_size fc66_zero fc67_load fc67_size fc67_zero fc67_eq fc67_all fc67_o0 fc67_f0 fc67_p0 fc67_o1 fc67_f1 fc67_p1 fc67_o2 fc67_f2 fc67_p2 fc67_o3 fc67_f3 fc67_p3 fc68_load fc68_size fc68_zero fc68_eq fc68_all fc68_o0 fc68_f0 fc68_p0 fc68_o1 fc68_f1 fc68_p1 fc68_o2 fc68_f2 fc68_p2 fc68_o3 fc68_f3 fc68_p3 fc69_load fc69_size fc69_zero fc70_load fc70_size fc70_zero fc70_eq fc70_all fc70_o0 fc70_f0 fc70_p0 fc70_o1 fc70_f1 fc70_p1 fc70_o2 fc70_f2 fc70_p2 fc70_o3 fc70_f3 fc70_p3 fc71_load fc71_size fc71_zero fc72_load fc72_size fc72_zero fc73_load fc73_size fc73_zero fc74_load fc74_size fc74_zero fc75_load fc75_size fc75_zero fc76_load fc76_size fc76_zero fc77_load fc77_size fc77_zero fc78_load fc78_size fc78_zero fc79_load fc79_size fc79_zero fc80_load fc80_size fc80_zero fc81_load fc81_size fc81_zero fc82_load fc82_size fc82_zero fc83_load fc83_size fc83_int fc83_isb fc83_u fc83_zero fc84_load fc84_size fc84_zero fc84_arr fc84_sl fc84_all fc85_load fc85_size fc85_zero fc85_arr fc85_sl fc85_all fc86_load fc86_size fc86_zero fc87_load fc87_size fc87_zero fc88_load fc88_size fc88_zero fc89_load fc89_size fc89_zero fc90_load fc90_size fc90_zero fc91_load fc91_size fc91_zero fc92_load fc92_size fc92_zero fc93_load fc93_size fc93_zero fc94_load fc94_size fc94_zero fc95_load fc95_size fc95_int fc95_isb fc95_u fc95_zero fc97_load fc97_size fc97_zero fc98_load fc98_size fc98_zero fc99_load fc99_size fc99_zero fc100_load fc100_size fc100_zero fc102_load fc102_size fc102_zero fc103_load fc103_size fc103_zero fc104_load fc104_size fc104_int fc104_isb fc104_u fc104_zero fc105_load fc105_size fc105_zero fc106_load fc106_size fc106_int fc106_isb fc106_u fc106_zero fc107_load fc107_size fc107_zero fc108_load fc108_size fc108_zero fc109_load fc109_size fc109_zero fc110_load fc110_size fc110_int fc110_isb fc110_u fc110_zero fc111_load fc111_size fc111_zero fc112_load fc112_size fc112_zero fc113_load fc113_size fc113_zero fc114_load fc114_size fc114_zero fc114_sl fc115_load fc115_size fc115_zero fc116_load fc116_size fc116_zero fc116_sl fc118_load fc118_size fc118_zero fc119_load fc119_size fc119_zero fc120_load fc120_size fc120_zero fc120_all fc120_o0 fc120_f0 fc120_p0 fc120_o1 fc120_f1 fc120_p1 fc120_o2 fc120_f2 fc120_p2 fc120_o3 fc120_f3 fc120_p3 fc121_load fc121_size fc121_zero fc121_all fc121_o0 fc121_f0 fc121_p0 fc121_o1 fc121_f1 fc121_p1 fc121_o2 fc121_f2 fc121_p2 fc121_o3 fc121_f3 fc121_p3 fc122_load fc122_size fc122_zero fc122_arr fc122_sl fc122_all fc123_load fc123_size fc123_zero fc123_all fc123_f0 fc123_p0 fc124_load fc124_size fc124_zero fc124_all fc124_f0 fc124_p0 fc125_load fc125_size fc125_zero fc126_load fc126_size fc126_int fc126_isb fc126_u fc126_zero fc127_load fc127_size fc127_int fc127_isb fc127_u fc127_zero fc128_load fc128_size fc128_zero fc129_load fc129_size fc129_zero fc129_sl fc130_load fc130_size fc130_int fc130_isb fc130_u fc130_zero fc131_load fc131_size fc131_int fc131_isb fc131_u fc131_zero fc132_load fc132_size fc132_zero fc132_all fc132_o0 fc132_f0 fc132_p0 fc132_o1 fc132_f1 fc132_p1 fc132_o2 fc132_f2 fc132_p2 fc132_o3 fc132_f3 fc132_p3 fc132_o4 fc132_f4 fc132_p4 fc132_o5 fc132_f5 fc132_p5 fc132_o6 fc132_f6 fc132_p6 fc132_o7 fc132_f7 fc132_p7 fc132_o8 fc132_f8 fc132_p8 fc132_o9 fc132_f9 fc132_p9 fc132_o10 fc132_f10 fc132_p10 fc133_load fc133_size fc133_zero fc133_all fc133_o0 fc133_f0 fc133_p0 fc133_o1 fc133_f1 fc133_p1 fc133_o2 fc133_f2 fc133_p2 fc133_o3 fc133_f3 fc133_p3 fc133_o4 fc133_f4 fc133_p4 fc133_o5 fc133_f5 fc133_p5 fc133_o6 fc133_f6 fc133_p6 fc133_o7 fc133_f7 fc133_p7 fc133_o8 fc133_f8 fc133_p8 fc133_o9 fc133_f9 fc133_p9 fc133_o10 fc133_f10 fc133_p10
end Go.Proofs.Ytamkdgjagjpmlaa
