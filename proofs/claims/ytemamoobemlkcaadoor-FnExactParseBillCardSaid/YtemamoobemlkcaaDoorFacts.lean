/- The closed facts on the types of this seat's program, each by the kernel. Written by program. -/
import Derived.Test.YtemamoobemlkcaaDoorAm10
import Derived.Test.YtemamoobemlkcaaDoorRows
namespace Go.Proofs.YtemamoobemlkcaaDoor
open Go.Am
theorem fc1_load : loadT Tryd.prog 1 = some (1, false) := by kernel_rfl
theorem fc1_size : tySize Tryd.prog 1 = some 1 := by kernel_rfl
theorem fc1_zero : zeroT Tryd.prog 1 = some [.nilFunc] := by kernel_rfl
theorem fc2_load : loadT Tryd.prog 2 = some (1, false) := by kernel_rfl
theorem fc2_size : tySize Tryd.prog 2 = some 1 := by kernel_rfl
theorem fc2_int : intT Tryd.prog 2 = some .i64 := by kernel_rfl
theorem fc2_isb : isBoolT Tryd.prog 2 = false := by kernel_rfl
theorem fc2_u : Tryd.prog.underlying 2 = some (.int .i64) := by kernel_rfl
theorem fc2_zero : zeroT Tryd.prog 2 = some [.int .i64 0] := by kernel_rfl
theorem fc3_load : loadT Tryd.prog 3 = some (1, false) := by kernel_rfl
theorem fc3_size : tySize Tryd.prog 3 = some 1 := by kernel_rfl
theorem fc3_int : intT Tryd.prog 3 = some .i64 := by kernel_rfl
theorem fc3_isb : isBoolT Tryd.prog 3 = false := by kernel_rfl
theorem fc3_u : Tryd.prog.underlying 3 = some (.int .i64) := by kernel_rfl
theorem fc3_zero : zeroT Tryd.prog 3 = some [.int .i64 0] := by kernel_rfl
theorem fc4_load : loadT Tryd.prog 4 = some (1, false) := by kernel_rfl
theorem fc4_size : tySize Tryd.prog 4 = some 1 := by kernel_rfl
theorem fc4_isb : isBoolT Tryd.prog 4 = true := by kernel_rfl
theorem fc4_zero : zeroT Tryd.prog 4 = some [.bool false] := by kernel_rfl
theorem fc5_load : loadT Tryd.prog 5 = some (1, false) := by kernel_rfl
theorem fc5_size : tySize Tryd.prog 5 = some 1 := by kernel_rfl
theorem fc5_int : intT Tryd.prog 5 = some .u8 := by kernel_rfl
theorem fc5_isb : isBoolT Tryd.prog 5 = false := by kernel_rfl
theorem fc5_u : Tryd.prog.underlying 5 = some (.int .u8) := by kernel_rfl
theorem fc5_zero : zeroT Tryd.prog 5 = some [.int .u8 0] := by kernel_rfl
theorem fc6_load : loadT Tryd.prog 6 = some (1, false) := by kernel_rfl
theorem fc6_size : tySize Tryd.prog 6 = some 1 := by kernel_rfl
theorem fc6_int : intT Tryd.prog 6 = some .u8 := by kernel_rfl
theorem fc6_isb : isBoolT Tryd.prog 6 = false := by kernel_rfl
theorem fc6_u : Tryd.prog.underlying 6 = some (.int .u8) := by kernel_rfl
theorem fc6_zero : zeroT Tryd.prog 6 = some [.int .u8 0] := by kernel_rfl
theorem fc7_load : loadT Tryd.prog 7 = some (4, true) := by kernel_rfl
theorem fc7_size : tySize Tryd.prog 7 = some 4 := by kernel_rfl
theorem fc7_zero : zeroT Tryd.prog 7 = some [.int .i64 0, .int .i64 0, .bool false, .int .u8 0] := by kernel_rfl
theorem fc7_eq : eqT Tryd.prog 7 = some [(0, false), (1, false), (2, true), (3, false)] := by kernel_rfl
theorem fc7_all : allPlaces Tryd.prog 7 = true := by kernel_rfl
theorem fc7_o0 : fieldOff Tryd.prog 7 0 = some 0 := by kernel_rfl
theorem fc7_f0 : fieldT Tryd.prog 7 0 = some (0, 1, false) := by kernel_rfl
theorem fc7_p0 : placeT Tryd.prog 7 0 = some (0, 1) := by kernel_rfl
theorem fc7_o1 : fieldOff Tryd.prog 7 1 = some 1 := by kernel_rfl
theorem fc7_f1 : fieldT Tryd.prog 7 1 = some (1, 1, false) := by kernel_rfl
theorem fc7_p1 : placeT Tryd.prog 7 1 = some (1, 1) := by kernel_rfl
theorem fc7_o2 : fieldOff Tryd.prog 7 2 = some 2 := by kernel_rfl
theorem fc7_f2 : fieldT Tryd.prog 7 2 = some (2, 1, false) := by kernel_rfl
theorem fc7_p2 : placeT Tryd.prog 7 2 = some (2, 1) := by kernel_rfl
theorem fc7_o3 : fieldOff Tryd.prog 7 3 = some 3 := by kernel_rfl
theorem fc7_f3 : fieldT Tryd.prog 7 3 = some (3, 1, false) := by kernel_rfl
theorem fc7_p3 : placeT Tryd.prog 7 3 = some (3, 1) := by kernel_rfl
theorem fc8_load : loadT Tryd.prog 8 = some (4, true) := by kernel_rfl
theorem fc8_size : tySize Tryd.prog 8 = some 4 := by kernel_rfl
theorem fc8_zero : zeroT Tryd.prog 8 = some [.int .i64 0, .int .i64 0, .bool false, .int .u8 0] := by kernel_rfl
theorem fc8_eq : eqT Tryd.prog 8 = some [(0, false), (1, false), (2, true), (3, false)] := by kernel_rfl
theorem fc8_all : allPlaces Tryd.prog 8 = true := by kernel_rfl
theorem fc8_o0 : fieldOff Tryd.prog 8 0 = some 0 := by kernel_rfl
theorem fc8_f0 : fieldT Tryd.prog 8 0 = some (0, 1, false) := by kernel_rfl
theorem fc8_p0 : placeT Tryd.prog 8 0 = some (0, 1) := by kernel_rfl
theorem fc8_o1 : fieldOff Tryd.prog 8 1 = some 1 := by kernel_rfl
theorem fc8_f1 : fieldT Tryd.prog 8 1 = some (1, 1, false) := by kernel_rfl
theorem fc8_p1 : placeT Tryd.prog 8 1 = some (1, 1) := by kernel_rfl
theorem fc8_o2 : fieldOff Tryd.prog 8 2 = some 2 := by kernel_rfl
theorem fc8_f2 : fieldT Tryd.prog 8 2 = some (2, 1, false) := by kernel_rfl
theorem fc8_p2 : placeT Tryd.prog 8 2 = some (2, 1) := by kernel_rfl
theorem fc8_o3 : fieldOff Tryd.prog 8 3 = some 3 := by kernel_rfl
theorem fc8_f3 : fieldT Tryd.prog 8 3 = some (3, 1, false) := by kernel_rfl
theorem fc8_p3 : placeT Tryd.prog 8 3 = some (3, 1) := by kernel_rfl
theorem fc9_load : loadT Tryd.prog 9 = some (1, false) := by kernel_rfl
theorem fc9_size : tySize Tryd.prog 9 = some 1 := by kernel_rfl
theorem fc9_iss : isStrT Tryd.prog 9 = true := by kernel_rfl
theorem fc9_zero : zeroT Tryd.prog 9 = some [.string ⟨#[]⟩] := by kernel_rfl
theorem fc10_load : loadT Tryd.prog 10 = some (1, false) := by kernel_rfl
theorem fc10_size : tySize Tryd.prog 10 = some 1 := by kernel_rfl
theorem fc10_iss : isStrT Tryd.prog 10 = true := by kernel_rfl
theorem fc10_zero : zeroT Tryd.prog 10 = some [.string ⟨#[]⟩] := by kernel_rfl
theorem fc11_load : loadT Tryd.prog 11 = some (1, false) := by kernel_rfl
theorem fc11_size : tySize Tryd.prog 11 = some 1 := by kernel_rfl
theorem fc11_iss : isStrT Tryd.prog 11 = true := by kernel_rfl
theorem fc11_zero : zeroT Tryd.prog 11 = some [.string ⟨#[]⟩] := by kernel_rfl
theorem fc12_load : loadT Tryd.prog 12 = some (1, false) := by kernel_rfl
theorem fc12_size : tySize Tryd.prog 12 = some 1 := by kernel_rfl
theorem fc12_int : intT Tryd.prog 12 = some .u64 := by kernel_rfl
theorem fc12_isb : isBoolT Tryd.prog 12 = false := by kernel_rfl
theorem fc12_u : Tryd.prog.underlying 12 = some (.int .u64) := by kernel_rfl
theorem fc12_zero : zeroT Tryd.prog 12 = some [.int .u64 0] := by kernel_rfl
theorem fc13_load : loadT Tryd.prog 13 = some (2, true) := by kernel_rfl
theorem fc13_size : tySize Tryd.prog 13 = some 2 := by kernel_rfl
theorem fc13_zero : zeroT Tryd.prog 13 = some [.string ⟨#[]⟩, .int .u64 0] := by kernel_rfl
theorem fc13_all : allPlaces Tryd.prog 13 = true := by kernel_rfl
theorem fc13_o0 : fieldOff Tryd.prog 13 0 = some 0 := by kernel_rfl
theorem fc13_f0 : fieldT Tryd.prog 13 0 = some (0, 1, false) := by kernel_rfl
theorem fc13_p0 : placeT Tryd.prog 13 0 = some (0, 1) := by kernel_rfl
theorem fc13_o1 : fieldOff Tryd.prog 13 1 = some 1 := by kernel_rfl
theorem fc13_f1 : fieldT Tryd.prog 13 1 = some (1, 1, false) := by kernel_rfl
theorem fc13_p1 : placeT Tryd.prog 13 1 = some (1, 1) := by kernel_rfl
theorem fc14_load : loadT Tryd.prog 14 = some (2, true) := by kernel_rfl
theorem fc14_size : tySize Tryd.prog 14 = some 2 := by kernel_rfl
theorem fc14_zero : zeroT Tryd.prog 14 = some [.string ⟨#[]⟩, .int .u64 0] := by kernel_rfl
theorem fc14_all : allPlaces Tryd.prog 14 = true := by kernel_rfl
theorem fc14_o0 : fieldOff Tryd.prog 14 0 = some 0 := by kernel_rfl
theorem fc14_f0 : fieldT Tryd.prog 14 0 = some (0, 1, false) := by kernel_rfl
theorem fc14_p0 : placeT Tryd.prog 14 0 = some (0, 1) := by kernel_rfl
theorem fc14_o1 : fieldOff Tryd.prog 14 1 = some 1 := by kernel_rfl
theorem fc14_f1 : fieldT Tryd.prog 14 1 = some (1, 1, false) := by kernel_rfl
theorem fc14_p1 : placeT Tryd.prog 14 1 = some (1, 1) := by kernel_rfl
theorem fc15_load : loadT Tryd.prog 15 = some (1, false) := by kernel_rfl
theorem fc15_size : tySize Tryd.prog 15 = some 1 := by kernel_rfl
theorem fc15_zero : zeroT Tryd.prog 15 = some [.pointer none] := by kernel_rfl
theorem fc15_sl : sliceT Tryd.prog 15 = none := by kernel_rfl
theorem fc16_load : loadT Tryd.prog 16 = some (1, false) := by kernel_rfl
theorem fc16_size : tySize Tryd.prog 16 = some 1 := by kernel_rfl
theorem fc16_zero : zeroT Tryd.prog 16 = some [.pointer none] := by kernel_rfl
theorem fc16_sl : sliceT Tryd.prog 16 = none := by kernel_rfl
theorem fc17_load : loadT Tryd.prog 17 = some (1, false) := by kernel_rfl
theorem fc17_size : tySize Tryd.prog 17 = some 1 := by kernel_rfl
theorem fc17_zero : zeroT Tryd.prog 17 = some [.pointer none] := by kernel_rfl
theorem fc17_sl : sliceT Tryd.prog 17 = none := by kernel_rfl
theorem fc18_load : loadT Tryd.prog 18 = some (1, true) := by kernel_rfl
theorem fc18_size : tySize Tryd.prog 18 = some 1 := by kernel_rfl
theorem fc18_zero : zeroT Tryd.prog 18 = some [.pointer none] := by kernel_rfl
theorem fc18_all : allPlaces Tryd.prog 18 = true := by kernel_rfl
theorem fc18_o0 : fieldOff Tryd.prog 18 0 = some 0 := by kernel_rfl
theorem fc18_f0 : fieldT Tryd.prog 18 0 = some (0, 1, false) := by kernel_rfl
theorem fc18_p0 : placeT Tryd.prog 18 0 = some (0, 1) := by kernel_rfl
theorem fc19_load : loadT Tryd.prog 19 = some (1, true) := by kernel_rfl
theorem fc19_size : tySize Tryd.prog 19 = some 1 := by kernel_rfl
theorem fc19_zero : zeroT Tryd.prog 19 = some [.pointer none] := by kernel_rfl
theorem fc19_all : allPlaces Tryd.prog 19 = true := by kernel_rfl
theorem fc19_o0 : fieldOff Tryd.prog 19 0 = some 0 := by kernel_rfl
theorem fc19_f0 : fieldT Tryd.prog 19 0 = some (0, 1, false) := by kernel_rfl
theorem fc19_p0 : placeT Tryd.prog 19 0 = some (0, 1) := by kernel_rfl
theorem fc21_load : loadT Tryd.prog 21 = some (1, false) := by kernel_rfl
theorem fc21_size : tySize Tryd.prog 21 = some 1 := by kernel_rfl
theorem fc21_int : intT Tryd.prog 21 = some .i32 := by kernel_rfl
theorem fc21_isb : isBoolT Tryd.prog 21 = false := by kernel_rfl
theorem fc21_u : Tryd.prog.underlying 21 = some (.int .i32) := by kernel_rfl
theorem fc21_zero : zeroT Tryd.prog 21 = some [.int .i32 0] := by kernel_rfl
theorem fc22_load : loadT Tryd.prog 22 = some (2, true) := by kernel_rfl
theorem fc22_size : tySize Tryd.prog 22 = some 2 := by kernel_rfl
theorem fc22_zero : zeroT Tryd.prog 22 = some [.int .i64 0, .int .i64 0] := by kernel_rfl
theorem fc22_eq : eqT Tryd.prog 22 = some [(0, false), (1, false)] := by kernel_rfl
theorem fc22_all : allPlaces Tryd.prog 22 = true := by kernel_rfl
theorem fc22_o0 : fieldOff Tryd.prog 22 0 = some 0 := by kernel_rfl
theorem fc22_f0 : fieldT Tryd.prog 22 0 = some (0, 1, false) := by kernel_rfl
theorem fc22_p0 : placeT Tryd.prog 22 0 = some (0, 1) := by kernel_rfl
theorem fc22_o1 : fieldOff Tryd.prog 22 1 = some 1 := by kernel_rfl
theorem fc22_f1 : fieldT Tryd.prog 22 1 = some (1, 1, false) := by kernel_rfl
theorem fc22_p1 : placeT Tryd.prog 22 1 = some (1, 1) := by kernel_rfl
theorem fc23_load : loadT Tryd.prog 23 = some (2, true) := by kernel_rfl
theorem fc23_size : tySize Tryd.prog 23 = some 2 := by kernel_rfl
theorem fc23_zero : zeroT Tryd.prog 23 = some [.int .i64 0, .int .i64 0] := by kernel_rfl
theorem fc23_eq : eqT Tryd.prog 23 = some [(0, false), (1, false)] := by kernel_rfl
theorem fc23_all : allPlaces Tryd.prog 23 = true := by kernel_rfl
theorem fc23_o0 : fieldOff Tryd.prog 23 0 = some 0 := by kernel_rfl
theorem fc23_f0 : fieldT Tryd.prog 23 0 = some (0, 1, false) := by kernel_rfl
theorem fc23_p0 : placeT Tryd.prog 23 0 = some (0, 1) := by kernel_rfl
theorem fc23_o1 : fieldOff Tryd.prog 23 1 = some 1 := by kernel_rfl
theorem fc23_f1 : fieldT Tryd.prog 23 1 = some (1, 1, false) := by kernel_rfl
theorem fc23_p1 : placeT Tryd.prog 23 1 = some (1, 1) := by kernel_rfl
theorem fc25_load : loadT Tryd.prog 25 = some (1, false) := by kernel_rfl
theorem fc25_size : tySize Tryd.prog 25 = some 1 := by kernel_rfl
theorem fc25_zero : zeroT Tryd.prog 25 = some [.nilFunc] := by kernel_rfl
theorem fc26_load : loadT Tryd.prog 26 = some (1, false) := by kernel_rfl
theorem fc26_size : tySize Tryd.prog 26 = some 1 := by kernel_rfl
theorem fc26_zero : zeroT Tryd.prog 26 = some [.nilFunc] := by kernel_rfl
theorem fc27_load : loadT Tryd.prog 27 = some (1, false) := by kernel_rfl
theorem fc27_size : tySize Tryd.prog 27 = some 1 := by kernel_rfl
theorem fc27_zero : zeroT Tryd.prog 27 = some [.nilFunc] := by kernel_rfl
theorem fc28_load : loadT Tryd.prog 28 = some (4, true) := by kernel_rfl
theorem fc28_size : tySize Tryd.prog 28 = some 4 := by kernel_rfl
theorem fc28_zero : zeroT Tryd.prog 28 = some [.int .i64 0, .int .i64 0, .int .i64 0, .int .i64 0] := by kernel_rfl
theorem fc28_eq : eqT Tryd.prog 28 = some [(0, false), (1, false), (2, false), (3, false)] := by kernel_rfl
theorem fc28_all : allPlaces Tryd.prog 28 = true := by kernel_rfl
theorem fc28_o0 : fieldOff Tryd.prog 28 0 = some 0 := by kernel_rfl
theorem fc28_f0 : fieldT Tryd.prog 28 0 = some (0, 1, false) := by kernel_rfl
theorem fc28_p0 : placeT Tryd.prog 28 0 = some (0, 1) := by kernel_rfl
theorem fc28_o1 : fieldOff Tryd.prog 28 1 = some 1 := by kernel_rfl
theorem fc28_f1 : fieldT Tryd.prog 28 1 = some (1, 1, false) := by kernel_rfl
theorem fc28_p1 : placeT Tryd.prog 28 1 = some (1, 1) := by kernel_rfl
theorem fc28_o2 : fieldOff Tryd.prog 28 2 = some 2 := by kernel_rfl
theorem fc28_f2 : fieldT Tryd.prog 28 2 = some (2, 1, false) := by kernel_rfl
theorem fc28_p2 : placeT Tryd.prog 28 2 = some (2, 1) := by kernel_rfl
theorem fc28_o3 : fieldOff Tryd.prog 28 3 = some 3 := by kernel_rfl
theorem fc28_f3 : fieldT Tryd.prog 28 3 = some (3, 1, false) := by kernel_rfl
theorem fc28_p3 : placeT Tryd.prog 28 3 = some (3, 1) := by kernel_rfl
theorem fc29_load : loadT Tryd.prog 29 = some (4, true) := by kernel_rfl
theorem fc29_size : tySize Tryd.prog 29 = some 4 := by kernel_rfl
theorem fc29_zero : zeroT Tryd.prog 29 = some [.int .i64 0, .int .i64 0, .int .i64 0, .int .i64 0] := by kernel_rfl
theorem fc29_eq : eqT Tryd.prog 29 = some [(0, false), (1, false), (2, false), (3, false)] := by kernel_rfl
theorem fc29_all : allPlaces Tryd.prog 29 = true := by kernel_rfl
theorem fc29_o0 : fieldOff Tryd.prog 29 0 = some 0 := by kernel_rfl
theorem fc29_f0 : fieldT Tryd.prog 29 0 = some (0, 1, false) := by kernel_rfl
theorem fc29_p0 : placeT Tryd.prog 29 0 = some (0, 1) := by kernel_rfl
theorem fc29_o1 : fieldOff Tryd.prog 29 1 = some 1 := by kernel_rfl
theorem fc29_f1 : fieldT Tryd.prog 29 1 = some (1, 1, false) := by kernel_rfl
theorem fc29_p1 : placeT Tryd.prog 29 1 = some (1, 1) := by kernel_rfl
theorem fc29_o2 : fieldOff Tryd.prog 29 2 = some 2 := by kernel_rfl
theorem fc29_f2 : fieldT Tryd.prog 29 2 = some (2, 1, false) := by kernel_rfl
theorem fc29_p2 : placeT Tryd.prog 29 2 = some (2, 1) := by kernel_rfl
theorem fc29_o3 : fieldOff Tryd.prog 29 3 = some 3 := by kernel_rfl
theorem fc29_f3 : fieldT Tryd.prog 29 3 = some (3, 1, false) := by kernel_rfl
theorem fc29_p3 : placeT Tryd.prog 29 3 = some (3, 1) := by kernel_rfl
theorem fc31_load : loadT Tryd.prog 31 = some (1, false) := by kernel_rfl
theorem fc31_size : tySize Tryd.prog 31 = some 1 := by kernel_rfl
theorem fc31_zero : zeroT Tryd.prog 31 = some [.nilFunc] := by kernel_rfl
theorem fc32_load : loadT Tryd.prog 32 = some (1, false) := by kernel_rfl
theorem fc32_size : tySize Tryd.prog 32 = some 1 := by kernel_rfl
theorem fc32_zero : zeroT Tryd.prog 32 = some [.nilFunc] := by kernel_rfl
theorem fc33_load : loadT Tryd.prog 33 = some (4, true) := by kernel_rfl
theorem fc33_size : tySize Tryd.prog 33 = some 4 := by kernel_rfl
theorem fc33_zero : zeroT Tryd.prog 33 = some [.int .i64 0, .int .i64 0, .int .i64 0, .bool false] := by kernel_rfl
theorem fc33_eq : eqT Tryd.prog 33 = some [(0, false), (1, false), (2, false), (3, true)] := by kernel_rfl
theorem fc33_all : allPlaces Tryd.prog 33 = true := by kernel_rfl
theorem fc33_o0 : fieldOff Tryd.prog 33 0 = some 0 := by kernel_rfl
theorem fc33_f0 : fieldT Tryd.prog 33 0 = some (0, 1, false) := by kernel_rfl
theorem fc33_p0 : placeT Tryd.prog 33 0 = some (0, 1) := by kernel_rfl
theorem fc33_o1 : fieldOff Tryd.prog 33 1 = some 1 := by kernel_rfl
theorem fc33_f1 : fieldT Tryd.prog 33 1 = some (1, 1, false) := by kernel_rfl
theorem fc33_p1 : placeT Tryd.prog 33 1 = some (1, 1) := by kernel_rfl
theorem fc33_o2 : fieldOff Tryd.prog 33 2 = some 2 := by kernel_rfl
theorem fc33_f2 : fieldT Tryd.prog 33 2 = some (2, 1, false) := by kernel_rfl
theorem fc33_p2 : placeT Tryd.prog 33 2 = some (2, 1) := by kernel_rfl
theorem fc33_o3 : fieldOff Tryd.prog 33 3 = some 3 := by kernel_rfl
theorem fc33_f3 : fieldT Tryd.prog 33 3 = some (3, 1, false) := by kernel_rfl
theorem fc33_p3 : placeT Tryd.prog 33 3 = some (3, 1) := by kernel_rfl
theorem fc34_load : loadT Tryd.prog 34 = some (4, true) := by kernel_rfl
theorem fc34_size : tySize Tryd.prog 34 = some 4 := by kernel_rfl
theorem fc34_zero : zeroT Tryd.prog 34 = some [.int .i64 0, .int .i64 0, .int .i64 0, .bool false] := by kernel_rfl
theorem fc34_eq : eqT Tryd.prog 34 = some [(0, false), (1, false), (2, false), (3, true)] := by kernel_rfl
theorem fc34_all : allPlaces Tryd.prog 34 = true := by kernel_rfl
theorem fc34_o0 : fieldOff Tryd.prog 34 0 = some 0 := by kernel_rfl
theorem fc34_f0 : fieldT Tryd.prog 34 0 = some (0, 1, false) := by kernel_rfl
theorem fc34_p0 : placeT Tryd.prog 34 0 = some (0, 1) := by kernel_rfl
theorem fc34_o1 : fieldOff Tryd.prog 34 1 = some 1 := by kernel_rfl
theorem fc34_f1 : fieldT Tryd.prog 34 1 = some (1, 1, false) := by kernel_rfl
theorem fc34_p1 : placeT Tryd.prog 34 1 = some (1, 1) := by kernel_rfl
theorem fc34_o2 : fieldOff Tryd.prog 34 2 = some 2 := by kernel_rfl
theorem fc34_f2 : fieldT Tryd.prog 34 2 = some (2, 1, false) := by kernel_rfl
theorem fc34_p2 : placeT Tryd.prog 34 2 = some (2, 1) := by kernel_rfl
theorem fc34_o3 : fieldOff Tryd.prog 34 3 = some 3 := by kernel_rfl
theorem fc34_f3 : fieldT Tryd.prog 34 3 = some (3, 1, false) := by kernel_rfl
theorem fc34_p3 : placeT Tryd.prog 34 3 = some (3, 1) := by kernel_rfl
theorem fc36_load : loadT Tryd.prog 36 = some (1, false) := by kernel_rfl
theorem fc36_size : tySize Tryd.prog 36 = some 1 := by kernel_rfl
theorem fc36_zero : zeroT Tryd.prog 36 = some [.nilFunc] := by kernel_rfl
theorem fc37_load : loadT Tryd.prog 37 = some (1, false) := by kernel_rfl
theorem fc37_size : tySize Tryd.prog 37 = some 1 := by kernel_rfl
theorem fc37_zero : zeroT Tryd.prog 37 = some [.nilFunc] := by kernel_rfl
theorem fc38_load : loadT Tryd.prog 38 = some (1, false) := by kernel_rfl
theorem fc38_size : tySize Tryd.prog 38 = some 1 := by kernel_rfl
theorem fc38_zero : zeroT Tryd.prog 38 = some [.slice none 0 0] := by kernel_rfl
theorem fc38_sl : sliceT Tryd.prog 38 = some (9, 1) := by kernel_rfl
theorem fc38_arr : arrT Tryd.prog 38 = none := by kernel_rfl
theorem fc38_app : appT Tryd.prog 38 = some (9, 1, 16) := by kernel_rfl
theorem fc38_z1 : zeroNT Tryd.prog 38 = some (9, [.string ⟨#[]⟩], 16) := by kernel_rfl
theorem fc38_clear : clearT Tryd.prog 38 = some [.string ⟨#[]⟩] := by kernel_rfl
theorem fc38_byt : bytesT Tryd.prog 38 = false := by kernel_rfl
theorem fc39_load : loadT Tryd.prog 39 = some (1, false) := by kernel_rfl
theorem fc39_size : tySize Tryd.prog 39 = some 1 := by kernel_rfl
theorem fc39_zero : zeroT Tryd.prog 39 = some [.nilFunc] := by kernel_rfl
theorem fc41_load : loadT Tryd.prog 41 = some (1, false) := by kernel_rfl
theorem fc41_size : tySize Tryd.prog 41 = some 1 := by kernel_rfl
theorem fc41_zero : zeroT Tryd.prog 41 = some [.nilFunc] := by kernel_rfl
theorem fc42_load : loadT Tryd.prog 42 = some (1, false) := by kernel_rfl
theorem fc42_size : tySize Tryd.prog 42 = some 1 := by kernel_rfl
theorem fc42_zero : zeroT Tryd.prog 42 = some [.nilFunc] := by kernel_rfl
theorem fc43_load : loadT Tryd.prog 43 = some (1, false) := by kernel_rfl
theorem fc43_size : tySize Tryd.prog 43 = some 1 := by kernel_rfl
theorem fc43_zero : zeroT Tryd.prog 43 = some [.nilFunc] := by kernel_rfl
theorem fc44_load : loadT Tryd.prog 44 = some (1, false) := by kernel_rfl
theorem fc44_size : tySize Tryd.prog 44 = some 1 := by kernel_rfl
theorem fc44_zero : zeroT Tryd.prog 44 = some [.slice none 0 0] := by kernel_rfl
theorem fc44_sl : sliceT Tryd.prog 44 = some (3, 1) := by kernel_rfl
theorem fc44_arr : arrT Tryd.prog 44 = none := by kernel_rfl
theorem fc44_app : appT Tryd.prog 44 = some (3, 1, 8) := by kernel_rfl
theorem fc44_z1 : zeroNT Tryd.prog 44 = some (3, [.int .i64 0], 8) := by kernel_rfl
theorem fc44_clear : clearT Tryd.prog 44 = some [.int .i64 0] := by kernel_rfl
theorem fc44_byt : bytesT Tryd.prog 44 = false := by kernel_rfl
theorem fc45_load : loadT Tryd.prog 45 = some (1, false) := by kernel_rfl
theorem fc45_size : tySize Tryd.prog 45 = some 1 := by kernel_rfl
theorem fc45_zero : zeroT Tryd.prog 45 = some [.nilFunc] := by kernel_rfl
theorem fc46_load : loadT Tryd.prog 46 = some (1, false) := by kernel_rfl
theorem fc46_size : tySize Tryd.prog 46 = some 1 := by kernel_rfl
theorem fc46_zero : zeroT Tryd.prog 46 = some [.nilFunc] := by kernel_rfl
theorem fc47_load : loadT Tryd.prog 47 = some (1, false) := by kernel_rfl
theorem fc47_size : tySize Tryd.prog 47 = some 1 := by kernel_rfl
theorem fc47_zero : zeroT Tryd.prog 47 = some [.nilFunc] := by kernel_rfl
theorem fc48_load : loadT Tryd.prog 48 = some (1, false) := by kernel_rfl
theorem fc48_size : tySize Tryd.prog 48 = some 1 := by kernel_rfl
theorem fc48_zero : zeroT Tryd.prog 48 = some [.nilFunc] := by kernel_rfl
theorem fc50_load : loadT Tryd.prog 50 = some (1, false) := by kernel_rfl
theorem fc50_size : tySize Tryd.prog 50 = some 1 := by kernel_rfl
theorem fc50_zero : zeroT Tryd.prog 50 = some [.nilFunc] := by kernel_rfl
theorem fc51_load : loadT Tryd.prog 51 = some (1, false) := by kernel_rfl
theorem fc51_size : tySize Tryd.prog 51 = some 1 := by kernel_rfl
theorem fc51_zero : zeroT Tryd.prog 51 = some [.nilFunc] := by kernel_rfl
theorem fc52_load : loadT Tryd.prog 52 = some (1, false) := by kernel_rfl
theorem fc52_size : tySize Tryd.prog 52 = some 1 := by kernel_rfl
theorem fc52_zero : zeroT Tryd.prog 52 = some [.nilFunc] := by kernel_rfl
theorem fc53_load : loadT Tryd.prog 53 = some (1, false) := by kernel_rfl
theorem fc53_size : tySize Tryd.prog 53 = some 1 := by kernel_rfl
theorem fc53_zero : zeroT Tryd.prog 53 = some [.nilFunc] := by kernel_rfl
theorem fc54_load : loadT Tryd.prog 54 = some (1, false) := by kernel_rfl
theorem fc54_size : tySize Tryd.prog 54 = some 1 := by kernel_rfl
theorem fc54_zero : zeroT Tryd.prog 54 = some [.nilFunc] := by kernel_rfl
theorem fc55_load : loadT Tryd.prog 55 = some (1, false) := by kernel_rfl
theorem fc55_size : tySize Tryd.prog 55 = some 1 := by kernel_rfl
theorem fc55_zero : zeroT Tryd.prog 55 = some [.nilFunc] := by kernel_rfl
theorem fc56_load : loadT Tryd.prog 56 = some (1, false) := by kernel_rfl
theorem fc56_size : tySize Tryd.prog 56 = some 1 := by kernel_rfl
theorem fc56_zero : zeroT Tryd.prog 56 = some [.nilFunc] := by kernel_rfl
theorem fc57_load : loadT Tryd.prog 57 = some (1, false) := by kernel_rfl
theorem fc57_size : tySize Tryd.prog 57 = some 1 := by kernel_rfl
theorem fc57_zero : zeroT Tryd.prog 57 = some [.nilFunc] := by kernel_rfl
theorem fc58_load : loadT Tryd.prog 58 = some (1, false) := by kernel_rfl
theorem fc58_size : tySize Tryd.prog 58 = some 1 := by kernel_rfl
theorem fc58_zero : zeroT Tryd.prog 58 = some [.nilFunc] := by kernel_rfl
theorem fc59_load : loadT Tryd.prog 59 = some (3, true) := by kernel_rfl
theorem fc59_size : tySize Tryd.prog 59 = some 3 := by kernel_rfl
theorem fc59_zero : zeroT Tryd.prog 59 = some [.string ⟨#[]⟩, .string ⟨#[]⟩, .string ⟨#[]⟩] := by kernel_rfl
theorem fc59_arr : arrT Tryd.prog 59 = some (3, 1, false) := by kernel_rfl
theorem fc59_sl : sliceT Tryd.prog 59 = none := by kernel_rfl
theorem fc59_all : allPlaces Tryd.prog 59 = true := by kernel_rfl
theorem fc59_p0 : placeT Tryd.prog 59 0 = some (0, 1) := by kernel_rfl
theorem fc59_p1 : placeT Tryd.prog 59 1 = some (1, 1) := by kernel_rfl
theorem fc59_p2 : placeT Tryd.prog 59 2 = some (2, 1) := by kernel_rfl
theorem fc60_load : loadT Tryd.prog 60 = some (1, false) := by kernel_rfl
theorem fc60_size : tySize Tryd.prog 60 = some 1 := by kernel_rfl
theorem fc60_zero : zeroT Tryd.prog 60 = some [.slice none 0 0] := by kernel_rfl
theorem fc60_sl : sliceT Tryd.prog 60 = some (5, 1) := by kernel_rfl
theorem fc60_arr : arrT Tryd.prog 60 = none := by kernel_rfl
theorem fc60_app : appT Tryd.prog 60 = some (5, 1, 1) := by kernel_rfl
theorem fc60_z1 : zeroNT Tryd.prog 60 = some (5, [.int .u8 0], 1) := by kernel_rfl
theorem fc60_clear : clearT Tryd.prog 60 = some [.int .u8 0] := by kernel_rfl
theorem fc60_byt : bytesT Tryd.prog 60 = true := by kernel_rfl
theorem fc61_load : loadT Tryd.prog 61 = some (1, false) := by kernel_rfl
theorem fc61_size : tySize Tryd.prog 61 = some 1 := by kernel_rfl
theorem fc61_zero : zeroT Tryd.prog 61 = some [.nilFunc] := by kernel_rfl
theorem fc62_load : loadT Tryd.prog 62 = some (1, false) := by kernel_rfl
theorem fc62_size : tySize Tryd.prog 62 = some 1 := by kernel_rfl
theorem fc62_zero : zeroT Tryd.prog 62 = some [.nilFunc] := by kernel_rfl
theorem fc63_load : loadT Tryd.prog 63 = some (1, false) := by kernel_rfl
theorem fc63_size : tySize Tryd.prog 63 = some 1 := by kernel_rfl
theorem fc63_zero : zeroT Tryd.prog 63 = some [.nilFunc] := by kernel_rfl
theorem fc64_load : loadT Tryd.prog 64 = some (1, false) := by kernel_rfl
theorem fc64_size : tySize Tryd.prog 64 = some 1 := by kernel_rfl
theorem fc64_zero : zeroT Tryd.prog 64 = some [.nilFunc] := by kernel_rfl
theorem fc65_load : loadT Tryd.prog 65 = some (1, false) := by kernel_rfl
theorem fc65_size : tySize Tryd.prog 65 = some 1 := by kernel_rfl
theorem fc65_int : intT Tryd.prog 65 = some .u64 := by kernel_rfl
theorem fc65_isb : isBoolT Tryd.prog 65 = false := by kernel_rfl
theorem fc65_u : Tryd.prog.underlying 65 = some (.int .u64) := by kernel_rfl
theorem fc65_zero : zeroT Tryd.prog 65 = some [.int .u64 0] := by kernel_rfl
theorem fc66_load : loadT Tryd.prog 66 = some (24, true) := by kernel_rfl
theorem fc66_size : tySize Tryd.prog 66 = some 24 := by kernel_rfl
theorem fc66_zero : zeroT Tryd.prog 66 = some [.int .u8 0, .int .u8 0, .int .u8 0, .int .u8 0, .int .u8 0, .int .u8 0, .int .u8 0, .int .u8 0, .int .u8 0, .int .u8 0, .int .u8 0, .int .u8 0, .int .u8 0, .int .u8 0, .int .u8 0, .int .u8 0, .int .u8 0, .int .u8 0, .int .u8 0, .int .u8 0, .int .u8 0, .int .u8 0, .int .u8 0, .int .u8 0] := by kernel_rfl
theorem fc66_arr : arrT Tryd.prog 66 = some (24, 1, false) := by kernel_rfl
theorem fc66_sl : sliceT Tryd.prog 66 = none := by kernel_rfl
theorem fc66_all : allPlaces Tryd.prog 66 = true := by kernel_rfl
theorem fc67_load : loadT Tryd.prog 67 = some (1, false) := by kernel_rfl
theorem fc67_size : tySize Tryd.prog 67 = some 1 := by kernel_rfl
theorem fc67_int : intT Tryd.prog 67 = some .u64 := by kernel_rfl
theorem fc67_isb : isBoolT Tryd.prog 67 = false := by kernel_rfl
theorem fc67_u : Tryd.prog.underlying 67 = some (.int .u64) := by kernel_rfl
theorem fc67_zero : zeroT Tryd.prog 67 = some [.int .u64 0] := by kernel_rfl
theorem fc68_load : loadT Tryd.prog 68 = some (1, false) := by kernel_rfl
theorem fc68_size : tySize Tryd.prog 68 = some 1 := by kernel_rfl
theorem fc68_zero : zeroT Tryd.prog 68 = some [.nilFunc] := by kernel_rfl
theorem fc69_load : loadT Tryd.prog 69 = some (1, false) := by kernel_rfl
theorem fc69_size : tySize Tryd.prog 69 = some 1 := by kernel_rfl
theorem fc69_zero : zeroT Tryd.prog 69 = some [.nilFunc] := by kernel_rfl
theorem fc71_load : loadT Tryd.prog 71 = some (1, false) := by kernel_rfl
theorem fc71_size : tySize Tryd.prog 71 = some 1 := by kernel_rfl
theorem fc71_zero : zeroT Tryd.prog 71 = some [.nilFunc] := by kernel_rfl
theorem fc72_load : loadT Tryd.prog 72 = some (1, false) := by kernel_rfl
theorem fc72_size : tySize Tryd.prog 72 = some 1 := by kernel_rfl
theorem fc72_int : intT Tryd.prog 72 = some .u32 := by kernel_rfl
theorem fc72_isb : isBoolT Tryd.prog 72 = false := by kernel_rfl
theorem fc72_u : Tryd.prog.underlying 72 = some (.int .u32) := by kernel_rfl
theorem fc72_zero : zeroT Tryd.prog 72 = some [.int .u32 0] := by kernel_rfl
theorem fc74_load : loadT Tryd.prog 74 = some (1, false) := by kernel_rfl
theorem fc74_size : tySize Tryd.prog 74 = some 1 := by kernel_rfl
theorem fc74_zero : zeroT Tryd.prog 74 = some [.nilFunc] := by kernel_rfl
theorem fc75_load : loadT Tryd.prog 75 = some (1, false) := by kernel_rfl
theorem fc75_size : tySize Tryd.prog 75 = some 1 := by kernel_rfl
theorem fc75_zero : zeroT Tryd.prog 75 = some [.nilFunc] := by kernel_rfl
theorem fc76_load : loadT Tryd.prog 76 = some (20, true) := by kernel_rfl
theorem fc76_size : tySize Tryd.prog 76 = some 20 := by kernel_rfl
theorem fc76_zero : zeroT Tryd.prog 76 = some [.int .u64 0, .int .u64 0, .int .u64 0, .int .u64 0, .int .u64 0, .int .u64 0, .int .u64 0, .int .u64 0, .int .u64 0, .int .u64 0, .int .u64 0, .int .u64 0, .int .u64 0, .int .u64 0, .int .u64 0, .int .u64 0, .int .u64 0, .int .u64 0, .int .u64 0, .int .u64 0] := by kernel_rfl
theorem fc76_arr : arrT Tryd.prog 76 = some (20, 1, false) := by kernel_rfl
theorem fc76_sl : sliceT Tryd.prog 76 = none := by kernel_rfl
theorem fc76_all : allPlaces Tryd.prog 76 = true := by kernel_rfl
theorem fc77_load : loadT Tryd.prog 77 = some (65, true) := by kernel_rfl
theorem fc77_size : tySize Tryd.prog 77 = some 65 := by kernel_rfl
theorem fc77_arr : arrT Tryd.prog 77 = some (65, 1, false) := by kernel_rfl
theorem fc77_sl : sliceT Tryd.prog 77 = none := by kernel_rfl
theorem fc77_all : allPlaces Tryd.prog 77 = true := by kernel_rfl
theorem fc78_load : loadT Tryd.prog 78 = some (1, false) := by kernel_rfl
theorem fc78_size : tySize Tryd.prog 78 = some 1 := by kernel_rfl
theorem fc78_zero : zeroT Tryd.prog 78 = some [.nilFunc] := by kernel_rfl
theorem fc79_load : loadT Tryd.prog 79 = some (1, false) := by kernel_rfl
theorem fc79_size : tySize Tryd.prog 79 = some 1 := by kernel_rfl
theorem fc79_zero : zeroT Tryd.prog 79 = some [.nilFunc] := by kernel_rfl
theorem fc80_load : loadT Tryd.prog 80 = some (32, true) := by kernel_rfl
theorem fc80_size : tySize Tryd.prog 80 = some 32 := by kernel_rfl
theorem fc80_zero : zeroT Tryd.prog 80 = some [.int .u8 0, .int .u8 0, .int .u8 0, .int .u8 0, .int .u8 0, .int .u8 0, .int .u8 0, .int .u8 0, .int .u8 0, .int .u8 0, .int .u8 0, .int .u8 0, .int .u8 0, .int .u8 0, .int .u8 0, .int .u8 0, .int .u8 0, .int .u8 0, .int .u8 0, .int .u8 0, .int .u8 0, .int .u8 0, .int .u8 0, .int .u8 0, .int .u8 0, .int .u8 0, .int .u8 0, .int .u8 0, .int .u8 0, .int .u8 0, .int .u8 0, .int .u8 0] := by kernel_rfl
theorem fc80_arr : arrT Tryd.prog 80 = some (32, 1, false) := by kernel_rfl
theorem fc80_sl : sliceT Tryd.prog 80 = none := by kernel_rfl
theorem fc80_all : allPlaces Tryd.prog 80 = true := by kernel_rfl
theorem fc81_load : loadT Tryd.prog 81 = some (64, true) := by kernel_rfl
theorem fc81_size : tySize Tryd.prog 81 = some 64 := by kernel_rfl
theorem fc81_arr : arrT Tryd.prog 81 = some (64, 1, false) := by kernel_rfl
theorem fc81_sl : sliceT Tryd.prog 81 = none := by kernel_rfl
theorem fc81_all : allPlaces Tryd.prog 81 = true := by kernel_rfl
theorem fc82_load : loadT Tryd.prog 82 = some (1, false) := by kernel_rfl
theorem fc82_size : tySize Tryd.prog 82 = some 1 := by kernel_rfl
theorem fc82_zero : zeroT Tryd.prog 82 = some [.nilFunc] := by kernel_rfl
theorem fc83_load : loadT Tryd.prog 83 = some (4, true) := by kernel_rfl
theorem fc83_size : tySize Tryd.prog 83 = some 4 := by kernel_rfl
theorem fc83_zero : zeroT Tryd.prog 83 = some [.pointer none, .pointer none, .pointer none, .string ⟨#[]⟩] := by kernel_rfl
theorem fc83_all : allPlaces Tryd.prog 83 = true := by kernel_rfl
theorem fc83_o0 : fieldOff Tryd.prog 83 0 = some 0 := by kernel_rfl
theorem fc83_f0 : fieldT Tryd.prog 83 0 = some (0, 1, false) := by kernel_rfl
theorem fc83_p0 : placeT Tryd.prog 83 0 = some (0, 1) := by kernel_rfl
theorem fc83_o1 : fieldOff Tryd.prog 83 1 = some 1 := by kernel_rfl
theorem fc83_f1 : fieldT Tryd.prog 83 1 = some (1, 1, false) := by kernel_rfl
theorem fc83_p1 : placeT Tryd.prog 83 1 = some (1, 1) := by kernel_rfl
theorem fc83_o2 : fieldOff Tryd.prog 83 2 = some 2 := by kernel_rfl
theorem fc83_f2 : fieldT Tryd.prog 83 2 = some (2, 1, false) := by kernel_rfl
theorem fc83_p2 : placeT Tryd.prog 83 2 = some (2, 1) := by kernel_rfl
theorem fc83_o3 : fieldOff Tryd.prog 83 3 = some 3 := by kernel_rfl
theorem fc83_f3 : fieldT Tryd.prog 83 3 = some (3, 1, false) := by kernel_rfl
theorem fc83_p3 : placeT Tryd.prog 83 3 = some (3, 1) := by kernel_rfl
theorem fc84_load : loadT Tryd.prog 84 = some (4, true) := by kernel_rfl
theorem fc84_size : tySize Tryd.prog 84 = some 4 := by kernel_rfl
theorem fc84_zero : zeroT Tryd.prog 84 = some [.pointer none, .pointer none, .pointer none, .string ⟨#[]⟩] := by kernel_rfl
theorem fc84_all : allPlaces Tryd.prog 84 = true := by kernel_rfl
theorem fc84_o0 : fieldOff Tryd.prog 84 0 = some 0 := by kernel_rfl
theorem fc84_f0 : fieldT Tryd.prog 84 0 = some (0, 1, false) := by kernel_rfl
theorem fc84_p0 : placeT Tryd.prog 84 0 = some (0, 1) := by kernel_rfl
theorem fc84_o1 : fieldOff Tryd.prog 84 1 = some 1 := by kernel_rfl
theorem fc84_f1 : fieldT Tryd.prog 84 1 = some (1, 1, false) := by kernel_rfl
theorem fc84_p1 : placeT Tryd.prog 84 1 = some (1, 1) := by kernel_rfl
theorem fc84_o2 : fieldOff Tryd.prog 84 2 = some 2 := by kernel_rfl
theorem fc84_f2 : fieldT Tryd.prog 84 2 = some (2, 1, false) := by kernel_rfl
theorem fc84_p2 : placeT Tryd.prog 84 2 = some (2, 1) := by kernel_rfl
theorem fc84_o3 : fieldOff Tryd.prog 84 3 = some 3 := by kernel_rfl
theorem fc84_f3 : fieldT Tryd.prog 84 3 = some (3, 1, false) := by kernel_rfl
theorem fc84_p3 : placeT Tryd.prog 84 3 = some (3, 1) := by kernel_rfl
theorem fc85_load : loadT Tryd.prog 85 = some (0, true) := by kernel_rfl
theorem fc85_size : tySize Tryd.prog 85 = some 0 := by kernel_rfl
theorem fc85_zero : zeroT Tryd.prog 85 = some [] := by kernel_rfl
theorem fc85_arr : arrT Tryd.prog 85 = some (0, 1, false) := by kernel_rfl
theorem fc85_sl : sliceT Tryd.prog 85 = none := by kernel_rfl
theorem fc85_all : allPlaces Tryd.prog 85 = true := by kernel_rfl
theorem fc86_load : loadT Tryd.prog 86 = some (0, true) := by kernel_rfl
theorem fc86_size : tySize Tryd.prog 86 = some 0 := by kernel_rfl
theorem fc86_zero : zeroT Tryd.prog 86 = some [] := by kernel_rfl
theorem fc86_all : allPlaces Tryd.prog 86 = true := by kernel_rfl
theorem fc86_f0 : fieldT Tryd.prog 86 0 = some (0, 0, true) := by kernel_rfl
theorem fc86_p0 : placeT Tryd.prog 86 0 = some (0, 0) := by kernel_rfl
theorem fc87_load : loadT Tryd.prog 87 = some (0, true) := by kernel_rfl
theorem fc87_size : tySize Tryd.prog 87 = some 0 := by kernel_rfl
theorem fc87_zero : zeroT Tryd.prog 87 = some [] := by kernel_rfl
theorem fc87_all : allPlaces Tryd.prog 87 = true := by kernel_rfl
theorem fc87_f0 : fieldT Tryd.prog 87 0 = some (0, 0, true) := by kernel_rfl
theorem fc87_p0 : placeT Tryd.prog 87 0 = some (0, 0) := by kernel_rfl
theorem fc88_load : loadT Tryd.prog 88 = some (1, false) := by kernel_rfl
theorem fc88_size : tySize Tryd.prog 88 = some 1 := by kernel_rfl
theorem fc88_zero : zeroT Tryd.prog 88 = some [.nilFunc] := by kernel_rfl
theorem fc89_load : loadT Tryd.prog 89 = some (1, false) := by kernel_rfl
theorem fc89_size : tySize Tryd.prog 89 = some 1 := by kernel_rfl
theorem fc89_int : intT Tryd.prog 89 = some .u8 := by kernel_rfl
theorem fc89_isb : isBoolT Tryd.prog 89 = false := by kernel_rfl
theorem fc89_u : Tryd.prog.underlying 89 = some (.int .u8) := by kernel_rfl
theorem fc89_zero : zeroT Tryd.prog 89 = some [.int .u8 0] := by kernel_rfl
theorem fc90_load : loadT Tryd.prog 90 = some (1, false) := by kernel_rfl
theorem fc90_size : tySize Tryd.prog 90 = some 1 := by kernel_rfl
theorem fc90_int : intT Tryd.prog 90 = some .u8 := by kernel_rfl
theorem fc90_isb : isBoolT Tryd.prog 90 = false := by kernel_rfl
theorem fc90_u : Tryd.prog.underlying 90 = some (.int .u8) := by kernel_rfl
theorem fc90_zero : zeroT Tryd.prog 90 = some [.int .u8 0] := by kernel_rfl
theorem fc91_load : loadT Tryd.prog 91 = some (1, false) := by kernel_rfl
theorem fc91_size : tySize Tryd.prog 91 = some 1 := by kernel_rfl
theorem fc91_zero : zeroT Tryd.prog 91 = some [.nilFunc] := by kernel_rfl
theorem fc92_load : loadT Tryd.prog 92 = some (1, false) := by kernel_rfl
theorem fc92_size : tySize Tryd.prog 92 = some 1 := by kernel_rfl
theorem fc92_zero : zeroT Tryd.prog 92 = some [.pointer none] := by kernel_rfl
theorem fc92_sl : sliceT Tryd.prog 92 = none := by kernel_rfl
theorem fc93_load : loadT Tryd.prog 93 = some (1, false) := by kernel_rfl
theorem fc93_size : tySize Tryd.prog 93 = some 1 := by kernel_rfl
theorem fc93_int : intT Tryd.prog 93 = some .i32 := by kernel_rfl
theorem fc93_isb : isBoolT Tryd.prog 93 = false := by kernel_rfl
theorem fc93_u : Tryd.prog.underlying 93 = some (.int .i32) := by kernel_rfl
theorem fc93_zero : zeroT Tryd.prog 93 = some [.int .i32 0] := by kernel_rfl
theorem fc94_load : loadT Tryd.prog 94 = some (1, false) := by kernel_rfl
theorem fc94_size : tySize Tryd.prog 94 = some 1 := by kernel_rfl
theorem fc94_int : intT Tryd.prog 94 = some .i32 := by kernel_rfl
theorem fc94_isb : isBoolT Tryd.prog 94 = false := by kernel_rfl
theorem fc94_u : Tryd.prog.underlying 94 = some (.int .i32) := by kernel_rfl
theorem fc94_zero : zeroT Tryd.prog 94 = some [.int .i32 0] := by kernel_rfl
theorem fc95_load : loadT Tryd.prog 95 = some (11, true) := by kernel_rfl
theorem fc95_size : tySize Tryd.prog 95 = some 11 := by kernel_rfl
theorem fc95_zero : zeroT Tryd.prog 95 = some [.int .u64 0, .int .u64 0, .int .u32 0, .int .u8 0, .int .u8 0, .int .u8 0, .int .u8 0, .nilFunc, .pointer none, .int .i32 0, .int .i32 0] := by kernel_rfl
theorem fc95_all : allPlaces Tryd.prog 95 = true := by kernel_rfl
theorem fc95_o0 : fieldOff Tryd.prog 95 0 = some 0 := by kernel_rfl
theorem fc95_f0 : fieldT Tryd.prog 95 0 = some (0, 1, false) := by kernel_rfl
theorem fc95_p0 : placeT Tryd.prog 95 0 = some (0, 1) := by kernel_rfl
theorem fc95_o1 : fieldOff Tryd.prog 95 1 = some 1 := by kernel_rfl
theorem fc95_f1 : fieldT Tryd.prog 95 1 = some (1, 1, false) := by kernel_rfl
theorem fc95_p1 : placeT Tryd.prog 95 1 = some (1, 1) := by kernel_rfl
theorem fc95_o2 : fieldOff Tryd.prog 95 2 = some 2 := by kernel_rfl
theorem fc95_f2 : fieldT Tryd.prog 95 2 = some (2, 1, false) := by kernel_rfl
theorem fc95_p2 : placeT Tryd.prog 95 2 = some (2, 1) := by kernel_rfl
theorem fc95_o3 : fieldOff Tryd.prog 95 3 = some 3 := by kernel_rfl
theorem fc95_f3 : fieldT Tryd.prog 95 3 = some (3, 1, false) := by kernel_rfl
theorem fc95_p3 : placeT Tryd.prog 95 3 = some (3, 1) := by kernel_rfl
theorem fc95_o4 : fieldOff Tryd.prog 95 4 = some 4 := by kernel_rfl
theorem fc95_f4 : fieldT Tryd.prog 95 4 = some (4, 1, false) := by kernel_rfl
theorem fc95_p4 : placeT Tryd.prog 95 4 = some (4, 1) := by kernel_rfl
theorem fc95_o5 : fieldOff Tryd.prog 95 5 = some 5 := by kernel_rfl
theorem fc95_f5 : fieldT Tryd.prog 95 5 = some (5, 1, false) := by kernel_rfl
theorem fc95_p5 : placeT Tryd.prog 95 5 = some (5, 1) := by kernel_rfl
theorem fc95_o6 : fieldOff Tryd.prog 95 6 = some 6 := by kernel_rfl
theorem fc95_f6 : fieldT Tryd.prog 95 6 = some (6, 1, false) := by kernel_rfl
theorem fc95_p6 : placeT Tryd.prog 95 6 = some (6, 1) := by kernel_rfl
theorem fc95_o7 : fieldOff Tryd.prog 95 7 = some 7 := by kernel_rfl
theorem fc95_f7 : fieldT Tryd.prog 95 7 = some (7, 1, false) := by kernel_rfl
theorem fc95_p7 : placeT Tryd.prog 95 7 = some (7, 1) := by kernel_rfl
theorem fc95_o8 : fieldOff Tryd.prog 95 8 = some 8 := by kernel_rfl
theorem fc95_f8 : fieldT Tryd.prog 95 8 = some (8, 1, false) := by kernel_rfl
theorem fc95_p8 : placeT Tryd.prog 95 8 = some (8, 1) := by kernel_rfl
theorem fc95_o9 : fieldOff Tryd.prog 95 9 = some 9 := by kernel_rfl
theorem fc95_f9 : fieldT Tryd.prog 95 9 = some (9, 1, false) := by kernel_rfl
theorem fc95_p9 : placeT Tryd.prog 95 9 = some (9, 1) := by kernel_rfl
theorem fc95_o10 : fieldOff Tryd.prog 95 10 = some 10 := by kernel_rfl
theorem fc95_f10 : fieldT Tryd.prog 95 10 = some (10, 1, false) := by kernel_rfl
theorem fc95_p10 : placeT Tryd.prog 95 10 = some (10, 1) := by kernel_rfl
theorem fc96_load : loadT Tryd.prog 96 = some (11, true) := by kernel_rfl
theorem fc96_size : tySize Tryd.prog 96 = some 11 := by kernel_rfl
theorem fc96_zero : zeroT Tryd.prog 96 = some [.int .u64 0, .int .u64 0, .int .u32 0, .int .u8 0, .int .u8 0, .int .u8 0, .int .u8 0, .nilFunc, .pointer none, .int .i32 0, .int .i32 0] := by kernel_rfl
theorem fc96_all : allPlaces Tryd.prog 96 = true := by kernel_rfl
theorem fc96_o0 : fieldOff Tryd.prog 96 0 = some 0 := by kernel_rfl
theorem fc96_f0 : fieldT Tryd.prog 96 0 = some (0, 1, false) := by kernel_rfl
theorem fc96_p0 : placeT Tryd.prog 96 0 = some (0, 1) := by kernel_rfl
theorem fc96_o1 : fieldOff Tryd.prog 96 1 = some 1 := by kernel_rfl
theorem fc96_f1 : fieldT Tryd.prog 96 1 = some (1, 1, false) := by kernel_rfl
theorem fc96_p1 : placeT Tryd.prog 96 1 = some (1, 1) := by kernel_rfl
theorem fc96_o2 : fieldOff Tryd.prog 96 2 = some 2 := by kernel_rfl
theorem fc96_f2 : fieldT Tryd.prog 96 2 = some (2, 1, false) := by kernel_rfl
theorem fc96_p2 : placeT Tryd.prog 96 2 = some (2, 1) := by kernel_rfl
theorem fc96_o3 : fieldOff Tryd.prog 96 3 = some 3 := by kernel_rfl
theorem fc96_f3 : fieldT Tryd.prog 96 3 = some (3, 1, false) := by kernel_rfl
theorem fc96_p3 : placeT Tryd.prog 96 3 = some (3, 1) := by kernel_rfl
theorem fc96_o4 : fieldOff Tryd.prog 96 4 = some 4 := by kernel_rfl
theorem fc96_f4 : fieldT Tryd.prog 96 4 = some (4, 1, false) := by kernel_rfl
theorem fc96_p4 : placeT Tryd.prog 96 4 = some (4, 1) := by kernel_rfl
theorem fc96_o5 : fieldOff Tryd.prog 96 5 = some 5 := by kernel_rfl
theorem fc96_f5 : fieldT Tryd.prog 96 5 = some (5, 1, false) := by kernel_rfl
theorem fc96_p5 : placeT Tryd.prog 96 5 = some (5, 1) := by kernel_rfl
theorem fc96_o6 : fieldOff Tryd.prog 96 6 = some 6 := by kernel_rfl
theorem fc96_f6 : fieldT Tryd.prog 96 6 = some (6, 1, false) := by kernel_rfl
theorem fc96_p6 : placeT Tryd.prog 96 6 = some (6, 1) := by kernel_rfl
theorem fc96_o7 : fieldOff Tryd.prog 96 7 = some 7 := by kernel_rfl
theorem fc96_f7 : fieldT Tryd.prog 96 7 = some (7, 1, false) := by kernel_rfl
theorem fc96_p7 : placeT Tryd.prog 96 7 = some (7, 1) := by kernel_rfl
theorem fc96_o8 : fieldOff Tryd.prog 96 8 = some 8 := by kernel_rfl
theorem fc96_f8 : fieldT Tryd.prog 96 8 = some (8, 1, false) := by kernel_rfl
theorem fc96_p8 : placeT Tryd.prog 96 8 = some (8, 1) := by kernel_rfl
theorem fc96_o9 : fieldOff Tryd.prog 96 9 = some 9 := by kernel_rfl
theorem fc96_f9 : fieldT Tryd.prog 96 9 = some (9, 1, false) := by kernel_rfl
theorem fc96_p9 : placeT Tryd.prog 96 9 = some (9, 1) := by kernel_rfl
theorem fc96_o10 : fieldOff Tryd.prog 96 10 = some 10 := by kernel_rfl
theorem fc96_f10 : fieldT Tryd.prog 96 10 = some (10, 1, false) := by kernel_rfl
theorem fc96_p10 : placeT Tryd.prog 96 10 = some (10, 1) := by kernel_rfl
attribute [go_sem] fc1_load fc1_size fc1_zero fc2_load fc2_size fc2_int fc2_isb fc2_u fc2_zero fc3_load fc3_size fc3_int fc3_isb fc3_u fc3_zero fc4_load fc4_size fc4_isb fc4_zero fc5_load fc5_size fc5_int fc5_isb fc5_u fc5_zero fc6_load fc6_size fc6_int fc6_isb fc6_u fc6_zero fc7_load fc7_size fc7_zero fc7_eq fc7_all fc7_o0 fc7_f0 fc7_p0 fc7_o1 fc7_f1 fc7_p1 fc7_o2 fc7_f2 fc7_p2 fc7_o3 fc7_f3 fc7_p3 fc8_load fc8_size fc8_zero fc8_eq fc8_all fc8_o0 fc8_f0 fc8_p0 fc8_o1 fc8_f1 fc8_p1 fc8_o2 fc8_f2 fc8_p2 fc8_o3 fc8_f3 fc8_p3 fc9_load fc9_size fc9_iss fc9_zero fc10_load fc10_size fc10_iss fc10_zero fc11_load fc11_size fc11_iss fc11_zero fc12_load fc12_size fc12_int fc12_isb fc12_u fc12_zero fc13_load fc13_size fc13_zero fc13_all fc13_o0 fc13_f0 fc13_p0 fc13_o1 fc13_f1 fc13_p1 fc14_load fc14_size fc14_zero fc14_all fc14_o0 fc14_f0 fc14_p0 fc14_o1 fc14_f1 fc14_p1 fc15_load fc15_size fc15_zero fc15_sl fc16_load fc16_size fc16_zero fc16_sl fc17_load fc17_size fc17_zero fc17_sl fc18_load fc18_size fc18_zero fc18_all fc18_o0 fc18_f0 fc18_p0 fc19_load fc19_size fc19_zero fc19_all fc19_o0 fc19_f0 fc19_p0 fc21_load fc21_size fc21_int fc21_isb fc21_u fc21_zero fc22_load fc22_size fc22_zero fc22_eq fc22_all fc22_o0 fc22_f0 fc22_p0 fc22_o1 fc22_f1 fc22_p1 fc23_load fc23_size fc23_zero fc23_eq fc23_all fc23_o0 fc23_f0 fc23_p0 fc23_o1 fc23_f1 fc23_p1 fc25_load fc25_size fc25_zero fc26_load fc26_size fc26_zero fc27_load fc27_size fc27_zero fc28_load fc28_size fc28_zero fc28_eq fc28_all fc28_o0 fc28_f0 fc28_p0 fc28_o1 fc28_f1 fc28_p1 fc28_o2 fc28_f2 fc28_p2 fc28_o3 fc28_f3 fc28_p3 fc29_load fc29_size fc29_zero fc29_eq fc29_all fc29_o0 fc29_f0 fc29_p0 fc29_o1 fc29_f1 fc29_p1 fc29_o2 fc29_f2 fc29_p2 fc29_o3 fc29_f3 fc29_p3 fc31_load fc31_size fc31_zero fc32_load fc32_size fc32_zero fc33_load fc33_size fc33_zero fc33_eq fc33_all fc33_o0 fc33_f0 fc33_p0 fc33_o1 fc33_f1 fc33_p1 fc33_o2 fc33_f2 fc33_p2 fc33_o3 fc33_f3 fc33_p3 fc34_load fc34_size fc34_zero fc34_eq fc34_all fc34_o0 fc34_f0 fc34_p0 fc34_o1 fc34_f1 fc34_p1 fc34_o2 fc34_f2 fc34_p2 fc34_o3 fc34_f3 fc34_p3 fc36_load fc36_size fc36_zero fc37_load fc37_size fc37_zero fc38_load fc38_size fc38_zero fc38_sl fc38_arr fc38_app fc38_z1 fc38_clear fc38_byt fc39_load fc39_size fc39_zero fc41_load fc41_size fc41_zero fc42_load fc42_size fc42_zero fc43_load fc43_size fc43_zero fc44_load fc44_size fc44_zero fc44_sl fc44_arr fc44_app fc44_z1 fc44_clear fc44_byt fc45_load fc45_size fc45_zero fc46_load fc46_size fc46_zero fc47_load fc47_size fc47_zero fc48_load fc48_size fc48_zero fc50_load fc50_size fc50_zero fc51_load fc51_size fc51_zero fc52_load fc52_size fc52_zero fc53_load fc53_size fc53_zero fc54_load fc54_size fc54_zero fc55_load fc55_size fc55_zero fc56_load fc56_size fc56_zero fc57_load fc57_size fc57_zero fc58_load fc58_size fc58_zero fc59_load fc59_size fc59_zero fc59_arr fc59_sl fc59_all fc59_p0 fc59_p1 fc59_p2 fc60_load fc60_size fc60_zero fc60_sl fc60_arr fc60_app fc60_z1 fc60_clear fc60_byt fc61_load fc61_size fc61_zero fc62_load fc62_size fc62_zero fc63_load fc63_size fc63_zero fc64_load fc64_size fc64_zero fc65_load fc65_size fc65_int fc65_isb fc65_u fc65_zero fc66_load fc66_size fc66_zero fc66_arr fc66_sl fc66_all fc67_load fc67_size fc67_int fc67_isb fc67_u fc67_zero fc68_load fc68_size fc68_zero fc69_load fc69_size fc69_zero fc71_load fc71_size fc71_zero fc72_load fc72_size fc72_int fc72_isb fc72_u fc72_zero fc74_load fc74_size fc74_zero fc75_load fc75_size fc75_zero fc76_load fc76_size fc76_zero fc76_arr fc76_sl fc76_all fc77_load fc77_size fc77_arr fc77_sl fc77_all fc78_load fc78_size fc78_zero fc79_load fc79_size fc79_zero fc80_load fc80_size fc80_zero fc80_arr fc80_sl fc80_all fc81_load fc81_size fc81_arr fc81_sl fc81_all fc82_load fc82_size fc82_zero fc83_load fc83_size fc83_zero fc83_all fc83_o0 fc83_f0 fc83_p0 fc83_o1 fc83_f1 fc83_p1 fc83_o2 fc83_f2 fc83_p2 fc83_o3 fc83_f3 fc83_p3 fc84_load fc84_size fc84_zero fc84_all fc84_o0 fc84_f0 fc84_p0 fc84_o1 fc84_f1 fc84_p1 fc84_o2 fc84_f2 fc84_p2 fc84_o3 fc84_f3 fc84_p3 fc85_load fc85_size fc85_zero fc85_arr fc85_sl fc85_all fc86_load fc86_size fc86_zero fc86_all fc86_f0 fc86_p0 fc87_load fc87_size fc87_zero fc87_all fc87_f0 fc87_p0 fc88_load fc88_size fc88_zero fc89_load fc89_size fc89_int fc89_isb fc89_u fc89_zero fc90_load fc90_size fc90_int fc90_isb fc90_u fc90_zero fc91_load fc91_size fc91_zero fc92_load fc92_size fc92_zero fc92_sl fc93_load fc93_size fc93_int fc93_isb fc93_u fc93_zero fc94_load fc94_size fc94_int fc94_isb fc94_u fc94_zero fc95_load fc95_size fc95_zero fc95_all fc95_o0 fc95_f0 fc95_p0 fc95_o1 fc95_f1 fc95_p1 fc95_o2 fc95_f2 fc95_p2 fc95_o3 fc95_f3 fc95_p3 fc95_o4 fc95_f4 fc95_p4 fc95_o5 fc95_f5 fc95_p5 fc95_o6 fc95_f6 fc95_p6 fc95_o7 fc95_f7 fc95_p7 fc95_o8 fc95_f8 fc95_p8 fc95_o9 fc95_f9 fc95_p9 fc95_o10 fc95_f10 fc95_p10 fc96_load fc96_size fc96_zero fc96_all fc96_o0 fc96_f0 fc96_p0 fc96_o1 fc96_f1 fc96_p1 fc96_o2 fc96_f2 fc96_p2 fc96_o3 fc96_f3 fc96_p3 fc96_o4 fc96_f4 fc96_p4 fc96_o5 fc96_f5 fc96_p5 fc96_o6 fc96_f6 fc96_p6 fc96_o7 fc96_f7 fc96_p7 fc96_o8 fc96_f8 fc96_p8 fc96_o9 fc96_f9 fc96_p9 fc96_o10 fc96_f10 fc96_p10
end Go.Proofs.YtemamoobemlkcaaDoor
