/- The closed facts on the types of this seat's program, each by the kernel. Written by program. -/
import Derived.Test.YtbanhbalmpkjjaaDoorAm10
import Derived.Test.YtbanhbalmpkjjaaDoorRows
namespace Go.Proofs.YtbanhbalmpkjjaaDoor
open Go.Am
theorem fc1_load : loadT Tryd.prog 1 = some (1, false) := by kernel_rfl
theorem fc1_size : tySize Tryd.prog 1 = some 1 := by kernel_rfl
theorem fc1_zero : zeroT Tryd.prog 1 = some [.nilFunc] := by kernel_rfl
theorem fc2_load : loadT Tryd.prog 2 = some (1, false) := by kernel_rfl
theorem fc2_size : tySize Tryd.prog 2 = some 1 := by kernel_rfl
theorem fc2_int : intT Tryd.prog 2 = some .i64 := by kernel_rfl
theorem fc2_isb : isBoolT Tryd.prog 2 = false := by kernel_rfl
theorem fc2_u : Tryd.prog.underlying 2 = some (.int .i64) := by kernel_rfl
theorem fc2_zero : zeroT Tryd.prog 2 = some [.int .i64 0] := by kernel_rfl
theorem fc3_load : loadT Tryd.prog 3 = some (1, false) := by kernel_rfl
theorem fc3_size : tySize Tryd.prog 3 = some 1 := by kernel_rfl
theorem fc3_int : intT Tryd.prog 3 = some .i64 := by kernel_rfl
theorem fc3_isb : isBoolT Tryd.prog 3 = false := by kernel_rfl
theorem fc3_u : Tryd.prog.underlying 3 = some (.int .i64) := by kernel_rfl
theorem fc3_zero : zeroT Tryd.prog 3 = some [.int .i64 0] := by kernel_rfl
theorem fc4_load : loadT Tryd.prog 4 = some (1, false) := by kernel_rfl
theorem fc4_size : tySize Tryd.prog 4 = some 1 := by kernel_rfl
theorem fc4_isb : isBoolT Tryd.prog 4 = true := by kernel_rfl
theorem fc4_zero : zeroT Tryd.prog 4 = some [.bool false] := by kernel_rfl
theorem fc5_load : loadT Tryd.prog 5 = some (1, false) := by kernel_rfl
theorem fc5_size : tySize Tryd.prog 5 = some 1 := by kernel_rfl
theorem fc5_int : intT Tryd.prog 5 = some .u8 := by kernel_rfl
theorem fc5_isb : isBoolT Tryd.prog 5 = false := by kernel_rfl
theorem fc5_u : Tryd.prog.underlying 5 = some (.int .u8) := by kernel_rfl
theorem fc5_zero : zeroT Tryd.prog 5 = some [.int .u8 0] := by kernel_rfl
theorem fc6_load : loadT Tryd.prog 6 = some (1, false) := by kernel_rfl
theorem fc6_size : tySize Tryd.prog 6 = some 1 := by kernel_rfl
theorem fc6_int : intT Tryd.prog 6 = some .u8 := by kernel_rfl
theorem fc6_isb : isBoolT Tryd.prog 6 = false := by kernel_rfl
theorem fc6_u : Tryd.prog.underlying 6 = some (.int .u8) := by kernel_rfl
theorem fc6_zero : zeroT Tryd.prog 6 = some [.int .u8 0] := by kernel_rfl
theorem fc7_load : loadT Tryd.prog 7 = some (4, true) := by kernel_rfl
theorem fc7_size : tySize Tryd.prog 7 = some 4 := by kernel_rfl
theorem fc7_zero : zeroT Tryd.prog 7 = some [.int .i64 0, .int .i64 0, .bool false, .int .u8 0] := by kernel_rfl
theorem fc7_eq : eqT Tryd.prog 7 = some [(0, false), (1, false), (2, true), (3, false)] := by kernel_rfl
theorem fc7_all : allPlaces Tryd.prog 7 = true := by kernel_rfl
theorem fc7_o0 : fieldOff Tryd.prog 7 0 = some 0 := by kernel_rfl
theorem fc7_f0 : fieldT Tryd.prog 7 0 = some (0, 1, false) := by kernel_rfl
theorem fc7_p0 : placeT Tryd.prog 7 0 = some (0, 1) := by kernel_rfl
theorem fc7_o1 : fieldOff Tryd.prog 7 1 = some 1 := by kernel_rfl
theorem fc7_f1 : fieldT Tryd.prog 7 1 = some (1, 1, false) := by kernel_rfl
theorem fc7_p1 : placeT Tryd.prog 7 1 = some (1, 1) := by kernel_rfl
theorem fc7_o2 : fieldOff Tryd.prog 7 2 = some 2 := by kernel_rfl
theorem fc7_f2 : fieldT Tryd.prog 7 2 = some (2, 1, false) := by kernel_rfl
theorem fc7_p2 : placeT Tryd.prog 7 2 = some (2, 1) := by kernel_rfl
theorem fc7_o3 : fieldOff Tryd.prog 7 3 = some 3 := by kernel_rfl
theorem fc7_f3 : fieldT Tryd.prog 7 3 = some (3, 1, false) := by kernel_rfl
theorem fc7_p3 : placeT Tryd.prog 7 3 = some (3, 1) := by kernel_rfl
theorem fc8_load : loadT Tryd.prog 8 = some (4, true) := by kernel_rfl
theorem fc8_size : tySize Tryd.prog 8 = some 4 := by kernel_rfl
theorem fc8_zero : zeroT Tryd.prog 8 = some [.int .i64 0, .int .i64 0, .bool false, .int .u8 0] := by kernel_rfl
theorem fc8_eq : eqT Tryd.prog 8 = some [(0, false), (1, false), (2, true), (3, false)] := by kernel_rfl
theorem fc8_all : allPlaces Tryd.prog 8 = true := by kernel_rfl
theorem fc8_o0 : fieldOff Tryd.prog 8 0 = some 0 := by kernel_rfl
theorem fc8_f0 : fieldT Tryd.prog 8 0 = some (0, 1, false) := by kernel_rfl
theorem fc8_p0 : placeT Tryd.prog 8 0 = some (0, 1) := by kernel_rfl
theorem fc8_o1 : fieldOff Tryd.prog 8 1 = some 1 := by kernel_rfl
theorem fc8_f1 : fieldT Tryd.prog 8 1 = some (1, 1, false) := by kernel_rfl
theorem fc8_p1 : placeT Tryd.prog 8 1 = some (1, 1) := by kernel_rfl
theorem fc8_o2 : fieldOff Tryd.prog 8 2 = some 2 := by kernel_rfl
theorem fc8_f2 : fieldT Tryd.prog 8 2 = some (2, 1, false) := by kernel_rfl
theorem fc8_p2 : placeT Tryd.prog 8 2 = some (2, 1) := by kernel_rfl
theorem fc8_o3 : fieldOff Tryd.prog 8 3 = some 3 := by kernel_rfl
theorem fc8_f3 : fieldT Tryd.prog 8 3 = some (3, 1, false) := by kernel_rfl
theorem fc8_p3 : placeT Tryd.prog 8 3 = some (3, 1) := by kernel_rfl
theorem fc9_load : loadT Tryd.prog 9 = some (1, false) := by kernel_rfl
theorem fc9_size : tySize Tryd.prog 9 = some 1 := by kernel_rfl
theorem fc9_iss : isStrT Tryd.prog 9 = true := by kernel_rfl
theorem fc9_zero : zeroT Tryd.prog 9 = some [.string ⟨#[]⟩] := by kernel_rfl
theorem fc10_load : loadT Tryd.prog 10 = some (1, false) := by kernel_rfl
theorem fc10_size : tySize Tryd.prog 10 = some 1 := by kernel_rfl
theorem fc10_iss : isStrT Tryd.prog 10 = true := by kernel_rfl
theorem fc10_zero : zeroT Tryd.prog 10 = some [.string ⟨#[]⟩] := by kernel_rfl
theorem fc11_load : loadT Tryd.prog 11 = some (1, false) := by kernel_rfl
theorem fc11_size : tySize Tryd.prog 11 = some 1 := by kernel_rfl
theorem fc11_iss : isStrT Tryd.prog 11 = true := by kernel_rfl
theorem fc11_zero : zeroT Tryd.prog 11 = some [.string ⟨#[]⟩] := by kernel_rfl
theorem fc12_load : loadT Tryd.prog 12 = some (1, false) := by kernel_rfl
theorem fc12_size : tySize Tryd.prog 12 = some 1 := by kernel_rfl
theorem fc12_int : intT Tryd.prog 12 = some .u64 := by kernel_rfl
theorem fc12_isb : isBoolT Tryd.prog 12 = false := by kernel_rfl
theorem fc12_u : Tryd.prog.underlying 12 = some (.int .u64) := by kernel_rfl
theorem fc12_zero : zeroT Tryd.prog 12 = some [.int .u64 0] := by kernel_rfl
theorem fc13_load : loadT Tryd.prog 13 = some (2, true) := by kernel_rfl
theorem fc13_size : tySize Tryd.prog 13 = some 2 := by kernel_rfl
theorem fc13_zero : zeroT Tryd.prog 13 = some [.string ⟨#[]⟩, .int .u64 0] := by kernel_rfl
theorem fc13_all : allPlaces Tryd.prog 13 = true := by kernel_rfl
theorem fc13_o0 : fieldOff Tryd.prog 13 0 = some 0 := by kernel_rfl
theorem fc13_f0 : fieldT Tryd.prog 13 0 = some (0, 1, false) := by kernel_rfl
theorem fc13_p0 : placeT Tryd.prog 13 0 = some (0, 1) := by kernel_rfl
theorem fc13_o1 : fieldOff Tryd.prog 13 1 = some 1 := by kernel_rfl
theorem fc13_f1 : fieldT Tryd.prog 13 1 = some (1, 1, false) := by kernel_rfl
theorem fc13_p1 : placeT Tryd.prog 13 1 = some (1, 1) := by kernel_rfl
theorem fc14_load : loadT Tryd.prog 14 = some (2, true) := by kernel_rfl
theorem fc14_size : tySize Tryd.prog 14 = some 2 := by kernel_rfl
theorem fc14_zero : zeroT Tryd.prog 14 = some [.string ⟨#[]⟩, .int .u64 0] := by kernel_rfl
theorem fc14_all : allPlaces Tryd.prog 14 = true := by kernel_rfl
theorem fc14_o0 : fieldOff Tryd.prog 14 0 = some 0 := by kernel_rfl
theorem fc14_f0 : fieldT Tryd.prog 14 0 = some (0, 1, false) := by kernel_rfl
theorem fc14_p0 : placeT Tryd.prog 14 0 = some (0, 1) := by kernel_rfl
theorem fc14_o1 : fieldOff Tryd.prog 14 1 = some 1 := by kernel_rfl
theorem fc14_f1 : fieldT Tryd.prog 14 1 = some (1, 1, false) := by kernel_rfl
theorem fc14_p1 : placeT Tryd.prog 14 1 = some (1, 1) := by kernel_rfl
theorem fc15_load : loadT Tryd.prog 15 = some (1, false) := by kernel_rfl
theorem fc15_size : tySize Tryd.prog 15 = some 1 := by kernel_rfl
theorem fc15_zero : zeroT Tryd.prog 15 = some [.pointer none] := by kernel_rfl
theorem fc15_sl : sliceT Tryd.prog 15 = none := by kernel_rfl
theorem fc16_load : loadT Tryd.prog 16 = some (1, false) := by kernel_rfl
theorem fc16_size : tySize Tryd.prog 16 = some 1 := by kernel_rfl
theorem fc16_zero : zeroT Tryd.prog 16 = some [.pointer none] := by kernel_rfl
theorem fc16_sl : sliceT Tryd.prog 16 = none := by kernel_rfl
theorem fc17_load : loadT Tryd.prog 17 = some (1, false) := by kernel_rfl
theorem fc17_size : tySize Tryd.prog 17 = some 1 := by kernel_rfl
theorem fc17_zero : zeroT Tryd.prog 17 = some [.pointer none] := by kernel_rfl
theorem fc17_sl : sliceT Tryd.prog 17 = none := by kernel_rfl
theorem fc18_load : loadT Tryd.prog 18 = some (1, true) := by kernel_rfl
theorem fc18_size : tySize Tryd.prog 18 = some 1 := by kernel_rfl
theorem fc18_zero : zeroT Tryd.prog 18 = some [.pointer none] := by kernel_rfl
theorem fc18_all : allPlaces Tryd.prog 18 = true := by kernel_rfl
theorem fc18_o0 : fieldOff Tryd.prog 18 0 = some 0 := by kernel_rfl
theorem fc18_f0 : fieldT Tryd.prog 18 0 = some (0, 1, false) := by kernel_rfl
theorem fc18_p0 : placeT Tryd.prog 18 0 = some (0, 1) := by kernel_rfl
theorem fc19_load : loadT Tryd.prog 19 = some (1, true) := by kernel_rfl
theorem fc19_size : tySize Tryd.prog 19 = some 1 := by kernel_rfl
theorem fc19_zero : zeroT Tryd.prog 19 = some [.pointer none] := by kernel_rfl
theorem fc19_all : allPlaces Tryd.prog 19 = true := by kernel_rfl
theorem fc19_o0 : fieldOff Tryd.prog 19 0 = some 0 := by kernel_rfl
theorem fc19_f0 : fieldT Tryd.prog 19 0 = some (0, 1, false) := by kernel_rfl
theorem fc19_p0 : placeT Tryd.prog 19 0 = some (0, 1) := by kernel_rfl
theorem fc21_load : loadT Tryd.prog 21 = some (1, false) := by kernel_rfl
theorem fc21_size : tySize Tryd.prog 21 = some 1 := by kernel_rfl
theorem fc21_int : intT Tryd.prog 21 = some .i32 := by kernel_rfl
theorem fc21_isb : isBoolT Tryd.prog 21 = false := by kernel_rfl
theorem fc21_u : Tryd.prog.underlying 21 = some (.int .i32) := by kernel_rfl
theorem fc21_zero : zeroT Tryd.prog 21 = some [.int .i32 0] := by kernel_rfl
theorem fc22_load : loadT Tryd.prog 22 = some (2, true) := by kernel_rfl
theorem fc22_size : tySize Tryd.prog 22 = some 2 := by kernel_rfl
theorem fc22_zero : zeroT Tryd.prog 22 = some [.int .i64 0, .int .i64 0] := by kernel_rfl
theorem fc22_eq : eqT Tryd.prog 22 = some [(0, false), (1, false)] := by kernel_rfl
theorem fc22_all : allPlaces Tryd.prog 22 = true := by kernel_rfl
theorem fc22_o0 : fieldOff Tryd.prog 22 0 = some 0 := by kernel_rfl
theorem fc22_f0 : fieldT Tryd.prog 22 0 = some (0, 1, false) := by kernel_rfl
theorem fc22_p0 : placeT Tryd.prog 22 0 = some (0, 1) := by kernel_rfl
theorem fc22_o1 : fieldOff Tryd.prog 22 1 = some 1 := by kernel_rfl
theorem fc22_f1 : fieldT Tryd.prog 22 1 = some (1, 1, false) := by kernel_rfl
theorem fc22_p1 : placeT Tryd.prog 22 1 = some (1, 1) := by kernel_rfl
theorem fc23_load : loadT Tryd.prog 23 = some (2, true) := by kernel_rfl
theorem fc23_size : tySize Tryd.prog 23 = some 2 := by kernel_rfl
theorem fc23_zero : zeroT Tryd.prog 23 = some [.int .i64 0, .int .i64 0] := by kernel_rfl
theorem fc23_eq : eqT Tryd.prog 23 = some [(0, false), (1, false)] := by kernel_rfl
theorem fc23_all : allPlaces Tryd.prog 23 = true := by kernel_rfl
theorem fc23_o0 : fieldOff Tryd.prog 23 0 = some 0 := by kernel_rfl
theorem fc23_f0 : fieldT Tryd.prog 23 0 = some (0, 1, false) := by kernel_rfl
theorem fc23_p0 : placeT Tryd.prog 23 0 = some (0, 1) := by kernel_rfl
theorem fc23_o1 : fieldOff Tryd.prog 23 1 = some 1 := by kernel_rfl
theorem fc23_f1 : fieldT Tryd.prog 23 1 = some (1, 1, false) := by kernel_rfl
theorem fc23_p1 : placeT Tryd.prog 23 1 = some (1, 1) := by kernel_rfl
theorem fc25_load : loadT Tryd.prog 25 = some (1, false) := by kernel_rfl
theorem fc25_size : tySize Tryd.prog 25 = some 1 := by kernel_rfl
theorem fc25_zero : zeroT Tryd.prog 25 = some [.nilFunc] := by kernel_rfl
theorem fc26_load : loadT Tryd.prog 26 = some (2, true) := by kernel_rfl
theorem fc26_size : tySize Tryd.prog 26 = some 2 := by kernel_rfl
theorem fc26_zero : zeroT Tryd.prog 26 = some [.int .i64 0, .int .i64 0] := by kernel_rfl
theorem fc26_eq : eqT Tryd.prog 26 = some [(0, false), (1, false)] := by kernel_rfl
theorem fc26_all : allPlaces Tryd.prog 26 = true := by kernel_rfl
theorem fc26_o0 : fieldOff Tryd.prog 26 0 = some 0 := by kernel_rfl
theorem fc26_f0 : fieldT Tryd.prog 26 0 = some (0, 1, false) := by kernel_rfl
theorem fc26_p0 : placeT Tryd.prog 26 0 = some (0, 1) := by kernel_rfl
theorem fc26_o1 : fieldOff Tryd.prog 26 1 = some 1 := by kernel_rfl
theorem fc26_f1 : fieldT Tryd.prog 26 1 = some (1, 1, false) := by kernel_rfl
theorem fc26_p1 : placeT Tryd.prog 26 1 = some (1, 1) := by kernel_rfl
theorem fc27_load : loadT Tryd.prog 27 = some (1, false) := by kernel_rfl
theorem fc27_size : tySize Tryd.prog 27 = some 1 := by kernel_rfl
theorem fc27_zero : zeroT Tryd.prog 27 = some [.nilFunc] := by kernel_rfl
theorem fc28_load : loadT Tryd.prog 28 = some (1, false) := by kernel_rfl
theorem fc28_size : tySize Tryd.prog 28 = some 1 := by kernel_rfl
theorem fc28_zero : zeroT Tryd.prog 28 = some [.nilFunc] := by kernel_rfl
theorem fc29_load : loadT Tryd.prog 29 = some (4, true) := by kernel_rfl
theorem fc29_size : tySize Tryd.prog 29 = some 4 := by kernel_rfl
theorem fc29_zero : zeroT Tryd.prog 29 = some [.int .i64 0, .int .i64 0, .int .i64 0, .bool false] := by kernel_rfl
theorem fc29_eq : eqT Tryd.prog 29 = some [(0, false), (1, false), (2, false), (3, true)] := by kernel_rfl
theorem fc29_all : allPlaces Tryd.prog 29 = true := by kernel_rfl
theorem fc29_o0 : fieldOff Tryd.prog 29 0 = some 0 := by kernel_rfl
theorem fc29_f0 : fieldT Tryd.prog 29 0 = some (0, 1, false) := by kernel_rfl
theorem fc29_p0 : placeT Tryd.prog 29 0 = some (0, 1) := by kernel_rfl
theorem fc29_o1 : fieldOff Tryd.prog 29 1 = some 1 := by kernel_rfl
theorem fc29_f1 : fieldT Tryd.prog 29 1 = some (1, 1, false) := by kernel_rfl
theorem fc29_p1 : placeT Tryd.prog 29 1 = some (1, 1) := by kernel_rfl
theorem fc29_o2 : fieldOff Tryd.prog 29 2 = some 2 := by kernel_rfl
theorem fc29_f2 : fieldT Tryd.prog 29 2 = some (2, 1, false) := by kernel_rfl
theorem fc29_p2 : placeT Tryd.prog 29 2 = some (2, 1) := by kernel_rfl
theorem fc29_o3 : fieldOff Tryd.prog 29 3 = some 3 := by kernel_rfl
theorem fc29_f3 : fieldT Tryd.prog 29 3 = some (3, 1, false) := by kernel_rfl
theorem fc29_p3 : placeT Tryd.prog 29 3 = some (3, 1) := by kernel_rfl
theorem fc30_load : loadT Tryd.prog 30 = some (4, true) := by kernel_rfl
theorem fc30_size : tySize Tryd.prog 30 = some 4 := by kernel_rfl
theorem fc30_zero : zeroT Tryd.prog 30 = some [.int .i64 0, .int .i64 0, .int .i64 0, .bool false] := by kernel_rfl
theorem fc30_eq : eqT Tryd.prog 30 = some [(0, false), (1, false), (2, false), (3, true)] := by kernel_rfl
theorem fc30_all : allPlaces Tryd.prog 30 = true := by kernel_rfl
theorem fc30_o0 : fieldOff Tryd.prog 30 0 = some 0 := by kernel_rfl
theorem fc30_f0 : fieldT Tryd.prog 30 0 = some (0, 1, false) := by kernel_rfl
theorem fc30_p0 : placeT Tryd.prog 30 0 = some (0, 1) := by kernel_rfl
theorem fc30_o1 : fieldOff Tryd.prog 30 1 = some 1 := by kernel_rfl
theorem fc30_f1 : fieldT Tryd.prog 30 1 = some (1, 1, false) := by kernel_rfl
theorem fc30_p1 : placeT Tryd.prog 30 1 = some (1, 1) := by kernel_rfl
theorem fc30_o2 : fieldOff Tryd.prog 30 2 = some 2 := by kernel_rfl
theorem fc30_f2 : fieldT Tryd.prog 30 2 = some (2, 1, false) := by kernel_rfl
theorem fc30_p2 : placeT Tryd.prog 30 2 = some (2, 1) := by kernel_rfl
theorem fc30_o3 : fieldOff Tryd.prog 30 3 = some 3 := by kernel_rfl
theorem fc30_f3 : fieldT Tryd.prog 30 3 = some (3, 1, false) := by kernel_rfl
theorem fc30_p3 : placeT Tryd.prog 30 3 = some (3, 1) := by kernel_rfl
theorem fc31_load : loadT Tryd.prog 31 = some (1, false) := by kernel_rfl
theorem fc31_size : tySize Tryd.prog 31 = some 1 := by kernel_rfl
theorem fc31_zero : zeroT Tryd.prog 31 = some [.nilFunc] := by kernel_rfl
theorem fc32_load : loadT Tryd.prog 32 = some (4, true) := by kernel_rfl
theorem fc32_size : tySize Tryd.prog 32 = some 4 := by kernel_rfl
theorem fc32_zero : zeroT Tryd.prog 32 = some [.int .i64 0, .int .i64 0, .int .i64 0, .bool false] := by kernel_rfl
theorem fc32_eq : eqT Tryd.prog 32 = some [(0, false), (1, false), (2, false), (3, true)] := by kernel_rfl
theorem fc32_all : allPlaces Tryd.prog 32 = true := by kernel_rfl
theorem fc32_o0 : fieldOff Tryd.prog 32 0 = some 0 := by kernel_rfl
theorem fc32_f0 : fieldT Tryd.prog 32 0 = some (0, 1, false) := by kernel_rfl
theorem fc32_p0 : placeT Tryd.prog 32 0 = some (0, 1) := by kernel_rfl
theorem fc32_o1 : fieldOff Tryd.prog 32 1 = some 1 := by kernel_rfl
theorem fc32_f1 : fieldT Tryd.prog 32 1 = some (1, 1, false) := by kernel_rfl
theorem fc32_p1 : placeT Tryd.prog 32 1 = some (1, 1) := by kernel_rfl
theorem fc32_o2 : fieldOff Tryd.prog 32 2 = some 2 := by kernel_rfl
theorem fc32_f2 : fieldT Tryd.prog 32 2 = some (2, 1, false) := by kernel_rfl
theorem fc32_p2 : placeT Tryd.prog 32 2 = some (2, 1) := by kernel_rfl
theorem fc32_o3 : fieldOff Tryd.prog 32 3 = some 3 := by kernel_rfl
theorem fc32_f3 : fieldT Tryd.prog 32 3 = some (3, 1, false) := by kernel_rfl
theorem fc32_p3 : placeT Tryd.prog 32 3 = some (3, 1) := by kernel_rfl
theorem fc33_load : loadT Tryd.prog 33 = some (1, false) := by kernel_rfl
theorem fc33_size : tySize Tryd.prog 33 = some 1 := by kernel_rfl
theorem fc33_zero : zeroT Tryd.prog 33 = some [.nilFunc] := by kernel_rfl
theorem fc34_load : loadT Tryd.prog 34 = some (1, false) := by kernel_rfl
theorem fc34_size : tySize Tryd.prog 34 = some 1 := by kernel_rfl
theorem fc34_zero : zeroT Tryd.prog 34 = some [.nilFunc] := by kernel_rfl
theorem fc35_load : loadT Tryd.prog 35 = some (4, true) := by kernel_rfl
theorem fc35_size : tySize Tryd.prog 35 = some 4 := by kernel_rfl
theorem fc35_zero : zeroT Tryd.prog 35 = some [.int .i64 0, .int .i64 0, .int .i64 0, .int .i64 0] := by kernel_rfl
theorem fc35_eq : eqT Tryd.prog 35 = some [(0, false), (1, false), (2, false), (3, false)] := by kernel_rfl
theorem fc35_all : allPlaces Tryd.prog 35 = true := by kernel_rfl
theorem fc35_o0 : fieldOff Tryd.prog 35 0 = some 0 := by kernel_rfl
theorem fc35_f0 : fieldT Tryd.prog 35 0 = some (0, 1, false) := by kernel_rfl
theorem fc35_p0 : placeT Tryd.prog 35 0 = some (0, 1) := by kernel_rfl
theorem fc35_o1 : fieldOff Tryd.prog 35 1 = some 1 := by kernel_rfl
theorem fc35_f1 : fieldT Tryd.prog 35 1 = some (1, 1, false) := by kernel_rfl
theorem fc35_p1 : placeT Tryd.prog 35 1 = some (1, 1) := by kernel_rfl
theorem fc35_o2 : fieldOff Tryd.prog 35 2 = some 2 := by kernel_rfl
theorem fc35_f2 : fieldT Tryd.prog 35 2 = some (2, 1, false) := by kernel_rfl
theorem fc35_p2 : placeT Tryd.prog 35 2 = some (2, 1) := by kernel_rfl
theorem fc35_o3 : fieldOff Tryd.prog 35 3 = some 3 := by kernel_rfl
theorem fc35_f3 : fieldT Tryd.prog 35 3 = some (3, 1, false) := by kernel_rfl
theorem fc35_p3 : placeT Tryd.prog 35 3 = some (3, 1) := by kernel_rfl
theorem fc36_load : loadT Tryd.prog 36 = some (4, true) := by kernel_rfl
theorem fc36_size : tySize Tryd.prog 36 = some 4 := by kernel_rfl
theorem fc36_zero : zeroT Tryd.prog 36 = some [.int .i64 0, .int .i64 0, .int .i64 0, .int .i64 0] := by kernel_rfl
theorem fc36_eq : eqT Tryd.prog 36 = some [(0, false), (1, false), (2, false), (3, false)] := by kernel_rfl
theorem fc36_all : allPlaces Tryd.prog 36 = true := by kernel_rfl
theorem fc36_o0 : fieldOff Tryd.prog 36 0 = some 0 := by kernel_rfl
theorem fc36_f0 : fieldT Tryd.prog 36 0 = some (0, 1, false) := by kernel_rfl
theorem fc36_p0 : placeT Tryd.prog 36 0 = some (0, 1) := by kernel_rfl
theorem fc36_o1 : fieldOff Tryd.prog 36 1 = some 1 := by kernel_rfl
theorem fc36_f1 : fieldT Tryd.prog 36 1 = some (1, 1, false) := by kernel_rfl
theorem fc36_p1 : placeT Tryd.prog 36 1 = some (1, 1) := by kernel_rfl
theorem fc36_o2 : fieldOff Tryd.prog 36 2 = some 2 := by kernel_rfl
theorem fc36_f2 : fieldT Tryd.prog 36 2 = some (2, 1, false) := by kernel_rfl
theorem fc36_p2 : placeT Tryd.prog 36 2 = some (2, 1) := by kernel_rfl
theorem fc36_o3 : fieldOff Tryd.prog 36 3 = some 3 := by kernel_rfl
theorem fc36_f3 : fieldT Tryd.prog 36 3 = some (3, 1, false) := by kernel_rfl
theorem fc36_p3 : placeT Tryd.prog 36 3 = some (3, 1) := by kernel_rfl
theorem fc37_load : loadT Tryd.prog 37 = some (1, false) := by kernel_rfl
theorem fc37_size : tySize Tryd.prog 37 = some 1 := by kernel_rfl
theorem fc37_zero : zeroT Tryd.prog 37 = some [.nilFunc] := by kernel_rfl
theorem fc38_load : loadT Tryd.prog 38 = some (4, true) := by kernel_rfl
theorem fc38_size : tySize Tryd.prog 38 = some 4 := by kernel_rfl
theorem fc38_zero : zeroT Tryd.prog 38 = some [.int .i64 0, .int .i64 0, .int .i64 0, .int .i64 0] := by kernel_rfl
theorem fc38_eq : eqT Tryd.prog 38 = some [(0, false), (1, false), (2, false), (3, false)] := by kernel_rfl
theorem fc38_all : allPlaces Tryd.prog 38 = true := by kernel_rfl
theorem fc38_o0 : fieldOff Tryd.prog 38 0 = some 0 := by kernel_rfl
theorem fc38_f0 : fieldT Tryd.prog 38 0 = some (0, 1, false) := by kernel_rfl
theorem fc38_p0 : placeT Tryd.prog 38 0 = some (0, 1) := by kernel_rfl
theorem fc38_o1 : fieldOff Tryd.prog 38 1 = some 1 := by kernel_rfl
theorem fc38_f1 : fieldT Tryd.prog 38 1 = some (1, 1, false) := by kernel_rfl
theorem fc38_p1 : placeT Tryd.prog 38 1 = some (1, 1) := by kernel_rfl
theorem fc38_o2 : fieldOff Tryd.prog 38 2 = some 2 := by kernel_rfl
theorem fc38_f2 : fieldT Tryd.prog 38 2 = some (2, 1, false) := by kernel_rfl
theorem fc38_p2 : placeT Tryd.prog 38 2 = some (2, 1) := by kernel_rfl
theorem fc38_o3 : fieldOff Tryd.prog 38 3 = some 3 := by kernel_rfl
theorem fc38_f3 : fieldT Tryd.prog 38 3 = some (3, 1, false) := by kernel_rfl
theorem fc38_p3 : placeT Tryd.prog 38 3 = some (3, 1) := by kernel_rfl
theorem fc39_load : loadT Tryd.prog 39 = some (1, false) := by kernel_rfl
theorem fc39_size : tySize Tryd.prog 39 = some 1 := by kernel_rfl
theorem fc39_zero : zeroT Tryd.prog 39 = some [.nilFunc] := by kernel_rfl
theorem fc40_load : loadT Tryd.prog 40 = some (1, false) := by kernel_rfl
theorem fc40_size : tySize Tryd.prog 40 = some 1 := by kernel_rfl
theorem fc40_zero : zeroT Tryd.prog 40 = some [.nilFunc] := by kernel_rfl
theorem fc41_load : loadT Tryd.prog 41 = some (1, false) := by kernel_rfl
theorem fc41_size : tySize Tryd.prog 41 = some 1 := by kernel_rfl
theorem fc41_zero : zeroT Tryd.prog 41 = some [.nilFunc] := by kernel_rfl
theorem fc42_load : loadT Tryd.prog 42 = some (1, false) := by kernel_rfl
theorem fc42_size : tySize Tryd.prog 42 = some 1 := by kernel_rfl
theorem fc42_zero : zeroT Tryd.prog 42 = some [.nilFunc] := by kernel_rfl
theorem fc43_load : loadT Tryd.prog 43 = some (1, false) := by kernel_rfl
theorem fc43_size : tySize Tryd.prog 43 = some 1 := by kernel_rfl
theorem fc43_zero : zeroT Tryd.prog 43 = some [.nilFunc] := by kernel_rfl
theorem fc44_load : loadT Tryd.prog 44 = some (1, false) := by kernel_rfl
theorem fc44_size : tySize Tryd.prog 44 = some 1 := by kernel_rfl
theorem fc44_zero : zeroT Tryd.prog 44 = some [.nilFunc] := by kernel_rfl
theorem fc45_load : loadT Tryd.prog 45 = some (1, false) := by kernel_rfl
theorem fc45_size : tySize Tryd.prog 45 = some 1 := by kernel_rfl
theorem fc45_zero : zeroT Tryd.prog 45 = some [.nilFunc] := by kernel_rfl
theorem fc46_load : loadT Tryd.prog 46 = some (1, false) := by kernel_rfl
theorem fc46_size : tySize Tryd.prog 46 = some 1 := by kernel_rfl
theorem fc46_zero : zeroT Tryd.prog 46 = some [.nilFunc] := by kernel_rfl
theorem fc47_load : loadT Tryd.prog 47 = some (1, false) := by kernel_rfl
theorem fc47_size : tySize Tryd.prog 47 = some 1 := by kernel_rfl
theorem fc47_zero : zeroT Tryd.prog 47 = some [.nilFunc] := by kernel_rfl
theorem fc48_load : loadT Tryd.prog 48 = some (1, false) := by kernel_rfl
theorem fc48_size : tySize Tryd.prog 48 = some 1 := by kernel_rfl
theorem fc48_zero : zeroT Tryd.prog 48 = some [.nilFunc] := by kernel_rfl
theorem fc49_load : loadT Tryd.prog 49 = some (1, false) := by kernel_rfl
theorem fc49_size : tySize Tryd.prog 49 = some 1 := by kernel_rfl
theorem fc49_zero : zeroT Tryd.prog 49 = some [.nilFunc] := by kernel_rfl
theorem fc50_load : loadT Tryd.prog 50 = some (1, false) := by kernel_rfl
theorem fc50_size : tySize Tryd.prog 50 = some 1 := by kernel_rfl
theorem fc50_zero : zeroT Tryd.prog 50 = some [.nilFunc] := by kernel_rfl
theorem fc51_load : loadT Tryd.prog 51 = some (1, false) := by kernel_rfl
theorem fc51_size : tySize Tryd.prog 51 = some 1 := by kernel_rfl
theorem fc51_zero : zeroT Tryd.prog 51 = some [.slice none 0 0] := by kernel_rfl
theorem fc51_sl : sliceT Tryd.prog 51 = some (9, 1) := by kernel_rfl
theorem fc51_arr : arrT Tryd.prog 51 = none := by kernel_rfl
theorem fc51_app : appT Tryd.prog 51 = some (9, 1, 16) := by kernel_rfl
theorem fc51_z1 : zeroNT Tryd.prog 51 = some (9, [.string ⟨#[]⟩], 16) := by kernel_rfl
theorem fc51_clear : clearT Tryd.prog 51 = some [.string ⟨#[]⟩] := by kernel_rfl
theorem fc51_byt : bytesT Tryd.prog 51 = false := by kernel_rfl
theorem fc52_load : loadT Tryd.prog 52 = some (3, true) := by kernel_rfl
theorem fc52_size : tySize Tryd.prog 52 = some 3 := by kernel_rfl
theorem fc52_zero : zeroT Tryd.prog 52 = some [.string ⟨#[]⟩, .string ⟨#[]⟩, .string ⟨#[]⟩] := by kernel_rfl
theorem fc52_arr : arrT Tryd.prog 52 = some (3, 1, false) := by kernel_rfl
theorem fc52_sl : sliceT Tryd.prog 52 = none := by kernel_rfl
theorem fc52_all : allPlaces Tryd.prog 52 = true := by kernel_rfl
theorem fc52_p0 : placeT Tryd.prog 52 0 = some (0, 1) := by kernel_rfl
theorem fc52_p1 : placeT Tryd.prog 52 1 = some (1, 1) := by kernel_rfl
theorem fc52_p2 : placeT Tryd.prog 52 2 = some (2, 1) := by kernel_rfl
theorem fc53_load : loadT Tryd.prog 53 = some (1, false) := by kernel_rfl
theorem fc53_size : tySize Tryd.prog 53 = some 1 := by kernel_rfl
theorem fc53_zero : zeroT Tryd.prog 53 = some [.slice none 0 0] := by kernel_rfl
theorem fc53_sl : sliceT Tryd.prog 53 = some (5, 1) := by kernel_rfl
theorem fc53_arr : arrT Tryd.prog 53 = none := by kernel_rfl
theorem fc53_app : appT Tryd.prog 53 = some (5, 1, 1) := by kernel_rfl
theorem fc53_z1 : zeroNT Tryd.prog 53 = some (5, [.int .u8 0], 1) := by kernel_rfl
theorem fc53_clear : clearT Tryd.prog 53 = some [.int .u8 0] := by kernel_rfl
theorem fc53_byt : bytesT Tryd.prog 53 = true := by kernel_rfl
theorem fc54_load : loadT Tryd.prog 54 = some (1, false) := by kernel_rfl
theorem fc54_size : tySize Tryd.prog 54 = some 1 := by kernel_rfl
theorem fc54_zero : zeroT Tryd.prog 54 = some [.nilFunc] := by kernel_rfl
theorem fc55_load : loadT Tryd.prog 55 = some (24, true) := by kernel_rfl
theorem fc55_size : tySize Tryd.prog 55 = some 24 := by kernel_rfl
theorem fc55_zero : zeroT Tryd.prog 55 = some [.int .u8 0, .int .u8 0, .int .u8 0, .int .u8 0, .int .u8 0, .int .u8 0, .int .u8 0, .int .u8 0, .int .u8 0, .int .u8 0, .int .u8 0, .int .u8 0, .int .u8 0, .int .u8 0, .int .u8 0, .int .u8 0, .int .u8 0, .int .u8 0, .int .u8 0, .int .u8 0, .int .u8 0, .int .u8 0, .int .u8 0, .int .u8 0] := by kernel_rfl
theorem fc55_arr : arrT Tryd.prog 55 = some (24, 1, false) := by kernel_rfl
theorem fc55_sl : sliceT Tryd.prog 55 = none := by kernel_rfl
theorem fc55_all : allPlaces Tryd.prog 55 = true := by kernel_rfl
theorem fc56_load : loadT Tryd.prog 56 = some (1, false) := by kernel_rfl
theorem fc56_size : tySize Tryd.prog 56 = some 1 := by kernel_rfl
theorem fc56_int : intT Tryd.prog 56 = some .u64 := by kernel_rfl
theorem fc56_isb : isBoolT Tryd.prog 56 = false := by kernel_rfl
theorem fc56_u : Tryd.prog.underlying 56 = some (.int .u64) := by kernel_rfl
theorem fc56_zero : zeroT Tryd.prog 56 = some [.int .u64 0] := by kernel_rfl
theorem fc57_load : loadT Tryd.prog 57 = some (1, false) := by kernel_rfl
theorem fc57_size : tySize Tryd.prog 57 = some 1 := by kernel_rfl
theorem fc57_zero : zeroT Tryd.prog 57 = some [.nilFunc] := by kernel_rfl
theorem fc58_load : loadT Tryd.prog 58 = some (1, false) := by kernel_rfl
theorem fc58_size : tySize Tryd.prog 58 = some 1 := by kernel_rfl
theorem fc58_zero : zeroT Tryd.prog 58 = some [.nilFunc] := by kernel_rfl
theorem fc60_load : loadT Tryd.prog 60 = some (1, false) := by kernel_rfl
theorem fc60_size : tySize Tryd.prog 60 = some 1 := by kernel_rfl
theorem fc60_zero : zeroT Tryd.prog 60 = some [.nilFunc] := by kernel_rfl
theorem fc61_load : loadT Tryd.prog 61 = some (1, false) := by kernel_rfl
theorem fc61_size : tySize Tryd.prog 61 = some 1 := by kernel_rfl
theorem fc61_zero : zeroT Tryd.prog 61 = some [.nilFunc] := by kernel_rfl
theorem fc62_load : loadT Tryd.prog 62 = some (1, false) := by kernel_rfl
theorem fc62_size : tySize Tryd.prog 62 = some 1 := by kernel_rfl
theorem fc62_zero : zeroT Tryd.prog 62 = some [.nilFunc] := by kernel_rfl
theorem fc63_load : loadT Tryd.prog 63 = some (20, true) := by kernel_rfl
theorem fc63_size : tySize Tryd.prog 63 = some 20 := by kernel_rfl
theorem fc63_zero : zeroT Tryd.prog 63 = some [.int .u64 0, .int .u64 0, .int .u64 0, .int .u64 0, .int .u64 0, .int .u64 0, .int .u64 0, .int .u64 0, .int .u64 0, .int .u64 0, .int .u64 0, .int .u64 0, .int .u64 0, .int .u64 0, .int .u64 0, .int .u64 0, .int .u64 0, .int .u64 0, .int .u64 0, .int .u64 0] := by kernel_rfl
theorem fc63_arr : arrT Tryd.prog 63 = some (20, 1, false) := by kernel_rfl
theorem fc63_sl : sliceT Tryd.prog 63 = none := by kernel_rfl
theorem fc63_all : allPlaces Tryd.prog 63 = true := by kernel_rfl
theorem fc64_load : loadT Tryd.prog 64 = some (1, false) := by kernel_rfl
theorem fc64_size : tySize Tryd.prog 64 = some 1 := by kernel_rfl
theorem fc64_int : intT Tryd.prog 64 = some .u32 := by kernel_rfl
theorem fc64_isb : isBoolT Tryd.prog 64 = false := by kernel_rfl
theorem fc64_u : Tryd.prog.underlying 64 = some (.int .u32) := by kernel_rfl
theorem fc64_zero : zeroT Tryd.prog 64 = some [.int .u32 0] := by kernel_rfl
theorem fc65_load : loadT Tryd.prog 65 = some (65, true) := by kernel_rfl
theorem fc65_size : tySize Tryd.prog 65 = some 65 := by kernel_rfl
theorem fc65_arr : arrT Tryd.prog 65 = some (65, 1, false) := by kernel_rfl
theorem fc65_sl : sliceT Tryd.prog 65 = none := by kernel_rfl
theorem fc65_all : allPlaces Tryd.prog 65 = true := by kernel_rfl
theorem fc66_load : loadT Tryd.prog 66 = some (1, false) := by kernel_rfl
theorem fc66_size : tySize Tryd.prog 66 = some 1 := by kernel_rfl
theorem fc66_int : intT Tryd.prog 66 = some .u64 := by kernel_rfl
theorem fc66_isb : isBoolT Tryd.prog 66 = false := by kernel_rfl
theorem fc66_u : Tryd.prog.underlying 66 = some (.int .u64) := by kernel_rfl
theorem fc66_zero : zeroT Tryd.prog 66 = some [.int .u64 0] := by kernel_rfl
theorem fc67_load : loadT Tryd.prog 67 = some (1, false) := by kernel_rfl
theorem fc67_size : tySize Tryd.prog 67 = some 1 := by kernel_rfl
theorem fc67_zero : zeroT Tryd.prog 67 = some [.nilFunc] := by kernel_rfl
theorem fc68_load : loadT Tryd.prog 68 = some (1, false) := by kernel_rfl
theorem fc68_size : tySize Tryd.prog 68 = some 1 := by kernel_rfl
theorem fc68_zero : zeroT Tryd.prog 68 = some [.nilFunc] := by kernel_rfl
theorem fc69_load : loadT Tryd.prog 69 = some (32, true) := by kernel_rfl
theorem fc69_size : tySize Tryd.prog 69 = some 32 := by kernel_rfl
theorem fc69_zero : zeroT Tryd.prog 69 = some [.int .u8 0, .int .u8 0, .int .u8 0, .int .u8 0, .int .u8 0, .int .u8 0, .int .u8 0, .int .u8 0, .int .u8 0, .int .u8 0, .int .u8 0, .int .u8 0, .int .u8 0, .int .u8 0, .int .u8 0, .int .u8 0, .int .u8 0, .int .u8 0, .int .u8 0, .int .u8 0, .int .u8 0, .int .u8 0, .int .u8 0, .int .u8 0, .int .u8 0, .int .u8 0, .int .u8 0, .int .u8 0, .int .u8 0, .int .u8 0, .int .u8 0, .int .u8 0] := by kernel_rfl
theorem fc69_arr : arrT Tryd.prog 69 = some (32, 1, false) := by kernel_rfl
theorem fc69_sl : sliceT Tryd.prog 69 = none := by kernel_rfl
theorem fc69_all : allPlaces Tryd.prog 69 = true := by kernel_rfl
theorem fc70_load : loadT Tryd.prog 70 = some (64, true) := by kernel_rfl
theorem fc70_size : tySize Tryd.prog 70 = some 64 := by kernel_rfl
theorem fc70_arr : arrT Tryd.prog 70 = some (64, 1, false) := by kernel_rfl
theorem fc70_sl : sliceT Tryd.prog 70 = none := by kernel_rfl
theorem fc70_all : allPlaces Tryd.prog 70 = true := by kernel_rfl
theorem fc71_load : loadT Tryd.prog 71 = some (1, false) := by kernel_rfl
theorem fc71_size : tySize Tryd.prog 71 = some 1 := by kernel_rfl
theorem fc71_zero : zeroT Tryd.prog 71 = some [.nilFunc] := by kernel_rfl
theorem fc72_load : loadT Tryd.prog 72 = some (4, true) := by kernel_rfl
theorem fc72_size : tySize Tryd.prog 72 = some 4 := by kernel_rfl
theorem fc72_zero : zeroT Tryd.prog 72 = some [.pointer none, .pointer none, .pointer none, .string ⟨#[]⟩] := by kernel_rfl
theorem fc72_all : allPlaces Tryd.prog 72 = true := by kernel_rfl
theorem fc72_o0 : fieldOff Tryd.prog 72 0 = some 0 := by kernel_rfl
theorem fc72_f0 : fieldT Tryd.prog 72 0 = some (0, 1, false) := by kernel_rfl
theorem fc72_p0 : placeT Tryd.prog 72 0 = some (0, 1) := by kernel_rfl
theorem fc72_o1 : fieldOff Tryd.prog 72 1 = some 1 := by kernel_rfl
theorem fc72_f1 : fieldT Tryd.prog 72 1 = some (1, 1, false) := by kernel_rfl
theorem fc72_p1 : placeT Tryd.prog 72 1 = some (1, 1) := by kernel_rfl
theorem fc72_o2 : fieldOff Tryd.prog 72 2 = some 2 := by kernel_rfl
theorem fc72_f2 : fieldT Tryd.prog 72 2 = some (2, 1, false) := by kernel_rfl
theorem fc72_p2 : placeT Tryd.prog 72 2 = some (2, 1) := by kernel_rfl
theorem fc72_o3 : fieldOff Tryd.prog 72 3 = some 3 := by kernel_rfl
theorem fc72_f3 : fieldT Tryd.prog 72 3 = some (3, 1, false) := by kernel_rfl
theorem fc72_p3 : placeT Tryd.prog 72 3 = some (3, 1) := by kernel_rfl
theorem fc73_load : loadT Tryd.prog 73 = some (4, true) := by kernel_rfl
theorem fc73_size : tySize Tryd.prog 73 = some 4 := by kernel_rfl
theorem fc73_zero : zeroT Tryd.prog 73 = some [.pointer none, .pointer none, .pointer none, .string ⟨#[]⟩] := by kernel_rfl
theorem fc73_all : allPlaces Tryd.prog 73 = true := by kernel_rfl
theorem fc73_o0 : fieldOff Tryd.prog 73 0 = some 0 := by kernel_rfl
theorem fc73_f0 : fieldT Tryd.prog 73 0 = some (0, 1, false) := by kernel_rfl
theorem fc73_p0 : placeT Tryd.prog 73 0 = some (0, 1) := by kernel_rfl
theorem fc73_o1 : fieldOff Tryd.prog 73 1 = some 1 := by kernel_rfl
theorem fc73_f1 : fieldT Tryd.prog 73 1 = some (1, 1, false) := by kernel_rfl
theorem fc73_p1 : placeT Tryd.prog 73 1 = some (1, 1) := by kernel_rfl
theorem fc73_o2 : fieldOff Tryd.prog 73 2 = some 2 := by kernel_rfl
theorem fc73_f2 : fieldT Tryd.prog 73 2 = some (2, 1, false) := by kernel_rfl
theorem fc73_p2 : placeT Tryd.prog 73 2 = some (2, 1) := by kernel_rfl
theorem fc73_o3 : fieldOff Tryd.prog 73 3 = some 3 := by kernel_rfl
theorem fc73_f3 : fieldT Tryd.prog 73 3 = some (3, 1, false) := by kernel_rfl
theorem fc73_p3 : placeT Tryd.prog 73 3 = some (3, 1) := by kernel_rfl
theorem fc74_load : loadT Tryd.prog 74 = some (0, true) := by kernel_rfl
theorem fc74_size : tySize Tryd.prog 74 = some 0 := by kernel_rfl
theorem fc74_zero : zeroT Tryd.prog 74 = some [] := by kernel_rfl
theorem fc74_arr : arrT Tryd.prog 74 = some (0, 1, false) := by kernel_rfl
theorem fc74_sl : sliceT Tryd.prog 74 = none := by kernel_rfl
theorem fc74_all : allPlaces Tryd.prog 74 = true := by kernel_rfl
theorem fc75_load : loadT Tryd.prog 75 = some (0, true) := by kernel_rfl
theorem fc75_size : tySize Tryd.prog 75 = some 0 := by kernel_rfl
theorem fc75_zero : zeroT Tryd.prog 75 = some [] := by kernel_rfl
theorem fc75_all : allPlaces Tryd.prog 75 = true := by kernel_rfl
theorem fc75_f0 : fieldT Tryd.prog 75 0 = some (0, 0, true) := by kernel_rfl
theorem fc75_p0 : placeT Tryd.prog 75 0 = some (0, 0) := by kernel_rfl
theorem fc76_load : loadT Tryd.prog 76 = some (0, true) := by kernel_rfl
theorem fc76_size : tySize Tryd.prog 76 = some 0 := by kernel_rfl
theorem fc76_zero : zeroT Tryd.prog 76 = some [] := by kernel_rfl
theorem fc76_all : allPlaces Tryd.prog 76 = true := by kernel_rfl
theorem fc76_f0 : fieldT Tryd.prog 76 0 = some (0, 0, true) := by kernel_rfl
theorem fc76_p0 : placeT Tryd.prog 76 0 = some (0, 0) := by kernel_rfl
theorem fc77_load : loadT Tryd.prog 77 = some (1, false) := by kernel_rfl
theorem fc77_size : tySize Tryd.prog 77 = some 1 := by kernel_rfl
theorem fc77_zero : zeroT Tryd.prog 77 = some [.nilFunc] := by kernel_rfl
theorem fc78_load : loadT Tryd.prog 78 = some (1, false) := by kernel_rfl
theorem fc78_size : tySize Tryd.prog 78 = some 1 := by kernel_rfl
theorem fc78_int : intT Tryd.prog 78 = some .u8 := by kernel_rfl
theorem fc78_isb : isBoolT Tryd.prog 78 = false := by kernel_rfl
theorem fc78_u : Tryd.prog.underlying 78 = some (.int .u8) := by kernel_rfl
theorem fc78_zero : zeroT Tryd.prog 78 = some [.int .u8 0] := by kernel_rfl
theorem fc79_load : loadT Tryd.prog 79 = some (1, false) := by kernel_rfl
theorem fc79_size : tySize Tryd.prog 79 = some 1 := by kernel_rfl
theorem fc79_int : intT Tryd.prog 79 = some .u8 := by kernel_rfl
theorem fc79_isb : isBoolT Tryd.prog 79 = false := by kernel_rfl
theorem fc79_u : Tryd.prog.underlying 79 = some (.int .u8) := by kernel_rfl
theorem fc79_zero : zeroT Tryd.prog 79 = some [.int .u8 0] := by kernel_rfl
theorem fc80_load : loadT Tryd.prog 80 = some (1, false) := by kernel_rfl
theorem fc80_size : tySize Tryd.prog 80 = some 1 := by kernel_rfl
theorem fc80_zero : zeroT Tryd.prog 80 = some [.nilFunc] := by kernel_rfl
theorem fc81_load : loadT Tryd.prog 81 = some (1, false) := by kernel_rfl
theorem fc81_size : tySize Tryd.prog 81 = some 1 := by kernel_rfl
theorem fc81_zero : zeroT Tryd.prog 81 = some [.pointer none] := by kernel_rfl
theorem fc81_sl : sliceT Tryd.prog 81 = none := by kernel_rfl
theorem fc82_load : loadT Tryd.prog 82 = some (1, false) := by kernel_rfl
theorem fc82_size : tySize Tryd.prog 82 = some 1 := by kernel_rfl
theorem fc82_int : intT Tryd.prog 82 = some .i32 := by kernel_rfl
theorem fc82_isb : isBoolT Tryd.prog 82 = false := by kernel_rfl
theorem fc82_u : Tryd.prog.underlying 82 = some (.int .i32) := by kernel_rfl
theorem fc82_zero : zeroT Tryd.prog 82 = some [.int .i32 0] := by kernel_rfl
theorem fc83_load : loadT Tryd.prog 83 = some (1, false) := by kernel_rfl
theorem fc83_size : tySize Tryd.prog 83 = some 1 := by kernel_rfl
theorem fc83_int : intT Tryd.prog 83 = some .i32 := by kernel_rfl
theorem fc83_isb : isBoolT Tryd.prog 83 = false := by kernel_rfl
theorem fc83_u : Tryd.prog.underlying 83 = some (.int .i32) := by kernel_rfl
theorem fc83_zero : zeroT Tryd.prog 83 = some [.int .i32 0] := by kernel_rfl
theorem fc84_load : loadT Tryd.prog 84 = some (11, true) := by kernel_rfl
theorem fc84_size : tySize Tryd.prog 84 = some 11 := by kernel_rfl
theorem fc84_zero : zeroT Tryd.prog 84 = some [.int .u64 0, .int .u64 0, .int .u32 0, .int .u8 0, .int .u8 0, .int .u8 0, .int .u8 0, .nilFunc, .pointer none, .int .i32 0, .int .i32 0] := by kernel_rfl
theorem fc84_all : allPlaces Tryd.prog 84 = true := by kernel_rfl
theorem fc84_o0 : fieldOff Tryd.prog 84 0 = some 0 := by kernel_rfl
theorem fc84_f0 : fieldT Tryd.prog 84 0 = some (0, 1, false) := by kernel_rfl
theorem fc84_p0 : placeT Tryd.prog 84 0 = some (0, 1) := by kernel_rfl
theorem fc84_o1 : fieldOff Tryd.prog 84 1 = some 1 := by kernel_rfl
theorem fc84_f1 : fieldT Tryd.prog 84 1 = some (1, 1, false) := by kernel_rfl
theorem fc84_p1 : placeT Tryd.prog 84 1 = some (1, 1) := by kernel_rfl
theorem fc84_o2 : fieldOff Tryd.prog 84 2 = some 2 := by kernel_rfl
theorem fc84_f2 : fieldT Tryd.prog 84 2 = some (2, 1, false) := by kernel_rfl
theorem fc84_p2 : placeT Tryd.prog 84 2 = some (2, 1) := by kernel_rfl
theorem fc84_o3 : fieldOff Tryd.prog 84 3 = some 3 := by kernel_rfl
theorem fc84_f3 : fieldT Tryd.prog 84 3 = some (3, 1, false) := by kernel_rfl
theorem fc84_p3 : placeT Tryd.prog 84 3 = some (3, 1) := by kernel_rfl
theorem fc84_o4 : fieldOff Tryd.prog 84 4 = some 4 := by kernel_rfl
theorem fc84_f4 : fieldT Tryd.prog 84 4 = some (4, 1, false) := by kernel_rfl
theorem fc84_p4 : placeT Tryd.prog 84 4 = some (4, 1) := by kernel_rfl
theorem fc84_o5 : fieldOff Tryd.prog 84 5 = some 5 := by kernel_rfl
theorem fc84_f5 : fieldT Tryd.prog 84 5 = some (5, 1, false) := by kernel_rfl
theorem fc84_p5 : placeT Tryd.prog 84 5 = some (5, 1) := by kernel_rfl
theorem fc84_o6 : fieldOff Tryd.prog 84 6 = some 6 := by kernel_rfl
theorem fc84_f6 : fieldT Tryd.prog 84 6 = some (6, 1, false) := by kernel_rfl
theorem fc84_p6 : placeT Tryd.prog 84 6 = some (6, 1) := by kernel_rfl
theorem fc84_o7 : fieldOff Tryd.prog 84 7 = some 7 := by kernel_rfl
theorem fc84_f7 : fieldT Tryd.prog 84 7 = some (7, 1, false) := by kernel_rfl
theorem fc84_p7 : placeT Tryd.prog 84 7 = some (7, 1) := by kernel_rfl
theorem fc84_o8 : fieldOff Tryd.prog 84 8 = some 8 := by kernel_rfl
theorem fc84_f8 : fieldT Tryd.prog 84 8 = some (8, 1, false) := by kernel_rfl
theorem fc84_p8 : placeT Tryd.prog 84 8 = some (8, 1) := by kernel_rfl
theorem fc84_o9 : fieldOff Tryd.prog 84 9 = some 9 := by kernel_rfl
theorem fc84_f9 : fieldT Tryd.prog 84 9 = some (9, 1, false) := by kernel_rfl
theorem fc84_p9 : placeT Tryd.prog 84 9 = some (9, 1) := by kernel_rfl
theorem fc84_o10 : fieldOff Tryd.prog 84 10 = some 10 := by kernel_rfl
theorem fc84_f10 : fieldT Tryd.prog 84 10 = some (10, 1, false) := by kernel_rfl
theorem fc84_p10 : placeT Tryd.prog 84 10 = some (10, 1) := by kernel_rfl
theorem fc85_load : loadT Tryd.prog 85 = some (11, true) := by kernel_rfl
theorem fc85_size : tySize Tryd.prog 85 = some 11 := by kernel_rfl
theorem fc85_zero : zeroT Tryd.prog 85 = some [.int .u64 0, .int .u64 0, .int .u32 0, .int .u8 0, .int .u8 0, .int .u8 0, .int .u8 0, .nilFunc, .pointer none, .int .i32 0, .int .i32 0] := by kernel_rfl
theorem fc85_all : allPlaces Tryd.prog 85 = true := by kernel_rfl
theorem fc85_o0 : fieldOff Tryd.prog 85 0 = some 0 := by kernel_rfl
theorem fc85_f0 : fieldT Tryd.prog 85 0 = some (0, 1, false) := by kernel_rfl
theorem fc85_p0 : placeT Tryd.prog 85 0 = some (0, 1) := by kernel_rfl
theorem fc85_o1 : fieldOff Tryd.prog 85 1 = some 1 := by kernel_rfl
theorem fc85_f1 : fieldT Tryd.prog 85 1 = some (1, 1, false) := by kernel_rfl
theorem fc85_p1 : placeT Tryd.prog 85 1 = some (1, 1) := by kernel_rfl
theorem fc85_o2 : fieldOff Tryd.prog 85 2 = some 2 := by kernel_rfl
theorem fc85_f2 : fieldT Tryd.prog 85 2 = some (2, 1, false) := by kernel_rfl
theorem fc85_p2 : placeT Tryd.prog 85 2 = some (2, 1) := by kernel_rfl
theorem fc85_o3 : fieldOff Tryd.prog 85 3 = some 3 := by kernel_rfl
theorem fc85_f3 : fieldT Tryd.prog 85 3 = some (3, 1, false) := by kernel_rfl
theorem fc85_p3 : placeT Tryd.prog 85 3 = some (3, 1) := by kernel_rfl
theorem fc85_o4 : fieldOff Tryd.prog 85 4 = some 4 := by kernel_rfl
theorem fc85_f4 : fieldT Tryd.prog 85 4 = some (4, 1, false) := by kernel_rfl
theorem fc85_p4 : placeT Tryd.prog 85 4 = some (4, 1) := by kernel_rfl
theorem fc85_o5 : fieldOff Tryd.prog 85 5 = some 5 := by kernel_rfl
theorem fc85_f5 : fieldT Tryd.prog 85 5 = some (5, 1, false) := by kernel_rfl
theorem fc85_p5 : placeT Tryd.prog 85 5 = some (5, 1) := by kernel_rfl
theorem fc85_o6 : fieldOff Tryd.prog 85 6 = some 6 := by kernel_rfl
theorem fc85_f6 : fieldT Tryd.prog 85 6 = some (6, 1, false) := by kernel_rfl
theorem fc85_p6 : placeT Tryd.prog 85 6 = some (6, 1) := by kernel_rfl
theorem fc85_o7 : fieldOff Tryd.prog 85 7 = some 7 := by kernel_rfl
theorem fc85_f7 : fieldT Tryd.prog 85 7 = some (7, 1, false) := by kernel_rfl
theorem fc85_p7 : placeT Tryd.prog 85 7 = some (7, 1) := by kernel_rfl
theorem fc85_o8 : fieldOff Tryd.prog 85 8 = some 8 := by kernel_rfl
theorem fc85_f8 : fieldT Tryd.prog 85 8 = some (8, 1, false) := by kernel_rfl
theorem fc85_p8 : placeT Tryd.prog 85 8 = some (8, 1) := by kernel_rfl
theorem fc85_o9 : fieldOff Tryd.prog 85 9 = some 9 := by kernel_rfl
theorem fc85_f9 : fieldT Tryd.prog 85 9 = some (9, 1, false) := by kernel_rfl
theorem fc85_p9 : placeT Tryd.prog 85 9 = some (9, 1) := by kernel_rfl
theorem fc85_o10 : fieldOff Tryd.prog 85 10 = some 10 := by kernel_rfl
theorem fc85_f10 : fieldT Tryd.prog 85 10 = some (10, 1, false) := by kernel_rfl
theorem fc85_p10 : placeT Tryd.prog 85 10 = some (10, 1) := by kernel_rfl
attribute [go_sem] fc1_load fc1_size fc1_zero fc2_load fc2_size fc2_int fc2_isb fc2_u fc2_zero fc3_load fc3_size fc3_int fc3_isb fc3_u fc3_zero fc4_load fc4_size fc4_isb fc4_zero fc5_load fc5_size fc5_int fc5_isb fc5_u fc5_zero fc6_load fc6_size fc6_int fc6_isb fc6_u fc6_zero fc7_load fc7_size fc7_zero fc7_eq fc7_all fc7_o0 fc7_f0 fc7_p0 fc7_o1 fc7_f1 fc7_p1 fc7_o2 fc7_f2 fc7_p2 fc7_o3 fc7_f3 fc7_p3 fc8_load fc8_size fc8_zero fc8_eq fc8_all fc8_o0 fc8_f0 fc8_p0 fc8_o1 fc8_f1 fc8_p1 fc8_o2 fc8_f2 fc8_p2 fc8_o3 fc8_f3 fc8_p3 fc9_load fc9_size fc9_iss fc9_zero fc10_load fc10_size fc10_iss fc10_zero fc11_load fc11_size fc11_iss fc11_zero fc12_load fc12_size fc12_int fc12_isb fc12_u fc12_zero fc13_load fc13_size fc13_zero fc13_all fc13_o0 fc13_f0 fc13_p0 fc13_o1 fc13_f1 fc13_p1 fc14_load fc14_size fc14_zero fc14_all fc14_o0 fc14_f0 fc14_p0 fc14_o1 fc14_f1 fc14_p1 fc15_load fc15_size fc15_zero fc15_sl fc16_load fc16_size fc16_zero fc16_sl fc17_load fc17_size fc17_zero fc17_sl fc18_load fc18_size fc18_zero fc18_all fc18_o0 fc18_f0 fc18_p0 fc19_load fc19_size fc19_zero fc19_all fc19_o0 fc19_f0 fc19_p0 fc21_load fc21_size fc21_int fc21_isb fc21_u fc21_zero fc22_load fc22_size fc22_zero fc22_eq fc22_all fc22_o0 fc22_f0 fc22_p0 fc22_o1 fc22_f1 fc22_p1 fc23_load fc23_size fc23_zero fc23_eq fc23_all fc23_o0 fc23_f0 fc23_p0 fc23_o1 fc23_f1 fc23_p1 fc25_load fc25_size fc25_zero fc26_load fc26_size fc26_zero fc26_eq fc26_all fc26_o0 fc26_f0 fc26_p0 fc26_o1 fc26_f1 fc26_p1 fc27_load fc27_size fc27_zero fc28_load fc28_size fc28_zero fc29_load fc29_size fc29_zero fc29_eq fc29_all fc29_o0 fc29_f0 fc29_p0 fc29_o1 fc29_f1 fc29_p1 fc29_o2 fc29_f2 fc29_p2 fc29_o3 fc29_f3 fc29_p3 fc30_load fc30_size fc30_zero fc30_eq fc30_all fc30_o0 fc30_f0 fc30_p0 fc30_o1 fc30_f1 fc30_p1 fc30_o2 fc30_f2 fc30_p2 fc30_o3 fc30_f3 fc30_p3 fc31_load fc31_size fc31_zero fc32_load fc32_size fc32_zero fc32_eq fc32_all fc32_o0 fc32_f0 fc32_p0 fc32_o1 fc32_f1 fc32_p1 fc32_o2 fc32_f2 fc32_p2 fc32_o3 fc32_f3 fc32_p3 fc33_load fc33_size fc33_zero fc34_load fc34_size fc34_zero fc35_load fc35_size fc35_zero fc35_eq fc35_all fc35_o0 fc35_f0 fc35_p0 fc35_o1 fc35_f1 fc35_p1 fc35_o2 fc35_f2 fc35_p2 fc35_o3 fc35_f3 fc35_p3 fc36_load fc36_size fc36_zero fc36_eq fc36_all fc36_o0 fc36_f0 fc36_p0 fc36_o1 fc36_f1 fc36_p1 fc36_o2 fc36_f2 fc36_p2 fc36_o3 fc36_f3 fc36_p3 fc37_load fc37_size fc37_zero fc38_load fc38_size fc38_zero fc38_eq fc38_all fc38_o0 fc38_f0 fc38_p0 fc38_o1 fc38_f1 fc38_p1 fc38_o2 fc38_f2 fc38_p2 fc38_o3 fc38_f3 fc38_p3 fc39_load fc39_size fc39_zero fc40_load fc40_size fc40_zero fc41_load fc41_size fc41_zero fc42_load fc42_size fc42_zero fc43_load fc43_size fc43_zero fc44_load fc44_size fc44_zero fc45_load fc45_size fc45_zero fc46_load fc46_size fc46_zero fc47_load fc47_size fc47_zero fc48_load fc48_size fc48_zero fc49_load fc49_size fc49_zero fc50_load fc50_size fc50_zero fc51_load fc51_size fc51_zero fc51_sl fc51_arr fc51_app fc51_z1 fc51_clear fc51_byt fc52_load fc52_size fc52_zero fc52_arr fc52_sl fc52_all fc52_p0 fc52_p1 fc52_p2 fc53_load fc53_size fc53_zero fc53_sl fc53_arr fc53_app fc53_z1 fc53_clear fc53_byt fc54_load fc54_size fc54_zero fc55_load fc55_size fc55_zero fc55_arr fc55_sl fc55_all fc56_load fc56_size fc56_int fc56_isb fc56_u fc56_zero fc57_load fc57_size fc57_zero fc58_load fc58_size fc58_zero fc60_load fc60_size fc60_zero fc61_load fc61_size fc61_zero fc62_load fc62_size fc62_zero fc63_load fc63_size fc63_zero fc63_arr fc63_sl fc63_all fc64_load fc64_size fc64_int fc64_isb fc64_u fc64_zero fc65_load fc65_size fc65_arr fc65_sl fc65_all fc66_load fc66_size fc66_int fc66_isb fc66_u fc66_zero fc67_load fc67_size fc67_zero fc68_load fc68_size fc68_zero fc69_load fc69_size fc69_zero fc69_arr fc69_sl fc69_all fc70_load fc70_size fc70_arr fc70_sl fc70_all fc71_load fc71_size fc71_zero fc72_load fc72_size fc72_zero fc72_all fc72_o0 fc72_f0 fc72_p0 fc72_o1 fc72_f1 fc72_p1 fc72_o2 fc72_f2 fc72_p2 fc72_o3 fc72_f3 fc72_p3 fc73_load fc73_size fc73_zero fc73_all fc73_o0 fc73_f0 fc73_p0 fc73_o1 fc73_f1 fc73_p1 fc73_o2 fc73_f2 fc73_p2 fc73_o3 fc73_f3 fc73_p3 fc74_load fc74_size fc74_zero fc74_arr fc74_sl fc74_all fc75_load fc75_size fc75_zero fc75_all fc75_f0 fc75_p0 fc76_load fc76_size fc76_zero fc76_all fc76_f0 fc76_p0 fc77_load fc77_size fc77_zero fc78_load fc78_size fc78_int fc78_isb fc78_u fc78_zero fc79_load fc79_size fc79_int fc79_isb fc79_u fc79_zero fc80_load fc80_size fc80_zero fc81_load fc81_size fc81_zero fc81_sl fc82_load fc82_size fc82_int fc82_isb fc82_u fc82_zero fc83_load fc83_size fc83_int fc83_isb fc83_u fc83_zero fc84_load fc84_size fc84_zero fc84_all fc84_o0 fc84_f0 fc84_p0 fc84_o1 fc84_f1 fc84_p1 fc84_o2 fc84_f2 fc84_p2 fc84_o3 fc84_f3 fc84_p3 fc84_o4 fc84_f4 fc84_p4 fc84_o5 fc84_f5 fc84_p5 fc84_o6 fc84_f6 fc84_p6 fc84_o7 fc84_f7 fc84_p7 fc84_o8 fc84_f8 fc84_p8 fc84_o9 fc84_f9 fc84_p9 fc84_o10 fc84_f10 fc84_p10 fc85_load fc85_size fc85_zero fc85_all fc85_o0 fc85_f0 fc85_p0 fc85_o1 fc85_f1 fc85_p1 fc85_o2 fc85_f2 fc85_p2 fc85_o3 fc85_f3 fc85_p3 fc85_o4 fc85_f4 fc85_p4 fc85_o5 fc85_f5 fc85_p5 fc85_o6 fc85_f6 fc85_p6 fc85_o7 fc85_f7 fc85_p7 fc85_o8 fc85_f8 fc85_p8 fc85_o9 fc85_f9 fc85_p9 fc85_o10 fc85_f10 fc85_p10
end Go.Proofs.YtbanhbalmpkjjaaDoor
