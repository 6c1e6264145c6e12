/- The text of an alarm. -/
import Derived.Test.YthnnbgggfpempaaDoorRules
import Derived.Test.YthnnbgggfpempaaDoorNum
import Derived.Test.YthnnbgggfpempaaDoorItoa
namespace Go.Proofs.YthnnbgggfpempaaDoor
open Go.Am Go.Lib
set_option linter.unusedVariables false
set_option linter.unusedSimpArgs false
set_option maxRecDepth 100000
theorem itoa_lenA {n : Int} (h0 : 0 ≤ n) (h1 : n ≤ 9223372036854775807) : (itoa n).length ≤ 19 := by
  rw [itoa, if_neg (by omega)]
  exact dec_len (by omega)
def kindT (k : Int) : List UInt8 := if k = 1 then [108, 111, 119] else [104, 105, 103, 104]
def alText (a : Al) : List UInt8 := kindT a.2.1 ++ 32 :: 97 :: 116 :: 32 :: (itoa a.1 ++ 32 :: 115 :: 105 :: 110 :: 99 :: 101 :: 32 :: (itoa a.2.2.1 ++ if a.2.2.2 = true then [32, 115, 101, 101, 110] else []))
theorem isAl_at {r : Al} (h : isAl r = true) : 1 ≤ r.1 ∧ r.1 ≤ 8 ∧ 1 ≤ r.2.1 ∧ r.2.1 ≤ 2 ∧ 0 ≤ r.2.2.1 ∧ r.2.2.1 ≤ 9999 := by
  simp only [isAl, inB, Bool.and_eq_true, decide_eq_true_eq] at h
  omega
theorem alarmText_A (r : Al) (h : isAl r = true) (H : Heap) : AFunC Tryd.prog 105 [.agg #[.int .i64 r.1, .int .i64 r.2.1, .int .i64 r.2.2.1, .bool r.2.2.2]] H (.string (bs (alText r))) H := by
  refine AFunC.of_body Tryd.func105 (by kernel_rfl) rfl (by kernel_rfl) (by simp [Tryd.ntmps105]) ?_
  obtain ⟨h0, h1, h2, h3, h4, h5⟩ := isAl_at h
  have l1 := itoa_lenA (n := r.1) (by omega) (by omega)
  have l2 := itoa_lenA (n := r.2.2.1) (by omega) (by omega)
  obtain ⟨x0, x1, x2, x3⟩ := r
  simp only at *
  have hk : x1 = 1 ∨ x1 = 2 := by omega
  have c0 : (⟨(itoa x0).toArray⟩ : ByteArray) = bs (itoa x0) := rfl
  have c2 : (⟨(itoa x2).toArray⟩ : ByteArray) = bs (itoa x2) := rfl
  rcases hk with rfl | rfl <;> cases x3
  all_goals
    simp -dsimp -implicitDefEqProofs (disch := omega) [go_sem, -List.getD_eq_getElem?_getD, ite_yes]
    refine ADraw.any _ (by kernel_rfl) (SubH.refl) ?_
    refine AAny.takes (fuel := 9) (by kernel_rfl) (by kernel_rfl) [1, 2, 5, 6, 10, 11] (by kernel_rfl) (by kernel_rfl) ?_
    simp -dsimp -implicitDefEqProofs (disch := omega) [go_sem, -List.getD_eq_getElem?_getD, ite_yes, l1, l2, c0, c2]
    refine AAny.two 8 0 7 (by kernel_rfl) (by kernel_rfl) (by kernel_rfl) ?_ ?_
    · simp -dsimp -implicitDefEqProofs (disch := omega) [go_sem, -List.getD_eq_getElem?_getD, ite_yes, l1, l2, c0, c2]
      first | refine AAt.of (by first | exact SubH.refl | exact SubH.app | exact SubH.both (by simp [subL])) ?_ | (refine ⟨?_, AAt.of (by first | exact SubH.refl | exact SubH.app | exact SubH.both (by simp [subL])) ?_⟩; · omega)
      refine AAny.takes (fuel := 6) (by kernel_rfl) (by kernel_rfl) [3, 4] (by kernel_rfl) (by kernel_rfl) ?_
      simp -dsimp -implicitDefEqProofs (disch := omega) [go_sem, -List.getD_eq_getElem?_getD, ite_yes, l1, l2, c0, c2]
      refine AAny.one 5 7 (by kernel_rfl) (by kernel_rfl) (by kernel_rfl) ?_
      simp -dsimp -implicitDefEqProofs (disch := omega) [go_sem, -List.getD_eq_getElem?_getD, ite_yes, l1, l2, c0, c2]
      refine ACall.of (itoa_A x0 (by omega) (by omega) _) ?_
      simp -dsimp -implicitDefEqProofs (disch := omega) [go_sem, -List.getD_eq_getElem?_getD, ite_yes, l1, l2, c0, c2]
      first | refine AAt.of (by first | exact SubH.refl | exact SubH.app | exact SubH.both (by simp [subL])) ?_ | (refine ⟨?_, AAt.of (by first | exact SubH.refl | exact SubH.app | exact SubH.both (by simp [subL])) ?_⟩; · omega)
      refine AAny.takes (fuel := 3) (by kernel_rfl) (by kernel_rfl) [8, 9] (by kernel_rfl) (by kernel_rfl) ?_
      simp -dsimp -implicitDefEqProofs (disch := omega) [go_sem, -List.getD_eq_getElem?_getD, ite_yes, l1, l2, c0, c2]
      refine AAny.one 2 12 (by kernel_rfl) (by kernel_rfl) (by kernel_rfl) ?_
      simp -dsimp -implicitDefEqProofs (disch := omega) [go_sem, -List.getD_eq_getElem?_getD, ite_yes, l1, l2, c0, c2]
      refine ACall.of (itoa_A x2 (by omega) (by omega) _) ?_
      simp -dsimp -implicitDefEqProofs (disch := omega) [go_sem, -List.getD_eq_getElem?_getD, ite_yes, l1, l2, c0, c2]
      first | refine AAt.of (by first | exact SubH.refl | exact SubH.app | exact SubH.both (by simp [subL])) ?_ | (refine ⟨?_, AAt.of (by first | exact SubH.refl | exact SubH.app | exact SubH.both (by simp [subL])) ?_⟩; · omega)
      refine AAny.takes (fuel := 0) (by kernel_rfl) (by kernel_rfl) [13, 14] (by kernel_rfl) (by kernel_rfl) ?_
      simp -dsimp -implicitDefEqProofs (disch := omega) [go_sem, -List.getD_eq_getElem?_getD, ite_yes, l1, l2, c0, c2]
      refine AAny.done (by kernel_rfl) ?_
      simp -dsimp -implicitDefEqProofs (disch := omega) [go_sem, -List.getD_eq_getElem?_getD, ite_yes, l1, l2, c0, c2]
      exact fin_flat rfl (by simp [alText, kindT])
    · simp -dsimp -implicitDefEqProofs (disch := omega) [go_sem, -List.getD_eq_getElem?_getD, ite_yes, l1, l2, c0, c2]
      refine ACall.of (itoa_A x0 (by omega) (by omega) _) ?_
      simp -dsimp -implicitDefEqProofs (disch := omega) [go_sem, -List.getD_eq_getElem?_getD, ite_yes, l1, l2, c0, c2]
      first | refine AAt.of (by first | exact SubH.refl | exact SubH.app | exact SubH.both (by simp [subL])) ?_ | (refine ⟨?_, AAt.of (by first | exact SubH.refl | exact SubH.app | exact SubH.both (by simp [subL])) ?_⟩; · omega)
      refine AAny.two 7 0 12 (by kernel_rfl) (by kernel_rfl) (by kernel_rfl) ?_ ?_
      · simp -dsimp -implicitDefEqProofs (disch := omega) [go_sem, -List.getD_eq_getElem?_getD, ite_yes, l1, l2, c0, c2]
        first | refine AAt.of (by first | exact SubH.refl | exact SubH.app | exact SubH.both (by simp [subL])) ?_ | (refine ⟨?_, AAt.of (by first | exact SubH.refl | exact SubH.app | exact SubH.both (by simp [subL])) ?_⟩; · omega)
        refine AAny.takes (fuel := 3) (by kernel_rfl) (by kernel_rfl) [3, 4, 8, 9] (by kernel_rfl) (by kernel_rfl) ?_
        simp -dsimp -implicitDefEqProofs (disch := omega) [go_sem, -List.getD_eq_getElem?_getD, ite_yes, l1, l2, c0, c2]
        refine AAny.one 2 12 (by kernel_rfl) (by kernel_rfl) (by kernel_rfl) ?_
        simp -dsimp -implicitDefEqProofs (disch := omega) [go_sem, -List.getD_eq_getElem?_getD, ite_yes, l1, l2, c0, c2]
        refine ACall.of (itoa_A x2 (by omega) (by omega) _) ?_
        simp -dsimp -implicitDefEqProofs (disch := omega) [go_sem, -List.getD_eq_getElem?_getD, ite_yes, l1, l2, c0, c2]
        first | refine AAt.of (by first | exact SubH.refl | exact SubH.app | exact SubH.both (by simp [subL])) ?_ | (refine ⟨?_, AAt.of (by first | exact SubH.refl | exact SubH.app | exact SubH.both (by simp [subL])) ?_⟩; · omega)
        refine AAny.takes (fuel := 0) (by kernel_rfl) (by kernel_rfl) [13, 14] (by kernel_rfl) (by kernel_rfl) ?_
        simp -dsimp -implicitDefEqProofs (disch := omega) [go_sem, -List.getD_eq_getElem?_getD, ite_yes, l1, l2, c0, c2]
        refine AAny.done (by kernel_rfl) ?_
        simp -dsimp -implicitDefEqProofs (disch := omega) [go_sem, -List.getD_eq_getElem?_getD, ite_yes, l1, l2, c0, c2]
        exact fin_flat rfl (by simp [alText, kindT])
      · simp -dsimp -implicitDefEqProofs (disch := omega) [go_sem, -List.getD_eq_getElem?_getD, ite_yes, l1, l2, c0, c2]
        refine ACall.of (itoa_A x2 (by omega) (by omega) _) ?_
        simp -dsimp -implicitDefEqProofs (disch := omega) [go_sem, -List.getD_eq_getElem?_getD, ite_yes, l1, l2, c0, c2]
        first | refine AAt.of (by first | exact SubH.refl | exact SubH.app | exact SubH.both (by simp [subL])) ?_ | (refine ⟨?_, AAt.of (by first | exact SubH.refl | exact SubH.app | exact SubH.both (by simp [subL])) ?_⟩; · omega)
        refine AAny.one 6 0 (by kernel_rfl) (by kernel_rfl) (by kernel_rfl) ?_
        simp -dsimp -implicitDefEqProofs (disch := omega) [go_sem, -List.getD_eq_getElem?_getD, ite_yes, l1, l2, c0, c2]
        first | refine AAt.of (by first | exact SubH.refl | exact SubH.app | exact SubH.both (by simp [subL])) ?_ | (refine ⟨?_, AAt.of (by first | exact SubH.refl | exact SubH.app | exact SubH.both (by simp [subL])) ?_⟩; · omega)
        refine AAny.takes (fuel := 0) (by kernel_rfl) (by kernel_rfl) [3, 4, 8, 9, 13, 14] (by kernel_rfl) (by kernel_rfl) ?_
        simp -dsimp -implicitDefEqProofs (disch := omega) [go_sem, -List.getD_eq_getElem?_getD, ite_yes, l1, l2, c0, c2]
        refine AAny.done (by kernel_rfl) ?_
        simp -dsimp -implicitDefEqProofs (disch := omega) [go_sem, -List.getD_eq_getElem?_getD, ite_yes, l1, l2, c0, c2]
        exact fin_flat rfl (by simp [alText, kindT])
theorem l21Text_A (r : Al) (h : isAl r = true) (H : Heap) : AFunC Tryd.prog 109 [.agg #[.int .i64 r.1, .int .i64 r.2.1, .int .i64 r.2.2.1, .bool r.2.2.2]] H (.string (bs (alText r))) H := by
  refine AFunC.of_body Tryd.func109 (by kernel_rfl) rfl (by kernel_rfl) (by simp [Tryd.ntmps109]) ?_
  obtain ⟨h0, h1, h2, h3, h4, h5⟩ := isAl_at h
  have l1 := itoa_lenA (n := r.1) (by omega) (by omega)
  have l2 := itoa_lenA (n := r.2.2.1) (by omega) (by omega)
  obtain ⟨x0, x1, x2, x3⟩ := r
  simp only at *
  have hk : x1 = 1 ∨ x1 = 2 := by omega
  rcases hk with rfl | rfl <;> cases x3
  all_goals
    simp -dsimp -implicitDefEqProofs (disch := omega) [go_sem, -List.getD_eq_getElem?_getD, ite_yes]
    refine ADraw.any _ (by kernel_rfl) (SubH.refl) ?_
    refine AAny.takes (fuel := 10) (by kernel_rfl) (by kernel_rfl) [1, 2, 6, 7, 11, 12] (by kernel_rfl) (by kernel_rfl) ?_
    simp -dsimp -implicitDefEqProofs (disch := omega) [go_sem, -List.getD_eq_getElem?_getD, ite_yes, l1, l2]
    refine AAny.two 9 0 8 (by kernel_rfl) (by kernel_rfl) (by kernel_rfl) ?_ ?_
    · simp -dsimp -implicitDefEqProofs (disch := omega) [go_sem, -List.getD_eq_getElem?_getD, ite_yes, l1, l2]
      first | refine AAt.of (by first | exact SubH.refl | exact SubH.app | exact SubH.both (by simp [subL])) ?_ | (refine ⟨?_, AAt.of (by first | exact SubH.refl | exact SubH.app | exact SubH.both (by simp [subL])) ?_⟩; · omega)
      refine AAny.takes (fuel := 8) (by kernel_rfl) (by kernel_rfl) [3] (by kernel_rfl) (by kernel_rfl) ?_
      simp -dsimp -implicitDefEqProofs (disch := omega) [go_sem, -List.getD_eq_getElem?_getD, ite_yes, l1, l2]
      refine AAny.two 7 4 8 (by kernel_rfl) (by kernel_rfl) (by kernel_rfl) ?_ ?_
      · simp -dsimp -implicitDefEqProofs (disch := omega) [go_sem, -List.getD_eq_getElem?_getD, ite_yes, l1, l2]
        first | refine AAt.of (by first | exact SubH.refl | exact SubH.app | exact SubH.both (by simp [subL])) ?_ | (refine ⟨?_, AAt.of (by first | exact SubH.refl | exact SubH.app | exact SubH.both (by simp [subL])) ?_⟩; · omega)
        refine AAny.takes (fuel := 6) (by kernel_rfl) (by kernel_rfl) [5] (by kernel_rfl) (by kernel_rfl) ?_
        simp -dsimp -implicitDefEqProofs (disch := omega) [go_sem, -List.getD_eq_getElem?_getD, ite_yes, l1, l2]
        refine AAny.one 5 8 (by kernel_rfl) (by kernel_rfl) (by kernel_rfl) ?_
        simp -dsimp -implicitDefEqProofs (disch := omega) [go_sem, -List.getD_eq_getElem?_getD, ite_yes, l1, l2]
        refine ACall.of (l1Num_A x0 (by omega) (by omega) _) ?_
        simp -dsimp -implicitDefEqProofs (disch := omega) [go_sem, -List.getD_eq_getElem?_getD, ite_yes, l1, l2]
        first | refine AAt.of (by first | exact SubH.refl | exact SubH.app | exact SubH.both (by simp [subL])) ?_ | (refine ⟨?_, AAt.of (by first | exact SubH.refl | exact SubH.app | exact SubH.both (by simp [subL])) ?_⟩; · omega)
        refine AAny.takes (fuel := 3) (by kernel_rfl) (by kernel_rfl) [9, 10] (by kernel_rfl) (by kernel_rfl) ?_
        simp -dsimp -implicitDefEqProofs (disch := omega) [go_sem, -List.getD_eq_getElem?_getD, ite_yes, l1, l2]
        refine AAny.one 2 13 (by kernel_rfl) (by kernel_rfl) (by kernel_rfl) ?_
        simp -dsimp -implicitDefEqProofs (disch := omega) [go_sem, -List.getD_eq_getElem?_getD, ite_yes, l1, l2]
        refine ACall.of (l1Num_A x2 (by omega) (by omega) _) ?_
        simp -dsimp -implicitDefEqProofs (disch := omega) [go_sem, -List.getD_eq_getElem?_getD, ite_yes, l1, l2]
        first | refine AAt.of (by first | exact SubH.refl | exact SubH.app | exact SubH.both (by simp [subL])) ?_ | (refine ⟨?_, AAt.of (by first | exact SubH.refl | exact SubH.app | exact SubH.both (by simp [subL])) ?_⟩; · omega)
        refine AAny.takes (fuel := 0) (by kernel_rfl) (by kernel_rfl) [14, 15] (by kernel_rfl) (by kernel_rfl) ?_
        simp -dsimp -implicitDefEqProofs (disch := omega) [go_sem, -List.getD_eq_getElem?_getD, ite_yes, l1, l2]
        refine AAny.done (by kernel_rfl) ?_
        simp -dsimp -implicitDefEqProofs (disch := omega) [go_sem, -List.getD_eq_getElem?_getD, ite_yes, l1, l2]
        exact fin_flat rfl (by simp [alText, kindT])
      · simp -dsimp -implicitDefEqProofs (disch := omega) [go_sem, -List.getD_eq_getElem?_getD, ite_yes, l1, l2]
        refine ACall.of (l1Num_A x0 (by omega) (by omega) _) ?_
        simp -dsimp -implicitDefEqProofs (disch := omega) [go_sem, -List.getD_eq_getElem?_getD, ite_yes, l1, l2]
        first | refine AAt.of (by first | exact SubH.refl | exact SubH.app | exact SubH.both (by simp [subL])) ?_ | (refine ⟨?_, AAt.of (by first | exact SubH.refl | exact SubH.app | exact SubH.both (by simp [subL])) ?_⟩; · omega)
        refine AAny.two 6 4 13 (by kernel_rfl) (by kernel_rfl) (by kernel_rfl) ?_ ?_
        · simp -dsimp -implicitDefEqProofs (disch := omega) [go_sem, -List.getD_eq_getElem?_getD, ite_yes, l1, l2]
          first | refine AAt.of (by first | exact SubH.refl | exact SubH.app | exact SubH.both (by simp [subL])) ?_ | (refine ⟨?_, AAt.of (by first | exact SubH.refl | exact SubH.app | exact SubH.both (by simp [subL])) ?_⟩; · omega)
          refine AAny.takes (fuel := 3) (by kernel_rfl) (by kernel_rfl) [5, 9, 10] (by kernel_rfl) (by kernel_rfl) ?_
          simp -dsimp -implicitDefEqProofs (disch := omega) [go_sem, -List.getD_eq_getElem?_getD, ite_yes, l1, l2]
          refine AAny.one 2 13 (by kernel_rfl) (by kernel_rfl) (by kernel_rfl) ?_
          simp -dsimp -implicitDefEqProofs (disch := omega) [go_sem, -List.getD_eq_getElem?_getD, ite_yes, l1, l2]
          refine ACall.of (l1Num_A x2 (by omega) (by omega) _) ?_
          simp -dsimp -implicitDefEqProofs (disch := omega) [go_sem, -List.getD_eq_getElem?_getD, ite_yes, l1, l2]
          first | refine AAt.of (by first | exact SubH.refl | exact SubH.app | exact SubH.both (by simp [subL])) ?_ | (refine ⟨?_, AAt.of (by first | exact SubH.refl | exact SubH.app | exact SubH.both (by simp [subL])) ?_⟩; · omega)
          refine AAny.takes (fuel := 0) (by kernel_rfl) (by kernel_rfl) [14, 15] (by kernel_rfl) (by kernel_rfl) ?_
          simp -dsimp -implicitDefEqProofs (disch := omega) [go_sem, -List.getD_eq_getElem?_getD, ite_yes, l1, l2]
          refine AAny.done (by kernel_rfl) ?_
          simp -dsimp -implicitDefEqProofs (disch := omega) [go_sem, -List.getD_eq_getElem?_getD, ite_yes, l1, l2]
          exact fin_flat rfl (by simp [alText, kindT])
        · simp -dsimp -implicitDefEqProofs (disch := omega) [go_sem, -List.getD_eq_getElem?_getD, ite_yes, l1, l2]
          refine ACall.of (l1Num_A x2 (by omega) (by omega) _) ?_
          simp -dsimp -implicitDefEqProofs (disch := omega) [go_sem, -List.getD_eq_getElem?_getD, ite_yes, l1, l2]
          first | refine AAt.of (by first | exact SubH.refl | exact SubH.app | exact SubH.both (by simp [subL])) ?_ | (refine ⟨?_, AAt.of (by first | exact SubH.refl | exact SubH.app | exact SubH.both (by simp [subL])) ?_⟩; · omega)
          refine AAny.one 5 4 (by kernel_rfl) (by kernel_rfl) (by kernel_rfl) ?_
          simp -dsimp -implicitDefEqProofs (disch := omega) [go_sem, -List.getD_eq_getElem?_getD, ite_yes, l1, l2]
          first | refine AAt.of (by first | exact SubH.refl | exact SubH.app | exact SubH.both (by simp [subL])) ?_ | (refine ⟨?_, AAt.of (by first | exact SubH.refl | exact SubH.app | exact SubH.both (by simp [subL])) ?_⟩; · omega)
          refine AAny.takes (fuel := 0) (by kernel_rfl) (by kernel_rfl) [5, 9, 10, 14, 15] (by kernel_rfl) (by kernel_rfl) ?_
          simp -dsimp -implicitDefEqProofs (disch := omega) [go_sem, -List.getD_eq_getElem?_getD, ite_yes, l1, l2]
          refine AAny.done (by kernel_rfl) ?_
          simp -dsimp -implicitDefEqProofs (disch := omega) [go_sem, -List.getD_eq_getElem?_getD, ite_yes, l1, l2]
          exact fin_flat rfl (by simp [alText, kindT])
    · simp -dsimp -implicitDefEqProofs (disch := omega) [go_sem, -List.getD_eq_getElem?_getD, ite_yes, l1, l2]
      refine ACall.of (l1Num_A x0 (by omega) (by omega) _) ?_
      simp -dsimp -implicitDefEqProofs (disch := omega) [go_sem, -List.getD_eq_getElem?_getD, ite_yes, l1, l2]
      first | refine AAt.of (by first | exact SubH.refl | exact SubH.app | exact SubH.both (by simp [subL])) ?_ | (refine ⟨?_, AAt.of (by first | exact SubH.refl | exact SubH.app | exact SubH.both (by simp [subL])) ?_⟩; · omega)
      refine AAny.two 8 0 13 (by kernel_rfl) (by kernel_rfl) (by kernel_rfl) ?_ ?_
      · simp -dsimp -implicitDefEqProofs (disch := omega) [go_sem, -List.getD_eq_getElem?_getD, ite_yes, l1, l2]
        first | refine AAt.of (by first | exact SubH.refl | exact SubH.app | exact SubH.both (by simp [subL])) ?_ | (refine ⟨?_, AAt.of (by first | exact SubH.refl | exact SubH.app | exact SubH.both (by simp [subL])) ?_⟩; · omega)
        refine AAny.takes (fuel := 7) (by kernel_rfl) (by kernel_rfl) [3] (by kernel_rfl) (by kernel_rfl) ?_
        simp -dsimp -implicitDefEqProofs (disch := omega) [go_sem, -List.getD_eq_getElem?_getD, ite_yes, l1, l2]
        refine AAny.two 6 4 13 (by kernel_rfl) (by kernel_rfl) (by kernel_rfl) ?_ ?_
        · simp -dsimp -implicitDefEqProofs (disch := omega) [go_sem, -List.getD_eq_getElem?_getD, ite_yes, l1, l2]
          first | refine AAt.of (by first | exact SubH.refl | exact SubH.app | exact SubH.both (by simp [subL])) ?_ | (refine ⟨?_, AAt.of (by first | exact SubH.refl | exact SubH.app | exact SubH.both (by simp [subL])) ?_⟩; · omega)
          refine AAny.takes (fuel := 3) (by kernel_rfl) (by kernel_rfl) [5, 9, 10] (by kernel_rfl) (by kernel_rfl) ?_
          simp -dsimp -implicitDefEqProofs (disch := omega) [go_sem, -List.getD_eq_getElem?_getD, ite_yes, l1, l2]
          refine AAny.one 2 13 (by kernel_rfl) (by kernel_rfl) (by kernel_rfl) ?_
          simp -dsimp -implicitDefEqProofs (disch := omega) [go_sem, -List.getD_eq_getElem?_getD, ite_yes, l1, l2]
          refine ACall.of (l1Num_A x2 (by omega) (by omega) _) ?_
          simp -dsimp -implicitDefEqProofs (disch := omega) [go_sem, -List.getD_eq_getElem?_getD, ite_yes, l1, l2]
          first | refine AAt.of (by first | exact SubH.refl | exact SubH.app | exact SubH.both (by simp [subL])) ?_ | (refine ⟨?_, AAt.of (by first | exact SubH.refl | exact SubH.app | exact SubH.both (by simp [subL])) ?_⟩; · omega)
          refine AAny.takes (fuel := 0) (by kernel_rfl) (by kernel_rfl) [14, 15] (by kernel_rfl) (by kernel_rfl) ?_
          simp -dsimp -implicitDefEqProofs (disch := omega) [go_sem, -List.getD_eq_getElem?_getD, ite_yes, l1, l2]
          refine AAny.done (by kernel_rfl) ?_
          simp -dsimp -implicitDefEqProofs (disch := omega) [go_sem, -List.getD_eq_getElem?_getD, ite_yes, l1, l2]
          exact fin_flat rfl (by simp [alText, kindT])
        · simp -dsimp -implicitDefEqProofs (disch := omega) [go_sem, -List.getD_eq_getElem?_getD, ite_yes, l1, l2]
          refine ACall.of (l1Num_A x2 (by omega) (by omega) _) ?_
          simp -dsimp -implicitDefEqProofs (disch := omega) [go_sem, -List.getD_eq_getElem?_getD, ite_yes, l1, l2]
          first | refine AAt.of (by first | exact SubH.refl | exact SubH.app | exact SubH.both (by simp [subL])) ?_ | (refine ⟨?_, AAt.of (by first | exact SubH.refl | exact SubH.app | exact SubH.both (by simp [subL])) ?_⟩; · omega)
          refine AAny.one 5 4 (by kernel_rfl) (by kernel_rfl) (by kernel_rfl) ?_
          simp -dsimp -implicitDefEqProofs (disch := omega) [go_sem, -List.getD_eq_getElem?_getD, ite_yes, l1, l2]
          first | refine AAt.of (by first | exact SubH.refl | exact SubH.app | exact SubH.both (by simp [subL])) ?_ | (refine ⟨?_, AAt.of (by first | exact SubH.refl | exact SubH.app | exact SubH.both (by simp [subL])) ?_⟩; · omega)
          refine AAny.takes (fuel := 0) (by kernel_rfl) (by kernel_rfl) [5, 9, 10, 14, 15] (by kernel_rfl) (by kernel_rfl) ?_
          simp -dsimp -implicitDefEqProofs (disch := omega) [go_sem, -List.getD_eq_getElem?_getD, ite_yes, l1, l2]
          refine AAny.done (by kernel_rfl) ?_
          simp -dsimp -implicitDefEqProofs (disch := omega) [go_sem, -List.getD_eq_getElem?_getD, ite_yes, l1, l2]
          exact fin_flat rfl (by simp [alText, kindT])
      · simp -dsimp -implicitDefEqProofs (disch := omega) [go_sem, -List.getD_eq_getElem?_getD, ite_yes, l1, l2]
        refine ACall.of (l1Num_A x2 (by omega) (by omega) _) ?_
        simp -dsimp -implicitDefEqProofs (disch := omega) [go_sem, -List.getD_eq_getElem?_getD, ite_yes, l1, l2]
        first | refine AAt.of (by first | exact SubH.refl | exact SubH.app | exact SubH.both (by simp [subL])) ?_ | (refine ⟨?_, AAt.of (by first | exact SubH.refl | exact SubH.app | exact SubH.both (by simp [subL])) ?_⟩; · omega)
        refine AAny.one 7 0 (by kernel_rfl) (by kernel_rfl) (by kernel_rfl) ?_
        simp -dsimp -implicitDefEqProofs (disch := omega) [go_sem, -List.getD_eq_getElem?_getD, ite_yes, l1, l2]
        first | refine AAt.of (by first | exact SubH.refl | exact SubH.app | exact SubH.both (by simp [subL])) ?_ | (refine ⟨?_, AAt.of (by first | exact SubH.refl | exact SubH.app | exact SubH.both (by simp [subL])) ?_⟩; · omega)
        refine AAny.takes (fuel := 6) (by kernel_rfl) (by kernel_rfl) [3] (by kernel_rfl) (by kernel_rfl) ?_
        simp -dsimp -implicitDefEqProofs (disch := omega) [go_sem, -List.getD_eq_getElem?_getD, ite_yes, l1, l2]
        refine AAny.one 5 4 (by kernel_rfl) (by kernel_rfl) (by kernel_rfl) ?_
        simp -dsimp -implicitDefEqProofs (disch := omega) [go_sem, -List.getD_eq_getElem?_getD, ite_yes, l1, l2]
        first | refine AAt.of (by first | exact SubH.refl | exact SubH.app | exact SubH.both (by simp [subL])) ?_ | (refine ⟨?_, AAt.of (by first | exact SubH.refl | exact SubH.app | exact SubH.both (by simp [subL])) ?_⟩; · omega)
        refine AAny.takes (fuel := 0) (by kernel_rfl) (by kernel_rfl) [5, 9, 10, 14, 15] (by kernel_rfl) (by kernel_rfl) ?_
        simp -dsimp -implicitDefEqProofs (disch := omega) [go_sem, -List.getD_eq_getElem?_getD, ite_yes, l1, l2]
        refine AAny.done (by kernel_rfl) ?_
        simp -dsimp -implicitDefEqProofs (disch := omega) [go_sem, -List.getD_eq_getElem?_getD, ite_yes, l1, l2]
        exact fin_flat rfl (by simp [alText, kindT])

theorem iAlarmText_A (r : Al) (H : Heap) : AFunC Tryd.prog 43 [.agg #[.int .i64 r.1, .int .i64 r.2.1, .int .i64 r.2.2.1, .bool r.2.2.2]] H (.tuple #[.string (bs (if isAl r = true then alText r else [])), .bool (isAl r)]) H := by
  refine AFunC.of_body Tryd.func43 (by kernel_rfl) rfl (by kernel_rfl) (by simp [Tryd.ntmps43]) ?_
  simp -dsimp -implicitDefEqProofs (disch := omega) [go_sem, -List.getD_eq_getElem?_getD, ite_yes]
  refine ACall.of (isAlarm_A r _) ?_
  cases h : isAl r
  · simp -dsimp -implicitDefEqProofs (disch := omega) [go_sem, -List.getD_eq_getElem?_getD, ite_yes]
    exact fin_flat rfl rfl
  · simp -dsimp -implicitDefEqProofs (disch := omega) [go_sem, -List.getD_eq_getElem?_getD, ite_yes]
    refine ACall.of (alarmText_A r h _) ?_
    simp -dsimp -implicitDefEqProofs (disch := omega) [go_sem, -List.getD_eq_getElem?_getD, ite_yes]
    exact fin_flat rfl rfl
theorem sAlarmText_A (r : Al) (H : Heap) : AFunC Tryd.prog 45 [.agg #[.int .i64 r.1, .int .i64 r.2.1, .int .i64 r.2.2.1, .bool r.2.2.2]] H (.tuple #[.string (bs (if isAl r = true then alText r else [])), .bool (isAl r)]) H := by
  refine AFunC.of_body Tryd.func45 (by kernel_rfl) rfl (by kernel_rfl) (by simp [Tryd.ntmps45]) ?_
  simp -dsimp -implicitDefEqProofs (disch := omega) [go_sem, -List.getD_eq_getElem?_getD, ite_yes]
  refine ACall.of (l21Alarm_A r _) ?_
  cases h : isAl r
  · simp -dsimp -implicitDefEqProofs (disch := omega) [go_sem, -List.getD_eq_getElem?_getD, ite_yes]
    exact fin_flat rfl rfl
  · simp -dsimp -implicitDefEqProofs (disch := omega) [go_sem, -List.getD_eq_getElem?_getD, ite_yes]
    refine ACall.of (l21Text_A r h _) ?_
    simp -dsimp -implicitDefEqProofs (disch := omega) [go_sem, -List.getD_eq_getElem?_getD, ite_yes]
    exact fin_flat rfl rfl
end Go.Proofs.YthnnbgggfpempaaDoor
