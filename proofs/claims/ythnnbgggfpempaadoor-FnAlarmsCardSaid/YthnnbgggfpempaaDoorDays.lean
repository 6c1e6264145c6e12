/- Bounds and days. -/
import Derived.Test.YthnnbgggfpempaaDoorFacts
import Derived.Test.YthnnbgggfpempaaDoorAm11
namespace Go.Proofs.YthnnbgggfpempaaDoor
open Go.Am
set_option linter.unusedVariables false
set_option linter.unusedSimpArgs false
set_option maxRecDepth 100000

def inB (n a b : Int) : Bool := decide (a ≤ n) && decide (n ≤ b)
theorem inside_A (n a b : Int) (H : Heap) : AFunC Tryd.prog 91 [.int .i64 n, .int .i64 a, .int .i64 b] H (.bool (inB n a b)) H := by
  refine AFunC.of_body Tryd.func91 (by kernel_rfl) rfl (by kernel_rfl) (by simp [Tryd.ntmps91]) ?_
  simp -dsimp -implicitDefEqProofs (disch := omega) [go_sem, -List.getD_eq_getElem?_getD, ite_yes]
  refine AIf.of (fun h => ?_) (fun h => ?_) <;> simp at h <;> simp -dsimp -implicitDefEqProofs (disch := omega) [go_sem, -List.getD_eq_getElem?_getD, ite_yes] <;> exact fin_flat0 rfl (by simp [inB]; omega)
theorem l1In_A (n a b : Int) (H : Heap) : AFunC Tryd.prog 81 [.int .i64 n, .int .i64 a, .int .i64 b] H (.bool (inB n a b)) H := by
  refine AFunC.of_body Tryd.func81 (by kernel_rfl) rfl (by kernel_rfl) (by simp [Tryd.ntmps81]) ?_
  simp -dsimp -implicitDefEqProofs (disch := omega) [go_sem, -List.getD_eq_getElem?_getD, ite_yes]
  refine AIf.of (fun h => ?_) (fun h => ?_) <;> simp at h <;> simp -dsimp -implicitDefEqProofs (disch := omega) [go_sem, -List.getD_eq_getElem?_getD, ite_yes] <;> exact fin_flat0 rfl (by simp [inB]; omega)
theorem isDay_A (n : Int) (H : Heap) : AFunC Tryd.prog 85 [.int .i64 n] H (.bool (inB n 0 3650)) H := by
  refine AFunC.of_body Tryd.func85 (by kernel_rfl) rfl (by kernel_rfl) (by simp [Tryd.ntmps85]) ?_
  simp -dsimp -implicitDefEqProofs (disch := omega) [go_sem, -List.getD_eq_getElem?_getD, ite_yes]
  refine ACall.of (inside_A _ _ _ _) ?_
  simp -dsimp -implicitDefEqProofs (disch := omega) [go_sem, -List.getD_eq_getElem?_getD, ite_yes]
  exact fin_flat0 rfl rfl
theorem l19Day_A (n : Int) (H : Heap) : AFunC Tryd.prog 87 [.int .i64 n] H (.bool (inB n 0 3650)) H := by
  refine AFunC.of_body Tryd.func87 (by kernel_rfl) rfl (by kernel_rfl) (by simp [Tryd.ntmps87]) ?_
  simp -dsimp -implicitDefEqProofs (disch := omega) [go_sem, -List.getD_eq_getElem?_getD, ite_yes]
  refine ACall.of (l1In_A _ _ _ _) ?_
  simp -dsimp -implicitDefEqProofs (disch := omega) [go_sem, -List.getD_eq_getElem?_getD, ite_yes]
  exact fin_flat0 rfl rfl
end Go.Proofs.YthnnbgggfpempaaDoor
