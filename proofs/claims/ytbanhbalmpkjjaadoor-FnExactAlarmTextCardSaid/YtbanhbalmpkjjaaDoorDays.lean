/- Bounds and days. -/
import Derived.Test.YtbanhbalmpkjjaaDoorFacts
import Derived.Test.YtbanhbalmpkjjaaDoorAm11
namespace Go.Proofs.YtbanhbalmpkjjaaDoor
open Go.Am
set_option linter.unusedVariables false
set_option linter.unusedSimpArgs false
set_option maxRecDepth 100000

def inB (n a b : Int) : Bool := decide (a ≤ n) && decide (n ≤ b)
theorem inside_A (n a b : Int) (H : Heap) : AFunC Tryd.prog 32 [.int .i64 n, .int .i64 a, .int .i64 b] H (.bool (inB n a b)) H := by
  refine AFunC.of_body Tryd.func32 (by kernel_rfl) rfl (by kernel_rfl) (by simp [Tryd.ntmps32]) ?_
  simp -dsimp -implicitDefEqProofs (disch := omega) [go_sem, -List.getD_eq_getElem?_getD, ite_yes]
  refine AIf.of (fun h => ?_) (fun h => ?_) <;> simp at h <;> simp -dsimp -implicitDefEqProofs (disch := omega) [go_sem, -List.getD_eq_getElem?_getD, ite_yes] <;> exact fin_flat0 rfl (by simp [inB]; omega)
theorem l1In_A (n a b : Int) (H : Heap) : AFunC Tryd.prog 28 [.int .i64 n, .int .i64 a, .int .i64 b] H (.bool (inB n a b)) H := by
  refine AFunC.of_body Tryd.func28 (by kernel_rfl) rfl (by kernel_rfl) (by simp [Tryd.ntmps28]) ?_
  simp -dsimp -implicitDefEqProofs (disch := omega) [go_sem, -List.getD_eq_getElem?_getD, ite_yes]
  refine AIf.of (fun h => ?_) (fun h => ?_) <;> simp at h <;> simp -dsimp -implicitDefEqProofs (disch := omega) [go_sem, -List.getD_eq_getElem?_getD, ite_yes] <;> exact fin_flat0 rfl (by simp [inB]; omega)
theorem isDay_A (n : Int) (H : Heap) : AFunC Tryd.prog 31 [.int .i64 n] H (.bool (inB n 0 3650)) H := by
  refine AFunC.of_body Tryd.func31 (by kernel_rfl) rfl (by kernel_rfl) (by simp [Tryd.ntmps31]) ?_
  simp -dsimp -implicitDefEqProofs (disch := omega) [go_sem, -List.getD_eq_getElem?_getD, ite_yes]
  refine ACall.of (inside_A _ _ _ _) ?_
  simp -dsimp -implicitDefEqProofs (disch := omega) [go_sem, -List.getD_eq_getElem?_getD, ite_yes]
  exact fin_flat0 rfl rfl
theorem l19Day_A (n : Int) (H : Heap) : AFunC Tryd.prog 27 [.int .i64 n] H (.bool (inB n 0 3650)) H := by
  refine AFunC.of_body Tryd.func27 (by kernel_rfl) rfl (by kernel_rfl) (by simp [Tryd.ntmps27]) ?_
  simp -dsimp -implicitDefEqProofs (disch := omega) [go_sem, -List.getD_eq_getElem?_getD, ite_yes]
  refine ACall.of (l1In_A _ _ _ _) ?_
  simp -dsimp -implicitDefEqProofs (disch := omega) [go_sem, -List.getD_eq_getElem?_getD, ite_yes]
  exact fin_flat0 rfl rfl
end Go.Proofs.YtbanhbalmpkjjaaDoor
