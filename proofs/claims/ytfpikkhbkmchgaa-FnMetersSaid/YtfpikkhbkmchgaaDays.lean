/- Bounds and days. -/
import Derived.Test.YtfpikkhbkmchgaaFacts
import Derived.Test.YtfpikkhbkmchgaaAm11
namespace Go.Proofs.Ytfpikkhbkmchgaa
open Go.Am
set_option linter.unusedVariables false
set_option linter.unusedSimpArgs false
set_option maxRecDepth 100000

def inB (n a b : Int) : Bool := decide (a ≤ n) && decide (n ≤ b)
theorem inside_A (n a b : Int) (H : Heap) : AFunC Try.prog 28 [.int .i64 n, .int .i64 a, .int .i64 b] H (.bool (inB n a b)) H := by
  refine AFunC.of_body Try.func28 (by kernel_rfl) rfl (by kernel_rfl) (by simp [Try.ntmps28]) ?_
  simp -dsimp -implicitDefEqProofs (disch := omega) [go_sem, -List.getD_eq_getElem?_getD, ite_yes]
  refine AIf.of (fun h => ?_) (fun h => ?_) <;> simp at h <;> simp -dsimp -implicitDefEqProofs (disch := omega) [go_sem, -List.getD_eq_getElem?_getD, ite_yes] <;> exact fin_flat0 rfl (by simp [inB]; omega)
theorem l1In_A (n a b : Int) (H : Heap) : AFunC Try.prog 37 [.int .i64 n, .int .i64 a, .int .i64 b] H (.bool (inB n a b)) H := by
  refine AFunC.of_body Try.func37 (by kernel_rfl) rfl (by kernel_rfl) (by simp [Try.ntmps37]) ?_
  simp -dsimp -implicitDefEqProofs (disch := omega) [go_sem, -List.getD_eq_getElem?_getD, ite_yes]
  refine AIf.of (fun h => ?_) (fun h => ?_) <;> simp at h <;> simp -dsimp -implicitDefEqProofs (disch := omega) [go_sem, -List.getD_eq_getElem?_getD, ite_yes] <;> exact fin_flat0 rfl (by simp [inB]; omega)
theorem isDay_A (n : Int) (H : Heap) : AFunC Try.prog 31 [.int .i64 n] H (.bool (inB n 0 3650)) H := by
  refine AFunC.of_body Try.func31 (by kernel_rfl) rfl (by kernel_rfl) (by simp [Try.ntmps31]) ?_
  simp -dsimp -implicitDefEqProofs (disch := omega) [go_sem, -List.getD_eq_getElem?_getD, ite_yes]
  refine ACall.of (inside_A _ _ _ _) ?_
  simp -dsimp -implicitDefEqProofs (disch := omega) [go_sem, -List.getD_eq_getElem?_getD, ite_yes]
  exact fin_flat0 rfl rfl
theorem l19Day_A (n : Int) (H : Heap) : AFunC Try.prog 44 [.int .i64 n] H (.bool (inB n 0 3650)) H := by
  refine AFunC.of_body Try.func44 (by kernel_rfl) rfl (by kernel_rfl) (by simp [Try.ntmps44]) ?_
  simp -dsimp -implicitDefEqProofs (disch := omega) [go_sem, -List.getD_eq_getElem?_getD, ite_yes]
  refine ACall.of (l1In_A _ _ _ _) ?_
  simp -dsimp -implicitDefEqProofs (disch := omega) [go_sem, -List.getD_eq_getElem?_getD, ite_yes]
  exact fin_flat0 rfl rfl
end Go.Proofs.Ytfpikkhbkmchgaa
