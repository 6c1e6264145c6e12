/- Bounds and days. -/
import Derived.Test.YtncblopbcnkinaaFacts
import Derived.Test.YtncblopbcnkinaaAm11
namespace Go.Proofs.Ytncblopbcnkinaa
open Go.Am
set_option linter.unusedVariables false
set_option linter.unusedSimpArgs false
set_option maxRecDepth 100000

def inB (n a b : Int) : Bool := decide (a ≤ n) && decide (n ≤ b)
theorem inside_A (n a b : Int) (H : Heap) : AFunC Try.prog 39 [.int .i64 n, .int .i64 a, .int .i64 b] H (.bool (inB n a b)) H := by
  refine AFunC.of_body Try.func39 (by kernel_rfl) rfl (by kernel_rfl) (by simp [Try.ntmps39]) ?_
  simp -dsimp -implicitDefEqProofs (disch := omega) [go_sem, -List.getD_eq_getElem?_getD, ite_yes]
  refine AIf.of (fun h => ?_) (fun h => ?_) <;> simp at h <;> simp -dsimp -implicitDefEqProofs (disch := omega) [go_sem, -List.getD_eq_getElem?_getD, ite_yes] <;> exact fin_flat0 rfl (by simp [inB]; omega)
theorem l1In_A (n a b : Int) (H : Heap) : AFunC Try.prog 42 [.int .i64 n, .int .i64 a, .int .i64 b] H (.bool (inB n a b)) H := by
  refine AFunC.of_body Try.func42 (by kernel_rfl) rfl (by kernel_rfl) (by simp [Try.ntmps42]) ?_
  simp -dsimp -implicitDefEqProofs (disch := omega) [go_sem, -List.getD_eq_getElem?_getD, ite_yes]
  refine AIf.of (fun h => ?_) (fun h => ?_) <;> simp at h <;> simp -dsimp -implicitDefEqProofs (disch := omega) [go_sem, -List.getD_eq_getElem?_getD, ite_yes] <;> exact fin_flat0 rfl (by simp [inB]; omega)
end Go.Proofs.Ytncblopbcnkinaa
