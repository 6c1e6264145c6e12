/- The laws' helpers on lists of numbers: rBig, rInts, rSum. -/
import Derived.Test.YthnnbgggfpempaaDoorUses
import Derived.Test.YthnnbgggfpempaaDoorAm18
namespace Go.Proofs.YthnnbgggfpempaaDoor
open Go.Am
set_option linter.unusedVariables false
set_option linter.unusedSimpArgs false
set_option maxRecDepth 100000
set_option maxHeartbeats 1000000

theorem rBig_A (n cc : Nat) (a : Option Addr) (H : Heap) : AFunC Tryd.prog 6 [.slice a n cc] H (.bool (decide (65536 < (n : Int)))) H := by
  refine AFunC.of_body Tryd.func6 (by kernel_rfl) rfl (by kernel_rfl) (by simp [Tryd.ntmps6]) ?_
  simp -dsimp -implicitDefEqProofs (disch := omega) [go_sem, -List.getD_eq_getElem?_getD, ite_yes]
  exact fin_flat0 rfl (by first | rfl | simp)
end Go.Proofs.YthnnbgggfpempaaDoor
