/- Samples: what is valid, what is good. -/
import Derived.Test.YtokafhinmakdnaaL19
import Derived.Test.YtokafhinmakdnaaAm13
namespace Go.Proofs.Ytokafhinmakdnaa
open Go.Am
set_option linter.unusedVariables false
set_option linter.unusedSimpArgs false
set_option maxRecDepth 100000

abbrev Smp := Int × Int × Int × Int
abbrev smpV (s : Smp) : Value := .agg #[.int .i64 s.1, .int .i64 s.2.1, .int .i64 s.2.2.1, .int .i64 s.2.2.2]
def isNodeB (n : Int) : Bool := inB n 1 8
def isSmp (s : Smp) : Bool := inB s.1 0 3650 && (isNodeB s.2.1 && (inB s.2.2.1 1 4 && inB s.2.2.2 0 100000))
theorem isNode_A (n : Int) (H : Heap) : AFunC Try.prog 74 [.int .i64 n] H (.bool (isNodeB n)) H := by
  refine AFunC.of_body Try.func74 (by kernel_rfl) rfl (by kernel_rfl) (by simp [Try.ntmps74]) ?_
  simp -dsimp -implicitDefEqProofs (disch := omega) [go_sem, -List.getD_eq_getElem?_getD, ite_yes]
  refine ACall.of (inside_A _ _ _ _) ?_
  simp -dsimp -implicitDefEqProofs (disch := omega) [go_sem, -List.getD_eq_getElem?_getD, ite_yes]
  exact fin_flat0 rfl rfl
end Go.Proofs.Ytokafhinmakdnaa
