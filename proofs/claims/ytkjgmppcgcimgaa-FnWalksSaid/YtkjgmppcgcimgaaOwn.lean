/- The program's own facts for the rows. -/
import Derived.Test.YtkjgmppcgcimgaaFacts
import Derived.Test.YtkjgmppcgcimgaaAm12
namespace Go.Proofs.Ytkjgmppcgcimgaa
theorem own_ : ownKnob Try.prog.godebug = none := by kernel_rfl
theorem laidOut_ : laidOutB Try.prog = true := by kernel_rfl
end Go.Proofs.Ytkjgmppcgcimgaa
