/- The program's own facts for the rows. -/
import Derived.Test.YtfmcibnpmmljkaaFacts
import Derived.Test.YtfmcibnpmmljkaaAm12
namespace Go.Proofs.Ytfmcibnpmmljkaa
theorem own_ : ownKnob Try.prog.godebug = none := by kernel_rfl
theorem laidOut_ : laidOutB Try.prog = true := by kernel_rfl
end Go.Proofs.Ytfmcibnpmmljkaa
