/- The program's own facts for the rows. -/
import Derived.Test.YtappbdfieccfeaaFacts
import Derived.Test.YtappbdfieccfeaaAm12
namespace Go.Proofs.Ytappbdfieccfeaa
theorem own_ : ownKnob Try.prog.godebug = none := by kernel_rfl
theorem laidOut_ : laidOutB Try.prog = true := by kernel_rfl
end Go.Proofs.Ytappbdfieccfeaa
