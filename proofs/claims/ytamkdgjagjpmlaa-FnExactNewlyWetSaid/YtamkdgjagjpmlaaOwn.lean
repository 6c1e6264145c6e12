/- The program's own facts for the rows. -/
import Derived.Test.YtamkdgjagjpmlaaFacts
import Derived.Test.YtamkdgjagjpmlaaAm12
namespace Go.Proofs.Ytamkdgjagjpmlaa
theorem own_ : ownKnob Try.prog.godebug = none := by kernel_rfl
theorem laidOut_ : laidOutB Try.prog = true := by kernel_rfl
end Go.Proofs.Ytamkdgjagjpmlaa
