/- The program's own facts for the rows. -/
import Derived.Test.YtaehphcaiabdmaaFacts
import Derived.Test.YtaehphcaiabdmaaAm12
namespace Go.Proofs.Ytaehphcaiabdmaa
theorem own_ : ownKnob Try.prog.godebug = none := by kernel_rfl
theorem laidOut_ : laidOutB Try.prog = true := by kernel_rfl
end Go.Proofs.Ytaehphcaiabdmaa
