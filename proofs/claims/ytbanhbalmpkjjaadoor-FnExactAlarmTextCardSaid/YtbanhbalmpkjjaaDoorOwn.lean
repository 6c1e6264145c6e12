/- The program's own facts for the rows. -/
import Derived.Test.YtbanhbalmpkjjaaDoorFacts
import Derived.Test.YtbanhbalmpkjjaaDoorAm12
namespace Go.Proofs.YtbanhbalmpkjjaaDoor
theorem own_ : ownKnob Tryd.prog.godebug = none := by kernel_rfl
theorem laidOut_ : laidOutB Tryd.prog = true := by kernel_rfl
end Go.Proofs.YtbanhbalmpkjjaaDoor
