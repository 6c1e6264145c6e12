/- The program's own facts for the rows. -/
import Derived.Test.YtemamoobemlkcaaDoorFacts
import Derived.Test.YtemamoobemlkcaaDoorAm12
namespace Go.Proofs.YtemamoobemlkcaaDoor
theorem own_ : ownKnob Tryd.prog.godebug = none := by kernel_rfl
theorem laidOut_ : laidOutB Tryd.prog = true := by kernel_rfl
end Go.Proofs.YtemamoobemlkcaaDoor
