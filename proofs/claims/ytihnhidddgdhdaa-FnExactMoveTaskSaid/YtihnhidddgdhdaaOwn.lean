/- The program's own facts for the rows. -/
import Derived.Test.YtihnhidddgdhdaaFacts
import Derived.Test.YtihnhidddgdhdaaAm12
namespace Go.Proofs.Ytihnhidddgdhdaa
theorem own_ : ownKnob Try.prog.godebug = none := by kernel_rfl
theorem laidOut_ : laidOutB Try.prog = true := by kernel_rfl
end Go.Proofs.Ytihnhidddgdhdaa
