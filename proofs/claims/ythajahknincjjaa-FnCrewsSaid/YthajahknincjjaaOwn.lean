/- The program's own facts for the rows. -/
import Derived.Test.YthajahknincjjaaFacts
import Derived.Test.YthajahknincjjaaAm12
namespace Go.Proofs.Ythajahknincjjaa
theorem own_ : ownKnob Try.prog.godebug = none := by kernel_rfl
theorem laidOut_ : laidOutB Try.prog = true := by kernel_rfl
end Go.Proofs.Ythajahknincjjaa
