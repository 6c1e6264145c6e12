/- The program's own facts for the rows. -/
import Derived.Test.YtemlhhgpkifjaaaFacts
import Derived.Test.YtemlhhgpkifjaaaAm12
namespace Go.Proofs.Ytemlhhgpkifjaaa
theorem own_ : ownKnob Try.prog.godebug = none := by kernel_rfl
theorem laidOut_ : laidOutB Try.prog = true := by kernel_rfl
end Go.Proofs.Ytemlhhgpkifjaaa
