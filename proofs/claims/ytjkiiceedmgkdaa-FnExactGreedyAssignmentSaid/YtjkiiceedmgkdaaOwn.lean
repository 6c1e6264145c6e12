/- The program's own facts for the rows. -/
import Derived.Test.YtjkiiceedmgkdaaFacts
import Derived.Test.YtjkiiceedmgkdaaAm12
namespace Go.Proofs.Ytjkiiceedmgkdaa
theorem own_ : ownKnob Try.prog.godebug = none := by kernel_rfl
theorem laidOut_ : laidOutB Try.prog = true := by kernel_rfl
end Go.Proofs.Ytjkiiceedmgkdaa
