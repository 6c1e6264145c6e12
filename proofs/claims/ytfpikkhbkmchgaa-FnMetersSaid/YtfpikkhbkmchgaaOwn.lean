/- The program's own facts for the rows. -/
import Derived.Test.YtfpikkhbkmchgaaFacts
import Derived.Test.YtfpikkhbkmchgaaAm12
namespace Go.Proofs.Ytfpikkhbkmchgaa
theorem own_ : ownKnob Try.prog.godebug = none := by kernel_rfl
theorem laidOut_ : laidOutB Try.prog = true := by kernel_rfl
end Go.Proofs.Ytfpikkhbkmchgaa
