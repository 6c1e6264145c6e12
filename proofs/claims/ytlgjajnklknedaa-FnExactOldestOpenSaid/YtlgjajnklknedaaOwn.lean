/- The program's own facts for the rows. -/
import Derived.Test.YtlgjajnklknedaaFacts
import Derived.Test.YtlgjajnklknedaaAm12
namespace Go.Proofs.Ytlgjajnklknedaa
theorem own_ : ownKnob Try.prog.godebug = none := by kernel_rfl
theorem laidOut_ : laidOutB Try.prog = true := by kernel_rfl
end Go.Proofs.Ytlgjajnklknedaa
