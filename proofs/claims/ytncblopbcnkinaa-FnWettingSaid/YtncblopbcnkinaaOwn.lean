/- The program's own facts for the rows. -/
import Derived.Test.YtncblopbcnkinaaFacts
import Derived.Test.YtncblopbcnkinaaAm12
namespace Go.Proofs.Ytncblopbcnkinaa
theorem own_ : ownKnob Try.prog.godebug = none := by kernel_rfl
theorem laidOut_ : laidOutB Try.prog = true := by kernel_rfl
end Go.Proofs.Ytncblopbcnkinaa
