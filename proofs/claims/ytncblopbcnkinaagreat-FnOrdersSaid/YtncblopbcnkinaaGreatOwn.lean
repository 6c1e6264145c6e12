/- The program's own facts for the rows. -/
import Derived.Test.YtncblopbcnkinaaGreatFacts
import Derived.Test.YtncblopbcnkinaaGreatAm12
namespace Go.Proofs.YtncblopbcnkinaaGreat
theorem own_ : ownKnob Tryz.prog.godebug = none := by kernel_rfl
theorem laidOut_ : laidOutB Tryz.prog = true := by kernel_rfl
end Go.Proofs.YtncblopbcnkinaaGreat
