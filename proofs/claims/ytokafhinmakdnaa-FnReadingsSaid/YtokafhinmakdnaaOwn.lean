/- The program's own facts for the rows. -/
import Derived.Test.YtokafhinmakdnaaFacts
import Derived.Test.YtokafhinmakdnaaAm12
namespace Go.Proofs.Ytokafhinmakdnaa
theorem own_ : ownKnob Try.prog.godebug = none := by kernel_rfl
theorem laidOut_ : laidOutB Try.prog = true := by kernel_rfl
end Go.Proofs.Ytokafhinmakdnaa
