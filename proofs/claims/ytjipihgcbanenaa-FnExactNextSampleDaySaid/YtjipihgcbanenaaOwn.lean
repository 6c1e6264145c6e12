/- The program's own facts for the rows. -/
import Derived.Test.YtjipihgcbanenaaFacts
import Derived.Test.YtjipihgcbanenaaAm12
namespace Go.Proofs.Ytjipihgcbanenaa
theorem own_ : ownKnob Try.prog.godebug = none := by kernel_rfl
theorem laidOut_ : laidOutB Try.prog = true := by kernel_rfl
end Go.Proofs.Ytjipihgcbanenaa
