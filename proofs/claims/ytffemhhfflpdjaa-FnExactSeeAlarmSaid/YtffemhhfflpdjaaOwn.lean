/- The program's own facts for the rows. -/
import Derived.Test.YtffemhhfflpdjaaFacts
import Derived.Test.YtffemhhfflpdjaaAm12
namespace Go.Proofs.Ytffemhhfflpdjaa
theorem own_ : ownKnob Try.prog.godebug = none := by kernel_rfl
theorem laidOut_ : laidOutB Try.prog = true := by kernel_rfl
end Go.Proofs.Ytffemhhfflpdjaa
