/- IsValidBills: the law. -/
import Derived.Test.YtappbdfieccfeaaBills
namespace Go.Proofs.Ytappbdfieccfeaa
open Go.Am
set_option linter.unusedVariables false
set_option linter.unusedSimpArgs false
set_option maxRecDepth 100000
end Go.Proofs.Ytappbdfieccfeaa
