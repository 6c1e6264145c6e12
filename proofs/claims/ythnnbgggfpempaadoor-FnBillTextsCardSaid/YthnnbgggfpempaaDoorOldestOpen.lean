/- OldestOpen: both sides, and the law. -/
import Derived.Test.YthnnbgggfpempaaDoorBills
import Derived.Test.YthnnbgggfpempaaDoorReminder
import Derived.Test.YthnnbgggfpempaaDoorFind
namespace Go.Proofs.YthnnbgggfpempaaDoor
open Go.Am
set_option linter.unusedVariables false
set_option linter.unusedSimpArgs false
set_option maxRecDepth 100000

def isOpenB (r : Bl) : Bool := decide (r.2.2.2 < r.2.2.1)
def oldOk (l : List Bl) (r : Int) : Bool := goodB l && decide (0 ≤ r)
def oldN (l : List Bl) (r : Int) : Int := if oldOk l r = true then (l.getD r.toNat (0, 0, 0, 0)).1 else 0
end Go.Proofs.YthnnbgggfpempaaDoor
