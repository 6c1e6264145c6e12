/- Arguments that are lists of MeterReading. -/
import Derived.Test.YtbanhbalmpkjjaaDoorRecRd
import Derived.Test.YtbanhbalmpkjjaaDoorOwn
namespace Go.Proofs.YtbanhbalmpkjjaaDoor
open Go.Am Go.RowKit Go.ChangeShapes Go.WideShapes Go.Deep
set_option linter.unusedVariables false
set_option maxRecDepth 100000
end Go.Proofs.YtbanhbalmpkjjaaDoor
