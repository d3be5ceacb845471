/- InsertEdge of the program. -/
import Derived.Test.YtcnbgpelfkbmpaaDoorIns
import Derived.Test.YtcnbgpelfkbmpaaDoorDelE
import Derived.Test.YtcnbgpelfkbmpaaDoorCutR
namespace Go.Proofs.YtcnbgpelfkbmpaaDoor
open Go.RowKit Go.ChangeShapes Go.WideShapes Go.ChangeAt Go.Deep
set_option linter.unusedVariables false
end Go.Proofs.YtcnbgpelfkbmpaaDoor
