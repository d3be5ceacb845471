/- DeleteEdge of both packages. -/
import Derived.Test.YtcnbgpelfkbmpaaDoorDel
import Derived.Test.YtcnbgpelfkbmpaaDoorBtw
namespace Go.Proofs.YtcnbgpelfkbmpaaDoor
open Go.RowKit Go.ChangeShapes Go.WideShapes Go.ChangeAt Go.Deep
set_option linter.unusedVariables false
theorem ixE_no {es : List E} {i : Int} (h : ¬ ixN es i < es.length) : ixE es i = -1 := by simp [ixE, h]
theorem ixE_yes {es : List E} {i : Int} (h : ixN es i < es.length) : ixE es i = (ixN es i : Int) := by simp [ixE, h]
end Go.Proofs.YtcnbgpelfkbmpaaDoor
