/- markGraph, heldGraph. -/
import Derived.Test.YtljggmgijadjaaaGMark
namespace Go.Proofs.Ytljggmgijadjaaa
open Go.RowKit Go.ChangeShapes Go.WideShapes Go.ChangeAt Go.Deep
set_option linter.unusedVariables false
end Go.Proofs.Ytljggmgijadjaaa
