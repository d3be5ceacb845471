/- l5Nodes of the reference. -/
import Derived.Test.YtljggmgijadjaaaWalkA
namespace Go.Proofs.Ytljggmgijadjaaa
open Go.RowKit Go.ChangeShapes Go.WideShapes Go.ChangeAt Go.Deep
set_option linter.unusedVariables false
theorem ris_made (w : World) (e : TypeId) (size : Nat) : RIs (w.alloc (.cells #[] e)) w.heap.size (w.alloc (.cells #[] e)).heap.size e size (some ⟨w.heap.size, 0, none⟩) 0 0 [] := RIs.of (own_made e size (Nat.le_refl _)) (by omega)
end Go.Proofs.Ytljggmgijadjaaa
