/- IsValidWalk, WalkNodes, WalkEnd of both packages. -/
import Derived.Test.YtolilkbejghocaaWalkB
namespace Go.Proofs.Ytolilkbejghocaa
open Go.RowKit Go.ChangeShapes Go.WideShapes Go.ChangeAt Go.Deep
set_option linter.unusedVariables false
def endZ (g : G) (s : Int) (l : List St) : Int := if walkOk g s l then ((nodesZ g s l)[l.length]?).getD 0 else -1
theorem nodesZ_len {g : G} {s : Int} {l : List St} (h : walkOk g s l = true) : (nodesZ g s l).length = l.length + 1 := by rw [nodesZ_yes h, nodesUp_len (Nat.le_refl _)]
theorem endZ_no {g : G} {s : Int} {l : List St} (h : walkOk g s l = false) : endZ g s l = -1 := by simp [endZ, h]
theorem endZ_at {g : G} {s : Int} {l : List St} (h : walkOk g s l = true) : (nodesZ g s l)[l.length]? = some (endZ g s l) := by
  have hl := nodesZ_len h
  unfold endZ
  rw [h, if_pos rfl, List.getElem?_eq_getElem (by omega)]
  rfl
end Go.Proofs.Ytolilkbejghocaa
