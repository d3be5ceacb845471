/- WalkWord of both packages. -/
import Derived.Test.YtolilkbejghocaaWalkC
namespace Go.Proofs.Ytolilkbejghocaa
open Go.RowKit Go.ChangeShapes Go.WideShapes Go.ChangeAt Go.Deep
set_option linter.unusedVariables false
def wordZ (g : G) (s : Int) (l : List St) : List Int := if walkOk g s l then l.map (stLet g) else []
theorem below_of_tch {lo : Nat} {w w' : World} (h : Tch lo lo w w') : Below w.heap.size w w' := ⟨h.os, h.tape, h.output, h.size, fun k hk => h.block k hk (by omega)⟩
def OkIf (k : Nat) (ok : Bool) : Prop := 0 < k → ok = true
theorem wordZ_no {g : G} {s : Int} {l : List St} (h : walkOk g s l = false) : wordZ g s l = [] := by simp [wordZ, h]
theorem wordZ_yes {g : G} {s : Int} {l : List St} (h : walkOk g s l = true) : wordZ g s l = l.map (stLet g) := by simp [wordZ, h]
theorem map_take_succ {α β : Type} (f : α → β) {l : List α} {k : Nat} {x : α} (h : l[k]? = some x) : (l.take (k + 1)).map f = (l.take k).map f ++ [f x] := by
  obtain ⟨hk, rfl⟩ := List.getElem?_eq_some_iff.1 h
  rw [List.take_succ_eq_append_getElem hk, List.map_append]
  rfl
end Go.Proofs.Ytolilkbejghocaa
