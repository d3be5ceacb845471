/- FormatWalk of both packages. -/
import Derived.Test.YtljggmgijadjaaaDoorFmtG
namespace Go.Proofs.YtljggmgijadjaaaDoor
open Go.RowKit Go.ChangeShapes Go.WideShapes Go.ChangeAt Go.Deep
set_option linter.unusedVariables false
theorem fmtS_len {s : St} (h : stOk s = true) : (fmtS s).length ≤ 12 := by
  have h' := inB_true.1 h
  have := itoa_len9 (n := s.ed) (by omega) (by omega)
  unfold fmtS
  split <;> simp <;> omega
theorem fmtSs_len : ∀ (l : List St), (∀ s ∈ l, stOk s = true) → (l.flatMap fmtS).length ≤ 12 * l.length
  | [], _ => by simp
  | x :: r, h => by
    have h1 := fmtSs_len r (fun v hv => h v (by simp [hv]))
    have h2 := fmtS_len (h x (by simp))
    simp only [List.flatMap_cons, List.length_append, List.length_cons] at h1 ⊢
    omega
theorem fmtSs_take {l : List St} {k : Nat} {s : St} (h : l[k]? = some s) : (l.take (k + 1)).flatMap fmtS = (l.take k).flatMap fmtS ++ fmtS s := by
  rw [List.take_add_one, h]
  simp
theorem all_take_succ {α : Type} {p : α → Bool} {l : List α} {k : Nat} {s : α} (h : l[k]? = some s) (h1 : (l.take k).all p = true) (h2 : p s = true) : (l.take (k + 1)).all p = true := by
  rw [List.take_add_one, h, List.all_append, h1]
  simp [h2]
theorem all_bad {α : Type} {p : α → Bool} {l : List α} {k : Nat} {s : α} (h : l[k]? = some s) (h2 : p s = false) : l.all p = false := by
  rw [List.all_eq_false]
  exact ⟨s, List.mem_of_getElem? h, by simp [h2]⟩
end Go.Proofs.YtljggmgijadjaaaDoor
