/- StepsWith of both packages. -/
import Derived.Test.YtljggmgijadjaaaGreatDoorStepsF
namespace Go.Proofs.YtljggmgijadjaaaGreatDoor
open Go.RowKit Go.ChangeShapes Go.WideShapes Go.ChangeAt Go.Deep
set_option linter.unusedVariables false
/-- The block of a row that grows: in [lo, hi), or new since w. -/
def OB (lo hi z : Nat) (v : Value) : Prop := ∀ g, v.ownBlock = some g → (lo ≤ g ∧ g < hi) ∨ z ≤ g
theorem OB.next {lo hi z s : Nat} {v v' : Value} (h : OB lo hi z v) (hat : v'.ownBlock = v.ownBlock ∨ v'.ownBlock = some s) (hz : z ≤ s) : OB lo hi z v' := by
  intro g hg
  rcases hat with h1 | h1
  · exact h g (by rw [← h1, hg])
  · rw [hg] at h1
    injection h1 with h1
    omega
def stepsW (g : G) (node letter : Int) : List St := (stepsF g node).filter (fun s => stLet g s == letter)
theorem filter_succ {α : Type} (p : α → Bool) {L : List α} {k : Nat} {x : α} (h : L[k]? = some x) : (L.take (k + 1)).filter p = (L.take k).filter p ++ (if p x then [x] else []) := by
  obtain ⟨hk, rfl⟩ := List.getElem?_eq_some_iff.1 h
  rw [List.take_succ_eq_append_getElem hk, List.filter_append]
  simp [List.filter_cons]
theorem filter_take_len {α : Type} (p : α → Bool) (L : List α) (k : Nat) : ((L.take k).filter p).length ≤ k := Nat.le_trans (List.length_filter_le _ _) (List.length_take_le _ _)
theorem step_cells {w : World} {B b o n k : Nat} {es : List St} {e : St} (h : Reads w B 2 (some ⟨b, o, none⟩) n (stcs es)) (he : es[k]? = some e) : w.cell? ⟨b, o + k * 2, none⟩ = some (.int .i64 e.ed) ∧ w.cell? ⟨b, o + k * 2 + 1, none⟩ = some (.bool e.inv) := by
  have hk := (List.getElem?_eq_some_iff.1 he).1
  have hl : es.length = n := by have := h.1; rw [stcs_len] at this; omega
  obtain ⟨b2, o2, hA, _, e2, he2, c0, c1⟩ := step_at (k := k) h hl (by omega)
  have hbo : b = b2 ∧ o = o2 := by simpa using hA
  obtain ⟨rfl, rfl⟩ := hbo
  obtain rfl : e = e2 := by rw [he] at he2; simpa using he2
  exact ⟨c0, c1⟩
end Go.Proofs.YtljggmgijadjaaaGreatDoor
