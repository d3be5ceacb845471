/- Contracts of EdgeIndex of both packages. -/
import Derived.Test.YtcnbgpelfkbmpaaDoorEdge
namespace Go.Proofs.YtcnbgpelfkbmpaaDoor
open Go.RowKit Go.ChangeShapes Go.WideShapes Go.ChangeAt Go.Deep
set_option linter.unusedVariables false

def ixN (es : List E) (i : Int) : Nat := es.findIdx (fun e => e.id == i)
def ixE (es : List E) (i : Int) : Int := if ixN es i < es.length then (ixN es i : Int) else -1
theorem ixN_le (es : List E) (i : Int) : ixN es i ≤ es.length := List.findIdx_le_length
theorem ix_step {es : List E} {i : Int} {k : Nat} {e : E} (he : es[k]? = some e) (h : k ≤ ixN es i) : (e.id = i → ixN es i = k) ∧ (¬ e.id = i → k + 1 ≤ ixN es i) := by
  obtain ⟨hk, hx⟩ := get_of_some he
  have hnot : ∀ j, (hj : j < ixN es i) → (hl : j < es.length) → ¬ (es[j]).id = i := fun j hj hl => by
    have := List.not_of_lt_findIdx (p := fun e : E => e.id == i) hj
    simpa using this
  constructor
  · intro hs
    rcases Nat.lt_or_ge k (ixN es i) with h2 | h2
    · exact absurd (by rw [hx]; exact hs) (hnot k h2 hk)
    · omega
  · intro hs
    rcases Nat.lt_or_ge k (ixN es i) with h2 | h2
    · omega
    · have he : ixN es i = k := by omega
      have hlt : List.findIdx (fun e : E => e.id == i) es < es.length := by
        show ixN es i < _
        omega
      have h3 := List.findIdx_getElem (w := hlt)
      have h4 : (es[ixN es i]'(by omega)).id = i := by
        have : (es[List.findIdx (fun e : E => e.id == i) es]).id == i := h3
        exact eq_of_beq this
      simp only [he, hx] at h4
      exact absurd h4 hs
end Go.Proofs.YtcnbgpelfkbmpaaDoor
