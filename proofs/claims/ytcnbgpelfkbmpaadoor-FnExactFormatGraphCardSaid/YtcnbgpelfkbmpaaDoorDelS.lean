/- DeleteEdge of the reference. -/
import Derived.Test.YtcnbgpelfkbmpaaDoorDelE
namespace Go.Proofs.YtcnbgpelfkbmpaaDoor
open Go.RowKit Go.ChangeShapes Go.WideShapes Go.ChangeAt Go.Deep
set_option linter.unusedVariables false
theorem reads_take {w : World} {B size n k : Nat} {A : Option Addr} {xs : List Value} (h : Reads w B size A n xs) (hk : k ≤ n) : Reads w B size A k (xs.take (k * size)) := by
  have hl := h.1
  have hm : k * size ≤ n * size := Nat.mul_le_mul_right _ hk
  refine ⟨by rw [List.length_take]; omega, fun hp => ?_⟩
  obtain ⟨ad, e, hb, hc⟩ := h.2 (by omega)
  refine ⟨ad, e, hb, fun j u hu => hc j u ?_⟩
  rw [List.getElem?_take] at hu
  split at hu
  · exact hu
  · cases hu
/-- What a cut behind k + 1 elements reads. -/
theorem reads_cut1 {w : World} {B size k r cap b o : Nat} {xs : List Value} (h : Reads w B size (some ⟨b, o, none⟩) (k + r + 1) xs) (hc : k + r + 1 ≤ cap) :
    ∃ A1, (if cap = k + 1 then (some ⟨b, o, none⟩ : Option Addr) else some ⟨b, o + (k + 1) * size, none⟩) = A1 ∧ Reads w B size A1 r (xs.drop ((k + 1) * size)) := by
  have := h.cut (k := k + 1) (cap := cap) (by omega) hc
  rw [Option.map_some, add_plain, show k + r + 1 - (k + 1) = r by omega] at this
  exact ⟨_, rfl, this⟩
end Go.Proofs.YtcnbgpelfkbmpaaDoor
