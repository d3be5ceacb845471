/- FormatGraph of both packages. -/
import Derived.Test.YtomkgnamjfiocaaGreatDoorFmtE
import Derived.Test.YtomkgnamjfiocaaGreatDoorFmtW
namespace Go.Proofs.YtomkgnamjfiocaaGreatDoor
open Go.RowKit Go.ChangeShapes Go.WideShapes Go.ChangeAt Go.Deep
set_option linter.unusedVariables false
def fmtV (xs : List Int) : List UInt8 := xs.flatMap Lib.itoa
def fmtEs (es : List E) : List UInt8 := es.flatMap (fun e => 32 :: fmtE e)
theorem fmtV_len : ∀ (xs : List Int), (∀ v ∈ xs, 0 ≤ v ∧ v ≤ 2) → (fmtV xs).length ≤ 10 * xs.length
  | [], _ => by simp [fmtV]
  | x :: r, h => by
    have h1 := fmtV_len r (fun v hv => h v (by simp [hv]))
    have h2 := h x (by simp)
    have h3 := itoa_len9 (n := x) (by omega) (by omega)
    simp only [fmtV, List.flatMap_cons, List.length_append, List.length_cons] at h1 ⊢
    omega
theorem fmtEs_len : ∀ (es : List E), (fmtEs es).length ≤ 17 * es.length
  | [] => by simp [fmtEs]
  | x :: r => by
    have h1 := fmtEs_len r
    have h3 := fmtE_len x
    simp only [fmtEs, List.flatMap_cons, List.length_append, List.length_cons] at h1 ⊢
    omega
theorem fmtV_take {xs : List Int} {k : Nat} {x : Int} (h : xs[k]? = some x) : fmtV (xs.take (k + 1)) = fmtV (xs.take k) ++ Lib.itoa x := by
  rw [List.take_add_one, h]
  simp [fmtV]
theorem fmtEs_take {es : List E} {k : Nat} {x : E} (h : es[k]? = some x) : fmtEs (es.take (k + 1)) = fmtEs (es.take k) ++ 32 :: fmtE x := by
  rw [List.take_add_one, h]
  simp [fmtEs]
theorem ba_of (S : ByteArray) (l : List UInt8) (h : S.data.toList = l) : S = ⟨l.toArray⟩ := ba_ext h
theorem mk_size (l : List UInt8) : (⟨l.toArray⟩ : ByteArray).size = l.length := by rw [Lib.size_eq]
end Go.Proofs.YtomkgnamjfiocaaGreatDoor
