/- ParseInt of the reference. -/
import Derived.Test.YtomkgnamjfiocaaGreatDoorFmtI
namespace Go.Proofs.YtomkgnamjfiocaaGreatDoor
open Go.RowKit Go.ChangeShapes Go.WideShapes Go.ChangeAt Go.Deep
set_option linter.unusedVariables false
theorem take_snoc_s (s : ByteArray) (k : Nat) (h : k < s.size) : s.data.toList.take (k + 1) = s.data.toList.take k ++ [s[k]] := by
  rw [List.take_succ_eq_append_getElem (by simpa using h)]; rfl
theorem dgs_big (l : List UInt8) (h : l.length ≤ 11) : (dgs l).1 < 100000000000 := by
  have h1 := (dgs_lt l).1
  have h2 := Nat.pow_le_pow_right (n := 10) (by decide) (Nat.le_trans (dgs_lt l).2 h)
  have e : (10 : Nat) ^ 11 = 100000000000 := by decide
  omega
theorem dgStep_yes (p : Nat × Nat) (c : UInt8) (h0 : 48 ≤ c.toNat) (h1 : c.toNat ≤ 57) : dgStep p c = (p.1 * 10 + (c.toNat - 48), p.2 + 1) := by
  unfold dgStep Lib.digitVal
  rw [if_pos ⟨h0, h1⟩]
theorem dgStep_no (p : Nat × Nat) (c : UInt8) (h : ¬ (48 ≤ c.toNat ∧ c.toNat ≤ 57)) : dgStep p c = p := by
  unfold dgStep Lib.digitVal
  rw [if_neg h]
theorem head_at (s : ByteArray) (h : 0 < s.size) : s.data.toList.head? = some s[0] := by
  rw [List.head?_eq_getElem?, List.getElem?_eq_getElem (by simpa using h)]; rfl
end Go.Proofs.YtomkgnamjfiocaaGreatDoor
