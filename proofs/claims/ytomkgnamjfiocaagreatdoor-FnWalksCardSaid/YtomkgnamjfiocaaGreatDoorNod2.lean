/- NodesAfter of the reference: sets as bits. -/
import Derived.Test.YtomkgnamjfiocaaGreatDoorNod
namespace Go.Proofs.YtomkgnamjfiocaaGreatDoor
open Go.RowKit Go.ChangeShapes Go.WideShapes Go.ChangeAt Go.Deep
set_option linter.unusedVariables false
theorem bit_form (m k : Nat) (hm : m < 9223372036854775808) : (bits .and .i64 ((m : Int) / 2 ^ k) 1 == (1 : Int)) = m.testBit k := by
  have e : (m : Int) / 2 ^ k = ((m / 2 ^ k : Nat) : Int) := by push_cast; rfl
  have hlt : m / 2 ^ k < 9223372036854775808 := Nat.lt_of_le_of_lt (Nat.div_le_self _ _) hm
  have h1 := i64_and_nat (m / 2 ^ k) 1 hlt (by omega)
  rw [e]
  have h1' : bits .and .i64 ((m / 2 ^ k : Nat) : Int) 1 = ((m / 2 ^ k &&& 1 : Nat) : Int) := h1
  rw [h1', Nat.and_one_is_mod, Nat.testBit_eq_decide_div_mod_eq, Bool.eq_iff_iff]
  simp
  omega
theorem or_form (M t : Nat) (hM : M < 32) (ht : t ≤ 4) : bits .or .i64 (M : Int) (wrap64 (2 ^ t)) = ((M ||| 2 ^ t : Nat) : Int) := by
  have hw : wrap64 ((2 : Int) ^ t) = ((2 ^ t : Nat) : Int) := by
    have h : t = 0 ∨ t = 1 ∨ t = 2 ∨ t = 3 ∨ t = 4 := by omega
    rcases h with rfl | rfl | rfl | rfl | rfl <;> (rw [IntWalk.wrap64_in _ ⟨by decide, by decide⟩] <;> rfl)
  have hp : 2 ^ t < 9223372036854775808 := by
    have := Nat.pow_le_pow_right (n := 2) (by omega) ht
    omega
  rw [hw]
  exact i64_or_nat M (2 ^ t) (by omega) hp
end Go.Proofs.YtomkgnamjfiocaaGreatDoor
