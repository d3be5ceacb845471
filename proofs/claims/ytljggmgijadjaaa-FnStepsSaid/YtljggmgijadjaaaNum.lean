/- Contracts of the number functions of both packages (within, l1In, EncodeHex, DecodeHex, EncodeFixed, DecodeFixed, EncodeVarint, DecodeVarint). -/
import Derived.Test.YtljggmgijadjaaaRows
import Derived.Test.YtljggmgijadjaaaMem
namespace Go.Proofs.Ytljggmgijadjaaa
open Go.RowKit Go.ChangeShapes Go.WideShapes Go.ChangeAt Go.Deep
set_option linter.unusedVariables false

def inB (n a b : Int) : Bool := decide (a ≤ n ∧ n ≤ b)
theorem inB_true {n a b : Int} : inB n a b = true ↔ a ≤ n ∧ n ≤ b := by simp [inB]
theorem inB_false {n a b : Int} : inB n a b = false ↔ n < a ∨ b < n := by simp [inB]; omega

theorem within_any (n a b : Int) (w : World) :
    Calls Try.prog 29 #[.int .i64 n, .int .i64 a, .int .i64 b] w fun e w' => e = .returned (.bool (inB n a b)) ∧ w = w' := by
  by_cases h1 : a ≤ n
  · by_cases h2 : n ≤ b
    · have H : inB n a b = true := by simp [inB, h1, h2]
      rw [H]
      go_enter Try.func29, Try.ntmps29
      go_wp2
      go_ret
      exact ⟨rfl, rfl⟩
    · have H : inB n a b = false := by simp [inB, h1, h2]
      rw [H]
      go_enter Try.func29, Try.ntmps29
      go_wp2
      go_ret
      exact ⟨rfl, rfl⟩
  · have H : inB n a b = false := by simp [inB, h1]
    rw [H]
    go_enter Try.func29, Try.ntmps29
    go_wp2
    go_ret
    exact ⟨rfl, rfl⟩

theorem l1In_any (n a b : Int) (w : World) :
    Calls Try.prog 31 #[.int .i64 n, .int .i64 a, .int .i64 b] w fun e w' => e = .returned (.bool (inB n a b)) ∧ w = w' := by
  by_cases h1 : a ≤ n
  · by_cases h2 : n ≤ b
    · have H : inB n a b = true := by simp [inB, h1, h2]
      rw [H]
      go_enter Try.func31, Try.ntmps31
      go_wp2
      go_ret
      exact ⟨rfl, rfl⟩
    · have H : inB n a b = false := by simp [inB, h1, h2]
      rw [H]
      go_enter Try.func31, Try.ntmps31
      go_wp2
      go_ret
      exact ⟨rfl, rfl⟩
  · have H : inB n a b = false := by simp [inB, h1]
    rw [H]
    go_enter Try.func31, Try.ntmps31
    go_wp2
    go_ret
    exact ⟨rfl, rfl⟩
end Go.Proofs.Ytljggmgijadjaaa
