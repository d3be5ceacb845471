/- Contracts of the number functions of both packages (within, l1In, EncodeHex, DecodeHex, EncodeFixed, DecodeFixed, EncodeVarint, DecodeVarint). -/
import Derived.Test.YtcnbgpelfkbmpaaDoorRows
import Derived.Test.YtcnbgpelfkbmpaaDoorMem
namespace Go.Proofs.YtcnbgpelfkbmpaaDoor
open Go.RowKit Go.ChangeShapes Go.WideShapes Go.ChangeAt Go.Deep
set_option linter.unusedVariables false

def inB (n a b : Int) : Bool := decide (a ≤ n ∧ n ≤ b)
theorem inB_true {n a b : Int} : inB n a b = true ↔ a ≤ n ∧ n ≤ b := by simp [inB]
theorem inB_false {n a b : Int} : inB n a b = false ↔ n < a ∨ b < n := by simp [inB]; omega

theorem within_any (n a b : Int) (w : World) :
    Calls Tryd.prog 91 #[.int .i64 n, .int .i64 a, .int .i64 b] w fun e w' => e = .returned (.bool (inB n a b)) ∧ w = w' := by
  by_cases h1 : a ≤ n
  · by_cases h2 : n ≤ b
    · have H : inB n a b = true := by simp [inB, h1, h2]
      rw [H]
      go_enter Tryd.func91, Tryd.ntmps91
      go_wp2
      go_ret
      exact ⟨rfl, rfl⟩
    · have H : inB n a b = false := by simp [inB, h1, h2]
      rw [H]
      go_enter Tryd.func91, Tryd.ntmps91
      go_wp2
      go_ret
      exact ⟨rfl, rfl⟩
  · have H : inB n a b = false := by simp [inB, h1]
    rw [H]
    go_enter Tryd.func91, Tryd.ntmps91
    go_wp2
    go_ret
    exact ⟨rfl, rfl⟩

theorem l1In_any (n a b : Int) (w : World) :
    Calls Tryd.prog 92 #[.int .i64 n, .int .i64 a, .int .i64 b] w fun e w' => e = .returned (.bool (inB n a b)) ∧ w = w' := by
  by_cases h1 : a ≤ n
  · by_cases h2 : n ≤ b
    · have H : inB n a b = true := by simp [inB, h1, h2]
      rw [H]
      go_enter Tryd.func92, Tryd.ntmps92
      go_wp2
      go_ret
      exact ⟨rfl, rfl⟩
    · have H : inB n a b = false := by simp [inB, h1, h2]
      rw [H]
      go_enter Tryd.func92, Tryd.ntmps92
      go_wp2
      go_ret
      exact ⟨rfl, rfl⟩
  · have H : inB n a b = false := by simp [inB, h1]
    rw [H]
    go_enter Tryd.func92, Tryd.ntmps92
    go_wp2
    go_ret
    exact ⟨rfl, rfl⟩
end Go.Proofs.YtcnbgpelfkbmpaaDoor
