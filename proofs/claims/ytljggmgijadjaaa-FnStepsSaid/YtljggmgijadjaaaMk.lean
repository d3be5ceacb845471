/- Steps and changes written and read again: markStepS, heldStepS, markChangeS, heldChangeS. -/
import Derived.Test.YtljggmgijadjaaaChg
namespace Go.Proofs.Ytljggmgijadjaaa
open Go.RowKit Go.ChangeShapes Go.WideShapes Go.ChangeAt Go.Deep
set_option linter.unusedVariables false
/-- Whether k is a multiple of three. -/
def m3 (k : Nat) : Bool := k % 3 == 0
theorem m3_int (k : Nat) : ((k : Int) % 3 == 0) = m3 k := by
  unfold m3
  rw [Bool.eq_iff_iff]
  simp
  omega
def smk (k i : Nat) : List Value := [.int .i64 ((k + i * 2 : Nat) : Int), .bool (m3 (k + i * 2 + 1))]
def smarks (k n : Nat) : List Value := (List.range n).flatMap (smk k)
theorem smk_len (k i : Nat) : (smk k i).length = 2 := rfl
theorem smarks_len (k n : Nat) : (smarks k n).length = n * 2 := by
  rw [smarks, flatMap_len (smk k) 2 (smk_len k), List.length_range]
theorem range_get {n i : Nat} (h : i < n) : (List.range n)[i]? = some i := by simp [h]
def cmk (k i : Nat) : List Value := [.bool (m3 (k + i * 5)), .int .i64 ((k + i * 5 + 1 : Nat) : Int), .int .i64 ((k + i * 5 + 1 + 1 : Nat) : Int), .int .i64 ((k + i * 5 + 1 + 1 + 1 : Nat) : Int), .int .i64 ((k + i * 5 + 1 + 1 + 1 + 1 : Nat) : Int)]
def cmarks (k n : Nat) : List Value := (List.range n).flatMap (cmk k)
theorem cmk_len (k i : Nat) : (cmk k i).length = 5 := rfl
theorem cmarks_len (k n : Nat) : (cmarks k n).length = n * 5 := by
  rw [cmarks, flatMap_len (cmk k) 5 (cmk_len k), List.length_range]
end Go.Proofs.Ytljggmgijadjaaa
