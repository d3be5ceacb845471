/- Contracts of the letters' functions of both packages: l2Letter, FormatLetter, ParseLetter. -/
import Derived.Test.YtolilkbejghocaaLetA
namespace Go.Proofs.Ytolilkbejghocaa
open Go.RowKit Go.ChangeShapes Go.WideShapes Go.ChangeAt Go.Deep
set_option linter.unusedVariables false

theorem l2Letter_any (n : Int) (w : World) :
    Calls Try.prog 142 #[.int .i64 n] w fun e w' => e = .returned (.bool (inB n 0 8)) ∧ w = w' := by
  go_enter Try.func142, Try.ntmps142
  go_wp2_with (go_at_call 83; refine (l1In_any _ _ _ _).mono ?_; rintro e w' ⟨rfl, rfl⟩)
  go_ret
  exact ⟨rfl, rfl⟩
def letters : List (List UInt8) := [[97], [97, 45], [98], [98, 45], [99], [99, 45], [48], [49], [50]]
def fmtL (n : Int) : List UInt8 := if inB n 0 8 then letters.getD n.toNat [] else []
set_option maxHeartbeats 4000000 in
theorem implFormatL_any (n : Int) (w : World) :
    Calls Try.prog 115 #[.int .i64 n] w fun e w' => e = .returned (.string ⟨(fmtL n).toArray⟩) ∧ Below w.heap.size w w' := by
  by_cases h : inB n 0 8 = true
  · have h' := inB_true.1 h
    have : n = 0 ∨ n = 1 ∨ n = 2 ∨ n = 3 ∨ n = 4 ∨ n = 5 ∨ n = 6 ∨ n = 7 ∨ n = 8 := by omega
    rcases this with rfl | rfl | rfl | rfl | rfl | rfl | rfl | rfl | rfl
    all_goals
      go_enter Try.func115, Try.ntmps115
      go_wp2_with (go_at_call 125; refine (isLetter_any _ _).mono ?_; rintro e w' ⟨rfl, rfl⟩)
      go_ret
      exact ⟨rfl, (Below.refl _ _).alloc (Nat.le_refl _) _⟩
  · have h1 : inB n 0 8 = false := by simpa using h
    go_enter Try.func115, Try.ntmps115
    go_wp2_with (go_at_call 125; refine (isLetter_any _ _).mono ?_; rintro e w' ⟨rfl, rfl⟩)
    go_ret
    exact ⟨by simp [fmtL, h1], Below.refl _ _⟩
set_option maxHeartbeats 4000000 in
theorem specFormatL_any (n : Int) (w : World) :
    Calls Try.prog 113 #[.int .i64 n] w fun e w' => e = .returned (.string ⟨(fmtL n).toArray⟩) ∧ Below w.heap.size w w' := by
  by_cases h : inB n 0 8 = true
  · have h' := inB_true.1 h
    have : n = 0 ∨ n = 1 ∨ n = 2 ∨ n = 3 ∨ n = 4 ∨ n = 5 ∨ n = 6 ∨ n = 7 ∨ n = 8 := by omega
    rcases this with rfl | rfl | rfl | rfl | rfl | rfl | rfl | rfl | rfl
    all_goals
      go_enter Try.func113, Try.ntmps113
      go_wp2_with (go_at_call 142; refine (l2Letter_any _ _).mono ?_; rintro e w' ⟨rfl, rfl⟩)
      go_ret
      exact ⟨rfl, (Below.refl _ _).alloc (Nat.le_refl _) _⟩
  · have h1 : inB n 0 8 = false := by simpa using h
    go_enter Try.func113, Try.ntmps113
    go_wp2_with (go_at_call 142; refine (l2Letter_any _ _).mono ?_; rintro e w' ⟨rfl, rfl⟩)
    go_ret
    exact ⟨by simp [fmtL, h1], Below.refl _ _⟩

def letIx (l : List UInt8) : Nat := letters.idxOf l
def parseLN (l : List UInt8) : Int := if letIx l < 9 then (letIx l : Int) else 0
def parseLB (l : List UInt8) : Bool := decide (letIx l < 9)
theorem letIx_le (l : List UInt8) : letIx l ≤ 9 := by unfold letIx; exact List.idxOf_le_length (l := letters)
theorem letters_nodup : letters.Nodup := by decide
theorem letIx_hit {l : List UInt8} {k : Nat} (hk : k < 9) : fmtL (k : Int) = l ↔ letIx l = k := by
  have h9 : k < letters.length := hk
  have hf : fmtL (k : Int) = letters[k]'h9 := by
    unfold fmtL
    rw [if_pos (inB_true.2 (by omega))]
    simp [List.getD, List.getElem?_eq_getElem h9]
  rw [hf]
  constructor
  · rintro rfl
    unfold letIx
    exact letters_nodup.idxOf_getElem k h9
  · intro h
    unfold letIx at h
    subst h
    exact List.getElem_idxOf h9
end Go.Proofs.Ytolilkbejghocaa
