/- Contracts of the letters' functions of both packages: l2Letter, FormatLetter, ParseLetter. -/
import Derived.Test.YtljggmgijadjaaaDoorLetA
namespace Go.Proofs.YtljggmgijadjaaaDoor
open Go.RowKit Go.ChangeShapes Go.WideShapes Go.ChangeAt Go.Deep
set_option linter.unusedVariables false

theorem l2Letter_any (n : Int) (w : World) :
    Calls Tryd.prog 59 #[.int .i64 n] w fun e w' => e = .returned (.bool (inB n 0 8)) ∧ w = w' := by
  go_enter Tryd.func59, Tryd.ntmps59
  go_wp2_with (go_at_call 57; refine (l1In_any _ _ _ _).mono ?_; rintro e w' ⟨rfl, rfl⟩)
  go_ret
  exact ⟨rfl, rfl⟩
def letters : List (List UInt8) := [[97], [97, 45], [98], [98, 45], [99], [99, 45], [48], [49], [50]]
def fmtL (n : Int) : List UInt8 := if inB n 0 8 then letters.getD n.toNat [] else []
set_option maxHeartbeats 4000000 in
theorem implFormatL_any (n : Int) (w : World) :
    Calls Tryd.prog 18 #[.int .i64 n] w fun e w' => e = .returned (.string ⟨(fmtL n).toArray⟩) ∧ Below w.heap.size w w' := by
  by_cases h : inB n 0 8 = true
  · have h' := inB_true.1 h
    have : n = 0 ∨ n = 1 ∨ n = 2 ∨ n = 3 ∨ n = 4 ∨ n = 5 ∨ n = 6 ∨ n = 7 ∨ n = 8 := by omega
    rcases this with rfl | rfl | rfl | rfl | rfl | rfl | rfl | rfl | rfl
    all_goals
      go_enter Tryd.func18, Tryd.ntmps18
      go_wp2_with (go_at_call 58; refine (isLetter_any _ _).mono ?_; rintro e w' ⟨rfl, rfl⟩)
      go_ret
      exact ⟨rfl, (Below.refl _ _).alloc (Nat.le_refl _) _⟩
  · have h1 : inB n 0 8 = false := by simpa using h
    go_enter Tryd.func18, Tryd.ntmps18
    go_wp2_with (go_at_call 58; refine (isLetter_any _ _).mono ?_; rintro e w' ⟨rfl, rfl⟩)
    go_ret
    exact ⟨by simp [fmtL, h1], Below.refl _ _⟩
set_option maxHeartbeats 4000000 in
theorem specFormatL_any (n : Int) (w : World) :
    Calls Tryd.prog 19 #[.int .i64 n] w fun e w' => e = .returned (.string ⟨(fmtL n).toArray⟩) ∧ Below w.heap.size w w' := by
  by_cases h : inB n 0 8 = true
  · have h' := inB_true.1 h
    have : n = 0 ∨ n = 1 ∨ n = 2 ∨ n = 3 ∨ n = 4 ∨ n = 5 ∨ n = 6 ∨ n = 7 ∨ n = 8 := by omega
    rcases this with rfl | rfl | rfl | rfl | rfl | rfl | rfl | rfl | rfl
    all_goals
      go_enter Tryd.func19, Tryd.ntmps19
      go_wp2_with (go_at_call 59; refine (l2Letter_any _ _).mono ?_; rintro e w' ⟨rfl, rfl⟩)
      go_ret
      exact ⟨rfl, (Below.refl _ _).alloc (Nat.le_refl _) _⟩
  · have h1 : inB n 0 8 = false := by simpa using h
    go_enter Tryd.func19, Tryd.ntmps19
    go_wp2_with (go_at_call 59; refine (l2Letter_any _ _).mono ?_; rintro e w' ⟨rfl, rfl⟩)
    go_ret
    exact ⟨by simp [fmtL, h1], Below.refl _ _⟩

def letIx (l : List UInt8) : Nat := letters.idxOf l
def parseLN (l : List UInt8) : Int := if letIx l < 9 then (letIx l : Int) else 0
def parseLB (l : List UInt8) : Bool := decide (letIx l < 9)
theorem letIx_le (l : List UInt8) : letIx l ≤ 9 := by unfold letIx; exact List.idxOf_le_length (l := letters)
theorem letters_nodup : letters.Nodup := by decide
theorem letIx_hit {l : List UInt8} {k : Nat} (hk : k < 9) : fmtL (k : Int) = l ↔ letIx l = k := by
  have h9 : k < letters.length := hk
  have hf : fmtL (k : Int) = letters[k]'h9 := by
    unfold fmtL
    rw [if_pos (inB_true.2 (by omega))]
    simp [List.getD, List.getElem?_eq_getElem h9]
  rw [hf]
  constructor
  · rintro rfl
    unfold letIx
    exact letters_nodup.idxOf_getElem k h9
  · intro h
    unfold letIx at h
    subst h
    exact List.getElem_idxOf h9
set_option maxHeartbeats 1000000 in
theorem implParseL_any (s : ByteArray) (w : World) :
    Calls Tryd.prog 17 #[.string s] w fun e w' => e = .returned (.tuple #[.int .i64 (parseLN s.data.toList), .bool (parseLB s.data.toList)]) ∧ Below w.heap.size w w' := by
  have hle := letIx_le s.data.toList
  go_enter Tryd.func17, Tryd.ntmps17
  go_wp2
  go_loopw [4] (fun i wr => ∃ k : Nat, k ≤ letIx s.data.toList ∧ i = .int .i64 k ∧ Below w.heap.size w wr) (fun i _ => 9 - (intOf i).toNat)
  case atStart => exact ⟨0, Nat.zero_le _, rfl, Below.refl _ _⟩
  case round =>
    obtain ⟨k, hk, rfl, hbel⟩ := hrel
    by_cases h9 : k < 9
    · go_wp2_with (go_at_call 18; refine (implFormatL_any _ _).mono ?_; rintro e w1 ⟨rfl, hb1⟩)
      · have hh : (fmtL ↑k == s.toList) = true := by assumption
        have hi : letIx s.data.toList = k := (letIx_hit h9).1 (by rw [← ByteArray.toList_eq]; simpa using hh)
        have hn : parseLN s.data.toList = (k : Int) := by simp [parseLN, hi, h9]
        have hb : parseLB s.data.toList = true := by simp [parseLB, hi, h9]
        rw [hn, hb]
        go_ret2
        exact ⟨rfl, hbel.trans (hb1.mono hbel.size)⟩
      · have hh : (fmtL ↑k == s.toList) = false := by assumption
        have hi : letIx s.data.toList ≠ k := fun hx => by
          have := (letIx_hit (l := s.data.toList) h9).2 hx
          rw [← ByteArray.toList_eq] at this
          simp [this] at hh
        go_roundw
        case rel => exact ⟨k + 1, by omega, by go_num, hbel.trans (hb1.mono hbel.size)⟩
        case measure => simp [intOf]; omega
    · have hi : ¬ letIx s.data.toList < 9 := by omega
      have hn : parseLN s.data.toList = 0 := by simp [parseLN, hi]
      have hb : parseLB s.data.toList = false := by simp [parseLB, hi]
      have H := Lib.hid (And.intro hn hb)
      clear hn hb hi
      go_wp2
      rw [H.out.1, H.out.2]
      go_ret2
      exact ⟨rfl, hbel⟩
set_option maxHeartbeats 1000000 in
theorem specParseL_any (s : ByteArray) (w : World) :
    Calls Tryd.prog 73 #[.string s] w fun e w' => e = .returned (.tuple #[.int .i64 (parseLN s.data.toList), .bool (parseLB s.data.toList)]) ∧ Below w.heap.size w w' := by
  have hle := letIx_le s.data.toList
  go_enter Tryd.func73, Tryd.ntmps73
  go_wp2
  go_loopw [4] (fun i wr => ∃ k : Nat, k ≤ letIx s.data.toList ∧ i = .int .i64 k ∧ Below w.heap.size w wr) (fun i _ => 9 - (intOf i).toNat)
  case atStart => exact ⟨0, Nat.zero_le _, rfl, Below.refl _ _⟩
  case round =>
    obtain ⟨k, hk, rfl, hbel⟩ := hrel
    by_cases h9 : k < 9
    · go_wp2_with (go_at_call 19; refine (specFormatL_any _ _).mono ?_; rintro e w1 ⟨rfl, hb1⟩)
      · have hh : (fmtL ↑k == s.toList) = true := by assumption
        have hi : letIx s.data.toList = k := (letIx_hit h9).1 (by rw [← ByteArray.toList_eq]; simpa using hh)
        have hn : parseLN s.data.toList = (k : Int) := by simp [parseLN, hi, h9]
        have hb : parseLB s.data.toList = true := by simp [parseLB, hi, h9]
        rw [hn, hb]
        go_ret2
        exact ⟨rfl, hbel.trans (hb1.mono hbel.size)⟩
      · have hh : (fmtL ↑k == s.toList) = false := by assumption
        have hi : letIx s.data.toList ≠ k := fun hx => by
          have := (letIx_hit (l := s.data.toList) h9).2 hx
          rw [← ByteArray.toList_eq] at this
          simp [this] at hh
        go_roundw
        case rel => exact ⟨k + 1, by omega, by go_num, hbel.trans (hb1.mono hbel.size)⟩
        case measure => simp [intOf]; omega
    · have hi : ¬ letIx s.data.toList < 9 := by omega
      have hn : parseLN s.data.toList = 0 := by simp [parseLN, hi]
      have hb : parseLB s.data.toList = false := by simp [parseLB, hi]
      have H := Lib.hid (And.intro hn hb)
      clear hn hb hi
      go_wp2
      rw [H.out.1, H.out.2]
      go_ret2
      exact ⟨rfl, hbel⟩
end Go.Proofs.YtljggmgijadjaaaDoor
