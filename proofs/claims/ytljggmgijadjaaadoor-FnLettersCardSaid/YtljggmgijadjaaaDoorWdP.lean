/- Letters and words, turned, compared, written and read back: plain facts, no program. -/
import Derived.Test.YtljggmgijadjaaaDoorPrsWd
import Derived.Test.YtljggmgijadjaaaDoorFmtW
import Derived.Test.YtljggmgijadjaaaDoorRev
import Derived.Test.YtljggmgijadjaaaDoorCmp
namespace Go.Proofs.YtljggmgijadjaaaDoor
open Go.RowKit Go.ChangeShapes Go.WideShapes Go.ChangeAt Go.Deep
set_option linter.unusedVariables false
theorem six {n : Int} (h : inB n 0 5 = true) : n = 0 ∨ n = 1 ∨ n = 2 ∨ n = 3 ∨ n = 4 ∨ n = 5 := by
  have := inB_true.1 h
  omega
theorem nine {n : Int} (h : inB n 0 8 = true) : ∃ k : Nat, n = (k : Int) ∧ k < 9 := by
  have := inB_true.1 h
  exact ⟨n.toNat, by omega, by omega⟩
theorem invL_six {n : Int} (h : inB n 0 5 = true) : inB (invL n) 0 5 = true ∧ invL (invL n) = n ∧ invL n ≠ n := by
  rcases six h with rfl | rfl | rfl | rfl | rfl | rfl <;> decide
theorem invL_out {n : Int} (h : inB n 0 5 = false) : invL n = n := by unfold invL; rw [h]; rfl
theorem invL_two (n : Int) : invL (invL n) = n := by
  cases h : inB n 0 5 with
  | true => exact (invL_six h).2.1
  | false => rw [invL_out h, invL_out h]
theorem invL_move (n : Int) : inB n 0 5 = decide (invL n ≠ n) := by
  cases h : inB n 0 5 with
  | true => simp [(invL_six h).2.2]
  | false => simp [invL_out h]
theorem fmtL_out {n : Int} (h : inB n 0 8 = false) : fmtL n = [] := by unfold fmtL; rw [h]; rfl
theorem fmtL_back {n : Int} (h : inB n 0 8 = true) : fmtL n ≠ [] ∧ parseLB (fmtL n) = true ∧ parseLN (fmtL n) = n ∧ 32 ∉ fmtL n ∧ fmtL n ≠ [40, 41] := by
  obtain ⟨k, rfl, hk⟩ := nine h
  have hx := (letIx_hit hk).1 rfl
  refine ⟨fun e => ?_, ?_, ?_, ?_, ?_⟩
  · rw [e] at hx
    have : letIx [] = 9 := by decide
    omega
  · unfold parseLB
    rw [hx]
    simpa using hk
  · unfold parseLN
    rw [hx, if_pos hk]
  · have : k = 0 ∨ k = 1 ∨ k = 2 ∨ k = 3 ∨ k = 4 ∨ k = 5 ∨ k = 6 ∨ k = 7 ∨ k = 8 := by omega
    rcases this with rfl | rfl | rfl | rfl | rfl | rfl | rfl | rfl | rfl <;> decide
  · have : k = 0 ∨ k = 1 ∨ k = 2 ∨ k = 3 ∨ k = 4 ∨ k = 5 ∨ k = 6 ∨ k = 7 ∨ k = 8 := by omega
    rcases this with rfl | rfl | rfl | rfl | rfl | rfl | rfl | rfl | rfl <;> decide
theorem parse_nil : parseLB [] = false := by decide
theorem revW_two (xs : List Int) : revW (revW xs) = xs := by
  unfold revW
  rw [← List.map_reverse, List.map_map, List.reverse_reverse]
  have : (invL ∘ invL) = id := by
    funext n
    exact invL_two n
  rw [this, List.map_id]
theorem cmpL_neg : ∀ (xs ys : List Int), cmpL ys xs = -cmpL xs ys
  | [], [] => rfl
  | [], _ :: _ => rfl
  | _ :: _, [] => rfl
  | x :: xs, y :: ys => by
    have ih := cmpL_neg xs ys
    unfold cmpL
    split <;> split <;> omega
theorem cmpL_zero : ∀ (xs ys : List Int), (cmpL xs ys = 0 ↔ xs = ys)
  | [], [] => by simp [cmpL]
  | [], _ :: _ => by simp [cmpL]
  | _ :: _, [] => by simp [cmpL]
  | x :: xs, y :: ys => by
    have ih := cmpL_zero xs ys
    unfold cmpL
    by_cases h1 : x < y
    · rw [if_pos h1]
      simp
      omega
    · by_cases h2 : y < x
      · rw [if_neg h1, if_pos h2]
        simp
        omega
      · obtain rfl : x = y := by omega
        rw [if_neg h1, if_neg h2, ih]
        simp
theorem cmpW_neg (xs ys : List Int) : cmpW ys xs = -cmpW xs ys := by
  have h := cmpL_neg xs ys
  unfold cmpW
  split <;> split <;> omega
theorem cmpW_zero (xs ys : List Int) : (cmpW xs ys = 0 ↔ xs = ys) := by
  have h := cmpL_zero xs ys
  unfold cmpW
  by_cases h1 : xs.length < ys.length
  · rw [if_pos h1]
    refine ⟨fun e => by omega, fun e => by subst e; omega⟩
  · by_cases h2 : ys.length < xs.length
    · rw [if_neg h1, if_pos h2]
      refine ⟨fun e => by omega, fun e => by subst e; omega⟩
    · rw [if_neg h1, if_neg h2, h]
theorem join_glue : ∀ (x : List UInt8) (r : List (List UInt8)), Lib.join (x :: r) [32] = glue 32 (x :: r) := by
  intro x r
  rw [Lib.join_cons]
  show x ++ (r.map ([32] ++ ·)).flatten = x ++ r.flatMap (fun y => 32 :: y)
  rw [List.flatMap_def]
  rfl
theorem word_back (xs : List Int) : prsWdB (fmtWd xs) = wordB xs ∧ (wordB xs = true → prsWdN (fmtWd xs) = xs) := by
  cases hw : wordB xs with
  | false =>
    have hf : fmtWd xs = [] := by unfold fmtWd; rw [hw]; rfl
    have hp : prsWd [] = none := by
      rw [prsWd_if (by simp)]
      simp [cutL, parse_nil]
    refine ⟨?_, by simp⟩
    unfold prsWdB
    rw [hf, hp]
    rfl
  | true =>
    have key : prsWd (fmtWd xs) = some xs := by
      unfold fmtWd
      rw [hw, if_pos rfl]
      cases xs with
      | nil => exact prsWd_paren rfl
      | cons x r =>
        rw [if_neg (by simp)]
        have hall : ∀ y ∈ x :: r, inB y 0 8 = true := by
          have h1 : (x :: r).all (fun x => inB x 0 8) = true := by
            unfold wordB at hw
            exact (Bool.and_eq_true_iff.1 hw).1
          exact List.all_eq_true.1 h1
        have hcut : cutL 32 (Lib.join ((x :: r).map fmtL) [32]) = (x :: r).map fmtL := by
          rw [List.map_cons, join_glue]
          refine cutL_of_glue 32 _ _ (fmtL_back (hall x (by simp))).2.2.2.1 ?_
          intro y hy
          obtain ⟨z, hz, rfl⟩ := List.mem_map.1 hy
          exact (fmtL_back (hall z (List.mem_cons_of_mem _ hz))).2.2.2.1
        have hne : Lib.join ((x :: r).map fmtL) [32] ≠ [40, 41] := by
          intro e
          have h2 : cutL 32 [40, 41] = [[40, 41]] := by decide
          rw [e, h2, List.map_cons] at hcut
          injection hcut with h3 _
          exact (fmtL_back (hall x (by simp))).2.2.2.2 h3.symm
        have hpl : ((x :: r).map fmtL).all parseLB = true := by
          rw [List.all_eq_true]
          intro y hy
          obtain ⟨z, hz, rfl⟩ := List.mem_map.1 hy
          exact (fmtL_back (hall z hz)).2.1
        have hpn : ((x :: r).map fmtL).map parseLN = x :: r := by
          rw [List.map_map]
          conv => rhs; rw [← List.map_id (x :: r)]
          exact List.map_congr_left fun z hz => (fmtL_back (hall z hz)).2.2.1
        rw [prsWd_if hne, hcut, hpl, hpn, hw]
        rfl
    unfold prsWdB prsWdN
    rw [key]
    exact ⟨rfl, fun _ => rfl⟩
end Go.Proofs.YtljggmgijadjaaaDoor
