/- Contracts of IsWord of both packages. -/
import Derived.Test.YtljggmgijadjaaaDoorInts
import Derived.Test.YtljggmgijadjaaaDoorLet
namespace Go.Proofs.YtljggmgijadjaaaDoor
open Go.RowKit Go.ChangeShapes Go.WideShapes Go.ChangeAt Go.Deep
set_option linter.unusedVariables false

def wordB (xs : List Int) : Bool := xs.all (fun x => inB x 0 8) && decide (xs.length ≤ 8)
set_option maxRecDepth 4000 in
set_option maxHeartbeats 400000 in
theorem implIsWord_any (A : Option Addr) (n c : Nat) (xs : List Int) (w : World) (hl : xs.length = n) (hn : n ≤ 2000000) (hr : Reads w w.heap.size 1 A n (xs.map iv)) :
    Calls Tryd.prog 64 #[.slice A n c] w fun e w' => e = .returned (.bool (wordB xs)) ∧ w = w' := by
  go_enter Tryd.func64, Tryd.ntmps64
  go_wp2
  go_loop [7] (fun i => ∃ k : Nat, k ≤ n ∧ i = .int .i64 k ∧ (xs.take k).all (fun x => inB x 0 8) = true) (fun i => n - (intOf i).toNat)
  case atStart => exact ⟨0, Nat.zero_le _, rfl, rfl⟩
  case round =>
    obtain ⟨k, hk, rfl, htk⟩ := hrel
    have HT := Lib.hid htk
    clear htk
    by_cases hlt : k < n
    · obtain ⟨ad, u, rfl, had, hu, hc⟩ := hr.at_ hlt
      have hv := iv_get hu (by omega)
      obtain ⟨x, hx⟩ : ∃ x, xs[k]'(by omega) = x := ⟨_, rfl⟩
      have HX := Lib.hid hx
      rw [hx] at hv
      subst hv
      unfold iv at hc
      clear hu hx
      cases hin : inB x 0 8
      · have hE : wordB xs = false := by
          simp only [wordB, Bool.and_eq_false_iff]
          left
          rw [List.all_eq_false]
          exact ⟨x, by rw [← HX.out]; exact List.getElem_mem _, by simp [hin]⟩
        have HE := Lib.hid hE
        clear hE
        go_wp2_with (go_at_call 58; refine (isLetter_any _ _).mono ?_; rintro e w' ⟨rfl, rfl⟩)
        go_ret
        exact ⟨by rw [HE.out] <;> rfl, rfl⟩
      · go_wp2_with (go_at_call 58; refine (isLetter_any _ _).mono ?_; rintro e w' ⟨rfl, rfl⟩)
        go_round
        case rel => exact ⟨k + 1, by omega, by go_num, by rw [List.take_succ_eq_append_getElem (by omega), List.all_append, HT.out, HX.out]; simp [hin]⟩
        case measure => simp [intOf]; omega
    · obtain rfl : k = n := by omega
      have hE : wordB xs = decide (k ≤ 8) := by
        have h := HT.out
        rw [List.take_of_length_le (by omega)] at h
        simp [wordB, h, hl]
      have HE := Lib.hid hE
      clear hE
      go_wp2
      go_ret
      exact ⟨by rw [HE.out]; first | rfl | (simp; omega), rfl⟩
set_option maxRecDepth 4000 in
set_option maxHeartbeats 400000 in
theorem specIsWord_any (A : Option Addr) (n c : Nat) (xs : List Int) (w : World) (hl : xs.length = n) (hn : n ≤ 2000000) (hr : Reads w w.heap.size 1 A n (xs.map iv)) :
    Calls Tryd.prog 28 #[.slice A n c] w fun e w' => e = .returned (.bool (wordB xs)) ∧ w = w' := by
  go_enter Tryd.func28, Tryd.ntmps28
  go_wp2
  go_loop [3] (fun i => ∃ k : Nat, k ≤ n ∧ i = .int .i64 k ∧ (xs.take k).all (fun x => inB x 0 8) = true) (fun i => n - (intOf i).toNat)
  case atStart => exact ⟨0, Nat.zero_le _, rfl, rfl⟩
  case round =>
    obtain ⟨k, hk, rfl, htk⟩ := hrel
    have HT := Lib.hid htk
    clear htk
    by_cases hlt : k < n
    · obtain ⟨ad, u, rfl, had, hu, hc⟩ := hr.at_ hlt
      have hv := iv_get hu (by omega)
      obtain ⟨x, hx⟩ : ∃ x, xs[k]'(by omega) = x := ⟨_, rfl⟩
      have HX := Lib.hid hx
      rw [hx] at hv
      subst hv
      unfold iv at hc
      clear hu hx
      cases hin : inB x 0 8
      · have hE : wordB xs = false := by
          simp only [wordB, Bool.and_eq_false_iff]
          left
          rw [List.all_eq_false]
          exact ⟨x, by rw [← HX.out]; exact List.getElem_mem _, by simp [hin]⟩
        have HE := Lib.hid hE
        clear hE
        go_wp2_with (go_at_call 59; refine (l2Letter_any _ _).mono ?_; rintro e w' ⟨rfl, rfl⟩)
        go_ret
        exact ⟨by rw [HE.out] <;> rfl, rfl⟩
      · go_wp2_with (go_at_call 59; refine (l2Letter_any _ _).mono ?_; rintro e w' ⟨rfl, rfl⟩)
        go_round
        case rel => exact ⟨k + 1, by omega, by go_num, by rw [List.take_succ_eq_append_getElem (by omega), List.all_append, HT.out, HX.out]; simp [hin]⟩
        case measure => simp [intOf]; omega
    · obtain rfl : k = n := by omega
      have hE : wordB xs = decide (k ≤ 8) := by
        have h := HT.out
        rw [List.take_of_length_le (by omega)] at h
        simp [wordB, h, hl]
      have HE := Lib.hid hE
      clear hE
      go_wp2
      go_ret
      exact ⟨by rw [HE.out]; first | rfl | (simp; omega), rfl⟩
end Go.Proofs.YtljggmgijadjaaaDoor
