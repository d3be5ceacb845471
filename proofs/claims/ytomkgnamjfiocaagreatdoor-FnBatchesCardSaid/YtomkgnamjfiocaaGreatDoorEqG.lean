/- Contracts of EqualGraphs of both packages. -/
import Derived.Test.YtomkgnamjfiocaaGreatDoorBaseA
namespace Go.Proofs.YtomkgnamjfiocaaGreatDoor
open Go.RowKit Go.ChangeShapes Go.WideShapes Go.ChangeAt Go.Deep
set_option linter.unusedVariables false
theorem cmpL_zero : ∀ (xs ys : List Int), cmpL xs ys = 0 ↔ xs = ys
  | [], [] => by simp [cmpL]
  | [], _ :: _ => by simp [cmpL]
  | _ :: _, [] => by simp [cmpL]
  | x :: xs, y :: ys => by
    unfold cmpL
    rw [List.cons.injEq, ← cmpL_zero xs ys]
    split
    · simp; omega
    · split
      · simp; omega
      · constructor
        · intro h; exact ⟨by omega, h⟩
        · intro h; exact h.2
set_option maxRecDepth 4000 in
set_option maxHeartbeats 1000000 in
theorem l2Cmp_gen (A B : Option Addr) (n c m d : Nat) (xs ys : List Int) (w : World) (hl : xs.length = n) (hl2 : ys.length = m) (hn : n ≤ 2000000) (hm : m ≤ 2000000) (hr : Reads w w.heap.size 1 A n (xs.map iv)) (hr2 : Reads w w.heap.size 1 B m (ys.map iv)) :
    Calls Tryz.prog 77 #[.slice A n c, .slice B m d] w fun e w' => e = .returned (.int .i64 (cmpL xs ys)) ∧ Below w.heap.size w w' := by
  go_enter Tryz.func77, Tryz.ntmps77
  go_wp2
  go_loopw [5] (fun i wr => ∃ k : Nat, k ≤ n ∧ k ≤ m ∧ i = .int .i64 k ∧ cmpL (xs.drop k) (ys.drop k) = cmpL xs ys ∧ ∃ q, wr = w.drewN q) (fun i _ => n - (intOf i).toNat)
  case atStart => exact ⟨0, Nat.zero_le _, Nat.zero_le _, rfl, rfl, 0, rfl⟩
  case round =>
    obtain ⟨k, hk, hk2, rfl, htk, q, rfl⟩ := hrel
    have HT := Lib.hid htk
    clear htk
    by_cases hlt : k < n
    · by_cases hlt2 : k < m
      rotate_left
      · obtain rfl : k = m := by omega
        have hE : cmpL xs ys = 1 := by rw [← HT.out, show ys.drop k = [] from List.drop_of_length_le (by omega), List.drop_eq_getElem_cons (show k < xs.length by omega)]; rfl
        have HE := Lib.hid hE
        clear hE HT
        go_wp2
        go_ret
        exact ⟨by rw [HE.out] <;> rfl, by repeat (first | exact Below.refl _ _ | refine below_drewN ?_ _)⟩
      obtain ⟨ad, u, rfl, had, hu, hc⟩ := hr.at_ hlt
      obtain ⟨bd, u2, rfl, hbd, hu2, hc2⟩ := hr2.at_ hlt2
      have hv := iv_get hu (by omega)
      have hv2 := iv_get hu2 (by omega)
      have hD := cmpL_drop (xs := xs) (ys := ys) (k := k) (by omega) (by omega)
      obtain ⟨x, hx⟩ : ∃ x, xs[k]'(by omega) = x := ⟨_, rfl⟩
      obtain ⟨y, hy⟩ : ∃ y, ys[k]'(by omega) = y := ⟨_, rfl⟩
      rw [hx, hy, HT.out] at hD
      rw [hx] at hv
      rw [hy] at hv2
      have HD := Lib.hid hD
      subst hv
      subst hv2
      unfold iv at hc hc2
      have hlt' : (k : Int) < n := by omega
      have hlt2' : (k : Int) < m := by omega
      clear hu hu2 hx hy HT hD
      rcases Int.lt_trichotomy x y with h | h | h
      · have hE : cmpL xs ys = -1 := by rw [HD.out, if_pos h]
        have HE := Lib.hid hE
        have h1 : decide (x < y) = true := by simpa using h
        clear HD hE
        go_wp2
        go_quiet (fail)
        go_wp2
        go_ret
        exact ⟨by rw [HE.out] <;> rfl, by repeat (first | exact Below.refl _ _ | refine below_drewN ?_ _)⟩
      · have hE : cmpL (xs.drop (k + 1)) (ys.drop (k + 1)) = cmpL xs ys := by rw [HD.out, if_neg (by omega), if_neg (by omega)]
        have HE := Lib.hid hE
        have h1 : decide (x < y) = false := by simp; omega
        have h2 : decide (y < x) = false := by simp; omega
        clear HD hE
        go_wp2
        go_quiet (fail)
        go_wp2
        go_quiet (fail)
        go_wp2
        go_roundw
        case rel => exact ⟨k + 1, by omega, by omega, by go_num, HE.out, _, rfl⟩
        case measure => simp [intOf]; omega
      · have hE : cmpL xs ys = 1 := by rw [HD.out, if_neg (by omega), if_pos h]
        have HE := Lib.hid hE
        have h1 : decide (x < y) = false := by simp; omega
        have h2 : decide (y < x) = true := by simpa using h
        clear HD hE
        go_wp2
        go_quiet (fail)
        go_wp2
        go_quiet (fail)
        go_wp2
        go_ret
        exact ⟨by rw [HE.out] <;> rfl, by repeat (first | exact Below.refl _ _ | refine below_drewN ?_ _)⟩
    · obtain rfl : k = n := by omega
      by_cases hlt2 : k < m
      · have hE : cmpL xs ys = -1 := by rw [← HT.out, show xs.drop k = [] from List.drop_of_length_le (by omega), List.drop_eq_getElem_cons (show k < ys.length by omega)]; rfl
        have HE := Lib.hid hE
        clear hE HT
        go_wp2
        go_ret
        exact ⟨by rw [HE.out] <;> rfl, by repeat (first | exact Below.refl _ _ | refine below_drewN ?_ _)⟩
      · obtain rfl : k = m := by omega
        have hE : cmpL xs ys = 0 := by rw [← HT.out, cmpL_end (by omega) (by omega)]
        have HE := Lib.hid hE
        clear hE HT
        go_wp2
        go_ret
        exact ⟨by rw [HE.out] <;> rfl, by repeat (first | exact Below.refl _ _ | refine below_drewN ?_ _)⟩
set_option maxRecDepth 4000 in
set_option maxHeartbeats 400000 in
theorem slEqInt_any (A B : Option Addr) (n c m d : Nat) (xs ys : List Int) (w : World) (hl : xs.length = n) (hl2 : ys.length = m) (hn : n ≤ 2000000) (hm : m ≤ 2000000) (hr : Reads w w.heap.size 1 A n (xs.map iv)) (hr2 : Reads w w.heap.size 1 B m (ys.map iv)) :
    Calls Tryz.prog 70 #[.slice A n c, .slice B m d] w fun e w' => e = .returned (.bool (eqB xs ys)) ∧ Below w.heap.size w w' := by
  by_cases hnm : n = m
  · obtain rfl : n = m := hnm
    have hnn : ((n : Int) != n) = false := by simp
    go_enter Tryz.func70, Tryz.ntmps70
    go_wp2
    clear hnn
    go_loopw [13] (fun i wr => ∃ k : Nat, k ≤ n ∧ i = .int .i64 k ∧ xs.take k = ys.take k ∧ ∃ q, wr = w.drewN q) (fun i _ => n - (intOf i).toNat)
    case atStart => exact ⟨0, Nat.zero_le _, rfl, rfl, 0, rfl⟩
    case round =>
      obtain ⟨k, hk, rfl, htk, q, rfl⟩ := hrel
      have HT := Lib.hid htk
      clear htk
      by_cases hlt : k < n
      · obtain ⟨ad, u, rfl, had, hu, hc⟩ := hr.at_ hlt
        obtain ⟨bd, u2, rfl, hbd, hu2, hc2⟩ := hr2.at_ hlt
        have hv := iv_get hu (by omega)
        have hv2 := iv_get hu2 (by omega)
        obtain ⟨x, hx⟩ : ∃ x, xs[k]'(by omega) = x := ⟨_, rfl⟩
        obtain ⟨y, hy⟩ : ∃ y, ys[k]'(by omega) = y := ⟨_, rfl⟩
        have HX := Lib.hid hx
        have HY := Lib.hid hy
        rw [hx] at hv
        rw [hy] at hv2
        subst hv
        subst hv2
        unfold iv at hc hc2
        have hlt' : (k : Int) < n := by omega
        clear hu hu2 hx hy
        by_cases hxy : x = y
        · have hne : (x != y) = false := by simp [hxy]
          go_wp2
          go_quiet (fail)
          go_wp2
          go_roundw
          case rel => exact ⟨k + 1, by omega, by go_num, (take_eq_succ HT.out (by omega) (by omega)).2 (by rw [HX.out, HY.out, hxy]), _, rfl⟩
          case measure => simp [intOf]; omega
        · have hne : (x != y) = true := by simp [hxy]
          go_wp2
          go_quiet (fail)
          go_wp2
          have hE : eqB xs ys = false := by
            simp only [eqB, decide_eq_false_iff_not]
            rintro rfl
            exact hxy (HX.out.symm.trans HY.out)
          go_ret
          exact ⟨by rw [hE] <;> rfl, by repeat (first | exact Below.refl _ _ | refine below_drewN ?_ _)⟩
      · obtain rfl : k = n := by omega
        have hE : eqB xs ys = true := by
          simp only [eqB, decide_eq_true_eq]
          have h := HT.out
          rwa [List.take_of_length_le (by omega), List.take_of_length_le (by omega)] at h
        have HE := Lib.hid hE
        clear hE
        go_wp2
        go_ret
        exact ⟨by rw [HE.out] <;> rfl, by repeat (first | exact Below.refl _ _ | refine below_drewN ?_ _)⟩
  · have hnn : ((n : Int) != m) = true := by simp; omega
    have hE : eqB xs ys = false := by simp [eqB]; intro h; subst h; omega
    rw [hE]
    clear hE
    go_enter Tryz.func70, Tryz.ntmps70
    go_wp2
    go_ret
    exact ⟨rfl, Below.refl _ _⟩
end Go.Proofs.YtomkgnamjfiocaaGreatDoor
