/- Two lists of ints told alike. -/
import Derived.Test.YtomkgnamjfiocaaGreatDoorBaseA
namespace Go.Proofs.YtomkgnamjfiocaaGreatDoor
open Go.RowKit Go.ChangeShapes Go.WideShapes Go.ChangeAt Go.Deep
set_option linter.unusedVariables false
set_option maxRecDepth 4000 in
set_option maxHeartbeats 400000 in
theorem sameInts_any (A B : Option Addr) (n c m d : Nat) (xs ys : List Int) (w : World) (hl : xs.length = n) (hl2 : ys.length = m) (hn : n ≤ 2000000) (hm : m ≤ 2000000) (hr : Reads w w.heap.size 1 A n (xs.map iv)) (hr2 : Reads w w.heap.size 1 B m (ys.map iv)) :
    Calls Tryz.prog 12 #[.slice A n c, .slice B m d] w fun e w' => e = .returned (.bool (eqB xs ys)) ∧ Below w.heap.size w w' := by
  by_cases hnm : n = m
  · obtain rfl : n = m := hnm
    have hnn : ((n : Int) != n) = false := by simp
    go_enter Tryz.func12, Tryz.ntmps12
    go_wp2
    clear hnn
    go_loopw [5] (fun i wr => ∃ k : Nat, k ≤ n ∧ i = .int .i64 k ∧ xs.take k = ys.take k ∧ ∃ q, wr = w.drewN q) (fun i _ => n - (intOf i).toNat)
    case atStart => exact ⟨0, Nat.zero_le _, rfl, rfl, 0, rfl⟩
    case round =>
      obtain ⟨k, hk, rfl, htk, q, rfl⟩ := hrel
      have HT := Lib.hid htk
      clear htk
      by_cases hlt : k < n
      · obtain ⟨ad, u, rfl, had, hu, hc⟩ := hr.at_ hlt
        obtain ⟨bd, u2, rfl, hbd, hu2, hc2⟩ := hr2.at_ hlt
        have hv := iv_get hu (by omega)
        have hv2 := iv_get hu2 (by omega)
        obtain ⟨x, hx⟩ : ∃ x, xs[k]'(by omega) = x := ⟨_, rfl⟩
        obtain ⟨y, hy⟩ : ∃ y, ys[k]'(by omega) = y := ⟨_, rfl⟩
        have HX := Lib.hid hx
        have HY := Lib.hid hy
        rw [hx] at hv
        rw [hy] at hv2
        subst hv
        subst hv2
        unfold iv at hc hc2
        have hlt' : (k : Int) < n := by omega
        clear hu hu2 hx hy
        by_cases hxy : x = y
        · have hne : (x != y) = false := by simp [hxy]
          go_wp2
          go_quiet (fail)
          go_wp2
          go_roundw
          case rel => exact ⟨k + 1, by omega, by go_num, (take_eq_succ HT.out (by omega) (by omega)).2 (by rw [HX.out, HY.out, hxy]), _, rfl⟩
          case measure => simp [intOf]; omega
        · have hne : (x != y) = true := by simp [hxy]
          go_wp2
          go_quiet (fail)
          go_wp2
          have hE : eqB xs ys = false := by
            simp only [eqB, decide_eq_false_iff_not]
            rintro rfl
            exact hxy (HX.out.symm.trans HY.out)
          go_ret
          exact ⟨by rw [hE] <;> rfl, by repeat (first | exact Below.refl _ _ | refine below_drewN ?_ _)⟩
      · obtain rfl : k = n := by omega
        have hE : eqB xs ys = true := by
          simp only [eqB, decide_eq_true_eq]
          have h := HT.out
          rwa [List.take_of_length_le (by omega), List.take_of_length_le (by omega)] at h
        have HE := Lib.hid hE
        clear hE
        go_wp2
        go_ret
        exact ⟨by rw [HE.out] <;> rfl, by repeat (first | exact Below.refl _ _ | refine below_drewN ?_ _)⟩
  · have hnn : ((n : Int) != m) = true := by simp; omega
    have hE : eqB xs ys = false := by simp [eqB]; intro h; subst h; omega
    rw [hE]
    clear hE
    go_enter Tryz.func12, Tryz.ntmps12
    go_wp2
    go_ret
    exact ⟨rfl, Below.refl _ _⟩
end Go.Proofs.YtomkgnamjfiocaaGreatDoor
