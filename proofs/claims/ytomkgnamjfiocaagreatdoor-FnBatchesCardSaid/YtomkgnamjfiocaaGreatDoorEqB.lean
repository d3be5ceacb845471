/- slices.Equal over changes; EqualBatches of the program. -/
import Derived.Test.YtomkgnamjfiocaaGreatDoorSEq
namespace Go.Proofs.YtomkgnamjfiocaaGreatDoor
open Go.RowKit Go.ChangeShapes Go.WideShapes Go.ChangeAt Go.Deep
set_option linter.unusedVariables false
set_option maxRecDepth 4000 in
set_option maxHeartbeats 2000000 in
theorem slEqCg_any (w : World) {A B : Option Addr} {n c m d : Nat} {l l' : List Cg} (h : CRd w A n l) (h' : CRd w B m l') :
    Calls Tryz.prog 79 #[.slice A n c, .slice B m d] w fun e w' => e = .returned (.bool (decide (l = l'))) ∧ Below w.heap.size w w' := by
  have hn := h.bd
  have hm := h'.bd
  have ln := h.ln
  have lm := h'.ln
  by_cases hnm : n = m
  rotate_left
  · have hnn : ((n : Int) != m) = true := by simp; omega
    have hE : decide (l = l') = false := by simp; intro h; subst h; omega
    have HE := Lib.hid hE
    clear hE ln lm hnm
    go_enter Tryz.func79, Tryz.ntmps79
    go_wp2
    go_ret
    exact ⟨by rw [HE.out] <;> rfl, Below.refl _ _⟩
  · subst hnm
    have hnn : ((n : Int) != n) = false := by simp
    have HL1 := Lib.hid ln
    have HL2 := Lib.hid lm
    clear ln lm
    go_enter Tryz.func79, Tryz.ntmps79
    go_wp2
    clear hnn
    go_loopw [13] (fun i wr => ∃ k : Nat, k ≤ n ∧ i = .int .i64 k ∧ l.take k = l'.take k ∧ ∃ q, wr = w.drewN q) (fun i _ => n - (intOf i).toNat)
    case atStart => exact ⟨0, Nat.zero_le _, rfl, rfl, 0, rfl⟩
    case round =>
      obtain ⟨k, hk, rfl, htk, q, rfl⟩ := hrel
      have HT := Lib.hid htk
      clear htk
      by_cases hlt : k < n
      · obtain ⟨b, o, rfl, hb, x, hx, c0, c1, c2, c3, c4⟩ := change_at h.rd HL1.out hlt
        obtain ⟨b2, o2, rfl, hb2, y, hy, d0, d1, d2, d3, d4⟩ := change_at h'.rd HL2.out hlt
        have HX := Lib.hid hx
        have HY := Lib.hid hy
        have hlt' : (k : Int) < n := by omega
        have hEq := eqC_run x y
        obtain ⟨x0, x1, x2, x3, x4⟩ := x
        obtain ⟨y0, y1, y2, y3, y4⟩ := y
        dsimp only at c0 c1 c2 c3 c4 d0 d1 d2 d3 d4 hEq
        clear hx hy
        by_cases hxy : (Cg.mk x0 ⟨x1, x2, x3, x4⟩ = Cg.mk y0 ⟨y1, y2, y3, y4⟩)
        · rw [decide_eq_true hxy] at hEq
          have HXY := Lib.hid hxy
          clear hxy
          go_wp2
          go_quiet (fail)
          go_wp2
          go_roundw
          case rel => exact ⟨k + 1, by omega, by go_num, (take_eq_some' HT.out HX.out HY.out).2 HXY.out, _, rfl⟩
          case measure => simp [intOf]; omega
        · rw [decide_eq_false hxy] at hEq
          have hE : decide (l = l') = false := by
            simp only [decide_eq_false_iff_not]
            rintro rfl
            have := HX.out.symm.trans HY.out
            exact hxy (by simpa using this)
          have HE := Lib.hid hE
          clear hxy hE
          go_wp2
          go_quiet (fail)
          go_wp2
          go_ret
          exact ⟨by rw [HE.out] <;> rfl, by repeat (first | exact Below.refl _ _ | refine below_drewN ?_ _)⟩
      · obtain rfl : k = n := by omega
        have hE : decide (l = l') = true := by
          simp only [decide_eq_true_eq]
          have h := HT.out
          rwa [List.take_of_length_le (by have := HL1.out; omega), List.take_of_length_le (by have := HL2.out; omega)] at h
        have HE := Lib.hid hE
        clear hE
        go_wp2
        go_ret
        exact ⟨by rw [HE.out] <;> rfl, by repeat (first | exact Below.refl _ _ | refine below_drewN ?_ _)⟩
set_option maxRecDepth 4000 in
theorem implEqualBatches_is (w : World) {A B : Option Addr} {n c m d : Nat} {l l' : List Cg} (h : CRd w A n l) (h' : CRd w B m l') :
    Calls Tryz.prog 34 #[.agg #[.slice A n c], .agg #[.slice B m d]] w fun e w' => e = .returned (.bool (decide (l = l'))) ∧ Below w.heap.size w w' := by
  have hB0 : Below w.heap.size w ((w.alloc (.cells #[.slice A n c] 47)).alloc (.cells #[.slice B m d] 47)) := ((Below.refl _ _).alloc (Nat.le_refl _) _).alloc (by simp) _
  go_enter Tryz.func34, Tryz.ntmps34
  go_wp2_with fail
  refine (slEqCg_any _ (h.up hB0) (h'.up hB0)).mono ?_
  rintro e w1 ⟨rfl, hb1⟩
  go_wp2
  go_ret
  exact ⟨rfl, below_then hB0 hb1⟩
end Go.Proofs.YtomkgnamjfiocaaGreatDoor
