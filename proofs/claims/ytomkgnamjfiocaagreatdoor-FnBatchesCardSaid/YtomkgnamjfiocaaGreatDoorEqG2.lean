/- slices.Equal over edges; EqualGraphs. -/
import Derived.Test.YtomkgnamjfiocaaGreatDoorEqG
import Derived.Laws.StructEq
namespace Go.Proofs.YtomkgnamjfiocaaGreatDoor
open Go.RowKit Go.ChangeShapes Go.WideShapes Go.ChangeAt Go.Deep
set_option linter.unusedVariables false
theorem take_eq_some {α : Type} {xs ys : List α} {k : Nat} {x y : α} (h : xs.take k = ys.take k) (h1 : xs[k]? = some x) (h2 : ys[k]? = some y) : xs.take (k + 1) = ys.take (k + 1) ↔ x = y := by
  obtain ⟨k1, e1⟩ := get_of_some h1
  obtain ⟨k2, e2⟩ := get_of_some h2
  rw [take_eq_succ h k1 k2, e1, e2]
set_option maxRecDepth 4000 in
set_option maxHeartbeats 1000000 in
theorem slEqEdge_any (A B : Option Addr) (n c m d : Nat) (xs ys : List E) (w : World) (hl : xs.length = n) (hl2 : ys.length = m) (hn : n ≤ 2000000) (hm : m ≤ 2000000) (hr : Reads w w.heap.size 4 A n (ecs xs)) (hr2 : Reads w w.heap.size 4 B m (ecs ys)) :
    Calls Tryz.prog 71 #[.slice A n c, .slice B m d] w fun e w' => e = .returned (.bool (decide (xs = ys))) ∧ Below w.heap.size w w' := by
  by_cases hnm : n = m
  · obtain rfl : n = m := hnm
    have hnn : ((n : Int) != n) = false := by simp
    go_enter Tryz.func71, Tryz.ntmps71
    go_wp2
    clear hnn
    go_loopw [13] (fun i wr => ∃ k : Nat, k ≤ n ∧ i = .int .i64 k ∧ xs.take k = ys.take k ∧ ∃ q, wr = w.drewN q) (fun i _ => n - (intOf i).toNat)
    case atStart => exact ⟨0, Nat.zero_le _, rfl, rfl, 0, rfl⟩
    case round =>
      obtain ⟨k, hk, rfl, htk, q, rfl⟩ := hrel
      have HT := Lib.hid htk
      clear htk
      by_cases hlt : k < n
      · obtain ⟨b, o, rfl, hb, x, hx, c0, c1, c2, c3⟩ := edge_at hr hl hlt
        obtain ⟨b2, o2, rfl, hb2, y, hy, d0, d1, d2, d3⟩ := edge_at hr2 hl2 hlt
        have HX := Lib.hid hx
        have HY := Lib.hid hy
        have hlt' : (k : Int) < n := by omega
        clear hx hy
        obtain ⟨x1, x2, x3, x4⟩ := x
        obtain ⟨y1, y2, y3, y4⟩ := y
        dsimp only at c0 c1 c2 c3 d0 d1 d2 d3
        by_cases h1 : x1 = y1
        rotate_left
        · have e1 : (x1 == y1) = false := by simpa using h1
          have hE : decide (xs = ys) = false := by
            simp only [decide_eq_false_iff_not]
            rintro rfl
            have := HX.out.symm.trans HY.out
            simp at this
            omega
          have HE := Lib.hid hE
          clear hE
          go_wp2
          go_quiet (fail)
          go_wp2
          go_ret
          exact ⟨by rw [HE.out] <;> rfl, by repeat (first | exact Below.refl _ _ | refine below_drewN ?_ _)⟩
        subst h1
        by_cases h2 : x2 = y2
        rotate_left
        · have e2 : (x2 == y2) = false := by simpa using h2
          have hE : decide (xs = ys) = false := by
            simp only [decide_eq_false_iff_not]
            rintro rfl
            have := HX.out.symm.trans HY.out
            simp at this
            omega
          have HE := Lib.hid hE
          clear hE
          go_wp2
          go_quiet (fail)
          go_wp2
          go_ret
          exact ⟨by rw [HE.out] <;> rfl, by repeat (first | exact Below.refl _ _ | refine below_drewN ?_ _)⟩
        subst h2
        by_cases h3 : x3 = y3
        rotate_left
        · have e3 : (x3 == y3) = false := by simpa using h3
          have hE : decide (xs = ys) = false := by
            simp only [decide_eq_false_iff_not]
            rintro rfl
            have := HX.out.symm.trans HY.out
            simp at this
            omega
          have HE := Lib.hid hE
          clear hE
          go_wp2
          go_quiet (fail)
          go_wp2
          go_ret
          exact ⟨by rw [HE.out] <;> rfl, by repeat (first | exact Below.refl _ _ | refine below_drewN ?_ _)⟩
        subst h3
        by_cases h4 : x4 = y4
        rotate_left
        · have e4 : (x4 == y4) = false := by simpa using h4
          have hE : decide (xs = ys) = false := by
            simp only [decide_eq_false_iff_not]
            rintro rfl
            have := HX.out.symm.trans HY.out
            simp at this
            omega
          have HE := Lib.hid hE
          clear hE
          go_wp2
          go_quiet (fail)
          go_wp2
          go_ret
          exact ⟨by rw [HE.out] <;> rfl, by repeat (first | exact Below.refl _ _ | refine below_drewN ?_ _)⟩
        subst h4
        go_wp2
        go_quiet (fail)
        go_wp2
        go_roundw
        case rel => exact ⟨k + 1, by omega, by go_num, (take_eq_some HT.out HX.out HY.out).2 rfl, _, rfl⟩
        case measure => simp [intOf]; omega
      · obtain rfl : k = n := by omega
        have hE : decide (xs = ys) = true := by
          simp only [decide_eq_true_eq]
          have h := HT.out
          rwa [List.take_of_length_le (by omega), List.take_of_length_le (by omega)] at h
        have HE := Lib.hid hE
        clear hE
        go_wp2
        go_ret
        exact ⟨by rw [HE.out] <;> rfl, by repeat (first | exact Below.refl _ _ | refine below_drewN ?_ _)⟩
  · have hnn : ((n : Int) != m) = true := by simp; omega
    have hE : decide (xs = ys) = false := by simp; intro h; subst h; omega
    rw [hE]
    clear hE
    go_enter Tryz.func71, Tryz.ntmps71
    go_wp2
    go_ret
    exact ⟨rfl, Below.refl _ _⟩
end Go.Proofs.YtomkgnamjfiocaaGreatDoor
