/- IsTrail of both packages. -/
import Derived.Test.YtomkgnamjfiocaaGreatDoorBaseF
namespace Go.Proofs.YtomkgnamjfiocaaGreatDoor
open Go.RowKit Go.ChangeShapes Go.WideShapes Go.ChangeAt Go.Deep
set_option linter.unusedVariables false
set_option maxRecDepth 4000 in
set_option maxHeartbeats 2000000 in
theorem implIsTrail_is (w : World) {A B C : Option Addr} {n c m d q e : Nat} {g : G} (h : GRd w A n B m g) (s : Int) {l : List St} (h' : SRd w C q l) (hqe : q ≤ e) :
    Calls Tryz.prog 14 #[.agg #[.slice A n c, .slice B m d], .agg #[.int .i64 s, .slice C q e]] w fun r w' => r = .returned (.bool (trailZ g s l)) ∧ Below w.heap.size w w' := by
  have hq := h'.bd
  have HLQ := Lib.hid h'.ln
  have hB0 : Below w.heap.size w ((w.alloc (.cells #[.slice A n c, .slice B m d] 27)).alloc (.cells #[.int .i64 s, .slice C q e] 30)) := ((Below.refl _ _).alloc (Nat.le_refl _) _).alloc (by simp) _
  have kA : ((w.alloc (.cells #[.slice A n c, .slice B m d] 27)).alloc (.cells #[.int .i64 s, .slice C q e] 30)).cell? ⟨w.heap.size, 0, none⟩ = some (.slice A n c) := by go_simp
  have kB : ((w.alloc (.cells #[.slice A n c, .slice B m d] 27)).alloc (.cells #[.int .i64 s, .slice C q e] 30)).cell? ⟨w.heap.size, 1, none⟩ = some (.slice B m d) := by go_simp
  have kS : ((w.alloc (.cells #[.slice A n c, .slice B m d] 27)).alloc (.cells #[.int .i64 s, .slice C q e] 30)).cell? ⟨w.heap.size + 1, 0, none⟩ = some (.int .i64 s) := by go_simp
  have kC : ((w.alloc (.cells #[.slice A n c, .slice B m d] 27)).alloc (.cells #[.int .i64 s, .slice C q e] 30)).cell? ⟨w.heap.size + 1, 1, none⟩ = some (.slice C q e) := by go_simp
  have hz0 : w.heap.size + 1 < ((w.alloc (.cells #[.slice A n c, .slice B m d] 27)).alloc (.cells #[.int .i64 s, .slice C q e] 30)).heap.size := by simp
  have HT := Lib.hid (show trailZ g s l = (apartUp l q && walkOk g s l) by unfold trailZ; rw [h'.ln])
  go_enter Tryz.func14, Tryz.ntmps14
  go_wp2_with fail
  generalize ((w.alloc (.cells #[.slice A n c, .slice B m d] 27)).alloc (.cells #[.int .i64 s, .slice C q e] 30)) = w0 at *
  go_loopw [10] (fun i wr => ∃ k : Nat, k ≤ q ∧ i = .int .i64 k ∧ apartUp l k = true ∧ Below w0.heap.size w0 wr) (fun i _ => q - (intOf i).toNat)
  case atStart => exact ⟨0, Nat.zero_le _, rfl, rfl, Below.refl _ _⟩
  case round =>
    obtain ⟨k, hk, rfl, hap, t⟩ := hrel
    have HAP := Lib.hid hap
    have hBr := below_then hB0 t
    have kCr := cell_keep t kC
    clear hap
    by_cases hlt : k < q
    · obtain ⟨b, o, rfl, had, x, hx, c0, c1⟩ := step_at (h'.up hBr).rd HLQ.out hlt
      have HSX := Lib.hid (apartUp_succ hx)
      have HKF := Lib.hid (fun hf => apartUp_false (l := l) (q := k) (m := q) hf hlt)
      clear hx
      obtain ⟨xe, xi⟩ := x
      dsimp only at c0 c1
      have hb3 : Below wr.heap.size wr (wr.alloc (.cells #[.int .i64 xe, .bool xi] 68)) := (Below.refl _ _).alloc (Nat.le_refl _) _
      have x0 : (wr.alloc (.cells #[.int .i64 xe, .bool xi] 68)).cell? ⟨wr.heap.size, 0, none⟩ = some (.int .i64 xe) := by go_simp
      have kC3 := cell_keep hb3 kCr
      have hB3 := below_then hBr hb3
      have t3 := below_then t hb3
      have hz3 : wr.heap.size < (wr.alloc (.cells #[.int .i64 xe, .bool xi] 68)).heap.size := by simp
      have hke : k ≤ e := by omega
      have hke' : (k : Int) ≤ (e : Int) := by omega
      have hk0 : (0 : Int) ≤ (k : Int) := by omega
      clear hb3
      go_wp2_with fail
      generalize wr.heap.size = xb at *
      generalize (wr.alloc (.cells #[.int .i64 xe, .bool xi] 68)) = w3 at *
      refine (containsFuncSt_any w3 xe xb (h'.up hB3) (by omega) hz3 x0).mono ?_
      rintro r w4 ⟨rfl, hb4⟩
      have t4 := below_then t3 hb4
      have hB4 := below_then hB3 hb4
      have hsx := HSX.out
      cases hh : hasEd l k xe
      · have HS := Lib.hid (show apartUp l (k + 1) = true by rw [hsx, HAP.out, hh]; rfl)
        clear hsx hh
        go_wp2
        go_roundw
        case rel => exact ⟨k + 1, by omega, by go_num, HS.out, t4⟩
        case measure => simp [intOf]; omega
      · have hf := HKF.out (by rw [hsx, hh]; simp)
        have HF := Lib.hid (show trailZ g s l = false by rw [HT.out, hf]; rfl)
        clear hsx hh hf
        go_wp2
        go_ret
        exact ⟨by rw [HF.out] <;> rfl, hB4⟩
    · obtain rfl : k = q := by omega
      have kAr := cell_keep t kA
      have kBr := cell_keep t kB
      have kSr := cell_keep t kS
      have HF := Lib.hid (show trailZ g s l = walkOk g s l by rw [HT.out, HAP.out]; rfl)
      go_wp2_with fail
      refine (implIsValidWalk_is _ (h.up hBr) s (h'.up hBr)).mono ?_
      rintro r w4 ⟨rfl, hb4⟩
      go_wp2
      go_ret
      exact ⟨by rw [HF.out] <;> rfl, below_then hBr hb4⟩
theorem int_beq_comm (a b : Int) : (a == b) = (b == a) := by
  by_cases h : a = b
  · rw [h]
  · rw [beq_eq_false_iff_ne.2 h, beq_eq_false_iff_ne.2 (Ne.symm h)]
def ApIf (l : List St) (k : Nat) : Prop := k ≤ 61 → apartUp l k = true
set_option maxRecDepth 4000 in
set_option maxHeartbeats 2000000 in
theorem specIsTrail_is (w : World) {A B C : Option Addr} {n c m d q e : Nat} {g : G} (h : GRd w A n B m g) (s : Int) {l : List St} (h' : SRd w C q l) :
    Calls Tryz.prog 15 #[.agg #[.slice A n c, .slice B m d], .agg #[.int .i64 s, .slice C q e]] w fun r w' => r = .returned (.bool (trailZ g s l)) ∧ Below w.heap.size w w' := by
  have hq := h'.bd
  have HLQ := Lib.hid h'.ln
  have hB0 : Below w.heap.size w ((w.alloc (.cells #[.slice A n c, .slice B m d] 27)).alloc (.cells #[.int .i64 s, .slice C q e] 30)) := ((Below.refl _ _).alloc (Nat.le_refl _) _).alloc (by simp) _
  have kA : ((w.alloc (.cells #[.slice A n c, .slice B m d] 27)).alloc (.cells #[.int .i64 s, .slice C q e] 30)).cell? ⟨w.heap.size, 0, none⟩ = some (.slice A n c) := by go_simp
  have kB : ((w.alloc (.cells #[.slice A n c, .slice B m d] 27)).alloc (.cells #[.int .i64 s, .slice C q e] 30)).cell? ⟨w.heap.size, 1, none⟩ = some (.slice B m d) := by go_simp
  have kS : ((w.alloc (.cells #[.slice A n c, .slice B m d] 27)).alloc (.cells #[.int .i64 s, .slice C q e] 30)).cell? ⟨w.heap.size + 1, 0, none⟩ = some (.int .i64 s) := by go_simp
  have kC : ((w.alloc (.cells #[.slice A n c, .slice B m d] 27)).alloc (.cells #[.int .i64 s, .slice C q e] 30)).cell? ⟨w.heap.size + 1, 1, none⟩ = some (.slice C q e) := by go_simp
  have HT := Lib.hid (show trailZ g s l = (apartUp l q && walkOk g s l) by unfold trailZ; rw [h'.ln])
  have HW3 := Lib.hid (fun hl => walkOk_3 (g := g) (s := s) (l := l) hl)
  go_enter Tryz.func15, Tryz.ntmps15
  go_wp2_with fail
  generalize ((w.alloc (.cells #[.slice A n c, .slice B m d] 27)).alloc (.cells #[.int .i64 s, .slice C q e] 30)) = w0 at *
  go_loopw [5] (fun i wr => ∃ k : Nat, k ≤ q ∧ i = .int .i64 k ∧ ApIf l k ∧ ∃ p, wr = w0.drewN p) (fun i _ => q - (intOf i).toNat)
  case atStart => exact ⟨0, Nat.zero_le _, rfl, fun _ => rfl, 0, rfl⟩
  case round =>
    obtain ⟨k, hk, rfl, hap, p, rfl⟩ := hrel
    by_cases hlt : k < q
    · obtain ⟨b, o, rfl, had, x, hx, c0, c1⟩ := step_at (h'.up hB0).rd HLQ.out hlt
      have HSX := Lib.hid (apartUp_succ hx)
      have HKF := Lib.hid (fun hf => apartUp_false (l := l) (q := k) (m := q) hf hlt)
      have HAP := Lib.hid hap
      have HX := Lib.hid hx
      clear hx hap
      obtain ⟨xe, xi⟩ := x
      dsimp only at c0 c1
      have hlt' : (k : Int) < q := by omega
      have hk0 : (0 : Int) ≤ (k : Int) := by omega
      go_wp2
      go_loopw [6] (fun j wr2 => ∃ jn : Nat, jn ≤ k ∧ j = .int .i64 jn ∧ hasEd l jn xe = false ∧ ∃ p2, wr2 = w0.drewN p2) (fun j _ => k - (intOf j).toNat)
      case atStart => exact ⟨0, Nat.zero_le _, rfl, rfl, p, rfl⟩
      case round =>
        obtain ⟨jn, hj, rfl, hno, p2, rfl⟩ := hrel
        have HNO := Lib.hid hno
        clear hno
        by_cases hjk : jn < k ∧ k ≤ 60
        · obtain ⟨hjk, h60⟩ := hjk
          obtain ⟨b2, o2, hbo, _, y, hy, d0, d1⟩ := step_at (h'.up hB0).rd HLQ.out (show jn < q by omega)
          have hb3 : b = b2 ∧ o = o2 := by simpa using hbo
          obtain ⟨rfl, rfl⟩ := hb3
          have HSY := Lib.hid (hasEd_succ (i := xe) hy)
          have hj0 : (0 : Int) ≤ (jn : Int) := by omega
          have hjq : (jn : Int) < q := by omega
          clear hy hbo
          obtain ⟨ye, yi⟩ := y
          dsimp only at d0 d1
          have hyx : (ye == xe) = (xe == ye) := int_beq_comm _ _
          have HYX := Lib.hid hyx
          clear hyx
          cases hh : (xe == ye)
          · have HS := Lib.hid (show hasEd l (jn + 1) xe = false by rw [HSY.out, HNO.out]; show (false || (ye == xe)) = false; rw [HYX.out, hh]; rfl)
            go_wp2
            go_quiet (fail)
            go_wp2
            go_roundw
            case rel => exact ⟨jn + 1, by omega, by go_num, HS.out, _, rfl⟩
            case measure => simp [intOf]; omega
          · have hs : hasEd l k xe = true := hasEd_true (k := jn) (by rw [HSY.out, HNO.out]; show (false || (ye == xe)) = true; rw [HYX.out, hh]; rfl) hjk
            have hf := HKF.out (by rw [HSX.out]; show (apartUp l k && !hasEd l k xe) = false; rw [hs]; simp)
            have HF := Lib.hid (show trailZ g s l = false by rw [HT.out, hf]; rfl)
            clear hs hf
            go_wp2
            go_quiet (fail)
            go_wp2
            go_ret
            exact ⟨by rw [HF.out] <;> rfl, below_then hB0 (by repeat (first | exact Below.refl _ _ | refine below_drewN ?_ _))⟩
        · have HS := Lib.hid (show ApIf l (k + 1) from fun h61 => by
            have h1 : jn = k := by omega
            subst h1
            rw [HSX.out]
            show (apartUp l jn && !hasEd l jn xe) = true
            rw [HNO.out, HAP.out (by omega)]
            rfl)
          by_cases hjk2 : jn < k
          · have h60 : ¬ k ≤ 60 := fun hh => hjk ⟨hjk2, hh⟩
            clear hjk
            have h61 : (60 : Int) < k := by omega
            go_wp2
            go_roundw
            case rel => exact ⟨k + 1, by omega, by go_num, HS.out, _, rfl⟩
            case measure => simp [intOf]; omega
          · clear hjk
            go_wp2
            go_roundw
            case rel => exact ⟨k + 1, by omega, by go_num, HS.out, _, rfl⟩
            case measure => simp [intOf]; omega
    · obtain rfl : k = q := by omega
      have hBr : Below w.heap.size w (w0.drewN p) := below_drewN hB0 p
      have hF : trailZ g s l = walkOk g s l := by
        rw [HT.out]
        rcases Nat.lt_or_ge 60 k with h60 | h60
        · rw [HW3.out (by have := HLQ.out; omega)]; simp
        · rw [hap (by omega)]; rfl
      have HF := Lib.hid hF
      have HAP := Lib.hid hap
      clear hF hap
      go_wp2_with fail
      refine (specIsValidWalk_is _ (h.up hBr) s (h'.up hBr)).mono ?_
      rintro r w4 ⟨rfl, hb4⟩
      go_wp2
      go_ret
      exact ⟨by rw [HF.out] <;> rfl, below_then hBr hb4⟩
end Go.Proofs.YtomkgnamjfiocaaGreatDoor
