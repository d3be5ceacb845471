/- WalkWord of both packages. -/
import Derived.Test.YtfigilkggjokkaaWalkC
namespace Go.Proofs.Ytfigilkggjokkaa
open Go.RowKit Go.ChangeShapes Go.WideShapes Go.ChangeAt Go.Deep
set_option linter.unusedVariables false
def wordZ (g : G) (s : Int) (l : List St) : List Int := if walkOk g s l then l.map (stLet g) else []
theorem below_of_tch {lo : Nat} {w w' : World} (h : Tch lo lo w w') : Below w.heap.size w w' := ⟨h.os, h.tape, h.output, h.size, fun k hk => h.block k hk (by omega)⟩
def OkIf (k : Nat) (ok : Bool) : Prop := 0 < k → ok = true
theorem wordZ_no {g : G} {s : Int} {l : List St} (h : walkOk g s l = false) : wordZ g s l = [] := by simp [wordZ, h]
theorem wordZ_yes {g : G} {s : Int} {l : List St} (h : walkOk g s l = true) : wordZ g s l = l.map (stLet g) := by simp [wordZ, h]
theorem map_take_succ {α β : Type} (f : α → β) {l : List α} {k : Nat} {x : α} (h : l[k]? = some x) : (l.take (k + 1)).map f = (l.take k).map f ++ [f x] := by
  obtain ⟨hk, rfl⟩ := List.getElem?_eq_some_iff.1 h
  rw [List.take_succ_eq_append_getElem hk, List.map_append]
  rfl
set_option maxRecDepth 4000 in
set_option maxHeartbeats 2000000 in
theorem implWalkWord_is (w : World) {A B C : Option Addr} {n c m d q e : Nat} {g : G} (h : GRd w A n B m g) (s : Int) {l : List St} (h' : SRd w C q l) :
    Calls Try.prog 117 #[.agg #[.slice A n c, .slice B m d], .agg #[.int .i64 s, .slice C q e]] w fun r w' => ∃ A2 n2 c2, r = .returned (.slice A2 n2 c2) ∧ RIs w' w.heap.size w'.heap.size 3 1 A2 n2 c2 ((wordZ g s l).map iv) ∧ Below w.heap.size w w' := by
  have hq := h'.bd
  have HLQ := Lib.hid h'.ln
  have hB0 : Below w.heap.size w ((w.alloc (.cells #[.slice A n c, .slice B m d] 45)).alloc (.cells #[.int .i64 s, .slice C q e] 58)) := ((Below.refl _ _).alloc (Nat.le_refl _) _).alloc (by simp) _
  have kA : ((w.alloc (.cells #[.slice A n c, .slice B m d] 45)).alloc (.cells #[.int .i64 s, .slice C q e] 58)).cell? ⟨w.heap.size, 0, none⟩ = some (.slice A n c) := by go_simp
  have kB : ((w.alloc (.cells #[.slice A n c, .slice B m d] 45)).alloc (.cells #[.int .i64 s, .slice C q e] 58)).cell? ⟨w.heap.size, 1, none⟩ = some (.slice B m d) := by go_simp
  have kC : ((w.alloc (.cells #[.slice A n c, .slice B m d] 45)).alloc (.cells #[.int .i64 s, .slice C q e] 58)).cell? ⟨w.heap.size + 1, 1, none⟩ = some (.slice C q e) := by go_simp
  have HN := Lib.hid (wordZ_no (g := g) (s := s) (l := l))
  have HY := Lib.hid (wordZ_yes (g := g) (s := s) (l := l))
  go_enter Try.func117, Try.ntmps117
  go_wp2_with fail
  generalize ((w.alloc (.cells #[.slice A n c, .slice B m d] 45)).alloc (.cells #[.int .i64 s, .slice C q e] 58)) = w0 at *
  refine (implIsValidWalk_is _ (h.up hB0) s (h'.up hB0)).mono ?_
  rintro r w1 ⟨rfl, hb1⟩
  have hB1 := below_then hB0 hb1
  have kA1 := cell_keep hb1 kA
  have kB1 := cell_keep hb1 kB
  have kC1 := cell_keep hb1 kC
  clear kA kB kC hb1
  cases hok : walkOk g s l
  · have HX := Lib.hid (HN.out hok)
    clear hok
    go_wp2
    go_ret
    exact ⟨_, _, _, rfl, by rw [HX.out]; exact (ris_nil _ _ _).wide hB1.size (Nat.le_refl _), hB1⟩
  · have HX := Lib.hid (HY.out hok)
    clear hok
    have ho1 := own_made (w := w1) (base := w1.heap.size) 3 1 (Nat.le_refl _)
    have hb2 : Below w1.heap.size w1 (w1.alloc (.cells #[] 3)) := (Below.refl _ _).alloc (Nat.le_refl _) _
    have kC2 := cell_keep hb2 kC1
    go_wp2_with fail
    go_loopw [5, 16] (fun v i wr => ∃ k : Nat, k ≤ q ∧ i = .int .i64 k ∧ wr.ownsRow w1.heap.size 3 1 v k (((l.take k).map (stLet g)).map iv) ∧ Below w1.heap.size w1 wr) (fun _ i _ => q - (intOf i).toNat)
    case atStart => exact ⟨0, Nat.zero_le _, rfl, ho1, hb2⟩
    case round =>
      obtain ⟨k, hk, rfl, hown, t⟩ := hrel
      have hBr := below_then hB1 t
      have kAr := cell_keep t kA1
      have kBr := cell_keep t kB1
      by_cases hlt : k < q
      · obtain ⟨b, o, rfl, had, x, hx, c0, c1⟩ := step_at (h'.up hBr).rd HLQ.out hlt
        have HSX := Lib.hid (map_take_succ (stLet g) hx)
        have q3 : Small (k + 1) := small_of (by omega)
        clear hx
        obtain ⟨xe, xi⟩ := x
        dsimp only at c0 c1
        have hb3 : Below wr.heap.size wr (wr.alloc (.cells #[.int .i64 xe, .bool xi] 72)) := (Below.refl _ _).alloc (Nat.le_refl _) _
        have x0 : (wr.alloc (.cells #[.int .i64 xe, .bool xi] 72)).cell? ⟨wr.heap.size, 0, none⟩ = some (.int .i64 xe) := by go_simp
        have x1 : (wr.alloc (.cells #[.int .i64 xe, .bool xi] 72)).cell? ⟨wr.heap.size, 1, none⟩ = some (.bool xi) := by go_simp
        have kA3 := cell_keep hb3 kAr
        have kB3 := cell_keep hb3 kBr
        have ho3 := own_below hown hb3 (Nat.le_refl _)
        have t3 := below_then t hb3
        have hB3 := below_then hB1 t3
        obtain ⟨y, hy⟩ : ∃ y, stLet g ⟨xe, xi⟩ = y := ⟨_, rfl⟩
        have hsx := HSX.out
        rw [hy] at hsx
        have HSX2 := Lib.hid hsx
        have HYY := Lib.hid hy
        have h15 := iv_one [y]
        clear kAr kBr hown hBr hb3 hsx hy HSX t
        go_wp2_with fail
        generalize wr.heap.size = xb at *
        generalize (wr.alloc (.cells #[.int .i64 xe, .bool xi] 72)) = w3 at *
        refine (implStepLetter_is _ (h.up hB3) ⟨xe, xi⟩).mono ?_
        rw [HYY.out]
        rintro r w5 ⟨rfl, hb5⟩
        have ho5 := own_below ho3 hb5 (Nat.le_refl _)
        have t5 := below_then t3 hb5
        have hz5 := t5.size
        clear ho3 t3 hB3 x0 x1 kA3 kB3 hb5
        go_wp2_with (at_builtin; refine ap_plain _ app_int (by decide) w1.heap.size (.tmp 20) (.tmp 24) rfl rfl _ _ _ rfl (ho5.alloc _) _ _ 1 1 _ rfl (reads_new _ rfl) h15 q3 (Nat.le_trans hz5 (by simp)) ?_; intro v6 w6 hown6 hg6 hat6; have t6 := below_grown_own (t5.alloc hz5 _) (ho5.alloc _) hg6 (Nat.le_refl _) (Nat.le_trans hz5 (by simp)); replace hown6 := own_snoc_int y rfl hown6; clear hg6 hat6)
        go_roundw
        case rel => exact ⟨k + 1, by omega, by go_num, by rw [HSX2.out]; exact hown6, t6⟩
        case measure => simp [intOf]; omega
      · obtain rfl : k = q := by omega
        rw [List.take_of_length_le (by have := HLQ.out; omega), ← HX.out] at hown
        obtain ⟨A5, c5, rfl, _⟩ := own_form hown
        have RO := (RIs.of hown (by omega)).wide hB1.size (Nat.le_refl _)
        go_wp2
        go_ret
        exact ⟨_, _, _, rfl, RO, hBr⟩
set_option maxRecDepth 4000 in
set_option maxHeartbeats 2000000 in
theorem specWalkWord_is (w : World) {A B C : Option Addr} {n c m d q e : Nat} {g : G} (h : GRd w A n B m g) (s : Int) {l : List St} (h' : SRd w C q l) :
    Calls Try.prog 116 #[.agg #[.slice A n c, .slice B m d], .agg #[.int .i64 s, .slice C q e]] w fun r w' => ∃ A2 n2 c2, r = .returned (.slice A2 n2 c2) ∧ RIs w' w.heap.size w'.heap.size 3 1 A2 n2 c2 ((wordZ g s l).map iv) ∧ Below w.heap.size w w' := by
  have hq := h'.bd
  have HLQ := Lib.hid h'.ln
  have hB0 : Below w.heap.size w ((w.alloc (.cells #[.slice A n c, .slice B m d] 45)).alloc (.cells #[.int .i64 s, .slice C q e] 58)) := ((Below.refl _ _).alloc (Nat.le_refl _) _).alloc (by simp) _
  have kA : ((w.alloc (.cells #[.slice A n c, .slice B m d] 45)).alloc (.cells #[.int .i64 s, .slice C q e] 58)).cell? ⟨w.heap.size, 0, none⟩ = some (.slice A n c) := by go_simp
  have kB : ((w.alloc (.cells #[.slice A n c, .slice B m d] 45)).alloc (.cells #[.int .i64 s, .slice C q e] 58)).cell? ⟨w.heap.size, 1, none⟩ = some (.slice B m d) := by go_simp
  have kS : ((w.alloc (.cells #[.slice A n c, .slice B m d] 45)).alloc (.cells #[.int .i64 s, .slice C q e] 58)).cell? ⟨w.heap.size + 1, 0, none⟩ = some (.int .i64 s) := by go_simp
  have kC : ((w.alloc (.cells #[.slice A n c, .slice B m d] 45)).alloc (.cells #[.int .i64 s, .slice C q e] 58)).cell? ⟨w.heap.size + 1, 1, none⟩ = some (.slice C q e) := by go_simp
  have hz0 : w.heap.size + 1 + 1 = ((w.alloc (.cells #[.slice A n c, .slice B m d] 45)).alloc (.cells #[.int .i64 s, .slice C q e] 58)).heap.size := by simp
  have HZ := Lib.hid hz0
  clear hz0
  have HN := Lib.hid (wordZ_no (g := g) (s := s) (l := l))
  have HY := Lib.hid (wordZ_yes (g := g) (s := s) (l := l))
  obtain ⟨ok, hok⟩ : ∃ ok, walkOk g s l = ok := ⟨_, rfl⟩
  have HOK := Lib.hid hok
  clear hok
  go_enter Try.func116, Try.ntmps116
  go_wp2_with fail
  generalize ((w.alloc (.cells #[.slice A n c, .slice B m d] 45)).alloc (.cells #[.int .i64 s, .slice C q e] 58)) = w1 at *
  have ho1 := own_made (w := w1) (base := w1.heap.size) 3 1 (Nat.le_refl _)
  rw [← HZ.out] at ho1
  have hb2 : Below w1.heap.size w1 (w1.alloc (.cells #[] 3)) := (Below.refl _ _).alloc (Nat.le_refl _) _
  go_loopw [5, 6] (fun v i wr => ∃ k : Nat, k ≤ q ∧ i = .int .i64 k ∧ OkIf k ok ∧ wr.ownsRow (w.heap.size + 1 + 1) 3 1 v k (((l.take k).map (stLet g)).map iv) ∧ Below w1.heap.size w1 wr) (fun _ i _ => q - (intOf i).toNat)
  case atStart => exact ⟨0, Nat.zero_le _, rfl, fun h => absurd h (by omega), ho1, hb2⟩
  case round =>
    obtain ⟨k, hk, rfl, hko, hown, t⟩ := hrel
    have hBr := below_then hB0 t
    have kAr := cell_keep t kA
    have kBr := cell_keep t kB
    have kSr := cell_keep t kS
    have kCr := cell_keep t kC
    have hzr : w.heap.size + 1 + 1 ≤ wr.heap.size := by have := HZ.out; have := t.size; omega
    by_cases hlt : k < q
    · have hlt' : (k : Int) < q := by omega
      cases ok
      · have hk0 : k = 0 := by
          rcases Nat.eq_zero_or_pos k with h0 | h0
          · exact h0
          · exact absurd (hko h0) (by simp)
        subst hk0
        have HX := Lib.hid (HN.out HOK.out)
        clear hko
        go_wp2_with fail
        refine (specIsValidWalk_is _ (h.up hBr) s (h'.up hBr)).mono ?_
        rw [HOK.out]
        rintro r w5 ⟨rfl, hb5⟩
        have hB5 := below_then hBr hb5
        have ho5 := own_below hown hb5 (Nat.le_refl _)
        obtain ⟨A5, c5, rfl, _⟩ := own_form ho5
        have RO := (RIs.of ho5 (by omega)).wide (lo := w.heap.size) (by omega) (Nat.le_refl _)
        clear hown
        go_wp2
        go_ret
        exact ⟨_, _, _, rfl, by rw [HX.out]; exact RO, hB5⟩
      · clear hko
        go_wp2_with fail
        refine (specIsValidWalk_is _ (h.up hBr) s (h'.up hBr)).mono ?_
        rw [HOK.out]
        rintro r w5 ⟨rfl, hb5⟩
        have hB5 := below_then hBr hb5
        have ho5 := own_below hown hb5 (Nat.le_refl _)
        have t5 := below_then t hb5
        have kA5 := cell_keep hb5 kAr
        have kB5 := cell_keep hb5 kBr
        have kC5 := cell_keep hb5 kCr
        have hz5 : w.heap.size + 1 + 1 ≤ w5.heap.size := Nat.le_trans hzr hb5.size
        obtain ⟨b, o, rfl, had, x, hx, c0, c1⟩ := step_at (h'.up hB5).rd HLQ.out hlt
        have HC := Lib.hid (fun w' (hb : Below w.heap.size w w') => step_cells (h'.up hb).rd hx)
        have hsx := map_take_succ (stLet g) hx
        have q3 : Small (k + 1) := small_of (by omega)
        have hk0 : (0 : Int) ≤ (k : Int) := by omega
        clear hx hown t hBr kAr kBr kSr kCr hzr hb5
        obtain ⟨xe, xi⟩ := x
        dsimp only at c0 c1
        obtain ⟨y, hy⟩ : ∃ y, stLet g ⟨xe, xi⟩ = y := ⟨_, rfl⟩
        rw [hy] at hsx
        have HSX2 := Lib.hid hsx
        have HYY := Lib.hid hy
        have h15 := iv_one [y]
        clear hsx hy
        go_wp2_with fail
        have hbD : Below w5.heap.size w5 w5.drew := (Below.refl _ _).drew
        have tD := below_then t5 hbD
        have hBD := below_then hB5 hbD
        have hoD := own_drew ho5
        go_region_held3 (fun w' => w'.cell? ⟨w.heap.size, 0, none⟩ = some (.slice A n c) ∧ w'.cell? ⟨w.heap.size, 1, none⟩ = some (.slice B m d) ∧ w'.cell? ⟨w.heap.size + 1, 1, none⟩ = some (.slice (some ⟨b, o, none⟩) q e) ∧ w'.cell? ⟨b, o + k * 2, none⟩ = some (.int .i64 xe) ∧ w'.cell? ⟨b, o + k * 2 + 1, none⟩ = some (.bool xi)) (first | exact ⟨kA5, kB5, kC5, c0, c1⟩ | exact ⟨kA6, kB6, kC6, c06, c16⟩ | exact ⟨cell_al _ kA6, cell_al _ kB6, cell_al _ kC6, cell_al _ c06, cell_al _ c16⟩ | exact ⟨kA7, kB7, kC7, c07, c17⟩) (first
          | (refine ap_step _ app_int (by decide) (w.heap.size + 1 + 1) (.tmp 20) (.tmp 28) rfl rfl _ _ _ rfl ho6a _ _ 1 1 _ rfl hr6 h15 q3 hle6 ?_; intro v7 w7 hown7 hg7 hat7; clear hat7; have t7 := (tB6.grown ho6a (by have := HZ.out; omega) hg7); have hB7 := below_grown_own hB6a ho6a hg7 (Nat.le_add_right _ 2) (Nat.le_trans (Nat.le_add_right _ 2) hle6); replace hown7 := own_snoc_int y rfl hown7; have kA7 := cell_tch t7 kA (.inl (by have := HZ.out; dsimp only; omega)); have kB7 := cell_tch t7 kB (.inl (by have := HZ.out; dsimp only; omega)); have kC7 := cell_tch t7 kC (.inl (by have := HZ.out; dsimp only; omega)); obtain ⟨c07, c17⟩ := HC.out w7 hB7)
          | (go_simp; go_at_call 77; refine (specStepLetter_is _ (h.up hBD) ⟨xe, xi⟩).mono ?_; rw [HYY.out]; rintro r w6 ⟨rfl, hb6⟩; have t6 := below_then tD hb6; have hB6 := below_then hBD hb6; have ho6 := own_below hoD hb6 (Nat.le_refl _); have kA6 := cell_keep t6 kA; have kB6 := cell_keep t6 kB; have kC6 := cell_keep t6 kC; obtain ⟨c06, c16⟩ := HC.out w6 hB6; (try dsimp only at c06 c16); have hz6 : w.heap.size + 1 + 1 ≤ w6.heap.size := Nat.le_trans hz5 (Nat.le_trans hbD.size hb6.size); have ho6a := ho6.alloc (.cells #[.int .i64 y] 3); have hB6a := hB6.alloc hB6.size (.cells #[.int .i64 y] 3); have tB6 := Tch.of_below (lo := w1.heap.size) (hi := w1.heap.size) (t6.alloc t6.size (.cells #[.int .i64 y] 3)); have hr6 := reads_new (w := w6) (e := 3) (size := 1) (m := 1) #[.int .i64 y] rfl; have hle6 : w.heap.size + 1 + 1 ≤ (w6.alloc (.cells #[.int .i64 y] 3)).heap.size := Nat.le_trans hz6 (by simp); (try dsimp only)))
        clear kA5 kB5 kC5 c0 c1 kA6 kB6 kC6 c06 c16 kA7 kB7 kC7 c07 c17 ho6 ho6a hB6a hr6 tB6 hbD tD hBD hoD hB6 t6 hg7
        go_wp2
        go_roundw
        case rel => exact ⟨k + 1, by omega, by go_num, fun _ => rfl, by rw [HSX2.out]; exact hown7, below_of_tch t7⟩
        case measure => simp [intOf]; omega
    · obtain rfl : k = q := by omega
      obtain ⟨A5, c5, rfl, _⟩ := own_form hown
      have hW : (l.take k).map (stLet g) = wordZ g s l := by
        rw [List.take_of_length_le (by have := HLQ.out; omega)]
        cases ok
        · have h0 : l = [] := by
            rcases Nat.eq_zero_or_pos k with h1 | h1
            · exact List.eq_nil_of_length_eq_zero (by have := HLQ.out; omega)
            · exact absurd (hko h1) (by simp)
          rw [HN.out HOK.out, h0]
          rfl
        · exact (HY.out HOK.out).symm
      rw [hW] at hown
      have RO := (RIs.of hown (by omega)).wide (lo := w.heap.size) (by omega) (Nat.le_refl _)
      clear hW hko
      go_wp2
      go_ret
      exact ⟨_, _, _, rfl, RO, hBr⟩
end Go.Proofs.Ytfigilkggjokkaa
