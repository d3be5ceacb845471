/-
  FnExactApplyBatchSaid: for every input the law FnExactApplyBatch returns true, and its arguments read afterwards as before. No condition.
-/
import Derived.Test.YtolilkbejghocaaAp3
import Derived.Test.YtolilkbejghocaaCutG
import Derived.Test.YtolilkbejghocaaFr
namespace Go.Proofs.Ytolilkbejghocaa.fnExactApplyBatch
open Go.ChangeShapes Go.WideShapes Go.ChangeAt Go.RowKit Go.Deep
open Go.ChangeMaps (open_string shut_string)
set_option linter.unusedVariables false


theorem own : ownKnob Try.prog.godebug = none := by kernel_rfl
theorem laidOut : laidOutB Try.prog = true := by kernel_rfl

set_option maxRecDepth 4000 in
set_option maxHeartbeats 8000000 in
theorem walk (W : World) (v0 : Value) (g0 : ArgGraph W v0) (v1 : Value) (g1 : ArgBatch W v1) :
    Calls Try.prog 9 #[v0, v1] W fun e w' => e = .returned (.bool true) ∧ Below W.heap.size W w' := by
  obtain ⟨A0, B0, n0, c0, m0, d0, g0, rfl, hg0, hn0, hm0, _, _⟩ := g0
  obtain ⟨A1, n1, c1, l1, rfl, hl1, hr1, hn1, _⟩ := g1
  obtain ⟨r0, hr0_⟩ : ∃ r, (apG g0 l1).1 = r := ⟨_, rfl⟩
  have HR0 := Lib.hid hr0_
  clear hr0_
  obtain ⟨r1, hr1_⟩ : ∃ r, (apG g0 l1).2 = r := ⟨_, rfl⟩
  have HR1 := Lib.hid hr1_
  clear hr1_
  go_enter Try.func9, Try.ntmps9
  go_wp2_with fail
  have hB0 : Below W.heap.size W ((W.alloc (.cells #[.slice A0 n0 c0, .slice B0 m0 d0] 49)).alloc (.cells #[.slice A1 n1 c1] 24)) := ((Below.refl _ _).alloc (Nat.le_refl _) _).alloc (by simp <;> omega) _
  have kaG_0_0 : ((W.alloc (.cells #[.slice A0 n0 c0, .slice B0 m0 d0] 49)).alloc (.cells #[.slice A1 n1 c1] 24)).cell? ⟨W.heap.size, 0, none⟩ = some (.slice A0 n0 c0) := by go_simp
  have kaG_1_0 : ((W.alloc (.cells #[.slice A0 n0 c0, .slice B0 m0 d0] 49)).alloc (.cells #[.slice A1 n1 c1] 24)).cell? ⟨W.heap.size, 1, none⟩ = some (.slice B0 m0 d0) := by go_simp
  have kaB_0_0 : ((W.alloc (.cells #[.slice A0 n0 c0, .slice B0 m0 d0] 49)).alloc (.cells #[.slice A1 n1 c1] 24)).cell? ⟨W.heap.size + 1, 0, none⟩ = some (.slice A1 n1 c1) := by go_simp
  have S0 : W.heap.size + 1 < ((W.alloc (.cells #[.slice A0 n0 c0, .slice B0 m0 d0] 49)).alloc (.cells #[.slice A1 n1 c1] 24)).heap.size := by simp <;> omega
  generalize ((W.alloc (.cells #[.slice A0 n0 c0, .slice B0 m0 d0] 49)).alloc (.cells #[.slice A1 n1 c1] 24)) = w0 at *
  have hsok1 := szG_ok3 (l := 1048576) (n := n0) (m := m0)
  have hrg1 : szG 1048576 n0 m0 < 0 ∨ ¬ szG 1048576 n0 m0 < 0 := by omega
  refine (szGraph_any A0 B0 n0 c0 m0 d0 1048576 _ hn0 hm0 (by omega) (by omega)).mono ?_
  rintro e w1 ⟨rfl, hb1⟩
  have S1 : w0.heap.size ≤ w1.heap.size := hb1.size
  have hB1 := below_then hB0 hb1
  have kaG_0_1 := cell_keep hb1 kaG_0_0
  have kaG_1_1 := cell_keep hb1 kaG_1_0
  have kaB_0_1 := cell_keep hb1 kaB_0_0
  clear kaG_0_0 kaG_1_0 kaB_0_0 hb1
  obtain ⟨q1, hq1⟩ : ∃ q, szG 1048576 n0 m0 = q := ⟨_, rfl⟩
  rw [hq1] at hsok1 hrg1 ⊢
  clear hq1
  rcases hrg1 with hneg | hpos
  · go_wp2
    go_ret
    exact ⟨rfl, hB1⟩
  obtain ⟨hsum1, hq1b, hq1c⟩ := hsok1 hpos
  have hq1d : q1 ≤ 1048576 := by omega
  replace hq1c := hq1d
  clear hq1d
  have GA0 : GRd W A0 n0 B0 m0 g0 := ⟨hg0, by omega, by omega⟩
  clear hsum1 hsok1 hn0 hm0 hg0
  have hsok2 := szI_ok (l := q1) (n := n1)
  have hrg2 : szI q1 n1 < 0 ∨ ¬ szI q1 n1 < 0 := by omega
  go_wp2_with fail
  refine (szBatch_any A1 n1 c1 q1 _ hn1 hq1b hq1c).mono ?_
  rintro e w2 ⟨rfl, hb2⟩
  have S2 : w1.heap.size ≤ w2.heap.size := hb2.size
  have hB2 := below_then hB1 hb2
  have kaG_0_2 := cell_keep hb2 kaG_0_1
  have kaG_1_2 := cell_keep hb2 kaG_1_1
  have kaB_0_2 := cell_keep hb2 kaB_0_1
  clear hB1 kaG_0_1 kaG_1_1 kaB_0_1 hb2
  obtain ⟨q2, hq2⟩ : ∃ q, szI q1 n1 = q := ⟨_, rfl⟩
  rw [hq2] at hsok2 hrg2 ⊢
  clear hq2
  rcases hrg2 with hneg | hpos
  · go_wp2
    go_ret
    exact ⟨rfl, hB2⟩
  obtain ⟨hsum2, hq2b, hq2c⟩ := hsok2 hpos
  have hq2d : q2 ≤ 1048576 := by omega
  replace hq2c := hq2d
  clear hq2d
  have GA1 : CRd W A1 n1 l1 := ⟨hl1, hr1, by omega⟩
  clear hsum2 hsok2 hn1 hl1 hr1
  go_upto_region 8 with (fail)
  go_cut [6, 7] (fun p b wx => CutGs w2 r0 r1 p b wx)
  case first =>
    go_region_held3 (fun w' => w'.cell? ⟨W.heap.size, 0, none⟩ = some (.slice A0 n0 c0) ∧ w'.cell? ⟨W.heap.size, 1, none⟩ = some (.slice B0 m0 d0) ∧ w'.cell? ⟨W.heap.size + 1, 0, none⟩ = some (.slice A1 n1 c1)) (first | exact ⟨kaG_0_2, kaG_1_2, kaB_0_2⟩ | exact ⟨cell_al _ (w := w2) kaG_0_2, cell_al _ (w := w2) kaG_1_2, cell_al _ (w := w2) kaB_0_2⟩ | exact ⟨cell_keep hn0 kaG_0_2, cell_keep hn0 kaG_1_2, cell_keep hn0 kaB_0_2⟩ | exact ⟨cell_al _ (cell_keep hn0 kaG_0_2), cell_al _ (cell_keep hn0 kaG_1_2), cell_al _ (cell_keep hn0 kaB_0_2)⟩ | exact ⟨cell_keep hn1 kaG_0_2, cell_keep hn1 kaG_1_2, cell_keep hn1 kaB_0_2⟩ | exact ⟨cell_al _ (cell_keep hn1 kaG_0_2), cell_al _ (cell_keep hn1 kaG_1_2), cell_al _ (cell_keep hn1 kaB_0_2)⟩ | exact ⟨cell_keep hn2 kaG_0_2, cell_keep hn2 kaG_1_2, cell_keep hn2 kaB_0_2⟩ | exact ⟨cell_al _ (cell_keep hn2 kaG_0_2), cell_al _ (cell_keep hn2 kaG_1_2), cell_al _ (cell_keep hn2 kaB_0_2)⟩ | exact ⟨cell_sf (cell_sf (cell_keep hn2 kaG_0_2) (by dsimp only; omega)) (by dsimp only; omega), cell_sf (cell_sf (cell_keep hn2 kaG_1_2) (by dsimp only; omega)) (by dsimp only; omega), cell_sf (cell_sf (cell_keep hn2 kaB_0_2) (by dsimp only; omega)) (by dsimp only; omega)⟩ | exact ⟨cell_sf (cell_sf (cell_al _ (cell_keep hn2 kaG_0_2)) (by dsimp only; omega)) (by dsimp only; omega), cell_sf (cell_sf (cell_al _ (cell_keep hn2 kaG_1_2)) (by dsimp only; omega)) (by dsimp only; omega), cell_sf (cell_sf (cell_al _ (cell_keep hn2 kaB_0_2)) (by dsimp only; omega)) (by dsimp only; omega)⟩ | go_keep) (first
        | (go_simp; go_at_call 40; refine Calls.mono (specApplyBatch_is _ (OC3_0.below (by first | exact Below.refl _ _ | exact (Below.refl _ _).drew | exact (Below.refl _ _).alloc (Nat.le_refl _) _ | exact ((Below.refl _ _).alloc (Nat.le_refl _) _).drew)).grd (OC3_1.below (by first | exact Below.refl _ _ | exact (Below.refl _ _).drew | exact (Below.refl _ _).alloc (Nat.le_refl _) _ | exact ((Below.refl _ _).alloc (Nat.le_refl _) _).drew)).crd) ?_; rw [HR0.out]; rw [HR1.out]; rintro e u3_2 ⟨A_, n_, c_, B_, m_, d_, rfl, OR, hb2_⟩; have LO := cut_lo hn1 (by first | exact Below.refl _ _ | exact (Below.refl _ _).drew | exact (Below.refl _ _).alloc (Nat.le_refl _) _ | exact ((Below.refl _ _).alloc (Nat.le_refl _) _).drew) OR; have HI := cut_hi hb2_ OR; (try (have ZL := cut_zl ZB (by first | exact Below.refl _ _ | exact (Below.refl _ _).drew | exact (Below.refl _ _).alloc (Nat.le_refl _) _ | exact ((Below.refl _ _).alloc (Nat.le_refl _) _).drew) OR)); (try (have ZL := cut_za OR)); (try (have ZL := cut_zd OR)); have hk2 : Below u3_1.heap.size u3_1 u3_2 := below_then (W := u3_1) (by first | exact Below.refl _ _ | exact (Below.refl _ _).drew | exact (Below.refl _ _).alloc (Nat.le_refl _) _ | exact ((Below.refl _ _).alloc (Nat.le_refl _) _).drew) hb2_; have hn2 : Below w2.heap.size w2 u3_2 := below_then (W := w2) hn1 hk2; have sz2 : w2.heap.size ≤ u3_2.heap.size := hn2.size; (try (replace ZB := ZB.below hk2 ZB.lt)); (try (have ZB := (Blk.new u3_1 53 #[.slice none 0 0, .slice none 0 0]).below hb2_ (lt_al _ _))); have OR2 := OR; (try (have zc0 := ZB.c10)); (try (have zc0 := ZB.c20)); (try (have zc1 := ZB.c21)); (try (have zf0 := ZB.frozen 0)); (try (have zf1 := ZB.frozen 1)); (try dsimp only))
        | (go_simp; go_at_call 16; refine Calls.mono (toBatch_rd _ (GA1.up (below_then hB2 (below_then (W := w2) hn0 (by first | exact Below.refl _ _ | exact (Below.refl _ _).drew | exact (Below.refl _ _).alloc (Nat.le_refl _) _ | exact ((Below.refl _ _).alloc (Nat.le_refl _) _).drew))))) ?_; rintro e u3_1 ⟨XA1, rfl, OC3_1, hb1_⟩; have hk1 : Below u3_0.heap.size u3_0 u3_1 := below_then (W := u3_0) (by first | exact Below.refl _ _ | exact (Below.refl _ _).drew | exact (Below.refl _ _).alloc (Nat.le_refl _) _ | exact ((Below.refl _ _).alloc (Nat.le_refl _) _).drew) hb1_; have hn1 : Below w2.heap.size w2 u3_1 := below_then (W := w2) hn0 hk1; have sz1 : w2.heap.size ≤ u3_1.heap.size := hn1.size; (try (replace ZB := ZB.below hk1 ZB.lt)); (try (have ZB := (Blk.new u3_0 53 #[.slice none 0 0, .slice none 0 0]).below hb1_ (lt_al _ _))); replace OC3_0 := OC3_0.below hk1; (try dsimp only))
        | (go_simp; go_at_call 30; refine Calls.mono (toGraph_rd _ (GA0.up (below_then hB2 (below_then (W := w2) (Below.refl _ _) (by first | exact Below.refl _ _ | exact (Below.refl _ _).drew | exact (Below.refl _ _).alloc (Nat.le_refl _) _ | exact ((Below.refl _ _).alloc (Nat.le_refl _) _).drew))))) ?_; rintro e u3_0 ⟨XA0, XB0, rfl, OC3_0, hb0_⟩; have hk0 : Below w2.heap.size w2 u3_0 := below_then (W := w2) (by first | exact Below.refl _ _ | exact (Below.refl _ _).drew | exact (Below.refl _ _).alloc (Nat.le_refl _) _ | exact ((Below.refl _ _).alloc (Nat.le_refl _) _).drew) hb0_; have hn0 : Below w2.heap.size w2 u3_0 := below_then (W := w2) (Below.refl _ _) hk0; have sz0 : w2.heap.size ≤ u3_0.heap.size := hn0.size; (try (have ZB := (Blk.new w2 53 #[.slice none 0 0, .slice none 0 0]).below hb0_ (lt_al _ _))); (try (have ZB := (Blk.drew (Blk.new w2 53 #[.slice none 0 0, .slice none 0 0])).below hb0_ (lt_ald _ _))); (try dsimp only)))
    all_goals
      go_wp2_with fail
      go_meet
      case rel => first | exact CutGs.late hn2 LO HI OR2 | exact CutGs.early hn2 LO HI OR2 ZB (by omega) ZL
  case rest =>
    obtain ⟨xb3, A3_0, n3_0, c3_0, B3_0, m3_0, d3_0, glo3, ghi3, rfl, rfl, kw0_0_3, kw0_1_3, O3_0, hb3, hlo3, hhi3, hgl3, hgm3, hgh3, hsep3⟩ := hcut
    obtain ⟨w3, rfl⟩ : ∃ x : World, x = wc := ⟨_, rfl⟩
    have S3 : w2.heap.size ≤ w3.heap.size := hb3.size
    have hB3 := below_then hB2 hb3
    have kaG_0_3 := cell_keep hb3 kaG_0_2
    have kaG_1_3 := cell_keep hb3 kaG_1_2
    have kaB_0_3 := cell_keep hb3 kaB_0_2
    clear hB2 kaG_0_2 kaG_1_2 kaB_0_2 hb3
    go_wp2_with fail
    refine (toGraph_rd _ (GA0.up hB3)).mono ?_
    rintro e w4 ⟨X4A, X4B, rfl, O4, hb4⟩
    have S4 : w3.heap.size ≤ w4.heap.size := hb4.size
    have hB4 := below_then hB3 hb4
    have kaG_0_4 := cell_keep hb4 kaG_0_3
    have kaG_1_4 := cell_keep hb4 kaG_1_3
    have kaB_0_4 := cell_keep hb4 kaB_0_3
    have kw0_0_4 := cell_keep hb4 kw0_0_3
    have kw0_1_4 := cell_keep hb4 kw0_1_3
    replace O3_0 := O3_0.below hb4
    clear hB3 kaG_0_3 kaG_1_3 kaB_0_3 kw0_0_3 kw0_1_3 hb4
    have hb5 : Below w4.heap.size w4 (w4.alloc (.cells #[.slice X4A n0 n0, .slice X4B m0 m0] 53)) := (Below.refl _ _).alloc (Nat.le_refl _) _
    have kx0_0_5 : (w4.alloc (.cells #[.slice X4A n0 n0, .slice X4B m0 m0] 53)).cell? ⟨w4.heap.size, 0, none⟩ = some (.slice X4A n0 n0) := by go_simp
    have kx0_1_5 : (w4.alloc (.cells #[.slice X4A n0 n0, .slice X4B m0 m0] 53)).cell? ⟨w4.heap.size, 1, none⟩ = some (.slice X4B m0 m0) := by go_simp
    have S5 : w4.heap.size < (w4.alloc (.cells #[.slice X4A n0 n0, .slice X4B m0 m0] 53)).heap.size := by simp
    have hB5 := below_then hB4 hb5
    have kaG_0_5 := cell_keep hb5 kaG_0_4
    have kaG_1_5 := cell_keep hb5 kaG_1_4
    have kaB_0_5 := cell_keep hb5 kaB_0_4
    have kw0_0_5 := cell_keep hb5 kw0_0_4
    have kw0_1_5 := cell_keep hb5 kw0_1_4
    replace O3_0 := O3_0.below hb5
    replace O4 := O4.below hb5
    clear hB4 kaG_0_4 kaG_1_4 kaB_0_4 kw0_0_4 kw0_1_4 hb5
    go_wp2_with fail
    generalize (w4.alloc (.cells #[.slice X4A n0 n0, .slice X4B m0 m0] 53)) = w5 at *
    refine (toBatch_rd _ (GA1.up hB5)).mono ?_
    rintro e w6 ⟨X6A, rfl, O6, hb6⟩
    have S6 : w5.heap.size ≤ w6.heap.size := hb6.size
    have hB6 := below_then hB5 hb6
    have kaG_0_6 := cell_keep hb6 kaG_0_5
    have kaG_1_6 := cell_keep hb6 kaG_1_5
    have kaB_0_6 := cell_keep hb6 kaB_0_5
    have kw0_0_6 := cell_keep hb6 kw0_0_5
    have kw0_1_6 := cell_keep hb6 kw0_1_5
    have kx0_0_6 := cell_keep hb6 kx0_0_5
    have kx0_1_6 := cell_keep hb6 kx0_1_5
    replace O3_0 := O3_0.below hb6
    replace O4 := O4.below hb6
    clear hB5 kaG_0_5 kaG_1_5 kaB_0_5 kw0_0_5 kw0_1_5 kx0_0_5 kx0_1_5 hb6
    have hb7 : Below w6.heap.size w6 (w6.alloc (.cells #[.slice X6A n1 n1] 28)) := (Below.refl _ _).alloc (Nat.le_refl _) _
    have kx1_0_7 : (w6.alloc (.cells #[.slice X6A n1 n1] 28)).cell? ⟨w6.heap.size, 0, none⟩ = some (.slice X6A n1 n1) := by go_simp
    have S7 : w6.heap.size < (w6.alloc (.cells #[.slice X6A n1 n1] 28)).heap.size := by simp
    have hB7 := below_then hB6 hb7
    have kaG_0_7 := cell_keep hb7 kaG_0_6
    have kaG_1_7 := cell_keep hb7 kaG_1_6
    have kaB_0_7 := cell_keep hb7 kaB_0_6
    have kw0_0_7 := cell_keep hb7 kw0_0_6
    have kw0_1_7 := cell_keep hb7 kw0_1_6
    have kx0_0_7 := cell_keep hb7 kx0_0_6
    have kx0_1_7 := cell_keep hb7 kx0_1_6
    replace O3_0 := O3_0.below hb7
    replace O4 := O4.below hb7
    replace O6 := O6.below hb7
    clear hB6 kaG_0_6 kaG_1_6 kaB_0_6 kw0_0_6 kw0_1_6 kx0_0_6 kx0_1_6 hb7
    go_wp2_with fail
    generalize (w6.alloc (.cells #[.slice X6A n1 n1] 28)) = w7 at *
    refine (implApplyBatch_is _ O4.grd O6.crd).mono ?_
    rw [HR0.out]
    rw [HR1.out]
    rintro e w8 ⟨A8_0, n8_0, c8_0, B8_0, m8_0, d8_0, rfl, O8_0, hb8⟩
    have S8 : w7.heap.size ≤ w8.heap.size := hb8.size
    have hB8 := below_then hB7 hb8
    have kaG_0_8 := cell_keep hb8 kaG_0_7
    have kaG_1_8 := cell_keep hb8 kaG_1_7
    have kaB_0_8 := cell_keep hb8 kaB_0_7
    have kw0_0_8 := cell_keep hb8 kw0_0_7
    have kw0_1_8 := cell_keep hb8 kw0_1_7
    have kx0_0_8 := cell_keep hb8 kx0_0_7
    have kx0_1_8 := cell_keep hb8 kx0_1_7
    have kx1_0_8 := cell_keep hb8 kx1_0_7
    replace O3_0 := O3_0.below hb8
    replace O4 := O4.below hb8
    replace O6 := O6.below hb8
    clear hB7 kaG_0_7 kaG_1_7 kaB_0_7 kw0_0_7 kw0_1_7 kx0_0_7 kx0_1_7 kx1_0_7 hb8
    have hb9 : Below w8.heap.size w8 (w8.alloc (.cells #[.slice A8_0 n8_0 c8_0, .slice B8_0 m8_0 d8_0] 53)) := (Below.refl _ _).alloc (Nat.le_refl _) _
    have kg0_0_9 : (w8.alloc (.cells #[.slice A8_0 n8_0 c8_0, .slice B8_0 m8_0 d8_0] 53)).cell? ⟨w8.heap.size, 0, none⟩ = some (.slice A8_0 n8_0 c8_0) := by go_simp
    have kg0_1_9 : (w8.alloc (.cells #[.slice A8_0 n8_0 c8_0, .slice B8_0 m8_0 d8_0] 53)).cell? ⟨w8.heap.size, 1, none⟩ = some (.slice B8_0 m8_0 d8_0) := by go_simp
    have S9 : w8.heap.size < (w8.alloc (.cells #[.slice A8_0 n8_0 c8_0, .slice B8_0 m8_0 d8_0] 53)).heap.size := by simp
    have hB9 := below_then hB8 hb9
    have kaG_0_9 := cell_keep hb9 kaG_0_8
    have kaG_1_9 := cell_keep hb9 kaG_1_8
    have kaB_0_9 := cell_keep hb9 kaB_0_8
    have kw0_0_9 := cell_keep hb9 kw0_0_8
    have kw0_1_9 := cell_keep hb9 kw0_1_8
    have kx0_0_9 := cell_keep hb9 kx0_0_8
    have kx0_1_9 := cell_keep hb9 kx0_1_8
    have kx1_0_9 := cell_keep hb9 kx1_0_8
    replace O3_0 := O3_0.below hb9
    replace O4 := O4.below hb9
    replace O6 := O6.below hb9
    replace O8_0 := O8_0.below hb9
    clear hB8 kaG_0_8 kaG_1_8 kaB_0_8 kw0_0_8 kw0_1_8 kx0_0_8 kx0_1_8 kx1_0_8 hb9
    go_wp2_with fail
    generalize (w8.alloc (.cells #[.slice A8_0 n8_0 c8_0, .slice B8_0 m8_0 d8_0] 53)) = w9 at *
    refine (eqGraph_is _ O8_0 O3_0).mono ?_
    rintro e w10 ⟨rfl, hb10⟩
    have S10 : w9.heap.size ≤ w10.heap.size := hb10.size
    have hB10 := below_then hB9 hb10
    have kaG_0_10 := cell_keep hb10 kaG_0_9
    have kaG_1_10 := cell_keep hb10 kaG_1_9
    have kaB_0_10 := cell_keep hb10 kaB_0_9
    have kw0_0_10 := cell_keep hb10 kw0_0_9
    have kw0_1_10 := cell_keep hb10 kw0_1_9
    have kx0_0_10 := cell_keep hb10 kx0_0_9
    have kx0_1_10 := cell_keep hb10 kx0_1_9
    have kx1_0_10 := cell_keep hb10 kx1_0_9
    have kg0_0_10 := cell_keep hb10 kg0_0_9
    have kg0_1_10 := cell_keep hb10 kg0_1_9
    replace O3_0 := O3_0.below hb10
    replace O4 := O4.below hb10
    replace O6 := O6.below hb10
    replace O8_0 := O8_0.below hb10
    clear hB9 kaG_0_9 kaG_1_9 kaB_0_9 kw0_0_9 kw0_1_9 kx0_0_9 kx0_1_9 kx1_0_9 kg0_0_9 kg0_1_9 hb10
    go_wp2_with fail
    have hbD10 : Below w10.heap.size w10 w10.drew := (Below.refl _ _).drew
    have hBD10 := below_then hB10 hbD10
    have kaG_0_D10 := cell_keep hbD10 kaG_0_10
    have kaG_1_D10 := cell_keep hbD10 kaG_1_10
    have kaB_0_D10 := cell_keep hbD10 kaB_0_10
    have kw0_0_D10 := cell_keep hbD10 kw0_0_10
    have kw0_1_D10 := cell_keep hbD10 kw0_1_10
    have kx0_0_D10 := cell_keep hbD10 kx0_0_10
    have kx0_1_D10 := cell_keep hbD10 kx0_1_10
    have kx1_0_D10 := cell_keep hbD10 kx1_0_10
    have kg0_0_D10 := cell_keep hbD10 kg0_0_10
    have kg0_1_D10 := cell_keep hbD10 kg0_1_10
    replace O3_0 := O3_0.below hbD10
    replace O4 := O4.below hbD10
    replace O6 := O6.below hbD10
    replace O8_0 := O8_0.below hbD10
    go_region_held3 (fun w' => w'.cell? ⟨W.heap.size, 0, none⟩ = some (.slice A0 n0 c0) ∧ w'.cell? ⟨W.heap.size, 1, none⟩ = some (.slice B0 m0 d0) ∧ w'.cell? ⟨W.heap.size + 1, 0, none⟩ = some (.slice A1 n1 c1) ∧ w'.cell? ⟨xb3, 0, none⟩ = some (.slice A3_0 n3_0 c3_0) ∧ w'.cell? ⟨xb3, 1, none⟩ = some (.slice B3_0 m3_0 d3_0) ∧ w'.cell? ⟨w4.heap.size, 0, none⟩ = some (.slice X4A n0 n0) ∧ w'.cell? ⟨w4.heap.size, 1, none⟩ = some (.slice X4B m0 m0) ∧ w'.cell? ⟨w6.heap.size, 0, none⟩ = some (.slice X6A n1 n1) ∧ w'.cell? ⟨w8.heap.size, 0, none⟩ = some (.slice A8_0 n8_0 c8_0) ∧ w'.cell? ⟨w8.heap.size, 1, none⟩ = some (.slice B8_0 m8_0 d8_0)) (first | exact ⟨kaG_0_D10, kaG_1_D10, kaB_0_D10, kw0_0_D10, kw0_1_D10, kx0_0_D10, kx0_1_D10, kx1_0_D10, kg0_0_D10, kg0_1_D10⟩ | exact ⟨kaG_0_11, kaG_1_11, kaB_0_11, kw0_0_11, kw0_1_11, kx0_0_11, kx0_1_11, kx1_0_11, kg0_0_11, kg0_1_11⟩ | exact ⟨kaG_0_12, kaG_1_12, kaB_0_12, kw0_0_12, kw0_1_12, kx0_0_12, kx0_1_12, kx1_0_12, kg0_0_12, kg0_1_12⟩) (first
        | (go_simp; go_at_call 32; refine (eqGraph_is _ O4 O11).mono ?_; rintro e w12 ⟨rfl, hb12⟩; have S12 : w11.heap.size ≤ w12.heap.size := hb12.size; have hB12 := below_then hB11 hb12; have kaG_0_12 := cell_keep hb12 kaG_0_11; have kaG_1_12 := cell_keep hb12 kaG_1_11; have kaB_0_12 := cell_keep hb12 kaB_0_11; have kw0_0_12 := cell_keep hb12 kw0_0_11; have kw0_1_12 := cell_keep hb12 kw0_1_11; have kx0_0_12 := cell_keep hb12 kx0_0_11; have kx0_1_12 := cell_keep hb12 kx0_1_11; have kx1_0_12 := cell_keep hb12 kx1_0_11; have kg0_0_12 := cell_keep hb12 kg0_0_11; have kg0_1_12 := cell_keep hb12 kg0_1_11; replace O3_0 := O3_0.below hb12; replace O4 := O4.below hb12; replace O6 := O6.below hb12; replace O8_0 := O8_0.below hb12; replace O11 := O11.below hb12; dsimp only)
        | (go_simp; go_at_call 30; refine (toGraph_rd _ (GA0.up hBD10)).mono ?_; rintro e w11 ⟨X11A, X11B, rfl, O11, hb11⟩; have S11 : w10.heap.size ≤ w11.heap.size := hb11.size; have hB11 := below_then hBD10 hb11; have kaG_0_11 := cell_keep hb11 kaG_0_D10; have kaG_1_11 := cell_keep hb11 kaG_1_D10; have kaB_0_11 := cell_keep hb11 kaB_0_D10; have kw0_0_11 := cell_keep hb11 kw0_0_D10; have kw0_1_11 := cell_keep hb11 kw0_1_D10; have kx0_0_11 := cell_keep hb11 kx0_0_D10; have kx0_1_11 := cell_keep hb11 kx0_1_D10; have kx1_0_11 := cell_keep hb11 kx1_0_D10; have kg0_0_11 := cell_keep hb11 kg0_0_D10; have kg0_1_11 := cell_keep hb11 kg0_1_D10; replace O3_0 := O3_0.below hb11; replace O4 := O4.below hb11; replace O6 := O6.below hb11; replace O8_0 := O8_0.below hb11; replace O11 := O11.wide (lo := w10.heap.size) (hi := w11.heap.size) (Nat.le_refl _) (Nat.le_refl _); dsimp only))
    clear hB10 kaG_0_10 kaG_1_10 kaB_0_10 kw0_0_10 kw0_1_10 kx0_0_10 kx0_1_10 kx1_0_10 kg0_0_10 kg0_1_10 hbD10 hBD10 kaG_0_D10 kaG_1_D10 kaB_0_D10 kw0_0_D10 kw0_1_D10 kx0_0_D10 kx0_1_D10 kx1_0_D10 kg0_0_D10 kg0_1_D10 hb11 hB11 kaG_0_11 kaG_1_11 kaB_0_11 kw0_0_11 kw0_1_11 kx0_0_11 kx0_1_11 kx1_0_11 kg0_0_11 kg0_1_11 hb12
    clear O11
    go_wp2_with fail
    have hbD12 : Below w12.heap.size w12 w12.drew := (Below.refl _ _).drew
    have hBD12 := below_then hB12 hbD12
    have kaG_0_D12 := cell_keep hbD12 kaG_0_12
    have kaG_1_D12 := cell_keep hbD12 kaG_1_12
    have kaB_0_D12 := cell_keep hbD12 kaB_0_12
    have kw0_0_D12 := cell_keep hbD12 kw0_0_12
    have kw0_1_D12 := cell_keep hbD12 kw0_1_12
    have kx0_0_D12 := cell_keep hbD12 kx0_0_12
    have kx0_1_D12 := cell_keep hbD12 kx0_1_12
    have kx1_0_D12 := cell_keep hbD12 kx1_0_12
    have kg0_0_D12 := cell_keep hbD12 kg0_0_12
    have kg0_1_D12 := cell_keep hbD12 kg0_1_12
    replace O3_0 := O3_0.below hbD12
    replace O4 := O4.below hbD12
    replace O6 := O6.below hbD12
    replace O8_0 := O8_0.below hbD12
    go_region_held3 (fun w' => w'.cell? ⟨W.heap.size, 0, none⟩ = some (.slice A0 n0 c0) ∧ w'.cell? ⟨W.heap.size, 1, none⟩ = some (.slice B0 m0 d0) ∧ w'.cell? ⟨W.heap.size + 1, 0, none⟩ = some (.slice A1 n1 c1) ∧ w'.cell? ⟨xb3, 0, none⟩ = some (.slice A3_0 n3_0 c3_0) ∧ w'.cell? ⟨xb3, 1, none⟩ = some (.slice B3_0 m3_0 d3_0) ∧ w'.cell? ⟨w4.heap.size, 0, none⟩ = some (.slice X4A n0 n0) ∧ w'.cell? ⟨w4.heap.size, 1, none⟩ = some (.slice X4B m0 m0) ∧ w'.cell? ⟨w6.heap.size, 0, none⟩ = some (.slice X6A n1 n1) ∧ w'.cell? ⟨w8.heap.size, 0, none⟩ = some (.slice A8_0 n8_0 c8_0) ∧ w'.cell? ⟨w8.heap.size, 1, none⟩ = some (.slice B8_0 m8_0 d8_0)) (first | exact ⟨kaG_0_D12, kaG_1_D12, kaB_0_D12, kw0_0_D12, kw0_1_D12, kx0_0_D12, kx0_1_D12, kx1_0_D12, kg0_0_D12, kg0_1_D12⟩ | exact ⟨kaG_0_13, kaG_1_13, kaB_0_13, kw0_0_13, kw0_1_13, kx0_0_13, kx0_1_13, kx1_0_13, kg0_0_13, kg0_1_13⟩ | exact ⟨kaG_0_14, kaG_1_14, kaB_0_14, kw0_0_14, kw0_1_14, kx0_0_14, kx0_1_14, kx1_0_14, kg0_0_14, kg0_1_14⟩) (first
        | (go_simp; go_at_call 18; refine (eqBatch_is _ O6 O13).mono ?_; rintro e w14 ⟨rfl, hb14⟩; have S14 : w13.heap.size ≤ w14.heap.size := hb14.size; have hB14 := below_then hB13 hb14; have kaG_0_14 := cell_keep hb14 kaG_0_13; have kaG_1_14 := cell_keep hb14 kaG_1_13; have kaB_0_14 := cell_keep hb14 kaB_0_13; have kw0_0_14 := cell_keep hb14 kw0_0_13; have kw0_1_14 := cell_keep hb14 kw0_1_13; have kx0_0_14 := cell_keep hb14 kx0_0_13; have kx0_1_14 := cell_keep hb14 kx0_1_13; have kx1_0_14 := cell_keep hb14 kx1_0_13; have kg0_0_14 := cell_keep hb14 kg0_0_13; have kg0_1_14 := cell_keep hb14 kg0_1_13; replace O3_0 := O3_0.below hb14; replace O4 := O4.below hb14; replace O6 := O6.below hb14; replace O8_0 := O8_0.below hb14; replace O13 := O13.below hb14; dsimp only)
        | (go_simp; go_at_call 16; refine (toBatch_rd _ (GA1.up hBD12)).mono ?_; rintro e w13 ⟨X13A, rfl, O13, hb13⟩; have S13 : w12.heap.size ≤ w13.heap.size := hb13.size; have hB13 := below_then hBD12 hb13; have kaG_0_13 := cell_keep hb13 kaG_0_D12; have kaG_1_13 := cell_keep hb13 kaG_1_D12; have kaB_0_13 := cell_keep hb13 kaB_0_D12; have kw0_0_13 := cell_keep hb13 kw0_0_D12; have kw0_1_13 := cell_keep hb13 kw0_1_D12; have kx0_0_13 := cell_keep hb13 kx0_0_D12; have kx0_1_13 := cell_keep hb13 kx0_1_D12; have kx1_0_13 := cell_keep hb13 kx1_0_D12; have kg0_0_13 := cell_keep hb13 kg0_0_D12; have kg0_1_13 := cell_keep hb13 kg0_1_D12; replace O3_0 := O3_0.below hb13; replace O4 := O4.below hb13; replace O6 := O6.below hb13; replace O8_0 := O8_0.below hb13; replace O13 := O13.wide (lo := w12.heap.size) (hi := w13.heap.size) (Nat.le_refl _) (Nat.le_refl _); dsimp only))
    clear hB12 kaG_0_12 kaG_1_12 kaB_0_12 kw0_0_12 kw0_1_12 kx0_0_12 kx0_1_12 kx1_0_12 kg0_0_12 kg0_1_12 hbD12 hBD12 kaG_0_D12 kaG_1_D12 kaB_0_D12 kw0_0_D12 kw0_1_D12 kx0_0_D12 kx0_1_D12 kx1_0_D12 kg0_0_D12 kg0_1_D12 hb13 hB13 kaG_0_13 kaG_1_13 kaB_0_13 kw0_0_13 kw0_1_13 kx0_0_13 kx0_1_13 kx1_0_13 kg0_0_13 kg0_1_13 hb14
    clear O13
    obtain ⟨y15, hy15⟩ : ∃ x : Nat, 1 + n0 + m0 * 4 = x := ⟨_, rfl⟩
    have hy15b : y15 ≤ 10000001 := by have := O4.ou.bd; have := O4.ov.bd; omega
    have Hy15 := Lib.hid hy15
    clear hy15
    go_wp2_with fail
    refine (markGraph_is _ 1 O4 (by omega) (by omega) (by omega)).mono ?_
    rw [Hy15.out]
    rintro e w15 ⟨rfl, MO4, t15⟩
    have S15 : w14.heap.size ≤ w15.heap.size := t15.size
    have hB15 := below_tch hB14 t15 (by omega)
    have kaG_0_15 := cell_tch t15 kaG_0_14 (.inl (by dsimp only; omega))
    have kaG_1_15 := cell_tch t15 kaG_1_14 (.inl (by dsimp only; omega))
    have kaB_0_15 := cell_tch t15 kaB_0_14 (.inl (by dsimp only; omega))
    have kw0_0_15 := cell_tch t15 kw0_0_14 (.inl (by dsimp only; omega))
    have kw0_1_15 := cell_tch t15 kw0_1_14 (.inl (by dsimp only; omega))
    have kx0_0_15 := cell_tch t15 kx0_0_14 (.inr (by dsimp only; omega))
    have kx0_1_15 := cell_tch t15 kx0_1_14 (.inr (by dsimp only; omega))
    have kx1_0_15 := cell_tch t15 kx1_0_14 (.inr (by dsimp only; omega))
    have kg0_0_15 := cell_tch t15 kg0_0_14 (.inr (by dsimp only; omega))
    have kg0_1_15 := cell_tch t15 kg0_1_14 (.inr (by dsimp only; omega))
    replace O3_0 := O3_0.tch t15 (.inl (by omega))
    replace O6 := O6.tch t15 (.inr (by omega))
    replace O8_0 := O8_0.tch t15 (.inr (by omega))
    clear hB14 kaG_0_14 kaG_1_14 kaB_0_14 kw0_0_14 kw0_1_14 kx0_0_14 kx0_1_14 kx1_0_14 kg0_0_14 kg0_1_14 t15
    clear O4
    obtain ⟨y16, hy16⟩ : ∃ x : Nat, y15 + n1 * 5 = x := ⟨_, rfl⟩
    have hy16b : y16 ≤ 20000001 := by have := O6.bd; omega
    have Hy16 := Lib.hid hy16
    clear hy16
    go_wp2_with fail
    refine (markBatch_is _ y15 O6 (by omega) (by omega) (by omega)).mono ?_
    rw [Hy16.out]
    rintro e w16 ⟨rfl, MO6, t16⟩
    have S16 : w15.heap.size ≤ w16.heap.size := t16.size
    have hB16 := below_tch hB15 t16 (by omega)
    have kaG_0_16 := cell_tch t16 kaG_0_15 (.inl (by dsimp only; omega))
    have kaG_1_16 := cell_tch t16 kaG_1_15 (.inl (by dsimp only; omega))
    have kaB_0_16 := cell_tch t16 kaB_0_15 (.inl (by dsimp only; omega))
    have kw0_0_16 := cell_tch t16 kw0_0_15 (.inl (by dsimp only; omega))
    have kw0_1_16 := cell_tch t16 kw0_1_15 (.inl (by dsimp only; omega))
    have kx0_0_16 := cell_tch t16 kx0_0_15 (.inl (by dsimp only; omega))
    have kx0_1_16 := cell_tch t16 kx0_1_15 (.inl (by dsimp only; omega))
    have kx1_0_16 := cell_tch t16 kx1_0_15 (.inr (by dsimp only; omega))
    have kg0_0_16 := cell_tch t16 kg0_0_15 (.inr (by dsimp only; omega))
    have kg0_1_16 := cell_tch t16 kg0_1_15 (.inr (by dsimp only; omega))
    replace O3_0 := O3_0.tch t16 (.inl (by omega))
    replace O8_0 := O8_0.tch t16 (.inr (by omega))
    replace MO4 := MO4.tch t16 (.inl (by omega))
    clear hB15 kaG_0_15 kaG_1_15 kaB_0_15 kw0_0_15 kw0_1_15 kx0_0_15 kx0_1_15 kx1_0_15 kg0_0_15 kg0_1_15 t16
    clear O6
    go_wp2_with fail
    refine (eqGraph_is _ O8_0 O3_0).mono ?_
    rintro e w17 ⟨rfl, hb17⟩
    have S17 : w16.heap.size ≤ w17.heap.size := hb17.size
    have hB17 := below_then hB16 hb17
    have kaG_0_17 := cell_keep hb17 kaG_0_16
    have kaG_1_17 := cell_keep hb17 kaG_1_16
    have kaB_0_17 := cell_keep hb17 kaB_0_16
    have kw0_0_17 := cell_keep hb17 kw0_0_16
    have kw0_1_17 := cell_keep hb17 kw0_1_16
    have kx0_0_17 := cell_keep hb17 kx0_0_16
    have kx0_1_17 := cell_keep hb17 kx0_1_16
    have kx1_0_17 := cell_keep hb17 kx1_0_16
    have kg0_0_17 := cell_keep hb17 kg0_0_16
    have kg0_1_17 := cell_keep hb17 kg0_1_16
    replace O3_0 := O3_0.below hb17
    replace O8_0 := O8_0.below hb17
    replace MO4 := MO4.below hb17
    replace MO6 := MO6.below hb17
    clear hB16 kaG_0_16 kaG_1_16 kaB_0_16 kw0_0_16 kw0_1_16 kx0_0_16 kx0_1_16 kx1_0_16 kg0_0_16 kg0_1_16 hb17
    obtain ⟨y18, hy18⟩ : ∃ x : Nat, 1 + n8_0 + m8_0 * 4 = x := ⟨_, rfl⟩
    have hy18b : y18 ≤ 10000001 := by have := O8_0.ou.bd; have := O8_0.ov.bd; omega
    have Hy18 := Lib.hid hy18
    clear hy18
    go_wp2_with fail
    refine (markGraph_is _ 1 O8_0 (by omega) (by omega) (by omega)).mono ?_
    rw [Hy18.out]
    rintro e w18 ⟨rfl, MO8_0, t18⟩
    have S18 : w17.heap.size ≤ w18.heap.size := t18.size
    have hB18 := below_tch hB17 t18 (by omega)
    have kaG_0_18 := cell_tch t18 kaG_0_17 (.inl (by dsimp only; omega))
    have kaG_1_18 := cell_tch t18 kaG_1_17 (.inl (by dsimp only; omega))
    have kaB_0_18 := cell_tch t18 kaB_0_17 (.inl (by dsimp only; omega))
    have kw0_0_18 := cell_tch t18 kw0_0_17 (.inl (by dsimp only; omega))
    have kw0_1_18 := cell_tch t18 kw0_1_17 (.inl (by dsimp only; omega))
    have kx0_0_18 := cell_tch t18 kx0_0_17 (.inl (by dsimp only; omega))
    have kx0_1_18 := cell_tch t18 kx0_1_17 (.inl (by dsimp only; omega))
    have kx1_0_18 := cell_tch t18 kx1_0_17 (.inl (by dsimp only; omega))
    have kg0_0_18 := cell_tch t18 kg0_0_17 (.inr (by dsimp only; omega))
    have kg0_1_18 := cell_tch t18 kg0_1_17 (.inr (by dsimp only; omega))
    replace O3_0 := O3_0.tch t18 (.inl (by omega))
    replace MO4 := MO4.tch t18 (.inl (by omega))
    replace MO6 := MO6.tch t18 (.inl (by omega))
    clear hB17 kaG_0_17 kaG_1_17 kaB_0_17 kw0_0_17 kw0_1_17 kx0_0_17 kx0_1_17 kx1_0_17 kg0_0_17 kg0_1_17 t18
    clear O8_0
    go_wp2_with fail
    refine (heldGraph_is _ 1 MO8_0 (by omega)).mono ?_
    rw [Hy18.out]
    rintro e w19 ⟨rfl, hb19⟩
    have S19 : w18.heap.size ≤ w19.heap.size := hb19.size
    have hB19 := below_then hB18 hb19
    have kaG_0_19 := cell_keep hb19 kaG_0_18
    have kaG_1_19 := cell_keep hb19 kaG_1_18
    have kaB_0_19 := cell_keep hb19 kaB_0_18
    have kw0_0_19 := cell_keep hb19 kw0_0_18
    have kw0_1_19 := cell_keep hb19 kw0_1_18
    have kx0_0_19 := cell_keep hb19 kx0_0_18
    have kx0_1_19 := cell_keep hb19 kx0_1_18
    have kx1_0_19 := cell_keep hb19 kx1_0_18
    have kg0_0_19 := cell_keep hb19 kg0_0_18
    have kg0_1_19 := cell_keep hb19 kg0_1_18
    replace O3_0 := O3_0.below hb19
    replace MO4 := MO4.below hb19
    replace MO6 := MO6.below hb19
    replace MO8_0 := MO8_0.below hb19
    clear hB18 kaG_0_18 kaG_1_18 kaB_0_18 kw0_0_18 kw0_1_18 kx0_0_18 kx0_1_18 kx1_0_18 kg0_0_18 kg0_1_18 hb19
    go_upto_region 31 with (fail)
    go_cut [15, 16] (fun p b wx => CutGs w19 r0 r1 p b wx)
    case first =>
      go_region_held3 (fun w' => w'.cell? ⟨W.heap.size, 0, none⟩ = some (.slice A0 n0 c0) ∧ w'.cell? ⟨W.heap.size, 1, none⟩ = some (.slice B0 m0 d0) ∧ w'.cell? ⟨W.heap.size + 1, 0, none⟩ = some (.slice A1 n1 c1) ∧ w'.cell? ⟨xb3, 0, none⟩ = some (.slice A3_0 n3_0 c3_0) ∧ w'.cell? ⟨xb3, 1, none⟩ = some (.slice B3_0 m3_0 d3_0) ∧ w'.cell? ⟨w4.heap.size, 0, none⟩ = some (.slice X4A n0 n0) ∧ w'.cell? ⟨w4.heap.size, 1, none⟩ = some (.slice X4B m0 m0) ∧ w'.cell? ⟨w6.heap.size, 0, none⟩ = some (.slice X6A n1 n1) ∧ w'.cell? ⟨w8.heap.size, 0, none⟩ = some (.slice A8_0 n8_0 c8_0) ∧ w'.cell? ⟨w8.heap.size, 1, none⟩ = some (.slice B8_0 m8_0 d8_0)) (first | exact ⟨kaG_0_19, kaG_1_19, kaB_0_19, kw0_0_19, kw0_1_19, kx0_0_19, kx0_1_19, kx1_0_19, kg0_0_19, kg0_1_19⟩ | exact ⟨cell_al _ (w := w19) kaG_0_19, cell_al _ (w := w19) kaG_1_19, cell_al _ (w := w19) kaB_0_19, cell_al _ (w := w19) kw0_0_19, cell_al _ (w := w19) kw0_1_19, cell_al _ (w := w19) kx0_0_19, cell_al _ (w := w19) kx0_1_19, cell_al _ (w := w19) kx1_0_19, cell_al _ (w := w19) kg0_0_19, cell_al _ (w := w19) kg0_1_19⟩ | exact ⟨cell_keep hn0 kaG_0_19, cell_keep hn0 kaG_1_19, cell_keep hn0 kaB_0_19, cell_keep hn0 kw0_0_19, cell_keep hn0 kw0_1_19, cell_keep hn0 kx0_0_19, cell_keep hn0 kx0_1_19, cell_keep hn0 kx1_0_19, cell_keep hn0 kg0_0_19, cell_keep hn0 kg0_1_19⟩ | exact ⟨cell_al _ (cell_keep hn0 kaG_0_19), cell_al _ (cell_keep hn0 kaG_1_19), cell_al _ (cell_keep hn0 kaB_0_19), cell_al _ (cell_keep hn0 kw0_0_19), cell_al _ (cell_keep hn0 kw0_1_19), cell_al _ (cell_keep hn0 kx0_0_19), cell_al _ (cell_keep hn0 kx0_1_19), cell_al _ (cell_keep hn0 kx1_0_19), cell_al _ (cell_keep hn0 kg0_0_19), cell_al _ (cell_keep hn0 kg0_1_19)⟩ | exact ⟨cell_keep hn1 kaG_0_19, cell_keep hn1 kaG_1_19, cell_keep hn1 kaB_0_19, cell_keep hn1 kw0_0_19, cell_keep hn1 kw0_1_19, cell_keep hn1 kx0_0_19, cell_keep hn1 kx0_1_19, cell_keep hn1 kx1_0_19, cell_keep hn1 kg0_0_19, cell_keep hn1 kg0_1_19⟩ | exact ⟨cell_al _ (cell_keep hn1 kaG_0_19), cell_al _ (cell_keep hn1 kaG_1_19), cell_al _ (cell_keep hn1 kaB_0_19), cell_al _ (cell_keep hn1 kw0_0_19), cell_al _ (cell_keep hn1 kw0_1_19), cell_al _ (cell_keep hn1 kx0_0_19), cell_al _ (cell_keep hn1 kx0_1_19), cell_al _ (cell_keep hn1 kx1_0_19), cell_al _ (cell_keep hn1 kg0_0_19), cell_al _ (cell_keep hn1 kg0_1_19)⟩ | exact ⟨cell_keep hn2 kaG_0_19, cell_keep hn2 kaG_1_19, cell_keep hn2 kaB_0_19, cell_keep hn2 kw0_0_19, cell_keep hn2 kw0_1_19, cell_keep hn2 kx0_0_19, cell_keep hn2 kx0_1_19, cell_keep hn2 kx1_0_19, cell_keep hn2 kg0_0_19, cell_keep hn2 kg0_1_19⟩ | exact ⟨cell_al _ (cell_keep hn2 kaG_0_19), cell_al _ (cell_keep hn2 kaG_1_19), cell_al _ (cell_keep hn2 kaB_0_19), cell_al _ (cell_keep hn2 kw0_0_19), cell_al _ (cell_keep hn2 kw0_1_19), cell_al _ (cell_keep hn2 kx0_0_19), cell_al _ (cell_keep hn2 kx0_1_19), cell_al _ (cell_keep hn2 kx1_0_19), cell_al _ (cell_keep hn2 kg0_0_19), cell_al _ (cell_keep hn2 kg0_1_19)⟩ | exact ⟨cell_sf (cell_sf (cell_keep hn2 kaG_0_19) (by dsimp only; omega)) (by dsimp only; omega), cell_sf (cell_sf (cell_keep hn2 kaG_1_19) (by dsimp only; omega)) (by dsimp only; omega), cell_sf (cell_sf (cell_keep hn2 kaB_0_19) (by dsimp only; omega)) (by dsimp only; omega), cell_sf (cell_sf (cell_keep hn2 kw0_0_19) (by dsimp only; omega)) (by dsimp only; omega), cell_sf (cell_sf (cell_keep hn2 kw0_1_19) (by dsimp only; omega)) (by dsimp only; omega), cell_sf (cell_sf (cell_keep hn2 kx0_0_19) (by dsimp only; omega)) (by dsimp only; omega), cell_sf (cell_sf (cell_keep hn2 kx0_1_19) (by dsimp only; omega)) (by dsimp only; omega), cell_sf (cell_sf (cell_keep hn2 kx1_0_19) (by dsimp only; omega)) (by dsimp only; omega), cell_sf (cell_sf (cell_keep hn2 kg0_0_19) (by dsimp only; omega)) (by dsimp only; omega), cell_sf (cell_sf (cell_keep hn2 kg0_1_19) (by dsimp only; omega)) (by dsimp only; omega)⟩ | exact ⟨cell_sf (cell_sf (cell_al _ (cell_keep hn2 kaG_0_19)) (by dsimp only; omega)) (by dsimp only; omega), cell_sf (cell_sf (cell_al _ (cell_keep hn2 kaG_1_19)) (by dsimp only; omega)) (by dsimp only; omega), cell_sf (cell_sf (cell_al _ (cell_keep hn2 kaB_0_19)) (by dsimp only; omega)) (by dsimp only; omega), cell_sf (cell_sf (cell_al _ (cell_keep hn2 kw0_0_19)) (by dsimp only; omega)) (by dsimp only; omega), cell_sf (cell_sf (cell_al _ (cell_keep hn2 kw0_1_19)) (by dsimp only; omega)) (by dsimp only; omega), cell_sf (cell_sf (cell_al _ (cell_keep hn2 kx0_0_19)) (by dsimp only; omega)) (by dsimp only; omega), cell_sf (cell_sf (cell_al _ (cell_keep hn2 kx0_1_19)) (by dsimp only; omega)) (by dsimp only; omega), cell_sf (cell_sf (cell_al _ (cell_keep hn2 kx1_0_19)) (by dsimp only; omega)) (by dsimp only; omega), cell_sf (cell_sf (cell_al _ (cell_keep hn2 kg0_0_19)) (by dsimp only; omega)) (by dsimp only; omega), cell_sf (cell_sf (cell_al _ (cell_keep hn2 kg0_1_19)) (by dsimp only; omega)) (by dsimp only; omega)⟩ | go_keep) (first
          | (go_simp; go_at_call 41; refine Calls.mono (implApplyBatch_is _ (OC20_0.below (by first | exact Below.refl _ _ | exact (Below.refl _ _).drew | exact (Below.refl _ _).alloc (Nat.le_refl _) _ | exact ((Below.refl _ _).alloc (Nat.le_refl _) _).drew)).grd (OC20_1.below (by first | exact Below.refl _ _ | exact (Below.refl _ _).drew | exact (Below.refl _ _).alloc (Nat.le_refl _) _ | exact ((Below.refl _ _).alloc (Nat.le_refl _) _).drew)).crd) ?_; rw [HR0.out]; rw [HR1.out]; rintro e u20_2 ⟨A_, n_, c_, B_, m_, d_, rfl, OR, hb2_⟩; have LO := cut_lo hn1 (by first | exact Below.refl _ _ | exact (Below.refl _ _).drew | exact (Below.refl _ _).alloc (Nat.le_refl _) _ | exact ((Below.refl _ _).alloc (Nat.le_refl _) _).drew) OR; have HI := cut_hi hb2_ OR; (try (have ZL := cut_zl ZB (by first | exact Below.refl _ _ | exact (Below.refl _ _).drew | exact (Below.refl _ _).alloc (Nat.le_refl _) _ | exact ((Below.refl _ _).alloc (Nat.le_refl _) _).drew) OR)); (try (have ZL := cut_za OR)); (try (have ZL := cut_zd OR)); have hk2 : Below u20_1.heap.size u20_1 u20_2 := below_then (W := u20_1) (by first | exact Below.refl _ _ | exact (Below.refl _ _).drew | exact (Below.refl _ _).alloc (Nat.le_refl _) _ | exact ((Below.refl _ _).alloc (Nat.le_refl _) _).drew) hb2_; have hn2 : Below w19.heap.size w19 u20_2 := below_then (W := w19) hn1 hk2; have sz2 : w19.heap.size ≤ u20_2.heap.size := hn2.size; (try (replace ZB := ZB.below hk2 ZB.lt)); (try (have ZB := (Blk.new u20_1 53 #[.slice none 0 0, .slice none 0 0]).below hb2_ (lt_al _ _))); have OR2 := OR; (try (have zc0 := ZB.c10)); (try (have zc0 := ZB.c20)); (try (have zc1 := ZB.c21)); (try (have zf0 := ZB.frozen 0)); (try (have zf1 := ZB.frozen 1)); (try dsimp only))
          | (go_simp; go_at_call 16; refine Calls.mono (toBatch_rd _ (GA1.up (below_then hB19 (below_then (W := w19) hn0 (by first | exact Below.refl _ _ | exact (Below.refl _ _).drew | exact (Below.refl _ _).alloc (Nat.le_refl _) _ | exact ((Below.refl _ _).alloc (Nat.le_refl _) _).drew))))) ?_; rintro e u20_1 ⟨XA1, rfl, OC20_1, hb1_⟩; have hk1 : Below u20_0.heap.size u20_0 u20_1 := below_then (W := u20_0) (by first | exact Below.refl _ _ | exact (Below.refl _ _).drew | exact (Below.refl _ _).alloc (Nat.le_refl _) _ | exact ((Below.refl _ _).alloc (Nat.le_refl _) _).drew) hb1_; have hn1 : Below w19.heap.size w19 u20_1 := below_then (W := w19) hn0 hk1; have sz1 : w19.heap.size ≤ u20_1.heap.size := hn1.size; (try (replace ZB := ZB.below hk1 ZB.lt)); (try (have ZB := (Blk.new u20_0 53 #[.slice none 0 0, .slice none 0 0]).below hb1_ (lt_al _ _))); replace OC20_0 := OC20_0.below hk1; (try dsimp only))
          | (go_simp; go_at_call 30; refine Calls.mono (toGraph_rd _ (GA0.up (below_then hB19 (below_then (W := w19) (Below.refl _ _) (by first | exact Below.refl _ _ | exact (Below.refl _ _).drew | exact (Below.refl _ _).alloc (Nat.le_refl _) _ | exact ((Below.refl _ _).alloc (Nat.le_refl _) _).drew))))) ?_; rintro e u20_0 ⟨XA0, XB0, rfl, OC20_0, hb0_⟩; have hk0 : Below w19.heap.size w19 u20_0 := below_then (W := w19) (by first | exact Below.refl _ _ | exact (Below.refl _ _).drew | exact (Below.refl _ _).alloc (Nat.le_refl _) _ | exact ((Below.refl _ _).alloc (Nat.le_refl _) _).drew) hb0_; have hn0 : Below w19.heap.size w19 u20_0 := below_then (W := w19) (Below.refl _ _) hk0; have sz0 : w19.heap.size ≤ u20_0.heap.size := hn0.size; (try (have ZB := (Blk.new w19 53 #[.slice none 0 0, .slice none 0 0]).below hb0_ (lt_al _ _))); (try (have ZB := (Blk.drew (Blk.new w19 53 #[.slice none 0 0, .slice none 0 0])).below hb0_ (lt_ald _ _))); (try dsimp only)))
      all_goals
        go_wp2_with fail
        go_meet
        case rel => first | exact CutGs.late hn2 LO HI OR2 | exact CutGs.early hn2 LO HI OR2 ZB (by omega) ZL
    case rest =>
      obtain ⟨xb20, A20_0, n20_0, c20_0, B20_0, m20_0, d20_0, glo20, ghi20, rfl, rfl, kh0_0_20, kh0_1_20, O20_0, hb20, hlo20, hhi20, hgl20, hgm20, hgh20, hsep20⟩ := hcut
      obtain ⟨w20, rfl⟩ : ∃ x : World, x = wc := ⟨_, rfl⟩
      have S20 : w19.heap.size ≤ w20.heap.size := hb20.size
      have hB20 := below_then hB19 hb20
      have kaG_0_20 := cell_keep hb20 kaG_0_19
      have kaG_1_20 := cell_keep hb20 kaG_1_19
      have kaB_0_20 := cell_keep hb20 kaB_0_19
      have kw0_0_20 := cell_keep hb20 kw0_0_19
      have kw0_1_20 := cell_keep hb20 kw0_1_19
      have kx0_0_20 := cell_keep hb20 kx0_0_19
      have kx0_1_20 := cell_keep hb20 kx0_1_19
      have kx1_0_20 := cell_keep hb20 kx1_0_19
      have kg0_0_20 := cell_keep hb20 kg0_0_19
      have kg0_1_20 := cell_keep hb20 kg0_1_19
      replace O3_0 := O3_0.below hb20
      replace MO4 := MO4.below hb20
      replace MO6 := MO6.below hb20
      replace MO8_0 := MO8_0.below hb20
      clear hB19 kaG_0_19 kaG_1_19 kaB_0_19 kw0_0_19 kw0_1_19 kx0_0_19 kx0_1_19 kx1_0_19 kg0_0_19 kg0_1_19 hb20
      go_wp2_with fail
      refine (eqGraph_is _ O20_0 O3_0).mono ?_
      rintro e w21 ⟨rfl, hb21⟩
      have S21 : w20.heap.size ≤ w21.heap.size := hb21.size
      have hB21 := below_then hB20 hb21
      have kaG_0_21 := cell_keep hb21 kaG_0_20
      have kaG_1_21 := cell_keep hb21 kaG_1_20
      have kaB_0_21 := cell_keep hb21 kaB_0_20
      have kw0_0_21 := cell_keep hb21 kw0_0_20
      have kw0_1_21 := cell_keep hb21 kw0_1_20
      have kx0_0_21 := cell_keep hb21 kx0_0_20
      have kx0_1_21 := cell_keep hb21 kx0_1_20
      have kx1_0_21 := cell_keep hb21 kx1_0_20
      have kg0_0_21 := cell_keep hb21 kg0_0_20
      have kg0_1_21 := cell_keep hb21 kg0_1_20
      have kh0_0_21 := cell_keep hb21 kh0_0_20
      have kh0_1_21 := cell_keep hb21 kh0_1_20
      replace O3_0 := O3_0.below hb21
      replace MO4 := MO4.below hb21
      replace MO6 := MO6.below hb21
      replace MO8_0 := MO8_0.below hb21
      replace O20_0 := O20_0.below hb21
      clear hB20 kaG_0_20 kaG_1_20 kaB_0_20 kw0_0_20 kw0_1_20 kx0_0_20 kx0_1_20 kx1_0_20 kg0_0_20 kg0_1_20 kh0_0_20 kh0_1_20 hb21
      go_wp2_with fail
      refine (heldGraph_is _ 1 MO8_0 (by omega)).mono ?_
      rw [Hy18.out]
      rintro e w22 ⟨rfl, hb22⟩
      have S22 : w21.heap.size ≤ w22.heap.size := hb22.size
      have hB22 := below_then hB21 hb22
      have kaG_0_22 := cell_keep hb22 kaG_0_21
      have kaG_1_22 := cell_keep hb22 kaG_1_21
      have kaB_0_22 := cell_keep hb22 kaB_0_21
      have kw0_0_22 := cell_keep hb22 kw0_0_21
      have kw0_1_22 := cell_keep hb22 kw0_1_21
      have kx0_0_22 := cell_keep hb22 kx0_0_21
      have kx0_1_22 := cell_keep hb22 kx0_1_21
      have kx1_0_22 := cell_keep hb22 kx1_0_21
      have kg0_0_22 := cell_keep hb22 kg0_0_21
      have kg0_1_22 := cell_keep hb22 kg0_1_21
      have kh0_0_22 := cell_keep hb22 kh0_0_21
      have kh0_1_22 := cell_keep hb22 kh0_1_21
      replace O3_0 := O3_0.below hb22
      replace MO4 := MO4.below hb22
      replace MO6 := MO6.below hb22
      replace MO8_0 := MO8_0.below hb22
      replace O20_0 := O20_0.below hb22
      clear hB21 kaG_0_21 kaG_1_21 kaB_0_21 kw0_0_21 kw0_1_21 kx0_0_21 kx0_1_21 kx1_0_21 kg0_0_21 kg0_1_21 kh0_0_21 kh0_1_21 hb22
      all_goals
        go_wp2
        go_ret
        exact ⟨rfl, hB22⟩

set_option maxRecDepth 100000 in
theorem lifted (os : Os) (started : os.Started) (H : Type) (enc : TypeId × Value → H) :
    ReturnsInHanded {} Try.checked os 9 .any (Rows.fnExactApplyBatchSpec.pre6 enc Try.prog Try.f9 Rows.fnExactApplyBatchRow.domain false) (Rows.fnExactApplyBatchSpec.post enc Try.prog Try.f9 false true false false) := by
  refine returnsInHanded_of_change (C := Try.checked) own started (by as_aux_lemma => kernel_rfl) Try.func9
    (ChangeSpec.witness6 (enc := enc) (C := Try.checked) false ⟨#[], #[.agg #[.slice none 0 0, .slice none 0 0], .agg #[.slice none 0 0]], []⟩ 8 (by as_aux_lemma => kernel_rfl) (by as_aux_lemma => kernel_rfl) (by as_aux_lemma => kernel_rfl) (by as_aux_lemma => kernel_rfl)) ?_
  intro W base args ds gs before hval0 hW hcnd _
  have hval : ∀ (j : Nat) t v, Try.f9.params[j]? = some t → args[j]? = some v → Value.okWide Try.prog W .any base t v := hval0
  have hW' := hW
  obtain ⟨p, q, hA0, hV, rfl, hfz, hnd⟩ := hW
  have hA : DataW.TrodAll enc Try.prog W 0 (fun _ => true) true Try.f9.params.toList args.toList ds p := hA0
  rw [Try.params9] at hA hval
  obtain ⟨v0, vs0, d0, ds0, p0, q0, hargs, rfl, rfl, h0, r0⟩ := trodAll_cons hA
  obtain ⟨v1, vs1, d1, ds1, p1, q1, rfl, rfl, rfl, h1, r1⟩ := trodAll_cons r0
  obtain ⟨rfl, rfl, rfl⟩ := trodAll_nil r1
  obtain rfl : args = #[v0, v1] := by cases args; simp_all
  obtain ⟨rfl, rfl⟩ := trodVars_none hV
  have k0 := h0
  have lt0 : ∀ x ∈ p0, x.block < W.heap.size := by obtain ⟨m, hm⟩ := k0; exact DataW.trod_lt m _ _ _ hm
  have g0 := argGraph (hval 0 49 v0 rfl rfl) h0
  have k1 := h1
  have lt1 : ∀ x ∈ p1, x.block < W.heap.size := by obtain ⟨m, hm⟩ := k1; exact DataW.trod_lt m _ _ _ hm
  have g1 := argBatch (hval 1 24 v1 rfl rfl) h1
  clear hA0 hval0
  refine (walk W v0 g0 v1 g1).mono fun e W' ⟨he, bel⟩ => ?_
  subst he
  exact ⟨_, rfl, _, _, _, [], _, [], hW', trodAll_mk1 (shut_bool Try.underlying4 _), (trodAll_cons_mk (Below.trod laidOut (by as_aux_lemma => kernel_rfl) (of_decide_eq_true (by as_aux_lemma => kernel_rfl)) k0 bel lt0) (trodAll_cons_mk (Below.trod laidOut (by as_aux_lemma => kernel_rfl) (of_decide_eq_true (by as_aux_lemma => kernel_rfl)) k1 bel lt1) trodAll_mk0)), rfl, bel.frame _, fun h => by cases h⟩

set_option maxHeartbeats 8000000 in
theorem closed : joinedFacts Try.prog 9 Try.f9 Rows.fnExactApplyBatchSpec Rows.fnExactApplyBatchRow = true := by
  unfold joinedFacts
  simp only [Bool.and_eq_true]
  repeat' apply And.intro
  all_goals first | with_reducible exact frMay | with_reducible exact frLifts _ rfl | with_reducible exact frMake _ rfl | (as_aux_lemma => kernel_rfl)
set_option maxHeartbeats 1000000 in
theorem over : Rows.fnExactApplyBatchRow.holds Try.pinned (OpenSpec.ofChange Rows.fnExactApplyBatchSpec) :=
  OpenClaim.holds_of_wide 9 Try.f9 rfl rfl rfl rfl rfl rfl rfl ⟨rfl, rfl, rfl, rfl, rfl⟩ rfl rfl rfl rfl rfl (by as_aux_lemma => kernel_rfl) Try.func9 closed
    (of_decide_eq_true (by as_aux_lemma => kernel_rfl)) (by unfold Func.isWrapper; first | (rw [if_pos (by decide +kernel)]; kernel_rfl) | (rw [if_neg (by decide +kernel)]; exact ⟨rfl, rfl⟩))
    (fun os started H enc _ => lifted os started H enc)

theorem proved : Rows.FnExactApplyBatchSaid := over
end Go.Proofs.Ytolilkbejghocaa.fnExactApplyBatch
