/-
  FnExactInsertEdgeSaid: for every input the law FnExactInsertEdge returns true, and its arguments read afterwards as before. No condition.
-/
import Derived.Test.YtolilkbejghocaaIns3
import Derived.Test.YtolilkbejghocaaCutG
import Derived.Test.YtolilkbejghocaaFr
namespace Go.Proofs.Ytolilkbejghocaa.fnExactInsertEdge
open Go.ChangeShapes Go.WideShapes Go.ChangeAt Go.RowKit Go.Deep
open Go.ChangeMaps (open_string shut_string)
set_option linter.unusedVariables false


theorem own : ownKnob Try.prog.godebug = none := by kernel_rfl
theorem laidOut : laidOutB Try.prog = true := by kernel_rfl

set_option maxRecDepth 4000 in
set_option maxHeartbeats 8000000 in
theorem walk (W : World) (v0 : Value) (g0 : ArgGraph W v0) (v1 : Value) (g1 : ArgEdge W v1) :
    Calls Try.prog 7 #[v0, v1] W fun e w' => e = .returned (.bool true) ∧ Below W.heap.size W w' := by
  obtain ⟨A0, B0, n0, c0, m0, d0, g0, rfl, hg0, hn0, hm0, _, _⟩ := g0
  obtain ⟨⟨e1a, e1b, e1c, e1d⟩, rfl, _⟩ := g1
  obtain ⟨r0, hr0_⟩ : ∃ r, (insG g0 (E.mk e1a e1b e1c e1d)).1 = r := ⟨_, rfl⟩
  have HR0 := Lib.hid hr0_
  clear hr0_
  obtain ⟨r1, hr1_⟩ : ∃ r, (insG g0 (E.mk e1a e1b e1c e1d)).2 = r := ⟨_, rfl⟩
  have HR1 := Lib.hid hr1_
  clear hr1_
  go_enter Try.func7, Try.ntmps7
  go_wp2_with fail
  have hB0 : Below W.heap.size W ((W.alloc (.cells #[.slice A0 n0 c0, .slice B0 m0 d0] 49)).alloc (.cells #[.int .i64 e1a, .int .i64 e1b, .int .i64 e1c, .int .i64 e1d] 61)) := ((Below.refl _ _).alloc (Nat.le_refl _) _).alloc (by simp <;> omega) _
  have kaG_0_0 : ((W.alloc (.cells #[.slice A0 n0 c0, .slice B0 m0 d0] 49)).alloc (.cells #[.int .i64 e1a, .int .i64 e1b, .int .i64 e1c, .int .i64 e1d] 61)).cell? ⟨W.heap.size, 0, none⟩ = some (.slice A0 n0 c0) := by go_simp
  have kaG_1_0 : ((W.alloc (.cells #[.slice A0 n0 c0, .slice B0 m0 d0] 49)).alloc (.cells #[.int .i64 e1a, .int .i64 e1b, .int .i64 e1c, .int .i64 e1d] 61)).cell? ⟨W.heap.size, 1, none⟩ = some (.slice B0 m0 d0) := by go_simp
  have kaE_0_0 : ((W.alloc (.cells #[.slice A0 n0 c0, .slice B0 m0 d0] 49)).alloc (.cells #[.int .i64 e1a, .int .i64 e1b, .int .i64 e1c, .int .i64 e1d] 61)).cell? ⟨W.heap.size + 1, 0, none⟩ = some (.int .i64 e1a) := by go_simp
  have kaE_1_0 : ((W.alloc (.cells #[.slice A0 n0 c0, .slice B0 m0 d0] 49)).alloc (.cells #[.int .i64 e1a, .int .i64 e1b, .int .i64 e1c, .int .i64 e1d] 61)).cell? ⟨W.heap.size + 1, 1, none⟩ = some (.int .i64 e1b) := by go_simp
  have kaE_2_0 : ((W.alloc (.cells #[.slice A0 n0 c0, .slice B0 m0 d0] 49)).alloc (.cells #[.int .i64 e1a, .int .i64 e1b, .int .i64 e1c, .int .i64 e1d] 61)).cell? ⟨W.heap.size + 1, 2, none⟩ = some (.int .i64 e1c) := by go_simp
  have kaE_3_0 : ((W.alloc (.cells #[.slice A0 n0 c0, .slice B0 m0 d0] 49)).alloc (.cells #[.int .i64 e1a, .int .i64 e1b, .int .i64 e1c, .int .i64 e1d] 61)).cell? ⟨W.heap.size + 1, 3, none⟩ = some (.int .i64 e1d) := by go_simp
  have S0 : W.heap.size + 1 < ((W.alloc (.cells #[.slice A0 n0 c0, .slice B0 m0 d0] 49)).alloc (.cells #[.int .i64 e1a, .int .i64 e1b, .int .i64 e1c, .int .i64 e1d] 61)).heap.size := by simp <;> omega
  generalize ((W.alloc (.cells #[.slice A0 n0 c0, .slice B0 m0 d0] 49)).alloc (.cells #[.int .i64 e1a, .int .i64 e1b, .int .i64 e1c, .int .i64 e1d] 61)) = w0 at *
  have hsok1 := szG_ok3 (l := 1048576) (n := n0) (m := m0)
  have hrg1 : szG 1048576 n0 m0 < 0 ∨ ¬ szG 1048576 n0 m0 < 0 := by omega
  refine (szGraph_any A0 B0 n0 c0 m0 d0 1048576 _ hn0 hm0 (by omega) (by omega)).mono ?_
  rintro e w1 ⟨rfl, hb1⟩
  have S1 : w0.heap.size ≤ w1.heap.size := hb1.size
  have hB1 := below_then hB0 hb1
  have kaG_0_1 := cell_keep hb1 kaG_0_0
  have kaG_1_1 := cell_keep hb1 kaG_1_0
  have kaE_0_1 := cell_keep hb1 kaE_0_0
  have kaE_1_1 := cell_keep hb1 kaE_1_0
  have kaE_2_1 := cell_keep hb1 kaE_2_0
  have kaE_3_1 := cell_keep hb1 kaE_3_0
  clear kaG_0_0 kaG_1_0 kaE_0_0 kaE_1_0 kaE_2_0 kaE_3_0 hb1
  obtain ⟨q1, hq1⟩ : ∃ q, szG 1048576 n0 m0 = q := ⟨_, rfl⟩
  rw [hq1] at hsok1 hrg1 ⊢
  clear hq1
  rcases hrg1 with hneg | hpos
  · go_wp2
    go_ret
    exact ⟨rfl, hB1⟩
  obtain ⟨hsum1, hq1b, hq1c⟩ := hsok1 hpos
  have hq1d : q1 ≤ 1048576 := by omega
  replace hq1c := hq1d
  clear hq1d
  have GA0 : GRd W A0 n0 B0 m0 g0 := ⟨hg0, by omega, by omega⟩
  clear hsum1 hsok1 hn0 hm0 hg0
  go_upto_region 5 with (fail)
  go_cut [6, 7] (fun p b wx => CutGs w1 r0 r1 p b wx)
  case first =>
    go_region_held3 (fun w' => w'.cell? ⟨W.heap.size, 0, none⟩ = some (.slice A0 n0 c0) ∧ w'.cell? ⟨W.heap.size, 1, none⟩ = some (.slice B0 m0 d0) ∧ w'.cell? ⟨W.heap.size + 1, 0, none⟩ = some (.int .i64 e1a) ∧ w'.cell? ⟨W.heap.size + 1, 1, none⟩ = some (.int .i64 e1b) ∧ w'.cell? ⟨W.heap.size + 1, 2, none⟩ = some (.int .i64 e1c) ∧ w'.cell? ⟨W.heap.size + 1, 3, none⟩ = some (.int .i64 e1d)) (first | exact ⟨kaG_0_1, kaG_1_1, kaE_0_1, kaE_1_1, kaE_2_1, kaE_3_1⟩ | exact ⟨cell_al _ (w := w1) kaG_0_1, cell_al _ (w := w1) kaG_1_1, cell_al _ (w := w1) kaE_0_1, cell_al _ (w := w1) kaE_1_1, cell_al _ (w := w1) kaE_2_1, cell_al _ (w := w1) kaE_3_1⟩ | exact ⟨cell_keep hn0 kaG_0_1, cell_keep hn0 kaG_1_1, cell_keep hn0 kaE_0_1, cell_keep hn0 kaE_1_1, cell_keep hn0 kaE_2_1, cell_keep hn0 kaE_3_1⟩ | exact ⟨cell_al _ (cell_keep hn0 kaG_0_1), cell_al _ (cell_keep hn0 kaG_1_1), cell_al _ (cell_keep hn0 kaE_0_1), cell_al _ (cell_keep hn0 kaE_1_1), cell_al _ (cell_keep hn0 kaE_2_1), cell_al _ (cell_keep hn0 kaE_3_1)⟩ | exact ⟨cell_keep hn1 kaG_0_1, cell_keep hn1 kaG_1_1, cell_keep hn1 kaE_0_1, cell_keep hn1 kaE_1_1, cell_keep hn1 kaE_2_1, cell_keep hn1 kaE_3_1⟩ | exact ⟨cell_al _ (cell_keep hn1 kaG_0_1), cell_al _ (cell_keep hn1 kaG_1_1), cell_al _ (cell_keep hn1 kaE_0_1), cell_al _ (cell_keep hn1 kaE_1_1), cell_al _ (cell_keep hn1 kaE_2_1), cell_al _ (cell_keep hn1 kaE_3_1)⟩ | exact ⟨cell_keep hn2 kaG_0_1, cell_keep hn2 kaG_1_1, cell_keep hn2 kaE_0_1, cell_keep hn2 kaE_1_1, cell_keep hn2 kaE_2_1, cell_keep hn2 kaE_3_1⟩ | exact ⟨cell_al _ (cell_keep hn2 kaG_0_1), cell_al _ (cell_keep hn2 kaG_1_1), cell_al _ (cell_keep hn2 kaE_0_1), cell_al _ (cell_keep hn2 kaE_1_1), cell_al _ (cell_keep hn2 kaE_2_1), cell_al _ (cell_keep hn2 kaE_3_1)⟩ | exact ⟨cell_sf (cell_sf (cell_keep hn2 kaG_0_1) (by dsimp only; omega)) (by dsimp only; omega), cell_sf (cell_sf (cell_keep hn2 kaG_1_1) (by dsimp only; omega)) (by dsimp only; omega), cell_sf (cell_sf (cell_keep hn2 kaE_0_1) (by dsimp only; omega)) (by dsimp only; omega), cell_sf (cell_sf (cell_keep hn2 kaE_1_1) (by dsimp only; omega)) (by dsimp only; omega), cell_sf (cell_sf (cell_keep hn2 kaE_2_1) (by dsimp only; omega)) (by dsimp only; omega), cell_sf (cell_sf (cell_keep hn2 kaE_3_1) (by dsimp only; omega)) (by dsimp only; omega)⟩ | exact ⟨cell_sf (cell_sf (cell_al _ (cell_keep hn2 kaG_0_1)) (by dsimp only; omega)) (by dsimp only; omega), cell_sf (cell_sf (cell_al _ (cell_keep hn2 kaG_1_1)) (by dsimp only; omega)) (by dsimp only; omega), cell_sf (cell_sf (cell_al _ (cell_keep hn2 kaE_0_1)) (by dsimp only; omega)) (by dsimp only; omega), cell_sf (cell_sf (cell_al _ (cell_keep hn2 kaE_1_1)) (by dsimp only; omega)) (by dsimp only; omega), cell_sf (cell_sf (cell_al _ (cell_keep hn2 kaE_2_1)) (by dsimp only; omega)) (by dsimp only; omega), cell_sf (cell_sf (cell_al _ (cell_keep hn2 kaE_3_1)) (by dsimp only; omega)) (by dsimp only; omega)⟩ | go_keep) (first
        | (go_simp; go_at_call 35; refine Calls.mono (specInsertEdge_is _ (OC2_0.below (by first | exact Below.refl _ _ | exact (Below.refl _ _).drew | exact (Below.refl _ _).alloc (Nat.le_refl _) _ | exact ((Below.refl _ _).alloc (Nat.le_refl _) _).drew)).grd (E.mk e1a e1b e1c e1d) (Nat.le_refl _)) ?_; rw [HR0.out]; rw [HR1.out]; rintro e u2_2 ⟨A_, n_, c_, B_, m_, d_, rfl, OR, hb2_⟩; have LO := cut_lo hn1 (by first | exact Below.refl _ _ | exact (Below.refl _ _).drew | exact (Below.refl _ _).alloc (Nat.le_refl _) _ | exact ((Below.refl _ _).alloc (Nat.le_refl _) _).drew) OR; have HI := cut_hi hb2_ OR; (try (have ZL := cut_zl ZB (by first | exact Below.refl _ _ | exact (Below.refl _ _).drew | exact (Below.refl _ _).alloc (Nat.le_refl _) _ | exact ((Below.refl _ _).alloc (Nat.le_refl _) _).drew) OR)); (try (have ZL := cut_za OR)); (try (have ZL := cut_zd OR)); have hk2 : Below u2_1.heap.size u2_1 u2_2 := below_then (W := u2_1) (by first | exact Below.refl _ _ | exact (Below.refl _ _).drew | exact (Below.refl _ _).alloc (Nat.le_refl _) _ | exact ((Below.refl _ _).alloc (Nat.le_refl _) _).drew) hb2_; have hn2 : Below w1.heap.size w1 u2_2 := below_then (W := w1) hn1 hk2; have sz2 : w1.heap.size ≤ u2_2.heap.size := hn2.size; (try (replace ZB := ZB.below hk2 ZB.lt)); (try (have ZB := (Blk.new u2_1 53 #[.slice none 0 0, .slice none 0 0]).below hb2_ (lt_al _ _))); have OR2 := OR; (try (have zc0 := ZB.c10)); (try (have zc0 := ZB.c20)); (try (have zc1 := ZB.c21)); (try (have zf0 := ZB.frozen 0)); (try (have zf1 := ZB.frozen 1)); (try dsimp only))
        | (go_simp; go_at_call 36; refine Calls.mono (toEdge_any ⟨e1a, e1b, e1c, e1d⟩ _) ?_; rintro e u2_1 ⟨rfl, hb1_⟩; have hk1 : Below u2_0.heap.size u2_0 u2_1 := below_then (W := u2_0) (by first | exact Below.refl _ _ | exact (Below.refl _ _).drew | exact (Below.refl _ _).alloc (Nat.le_refl _) _ | exact ((Below.refl _ _).alloc (Nat.le_refl _) _).drew) hb1_; have hn1 : Below w1.heap.size w1 u2_1 := below_then (W := w1) hn0 hk1; have sz1 : w1.heap.size ≤ u2_1.heap.size := hn1.size; (try (replace ZB := ZB.below hk1 ZB.lt)); (try (have ZB := (Blk.new u2_0 53 #[.slice none 0 0, .slice none 0 0]).below hb1_ (lt_al _ _))); replace OC2_0 := OC2_0.below hk1; (try dsimp only))
        | (go_simp; go_at_call 30; refine Calls.mono (toGraph_rd _ (GA0.up (below_then hB1 (below_then (W := w1) (Below.refl _ _) (by first | exact Below.refl _ _ | exact (Below.refl _ _).drew | exact (Below.refl _ _).alloc (Nat.le_refl _) _ | exact ((Below.refl _ _).alloc (Nat.le_refl _) _).drew))))) ?_; rintro e u2_0 ⟨XA0, XB0, rfl, OC2_0, hb0_⟩; have hk0 : Below w1.heap.size w1 u2_0 := below_then (W := w1) (by first | exact Below.refl _ _ | exact (Below.refl _ _).drew | exact (Below.refl _ _).alloc (Nat.le_refl _) _ | exact ((Below.refl _ _).alloc (Nat.le_refl _) _).drew) hb0_; have hn0 : Below w1.heap.size w1 u2_0 := below_then (W := w1) (Below.refl _ _) hk0; have sz0 : w1.heap.size ≤ u2_0.heap.size := hn0.size; (try (have ZB := (Blk.new w1 53 #[.slice none 0 0, .slice none 0 0]).below hb0_ (lt_al _ _))); (try (have ZB := (Blk.drew (Blk.new w1 53 #[.slice none 0 0, .slice none 0 0])).below hb0_ (lt_ald _ _))); (try dsimp only)))
    all_goals
      go_wp2_with fail
      go_meet
      case rel => first | exact CutGs.late hn2 LO HI OR2 | exact CutGs.early hn2 LO HI OR2 ZB (by omega) ZL
  case rest =>
    obtain ⟨xb2, A2_0, n2_0, c2_0, B2_0, m2_0, d2_0, glo2, ghi2, rfl, rfl, kw0_0_2, kw0_1_2, O2_0, hb2, hlo2, hhi2, hgl2, hgm2, hgh2, hsep2⟩ := hcut
    obtain ⟨w2, rfl⟩ : ∃ x : World, x = wc := ⟨_, rfl⟩
    have S2 : w1.heap.size ≤ w2.heap.size := hb2.size
    have hB2 := below_then hB1 hb2
    have kaG_0_2 := cell_keep hb2 kaG_0_1
    have kaG_1_2 := cell_keep hb2 kaG_1_1
    have kaE_0_2 := cell_keep hb2 kaE_0_1
    have kaE_1_2 := cell_keep hb2 kaE_1_1
    have kaE_2_2 := cell_keep hb2 kaE_2_1
    have kaE_3_2 := cell_keep hb2 kaE_3_1
    clear hB1 kaG_0_1 kaG_1_1 kaE_0_1 kaE_1_1 kaE_2_1 kaE_3_1 hb2
    go_wp2_with fail
    refine (toGraph_rd _ (GA0.up hB2)).mono ?_
    rintro e w3 ⟨X3A, X3B, rfl, O3, hb3⟩
    have S3 : w2.heap.size ≤ w3.heap.size := hb3.size
    have hB3 := below_then hB2 hb3
    have kaG_0_3 := cell_keep hb3 kaG_0_2
    have kaG_1_3 := cell_keep hb3 kaG_1_2
    have kaE_0_3 := cell_keep hb3 kaE_0_2
    have kaE_1_3 := cell_keep hb3 kaE_1_2
    have kaE_2_3 := cell_keep hb3 kaE_2_2
    have kaE_3_3 := cell_keep hb3 kaE_3_2
    have kw0_0_3 := cell_keep hb3 kw0_0_2
    have kw0_1_3 := cell_keep hb3 kw0_1_2
    replace O2_0 := O2_0.below hb3
    clear hB2 kaG_0_2 kaG_1_2 kaE_0_2 kaE_1_2 kaE_2_2 kaE_3_2 kw0_0_2 kw0_1_2 hb3
    have hb4 : Below w3.heap.size w3 (w3.alloc (.cells #[.slice X3A n0 n0, .slice X3B m0 m0] 53)) := (Below.refl _ _).alloc (Nat.le_refl _) _
    have kx0_0_4 : (w3.alloc (.cells #[.slice X3A n0 n0, .slice X3B m0 m0] 53)).cell? ⟨w3.heap.size, 0, none⟩ = some (.slice X3A n0 n0) := by go_simp
    have kx0_1_4 : (w3.alloc (.cells #[.slice X3A n0 n0, .slice X3B m0 m0] 53)).cell? ⟨w3.heap.size, 1, none⟩ = some (.slice X3B m0 m0) := by go_simp
    have S4 : w3.heap.size < (w3.alloc (.cells #[.slice X3A n0 n0, .slice X3B m0 m0] 53)).heap.size := by simp
    have hB4 := below_then hB3 hb4
    have kaG_0_4 := cell_keep hb4 kaG_0_3
    have kaG_1_4 := cell_keep hb4 kaG_1_3
    have kaE_0_4 := cell_keep hb4 kaE_0_3
    have kaE_1_4 := cell_keep hb4 kaE_1_3
    have kaE_2_4 := cell_keep hb4 kaE_2_3
    have kaE_3_4 := cell_keep hb4 kaE_3_3
    have kw0_0_4 := cell_keep hb4 kw0_0_3
    have kw0_1_4 := cell_keep hb4 kw0_1_3
    replace O2_0 := O2_0.below hb4
    replace O3 := O3.below hb4
    clear hB3 kaG_0_3 kaG_1_3 kaE_0_3 kaE_1_3 kaE_2_3 kaE_3_3 kw0_0_3 kw0_1_3 hb4
    go_upto_region 7 with (fail)
    generalize (w3.alloc (.cells #[.slice X3A n0 n0, .slice X3B m0 m0] 53)) = w4 at *
    go_cut [9, 10] (fun p b wx => CutGs w4 r0 r1 p b wx)
    case first =>
      go_region_held3 (fun w' => w'.cell? ⟨W.heap.size, 0, none⟩ = some (.slice A0 n0 c0) ∧ w'.cell? ⟨W.heap.size, 1, none⟩ = some (.slice B0 m0 d0) ∧ w'.cell? ⟨W.heap.size + 1, 0, none⟩ = some (.int .i64 e1a) ∧ w'.cell? ⟨W.heap.size + 1, 1, none⟩ = some (.int .i64 e1b) ∧ w'.cell? ⟨W.heap.size + 1, 2, none⟩ = some (.int .i64 e1c) ∧ w'.cell? ⟨W.heap.size + 1, 3, none⟩ = some (.int .i64 e1d) ∧ w'.cell? ⟨xb2, 0, none⟩ = some (.slice A2_0 n2_0 c2_0) ∧ w'.cell? ⟨xb2, 1, none⟩ = some (.slice B2_0 m2_0 d2_0) ∧ w'.cell? ⟨w3.heap.size, 0, none⟩ = some (.slice X3A n0 n0) ∧ w'.cell? ⟨w3.heap.size, 1, none⟩ = some (.slice X3B m0 m0)) (first | exact ⟨kaG_0_4, kaG_1_4, kaE_0_4, kaE_1_4, kaE_2_4, kaE_3_4, kw0_0_4, kw0_1_4, kx0_0_4, kx0_1_4⟩ | exact ⟨cell_al _ (w := w4) kaG_0_4, cell_al _ (w := w4) kaG_1_4, cell_al _ (w := w4) kaE_0_4, cell_al _ (w := w4) kaE_1_4, cell_al _ (w := w4) kaE_2_4, cell_al _ (w := w4) kaE_3_4, cell_al _ (w := w4) kw0_0_4, cell_al _ (w := w4) kw0_1_4, cell_al _ (w := w4) kx0_0_4, cell_al _ (w := w4) kx0_1_4⟩ | exact ⟨cell_keep hn0 kaG_0_4, cell_keep hn0 kaG_1_4, cell_keep hn0 kaE_0_4, cell_keep hn0 kaE_1_4, cell_keep hn0 kaE_2_4, cell_keep hn0 kaE_3_4, cell_keep hn0 kw0_0_4, cell_keep hn0 kw0_1_4, cell_keep hn0 kx0_0_4, cell_keep hn0 kx0_1_4⟩ | exact ⟨cell_al _ (cell_keep hn0 kaG_0_4), cell_al _ (cell_keep hn0 kaG_1_4), cell_al _ (cell_keep hn0 kaE_0_4), cell_al _ (cell_keep hn0 kaE_1_4), cell_al _ (cell_keep hn0 kaE_2_4), cell_al _ (cell_keep hn0 kaE_3_4), cell_al _ (cell_keep hn0 kw0_0_4), cell_al _ (cell_keep hn0 kw0_1_4), cell_al _ (cell_keep hn0 kx0_0_4), cell_al _ (cell_keep hn0 kx0_1_4)⟩ | exact ⟨cell_keep hn1 kaG_0_4, cell_keep hn1 kaG_1_4, cell_keep hn1 kaE_0_4, cell_keep hn1 kaE_1_4, cell_keep hn1 kaE_2_4, cell_keep hn1 kaE_3_4, cell_keep hn1 kw0_0_4, cell_keep hn1 kw0_1_4, cell_keep hn1 kx0_0_4, cell_keep hn1 kx0_1_4⟩ | exact ⟨cell_al _ (cell_keep hn1 kaG_0_4), cell_al _ (cell_keep hn1 kaG_1_4), cell_al _ (cell_keep hn1 kaE_0_4), cell_al _ (cell_keep hn1 kaE_1_4), cell_al _ (cell_keep hn1 kaE_2_4), cell_al _ (cell_keep hn1 kaE_3_4), cell_al _ (cell_keep hn1 kw0_0_4), cell_al _ (cell_keep hn1 kw0_1_4), cell_al _ (cell_keep hn1 kx0_0_4), cell_al _ (cell_keep hn1 kx0_1_4)⟩ | exact ⟨cell_sf (cell_sf (cell_keep hn1 kaG_0_4) (by dsimp only; omega)) (by dsimp only; omega), cell_sf (cell_sf (cell_keep hn1 kaG_1_4) (by dsimp only; omega)) (by dsimp only; omega), cell_sf (cell_sf (cell_keep hn1 kaE_0_4) (by dsimp only; omega)) (by dsimp only; omega), cell_sf (cell_sf (cell_keep hn1 kaE_1_4) (by dsimp only; omega)) (by dsimp only; omega), cell_sf (cell_sf (cell_keep hn1 kaE_2_4) (by dsimp only; omega)) (by dsimp only; omega), cell_sf (cell_sf (cell_keep hn1 kaE_3_4) (by dsimp only; omega)) (by dsimp only; omega), cell_sf (cell_sf (cell_keep hn1 kw0_0_4) (by dsimp only; omega)) (by dsimp only; omega), cell_sf (cell_sf (cell_keep hn1 kw0_1_4) (by dsimp only; omega)) (by dsimp only; omega), cell_sf (cell_sf (cell_keep hn1 kx0_0_4) (by dsimp only; omega)) (by dsimp only; omega), cell_sf (cell_sf (cell_keep hn1 kx0_1_4) (by dsimp only; omega)) (by dsimp only; omega)⟩ | exact ⟨cell_sf (cell_sf (cell_al _ (cell_keep hn1 kaG_0_4)) (by dsimp only; omega)) (by dsimp only; omega), cell_sf (cell_sf (cell_al _ (cell_keep hn1 kaG_1_4)) (by dsimp only; omega)) (by dsimp only; omega), cell_sf (cell_sf (cell_al _ (cell_keep hn1 kaE_0_4)) (by dsimp only; omega)) (by dsimp only; omega), cell_sf (cell_sf (cell_al _ (cell_keep hn1 kaE_1_4)) (by dsimp only; omega)) (by dsimp only; omega), cell_sf (cell_sf (cell_al _ (cell_keep hn1 kaE_2_4)) (by dsimp only; omega)) (by dsimp only; omega), cell_sf (cell_sf (cell_al _ (cell_keep hn1 kaE_3_4)) (by dsimp only; omega)) (by dsimp only; omega), cell_sf (cell_sf (cell_al _ (cell_keep hn1 kw0_0_4)) (by dsimp only; omega)) (by dsimp only; omega), cell_sf (cell_sf (cell_al _ (cell_keep hn1 kw0_1_4)) (by dsimp only; omega)) (by dsimp only; omega), cell_sf (cell_sf (cell_al _ (cell_keep hn1 kx0_0_4)) (by dsimp only; omega)) (by dsimp only; omega), cell_sf (cell_sf (cell_al _ (cell_keep hn1 kx0_1_4)) (by dsimp only; omega)) (by dsimp only; omega)⟩ | go_keep) (first
          | (go_simp; go_at_call 37; refine Calls.mono (implInsertEdge_is _ (O3.below (below_then (W := w4) hn0 (by first | exact Below.refl _ _ | exact (Below.refl _ _).drew | exact (Below.refl _ _).alloc (Nat.le_refl _) _ | exact ((Below.refl _ _).alloc (Nat.le_refl _) _).drew))).grd (E.mk e1a e1b e1c e1d)) ?_; rw [HR0.out]; rw [HR1.out]; rintro e u5_1 ⟨A_, n_, c_, B_, m_, d_, rfl, OR, hb1_⟩; have LO := cut_lo hn0 (by first | exact Below.refl _ _ | exact (Below.refl _ _).drew | exact (Below.refl _ _).alloc (Nat.le_refl _) _ | exact ((Below.refl _ _).alloc (Nat.le_refl _) _).drew) OR; have HI := cut_hi hb1_ OR; (try (have ZL := cut_zl ZB (by first | exact Below.refl _ _ | exact (Below.refl _ _).drew | exact (Below.refl _ _).alloc (Nat.le_refl _) _ | exact ((Below.refl _ _).alloc (Nat.le_refl _) _).drew) OR)); (try (have ZL := cut_za OR)); (try (have ZL := cut_zd OR)); have hk1 : Below u5_0.heap.size u5_0 u5_1 := below_then (W := u5_0) (by first | exact Below.refl _ _ | exact (Below.refl _ _).drew | exact (Below.refl _ _).alloc (Nat.le_refl _) _ | exact ((Below.refl _ _).alloc (Nat.le_refl _) _).drew) hb1_; have hn1 : Below w4.heap.size w4 u5_1 := below_then (W := w4) hn0 hk1; have sz1 : w4.heap.size ≤ u5_1.heap.size := hn1.size; (try (replace ZB := ZB.below hk1 ZB.lt)); (try (have ZB := (Blk.new u5_0 53 #[.slice none 0 0, .slice none 0 0]).below hb1_ (lt_al _ _))); have OR2 := OR; (try (have zc0 := ZB.c10)); (try (have zc0 := ZB.c20)); (try (have zc1 := ZB.c21)); (try (have zf0 := ZB.frozen 0)); (try (have zf1 := ZB.frozen 1)); (try dsimp only))
          | (go_simp; go_at_call 36; refine Calls.mono (toEdge_any ⟨e1a, e1b, e1c, e1d⟩ _) ?_; rintro e u5_0 ⟨rfl, hb0_⟩; have hk0 : Below w4.heap.size w4 u5_0 := below_then (W := w4) (by first | exact Below.refl _ _ | exact (Below.refl _ _).drew | exact (Below.refl _ _).alloc (Nat.le_refl _) _ | exact ((Below.refl _ _).alloc (Nat.le_refl _) _).drew) hb0_; have hn0 : Below w4.heap.size w4 u5_0 := below_then (W := w4) (Below.refl _ _) hk0; have sz0 : w4.heap.size ≤ u5_0.heap.size := hn0.size; (try (have ZB := (Blk.new w4 53 #[.slice none 0 0, .slice none 0 0]).below hb0_ (lt_al _ _))); (try (have ZB := (Blk.drew (Blk.new w4 53 #[.slice none 0 0, .slice none 0 0])).below hb0_ (lt_ald _ _))); (try dsimp only)))
      all_goals
        go_wp2_with fail
        go_meet
        case rel => first | exact CutGs.late hn1 LO HI OR2 | exact CutGs.early hn1 LO HI OR2 ZB (by omega) ZL
    case rest =>
      obtain ⟨xb5, A5_0, n5_0, c5_0, B5_0, m5_0, d5_0, glo5, ghi5, rfl, rfl, kg0_0_5, kg0_1_5, O5_0, hb5, hlo5, hhi5, hgl5, hgm5, hgh5, hsep5⟩ := hcut
      obtain ⟨w5, rfl⟩ : ∃ x : World, x = wc := ⟨_, rfl⟩
      have S5 : w4.heap.size ≤ w5.heap.size := hb5.size
      have hB5 := below_then hB4 hb5
      have kaG_0_5 := cell_keep hb5 kaG_0_4
      have kaG_1_5 := cell_keep hb5 kaG_1_4
      have kaE_0_5 := cell_keep hb5 kaE_0_4
      have kaE_1_5 := cell_keep hb5 kaE_1_4
      have kaE_2_5 := cell_keep hb5 kaE_2_4
      have kaE_3_5 := cell_keep hb5 kaE_3_4
      have kw0_0_5 := cell_keep hb5 kw0_0_4
      have kw0_1_5 := cell_keep hb5 kw0_1_4
      have kx0_0_5 := cell_keep hb5 kx0_0_4
      have kx0_1_5 := cell_keep hb5 kx0_1_4
      replace O2_0 := O2_0.below hb5
      replace O3 := O3.below hb5
      clear hB4 kaG_0_4 kaG_1_4 kaE_0_4 kaE_1_4 kaE_2_4 kaE_3_4 kw0_0_4 kw0_1_4 kx0_0_4 kx0_1_4 hb5
      go_wp2_with fail
      refine (eqGraph_is _ O5_0 O2_0).mono ?_
      rintro e w6 ⟨rfl, hb6⟩
      have S6 : w5.heap.size ≤ w6.heap.size := hb6.size
      have hB6 := below_then hB5 hb6
      have kaG_0_6 := cell_keep hb6 kaG_0_5
      have kaG_1_6 := cell_keep hb6 kaG_1_5
      have kaE_0_6 := cell_keep hb6 kaE_0_5
      have kaE_1_6 := cell_keep hb6 kaE_1_5
      have kaE_2_6 := cell_keep hb6 kaE_2_5
      have kaE_3_6 := cell_keep hb6 kaE_3_5
      have kw0_0_6 := cell_keep hb6 kw0_0_5
      have kw0_1_6 := cell_keep hb6 kw0_1_5
      have kx0_0_6 := cell_keep hb6 kx0_0_5
      have kx0_1_6 := cell_keep hb6 kx0_1_5
      have kg0_0_6 := cell_keep hb6 kg0_0_5
      have kg0_1_6 := cell_keep hb6 kg0_1_5
      replace O2_0 := O2_0.below hb6
      replace O3 := O3.below hb6
      replace O5_0 := O5_0.below hb6
      clear hB5 kaG_0_5 kaG_1_5 kaE_0_5 kaE_1_5 kaE_2_5 kaE_3_5 kw0_0_5 kw0_1_5 kx0_0_5 kx0_1_5 kg0_0_5 kg0_1_5 hb6
      go_wp2_with fail
      have hbD6 : Below w6.heap.size w6 w6.drew := (Below.refl _ _).drew
      have hBD6 := below_then hB6 hbD6
      have kaG_0_D6 := cell_keep hbD6 kaG_0_6
      have kaG_1_D6 := cell_keep hbD6 kaG_1_6
      have kaE_0_D6 := cell_keep hbD6 kaE_0_6
      have kaE_1_D6 := cell_keep hbD6 kaE_1_6
      have kaE_2_D6 := cell_keep hbD6 kaE_2_6
      have kaE_3_D6 := cell_keep hbD6 kaE_3_6
      have kw0_0_D6 := cell_keep hbD6 kw0_0_6
      have kw0_1_D6 := cell_keep hbD6 kw0_1_6
      have kx0_0_D6 := cell_keep hbD6 kx0_0_6
      have kx0_1_D6 := cell_keep hbD6 kx0_1_6
      have kg0_0_D6 := cell_keep hbD6 kg0_0_6
      have kg0_1_D6 := cell_keep hbD6 kg0_1_6
      replace O2_0 := O2_0.below hbD6
      replace O3 := O3.below hbD6
      replace O5_0 := O5_0.below hbD6
      go_region_held3 (fun w' => w'.cell? ⟨W.heap.size, 0, none⟩ = some (.slice A0 n0 c0) ∧ w'.cell? ⟨W.heap.size, 1, none⟩ = some (.slice B0 m0 d0) ∧ w'.cell? ⟨W.heap.size + 1, 0, none⟩ = some (.int .i64 e1a) ∧ w'.cell? ⟨W.heap.size + 1, 1, none⟩ = some (.int .i64 e1b) ∧ w'.cell? ⟨W.heap.size + 1, 2, none⟩ = some (.int .i64 e1c) ∧ w'.cell? ⟨W.heap.size + 1, 3, none⟩ = some (.int .i64 e1d) ∧ w'.cell? ⟨xb2, 0, none⟩ = some (.slice A2_0 n2_0 c2_0) ∧ w'.cell? ⟨xb2, 1, none⟩ = some (.slice B2_0 m2_0 d2_0) ∧ w'.cell? ⟨w3.heap.size, 0, none⟩ = some (.slice X3A n0 n0) ∧ w'.cell? ⟨w3.heap.size, 1, none⟩ = some (.slice X3B m0 m0) ∧ w'.cell? ⟨xb5, 0, none⟩ = some (.slice A5_0 n5_0 c5_0) ∧ w'.cell? ⟨xb5, 1, none⟩ = some (.slice B5_0 m5_0 d5_0)) (first | exact ⟨kaG_0_D6, kaG_1_D6, kaE_0_D6, kaE_1_D6, kaE_2_D6, kaE_3_D6, kw0_0_D6, kw0_1_D6, kx0_0_D6, kx0_1_D6, kg0_0_D6, kg0_1_D6⟩ | exact ⟨kaG_0_7, kaG_1_7, kaE_0_7, kaE_1_7, kaE_2_7, kaE_3_7, kw0_0_7, kw0_1_7, kx0_0_7, kx0_1_7, kg0_0_7, kg0_1_7⟩ | exact ⟨kaG_0_8, kaG_1_8, kaE_0_8, kaE_1_8, kaE_2_8, kaE_3_8, kw0_0_8, kw0_1_8, kx0_0_8, kx0_1_8, kg0_0_8, kg0_1_8⟩) (first
          | (go_simp; go_at_call 32; refine (eqGraph_is _ O3 O7).mono ?_; rintro e w8 ⟨rfl, hb8⟩; have S8 : w7.heap.size ≤ w8.heap.size := hb8.size; have hB8 := below_then hB7 hb8; have kaG_0_8 := cell_keep hb8 kaG_0_7; have kaG_1_8 := cell_keep hb8 kaG_1_7; have kaE_0_8 := cell_keep hb8 kaE_0_7; have kaE_1_8 := cell_keep hb8 kaE_1_7; have kaE_2_8 := cell_keep hb8 kaE_2_7; have kaE_3_8 := cell_keep hb8 kaE_3_7; have kw0_0_8 := cell_keep hb8 kw0_0_7; have kw0_1_8 := cell_keep hb8 kw0_1_7; have kx0_0_8 := cell_keep hb8 kx0_0_7; have kx0_1_8 := cell_keep hb8 kx0_1_7; have kg0_0_8 := cell_keep hb8 kg0_0_7; have kg0_1_8 := cell_keep hb8 kg0_1_7; replace O2_0 := O2_0.below hb8; replace O3 := O3.below hb8; replace O5_0 := O5_0.below hb8; replace O7 := O7.below hb8; dsimp only)
          | (go_simp; go_at_call 30; refine (toGraph_rd _ (GA0.up hBD6)).mono ?_; rintro e w7 ⟨X7A, X7B, rfl, O7, hb7⟩; have S7 : w6.heap.size ≤ w7.heap.size := hb7.size; have hB7 := below_then hBD6 hb7; have kaG_0_7 := cell_keep hb7 kaG_0_D6; have kaG_1_7 := cell_keep hb7 kaG_1_D6; have kaE_0_7 := cell_keep hb7 kaE_0_D6; have kaE_1_7 := cell_keep hb7 kaE_1_D6; have kaE_2_7 := cell_keep hb7 kaE_2_D6; have kaE_3_7 := cell_keep hb7 kaE_3_D6; have kw0_0_7 := cell_keep hb7 kw0_0_D6; have kw0_1_7 := cell_keep hb7 kw0_1_D6; have kx0_0_7 := cell_keep hb7 kx0_0_D6; have kx0_1_7 := cell_keep hb7 kx0_1_D6; have kg0_0_7 := cell_keep hb7 kg0_0_D6; have kg0_1_7 := cell_keep hb7 kg0_1_D6; replace O2_0 := O2_0.below hb7; replace O3 := O3.below hb7; replace O5_0 := O5_0.below hb7; replace O7 := O7.wide (lo := w6.heap.size) (hi := w7.heap.size) (Nat.le_refl _) (Nat.le_refl _); dsimp only))
      clear hB6 kaG_0_6 kaG_1_6 kaE_0_6 kaE_1_6 kaE_2_6 kaE_3_6 kw0_0_6 kw0_1_6 kx0_0_6 kx0_1_6 kg0_0_6 kg0_1_6 hbD6 hBD6 kaG_0_D6 kaG_1_D6 kaE_0_D6 kaE_1_D6 kaE_2_D6 kaE_3_D6 kw0_0_D6 kw0_1_D6 kx0_0_D6 kx0_1_D6 kg0_0_D6 kg0_1_D6 hb7 hB7 kaG_0_7 kaG_1_7 kaE_0_7 kaE_1_7 kaE_2_7 kaE_3_7 kw0_0_7 kw0_1_7 kx0_0_7 kx0_1_7 kg0_0_7 kg0_1_7 hb8
      clear O7
      obtain ⟨y9, hy9⟩ : ∃ x : Nat, 1 + n0 + m0 * 4 = x := ⟨_, rfl⟩
      have hy9b : y9 ≤ 10000001 := by have := O3.ou.bd; have := O3.ov.bd; omega
      have Hy9 := Lib.hid hy9
      clear hy9
      go_wp2_with fail
      refine (markGraph_is _ 1 O3 (by omega) (by omega) (by omega)).mono ?_
      rw [Hy9.out]
      rintro e w9 ⟨rfl, MO3, t9⟩
      have S9 : w8.heap.size ≤ w9.heap.size := t9.size
      have hB9 := below_tch hB8 t9 (by omega)
      have kaG_0_9 := cell_tch t9 kaG_0_8 (.inl (by dsimp only; omega))
      have kaG_1_9 := cell_tch t9 kaG_1_8 (.inl (by dsimp only; omega))
      have kaE_0_9 := cell_tch t9 kaE_0_8 (.inl (by dsimp only; omega))
      have kaE_1_9 := cell_tch t9 kaE_1_8 (.inl (by dsimp only; omega))
      have kaE_2_9 := cell_tch t9 kaE_2_8 (.inl (by dsimp only; omega))
      have kaE_3_9 := cell_tch t9 kaE_3_8 (.inl (by dsimp only; omega))
      have kw0_0_9 := cell_tch t9 kw0_0_8 (.inl (by dsimp only; omega))
      have kw0_1_9 := cell_tch t9 kw0_1_8 (.inl (by dsimp only; omega))
      have kx0_0_9 := cell_tch t9 kx0_0_8 (.inr (by dsimp only; omega))
      have kx0_1_9 := cell_tch t9 kx0_1_8 (.inr (by dsimp only; omega))
      have kg0_0_9 := cell_tch t9 kg0_0_8 (.inr (by dsimp only; omega))
      have kg0_1_9 := cell_tch t9 kg0_1_8 (.inr (by dsimp only; omega))
      replace O2_0 := O2_0.tch t9 (.inl (by omega))
      replace O5_0 := O5_0.tch t9 (.inr (by omega))
      clear hB8 kaG_0_8 kaG_1_8 kaE_0_8 kaE_1_8 kaE_2_8 kaE_3_8 kw0_0_8 kw0_1_8 kx0_0_8 kx0_1_8 kg0_0_8 kg0_1_8 t9
      clear O3
      go_wp2_with fail
      refine (eqGraph_is _ O5_0 O2_0).mono ?_
      rintro e w10 ⟨rfl, hb10⟩
      have S10 : w9.heap.size ≤ w10.heap.size := hb10.size
      have hB10 := below_then hB9 hb10
      have kaG_0_10 := cell_keep hb10 kaG_0_9
      have kaG_1_10 := cell_keep hb10 kaG_1_9
      have kaE_0_10 := cell_keep hb10 kaE_0_9
      have kaE_1_10 := cell_keep hb10 kaE_1_9
      have kaE_2_10 := cell_keep hb10 kaE_2_9
      have kaE_3_10 := cell_keep hb10 kaE_3_9
      have kw0_0_10 := cell_keep hb10 kw0_0_9
      have kw0_1_10 := cell_keep hb10 kw0_1_9
      have kx0_0_10 := cell_keep hb10 kx0_0_9
      have kx0_1_10 := cell_keep hb10 kx0_1_9
      have kg0_0_10 := cell_keep hb10 kg0_0_9
      have kg0_1_10 := cell_keep hb10 kg0_1_9
      replace O2_0 := O2_0.below hb10
      replace O5_0 := O5_0.below hb10
      replace MO3 := MO3.below hb10
      clear hB9 kaG_0_9 kaG_1_9 kaE_0_9 kaE_1_9 kaE_2_9 kaE_3_9 kw0_0_9 kw0_1_9 kx0_0_9 kx0_1_9 kg0_0_9 kg0_1_9 hb10
      obtain ⟨y11, hy11⟩ : ∃ x : Nat, 1 + n5_0 + m5_0 * 4 = x := ⟨_, rfl⟩
      have hy11b : y11 ≤ 10000001 := by have := O5_0.ou.bd; have := O5_0.ov.bd; omega
      have Hy11 := Lib.hid hy11
      clear hy11
      go_wp2_with fail
      refine (markGraph_is _ 1 O5_0 (by omega) (by omega) (by omega)).mono ?_
      rw [Hy11.out]
      rintro e w11 ⟨rfl, MO5_0, t11⟩
      have S11 : w10.heap.size ≤ w11.heap.size := t11.size
      have hB11 := below_tch hB10 t11 (by omega)
      have kaG_0_11 := cell_tch t11 kaG_0_10 (.inl (by dsimp only; omega))
      have kaG_1_11 := cell_tch t11 kaG_1_10 (.inl (by dsimp only; omega))
      have kaE_0_11 := cell_tch t11 kaE_0_10 (.inl (by dsimp only; omega))
      have kaE_1_11 := cell_tch t11 kaE_1_10 (.inl (by dsimp only; omega))
      have kaE_2_11 := cell_tch t11 kaE_2_10 (.inl (by dsimp only; omega))
      have kaE_3_11 := cell_tch t11 kaE_3_10 (.inl (by dsimp only; omega))
      have kw0_0_11 := cell_tch t11 kw0_0_10 (.inl (by dsimp only; omega))
      have kw0_1_11 := cell_tch t11 kw0_1_10 (.inl (by dsimp only; omega))
      have kx0_0_11 := cell_tch t11 kx0_0_10 (.inl (by dsimp only; omega))
      have kx0_1_11 := cell_tch t11 kx0_1_10 (.inl (by dsimp only; omega))
      have kg0_0_11 := cell_tch t11 kg0_0_10 (by dsimp only; exact hsep5)
      have kg0_1_11 := cell_tch t11 kg0_1_10 (by dsimp only; exact hsep5)
      replace O2_0 := O2_0.tch t11 (.inl (by omega))
      replace MO3 := MO3.tch t11 (.inl (by omega))
      clear hB10 kaG_0_10 kaG_1_10 kaE_0_10 kaE_1_10 kaE_2_10 kaE_3_10 kw0_0_10 kw0_1_10 kx0_0_10 kx0_1_10 kg0_0_10 kg0_1_10 t11
      clear O5_0
      go_wp2_with fail
      refine (heldGraph_is _ 1 MO5_0 (by omega)).mono ?_
      rw [Hy11.out]
      rintro e w12 ⟨rfl, hb12⟩
      have S12 : w11.heap.size ≤ w12.heap.size := hb12.size
      have hB12 := below_then hB11 hb12
      have kaG_0_12 := cell_keep hb12 kaG_0_11
      have kaG_1_12 := cell_keep hb12 kaG_1_11
      have kaE_0_12 := cell_keep hb12 kaE_0_11
      have kaE_1_12 := cell_keep hb12 kaE_1_11
      have kaE_2_12 := cell_keep hb12 kaE_2_11
      have kaE_3_12 := cell_keep hb12 kaE_3_11
      have kw0_0_12 := cell_keep hb12 kw0_0_11
      have kw0_1_12 := cell_keep hb12 kw0_1_11
      have kx0_0_12 := cell_keep hb12 kx0_0_11
      have kx0_1_12 := cell_keep hb12 kx0_1_11
      have kg0_0_12 := cell_keep hb12 kg0_0_11
      have kg0_1_12 := cell_keep hb12 kg0_1_11
      replace O2_0 := O2_0.below hb12
      replace MO3 := MO3.below hb12
      replace MO5_0 := MO5_0.below hb12
      clear hB11 kaG_0_11 kaG_1_11 kaE_0_11 kaE_1_11 kaE_2_11 kaE_3_11 kw0_0_11 kw0_1_11 kx0_0_11 kx0_1_11 kg0_0_11 kg0_1_11 hb12
      go_upto_region 24 with (fail)
      go_cut [14, 15] (fun p b wx => CutGs w12 r0 r1 p b wx)
      case first =>
        go_region_held3 (fun w' => w'.cell? ⟨W.heap.size, 0, none⟩ = some (.slice A0 n0 c0) ∧ w'.cell? ⟨W.heap.size, 1, none⟩ = some (.slice B0 m0 d0) ∧ w'.cell? ⟨W.heap.size + 1, 0, none⟩ = some (.int .i64 e1a) ∧ w'.cell? ⟨W.heap.size + 1, 1, none⟩ = some (.int .i64 e1b) ∧ w'.cell? ⟨W.heap.size + 1, 2, none⟩ = some (.int .i64 e1c) ∧ w'.cell? ⟨W.heap.size + 1, 3, none⟩ = some (.int .i64 e1d) ∧ w'.cell? ⟨xb2, 0, none⟩ = some (.slice A2_0 n2_0 c2_0) ∧ w'.cell? ⟨xb2, 1, none⟩ = some (.slice B2_0 m2_0 d2_0) ∧ w'.cell? ⟨w3.heap.size, 0, none⟩ = some (.slice X3A n0 n0) ∧ w'.cell? ⟨w3.heap.size, 1, none⟩ = some (.slice X3B m0 m0) ∧ w'.cell? ⟨xb5, 0, none⟩ = some (.slice A5_0 n5_0 c5_0) ∧ w'.cell? ⟨xb5, 1, none⟩ = some (.slice B5_0 m5_0 d5_0)) (first | exact ⟨kaG_0_12, kaG_1_12, kaE_0_12, kaE_1_12, kaE_2_12, kaE_3_12, kw0_0_12, kw0_1_12, kx0_0_12, kx0_1_12, kg0_0_12, kg0_1_12⟩ | exact ⟨cell_al _ (w := w12) kaG_0_12, cell_al _ (w := w12) kaG_1_12, cell_al _ (w := w12) kaE_0_12, cell_al _ (w := w12) kaE_1_12, cell_al _ (w := w12) kaE_2_12, cell_al _ (w := w12) kaE_3_12, cell_al _ (w := w12) kw0_0_12, cell_al _ (w := w12) kw0_1_12, cell_al _ (w := w12) kx0_0_12, cell_al _ (w := w12) kx0_1_12, cell_al _ (w := w12) kg0_0_12, cell_al _ (w := w12) kg0_1_12⟩ | exact ⟨cell_keep hn0 kaG_0_12, cell_keep hn0 kaG_1_12, cell_keep hn0 kaE_0_12, cell_keep hn0 kaE_1_12, cell_keep hn0 kaE_2_12, cell_keep hn0 kaE_3_12, cell_keep hn0 kw0_0_12, cell_keep hn0 kw0_1_12, cell_keep hn0 kx0_0_12, cell_keep hn0 kx0_1_12, cell_keep hn0 kg0_0_12, cell_keep hn0 kg0_1_12⟩ | exact ⟨cell_al _ (cell_keep hn0 kaG_0_12), cell_al _ (cell_keep hn0 kaG_1_12), cell_al _ (cell_keep hn0 kaE_0_12), cell_al _ (cell_keep hn0 kaE_1_12), cell_al _ (cell_keep hn0 kaE_2_12), cell_al _ (cell_keep hn0 kaE_3_12), cell_al _ (cell_keep hn0 kw0_0_12), cell_al _ (cell_keep hn0 kw0_1_12), cell_al _ (cell_keep hn0 kx0_0_12), cell_al _ (cell_keep hn0 kx0_1_12), cell_al _ (cell_keep hn0 kg0_0_12), cell_al _ (cell_keep hn0 kg0_1_12)⟩ | exact ⟨cell_keep hn1 kaG_0_12, cell_keep hn1 kaG_1_12, cell_keep hn1 kaE_0_12, cell_keep hn1 kaE_1_12, cell_keep hn1 kaE_2_12, cell_keep hn1 kaE_3_12, cell_keep hn1 kw0_0_12, cell_keep hn1 kw0_1_12, cell_keep hn1 kx0_0_12, cell_keep hn1 kx0_1_12, cell_keep hn1 kg0_0_12, cell_keep hn1 kg0_1_12⟩ | exact ⟨cell_al _ (cell_keep hn1 kaG_0_12), cell_al _ (cell_keep hn1 kaG_1_12), cell_al _ (cell_keep hn1 kaE_0_12), cell_al _ (cell_keep hn1 kaE_1_12), cell_al _ (cell_keep hn1 kaE_2_12), cell_al _ (cell_keep hn1 kaE_3_12), cell_al _ (cell_keep hn1 kw0_0_12), cell_al _ (cell_keep hn1 kw0_1_12), cell_al _ (cell_keep hn1 kx0_0_12), cell_al _ (cell_keep hn1 kx0_1_12), cell_al _ (cell_keep hn1 kg0_0_12), cell_al _ (cell_keep hn1 kg0_1_12)⟩ | exact ⟨cell_keep hn2 kaG_0_12, cell_keep hn2 kaG_1_12, cell_keep hn2 kaE_0_12, cell_keep hn2 kaE_1_12, cell_keep hn2 kaE_2_12, cell_keep hn2 kaE_3_12, cell_keep hn2 kw0_0_12, cell_keep hn2 kw0_1_12, cell_keep hn2 kx0_0_12, cell_keep hn2 kx0_1_12, cell_keep hn2 kg0_0_12, cell_keep hn2 kg0_1_12⟩ | exact ⟨cell_al _ (cell_keep hn2 kaG_0_12), cell_al _ (cell_keep hn2 kaG_1_12), cell_al _ (cell_keep hn2 kaE_0_12), cell_al _ (cell_keep hn2 kaE_1_12), cell_al _ (cell_keep hn2 kaE_2_12), cell_al _ (cell_keep hn2 kaE_3_12), cell_al _ (cell_keep hn2 kw0_0_12), cell_al _ (cell_keep hn2 kw0_1_12), cell_al _ (cell_keep hn2 kx0_0_12), cell_al _ (cell_keep hn2 kx0_1_12), cell_al _ (cell_keep hn2 kg0_0_12), cell_al _ (cell_keep hn2 kg0_1_12)⟩ | exact ⟨cell_sf (cell_sf (cell_keep hn2 kaG_0_12) (by dsimp only; omega)) (by dsimp only; omega), cell_sf (cell_sf (cell_keep hn2 kaG_1_12) (by dsimp only; omega)) (by dsimp only; omega), cell_sf (cell_sf (cell_keep hn2 kaE_0_12) (by dsimp only; omega)) (by dsimp only; omega), cell_sf (cell_sf (cell_keep hn2 kaE_1_12) (by dsimp only; omega)) (by dsimp only; omega), cell_sf (cell_sf (cell_keep hn2 kaE_2_12) (by dsimp only; omega)) (by dsimp only; omega), cell_sf (cell_sf (cell_keep hn2 kaE_3_12) (by dsimp only; omega)) (by dsimp only; omega), cell_sf (cell_sf (cell_keep hn2 kw0_0_12) (by dsimp only; omega)) (by dsimp only; omega), cell_sf (cell_sf (cell_keep hn2 kw0_1_12) (by dsimp only; omega)) (by dsimp only; omega), cell_sf (cell_sf (cell_keep hn2 kx0_0_12) (by dsimp only; omega)) (by dsimp only; omega), cell_sf (cell_sf (cell_keep hn2 kx0_1_12) (by dsimp only; omega)) (by dsimp only; omega), cell_sf (cell_sf (cell_keep hn2 kg0_0_12) (by dsimp only; omega)) (by dsimp only; omega), cell_sf (cell_sf (cell_keep hn2 kg0_1_12) (by dsimp only; omega)) (by dsimp only; omega)⟩ | exact ⟨cell_sf (cell_sf (cell_al _ (cell_keep hn2 kaG_0_12)) (by dsimp only; omega)) (by dsimp only; omega), cell_sf (cell_sf (cell_al _ (cell_keep hn2 kaG_1_12)) (by dsimp only; omega)) (by dsimp only; omega), cell_sf (cell_sf (cell_al _ (cell_keep hn2 kaE_0_12)) (by dsimp only; omega)) (by dsimp only; omega), cell_sf (cell_sf (cell_al _ (cell_keep hn2 kaE_1_12)) (by dsimp only; omega)) (by dsimp only; omega), cell_sf (cell_sf (cell_al _ (cell_keep hn2 kaE_2_12)) (by dsimp only; omega)) (by dsimp only; omega), cell_sf (cell_sf (cell_al _ (cell_keep hn2 kaE_3_12)) (by dsimp only; omega)) (by dsimp only; omega), cell_sf (cell_sf (cell_al _ (cell_keep hn2 kw0_0_12)) (by dsimp only; omega)) (by dsimp only; omega), cell_sf (cell_sf (cell_al _ (cell_keep hn2 kw0_1_12)) (by dsimp only; omega)) (by dsimp only; omega), cell_sf (cell_sf (cell_al _ (cell_keep hn2 kx0_0_12)) (by dsimp only; omega)) (by dsimp only; omega), cell_sf (cell_sf (cell_al _ (cell_keep hn2 kx0_1_12)) (by dsimp only; omega)) (by dsimp only; omega), cell_sf (cell_sf (cell_al _ (cell_keep hn2 kg0_0_12)) (by dsimp only; omega)) (by dsimp only; omega), cell_sf (cell_sf (cell_al _ (cell_keep hn2 kg0_1_12)) (by dsimp only; omega)) (by dsimp only; omega)⟩ | go_keep) (first
            | (go_simp; go_at_call 37; refine Calls.mono (implInsertEdge_is _ (OC13_0.below (by first | exact Below.refl _ _ | exact (Below.refl _ _).drew | exact (Below.refl _ _).alloc (Nat.le_refl _) _ | exact ((Below.refl _ _).alloc (Nat.le_refl _) _).drew)).grd (E.mk e1a e1b e1c e1d)) ?_; rw [HR0.out]; rw [HR1.out]; rintro e u13_2 ⟨A_, n_, c_, B_, m_, d_, rfl, OR, hb2_⟩; have LO := cut_lo hn1 (by first | exact Below.refl _ _ | exact (Below.refl _ _).drew | exact (Below.refl _ _).alloc (Nat.le_refl _) _ | exact ((Below.refl _ _).alloc (Nat.le_refl _) _).drew) OR; have HI := cut_hi hb2_ OR; (try (have ZL := cut_zl ZB (by first | exact Below.refl _ _ | exact (Below.refl _ _).drew | exact (Below.refl _ _).alloc (Nat.le_refl _) _ | exact ((Below.refl _ _).alloc (Nat.le_refl _) _).drew) OR)); (try (have ZL := cut_za OR)); (try (have ZL := cut_zd OR)); have hk2 : Below u13_1.heap.size u13_1 u13_2 := below_then (W := u13_1) (by first | exact Below.refl _ _ | exact (Below.refl _ _).drew | exact (Below.refl _ _).alloc (Nat.le_refl _) _ | exact ((Below.refl _ _).alloc (Nat.le_refl _) _).drew) hb2_; have hn2 : Below w12.heap.size w12 u13_2 := below_then (W := w12) hn1 hk2; have sz2 : w12.heap.size ≤ u13_2.heap.size := hn2.size; (try (replace ZB := ZB.below hk2 ZB.lt)); (try (have ZB := (Blk.new u13_1 53 #[.slice none 0 0, .slice none 0 0]).below hb2_ (lt_al _ _))); have OR2 := OR; (try (have zc0 := ZB.c10)); (try (have zc0 := ZB.c20)); (try (have zc1 := ZB.c21)); (try (have zf0 := ZB.frozen 0)); (try (have zf1 := ZB.frozen 1)); (try dsimp only))
            | (go_simp; go_at_call 36; refine Calls.mono (toEdge_any ⟨e1a, e1b, e1c, e1d⟩ _) ?_; rintro e u13_1 ⟨rfl, hb1_⟩; have hk1 : Below u13_0.heap.size u13_0 u13_1 := below_then (W := u13_0) (by first | exact Below.refl _ _ | exact (Below.refl _ _).drew | exact (Below.refl _ _).alloc (Nat.le_refl _) _ | exact ((Below.refl _ _).alloc (Nat.le_refl _) _).drew) hb1_; have hn1 : Below w12.heap.size w12 u13_1 := below_then (W := w12) hn0 hk1; have sz1 : w12.heap.size ≤ u13_1.heap.size := hn1.size; (try (replace ZB := ZB.below hk1 ZB.lt)); (try (have ZB := (Blk.new u13_0 53 #[.slice none 0 0, .slice none 0 0]).below hb1_ (lt_al _ _))); replace OC13_0 := OC13_0.below hk1; (try dsimp only))
            | (go_simp; go_at_call 30; refine Calls.mono (toGraph_rd _ (GA0.up (below_then hB12 (below_then (W := w12) (Below.refl _ _) (by first | exact Below.refl _ _ | exact (Below.refl _ _).drew | exact (Below.refl _ _).alloc (Nat.le_refl _) _ | exact ((Below.refl _ _).alloc (Nat.le_refl _) _).drew))))) ?_; rintro e u13_0 ⟨XA0, XB0, rfl, OC13_0, hb0_⟩; have hk0 : Below w12.heap.size w12 u13_0 := below_then (W := w12) (by first | exact Below.refl _ _ | exact (Below.refl _ _).drew | exact (Below.refl _ _).alloc (Nat.le_refl _) _ | exact ((Below.refl _ _).alloc (Nat.le_refl _) _).drew) hb0_; have hn0 : Below w12.heap.size w12 u13_0 := below_then (W := w12) (Below.refl _ _) hk0; have sz0 : w12.heap.size ≤ u13_0.heap.size := hn0.size; (try (have ZB := (Blk.new w12 53 #[.slice none 0 0, .slice none 0 0]).below hb0_ (lt_al _ _))); (try (have ZB := (Blk.drew (Blk.new w12 53 #[.slice none 0 0, .slice none 0 0])).below hb0_ (lt_ald _ _))); (try dsimp only)))
        all_goals
          go_wp2_with fail
          go_meet
          case rel => first | exact CutGs.late hn2 LO HI OR2 | exact CutGs.early hn2 LO HI OR2 ZB (by omega) ZL
      case rest =>
        obtain ⟨xb13, A13_0, n13_0, c13_0, B13_0, m13_0, d13_0, glo13, ghi13, rfl, rfl, kh0_0_13, kh0_1_13, O13_0, hb13, hlo13, hhi13, hgl13, hgm13, hgh13, hsep13⟩ := hcut
        obtain ⟨w13, rfl⟩ : ∃ x : World, x = wc := ⟨_, rfl⟩
        have S13 : w12.heap.size ≤ w13.heap.size := hb13.size
        have hB13 := below_then hB12 hb13
        have kaG_0_13 := cell_keep hb13 kaG_0_12
        have kaG_1_13 := cell_keep hb13 kaG_1_12
        have kaE_0_13 := cell_keep hb13 kaE_0_12
        have kaE_1_13 := cell_keep hb13 kaE_1_12
        have kaE_2_13 := cell_keep hb13 kaE_2_12
        have kaE_3_13 := cell_keep hb13 kaE_3_12
        have kw0_0_13 := cell_keep hb13 kw0_0_12
        have kw0_1_13 := cell_keep hb13 kw0_1_12
        have kx0_0_13 := cell_keep hb13 kx0_0_12
        have kx0_1_13 := cell_keep hb13 kx0_1_12
        have kg0_0_13 := cell_keep hb13 kg0_0_12
        have kg0_1_13 := cell_keep hb13 kg0_1_12
        replace O2_0 := O2_0.below hb13
        replace MO3 := MO3.below hb13
        replace MO5_0 := MO5_0.below hb13
        clear hB12 kaG_0_12 kaG_1_12 kaE_0_12 kaE_1_12 kaE_2_12 kaE_3_12 kw0_0_12 kw0_1_12 kx0_0_12 kx0_1_12 kg0_0_12 kg0_1_12 hb13
        go_wp2_with fail
        refine (eqGraph_is _ O13_0 O2_0).mono ?_
        rintro e w14 ⟨rfl, hb14⟩
        have S14 : w13.heap.size ≤ w14.heap.size := hb14.size
        have hB14 := below_then hB13 hb14
        have kaG_0_14 := cell_keep hb14 kaG_0_13
        have kaG_1_14 := cell_keep hb14 kaG_1_13
        have kaE_0_14 := cell_keep hb14 kaE_0_13
        have kaE_1_14 := cell_keep hb14 kaE_1_13
        have kaE_2_14 := cell_keep hb14 kaE_2_13
        have kaE_3_14 := cell_keep hb14 kaE_3_13
        have kw0_0_14 := cell_keep hb14 kw0_0_13
        have kw0_1_14 := cell_keep hb14 kw0_1_13
        have kx0_0_14 := cell_keep hb14 kx0_0_13
        have kx0_1_14 := cell_keep hb14 kx0_1_13
        have kg0_0_14 := cell_keep hb14 kg0_0_13
        have kg0_1_14 := cell_keep hb14 kg0_1_13
        have kh0_0_14 := cell_keep hb14 kh0_0_13
        have kh0_1_14 := cell_keep hb14 kh0_1_13
        replace O2_0 := O2_0.below hb14
        replace MO3 := MO3.below hb14
        replace MO5_0 := MO5_0.below hb14
        replace O13_0 := O13_0.below hb14
        clear hB13 kaG_0_13 kaG_1_13 kaE_0_13 kaE_1_13 kaE_2_13 kaE_3_13 kw0_0_13 kw0_1_13 kx0_0_13 kx0_1_13 kg0_0_13 kg0_1_13 kh0_0_13 kh0_1_13 hb14
        go_wp2_with fail
        refine (heldGraph_is _ 1 MO5_0 (by omega)).mono ?_
        rw [Hy11.out]
        rintro e w15 ⟨rfl, hb15⟩
        have S15 : w14.heap.size ≤ w15.heap.size := hb15.size
        have hB15 := below_then hB14 hb15
        have kaG_0_15 := cell_keep hb15 kaG_0_14
        have kaG_1_15 := cell_keep hb15 kaG_1_14
        have kaE_0_15 := cell_keep hb15 kaE_0_14
        have kaE_1_15 := cell_keep hb15 kaE_1_14
        have kaE_2_15 := cell_keep hb15 kaE_2_14
        have kaE_3_15 := cell_keep hb15 kaE_3_14
        have kw0_0_15 := cell_keep hb15 kw0_0_14
        have kw0_1_15 := cell_keep hb15 kw0_1_14
        have kx0_0_15 := cell_keep hb15 kx0_0_14
        have kx0_1_15 := cell_keep hb15 kx0_1_14
        have kg0_0_15 := cell_keep hb15 kg0_0_14
        have kg0_1_15 := cell_keep hb15 kg0_1_14
        have kh0_0_15 := cell_keep hb15 kh0_0_14
        have kh0_1_15 := cell_keep hb15 kh0_1_14
        replace O2_0 := O2_0.below hb15
        replace MO3 := MO3.below hb15
        replace MO5_0 := MO5_0.below hb15
        replace O13_0 := O13_0.below hb15
        clear hB14 kaG_0_14 kaG_1_14 kaE_0_14 kaE_1_14 kaE_2_14 kaE_3_14 kw0_0_14 kw0_1_14 kx0_0_14 kx0_1_14 kg0_0_14 kg0_1_14 kh0_0_14 kh0_1_14 hb15
        all_goals
          go_wp2
          go_ret
          exact ⟨rfl, hB15⟩

set_option maxRecDepth 100000 in
theorem lifted (os : Os) (started : os.Started) (H : Type) (enc : TypeId × Value → H) :
    ReturnsInHanded {} Try.checked os 7 .any (Rows.fnExactInsertEdgeSpec.pre6 enc Try.prog Try.f7 Rows.fnExactInsertEdgeRow.domain false) (Rows.fnExactInsertEdgeSpec.post enc Try.prog Try.f7 false true false false) := by
  refine returnsInHanded_of_change (C := Try.checked) own started (by as_aux_lemma => kernel_rfl) Try.func7
    (ChangeSpec.witness6 (enc := enc) (C := Try.checked) false ⟨#[], #[.agg #[.slice none 0 0, .slice none 0 0], .agg #[.int .i64 0, .int .i64 0, .int .i64 0, .int .i64 0]], []⟩ 8 (by as_aux_lemma => kernel_rfl) (by as_aux_lemma => kernel_rfl) (by as_aux_lemma => kernel_rfl) (by as_aux_lemma => kernel_rfl)) ?_
  intro W base args ds gs before hval0 hW hcnd _
  have hval : ∀ (j : Nat) t v, Try.f7.params[j]? = some t → args[j]? = some v → Value.okWide Try.prog W .any base t v := hval0
  have hW' := hW
  obtain ⟨p, q, hA0, hV, rfl, hfz, hnd⟩ := hW
  have hA : DataW.TrodAll enc Try.prog W 0 (fun _ => true) true Try.f7.params.toList args.toList ds p := hA0
  rw [Try.params7] at hA hval
  obtain ⟨v0, vs0, d0, ds0, p0, q0, hargs, rfl, rfl, h0, r0⟩ := trodAll_cons hA
  obtain ⟨v1, vs1, d1, ds1, p1, q1, rfl, rfl, rfl, h1, r1⟩ := trodAll_cons r0
  obtain ⟨rfl, rfl, rfl⟩ := trodAll_nil r1
  obtain rfl : args = #[v0, v1] := by cases args; simp_all
  obtain ⟨rfl, rfl⟩ := trodVars_none hV
  have k0 := h0
  have lt0 : ∀ x ∈ p0, x.block < W.heap.size := by obtain ⟨m, hm⟩ := k0; exact DataW.trod_lt m _ _ _ hm
  have g0 := argGraph (hval 0 49 v0 rfl rfl) h0
  have k1 := h1
  have lt1 : ∀ x ∈ p1, x.block < W.heap.size := by obtain ⟨m, hm⟩ := k1; exact DataW.trod_lt m _ _ _ hm
  have g1 := argEdge (hval 1 61 v1 rfl rfl) h1
  clear hA0 hval0
  refine (walk W v0 g0 v1 g1).mono fun e W' ⟨he, bel⟩ => ?_
  subst he
  exact ⟨_, rfl, _, _, _, [], _, [], hW', trodAll_mk1 (shut_bool Try.underlying4 _), (trodAll_cons_mk (Below.trod laidOut (by as_aux_lemma => kernel_rfl) (of_decide_eq_true (by as_aux_lemma => kernel_rfl)) k0 bel lt0) (trodAll_cons_mk (Below.trod laidOut (by as_aux_lemma => kernel_rfl) (of_decide_eq_true (by as_aux_lemma => kernel_rfl)) k1 bel lt1) trodAll_mk0)), rfl, bel.frame _, fun h => by cases h⟩

set_option maxHeartbeats 8000000 in
theorem closed : joinedFacts Try.prog 7 Try.f7 Rows.fnExactInsertEdgeSpec Rows.fnExactInsertEdgeRow = true := by
  unfold joinedFacts
  simp only [Bool.and_eq_true]
  repeat' apply And.intro
  all_goals first | with_reducible exact frMay | with_reducible exact frLifts _ rfl | with_reducible exact frMake _ rfl | (as_aux_lemma => kernel_rfl)
set_option maxHeartbeats 1000000 in
theorem over : Rows.fnExactInsertEdgeRow.holds Try.pinned (OpenSpec.ofChange Rows.fnExactInsertEdgeSpec) :=
  OpenClaim.holds_of_wide 7 Try.f7 rfl rfl rfl rfl rfl rfl rfl ⟨rfl, rfl, rfl, rfl, rfl⟩ rfl rfl rfl rfl rfl (by as_aux_lemma => kernel_rfl) Try.func7 closed
    (of_decide_eq_true (by as_aux_lemma => kernel_rfl)) (by unfold Func.isWrapper; first | (rw [if_pos (by decide +kernel)]; kernel_rfl) | (rw [if_neg (by decide +kernel)]; exact ⟨rfl, rfl⟩))
    (fun os started H enc _ => lifted os started H enc)

theorem proved : Rows.FnExactInsertEdgeSaid := over
end Go.Proofs.Ytolilkbejghocaa.fnExactInsertEdge
