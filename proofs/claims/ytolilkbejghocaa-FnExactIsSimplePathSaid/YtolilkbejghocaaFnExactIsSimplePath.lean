/-
  FnExactIsSimplePathSaid: for every input the law FnExactIsSimplePath returns true, and its arguments read afterwards as before. No condition.
-/
import Derived.Test.YtolilkbejghocaaSimp
import Derived.Test.YtolilkbejghocaaFr
namespace Go.Proofs.Ytolilkbejghocaa.fnExactIsSimplePath
open Go.ChangeShapes Go.WideShapes Go.ChangeAt Go.RowKit Go.Deep
open Go.ChangeMaps (open_string shut_string)
set_option linter.unusedVariables false


theorem own : ownKnob Try.prog.godebug = none := by kernel_rfl
theorem laidOut : laidOutB Try.prog = true := by kernel_rfl

set_option maxRecDepth 4000 in
set_option maxHeartbeats 8000000 in
theorem walk (W : World) (v0 : Value) (g0 : ArgGraph W v0) (v1 : Value) (g1 : ArgWalk W v1) :
    Calls Try.prog 10 #[v0, v1] W fun e w' => e = .returned (.bool true) ∧ Below W.heap.size W w' := by
  obtain ⟨A0, B0, n0, c0, m0, d0, g0, rfl, hg0, hn0, hm0, _, _⟩ := g0
  obtain ⟨A1, n1, c1, s1, l1, rfl, hl1, hr1, hn1, _, _⟩ := g1
  obtain ⟨r0, hr0_⟩ : ∃ r, simpleZ g0 s1 l1 = r := ⟨_, rfl⟩
  have HR0 := Lib.hid hr0_
  clear hr0_
  go_enter Try.func10, Try.ntmps10
  go_wp2_with fail
  have hB0 : Below W.heap.size W ((W.alloc (.cells #[.slice A0 n0 c0, .slice B0 m0 d0] 49)).alloc (.cells #[.int .i64 s1, .slice A1 n1 c1] 71)) := ((Below.refl _ _).alloc (Nat.le_refl _) _).alloc (by simp <;> omega) _
  have kaG_0_0 : ((W.alloc (.cells #[.slice A0 n0 c0, .slice B0 m0 d0] 49)).alloc (.cells #[.int .i64 s1, .slice A1 n1 c1] 71)).cell? ⟨W.heap.size, 0, none⟩ = some (.slice A0 n0 c0) := by go_simp
  have kaG_1_0 : ((W.alloc (.cells #[.slice A0 n0 c0, .slice B0 m0 d0] 49)).alloc (.cells #[.int .i64 s1, .slice A1 n1 c1] 71)).cell? ⟨W.heap.size, 1, none⟩ = some (.slice B0 m0 d0) := by go_simp
  have kaW_0_0 : ((W.alloc (.cells #[.slice A0 n0 c0, .slice B0 m0 d0] 49)).alloc (.cells #[.int .i64 s1, .slice A1 n1 c1] 71)).cell? ⟨W.heap.size + 1, 0, none⟩ = some (.int .i64 s1) := by go_simp
  have kaW_1_0 : ((W.alloc (.cells #[.slice A0 n0 c0, .slice B0 m0 d0] 49)).alloc (.cells #[.int .i64 s1, .slice A1 n1 c1] 71)).cell? ⟨W.heap.size + 1, 1, none⟩ = some (.slice A1 n1 c1) := by go_simp
  have S0 : W.heap.size + 1 < ((W.alloc (.cells #[.slice A0 n0 c0, .slice B0 m0 d0] 49)).alloc (.cells #[.int .i64 s1, .slice A1 n1 c1] 71)).heap.size := by simp <;> omega
  generalize ((W.alloc (.cells #[.slice A0 n0 c0, .slice B0 m0 d0] 49)).alloc (.cells #[.int .i64 s1, .slice A1 n1 c1] 71)) = w0 at *
  have hsok1 := szG_ok3 (l := 1048576) (n := n0) (m := m0)
  have hrg1 : szG 1048576 n0 m0 < 0 ∨ ¬ szG 1048576 n0 m0 < 0 := by omega
  refine (szGraph_any A0 B0 n0 c0 m0 d0 1048576 _ hn0 hm0 (by omega) (by omega)).mono ?_
  rintro e w1 ⟨rfl, hb1⟩
  have S1 : w0.heap.size ≤ w1.heap.size := hb1.size
  have hB1 := below_then hB0 hb1
  have kaG_0_1 := cell_keep hb1 kaG_0_0
  have kaG_1_1 := cell_keep hb1 kaG_1_0
  have kaW_0_1 := cell_keep hb1 kaW_0_0
  have kaW_1_1 := cell_keep hb1 kaW_1_0
  clear kaG_0_0 kaG_1_0 kaW_0_0 kaW_1_0 hb1
  obtain ⟨q1, hq1⟩ : ∃ q, szG 1048576 n0 m0 = q := ⟨_, rfl⟩
  rw [hq1] at hsok1 hrg1 ⊢
  clear hq1
  rcases hrg1 with hneg | hpos
  · go_wp2
    go_ret
    exact ⟨rfl, hB1⟩
  obtain ⟨hsum1, hq1b, hq1c⟩ := hsok1 hpos
  have hq1d : q1 ≤ 1048576 := by omega
  replace hq1c := hq1d
  clear hq1d
  have GA0 : GRd W A0 n0 B0 m0 g0 := ⟨hg0, by omega, by omega⟩
  clear hsum1 hsok1 hn0 hm0 hg0
  have hsok2 := szI_ok (l := q1) (n := n1)
  have hrg2 : szI q1 n1 < 0 ∨ ¬ szI q1 n1 < 0 := by omega
  go_wp2_with fail
  refine (szWalk_any s1 A1 n1 c1 q1 _ hn1 hq1b hq1c).mono ?_
  rintro e w2 ⟨rfl, hb2⟩
  have S2 : w1.heap.size ≤ w2.heap.size := hb2.size
  have hB2 := below_then hB1 hb2
  have kaG_0_2 := cell_keep hb2 kaG_0_1
  have kaG_1_2 := cell_keep hb2 kaG_1_1
  have kaW_0_2 := cell_keep hb2 kaW_0_1
  have kaW_1_2 := cell_keep hb2 kaW_1_1
  clear hB1 kaG_0_1 kaG_1_1 kaW_0_1 kaW_1_1 hb2
  obtain ⟨q2, hq2⟩ : ∃ q, szI q1 n1 = q := ⟨_, rfl⟩
  rw [hq2] at hsok2 hrg2 ⊢
  clear hq2
  rcases hrg2 with hneg | hpos
  · go_wp2
    go_ret
    exact ⟨rfl, hB2⟩
  obtain ⟨hsum2, hq2b, hq2c⟩ := hsok2 hpos
  have hq2d : q2 ≤ 1048576 := by omega
  replace hq2c := hq2d
  clear hq2d
  have GA1 : SRd W A1 n1 l1 := ⟨hl1, hr1, by omega⟩
  clear hsum2 hsok2 hn1 hl1 hr1
  go_wp2_with fail
  have hbD2 : Below w2.heap.size w2 w2.drew := (Below.refl _ _).drew
  have hBD2 := below_then hB2 hbD2
  have kaG_0_D2 := cell_keep hbD2 kaG_0_2
  have kaG_1_D2 := cell_keep hbD2 kaG_1_2
  have kaW_0_D2 := cell_keep hbD2 kaW_0_2
  have kaW_1_D2 := cell_keep hbD2 kaW_1_2
  go_region_held3 (fun w' => w'.cell? ⟨W.heap.size, 0, none⟩ = some (.slice A0 n0 c0) ∧ w'.cell? ⟨W.heap.size, 1, none⟩ = some (.slice B0 m0 d0) ∧ w'.cell? ⟨W.heap.size + 1, 0, none⟩ = some (.int .i64 s1) ∧ w'.cell? ⟨W.heap.size + 1, 1, none⟩ = some (.slice A1 n1 c1)) (first | exact ⟨kaG_0_D2, kaG_1_D2, kaW_0_D2, kaW_1_D2⟩ | exact ⟨kaG_0_3, kaG_1_3, kaW_0_3, kaW_1_3⟩ | exact ⟨kaG_0_4, kaG_1_4, kaW_0_4, kaW_1_4⟩ | exact ⟨kaG_0_5, kaG_1_5, kaW_0_5, kaW_1_5⟩) (first
      | (go_simp; go_at_call 43; refine (specIsSimplePath_is _ O3.grd s1 O4.srd).mono ?_; rw [HR0.out]; rintro e w5 ⟨rfl, hb5⟩; have S5 : w4.heap.size ≤ w5.heap.size := hb5.size; have hB5 := below_then hB4 hb5; have kaG_0_5 := cell_keep hb5 kaG_0_4; have kaG_1_5 := cell_keep hb5 kaG_1_4; have kaW_0_5 := cell_keep hb5 kaW_0_4; have kaW_1_5 := cell_keep hb5 kaW_1_4; replace O3 := O3.below hb5; replace O4 := O4.below hb5; dsimp only)
      | (go_simp; go_at_call 44; refine (toWalk_rd _ (GA1.up hB3)).mono ?_; rintro e w4 ⟨X4A, rfl, O4, hb4⟩; have S4 : w3.heap.size ≤ w4.heap.size := hb4.size; have hB4 := below_then hB3 hb4; have kaG_0_4 := cell_keep hb4 kaG_0_3; have kaG_1_4 := cell_keep hb4 kaG_1_3; have kaW_0_4 := cell_keep hb4 kaW_0_3; have kaW_1_4 := cell_keep hb4 kaW_1_3; replace O3 := O3.below hb4; dsimp only)
      | (go_simp; go_at_call 30; refine (toGraph_rd _ (GA0.up hBD2)).mono ?_; rintro e w3 ⟨X3A, X3B, rfl, O3, hb3⟩; have S3 : w2.heap.size ≤ w3.heap.size := hb3.size; have hB3 := below_then hBD2 hb3; have kaG_0_3 := cell_keep hb3 kaG_0_D2; have kaG_1_3 := cell_keep hb3 kaG_1_D2; have kaW_0_3 := cell_keep hb3 kaW_0_D2; have kaW_1_3 := cell_keep hb3 kaW_1_D2; replace O3 := O3.wide (lo := w2.heap.size) (hi := w3.heap.size) (Nat.le_refl _) (Nat.le_refl _); dsimp only))
  clear hB2 kaG_0_2 kaG_1_2 kaW_0_2 kaW_1_2 hbD2 hBD2 kaG_0_D2 kaG_1_D2 kaW_0_D2 kaW_1_D2 hb3 hB3 kaG_0_3 kaG_1_3 kaW_0_3 kaW_1_3 hb4 hB4 kaG_0_4 kaG_1_4 kaW_0_4 kaW_1_4 hb5
  clear O3
  clear O4
  go_wp2_with fail
  refine (toGraph_rd _ (GA0.up hB5)).mono ?_
  rintro e w6 ⟨X6A, X6B, rfl, O6, hb6⟩
  have S6 : w5.heap.size ≤ w6.heap.size := hb6.size
  have hB6 := below_then hB5 hb6
  have kaG_0_6 := cell_keep hb6 kaG_0_5
  have kaG_1_6 := cell_keep hb6 kaG_1_5
  have kaW_0_6 := cell_keep hb6 kaW_0_5
  have kaW_1_6 := cell_keep hb6 kaW_1_5
  clear hB5 kaG_0_5 kaG_1_5 kaW_0_5 kaW_1_5 hb6
  have hb7 : Below w6.heap.size w6 (w6.alloc (.cells #[.slice X6A n0 n0, .slice X6B m0 m0] 53)) := (Below.refl _ _).alloc (Nat.le_refl _) _
  have kx0_0_7 : (w6.alloc (.cells #[.slice X6A n0 n0, .slice X6B m0 m0] 53)).cell? ⟨w6.heap.size, 0, none⟩ = some (.slice X6A n0 n0) := by go_simp
  have kx0_1_7 : (w6.alloc (.cells #[.slice X6A n0 n0, .slice X6B m0 m0] 53)).cell? ⟨w6.heap.size, 1, none⟩ = some (.slice X6B m0 m0) := by go_simp
  have S7 : w6.heap.size < (w6.alloc (.cells #[.slice X6A n0 n0, .slice X6B m0 m0] 53)).heap.size := by simp
  have hB7 := below_then hB6 hb7
  have kaG_0_7 := cell_keep hb7 kaG_0_6
  have kaG_1_7 := cell_keep hb7 kaG_1_6
  have kaW_0_7 := cell_keep hb7 kaW_0_6
  have kaW_1_7 := cell_keep hb7 kaW_1_6
  replace O6 := O6.below hb7
  clear hB6 kaG_0_6 kaG_1_6 kaW_0_6 kaW_1_6 hb7
  go_wp2_with fail
  generalize (w6.alloc (.cells #[.slice X6A n0 n0, .slice X6B m0 m0] 53)) = w7 at *
  refine (toWalk_rd _ (GA1.up hB7)).mono ?_
  rintro e w8 ⟨X8A, rfl, O8, hb8⟩
  have S8 : w7.heap.size ≤ w8.heap.size := hb8.size
  have hB8 := below_then hB7 hb8
  have kaG_0_8 := cell_keep hb8 kaG_0_7
  have kaG_1_8 := cell_keep hb8 kaG_1_7
  have kaW_0_8 := cell_keep hb8 kaW_0_7
  have kaW_1_8 := cell_keep hb8 kaW_1_7
  have kx0_0_8 := cell_keep hb8 kx0_0_7
  have kx0_1_8 := cell_keep hb8 kx0_1_7
  replace O6 := O6.below hb8
  clear hB7 kaG_0_7 kaG_1_7 kaW_0_7 kaW_1_7 kx0_0_7 kx0_1_7 hb8
  have hb9 : Below w8.heap.size w8 (w8.alloc (.cells #[.int .i64 s1, .slice X8A n1 n1] 76)) := (Below.refl _ _).alloc (Nat.le_refl _) _
  have kx1_0_9 : (w8.alloc (.cells #[.int .i64 s1, .slice X8A n1 n1] 76)).cell? ⟨w8.heap.size, 0, none⟩ = some (.int .i64 s1) := by go_simp
  have kx1_1_9 : (w8.alloc (.cells #[.int .i64 s1, .slice X8A n1 n1] 76)).cell? ⟨w8.heap.size, 1, none⟩ = some (.slice X8A n1 n1) := by go_simp
  have S9 : w8.heap.size < (w8.alloc (.cells #[.int .i64 s1, .slice X8A n1 n1] 76)).heap.size := by simp
  have hB9 := below_then hB8 hb9
  have kaG_0_9 := cell_keep hb9 kaG_0_8
  have kaG_1_9 := cell_keep hb9 kaG_1_8
  have kaW_0_9 := cell_keep hb9 kaW_0_8
  have kaW_1_9 := cell_keep hb9 kaW_1_8
  have kx0_0_9 := cell_keep hb9 kx0_0_8
  have kx0_1_9 := cell_keep hb9 kx0_1_8
  replace O6 := O6.below hb9
  replace O8 := O8.below hb9
  clear hB8 kaG_0_8 kaG_1_8 kaW_0_8 kaW_1_8 kx0_0_8 kx0_1_8 hb9
  go_wp2_with fail
  generalize (w8.alloc (.cells #[.int .i64 s1, .slice X8A n1 n1] 76)) = w9 at *
  refine (implIsSimplePath_is _ O6.grd s1 O8.srd).mono ?_
  rw [HR0.out]
  rintro e w10 ⟨rfl, hb10⟩
  have S10 : w9.heap.size ≤ w10.heap.size := hb10.size
  have hB10 := below_then hB9 hb10
  have kaG_0_10 := cell_keep hb10 kaG_0_9
  have kaG_1_10 := cell_keep hb10 kaG_1_9
  have kaW_0_10 := cell_keep hb10 kaW_0_9
  have kaW_1_10 := cell_keep hb10 kaW_1_9
  have kx0_0_10 := cell_keep hb10 kx0_0_9
  have kx0_1_10 := cell_keep hb10 kx0_1_9
  have kx1_0_10 := cell_keep hb10 kx1_0_9
  have kx1_1_10 := cell_keep hb10 kx1_1_9
  replace O6 := O6.below hb10
  replace O8 := O8.below hb10
  clear hB9 kaG_0_9 kaG_1_9 kaW_0_9 kaW_1_9 kx0_0_9 kx0_1_9 kx1_0_9 kx1_1_9 hb10
  go_wp2_with fail
  have hbD10 : Below w10.heap.size w10 w10.drew := (Below.refl _ _).drew
  have hBD10 := below_then hB10 hbD10
  have kaG_0_D10 := cell_keep hbD10 kaG_0_10
  have kaG_1_D10 := cell_keep hbD10 kaG_1_10
  have kaW_0_D10 := cell_keep hbD10 kaW_0_10
  have kaW_1_D10 := cell_keep hbD10 kaW_1_10
  have kx0_0_D10 := cell_keep hbD10 kx0_0_10
  have kx0_1_D10 := cell_keep hbD10 kx0_1_10
  have kx1_0_D10 := cell_keep hbD10 kx1_0_10
  have kx1_1_D10 := cell_keep hbD10 kx1_1_10
  replace O6 := O6.below hbD10
  replace O8 := O8.below hbD10
  go_region_held3 (fun w' => w'.cell? ⟨W.heap.size, 0, none⟩ = some (.slice A0 n0 c0) ∧ w'.cell? ⟨W.heap.size, 1, none⟩ = some (.slice B0 m0 d0) ∧ w'.cell? ⟨W.heap.size + 1, 0, none⟩ = some (.int .i64 s1) ∧ w'.cell? ⟨W.heap.size + 1, 1, none⟩ = some (.slice A1 n1 c1) ∧ w'.cell? ⟨w6.heap.size, 0, none⟩ = some (.slice X6A n0 n0) ∧ w'.cell? ⟨w6.heap.size, 1, none⟩ = some (.slice X6B m0 m0) ∧ w'.cell? ⟨w8.heap.size, 0, none⟩ = some (.int .i64 s1) ∧ w'.cell? ⟨w8.heap.size, 1, none⟩ = some (.slice X8A n1 n1)) (first | exact ⟨kaG_0_D10, kaG_1_D10, kaW_0_D10, kaW_1_D10, kx0_0_D10, kx0_1_D10, kx1_0_D10, kx1_1_D10⟩ | exact ⟨kaG_0_11, kaG_1_11, kaW_0_11, kaW_1_11, kx0_0_11, kx0_1_11, kx1_0_11, kx1_1_11⟩ | exact ⟨kaG_0_12, kaG_1_12, kaW_0_12, kaW_1_12, kx0_0_12, kx0_1_12, kx1_0_12, kx1_1_12⟩) (first
      | (go_simp; go_at_call 32; refine (eqGraph_is _ O6 O11).mono ?_; rintro e w12 ⟨rfl, hb12⟩; have S12 : w11.heap.size ≤ w12.heap.size := hb12.size; have hB12 := below_then hB11 hb12; have kaG_0_12 := cell_keep hb12 kaG_0_11; have kaG_1_12 := cell_keep hb12 kaG_1_11; have kaW_0_12 := cell_keep hb12 kaW_0_11; have kaW_1_12 := cell_keep hb12 kaW_1_11; have kx0_0_12 := cell_keep hb12 kx0_0_11; have kx0_1_12 := cell_keep hb12 kx0_1_11; have kx1_0_12 := cell_keep hb12 kx1_0_11; have kx1_1_12 := cell_keep hb12 kx1_1_11; replace O6 := O6.below hb12; replace O8 := O8.below hb12; replace O11 := O11.below hb12; dsimp only)
      | (go_simp; go_at_call 30; refine (toGraph_rd _ (GA0.up hBD10)).mono ?_; rintro e w11 ⟨X11A, X11B, rfl, O11, hb11⟩; have S11 : w10.heap.size ≤ w11.heap.size := hb11.size; have hB11 := below_then hBD10 hb11; have kaG_0_11 := cell_keep hb11 kaG_0_D10; have kaG_1_11 := cell_keep hb11 kaG_1_D10; have kaW_0_11 := cell_keep hb11 kaW_0_D10; have kaW_1_11 := cell_keep hb11 kaW_1_D10; have kx0_0_11 := cell_keep hb11 kx0_0_D10; have kx0_1_11 := cell_keep hb11 kx0_1_D10; have kx1_0_11 := cell_keep hb11 kx1_0_D10; have kx1_1_11 := cell_keep hb11 kx1_1_D10; replace O6 := O6.below hb11; replace O8 := O8.below hb11; replace O11 := O11.wide (lo := w10.heap.size) (hi := w11.heap.size) (Nat.le_refl _) (Nat.le_refl _); dsimp only))
  clear hB10 kaG_0_10 kaG_1_10 kaW_0_10 kaW_1_10 kx0_0_10 kx0_1_10 kx1_0_10 kx1_1_10 hbD10 hBD10 kaG_0_D10 kaG_1_D10 kaW_0_D10 kaW_1_D10 kx0_0_D10 kx0_1_D10 kx1_0_D10 kx1_1_D10 hb11 hB11 kaG_0_11 kaG_1_11 kaW_0_11 kaW_1_11 kx0_0_11 kx0_1_11 kx1_0_11 kx1_1_11 hb12
  clear O11
  go_wp2_with fail
  have hbD12 : Below w12.heap.size w12 w12.drew := (Below.refl _ _).drew
  have hBD12 := below_then hB12 hbD12
  have kaG_0_D12 := cell_keep hbD12 kaG_0_12
  have kaG_1_D12 := cell_keep hbD12 kaG_1_12
  have kaW_0_D12 := cell_keep hbD12 kaW_0_12
  have kaW_1_D12 := cell_keep hbD12 kaW_1_12
  have kx0_0_D12 := cell_keep hbD12 kx0_0_12
  have kx0_1_D12 := cell_keep hbD12 kx0_1_12
  have kx1_0_D12 := cell_keep hbD12 kx1_0_12
  have kx1_1_D12 := cell_keep hbD12 kx1_1_12
  replace O6 := O6.below hbD12
  replace O8 := O8.below hbD12
  go_region_held3 (fun w' => w'.cell? ⟨W.heap.size, 0, none⟩ = some (.slice A0 n0 c0) ∧ w'.cell? ⟨W.heap.size, 1, none⟩ = some (.slice B0 m0 d0) ∧ w'.cell? ⟨W.heap.size + 1, 0, none⟩ = some (.int .i64 s1) ∧ w'.cell? ⟨W.heap.size + 1, 1, none⟩ = some (.slice A1 n1 c1) ∧ w'.cell? ⟨w6.heap.size, 0, none⟩ = some (.slice X6A n0 n0) ∧ w'.cell? ⟨w6.heap.size, 1, none⟩ = some (.slice X6B m0 m0) ∧ w'.cell? ⟨w8.heap.size, 0, none⟩ = some (.int .i64 s1) ∧ w'.cell? ⟨w8.heap.size, 1, none⟩ = some (.slice X8A n1 n1)) (first | exact ⟨kaG_0_D12, kaG_1_D12, kaW_0_D12, kaW_1_D12, kx0_0_D12, kx0_1_D12, kx1_0_D12, kx1_1_D12⟩ | exact ⟨kaG_0_13, kaG_1_13, kaW_0_13, kaW_1_13, kx0_0_13, kx0_1_13, kx1_0_13, kx1_1_13⟩ | exact ⟨kaG_0_14, kaG_1_14, kaW_0_14, kaW_1_14, kx0_0_14, kx0_1_14, kx1_0_14, kx1_1_14⟩) (first
      | (go_simp; go_at_call 46; refine (eqWalk_is _ s1 O8 O13).mono ?_; rintro e w14 ⟨rfl, hb14⟩; have S14 : w13.heap.size ≤ w14.heap.size := hb14.size; have hB14 := below_then hB13 hb14; have kaG_0_14 := cell_keep hb14 kaG_0_13; have kaG_1_14 := cell_keep hb14 kaG_1_13; have kaW_0_14 := cell_keep hb14 kaW_0_13; have kaW_1_14 := cell_keep hb14 kaW_1_13; have kx0_0_14 := cell_keep hb14 kx0_0_13; have kx0_1_14 := cell_keep hb14 kx0_1_13; have kx1_0_14 := cell_keep hb14 kx1_0_13; have kx1_1_14 := cell_keep hb14 kx1_1_13; replace O6 := O6.below hb14; replace O8 := O8.below hb14; replace O13 := O13.below hb14; dsimp only)
      | (go_simp; go_at_call 44; refine (toWalk_rd _ (GA1.up hBD12)).mono ?_; rintro e w13 ⟨X13A, rfl, O13, hb13⟩; have S13 : w12.heap.size ≤ w13.heap.size := hb13.size; have hB13 := below_then hBD12 hb13; have kaG_0_13 := cell_keep hb13 kaG_0_D12; have kaG_1_13 := cell_keep hb13 kaG_1_D12; have kaW_0_13 := cell_keep hb13 kaW_0_D12; have kaW_1_13 := cell_keep hb13 kaW_1_D12; have kx0_0_13 := cell_keep hb13 kx0_0_D12; have kx0_1_13 := cell_keep hb13 kx0_1_D12; have kx1_0_13 := cell_keep hb13 kx1_0_D12; have kx1_1_13 := cell_keep hb13 kx1_1_D12; replace O6 := O6.below hb13; replace O8 := O8.below hb13; replace O13 := O13.wide (lo := w12.heap.size) (hi := w13.heap.size) (Nat.le_refl _) (Nat.le_refl _); dsimp only))
  clear hB12 kaG_0_12 kaG_1_12 kaW_0_12 kaW_1_12 kx0_0_12 kx0_1_12 kx1_0_12 kx1_1_12 hbD12 hBD12 kaG_0_D12 kaG_1_D12 kaW_0_D12 kaW_1_D12 kx0_0_D12 kx0_1_D12 kx1_0_D12 kx1_1_D12 hb13 hB13 kaG_0_13 kaG_1_13 kaW_0_13 kaW_1_13 kx0_0_13 kx0_1_13 kx1_0_13 kx1_1_13 hb14
  clear O13
  all_goals
    go_wp2
    go_ret
    exact ⟨rfl, hB14⟩

set_option maxRecDepth 100000 in
theorem lifted (os : Os) (started : os.Started) (H : Type) (enc : TypeId × Value → H) :
    ReturnsInHanded {} Try.checked os 10 .any (Rows.fnExactIsSimplePathSpec.pre6 enc Try.prog Try.f10 Rows.fnExactIsSimplePathRow.domain false) (Rows.fnExactIsSimplePathSpec.post enc Try.prog Try.f10 false true false false) := by
  refine returnsInHanded_of_change (C := Try.checked) own started (by as_aux_lemma => kernel_rfl) Try.func10
    (ChangeSpec.witness6 (enc := enc) (C := Try.checked) false ⟨#[], #[.agg #[.slice none 0 0, .slice none 0 0], .agg #[.int .i64 0, .slice none 0 0]], []⟩ 8 (by as_aux_lemma => kernel_rfl) (by as_aux_lemma => kernel_rfl) (by as_aux_lemma => kernel_rfl) (by as_aux_lemma => kernel_rfl)) ?_
  intro W base args ds gs before hval0 hW hcnd _
  have hval : ∀ (j : Nat) t v, Try.f10.params[j]? = some t → args[j]? = some v → Value.okWide Try.prog W .any base t v := hval0
  have hW' := hW
  obtain ⟨p, q, hA0, hV, rfl, hfz, hnd⟩ := hW
  have hA : DataW.TrodAll enc Try.prog W 0 (fun _ => true) true Try.f10.params.toList args.toList ds p := hA0
  rw [Try.params10] at hA hval
  obtain ⟨v0, vs0, d0, ds0, p0, q0, hargs, rfl, rfl, h0, r0⟩ := trodAll_cons hA
  obtain ⟨v1, vs1, d1, ds1, p1, q1, rfl, rfl, rfl, h1, r1⟩ := trodAll_cons r0
  obtain ⟨rfl, rfl, rfl⟩ := trodAll_nil r1
  obtain rfl : args = #[v0, v1] := by cases args; simp_all
  obtain ⟨rfl, rfl⟩ := trodVars_none hV
  have k0 := h0
  have lt0 : ∀ x ∈ p0, x.block < W.heap.size := by obtain ⟨m, hm⟩ := k0; exact DataW.trod_lt m _ _ _ hm
  have g0 := argGraph (hval 0 49 v0 rfl rfl) h0
  have k1 := h1
  have lt1 : ∀ x ∈ p1, x.block < W.heap.size := by obtain ⟨m, hm⟩ := k1; exact DataW.trod_lt m _ _ _ hm
  have g1 := argWalk (hval 1 71 v1 rfl rfl) h1
  clear hA0 hval0
  refine (walk W v0 g0 v1 g1).mono fun e W' ⟨he, bel⟩ => ?_
  subst he
  exact ⟨_, rfl, _, _, _, [], _, [], hW', trodAll_mk1 (shut_bool Try.underlying4 _), (trodAll_cons_mk (Below.trod laidOut (by as_aux_lemma => kernel_rfl) (of_decide_eq_true (by as_aux_lemma => kernel_rfl)) k0 bel lt0) (trodAll_cons_mk (Below.trod laidOut (by as_aux_lemma => kernel_rfl) (of_decide_eq_true (by as_aux_lemma => kernel_rfl)) k1 bel lt1) trodAll_mk0)), rfl, bel.frame _, fun h => by cases h⟩

set_option maxHeartbeats 8000000 in
theorem closed : joinedFacts Try.prog 10 Try.f10 Rows.fnExactIsSimplePathSpec Rows.fnExactIsSimplePathRow = true := by
  unfold joinedFacts
  simp only [Bool.and_eq_true]
  repeat' apply And.intro
  all_goals first | with_reducible exact frMay | with_reducible exact frLifts _ rfl | with_reducible exact frMake _ rfl | (as_aux_lemma => kernel_rfl)
set_option maxHeartbeats 1000000 in
theorem over : Rows.fnExactIsSimplePathRow.holds Try.pinned (OpenSpec.ofChange Rows.fnExactIsSimplePathSpec) :=
  OpenClaim.holds_of_wide 10 Try.f10 rfl rfl rfl rfl rfl rfl rfl ⟨rfl, rfl, rfl, rfl, rfl⟩ rfl rfl rfl rfl rfl (by as_aux_lemma => kernel_rfl) Try.func10 closed
    (of_decide_eq_true (by as_aux_lemma => kernel_rfl)) (by unfold Func.isWrapper; first | (rw [if_pos (by decide +kernel)]; kernel_rfl) | (rw [if_neg (by decide +kernel)]; exact ⟨rfl, rfl⟩))
    (fun os started H enc _ => lifted os started H enc)

theorem proved : Rows.FnExactIsSimplePathSaid := over
end Go.Proofs.Ytolilkbejghocaa.fnExactIsSimplePath
