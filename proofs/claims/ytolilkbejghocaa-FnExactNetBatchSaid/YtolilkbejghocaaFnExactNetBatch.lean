/-
  FnExactNetBatchSaid: for every input the law FnExactNetBatch returns true, and its arguments read afterwards as before. No condition.
-/
import Derived.Test.YtolilkbejghocaaNetI
import Derived.Test.YtolilkbejghocaaNetS
import Derived.Test.YtolilkbejghocaaFr
namespace Go.Proofs.Ytolilkbejghocaa.fnExactNetBatch
open Go.ChangeShapes Go.WideShapes Go.ChangeAt Go.RowKit Go.Deep
open Go.ChangeMaps (open_string shut_string)
set_option linter.unusedVariables false


theorem own : ownKnob Try.prog.godebug = none := by kernel_rfl
theorem laidOut : laidOutB Try.prog = true := by kernel_rfl

set_option maxRecDepth 4000 in
set_option maxHeartbeats 8000000 in
theorem walk (W : World) (v0 : Value) (g0 : ArgBatch W v0) :
    Calls Try.prog 3 #[v0] W fun e w' => e = .returned (.bool true) ∧ Below W.heap.size W w' := by
  obtain ⟨A0, n0, c0, l0, rfl, hl0, hr0, hn0, _⟩ := g0
  obtain ⟨r0, hr0_⟩ : ∃ r, netB l0 = r := ⟨_, rfl⟩
  have HR0 := Lib.hid hr0_
  clear hr0_
  go_enter Try.func3, Try.ntmps3
  go_wp2_with fail
  have hB0 : Below W.heap.size W (W.alloc (.cells #[.slice A0 n0 c0] 24)) := (Below.refl _ _).alloc (Nat.le_refl _) _
  have kaB_0_0 : (W.alloc (.cells #[.slice A0 n0 c0] 24)).cell? ⟨W.heap.size, 0, none⟩ = some (.slice A0 n0 c0) := by go_simp
  have S0 : W.heap.size < (W.alloc (.cells #[.slice A0 n0 c0] 24)).heap.size := by simp <;> omega
  generalize (W.alloc (.cells #[.slice A0 n0 c0] 24)) = w0 at *
  have hsok1 := szI_ok (l := 1048576) (n := n0)
  have hrg1 : szI 1048576 n0 < 0 ∨ ¬ szI 1048576 n0 < 0 := by omega
  refine (szBatch_any A0 n0 c0 1048576 _ hn0 (by omega) (by omega)).mono ?_
  rintro e w1 ⟨rfl, hb1⟩
  have S1 : w0.heap.size ≤ w1.heap.size := hb1.size
  have hB1 := below_then hB0 hb1
  have kaB_0_1 := cell_keep hb1 kaB_0_0
  clear kaB_0_0 hb1
  obtain ⟨q1, hq1⟩ : ∃ q, szI 1048576 n0 = q := ⟨_, rfl⟩
  rw [hq1] at hsok1 hrg1 ⊢
  clear hq1
  rcases hrg1 with hneg | hpos
  · go_wp2
    go_ret
    exact ⟨rfl, hB1⟩
  obtain ⟨hsum1, hq1b, hq1c⟩ := hsok1 hpos
  have hq1d : q1 ≤ 1048576 := by omega
  replace hq1c := hq1d
  clear hq1d
  have GA0 : CRd W A0 n0 l0 := ⟨hl0, hr0, by omega⟩
  clear hsum1 hsok1 hn0 hl0 hr0
  go_wp2_with fail
  refine (toBatch_rd _ (GA0.up hB1)).mono ?_
  rintro e w2 ⟨X2A, rfl, O2, hb2⟩
  have S2 : w1.heap.size ≤ w2.heap.size := hb2.size
  have hB2 := below_then hB1 hb2
  have kaB_0_2 := cell_keep hb2 kaB_0_1
  clear hB1 kaB_0_1 hb2
  go_wp2_with fail
  refine (specNetBatch_is _ O2.crd).mono ?_
  rw [HR0.out]
  rintro e w3 ⟨A3_0, n3_0, c3_0, rfl, O3_0, hb3⟩
  have S3 : w2.heap.size ≤ w3.heap.size := hb3.size
  have hB3 := below_then hB2 hb3
  have kaB_0_3 := cell_keep hb3 kaB_0_2
  replace O2 := O2.below hb3
  clear hB2 kaB_0_2 hb3
  have hb4 : Below w3.heap.size w3 (w3.alloc (.cells #[.slice A3_0 n3_0 c3_0] 28)) := (Below.refl _ _).alloc (Nat.le_refl _) _
  have kw0_0_4 : (w3.alloc (.cells #[.slice A3_0 n3_0 c3_0] 28)).cell? ⟨w3.heap.size, 0, none⟩ = some (.slice A3_0 n3_0 c3_0) := by go_simp
  have S4 : w3.heap.size < (w3.alloc (.cells #[.slice A3_0 n3_0 c3_0] 28)).heap.size := by simp
  have hB4 := below_then hB3 hb4
  have kaB_0_4 := cell_keep hb4 kaB_0_3
  replace O2 := O2.below hb4
  replace O3_0 := O3_0.below hb4
  clear hB3 kaB_0_3 hb4
  clear O2
  go_wp2_with fail
  generalize (w3.alloc (.cells #[.slice A3_0 n3_0 c3_0] 28)) = w4 at *
  refine (toBatch_rd _ (GA0.up hB4)).mono ?_
  rintro e w5 ⟨X5A, rfl, O5, hb5⟩
  have S5 : w4.heap.size ≤ w5.heap.size := hb5.size
  have hB5 := below_then hB4 hb5
  have kaB_0_5 := cell_keep hb5 kaB_0_4
  have kw0_0_5 := cell_keep hb5 kw0_0_4
  replace O3_0 := O3_0.below hb5
  clear hB4 kaB_0_4 kw0_0_4 hb5
  have hb6 : Below w5.heap.size w5 (w5.alloc (.cells #[.slice X5A n0 n0] 28)) := (Below.refl _ _).alloc (Nat.le_refl _) _
  have kx0_0_6 : (w5.alloc (.cells #[.slice X5A n0 n0] 28)).cell? ⟨w5.heap.size, 0, none⟩ = some (.slice X5A n0 n0) := by go_simp
  have S6 : w5.heap.size < (w5.alloc (.cells #[.slice X5A n0 n0] 28)).heap.size := by simp
  have hB6 := below_then hB5 hb6
  have kaB_0_6 := cell_keep hb6 kaB_0_5
  have kw0_0_6 := cell_keep hb6 kw0_0_5
  replace O3_0 := O3_0.below hb6
  replace O5 := O5.below hb6
  clear hB5 kaB_0_5 kw0_0_5 hb6
  go_wp2_with fail
  generalize (w5.alloc (.cells #[.slice X5A n0 n0] 28)) = w6 at *
  refine (implNetBatch_is _ O5.crd).mono ?_
  rw [HR0.out]
  rintro e w7 ⟨A7_0, n7_0, c7_0, rfl, O7_0, hb7⟩
  have S7 : w6.heap.size ≤ w7.heap.size := hb7.size
  have hB7 := below_then hB6 hb7
  have kaB_0_7 := cell_keep hb7 kaB_0_6
  have kw0_0_7 := cell_keep hb7 kw0_0_6
  have kx0_0_7 := cell_keep hb7 kx0_0_6
  replace O3_0 := O3_0.below hb7
  replace O5 := O5.below hb7
  clear hB6 kaB_0_6 kw0_0_6 kx0_0_6 hb7
  have hb8 : Below w7.heap.size w7 (w7.alloc (.cells #[.slice A7_0 n7_0 c7_0] 28)) := (Below.refl _ _).alloc (Nat.le_refl _) _
  have kg0_0_8 : (w7.alloc (.cells #[.slice A7_0 n7_0 c7_0] 28)).cell? ⟨w7.heap.size, 0, none⟩ = some (.slice A7_0 n7_0 c7_0) := by go_simp
  have S8 : w7.heap.size < (w7.alloc (.cells #[.slice A7_0 n7_0 c7_0] 28)).heap.size := by simp
  have hB8 := below_then hB7 hb8
  have kaB_0_8 := cell_keep hb8 kaB_0_7
  have kw0_0_8 := cell_keep hb8 kw0_0_7
  have kx0_0_8 := cell_keep hb8 kx0_0_7
  replace O3_0 := O3_0.below hb8
  replace O5 := O5.below hb8
  replace O7_0 := O7_0.below hb8
  clear hB7 kaB_0_7 kw0_0_7 kx0_0_7 hb8
  go_wp2_with fail
  generalize (w7.alloc (.cells #[.slice A7_0 n7_0 c7_0] 28)) = w8 at *
  refine (eqBatch_is _ O7_0 O3_0).mono ?_
  rintro e w9 ⟨rfl, hb9⟩
  have S9 : w8.heap.size ≤ w9.heap.size := hb9.size
  have hB9 := below_then hB8 hb9
  have kaB_0_9 := cell_keep hb9 kaB_0_8
  have kw0_0_9 := cell_keep hb9 kw0_0_8
  have kx0_0_9 := cell_keep hb9 kx0_0_8
  have kg0_0_9 := cell_keep hb9 kg0_0_8
  replace O3_0 := O3_0.below hb9
  replace O5 := O5.below hb9
  replace O7_0 := O7_0.below hb9
  clear hB8 kaB_0_8 kw0_0_8 kx0_0_8 kg0_0_8 hb9
  go_wp2_with fail
  have hbD9 : Below w9.heap.size w9 w9.drew := (Below.refl _ _).drew
  have hBD9 := below_then hB9 hbD9
  have kaB_0_D9 := cell_keep hbD9 kaB_0_9
  have kw0_0_D9 := cell_keep hbD9 kw0_0_9
  have kx0_0_D9 := cell_keep hbD9 kx0_0_9
  have kg0_0_D9 := cell_keep hbD9 kg0_0_9
  replace O3_0 := O3_0.below hbD9
  replace O5 := O5.below hbD9
  replace O7_0 := O7_0.below hbD9
  go_region_held3 (fun w' => w'.cell? ⟨W.heap.size, 0, none⟩ = some (.slice A0 n0 c0) ∧ w'.cell? ⟨w3.heap.size, 0, none⟩ = some (.slice A3_0 n3_0 c3_0) ∧ w'.cell? ⟨w5.heap.size, 0, none⟩ = some (.slice X5A n0 n0) ∧ w'.cell? ⟨w7.heap.size, 0, none⟩ = some (.slice A7_0 n7_0 c7_0)) (first | exact ⟨kaB_0_D9, kw0_0_D9, kx0_0_D9, kg0_0_D9⟩ | exact ⟨kaB_0_10, kw0_0_10, kx0_0_10, kg0_0_10⟩ | exact ⟨kaB_0_11, kw0_0_11, kx0_0_11, kg0_0_11⟩) (first
      | (go_simp; go_at_call 18; refine (eqBatch_is _ O5 O10).mono ?_; rintro e w11 ⟨rfl, hb11⟩; have S11 : w10.heap.size ≤ w11.heap.size := hb11.size; have hB11 := below_then hB10 hb11; have kaB_0_11 := cell_keep hb11 kaB_0_10; have kw0_0_11 := cell_keep hb11 kw0_0_10; have kx0_0_11 := cell_keep hb11 kx0_0_10; have kg0_0_11 := cell_keep hb11 kg0_0_10; replace O3_0 := O3_0.below hb11; replace O5 := O5.below hb11; replace O7_0 := O7_0.below hb11; replace O10 := O10.below hb11; dsimp only)
      | (go_simp; go_at_call 16; refine (toBatch_rd _ (GA0.up hBD9)).mono ?_; rintro e w10 ⟨X10A, rfl, O10, hb10⟩; have S10 : w9.heap.size ≤ w10.heap.size := hb10.size; have hB10 := below_then hBD9 hb10; have kaB_0_10 := cell_keep hb10 kaB_0_D9; have kw0_0_10 := cell_keep hb10 kw0_0_D9; have kx0_0_10 := cell_keep hb10 kx0_0_D9; have kg0_0_10 := cell_keep hb10 kg0_0_D9; replace O3_0 := O3_0.below hb10; replace O5 := O5.below hb10; replace O7_0 := O7_0.below hb10; replace O10 := O10.wide (lo := w9.heap.size) (hi := w10.heap.size) (Nat.le_refl _) (Nat.le_refl _); dsimp only))
  clear hB9 kaB_0_9 kw0_0_9 kx0_0_9 kg0_0_9 hbD9 hBD9 kaB_0_D9 kw0_0_D9 kx0_0_D9 kg0_0_D9 hb10 hB10 kaB_0_10 kw0_0_10 kx0_0_10 kg0_0_10 hb11
  clear O10
  obtain ⟨y12, hy12⟩ : ∃ x : Nat, 1 + n0 * 5 = x := ⟨_, rfl⟩
  have hy12b : y12 ≤ 10000001 := by have := O5.bd; omega
  have Hy12 := Lib.hid hy12
  clear hy12
  go_wp2_with fail
  refine (markBatch_is _ 1 O5 (by omega) (by omega) (by omega)).mono ?_
  rw [Hy12.out]
  rintro e w12 ⟨rfl, MO5, t12⟩
  have S12 : w11.heap.size ≤ w12.heap.size := t12.size
  have hB12 := below_tch hB11 t12 (by omega)
  have kaB_0_12 := cell_tch t12 kaB_0_11 (.inl (by dsimp only; omega))
  have kw0_0_12 := cell_tch t12 kw0_0_11 (.inl (by dsimp only; omega))
  have kx0_0_12 := cell_tch t12 kx0_0_11 (.inr (by dsimp only; omega))
  have kg0_0_12 := cell_tch t12 kg0_0_11 (.inr (by dsimp only; omega))
  replace O3_0 := O3_0.tch t12 (.inl (by omega))
  replace O7_0 := O7_0.tch t12 (.inr (by omega))
  clear hB11 kaB_0_11 kw0_0_11 kx0_0_11 kg0_0_11 t12
  clear O5
  go_wp2_with fail
  refine (eqBatch_is _ O7_0 O3_0).mono ?_
  rintro e w13 ⟨rfl, hb13⟩
  have S13 : w12.heap.size ≤ w13.heap.size := hb13.size
  have hB13 := below_then hB12 hb13
  have kaB_0_13 := cell_keep hb13 kaB_0_12
  have kw0_0_13 := cell_keep hb13 kw0_0_12
  have kx0_0_13 := cell_keep hb13 kx0_0_12
  have kg0_0_13 := cell_keep hb13 kg0_0_12
  replace O3_0 := O3_0.below hb13
  replace O7_0 := O7_0.below hb13
  replace MO5 := MO5.below hb13
  clear hB12 kaB_0_12 kw0_0_12 kx0_0_12 kg0_0_12 hb13
  obtain ⟨y14, hy14⟩ : ∃ x : Nat, 1 + n7_0 * 5 = x := ⟨_, rfl⟩
  have hy14b : y14 ≤ 10000001 := by have := O7_0.bd; omega
  have Hy14 := Lib.hid hy14
  clear hy14
  go_wp2_with fail
  refine (markBatch_is _ 1 O7_0 (by omega) (by omega) (by omega)).mono ?_
  rw [Hy14.out]
  rintro e w14 ⟨rfl, MO7_0, t14⟩
  have S14 : w13.heap.size ≤ w14.heap.size := t14.size
  have hB14 := below_tch hB13 t14 (by omega)
  have kaB_0_14 := cell_tch t14 kaB_0_13 (.inl (by dsimp only; omega))
  have kw0_0_14 := cell_tch t14 kw0_0_13 (.inl (by dsimp only; omega))
  have kx0_0_14 := cell_tch t14 kx0_0_13 (.inl (by dsimp only; omega))
  have kg0_0_14 := cell_tch t14 kg0_0_13 (.inr (by dsimp only; omega))
  replace O3_0 := O3_0.tch t14 (.inl (by omega))
  replace MO5 := MO5.tch t14 (.inl (by omega))
  clear hB13 kaB_0_13 kw0_0_13 kx0_0_13 kg0_0_13 t14
  clear O7_0
  go_wp2_with fail
  refine (heldBatch_is _ 1 MO7_0 (by omega)).mono ?_
  rw [Hy14.out]
  rintro e w15 ⟨rfl, hb15⟩
  have S15 : w14.heap.size ≤ w15.heap.size := hb15.size
  have hB15 := below_then hB14 hb15
  have kaB_0_15 := cell_keep hb15 kaB_0_14
  have kw0_0_15 := cell_keep hb15 kw0_0_14
  have kx0_0_15 := cell_keep hb15 kx0_0_14
  have kg0_0_15 := cell_keep hb15 kg0_0_14
  replace O3_0 := O3_0.below hb15
  replace MO5 := MO5.below hb15
  replace MO7_0 := MO7_0.below hb15
  clear hB14 kaB_0_14 kw0_0_14 kx0_0_14 kg0_0_14 hb15
  go_wp2_with fail
  refine (toBatch_rd _ (GA0.up hB15)).mono ?_
  rintro e w16 ⟨X16A, rfl, O16, hb16⟩
  have S16 : w15.heap.size ≤ w16.heap.size := hb16.size
  have hB16 := below_then hB15 hb16
  have kaB_0_16 := cell_keep hb16 kaB_0_15
  have kw0_0_16 := cell_keep hb16 kw0_0_15
  have kx0_0_16 := cell_keep hb16 kx0_0_15
  have kg0_0_16 := cell_keep hb16 kg0_0_15
  replace O3_0 := O3_0.below hb16
  replace MO5 := MO5.below hb16
  replace MO7_0 := MO7_0.below hb16
  clear hB15 kaB_0_15 kw0_0_15 kx0_0_15 kg0_0_15 hb16
  go_wp2_with fail
  refine (implNetBatch_is _ O16.crd).mono ?_
  rw [HR0.out]
  rintro e w17 ⟨A17_0, n17_0, c17_0, rfl, O17_0, hb17⟩
  have S17 : w16.heap.size ≤ w17.heap.size := hb17.size
  have hB17 := below_then hB16 hb17
  have kaB_0_17 := cell_keep hb17 kaB_0_16
  have kw0_0_17 := cell_keep hb17 kw0_0_16
  have kx0_0_17 := cell_keep hb17 kx0_0_16
  have kg0_0_17 := cell_keep hb17 kg0_0_16
  replace O3_0 := O3_0.below hb17
  replace MO5 := MO5.below hb17
  replace MO7_0 := MO7_0.below hb17
  replace O16 := O16.below hb17
  clear hB16 kaB_0_16 kw0_0_16 kx0_0_16 kg0_0_16 hb17
  have hb18 : Below w17.heap.size w17 (w17.alloc (.cells #[.slice A17_0 n17_0 c17_0] 28)) := (Below.refl _ _).alloc (Nat.le_refl _) _
  have kh0_0_18 : (w17.alloc (.cells #[.slice A17_0 n17_0 c17_0] 28)).cell? ⟨w17.heap.size, 0, none⟩ = some (.slice A17_0 n17_0 c17_0) := by go_simp
  have S18 : w17.heap.size < (w17.alloc (.cells #[.slice A17_0 n17_0 c17_0] 28)).heap.size := by simp
  have hB18 := below_then hB17 hb18
  have kaB_0_18 := cell_keep hb18 kaB_0_17
  have kw0_0_18 := cell_keep hb18 kw0_0_17
  have kx0_0_18 := cell_keep hb18 kx0_0_17
  have kg0_0_18 := cell_keep hb18 kg0_0_17
  replace O3_0 := O3_0.below hb18
  replace MO5 := MO5.below hb18
  replace MO7_0 := MO7_0.below hb18
  replace O16 := O16.below hb18
  replace O17_0 := O17_0.below hb18
  clear hB17 kaB_0_17 kw0_0_17 kx0_0_17 kg0_0_17 hb18
  clear O16
  go_wp2_with fail
  generalize (w17.alloc (.cells #[.slice A17_0 n17_0 c17_0] 28)) = w18 at *
  refine (eqBatch_is _ O17_0 O3_0).mono ?_
  rintro e w19 ⟨rfl, hb19⟩
  have S19 : w18.heap.size ≤ w19.heap.size := hb19.size
  have hB19 := below_then hB18 hb19
  have kaB_0_19 := cell_keep hb19 kaB_0_18
  have kw0_0_19 := cell_keep hb19 kw0_0_18
  have kx0_0_19 := cell_keep hb19 kx0_0_18
  have kg0_0_19 := cell_keep hb19 kg0_0_18
  have kh0_0_19 := cell_keep hb19 kh0_0_18
  replace O3_0 := O3_0.below hb19
  replace MO5 := MO5.below hb19
  replace MO7_0 := MO7_0.below hb19
  replace O17_0 := O17_0.below hb19
  clear hB18 kaB_0_18 kw0_0_18 kx0_0_18 kg0_0_18 kh0_0_18 hb19
  go_wp2_with fail
  refine (heldBatch_is _ 1 MO7_0 (by omega)).mono ?_
  rw [Hy14.out]
  rintro e w20 ⟨rfl, hb20⟩
  have S20 : w19.heap.size ≤ w20.heap.size := hb20.size
  have hB20 := below_then hB19 hb20
  have kaB_0_20 := cell_keep hb20 kaB_0_19
  have kw0_0_20 := cell_keep hb20 kw0_0_19
  have kx0_0_20 := cell_keep hb20 kx0_0_19
  have kg0_0_20 := cell_keep hb20 kg0_0_19
  have kh0_0_20 := cell_keep hb20 kh0_0_19
  replace O3_0 := O3_0.below hb20
  replace MO5 := MO5.below hb20
  replace MO7_0 := MO7_0.below hb20
  replace O17_0 := O17_0.below hb20
  clear hB19 kaB_0_19 kw0_0_19 kx0_0_19 kg0_0_19 kh0_0_19 hb20
  all_goals
    go_wp2
    go_ret
    exact ⟨rfl, hB20⟩

set_option maxRecDepth 100000 in
theorem lifted (os : Os) (started : os.Started) (H : Type) (enc : TypeId × Value → H) :
    ReturnsInHanded {} Try.checked os 3 .any (Rows.fnExactNetBatchSpec.pre6 enc Try.prog Try.f3 Rows.fnExactNetBatchRow.domain false) (Rows.fnExactNetBatchSpec.post enc Try.prog Try.f3 false true false false) := by
  refine returnsInHanded_of_change (C := Try.checked) own started (by as_aux_lemma => kernel_rfl) Try.func3
    (ChangeSpec.witness6 (enc := enc) (C := Try.checked) false ⟨#[], #[.agg #[.slice none 0 0]], []⟩ 8 (by as_aux_lemma => kernel_rfl) (by as_aux_lemma => kernel_rfl) (by as_aux_lemma => kernel_rfl) (by as_aux_lemma => kernel_rfl)) ?_
  intro W base args ds gs before hval0 hW hcnd _
  have hval : ∀ (j : Nat) t v, Try.f3.params[j]? = some t → args[j]? = some v → Value.okWide Try.prog W .any base t v := hval0
  have hW' := hW
  obtain ⟨p, q, hA0, hV, rfl, hfz, hnd⟩ := hW
  have hA : DataW.TrodAll enc Try.prog W 0 (fun _ => true) true Try.f3.params.toList args.toList ds p := hA0
  rw [Try.params3] at hA hval
  obtain ⟨v0, vs0, d0, ds0, p0, q0, hargs, rfl, rfl, h0, r0⟩ := trodAll_cons hA
  obtain ⟨rfl, rfl, rfl⟩ := trodAll_nil r0
  obtain rfl : args = #[v0] := by cases args; simp_all
  obtain ⟨rfl, rfl⟩ := trodVars_none hV
  have k0 := h0
  have lt0 : ∀ x ∈ p0, x.block < W.heap.size := by obtain ⟨m, hm⟩ := k0; exact DataW.trod_lt m _ _ _ hm
  have g0 := argBatch (hval 0 24 v0 rfl rfl) h0
  clear hA0 hval0
  refine (walk W v0 g0).mono fun e W' ⟨he, bel⟩ => ?_
  subst he
  exact ⟨_, rfl, _, _, _, [], _, [], hW', trodAll_mk1 (shut_bool Try.underlying4 _), (trodAll_cons_mk (Below.trod laidOut (by as_aux_lemma => kernel_rfl) (of_decide_eq_true (by as_aux_lemma => kernel_rfl)) k0 bel lt0) trodAll_mk0), rfl, bel.frame _, fun h => by cases h⟩

set_option maxHeartbeats 8000000 in
theorem closed : joinedFacts Try.prog 3 Try.f3 Rows.fnExactNetBatchSpec Rows.fnExactNetBatchRow = true := by
  unfold joinedFacts
  simp only [Bool.and_eq_true]
  repeat' apply And.intro
  all_goals first | with_reducible exact frMay | with_reducible exact frLifts _ rfl | with_reducible exact frMake _ rfl | (as_aux_lemma => kernel_rfl)
set_option maxHeartbeats 1000000 in
theorem over : Rows.fnExactNetBatchRow.holds Try.pinned (OpenSpec.ofChange Rows.fnExactNetBatchSpec) :=
  OpenClaim.holds_of_wide 3 Try.f3 rfl rfl rfl rfl rfl rfl rfl ⟨rfl, rfl, rfl, rfl, rfl⟩ rfl rfl rfl rfl rfl (by as_aux_lemma => kernel_rfl) Try.func3 closed
    (of_decide_eq_true (by as_aux_lemma => kernel_rfl)) (by unfold Func.isWrapper; first | (rw [if_pos (by decide +kernel)]; kernel_rfl) | (rw [if_neg (by decide +kernel)]; exact ⟨rfl, rfl⟩))
    (fun os started H enc _ => lifted os started H enc)

theorem proved : Rows.FnExactNetBatchSaid := over
end Go.Proofs.Ytolilkbejghocaa.fnExactNetBatch
