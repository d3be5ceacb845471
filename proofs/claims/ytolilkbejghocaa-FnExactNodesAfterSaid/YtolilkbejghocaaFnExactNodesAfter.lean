/-
  FnExactNodesAfterSaid: for every input the law FnExactNodesAfter returns true, and its arguments read afterwards as before. No condition.
-/
import Derived.Test.YtolilkbejghocaaNod2
import Derived.Test.YtolilkbejghocaaFr
namespace Go.Proofs.Ytolilkbejghocaa.fnExactNodesAfter
open Go.ChangeShapes Go.WideShapes Go.ChangeAt Go.RowKit Go.Deep
open Go.ChangeMaps (open_string shut_string)
set_option linter.unusedVariables false


theorem own : ownKnob Try.prog.godebug = none := by kernel_rfl
theorem laidOut : laidOutB Try.prog = true := by kernel_rfl

set_option maxRecDepth 4000 in
set_option maxHeartbeats 8000000 in
theorem walk (W : World) (v0 : Value) (g0 : ArgGraph W v0) (a1 : Int) (w1 : (Lit.int .i64 a1).wf = true) (a2 : Int) (w2 : (Lit.int .i64 a2).wf = true) :
    Calls Try.prog 11 #[v0, .int .i64 a1, .int .i64 a2] W fun e w' => e = .returned (.bool true) ∧ Below W.heap.size W w' := by
  obtain ⟨A0, B0, n0, c0, m0, d0, g0, rfl, hg0, hn0, hm0, _, _⟩ := g0
  obtain ⟨r0, hr0_⟩ : ∃ r, afterZ g0 a1 a2 = r := ⟨_, rfl⟩
  have HR0 := Lib.hid hr0_
  clear hr0_
  go_enter Try.func11, Try.ntmps11
  go_wp2_with fail
  have hB0 : Below W.heap.size W (W.alloc (.cells #[.slice A0 n0 c0, .slice B0 m0 d0] 49)) := (Below.refl _ _).alloc (Nat.le_refl _) _
  have kaG_0_0 : (W.alloc (.cells #[.slice A0 n0 c0, .slice B0 m0 d0] 49)).cell? ⟨W.heap.size, 0, none⟩ = some (.slice A0 n0 c0) := by go_simp
  have kaG_1_0 : (W.alloc (.cells #[.slice A0 n0 c0, .slice B0 m0 d0] 49)).cell? ⟨W.heap.size, 1, none⟩ = some (.slice B0 m0 d0) := by go_simp
  have S0 : W.heap.size < (W.alloc (.cells #[.slice A0 n0 c0, .slice B0 m0 d0] 49)).heap.size := by simp <;> omega
  generalize (W.alloc (.cells #[.slice A0 n0 c0, .slice B0 m0 d0] 49)) = w0 at *
  have hsok1 := szG_ok3 (l := 1048576) (n := n0) (m := m0)
  have hrg1 : szG 1048576 n0 m0 < 0 ∨ ¬ szG 1048576 n0 m0 < 0 := by omega
  refine (szGraph_any A0 B0 n0 c0 m0 d0 1048576 _ hn0 hm0 (by omega) (by omega)).mono ?_
  rintro e w1 ⟨rfl, hb1⟩
  have S1 : w0.heap.size ≤ w1.heap.size := hb1.size
  have hB1 := below_then hB0 hb1
  have kaG_0_1 := cell_keep hb1 kaG_0_0
  have kaG_1_1 := cell_keep hb1 kaG_1_0
  clear kaG_0_0 kaG_1_0 hb1
  obtain ⟨q1, hq1⟩ : ∃ q, szG 1048576 n0 m0 = q := ⟨_, rfl⟩
  rw [hq1] at hsok1 hrg1 ⊢
  clear hq1
  rcases hrg1 with hneg | hpos
  · go_wp2
    go_ret
    exact ⟨rfl, hB1⟩
  obtain ⟨hsum1, hq1b, hq1c⟩ := hsok1 hpos
  have hq1d : q1 ≤ 1048576 := by omega
  replace hq1c := hq1d
  clear hq1d
  have GA0 : GRd W A0 n0 B0 m0 g0 := ⟨hg0, by omega, by omega⟩
  clear hsum1 hsok1 hn0 hm0 hg0
  go_wp2_with fail
  refine (toGraph_rd _ (GA0.up hB1)).mono ?_
  rintro e w2 ⟨X2A, X2B, rfl, O2, hb2⟩
  have S2 : w1.heap.size ≤ w2.heap.size := hb2.size
  have hB2 := below_then hB1 hb2
  have kaG_0_2 := cell_keep hb2 kaG_0_1
  have kaG_1_2 := cell_keep hb2 kaG_1_1
  clear hB1 kaG_0_1 kaG_1_1 hb2
  go_wp2_with fail
  refine (specNodesAfter_is _ O2.grd a1 a2).mono ?_
  rw [HR0.out]
  rintro e w3 ⟨A3_0, n3_0, c3_0, rfl, O3_0, hb3⟩
  have S3 : w2.heap.size ≤ w3.heap.size := hb3.size
  have hB3 := below_then hB2 hb3
  have kaG_0_3 := cell_keep hb3 kaG_0_2
  have kaG_1_3 := cell_keep hb3 kaG_1_2
  replace O2 := O2.below hb3
  clear hB2 kaG_0_2 kaG_1_2 hb3
  clear O2
  go_wp2_with fail
  refine (toGraph_rd _ (GA0.up hB3)).mono ?_
  rintro e w4 ⟨X4A, X4B, rfl, O4, hb4⟩
  have S4 : w3.heap.size ≤ w4.heap.size := hb4.size
  have hB4 := below_then hB3 hb4
  have kaG_0_4 := cell_keep hb4 kaG_0_3
  have kaG_1_4 := cell_keep hb4 kaG_1_3
  replace O3_0 := O3_0.below hb4
  clear hB3 kaG_0_3 kaG_1_3 hb4
  have hb5 : Below w4.heap.size w4 (w4.alloc (.cells #[.slice X4A n0 n0, .slice X4B m0 m0] 53)) := (Below.refl _ _).alloc (Nat.le_refl _) _
  have kx0_0_5 : (w4.alloc (.cells #[.slice X4A n0 n0, .slice X4B m0 m0] 53)).cell? ⟨w4.heap.size, 0, none⟩ = some (.slice X4A n0 n0) := by go_simp
  have kx0_1_5 : (w4.alloc (.cells #[.slice X4A n0 n0, .slice X4B m0 m0] 53)).cell? ⟨w4.heap.size, 1, none⟩ = some (.slice X4B m0 m0) := by go_simp
  have S5 : w4.heap.size < (w4.alloc (.cells #[.slice X4A n0 n0, .slice X4B m0 m0] 53)).heap.size := by simp
  have hB5 := below_then hB4 hb5
  have kaG_0_5 := cell_keep hb5 kaG_0_4
  have kaG_1_5 := cell_keep hb5 kaG_1_4
  replace O3_0 := O3_0.below hb5
  replace O4 := O4.below hb5
  clear hB4 kaG_0_4 kaG_1_4 hb5
  go_wp2_with fail
  generalize (w4.alloc (.cells #[.slice X4A n0 n0, .slice X4B m0 m0] 53)) = w5 at *
  refine (implNodesAfter_is _ O4.grd a1 a2).mono ?_
  rw [HR0.out]
  rintro e w6 ⟨A6_0, n6_0, c6_0, rfl, O6_0, hb6⟩
  have S6 : w5.heap.size ≤ w6.heap.size := hb6.size
  have hB6 := below_then hB5 hb6
  have kaG_0_6 := cell_keep hb6 kaG_0_5
  have kaG_1_6 := cell_keep hb6 kaG_1_5
  have kx0_0_6 := cell_keep hb6 kx0_0_5
  have kx0_1_6 := cell_keep hb6 kx0_1_5
  replace O3_0 := O3_0.below hb6
  replace O4 := O4.below hb6
  clear hB5 kaG_0_5 kaG_1_5 kx0_0_5 kx0_1_5 hb6
  go_wp2_with fail
  refine (eqInts_is _ O6_0 O3_0).mono ?_
  rintro e w7 ⟨rfl, hb7⟩
  have S7 : w6.heap.size ≤ w7.heap.size := hb7.size
  have hB7 := below_then hB6 hb7
  have kaG_0_7 := cell_keep hb7 kaG_0_6
  have kaG_1_7 := cell_keep hb7 kaG_1_6
  have kx0_0_7 := cell_keep hb7 kx0_0_6
  have kx0_1_7 := cell_keep hb7 kx0_1_6
  replace O3_0 := O3_0.below hb7
  replace O4 := O4.below hb7
  replace O6_0 := O6_0.below hb7
  clear hB6 kaG_0_6 kaG_1_6 kx0_0_6 kx0_1_6 hb7
  go_wp2_with fail
  have hbD7 : Below w7.heap.size w7 w7.drew := (Below.refl _ _).drew
  have hBD7 := below_then hB7 hbD7
  have kaG_0_D7 := cell_keep hbD7 kaG_0_7
  have kaG_1_D7 := cell_keep hbD7 kaG_1_7
  have kx0_0_D7 := cell_keep hbD7 kx0_0_7
  have kx0_1_D7 := cell_keep hbD7 kx0_1_7
  replace O3_0 := O3_0.below hbD7
  replace O4 := O4.below hbD7
  replace O6_0 := O6_0.below hbD7
  go_region_held3 (fun w' => w'.cell? ⟨W.heap.size, 0, none⟩ = some (.slice A0 n0 c0) ∧ w'.cell? ⟨W.heap.size, 1, none⟩ = some (.slice B0 m0 d0) ∧ w'.cell? ⟨w4.heap.size, 0, none⟩ = some (.slice X4A n0 n0) ∧ w'.cell? ⟨w4.heap.size, 1, none⟩ = some (.slice X4B m0 m0)) (first | exact ⟨kaG_0_D7, kaG_1_D7, kx0_0_D7, kx0_1_D7⟩ | exact ⟨kaG_0_8, kaG_1_8, kx0_0_8, kx0_1_8⟩ | exact ⟨kaG_0_9, kaG_1_9, kx0_0_9, kx0_1_9⟩) (first
      | (go_simp; go_at_call 32; refine (eqGraph_is _ O4 O8).mono ?_; rintro e w9 ⟨rfl, hb9⟩; have S9 : w8.heap.size ≤ w9.heap.size := hb9.size; have hB9 := below_then hB8 hb9; have kaG_0_9 := cell_keep hb9 kaG_0_8; have kaG_1_9 := cell_keep hb9 kaG_1_8; have kx0_0_9 := cell_keep hb9 kx0_0_8; have kx0_1_9 := cell_keep hb9 kx0_1_8; replace O3_0 := O3_0.below hb9; replace O4 := O4.below hb9; replace O6_0 := O6_0.below hb9; replace O8 := O8.below hb9; dsimp only)
      | (go_simp; go_at_call 30; refine (toGraph_rd _ (GA0.up hBD7)).mono ?_; rintro e w8 ⟨X8A, X8B, rfl, O8, hb8⟩; have S8 : w7.heap.size ≤ w8.heap.size := hb8.size; have hB8 := below_then hBD7 hb8; have kaG_0_8 := cell_keep hb8 kaG_0_D7; have kaG_1_8 := cell_keep hb8 kaG_1_D7; have kx0_0_8 := cell_keep hb8 kx0_0_D7; have kx0_1_8 := cell_keep hb8 kx0_1_D7; replace O3_0 := O3_0.below hb8; replace O4 := O4.below hb8; replace O6_0 := O6_0.below hb8; replace O8 := O8.wide (lo := w7.heap.size) (hi := w8.heap.size) (Nat.le_refl _) (Nat.le_refl _); dsimp only))
  clear hB7 kaG_0_7 kaG_1_7 kx0_0_7 kx0_1_7 hbD7 hBD7 kaG_0_D7 kaG_1_D7 kx0_0_D7 kx0_1_D7 hb8 hB8 kaG_0_8 kaG_1_8 kx0_0_8 kx0_1_8 hb9
  clear O8
  obtain ⟨y10, hy10⟩ : ∃ x : Nat, 1 + n0 + m0 * 4 = x := ⟨_, rfl⟩
  have hy10b : y10 ≤ 10000001 := by have := O4.ou.bd; have := O4.ov.bd; omega
  have Hy10 := Lib.hid hy10
  clear hy10
  go_wp2_with fail
  refine (markGraph_is _ 1 O4 (by omega) (by omega) (by omega)).mono ?_
  rw [Hy10.out]
  rintro e w10 ⟨rfl, MO4, t10⟩
  have S10 : w9.heap.size ≤ w10.heap.size := t10.size
  have hB10 := below_tch hB9 t10 (by omega)
  have kaG_0_10 := cell_tch t10 kaG_0_9 (.inl (by dsimp only; omega))
  have kaG_1_10 := cell_tch t10 kaG_1_9 (.inl (by dsimp only; omega))
  have kx0_0_10 := cell_tch t10 kx0_0_9 (.inr (by dsimp only; omega))
  have kx0_1_10 := cell_tch t10 kx0_1_9 (.inr (by dsimp only; omega))
  replace O3_0 := O3_0.tch t10 (.inl (by omega))
  replace O6_0 := O6_0.tch t10 (.inr (by omega))
  clear hB9 kaG_0_9 kaG_1_9 kx0_0_9 kx0_1_9 t10
  clear O4
  go_wp2_with fail
  refine (eqInts_is _ O6_0 O3_0).mono ?_
  rintro e w11 ⟨rfl, hb11⟩
  have S11 : w10.heap.size ≤ w11.heap.size := hb11.size
  have hB11 := below_then hB10 hb11
  have kaG_0_11 := cell_keep hb11 kaG_0_10
  have kaG_1_11 := cell_keep hb11 kaG_1_10
  have kx0_0_11 := cell_keep hb11 kx0_0_10
  have kx0_1_11 := cell_keep hb11 kx0_1_10
  replace O3_0 := O3_0.below hb11
  replace O6_0 := O6_0.below hb11
  replace MO4 := MO4.below hb11
  clear hB10 kaG_0_10 kaG_1_10 kx0_0_10 kx0_1_10 hb11
  obtain ⟨y12, hy12⟩ : ∃ x : Nat, 1 + n6_0 = x := ⟨_, rfl⟩
  have hy12b : y12 ≤ 10000001 := by have := O6_0.bd; omega
  have Hy12 := Lib.hid hy12
  clear hy12
  go_wp2_with fail
  refine (markInts_is _ 1 O6_0 (by omega) (by omega) (by omega)).mono ?_
  rw [Hy12.out]
  rintro e w12 ⟨rfl, MO6_0, t12⟩
  have S12 : w11.heap.size ≤ w12.heap.size := t12.size
  have hB12 := below_tch hB11 t12 (by omega)
  have kaG_0_12 := cell_tch t12 kaG_0_11 (.inl (by dsimp only; omega))
  have kaG_1_12 := cell_tch t12 kaG_1_11 (.inl (by dsimp only; omega))
  have kx0_0_12 := cell_tch t12 kx0_0_11 (.inl (by dsimp only; omega))
  have kx0_1_12 := cell_tch t12 kx0_1_11 (.inl (by dsimp only; omega))
  replace O3_0 := O3_0.tch t12 (.inl (by omega))
  replace MO4 := MO4.tch t12 (.inl (by omega))
  clear hB11 kaG_0_11 kaG_1_11 kx0_0_11 kx0_1_11 t12
  clear O6_0
  go_wp2_with fail
  refine (heldInts_is _ 1 MO6_0 (by omega)).mono ?_
  rw [Hy12.out]
  rintro e w13 ⟨rfl, hb13⟩
  have S13 : w12.heap.size ≤ w13.heap.size := hb13.size
  have hB13 := below_then hB12 hb13
  have kaG_0_13 := cell_keep hb13 kaG_0_12
  have kaG_1_13 := cell_keep hb13 kaG_1_12
  have kx0_0_13 := cell_keep hb13 kx0_0_12
  have kx0_1_13 := cell_keep hb13 kx0_1_12
  replace O3_0 := O3_0.below hb13
  replace MO4 := MO4.below hb13
  replace MO6_0 := MO6_0.below hb13
  clear hB12 kaG_0_12 kaG_1_12 kx0_0_12 kx0_1_12 hb13
  go_wp2_with fail
  refine (toGraph_rd _ (GA0.up hB13)).mono ?_
  rintro e w14 ⟨X14A, X14B, rfl, O14, hb14⟩
  have S14 : w13.heap.size ≤ w14.heap.size := hb14.size
  have hB14 := below_then hB13 hb14
  have kaG_0_14 := cell_keep hb14 kaG_0_13
  have kaG_1_14 := cell_keep hb14 kaG_1_13
  have kx0_0_14 := cell_keep hb14 kx0_0_13
  have kx0_1_14 := cell_keep hb14 kx0_1_13
  replace O3_0 := O3_0.below hb14
  replace MO4 := MO4.below hb14
  replace MO6_0 := MO6_0.below hb14
  clear hB13 kaG_0_13 kaG_1_13 kx0_0_13 kx0_1_13 hb14
  go_wp2_with fail
  refine (implNodesAfter_is _ O14.grd a1 a2).mono ?_
  rw [HR0.out]
  rintro e w15 ⟨A15_0, n15_0, c15_0, rfl, O15_0, hb15⟩
  have S15 : w14.heap.size ≤ w15.heap.size := hb15.size
  have hB15 := below_then hB14 hb15
  have kaG_0_15 := cell_keep hb15 kaG_0_14
  have kaG_1_15 := cell_keep hb15 kaG_1_14
  have kx0_0_15 := cell_keep hb15 kx0_0_14
  have kx0_1_15 := cell_keep hb15 kx0_1_14
  replace O3_0 := O3_0.below hb15
  replace MO4 := MO4.below hb15
  replace MO6_0 := MO6_0.below hb15
  replace O14 := O14.below hb15
  clear hB14 kaG_0_14 kaG_1_14 kx0_0_14 kx0_1_14 hb15
  clear O14
  go_wp2_with fail
  refine (eqInts_is _ O15_0 O3_0).mono ?_
  rintro e w16 ⟨rfl, hb16⟩
  have S16 : w15.heap.size ≤ w16.heap.size := hb16.size
  have hB16 := below_then hB15 hb16
  have kaG_0_16 := cell_keep hb16 kaG_0_15
  have kaG_1_16 := cell_keep hb16 kaG_1_15
  have kx0_0_16 := cell_keep hb16 kx0_0_15
  have kx0_1_16 := cell_keep hb16 kx0_1_15
  replace O3_0 := O3_0.below hb16
  replace MO4 := MO4.below hb16
  replace MO6_0 := MO6_0.below hb16
  replace O15_0 := O15_0.below hb16
  clear hB15 kaG_0_15 kaG_1_15 kx0_0_15 kx0_1_15 hb16
  go_wp2_with fail
  refine (heldInts_is _ 1 MO6_0 (by omega)).mono ?_
  rw [Hy12.out]
  rintro e w17 ⟨rfl, hb17⟩
  have S17 : w16.heap.size ≤ w17.heap.size := hb17.size
  have hB17 := below_then hB16 hb17
  have kaG_0_17 := cell_keep hb17 kaG_0_16
  have kaG_1_17 := cell_keep hb17 kaG_1_16
  have kx0_0_17 := cell_keep hb17 kx0_0_16
  have kx0_1_17 := cell_keep hb17 kx0_1_16
  replace O3_0 := O3_0.below hb17
  replace MO4 := MO4.below hb17
  replace MO6_0 := MO6_0.below hb17
  replace O15_0 := O15_0.below hb17
  clear hB16 kaG_0_16 kaG_1_16 kx0_0_16 kx0_1_16 hb17
  all_goals
    go_wp2
    go_ret
    exact ⟨rfl, hB17⟩

set_option maxRecDepth 100000 in
theorem lifted (os : Os) (started : os.Started) (H : Type) (enc : TypeId × Value → H) :
    ReturnsInHanded {} Try.checked os 11 .any (Rows.fnExactNodesAfterSpec.pre6 enc Try.prog Try.f11 Rows.fnExactNodesAfterRow.domain false) (Rows.fnExactNodesAfterSpec.post enc Try.prog Try.f11 false true false false) := by
  refine returnsInHanded_of_change (C := Try.checked) own started (by as_aux_lemma => kernel_rfl) Try.func11
    (ChangeSpec.witness6 (enc := enc) (C := Try.checked) false ⟨#[], #[.agg #[.slice none 0 0, .slice none 0 0], .int .i64 0, .int .i64 0], []⟩ 8 (by as_aux_lemma => kernel_rfl) (by as_aux_lemma => kernel_rfl) (by as_aux_lemma => kernel_rfl) (by as_aux_lemma => kernel_rfl)) ?_
  intro W base args ds gs before hval0 hW hcnd _
  have hval : ∀ (j : Nat) t v, Try.f11.params[j]? = some t → args[j]? = some v → Value.okWide Try.prog W .any base t v := hval0
  have hW' := hW
  obtain ⟨p, q, hA0, hV, rfl, hfz, hnd⟩ := hW
  have hA : DataW.TrodAll enc Try.prog W 0 (fun _ => true) true Try.f11.params.toList args.toList ds p := hA0
  rw [Try.params11] at hA hval
  obtain ⟨v0, vs0, d0, ds0, p0, q0, hargs, rfl, rfl, h0, r0⟩ := trodAll_cons hA
  obtain ⟨v1, vs1, d1, ds1, p1, q1, rfl, rfl, rfl, h1, r1⟩ := trodAll_cons r0
  obtain ⟨v2, vs2, d2, ds2, p2, q2, rfl, rfl, rfl, h2, r2⟩ := trodAll_cons r1
  obtain ⟨rfl, rfl, rfl⟩ := trodAll_nil r2
  obtain rfl : args = #[v0, v1, v2] := by cases args; simp_all
  obtain ⟨rfl, rfl⟩ := trodVars_none hV
  have k0 := h0
  have lt0 : ∀ x ∈ p0, x.block < W.heap.size := by obtain ⟨m, hm⟩ := k0; exact DataW.trod_lt m _ _ _ hm
  have g0 := argGraph (hval 0 49 v0 rfl rfl) h0
  have k1 := h1
  have lt1 : ∀ x ∈ p1, x.block < W.heap.size := by obtain ⟨m, hm⟩ := k1; exact DataW.trod_lt m _ _ _ hm
  obtain ⟨a1, rfl, rfl, rfl, w1⟩ := open_int Try.underlying3 (hval 1 3 v1 rfl rfl) h1
  have k2 := h2
  have lt2 : ∀ x ∈ p2, x.block < W.heap.size := by obtain ⟨m, hm⟩ := k2; exact DataW.trod_lt m _ _ _ hm
  obtain ⟨a2, rfl, rfl, rfl, w2⟩ := open_int Try.underlying3 (hval 2 3 v2 rfl rfl) h2
  clear hA0 hval0
  refine (walk W v0 g0 a1 w1 a2 w2).mono fun e W' ⟨he, bel⟩ => ?_
  subst he
  exact ⟨_, rfl, _, _, _, [], _, [], hW', trodAll_mk1 (shut_bool Try.underlying4 _), (trodAll_cons_mk (Below.trod laidOut (by as_aux_lemma => kernel_rfl) (of_decide_eq_true (by as_aux_lemma => kernel_rfl)) k0 bel lt0) (trodAll_cons_mk (Below.trod laidOut (by as_aux_lemma => kernel_rfl) (of_decide_eq_true (by as_aux_lemma => kernel_rfl)) k1 bel lt1) (trodAll_cons_mk (Below.trod laidOut (by as_aux_lemma => kernel_rfl) (of_decide_eq_true (by as_aux_lemma => kernel_rfl)) k2 bel lt2) trodAll_mk0))), rfl, bel.frame _, fun h => by cases h⟩

set_option maxHeartbeats 8000000 in
theorem closed : joinedFacts Try.prog 11 Try.f11 Rows.fnExactNodesAfterSpec Rows.fnExactNodesAfterRow = true := by
  unfold joinedFacts
  simp only [Bool.and_eq_true]
  repeat' apply And.intro
  all_goals first | with_reducible exact frMay | with_reducible exact frLifts _ rfl | with_reducible exact frMake _ rfl | (as_aux_lemma => kernel_rfl)
set_option maxHeartbeats 1000000 in
theorem over : Rows.fnExactNodesAfterRow.holds Try.pinned (OpenSpec.ofChange Rows.fnExactNodesAfterSpec) :=
  OpenClaim.holds_of_wide 11 Try.f11 rfl rfl rfl rfl rfl rfl rfl ⟨rfl, rfl, rfl, rfl, rfl⟩ rfl rfl rfl rfl rfl (by as_aux_lemma => kernel_rfl) Try.func11 closed
    (of_decide_eq_true (by as_aux_lemma => kernel_rfl)) (by unfold Func.isWrapper; first | (rw [if_pos (by decide +kernel)]; kernel_rfl) | (rw [if_neg (by decide +kernel)]; exact ⟨rfl, rfl⟩))
    (fun os started H enc _ => lifted os started H enc)

theorem proved : Rows.FnExactNodesAfterSaid := over
end Go.Proofs.Ytolilkbejghocaa.fnExactNodesAfter
