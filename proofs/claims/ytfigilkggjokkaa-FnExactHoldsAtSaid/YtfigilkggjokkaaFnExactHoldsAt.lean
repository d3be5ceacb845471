/-
  FnExactHoldsAtSaid: for every input the law FnExactHoldsAt returns true, and its arguments read afterwards as before. No condition.
-/
import Derived.Test.YtfigilkggjokkaaHoldA
import Derived.Test.YtfigilkggjokkaaFr
namespace Go.Proofs.Ytfigilkggjokkaa.fnExactHoldsAt
open Go.ChangeShapes Go.WideShapes Go.ChangeAt Go.RowKit Go.Deep
open Go.ChangeMaps (open_string shut_string)
set_option linter.unusedVariables false


theorem own : ownKnob Try.prog.godebug = none := by kernel_rfl
theorem laidOut : laidOutB Try.prog = true := by kernel_rfl

set_option maxRecDepth 4000 in
set_option maxHeartbeats 8000000 in
theorem walk (W : World) (v0 : Value) (g0 : ArgGraph W v0) (a1 : Int) (w1 : (Lit.int .i64 a1).wf = true) (a2 : Int) (w2 : (Lit.int .i64 a2).wf = true) :
    Calls Try.prog 10 #[v0, .int .i64 a1, .int .i64 a2] W fun e w' => e = .returned (.bool true) ∧ Below W.heap.size W w' := by
  obtain ⟨A0, B0, n0, c0, m0, d0, g0, rfl, hg0, hn0, hm0, _, _⟩ := g0
  obtain ⟨r0, hr0_⟩ : ∃ r, holdsB g0 a1 a2 = r := ⟨_, rfl⟩
  have HR0 := Lib.hid hr0_
  clear hr0_
  go_enter Try.func10, Try.ntmps10
  go_wp2_with fail
  have hB0 : Below W.heap.size W (W.alloc (.cells #[.slice A0 n0 c0, .slice B0 m0 d0] 40)) := (Below.refl _ _).alloc (Nat.le_refl _) _
  have kaG_0_0 : (W.alloc (.cells #[.slice A0 n0 c0, .slice B0 m0 d0] 40)).cell? ⟨W.heap.size, 0, none⟩ = some (.slice A0 n0 c0) := by go_simp
  have kaG_1_0 : (W.alloc (.cells #[.slice A0 n0 c0, .slice B0 m0 d0] 40)).cell? ⟨W.heap.size, 1, none⟩ = some (.slice B0 m0 d0) := by go_simp
  have S0 : W.heap.size < (W.alloc (.cells #[.slice A0 n0 c0, .slice B0 m0 d0] 40)).heap.size := by simp <;> omega
  generalize (W.alloc (.cells #[.slice A0 n0 c0, .slice B0 m0 d0] 40)) = w0 at *
  have hsok1 := szG_ok3 (l := 1048576) (n := n0) (m := m0)
  have hrg1 : szG 1048576 n0 m0 < 0 ∨ ¬ szG 1048576 n0 m0 < 0 := by omega
  refine (szGraph_any A0 B0 n0 c0 m0 d0 1048576 _ hn0 hm0 (by omega) (by omega)).mono ?_
  rintro e w1 ⟨rfl, hb1⟩
  have S1 : w0.heap.size ≤ w1.heap.size := hb1.size
  have hB1 := below_then hB0 hb1
  have kaG_0_1 := cell_keep hb1 kaG_0_0
  have kaG_1_1 := cell_keep hb1 kaG_1_0
  clear kaG_0_0 kaG_1_0 hb1
  obtain ⟨q1, hq1⟩ : ∃ q, szG 1048576 n0 m0 = q := ⟨_, rfl⟩
  rw [hq1] at hsok1 hrg1 ⊢
  clear hq1
  rcases hrg1 with hneg | hpos
  · go_wp2
    go_ret
    exact ⟨rfl, hB1⟩
  obtain ⟨hsum1, hq1b, hq1c⟩ := hsok1 hpos
  have hq1d : q1 ≤ 1048576 := by omega
  replace hq1c := hq1d
  clear hq1d
  have GA0 : GRd W A0 n0 B0 m0 g0 := ⟨hg0, by omega, by omega⟩
  clear hsum1 hsok1 hn0 hm0 hg0
  go_wp2_with fail
  refine (toGraph_rd _ (GA0.up hB1)).mono ?_
  rintro e w2 ⟨X2A, X2B, rfl, O2, hb2⟩
  have S2 : w1.heap.size ≤ w2.heap.size := hb2.size
  have hB2 := below_then hB1 hb2
  have kaG_0_2 := cell_keep hb2 kaG_0_1
  have kaG_1_2 := cell_keep hb2 kaG_1_1
  clear hB1 kaG_0_1 kaG_1_1 hb2
  go_wp2_with fail
  refine (specHoldsAt_is _ O2.grd a1 a2).mono ?_
  rw [HR0.out]
  rintro e w3 ⟨rfl, hb3⟩
  have S3 : w2.heap.size ≤ w3.heap.size := hb3.size
  have hB3 := below_then hB2 hb3
  have kaG_0_3 := cell_keep hb3 kaG_0_2
  have kaG_1_3 := cell_keep hb3 kaG_1_2
  replace O2 := O2.below hb3
  clear hB2 kaG_0_2 kaG_1_2 hb3
  clear O2
  go_wp2_with fail
  refine (toGraph_rd _ (GA0.up hB3)).mono ?_
  rintro e w4 ⟨X4A, X4B, rfl, O4, hb4⟩
  have S4 : w3.heap.size ≤ w4.heap.size := hb4.size
  have hB4 := below_then hB3 hb4
  have kaG_0_4 := cell_keep hb4 kaG_0_3
  have kaG_1_4 := cell_keep hb4 kaG_1_3
  clear hB3 kaG_0_3 kaG_1_3 hb4
  have hb5 : Below w4.heap.size w4 (w4.alloc (.cells #[.slice X4A n0 n0, .slice X4B m0 m0] 45)) := (Below.refl _ _).alloc (Nat.le_refl _) _
  have kx0_0_5 : (w4.alloc (.cells #[.slice X4A n0 n0, .slice X4B m0 m0] 45)).cell? ⟨w4.heap.size, 0, none⟩ = some (.slice X4A n0 n0) := by go_simp
  have kx0_1_5 : (w4.alloc (.cells #[.slice X4A n0 n0, .slice X4B m0 m0] 45)).cell? ⟨w4.heap.size, 1, none⟩ = some (.slice X4B m0 m0) := by go_simp
  have S5 : w4.heap.size < (w4.alloc (.cells #[.slice X4A n0 n0, .slice X4B m0 m0] 45)).heap.size := by simp
  have hB5 := below_then hB4 hb5
  have kaG_0_5 := cell_keep hb5 kaG_0_4
  have kaG_1_5 := cell_keep hb5 kaG_1_4
  replace O4 := O4.below hb5
  clear hB4 kaG_0_4 kaG_1_4 hb5
  go_wp2_with fail
  generalize (w4.alloc (.cells #[.slice X4A n0 n0, .slice X4B m0 m0] 45)) = w5 at *
  refine (implHoldsAt_is _ O4.grd a1 a2).mono ?_
  rw [HR0.out]
  rintro e w6 ⟨rfl, hb6⟩
  have S6 : w5.heap.size ≤ w6.heap.size := hb6.size
  have hB6 := below_then hB5 hb6
  have kaG_0_6 := cell_keep hb6 kaG_0_5
  have kaG_1_6 := cell_keep hb6 kaG_1_5
  have kx0_0_6 := cell_keep hb6 kx0_0_5
  have kx0_1_6 := cell_keep hb6 kx0_1_5
  replace O4 := O4.below hb6
  clear hB5 kaG_0_5 kaG_1_5 kx0_0_5 kx0_1_5 hb6
  go_wp2_with fail
  have hbD6 : Below w6.heap.size w6 w6.drew := (Below.refl _ _).drew
  have hBD6 := below_then hB6 hbD6
  have kaG_0_D6 := cell_keep hbD6 kaG_0_6
  have kaG_1_D6 := cell_keep hbD6 kaG_1_6
  have kx0_0_D6 := cell_keep hbD6 kx0_0_6
  have kx0_1_D6 := cell_keep hbD6 kx0_1_6
  replace O4 := O4.below hbD6
  go_region_held3 (fun w' => w'.cell? ⟨W.heap.size, 0, none⟩ = some (.slice A0 n0 c0) ∧ w'.cell? ⟨W.heap.size, 1, none⟩ = some (.slice B0 m0 d0) ∧ w'.cell? ⟨w4.heap.size, 0, none⟩ = some (.slice X4A n0 n0) ∧ w'.cell? ⟨w4.heap.size, 1, none⟩ = some (.slice X4B m0 m0)) (first | exact ⟨kaG_0_D6, kaG_1_D6, kx0_0_D6, kx0_1_D6⟩ | exact ⟨kaG_0_7, kaG_1_7, kx0_0_7, kx0_1_7⟩ | exact ⟨kaG_0_8, kaG_1_8, kx0_0_8, kx0_1_8⟩) (first
      | (go_simp; go_at_call 52; refine (eqGraph_is _ O4 O7).mono ?_; rintro e w8 ⟨rfl, hb8⟩; have S8 : w7.heap.size ≤ w8.heap.size := hb8.size; have hB8 := below_then hB7 hb8; have kaG_0_8 := cell_keep hb8 kaG_0_7; have kaG_1_8 := cell_keep hb8 kaG_1_7; have kx0_0_8 := cell_keep hb8 kx0_0_7; have kx0_1_8 := cell_keep hb8 kx0_1_7; replace O4 := O4.below hb8; replace O7 := O7.below hb8; dsimp only)
      | (go_simp; go_at_call 50; refine (toGraph_rd _ (GA0.up hBD6)).mono ?_; rintro e w7 ⟨X7A, X7B, rfl, O7, hb7⟩; have S7 : w6.heap.size ≤ w7.heap.size := hb7.size; have hB7 := below_then hBD6 hb7; have kaG_0_7 := cell_keep hb7 kaG_0_D6; have kaG_1_7 := cell_keep hb7 kaG_1_D6; have kx0_0_7 := cell_keep hb7 kx0_0_D6; have kx0_1_7 := cell_keep hb7 kx0_1_D6; replace O4 := O4.below hb7; replace O7 := O7.wide (lo := w6.heap.size) (hi := w7.heap.size) (Nat.le_refl _) (Nat.le_refl _); dsimp only))
  clear hB6 kaG_0_6 kaG_1_6 kx0_0_6 kx0_1_6 hbD6 hBD6 kaG_0_D6 kaG_1_D6 kx0_0_D6 kx0_1_D6 hb7 hB7 kaG_0_7 kaG_1_7 kx0_0_7 kx0_1_7 hb8
  clear O7
  all_goals
    go_wp2
    go_ret
    exact ⟨rfl, hB8⟩

set_option maxRecDepth 100000 in
theorem lifted (os : Os) (started : os.Started) (H : Type) (enc : TypeId × Value → H) :
    ReturnsInHanded {} Try.checked os 10 .any (Rows.fnExactHoldsAtSpec.pre6 enc Try.prog Try.f10 Rows.fnExactHoldsAtRow.domain false) (Rows.fnExactHoldsAtSpec.post enc Try.prog Try.f10 false true false false) := by
  refine returnsInHanded_of_change (C := Try.checked) own started (by as_aux_lemma => kernel_rfl) Try.func10
    (ChangeSpec.witness6 (enc := enc) (C := Try.checked) false ⟨#[], #[.agg #[.slice none 0 0, .slice none 0 0], .int .i64 0, .int .i64 0], []⟩ 8 (by as_aux_lemma => kernel_rfl) (by as_aux_lemma => kernel_rfl) (by as_aux_lemma => kernel_rfl) (by as_aux_lemma => kernel_rfl)) ?_
  intro W base args ds gs before hval0 hW hcnd _
  have hval : ∀ (j : Nat) t v, Try.f10.params[j]? = some t → args[j]? = some v → Value.okWide Try.prog W .any base t v := hval0
  have hW' := hW
  obtain ⟨p, q, hA0, hV, rfl, hfz, hnd⟩ := hW
  have hA : DataW.TrodAll enc Try.prog W 0 (fun _ => true) true Try.f10.params.toList args.toList ds p := hA0
  rw [Try.params10] at hA hval
  obtain ⟨v0, vs0, d0, ds0, p0, q0, hargs, rfl, rfl, h0, r0⟩ := trodAll_cons hA
  obtain ⟨v1, vs1, d1, ds1, p1, q1, rfl, rfl, rfl, h1, r1⟩ := trodAll_cons r0
  obtain ⟨v2, vs2, d2, ds2, p2, q2, rfl, rfl, rfl, h2, r2⟩ := trodAll_cons r1
  obtain ⟨rfl, rfl, rfl⟩ := trodAll_nil r2
  obtain rfl : args = #[v0, v1, v2] := by cases args; simp_all
  obtain ⟨rfl, rfl⟩ := trodVars_none hV
  have k0 := h0
  have lt0 : ∀ x ∈ p0, x.block < W.heap.size := by obtain ⟨m, hm⟩ := k0; exact DataW.trod_lt m _ _ _ hm
  have g0 := argGraph (hval 0 40 v0 rfl rfl) h0
  have k1 := h1
  have lt1 : ∀ x ∈ p1, x.block < W.heap.size := by obtain ⟨m, hm⟩ := k1; exact DataW.trod_lt m _ _ _ hm
  obtain ⟨a1, rfl, rfl, rfl, w1⟩ := open_int Try.underlying3 (hval 1 3 v1 rfl rfl) h1
  have k2 := h2
  have lt2 : ∀ x ∈ p2, x.block < W.heap.size := by obtain ⟨m, hm⟩ := k2; exact DataW.trod_lt m _ _ _ hm
  obtain ⟨a2, rfl, rfl, rfl, w2⟩ := open_int Try.underlying3 (hval 2 3 v2 rfl rfl) h2
  clear hA0 hval0
  refine (walk W v0 g0 a1 w1 a2 w2).mono fun e W' ⟨he, bel⟩ => ?_
  subst he
  exact ⟨_, rfl, _, _, _, [], _, [], hW', trodAll_mk1 (shut_bool Try.underlying4 _), (trodAll_cons_mk (Below.trod laidOut (by as_aux_lemma => kernel_rfl) (of_decide_eq_true (by as_aux_lemma => kernel_rfl)) k0 bel lt0) (trodAll_cons_mk (Below.trod laidOut (by as_aux_lemma => kernel_rfl) (of_decide_eq_true (by as_aux_lemma => kernel_rfl)) k1 bel lt1) (trodAll_cons_mk (Below.trod laidOut (by as_aux_lemma => kernel_rfl) (of_decide_eq_true (by as_aux_lemma => kernel_rfl)) k2 bel lt2) trodAll_mk0))), rfl, bel.frame _, fun h => by cases h⟩

set_option maxHeartbeats 8000000 in
theorem closed : joinedFacts Try.prog 10 Try.f10 Rows.fnExactHoldsAtSpec Rows.fnExactHoldsAtRow = true := by
  unfold joinedFacts
  simp only [Bool.and_eq_true]
  repeat' apply And.intro
  all_goals first | with_reducible exact frMay | with_reducible exact frLifts _ rfl | with_reducible exact frMake _ rfl | (as_aux_lemma => kernel_rfl)
set_option maxHeartbeats 1000000 in
theorem over : Rows.fnExactHoldsAtRow.holds Try.pinned (OpenSpec.ofChange Rows.fnExactHoldsAtSpec) :=
  OpenClaim.holds_of_wide 10 Try.f10 rfl rfl rfl rfl rfl rfl rfl ⟨rfl, rfl, rfl, rfl, rfl⟩ rfl rfl rfl rfl rfl (by as_aux_lemma => kernel_rfl) Try.func10 closed
    (of_decide_eq_true (by as_aux_lemma => kernel_rfl)) (by unfold Func.isWrapper; first | (rw [if_pos (by decide +kernel)]; kernel_rfl) | (rw [if_neg (by decide +kernel)]; exact ⟨rfl, rfl⟩))
    (fun os started H enc _ => lifted os started H enc)

theorem proved : Rows.FnExactHoldsAtSaid := over
end Go.Proofs.Ytfigilkggjokkaa.fnExactHoldsAt
