/-
  FnExactEqualGraphsSaid: for every input the law FnExactEqualGraphs returns true, and its arguments read afterwards as before. No condition.
-/
import Derived.Test.YtfigilkggjokkaaArgs
import Derived.Test.YtfigilkggjokkaaEqG3
import Derived.Test.YtfigilkggjokkaaFr
namespace Go.Proofs.Ytfigilkggjokkaa.fnExactEqualGraphs
open Go.ChangeShapes Go.WideShapes Go.ChangeAt Go.RowKit Go.Deep
open Go.ChangeMaps (open_string shut_string)
set_option linter.unusedVariables false


theorem own : ownKnob Try.prog.godebug = none := by kernel_rfl
theorem laidOut : laidOutB Try.prog = true := by kernel_rfl

set_option maxRecDepth 4000 in
set_option maxHeartbeats 4000000 in
theorem walk (W : World) (v0 : Value) (g0 : ArgGraph W v0) (v1 : Value) (g1 : ArgGraph W v1) :
    Calls Try.prog 9 #[v0, v1] W fun e w' => e = .returned (.bool true) ∧ Below W.heap.size W w' := by
  obtain ⟨A, B, n, c, m, d, g, rfl, hg, hn, hm, _, _⟩ := g0
  obtain ⟨A', B', n', c', m', d', g', rfl, hg', hn', hm', _, _⟩ := g1
  have hsok := szG_ok (l := 1048576) (n := n) (m := m)
  have hrange : szG 1048576 n m < 0 ∨ ¬ szG 1048576 n m < 0 := by omega
  go_enter Try.func9, Try.ntmps9
  go_wp2_with fail
  have hB0 : Below W.heap.size W ((W.alloc (.cells #[.slice A n c, .slice B m d] 40)).alloc (.cells #[.slice A' n' c', .slice B' m' d'] 40)) := ((Below.refl _ _).alloc (Nat.le_refl _) _).alloc (by simp) _
  have kA0 : ((W.alloc (.cells #[.slice A n c, .slice B m d] 40)).alloc (.cells #[.slice A' n' c', .slice B' m' d'] 40)).cell? ⟨W.heap.size, 0, none⟩ = some (.slice A n c) := by go_simp
  have kB0 : ((W.alloc (.cells #[.slice A n c, .slice B m d] 40)).alloc (.cells #[.slice A' n' c', .slice B' m' d'] 40)).cell? ⟨W.heap.size, 1, none⟩ = some (.slice B m d) := by go_simp
  have lA0 : ((W.alloc (.cells #[.slice A n c, .slice B m d] 40)).alloc (.cells #[.slice A' n' c', .slice B' m' d'] 40)).cell? ⟨W.heap.size + 1, 0, none⟩ = some (.slice A' n' c') := by go_simp
  have lB0 : ((W.alloc (.cells #[.slice A n c, .slice B m d] 40)).alloc (.cells #[.slice A' n' c', .slice B' m' d'] 40)).cell? ⟨W.heap.size + 1, 1, none⟩ = some (.slice B' m' d') := by go_simp
  refine (szGraph_any A B n c m d 1048576 _ hn hm (by omega) (by omega)).mono ?_
  rintro e w1 ⟨rfl, hb1⟩
  have kA1 := cell_keep hb1 kA0
  have kB1 := cell_keep hb1 kB0
  have lA1 := cell_keep hb1 lA0
  have lB1 := cell_keep hb1 lB0
  have hB1 := below_then hB0 hb1
  clear kA0 kB0 lA0 lB0 hb1 hB0
  obtain ⟨q, hq⟩ : ∃ q, szG 1048576 n m = q := ⟨_, rfl⟩
  rw [hq] at hsok hrange ⊢
  clear hq
  rcases hrange with hneg | hpos
  · go_wp2
    go_ret
    exact ⟨rfl, hB1⟩
  obtain ⟨hsum, hq1, hq2, hq3⟩ := hsok hpos
  have hn2 : n ≤ 2000000 := by omega
  have hm2 : m ≤ 2000000 := by omega
  clear hsum hpos hsok hn hm hq1
  have hsok := szG_ok (l := q) (n := n') (m := m')
  have hrange : szG q n' m' < 0 ∨ ¬ szG q n' m' < 0 := by omega
  go_wp2_with fail
  refine (szGraph_any A' B' n' c' m' d' q _ hn' hm' hq2 hq3).mono ?_
  rintro e w2 ⟨rfl, hb2⟩
  have kA2 := cell_keep hb2 kA1
  have kB2 := cell_keep hb2 kB1
  have lA2 := cell_keep hb2 lA1
  have lB2 := cell_keep hb2 lB1
  have hB2 := below_then hB1 hb2
  clear kA1 kB1 lA1 lB1 hb2 hB1
  obtain ⟨r, hr⟩ : ∃ r, szG q n' m' = r := ⟨_, rfl⟩
  rw [hr] at hsok hrange ⊢
  clear hr
  rcases hrange with hneg | hpos
  · go_wp2
    go_ret
    exact ⟨rfl, hB2⟩
  obtain ⟨hsum, hr1, hr2, hr3⟩ := hsok hpos
  have hn2' : n' ≤ 2000000 := by omega
  have hm2' : m' ≤ 2000000 := by omega
  clear hsum hpos hsok hn' hm' hr1 hr3 hq2 hq3
  go_wp2
  go_region_held3 (fun w' => w'.cell? ⟨W.heap.size, 0, none⟩ = some (.slice A n c) ∧ w'.cell? ⟨W.heap.size, 1, none⟩ = some (.slice B m d) ∧ w'.cell? ⟨W.heap.size + 1, 0, none⟩ = some (.slice A' n' c') ∧ w'.cell? ⟨W.heap.size + 1, 1, none⟩ = some (.slice B' m' d')) (first | exact ⟨kA2, kB2, lA2, lB2⟩ | exact ⟨kA3, kB3, lA3, lB3⟩ | exact ⟨kA4, kB4, lA4, lB4⟩ | exact ⟨kA5, kB5, lA5, lB5⟩) (first
    | (go_simp; go_at_call 60; refine (specEqG_any _ _ _ _ n n m m n' n' m' m' g g' _ hr34 hr4 hn2 hm2 hn2' hm2').mono ?_; rintro e w5 ⟨rfl, hb5⟩; have kA5 := cell_keep hb5 kA4; have kB5 := cell_keep hb5 kB4; have lA5 := cell_keep hb5 lA4; have lB5 := cell_keep hb5 lB4; have hB5 := below_then hB4 hb5; dsimp only)
    | (go_simp; go_at_call 50; refine (toGraph_r A' B' n' c' m' d' g' _ (hg'.up hB3) hn2' hm2').mono ?_; rintro e w4 ⟨b3, b4, rfl, ho4, hr4, hb4⟩; have kA4 := cell_keep hb4 kA3; have kB4 := cell_keep hb4 kB3; have lA4 := cell_keep hb4 lA3; have lB4 := cell_keep hb4 lB3; have hB4 := below_then hB3 hb4; have hr34 := hr3.up hb4; dsimp only)
    | (go_simp; go_at_call 50; refine (toGraph_r A B n c m d g _ (hg.up (hB2.drew)) hn2 hm2).mono ?_; rintro e w3 ⟨b1, b2, rfl, ho3, hr3, hb3⟩; have kA3 := cell_keep hb3 kA2; have kB3 := cell_keep hb3 kB2; have lA3 := cell_keep hb3 lA2; have lB3 := cell_keep hb3 lB2; have hB3 := below_then (W := W) hB2.drew hb3; dsimp only))
  clear hr3 hr4 hr34 ho3 ho4
  go_wp2_with fail
  refine (toGraph_r A B n c m d g _ (hg.up hB5) hn2 hm2).mono ?_
  rintro e w6 ⟨b5, b6, rfl, ho6, hr6, hb6⟩
  have kA6 := cell_keep hb6 kA5
  have kB6 := cell_keep hb6 kB5
  have lA6 := cell_keep hb6 lA5
  have lB6 := cell_keep hb6 lB5
  have hB6 := below_then hB5 hb6
  clear kA5 kB5 lA5 lB5 hb6 ho6
  have hX : Below w6.heap.size w6 (w6.alloc (.cells #[.slice (some ⟨b5, 0, none⟩) n n, .slice (some ⟨b6, 0, none⟩) m m] 45)) := (Below.refl _ _).alloc (Nat.le_refl _) _
  have xA6 : (w6.alloc (.cells #[.slice (some ⟨b5, 0, none⟩) n n, .slice (some ⟨b6, 0, none⟩) m m] 45)).cell? ⟨w6.heap.size, 0, none⟩ = some (.slice (some ⟨b5, 0, none⟩) n n) := by go_simp
  have xB6 : (w6.alloc (.cells #[.slice (some ⟨b5, 0, none⟩) n n, .slice (some ⟨b6, 0, none⟩) m m] 45)).cell? ⟨w6.heap.size, 1, none⟩ = some (.slice (some ⟨b6, 0, none⟩) m m) := by go_simp
  have kA7 := cell_keep hX kA6
  have kB7 := cell_keep hX kB6
  have lA7 := cell_keep hX lA6
  have lB7 := cell_keep hX lB6
  have hr7 := hr6.up hX
  have hB7 := below_then hB6 hX
  clear kA6 kB6 lA6 lB6 hr6 hX
  go_wp2_with fail
  generalize hx6 : w6.heap.size = x6 at *
  generalize (w6.alloc (.cells #[.slice (some ⟨b5, 0, none⟩) n n, .slice (some ⟨b6, 0, none⟩) m m] 45)) = w7 at *
  refine (toGraph_r A' B' n' c' m' d' g' _ (hg'.up hB7) hn2' hm2').mono ?_
  rintro e w8 ⟨b7, b8, rfl, ho8, hr8, hb8⟩
  have kA8 := cell_keep hb8 kA7
  have kB8 := cell_keep hb8 kB7
  have lA8 := cell_keep hb8 lA7
  have lB8 := cell_keep hb8 lB7
  have xA8 := cell_keep hb8 xA6
  have xB8 := cell_keep hb8 xB6
  have hr78 := hr7.up hb8
  have hB8 := below_then hB7 hb8
  clear kA7 kB7 lA7 lB7 xA6 xB6 hb8 ho8 hr7
  have hX : Below w8.heap.size w8 (w8.alloc (.cells #[.slice (some ⟨b7, 0, none⟩) n' n', .slice (some ⟨b8, 0, none⟩) m' m'] 45)) := (Below.refl _ _).alloc (Nat.le_refl _) _
  have zA9 : (w8.alloc (.cells #[.slice (some ⟨b7, 0, none⟩) n' n', .slice (some ⟨b8, 0, none⟩) m' m'] 45)).cell? ⟨w8.heap.size, 0, none⟩ = some (.slice (some ⟨b7, 0, none⟩) n' n') := by go_simp
  have zB9 : (w8.alloc (.cells #[.slice (some ⟨b7, 0, none⟩) n' n', .slice (some ⟨b8, 0, none⟩) m' m'] 45)).cell? ⟨w8.heap.size, 1, none⟩ = some (.slice (some ⟨b8, 0, none⟩) m' m') := by go_simp
  have kA9 := cell_keep hX kA8
  have kB9 := cell_keep hX kB8
  have lA9 := cell_keep hX lA8
  have lB9 := cell_keep hX lB8
  have xA9 := cell_keep hX xA8
  have xB9 := cell_keep hX xB8
  have hr9 := hr8.up hX
  have hr79 := hr78.up hX
  have hB9 := below_then hB8 hX
  clear kA8 kB8 lA8 lB8 xA8 xB8 hr8 hr78 hX
  go_wp2_with fail
  generalize hx8 : w8.heap.size = x8 at *
  generalize (w8.alloc (.cells #[.slice (some ⟨b7, 0, none⟩) n' n', .slice (some ⟨b8, 0, none⟩) m' m'] 45)) = w9 at *
  refine (implEqG_any _ _ _ _ n n m m n' n' m' m' g g' _ hr79 hr9 hn2 hm2 hn2' hm2').mono ?_
  rintro e w10 ⟨rfl, hb10⟩
  have kA10 := cell_keep hb10 kA9
  have kB10 := cell_keep hb10 kB9
  have lA10 := cell_keep hb10 lA9
  have lB10 := cell_keep hb10 lB9
  have xA10 := cell_keep hb10 xA9
  have xB10 := cell_keep hb10 xB9
  have zA10 := cell_keep hb10 zA9
  have zB10 := cell_keep hb10 zB9
  have hra := hr79.up hb10
  have hrb := hr9.up hb10
  have hB10 := below_then hB9 hb10
  clear kA9 kB9 lA9 lB9 xA9 xB9 zA9 zB9 hr79 hr9 hb10
  go_wp2
  go_region_held3 (fun w' => w'.cell? ⟨W.heap.size, 0, none⟩ = some (.slice A n c) ∧ w'.cell? ⟨W.heap.size, 1, none⟩ = some (.slice B m d) ∧ w'.cell? ⟨W.heap.size + 1, 0, none⟩ = some (.slice A' n' c') ∧ w'.cell? ⟨W.heap.size + 1, 1, none⟩ = some (.slice B' m' d') ∧ w'.cell? ⟨x6, 0, none⟩ = some (.slice (some ⟨b5, 0, none⟩) n n) ∧ w'.cell? ⟨x6, 1, none⟩ = some (.slice (some ⟨b6, 0, none⟩) m m) ∧ w'.cell? ⟨x8, 0, none⟩ = some (.slice (some ⟨b7, 0, none⟩) n' n') ∧ w'.cell? ⟨x8, 1, none⟩ = some (.slice (some ⟨b8, 0, none⟩) m' m')) (first | exact ⟨kA10, kB10, lA10, lB10, xA10, xB10, zA10, zB10⟩ | exact ⟨kA11, kB11, lA11, lB11, xA11, xB11, zA11, zB11⟩ | exact ⟨kA12, kB12, lA12, lB12, xA12, xB12, zA12, zB12⟩) (first
    | (go_simp; go_at_call 52; refine (eqGraph_same _ _ _ _ n n m m n m g _ hra11 hr11 hn2 hm2).mono ?_; rintro e w12 ⟨rfl, hb12⟩; have kA12 := cell_keep hb12 kA11; have kB12 := cell_keep hb12 kB11; have lA12 := cell_keep hb12 lA11; have lB12 := cell_keep hb12 lB11; have xA12 := cell_keep hb12 xA11; have xB12 := cell_keep hb12 xB11; have zA12 := cell_keep hb12 zA11; have zB12 := cell_keep hb12 zB11; have hB12 := below_then hB11 hb12; have hrb12 := hrb11.up hb12; dsimp only)
    | (go_simp; go_at_call 50; refine (toGraph_r A B n c m d g _ (hg.up (hB10.drew)) hn2 hm2).mono ?_; rintro e w11 ⟨b9, b10, rfl, ho11, hr11, hb11⟩; have kA11 := cell_keep hb11 kA10; have kB11 := cell_keep hb11 kB10; have lA11 := cell_keep hb11 lA10; have lB11 := cell_keep hb11 lB10; have xA11 := cell_keep hb11 xA10; have xB11 := cell_keep hb11 xB10; have zA11 := cell_keep hb11 zA10; have zB11 := cell_keep hb11 zB10; have hB11 := below_then (W := W) hB10.drew hb11; have hra11 := hra.drew.up hb11; have hrb11 := hrb.drew.up hb11; dsimp only))
  clear kA10 kB10 lA10 lB10 xA10 xB10 zA10 zB10 kA11 kB11 lA11 lB11 xA11 xB11 zA11 zB11 ho11 hr11 hra11 hrb11 hra hrb
  go_wp2
  go_region_held3 (fun w' => w'.cell? ⟨W.heap.size, 0, none⟩ = some (.slice A n c) ∧ w'.cell? ⟨W.heap.size, 1, none⟩ = some (.slice B m d) ∧ w'.cell? ⟨W.heap.size + 1, 0, none⟩ = some (.slice A' n' c') ∧ w'.cell? ⟨W.heap.size + 1, 1, none⟩ = some (.slice B' m' d') ∧ w'.cell? ⟨x6, 0, none⟩ = some (.slice (some ⟨b5, 0, none⟩) n n) ∧ w'.cell? ⟨x6, 1, none⟩ = some (.slice (some ⟨b6, 0, none⟩) m m) ∧ w'.cell? ⟨x8, 0, none⟩ = some (.slice (some ⟨b7, 0, none⟩) n' n') ∧ w'.cell? ⟨x8, 1, none⟩ = some (.slice (some ⟨b8, 0, none⟩) m' m')) (first | exact ⟨kA12, kB12, lA12, lB12, xA12, xB12, zA12, zB12⟩ | exact ⟨kA13, kB13, lA13, lB13, xA13, xB13, zA13, zB13⟩ | exact ⟨kA14, kB14, lA14, lB14, xA14, xB14, zA14, zB14⟩) (first
    | (go_simp; go_at_call 52; refine (eqGraph_same _ _ _ _ n' n' m' m' n' m' g' _ hrb13 hr13 hn2' hm2').mono ?_; rintro e w14 ⟨rfl, hb14⟩; have kA14 := cell_keep hb14 kA13; have kB14 := cell_keep hb14 kB13; have lA14 := cell_keep hb14 lA13; have lB14 := cell_keep hb14 lB13; have xA14 := cell_keep hb14 xA13; have xB14 := cell_keep hb14 xB13; have zA14 := cell_keep hb14 zA13; have zB14 := cell_keep hb14 zB13; have hB14 := below_then hB13 hb14; dsimp only)
    | (go_simp; go_at_call 50; refine (toGraph_r A' B' n' c' m' d' g' _ (hg'.up (hB12.drew)) hn2' hm2').mono ?_; rintro e w13 ⟨b11, b12, rfl, ho13, hr13, hb13⟩; have kA13 := cell_keep hb13 kA12; have kB13 := cell_keep hb13 kB12; have lA13 := cell_keep hb13 lA12; have lB13 := cell_keep hb13 lB12; have xA13 := cell_keep hb13 xA12; have xB13 := cell_keep hb13 xB12; have zA13 := cell_keep hb13 zA12; have zB13 := cell_keep hb13 zB12; have hB13 := below_then (W := W) hB12.drew hb13; have hrb13 := hrb12.drew.up hb13; dsimp only))
  all_goals
    go_wp2
    go_ret
    exact ⟨rfl, hB14⟩

set_option maxRecDepth 100000 in
theorem lifted (os : Os) (started : os.Started) (H : Type) (enc : TypeId × Value → H) :
    ReturnsInHanded {} Try.checked os 9 .any (Rows.fnExactEqualGraphsSpec.pre6 enc Try.prog Try.f9 Rows.fnExactEqualGraphsRow.domain false) (Rows.fnExactEqualGraphsSpec.post enc Try.prog Try.f9 false true false false) := by
  refine returnsInHanded_of_change (C := Try.checked) own started (by as_aux_lemma => kernel_rfl) Try.func9
    (ChangeSpec.witness6 (enc := enc) (C := Try.checked) false ⟨#[], #[.agg #[.slice none 0 0, .slice none 0 0], .agg #[.slice none 0 0, .slice none 0 0]], []⟩ 8 (by as_aux_lemma => kernel_rfl) (by as_aux_lemma => kernel_rfl) (by as_aux_lemma => kernel_rfl) (by as_aux_lemma => kernel_rfl)) ?_
  intro W base args ds gs before hval0 hW hcnd _
  have hval : ∀ (j : Nat) t v, Try.f9.params[j]? = some t → args[j]? = some v → Value.okWide Try.prog W .any base t v := hval0
  have hW' := hW
  obtain ⟨p, q, hA0, hV, rfl, hfz, hnd⟩ := hW
  have hA : DataW.TrodAll enc Try.prog W 0 (fun _ => true) true Try.f9.params.toList args.toList ds p := hA0
  rw [Try.params9] at hA hval
  obtain ⟨v0, vs0, d0, ds0, p0, q0, hargs, rfl, rfl, h0, r0⟩ := trodAll_cons hA
  obtain ⟨v1, vs1, d1, ds1, p1, q1, rfl, rfl, rfl, h1, r1⟩ := trodAll_cons r0
  obtain ⟨rfl, rfl, rfl⟩ := trodAll_nil r1
  obtain rfl : args = #[v0, v1] := by cases args; simp_all
  obtain ⟨rfl, rfl⟩ := trodVars_none hV
  have k0 := h0
  have lt0 : ∀ x ∈ p0, x.block < W.heap.size := by obtain ⟨m, hm⟩ := k0; exact DataW.trod_lt m _ _ _ hm
  have g0 := argGraph (hval 0 40 v0 rfl rfl) h0
  have k1 := h1
  have lt1 : ∀ x ∈ p1, x.block < W.heap.size := by obtain ⟨m, hm⟩ := k1; exact DataW.trod_lt m _ _ _ hm
  have g1 := argGraph (hval 1 40 v1 rfl rfl) h1
  clear hA0 hval0
  refine (walk W v0 g0 v1 g1).mono fun e W' ⟨he, bel⟩ => ?_
  subst he
  exact ⟨_, rfl, _, _, _, [], _, [], hW', trodAll_mk1 (shut_bool Try.underlying4 _), (trodAll_cons_mk (Below.trod laidOut (by as_aux_lemma => kernel_rfl) (of_decide_eq_true (by as_aux_lemma => kernel_rfl)) k0 bel lt0) (trodAll_cons_mk (Below.trod laidOut (by as_aux_lemma => kernel_rfl) (of_decide_eq_true (by as_aux_lemma => kernel_rfl)) k1 bel lt1) trodAll_mk0)), rfl, bel.frame _, fun h => by cases h⟩

set_option maxHeartbeats 8000000 in
theorem closed : joinedFacts Try.prog 9 Try.f9 Rows.fnExactEqualGraphsSpec Rows.fnExactEqualGraphsRow = true := by
  unfold joinedFacts
  simp only [Bool.and_eq_true]
  repeat' apply And.intro
  all_goals first | with_reducible exact frMay | with_reducible exact frLifts _ rfl | with_reducible exact frMake _ rfl | (as_aux_lemma => kernel_rfl)
set_option maxHeartbeats 1000000 in
theorem over : Rows.fnExactEqualGraphsRow.holds Try.pinned (OpenSpec.ofChange Rows.fnExactEqualGraphsSpec) :=
  OpenClaim.holds_of_wide 9 Try.f9 rfl rfl rfl rfl rfl rfl rfl ⟨rfl, rfl, rfl, rfl, rfl⟩ rfl rfl rfl rfl rfl (by as_aux_lemma => kernel_rfl) Try.func9 closed
    (of_decide_eq_true (by as_aux_lemma => kernel_rfl)) (by unfold Func.isWrapper; first | (rw [if_pos (by decide +kernel)]; kernel_rfl) | (rw [if_neg (by decide +kernel)]; exact ⟨rfl, rfl⟩))
    (fun os started H enc _ => lifted os started H enc)

theorem proved : Rows.FnExactEqualGraphsSaid := over
end Go.Proofs.Ytfigilkggjokkaa.fnExactEqualGraphs
