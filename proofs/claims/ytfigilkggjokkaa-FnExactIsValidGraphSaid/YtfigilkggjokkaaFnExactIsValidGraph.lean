/-
  FnExactIsValidGraphSaid: for every input the law FnExactIsValidGraph returns true, and its arguments read afterwards as before. No condition.
-/
import Derived.Test.YtfigilkggjokkaaArgs
import Derived.Test.YtfigilkggjokkaaValid2
import Derived.Test.YtfigilkggjokkaaFr
namespace Go.Proofs.Ytfigilkggjokkaa.fnExactIsValidGraph
open Go.ChangeShapes Go.WideShapes Go.ChangeAt Go.RowKit Go.Deep
open Go.ChangeMaps (open_string shut_string)
set_option linter.unusedVariables false


theorem own : ownKnob Try.prog.godebug = none := by kernel_rfl
theorem laidOut : laidOutB Try.prog = true := by kernel_rfl

set_option maxRecDepth 4000 in
set_option maxHeartbeats 2000000 in
theorem walk (W : World) (v0 : Value) (g0 : ArgGraph W v0) :
    Calls Try.prog 7 #[v0] W fun e w' => e = .returned (.bool true) ∧ Below W.heap.size W w' := by
  obtain ⟨A, B, n, c, m, d, g, rfl, hg, hn, hm, _, _⟩ := g0
  have hsok := szG_ok (l := 1048576) (n := n) (m := m)
  have hrange : szG 1048576 n m < 0 ∨ ¬ szG 1048576 n m < 0 := by omega
  go_enter Try.func7, Try.ntmps7
  go_wp2_with fail
  have hB0 : Below W.heap.size W (W.alloc (.cells #[.slice A n c, .slice B m d] 40)) := (Below.refl _ _).alloc (Nat.le_refl _) _
  have kA0 : (W.alloc (.cells #[.slice A n c, .slice B m d] 40)).cell? ⟨W.heap.size, 0, none⟩ = some (.slice A n c) := by go_simp
  have kB0 : (W.alloc (.cells #[.slice A n c, .slice B m d] 40)).cell? ⟨W.heap.size, 1, none⟩ = some (.slice B m d) := by go_simp
  refine (szGraph_any A B n c m d 1048576 _ hn hm (by omega) (by omega)).mono ?_
  rintro e w1 ⟨rfl, hb1⟩
  have kA1 := cell_keep hb1 kA0
  have kB1 := cell_keep hb1 kB0
  have hB1 := below_then hB0 hb1
  clear kA0 kB0 hb1 hB0
  obtain ⟨q, hq⟩ : ∃ q, szG 1048576 n m = q := ⟨_, rfl⟩
  rw [hq] at hsok hrange ⊢
  clear hq
  rcases hrange with hneg | hpos
  · go_wp2
    go_ret
    exact ⟨rfl, hB1⟩
  · obtain ⟨hsum, _, _, _⟩ := hsok hpos
    have hn2 : n ≤ 2000000 := by omega
    have hm2 : m ≤ 2000000 := by omega
    have hpos2 : 0 ≤ q := by omega
    clear hsum hpos hsok hn hm
    go_wp2_with fail
    refine (toGraph_r A B n c m d g _ (hg.up hB1) hn2 hm2).mono ?_
    rintro e w2 ⟨b1, b2, rfl, ho2, hr2, hb2⟩
    have kA2 := cell_keep hb2 kA1
    have kB2 := cell_keep hb2 kB1
    have hB2 := below_then hB1 hb2
    clear kA1 kB1 hb2
    go_wp2_with fail
    refine (specValid_any _ _ n n m m g _ hr2 hn2 hm2).mono ?_
    rintro e w3 ⟨rfl, hb3⟩
    have kA3 := cell_keep hb3 kA2
    have kB3 := cell_keep hb3 kB2
    have hB3 := below_then hB2 hb3
    clear kA2 kB2 hb3 ho2 hr2
    go_wp2_with fail
    refine (toGraph_r A B n c m d g _ (hg.up hB3) hn2 hm2).mono ?_
    rintro e w4 ⟨b3, b4, rfl, ho4, hr4, hb4⟩
    have kA4 := cell_keep hb4 kA3
    have kB4 := cell_keep hb4 kB3
    have hB4 := below_then hB3 hb4
    clear kA3 kB3 hb4
    go_wp2_with fail
    have hX : Below w4.heap.size w4 (w4.alloc (.cells #[.slice (some ⟨b3, 0, none⟩) n n, .slice (some ⟨b4, 0, none⟩) m m] 45)) := (Below.refl _ _).alloc (Nat.le_refl _) _
    have xA4 : (w4.alloc (.cells #[.slice (some ⟨b3, 0, none⟩) n n, .slice (some ⟨b4, 0, none⟩) m m] 45)).cell? ⟨w4.heap.size, 0, none⟩ = some (.slice (some ⟨b3, 0, none⟩) n n) := by go_simp
    have xB4 : (w4.alloc (.cells #[.slice (some ⟨b3, 0, none⟩) n n, .slice (some ⟨b4, 0, none⟩) m m] 45)).cell? ⟨w4.heap.size, 1, none⟩ = some (.slice (some ⟨b4, 0, none⟩) m m) := by go_simp
    have kA4' := cell_keep hX kA4
    have kB4' := cell_keep hX kB4
    have hr4' := hr4.up hX
    have hB4' := below_then hB4 hX
    clear kA4 kB4 hr4 hX
    refine (implValid_any _ _ n n m m g _ hr4' hn2 hm2).mono ?_
    rintro e w5 ⟨rfl, hb5⟩
    have kA5 := cell_keep hb5 kA4'
    have kB5 := cell_keep hb5 kB4'
    have xA5 := cell_keep hb5 xA4
    have xB5 := cell_keep hb5 xB4
    have hr5 := hr4'.up hb5
    have hB5 := below_then hB4' hb5
    clear kA4' kB4' xA4 xB4 hr4' hb5 ho4
    generalize w4.heap.size = x4 at *
    go_wp2
    have S : True := trivial
    go_region_held3 (fun w' => w'.cell? ⟨W.heap.size, 0, none⟩ = some (.slice A n c) ∧ w'.cell? ⟨W.heap.size, 1, none⟩ = some (.slice B m d) ∧ w'.cell? ⟨x4, 0, none⟩ = some (.slice (some ⟨b3, 0, none⟩) n n) ∧ w'.cell? ⟨x4, 1, none⟩ = some (.slice (some ⟨b4, 0, none⟩) m m)) (first | exact ⟨kA5, kB5, xA5, xB5⟩ | exact ⟨kA6, kB6, xA6, xB6⟩ | exact ⟨kA7, kB7, xA7, xB7⟩) (first
      | (go_simp; go_at_call 50; refine (toGraph_r A B n c m d g _ (hg.up (hB5.drew)) hn2 hm2).mono ?_; rintro e w6 ⟨b5, b6, rfl, ho6, hr6, hb6⟩; have kA6 := cell_keep hb6 kA5; have kB6 := cell_keep hb6 kB5; have xA6 := cell_keep hb6 xA5; have xB6 := cell_keep hb6 xB5; have hB6 := below_then (W := W) hB5.drew hb6; have hr56 := hr5.drew.up hb6; dsimp only)
      | (go_simp; go_at_call 52; refine (eqGraph_same _ _ _ _ n n m m n m g _ hr56 hr6 hn2 hm2).mono ?_; rintro e w7 ⟨rfl, hb7⟩; have kA7 := cell_keep hb7 kA6; have kB7 := cell_keep hb7 kB6; have xA7 := cell_keep hb7 xA6; have xB7 := cell_keep hb7 xB6; dsimp only))
    all_goals
      go_wp2
      go_ret
      exact ⟨rfl, below_then hB6 hb7⟩

set_option maxRecDepth 100000 in
theorem lifted (os : Os) (started : os.Started) (H : Type) (enc : TypeId × Value → H) :
    ReturnsInHanded {} Try.checked os 7 .any (Rows.fnExactIsValidGraphSpec.pre6 enc Try.prog Try.f7 Rows.fnExactIsValidGraphRow.domain false) (Rows.fnExactIsValidGraphSpec.post enc Try.prog Try.f7 false true false false) := by
  refine returnsInHanded_of_change (C := Try.checked) own started (by as_aux_lemma => kernel_rfl) Try.func7
    (ChangeSpec.witness6 (enc := enc) (C := Try.checked) false ⟨#[], #[.agg #[.slice none 0 0, .slice none 0 0]], []⟩ 8 (by as_aux_lemma => kernel_rfl) (by as_aux_lemma => kernel_rfl) (by as_aux_lemma => kernel_rfl) (by as_aux_lemma => kernel_rfl)) ?_
  intro W base args ds gs before hval0 hW hcnd _
  have hval : ∀ (j : Nat) t v, Try.f7.params[j]? = some t → args[j]? = some v → Value.okWide Try.prog W .any base t v := hval0
  have hW' := hW
  obtain ⟨p, q, hA0, hV, rfl, hfz, hnd⟩ := hW
  have hA : DataW.TrodAll enc Try.prog W 0 (fun _ => true) true Try.f7.params.toList args.toList ds p := hA0
  rw [Try.params7] at hA hval
  obtain ⟨v0, vs0, d0, ds0, p0, q0, hargs, rfl, rfl, h0, r0⟩ := trodAll_cons hA
  obtain ⟨rfl, rfl, rfl⟩ := trodAll_nil r0
  obtain rfl : args = #[v0] := by cases args; simp_all
  obtain ⟨rfl, rfl⟩ := trodVars_none hV
  have k0 := h0
  have lt0 : ∀ x ∈ p0, x.block < W.heap.size := by obtain ⟨m, hm⟩ := k0; exact DataW.trod_lt m _ _ _ hm
  have g0 := argGraph (hval 0 40 v0 rfl rfl) h0
  clear hA0 hval0
  refine (walk W v0 g0).mono fun e W' ⟨he, bel⟩ => ?_
  subst he
  exact ⟨_, rfl, _, _, _, [], _, [], hW', trodAll_mk1 (shut_bool Try.underlying4 _), (trodAll_cons_mk (Below.trod laidOut (by as_aux_lemma => kernel_rfl) (of_decide_eq_true (by as_aux_lemma => kernel_rfl)) k0 bel lt0) trodAll_mk0), rfl, bel.frame _, fun h => by cases h⟩

set_option maxHeartbeats 8000000 in
theorem closed : joinedFacts Try.prog 7 Try.f7 Rows.fnExactIsValidGraphSpec Rows.fnExactIsValidGraphRow = true := by
  unfold joinedFacts
  simp only [Bool.and_eq_true]
  repeat' apply And.intro
  all_goals first | with_reducible exact frMay | with_reducible exact frLifts _ rfl | with_reducible exact frMake _ rfl | (as_aux_lemma => kernel_rfl)
set_option maxHeartbeats 1000000 in
theorem over : Rows.fnExactIsValidGraphRow.holds Try.pinned (OpenSpec.ofChange Rows.fnExactIsValidGraphSpec) :=
  OpenClaim.holds_of_wide 7 Try.f7 rfl rfl rfl rfl rfl rfl rfl ⟨rfl, rfl, rfl, rfl, rfl⟩ rfl rfl rfl rfl rfl (by as_aux_lemma => kernel_rfl) Try.func7 closed
    (of_decide_eq_true (by as_aux_lemma => kernel_rfl)) (by unfold Func.isWrapper; first | (rw [if_pos (by decide +kernel)]; kernel_rfl) | (rw [if_neg (by decide +kernel)]; exact ⟨rfl, rfl⟩))
    (fun os started H enc _ => lifted os started H enc)

theorem proved : Rows.FnExactIsValidGraphSaid := over
end Go.Proofs.Ytfigilkggjokkaa.fnExactIsValidGraph
