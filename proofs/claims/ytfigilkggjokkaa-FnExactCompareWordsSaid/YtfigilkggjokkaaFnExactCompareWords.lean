/-
  FnExactCompareWordsSaid: for every input the law FnExactCompareWords returns true, and its arguments read afterwards as before. No condition.
-/
import Derived.Test.YtfigilkggjokkaaArgs
import Derived.Test.YtfigilkggjokkaaOwn
import Derived.Test.YtfigilkggjokkaaCmp
import Derived.Test.YtfigilkggjokkaaFr
namespace Go.Proofs.Ytfigilkggjokkaa.fnExactCompareWords
open Go.ChangeShapes Go.WideShapes Go.ChangeAt Go.RowKit Go.Deep
open Go.ChangeMaps (open_string shut_string)
set_option linter.unusedVariables false


theorem own : ownKnob Try.prog.godebug = none := by kernel_rfl
theorem laidOut : laidOutB Try.prog = true := by kernel_rfl

set_option maxRecDepth 4000 in
set_option maxHeartbeats 2000000 in
theorem walk (W : World) (v0 : Value) (g0 : ArgInts W v0) (v1 : Value) (g1 : ArgInts W v1) :
    Calls Try.prog 4 #[v0, v1] W fun e w' => e = .returned (.bool true) ∧ Below W.heap.size W w' := by
  obtain ⟨A, n, c, xs, rfl, hl, hnc, hcm, hr, _⟩ := g0
  obtain ⟨B, m, d, ys, rfl, hl2, hmd, hdm, hs, _⟩ := g1
  by_cases hbig : 1048576 < n
  · go_enter Try.func4, Try.ntmps4
    go_wp2
    go_ret
    exact ⟨rfl, Below.refl _ _⟩
  by_cases hbig2 : 1048576 < m
  · go_enter Try.func4, Try.ntmps4
    go_wp2
    go_ret
    exact ⟨rfl, Below.refl _ _⟩
  have hn : n ≤ 2000000 := by omega
  have hm : m ≤ 2000000 := by omega
  clear hnc hcm hmd hdm
  go_enter Try.func4, Try.ntmps4
  go_wp2_with fail
  refine (toIntS_any A n c xs _ hl hn hr).mono ?_
  rintro e w1 ⟨rfl, ho1, hb1⟩
  have hB1 := hb1
  have O1 := OwnIn.of ho1
  clear ho1 hb1
  go_wp2_with fail
  refine (toIntS_any B m d ys _ hl2 hm (reads_up hs hB1)).mono ?_
  rintro e w2 ⟨rfl, ho2, hb2⟩
  have hB2 := below_then hB1 hb2
  replace O1 := O1.below hb2
  have O2 := OwnIn.of ho2
  clear ho2 hb2
  go_wp2_with fail
  refine (specCmp_any _ _ n n m m xs ys _ hl hl2 hn hm O1.reads O2.reads).mono ?_
  rintro e w3 ⟨rfl, hb3⟩
  have hB3 := below_then hB2 hb3
  clear O1 O2 hb3
  go_wp2_with fail
  refine (toIntS_any A n c xs _ hl hn (reads_up hr hB3)).mono ?_
  rintro e w4 ⟨rfl, ho4, hb4⟩
  have hB4 := below_then hB3 hb4
  have O4 := OwnIn.of ho4
  clear ho4 hb4
  go_wp2_with fail
  refine (toIntS_any B m d ys _ hl2 hm (reads_up hs hB4)).mono ?_
  rintro e w5 ⟨rfl, ho5, hb5⟩
  have hB5 := below_then hB4 hb5
  replace O4 := O4.below hb5
  have O5 := OwnIn.of ho5
  clear ho5 hb5
  go_wp2_with fail
  refine (implCmp_any _ _ n n m m xs ys _ hl hl2 hn hm O4.reads O5.reads).mono ?_
  rintro e w6 ⟨rfl, hb6⟩
  have hB6 := below_then hB5 hb6
  replace O4 := O4.below hb6
  replace O5 := O5.below hb6
  clear hb6
  go_wp2_with fail
  refine (toIntS_any A n c xs _ hl hn (reads_up hr hB6)).mono ?_
  rintro e w7 ⟨rfl, ho7, hb7⟩
  have hB7 := below_then hB6 hb7
  replace O4 := O4.below hb7
  replace O5 := O5.below hb7
  clear hb7
  go_wp2_with fail
  refine (eqIntS_any _ _ n n n n _ _ _ hl hl hn hn O4.reads (Reads.of_own ho7)).mono ?_
  rintro e w8 ⟨rfl, hb8⟩
  rw [eqB_refl]
  have hB8 := below_then hB7 hb8
  replace O5 := O5.below hb8
  clear hb8 ho7 O4
  go_wp2_with fail
  refine (toIntS_any B m d ys _ hl2 hm (reads_up hs hB8)).mono ?_
  rintro e w9 ⟨rfl, ho9, hb9⟩
  have hB9 := below_then hB8 hb9
  replace O5 := O5.below hb9
  clear hb9
  go_wp2_with fail
  refine (eqIntS_any _ _ m m m m _ _ _ hl2 hl2 hm hm O5.reads (Reads.of_own ho9)).mono ?_
  rintro e w10 ⟨rfl, hb10⟩
  rw [eqB_refl]
  go_wp2
  go_ret
  exact ⟨rfl, below_then hB9 hb10⟩

set_option maxRecDepth 100000 in
theorem lifted (os : Os) (started : os.Started) (H : Type) (enc : TypeId × Value → H) :
    ReturnsInHanded {} Try.checked os 4 .any (Rows.fnExactCompareWordsSpec.pre6 enc Try.prog Try.f4 Rows.fnExactCompareWordsRow.domain false) (Rows.fnExactCompareWordsSpec.post enc Try.prog Try.f4 false true false false) := by
  refine returnsInHanded_of_change (C := Try.checked) own started (by as_aux_lemma => kernel_rfl) Try.func4
    (ChangeSpec.witness6 (enc := enc) (C := Try.checked) false ⟨#[], #[.slice none 0 0, .slice none 0 0], []⟩ 8 (by as_aux_lemma => kernel_rfl) (by as_aux_lemma => kernel_rfl) (by as_aux_lemma => kernel_rfl) (by as_aux_lemma => kernel_rfl)) ?_
  intro W base args ds gs before hval0 hW hcnd _
  have hval : ∀ (j : Nat) t v, Try.f4.params[j]? = some t → args[j]? = some v → Value.okWide Try.prog W .any base t v := hval0
  have hW' := hW
  obtain ⟨p, q, hA0, hV, rfl, hfz, hnd⟩ := hW
  have hA : DataW.TrodAll enc Try.prog W 0 (fun _ => true) true Try.f4.params.toList args.toList ds p := hA0
  rw [Try.params4] at hA hval
  obtain ⟨v0, vs0, d0, ds0, p0, q0, hargs, rfl, rfl, h0, r0⟩ := trodAll_cons hA
  obtain ⟨v1, vs1, d1, ds1, p1, q1, rfl, rfl, rfl, h1, r1⟩ := trodAll_cons r0
  obtain ⟨rfl, rfl, rfl⟩ := trodAll_nil r1
  obtain rfl : args = #[v0, v1] := by cases args; simp_all
  obtain ⟨rfl, rfl⟩ := trodVars_none hV
  have k0 := h0
  have lt0 : ∀ x ∈ p0, x.block < W.heap.size := by obtain ⟨m, hm⟩ := k0; exact DataW.trod_lt m _ _ _ hm
  have g0 := argInts (hval 0 22 v0 rfl rfl) h0
  have k1 := h1
  have lt1 : ∀ x ∈ p1, x.block < W.heap.size := by obtain ⟨m, hm⟩ := k1; exact DataW.trod_lt m _ _ _ hm
  have g1 := argInts (hval 1 22 v1 rfl rfl) h1
  clear hA0 hval0
  refine (walk W v0 g0 v1 g1).mono fun e W' ⟨he, bel⟩ => ?_
  subst he
  exact ⟨_, rfl, _, _, _, [], _, [], hW', trodAll_mk1 (shut_bool Try.underlying4 _), (trodAll_cons_mk (Below.trod laidOut (by as_aux_lemma => kernel_rfl) (of_decide_eq_true (by as_aux_lemma => kernel_rfl)) k0 bel lt0) (trodAll_cons_mk (Below.trod laidOut (by as_aux_lemma => kernel_rfl) (of_decide_eq_true (by as_aux_lemma => kernel_rfl)) k1 bel lt1) trodAll_mk0)), rfl, bel.frame _, fun h => by cases h⟩

set_option maxHeartbeats 8000000 in
theorem closed : joinedFacts Try.prog 4 Try.f4 Rows.fnExactCompareWordsSpec Rows.fnExactCompareWordsRow = true := by
  unfold joinedFacts
  simp only [Bool.and_eq_true]
  repeat' apply And.intro
  all_goals first | with_reducible exact frMay | with_reducible exact frLifts _ rfl | with_reducible exact frMake _ rfl | (as_aux_lemma => kernel_rfl)
set_option maxHeartbeats 1000000 in
theorem over : Rows.fnExactCompareWordsRow.holds Try.pinned (OpenSpec.ofChange Rows.fnExactCompareWordsSpec) :=
  OpenClaim.holds_of_wide 4 Try.f4 rfl rfl rfl rfl rfl rfl rfl ⟨rfl, rfl, rfl, rfl, rfl⟩ rfl rfl rfl rfl rfl (by as_aux_lemma => kernel_rfl) Try.func4 closed
    (of_decide_eq_true (by as_aux_lemma => kernel_rfl)) (by unfold Func.isWrapper; first | (rw [if_pos (by decide +kernel)]; kernel_rfl) | (rw [if_neg (by decide +kernel)]; exact ⟨rfl, rfl⟩))
    (fun os started H enc _ => lifted os started H enc)

theorem proved : Rows.FnExactCompareWordsSaid := over
end Go.Proofs.Ytfigilkggjokkaa.fnExactCompareWords
