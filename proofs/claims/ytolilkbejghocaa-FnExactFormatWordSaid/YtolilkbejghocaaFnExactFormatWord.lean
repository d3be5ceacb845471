/-
  FnExactFormatWordSaid: for every input the law FnExactFormatWord returns true, and its arguments read afterwards as before. No condition.
-/
import Derived.Test.YtolilkbejghocaaFmtW
import Derived.Test.YtolilkbejghocaaIs
import Derived.Test.YtolilkbejghocaaFr
namespace Go.Proofs.Ytolilkbejghocaa.fnExactFormatWord
open Go.ChangeShapes Go.WideShapes Go.ChangeAt Go.RowKit Go.Deep
open Go.ChangeMaps (open_string shut_string)
set_option linter.unusedVariables false


theorem own : ownKnob Try.prog.godebug = none := by kernel_rfl
theorem laidOut : laidOutB Try.prog = true := by kernel_rfl

set_option maxRecDepth 4000 in
set_option maxHeartbeats 1000000 in
theorem walk (W : World) (v0 : Value) (g0 : ArgInts W v0) :
    Calls Try.prog 12 #[v0] W fun e w' => e = .returned (.bool true) ∧ Below W.heap.size W w' := by
  obtain ⟨A, n, c, xs, rfl, hl, hnc, hcm, hr, hwf⟩ := g0
  by_cases hb : n ≤ 1048576
  · have GA : IRd W A n xs := ⟨hl, hr, by omega⟩
    obtain ⟨F, hF⟩ : ∃ F, fmtWd xs = F := ⟨_, rfl⟩
    have HF := Lib.hid hF
    clear hF
    go_enter Try.func12, Try.ntmps12
    go_wp2_with fail
    refine (toIntS_rd _ GA).mono ?_
    rintro e w1 ⟨A1, rfl, O1, hb1⟩
    go_wp2_with fail
    refine (specFormatWord_is _ O1.ird).mono ?_
    rw [HF.out]
    rintro e w2 ⟨rfl, hb2⟩
    have hB2 := below_then hb1 hb2
    clear O1 hb1 hb2
    go_wp2_with fail
    refine (toIntS_rd _ (GA.up hB2)).mono ?_
    rintro e w3 ⟨A3, rfl, O3, hb3⟩
    have hB3 := below_then hB2 hb3
    go_wp2_with fail
    refine (implFormatWord_is _ O3.ird).mono ?_
    rw [HF.out]
    rintro e w4 ⟨rfl, hb4⟩
    have hB4 := below_then hB3 hb4
    have O4 := O3.below hb4
    clear O3 hb3 hb4
    go_wp2_with fail
    refine (toIntS_rd _ (GA.up hB4)).mono ?_
    rintro e w5 ⟨A5, rfl, O5, hb5⟩
    have hB5 := below_then hB4 hb5
    have O6 := O4.below hb5
    go_wp2_with fail
    refine (eqInts_is _ O6 O5).mono ?_
    rintro e w6 ⟨rfl, hb6⟩
    have hB6 := below_then hB5 hb6
    go_wp2
    go_ret
    exact ⟨rfl, hB6⟩
  · go_enter Try.func12, Try.ntmps12
    go_wp2
    go_ret
    exact ⟨rfl, Below.refl _ _⟩

set_option maxRecDepth 100000 in
theorem lifted (os : Os) (started : os.Started) (H : Type) (enc : TypeId × Value → H) :
    ReturnsInHanded {} Try.checked os 12 .any (Rows.fnExactFormatWordSpec.pre6 enc Try.prog Try.f12 Rows.fnExactFormatWordRow.domain false) (Rows.fnExactFormatWordSpec.post enc Try.prog Try.f12 false true false false) := by
  refine returnsInHanded_of_change (C := Try.checked) own started (by as_aux_lemma => kernel_rfl) Try.func12
    (ChangeSpec.witness6 (enc := enc) (C := Try.checked) false ⟨#[], #[.slice none 0 0], []⟩ 8 (by as_aux_lemma => kernel_rfl) (by as_aux_lemma => kernel_rfl) (by as_aux_lemma => kernel_rfl) (by as_aux_lemma => kernel_rfl)) ?_
  intro W base args ds gs before hval0 hW hcnd _
  have hval : ∀ (j : Nat) t v, Try.f12.params[j]? = some t → args[j]? = some v → Value.okWide Try.prog W .any base t v := hval0
  have hW' := hW
  obtain ⟨p, q, hA0, hV, rfl, hfz, hnd⟩ := hW
  have hA : DataW.TrodAll enc Try.prog W 0 (fun _ => true) true Try.f12.params.toList args.toList ds p := hA0
  rw [Try.params12] at hA hval
  obtain ⟨v0, vs0, d0, ds0, p0, q0, hargs, rfl, rfl, h0, r0⟩ := trodAll_cons hA
  obtain ⟨rfl, rfl, rfl⟩ := trodAll_nil r0
  obtain rfl : args = #[v0] := by cases args; simp_all
  obtain ⟨rfl, rfl⟩ := trodVars_none hV
  have k0 := h0
  have lt0 : ∀ x ∈ p0, x.block < W.heap.size := by obtain ⟨m, hm⟩ := k0; exact DataW.trod_lt m _ _ _ hm
  have g0 := argInts (hval 0 46 v0 rfl rfl) h0
  clear hA0 hval0
  refine (walk W v0 g0).mono fun e W' ⟨he, bel⟩ => ?_
  subst he
  exact ⟨_, rfl, _, _, _, [], _, [], hW', trodAll_mk1 (shut_bool Try.underlying4 _), (trodAll_cons_mk (Below.trod laidOut (by as_aux_lemma => kernel_rfl) (of_decide_eq_true (by as_aux_lemma => kernel_rfl)) k0 bel lt0) trodAll_mk0), rfl, bel.frame _, fun h => by cases h⟩

set_option maxHeartbeats 8000000 in
theorem closed : joinedFacts Try.prog 12 Try.f12 Rows.fnExactFormatWordSpec Rows.fnExactFormatWordRow = true := by
  unfold joinedFacts
  simp only [Bool.and_eq_true]
  repeat' apply And.intro
  all_goals first | with_reducible exact frMay | with_reducible exact frLifts _ rfl | with_reducible exact frMake _ rfl | (as_aux_lemma => kernel_rfl)
set_option maxHeartbeats 1000000 in
theorem over : Rows.fnExactFormatWordRow.holds Try.pinned (OpenSpec.ofChange Rows.fnExactFormatWordSpec) :=
  OpenClaim.holds_of_wide 12 Try.f12 rfl rfl rfl rfl rfl rfl rfl ⟨rfl, rfl, rfl, rfl, rfl⟩ rfl rfl rfl rfl rfl (by as_aux_lemma => kernel_rfl) Try.func12 closed
    (of_decide_eq_true (by as_aux_lemma => kernel_rfl)) (by unfold Func.isWrapper; first | (rw [if_pos (by decide +kernel)]; kernel_rfl) | (rw [if_neg (by decide +kernel)]; exact ⟨rfl, rfl⟩))
    (fun os started H enc _ => lifted os started H enc)

theorem proved : Rows.FnExactFormatWordSaid := over
end Go.Proofs.Ytolilkbejghocaa.fnExactFormatWord
