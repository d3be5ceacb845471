/-
  FnExactIsWordSaid: for every input the law FnExactIsWord returns true, and its arguments read afterwards as before. No condition.
-/
import Derived.Test.YtpenapkdcngobaaWord
namespace Go.Proofs.Ytpenapkdcngobaa.fnExactIsWord
open Go.ChangeShapes Go.WideShapes Go.ChangeAt Go.RowKit Go.Deep
open Go.ChangeMaps (open_string shut_string)
set_option linter.unusedVariables false


theorem own : ownKnob Try.prog.godebug = none := by kernel_rfl
theorem laidOut : laidOutB Try.prog = true := by kernel_rfl

set_option maxRecDepth 4000 in
set_option maxHeartbeats 1000000 in
theorem walk (W : World) (v0 : Value) (g0 : ArgInts W v0) :
    Calls Try.prog 12 #[v0] W fun e w' => e = .returned (.bool true) ∧ Below W.heap.size W w' := by
  obtain ⟨A, n, c, xs, rfl, hl, hnc, hcm, hr, hwf⟩ := g0
  by_cases hb : n ≤ 1048576
  · go_enter Try.func12, Try.ntmps12
    go_wp2_with fail
    refine (toIntS_any A n c xs _ hl (by omega) hr).mono ?_
    rintro e w1 ⟨rfl, ho1, hb1⟩
    go_wp2_with fail
    refine (specIsWord_any _ _ _ xs _ hl (by omega) (Reads.of_own ho1)).mono ?_
    rintro e w' ⟨rfl, rfl⟩
    go_wp2_with fail
    refine (toIntS_any A n c xs _ hl (by omega) (reads_up hr hb1)).mono ?_
    rintro e w2 ⟨rfl, ho2, hb2⟩
    go_wp2_with fail
    refine (implIsWord_any _ _ _ xs _ hl (by omega) (Reads.of_own ho2)).mono ?_
    rintro e w' ⟨rfl, rfl⟩
    have hbb2 := below_then hb1 hb2
    go_wp2_with fail
    refine (toIntS_any A n c xs _ hl (by omega) (reads_up hr hbb2)).mono ?_
    rintro e w3 ⟨rfl, ho3, hb3⟩
    have hbb3 := below_then hbb2 hb3
    go_wp2_with fail
    refine (eqIntS_any _ _ _ _ _ _ xs xs _ hl hl (by omega) (by omega) (reads_up (Reads.of_own ho2) hb3) (Reads.of_own ho3)).mono ?_
    rw [eqB_refl]
    rintro e w4 ⟨rfl, hb4⟩
    go_wp2
    go_ret
    exact ⟨rfl, below_then hbb3 hb4⟩
  · go_enter Try.func12, Try.ntmps12
    go_wp2
    go_ret
    exact ⟨rfl, Below.refl _ _⟩

set_option maxRecDepth 100000 in
theorem lifted (os : Os) (started : os.Started) (H : Type) (enc : TypeId × Value → H) :
    ReturnsInHanded {} Try.checked os 12 .any (Rows.fnExactIsWordSpec.pre6 enc Try.prog Try.f12 Rows.fnExactIsWordRow.domain false) (Rows.fnExactIsWordSpec.post enc Try.prog Try.f12 false true false false) := by
  refine returnsInHanded_of_change (C := Try.checked) own started (by kernel_rfl) Try.func12
    (ChangeSpec.witness6 (enc := enc) (C := Try.checked) false ⟨#[], #[.slice none 0 0], []⟩ 8 (by kernel_rfl) (by kernel_rfl) (by kernel_rfl) (by kernel_rfl)) ?_
  intro W base args ds gs before hval0 hW hcnd _
  have hval : ∀ (j : Nat) t v, Try.f12.params[j]? = some t → args[j]? = some v → Value.okWide Try.prog W .any base t v := hval0
  have hW' := hW
  obtain ⟨p, q, hA0, hV, rfl, hfz, hnd⟩ := hW
  have hA : DataW.TrodAll enc Try.prog W 0 (fun _ => true) true Try.f12.params.toList args.toList ds p := hA0
  rw [Try.params12] at hA hval
  obtain ⟨v0, vs0, d0, ds0, p0, q0, hargs, rfl, rfl, h0, r0⟩ := trodAll_cons hA
  obtain ⟨rfl, rfl, rfl⟩ := trodAll_nil r0
  obtain rfl : args = #[v0] := by cases args; simp_all
  obtain ⟨rfl, rfl⟩ := trodVars_none hV
  have k0 := h0
  have lt0 : ∀ x ∈ p0, x.block < W.heap.size := by obtain ⟨m, hm⟩ := k0; exact DataW.trod_lt m _ _ _ hm
  have g0 := argInts (hval 0 34 v0 rfl rfl) h0
  clear hA0 hval0
  refine (walk W v0 g0).mono fun e W' ⟨he, bel⟩ => ?_
  subst he
  exact ⟨_, rfl, _, _, _, [], _, [], hW', trodAll_mk1 (shut_bool Try.underlying4 _), (trodAll_cons_mk (Below.trod laidOut (by kernel_rfl) (of_decide_eq_true (by kernel_rfl)) k0 bel lt0) trodAll_mk0), rfl, bel.frame _, fun h => by cases h⟩

theorem over : Rows.fnExactIsWordRow.holds Try.pinned (OpenSpec.ofChange Rows.fnExactIsWordSpec) :=
  OpenClaim.holds_of_wide 12 Try.f12 rfl rfl rfl rfl rfl rfl rfl ⟨rfl, rfl, rfl, rfl, rfl⟩ rfl rfl rfl rfl rfl (by kernel_rfl) Try.func12 (by kernel_rfl)
    (of_decide_eq_true (by kernel_rfl)) (by unfold Func.isWrapper; first | (rw [if_pos (by decide +kernel)]; kernel_rfl) | (rw [if_neg (by decide +kernel)]; exact ⟨rfl, rfl⟩))
    (fun os started H enc _ => lifted os started H enc)

theorem proved : Rows.FnExactIsWordSaid := over
end Go.Proofs.Ytpenapkdcngobaa.fnExactIsWord
