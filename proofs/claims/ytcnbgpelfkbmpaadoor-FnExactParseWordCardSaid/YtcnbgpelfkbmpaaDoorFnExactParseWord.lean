/-
  FnExactParseWordCardSaid: for every input the law FnExactParseWord returns true, and its arguments read afterwards as before. Condition: the package variables that the row lists hold what their initialisers lay; the card ties that to the text.
-/
import Derived.Test.YtcnbgpelfkbmpaaDoorPrsWd
import Derived.Test.YtcnbgpelfkbmpaaDoorIs
import Derived.Test.YtcnbgpelfkbmpaaDoorFr
import Derived.Test.YtcnbgpelfkbmpaaDoorCards
import Derived.Test.YtcnbgpelfkbmpaaDoorTie
import Derived.Deep.DeepHandedRow
import Derived.Lay
import Derived.SevenTiedAt
import Derived.LaidMore
import Derived.Stop.Joined
namespace Go.Proofs.YtcnbgpelfkbmpaaDoor.fnExactParseWord
open Go.ChangeShapes Go.WideShapes Go.ChangeAt Go.RowKit Go.Deep
open Go.ChangeMaps (open_string shut_string)
set_option linter.unusedVariables false


theorem own : ownKnob Tryd.prog.godebug = none := by kernel_rfl
theorem laidOut : laidOutB Tryd.prog = true := by kernel_rfl

set_option maxRecDepth 4000 in
set_option maxHeartbeats 4000000 in
theorem walk (W : World) (hS : W.ShapedOpen Tryd.prog) (hL : laidMet Tryd.prog Rows.fnExactParseWordRow.laid W) (s0 : ByteArray) (hs0 : s0.size ≤ maxLen) :
    Calls Tryd.prog 3 #[.string s0] W fun e w' => e = .returned (.bool true) ∧ Below W.heap.size W w' := by
  have TM : TabM W := tabM_of hS
  clear hL hS
  by_cases hb : s0.size ≤ 1048576
  · have g0 : ¬ (s0.size : Int) > 1048576 := by omega
    obtain ⟨xs, hxs_⟩ : ∃ r, prsWdN s0.data.toList = r := ⟨_, rfl⟩
    have Hxs := Lib.hid hxs_
    clear hxs_
    obtain ⟨ok, hok_⟩ : ∃ r, prsWdB s0.data.toList = r := ⟨_, rfl⟩
    have Hok := Lib.hid hok_
    clear hok_
    go_enter Tryd.func3, Tryd.ntmps3
    go_wp2_with fail
    refine (specParseWord_is W s0 hb).mono ?_
    rw [Hxs.out, Hok.out]
    rintro e w1 ⟨A1, n1, c1, rfl, O1, hb1⟩
    have hB1 := hb1
    have S1 := hb1.size
    go_wp2_with fail
    refine (implParseWord_is _ (TM.up hB1) s0 hb).mono ?_
    rw [Hxs.out, Hok.out]
    rintro e w2 ⟨A2, n2, c2, rfl, O2, hb2⟩
    have hB2 := below_then hB1 hb2
    have S2 := hb2.size
    replace O1 := O1.below hb2
    clear hb2
    go_wp2_with fail
    refine (eqInts_is _ O2 O1).mono ?_
    rintro e w3 ⟨rfl, hb3⟩
    have hB3 := below_then hB2 hb3
    have S3 := hb3.size
    replace O1 := O1.below hb3
    replace O2 := O2.below hb3
    clear hb3
    have hn2 := O2.bd
    go_wp2_with fail
    refine (markInts_is _ 1 O2 (by omega) (by omega) (by omega)).mono ?_
    rintro e w4 ⟨rfl, M2, t4⟩
    have hB4 := below_tch hB3 t4 (by omega)
    have S4 := t4.size
    replace O1 := O1.tch t4 (.inl (Nat.le_refl _))
    clear t4 O2
    go_wp2_with fail
    refine (heldInts_is _ 1 M2 (by omega)).mono ?_
    rintro e w5 ⟨rfl, hb5⟩
    have hB5 := below_then hB4 hb5
    have S5 := hb5.size
    replace O1 := O1.below hb5
    replace M2 := M2.below hb5
    clear hb5
    go_wp2_with fail
    refine (implParseWord_is _ (TM.up hB5) s0 hb).mono ?_
    rw [Hxs.out, Hok.out]
    rintro e w6 ⟨A6, n6, c6, rfl, O6, hb6⟩
    have hB6 := below_then hB5 hb6
    have S6 := hb6.size
    replace O1 := O1.below hb6
    replace M2 := M2.below hb6
    clear hb6
    go_wp2_with fail
    refine (eqInts_is _ O6 O1).mono ?_
    rintro e w7 ⟨rfl, hb7⟩
    have hB7 := below_then hB6 hb7
    replace M2 := M2.below hb7
    clear hb7
    go_wp2_with fail
    refine (heldInts_is _ 1 M2 (by omega)).mono ?_
    rintro e w8 ⟨rfl, hb8⟩
    have hB8 := below_then hB7 hb8
    clear hb8
    go_wp2
    go_ret
    exact ⟨rfl, hB8⟩
  · have g0 : (s0.size : Int) > 1048576 := by omega
    go_enter Tryd.func3, Tryd.ntmps3
    go_wp2
    go_ret
    exact ⟨rfl, Below.refl _ _⟩

theorem met (os : Os) (args : Array Value) : laidMet Tryd.prog Rows.fnExactParseWordRow.laid ((World.laidAll Tryd.prog os Rows.fnExactParseWordRow.laid).forCall (fun _ _ => 0) ⟨#[], args, []⟩).memory :=
  laidMet_laidAll _ (by as_aux_lemma => kernel_rfl) (by as_aux_lemma => kernel_rfl)
theorem plainly (w : World) : laidMetH Tryd.prog Rows.fnExactParseWordRow.laid w = laidMet Tryd.prog Rows.fnExactParseWordRow.laid w := MakeChecks.laidMetH_plain _ _ _ (by as_aux_lemma => kernel_rfl)
set_option maxRecDepth 100000 in
theorem lifted (os : Os) (started : os.Started) (H : Type) (enc : TypeId × Value → H) (F : Stop.Interp) :
    ReturnsInHanded {} Tryd.checked os 3 .any ((OpenSpec.ofChange Rows.fnExactParseWordSpec).preRow enc Tryd.prog Tryd.f3 Rows.fnExactParseWordRow.domain false Rows.fnExactParseWordRow.laid) (((OpenSpec.ofChange Rows.fnExactParseWordSpec).at F).post enc Tryd.prog Tryd.f3 false true false false) := by
  refine returnsInHanded_of_row (C := Tryd.checked) (s := OpenSpec.ofChange Rows.fnExactParseWordSpec) own started (by as_aux_lemma => kernel_rfl) Tryd.func3
    (ChangeSpec.witness_shaped (enc := enc) (C := Tryd.checked) (os := os) (X := fun w _ => laidMetH Tryd.prog Rows.fnExactParseWordRow.laid w) false (World.laidAll Tryd.prog os Rows.fnExactParseWordRow.laid) #[.string ⟨#[]⟩] 8 (World.laidAll_os _ _ _) (World.shaped_of_ZipB (by as_aux_lemma => kernel_rfl) (by as_aux_lemma => kernel_rfl)) (by as_aux_lemma => kernel_rfl) (by as_aux_lemma => kernel_rfl) (by as_aux_lemma => kernel_rfl) (by rw [plainly]; exact met os _)) ?_
  intro W base args ds gs before hval0 hW _ _ _ hL0 hS _
  have hL : laidMetH Tryd.prog Rows.fnExactParseWordRow.laid W := hL0
  rw [plainly] at hL
  have hval : ∀ (j : Nat) t v, Tryd.f3.params[j]? = some t → args[j]? = some v → Value.okWide Tryd.prog W .any base t v := hval0
  have hW' := hW
  obtain ⟨p, q, hA0, hV, rfl, hfz, hnd⟩ := hW
  have hA : DataW.TrodAll enc Tryd.prog W 0 (fun _ => true) true Tryd.f3.params.toList args.toList ds p := hA0
  rw [Tryd.params3] at hA hval
  obtain ⟨v0, vs0, d0, ds0, p0, q0, hargs, rfl, rfl, h0, r0⟩ := trodAll_cons hA
  obtain ⟨rfl, rfl, rfl⟩ := trodAll_nil r0
  obtain rfl : args = #[v0] := by cases args; simp_all
  obtain ⟨rfl, rfl⟩ := trodVars_none hV
  have k0 := h0
  have lt0 : ∀ x ∈ p0, x.block < W.heap.size := by obtain ⟨m, hm⟩ := k0; exact DataW.trod_lt m _ _ _ hm
  obtain ⟨s0, rfl, rfl, rfl, hs0⟩ := open_string Tryd.underlying9 (hval 0 9 v0 rfl rfl) h0
  clear hA0 hval0
  refine (walk W hS hL s0 hs0).mono fun e W' ⟨he, bel⟩ => ?_
  subst he
  exact ⟨_, rfl, _, _, _, [], _, [], hW', trodAll_mk1 (shut_bool Tryd.underlying4 _), (trodAll_cons_mk (Below.trod laidOut (by as_aux_lemma => kernel_rfl) (of_decide_eq_true (by as_aux_lemma => kernel_rfl)) k0 bel lt0) trodAll_mk0), rfl, bel.frame _, fun h => by cases h⟩

set_option maxHeartbeats 8000000 in
theorem closed : joinedFacts Tryd.prog 3 Tryd.f3 Rows.fnExactParseWordSpec Rows.fnExactParseWordRow = true := by
  unfold joinedFacts
  simp only [Bool.and_eq_true]
  repeat' apply And.intro
  all_goals first | with_reducible exact frMay | with_reducible exact frLifts _ rfl | with_reducible exact frMake _ rfl | (as_aux_lemma => kernel_rfl)
set_option maxRecDepth 100000 in
set_option maxHeartbeats 1000000 in
theorem over : Rows.fnExactParseWordRow.holds Tryd.pinned (OpenSpec.ofChange Rows.fnExactParseWordSpec) :=
  OpenClaim.holds_of_cond 3 Tryd.f3 rfl rfl rfl rfl rfl rfl rfl ⟨rfl, rfl, rfl, rfl, rfl⟩ rfl rfl rfl rfl rfl (by as_aux_lemma => kernel_rfl) Tryd.func3 closed
    (of_decide_eq_true (by as_aux_lemma => kernel_rfl)) (by unfold Func.isWrapper; first | (rw [if_pos (by decide +kernel)]; kernel_rfl) | (rw [if_neg (by decide +kernel)]; exact ⟨rfl, rfl⟩))
    (fun os started H enc _ F => by rw [OpenClaim.pre_eq_preRow]; exact lifted os started H enc F)

theorem plain (f : FuncId) (fn : Func) (hf : Tryd.pinned.checked.prog.funcNamed "loop.example/g01922/laws.FnExactParseWord" = some f) (hfn : Tryd.pinned.checked.prog.funcs[f]? = some fn) :
    true = Tryd.pinned.checked.prog.looks [] ∧ ∀ (j : Nat) t, fn.params[j]? = some t → Tryd.pinned.checked.prog.wantsStandIn t = false := by
  obtain rfl : f = 3 := Option.some.inj ((show Tryd.prog.funcNamed "loop.example/g01922/laws.FnExactParseWord" = some 3 by kernel_rfl).symm.trans hf) |>.symm
  obtain rfl : fn = Tryd.f3 := (Option.some.inj (Tryd.func3.symm.trans hfn)).symm
  refine ⟨by kernel_rfl, fun j t ht => ?_⟩
  rw [Tryd.params3] at ht
  have hm : t ∈ [9] := by simpa using Array.mem_of_getElem? ht
  have hall : ([9].all fun u => !Tryd.prog.wantsStandIn u) = true := by kernel_rfl
  exact (show Tryd.prog.wantsStandIn t = false by simpa using List.all_eq_true.1 hall t hm)

theorem proved : Rows.FnExactParseWordCardSaid :=
  Claim7.holds_tied_plain_at .later [] _ _ _ _ over (fun _ h => by cases h) (by as_aux_lemma => kernel_rfl) (fun _ h => by cases h) fnExactParseWord_row_tie rfl ⟨rfl, rfl⟩ (by as_aux_lemma => kernel_rfl) rfl plain (by as_aux_lemma => kernel_rfl)
end Go.Proofs.YtcnbgpelfkbmpaaDoor.fnExactParseWord
