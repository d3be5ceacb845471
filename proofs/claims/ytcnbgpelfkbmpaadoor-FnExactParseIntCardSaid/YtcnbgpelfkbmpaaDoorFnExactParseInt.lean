/-
  FnExactParseIntCardSaid: for every input the law FnExactParseInt returns true, and its arguments read afterwards as before. Condition: the package variables that the row lists hold what their initialisers lay; the card ties that to the text.
-/
import Derived.Test.YtcnbgpelfkbmpaaDoorPrsI
import Derived.Test.YtcnbgpelfkbmpaaDoorFr
import Derived.Test.YtcnbgpelfkbmpaaDoorCards
import Derived.Test.YtcnbgpelfkbmpaaDoorTie
import Derived.Deep.DeepHandedRow
import Derived.Lay
import Derived.SevenTiedAt
import Derived.LaidMore
import Derived.Stop.Joined
namespace Go.Proofs.YtcnbgpelfkbmpaaDoor.fnExactParseInt
open Go.ChangeShapes Go.WideShapes Go.ChangeAt Go.RowKit Go.Deep
open Go.ChangeMaps (open_string shut_string)
set_option linter.unusedVariables false


theorem own : ownKnob Tryd.prog.godebug = none := by kernel_rfl
theorem laidOut : laidOutB Tryd.prog = true := by kernel_rfl

theorem walk (W : World) (hS : W.ShapedOpen Tryd.prog) (hL : laidMet Tryd.prog Rows.fnExactParseIntRow.laid W) (s0 : ByteArray) (hs0 : s0.size ≤ maxLen) :
    Calls Tryd.prog 5 #[.string s0] W fun e w' => e = .returned (.bool true) ∧ Below W.heap.size W w' := by
  have TP : TabP W := tabP_of hL.tail.tail
  have TE : TabE W := tabE_of hL.tail.tail.tail.tail
  by_cases hb : s0.size ≤ 1048576
  · obtain ⟨N, hN⟩ : ∃ N, prsIN s0.data.toList = N := ⟨_, rfl⟩
    obtain ⟨B, hB⟩ : ∃ B, prsIB s0.data.toList = B := ⟨_, rfl⟩
    have h1 := specParseInt_any W s0 (by omega)
    rw [hN, hB] at h1
    have g0 : ¬ (s0.size : Int) > 1048576 := by omega
    go_enter Tryd.func5, Tryd.ntmps5
    go_wp2_with fail
    refine h1.mono ?_
    rintro e w1 ⟨rfl, hb1⟩
    have h2 := implParseInt_any w1 (TP.up hb1) (TE.up hb1) s0
    rw [hN, hB] at h2
    go_wp2_with fail
    refine h2.mono ?_
    rintro e w2 ⟨rfl, hb2⟩
    have hB2 := below_then hb1 hb2
    clear h1 h2
    go_wp2
    go_ret
    exact ⟨rfl, hB2⟩
  · have g0 : (s0.size : Int) > 1048576 := by omega
    go_enter Tryd.func5, Tryd.ntmps5
    go_wp2
    go_ret
    exact ⟨rfl, Below.refl _ _⟩

theorem met (os : Os) (args : Array Value) : laidMet Tryd.prog Rows.fnExactParseIntRow.laid ((World.laidAll Tryd.prog os Rows.fnExactParseIntRow.laid).forCall (fun _ _ => 0) ⟨#[], args, []⟩).memory :=
  laidMet_laidAll _ (by as_aux_lemma => kernel_rfl) (by as_aux_lemma => kernel_rfl)
theorem plainly (w : World) : laidMetH Tryd.prog Rows.fnExactParseIntRow.laid w = laidMet Tryd.prog Rows.fnExactParseIntRow.laid w := MakeChecks.laidMetH_plain _ _ _ (by as_aux_lemma => kernel_rfl)
set_option maxRecDepth 100000 in
theorem lifted (os : Os) (started : os.Started) (H : Type) (enc : TypeId × Value → H) (F : Stop.Interp) :
    ReturnsInHanded {} Tryd.checked os 5 .any ((OpenSpec.ofChange Rows.fnExactParseIntSpec).preRow enc Tryd.prog Tryd.f5 Rows.fnExactParseIntRow.domain false Rows.fnExactParseIntRow.laid) (((OpenSpec.ofChange Rows.fnExactParseIntSpec).at F).post enc Tryd.prog Tryd.f5 false true false false) := by
  refine returnsInHanded_of_row (C := Tryd.checked) (s := OpenSpec.ofChange Rows.fnExactParseIntSpec) own started (by as_aux_lemma => kernel_rfl) Tryd.func5
    (ChangeSpec.witness_shaped (enc := enc) (C := Tryd.checked) (os := os) (X := fun w _ => laidMetH Tryd.prog Rows.fnExactParseIntRow.laid w) false (World.laidAll Tryd.prog os Rows.fnExactParseIntRow.laid) #[.string ⟨#[]⟩] 8 (World.laidAll_os _ _ _) (World.shaped_of_ZipB (by as_aux_lemma => kernel_rfl) (by as_aux_lemma => kernel_rfl)) (by as_aux_lemma => kernel_rfl) (by as_aux_lemma => kernel_rfl) (by as_aux_lemma => kernel_rfl) (by rw [plainly]; exact met os _)) ?_
  intro W base args ds gs before hval0 hW _ _ _ hL0 hS _
  have hL : laidMetH Tryd.prog Rows.fnExactParseIntRow.laid W := hL0
  rw [plainly] at hL
  have hval : ∀ (j : Nat) t v, Tryd.f5.params[j]? = some t → args[j]? = some v → Value.okWide Tryd.prog W .any base t v := hval0
  have hW' := hW
  obtain ⟨p, q, hA0, hV, rfl, hfz, hnd⟩ := hW
  have hA : DataW.TrodAll enc Tryd.prog W 0 (fun _ => true) true Tryd.f5.params.toList args.toList ds p := hA0
  rw [Tryd.params5] at hA hval
  obtain ⟨v0, vs0, d0, ds0, p0, q0, hargs, rfl, rfl, h0, r0⟩ := trodAll_cons hA
  obtain ⟨rfl, rfl, rfl⟩ := trodAll_nil r0
  obtain rfl : args = #[v0] := by cases args; simp_all
  obtain ⟨rfl, rfl⟩ := trodVars_none hV
  have k0 := h0
  have lt0 : ∀ x ∈ p0, x.block < W.heap.size := by obtain ⟨m, hm⟩ := k0; exact DataW.trod_lt m _ _ _ hm
  obtain ⟨s0, rfl, rfl, rfl, hs0⟩ := open_string Tryd.underlying9 (hval 0 9 v0 rfl rfl) h0
  clear hA0 hval0
  refine (walk W hS hL s0 hs0).mono fun e W' ⟨he, bel⟩ => ?_
  subst he
  exact ⟨_, rfl, _, _, _, [], _, [], hW', trodAll_mk1 (shut_bool Tryd.underlying4 _), (trodAll_cons_mk (Below.trod laidOut (by as_aux_lemma => kernel_rfl) (of_decide_eq_true (by as_aux_lemma => kernel_rfl)) k0 bel lt0) trodAll_mk0), rfl, bel.frame _, fun h => by cases h⟩

set_option maxHeartbeats 8000000 in
theorem closed : joinedFacts Tryd.prog 5 Tryd.f5 Rows.fnExactParseIntSpec Rows.fnExactParseIntRow = true := by
  unfold joinedFacts
  simp only [Bool.and_eq_true]
  repeat' apply And.intro
  all_goals first | with_reducible exact frMay | with_reducible exact frLifts _ rfl | with_reducible exact frMake _ rfl | (as_aux_lemma => kernel_rfl)
set_option maxRecDepth 100000 in
set_option maxHeartbeats 1000000 in
theorem over : Rows.fnExactParseIntRow.holds Tryd.pinned (OpenSpec.ofChange Rows.fnExactParseIntSpec) :=
  OpenClaim.holds_of_cond 5 Tryd.f5 rfl rfl rfl rfl rfl rfl rfl ⟨rfl, rfl, rfl, rfl, rfl⟩ rfl rfl rfl rfl rfl (by as_aux_lemma => kernel_rfl) Tryd.func5 closed
    (of_decide_eq_true (by as_aux_lemma => kernel_rfl)) (by unfold Func.isWrapper; first | (rw [if_pos (by decide +kernel)]; kernel_rfl) | (rw [if_neg (by decide +kernel)]; exact ⟨rfl, rfl⟩))
    (fun os started H enc _ F => by rw [OpenClaim.pre_eq_preRow]; exact lifted os started H enc F)

theorem plain (f : FuncId) (fn : Func) (hf : Tryd.pinned.checked.prog.funcNamed "loop.example/g01922/laws.FnExactParseInt" = some f) (hfn : Tryd.pinned.checked.prog.funcs[f]? = some fn) :
    true = Tryd.pinned.checked.prog.looks [] ∧ ∀ (j : Nat) t, fn.params[j]? = some t → Tryd.pinned.checked.prog.wantsStandIn t = false := by
  obtain rfl : f = 5 := Option.some.inj ((show Tryd.prog.funcNamed "loop.example/g01922/laws.FnExactParseInt" = some 5 by kernel_rfl).symm.trans hf) |>.symm
  obtain rfl : fn = Tryd.f5 := (Option.some.inj (Tryd.func5.symm.trans hfn)).symm
  refine ⟨by kernel_rfl, fun j t ht => ?_⟩
  rw [Tryd.params5] at ht
  have hm : t ∈ [9] := by simpa using Array.mem_of_getElem? ht
  have hall : ([9].all fun u => !Tryd.prog.wantsStandIn u) = true := by kernel_rfl
  exact (show Tryd.prog.wantsStandIn t = false by simpa using List.all_eq_true.1 hall t hm)

theorem proved : Rows.FnExactParseIntCardSaid :=
  Claim7.holds_tied_plain_at .later [] _ _ _ _ over (fun _ h => by cases h) (by as_aux_lemma => kernel_rfl) (fun _ h => by cases h) fnExactParseInt_row_tie rfl ⟨rfl, rfl⟩ (by as_aux_lemma => kernel_rfl) rfl plain (by as_aux_lemma => kernel_rfl)
end Go.Proofs.YtcnbgpelfkbmpaaDoor.fnExactParseInt
