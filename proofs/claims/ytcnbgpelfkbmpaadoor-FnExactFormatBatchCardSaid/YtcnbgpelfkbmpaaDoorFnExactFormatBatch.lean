/-
  FnExactFormatBatchCardSaid: for every input the law FnExactFormatBatch returns true, and its arguments read afterwards as before. Condition: the package variables that the row lists hold what their initialisers lay; the card ties that to the text.
-/
import Derived.Test.YtcnbgpelfkbmpaaDoorFmtB
import Derived.Test.YtcnbgpelfkbmpaaDoorFr
import Derived.Test.YtcnbgpelfkbmpaaDoorCards
import Derived.Test.YtcnbgpelfkbmpaaDoorTie
import Derived.Deep.DeepHandedRow
import Derived.Lay
import Derived.SevenTiedAt
import Derived.LaidMore
import Derived.Stop.Joined
namespace Go.Proofs.YtcnbgpelfkbmpaaDoor.fnExactFormatBatch
open Go.ChangeShapes Go.WideShapes Go.ChangeAt Go.RowKit Go.Deep
open Go.ChangeMaps (open_string shut_string)
set_option linter.unusedVariables false


theorem own : ownKnob Tryd.prog.godebug = none := by kernel_rfl
theorem laidOut : laidOutB Tryd.prog = true := by kernel_rfl

set_option maxRecDepth 4000 in
set_option maxHeartbeats 8000000 in
theorem walk (W : World) (hS : W.ShapedOpen Tryd.prog) (hL : laidMet Tryd.prog Rows.fnExactFormatBatchRow.laid W) (v0 : Value) (g0 : ArgBatch W v0) :
    Calls Tryd.prog 9 #[v0] W fun e w' => e = .returned (.bool true) ∧ Below W.heap.size W w' := by
  have TP : TabP W := tabP_of hL.tail.tail
  clear hL hS
  obtain ⟨A0, n0, c0, l0, rfl, hl0, hr0, hn0, _⟩ := g0
  obtain ⟨r0, hr0_⟩ : ∃ r, fmtBt l0 = r := ⟨_, rfl⟩
  have HR0 := Lib.hid hr0_
  clear hr0_
  go_enter Tryd.func9, Tryd.ntmps9
  go_wp2_with fail
  have hB0 : Below W.heap.size W (W.alloc (.cells #[.slice A0 n0 c0] 62)) := (Below.refl _ _).alloc (Nat.le_refl _) _
  have kaB_0_0 : (W.alloc (.cells #[.slice A0 n0 c0] 62)).cell? ⟨W.heap.size, 0, none⟩ = some (.slice A0 n0 c0) := by go_simp
  have S0 : W.heap.size < (W.alloc (.cells #[.slice A0 n0 c0] 62)).heap.size := by simp <;> omega
  generalize (W.alloc (.cells #[.slice A0 n0 c0] 62)) = w0 at *
  have hsok1 := szI_ok (l := 1048576) (n := n0)
  have hrg1 : szI 1048576 n0 < 0 ∨ ¬ szI 1048576 n0 < 0 := by omega
  refine (szBatch_any A0 n0 c0 1048576 _ hn0 (by omega) (by omega)).mono ?_
  rintro e w1 ⟨rfl, hb1⟩
  have S1 : w0.heap.size ≤ w1.heap.size := hb1.size
  have hB1 := below_then hB0 hb1
  have kaB_0_1 := cell_keep hb1 kaB_0_0
  clear kaB_0_0 hb1
  obtain ⟨q1, hq1⟩ : ∃ q, szI 1048576 n0 = q := ⟨_, rfl⟩
  rw [hq1] at hsok1 hrg1 ⊢
  clear hq1
  rcases hrg1 with hneg | hpos
  · go_wp2
    go_ret
    exact ⟨rfl, hB1⟩
  obtain ⟨hsum1, hq1b, hq1c⟩ := hsok1 hpos
  have hq1d : q1 ≤ 1048576 := by omega
  replace hq1c := hq1d
  clear hq1d
  have GA0 : CRd W A0 n0 l0 := ⟨hl0, hr0, by omega⟩
  clear hsum1 hsok1 hn0 hl0 hr0
  go_wp2_with fail
  refine (toBatch_rd _ (GA0.up hB1)).mono ?_
  rintro e w2 ⟨X2A, rfl, O2, hb2⟩
  have S2 : w1.heap.size ≤ w2.heap.size := hb2.size
  have hB2 := below_then hB1 hb2
  have kaB_0_2 := cell_keep hb2 kaB_0_1
  clear hB1 kaB_0_1 hb2
  go_wp2_with fail
  refine (specFormatBatch_is _ O2.crd).mono ?_
  rw [HR0.out]
  rintro e w3 ⟨rfl, hb3⟩
  have S3 : w2.heap.size ≤ w3.heap.size := hb3.size
  have hB3 := below_then hB2 hb3
  have kaB_0_3 := cell_keep hb3 kaB_0_2
  replace O2 := O2.below hb3
  clear hB2 kaB_0_2 hb3
  clear O2
  go_wp2_with fail
  refine (toBatch_rd _ (GA0.up hB3)).mono ?_
  rintro e w4 ⟨X4A, rfl, O4, hb4⟩
  have S4 : w3.heap.size ≤ w4.heap.size := hb4.size
  have hB4 := below_then hB3 hb4
  have kaB_0_4 := cell_keep hb4 kaB_0_3
  clear hB3 kaB_0_3 hb4
  have hb5 : Below w4.heap.size w4 (w4.alloc (.cells #[.slice X4A n0 n0] 67)) := (Below.refl _ _).alloc (Nat.le_refl _) _
  have kx0_0_5 : (w4.alloc (.cells #[.slice X4A n0 n0] 67)).cell? ⟨w4.heap.size, 0, none⟩ = some (.slice X4A n0 n0) := by go_simp
  have S5 : w4.heap.size < (w4.alloc (.cells #[.slice X4A n0 n0] 67)).heap.size := by simp
  have hB5 := below_then hB4 hb5
  have kaB_0_5 := cell_keep hb5 kaB_0_4
  replace O4 := O4.below hb5
  clear hB4 kaB_0_4 hb5
  go_wp2_with fail
  generalize (w4.alloc (.cells #[.slice X4A n0 n0] 67)) = w5 at *
  refine (implFormatBatch_is _ O4.crd (TP.up (by assumption))).mono ?_
  rw [HR0.out]
  rintro e w6 ⟨rfl, hb6⟩
  have S6 : w5.heap.size ≤ w6.heap.size := hb6.size
  have hB6 := below_then hB5 hb6
  have kaB_0_6 := cell_keep hb6 kaB_0_5
  have kx0_0_6 := cell_keep hb6 kx0_0_5
  replace O4 := O4.below hb6
  clear hB5 kaB_0_5 kx0_0_5 hb6
  go_wp2_with fail
  have hbD6 : Below w6.heap.size w6 w6.drew := (Below.refl _ _).drew
  have hBD6 := below_then hB6 hbD6
  have kaB_0_D6 := cell_keep hbD6 kaB_0_6
  have kx0_0_D6 := cell_keep hbD6 kx0_0_6
  replace O4 := O4.below hbD6
  go_region_held3 (fun w' => w'.cell? ⟨W.heap.size, 0, none⟩ = some (.slice A0 n0 c0) ∧ w'.cell? ⟨w4.heap.size, 0, none⟩ = some (.slice X4A n0 n0)) (first | exact ⟨kaB_0_D6, kx0_0_D6⟩ | exact ⟨kaB_0_7, kx0_0_7⟩ | exact ⟨kaB_0_8, kx0_0_8⟩) (first
      | (go_simp; go_at_call 42; refine (eqBatch_is _ O4 O7).mono ?_; rintro e w8 ⟨rfl, hb8⟩; have S8 : w7.heap.size ≤ w8.heap.size := hb8.size; have hB8 := below_then hB7 hb8; have kaB_0_8 := cell_keep hb8 kaB_0_7; have kx0_0_8 := cell_keep hb8 kx0_0_7; replace O4 := O4.below hb8; replace O7 := O7.below hb8; dsimp only)
      | (go_simp; go_at_call 40; refine (toBatch_rd _ (GA0.up hBD6)).mono ?_; rintro e w7 ⟨X7A, rfl, O7, hb7⟩; have S7 : w6.heap.size ≤ w7.heap.size := hb7.size; have hB7 := below_then hBD6 hb7; have kaB_0_7 := cell_keep hb7 kaB_0_D6; have kx0_0_7 := cell_keep hb7 kx0_0_D6; replace O4 := O4.below hb7; replace O7 := O7.wide (lo := w6.heap.size) (hi := w7.heap.size) (Nat.le_refl _) (Nat.le_refl _); dsimp only))
  clear hB6 kaB_0_6 kx0_0_6 hbD6 hBD6 kaB_0_D6 kx0_0_D6 hb7 hB7 kaB_0_7 kx0_0_7 hb8
  clear O7
  all_goals
    go_wp2
    go_ret
    exact ⟨rfl, hB8⟩

theorem met (os : Os) (args : Array Value) : laidMet Tryd.prog Rows.fnExactFormatBatchRow.laid ((World.laidAll Tryd.prog os Rows.fnExactFormatBatchRow.laid).forCall (fun _ _ => 0) ⟨#[], args, []⟩).memory :=
  laidMet_laidAll _ (by as_aux_lemma => kernel_rfl) (by as_aux_lemma => kernel_rfl)
theorem plainly (w : World) : laidMetH Tryd.prog Rows.fnExactFormatBatchRow.laid w = laidMet Tryd.prog Rows.fnExactFormatBatchRow.laid w := MakeChecks.laidMetH_plain _ _ _ (by as_aux_lemma => kernel_rfl)
set_option maxRecDepth 100000 in
theorem lifted (os : Os) (started : os.Started) (H : Type) (enc : TypeId × Value → H) (F : Stop.Interp) :
    ReturnsInHanded {} Tryd.checked os 9 .any ((OpenSpec.ofChange Rows.fnExactFormatBatchSpec).preRow enc Tryd.prog Tryd.f9 Rows.fnExactFormatBatchRow.domain false Rows.fnExactFormatBatchRow.laid) (((OpenSpec.ofChange Rows.fnExactFormatBatchSpec).at F).post enc Tryd.prog Tryd.f9 false true false false) := by
  refine returnsInHanded_of_row (C := Tryd.checked) (s := OpenSpec.ofChange Rows.fnExactFormatBatchSpec) own started (by as_aux_lemma => kernel_rfl) Tryd.func9
    (ChangeSpec.witness_shaped (enc := enc) (C := Tryd.checked) (os := os) (X := fun w _ => laidMetH Tryd.prog Rows.fnExactFormatBatchRow.laid w) false (World.laidAll Tryd.prog os Rows.fnExactFormatBatchRow.laid) #[.agg #[.slice none 0 0]] 8 (World.laidAll_os _ _ _) (World.shaped_of_ZipB (by as_aux_lemma => kernel_rfl) (by as_aux_lemma => kernel_rfl)) (by as_aux_lemma => kernel_rfl) (by as_aux_lemma => kernel_rfl) (by as_aux_lemma => kernel_rfl) (by rw [plainly]; exact met os _)) ?_
  intro W base args ds gs before hval0 hW _ _ _ hL0 hS _
  have hL : laidMetH Tryd.prog Rows.fnExactFormatBatchRow.laid W := hL0
  rw [plainly] at hL
  have hval : ∀ (j : Nat) t v, Tryd.f9.params[j]? = some t → args[j]? = some v → Value.okWide Tryd.prog W .any base t v := hval0
  have hW' := hW
  obtain ⟨p, q, hA0, hV, rfl, hfz, hnd⟩ := hW
  have hA : DataW.TrodAll enc Tryd.prog W 0 (fun _ => true) true Tryd.f9.params.toList args.toList ds p := hA0
  rw [Tryd.params9] at hA hval
  obtain ⟨v0, vs0, d0, ds0, p0, q0, hargs, rfl, rfl, h0, r0⟩ := trodAll_cons hA
  obtain ⟨rfl, rfl, rfl⟩ := trodAll_nil r0
  obtain rfl : args = #[v0] := by cases args; simp_all
  obtain ⟨rfl, rfl⟩ := trodVars_none hV
  have k0 := h0
  have lt0 : ∀ x ∈ p0, x.block < W.heap.size := by obtain ⟨m, hm⟩ := k0; exact DataW.trod_lt m _ _ _ hm
  have g0 := argBatch (hval 0 62 v0 rfl rfl) h0
  clear hA0 hval0
  refine (walk W hS hL v0 g0).mono fun e W' ⟨he, bel⟩ => ?_
  subst he
  exact ⟨_, rfl, _, _, _, [], _, [], hW', trodAll_mk1 (shut_bool Tryd.underlying4 _), (trodAll_cons_mk (Below.trod laidOut (by as_aux_lemma => kernel_rfl) (of_decide_eq_true (by as_aux_lemma => kernel_rfl)) k0 bel lt0) trodAll_mk0), rfl, bel.frame _, fun h => by cases h⟩

set_option maxHeartbeats 8000000 in
theorem closed : joinedFacts Tryd.prog 9 Tryd.f9 Rows.fnExactFormatBatchSpec Rows.fnExactFormatBatchRow = true := by
  unfold joinedFacts
  simp only [Bool.and_eq_true]
  repeat' apply And.intro
  all_goals first | with_reducible exact frMay | with_reducible exact frLifts _ rfl | with_reducible exact frMake _ rfl | (as_aux_lemma => kernel_rfl)
set_option maxRecDepth 100000 in
set_option maxHeartbeats 1000000 in
theorem over : Rows.fnExactFormatBatchRow.holds Tryd.pinned (OpenSpec.ofChange Rows.fnExactFormatBatchSpec) :=
  OpenClaim.holds_of_cond 9 Tryd.f9 rfl rfl rfl rfl rfl rfl rfl ⟨rfl, rfl, rfl, rfl, rfl⟩ rfl rfl rfl rfl rfl (by as_aux_lemma => kernel_rfl) Tryd.func9 closed
    (of_decide_eq_true (by as_aux_lemma => kernel_rfl)) (by unfold Func.isWrapper; first | (rw [if_pos (by decide +kernel)]; kernel_rfl) | (rw [if_neg (by decide +kernel)]; exact ⟨rfl, rfl⟩))
    (fun os started H enc _ F => by rw [OpenClaim.pre_eq_preRow]; exact lifted os started H enc F)

theorem plain (f : FuncId) (fn : Func) (hf : Tryd.pinned.checked.prog.funcNamed "loop.example/g01922/laws.FnExactFormatBatch" = some f) (hfn : Tryd.pinned.checked.prog.funcs[f]? = some fn) :
    true = Tryd.pinned.checked.prog.looks [] ∧ ∀ (j : Nat) t, fn.params[j]? = some t → Tryd.pinned.checked.prog.wantsStandIn t = false := by
  obtain rfl : f = 9 := Option.some.inj ((show Tryd.prog.funcNamed "loop.example/g01922/laws.FnExactFormatBatch" = some 9 by kernel_rfl).symm.trans hf) |>.symm
  obtain rfl : fn = Tryd.f9 := (Option.some.inj (Tryd.func9.symm.trans hfn)).symm
  refine ⟨by kernel_rfl, fun j t ht => ?_⟩
  rw [Tryd.params9] at ht
  have hm : t ∈ [62] := by simpa using Array.mem_of_getElem? ht
  have hall : ([62].all fun u => !Tryd.prog.wantsStandIn u) = true := by kernel_rfl
  exact (show Tryd.prog.wantsStandIn t = false by simpa using List.all_eq_true.1 hall t hm)

theorem proved : Rows.FnExactFormatBatchCardSaid :=
  Claim7.holds_tied_plain_at .later [] _ _ _ _ over (fun _ h => by cases h) (by as_aux_lemma => kernel_rfl) (fun _ h => by cases h) fnExactFormatBatch_row_tie rfl ⟨rfl, rfl⟩ (by as_aux_lemma => kernel_rfl) rfl plain (by as_aux_lemma => kernel_rfl)
end Go.Proofs.YtcnbgpelfkbmpaaDoor.fnExactFormatBatch
