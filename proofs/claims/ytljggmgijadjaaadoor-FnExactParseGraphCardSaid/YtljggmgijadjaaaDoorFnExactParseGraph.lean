/-
  FnExactParseGraphCardSaid: for every input the law FnExactParseGraph returns true, and its arguments read afterwards as before. Condition: the package variables that the row lists hold what their initialisers lay; the card ties that to the text.
-/
import Derived.Test.YtljggmgijadjaaaDoorPrsG
import Derived.Test.YtljggmgijadjaaaDoorIs
import Derived.Test.YtljggmgijadjaaaDoorFr
import Derived.Test.YtljggmgijadjaaaDoorCards
import Derived.Test.YtljggmgijadjaaaDoorTie
import Derived.Deep.DeepHandedRow
import Derived.Lay
import Derived.SevenTiedAt
import Derived.LaidMore
import Derived.Stop.Joined
namespace Go.Proofs.YtljggmgijadjaaaDoor.fnExactParseGraph
open Go.ChangeShapes Go.WideShapes Go.ChangeAt Go.RowKit Go.Deep
open Go.ChangeMaps (open_string shut_string)
set_option linter.unusedVariables false


theorem own : ownKnob Tryd.prog.godebug = none := by kernel_rfl
theorem laidOut : laidOutB Tryd.prog = true := by kernel_rfl

set_option maxRecDepth 4000 in
set_option maxHeartbeats 8000000 in
theorem walk (W : World) (hS : W.ShapedOpen Tryd.prog) (hL : laidMet Tryd.prog Rows.fnExactParseGraphRow.laid W) (s0 : ByteArray) (hs0 : s0.size ≤ maxLen) :
    Calls Tryd.prog 3 #[.string s0] W fun e w' => e = .returned (.bool true) ∧ Below W.heap.size W w' := by
  have TP : TabP W := tabP_of hL.tail.tail
  have TE : TabE W := tabE_of hL.tail.tail.tail.tail.tail
  have TM : TabM W := tabM_of hS
  clear hL hS
  obtain ⟨r0, hr0_⟩ : ∃ r, prsGr s0.data.toList = r := ⟨_, rfl⟩
  have HR0 := Lib.hid hr0_
  clear hr0_
  obtain ⟨r1, hr1_⟩ : ∃ r, prsGrB s0.data.toList = r := ⟨_, rfl⟩
  have HR1 := Lib.hid hr1_
  clear hr1_
  rcases Nat.lt_or_ge 1048576 s0.size with hb | hb
  · have gsz : (s0.size : Int) > 1048576 := by omega
    go_enter Tryd.func3, Tryd.ntmps3
    go_wp2
    go_ret
    exact ⟨rfl, Below.refl _ _⟩
  have gsz : ¬ (s0.size : Int) > 1048576 := by omega
  go_enter Tryd.func3, Tryd.ntmps3
  go_wp2_with fail
  have hB0 : Below W.heap.size W W := Below.refl _ _
  have S0 : W.heap.size ≤ W.heap.size := Nat.le_refl _
  go_wp2_with fail
  refine (specParseGraph_is _ s0 hb).mono ?_
  rw [HR0.out]
  rw [HR1.out]
  rintro e w1 ⟨A1_0, n1_0, c1_0, B1_0, m1_0, d1_0, rfl, O1_0, hb1⟩
  have S1 : W.heap.size ≤ w1.heap.size := hb1.size
  have hB1 := below_then hB0 hb1
  clear hb1
  have hb2 : Below w1.heap.size w1 (w1.alloc (.cells #[.slice A1_0 n1_0 c1_0, .slice B1_0 m1_0 d1_0] 25)) := (Below.refl _ _).alloc (Nat.le_refl _) _
  have kw0_0_2 : (w1.alloc (.cells #[.slice A1_0 n1_0 c1_0, .slice B1_0 m1_0 d1_0] 25)).cell? ⟨w1.heap.size, 0, none⟩ = some (.slice A1_0 n1_0 c1_0) := by go_simp
  have kw0_1_2 : (w1.alloc (.cells #[.slice A1_0 n1_0 c1_0, .slice B1_0 m1_0 d1_0] 25)).cell? ⟨w1.heap.size, 1, none⟩ = some (.slice B1_0 m1_0 d1_0) := by go_simp
  have S2 : w1.heap.size < (w1.alloc (.cells #[.slice A1_0 n1_0 c1_0, .slice B1_0 m1_0 d1_0] 25)).heap.size := by simp
  have hB2 := below_then hB1 hb2
  replace O1_0 := O1_0.below hb2
  clear hB1 hb2
  go_wp2_with fail
  generalize (w1.alloc (.cells #[.slice A1_0 n1_0 c1_0, .slice B1_0 m1_0 d1_0] 25)) = w2 at *
  refine (implParseGraph_is _ s0 (TP.up (by assumption)) (TE.up (by assumption)) (TM.up (by assumption)) hb).mono ?_
  rw [HR0.out]
  rw [HR1.out]
  rintro e w3 ⟨A3_0, n3_0, c3_0, B3_0, m3_0, d3_0, rfl, O3_0, hb3⟩
  have S3 : w2.heap.size ≤ w3.heap.size := hb3.size
  have hB3 := below_then hB2 hb3
  have kw0_0_3 := cell_keep hb3 kw0_0_2
  have kw0_1_3 := cell_keep hb3 kw0_1_2
  replace O1_0 := O1_0.below hb3
  clear hB2 kw0_0_2 kw0_1_2 hb3
  have hb4 : Below w3.heap.size w3 (w3.alloc (.cells #[.slice A3_0 n3_0 c3_0, .slice B3_0 m3_0 d3_0] 25)) := (Below.refl _ _).alloc (Nat.le_refl _) _
  have kg0_0_4 : (w3.alloc (.cells #[.slice A3_0 n3_0 c3_0, .slice B3_0 m3_0 d3_0] 25)).cell? ⟨w3.heap.size, 0, none⟩ = some (.slice A3_0 n3_0 c3_0) := by go_simp
  have kg0_1_4 : (w3.alloc (.cells #[.slice A3_0 n3_0 c3_0, .slice B3_0 m3_0 d3_0] 25)).cell? ⟨w3.heap.size, 1, none⟩ = some (.slice B3_0 m3_0 d3_0) := by go_simp
  have S4 : w3.heap.size < (w3.alloc (.cells #[.slice A3_0 n3_0 c3_0, .slice B3_0 m3_0 d3_0] 25)).heap.size := by simp
  have hB4 := below_then hB3 hb4
  have kw0_0_4 := cell_keep hb4 kw0_0_3
  have kw0_1_4 := cell_keep hb4 kw0_1_3
  replace O1_0 := O1_0.below hb4
  replace O3_0 := O3_0.below hb4
  clear hB3 kw0_0_3 kw0_1_3 hb4
  go_wp2_with fail
  generalize (w3.alloc (.cells #[.slice A3_0 n3_0 c3_0, .slice B3_0 m3_0 d3_0] 25)) = w4 at *
  refine (eqGraph_is _ O3_0 O1_0).mono ?_
  rintro e w5 ⟨rfl, hb5⟩
  have S5 : w4.heap.size ≤ w5.heap.size := hb5.size
  have hB5 := below_then hB4 hb5
  have kw0_0_5 := cell_keep hb5 kw0_0_4
  have kw0_1_5 := cell_keep hb5 kw0_1_4
  have kg0_0_5 := cell_keep hb5 kg0_0_4
  have kg0_1_5 := cell_keep hb5 kg0_1_4
  replace O1_0 := O1_0.below hb5
  replace O3_0 := O3_0.below hb5
  clear hB4 kw0_0_4 kw0_1_4 kg0_0_4 kg0_1_4 hb5
  obtain ⟨y6, hy6⟩ : ∃ x : Nat, 1 + n3_0 + m3_0 * 4 = x := ⟨_, rfl⟩
  have hy6b : y6 ≤ 10000001 := by have := O3_0.ou.bd; have := O3_0.ov.bd; omega
  have Hy6 := Lib.hid hy6
  clear hy6
  go_wp2_with fail
  refine (markGraph_is _ 1 O3_0 (by omega) (by omega) (by omega)).mono ?_
  rw [Hy6.out]
  rintro e w6 ⟨rfl, MO3_0, t6⟩
  have S6 : w5.heap.size ≤ w6.heap.size := t6.size
  have hB6 := below_tch hB5 t6 (by omega)
  have kw0_0_6 := cell_tch t6 kw0_0_5 (.inl (by dsimp only; omega))
  have kw0_1_6 := cell_tch t6 kw0_1_5 (.inl (by dsimp only; omega))
  have kg0_0_6 := cell_tch t6 kg0_0_5 (.inr (by dsimp only; omega))
  have kg0_1_6 := cell_tch t6 kg0_1_5 (.inr (by dsimp only; omega))
  replace O1_0 := O1_0.tch t6 (.inl (by omega))
  clear hB5 kw0_0_5 kw0_1_5 kg0_0_5 kg0_1_5 t6
  clear O3_0
  go_wp2_with fail
  refine (heldGraph_is _ 1 MO3_0 (by omega)).mono ?_
  rw [Hy6.out]
  rintro e w7 ⟨rfl, hb7⟩
  have S7 : w6.heap.size ≤ w7.heap.size := hb7.size
  have hB7 := below_then hB6 hb7
  have kw0_0_7 := cell_keep hb7 kw0_0_6
  have kw0_1_7 := cell_keep hb7 kw0_1_6
  have kg0_0_7 := cell_keep hb7 kg0_0_6
  have kg0_1_7 := cell_keep hb7 kg0_1_6
  replace O1_0 := O1_0.below hb7
  replace MO3_0 := MO3_0.below hb7
  clear hB6 kw0_0_6 kw0_1_6 kg0_0_6 kg0_1_6 hb7
  go_wp2_with fail
  refine (implParseGraph_is _ s0 (TP.up (by assumption)) (TE.up (by assumption)) (TM.up (by assumption)) hb).mono ?_
  rw [HR0.out]
  rw [HR1.out]
  rintro e w8 ⟨A8_0, n8_0, c8_0, B8_0, m8_0, d8_0, rfl, O8_0, hb8⟩
  have S8 : w7.heap.size ≤ w8.heap.size := hb8.size
  have hB8 := below_then hB7 hb8
  have kw0_0_8 := cell_keep hb8 kw0_0_7
  have kw0_1_8 := cell_keep hb8 kw0_1_7
  have kg0_0_8 := cell_keep hb8 kg0_0_7
  have kg0_1_8 := cell_keep hb8 kg0_1_7
  replace O1_0 := O1_0.below hb8
  replace MO3_0 := MO3_0.below hb8
  clear hB7 kw0_0_7 kw0_1_7 kg0_0_7 kg0_1_7 hb8
  have hb9 : Below w8.heap.size w8 (w8.alloc (.cells #[.slice A8_0 n8_0 c8_0, .slice B8_0 m8_0 d8_0] 25)) := (Below.refl _ _).alloc (Nat.le_refl _) _
  have kh0_0_9 : (w8.alloc (.cells #[.slice A8_0 n8_0 c8_0, .slice B8_0 m8_0 d8_0] 25)).cell? ⟨w8.heap.size, 0, none⟩ = some (.slice A8_0 n8_0 c8_0) := by go_simp
  have kh0_1_9 : (w8.alloc (.cells #[.slice A8_0 n8_0 c8_0, .slice B8_0 m8_0 d8_0] 25)).cell? ⟨w8.heap.size, 1, none⟩ = some (.slice B8_0 m8_0 d8_0) := by go_simp
  have S9 : w8.heap.size < (w8.alloc (.cells #[.slice A8_0 n8_0 c8_0, .slice B8_0 m8_0 d8_0] 25)).heap.size := by simp
  have hB9 := below_then hB8 hb9
  have kw0_0_9 := cell_keep hb9 kw0_0_8
  have kw0_1_9 := cell_keep hb9 kw0_1_8
  have kg0_0_9 := cell_keep hb9 kg0_0_8
  have kg0_1_9 := cell_keep hb9 kg0_1_8
  replace O1_0 := O1_0.below hb9
  replace MO3_0 := MO3_0.below hb9
  replace O8_0 := O8_0.below hb9
  clear hB8 kw0_0_8 kw0_1_8 kg0_0_8 kg0_1_8 hb9
  go_wp2_with fail
  generalize (w8.alloc (.cells #[.slice A8_0 n8_0 c8_0, .slice B8_0 m8_0 d8_0] 25)) = w9 at *
  refine (eqGraph_is _ O8_0 O1_0).mono ?_
  rintro e w10 ⟨rfl, hb10⟩
  have S10 : w9.heap.size ≤ w10.heap.size := hb10.size
  have hB10 := below_then hB9 hb10
  have kw0_0_10 := cell_keep hb10 kw0_0_9
  have kw0_1_10 := cell_keep hb10 kw0_1_9
  have kg0_0_10 := cell_keep hb10 kg0_0_9
  have kg0_1_10 := cell_keep hb10 kg0_1_9
  have kh0_0_10 := cell_keep hb10 kh0_0_9
  have kh0_1_10 := cell_keep hb10 kh0_1_9
  replace O1_0 := O1_0.below hb10
  replace MO3_0 := MO3_0.below hb10
  replace O8_0 := O8_0.below hb10
  clear hB9 kw0_0_9 kw0_1_9 kg0_0_9 kg0_1_9 kh0_0_9 kh0_1_9 hb10
  go_wp2_with fail
  refine (heldGraph_is _ 1 MO3_0 (by omega)).mono ?_
  rw [Hy6.out]
  rintro e w11 ⟨rfl, hb11⟩
  have S11 : w10.heap.size ≤ w11.heap.size := hb11.size
  have hB11 := below_then hB10 hb11
  have kw0_0_11 := cell_keep hb11 kw0_0_10
  have kw0_1_11 := cell_keep hb11 kw0_1_10
  have kg0_0_11 := cell_keep hb11 kg0_0_10
  have kg0_1_11 := cell_keep hb11 kg0_1_10
  have kh0_0_11 := cell_keep hb11 kh0_0_10
  have kh0_1_11 := cell_keep hb11 kh0_1_10
  replace O1_0 := O1_0.below hb11
  replace MO3_0 := MO3_0.below hb11
  replace O8_0 := O8_0.below hb11
  clear hB10 kw0_0_10 kw0_1_10 kg0_0_10 kg0_1_10 kh0_0_10 kh0_1_10 hb11
  all_goals
    go_wp2
    go_ret
    exact ⟨rfl, hB11⟩

theorem met (os : Os) (args : Array Value) : laidMet Tryd.prog Rows.fnExactParseGraphRow.laid ((World.laidAll Tryd.prog os Rows.fnExactParseGraphRow.laid).forCall (fun _ _ => 0) ⟨#[], args, []⟩).memory :=
  laidMet_laidAll _ (by as_aux_lemma => kernel_rfl) (by as_aux_lemma => kernel_rfl)
theorem plainly (w : World) : laidMetH Tryd.prog Rows.fnExactParseGraphRow.laid w = laidMet Tryd.prog Rows.fnExactParseGraphRow.laid w := MakeChecks.laidMetH_plain _ _ _ (by as_aux_lemma => kernel_rfl)
set_option maxRecDepth 100000 in
theorem lifted (os : Os) (started : os.Started) (H : Type) (enc : TypeId × Value → H) (F : Stop.Interp) :
    ReturnsInHanded {} Tryd.checked os 3 .any ((OpenSpec.ofChange Rows.fnExactParseGraphSpec).preRow enc Tryd.prog Tryd.f3 Rows.fnExactParseGraphRow.domain false Rows.fnExactParseGraphRow.laid) (((OpenSpec.ofChange Rows.fnExactParseGraphSpec).at F).post enc Tryd.prog Tryd.f3 false true false false) := by
  refine returnsInHanded_of_row (C := Tryd.checked) (s := OpenSpec.ofChange Rows.fnExactParseGraphSpec) own started (by as_aux_lemma => kernel_rfl) Tryd.func3
    (ChangeSpec.witness_shaped (enc := enc) (C := Tryd.checked) (os := os) (X := fun w _ => laidMetH Tryd.prog Rows.fnExactParseGraphRow.laid w) false (World.laidAll Tryd.prog os Rows.fnExactParseGraphRow.laid) #[.string ⟨#[]⟩] 8 (World.laidAll_os _ _ _) (World.shaped_of_ZipB (by as_aux_lemma => kernel_rfl) (by as_aux_lemma => kernel_rfl)) (by as_aux_lemma => kernel_rfl) (by as_aux_lemma => kernel_rfl) (by as_aux_lemma => kernel_rfl) (by rw [plainly]; exact met os _)) ?_
  intro W base args ds gs before hval0 hW _ _ _ hL0 hS _
  have hL : laidMetH Tryd.prog Rows.fnExactParseGraphRow.laid W := hL0
  rw [plainly] at hL
  have hval : ∀ (j : Nat) t v, Tryd.f3.params[j]? = some t → args[j]? = some v → Value.okWide Tryd.prog W .any base t v := hval0
  have hW' := hW
  obtain ⟨p, q, hA0, hV, rfl, hfz, hnd⟩ := hW
  have hA : DataW.TrodAll enc Tryd.prog W 0 (fun _ => true) true Tryd.f3.params.toList args.toList ds p := hA0
  rw [Tryd.params3] at hA hval
  obtain ⟨v0, vs0, d0, ds0, p0, q0, hargs, rfl, rfl, h0, r0⟩ := trodAll_cons hA
  obtain ⟨rfl, rfl, rfl⟩ := trodAll_nil r0
  obtain rfl : args = #[v0] := by cases args; simp_all
  obtain ⟨rfl, rfl⟩ := trodVars_none hV
  have k0 := h0
  have lt0 : ∀ x ∈ p0, x.block < W.heap.size := by obtain ⟨m, hm⟩ := k0; exact DataW.trod_lt m _ _ _ hm
  obtain ⟨s0, rfl, rfl, rfl, hs0⟩ := open_string Tryd.underlying9 (hval 0 9 v0 rfl rfl) h0
  clear hA0 hval0
  refine (walk W hS hL s0 hs0).mono fun e W' ⟨he, bel⟩ => ?_
  subst he
  exact ⟨_, rfl, _, _, _, [], _, [], hW', trodAll_mk1 (shut_bool Tryd.underlying4 _), (trodAll_cons_mk (Below.trod laidOut (by as_aux_lemma => kernel_rfl) (of_decide_eq_true (by as_aux_lemma => kernel_rfl)) k0 bel lt0) trodAll_mk0), rfl, bel.frame _, fun h => by cases h⟩

set_option maxHeartbeats 8000000 in
theorem closed : joinedFacts Tryd.prog 3 Tryd.f3 Rows.fnExactParseGraphSpec Rows.fnExactParseGraphRow = true := by
  unfold joinedFacts
  simp only [Bool.and_eq_true]
  repeat' apply And.intro
  all_goals first | with_reducible exact frMay | with_reducible exact frLifts _ rfl | with_reducible exact frMake _ rfl | (as_aux_lemma => kernel_rfl)
set_option maxRecDepth 100000 in
set_option maxHeartbeats 1000000 in
theorem over : Rows.fnExactParseGraphRow.holds Tryd.pinned (OpenSpec.ofChange Rows.fnExactParseGraphSpec) :=
  OpenClaim.holds_of_cond 3 Tryd.f3 rfl rfl rfl rfl rfl rfl rfl ⟨rfl, rfl, rfl, rfl, rfl⟩ rfl rfl rfl rfl rfl (by as_aux_lemma => kernel_rfl) Tryd.func3 closed
    (of_decide_eq_true (by as_aux_lemma => kernel_rfl)) (by unfold Func.isWrapper; first | (rw [if_pos (by decide +kernel)]; kernel_rfl) | (rw [if_neg (by decide +kernel)]; exact ⟨rfl, rfl⟩))
    (fun os started H enc _ F => by rw [OpenClaim.pre_eq_preRow]; exact lifted os started H enc F)

theorem plain (f : FuncId) (fn : Func) (hf : Tryd.pinned.checked.prog.funcNamed "loop.example/g01922/laws.FnExactParseGraph" = some f) (hfn : Tryd.pinned.checked.prog.funcs[f]? = some fn) :
    true = Tryd.pinned.checked.prog.looks [] ∧ ∀ (j : Nat) t, fn.params[j]? = some t → Tryd.pinned.checked.prog.wantsStandIn t = false := by
  obtain rfl : f = 3 := Option.some.inj ((show Tryd.prog.funcNamed "loop.example/g01922/laws.FnExactParseGraph" = some 3 by kernel_rfl).symm.trans hf) |>.symm
  obtain rfl : fn = Tryd.f3 := (Option.some.inj (Tryd.func3.symm.trans hfn)).symm
  refine ⟨by kernel_rfl, fun j t ht => ?_⟩
  rw [Tryd.params3] at ht
  have hm : t ∈ [9] := by simpa using Array.mem_of_getElem? ht
  have hall : ([9].all fun u => !Tryd.prog.wantsStandIn u) = true := by kernel_rfl
  exact (show Tryd.prog.wantsStandIn t = false by simpa using List.all_eq_true.1 hall t hm)

theorem proved : Rows.FnExactParseGraphCardSaid :=
  Claim7.holds_tied_plain_at .later [] _ _ _ _ over (fun _ h => by cases h) (by as_aux_lemma => kernel_rfl) (fun _ h => by cases h) fnExactParseGraph_row_tie rfl ⟨rfl, rfl⟩ (by as_aux_lemma => kernel_rfl) rfl plain (by as_aux_lemma => kernel_rfl)
end Go.Proofs.YtljggmgijadjaaaDoor.fnExactParseGraph
