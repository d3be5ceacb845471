/-
  FnExactFormatEdgeCardSaid: for every input the law FnExactFormatEdge returns true, and its arguments read afterwards as before. Condition: the package variables that the row lists hold what their initialisers lay; the card ties that to the text.
-/
import Derived.Test.YtcnbgpelfkbmpaaDoorFmtE
import Derived.Test.YtcnbgpelfkbmpaaDoorArgs2
import Derived.Test.YtcnbgpelfkbmpaaDoorFr
import Derived.Test.YtcnbgpelfkbmpaaDoorCards
import Derived.Test.YtcnbgpelfkbmpaaDoorTie
import Derived.Deep.DeepHandedRow
import Derived.Lay
import Derived.SevenTiedAt
import Derived.LaidMore
import Derived.Stop.Joined
namespace Go.Proofs.YtcnbgpelfkbmpaaDoor.fnExactFormatEdge
open Go.ChangeShapes Go.WideShapes Go.ChangeAt Go.RowKit Go.Deep
open Go.ChangeMaps (open_string shut_string)
set_option linter.unusedVariables false


theorem own : ownKnob Tryd.prog.godebug = none := by kernel_rfl
theorem laidOut : laidOutB Tryd.prog = true := by kernel_rfl

theorem walk (W : World) (hS : W.ShapedOpen Tryd.prog) (hL : laidMet Tryd.prog Rows.fnExactFormatEdgeRow.laid W) (v0 : Value) (g0 : ArgEdge W v0) :
    Calls Tryd.prog 6 #[v0] W fun e w' => e = .returned (.bool true) ∧ Below W.heap.size W w' := by
  obtain ⟨e, rfl, hwf⟩ := g0
  have HB : Below W.heap.size W (W.alloc (.cells #[.int .i64 e.id, .int .i64 e.fr, .int .i64 e.to, .int .i64 e.lb] 33)) := (Below.refl _ _).alloc (Nat.le_refl _) _
  have XB := Blk.new W 33 #[.int .i64 e.id, .int .i64 e.fr, .int .i64 e.to, .int .i64 e.lb]
  have TP : TabP (W.alloc (.cells #[.int .i64 e.id, .int .i64 e.fr, .int .i64 e.to, .int .i64 e.lb] 33)) := (tabP_of hL.tail.tail).up HB
  have k0 := XB.kc (v := .int .i64 e.id) 0 rfl
  have k1 := XB.kc (v := .int .i64 e.fr) 1 rfl
  have k2 := XB.kc (v := .int .i64 e.to) 2 rfl
  have k3 := XB.kc (v := .int .i64 e.lb) 3 rfl
  clear hL hS XB
  go_enter Tryd.func6, Tryd.ntmps6
  go_wp2_with fail
  refine (toEdge_any e _).mono ?_
  rintro r w1 ⟨rfl, hb1⟩
  obtain ⟨z1, rfl⟩ := Kept.fst hb1
  clear hb1
  go_wp2_with fail
  refine (specFormatEdge_any _ e).mono ?_
  rintro r w2 ⟨rfl, hb2⟩
  obtain ⟨z2, rfl⟩ := z1.of hb2
  clear hb2
  go_wp2_with fail
  refine (toEdge_any e _).mono ?_
  rintro r w3 ⟨rfl, hb3⟩
  obtain ⟨z3, rfl⟩ := z2.of hb3
  clear hb3
  go_wp2_with fail
  refine (implFormatEdge_any _ (TP.kept z3) e).mono ?_
  rintro r w4 ⟨rfl, hb4⟩
  obtain ⟨z4, rfl⟩ := z3.of hb4
  clear hb4
  have hB4 := below_then HB z4.be
  go_wp2
  go_ret
  exact ⟨rfl, hB4⟩

theorem met (os : Os) (args : Array Value) : laidMet Tryd.prog Rows.fnExactFormatEdgeRow.laid ((World.laidAll Tryd.prog os Rows.fnExactFormatEdgeRow.laid).forCall (fun _ _ => 0) ⟨#[], args, []⟩).memory :=
  laidMet_laidAll _ (by as_aux_lemma => kernel_rfl) (by as_aux_lemma => kernel_rfl)
theorem plainly (w : World) : laidMetH Tryd.prog Rows.fnExactFormatEdgeRow.laid w = laidMet Tryd.prog Rows.fnExactFormatEdgeRow.laid w := MakeChecks.laidMetH_plain _ _ _ (by as_aux_lemma => kernel_rfl)
set_option maxRecDepth 100000 in
theorem lifted (os : Os) (started : os.Started) (H : Type) (enc : TypeId × Value → H) (F : Stop.Interp) :
    ReturnsInHanded {} Tryd.checked os 6 .any ((OpenSpec.ofChange Rows.fnExactFormatEdgeSpec).preRow enc Tryd.prog Tryd.f6 Rows.fnExactFormatEdgeRow.domain false Rows.fnExactFormatEdgeRow.laid) (((OpenSpec.ofChange Rows.fnExactFormatEdgeSpec).at F).post enc Tryd.prog Tryd.f6 false true false false) := by
  refine returnsInHanded_of_row (C := Tryd.checked) (s := OpenSpec.ofChange Rows.fnExactFormatEdgeSpec) own started (by as_aux_lemma => kernel_rfl) Tryd.func6
    (ChangeSpec.witness_shaped (enc := enc) (C := Tryd.checked) (os := os) (X := fun w _ => laidMetH Tryd.prog Rows.fnExactFormatEdgeRow.laid w) false (World.laidAll Tryd.prog os Rows.fnExactFormatEdgeRow.laid) #[.agg #[.int .i64 0, .int .i64 0, .int .i64 0, .int .i64 0]] 8 (World.laidAll_os _ _ _) (World.shaped_of_ZipB (by as_aux_lemma => kernel_rfl) (by as_aux_lemma => kernel_rfl)) (by as_aux_lemma => kernel_rfl) (by as_aux_lemma => kernel_rfl) (by as_aux_lemma => kernel_rfl) (by rw [plainly]; exact met os _)) ?_
  intro W base args ds gs before hval0 hW _ _ _ hL0 hS _
  have hL : laidMetH Tryd.prog Rows.fnExactFormatEdgeRow.laid W := hL0
  rw [plainly] at hL
  have hval : ∀ (j : Nat) t v, Tryd.f6.params[j]? = some t → args[j]? = some v → Value.okWide Tryd.prog W .any base t v := hval0
  have hW' := hW
  obtain ⟨p, q, hA0, hV, rfl, hfz, hnd⟩ := hW
  have hA : DataW.TrodAll enc Tryd.prog W 0 (fun _ => true) true Tryd.f6.params.toList args.toList ds p := hA0
  rw [Tryd.params6] at hA hval
  obtain ⟨v0, vs0, d0, ds0, p0, q0, hargs, rfl, rfl, h0, r0⟩ := trodAll_cons hA
  obtain ⟨rfl, rfl, rfl⟩ := trodAll_nil r0
  obtain rfl : args = #[v0] := by cases args; simp_all
  obtain ⟨rfl, rfl⟩ := trodVars_none hV
  have k0 := h0
  have lt0 : ∀ x ∈ p0, x.block < W.heap.size := by obtain ⟨m, hm⟩ := k0; exact DataW.trod_lt m _ _ _ hm
  have g0 := argEdge (hval 0 33 v0 rfl rfl) h0
  clear hA0 hval0
  refine (walk W hS hL v0 g0).mono fun e W' ⟨he, bel⟩ => ?_
  subst he
  exact ⟨_, rfl, _, _, _, [], _, [], hW', trodAll_mk1 (shut_bool Tryd.underlying4 _), (trodAll_cons_mk (Below.trod laidOut (by as_aux_lemma => kernel_rfl) (of_decide_eq_true (by as_aux_lemma => kernel_rfl)) k0 bel lt0) trodAll_mk0), rfl, bel.frame _, fun h => by cases h⟩

set_option maxHeartbeats 8000000 in
theorem closed : joinedFacts Tryd.prog 6 Tryd.f6 Rows.fnExactFormatEdgeSpec Rows.fnExactFormatEdgeRow = true := by
  unfold joinedFacts
  simp only [Bool.and_eq_true]
  repeat' apply And.intro
  all_goals first | with_reducible exact frMay | with_reducible exact frLifts _ rfl | with_reducible exact frMake _ rfl | (as_aux_lemma => kernel_rfl)
set_option maxRecDepth 100000 in
set_option maxHeartbeats 1000000 in
theorem over : Rows.fnExactFormatEdgeRow.holds Tryd.pinned (OpenSpec.ofChange Rows.fnExactFormatEdgeSpec) :=
  OpenClaim.holds_of_cond 6 Tryd.f6 rfl rfl rfl rfl rfl rfl rfl ⟨rfl, rfl, rfl, rfl, rfl⟩ rfl rfl rfl rfl rfl (by as_aux_lemma => kernel_rfl) Tryd.func6 closed
    (of_decide_eq_true (by as_aux_lemma => kernel_rfl)) (by unfold Func.isWrapper; first | (rw [if_pos (by decide +kernel)]; kernel_rfl) | (rw [if_neg (by decide +kernel)]; exact ⟨rfl, rfl⟩))
    (fun os started H enc _ F => by rw [OpenClaim.pre_eq_preRow]; exact lifted os started H enc F)

theorem plain (f : FuncId) (fn : Func) (hf : Tryd.pinned.checked.prog.funcNamed "loop.example/g01922/laws.FnExactFormatEdge" = some f) (hfn : Tryd.pinned.checked.prog.funcs[f]? = some fn) :
    true = Tryd.pinned.checked.prog.looks [] ∧ ∀ (j : Nat) t, fn.params[j]? = some t → Tryd.pinned.checked.prog.wantsStandIn t = false := by
  obtain rfl : f = 6 := Option.some.inj ((show Tryd.prog.funcNamed "loop.example/g01922/laws.FnExactFormatEdge" = some 6 by kernel_rfl).symm.trans hf) |>.symm
  obtain rfl : fn = Tryd.f6 := (Option.some.inj (Tryd.func6.symm.trans hfn)).symm
  refine ⟨by kernel_rfl, fun j t ht => ?_⟩
  rw [Tryd.params6] at ht
  have hm : t ∈ [33] := by simpa using Array.mem_of_getElem? ht
  have hall : ([33].all fun u => !Tryd.prog.wantsStandIn u) = true := by kernel_rfl
  exact (show Tryd.prog.wantsStandIn t = false by simpa using List.all_eq_true.1 hall t hm)

theorem proved : Rows.FnExactFormatEdgeCardSaid :=
  Claim7.holds_tied_plain_at .later [] _ _ _ _ over (fun _ h => by cases h) (by as_aux_lemma => kernel_rfl) (fun _ h => by cases h) fnExactFormatEdge_row_tie rfl ⟨rfl, rfl⟩ (by as_aux_lemma => kernel_rfl) rfl plain (by as_aux_lemma => kernel_rfl)
end Go.Proofs.YtcnbgpelfkbmpaaDoor.fnExactFormatEdge
