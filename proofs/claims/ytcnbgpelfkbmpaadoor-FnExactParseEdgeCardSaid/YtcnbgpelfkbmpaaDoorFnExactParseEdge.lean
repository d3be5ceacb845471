/-
  FnExactParseEdgeCardSaid: for every input the law FnExactParseEdge returns true, and its arguments read afterwards as before. Condition: the package variables that the row lists hold what their initialisers lay; the card ties that to the text.
-/
import Derived.Test.YtcnbgpelfkbmpaaDoorPrsE
import Derived.Test.YtcnbgpelfkbmpaaDoorFr
import Derived.Test.YtcnbgpelfkbmpaaDoorCards
import Derived.Test.YtcnbgpelfkbmpaaDoorTie
import Derived.Deep.DeepHandedRow
import Derived.Lay
import Derived.SevenTiedAt
import Derived.LaidMore
import Derived.Stop.Joined
namespace Go.Proofs.YtcnbgpelfkbmpaaDoor.fnExactParseEdge
open Go.ChangeShapes Go.WideShapes Go.ChangeAt Go.RowKit Go.Deep
open Go.ChangeMaps (open_string shut_string)
set_option linter.unusedVariables false


theorem own : ownKnob Tryd.prog.godebug = none := by kernel_rfl
theorem laidOut : laidOutB Tryd.prog = true := by kernel_rfl

set_option maxRecDepth 4000 in
set_option maxHeartbeats 2000000 in
theorem walk (W : World) (hS : W.ShapedOpen Tryd.prog) (hL : laidMet Tryd.prog Rows.fnExactParseEdgeRow.laid W) (s0 : ByteArray) (hs0 : s0.size ≤ maxLen) :
    Calls Tryd.prog 10 #[.string s0] W fun e w' => e = .returned (.bool true) ∧ Below W.heap.size W w' := by
  have TP : TabP W := tabP_of hL.tail.tail
  have TE : TabE W := tabE_of hL.tail.tail.tail.tail
  have TM : TabM W := tabM_of hS
  clear hL hS
  by_cases hb : s0.size ≤ 1048576
  · obtain ⟨x, hx⟩ : ∃ x, prsEN s0.data.toList = x := ⟨_, rfl⟩
    obtain ⟨B, hB⟩ : ∃ B, prsEB s0.data.toList = B := ⟨_, rfl⟩
    have h1 := specParseEdge_any W s0 hb
    rw [hx, hB] at h1
    have g0 : ¬ (s0.size : Int) > 1048576 := by omega
    have HI : RowKit.Hid (∀ z : Kept W, Calls Tryd.prog 44 #[.string s0] z.W fun r w' => r = .returned (.tuple #[.agg #[.int .i64 x.id, .int .i64 x.fr, .int .i64 x.to, .int .i64 x.lb], .bool B]) ∧ Below z.W.heap.size z.W w') := Lib.hid (fun z => by
      have h2 := implParseEdge_any z.W (TP.up z.be) (TE.up z.be) (TM.up z.be) s0 hb
      rw [hx, hB] at h2
      exact h2)
    clear hx hB
    go_enter Tryd.func10, Tryd.ntmps10
    go_wp2_with fail
    refine h1.mono ?_
    rintro e w1 ⟨rfl, hb1⟩
    obtain ⟨z1, rfl⟩ := Kept.fst hb1
    clear hb1
    have hA1 : Below z1.W.heap.size z1.W (z1.W.alloc (.cells #[.int .i64 x.id, .int .i64 x.fr, .int .i64 x.to, .int .i64 x.lb] 35)) := (Below.refl _ _).alloc (Nat.le_refl _) _
    have XW := Blk.new z1.W 35 #[.int .i64 x.id, .int .i64 x.fr, .int .i64 x.to, .int .i64 x.lb]
    obtain ⟨z2, hz2⟩ := z1.of hA1
    rw [hz2] at XW
    go_wp2_with fail
    refine (HI.out _).mono ?_
    rintro e w3 ⟨rfl, hb3⟩
    have XW3 := XW.below hb3 XW.lt
    obtain ⟨z3, rfl⟩ := z2.of hb3
    clear hb3 hz2 hA1 XW
    have hA3 : Below z3.W.heap.size z3.W (z3.W.alloc (.cells #[.int .i64 x.id, .int .i64 x.fr, .int .i64 x.to, .int .i64 x.lb] 35)) := (Below.refl _ _).alloc (Nat.le_refl _) _
    have XG := Blk.new z3.W 35 #[.int .i64 x.id, .int .i64 x.fr, .int .i64 x.to, .int .i64 x.lb]
    have XW4 := XW3.below hA3 XW3.lt
    obtain ⟨z4, hz4⟩ := z3.of hA3
    rw [hz4] at XG XW4
    have a0 := XG.cell 0
    have a1 := XG.cell 1
    have a2 := XG.cell 2
    have a3 := XG.cell 3
    have b0 := XW4.cell 0
    have b1 := XW4.cell 1
    have b2 := XW4.cell 2
    have b3 := XW4.cell 3
    go_wp2_with fail
    refine (eqEdge_same x _).mono ?_
    rintro e w5 ⟨rfl, hb5⟩
    have hBF := below_then z4.be hb5
    go_wp2
    go_ret
    exact ⟨rfl, hBF⟩
  · have g0 : (s0.size : Int) > 1048576 := by omega
    go_enter Tryd.func10, Tryd.ntmps10
    go_wp2
    go_ret
    exact ⟨rfl, Below.refl _ _⟩

theorem met (os : Os) (args : Array Value) : laidMet Tryd.prog Rows.fnExactParseEdgeRow.laid ((World.laidAll Tryd.prog os Rows.fnExactParseEdgeRow.laid).forCall (fun _ _ => 0) ⟨#[], args, []⟩).memory :=
  laidMet_laidAll _ (by as_aux_lemma => kernel_rfl) (by as_aux_lemma => kernel_rfl)
theorem plainly (w : World) : laidMetH Tryd.prog Rows.fnExactParseEdgeRow.laid w = laidMet Tryd.prog Rows.fnExactParseEdgeRow.laid w := MakeChecks.laidMetH_plain _ _ _ (by as_aux_lemma => kernel_rfl)
set_option maxRecDepth 100000 in
theorem lifted (os : Os) (started : os.Started) (H : Type) (enc : TypeId × Value → H) (F : Stop.Interp) :
    ReturnsInHanded {} Tryd.checked os 10 .any ((OpenSpec.ofChange Rows.fnExactParseEdgeSpec).preRow enc Tryd.prog Tryd.f10 Rows.fnExactParseEdgeRow.domain false Rows.fnExactParseEdgeRow.laid) (((OpenSpec.ofChange Rows.fnExactParseEdgeSpec).at F).post enc Tryd.prog Tryd.f10 false true false false) := by
  refine returnsInHanded_of_row (C := Tryd.checked) (s := OpenSpec.ofChange Rows.fnExactParseEdgeSpec) own started (by as_aux_lemma => kernel_rfl) Tryd.func10
    (ChangeSpec.witness_shaped (enc := enc) (C := Tryd.checked) (os := os) (X := fun w _ => laidMetH Tryd.prog Rows.fnExactParseEdgeRow.laid w) false (World.laidAll Tryd.prog os Rows.fnExactParseEdgeRow.laid) #[.string ⟨#[]⟩] 8 (World.laidAll_os _ _ _) (World.shaped_of_ZipB (by as_aux_lemma => kernel_rfl) (by as_aux_lemma => kernel_rfl)) (by as_aux_lemma => kernel_rfl) (by as_aux_lemma => kernel_rfl) (by as_aux_lemma => kernel_rfl) (by rw [plainly]; exact met os _)) ?_
  intro W base args ds gs before hval0 hW _ _ _ hL0 hS _
  have hL : laidMetH Tryd.prog Rows.fnExactParseEdgeRow.laid W := hL0
  rw [plainly] at hL
  have hval : ∀ (j : Nat) t v, Tryd.f10.params[j]? = some t → args[j]? = some v → Value.okWide Tryd.prog W .any base t v := hval0
  have hW' := hW
  obtain ⟨p, q, hA0, hV, rfl, hfz, hnd⟩ := hW
  have hA : DataW.TrodAll enc Tryd.prog W 0 (fun _ => true) true Tryd.f10.params.toList args.toList ds p := hA0
  rw [Tryd.params10] at hA hval
  obtain ⟨v0, vs0, d0, ds0, p0, q0, hargs, rfl, rfl, h0, r0⟩ := trodAll_cons hA
  obtain ⟨rfl, rfl, rfl⟩ := trodAll_nil r0
  obtain rfl : args = #[v0] := by cases args; simp_all
  obtain ⟨rfl, rfl⟩ := trodVars_none hV
  have k0 := h0
  have lt0 : ∀ x ∈ p0, x.block < W.heap.size := by obtain ⟨m, hm⟩ := k0; exact DataW.trod_lt m _ _ _ hm
  obtain ⟨s0, rfl, rfl, rfl, hs0⟩ := open_string Tryd.underlying9 (hval 0 9 v0 rfl rfl) h0
  clear hA0 hval0
  refine (walk W hS hL s0 hs0).mono fun e W' ⟨he, bel⟩ => ?_
  subst he
  exact ⟨_, rfl, _, _, _, [], _, [], hW', trodAll_mk1 (shut_bool Tryd.underlying4 _), (trodAll_cons_mk (Below.trod laidOut (by as_aux_lemma => kernel_rfl) (of_decide_eq_true (by as_aux_lemma => kernel_rfl)) k0 bel lt0) trodAll_mk0), rfl, bel.frame _, fun h => by cases h⟩

set_option maxHeartbeats 8000000 in
theorem closed : joinedFacts Tryd.prog 10 Tryd.f10 Rows.fnExactParseEdgeSpec Rows.fnExactParseEdgeRow = true := by
  unfold joinedFacts
  simp only [Bool.and_eq_true]
  repeat' apply And.intro
  all_goals first | with_reducible exact frMay | with_reducible exact frLifts _ rfl | with_reducible exact frMake _ rfl | (as_aux_lemma => kernel_rfl)
set_option maxRecDepth 100000 in
set_option maxHeartbeats 1000000 in
theorem over : Rows.fnExactParseEdgeRow.holds Tryd.pinned (OpenSpec.ofChange Rows.fnExactParseEdgeSpec) :=
  OpenClaim.holds_of_cond 10 Tryd.f10 rfl rfl rfl rfl rfl rfl rfl ⟨rfl, rfl, rfl, rfl, rfl⟩ rfl rfl rfl rfl rfl (by as_aux_lemma => kernel_rfl) Tryd.func10 closed
    (of_decide_eq_true (by as_aux_lemma => kernel_rfl)) (by unfold Func.isWrapper; first | (rw [if_pos (by decide +kernel)]; kernel_rfl) | (rw [if_neg (by decide +kernel)]; exact ⟨rfl, rfl⟩))
    (fun os started H enc _ F => by rw [OpenClaim.pre_eq_preRow]; exact lifted os started H enc F)

theorem plain (f : FuncId) (fn : Func) (hf : Tryd.pinned.checked.prog.funcNamed "loop.example/g01922/laws.FnExactParseEdge" = some f) (hfn : Tryd.pinned.checked.prog.funcs[f]? = some fn) :
    true = Tryd.pinned.checked.prog.looks [] ∧ ∀ (j : Nat) t, fn.params[j]? = some t → Tryd.pinned.checked.prog.wantsStandIn t = false := by
  obtain rfl : f = 10 := Option.some.inj ((show Tryd.prog.funcNamed "loop.example/g01922/laws.FnExactParseEdge" = some 10 by kernel_rfl).symm.trans hf) |>.symm
  obtain rfl : fn = Tryd.f10 := (Option.some.inj (Tryd.func10.symm.trans hfn)).symm
  refine ⟨by kernel_rfl, fun j t ht => ?_⟩
  rw [Tryd.params10] at ht
  have hm : t ∈ [9] := by simpa using Array.mem_of_getElem? ht
  have hall : ([9].all fun u => !Tryd.prog.wantsStandIn u) = true := by kernel_rfl
  exact (show Tryd.prog.wantsStandIn t = false by simpa using List.all_eq_true.1 hall t hm)

theorem proved : Rows.FnExactParseEdgeCardSaid :=
  Claim7.holds_tied_plain_at .later [] _ _ _ _ over (fun _ h => by cases h) (by as_aux_lemma => kernel_rfl) (fun _ h => by cases h) fnExactParseEdge_row_tie rfl ⟨rfl, rfl⟩ (by as_aux_lemma => kernel_rfl) rfl plain (by as_aux_lemma => kernel_rfl)
end Go.Proofs.YtcnbgpelfkbmpaaDoor.fnExactParseEdge
