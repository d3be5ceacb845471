/-
  FnExactIsValidHistorySaid: for every input the law FnExactIsValidHistory returns true, and its arguments read afterwards as before. No condition.
-/
import Derived.Test.YtolilkbejghocaaHist2
import Derived.Test.YtolilkbejghocaaFr
namespace Go.Proofs.Ytolilkbejghocaa.fnExactIsValidHistory
open Go.ChangeShapes Go.WideShapes Go.ChangeAt Go.RowKit Go.Deep
open Go.ChangeMaps (open_string shut_string)
set_option linter.unusedVariables false


theorem own : ownKnob Try.prog.godebug = none := by kernel_rfl
theorem laidOut : laidOutB Try.prog = true := by kernel_rfl

set_option maxRecDepth 4000 in
set_option maxHeartbeats 4000000 in
theorem walk (W : World) (v0 : Value) (g0 : ArgHistory W v0) :
    Calls Try.prog 5 #[v0] W fun e w' => e = .returned (.bool true) ∧ Below W.heap.size W w' := by
  obtain ⟨D, k, c, s, l, rfl, ga⟩ := g0
  obtain ⟨t, ht⟩ : ∃ t, histOk s (gsOf l) = t := ⟨_, rfl⟩
  have HT := Lib.hid ht
  clear ht
  go_enter Try.func5, Try.ntmps5
  go_wp2_with fail
  have hB0 : Below W.heap.size W (W.alloc (.cells #[.int .i64 s, .slice D k c] 36)) := (Below.refl _ _).alloc (Nat.le_refl _) _
  have XA := Blk.new W 36 #[.int .i64 s, .slice D k c]
  generalize (W.alloc (.cells #[.int .i64 s, .slice D k c] 36)) = w0 at *
  have k0 := XA.kc (v := .int .i64 s) 0 rfl
  have k1 := XA.kc (v := .slice D k c) 1 rfl
  refine (szHistory_is _ s (ga.up hB0) 1048576 (by omega) (by omega)).mono ?_
  rintro e w1 ⟨q, rfl, hq, hb1⟩
  obtain ⟨z1, rfl⟩ := Kept.fst hb1
  have hZ1 := below_then hB0 z1.be
  clear hb1
  by_cases hn : q < 0
  · clear hq
    go_wp2
    go_ret
    exact ⟨rfl, hZ1⟩
  · have hq2 : (0 ≤ q ∧ q ≤ 1048576 ∧ (k : Int) ≤ 1048576 ∧ ∀ v ∈ l, (v.n : Int) + v.m ≤ 1048576) := by
      rcases hq with h | h
      · exact absurd h hn
      · exact h
    have GA : HRd W D k l := ⟨ga.ln, ga.rd, fun v hv => ⟨(ga.gr v hv).1, by have := hq2.2.2.2 v hv; omega, by have := hq2.2.2.2 v hv; omega⟩, by omega⟩
    clear hq hq2 ga
    go_wp2_with fail
    refine (toHistory_is _ s (GA.up (below_then hB0 (Kept.be _)))).mono ?_
    rintro e w2 ⟨D2, l2, rfl, H2, hg2, hb2⟩
    obtain ⟨z2, rfl⟩ := Kept.of _ hb2
    clear hb2
    go_wp2_with fail
    refine (specIsValidHistory_is _ s H2).mono ?_
    rw [hg2, HT.out]
    rintro e w3 ⟨rfl, hb3⟩
    obtain ⟨z3, rfl⟩ := Kept.of _ hb3
    clear hb3 H2 hg2
    go_wp2_with fail
    refine (toHistory_is _ s (GA.up (below_then hB0 (Kept.be _)))).mono ?_
    rintro e w4 ⟨D4, l4, rfl, H4, hg4, hb4⟩
    obtain ⟨z4, rfl⟩ := Kept.of _ hb4
    clear hb4
    have b5 : Below z4.W.heap.size z4.W (z4.W.alloc (.cells #[.int .i64 s, .slice D4 k k] 41)) := (Below.refl _ _).alloc (Nat.le_refl _) _
    have X5 := Blk.new z4.W 41 #[.int .i64 s, .slice D4 k k]
    have H5 := H4.up b5
    obtain ⟨z5, hz5e⟩ := Kept.of z4 b5
    have h45 := b5
    rw [hz5e] at X5 H5 h45
    have x0 : z5.W.cell? ⟨z4.W.heap.size, 0, none⟩ = some (.int .i64 s) := by rw [X5.cell]; rfl
    have x1 : z5.W.cell? ⟨z4.W.heap.size, 1, none⟩ = some (.slice D4 k k) := by rw [X5.cell]; rfl
    have HG4 := Lib.hid hg4
    clear b5 hg4 H4
    go_wp2_with fail
    refine (implIsValidHistory_is _ s H5).mono ?_
    rw [HG4.out, HT.out]
    rintro e w6 ⟨rfl, hb6⟩
    have H6 := H5.up hb6
    have X6 := X5.below hb6 X5.lt
    have h46 := below_then h45 hb6
    obtain ⟨z6, rfl⟩ := Kept.of _ hb6
    clear hb6 x0 x1 H5 X5 h45
    have tt : (t != t) = false := by simp
    go_wp2_with fail
    have hbD : Below z6.W.heap.size z6.W z6.W.drew := (Below.refl _ _).drew
    have kb0 := cell_keep hbD (k0 z6)
    have kb1 := cell_keep hbD (k1 z6)
    have xb0 : z6.W.drew.cell? ⟨z4.W.heap.size, 0, none⟩ = some (.int .i64 s) := by rw [X6.drew.cell]; rfl
    have xb1 : z6.W.drew.cell? ⟨z4.W.heap.size, 1, none⟩ = some (.slice D4 k k) := by rw [X6.drew.cell]; rfl
    have hB6 := below_then hB0 z6.be
    have hBD := below_then hB6 hbD
    have HD := H6.up hbD
    go_region_held3 (fun w' => w'.cell? ⟨W.heap.size, 0, none⟩ = some (.int .i64 s) ∧ w'.cell? ⟨W.heap.size, 1, none⟩ = some (.slice D k c) ∧ w'.cell? ⟨z4.W.heap.size, 0, none⟩ = some (.int .i64 s) ∧ w'.cell? ⟨z4.W.heap.size, 1, none⟩ = some (.slice D4 k k)) (first | exact ⟨kb0, kb1, xb0, xb1⟩ | exact ⟨cell_keep hb7 kb0, cell_keep hb7 kb1, cell_keep hb7 xb0, cell_keep hb7 xb1⟩ | exact ⟨cell_keep hb8 (cell_keep hb7 kb0), cell_keep hb8 (cell_keep hb7 kb1), cell_keep hb8 (cell_keep hb7 xb0), cell_keep hb8 (cell_keep hb7 xb1)⟩) (first
      | (go_simp; go_at_call 25; refine (eqHistory_is _ s (HD.up hb7) H7 (HG4.out.trans hg7.symm)).mono ?_; rintro e w8 ⟨rfl, hb8⟩; have hB8 := below_then (below_then hBD hb7) hb8; dsimp only)
      | (go_simp; go_at_call 23; refine (toHistory_is _ s (GA.up hBD)).mono ?_; rintro e w7 ⟨D7, l7, rfl, H7, hg7, hb7⟩; dsimp only))
    all_goals
      clear hg7
      go_wp2
      go_ret
      exact ⟨rfl, hB8⟩

set_option maxRecDepth 100000 in
theorem lifted (os : Os) (started : os.Started) (H : Type) (enc : TypeId × Value → H) :
    ReturnsInHanded {} Try.checked os 5 .any (Rows.fnExactIsValidHistorySpec.pre6 enc Try.prog Try.f5 Rows.fnExactIsValidHistoryRow.domain false) (Rows.fnExactIsValidHistorySpec.post enc Try.prog Try.f5 false true false false) := by
  refine returnsInHanded_of_change (C := Try.checked) own started (by as_aux_lemma => kernel_rfl) Try.func5
    (ChangeSpec.witness6 (enc := enc) (C := Try.checked) false ⟨#[], #[.agg #[.int .i64 0, .slice none 0 0]], []⟩ 8 (by as_aux_lemma => kernel_rfl) (by as_aux_lemma => kernel_rfl) (by as_aux_lemma => kernel_rfl) (by as_aux_lemma => kernel_rfl)) ?_
  intro W base args ds gs before hval0 hW hcnd _
  have hval : ∀ (j : Nat) t v, Try.f5.params[j]? = some t → args[j]? = some v → Value.okWide Try.prog W .any base t v := hval0
  have hW' := hW
  obtain ⟨p, q, hA0, hV, rfl, hfz, hnd⟩ := hW
  have hA : DataW.TrodAll enc Try.prog W 0 (fun _ => true) true Try.f5.params.toList args.toList ds p := hA0
  rw [Try.params5] at hA hval
  obtain ⟨v0, vs0, d0, ds0, p0, q0, hargs, rfl, rfl, h0, r0⟩ := trodAll_cons hA
  obtain ⟨rfl, rfl, rfl⟩ := trodAll_nil r0
  obtain rfl : args = #[v0] := by cases args; simp_all
  obtain ⟨rfl, rfl⟩ := trodVars_none hV
  have k0 := h0
  have lt0 : ∀ x ∈ p0, x.block < W.heap.size := by obtain ⟨m, hm⟩ := k0; exact DataW.trod_lt m _ _ _ hm
  have g0 := argHistory (hval 0 36 v0 rfl rfl) h0
  clear hA0 hval0
  refine (walk W v0 g0).mono fun e W' ⟨he, bel⟩ => ?_
  subst he
  exact ⟨_, rfl, _, _, _, [], _, [], hW', trodAll_mk1 (shut_bool Try.underlying4 _), (trodAll_cons_mk (Below.trod laidOut (by as_aux_lemma => kernel_rfl) (of_decide_eq_true (by as_aux_lemma => kernel_rfl)) k0 bel lt0) trodAll_mk0), rfl, bel.frame _, fun h => by cases h⟩

set_option maxHeartbeats 8000000 in
theorem closed : joinedFacts Try.prog 5 Try.f5 Rows.fnExactIsValidHistorySpec Rows.fnExactIsValidHistoryRow = true := by
  unfold joinedFacts
  simp only [Bool.and_eq_true]
  repeat' apply And.intro
  all_goals first | with_reducible exact frMay | with_reducible exact frLifts _ rfl | with_reducible exact frMake _ rfl | (as_aux_lemma => kernel_rfl)
set_option maxHeartbeats 1000000 in
theorem over : Rows.fnExactIsValidHistoryRow.holds Try.pinned (OpenSpec.ofChange Rows.fnExactIsValidHistorySpec) :=
  OpenClaim.holds_of_wide 5 Try.f5 rfl rfl rfl rfl rfl rfl rfl ⟨rfl, rfl, rfl, rfl, rfl⟩ rfl rfl rfl rfl rfl (by as_aux_lemma => kernel_rfl) Try.func5 closed
    (of_decide_eq_true (by as_aux_lemma => kernel_rfl)) (by unfold Func.isWrapper; first | (rw [if_pos (by decide +kernel)]; kernel_rfl) | (rw [if_neg (by decide +kernel)]; exact ⟨rfl, rfl⟩))
    (fun os started H enc _ => lifted os started H enc)

theorem proved : Rows.FnExactIsValidHistorySaid := over
end Go.Proofs.Ytolilkbejghocaa.fnExactIsValidHistory
