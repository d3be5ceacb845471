/-
  FnExactEqualHistoriesSaid: for every input the law FnExactEqualHistories returns true, and its arguments read afterwards as before. No condition.
-/
import Derived.Test.YtolilkbejghocaaHist3
import Derived.Test.YtolilkbejghocaaFr
namespace Go.Proofs.Ytolilkbejghocaa.fnExactEqualHistories
open Go.ChangeShapes Go.WideShapes Go.ChangeAt Go.RowKit Go.Deep
open Go.ChangeMaps (open_string shut_string)
set_option linter.unusedVariables false


theorem own : ownKnob Try.prog.godebug = none := by kernel_rfl
theorem laidOut : laidOutB Try.prog = true := by kernel_rfl

set_option maxRecDepth 4000 in
set_option maxHeartbeats 8000000 in
theorem walk (W : World) (v0 : Value) (g0 : ArgHistory W v0) (v1 : Value) (g1 : ArgHistory W v1) :
    Calls Try.prog 4 #[v0, v1] W fun e w' => e = .returned (.bool true) ∧ Below W.heap.size W w' := by
  obtain ⟨D, k, c, s, l, rfl, ga⟩ := g0
  obtain ⟨E, k2, d, s2, m, rfl, gb⟩ := g1
  obtain ⟨t, ht⟩ : ∃ t, (decide (s = s2) && decide (gsOf l = gsOf m)) = t := ⟨_, rfl⟩
  have HT := Lib.hid ht
  clear ht
  go_enter Try.func4, Try.ntmps4
  go_wp2_with fail
  have hB0 : Below W.heap.size W ((W.alloc (.cells #[.int .i64 s, .slice D k c] 36)).alloc (.cells #[.int .i64 s2, .slice E k2 d] 36)) := ((Below.refl _ _).alloc (Nat.le_refl _) _).alloc (by simp) _
  have XA := (Blk.new W 36 #[.int .i64 s, .slice D k c]).alloc (.cells #[.int .i64 s2, .slice E k2 d] 36)
  have XB := Blk.new (W.alloc (.cells #[.int .i64 s, .slice D k c] 36)) 36 #[.int .i64 s2, .slice E k2 d]
  simp only [World.size_alloc] at XB
  generalize ((W.alloc (.cells #[.int .i64 s, .slice D k c] 36)).alloc (.cells #[.int .i64 s2, .slice E k2 d] 36)) = w0 at *
  have k0 := XA.kc (v := .int .i64 s) 0 rfl
  have k1 := XA.kc (v := .slice D k c) 1 rfl
  have j0 := XB.kc (v := .int .i64 s2) 0 rfl
  have j1 := XB.kc (v := .slice E k2 d) 1 rfl
  refine (szHistory_is _ s (ga.up hB0) 1048576 (by omega) (by omega)).mono ?_
  rintro e w1 ⟨q, rfl, hq, hb1⟩
  obtain ⟨z1, rfl⟩ := Kept.fst hb1
  have hZ1 := below_then hB0 z1.be
  clear hb1
  by_cases hn : q < 0
  · clear hq
    go_wp2
    go_ret
    exact ⟨rfl, hZ1⟩
  have hq2 : (0 ≤ q ∧ q ≤ 1048576 ∧ (k : Int) ≤ 1048576 ∧ ∀ v ∈ l, (v.n : Int) + v.m ≤ 1048576) := by
    rcases hq with h | h
    · exact absurd h hn
    · exact h
  have GA : HRd W D k l := ⟨ga.ln, ga.rd, fun v hv => ⟨(ga.gr v hv).1, by have := hq2.2.2.2 v hv; omega, by have := hq2.2.2.2 v hv; omega⟩, by omega⟩
  have hqa := hq2.1
  have hqb := hq2.2.1
  clear hq hq2 ga
  go_wp2_with fail
  refine (szHistory_is _ s2 (gb.up (below_then hB0 (Kept.be _))) q hqa hqb).mono ?_
  rintro e w2 ⟨p, rfl, hp, hb2⟩
  obtain ⟨z2, rfl⟩ := Kept.of _ hb2
  have hZ2 := below_then hB0 z2.be
  clear hb2 hZ1
  by_cases hpn : p < 0
  · clear hp
    go_wp2
    go_ret
    exact ⟨rfl, hZ2⟩
  have hp2 : (0 ≤ p ∧ p ≤ q ∧ (k2 : Int) ≤ q ∧ ∀ v ∈ m, (v.n : Int) + v.m ≤ q) := by
    rcases hp with h | h
    · exact absurd h hpn
    · exact h
  have GB : HRd W E k2 m := ⟨gb.ln, gb.rd, fun v hv => ⟨(gb.gr v hv).1, by have := hp2.2.2.2 v hv; omega, by have := hp2.2.2.2 v hv; omega⟩, by omega⟩
  clear hp hp2 gb
  go_wp2_with fail
  have hbD : Below z2.W.heap.size z2.W z2.W.drew := (Below.refl _ _).drew
  have hBD := below_then hZ2 hbD
  have ka0 := cell_keep hbD (k0 z2)
  have ka1 := cell_keep hbD (k1 z2)
  have kb0 := cell_keep hbD (j0 z2)
  have kb1 := cell_keep hbD (j1 z2)
  go_region_held3 (fun w' => w'.cell? ⟨W.heap.size, 0, none⟩ = some (.int .i64 s) ∧ w'.cell? ⟨W.heap.size, 1, none⟩ = some (.slice D k c) ∧ w'.cell? ⟨W.heap.size + 1, 0, none⟩ = some (.int .i64 s2) ∧ w'.cell? ⟨W.heap.size + 1, 1, none⟩ = some (.slice E k2 d)) (first | exact ⟨ka0, ka1, kb0, kb1⟩ | exact ⟨cell_keep hb3 ka0, cell_keep hb3 ka1, cell_keep hb3 kb0, cell_keep hb3 kb1⟩ | exact ⟨cell_keep hb4 (cell_keep hb3 ka0), cell_keep hb4 (cell_keep hb3 ka1), cell_keep hb4 (cell_keep hb3 kb0), cell_keep hb4 (cell_keep hb3 kb1)⟩ | exact ⟨cell_keep hb5 (cell_keep hb4 (cell_keep hb3 ka0)), cell_keep hb5 (cell_keep hb4 (cell_keep hb3 ka1)), cell_keep hb5 (cell_keep hb4 (cell_keep hb3 kb0)), cell_keep hb5 (cell_keep hb4 (cell_keep hb3 kb1))⟩) (first
    | (go_simp; go_at_call 22; refine (specEqualHistories_is _ s s2 (H3.up hb4) H4).mono ?_; rw [hg3, hg4, HT.out]; rintro e w5 ⟨rfl, hb5⟩; dsimp only)
    | (go_simp; go_at_call 23; refine (toHistory_is _ s2 (GB.up (below_then hBD hb3))).mono ?_; rintro e w4 ⟨D4, l4, rfl, H4, hg4, hb4⟩; dsimp only)
    | (go_simp; go_at_call 23; refine (toHistory_is _ s (GA.up hBD)).mono ?_; rintro e w3 ⟨D3, l3, rfl, H3, hg3, hb3⟩; dsimp only))
  obtain ⟨z5, rfl⟩ := Kept.of _ (below_then hbD (below_then hb3 (below_then hb4 hb5)))
  clear hb5 H4 hg4 hb4 H3 hg3 hb3 ka0 ka1 kb0 kb1 hBD hbD hZ2
  go_wp2_with fail
  refine (toHistory_is _ s (GA.up (below_then hB0 (Kept.be _)))).mono ?_
  rintro e w6 ⟨D6, l6, rfl, H6, hg6, hb6⟩
  obtain ⟨z6, rfl⟩ := Kept.of _ hb6
  clear hb6
  have b7 : Below z6.W.heap.size z6.W (z6.W.alloc (.cells #[.int .i64 s, .slice D6 k k] 41)) := (Below.refl _ _).alloc (Nat.le_refl _) _
  have X7 := Blk.new z6.W 41 #[.int .i64 s, .slice D6 k k]
  have H7 := H6.up b7
  obtain ⟨z7, hz7e⟩ := Kept.of z6 b7
  rw [hz7e] at X7 H7
  have x0 : z7.W.cell? ⟨z6.W.heap.size, 0, none⟩ = some (.int .i64 s) := by rw [X7.cell]; rfl
  have x1 : z7.W.cell? ⟨z6.W.heap.size, 1, none⟩ = some (.slice D6 k k) := by rw [X7.cell]; rfl
  have HG6 := Lib.hid hg6
  clear b7 hg6 H6
  go_wp2_with fail
  refine (toHistory_is _ s2 (GB.up (below_then hB0 (Kept.be _)))).mono ?_
  rintro e w8 ⟨D8, l8, rfl, H8, hg8, hb8⟩
  have H7b := H7.up hb8
  have X8 := X7.below hb8 X7.lt
  obtain ⟨z8, rfl⟩ := Kept.of _ hb8
  clear hb8 x0 x1 H7 X7
  have b9 : Below z8.W.heap.size z8.W (z8.W.alloc (.cells #[.int .i64 s2, .slice D8 k2 k2] 41)) := (Below.refl _ _).alloc (Nat.le_refl _) _
  have Y9 := Blk.new z8.W 41 #[.int .i64 s2, .slice D8 k2 k2]
  have X9 := X8.below b9 X8.lt
  have H9 := H8.up b9
  have G9 := H7b.up b9
  obtain ⟨z9, hz9e⟩ := Kept.of z8 b9
  rw [hz9e] at Y9 X9 H9 G9
  have x0 : z9.W.cell? ⟨z6.W.heap.size, 0, none⟩ = some (.int .i64 s) := by rw [X9.cell]; rfl
  have x1 : z9.W.cell? ⟨z6.W.heap.size, 1, none⟩ = some (.slice D6 k k) := by rw [X9.cell]; rfl
  have y0 : z9.W.cell? ⟨z8.W.heap.size, 0, none⟩ = some (.int .i64 s2) := by rw [Y9.cell]; rfl
  have y1 : z9.W.cell? ⟨z8.W.heap.size, 1, none⟩ = some (.slice D8 k2 k2) := by rw [Y9.cell]; rfl
  have HG8 := Lib.hid hg8
  clear b9 hg8 H8 H7b X8
  go_wp2_with fail
  refine (implEqualHistories_is _ s s2 G9 H9).mono ?_
  rw [HG6.out, HG8.out, HT.out]
  rintro e w10 ⟨rfl, hb10⟩
  have H10 := H9.up hb10
  have G10 := G9.up hb10
  have X10 := X9.below hb10 X9.lt
  have Y10 := Y9.below hb10 Y9.lt
  obtain ⟨z10, rfl⟩ := Kept.of _ hb10
  clear hb10 x0 x1 y0 y1 G9 H9 X9 Y9
  have tt : (t != t) = false := by simp
  go_wp2_with fail
  have hbD : Below z10.W.heap.size z10.W z10.W.drew := (Below.refl _ _).drew
  have ka0 := cell_keep hbD (k0 z10)
  have ka1 := cell_keep hbD (k1 z10)
  have kb0 := cell_keep hbD (j0 z10)
  have kb1 := cell_keep hbD (j1 z10)
  have xa0 : z10.W.drew.cell? ⟨z6.W.heap.size, 0, none⟩ = some (.int .i64 s) := by rw [X10.drew.cell]; rfl
  have xa1 : z10.W.drew.cell? ⟨z6.W.heap.size, 1, none⟩ = some (.slice D6 k k) := by rw [X10.drew.cell]; rfl
  have xb0 : z10.W.drew.cell? ⟨z8.W.heap.size, 0, none⟩ = some (.int .i64 s2) := by rw [Y10.drew.cell]; rfl
  have xb1 : z10.W.drew.cell? ⟨z8.W.heap.size, 1, none⟩ = some (.slice D8 k2 k2) := by rw [Y10.drew.cell]; rfl
  have hBD := below_then (below_then hB0 z10.be) hbD
  have GD := G10.up hbD
  have YD := Y10.below hbD Y10.lt
  have HD := H10.up hbD
  clear G10 H10 X10
  go_region_held3 (fun w' => w'.cell? ⟨W.heap.size, 0, none⟩ = some (.int .i64 s) ∧ w'.cell? ⟨W.heap.size, 1, none⟩ = some (.slice D k c) ∧ w'.cell? ⟨W.heap.size + 1, 0, none⟩ = some (.int .i64 s2) ∧ w'.cell? ⟨W.heap.size + 1, 1, none⟩ = some (.slice E k2 d) ∧ w'.cell? ⟨z6.W.heap.size, 0, none⟩ = some (.int .i64 s) ∧ w'.cell? ⟨z6.W.heap.size, 1, none⟩ = some (.slice D6 k k) ∧ w'.cell? ⟨z8.W.heap.size, 0, none⟩ = some (.int .i64 s2) ∧ w'.cell? ⟨z8.W.heap.size, 1, none⟩ = some (.slice D8 k2 k2)) (first | exact ⟨ka0, ka1, kb0, kb1, xa0, xa1, xb0, xb1⟩ | exact ⟨cell_keep hb11 ka0, cell_keep hb11 ka1, cell_keep hb11 kb0, cell_keep hb11 kb1, cell_keep hb11 xa0, cell_keep hb11 xa1, cell_keep hb11 xb0, cell_keep hb11 xb1⟩ | exact ⟨cell_keep hb12 (cell_keep hb11 ka0), cell_keep hb12 (cell_keep hb11 ka1), cell_keep hb12 (cell_keep hb11 kb0), cell_keep hb12 (cell_keep hb11 kb1), cell_keep hb12 (cell_keep hb11 xa0), cell_keep hb12 (cell_keep hb11 xa1), cell_keep hb12 (cell_keep hb11 xb0), cell_keep hb12 (cell_keep hb11 xb1)⟩) (first
    | (go_simp; go_at_call 25; refine (eqHistory_is _ s (GD.up hb11) H11 (HG6.out.trans hg11.symm)).mono ?_; rintro e w12 ⟨rfl, hb12⟩; dsimp only)
    | (go_simp; go_at_call 23; refine (toHistory_is _ s (GA.up hBD)).mono ?_; rintro e w11 ⟨D11, l11, rfl, H11, hg11, hb11⟩; dsimp only))
  have hb := below_then hb11 hb12
  have HE := HD.up hb
  have YE := YD.below hb YD.lt
  obtain ⟨z12, rfl⟩ := Kept.of _ (below_then hbD hb)
  clear hb hb12 H11 hg11 hb11 ka0 ka1 kb0 kb1 xa0 xa1 xb0 xb1 hBD hbD GD HD YD tt
  go_wp2_with fail
  have hbD : Below z12.W.heap.size z12.W z12.W.drew := (Below.refl _ _).drew
  have ka0 := cell_keep hbD (k0 z12)
  have ka1 := cell_keep hbD (k1 z12)
  have kb0 := cell_keep hbD (j0 z12)
  have kb1 := cell_keep hbD (j1 z12)
  have xb0 : z12.W.drew.cell? ⟨z8.W.heap.size, 0, none⟩ = some (.int .i64 s2) := by rw [YE.drew.cell]; rfl
  have xb1 : z12.W.drew.cell? ⟨z8.W.heap.size, 1, none⟩ = some (.slice D8 k2 k2) := by rw [YE.drew.cell]; rfl
  have hBD := below_then (below_then hB0 z12.be) hbD
  have HD := HE.up hbD
  clear HE YE
  go_region_held3 (fun w' => w'.cell? ⟨W.heap.size, 0, none⟩ = some (.int .i64 s) ∧ w'.cell? ⟨W.heap.size, 1, none⟩ = some (.slice D k c) ∧ w'.cell? ⟨W.heap.size + 1, 0, none⟩ = some (.int .i64 s2) ∧ w'.cell? ⟨W.heap.size + 1, 1, none⟩ = some (.slice E k2 d) ∧ w'.cell? ⟨z8.W.heap.size, 0, none⟩ = some (.int .i64 s2) ∧ w'.cell? ⟨z8.W.heap.size, 1, none⟩ = some (.slice D8 k2 k2)) (first | exact ⟨ka0, ka1, kb0, kb1, xb0, xb1⟩ | exact ⟨cell_keep hb13 ka0, cell_keep hb13 ka1, cell_keep hb13 kb0, cell_keep hb13 kb1, cell_keep hb13 xb0, cell_keep hb13 xb1⟩ | exact ⟨cell_keep hb14 (cell_keep hb13 ka0), cell_keep hb14 (cell_keep hb13 ka1), cell_keep hb14 (cell_keep hb13 kb0), cell_keep hb14 (cell_keep hb13 kb1), cell_keep hb14 (cell_keep hb13 xb0), cell_keep hb14 (cell_keep hb13 xb1)⟩) (first
    | (go_simp; go_at_call 25; refine (eqHistory_is _ s2 (HD.up hb13) H13 (HG8.out.trans hg13.symm)).mono ?_; rintro e w14 ⟨rfl, hb14⟩; have hB14 := below_then (below_then hBD hb13) hb14; dsimp only)
    | (go_simp; go_at_call 23; refine (toHistory_is _ s2 (GB.up hBD)).mono ?_; rintro e w13 ⟨D13, l13, rfl, H13, hg13, hb13⟩; dsimp only))
  all_goals
    clear hg13
    go_wp2
    go_ret
    exact ⟨rfl, hB14⟩

set_option maxRecDepth 100000 in
theorem lifted (os : Os) (started : os.Started) (H : Type) (enc : TypeId × Value → H) :
    ReturnsInHanded {} Try.checked os 4 .any (Rows.fnExactEqualHistoriesSpec.pre6 enc Try.prog Try.f4 Rows.fnExactEqualHistoriesRow.domain false) (Rows.fnExactEqualHistoriesSpec.post enc Try.prog Try.f4 false true false false) := by
  refine returnsInHanded_of_change (C := Try.checked) own started (by as_aux_lemma => kernel_rfl) Try.func4
    (ChangeSpec.witness6 (enc := enc) (C := Try.checked) false ⟨#[], #[.agg #[.int .i64 0, .slice none 0 0], .agg #[.int .i64 0, .slice none 0 0]], []⟩ 8 (by as_aux_lemma => kernel_rfl) (by as_aux_lemma => kernel_rfl) (by as_aux_lemma => kernel_rfl) (by as_aux_lemma => kernel_rfl)) ?_
  intro W base args ds gs before hval0 hW hcnd _
  have hval : ∀ (j : Nat) t v, Try.f4.params[j]? = some t → args[j]? = some v → Value.okWide Try.prog W .any base t v := hval0
  have hW' := hW
  obtain ⟨p, q, hA0, hV, rfl, hfz, hnd⟩ := hW
  have hA : DataW.TrodAll enc Try.prog W 0 (fun _ => true) true Try.f4.params.toList args.toList ds p := hA0
  rw [Try.params4] at hA hval
  obtain ⟨v0, vs0, d0, ds0, p0, q0, hargs, rfl, rfl, h0, r0⟩ := trodAll_cons hA
  obtain ⟨v1, vs1, d1, ds1, p1, q1, rfl, rfl, rfl, h1, r1⟩ := trodAll_cons r0
  obtain ⟨rfl, rfl, rfl⟩ := trodAll_nil r1
  obtain rfl : args = #[v0, v1] := by cases args; simp_all
  obtain ⟨rfl, rfl⟩ := trodVars_none hV
  have k0 := h0
  have lt0 : ∀ x ∈ p0, x.block < W.heap.size := by obtain ⟨m, hm⟩ := k0; exact DataW.trod_lt m _ _ _ hm
  have g0 := argHistory (hval 0 36 v0 rfl rfl) h0
  have k1 := h1
  have lt1 : ∀ x ∈ p1, x.block < W.heap.size := by obtain ⟨m, hm⟩ := k1; exact DataW.trod_lt m _ _ _ hm
  have g1 := argHistory (hval 1 36 v1 rfl rfl) h1
  clear hA0 hval0
  refine (walk W v0 g0 v1 g1).mono fun e W' ⟨he, bel⟩ => ?_
  subst he
  exact ⟨_, rfl, _, _, _, [], _, [], hW', trodAll_mk1 (shut_bool Try.underlying4 _), (trodAll_cons_mk (Below.trod laidOut (by as_aux_lemma => kernel_rfl) (of_decide_eq_true (by as_aux_lemma => kernel_rfl)) k0 bel lt0) (trodAll_cons_mk (Below.trod laidOut (by as_aux_lemma => kernel_rfl) (of_decide_eq_true (by as_aux_lemma => kernel_rfl)) k1 bel lt1) trodAll_mk0)), rfl, bel.frame _, fun h => by cases h⟩

set_option maxHeartbeats 8000000 in
theorem closed : joinedFacts Try.prog 4 Try.f4 Rows.fnExactEqualHistoriesSpec Rows.fnExactEqualHistoriesRow = true := by
  unfold joinedFacts
  simp only [Bool.and_eq_true]
  repeat' apply And.intro
  all_goals first | with_reducible exact frMay | with_reducible exact frLifts _ rfl | with_reducible exact frMake _ rfl | (as_aux_lemma => kernel_rfl)
set_option maxHeartbeats 1000000 in
theorem over : Rows.fnExactEqualHistoriesRow.holds Try.pinned (OpenSpec.ofChange Rows.fnExactEqualHistoriesSpec) :=
  OpenClaim.holds_of_wide 4 Try.f4 rfl rfl rfl rfl rfl rfl rfl ⟨rfl, rfl, rfl, rfl, rfl⟩ rfl rfl rfl rfl rfl (by as_aux_lemma => kernel_rfl) Try.func4 closed
    (of_decide_eq_true (by as_aux_lemma => kernel_rfl)) (by unfold Func.isWrapper; first | (rw [if_pos (by decide +kernel)]; kernel_rfl) | (rw [if_neg (by decide +kernel)]; exact ⟨rfl, rfl⟩))
    (fun os started H enc _ => lifted os started H enc)

theorem proved : Rows.FnExactEqualHistoriesSaid := over
end Go.Proofs.Ytolilkbejghocaa.fnExactEqualHistories
