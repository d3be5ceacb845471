/-
  FnExactReverseWordSaid: for every input the law FnExactReverseWord returns true, and its arguments read afterwards as before. No condition.
-/
import Derived.Test.YtfigilkggjokkaaArgs
import Derived.Test.YtfigilkggjokkaaOwn
import Derived.Test.YtfigilkggjokkaaRev
import Derived.Test.YtfigilkggjokkaaFr
namespace Go.Proofs.Ytfigilkggjokkaa.fnExactReverseWord
open Go.ChangeShapes Go.WideShapes Go.ChangeAt Go.RowKit Go.Deep
open Go.ChangeMaps (open_string shut_string)
set_option linter.unusedVariables false


theorem own : ownKnob Try.prog.godebug = none := by kernel_rfl
theorem laidOut : laidOutB Try.prog = true := by kernel_rfl

set_option maxRecDepth 4000 in
set_option maxHeartbeats 2000000 in
theorem walk (W : World) (v0 : Value) (g0 : ArgInts W v0) :
    Calls Try.prog 3 #[v0] W fun e w' => e = .returned (.bool true) ∧ Below W.heap.size W w' := by
  obtain ⟨A, n, c, xs, rfl, hl, hnc, hcm, hr, _⟩ := g0
  by_cases hbig : 1048576 < n
  · go_enter Try.func3, Try.ntmps3
    go_wp2
    go_ret
    exact ⟨rfl, Below.refl _ _⟩
  · have hn : n ≤ 2000000 := by omega
    have hrl : (revW xs).length = n := by rw [revW_len, hl]
    clear hnc hcm
    go_enter Try.func3, Try.ntmps3
    go_wp2_with fail
    refine (toIntS_any A n c xs _ hl hn hr).mono ?_
    rintro e w1 ⟨rfl, ho1, hb1⟩
    have hB1 := hb1
    go_wp2_with fail
    refine (specRev_any _ n n xs _ hl hn (Reads.of_own ho1)).mono ?_
    rintro e w2 ⟨v2, rfl, ho2, hb2⟩
    have hB2 := below_then hB1 hb2
    have O2 := OwnIn.of ho2
    obtain ⟨A2, c2, rfl⟩ := O2.form
    clear ho1 ho2 hb1
    have S1 := hB1.size
    have S2 := hb2.size
    go_wp2_with fail
    refine (toIntS_any A n c xs _ hl hn (reads_up hr hB2)).mono ?_
    rintro e w3 ⟨rfl, ho3, hb3⟩
    have hB3 := below_then hB2 hb3
    have O3 := OwnIn.of ho3
    replace O2 := O2.below hb3
    have S3 := hb3.size
    clear ho3 hb2 hb3
    generalize hx2 : Addr.mk w2.heap.size 0 none = x2 at *
    go_wp2_with fail
    refine (implRev_any _ n n xs _ hl hn O3.reads).mono ?_
    rintro e w4 ⟨v4, rfl, ho4, hb4⟩
    have hB4 := below_then hB3 hb4
    have O4 := OwnIn.of ho4
    obtain ⟨A4, c4, rfl⟩ := O4.form
    replace O2 := O2.below hb4
    replace O3 := O3.below hb4
    have S4 := hb4.size
    clear ho4 hb4
    go_wp2_with fail
    refine (eqIntS_any _ _ n c4 n c2 _ _ _ hrl hrl hn hn O4.reads O2.reads).mono ?_
    rintro e w5 ⟨rfl, hb5⟩
    rw [eqB_refl]
    have hB5 := below_then hB4 hb5
    replace O2 := O2.below hb5
    replace O3 := O3.below hb5
    replace O4 := O4.below hb5
    have S5 := hb5.size
    clear hb5
    go_wp2_with fail
    refine (toIntS_any A n c xs _ hl hn (reads_up hr hB5)).mono ?_
    rintro e w6 ⟨rfl, ho6, hb6⟩
    have hB6 := below_then hB5 hb6
    replace O2 := O2.below hb6
    replace O3 := O3.below hb6
    replace O4 := O4.below hb6
    have S6 := hb6.size
    clear hb6
    go_wp2_with fail
    refine (eqIntS_any _ _ n n n n _ _ _ hl hl hn hn O3.reads (Reads.of_own ho6)).mono ?_
    rintro e w7 ⟨rfl, hb7⟩
    rw [eqB_refl]
    have hB7 := below_then hB6 hb7
    replace O2 := O2.below hb7
    replace O3 := O3.below hb7
    replace O4 := O4.below hb7
    have S7 := hb7.size
    clear hb7 ho6
    go_wp2_with fail
    refine (markIntS_in _ n 1 _ _ _ _ hn (by omega) O3 (by omega)).mono ?_
    rintro e w8 ⟨rfl, hm8, t8⟩
    have hB8 := below_tch hB7 t8 (by omega)
    replace O2 := O2.tch t8 (.inl (Nat.le_refl _))
    replace O4 := O4.tch t8 (.inr (Nat.le_refl _))
    have S8 := t8.size
    clear t8 hm8 O3
    go_wp2_with fail
    refine (eqIntS_any _ _ n c4 n c2 _ _ _ hrl hrl hn hn O4.reads O2.reads).mono ?_
    rintro e w9 ⟨rfl, hb9⟩
    rw [eqB_refl]
    have hB9 := below_then hB8 hb9
    replace O2 := O2.below hb9
    replace O4 := O4.below hb9
    have S9 := hb9.size
    clear hb9
    go_wp2_with fail
    refine (markIntS_in _ n 1 _ _ _ _ hn (by omega) O4 (by omega)).mono ?_
    rintro e w10 ⟨rfl, M4, t10⟩
    have hB10 := below_tch hB9 t10 (by omega)
    replace O2 := O2.tch t10 (.inl (by omega))
    have S10 := t10.size
    clear t10 O4
    go_wp2_with fail
    refine (heldIntS_any _ n c4 1 _ hn (by omega) M4.reads).mono ?_
    rintro e w11 ⟨rfl, hb11⟩
    have hB11 := below_then hB10 hb11
    replace O2 := O2.below hb11
    replace M4 := M4.below hb11
    have S11 := hb11.size
    clear hb11
    go_wp2_with fail
    refine (toIntS_any A n c xs _ hl hn (reads_up hr hB11)).mono ?_
    rintro e w12 ⟨rfl, ho12, hb12⟩
    have hB12 := below_then hB11 hb12
    replace O2 := O2.below hb12
    replace M4 := M4.below hb12
    clear hb12
    go_wp2_with fail
    refine (implRev_any _ n n xs _ hl hn (Reads.of_own ho12)).mono ?_
    rintro e w13 ⟨v13, rfl, ho13, hb13⟩
    have hB13 := below_then hB12 hb13
    have O13 := OwnIn.of ho13
    obtain ⟨A13, c13, rfl⟩ := O13.form
    replace O2 := O2.below hb13
    replace M4 := M4.below hb13
    clear ho12 ho13 hb13
    go_wp2_with fail
    refine (eqIntS_any _ _ n c13 n c2 _ _ _ hrl hrl hn hn O13.reads O2.reads).mono ?_
    rintro e w14 ⟨rfl, hb14⟩
    rw [eqB_refl]
    have hB14 := below_then hB13 hb14
    replace M4 := M4.below hb14
    clear hb14 O13 O2
    go_wp2_with fail
    refine (heldIntS_any _ n c4 1 _ hn (by omega) M4.reads).mono ?_
    rintro e w15 ⟨rfl, hb15⟩
    go_wp2
    go_ret
    exact ⟨rfl, below_then hB14 hb15⟩

set_option maxRecDepth 100000 in
theorem lifted (os : Os) (started : os.Started) (H : Type) (enc : TypeId × Value → H) :
    ReturnsInHanded {} Try.checked os 3 .any (Rows.fnExactReverseWordSpec.pre6 enc Try.prog Try.f3 Rows.fnExactReverseWordRow.domain false) (Rows.fnExactReverseWordSpec.post enc Try.prog Try.f3 false true false false) := by
  refine returnsInHanded_of_change (C := Try.checked) own started (by as_aux_lemma => kernel_rfl) Try.func3
    (ChangeSpec.witness6 (enc := enc) (C := Try.checked) false ⟨#[], #[.slice none 0 0], []⟩ 8 (by as_aux_lemma => kernel_rfl) (by as_aux_lemma => kernel_rfl) (by as_aux_lemma => kernel_rfl) (by as_aux_lemma => kernel_rfl)) ?_
  intro W base args ds gs before hval0 hW hcnd _
  have hval : ∀ (j : Nat) t v, Try.f3.params[j]? = some t → args[j]? = some v → Value.okWide Try.prog W .any base t v := hval0
  have hW' := hW
  obtain ⟨p, q, hA0, hV, rfl, hfz, hnd⟩ := hW
  have hA : DataW.TrodAll enc Try.prog W 0 (fun _ => true) true Try.f3.params.toList args.toList ds p := hA0
  rw [Try.params3] at hA hval
  obtain ⟨v0, vs0, d0, ds0, p0, q0, hargs, rfl, rfl, h0, r0⟩ := trodAll_cons hA
  obtain ⟨rfl, rfl, rfl⟩ := trodAll_nil r0
  obtain rfl : args = #[v0] := by cases args; simp_all
  obtain ⟨rfl, rfl⟩ := trodVars_none hV
  have k0 := h0
  have lt0 : ∀ x ∈ p0, x.block < W.heap.size := by obtain ⟨m, hm⟩ := k0; exact DataW.trod_lt m _ _ _ hm
  have g0 := argInts (hval 0 22 v0 rfl rfl) h0
  clear hA0 hval0
  refine (walk W v0 g0).mono fun e W' ⟨he, bel⟩ => ?_
  subst he
  exact ⟨_, rfl, _, _, _, [], _, [], hW', trodAll_mk1 (shut_bool Try.underlying4 _), (trodAll_cons_mk (Below.trod laidOut (by as_aux_lemma => kernel_rfl) (of_decide_eq_true (by as_aux_lemma => kernel_rfl)) k0 bel lt0) trodAll_mk0), rfl, bel.frame _, fun h => by cases h⟩

set_option maxHeartbeats 8000000 in
theorem closed : joinedFacts Try.prog 3 Try.f3 Rows.fnExactReverseWordSpec Rows.fnExactReverseWordRow = true := by
  unfold joinedFacts
  simp only [Bool.and_eq_true]
  repeat' apply And.intro
  all_goals first | with_reducible exact frMay | with_reducible exact frLifts _ rfl | with_reducible exact frMake _ rfl | (as_aux_lemma => kernel_rfl)
set_option maxHeartbeats 1000000 in
theorem over : Rows.fnExactReverseWordRow.holds Try.pinned (OpenSpec.ofChange Rows.fnExactReverseWordSpec) :=
  OpenClaim.holds_of_wide 3 Try.f3 rfl rfl rfl rfl rfl rfl rfl ⟨rfl, rfl, rfl, rfl, rfl⟩ rfl rfl rfl rfl rfl (by as_aux_lemma => kernel_rfl) Try.func3 closed
    (of_decide_eq_true (by as_aux_lemma => kernel_rfl)) (by unfold Func.isWrapper; first | (rw [if_pos (by decide +kernel)]; kernel_rfl) | (rw [if_neg (by decide +kernel)]; exact ⟨rfl, rfl⟩))
    (fun os started H enc _ => lifted os started H enc)

theorem proved : Rows.FnExactReverseWordSaid := over
end Go.Proofs.Ytfigilkggjokkaa.fnExactReverseWord
