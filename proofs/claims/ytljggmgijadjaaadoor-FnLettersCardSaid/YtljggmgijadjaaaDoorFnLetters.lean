/-
  FnLettersCardSaid: for every input the law FnLetters returns true, and its arguments read afterwards as before. Condition: the package variables that the row lists hold what their initialisers lay; the card ties that to the text.
-/
import Derived.Test.YtljggmgijadjaaaDoorDrwW
import Derived.Test.YtljggmgijadjaaaDoorWdP
import Derived.Test.YtljggmgijadjaaaDoorSameI
import Derived.Test.YtljggmgijadjaaaDoorLetA
import Derived.Test.YtljggmgijadjaaaDoorLet
import Derived.Test.YtljggmgijadjaaaDoorWord
import Derived.Test.YtljggmgijadjaaaDoorFr
import Derived.Test.YtljggmgijadjaaaDoorCards
import Derived.Test.YtljggmgijadjaaaDoorTie
import Derived.Deep.DeepHandedRow
import Derived.Lay
import Derived.SevenTiedAt
import Derived.LaidMore
import Derived.Stop.Joined
namespace Go.Proofs.YtljggmgijadjaaaDoor.fnLetters
open Go.ChangeShapes Go.WideShapes Go.ChangeAt Go.RowKit Go.Deep
open Go.ChangeMaps (open_string shut_string)
set_option linter.unusedVariables false

theorem fmtWd_len (xs : List Int) : (fmtWd xs).length ≤ 24 := by
  unfold fmtWd
  split
  · rename_i h
    have h8 := wordB_len h
    split
    · simp
    · have := join_len2 (xs.map fmtL) (fun y hy => by obtain ⟨z, _, rfl⟩ := List.mem_map.1 hy; exact fmtL_len z)
      rw [List.length_map] at this
      omega
  · simp
theorem cmpW_bd (xs ys : List Int) : -1 ≤ cmpW xs ys ∧ cmpW xs ys ≤ 1 := by
  have h : ∀ (a b : List Int), -1 ≤ cmpL a b ∧ cmpL a b ≤ 1 := by
    intro a
    induction a with
    | nil => intro b; cases b <;> simp [cmpL]
    | cons x a ih =>
      intro b
      cases b with
      | nil => simp [cmpL]
      | cons y b =>
        have := ih b
        unfold cmpL
        split
        · omega
        · split <;> omega
  have := h xs ys
  unfold cmpW
  split
  · omega
  · split <;> omega
theorem eqB_cmp (xs ys : List Int) : (cmpW xs ys == 0) = eqB xs ys := by
  unfold eqB
  rw [Bool.eq_iff_iff, beq_iff_eq, decide_eq_true_eq]
  exact cmpW_zero xs ys
theorem ird_ris {w : World} {lo hi : Nat} {e : TypeId} {A : Option Addr} {n c : Nat} {l : List Int} (h : RIs w lo hi e 1 A n c (l.map iv)) : IRd w A n l := by
  have h1 := h.own.row.1
  exact ⟨by simpa using h1, Reads.of_own h.own.row, h.bd⟩

theorem own : ownKnob Tryd.prog.godebug = none := by kernel_rfl
theorem laidOut : laidOutB Tryd.prog = true := by kernel_rfl

set_option maxRecDepth 4000 in
set_option maxHeartbeats 8000000 in
theorem walk (W : World) (hS : W.ShapedOpen Tryd.prog) (hL : laidMet Tryd.prog Rows.fnLettersRow.laid W) (v0 : Value) (g0 : ArgBytes W v0) :
    Calls Tryd.prog 4 #[v0] W fun e w' => e = .returned (.bool true) ∧ Below W.heap.size W w' := by
  have TM : TabM W := tabM_of hS
  clear hL hS
  obtain ⟨A, n, c, bs, rfl, hl, hnc, hcm, hr⟩ := g0
  by_cases hbig : (1048576 : Int) < n
  · have hd : decide ((1048576 : Int) < n) = true := by simpa using hbig
    go_enter Tryd.func4, Tryd.ntmps4
    go_wp2_with fail
    refine (big_is _ _ _ _).mono ?_
    rintro e w1 ⟨rfl, rfl⟩
    go_wp2
    go_ret
    exact ⟨rfl, Below.refl _ _⟩
  · have hd : decide ((1048576 : Int) < n) = false := by simpa using hbig
    have R0 : CRaw W A n := ⟨⟨bs, hl, hr⟩, by omega⟩
    clear hl hnc hcm hr
    go_enter Tryd.func4, Tryd.ntmps4
    go_wp2_with fail
    refine (big_is _ _ _ _).mono ?_
    rintro e w0 ⟨rfl, rfl⟩
    go_wp2_with fail
    refine (drawLetter_any w0 R0).mono ?_
    rintro e w1 ⟨q, rfl, hq0, hq1, b1⟩
    have B1 := b1
    clear b1
    obtain ⟨v, hv⟩ : ∃ v, invL q = v := ⟨_, rfl⟩
    have hv2 : invL v = q := by rw [← hv]; exact invL_two q
    obtain ⟨mb, hmb⟩ : ∃ mb, inB q 0 5 = mb := ⟨_, rfl⟩
    have hne : (v != q) = mb := by
      rw [← hmb, invL_move, hv]
      by_cases h : v = q <;> simp [h]
    have i1 := implInverse_any q
    have i2 := specInverse_any q
    have i3 := implInverse_any v
    have m1 := implIsMove_any q
    have m2 := specIsMove_any q
    rw [hv] at i1 i2
    rw [hv2] at i3
    rw [hmb] at m1 m2
    have I1 := Lib.hid i1
    have I2 := Lib.hid i2
    have I3 := Lib.hid i3
    have M1 := Lib.hid m1
    have M2 := Lib.hid m2
    clear i1 i2 i3 m1 m2 hv hv2 hmb
    go_wp2_with fail
    refine (I1.out _).mono ?_
    rintro e w2 ⟨rfl, rfl⟩
    go_wp2_with fail
    refine (I2.out _).mono ?_
    rintro e w2 ⟨rfl, rfl⟩
    go_wp2_with fail
    refine (I1.out _).mono ?_
    rintro e w2 ⟨rfl, rfl⟩
    go_wp2_with fail
    refine (I3.out _).mono ?_
    rintro e w2 ⟨rfl, rfl⟩
    go_wp2_with fail
    refine (M1.out _).mono ?_
    rintro e w2 ⟨rfl, rfl⟩
    go_wp2_with fail
    refine (M2.out _).mono ?_
    rintro e w2 ⟨rfl, rfl⟩
    go_wp2_with fail
    refine (M1.out _).mono ?_
    rintro e w2 ⟨rfl, rfl⟩
    go_wp2_with fail
    refine (I1.out _).mono ?_
    rintro e w2 ⟨rfl, rfl⟩
    obtain ⟨S, hS⟩ : ∃ S : ByteArray, (⟨(fmtL q).toArray⟩ : ByteArray) = S := ⟨_, rfl⟩
    have hSe : S.data.toList = fmtL q := by subst hS; rfl
    have f1 := implFormatL_any q
    have f2 := specFormatL_any q
    have f3 := implParseL_any S
    rw [hS] at f1 f2
    obtain ⟨pn, hpn⟩ : ∃ pn, parseLN S.data.toList = pn := ⟨_, rfl⟩
    obtain ⟨pb, hpb⟩ : ∃ pb, parseLB S.data.toList = pb := ⟨_, rfl⟩
    have hsl : (S.toList == ([] : List UInt8)) = !pb := by
      rw [ByteArray.toList_eq, hSe, ← hpb, hSe]
      cases h8 : inB q 0 8 with
      | true =>
        obtain ⟨h1, h2, _⟩ := fmtL_back h8
        rw [h2]
        simp [h1]
      | false =>
        rw [fmtL_out h8, parse_nil]
        rfl
    have hpq : pb = true → pn = q := by
      rw [← hpb, ← hpn, hSe]
      cases h8 : inB q 0 8 with
      | true => exact fun _ => (fmtL_back h8).2.2.1
      | false =>
        rw [fmtL_out h8, parse_nil]
        simp
    rw [hpn, hpb] at f3
    have F1 := Lib.hid f1
    have F2 := Lib.hid f2
    have F3 := Lib.hid f3
    clear f1 f2 f3 hpn hpb hSe hS I1 I2 I3 M1 M2
    go_wp2_with fail
    refine (F1.out _).mono ?_
    rintro e w2 ⟨rfl, b2⟩
    have B2 := below_then B1 b2
    go_wp2_with fail
    refine (F3.out _).mono ?_
    rintro e w3 ⟨rfl, b3⟩
    have B3 := below_then B2 b3
    clear b2 b3 hne
    go_wp2_with fail
    refine (F2.out _).mono ?_
    rintro e w4 ⟨rfl, b4⟩
    have B4 := below_then B3 b4
    clear b4 F1 F2 F3 B1 B2 B3
    have hpc : (pb = true ∧ pn = q) ∨ pb = false := by
      cases pb
      · exact .inr rfl
      · exact .inl ⟨rfl, hpq rfl⟩
    clear hpq
    rcases hpc with ⟨rfl, rfl⟩ | rfl
    all_goals
      go_wp2_with fail
      refine (drawWords_any w4 (R0.up B4)).mono ?_
      rintro e w5 ⟨A1, n1, c1, A2, n2, c2, rfl, l1, l2, r1, r2, b5⟩
      have B5 := below_then B4 b5
      have hn1 := r1.bd
      have hn2 := r2.bd
      clear b5 B4 hsl
      obtain ⟨cw, hcw⟩ : ∃ cw, cmpW l1 l2 = cw := ⟨_, rfl⟩
      have hcb := cmpW_bd l1 l2
      have hcn := cmpW_neg l1 l2
      have hce := eqB_cmp l1 l2
      obtain ⟨sb, hsb⟩ : ∃ sb, eqB l1 l2 = sb := ⟨_, rfl⟩
      rw [hcw] at hcb hcn hce
      rw [hsb] at hce
      have hnw : IntKind.i64.wrap (-cw) = -cw := IntWalk.i64_in _ (by omega)
      have c1' := fun w (h1 : IRd w A1 n1 l1) (h2 : IRd w A2 n2 l2) => implCmp_any A1 A2 n1 c1 n2 c2 l1 l2 w h1.ln h2.ln h1.bd h2.bd h1.rd h2.rd
      have c2' := fun w (h1 : IRd w A1 n1 l1) (h2 : IRd w A2 n2 l2) => specCmp_any A1 A2 n1 c1 n2 c2 l1 l2 w h1.ln h2.ln h1.bd h2.bd h1.rd h2.rd
      have c3' := fun w (h1 : IRd w A1 n1 l1) (h2 : IRd w A2 n2 l2) => implCmp_any A2 A1 n2 c2 n1 c1 l2 l1 w h2.ln h1.ln h2.bd h1.bd h2.rd h1.rd
      have s1' := fun w (h1 : IRd w A1 n1 l1) (h2 : IRd w A2 n2 l2) => sameInts_any A1 A2 n1 c1 n2 c2 l1 l2 w h1.ln h2.ln h1.bd h2.bd h1.rd h2.rd
      simp only [hcw, hcn, hsb] at c1' c2' c3' s1'
      have C1 := Lib.hid c1'
      have C2 := Lib.hid c2'
      have C3 := Lib.hid c3'
      have S1 := Lib.hid s1'
      clear c1' c2' c3' s1' hcw hcn hsb hcb
      go_wp2_with fail
      refine (C1.out _ r1 r2).mono ?_
      rintro e w6 ⟨rfl, b6⟩
      have B6 := below_then B5 b6
      replace r1 := r1.up b6
      replace r2 := r2.up b6
      clear b6
      go_wp2_with fail
      refine (C2.out _ r1 r2).mono ?_
      rintro e w7 ⟨rfl, b7⟩
      have B7 := below_then B6 b7
      replace r1 := r1.up b7
      replace r2 := r2.up b7
      clear b7
      go_wp2_with fail
      refine (C3.out _ r1 r2).mono ?_
      rintro e w8 ⟨rfl, b8⟩
      have B8 := below_then B7 b8
      replace r1 := r1.up b8
      replace r2 := r2.up b8
      clear b8
      go_wp2_with fail
      refine (S1.out _ r1 r2).mono ?_
      rintro e w9 ⟨rfl, b9⟩
      have B9 := below_then B8 b9
      replace r1 := r1.up b9
      clear b9 r2 C1 C2 C3 S1 B5 B6 B7 B8
      go_wp2_with fail
      refine (implRev_any A1 n1 c1 l1 w9 r1.ln r1.bd r1.rd).mono ?_
      rintro e w10 ⟨v3, rfl, o3, b10⟩
      have B10 := below_then B9 b10
      replace r1 := r1.up b10
      obtain ⟨A3, c3, rfl, _⟩ := own_form o3
      have hrl : (revW l1).length = n1 := by rw [revW_len, r1.ln]
      have r3 := own_ird hrl hn1 o3
      clear b10 o3 hce hnw
      obtain ⟨X, hX⟩ : ∃ X : ByteArray, (⟨(fmtWd l1).toArray⟩ : ByteArray) = X := ⟨_, rfl⟩
      have hXe : X.data.toList = fmtWd l1 := by subst hX; rfl
      have hXs : X.size ≤ 1048576 := by
        rw [Lib.size_eq, hXe]
        have := fmtWd_len l1
        omega
      have hwb := word_back l1
      have fw := fun w (h1 : IRd w A1 n1 l1) => implFormatWord_is w (c := c1) h1
      simp only [hX] at fw
      have FW := Lib.hid fw
      have pw := fun w TM => implParseWord_is w TM X hXs
      simp only [hXe] at pw
      obtain ⟨wb, hw⟩ : ∃ wb, wordB l1 = wb := ⟨_, rfl⟩
      obtain ⟨L, hL⟩ : ∃ L, prsWdN (fmtWd l1) = L := ⟨_, rfl⟩
      rw [hw, hL] at hwb
      simp only [hwb.1, hL] at pw
      have PW := Lib.hid pw
      have HWB := Lib.hid hwb.2
      have iw := fun w (h1 : IRd w A1 n1 l1) => specIsWord_any A1 n1 c1 l1 w h1.ln h1.bd h1.rd
      simp only [hw] at iw
      have IW := Lib.hid iw
      clear fw pw iw hw hL hwb hX hXe
      go_wp2_with fail
      refine (FW.out _ r1).mono ?_
      rintro e w11 ⟨rfl, b11⟩
      have B11 := below_then B10 b11
      replace r1 := r1.up b11
      replace r3 := r3.up b11
      clear b11
      go_wp2_with fail
      refine (PW.out w11 (TM.up B11)).mono ?_
      rintro e w12 ⟨A4, n4, c4, rfl, I4, b12⟩
      have B12 := below_then B11 b12
      replace r1 := r1.up b12
      replace r3 := r3.up b12
      have r4 := ird_ris I4
      have hn4 := r4.bd
      clear b12 I4
      go_wp2_with fail
      refine (specRev_any A1 n1 c1 l1 w12 r1.ln r1.bd r1.rd).mono ?_
      rintro e w13 ⟨v5, rfl, o5, b13⟩
      have B13 := below_then B12 b13
      replace r1 := r1.up b13
      replace r3 := r3.up b13
      replace r4 := r4.up b13
      obtain ⟨A5, c5, rfl, _⟩ := own_form o5
      have r5 := own_ird hrl hn1 o5
      clear b13 o5 FW PW
      go_wp2_with fail
      refine (sameInts_any A3 A5 n1 c3 n1 c5 _ _ w13 r3.ln r5.ln r3.bd r5.bd r3.rd r5.rd).mono ?_
      rintro e w14 ⟨rfl, b14⟩
      rw [eqB_refl]
      have B14 := below_then B13 b14
      replace r1 := r1.up b14
      replace r3 := r3.up b14
      replace r4 := r4.up b14
      clear b14 r5
      go_wp2_with fail
      refine (implRev_any A3 n1 c3 (revW l1) w14 r3.ln r3.bd r3.rd).mono ?_
      rintro e w15 ⟨v6, rfl, o6, b15⟩
      rw [revW_two] at o6
      have B15 := below_then B14 b15
      replace r1 := r1.up b15
      replace r4 := r4.up b15
      obtain ⟨A6, c6, rfl, _⟩ := own_form o6
      have r6 := own_ird r1.ln hn1 o6
      clear b15 o6 r3
      go_wp2_with fail
      refine (sameInts_any A6 A1 n1 c6 n1 c1 _ _ w15 r6.ln r1.ln r6.bd r1.bd r6.rd r1.rd).mono ?_
      rintro e w16 ⟨rfl, b16⟩
      rw [eqB_refl]
      have B16 := below_then B15 b16
      replace r1 := r1.up b16
      replace r4 := r4.up b16
      clear b16 r6
      go_wp2_with fail
      refine (IW.out _ r1).mono ?_
      rintro e w17 ⟨rfl, rfl⟩
      clear IW
      cases wb
      · go_wp2
        go_ret
        exact ⟨rfl, B16⟩
      · obtain rfl := HWB.out rfl
        go_wp2_with fail
        refine (sameInts_any A4 A1 n4 c4 n1 c1 _ _ w16 r4.ln r1.ln r4.bd r1.bd r4.rd r1.rd).mono ?_
        rintro e w18 ⟨rfl, b18⟩
        rw [eqB_refl]
        have B18 := below_then B16 b18
        go_wp2
        go_ret
        exact ⟨rfl, B18⟩

theorem met (os : Os) (args : Array Value) : laidMet Tryd.prog Rows.fnLettersRow.laid ((World.laidAll Tryd.prog os Rows.fnLettersRow.laid).forCall (fun _ _ => 0) ⟨#[], args, []⟩).memory :=
  laidMet_laidAll _ (by as_aux_lemma => kernel_rfl) (by as_aux_lemma => kernel_rfl)
theorem plainly (w : World) : laidMetH Tryd.prog Rows.fnLettersRow.laid w = laidMet Tryd.prog Rows.fnLettersRow.laid w := MakeChecks.laidMetH_plain _ _ _ (by as_aux_lemma => kernel_rfl)
set_option maxRecDepth 100000 in
theorem lifted (os : Os) (started : os.Started) (H : Type) (enc : TypeId × Value → H) (F : Stop.Interp) :
    ReturnsInHanded {} Tryd.checked os 4 .any ((OpenSpec.ofChange Rows.fnLettersSpec).preRow enc Tryd.prog Tryd.f4 Rows.fnLettersRow.domain false Rows.fnLettersRow.laid) (((OpenSpec.ofChange Rows.fnLettersSpec).at F).post enc Tryd.prog Tryd.f4 false true false false) := by
  refine returnsInHanded_of_row (C := Tryd.checked) (s := OpenSpec.ofChange Rows.fnLettersSpec) own started (by as_aux_lemma => kernel_rfl) Tryd.func4
    (ChangeSpec.witness_shaped (enc := enc) (C := Tryd.checked) (os := os) (X := fun w _ => laidMetH Tryd.prog Rows.fnLettersRow.laid w) false (World.laidAll Tryd.prog os Rows.fnLettersRow.laid) #[.slice none 0 0] 8 (World.laidAll_os _ _ _) (World.shaped_of_ZipB (by as_aux_lemma => kernel_rfl) (by as_aux_lemma => kernel_rfl)) (by as_aux_lemma => kernel_rfl) (by as_aux_lemma => kernel_rfl) (by as_aux_lemma => kernel_rfl) (by rw [plainly]; exact met os _)) ?_
  intro W base args ds gs before hval0 hW _ _ _ hL0 hS _
  have hL : laidMetH Tryd.prog Rows.fnLettersRow.laid W := hL0
  rw [plainly] at hL
  have hval : ∀ (j : Nat) t v, Tryd.f4.params[j]? = some t → args[j]? = some v → Value.okWide Tryd.prog W .any base t v := hval0
  have hW' := hW
  obtain ⟨p, q, hA0, hV, rfl, hfz, hnd⟩ := hW
  have hA : DataW.TrodAll enc Tryd.prog W 0 (fun _ => true) true Tryd.f4.params.toList args.toList ds p := hA0
  rw [Tryd.params4] at hA hval
  obtain ⟨v0, vs0, d0, ds0, p0, q0, hargs, rfl, rfl, h0, r0⟩ := trodAll_cons hA
  obtain ⟨rfl, rfl, rfl⟩ := trodAll_nil r0
  obtain rfl : args = #[v0] := by cases args; simp_all
  obtain ⟨rfl, rfl⟩ := trodVars_none hV
  have k0 := h0
  have lt0 : ∀ x ∈ p0, x.block < W.heap.size := by obtain ⟨m, hm⟩ := k0; exact DataW.trod_lt m _ _ _ hm
  have g0 := argBytes (hval 0 31 v0 rfl rfl) h0
  clear hA0 hval0
  refine (walk W hS hL v0 g0).mono fun e W' ⟨he, bel⟩ => ?_
  subst he
  exact ⟨_, rfl, _, _, _, [], _, [], hW', trodAll_mk1 (shut_bool Tryd.underlying4 _), (trodAll_cons_mk (Below.trod laidOut (by as_aux_lemma => kernel_rfl) (of_decide_eq_true (by as_aux_lemma => kernel_rfl)) k0 bel lt0) trodAll_mk0), rfl, bel.frame _, fun h => by cases h⟩

set_option maxHeartbeats 8000000 in
theorem closed : joinedFacts Tryd.prog 4 Tryd.f4 Rows.fnLettersSpec Rows.fnLettersRow = true := by
  unfold joinedFacts
  simp only [Bool.and_eq_true]
  repeat' apply And.intro
  all_goals first | with_reducible exact frMay | with_reducible exact frLifts _ rfl | with_reducible exact frMake _ rfl | (as_aux_lemma => kernel_rfl)
set_option maxRecDepth 100000 in
set_option maxHeartbeats 1000000 in
theorem over : Rows.fnLettersRow.holds Tryd.pinned (OpenSpec.ofChange Rows.fnLettersSpec) :=
  OpenClaim.holds_of_cond 4 Tryd.f4 rfl rfl rfl rfl rfl rfl rfl ⟨rfl, rfl, rfl, rfl, rfl⟩ rfl rfl rfl rfl rfl (by as_aux_lemma => kernel_rfl) Tryd.func4 closed
    (of_decide_eq_true (by as_aux_lemma => kernel_rfl)) (by unfold Func.isWrapper; first | (rw [if_pos (by decide +kernel)]; kernel_rfl) | (rw [if_neg (by decide +kernel)]; exact ⟨rfl, rfl⟩))
    (fun os started H enc _ F => by rw [OpenClaim.pre_eq_preRow]; exact lifted os started H enc F)

theorem plain (f : FuncId) (fn : Func) (hf : Tryd.pinned.checked.prog.funcNamed "loop.example/g01922/laws.FnLetters" = some f) (hfn : Tryd.pinned.checked.prog.funcs[f]? = some fn) :
    true = Tryd.pinned.checked.prog.looks [] ∧ ∀ (j : Nat) t, fn.params[j]? = some t → Tryd.pinned.checked.prog.wantsStandIn t = false := by
  obtain rfl : f = 4 := Option.some.inj ((show Tryd.prog.funcNamed "loop.example/g01922/laws.FnLetters" = some 4 by kernel_rfl).symm.trans hf) |>.symm
  obtain rfl : fn = Tryd.f4 := (Option.some.inj (Tryd.func4.symm.trans hfn)).symm
  refine ⟨by kernel_rfl, fun j t ht => ?_⟩
  rw [Tryd.params4] at ht
  have hm : t ∈ [31] := by simpa using Array.mem_of_getElem? ht
  have hall : ([31].all fun u => !Tryd.prog.wantsStandIn u) = true := by kernel_rfl
  exact (show Tryd.prog.wantsStandIn t = false by simpa using List.all_eq_true.1 hall t hm)

theorem proved : Rows.FnLettersCardSaid :=
  Claim7.holds_tied_plain_at .later [] _ _ _ _ over (fun _ h => by cases h) (by as_aux_lemma => kernel_rfl) (fun _ h => by cases h) fnLetters_row_tie rfl ⟨rfl, rfl⟩ (by as_aux_lemma => kernel_rfl) rfl plain (by as_aux_lemma => kernel_rfl)
end Go.Proofs.YtljggmgijadjaaaDoor.fnLetters
