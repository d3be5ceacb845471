/-
  FnIntegerEncodingsCardSaid: for every input the law FnIntegerEncodings returns true, and its arguments read afterwards as before. Condition: the package variables that the row lists hold what their initialisers lay; the card ties that to the text.
-/
import Derived.Test.YtljggmgijadjaaaDoorDrwT
import Derived.Test.YtljggmgijadjaaaDoorIntP
import Derived.Test.YtljggmgijadjaaaDoorPrsI
import Derived.Test.YtljggmgijadjaaaDoorFr
import Derived.Test.YtljggmgijadjaaaDoorCards
import Derived.Test.YtljggmgijadjaaaDoorTie
import Derived.Deep.DeepHandedRow
import Derived.Lay
import Derived.SevenTiedAt
import Derived.LaidMore
import Derived.Stop.Joined
namespace Go.Proofs.YtljggmgijadjaaaDoor.fnIntegerEncodings
open Go.ChangeShapes Go.WideShapes Go.ChangeAt Go.RowKit Go.Deep
open Go.ChangeMaps (open_string shut_string)
set_option linter.unusedVariables false

theorem law1 {q : Int} {L t : List UInt8} (hL : Vr.encVarint q = L) : (L ≠ [] ∧ 0 ≤ q ∧ q ≤ 562949953421311 ∧ ((Vr.decVN (L ++ t) : Nat) : Int) = q ∧ ((Vr.decVK (L ++ t) : Nat) : Int) = L.length) ∨ (L = [] ∧ (q < 0 ∨ (0 ≤ q ∧ 562949953421311 < q))) := by
  subst hL
  by_cases h : 0 ≤ q ∧ q ≤ 562949953421311
  · obtain ⟨a, b⟩ := var_back h.1 h.2 t
    exact .inl ⟨(encV_pos' q).2 h, h.1, h.2, a, by rw [b]⟩
  · refine .inr ⟨?_, by omega⟩
    cases hc : Vr.encVarint q with
    | nil => rfl
    | cons a b => exact absurd ((encV_pos' q).1 (by rw [hc]; simp)) h
theorem law2 {n m : Int} {L t : List UInt8} (hL : Vr.encFixed n m = L) : (L ≠ [] ∧ Fx.decFB (L ++ t) m = true ∧ Fx.decFN (L ++ t) m = n ∧ (L.length : Int) = m) ∨ L = [] := by
  subst hL
  by_cases h : Vr.encFixed n m = []
  · exact .inr h
  · exact .inl ⟨h, fix_back h t⟩
theorem law3 {n : Int} : (prsIB (Lib.itoa n) = true ∧ prsIN (Lib.itoa n) = n ∧ -1000000000 < n ∧ n < 1000000000) ∨ (prsIB (Lib.itoa n) = false ∧ (n ≤ -1000000000 ∨ (-1000000000 < n ∧ decide (n < 1000000000) = false))) := by
  unfold prsIB prsIN
  by_cases h : -999999999 ≤ n ∧ n ≤ 999999999
  · rw [prsI_itoa h.1 h.2]
    exact .inl ⟨rfl, rfl, by omega, by omega⟩
  · refine .inr ⟨?_, by rw [decide_eq_false_iff_not]; omega⟩
    cases hp : prsI (Lib.itoa n) with
    | none => rfl
    | some m =>
      obtain ⟨h1, h2, h3⟩ := prsI_some hp
      obtain rfl := itoa_inj h1
      exact absurd ⟨h2, h3⟩ h

theorem own : ownKnob Tryd.prog.godebug = none := by kernel_rfl
theorem laidOut : laidOutB Tryd.prog = true := by kernel_rfl

set_option maxRecDepth 4000 in
set_option maxHeartbeats 8000000 in
theorem walk (W : World) (hS : W.ShapedOpen Tryd.prog) (hL : laidMet Tryd.prog Rows.fnIntegerEncodingsRow.laid W) (v0 : Value) (g0 : ArgBytes W v0) :
    Calls Tryd.prog 5 #[v0] W fun e w' => e = .returned (.bool true) ∧ Below W.heap.size W w' := by
  have TP : TabP W := tabP_of hL.tail.tail
  have TE : TabE W := tabE_of hL.tail.tail.tail.tail
  clear hL hS
  obtain ⟨A, n, c, bs, rfl, hl, hnc, hcm, hr⟩ := g0
  by_cases hbig : (1048576 : Int) < n
  · have hd : decide ((1048576 : Int) < n) = true := by simpa using hbig
    go_enter Tryd.func5, Tryd.ntmps5
    go_wp2_with fail
    refine (big_is _ _ _ _).mono ?_
    rintro e w1 ⟨rfl, rfl⟩
    go_wp2
    go_ret
    exact ⟨rfl, Below.refl _ _⟩
  · have hd : decide ((1048576 : Int) < n) = false := by simpa using hbig
    have R0 : CRaw W A n := ⟨⟨bs, hl, hr⟩, by omega⟩
    clear hl hnc hcm hr
    go_enter Tryd.func5, Tryd.ntmps5
    go_wp2_with fail
    refine (big_is _ _ _ _).mono ?_
    rintro e w0 ⟨rfl, rfl⟩
    go_wp2_with fail
    refine (drawEncV_any w0 R0).mono ?_
    rintro e w1 ⟨q, rfl, hq, b1⟩
    have B1 := b1
    go_wp2_with fail
    refine (drawHex_any w1 (R0.up B1)).mono ?_
    rintro e w2 ⟨tl, rfl, ht, b2⟩
    have B2 := below_then B1 b2
    go_wp2_with fail
    refine (Vr.implEncV_any q w2).mono ?_
    obtain ⟨L, hL⟩ : ∃ L, Vr.encVarint q = L := ⟨_, rfl⟩
    rw [hL]
    obtain ⟨S, hS⟩ : ∃ S : ByteArray, (⟨L.toArray⟩ : ByteArray) = S := ⟨_, rfl⟩
    have hSL : S.data.toList = L := by subst hS; rfl
    have hLn : L.length ≤ 7 := by
      rw [← hL]
      unfold Vr.encVarint
      split
      · rename_i h
        have := inB_true.1 h
        exact Vr.encV_len7 _ (by omega)
      · simp
    have hSz : S.size = L.length := by rw [Lib.size_eq, hSL]
    rw [hS]
    have hlw := law1 (t := tl.data.toList) hL
    rintro e w3 ⟨rfl, b3⟩
    have B3 := below_then B2 b3
    have hdec := Vr.implDecV_any (S ++ tl) w3 (by rw [ByteArray.size_append]; omega)
    rw [ByteArray.data_append, Array.toList_append, hSL] at hdec
    obtain ⟨x, hx⟩ : ∃ x : Int, ((Vr.decVN (L ++ tl.data.toList) : Nat) : Int) = x := ⟨_, rfl⟩
    obtain ⟨k, hk⟩ : ∃ k : Int, ((Vr.decVK (L ++ tl.data.toList) : Nat) : Int) = k := ⟨_, rfl⟩
    rw [hx, hk] at hdec hlw
    have HDEC := Lib.hid hdec
    have hsl : S.toList = L := by rw [ByteArray.toList_eq]; exact hSL
    clear hdec hx hk hL hS hSL b1 b2 b3
    go_wp2_with fail
    refine HDEC.out.mono ?_
    rintro e w4 ⟨rfl, b4⟩
    have B4 := below_then B3 b4
    clear HDEC b4
    rcases hlw with ⟨hne, h0, h1, rfl, rfl⟩ | ⟨hnil, h0 | ⟨h0, h1⟩⟩
    · have hsn : (S.toList == ([] : List UInt8)) = false := by rw [beq_eq_false_iff_ne, hsl]; exact hne
      have hkz : ((S.size : Nat) : Int) = L.length := by rw [hSz]
      clear hsl hSz hne
      go_wp2_with fail
      refine (drawFixed_any w4 (R0.up B4)).mono ?_
      rintro e w5 ⟨y, m, rfl, hy, hm0, hm1, b5⟩
      have B5 := below_then B4 b5
      have hmw : (Lit.int .i64 m).wf = true := wf_of (by omega) (by omega)
      clear b5 hm0 hm1
      go_wp2_with fail
      refine (Vr.implEncF_any y m w5 hy).mono ?_
      obtain ⟨F, hF⟩ : ∃ F, Vr.encFixed y m = F := ⟨_, rfl⟩
      rw [hF]
      obtain ⟨G, hG⟩ : ∃ G : ByteArray, (⟨F.toArray⟩ : ByteArray) = G := ⟨_, rfl⟩
      have hGF : G.data.toList = F := by subst hG; rfl
      have hFn : F.length ≤ 7 := by
        rw [← hF]
        unfold Vr.encFixed
        split
        · rename_i h
          have := inB_true.1 h.1
          rw [Vr.encF_len]
          omega
        · simp
      have hGz : G.size = F.length := by rw [Lib.size_eq, hGF]
      have hse := Vr.specEncF_any y m
      rw [hF, hG] at hse
      rw [hG]
      have HSE := Lib.hid hse
      have hlw2 := law2 (t := tl.data.toList) hF
      rintro e w6 ⟨rfl, b6⟩
      have B6 := below_then B5 b6
      have hdec := Fx.implDecF_any (G ++ tl) m w6 (by rw [ByteArray.size_append]; omega) hmw
      rw [ByteArray.data_append, Array.toList_append, hGF] at hdec
      obtain ⟨z, hz⟩ : ∃ z : Int, Fx.decFN (F ++ tl.data.toList) m = z := ⟨_, rfl⟩
      obtain ⟨is, his⟩ : ∃ is, Fx.decFB (F ++ tl.data.toList) m = is := ⟨_, rfl⟩
      rw [hz, his] at hdec hlw2
      have HDEC := Lib.hid hdec
      have hgl : G.toList = F := by rw [ByteArray.toList_eq]; exact hGF
      clear hdec hz his hF hG hGF b6 hse
      go_wp2_with fail
      refine HDEC.out.mono ?_
      rintro e w7 ⟨rfl, rfl⟩
      clear HDEC
      have hcase : ∃ gb : Bool, (G.toList == ([] : List UInt8)) = gb ∧ (gb = false → is = true ∧ z = y ∧ ((G.size : Nat) : Int) = m) := by
        rcases hlw2 with ⟨h1, h2, h3, h4⟩ | h
        · exact ⟨false, by rw [beq_eq_false_iff_ne, hgl]; exact h1, fun _ => ⟨h2, h3, by rw [hGz]; exact h4⟩⟩
        · exact ⟨true, by rw [beq_iff_eq, hgl]; exact h, fun h => by cases h⟩
      obtain ⟨gb, hgb, hgc⟩ := hcase
      clear hlw2 hgl hGz hFn
      have hH := Hx.implEncodeHex_any tl
      obtain ⟨X, hX⟩ : ∃ X : ByteArray, (⟨(Hx.encHex tl.data.toList).toArray⟩ : ByteArray) = X := ⟨_, rfl⟩
      have hXe : X.data.toList = Hx.encHex tl.data.toList := by subst hX; rfl
      have hXz : ((X.size : Nat) : Int) = 2 * (tl.size : Int) := by
        rw [Lib.size_eq, hXe, Hx.encHex_len, Lib.size_eq]
        omega
      have hXs : X.size ≤ 4000000 := by omega
      have hD := fun w => Hx.implDecH_any X w hXs
      rw [hXe, hex_back] at hD
      simp only [Option.getD_some, Option.isSome_some] at hD
      rw [hX] at hH
      have htl : (⟨tl.data.toList.toArray⟩ : ByteArray) = tl := rfl
      rw [htl] at hD
      have HH := Lib.hid hH
      have HD := Lib.hid hD
      have h2w : IntKind.i64.wrap (2 * (tl.size : Int)) = 2 * (tl.size : Int) := IntWalk.i64_in _ (by omega)
      have htz : tl.size ≤ 2000000 := by omega
      obtain ⟨T, hT⟩ : ∃ T : ByteArray, (⟨(Lib.itoa y).toArray⟩ : ByteArray) = T := ⟨_, rfl⟩
      have hTe : T.data.toList = Lib.itoa y := by subst hT; rfl
      have hlw3 := law3 (n := y)
      rw [← hTe] at hlw3
      have hf1 := fun w TP => implFormatInt_any w TP y (i64B_wf hy)
      have hf2 := fun w => specFormatInt_any w y (i64B_wf hy)
      rw [hT] at hf1 hf2
      have HF1 := Lib.hid hf1
      have HF2 := Lib.hid hf2
      obtain ⟨pn, hpn⟩ : ∃ pn, prsIN T.data.toList = pn := ⟨_, rfl⟩
      obtain ⟨pb, hpb⟩ : ∃ pb, prsIB T.data.toList = pb := ⟨_, rfl⟩
      have hpi := fun w TP TE => implParseInt_any w TP TE T
      rw [hpn, hpb] at hpi hlw3
      have HPI := Lib.hid hpi
      have HTD := Lib.hid hlw3
      clear hH hX hXe hXs hD htl hT hTe hf1 hf2 hpn hpb hpi hlw3
      cases gb
      · obtain ⟨rfl, rfl, hgm⟩ := hgc rfl
        clear hgc
        go_wp2_with fail
        refine (HSE.out _ hy).mono ?_
        rintro e w8 ⟨rfl, b8⟩
        have B8 := below_then B6 b8
        clear b8
        go_wp2_with fail
        refine (HH.out w8 htz).mono ?_
        rintro e w9 ⟨rfl, b9⟩
        have B9 := below_then B8 b9
        clear b9
        go_wp2_with fail
        refine (HD.out w9).mono ?_
        rintro e w10 ⟨rfl, b10⟩
        have B10 := below_then B9 b10
        clear b10
        go_wp2_with fail
        refine (HF1.out w10 (TP.up B10)).mono ?_
        rintro e w11 ⟨rfl, b11⟩
        have B11 := below_then B10 b11
        clear b11
        go_wp2_with fail
        refine (HPI.out w11 (TP.up B11) (TE.up B11)).mono ?_
        rintro e w12 ⟨rfl, b12⟩
        have B12 := below_then B11 b12
        clear b12
        go_wp2_with fail
        refine (HF2.out w12).mono ?_
        rintro e w13 ⟨rfl, b13⟩
        have B13 := below_then B12 b13
        clear b13
        rcases HTD.out with ⟨rfl, rfl, k1, k2⟩ | ⟨rfl, k1 | ⟨k1, k2⟩⟩
        all_goals
          go_wp2
          go_ret
          exact ⟨rfl, B13⟩
      · clear hgc
        go_wp2_with fail
        refine (HSE.out _ hy).mono ?_
        rintro e w8 ⟨rfl, b8⟩
        have B8 := below_then B6 b8
        clear b8
        go_wp2_with fail
        refine (HH.out w8 htz).mono ?_
        rintro e w9 ⟨rfl, b9⟩
        have B9 := below_then B8 b9
        clear b9
        go_wp2_with fail
        refine (HD.out w9).mono ?_
        rintro e w10 ⟨rfl, b10⟩
        have B10 := below_then B9 b10
        clear b10
        go_wp2_with fail
        refine (HF1.out w10 (TP.up B10)).mono ?_
        rintro e w11 ⟨rfl, b11⟩
        have B11 := below_then B10 b11
        clear b11
        go_wp2_with fail
        refine (HPI.out w11 (TP.up B11) (TE.up B11)).mono ?_
        rintro e w12 ⟨rfl, b12⟩
        have B12 := below_then B11 b12
        clear b12
        go_wp2_with fail
        refine (HF2.out w12).mono ?_
        rintro e w13 ⟨rfl, b13⟩
        have B13 := below_then B12 b13
        clear b13
        rcases HTD.out with ⟨rfl, rfl, k1, k2⟩ | ⟨rfl, k1 | ⟨k1, k2⟩⟩
        all_goals
          go_wp2
          go_ret
          exact ⟨rfl, B13⟩
    · have hsn : (S.toList == ([] : List UInt8)) = true := by rw [beq_iff_eq, hsl]; exact hnil
      have hq0 : ¬ (q : Int) ≥ 0 := by omega
      clear hsl hSz hnil
      go_wp2_with fail
      refine (drawFixed_any w4 (R0.up B4)).mono ?_
      rintro e w5 ⟨y, m, rfl, hy, hm0, hm1, b5⟩
      have B5 := below_then B4 b5
      have hmw : (Lit.int .i64 m).wf = true := wf_of (by omega) (by omega)
      clear b5 hm0 hm1
      go_wp2_with fail
      refine (Vr.implEncF_any y m w5 hy).mono ?_
      obtain ⟨F, hF⟩ : ∃ F, Vr.encFixed y m = F := ⟨_, rfl⟩
      rw [hF]
      obtain ⟨G, hG⟩ : ∃ G : ByteArray, (⟨F.toArray⟩ : ByteArray) = G := ⟨_, rfl⟩
      have hGF : G.data.toList = F := by subst hG; rfl
      have hFn : F.length ≤ 7 := by
        rw [← hF]
        unfold Vr.encFixed
        split
        · rename_i h
          have := inB_true.1 h.1
          rw [Vr.encF_len]
          omega
        · simp
      have hGz : G.size = F.length := by rw [Lib.size_eq, hGF]
      have hse := Vr.specEncF_any y m
      rw [hF, hG] at hse
      rw [hG]
      have HSE := Lib.hid hse
      have hlw2 := law2 (t := tl.data.toList) hF
      rintro e w6 ⟨rfl, b6⟩
      have B6 := below_then B5 b6
      have hdec := Fx.implDecF_any (G ++ tl) m w6 (by rw [ByteArray.size_append]; omega) hmw
      rw [ByteArray.data_append, Array.toList_append, hGF] at hdec
      obtain ⟨z, hz⟩ : ∃ z : Int, Fx.decFN (F ++ tl.data.toList) m = z := ⟨_, rfl⟩
      obtain ⟨is, his⟩ : ∃ is, Fx.decFB (F ++ tl.data.toList) m = is := ⟨_, rfl⟩
      rw [hz, his] at hdec hlw2
      have HDEC := Lib.hid hdec
      have hgl : G.toList = F := by rw [ByteArray.toList_eq]; exact hGF
      clear hdec hz his hF hG hGF b6 hse
      go_wp2_with fail
      refine HDEC.out.mono ?_
      rintro e w7 ⟨rfl, rfl⟩
      clear HDEC
      have hcase : ∃ gb : Bool, (G.toList == ([] : List UInt8)) = gb ∧ (gb = false → is = true ∧ z = y ∧ ((G.size : Nat) : Int) = m) := by
        rcases hlw2 with ⟨h1, h2, h3, h4⟩ | h
        · exact ⟨false, by rw [beq_eq_false_iff_ne, hgl]; exact h1, fun _ => ⟨h2, h3, by rw [hGz]; exact h4⟩⟩
        · exact ⟨true, by rw [beq_iff_eq, hgl]; exact h, fun h => by cases h⟩
      obtain ⟨gb, hgb, hgc⟩ := hcase
      clear hlw2 hgl hGz hFn
      have hH := Hx.implEncodeHex_any tl
      obtain ⟨X, hX⟩ : ∃ X : ByteArray, (⟨(Hx.encHex tl.data.toList).toArray⟩ : ByteArray) = X := ⟨_, rfl⟩
      have hXe : X.data.toList = Hx.encHex tl.data.toList := by subst hX; rfl
      have hXz : ((X.size : Nat) : Int) = 2 * (tl.size : Int) := by
        rw [Lib.size_eq, hXe, Hx.encHex_len, Lib.size_eq]
        omega
      have hXs : X.size ≤ 4000000 := by omega
      have hD := fun w => Hx.implDecH_any X w hXs
      rw [hXe, hex_back] at hD
      simp only [Option.getD_some, Option.isSome_some] at hD
      rw [hX] at hH
      have htl : (⟨tl.data.toList.toArray⟩ : ByteArray) = tl := rfl
      rw [htl] at hD
      have HH := Lib.hid hH
      have HD := Lib.hid hD
      have h2w : IntKind.i64.wrap (2 * (tl.size : Int)) = 2 * (tl.size : Int) := IntWalk.i64_in _ (by omega)
      have htz : tl.size ≤ 2000000 := by omega
      obtain ⟨T, hT⟩ : ∃ T : ByteArray, (⟨(Lib.itoa y).toArray⟩ : ByteArray) = T := ⟨_, rfl⟩
      have hTe : T.data.toList = Lib.itoa y := by subst hT; rfl
      have hlw3 := law3 (n := y)
      rw [← hTe] at hlw3
      have hf1 := fun w TP => implFormatInt_any w TP y (i64B_wf hy)
      have hf2 := fun w => specFormatInt_any w y (i64B_wf hy)
      rw [hT] at hf1 hf2
      have HF1 := Lib.hid hf1
      have HF2 := Lib.hid hf2
      obtain ⟨pn, hpn⟩ : ∃ pn, prsIN T.data.toList = pn := ⟨_, rfl⟩
      obtain ⟨pb, hpb⟩ : ∃ pb, prsIB T.data.toList = pb := ⟨_, rfl⟩
      have hpi := fun w TP TE => implParseInt_any w TP TE T
      rw [hpn, hpb] at hpi hlw3
      have HPI := Lib.hid hpi
      have HTD := Lib.hid hlw3
      clear hH hX hXe hXs hD htl hT hTe hf1 hf2 hpn hpb hpi hlw3
      cases gb
      · obtain ⟨rfl, rfl, hgm⟩ := hgc rfl
        clear hgc
        go_wp2_with fail
        refine (HSE.out _ hy).mono ?_
        rintro e w8 ⟨rfl, b8⟩
        have B8 := below_then B6 b8
        clear b8
        go_wp2_with fail
        refine (HH.out w8 htz).mono ?_
        rintro e w9 ⟨rfl, b9⟩
        have B9 := below_then B8 b9
        clear b9
        go_wp2_with fail
        refine (HD.out w9).mono ?_
        rintro e w10 ⟨rfl, b10⟩
        have B10 := below_then B9 b10
        clear b10
        go_wp2_with fail
        refine (HF1.out w10 (TP.up B10)).mono ?_
        rintro e w11 ⟨rfl, b11⟩
        have B11 := below_then B10 b11
        clear b11
        go_wp2_with fail
        refine (HPI.out w11 (TP.up B11) (TE.up B11)).mono ?_
        rintro e w12 ⟨rfl, b12⟩
        have B12 := below_then B11 b12
        clear b12
        go_wp2_with fail
        refine (HF2.out w12).mono ?_
        rintro e w13 ⟨rfl, b13⟩
        have B13 := below_then B12 b13
        clear b13
        rcases HTD.out with ⟨rfl, rfl, k1, k2⟩ | ⟨rfl, k1 | ⟨k1, k2⟩⟩
        all_goals
          go_wp2
          go_ret
          exact ⟨rfl, B13⟩
      · clear hgc
        go_wp2_with fail
        refine (HSE.out _ hy).mono ?_
        rintro e w8 ⟨rfl, b8⟩
        have B8 := below_then B6 b8
        clear b8
        go_wp2_with fail
        refine (HH.out w8 htz).mono ?_
        rintro e w9 ⟨rfl, b9⟩
        have B9 := below_then B8 b9
        clear b9
        go_wp2_with fail
        refine (HD.out w9).mono ?_
        rintro e w10 ⟨rfl, b10⟩
        have B10 := below_then B9 b10
        clear b10
        go_wp2_with fail
        refine (HF1.out w10 (TP.up B10)).mono ?_
        rintro e w11 ⟨rfl, b11⟩
        have B11 := below_then B10 b11
        clear b11
        go_wp2_with fail
        refine (HPI.out w11 (TP.up B11) (TE.up B11)).mono ?_
        rintro e w12 ⟨rfl, b12⟩
        have B12 := below_then B11 b12
        clear b12
        go_wp2_with fail
        refine (HF2.out w12).mono ?_
        rintro e w13 ⟨rfl, b13⟩
        have B13 := below_then B12 b13
        clear b13
        rcases HTD.out with ⟨rfl, rfl, k1, k2⟩ | ⟨rfl, k1 | ⟨k1, k2⟩⟩
        all_goals
          go_wp2
          go_ret
          exact ⟨rfl, B13⟩
    · have hsn : (S.toList == ([] : List UInt8)) = true := by rw [beq_iff_eq, hsl]; exact hnil
      have hq1 : ¬ (q : Int) ≤ 562949953421311 := by omega
      clear hsl hSz hnil
      go_wp2_with fail
      refine (drawFixed_any w4 (R0.up B4)).mono ?_
      rintro e w5 ⟨y, m, rfl, hy, hm0, hm1, b5⟩
      have B5 := below_then B4 b5
      have hmw : (Lit.int .i64 m).wf = true := wf_of (by omega) (by omega)
      clear b5 hm0 hm1
      go_wp2_with fail
      refine (Vr.implEncF_any y m w5 hy).mono ?_
      obtain ⟨F, hF⟩ : ∃ F, Vr.encFixed y m = F := ⟨_, rfl⟩
      rw [hF]
      obtain ⟨G, hG⟩ : ∃ G : ByteArray, (⟨F.toArray⟩ : ByteArray) = G := ⟨_, rfl⟩
      have hGF : G.data.toList = F := by subst hG; rfl
      have hFn : F.length ≤ 7 := by
        rw [← hF]
        unfold Vr.encFixed
        split
        · rename_i h
          have := inB_true.1 h.1
          rw [Vr.encF_len]
          omega
        · simp
      have hGz : G.size = F.length := by rw [Lib.size_eq, hGF]
      have hse := Vr.specEncF_any y m
      rw [hF, hG] at hse
      rw [hG]
      have HSE := Lib.hid hse
      have hlw2 := law2 (t := tl.data.toList) hF
      rintro e w6 ⟨rfl, b6⟩
      have B6 := below_then B5 b6
      have hdec := Fx.implDecF_any (G ++ tl) m w6 (by rw [ByteArray.size_append]; omega) hmw
      rw [ByteArray.data_append, Array.toList_append, hGF] at hdec
      obtain ⟨z, hz⟩ : ∃ z : Int, Fx.decFN (F ++ tl.data.toList) m = z := ⟨_, rfl⟩
      obtain ⟨is, his⟩ : ∃ is, Fx.decFB (F ++ tl.data.toList) m = is := ⟨_, rfl⟩
      rw [hz, his] at hdec hlw2
      have HDEC := Lib.hid hdec
      have hgl : G.toList = F := by rw [ByteArray.toList_eq]; exact hGF
      clear hdec hz his hF hG hGF b6 hse
      go_wp2_with fail
      refine HDEC.out.mono ?_
      rintro e w7 ⟨rfl, rfl⟩
      clear HDEC
      have hcase : ∃ gb : Bool, (G.toList == ([] : List UInt8)) = gb ∧ (gb = false → is = true ∧ z = y ∧ ((G.size : Nat) : Int) = m) := by
        rcases hlw2 with ⟨h1, h2, h3, h4⟩ | h
        · exact ⟨false, by rw [beq_eq_false_iff_ne, hgl]; exact h1, fun _ => ⟨h2, h3, by rw [hGz]; exact h4⟩⟩
        · exact ⟨true, by rw [beq_iff_eq, hgl]; exact h, fun h => by cases h⟩
      obtain ⟨gb, hgb, hgc⟩ := hcase
      clear hlw2 hgl hGz hFn
      have hH := Hx.implEncodeHex_any tl
      obtain ⟨X, hX⟩ : ∃ X : ByteArray, (⟨(Hx.encHex tl.data.toList).toArray⟩ : ByteArray) = X := ⟨_, rfl⟩
      have hXe : X.data.toList = Hx.encHex tl.data.toList := by subst hX; rfl
      have hXz : ((X.size : Nat) : Int) = 2 * (tl.size : Int) := by
        rw [Lib.size_eq, hXe, Hx.encHex_len, Lib.size_eq]
        omega
      have hXs : X.size ≤ 4000000 := by omega
      have hD := fun w => Hx.implDecH_any X w hXs
      rw [hXe, hex_back] at hD
      simp only [Option.getD_some, Option.isSome_some] at hD
      rw [hX] at hH
      have htl : (⟨tl.data.toList.toArray⟩ : ByteArray) = tl := rfl
      rw [htl] at hD
      have HH := Lib.hid hH
      have HD := Lib.hid hD
      have h2w : IntKind.i64.wrap (2 * (tl.size : Int)) = 2 * (tl.size : Int) := IntWalk.i64_in _ (by omega)
      have htz : tl.size ≤ 2000000 := by omega
      obtain ⟨T, hT⟩ : ∃ T : ByteArray, (⟨(Lib.itoa y).toArray⟩ : ByteArray) = T := ⟨_, rfl⟩
      have hTe : T.data.toList = Lib.itoa y := by subst hT; rfl
      have hlw3 := law3 (n := y)
      rw [← hTe] at hlw3
      have hf1 := fun w TP => implFormatInt_any w TP y (i64B_wf hy)
      have hf2 := fun w => specFormatInt_any w y (i64B_wf hy)
      rw [hT] at hf1 hf2
      have HF1 := Lib.hid hf1
      have HF2 := Lib.hid hf2
      obtain ⟨pn, hpn⟩ : ∃ pn, prsIN T.data.toList = pn := ⟨_, rfl⟩
      obtain ⟨pb, hpb⟩ : ∃ pb, prsIB T.data.toList = pb := ⟨_, rfl⟩
      have hpi := fun w TP TE => implParseInt_any w TP TE T
      rw [hpn, hpb] at hpi hlw3
      have HPI := Lib.hid hpi
      have HTD := Lib.hid hlw3
      clear hH hX hXe hXs hD htl hT hTe hf1 hf2 hpn hpb hpi hlw3
      cases gb
      · obtain ⟨rfl, rfl, hgm⟩ := hgc rfl
        clear hgc
        go_wp2_with fail
        refine (HSE.out _ hy).mono ?_
        rintro e w8 ⟨rfl, b8⟩
        have B8 := below_then B6 b8
        clear b8
        go_wp2_with fail
        refine (HH.out w8 htz).mono ?_
        rintro e w9 ⟨rfl, b9⟩
        have B9 := below_then B8 b9
        clear b9
        go_wp2_with fail
        refine (HD.out w9).mono ?_
        rintro e w10 ⟨rfl, b10⟩
        have B10 := below_then B9 b10
        clear b10
        go_wp2_with fail
        refine (HF1.out w10 (TP.up B10)).mono ?_
        rintro e w11 ⟨rfl, b11⟩
        have B11 := below_then B10 b11
        clear b11
        go_wp2_with fail
        refine (HPI.out w11 (TP.up B11) (TE.up B11)).mono ?_
        rintro e w12 ⟨rfl, b12⟩
        have B12 := below_then B11 b12
        clear b12
        go_wp2_with fail
        refine (HF2.out w12).mono ?_
        rintro e w13 ⟨rfl, b13⟩
        have B13 := below_then B12 b13
        clear b13
        rcases HTD.out with ⟨rfl, rfl, k1, k2⟩ | ⟨rfl, k1 | ⟨k1, k2⟩⟩
        all_goals
          go_wp2
          go_ret
          exact ⟨rfl, B13⟩
      · clear hgc
        go_wp2_with fail
        refine (HSE.out _ hy).mono ?_
        rintro e w8 ⟨rfl, b8⟩
        have B8 := below_then B6 b8
        clear b8
        go_wp2_with fail
        refine (HH.out w8 htz).mono ?_
        rintro e w9 ⟨rfl, b9⟩
        have B9 := below_then B8 b9
        clear b9
        go_wp2_with fail
        refine (HD.out w9).mono ?_
        rintro e w10 ⟨rfl, b10⟩
        have B10 := below_then B9 b10
        clear b10
        go_wp2_with fail
        refine (HF1.out w10 (TP.up B10)).mono ?_
        rintro e w11 ⟨rfl, b11⟩
        have B11 := below_then B10 b11
        clear b11
        go_wp2_with fail
        refine (HPI.out w11 (TP.up B11) (TE.up B11)).mono ?_
        rintro e w12 ⟨rfl, b12⟩
        have B12 := below_then B11 b12
        clear b12
        go_wp2_with fail
        refine (HF2.out w12).mono ?_
        rintro e w13 ⟨rfl, b13⟩
        have B13 := below_then B12 b13
        clear b13
        rcases HTD.out with ⟨rfl, rfl, k1, k2⟩ | ⟨rfl, k1 | ⟨k1, k2⟩⟩
        all_goals
          go_wp2
          go_ret
          exact ⟨rfl, B13⟩

theorem met (os : Os) (args : Array Value) : laidMet Tryd.prog Rows.fnIntegerEncodingsRow.laid ((World.laidAll Tryd.prog os Rows.fnIntegerEncodingsRow.laid).forCall (fun _ _ => 0) ⟨#[], args, []⟩).memory :=
  laidMet_laidAll _ (by as_aux_lemma => kernel_rfl) (by as_aux_lemma => kernel_rfl)
theorem plainly (w : World) : laidMetH Tryd.prog Rows.fnIntegerEncodingsRow.laid w = laidMet Tryd.prog Rows.fnIntegerEncodingsRow.laid w := MakeChecks.laidMetH_plain _ _ _ (by as_aux_lemma => kernel_rfl)
set_option maxRecDepth 100000 in
theorem lifted (os : Os) (started : os.Started) (H : Type) (enc : TypeId × Value → H) (F : Stop.Interp) :
    ReturnsInHanded {} Tryd.checked os 5 .any ((OpenSpec.ofChange Rows.fnIntegerEncodingsSpec).preRow enc Tryd.prog Tryd.f5 Rows.fnIntegerEncodingsRow.domain false Rows.fnIntegerEncodingsRow.laid) (((OpenSpec.ofChange Rows.fnIntegerEncodingsSpec).at F).post enc Tryd.prog Tryd.f5 false true false false) := by
  refine returnsInHanded_of_row (C := Tryd.checked) (s := OpenSpec.ofChange Rows.fnIntegerEncodingsSpec) own started (by as_aux_lemma => kernel_rfl) Tryd.func5
    (ChangeSpec.witness_shaped (enc := enc) (C := Tryd.checked) (os := os) (X := fun w _ => laidMetH Tryd.prog Rows.fnIntegerEncodingsRow.laid w) false (World.laidAll Tryd.prog os Rows.fnIntegerEncodingsRow.laid) #[.slice none 0 0] 8 (World.laidAll_os _ _ _) (World.shaped_of_ZipB (by as_aux_lemma => kernel_rfl) (by as_aux_lemma => kernel_rfl)) (by as_aux_lemma => kernel_rfl) (by as_aux_lemma => kernel_rfl) (by as_aux_lemma => kernel_rfl) (by rw [plainly]; exact met os _)) ?_
  intro W base args ds gs before hval0 hW _ _ _ hL0 hS _
  have hL : laidMetH Tryd.prog Rows.fnIntegerEncodingsRow.laid W := hL0
  rw [plainly] at hL
  have hval : ∀ (j : Nat) t v, Tryd.f5.params[j]? = some t → args[j]? = some v → Value.okWide Tryd.prog W .any base t v := hval0
  have hW' := hW
  obtain ⟨p, q, hA0, hV, rfl, hfz, hnd⟩ := hW
  have hA : DataW.TrodAll enc Tryd.prog W 0 (fun _ => true) true Tryd.f5.params.toList args.toList ds p := hA0
  rw [Tryd.params5] at hA hval
  obtain ⟨v0, vs0, d0, ds0, p0, q0, hargs, rfl, rfl, h0, r0⟩ := trodAll_cons hA
  obtain ⟨rfl, rfl, rfl⟩ := trodAll_nil r0
  obtain rfl : args = #[v0] := by cases args; simp_all
  obtain ⟨rfl, rfl⟩ := trodVars_none hV
  have k0 := h0
  have lt0 : ∀ x ∈ p0, x.block < W.heap.size := by obtain ⟨m, hm⟩ := k0; exact DataW.trod_lt m _ _ _ hm
  have g0 := argBytes (hval 0 31 v0 rfl rfl) h0
  clear hA0 hval0
  refine (walk W hS hL v0 g0).mono fun e W' ⟨he, bel⟩ => ?_
  subst he
  exact ⟨_, rfl, _, _, _, [], _, [], hW', trodAll_mk1 (shut_bool Tryd.underlying4 _), (trodAll_cons_mk (Below.trod laidOut (by as_aux_lemma => kernel_rfl) (of_decide_eq_true (by as_aux_lemma => kernel_rfl)) k0 bel lt0) trodAll_mk0), rfl, bel.frame _, fun h => by cases h⟩

set_option maxHeartbeats 8000000 in
theorem closed : joinedFacts Tryd.prog 5 Tryd.f5 Rows.fnIntegerEncodingsSpec Rows.fnIntegerEncodingsRow = true := by
  unfold joinedFacts
  simp only [Bool.and_eq_true]
  repeat' apply And.intro
  all_goals first | with_reducible exact frMay | with_reducible exact frLifts _ rfl | with_reducible exact frMake _ rfl | (as_aux_lemma => kernel_rfl)
set_option maxRecDepth 100000 in
set_option maxHeartbeats 1000000 in
theorem over : Rows.fnIntegerEncodingsRow.holds Tryd.pinned (OpenSpec.ofChange Rows.fnIntegerEncodingsSpec) :=
  OpenClaim.holds_of_cond 5 Tryd.f5 rfl rfl rfl rfl rfl rfl rfl ⟨rfl, rfl, rfl, rfl, rfl⟩ rfl rfl rfl rfl rfl (by as_aux_lemma => kernel_rfl) Tryd.func5 closed
    (of_decide_eq_true (by as_aux_lemma => kernel_rfl)) (by unfold Func.isWrapper; first | (rw [if_pos (by decide +kernel)]; kernel_rfl) | (rw [if_neg (by decide +kernel)]; exact ⟨rfl, rfl⟩))
    (fun os started H enc _ F => by rw [OpenClaim.pre_eq_preRow]; exact lifted os started H enc F)

theorem plain (f : FuncId) (fn : Func) (hf : Tryd.pinned.checked.prog.funcNamed "loop.example/g01922/laws.FnIntegerEncodings" = some f) (hfn : Tryd.pinned.checked.prog.funcs[f]? = some fn) :
    true = Tryd.pinned.checked.prog.looks [] ∧ ∀ (j : Nat) t, fn.params[j]? = some t → Tryd.pinned.checked.prog.wantsStandIn t = false := by
  obtain rfl : f = 5 := Option.some.inj ((show Tryd.prog.funcNamed "loop.example/g01922/laws.FnIntegerEncodings" = some 5 by kernel_rfl).symm.trans hf) |>.symm
  obtain rfl : fn = Tryd.f5 := (Option.some.inj (Tryd.func5.symm.trans hfn)).symm
  refine ⟨by kernel_rfl, fun j t ht => ?_⟩
  rw [Tryd.params5] at ht
  have hm : t ∈ [31] := by simpa using Array.mem_of_getElem? ht
  have hall : ([31].all fun u => !Tryd.prog.wantsStandIn u) = true := by kernel_rfl
  exact (show Tryd.prog.wantsStandIn t = false by simpa using List.all_eq_true.1 hall t hm)

theorem proved : Rows.FnIntegerEncodingsCardSaid :=
  Claim7.holds_tied_plain_at .later [] _ _ _ _ over (fun _ h => by cases h) (by as_aux_lemma => kernel_rfl) (fun _ h => by cases h) fnIntegerEncodings_row_tie rfl ⟨rfl, rfl⟩ (by as_aux_lemma => kernel_rfl) rfl plain (by as_aux_lemma => kernel_rfl)
end Go.Proofs.YtljggmgijadjaaaDoor.fnIntegerEncodings
