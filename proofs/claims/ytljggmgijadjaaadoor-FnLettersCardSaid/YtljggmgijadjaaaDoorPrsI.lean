/- ParseInt of the reference. -/
import Derived.Test.YtljggmgijadjaaaDoorFmtI
namespace Go.Proofs.YtljggmgijadjaaaDoor
open Go.RowKit Go.ChangeShapes Go.WideShapes Go.ChangeAt Go.Deep
set_option linter.unusedVariables false
theorem take_snoc_s (s : ByteArray) (k : Nat) (h : k < s.size) : s.data.toList.take (k + 1) = s.data.toList.take k ++ [s[k]] := by
  rw [List.take_succ_eq_append_getElem (by simpa using h)]; rfl
theorem dgs_big (l : List UInt8) (h : l.length ≤ 11) : (dgs l).1 < 100000000000 := by
  have h1 := (dgs_lt l).1
  have h2 := Nat.pow_le_pow_right (n := 10) (by decide) (Nat.le_trans (dgs_lt l).2 h)
  have e : (10 : Nat) ^ 11 = 100000000000 := by decide
  omega
theorem dgStep_yes (p : Nat × Nat) (c : UInt8) (h0 : 48 ≤ c.toNat) (h1 : c.toNat ≤ 57) : dgStep p c = (p.1 * 10 + (c.toNat - 48), p.2 + 1) := by
  unfold dgStep Lib.digitVal
  rw [if_pos ⟨h0, h1⟩]
theorem dgStep_no (p : Nat × Nat) (c : UInt8) (h : ¬ (48 ≤ c.toNat ∧ c.toNat ≤ 57)) : dgStep p c = p := by
  unfold dgStep Lib.digitVal
  rw [if_neg h]
theorem head_at (s : ByteArray) (h : 0 < s.size) : s.data.toList.head? = some s[0] := by
  rw [List.head?_eq_getElem?, List.getElem?_eq_getElem (by simpa using h)]; rfl
set_option maxRecDepth 4000 in
set_option maxHeartbeats 2000000 in
theorem specParseInt_any (w : World) (s : ByteArray) (hs : s.size ≤ 4000000) :
    Calls Tryd.prog 72 #[.string s] w fun e w' => e = .returned (.tuple #[.int .i64 (prsIN s.data.toList), .bool (prsIB s.data.toList)]) ∧ Below w.heap.size w w' := by
  have HSZ := Lib.hid (Lib.size_eq s)
  go_enter Tryd.func72, Tryd.ntmps72
  go_wp2
  go_loopw [4, 5, 6] (fun x y z wr => ∃ (k N K : Nat), wr = w ∧ z = .int .i64 k ∧ x = .int .i64 N ∧ y = .int .i64 K ∧ k ≤ s.size ∧ k ≤ 11 ∧ N < 100000000000 ∧ K ≤ k ∧ dgs (s.data.toList.take k) = (N, K)) (fun _ _ z _ => 11 - (intOf z).toNat)
  case atStart => exact ⟨0, 0, 0, rfl, rfl, rfl, rfl, Nat.zero_le _, Nat.zero_le _, by omega, Nat.le_refl _, by simp [dgs]⟩
  case round =>
    obtain ⟨k, N, K, rfl, rfl, rfl, rfl, hk, hk11, hN, hK, hd⟩ := hrel
    by_cases hgo : k < s.size ∧ k < 11
    · obtain ⟨hlt, hl11⟩ := hgo
      have hsn := take_snoc_s s k hlt
      obtain ⟨c, hc⟩ : ∃ c, s[k] = c := ⟨_, rfl⟩
      rw [hc] at hsn
      have hd2 : dgs (s.data.toList.take (k + 1)) = dgStep (N, K) c := by rw [hsn, dgs_snoc, hd]
      have hb := dgs_big (s.data.toList.take (k + 1)) (by rw [List.length_take]; omega)
      rw [hd2] at hb
      have hcl := c.toNat_lt
      have g0 : (k : Int) < s.size := by omega
      have g1 : (k : Int) < 11 := by omega
      by_cases h0 : 48 ≤ c.toNat
      · by_cases h1 : c.toNat ≤ 57
        · rw [dgStep_yes _ _ h0 h1] at hd2 hb
          simp only at hd2 hb
          have HD := Lib.hid hd2
          have c0 : (c.toNat : Int) ≥ 48 := by omega
          have c1 : (c.toNat : Int) ≤ 57 := by omega
          have e1 : IntKind.u8.wrap ((c.toNat : Int) - 48) = (c.toNat : Int) - 48 := by rw [IntKind.wrap_u8]; omega
          have e2 : IntKind.i64.wrap ((c.toNat : Int) - 48) = (c.toNat : Int) - 48 := IntWalk.i64_in _ (by omega)
          have e3 : IntKind.i64.wrap ((N : Int) * 10) = (N : Int) * 10 := IntWalk.i64_in _ (by omega)
          have e4 : IntKind.i64.wrap ((N : Int) * 10 + ((c.toNat : Int) - 48)) = (N : Int) * 10 + ((c.toNat : Int) - 48) := IntWalk.i64_in _ (by omega)
          clear hd hsn hd2
          go_wp2
          go_roundw
          case rel => exact ⟨k + 1, N * 10 + (c.toNat - 48), K + 1, trivial, by go_num, by go_num, by go_num, by omega, by omega, hb, by omega, HD.out⟩
          case measure => simp [intOf]; omega
        · rw [dgStep_no _ _ (by omega)] at hd2 hb
          have HD := Lib.hid hd2
          have c0 : (c.toNat : Int) ≥ 48 := by omega
          have c1 : ¬ (c.toNat : Int) ≤ 57 := by omega
          clear hd hsn hd2 hb
          go_wp2
          go_roundw
          case rel => exact ⟨k + 1, N, K, trivial, by go_num, rfl, rfl, by omega, by omega, hN, by omega, HD.out⟩
          case measure => simp [intOf]; omega
      · rw [dgStep_no _ _ (by omega)] at hd2 hb
        have HD := Lib.hid hd2
        have c0 : ¬ (c.toNat : Int) ≥ 48 := by omega
        clear hd hsn hd2 hb
        go_wp2
        go_roundw
        case rel => exact ⟨k + 1, N, K, trivial, by go_num, rfl, rfl, by omega, by omega, hN, by omega, HD.out⟩
        case measure => simp [intOf]; omega
    · by_cases h10 : s.size ≤ 10
      · obtain rfl : k = s.size := by omega
        rw [List.take_of_length_le (by rw [← HSZ.out]; exact Nat.le_refl _)] at hd
        have g0 : ¬ (s.size : Int) < s.size := by omega
        have s10 : ¬ (s.size : Int) > 10 := by omega
        rcases Nat.eq_zero_or_pos s.size with h0 | h0
        · have hv : dgVal s.data.toList = (N : Int) := by
            unfold dgVal
            rw [hd, if_neg]
            have : s.data.toList = [] := List.eq_nil_of_length_eq_zero (by rw [← HSZ.out]; exact h0)
            rw [this]
            simp
          have z0 : ¬ (s.size : Int) > 0 := by omega
          by_cases hK9 : K ≤ 9
          · have hsp := spec_prsI s.data.toList (by rw [← HSZ.out]; exact h10) (by rw [hd]; exact hK9)
            rw [hv] at hsp
            have k9 : ¬ (K : Int) > 9 := by omega
            rcases Decidable.em (Lib.itoa ((N : Int)) = s.toList) with he | he
            · rw [if_pos (by rw [← ByteArray.toList_eq]; exact he)] at hsp
              have HN : RowKit.Hid (prsIN s.data.toList = (N : Int)) := Lib.hid (by unfold prsIN; rw [hsp]; rfl)
              have HB : RowKit.Hid (prsIB s.data.toList = true) := Lib.hid (by unfold prsIB; rw [hsp]; rfl)
              clear hsp hd hv
              go_wp2_with fail
              refine (specFormatInt_any _ ((N : Int)) ⟨by omega, by omega⟩).mono ?_
              rintro e w1 ⟨rfl, hb1⟩
              go_wp2
              rw [HN.out, HB.out]
              go_ret2
              exact ⟨rfl, hb1⟩
            · rw [if_neg (by rw [← ByteArray.toList_eq]; exact he)] at hsp
              have hne : (Lib.itoa ((N : Int)) == s.toList) = false := by rw [beq_eq_false_iff_ne]; exact he
              have HN : RowKit.Hid (prsIN s.data.toList = 0) := Lib.hid (by unfold prsIN; rw [hsp]; rfl)
              have HB : RowKit.Hid (prsIB s.data.toList = false) := Lib.hid (by unfold prsIB; rw [hsp]; rfl)
              clear hsp hd hv
              go_wp2_with fail
              refine (specFormatInt_any _ ((N : Int)) ⟨by omega, by omega⟩).mono ?_
              rintro e w1 ⟨rfl, hb1⟩
              go_wp2
              rw [HN.out, HB.out]
              go_ret2
              exact ⟨rfl, hb1⟩
          · have hsp := spec_prsI_many s.data.toList (by rw [hd]; exact hK9)
            have HN : RowKit.Hid (prsIN s.data.toList = 0) := Lib.hid (by unfold prsIN; rw [hsp]; rfl)
            have HB : RowKit.Hid (prsIB s.data.toList = false) := Lib.hid (by unfold prsIB; rw [hsp]; rfl)
            have k9 : (K : Int) > 9 := by omega
            clear hsp hd hv
            go_wp2
            rw [HN.out, HB.out]
            go_ret2
            exact ⟨rfl, Below.refl _ _⟩
        · have hh := head_at s h0
          obtain ⟨c, hc⟩ : ∃ c, s[0] = c := ⟨_, rfl⟩
          rw [hc] at hh
          have z0 : (s.size : Int) > 0 := by omega
          by_cases h45 : c = 45
          · subst h45
            have hv : dgVal s.data.toList = -(N : Int) := by
              unfold dgVal
              rw [hd, if_pos hh]
            have w1 : IntKind.i64.wrap (-(N : Int)) = -(N : Int) := IntWalk.i64_in _ (by omega)
            clear hh
            by_cases hK9 : K ≤ 9
            · have hsp := spec_prsI s.data.toList (by rw [← HSZ.out]; exact h10) (by rw [hd]; exact hK9)
              rw [hv] at hsp
              have k9 : ¬ (K : Int) > 9 := by omega
              rcases Decidable.em (Lib.itoa (-(N : Int)) = s.toList) with he | he
              · rw [if_pos (by rw [← ByteArray.toList_eq]; exact he)] at hsp
                have HN : RowKit.Hid (prsIN s.data.toList = -(N : Int)) := Lib.hid (by unfold prsIN; rw [hsp]; rfl)
                have HB : RowKit.Hid (prsIB s.data.toList = true) := Lib.hid (by unfold prsIB; rw [hsp]; rfl)
                clear hsp hd hv
                go_wp2_with fail
                refine (specFormatInt_any _ (-(N : Int)) ⟨by omega, by omega⟩).mono ?_
                rintro e w1 ⟨rfl, hb1⟩
                go_wp2
                rw [HN.out, HB.out]
                go_ret2
                exact ⟨rfl, hb1⟩
              · rw [if_neg (by rw [← ByteArray.toList_eq]; exact he)] at hsp
                have hne : (Lib.itoa (-(N : Int)) == s.toList) = false := by rw [beq_eq_false_iff_ne]; exact he
                have HN : RowKit.Hid (prsIN s.data.toList = 0) := Lib.hid (by unfold prsIN; rw [hsp]; rfl)
                have HB : RowKit.Hid (prsIB s.data.toList = false) := Lib.hid (by unfold prsIB; rw [hsp]; rfl)
                clear hsp hd hv
                go_wp2_with fail
                refine (specFormatInt_any _ (-(N : Int)) ⟨by omega, by omega⟩).mono ?_
                rintro e w1 ⟨rfl, hb1⟩
                go_wp2
                rw [HN.out, HB.out]
                go_ret2
                exact ⟨rfl, hb1⟩
            · have hsp := spec_prsI_many s.data.toList (by rw [hd]; exact hK9)
              have HN : RowKit.Hid (prsIN s.data.toList = 0) := Lib.hid (by unfold prsIN; rw [hsp]; rfl)
              have HB : RowKit.Hid (prsIB s.data.toList = false) := Lib.hid (by unfold prsIB; rw [hsp]; rfl)
              have k9 : (K : Int) > 9 := by omega
              clear hsp hd hv
              go_wp2
              rw [HN.out, HB.out]
              go_ret2
              exact ⟨rfl, Below.refl _ _⟩
          · have hv : dgVal s.data.toList = (N : Int) := by
              unfold dgVal
              rw [hd, hh, if_neg (by simpa using h45)]
            have c45 : ((c.toNat : Int) == 45) = false := by
              rw [beq_eq_false_iff_ne]
              intro e
              exact h45 (UInt8.toNat_inj.1 (by simpa using (show c.toNat = 45 by omega)))
            clear hh
            by_cases hK9 : K ≤ 9
            · have hsp := spec_prsI s.data.toList (by rw [← HSZ.out]; exact h10) (by rw [hd]; exact hK9)
              rw [hv] at hsp
              have k9 : ¬ (K : Int) > 9 := by omega
              rcases Decidable.em (Lib.itoa ((N : Int)) = s.toList) with he | he
              · rw [if_pos (by rw [← ByteArray.toList_eq]; exact he)] at hsp
                have HN : RowKit.Hid (prsIN s.data.toList = (N : Int)) := Lib.hid (by unfold prsIN; rw [hsp]; rfl)
                have HB : RowKit.Hid (prsIB s.data.toList = true) := Lib.hid (by unfold prsIB; rw [hsp]; rfl)
                clear hsp hd hv
                go_wp2_with fail
                refine (specFormatInt_any _ ((N : Int)) ⟨by omega, by omega⟩).mono ?_
                rintro e w1 ⟨rfl, hb1⟩
                go_wp2
                rw [HN.out, HB.out]
                go_ret2
                exact ⟨rfl, hb1⟩
              · rw [if_neg (by rw [← ByteArray.toList_eq]; exact he)] at hsp
                have hne : (Lib.itoa ((N : Int)) == s.toList) = false := by rw [beq_eq_false_iff_ne]; exact he
                have HN : RowKit.Hid (prsIN s.data.toList = 0) := Lib.hid (by unfold prsIN; rw [hsp]; rfl)
                have HB : RowKit.Hid (prsIB s.data.toList = false) := Lib.hid (by unfold prsIB; rw [hsp]; rfl)
                clear hsp hd hv
                go_wp2_with fail
                refine (specFormatInt_any _ ((N : Int)) ⟨by omega, by omega⟩).mono ?_
                rintro e w1 ⟨rfl, hb1⟩
                go_wp2
                rw [HN.out, HB.out]
                go_ret2
                exact ⟨rfl, hb1⟩
            · have hsp := spec_prsI_many s.data.toList (by rw [hd]; exact hK9)
              have HN : RowKit.Hid (prsIN s.data.toList = 0) := Lib.hid (by unfold prsIN; rw [hsp]; rfl)
              have HB : RowKit.Hid (prsIB s.data.toList = false) := Lib.hid (by unfold prsIB; rw [hsp]; rfl)
              have k9 : (K : Int) > 9 := by omega
              clear hsp hd hv
              go_wp2
              rw [HN.out, HB.out]
              go_ret2
              exact ⟨rfl, Below.refl _ _⟩
      · have hp := prsI_len (l := s.data.toList) (by have := HSZ.out; omega)
        have HN : RowKit.Hid (prsIN s.data.toList = 0) := Lib.hid (by unfold prsIN; rw [hp]; rfl)
        have HB : RowKit.Hid (prsIB s.data.toList = false) := Lib.hid (by unfold prsIB; rw [hp]; rfl)
        obtain rfl : k = 11 := by omega
        have hsz0 : (s.size : Int) > 0 := by omega
        have hsz10 : (s.size : Int) > 10 := by omega
        clear hp hd
        go_wp2
        all_goals
          rw [HN.out, HB.out]
          go_ret2
          exact ⟨rfl, Below.refl _ _⟩
end Go.Proofs.YtljggmgijadjaaaDoor
