/- Contracts of DecodeHex of both packages. -/
import Derived.Test.YtljggmgijadjaaaDoorHxHex
namespace Go.Proofs.YtljggmgijadjaaaDoor.Hx
open Go.RowKit Go.ChangeShapes Go.WideShapes Go.ChangeAt Go.Deep
set_option linter.unusedVariables false

def nibI (c : UInt8) : Int := if 48 ≤ (c.toNat : Int) ∧ (c.toNat : Int) ≤ 57 then (c.toNat : Int) - 48 else if 97 ≤ (c.toNat : Int) ∧ (c.toNat : Int) ≤ 102 then (c.toNat : Int) - 87 else -1
theorem nibI_hex : ∀ k, k < 16 → nibI (hexD k) = (k : Int) := by
  intro k h
  have : k = 0 ∨ k = 1 ∨ k = 2 ∨ k = 3 ∨ k = 4 ∨ k = 5 ∨ k = 6 ∨ k = 7 ∨ k = 8 ∨ k = 9 ∨ k = 10 ∨ k = 11 ∨ k = 12 ∨ k = 13 ∨ k = 14 ∨ k = 15 := by omega
  rcases this with rfl | rfl | rfl | rfl | rfl | rfl | rfl | rfl | rfl | rfl | rfl | rfl | rfl | rfl | rfl | rfl <;> rfl
theorem u8_eq {c : UInt8} {n : Nat} (h : c.toNat = n) : c = UInt8.ofNat n := by subst h; simp
theorem nibI_none (c : UInt8) (h : ∀ k, k < 16 → hexD k ≠ c) : nibI c = -1 := by
  unfold nibI
  have h1 : ¬ (48 ≤ (c.toNat : Int) ∧ (c.toNat : Int) ≤ 57) := by
    rintro ⟨a, b⟩
    refine h (c.toNat - 48) (by omega) ?_
    have : c.toNat = 48 ∨ c.toNat = 49 ∨ c.toNat = 50 ∨ c.toNat = 51 ∨ c.toNat = 52 ∨ c.toNat = 53 ∨ c.toNat = 54 ∨ c.toNat = 55 ∨ c.toNat = 56 ∨ c.toNat = 57 := by omega
    rcases this with e | e | e | e | e | e | e | e | e | e <;> rw [e, u8_eq e] <;> rfl
  have h2 : ¬ (97 ≤ (c.toNat : Int) ∧ (c.toNat : Int) ≤ 102) := by
    rintro ⟨a, b⟩
    refine h (c.toNat - 87) (by omega) ?_
    have : c.toNat = 97 ∨ c.toNat = 98 ∨ c.toNat = 99 ∨ c.toNat = 100 ∨ c.toNat = 101 ∨ c.toNat = 102 := by omega
    rcases this with e | e | e | e | e | e <;> rw [e, u8_eq e] <;> rfl
  rw [if_neg h1, if_neg h2]
theorem nibI_bd (c : UInt8) : -1 ≤ nibI c ∧ nibI c ≤ 15 := by
  unfold nibI
  split
  · omega
  · split <;> omega

set_option maxRecDepth 4000 in
theorem nibble_any (c : UInt8) (w : World) : Calls Tryd.prog 69 #[.int .u8 (c.toNat : Int)] w fun e w' => e = .returned (.int .i64 (nibI c)) ∧ w = w' := by
  have hc := c.toNat_lt
  have hb1 : (c.toNat : Int) < 256 := by omega
  clear hc
  by_cases h1 : 48 ≤ (c.toNat : Int)
  · by_cases h2 : (c.toNat : Int) ≤ 57
    · have hE : nibI c = (c.toNat : Int) - 48 := by unfold nibI; rw [if_pos ⟨h1, h2⟩]
      rw [hE]
      clear hE
      go_enter Tryd.func69, Tryd.ntmps69
      go_wp2
      go_ret
      exact ⟨rfl, rfl⟩
    · by_cases h3 : 97 ≤ (c.toNat : Int)
      · by_cases h4 : (c.toNat : Int) ≤ 102
        · have hE : nibI c = (c.toNat : Int) - 97 + 10 := by unfold nibI; rw [if_neg (by omega), if_pos ⟨h3, h4⟩]; omega
          rw [hE]
          clear hE
          go_enter Tryd.func69, Tryd.ntmps69
          go_wp2
          go_ret
          exact ⟨rfl, rfl⟩
        · have hE : nibI c = -1 := by unfold nibI; rw [if_neg (by omega), if_neg (by omega)]
          rw [hE]
          clear hE
          go_enter Tryd.func69, Tryd.ntmps69
          go_wp2
          go_ret
          exact ⟨rfl, rfl⟩
      · have hE : nibI c = -1 := by unfold nibI; rw [if_neg (by omega), if_neg (by omega)]
        rw [hE]
        clear hE
        go_enter Tryd.func69, Tryd.ntmps69
        go_wp2
        go_ret
        exact ⟨rfl, rfl⟩
  · have hE : nibI c = -1 := by unfold nibI; rw [if_neg (by omega), if_neg (by omega)]
    rw [hE]
    clear hE
    go_enter Tryd.func69, Tryd.ntmps69
    go_wp2
    go_ret
    exact ⟨rfl, rfl⟩

theorem hstep {c : UInt8} {k : Nat} (h1 : ∀ j, j < k → hexD j ≠ c) (h2 : ¬ hexD k = c) : ∀ j, j < k + 1 → hexD j ≠ c := by
  intro j hj
  rcases Nat.lt_or_ge j k with h | h
  · exact h1 j h
  · obtain rfl : j = k := by omega
    exact h2
def decH : List UInt8 → Option (List UInt8)
  | [] => some []
  | [_] => none
  | a :: b :: r => if nibI a < 0 ∨ nibI b < 0 then none else (decH r).map (UInt8.ofNat (16 * nibI a + nibI b).toNat :: ·)
theorem decH_odd : ∀ (l : List UInt8), l.length % 2 = 1 → decH l = none
  | [], h => by simp at h
  | [_], _ => rfl
  | a :: b :: r, h => by
    rw [decH]
    split
    · rfl
    · rw [decH_odd r (by simp at h; omega)]; rfl
theorem drop_two (s : ByteArray) (m : Nat) (h : m + 1 < s.size) : s.data.toList.drop m = s[m]'(by omega) :: s[m + 1] :: s.data.toList.drop (m + 2) := by
  have hl : s.data.toList.length = s.size := Array.length_toList
  rw [List.drop_eq_getElem_cons (show m < s.data.toList.length by omega), List.drop_eq_getElem_cons (show m + 1 < s.data.toList.length by omega)]
  rfl
theorem own_snoc {w : World} {base n : Nat} {e : TypeId} {v x : Value} {acc : List UInt8} (b : UInt8) (hx : x = bv b) (hn : n = acc.length) (h : w.ownsRow base e 1 v (n + 1) (acc.map bv ++ #[x].toList)) :
    w.ownsRow base e 1 v (acc ++ [b]).length ((acc ++ [b]).map bv) := by
  subst hx
  subst hn
  rw [List.map_append, List.length_append]
  exact h
theorem byte_of (m : Nat) (h : m < 256) : ((UInt8.ofNat m).toNat : Int) = (m : Int) := by
  rw [UInt8.toNat_ofNat']
  omega
theorem or_nib (x y : Int) (h1 : 0 ≤ x) (h2 : x ≤ 15) (h3 : 0 ≤ y) (h4 : y ≤ 15) : bits .or .i64 (x * 16) y = 16 * x + y := by
  obtain ⟨a, rfl⟩ := Int.eq_ofNat_of_zero_le h1
  obtain ⟨b, rfl⟩ := Int.eq_ofNat_of_zero_le h3
  have ha : a * 16 < 9223372036854775808 := by omega
  have hb : b < 9223372036854775808 := by omega
  have h := i64_or_nat (a * 16) b ha hb
  rw [nat_join 4 (a * 16) b (Nat.mul_mod_left _ _) (show b < 16 by omega)] at h
  have e : ((a * 16 : Nat) : Int) = (a : Int) * 16 := by omega
  rw [e] at h
  rw [h]
  clear h e
  omega
theorem ownsRow_drewN {w : World} {base n : Nat} {e : TypeId} {size : Nat} {v : Value} {xs : List Value} (h : w.ownsRow base e size v n xs) (k : Nat) : (w.drewN k).ownsRow base e size v n xs := h

set_option maxRecDepth 4000 in
set_option maxHeartbeats 2000000 in
theorem implDecH_any (s : ByteArray) (w : World) (hs : s.size ≤ 4000000) :
    Calls Tryd.prog 38 #[.string s] w fun e w' => e = .returned (.tuple #[.string ⟨((decH s.data.toList).getD []).toArray⟩, .bool (decH s.data.toList).isSome]) ∧ Below w.heap.size w w' := by
  by_cases hev : s.size % 2 = 0
  · have e1 : (((s.size : Int) % 2) != 0) = false := by rw [bne_eq_false_iff_eq]; omega
    go_enter Tryd.func38, Tryd.ntmps38
    go_wp2
    clear e1
    go_loopw [4, 5] (fun v i wr => ∃ (m : Nat) (acc : List UInt8), m ≤ s.size ∧ m % 2 = 0 ∧ i = .int .i64 m ∧ wr.ownsRow w.heap.size 5 1 v acc.length (acc.map bv) ∧ acc.length ≤ m ∧ decH s.data.toList = (decH (s.data.toList.drop m)).map (acc ++ ·) ∧ Below w.heap.size w wr)
      (fun _ i _ => s.size - (intOf i).toNat)
    case atStart =>
      refine ⟨0, [], Nat.zero_le _, rfl, rfl, ?_, Nat.le_refl _, by simp, (Below.refl _ _).alloc (Nat.le_refl _) _⟩
      exact World.ownsRow_made _ _ _ (Nat.le_refl _) (by simp [maxLen]) (by simp)
    case round =>
      obtain ⟨m, acc, hm, hm2, rfl, hown, hal, hdec, hbel⟩ := hrel
      have hsz := hbel.size
      by_cases hlt : m < s.size
      · have hlt2 : m + 1 < s.size := by omega
        have hdrop := drop_two s m hlt2
        obtain ⟨c1, hc1⟩ : ∃ c, s[m] = c := ⟨_, rfl⟩
        obtain ⟨c2, hc2⟩ : ∃ c, s[m + 1] = c := ⟨_, rfl⟩
        rw [hc1, hc2] at hdrop
        rw [hdrop] at hdec
        have b1 := nibI_bd c1
        have b2 := nibI_bd c2
        obtain ⟨x, hx⟩ : ∃ x, nibI c1 = x := ⟨_, rfl⟩
        obtain ⟨y, hy⟩ : ∃ y, nibI c2 = y := ⟨_, rfl⟩
        rw [hx] at b1
        rw [hy] at b2
        have HX := Lib.hid hx
        have HY := Lib.hid hy
        have HD := Lib.hid hdec
        have HM := Lib.hid hm2
        have hal2 : acc.length ≤ 4000000 := by omega
        have q1 : Small (acc.length + 1) := small_of (by omega)
        clear hdec hdrop hm2 hev
        have hn1 : ∀ W, Calls Tryd.prog 69 #[.int .u8 (c1.toNat : Int)] W fun e w' => e = .returned (.int .i64 x) ∧ w' = W := fun W => (nibble_any c1 W).mono (fun e w' h => ⟨by rw [h.1, HX.out], h.2.symm⟩)
        have hn2 : ∀ W, Calls Tryd.prog 69 #[.int .u8 (c2.toNat : Int)] W fun e w' => e = .returned (.int .i64 y) ∧ w' = W := fun W => (nibble_any c2 W).mono (fun e w' h => ⟨by rw [h.1, HY.out], h.2.symm⟩)
        have H1 := Lib.hid hn1
        have H2 := Lib.hid hn2
        clear hn1 hn2 hx hy
        by_cases hx0 : x < 0
        · have hE : decH s.data.toList = none := by rw [HD.out, decH, if_pos (Or.inl (by rw [HX.out]; exact hx0))]; rfl
          have HE := Lib.hid hE
          clear hE
          go_wp2
          go_quiet ((first | (go_at_call 69; with_reducible refine Calls.quiet_of_same (H1.out _)) | (go_at_call 69; with_reducible refine Calls.quiet_of_same (H2.out _))))
          go_wp2
          go_ret2
          exact ⟨by rw [HE.out] <;> rfl, by repeat (first | exact hbel | refine below_drewN ?_ _)⟩
        · by_cases hy0 : y < 0
          · have hE : decH s.data.toList = none := by rw [HD.out, decH, if_pos (Or.inr (by rw [HY.out]; exact hy0))]; rfl
            have HE := Lib.hid hE
            clear hE
            go_wp2
            go_quiet ((first | (go_at_call 69; with_reducible refine Calls.quiet_of_same (H1.out _)) | (go_at_call 69; with_reducible refine Calls.quiet_of_same (H2.out _))))
            go_wp2
            go_ret2
            exact ⟨by rw [HE.out] <;> rfl, by repeat (first | exact hbel | refine below_drewN ?_ _)⟩
          · have hE : decH s.data.toList = (decH (s.data.toList.drop (m + 2))).map ((acc ++ [UInt8.ofNat (16 * x + y).toNat]) ++ ·) := by
              rw [HD.out, decH, if_neg (by rw [HX.out, HY.out]; omega), HX.out, HY.out]
              cases decH (s.data.toList.drop (m + 2)) <;> simp
            have HE := Lib.hid hE
            clear hE
            have eO := or_nib x y (by omega) (by omega) (by omega) (by omega)
            go_wp2
            go_quiet ((first | (go_at_call 69; with_reducible refine Calls.quiet_of_same (H1.out _)) | (go_at_call 69; with_reducible refine Calls.quiet_of_same (H2.out _))))
            go_wp2_with (first
              | (at_builtin; refine ap_plain _ app_u8 (by decide) w.heap.size (.tmp 34) (.tmp 40) rfl rfl _ _ _ rfl ((ownsRow_drewN hown _).alloc _) _ _ 1 1 _ rfl (reads_new _ rfl) (one_cell rfl) q1 (Nat.le_trans hsz (by simp)) ?_; intro v' w1 hown1 hg1 hat1; clear hat1; have hb1 := below_grown_own ((below_drewN hbel _).alloc hsz _) ((ownsRow_drewN hown _).alloc _) hg1 (Nat.le_refl _) (Nat.le_trans hsz (by simp)); clear hg1; replace hown1 := own_snoc (UInt8.ofNat (16 * x + y).toNat) (by rw [bv, byte_of _ (by omega)]; go_num) rfl hown1))
            go_roundw
            case rel => exact ⟨m + 2, acc ++ [UInt8.ofNat (16 * x + y).toNat], by omega, by have := HM.out; omega, by go_num, hown1, by simp; omega, HE.out, hb1⟩
            case measure => simp [intOf]; omega
      · have hE : decH s.data.toList = some acc := by
          have hl : s.data.toList.length = s.size := Array.length_toList
          rw [hdec, List.drop_of_length_le (by omega)]
          simp [decH]
        have HE := Lib.hid hE
        clear hE hdec
        have hconv := run_str_own (P := Tryd.prog) (dst := 9) Tryd.underlying31 Tryd.underlying5 Tryd.underlying9 hown
        go_wp2
        go_ret2
        exact ⟨by rw [HE.out] <;> rfl, hbel⟩
  · have e1 : (((s.size : Int) % 2) != 0) = true := by rw [bne_iff_ne]; omega
    have hE : decH s.data.toList = none := decH_odd _ (by rw [show s.data.toList.length = s.size from Array.length_toList]; omega)
    have HE := Lib.hid hE
    clear hE
    go_enter Tryd.func38, Tryd.ntmps38
    go_wp2
    go_ret2
    exact ⟨by rw [HE.out] <;> rfl, Below.refl _ _⟩
end Go.Proofs.YtljggmgijadjaaaDoor.Hx
