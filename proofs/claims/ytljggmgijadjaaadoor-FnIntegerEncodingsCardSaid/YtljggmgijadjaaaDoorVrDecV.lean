/- Contracts of DecodeVarint of both packages. -/
import Derived.Test.YtljggmgijadjaaaDoorVrVar
namespace Go.Proofs.YtljggmgijadjaaaDoor.Vr
open Go.RowKit Go.ChangeShapes Go.WideShapes Go.ChangeAt Go.Deep
set_option linter.unusedVariables false

theorem take_snoc (s : ByteArray) (k : Nat) (h : k < s.size) : s.data.toList.take (k + 1) = s.data.toList.take k ++ [s[k]] := by
  rw [List.take_succ_eq_append_getElem (by simpa using h)]; rfl
def leN (l : List UInt8) : Nat := l.foldr (fun b a => a * 128 + b.toNat % 128) 0
theorem leN_cons (b : UInt8) (l : List UInt8) : leN (b :: l) = leN l * 128 + b.toNat % 128 := rfl
theorem leN_lt : ∀ l : List UInt8, leN l < 128 ^ l.length
  | [] => by simp [leN]
  | b :: l => by
    have := leN_lt l
    have h2 : b.toNat % 128 < 128 := Nat.mod_lt _ (by decide)
    rw [leN_cons, List.length_cons, Nat.pow_succ]
    omega
theorem leN_snoc : ∀ (l : List UInt8) (b : UInt8), leN (l ++ [b]) = leN l + b.toNat % 128 * 128 ^ l.length
  | [], b => by simp [leN]
  | a :: l, b => by
    rw [List.cons_append, leN_cons, leN_snoc l b, leN_cons, List.length_cons, Nat.pow_succ, Nat.add_mul, Nat.mul_assoc]
    omega
/-- What an encoded number looks like. -/
theorem encV_form : ∀ (f n : Nat), n ≤ f → ∀ i, (h : i < (encV n).length) → ((encV n)[i].toNat < 128 ↔ i + 1 = (encV n).length)
  | f, n, hf, i, h => by
    by_cases hn : 128 ≤ n
    · have hlt : n / 128 < n := Nat.div_lt_self (by omega) (by decide)
      match f, hf with
      | 0, hf => omega
      | f + 1, hf =>
        have ih := encV_form f (n / 128) (by omega)
        have hp : 0 < (encV (n / 128)).length := by rw [encV]; split <;> simp
        generalize hL : encV n = L at *
        rw [encV_big hn] at hL
        subst hL
        match i, h with
        | 0, h =>
          have : (UInt8.ofNat (128 + n % 128)).toNat = 128 + n % 128 := by have := byte_of (128 + n % 128) (by omega); omega
          simp only [List.getElem_cons_zero, List.length_cons]
          omega
        | i + 1, h =>
          simp only [List.getElem_cons_succ, List.length_cons]
          rw [ih i (by simpa using h)]
          omega
    · generalize hL : encV n = L at *
      rw [encV_small (by omega)] at hL
      subst hL
      have : i = 0 := by simpa using h
      subst this
      have : (UInt8.ofNat n).toNat = n := by have := byte_of n (by omega); omega
      simp
      omega
def okV (l : List UInt8) (k : Nat) : Prop := encV (leN (l.take k)) = l.take k
instance (l : List UInt8) (k : Nat) : Decidable (okV l k) := by unfold okV; infer_instance
def firstSmall (l : List UInt8) : Nat := l.findIdx (fun b => decide (b.toNat < 128))
def hitV (l : List UInt8) : Prop := firstSmall l < 7 ∧ firstSmall l < l.length ∧ okV l (firstSmall l + 1)
instance (l : List UInt8) : Decidable (hitV l) := by unfold hitV; infer_instance
def decVN (l : List UInt8) : Nat := if hitV l then leN (l.take (firstSmall l + 1)) else 0
def decVK (l : List UInt8) : Nat := if hitV l then firstSmall l + 1 else 0
theorem encV_pos (n : Nat) : 0 < (encV n).length := by rw [encV]; split <;> simp
/-- A prefix that is its own encoding ends with the first small byte. -/
theorem ok_first {l : List UInt8} {k : Nat} (hk1 : 1 ≤ k) (hk : k ≤ l.length) (h : okV l k) : firstSmall l + 1 = k := by
  unfold okV at h
  have hlen : (l.take k).length = k := by rw [List.length_take]; omega
  have hform : ∀ i, (hi : i < k) → (l[i]'(by omega)).toNat < 128 ↔ i + 1 = k := by
    intro i hi
    have := encV_form _ (leN (l.take k)) (Nat.le_refl _) i (by rw [h, hlen]; exact hi)
    simp only [h, hlen] at this
    rw [List.getElem_take] at this
    exact this
  have h1 : firstSmall l = k - 1 := by
    unfold firstSmall
    rw [List.findIdx_eq (by omega)]
    refine ⟨by simpa using (hform (k - 1) (by omega)).2 (by omega), fun j hj => ?_⟩
    have := hform j (by omega)
    simp
    omega
  omega

theorem ext_toList (s : ByteArray) (k : Nat) : (s.extract 0 k).toList = s.data.toList.take k := by
  rw [ByteArray.toList_eq]
  simp
theorem leN_bd (l : List UInt8) (h : l.length ≤ 7) : leN l ≤ 562949953421311 := by
  have h1 := leN_lt l
  have h2 : 128 ^ l.length ≤ 128 ^ 7 := Nat.pow_le_pow_right (by omega) h
  have h3 : (128 : Nat) ^ 7 = 562949953421312 := by decide
  omega
theorem encVar_nat {z : Nat} (h : z ≤ 562949953421311) : encVarint (z : Int) = encV z := by
  unfold encVarint
  rw [if_pos (inB_true.2 (by omega)), Int.toNat_natCast]
theorem drop_take_step (s : ByteArray) (j k : Nat) (hj : j < k) (hk : k ≤ s.size) : leN ((s.data.toList.take k).drop j) = leN ((s.data.toList.take k).drop (j + 1)) * 128 + (s[j]'(by omega)).toNat % 128 := by
  have hl : s.data.toList.length = s.size := Array.length_toList
  rw [List.drop_eq_getElem_cons (show j < (s.data.toList.take k).length by rw [List.length_take]; omega), leN_cons, List.getElem_take]
  rfl
theorem decV_none {l : List UInt8} {m : Nat} (hm : m ≤ 7 ∧ m ≤ l.length ∧ (m = 7 ∨ m = l.length)) (h : ∀ j, 1 ≤ j → j ≤ m → ¬ okV l j) : ¬ hitV l := by
  rintro ⟨h1, h2, h3⟩
  exact h (firstSmall l + 1) (by omega) (by omega) h3
theorem decV_hit {l : List UInt8} {k : Nat} (hk1 : 1 ≤ k) (hk7 : k ≤ 7) (hk : k ≤ l.length) (h : okV l k) : decVN l = leN (l.take k) ∧ decVK l = k := by
  have h1 := ok_first hk1 hk h
  have hh : hitV l := ⟨by omega, by omega, by rw [h1]; exact h⟩
  unfold decVN decVK
  rw [if_pos hh, if_pos hh, h1]
  exact ⟨rfl, rfl⟩
theorem nokstep {l : List UInt8} {m : Nat} (h1 : ∀ j, 1 ≤ j → j < m → ¬ okV l j) (h2 : ¬ okV l m) : ∀ j, 1 ≤ j → j < m + 1 → ¬ okV l j := by
  intro j hj1 hj
  rcases Nat.lt_or_ge j m with h | h
  · exact h1 j hj1 h
  · obtain rfl : j = m := by omega
    exact h2
theorem below_then {W a b : World} (h : Below W.heap.size W a) (k : Below a.heap.size a b) : Below W.heap.size W b := h.trans (k.mono h.size)
theorem fs_lt {l : List UInt8} {k : Nat} (hk : k < l.length) (h : k ≤ firstSmall l) : (l[k].toNat < 128 → firstSmall l = k) ∧ (¬ l[k].toNat < 128 → k + 1 ≤ firstSmall l) := by
  have hnot : ∀ j, (hj : j < firstSmall l) → (hl : j < l.length) → ¬ (l[j]).toNat < 128 := fun j hj hl => by
    have := List.not_of_lt_findIdx (p := fun b : UInt8 => decide (b.toNat < 128)) hj
    simpa using this
  constructor
  · intro hs
    rcases Nat.lt_or_ge k (firstSmall l) with h2 | h2
    · exact absurd hs (hnot k h2 hk)
    · omega
  · intro hs
    rcases Nat.lt_or_ge k (firstSmall l) with h2 | h2
    · omega
    · have he : firstSmall l = k := by omega
      have hlt : List.findIdx (fun b : UInt8 => decide (b.toNat < 128)) l < l.length := by
        show firstSmall l < _
        omega
      have := List.findIdx_getElem (w := hlt)
      have h3 : (l[firstSmall l]'(by omega)).toNat < 128 := of_decide_eq_true this
      simp only [he] at h3
      exact absurd h3 hs
theorem or_shift (z x k : Nat) (hk : k < 7) (hx : x < 128) (hz : z < 128 ^ k) : bits .or .i64 (z : Int) (wrap64 ((x : Int) * 2 ^ (7 * k))) = ((z + x * 128 ^ k : Nat) : Int) := by
  have h2 : (2 : Nat) ^ (7 * k) = 128 ^ k := by rw [Nat.pow_mul]
  have h3 : ((2 : Int) ^ (7 * k)) = ((128 ^ k : Nat) : Int) := by rw [← h2]; simp
  rw [h3, ← Int.natCast_mul]
  have h4 : x * 128 ^ k ≤ 127 * 128 ^ 6 := Nat.mul_le_mul (by omega) (Nat.pow_le_pow_right (by decide) (by omega))
  have h5 : 128 ^ k ≤ 128 ^ 6 := Nat.pow_le_pow_right (by decide) (by omega)
  have h6 : (127 : Nat) * 128 ^ 6 = 558551906910208 := by decide
  have h7 : (128 : Nat) ^ 6 = 4398046511104 := by decide
  rw [IntWalk.wrap64_in _ ⟨by omega, by omega⟩]
  have h8 := i64_or_nat z (x * 128 ^ k) (by omega) (by omega)
  rw [h8, Nat.or_comm, nat_join (7 * k) (x * 128 ^ k) z (by rw [h2]; exact Nat.mul_mod_left _ _) (by rw [h2]; exact hz)]
  rw [Nat.add_comm]
set_option maxRecDepth 4000 in
set_option maxHeartbeats 2000000 in
theorem implDecV_any (s : ByteArray) (w : World) (hs : s.size ≤ 4000000) :
    Calls Tryd.prog 32 #[.string s] w fun e w' => e = .returned (.tuple #[.int .i64 (decVN s.data.toList : Nat), .int .i64 (decVK s.data.toList : Nat)]) ∧ Below w.heap.size w w' := by
  have hsl : s.data.toList.length = s.size := Array.length_toList
  have HSL := Lib.hid hsl
  clear hsl
  go_enter Tryd.func32, Tryd.ntmps32
  go_wp2
  go_loopw [4, 5] (fun n i wr => ∃ k : Nat, k ≤ 7 ∧ k ≤ s.size ∧ i = .int .i64 k ∧ n = .int .i64 (leN (s.data.toList.take k) : Nat) ∧ k ≤ firstSmall s.data.toList ∧ Below w.heap.size w wr) (fun _ i _ => 8 - (intOf i).toNat)
  case atStart => exact ⟨0, by omega, by omega, rfl, rfl, Nat.zero_le _, Below.refl _ _⟩
  case round =>
    obtain ⟨k, hk7, hks, rfl, rfl, hfs, hbel⟩ := hrel
    by_cases hlt : k < s.size
    · by_cases h7 : k < 7
      · have hsn := leN_snoc (s.data.toList.take k) s[k]
        have htk := take_snoc s k hlt
        rw [← htk, List.length_take, HSL.out, Nat.min_eq_left hks] at hsn
        clear htk
        have hfl := fs_lt (l := s.data.toList) (k := k) (by rw [HSL.out]; exact hlt) hfs
        have hgl : s.data.toList[k]'(by rw [HSL.out]; exact hlt) = s[k] := rfl
        rw [hgl] at hfl
        clear hgl
        obtain ⟨c, hc⟩ : ∃ c, s[k] = c := ⟨_, rfl⟩
        rw [hc] at hsn hfl
        have HF := Lib.hid hfl
        have HS := Lib.hid hsn
        have HK := Lib.hid hfs
        clear hfl hsn hfs
        have hbd := leN_lt (s.data.toList.take k)
        rw [List.length_take, HSL.out, Nat.min_eq_left hks] at hbd
        have HB := Lib.hid hbd
        clear hbd
        generalize leN (s.data.toList.take k) = z at *
        have hc1 : (c.toNat : Int) < 256 := by have := c.toNat_lt; omega
        have eA : bits .and .u8 (c.toNat : Int) 127 = (c.toNat : Int) % 128 := by
          have := u8_and_nat c.toNat 127 (by omega) (by omega)
          rw [nat_mask7] at this
          exact this
        have hx128 : c.toNat % 128 < 128 := Nat.mod_lt _ (by decide)
        have eO0 := or_shift z (c.toNat % 128) k h7 hx128 HB.out
        obtain ⟨Z, hZ⟩ : ∃ Z, z + c.toNat % 128 * 128 ^ k = Z := ⟨_, rfl⟩
        rw [hZ] at eO0
        have eO : bits .or .i64 (z : Int) (wrap64 ((c.toNat : Int) % 128 * 2 ^ (7 * k))) = (Z : Int) := eO0
        have HL := Lib.hid (HS.out.trans hZ)
        clear eO0 hZ hx128
        have hZb : Z ≤ 562949953421311 := by
          rw [← HL.out]
          exact leN_bd _ (by rw [List.length_take]; omega)
        by_cases hsm : (c.toNat : Int) < 128
        · have hcall : ∀ W, Calls Tryd.prog 31 #[.int .i64 (Z : Int)] W fun e w' => e = .returned (.string ⟨(encV Z).toArray⟩) ∧ Below W.heap.size W w' := fun W => by
            have h := implEncV_any (Z : Int) W
            rw [encVar_nat hZb] at h
            exact h
          have HC := Lib.hid hcall
          have hfe : firstSmall s.data.toList = k := HF.out.1 (by omega)
          have HFE := Lib.hid hfe
          have hex := ext_toList s (k + 1)
          have ek1 : IntKind.i64.wrap ((k : Int) + 1) = (k : Int) + 1 := IntWalk.i64_in _ (by omega)
          have ek2 : (0 : Int) ≤ (k : Int) + 1 := by omega
          have ek4 : (k : Int) + 1 ≤ (s.size : Int) := by omega
          have ek3 : ((k : Int) + 1).toNat = k + 1 := by omega
          clear hcall hZb hfe
          go_wp2
          go_region_held3 (fun _ => True) (trivial) (first | (go_simp; go_at_call 31; refine (HC.out _).mono ?_; rintro e w1 ⟨rfl, hb1⟩; dsimp only))
          all_goals
            clear ek1 ek2 ek3 ek4
            go_wp2
            · have hh : (!encV Z == List.take (k + 1) s.data.toList) = true := by assumption
              have hE : ¬ hitV s.data.toList := by
                rintro ⟨_, _, h3⟩
                rw [HFE.out] at h3
                unfold okV at h3
                rw [HL.out] at h3
                simp [h3] at hh
              go_ret2
              exact ⟨by unfold decVN decVK; rw [if_neg hE, if_neg hE] <;> rfl, below_then (below_drewN hbel 1) hb1⟩
            · have hh : (!encV Z == List.take (k + 1) s.data.toList) = false := by assumption
              have hE : hitV s.data.toList := by
                refine ⟨by rw [HFE.out]; exact h7, by rw [HFE.out, HSL.out]; exact hlt, ?_⟩
                rw [HFE.out]
                unfold okV
                rw [HL.out]
                simpa using hh
              go_ret2
              exact ⟨by unfold decVN decVK; rw [if_pos hE, if_pos hE, HFE.out, HL.out] <;> rfl, below_then (below_drewN hbel 1) hb1⟩
        · have HFE := Lib.hid (HF.out.2 (by omega))
          clear hZb
          go_wp2
          go_roundw
          case rel => exact ⟨k + 1, by omega, by omega, by go_num, by rw [HL.out], HFE.out, hbel⟩
          case measure => simp [intOf]; omega
      · obtain rfl : k = 7 := by omega
        have hE : ¬ hitV s.data.toList := fun h => by have := h.1; omega
        have HE := Lib.hid hE
        clear hE
        go_wp2
        go_ret2
        exact ⟨by unfold decVN decVK; rw [if_neg HE.out, if_neg HE.out] <;> rfl, hbel⟩
    · have hE : ¬ hitV s.data.toList := fun h => by have := h.2.1; rw [HSL.out] at this; omega
      have HE := Lib.hid hE
      clear hE
      go_wp2
      go_ret2
      exact ⟨by unfold decVN decVK; rw [if_neg HE.out, if_neg HE.out] <;> rfl, hbel⟩
end Go.Proofs.YtljggmgijadjaaaDoor.Vr
