/- Contracts of DecodeFixed, EncodeVarint, EncodeFixed, DecodeVarint of both packages. -/
import Derived.Test.YtljggmgijadjaaaDoorNum
namespace Go.Proofs.YtljggmgijadjaaaDoor.Fx
open Go.RowKit Go.ChangeShapes Go.WideShapes Go.ChangeAt Go.Deep
set_option linter.unusedVariables false

theorem snocRec {α : Type} {P : List α → Prop} (h0 : P []) (h : ∀ l a, P l → P (l ++ [a])) (l : List α) : P l := by
  have : ∀ m : List α, P m.reverse := by
    intro m
    induction m with
    | nil => exact h0
    | cons a m ih => rw [List.reverse_cons]; exact h _ _ ih
  have := this l.reverse
  rwa [List.reverse_reverse] at this
def bigE (l : List UInt8) : Nat := l.foldl (fun a b => a * 256 + b.toNat) 0
theorem bigE_snoc (l : List UInt8) (b : UInt8) : bigE (l ++ [b]) = bigE l * 256 + b.toNat := by simp [bigE, List.foldl_append]
theorem bigE_lt (l : List UInt8) : bigE l < 256 ^ l.length := by
  refine snocRec (P := fun l => bigE l < 256 ^ l.length) (by simp [bigE]) (fun l b ih => ?_) l
  · rw [bigE_snoc, List.length_append, List.length_singleton, Nat.pow_succ]
    have := b.toNat_lt
    omega
theorem take_snoc (s : ByteArray) (k : Nat) (h : k < s.size) : s.data.toList.take (k + 1) = s.data.toList.take k ++ [s[k]] := by
  rw [List.take_succ_eq_append_getElem (by simpa using h)]; rfl
def decFN (l : List UInt8) (n : Int) : Int := if inB n 1 7 = true ∧ n ≤ l.length then (bigE (l.take n.toNat) : Int) else 0
def decFB (l : List UInt8) (n : Int) : Bool := decide (inB n 1 7 = true ∧ n ≤ l.length)
theorem bigE_bd (l : List UInt8) (h : l.length ≤ 7) : bigE l < 72057594037927936 := by
  have := bigE_lt l
  have h2 : 256 ^ l.length ≤ 256 ^ 7 := Nat.pow_le_pow_right (by omega) h
  have h3 : (256 : Nat) ^ 7 = 72057594037927936 := by decide
  omega
theorem or_byte (z : Nat) (c : UInt8) (h : z * 256 < 72057594037927936) : bits .or .i64 ((z : Int) * 256) (c.toNat : Int) = (z : Int) * 256 + (c.toNat : Int) := by
  have hc := c.toNat_lt
  have h1 := i64_or_nat (z * 256) c.toNat (by omega) (by omega)
  rw [nat_join 8 (z * 256) c.toNat (Nat.mul_mod_left _ _) hc] at h1
  have h2 : ((z * 256 : Nat) : Int) = (z : Int) * 256 := by omega
  rw [h2] at h1
  rw [h1]
  clear h1 h2 hc
  omega
set_option maxHeartbeats 1000000 in
theorem implDecF_any (s : ByteArray) (n : Int) (w : World) (hs : s.size ≤ 2000000) (hn : (Lit.int .i64 n).wf = true) :
    Calls Tryd.prog 35 #[.string s, .int .i64 n] w fun e w' => e = .returned (.tuple #[.int .i64 (decFN s.data.toList n), .bool (decFB s.data.toList n)]) ∧ w = w' := by
  by_cases hok : inB n 1 7 = true
  · have hb := inB_true.1 hok
    by_cases hl : n ≤ s.size
    · have h1 : decFN s.data.toList n = (bigE (s.data.toList.take n.toNat) : Int) := by simp [decFN, hok, hl]
      have h2 : decFB s.data.toList n = true := by simp [decFB, hok, hl]
      rw [h1, h2]
      clear h1 h2
      obtain ⟨m, rfl⟩ := Int.eq_ofNat_of_zero_le (show 0 ≤ n by omega)
      go_enter Tryd.func35, Tryd.ntmps35
      go_wp2_with (go_at_call 56; refine (within_any _ _ _ _).mono ?_; rintro e w' ⟨rfl, rfl⟩)
      go_loop [6, 7] (fun t i => ∃ k : Nat, k ≤ m ∧ i = .int .i64 k ∧ t = .int .i64 (bigE (s.data.toList.take k) : Nat)) (fun _ i => m - (intOf i).toNat)
      case atStart => exact ⟨0, Nat.zero_le _, rfl, rfl⟩
      case round =>
        obtain ⟨k, hk, rfl, rfl⟩ := hrel
        by_cases hlt : k < m
        · have hts := take_snoc s k (by omega)
          obtain ⟨c, hc⟩ : ∃ c, s[k]'(by omega) = c := ⟨_, rfl⟩
          rw [hc] at hts
          have hc1 : (c.toNat : Int) < 256 := by have := c.toNat_lt; omega
          have hbd := bigE_bd (s.data.toList.take k) (by have := List.length_take_le k s.data.toList; omega)
          have hbd2 := bigE_bd (s.data.toList.take (k + 1)) (by have := List.length_take_le (k + 1) s.data.toList; omega)
          rw [hts, bigE_snoc] at hbd2
          have HS := Lib.hid (show bigE (s.data.toList.take (k + 1)) = bigE (s.data.toList.take k) * 256 + c.toNat by rw [hts, bigE_snoc])
          clear hts
          generalize bigE (s.data.toList.take k) = z at *
          have e1 := or_byte z c (Nat.lt_of_le_of_lt (Nat.le_add_right _ _) hbd2)
          go_wp2
          go_round
          case rel => exact ⟨k + 1, by omega, by go_num, by rw [HS.out]; go_num⟩
          case measure => simp [intOf]; omega
        · obtain rfl : k = m := by omega
          go_wp2
          go_ret2
          exact ⟨rfl, rfl⟩
    · have h1 : decFN s.data.toList n = 0 := by simp [decFN, hl]
      have h2 : decFB s.data.toList n = false := by simp [decFB, hl]
      rw [h1, h2]
      clear h1 h2
      go_enter Tryd.func35, Tryd.ntmps35
      go_wp2_with (go_at_call 56; refine (within_any _ _ _ _).mono ?_; rintro e w' ⟨rfl, rfl⟩)
      go_ret2
      exact ⟨rfl, rfl⟩
  · have hok' : inB n 1 7 = false := by simpa using hok
    have h1 : decFN s.data.toList n = 0 := by simp [decFN, hok']
    have h2 : decFB s.data.toList n = false := by simp [decFB, hok']
    rw [h1, h2]
    clear h1 h2 hok
    go_enter Tryd.func35, Tryd.ntmps35
    go_wp2_with (go_at_call 56; refine (within_any _ _ _ _).mono ?_; rintro e w' ⟨rfl, rfl⟩)
    go_ret2
    exact ⟨rfl, rfl⟩
end Go.Proofs.YtljggmgijadjaaaDoor.Fx
