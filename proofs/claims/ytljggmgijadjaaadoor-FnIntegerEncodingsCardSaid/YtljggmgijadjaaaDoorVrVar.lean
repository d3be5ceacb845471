/- Contracts of EncodeVarint of both packages. -/
import Derived.Test.YtljggmgijadjaaaDoorNum
namespace Go.Proofs.YtljggmgijadjaaaDoor.Vr
open Go.RowKit Go.ChangeShapes Go.WideShapes Go.ChangeAt Go.Deep
set_option linter.unusedVariables false

theorem app_u8 : AppTy Tryd.prog 31 5 (.int .u8 0) 1 1 := ⟨Tryd.underlying31, by kernel_rfl, rfl, by decide⟩
def encV (n : Nat) : List UInt8 := if h : 128 ≤ n then UInt8.ofNat (128 + n % 128) :: encV (n / 128) else [UInt8.ofNat n]
termination_by n
decreasing_by omega
theorem encV_big {n : Nat} (h : 128 ≤ n) : encV n = UInt8.ofNat (128 + n % 128) :: encV (n / 128) := by rw [encV, dif_pos h]
theorem encV_small {n : Nat} (h : n < 128) : encV n = [UInt8.ofNat n] := by rw [encV, dif_neg (by omega)]
theorem encV_len : ∀ (k n : Nat), n < 128 ^ (k + 1) → (encV n).length ≤ k + 1
  | 0, n, h => by rw [encV_small (by simpa using h)]; simp
  | k + 1, n, h => by
    by_cases hn : 128 ≤ n
    · rw [encV_big hn]
      have : n / 128 < 128 ^ (k + 1) := by rw [Nat.div_lt_iff_lt_mul (by decide)]; rwa [Nat.pow_succ] at h
      have := encV_len k (n / 128) this
      simpa using this
    · rw [encV_small (by omega)]; simp
theorem encV_len7 (n : Nat) (h : n ≤ 562949953421311) : (encV n).length ≤ 7 := by
  refine encV_len 6 n ?_
  have : 128 ^ (6 + 1) = 562949953421312 := by decide
  rw [this]
  omega
def encVarint (n : Int) : List UInt8 := if inB n 0 562949953421311 then encV n.toNat else []
theorem own_snoc {w : World} {base n : Nat} {e : TypeId} {v x : Value} {acc : List UInt8} (b : UInt8) (hx : x = bv b) (hn : n = acc.length) (h : w.ownsRow base e 1 v (n + 1) (acc.map bv ++ #[x].toList)) :
    w.ownsRow base e 1 v (acc ++ [b]).length ((acc ++ [b]).map bv) := by
  subst hx
  subst hn
  rw [List.map_append, List.length_append]
  exact h
theorem byte_of (m : Nat) (h : m < 256) : ((UInt8.ofNat m).toNat : Int) = (m : Int) := by
  rw [UInt8.toNat_ofNat']
  omega
theorem and127 (m : Nat) (h : m < 9223372036854775808) : bits .and .i64 (m : Int) 127 = (m : Int) % 128 := by
  have := i64_and_nat m 127 h (by decide)
  rw [nat_mask7] at this
  exact this
theorem or128 (m : Nat) : bits .or .i64 ((m : Int) % 128) 128 = 128 + (m : Int) % 128 := by
  have h1 : m % 128 < 128 := Nat.mod_lt _ (by decide)
  have := i64_or_nat 128 (m % 128) (by decide) (Nat.lt_trans h1 (by decide))
  rw [nat_join 7 128 (m % 128) (by decide) h1] at this
  have h2 : bits .or .i64 ((m : Int) % 128) 128 = bits .or .i64 ((128 : Nat) : Int) ((m % 128 : Nat) : Int) := by
    have h3 := i64_or_nat (m % 128) 128 (Nat.lt_trans h1 (by decide)) (by decide)
    rw [Nat.or_comm] at h3
    have h4 := i64_or_nat 128 (m % 128) (by decide) (Nat.lt_trans h1 (by decide))
    rw [h4, ← h3]
    rfl
  rw [h2, this]
  rfl
set_option maxRecDepth 4000 in
set_option maxHeartbeats 1000000 in
theorem implEncV_any (n : Int) (w : World) :
    Calls Tryd.prog 31 #[.int .i64 n] w fun e w' => e = .returned (.string ⟨(encVarint n).toArray⟩) ∧ Below w.heap.size w w' := by
  by_cases hok : inB n 0 562949953421311 = true
  · have hb := inB_true.1 hok
    obtain ⟨N, rfl⟩ := Int.eq_ofNat_of_zero_le hb.1
    have hN : N ≤ 562949953421311 := by omega
    have hlen := encV_len7 N hN
    have hE : encVarint (N : Int) = encV N := by unfold encVarint; rw [if_pos hok, Int.toNat_natCast]
    rw [hE]
    clear hE
    go_enter Tryd.func31, Tryd.ntmps31
    go_wp2_with (go_at_call 56; refine (within_any _ _ _ _).mono ?_; rintro e w' ⟨rfl, rfl⟩)
    clear hb hok
    go_loopw [0, 3] (fun x v wr => ∃ (m : Nat) (acc : List UInt8), m ≤ N ∧ x = .int .i64 m ∧ wr.ownsRow w.heap.size 5 1 v acc.length (acc.map bv) ∧ acc ++ encV m = encV N ∧ Below w.heap.size w wr)
      (fun x _ _ => (intOf x).toNat)
    case atStart =>
      refine ⟨N, [], Nat.le_refl _, rfl, ?_, by simp, (Below.refl _ _).alloc (Nat.le_refl _) _⟩
      exact World.ownsRow_made _ _ _ (Nat.le_refl _) (by simp [maxLen]) (by simp)
    case round =>
      obtain ⟨m, acc, hm, rfl, hown, hacc, hbel⟩ := hrel
      have hal : acc.length + (encV m).length ≤ 7 := by rw [← List.length_append, hacc]; exact hlen
      have HA := Lib.hid hacc
      clear hacc
      have hsz := hbel.size
      by_cases hlt : 128 ≤ m
      · have eA := and127 m (by omega)
        have eO := or128 m
        have hp : 1 ≤ (encV (m / 128)).length := by
          rw [encV]; split <;> simp
        have hcs := Lib.hid (encV_big hlt)
        have hal2 : acc.length ≤ 6 := by rw [encV_big hlt, List.length_cons] at hal; omega
        clear hal
        have q1 : Small (acc.length + 1) := small_of (by omega)
        go_wp2_with (first
          | (at_builtin; refine ap_plain _ app_u8 (by decide) w.heap.size (.tmp 10) (.tmp 15) rfl rfl _ _ _ rfl (hown.alloc _) _ _ 1 1 _ rfl (reads_new _ rfl) (one_cell rfl) q1 (Nat.le_trans hsz (by simp)) ?_; intro v' w1 hown1 hg1 hat1; clear hat1; have hb1 := below_grown_own (hbel.alloc hsz _) (hown.alloc _) hg1 (Nat.le_refl _) (Nat.le_trans hsz (by simp)); clear hg1; replace hown1 := own_snoc (UInt8.ofNat (128 + m % 128)) (by rw [bv, byte_of _ (by omega)]; go_num) rfl hown1))
        go_roundw
        case rel => exact ⟨m / 128, acc ++ [UInt8.ofNat (128 + m % 128)], by omega, by go_num, hown1, by rw [← HA.out, hcs.out]; simp, hb1⟩
        case measure => simp [intOf]; omega
      · have hal2 : acc.length ≤ 6 := by rw [encV_small (by omega), List.length_singleton] at hal; omega
        have hcs := Lib.hid (encV_small (n := m) (by omega))
        clear hal
        have q1 : Small (acc.length + 1) := small_of (by omega)
        go_wp2_with (first
          | (at_builtin; refine ap_plain _ app_u8 (by decide) w.heap.size (.tmp 19) (.tmp 22) rfl rfl _ _ _ rfl (hown.alloc _) _ _ 1 1 _ rfl (reads_new _ rfl) (one_cell rfl) q1 (Nat.le_trans hsz (by simp)) ?_; intro v' w1 hown1 hg1 hat1; clear hat1; have hb1 := below_grown_own (hbel.alloc hsz _) (hown.alloc _) hg1 (Nat.le_refl _) (Nat.le_trans hsz (by simp)); clear hg1; replace hown1 := own_snoc (UInt8.ofNat m) (by rw [bv, byte_of _ (by omega)]) rfl hown1; have hconv := run_str_own (P := Tryd.prog) (dst := 9) Tryd.underlying31 Tryd.underlying5 Tryd.underlying9 hown1))
        go_ret
        exact ⟨by rw [← HA.out, hcs.out]; rfl, hb1⟩
  · have h1 : inB n 0 562949953421311 = false := by simpa using hok
    have hE : encVarint n = [] := by simp [encVarint, h1]
    rw [hE]
    clear hE hok
    go_enter Tryd.func31, Tryd.ntmps31
    go_wp2_with (go_at_call 56; refine (within_any _ _ _ _).mono ?_; rintro e w' ⟨rfl, rfl⟩)
    go_ret
    exact ⟨rfl, Below.refl _ _⟩
end Go.Proofs.YtljggmgijadjaaaDoor.Vr
