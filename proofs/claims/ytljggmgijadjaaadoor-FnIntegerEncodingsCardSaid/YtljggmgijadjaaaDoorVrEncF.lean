/- Contracts of EncodeFixed of both packages. -/
import Derived.Test.YtljggmgijadjaaaDoorVrVar
namespace Go.Proofs.YtljggmgijadjaaaDoor.Vr
open Go.RowKit Go.ChangeShapes Go.WideShapes Go.ChangeAt Go.Deep
set_option linter.unusedVariables false

def encF (n : Nat) : Nat → List UInt8
  | 0 => []
  | k + 1 => encF (n / 256) k ++ [UInt8.ofNat (n % 256)]
theorem encF_len : ∀ (k n : Nat), (encF n k).length = k
  | 0, _ => rfl
  | k + 1, n => by simp [encF, encF_len k]
theorem encF_front : ∀ (k n : Nat), encF n (k + 1) = UInt8.ofNat (n / 256 ^ k % 256) :: encF n k
  | 0, n => by simp [encF]
  | k + 1, n => by
    rw [encF, encF_front k (n / 256)]
    rw [show encF n (k + 1) = encF (n / 256) k ++ [UInt8.ofNat (n % 256)] from rfl]
    rw [Nat.div_div_eq_div_mul, ← Nat.pow_succ']
    rfl
def encFixed (n width : Int) : List UInt8 := if inB width 1 7 = true ∧ 0 ≤ n ∧ n.toNat < 256 ^ width.toNat then encF n.toNat width.toNat else []
theorem run_one_str (b : UInt8) (wr : World) (x : Int) (hx : x = (b.toNat : Int)) :
    (convert 31 9 (.slice (some ⟨wr.heap.size, 0, none⟩) 1 1)).run Tryd.prog (wr.alloc (.cells #[.int .u8 x] 5)) = .ok (.string ⟨#[b]⟩) (wr.alloc (.cells #[.int .u8 x] 5)) := by
  subst hx
  exact run_convert_bytes_back (P := Tryd.prog) _ 31 9 5 ⟨wr.heap.size, 0, none⟩ 1 [b] Tryd.underlying31 Tryd.underlying5 Tryd.underlying9 (fun j hj => by
    have hj0 : j = 0 := by simpa using hj
    subst hj0
    exact one_new (w := wr) (u := .int .u8 (b.toNat : Int)) (e := 5) 0 _ rfl)
set_option maxRecDepth 4000 in
set_option maxHeartbeats 1000000 in
theorem specEncF_any (n m : Int) (w : World) (hn : (Lit.int .i64 n).wf = true) :
    Calls Tryd.prog 36 #[.int .i64 n, .int .i64 m] w fun e w' => e = .returned (.string ⟨(encFixed n m).toArray⟩) ∧ Below w.heap.size w w' := by
  by_cases hok : inB m 1 7 = true
  · by_cases h0 : 0 ≤ n
    · have hb := inB_true.1 hok
      obtain ⟨M, rfl⟩ := Int.eq_ofNat_of_zero_le (show 0 ≤ m by omega)
      obtain ⟨N, rfl⟩ := Int.eq_ofNat_of_zero_le h0
      have hNb : (N : Int) ≤ 9223372036854775807 := (bounds_i64 hn).2
      have hE := Lib.hid (show encFixed (N : Int) (M : Int) = if N < 256 ^ M then encF N M else [] by simp [encFixed, hok])
      go_enter Tryd.func36, Tryd.ntmps36
      go_wp2_with (go_at_call 57; refine (l1In_any _ _ _ _).mono ?_; rintro e w' ⟨rfl, rfl⟩)
      clear hok
      go_loopw [0, 5, 6] (fun x v i wr => ∃ k : Nat, k ≤ M ∧ x = .int .i64 ((N / 256 ^ k : Nat) : Int) ∧ v = .string ⟨(encF N k).toArray⟩ ∧ i = .int .i64 k ∧ Below w.heap.size w wr)
        (fun _ _ i _ => M - (intOf i).toNat)
      case atStart =>
        exact ⟨0, Nat.zero_le _, by simp, rfl, rfl, Below.refl _ _⟩
      case round =>
        obtain ⟨k, hk, rfl, rfl, rfl, hbel⟩ := hrel
        have hle : N / 256 ^ k ≤ N := Nat.div_le_self _ _
        have hfr := Lib.hid (encF_front k N)
        have hsz := hbel.size
        have hds := Lib.hid (show N / 256 ^ k / 256 = N / 256 ^ (k + 1) by rw [Nat.div_div_eq_div_mul, ← Nat.pow_succ])
        have hle2 := encF_len k N
        obtain ⟨z, hz0⟩ : ∃ z, N / 256 ^ k = z := ⟨_, rfl⟩
        rw [hz0] at hle hfr hds ⊢
        have HZ := Lib.hid hz0
        clear hz0
        by_cases hlt : k < M
        · have hc := run_one_str (UInt8.ofNat (z % 256)) wr ((z : Int) % 256) (by rw [byte_of _ (by omega)]; omega)
          go_wp2
          go_roundw
          case rel => exact ⟨k + 1, by omega, by rw [← hds.out]; go_num, by rw [hfr.out]; exact congrArg Value.string (ByteArray.ext (by simp)), by go_num, hbel.alloc hsz _⟩
          case measure => simp [intOf]; omega
        · obtain rfl : k = M := by omega
          go_wp2
          · have hz : 0 < z := by assumption
            go_ret
            have h2 := hE.out
            rw [if_neg (by intro hx; have h3 := HZ.out; rw [Nat.div_eq_of_lt hx] at h3; omega)] at h2
            exact ⟨by rw [h2] <;> rfl, hbel⟩
          · have hz : ¬ 0 < z := by assumption
            go_ret
            have h2 := hE.out
            rw [if_pos (by rcases Nat.lt_or_ge N (256 ^ k) with hx | hx; exact hx; have h3 := Nat.div_pos hx (Nat.pow_pos (n := k) (show 0 < 256 by decide)); rw [HZ.out] at h3; exact absurd h3 hz)] at h2
            exact ⟨by rw [h2] <;> rfl, hbel⟩
    · have hE : encFixed n m = [] := by simp [encFixed, h0]
      rw [hE]
      clear hE
      go_enter Tryd.func36, Tryd.ntmps36
      go_wp2_with (go_at_call 57; refine (l1In_any _ _ _ _).mono ?_; rintro e w' ⟨rfl, rfl⟩)
      go_ret
      exact ⟨rfl, Below.refl _ _⟩
  · have h1 : inB m 1 7 = false := by simpa using hok
    have hE : encFixed n m = [] := by simp [encFixed, h1]
    rw [hE]
    clear hE hok
    go_enter Tryd.func36, Tryd.ntmps36
    go_wp2_with (go_at_call 57; refine (l1In_any _ _ _ _).mono ?_; rintro e w' ⟨rfl, rfl⟩)
    go_ret
    exact ⟨rfl, Below.refl _ _⟩
theorem shr8 (M : Nat) (hM : M ≤ 7) (h1 : 1 ≤ M) : (8 * (M : Int)).toNat = 8 * M := by omega
theorem rep_snoc_set (j : Nat) (L : List Value) (z u : Value) : (List.replicate (j + 1) z ++ L).set j u = List.replicate j z ++ (u :: L) := by
  rw [List.replicate_succ', List.append_assoc]
  rw [List.set_append_right _ _ (by simp)]
  simp
theorem app_u8_info : (Tryd.prog.info? 5).map (fun i => (i.zero, i.size, i.bytes)) = some (some (.int .u8 0), 1, 1) := by kernel_rfl
set_option maxRecDepth 4000 in
set_option maxHeartbeats 1000000 in
theorem implEncF_any (n m : Int) (w : World) (hn : (Lit.int .i64 n).wf = true) :
    Calls Tryd.prog 34 #[.int .i64 n, .int .i64 m] w fun e w' => e = .returned (.string ⟨(encFixed n m).toArray⟩) ∧ Below w.heap.size w w' := by
  by_cases hok : inB m 1 7 = true
  · by_cases h0 : 0 ≤ n
    · have hb := inB_true.1 hok
      obtain ⟨M, rfl⟩ := Int.eq_ofNat_of_zero_le (show 0 ≤ m by omega)
      obtain ⟨N, rfl⟩ := Int.eq_ofNat_of_zero_le h0
      have hNb : (N : Int) ≤ 9223372036854775807 := (bounds_i64 hn).2
      have hE := Lib.hid (show encFixed (N : Int) (M : Int) = if N < 256 ^ M then encF N M else [] by simp [encFixed, hok])
      have hpw : ((N : Int) / 2 ^ (8 * M)) = ((N / 256 ^ M : Nat) : Int) := by
        have h2 : (2 : Nat) ^ (8 * M) = 256 ^ M := by rw [Nat.pow_mul]
        have h3 : ((2 : Int) ^ (8 * M)) = ((2 ^ (8 * M) : Nat) : Int) := by simp
        rw [h3, h2]
        rfl
      by_cases hsm : N < 256 ^ M
      · have e1 : ((N : Int) / 2 ^ (8 * M) != 0) = false := by rw [hpw, Nat.div_eq_of_lt hsm]; rfl
        clear hpw
        have hE2 := Lib.hid (hE.out.trans (if_pos hsm))
        clear hE hsm
        have hmk := make_eq (P := Tryd.prog) app_u8 (by decide) M (small_of (by omega))
        go_enter Tryd.func34, Tryd.ntmps34
        go_wp2_with (go_at_call 56; refine (within_any _ _ _ _).mono ?_; rintro e w' ⟨rfl, rfl⟩)
        clear hmk hok e1
        go_loopw [0, 6] (fun x i wr => ∃ j : Nat, j ≤ M ∧ x = .int .i64 ((N / 256 ^ (M - j) : Nat) : Int) ∧ i = .int .i64 ((j : Int) - 1) ∧ wr.ownsRow w.heap.size 5 1 (.slice (some ⟨w.heap.size, 0, none⟩) M M) M (List.replicate j (bv 0) ++ (encF N (M - j)).map bv) ∧ Below w.heap.size w wr)
          (fun _ i _ => (intOf i + 1).toNat)
        case atStart =>
          refine ⟨M, Nat.le_refl _, by simp, rfl, ?_, (Below.refl _ _).alloc (Nat.le_refl _) _⟩
          have h := own_zrow (e := 5) (size := 1) (n := M) (W := w) (.int .u8 0) (Nat.le_refl _) (small_of (by omega))
          rw [zrow_one rfl, Nat.mul_one] at h
          rw [Nat.sub_self]
          have hz : (Value.int .u8 0) = bv 0 := rfl
          rw [hz] at h ⊢
          simpa [encF] using h
        case round =>
          obtain ⟨j, hj, rfl, rfl, hown, hbel⟩ := hrel
          by_cases hlt : 1 ≤ j
          · obtain ⟨k, rfl⟩ : ∃ k, j = k + 1 := ⟨j - 1, by omega⟩
            have ek : ((k + 1 : Nat) : Int) - 1 = (k : Int) := by omega
            rw [ek]
            obtain ⟨z, hz0⟩ : ∃ z, N / 256 ^ (M - (k + 1)) = z := ⟨_, rfl⟩
            have hle : z ≤ N := by rw [← hz0]; exact Nat.div_le_self _ _
            have hfr := encF_front (M - (k + 1)) N
            have hMk : M - (k + 1) + 1 = M - k := by omega
            rw [hz0, hMk] at hfr
            have hds := Lib.hid (show z / 256 = N / 256 ^ (M - k) by rw [← hz0, Nat.div_div_eq_div_mul, ← Nat.pow_succ]; exact congrArg (fun q => N / 256 ^ q) hMk)
            rw [hz0]
            have hst := hown.stored k (bv (UInt8.ofNat (z % 256)))
            rw [rep_snoc_set] at hst
            have hc := hown.cellAt k (by omega)
            have hc2 : wr.cell? ⟨w.heap.size, k, none⟩ = some (bv 0) := by
              rw [hc, List.getElem?_append_left (by simp), List.getElem?_replicate, if_pos (by omega)]
            have hfz := hown.frozenAt k
            have hu : Value.int .u8 ((z : Int) % 256) = bv (UInt8.ofNat (z % 256)) := by rw [bv, byte_of _ (by omega)]; go_num
            have HU := Lib.hid hu
            have HF := Lib.hid hfr
            have HS := Lib.hid hst
            clear hst hfr hu hc hMk hz0 ek
            go_wp2
            go_roundw
            case rel =>
              refine ⟨k, by omega, by rw [← hds.out]; go_num, rfl, ?_, ?_⟩
              · rw [HU.out, HF.out]
                exact HS.out.1
              · exact hbel.setCell (Nat.le_refl _) _
            case measure => simp [intOf]
          · obtain rfl : j = 0 := by omega
            have hown2 : wr.ownsRow w.heap.size 5 1 (.slice (some ⟨w.heap.size, 0, none⟩) M M) M ((encF N M).map bv) := by simpa using hown
            have hconv := run_str_own (P := Tryd.prog) (dst := 9) Tryd.underlying31 Tryd.underlying5 Tryd.underlying9 hown2
            go_wp2
            go_ret
            exact ⟨by rw [hE2.out] <;> rfl, hbel⟩
      · have e1 : ((N : Int) / 2 ^ (8 * M) != 0) = true := by
          rw [hpw]
          have h3 := Nat.div_pos (Nat.le_of_not_lt hsm) (Nat.pow_pos (n := M) (show 0 < 256 by decide))
          rw [bne_iff_ne]
          omega
        clear hpw
        have hE2 := Lib.hid (hE.out.trans (if_neg hsm))
        clear hE hsm
        go_enter Tryd.func34, Tryd.ntmps34
        go_wp2_with (go_at_call 56; refine (within_any _ _ _ _).mono ?_; rintro e w' ⟨rfl, rfl⟩)
        go_ret
        exact ⟨by rw [hE2.out] <;> rfl, Below.refl _ _⟩
    · have hE : encFixed n m = [] := by simp [encFixed, h0]
      rw [hE]
      clear hE
      go_enter Tryd.func34, Tryd.ntmps34
      go_wp2_with (go_at_call 56; refine (within_any _ _ _ _).mono ?_; rintro e w' ⟨rfl, rfl⟩)
      go_ret
      exact ⟨rfl, Below.refl _ _⟩
  · have h1 : inB m 1 7 = false := by simpa using hok
    have hE : encFixed n m = [] := by simp [encFixed, h1]
    rw [hE]
    clear hE hok
    go_enter Tryd.func34, Tryd.ntmps34
    go_wp2_with (go_at_call 56; refine (within_any _ _ _ _).mono ?_; rintro e w' ⟨rfl, rfl⟩)
    go_ret
    exact ⟨rfl, Below.refl _ _⟩
end Go.Proofs.YtljggmgijadjaaaDoor.Vr
