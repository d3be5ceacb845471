/- The reference's draws out of bytes: the cursor, a byte, a number below n, a pick. What they give is not told: only that it lies in its bounds. -/
import Derived.Test.YtljggmgijadjaaaKp
import Derived.Laws.BitsLemmas
namespace Go.Proofs.Ytljggmgijadjaaa
open Go.RowKit Go.ChangeShapes Go.WideShapes Go.ChangeAt Go.Deep
set_option linter.unusedVariables false
def byv (b : UInt8) : Value := .int .u8 b.toNat
theorem i64_and255 (n : Int) : bits .and .i64 n 255 = n % 256 := by
  have h127 : (BitVec.ofInt 64 255).toNat = 2 ^ 8 - 1 := by decide
  have key : (BitVec.ofInt 64 n &&& BitVec.ofInt 64 255).toNat = (n % ((2 ^ 64 : Nat) : Int)).toNat % 2 ^ 8 := by
    rw [BitVec.toNat_and, BitVec.toNat_ofInt, h127, Nat.and_two_pow_sub_one_eq_mod]
  show IntKind.i64.wrap ((BitVec.ofInt 64 n &&& BitVec.ofInt 64 255).toNat : Nat) = n % 256
  rw [key, IntKind.wrap_i64]
  omega
/-- A cursor over bytes that were there before it. -/
def Cur (w : World) (cb : Nat) : Prop :=
  ∃ (A : Option Addr) (n c : Nat) (i : Nat) (h : Int) (bs : List UInt8), n ≤ 1048576 ∧ i ≤ n ∧ bs.length = n ∧ Blk w cb 57 #[.slice A n c, .int .i64 i, .int .i64 h] ∧ Reads w cb 1 A n (bs.map byv)
theorem reads_tch {w w' : World} {B lo hi size n : Nat} {A : Option Addr} {xs : List Value} (h : Reads w B size A n xs) (t : Tch lo hi w w') (hB : B ≤ lo) : Reads w' B size A n xs := by
  refine ⟨h.1, fun hn => ?_⟩
  obtain ⟨ad, e, hb, hc⟩ := h.2 hn
  exact ⟨ad, e, hb, fun j u hu => cell_tch t (hc j u hu) (.inl (by rw [block_of_add]; omega))⟩
theorem Cur.below {w w' : World} {cb : Nat} (h : Cur w cb) (hb : Below w.heap.size w w') : Cur w' cb := by
  obtain ⟨A, n, c, i, hh, bs, h1, h2, h3, X, R⟩ := h
  exact ⟨A, n, c, i, hh, bs, h1, h2, h3, X.below hb X.lt, reads_tch R (Tch.of_below (lo := cb) (hi := cb) hb) (Nat.le_refl _)⟩
theorem byte_at {w : World} {B n k : Nat} {A : Option Addr} {bs : List UInt8} (h : Reads w B 1 A n (bs.map byv)) (hl : bs.length = n) (hk : k < n) :
    ∃ b o, A = some ⟨b, o, none⟩ ∧ b < B ∧ ∃ x : Int, 0 ≤ x ∧ x < 256 ∧ w.cell? ⟨b, o + k, none⟩ = some (.int .u8 x) := by
  obtain ⟨b, o, hA, hb, hc⟩ := row_at h (by omega) (by decide)
  have hx : bs[k]? = some bs[k] := List.getElem?_eq_getElem (by omega)
  have hlt := UInt8.toNat_lt bs[k]
  exact ⟨b, o, hA, hb, (bs[k].toNat : Int), by omega, by omega, hc k (byv bs[k]) (by rw [List.getElem?_map, hx]; rfl)⟩
theorem Tch.set1 {w : World} {cb : Nat} (i : Nat) (u : Value) : Tch cb (cb + 1) w (w.setCell ⟨cb, i, none⟩ u) := (Tch.refl _ _ _).setCell (p := ⟨cb, i, none⟩) (Nat.le_refl _) (Nat.lt_succ_self _) u
set_option maxRecDepth 4000 in
set_option maxHeartbeats 1000000 in
theorem l1Byte_any (w : World) {cb : Nat} (hC : Cur w cb) :
    Calls Try.prog 41 #[.pointer (some ⟨cb, 0, none⟩)] w fun e w' => ∃ q : Int, e = .returned (.int .i64 q) ∧ 0 ≤ q ∧ q < 256 ∧ Cur w' cb ∧ Tch cb (cb + 1) w w' := by
  obtain ⟨A, n, c, i, h, bs, hn, hi, hl, X, R⟩ := hC
  have k0 : w.cell? ⟨cb, 0, none⟩ = some (.slice A n c) := by rw [X.cell]; rfl
  have k1 : w.cell? ⟨cb, 1, none⟩ = some (.int .i64 i) := by rw [X.cell]; rfl
  have k2 : w.cell? ⟨cb, 2, none⟩ = some (.int .i64 h) := by rw [X.cell]; rfl
  have kf := X.frozen 2
  have hX := X.lt
  go_enter Try.func41, Try.ntmps41
  go_wp2_with fail
  have t1 := Tch.set1 (w := w) (cb := cb) 2 (.int .i64 (wrap64 (wrap64 (h * 6364136223846793005) + 1442695040888963407)))
  have X1 := X.set_ 2 (.int .i64 (wrap64 (wrap64 (h * 6364136223846793005) + 1442695040888963407)))
  generalize wrap64 (wrap64 (h * 6364136223846793005) + 1442695040888963407) = h1 at *
  have R1 := reads_tch R t1 (Nat.le_refl _)
  replace X1 : Blk (w.setCell ⟨cb, 2, none⟩ (.int .i64 h1)) cb 57 #[.slice A n c, .int .i64 i, .int .i64 h1] := X1
  clear k0 k1 k2 kf X R
  generalize w.setCell ⟨cb, 2, none⟩ (.int .i64 h1) = w1 at *
  have k0 := X1.kc (v := .slice A n c) 0 rfl
  have k1 := X1.kc (v := .int .i64 i) 1 rfl
  have k2 := X1.kc (v := .int .i64 h1) 2 rfl
  have kf := X1.kf 1
  refine wp_region_kept (by kernel_rfl) (by kernel_rfl) ?_
  repeat (go_big_quiet_step (fail))
  refine wpQuiet_nil ?_
  intro _ hw'
  obtain ⟨z2, rfl⟩ := hw'
  rcases Nat.lt_or_ge i n with hin | hin
  · obtain ⟨b, o, rfl, hb, x, hx0, hx1, hc⟩ := byte_at R1 hl hin
    have kx := Kept.cell hc
    have hin' : (i : Int) < n := by omega
    have hi0 : (0 : Int) ≤ (i : Int) := by omega
    have hwi : IntKind.i64.wrap ((i : Int) + 1) = (i : Int) + 1 := by rw [IntKind.wrap_i64]; omega
    clear hc
    go_wp2_with fail
    refine wp_region_k2 (by kernel_rfl) (by kernel_rfl) ?_
    repeat (go_big_quiet_step (fail))
    refine wpQuiet_nil ?_
    intro _ hw'
    obtain ⟨z3, rfl⟩ := hw'
    go_wp2_with fail
    refine wp_region_k2 (by kernel_rfl) (by kernel_rfl) ?_
    repeat (go_big_quiet_step (fail))
    refine wpQuiet_nil ?_
    intro _ hw'
    obtain ⟨z4, rfl⟩ := hw'
    have X4 := X1.below z4.be X1.lt
    have R4 := reads_tch R1 (Tch.of_below (lo := cb) (hi := cb) z4.be) (Nat.le_refl _)
    have t4 := (t1.below z4.be).trans (Tch.set1 (w := z4.W) (cb := cb) 1 (.int .i64 ((i : Int) + 1)))
    go_wp2_with fail
    go_ret
    exact ⟨_, rfl, by rw [i64_and255]; omega, by rw [i64_and255]; omega, ⟨_, n, c, i + 1, h1, bs, hn, by omega, hl, by rw [show ((i + 1 : Nat) : Int) = (i : Int) + 1 by omega]; exact X4.set_ 1 _, reads_tch R4 (Tch.set1 1 _) (Nat.le_refl _)⟩, t4⟩
  · have hin' : ¬ (i : Int) < n := by omega
    go_wp2_with fail
    refine wp_region_k2 (by kernel_rfl) (by kernel_rfl) ?_
    repeat (go_big_quiet_step (fail))
    refine wpQuiet_nil ?_
    intro _ hw'
    obtain ⟨z4, rfl⟩ := hw'
    have X4 := X1.below z4.be X1.lt
    have R4 := reads_tch R1 (Tch.of_below (lo := cb) (hi := cb) z4.be) (Nat.le_refl _)
    have t4 := t1.below z4.be
    go_wp2
    go_ret
    exact ⟨_, rfl, by rw [i64_and255]; omega, by rw [i64_and255]; omega, ⟨_, n, c, i, h1, bs, hn, hi, hl, X4, R4⟩, t4⟩
set_option maxRecDepth 4000 in
set_option maxHeartbeats 1000000 in
theorem l1Below_any (w : World) {cb : Nat} (hC : Cur w cb) (n : Int) (h0 : 0 < n) (h1 : n ≤ 256) :
    Calls Try.prog 28 #[.pointer (some ⟨cb, 0, none⟩), .int .i64 n] w fun e w' => ∃ q : Int, e = .returned (.int .i64 q) ∧ 0 ≤ q ∧ q < n ∧ Cur w' cb ∧ Tch cb (cb + 1) w w' := by
  have hn0 : ¬ n ≤ 0 := by omega
  have hne : ¬ n = 0 := by omega
  go_enter Try.func28, Try.ntmps28
  go_wp2_with fail
  refine (l1Byte_any w hC).mono ?_
  rintro e w1 ⟨q, rfl, hq0, hq1, C1, t1⟩
  have hm0 : 0 ≤ q % n := Int.emod_nonneg _ hne
  have hm1 : q % n < n := Int.emod_lt_of_pos _ h0
  go_wp2
  go_ret
  exact ⟨_, rfl, hm0, hm1, C1, t1⟩
set_option maxRecDepth 4000 in
set_option maxHeartbeats 1000000 in
theorem l1Once_any (w : World) {cb : Nat} (hC : Cur w cb) (n : Int) (h0 : 0 < n) (h1 : n ≤ 256) :
    Calls Try.prog 34 #[.pointer (some ⟨cb, 0, none⟩), .int .i64 n] w fun e w' => ∃ q : Bool, e = .returned (.bool q) ∧ Cur w' cb ∧ Tch cb (cb + 1) w w' := by
  go_enter Try.func34, Try.ntmps34
  go_wp2_with fail
  refine (l1Below_any w hC n h0 h1).mono ?_
  rintro e w1 ⟨q, rfl, hq0, hq1, C1, t1⟩
  go_wp2
  go_ret
  exact ⟨_, rfl, C1, t1⟩
set_option maxRecDepth 4000 in
set_option maxHeartbeats 1000000 in
theorem l1PickInt_any (w : World) {cb : Nat} (hC : Cur w cb) {g n c : Nat} {xs : List Int} (hl : xs.length = n) (h0 : 0 < n) (h1 : n ≤ 256) (hc : ∀ j x, xs[j]? = some x → w.cell? ⟨g, j, none⟩ = some (.int .i64 x)) (hne : g ≠ cb) :
    Calls Try.prog 33 #[.pointer (some ⟨cb, 0, none⟩), .slice (some ⟨g, 0, none⟩) n c] w fun e w' => ∃ x ∈ xs, e = .returned (.int .i64 x) ∧ Cur w' cb ∧ Tch cb (cb + 1) w w' := by
  go_enter Try.func33, Try.ntmps33
  go_wp2_with fail
  refine (l1Below_any w hC n (by omega) (by omega)).mono ?_
  rintro e w1 ⟨q, rfl, hq0, hq1, C1, t1⟩
  obtain ⟨k, rfl⟩ : ∃ k : Nat, q = (k : Int) := ⟨q.toNat, by omega⟩
  have hk : k < xs.length := by omega
  have hx : xs[k]? = some xs[k] := List.getElem?_eq_getElem hk
  have hcell := cell_tch t1 (hc k _ hx) (by dsimp only; omega)
  obtain ⟨x, hxe⟩ : ∃ x, xs[k] = x := ⟨_, rfl⟩
  rw [hxe] at hcell hx
  have HM := Lib.hid (List.mem_of_getElem? hx)
  clear hxe hx
  go_wp2
  go_ret
  exact ⟨_, HM.out, rfl, C1, t1⟩
end Go.Proofs.Ytljggmgijadjaaa
