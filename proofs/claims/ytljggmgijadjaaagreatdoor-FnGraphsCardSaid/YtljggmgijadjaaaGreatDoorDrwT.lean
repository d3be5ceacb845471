/- Texts drawn, and the draws of numbers and texts. -/
import Derived.Test.YtljggmgijadjaaaGreatDoorBaseB
import Derived.Test.YtljggmgijadjaaaGreatDoorArgB
namespace Go.Proofs.YtljggmgijadjaaaGreatDoor
open Go.RowKit Go.ChangeShapes Go.WideShapes Go.ChangeAt Go.Deep
set_option linter.unusedVariables false
theorem app_by : AppTy Tryz.prog 22 5 (.int .u8 0) 1 1 := ⟨Tryz.underlying22, by kernel_rfl, rfl, by decide⟩
theorem bv_int {v : Int} (h0 : 0 ≤ v) (h1 : v < 256) : Value.int .u8 v = bv (UInt8.ofNat v.toNat) := by
  unfold bv
  have : ((UInt8.ofNat v.toNat).toNat : Int) = v := by
    rw [UInt8.toNat_ofNat']
    omega
  rw [this]
theorem own_snoc_by {w : World} {base n : Nat} {e : TypeId} {v : Value} {x : Int} {acc : List UInt8} (h0 : 0 ≤ x) (h1 : x < 256) (hn : n = acc.length) (h : w.ownsRow base e 1 v (n + 1) (acc.map bv ++ #[Value.int .u8 x].toList)) :
    w.ownsRow base e 1 v (acc ++ [UInt8.ofNat x.toNat]).length ((acc ++ [UInt8.ofNat x.toNat]).map bv) := by
  subst hn
  rw [bv_int h0 h1] at h
  rw [List.map_append, List.length_append]
  exact h
theorem Cur.al {w : World} {cb : Nat} (h : Cur w cb) (o : Obj) : Cur (w.alloc o) cb := h.below ((Below.refl _ _).alloc (Nat.le_refl _) _)
set_option maxRecDepth 4000 in
set_option maxHeartbeats 4000000 in
theorem l1Text_any (w : World) {cb : Nat} (hC : Cur w cb) (most : Nat) (hm : most ≤ 255) :
    Calls Tryz.prog 117 #[.pointer (some ⟨cb, 0, none⟩), .int .i64 most] w fun e w' => ∃ s : ByteArray, e = .returned (.string s) ∧ s.size ≤ most ∧ Cur w' cb ∧ Tch cb (cb + 1) w w' := by
  have hcb := hC.lt
  have b0 : Below w.heap.size w (w.alloc (.cells #[] 5)) := (Below.refl _ _).alloc (Nat.le_refl _) _
  have C0 := hC.below b0
  have T0 : Tch cb (cb + 1) w (w.alloc (.cells #[] 5)) := Tch.of_below b0
  have o0 : (w.alloc (.cells #[] 5)).ownsRow w.heap.size 5 1 (.slice (some ⟨w.heap.size, 0, none⟩) 0 0) ([] : List UInt8).length (([] : List UInt8).map bv) := World.ownsRow_made _ _ _ (Nat.le_refl _) (by simp [maxLen]) (by simp)
  have hwr : IntKind.i64.wrap ((most : Int) + 1) = (most : Int) + 1 := IntWalk.i64_in _ (by omega)
  go_enter Tryz.func117, Tryz.ntmps117
  go_wp2_with fail
  generalize w.alloc (.cells #[] 5) = w0 at *
  refine (l1Below_all w0 C0 4 (by omega)).mono ?_
  rintro e w1 ⟨st, rfl, hs0, hs1, C1, t1⟩
  go_wp2_with fail
  refine (l1Below_all w1 C1 ((most : Int) + 1) (by omega)).mono ?_
  rintro e w2 ⟨q, rfl, hq0, hq1, C2, t2⟩
  obtain ⟨p, rfl, hp⟩ : ∃ p : Nat, q = (p : Int) ∧ p ≤ most := ⟨q.toNat, by omega, by omega⟩
  have T2 := (T0.trans t1).trans t2
  have o2 := own_tch (own_tch o0 t1 hcb) t2 hcb
  have hz2 := T2.size
  clear t1 t2 T0 o0 C0 C1 hwr b0
  go_wp2
  go_loopw [5, 7] (fun v i wr => ∃ (p : Nat) (acc : List UInt8), i = .int .i64 p ∧ acc.length + p ≤ most ∧ wr.ownsRow w.heap.size 5 1 v acc.length (acc.map bv) ∧ Cur wr cb ∧ Tch cb (cb + 1) w wr) (fun _ i _ => (intOf i).toNat)
  case atStart => exact ⟨p, [], rfl, by simpa using hp, o2, C2, T2⟩
  case round =>
    clear o2 C2 T2 hz2
    obtain ⟨p, acc, rfl, hp, hown, CR, T⟩ := hrel
    have hz := T.size
    obtain ⟨A1, d1, rfl, _⟩ := own_form hown
    rcases Nat.eq_zero_or_pos p with rfl | hp0
    · have hpos : ¬ (0 : Int) < ((0 : Nat) : Int) := by omega
      have hconv := run_str_own (P := Tryz.prog) (dst := 9) Tryz.underlying22 Tryz.underlying5 Tryz.underlying9 hown
      have hsz : (⟨acc.toArray⟩ : ByteArray).size ≤ most := by
        rw [Lib.size_eq]
        simpa using hp
      go_wp2
      go_ret
      exact ⟨_, rfl, hsz, CR, T⟩
    · obtain ⟨r, rfl⟩ : ∃ r, p = r + 1 := ⟨p - 1, by omega⟩
      have hpos : (0 : Int) < ((r + 1 : Nat) : Int) := by omega
      have hw1 : IntKind.i64.wrap (((r + 1 : Nat) : Int) - 1) = (r : Int) := by rw [IntKind.wrap_i64]; omega
      go_wp2_with fail
      refine (l1Byte_any wr CR).mono ?_
      rintro e w5 ⟨x, rfl, hx0, hx1, C5, t5⟩
      have o5 := own_tch hown t5 hcb
      have T5 := T.trans t5
      have hz5 := T5.size
      have q1 : Small (acc.length + 1) := small_of (by omega)
      have hst : st = 1 ∨ st = 2 ∨ (¬ st = 1 ∧ ¬ st = 2) := by omega
      clear hown CR T hz t5
      rcases hst with rfl | rfl | ⟨h1, h2⟩
      · obtain ⟨y, hy, hy0, hy1⟩ : ∃ y, x % 2 = y ∧ 0 ≤ y ∧ y < 256 := ⟨_, rfl, by omega, by omega⟩
        have hu : IntKind.u8.wrap y = y := by rw [IntKind.wrap_u8]; omega
        have o8 := o5.alloc (.cells #[Value.int .u8 y] 5)
        have T8 := T5.alloc (.cells #[Value.int .u8 y] 5)
        have C8 := C5.al (.cells #[Value.int .u8 y] 5)
        go_wp2_with (at_builtin; refine ap_plain _ app_by (by decide) w.heap.size (.tmp 31) (.tmp 34) rfl rfl _ _ _ rfl o8 _ _ 1 1 _ rfl (reads_new _ rfl) (one_cell rfl) q1 (Nat.le_trans hz5 (by simp)) ?_; intro v7 w7 hown7 hg7 hat7; clear hat7)
        have t7 := T8.grown2 hg7 (fun g hg => .inr (ownBlock_some o8 hg).1)
        have C7 := C8.grown o8 hcb hg7
        clear hg7
        replace hown7 := own_snoc_by hy0 hy1 rfl hown7
        go_roundw
        case rel => exact ⟨r, acc ++ [UInt8.ofNat y.toNat], by go_num, by simp; omega, hown7, C7, t7⟩
        case measure => simp [intOf] <;> omega
      · obtain ⟨y, hy, hy0, hy1⟩ : ∃ y, 97 + x % 4 = y ∧ 0 ≤ y ∧ y < 256 := ⟨_, rfl, by omega, by omega⟩
        have hu : IntKind.u8.wrap y = y := by rw [IntKind.wrap_u8]; omega
        have hw2 : IntKind.i64.wrap (97 + x % 4) = y := by rw [IntKind.wrap_i64]; omega
        have o8 := o5.alloc (.cells #[Value.int .u8 y] 5)
        have T8 := T5.alloc (.cells #[Value.int .u8 y] 5)
        have C8 := C5.al (.cells #[Value.int .u8 y] 5)
        go_wp2_with (at_builtin; refine ap_plain _ app_by (by decide) w.heap.size (.tmp 31) (.tmp 34) rfl rfl _ _ _ rfl o8 _ _ 1 1 _ rfl (reads_new _ rfl) (one_cell rfl) q1 (Nat.le_trans hz5 (by simp)) ?_; intro v7 w7 hown7 hg7 hat7; clear hat7)
        have t7 := T8.grown2 hg7 (fun g hg => .inr (ownBlock_some o8 hg).1)
        have C7 := C8.grown o8 hcb hg7
        clear hg7
        replace hown7 := own_snoc_by hy0 hy1 rfl hown7
        go_roundw
        case rel => exact ⟨r, acc ++ [UInt8.ofNat y.toNat], by go_num, by simp; omega, hown7, C7, t7⟩
        case measure => simp [intOf] <;> omega
      · obtain ⟨y, hy, hy0, hy1⟩ : ∃ y, x = y ∧ 0 ≤ y ∧ y < 256 := ⟨_, rfl, by omega, by omega⟩
        subst hy
        have hu : IntKind.u8.wrap x = x := by rw [IntKind.wrap_u8]; omega
        have o8 := o5.alloc (.cells #[Value.int .u8 x] 5)
        have T8 := T5.alloc (.cells #[Value.int .u8 x] 5)
        have C8 := C5.al (.cells #[Value.int .u8 x] 5)
        go_wp2_with (at_builtin; refine ap_plain _ app_by (by decide) w.heap.size (.tmp 31) (.tmp 34) rfl rfl _ _ _ rfl o8 _ _ 1 1 _ rfl (reads_new _ rfl) (one_cell rfl) q1 (Nat.le_trans hz5 (by simp)) ?_; intro v7 w7 hown7 hg7 hat7; clear hat7)
        have t7 := T8.grown2 hg7 (fun g hg => .inr (ownBlock_some o8 hg).1)
        have C7 := C8.grown o8 hcb hg7
        clear hg7
        replace hown7 := own_snoc_by hy0 hy1 rfl hown7
        go_roundw
        case rel => exact ⟨r, acc ++ [UInt8.ofNat x.toNat], by go_num, by simp; omega, hown7, C7, t7⟩
        case measure => simp [intOf] <;> omega
end Go.Proofs.YtljggmgijadjaaaGreatDoor
