/- Texts spoiled, texts picked; the draws of FnGraphs. -/
import Derived.Test.YtljggmgijadjaaaGreatDoorDrwX
import Derived.Test.YtljggmgijadjaaaGreatDoorDrwT
import Derived.Test.YtljggmgijadjaaaGreatDoorFmtE
namespace Go.Proofs.YtljggmgijadjaaaGreatDoor
open Go.RowKit Go.ChangeShapes Go.WideShapes Go.ChangeAt Go.Deep
set_option linter.unusedVariables false
theorem run_one_s (b : UInt8) (wr : World) (x : Int) (hx : x = (b.toNat : Int)) :
    (convert 22 9 (.slice (some ⟨wr.heap.size, 0, none⟩) 1 1)).run Tryz.prog (wr.alloc (.cells #[.int .u8 x] 5)) = .ok (.string ⟨#[b]⟩) (wr.alloc (.cells #[.int .u8 x] 5)) := by
  subst hx
  exact run_convert_bytes_back (P := Tryz.prog) _ 22 9 5 ⟨wr.heap.size, 0, none⟩ 1 [b] Tryz.underlying22 Tryz.underlying5 Tryz.underlying9 (fun j hj => by
    have hj0 : j = 0 := by simpa using hj
    subst hj0
    exact one_new (w := wr) (u := .int .u8 (b.toNat : Int)) (e := 5) 0 _ rfl)
theorem byte_eq {x : Int} (h0 : 0 ≤ x) (h1 : x < 256) : x = ((UInt8.ofNat x.toNat).toNat : Int) := by
  rw [UInt8.toNat_ofNat']
  omega
theorem one_sz (b : UInt8) : (⟨#[b]⟩ : ByteArray).size = 1 := rfl
set_option maxRecDepth 4000 in
set_option maxHeartbeats 1000000 in
theorem pickS_lit (w : World) {cb : Nat} (hC : Cur w cb) (xs : List ByteArray) (n : Nat) (hl : xs.length = n) (h0 : 0 < n) (h1 : n ≤ 256) (hb : ∀ s ∈ xs, s.size ≤ 32) :
    Calls Tryz.prog 77 #[.pointer (some ⟨cb, 0, none⟩), .slice (some ⟨w.heap.size, 0, none⟩) n n] (w.alloc (.cells (xs.map Value.string).toArray 9)) fun e w' => ∃ s : ByteArray, e = .returned (.string s) ∧ s.size ≤ 32 ∧ Cur w' cb ∧ Tch cb (cb + 1) w w' := by
  have bL : Below w.heap.size w (w.alloc (.cells (xs.map Value.string).toArray 9)) := (Below.refl _ _).alloc (Nat.le_refl _) _
  have X := Blk.new w 9 (xs.map Value.string).toArray
  have hcb := hC.lt
  have C1 := hC.below bL
  have T1 : Tch cb (cb + 1) w (w.alloc (.cells (xs.map Value.string).toArray 9)) := Tch.of_below bL
  generalize w.alloc (.cells (xs.map Value.string).toArray 9) = w1 at *
  go_enter Tryz.func77, Tryz.ntmps77
  go_wp2_with fail
  refine (l1Below_all w1 C1 n (by omega)).mono ?_
  rintro e w2 ⟨q, rfl, hq0, hq1, C2, t2⟩
  obtain ⟨k, rfl⟩ : ∃ k : Nat, q = (k : Int) := ⟨q.toNat, by omega⟩
  have hk : k < xs.length := by omega
  obtain ⟨S, hS⟩ : ∃ S, xs[k] = S := ⟨_, rfl⟩
  have hSb := hb S (by rw [← hS]; exact List.getElem_mem hk)
  have hcell : w2.cell? ⟨w.heap.size, k, none⟩ = some (.string S) := by
    rw [(X.tch t2 (by omega)).cell, List.getElem?_toArray, List.getElem?_map, List.getElem?_eq_getElem hk, hS]
    rfl
  have T := T1.trans t2
  clear hS X C1 T1 t2
  go_wp2
  go_ret
  exact ⟨_, rfl, hSb, C2, T⟩
set_option maxRecDepth 4000 in
set_option maxHeartbeats 4000000 in
theorem l1Spoil_any (w : World) {cb : Nat} (hC : Cur w cb) (s : ByteArray) (hs : s.size ≤ 1000000) :
    Calls Tryz.prog 76 #[.pointer (some ⟨cb, 0, none⟩), .string s] w fun e w' => ∃ T : ByteArray, e = .returned (.string T) ∧ T.size ≤ s.size + 3 ∧ Cur w' cb ∧ Tch cb (cb + 1) w w' := by
  by_cases h0 : s.size = 0
  · have hi : ((s.size : Int) == 0) = true := by simp [h0]
    go_enter Tryz.func76, Tryz.ntmps76
    go_wp2_with fail
    refine (l1Text_any w hC 3 (by omega)).mono ?_
    rintro e w1 ⟨T, rfl, hT, C1, t1⟩
    have hT2 : T.size ≤ s.size + 3 := by omega
    clear hi
    go_wp2
    go_ret
    exact ⟨_, rfl, hT2, C1, t1⟩
  · have hi : ((s.size : Int) == 0) = false := by simp [h0]
    go_enter Tryz.func76, Tryz.ntmps76
    go_wp2_with fail
    refine (l1Below_all w hC s.size (by omega)).mono ?_
    rintro e w1 ⟨q, rfl, hq0, hq1, C1, t1⟩
    obtain ⟨k, rfl⟩ : ∃ k : Nat, q = (k : Int) := ⟨q.toNat, by omega⟩
    clear hi
    go_wp2_with fail
    refine (l1Below_all w1 C1 4 (by omega)).mono ?_
    rintro e w2 ⟨q, rfl, hr0, hr1, C2, t2⟩
    have T2 := t1.trans t2
    have hk : k < s.size := by omega
    have hkl : (k : Int) ≤ s.size := by omega
    have hk1 : (k : Int) + 1 ≤ s.size := by omega
    have hk0 : (0 : Int) ≤ (k : Int) + 1 := by omega
    have hwk : IntKind.i64.wrap ((k : Int) + 1) = (k : Int) + 1 := IntWalk.i64_in _ (by omega)
    have hkn : ((k : Int) + 1).toNat = k + 1 := by omega
    have hm1 : ¬ 9223372036854775807 < min k s.size + 1 := by omega
    have hm2 : ¬ 9223372036854775807 < min k s.size + 1 + (s.size - k) := by omega
    have hm3 : ¬ 9223372036854775807 < min k s.size + 1 + (s.size - (k + 1)) := by omega
    clear t1 t2 C1
    by_cases h1 : q = 0
    · subst h1
      go_wp2_with fail
      refine wp_region_kept (by kernel_rfl) (by kernel_rfl) ?_
      repeat (go_big_quiet_step (fail))
      refine wpQuiet_nil ?_
      intro _ hw'
      obtain ⟨z3, rfl⟩ := hw'
      have C3 := C2.below z3.be
      have T3 := T2.below z3.be
      go_wp2
      go_ret
      exact ⟨_, rfl, by simp [ByteArray.size_append]; omega, C3, T3⟩
    · by_cases h2 : q = 1
      · subst h2
        have CD : Cur w2.drew cb := C2.below ((Below.refl _ _).drew)
        have TD := T2.drew
        go_wp2_with fail
        go_region_law (first
          | (go_simp; go_at_call 116; refine (l1Byte_any _ CD).mono ?_; rintro e w4 ⟨x, rfl, hx0, hx1, C4, t4⟩; have hu : IntKind.u8.wrap x = x := (by rw [IntKind.wrap_u8]; omega); have hc := run_one_s (UInt8.ofNat x.toNat) w4 x (byte_eq hx0 hx1)))
        all_goals
          have C5 := C4.al (.cells #[.int .u8 x] 5)
          have T5 := (TD.trans t4).alloc (.cells #[.int .u8 x] 5)
          go_wp2
          go_ret
          exact ⟨_, rfl, by rw [ByteArray.size_append, ByteArray.size_append, ByteArray.size_extract, ByteArray.size_extract, one_sz]; omega, C5, T5⟩
      · by_cases h3 : q = 2
        · subst h3
          go_wp2
          go_ret
          exact ⟨_, rfl, by simp; omega, C2, T2⟩
        · have CD : Cur w2.drew cb := C2.below ((Below.refl _ _).drew)
          have TD := T2.drew
          have hk00 : (0 : Int) ≤ (k : Int) := by omega
          have hkls : (k : Int) < s.size := by omega
          go_wp2_with fail
          go_region_law (first
            | (go_simp; go_at_call 75; refine (l1Below_all _ CD 255 (by omega)).mono ?_; rintro e w4 ⟨x, rfl, hx0, hx1, C4, t4⟩; have hwx : IntKind.i64.wrap (1 + x) = 1 + x := IntWalk.i64_in _ (by omega); obtain ⟨y, hy, hy0, hy1⟩ : ∃ y, IntKind.u8.wrap (bits .xor .i64 (IntKind.i64.wrap (s[k].toNat : Int)) (1 + x)) = y ∧ 0 ≤ y ∧ y < 256 := ⟨_, rfl, by rw [IntKind.wrap_u8]; omega, by rw [IntKind.wrap_u8]; omega⟩; have hc := run_one_s (UInt8.ofNat y.toNat) w4 y (byte_eq hy0 hy1)))
          all_goals
            have C5 := C4.al (.cells #[.int .u8 y] 5)
            have T5 := (TD.trans t4).alloc (.cells #[.int .u8 y] 5)
            go_wp2
            go_ret
            exact ⟨_, rfl, by rw [ByteArray.size_append, ByteArray.size_append, ByteArray.size_extract, ByteArray.size_extract, one_sz]; omega, C5, T5⟩
end Go.Proofs.YtljggmgijadjaaaGreatDoor
