/- Letters and words drawn. -/
import Derived.Test.YtljggmgijadjaaaDoorDrwT
import Derived.Test.YtljggmgijadjaaaDoorIs
namespace Go.Proofs.YtljggmgijadjaaaDoor
open Go.RowKit Go.ChangeShapes Go.WideShapes Go.ChangeAt Go.Deep
set_option linter.unusedVariables false
set_option maxRecDepth 4000 in
set_option maxHeartbeats 2000000 in
theorem l2Draw_any (w : World) {cb : Nat} (hC : Cur w cb) :
    Calls Tryd.prog 54 #[.pointer (some ⟨cb, 0, none⟩)] w fun e w' => ∃ q : Int, e = .returned (.int .i64 q) ∧ -1 ≤ q ∧ q ≤ 100 ∧ Cur w' cb ∧ Tch cb (cb + 1) w w' := by
  go_enter Tryd.func54, Tryd.ntmps54
  go_wp2_with fail
  refine (l1Once_any w hC 14 (by omega) (by omega)).mono ?_
  rintro e w1 ⟨b, rfl, C1, t1⟩
  cases b
  · go_wp2_with fail
    refine (pick_lit w1 C1 [0, 0, 0, 1, 2, 2, 3, 4, 6, 7] 10 rfl (by omega) (by omega)).mono ?_
    rintro e w2 ⟨x, hx, rfl, C2, t2⟩
    have hb : -1 ≤ x ∧ x ≤ 100 := by
      simp at hx
      omega
    have T := t1.trans t2
    clear hx t1 t2
    go_wp2
    go_ret
    exact ⟨_, rfl, hb.1, hb.2, C2, T⟩
  · go_wp2_with fail
    refine (pick_lit w1 C1 [-1, 9, 8, 100] 4 rfl (by omega) (by omega)).mono ?_
    rintro e w2 ⟨x, hx, rfl, C2, t2⟩
    have hb : -1 ≤ x ∧ x ≤ 100 := by
      simp at hx
      omega
    have T := t1.trans t2
    clear hx t1 t2
    go_wp2
    go_ret
    exact ⟨_, rfl, hb.1, hb.2, C2, T⟩
set_option maxRecDepth 4000 in
set_option maxHeartbeats 4000000 in
theorem l2Word_any (w : World) {cb : Nat} (hC : Cur w cb) (most : Nat) (hm : most ≤ 100) :
    Calls Tryd.prog 60 #[.pointer (some ⟨cb, 0, none⟩), .int .i64 most] w fun e w' => ∃ A n c l, e = .returned (.slice A n c) ∧ n ≤ most ∧ l.length = n ∧ w'.ownsRow w.heap.size 3 1 (.slice A n c) n (List.map iv l) ∧ Cur w' cb ∧ Tch cb (cb + 1) w w' := by
  have hcb := hC.lt
  have b0 : Below w.heap.size w (w.alloc (.cells #[] 3)) := (Below.refl _ _).alloc (Nat.le_refl _) _
  have C0 := hC.below b0
  have T0 : Tch cb (cb + 1) w (w.alloc (.cells #[] 3)) := Tch.of_below b0
  have o0 : (w.alloc (.cells #[] 3)).ownsRow w.heap.size 3 1 (.slice (some ⟨w.heap.size, 0, none⟩) 0 0) ([] : List Int).length (([] : List Int).map iv) := World.ownsRow_made _ _ _ (Nat.le_refl _) (by simp [maxLen]) (by simp)
  have hwr : IntKind.i64.wrap ((most : Int) + 1) = (most : Int) + 1 := IntWalk.i64_in _ (by omega)
  go_enter Tryd.func60, Tryd.ntmps60
  go_wp2_with fail
  generalize w.alloc (.cells #[] 3) = w0 at *
  refine (l1Below_all w0 C0 ((most : Int) + 1) (by omega)).mono ?_
  rintro e w2 ⟨q, rfl, hq0, hq1, C2, t2⟩
  obtain ⟨p, rfl, hp⟩ : ∃ p : Nat, q = (p : Int) ∧ p ≤ most := ⟨q.toNat, by omega, by omega⟩
  have T2 := T0.trans t2
  have o2 := own_tch o0 t2 hcb
  clear t2 T0 o0 C0 hwr b0
  go_wp2
  go_loopw [5, 6] (fun v i wr => ∃ (p : Nat) (acc : List Int), i = .int .i64 p ∧ acc.length + p ≤ most ∧ wr.ownsRow w.heap.size 3 1 v acc.length (acc.map iv) ∧ Cur wr cb ∧ Tch cb (cb + 1) w wr) (fun _ i _ => (intOf i).toNat)
  case atStart => exact ⟨p, [], rfl, by simpa using hp, o2, C2, T2⟩
  case round =>
    clear o2 C2 T2
    obtain ⟨p, acc, rfl, hp, hown, CR, T⟩ := hrel
    have hz := T.size
    obtain ⟨A1, d1, rfl, _⟩ := own_form hown
    rcases Nat.eq_zero_or_pos p with rfl | hp0
    · have hpos : ¬ (0 : Int) < ((0 : Nat) : Int) := by omega
      have hal : acc.length ≤ most := by omega
      go_wp2
      go_ret
      exact ⟨A1, acc.length, d1, rfl, hal, acc, rfl, hown, CR, T⟩
    · obtain ⟨r, rfl⟩ : ∃ r, p = r + 1 := ⟨p - 1, by omega⟩
      have hpos : (0 : Int) < ((r + 1 : Nat) : Int) := by omega
      have hw1 : IntKind.i64.wrap (((r + 1 : Nat) : Int) - 1) = (r : Int) := by rw [IntKind.wrap_i64]; omega
      go_wp2_with fail
      refine (l2Draw_any wr CR).mono ?_
      rintro e w5 ⟨x, rfl, hx0, hx1, C5, t5⟩
      have o5 := own_tch hown t5 hcb
      have T5 := T.trans t5
      have hz5 := T5.size
      have q1 : Small (acc.length + 1) := small_of (by omega)
      clear hown CR T hz t5
      have o8 := o5.alloc (.cells #[Value.int .i64 x] 3)
      have T8 := T5.alloc (.cells #[Value.int .i64 x] 3)
      have C8 := C5.al (.cells #[Value.int .i64 x] 3)
      go_wp2_with (at_builtin; refine ap_plain _ app_int (by decide) w.heap.size (.tmp 16) (.tmp 19) rfl rfl _ _ _ rfl o8 _ _ 1 1 _ rfl (reads_new _ rfl) (one_cell rfl) q1 (Nat.le_trans hz5 (by simp)) ?_; intro v7 w7 hown7 hg7 hat7; clear hat7)
      have t7 := T8.grown2 hg7 (fun g hg => .inr (ownBlock_some o8 hg).1)
      have C7 := C8.grown o8 hcb hg7
      clear hg7
      have o7 : w7.ownsRow w.heap.size 3 1 v7 (acc ++ [x]).length ((acc ++ [x]).map iv) := by
        rw [List.map_append, List.length_append]
        exact hown7
      go_roundw
      case rel => exact ⟨r, acc ++ [x], by go_num, by simp; omega, o7, C7, t7⟩
      case measure => simp [intOf] <;> omega
set_option maxRecDepth 4000 in
set_option maxHeartbeats 1000000 in
theorem drawLetter_any (w : World) {A : Option Addr} {n c : Nat} (h : CRaw w A n) :
    Calls Tryd.prog 12 #[.slice A n c] w fun e w' => ∃ q : Int, e = .returned (.int .i64 q) ∧ -1 ≤ q ∧ q ≤ 100 ∧ Below w.heap.size w w' := by
  go_enter Tryd.func12, Tryd.ntmps12
  go_wp2_with fail
  refine (new_cur w h).mono ?_
  rintro e w1 ⟨cb, rfl, hlo, C1, b1⟩
  go_wp2_with fail
  refine (l2Draw_any w1 C1).mono ?_
  rintro e w2 ⟨q, rfl, hq0, hq1, C2, t2⟩
  have B := below_tch b1 t2 hlo
  go_wp2
  go_ret
  exact ⟨_, rfl, hq0, hq1, B⟩
theorem own_ird {w : World} {base : Nat} {e : TypeId} {A : Option Addr} {n c : Nat} {l : List Int} (hl : l.length = n) (hn : n ≤ 2000000) (h : w.ownsRow base e 1 (.slice A n c) n (l.map iv)) : IRd w A n l := ⟨hl, Reads.of_own h, hn⟩
set_option maxRecDepth 4000 in
set_option maxHeartbeats 2000000 in
theorem drawWords_any (w : World) {A : Option Addr} {n c : Nat} (h : CRaw w A n) :
    Calls Tryd.prog 20 #[.slice A n c] w fun e w' => ∃ A1 n1 c1 A2 n2 c2, e = .returned (.tuple #[.slice A1 n1 c1, .slice A2 n2 c2]) ∧ ∃ l1 l2, IRd w' A1 n1 l1 ∧ IRd w' A2 n2 l2 ∧ Below w.heap.size w w' := by
  go_enter Tryd.func20, Tryd.ntmps20
  go_wp2_with fail
  refine (new_cur w h).mono ?_
  rintro e w1 ⟨cb, rfl, hlo, C1, b1⟩
  have hcb := C1.lt
  go_wp2_with fail
  refine (l2Word_any w1 C1 4 (by omega)).mono ?_
  rintro e w2 ⟨A1, n1, c1, l1, rfl, hn1, hl1, o1, C2, t2⟩
  go_wp2_with fail
  refine (l1Once_any w2 C2 4 (by omega) (by omega)).mono ?_
  rintro e w3 ⟨b, rfl, C3, t3⟩
  replace o1 := own_tch o1 t3 hcb
  have B3 := below_tch (below_tch b1 t2 hlo) t3 hlo
  have hz3 : w1.heap.size ≤ w3.heap.size := Nat.le_trans t2.size t3.size
  clear t2 t3 C1 C2 b1
  cases b
  · go_wp2_with fail
    refine (l2Word_any w3 C3 4 (by omega)).mono ?_
    rintro e w4 ⟨A2, n2, c2, l2, rfl, hn2, hl2, o2, C4, t4⟩
    have r1 := own_ird hl1 (by omega) (own_tch o1 t4 hcb)
    have r2 := own_ird hl2 (by omega) o2
    have B4 := below_tch B3 t4 hlo
    clear o1 o2 C3 C4 t4 hl1 hl2
    go_wp2
    refine bodyPost_ret (v := .tuple #[.slice A1 n1 c1, .slice A2 n2 c2]) ?_ rfl ?_
    · simp [results, Tryd.results20, go_sem]
    · exact ⟨_, _, _, _, _, _, rfl, l1, l2, r1, r2, B4⟩
  · have oA := own_made (w := w3) (base := w3.heap.size) 3 1 (Nat.le_refl _)
    have rA := Reads.of_own (o1.alloc (.cells #[] 3))
    have hA : Below w3.heap.size w3 (w3.alloc (.cells #[] 3)) := (Below.refl _ _).alloc (Nat.le_refl _) _
    have o1' := own_below o1 hA (Nat.le_refl _)
    have q1 : Small (0 + n1) := small_of (by omega)
    have sA : w3.heap.size ≤ (w3.alloc (.cells #[] 3)).heap.size := by simp
    go_wp2_with (at_builtin; refine fr_plain _ app_int (by decide) w3.heap.size (.tmp 13) (.tmp 14) rfl rfl _ rfl oA _ _ _ _ _ rfl rA (iv_one _) q1 sA ?_; intro v4 w4 O4 hb40; obtain ⟨B4, d4, rfl, _⟩ := own_form O4)
    have r2 := own_ird hl1 (by omega) O4
    have r1 := own_ird hl1 (by omega) (own_below o1' hb40 (Nat.le_refl _))
    have BB := below_then (below_then B3 hA) hb40
    clear o1 o1' oA rA hA O4 hb40 C3 hl1
    refine bodyPost_ret (v := .tuple #[.slice A1 n1 c1, .slice B4 n1 d4]) ?_ rfl ?_
    · simp [results, Tryd.results20, go_sem]
    · exact ⟨_, _, _, _, _, _, rfl, l1, l1, r1, r2, BB⟩
end Go.Proofs.YtljggmgijadjaaaDoor
