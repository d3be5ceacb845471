/- Steps and changes written and read again: markStepS, heldStepS, markChangeS, heldChangeS. -/
import Derived.Test.YtcnbgpelfkbmpaaDoorChg
namespace Go.Proofs.YtcnbgpelfkbmpaaDoor
open Go.RowKit Go.ChangeShapes Go.WideShapes Go.ChangeAt Go.Deep
set_option linter.unusedVariables false
/-- Whether k is a multiple of three. -/
def m3 (k : Nat) : Bool := k % 3 == 0
theorem m3_int (k : Nat) : ((k : Int) % 3 == 0) = m3 k := by
  unfold m3
  rw [Bool.eq_iff_iff]
  simp
  omega
def smk (k i : Nat) : List Value := [.int .i64 ((k + i * 2 : Nat) : Int), .bool (m3 (k + i * 2 + 1))]
def smarks (k n : Nat) : List Value := (List.range n).flatMap (smk k)
theorem smk_len (k i : Nat) : (smk k i).length = 2 := rfl
theorem smarks_len (k n : Nat) : (smarks k n).length = n * 2 := by
  rw [smarks, flatMap_len (smk k) 2 (smk_len k), List.length_range]
theorem range_get {n i : Nat} (h : i < n) : (List.range n)[i]? = some i := by simp [h]
set_option maxRecDepth 4000 in
set_option maxHeartbeats 1000000 in
theorem markStepS_any (v : Value) (n k base : Nat) (xs : List Value) (w : World) (hn : n ≤ 2000000) (hk : k ≤ 100000000) (hbase : base ≤ w.heap.size) (h : w.ownsRow base 113 2 v n xs) :
    Calls Tryd.prog 111 #[v, .int .i64 k] w fun e w' => e = .returned (.int .i64 ((k + n * 2 : Nat) : Int)) ∧ w'.ownsRow base 113 2 v n (smarks k n) ∧ w.grownBy w' v.ownBlock := by
  have hxs : xs.length = n * 2 := h.1
  have hm := smarks_len k n
  rcases id h.2 with ⟨rfl, rfl⟩ | ⟨g, cap, cur, rfl, _, _, _⟩
  · go_enter Tryd.func111, Tryd.ntmps111
    go_wp2
    go_loop [1, 5] (fun u i => u = .int .i64 k ∧ i = .int .i64 0) (fun _ _ => 0)
    case atStart => exact ⟨rfl, rfl⟩
    case round =>
      obtain ⟨rfl, rfl⟩ := hrel
      go_wp2
      go_ret
      exact ⟨rfl, by simpa [smarks] using (show w.ownsRow base 113 2 (.slice none 0 0) 0 [] from ⟨by simp, .inl ⟨rfl, rfl⟩⟩), grown_refl _ _⟩
  · go_enter Tryd.func111, Tryd.ntmps111
    go_wp2
    go_loopw [1, 5] (fun u i wr => ∃ q : Nat, q ≤ n ∧ u = .int .i64 ((k + q * 2 : Nat) : Int) ∧ i = .int .i64 q ∧ wr.ownsRow base 113 2 (.slice (some ⟨g, 0, none⟩) n cap) n ((smarks k n).take (q * 2) ++ xs.drop (q * 2)) ∧ w.grownBy wr (some g)) (fun _ i _ => n - (intOf i).toNat)
    case atStart => exact ⟨0, Nat.zero_le _, by simp, rfl, by simpa using h, grown_refl _ _⟩
    case round =>
      obtain ⟨q, hq, rfl, rfl, hown, hgr⟩ := hrel
      by_cases hlt : q < n
      · have q0 : (smarks k n)[q * 2]? = _ := flatMap_get (smk_len k) (j := 0) (range_get hlt) rfl
        have q1 : (smarks k n)[q * 2 + 1]? = _ := flatMap_get (smk_len k) (j := 1) (range_get hlt) rfl
        have HS := Lib.hid (own2 (L := xs) hown (by omega) q0 q1)
        have f0 := hown.frozenAt (q * 2)
        have f1 := hown.frozenAt (q * 2 + 1)
        obtain ⟨z0, g0⟩ := own_some hown (q * 2) (by omega)
        obtain ⟨z1, g1⟩ := own_some hown (q * 2 + 1) (by omega)
        have hG := only_setCell (only_setCell hgr (p := ⟨g, q * 2, none⟩) (.inl rfl) (.int .i64 ((k + q * 2 : Nat) : Int))) (p := ⟨g, q * 2 + 1, none⟩) (.inl rfl) (.bool (m3 (k + q * 2 + 1)))
        clear q0 q1 hown hgr hm hxs h
        have hm3 := m3_int (k + q * 2 + 1)
        obtain ⟨t, ht⟩ : ∃ t, m3 (k + q * 2 + 1) = t := ⟨_, rfl⟩
        rw [ht] at HS hG hm3
        clear ht
        obtain ⟨u, hu⟩ : ∃ u : Nat, k + q * 2 = u := ⟨_, rfl⟩
        have hu2 : u ≤ 104000000 := by omega
        rw [hu] at HS hG hm3 ⊢
        have hm4 : (((u : Int) + 1) % 3 == 0) = t := by rw [← hm3]; simp
        have HM := Lib.hid hm4
        have HU := Lib.hid hu
        clear hu hm3 hm4
        go_wp2
        go_roundw
        case rel =>
          refine ⟨q + 1, by omega, ?_, by go_num, ?_, ?_⟩
          · have := HU.out
            rw [show k + (q + 1) * 2 = u + 1 + 1 by omega]
            go_num
          · rw [HM.out]; exact HS.out
          · rw [HM.out]; exact hG
        case measure => simp [intOf]; omega
      · obtain rfl : q = n := by omega
        rw [List.take_of_length_le (by omega), List.drop_of_length_le (by omega), List.append_nil] at hown
        clear hm hxs h
        go_wp2
        go_ret
        exact ⟨rfl, hown, hgr⟩
set_option maxRecDepth 4000 in
set_option maxHeartbeats 1000000 in
theorem heldStepS_any (A : Option Addr) (n c k : Nat) (w : World) (hn : n ≤ 2000000) (hk : k ≤ 100000000) (hr : Reads w w.heap.size 2 A n (smarks k n)) :
    Calls Tryd.prog 112 #[.slice A n c, .int .i64 k] w fun e w' => e = .returned (.int .i64 ((k + n * 2 : Nat) : Int)) ∧ Below w.heap.size w w' := by
  go_enter Tryd.func112, Tryd.ntmps112
  go_wp2
  go_loop [1, 5] (fun u i => ∃ q : Nat, q ≤ n ∧ u = .int .i64 ((k + q * 2 : Nat) : Int) ∧ i = .int .i64 q) (fun _ i => n - (intOf i).toNat)
  case atStart => exact ⟨0, Nat.zero_le _, by simp, rfl⟩
  case round =>
    obtain ⟨q, hq, rfl, rfl⟩ := hrel
    by_cases hlt : q < n
    · obtain ⟨b, o, rfl, hb, hc⟩ := row_at hr (by omega) (by omega)
      have q0 := hc _ _ (flatMap_get (smk_len k) (j := 0) (range_get hlt) rfl)
      have q1 := hc _ _ (flatMap_get (smk_len k) (j := 1) (range_get hlt) rfl)
      have hm3 := m3_int (k + q * 2 + 1)
      rw [← hm3, ← Nat.add_assoc] at q1
      obtain ⟨u, hu⟩ : ∃ u : Nat, k + q * 2 = u := ⟨_, rfl⟩
      have hu2 : u ≤ 104000000 := by omega
      rw [hu] at q0 q1 ⊢
      rw [Nat.add_zero] at q0
      rw [show (((u + 1 : Nat)) : Int) = (u : Int) + 1 from rfl] at q1
      have HU := Lib.hid hu
      have hnn : ((u : Int) != u) = false := by simp
      have hmm : (((u : Int) + 1) % 3 == 0) = (((u : Int) + 1) % 3 == 0) := rfl
      obtain ⟨t, ht⟩ : ∃ t, (((u : Int) + 1) % 3 == 0) = t := ⟨_, rfl⟩
      rw [ht] at q1
      have htt : (t != t) = false := by simp
      clear hc hu hm3 hmm
      go_wp2
      clear hnn
      go_round
      case rel => exact ⟨q + 1, by omega, by have := HU.out; rw [show k + (q + 1) * 2 = u + 1 + 1 by omega]; go_num, by go_num⟩
      case measure => simp [intOf]; omega
    · obtain rfl : q = n := by omega
      go_wp2
      go_ret
      exact ⟨rfl, Below.refl _ _⟩
def cmk (k i : Nat) : List Value := [.bool (m3 (k + i * 5)), .int .i64 ((k + i * 5 + 1 : Nat) : Int), .int .i64 ((k + i * 5 + 1 + 1 : Nat) : Int), .int .i64 ((k + i * 5 + 1 + 1 + 1 : Nat) : Int), .int .i64 ((k + i * 5 + 1 + 1 + 1 + 1 : Nat) : Int)]
def cmarks (k n : Nat) : List Value := (List.range n).flatMap (cmk k)
theorem cmk_len (k i : Nat) : (cmk k i).length = 5 := rfl
theorem cmarks_len (k n : Nat) : (cmarks k n).length = n * 5 := by
  rw [cmarks, flatMap_len (cmk k) 5 (cmk_len k), List.length_range]
set_option maxRecDepth 4000 in
set_option maxHeartbeats 1000000 in
theorem markChangeS_any (v : Value) (n k base : Nat) (xs : List Value) (w : World) (hn : n ≤ 2000000) (hk : k ≤ 100000000) (hbase : base ≤ w.heap.size) (h : w.ownsRow base 122 5 v n xs) :
    Calls Tryd.prog 115 #[v, .int .i64 k] w fun e w' => e = .returned (.int .i64 ((k + n * 5 : Nat) : Int)) ∧ w'.ownsRow base 122 5 v n (cmarks k n) ∧ w.grownBy w' v.ownBlock := by
  have hxs : xs.length = n * 5 := h.1
  have hm := cmarks_len k n
  rcases id h.2 with ⟨rfl, rfl⟩ | ⟨g, cap, cur, rfl, _, _, _⟩
  · go_enter Tryd.func115, Tryd.ntmps115
    go_wp2
    go_loop [1, 5] (fun u i => u = .int .i64 k ∧ i = .int .i64 0) (fun _ _ => 0)
    case atStart => exact ⟨rfl, rfl⟩
    case round =>
      obtain ⟨rfl, rfl⟩ := hrel
      go_wp2
      go_ret
      exact ⟨rfl, by simpa [cmarks] using (show w.ownsRow base 122 5 (.slice none 0 0) 0 [] from ⟨by simp, .inl ⟨rfl, rfl⟩⟩), grown_refl _ _⟩
  · go_enter Tryd.func115, Tryd.ntmps115
    go_wp2
    go_loopw [1, 5] (fun u i wr => ∃ q : Nat, q ≤ n ∧ u = .int .i64 ((k + q * 5 : Nat) : Int) ∧ i = .int .i64 q ∧ wr.ownsRow base 122 5 (.slice (some ⟨g, 0, none⟩) n cap) n ((cmarks k n).take (q * 5) ++ xs.drop (q * 5)) ∧ w.grownBy wr (some g)) (fun _ i _ => n - (intOf i).toNat)
    case atStart => exact ⟨0, Nat.zero_le _, by simp, rfl, by simpa using h, grown_refl _ _⟩
    case round =>
      obtain ⟨q, hq, rfl, rfl, hown, hgr⟩ := hrel
      by_cases hlt : q < n
      · have q0 : (cmarks k n)[q * 5]? = _ := flatMap_get (cmk_len k) (j := 0) (range_get hlt) rfl
        have q1 : (cmarks k n)[q * 5 + 1]? = _ := flatMap_get (cmk_len k) (j := 1) (range_get hlt) rfl
        have q2 : (cmarks k n)[q * 5 + 2]? = _ := flatMap_get (cmk_len k) (j := 2) (range_get hlt) rfl
        have q3 : (cmarks k n)[q * 5 + 3]? = _ := flatMap_get (cmk_len k) (j := 3) (range_get hlt) rfl
        have q4 : (cmarks k n)[q * 5 + 4]? = _ := flatMap_get (cmk_len k) (j := 4) (range_get hlt) rfl
        have HS := Lib.hid (own5 (L := xs) hown (by omega) q0 q1 q2 q3 q4)
        have f0 := hown.frozenAt (q * 5)
        have f1 := hown.frozenAt (q * 5 + 1)
        have f2 := hown.frozenAt (q * 5 + 2)
        have f3 := hown.frozenAt (q * 5 + 3)
        have f4 := hown.frozenAt (q * 5 + 4)
        obtain ⟨z0, g0⟩ := own_some hown (q * 5) (by omega)
        obtain ⟨z1, g1⟩ := own_some hown (q * 5 + 1) (by omega)
        obtain ⟨z2, g2⟩ := own_some hown (q * 5 + 2) (by omega)
        obtain ⟨z3, g3⟩ := own_some hown (q * 5 + 3) (by omega)
        obtain ⟨z4, g4⟩ := own_some hown (q * 5 + 4) (by omega)
        have hG := only_setCell (only_setCell (only_setCell (only_setCell (only_setCell hgr (p := ⟨g, q * 5, none⟩) (.inl rfl) (.bool (m3 (k + q * 5)))) (p := ⟨g, q * 5 + 1, none⟩) (.inl rfl) (.int .i64 ((k + q * 5 + 1 : Nat) : Int))) (p := ⟨g, q * 5 + 2, none⟩) (.inl rfl) (.int .i64 ((k + q * 5 + 1 + 1 : Nat) : Int))) (p := ⟨g, q * 5 + 3, none⟩) (.inl rfl) (.int .i64 ((k + q * 5 + 1 + 1 + 1 : Nat) : Int))) (p := ⟨g, q * 5 + 4, none⟩) (.inl rfl) (.int .i64 ((k + q * 5 + 1 + 1 + 1 + 1 : Nat) : Int))
        clear q0 q1 q2 q3 q4 hown hgr hm hxs h
        have hm3 := m3_int (k + q * 5)
        obtain ⟨t, ht⟩ : ∃ t, m3 (k + q * 5) = t := ⟨_, rfl⟩
        rw [ht] at HS hG hm3
        clear ht
        obtain ⟨u, hu⟩ : ∃ u : Nat, k + q * 5 = u := ⟨_, rfl⟩
        have hu2 : u ≤ 110000000 := by omega
        rw [hu] at HS hG hm3 ⊢
        rw [show (((u + 1 + 1 + 1 + 1 : Nat)) : Int) = (u : Int) + 1 + 1 + 1 + 1 from rfl, show (((u + 1 + 1 + 1 : Nat)) : Int) = (u : Int) + 1 + 1 + 1 from rfl, show (((u + 1 + 1 : Nat)) : Int) = (u : Int) + 1 + 1 from rfl, show (((u + 1 : Nat)) : Int) = (u : Int) + 1 from rfl] at HS hG
        have HM := Lib.hid hm3
        have HU := Lib.hid hu
        clear hu hm3
        go_wp2
        go_roundw
        case rel =>
          refine ⟨q + 1, by omega, ?_, by go_num, ?_, ?_⟩
          · have := HU.out
            rw [show k + (q + 1) * 5 = u + 1 + 1 + 1 + 1 + 1 by omega]
            go_num
          · rw [HM.out]; exact HS.out
          · rw [HM.out]; exact hG
        case measure => simp [intOf]; omega
      · obtain rfl : q = n := by omega
        rw [List.take_of_length_le (by omega), List.drop_of_length_le (by omega), List.append_nil] at hown
        clear hm hxs h
        go_wp2
        go_ret
        exact ⟨rfl, hown, hgr⟩
set_option maxRecDepth 4000 in
set_option maxHeartbeats 1000000 in
theorem heldChangeS_any (A : Option Addr) (n c k : Nat) (w : World) (hn : n ≤ 2000000) (hk : k ≤ 100000000) (hr : Reads w w.heap.size 5 A n (cmarks k n)) :
    Calls Tryd.prog 116 #[.slice A n c, .int .i64 k] w fun e w' => e = .returned (.int .i64 ((k + n * 5 : Nat) : Int)) ∧ Below w.heap.size w w' := by
  go_enter Tryd.func116, Tryd.ntmps116
  go_wp2
  go_loop [1, 5] (fun u i => ∃ q : Nat, q ≤ n ∧ u = .int .i64 ((k + q * 5 : Nat) : Int) ∧ i = .int .i64 q) (fun _ i => n - (intOf i).toNat)
  case atStart => exact ⟨0, Nat.zero_le _, by simp, rfl⟩
  case round =>
    obtain ⟨q, hq, rfl, rfl⟩ := hrel
    by_cases hlt : q < n
    · obtain ⟨b, o, rfl, hb, hc⟩ := row_at hr (by omega) (by omega)
      have q0 := hc _ _ (flatMap_get (cmk_len k) (j := 0) (range_get hlt) rfl)
      have q1 := hc _ _ (flatMap_get (cmk_len k) (j := 1) (range_get hlt) rfl)
      have q2 := hc _ _ (flatMap_get (cmk_len k) (j := 2) (range_get hlt) rfl)
      have q3 := hc _ _ (flatMap_get (cmk_len k) (j := 3) (range_get hlt) rfl)
      have q4 := hc _ _ (flatMap_get (cmk_len k) (j := 4) (range_get hlt) rfl)
      have hm3 := m3_int (k + q * 5)
      rw [Nat.add_zero, ← hm3] at q0
      rw [← Nat.add_assoc] at q1 q2 q3 q4
      obtain ⟨u, hu⟩ : ∃ u : Nat, k + q * 5 = u := ⟨_, rfl⟩
      have hu2 : u ≤ 110000000 := by omega
      rw [hu] at q0 q1 q2 q3 q4 ⊢
      rw [show (((u + 1 : Nat)) : Int) = (u : Int) + 1 from rfl] at q1
      rw [show (((u + 1 + 1 : Nat)) : Int) = (u : Int) + 1 + 1 from rfl] at q2
      rw [show (((u + 1 + 1 + 1 : Nat)) : Int) = (u : Int) + 1 + 1 + 1 from rfl] at q3
      rw [show (((u + 1 + 1 + 1 + 1 : Nat)) : Int) = (u : Int) + 1 + 1 + 1 + 1 from rfl] at q4
      have HU := Lib.hid hu
      obtain ⟨t, ht⟩ : ∃ t, ((u : Int) % 3 == 0) = t := ⟨_, rfl⟩
      rw [ht] at q0
      have htt : (t != t) = false := by simp
      clear hc hu hm3
      go_wp2
      go_round
      case rel => exact ⟨q + 1, by omega, by have := HU.out; rw [show k + (q + 1) * 5 = u + 1 + 1 + 1 + 1 + 1 by omega]; go_num, by go_num⟩
      case measure => simp [intOf]; omega
    · obtain rfl : q = n := by omega
      go_wp2
      go_ret
      exact ⟨rfl, Below.refl _ _⟩
end Go.Proofs.YtcnbgpelfkbmpaaDoor
