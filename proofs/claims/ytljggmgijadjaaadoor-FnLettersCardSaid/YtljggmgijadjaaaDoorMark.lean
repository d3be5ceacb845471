/- Slices of ints written and read again: markIntS, heldIntS; what a call leaves of other blocks. -/
import Derived.Test.YtljggmgijadjaaaDoorInts
namespace Go.Proofs.YtljggmgijadjaaaDoor
open Go.RowKit Go.ChangeShapes Go.WideShapes Go.ChangeAt Go.Deep
set_option linter.unusedVariables false

/-- The numbers that mark n cells, from k on. -/
def marks (k n : Nat) : List Int := (List.range n).map fun i => ((k + i : Nat) : Int)
theorem marks_len (k n : Nat) : (marks k n).length = n := by simp [marks]
theorem marks_at (k n i : Nat) (h : i < n) : (marks k n)[i]'(by rw [marks_len]; exact h) = ((k + i : Nat) : Int) := by simp [marks]
theorem ownBlock_some {w : World} {base : Nat} {e : TypeId} {size n : Nat} {v : Value} {xs : List Value} (h : w.ownsRow base e size v n xs) {g : Nat} (hg : v.ownBlock = some g) : base ≤ g ∧ g < w.heap.size := by
  rcases h.2 with ⟨rfl, rfl⟩ | ⟨g', cap, cur, rfl, hb1, hgg, rest⟩
  · simp [Value.ownBlock] at hg
  · have hlt := (Array.getElem?_eq_some_iff.1 hgg).1
    simp [Value.ownBlock] at hg
    omega
/-- An owned row, seen in a world where its block is as it was. -/
theorem own_same {w w' : World} {base : Nat} {e : TypeId} {size n : Nat} {v : Value} {xs : List Value} (h : w.ownsRow base e size v n xs) (hb : ∀ g, v.ownBlock = some g → w'.heap[g]? = w.heap[g]?) : w'.ownsRow base e size v n xs := by
  refine ⟨h.1, ?_⟩
  rcases h.2 with hn | ⟨g, cap, cur, rfl, hb1, hgg, rest⟩
  · exact .inl hn
  · exact .inr ⟨g, cap, cur, rfl, hb1, by rw [hb g (by simp [Value.ownBlock])]; exact hgg, rest⟩
theorem own_some1 {w : World} {base g n cap size : Nat} {e : TypeId} {xs : List Value} (h : w.ownsRow base e size (.slice (some ⟨g, 0, none⟩) n cap) n xs) (j : Nat) (hj : j < n * size) : ∃ z, w.cell? ⟨g, j, none⟩ = some z := by
  have hl := h.1
  exact ⟨xs[j]'(by omega), by rw [h.cellAt j hj, List.getElem?_eq_getElem]⟩
theorem grown_refl (w : World) (row : Option Nat) : w.grownBy w row := ⟨rfl, rfl, rfl, Nat.le_refl _, fun _ _ _ => rfl⟩
set_option maxRecDepth 4000 in
set_option maxHeartbeats 400000 in
theorem markIntS_any (v : Value) (n k base : Nat) (xs : List Value) (w : World) (hn : n ≤ 2000000) (hk : k ≤ 100000000) (hbase : base ≤ w.heap.size) (h : w.ownsRow base 3 1 v n xs) :
    Calls Tryd.prog 50 #[v, .int .i64 k] w fun e w' => e = .returned (.int .i64 ((k + n : Nat) : Int)) ∧ w'.ownsRow base 3 1 v n ((marks k n).map iv) ∧ w.grownBy w' v.ownBlock := by
  have hxs : xs.length = n := by simpa using h.1
  have hml : ((marks k n).map iv).length = n := by simp [marks_len]
  rcases id h.2 with ⟨rfl, rfl⟩ | ⟨g, cap, cur, rfl, _, _, _⟩
  · go_enter Tryd.func50, Tryd.ntmps50
    go_wp2
    go_loop [1, 5] (fun u i => u = .int .i64 k ∧ i = .int .i64 0) (fun _ _ => 0)
    case atStart => exact ⟨rfl, rfl⟩
    case round =>
      obtain ⟨rfl, rfl⟩ := hrel
      go_wp2
      go_ret
      exact ⟨rfl, by simpa [marks] using (show w.ownsRow base 3 1 (.slice none 0 0) 0 [] from ⟨by simp, .inl ⟨rfl, rfl⟩⟩), grown_refl _ _⟩
  · have hm : ((marks k n).map iv).length = n := hml
    clear hml
    go_enter Tryd.func50, Tryd.ntmps50
    go_wp2
    go_loopw [1, 5] (fun u i wr => ∃ q : Nat, q ≤ n ∧ u = .int .i64 ((k : Int) + q) ∧ i = .int .i64 q ∧ wr.ownsRow base 3 1 (.slice (some ⟨g, 0, none⟩) n cap) n (((marks k n).map iv).take q ++ xs.drop q) ∧ w.grownBy wr (some g)) (fun _ i _ => n - (intOf i).toNat)
    case atStart => exact ⟨0, Nat.zero_le _, by simp, rfl, by simpa using h, grown_refl _ _⟩
    case round =>
      obtain ⟨q, hq, rfl, rfl, hown, hgr⟩ := hrel
      by_cases hlt : q < n
      · have hst := (hown.stored q (iv ((k : Int) + q))).1
        rw [set_take xs _ q (iv ((k : Int) + q)) (by omega) (by omega) (by simp [marks])] at hst
        have hfz := hown.frozenAt q
        obtain ⟨z, hz⟩ := own_some1 hown q (by omega)
        have HS := Lib.hid hst
        have hG := only_setCell hgr (p := ⟨g, q, none⟩) (.inl rfl) (iv ((k : Int) + q))
        clear hst hown hgr hm hxs h
        go_wp2
        go_roundw
        case rel => exact ⟨q + 1, by omega, by go_num, by go_num, HS.out, hG⟩
        case measure => simp [intOf]; omega
      · obtain rfl : q = n := by omega
        rw [List.take_of_length_le (by omega), List.drop_of_length_le (by omega), List.append_nil] at hown
        clear hm hxs h
        go_wp2
        go_ret
        exact ⟨by simp, hown, hgr⟩
set_option maxRecDepth 4000 in
set_option maxHeartbeats 400000 in
theorem heldIntS_any (A : Option Addr) (n c k : Nat) (w : World) (hn : n ≤ 2000000) (hk : k ≤ 100000000) (hr : Reads w w.heap.size 1 A n ((marks k n).map iv)) :
    Calls Tryd.prog 52 #[.slice A n c, .int .i64 k] w fun e w' => e = .returned (.int .i64 ((k + n : Nat) : Int)) ∧ Below w.heap.size w w' := by
  go_enter Tryd.func52, Tryd.ntmps52
  go_wp2
  go_loop [1, 5] (fun u i => ∃ q : Nat, q ≤ n ∧ u = .int .i64 ((k : Int) + q) ∧ i = .int .i64 q) (fun _ i => n - (intOf i).toNat)
  case atStart => exact ⟨0, Nat.zero_le _, by simp, rfl⟩
  case round =>
    obtain ⟨q, hq, rfl, rfl⟩ := hrel
    by_cases hlt : q < n
    · obtain ⟨ad, u, rfl, had, hu, hc⟩ := hr.at_ hlt
      have hv := iv_get hu (by rw [marks_len]; exact hlt)
      rw [marks_at k n q hlt] at hv
      subst hv
      have hc2 : w.cell? (ad.add q) = some (.int .i64 ((k : Int) + q)) := by rw [hc, iv]; simp
      clear hc hu
      have hnn : (((k : Int) + q) != ((k : Int) + q)) = false := by simp
      go_wp2
      clear hnn
      go_round
      case rel => exact ⟨q + 1, by omega, by go_num, by go_num⟩
      case measure => simp [intOf]; omega
    · obtain rfl : q = n := by omega
      go_wp2
      go_ret
      exact ⟨by simp, Below.refl _ _⟩
end Go.Proofs.YtljggmgijadjaaaDoor
