/- Edges and graphs written and read again: markEdgeS, heldEdgeS, markGraph, heldGraph. -/
import Derived.Test.YtljggmgijadjaaaDoorOwn
import Derived.Test.YtljggmgijadjaaaDoorEdgeQ
namespace Go.Proofs.YtljggmgijadjaaaDoor
open Go.RowKit Go.ChangeShapes Go.WideShapes Go.ChangeAt Go.Deep
set_option linter.unusedVariables false

theorem marks_get (k n i : Nat) (h : i < n) : ((marks k n).map iv)[i]? = some (iv ((k : Int) + i)) := by
  rw [List.getElem?_map, List.getElem?_eq_getElem (by rw [marks_len]; exact h), marks_at k n i h]
  simp
set_option maxRecDepth 4000 in
set_option maxHeartbeats 1000000 in
theorem markEdgeS_any (v : Value) (n k base : Nat) (xs : List Value) (w : World) (hn : n ≤ 2000000) (hk : k ≤ 100000000) (hbase : base ≤ w.heap.size) (h : w.ownsRow base 60 4 v n xs) :
    Calls Tryd.prog 51 #[v, .int .i64 k] w fun e w' => e = .returned (.int .i64 ((k + n * 4 : Nat) : Int)) ∧ w'.ownsRow base 60 4 v n ((marks k (n * 4)).map iv) ∧ w.grownBy w' v.ownBlock := by
  have hxs : xs.length = n * 4 := h.1
  have hm : ((marks k (n * 4)).map iv).length = n * 4 := by simp [marks_len]
  rcases id h.2 with ⟨rfl, rfl⟩ | ⟨g, cap, cur, rfl, _, _, _⟩
  · go_enter Tryd.func51, Tryd.ntmps51
    go_wp2
    go_loop [1, 5] (fun u i => u = .int .i64 k ∧ i = .int .i64 0) (fun _ _ => 0)
    case atStart => exact ⟨rfl, rfl⟩
    case round =>
      obtain ⟨rfl, rfl⟩ := hrel
      go_wp2
      go_ret
      exact ⟨rfl, by simpa [marks] using (show w.ownsRow base 60 4 (.slice none 0 0) 0 [] from ⟨by simp, .inl ⟨rfl, rfl⟩⟩), grown_refl _ _⟩
  · go_enter Tryd.func51, Tryd.ntmps51
    go_wp2
    go_loopw [1, 5] (fun u i wr => ∃ q : Nat, q ≤ n ∧ u = .int .i64 ((k : Int) + q * 4) ∧ i = .int .i64 q ∧ wr.ownsRow base 60 4 (.slice (some ⟨g, 0, none⟩) n cap) n (((marks k (n * 4)).map iv).take (q * 4) ++ xs.drop (q * 4)) ∧ w.grownBy wr (some g)) (fun _ i _ => n - (intOf i).toNat)
    case atStart => exact ⟨0, Nat.zero_le _, by simp, rfl, by simpa using h, grown_refl _ _⟩
    case round =>
      obtain ⟨q, hq, rfl, rfl, hown, hgr⟩ := hrel
      by_cases hlt : q < n
      · have q0 := marks_get k (n * 4) (q * 4) (by omega)
        have q1 := marks_get k (n * 4) (q * 4 + 1) (by omega)
        have q2 := marks_get k (n * 4) (q * 4 + 2) (by omega)
        have q3 := marks_get k (n * 4) (q * 4 + 3) (by omega)
        rw [show (k : Int) + ((q * 4 : Nat) : Int) = (k : Int) + q * 4 by omega] at q0
        rw [show (k : Int) + ((q * 4 + 1 : Nat) : Int) = (k : Int) + q * 4 + 1 by omega] at q1
        rw [show (k : Int) + ((q * 4 + 2 : Nat) : Int) = (k : Int) + q * 4 + 1 + 1 by omega] at q2
        rw [show (k : Int) + ((q * 4 + 3 : Nat) : Int) = (k : Int) + q * 4 + 1 + 1 + 1 by omega] at q3
        have HS := Lib.hid (own4 (L := xs) hown (by omega) q0 q1 q2 q3)
        have f0 := hown.frozenAt (q * 4)
        have f1 := hown.frozenAt (q * 4 + 1)
        have f2 := hown.frozenAt (q * 4 + 2)
        have f3 := hown.frozenAt (q * 4 + 3)
        obtain ⟨z0, g0⟩ := own_some hown (q * 4) (by omega)
        obtain ⟨z1, g1⟩ := own_some hown (q * 4 + 1) (by omega)
        obtain ⟨z2, g2⟩ := own_some hown (q * 4 + 2) (by omega)
        obtain ⟨z3, g3⟩ := own_some hown (q * 4 + 3) (by omega)
        have hG := only_setCell (only_setCell (only_setCell (only_setCell hgr (p := ⟨g, q * 4, none⟩) (.inl rfl) (iv ((k : Int) + q * 4))) (p := ⟨g, q * 4 + 1, none⟩) (.inl rfl) (iv ((k : Int) + q * 4 + 1))) (p := ⟨g, q * 4 + 2, none⟩) (.inl rfl) (iv ((k : Int) + q * 4 + 1 + 1))) (p := ⟨g, q * 4 + 3, none⟩) (.inl rfl) (iv ((k : Int) + q * 4 + 1 + 1 + 1))
        clear q0 q1 q2 q3 hown hgr hm hxs h
        unfold iv at hG HS
        go_wp2
        go_roundw
        case rel => exact ⟨q + 1, by omega, by go_num, by go_num, HS.out, hG⟩
        case measure => simp [intOf]; omega
      · obtain rfl : q = n := by omega
        rw [List.take_of_length_le (by omega), List.drop_of_length_le (by omega), List.append_nil] at hown
        clear hm hxs h
        go_wp2
        go_ret
        exact ⟨by simp, hown, hgr⟩
theorem row_at {w : World} {B n size : Nat} {A : Option Addr} {xs : List Value} (h : Reads w B size A n xs) (hn : 0 < n) (hs : 0 < size) :
    ∃ b o, A = some ⟨b, o, none⟩ ∧ b < B ∧ ∀ j u, xs[j]? = some u → w.cell? ⟨b, o + j, none⟩ = some u := by
  obtain ⟨⟨b, o, sp⟩, hA, hb, hc⟩ := h.2 hn
  have hl := h.1
  have hpos : 0 < xs.length := by rw [hl]; exact Nat.mul_pos hn hs
  have hsp : sp = none := by
    have h0 := hc 0 _ (List.getElem?_eq_getElem hpos)
    simpa [Addr.add] using World.cell?_spot h0
  subst hsp
  exact ⟨b, o, hA, hb, fun j u hj => by have := hc j u hj; rwa [add_plain] at this⟩
set_option maxRecDepth 4000 in
set_option maxHeartbeats 1000000 in
theorem heldEdgeS_any (A : Option Addr) (n c k : Nat) (w : World) (hn : n ≤ 2000000) (hk : k ≤ 100000000) (hr : Reads w w.heap.size 4 A n ((marks k (n * 4)).map iv)) :
    Calls Tryd.prog 53 #[.slice A n c, .int .i64 k] w fun e w' => e = .returned (.int .i64 ((k + n * 4 : Nat) : Int)) ∧ Below w.heap.size w w' := by
  go_enter Tryd.func53, Tryd.ntmps53
  go_wp2
  go_loop [1, 5] (fun u i => ∃ q : Nat, q ≤ n ∧ u = .int .i64 ((k : Int) + q * 4) ∧ i = .int .i64 q) (fun _ i => n - (intOf i).toNat)
  case atStart => exact ⟨0, Nat.zero_le _, by simp, rfl⟩
  case round =>
    obtain ⟨q, hq, rfl, rfl⟩ := hrel
    by_cases hlt : q < n
    · obtain ⟨b, o, rfl, hb, hc⟩ := row_at hr (by omega) (by omega)
      have q0 := hc _ _ (marks_get k (n * 4) (q * 4) (by omega))
      have q1 := hc _ _ (marks_get k (n * 4) (q * 4 + 1) (by omega))
      have q2 := hc _ _ (marks_get k (n * 4) (q * 4 + 2) (by omega))
      have q3 := hc _ _ (marks_get k (n * 4) (q * 4 + 3) (by omega))
      rw [show (k : Int) + ((q * 4 : Nat) : Int) = (k : Int) + q * 4 by omega] at q0
      rw [show (k : Int) + ((q * 4 + 1 : Nat) : Int) = (k : Int) + q * 4 + 1 by omega, ← Nat.add_assoc] at q1
      rw [show (k : Int) + ((q * 4 + 2 : Nat) : Int) = (k : Int) + q * 4 + 1 + 1 by omega, ← Nat.add_assoc] at q2
      rw [show (k : Int) + ((q * 4 + 3 : Nat) : Int) = (k : Int) + q * 4 + 1 + 1 + 1 by omega, ← Nat.add_assoc] at q3
      unfold iv at q0 q1 q2 q3
      clear hc
      go_wp2
      go_round
      case rel => exact ⟨q + 1, by omega, by go_num, by go_num⟩
      case measure => simp [intOf]; omega
    · obtain rfl : q = n := by omega
      go_wp2
      go_ret
      exact ⟨by simp, Below.refl _ _⟩
theorem markEdgeS_in (v : Value) (n k lo hi : Nat) (xs : List Value) (w : World) (hn : n ≤ 2000000) (hk : k ≤ 100000000) (h : OwnIn w lo hi 60 4 v n xs) (hlo : lo ≤ w.heap.size) :
    Calls Tryd.prog 51 #[v, .int .i64 k] w fun e w' => e = .returned (.int .i64 ((k + n * 4 : Nat) : Int)) ∧ OwnIn w' lo hi 60 4 v n ((marks k (n * 4)).map iv) ∧ Tch lo hi w w' ∧ w.grownBy w' v.ownBlock :=
  (markEdgeS_any v n k lo xs w hn hk hlo h.row).mono fun e w' ⟨h1, h2, h3⟩ => ⟨h1, ⟨h2, h.top⟩, Tch.of_grown h3 h, h3⟩
/-- A graph of the call's own in [lo, hi), its two rows in blocks of their own. -/
structure GIn (w : World) (lo hi : Nat) (u v : Value) (n m : Nat) (xs ys : List Value) : Prop where
  ou : OwnIn w lo hi 3 1 u n xs
  ov : OwnIn w lo hi 60 4 v m ys
  ne : ∀ g, u.ownBlock = some g → v.ownBlock ≠ some g
section
variable {w w' : World} {lo hi a b : Nat} {u v : Value} {n m : Nat} {xs ys : List Value}
theorem GIn.tch (h : GIn w a b u v n m xs ys) (t : Tch lo hi w w') (hd : b ≤ lo ∨ hi ≤ a) : GIn w' a b u v n m xs ys := ⟨h.ou.tch t hd, h.ov.tch t hd, h.ne⟩
theorem GIn.below (h : GIn w a b u v n m xs ys) (hb : Below w.heap.size w w') : GIn w' a b u v n m xs ys := ⟨h.ou.below hb, h.ov.below hb, h.ne⟩
theorem GIn.form (h : GIn w a b u v n m xs ys) : ∃ A c B d, u = .slice A n c ∧ v = .slice B m d := by
  obtain ⟨A, c, h1⟩ := h.ou.form
  obtain ⟨B, d, h2⟩ := h.ov.form
  exact ⟨A, c, B, d, h1, h2⟩
theorem GIn.greads {A B : Option Addr} {c d : Nat} {g : G} (h : GIn w a b (.slice A n c) (.slice B m d) n m (g.vs.map iv) (ecs g.es)) : GReads w A n B m g :=
  ⟨by have := h.ou.row.1; simpa using this, by have := h.ov.row.1; rw [ecs_len] at this; omega, h.ou.reads, h.ov.reads⟩
end
theorem OwnIn.grown {w w' : World} {a b : Nat} {e : TypeId} {size n : Nat} {v : Value} {xs : List Value} {row : Option Nat} (h : OwnIn w a b e size v n xs) (hg : w.grownBy w' row) (hne : ∀ g, v.ownBlock = some g → row ≠ some g) : OwnIn w' a b e size v n xs :=
  ⟨own_same h.row fun g hh => hg.block g (ownBlock_some h.row hh).2 fun he => hne g hh he.symm, h.top⟩
end Go.Proofs.YtljggmgijadjaaaDoor
