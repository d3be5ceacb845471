/- ascending of the program: slices.Sort and slices.Compact by the shelf's contracts. -/
import Derived.Test.YtomkgnamjfiocaaGreatDoorBaseA
import Derived.Test.YtomkgnamjfiocaaGreatDoorBaseC
import Derived.Test.YtomkgnamjfiocaaGreatDoorShelf
import Derived.Lib.OwnBridge
import Derived.Lib.RowBridge
namespace Go.Proofs.YtomkgnamjfiocaaGreatDoor
open Go.RowKit Go.ChangeShapes Go.WideShapes Go.ChangeAt Go.Deep Go.Sort
set_option linter.unusedVariables false
def sortZ (xs : List Int) : List Int := xs.mergeSort fun x y => decide (x ≤ y)
def ascZ (xs : List Int) : List Int := Lib.compact (sortZ xs)
theorem iv_eq : iv = Value.int .i64 := rfl
theorem below_growS {B : Nat} {a w : World} (h : Below B a w) (hB : B ≤ w.heap.size) (os : Array Obj) : Below B a (grow w os) :=
  ⟨h.os, h.tape, h.output, by rw [size_grow]; have := h.size; omega, fun k hk => (heap_grow_old w os (by omega)).trans (h.block k hk)⟩
theorem own_growS {w : World} {base : Nat} {e : TypeId} {size n : Nat} {v : Value} {xs : List Value} (h : w.ownsRow base e size v n xs) (os : Array Obj) : (grow w os).ownsRow base e size v n xs :=
  own_same h fun g hg => heap_grow_old w os (ownBlock_some h hg).2
set_option maxRecDepth 4000 in
set_option maxHeartbeats 1000000 in
theorem ascending_is (w : World) {A : Option Addr} {n c : Nat} {xs : List Int} (h : IRd w A n xs) :
    Calls Tryz.prog 46 #[.slice A n c] w fun e w' => ∃ A2 c2, e = .returned (.slice A2 (ascZ xs).length c2) ∧ RIs w' w.heap.size w'.heap.size 3 1 A2 (ascZ xs).length c2 ((ascZ xs).map iv) ∧ Below w.heap.size w w' := by
  have hn := h.bd
  have ln := h.ln
  obtain ⟨S, hS⟩ : ∃ S, sortZ xs = S := ⟨_, rfl⟩
  have hSl : S.length = n := by rw [← hS, sortZ, List.length_mergeSort, ln]
  obtain ⟨Z, hZ⟩ : ∃ Z, Lib.compact S = Z := ⟨_, rfl⟩
  have hZl : Z.length ≤ n := by rw [← hZ, ← hSl]; exact Lib.compact_length_le S
  have hE : ascZ xs = Z := by rw [ascZ, hS, hZ]
  rw [hE]
  have HS := Lib.hid hS
  have HZ := Lib.hid hZ
  have HSL := Lib.hid hSl
  have HLN := Lib.hid ln
  clear hS hZ hSl ln hE
  go_enter Tryz.func46, Tryz.ntmps46
  go_wp2_with fail
  refine (copyInts_is _ h).mono ?_
  rintro e w1 ⟨A1, c1, rfl, I1, hb1⟩
  rcases Nat.eq_zero_or_pos n with h0 | h0
  · subst h0
    obtain rfl : Z = [] := List.eq_nil_of_length_eq_zero (by omega)
    go_wp2_with fail
    refine (Any.slices_Sort_int_none Tryz.lays189 A1 c1 w1).mono ?_
    rintro e w2 ⟨rfl, rfl⟩
    go_wp2_with fail
    refine (Tryz.slices_Compact_int_empty A1 c1 _).mono ?_
    rintro e w2 ⟨rfl, rfl⟩
    have hx : xs = [] := List.eq_nil_of_length_eq_zero HLN.out
    go_wp2
    go_ret
    subst hx
    exact ⟨_, _, rfl, I1, hb1⟩
  · obtain ⟨g, rfl, hlo, hhi⟩ := I1.at_ h0
    have hown := I1.own.row
    rw [iv_eq] at hown
    obtain ⟨_, _, hv, _, hgw, hnc, hcm, _, hH⟩ := Lib.holds_of_ownsRow hown (by simp)
    injection hv with e1 e2 e3
    injection e1 with e1
    injection e1 with e1
    subst e1
    subst e3
    have hcs : ∃ k, k = n ∧ xs.length = k := ⟨n, rfl, HLN.out⟩
    have hc1 := (Tryz.slices_Sort_int g 0 c1 xs w1 hH hgw (by have := HLN.out; omega))
    rw [HLN.out] at hc1
    have HC := Lib.hid hc1
    clear hc1 hcs
    go_wp2_with fail
    refine HC.out.mono ?_
    rintro e w2 ⟨rfl, k, os, hw2⟩
    have hown2 : w2.ownsRow w.heap.size 3 1 (.slice (some ⟨g, 0, none⟩) n c1) n (S.map (Value.int .i64)) := by
      rw [hw2]
      have := HS.out
      unfold sortZ at this
      rw [this]
      have h2 := Lib.ownsRow_putRow (q := k) (k := n) (ys := S) hown HSL.out (Nat.le_refl _)
      rw [List.take_of_length_le (Nat.le_of_eq HSL.out)] at h2
      exact own_growS h2 os
    have hB2 : Below w.heap.size w w2 := by
      rw [hw2]
      refine below_growS (Lib.below_putRow hb1 hlo) ?_ os
      have h3 := (Lib.below_putRow (enc := Value.int .i64) (q := k) (d := (xs.mergeSort fun x y => decide (x ≤ y)).toArray) hb1 hlo).size
      exact h3
    have hb2 : g < w2.heap.size := (ownBlock_some hown2 rfl).2
    clear hw2
    obtain ⟨_, _, hv, _, hgw2, _, _, _, hH2⟩ := Lib.holds_of_ownsRow hown2 (by simp)
    injection hv with e1 e2 e3
    injection e1 with e1
    injection e1 with e1
    subst e1
    clear e2 e3
    have hc2 := (Tryz.slices_Compact_int g 0 c1 S w2 hH2 (by have := HSL.out; omega) (by have := HSL.out; omega))
    rw [HSL.out, HZ.out] at hc2
    have HC2 := Lib.hid hc2
    clear hc2 hH2
    go_wp2_with fail
    refine HC2.out.mono ?_
    rintro e w3 ⟨rfl, q, hw3⟩
    have hown3 : w3.ownsRow w.heap.size 3 1 (.slice (some ⟨g, 0, none⟩) Z.length c1) Z.length (Z.map (Value.int .i64)) := by
      rw [hw3]
      have h2 := Lib.ownsRow_putRow (q := q) (k := Z.length) (ys := Z ++ List.replicate (n - Z.length) 0) hown2 (by simp; omega) hZl
      rwa [List.take_left] at h2
    have hB3 : Below w.heap.size w w3 := by
      rw [hw3]
      exact Lib.below_putRow hB2 hlo
    clear hw3
    go_wp2
    go_ret
    exact ⟨_, _, rfl, RIs.of hown3 (by omega), hB3⟩
end Go.Proofs.YtomkgnamjfiocaaGreatDoor
