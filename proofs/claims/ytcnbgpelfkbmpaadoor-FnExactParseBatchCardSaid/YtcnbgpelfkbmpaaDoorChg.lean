/- Changes: toChange, toChangeS, eqChange, eqChangeS. -/
import Derived.Test.YtcnbgpelfkbmpaaDoorEl
namespace Go.Proofs.YtcnbgpelfkbmpaaDoor
open Go.RowKit Go.ChangeShapes Go.WideShapes Go.ChangeAt Go.Deep
set_option linter.unusedVariables false
structure Cg where
  ins : Bool
  e : E
deriving DecidableEq
def cgc (c : Cg) : List Value := [.bool c.ins, .int .i64 c.e.id, .int .i64 c.e.fr, .int .i64 c.e.to, .int .i64 c.e.lb]
def cgcs (l : List Cg) : List Value := l.flatMap cgc
theorem cgc_len (s : Cg) : (cgc s).length = 5 := rfl
theorem cgcs_len (l : List Cg) : (cgcs l).length = l.length * 5 := flatMap_len cgc 5 cgc_len l
theorem cgcs_append (a b : List Cg) : cgcs (a ++ b) = cgcs a ++ cgcs b := by simp [cgcs]
theorem cgcs_one (l : List Cg) : ∀ u ∈ cgcs l, u.oneCell' = true := by
  refine flatMap_one_cell (fun s u hu => ?_) l
  simp [cgc] at hu
  rcases hu with rfl | rfl | rfl | rfl | rfl <;> rfl
theorem app_change : AppTy Tryd.prog 65 122 (.agg #[.bool false, .int .i64 0, .int .i64 0, .int .i64 0, .int .i64 0]) 5 40 := ⟨Tryd.underlying65, by kernel_rfl, rfl, by decide⟩
theorem change_at {w : World} {B n k : Nat} {A : Option Addr} {l : List Cg} (h : Reads w B 5 A n (cgcs l)) (hl : l.length = n) (hk : k < n) :
    ∃ b o, A = some ⟨b, o, none⟩ ∧ b < B ∧ ∃ s, l[k]? = some s ∧ w.cell? ⟨b, o + k * 5, none⟩ = some (.bool s.ins) ∧ w.cell? ⟨b, o + k * 5 + 1, none⟩ = some (.int .i64 s.e.id) ∧ w.cell? ⟨b, o + k * 5 + 2, none⟩ = some (.int .i64 s.e.fr) ∧ w.cell? ⟨b, o + k * 5 + 3, none⟩ = some (.int .i64 s.e.to) ∧ w.cell? ⟨b, o + k * 5 + 4, none⟩ = some (.int .i64 s.e.lb) := by
  obtain ⟨b, o, hA, hb, s, hs, hc⟩ := elem_at cgc_len (by decide) h hl hk
  exact ⟨b, o, hA, hb, s, hs, hc 0 _ rfl, hc 1 _ rfl, hc 2 _ rfl, hc 3 _ rfl, hc 4 _ rfl⟩
set_option maxRecDepth 4000 in
set_option maxHeartbeats 400000 in
theorem toChange_any (s : Cg) (w : World) : Calls Tryd.prog 136 #[.agg #[.bool s.ins, .int .i64 s.e.id, .int .i64 s.e.fr, .int .i64 s.e.to, .int .i64 s.e.lb]] w fun r w' => r = .returned (.agg #[.bool s.ins, .int .i64 s.e.id, .int .i64 s.e.fr, .int .i64 s.e.to, .int .i64 s.e.lb]) ∧ Below w.heap.size w w' := by
  obtain ⟨i, a, b, c, d⟩ := s
  go_enter Tryd.func136, Tryd.ntmps136
  go_wp2_with fail
  refine (toEdge_any ⟨a, b, c, d⟩ _).mono ?_
  rintro r w1 ⟨rfl, hb1⟩
  obtain ⟨hc1, hf1⟩ := bcell hb1
  have hz1 : w.heap.size + 1 + 1 < w1.heap.size := by have := hb1.size; simp at this; omega
  have hz1b : w.heap.size + 1 < w1.heap.size := by omega
  have hz1a : w.heap.size < w1.heap.size := by omega
  go_wp2
  refine bodyPost_ret (v := .agg #[.bool i, .int .i64 a, .int .i64 b, .int .i64 c, .int .i64 d]) ?_ rfl ?_
  · simp [results, Tryd.results136, go_sem]
    go_simp
  · refine ⟨rfl, ?_⟩
    repeat (with_reducible refine Below.setCell ?_ ?hb _; (case hb => dsimp only; omega))
    refine below_then ?_ hb1
    repeat (with_reducible refine Below.setCell ?_ ?hb _; (case hb => dsimp only; omega))
    repeat (first | exact Below.refl _ _ | refine Below.alloc ?_ (by first | exact Nat.le_refl _ | (simp only [World.size_alloc]; omega)) _)
set_option maxRecDepth 4000 in
set_option maxHeartbeats 400000 in
theorem toChangeS_any (A : Option Addr) (n c : Nat) (es : List Cg) (w : World) (hl : es.length = n) (hn : n ≤ 2000000) (hr : Reads w w.heap.size 5 A n (cgcs es)) :
    Calls Tryd.prog 105 #[.slice A n c] w fun e w' => e = .returned (.slice (some ⟨w.heap.size, 0, none⟩) n n) ∧ w'.ownsRow w.heap.size 122 5 (.slice (some ⟨w.heap.size, 0, none⟩) n n) n (cgcs es) ∧ Below w.heap.size w w' := by
  have hmk := make_eq (P := Tryd.prog) app_change (by decide) n (small_of (by omega))
  go_enter Tryd.func105, Tryd.ntmps105
  go_wp2
  clear hmk
  go_loopw [4] (fun i wr => ∃ k : Nat, k ≤ n ∧ i = .int .i64 k ∧ wr.ownsRow w.heap.size 122 5 (.slice (some ⟨w.heap.size, 0, none⟩) n n) n ((cgcs es).take (k * 5) ++ (zrow (.agg #[.bool false, .int .i64 0, .int .i64 0, .int .i64 0, .int .i64 0]) (n * 5)).toList.drop (k * 5)) ∧ Below w.heap.size w wr)
    (fun i _ => n - (intOf i).toNat)
  case atStart =>
    refine ⟨0, Nat.zero_le _, rfl, ?_, (Below.refl _ _).alloc (Nat.le_refl _) _⟩
    have h := own_zrow (e := 122) (size := 5) (n := n) (W := w) (.agg #[.bool false, .int .i64 0, .int .i64 0, .int .i64 0, .int .i64 0]) (Nat.le_refl _) (small_of (by omega))
    simpa using h
  case round =>
    obtain ⟨k, hk, rfl, hown, hbel⟩ := hrel
    by_cases hlt : k < n
    · obtain ⟨b, o, rfl, had, e, he, c0, c1, c2, c3, c4⟩ := change_at hr hl hlt
      have d0 := (hbel.cell (p := ⟨b, o + k * 5, none⟩) had).trans c0
      have d1 := (hbel.cell (p := ⟨b, o + k * 5 + 1, none⟩) had).trans c1
      have d2 := (hbel.cell (p := ⟨b, o + k * 5 + 2, none⟩) had).trans c2
      have d3 := (hbel.cell (p := ⟨b, o + k * 5 + 3, none⟩) had).trans c3
      have d4 := (hbel.cell (p := ⟨b, o + k * 5 + 4, none⟩) had).trans c4
      clear c0 c1 c2 c3 c4
      go_wp2_with fail
      refine (toChange_any e _).mono ?_
      rintro r w1 ⟨rfl, hb1⟩
      have ho1 := own_below hown hb1 (Nat.le_refl _)
      have hbb := below_then hbel hb1
      have f0 := ho1.frozenAt (k * 5)
      have f1 := ho1.frozenAt (k * 5 + 1)
      have f2 := ho1.frozenAt (k * 5 + 2)
      have f3 := ho1.frozenAt (k * 5 + 3)
      have f4 := ho1.frozenAt (k * 5 + 4)
      obtain ⟨z0, g0⟩ := own_some ho1 (k * 5) (by omega)
      obtain ⟨z1, g1⟩ := own_some ho1 (k * 5 + 1) (by omega)
      obtain ⟨z2, g2⟩ := own_some ho1 (k * 5 + 2) (by omega)
      obtain ⟨z3, g3⟩ := own_some ho1 (k * 5 + 3) (by omega)
      obtain ⟨z4, g4⟩ := own_some ho1 (k * 5 + 4) (by omega)
      have q0 := flatMap_get cgc_len (j := 0) he rfl
      have q1 := flatMap_get cgc_len (j := 1) he rfl
      have q2 := flatMap_get cgc_len (j := 2) he rfl
      have q3 := flatMap_get cgc_len (j := 3) he rfl
      have q4 := flatMap_get cgc_len (j := 4) he rfl
      have HS := Lib.hid (own5 (L := (zrow (.agg #[.bool false, .int .i64 0, .int .i64 0, .int .i64 0, .int .i64 0]) (n * 5)).toList) ho1 (by rw [cgcs_len, Array.length_toList, zrow_size, hl]) q0 q1 q2 q3 q4)
      clear q0 q1 q2 q3 q4 he
      go_wp2
      go_roundw
      case rel => exact ⟨k + 1, by omega, by go_num, HS.out, ((((hbb.setCell (Nat.le_refl _) _).setCell (Nat.le_refl _) _).setCell (Nat.le_refl _) _).setCell (Nat.le_refl _) _).setCell (Nat.le_refl _) _⟩
      case measure => simp [intOf]; omega
    · obtain rfl : k = n := by omega
      have hz : ((zrow (.agg #[.bool false, .int .i64 0, .int .i64 0, .int .i64 0, .int .i64 0]) (k * 5)).toList.drop (k * 5)) = [] := List.drop_of_length_le (by rw [Array.length_toList, zrow_size]; exact Nat.le_refl _)
      rw [hz, List.take_of_length_le (by rw [cgcs_len]; omega), List.append_nil] at hown
      clear hz
      go_wp2
      go_ret
      exact ⟨rfl, hown, hbel⟩
set_option maxRecDepth 4000 in
theorem eqChange_same (s : Cg) (w : World) : Calls Tryd.prog 140 #[.agg #[.bool s.ins, .int .i64 s.e.id, .int .i64 s.e.fr, .int .i64 s.e.to, .int .i64 s.e.lb], .agg #[.bool s.ins, .int .i64 s.e.id, .int .i64 s.e.fr, .int .i64 s.e.to, .int .i64 s.e.lb]] w fun r w' => r = .returned (.bool true) ∧ Below w.heap.size w w' := by
  obtain ⟨i, a, b, c, d⟩ := s
  have hb : (i != i) = false := by simp
  go_enter Tryd.func140, Tryd.ntmps140
  go_wp2_with (go_at_call 45; refine (eqEdge_same ⟨a, b, c, d⟩ _).mono ?_; rintro r w3 ⟨rfl, hb3⟩)
  go_ret
  exact ⟨rfl, below_then (((Below.refl _ _).alloc (Nat.le_refl _) _).alloc (by simp) _) hb3⟩
set_option maxRecDepth 4000 in
set_option maxHeartbeats 800000 in
theorem eqChangeS_same (A B : Option Addr) (n c d : Nat) (es : List Cg) (w : World) (hl : es.length = n) (hn : n ≤ 2000000) (hr : Reads w w.heap.size 5 A n (cgcs es)) (hr2 : Reads w w.heap.size 5 B n (cgcs es)) :
    Calls Tryd.prog 107 #[.slice A n c, .slice B n d] w fun e w' => e = .returned (.bool true) ∧ Below w.heap.size w w' := by
  have hnn : ((n : Int) != n) = false := by simp
  go_enter Tryd.func107, Tryd.ntmps107
  go_wp2
  clear hnn
  go_loopw [5] (fun i wr => ∃ k : Nat, k ≤ n ∧ i = .int .i64 k ∧ Below w.heap.size w wr) (fun i _ => n - (intOf i).toNat)
  case atStart => exact ⟨0, Nat.zero_le _, rfl, Below.refl _ _⟩
  case round =>
    obtain ⟨k, hk, rfl, hbel⟩ := hrel
    by_cases hlt : k < n
    · obtain ⟨b, o, rfl, had, e, he, c0, c1, c2, c3, c4⟩ := change_at (hr.below hbel) hl hlt
      obtain ⟨b2, o2, rfl, had2, e2, he2, d0, d1, d2, d3, d4⟩ := change_at (hr2.below hbel) hl hlt
      obtain rfl : e = e2 := by rw [he] at he2; simpa using he2
      clear he he2
      have hlt' : (k : Int) < n := by omega
      have hk0 : (0 : Int) ≤ (k : Int) := by omega
      go_wp2
      go_still_tail 8, (by kernel_rfl)
      change wpList _ _ _ _ _ wr.drew
      have hbel2 : Below w.heap.size w wr.drew := hbel.drew
      generalize wr.drew = w2 at *
      go_wp2_with (go_at_call 140; refine (eqChange_same _ _).mono ?_; rintro r w3 ⟨rfl, hb3⟩)
      go_roundw
      case rel => exact ⟨k + 1, by omega, by go_num, hbel2.trans (hb3.mono hbel2.size)⟩
      case measure => simp [intOf]; omega
    · go_wp2
      go_ret
      exact ⟨rfl, hbel⟩
end Go.Proofs.YtcnbgpelfkbmpaaDoor
