/- The comparison of edges and of changes, in one step. -/
import Derived.Test.YtfigilkggjokkaaRd
import Derived.Laws.StructEq
namespace Go.Proofs.Ytfigilkggjokkaa
open Go.RowKit Go.ChangeShapes Go.WideShapes Go.ChangeAt Go.Deep
set_option linter.unusedVariables false
set_option maxRecDepth 20000 in
theorem eqE_run (x y : E) (w : World) : (Op.equalIn 10000 106 (.agg #[.int .i64 x.id, .int .i64 x.fr, .int .i64 x.to, .int .i64 x.lb]) (.agg #[.int .i64 y.id, .int .i64 y.fr, .int .i64 y.to, .int .i64 y.lb])).run Try.prog w = .ok (decide (x = y)) w := by
  obtain ⟨a, b, c, d⟩ := x
  obtain ⟨a', b', c', d'⟩ := y
  have hE : decide (E.mk a b c d = E.mk a' b' c' d') = ((a == a') && ((b == b') && ((c == c') && (d == d')))) := by
    rw [Bool.eq_iff_iff]; simp
  rw [hE]
  cases h1 : (a == a') <;> cases h2 : (b == b') <;> cases h3 : (c == c') <;> cases h4 : (d == d') <;> go_simp
set_option maxRecDepth 20000 in
set_option maxHeartbeats 1000000 in
theorem eqC_run (x y : Cg) (w : World) : (Op.equalIn 10000 116 (.agg #[.bool x.ins, .int .i64 x.e.id, .int .i64 x.e.fr, .int .i64 x.e.to, .int .i64 x.e.lb]) (.agg #[.bool y.ins, .int .i64 y.e.id, .int .i64 y.e.fr, .int .i64 y.e.to, .int .i64 y.e.lb])).run Try.prog w = .ok (decide (x = y)) w := by
  obtain ⟨i, a, b, c, d⟩ := x
  obtain ⟨i', a', b', c', d'⟩ := y
  have hE : decide (Cg.mk i (E.mk a b c d) = Cg.mk i' (E.mk a' b' c' d')) = ((i == i') && ((a == a') && ((b == b') && ((c == c') && (d == d'))))) := by
    rw [Bool.eq_iff_iff]; simp
  rw [hE]
  cases h0 : (i == i') <;> cases h1 : (a == a') <;> cases h2 : (b == b') <;> cases h3 : (c == c') <;> cases h4 : (d == d') <;> go_simp
theorem neqC_run (x y : Cg) (w : World) : (binOp .neq 116 (.agg #[.bool x.ins, .int .i64 x.e.id, .int .i64 x.e.fr, .int .i64 x.e.to, .int .i64 x.e.lb]) (.agg #[.bool y.ins, .int .i64 y.e.id, .int .i64 y.e.fr, .int .i64 y.e.to, .int .i64 y.e.lb])).run Try.prog w = .ok (.bool (!decide (x = y))) w := by
  rw [run_neq_struct, eqC_run]
  rfl
theorem eqlC_run (x y : Cg) (w : World) : (binOp .eql 116 (.agg #[.bool x.ins, .int .i64 x.e.id, .int .i64 x.e.fr, .int .i64 x.e.to, .int .i64 x.e.lb]) (.agg #[.bool y.ins, .int .i64 y.e.id, .int .i64 y.e.fr, .int .i64 y.e.to, .int .i64 y.e.lb])).run Try.prog w = .ok (.bool (decide (x = y))) w := by
  rw [run_eql_struct, eqC_run]
  rfl
theorem neqE_run (x y : E) (w : World) : (binOp .neq 106 (.agg #[.int .i64 x.id, .int .i64 x.fr, .int .i64 x.to, .int .i64 x.lb]) (.agg #[.int .i64 y.id, .int .i64 y.fr, .int .i64 y.to, .int .i64 y.lb])).run Try.prog w = .ok (.bool (!decide (x = y))) w := by
  rw [run_neq_struct, eqE_run]
  rfl
theorem eqlE_run (x y : E) (w : World) : (binOp .eql 106 (.agg #[.int .i64 x.id, .int .i64 x.fr, .int .i64 x.to, .int .i64 x.lb]) (.agg #[.int .i64 y.id, .int .i64 y.fr, .int .i64 y.to, .int .i64 y.lb])).run Try.prog w = .ok (.bool (decide (x = y))) w := by
  rw [run_eql_struct, eqE_run]
  rfl
theorem take_eq_some' {α : Type} {xs ys : List α} {k : Nat} {x y : α} (h : xs.take k = ys.take k) (h1 : xs[k]? = some x) (h2 : ys[k]? = some y) : xs.take (k + 1) = ys.take (k + 1) ↔ x = y := by
  obtain ⟨k1, e1⟩ := List.getElem?_eq_some_iff.1 h1
  obtain ⟨k2, e2⟩ := List.getElem?_eq_some_iff.1 h2
  rw [List.take_succ_eq_append_getElem k1, List.take_succ_eq_append_getElem k2, h, e1, e2]
  exact ⟨fun hh => by simpa using List.append_cancel_left hh, fun hh => by rw [hh]⟩
set_option maxRecDepth 4000 in
set_option maxHeartbeats 2000000 in
theorem specEqualBatches_is (w : World) {A B : Option Addr} {n c m d : Nat} {l l' : List Cg} (h : CRd w A n l) (h' : CRd w B m l') :
    Calls Try.prog 44 #[.agg #[.slice A n c], .agg #[.slice B m d]] w fun e w' => e = .returned (.bool (decide (l = l'))) ∧ Below w.heap.size w w' := by
  have hn := h.bd
  have hm := h'.bd
  have ln := h.ln
  have lm := h'.ln
  have hB0 : Below w.heap.size w ((w.alloc (.cells #[.slice A n c] 35)).alloc (.cells #[.slice B m d] 35)) := ((Below.refl _ _).alloc (Nat.le_refl _) _).alloc (by simp) _
  have kA : ((w.alloc (.cells #[.slice A n c] 35)).alloc (.cells #[.slice B m d] 35)).cell? ⟨w.heap.size, 0, none⟩ = some (.slice A n c) := by go_simp
  have kB : ((w.alloc (.cells #[.slice A n c] 35)).alloc (.cells #[.slice B m d] 35)).cell? ⟨w.heap.size + 1, 0, none⟩ = some (.slice B m d) := by go_simp
  by_cases hnm : n = m
  rotate_left
  · have hnn : ((n : Int) != m) = true := by simp; omega
    have hE : decide (l = l') = false := by simp; intro h; subst h; omega
    have HE := Lib.hid hE
    clear hE ln lm hnm kA kB
    go_enter Try.func44, Try.ntmps44
    go_wp2
    go_ret
    exact ⟨by rw [HE.out] <;> rfl, hB0⟩
  · subst hnm
    have hnn : ((n : Int) != n) = false := by simp
    have HL1 := Lib.hid ln
    have HL2 := Lib.hid lm
    clear ln lm
    go_enter Try.func44, Try.ntmps44
    go_wp2
    clear hnn
    generalize ((w.alloc (.cells #[.slice A n c] 35)).alloc (.cells #[.slice B n d] 35)) = w0 at *
    go_loopw [5] (fun i wr => ∃ k : Nat, k ≤ n ∧ i = .int .i64 k ∧ l.take k = l'.take k ∧ ∃ q, wr = w0.drewN q) (fun i _ => n - (intOf i).toNat)
    case atStart => exact ⟨0, Nat.zero_le _, rfl, rfl, 0, rfl⟩
    case round =>
      obtain ⟨k, hk, rfl, htk, q, rfl⟩ := hrel
      have HT := Lib.hid htk
      clear htk
      by_cases hlt : k < n
      · obtain ⟨b, o, rfl, hb, x, hx, c0, c1, c2, c3, c4⟩ := change_at (h.up hB0).rd HL1.out hlt
        obtain ⟨b2, o2, rfl, hb2, y, hy, d0, d1, d2, d3, d4⟩ := change_at (h'.up hB0).rd HL2.out hlt
        have HX := Lib.hid hx
        have HY := Lib.hid hy
        have hlt' : (k : Int) < n := by omega
        have hEq := eqC_run x y
        obtain ⟨x0, x1, x2, x3, x4⟩ := x
        obtain ⟨y0, y1, y2, y3, y4⟩ := y
        dsimp only at c0 c1 c2 c3 c4 d0 d1 d2 d3 d4 hEq
        clear hx hy
        by_cases hxy : (Cg.mk x0 ⟨x1, x2, x3, x4⟩ = Cg.mk y0 ⟨y1, y2, y3, y4⟩)
        · rw [decide_eq_true hxy] at hEq
          have HXY := Lib.hid hxy
          clear hxy
          go_wp2
          go_quiet (fail)
          go_wp2
          go_roundw
          case rel => exact ⟨k + 1, by omega, by go_num, (take_eq_some' HT.out HX.out HY.out).2 HXY.out, _, rfl⟩
          case measure => simp [intOf]; omega
        · rw [decide_eq_false hxy] at hEq
          have hE : decide (l = l') = false := by
            simp only [decide_eq_false_iff_not]
            rintro rfl
            have := HX.out.symm.trans HY.out
            exact hxy (by simpa using this)
          have HE := Lib.hid hE
          clear hxy hE
          go_wp2
          go_quiet (fail)
          go_wp2
          go_ret
          exact ⟨by rw [HE.out] <;> rfl, below_then hB0 (by repeat (first | exact Below.refl _ _ | refine below_drewN ?_ _))⟩
      · obtain rfl : k = n := by omega
        have hE : decide (l = l') = true := by
          simp only [decide_eq_true_eq]
          have h := HT.out
          rwa [List.take_of_length_le (by have := HL1.out; omega), List.take_of_length_le (by have := HL2.out; omega)] at h
        have HE := Lib.hid hE
        clear hE
        go_wp2
        go_ret
        exact ⟨by rw [HE.out] <;> rfl, below_then hB0 (by repeat (first | exact Below.refl _ _ | refine below_drewN ?_ _))⟩
end Go.Proofs.Ytfigilkggjokkaa
