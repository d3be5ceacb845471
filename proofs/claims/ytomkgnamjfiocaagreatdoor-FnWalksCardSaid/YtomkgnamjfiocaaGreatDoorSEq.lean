/- The comparison of edges and of changes, in one step. -/
import Derived.Test.YtomkgnamjfiocaaGreatDoorBaseA
import Derived.Laws.StructEq
namespace Go.Proofs.YtomkgnamjfiocaaGreatDoor
open Go.RowKit Go.ChangeShapes Go.WideShapes Go.ChangeAt Go.Deep
set_option linter.unusedVariables false
set_option maxRecDepth 20000 in
theorem eqE_run (x y : E) (w : World) : (Op.equalIn 10000 90 (.agg #[.int .i64 x.id, .int .i64 x.fr, .int .i64 x.to, .int .i64 x.lb]) (.agg #[.int .i64 y.id, .int .i64 y.fr, .int .i64 y.to, .int .i64 y.lb])).run Tryz.prog w = .ok (decide (x = y)) w := by
  obtain ⟨a, b, c, d⟩ := x
  obtain ⟨a', b', c', d'⟩ := y
  have hE : decide (E.mk a b c d = E.mk a' b' c' d') = ((a == a') && ((b == b') && ((c == c') && (d == d')))) := by
    rw [Bool.eq_iff_iff]; simp
  rw [hE]
  cases h1 : (a == a') <;> cases h2 : (b == b') <;> cases h3 : (c == c') <;> cases h4 : (d == d') <;> go_simp
set_option maxRecDepth 20000 in
set_option maxHeartbeats 1000000 in
theorem eqC_run (x y : Cg) (w : World) : (Op.equalIn 10000 92 (.agg #[.bool x.ins, .int .i64 x.e.id, .int .i64 x.e.fr, .int .i64 x.e.to, .int .i64 x.e.lb]) (.agg #[.bool y.ins, .int .i64 y.e.id, .int .i64 y.e.fr, .int .i64 y.e.to, .int .i64 y.e.lb])).run Tryz.prog w = .ok (decide (x = y)) w := by
  obtain ⟨i, a, b, c, d⟩ := x
  obtain ⟨i', a', b', c', d'⟩ := y
  have hE : decide (Cg.mk i (E.mk a b c d) = Cg.mk i' (E.mk a' b' c' d')) = ((i == i') && ((a == a') && ((b == b') && ((c == c') && (d == d'))))) := by
    rw [Bool.eq_iff_iff]; simp
  rw [hE]
  cases h0 : (i == i') <;> cases h1 : (a == a') <;> cases h2 : (b == b') <;> cases h3 : (c == c') <;> cases h4 : (d == d') <;> go_simp
theorem neqC_run (x y : Cg) (w : World) : (binOp .neq 92 (.agg #[.bool x.ins, .int .i64 x.e.id, .int .i64 x.e.fr, .int .i64 x.e.to, .int .i64 x.e.lb]) (.agg #[.bool y.ins, .int .i64 y.e.id, .int .i64 y.e.fr, .int .i64 y.e.to, .int .i64 y.e.lb])).run Tryz.prog w = .ok (.bool (!decide (x = y))) w := by
  rw [run_neq_struct, eqC_run]
  rfl
theorem eqlC_run (x y : Cg) (w : World) : (binOp .eql 92 (.agg #[.bool x.ins, .int .i64 x.e.id, .int .i64 x.e.fr, .int .i64 x.e.to, .int .i64 x.e.lb]) (.agg #[.bool y.ins, .int .i64 y.e.id, .int .i64 y.e.fr, .int .i64 y.e.to, .int .i64 y.e.lb])).run Tryz.prog w = .ok (.bool (decide (x = y))) w := by
  rw [run_eql_struct, eqC_run]
  rfl
theorem neqE_run (x y : E) (w : World) : (binOp .neq 90 (.agg #[.int .i64 x.id, .int .i64 x.fr, .int .i64 x.to, .int .i64 x.lb]) (.agg #[.int .i64 y.id, .int .i64 y.fr, .int .i64 y.to, .int .i64 y.lb])).run Tryz.prog w = .ok (.bool (!decide (x = y))) w := by
  rw [run_neq_struct, eqE_run]
  rfl
theorem eqlE_run (x y : E) (w : World) : (binOp .eql 90 (.agg #[.int .i64 x.id, .int .i64 x.fr, .int .i64 x.to, .int .i64 x.lb]) (.agg #[.int .i64 y.id, .int .i64 y.fr, .int .i64 y.to, .int .i64 y.lb])).run Tryz.prog w = .ok (.bool (decide (x = y))) w := by
  rw [run_eql_struct, eqE_run]
  rfl
theorem take_eq_some' {α : Type} {xs ys : List α} {k : Nat} {x y : α} (h : xs.take k = ys.take k) (h1 : xs[k]? = some x) (h2 : ys[k]? = some y) : xs.take (k + 1) = ys.take (k + 1) ↔ x = y := by
  obtain ⟨k1, e1⟩ := List.getElem?_eq_some_iff.1 h1
  obtain ⟨k2, e2⟩ := List.getElem?_eq_some_iff.1 h2
  rw [List.take_succ_eq_append_getElem k1, List.take_succ_eq_append_getElem k2, h, e1, e2]
  exact ⟨fun hh => by simpa using List.append_cancel_left hh, fun hh => by rw [hh]⟩
end Go.Proofs.YtomkgnamjfiocaaGreatDoor
