/- The comparison of edges and of changes, in one step. -/
import Derived.Test.YtljggmgijadjaaaRd
import Derived.Laws.StructEq
namespace Go.Proofs.Ytljggmgijadjaaa
open Go.RowKit Go.ChangeShapes Go.WideShapes Go.ChangeAt Go.Deep
set_option linter.unusedVariables false
set_option maxRecDepth 20000 in
theorem eqE_run (x y : E) (w : World) : (Op.equalIn 10000 48 (.agg #[.int .i64 x.id, .int .i64 x.fr, .int .i64 x.to, .int .i64 x.lb]) (.agg #[.int .i64 y.id, .int .i64 y.fr, .int .i64 y.to, .int .i64 y.lb])).run Try.prog w = .ok (decide (x = y)) w := by
  obtain ⟨a, b, c, d⟩ := x
  obtain ⟨a', b', c', d'⟩ := y
  have hE : decide (E.mk a b c d = E.mk a' b' c' d') = ((a == a') && ((b == b') && ((c == c') && (d == d')))) := by
    rw [Bool.eq_iff_iff]; simp
  rw [hE]
  cases h1 : (a == a') <;> cases h2 : (b == b') <;> cases h3 : (c == c') <;> cases h4 : (d == d') <;> go_simp
theorem neqE_run (x y : E) (w : World) : (binOp .neq 48 (.agg #[.int .i64 x.id, .int .i64 x.fr, .int .i64 x.to, .int .i64 x.lb]) (.agg #[.int .i64 y.id, .int .i64 y.fr, .int .i64 y.to, .int .i64 y.lb])).run Try.prog w = .ok (.bool (!decide (x = y))) w := by
  rw [run_neq_struct, eqE_run]
  rfl
theorem eqlE_run (x y : E) (w : World) : (binOp .eql 48 (.agg #[.int .i64 x.id, .int .i64 x.fr, .int .i64 x.to, .int .i64 x.lb]) (.agg #[.int .i64 y.id, .int .i64 y.fr, .int .i64 y.to, .int .i64 y.lb])).run Try.prog w = .ok (.bool (decide (x = y))) w := by
  rw [run_eql_struct, eqE_run]
  rfl
theorem take_eq_some' {α : Type} {xs ys : List α} {k : Nat} {x y : α} (h : xs.take k = ys.take k) (h1 : xs[k]? = some x) (h2 : ys[k]? = some y) : xs.take (k + 1) = ys.take (k + 1) ↔ x = y := by
  obtain ⟨k1, e1⟩ := List.getElem?_eq_some_iff.1 h1
  obtain ⟨k2, e2⟩ := List.getElem?_eq_some_iff.1 h2
  rw [List.take_succ_eq_append_getElem k1, List.take_succ_eq_append_getElem k2, h, e1, e2]
  exact ⟨fun hh => by simpa using List.append_cancel_left hh, fun hh => by rw [hh]⟩
end Go.Proofs.Ytljggmgijadjaaa
