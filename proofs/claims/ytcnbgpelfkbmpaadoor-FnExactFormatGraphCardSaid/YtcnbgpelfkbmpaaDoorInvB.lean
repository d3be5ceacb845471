/- InvertBatch of both packages. -/
import Derived.Test.YtcnbgpelfkbmpaaDoorSEq
import Derived.Test.YtcnbgpelfkbmpaaDoorStepsW
namespace Go.Proofs.YtcnbgpelfkbmpaaDoor
open Go.RowKit Go.ChangeShapes Go.WideShapes Go.ChangeAt Go.Deep
set_option linter.unusedVariables false
def invC (c : Cg) : Cg := ⟨!c.ins, c.e⟩
def invertL (l : List Cg) : List Cg := l.reverse.map invC
theorem invertL_len (l : List Cg) : (invertL l).length = l.length := by simp [invertL]
theorem invertL_at {l : List Cg} {p q : Nat} {c : Cg} (h : l[p]? = some c) (hpq : p + 1 + q = l.length) : (invertL l)[q]? = some (invC c) := by
  obtain ⟨hp, rfl⟩ := List.getElem?_eq_some_iff.1 h
  unfold invertL
  rw [List.getElem?_map, List.getElem?_reverse (by omega)]
  have : l.length - 1 - q = p := by omega
  rw [this, List.getElem?_eq_getElem hp]
  rfl
theorem own_snoc_cg {w : World} {base k : Nat} {e : TypeId} {v x : Value} {L : List Cg} {y : Cg} (hx : x = .agg #[.bool y.ins, .int .i64 y.e.id, .int .i64 y.e.fr, .int .i64 y.e.to, .int .i64 y.e.lb]) (hy : L[k]? = some y) (h : w.ownsRow base e 5 v (k + 1) (cgcs (L.take k) ++ x.cells.toList)) :
    w.ownsRow base e 5 v (k + 1) (cgcs (L.take (k + 1))) := by
  subst hx
  obtain ⟨hk, rfl⟩ := List.getElem?_eq_some_iff.1 hy
  rw [List.take_succ_eq_append_getElem hk, cgcs_append]
  exact h
theorem change_cells {w : World} {B b o n k : Nat} {es : List Cg} {e : Cg} (h : Reads w B 5 (some ⟨b, o, none⟩) n (cgcs es)) (he : es[k]? = some e) : w.cell? ⟨b, o + k * 5, none⟩ = some (.bool e.ins) ∧ w.cell? ⟨b, o + k * 5 + 1, none⟩ = some (.int .i64 e.e.id) ∧ w.cell? ⟨b, o + k * 5 + 2, none⟩ = some (.int .i64 e.e.fr) ∧ w.cell? ⟨b, o + k * 5 + 3, none⟩ = some (.int .i64 e.e.to) ∧ w.cell? ⟨b, o + k * 5 + 4, none⟩ = some (.int .i64 e.e.lb) := by
  have hk := (List.getElem?_eq_some_iff.1 he).1
  have hl : es.length = n := by have := h.1; rw [cgcs_len] at this; omega
  obtain ⟨b2, o2, hA, _, e2, he2, c0, c1, c2, c3, c4⟩ := change_at (k := k) h hl (by omega)
  have hbo : b = b2 ∧ o = o2 := by simpa using hA
  obtain ⟨rfl, rfl⟩ := hbo
  obtain rfl : e = e2 := by rw [he] at he2; simpa using he2
  exact ⟨c0, c1, c2, c3, c4⟩
end Go.Proofs.YtcnbgpelfkbmpaaDoor
