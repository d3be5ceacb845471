/- StepsFrom of both packages. -/
import Derived.Test.YtcnbgpelfkbmpaaDoorStepA
import Derived.Test.YtcnbgpelfkbmpaaDoorRevG
namespace Go.Proofs.YtcnbgpelfkbmpaaDoor
open Go.RowKit Go.ChangeShapes Go.WideShapes Go.ChangeAt Go.Deep
set_option linter.unusedVariables false
def stepsOf (node : Int) (e : E) : List St := (if e.fr = node then [⟨e.id, false⟩] else []) ++ (if e.to = node then [⟨e.id, true⟩] else [])
def accSt (es : List E) (node : Int) (k : Nat) : List St := (es.take k).flatMap (stepsOf node)
theorem accSt_succ {es : List E} {node : Int} {k : Nat} {e : E} (h : es[k]? = some e) : accSt es node (k + 1) = accSt es node k ++ stepsOf node e := by
  obtain ⟨hk, rfl⟩ := List.getElem?_eq_some_iff.1 h
  unfold accSt
  rw [List.take_succ_eq_append_getElem hk, List.flatMap_append]
  simp
theorem stepsOf_len (node : Int) (e : E) : (stepsOf node e).length ≤ 2 := by
  unfold stepsOf
  split <;> split <;> simp
theorem accSt_len (es : List E) (node : Int) : ∀ k, (accSt es node k).length ≤ 2 * k
  | 0 => by simp [accSt]
  | k + 1 => by
    have ih := accSt_len es node k
    cases h : es[k]? with
    | none =>
      have : es.length ≤ k := by simpa using h
      have h1 : accSt es node (k + 1) = accSt es node k := by
        unfold accSt
        rw [List.take_of_length_le (by omega), List.take_of_length_le this]
      rw [h1]
      omega
    | some e =>
      rw [accSt_succ h, List.length_append]
      have := stepsOf_len node e
      omega
def stepsF (g : G) (node : Int) : List St := if validG g then accSt g.es node g.es.length else []
theorem own_snoc_st {w : World} {base q : Nat} {e : TypeId} {v x : Value} {L : List St} (y : St) (hx : x = .agg #[.int .i64 y.ed, .bool y.inv]) (h : w.ownsRow base e 2 v (q + 1) (stcs L ++ x.cells.toList)) : w.ownsRow base e 2 v (q + 1) (stcs (L ++ [y])) := by
  subst hx
  rw [stcs_append]
  exact h
theorem edge_cells {w : World} {B b o n k : Nat} {es : List E} {e : E} (h : Reads w B 4 (some ⟨b, o, none⟩) n (ecs es)) (he : es[k]? = some e) : w.cell? ⟨b, o + k * 4, none⟩ = some (.int .i64 e.id) ∧ w.cell? ⟨b, o + k * 4 + 1, none⟩ = some (.int .i64 e.fr) ∧ w.cell? ⟨b, o + k * 4 + 2, none⟩ = some (.int .i64 e.to) ∧ w.cell? ⟨b, o + k * 4 + 3, none⟩ = some (.int .i64 e.lb) := by
  have hk := (List.getElem?_eq_some_iff.1 he).1
  have hl : es.length = n := by have := h.1; rw [ecs_len] at this; omega
  obtain ⟨b2, o2, hA, _, e2, he2, c0, c1, c2, c3⟩ := edge_at (k := k) h hl (by omega)
  have hbo : b = b2 ∧ o = o2 := by simpa using hA
  obtain ⟨rfl, rfl⟩ := hbo
  obtain rfl : e = e2 := by rw [he] at he2; simpa using he2
  exact ⟨c0, c1, c2, c3⟩
end Go.Proofs.YtcnbgpelfkbmpaaDoor
