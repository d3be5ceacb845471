/- ReverseGraph of both packages. -/
import Derived.Test.YtljggmgijadjaaaSetV
import Derived.Test.YtljggmgijadjaaaKp
namespace Go.Proofs.Ytljggmgijadjaaa
open Go.RowKit Go.ChangeShapes Go.WideShapes Go.ChangeAt Go.Deep
set_option linter.unusedVariables false
theorem ecs_at' {L : List E} {k : Nat} {e : E} (h : L[k]? = some e) (j : Nat) (u : Value) (hj : (ec e)[j]? = some u) : (ecs L)[k * 4 + j]? = some u := flatMap_get (f := ec) (size := 4) (fun _ => rfl) h hj
theorem RIs.drew {w : World} {a b : Nat} {e : TypeId} {size n c : Nat} {A : Option Addr} {xs : List Value} (h : RIs w a b e size A n c xs) : RIs w.drew a b e size A n c xs := ⟨⟨own_drew h.own.row, h.own.top⟩, h.bd⟩
theorem GIs.drew {w : World} {a b : Nat} {n c m d : Nat} {A B : Option Addr} {xs ys : List Value} (h : GIs w a b A n c B m d xs ys) : GIs w.drew a b A n c B m d xs ys := ⟨h.ou.drew, h.ov.drew⟩
def revE (e : E) : E := ⟨e.id, e.to, e.fr, e.lb⟩
def revG (g : G) : G := ⟨g.vs, g.es.map revE⟩
theorem ecs_set_fr : ∀ (L : List E) (k : Nat) (e : E) (a : Int), L[k]? = some e → (ecs L).set (k * 4 + 1) (.int .i64 a) = ecs (L.set k ⟨e.id, a, e.to, e.lb⟩)
  | x :: L, 0, e, a, h => by
    obtain rfl : x = e := by simpa using h
    rfl
  | x :: L, k + 1, e, a, h => by
    have h2 : L[k]? = some e := by simpa using h
    rw [List.set_cons_succ, ecs_cons, ecs_cons, ← ecs_set_fr L k e a h2]
    rw [List.set_append_right _ _ (by simp [ec]; omega)]
    congr 2
    simp [ec]; omega
theorem ecs_set_to : ∀ (L : List E) (k : Nat) (e : E) (a : Int), L[k]? = some e → (ecs L).set (k * 4 + 2) (.int .i64 a) = ecs (L.set k ⟨e.id, e.fr, a, e.lb⟩)
  | x :: L, 0, e, a, h => by
    obtain rfl : x = e := by simpa using h
    rfl
  | x :: L, k + 1, e, a, h => by
    have h2 : L[k]? = some e := by simpa using h
    rw [List.set_cons_succ, ecs_cons, ecs_cons, ← ecs_set_to L k e a h2]
    rw [List.set_append_right _ _ (by simp [ec]; omega)]
    congr 2
    simp [ec]; omega
/-- One edge turned round in a row of which k are turned. -/
theorem rev_step {es : List E} {k : Nat} {e : E} (h : es[k]? = some e) :
    ((ecs ((es.map revE).take k ++ es.drop k)).set (k * 4 + 1) (.int .i64 e.to)).set (k * 4 + 2) (.int .i64 e.fr) = ecs ((es.map revE).take (k + 1) ++ es.drop (k + 1)) := by
  obtain ⟨hk, rfl⟩ := List.getElem?_eq_some_iff.1 h
  have h1 : ((es.map revE).take k ++ es.drop k)[k]? = some es[k] := by
    rw [List.getElem?_append_right (by simp; omega)]
    simp [Nat.min_eq_left (Nat.le_of_lt hk), List.getElem?_drop, List.getElem?_eq_getElem hk]
  rw [ecs_set_fr _ k _ _ h1]
  rw [ecs_set_to _ k _ _ (List.getElem?_set_self (by simp; omega)), List.set_set]
  congr 1
  exact set_take es (es.map revE) k (revE es[k]) (by simpa using hk) (by simp) (by simp)
theorem rev_at {es : List E} {k : Nat} {e : E} (h : es[k]? = some e) : ((es.map revE).take k ++ es.drop k)[k]? = some e := by
  obtain ⟨hk, rfl⟩ := List.getElem?_eq_some_iff.1 h
  rw [List.getElem?_append_right (by simp; omega)]
  simp [Nat.min_eq_left (Nat.le_of_lt hk), List.getElem?_drop, List.getElem?_eq_getElem hk]
/-- A row of the call's own that is grown: what lay there before it was made stands. -/
theorem own_snoc_ec {w : World} {base k : Nat} {e : TypeId} {v x : Value} {L : List E} {y : E} (hx : x = .agg #[.int .i64 y.id, .int .i64 y.fr, .int .i64 y.to, .int .i64 y.lb]) (hy : L[k]? = some y) (h : w.ownsRow base e 4 v (k + 1) (ecs (L.take k) ++ x.cells.toList)) :
    w.ownsRow base e 4 v (k + 1) (ecs (L.take (k + 1))) := by
  subst hx
  obtain ⟨hk, rfl⟩ := List.getElem?_eq_some_iff.1 hy
  rw [List.take_succ_eq_append_getElem hk, ecs_append]
  exact h
end Go.Proofs.Ytljggmgijadjaaa
