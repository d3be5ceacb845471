/- ReverseGraph of both packages. -/
import Derived.Test.YtcnbgpelfkbmpaaDoorSetV
namespace Go.Proofs.YtcnbgpelfkbmpaaDoor
open Go.RowKit Go.ChangeShapes Go.WideShapes Go.ChangeAt Go.Deep
set_option linter.unusedVariables false
theorem Tch.drew {lo hi : Nat} {w w' : World} (h : Tch lo hi w w') : Tch lo hi w w'.drew := ⟨h.os, h.tape, h.output, h.size, h.block⟩
theorem Tch.alloc {lo hi : Nat} {w w' : World} (h : Tch lo hi w w') (o : Obj) : Tch lo hi w (w'.alloc o) := h.trans (Tch.of_below ((Below.refl _ _).alloc (Nat.le_refl _) _))
theorem Tch.setCell {lo hi : Nat} {w w' : World} (h : Tch lo hi w w') {p : Addr} (h1 : lo ≤ p.block) (h2 : p.block < hi) (u : Value) : Tch lo hi w (w'.setCell p u) :=
  ⟨h.os, h.tape, h.output, by rw [World.size_setCell]; exact h.size, fun k hk hd => (Below.heap_setCell w' p u k (by omega)).trans (h.block k hk hd)⟩
theorem Tch.refl (lo hi : Nat) (w : World) : Tch lo hi w w := ⟨rfl, rfl, rfl, Nat.le_refl _, fun _ _ _ => rfl⟩
theorem Tch.frz {lo hi : Nat} {w w' : World} (t : Tch lo hi w w') {p : Addr} {u : Value} (h : w.cell? p = some u) (hf : w.frozen? p = false) (hd : p.block < lo ∨ hi ≤ p.block) : w'.frozen? p = false := by
  have hlt := World.block_lt_of_cell? w p h
  have hb := t.block p.block hlt hd
  rw [← hf]
  unfold World.frozen?
  rw [hb]
theorem ecs_at' {L : List E} {k : Nat} {e : E} (h : L[k]? = some e) (j : Nat) (u : Value) (hj : (ec e)[j]? = some u) : (ecs L)[k * 4 + j]? = some u := flatMap_get (f := ec) (size := 4) (fun _ => rfl) h hj
theorem RIs.drew {w : World} {a b : Nat} {e : TypeId} {size n c : Nat} {A : Option Addr} {xs : List Value} (h : RIs w a b e size A n c xs) : RIs w.drew a b e size A n c xs := ⟨⟨own_drew h.own.row, h.own.top⟩, h.bd⟩
theorem GIs.drew {w : World} {a b : Nat} {n c m d : Nat} {A B : Option Addr} {xs ys : List Value} (h : GIs w a b A n c B m d xs ys) : GIs w.drew a b A n c B m d xs ys := ⟨h.ou.drew, h.ov.drew⟩
def revE (e : E) : E := ⟨e.id, e.to, e.fr, e.lb⟩
def revG (g : G) : G := ⟨g.vs, g.es.map revE⟩
theorem ecs_set_fr : ∀ (L : List E) (k : Nat) (e : E) (a : Int), L[k]? = some e → (ecs L).set (k * 4 + 1) (.int .i64 a) = ecs (L.set k ⟨e.id, a, e.to, e.lb⟩)
  | x :: L, 0, e, a, h => by
    obtain rfl : x = e := by simpa using h
    rfl
  | x :: L, k + 1, e, a, h => by
    have h2 : L[k]? = some e := by simpa using h
    rw [List.set_cons_succ, ecs_cons, ecs_cons, ← ecs_set_fr L k e a h2]
    rw [List.set_append_right _ _ (by simp [ec]; omega)]
    congr 2
    simp [ec]; omega
theorem ecs_set_to : ∀ (L : List E) (k : Nat) (e : E) (a : Int), L[k]? = some e → (ecs L).set (k * 4 + 2) (.int .i64 a) = ecs (L.set k ⟨e.id, e.fr, a, e.lb⟩)
  | x :: L, 0, e, a, h => by
    obtain rfl : x = e := by simpa using h
    rfl
  | x :: L, k + 1, e, a, h => by
    have h2 : L[k]? = some e := by simpa using h
    rw [List.set_cons_succ, ecs_cons, ecs_cons, ← ecs_set_to L k e a h2]
    rw [List.set_append_right _ _ (by simp [ec]; omega)]
    congr 2
    simp [ec]; omega
/-- One edge turned round in a row of which k are turned. -/
theorem rev_step {es : List E} {k : Nat} {e : E} (h : es[k]? = some e) :
    ((ecs ((es.map revE).take k ++ es.drop k)).set (k * 4 + 1) (.int .i64 e.to)).set (k * 4 + 2) (.int .i64 e.fr) = ecs ((es.map revE).take (k + 1) ++ es.drop (k + 1)) := by
  obtain ⟨hk, rfl⟩ := List.getElem?_eq_some_iff.1 h
  have h1 : ((es.map revE).take k ++ es.drop k)[k]? = some es[k] := by
    rw [List.getElem?_append_right (by simp; omega)]
    simp [Nat.min_eq_left (Nat.le_of_lt hk), List.getElem?_drop, List.getElem?_eq_getElem hk]
  rw [ecs_set_fr _ k _ _ h1]
  rw [ecs_set_to _ k _ _ (List.getElem?_set_self (by simp; omega)), List.set_set]
  congr 1
  exact set_take es (es.map revE) k (revE es[k]) (by simpa using hk) (by simp) (by simp)
theorem rev_at {es : List E} {k : Nat} {e : E} (h : es[k]? = some e) : ((es.map revE).take k ++ es.drop k)[k]? = some e := by
  obtain ⟨hk, rfl⟩ := List.getElem?_eq_some_iff.1 h
  rw [List.getElem?_append_right (by simp; omega)]
  simp [Nat.min_eq_left (Nat.le_of_lt hk), List.getElem?_drop, List.getElem?_eq_getElem hk]
/-- A row of the call's own that is grown: what lay there before it was made stands. -/
theorem Tch.grown {lo hi base : Nat} {w w4 w5 : World} {e : TypeId} {size n : Nat} {v : Value} {xs : List Value} (t : Tch lo hi w w4) (hown : w4.ownsRow base e size v n xs) (hb : w.heap.size ≤ base) (hg : w4.grownBy w5 v.ownBlock) : Tch lo hi w w5 :=
  ⟨hg.os.trans t.os, hg.tape.trans t.tape, hg.output.trans t.output, Nat.le_trans t.size hg.size, fun k hk hd =>
    (hg.block k (Nat.lt_of_lt_of_le hk t.size) (fun hh => by have := (ownBlock_some hown hh.symm).1; omega)).trans (t.block k hk hd)⟩
theorem own_snoc_ec {w : World} {base k : Nat} {e : TypeId} {v x : Value} {L : List E} {y : E} (hx : x = .agg #[.int .i64 y.id, .int .i64 y.fr, .int .i64 y.to, .int .i64 y.lb]) (hy : L[k]? = some y) (h : w.ownsRow base e 4 v (k + 1) (ecs (L.take k) ++ x.cells.toList)) :
    w.ownsRow base e 4 v (k + 1) (ecs (L.take (k + 1))) := by
  subst hx
  obtain ⟨hk, rfl⟩ := List.getElem?_eq_some_iff.1 hy
  rw [List.take_succ_eq_append_getElem hk, ecs_append]
  exact h
end Go.Proofs.YtcnbgpelfkbmpaaDoor
