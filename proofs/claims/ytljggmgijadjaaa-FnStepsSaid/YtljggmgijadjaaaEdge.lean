/- Edges and graphs: toEdge, toEdgeS, toGraph, eqEdge, eqEdgeS, eqGraph, markEdgeS, heldEdgeS, markGraph, heldGraph, szGraph. -/
import Derived.Test.YtljggmgijadjaaaInts
namespace Go.Proofs.Ytljggmgijadjaaa
open Go.RowKit Go.ChangeShapes Go.WideShapes Go.ChangeAt Go.Deep
set_option linter.unusedVariables false

structure E where
  id : Int
  fr : Int
  to : Int
  lb : Int
deriving DecidableEq
def ec (e : E) : List Value := [.int .i64 e.id, .int .i64 e.fr, .int .i64 e.to, .int .i64 e.lb]
def ecs (es : List E) : List Value := es.flatMap ec
theorem app_edge : AppTy Try.prog 25 48 (.agg #[.int .i64 0, .int .i64 0, .int .i64 0, .int .i64 0]) 4 32 := ⟨Try.underlying25, by kernel_rfl, rfl, by decide⟩
theorem ecs_len (es : List E) : (ecs es).length = es.length * 4 := by
  induction es with
  | nil => rfl
  | cons e es ih => simp [ecs, List.flatMap_cons, ec] at *; omega
theorem ecs_cons (e : E) (es : List E) : ecs (e :: es) = ec e ++ ecs es := rfl
theorem ecs_append (a b : List E) : ecs (a ++ b) = ecs a ++ ecs b := by simp [ecs]
theorem ecs_at : ∀ (es : List E) (k j : Nat) (hk : k < es.length) (hj : j < 4), (ecs es)[k * 4 + j]? = (ec es[k])[j]?
  | e :: es, 0, j, hk, hj => by
    rw [ecs_cons, List.getElem?_append_left (by simp [ec]; omega)]
    simp
  | e :: es, k + 1, j, hk, hj => by
    rw [ecs_cons, List.getElem?_append_right (by simp [ec]; omega)]
    have : (k + 1) * 4 + j - (ec e).length = k * 4 + j := by simp [ec]; omega
    rw [this, ecs_at es k j (by simpa using hk) hj]
    simp
theorem ecs_one : ∀ (es : List E), ∀ u ∈ ecs es, u.oneCell' = true := by
  intro es u hu
  obtain ⟨e, _, he⟩ := List.mem_flatMap.1 hu
  simp [ec] at he
  rcases he with rfl | rfl | rfl | rfl <;> rfl
theorem add_plain (b o i : Nat) : (⟨b, o, none⟩ : Addr).add i = ⟨b, o + i, none⟩ := by unfold Addr.add; split <;> simp_all
/-- The cells of edge k, in a world where the row reads. -/
theorem edge_at {w : World} {B n k : Nat} {A : Option Addr} {es : List E} (h : Reads w B 4 A n (ecs es)) (hl : es.length = n) (hk : k < n) :
    ∃ b o, A = some ⟨b, o, none⟩ ∧ b < B ∧ ∃ e, es[k]? = some e ∧ w.cell? ⟨b, o + k * 4, none⟩ = some (.int .i64 e.id) ∧ w.cell? ⟨b, o + k * 4 + 1, none⟩ = some (.int .i64 e.fr) ∧ w.cell? ⟨b, o + k * 4 + 2, none⟩ = some (.int .i64 e.to) ∧ w.cell? ⟨b, o + k * 4 + 3, none⟩ = some (.int .i64 e.lb) := by
  obtain ⟨⟨b, o, sp⟩, hA, hb, hc⟩ := h.2 (by omega)
  have hkl : k < es.length := by omega
  have c0 := hc _ _ (ecs_at es 0 0 (by omega) (by omega))
  have hsp : sp = none := by
    have h0 := hc 0 (.int .i64 (es[0]'(by omega)).id) (ecs_at es 0 0 (by omega) (by omega))
    simpa [Addr.add] using World.cell?_spot h0
  subst hsp
  refine ⟨b, o, hA, hb, es[k], List.getElem?_eq_getElem hkl, ?_, ?_, ?_, ?_⟩
  · have := hc _ _ (ecs_at es k 0 hkl (by omega))
    rwa [add_plain] at this
  · have := hc _ _ (ecs_at es k 1 hkl (by omega))
    rwa [add_plain, ← Nat.add_assoc] at this
  · have := hc _ _ (ecs_at es k 2 hkl (by omega))
    rwa [add_plain, ← Nat.add_assoc] at this
  · have := hc _ _ (ecs_at es k 3 hkl (by omega))
    rwa [add_plain, ← Nat.add_assoc] at this
theorem own_some {w : World} {base g n cap size : Nat} {e : TypeId} {xs : List Value} (h : w.ownsRow base e size (.slice (some ⟨g, 0, none⟩) n cap) n xs) (j : Nat) (hj : j < n * size) : ∃ z, w.cell? ⟨g, j, none⟩ = some z := by
  have hl := h.1
  exact ⟨xs[j]'(by omega), by rw [h.cellAt j hj, List.getElem?_eq_getElem]⟩
theorem get_of_some {α : Type} {R : List α} {k : Nat} {x : α} (h : R[k]? = some x) : ∃ hk : k < R.length, R[k] = x := by
  obtain ⟨hk, hx⟩ := List.getElem?_eq_some_iff.1 h
  exact ⟨hk, hx⟩
/-- Four cells stored: element k of a row of four-cell elements. -/
theorem own4 {w : World} {base g n cap k : Nat} {e : TypeId} {R L : List Value} {u0 u1 u2 u3 : Value} (h : w.ownsRow base e 4 (.slice (some ⟨g, 0, none⟩) n cap) n (R.take (k * 4) ++ L.drop (k * 4))) (hL : L.length = R.length)
    (h0 : R[k * 4]? = some u0) (h1 : R[k * 4 + 1]? = some u1) (h2 : R[k * 4 + 2]? = some u2) (h3 : R[k * 4 + 3]? = some u3) :
    ((((w.setCell ⟨g, k * 4, none⟩ u0).setCell ⟨g, k * 4 + 1, none⟩ u1).setCell ⟨g, k * 4 + 2, none⟩ u2).setCell ⟨g, k * 4 + 3, none⟩ u3).ownsRow base e 4 (.slice (some ⟨g, 0, none⟩) n cap) n (R.take ((k + 1) * 4) ++ L.drop ((k + 1) * 4)) := by
  obtain ⟨k0, e0⟩ := get_of_some h0
  obtain ⟨k1, e1⟩ := get_of_some h1
  obtain ⟨k2, e2⟩ := get_of_some h2
  obtain ⟨k3, e3⟩ := get_of_some h3
  have s0 := (h.stored (k * 4) u0).1
  rw [set_take L R _ _ k0 hL e0] at s0
  have s1 := (s0.stored (k * 4 + 1) u1).1
  rw [set_take L R _ _ k1 hL e1] at s1
  have s2 := (s1.stored (k * 4 + 2) u2).1
  rw [set_take L R _ _ k2 hL e2] at s2
  have s3 := (s2.stored (k * 4 + 3) u3).1
  rw [set_take L R _ _ k3 hL e3] at s3
  have hk : (k + 1) * 4 = k * 4 + 3 + 1 := by omega
  rw [hk]
  exact s3
theorem bcell {W w1 : World} (hb : Below W.heap.size W w1) : (∀ b o, b < W.heap.size → w1.cell? ⟨b, o, none⟩ = W.cell? ⟨b, o, none⟩) ∧ (∀ b o, b < W.heap.size → w1.frozen? ⟨b, o, none⟩ = W.frozen? ⟨b, o, none⟩) :=
  ⟨fun b o h => hb.cell (p := ⟨b, o, none⟩) h, fun b o h => hb.frozen (p := ⟨b, o, none⟩) h⟩
theorem cell_keep {X w1 : World} {p : Addr} {v : Value} (hb : Below X.heap.size X w1) (h : X.cell? p = some v) : w1.cell? p = some v := (hb.cell (World.block_lt_of_cell? X p h)).trans h
theorem cell_al {w : World} {p : Addr} {v : Value} (o : Obj) (h : w.cell? p = some v) : (w.alloc o).cell? p = some v := (World.cell?_alloc_lt w o p (World.block_lt_of_cell? w p h)).trans h
theorem frozen_keep {X w1 : World} {p : Addr} {v : Value} (hb : Below X.heap.size X w1) (h : X.cell? p = some v) (hf : X.frozen? p = false) : w1.frozen? p = false := (hb.frozen (World.block_lt_of_cell? X p h)).trans hf
/-- A world that has at most new blocks beside w's own. -/
structure Kept (w : World) where
  W : World
  be : Below w.heap.size w W
instance (w : World) : Nonempty (Kept w) := ⟨⟨w, Below.refl _ _⟩⟩
theorem Kept.cell {w : World} {p : Addr} {v : Value} (h : w.cell? p = some v) (x : Kept w) : x.W.cell? p = some v := cell_keep x.be h
theorem wp_region_kept {P : Program} {id : Nat} {Q : Exit → Act → World → Prop} {a : Act} {w : World} {l : List Oper} (hm : P.follows .mixedOrders = true) (hB : Region.lexB .any l.toArray = true)
    (h : wpQuiet P l.toArray (fun w' => ∃ x : Kept w, w' = x.W) (fun a' => ∀ w', (∃ x : Kept w, w' = x.W) → Q .normal a' w') l a) : (Code.region id l.toArray true).wp P Q a w :=
  wp_region_quiet (C := fun w' => ∃ x : Kept w, w' = x.W) hm hB ⟨⟨w.drew, (Below.refl _ _).drew⟩, rfl⟩ (by simpa using h)
theorem Calls.kept {P : Program} {f : FuncId} {args : Array Value} {w : World} {x : Kept w} {v : Value} (h : Calls P f args x.W fun e w' => e = .returned v ∧ Below x.W.heap.size x.W w') :
    Calls P f args x.W fun e w'' => e = .returned v ∧ ∃ y : Kept w, w'' = y.W :=
  h.mono fun _ w'' ⟨he, hb⟩ => ⟨he, ⟨w'', below_then x.be hb⟩, rfl⟩
structure G where
  vs : List Int
  es : List E
deriving DecidableEq
/-- Two slice values that read as a graph. -/
structure GReads (w : World) (A : Option Addr) (n : Nat) (B : Option Addr) (m : Nat) (g : G) : Prop where
  ln : g.vs.length = n
  lm : g.es.length = m
  rv : Reads w w.heap.size 1 A n (g.vs.map iv)
  re : Reads w w.heap.size 4 B m (ecs g.es)
theorem GReads.up {W w : World} {A B : Option Addr} {n m : Nat} {g : G} (h : GReads W A n B m g) (hb : Below W.heap.size W w) : GReads w A n B m g :=
  ⟨h.ln, h.lm, reads_up h.rv hb, reads_up h.re hb⟩
/-- Two slice values of the call's own that read as a graph. -/
structure GOwn (w : World) (base : Nat) (u v : Value) (g : G) : Prop where
  ov : w.ownsRow base 3 1 u g.vs.length (g.vs.map iv)
  oe : w.ownsRow base 48 4 v g.es.length (ecs g.es)
theorem GOwn.below {w w' : World} {base : Nat} {u v : Value} {g : G} (h : GOwn w base u v g) (hb : Below w.heap.size w w') : GOwn w' base u v g :=
  ⟨own_below h.ov hb (Nat.le_refl _), own_below h.oe hb (Nat.le_refl _)⟩
theorem GOwn.form {w : World} {base : Nat} {u v : Value} {g : G} (h : GOwn w base u v g) : ∃ A c B d, u = .slice A g.vs.length c ∧ v = .slice B g.es.length d ∧ GReads w A g.vs.length B g.es.length g := by
  obtain ⟨A, c, h1, _, _, h2⟩ := own_form h.ov
  obtain ⟨B, d, h3, _, _, h4⟩ := own_form h.oe
  exact ⟨A, c, B, d, h1, h3, rfl, rfl, h2, h4⟩
end Go.Proofs.Ytljggmgijadjaaa
