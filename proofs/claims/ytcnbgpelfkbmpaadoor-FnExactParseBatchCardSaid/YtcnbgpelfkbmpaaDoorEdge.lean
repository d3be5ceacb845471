/- Edges and graphs: toEdge, toEdgeS, toGraph, eqEdge, eqEdgeS, eqGraph, markEdgeS, heldEdgeS, markGraph, heldGraph, szGraph. -/
import Derived.Test.YtcnbgpelfkbmpaaDoorInts
namespace Go.Proofs.YtcnbgpelfkbmpaaDoor
open Go.RowKit Go.ChangeShapes Go.WideShapes Go.ChangeAt Go.Deep
set_option linter.unusedVariables false

structure E where
  id : Int
  fr : Int
  to : Int
  lb : Int
deriving DecidableEq
def ec (e : E) : List Value := [.int .i64 e.id, .int .i64 e.fr, .int .i64 e.to, .int .i64 e.lb]
def ecs (es : List E) : List Value := es.flatMap ec
theorem app_edge : AppTy Tryd.prog 54 35 (.agg #[.int .i64 0, .int .i64 0, .int .i64 0, .int .i64 0]) 4 32 := ⟨Tryd.underlying54, by kernel_rfl, rfl, by decide⟩
theorem toEdge_any (e : E) (w : World) : Calls Tryd.prog 26 #[.agg #[.int .i64 e.id, .int .i64 e.fr, .int .i64 e.to, .int .i64 e.lb]] w fun r w' => r = .returned (.agg #[.int .i64 e.id, .int .i64 e.fr, .int .i64 e.to, .int .i64 e.lb]) ∧ Below w.heap.size w w' := by
  obtain ⟨a, b, c, d⟩ := e
  go_enter Tryd.func26, Tryd.ntmps26
  go_wp2
  exact bodyPost_ret (v := .agg #[.int .i64 a, .int .i64 b, .int .i64 c, .int .i64 d]) (by simp [results, Tryd.results26, go_sem]) rfl ⟨rfl, by repeat (first | exact Below.refl _ _ | refine Below.alloc ?_ (by first | exact Nat.le_refl _ | (simp only [World.size_alloc]; omega)) _)⟩

theorem ecs_len (es : List E) : (ecs es).length = es.length * 4 := by
  induction es with
  | nil => rfl
  | cons e es ih => simp [ecs, List.flatMap_cons, ec] at *; omega
theorem ecs_cons (e : E) (es : List E) : ecs (e :: es) = ec e ++ ecs es := rfl
theorem ecs_append (a b : List E) : ecs (a ++ b) = ecs a ++ ecs b := by simp [ecs]
theorem ecs_at : ∀ (es : List E) (k j : Nat) (hk : k < es.length) (hj : j < 4), (ecs es)[k * 4 + j]? = (ec es[k])[j]?
  | e :: es, 0, j, hk, hj => by
    rw [ecs_cons, List.getElem?_append_left (by simp [ec]; omega)]
    simp
  | e :: es, k + 1, j, hk, hj => by
    rw [ecs_cons, List.getElem?_append_right (by simp [ec]; omega)]
    have : (k + 1) * 4 + j - (ec e).length = k * 4 + j := by simp [ec]; omega
    rw [this, ecs_at es k j (by simpa using hk) hj]
    simp
theorem ecs_one : ∀ (es : List E), ∀ u ∈ ecs es, u.oneCell' = true := by
  intro es u hu
  obtain ⟨e, _, he⟩ := List.mem_flatMap.1 hu
  simp [ec] at he
  rcases he with rfl | rfl | rfl | rfl <;> rfl
theorem add_plain (b o i : Nat) : (⟨b, o, none⟩ : Addr).add i = ⟨b, o + i, none⟩ := by unfold Addr.add; split <;> simp_all
/-- The cells of edge k, in a world where the row reads. -/
theorem edge_at {w : World} {B n k : Nat} {A : Option Addr} {es : List E} (h : Reads w B 4 A n (ecs es)) (hl : es.length = n) (hk : k < n) :
    ∃ b o, A = some ⟨b, o, none⟩ ∧ b < B ∧ ∃ e, es[k]? = some e ∧ w.cell? ⟨b, o + k * 4, none⟩ = some (.int .i64 e.id) ∧ w.cell? ⟨b, o + k * 4 + 1, none⟩ = some (.int .i64 e.fr) ∧ w.cell? ⟨b, o + k * 4 + 2, none⟩ = some (.int .i64 e.to) ∧ w.cell? ⟨b, o + k * 4 + 3, none⟩ = some (.int .i64 e.lb) := by
  obtain ⟨⟨b, o, sp⟩, hA, hb, hc⟩ := h.2 (by omega)
  have hkl : k < es.length := by omega
  have c0 := hc _ _ (ecs_at es 0 0 (by omega) (by omega))
  have hsp : sp = none := by
    have h0 := hc 0 (.int .i64 (es[0]'(by omega)).id) (ecs_at es 0 0 (by omega) (by omega))
    simpa [Addr.add] using World.cell?_spot h0
  subst hsp
  refine ⟨b, o, hA, hb, es[k], List.getElem?_eq_getElem hkl, ?_, ?_, ?_, ?_⟩
  · have := hc _ _ (ecs_at es k 0 hkl (by omega))
    rwa [add_plain] at this
  · have := hc _ _ (ecs_at es k 1 hkl (by omega))
    rwa [add_plain, ← Nat.add_assoc] at this
  · have := hc _ _ (ecs_at es k 2 hkl (by omega))
    rwa [add_plain, ← Nat.add_assoc] at this
  · have := hc _ _ (ecs_at es k 3 hkl (by omega))
    rwa [add_plain, ← Nat.add_assoc] at this
theorem own_some {w : World} {base g n cap size : Nat} {e : TypeId} {xs : List Value} (h : w.ownsRow base e size (.slice (some ⟨g, 0, none⟩) n cap) n xs) (j : Nat) (hj : j < n * size) : ∃ z, w.cell? ⟨g, j, none⟩ = some z := by
  have hl := h.1
  exact ⟨xs[j]'(by omega), by rw [h.cellAt j hj, List.getElem?_eq_getElem]⟩
theorem get_of_some {α : Type} {R : List α} {k : Nat} {x : α} (h : R[k]? = some x) : ∃ hk : k < R.length, R[k] = x := by
  obtain ⟨hk, hx⟩ := List.getElem?_eq_some_iff.1 h
  exact ⟨hk, hx⟩
/-- Four cells stored: element k of a row of four-cell elements. -/
theorem own4 {w : World} {base g n cap k : Nat} {e : TypeId} {R L : List Value} {u0 u1 u2 u3 : Value} (h : w.ownsRow base e 4 (.slice (some ⟨g, 0, none⟩) n cap) n (R.take (k * 4) ++ L.drop (k * 4))) (hL : L.length = R.length)
    (h0 : R[k * 4]? = some u0) (h1 : R[k * 4 + 1]? = some u1) (h2 : R[k * 4 + 2]? = some u2) (h3 : R[k * 4 + 3]? = some u3) :
    ((((w.setCell ⟨g, k * 4, none⟩ u0).setCell ⟨g, k * 4 + 1, none⟩ u1).setCell ⟨g, k * 4 + 2, none⟩ u2).setCell ⟨g, k * 4 + 3, none⟩ u3).ownsRow base e 4 (.slice (some ⟨g, 0, none⟩) n cap) n (R.take ((k + 1) * 4) ++ L.drop ((k + 1) * 4)) := by
  obtain ⟨k0, e0⟩ := get_of_some h0
  obtain ⟨k1, e1⟩ := get_of_some h1
  obtain ⟨k2, e2⟩ := get_of_some h2
  obtain ⟨k3, e3⟩ := get_of_some h3
  have s0 := (h.stored (k * 4) u0).1
  rw [set_take L R _ _ k0 hL e0] at s0
  have s1 := (s0.stored (k * 4 + 1) u1).1
  rw [set_take L R _ _ k1 hL e1] at s1
  have s2 := (s1.stored (k * 4 + 2) u2).1
  rw [set_take L R _ _ k2 hL e2] at s2
  have s3 := (s2.stored (k * 4 + 3) u3).1
  rw [set_take L R _ _ k3 hL e3] at s3
  have hk : (k + 1) * 4 = k * 4 + 3 + 1 := by omega
  rw [hk]
  exact s3
set_option maxRecDepth 4000 in
set_option maxHeartbeats 400000 in
theorem toEdgeS_any (A : Option Addr) (n c : Nat) (es : List E) (w : World) (hl : es.length = n) (hn : n ≤ 2000000) (hr : Reads w w.heap.size 4 A n (ecs es)) :
    Calls Tryd.prog 101 #[.slice A n c] w fun e w' => e = .returned (.slice (some ⟨w.heap.size, 0, none⟩) n n) ∧ w'.ownsRow w.heap.size 35 4 (.slice (some ⟨w.heap.size, 0, none⟩) n n) n (ecs es) ∧ Below w.heap.size w w' := by
  have hmk := make_eq (P := Tryd.prog) app_edge (by decide) n (small_of (by omega))
  go_enter Tryd.func101, Tryd.ntmps101
  go_wp2
  clear hmk
  go_loopw [4] (fun i wr => ∃ k : Nat, k ≤ n ∧ i = .int .i64 k ∧ wr.ownsRow w.heap.size 35 4 (.slice (some ⟨w.heap.size, 0, none⟩) n n) n ((ecs es).take (k * 4) ++ (zrow (.agg #[.int .i64 0, .int .i64 0, .int .i64 0, .int .i64 0]) (n * 4)).toList.drop (k * 4)) ∧ Below w.heap.size w wr)
    (fun i _ => n - (intOf i).toNat)
  case atStart =>
    refine ⟨0, Nat.zero_le _, rfl, ?_, (Below.refl _ _).alloc (Nat.le_refl _) _⟩
    have h := own_zrow (e := 35) (size := 4) (n := n) (W := w) (.agg #[.int .i64 0, .int .i64 0, .int .i64 0, .int .i64 0]) (Nat.le_refl _) (small_of (by omega))
    simpa using h
  case round =>
    obtain ⟨k, hk, rfl, hown, hbel⟩ := hrel
    by_cases hlt : k < n
    · obtain ⟨b, o, rfl, had, e, he, c0, c1, c2, c3⟩ := edge_at hr hl hlt
      have d0 := (hbel.cell (p := ⟨b, o + k * 4, none⟩) had).trans c0
      have d1 := (hbel.cell (p := ⟨b, o + k * 4 + 1, none⟩) had).trans c1
      have d2 := (hbel.cell (p := ⟨b, o + k * 4 + 2, none⟩) had).trans c2
      have d3 := (hbel.cell (p := ⟨b, o + k * 4 + 3, none⟩) had).trans c3
      clear c0 c1 c2 c3
      go_wp2_with fail
      refine (toEdge_any e _).mono ?_
      rintro r w1 ⟨rfl, hb1⟩
      have ho1 := own_below hown hb1 (Nat.le_refl _)
      have hbb := below_then hbel hb1
      have f0 := ho1.frozenAt (k * 4)
      have f1 := ho1.frozenAt (k * 4 + 1)
      have f2 := ho1.frozenAt (k * 4 + 2)
      have f3 := ho1.frozenAt (k * 4 + 3)
      obtain ⟨z0, g0⟩ := own_some ho1 (k * 4) (by omega)
      obtain ⟨z1, g1⟩ := own_some ho1 (k * 4 + 1) (by omega)
      obtain ⟨z2, g2⟩ := own_some ho1 (k * 4 + 2) (by omega)
      obtain ⟨z3, g3⟩ := own_some ho1 (k * 4 + 3) (by omega)
      obtain ⟨hkl, hke⟩ := get_of_some he
      have q0 := ecs_at es k 0 hkl (by omega)
      have q1 := ecs_at es k 1 hkl (by omega)
      have q2 := ecs_at es k 2 hkl (by omega)
      have q3 := ecs_at es k 3 hkl (by omega)
      rw [hke] at q0 q1 q2 q3
      have HS := Lib.hid (own4 (L := (zrow (.agg #[.int .i64 0, .int .i64 0, .int .i64 0, .int .i64 0]) (n * 4)).toList) ho1 (by rw [ecs_len, Array.length_toList, zrow_size, hl]) q0 q1 q2 q3)
      clear q0 q1 q2 q3 he hke
      go_wp2
      go_roundw
      case rel => exact ⟨k + 1, by omega, by go_num, HS.out, (((hbb.setCell (Nat.le_refl _) _).setCell (Nat.le_refl _) _).setCell (Nat.le_refl _) _).setCell (Nat.le_refl _) _⟩
      case measure => simp [intOf]; omega
    · obtain rfl : k = n := by omega
      have hz : (zrow (.agg #[.int .i64 0, .int .i64 0, .int .i64 0, .int .i64 0]) (k * 4)).toList.length = k * 4 := by rw [Array.length_toList, zrow_size]
      rw [List.take_of_length_le (by rw [ecs_len]; omega), List.drop_of_length_le (by omega), List.append_nil] at hown
      clear hz
      go_wp2
      go_ret
      exact ⟨rfl, hown, hbel⟩

theorem bcell {W w1 : World} (hb : Below W.heap.size W w1) : (∀ b o, b < W.heap.size → w1.cell? ⟨b, o, none⟩ = W.cell? ⟨b, o, none⟩) ∧ (∀ b o, b < W.heap.size → w1.frozen? ⟨b, o, none⟩ = W.frozen? ⟨b, o, none⟩) :=
  ⟨fun b o h => hb.cell (p := ⟨b, o, none⟩) h, fun b o h => hb.frozen (p := ⟨b, o, none⟩) h⟩
theorem cell_keep {X w1 : World} {p : Addr} {v : Value} (hb : Below X.heap.size X w1) (h : X.cell? p = some v) : w1.cell? p = some v := (hb.cell (World.block_lt_of_cell? X p h)).trans h
theorem cell_al {w : World} {p : Addr} {v : Value} (o : Obj) (h : w.cell? p = some v) : (w.alloc o).cell? p = some v := (World.cell?_alloc_lt w o p (World.block_lt_of_cell? w p h)).trans h
theorem frozen_keep {X w1 : World} {p : Addr} {v : Value} (hb : Below X.heap.size X w1) (h : X.cell? p = some v) (hf : X.frozen? p = false) : w1.frozen? p = false := (hb.frozen (World.block_lt_of_cell? X p h)).trans hf
/-- A world that has at most new blocks beside w's own. -/
structure Kept (w : World) where
  W : World
  be : Below w.heap.size w W
instance (w : World) : Nonempty (Kept w) := ⟨⟨w, Below.refl _ _⟩⟩
theorem Kept.cell {w : World} {p : Addr} {v : Value} (h : w.cell? p = some v) (x : Kept w) : x.W.cell? p = some v := cell_keep x.be h
theorem wp_region_kept {P : Program} {id : Nat} {Q : Exit → Act → World → Prop} {a : Act} {w : World} {l : List Oper} (hm : P.follows .mixedOrders = true) (hB : Region.lexB .any l.toArray = true)
    (h : wpQuiet P l.toArray (fun w' => ∃ x : Kept w, w' = x.W) (fun a' => ∀ w', (∃ x : Kept w, w' = x.W) → Q .normal a' w') l a) : (Code.region id l.toArray true).wp P Q a w :=
  wp_region_quiet (C := fun w' => ∃ x : Kept w, w' = x.W) hm hB ⟨⟨w.drew, (Below.refl _ _).drew⟩, rfl⟩ (by simpa using h)
theorem Calls.kept {P : Program} {f : FuncId} {args : Array Value} {w : World} {x : Kept w} {v : Value} (h : Calls P f args x.W fun e w' => e = .returned v ∧ Below x.W.heap.size x.W w') :
    Calls P f args x.W fun e w'' => e = .returned v ∧ ∃ y : Kept w, w'' = y.W :=
  h.mono fun _ w'' ⟨he, hb⟩ => ⟨he, ⟨w'', below_then x.be hb⟩, rfl⟩
structure G where
  vs : List Int
  es : List E
deriving DecidableEq
/-- Two slice values that read as a graph. -/
structure GReads (w : World) (A : Option Addr) (n : Nat) (B : Option Addr) (m : Nat) (g : G) : Prop where
  ln : g.vs.length = n
  lm : g.es.length = m
  rv : Reads w w.heap.size 1 A n (g.vs.map iv)
  re : Reads w w.heap.size 4 B m (ecs g.es)
theorem GReads.up {W w : World} {A B : Option Addr} {n m : Nat} {g : G} (h : GReads W A n B m g) (hb : Below W.heap.size W w) : GReads w A n B m g :=
  ⟨h.ln, h.lm, reads_up h.rv hb, reads_up h.re hb⟩
/-- Two slice values of the call's own that read as a graph. -/
structure GOwn (w : World) (base : Nat) (u v : Value) (g : G) : Prop where
  ov : w.ownsRow base 3 1 u g.vs.length (g.vs.map iv)
  oe : w.ownsRow base 35 4 v g.es.length (ecs g.es)
theorem GOwn.below {w w' : World} {base : Nat} {u v : Value} {g : G} (h : GOwn w base u v g) (hb : Below w.heap.size w w') : GOwn w' base u v g :=
  ⟨own_below h.ov hb (Nat.le_refl _), own_below h.oe hb (Nat.le_refl _)⟩
theorem GOwn.form {w : World} {base : Nat} {u v : Value} {g : G} (h : GOwn w base u v g) : ∃ A c B d, u = .slice A g.vs.length c ∧ v = .slice B g.es.length d ∧ GReads w A g.vs.length B g.es.length g := by
  obtain ⟨A, c, h1, _, _, h2⟩ := own_form h.ov
  obtain ⟨B, d, h3, _, _, h4⟩ := own_form h.oe
  exact ⟨A, c, B, d, h1, h3, rfl, rfl, h2, h4⟩
set_option maxRecDepth 4000 in
set_option maxHeartbeats 400000 in
theorem toGraph_any (A B : Option Addr) (n c m d : Nat) (g : G) (w : World) (hg : GReads w A n B m g) (hn : n ≤ 2000000) (hm : m ≤ 2000000) :
    Calls Tryd.prog 35 #[.agg #[.slice A n c, .slice B m d]] w fun e w' => ∃ b1 b2, e = .returned (.agg #[.slice (some ⟨b1, 0, none⟩) n n, .slice (some ⟨b2, 0, none⟩) m m]) ∧ GOwn w' w.heap.size (.slice (some ⟨b1, 0, none⟩) n n) (.slice (some ⟨b2, 0, none⟩) m m) g ∧ Below w.heap.size w w' := by
  obtain ⟨ln, lm, rv, re⟩ := hg
  go_enter Tryd.func35, Tryd.ntmps35
  go_wp2_with fail
  have hB0 : Below w.heap.size w (((w.alloc (.cells #[.slice A n c, .slice B m d] 51)).alloc (.cells #[.slice none 0 0, .slice none 0 0] 56)).alloc (.cells #[.slice none 0 0, .slice none 0 0] 56)) :=
    (((Below.refl _ _).alloc (Nat.le_refl _) _).alloc (by simp) _).alloc (by simp; omega) _
  refine (toIntS_any A n c g.vs _ ln hn (reads_up rv hB0)).mono ?_
  rintro e w1 ⟨rfl, ho1, hb1⟩
  have hB1 := below_then hB0 hb1
  obtain ⟨hc1, hf1⟩ := bcell hb1
  have hz1 : w.heap.size + 1 + 1 < w1.heap.size := by have := hb1.size; simp at this; omega
  have hz1b : w.heap.size + 1 < w1.heap.size := by omega
  have hz1a : w.heap.size < w1.heap.size := by omega
  have ho1' := ownsRow_setCell_below ho1 (a := ⟨w.heap.size + 1 + 1, 0, none⟩) (by simp) (.slice (some ⟨w.heap.size + 1 + 1 + 1, 0, none⟩) n n)
  have hB1' := hB1.setCell (p := ⟨w.heap.size + 1 + 1, 0, none⟩) (by simp; omega) (.slice (some ⟨w.heap.size + 1 + 1 + 1, 0, none⟩) n n)
  go_wp2_with fail
  refine (toEdgeS_any B m d g.es _ lm hm (reads_up re hB1')).mono ?_
  rintro e w2 ⟨rfl, ho2, hb2⟩
  have hB2 := below_then hB1' hb2
  have ho1'' := own_below ho1' hb2 (Nat.le_refl _)
  obtain ⟨hc2, hf2⟩ := bcell hb2
  have hz2 : w1.heap.size ≤ w2.heap.size := by have := hb2.size; simp at this; omega
  go_wp2
  refine bodyPost_ret (v := .agg #[.slice (some ⟨w.heap.size + 1 + 1 + 1, 0, none⟩) n n, .slice (some ⟨w1.heap.size, 0, none⟩) m m]) ?_ rfl ?_
  · simp [results, Tryd.results35, go_sem]
    go_simp
  · refine ⟨_, _, rfl, ⟨?_, ?_⟩, ?_⟩
    · rw [ln]
      refine own_rebase (base := w.heap.size + 1 + 1 + 1) ?_ (by omega)
      repeat (with_reducible refine ownsRow_setCell_below ?_ ?hb _; (case hb => dsimp only; omega))
      simp only [World.size_alloc] at ho1''
      exact ho1''
    · rw [lm]
      refine own_rebase (base := w.heap.size + 1 + 1 + 1) ?_ (by omega)
      repeat (with_reducible refine ownsRow_setCell_below ?_ ?hb _; (case hb => dsimp only; omega))
      simp only [World.size_setCell] at ho2
      exact own_rebase ho2 (by omega)
    · repeat (with_reducible refine Below.setCell ?_ ?hb _; (case hb => dsimp only; omega))
      exact hB2
end Go.Proofs.YtcnbgpelfkbmpaaDoor
