/- Texts merged by program: SetV, RevG, StepA, StepsF, StepsW, Cont. -/
import Derived.Test.YtomkgnamjfiocaaGreatDoorBaseA
import Derived.Test.YtomkgnamjfiocaaGreatDoorSEq
namespace Go.Proofs.YtomkgnamjfiocaaGreatDoor
open Go.RowKit Go.ChangeShapes Go.WideShapes Go.ChangeAt Go.Deep
set_option linter.unusedVariables false
section
variable {w w' W : World} {A B : Option Addr} {n c m d lo hi size : Nat} {e : TypeId} {xs : List Value}
theorem implValid_rd (w : World) {g : G} (h : GRd w A n B m g) : Calls Tryz.prog 63 #[.agg #[.slice A n c, .slice B m d]] w fun e w' => e = .returned (.bool (validG g)) ∧ Below w.heap.size w w' := implValid_any A B n c m d g w h.gr h.bn h.bm
theorem specValid_rd (w : World) {g : G} (h : GRd w A n B m g) : Calls Tryz.prog 67 #[.agg #[.slice A n c, .slice B m d]] w fun e w' => e = .returned (.bool (validG g)) ∧ Below w.heap.size w w' := specValid_any A B n c m d g w h.gr h.bn h.bm
theorem RIs.at_ (h : RIs w lo hi e size A n c xs) (hn : 0 < n) : ∃ g, A = some ⟨g, 0, none⟩ ∧ lo ≤ g ∧ g < hi := by
  rcases h.own.row.2 with ⟨hv, _⟩ | ⟨g, cap, cur, hv, hb, _⟩
  · injection hv with h1 h2
    omega
  · injection hv with h1 h2
    exact ⟨g, h1, hb, h.own.top g (by rw [h1]; simp [Value.ownBlock])⟩
theorem RIs.stored {g : Nat} (h : RIs w lo hi e size (some ⟨g, 0, none⟩) n c xs) (k : Nat) (u : Value) : RIs (w.setCell ⟨g, k, none⟩ u) lo hi e size (some ⟨g, 0, none⟩) n c (xs.set k u) :=
  ⟨⟨(h.own.row.stored k u).1, h.own.top⟩, h.bd⟩
theorem RIs.cell {g : Nat} (h : RIs w lo hi e size (some ⟨g, 0, none⟩) n c xs) {k : Nat} {u : Value} (hk : xs[k]? = some u) : w.cell? ⟨g, k, none⟩ = some u := by
  have hl := h.len
  have hkl := (List.getElem?_eq_some_iff.1 hk).1
  rw [h.own.row.cellAt k (by omega)]
  exact hk
theorem RIs.frz {g : Nat} (h : RIs w lo hi e size (some ⟨g, 0, none⟩) n c xs) (k : Nat) : w.frozen? ⟨g, k, none⟩ = false := h.own.row.frozenAt k
/-- A store into another block leaves a row as it is. -/
theorem RIs.far (h : RIs w lo hi e size A n c xs) {p : Addr} (hp : ∀ g, (Value.slice A n c).ownBlock = some g → g ≠ p.block) (u : Value) : RIs (w.setCell p u) lo hi e size A n c xs :=
  ⟨⟨own_same h.own.row fun g hg => Below.heap_setCell w p u g (hp g hg), h.own.top⟩, h.bd⟩
end
/-- The result's cells written: the graph that was made lies as before. -/
theorem gis_ret {w : World} {A B : Option Addr} {n c m d a b : Nat} {xs ys : List Value} (h : GIs w a b A n c B m d xs ys) (r lo : Nat) (u v : Value) (h1 : r < a) (h2 : lo ≤ a) (h3 : b ≤ w.heap.size) :
    GIs ((w.setCell ⟨r, 0, none⟩ u).setCell ⟨r, 1, none⟩ v) lo ((w.setCell ⟨r, 0, none⟩ u).setCell ⟨r, 1, none⟩ v).heap.size A n c B m d xs ys :=
  ⟨(((h.ou.setB (p := ⟨r, 0, none⟩) h1 u).setB (p := ⟨r, 1, none⟩) h1 v).wide h2 (by simpa using h3)), (((h.ov.setB (p := ⟨r, 0, none⟩) h1 u).setB (p := ⟨r, 1, none⟩) h1 v).wide h2 (by simpa using h3))⟩
theorem below_ret {w w3 : World} (h : Below w.heap.size w w3) (r : Nat) (u v : Value) (h1 : w.heap.size ≤ r) : Below w.heap.size w ((w3.setCell ⟨r, 0, none⟩ u).setCell ⟨r, 1, none⟩ v) :=
  (h.setCell (p := ⟨r, 0, none⟩) h1 _).setCell (p := ⟨r, 1, none⟩) h1 _
theorem and3_false {a b c : Bool} (h : (a && b && c) = false) : a = false ∨ (a = true ∧ b = false) ∨ (a = true ∧ b = true ∧ c = false) := by
  revert h
  cases a <;> cases b <;> cases c <;> decide
theorem and3_true {a b c : Bool} (h : (a && b && c) = true) : a = true ∧ b = true ∧ c = true := by
  revert h
  cases a <;> cases b <;> cases c <;> decide
def setOk (g : G) (node v : Int) : Bool := validG g && inB node 0 (g.vs.length - 1) && inB v 0 2
def setG (g : G) (node v : Int) : G × Bool := if setOk g node v then (⟨g.vs.set node.toNat v, g.es⟩, true) else (g, false)
theorem setG_no {g : G} {node v : Int} (h : setOk g node v = false) : setG g node v = (g, false) := by simp [setG, h]
theorem setG_yes {g : G} {node v : Int} (h : setOk g node v = true) : setG g node v = (⟨g.vs.set node.toNat v, g.es⟩, true) := by simp [setG, h]
end Go.Proofs.YtomkgnamjfiocaaGreatDoor
namespace Go.Proofs.YtomkgnamjfiocaaGreatDoor
open Go.RowKit Go.ChangeShapes Go.WideShapes Go.ChangeAt Go.Deep
set_option linter.unusedVariables false
theorem ecs_at' {L : List E} {k : Nat} {e : E} (h : L[k]? = some e) (j : Nat) (u : Value) (hj : (ec e)[j]? = some u) : (ecs L)[k * 4 + j]? = some u := flatMap_get (f := ec) (size := 4) (fun _ => rfl) h hj
theorem RIs.drew {w : World} {a b : Nat} {e : TypeId} {size n c : Nat} {A : Option Addr} {xs : List Value} (h : RIs w a b e size A n c xs) : RIs w.drew a b e size A n c xs := ⟨⟨own_drew h.own.row, h.own.top⟩, h.bd⟩
theorem GIs.drew {w : World} {a b : Nat} {n c m d : Nat} {A B : Option Addr} {xs ys : List Value} (h : GIs w a b A n c B m d xs ys) : GIs w.drew a b A n c B m d xs ys := ⟨h.ou.drew, h.ov.drew⟩
def revE (e : E) : E := ⟨e.id, e.to, e.fr, e.lb⟩
def revG (g : G) : G := ⟨g.vs, g.es.map revE⟩
theorem ecs_set_fr : ∀ (L : List E) (k : Nat) (e : E) (a : Int), L[k]? = some e → (ecs L).set (k * 4 + 1) (.int .i64 a) = ecs (L.set k ⟨e.id, a, e.to, e.lb⟩)
  | x :: L, 0, e, a, h => by
    obtain rfl : x = e := by simpa using h
    rfl
  | x :: L, k + 1, e, a, h => by
    have h2 : L[k]? = some e := by simpa using h
    rw [List.set_cons_succ, ecs_cons, ecs_cons, ← ecs_set_fr L k e a h2]
    rw [List.set_append_right _ _ (by simp [ec]; omega)]
    congr 2
    simp [ec]; omega
theorem ecs_set_to : ∀ (L : List E) (k : Nat) (e : E) (a : Int), L[k]? = some e → (ecs L).set (k * 4 + 2) (.int .i64 a) = ecs (L.set k ⟨e.id, e.fr, a, e.lb⟩)
  | x :: L, 0, e, a, h => by
    obtain rfl : x = e := by simpa using h
    rfl
  | x :: L, k + 1, e, a, h => by
    have h2 : L[k]? = some e := by simpa using h
    rw [List.set_cons_succ, ecs_cons, ecs_cons, ← ecs_set_to L k e a h2]
    rw [List.set_append_right _ _ (by simp [ec]; omega)]
    congr 2
    simp [ec]; omega
/-- One edge turned round in a row of which k are turned. -/
theorem rev_step {es : List E} {k : Nat} {e : E} (h : es[k]? = some e) :
    ((ecs ((es.map revE).take k ++ es.drop k)).set (k * 4 + 1) (.int .i64 e.to)).set (k * 4 + 2) (.int .i64 e.fr) = ecs ((es.map revE).take (k + 1) ++ es.drop (k + 1)) := by
  obtain ⟨hk, rfl⟩ := List.getElem?_eq_some_iff.1 h
  have h1 : ((es.map revE).take k ++ es.drop k)[k]? = some es[k] := by
    rw [List.getElem?_append_right (by simp; omega)]
    simp [Nat.min_eq_left (Nat.le_of_lt hk), List.getElem?_drop, List.getElem?_eq_getElem hk]
  rw [ecs_set_fr _ k _ _ h1]
  rw [ecs_set_to _ k _ _ (List.getElem?_set_self (by simp; omega)), List.set_set]
  congr 1
  exact set_take es (es.map revE) k (revE es[k]) (by simpa using hk) (by simp) (by simp)
theorem rev_at {es : List E} {k : Nat} {e : E} (h : es[k]? = some e) : ((es.map revE).take k ++ es.drop k)[k]? = some e := by
  obtain ⟨hk, rfl⟩ := List.getElem?_eq_some_iff.1 h
  rw [List.getElem?_append_right (by simp; omega)]
  simp [Nat.min_eq_left (Nat.le_of_lt hk), List.getElem?_drop, List.getElem?_eq_getElem hk]
/-- A row of the call's own that is grown: what lay there before it was made stands. -/
theorem own_snoc_ec {w : World} {base k : Nat} {e : TypeId} {v x : Value} {L : List E} {y : E} (hx : x = .agg #[.int .i64 y.id, .int .i64 y.fr, .int .i64 y.to, .int .i64 y.lb]) (hy : L[k]? = some y) (h : w.ownsRow base e 4 v (k + 1) (ecs (L.take k) ++ x.cells.toList)) :
    w.ownsRow base e 4 v (k + 1) (ecs (L.take (k + 1))) := by
  subst hx
  obtain ⟨hk, rfl⟩ := List.getElem?_eq_some_iff.1 hy
  rw [List.take_succ_eq_append_getElem hk, ecs_append]
  exact h
end Go.Proofs.YtomkgnamjfiocaaGreatDoor
namespace Go.Proofs.YtomkgnamjfiocaaGreatDoor
open Go.RowKit Go.ChangeShapes Go.WideShapes Go.ChangeAt Go.Deep
set_option linter.unusedVariables false
theorem implEdgeIx_rd (w : World) {A B : Option Addr} {n c m d : Nat} {g : G} (h : GRd w A n B m g) (i : Int) : Calls Tryz.prog 107 #[.agg #[.slice A n c, .slice B m d], .int .i64 i] w fun e w' => e = .returned (.int .i64 (ixE g.es i)) ∧ Below w.heap.size w w' := implEdgeIx_any A B n c m d g.es i w h.gr.lm h.bm h.gr.re
theorem specEdgeIx_rd (w : World) {A B : Option Addr} {n c m d : Nat} {g : G} (h : GRd w A n B m g) (i : Int) : Calls Tryz.prog 89 #[.agg #[.slice A n c, .slice B m d], .int .i64 i] w fun e w' => e = .returned (.int .i64 (ixE g.es i)) ∧ Below w.heap.size w w' := specEdgeIx_any A B n c m d g.es i w h.gr.lm h.bm h.gr.re
def E0 : E := ⟨0, 0, 0, 0⟩
/-- The edge of a step, and whether there is one. -/
def stE (g : G) (s : St) : E × Bool := if validG g then match g.es[ixN g.es s.ed]? with | some e => (e, true) | none => (E0, false) else (E0, false)
theorem stE_no2 {g : G} (s : St) (h : validG g = false) : stE g s = (E0, false) := by simp [stE, h]
theorem stE_no1 {g : G} {s : St} (h : ¬ ixN g.es s.ed < g.es.length) : stE g s = (E0, false) := by
  unfold stE
  rw [List.getElem?_eq_none (by omega)]
  split <;> rfl
theorem stE_yes {g : G} {s : St} {e : E} (h : validG g = true) (he : g.es[ixN g.es s.ed]? = some e) : stE g s = (e, true) := by simp [stE, h, he]
theorem edgesB_ok {n m : Nat} {es : List E} (h : edgesB n es m = true) {k : Nat} {e : E} (hk : k < m) (he : es[k]? = some e) : okE n e = true ∧ ordE es k = true := by
  unfold edgesB at h
  rw [List.all_eq_true] at h
  have := h k (List.mem_range.2 hk)
  rw [he] at this
  simpa using this
theorem valid_edge {g : G} (h : validG g = true) {k : Nat} {e : E} (he : g.es[k]? = some e) : okE g.vs.length e = true := by
  have hk := (List.getElem?_eq_some_iff.1 he).1
  unfold validG at h
  simp only [Bool.and_eq_true] at h
  exact (edgesB_ok h.1.1.2 hk he).1
theorem okE_bd {n : Int} {e : E} (h : okE n e = true) : 1 ≤ e.id ∧ e.id ≤ 99 ∧ 0 ≤ e.fr ∧ e.fr ≤ n - 1 ∧ 0 ≤ e.to ∧ e.to ≤ n - 1 ∧ 0 ≤ e.lb ∧ e.lb ≤ 2 := by
  unfold okE at h
  simp only [Bool.and_eq_true, inB_true] at h
  omega
theorem valid_len {g : G} (h : validG g = true) : 1 ≤ g.vs.length ∧ g.vs.length ≤ 5 ∧ g.es.length ≤ 12 ∧ ∀ x ∈ g.vs, 0 ≤ x ∧ x ≤ 2 := by
  unfold validG at h
  simp only [Bool.and_eq_true, inB_true, decide_eq_true_eq, List.all_eq_true] at h
  obtain ⟨⟨⟨h1, _⟩, h2⟩, h3⟩ := h
  exact ⟨by omega, by omega, h3, fun x hx => h1 x hx⟩
set_option maxRecDepth 4000 in
set_option maxHeartbeats 1000000 in
theorem stepEdge_any (w : World) {A B : Option Addr} {n c m d : Nat} {g : G} (h : GRd w A n B m g) (s : St) (e : E) (ok : Bool) (hs : stE g s = (e, ok)) :
    Calls Tryz.prog 94 #[.agg #[.slice A n c, .slice B m d], .agg #[.int .i64 s.ed, .bool s.inv]] w fun r w' => r = .returned (.tuple #[.agg #[.int .i64 e.id, .int .i64 e.fr, .int .i64 e.to, .int .i64 e.lb], .bool ok]) ∧ Below w.heap.size w w' := by
  have lm := h.gr.lm
  have hm := h.bm
  have hn1 := stE_no1 (g := g) (s := s)
  have hn2 := stE_no2 (g := g) s
  have hy := fun e => stE_yes (g := g) (s := s) (e := e)
  obtain ⟨i, b⟩ := s
  rw [hs] at hn1 hn2
  simp only [hs] at hy
  dsimp only at hn1 hy
  clear hs
  go_enter Tryz.func94, Tryz.ntmps94
  go_wp2_with fail
  have hB0 : Below w.heap.size w (((w.alloc (.cells #[.slice A n c, .slice B m d] 27)).alloc (.cells #[.int .i64 i, .bool b] 68)).alloc (.cells #[.int .i64 0, .int .i64 0, .int .i64 0, .int .i64 0] 90)) := (((Below.refl _ _).alloc (Nat.le_refl _) _).alloc (by simp) _).alloc (by simp; omega) _
  have kA : (((w.alloc (.cells #[.slice A n c, .slice B m d] 27)).alloc (.cells #[.int .i64 i, .bool b] 68)).alloc (.cells #[.int .i64 0, .int .i64 0, .int .i64 0, .int .i64 0] 90)).cell? ⟨w.heap.size, 0, none⟩ = some (.slice A n c) := by go_simp
  have kB : (((w.alloc (.cells #[.slice A n c, .slice B m d] 27)).alloc (.cells #[.int .i64 i, .bool b] 68)).alloc (.cells #[.int .i64 0, .int .i64 0, .int .i64 0, .int .i64 0] 90)).cell? ⟨w.heap.size, 1, none⟩ = some (.slice B m d) := by go_simp
  have r0 : (((w.alloc (.cells #[.slice A n c, .slice B m d] 27)).alloc (.cells #[.int .i64 i, .bool b] 68)).alloc (.cells #[.int .i64 0, .int .i64 0, .int .i64 0, .int .i64 0] 90)).cell? ⟨w.heap.size + 1 + 1, 0, none⟩ = some (.int .i64 0) := by go_simp
  have r1 : (((w.alloc (.cells #[.slice A n c, .slice B m d] 27)).alloc (.cells #[.int .i64 i, .bool b] 68)).alloc (.cells #[.int .i64 0, .int .i64 0, .int .i64 0, .int .i64 0] 90)).cell? ⟨w.heap.size + 1 + 1, 1, none⟩ = some (.int .i64 0) := by go_simp
  have r2 : (((w.alloc (.cells #[.slice A n c, .slice B m d] 27)).alloc (.cells #[.int .i64 i, .bool b] 68)).alloc (.cells #[.int .i64 0, .int .i64 0, .int .i64 0, .int .i64 0] 90)).cell? ⟨w.heap.size + 1 + 1, 2, none⟩ = some (.int .i64 0) := by go_simp
  have r3 : (((w.alloc (.cells #[.slice A n c, .slice B m d] 27)).alloc (.cells #[.int .i64 i, .bool b] 68)).alloc (.cells #[.int .i64 0, .int .i64 0, .int .i64 0, .int .i64 0] 90)).cell? ⟨w.heap.size + 1 + 1, 3, none⟩ = some (.int .i64 0) := by go_simp
  have f0 : (((w.alloc (.cells #[.slice A n c, .slice B m d] 27)).alloc (.cells #[.int .i64 i, .bool b] 68)).alloc (.cells #[.int .i64 0, .int .i64 0, .int .i64 0, .int .i64 0] 90)).frozen? ⟨w.heap.size + 1 + 1, 0, none⟩ = false := by go_simp
  have f1 : (((w.alloc (.cells #[.slice A n c, .slice B m d] 27)).alloc (.cells #[.int .i64 i, .bool b] 68)).alloc (.cells #[.int .i64 0, .int .i64 0, .int .i64 0, .int .i64 0] 90)).frozen? ⟨w.heap.size + 1 + 1, 1, none⟩ = false := by go_simp
  have f2 : (((w.alloc (.cells #[.slice A n c, .slice B m d] 27)).alloc (.cells #[.int .i64 i, .bool b] 68)).alloc (.cells #[.int .i64 0, .int .i64 0, .int .i64 0, .int .i64 0] 90)).frozen? ⟨w.heap.size + 1 + 1, 2, none⟩ = false := by go_simp
  have f3 : (((w.alloc (.cells #[.slice A n c, .slice B m d] 27)).alloc (.cells #[.int .i64 i, .bool b] 68)).alloc (.cells #[.int .i64 0, .int .i64 0, .int .i64 0, .int .i64 0] 90)).frozen? ⟨w.heap.size + 1 + 1, 3, none⟩ = false := by go_simp
  have hz0 : w.heap.size + 1 + 1 < (((w.alloc (.cells #[.slice A n c, .slice B m d] 27)).alloc (.cells #[.int .i64 i, .bool b] 68)).alloc (.cells #[.int .i64 0, .int .i64 0, .int .i64 0, .int .i64 0] 90)).heap.size := by simp
  generalize (((w.alloc (.cells #[.slice A n c, .slice B m d] 27)).alloc (.cells #[.int .i64 i, .bool b] 68)).alloc (.cells #[.int .i64 0, .int .i64 0, .int .i64 0, .int .i64 0] 90)) = w0 at *
  refine (implEdgeIx_rd _ (h.up hB0) i).mono ?_
  rintro r w1 ⟨rfl, hb1⟩
  have hB1 := below_then hB0 hb1
  have kA1 := cell_keep hb1 kA
  have kB1 := cell_keep hb1 kB
  by_cases hix : ixN g.es i < g.es.length
  rotate_left
  · have h3 := hn1 hix
    injection h3 with h31 h32
    subst h31
    subst h32
    have hE : ixE g.es i = -1 := by unfold ixE; rw [if_neg hix]
    rw [hE]
    have r01 := cell_keep hb1 r0
    have r11 := cell_keep hb1 r1
    have r21 := cell_keep hb1 r2
    have r31 := cell_keep hb1 r3
    have f01 := frozen_keep hb1 r0 f0
    have f11 := frozen_keep hb1 r1 f1
    have f21 := frozen_keep hb1 r2 f2
    have f31 := frozen_keep hb1 r3 f3
    clear hE hix hn1 hn2 hy r0 r1 r2 r3 f0 f1 f2 f3 kA kB lm
    go_wp2
    refine bodyPost_ret (v := .tuple #[.agg #[.int .i64 0, .int .i64 0, .int .i64 0, .int .i64 0], .bool false]) ?_ rfl ?_
    · simp [results, Tryz.results94, go_sem]
      go_simp
    · refine ⟨rfl, ?_⟩
      repeat (with_reducible refine Below.setCell ?_ ?hb _; (case hb => dsimp only; omega))
      exact hB1
  · have hE : ixE g.es i = (ixN g.es i : Int) := by unfold ixE; rw [if_pos hix]
    obtain ⟨e1, he1⟩ : ∃ e1, g.es[ixN g.es i]? = some e1 := ⟨_, List.getElem?_eq_getElem hix⟩
    rw [hE]
    have HY := Lib.hid (fun hv => hy e1 hv he1)
    have HE := Lib.hid he1
    have HL := Lib.hid lm
    obtain ⟨k, hk⟩ : ∃ k, ixN g.es i = k := ⟨_, rfl⟩
    rw [hk] at hix HE ⊢
    have hkm : k < m := by omega
    have hlt : (k : Int) < m := by omega
    clear hE hy hn1 hk he1 lm hix
    go_wp2_with fail
    refine (implValid_rd _ (h.up hB1)).mono ?_
    rintro r w2 ⟨rfl, hb2⟩
    have hb02 := below_then hb1 hb2
    have hB2 := below_then hB1 hb2
    have kA2 := cell_keep hb2 kA1
    have kB2 := cell_keep hb2 kB1
    have r01 := cell_keep hb02 r0
    have r11 := cell_keep hb02 r1
    have r21 := cell_keep hb02 r2
    have r31 := cell_keep hb02 r3
    have f01 := frozen_keep hb02 r0 f0
    have f11 := frozen_keep hb02 r1 f1
    have f21 := frozen_keep hb02 r2 f2
    have f31 := frozen_keep hb02 r3 f3
    have hG := h.up hB2
    clear r0 r1 r2 r3 f0 f1 f2 f3 kA kB kA1 kB1
    cases hv : validG g
    · have h3 := hn2 hv
      injection h3 with h31 h32
      subst h31
      subst h32
      clear hv hn2 HY
      go_wp2
      refine bodyPost_ret (v := .tuple #[.agg #[.int .i64 0, .int .i64 0, .int .i64 0, .int .i64 0], .bool false]) ?_ rfl ?_
      · simp [results, Tryz.results94, go_sem]
        go_simp
      · refine ⟨rfl, ?_⟩
        repeat (with_reducible refine Below.setCell ?_ ?hb _; (case hb => dsimp only; omega))
        exact hB2
    · have h3 := HY.out hv
      injection h3 with h31 h32
      subst h31
      subst h32
      obtain ⟨b9, o9, rfl, had, e2, he2, c0, c1, c2, c3⟩ := edge_at hG.gr.re HL.out hkm
      obtain rfl : e = e2 := by have := HE.out; rw [he2] at this; simpa using this.symm
      clear hv hn2 HY he2 hG
      go_wp2
      refine bodyPost_ret (v := .tuple #[.agg #[.int .i64 e.id, .int .i64 e.fr, .int .i64 e.to, .int .i64 e.lb], .bool true]) ?_ rfl ?_
      · simp [results, Tryz.results94, go_sem]
        go_simp
      · refine ⟨rfl, ?_⟩
        repeat (with_reducible refine Below.setCell ?_ ?hb _; (case hb => dsimp only; omega))
        exact hB2
set_option maxRecDepth 4000 in
set_option maxHeartbeats 1000000 in
theorem l4Edge_any (w : World) {A B : Option Addr} {n c m d : Nat} {g : G} (h : GRd w A n B m g) (s : St) (e : E) (ok : Bool) (hs : stE g s = (e, ok)) :
    Calls Tryz.prog 151 #[.agg #[.slice A n c, .slice B m d], .agg #[.int .i64 s.ed, .bool s.inv]] w fun r w' => r = .returned (.tuple #[.agg #[.int .i64 e.id, .int .i64 e.fr, .int .i64 e.to, .int .i64 e.lb], .bool ok]) ∧ Below w.heap.size w w' := by
  have lm := h.gr.lm
  have hm := h.bm
  have hn1 := stE_no1 (g := g) (s := s)
  have hn2 := stE_no2 (g := g) s
  have hy := fun e => stE_yes (g := g) (s := s) (e := e)
  obtain ⟨i, b⟩ := s
  rw [hs] at hn1 hn2
  simp only [hs] at hy
  dsimp only at hn1 hy
  clear hs
  go_enter Tryz.func151, Tryz.ntmps151
  go_wp2_with fail
  have hB0 : Below w.heap.size w (((w.alloc (.cells #[.slice A n c, .slice B m d] 27)).alloc (.cells #[.int .i64 i, .bool b] 68)).alloc (.cells #[.int .i64 0, .int .i64 0, .int .i64 0, .int .i64 0] 90)) := (((Below.refl _ _).alloc (Nat.le_refl _) _).alloc (by simp) _).alloc (by simp; omega) _
  have kA : (((w.alloc (.cells #[.slice A n c, .slice B m d] 27)).alloc (.cells #[.int .i64 i, .bool b] 68)).alloc (.cells #[.int .i64 0, .int .i64 0, .int .i64 0, .int .i64 0] 90)).cell? ⟨w.heap.size, 0, none⟩ = some (.slice A n c) := by go_simp
  have kB : (((w.alloc (.cells #[.slice A n c, .slice B m d] 27)).alloc (.cells #[.int .i64 i, .bool b] 68)).alloc (.cells #[.int .i64 0, .int .i64 0, .int .i64 0, .int .i64 0] 90)).cell? ⟨w.heap.size, 1, none⟩ = some (.slice B m d) := by go_simp
  have r0 : (((w.alloc (.cells #[.slice A n c, .slice B m d] 27)).alloc (.cells #[.int .i64 i, .bool b] 68)).alloc (.cells #[.int .i64 0, .int .i64 0, .int .i64 0, .int .i64 0] 90)).cell? ⟨w.heap.size + 1 + 1, 0, none⟩ = some (.int .i64 0) := by go_simp
  have r1 : (((w.alloc (.cells #[.slice A n c, .slice B m d] 27)).alloc (.cells #[.int .i64 i, .bool b] 68)).alloc (.cells #[.int .i64 0, .int .i64 0, .int .i64 0, .int .i64 0] 90)).cell? ⟨w.heap.size + 1 + 1, 1, none⟩ = some (.int .i64 0) := by go_simp
  have r2 : (((w.alloc (.cells #[.slice A n c, .slice B m d] 27)).alloc (.cells #[.int .i64 i, .bool b] 68)).alloc (.cells #[.int .i64 0, .int .i64 0, .int .i64 0, .int .i64 0] 90)).cell? ⟨w.heap.size + 1 + 1, 2, none⟩ = some (.int .i64 0) := by go_simp
  have r3 : (((w.alloc (.cells #[.slice A n c, .slice B m d] 27)).alloc (.cells #[.int .i64 i, .bool b] 68)).alloc (.cells #[.int .i64 0, .int .i64 0, .int .i64 0, .int .i64 0] 90)).cell? ⟨w.heap.size + 1 + 1, 3, none⟩ = some (.int .i64 0) := by go_simp
  have f0 : (((w.alloc (.cells #[.slice A n c, .slice B m d] 27)).alloc (.cells #[.int .i64 i, .bool b] 68)).alloc (.cells #[.int .i64 0, .int .i64 0, .int .i64 0, .int .i64 0] 90)).frozen? ⟨w.heap.size + 1 + 1, 0, none⟩ = false := by go_simp
  have f1 : (((w.alloc (.cells #[.slice A n c, .slice B m d] 27)).alloc (.cells #[.int .i64 i, .bool b] 68)).alloc (.cells #[.int .i64 0, .int .i64 0, .int .i64 0, .int .i64 0] 90)).frozen? ⟨w.heap.size + 1 + 1, 1, none⟩ = false := by go_simp
  have f2 : (((w.alloc (.cells #[.slice A n c, .slice B m d] 27)).alloc (.cells #[.int .i64 i, .bool b] 68)).alloc (.cells #[.int .i64 0, .int .i64 0, .int .i64 0, .int .i64 0] 90)).frozen? ⟨w.heap.size + 1 + 1, 2, none⟩ = false := by go_simp
  have f3 : (((w.alloc (.cells #[.slice A n c, .slice B m d] 27)).alloc (.cells #[.int .i64 i, .bool b] 68)).alloc (.cells #[.int .i64 0, .int .i64 0, .int .i64 0, .int .i64 0] 90)).frozen? ⟨w.heap.size + 1 + 1, 3, none⟩ = false := by go_simp
  have hz0 : w.heap.size + 1 + 1 < (((w.alloc (.cells #[.slice A n c, .slice B m d] 27)).alloc (.cells #[.int .i64 i, .bool b] 68)).alloc (.cells #[.int .i64 0, .int .i64 0, .int .i64 0, .int .i64 0] 90)).heap.size := by simp
  generalize (((w.alloc (.cells #[.slice A n c, .slice B m d] 27)).alloc (.cells #[.int .i64 i, .bool b] 68)).alloc (.cells #[.int .i64 0, .int .i64 0, .int .i64 0, .int .i64 0] 90)) = w0 at *
  refine (specEdgeIx_rd _ (h.up hB0) i).mono ?_
  rintro r w1 ⟨rfl, hb1⟩
  have hB1 := below_then hB0 hb1
  have kA1 := cell_keep hb1 kA
  have kB1 := cell_keep hb1 kB
  obtain ⟨q, hq⟩ : ∃ q, ixE g.es i = q := ⟨_, rfl⟩
  rw [hq]
  have HQ := Lib.hid hq
  clear hq
  go_wp2_with fail
  refine (specValid_rd _ (h.up hB1)).mono ?_
  rintro r w2 ⟨rfl, hb2⟩
  have hb02 := below_then hb1 hb2
  have hB2 := below_then hB1 hb2
  have kA2 := cell_keep hb2 kA1
  have kB2 := cell_keep hb2 kB1
  have r01 := cell_keep hb02 r0
  have r11 := cell_keep hb02 r1
  have r21 := cell_keep hb02 r2
  have r31 := cell_keep hb02 r3
  have f01 := frozen_keep hb02 r0 f0
  have f11 := frozen_keep hb02 r1 f1
  have f21 := frozen_keep hb02 r2 f2
  have f31 := frozen_keep hb02 r3 f3
  have hG := h.up hB2
  clear r0 r1 r2 r3 f0 f1 f2 f3 kA kB kA1 kB1
  cases hv : validG g
  · have h3 := hn2 hv
    injection h3 with h31 h32
    subst h31
    subst h32
    clear hv hn2 hn1 hy lm HQ
    go_wp2
    refine bodyPost_ret (v := .tuple #[.agg #[.int .i64 0, .int .i64 0, .int .i64 0, .int .i64 0], .bool false]) ?_ rfl ?_
    · simp [results, Tryz.results151, go_sem]
      go_simp
    · refine ⟨rfl, ?_⟩
      repeat (with_reducible refine Below.setCell ?_ ?hb _; (case hb => dsimp only; omega))
      exact hB2
  · by_cases hix : ixN g.es i < g.es.length
    rotate_left
    · have h3 := hn1 hix
      injection h3 with h31 h32
      subst h31
      subst h32
      have hE : ixE g.es i = -1 := by unfold ixE; rw [if_neg hix]
      obtain rfl : q = -1 := by rw [← HQ.out, hE]
      clear hv hn2 hn1 hy lm HQ hE hix
      go_wp2
      refine bodyPost_ret (v := .tuple #[.agg #[.int .i64 0, .int .i64 0, .int .i64 0, .int .i64 0], .bool false]) ?_ rfl ?_
      · simp [results, Tryz.results151, go_sem]
        go_simp
      · refine ⟨rfl, ?_⟩
        repeat (with_reducible refine Below.setCell ?_ ?hb _; (case hb => dsimp only; omega))
        exact hB2
    · have hE : ixE g.es i = (ixN g.es i : Int) := by unfold ixE; rw [if_pos hix]
      obtain ⟨e1, he1⟩ : ∃ e1, g.es[ixN g.es i]? = some e1 := ⟨_, List.getElem?_eq_getElem hix⟩
      have h3 := hy e1 hv he1
      injection h3 with h31 h32
      subst h31
      subst h32
      obtain ⟨k, hk⟩ : ∃ k, ixN g.es i = k := ⟨_, rfl⟩
      obtain rfl : q = (k : Int) := by rw [← HQ.out, hE, hk]
      rw [hk] at hix he1
      have hkm : k < m := by omega
      have hlt : (k : Int) < m := by omega
      obtain ⟨b9, o9, rfl, had, e2, he2, c0, c1, c2, c3⟩ := edge_at hG.gr.re lm hkm
      obtain rfl : e = e2 := by rw [he2] at he1; simpa using he1.symm
      clear hv hn2 hn1 hy lm HQ hE hix hk he1 he2 hG
      go_wp2
      refine bodyPost_ret (v := .tuple #[.agg #[.int .i64 e.id, .int .i64 e.fr, .int .i64 e.to, .int .i64 e.lb], .bool true]) ?_ rfl ?_
      · simp [results, Tryz.results151, go_sem]
        go_simp
      · refine ⟨rfl, ?_⟩
        repeat (with_reducible refine Below.setCell ?_ ?hb _; (case hb => dsimp only; omega))
        exact hB2

def stFrom (g : G) (s : St) : Int := if (stE g s).2 then (if s.inv then (stE g s).1.to else (stE g s).1.fr) else -1
def stTo (g : G) (s : St) : Int := stFrom g ⟨s.ed, !s.inv⟩
def stLet (g : G) (s : St) : Int := if (stE g s).2 then (if s.inv then 2 * (stE g s).1.lb + 1 else 2 * (stE g s).1.lb) else -1
theorem stE_lb {g : G} {s : St} (h : (stE g s).2 = true) : 0 ≤ (stE g s).1.lb ∧ (stE g s).1.lb ≤ 2 := by
  unfold stE at h ⊢
  cases hv : validG g
  · simp [hv] at h
  · simp only [hv, if_true] at h ⊢
    cases he : g.es[ixN g.es s.ed]? with
    | none => simp [he] at h
    | some e =>
      have := okE_bd (valid_edge hv he)
      simp only
      omega
set_option maxRecDepth 4000 in
set_option maxHeartbeats 1000000 in
theorem implStepFrom_is (w : World) {A B : Option Addr} {n c m d : Nat} {g : G} (h : GRd w A n B m g) (s : St) :
    Calls Tryz.prog 86 #[.agg #[.slice A n c, .slice B m d], .agg #[.int .i64 s.ed, .bool s.inv]] w fun r w' => r = .returned (.int .i64 (stFrom g s)) ∧ Below w.heap.size w w' := by
  have hc := fun w0 hb => stepEdge_any w0 (c := c) (d := d) (h.up hb) s (stE g s).1 (stE g s).2 rfl
  have hF : stFrom g s = if (stE g s).2 then (if s.inv then (stE g s).1.to else (stE g s).1.fr) else -1 := rfl
  obtain ⟨e, he⟩ : ∃ e, (stE g s).1 = e := ⟨_, rfl⟩
  obtain ⟨ok, hok⟩ : ∃ ok, (stE g s).2 = ok := ⟨_, rfl⟩
  rw [he, hok] at hF
  simp only [he, hok] at hc
  have HC := Lib.hid hc
  have HF := Lib.hid hF
  clear hc hF he hok
  obtain ⟨i, b⟩ := s
  have hB0 : Below w.heap.size w ((w.alloc (.cells #[.slice A n c, .slice B m d] 27)).alloc (.cells #[.int .i64 i, .bool b] 68)) := ((Below.refl _ _).alloc (Nat.le_refl _) _).alloc (by simp) _
  have kI : ((w.alloc (.cells #[.slice A n c, .slice B m d] 27)).alloc (.cells #[.int .i64 i, .bool b] 68)).cell? ⟨w.heap.size + 1, 1, none⟩ = some (.bool b) := by go_simp
  have hz0 : w.heap.size + 1 < ((w.alloc (.cells #[.slice A n c, .slice B m d] 27)).alloc (.cells #[.int .i64 i, .bool b] 68)).heap.size := by simp
  have HF2 := Lib.hid (show stFrom g ⟨i, b⟩ = if ok then (if b then e.to else e.fr) else -1 from HF.out)
  clear HF
  go_enter Tryz.func86, Tryz.ntmps86
  go_wp2_with fail
  generalize ((w.alloc (.cells #[.slice A n c, .slice B m d] 27)).alloc (.cells #[.int .i64 i, .bool b] 68)) = w0 at *
  refine (HC.out _ hB0).mono ?_
  rintro r w1 ⟨rfl, hb1⟩
  have hB1 := below_then hB0 hb1
  have kI1 := cell_keep hb1 kI
  have hz1 : w.heap.size + 1 < w1.heap.size := by have := hb1.size; omega
  clear kI
  cases ok
  · go_wp2
    go_ret
    exact ⟨by rw [HF2.out] <;> rfl, hB1.alloc hB1.size _⟩
  · cases b
    all_goals
      go_wp2
      go_ret
      exact ⟨by rw [HF2.out] <;> rfl, hB1.alloc hB1.size _⟩
set_option maxRecDepth 4000 in
set_option maxHeartbeats 1000000 in
theorem specStepFrom_is (w : World) {A B : Option Addr} {n c m d : Nat} {g : G} (h : GRd w A n B m g) (s : St) :
    Calls Tryz.prog 125 #[.agg #[.slice A n c, .slice B m d], .agg #[.int .i64 s.ed, .bool s.inv]] w fun r w' => r = .returned (.int .i64 (stFrom g s)) ∧ Below w.heap.size w w' := by
  have hc := fun w0 hb => l4Edge_any w0 (c := c) (d := d) (h.up hb) s (stE g s).1 (stE g s).2 rfl
  have hF : stFrom g s = if (stE g s).2 then (if s.inv then (stE g s).1.to else (stE g s).1.fr) else -1 := rfl
  obtain ⟨e, he⟩ : ∃ e, (stE g s).1 = e := ⟨_, rfl⟩
  obtain ⟨ok, hok⟩ : ∃ ok, (stE g s).2 = ok := ⟨_, rfl⟩
  rw [he, hok] at hF
  simp only [he, hok] at hc
  have HC := Lib.hid hc
  have HF := Lib.hid hF
  clear hc hF he hok
  obtain ⟨i, b⟩ := s
  have hB0 : Below w.heap.size w ((w.alloc (.cells #[.slice A n c, .slice B m d] 27)).alloc (.cells #[.int .i64 i, .bool b] 68)) := ((Below.refl _ _).alloc (Nat.le_refl _) _).alloc (by simp) _
  have kI : ((w.alloc (.cells #[.slice A n c, .slice B m d] 27)).alloc (.cells #[.int .i64 i, .bool b] 68)).cell? ⟨w.heap.size + 1, 1, none⟩ = some (.bool b) := by go_simp
  have hz0 : w.heap.size + 1 < ((w.alloc (.cells #[.slice A n c, .slice B m d] 27)).alloc (.cells #[.int .i64 i, .bool b] 68)).heap.size := by simp
  have HF2 := Lib.hid (show stFrom g ⟨i, b⟩ = if ok then (if b then e.to else e.fr) else -1 from HF.out)
  clear HF
  go_enter Tryz.func125, Tryz.ntmps125
  go_wp2_with fail
  generalize ((w.alloc (.cells #[.slice A n c, .slice B m d] 27)).alloc (.cells #[.int .i64 i, .bool b] 68)) = w0 at *
  refine (HC.out _ hB0).mono ?_
  rintro r w1 ⟨rfl, hb1⟩
  have hB1 := below_then hB0 hb1
  have kI1 := cell_keep hb1 kI
  have hz1 : w.heap.size + 1 < w1.heap.size := by have := hb1.size; omega
  clear kI
  cases ok
  · go_wp2
    go_ret
    exact ⟨by rw [HF2.out] <;> rfl, hB1.alloc hB1.size _⟩
  · cases b
    all_goals
      go_wp2
      go_ret
      exact ⟨by rw [HF2.out] <;> rfl, hB1.alloc hB1.size _⟩
set_option maxRecDepth 4000 in
set_option maxHeartbeats 400000 in
theorem implStepTo_is (w : World) {A B : Option Addr} {n c m d : Nat} {g : G} (h : GRd w A n B m g) (s : St) :
    Calls Tryz.prog 87 #[.agg #[.slice A n c, .slice B m d], .agg #[.int .i64 s.ed, .bool s.inv]] w fun r w' => r = .returned (.int .i64 (stTo g s)) ∧ Below w.heap.size w w' := by
  obtain ⟨i, b⟩ := s
  have hB0 : Below w.heap.size w ((w.alloc (.cells #[.slice A n c, .slice B m d] 27)).alloc (.cells #[.int .i64 i, .bool b] 68)) := ((Below.refl _ _).alloc (Nat.le_refl _) _).alloc (by simp) _
  go_enter Tryz.func87, Tryz.ntmps87
  go_wp2_with fail
  refine (implStepFrom_is _ (h.up hB0) ⟨i, !b⟩).mono ?_
  rintro r w1 ⟨rfl, hb1⟩
  go_wp2
  go_ret
  exact ⟨rfl, below_then hB0 hb1⟩
set_option maxRecDepth 4000 in
set_option maxHeartbeats 400000 in
theorem specStepTo_is (w : World) {A B : Option Addr} {n c m d : Nat} {g : G} (h : GRd w A n B m g) (s : St) :
    Calls Tryz.prog 99 #[.agg #[.slice A n c, .slice B m d], .agg #[.int .i64 s.ed, .bool s.inv]] w fun r w' => r = .returned (.int .i64 (stTo g s)) ∧ Below w.heap.size w w' := by
  obtain ⟨i, b⟩ := s
  have hB0 : Below w.heap.size w ((w.alloc (.cells #[.slice A n c, .slice B m d] 27)).alloc (.cells #[.int .i64 i, .bool b] 68)) := ((Below.refl _ _).alloc (Nat.le_refl _) _).alloc (by simp) _
  go_enter Tryz.func99, Tryz.ntmps99
  go_wp2_with fail
  refine (specStepFrom_is _ (h.up hB0) ⟨i, !b⟩).mono ?_
  rintro r w1 ⟨rfl, hb1⟩
  go_wp2
  go_ret
  exact ⟨rfl, below_then hB0 hb1⟩
set_option maxRecDepth 4000 in
theorem reads_any (e : E) (b : Bool) (w : World) (h0 : 0 ≤ e.lb) (h2 : e.lb ≤ 2) : Calls Tryz.prog 95 #[.agg #[.int .i64 e.id, .int .i64 e.fr, .int .i64 e.to, .int .i64 e.lb], .bool b] w fun r w' => r = .returned (.int .i64 (if b then 2 * e.lb + 1 else 2 * e.lb)) ∧ Below w.heap.size w w' := by
  obtain ⟨a1, a2, a3, a4⟩ := e
  dsimp only at h0 h2
  cases b
  all_goals
    go_enter Tryz.func95, Tryz.ntmps95
    go_wp2
    go_ret
    exact ⟨rfl, (Below.refl _ _).alloc (Nat.le_refl _) _⟩
set_option maxRecDepth 4000 in
set_option maxHeartbeats 1000000 in
theorem implStepLetter_is (w : World) {A B : Option Addr} {n c m d : Nat} {g : G} (h : GRd w A n B m g) (s : St) :
    Calls Tryz.prog 47 #[.agg #[.slice A n c, .slice B m d], .agg #[.int .i64 s.ed, .bool s.inv]] w fun r w' => r = .returned (.int .i64 (stLet g s)) ∧ Below w.heap.size w w' := by
  have hc := fun w0 hb => stepEdge_any w0 (c := c) (d := d) (h.up hb) s (stE g s).1 (stE g s).2 rfl
  have hF : stLet g s = if (stE g s).2 then (if s.inv then 2 * (stE g s).1.lb + 1 else 2 * (stE g s).1.lb) else -1 := rfl
  obtain ⟨e, he⟩ : ∃ e, (stE g s).1 = e := ⟨_, rfl⟩
  obtain ⟨ok, hok⟩ : ∃ ok, (stE g s).2 = ok := ⟨_, rfl⟩
  rw [he, hok] at hF
  simp only [he, hok] at hc
  have hl0 : ok = true → 0 ≤ e.lb ∧ e.lb ≤ 2 := fun hk => by rw [← he]; exact stE_lb (hok.trans hk)
  have HC := Lib.hid hc
  have HF := Lib.hid hF
  clear hc hF he hok
  obtain ⟨i, b⟩ := s
  have hB0 : Below w.heap.size w ((w.alloc (.cells #[.slice A n c, .slice B m d] 27)).alloc (.cells #[.int .i64 i, .bool b] 68)) := ((Below.refl _ _).alloc (Nat.le_refl _) _).alloc (by simp) _
  have kI : ((w.alloc (.cells #[.slice A n c, .slice B m d] 27)).alloc (.cells #[.int .i64 i, .bool b] 68)).cell? ⟨w.heap.size + 1, 1, none⟩ = some (.bool b) := by go_simp
  have hz0 : w.heap.size + 1 < ((w.alloc (.cells #[.slice A n c, .slice B m d] 27)).alloc (.cells #[.int .i64 i, .bool b] 68)).heap.size := by simp
  have HF2 := Lib.hid (show stLet g ⟨i, b⟩ = if ok then (if b then 2 * e.lb + 1 else 2 * e.lb) else -1 from HF.out)
  clear HF
  go_enter Tryz.func47, Tryz.ntmps47
  go_wp2_with fail
  generalize ((w.alloc (.cells #[.slice A n c, .slice B m d] 27)).alloc (.cells #[.int .i64 i, .bool b] 68)) = w0 at *
  refine (HC.out _ hB0).mono ?_
  rintro r w1 ⟨rfl, hb1⟩
  have hB1 := below_then hB0 hb1
  have kI1 := cell_keep hb1 kI
  have hz1 : w.heap.size + 1 < w1.heap.size := by have := hb1.size; omega
  clear kI
  cases ok
  · clear hl0
    go_wp2
    go_ret
    exact ⟨by rw [HF2.out] <;> rfl, hB1.alloc hB1.size _⟩
  · have hl := hl0 rfl
    clear hl0
    cases b
    all_goals
      have hl1 := hl.1
      have hl2 := hl.2
      go_wp2_with (go_at_call 95; refine (reads_any _ _ _ hl1 hl2).mono ?_; rintro r w3 ⟨rfl, hb3⟩)
      go_ret
      exact ⟨by rw [HF2.out] <;> rfl, below_then (hB1.alloc hB1.size _) hb3⟩
end Go.Proofs.YtomkgnamjfiocaaGreatDoor
namespace Go.Proofs.YtomkgnamjfiocaaGreatDoor
open Go.RowKit Go.ChangeShapes Go.WideShapes Go.ChangeAt Go.Deep
set_option linter.unusedVariables false
def stepsOf (node : Int) (e : E) : List St := (if e.fr = node then [⟨e.id, false⟩] else []) ++ (if e.to = node then [⟨e.id, true⟩] else [])
def accSt (es : List E) (node : Int) (k : Nat) : List St := (es.take k).flatMap (stepsOf node)
theorem accSt_succ {es : List E} {node : Int} {k : Nat} {e : E} (h : es[k]? = some e) : accSt es node (k + 1) = accSt es node k ++ stepsOf node e := by
  obtain ⟨hk, rfl⟩ := List.getElem?_eq_some_iff.1 h
  unfold accSt
  rw [List.take_succ_eq_append_getElem hk, List.flatMap_append]
  simp
theorem stepsOf_len (node : Int) (e : E) : (stepsOf node e).length ≤ 2 := by
  unfold stepsOf
  split <;> split <;> simp
theorem accSt_len (es : List E) (node : Int) : ∀ k, (accSt es node k).length ≤ 2 * k
  | 0 => by simp [accSt]
  | k + 1 => by
    have ih := accSt_len es node k
    cases h : es[k]? with
    | none =>
      have : es.length ≤ k := by simpa using h
      have h1 : accSt es node (k + 1) = accSt es node k := by
        unfold accSt
        rw [List.take_of_length_le (by omega), List.take_of_length_le this]
      rw [h1]
      omega
    | some e =>
      rw [accSt_succ h, List.length_append]
      have := stepsOf_len node e
      omega
def stepsF (g : G) (node : Int) : List St := if validG g then accSt g.es node g.es.length else []
theorem own_snoc_st {w : World} {base q : Nat} {e : TypeId} {v x : Value} {L : List St} (y : St) (hx : x = .agg #[.int .i64 y.ed, .bool y.inv]) (h : w.ownsRow base e 2 v (q + 1) (stcs L ++ x.cells.toList)) : w.ownsRow base e 2 v (q + 1) (stcs (L ++ [y])) := by
  subst hx
  rw [stcs_append]
  exact h
theorem edge_cells {w : World} {B b o n k : Nat} {es : List E} {e : E} (h : Reads w B 4 (some ⟨b, o, none⟩) n (ecs es)) (he : es[k]? = some e) : w.cell? ⟨b, o + k * 4, none⟩ = some (.int .i64 e.id) ∧ w.cell? ⟨b, o + k * 4 + 1, none⟩ = some (.int .i64 e.fr) ∧ w.cell? ⟨b, o + k * 4 + 2, none⟩ = some (.int .i64 e.to) ∧ w.cell? ⟨b, o + k * 4 + 3, none⟩ = some (.int .i64 e.lb) := by
  have hk := (List.getElem?_eq_some_iff.1 he).1
  have hl : es.length = n := by have := h.1; rw [ecs_len] at this; omega
  obtain ⟨b2, o2, hA, _, e2, he2, c0, c1, c2, c3⟩ := edge_at (k := k) h hl (by omega)
  have hbo : b = b2 ∧ o = o2 := by simpa using hA
  obtain ⟨rfl, rfl⟩ := hbo
  obtain rfl : e = e2 := by rw [he] at he2; simpa using he2
  exact ⟨c0, c1, c2, c3⟩
set_option maxRecDepth 4000 in
set_option maxHeartbeats 2000000 in
theorem l4From_is (w : World) {A B : Option Addr} {n c m d : Nat} {g : G} (h : GRd w A n B m g) (hm12 : m ≤ 12) (node : Int) :
    Calls Tryz.prog 98 #[.agg #[.slice A n c, .slice B m d], .int .i64 node] w fun e w' => ∃ A2 n2 c2, e = .returned (.slice A2 n2 c2) ∧ RIs w' w.heap.size w'.heap.size 68 2 A2 n2 c2 (stcs (accSt g.es node m)) ∧ Below w.heap.size w w' := by
  have hm := h.bm
  have HLM := Lib.hid h.gr.lm
  have hB0 : Below w.heap.size w (w.alloc (.cells #[.slice A n c, .slice B m d] 27)) := (Below.refl _ _).alloc (Nat.le_refl _) _
  have kB : (w.alloc (.cells #[.slice A n c, .slice B m d] 27)).cell? ⟨w.heap.size, 1, none⟩ = some (.slice B m d) := by go_simp
  have hzG : (w.alloc (.cells #[.slice A n c, .slice B m d] 27)).heap.size = w.heap.size + 1 := by simp
  have ho2 := own_made (w := (w.alloc (.cells #[.slice A n c, .slice B m d] 27))) (base := w.heap.size + 1) 68 2 (by simp)
  have hb2 : Below (w.heap.size + 1) (w.alloc (.cells #[.slice A n c, .slice B m d] 27)) ((w.alloc (.cells #[.slice A n c, .slice B m d] 27)).alloc (.cells #[] 68)) := (Below.refl _ _).alloc (by simp) _
  have hz2 : w.heap.size + 1 ≤ ((w.alloc (.cells #[.slice A n c, .slice B m d] 27)).alloc (.cells #[] 68)).heap.size := by simp
  rw [hzG] at ho2
  clear hzG
  go_enter Tryz.func98, Tryz.ntmps98
  go_wp2_with fail
  generalize (w.alloc (.cells #[.slice A n c, .slice B m d] 27)) = wG at *
  go_loopw [5, 6] (fun v i wr => ∃ (k : Nat), k ≤ m ∧ i = .int .i64 k ∧ wr.ownsRow (w.heap.size + 1) 68 2 v (accSt g.es node k).length (stcs (accSt g.es node k)) ∧ Below (w.heap.size + 1) wG wr ∧ w.heap.size + 1 ≤ wr.heap.size) (fun _ i _ => m - (intOf i).toNat)
  case atStart => exact ⟨0, Nat.zero_le _, rfl, ho2, hb2, hz2⟩
  case round =>
    obtain ⟨k, hk, rfl, hown, hbel, hz4⟩ := hrel
    have hbw : Below w.heap.size w _ := hB0.trans (hbel.mono (Nat.le_succ _))
    have kBr := (hbel.cell (p := ⟨w.heap.size, 1, none⟩) (Nat.lt_succ_self _)).trans kB
    by_cases hlt : k < m
    · obtain ⟨b, o, rfl, had, e, he, c0, c1, c2, c3⟩ := edge_at (h.edges.up hbw).rd HLM.out hlt
      have HK := Lib.hid (fun w' (hb : Below w.heap.size w w') => edge_cells (h.edges.up hb).rd he)
      have hsucc := accSt_succ (node := node) he
      have hlen := accSt_len g.es node k
      have q3 : Small ((accSt g.es node k).length + 1) := small_of (by omega)
      have q4 : Small ((accSt g.es node k).length + 1 + 1) := small_of (by omega)
      have h1f := stcs_one [St.mk e.id false]
      have h1t := stcs_one [St.mk e.id true]
      obtain ⟨L, hL⟩ : ∃ L, accSt g.es node k = L := ⟨_, rfl⟩
      rw [hL] at hown q3 q4 hsucc
      by_cases h1 : e.fr = node
      · by_cases h2 : e.to = node
        · skip
          have hst : accSt g.es node (k + 1) = ((L ++ [St.mk e.id false]) ++ [St.mk e.id true]) := by rw [hsucc, stepsOf, if_pos h1, if_pos h2]; simp
          have HST := Lib.hid hst
          have hq1 : (e.fr == node) = true := by simpa using h1
          have hq2 : (e.to == node) = true := by simpa using h2
          clear hst hsucc h1 h2 he hL hlen
          go_wp2_with (first
            | (at_builtin; refine ap_plain _ app_step (by decide) (w.heap.size + 1) (.tmp 41) (.tmp 49) rfl rfl _ _ _ rfl (hown5.alloc _) _ _ 1 1 _ rfl (reads_new _ rfl) h1t q4 (Nat.le_trans hz5 (by simp)) ?_; intro v6 w6 hown6 hg6 hat6; clear hat6; have hb6 := below_grown_own (hb5.alloc hz5 _) (hown5.alloc _) hg6 (Nat.le_refl _) (Nat.le_trans hz5 (by simp)); have hz6 : w.heap.size + 1 ≤ w6.heap.size := Nat.le_trans hz5 (Nat.le_trans (by simp) hg6.size); replace hown6 := own_snoc_st (St.mk e.id true) rfl hown6; clear hg6)
            | (at_builtin; refine ap_plain _ app_step (by decide) (w.heap.size + 1) (.tmp 23) (.tmp 31) rfl rfl _ _ _ rfl (hown.alloc _) _ _ 1 1 _ rfl (reads_new _ rfl) h1f q3 (Nat.le_trans hz4 (by simp)) ?_; intro v5 w5 hown5 hg5 hat5; clear hat5; have hb5 := below_grown_own (hbel.alloc hz4 _) (hown.alloc _) hg5 (Nat.le_refl _) (Nat.le_trans hz4 (by simp)); have hz5 : w.heap.size + 1 ≤ w5.heap.size := Nat.le_trans hz4 (Nat.le_trans (by simp) hg5.size); replace hown5 := own_snoc_st (St.mk e.id false) rfl hown5; clear hg5; have kB5 := (hb5.cell (p := ⟨w.heap.size, 1, none⟩) (Nat.lt_succ_self _)).trans kB; obtain ⟨c05, c15, c25, _⟩ := HK.out w5 (hB0.trans (hb5.mono (Nat.le_succ _)))))
          go_roundw
          case rel => exact ⟨k + 1, by omega, by go_num, by rw [HST.out]; simpa using hown6, hb6, hz6⟩
          case measure => simp [intOf]; omega
        · skip
          have hst : accSt g.es node (k + 1) = (L ++ [St.mk e.id false]) := by rw [hsucc, stepsOf, if_pos h1, if_neg h2]; simp
          have HST := Lib.hid hst
          have hq1 : (e.fr == node) = true := by simpa using h1
          have hq2 : (e.to == node) = false := by simpa using h2
          clear hst hsucc h1 h2 he hL hlen
          go_wp2_with (first
            | (at_builtin; refine ap_plain _ app_step (by decide) (w.heap.size + 1) (.tmp 23) (.tmp 31) rfl rfl _ _ _ rfl (hown.alloc _) _ _ 1 1 _ rfl (reads_new _ rfl) h1f q3 (Nat.le_trans hz4 (by simp)) ?_; intro v5 w5 hown5 hg5 hat5; clear hat5; have hb5 := below_grown_own (hbel.alloc hz4 _) (hown.alloc _) hg5 (Nat.le_refl _) (Nat.le_trans hz4 (by simp)); have hz5 : w.heap.size + 1 ≤ w5.heap.size := Nat.le_trans hz4 (Nat.le_trans (by simp) hg5.size); replace hown5 := own_snoc_st (St.mk e.id false) rfl hown5; clear hg5; have kB5 := (hb5.cell (p := ⟨w.heap.size, 1, none⟩) (Nat.lt_succ_self _)).trans kB; obtain ⟨c05, c15, c25, _⟩ := HK.out w5 (hB0.trans (hb5.mono (Nat.le_succ _)))))
          go_roundw
          case rel => exact ⟨k + 1, by omega, by go_num, by rw [HST.out]; simpa using hown5, hb5, hz5⟩
          case measure => simp [intOf]; omega
      · by_cases h2 : e.to = node
        · skip
          have hst : accSt g.es node (k + 1) = (L ++ [St.mk e.id true]) := by rw [hsucc, stepsOf, if_neg h1, if_pos h2]; simp
          have HST := Lib.hid hst
          have hq1 : (e.fr == node) = false := by simpa using h1
          have hq2 : (e.to == node) = true := by simpa using h2
          clear hst hsucc h1 h2 he hL hlen
          go_wp2_with (first
            | (at_builtin; refine ap_plain _ app_step (by decide) (w.heap.size + 1) (.tmp 41) (.tmp 49) rfl rfl _ _ _ rfl (hown.alloc _) _ _ 1 1 _ rfl (reads_new _ rfl) h1t q3 (Nat.le_trans hz4 (by simp)) ?_; intro v5 w5 hown5 hg5 hat5; clear hat5; have hb5 := below_grown_own (hbel.alloc hz4 _) (hown.alloc _) hg5 (Nat.le_refl _) (Nat.le_trans hz4 (by simp)); have hz5 : w.heap.size + 1 ≤ w5.heap.size := Nat.le_trans hz4 (Nat.le_trans (by simp) hg5.size); replace hown5 := own_snoc_st (St.mk e.id true) rfl hown5; clear hg5))
          go_roundw
          case rel => exact ⟨k + 1, by omega, by go_num, by rw [HST.out]; simpa using hown5, hb5, hz5⟩
          case measure => simp [intOf]; omega
        · skip
          have hst : accSt g.es node (k + 1) = L := by rw [hsucc, stepsOf, if_neg h1, if_neg h2]; simp
          have HST := Lib.hid hst
          have hq1 : (e.fr == node) = false := by simpa using h1
          have hq2 : (e.to == node) = false := by simpa using h2
          clear hst hsucc h1 h2 he hL hlen
          go_wp2
          go_roundw
          case rel => exact ⟨k + 1, by omega, by go_num, by rw [HST.out]; simpa using hown, hbel, hz4⟩
          case measure => simp [intOf]; omega
    · obtain rfl : k = m := by omega
      obtain ⟨A2, c2, rfl, _⟩ := own_form hown
      have hlen := accSt_len g.es node k
      have hown' := (RIs.of hown (by omega)).wide (Nat.le_succ _) (Nat.le_refl _)
      clear hlen
      go_wp2
      go_ret
      exact ⟨_, _, _, rfl, hown', hbw⟩
end Go.Proofs.YtomkgnamjfiocaaGreatDoor
namespace Go.Proofs.YtomkgnamjfiocaaGreatDoor
open Go.RowKit Go.ChangeShapes Go.WideShapes Go.ChangeAt Go.Deep
set_option linter.unusedVariables false
/-- The block of a row that grows: in [lo, hi), or new since w. -/
def OB (lo hi z : Nat) (v : Value) : Prop := ∀ g, v.ownBlock = some g → (lo ≤ g ∧ g < hi) ∨ z ≤ g
theorem OB.next {lo hi z s : Nat} {v v' : Value} (h : OB lo hi z v) (hat : v'.ownBlock = v.ownBlock ∨ v'.ownBlock = some s) (hz : z ≤ s) : OB lo hi z v' := by
  intro g hg
  rcases hat with h1 | h1
  · exact h g (by rw [← h1, hg])
  · rw [hg] at h1
    injection h1 with h1
    omega
def stepsW (g : G) (node letter : Int) : List St := (stepsF g node).filter (fun s => stLet g s == letter)
theorem filter_succ {α : Type} (p : α → Bool) {L : List α} {k : Nat} {x : α} (h : L[k]? = some x) : (L.take (k + 1)).filter p = (L.take k).filter p ++ (if p x then [x] else []) := by
  obtain ⟨hk, rfl⟩ := List.getElem?_eq_some_iff.1 h
  rw [List.take_succ_eq_append_getElem hk, List.filter_append]
  simp [List.filter_cons]
theorem filter_take_len {α : Type} (p : α → Bool) (L : List α) (k : Nat) : ((L.take k).filter p).length ≤ k := Nat.le_trans (List.length_filter_le _ _) (List.length_take_le _ _)
theorem step_cells {w : World} {B b o n k : Nat} {es : List St} {e : St} (h : Reads w B 2 (some ⟨b, o, none⟩) n (stcs es)) (he : es[k]? = some e) : w.cell? ⟨b, o + k * 2, none⟩ = some (.int .i64 e.ed) ∧ w.cell? ⟨b, o + k * 2 + 1, none⟩ = some (.bool e.inv) := by
  have hk := (List.getElem?_eq_some_iff.1 he).1
  have hl : es.length = n := by have := h.1; rw [stcs_len] at this; omega
  obtain ⟨b2, o2, hA, _, e2, he2, c0, c1⟩ := step_at (k := k) h hl (by omega)
  have hbo : b = b2 ∧ o = o2 := by simpa using hA
  obtain ⟨rfl, rfl⟩ := hbo
  obtain rfl : e = e2 := by rw [he] at he2; simpa using he2
  exact ⟨c0, c1⟩
end Go.Proofs.YtomkgnamjfiocaaGreatDoor
namespace Go.Proofs.YtomkgnamjfiocaaGreatDoor
open Go.RowKit Go.ChangeShapes Go.WideShapes Go.ChangeAt Go.Deep
set_option linter.unusedVariables false
def hasB (es : List E) (e : E) : Bool := decide (e ∈ es)
def hasUp (es : List E) (k : Nat) (e : E) : Bool := decide (e ∈ es.take k)
theorem hasUp_succ {es : List E} {k : Nat} {x e : E} (h : es[k]? = some x) : hasUp es (k + 1) e = (hasUp es k e || decide (e = x)) := by
  obtain ⟨hk, rfl⟩ := List.getElem?_eq_some_iff.1 h
  unfold hasUp
  rw [List.take_succ_eq_append_getElem hk, Bool.eq_iff_iff]
  simp only [decide_eq_true_eq, Bool.or_eq_true, List.mem_append, List.mem_singleton]
theorem hasUp_all (es : List E) (e : E) {n : Nat} (h : es.length = n) : hasUp es n e = hasB es e := by
  unfold hasUp hasB
  rw [List.take_of_length_le (by omega)]
theorem hasUp_true {es : List E} {k : Nat} {e : E} (h : hasUp es k e = true) : hasB es e = true := by
  unfold hasUp hasB at *
  simp only [decide_eq_true_eq] at *
  exact List.mem_of_mem_take h
def FoundE (b : Bool) (w : World) (e : Ending) (w' : World) : Prop := ∃ z : Int, e = .returned (.int .i64 z) ∧ decide (0 ≤ z) = b ∧ Below w.heap.size w w'
set_option maxRecDepth 4000 in
set_option maxHeartbeats 1000000 in
theorem slIdxE_any (w : World) {B : Option Addr} {m d : Nat} {es : List E} (h : ERd w B m es) (e : E) :
    Calls Tryz.prog 109 #[.slice B m d, .agg #[.int .i64 e.id, .int .i64 e.fr, .int .i64 e.to, .int .i64 e.lb]] w (FoundE (hasB es e) w) := by
  have hm := h.bd
  have HL := Lib.hid h.ln
  have HA := Lib.hid (hasUp_all es e h.ln)
  have HT := Lib.hid (fun k => hasUp_true (es := es) (k := k) (e := e))
  obtain ⟨a, b, c, d'⟩ := e
  have hB0 : Below w.heap.size w (w.alloc (.cells #[.int .i64 a, .int .i64 b, .int .i64 c, .int .i64 d'] 90)) := (Below.refl _ _).alloc (Nat.le_refl _) _
  have x0 : (w.alloc (.cells #[.int .i64 a, .int .i64 b, .int .i64 c, .int .i64 d'] 90)).cell? ⟨w.heap.size, 0, none⟩ = some (.int .i64 a) := by go_simp
  have x1 : (w.alloc (.cells #[.int .i64 a, .int .i64 b, .int .i64 c, .int .i64 d'] 90)).cell? ⟨w.heap.size, 1, none⟩ = some (.int .i64 b) := by go_simp
  have x2 : (w.alloc (.cells #[.int .i64 a, .int .i64 b, .int .i64 c, .int .i64 d'] 90)).cell? ⟨w.heap.size, 2, none⟩ = some (.int .i64 c) := by go_simp
  have x3 : (w.alloc (.cells #[.int .i64 a, .int .i64 b, .int .i64 c, .int .i64 d'] 90)).cell? ⟨w.heap.size, 3, none⟩ = some (.int .i64 d') := by go_simp
  go_enter Tryz.func109, Tryz.ntmps109
  go_wp2
  generalize (w.alloc (.cells #[.int .i64 a, .int .i64 b, .int .i64 c, .int .i64 d'] 90)) = w0 at *
  go_loopw [8] (fun i wr => ∃ k : Nat, k ≤ m ∧ i = .int .i64 k ∧ hasUp es k ⟨a, b, c, d'⟩ = false ∧ ∃ p, wr = w0.drewN p) (fun i _ => m - (intOf i).toNat)
  case atStart => exact ⟨0, Nat.zero_le _, rfl, by simp [hasUp], 0, rfl⟩
  case round =>
    obtain ⟨k, hk, rfl, hno, p, rfl⟩ := hrel
    by_cases hlt : k < m
    · obtain ⟨b2, o2, rfl, hb2, y, hy, d0, d1, d2, d3⟩ := edge_at (h.up hB0).rd HL.out hlt
      have hs := hasUp_succ (e := ⟨a, b, c, d'⟩) hy
      rw [hno, Bool.false_or] at hs
      have HS := Lib.hid hs
      have hEq := eqlE_run ⟨a, b, c, d'⟩ y
      have hlt' : (k : Int) < m := by omega
      have hk0 : (0 : Int) ≤ (k : Int) := by omega
      clear hy hno hs
      obtain ⟨y0, y1, y2, y3⟩ := y
      dsimp only at d0 d1 d2 d3 hEq
      by_cases hxy : (E.mk a b c d' = E.mk y0 y1 y2 y3)
      · rw [decide_eq_true hxy] at hEq
        have HF := Lib.hid (show hasB es ⟨a, b, c, d'⟩ = true from HT.out (k + 1) (by rw [HS.out, decide_eq_true hxy]))
        clear hxy
        go_wp2
        go_quiet (fail)
        go_wp2
        go_ret
        exact ⟨_, rfl, by rw [HF.out]; simp, below_drewN (below_drewN hB0 _) _⟩
      · rw [decide_eq_false hxy] at hEq
        have HF := Lib.hid (show hasUp es (k + 1) ⟨a, b, c, d'⟩ = false by rw [HS.out, decide_eq_false hxy])
        clear hxy
        go_wp2
        go_quiet (fail)
        go_wp2
        go_roundw
        case rel => exact ⟨k + 1, by omega, by go_num, HF.out, _, rfl⟩
        case measure => simp [intOf]; omega
    · obtain rfl : k = m := by omega
      have HF := Lib.hid (show hasB es ⟨a, b, c, d'⟩ = false by rw [← HA.out]; exact hno)
      clear hno
      go_wp2
      go_ret
      exact ⟨_, rfl, by rw [HF.out]; rfl, below_drewN hB0 _⟩
set_option maxRecDepth 4000 in
theorem containsE_any (w : World) {B : Option Addr} {m d : Nat} {es : List E} (h : ERd w B m es) (e : E) :
    Calls Tryz.prog 65 #[.slice B m d, .agg #[.int .i64 e.id, .int .i64 e.fr, .int .i64 e.to, .int .i64 e.lb]] w fun r w' => r = .returned (.bool (hasB es e)) ∧ Below w.heap.size w w' := by
  obtain ⟨a, b, c, d'⟩ := e
  have hB0 : Below w.heap.size w (w.alloc (.cells #[.int .i64 a, .int .i64 b, .int .i64 c, .int .i64 d'] 90)) := (Below.refl _ _).alloc (Nat.le_refl _) _
  go_enter Tryz.func65, Tryz.ntmps65
  go_wp2_with fail
  refine (slIdxE_any _ (h.up hB0) ⟨a, b, c, d'⟩).mono ?_
  rintro r w1 ⟨z, rfl, hz, hb1⟩
  have HZ := Lib.hid hz
  clear hz
  go_wp2
  go_ret
  exact ⟨by rw [← HZ.out] <;> rfl, below_then hB0 hb1⟩
theorem sorted_ids {g : G} (hv : validG g = true) : ∀ (j i : Nat) (x y : E), i < j → g.es[i]? = some x → g.es[j]? = some y → x.id < y.id := by
  have hord : ∀ k x y, g.es[k]? = some x → g.es[k + 1]? = some y → x.id < y.id := by
    intro k x y hx hy
    have hk := (List.getElem?_eq_some_iff.1 hy).1
    unfold validG at hv
    simp only [Bool.and_eq_true] at hv
    have := (edgesB_ok hv.1.1.2 hk hy).2
    simp only [ordE, hx, hy, decide_eq_true_eq] at this
    exact this
  intro j
  induction j with
  | zero => intro i x y h; omega
  | succ j ih =>
    intro i x y hij hx hy
    rcases Nat.lt_or_ge i j with h | h
    · have hj := (List.getElem?_eq_some_iff.1 hy).1
      obtain ⟨z, hz⟩ : ∃ z, g.es[j]? = some z := ⟨_, List.getElem?_eq_getElem (by omega)⟩
      have h1 := ih i x z h hx hz
      have h2 := hord j z y hz hy
      omega
    · obtain rfl : i = j := by omega
      exact hord i x y hx hy
theorem ixN_id {es : List E} {i : Int} {e : E} (h : es[ixN es i]? = some e) : e.id = i := by
  obtain ⟨hlt, he⟩ := List.getElem?_eq_some_iff.1 h
  have h3 := List.findIdx_getElem (w := (show List.findIdx (fun e : E => e.id == i) es < es.length from hlt))
  have h4 : (es[List.findIdx (fun e : E => e.id == i) es]'hlt) = e := he
  have h5 := eq_of_beq h3
  rw [← h4]
  exact h5
theorem ixN_of_mem {es : List E} {e : E} (h : e ∈ es) : ixN es e.id < es.length := List.findIdx_lt_length_of_exists ⟨e, h, by simp⟩
/-- In a valid graph an edge is found at its number's place, if at all. -/
theorem has_ix {g : G} (hv : validG g = true) (e : E) : (match g.es[ixN g.es e.id]? with | some x => decide (x = e) | none => false) = hasB g.es e := by
  unfold hasB
  cases hx : g.es[ixN g.es e.id]? with
  | none =>
    simp only
    symm
    rw [decide_eq_false_iff_not]
    intro hm
    have := ixN_of_mem hm
    rw [List.getElem?_eq_none_iff] at hx
    omega
  | some x =>
    simp only
    rw [decide_eq_decide]
    constructor
    · rintro rfl
      exact List.mem_of_getElem? hx
    · intro hm
      obtain ⟨j, hj, rfl⟩ := List.mem_iff_getElem.1 hm
      have hid := ixN_id hx
      have hj2 : g.es[j]? = some g.es[j] := List.getElem?_eq_getElem hj
      rcases Nat.lt_trichotomy (ixN g.es g.es[j].id) j with h | h | h
      · have := sorted_ids hv j _ _ _ h hx hj2; omega
      · rw [h, hj2] at hx; exact (Option.some.inj hx).symm
      · have := sorted_ids hv _ j _ _ h hj2 hx; omega
end Go.Proofs.YtomkgnamjfiocaaGreatDoor
