/- StepFrom, StepTo, StepLetter, HoldsAt of both packages. -/
import Derived.Test.YtljggmgijadjaaaGreatDoorSetV
import Derived.Test.YtljggmgijadjaaaGreatDoorBaseA
namespace Go.Proofs.YtljggmgijadjaaaGreatDoor
open Go.RowKit Go.ChangeShapes Go.WideShapes Go.ChangeAt Go.Deep
set_option linter.unusedVariables false
theorem implEdgeIx_rd (w : World) {A B : Option Addr} {n c m d : Nat} {g : G} (h : GRd w A n B m g) (i : Int) : Calls Tryz.prog 11 #[.agg #[.slice A n c, .slice B m d], .int .i64 i] w fun e w' => e = .returned (.int .i64 (ixE g.es i)) ∧ Below w.heap.size w w' := implEdgeIx_any A B n c m d g.es i w h.gr.lm h.bm h.gr.re
theorem specEdgeIx_rd (w : World) {A B : Option Addr} {n c m d : Nat} {g : G} (h : GRd w A n B m g) (i : Int) : Calls Tryz.prog 62 #[.agg #[.slice A n c, .slice B m d], .int .i64 i] w fun e w' => e = .returned (.int .i64 (ixE g.es i)) ∧ Below w.heap.size w w' := specEdgeIx_any A B n c m d g.es i w h.gr.lm h.bm h.gr.re
def E0 : E := ⟨0, 0, 0, 0⟩
/-- The edge of a step, and whether there is one. -/
def stE (g : G) (s : St) : E × Bool := if validG g then match g.es[ixN g.es s.ed]? with | some e => (e, true) | none => (E0, false) else (E0, false)
theorem stE_no2 {g : G} (s : St) (h : validG g = false) : stE g s = (E0, false) := by simp [stE, h]
theorem stE_no1 {g : G} {s : St} (h : ¬ ixN g.es s.ed < g.es.length) : stE g s = (E0, false) := by
  unfold stE
  rw [List.getElem?_eq_none (by omega)]
  split <;> rfl
theorem stE_yes {g : G} {s : St} {e : E} (h : validG g = true) (he : g.es[ixN g.es s.ed]? = some e) : stE g s = (e, true) := by simp [stE, h, he]
theorem edgesB_ok {n m : Nat} {es : List E} (h : edgesB n es m = true) {k : Nat} {e : E} (hk : k < m) (he : es[k]? = some e) : okE n e = true ∧ ordE es k = true := by
  unfold edgesB at h
  rw [List.all_eq_true] at h
  have := h k (List.mem_range.2 hk)
  rw [he] at this
  simpa using this
theorem valid_edge {g : G} (h : validG g = true) {k : Nat} {e : E} (he : g.es[k]? = some e) : okE g.vs.length e = true := by
  have hk := (List.getElem?_eq_some_iff.1 he).1
  unfold validG at h
  simp only [Bool.and_eq_true] at h
  exact (edgesB_ok h.1.1.2 hk he).1
theorem okE_bd {n : Int} {e : E} (h : okE n e = true) : 1 ≤ e.id ∧ e.id ≤ 99 ∧ 0 ≤ e.fr ∧ e.fr ≤ n - 1 ∧ 0 ≤ e.to ∧ e.to ≤ n - 1 ∧ 0 ≤ e.lb ∧ e.lb ≤ 2 := by
  unfold okE at h
  simp only [Bool.and_eq_true, inB_true] at h
  omega
theorem valid_len {g : G} (h : validG g = true) : 1 ≤ g.vs.length ∧ g.vs.length ≤ 5 ∧ g.es.length ≤ 12 ∧ ∀ x ∈ g.vs, 0 ≤ x ∧ x ≤ 2 := by
  unfold validG at h
  simp only [Bool.and_eq_true, inB_true, decide_eq_true_eq, List.all_eq_true] at h
  obtain ⟨⟨⟨h1, _⟩, h2⟩, h3⟩ := h
  exact ⟨by omega, by omega, h3, fun x hx => h1 x hx⟩
set_option maxRecDepth 4000 in
set_option maxHeartbeats 1000000 in
theorem stepEdge_any (w : World) {A B : Option Addr} {n c m d : Nat} {g : G} (h : GRd w A n B m g) (s : St) (e : E) (ok : Bool) (hs : stE g s = (e, ok)) :
    Calls Tryz.prog 127 #[.agg #[.slice A n c, .slice B m d], .agg #[.int .i64 s.ed, .bool s.inv]] w fun r w' => r = .returned (.tuple #[.agg #[.int .i64 e.id, .int .i64 e.fr, .int .i64 e.to, .int .i64 e.lb], .bool ok]) ∧ Below w.heap.size w w' := by
  have lm := h.gr.lm
  have hm := h.bm
  have hn1 := stE_no1 (g := g) (s := s)
  have hn2 := stE_no2 (g := g) s
  have hy := fun e => stE_yes (g := g) (s := s) (e := e)
  obtain ⟨i, b⟩ := s
  rw [hs] at hn1 hn2
  simp only [hs] at hy
  dsimp only at hn1 hy
  clear hs
  go_enter Tryz.func127, Tryz.ntmps127
  go_wp2_with fail
  have hB0 : Below w.heap.size w (((w.alloc (.cells #[.slice A n c, .slice B m d] 27)).alloc (.cells #[.int .i64 i, .bool b] 106)).alloc (.cells #[.int .i64 0, .int .i64 0, .int .i64 0, .int .i64 0] 29)) := (((Below.refl _ _).alloc (Nat.le_refl _) _).alloc (by simp) _).alloc (by simp; omega) _
  have kA : (((w.alloc (.cells #[.slice A n c, .slice B m d] 27)).alloc (.cells #[.int .i64 i, .bool b] 106)).alloc (.cells #[.int .i64 0, .int .i64 0, .int .i64 0, .int .i64 0] 29)).cell? ⟨w.heap.size, 0, none⟩ = some (.slice A n c) := by go_simp
  have kB : (((w.alloc (.cells #[.slice A n c, .slice B m d] 27)).alloc (.cells #[.int .i64 i, .bool b] 106)).alloc (.cells #[.int .i64 0, .int .i64 0, .int .i64 0, .int .i64 0] 29)).cell? ⟨w.heap.size, 1, none⟩ = some (.slice B m d) := by go_simp
  have r0 : (((w.alloc (.cells #[.slice A n c, .slice B m d] 27)).alloc (.cells #[.int .i64 i, .bool b] 106)).alloc (.cells #[.int .i64 0, .int .i64 0, .int .i64 0, .int .i64 0] 29)).cell? ⟨w.heap.size + 1 + 1, 0, none⟩ = some (.int .i64 0) := by go_simp
  have r1 : (((w.alloc (.cells #[.slice A n c, .slice B m d] 27)).alloc (.cells #[.int .i64 i, .bool b] 106)).alloc (.cells #[.int .i64 0, .int .i64 0, .int .i64 0, .int .i64 0] 29)).cell? ⟨w.heap.size + 1 + 1, 1, none⟩ = some (.int .i64 0) := by go_simp
  have r2 : (((w.alloc (.cells #[.slice A n c, .slice B m d] 27)).alloc (.cells #[.int .i64 i, .bool b] 106)).alloc (.cells #[.int .i64 0, .int .i64 0, .int .i64 0, .int .i64 0] 29)).cell? ⟨w.heap.size + 1 + 1, 2, none⟩ = some (.int .i64 0) := by go_simp
  have r3 : (((w.alloc (.cells #[.slice A n c, .slice B m d] 27)).alloc (.cells #[.int .i64 i, .bool b] 106)).alloc (.cells #[.int .i64 0, .int .i64 0, .int .i64 0, .int .i64 0] 29)).cell? ⟨w.heap.size + 1 + 1, 3, none⟩ = some (.int .i64 0) := by go_simp
  have f0 : (((w.alloc (.cells #[.slice A n c, .slice B m d] 27)).alloc (.cells #[.int .i64 i, .bool b] 106)).alloc (.cells #[.int .i64 0, .int .i64 0, .int .i64 0, .int .i64 0] 29)).frozen? ⟨w.heap.size + 1 + 1, 0, none⟩ = false := by go_simp
  have f1 : (((w.alloc (.cells #[.slice A n c, .slice B m d] 27)).alloc (.cells #[.int .i64 i, .bool b] 106)).alloc (.cells #[.int .i64 0, .int .i64 0, .int .i64 0, .int .i64 0] 29)).frozen? ⟨w.heap.size + 1 + 1, 1, none⟩ = false := by go_simp
  have f2 : (((w.alloc (.cells #[.slice A n c, .slice B m d] 27)).alloc (.cells #[.int .i64 i, .bool b] 106)).alloc (.cells #[.int .i64 0, .int .i64 0, .int .i64 0, .int .i64 0] 29)).frozen? ⟨w.heap.size + 1 + 1, 2, none⟩ = false := by go_simp
  have f3 : (((w.alloc (.cells #[.slice A n c, .slice B m d] 27)).alloc (.cells #[.int .i64 i, .bool b] 106)).alloc (.cells #[.int .i64 0, .int .i64 0, .int .i64 0, .int .i64 0] 29)).frozen? ⟨w.heap.size + 1 + 1, 3, none⟩ = false := by go_simp
  have hz0 : w.heap.size + 1 + 1 < (((w.alloc (.cells #[.slice A n c, .slice B m d] 27)).alloc (.cells #[.int .i64 i, .bool b] 106)).alloc (.cells #[.int .i64 0, .int .i64 0, .int .i64 0, .int .i64 0] 29)).heap.size := by simp
  generalize (((w.alloc (.cells #[.slice A n c, .slice B m d] 27)).alloc (.cells #[.int .i64 i, .bool b] 106)).alloc (.cells #[.int .i64 0, .int .i64 0, .int .i64 0, .int .i64 0] 29)) = w0 at *
  refine (implEdgeIx_rd _ (h.up hB0) i).mono ?_
  rintro r w1 ⟨rfl, hb1⟩
  have hB1 := below_then hB0 hb1
  have kA1 := cell_keep hb1 kA
  have kB1 := cell_keep hb1 kB
  by_cases hix : ixN g.es i < g.es.length
  rotate_left
  · have h3 := hn1 hix
    injection h3 with h31 h32
    subst h31
    subst h32
    have hE : ixE g.es i = -1 := by unfold ixE; rw [if_neg hix]
    rw [hE]
    have r01 := cell_keep hb1 r0
    have r11 := cell_keep hb1 r1
    have r21 := cell_keep hb1 r2
    have r31 := cell_keep hb1 r3
    have f01 := frozen_keep hb1 r0 f0
    have f11 := frozen_keep hb1 r1 f1
    have f21 := frozen_keep hb1 r2 f2
    have f31 := frozen_keep hb1 r3 f3
    clear hE hix hn1 hn2 hy r0 r1 r2 r3 f0 f1 f2 f3 kA kB lm
    go_wp2
    refine bodyPost_ret (v := .tuple #[.agg #[.int .i64 0, .int .i64 0, .int .i64 0, .int .i64 0], .bool false]) ?_ rfl ?_
    · simp [results, Tryz.results127, go_sem]
      go_simp
    · refine ⟨rfl, ?_⟩
      repeat (with_reducible refine Below.setCell ?_ ?hb _; (case hb => dsimp only; omega))
      exact hB1
  · have hE : ixE g.es i = (ixN g.es i : Int) := by unfold ixE; rw [if_pos hix]
    obtain ⟨e1, he1⟩ : ∃ e1, g.es[ixN g.es i]? = some e1 := ⟨_, List.getElem?_eq_getElem hix⟩
    rw [hE]
    have HY := Lib.hid (fun hv => hy e1 hv he1)
    have HE := Lib.hid he1
    have HL := Lib.hid lm
    obtain ⟨k, hk⟩ : ∃ k, ixN g.es i = k := ⟨_, rfl⟩
    rw [hk] at hix HE ⊢
    have hkm : k < m := by omega
    have hlt : (k : Int) < m := by omega
    clear hE hy hn1 hk he1 lm hix
    go_wp2_with fail
    refine (implValid_rd _ (h.up hB1)).mono ?_
    rintro r w2 ⟨rfl, hb2⟩
    have hb02 := below_then hb1 hb2
    have hB2 := below_then hB1 hb2
    have kA2 := cell_keep hb2 kA1
    have kB2 := cell_keep hb2 kB1
    have r01 := cell_keep hb02 r0
    have r11 := cell_keep hb02 r1
    have r21 := cell_keep hb02 r2
    have r31 := cell_keep hb02 r3
    have f01 := frozen_keep hb02 r0 f0
    have f11 := frozen_keep hb02 r1 f1
    have f21 := frozen_keep hb02 r2 f2
    have f31 := frozen_keep hb02 r3 f3
    have hG := h.up hB2
    clear r0 r1 r2 r3 f0 f1 f2 f3 kA kB kA1 kB1
    cases hv : validG g
    · have h3 := hn2 hv
      injection h3 with h31 h32
      subst h31
      subst h32
      clear hv hn2 HY
      go_wp2
      refine bodyPost_ret (v := .tuple #[.agg #[.int .i64 0, .int .i64 0, .int .i64 0, .int .i64 0], .bool false]) ?_ rfl ?_
      · simp [results, Tryz.results127, go_sem]
        go_simp
      · refine ⟨rfl, ?_⟩
        repeat (with_reducible refine Below.setCell ?_ ?hb _; (case hb => dsimp only; omega))
        exact hB2
    · have h3 := HY.out hv
      injection h3 with h31 h32
      subst h31
      subst h32
      obtain ⟨b9, o9, rfl, had, e2, he2, c0, c1, c2, c3⟩ := edge_at hG.gr.re HL.out hkm
      obtain rfl : e = e2 := by have := HE.out; rw [he2] at this; simpa using this.symm
      clear hv hn2 HY he2 hG
      go_wp2
      refine bodyPost_ret (v := .tuple #[.agg #[.int .i64 e.id, .int .i64 e.fr, .int .i64 e.to, .int .i64 e.lb], .bool true]) ?_ rfl ?_
      · simp [results, Tryz.results127, go_sem]
        go_simp
      · refine ⟨rfl, ?_⟩
        repeat (with_reducible refine Below.setCell ?_ ?hb _; (case hb => dsimp only; omega))
        exact hB2
set_option maxRecDepth 4000 in
set_option maxHeartbeats 1000000 in
theorem l4Edge_any (w : World) {A B : Option Addr} {n c m d : Nat} {g : G} (h : GRd w A n B m g) (s : St) (e : E) (ok : Bool) (hs : stE g s = (e, ok)) :
    Calls Tryz.prog 179 #[.agg #[.slice A n c, .slice B m d], .agg #[.int .i64 s.ed, .bool s.inv]] w fun r w' => r = .returned (.tuple #[.agg #[.int .i64 e.id, .int .i64 e.fr, .int .i64 e.to, .int .i64 e.lb], .bool ok]) ∧ Below w.heap.size w w' := by
  have lm := h.gr.lm
  have hm := h.bm
  have hn1 := stE_no1 (g := g) (s := s)
  have hn2 := stE_no2 (g := g) s
  have hy := fun e => stE_yes (g := g) (s := s) (e := e)
  obtain ⟨i, b⟩ := s
  rw [hs] at hn1 hn2
  simp only [hs] at hy
  dsimp only at hn1 hy
  clear hs
  go_enter Tryz.func179, Tryz.ntmps179
  go_wp2_with fail
  have hB0 : Below w.heap.size w (((w.alloc (.cells #[.slice A n c, .slice B m d] 27)).alloc (.cells #[.int .i64 i, .bool b] 106)).alloc (.cells #[.int .i64 0, .int .i64 0, .int .i64 0, .int .i64 0] 29)) := (((Below.refl _ _).alloc (Nat.le_refl _) _).alloc (by simp) _).alloc (by simp; omega) _
  have kA : (((w.alloc (.cells #[.slice A n c, .slice B m d] 27)).alloc (.cells #[.int .i64 i, .bool b] 106)).alloc (.cells #[.int .i64 0, .int .i64 0, .int .i64 0, .int .i64 0] 29)).cell? ⟨w.heap.size, 0, none⟩ = some (.slice A n c) := by go_simp
  have kB : (((w.alloc (.cells #[.slice A n c, .slice B m d] 27)).alloc (.cells #[.int .i64 i, .bool b] 106)).alloc (.cells #[.int .i64 0, .int .i64 0, .int .i64 0, .int .i64 0] 29)).cell? ⟨w.heap.size, 1, none⟩ = some (.slice B m d) := by go_simp
  have r0 : (((w.alloc (.cells #[.slice A n c, .slice B m d] 27)).alloc (.cells #[.int .i64 i, .bool b] 106)).alloc (.cells #[.int .i64 0, .int .i64 0, .int .i64 0, .int .i64 0] 29)).cell? ⟨w.heap.size + 1 + 1, 0, none⟩ = some (.int .i64 0) := by go_simp
  have r1 : (((w.alloc (.cells #[.slice A n c, .slice B m d] 27)).alloc (.cells #[.int .i64 i, .bool b] 106)).alloc (.cells #[.int .i64 0, .int .i64 0, .int .i64 0, .int .i64 0] 29)).cell? ⟨w.heap.size + 1 + 1, 1, none⟩ = some (.int .i64 0) := by go_simp
  have r2 : (((w.alloc (.cells #[.slice A n c, .slice B m d] 27)).alloc (.cells #[.int .i64 i, .bool b] 106)).alloc (.cells #[.int .i64 0, .int .i64 0, .int .i64 0, .int .i64 0] 29)).cell? ⟨w.heap.size + 1 + 1, 2, none⟩ = some (.int .i64 0) := by go_simp
  have r3 : (((w.alloc (.cells #[.slice A n c, .slice B m d] 27)).alloc (.cells #[.int .i64 i, .bool b] 106)).alloc (.cells #[.int .i64 0, .int .i64 0, .int .i64 0, .int .i64 0] 29)).cell? ⟨w.heap.size + 1 + 1, 3, none⟩ = some (.int .i64 0) := by go_simp
  have f0 : (((w.alloc (.cells #[.slice A n c, .slice B m d] 27)).alloc (.cells #[.int .i64 i, .bool b] 106)).alloc (.cells #[.int .i64 0, .int .i64 0, .int .i64 0, .int .i64 0] 29)).frozen? ⟨w.heap.size + 1 + 1, 0, none⟩ = false := by go_simp
  have f1 : (((w.alloc (.cells #[.slice A n c, .slice B m d] 27)).alloc (.cells #[.int .i64 i, .bool b] 106)).alloc (.cells #[.int .i64 0, .int .i64 0, .int .i64 0, .int .i64 0] 29)).frozen? ⟨w.heap.size + 1 + 1, 1, none⟩ = false := by go_simp
  have f2 : (((w.alloc (.cells #[.slice A n c, .slice B m d] 27)).alloc (.cells #[.int .i64 i, .bool b] 106)).alloc (.cells #[.int .i64 0, .int .i64 0, .int .i64 0, .int .i64 0] 29)).frozen? ⟨w.heap.size + 1 + 1, 2, none⟩ = false := by go_simp
  have f3 : (((w.alloc (.cells #[.slice A n c, .slice B m d] 27)).alloc (.cells #[.int .i64 i, .bool b] 106)).alloc (.cells #[.int .i64 0, .int .i64 0, .int .i64 0, .int .i64 0] 29)).frozen? ⟨w.heap.size + 1 + 1, 3, none⟩ = false := by go_simp
  have hz0 : w.heap.size + 1 + 1 < (((w.alloc (.cells #[.slice A n c, .slice B m d] 27)).alloc (.cells #[.int .i64 i, .bool b] 106)).alloc (.cells #[.int .i64 0, .int .i64 0, .int .i64 0, .int .i64 0] 29)).heap.size := by simp
  generalize (((w.alloc (.cells #[.slice A n c, .slice B m d] 27)).alloc (.cells #[.int .i64 i, .bool b] 106)).alloc (.cells #[.int .i64 0, .int .i64 0, .int .i64 0, .int .i64 0] 29)) = w0 at *
  refine (specEdgeIx_rd _ (h.up hB0) i).mono ?_
  rintro r w1 ⟨rfl, hb1⟩
  have hB1 := below_then hB0 hb1
  have kA1 := cell_keep hb1 kA
  have kB1 := cell_keep hb1 kB
  obtain ⟨q, hq⟩ : ∃ q, ixE g.es i = q := ⟨_, rfl⟩
  rw [hq]
  have HQ := Lib.hid hq
  clear hq
  go_wp2_with fail
  refine (specValid_rd _ (h.up hB1)).mono ?_
  rintro r w2 ⟨rfl, hb2⟩
  have hb02 := below_then hb1 hb2
  have hB2 := below_then hB1 hb2
  have kA2 := cell_keep hb2 kA1
  have kB2 := cell_keep hb2 kB1
  have r01 := cell_keep hb02 r0
  have r11 := cell_keep hb02 r1
  have r21 := cell_keep hb02 r2
  have r31 := cell_keep hb02 r3
  have f01 := frozen_keep hb02 r0 f0
  have f11 := frozen_keep hb02 r1 f1
  have f21 := frozen_keep hb02 r2 f2
  have f31 := frozen_keep hb02 r3 f3
  have hG := h.up hB2
  clear r0 r1 r2 r3 f0 f1 f2 f3 kA kB kA1 kB1
  cases hv : validG g
  · have h3 := hn2 hv
    injection h3 with h31 h32
    subst h31
    subst h32
    clear hv hn2 hn1 hy lm HQ
    go_wp2
    refine bodyPost_ret (v := .tuple #[.agg #[.int .i64 0, .int .i64 0, .int .i64 0, .int .i64 0], .bool false]) ?_ rfl ?_
    · simp [results, Tryz.results179, go_sem]
      go_simp
    · refine ⟨rfl, ?_⟩
      repeat (with_reducible refine Below.setCell ?_ ?hb _; (case hb => dsimp only; omega))
      exact hB2
  · by_cases hix : ixN g.es i < g.es.length
    rotate_left
    · have h3 := hn1 hix
      injection h3 with h31 h32
      subst h31
      subst h32
      have hE : ixE g.es i = -1 := by unfold ixE; rw [if_neg hix]
      obtain rfl : q = -1 := by rw [← HQ.out, hE]
      clear hv hn2 hn1 hy lm HQ hE hix
      go_wp2
      refine bodyPost_ret (v := .tuple #[.agg #[.int .i64 0, .int .i64 0, .int .i64 0, .int .i64 0], .bool false]) ?_ rfl ?_
      · simp [results, Tryz.results179, go_sem]
        go_simp
      · refine ⟨rfl, ?_⟩
        repeat (with_reducible refine Below.setCell ?_ ?hb _; (case hb => dsimp only; omega))
        exact hB2
    · have hE : ixE g.es i = (ixN g.es i : Int) := by unfold ixE; rw [if_pos hix]
      obtain ⟨e1, he1⟩ : ∃ e1, g.es[ixN g.es i]? = some e1 := ⟨_, List.getElem?_eq_getElem hix⟩
      have h3 := hy e1 hv he1
      injection h3 with h31 h32
      subst h31
      subst h32
      obtain ⟨k, hk⟩ : ∃ k, ixN g.es i = k := ⟨_, rfl⟩
      obtain rfl : q = (k : Int) := by rw [← HQ.out, hE, hk]
      rw [hk] at hix he1
      have hkm : k < m := by omega
      have hlt : (k : Int) < m := by omega
      obtain ⟨b9, o9, rfl, had, e2, he2, c0, c1, c2, c3⟩ := edge_at hG.gr.re lm hkm
      obtain rfl : e = e2 := by rw [he2] at he1; simpa using he1.symm
      clear hv hn2 hn1 hy lm HQ hE hix hk he1 he2 hG
      go_wp2
      refine bodyPost_ret (v := .tuple #[.agg #[.int .i64 e.id, .int .i64 e.fr, .int .i64 e.to, .int .i64 e.lb], .bool true]) ?_ rfl ?_
      · simp [results, Tryz.results179, go_sem]
        go_simp
      · refine ⟨rfl, ?_⟩
        repeat (with_reducible refine Below.setCell ?_ ?hb _; (case hb => dsimp only; omega))
        exact hB2

def stFrom (g : G) (s : St) : Int := if (stE g s).2 then (if s.inv then (stE g s).1.to else (stE g s).1.fr) else -1
def stTo (g : G) (s : St) : Int := stFrom g ⟨s.ed, !s.inv⟩
def stLet (g : G) (s : St) : Int := if (stE g s).2 then (if s.inv then 2 * (stE g s).1.lb + 1 else 2 * (stE g s).1.lb) else -1
theorem stE_lb {g : G} {s : St} (h : (stE g s).2 = true) : 0 ≤ (stE g s).1.lb ∧ (stE g s).1.lb ≤ 2 := by
  unfold stE at h ⊢
  cases hv : validG g
  · simp [hv] at h
  · simp only [hv, if_true] at h ⊢
    cases he : g.es[ixN g.es s.ed]? with
    | none => simp [he] at h
    | some e =>
      have := okE_bd (valid_edge hv he)
      simp only
      omega
set_option maxRecDepth 4000 in
set_option maxHeartbeats 1000000 in
theorem implStepFrom_is (w : World) {A B : Option Addr} {n c m d : Nat} {g : G} (h : GRd w A n B m g) (s : St) :
    Calls Tryz.prog 122 #[.agg #[.slice A n c, .slice B m d], .agg #[.int .i64 s.ed, .bool s.inv]] w fun r w' => r = .returned (.int .i64 (stFrom g s)) ∧ Below w.heap.size w w' := by
  have hc := fun w0 hb => stepEdge_any w0 (c := c) (d := d) (h.up hb) s (stE g s).1 (stE g s).2 rfl
  have hF : stFrom g s = if (stE g s).2 then (if s.inv then (stE g s).1.to else (stE g s).1.fr) else -1 := rfl
  obtain ⟨e, he⟩ : ∃ e, (stE g s).1 = e := ⟨_, rfl⟩
  obtain ⟨ok, hok⟩ : ∃ ok, (stE g s).2 = ok := ⟨_, rfl⟩
  rw [he, hok] at hF
  simp only [he, hok] at hc
  have HC := Lib.hid hc
  have HF := Lib.hid hF
  clear hc hF he hok
  obtain ⟨i, b⟩ := s
  have hB0 : Below w.heap.size w ((w.alloc (.cells #[.slice A n c, .slice B m d] 27)).alloc (.cells #[.int .i64 i, .bool b] 106)) := ((Below.refl _ _).alloc (Nat.le_refl _) _).alloc (by simp) _
  have kI : ((w.alloc (.cells #[.slice A n c, .slice B m d] 27)).alloc (.cells #[.int .i64 i, .bool b] 106)).cell? ⟨w.heap.size + 1, 1, none⟩ = some (.bool b) := by go_simp
  have hz0 : w.heap.size + 1 < ((w.alloc (.cells #[.slice A n c, .slice B m d] 27)).alloc (.cells #[.int .i64 i, .bool b] 106)).heap.size := by simp
  have HF2 := Lib.hid (show stFrom g ⟨i, b⟩ = if ok then (if b then e.to else e.fr) else -1 from HF.out)
  clear HF
  go_enter Tryz.func122, Tryz.ntmps122
  go_wp2_with fail
  generalize ((w.alloc (.cells #[.slice A n c, .slice B m d] 27)).alloc (.cells #[.int .i64 i, .bool b] 106)) = w0 at *
  refine (HC.out _ hB0).mono ?_
  rintro r w1 ⟨rfl, hb1⟩
  have hB1 := below_then hB0 hb1
  have kI1 := cell_keep hb1 kI
  have hz1 : w.heap.size + 1 < w1.heap.size := by have := hb1.size; omega
  clear kI
  cases ok
  · go_wp2
    go_ret
    exact ⟨by rw [HF2.out] <;> rfl, hB1.alloc hB1.size _⟩
  · cases b
    all_goals
      go_wp2
      go_ret
      exact ⟨by rw [HF2.out] <;> rfl, hB1.alloc hB1.size _⟩
set_option maxRecDepth 4000 in
set_option maxHeartbeats 1000000 in
theorem specStepFrom_is (w : World) {A B : Option Addr} {n c m d : Nat} {g : G} (h : GRd w A n B m g) (s : St) :
    Calls Tryz.prog 151 #[.agg #[.slice A n c, .slice B m d], .agg #[.int .i64 s.ed, .bool s.inv]] w fun r w' => r = .returned (.int .i64 (stFrom g s)) ∧ Below w.heap.size w w' := by
  have hc := fun w0 hb => l4Edge_any w0 (c := c) (d := d) (h.up hb) s (stE g s).1 (stE g s).2 rfl
  have hF : stFrom g s = if (stE g s).2 then (if s.inv then (stE g s).1.to else (stE g s).1.fr) else -1 := rfl
  obtain ⟨e, he⟩ : ∃ e, (stE g s).1 = e := ⟨_, rfl⟩
  obtain ⟨ok, hok⟩ : ∃ ok, (stE g s).2 = ok := ⟨_, rfl⟩
  rw [he, hok] at hF
  simp only [he, hok] at hc
  have HC := Lib.hid hc
  have HF := Lib.hid hF
  clear hc hF he hok
  obtain ⟨i, b⟩ := s
  have hB0 : Below w.heap.size w ((w.alloc (.cells #[.slice A n c, .slice B m d] 27)).alloc (.cells #[.int .i64 i, .bool b] 106)) := ((Below.refl _ _).alloc (Nat.le_refl _) _).alloc (by simp) _
  have kI : ((w.alloc (.cells #[.slice A n c, .slice B m d] 27)).alloc (.cells #[.int .i64 i, .bool b] 106)).cell? ⟨w.heap.size + 1, 1, none⟩ = some (.bool b) := by go_simp
  have hz0 : w.heap.size + 1 < ((w.alloc (.cells #[.slice A n c, .slice B m d] 27)).alloc (.cells #[.int .i64 i, .bool b] 106)).heap.size := by simp
  have HF2 := Lib.hid (show stFrom g ⟨i, b⟩ = if ok then (if b then e.to else e.fr) else -1 from HF.out)
  clear HF
  go_enter Tryz.func151, Tryz.ntmps151
  go_wp2_with fail
  generalize ((w.alloc (.cells #[.slice A n c, .slice B m d] 27)).alloc (.cells #[.int .i64 i, .bool b] 106)) = w0 at *
  refine (HC.out _ hB0).mono ?_
  rintro r w1 ⟨rfl, hb1⟩
  have hB1 := below_then hB0 hb1
  have kI1 := cell_keep hb1 kI
  have hz1 : w.heap.size + 1 < w1.heap.size := by have := hb1.size; omega
  clear kI
  cases ok
  · go_wp2
    go_ret
    exact ⟨by rw [HF2.out] <;> rfl, hB1.alloc hB1.size _⟩
  · cases b
    all_goals
      go_wp2
      go_ret
      exact ⟨by rw [HF2.out] <;> rfl, hB1.alloc hB1.size _⟩
set_option maxRecDepth 4000 in
set_option maxHeartbeats 400000 in
theorem implStepTo_is (w : World) {A B : Option Addr} {n c m d : Nat} {g : G} (h : GRd w A n B m g) (s : St) :
    Calls Tryz.prog 123 #[.agg #[.slice A n c, .slice B m d], .agg #[.int .i64 s.ed, .bool s.inv]] w fun r w' => r = .returned (.int .i64 (stTo g s)) ∧ Below w.heap.size w w' := by
  obtain ⟨i, b⟩ := s
  have hB0 : Below w.heap.size w ((w.alloc (.cells #[.slice A n c, .slice B m d] 27)).alloc (.cells #[.int .i64 i, .bool b] 106)) := ((Below.refl _ _).alloc (Nat.le_refl _) _).alloc (by simp) _
  go_enter Tryz.func123, Tryz.ntmps123
  go_wp2_with fail
  refine (implStepFrom_is _ (h.up hB0) ⟨i, !b⟩).mono ?_
  rintro r w1 ⟨rfl, hb1⟩
  go_wp2
  go_ret
  exact ⟨rfl, below_then hB0 hb1⟩
set_option maxRecDepth 4000 in
set_option maxHeartbeats 400000 in
theorem specStepTo_is (w : World) {A B : Option Addr} {n c m d : Nat} {g : G} (h : GRd w A n B m g) (s : St) :
    Calls Tryz.prog 131 #[.agg #[.slice A n c, .slice B m d], .agg #[.int .i64 s.ed, .bool s.inv]] w fun r w' => r = .returned (.int .i64 (stTo g s)) ∧ Below w.heap.size w w' := by
  obtain ⟨i, b⟩ := s
  have hB0 : Below w.heap.size w ((w.alloc (.cells #[.slice A n c, .slice B m d] 27)).alloc (.cells #[.int .i64 i, .bool b] 106)) := ((Below.refl _ _).alloc (Nat.le_refl _) _).alloc (by simp) _
  go_enter Tryz.func131, Tryz.ntmps131
  go_wp2_with fail
  refine (specStepFrom_is _ (h.up hB0) ⟨i, !b⟩).mono ?_
  rintro r w1 ⟨rfl, hb1⟩
  go_wp2
  go_ret
  exact ⟨rfl, below_then hB0 hb1⟩
set_option maxRecDepth 4000 in
theorem reads_any (e : E) (b : Bool) (w : World) (h0 : 0 ≤ e.lb) (h2 : e.lb ≤ 2) : Calls Tryz.prog 128 #[.agg #[.int .i64 e.id, .int .i64 e.fr, .int .i64 e.to, .int .i64 e.lb], .bool b] w fun r w' => r = .returned (.int .i64 (if b then 2 * e.lb + 1 else 2 * e.lb)) ∧ Below w.heap.size w w' := by
  obtain ⟨a1, a2, a3, a4⟩ := e
  dsimp only at h0 h2
  cases b
  all_goals
    go_enter Tryz.func128, Tryz.ntmps128
    go_wp2
    go_ret
    exact ⟨rfl, (Below.refl _ _).alloc (Nat.le_refl _) _⟩
set_option maxRecDepth 4000 in
set_option maxHeartbeats 1000000 in
theorem implStepLetter_is (w : World) {A B : Option Addr} {n c m d : Nat} {g : G} (h : GRd w A n B m g) (s : St) :
    Calls Tryz.prog 88 #[.agg #[.slice A n c, .slice B m d], .agg #[.int .i64 s.ed, .bool s.inv]] w fun r w' => r = .returned (.int .i64 (stLet g s)) ∧ Below w.heap.size w w' := by
  have hc := fun w0 hb => stepEdge_any w0 (c := c) (d := d) (h.up hb) s (stE g s).1 (stE g s).2 rfl
  have hF : stLet g s = if (stE g s).2 then (if s.inv then 2 * (stE g s).1.lb + 1 else 2 * (stE g s).1.lb) else -1 := rfl
  obtain ⟨e, he⟩ : ∃ e, (stE g s).1 = e := ⟨_, rfl⟩
  obtain ⟨ok, hok⟩ : ∃ ok, (stE g s).2 = ok := ⟨_, rfl⟩
  rw [he, hok] at hF
  simp only [he, hok] at hc
  have hl0 : ok = true → 0 ≤ e.lb ∧ e.lb ≤ 2 := fun hk => by rw [← he]; exact stE_lb (hok.trans hk)
  have HC := Lib.hid hc
  have HF := Lib.hid hF
  clear hc hF he hok
  obtain ⟨i, b⟩ := s
  have hB0 : Below w.heap.size w ((w.alloc (.cells #[.slice A n c, .slice B m d] 27)).alloc (.cells #[.int .i64 i, .bool b] 106)) := ((Below.refl _ _).alloc (Nat.le_refl _) _).alloc (by simp) _
  have kI : ((w.alloc (.cells #[.slice A n c, .slice B m d] 27)).alloc (.cells #[.int .i64 i, .bool b] 106)).cell? ⟨w.heap.size + 1, 1, none⟩ = some (.bool b) := by go_simp
  have hz0 : w.heap.size + 1 < ((w.alloc (.cells #[.slice A n c, .slice B m d] 27)).alloc (.cells #[.int .i64 i, .bool b] 106)).heap.size := by simp
  have HF2 := Lib.hid (show stLet g ⟨i, b⟩ = if ok then (if b then 2 * e.lb + 1 else 2 * e.lb) else -1 from HF.out)
  clear HF
  go_enter Tryz.func88, Tryz.ntmps88
  go_wp2_with fail
  generalize ((w.alloc (.cells #[.slice A n c, .slice B m d] 27)).alloc (.cells #[.int .i64 i, .bool b] 106)) = w0 at *
  refine (HC.out _ hB0).mono ?_
  rintro r w1 ⟨rfl, hb1⟩
  have hB1 := below_then hB0 hb1
  have kI1 := cell_keep hb1 kI
  have hz1 : w.heap.size + 1 < w1.heap.size := by have := hb1.size; omega
  clear kI
  cases ok
  · clear hl0
    go_wp2
    go_ret
    exact ⟨by rw [HF2.out] <;> rfl, hB1.alloc hB1.size _⟩
  · have hl := hl0 rfl
    clear hl0
    cases b
    all_goals
      have hl1 := hl.1
      have hl2 := hl.2
      go_wp2_with (go_at_call 128; refine (reads_any _ _ _ hl1 hl2).mono ?_; rintro r w3 ⟨rfl, hb3⟩)
      go_ret
      exact ⟨by rw [HF2.out] <;> rfl, below_then (hB1.alloc hB1.size _) hb3⟩
end Go.Proofs.YtljggmgijadjaaaGreatDoor
