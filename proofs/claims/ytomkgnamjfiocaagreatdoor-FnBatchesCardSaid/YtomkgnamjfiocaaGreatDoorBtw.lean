/- BatchBetween of the program. -/
import Derived.Test.YtomkgnamjfiocaaGreatDoorBaseC
import Derived.Test.YtomkgnamjfiocaaGreatDoorEqG
import Derived.Test.YtomkgnamjfiocaaGreatDoorInvB
namespace Go.Proofs.YtomkgnamjfiocaaGreatDoor
open Go.RowKit Go.ChangeShapes Go.WideShapes Go.ChangeAt Go.Deep
set_option linter.unusedVariables false
def accB (ins : Bool) (es other : List E) (k : Nat) : List Cg := ((es.take k).filter fun e => !hasB other e).map fun e => ⟨ins, e⟩
theorem accB_succ (ins : Bool) {es : List E} (other : List E) {k : Nat} {e : E} (h : es[k]? = some e) : accB ins es other (k + 1) = accB ins es other k ++ (if hasB other e then [] else [⟨ins, e⟩]) := by
  unfold accB
  rw [filter_succ _ h, List.map_append]
  cases hasB other e <;> simp
theorem accB_len (ins : Bool) (es other : List E) (k : Nat) : (accB ins es other k).length ≤ k := by
  unfold accB
  rw [List.length_map]
  exact filter_take_len _ _ _
def btwL (a b : G) : List Cg := accB false a.es b.es a.es.length ++ accB true b.es a.es b.es.length
def btwPre (a b : G) : Bool := validG a && validG b && eqB a.vs b.vs
def btwOk (a b : G) : Bool := btwPre a b && decide ((btwL a b).length ≤ 6)
def btwZ (a b : G) : List Cg := if btwOk a b then btwL a b else []
theorem btwOk_pre {a b : G} (h : btwPre a b = false) : btwOk a b = false := by simp [btwOk, h]
theorem btwOk_len {a b : G} (h : btwPre a b = true) : btwOk a b = decide ((btwL a b).length ≤ 6) := by simp [btwOk, h]
theorem btwZ_no {a b : G} (h : btwOk a b = false) : btwZ a b = [] := by simp [btwZ, h]
theorem btwZ_yes {a b : G} (h : btwOk a b = true) : btwZ a b = btwL a b := by simp [btwZ, h]
theorem own_snoc_cg1 {w : World} {base q : Nat} {e : TypeId} {v x : Value} {L : List Cg} (y : Cg) (hx : x = .agg #[.bool y.ins, .int .i64 y.e.id, .int .i64 y.e.fr, .int .i64 y.e.to, .int .i64 y.e.lb]) (h : w.ownsRow base e 5 v (q + 1) (cgcs L ++ x.cells.toList)) : w.ownsRow base e 5 v (q + 1) (cgcs (L ++ [y])) := by
  subst hx
  rw [cgcs_append]
  exact h
set_option maxRecDepth 4000 in
set_option maxHeartbeats 1000000 in
theorem l6Has_any (w : World) {A B : Option Addr} {n c m d : Nat} {g : G} (h : GRd w A n B m g) (hv : validG g = true) (e : E) :
    Calls Tryz.prog 78 #[.agg #[.slice A n c, .slice B m d], .agg #[.int .i64 e.id, .int .i64 e.fr, .int .i64 e.to, .int .i64 e.lb]] w fun r w' => r = .returned (.bool (hasB g.es e)) ∧ Below w.heap.size w w' := by
  have hm := h.bm
  have HLM := Lib.hid h.gr.lm
  have HH := Lib.hid (has_ix hv e)
  obtain ⟨e0, e1, e2, e3⟩ := e
  have hB0 : Below w.heap.size w ((w.alloc (.cells #[.slice A n c, .slice B m d] 27)).alloc (.cells #[.int .i64 e0, .int .i64 e1, .int .i64 e2, .int .i64 e3] 90)) := ((Below.refl _ _).alloc (Nat.le_refl _) _).alloc (by simp) _
  have kB : ((w.alloc (.cells #[.slice A n c, .slice B m d] 27)).alloc (.cells #[.int .i64 e0, .int .i64 e1, .int .i64 e2, .int .i64 e3] 90)).cell? ⟨w.heap.size, 1, none⟩ = some (.slice B m d) := by go_simp
  have x0 : ((w.alloc (.cells #[.slice A n c, .slice B m d] 27)).alloc (.cells #[.int .i64 e0, .int .i64 e1, .int .i64 e2, .int .i64 e3] 90)).cell? ⟨w.heap.size + 1, 0, none⟩ = some (.int .i64 e0) := by go_simp
  have x1 : ((w.alloc (.cells #[.slice A n c, .slice B m d] 27)).alloc (.cells #[.int .i64 e0, .int .i64 e1, .int .i64 e2, .int .i64 e3] 90)).cell? ⟨w.heap.size + 1, 1, none⟩ = some (.int .i64 e1) := by go_simp
  have x2 : ((w.alloc (.cells #[.slice A n c, .slice B m d] 27)).alloc (.cells #[.int .i64 e0, .int .i64 e1, .int .i64 e2, .int .i64 e3] 90)).cell? ⟨w.heap.size + 1, 2, none⟩ = some (.int .i64 e2) := by go_simp
  have x3 : ((w.alloc (.cells #[.slice A n c, .slice B m d] 27)).alloc (.cells #[.int .i64 e0, .int .i64 e1, .int .i64 e2, .int .i64 e3] 90)).cell? ⟨w.heap.size + 1, 3, none⟩ = some (.int .i64 e3) := by go_simp
  go_enter Tryz.func78, Tryz.ntmps78
  go_wp2_with fail
  generalize ((w.alloc (.cells #[.slice A n c, .slice B m d] 27)).alloc (.cells #[.int .i64 e0, .int .i64 e1, .int .i64 e2, .int .i64 e3] 90)) = w0 at *
  refine (specEdgeIx_rd _ (h.up hB0) e0).mono ?_
  rintro r w1 ⟨rfl, hb1⟩
  have hB1 := below_then hB0 hb1
  have kB1 := cell_keep hb1 kB
  have x01 := cell_keep hb1 x0
  have x11 := cell_keep hb1 x1
  have x21 := cell_keep hb1 x2
  have x31 := cell_keep hb1 x3
  clear kB x0 x1 x2 x3 hb1
  by_cases hix : ixN g.es e0 < g.es.length
  rotate_left
  · have hE : ixE g.es e0 = -1 := by unfold ixE; rw [if_neg hix]
    have HF := Lib.hid (show hasB g.es ⟨e0, e1, e2, e3⟩ = false by rw [← HH.out]; show (match g.es[ixN g.es e0]? with | some x => decide (x = (⟨e0, e1, e2, e3⟩ : E)) | none => false) = false; rw [List.getElem?_eq_none (by omega)])
    rw [hE]
    have hd : decide ((0 : Int) ≤ -1) = false := by decide
    clear hE hix
    go_wp2
    go_quiet (fail)
    go_wp2
    go_ret
    exact ⟨by rw [HF.out] <;> rfl, by first | exact hB1 | exact hB1.drew | exact below_drewN hB1 _⟩
  · have hE : ixE g.es e0 = (ixN g.es e0 : Int) := by unfold ixE; rw [if_pos hix]
    obtain ⟨y, hy⟩ : ∃ y, g.es[ixN g.es e0]? = some y := ⟨_, List.getElem?_eq_getElem hix⟩
    have HF := Lib.hid (show hasB g.es ⟨e0, e1, e2, e3⟩ = decide (y = (⟨e0, e1, e2, e3⟩ : E)) by rw [← HH.out]; show (match g.es[ixN g.es e0]? with | some x => decide (x = (⟨e0, e1, e2, e3⟩ : E)) | none => false) = _; rw [hy])
    rw [hE]
    obtain ⟨j, hj⟩ : ∃ j, ixN g.es e0 = j := ⟨_, rfl⟩
    rw [hj] at hix hy ⊢
    have hjm : j < m := by have := HLM.out; omega
    have hjm' : (j : Int) < m := by omega
    have hj0 : (0 : Int) ≤ (j : Int) := by omega
    have hd : decide ((0 : Int) ≤ (j : Int)) = true := by simp
    obtain ⟨b9, o9, rfl, had9, y2, hy2, d0, d1, d2, d3⟩ := edge_at (h.up hB1).gr.re HLM.out hjm
    obtain rfl : y = y2 := by rw [hy] at hy2; simpa using hy2
    have hEq := eqlE_run y ⟨e0, e1, e2, e3⟩
    obtain ⟨q, hq⟩ : ∃ q, decide (y = (⟨e0, e1, e2, e3⟩ : E)) = q := ⟨_, rfl⟩
    rw [hq] at hEq HF
    obtain ⟨y0, y1, y2, y3⟩ := y
    dsimp only at d0 d1 d2 d3 hEq
    clear hE hj hy hy2 hix hq
    go_wp2
    go_quiet (fail)
    go_wp2
    go_ret
    exact ⟨by rw [HF.out] <;> rfl, by first | exact hB1 | exact hB1.drew | exact below_drewN hB1 _⟩
theorem ris_nil0 (w : World) (e : TypeId) (size : Nat) : RIs w w.heap.size w.heap.size e size none 0 0 [] := RIs.of (World.ownsRow_nil _ _ _ _) (by omega)
set_option maxRecDepth 4000 in
set_option maxHeartbeats 4000000 in
theorem implBatchBetween_is (w : World) {A B A2 B2 : Option Addr} {n c m d n2 c2 m2 d2 : Nat} {g g2 : G} (h : GRd w A n B m g) (h2 : GRd w A2 n2 B2 m2 g2) :
    Calls Tryz.prog 32 #[.agg #[.slice A n c, .slice B m d], .agg #[.slice A2 n2 c2, .slice B2 m2 d2]] w fun r w' => ∃ A3 n3 c3, r = .returned (.tuple #[.agg #[.slice A3 n3 c3], .bool (btwOk g g2)]) ∧ RIs w' w.heap.size w'.heap.size 92 5 A3 n3 c3 (cgcs (btwZ g g2)) ∧ Below w.heap.size w w' := by
  have hm := h.bm
  have hm2 := h2.bm
  have HLM := Lib.hid h.gr.lm
  have HLM2 := Lib.hid h2.gr.lm
  have hB0 : Below w.heap.size w (((w.alloc (.cells #[.slice A n c, .slice B m d] 27)).alloc (.cells #[.slice A2 n2 c2, .slice B2 m2 d2] 27)).alloc (.cells #[.slice none 0 0] 47)) := (((Below.refl _ _).alloc (Nat.le_refl _) _).alloc (by simp) _).alloc (by simp; omega) _
  have kA : (((w.alloc (.cells #[.slice A n c, .slice B m d] 27)).alloc (.cells #[.slice A2 n2 c2, .slice B2 m2 d2] 27)).alloc (.cells #[.slice none 0 0] 47)).cell? ⟨w.heap.size, 0, none⟩ = some (.slice A n c) := by go_simp
  have kB : (((w.alloc (.cells #[.slice A n c, .slice B m d] 27)).alloc (.cells #[.slice A2 n2 c2, .slice B2 m2 d2] 27)).alloc (.cells #[.slice none 0 0] 47)).cell? ⟨w.heap.size, 1, none⟩ = some (.slice B m d) := by go_simp
  have lA : (((w.alloc (.cells #[.slice A n c, .slice B m d] 27)).alloc (.cells #[.slice A2 n2 c2, .slice B2 m2 d2] 27)).alloc (.cells #[.slice none 0 0] 47)).cell? ⟨w.heap.size + 1, 0, none⟩ = some (.slice A2 n2 c2) := by go_simp
  have lB : (((w.alloc (.cells #[.slice A n c, .slice B m d] 27)).alloc (.cells #[.slice A2 n2 c2, .slice B2 m2 d2] 27)).alloc (.cells #[.slice none 0 0] 47)).cell? ⟨w.heap.size + 1, 1, none⟩ = some (.slice B2 m2 d2) := by go_simp
  have r0 : (((w.alloc (.cells #[.slice A n c, .slice B m d] 27)).alloc (.cells #[.slice A2 n2 c2, .slice B2 m2 d2] 27)).alloc (.cells #[.slice none 0 0] 47)).cell? ⟨w.heap.size + 1 + 1, 0, none⟩ = some (.slice none 0 0) := by go_simp
  have f0 : (((w.alloc (.cells #[.slice A n c, .slice B m d] 27)).alloc (.cells #[.slice A2 n2 c2, .slice B2 m2 d2] 27)).alloc (.cells #[.slice none 0 0] 47)).frozen? ⟨w.heap.size + 1 + 1, 0, none⟩ = false := by go_simp
  have hz0 : w.heap.size + 1 + 1 < (((w.alloc (.cells #[.slice A n c, .slice B m d] 27)).alloc (.cells #[.slice A2 n2 c2, .slice B2 m2 d2] 27)).alloc (.cells #[.slice none 0 0] 47)).heap.size := by simp
  have HPRE := Lib.hid (btwOk_pre (a := g) (b := g2))
  have HLEN := Lib.hid (btwOk_len (a := g) (b := g2))
  have HN := Lib.hid (btwZ_no (a := g) (b := g2))
  have HY := Lib.hid (btwZ_yes (a := g) (b := g2))
  have HP := Lib.hid (show btwPre g g2 = (validG g && validG g2 && eqB g.vs g2.vs) from rfl)
  have HLL := Lib.hid (show btwL g g2 = accB false g.es g2.es m ++ accB true g2.es g.es m2 by unfold btwL; rw [h.gr.lm, h2.gr.lm])
  go_enter Tryz.func32, Tryz.ntmps32
  go_wp2_with fail
  generalize (((w.alloc (.cells #[.slice A n c, .slice B m d] 27)).alloc (.cells #[.slice A2 n2 c2, .slice B2 m2 d2] 27)).alloc (.cells #[.slice none 0 0] 47)) = w0 at *
  refine (implValid_rd _ (h.up hB0)).mono ?_
  rintro r w1 ⟨rfl, hb1⟩
  have hB1 := below_then hB0 hb1
  have kA1 := cell_keep hb1 kA
  have kB1 := cell_keep hb1 kB
  have lA1 := cell_keep hb1 lA
  have lB1 := cell_keep hb1 lB
  have r01 := cell_keep hb1 r0
  have f01 := frozen_keep hb1 r0 f0
  have hz1 : w.heap.size + 1 + 1 < w1.heap.size := Nat.lt_of_lt_of_le hz0 hb1.size
  clear kA kB lA lB r0 f0 hb1
  cases hv : validG g
  · have hno := HPRE.out (by rw [HP.out, hv]; rfl)
    have HNO := Lib.hid hno
    have HZN := Lib.hid (HN.out hno)
    have HBX := hB1
    clear hno hv
    go_wp2
    refine bodyPost_ret (v := .tuple #[.agg #[.slice none 0 0], .bool false]) ?_ rfl ?_
    · simp [results, Tryz.results32, go_sem]
      go_simp
    · exact ⟨none, 0, 0, by rw [HNO.out] <;> rfl, by rw [HZN.out]; exact (ris_nil0 _ _ _).wide (by simp; omega) (Nat.le_refl _), HBX.setCell (p := ⟨w.heap.size + 1 + 1, 0, none⟩) (by dsimp only; omega) _⟩
  · have hv1 := hv
    have HV1 := Lib.hid hv1
    clear hv hv1
    go_wp2_with fail
    refine (implValid_rd _ (h2.up hB1)).mono ?_
    rintro r w2 ⟨rfl, hb2⟩
    have hB2 := below_then hB1 hb2
    have kA2 := cell_keep hb2 kA1
    have kB2 := cell_keep hb2 kB1
    have lA2 := cell_keep hb2 lA1
    have lB2 := cell_keep hb2 lB1
    have r02 := cell_keep hb2 r01
    have f02 := frozen_keep hb2 r01 f01
    have hz2 : w.heap.size + 1 + 1 < w2.heap.size := Nat.lt_of_lt_of_le hz1 hb2.size
    clear kA1 kB1 lA1 lB1 r01 f01 hb2
    cases hv : validG g2
    · have hno := HPRE.out (by rw [HP.out, hv]; simp)
      have HNO := Lib.hid hno
      have HZN := Lib.hid (HN.out hno)
      have HBX := hB2
      clear hno hv
      go_wp2
      refine bodyPost_ret (v := .tuple #[.agg #[.slice none 0 0], .bool false]) ?_ rfl ?_
      · simp [results, Tryz.results32, go_sem]
        go_simp
      · exact ⟨none, 0, 0, by rw [HNO.out] <;> rfl, by rw [HZN.out]; exact (ris_nil0 _ _ _).wide (by simp; omega) (Nat.le_refl _), HBX.setCell (p := ⟨w.heap.size + 1 + 1, 0, none⟩) (by dsimp only; omega) _⟩
    · have HV2 := Lib.hid hv
      clear hv
      go_wp2_with fail
      refine (slEqInt_any A A2 n c n2 c2 g.vs g2.vs _ h.gr.ln h2.gr.ln h.bn h2.bn (h.up hB2).gr.rv (h2.up hB2).gr.rv).mono ?_
      rintro r w3 ⟨rfl, hb3⟩
      have hB3 := below_then hB2 hb3
      have kA3 := cell_keep hb3 kA2
      have kB3 := cell_keep hb3 kB2
      have lA3 := cell_keep hb3 lA2
      have lB3 := cell_keep hb3 lB2
      have r03 := cell_keep hb3 r02
      have f03 := frozen_keep hb3 r02 f02
      have hz3 : w.heap.size + 1 + 1 < w3.heap.size := Nat.lt_of_lt_of_le hz2 hb3.size
      clear kA2 kB2 lA2 lB2 r02 f02 hb3
      cases hv : eqB g.vs g2.vs
      · have hno := HPRE.out (by rw [HP.out, hv]; simp)
        have HNO := Lib.hid hno
        have HZN := Lib.hid (HN.out hno)
        have HBX := hB3
        clear hno hv
        go_wp2
        refine bodyPost_ret (v := .tuple #[.agg #[.slice none 0 0], .bool false]) ?_ rfl ?_
        · simp [results, Tryz.results32, go_sem]
          go_simp
        · exact ⟨none, 0, 0, by rw [HNO.out] <;> rfl, by rw [HZN.out]; exact (ris_nil0 _ _ _).wide (by simp; omega) (Nat.le_refl _), HBX.setCell (p := ⟨w.heap.size + 1 + 1, 0, none⟩) (by dsimp only; omega) _⟩
      · have hpre : btwPre g g2 = true := by rw [HP.out, HV1.out, HV2.out, hv]; rfl
        have HOK := Lib.hid (HLEN.out hpre)
        have hb4 : Below w3.heap.size w3 (w3.alloc (.cells #[.slice none 0 0] 47)) := (Below.refl _ _).alloc (Nat.le_refl _) _
        have hB4 := below_then hB3 hb4
        have kB4 := cell_keep hb4 kB3
        have lB4 := cell_keep hb4 lB3
        have r04 := cell_keep hb4 r03
        have f04 := frozen_keep hb4 r03 f03
        have X4 := Blk.new w3 47 #[.slice none 0 0]
        have hz4 : (w3.alloc (.cells #[.slice none 0 0] 47)).heap.size = w3.heap.size + 1 := by simp
        clear hpre hv kA3 lA3 kB3 lB3 r03 f03 hb4
        go_wp2_with fail
        generalize (w3.alloc (.cells #[.slice none 0 0] 47)) = w4 at *
        have hz4a : w3.heap.size < w4.heap.size := by omega
        have HZ4 := Lib.hid hz4
        clear hz4
        go_loopw [32] (fun i wr => ∃ (k : Nat) (v : Value), k ≤ m ∧ i = .int .i64 k ∧ wr.ownsRow w4.heap.size 92 5 v (accB false g.es g2.es k).length (cgcs (accB false g.es g2.es k)) ∧ Blk wr w3.heap.size 47 #[v] ∧ Tch w3.heap.size w4.heap.size w4 wr) (fun i _ => m - (intOf i).toNat)
        case atStart => exact ⟨0, _, Nat.zero_le _, rfl, World.ownsRow_nil _ _ _ _, X4, Tch.refl _ _ _⟩
        case round =>
          obtain ⟨k, v, hk, rfl, hown, X, t⟩ := hrel
          have hzr := t.size
          have hbelr := below_tch hB4 t (by omega)
          have kor := cell_tch t lB4 (.inl (by dsimp only; omega))
          have xB : wr.cell? ⟨w3.heap.size, 0, none⟩ = some v := by rw [X.cell]; rfl
          have xf := X.frozen 0
          by_cases hlt : k < m
          · obtain ⟨b, o, rfl, had, e, he, c0, c1, c2', c3⟩ := edge_at (h.edges.up hbelr).rd HLM.out hlt
            have HSX := Lib.hid (accB_succ false g2.es he)
            have hlen := accB_len false g.es g2.es k
            have q3 : Small ((accB false g.es g2.es k).length + 1) := small_of (by omega)
            obtain ⟨L, hL⟩ : ∃ L, accB false g.es g2.es k = L := ⟨_, rfl⟩
            have HL := Lib.hid hL
            rw [hL] at hown q3
            obtain ⟨B1, d1, rfl, _⟩ := own_form hown
            obtain ⟨e0, e1, e2, e3⟩ := e
            dsimp only at c0 c1 c2' c3
            clear he hL hlen
            have hb5 : Below wr.heap.size wr (wr.alloc (.cells #[.int .i64 e0, .int .i64 e1, .int .i64 e2, .int .i64 e3] 90)) := (Below.refl _ _).alloc (Nat.le_refl _) _
            have z0 : (wr.alloc (.cells #[.int .i64 e0, .int .i64 e1, .int .i64 e2, .int .i64 e3] 90)).cell? ⟨wr.heap.size, 0, none⟩ = some (.int .i64 e0) := by go_simp
            have z1 : (wr.alloc (.cells #[.int .i64 e0, .int .i64 e1, .int .i64 e2, .int .i64 e3] 90)).cell? ⟨wr.heap.size, 1, none⟩ = some (.int .i64 e1) := by go_simp
            have z2 : (wr.alloc (.cells #[.int .i64 e0, .int .i64 e1, .int .i64 e2, .int .i64 e3] 90)).cell? ⟨wr.heap.size, 2, none⟩ = some (.int .i64 e2) := by go_simp
            have z3 : (wr.alloc (.cells #[.int .i64 e0, .int .i64 e1, .int .i64 e2, .int .i64 e3] 90)).cell? ⟨wr.heap.size, 3, none⟩ = some (.int .i64 e3) := by go_simp
            have ko5 := cell_keep hb5 kor
            have t5 := t.below hb5
            have X5 := X.below hb5 (by omega)
            have ho5 := own_below hown hb5 (Nat.le_refl _)
            have hB5 := below_then hbelr hb5
            clear hb5 kor t X hown hbelr xB xf
            go_wp2_with fail
            generalize wr.heap.size = eb at *
            generalize (wr.alloc (.cells #[.int .i64 e0, .int .i64 e1, .int .i64 e2, .int .i64 e3] 90)) = w5 at *
            clear c0 c1 c2' c3
            refine (containsE_any _ (h2.edges.up hB5) ⟨e0, e1, e2, e3⟩).mono ?_
            rintro r w6 ⟨rfl, hb6⟩
            have t6 := t5.below hb6
            have X6 := X5.below hb6 (by have := t5.size; omega)
            have ho6 := own_below ho5 hb6 (Nat.le_refl _)
            have hB6 := below_then hB5 hb6
            have y0 := cell_keep hb6 z0
            have y1 := cell_keep hb6 z1
            have y2 := cell_keep hb6 z2
            have y3 := cell_keep hb6 z3
            have x6B : w6.cell? ⟨w3.heap.size, 0, none⟩ = some (.slice B1 L.length d1) := by rw [X6.cell]; rfl
            have x6f := X6.frozen 0
            have hsx := HSX.out
            have hz6 : w4.heap.size ≤ w6.heap.size := t6.size
            clear z0 z1 z2 z3 ko5 t5 X5 ho5 hB5 hb6
            cases hh : hasB g2.es ⟨e0, e1, e2, e3⟩
            · have HS := Lib.hid (show accB false g.es g2.es (k + 1) = L ++ [Cg.mk false ⟨e0, e1, e2, e3⟩] by rw [hsx, hh, ← HL.out]; simp)
              have h14 := cgcs_one [Cg.mk false ⟨e0, e1, e2, e3⟩]
              have hz6a : w3.heap.size < w6.heap.size := by omega
              clear hsx hh
              go_wp2_with (at_builtin; refine ap_plain _ app_change (by decide) w4.heap.size (.tmp 42) (.tmp 45) rfl rfl _ _ _ rfl (ho6.alloc _) _ _ 1 1 _ rfl (reads_new _ rfl) h14 q3 (Nat.le_trans hz6 (by simp)) ?_; intro v7 w7 hown7 hg7 hat7; clear hat7; have t7 := (t6.alloc _).grown (ho6.alloc _) (Nat.le_refl _) hg7; have X7 := (X6.alloc _).grown hg7 (fun hq => by have := (ownBlock_some ho6 hq.symm).1; omega); have x7B : w7.cell? ⟨w3.heap.size, 0, none⟩ = some (.slice B1 L.length d1) := (by rw [X7.cell]; rfl); have x7f := X7.frozen 0; replace hown7 := own_snoc_cg1 (Cg.mk false ⟨e0, e1, e2, e3⟩) rfl hown7; obtain ⟨B7, d7, rfl, _⟩ := own_form hown7; clear hg7)
              have X8 := X7.set_ 0 (.slice B7 (L.length + 1) d7)
              have t8 := t7.setCell (p := ⟨w3.heap.size, 0, none⟩) (Nat.le_refl _) hz4a (.slice B7 (L.length + 1) d7)
              have ho8 := ownsRow_setCell_below hown7 (a := ⟨w3.heap.size, 0, none⟩) hz4a (.slice B7 (L.length + 1) d7)
              clear X7 t7 hown7
              go_roundw
              case rel => exact ⟨k + 1, _, by omega, by go_num, by rw [HS.out, List.length_append]; exact ho8, X8, t8⟩
              case measure => simp [intOf]; omega
            · have HS := Lib.hid (show accB false g.es g2.es (k + 1) = L by rw [hsx, hh, ← HL.out]; simp)
              clear hsx hh
              go_wp2
              go_roundw
              case rel => exact ⟨k + 1, _, by omega, by go_num, by rw [HS.out]; exact ho6, X6, t6⟩
              case measure => simp [intOf]; omega
          · obtain rfl : k = m := by omega
            obtain ⟨L1, hL1⟩ : ∃ L, accB false g.es g2.es k = L := ⟨_, rfl⟩
            have hl1 : L1.length ≤ k := by rw [← hL1]; exact accB_len _ _ _ _
            rw [hL1] at hown
            have HL1 := Lib.hid hL1
            clear hL1 xB xf hbelr
            go_wp2_with fail
            clear kor
            go_loopw [52] (fun i wr => ∃ (j : Nat) (v : Value), j ≤ m2 ∧ i = .int .i64 j ∧ wr.ownsRow w4.heap.size 92 5 v (L1 ++ accB true g2.es g.es j).length (cgcs (L1 ++ accB true g2.es g.es j)) ∧ Blk wr w3.heap.size 47 #[v] ∧ Tch w3.heap.size w4.heap.size w4 wr) (fun i _ => m2 - (intOf i).toNat)
            case atStart => exact ⟨0, _, Nat.zero_le _, rfl, by simpa [accB] using hown, X, t⟩
            case round =>
              obtain ⟨j, v, hk2, rfl, hown, X, t⟩ := hrel
              have hzr := t.size
              have hbelr := below_tch hB4 t (by omega)
              have kor := cell_tch t kB4 (.inl (by dsimp only; omega))
              have xB : wr.cell? ⟨w3.heap.size, 0, none⟩ = some v := by rw [X.cell]; rfl
              have xf := X.frozen 0
              by_cases hlt : j < m2
              · obtain ⟨b, o, rfl, had, e, he, c0, c1, c2', c3⟩ := edge_at (h2.edges.up hbelr).rd HLM2.out hlt
                have HSX := Lib.hid (accB_succ true g.es he)
                have hlen := accB_len true g2.es g.es j
                have q3 : Small ((L1 ++ accB true g2.es g.es j).length + 1) := small_of (by rw [List.length_append]; omega)
                obtain ⟨L, hL⟩ : ∃ L, L1 ++ accB true g2.es g.es j = L := ⟨_, rfl⟩
                have HL := Lib.hid hL
                rw [hL] at hown q3
                obtain ⟨B1, d1, rfl, _⟩ := own_form hown
                obtain ⟨e0, e1, e2, e3⟩ := e
                dsimp only at c0 c1 c2' c3
                clear he hL hlen
                have hb5 : Below wr.heap.size wr (wr.alloc (.cells #[.int .i64 e0, .int .i64 e1, .int .i64 e2, .int .i64 e3] 90)) := (Below.refl _ _).alloc (Nat.le_refl _) _
                have z0 : (wr.alloc (.cells #[.int .i64 e0, .int .i64 e1, .int .i64 e2, .int .i64 e3] 90)).cell? ⟨wr.heap.size, 0, none⟩ = some (.int .i64 e0) := by go_simp
                have z1 : (wr.alloc (.cells #[.int .i64 e0, .int .i64 e1, .int .i64 e2, .int .i64 e3] 90)).cell? ⟨wr.heap.size, 1, none⟩ = some (.int .i64 e1) := by go_simp
                have z2 : (wr.alloc (.cells #[.int .i64 e0, .int .i64 e1, .int .i64 e2, .int .i64 e3] 90)).cell? ⟨wr.heap.size, 2, none⟩ = some (.int .i64 e2) := by go_simp
                have z3 : (wr.alloc (.cells #[.int .i64 e0, .int .i64 e1, .int .i64 e2, .int .i64 e3] 90)).cell? ⟨wr.heap.size, 3, none⟩ = some (.int .i64 e3) := by go_simp
                have ko5 := cell_keep hb5 kor
                have t5 := t.below hb5
                have X5 := X.below hb5 (by omega)
                have ho5 := own_below hown hb5 (Nat.le_refl _)
                have hB5 := below_then hbelr hb5
                clear hb5 kor t X hown hbelr xB xf
                go_wp2_with fail
                generalize wr.heap.size = eb at *
                generalize (wr.alloc (.cells #[.int .i64 e0, .int .i64 e1, .int .i64 e2, .int .i64 e3] 90)) = w5 at *
                clear c0 c1 c2' c3
                refine (containsE_any _ (h.edges.up hB5) ⟨e0, e1, e2, e3⟩).mono ?_
                rintro r w6 ⟨rfl, hb6⟩
                have t6 := t5.below hb6
                have X6 := X5.below hb6 (by have := t5.size; omega)
                have ho6 := own_below ho5 hb6 (Nat.le_refl _)
                have hB6 := below_then hB5 hb6
                have y0 := cell_keep hb6 z0
                have y1 := cell_keep hb6 z1
                have y2 := cell_keep hb6 z2
                have y3 := cell_keep hb6 z3
                have x6B : w6.cell? ⟨w3.heap.size, 0, none⟩ = some (.slice B1 L.length d1) := by rw [X6.cell]; rfl
                have x6f := X6.frozen 0
                have hsx := HSX.out
                have hz6 : w4.heap.size ≤ w6.heap.size := t6.size
                clear z0 z1 z2 z3 ko5 t5 X5 ho5 hB5 hb6
                cases hh : hasB g.es ⟨e0, e1, e2, e3⟩
                · have HS := Lib.hid (show L1 ++ accB true g2.es g.es (j + 1) = L ++ [Cg.mk true ⟨e0, e1, e2, e3⟩] by rw [hsx, hh, ← HL.out]; simp)
                  have h14 := cgcs_one [Cg.mk true ⟨e0, e1, e2, e3⟩]
                  have hz6a : w3.heap.size < w6.heap.size := by omega
                  clear hsx hh
                  go_wp2_with (at_builtin; refine ap_plain _ app_change (by decide) w4.heap.size (.tmp 62) (.tmp 65) rfl rfl _ _ _ rfl (ho6.alloc _) _ _ 1 1 _ rfl (reads_new _ rfl) h14 q3 (Nat.le_trans hz6 (by simp)) ?_; intro v7 w7 hown7 hg7 hat7; clear hat7; have t7 := (t6.alloc _).grown (ho6.alloc _) (Nat.le_refl _) hg7; have X7 := (X6.alloc _).grown hg7 (fun hq => by have := (ownBlock_some ho6 hq.symm).1; omega); have x7B : w7.cell? ⟨w3.heap.size, 0, none⟩ = some (.slice B1 L.length d1) := (by rw [X7.cell]; rfl); have x7f := X7.frozen 0; replace hown7 := own_snoc_cg1 (Cg.mk true ⟨e0, e1, e2, e3⟩) rfl hown7; obtain ⟨B7, d7, rfl, _⟩ := own_form hown7; clear hg7)
                  have X8 := X7.set_ 0 (.slice B7 (L.length + 1) d7)
                  have t8 := t7.setCell (p := ⟨w3.heap.size, 0, none⟩) (Nat.le_refl _) hz4a (.slice B7 (L.length + 1) d7)
                  have ho8 := ownsRow_setCell_below hown7 (a := ⟨w3.heap.size, 0, none⟩) hz4a (.slice B7 (L.length + 1) d7)
                  clear X7 t7 hown7
                  go_roundw
                  case rel => exact ⟨j + 1, _, by omega, by go_num, by rw [HS.out, List.length_append]; exact ho8, X8, t8⟩
                  case measure => simp [intOf]; omega
                · have HS := Lib.hid (show L1 ++ accB true g2.es g.es (j + 1) = L by rw [hsx, hh, ← HL.out]; simp)
                  clear hsx hh
                  go_wp2
                  go_roundw
                  case rel => exact ⟨j + 1, _, by omega, by go_num, by rw [HS.out]; exact ho6, X6, t6⟩
                  case measure => simp [intOf]; omega
              · obtain rfl : j = m2 := by omega
                have hlen : (btwL g g2).length = (L1 ++ accB true g2.es g.es j).length := by rw [HLL.out, HL1.out]
                have hll2 : btwL g g2 = L1 ++ accB true g2.es g.es j := by rw [HLL.out, HL1.out]
                have hok := HOK.out
                rw [hll2] at hok
                have hbd := accB_len true g2.es g.es j
                obtain ⟨L2, hL2⟩ : ∃ L, L1 ++ accB true g2.es g.es j = L := ⟨_, rfl⟩
                have hl2 : L2.length ≤ 4000000 := by rw [← hL2, List.length_append]; omega
                rw [hL2] at hown hok hll2
                obtain ⟨B1, d1, rfl, _⟩ := own_form hown
                have r0r := cell_tch t r04 (.inl (by dsimp only; omega))
                have f0r := t.frz r04 f04 (.inl (by dsimp only; omega))
                have hx1 : w.heap.size + 1 + 1 ≠ w3.heap.size := by omega
                have HLL2 := Lib.hid hll2
                have HOK2 := Lib.hid hok
                clear hlen hll2 hok hbd hL2 r04 f04
                by_cases h6 : L2.length ≤ 6
                · have hyes : btwOk g g2 = true := by rw [HOK2.out]; simpa using h6
                  have HYES := Lib.hid hyes
                  have HZY := Lib.hid (show btwZ g g2 = L2 by rw [HY.out hyes, HLL2.out])
                  have O2 := (RIs.of hown (by omega)).setB (p := ⟨w.heap.size + 1 + 1, 0, none⟩) (by dsimp only; omega) (.slice B1 L2.length d1)
                  have hB6 := hbelr.setCell (p := ⟨w.heap.size + 1 + 1, 0, none⟩) (by dsimp only; omega) (.slice B1 L2.length d1)
                  clear hyes t
                  go_wp2
                  refine bodyPost_ret (v := .tuple #[.agg #[.slice B1 L2.length d1], .bool true]) ?_ rfl ?_
                  · simp [results, Tryz.results32, go_sem]
                    go_simp
                  · exact ⟨_, _, _, by rw [HYES.out] <;> rfl, by rw [HZY.out]; exact O2.wide (by omega) (by simp), hB6⟩
                · have hno : btwOk g g2 = false := by rw [HOK2.out]; simpa using h6
                  have HNO := Lib.hid hno
                  have HZN := Lib.hid (HN.out hno)
                  have HBX := hbelr
                  have h6' : (6 : Int) < L2.length := by omega
                  clear hno t
                  go_wp2
                  refine bodyPost_ret (v := .tuple #[.agg #[.slice none 0 0], .bool false]) ?_ rfl ?_
                  · simp [results, Tryz.results32, go_sem]
                    go_simp
                  · exact ⟨none, 0, 0, by rw [HNO.out] <;> rfl, by rw [HZN.out]; exact (ris_nil0 _ _ _).wide (by simp; omega) (Nat.le_refl _), HBX.setCell (p := ⟨w.heap.size + 1 + 1, 0, none⟩) (by dsimp only; omega) _⟩
end Go.Proofs.YtomkgnamjfiocaaGreatDoor
