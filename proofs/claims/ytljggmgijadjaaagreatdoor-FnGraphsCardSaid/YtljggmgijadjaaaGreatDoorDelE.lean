/- DeleteEdge of both packages. -/
import Derived.Test.YtljggmgijadjaaaGreatDoorDel
import Derived.Test.YtljggmgijadjaaaGreatDoorBtw
namespace Go.Proofs.YtljggmgijadjaaaGreatDoor
open Go.RowKit Go.ChangeShapes Go.WideShapes Go.ChangeAt Go.Deep
set_option linter.unusedVariables false
theorem ixE_no {es : List E} {i : Int} (h : ¬ ixN es i < es.length) : ixE es i = -1 := by simp [ixE, h]
theorem ixE_yes {es : List E} {i : Int} (h : ixN es i < es.length) : ixE es i = (ixN es i : Int) := by simp [ixE, h]
set_option maxRecDepth 4000 in
set_option maxHeartbeats 2000000 in
theorem implDeleteEdge_is (w : World) {A B : Option Addr} {n c m d : Nat} {g : G} (h : GRd w A n B m g) (i : Int) :
    Calls Tryz.prog 12 #[.agg #[.slice A n c, .slice B m d], .int .i64 i] w fun e w' => ∃ A2 n2 c2 B2 m2 d2, e = .returned (.tuple #[.agg #[.slice A2 n2 c2, .slice B2 m2 d2], .bool (delG g i).2]) ∧ GIs w' w.heap.size w'.heap.size A2 n2 c2 B2 m2 d2 ((delG g i).1.vs.map iv) (ecs (delG g i).1.es) ∧ Below w.heap.size w w' := by
  have hn := h.bn
  have hm := h.bm
  have lm := h.gr.lm
  have HLM := Lib.hid lm
  clear lm
  go_enter Tryz.func12, Tryz.ntmps12
  go_wp2_with fail
  have hB0 : Below w.heap.size w ((w.alloc (.cells #[.slice A n c, .slice B m d] 27)).alloc (.cells #[.slice none 0 0, .slice none 0 0] 27)) := ((Below.refl _ _).alloc (Nat.le_refl _) _).alloc (by simp) _
  have kA : ((w.alloc (.cells #[.slice A n c, .slice B m d] 27)).alloc (.cells #[.slice none 0 0, .slice none 0 0] 27)).cell? ⟨w.heap.size, 0, none⟩ = some (.slice A n c) := by go_simp
  have kB : ((w.alloc (.cells #[.slice A n c, .slice B m d] 27)).alloc (.cells #[.slice none 0 0, .slice none 0 0] 27)).cell? ⟨w.heap.size, 1, none⟩ = some (.slice B m d) := by go_simp
  have r0 : ((w.alloc (.cells #[.slice A n c, .slice B m d] 27)).alloc (.cells #[.slice none 0 0, .slice none 0 0] 27)).cell? ⟨w.heap.size + 1, 0, none⟩ = some (.slice none 0 0) := by go_simp
  have r1 : ((w.alloc (.cells #[.slice A n c, .slice B m d] 27)).alloc (.cells #[.slice none 0 0, .slice none 0 0] 27)).cell? ⟨w.heap.size + 1, 1, none⟩ = some (.slice none 0 0) := by go_simp
  have f0 : ((w.alloc (.cells #[.slice A n c, .slice B m d] 27)).alloc (.cells #[.slice none 0 0, .slice none 0 0] 27)).frozen? ⟨w.heap.size + 1, 0, none⟩ = false := by go_simp
  have f1 : ((w.alloc (.cells #[.slice A n c, .slice B m d] 27)).alloc (.cells #[.slice none 0 0, .slice none 0 0] 27)).frozen? ⟨w.heap.size + 1, 1, none⟩ = false := by go_simp
  have hz0 : w.heap.size + 1 < ((w.alloc (.cells #[.slice A n c, .slice B m d] 27)).alloc (.cells #[.slice none 0 0, .slice none 0 0] 27)).heap.size := by simp
  generalize ((w.alloc (.cells #[.slice A n c, .slice B m d] 27)).alloc (.cells #[.slice none 0 0, .slice none 0 0] 27)) = w0 at *
  refine (copyGraph_is _ (h.up hB0)).mono ?_
  rintro e w1 ⟨A1, c1, B1, d1, rfl, I1, hb1⟩
  have hB1 := below_then hB0 hb1
  have hz1 := hb1.size
  have hx0 : w.heap.size < w1.heap.size := by omega
  have kA1 := cell_keep hb1 kA
  have kB1 := cell_keep hb1 kB
  go_wp2_with fail
  have hb2 : Below w1.heap.size w1 (w1.alloc (.cells #[.slice A1 n c1, .slice B1 m d1] 27)) := (Below.refl _ _).alloc (Nat.le_refl _) _
  have hb02 := below_then hb1 hb2
  have hB2 := below_then hB1 hb2
  have I2 := I1.below hb2
  have oA : (w1.alloc (.cells #[.slice A1 n c1, .slice B1 m d1] 27)).cell? ⟨w1.heap.size, 0, none⟩ = some (.slice A1 n c1) := by go_simp
  have oB : (w1.alloc (.cells #[.slice A1 n c1, .slice B1 m d1] 27)).cell? ⟨w1.heap.size, 1, none⟩ = some (.slice B1 m d1) := by go_simp
  have of1 : (w1.alloc (.cells #[.slice A1 n c1, .slice B1 m d1] 27)).frozen? ⟨w1.heap.size, 1, none⟩ = false := by go_simp
  have hz2 : w1.heap.size < (w1.alloc (.cells #[.slice A1 n c1, .slice B1 m d1] 27)).heap.size := by simp
  have kA2 := cell_keep hb02 kA
  have kB2 := cell_keep hb02 kB
  generalize (w1.alloc (.cells #[.slice A1 n c1, .slice B1 m d1] 27)) = w2 at *
  refine (implEdgeIx_rd _ (h.up hB2) i).mono ?_
  rintro e w3 ⟨rfl, hb3⟩
  have hz3 := hb3.size
  have hb03 := below_then hb02 hb3
  have hB3 := below_then hB2 hb3
  have I3 := I2.below hb3
  have kA3 := cell_keep hb3 kA2
  have kB3 := cell_keep hb3 kB2
  have oA3 := cell_keep hb3 oA
  have oB3 := cell_keep hb3 oB
  have of3 := frozen_keep hb3 oB of1
  have r03 := cell_keep hb03 r0
  have r13 := cell_keep hb03 r1
  have f03 := frozen_keep hb03 r0 f0
  have f13 := frozen_keep hb03 r1 f1
  have hx1 : w.heap.size + 1 ≠ w1.heap.size := by omega
  have hx2 : w.heap.size + 1 < w3.heap.size := by omega
  clear kA kB kA1 kB1 kA2 kB2 oA oB of1 r0 r1 f0 f1 hb1 hb2 hb3 hb02 I1 I2 hB0 hB1 hB2
  by_cases hix : ixN g.es i < g.es.length
  rotate_left
  · have HG := Lib.hid (delG_no (g := g) (i := i) (by simp [delOk, hix]))
    rw [ixE_no hix]
    clear hix
    go_wp2_with fail
    refine bodyPost_ret (v := .tuple #[.agg #[.slice A1 n c1, .slice B1 m d1], .bool false]) ?_ rfl ?_
    · simp [results, Tryz.results12, go_sem]
      go_simp
    · rw [HG.out]
      exact ⟨_, _, _, _, _, _, rfl, gis_ret I3 _ _ _ _ hz0 (by omega) (by omega), below_ret hB3 _ _ _ (by omega)⟩
  · rw [ixE_yes hix]
    obtain ⟨k, hk⟩ : ∃ k, ixN g.es i = k := ⟨_, rfl⟩
    rw [hk]
    have HK := Lib.hid hk
    have HI := Lib.hid hix
    clear hk hix
    have hkm : k < m := by have := HLM.out; have := HK.out; have := HI.out; omega
    go_wp2_with fail
    refine (implValid_rd _ (h.up hB3)).mono ?_
    rintro e w4 ⟨rfl, hb4⟩
    have hz4 := hb4.size
    have hB4 := below_then hB3 hb4
    have I4 := I3.below hb4
    have kA4 := cell_keep hb4 kA3
    have kB4 := cell_keep hb4 kB3
    have oA4 := cell_keep hb4 oA3
    have oB4 := cell_keep hb4 oB3
    have of4 := frozen_keep hb4 oB3 of3
    have r04 := cell_keep hb4 r03
    have r14 := cell_keep hb4 r13
    have f04 := frozen_keep hb4 r03 f03
    have f14 := frozen_keep hb4 r13 f13
    have hx4 : w.heap.size + 1 < w4.heap.size := by omega
    clear kA3 kB3 oA3 oB3 of3 r03 r13 f03 f13 hb4 I3 hB3 hb03
    cases hv : validG g
    · have HG := Lib.hid (delG_no (g := g) (i := i) (by simp [delOk, hv]))
      clear hv
      go_wp2_with fail
      refine bodyPost_ret (v := .tuple #[.agg #[.slice A1 n c1, .slice B1 m d1], .bool false]) ?_ rfl ?_
      · simp [results, Tryz.results12, go_sem]
        go_simp
      · rw [HG.out]
        exact ⟨_, _, _, _, _, _, rfl, gis_ret I4 _ _ _ _ hz0 (by omega) (by omega), below_ret hB4 _ _ _ (by omega)⟩
    · have HG := Lib.hid (delG_yes (g := g) (i := i) (by simp [delOk, hv, HI.out]))
      rw [HK.out] at HG
      clear hv
      obtain ⟨r, rfl⟩ : ∃ r, m = k + r + 1 := ⟨m - k - 1, by omega⟩
      obtain ⟨b1, rfl, hb1a, hb1b⟩ := I4.ov.at_ (by omega)
      go_wp2_with fail
      try rw [IntWalk.wrap64_in ((k : Int) + 1) ⟨by omega, by omega⟩]
      refine (deleteE_any _ I4.ov ecs_one').mono ?_
      rintro e w5 ⟨rfl, v5, t5⟩
      have hne := own_ne I4.ou.own.row I4.ov.own.row (by decide)
      have u5 := I4.ou.tch1 t5 (fun q hq hqe => hne q hq (by simp [Value.ownBlock, hqe]))
      have hs5 := t5.size
      have hB5 := below_tch hB4 t5 (by omega)
      have oA5 := cell_tch t5 oA4 (by dsimp only; omega)
      have oB5 := cell_tch t5 oB4 (by dsimp only; omega)
      have of5 := t5.frz oB4 of4 (by dsimp only; omega)
      have r05 := cell_tch t5 r04 (by dsimp only; omega)
      have r15 := cell_tch t5 r14 (by dsimp only; omega)
      have f05 := t5.frz r04 f04 (by dsimp only; omega)
      have f15 := t5.frz r14 f14 (by dsimp only; omega)
      have hx5 : w.heap.size + 1 < w5.heap.size := by omega
      rw [ecs_take, ecs_drop, ← ecs_append] at v5
      have I6 : GIs (w5.setCell ⟨w1.heap.size, 1, none⟩ (.slice (some ⟨b1, 0, none⟩) (k + r) d1)) w0.heap.size w1.heap.size A1 n c1 (some ⟨b1, 0, none⟩) (k + r) d1 (g.vs.map iv) (ecs (g.es.take k ++ g.es.drop (k + 1))) :=
        ⟨u5.far (fun q hq hqe => by have := u5.own.top q hq; simp at hqe; omega) _, v5.far (fun q hq hqe => by have := v5.own.top q hq; simp at hqe; omega) _⟩
      have hB6 : Below w.heap.size w (w5.setCell ⟨w1.heap.size, 1, none⟩ (.slice (some ⟨b1, 0, none⟩) (k + r) d1)) := hB5.setCell (p := ⟨w1.heap.size, 1, none⟩) (by dsimp only; omega) _
      clear t5 u5 v5 I4 hB4 hB5 kA4 kB4 oA4 oB4 of4 r04 r14 f04 f14 hne h
      go_wp2_with fail
      refine bodyPost_ret (v := .tuple #[.agg #[.slice A1 n c1, .slice (some ⟨b1, 0, none⟩) (k + r) d1], .bool true]) ?_ rfl ?_
      · simp [results, Tryz.results12, go_sem]
        go_simp
      · rw [HG.out]
        exact ⟨_, _, _, _, _, _, rfl, gis_ret I6 _ _ _ _ hz0 (by omega) (by simp; omega), below_ret hB6 _ _ _ (by omega)⟩
end Go.Proofs.YtljggmgijadjaaaGreatDoor
