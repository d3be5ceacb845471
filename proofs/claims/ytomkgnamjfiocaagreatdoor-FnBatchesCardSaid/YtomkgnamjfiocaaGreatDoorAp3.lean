/- ApplyBatch of the reference; IsApplicable of both packages. -/
import Derived.Test.YtomkgnamjfiocaaGreatDoorAp2
namespace Go.Proofs.YtomkgnamjfiocaaGreatDoor
open Go.RowKit Go.ChangeShapes Go.WideShapes Go.ChangeAt Go.Deep
set_option linter.unusedVariables false
set_option maxRecDepth 4000 in
set_option maxHeartbeats 4000000 in
theorem specApplyBatch_is (w : World) {A B C : Option Addr} {n c m d p cc : Nat} {g : G} {l : List Cg} (h : GRd w A n B m g) (hc : CRd w C p l) :
    Calls Tryz.prog 26 #[.agg #[.slice A n c, .slice B m d], .agg #[.slice C p cc]] w fun r w' => ∃ A2 n2 c2 B2 m2 d2, r = .returned (.tuple #[.agg #[.slice A2 n2 c2, .slice B2 m2 d2], .bool (apG g l).2]) ∧ GIs w' w.heap.size w'.heap.size A2 n2 c2 B2 m2 d2 ((apG g l).1.vs.map iv) (ecs (apG g l).1.es) ∧ Below w.heap.size w w' := by
  have hn := h.bn
  have hm := h.bm
  have hp := hc.bd
  have HLL := Lib.hid hc.ln
  go_enter Tryz.func26, Tryz.ntmps26
  go_wp2_with fail
  have hB0 : Below w.heap.size w (((w.alloc (.cells #[.slice A n c, .slice B m d] 27)).alloc (.cells #[.slice C p cc] 47)).alloc (.cells #[.slice none 0 0, .slice none 0 0] 27)) := (((Below.refl _ _).alloc (Nat.le_refl _) _).alloc (by simp) _).alloc (by simp; omega) _
  have XG := ((Blk.new w 27 #[.slice A n c, .slice B m d]).alloc (.cells #[.slice C p cc] 47)).alloc (.cells #[.slice none 0 0, .slice none 0 0] 27)
  have XC := (Blk.new (w.alloc (.cells #[.slice A n c, .slice B m d] 27)) 47 #[.slice C p cc]).alloc (.cells #[.slice none 0 0, .slice none 0 0] 27)
  have XR := Blk.new ((w.alloc (.cells #[.slice A n c, .slice B m d] 27)).alloc (.cells #[.slice C p cc] 47)) 27 #[.slice none 0 0, .slice none 0 0]
  simp only [World.size_alloc] at XC XR
  generalize (((w.alloc (.cells #[.slice A n c, .slice B m d] 27)).alloc (.cells #[.slice C p cc] 47)).alloc (.cells #[.slice none 0 0, .slice none 0 0] 27)) = w0 at *
  have hz0 := XR.lt
  have kA := XG.kc (v := .slice A n c) 0 rfl
  have kB := XG.kc (v := .slice B m d) 1 rfl
  have kC := XC.kc (v := .slice C p cc) 0 rfl
  have r0 := XR.kc (v := .slice none 0 0) 0 rfl
  have r1 := XR.kc (v := .slice none 0 0) 1 rfl
  have f0 := XR.kf 0
  have f1 := XR.kf 1
  refine (specValid_rd _ (h.up hB0)).mono ?_
  rintro e w3 ⟨rfl, hb3⟩
  obtain ⟨y, rfl⟩ := Kept.fst hb3
  clear hb3
  cases hv : validG g
  · have HG := Lib.hid (apG_bad (g := g) (l := l) (by simp [hv]))
    clear hv
    go_wp2_with fail
    refine (l3Copy_is _ (h.up (below_then hB0 y.be))).mono ?_
    rintro e w9 ⟨A9, c9, B9, d9, rfl, I9, hb9⟩
    have hB9 := below_then (below_then hB0 y.be) hb9
    have hs9 := hb9.size
    have hsy := y.be.size
    obtain ⟨z9, rfl⟩ := y.of hb9
    clear hb9
    go_wp2
    refine bodyPost_ret (v := .tuple #[.agg #[.slice A9 n c9, .slice B9 m d9], .bool false]) ?_ rfl ?_
    · simp [results, Tryz.results26, go_sem]
      go_simp
    · rw [HG.out]
      exact ⟨_, _, _, _, _, _, rfl, gis_ret I9 _ _ _ _ (by omega) (by omega) (by omega), below_ret hB9 _ _ _ (by omega)⟩
  · by_cases h6 : p ≤ 6
    rotate_left
    · have HG := Lib.hid (apG_bad (g := g) (l := l) (by simp [HLL.out]; omega))
      have h6' : (6 : Int) < p := by omega
      clear hv
      go_wp2_with fail
      refine (l3Copy_is _ (h.up (below_then hB0 y.be))).mono ?_
      rintro e w9 ⟨A9, c9, B9, d9, rfl, I9, hb9⟩
      have hB9 := below_then (below_then hB0 y.be) hb9
      have hs9 := hb9.size
      have hsy := y.be.size
      obtain ⟨z9, rfl⟩ := y.of hb9
      clear hb9
      go_wp2
      refine bodyPost_ret (v := .tuple #[.agg #[.slice A9 n c9, .slice B9 m d9], .bool false]) ?_ rfl ?_
      · simp [results, Tryz.results26, go_sem]
        go_simp
      · rw [HG.out]
        exact ⟨_, _, _, _, _, _, rfl, gis_ret I9 _ _ _ _ (by omega) (by omega) (by omega), below_ret hB9 _ _ _ (by omega)⟩
    · have h6' : ¬ (6 : Int) < p := by omega
      have HV := Lib.hid hv
      clear hv
      obtain ⟨t, ht⟩ : ∃ t, apG g l = t := ⟨_, rfl⟩
      have HT := Lib.hid ht
      clear ht
      go_wp2_with fail
      refine (l6Apply_is _ (h.up (below_then hB0 y.be)) (hc.up (below_then hB0 y.be)) HV.out h6).mono ?_
      rw [HT.out]
      obtain ⟨t1, t2⟩ := t
      rintro e w4 ⟨A1, n1, c1, B1, m1, d1, rfl, I1, hb1⟩
      have hs1 := hb1.size
      have hsy := y.be.size
      have hB1 := below_then (below_then hB0 y.be) hb1
      obtain ⟨y4, rfl⟩ := y.of hb1
      clear hb1
      have b6 : Below y4.W.heap.size y4.W (y4.W.alloc (.cells #[.slice A1 n1 c1, .slice B1 m1 d1] 27)) := (Below.refl _ _).alloc (Nat.le_refl _) _
      have XY := Blk.new y4.W 27 #[.slice A1 n1 c1, .slice B1 m1 d1]
      have J6 := I1.below b6
      have hB6 := below_then hB1 b6
      have hs6 := b6.size
      obtain ⟨y6, hy6e⟩ := y4.of b6
      rw [hy6e] at XY J6 hB6 hs6
      have xd0 : y6.W.cell? ⟨y4.W.heap.size, 0, none⟩ = some (.slice A1 n1 c1) := by rw [XY.cell]; rfl
      have xd1 : y6.W.cell? ⟨y4.W.heap.size, 1, none⟩ = some (.slice B1 m1 d1) := by rw [XY.cell]; rfl
      clear b6 I1
      go_wp2_with fail
      refine bodyPost_ret (v := .tuple #[.agg #[.slice A1 n1 c1, .slice B1 m1 d1], .bool t2]) ?_ rfl ?_
      · simp [results, Tryz.results26, go_sem]
        go_simp
      · rw [HT.out]
        exact ⟨_, _, _, _, _, _, rfl, gis_ret J6 _ _ _ _ (by omega) (by omega) (by omega), below_ret hB6 _ _ _ (by omega)⟩
set_option maxRecDepth 4000 in
set_option maxHeartbeats 2000000 in
theorem implIsApplicable_is (w : World) {A B C : Option Addr} {n c m d p cc : Nat} {g : G} {l : List Cg} (h : GRd w A n B m g) (hc : CRd w C p l) :
    Calls Tryz.prog 28 #[.agg #[.slice A n c, .slice B m d], .agg #[.slice C p cc]] w fun r w' => r = .returned (.bool (apG g l).2) ∧ Below w.heap.size w w' := by
  obtain ⟨t, ht⟩ : ∃ t, (apG g l).2 = t := ⟨_, rfl⟩
  have HT := Lib.hid ht
  rw [ht]
  clear ht
  go_enter Tryz.func28, Tryz.ntmps28
  go_wp2_with fail
  have hB0 : Below w.heap.size w ((w.alloc (.cells #[.slice A n c, .slice B m d] 27)).alloc (.cells #[.slice C p cc] 47)) := ((Below.refl _ _).alloc (Nat.le_refl _) _).alloc (by simp) _
  generalize ((w.alloc (.cells #[.slice A n c, .slice B m d] 27)).alloc (.cells #[.slice C p cc] 47)) = w0 at *
  refine (implApplyBatch_is _ (h.up hB0) (hc.up hB0)).mono ?_
  rw [HT.out]
  rintro e w1 ⟨A1, n1, c1, B1, m1, d1, rfl, I1, hb1⟩
  have hB1 := below_then hB0 hb1
  go_wp2
  go_ret
  exact ⟨rfl, hB1.alloc hB1.size _⟩
end Go.Proofs.YtomkgnamjfiocaaGreatDoor
