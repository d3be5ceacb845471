/- ApplyBatch of the program. -/
import Derived.Test.YtomkgnamjfiocaaGreatDoorApP
namespace Go.Proofs.YtomkgnamjfiocaaGreatDoor
open Go.RowKit Go.ChangeShapes Go.WideShapes Go.ChangeAt Go.Deep
set_option linter.unusedVariables false
set_option maxRecDepth 4000 in
set_option maxHeartbeats 4000000 in
theorem implApplyBatch_is (w : World) {A B C : Option Addr} {n c m d p cc : Nat} {g : G} {l : List Cg} (h : GRd w A n B m g) (hc : CRd w C p l) :
    Calls Tryz.prog 25 #[.agg #[.slice A n c, .slice B m d], .agg #[.slice C p cc]] w fun r w' => ∃ A2 n2 c2 B2 m2 d2, r = .returned (.tuple #[.agg #[.slice A2 n2 c2, .slice B2 m2 d2], .bool (apG g l).2]) ∧ GIs w' w.heap.size w'.heap.size A2 n2 c2 B2 m2 d2 ((apG g l).1.vs.map iv) (ecs (apG g l).1.es) ∧ Below w.heap.size w w' := by
  have hn := h.bn
  have hm := h.bm
  have hp := hc.bd
  have HLL := Lib.hid hc.ln
  go_enter Tryz.func25, Tryz.ntmps25
  go_wp2_with fail
  have hB0 : Below w.heap.size w (((w.alloc (.cells #[.slice A n c, .slice B m d] 27)).alloc (.cells #[.slice C p cc] 47)).alloc (.cells #[.slice none 0 0, .slice none 0 0] 27)) := (((Below.refl _ _).alloc (Nat.le_refl _) _).alloc (by simp) _).alloc (by simp; omega) _
  have XG := ((Blk.new w 27 #[.slice A n c, .slice B m d]).alloc (.cells #[.slice C p cc] 47)).alloc (.cells #[.slice none 0 0, .slice none 0 0] 27)
  have XC := (Blk.new (w.alloc (.cells #[.slice A n c, .slice B m d] 27)) 47 #[.slice C p cc]).alloc (.cells #[.slice none 0 0, .slice none 0 0] 27)
  have XR := Blk.new ((w.alloc (.cells #[.slice A n c, .slice B m d] 27)).alloc (.cells #[.slice C p cc] 47)) 27 #[.slice none 0 0, .slice none 0 0]
  simp only [World.size_alloc] at XC XR
  generalize (((w.alloc (.cells #[.slice A n c, .slice B m d] 27)).alloc (.cells #[.slice C p cc] 47)).alloc (.cells #[.slice none 0 0, .slice none 0 0] 27)) = w0 at *
  have hz0 := XR.lt
  refine (copyGraph_is _ (h.up hB0)).mono ?_
  rintro e w1 ⟨A1, c1, B1, d1, rfl, I1, hb1⟩
  replace XG := XG.below hb1 XG.lt
  replace XC := XC.below hb1 XC.lt
  replace XR := XR.below hb1 XR.lt
  have hB1 := below_then hB0 hb1
  have hz1 := hb1.size
  have kA1 : w1.cell? ⟨w.heap.size, 0, none⟩ = some (.slice A n c) := by rw [XG.cell]; rfl
  have kB1 : w1.cell? ⟨w.heap.size, 1, none⟩ = some (.slice B m d) := by rw [XG.cell]; rfl
  have hx1 : w.heap.size < w1.heap.size := by omega
  go_wp2_with fail
  clear kA1 kB1
  have hb2 : Below w1.heap.size w1 (w1.alloc (.cells #[.slice A1 n c1, .slice B1 m d1] 27)) := (Below.refl _ _).alloc (Nat.le_refl _) _
  have XX := Blk.new w1 27 #[.slice A1 n c1, .slice B1 m d1]
  generalize (w1.alloc (.cells #[.slice A1 n c1, .slice B1 m d1] 27)) = w2 at *
  replace XG := XG.below hb2 XG.lt
  replace XC := XC.below hb2 XC.lt
  replace XR := XR.below hb2 XR.lt
  have hB2 := below_then hB1 hb2
  have hz2 := XX.lt
  have I2 := I1.below hb2
  have kA := XG.kc (v := .slice A n c) 0 rfl
  have kB := XG.kc (v := .slice B m d) 1 rfl
  have kC := XC.kc (v := .slice C p cc) 0 rfl
  have r0 := XR.kc (v := .slice none 0 0) 0 rfl
  have r1 := XR.kc (v := .slice none 0 0) 1 rfl
  have f0 := XR.kf 0
  have f1 := XR.kf 1
  have xA := XX.kc (v := .slice A1 n c1) 0 rfl
  have xB := XX.kc (v := .slice B1 m d1) 1 rfl
  clear I1 hb1 hb2 hB0 hB1
  refine (implValid_rd _ (h.up hB2)).mono ?_
  rintro e w3 ⟨rfl, hb3⟩
  obtain ⟨y, rfl⟩ := Kept.fst hb3
  clear hb3
  have fin : ∀ y : Kept w2, apG g l = (g, false) → ∃ A2 n2 c2 B2 m2 d2, Ending.returned (.tuple #[.agg #[.slice A1 n c1, .slice B1 m d1], .bool false]) = Ending.returned (.tuple #[.agg #[.slice A2 n2 c2, .slice B2 m2 d2], .bool (apG g l).2]) ∧ GIs ((y.W.setCell ⟨w.heap.size + 1 + 1, 0, none⟩ (.slice A1 n c1)).setCell ⟨w.heap.size + 1 + 1, 1, none⟩ (.slice B1 m d1)) w.heap.size ((y.W.setCell ⟨w.heap.size + 1 + 1, 0, none⟩ (.slice A1 n c1)).setCell ⟨w.heap.size + 1 + 1, 1, none⟩ (.slice B1 m d1)).heap.size A2 n2 c2 B2 m2 d2 ((apG g l).1.vs.map iv) (ecs (apG g l).1.es) ∧ Below w.heap.size w ((y.W.setCell ⟨w.heap.size + 1 + 1, 0, none⟩ (.slice A1 n c1)).setCell ⟨w.heap.size + 1 + 1, 1, none⟩ (.slice B1 m d1)) := fun y hE => by
    rw [hE]
    have := y.be.size
    exact ⟨_, _, _, _, _, _, rfl, gis_ret (I2.below y.be) _ _ _ _ (by omega) (by omega) (by omega), below_ret (below_then hB2 y.be) _ _ _ (by omega)⟩
  have FIN := Lib.hid fin
  clear fin
  cases hv : validG g
  · have HG := Lib.hid (apG_bad (g := g) (l := l) (by simp [hv]))
    clear hv
    go_wp2_with fail
    refine bodyPost_ret (v := .tuple #[.agg #[.slice A1 n c1, .slice B1 m d1], .bool false]) ?_ rfl ?_
    · simp [results, Tryz.results25, go_sem]
      go_simp
    · exact FIN.out y HG.out
  · by_cases h6 : p ≤ 6
    rotate_left
    · have HG := Lib.hid (apG_bad (g := g) (l := l) (by simp [HLL.out]; omega))
      have h6' : (6 : Int) < p := by omega
      clear hv
      go_wp2_with fail
      refine bodyPost_ret (v := .tuple #[.agg #[.slice A1 n c1, .slice B1 m d1], .bool false]) ?_ rfl ?_
      · simp [results, Tryz.results25, go_sem]
        go_simp
      · exact FIN.out y HG.out
    · have h6' : ¬ (6 : Int) < p := by omega
      have HV := Lib.hid hv
      clear hv FIN
      go_wp2
      have xA2 := XX.kc (v := .slice A1 n c1) 0 rfl
      clear kA kB kC r0 r1 f0 f1 xA xB xA2
      have kA := XG.bc (xb := w1.heap.size) (by omega) (v := .slice A n c) 0 rfl
      have kB := XG.bc (xb := w1.heap.size) (by omega) (v := .slice B m d) 1 rfl
      have kC := XC.bc (xb := w1.heap.size) (by omega) (v := .slice C p cc) 0 rfl
      have r0 := XR.bc (xb := w1.heap.size) (by omega) (v := .slice none 0 0) 0 rfl
      have r1 := XR.bc (xb := w1.heap.size) (by omega) (v := .slice none 0 0) 1 rfl
      have f0 := XR.bf (xb := w1.heap.size) (by omega) 0
      have f1 := XR.bf (xb := w1.heap.size) (by omega) 1
      obtain ⟨z0, hz0e⟩ := KeptB.fst (xb := w1.heap.size) (Tch.of_below y.be)
      have XO := XX.below y.be XX.lt
      have I3 := (I2.below y.be).wide (lo := w.heap.size) (hi := y.W.heap.size) (by omega) (by have := y.be.size; omega)
      rw [hz0e] at XO I3 ⊢
      clear hz0e y
      go_loopw [25] (fun i wr => ∃ (q : Nat) (gq : G) (A' : Option Addr) (n' c' : Nat) (B' : Option Addr) (m' d' : Nat) (z : KeptB w2 w1.heap.size), wr = z.W ∧ q ≤ p ∧ i = .int .i64 q ∧ q ≤ p ∧ Blk z.W w1.heap.size 27 #[.slice A' n' c', .slice B' m' d'] ∧ GIs z.W w.heap.size z.W.heap.size A' n' c' B' m' d' (gq.vs.map iv) (ecs gq.es) ∧ runG g (l.take q) = some gq) (fun i _ => p - (intOf i).toNat)
      case atStart => exact ⟨0, _, _, _, _, _, _, _, z0, rfl, Nat.zero_le _, rfl, Nat.zero_le _, XO, I3, rfl⟩
      clear XO I3 z0 I2 XX
      case round =>
        obtain ⟨q, gq, A', n', c', B', m', d', z, rfl, hq, rfl, _, XO, I, hrun⟩ := hrel
        have HR := Lib.hid hrun
        clear hrun
        by_cases hlt : q < p
        rotate_left
        · obtain rfl : q = p := by omega
          have hrun := HR.out
          rw [List.take_of_length_le (by have := HLL.out; omega)] at hrun
          have HG := Lib.hid (apG_some HV.out (by have := HLL.out; omega) hrun)
          have xc0 : z.W.cell? ⟨w1.heap.size, 0, none⟩ = some (.slice A' n' c') := by rw [XO.cell]; rfl
          have xc1 : z.W.cell? ⟨w1.heap.size, 1, none⟩ = some (.slice B' m' d') := by rw [XO.cell]; rfl
          have hsz := z.be.size
          have hB3 := z.up hB2 (by omega)
          have XRz := z.blk XR (by omega)
          have J := (I.off XRz 0 (.slice A' n' c')).off (XRz.set_ 0 (.slice A' n' c')) 1 (.slice B' m' d')
          clear hrun
          go_wp2
          refine bodyPost_ret (v := .tuple #[.agg #[.slice A' n' c', .slice B' m' d'], .bool true]) ?_ rfl ?_
          · simp [results, Tryz.results25, go_sem]
            go_simp
          · rw [HG.out]
            exact ⟨_, _, _, _, _, _, rfl, by simpa using J, below_ret hB3 _ _ _ (by omega)⟩
        · obtain ⟨b, o, rfl, had, ch, hch, c0, c1', c2, c3, c4⟩ := change_at hc.rd HLL.out hlt
          have y0 := KeptB.cell (xb := w1.heap.size) (cell_keep hB2 c0) (by dsimp only; omega)
          have y1 := KeptB.cell (xb := w1.heap.size) (cell_keep hB2 c1') (by dsimp only; omega)
          have y2 := KeptB.cell (xb := w1.heap.size) (cell_keep hB2 c2) (by dsimp only; omega)
          have y3 := KeptB.cell (xb := w1.heap.size) (cell_keep hB2 c3) (by dsimp only; omega)
          have y4 := KeptB.cell (xb := w1.heap.size) (cell_keep hB2 c4) (by dsimp only; omega)
          obtain ⟨ci, ⟨e0, e1, e2, e3⟩⟩ := ch
          dsimp only at y0 y1 y2 y3 y4
          have HN := Lib.hid (runG_succ hch HR.out)
          have HF := Lib.hid (fun hn => apG_none (runG_none hch HR.out hn))
          have hlt' : (q : Int) < p := by omega
          have hk0 : (0 : Int) ≤ (q : Int) := by omega
          clear c0 c1' c2 c3 c4 hch
          have xc0 : z.W.cell? ⟨w1.heap.size, 0, none⟩ = some (.slice A' n' c') := by rw [XO.cell]; rfl
          have xc1 : z.W.cell? ⟨w1.heap.size, 1, none⟩ = some (.slice B' m' d') := by rw [XO.cell]; rfl
          have hsz := z.be.size
          have hzx : w1.heap.size < z.W.heap.size := by omega
          have bC : Below z.W.heap.size z.W (z.W.alloc (.cells #[.bool ci, .int .i64 e0, .int .i64 e1, .int .i64 e2, .int .i64 e3] 92)) := (Below.refl _ _).alloc (Nat.le_refl _) _
          have XK := Blk.new z.W 92 #[.bool ci, .int .i64 e0, .int .i64 e1, .int .i64 e2, .int .i64 e3]
          have XO1 := XO.below bC XO.lt
          have J1 := I.below bC
          obtain ⟨z1, hz1e⟩ := z.of bC
          have hs1 := bC.size
          rw [hz1e] at XK XO1 J1 hs1
          have xo0 : z1.W.cell? ⟨w1.heap.size, 0, none⟩ = some (.slice A' n' c') := by rw [XO1.cell]; rfl
          have xo1 : z1.W.cell? ⟨w1.heap.size, 1, none⟩ = some (.slice B' m' d') := by rw [XO1.cell]; rfl
          have xk0 : z1.W.cell? ⟨z.W.heap.size, 0, none⟩ = some (.bool ci) := by rw [XK.cell]; rfl
          have xk1 : z1.W.cell? ⟨z.W.heap.size, 1, none⟩ = some (.int .i64 e0) := by rw [XK.cell]; rfl
          have xk2 : z1.W.cell? ⟨z.W.heap.size, 2, none⟩ = some (.int .i64 e1) := by rw [XK.cell]; rfl
          have xk3 : z1.W.cell? ⟨z.W.heap.size, 3, none⟩ = some (.int .i64 e2) := by rw [XK.cell]; rfl
          have xk4 : z1.W.cell? ⟨z.W.heap.size, 4, none⟩ = some (.int .i64 e3) := by rw [XK.cell]; rfl
          clear bC XO I
          cases ci
          · cases hh : hasB gq.es ⟨e0, e1, e2, e3⟩
            · have HG := Lib.hid (HF.out (by simp [stepG, hh]))
              have HH := Lib.hid hh
              clear HN HF hh
              go_wp2_with fail
              refine (containsE_any _ J1.grd.edges ⟨e0, e1, e2, e3⟩).mono ?_
              rw [HH.out]
              rintro e w5 ⟨rfl, hb5⟩
              obtain ⟨z5, rfl⟩ := z1.of hb5
              clear hb5
              go_wp2_with fail
              refine (copyGraph_is _ (h.up (z5.up hB2 (by omega)))).mono ?_
              rintro e w9 ⟨A9, c9, B9, d9, rfl, I9, hb9⟩
              have hB9 := below_then (z5.up hB2 (by omega)) hb9
              have hs9 := hb9.size
              have hsy := z5.be.size
              obtain ⟨z9, rfl⟩ := z5.of hb9
              clear hb9
              go_wp2
              refine bodyPost_ret (v := .tuple #[.agg #[.slice A9 n c9, .slice B9 m d9], .bool false]) ?_ rfl ?_
              · simp [results, Tryz.results25, go_sem]
                go_simp
              · rw [HG.out]
                exact ⟨_, _, _, _, _, _, rfl, gis_ret I9 _ _ _ _ (by omega) (by omega) (by omega), below_ret hB9 _ _ _ (by omega)⟩
            · have HH := Lib.hid hh
              by_cases hd : delOk gq e0 = true
              · have HD := Lib.hid (delG_yes hd)
                replace HN := Lib.hid (HN.out.trans (show stepG gq ⟨false, ⟨e0, e1, e2, e3⟩⟩ = some (delG gq e0).1 by simp [stepG, hh, hd]))
                rw [HD.out] at HN
                clear HF hh hd
                go_wp2_with fail
                refine (containsE_any _ J1.grd.edges ⟨e0, e1, e2, e3⟩).mono ?_
                rw [HH.out]
                rintro e w4 ⟨rfl, hb4⟩
                have hs4 := hb4.size
                have XO4 := XO1.below hb4 XO1.lt
                have XK4 := XK.below hb4 XK.lt
                have J4 := J1.below hb4
                obtain ⟨z4, rfl⟩ := z1.of hb4
                clear hb4
                have xe0 : z4.W.cell? ⟨w1.heap.size, 0, none⟩ = some (.slice A' n' c') := by rw [XO4.cell]; rfl
                have xe1 : z4.W.cell? ⟨w1.heap.size, 1, none⟩ = some (.slice B' m' d') := by rw [XO4.cell]; rfl
                have xk1 : z4.W.cell? ⟨z.W.heap.size, 1, none⟩ = some (.int .i64 e0) := by rw [XK4.cell]; rfl
                go_wp2_with fail
                refine (implDeleteEdge_is _ J4.grd e0).mono ?_
                rw [HD.out]
                rintro e w5 ⟨A5, n5, c5, B5, m5, d5, rfl, I5, hb5⟩
                have hs5 := hb5.size
                have XO5 := XO4.below hb5 XO4.lt
                obtain ⟨z5, rfl⟩ := z4.of hb5
                clear hb5
                have xf0 := XO5.frozen 0
                have xf1 := XO5.frozen 1
                have xd0 : z5.W.cell? ⟨w1.heap.size, 0, none⟩ = some (.slice A' n' c') := by rw [XO5.cell]; rfl
                have xd1 : z5.W.cell? ⟨w1.heap.size, 1, none⟩ = some (.slice B' m' d') := by rw [XO5.cell]; rfl
                have XO6 := (XO5.set_ 0 (.slice A5 n5 c5)).set_ 1 (.slice B5 m5 d5)
                have t6 := (z5.be.setCell (p := ⟨w1.heap.size, 0, none⟩) (Nat.le_refl _) (Nat.lt_succ_self _) (.slice A5 n5 c5)).setCell (p := ⟨w1.heap.size, 1, none⟩) (Nat.le_refl _) (Nat.lt_succ_self _) (.slice B5 m5 d5)
                have J6 := (I5.off XO5 0 (.slice A5 n5 c5)).off (XO5.set_ 0 (.slice A5 n5 c5)) 1 (.slice B5 m5 d5)
                have hz6 : z5.W.heap.size = ((z5.W.setCell ⟨w1.heap.size, 0, none⟩ (.slice A5 n5 c5)).setCell ⟨w1.heap.size, 1, none⟩ (.slice B5 m5 d5)).heap.size := by simp
                obtain ⟨z6, hz6e⟩ := KeptB.fst t6
                rw [hz6e] at XO6 J6 hz6
                clear t6 I5

                go_wp2
                clear xd0 xd1 xf0 xf1
                go_roundw
                case rel => exact ⟨q + 1, _, _, _, _, _, _, _, z6, rfl, by omega, by go_num, by omega, XO6, J6.wide (by omega) (by omega), HN.out⟩
                case measure => simp [intOf]; omega
              · have hd' : delOk gq e0 = false := by simpa using hd
                have HD := Lib.hid (delG_no hd')
                have HG := Lib.hid (HF.out (by simp [stepG, hd']))
                clear HF HN hh hd hd'
                go_wp2_with fail
                refine (containsE_any _ J1.grd.edges ⟨e0, e1, e2, e3⟩).mono ?_
                rw [HH.out]
                rintro e w4 ⟨rfl, hb4⟩
                have hs4 := hb4.size
                have XO4 := XO1.below hb4 XO1.lt
                have XK4 := XK.below hb4 XK.lt
                have J4 := J1.below hb4
                obtain ⟨z4, rfl⟩ := z1.of hb4
                clear hb4
                have xe0 : z4.W.cell? ⟨w1.heap.size, 0, none⟩ = some (.slice A' n' c') := by rw [XO4.cell]; rfl
                have xe1 : z4.W.cell? ⟨w1.heap.size, 1, none⟩ = some (.slice B' m' d') := by rw [XO4.cell]; rfl
                have xk1 : z4.W.cell? ⟨z.W.heap.size, 1, none⟩ = some (.int .i64 e0) := by rw [XK4.cell]; rfl
                go_wp2_with fail
                refine (implDeleteEdge_is _ J4.grd e0).mono ?_
                rw [HD.out]
                rintro e w5 ⟨A5, n5, c5, B5, m5, d5, rfl, I5, hb5⟩
                have hs5 := hb5.size
                have XO5 := XO4.below hb5 XO4.lt
                obtain ⟨z5, rfl⟩ := z4.of hb5
                clear hb5
                have xf0 := XO5.frozen 0
                have xf1 := XO5.frozen 1
                have xd0 : z5.W.cell? ⟨w1.heap.size, 0, none⟩ = some (.slice A' n' c') := by rw [XO5.cell]; rfl
                have xd1 : z5.W.cell? ⟨w1.heap.size, 1, none⟩ = some (.slice B' m' d') := by rw [XO5.cell]; rfl
                have XO6 := (XO5.set_ 0 (.slice A5 n5 c5)).set_ 1 (.slice B5 m5 d5)
                have t6 := (z5.be.setCell (p := ⟨w1.heap.size, 0, none⟩) (Nat.le_refl _) (Nat.lt_succ_self _) (.slice A5 n5 c5)).setCell (p := ⟨w1.heap.size, 1, none⟩) (Nat.le_refl _) (Nat.lt_succ_self _) (.slice B5 m5 d5)
                have J6 := (I5.off XO5 0 (.slice A5 n5 c5)).off (XO5.set_ 0 (.slice A5 n5 c5)) 1 (.slice B5 m5 d5)
                have hz6 : z5.W.heap.size = ((z5.W.setCell ⟨w1.heap.size, 0, none⟩ (.slice A5 n5 c5)).setCell ⟨w1.heap.size, 1, none⟩ (.slice B5 m5 d5)).heap.size := by simp
                obtain ⟨z6, hz6e⟩ := KeptB.fst t6
                rw [hz6e] at XO6 J6 hz6
                clear t6 I5

                go_wp2_with fail
                clear xd0 xd1 xf0 xf1

                refine (copyGraph_is _ (h.up (z6.up hB2 (by omega)))).mono ?_
                rintro e w9 ⟨A9, c9, B9, d9, rfl, I9, hb9⟩
                have hB9 := below_then (z6.up hB2 (by omega)) hb9
                have hs9 := hb9.size
                have hsy := z6.be.size
                obtain ⟨z9, rfl⟩ := z6.of hb9
                clear hb9
                go_wp2
                refine bodyPost_ret (v := .tuple #[.agg #[.slice A9 n c9, .slice B9 m d9], .bool false]) ?_ rfl ?_
                · simp [results, Tryz.results25, go_sem]
                  go_simp
                · rw [HG.out]
                  exact ⟨_, _, _, _, _, _, rfl, gis_ret I9 _ _ _ _ (by omega) (by omega) (by omega), below_ret hB9 _ _ _ (by omega)⟩
          · by_cases hio : insOk gq ⟨e0, e1, e2, e3⟩ = true
            · have HI := Lib.hid (insG_yes hio)
              replace HN := Lib.hid (HN.out.trans (show stepG gq ⟨true, ⟨e0, e1, e2, e3⟩⟩ = some (insG gq ⟨e0, e1, e2, e3⟩).1 by simp [stepG, hio]))
              rw [HI.out] at HN
              clear HF hio
              go_wp2_with fail
              refine (implInsertEdge_is _ J1.grd ⟨e0, e1, e2, e3⟩).mono ?_
              rw [HI.out]
              rintro e w5 ⟨A5, n5, c5, B5, m5, d5, rfl, I5, hb5⟩
              have hs5 := hb5.size
              have XO5 := XO1.below hb5 XO1.lt
              obtain ⟨z5, rfl⟩ := z1.of hb5
              clear hb5
              have xf0 := XO5.frozen 0
              have xf1 := XO5.frozen 1
              have xd0 : z5.W.cell? ⟨w1.heap.size, 0, none⟩ = some (.slice A' n' c') := by rw [XO5.cell]; rfl
              have xd1 : z5.W.cell? ⟨w1.heap.size, 1, none⟩ = some (.slice B' m' d') := by rw [XO5.cell]; rfl
              have XO6 := (XO5.set_ 0 (.slice A5 n5 c5)).set_ 1 (.slice B5 m5 d5)
              have t6 := (z5.be.setCell (p := ⟨w1.heap.size, 0, none⟩) (Nat.le_refl _) (Nat.lt_succ_self _) (.slice A5 n5 c5)).setCell (p := ⟨w1.heap.size, 1, none⟩) (Nat.le_refl _) (Nat.lt_succ_self _) (.slice B5 m5 d5)
              have J6 := (I5.off XO5 0 (.slice A5 n5 c5)).off (XO5.set_ 0 (.slice A5 n5 c5)) 1 (.slice B5 m5 d5)
              have hz6 : z5.W.heap.size = ((z5.W.setCell ⟨w1.heap.size, 0, none⟩ (.slice A5 n5 c5)).setCell ⟨w1.heap.size, 1, none⟩ (.slice B5 m5 d5)).heap.size := by simp
              obtain ⟨z6, hz6e⟩ := KeptB.fst t6
              rw [hz6e] at XO6 J6 hz6
              clear t6 I5

              go_wp2
              clear xd0 xd1 xf0 xf1
              go_roundw
              case rel => exact ⟨q + 1, _, _, _, _, _, _, _, z6, rfl, by omega, by go_num, by omega, XO6, J6.wide (by omega) (by omega), HN.out⟩
              case measure => simp [intOf]; omega
            · have hio' : insOk gq ⟨e0, e1, e2, e3⟩ = false := by simpa using hio
              have HI := Lib.hid (insG_no hio')
              have HG := Lib.hid (HF.out (by simp [stepG, hio']))
              clear HF HN hio hio'
              go_wp2_with fail
              refine (implInsertEdge_is _ J1.grd ⟨e0, e1, e2, e3⟩).mono ?_
              rw [HI.out]
              rintro e w5 ⟨A5, n5, c5, B5, m5, d5, rfl, I5, hb5⟩
              have hs5 := hb5.size
              have XO5 := XO1.below hb5 XO1.lt
              obtain ⟨z5, rfl⟩ := z1.of hb5
              clear hb5
              have xf0 := XO5.frozen 0
              have xf1 := XO5.frozen 1
              have xd0 : z5.W.cell? ⟨w1.heap.size, 0, none⟩ = some (.slice A' n' c') := by rw [XO5.cell]; rfl
              have xd1 : z5.W.cell? ⟨w1.heap.size, 1, none⟩ = some (.slice B' m' d') := by rw [XO5.cell]; rfl
              have XO6 := (XO5.set_ 0 (.slice A5 n5 c5)).set_ 1 (.slice B5 m5 d5)
              have t6 := (z5.be.setCell (p := ⟨w1.heap.size, 0, none⟩) (Nat.le_refl _) (Nat.lt_succ_self _) (.slice A5 n5 c5)).setCell (p := ⟨w1.heap.size, 1, none⟩) (Nat.le_refl _) (Nat.lt_succ_self _) (.slice B5 m5 d5)
              have J6 := (I5.off XO5 0 (.slice A5 n5 c5)).off (XO5.set_ 0 (.slice A5 n5 c5)) 1 (.slice B5 m5 d5)
              have hz6 : z5.W.heap.size = ((z5.W.setCell ⟨w1.heap.size, 0, none⟩ (.slice A5 n5 c5)).setCell ⟨w1.heap.size, 1, none⟩ (.slice B5 m5 d5)).heap.size := by simp
              obtain ⟨z6, hz6e⟩ := KeptB.fst t6
              rw [hz6e] at XO6 J6 hz6
              clear t6 I5

              go_wp2_with fail
              clear xd0 xd1 xf0 xf1

              refine (copyGraph_is _ (h.up (z6.up hB2 (by omega)))).mono ?_
              rintro e w9 ⟨A9, c9, B9, d9, rfl, I9, hb9⟩
              have hB9 := below_then (z6.up hB2 (by omega)) hb9
              have hs9 := hb9.size
              have hsy := z6.be.size
              obtain ⟨z9, rfl⟩ := z6.of hb9
              clear hb9
              go_wp2
              refine bodyPost_ret (v := .tuple #[.agg #[.slice A9 n c9, .slice B9 m d9], .bool false]) ?_ rfl ?_
              · simp [results, Tryz.results25, go_sem]
                go_simp
              · rw [HG.out]
                exact ⟨_, _, _, _, _, _, rfl, gis_ret I9 _ _ _ _ (by omega) (by omega) (by omega), below_ret hB9 _ _ _ (by omega)⟩
end Go.Proofs.YtomkgnamjfiocaaGreatDoor
