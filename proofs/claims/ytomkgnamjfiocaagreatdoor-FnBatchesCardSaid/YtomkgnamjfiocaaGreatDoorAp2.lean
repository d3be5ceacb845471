/- ApplyBatch of the reference, IsApplicable of both packages. -/
import Derived.Test.YtomkgnamjfiocaaGreatDoorAp
namespace Go.Proofs.YtomkgnamjfiocaaGreatDoor
open Go.RowKit Go.ChangeShapes Go.WideShapes Go.ChangeAt Go.Deep
set_option linter.unusedVariables false
theorem stepG_miss {x : G} {e : E} (h : ∀ y, x.es[ixN x.es e.id]? = some y → y ≠ e) : stepG x ⟨false, e⟩ = none := by
  by_cases hd : delOk x e.id = true
  · have hv : validG x = true := by simp only [delOk, Bool.and_eq_true] at hd; exact hd.1
    have hx := has_ix hv e
    have : hasB x.es e = false := by
      rw [← hx]
      cases hy : x.es[ixN x.es e.id]? with
      | none => rfl
      | some y => simp [h y hy]
    simp [stepG, this]
  · simp [stepG, hd]
theorem stepG_hit {x : G} {e : E} (h : x.es[ixN x.es e.id]? = some e) (hd : delOk x e.id = true) : stepG x ⟨false, e⟩ = some (delG x e.id).1 := by
  have hb : hasB x.es e = true := by simp [hasB]; exact List.mem_of_getElem? h
  simp [stepG, hb, hd]
theorem RIs.cap {w : World} {a b : Nat} {e : TypeId} {size n c : Nat} {A : Option Addr} {xs : List Value} (h : RIs w a b e size A n c xs) : n ≤ c := by
  obtain ⟨_, _, he, hnc, _, _⟩ := own_form h.own.row
  injection he with _ _ e3
  omega
/-- What l6Apply gives: it does not ask whether the graph is a good one. -/
def rG (g : G) (l : List Cg) : G × Bool := match runG g l with
  | some x => (x, true)
  | none => (g, false)
theorem rG_some {g x : G} {l : List Cg} (h : runG g l = some x) : rG g l = (x, true) := by simp [rG, h]
theorem rG_none {g : G} {l : List Cg} (h : runG g l = none) : rG g l = (g, false) := by simp [rG, h]
theorem rG_ap {g : G} {l : List Cg} (hv : validG g = true) (h6 : l.length ≤ 6) : rG g l = apG g l := by
  unfold rG apG
  rw [hv, if_pos (by simpa using h6)]
  cases runG g l <;> rfl
set_option maxRecDepth 4000 in
set_option maxHeartbeats 4000000 in
theorem l6Apply_run (w : World) {A B C : Option Addr} {n c m d p cc : Nat} {g : G} {l : List Cg} (h : GRd w A n B m g) (hc : CRd w C p l) (h6 : p ≤ 6) :
    Calls Tryz.prog 69 #[.agg #[.slice A n c, .slice B m d], .agg #[.slice C p cc]] w fun r w' => ∃ A2 n2 c2 B2 m2 d2, r = .returned (.tuple #[.agg #[.slice A2 n2 c2, .slice B2 m2 d2], .bool (rG g l).2]) ∧ GIs w' w.heap.size w'.heap.size A2 n2 c2 B2 m2 d2 ((rG g l).1.vs.map iv) (ecs (rG g l).1.es) ∧ Below w.heap.size w w' := by
  have hn := h.bn
  have hm := h.bm
  have hp := hc.bd
  have HLL := Lib.hid hc.ln
  go_enter Tryz.func69, Tryz.ntmps69
  go_wp2_with fail
  have hB0 : Below w.heap.size w (((w.alloc (.cells #[.slice A n c, .slice B m d] 27)).alloc (.cells #[.slice C p cc] 47)).alloc (.cells #[.slice none 0 0, .slice none 0 0] 27)) := (((Below.refl _ _).alloc (Nat.le_refl _) _).alloc (by simp) _).alloc (by simp; omega) _
  have XG := ((Blk.new w 27 #[.slice A n c, .slice B m d]).alloc (.cells #[.slice C p cc] 47)).alloc (.cells #[.slice none 0 0, .slice none 0 0] 27)
  have XC := (Blk.new (w.alloc (.cells #[.slice A n c, .slice B m d] 27)) 47 #[.slice C p cc]).alloc (.cells #[.slice none 0 0, .slice none 0 0] 27)
  have XR := Blk.new ((w.alloc (.cells #[.slice A n c, .slice B m d] 27)).alloc (.cells #[.slice C p cc] 47)) 27 #[.slice none 0 0, .slice none 0 0]
  simp only [World.size_alloc] at XC XR
  generalize (((w.alloc (.cells #[.slice A n c, .slice B m d] 27)).alloc (.cells #[.slice C p cc] 47)).alloc (.cells #[.slice none 0 0, .slice none 0 0] 27)) = w0 at *
  have hz0 := XR.lt
  refine (l3Copy_is _ (h.up hB0)).mono ?_
  rintro e w1 ⟨A1, c1, B1, d1, rfl, I1, hb1⟩
  replace XG := XG.below hb1 XG.lt
  replace XC := XC.below hb1 XC.lt
  replace XR := XR.below hb1 XR.lt
  have hB1 := below_then hB0 hb1
  have hz1 := hb1.size
  have hb2 : Below w1.heap.size w1 (w1.alloc (.cells #[.slice A1 n c1, .slice B1 m d1] 27)) := (Below.refl _ _).alloc (Nat.le_refl _) _
  have XX := Blk.new w1 27 #[.slice A1 n c1, .slice B1 m d1]
  obtain ⟨w2, hw2e⟩ : ∃ w2, (w1.alloc (.cells #[.slice A1 n c1, .slice B1 m d1] 27)) = w2 := ⟨_, rfl⟩
  rw [hw2e] at hb2 XX
  go_wp2
  clear hw2e
  replace XG := XG.below hb2 XG.lt
  replace XC := XC.below hb2 XC.lt
  replace XR := XR.below hb2 XR.lt
  have hB2 := below_then hB1 hb2
  have hz2 := XX.lt
  have I2 := I1.below hb2
  clear I1 hb1 hb2 hB0 hB1
  have kA := XG.bc (xb := w1.heap.size) (by omega) (v := .slice A n c) 0 rfl
  have kB := XG.bc (xb := w1.heap.size) (by omega) (v := .slice B m d) 1 rfl
  have kC := XC.bc (xb := w1.heap.size) (by omega) (v := .slice C p cc) 0 rfl
  have r0 := XR.bc (xb := w1.heap.size) (by omega) (v := .slice none 0 0) 0 rfl
  have r1 := XR.bc (xb := w1.heap.size) (by omega) (v := .slice none 0 0) 1 rfl
  have f0 := XR.bf (xb := w1.heap.size) (by omega) 0
  have f1 := XR.bf (xb := w1.heap.size) (by omega) 1
  obtain ⟨z0, hz0e⟩ := KeptB.fst (xb := w1.heap.size) (Tch.refl w1.heap.size (w1.heap.size + 1) w2)
  have XO : Blk w2 w1.heap.size 27 #[.slice A1 n c1, .slice B1 m d1] := XX
  have I3 := I2.wide (lo := w.heap.size) (hi := w2.heap.size) (by omega) (by omega)
  go_loopw [7] (fun i wr => ∃ (q : Nat) (gq : G) (A' : Option Addr) (n' c' : Nat) (B' : Option Addr) (m' d' : Nat) (z : KeptB w2 w1.heap.size), wr = z.W ∧ q ≤ p ∧ i = .int .i64 q ∧ q ≤ p ∧ Blk z.W w1.heap.size 27 #[.slice A' n' c', .slice B' m' d'] ∧ GIs z.W w.heap.size z.W.heap.size A' n' c' B' m' d' (gq.vs.map iv) (ecs gq.es) ∧ runG g (l.take q) = some gq) (fun i _ => p - (intOf i).toNat)
  case atStart =>
    rw [hz0e] at XO I3
    exact ⟨0, _, _, _, _, _, _, _, z0, hz0e, Nat.zero_le _, rfl, Nat.zero_le _, XO, I3, rfl⟩
  clear XO I3 z0 hz0e I2 XX
  case round =>
    obtain ⟨q, gq, A', n', c', B', m', d', z, rfl, hq, rfl, _, XO, I, hrun⟩ := hrel
    have HR := Lib.hid hrun
    clear hrun
    by_cases hlt : q < p
    rotate_left
    · obtain rfl : q = p := by omega
      have hrun := HR.out
      rw [List.take_of_length_le (by have := HLL.out; omega)] at hrun
      have HG := Lib.hid (rG_some hrun)
      have xc0 : z.W.cell? ⟨w1.heap.size, 0, none⟩ = some (.slice A' n' c') := by rw [XO.cell]; rfl
      have xc1 : z.W.cell? ⟨w1.heap.size, 1, none⟩ = some (.slice B' m' d') := by rw [XO.cell]; rfl
      have hsz := z.be.size
      have hB3 := z.up hB2 (by omega)
      have XRz := z.blk XR (by omega)
      have J := (I.off XRz 0 (.slice A' n' c')).off (XRz.set_ 0 (.slice A' n' c')) 1 (.slice B' m' d')
      clear hrun
      go_wp2
      refine bodyPost_ret (v := .tuple #[.agg #[.slice A' n' c', .slice B' m' d'], .bool true]) ?_ rfl ?_
      · simp [results, Tryz.results69, go_sem]
        go_simp
      · rw [HG.out]
        exact ⟨_, _, _, _, _, _, rfl, by simpa using J, below_ret hB3 _ _ _ (by omega)⟩
    · obtain ⟨b, o, rfl, had, ch, hch, c0, c1', c2, c3, c4⟩ := change_at hc.rd HLL.out hlt
      have y0 := KeptB.cell (xb := w1.heap.size) (cell_keep hB2 c0) (by dsimp only; omega)
      have y1 := KeptB.cell (xb := w1.heap.size) (cell_keep hB2 c1') (by dsimp only; omega)
      have y2 := KeptB.cell (xb := w1.heap.size) (cell_keep hB2 c2) (by dsimp only; omega)
      have y3 := KeptB.cell (xb := w1.heap.size) (cell_keep hB2 c3) (by dsimp only; omega)
      have y4 := KeptB.cell (xb := w1.heap.size) (cell_keep hB2 c4) (by dsimp only; omega)
      obtain ⟨ci, ⟨e0, e1, e2, e3⟩⟩ := ch
      dsimp only at y0 y1 y2 y3 y4
      have HN := Lib.hid (runG_succ hch HR.out)
      have HF := Lib.hid (fun hn => rG_none (runG_none hch HR.out hn))
      have hlt' : (q : Int) < p := by omega
      have hq6 : (q : Int) ≤ 6 := by omega
      have hk0 : (0 : Int) ≤ (q : Int) := by omega
      clear c0 c1' c2 c3 c4 hch
      have xc0 : z.W.cell? ⟨w1.heap.size, 0, none⟩ = some (.slice A' n' c') := by rw [XO.cell]; rfl
      have xc1 : z.W.cell? ⟨w1.heap.size, 1, none⟩ = some (.slice B' m' d') := by rw [XO.cell]; rfl
      have hsz := z.be.size
      have hzx : w1.heap.size < z.W.heap.size := by omega
      have bC : Below z.W.heap.size z.W (z.W.alloc (.cells #[.int .i64 e0, .int .i64 e1, .int .i64 e2, .int .i64 e3] 90)) := (Below.refl _ _).alloc (Nat.le_refl _) _
      have XK := Blk.new z.W 90 #[.int .i64 e0, .int .i64 e1, .int .i64 e2, .int .i64 e3]
      have XO1 := XO.below bC XO.lt
      have J1 := I.below bC
      obtain ⟨z1, hz1e⟩ := z.of bC
      have hs1 := bC.size
      rw [hz1e] at XK XO1 J1 hs1
      have xo0 : z1.W.cell? ⟨w1.heap.size, 0, none⟩ = some (.slice A' n' c') := by rw [XO1.cell]; rfl
      have xo1 : z1.W.cell? ⟨w1.heap.size, 1, none⟩ = some (.slice B' m' d') := by rw [XO1.cell]; rfl
      have xk0 : z1.W.cell? ⟨z.W.heap.size, 0, none⟩ = some (.int .i64 e0) := by rw [XK.cell]; rfl
      have xk1 : z1.W.cell? ⟨z.W.heap.size, 1, none⟩ = some (.int .i64 e1) := by rw [XK.cell]; rfl
      have xk2 : z1.W.cell? ⟨z.W.heap.size, 2, none⟩ = some (.int .i64 e2) := by rw [XK.cell]; rfl
      have xk3 : z1.W.cell? ⟨z.W.heap.size, 3, none⟩ = some (.int .i64 e3) := by rw [XK.cell]; rfl
      clear bC XO I
      cases ci
      · by_cases hix : ixN gq.es e0 < gq.es.length
        rotate_left
        · have HIX := Lib.hid (ixE_no hix)
          have HG := Lib.hid (HF.out (stepG_miss (fun y hy => absurd (List.getElem?_eq_some_iff.1 hy).1 hix)))
          clear HF HN hix
          go_wp2_with fail
          refine (specEdgeIx_rd _ J1.grd e0).mono ?_
          rw [HIX.out]
          rintro e w4 ⟨rfl, hb4⟩
          have hs4 := hb4.size
          have XO4 := XO1.below hb4 XO1.lt
          have XK4 := XK.below hb4 XK.lt
          have J4 := J1.below hb4
          obtain ⟨z4, rfl⟩ := z1.of hb4
          have hb4k := hb4
          clear hb4
          have hz4x : w1.heap.size < z4.W.heap.size := by have := z4.be.size; omega
          go_wp2_with fail
          refine wp_region_kb (by kernel_rfl) (by kernel_rfl) ?_
          repeat (go_big_quiet_step (fail))
          refine wpQuiet_nil ?_
          intro _ hw'
          obtain ⟨u8, rfl⟩ := hw'
          obtain ⟨z8, hz8e⟩ := z4.of u8.be
          rw [hz8e]
          clear hz8e u8
          go_wp2_with fail
          refine (l3Copy_is _ (h.up (z8.up hB2 (by omega)))).mono ?_
          rintro e w9 ⟨A9, c9, B9, d9, rfl, I9, hb9⟩
          have hB9 := below_then (z8.up hB2 (by omega)) hb9
          have hs9 := hb9.size
          have hsy := z8.be.size
          obtain ⟨z9, rfl⟩ := z8.of hb9
          clear hb9
          go_wp2
          refine bodyPost_ret (v := .tuple #[.agg #[.slice A9 n c9, .slice B9 m d9], .bool false]) ?_ rfl ?_
          · simp [results, Tryz.results69, go_sem]
            go_simp
          · rw [HG.out]
            exact ⟨_, _, _, _, _, _, rfl, gis_ret I9 _ _ _ _ (by omega) (by omega) (by omega), below_ret hB9 _ _ _ (by omega)⟩
        · have HIX := Lib.hid (ixE_yes hix)
          obtain ⟨b4, o4, rfl, hb4o, x, hx, d0, d1', d2, d3⟩ := edge_at J1.ov.reads J1.grd.gr.lm (k := ixN gq.es e0) (by have := J1.grd.gr.lm; omega)
          obtain ⟨j, hj⟩ : ∃ j, ixN gq.es e0 = j := ⟨_, rfl⟩
          have hjm : j < m' := by have := J1.grd.gr.lm; omega
          rw [hj] at HIX d0 d1' d2 d3
          have hjm' : (j : Int) < m' := by omega
          have hj0 : (0 : Int) ≤ (j : Int) := by omega
          have hjn : decide ((j : Int) < 0) = false := by simp
          have hNE := neqE_run x ⟨e0, e1, e2, e3⟩
          by_cases hxe : x = ⟨e0, e1, e2, e3⟩
          · have hde : decide (x = ⟨e0, e1, e2, e3⟩) = true := by simp [hxe]
            rw [hde] at hNE
            subst hxe
            dsimp only at hNE d0 d1' d2 d3
            simp only [Bool.not_true] at hNE
            by_cases hd : delOk gq e0 = true
            · have HD := Lib.hid (delG_yes hd)
              replace HN := Lib.hid (HN.out.trans (stepG_hit hx hd))
              rw [HD.out] at HN
              clear HF hd hx hde hix hj
              go_wp2_with fail
              refine (specEdgeIx_rd _ J1.grd e0).mono ?_
              rw [HIX.out]
              rintro e w4 ⟨rfl, hb4⟩
              have hs4 := hb4.size
              have XO4 := XO1.below hb4 XO1.lt
              have XK4 := XK.below hb4 XK.lt
              have J4 := J1.below hb4
              obtain ⟨z4, rfl⟩ := z1.of hb4
              have hb4k := hb4
              clear hb4
              have hz4x : w1.heap.size < z4.W.heap.size := by have := z4.be.size; omega
              have v0 := Kept.cell (cell_keep hb4k d0)
              have v1 := Kept.cell (cell_keep hb4k d1')
              have v2 := Kept.cell (cell_keep hb4k d2)
              have v3 := Kept.cell (cell_keep hb4k d3)
              have xe1 := XO4.kc (v := .slice (some ⟨b4, o4, none⟩) m' d') 1 rfl
              have xk0' := XK4.kc (v := .int .i64 e0) 0 rfl
              have xk1' := XK4.kc (v := .int .i64 e1) 1 rfl
              have xk2' := XK4.kc (v := .int .i64 e2) 2 rfl
              have xk3' := XK4.kc (v := .int .i64 e3) 3 rfl
              go_wp2_with fail
              refine wp_region_kb (by kernel_rfl) (by kernel_rfl) ?_
              repeat (go_big_quiet_step (fail))
              refine wpQuiet_nil ?_
              intro _ hw'
              obtain ⟨u8, rfl⟩ := hw'
              have hs8 := u8.be.size
              have XO8 := XO4.below u8.be XO4.lt
              have XK8 := XK4.below u8.be XK4.lt
              have J8 := J4.below u8.be
              clear xe1 xk0' xk1' xk2' xk3'
              obtain ⟨z8, hz8e⟩ := z4.of u8.be
              rw [hz8e] at XO8 XK8 J8 hs8 ⊢
              clear hz8e u8
              clear v0 v1 v2 v3 d0 d1' d2 d3 hNE
              have xo80 : z8.W.cell? ⟨w1.heap.size, 0, none⟩ = some (.slice A' n' c') := by rw [XO8.cell]; rfl
              have xo81 : z8.W.cell? ⟨w1.heap.size, 1, none⟩ = some (.slice (some ⟨b4, o4, none⟩) m' d') := by rw [XO8.cell]; rfl
              have xk80 : z8.W.cell? ⟨z.W.heap.size, 0, none⟩ = some (.int .i64 e0) := by rw [XK8.cell]; rfl
              go_wp2_with fail
              refine (specDeleteEdge_is _ J8.grd e0 J8.ov.cap).mono ?_
              rw [HD.out]
              rintro e w5 ⟨A5, n5, c5, B5, m5, d5, rfl, I5, hb5⟩
              have hs5 := hb5.size
              have XO5 := XO8.below hb5 XO8.lt
              obtain ⟨z5, rfl⟩ := z8.of hb5
              clear hb5
              have b6 : Below z5.W.heap.size z5.W (z5.W.alloc (.cells #[.slice A5 n5 c5, .slice B5 m5 d5] 27)) := (Below.refl _ _).alloc (Nat.le_refl _) _
              have XY := Blk.new z5.W 27 #[.slice A5 n5 c5, .slice B5 m5 d5]
              have XO6 := XO5.below b6 XO5.lt
              have J6 := I5.below b6
              have hs6 := b6.size
              have hzy : w1.heap.size < z5.W.heap.size := by have := z5.be.size; omega
              obtain ⟨z6, hz6e⟩ := z5.of b6
              rw [hz6e] at XY XO6 J6 hs6
              clear b6 I5
              have xf0 := XO6.frozen 0
              have xf1 := XO6.frozen 1
              have xd0 : z6.W.cell? ⟨w1.heap.size, 0, none⟩ = some (.slice A' n' c') := by rw [XO6.cell]; rfl
              have xd1 : z6.W.cell? ⟨w1.heap.size, 1, none⟩ = some (.slice (some ⟨b4, o4, none⟩) m' d') := by rw [XO6.cell]; rfl
              have yd0 : z6.W.cell? ⟨z5.W.heap.size, 0, none⟩ = some (.slice A5 n5 c5) := by rw [XY.cell]; rfl
              have yd1 : z6.W.cell? ⟨z5.W.heap.size, 1, none⟩ = some (.slice B5 m5 d5) := by rw [XY.cell]; rfl

              have XO7 := (XO6.set_ 0 (.slice A5 n5 c5)).set_ 1 (.slice B5 m5 d5)
              have t7 := (z6.be.setCell (p := ⟨w1.heap.size, 0, none⟩) (Nat.le_refl _) (Nat.lt_succ_self _) (.slice A5 n5 c5)).setCell (p := ⟨w1.heap.size, 1, none⟩) (Nat.le_refl _) (Nat.lt_succ_self _) (.slice B5 m5 d5)
              have J7 := (J6.off XO6 0 (.slice A5 n5 c5)).off (XO6.set_ 0 (.slice A5 n5 c5)) 1 (.slice B5 m5 d5)
              have hz7 : z6.W.heap.size = ((z6.W.setCell ⟨w1.heap.size, 0, none⟩ (.slice A5 n5 c5)).setCell ⟨w1.heap.size, 1, none⟩ (.slice B5 m5 d5)).heap.size := by simp
              obtain ⟨z7, hz7e⟩ := KeptB.fst t7
              rw [hz7e] at XO7 J7 hz7
              clear t7
              go_wp2
              clear xd0 xd1 xf0 xf1 yd0 yd1
              go_roundw
              case rel => exact ⟨q + 1, _, _, _, _, _, _, _, z7, rfl, by omega, by go_num, by omega, XO7, J7.wide (by omega) (by omega), HN.out⟩
              case measure => simp [intOf]; omega
            · have hd' : delOk gq e0 = false := by simpa using hd
              have HD := Lib.hid (delG_no hd')
              have HG := Lib.hid (HF.out (by simp [stepG, hd']))
              clear HF HN hd hd' hx hde hix hj
              go_wp2_with fail
              refine (specEdgeIx_rd _ J1.grd e0).mono ?_
              rw [HIX.out]
              rintro e w4 ⟨rfl, hb4⟩
              have hs4 := hb4.size
              have XO4 := XO1.below hb4 XO1.lt
              have XK4 := XK.below hb4 XK.lt
              have J4 := J1.below hb4
              obtain ⟨z4, rfl⟩ := z1.of hb4
              have hb4k := hb4
              clear hb4
              have hz4x : w1.heap.size < z4.W.heap.size := by have := z4.be.size; omega
              have v0 := Kept.cell (cell_keep hb4k d0)
              have v1 := Kept.cell (cell_keep hb4k d1')
              have v2 := Kept.cell (cell_keep hb4k d2)
              have v3 := Kept.cell (cell_keep hb4k d3)
              have xe1 := XO4.kc (v := .slice (some ⟨b4, o4, none⟩) m' d') 1 rfl
              have xk0' := XK4.kc (v := .int .i64 e0) 0 rfl
              have xk1' := XK4.kc (v := .int .i64 e1) 1 rfl
              have xk2' := XK4.kc (v := .int .i64 e2) 2 rfl
              have xk3' := XK4.kc (v := .int .i64 e3) 3 rfl
              go_wp2_with fail
              refine wp_region_kb (by kernel_rfl) (by kernel_rfl) ?_
              repeat (go_big_quiet_step (fail))
              refine wpQuiet_nil ?_
              intro _ hw'
              obtain ⟨u8, rfl⟩ := hw'
              have hs8 := u8.be.size
              have XO8 := XO4.below u8.be XO4.lt
              have XK8 := XK4.below u8.be XK4.lt
              have J8 := J4.below u8.be
              clear xe1 xk0' xk1' xk2' xk3'
              obtain ⟨z8, hz8e⟩ := z4.of u8.be
              rw [hz8e] at XO8 XK8 J8 hs8 ⊢
              clear hz8e u8
              clear v0 v1 v2 v3 d0 d1' d2 d3 hNE
              have xo80 : z8.W.cell? ⟨w1.heap.size, 0, none⟩ = some (.slice A' n' c') := by rw [XO8.cell]; rfl
              have xo81 : z8.W.cell? ⟨w1.heap.size, 1, none⟩ = some (.slice (some ⟨b4, o4, none⟩) m' d') := by rw [XO8.cell]; rfl
              have xk80 : z8.W.cell? ⟨z.W.heap.size, 0, none⟩ = some (.int .i64 e0) := by rw [XK8.cell]; rfl
              go_wp2_with fail
              refine (specDeleteEdge_is _ J8.grd e0 J8.ov.cap).mono ?_
              rw [HD.out]
              rintro e w5 ⟨A5, n5, c5, B5, m5, d5, rfl, I5, hb5⟩
              have hs5 := hb5.size
              have XO5 := XO8.below hb5 XO8.lt
              obtain ⟨z5, rfl⟩ := z8.of hb5
              clear hb5
              have b6 : Below z5.W.heap.size z5.W (z5.W.alloc (.cells #[.slice A5 n5 c5, .slice B5 m5 d5] 27)) := (Below.refl _ _).alloc (Nat.le_refl _) _
              have XY := Blk.new z5.W 27 #[.slice A5 n5 c5, .slice B5 m5 d5]
              have XO6 := XO5.below b6 XO5.lt
              have J6 := I5.below b6
              have hs6 := b6.size
              have hzy : w1.heap.size < z5.W.heap.size := by have := z5.be.size; omega
              obtain ⟨z6, hz6e⟩ := z5.of b6
              rw [hz6e] at XY XO6 J6 hs6
              clear b6 I5
              have xf0 := XO6.frozen 0
              have xf1 := XO6.frozen 1
              have xd0 : z6.W.cell? ⟨w1.heap.size, 0, none⟩ = some (.slice A' n' c') := by rw [XO6.cell]; rfl
              have xd1 : z6.W.cell? ⟨w1.heap.size, 1, none⟩ = some (.slice (some ⟨b4, o4, none⟩) m' d') := by rw [XO6.cell]; rfl
              have yd0 : z6.W.cell? ⟨z5.W.heap.size, 0, none⟩ = some (.slice A5 n5 c5) := by rw [XY.cell]; rfl
              have yd1 : z6.W.cell? ⟨z5.W.heap.size, 1, none⟩ = some (.slice B5 m5 d5) := by rw [XY.cell]; rfl

              go_wp2_with fail
              refine (l3Copy_is _ (h.up (z6.up hB2 (by omega)))).mono ?_
              rintro e w9 ⟨A9, c9, B9, d9, rfl, I9, hb9⟩
              have hB9 := below_then (z6.up hB2 (by omega)) hb9
              have hs9 := hb9.size
              have hsy := z6.be.size
              obtain ⟨z9, rfl⟩ := z6.of hb9
              clear hb9
              go_wp2
              refine bodyPost_ret (v := .tuple #[.agg #[.slice A9 n c9, .slice B9 m d9], .bool false]) ?_ rfl ?_
              · simp [results, Tryz.results69, go_sem]
                go_simp
              · rw [HG.out]
                exact ⟨_, _, _, _, _, _, rfl, gis_ret I9 _ _ _ _ (by omega) (by omega) (by omega), below_ret hB9 _ _ _ (by omega)⟩
          · have hde : decide (x = ⟨e0, e1, e2, e3⟩) = false := by simp [hxe]
            rw [hde] at hNE
            have HG := Lib.hid (HF.out (stepG_miss (e := ⟨e0, e1, e2, e3⟩) (fun y hy => by
              have hxy : some y = some x := hy.symm.trans hx
              injection hxy with hxy
              rw [hxy]
              exact hxe)))
            obtain ⟨x0, x1, x2, x3⟩ := x
            dsimp only at hNE d0 d1' d2 d3
            simp only [Bool.not_false] at hNE
            clear HF HN hx hde hix hj hxe
            go_wp2_with fail
            refine (specEdgeIx_rd _ J1.grd e0).mono ?_
            rw [HIX.out]
            rintro e w4 ⟨rfl, hb4⟩
            have hs4 := hb4.size
            have XO4 := XO1.below hb4 XO1.lt
            have XK4 := XK.below hb4 XK.lt
            have J4 := J1.below hb4
            obtain ⟨z4, rfl⟩ := z1.of hb4
            have hb4k := hb4
            clear hb4
            have hz4x : w1.heap.size < z4.W.heap.size := by have := z4.be.size; omega
            have v0 := Kept.cell (cell_keep hb4k d0)
            have v1 := Kept.cell (cell_keep hb4k d1')
            have v2 := Kept.cell (cell_keep hb4k d2)
            have v3 := Kept.cell (cell_keep hb4k d3)
            have xe1 := XO4.kc (v := .slice (some ⟨b4, o4, none⟩) m' d') 1 rfl
            have xk0' := XK4.kc (v := .int .i64 e0) 0 rfl
            have xk1' := XK4.kc (v := .int .i64 e1) 1 rfl
            have xk2' := XK4.kc (v := .int .i64 e2) 2 rfl
            have xk3' := XK4.kc (v := .int .i64 e3) 3 rfl
            go_wp2_with fail
            refine wp_region_kb (by kernel_rfl) (by kernel_rfl) ?_
            repeat (go_big_quiet_step (fail))
            refine wpQuiet_nil ?_
            intro _ hw'
            obtain ⟨u8, rfl⟩ := hw'
            have hs8 := u8.be.size
            have XO8 := XO4.below u8.be XO4.lt
            have XK8 := XK4.below u8.be XK4.lt
            have J8 := J4.below u8.be
            clear xe1 xk0' xk1' xk2' xk3'
            obtain ⟨z8, hz8e⟩ := z4.of u8.be
            rw [hz8e] at XO8 XK8 J8 hs8 ⊢
            clear hz8e u8
            clear v0 v1 v2 v3 d0 d1' d2 d3 hNE
            go_wp2_with fail
            refine (l3Copy_is _ (h.up (z8.up hB2 (by omega)))).mono ?_
            rintro e w9 ⟨A9, c9, B9, d9, rfl, I9, hb9⟩
            have hB9 := below_then (z8.up hB2 (by omega)) hb9
            have hs9 := hb9.size
            have hsy := z8.be.size
            obtain ⟨z9, rfl⟩ := z8.of hb9
            clear hb9
            go_wp2
            refine bodyPost_ret (v := .tuple #[.agg #[.slice A9 n c9, .slice B9 m d9], .bool false]) ?_ rfl ?_
            · simp [results, Tryz.results69, go_sem]
              go_simp
            · rw [HG.out]
              exact ⟨_, _, _, _, _, _, rfl, gis_ret I9 _ _ _ _ (by omega) (by omega) (by omega), below_ret hB9 _ _ _ (by omega)⟩
      · by_cases hio : insOk gq ⟨e0, e1, e2, e3⟩ = true
        · have HI := Lib.hid (insG_yes hio)
          replace HN := Lib.hid (HN.out.trans (show stepG gq ⟨true, ⟨e0, e1, e2, e3⟩⟩ = some (insG gq ⟨e0, e1, e2, e3⟩).1 by simp [stepG, hio]))
          rw [HI.out] at HN
          clear HF hio
          go_wp2_with fail
          refine (specInsertEdge_is _ J1.grd ⟨e0, e1, e2, e3⟩ J1.ov.cap).mono ?_
          rw [HI.out]
          rintro e w5 ⟨A5, n5, c5, B5, m5, d5, rfl, I5, hb5⟩
          have hs5 := hb5.size
          have XO5 := XO1.below hb5 XO1.lt
          obtain ⟨z5, rfl⟩ := z1.of hb5
          clear hb5
          have b6 : Below z5.W.heap.size z5.W (z5.W.alloc (.cells #[.slice A5 n5 c5, .slice B5 m5 d5] 27)) := (Below.refl _ _).alloc (Nat.le_refl _) _
          have XY := Blk.new z5.W 27 #[.slice A5 n5 c5, .slice B5 m5 d5]
          have XO6 := XO5.below b6 XO5.lt
          have J6 := I5.below b6
          have hs6 := b6.size
          have hzy : w1.heap.size < z5.W.heap.size := by have := z5.be.size; omega
          obtain ⟨z6, hz6e⟩ := z5.of b6
          rw [hz6e] at XY XO6 J6 hs6
          clear b6 I5
          have xf0 := XO6.frozen 0
          have xf1 := XO6.frozen 1
          have xd0 : z6.W.cell? ⟨w1.heap.size, 0, none⟩ = some (.slice A' n' c') := by rw [XO6.cell]; rfl
          have xd1 : z6.W.cell? ⟨w1.heap.size, 1, none⟩ = some (.slice B' m' d') := by rw [XO6.cell]; rfl
          have yd0 : z6.W.cell? ⟨z5.W.heap.size, 0, none⟩ = some (.slice A5 n5 c5) := by rw [XY.cell]; rfl
          have yd1 : z6.W.cell? ⟨z5.W.heap.size, 1, none⟩ = some (.slice B5 m5 d5) := by rw [XY.cell]; rfl

          have XO7 := (XO6.set_ 0 (.slice A5 n5 c5)).set_ 1 (.slice B5 m5 d5)
          have t7 := (z6.be.setCell (p := ⟨w1.heap.size, 0, none⟩) (Nat.le_refl _) (Nat.lt_succ_self _) (.slice A5 n5 c5)).setCell (p := ⟨w1.heap.size, 1, none⟩) (Nat.le_refl _) (Nat.lt_succ_self _) (.slice B5 m5 d5)
          have J7 := (J6.off XO6 0 (.slice A5 n5 c5)).off (XO6.set_ 0 (.slice A5 n5 c5)) 1 (.slice B5 m5 d5)
          have hz7 : z6.W.heap.size = ((z6.W.setCell ⟨w1.heap.size, 0, none⟩ (.slice A5 n5 c5)).setCell ⟨w1.heap.size, 1, none⟩ (.slice B5 m5 d5)).heap.size := by simp
          obtain ⟨z7, hz7e⟩ := KeptB.fst t7
          rw [hz7e] at XO7 J7 hz7
          clear t7
          go_wp2
          clear xd0 xd1 xf0 xf1 yd0 yd1
          go_roundw
          case rel => exact ⟨q + 1, _, _, _, _, _, _, _, z7, rfl, by omega, by go_num, by omega, XO7, J7.wide (by omega) (by omega), HN.out⟩
          case measure => simp [intOf]; omega
        · have hio' : insOk gq ⟨e0, e1, e2, e3⟩ = false := by simpa using hio
          have HI := Lib.hid (insG_no hio')
          have HG := Lib.hid (HF.out (by simp [stepG, hio']))
          clear HF HN hio hio'
          go_wp2_with fail
          refine (specInsertEdge_is _ J1.grd ⟨e0, e1, e2, e3⟩ J1.ov.cap).mono ?_
          rw [HI.out]
          rintro e w5 ⟨A5, n5, c5, B5, m5, d5, rfl, I5, hb5⟩
          have hs5 := hb5.size
          have XO5 := XO1.below hb5 XO1.lt
          obtain ⟨z5, rfl⟩ := z1.of hb5
          clear hb5
          have b6 : Below z5.W.heap.size z5.W (z5.W.alloc (.cells #[.slice A5 n5 c5, .slice B5 m5 d5] 27)) := (Below.refl _ _).alloc (Nat.le_refl _) _
          have XY := Blk.new z5.W 27 #[.slice A5 n5 c5, .slice B5 m5 d5]
          have XO6 := XO5.below b6 XO5.lt
          have J6 := I5.below b6
          have hs6 := b6.size
          have hzy : w1.heap.size < z5.W.heap.size := by have := z5.be.size; omega
          obtain ⟨z6, hz6e⟩ := z5.of b6
          rw [hz6e] at XY XO6 J6 hs6
          clear b6 I5
          have xf0 := XO6.frozen 0
          have xf1 := XO6.frozen 1
          have xd0 : z6.W.cell? ⟨w1.heap.size, 0, none⟩ = some (.slice A' n' c') := by rw [XO6.cell]; rfl
          have xd1 : z6.W.cell? ⟨w1.heap.size, 1, none⟩ = some (.slice B' m' d') := by rw [XO6.cell]; rfl
          have yd0 : z6.W.cell? ⟨z5.W.heap.size, 0, none⟩ = some (.slice A5 n5 c5) := by rw [XY.cell]; rfl
          have yd1 : z6.W.cell? ⟨z5.W.heap.size, 1, none⟩ = some (.slice B5 m5 d5) := by rw [XY.cell]; rfl

          go_wp2_with fail
          refine (l3Copy_is _ (h.up (z6.up hB2 (by omega)))).mono ?_
          rintro e w9 ⟨A9, c9, B9, d9, rfl, I9, hb9⟩
          have hB9 := below_then (z6.up hB2 (by omega)) hb9
          have hs9 := hb9.size
          have hsy := z6.be.size
          obtain ⟨z9, rfl⟩ := z6.of hb9
          clear hb9
          go_wp2
          refine bodyPost_ret (v := .tuple #[.agg #[.slice A9 n c9, .slice B9 m d9], .bool false]) ?_ rfl ?_
          · simp [results, Tryz.results69, go_sem]
            go_simp
          · rw [HG.out]
            exact ⟨_, _, _, _, _, _, rfl, gis_ret I9 _ _ _ _ (by omega) (by omega) (by omega), below_ret hB9 _ _ _ (by omega)⟩
theorem l6Apply_is (w : World) {A B C : Option Addr} {n c m d p cc : Nat} {g : G} {l : List Cg} (h : GRd w A n B m g) (hc : CRd w C p l) (hv : validG g = true) (h6 : p ≤ 6) :
    Calls Tryz.prog 69 #[.agg #[.slice A n c, .slice B m d], .agg #[.slice C p cc]] w fun r w' => ∃ A2 n2 c2 B2 m2 d2, r = .returned (.tuple #[.agg #[.slice A2 n2 c2, .slice B2 m2 d2], .bool (apG g l).2]) ∧ GIs w' w.heap.size w'.heap.size A2 n2 c2 B2 m2 d2 ((apG g l).1.vs.map iv) (ecs (apG g l).1.es) ∧ Below w.heap.size w w' := by
  rw [← rG_ap hv (by rw [hc.ln]; exact h6)]
  exact l6Apply_run w h hc h6

end Go.Proofs.YtomkgnamjfiocaaGreatDoor
