/- InsertEdge of the program. -/
import Derived.Test.YtljggmgijadjaaaGreatDoorIns
import Derived.Test.YtljggmgijadjaaaGreatDoorDelE
import Derived.Test.YtljggmgijadjaaaGreatDoorCutR
namespace Go.Proofs.YtljggmgijadjaaaGreatDoor
open Go.RowKit Go.ChangeShapes Go.WideShapes Go.ChangeAt Go.Deep
set_option linter.unusedVariables false
set_option maxRecDepth 4000 in
set_option maxHeartbeats 2000000 in
theorem implInsertEdge_is (w : World) {A B : Option Addr} {n c m d : Nat} {g : G} (h : GRd w A n B m g) (e : E) :
    Calls Tryz.prog 8 #[.agg #[.slice A n c, .slice B m d], .agg #[.int .i64 e.id, .int .i64 e.fr, .int .i64 e.to, .int .i64 e.lb]] w fun r w' => ∃ A2 n2 c2 B2 m2 d2, r = .returned (.tuple #[.agg #[.slice A2 n2 c2, .slice B2 m2 d2], .bool (insG g e).2]) ∧ GIs w' w.heap.size w'.heap.size A2 n2 c2 B2 m2 d2 ((insG g e).1.vs.map iv) (ecs (insG g e).1.es) ∧ Below w.heap.size w w' := by
  have hn := h.bn
  have hm := h.bm
  have lm := h.gr.lm
  have ln := h.gr.ln
  have HLM := Lib.hid lm
  have HLN := Lib.hid ln
  clear lm ln
  obtain ⟨e0, e1, e2, e3⟩ := e
  dsimp only
  go_enter Tryz.func8, Tryz.ntmps8
  go_wp2_with fail
  have hB0 : Below w.heap.size w (((w.alloc (.cells #[.slice A n c, .slice B m d] 27)).alloc (.cells #[.int .i64 e0, .int .i64 e1, .int .i64 e2, .int .i64 e3] 29)).alloc (.cells #[.slice none 0 0, .slice none 0 0] 27)) := (((Below.refl _ _).alloc (Nat.le_refl _) _).alloc (by simp) _).alloc (by simp; omega) _
  have XG := ((Blk.new w 27 #[.slice A n c, .slice B m d]).alloc (.cells #[.int .i64 e0, .int .i64 e1, .int .i64 e2, .int .i64 e3] 29)).alloc (.cells #[.slice none 0 0, .slice none 0 0] 27)
  have XE := (Blk.new (w.alloc (.cells #[.slice A n c, .slice B m d] 27)) 29 #[.int .i64 e0, .int .i64 e1, .int .i64 e2, .int .i64 e3]).alloc (.cells #[.slice none 0 0, .slice none 0 0] 27)
  have XR := Blk.new ((w.alloc (.cells #[.slice A n c, .slice B m d] 27)).alloc (.cells #[.int .i64 e0, .int .i64 e1, .int .i64 e2, .int .i64 e3] 29)) 27 #[.slice none 0 0, .slice none 0 0]
  simp only [World.size_alloc] at XE XR
  generalize (((w.alloc (.cells #[.slice A n c, .slice B m d] 27)).alloc (.cells #[.int .i64 e0, .int .i64 e1, .int .i64 e2, .int .i64 e3] 29)).alloc (.cells #[.slice none 0 0, .slice none 0 0] 27)) = w0 at *
  refine (copyGraph_is _ (h.up hB0)).mono ?_
  rintro e w1 ⟨A1, c1, B1, d1, rfl, I1, hb1⟩
  replace XG := XG.below hb1 XG.lt
  have hz0 := XR.lt
  replace XE := XE.below hb1 XE.lt
  replace XR := XR.below hb1 XR.lt
  have hB1 := below_then hB0 hb1
  have hz1 := hb1.size
  have kA1 : w1.cell? ⟨w.heap.size, 0, none⟩ = some (.slice A n c) := by rw [XG.cell]; rfl
  have kB1 : w1.cell? ⟨w.heap.size, 1, none⟩ = some (.slice B m d) := by rw [XG.cell]; rfl
  have hx1 : w.heap.size < w1.heap.size := by omega
  go_wp2_with fail
  clear kA1 kB1
  have hb2 : Below w1.heap.size w1 (w1.alloc (.cells #[.slice A1 n c1, .slice B1 m d1] 27)) := (Below.refl _ _).alloc (Nat.le_refl _) _
  have XX := Blk.new w1 27 #[.slice A1 n c1, .slice B1 m d1]
  generalize (w1.alloc (.cells #[.slice A1 n c1, .slice B1 m d1] 27)) = w2 at *
  replace XG := XG.below hb2 XG.lt
  replace XE := XE.below hb2 XE.lt
  replace XR := XR.below hb2 XR.lt
  have hB2 := below_then hB1 hb2
  have hz2 := XX.lt
  have I2 := I1.below hb2
  have kA := XG.kc (v := .slice A n c) 0 rfl
  have kB := XG.kc (v := .slice B m d) 1 rfl
  have k0 := XE.kc (v := .int .i64 e0) 0 rfl
  have k1 := XE.kc (v := .int .i64 e1) 1 rfl
  have k2 := XE.kc (v := .int .i64 e2) 2 rfl
  have k3 := XE.kc (v := .int .i64 e3) 3 rfl
  have r0 := XR.kc (v := .slice none 0 0) 0 rfl
  have r1 := XR.kc (v := .slice none 0 0) 1 rfl
  have f0 := XR.kf 0
  have f1 := XR.kf 1
  have xA := XX.kc (v := .slice A1 n c1) 0 rfl
  have xB := XX.kc (v := .slice B1 m d1) 1 rfl
  have xf := XX.kf 1
  clear I1 hb1 hb2 hB0 hB1 XG XE
  refine (implValid_rd _ (h.up hB2)).mono ?_
  rintro e w3 ⟨rfl, hb3⟩
  obtain ⟨y, rfl⟩ := Kept.fst hb3
  clear hb3
  have fin : ∀ y : Kept w2, insG g ⟨e0, e1, e2, e3⟩ = (g, false) → ∃ A2 n2 c2 B2 m2 d2, Ending.returned (.tuple #[.agg #[.slice A1 n c1, .slice B1 m d1], .bool false]) = Ending.returned (.tuple #[.agg #[.slice A2 n2 c2, .slice B2 m2 d2], .bool (insG g ⟨e0, e1, e2, e3⟩).2]) ∧ GIs ((y.W.setCell ⟨w.heap.size + 1 + 1, 0, none⟩ (.slice A1 n c1)).setCell ⟨w.heap.size + 1 + 1, 1, none⟩ (.slice B1 m d1)) w.heap.size ((y.W.setCell ⟨w.heap.size + 1 + 1, 0, none⟩ (.slice A1 n c1)).setCell ⟨w.heap.size + 1 + 1, 1, none⟩ (.slice B1 m d1)).heap.size A2 n2 c2 B2 m2 d2 ((insG g ⟨e0, e1, e2, e3⟩).1.vs.map iv) (ecs (insG g ⟨e0, e1, e2, e3⟩).1.es) ∧ Below w.heap.size w ((y.W.setCell ⟨w.heap.size + 1 + 1, 0, none⟩ (.slice A1 n c1)).setCell ⟨w.heap.size + 1 + 1, 1, none⟩ (.slice B1 m d1)) := fun y hE => by
    rw [hE]
    have := y.be.size
    exact ⟨_, _, _, _, _, _, rfl, gis_ret (I2.below y.be) _ _ _ _ (by omega) (by omega) (by omega), below_ret (below_then hB2 y.be) _ _ _ (by omega)⟩
  have FIN := Lib.hid fin
  clear fin
  have hno : insOk g ⟨e0, e1, e2, e3⟩ = false → Hid (insG g ⟨e0, e1, e2, e3⟩ = (g, false)) := fun h => Lib.hid (insG_no h)
  cases hv : validG g
  · have HG := hno (by simp [insOk, hv])
    clear hno hv
    go_wp2_with fail
    refine bodyPost_ret (v := .tuple #[.agg #[.slice A1 n c1, .slice B1 m d1], .bool false]) ?_ rfl ?_
    · simp [results, Tryz.results8, go_sem]
      go_simp
    · exact FIN.out y HG.out
  · cases hok : okE n ⟨e0, e1, e2, e3⟩
    · have HG := hno (by simp [insOk, hok, HLN.out])
      have HOK := Lib.hid hok
      clear hno hv hok
      go_wp2_with (go_at_call 59; refine (edgeOk_any ⟨e0, e1, e2, e3⟩ n _ (by omega) (by omega)).mono ?_; rw [HOK.out]; rintro e w' ⟨rfl, hb⟩; obtain ⟨y4, rfl⟩ := Kept.of _ hb)
      refine bodyPost_ret (v := .tuple #[.agg #[.slice A1 n c1, .slice B1 m d1], .bool false]) ?_ rfl ?_
      · simp [results, Tryz.results8, go_sem]
        go_simp
      · exact FIN.out y4 HG.out
    · have HOK := Lib.hid hok
      by_cases hix : ixN g.es e0 < g.es.length
      · have HG := hno (by simp [insOk, hix])
        have HIX := Lib.hid (ixE_yes hix)
        clear hno hv hok hix
        go_wp2_with (first
          | (go_at_call 59; refine (edgeOk_any ⟨e0, e1, e2, e3⟩ n _ (by omega) (by omega)).mono ?_; rw [HOK.out]; rintro e w' ⟨rfl, hb⟩; obtain ⟨y4, rfl⟩ := Kept.of _ hb)
          | (go_at_call 11; refine (implEdgeIx_rd _ (h.up (below_then hB2 (Kept.be _))) e0).mono ?_; rw [HIX.out]; rintro e w' ⟨rfl, hb⟩; obtain ⟨y5, rfl⟩ := Kept.of _ hb))
        refine bodyPost_ret (v := .tuple #[.agg #[.slice A1 n c1, .slice B1 m d1], .bool false]) ?_ rfl ?_
        · simp [results, Tryz.results8, go_sem]
          go_simp
        · exact FIN.out y5 HG.out
      · have HIX := Lib.hid (ixE_no hix)
        by_cases h12 : m = 12
        · have HG := hno (by simp [insOk, HLM.out, h12])
          subst h12
          clear hno hv hok hix
          go_wp2_with (first
            | (go_at_call 59; refine (edgeOk_any ⟨e0, e1, e2, e3⟩ n _ (by omega) (by omega)).mono ?_; rw [HOK.out]; rintro e w' ⟨rfl, hb⟩; obtain ⟨y4, rfl⟩ := Kept.of _ hb)
            | (go_at_call 11; refine (implEdgeIx_rd _ (h.up (below_then hB2 (Kept.be _))) e0).mono ?_; rw [HIX.out]; rintro e w' ⟨rfl, hb⟩; obtain ⟨y5, rfl⟩ := Kept.of _ hb))
          refine bodyPost_ret (v := .tuple #[.agg #[.slice A1 n c1, .slice B1 12 d1], .bool false]) ?_ rfl ?_
          · simp [results, Tryz.results8, go_sem]
            go_simp
          · exact FIN.out y5 HG.out
        · have hix2 : ¬ ixN g.es e0 < m := by have := HLM.out; omega
          have HG := Lib.hid (insG_yes (g := g) (e := ⟨e0, e1, e2, e3⟩) (by simp [insOk, hv, hok, hix2, HLM.out, HLN.out, h12]))
          clear hix2
          have h12' : ((m : Int) == 12) = false := by simp; omega
          have hm12 : m ≤ 12 := by
            have h3 := hv
            simp only [validG, Bool.and_eq_true, decide_eq_true_eq] at h3
            have := h3.2
            have := HLM.out
            omega
          have HIX := Lib.hid (ixE_no hix)
          clear hno hv hok hix h12 FIN
          go_wp2_with (first
            | (go_at_call 59; refine (edgeOk_any ⟨e0, e1, e2, e3⟩ n _ (by omega) (by omega)).mono ?_; rw [HOK.out]; rintro e w' ⟨rfl, hb⟩; obtain ⟨y4, rfl⟩ := Kept.of _ hb)
            | (go_at_call 11; refine (implEdgeIx_rd _ (h.up (below_then hB2 (Kept.be _))) e0).mono ?_; rw [HIX.out]; rintro e w' ⟨rfl, hb⟩; obtain ⟨y5, rfl⟩ := Kept.of _ hb))
          clear hb HIX HOK
          go_loopw [7] (fun i wr => ∃ k : Nat, k ≤ m ∧ i = .int .i64 k ∧ k ≤ insK g.es e0 ∧ ∃ z : Kept w2, wr = z.W) (fun i _ => m - (intOf i).toNat)
          case atStart => exact ⟨0, Nat.zero_le _, rfl, Nat.zero_le _, y5, rfl⟩
          case round =>
            obtain ⟨k, hk, rfl, hks, z, rfl⟩ := hrel
            by_cases hlt : k < m
            · obtain ⟨b, o, rfl, hbo, x, hx, c0, _, _, _⟩ := edge_at I2.ov.reads HLM.out hlt
              have x0 := Kept.cell c0
              have hlt' : (k : Int) < m := by omega
              have hk0 : (0 : Int) ≤ (k : Int) := by omega
              obtain ⟨h1, h2⟩ := insK_step hx hks
              obtain ⟨xi, x_1, x_2, x_3⟩ := x
              dsimp only at x0 h1 h2
              clear c0 hx hbo
              by_cases hid : xi < e0
              · have h2' := h2 hid
                clear h1 h2
                go_wp2_with fail
                refine wp_region_k2 (by kernel_rfl) (by kernel_rfl) ?_
                repeat (go_big_quiet_step (fail))
                refine wpQuiet_nil ?_
                intro _ hw'
                obtain ⟨z2, rfl⟩ := hw'
                go_wp2
                go_roundw
                case rel => exact ⟨k + 1, by omega, by go_num, h2', z2, rfl⟩
                case measure => simp [intOf]; omega
              · have HKK := Lib.hid (h1 hid)
                have hid' : decide (xi < e0) = false := by simp; omega
                clear h1 h2 hks
                go_wp2_with fail
                refine wp_region_k2 (by kernel_rfl) (by kernel_rfl) ?_
                repeat (go_big_quiet_step (fail))
                refine wpQuiet_nil ?_
                intro _ hw'
                obtain ⟨z2, rfl⟩ := hw'
                go_wp2_with fail
                have hb3 : Below z2.W.heap.size z2.W (z2.W.alloc (.cells #[.int .i64 e0, .int .i64 e1, .int .i64 e2, .int .i64 e3] 29)) := (Below.refl _ _).alloc (Nat.le_refl _) _
                have hV : Blk (z2.W.alloc (.cells #[.int .i64 e0, .int .i64 e1, .int .i64 e2, .int .i64 e3] 29)) z2.W.heap.size 29 (ec ⟨e0, e1, e2, e3⟩).toArray := Blk.new _ _ _
                have I3 := (I2.below z2.be).below hb3
                have XX3 := (XX.below z2.be XX.lt).below hb3 (XX.below z2.be XX.lt).lt
                have XR3 := (XR.below z2.be XR.lt).below hb3 (XR.below z2.be XR.lt).lt
                have hB3 := below_then (below_then hB2 z2.be) hb3
                have hzz := z2.be.size
                have hz3 := hb3.size
                generalize (z2.W.alloc (.cells #[.int .i64 e0, .int .i64 e1, .int .i64 e2, .int .i64 e3] 29)) = w3 at *
                refine (insertE_any _ I3.ov.own.row (k := k) hk (by omega) (by omega) hV (fun e => by have := I3.ov.own.top _ e; omega) rfl (ec_one _) ecs_one').mono ?_
                rintro e w4 ⟨B4, d4, rfl, O4, g4⟩
                have t4 := Tch.of_grown g4 I3.ov.own
                have hne := own_ne I3.ov.own.row I3.ou.own.row (by decide)
                have U4 := I3.ou.grown g4 (fun q hq e => hne q e hq)
                have XX4 := XX3.tch t4 (.inr (Nat.le_refl _))
                have XR4 := XR3.tch t4 (.inl (by omega))
                have hB4 := below_tch hB3 t4 (by omega)
                have hz4 := t4.size
                rw [ecs_ins] at O4
                have V4 := RIs.of O4 (by omega)
                have U5 := U4.off XX4 (by decide) 1 (.slice B4 (m + 1) d4)
                have V5 := V4.off XX4 (by decide) 1 (.slice B4 (m + 1) d4)
                have X5 := XX4.set_ 1 (.slice B4 (m + 1) d4)
                have R5 := XR4.far (p := ⟨w1.heap.size, 1, none⟩) (by dsimp only; omega) (.slice B4 (m + 1) d4)
                have hB5 := hB4.setCell (p := ⟨w1.heap.size, 1, none⟩) (by dsimp only; omega) (.slice B4 (m + 1) d4)
                have x41 : w4.cell? ⟨w1.heap.size, 1, none⟩ = some (.slice (some ⟨b, o, none⟩) m d1) := by rw [XX4.cell]; rfl
                have x4f := XX4.frozen 1
                have x50 : (w4.setCell ⟨w1.heap.size, 1, none⟩ (.slice B4 (m + 1) d4)).cell? ⟨w1.heap.size, 0, none⟩ = some (.slice A1 n c1) := by rw [X5.cell]; rfl
                have x51 : (w4.setCell ⟨w1.heap.size, 1, none⟩ (.slice B4 (m + 1) d4)).cell? ⟨w1.heap.size, 1, none⟩ = some (.slice B4 (m + 1) d4) := by rw [X5.cell]; rfl
                have r50 : (w4.setCell ⟨w1.heap.size, 1, none⟩ (.slice B4 (m + 1) d4)).cell? ⟨w.heap.size + 1 + 1, 0, none⟩ = some (.slice none 0 0) := by rw [R5.cell]; rfl
                have r51 : (w4.setCell ⟨w1.heap.size, 1, none⟩ (.slice B4 (m + 1) d4)).cell? ⟨w.heap.size + 1 + 1, 1, none⟩ = some (.slice none 0 0) := by rw [R5.cell]; rfl
                have f50 := R5.frozen 0
                have f51 := R5.frozen 1
                have J5 : GIs (w4.setCell ⟨w1.heap.size, 1, none⟩ (.slice B4 (m + 1) d4)) w0.heap.size w4.heap.size A1 n c1 B4 (m + 1) d4 (g.vs.map iv) (ecs (g.es.take k ++ [⟨e0, e1, e2, e3⟩] ++ g.es.drop k)) := ⟨U5.wide (Nat.le_refl _) (by omega), V5⟩
                have hz5 : w4.heap.size = (w4.setCell ⟨w1.heap.size, 1, none⟩ (.slice B4 (m + 1) d4)).heap.size := by simp
                clear t4 g4 O4 U4 V4 U5 V5 X5 R5 XX4 XR4 XX3 XR3 I3 hb3 hV hne hB3 hB4
                go_wp2_with fail
                clear x41 x4f
                generalize w4.setCell ⟨w1.heap.size, 1, none⟩ (.slice B4 (m + 1) d4) = w5 at *
                have HZ := Lib.hid hz5
                clear hz5
                go_wp2_with fail
                refine bodyPost_ret (v := .tuple #[.agg #[.slice A1 n c1, .slice B4 (m + 1) d4], .bool true]) ?_ rfl ?_
                · simp [results, Tryz.results8, go_sem]
                  go_simp
                · rw [HG.out, HKK.out]
                  have := HZ.out
                  exact ⟨_, _, _, _, _, _, rfl, gis_ret J5 _ _ _ _ (by omega) (by omega) (by omega), below_ret hB5 _ _ _ (by omega)⟩
            · have HKK := Lib.hid (show insK g.es e0 = k by have := insK_le g.es e0; have := HLM.out; omega)
              have hlt' : ¬ (k : Int) < m := by omega
              have hdl : decide ((k : Int) < m) = false := by simp; omega
              clear hks
              go_wp2_with fail
              refine wp_region_k2 (by kernel_rfl) (by kernel_rfl) ?_
              repeat (go_big_quiet_step (fail))
              refine wpQuiet_nil ?_
              intro _ hw'
              obtain ⟨z2, rfl⟩ := hw'
              go_wp2_with fail
              have hb3 : Below z2.W.heap.size z2.W (z2.W.alloc (.cells #[.int .i64 e0, .int .i64 e1, .int .i64 e2, .int .i64 e3] 29)) := (Below.refl _ _).alloc (Nat.le_refl _) _
              have hV : Blk (z2.W.alloc (.cells #[.int .i64 e0, .int .i64 e1, .int .i64 e2, .int .i64 e3] 29)) z2.W.heap.size 29 (ec ⟨e0, e1, e2, e3⟩).toArray := Blk.new _ _ _
              have I3 := (I2.below z2.be).below hb3
              have XX3 := (XX.below z2.be XX.lt).below hb3 (XX.below z2.be XX.lt).lt
              have XR3 := (XR.below z2.be XR.lt).below hb3 (XR.below z2.be XR.lt).lt
              have hB3 := below_then (below_then hB2 z2.be) hb3
              have hzz := z2.be.size
              have hz3 := hb3.size
              generalize (z2.W.alloc (.cells #[.int .i64 e0, .int .i64 e1, .int .i64 e2, .int .i64 e3] 29)) = w3 at *
              refine (insertE_any _ I3.ov.own.row (k := k) hk (by omega) (by omega) hV (fun e => by have := I3.ov.own.top _ e; omega) rfl (ec_one _) ecs_one').mono ?_
              rintro e w4 ⟨B4, d4, rfl, O4, g4⟩
              have t4 := Tch.of_grown g4 I3.ov.own
              have hne := own_ne I3.ov.own.row I3.ou.own.row (by decide)
              have U4 := I3.ou.grown g4 (fun q hq e => hne q e hq)
              have XX4 := XX3.tch t4 (.inr (Nat.le_refl _))
              have XR4 := XR3.tch t4 (.inl (by omega))
              have hB4 := below_tch hB3 t4 (by omega)
              have hz4 := t4.size
              rw [ecs_ins] at O4
              have V4 := RIs.of O4 (by omega)
              have U5 := U4.off XX4 (by decide) 1 (.slice B4 (m + 1) d4)
              have V5 := V4.off XX4 (by decide) 1 (.slice B4 (m + 1) d4)
              have X5 := XX4.set_ 1 (.slice B4 (m + 1) d4)
              have R5 := XR4.far (p := ⟨w1.heap.size, 1, none⟩) (by dsimp only; omega) (.slice B4 (m + 1) d4)
              have hB5 := hB4.setCell (p := ⟨w1.heap.size, 1, none⟩) (by dsimp only; omega) (.slice B4 (m + 1) d4)
              have x41 : w4.cell? ⟨w1.heap.size, 1, none⟩ = some (.slice B1 m d1) := by rw [XX4.cell]; rfl
              have x4f := XX4.frozen 1
              have x50 : (w4.setCell ⟨w1.heap.size, 1, none⟩ (.slice B4 (m + 1) d4)).cell? ⟨w1.heap.size, 0, none⟩ = some (.slice A1 n c1) := by rw [X5.cell]; rfl
              have x51 : (w4.setCell ⟨w1.heap.size, 1, none⟩ (.slice B4 (m + 1) d4)).cell? ⟨w1.heap.size, 1, none⟩ = some (.slice B4 (m + 1) d4) := by rw [X5.cell]; rfl
              have r50 : (w4.setCell ⟨w1.heap.size, 1, none⟩ (.slice B4 (m + 1) d4)).cell? ⟨w.heap.size + 1 + 1, 0, none⟩ = some (.slice none 0 0) := by rw [R5.cell]; rfl
              have r51 : (w4.setCell ⟨w1.heap.size, 1, none⟩ (.slice B4 (m + 1) d4)).cell? ⟨w.heap.size + 1 + 1, 1, none⟩ = some (.slice none 0 0) := by rw [R5.cell]; rfl
              have f50 := R5.frozen 0
              have f51 := R5.frozen 1
              have J5 : GIs (w4.setCell ⟨w1.heap.size, 1, none⟩ (.slice B4 (m + 1) d4)) w0.heap.size w4.heap.size A1 n c1 B4 (m + 1) d4 (g.vs.map iv) (ecs (g.es.take k ++ [⟨e0, e1, e2, e3⟩] ++ g.es.drop k)) := ⟨U5.wide (Nat.le_refl _) (by omega), V5⟩
              have hz5 : w4.heap.size = (w4.setCell ⟨w1.heap.size, 1, none⟩ (.slice B4 (m + 1) d4)).heap.size := by simp
              clear t4 g4 O4 U4 V4 U5 V5 X5 R5 XX4 XR4 XX3 XR3 I3 hb3 hV hne hB3 hB4
              go_wp2_with fail
              clear x41 x4f
              generalize w4.setCell ⟨w1.heap.size, 1, none⟩ (.slice B4 (m + 1) d4) = w5 at *
              have HZ := Lib.hid hz5
              clear hz5
              go_wp2_with fail
              refine bodyPost_ret (v := .tuple #[.agg #[.slice A1 n c1, .slice B4 (m + 1) d4], .bool true]) ?_ rfl ?_
              · simp [results, Tryz.results8, go_sem]
                go_simp
              · rw [HG.out, HKK.out]
                have := HZ.out
                exact ⟨_, _, _, _, _, _, rfl, gis_ret J5 _ _ _ _ (by omega) (by omega) (by omega), below_ret hB5 _ _ _ (by omega)⟩
end Go.Proofs.YtljggmgijadjaaaGreatDoor
