/- BatchBetween of the reference. -/
import Derived.Test.YtomkgnamjfiocaaGreatDoorBtw
namespace Go.Proofs.YtomkgnamjfiocaaGreatDoor
open Go.RowKit Go.ChangeShapes Go.WideShapes Go.ChangeAt Go.Deep
set_option linter.unusedVariables false
set_option maxRecDepth 4000 in
set_option maxHeartbeats 8000000 in
theorem specBatchBetween_is (w : World) {A B A2 B2 : Option Addr} {n c m d n2 c2 m2 d2 : Nat} {g g2 : G} (h : GRd w A n B m g) (h2 : GRd w A2 n2 B2 m2 g2) :
    Calls Tryz.prog 33 #[.agg #[.slice A n c, .slice B m d], .agg #[.slice A2 n2 c2, .slice B2 m2 d2]] w fun r w' => ∃ A3 n3 c3, r = .returned (.tuple #[.agg #[.slice A3 n3 c3], .bool (btwOk g g2)]) ∧ RIs w' w.heap.size w'.heap.size 92 5 A3 n3 c3 (cgcs (btwZ g g2)) ∧ Below w.heap.size w w' := by
  have hm := h.bm
  have hm2 := h2.bm
  have HLM := Lib.hid h.gr.lm
  have HLM2 := Lib.hid h2.gr.lm
  have hB0 : Below w.heap.size w ((((w.alloc (.cells #[.slice A n c, .slice B m d] 27)).alloc (.cells #[.slice A2 n2 c2, .slice B2 m2 d2] 27)).alloc (.cells #[.slice none 0 0] 47)).alloc (.cells #[.slice none 0 0] 47)) := ((((Below.refl _ _).alloc (Nat.le_refl _) _).alloc (by simp) _).alloc (by simp; omega) _).alloc (by simp; omega) _
  have kA0 : ((((w.alloc (.cells #[.slice A n c, .slice B m d] 27)).alloc (.cells #[.slice A2 n2 c2, .slice B2 m2 d2] 27)).alloc (.cells #[.slice none 0 0] 47)).alloc (.cells #[.slice none 0 0] 47)).cell? ⟨w.heap.size, 0, none⟩ = some (.slice A n c) := by go_simp
  have kB0 : ((((w.alloc (.cells #[.slice A n c, .slice B m d] 27)).alloc (.cells #[.slice A2 n2 c2, .slice B2 m2 d2] 27)).alloc (.cells #[.slice none 0 0] 47)).alloc (.cells #[.slice none 0 0] 47)).cell? ⟨w.heap.size, 1, none⟩ = some (.slice B m d) := by go_simp
  have lA0 : ((((w.alloc (.cells #[.slice A n c, .slice B m d] 27)).alloc (.cells #[.slice A2 n2 c2, .slice B2 m2 d2] 27)).alloc (.cells #[.slice none 0 0] 47)).alloc (.cells #[.slice none 0 0] 47)).cell? ⟨w.heap.size + 1, 0, none⟩ = some (.slice A2 n2 c2) := by go_simp
  have lB0 : ((((w.alloc (.cells #[.slice A n c, .slice B m d] 27)).alloc (.cells #[.slice A2 n2 c2, .slice B2 m2 d2] 27)).alloc (.cells #[.slice none 0 0] 47)).alloc (.cells #[.slice none 0 0] 47)).cell? ⟨w.heap.size + 1, 1, none⟩ = some (.slice B2 m2 d2) := by go_simp
  have r00 : ((((w.alloc (.cells #[.slice A n c, .slice B m d] 27)).alloc (.cells #[.slice A2 n2 c2, .slice B2 m2 d2] 27)).alloc (.cells #[.slice none 0 0] 47)).alloc (.cells #[.slice none 0 0] 47)).cell? ⟨w.heap.size + 1 + 1, 0, none⟩ = some (.slice none 0 0) := by go_simp
  have f00 : ((((w.alloc (.cells #[.slice A n c, .slice B m d] 27)).alloc (.cells #[.slice A2 n2 c2, .slice B2 m2 d2] 27)).alloc (.cells #[.slice none 0 0] 47)).alloc (.cells #[.slice none 0 0] 47)).frozen? ⟨w.heap.size + 1 + 1, 0, none⟩ = false := by go_simp
  have x00 : ((((w.alloc (.cells #[.slice A n c, .slice B m d] 27)).alloc (.cells #[.slice A2 n2 c2, .slice B2 m2 d2] 27)).alloc (.cells #[.slice none 0 0] 47)).alloc (.cells #[.slice none 0 0] 47)).cell? ⟨w.heap.size + 1 + 1 + 1, 0, none⟩ = some (.slice none 0 0) := by go_simp
  have X0 : Blk ((((w.alloc (.cells #[.slice A n c, .slice B m d] 27)).alloc (.cells #[.slice A2 n2 c2, .slice B2 m2 d2] 27)).alloc (.cells #[.slice none 0 0] 47)).alloc (.cells #[.slice none 0 0] 47)) (w.heap.size + 1 + 1 + 1) 47 #[.slice none 0 0] := by have := Blk.new (((w.alloc (.cells #[.slice A n c, .slice B m d] 27)).alloc (.cells #[.slice A2 n2 c2, .slice B2 m2 d2] 27)).alloc (.cells #[.slice none 0 0] 47)) 47 #[.slice none 0 0]; simpa only [World.size_alloc] using this
  have hz0 : w.heap.size + 1 + 1 + 1 < ((((w.alloc (.cells #[.slice A n c, .slice B m d] 27)).alloc (.cells #[.slice A2 n2 c2, .slice B2 m2 d2] 27)).alloc (.cells #[.slice none 0 0] 47)).alloc (.cells #[.slice none 0 0] 47)).heap.size := by simp
  have HPRE := Lib.hid (btwOk_pre (a := g) (b := g2))
  have HLEN := Lib.hid (btwOk_len (a := g) (b := g2))
  have HN := Lib.hid (btwZ_no (a := g) (b := g2))
  have HY := Lib.hid (btwZ_yes (a := g) (b := g2))
  have HP := Lib.hid (show btwPre g g2 = (validG g && validG g2 && eqB g.vs g2.vs) from rfl)
  have HLL := Lib.hid (show btwL g g2 = accB false g.es g2.es m ++ accB true g2.es g.es m2 by unfold btwL; rw [h.gr.lm, h2.gr.lm])
  have HCZ := Lib.hid (cmpL_zero g.vs g2.vs)
  have HEB := Lib.hid (show eqB g.vs g2.vs = decide (g.vs = g2.vs) from rfl)
  go_enter Tryz.func33, Tryz.ntmps33
  go_wp2_with fail
  generalize ((((w.alloc (.cells #[.slice A n c, .slice B m d] 27)).alloc (.cells #[.slice A2 n2 c2, .slice B2 m2 d2] 27)).alloc (.cells #[.slice none 0 0] 47)).alloc (.cells #[.slice none 0 0] 47)) = w0 at *
  refine (specValid_rd _ (h.up hB0)).mono ?_
  rintro r w1 ⟨rfl, hb1⟩
  have hB1 := below_then hB0 hb1
  have kA1 := cell_keep hb1 kA0
  have kB1 := cell_keep hb1 kB0
  have lA1 := cell_keep hb1 lA0
  have lB1 := cell_keep hb1 lB0
  have r01 := cell_keep hb1 r00
  have f01 := frozen_keep hb1 r00 f00
  have x01 := cell_keep hb1 x00
  have X1 := X0.below hb1 (by omega)
  have hz1 : w.heap.size + 1 + 1 + 1 < w1.heap.size := Nat.lt_of_lt_of_le hz0 hb1.size
  clear kA0 kB0 lA0 lB0 r00 f00 x00 X0 hb1
  cases hv : validG g
  · have hno := HPRE.out (by rw [HP.out, hv]; rfl)
    have HNO := Lib.hid hno
    have HZN := Lib.hid (HN.out hno)
    clear hno hv
    go_wp2
    refine bodyPost_ret (v := .tuple #[.agg #[.slice none 0 0], .bool false]) ?_ rfl ?_
    · simp [results, Tryz.results33, go_sem]
      go_simp
    · exact ⟨none, 0, 0, by rw [HNO.out] <;> rfl, by rw [HZN.out]; exact (ris_nil0 _ _ _).wide (by simp; omega) (Nat.le_refl _), hB1.setCell (p := ⟨w.heap.size + 1 + 1, 0, none⟩) (by dsimp only; omega) _⟩
  · have HV1 := Lib.hid hv
    clear hv
    go_wp2_with fail
    refine (specValid_rd _ (h2.up hB1)).mono ?_
    rintro r w2 ⟨rfl, hb2⟩
    have hB2 := below_then hB1 hb2
    have kA2 := cell_keep hb2 kA1
    have kB2 := cell_keep hb2 kB1
    have lA2 := cell_keep hb2 lA1
    have lB2 := cell_keep hb2 lB1
    have r02 := cell_keep hb2 r01
    have f02 := frozen_keep hb2 r01 f01
    have x02 := cell_keep hb2 x01
    have X2 := X1.below hb2 (by omega)
    have hz2 : w.heap.size + 1 + 1 + 1 < w2.heap.size := Nat.lt_of_lt_of_le hz1 hb2.size
    clear kA1 kB1 lA1 lB1 r01 f01 x01 X1 hb2
    cases hv : validG g2
    · have hno := HPRE.out (by rw [HP.out, hv]; simp)
      have HNO := Lib.hid hno
      have HZN := Lib.hid (HN.out hno)
      clear hno hv
      go_wp2
      refine bodyPost_ret (v := .tuple #[.agg #[.slice none 0 0], .bool false]) ?_ rfl ?_
      · simp [results, Tryz.results33, go_sem]
        go_simp
      · exact ⟨none, 0, 0, by rw [HNO.out] <;> rfl, by rw [HZN.out]; exact (ris_nil0 _ _ _).wide (by simp; omega) (Nat.le_refl _), hB2.setCell (p := ⟨w.heap.size + 1 + 1, 0, none⟩) (by dsimp only; omega) _⟩
    · have HV2 := Lib.hid hv
      clear hv
      go_wp2_with fail
      refine (l2Cmp_gen A A2 n c n2 c2 g.vs g2.vs _ h.gr.ln h2.gr.ln h.bn h2.bn (h.up hB2).gr.rv (h2.up hB2).gr.rv).mono ?_
      rintro r w3 ⟨rfl, hb3⟩
      have hB3 := below_then hB2 hb3
      have kA3 := cell_keep hb3 kA2
      have kB3 := cell_keep hb3 kB2
      have lA3 := cell_keep hb3 lA2
      have lB3 := cell_keep hb3 lB2
      have r03 := cell_keep hb3 r02
      have f03 := frozen_keep hb3 r02 f02
      have x03 := cell_keep hb3 x02
      have X3 := X2.below hb3 (by omega)
      have hz3 : w.heap.size + 1 + 1 + 1 < w3.heap.size := Nat.lt_of_lt_of_le hz2 hb3.size
      clear kA2 kB2 lA2 lB2 r02 f02 x02 X2 hb3
      cases hv : eqB g.vs g2.vs
      · have hno := HPRE.out (by rw [HP.out, hv]; simp)
        have HNO := Lib.hid hno
        have HZN := Lib.hid (HN.out hno)
        have hc0 : (cmpL g.vs g2.vs != 0) = true := by
          have h1 : ¬ g.vs = g2.vs := by rw [HEB.out] at hv; simpa using hv
          have := mt HCZ.out.1 h1
          simpa using this
        clear hno hv
        go_wp2
        refine bodyPost_ret (v := .tuple #[.agg #[.slice none 0 0], .bool false]) ?_ rfl ?_
        · simp [results, Tryz.results33, go_sem]
          go_simp
        · exact ⟨none, 0, 0, by rw [HNO.out] <;> rfl, by rw [HZN.out]; exact (ris_nil0 _ _ _).wide (by simp; omega) (Nat.le_refl _), hB3.setCell (p := ⟨w.heap.size + 1 + 1, 0, none⟩) (by dsimp only; omega) _⟩
      · have hpre : btwPre g g2 = true := by rw [HP.out, HV1.out, HV2.out, hv]; rfl
        have HOK := Lib.hid (HLEN.out hpre)
        have hc0 : cmpL g.vs g2.vs = 0 := HCZ.out.2 (by rw [HEB.out] at hv; simpa using hv)
        have HC0 := Lib.hid hc0
        rw [hc0]
        clear hpre hv hc0
        go_wp2_with fail
        go_loopw [7] (fun i wr => ∃ (k : Nat) (v : Value), k ≤ m ∧ i = .int .i64 k ∧ wr.ownsRow w3.heap.size 92 5 v (accB false g.es g2.es k).length (cgcs (accB false g.es g2.es k)) ∧ Blk wr (w.heap.size + 1 + 1 + 1) 47 #[v] ∧ Tch (w.heap.size + 1 + 1 + 1) (w.heap.size + 1 + 1 + 1 + 1) w3 wr) (fun i _ => m - (intOf i).toNat)
        case atStart => exact ⟨0, _, Nat.zero_le _, rfl, World.ownsRow_nil _ _ _ _, X3, Tch.refl _ _ _⟩
        case round =>
          obtain ⟨k, v, hk, rfl, hown, X, t⟩ := hrel
          have hzr := t.size
          have hbelr := below_tch hB3 t (by omega)
          have kAr := cell_tch t kA3 (.inl (by dsimp only; omega))
          have kBr := cell_tch t kB3 (.inl (by dsimp only; omega))
          have lAr := cell_tch t lA3 (.inl (by dsimp only; omega))
          have lBr := cell_tch t lB3 (.inl (by dsimp only; omega))
          have xB : wr.cell? ⟨w.heap.size + 1 + 1 + 1, 0, none⟩ = some v := by rw [X.cell]; rfl
          have xf := X.frozen 0
          by_cases hlt : k < m
          · obtain ⟨b, o, rfl, had, e, he, c0, c1, c2', c3⟩ := edge_at (h.edges.up hbelr).rd HLM.out hlt
            have HSX := Lib.hid (accB_succ false g2.es he)
            have hlen := accB_len false g.es g2.es k
            have q3 : Small ((accB false g.es g2.es k).length + 1) := small_of (by omega)
            have HC := Lib.hid (fun w' (hb : Below w.heap.size w w') => edge_cells (h.edges.up hb).rd he)
            obtain ⟨L, hL⟩ : ∃ L, accB false g.es g2.es k = L := ⟨_, rfl⟩
            have HL := Lib.hid hL
            rw [hL] at hown q3
            obtain ⟨B1, d1, rfl, _⟩ := own_form hown
            obtain ⟨e0, e1, e2, e3⟩ := e
            dsimp only at c0 c1 c2' c3
            have hlt' : (k : Int) < m := by omega
            have hk0 : (0 : Int) ≤ (k : Int) := by omega
            clear he hL hlen
            go_wp2_with fail
            have hbD : Below wr.heap.size wr wr.drew := (Below.refl _ _).drew
            have hBD := below_then hbelr hbD
            have tD := t.drew
            have XD : Blk wr.drew (w.heap.size + 1 + 1 + 1) 47 #[.slice B1 L.length d1] := X.drew
            have hoD := own_drew hown
            clear t X hown
            go_region_held3 (fun w' => w'.cell? ⟨w.heap.size + 1, 0, none⟩ = some (.slice A2 n2 c2) ∧ w'.cell? ⟨w.heap.size + 1, 1, none⟩ = some (.slice B2 m2 d2) ∧ w'.cell? ⟨w.heap.size, 1, none⟩ = some (.slice (some ⟨b, o, none⟩) m d) ∧ w'.cell? ⟨b, o + k * 4, none⟩ = some (.int .i64 e0) ∧ w'.cell? ⟨b, o + k * 4 + 1, none⟩ = some (.int .i64 e1) ∧ w'.cell? ⟨b, o + k * 4 + 2, none⟩ = some (.int .i64 e2) ∧ w'.cell? ⟨b, o + k * 4 + 3, none⟩ = some (.int .i64 e3)) (first | exact ⟨lAr, lBr, kBr, c0, c1, c2', c3⟩ | exact ⟨cell_keep hb6 lAr, cell_keep hb6 lBr, cell_keep hb6 kBr, cell_keep hb6 c0, cell_keep hb6 c1, cell_keep hb6 c2', cell_keep hb6 c3⟩) (first
              | (go_simp; go_at_call 78; refine (l6Has_any _ (h2.up hBD) HV2.out ⟨e0, e1, e2, e3⟩).mono ?_; rintro r w6 ⟨rfl, hb6d⟩; have hb6 := below_then hbD hb6d; have t6 := tD.below hb6d; have X6 := XD.below hb6d (by have := tD.size; omega); have ho6 := own_below hoD hb6d (Nat.le_refl _); (try dsimp only)))
            have hB6 := below_then hbelr hb6
            have l6 := cell_keep hb6 kBr
            have y0 := cell_keep hb6 c0
            have y1 := cell_keep hb6 c1
            have y2 := cell_keep hb6 c2'
            have y3 := cell_keep hb6 c3
            have x6B : w6.cell? ⟨w.heap.size + 1 + 1 + 1, 0, none⟩ = some (.slice B1 L.length d1) := by rw [X6.cell]; rfl
            have x6f := X6.frozen 0
            have hsx := HSX.out
            have hz6 : w3.heap.size ≤ w6.heap.size := t6.size
            clear kAr kBr lAr lBr xB xf c0 c1 c2' c3 hbD hBD tD XD hoD hb6d hb6 hbelr
            cases hh : hasB g2.es ⟨e0, e1, e2, e3⟩
            · have HS := Lib.hid (show accB false g.es g2.es (k + 1) = L ++ [Cg.mk false ⟨e0, e1, e2, e3⟩] by rw [hsx, hh, ← HL.out]; simp)
              have h14 := cgcs_one [Cg.mk false ⟨e0, e1, e2, e3⟩]
              have hz6a : w.heap.size + 1 + 1 + 1 < w6.heap.size := by omega
              clear hsx hh
              go_wp2_with fail
              have t6D := t6.drew
              have X6D : Blk w6.drew (w.heap.size + 1 + 1 + 1) 47 #[.slice B1 L.length d1] := X6.drew
              have ho6D := own_drew ho6
              have x6BA := cell_al (.cells #[.bool false, .int .i64 e0, .int .i64 e1, .int .i64 e2, .int .i64 e3] 92) (w := w6) x6B
              have ho6a := ho6D.alloc (.cells #[.bool false, .int .i64 e0, .int .i64 e1, .int .i64 e2, .int .i64 e3] 92)
              have t6a := t6D.alloc (.cells #[.bool false, .int .i64 e0, .int .i64 e1, .int .i64 e2, .int .i64 e3] 92)
              have X6a := X6D.alloc (.cells #[.bool false, .int .i64 e0, .int .i64 e1, .int .i64 e2, .int .i64 e3] 92)
              have hr6 := reads_new (w := w6.drew) (e := 92) (size := 5) (m := 1) #[.bool false, .int .i64 e0, .int .i64 e1, .int .i64 e2, .int .i64 e3] rfl
              have hle6 := t6a.size
              clear t6 X6 ho6
              go_region_law (refine ap_step _ app_change (by decide) w3.heap.size (.tmp 43) (.tmp 50) rfl rfl _ _ _ rfl ho6a _ _ 1 1 _ rfl hr6 h14 q3 hle6 ?_; intro v7 w7 hown7 hg7 hat7; clear hat7; have t7 := t6a.grown ho6a (Nat.le_refl _) hg7; have X7 := X6a.grown hg7 (fun hq => by have := (ownBlock_some ho6a hq.symm).1; omega); have x7B : w7.cell? ⟨w.heap.size + 1 + 1 + 1, 0, none⟩ = some (.slice B1 L.length d1) := (by rw [X7.cell]; rfl); have x7f := X7.frozen 0; replace hown7 := own_snoc_cg1 (Cg.mk false ⟨e0, e1, e2, e3⟩) rfl hown7; obtain ⟨B7, d7, rfl, _⟩ := own_form hown7)
              all_goals
                have X8 := X7.set_ 0 (.slice B7 (L.length + 1) d7)
                have t8 := t7.setCell (p := ⟨w.heap.size + 1 + 1 + 1, 0, none⟩) (Nat.le_refl _) (Nat.lt_succ_self _) (.slice B7 (L.length + 1) d7)
                have ho8 := ownsRow_setCell_below hown7 (a := ⟨w.heap.size + 1 + 1 + 1, 0, none⟩) (by dsimp only; omega) (.slice B7 (L.length + 1) d7)
                clear X7 t7 hown7 hg7 ho6a X6a t6a hr6 x7B x7f
                go_wp2
                go_roundw
                case rel => exact ⟨k + 1, _, by omega, by go_num, by rw [HS.out, List.length_append]; exact ho8, X8, t8⟩
                case measure => simp [intOf]; omega
            · have HS := Lib.hid (show accB false g.es g2.es (k + 1) = L by rw [hsx, hh, ← HL.out]; simp)
              clear hsx hh
              go_wp2
              go_roundw
              case rel => exact ⟨k + 1, _, by omega, by go_num, by rw [HS.out]; exact ho6, X6, t6⟩
              case measure => simp [intOf]; omega
          · obtain rfl : k = m := by omega
            obtain ⟨L1, hL1⟩ : ∃ L, accB false g.es g2.es k = L := ⟨_, rfl⟩
            have hl1 : L1.length ≤ k := by rw [← hL1]; exact accB_len _ _ _ _
            rw [hL1] at hown
            have HL1 := Lib.hid hL1
            clear hL1 xB xf hbelr
            go_wp2_with fail
            clear kAr kBr lAr lBr
            go_loopw [8] (fun i wr => ∃ (j : Nat) (v : Value), j ≤ m2 ∧ i = .int .i64 j ∧ wr.ownsRow w3.heap.size 92 5 v (L1 ++ accB true g2.es g.es j).length (cgcs (L1 ++ accB true g2.es g.es j)) ∧ Blk wr (w.heap.size + 1 + 1 + 1) 47 #[v] ∧ Tch (w.heap.size + 1 + 1 + 1) (w.heap.size + 1 + 1 + 1 + 1) w3 wr) (fun i _ => m2 - (intOf i).toNat)
            case atStart => exact ⟨0, _, Nat.zero_le _, rfl, by simpa [accB] using hown, X, t⟩
            case round =>
              obtain ⟨j, v, hk2, rfl, hown, X, t⟩ := hrel
              have hzr := t.size
              have hbelr := below_tch hB3 t (by omega)
              have kAr := cell_tch t kA3 (.inl (by dsimp only; omega))
              have kBr := cell_tch t kB3 (.inl (by dsimp only; omega))
              have lAr := cell_tch t lA3 (.inl (by dsimp only; omega))
              have lBr := cell_tch t lB3 (.inl (by dsimp only; omega))
              have xB : wr.cell? ⟨w.heap.size + 1 + 1 + 1, 0, none⟩ = some v := by rw [X.cell]; rfl
              have xf := X.frozen 0
              by_cases hlt : j < m2
              · obtain ⟨b, o, rfl, had, e, he, c0, c1, c2', c3⟩ := edge_at (h2.edges.up hbelr).rd HLM2.out hlt
                have HSX := Lib.hid (accB_succ true g.es he)
                have hlen := accB_len true g2.es g.es j
                have q3 : Small ((L1 ++ accB true g2.es g.es j).length + 1) := small_of (by rw [List.length_append]; omega)
                have HC := Lib.hid (fun w' (hb : Below w.heap.size w w') => edge_cells (h2.edges.up hb).rd he)
                obtain ⟨L, hL⟩ : ∃ L, L1 ++ accB true g2.es g.es j = L := ⟨_, rfl⟩
                have HL := Lib.hid hL
                rw [hL] at hown q3
                obtain ⟨B1, d1, rfl, _⟩ := own_form hown
                obtain ⟨e0, e1, e2, e3⟩ := e
                dsimp only at c0 c1 c2' c3
                have hlt' : (j : Int) < m2 := by omega
                have hk0 : (0 : Int) ≤ (j : Int) := by omega
                clear he hL hlen
                go_wp2_with fail
                have hbD : Below wr.heap.size wr wr.drew := (Below.refl _ _).drew
                have hBD := below_then hbelr hbD
                have tD := t.drew
                have XD : Blk wr.drew (w.heap.size + 1 + 1 + 1) 47 #[.slice B1 L.length d1] := X.drew
                have hoD := own_drew hown
                clear t X hown
                go_region_held3 (fun w' => w'.cell? ⟨w.heap.size, 0, none⟩ = some (.slice A n c) ∧ w'.cell? ⟨w.heap.size, 1, none⟩ = some (.slice B k d) ∧ w'.cell? ⟨w.heap.size + 1, 1, none⟩ = some (.slice (some ⟨b, o, none⟩) m2 d2) ∧ w'.cell? ⟨b, o + j * 4, none⟩ = some (.int .i64 e0) ∧ w'.cell? ⟨b, o + j * 4 + 1, none⟩ = some (.int .i64 e1) ∧ w'.cell? ⟨b, o + j * 4 + 2, none⟩ = some (.int .i64 e2) ∧ w'.cell? ⟨b, o + j * 4 + 3, none⟩ = some (.int .i64 e3)) (first | exact ⟨kAr, kBr, lBr, c0, c1, c2', c3⟩ | exact ⟨cell_keep hb6 kAr, cell_keep hb6 kBr, cell_keep hb6 lBr, cell_keep hb6 c0, cell_keep hb6 c1, cell_keep hb6 c2', cell_keep hb6 c3⟩) (first
                  | (go_simp; go_at_call 78; refine (l6Has_any _ (h.up hBD) HV1.out ⟨e0, e1, e2, e3⟩).mono ?_; rintro r w6 ⟨rfl, hb6d⟩; have hb6 := below_then hbD hb6d; have t6 := tD.below hb6d; have X6 := XD.below hb6d (by have := tD.size; omega); have ho6 := own_below hoD hb6d (Nat.le_refl _); (try dsimp only)))
                have hB6 := below_then hbelr hb6
                have l6 := cell_keep hb6 lBr
                have y0 := cell_keep hb6 c0
                have y1 := cell_keep hb6 c1
                have y2 := cell_keep hb6 c2'
                have y3 := cell_keep hb6 c3
                have x6B : w6.cell? ⟨w.heap.size + 1 + 1 + 1, 0, none⟩ = some (.slice B1 L.length d1) := by rw [X6.cell]; rfl
                have x6f := X6.frozen 0
                have hsx := HSX.out
                have hz6 : w3.heap.size ≤ w6.heap.size := t6.size
                clear kAr kBr lAr lBr xB xf c0 c1 c2' c3 hbD hBD tD XD hoD hb6d hb6 hbelr
                cases hh : hasB g.es ⟨e0, e1, e2, e3⟩
                · have HS := Lib.hid (show L1 ++ accB true g2.es g.es (j + 1) = L ++ [Cg.mk true ⟨e0, e1, e2, e3⟩] by rw [hsx, hh, ← HL.out]; simp)
                  have h14 := cgcs_one [Cg.mk true ⟨e0, e1, e2, e3⟩]
                  have hz6a : w.heap.size + 1 + 1 + 1 < w6.heap.size := by omega
                  clear hsx hh
                  go_wp2_with fail
                  have t6D := t6.drew
                  have X6D : Blk w6.drew (w.heap.size + 1 + 1 + 1) 47 #[.slice B1 L.length d1] := X6.drew
                  have ho6D := own_drew ho6
                  have x6BA := cell_al (.cells #[.bool true, .int .i64 e0, .int .i64 e1, .int .i64 e2, .int .i64 e3] 92) (w := w6) x6B
                  have ho6a := ho6D.alloc (.cells #[.bool true, .int .i64 e0, .int .i64 e1, .int .i64 e2, .int .i64 e3] 92)
                  have t6a := t6D.alloc (.cells #[.bool true, .int .i64 e0, .int .i64 e1, .int .i64 e2, .int .i64 e3] 92)
                  have X6a := X6D.alloc (.cells #[.bool true, .int .i64 e0, .int .i64 e1, .int .i64 e2, .int .i64 e3] 92)
                  have hr6 := reads_new (w := w6.drew) (e := 92) (size := 5) (m := 1) #[.bool true, .int .i64 e0, .int .i64 e1, .int .i64 e2, .int .i64 e3] rfl
                  have hle6 := t6a.size
                  clear t6 X6 ho6
                  go_region_law (refine ap_step _ app_change (by decide) w3.heap.size (.tmp 69) (.tmp 76) rfl rfl _ _ _ rfl ho6a _ _ 1 1 _ rfl hr6 h14 q3 hle6 ?_; intro v7 w7 hown7 hg7 hat7; clear hat7; have t7 := t6a.grown ho6a (Nat.le_refl _) hg7; have X7 := X6a.grown hg7 (fun hq => by have := (ownBlock_some ho6a hq.symm).1; omega); have x7B : w7.cell? ⟨w.heap.size + 1 + 1 + 1, 0, none⟩ = some (.slice B1 L.length d1) := (by rw [X7.cell]; rfl); have x7f := X7.frozen 0; replace hown7 := own_snoc_cg1 (Cg.mk true ⟨e0, e1, e2, e3⟩) rfl hown7; obtain ⟨B7, d7, rfl, _⟩ := own_form hown7)
                  all_goals
                    have X8 := X7.set_ 0 (.slice B7 (L.length + 1) d7)
                    have t8 := t7.setCell (p := ⟨w.heap.size + 1 + 1 + 1, 0, none⟩) (Nat.le_refl _) (Nat.lt_succ_self _) (.slice B7 (L.length + 1) d7)
                    have ho8 := ownsRow_setCell_below hown7 (a := ⟨w.heap.size + 1 + 1 + 1, 0, none⟩) (by dsimp only; omega) (.slice B7 (L.length + 1) d7)
                    clear X7 t7 hown7 hg7 ho6a X6a t6a hr6 x7B x7f
                    go_wp2
                    go_roundw
                    case rel => exact ⟨j + 1, _, by omega, by go_num, by rw [HS.out, List.length_append]; exact ho8, X8, t8⟩
                    case measure => simp [intOf]; omega
                · have HS := Lib.hid (show L1 ++ accB true g2.es g.es (j + 1) = L by rw [hsx, hh, ← HL.out]; simp)
                  clear hsx hh
                  go_wp2
                  go_roundw
                  case rel => exact ⟨j + 1, _, by omega, by go_num, by rw [HS.out]; exact ho6, X6, t6⟩
                  case measure => simp [intOf]; omega
              · obtain rfl : j = m2 := by omega
                have hll2 : btwL g g2 = L1 ++ accB true g2.es g.es j := by rw [HLL.out, HL1.out]
                have hok := HOK.out
                rw [hll2] at hok
                have hbd := accB_len true g2.es g.es j
                obtain ⟨L2, hL2⟩ : ∃ L, L1 ++ accB true g2.es g.es j = L := ⟨_, rfl⟩
                have hl2 : L2.length ≤ 4000000 := by rw [← hL2, List.length_append]; omega
                rw [hL2] at hown hok hll2
                obtain ⟨B1, d1, rfl, _⟩ := own_form hown
                have r0r := cell_tch t r03 (.inl (by dsimp only; omega))
                have f0r := t.frz r03 f03 (.inl (by dsimp only; omega))
                have HLL2 := Lib.hid hll2
                have HOK2 := Lib.hid hok
                clear hll2 hok hbd hL2 r03 f03
                by_cases h6 : L2.length ≤ 6
                · have hyes : btwOk g g2 = true := by rw [HOK2.out]; simpa using h6
                  have HYES := Lib.hid hyes
                  have HZY := Lib.hid (show btwZ g g2 = L2 by rw [HY.out hyes, HLL2.out])
                  have O2 := (RIs.of hown (by omega)).setB (p := ⟨w.heap.size + 1 + 1, 0, none⟩) (by dsimp only; omega) (.slice B1 L2.length d1)
                  have hB6 := hbelr.setCell (p := ⟨w.heap.size + 1 + 1, 0, none⟩) (by dsimp only; omega) (.slice B1 L2.length d1)
                  clear hyes t
                  go_wp2
                  refine bodyPost_ret (v := .tuple #[.agg #[.slice B1 L2.length d1], .bool true]) ?_ rfl ?_
                  · simp [results, Tryz.results33, go_sem]
                    go_simp
                  · exact ⟨_, _, _, by rw [HYES.out] <;> rfl, by rw [HZY.out]; exact O2.wide (by omega) (by simp), hB6⟩
                · have hno : btwOk g g2 = false := by rw [HOK2.out]; simpa using h6
                  have HNO := Lib.hid hno
                  have HZN := Lib.hid (HN.out hno)
                  have h6' : (6 : Int) < L2.length := by omega
                  clear hno t
                  go_wp2
                  refine bodyPost_ret (v := .tuple #[.agg #[.slice none 0 0], .bool false]) ?_ rfl ?_
                  · simp [results, Tryz.results33, go_sem]
                    go_simp
                  · exact ⟨none, 0, 0, by rw [HNO.out] <;> rfl, by rw [HZN.out]; exact (ris_nil0 _ _ _).wide (by simp; omega) (Nat.le_refl _), hbelr.setCell (p := ⟨w.heap.size + 1 + 1, 0, none⟩) (by dsimp only; omega) _⟩
end Go.Proofs.YtomkgnamjfiocaaGreatDoor
