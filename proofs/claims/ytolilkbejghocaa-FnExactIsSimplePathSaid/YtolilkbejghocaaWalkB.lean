/- l5Nodes of the reference. -/
import Derived.Test.YtolilkbejghocaaWalkA
namespace Go.Proofs.Ytolilkbejghocaa
open Go.RowKit Go.ChangeShapes Go.WideShapes Go.ChangeAt Go.Deep
set_option linter.unusedVariables false
theorem ris_made (w : World) (e : TypeId) (size : Nat) : RIs (w.alloc (.cells #[] e)) w.heap.size (w.alloc (.cells #[] e)).heap.size e size (some ⟨w.heap.size, 0, none⟩) 0 0 [] := RIs.of (own_made e size (Nat.le_refl _)) (by omega)
set_option maxRecDepth 4000 in
set_option maxHeartbeats 2000000 in
theorem l5Nodes_is (w : World) {A B C : Option Addr} {n c m d q e : Nat} {g : G} (h : GRd w A n B m g) (s : Int) {l : List St} (h' : SRd w C q l) :
    Calls Try.prog 104 #[.agg #[.slice A n c, .slice B m d], .agg #[.int .i64 s, .slice C q e]] w fun r w' => ∃ A2 n2 c2, r = .returned (.tuple #[.slice A2 n2 c2, .bool (walkOk g s l)]) ∧ RIs w' w.heap.size w'.heap.size 3 1 A2 n2 c2 ((nodesZ g s l).map iv) ∧ Below w.heap.size w w' := by
  have hn := h.bn
  have hq := h'.bd
  have HLQ := Lib.hid h'.ln
  have HLN := Lib.hid h.gr.ln
  have hB0 : Below w.heap.size w ((w.alloc (.cells #[.slice A n c, .slice B m d] 53)).alloc (.cells #[.int .i64 s, .slice C q e] 76)) := ((Below.refl _ _).alloc (Nat.le_refl _) _).alloc (by simp) _
  have kA : ((w.alloc (.cells #[.slice A n c, .slice B m d] 53)).alloc (.cells #[.int .i64 s, .slice C q e] 76)).cell? ⟨w.heap.size, 0, none⟩ = some (.slice A n c) := by go_simp
  have kB : ((w.alloc (.cells #[.slice A n c, .slice B m d] 53)).alloc (.cells #[.int .i64 s, .slice C q e] 76)).cell? ⟨w.heap.size, 1, none⟩ = some (.slice B m d) := by go_simp
  have kS : ((w.alloc (.cells #[.slice A n c, .slice B m d] 53)).alloc (.cells #[.int .i64 s, .slice C q e] 76)).cell? ⟨w.heap.size + 1, 0, none⟩ = some (.int .i64 s) := by go_simp
  have kC : ((w.alloc (.cells #[.slice A n c, .slice B m d] 53)).alloc (.cells #[.int .i64 s, .slice C q e] 76)).cell? ⟨w.heap.size + 1, 1, none⟩ = some (.slice C q e) := by go_simp
  have hz0 : w.heap.size + 1 < ((w.alloc (.cells #[.slice A n c, .slice B m d] 53)).alloc (.cells #[.int .i64 s, .slice C q e] 76)).heap.size := by simp
  go_enter Try.func104, Try.ntmps104
  go_wp2_with fail
  generalize ((w.alloc (.cells #[.slice A n c, .slice B m d] 53)).alloc (.cells #[.int .i64 s, .slice C q e] 76)) = w0 at *
  refine (specValid_rd _ (h.up hB0)).mono ?_
  rintro r w1 ⟨rfl, hb1⟩
  have hB1 := below_then hB0 hb1
  have kA1 := cell_keep hb1 kA
  have kB1 := cell_keep hb1 kB
  have kS1 := cell_keep hb1 kS
  have kC1 := cell_keep hb1 kC
  have hz1 : w.heap.size + 1 < w1.heap.size := Nat.lt_of_lt_of_le hz0 hb1.size
  clear kA kB kS kC hb1
  have hcase : walkOk g s l = false ∧ (validG g = false ∨ (validG g = true ∧ inB s 0 ((n : Int) - 1) = false) ∨ (validG g = true ∧ inB s 0 ((n : Int) - 1) = true ∧ 60 < q)) ∨ (validG g = true ∧ inB s 0 ((n : Int) - 1) = true ∧ q ≤ 60) := by
    have h1 := HLN.out
    have h2 := HLQ.out
    cases hv : validG g
    · exact .inl ⟨walkOk_1 hv, .inl rfl⟩
    · cases hi : inB s 0 ((n : Int) - 1)
      · exact .inl ⟨walkOk_2 (by rw [h1]; exact hi), .inr (.inl ⟨rfl, rfl⟩)⟩
      · rcases Nat.lt_or_ge 60 q with h3 | h3
        · exact .inl ⟨walkOk_3 (by omega), .inr (.inr ⟨rfl, rfl, h3⟩)⟩
        · exact .inr ⟨rfl, rfl, h3⟩
  rcases hcase with ⟨hno, hw⟩ | ⟨hv, hi, hq60⟩
  · have HNO := Lib.hid hno
    have HZ := Lib.hid (nodesZ_no hno)
    clear hno
    rcases hw with hv | ⟨hv, hi⟩ | ⟨hv, hi, hj⟩
    · rw [hv]
      clear hv
      go_wp2
      go_ret2
      exact ⟨_, _, _, by rw [HNO.out] <;> rfl, by rw [HZ.out]; exact (ris_made _ _ _).wide hB1.size (Nat.le_refl _), hB1.alloc hB1.size _⟩
    · rw [hv]
      have HI := Lib.hid hi
      clear hv hi
      go_wp2_with (go_at_call 83; refine (l1In_any _ _ _ _).mono ?_; rw [HI.out]; rintro e w' ⟨rfl, rfl⟩)
      go_ret2
      exact ⟨_, _, _, by rw [HNO.out] <;> rfl, by rw [HZ.out]; exact (ris_made _ _ _).wide hB1.size (Nat.le_refl _), hB1.alloc hB1.size _⟩
    · rw [hv]
      have HI := Lib.hid hi
      clear hv hi
      go_wp2_with (go_at_call 83; refine (l1In_any _ _ _ _).mono ?_; rw [HI.out]; rintro e w' ⟨rfl, rfl⟩)
      go_ret2
      exact ⟨_, _, _, by rw [HNO.out] <;> rfl, by rw [HZ.out]; exact (ris_made _ _ _).wide hB1.size (Nat.le_refl _), hB1.alloc hB1.size _⟩
  · have HW1 := Lib.hid (fun hk => walkOk_5 (g := g) (s := s) (l := l) hv (by rw [HLN.out]; exact hi) (by rw [HLQ.out]; exact hq60) hk)
    have hs0 : 0 ≤ s := (inB_true.1 hi).1
    have HV := Lib.hid hv
    rw [hv]
    have HI := Lib.hid hi
    have ho1 : (w1.alloc (.cells #[.int .i64 s] 3)).ownsRow w1.heap.size 3 1 (.slice (some ⟨w1.heap.size, 0, none⟩) 1 1) 1 ([s].map iv) := World.ownsRow_lit _ #[.int .i64 s] 1 (Nat.le_refl _) (by simp [maxLen]) rfl
    have hb2 : Below w1.heap.size w1 (w1.alloc (.cells #[.int .i64 s] 3)) := (Below.refl _ _).alloc (Nat.le_refl _) _
    clear hv hi
    go_wp2_with (go_at_call 83; refine (l1In_any _ _ _ _).mono ?_; rw [HI.out]; rintro e w' ⟨rfl, rfl⟩)
    go_loopw [6, 7] (fun v i wr => ∃ (k : Nat) (a : Int), k ≤ q ∧ i = .int .i64 k ∧ wr.ownsRow w1.heap.size 3 1 v (k + 1) ((nodesUp g s l k).map iv) ∧ okUp g s l k = true ∧ (nodesUp g s l k)[k]? = some a ∧ 0 ≤ a ∧ Below w1.heap.size w1 wr) (fun _ i _ => q - (intOf i).toNat)
    case atStart => exact ⟨0, s, Nat.zero_le _, rfl, ho1, rfl, rfl, hs0, hb2⟩
    case round =>
      obtain ⟨k, a, hk, rfl, hown, hok, hlast, ha0, t⟩ := hrel
      have HOK := Lib.hid hok
      have HLA := Lib.hid hlast
      have hBr := below_then hB1 t
      have kAr := cell_keep t kA1
      have kBr := cell_keep t kB1
      have kCr := cell_keep t kC1
      clear hok
      by_cases hlt : k < q
      · obtain ⟨b, o, rfl, had, x, hx, c0, c1⟩ := step_at (h'.up hBr).rd HLQ.out hlt
        have HSX := Lib.hid (okUp_succ hx hlast)
        have HNX := Lib.hid (nodesUp_succ (g := g) (s := s) hx)
        have HST := Lib.hid (fun hq => stTo_nonneg (g := g) (x := x) (a := a) hq ha0)
        have HKQ := Lib.hid (fun hf => walkOk_4 (g := g) (s := s) (l := l) (k := k) hf (by rw [HLQ.out]; omega))
        have HSC := Lib.hid (fun w' (hb : Below w.heap.size w w') => step_cells (h'.up hb).rd hx)
        obtain ⟨b1, d1, rfl, hb1a, hb1b⟩ := own_block hown
        have hcl : wr.cell? ⟨b1, k, none⟩ = some (.int .i64 a) := by rw [hown.cellAt k (by omega), List.getElem?_map, hlast]; rfl
        have q3 : Small (k + 1 + 1) := small_of (by omega)
        clear hx hlast
        obtain ⟨xe, xi⟩ := x
        dsimp only at c0 c1
        have hlt' : (k : Int) < q := by omega
        have hk1 : (0 : Int) ≤ (k : Int) := by omega
        go_wp2_with fail
        have hbD : Below wr.heap.size wr wr.drew := (Below.refl _ _).drew
        have tD := below_then t hbD
        have hBD := below_then hB1 tD
        go_region_held3 (fun w' => w'.cell? ⟨w.heap.size, 0, none⟩ = some (.slice A n c) ∧ w'.cell? ⟨w.heap.size, 1, none⟩ = some (.slice B m d) ∧ w'.cell? ⟨w.heap.size + 1, 1, none⟩ = some (.slice (some ⟨b, o, none⟩) q e) ∧ w'.cell? ⟨b, o + k * 2, none⟩ = some (.int .i64 xe)) (first | exact ⟨kAr, kBr, kCr, c0⟩ | exact ⟨kA4, kB4, kC4, c04⟩) (first
          | (go_simp; go_at_call 89; refine (specEdgeIx_rd _ (h.up hBD) xe).mono ?_; rintro r w4 ⟨rfl, hb4d⟩; have hb4 := below_then hbD hb4d; have kA4 := cell_keep hb4 kAr; have kB4 := cell_keep hb4 kBr; have kC4 := cell_keep hb4 kCr; have c04 := cell_keep hb4 c0; dsimp only))
        have c14 := cell_keep hb4 c1
        have hcl4 := cell_keep hb4 hcl
        have ho4 := own_below hown hb4 (Nat.le_refl _)
        have t4 := below_then t hb4
        have hB4 := below_then hB1 t4
        clear hown hcl kAr kBr kCr c0 c1 hb4d hbD tD hBD
        by_cases hix : ixN g.es xe < g.es.length
        rotate_left
        · have hE : ixE g.es xe = -1 := by unfold ixE; rw [if_neg hix]
          have hS : stFrom g ⟨xe, xi⟩ = -1 := by unfold stFrom; rw [stE_no1 (s := ⟨xe, xi⟩) hix]; rfl
          have hsx := HSX.out
          rw [hS] at hsx
          have hf := HKQ.out (by rw [hsx]; have : (-1 == a) = false := by simp; omega
                                 rw [this]; simp)
          have HNO := Lib.hid hf
          have HZ := Lib.hid (nodesZ_no hf)
          rw [hE]
          clear hf hsx hS hE hix HKQ
          go_wp2
          go_ret2
          exact ⟨_, _, _, by rw [HNO.out] <;> rfl, by rw [HZ.out]; exact (ris_made _ _ _).wide hB4.size (Nat.le_refl _), hB4.alloc hB4.size _⟩
        · have hE : ixE g.es xe = (ixN g.es xe : Int) := by unfold ixE; rw [if_pos hix]
          rw [hE]
          obtain ⟨j, hj⟩ : ∃ j, ixN g.es xe = j := ⟨_, rfl⟩
          obtain ⟨y, hy⟩ : ∃ y, g.es[ixN g.es xe]? = some y := ⟨_, List.getElem?_eq_getElem hix⟩
          have hSE : stE g ⟨xe, xi⟩ = (y, true) := stE_yes HV.out hy
          rw [hj] at hix hy ⊢
          have hjm : j < m := by have := h.gr.lm; omega
          have hjm' : (j : Int) < m := by omega
          have hj0 : (0 : Int) ≤ (j : Int) := by omega
          obtain ⟨b9, o9, rfl, had9, y2, hy2, d0, d1', d2, d3⟩ := edge_at (h.up hB4).gr.re h.gr.lm hjm
          obtain rfl : y = y2 := by rw [hy] at hy2; simpa using hy2
          have hF : stFrom g ⟨xe, xi⟩ = if xi then y.to else y.fr := by unfold stFrom; rw [hSE]; rfl
          have hT : stTo g ⟨xe, xi⟩ = if xi then y.fr else y.to := by
            have hE2 : stE g ⟨xe, !xi⟩ = stE g ⟨xe, xi⟩ := rfl
            unfold stTo stFrom
            rw [hE2, hSE]
            cases xi <;> rfl
          have HF := Lib.hid hF
          have HT := Lib.hid hT
          have hsx := HSX.out
          have hst := HST.out
          clear hE hj hy hy2 hSE hF hT HSX HST d0 d3 hix
          cases xi
          · have hFF := HF.out
            have hTT := HT.out
            rw [if_neg Bool.false_ne_true] at hFF hTT
            rw [hFF] at hsx hst
            have HTT := Lib.hid hTT
            clear hFF hTT HF HT
            by_cases hza : y.fr = a
            · have hne : (y.fr != a) = false := by simp [hza]
              obtain ⟨_, hy0⟩ := hst hza
              rw [HTT.out] at hy0
              have HOK2 := Lib.hid (show okUp g s l (k + 1) = true by rw [hsx, HOK.out, hza]; simp)
              have hnx := HNX.out
              rw [HTT.out] at hnx
              have HNX2 := Lib.hid hnx
              have HLY := Lib.hid (show (nodesUp g s l (k + 1))[k + 1]? = some (y.to) by rw [hnx, List.getElem?_append_right (by rw [nodesUp_len (by rw [HLQ.out]; omega)]; omega), nodesUp_len (by rw [HLQ.out]; omega)]; simp)
              have h15 := iv_one [y.to]
              have hz4 := t4.size
              clear hnx hsx hst HKQ HNX hza
              go_wp2_with (at_builtin; refine ap_plain _ app_int (by decide) w1.heap.size (.tmp 91) (.tmp 93) rfl rfl _ _ _ rfl (ho4.alloc _) _ _ 1 1 _ rfl (reads_new _ rfl) h15 q3 (Nat.le_trans hz4 (by simp)) ?_; intro v6 w6 hown6 hg6 hat6; have t6 := below_grown_own (t4.alloc hz4 _) (ho4.alloc _) hg6 (Nat.le_refl _) (Nat.le_trans hz4 (by simp)); replace hown6 := own_snoc_int (y.to) rfl hown6; clear hg6 hat6)
              go_roundw
              case rel => exact ⟨k + 1, y.to, by omega, by go_num, by rw [HNX2.out]; exact hown6, HOK2.out, HLY.out, hy0, t6⟩
              case measure => simp [intOf]; omega
            · have hne : (y.fr != a) = true := by simpa using hza
              have hf := HKQ.out (by rw [hsx]; simp [hza])
              have HNO := Lib.hid hf
              have HZ := Lib.hid (nodesZ_no hf)
              clear hf hza hsx hst HKQ
              go_wp2
              go_ret2
              exact ⟨_, _, _, by rw [HNO.out] <;> rfl, by rw [HZ.out]; exact (ris_made _ _ _).wide hB4.size (Nat.le_refl _), hB4.alloc hB4.size _⟩
          · have hFF := HF.out
            have hTT := HT.out
            rw [if_pos rfl] at hFF hTT
            rw [hFF] at hsx hst
            have HTT := Lib.hid hTT
            clear hFF hTT HF HT
            by_cases hza : y.to = a
            · have hne : (y.to != a) = false := by simp [hza]
              obtain ⟨_, hy0⟩ := hst hza
              rw [HTT.out] at hy0
              have HOK2 := Lib.hid (show okUp g s l (k + 1) = true by rw [hsx, HOK.out, hza]; simp)
              have hnx := HNX.out
              rw [HTT.out] at hnx
              have HNX2 := Lib.hid hnx
              have HLY := Lib.hid (show (nodesUp g s l (k + 1))[k + 1]? = some (y.fr) by rw [hnx, List.getElem?_append_right (by rw [nodesUp_len (by rw [HLQ.out]; omega)]; omega), nodesUp_len (by rw [HLQ.out]; omega)]; simp)
              have h15 := iv_one [y.fr]
              have hz4 := t4.size
              clear hnx hsx hst HKQ HNX hza
              go_wp2_with (at_builtin; refine ap_plain _ app_int (by decide) w1.heap.size (.tmp 91) (.tmp 93) rfl rfl _ _ _ rfl (ho4.alloc _) _ _ 1 1 _ rfl (reads_new _ rfl) h15 q3 (Nat.le_trans hz4 (by simp)) ?_; intro v6 w6 hown6 hg6 hat6; have t6 := below_grown_own (t4.alloc hz4 _) (ho4.alloc _) hg6 (Nat.le_refl _) (Nat.le_trans hz4 (by simp)); replace hown6 := own_snoc_int (y.fr) rfl hown6; clear hg6 hat6)
              go_roundw
              case rel => exact ⟨k + 1, y.fr, by omega, by go_num, by rw [HNX2.out]; exact hown6, HOK2.out, HLY.out, hy0, t6⟩
              case measure => simp [intOf]; omega
            · have hne : (y.to != a) = true := by simpa using hza
              have hf := HKQ.out (by rw [hsx]; simp [hza])
              have HNO := Lib.hid hf
              have HZ := Lib.hid (nodesZ_no hf)
              clear hf hza hsx hst HKQ
              go_wp2
              go_ret2
              exact ⟨_, _, _, by rw [HNO.out] <;> rfl, by rw [HZ.out]; exact (ris_made _ _ _).wide hB4.size (Nat.le_refl _), hB4.alloc hB4.size _⟩
      · obtain rfl : k = q := by omega
        have hyes := HW1.out (by rw [HLQ.out]; exact HOK.out)
        have HYES := Lib.hid hyes
        have hnz := nodesZ_yes hyes
        rw [HLQ.out] at hnz
        rw [← hnz] at hown
        obtain ⟨A5, c5, rfl, _⟩ := own_form hown
        have RO := (RIs.of hown (by omega)).wide hB1.size (Nat.le_refl _)
        clear hyes hnz hlast
        go_wp2
        go_ret2
        exact ⟨_, _, _, by rw [HYES.out] <;> rfl, RO, hBr⟩
end Go.Proofs.Ytolilkbejghocaa
