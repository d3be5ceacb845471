/- NetBatch of the reference. (Printed by wip/net_s.py.) -/
import Derived.Test.YtolilkbejghocaaNet
namespace Go.Proofs.Ytolilkbejghocaa
open Go.RowKit Go.ChangeShapes Go.WideShapes Go.ChangeAt Go.Deep
set_option linter.unusedVariables false
set_option maxRecDepth 4000 in
set_option maxHeartbeats 8000000 in
theorem specNetBatch_is (w : World) {A : Option Addr} {n c : Nat} {l : List Cg} (h : CRd w A n l) :
    Calls Try.prog 15 #[.agg #[.slice A n c]] w fun e w' => ∃ A2 n2 c2, e = .returned (.agg #[.slice A2 n2 c2]) ∧ RIs w' w.heap.size w'.heap.size 103 5 A2 n2 c2 (cgcs (netB l)) ∧ Below w.heap.size w w' := by
  have hn := h.bd
  have HL := Lib.hid h.ln
  have hB0 : Below w.heap.size w (((w.alloc (.cells #[.slice A n c] 28)).alloc (.cells #[.slice none 0 0] 28)).alloc (.cells #[.slice none 0 0] 28)) := (((Below.refl _ _).alloc (Nat.le_refl _) _).alloc (by simp) _).alloc (by simp; omega) _
  have XB := ((Blk.new w 28 #[.slice A n c]).alloc (.cells #[.slice none 0 0] 28)).alloc (.cells #[.slice none 0 0] 28)
  have XR := (Blk.new (w.alloc (.cells #[.slice A n c] 28)) 28 #[.slice none 0 0]).alloc (.cells #[.slice none 0 0] 28)
  have XX := Blk.new ((w.alloc (.cells #[.slice A n c] 28)).alloc (.cells #[.slice none 0 0] 28)) 28 #[.slice none 0 0]
  simp only [World.size_alloc] at XR XX
  go_enter Try.func15, Try.ntmps15
  go_wp2
  generalize (((w.alloc (.cells #[.slice A n c] 28)).alloc (.cells #[.slice none 0 0] 28)).alloc (.cells #[.slice none 0 0] 28)) = w0 at *
  have hx0 := XX.lt
  go_loopw [4] (fun i wr => ∃ (q : Nat) (v : Value) (z : KeptB w0 (w.heap.size + 1 + 1)), wr = z.W ∧ q ≤ n ∧ i = .int .i64 q ∧ Blk z.W (w.heap.size + 1 + 1) 28 #[v] ∧ z.W.ownsRow w0.heap.size 103 5 v (netL l q).length (cgcs (netL l q))) (fun i _ => n - (intOf i).toNat)
  case atStart => exact ⟨0, _, ⟨w0, Tch.refl _ _ _⟩, rfl, Nat.zero_le _, rfl, XX, World.ownsRow_nil _ _ _ _⟩
  clear XX
  case round =>
    obtain ⟨q, v, z, rfl, hq, rfl, X, hown⟩ := hrel
    have hbz := z.up hB0 (by omega)
    have hzs := z.be.size
    have hlen := netL_len l q
    have XBz := z.blk XB (by omega)
    by_cases hlt : q < n
    · obtain ⟨b, o, rfl, had, ch, hch, c0, c1, c2, c3, c4⟩ := change_at h.rd HL.out hlt
      have y0 := Kept.cell (cell_keep hbz c0)
      have y1 := Kept.cell (cell_keep hbz c1)
      have y2 := Kept.cell (cell_keep hbz c2)
      have y3 := Kept.cell (cell_keep hbz c3)
      have y4 := Kept.cell (cell_keep hbz c4)
      have HS := Lib.hid (netL_succ hch)
      obtain ⟨L, hL⟩ : ∃ L, netL l q = L := ⟨_, rfl⟩
      rw [hL] at hown HS hlen
      obtain ⟨m, hm⟩ : ∃ m, L.length = m := ⟨_, rfl⟩
      rw [hm] at hown hlen
      have HM := Lib.hid hm
      obtain ⟨ci, ⟨e0, e1, e2, e3⟩⟩ := ch
      dsimp only at y0 y1 y2 y3 y4
      obtain ⟨B1, d1, rfl, hcap, _⟩ := own_form hown
      have kx := X.kc (v := .slice B1 m d1) 0 rfl
      have kxf := X.kf 0
      have kbx := XBz.kc (v := .slice (some ⟨b, o, none⟩) n c) 0 rfl
      have hlt' : (q : Int) < n := by omega
      have hk0 : (0 : Int) ≤ (q : Int) := by omega
      have CR := (RIs.of hown (by omega)).crd
      have HNA := Lib.hid (fun k => netAt_lt L ⟨ci, ⟨e0, e1, e2, e3⟩⟩ k)
      have kx' : z.W.cell? ⟨(w.heap.size + 1 + 1), 0, none⟩ = some (.slice B1 m d1) := by rw [X.cell]; rfl
      have kb' : z.W.cell? ⟨w.heap.size, 0, none⟩ = some (.slice (some ⟨b, o, none⟩) n c) := by rw [XBz.cell]; rfl
      clear hch c0 c1 c2 c3 c4 hm
      go_wp2
      clear kx' kb'
      go_loopw [6, 7] (fun a i wr => ∃ (p : Nat) (z2 : Kept z.W), wr = z2.W ∧ p ≤ m ∧ i = .int .i64 p ∧ a = .int .i64 (netAt L ⟨ci, ⟨e0, e1, e2, e3⟩⟩ p)) (fun _ i _ => m - (intOf i).toNat)
      case atStart => exact ⟨0, ⟨z.W, Below.refl _ _⟩, rfl, Nat.zero_le _, rfl, rfl⟩
      case round =>
        obtain ⟨p, z2, rfl, hp, rfl, hat⟩ := hrel
        by_cases hpl : p < m
        · subst hat
          obtain ⟨b2, o2, rfl, had2, yc, hyc, d0, d1', d2, d3, d4⟩ := change_at CR.rd HM.out hpl
          have u0 := Kept.cell d0
          have u1 := Kept.cell d1'
          have u2 := Kept.cell d2
          have u3 := Kept.cell d3
          have u4 := Kept.cell d4
          have hHIT := netAt_hit (c := ⟨ci, ⟨e0, e1, e2, e3⟩⟩) hyc
          have hMISS := netAt_miss (c := ⟨ci, ⟨e0, e1, e2, e3⟩⟩) hyc
          obtain ⟨yi, ye⟩ := yc
          have hEq := eqlE_run ye ⟨e0, e1, e2, e3⟩
          obtain ⟨t, ht⟩ : ∃ t, decide (ye = (⟨e0, e1, e2, e3⟩ : E)) = t := ⟨_, rfl⟩
          rw [ht] at hEq
          have HHIT := Lib.hid (fun (h1 : yi = !ci) (h2 : t = true) => hHIT (by rw [h1, of_decide_eq_true (ht.trans h2)]; rfl))
          have HMISS := Lib.hid (fun (h1 : yi = ci ∨ t = false) => hMISS (by
            intro he
            have e1' : yi = !ci := congrArg Cg.ins he
            have e2' : ye = ⟨e0, e1, e2, e3⟩ := congrArg Cg.e he
            rcases h1 with h1 | h1
            · rw [h1] at e1'
              cases ci <;> simp at e1'
            · rw [e2', decide_eq_true rfl, h1] at ht
              simp at ht))
          obtain ⟨f0, f1, f2, f3⟩ := ye
          dsimp only at u0 u1 u2 u3 u4 hEq
          have hpl' : (p : Int) < m := by omega
          have hp0 : (0 : Int) ≤ (p : Int) := by omega
          clear ht hHIT hMISS hyc d0 d1' d2 d3 d4
          cases t
          · go_wp2_with fail
            refine wp_region_k2 (by kernel_rfl) (by kernel_rfl) ?_
            repeat (go_big_quiet_step (fail))
            refine wpQuiet_nil ?_
            intro _ hw'
            obtain ⟨z3, rfl⟩ := hw'
            go_wp2
            go_roundw
            case rel => exact ⟨p + 1, z3, rfl, by omega, by go_num, by rw [HMISS.out (by simp)]⟩
            case measure => simp [intOf]; omega
          · have HV := Lib.hid (show netAt L ⟨ci, ⟨e0, e1, e2, e3⟩⟩ (p + 1) = if yi = ci then netAt L ⟨ci, ⟨e0, e1, e2, e3⟩⟩ p else (p : Int) by
              by_cases hyc : yi = ci
              · rw [if_pos hyc]
                exact HMISS.out (.inl hyc)
              · rw [if_neg hyc]
                exact HHIT.out (by cases yi <;> cases ci <;> simp_all) rfl)
            clear HHIT HMISS
            cases yi <;> cases ci
            all_goals
              go_wp2_with fail
              refine wp_region_k2 (by kernel_rfl) (by kernel_rfl) ?_
              repeat (go_big_quiet_step (fail))
              refine wpQuiet_nil ?_
              intro _ hw'
              obtain ⟨z3, rfl⟩ := hw'
              go_wp2
              go_roundw
              case rel => exact ⟨p + 1, z3, rfl, by omega, by go_num, by rw [HV.out] <;> rfl⟩
              case measure => simp [intOf]; omega
        · obtain rfl : p = m := by omega
          have hpl' : ¬ (p : Int) < p := by omega
          have o2 := own_below hown z2.be (Nat.le_refl _)
          have X2 := X.below z2.be X.lt
          have hz2s := z2.be.size
          have hbase : w0.heap.size ≤ z2.W.heap.size := by omega
          have TZ : Tch (w.heap.size + 1 + 1) ((w.heap.size + 1 + 1) + 1) w0 z2.W := z.be.below z2.be
          obtain ⟨zz, hzz⟩ : ∃ zz : KeptB w0 (w.heap.size + 1 + 1), zz.W = z2.W := ⟨⟨_, TZ⟩, rfl⟩
          have xo : z2.W.cell? ⟨(w.heap.size + 1 + 1), 0, none⟩ = some (.slice B1 p d1) := by rw [X2.cell]; rfl
          have hNA := HNA.out p
          rcases (show netAt L ⟨ci, ⟨e0, e1, e2, e3⟩⟩ p = -1 ∨ ∃ r : Nat, netAt L ⟨ci, ⟨e0, e1, e2, e3⟩⟩ p = (r : Int) by
            rcases (show netAt L ⟨ci, ⟨e0, e1, e2, e3⟩⟩ p = -1 ∨ 0 ≤ netAt L ⟨ci, ⟨e0, e1, e2, e3⟩⟩ p by omega) with h1 | h1
            · exact .inl h1
            · exact .inr ⟨(netAt L ⟨ci, ⟨e0, e1, e2, e3⟩⟩ p).toNat, by omega⟩) with hN | ⟨r, hN⟩
          · have HSN := Lib.hid (netStep_no (L := L) (c := ⟨ci, ⟨e0, e1, e2, e3⟩⟩) (by rw [HM.out]; exact hN))
            rw [hN] at hat
            subst hat
            have q3 : Small (p + 1) := small_of (by omega)
            clear hN hNA hzz
            go_wp2_with fail
            have tD := TZ.drew
            have XD : Blk z2.W.drew (w.heap.size + 1 + 1) 28 #[.slice B1 p d1] := X2.drew
            have oD := own_drew o2
            have xA := cell_al (.cells #[.bool ci, .int .i64 e0, .int .i64 e1, .int .i64 e2, .int .i64 e3] 103) (w := z2.W) xo
            have oa := oD.alloc (.cells #[.bool ci, .int .i64 e0, .int .i64 e1, .int .i64 e2, .int .i64 e3] 103)
            have ta := tD.alloc (.cells #[.bool ci, .int .i64 e0, .int .i64 e1, .int .i64 e2, .int .i64 e3] 103)
            have Xa := XD.alloc (.cells #[.bool ci, .int .i64 e0, .int .i64 e1, .int .i64 e2, .int .i64 e3] 103)
            have hr := reads_new (w := z2.W.drew) (e := 103) (size := 5) (m := 1) #[.bool ci, .int .i64 e0, .int .i64 e1, .int .i64 e2, .int .i64 e3] rfl
            have hle := ta.size
            have h15 := cgcs_one [Cg.mk ci ⟨e0, e1, e2, e3⟩]
            go_region_law (refine ap_step _ app_change (by decide) w0.heap.size (.tmp 59) (.tmp 65) rfl rfl _ _ _ rfl oa _ _ 1 1 _ rfl hr h15 q3 hle ?_; intro v7 w7 hown7 hg7 hat7; clear hat7; have t7 := ta.grown oa (Nat.le_refl _) hg7; have X7 := Xa.grown hg7 (fun hq => by have := (ownBlock_some oa hq.symm).1; omega); have x7 : w7.cell? ⟨(w.heap.size + 1 + 1), 0, none⟩ = some (.slice B1 p d1) := (by rw [X7.cell]; rfl); have x7f := X7.frozen 0; replace hown7 := own_snoc_n (Cg.mk ci ⟨e0, e1, e2, e3⟩) rfl hown7; obtain ⟨B7, d7, rfl, _⟩ := own_form hown7)
            all_goals
              have X8 := X7.set_ 0 (.slice B7 (p + 1) d7)
              have t8 := t7.setCell (p := ⟨(w.heap.size + 1 + 1), 0, none⟩) (Nat.le_refl _) (Nat.lt_succ_self _) (.slice B7 (p + 1) d7)
              have ho8 := ownsRow_setCell_below hown7 (a := ⟨(w.heap.size + 1 + 1), 0, none⟩) (by dsimp only; omega) (.slice B7 (p + 1) d7)
              clear X7 t7 hown7 hg7 oa Xa ta hr x7 x7f
              go_wp2
              go_roundw
              case rel => exact ⟨q + 1, _, ⟨_, t8⟩, rfl, by omega, by go_num, X8, by rw [HS.out, HSN.out, List.length_append, HM.out]; exact ho8⟩
              case measure => simp [intOf]; omega
          · have HSN := Lib.hid (netStep_yes (L := L) (c := ⟨ci, ⟨e0, e1, e2, e3⟩⟩) (k := r) (by rw [HM.out]; exact hN))
            rw [hN] at hat hNA
            subst hat
            obtain ⟨s, rfl⟩ : ∃ s, p = r + s + 1 := ⟨p - r - 1, by omega⟩
            have R3 := RIs.of o2 (by omega)
            obtain ⟨g, rfl, hg1, hg2⟩ := R3.at_ (by omega)
            have q2 : Small (0 + r) := small_of (by omega)
            have q3 : Small (r + s) := small_of (by omega)
            have bE : Below z2.W.heap.size z2.W (z2.W.alloc (.cells #[] 103)).drew := ((Below.refl _ _).alloc (Nat.le_refl _) _).drew
            have oE := own_drew (own_made (w := z2.W) (base := z2.W.heap.size) 103 5 (Nat.le_refl _))
            have sE := bE.size
            have rW := R3.reads
            have rE := reads_up (reads_take rW (k := r) (by omega)) bE
            rw [cgcs_take] at rE
            obtain ⟨A1, hA1, rD⟩ := reads_cut1 rW hcap
            rw [cgcs_drop] at rD
            simp only [Nat.zero_add] at hA1
            have hkd : r ≤ d1 := by omega
            have hkd1 : r + 1 ≤ d1 := by omega
            have hkn1 : r + 1 ≤ r + s + 1 := by omega
            have hr1 : (0 : Int) ≤ (r : Int) + 1 := by omega
            have hr00 : (0 : Int) ≤ (r : Int) := by omega
            have hrn : ¬ (r : Int) < 0 := by omega
            have hkr : (r : Int) ≤ (r : Int) + s := by omega
            have hw1 : IntKind.i64.wrap ((r : Int) + 1) = (r : Int) + 1 := by rw [IntKind.wrap_i64]; omega
            have hkb : (r : Int) + 1 ≤ (r : Int) + s + 1 := by omega
            have xA := cell_al (.cells #[] 103) (w := z2.W) xo
            have hxz : (w.heap.size + 1 + 1) < z2.W.heap.size := by omega
            have hll : (L.take r ++ L.drop (r + 1)).length = r + s := by rw [List.length_append, List.length_take, List.length_drop, HM.out]; omega
            have HLL := Lib.hid hll
            clear hN hNA hzz rW hll R3
            go_wp2_with fail
            go_region_law (first
              | (refine ap_step _ app_change (by decide) z2.W.heap.size (.tmp 73) (.tmp 78) rfl rfl _ _ _ rfl O6 _ _ _ _ _ rfl rD6 (cgcs_one _) q3 hb6.size ?_; intro v7 w7 O7 hg7 hat7; clear hat7; have hb7 := below_grown_own hb6 O6 hg7 (Nat.le_refl _) hb6.size; obtain ⟨B7, d7, rfl, _⟩ := own_form O7; have X7 := X2.below hb7 hxz; have x7 : w7.cell? ⟨(w.heap.size + 1 + 1), 0, none⟩ = some (.slice (some ⟨g, 0, none⟩) (r + s + 1) d1) := (by rw [X7.cell]; rfl); have x7f := X7.frozen 0)
              | (refine fr_step _ app_change (by decide) z2.W.heap.size (.tmp 68) (.tmp 72) rfl rfl _ rfl oE _ _ _ _ _ rfl rE (cgcs_one _) q2 sE ?_; intro v6 w6 O6 hb60; have hb6 := below_then bE hb60; obtain ⟨B6, d6, rfl, _⟩ := own_form O6; have rD6 := reads_up rD hb6; have x6 := cell_keep hb6 xo))
            all_goals
              have X8 := X7.set_ 0 (.slice B7 (r + s) d7)
              have t8 := (TZ.below hb7).setCell (p := ⟨(w.heap.size + 1 + 1), 0, none⟩) (Nat.le_refl _) (Nat.lt_succ_self _) (.slice B7 (r + s) d7)
              rw [← cgcs_append] at O7
              have ho8 := ownsRow_setCell_below (own_rebase O7 hbase) (a := ⟨(w.heap.size + 1 + 1), 0, none⟩) (by dsimp only; omega) (.slice B7 (r + s) d7)
              clear X7 O7 hg7 hb7 hb6 x7 x7f
              go_wp2
              go_roundw
              case rel => exact ⟨q + 1, _, ⟨_, t8⟩, rfl, by omega, by go_num, X8, by rw [HS.out, HSN.out, HLL.out]; exact ho8⟩
              case measure => simp [intOf]; omega
    · obtain rfl : q = n := by omega
      obtain ⟨L, hL⟩ : ∃ L, netL l q = L := ⟨_, rfl⟩
      have HB := Lib.hid (show netB l = netO L 2 by rw [← hL]; unfold netB; rw [HL.out])
      rw [hL] at hown hlen
      obtain ⟨m, hm⟩ : ∃ m, L.length = m := ⟨_, rfl⟩
      rw [hm] at hown hlen
      have HM := Lib.hid hm
      obtain ⟨B1, d1, rfl, _⟩ := own_form hown
      have R := (RIs.of hown (by omega)).crd
      have bX : Below z.W.heap.size z.W (z.W.alloc (.cells #[.slice none 0 0] 28)) := (Below.refl _ _).alloc (Nat.le_refl _) _
      have XO := Blk.new z.W 28 #[.slice none 0 0]
      have XRz := z.blk XR (by omega)
      replace XRz := XRz.below bX XRz.lt
      have XXz := X.below bX X.lt
      have kbx : z.W.cell? ⟨w.heap.size, 0, none⟩ = some (.slice A q c) := by rw [XBz.cell]; rfl
      have HT2 := Lib.hid (show (netO L 2).length = m by rw [netO_two, hm])
      have HO2 := Lib.hid (show netO L 2 = netF false L m ++ netF true L m by rw [← hm]; rfl)
      clear hL hown hm X
      go_wp2
      generalize (z.W.alloc (.cells #[.slice none 0 0] 28)) = wb at *
      have hzx : z.W.heap.size < wb.heap.size := XO.lt
      have r0 := XRz.bc (xb := z.W.heap.size) (by omega) (v := .slice none 0 0) 0 rfl
      have f0 := XRz.bf (xb := z.W.heap.size) (by omega) 0
      have kx := XXz.bc (xb := z.W.heap.size) (by omega) (v := .slice B1 m d1) 0 rfl
      clear XRz XXz XBz kbx
      go_loopw [9] (fun i wr => ∃ (k : Nat) (v : Value) (z3 : KeptB wb z.W.heap.size), wr = z3.W ∧ k ≤ m ∧ i = .int .i64 k ∧ Blk z3.W z.W.heap.size 28 #[v] ∧ z3.W.ownsRow wb.heap.size 103 5 v (netF false L k).length (cgcs (netF false L k))) (fun i _ => m - (intOf i).toNat)
      case atStart => exact ⟨0, _, ⟨wb, Tch.refl _ _ _⟩, rfl, Nat.zero_le _, rfl, XO, World.ownsRow_nil _ _ _ _⟩
      clear XO
      case round =>
        obtain ⟨k, v, z3, rfl, hk, rfl, X3, own3⟩ := hrel
        by_cases hkl : k < m
        · obtain ⟨b, o, rfl, had, y, hy, c0, c1, c2, c3, c4⟩ := change_at R.rd HM.out hkl
          have y0 := KeptB.cell (xb := z.W.heap.size) (cell_keep bX c0) (by dsimp only; omega)
          have y1 := KeptB.cell (xb := z.W.heap.size) (cell_keep bX c1) (by dsimp only; omega)
          have y2 := KeptB.cell (xb := z.W.heap.size) (cell_keep bX c2) (by dsimp only; omega)
          have y3 := KeptB.cell (xb := z.W.heap.size) (cell_keep bX c3) (by dsimp only; omega)
          have y4 := KeptB.cell (xb := z.W.heap.size) (cell_keep bX c4) (by dsimp only; omega)
          have HF := Lib.hid (netF_succ false hy)
          have hfl := netF_len false L k
          obtain ⟨yi, ⟨e0, e1, e2, e3⟩⟩ := y
          dsimp only at y0 y1 y2 y3 y4
          have q30 : (netF false L k).length + 1 ≤ 16777216 := by omega
          obtain ⟨Q, hQ⟩ : ∃ Q, netF false L k = Q := ⟨_, rfl⟩
          rw [hQ] at own3 q30
          have q3 : Small (Q.length + 1) := small_of q30
          have HQ := Lib.hid hQ
          obtain ⟨B3, d3, rfl, _⟩ := own_form own3
          have hkl' : (k : Int) < m := by omega
          have hk0 : (0 : Int) ≤ (k : Int) := by omega
          have xo : z3.W.cell? ⟨z.W.heap.size, 0, none⟩ = some (.slice B3 Q.length d3) := by rw [X3.cell]; rfl
          have xof := X3.frozen 0
          have hzs3 := z3.be.size
          clear hy c0 c1 c2 c3 c4 hQ q30 hfl
          cases yi
          skip
          · have HN := Lib.hid (show netF false L (k + 1) = Q ++ [⟨false, ⟨e0, e1, e2, e3⟩⟩] by rw [HF.out, ← HQ.out]; simp)
            go_wp2_with fail
            have tD := z3.be.drew
            have XD : Blk z3.W.drew z.W.heap.size 28 #[.slice B3 Q.length d3] := X3.drew
            have oD := own_drew own3
            have xA := cell_al (.cells #[.bool false, .int .i64 e0, .int .i64 e1, .int .i64 e2, .int .i64 e3] 103) (w := z3.W) xo
            have oa := oD.alloc (.cells #[.bool false, .int .i64 e0, .int .i64 e1, .int .i64 e2, .int .i64 e3] 103)
            have ta := tD.alloc (.cells #[.bool false, .int .i64 e0, .int .i64 e1, .int .i64 e2, .int .i64 e3] 103)
            have Xa := XD.alloc (.cells #[.bool false, .int .i64 e0, .int .i64 e1, .int .i64 e2, .int .i64 e3] 103)
            have hr := reads_new (w := z3.W.drew) (e := 103) (size := 5) (m := 1) #[.bool false, .int .i64 e0, .int .i64 e1, .int .i64 e2, .int .i64 e3] rfl
            have hle := ta.size
            have h15 := cgcs_one [Cg.mk false ⟨e0, e1, e2, e3⟩]
            go_region_law (refine ap_step _ app_change (by decide) wb.heap.size (.tmp 97) (.tmp 103) rfl rfl _ _ _ rfl oa _ _ 1 1 _ rfl hr h15 q3 hle ?_; intro v7 w7 hown7 hg7 hat7; clear hat7; have t7 := ta.grown oa (Nat.le_refl _) hg7; have X7 := Xa.grown hg7 (fun hq => by have := (ownBlock_some oa hq.symm).1; omega); have x7 : w7.cell? ⟨z.W.heap.size, 0, none⟩ = some (.slice B3 Q.length d3) := (by rw [X7.cell]; rfl); have x7f := X7.frozen 0; replace hown7 := own_snoc_n (Cg.mk false ⟨e0, e1, e2, e3⟩) rfl hown7; obtain ⟨B7, d7, rfl, _⟩ := own_form hown7)
            all_goals
              have X8 := X7.set_ 0 (.slice B7 (Q.length + 1) d7)
              have t8 := t7.setCell (p := ⟨z.W.heap.size, 0, none⟩) (Nat.le_refl _) (Nat.lt_succ_self _) (.slice B7 (Q.length + 1) d7)
              have ho8 := ownsRow_setCell_below hown7 (a := ⟨z.W.heap.size, 0, none⟩) (by dsimp only; omega) (.slice B7 (Q.length + 1) d7)
              clear X7 t7 hown7 hg7 oa Xa ta hr x7 x7f
              go_wp2
              go_roundw
              case rel => exact ⟨k + 1, _, ⟨_, t8⟩, rfl, by omega, by go_num, X8, by rw [HN.out, List.length_append]; exact ho8⟩
              case measure => simp [intOf]; omega
          · have HN := Lib.hid (show netF false L (k + 1) = Q by rw [HF.out, ← HQ.out]; simp)
            go_wp2
            go_roundw
            case rel => exact ⟨k + 1, _, z3, rfl, by omega, by go_num, X3, by rw [HN.out]; exact own3⟩
            case measure => simp [intOf]; omega
        · obtain rfl : m = k := by omega
          have hkl' : ¬ (m : Int) < m := by omega
          obtain ⟨P, hP⟩ : ∃ P, netF false L m = P := ⟨_, rfl⟩
          have hpp := netF_len false L m
          have HO3 := Lib.hid (show netO L 2 = P ++ netF true L m by rw [← hP]; exact HO2.out)
          rw [hP] at own3 hpp
          clear hP
          have xo : z3.W.cell? ⟨z.W.heap.size, 0, none⟩ = some v := by rw [X3.cell]; rfl
          go_wp2
          clear xo
          go_loopw [10] (fun i wr => ∃ (k : Nat) (v : Value) (z3 : KeptB wb z.W.heap.size), wr = z3.W ∧ k ≤ m ∧ i = .int .i64 k ∧ Blk z3.W z.W.heap.size 28 #[v] ∧ z3.W.ownsRow wb.heap.size 103 5 v (P ++ netF true L k).length (cgcs (P ++ netF true L k))) (fun i _ => m - (intOf i).toNat)
          case atStart => exact ⟨0, _, z3, rfl, Nat.zero_le _, rfl, X3, by simpa [netF] using own3⟩
          clear X3 own3 z3
          case round =>
            obtain ⟨k, v, z3, rfl, hk, rfl, X3, own3⟩ := hrel
            by_cases hkl : k < m
            · obtain ⟨b, o, rfl, had, y, hy, c0, c1, c2, c3, c4⟩ := change_at R.rd HM.out hkl
              have y0 := KeptB.cell (xb := z.W.heap.size) (cell_keep bX c0) (by dsimp only; omega)
              have y1 := KeptB.cell (xb := z.W.heap.size) (cell_keep bX c1) (by dsimp only; omega)
              have y2 := KeptB.cell (xb := z.W.heap.size) (cell_keep bX c2) (by dsimp only; omega)
              have y3 := KeptB.cell (xb := z.W.heap.size) (cell_keep bX c3) (by dsimp only; omega)
              have y4 := KeptB.cell (xb := z.W.heap.size) (cell_keep bX c4) (by dsimp only; omega)
              have HF := Lib.hid (netF_succ true hy)
              have hfl := netF_len true L k
              obtain ⟨yi, ⟨e0, e1, e2, e3⟩⟩ := y
              dsimp only at y0 y1 y2 y3 y4
              have q30 : (P ++ netF true L k).length + 1 ≤ 16777216 := by rw [List.length_append]; omega
              obtain ⟨Q, hQ⟩ : ∃ Q, P ++ netF true L k = Q := ⟨_, rfl⟩
              rw [hQ] at own3 q30
              have q3 : Small (Q.length + 1) := small_of q30
              have HQ := Lib.hid hQ
              obtain ⟨B3, d3, rfl, _⟩ := own_form own3
              have hkl' : (k : Int) < m := by omega
              have hk0 : (0 : Int) ≤ (k : Int) := by omega
              have xo : z3.W.cell? ⟨z.W.heap.size, 0, none⟩ = some (.slice B3 Q.length d3) := by rw [X3.cell]; rfl
              have xof := X3.frozen 0
              have hzs3 := z3.be.size
              clear hy c0 c1 c2 c3 c4 hQ q30 hfl
              cases yi
              rotate_left
              · have HN := Lib.hid (show P ++ netF true L (k + 1) = Q ++ [⟨true, ⟨e0, e1, e2, e3⟩⟩] by rw [HF.out, ← HQ.out]; simp)
                go_wp2_with fail
                have tD := z3.be.drew
                have XD : Blk z3.W.drew z.W.heap.size 28 #[.slice B3 Q.length d3] := X3.drew
                have oD := own_drew own3
                have xA := cell_al (.cells #[.bool true, .int .i64 e0, .int .i64 e1, .int .i64 e2, .int .i64 e3] 103) (w := z3.W) xo
                have oa := oD.alloc (.cells #[.bool true, .int .i64 e0, .int .i64 e1, .int .i64 e2, .int .i64 e3] 103)
                have ta := tD.alloc (.cells #[.bool true, .int .i64 e0, .int .i64 e1, .int .i64 e2, .int .i64 e3] 103)
                have Xa := XD.alloc (.cells #[.bool true, .int .i64 e0, .int .i64 e1, .int .i64 e2, .int .i64 e3] 103)
                have hr := reads_new (w := z3.W.drew) (e := 103) (size := 5) (m := 1) #[.bool true, .int .i64 e0, .int .i64 e1, .int .i64 e2, .int .i64 e3] rfl
                have hle := ta.size
                have h15 := cgcs_one [Cg.mk true ⟨e0, e1, e2, e3⟩]
                go_region_law (refine ap_step _ app_change (by decide) wb.heap.size (.tmp 120) (.tmp 126) rfl rfl _ _ _ rfl oa _ _ 1 1 _ rfl hr h15 q3 hle ?_; intro v7 w7 hown7 hg7 hat7; clear hat7; have t7 := ta.grown oa (Nat.le_refl _) hg7; have X7 := Xa.grown hg7 (fun hq => by have := (ownBlock_some oa hq.symm).1; omega); have x7 : w7.cell? ⟨z.W.heap.size, 0, none⟩ = some (.slice B3 Q.length d3) := (by rw [X7.cell]; rfl); have x7f := X7.frozen 0; replace hown7 := own_snoc_n (Cg.mk true ⟨e0, e1, e2, e3⟩) rfl hown7; obtain ⟨B7, d7, rfl, _⟩ := own_form hown7)
                all_goals
                  have X8 := X7.set_ 0 (.slice B7 (Q.length + 1) d7)
                  have t8 := t7.setCell (p := ⟨z.W.heap.size, 0, none⟩) (Nat.le_refl _) (Nat.lt_succ_self _) (.slice B7 (Q.length + 1) d7)
                  have ho8 := ownsRow_setCell_below hown7 (a := ⟨z.W.heap.size, 0, none⟩) (by dsimp only; omega) (.slice B7 (Q.length + 1) d7)
                  clear X7 t7 hown7 hg7 oa Xa ta hr x7 x7f
                  go_wp2
                  go_roundw
                  case rel => exact ⟨k + 1, _, ⟨_, t8⟩, rfl, by omega, by go_num, X8, by rw [HN.out, List.length_append]; exact ho8⟩
                  case measure => simp [intOf]; omega
              · have HN := Lib.hid (show P ++ netF true L (k + 1) = Q by rw [HF.out, ← HQ.out]; simp)
                go_wp2
                go_roundw
                case rel => exact ⟨k + 1, _, z3, rfl, by omega, by go_num, X3, by rw [HN.out]; exact own3⟩
                case measure => simp [intOf]; omega
            · obtain rfl : m = k := by omega
              have hkl' : ¬ (m : Int) < m := by omega
              have hm2 := HT2.out
              rw [HO3.out] at hm2
              obtain ⟨M, hM⟩ : ∃ M, P ++ netF true L m = M := ⟨_, rfl⟩
              rw [hM] at own3 hm2
              have HM2 := Lib.hid (show netB l = M by rw [HB.out, HO3.out, hM])
              obtain ⟨B3, d3, rfl, _⟩ := own_form own3
              have xo : z3.W.cell? ⟨z.W.heap.size, 0, none⟩ = some (.slice B3 M.length d3) := by rw [X3.cell]; rfl
              have hbz2 : Below w.heap.size w z3.W := below_tch (below_then hbz bX) z3.be (by omega)
              have O2 := (RIs.of own3 (by omega)).setB (p := ⟨w.heap.size + 1, 0, none⟩) (by dsimp only; omega) (.slice B3 M.length d3)
              have hB6 := hbz2.setCell (p := ⟨w.heap.size + 1, 0, none⟩) (by dsimp only; omega) (.slice B3 M.length d3)
              clear hM hm2
              go_wp2
              refine bodyPost_ret (v := .agg #[.slice B3 M.length d3]) ?_ rfl ?_
              · simp [results, Try.results15, go_sem]
                go_simp
              · exact ⟨_, _, _, rfl, by rw [HM2.out]; exact O2.wide (by omega) (by simp), hB6⟩
end Go.Proofs.Ytolilkbejghocaa
