/- The draws of FnWalks: l5Copy, DrawReverseWalk, DrawCompareWalks. -/
import Derived.Test.YtomkgnamjfiocaaGreatDoorWkF
import Derived.BigRegion
namespace Go.Proofs.YtomkgnamjfiocaaGreatDoor
open Go.RowKit Go.ChangeShapes Go.WideShapes Go.ChangeAt Go.Deep
set_option linter.unusedVariables false
theorem st_cap {w : World} {base : Nat} {C : Option Addr} {k f : Nat} {L : List St} (h : w.ownsRow base 68 2 (.slice C k f) k (stcs L)) : k ≤ f := by
  obtain ⟨B2, d2, hv, h, _⟩ := own_form h
  injection hv with _ _ h3
  omega
set_option maxRecDepth 4000 in
set_option maxHeartbeats 4000000 in
theorem l5Copy_is (w : World) (s : Int) {C : Option Addr} {k f : Nat} {L : List St} (h : SRd w C k L) :
    Calls Tryz.prog 50 #[.agg #[.int .i64 s, .slice C k f]] w fun e w' => ∃ C2 f2, e = .returned (.agg #[.int .i64 s, .slice C2 k f2]) ∧ w'.ownsRow w.heap.size 68 2 (.slice C2 k f2) k (stcs L) ∧ Below w.heap.size w w' := by
  have hn := h.bd
  have q1 : Small (0 + k) := small_of (by omega)
  go_enter Tryz.func50, Tryz.ntmps50
  go_wp2
  have hB0 : Below w.heap.size w ((w.alloc (.cells #[.int .i64 s, .slice C k f] 30)).alloc (.cells #[.int .i64 0, .slice none 0 0] 30)) := ((Below.refl _ _).alloc (Nat.le_refl _) _).alloc (by simp) _
  have X0 := (Blk.new w 30 #[.int .i64 s, .slice C k f]).alloc (.cells #[.int .i64 0, .slice none 0 0] 30)
  have XR := Blk.new (w.alloc (.cells #[.int .i64 s, .slice C k f] 30)) 30 #[.int .i64 0, .slice none 0 0]
  rw [show (w.alloc (.cells #[.int .i64 s, .slice C k f] 30)).heap.size = w.heap.size + 1 by simp] at XR
  generalize (w.alloc (.cells #[.int .i64 s, .slice C k f] 30)).alloc (.cells #[.int .i64 0, .slice none 0 0] 30) = w0 at *
  have hz0 : w.heap.size + 1 < w0.heap.size := XR.lt
  have bD : Below w0.heap.size w0 w0.drew := (Below.refl _ _).drew
  have XD := X0.drew
  have k0 := XD.cell 0
  have k1 := XD.cell 1
  have bL : Below w0.heap.size w0 ((w0.alloc (.cells #[] 68)).drew) := ((Below.refl _ _).alloc (Nat.le_refl _) _).drew
  have XL := X0.below bL X0.lt
  have k2 := XL.cell 0
  have k3 := XL.cell 1
  go_region_law (refine fr_step _ app_step (by decide) w0.heap.size (.tmp 5) (.tmp 7) rfl rfl _ rfl ?_ _ _ _ _ _ rfl (h.up (below_then hB0 bL)).rd (stcs_one _) q1 ?_ ?_; (focus (exact own_drew (own_made (w := w0) _ _ (Nat.le_refl _)))); (focus (exact bL.size)); intro v3 w3 I30 hb30; obtain ⟨A3, c3, rfl, _⟩ := own_form I30; have hb3 := below_then bL hb30; have XA := X0.below hb3 X0.lt; have k4 := XA.cell 0; have k5 := XA.cell 1; have R3 := XR.below hb3 XR.lt; have r0 := R3.cell 0; have r1 := R3.cell 1; have f0 := R3.frozen 0; have f1 := R3.frozen 1)
  all_goals
    have B3 := below_then hB0 hb3
    go_wp2
    refine bodyPost_ret (v := .agg #[.int .i64 s, .slice A3 k c3]) ?_ rfl ?_
    · simp [results, Tryz.results50, go_sem]
      go_simp
    · refine ⟨A3, c3, rfl, own_rebase (own_past (lo := w.heap.size) (hi := w.heap.size + 2) I30 ?_ hz0) (by omega), below_tch (lo := w.heap.size) (hi := w.heap.size + 2) B3 ?_ (Nat.le_refl _)⟩
      all_goals
        try simp only [set_drew]
        repeat (with_reducible refine Tch.sc ?_ (by omega) (by omega) _ _)
        exact Tch.refl _ _ _
set_option maxRecDepth 4000 in
set_option maxHeartbeats 4000000 in
theorem drawReverse_any (w : World) {A0 : Option Addr} {n0 c0 : Nat} (h : CRaw w A0 n0) :
    Calls Tryz.prog 6 #[.slice A0 n0 c0] w fun e w' => ∃ (A : Option Addr) (n c : Nat) (B : Option Addr) (m d : Nat) (s : Int) (C : Option Addr) (k f : Nat), e = .returned (.tuple #[.agg #[.slice A n c, .slice B m d], .agg #[.int .i64 s, .slice C k f]]) ∧ k ≤ f ∧ (∃ g, GRd w' A n B m g) ∧ (∃ L, SRd w' C k L) ∧ Below w.heap.size w w' := by
  have hBa : Below w.heap.size w (w.alloc (.cells #[.slice none 0 0, .slice none 0 0] 27)) := (Below.refl _ _).alloc (Nat.le_refl _) _
  have hB0 : Below w.heap.size w ((w.alloc (.cells #[.slice none 0 0, .slice none 0 0] 27)).alloc (.cells #[.int .i64 0, .slice none 0 0] 30)) := hBa.alloc hBa.size _
  have XR := (Blk.new w 27 #[.slice none 0 0, .slice none 0 0]).alloc (.cells #[.int .i64 0, .slice none 0 0] 30)
  have XQ := Blk.new (w.alloc (.cells #[.slice none 0 0, .slice none 0 0] 27)) 30 #[.int .i64 0, .slice none 0 0]
  have hsz : (w.alloc (.cells #[.slice none 0 0, .slice none 0 0] 27)).heap.size = w.heap.size + 1 := by simp
  rw [hsz] at XQ
  have h0 := h.up hB0
  generalize hw0 : (w.alloc (.cells #[.slice none 0 0, .slice none 0 0] 27)).alloc (.cells #[.int .i64 0, .slice none 0 0] 30) = w0 at *
  have HW0 := Lib.hid hw0
  have hx0 : w.heap.size + 1 < w0.heap.size := XQ.lt
  clear hw0 hsz hBa
  go_enter Tryz.func6, Tryz.ntmps6
  go_wp2_with fail
  try rw [HW0.out]
  refine (new_cur w0 h0).mono ?_
  rintro e w1 ⟨cb, rfl, hlo, C1, b1⟩
  have X1 := XR.below b1 XR.lt
  have Q1 := XQ.below b1 XQ.lt
  have B1 := below_then hB0 b1
  have hcb := C1.lt
  have hz1 : w0.heap.size ≤ w1.heap.size := b1.size
  clear XR XQ hB0 b1 h0 h
  go_wp2_with fail
  refine (l5Any_any w1 C1).mono ?_
  rintro e w2 ⟨A, n, c, B, m, d, s, C, k, f, rfl, hn, hm, hk, ⟨g, O2⟩, ⟨L, H2⟩, C2, t2⟩
  have X2 := X1.tch t2 (by omega)
  have Q2 := Q1.tch t2 (by omega)
  have B2 := below_tch B1 t2 (by omega)
  have hz2 : w1.heap.size ≤ w2.heap.size := t2.size
  have hkf := st_cap H2
  clear t2 X1 Q1 B1 C1
  have bG : Below w2.heap.size w2 (w2.alloc (.cells #[.slice A n c, .slice B m d] 27)) := (Below.refl _ _).alloc (Nat.le_refl _) _
  have bH : Below w2.heap.size w2 ((w2.alloc (.cells #[.slice A n c, .slice B m d] 27)).alloc (.cells #[.int .i64 s, .slice C k f] 30)) := bG.alloc bG.size _
  have XG := (Blk.new w2 27 #[.slice A n c, .slice B m d]).alloc (.cells #[.int .i64 s, .slice C k f] 30)
  have XH := Blk.new (w2.alloc (.cells #[.slice A n c, .slice B m d] 27)) 30 #[.int .i64 s, .slice C k f]
  rw [show (w2.alloc (.cells #[.slice A n c, .slice B m d] 27)).heap.size = w2.heap.size + 1 by simp] at XH
  have X3 := X2.below bH X2.lt
  have Q3 := Q2.below bH Q2.lt
  have B3 := below_then B2 bH
  have O3 := O2.below bH
  have H3 := own_below H2 bH (Nat.le_refl _)
  have C3 := C2.below bH
  generalize hw3 : (w2.alloc (.cells #[.slice A n c, .slice B m d] 27)).alloc (.cells #[.int .i64 s, .slice C k f] 30) = w3 at *
  have HW3 := Lib.hid hw3
  clear hw3 bG bH X2 Q2 B2 O2 H2 C2
  have ne1 : w.heap.size ≠ w2.heap.size := by omega
  have ne2 : w.heap.size + 1 ≠ w2.heap.size := by omega
  have ne3 : w.heap.size ≠ w2.heap.size + 1 := by omega
  have ne4 : w.heap.size + 1 ≠ w2.heap.size + 1 := by omega
  have ne5 : w.heap.size + 1 ≠ w.heap.size := by omega
  have ne6 : w.heap.size ≠ w.heap.size + 1 := by omega
  have r0 := X3.cell 0
  have rd0 := X3.drew.cell 0
  have rf0 := X3.frozen 0
  have rg0 := X3.drew.frozen 0
  have r1 := X3.cell 1
  have rd1 := X3.drew.cell 1
  have rf1 := X3.frozen 1
  have rg1 := X3.drew.frozen 1
  have q0 := Q3.cell 0
  have qd0 := Q3.drew.cell 0
  have qf0 := Q3.frozen 0
  have qg0 := Q3.drew.frozen 0
  have q1 := Q3.cell 1
  have qd1 := Q3.drew.cell 1
  have qf1 := Q3.frozen 1
  have qg1 := Q3.drew.frozen 1
  have a0 := XG.cell 0
  have ad0 := XG.drew.cell 0
  have a1 := XG.cell 1
  have ad1 := XG.drew.cell 1
  have y0 := XH.cell 0
  have yd0 := XH.drew.cell 0
  have y1 := XH.cell 1
  have yd1 := XH.drew.cell 1
  have OD := O3.below (Below.refl _ _).drew
  have HD := own_below H3 (Below.refl _ _).drew (Nat.le_refl _)
  have BD := B3.drew
  clear X3 Q3 XG XH O3 H3 B3 C3
  go_wp2_with fail
  rw [HW3.out]
  go_region
  all_goals
    go_wp2
    refine bodyPost_ret (v := .tuple #[.agg #[.slice A n c, .slice B m d], .agg #[.int .i64 s, .slice C k f]]) ?_ rfl ?_
    · simp [results, Tryz.results6, go_sem]
      go_simp
    · refine ⟨A, n, c, B, m, d, s, C, k, f, rfl, hkf, ⟨g, (OD.past (lo := w.heap.size) (hi := w.heap.size + 2) ?_ (by omega)).grd⟩, ⟨L, srd_of (own_past (lo := w.heap.size) (hi := w.heap.size + 2) HD ?_ (by omega)) (by omega)⟩, below_tch (lo := w.heap.size) (hi := w.heap.size + 2) BD ?_ (Nat.le_refl _)⟩
      all_goals
        try simp only [set_drew]
        repeat (with_reducible refine Tch.sc ?_ (by omega) (by omega) _ _)
        exact Tch.refl _ _ _
set_option maxRecDepth 4000 in
set_option maxHeartbeats 8000000 in
theorem drawCompare_any (w : World) {A0 : Option Addr} {n0 c0 : Nat} (h : CRaw w A0 n0) :
    Calls Tryz.prog 20 #[.slice A0 n0 c0] w fun e w' => ∃ (s : Int) (C : Option Addr) (k f : Nat) (s2 : Int) (C2 : Option Addr) (k2 f2 : Nat), e = .returned (.tuple #[.agg #[.int .i64 s, .slice C k f], .agg #[.int .i64 s2, .slice C2 k2 f2]]) ∧ (∃ L, SRd w' C k L) ∧ (∃ L, SRd w' C2 k2 L) ∧ Below w.heap.size w w' := by
  have hBa : Below w.heap.size w (w.alloc (.cells #[.int .i64 0, .slice none 0 0] 30)) := (Below.refl _ _).alloc (Nat.le_refl _) _
  have hB0 : Below w.heap.size w ((w.alloc (.cells #[.int .i64 0, .slice none 0 0] 30)).alloc (.cells #[.int .i64 0, .slice none 0 0] 30)) := hBa.alloc hBa.size _
  have XR := (Blk.new w 30 #[.int .i64 0, .slice none 0 0]).alloc (.cells #[.int .i64 0, .slice none 0 0] 30)
  have XQ := Blk.new (w.alloc (.cells #[.int .i64 0, .slice none 0 0] 30)) 30 #[.int .i64 0, .slice none 0 0]
  have hsz : (w.alloc (.cells #[.int .i64 0, .slice none 0 0] 30)).heap.size = w.heap.size + 1 := by simp
  rw [hsz] at XQ
  have h0 := h.up hB0
  generalize hw0 : (w.alloc (.cells #[.int .i64 0, .slice none 0 0] 30)).alloc (.cells #[.int .i64 0, .slice none 0 0] 30) = w0 at *
  have HW0 := Lib.hid hw0
  have hx0 : w.heap.size + 1 < w0.heap.size := XQ.lt
  clear hw0 hsz hBa
  go_enter Tryz.func20, Tryz.ntmps20
  go_wp2_with fail
  try rw [HW0.out]
  refine (new_cur w0 h0).mono ?_
  rintro e w1 ⟨cb, rfl, hlo, C1, b1⟩
  have X1 := XR.below b1 XR.lt
  have Q1 := XQ.below b1 XQ.lt
  have B1 := below_then hB0 b1
  have hcb := C1.lt
  have hz1 : w0.heap.size ≤ w1.heap.size := b1.size
  clear XR XQ hB0 b1 h0 h
  go_wp2_with fail
  refine (l5Any_any w1 C1).mono ?_
  rintro e w2 ⟨A, n, c, B, m, d, s, C, k, f, rfl, hn, hm, hk, ⟨g, O2⟩, ⟨L, H2⟩, C2, t2⟩
  have X2 := X1.tch t2 (by omega)
  have Q2 := Q1.tch t2 (by omega)
  have B2 := below_tch B1 t2 (by omega)
  have hz2 : w1.heap.size ≤ w2.heap.size := t2.size
  have hkf := st_cap H2
  clear t2 X1 Q1 B1 C1
  have bG : Below w2.heap.size w2 (w2.alloc (.cells #[.slice A n c, .slice B m d] 27)) := (Below.refl _ _).alloc (Nat.le_refl _) _
  have bH : Below w2.heap.size w2 ((w2.alloc (.cells #[.slice A n c, .slice B m d] 27)).alloc (.cells #[.int .i64 s, .slice C k f] 30)) := bG.alloc bG.size _
  have XG := (Blk.new w2 27 #[.slice A n c, .slice B m d]).alloc (.cells #[.int .i64 s, .slice C k f] 30)
  have XH := Blk.new (w2.alloc (.cells #[.slice A n c, .slice B m d] 27)) 30 #[.int .i64 s, .slice C k f]
  rw [show (w2.alloc (.cells #[.slice A n c, .slice B m d] 27)).heap.size = w2.heap.size + 1 by simp] at XH
  have X3 := X2.below bH X2.lt
  have Q3 := Q2.below bH Q2.lt
  have B3 := below_then B2 bH
  have O3 := O2.below bH
  have H3 := own_below H2 bH (Nat.le_refl _)
  have C3 := C2.below bH
  generalize hw3 : (w2.alloc (.cells #[.slice A n c, .slice B m d] 27)).alloc (.cells #[.int .i64 s, .slice C k f] 30) = w3 at *
  have HW3 := Lib.hid hw3
  clear hw3 bG bH X2 Q2 B2 O2 H2 C2
  go_wp2_with fail
  rw [HW3.out]
  refine (l1Below_all w3 C3 3 (by omega)).mono ?_
  rintro e w4 ⟨q, rfl, hq0, hq1, C4, t4⟩
  have X4 := X3.tch t4 (by omega)
  have Q4 := Q3.tch t4 (by omega)
  have G4 := XG.tch t4 (by omega)
  have H4 := XH.tch t4 (by omega)
  have O4 := O3.past t4 (by omega)
  have S4 := own_past H3 t4 (by omega)
  have B4 := below_tch B3 t4 (by omega)
  have ne1 : w.heap.size ≠ w2.heap.size := by omega
  have ne2 : w.heap.size + 1 ≠ w2.heap.size := by omega
  have ne3 : w.heap.size ≠ w2.heap.size + 1 := by omega
  have ne4 : w.heap.size + 1 ≠ w2.heap.size + 1 := by omega
  have ne5 : w.heap.size + 1 ≠ w.heap.size := by omega
  have ne6 : w.heap.size ≠ w.heap.size + 1 := by omega
  have hgw : w2.heap.size < w4.heap.size := G4.lt
  have hhw : w2.heap.size + 1 < w4.heap.size := H4.lt
  clear t4 C3 X3 Q3 XG XH O3 H3 B3 HW3
  by_cases h0 : q = 0
  · subst h0
    have CD := C4.below (Below.refl _ _).drew
    have XD := X4.drew
    have QD := Q4.drew
    have HD := H4.drew
    have SD : w4.drew.ownsRow w1.heap.size 68 2 (.slice C k f) k (stcs L) := own_below S4 (Below.refl _ _).drew (Nat.le_refl _)
    have BD := B4.drew
    have k0 := HD.cell 0
    have k1 := HD.cell 1
    clear C4 X4 Q4 H4 G4 O4 S4 B4
    go_wp2_with fail
    go_region_law (first
      | (go_simp; go_at_call 50; refine (l5Copy_is w4.drew s (srd_of SD (by omega))).mono ?_; rintro e w5 ⟨C2, f2, rfl, H5, b5⟩; have X5 := XD.below b5 XD.lt; have Q5 := QD.below b5 QD.lt; have W5 := HD.below b5 HD.lt; have S5 := own_below SD b5 (Nat.le_refl _); have B5 := below_then BD b5; have y0 := W5.cell 0; have y1 := W5.cell 1; have r0 := X5.cell 0; have r1 := X5.cell 1; have q0 := X5.frozen 0; have q1 := X5.frozen 1; have r2 := Q5.cell 0; have r3 := Q5.cell 1; have q2 := Q5.frozen 0; have q3 := Q5.frozen 1))
    all_goals
      have hz5 : w4.heap.size ≤ w4.drew.heap.size := (Below.refl w4.heap.size w4).drew.size
      go_wp2
      refine bodyPost_ret (v := .tuple #[.agg #[.int .i64 s, .slice C k f], .agg #[.int .i64 s, .slice C2 k f2]]) ?_ rfl ?_
      · simp [results, Tryz.results20, go_sem]
        go_simp
      · refine ⟨s, C, k, f, s, C2, k, f2, rfl, ⟨L, srd_of (own_past (lo := w.heap.size) (hi := w.heap.size + 2) S5 ?_ (by omega)) (by omega)⟩, ⟨L, srd_of (own_past (lo := w.heap.size) (hi := w.heap.size + 2) H5 ?_ (by omega)) (by omega)⟩, below_tch (lo := w.heap.size) (hi := w.heap.size + 2) B5 ?_ (Nat.le_refl _)⟩
        all_goals
          try simp only [set_drew]
          repeat (with_reducible refine Tch.sc ?_ (by omega) (by omega) _ _)
          exact Tch.refl _ _ _
  · by_cases h1 : q = 1
    · subst h1
      have CD := C4.below (Below.refl _ _).drew
      have XD := X4.drew
      have QD := Q4.drew
      have HD := H4.drew
      have GD := G4.drew
      have OD : OwG w1.heap.size w4.drew A n c B m d g := O4.below (Below.refl _ _).drew
      have SD : w4.drew.ownsRow w1.heap.size 68 2 (.slice C k f) k (stcs L) := own_below S4 (Below.refl _ _).drew (Nat.le_refl _)
      have BD := B4.drew
      have k0 := HD.cell 0
      have k1 := HD.cell 1
      have k2 := GD.cell 0
      have k3 := GD.cell 1
      clear C4 X4 Q4 H4 G4 O4 S4 B4
      go_wp2_with fail
      go_region_law (first
        | (go_simp; go_at_call 51; refine (l5Walk_any w4.drew (c := c) (d := d) CD OD hcb hn hm).mono ?_; rintro e w5 ⟨s2, C2, k2, f2, rfl, hk2, ⟨L2, H5⟩, C5, t5⟩; have X5 := XD.tch t5 (by omega); have Q5 := QD.tch t5 (by omega); have W5 := HD.tch t5 (by omega); have S5 := own_past SD t5 (by omega); have B5 := below_tch BD t5 (by omega); have y0 := W5.cell 0; have y1 := W5.cell 1; have r0 := X5.cell 0; have r1 := X5.cell 1; have q0 := X5.frozen 0; have q1 := X5.frozen 1; have r2 := Q5.cell 0; have r3 := Q5.cell 1; have q2 := Q5.frozen 0; have q3 := Q5.frozen 1))
      all_goals
        have hz5 : w4.heap.size ≤ w4.drew.heap.size := (Below.refl w4.heap.size w4).drew.size
        go_wp2
        refine bodyPost_ret (v := .tuple #[.agg #[.int .i64 s, .slice C k f], .agg #[.int .i64 s2, .slice C2 k2 f2]]) ?_ rfl ?_
        · simp [results, Tryz.results20, go_sem]
          go_simp
        · refine ⟨s, C, k, f, s2, C2, k2, f2, rfl, ⟨L, srd_of (own_past (lo := w.heap.size) (hi := w.heap.size + 2) S5 ?_ (by omega)) (by omega)⟩, ⟨L2, srd_of (own_past (lo := w.heap.size) (hi := w.heap.size + 2) H5 ?_ (by omega)) (by omega)⟩, below_tch (lo := w.heap.size) (hi := w.heap.size + 2) B5 ?_ (Nat.le_refl _)⟩
          all_goals
            try simp only [set_drew]
            repeat (with_reducible refine Tch.sc ?_ (by omega) (by omega) _ _)
            exact Tch.refl _ _ _
    · have hd0 : decide (q = 0) = false := by simp [h0]
      have hd1 : decide (q = 1) = false := by simp [h1]
      go_wp2_with fail
      refine (l5Any_any w4 C4).mono ?_
      rintro e w5 ⟨A5, n5, c5, B5_, m5, d5, s2, C2, k2, f2, rfl, hn5, hm5, hk2, ⟨g5, O5⟩, ⟨L2, H5⟩, C5, t5⟩
      have X5 := X4.tch t5 (by omega)
      have Q5 := Q4.tch t5 (by omega)
      have W5 := H4.tch t5 (by omega)
      have S5 := own_past S4 t5 (by omega)
      have B5 := below_tch B4 t5 (by omega)
      have hz5 : w4.heap.size ≤ w5.heap.size := t5.size
      clear t5 C5 O5 X4 Q4 H4 G4 O4 S4 B4 C4
      have bG : Below w5.heap.size w5 (w5.alloc (.cells #[.slice A5 n5 c5, .slice B5_ m5 d5] 27)) := (Below.refl _ _).alloc (Nat.le_refl _) _
      have bH : Below w5.heap.size w5 ((w5.alloc (.cells #[.slice A5 n5 c5, .slice B5_ m5 d5] 27)).alloc (.cells #[.int .i64 s2, .slice C2 k2 f2] 30)) := bG.alloc bG.size _
      have XH := Blk.new (w5.alloc (.cells #[.slice A5 n5 c5, .slice B5_ m5 d5] 27)) 30 #[.int .i64 s2, .slice C2 k2 f2]
      rw [show (w5.alloc (.cells #[.slice A5 n5 c5, .slice B5_ m5 d5] 27)).heap.size = w5.heap.size + 1 by simp] at XH
      have X6 := X5.below bH X5.lt
      have Q6 := Q5.below bH Q5.lt
      have W6 := W5.below bH W5.lt
      have S6 := own_below S5 bH (Nat.le_refl _)
      have H6 := own_below H5 bH (Nat.le_refl _)
      have B6 := below_then B5 bH
      generalize hw6 : (w5.alloc (.cells #[.slice A5 n5 c5, .slice B5_ m5 d5] 27)).alloc (.cells #[.int .i64 s2, .slice C2 k2 f2] 30) = w6 at *
      have HW6 := Lib.hid hw6
      have ne7 : w.heap.size ≠ w5.heap.size + 1 := by omega
      have ne8 : w.heap.size + 1 ≠ w5.heap.size + 1 := by omega
      clear hw6 bG bH X5 Q5 W5 S5 H5 B5
      have r0 := X6.cell 0
      have rd0 := X6.drew.cell 0
      have rf0 := X6.frozen 0
      have rg0 := X6.drew.frozen 0
      have r1 := X6.cell 1
      have rd1 := X6.drew.cell 1
      have rf1 := X6.frozen 1
      have rg1 := X6.drew.frozen 1
      have q0 := Q6.cell 0
      have qd0 := Q6.drew.cell 0
      have qf0 := Q6.frozen 0
      have qg0 := Q6.drew.frozen 0
      have q1 := Q6.cell 1
      have qd1 := Q6.drew.cell 1
      have qf1 := Q6.frozen 1
      have qg1 := Q6.drew.frozen 1
      have a0 := W6.cell 0
      have ad0 := W6.drew.cell 0
      have a1 := W6.cell 1
      have ad1 := W6.drew.cell 1
      have y0 := XH.cell 0
      have yd0 := XH.drew.cell 0
      have y1 := XH.cell 1
      have yd1 := XH.drew.cell 1
      have SD := own_below S6 (Below.refl _ _).drew (Nat.le_refl _)
      have HD := own_below H6 (Below.refl _ _).drew (Nat.le_refl _)
      have BD := B6.drew
      clear X6 Q6 W6 XH S6 H6 B6
      go_wp2_with fail
      rw [HW6.out]
      go_region
      all_goals
        go_wp2
        refine bodyPost_ret (v := .tuple #[.agg #[.int .i64 s, .slice C k f], .agg #[.int .i64 s2, .slice C2 k2 f2]]) ?_ rfl ?_
        · simp [results, Tryz.results20, go_sem]
          go_simp
        · refine ⟨s, C, k, f, s2, C2, k2, f2, rfl, ⟨L, srd_of (own_past (lo := w.heap.size) (hi := w.heap.size + 2) SD ?_ (by omega)) (by omega)⟩, ⟨L2, srd_of (own_past (lo := w.heap.size) (hi := w.heap.size + 2) HD ?_ (by omega)) (by omega)⟩, below_tch (lo := w.heap.size) (hi := w.heap.size + 2) BD ?_ (Nat.le_refl _)⟩
          all_goals
            try simp only [set_drew]
            repeat (with_reducible refine Tch.sc ?_ (by omega) (by omega) _ _)
            exact Tch.refl _ _ _
end Go.Proofs.YtomkgnamjfiocaaGreatDoor
