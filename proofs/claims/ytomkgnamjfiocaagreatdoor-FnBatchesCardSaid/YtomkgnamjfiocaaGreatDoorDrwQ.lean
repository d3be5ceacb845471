/- The draw of FnBatches' second part: DrawBatchBetween. (Printed by wip/drw_q.py.) -/
import Derived.Test.YtomkgnamjfiocaaGreatDoorDrwP
namespace Go.Proofs.YtomkgnamjfiocaaGreatDoor
open Go.RowKit Go.ChangeShapes Go.WideShapes Go.ChangeAt Go.Deep
set_option linter.unusedVariables false
set_option maxRecDepth 4000 in
set_option maxHeartbeats 8000000 in
theorem drawBetween_any (w : World) {A0 : Option Addr} {n0 c0 : Nat} (h : CRaw w A0 n0) :
    Calls Tryz.prog 31 #[.slice A0 n0 c0] w fun e w' => ∃ (A : Option Addr) (n c : Nat) (B : Option Addr) (m d : Nat) (A2 : Option Addr) (n2 c2 : Nat) (B2 : Option Addr) (m2 d2 : Nat), e = .returned (.tuple #[.agg #[.slice A n c, .slice B m d], .agg #[.slice A2 n2 c2, .slice B2 m2 d2]]) ∧ (∃ g, GRd w' A n B m g) ∧ (∃ g, GRd w' A2 n2 B2 m2 g) ∧ Below w.heap.size w w' := by
  have hBa : Below w.heap.size w (w.alloc (.cells #[.slice none 0 0, .slice none 0 0] 27)) := (Below.refl _ _).alloc (Nat.le_refl _) _
  have hB0 : Below w.heap.size w ((w.alloc (.cells #[.slice none 0 0, .slice none 0 0] 27)).alloc (.cells #[.slice none 0 0, .slice none 0 0] 27)) := hBa.alloc hBa.size _
  have XR := (Blk.new w 27 #[.slice none 0 0, .slice none 0 0]).alloc (.cells #[.slice none 0 0, .slice none 0 0] 27)
  have XQ := Blk.new (w.alloc (.cells #[.slice none 0 0, .slice none 0 0] 27)) 27 #[.slice none 0 0, .slice none 0 0]
  have hsz : (w.alloc (.cells #[.slice none 0 0, .slice none 0 0] 27)).heap.size = w.heap.size + 1 := by simp
  rw [hsz] at XQ
  have h0 := h.up hB0
  generalize hw0 : (w.alloc (.cells #[.slice none 0 0, .slice none 0 0] 27)).alloc (.cells #[.slice none 0 0, .slice none 0 0] 27) = w0 at *
  have HW0 := Lib.hid hw0
  clear hw0 hsz hBa
  go_enter Tryz.func31, Tryz.ntmps31
  go_wp2_with fail
  try rw [HW0.out]
  refine (new_cur w0 h0).mono ?_
  rintro e w1 ⟨cb, rfl, hlo, C1, b1⟩
  have hx0 := XQ.lt
  have X1 := XR.below b1 XR.lt
  have Q1 := XQ.below b1 XQ.lt
  have B1 := below_then hB0 b1
  have hcb := C1.lt
  clear XR XQ hB0 b1 h0 h
  go_wp2_with fail
  refine (l3Any_any w1 C1).mono ?_
  rintro e w2 ⟨A, n, c, B, m, d, rfl, hn, hm, ⟨vs, es, J⟩, C2, t2⟩
  have X2 := X1.tch t2 (by omega)
  have Q2 := Q1.tch t2 (by omega)
  have B2 := below_tch B1 t2 (by omega)
  have hz2 := t2.size
  clear t2 X1 Q1 B1 C1
  have bG : Below w2.heap.size w2 (w2.alloc (.cells #[.slice A n c, .slice B m d] 27)) := (Below.refl _ _).alloc (Nat.le_refl _) _
  have XG := Blk.new w2 27 #[.slice A n c, .slice B m d]
  have X3 := X2.below bG X2.lt
  have Q3 := Q2.below bG Q2.lt
  have B3 := below_then B2 bG
  have J3 := J.below bG
  have C3 := C2.below bG
  have hgl : w.heap.size + 1 < w2.heap.size := Q2.lt
  have hgc : cb < w2.heap.size := C2.lt
  have hrl : w.heap.size + 2 ≤ w1.heap.size := by omega
  have hcl : cb + 1 ≤ w1.heap.size := hcb
  generalize hw3 : w2.alloc (.cells #[.slice A n c, .slice B m d] 27) = w3 at *
  generalize hgg : w2.heap.size = g at *
  have HW3 := Lib.hid hw3
  have HG := Lib.hid hgg
  clear hw3 hgg bG X2 Q2 B2 J C2 hz2
  go_wp2_with fail
  rw [HW3.out, HG.out]
  refine (l1Once_any w3 C3 5 (by omega) (by omega)).mono ?_
  rintro e w4 ⟨q, rfl, C4, t4⟩
  have G4 := XG.tch t4 (by omega)
  have X4 := X3.tch t4 (by omega)
  have Q4 := Q3.tch t4 (by omega)
  have J4 := J3.tch t4 (.inr hcl)
  have B4 := below_tch B3 t4 (by omega)
  clear t4 C3 XG X3 Q3 J3 B3 HW3 HG
  obtain ⟨w3, hw3⟩ : ∃ w, w = w4 := ⟨_, rfl⟩
  subst hw3
  have CD : Cur w3.drew cb := C4.below ((Below.refl _ _).drew)
  have GD : Blk w3.drew g 27 #[.slice A n c, .slice B m d] := G4.drew
  have RD : Blk w3.drew w.heap.size 27 #[.slice none 0 0, .slice none 0 0] := X4.drew
  have QD : Blk w3.drew (w.heap.size + 1) 27 #[.slice none 0 0, .slice none 0 0] := Q4.drew
  have JD : GIs w3.drew w1.heap.size g A n c B m d (vs.map iv) (ecs es) := J4.below ((Below.refl _ _).drew)
  have BD : Below w.heap.size w w3.drew := B4.drew
  have hcd : cb + 1 ≤ w3.drew.heap.size := CD.lt
  have hgd : g < w3.drew.heap.size := GD.lt
  clear C4 G4 X4 Q4 J4 B4
  cases q
  · go_wp2_with fail
    refine wp_region_sl [18, 19, 20, 21, 22, 17, 23, 24, 6, 7] (JB w3.drew cb (cb + 1) (fun w => Cur w cb) 9 [(.val (.agg #[.slice A n c, .slice B m d])), (.val (.pointer (some ⟨cb, 0, none⟩))), (.val (.agg #[.slice A n c, .slice B m d])), (.ba (fun l => l.length ≤ 6)), (.tup (fun _ _ => True)), (.tup (fun _ _ => True)), (.gr (fun _ => True)), (.boo), (.box (fun _ => True)), (.free), (.boo)] [18, 19, 20, 21, 22, 17, 23, 24, 6, 1009, 7]) (by kernel_rfl) (by kernel_rfl) (by decide) (by intro d hd; simp at hd; simp; omega) (by kernel_rfl) ?h0 ?hstep ?hend
    case h0 => exact ⟨Tch.refl _ _ _, CD, (fun k _ _ hk => absurd hk Bool.false_ne_true)⟩
    case hstep =>
      intro i L f w' o b K ho hLi hwt hcl hJ hS HK HN
      have hin : Inj [18, 19, 20, 21, 22, 17, 23, 24, 6, 1009, 7] := by decide
      have hi : i < 11 := by simpa using (Array.getElem?_eq_some_iff.1 ho).1
      rcases (show i = 0 ∨ i = 1 ∨ i = 2 ∨ i = 3 ∨ i = 4 ∨ i = 5 ∨ i = 6 ∨ i = 7 ∨ i = 8 ∨ i = 9 ∨ i = 10 by omega) with rfl | rfl | rfl | rfl | rfl | rfl | rfl | rfl | rfl | rfl | rfl
      all_goals
        simp only [List.getElem?_toArray, List.getElem?_cons_zero, List.getElem?_cons_succ, Option.some.injEq] at ho
        subst ho
        clear hi
      · clear hcl
        have s5 : b.tmps.getD 5 undef = .pointer (some ⟨g, 0, none⟩) := hS.o 5 (by decide)
        have u0 := (GD.tch hJ.t (by omega)).cell 0
        have u1 := (GD.tch hJ.t (by omega)).cell 1
        go_simp
        exact HK.out 18 _ _ rfl (hJ.same hcd (by decide) hin rfl (by decide) rfl rfl)
      · clear hcl
        have s4 : b.tmps.getD 4 undef = .pointer (some ⟨cb, 0, none⟩) := hS.o 4 (by decide)
        go_simp
        exact HK.out 19 _ _ rfl (hJ.same hcd (by decide) hin rfl (by decide) rfl rfl)
      · clear hcl
        have s5 : b.tmps.getD 5 undef = .pointer (some ⟨g, 0, none⟩) := hS.o 5 (by decide)
        have u0 := (GD.tch hJ.t (by omega)).cell 0
        have u1 := (GD.tch hJ.t (by omega)).cell 1
        go_simp
        exact HK.out 20 _ _ rfl (hJ.same hcd (by decide) hin rfl (by decide) rfl rfl)
      · clear hcl
        have s19 : b.tmps.getD 19 undef = (.pointer (some ⟨cb, 0, none⟩)) := (hS.i 19 (by decide)).trans (hJ.v 1 _ rfl (hwt ⟨1, .data⟩ (by simp) rfl))
        have s20 : b.tmps.getD 20 undef = (.agg #[.slice A n c, .slice B m d]) := (hS.i 20 (by decide)).trans (hJ.v 2 _ rfl (hwt ⟨2, .data⟩ (by simp) rfl))
        go_simp
        refine (l6Batch_any _ hJ.c (gis_grd (JD.tch hJ.t (.inr hcl)) hn hm) hn hm 6 (by omega)).mono ?_
        rintro e w6 ⟨C, k, f6, rfl, hk, ⟨LL, o5⟩, C6, t6⟩
        have hzz := hJ.t.size
        have hll := o5.1
        rw [cgcs_len] at hll
        go_simp
        exact HK.out 21 _ _ rfl (hJ.put hcd (by decide) hin rfl (by decide) rfl t6 C6 ⟨C, k, f6, LL, rfl, (by dsimp only; omega), (by omega), own_rebase o5 hzz⟩)
      · clear hcl
        have s18 : b.tmps.getD 18 undef = (.agg #[.slice A n c, .slice B m d]) := (hS.i 18 (by decide)).trans (hJ.v 0 _ rfl (hwt ⟨0, .data⟩ (by simp) rfl))
        obtain ⟨C3, k3, f3, l3, hs3, hp3, hk3, o3⟩ := hJ.v 3 _ rfl (hwt ⟨3, .data⟩ (by simp) rfl)
        have s21 : b.tmps.getD 21 undef = .agg #[.slice C3 k3 f3] := (hS.i 21 (by decide)).trans hs3
        have hll := o3.1
        rw [cgcs_len] at hll
        go_simp
        refine (l6Apply_run _ (gis_grd (JD.tch hJ.t (.inr hcl)) hn hm) (crd_of o3 hk3) (by omega)).mono ?_
        rintro e w6 ⟨A2, n2, c2, B2, m2, d2, rfl, J2, hb⟩
        have hzz := hJ.t.size
        go_simp
        exact HK.out 22 _ _ rfl (hJ.put hcd (by decide) hin rfl (by decide) rfl (Tch.of_below hb) (hJ.c.below hb) ⟨_, _, _, _, _, _, _, _, rfl, trivial, OwG.of J2 hzz⟩)
      · clear hcl
        obtain ⟨A4, n4, c4, B4, m4, d4, g4, b4, hs4, hp4, o4⟩ := hJ.v 4 _ rfl (hwt ⟨4, .data⟩ (by simp) rfl)
        have s22 : b.tmps.getD 22 undef = .tuple #[.agg #[.slice A4 n4 c4, .slice B4 m4 d4], .bool b4] := (hS.i 22 (by decide)).trans hs4
        go_simp
        exact HK.out 17 _ _ rfl (hJ.same hcd (by decide) hin rfl (by decide) rfl ⟨_, _, _, _, _, _, _, _, rfl, trivial, o4⟩)
      · clear hcl
        obtain ⟨A5, n5, c5, B5, m5, d5, g5, b5, hs5, hp5, o5⟩ := hJ.v 5 _ rfl (hwt ⟨5, .data⟩ (by simp) rfl)
        have s17 : b.tmps.getD 17 undef = .tuple #[.agg #[.slice A5 n5 c5, .slice B5 m5 d5], .bool b5] := (hS.i 17 (by decide)).trans hs5
        go_simp
        exact HK.out 23 _ _ rfl (hJ.same hcd (by decide) hin rfl (by decide) rfl ⟨_, _, _, _, _, _, _, rfl, trivial, o5⟩)
      · clear hcl
        obtain ⟨A5, n5, c5, B5, m5, d5, g5, b5, hs5, hp5, o5⟩ := hJ.v 5 _ rfl (hwt ⟨5, .data⟩ (by simp) rfl)
        have s17 : b.tmps.getD 17 undef = .tuple #[.agg #[.slice A5 n5 c5, .slice B5 m5 d5], .bool b5] := (hS.i 17 (by decide)).trans hs5
        go_simp
        exact HK.out 24 _ _ rfl (hJ.same hcd (by decide) hin rfl (by decide) rfl ⟨_, rfl⟩)
      · go_simp
        have hN9 : L 9 = false := by
          cases h9 : L 9 with
          | false => rfl
          | true =>
            have := hcl 9 _ rfl h9 ⟨8, .data⟩ (by simp) rfl
            rw [hLi] at this
            cases this
        exact HK.out 6 _ _ rfl (hJ.put hcd (by decide) hin rfl (by decide) rfl (Tch.of_below ((Below.refl _ _).alloc (Nat.le_refl _) _)) (hJ.c.below ((Below.refl _ _).alloc (Nat.le_refl _) _)) ⟨_, rfl, hJ.t.size, (fun _ => Blk.new _ _ _), (fun hl => by simp [set1] at hl; rw [hN9] at hl; cases hl)⟩)
      · clear hcl
        obtain ⟨A6, n6, c6, B6, m6, d6, g6, hs6, hp6, o6⟩ := hJ.v 6 _ rfl (hwt ⟨6, .data⟩ (by simp) rfl)
        have s23 : b.tmps.getD 23 undef = .agg #[.slice A6 n6 c6, .slice B6 m6 d6] := (hS.i 23 (by decide)).trans hs6
        obtain ⟨x8, hs8, hb8, hz8, hy8⟩ := hJ.v 8 _ rfl (hwt ⟨8, .data⟩ (by simp) rfl)
        have s6 : b.tmps.getD 6 undef = .pointer (some ⟨x8, 0, none⟩) := (hS.i 6 (by decide)).trans hs8
        go_simp
        have X := hz8 hLi
        have y0 := X.cell 0
        have y1 := X.cell 1
        have v0 := X.frozen 0
        have v1 := X.frozen 1
        have hxb := hb8
        go_simp
        refine HN.out _ rfl (hJ.sto (P := fun _ => True) hLi rfl ?_ hs8 hb8 X trivial o6 (fun i u w2 t => t.past hb8 i u) ?_)
        · intro j P2 hj
          match j, hj with
          | 8, hj => exact ⟨(by simpa using hj.symm), rfl⟩
          | 9, hj => cases hj
          | 10, hj => cases hj
          | k + 11, hj => simp at hj
        · exact hJ.c.tch (((Tch.refl x8 (x8 + 1) _).setCell (p := ⟨x8, 0, none⟩) (Nat.le_refl _) (Nat.lt_succ_self _) _).setCell (p := ⟨x8, 1, none⟩) (Nat.le_refl _) (Nat.lt_succ_self _) _) (by omega)
      · clear hcl
        obtain ⟨b7, hs7⟩ := hJ.v 7 _ rfl (hwt ⟨7, .data⟩ (by simp) rfl)
        have s24 : b.tmps.getD 24 undef = .bool b7 := (hS.i 24 (by decide)).trans hs7
        go_simp
        exact HK.out 7 _ _ rfl (hJ.same hcd (by decide) hin rfl (by decide) rfl ⟨_, rfl⟩)
    case hend =>
      intro L f w' hall hJ
      obtain ⟨bx, h6_, hbx, _, hy⟩ := hJ.v 8 _ rfl (hall 8 (by decide))
      obtain ⟨A2, n2, c2, B2, m2, d2, g2, X6, _, O6⟩ := hy (hall 9 (by decide))
      have tF := hJ.t
      have GF := GD.tch tF (by omega)
      have RF := RD.tch tF (by omega)
      have QF := QD.tch tF (by omega)
      have JF := JD.tch tF (.inr hcl)
      have BF := below_tch BD tF (by omega)
      have hb6 : g < bx := by omega
      clear hall hJ hy
      change f 6 = _ at h6_
      simp only [chs, Act.put, List.setIfInBounds_toArray, List.set_cons_zero, List.set_cons_succ, h6_]
      have hq5 := QD.lt
      have hr5 := RD.lt
      have hb7 : w3.heap.size ≤ bx := hbx
      have hz3 : g < w3.heap.size := hgd
      have ne1 : w.heap.size ≠ g := by omega
      have ne2 : w.heap.size + 1 ≠ g := by omega
      have ne3 : w.heap.size + 1 ≠ w.heap.size := by omega
      have ne4 : w.heap.size ≠ w.heap.size + 1 := by omega
      have ne5 : w.heap.size ≠ bx := by omega
      have ne6 : w.heap.size + 1 ≠ bx := by omega
      have r0 := RF.cell 0
      have r1 := RF.cell 1
      have q0 := RF.frozen 0
      have q1 := RF.frozen 1
      have r2 := QF.cell 0
      have r3 := QF.cell 1
      have q2 := QF.frozen 0
      have q3 := QF.frozen 1
      have a0 := GF.cell 0
      have a1 := GF.cell 1
      have a2 := X6.cell 0
      have a3 := X6.cell 1
      have s0 := RF.drew.cell 0
      have s1 := RF.drew.cell 1
      have p0 := RF.drew.frozen 0
      have p1 := RF.drew.frozen 1
      have s2 := QF.drew.cell 0
      have s3 := QF.drew.cell 1
      have p2 := QF.drew.frozen 0
      have p3 := QF.drew.frozen 1
      have e0 := GF.drew.cell 0
      have e1 := GF.drew.cell 1
      have e2 := X6.drew.cell 0
      have e3 := X6.drew.cell 1
      have JE := JF.below ((Below.refl _ _).drew)
      have OE := O6.below ((Below.refl _ _).drew)
      have BE := BF.drew
      clear JF O6 BF GF X6
      go_wp2_with fail
      go_region
      all_goals
        go_wp2
        refine bodyPost_ret (v := .tuple #[.agg #[.slice A n c, .slice B m d], .agg #[.slice A2 n2 c2, .slice B2 m2 d2]]) ?_ rfl ?_
        · simp [results, Tryz.results31, go_sem]
          go_simp
        · refine ⟨A, n, c, B, m, d, A2, n2, c2, B2, m2, d2, rfl, ⟨_, gis_grd (JE.tch (lo := w.heap.size) (hi := w.heap.size + 2) ?_ (.inr hrl)) hn hm⟩, ⟨_, (OE.past (lo := w.heap.size) (hi := w.heap.size + 2) ?_ (by omega)).grd⟩, below_tch (lo := w.heap.size) (hi := w.heap.size + 2) BE ?_ (Nat.le_refl _)⟩
          all_goals
            simp only [set_drew]
            repeat (with_reducible refine Tch.sc ?_ (by omega) (by omega) _ _)
            exact Tch.refl _ _ _
  · have kd0 : w3.drew.cell? ⟨g, 0, none⟩ = some (.slice A n c) := GD.cell 0
    have kd1 : w3.drew.cell? ⟨g, 1, none⟩ = some (.slice B m d) := GD.cell 1
    have ne1 : w.heap.size ≠ g := by omega
    have ne2 : w.heap.size + 1 ≠ g := by omega
    have ne3 : w.heap.size + 1 ≠ w.heap.size := by omega
    have ne4 : w.heap.size ≠ w.heap.size + 1 := by omega
    go_wp2_with fail
    go_region_held3 (fun w' => w'.cell? ⟨g, 0, none⟩ = some (.slice A n c) ∧ w'.cell? ⟨g, 1, none⟩ = some (.slice B m d)) (first | with_reducible exact ⟨kd0, kd1⟩ | with_reducible exact ⟨y0, y1⟩ | (simp only [y0, y1, World.cell?_setCell_far, ne1, ne2, ne_eq, not_false_eq_true, and_self])) (first
      | (go_simp; go_at_call 74; refine (l3Any_any _ CD).mono ?_; rintro e w5 ⟨A2, n2, c2, B2, m2, d2, rfl, hn2, hm2, ⟨vs2, es2, J2⟩, C5, t5⟩; have G5 := GD.tch t5 (by omega); have y0 : w5.cell? ⟨g, 0, none⟩ = some (.slice A n c) := G5.cell 0; have y1 : w5.cell? ⟨g, 1, none⟩ = some (.slice B m d) := G5.cell 1; have R5 := RD.tch t5 (by omega); have Q5 := QD.tch t5 (by omega); have r0 := R5.cell 0; have r1 := R5.cell 1; have q0 := R5.frozen 0; have q1 := R5.frozen 1; have r2 := Q5.cell 0; have q2 := Q5.frozen 0; have r3 := Q5.cell 1; have q3 := Q5.frozen 1; have J5 := JD.tch t5 (.inr hcl); have B5 := below_tch BD t5 (by omega)))
    all_goals
      go_wp2
      refine bodyPost_ret (v := .tuple #[.agg #[.slice A n c, .slice B m d], .agg #[.slice A2 n2 c2, .slice B2 m2 d2]]) ?_ rfl ?_
      · simp [results, Tryz.results31, go_sem]
        go_simp
      · have hq5 := QD.lt
        refine ⟨A, n, c, B, m, d, A2, n2, c2, B2, m2, d2, rfl, ⟨_, gis_grd (J5.tch (lo := w.heap.size) (hi := w.heap.size + 2) ?_ (.inr hrl)) hn hm⟩, ⟨_, gis_grd (J2.tch (lo := w.heap.size) (hi := w.heap.size + 2) ?_ (.inr (by omega))) hn2 hm2⟩, below_tch (lo := w.heap.size) (hi := w.heap.size + 2) B5 ?_ (Nat.le_refl _)⟩
        all_goals
          repeat (with_reducible refine Tch.sc ?_ (by omega) (by omega) _ _)
          exact Tch.refl _ _ _
end Go.Proofs.YtomkgnamjfiocaaGreatDoor
