/- A batch drawn: l6Batch. (Printed by wip/drw_b.py.) -/
import Derived.Test.YtomkgnamjfiocaaGreatDoorDrwB
namespace Go.Proofs.YtomkgnamjfiocaaGreatDoor
open Go.RowKit Go.ChangeShapes Go.WideShapes Go.ChangeAt Go.Deep
set_option linter.unusedVariables false
theorem crd_lit (w : World) (x : Cg) : CRd (w.alloc (.cells #[.bool x.ins, .int .i64 x.e.id, .int .i64 x.e.fr, .int .i64 x.e.to, .int .i64 x.e.lb] 92)) (some ⟨w.heap.size, 0, none⟩) 1 [x] := by
  have X := Blk.new w 92 (cgcs [x]).toArray
  refine ⟨rfl, row_reads rfl X.lt fun j u hu => ?_, by omega⟩
  exact (X.cell j).trans (by rw [List.getElem?_toArray]; exact hu)
set_option maxRecDepth 4000 in
set_option maxHeartbeats 32000000 in
theorem l6Batch_any (w : World) {cb : Nat} (hC : Cur w cb) {A : Option Addr} {n c : Nat} {B : Option Addr} {m d : Nat} {g : G} (hG : GRd w A n B m g) (hn : n ≤ 5) (hm : m ≤ 12) (most : Nat) (hmost : most ≤ 100) :
    Calls Tryz.prog 76 #[.pointer (some ⟨cb, 0, none⟩), .agg #[.slice A n c, .slice B m d], .int .i64 most] w fun e w' => ∃ A2 n2 c2, e = .returned (.agg #[.slice A2 n2 c2]) ∧ n2 ≤ most ∧ (∃ L : List Cg, w'.ownsRow w.heap.size 92 5 (.slice A2 n2 c2) n2 (cgcs L)) ∧ Cur w' cb ∧ Tch cb (cb + 1) w w' := by
  have hcb := hC.lt
  have bG : Below w.heap.size w (w.alloc (.cells #[.slice A n c, .slice B m d] 27)) := (Below.refl _ _).alloc (Nat.le_refl _) _
  have bR : Below w.heap.size w ((w.alloc (.cells #[.slice A n c, .slice B m d] 27)).alloc (.cells #[.slice none 0 0] 47)) := bG.alloc bG.size _
  have bB : Below w.heap.size w (((w.alloc (.cells #[.slice A n c, .slice B m d] 27)).alloc (.cells #[.slice none 0 0] 47)).alloc (.cells #[.slice none 0 0] 47)) := bR.alloc bR.size _
  have XR := (Blk.new (w.alloc (.cells #[.slice A n c, .slice B m d] 27)) 47 #[.slice none 0 0]).alloc (.cells #[.slice none 0 0] 47)
  have XB := Blk.new ((w.alloc (.cells #[.slice A n c, .slice B m d] 27)).alloc (.cells #[.slice none 0 0] 47)) 47 #[.slice none 0 0]
  simp only [World.size_alloc] at XR XB
  rw [show w.heap.size + 1 + 1 = w.heap.size + 2 from rfl] at XB
  have hG0 := hG.up bB
  have C0 := hC.below bB
  have hwr : IntKind.i64.wrap ((most : Int) + 1) = (most : Int) + 1 := IntWalk.i64_in _ (by omega)
  go_enter Tryz.func76, Tryz.ntmps76
  go_wp2_with fail
  generalize ((w.alloc (.cells #[.slice A n c, .slice B m d] 27)).alloc (.cells #[.slice none 0 0] 47)).alloc (.cells #[.slice none 0 0] 47) = w0 at *
  refine (l3Copy_is w0 hG0).mono ?_
  rintro e w1 ⟨A1, c1, B1, d1, rfl, J1, b1⟩
  have T0 : Tch cb (cb + 1) w w0 := Tch.of_below bB
  have XR1 := XR.below b1 XR.lt
  have XB1 := XB.below b1 XB.lt
  have C1 := C0.below b1
  have T1 := T0.below b1
  have b8 : Below w1.heap.size w1 (w1.alloc (.cells #[.slice A1 n c1, .slice B1 m d1] 27)) := (Below.refl _ _).alloc (Nat.le_refl _) _
  have hle1 : w.heap.size ≤ w0.heap.size := bB.size
  have HB : Bt w cb w1.heap.size (.slice none 0 0) 0 [] A1 n c1 B1 m d1 g (w1.alloc (.cells #[.slice A1 n c1, .slice B1 m d1] 27)) := ⟨hcb, XB1.lt, hn, hm, rfl, XR1.below b8 XR1.lt, XB1.below b8 XB1.lt, World.ownsRow_nil _ _ _ _, Blk.new w1 27 #[.slice A1 n c1, .slice B1 m d1], own_below (own_rebase J1.ou.own.row hle1) b8 (Nat.le_refl _), own_below (own_rebase J1.ov.own.row hle1) b8 (Nat.le_refl _), C1.below b8, T1.below b8⟩
  generalize hw2 : w1.alloc (.cells #[.slice A1 n c1, .slice B1 m d1] 27) = w2 at *
  generalize hg8 : w1.heap.size = g8 at *
  have HW2 := Lib.hid hw2
  have HG8 := Lib.hid hg8
  clear hw2 hg8 b8 b1 J1 T0 XR XB XR1 XB1 C0 C1 T1 hG hG0 bG bR bB hle1
  go_wp2_with fail
  rw [HW2.out, HG8.out]
  refine (l1Below_all w2 HB.CR ((most : Int) + 1) (by omega)).mono ?_
  rintro e w3 ⟨q, rfl, hq0, hq1, C3, t3⟩
  obtain ⟨p, rfl, hp⟩ : ∃ p : Nat, q = (p : Int) ∧ p ≤ most := ⟨q.toNat, by omega, by omega⟩
  replace HB := HB.tch t3 C3
  clear t3 C3 hwr HW2 HG8
  go_wp2
  go_loopw [9] (fun i wr => ∃ (p : Nat) (v : Value) (k : Nat) (L : List Cg) (A : Option Addr) (n c : Nat) (B : Option Addr) (m d : Nat) (gx : G), i = .int .i64 p ∧ k + p ≤ most ∧ Bt w cb g8 v k L A n c B m d gx wr) (fun i _ => (intOf i).toNat)
  case atStart => exact ⟨p, _, 0, [], A1, n, c1, B1, m, d1, g, rfl, by omega, HB⟩
  case round =>
    clear HB hn hm hp hq0 hq1
    obtain ⟨p, v, k, L, A3, n, c3, B3, m, d3, gx, rfl, hp, HB⟩ := hrel
    obtain ⟨V3, e3, rfl, _⟩ := own_form HB.ho
    have hz8 := HB.h8
    rcases Nat.eq_zero_or_pos p with rfl | hp0
    · have hpos : ¬ (0 : Int) < ((0 : Nat) : Int) := by omega
      have hkm : k ≤ most := by omega
      have b0 := HB.XB.cell 0
      have r0 := HB.XR.cell 0
      have q0 := HB.XR.frozen 0
      have OF := own_set (i := 0) (u := .slice V3 k e3) HB.ho HB.XR (by decide)
      have CF := HB.CR.tch ((Tch.refl (w.heap.size + 1) (w.heap.size + 2) wr).setCell (p := ⟨w.heap.size + 1, 0, none⟩) (Nat.le_refl _) (Nat.lt_succ_self _) (.slice V3 k e3)) (by omega)
      have TF := HB.T.past (Nat.le_succ _) 0 (.slice V3 k e3)
      clear HB
      go_wp2
      refine bodyPost_ret (v := .agg #[.slice V3 k e3]) ?_ rfl ?_
      · simp [results, Tryz.results76, go_sem]
        go_simp
      · exact ⟨_, _, _, rfl, hkm, ⟨L, OF⟩, CF, TF⟩
    · obtain ⟨r, rfl⟩ : ∃ r, p = r + 1 := ⟨p - 1, by omega⟩
      have hpos : (0 : Int) < ((r + 1 : Nat) : Int) := by omega
      have hw1 : IntKind.i64.wrap (((r + 1 : Nat) : Int) - 1) = (r : Int) := by rw [IntKind.wrap_i64]; omega
      have x0 := HB.X8.cell 0
      have x1 := HB.X8.cell 1
      go_wp2_with fail
      refine (l3Some_any wr HB.CR HB.n5).mono ?_
      rintro e w5 ⟨x, rfl, C5, t5⟩
      replace HB := HB.tch t5 C5
      clear x0 x1 t5 C5
      have bD : Below w5.heap.size w5 (w5.alloc (.cells #[.bool true, .int .i64 x.id, .int .i64 x.fr, .int .i64 x.to, .int .i64 x.lb] 92)) := (Below.refl _ _).alloc (Nat.le_refl _) _
      have XD := Blk.new w5 92 #[.bool true, .int .i64 x.id, .int .i64 x.fr, .int .i64 x.to, .int .i64 x.lb]
      have hne : ∀ q, (Value.slice V3 k e3).ownBlock = some q → q ≠ w5.heap.size := fun q hq => Nat.ne_of_lt (ownBlock_some HB.ho hq).2
      have hz : w.heap.size ≤ w5.heap.size := HB.T.size
      have hcz : cb < w5.heap.size := Nat.lt_of_lt_of_le HB.hcb hz
      replace HB := HB.below bD
      clear bD
      have hbm := HB.m12
      have x1 := HB.X8.cell 1
      rcases Nat.eq_zero_or_pos m with h0 | h0
      · subst h0
        have hm0 : ¬ (0 : Int) < ((0 : Nat) : Int) := by omega
        have y0 := HB.XB.cell 0
        rcases Nat.eq_zero_or_pos k with hk0 | hk0
        · subst hk0
          have hkz : ¬ (0 : Int) < ((0 : Nat) : Int) := by omega
          have x0_ := HB.X8.cell 0
          have x1_ := HB.X8.cell 1
          have z0_ := XD.cell 0
          have z1_ := XD.cell 1
          have z2_ := XD.cell 2
          have z3_ := XD.cell 3
          have z4_ := XD.cell 4
          have bA : Below (World.heap (w5.alloc (.cells #[.bool true, .int .i64 x.id, .int .i64 x.fr, .int .i64 x.to, .int .i64 x.lb] 92))).size (w5.alloc (.cells #[.bool true, .int .i64 x.id, .int .i64 x.fr, .int .i64 x.to, .int .i64 x.lb] 92)) ((w5.alloc (.cells #[.bool true, .int .i64 x.id, .int .i64 x.fr, .int .i64 x.to, .int .i64 x.lb] 92)).alloc (.cells #[.bool true, .int .i64 x.id, .int .i64 x.fr, .int .i64 x.to, .int .i64 x.lb] 92)) := (Below.refl _ _).alloc (Nat.le_refl _) _
          have HBa := HB.below bA
          have XDa := XD.below bA XD.lt
          have hcr := crd_lit (w5.alloc (.cells #[.bool true, .int .i64 x.id, .int .i64 x.fr, .int .i64 x.to, .int .i64 x.lb] 92)) ⟨true, x⟩
          have hlz : gx.vs.length = n := by simpa using HB.ov.1
          have hr1 := rG_one (g := gx) (c := ⟨true, x⟩) (by have := HB.oe.1; rw [ecs_len] at this; omega)
          obtain ⟨is, his⟩ : ∃ is, (rG gx [⟨true, x⟩]).2 = is := ⟨_, rfl⟩
          obtain ⟨gy, hgy⟩ : ∃ gy, (rG gx [⟨true, x⟩]).1 = gy := ⟨_, rfl⟩
          have hap := fun mm BB (h : GRd ((w5.alloc (.cells #[.bool true, .int .i64 x.id, .int .i64 x.fr, .int .i64 x.to, .int .i64 x.lb] 92)).alloc (.cells #[.bool true, .int .i64 x.id, .int .i64 x.fr, .int .i64 x.to, .int .i64 x.lb] 92)) A3 n BB mm gx) => l6Apply_run ((w5.alloc (.cells #[.bool true, .int .i64 x.id, .int .i64 x.fr, .int .i64 x.to, .int .i64 x.lb] 92)).alloc (.cells #[.bool true, .int .i64 x.id, .int .i64 x.fr, .int .i64 x.to, .int .i64 x.lb] 92)) (c := c3) (d := d3) (cc := 1) h hcr (by omega)
          simp only [his, hgy] at hap
          rw [hgy] at hr1
          have HAP := Lib.hid hap
          have HLZ := Lib.hid hlz
          have HR1 := Lib.hid hr1
          clear hap his hgy hcr hlz hr1
          go_wp2_with fail
          rw [show w5.heap.size + 1 = (World.heap (w5.alloc (.cells #[.bool true, .int .i64 x.id, .int .i64 x.fr, .int .i64 x.to, .int .i64 x.lb] 92))).size from by simp]
          with_reducible refine (HAP.out _ _ HBa.grd).mono ?_
          rintro e w9 ⟨A4, n4, c4, B4, m4, d4, rfl, J, hb⟩
          replace HB := HBa.below hb
          have hyz : cb < w9.heap.size := HB.CR.lt
          replace XD := XDa.below hb XDa.lt
          have hn4 : n4 ≤ 5 := by have h1 := J.ou.len; rw [List.length_map, HR1.out.1, HLZ.out] at h1; have := HB.n5; omega
          have hm4 : m4 ≤ 12 := by have h1 := J.ov.len; rw [ecs_len] at h1; have := HR1.out.2; omega
          have hle4 : w.heap.size ≤ (World.heap ((w5.alloc (.cells #[.bool true, .int .i64 x.id, .int .i64 x.fr, .int .i64 x.to, .int .i64 x.lb] 92)).alloc (.cells #[.bool true, .int .i64 x.id, .int .i64 x.fr, .int .i64 x.to, .int .i64 x.lb] 92))).size := HBa.T.size
          have ov4 := own_rebase J.ou.own.row hle4
          have oe4 := own_rebase J.ov.own.row hle4
          clear HBa XDa bA hb J HAP x0_ x1_ z0_ z1_ z2_ z3_ z4_
          have bY : Below w9.heap.size w9 (w9.alloc (.cells #[.slice A4 n4 c4, .slice B4 m4 d4] 27)) := (Below.refl _ _).alloc (Nat.le_refl _) _
          have XY := Blk.new w9 27 #[.slice A4 n4 c4, .slice B4 m4 d4]
          replace HB := HB.below bY
          replace XD := XD.below bY XD.lt
          replace ov4 := own_below ov4 bY (Nat.le_refl _)
          replace oe4 := own_below oe4 bY (Nat.le_refl _)
          clear bY
          cases is
          · go_wp2_with fail
            refine (l1Once_any _ HB.CR 12 (by omega) (by omega)).mono ?_
            rintro e w10 ⟨q, rfl, C10, t10⟩
            replace HB := HB.tch t10 C10
            replace XD := XD.tch t10 (by omega)
            replace XY := XY.tch t10 (by omega)
            replace ov4 := own_tch ov4 t10 HB.hcb
            replace oe4 := own_tch oe4 t10 HB.hcb
            clear t10 C10
            cases q
            · clear XD XY ov4 oe4
              go_wp2
              go_roundw
              case rel => exact ⟨r, _, _, L, A3, n, c3, _, _, d3, gx, by go_num, by omega, HB⟩
              case measure => simp [intOf] <;> omega
            · have bA : Below (World.heap w10).size w10 (w10.alloc (.cells #[.bool true, .int .i64 x.id, .int .i64 x.fr, .int .i64 x.to, .int .i64 x.lb] 92)) := (Below.refl _ _).alloc (Nat.le_refl _) _
              have y0 := HB.XB.cell 0
              have z0_ := XD.cell 0
              have z1_ := XD.cell 1
              have z2_ := XD.cell 2
              have z3_ := XD.cell 3
              have z4_ := XD.cell 4
              have HBa := HB.below bA
              have XYa := XY.below bA XY.lt
              have ov5 := own_below ov4 bA (Nat.le_refl _)
              have oe5 := own_below oe4 bA (Nat.le_refl _)
              have rdn := (crd_lit w10 ⟨true, x⟩).rd
              skip
              have q3 : Small (0 + 1) := small_of (by omega)
              have hle : w.heap.size ≤ (World.heap (w10.alloc (.cells #[.bool true, .int .i64 x.id, .int .i64 x.fr, .int .i64 x.to, .int .i64 x.lb] 92))).size := HBa.T.size
              clear bA HB XD XY ov4 oe4
              go_wp2_with (at_builtin; refine ap_plain _ app_change (by decide) w.heap.size (.tmp 83) (.tmp 85) rfl rfl _ _ _ rfl HBa.ho _ _ 1 1 _ rfl rdn (cgcs_one _) q3 hle ?_; intro v7 w7 hown7 hg7 hat7; clear hat7; obtain ⟨V7, e7, rfl, _⟩ := own_form hown7; have XB7 := blk_grown HBa.XB HBa.ho hg7 (by decide); have b7 := XB7.cell 0; have bf7 := XB7.frozen 0; have XY7 := (blk_grown XYa HBa.ho hg7 (by decide)).far_ (blk_ne (blk_grown XYa HBa.ho hg7 (by decide)) XB7 (by decide)) 0 (.slice V7 (0 + 1) e7); have m0 := XY7.cell 0; have m1 := XY7.cell 1; have HB7 := HBa.app ⟨true, x⟩ (v' := .slice V7 (0 + 1) e7) hg7 (by rw [cgcs_append]; exact hown7); have n0 := HB7.X8.cell 0; have n1 := HB7.X8.cell 1; have nf0 := HB7.X8.frozen 0; have nf1 := HB7.X8.frozen 1)
              have ov7 := own_set (i := 0) (u := .slice V7 (0 + 1) e7) (own_same ov5 fun q hq => hg7.block q (ownBlock_some ov5 hq).2 fun hh => own_ne ov5 HBa.ho (by decide) q hq hh.symm) XB7 (by decide)
              have oe7 := own_set (i := 0) (u := .slice V7 (0 + 1) e7) (own_same oe5 fun q hq => hg7.block q (ownBlock_some oe5 hq).2 fun hh => own_ne oe5 HBa.ho (by decide) q hq hh.symm) XB7 (by decide)
              have HB9 := HB7.lay hn4 hm4 ov7 oe7
              go_roundw
              case rel => exact ⟨r, _, 0 + 1, _, A4, n4, c4, B4, m4, d4, gy, by go_num, by omega, HB9⟩
              case measure => simp [intOf] <;> omega
          · have bA : Below (World.heap (w9.alloc (.cells #[.slice A4 n4 c4, .slice B4 m4 d4] 27))).size (w9.alloc (.cells #[.slice A4 n4 c4, .slice B4 m4 d4] 27)) ((w9.alloc (.cells #[.slice A4 n4 c4, .slice B4 m4 d4] 27)).alloc (.cells #[.bool true, .int .i64 x.id, .int .i64 x.fr, .int .i64 x.to, .int .i64 x.lb] 92)) := (Below.refl _ _).alloc (Nat.le_refl _) _
            have y0 := HB.XB.cell 0
            have z0_ := XD.cell 0
            have z1_ := XD.cell 1
            have z2_ := XD.cell 2
            have z3_ := XD.cell 3
            have z4_ := XD.cell 4
            have HBa := HB.below bA
            have XYa := XY.below bA XY.lt
            have ov5 := own_below ov4 bA (Nat.le_refl _)
            have oe5 := own_below oe4 bA (Nat.le_refl _)
            have rdn := (crd_lit (w9.alloc (.cells #[.slice A4 n4 c4, .slice B4 m4 d4] 27)) ⟨true, x⟩).rd
            rw [show (World.heap (w9.alloc (.cells #[.slice A4 n4 c4, .slice B4 m4 d4] 27))).size = w9.heap.size + 1 from by simp] at rdn
            have q3 : Small (0 + 1) := small_of (by omega)
            have hle : w.heap.size ≤ (World.heap ((w9.alloc (.cells #[.slice A4 n4 c4, .slice B4 m4 d4] 27)).alloc (.cells #[.bool true, .int .i64 x.id, .int .i64 x.fr, .int .i64 x.to, .int .i64 x.lb] 92))).size := HBa.T.size
            clear bA HB XD XY ov4 oe4
            go_wp2_with (at_builtin; refine ap_plain _ app_change (by decide) w.heap.size (.tmp 83) (.tmp 85) rfl rfl _ _ _ rfl HBa.ho _ _ 1 1 _ rfl rdn (cgcs_one _) q3 hle ?_; intro v7 w7 hown7 hg7 hat7; clear hat7; obtain ⟨V7, e7, rfl, _⟩ := own_form hown7; have XB7 := blk_grown HBa.XB HBa.ho hg7 (by decide); have b7 := XB7.cell 0; have bf7 := XB7.frozen 0; have XY7 := (blk_grown XYa HBa.ho hg7 (by decide)).far_ (blk_ne (blk_grown XYa HBa.ho hg7 (by decide)) XB7 (by decide)) 0 (.slice V7 (0 + 1) e7); have m0 := XY7.cell 0; have m1 := XY7.cell 1; have HB7 := HBa.app ⟨true, x⟩ (v' := .slice V7 (0 + 1) e7) hg7 (by rw [cgcs_append]; exact hown7); have n0 := HB7.X8.cell 0; have n1 := HB7.X8.cell 1; have nf0 := HB7.X8.frozen 0; have nf1 := HB7.X8.frozen 1)
            have ov7 := own_set (i := 0) (u := .slice V7 (0 + 1) e7) (own_same ov5 fun q hq => hg7.block q (ownBlock_some ov5 hq).2 fun hh => own_ne ov5 HBa.ho (by decide) q hq hh.symm) XB7 (by decide)
            have oe7 := own_set (i := 0) (u := .slice V7 (0 + 1) e7) (own_same oe5 fun q hq => hg7.block q (ownBlock_some oe5 hq).2 fun hh => own_ne oe5 HBa.ho (by decide) q hq hh.symm) XB7 (by decide)
            have HB9 := HB7.lay hn4 hm4 ov7 oe7
            go_roundw
            case rel => exact ⟨r, _, 0 + 1, _, A4, n4, c4, B4, m4, d4, gy, by go_num, by omega, HB9⟩
            case measure => simp [intOf] <;> omega
        · have hkz : (0 : Int) < (k : Int) := by omega
          go_wp2_with fail
          refine (l1Once_any _ HB.CR 4 (by omega) (by omega)).mono ?_
          rintro e w8 ⟨q, rfl, C8, t8⟩
          replace HB := HB.tch t8 C8
          replace XD := XD.tch t8 (by omega)
          clear t8 C8 x1 y0
          cases q
          · have x0_ := HB.X8.cell 0
            have x1_ := HB.X8.cell 1
            have z0_ := XD.cell 0
            have z1_ := XD.cell 1
            have z2_ := XD.cell 2
            have z3_ := XD.cell 3
            have z4_ := XD.cell 4
            have bA : Below (World.heap w8).size w8 (w8.alloc (.cells #[.bool true, .int .i64 x.id, .int .i64 x.fr, .int .i64 x.to, .int .i64 x.lb] 92)) := (Below.refl _ _).alloc (Nat.le_refl _) _
            have HBa := HB.below bA
            have XDa := XD.below bA XD.lt
            have hcr := crd_lit w8 ⟨true, x⟩
            have hlz : gx.vs.length = n := by simpa using HB.ov.1
            have hr1 := rG_one (g := gx) (c := ⟨true, x⟩) (by have := HB.oe.1; rw [ecs_len] at this; omega)
            obtain ⟨is, his⟩ : ∃ is, (rG gx [⟨true, x⟩]).2 = is := ⟨_, rfl⟩
            obtain ⟨gy, hgy⟩ : ∃ gy, (rG gx [⟨true, x⟩]).1 = gy := ⟨_, rfl⟩
            have hap := fun mm BB (h : GRd (w8.alloc (.cells #[.bool true, .int .i64 x.id, .int .i64 x.fr, .int .i64 x.to, .int .i64 x.lb] 92)) A3 n BB mm gx) => l6Apply_run (w8.alloc (.cells #[.bool true, .int .i64 x.id, .int .i64 x.fr, .int .i64 x.to, .int .i64 x.lb] 92)) (c := c3) (d := d3) (cc := 1) h hcr (by omega)
            simp only [his, hgy] at hap
            rw [hgy] at hr1
            have HAP := Lib.hid hap
            have HLZ := Lib.hid hlz
            have HR1 := Lib.hid hr1
            clear hap his hgy hcr hlz hr1
            go_wp2_with fail
            skip
            with_reducible refine (HAP.out _ _ HBa.grd).mono ?_
            rintro e w9 ⟨A4, n4, c4, B4, m4, d4, rfl, J, hb⟩
            replace HB := HBa.below hb
            have hyz : cb < w9.heap.size := HB.CR.lt
            replace XD := XDa.below hb XDa.lt
            have hn4 : n4 ≤ 5 := by have h1 := J.ou.len; rw [List.length_map, HR1.out.1, HLZ.out] at h1; have := HB.n5; omega
            have hm4 : m4 ≤ 12 := by have h1 := J.ov.len; rw [ecs_len] at h1; have := HR1.out.2; omega
            have hle4 : w.heap.size ≤ (World.heap (w8.alloc (.cells #[.bool true, .int .i64 x.id, .int .i64 x.fr, .int .i64 x.to, .int .i64 x.lb] 92))).size := HBa.T.size
            have ov4 := own_rebase J.ou.own.row hle4
            have oe4 := own_rebase J.ov.own.row hle4
            clear HBa XDa bA hb J HAP x0_ x1_ z0_ z1_ z2_ z3_ z4_
            have bY : Below w9.heap.size w9 (w9.alloc (.cells #[.slice A4 n4 c4, .slice B4 m4 d4] 27)) := (Below.refl _ _).alloc (Nat.le_refl _) _
            have XY := Blk.new w9 27 #[.slice A4 n4 c4, .slice B4 m4 d4]
            replace HB := HB.below bY
            replace XD := XD.below bY XD.lt
            replace ov4 := own_below ov4 bY (Nat.le_refl _)
            replace oe4 := own_below oe4 bY (Nat.le_refl _)
            clear bY
            cases is
            · go_wp2_with fail
              refine (l1Once_any _ HB.CR 12 (by omega) (by omega)).mono ?_
              rintro e w10 ⟨q, rfl, C10, t10⟩
              replace HB := HB.tch t10 C10
              replace XD := XD.tch t10 (by omega)
              replace XY := XY.tch t10 (by omega)
              replace ov4 := own_tch ov4 t10 HB.hcb
              replace oe4 := own_tch oe4 t10 HB.hcb
              clear t10 C10
              cases q
              · clear XD XY ov4 oe4
                go_wp2
                go_roundw
                case rel => exact ⟨r, _, _, L, A3, n, c3, _, _, d3, gx, by go_num, by omega, HB⟩
                case measure => simp [intOf] <;> omega
              · have bA : Below (World.heap w10).size w10 (w10.alloc (.cells #[.bool true, .int .i64 x.id, .int .i64 x.fr, .int .i64 x.to, .int .i64 x.lb] 92)) := (Below.refl _ _).alloc (Nat.le_refl _) _
                have y0 := HB.XB.cell 0
                have z0_ := XD.cell 0
                have z1_ := XD.cell 1
                have z2_ := XD.cell 2
                have z3_ := XD.cell 3
                have z4_ := XD.cell 4
                have HBa := HB.below bA
                have XYa := XY.below bA XY.lt
                have ov5 := own_below ov4 bA (Nat.le_refl _)
                have oe5 := own_below oe4 bA (Nat.le_refl _)
                have rdn := (crd_lit w10 ⟨true, x⟩).rd
                skip
                have q3 : Small (k + 1) := small_of (by omega)
                have hle : w.heap.size ≤ (World.heap (w10.alloc (.cells #[.bool true, .int .i64 x.id, .int .i64 x.fr, .int .i64 x.to, .int .i64 x.lb] 92))).size := HBa.T.size
                clear bA HB XD XY ov4 oe4
                go_wp2_with (at_builtin; refine ap_plain _ app_change (by decide) w.heap.size (.tmp 83) (.tmp 85) rfl rfl _ _ _ rfl HBa.ho _ _ 1 1 _ rfl rdn (cgcs_one _) q3 hle ?_; intro v7 w7 hown7 hg7 hat7; clear hat7; obtain ⟨V7, e7, rfl, _⟩ := own_form hown7; have XB7 := blk_grown HBa.XB HBa.ho hg7 (by decide); have b7 := XB7.cell 0; have bf7 := XB7.frozen 0; have XY7 := (blk_grown XYa HBa.ho hg7 (by decide)).far_ (blk_ne (blk_grown XYa HBa.ho hg7 (by decide)) XB7 (by decide)) 0 (.slice V7 (k + 1) e7); have m0 := XY7.cell 0; have m1 := XY7.cell 1; have HB7 := HBa.app ⟨true, x⟩ (v' := .slice V7 (k + 1) e7) hg7 (by rw [cgcs_append]; exact hown7); have n0 := HB7.X8.cell 0; have n1 := HB7.X8.cell 1; have nf0 := HB7.X8.frozen 0; have nf1 := HB7.X8.frozen 1)
                have ov7 := own_set (i := 0) (u := .slice V7 (k + 1) e7) (own_same ov5 fun q hq => hg7.block q (ownBlock_some ov5 hq).2 fun hh => own_ne ov5 HBa.ho (by decide) q hq hh.symm) XB7 (by decide)
                have oe7 := own_set (i := 0) (u := .slice V7 (k + 1) e7) (own_same oe5 fun q hq => hg7.block q (ownBlock_some oe5 hq).2 fun hh => own_ne oe5 HBa.ho (by decide) q hq hh.symm) XB7 (by decide)
                have HB9 := HB7.lay hn4 hm4 ov7 oe7
                go_roundw
                case rel => exact ⟨r, _, k + 1, _, A4, n4, c4, B4, m4, d4, gy, by go_num, by omega, HB9⟩
                case measure => simp [intOf] <;> omega
            · have bA : Below (World.heap (w9.alloc (.cells #[.slice A4 n4 c4, .slice B4 m4 d4] 27))).size (w9.alloc (.cells #[.slice A4 n4 c4, .slice B4 m4 d4] 27)) ((w9.alloc (.cells #[.slice A4 n4 c4, .slice B4 m4 d4] 27)).alloc (.cells #[.bool true, .int .i64 x.id, .int .i64 x.fr, .int .i64 x.to, .int .i64 x.lb] 92)) := (Below.refl _ _).alloc (Nat.le_refl _) _
              have y0 := HB.XB.cell 0
              have z0_ := XD.cell 0
              have z1_ := XD.cell 1
              have z2_ := XD.cell 2
              have z3_ := XD.cell 3
              have z4_ := XD.cell 4
              have HBa := HB.below bA
              have XYa := XY.below bA XY.lt
              have ov5 := own_below ov4 bA (Nat.le_refl _)
              have oe5 := own_below oe4 bA (Nat.le_refl _)
              have rdn := (crd_lit (w9.alloc (.cells #[.slice A4 n4 c4, .slice B4 m4 d4] 27)) ⟨true, x⟩).rd
              rw [show (World.heap (w9.alloc (.cells #[.slice A4 n4 c4, .slice B4 m4 d4] 27))).size = w9.heap.size + 1 from by simp] at rdn
              have q3 : Small (k + 1) := small_of (by omega)
              have hle : w.heap.size ≤ (World.heap ((w9.alloc (.cells #[.slice A4 n4 c4, .slice B4 m4 d4] 27)).alloc (.cells #[.bool true, .int .i64 x.id, .int .i64 x.fr, .int .i64 x.to, .int .i64 x.lb] 92))).size := HBa.T.size
              clear bA HB XD XY ov4 oe4
              go_wp2_with (at_builtin; refine ap_plain _ app_change (by decide) w.heap.size (.tmp 83) (.tmp 85) rfl rfl _ _ _ rfl HBa.ho _ _ 1 1 _ rfl rdn (cgcs_one _) q3 hle ?_; intro v7 w7 hown7 hg7 hat7; clear hat7; obtain ⟨V7, e7, rfl, _⟩ := own_form hown7; have XB7 := blk_grown HBa.XB HBa.ho hg7 (by decide); have b7 := XB7.cell 0; have bf7 := XB7.frozen 0; have XY7 := (blk_grown XYa HBa.ho hg7 (by decide)).far_ (blk_ne (blk_grown XYa HBa.ho hg7 (by decide)) XB7 (by decide)) 0 (.slice V7 (k + 1) e7); have m0 := XY7.cell 0; have m1 := XY7.cell 1; have HB7 := HBa.app ⟨true, x⟩ (v' := .slice V7 (k + 1) e7) hg7 (by rw [cgcs_append]; exact hown7); have n0 := HB7.X8.cell 0; have n1 := HB7.X8.cell 1; have nf0 := HB7.X8.frozen 0; have nf1 := HB7.X8.frozen 1)
              have ov7 := own_set (i := 0) (u := .slice V7 (k + 1) e7) (own_same ov5 fun q hq => hg7.block q (ownBlock_some ov5 hq).2 fun hh => own_ne ov5 HBa.ho (by decide) q hq hh.symm) XB7 (by decide)
              have oe7 := own_set (i := 0) (u := .slice V7 (k + 1) e7) (own_same oe5 fun q hq => hg7.block q (ownBlock_some oe5 hq).2 fun hh => own_ne oe5 HBa.ho (by decide) q hq hh.symm) XB7 (by decide)
              have HB9 := HB7.lay hn4 hm4 ov7 oe7
              go_roundw
              case rel => exact ⟨r, _, k + 1, _, A4, n4, c4, B4, m4, d4, gy, by go_num, by omega, HB9⟩
              case measure => simp [intOf] <;> omega
          · obtain ⟨k', rfl⟩ : ∃ k', k = k' + 1 := ⟨k - 1, by omega⟩
            have hwk : IntKind.i64.wrap (((k' + 1 : Nat) : Int) - 1) = (k' : Int) := by rw [IntKind.wrap_i64]; have := HB.lL; omega
            obtain ⟨rb, ro, rfl, _, y, hy, p0, p1, p2, p3, p4⟩ := change_at (k := k') (Reads.of_own HB.ho) HB.lL (by omega)
            have y0 := HB.XB.cell 0
            have hka : (k' : Int) < ((k' + 1 : Nat) : Int) := by omega
            have hkb : (0 : Int) ≤ (k' : Int) := by omega
            have bZ : Below (World.heap w8).size w8 (w8.alloc (.cells #[.bool y.ins, .int .i64 y.e.id, .int .i64 y.e.fr, .int .i64 y.e.to, .int .i64 y.e.lb] 92)) := (Below.refl _ _).alloc (Nat.le_refl _) _
            have HBy := HB.below bZ
            have XDy := XD.below bZ XD.lt
            have k0 := XDy.cell 0
            have k1 := XDy.cell 1
            have k2 := XDy.cell 2
            have k3 := XDy.cell 3
            have k4 := XDy.cell 4
            have f0 := XDy.frozen 0
            have f1 := XDy.frozen 1
            have f2 := XDy.frozen 2
            have f3 := XDy.frozen 3
            have f4 := XDy.frozen 4
            have H0 := HBy.chg XDy hz hne 0 (.bool (!y.ins))
            have Z0 := XDy.set_ 0 (.bool (!y.ins))
            have H1 := H0.chg Z0 hz hne 1 (.int .i64 y.e.id)
            have Z1 := Z0.set_ 1 (.int .i64 y.e.id)
            have H2 := H1.chg Z1 hz hne 2 (.int .i64 y.e.fr)
            have Z2 := Z1.set_ 2 (.int .i64 y.e.fr)
            have H3 := H2.chg Z2 hz hne 3 (.int .i64 y.e.to)
            have Z3 := Z2.set_ 3 (.int .i64 y.e.to)
            have H4 := H3.chg Z3 hz hne 4 (.int .i64 y.e.lb)
            have Z4 := Z3.set_ 4 (.int .i64 y.e.lb)
            clear hy
            replace HB := H4
            replace XD := Z4
            clear H0 H1 H2 H3 Z0 Z1 Z2 Z3 H4 Z4 HBy XDy bZ
            have x0_ := HB.X8.cell 0
            have x1_ := HB.X8.cell 1
            have z0_ := XD.cell 0
            have z1_ := XD.cell 1
            have z2_ := XD.cell 2
            have z3_ := XD.cell 3
            have z4_ := XD.cell 4
            have bA : Below (World.heap ((((((w8.alloc (.cells #[.bool y.ins, .int .i64 y.e.id, .int .i64 y.e.fr, .int .i64 y.e.to, .int .i64 y.e.lb] 92)).setCell ⟨w5.heap.size, 0, none⟩ (.bool (!y.ins))).setCell ⟨w5.heap.size, 1, none⟩ (.int .i64 y.e.id)).setCell ⟨w5.heap.size, 2, none⟩ (.int .i64 y.e.fr)).setCell ⟨w5.heap.size, 3, none⟩ (.int .i64 y.e.to)).setCell ⟨w5.heap.size, 4, none⟩ (.int .i64 y.e.lb))).size ((((((w8.alloc (.cells #[.bool y.ins, .int .i64 y.e.id, .int .i64 y.e.fr, .int .i64 y.e.to, .int .i64 y.e.lb] 92)).setCell ⟨w5.heap.size, 0, none⟩ (.bool (!y.ins))).setCell ⟨w5.heap.size, 1, none⟩ (.int .i64 y.e.id)).setCell ⟨w5.heap.size, 2, none⟩ (.int .i64 y.e.fr)).setCell ⟨w5.heap.size, 3, none⟩ (.int .i64 y.e.to)).setCell ⟨w5.heap.size, 4, none⟩ (.int .i64 y.e.lb)) (((((((w8.alloc (.cells #[.bool y.ins, .int .i64 y.e.id, .int .i64 y.e.fr, .int .i64 y.e.to, .int .i64 y.e.lb] 92)).setCell ⟨w5.heap.size, 0, none⟩ (.bool (!y.ins))).setCell ⟨w5.heap.size, 1, none⟩ (.int .i64 y.e.id)).setCell ⟨w5.heap.size, 2, none⟩ (.int .i64 y.e.fr)).setCell ⟨w5.heap.size, 3, none⟩ (.int .i64 y.e.to)).setCell ⟨w5.heap.size, 4, none⟩ (.int .i64 y.e.lb)).alloc (.cells #[.bool (!y.ins), .int .i64 y.e.id, .int .i64 y.e.fr, .int .i64 y.e.to, .int .i64 y.e.lb] 92)) := (Below.refl _ _).alloc (Nat.le_refl _) _
            have HBa := HB.below bA
            have XDa := XD.below bA XD.lt
            have hcr := crd_lit ((((((w8.alloc (.cells #[.bool y.ins, .int .i64 y.e.id, .int .i64 y.e.fr, .int .i64 y.e.to, .int .i64 y.e.lb] 92)).setCell ⟨w5.heap.size, 0, none⟩ (.bool (!y.ins))).setCell ⟨w5.heap.size, 1, none⟩ (.int .i64 y.e.id)).setCell ⟨w5.heap.size, 2, none⟩ (.int .i64 y.e.fr)).setCell ⟨w5.heap.size, 3, none⟩ (.int .i64 y.e.to)).setCell ⟨w5.heap.size, 4, none⟩ (.int .i64 y.e.lb)) ⟨(!y.ins), y.e⟩
            have hlz : gx.vs.length = n := by simpa using HB.ov.1
            have hr1 := rG_one (g := gx) (c := ⟨(!y.ins), y.e⟩) (by have := HB.oe.1; rw [ecs_len] at this; omega)
            obtain ⟨is, his⟩ : ∃ is, (rG gx [⟨(!y.ins), y.e⟩]).2 = is := ⟨_, rfl⟩
            obtain ⟨gy, hgy⟩ : ∃ gy, (rG gx [⟨(!y.ins), y.e⟩]).1 = gy := ⟨_, rfl⟩
            have hap := fun mm BB (h : GRd (((((((w8.alloc (.cells #[.bool y.ins, .int .i64 y.e.id, .int .i64 y.e.fr, .int .i64 y.e.to, .int .i64 y.e.lb] 92)).setCell ⟨w5.heap.size, 0, none⟩ (.bool (!y.ins))).setCell ⟨w5.heap.size, 1, none⟩ (.int .i64 y.e.id)).setCell ⟨w5.heap.size, 2, none⟩ (.int .i64 y.e.fr)).setCell ⟨w5.heap.size, 3, none⟩ (.int .i64 y.e.to)).setCell ⟨w5.heap.size, 4, none⟩ (.int .i64 y.e.lb)).alloc (.cells #[.bool (!y.ins), .int .i64 y.e.id, .int .i64 y.e.fr, .int .i64 y.e.to, .int .i64 y.e.lb] 92)) A3 n BB mm gx) => l6Apply_run (((((((w8.alloc (.cells #[.bool y.ins, .int .i64 y.e.id, .int .i64 y.e.fr, .int .i64 y.e.to, .int .i64 y.e.lb] 92)).setCell ⟨w5.heap.size, 0, none⟩ (.bool (!y.ins))).setCell ⟨w5.heap.size, 1, none⟩ (.int .i64 y.e.id)).setCell ⟨w5.heap.size, 2, none⟩ (.int .i64 y.e.fr)).setCell ⟨w5.heap.size, 3, none⟩ (.int .i64 y.e.to)).setCell ⟨w5.heap.size, 4, none⟩ (.int .i64 y.e.lb)).alloc (.cells #[.bool (!y.ins), .int .i64 y.e.id, .int .i64 y.e.fr, .int .i64 y.e.to, .int .i64 y.e.lb] 92)) (c := c3) (d := d3) (cc := 1) h hcr (by omega)
            simp only [his, hgy] at hap
            rw [hgy] at hr1
            have HAP := Lib.hid hap
            have HLZ := Lib.hid hlz
            have HR1 := Lib.hid hr1
            clear hap his hgy hcr hlz hr1
            go_wp2_with fail
            rw [show w8.heap.size + 1 = (World.heap ((((((w8.alloc (.cells #[.bool y.ins, .int .i64 y.e.id, .int .i64 y.e.fr, .int .i64 y.e.to, .int .i64 y.e.lb] 92)).setCell ⟨w5.heap.size, 0, none⟩ (.bool (!y.ins))).setCell ⟨w5.heap.size, 1, none⟩ (.int .i64 y.e.id)).setCell ⟨w5.heap.size, 2, none⟩ (.int .i64 y.e.fr)).setCell ⟨w5.heap.size, 3, none⟩ (.int .i64 y.e.to)).setCell ⟨w5.heap.size, 4, none⟩ (.int .i64 y.e.lb))).size from by simp]
            with_reducible refine (HAP.out _ _ HBa.grd).mono ?_
            rintro e w9 ⟨A4, n4, c4, B4, m4, d4, rfl, J, hb⟩
            replace HB := HBa.below hb
            have hyz : cb < w9.heap.size := HB.CR.lt
            replace XD := XDa.below hb XDa.lt
            have hn4 : n4 ≤ 5 := by have h1 := J.ou.len; rw [List.length_map, HR1.out.1, HLZ.out] at h1; have := HB.n5; omega
            have hm4 : m4 ≤ 12 := by have h1 := J.ov.len; rw [ecs_len] at h1; have := HR1.out.2; omega
            have hle4 : w.heap.size ≤ (World.heap (((((((w8.alloc (.cells #[.bool y.ins, .int .i64 y.e.id, .int .i64 y.e.fr, .int .i64 y.e.to, .int .i64 y.e.lb] 92)).setCell ⟨w5.heap.size, 0, none⟩ (.bool (!y.ins))).setCell ⟨w5.heap.size, 1, none⟩ (.int .i64 y.e.id)).setCell ⟨w5.heap.size, 2, none⟩ (.int .i64 y.e.fr)).setCell ⟨w5.heap.size, 3, none⟩ (.int .i64 y.e.to)).setCell ⟨w5.heap.size, 4, none⟩ (.int .i64 y.e.lb)).alloc (.cells #[.bool (!y.ins), .int .i64 y.e.id, .int .i64 y.e.fr, .int .i64 y.e.to, .int .i64 y.e.lb] 92))).size := HBa.T.size
            have ov4 := own_rebase J.ou.own.row hle4
            have oe4 := own_rebase J.ov.own.row hle4
            clear HBa XDa bA hb J HAP x0_ x1_ z0_ z1_ z2_ z3_ z4_
            have bY : Below w9.heap.size w9 (w9.alloc (.cells #[.slice A4 n4 c4, .slice B4 m4 d4] 27)) := (Below.refl _ _).alloc (Nat.le_refl _) _
            have XY := Blk.new w9 27 #[.slice A4 n4 c4, .slice B4 m4 d4]
            replace HB := HB.below bY
            replace XD := XD.below bY XD.lt
            replace ov4 := own_below ov4 bY (Nat.le_refl _)
            replace oe4 := own_below oe4 bY (Nat.le_refl _)
            clear bY
            cases is
            · go_wp2_with fail
              refine (l1Once_any _ HB.CR 12 (by omega) (by omega)).mono ?_
              rintro e w10 ⟨q, rfl, C10, t10⟩
              replace HB := HB.tch t10 C10
              replace XD := XD.tch t10 (by omega)
              replace XY := XY.tch t10 (by omega)
              replace ov4 := own_tch ov4 t10 HB.hcb
              replace oe4 := own_tch oe4 t10 HB.hcb
              clear t10 C10
              cases q
              · clear XD XY ov4 oe4
                go_wp2
                go_roundw
                case rel => exact ⟨r, _, _, L, A3, n, c3, _, _, d3, gx, by go_num, by omega, HB⟩
                case measure => simp [intOf] <;> omega
              · have bA : Below (World.heap w10).size w10 (w10.alloc (.cells #[.bool (!y.ins), .int .i64 y.e.id, .int .i64 y.e.fr, .int .i64 y.e.to, .int .i64 y.e.lb] 92)) := (Below.refl _ _).alloc (Nat.le_refl _) _
                have y0 := HB.XB.cell 0
                have z0_ := XD.cell 0
                have z1_ := XD.cell 1
                have z2_ := XD.cell 2
                have z3_ := XD.cell 3
                have z4_ := XD.cell 4
                have HBa := HB.below bA
                have XYa := XY.below bA XY.lt
                have ov5 := own_below ov4 bA (Nat.le_refl _)
                have oe5 := own_below oe4 bA (Nat.le_refl _)
                have rdn := (crd_lit w10 ⟨(!y.ins), y.e⟩).rd
                skip
                have q3 : Small ((k' + 1) + 1) := small_of (by omega)
                have hle : w.heap.size ≤ (World.heap (w10.alloc (.cells #[.bool (!y.ins), .int .i64 y.e.id, .int .i64 y.e.fr, .int .i64 y.e.to, .int .i64 y.e.lb] 92))).size := HBa.T.size
                clear bA HB XD XY ov4 oe4
                go_wp2_with (at_builtin; refine ap_plain _ app_change (by decide) w.heap.size (.tmp 83) (.tmp 85) rfl rfl _ _ _ rfl HBa.ho _ _ 1 1 _ rfl rdn (cgcs_one _) q3 hle ?_; intro v7 w7 hown7 hg7 hat7; clear hat7; obtain ⟨V7, e7, rfl, _⟩ := own_form hown7; have XB7 := blk_grown HBa.XB HBa.ho hg7 (by decide); have b7 := XB7.cell 0; have bf7 := XB7.frozen 0; have XY7 := (blk_grown XYa HBa.ho hg7 (by decide)).far_ (blk_ne (blk_grown XYa HBa.ho hg7 (by decide)) XB7 (by decide)) 0 (.slice V7 ((k' + 1) + 1) e7); have m0 := XY7.cell 0; have m1 := XY7.cell 1; have HB7 := HBa.app ⟨(!y.ins), y.e⟩ (v' := .slice V7 ((k' + 1) + 1) e7) hg7 (by rw [cgcs_append]; exact hown7); have n0 := HB7.X8.cell 0; have n1 := HB7.X8.cell 1; have nf0 := HB7.X8.frozen 0; have nf1 := HB7.X8.frozen 1)
                have ov7 := own_set (i := 0) (u := .slice V7 ((k' + 1) + 1) e7) (own_same ov5 fun q hq => hg7.block q (ownBlock_some ov5 hq).2 fun hh => own_ne ov5 HBa.ho (by decide) q hq hh.symm) XB7 (by decide)
                have oe7 := own_set (i := 0) (u := .slice V7 ((k' + 1) + 1) e7) (own_same oe5 fun q hq => hg7.block q (ownBlock_some oe5 hq).2 fun hh => own_ne oe5 HBa.ho (by decide) q hq hh.symm) XB7 (by decide)
                have HB9 := HB7.lay hn4 hm4 ov7 oe7
                go_roundw
                case rel => exact ⟨r, _, (k' + 1) + 1, _, A4, n4, c4, B4, m4, d4, gy, by go_num, by omega, HB9⟩
                case measure => simp [intOf] <;> omega
            · have bA : Below (World.heap (w9.alloc (.cells #[.slice A4 n4 c4, .slice B4 m4 d4] 27))).size (w9.alloc (.cells #[.slice A4 n4 c4, .slice B4 m4 d4] 27)) ((w9.alloc (.cells #[.slice A4 n4 c4, .slice B4 m4 d4] 27)).alloc (.cells #[.bool (!y.ins), .int .i64 y.e.id, .int .i64 y.e.fr, .int .i64 y.e.to, .int .i64 y.e.lb] 92)) := (Below.refl _ _).alloc (Nat.le_refl _) _
              have y0 := HB.XB.cell 0
              have z0_ := XD.cell 0
              have z1_ := XD.cell 1
              have z2_ := XD.cell 2
              have z3_ := XD.cell 3
              have z4_ := XD.cell 4
              have HBa := HB.below bA
              have XYa := XY.below bA XY.lt
              have ov5 := own_below ov4 bA (Nat.le_refl _)
              have oe5 := own_below oe4 bA (Nat.le_refl _)
              have rdn := (crd_lit (w9.alloc (.cells #[.slice A4 n4 c4, .slice B4 m4 d4] 27)) ⟨(!y.ins), y.e⟩).rd
              rw [show (World.heap (w9.alloc (.cells #[.slice A4 n4 c4, .slice B4 m4 d4] 27))).size = w9.heap.size + 1 from by simp] at rdn
              have q3 : Small ((k' + 1) + 1) := small_of (by omega)
              have hle : w.heap.size ≤ (World.heap ((w9.alloc (.cells #[.slice A4 n4 c4, .slice B4 m4 d4] 27)).alloc (.cells #[.bool (!y.ins), .int .i64 y.e.id, .int .i64 y.e.fr, .int .i64 y.e.to, .int .i64 y.e.lb] 92))).size := HBa.T.size
              clear bA HB XD XY ov4 oe4
              go_wp2_with (at_builtin; refine ap_plain _ app_change (by decide) w.heap.size (.tmp 83) (.tmp 85) rfl rfl _ _ _ rfl HBa.ho _ _ 1 1 _ rfl rdn (cgcs_one _) q3 hle ?_; intro v7 w7 hown7 hg7 hat7; clear hat7; obtain ⟨V7, e7, rfl, _⟩ := own_form hown7; have XB7 := blk_grown HBa.XB HBa.ho hg7 (by decide); have b7 := XB7.cell 0; have bf7 := XB7.frozen 0; have XY7 := (blk_grown XYa HBa.ho hg7 (by decide)).far_ (blk_ne (blk_grown XYa HBa.ho hg7 (by decide)) XB7 (by decide)) 0 (.slice V7 ((k' + 1) + 1) e7); have m0 := XY7.cell 0; have m1 := XY7.cell 1; have HB7 := HBa.app ⟨(!y.ins), y.e⟩ (v' := .slice V7 ((k' + 1) + 1) e7) hg7 (by rw [cgcs_append]; exact hown7); have n0 := HB7.X8.cell 0; have n1 := HB7.X8.cell 1; have nf0 := HB7.X8.frozen 0; have nf1 := HB7.X8.frozen 1)
              have ov7 := own_set (i := 0) (u := .slice V7 ((k' + 1) + 1) e7) (own_same ov5 fun q hq => hg7.block q (ownBlock_some ov5 hq).2 fun hh => own_ne ov5 HBa.ho (by decide) q hq hh.symm) XB7 (by decide)
              have oe7 := own_set (i := 0) (u := .slice V7 ((k' + 1) + 1) e7) (own_same oe5 fun q hq => hg7.block q (ownBlock_some oe5 hq).2 fun hh => own_ne oe5 HBa.ho (by decide) q hq hh.symm) XB7 (by decide)
              have HB9 := HB7.lay hn4 hm4 ov7 oe7
              go_roundw
              case rel => exact ⟨r, _, (k' + 1) + 1, _, A4, n4, c4, B4, m4, d4, gy, by go_num, by omega, HB9⟩
              case measure => simp [intOf] <;> omega
      · have hm0 : (0 : Int) < (m : Int) := by omega
        go_wp2_with fail
        refine (l1Once_any _ HB.CR 2 (by omega) (by omega)).mono ?_
        rintro e w7 ⟨q, rfl, C7, t7⟩
        replace HB := HB.tch t7 C7
        replace XD := XD.tch t7 (by omega)
        clear t7 C7 x1
        cases q
        · have x1 := HB.X8.cell 1
          have y0 := HB.XB.cell 0
          rcases Nat.eq_zero_or_pos k with hk0 | hk0
          · subst hk0
            have hkz : ¬ (0 : Int) < ((0 : Nat) : Int) := by omega
            have x0_ := HB.X8.cell 0
            have x1_ := HB.X8.cell 1
            have z0_ := XD.cell 0
            have z1_ := XD.cell 1
            have z2_ := XD.cell 2
            have z3_ := XD.cell 3
            have z4_ := XD.cell 4
            have bA : Below (World.heap w7).size w7 (w7.alloc (.cells #[.bool true, .int .i64 x.id, .int .i64 x.fr, .int .i64 x.to, .int .i64 x.lb] 92)) := (Below.refl _ _).alloc (Nat.le_refl _) _
            have HBa := HB.below bA
            have XDa := XD.below bA XD.lt
            have hcr := crd_lit w7 ⟨true, x⟩
            have hlz : gx.vs.length = n := by simpa using HB.ov.1
            have hr1 := rG_one (g := gx) (c := ⟨true, x⟩) (by have := HB.oe.1; rw [ecs_len] at this; omega)
            obtain ⟨is, his⟩ : ∃ is, (rG gx [⟨true, x⟩]).2 = is := ⟨_, rfl⟩
            obtain ⟨gy, hgy⟩ : ∃ gy, (rG gx [⟨true, x⟩]).1 = gy := ⟨_, rfl⟩
            have hap := fun mm BB (h : GRd (w7.alloc (.cells #[.bool true, .int .i64 x.id, .int .i64 x.fr, .int .i64 x.to, .int .i64 x.lb] 92)) A3 n BB mm gx) => l6Apply_run (w7.alloc (.cells #[.bool true, .int .i64 x.id, .int .i64 x.fr, .int .i64 x.to, .int .i64 x.lb] 92)) (c := c3) (d := d3) (cc := 1) h hcr (by omega)
            simp only [his, hgy] at hap
            rw [hgy] at hr1
            have HAP := Lib.hid hap
            have HLZ := Lib.hid hlz
            have HR1 := Lib.hid hr1
            clear hap his hgy hcr hlz hr1
            go_wp2_with fail
            skip
            with_reducible refine (HAP.out _ _ HBa.grd).mono ?_
            rintro e w9 ⟨A4, n4, c4, B4, m4, d4, rfl, J, hb⟩
            replace HB := HBa.below hb
            have hyz : cb < w9.heap.size := HB.CR.lt
            replace XD := XDa.below hb XDa.lt
            have hn4 : n4 ≤ 5 := by have h1 := J.ou.len; rw [List.length_map, HR1.out.1, HLZ.out] at h1; have := HB.n5; omega
            have hm4 : m4 ≤ 12 := by have h1 := J.ov.len; rw [ecs_len] at h1; have := HR1.out.2; omega
            have hle4 : w.heap.size ≤ (World.heap (w7.alloc (.cells #[.bool true, .int .i64 x.id, .int .i64 x.fr, .int .i64 x.to, .int .i64 x.lb] 92))).size := HBa.T.size
            have ov4 := own_rebase J.ou.own.row hle4
            have oe4 := own_rebase J.ov.own.row hle4
            clear HBa XDa bA hb J HAP x0_ x1_ z0_ z1_ z2_ z3_ z4_
            have bY : Below w9.heap.size w9 (w9.alloc (.cells #[.slice A4 n4 c4, .slice B4 m4 d4] 27)) := (Below.refl _ _).alloc (Nat.le_refl _) _
            have XY := Blk.new w9 27 #[.slice A4 n4 c4, .slice B4 m4 d4]
            replace HB := HB.below bY
            replace XD := XD.below bY XD.lt
            replace ov4 := own_below ov4 bY (Nat.le_refl _)
            replace oe4 := own_below oe4 bY (Nat.le_refl _)
            clear bY
            cases is
            · go_wp2_with fail
              refine (l1Once_any _ HB.CR 12 (by omega) (by omega)).mono ?_
              rintro e w10 ⟨q, rfl, C10, t10⟩
              replace HB := HB.tch t10 C10
              replace XD := XD.tch t10 (by omega)
              replace XY := XY.tch t10 (by omega)
              replace ov4 := own_tch ov4 t10 HB.hcb
              replace oe4 := own_tch oe4 t10 HB.hcb
              clear t10 C10
              cases q
              · clear XD XY ov4 oe4
                go_wp2
                go_roundw
                case rel => exact ⟨r, _, _, L, A3, n, c3, _, _, d3, gx, by go_num, by omega, HB⟩
                case measure => simp [intOf] <;> omega
              · have bA : Below (World.heap w10).size w10 (w10.alloc (.cells #[.bool true, .int .i64 x.id, .int .i64 x.fr, .int .i64 x.to, .int .i64 x.lb] 92)) := (Below.refl _ _).alloc (Nat.le_refl _) _
                have y0 := HB.XB.cell 0
                have z0_ := XD.cell 0
                have z1_ := XD.cell 1
                have z2_ := XD.cell 2
                have z3_ := XD.cell 3
                have z4_ := XD.cell 4
                have HBa := HB.below bA
                have XYa := XY.below bA XY.lt
                have ov5 := own_below ov4 bA (Nat.le_refl _)
                have oe5 := own_below oe4 bA (Nat.le_refl _)
                have rdn := (crd_lit w10 ⟨true, x⟩).rd
                skip
                have q3 : Small (0 + 1) := small_of (by omega)
                have hle : w.heap.size ≤ (World.heap (w10.alloc (.cells #[.bool true, .int .i64 x.id, .int .i64 x.fr, .int .i64 x.to, .int .i64 x.lb] 92))).size := HBa.T.size
                clear bA HB XD XY ov4 oe4
                go_wp2_with (at_builtin; refine ap_plain _ app_change (by decide) w.heap.size (.tmp 83) (.tmp 85) rfl rfl _ _ _ rfl HBa.ho _ _ 1 1 _ rfl rdn (cgcs_one _) q3 hle ?_; intro v7 w7 hown7 hg7 hat7; clear hat7; obtain ⟨V7, e7, rfl, _⟩ := own_form hown7; have XB7 := blk_grown HBa.XB HBa.ho hg7 (by decide); have b7 := XB7.cell 0; have bf7 := XB7.frozen 0; have XY7 := (blk_grown XYa HBa.ho hg7 (by decide)).far_ (blk_ne (blk_grown XYa HBa.ho hg7 (by decide)) XB7 (by decide)) 0 (.slice V7 (0 + 1) e7); have m0 := XY7.cell 0; have m1 := XY7.cell 1; have HB7 := HBa.app ⟨true, x⟩ (v' := .slice V7 (0 + 1) e7) hg7 (by rw [cgcs_append]; exact hown7); have n0 := HB7.X8.cell 0; have n1 := HB7.X8.cell 1; have nf0 := HB7.X8.frozen 0; have nf1 := HB7.X8.frozen 1)
                have ov7 := own_set (i := 0) (u := .slice V7 (0 + 1) e7) (own_same ov5 fun q hq => hg7.block q (ownBlock_some ov5 hq).2 fun hh => own_ne ov5 HBa.ho (by decide) q hq hh.symm) XB7 (by decide)
                have oe7 := own_set (i := 0) (u := .slice V7 (0 + 1) e7) (own_same oe5 fun q hq => hg7.block q (ownBlock_some oe5 hq).2 fun hh => own_ne oe5 HBa.ho (by decide) q hq hh.symm) XB7 (by decide)
                have HB9 := HB7.lay hn4 hm4 ov7 oe7
                go_roundw
                case rel => exact ⟨r, _, 0 + 1, _, A4, n4, c4, B4, m4, d4, gy, by go_num, by omega, HB9⟩
                case measure => simp [intOf] <;> omega
            · have bA : Below (World.heap (w9.alloc (.cells #[.slice A4 n4 c4, .slice B4 m4 d4] 27))).size (w9.alloc (.cells #[.slice A4 n4 c4, .slice B4 m4 d4] 27)) ((w9.alloc (.cells #[.slice A4 n4 c4, .slice B4 m4 d4] 27)).alloc (.cells #[.bool true, .int .i64 x.id, .int .i64 x.fr, .int .i64 x.to, .int .i64 x.lb] 92)) := (Below.refl _ _).alloc (Nat.le_refl _) _
              have y0 := HB.XB.cell 0
              have z0_ := XD.cell 0
              have z1_ := XD.cell 1
              have z2_ := XD.cell 2
              have z3_ := XD.cell 3
              have z4_ := XD.cell 4
              have HBa := HB.below bA
              have XYa := XY.below bA XY.lt
              have ov5 := own_below ov4 bA (Nat.le_refl _)
              have oe5 := own_below oe4 bA (Nat.le_refl _)
              have rdn := (crd_lit (w9.alloc (.cells #[.slice A4 n4 c4, .slice B4 m4 d4] 27)) ⟨true, x⟩).rd
              rw [show (World.heap (w9.alloc (.cells #[.slice A4 n4 c4, .slice B4 m4 d4] 27))).size = w9.heap.size + 1 from by simp] at rdn
              have q3 : Small (0 + 1) := small_of (by omega)
              have hle : w.heap.size ≤ (World.heap ((w9.alloc (.cells #[.slice A4 n4 c4, .slice B4 m4 d4] 27)).alloc (.cells #[.bool true, .int .i64 x.id, .int .i64 x.fr, .int .i64 x.to, .int .i64 x.lb] 92))).size := HBa.T.size
              clear bA HB XD XY ov4 oe4
              go_wp2_with (at_builtin; refine ap_plain _ app_change (by decide) w.heap.size (.tmp 83) (.tmp 85) rfl rfl _ _ _ rfl HBa.ho _ _ 1 1 _ rfl rdn (cgcs_one _) q3 hle ?_; intro v7 w7 hown7 hg7 hat7; clear hat7; obtain ⟨V7, e7, rfl, _⟩ := own_form hown7; have XB7 := blk_grown HBa.XB HBa.ho hg7 (by decide); have b7 := XB7.cell 0; have bf7 := XB7.frozen 0; have XY7 := (blk_grown XYa HBa.ho hg7 (by decide)).far_ (blk_ne (blk_grown XYa HBa.ho hg7 (by decide)) XB7 (by decide)) 0 (.slice V7 (0 + 1) e7); have m0 := XY7.cell 0; have m1 := XY7.cell 1; have HB7 := HBa.app ⟨true, x⟩ (v' := .slice V7 (0 + 1) e7) hg7 (by rw [cgcs_append]; exact hown7); have n0 := HB7.X8.cell 0; have n1 := HB7.X8.cell 1; have nf0 := HB7.X8.frozen 0; have nf1 := HB7.X8.frozen 1)
              have ov7 := own_set (i := 0) (u := .slice V7 (0 + 1) e7) (own_same ov5 fun q hq => hg7.block q (ownBlock_some ov5 hq).2 fun hh => own_ne ov5 HBa.ho (by decide) q hq hh.symm) XB7 (by decide)
              have oe7 := own_set (i := 0) (u := .slice V7 (0 + 1) e7) (own_same oe5 fun q hq => hg7.block q (ownBlock_some oe5 hq).2 fun hh => own_ne oe5 HBa.ho (by decide) q hq hh.symm) XB7 (by decide)
              have HB9 := HB7.lay hn4 hm4 ov7 oe7
              go_roundw
              case rel => exact ⟨r, _, 0 + 1, _, A4, n4, c4, B4, m4, d4, gy, by go_num, by omega, HB9⟩
              case measure => simp [intOf] <;> omega
          · have hkz : (0 : Int) < (k : Int) := by omega
            go_wp2_with fail
            refine (l1Once_any _ HB.CR 4 (by omega) (by omega)).mono ?_
            rintro e w8 ⟨q, rfl, C8, t8⟩
            replace HB := HB.tch t8 C8
            replace XD := XD.tch t8 (by omega)
            clear t8 C8 x1 y0
            cases q
            · have x0_ := HB.X8.cell 0
              have x1_ := HB.X8.cell 1
              have z0_ := XD.cell 0
              have z1_ := XD.cell 1
              have z2_ := XD.cell 2
              have z3_ := XD.cell 3
              have z4_ := XD.cell 4
              have bA : Below (World.heap w8).size w8 (w8.alloc (.cells #[.bool true, .int .i64 x.id, .int .i64 x.fr, .int .i64 x.to, .int .i64 x.lb] 92)) := (Below.refl _ _).alloc (Nat.le_refl _) _
              have HBa := HB.below bA
              have XDa := XD.below bA XD.lt
              have hcr := crd_lit w8 ⟨true, x⟩
              have hlz : gx.vs.length = n := by simpa using HB.ov.1
              have hr1 := rG_one (g := gx) (c := ⟨true, x⟩) (by have := HB.oe.1; rw [ecs_len] at this; omega)
              obtain ⟨is, his⟩ : ∃ is, (rG gx [⟨true, x⟩]).2 = is := ⟨_, rfl⟩
              obtain ⟨gy, hgy⟩ : ∃ gy, (rG gx [⟨true, x⟩]).1 = gy := ⟨_, rfl⟩
              have hap := fun mm BB (h : GRd (w8.alloc (.cells #[.bool true, .int .i64 x.id, .int .i64 x.fr, .int .i64 x.to, .int .i64 x.lb] 92)) A3 n BB mm gx) => l6Apply_run (w8.alloc (.cells #[.bool true, .int .i64 x.id, .int .i64 x.fr, .int .i64 x.to, .int .i64 x.lb] 92)) (c := c3) (d := d3) (cc := 1) h hcr (by omega)
              simp only [his, hgy] at hap
              rw [hgy] at hr1
              have HAP := Lib.hid hap
              have HLZ := Lib.hid hlz
              have HR1 := Lib.hid hr1
              clear hap his hgy hcr hlz hr1
              go_wp2_with fail
              skip
              with_reducible refine (HAP.out _ _ HBa.grd).mono ?_
              rintro e w9 ⟨A4, n4, c4, B4, m4, d4, rfl, J, hb⟩
              replace HB := HBa.below hb
              have hyz : cb < w9.heap.size := HB.CR.lt
              replace XD := XDa.below hb XDa.lt
              have hn4 : n4 ≤ 5 := by have h1 := J.ou.len; rw [List.length_map, HR1.out.1, HLZ.out] at h1; have := HB.n5; omega
              have hm4 : m4 ≤ 12 := by have h1 := J.ov.len; rw [ecs_len] at h1; have := HR1.out.2; omega
              have hle4 : w.heap.size ≤ (World.heap (w8.alloc (.cells #[.bool true, .int .i64 x.id, .int .i64 x.fr, .int .i64 x.to, .int .i64 x.lb] 92))).size := HBa.T.size
              have ov4 := own_rebase J.ou.own.row hle4
              have oe4 := own_rebase J.ov.own.row hle4
              clear HBa XDa bA hb J HAP x0_ x1_ z0_ z1_ z2_ z3_ z4_
              have bY : Below w9.heap.size w9 (w9.alloc (.cells #[.slice A4 n4 c4, .slice B4 m4 d4] 27)) := (Below.refl _ _).alloc (Nat.le_refl _) _
              have XY := Blk.new w9 27 #[.slice A4 n4 c4, .slice B4 m4 d4]
              replace HB := HB.below bY
              replace XD := XD.below bY XD.lt
              replace ov4 := own_below ov4 bY (Nat.le_refl _)
              replace oe4 := own_below oe4 bY (Nat.le_refl _)
              clear bY
              cases is
              · go_wp2_with fail
                refine (l1Once_any _ HB.CR 12 (by omega) (by omega)).mono ?_
                rintro e w10 ⟨q, rfl, C10, t10⟩
                replace HB := HB.tch t10 C10
                replace XD := XD.tch t10 (by omega)
                replace XY := XY.tch t10 (by omega)
                replace ov4 := own_tch ov4 t10 HB.hcb
                replace oe4 := own_tch oe4 t10 HB.hcb
                clear t10 C10
                cases q
                · clear XD XY ov4 oe4
                  go_wp2
                  go_roundw
                  case rel => exact ⟨r, _, _, L, A3, n, c3, _, _, d3, gx, by go_num, by omega, HB⟩
                  case measure => simp [intOf] <;> omega
                · have bA : Below (World.heap w10).size w10 (w10.alloc (.cells #[.bool true, .int .i64 x.id, .int .i64 x.fr, .int .i64 x.to, .int .i64 x.lb] 92)) := (Below.refl _ _).alloc (Nat.le_refl _) _
                  have y0 := HB.XB.cell 0
                  have z0_ := XD.cell 0
                  have z1_ := XD.cell 1
                  have z2_ := XD.cell 2
                  have z3_ := XD.cell 3
                  have z4_ := XD.cell 4
                  have HBa := HB.below bA
                  have XYa := XY.below bA XY.lt
                  have ov5 := own_below ov4 bA (Nat.le_refl _)
                  have oe5 := own_below oe4 bA (Nat.le_refl _)
                  have rdn := (crd_lit w10 ⟨true, x⟩).rd
                  skip
                  have q3 : Small (k + 1) := small_of (by omega)
                  have hle : w.heap.size ≤ (World.heap (w10.alloc (.cells #[.bool true, .int .i64 x.id, .int .i64 x.fr, .int .i64 x.to, .int .i64 x.lb] 92))).size := HBa.T.size
                  clear bA HB XD XY ov4 oe4
                  go_wp2_with (at_builtin; refine ap_plain _ app_change (by decide) w.heap.size (.tmp 83) (.tmp 85) rfl rfl _ _ _ rfl HBa.ho _ _ 1 1 _ rfl rdn (cgcs_one _) q3 hle ?_; intro v7 w7 hown7 hg7 hat7; clear hat7; obtain ⟨V7, e7, rfl, _⟩ := own_form hown7; have XB7 := blk_grown HBa.XB HBa.ho hg7 (by decide); have b7 := XB7.cell 0; have bf7 := XB7.frozen 0; have XY7 := (blk_grown XYa HBa.ho hg7 (by decide)).far_ (blk_ne (blk_grown XYa HBa.ho hg7 (by decide)) XB7 (by decide)) 0 (.slice V7 (k + 1) e7); have m0 := XY7.cell 0; have m1 := XY7.cell 1; have HB7 := HBa.app ⟨true, x⟩ (v' := .slice V7 (k + 1) e7) hg7 (by rw [cgcs_append]; exact hown7); have n0 := HB7.X8.cell 0; have n1 := HB7.X8.cell 1; have nf0 := HB7.X8.frozen 0; have nf1 := HB7.X8.frozen 1)
                  have ov7 := own_set (i := 0) (u := .slice V7 (k + 1) e7) (own_same ov5 fun q hq => hg7.block q (ownBlock_some ov5 hq).2 fun hh => own_ne ov5 HBa.ho (by decide) q hq hh.symm) XB7 (by decide)
                  have oe7 := own_set (i := 0) (u := .slice V7 (k + 1) e7) (own_same oe5 fun q hq => hg7.block q (ownBlock_some oe5 hq).2 fun hh => own_ne oe5 HBa.ho (by decide) q hq hh.symm) XB7 (by decide)
                  have HB9 := HB7.lay hn4 hm4 ov7 oe7
                  go_roundw
                  case rel => exact ⟨r, _, k + 1, _, A4, n4, c4, B4, m4, d4, gy, by go_num, by omega, HB9⟩
                  case measure => simp [intOf] <;> omega
              · have bA : Below (World.heap (w9.alloc (.cells #[.slice A4 n4 c4, .slice B4 m4 d4] 27))).size (w9.alloc (.cells #[.slice A4 n4 c4, .slice B4 m4 d4] 27)) ((w9.alloc (.cells #[.slice A4 n4 c4, .slice B4 m4 d4] 27)).alloc (.cells #[.bool true, .int .i64 x.id, .int .i64 x.fr, .int .i64 x.to, .int .i64 x.lb] 92)) := (Below.refl _ _).alloc (Nat.le_refl _) _
                have y0 := HB.XB.cell 0
                have z0_ := XD.cell 0
                have z1_ := XD.cell 1
                have z2_ := XD.cell 2
                have z3_ := XD.cell 3
                have z4_ := XD.cell 4
                have HBa := HB.below bA
                have XYa := XY.below bA XY.lt
                have ov5 := own_below ov4 bA (Nat.le_refl _)
                have oe5 := own_below oe4 bA (Nat.le_refl _)
                have rdn := (crd_lit (w9.alloc (.cells #[.slice A4 n4 c4, .slice B4 m4 d4] 27)) ⟨true, x⟩).rd
                rw [show (World.heap (w9.alloc (.cells #[.slice A4 n4 c4, .slice B4 m4 d4] 27))).size = w9.heap.size + 1 from by simp] at rdn
                have q3 : Small (k + 1) := small_of (by omega)
                have hle : w.heap.size ≤ (World.heap ((w9.alloc (.cells #[.slice A4 n4 c4, .slice B4 m4 d4] 27)).alloc (.cells #[.bool true, .int .i64 x.id, .int .i64 x.fr, .int .i64 x.to, .int .i64 x.lb] 92))).size := HBa.T.size
                clear bA HB XD XY ov4 oe4
                go_wp2_with (at_builtin; refine ap_plain _ app_change (by decide) w.heap.size (.tmp 83) (.tmp 85) rfl rfl _ _ _ rfl HBa.ho _ _ 1 1 _ rfl rdn (cgcs_one _) q3 hle ?_; intro v7 w7 hown7 hg7 hat7; clear hat7; obtain ⟨V7, e7, rfl, _⟩ := own_form hown7; have XB7 := blk_grown HBa.XB HBa.ho hg7 (by decide); have b7 := XB7.cell 0; have bf7 := XB7.frozen 0; have XY7 := (blk_grown XYa HBa.ho hg7 (by decide)).far_ (blk_ne (blk_grown XYa HBa.ho hg7 (by decide)) XB7 (by decide)) 0 (.slice V7 (k + 1) e7); have m0 := XY7.cell 0; have m1 := XY7.cell 1; have HB7 := HBa.app ⟨true, x⟩ (v' := .slice V7 (k + 1) e7) hg7 (by rw [cgcs_append]; exact hown7); have n0 := HB7.X8.cell 0; have n1 := HB7.X8.cell 1; have nf0 := HB7.X8.frozen 0; have nf1 := HB7.X8.frozen 1)
                have ov7 := own_set (i := 0) (u := .slice V7 (k + 1) e7) (own_same ov5 fun q hq => hg7.block q (ownBlock_some ov5 hq).2 fun hh => own_ne ov5 HBa.ho (by decide) q hq hh.symm) XB7 (by decide)
                have oe7 := own_set (i := 0) (u := .slice V7 (k + 1) e7) (own_same oe5 fun q hq => hg7.block q (ownBlock_some oe5 hq).2 fun hh => own_ne oe5 HBa.ho (by decide) q hq hh.symm) XB7 (by decide)
                have HB9 := HB7.lay hn4 hm4 ov7 oe7
                go_roundw
                case rel => exact ⟨r, _, k + 1, _, A4, n4, c4, B4, m4, d4, gy, by go_num, by omega, HB9⟩
                case measure => simp [intOf] <;> omega
            · obtain ⟨k', rfl⟩ : ∃ k', k = k' + 1 := ⟨k - 1, by omega⟩
              have hwk : IntKind.i64.wrap (((k' + 1 : Nat) : Int) - 1) = (k' : Int) := by rw [IntKind.wrap_i64]; have := HB.lL; omega
              obtain ⟨rb, ro, rfl, _, y, hy, p0, p1, p2, p3, p4⟩ := change_at (k := k') (Reads.of_own HB.ho) HB.lL (by omega)
              have y0 := HB.XB.cell 0
              have hka : (k' : Int) < ((k' + 1 : Nat) : Int) := by omega
              have hkb : (0 : Int) ≤ (k' : Int) := by omega
              have bZ : Below (World.heap w8).size w8 (w8.alloc (.cells #[.bool y.ins, .int .i64 y.e.id, .int .i64 y.e.fr, .int .i64 y.e.to, .int .i64 y.e.lb] 92)) := (Below.refl _ _).alloc (Nat.le_refl _) _
              have HBy := HB.below bZ
              have XDy := XD.below bZ XD.lt
              have k0 := XDy.cell 0
              have k1 := XDy.cell 1
              have k2 := XDy.cell 2
              have k3 := XDy.cell 3
              have k4 := XDy.cell 4
              have f0 := XDy.frozen 0
              have f1 := XDy.frozen 1
              have f2 := XDy.frozen 2
              have f3 := XDy.frozen 3
              have f4 := XDy.frozen 4
              have H0 := HBy.chg XDy hz hne 0 (.bool (!y.ins))
              have Z0 := XDy.set_ 0 (.bool (!y.ins))
              have H1 := H0.chg Z0 hz hne 1 (.int .i64 y.e.id)
              have Z1 := Z0.set_ 1 (.int .i64 y.e.id)
              have H2 := H1.chg Z1 hz hne 2 (.int .i64 y.e.fr)
              have Z2 := Z1.set_ 2 (.int .i64 y.e.fr)
              have H3 := H2.chg Z2 hz hne 3 (.int .i64 y.e.to)
              have Z3 := Z2.set_ 3 (.int .i64 y.e.to)
              have H4 := H3.chg Z3 hz hne 4 (.int .i64 y.e.lb)
              have Z4 := Z3.set_ 4 (.int .i64 y.e.lb)
              clear hy
              replace HB := H4
              replace XD := Z4
              clear H0 H1 H2 H3 Z0 Z1 Z2 Z3 H4 Z4 HBy XDy bZ
              have x0_ := HB.X8.cell 0
              have x1_ := HB.X8.cell 1
              have z0_ := XD.cell 0
              have z1_ := XD.cell 1
              have z2_ := XD.cell 2
              have z3_ := XD.cell 3
              have z4_ := XD.cell 4
              have bA : Below (World.heap ((((((w8.alloc (.cells #[.bool y.ins, .int .i64 y.e.id, .int .i64 y.e.fr, .int .i64 y.e.to, .int .i64 y.e.lb] 92)).setCell ⟨w5.heap.size, 0, none⟩ (.bool (!y.ins))).setCell ⟨w5.heap.size, 1, none⟩ (.int .i64 y.e.id)).setCell ⟨w5.heap.size, 2, none⟩ (.int .i64 y.e.fr)).setCell ⟨w5.heap.size, 3, none⟩ (.int .i64 y.e.to)).setCell ⟨w5.heap.size, 4, none⟩ (.int .i64 y.e.lb))).size ((((((w8.alloc (.cells #[.bool y.ins, .int .i64 y.e.id, .int .i64 y.e.fr, .int .i64 y.e.to, .int .i64 y.e.lb] 92)).setCell ⟨w5.heap.size, 0, none⟩ (.bool (!y.ins))).setCell ⟨w5.heap.size, 1, none⟩ (.int .i64 y.e.id)).setCell ⟨w5.heap.size, 2, none⟩ (.int .i64 y.e.fr)).setCell ⟨w5.heap.size, 3, none⟩ (.int .i64 y.e.to)).setCell ⟨w5.heap.size, 4, none⟩ (.int .i64 y.e.lb)) (((((((w8.alloc (.cells #[.bool y.ins, .int .i64 y.e.id, .int .i64 y.e.fr, .int .i64 y.e.to, .int .i64 y.e.lb] 92)).setCell ⟨w5.heap.size, 0, none⟩ (.bool (!y.ins))).setCell ⟨w5.heap.size, 1, none⟩ (.int .i64 y.e.id)).setCell ⟨w5.heap.size, 2, none⟩ (.int .i64 y.e.fr)).setCell ⟨w5.heap.size, 3, none⟩ (.int .i64 y.e.to)).setCell ⟨w5.heap.size, 4, none⟩ (.int .i64 y.e.lb)).alloc (.cells #[.bool (!y.ins), .int .i64 y.e.id, .int .i64 y.e.fr, .int .i64 y.e.to, .int .i64 y.e.lb] 92)) := (Below.refl _ _).alloc (Nat.le_refl _) _
              have HBa := HB.below bA
              have XDa := XD.below bA XD.lt
              have hcr := crd_lit ((((((w8.alloc (.cells #[.bool y.ins, .int .i64 y.e.id, .int .i64 y.e.fr, .int .i64 y.e.to, .int .i64 y.e.lb] 92)).setCell ⟨w5.heap.size, 0, none⟩ (.bool (!y.ins))).setCell ⟨w5.heap.size, 1, none⟩ (.int .i64 y.e.id)).setCell ⟨w5.heap.size, 2, none⟩ (.int .i64 y.e.fr)).setCell ⟨w5.heap.size, 3, none⟩ (.int .i64 y.e.to)).setCell ⟨w5.heap.size, 4, none⟩ (.int .i64 y.e.lb)) ⟨(!y.ins), y.e⟩
              have hlz : gx.vs.length = n := by simpa using HB.ov.1
              have hr1 := rG_one (g := gx) (c := ⟨(!y.ins), y.e⟩) (by have := HB.oe.1; rw [ecs_len] at this; omega)
              obtain ⟨is, his⟩ : ∃ is, (rG gx [⟨(!y.ins), y.e⟩]).2 = is := ⟨_, rfl⟩
              obtain ⟨gy, hgy⟩ : ∃ gy, (rG gx [⟨(!y.ins), y.e⟩]).1 = gy := ⟨_, rfl⟩
              have hap := fun mm BB (h : GRd (((((((w8.alloc (.cells #[.bool y.ins, .int .i64 y.e.id, .int .i64 y.e.fr, .int .i64 y.e.to, .int .i64 y.e.lb] 92)).setCell ⟨w5.heap.size, 0, none⟩ (.bool (!y.ins))).setCell ⟨w5.heap.size, 1, none⟩ (.int .i64 y.e.id)).setCell ⟨w5.heap.size, 2, none⟩ (.int .i64 y.e.fr)).setCell ⟨w5.heap.size, 3, none⟩ (.int .i64 y.e.to)).setCell ⟨w5.heap.size, 4, none⟩ (.int .i64 y.e.lb)).alloc (.cells #[.bool (!y.ins), .int .i64 y.e.id, .int .i64 y.e.fr, .int .i64 y.e.to, .int .i64 y.e.lb] 92)) A3 n BB mm gx) => l6Apply_run (((((((w8.alloc (.cells #[.bool y.ins, .int .i64 y.e.id, .int .i64 y.e.fr, .int .i64 y.e.to, .int .i64 y.e.lb] 92)).setCell ⟨w5.heap.size, 0, none⟩ (.bool (!y.ins))).setCell ⟨w5.heap.size, 1, none⟩ (.int .i64 y.e.id)).setCell ⟨w5.heap.size, 2, none⟩ (.int .i64 y.e.fr)).setCell ⟨w5.heap.size, 3, none⟩ (.int .i64 y.e.to)).setCell ⟨w5.heap.size, 4, none⟩ (.int .i64 y.e.lb)).alloc (.cells #[.bool (!y.ins), .int .i64 y.e.id, .int .i64 y.e.fr, .int .i64 y.e.to, .int .i64 y.e.lb] 92)) (c := c3) (d := d3) (cc := 1) h hcr (by omega)
              simp only [his, hgy] at hap
              rw [hgy] at hr1
              have HAP := Lib.hid hap
              have HLZ := Lib.hid hlz
              have HR1 := Lib.hid hr1
              clear hap his hgy hcr hlz hr1
              go_wp2_with fail
              rw [show w8.heap.size + 1 = (World.heap ((((((w8.alloc (.cells #[.bool y.ins, .int .i64 y.e.id, .int .i64 y.e.fr, .int .i64 y.e.to, .int .i64 y.e.lb] 92)).setCell ⟨w5.heap.size, 0, none⟩ (.bool (!y.ins))).setCell ⟨w5.heap.size, 1, none⟩ (.int .i64 y.e.id)).setCell ⟨w5.heap.size, 2, none⟩ (.int .i64 y.e.fr)).setCell ⟨w5.heap.size, 3, none⟩ (.int .i64 y.e.to)).setCell ⟨w5.heap.size, 4, none⟩ (.int .i64 y.e.lb))).size from by simp]
              with_reducible refine (HAP.out _ _ HBa.grd).mono ?_
              rintro e w9 ⟨A4, n4, c4, B4, m4, d4, rfl, J, hb⟩
              replace HB := HBa.below hb
              have hyz : cb < w9.heap.size := HB.CR.lt
              replace XD := XDa.below hb XDa.lt
              have hn4 : n4 ≤ 5 := by have h1 := J.ou.len; rw [List.length_map, HR1.out.1, HLZ.out] at h1; have := HB.n5; omega
              have hm4 : m4 ≤ 12 := by have h1 := J.ov.len; rw [ecs_len] at h1; have := HR1.out.2; omega
              have hle4 : w.heap.size ≤ (World.heap (((((((w8.alloc (.cells #[.bool y.ins, .int .i64 y.e.id, .int .i64 y.e.fr, .int .i64 y.e.to, .int .i64 y.e.lb] 92)).setCell ⟨w5.heap.size, 0, none⟩ (.bool (!y.ins))).setCell ⟨w5.heap.size, 1, none⟩ (.int .i64 y.e.id)).setCell ⟨w5.heap.size, 2, none⟩ (.int .i64 y.e.fr)).setCell ⟨w5.heap.size, 3, none⟩ (.int .i64 y.e.to)).setCell ⟨w5.heap.size, 4, none⟩ (.int .i64 y.e.lb)).alloc (.cells #[.bool (!y.ins), .int .i64 y.e.id, .int .i64 y.e.fr, .int .i64 y.e.to, .int .i64 y.e.lb] 92))).size := HBa.T.size
              have ov4 := own_rebase J.ou.own.row hle4
              have oe4 := own_rebase J.ov.own.row hle4
              clear HBa XDa bA hb J HAP x0_ x1_ z0_ z1_ z2_ z3_ z4_
              have bY : Below w9.heap.size w9 (w9.alloc (.cells #[.slice A4 n4 c4, .slice B4 m4 d4] 27)) := (Below.refl _ _).alloc (Nat.le_refl _) _
              have XY := Blk.new w9 27 #[.slice A4 n4 c4, .slice B4 m4 d4]
              replace HB := HB.below bY
              replace XD := XD.below bY XD.lt
              replace ov4 := own_below ov4 bY (Nat.le_refl _)
              replace oe4 := own_below oe4 bY (Nat.le_refl _)
              clear bY
              cases is
              · go_wp2_with fail
                refine (l1Once_any _ HB.CR 12 (by omega) (by omega)).mono ?_
                rintro e w10 ⟨q, rfl, C10, t10⟩
                replace HB := HB.tch t10 C10
                replace XD := XD.tch t10 (by omega)
                replace XY := XY.tch t10 (by omega)
                replace ov4 := own_tch ov4 t10 HB.hcb
                replace oe4 := own_tch oe4 t10 HB.hcb
                clear t10 C10
                cases q
                · clear XD XY ov4 oe4
                  go_wp2
                  go_roundw
                  case rel => exact ⟨r, _, _, L, A3, n, c3, _, _, d3, gx, by go_num, by omega, HB⟩
                  case measure => simp [intOf] <;> omega
                · have bA : Below (World.heap w10).size w10 (w10.alloc (.cells #[.bool (!y.ins), .int .i64 y.e.id, .int .i64 y.e.fr, .int .i64 y.e.to, .int .i64 y.e.lb] 92)) := (Below.refl _ _).alloc (Nat.le_refl _) _
                  have y0 := HB.XB.cell 0
                  have z0_ := XD.cell 0
                  have z1_ := XD.cell 1
                  have z2_ := XD.cell 2
                  have z3_ := XD.cell 3
                  have z4_ := XD.cell 4
                  have HBa := HB.below bA
                  have XYa := XY.below bA XY.lt
                  have ov5 := own_below ov4 bA (Nat.le_refl _)
                  have oe5 := own_below oe4 bA (Nat.le_refl _)
                  have rdn := (crd_lit w10 ⟨(!y.ins), y.e⟩).rd
                  skip
                  have q3 : Small ((k' + 1) + 1) := small_of (by omega)
                  have hle : w.heap.size ≤ (World.heap (w10.alloc (.cells #[.bool (!y.ins), .int .i64 y.e.id, .int .i64 y.e.fr, .int .i64 y.e.to, .int .i64 y.e.lb] 92))).size := HBa.T.size
                  clear bA HB XD XY ov4 oe4
                  go_wp2_with (at_builtin; refine ap_plain _ app_change (by decide) w.heap.size (.tmp 83) (.tmp 85) rfl rfl _ _ _ rfl HBa.ho _ _ 1 1 _ rfl rdn (cgcs_one _) q3 hle ?_; intro v7 w7 hown7 hg7 hat7; clear hat7; obtain ⟨V7, e7, rfl, _⟩ := own_form hown7; have XB7 := blk_grown HBa.XB HBa.ho hg7 (by decide); have b7 := XB7.cell 0; have bf7 := XB7.frozen 0; have XY7 := (blk_grown XYa HBa.ho hg7 (by decide)).far_ (blk_ne (blk_grown XYa HBa.ho hg7 (by decide)) XB7 (by decide)) 0 (.slice V7 ((k' + 1) + 1) e7); have m0 := XY7.cell 0; have m1 := XY7.cell 1; have HB7 := HBa.app ⟨(!y.ins), y.e⟩ (v' := .slice V7 ((k' + 1) + 1) e7) hg7 (by rw [cgcs_append]; exact hown7); have n0 := HB7.X8.cell 0; have n1 := HB7.X8.cell 1; have nf0 := HB7.X8.frozen 0; have nf1 := HB7.X8.frozen 1)
                  have ov7 := own_set (i := 0) (u := .slice V7 ((k' + 1) + 1) e7) (own_same ov5 fun q hq => hg7.block q (ownBlock_some ov5 hq).2 fun hh => own_ne ov5 HBa.ho (by decide) q hq hh.symm) XB7 (by decide)
                  have oe7 := own_set (i := 0) (u := .slice V7 ((k' + 1) + 1) e7) (own_same oe5 fun q hq => hg7.block q (ownBlock_some oe5 hq).2 fun hh => own_ne oe5 HBa.ho (by decide) q hq hh.symm) XB7 (by decide)
                  have HB9 := HB7.lay hn4 hm4 ov7 oe7
                  go_roundw
                  case rel => exact ⟨r, _, (k' + 1) + 1, _, A4, n4, c4, B4, m4, d4, gy, by go_num, by omega, HB9⟩
                  case measure => simp [intOf] <;> omega
              · have bA : Below (World.heap (w9.alloc (.cells #[.slice A4 n4 c4, .slice B4 m4 d4] 27))).size (w9.alloc (.cells #[.slice A4 n4 c4, .slice B4 m4 d4] 27)) ((w9.alloc (.cells #[.slice A4 n4 c4, .slice B4 m4 d4] 27)).alloc (.cells #[.bool (!y.ins), .int .i64 y.e.id, .int .i64 y.e.fr, .int .i64 y.e.to, .int .i64 y.e.lb] 92)) := (Below.refl _ _).alloc (Nat.le_refl _) _
                have y0 := HB.XB.cell 0
                have z0_ := XD.cell 0
                have z1_ := XD.cell 1
                have z2_ := XD.cell 2
                have z3_ := XD.cell 3
                have z4_ := XD.cell 4
                have HBa := HB.below bA
                have XYa := XY.below bA XY.lt
                have ov5 := own_below ov4 bA (Nat.le_refl _)
                have oe5 := own_below oe4 bA (Nat.le_refl _)
                have rdn := (crd_lit (w9.alloc (.cells #[.slice A4 n4 c4, .slice B4 m4 d4] 27)) ⟨(!y.ins), y.e⟩).rd
                rw [show (World.heap (w9.alloc (.cells #[.slice A4 n4 c4, .slice B4 m4 d4] 27))).size = w9.heap.size + 1 from by simp] at rdn
                have q3 : Small ((k' + 1) + 1) := small_of (by omega)
                have hle : w.heap.size ≤ (World.heap ((w9.alloc (.cells #[.slice A4 n4 c4, .slice B4 m4 d4] 27)).alloc (.cells #[.bool (!y.ins), .int .i64 y.e.id, .int .i64 y.e.fr, .int .i64 y.e.to, .int .i64 y.e.lb] 92))).size := HBa.T.size
                clear bA HB XD XY ov4 oe4
                go_wp2_with (at_builtin; refine ap_plain _ app_change (by decide) w.heap.size (.tmp 83) (.tmp 85) rfl rfl _ _ _ rfl HBa.ho _ _ 1 1 _ rfl rdn (cgcs_one _) q3 hle ?_; intro v7 w7 hown7 hg7 hat7; clear hat7; obtain ⟨V7, e7, rfl, _⟩ := own_form hown7; have XB7 := blk_grown HBa.XB HBa.ho hg7 (by decide); have b7 := XB7.cell 0; have bf7 := XB7.frozen 0; have XY7 := (blk_grown XYa HBa.ho hg7 (by decide)).far_ (blk_ne (blk_grown XYa HBa.ho hg7 (by decide)) XB7 (by decide)) 0 (.slice V7 ((k' + 1) + 1) e7); have m0 := XY7.cell 0; have m1 := XY7.cell 1; have HB7 := HBa.app ⟨(!y.ins), y.e⟩ (v' := .slice V7 ((k' + 1) + 1) e7) hg7 (by rw [cgcs_append]; exact hown7); have n0 := HB7.X8.cell 0; have n1 := HB7.X8.cell 1; have nf0 := HB7.X8.frozen 0; have nf1 := HB7.X8.frozen 1)
                have ov7 := own_set (i := 0) (u := .slice V7 ((k' + 1) + 1) e7) (own_same ov5 fun q hq => hg7.block q (ownBlock_some ov5 hq).2 fun hh => own_ne ov5 HBa.ho (by decide) q hq hh.symm) XB7 (by decide)
                have oe7 := own_set (i := 0) (u := .slice V7 ((k' + 1) + 1) e7) (own_same oe5 fun q hq => hg7.block q (ownBlock_some oe5 hq).2 fun hh => own_ne oe5 HBa.ho (by decide) q hq hh.symm) XB7 (by decide)
                have HB9 := HB7.lay hn4 hm4 ov7 oe7
                go_roundw
                case rel => exact ⟨r, _, (k' + 1) + 1, _, A4, n4, c4, B4, m4, d4, gy, by go_num, by omega, HB9⟩
                case measure => simp [intOf] <;> omega
        · obtain ⟨eb, rfl⟩ : ∃ eb, B3 = some ⟨eb, 0, none⟩ := by
            rcases HB.oe.2 with ⟨hv, h0'⟩ | ⟨g1, cap, cur, hv, _⟩
            · omega
            · injection hv with h2
              exact ⟨g1, h2⟩
          have HBD := HB.below ((Below.refl _ _).drew)
          have XDD := XD.drew
          have x1 := HB.X8.cell 1
          have x1d := HBD.X8.cell 1
          have hRL : gx.es.length = m := by have := HB.oe.1; rw [ecs_len] at this; omega
          have HRL := Lib.hid hRL
          clear hRL
          go_wp2_with fail
          go_region_law (first
            | (go_simp; go_at_call 49; refine (l1Below_all _ HBD.CR m hm0).mono ?_; rintro e w8 ⟨j, rfl, hj0, hj1, C8, t8⟩; obtain ⟨i, rfl⟩ : ∃ i : Nat, j = (i : Int) := ⟨j.toNat, by omega⟩; have HB8 := HBD.tch t8 C8; have XD8 := XDD.tch t8 (by omega); obtain ⟨eb', eo', hA', _, y, hy, q0, q1, q2, q3⟩ := edge_at (k := i) (Reads.of_own HB8.oe) HRL.out (by omega); obtain ⟨rfl, rfl⟩ : eb = eb' ∧ 0 = eo' := (by simpa using hA'); simp only [Nat.zero_add] at q0 q1 q2 q3; have x18 := HB8.X8.cell 1; have k0 := XD8.cell 0; have k1 := XD8.cell 1; have k2 := XD8.cell 2; have k3 := XD8.cell 3; have k4 := XD8.cell 4; have f0 := XD8.frozen 0; have f1 := XD8.frozen 1; have f2 := XD8.frozen 2; have f3 := XD8.frozen 3; have f4 := XD8.frozen 4))
          all_goals
            have H0 := HB8.chg XD8 hz hne 0 (.bool false)
            have Z0 := XD8.set_ 0 (.bool false)
            have H1 := H0.chg Z0 hz hne 1 (.int .i64 y.id)
            have Z1 := Z0.set_ 1 (.int .i64 y.id)
            have H2 := H1.chg Z1 hz hne 2 (.int .i64 y.fr)
            have Z2 := Z1.set_ 2 (.int .i64 y.fr)
            have H3 := H2.chg Z2 hz hne 3 (.int .i64 y.to)
            have Z3 := Z2.set_ 3 (.int .i64 y.to)
            have H4 := H3.chg Z3 hz hne 4 (.int .i64 y.lb)
            have Z4 := Z3.set_ 4 (.int .i64 y.lb)
            obtain ⟨w82, hw82⟩ : ∃ w82, (((((w8.setCell ⟨w5.heap.size, 0, none⟩ (.bool false)).setCell ⟨w5.heap.size, 1, none⟩ (.int .i64 y.id)).setCell ⟨w5.heap.size, 2, none⟩ (.int .i64 y.fr)).setCell ⟨w5.heap.size, 3, none⟩ (.int .i64 y.to)).setCell ⟨w5.heap.size, 4, none⟩ (.int .i64 y.lb)) = w82 := ⟨_, rfl⟩
            rw [hw82] at H4 Z4 ⊢
            clear HB XD HBD XDD HB8 XD8 x1 x1d x18 k0 k1 k2 k3 k4 f0 f1 f2 f3 f4 q0 q1 q2 q3 hw82 H0 H1 H2 H3 Z0 Z1 Z2 Z3 t8 C8
            have HB := H4
            have XD := Z4
            clear H4 Z4
            have x1 := HB.X8.cell 1
            have y0 := HB.XB.cell 0
            rcases Nat.eq_zero_or_pos k with hk0 | hk0
            · subst hk0
              have hkz : ¬ (0 : Int) < ((0 : Nat) : Int) := by omega
              have x0_ := HB.X8.cell 0
              have x1_ := HB.X8.cell 1
              have z0_ := XD.cell 0
              have z1_ := XD.cell 1
              have z2_ := XD.cell 2
              have z3_ := XD.cell 3
              have z4_ := XD.cell 4
              have bA : Below (World.heap w82).size w82 (w82.alloc (.cells #[.bool false, .int .i64 y.id, .int .i64 y.fr, .int .i64 y.to, .int .i64 y.lb] 92)) := (Below.refl _ _).alloc (Nat.le_refl _) _
              have HBa := HB.below bA
              have XDa := XD.below bA XD.lt
              have hcr := crd_lit w82 ⟨false, y⟩
              have hlz : gx.vs.length = n := by simpa using HB.ov.1
              have hr1 := rG_one (g := gx) (c := ⟨false, y⟩) (by have := HB.oe.1; rw [ecs_len] at this; omega)
              obtain ⟨is, his⟩ : ∃ is, (rG gx [⟨false, y⟩]).2 = is := ⟨_, rfl⟩
              obtain ⟨gy, hgy⟩ : ∃ gy, (rG gx [⟨false, y⟩]).1 = gy := ⟨_, rfl⟩
              have hap := fun mm BB (h : GRd (w82.alloc (.cells #[.bool false, .int .i64 y.id, .int .i64 y.fr, .int .i64 y.to, .int .i64 y.lb] 92)) A3 n BB mm gx) => l6Apply_run (w82.alloc (.cells #[.bool false, .int .i64 y.id, .int .i64 y.fr, .int .i64 y.to, .int .i64 y.lb] 92)) (c := c3) (d := d3) (cc := 1) h hcr (by omega)
              simp only [his, hgy] at hap
              rw [hgy] at hr1
              have HAP := Lib.hid hap
              have HLZ := Lib.hid hlz
              have HR1 := Lib.hid hr1
              clear hap his hgy hcr hlz hr1
              go_wp2_with fail
              skip
              with_reducible refine (HAP.out _ _ HBa.grd).mono ?_
              rintro e w9 ⟨A4, n4, c4, B4, m4, d4, rfl, J, hb⟩
              replace HB := HBa.below hb
              have hyz : cb < w9.heap.size := HB.CR.lt
              replace XD := XDa.below hb XDa.lt
              have hn4 : n4 ≤ 5 := by have h1 := J.ou.len; rw [List.length_map, HR1.out.1, HLZ.out] at h1; have := HB.n5; omega
              have hm4 : m4 ≤ 12 := by have h1 := J.ov.len; rw [ecs_len] at h1; have := HR1.out.2; omega
              have hle4 : w.heap.size ≤ (World.heap (w82.alloc (.cells #[.bool false, .int .i64 y.id, .int .i64 y.fr, .int .i64 y.to, .int .i64 y.lb] 92))).size := HBa.T.size
              have ov4 := own_rebase J.ou.own.row hle4
              have oe4 := own_rebase J.ov.own.row hle4
              clear HBa XDa bA hb J HAP x0_ x1_ z0_ z1_ z2_ z3_ z4_
              have bY : Below w9.heap.size w9 (w9.alloc (.cells #[.slice A4 n4 c4, .slice B4 m4 d4] 27)) := (Below.refl _ _).alloc (Nat.le_refl _) _
              have XY := Blk.new w9 27 #[.slice A4 n4 c4, .slice B4 m4 d4]
              replace HB := HB.below bY
              replace XD := XD.below bY XD.lt
              replace ov4 := own_below ov4 bY (Nat.le_refl _)
              replace oe4 := own_below oe4 bY (Nat.le_refl _)
              clear bY
              cases is
              · go_wp2_with fail
                refine (l1Once_any _ HB.CR 12 (by omega) (by omega)).mono ?_
                rintro e w10 ⟨q, rfl, C10, t10⟩
                replace HB := HB.tch t10 C10
                replace XD := XD.tch t10 (by omega)
                replace XY := XY.tch t10 (by omega)
                replace ov4 := own_tch ov4 t10 HB.hcb
                replace oe4 := own_tch oe4 t10 HB.hcb
                clear t10 C10
                cases q
                · clear XD XY ov4 oe4
                  go_wp2
                  go_roundw
                  case rel => exact ⟨r, _, _, L, A3, n, c3, _, _, d3, gx, by go_num, by omega, HB⟩
                  case measure => simp [intOf] <;> omega
                · have bA : Below (World.heap w10).size w10 (w10.alloc (.cells #[.bool false, .int .i64 y.id, .int .i64 y.fr, .int .i64 y.to, .int .i64 y.lb] 92)) := (Below.refl _ _).alloc (Nat.le_refl _) _
                  have y0 := HB.XB.cell 0
                  have z0_ := XD.cell 0
                  have z1_ := XD.cell 1
                  have z2_ := XD.cell 2
                  have z3_ := XD.cell 3
                  have z4_ := XD.cell 4
                  have HBa := HB.below bA
                  have XYa := XY.below bA XY.lt
                  have ov5 := own_below ov4 bA (Nat.le_refl _)
                  have oe5 := own_below oe4 bA (Nat.le_refl _)
                  have rdn := (crd_lit w10 ⟨false, y⟩).rd
                  skip
                  have q3 : Small (0 + 1) := small_of (by omega)
                  have hle : w.heap.size ≤ (World.heap (w10.alloc (.cells #[.bool false, .int .i64 y.id, .int .i64 y.fr, .int .i64 y.to, .int .i64 y.lb] 92))).size := HBa.T.size
                  clear bA HB XD XY ov4 oe4
                  go_wp2_with (at_builtin; refine ap_plain _ app_change (by decide) w.heap.size (.tmp 83) (.tmp 85) rfl rfl _ _ _ rfl HBa.ho _ _ 1 1 _ rfl rdn (cgcs_one _) q3 hle ?_; intro v7 w7 hown7 hg7 hat7; clear hat7; obtain ⟨V7, e7, rfl, _⟩ := own_form hown7; have XB7 := blk_grown HBa.XB HBa.ho hg7 (by decide); have b7 := XB7.cell 0; have bf7 := XB7.frozen 0; have XY7 := (blk_grown XYa HBa.ho hg7 (by decide)).far_ (blk_ne (blk_grown XYa HBa.ho hg7 (by decide)) XB7 (by decide)) 0 (.slice V7 (0 + 1) e7); have m0 := XY7.cell 0; have m1 := XY7.cell 1; have HB7 := HBa.app ⟨false, y⟩ (v' := .slice V7 (0 + 1) e7) hg7 (by rw [cgcs_append]; exact hown7); have n0 := HB7.X8.cell 0; have n1 := HB7.X8.cell 1; have nf0 := HB7.X8.frozen 0; have nf1 := HB7.X8.frozen 1)
                  have ov7 := own_set (i := 0) (u := .slice V7 (0 + 1) e7) (own_same ov5 fun q hq => hg7.block q (ownBlock_some ov5 hq).2 fun hh => own_ne ov5 HBa.ho (by decide) q hq hh.symm) XB7 (by decide)
                  have oe7 := own_set (i := 0) (u := .slice V7 (0 + 1) e7) (own_same oe5 fun q hq => hg7.block q (ownBlock_some oe5 hq).2 fun hh => own_ne oe5 HBa.ho (by decide) q hq hh.symm) XB7 (by decide)
                  have HB9 := HB7.lay hn4 hm4 ov7 oe7
                  go_roundw
                  case rel => exact ⟨r, _, 0 + 1, _, A4, n4, c4, B4, m4, d4, gy, by go_num, by omega, HB9⟩
                  case measure => simp [intOf] <;> omega
              · have bA : Below (World.heap (w9.alloc (.cells #[.slice A4 n4 c4, .slice B4 m4 d4] 27))).size (w9.alloc (.cells #[.slice A4 n4 c4, .slice B4 m4 d4] 27)) ((w9.alloc (.cells #[.slice A4 n4 c4, .slice B4 m4 d4] 27)).alloc (.cells #[.bool false, .int .i64 y.id, .int .i64 y.fr, .int .i64 y.to, .int .i64 y.lb] 92)) := (Below.refl _ _).alloc (Nat.le_refl _) _
                have y0 := HB.XB.cell 0
                have z0_ := XD.cell 0
                have z1_ := XD.cell 1
                have z2_ := XD.cell 2
                have z3_ := XD.cell 3
                have z4_ := XD.cell 4
                have HBa := HB.below bA
                have XYa := XY.below bA XY.lt
                have ov5 := own_below ov4 bA (Nat.le_refl _)
                have oe5 := own_below oe4 bA (Nat.le_refl _)
                have rdn := (crd_lit (w9.alloc (.cells #[.slice A4 n4 c4, .slice B4 m4 d4] 27)) ⟨false, y⟩).rd
                rw [show (World.heap (w9.alloc (.cells #[.slice A4 n4 c4, .slice B4 m4 d4] 27))).size = w9.heap.size + 1 from by simp] at rdn
                have q3 : Small (0 + 1) := small_of (by omega)
                have hle : w.heap.size ≤ (World.heap ((w9.alloc (.cells #[.slice A4 n4 c4, .slice B4 m4 d4] 27)).alloc (.cells #[.bool false, .int .i64 y.id, .int .i64 y.fr, .int .i64 y.to, .int .i64 y.lb] 92))).size := HBa.T.size
                clear bA HB XD XY ov4 oe4
                go_wp2_with (at_builtin; refine ap_plain _ app_change (by decide) w.heap.size (.tmp 83) (.tmp 85) rfl rfl _ _ _ rfl HBa.ho _ _ 1 1 _ rfl rdn (cgcs_one _) q3 hle ?_; intro v7 w7 hown7 hg7 hat7; clear hat7; obtain ⟨V7, e7, rfl, _⟩ := own_form hown7; have XB7 := blk_grown HBa.XB HBa.ho hg7 (by decide); have b7 := XB7.cell 0; have bf7 := XB7.frozen 0; have XY7 := (blk_grown XYa HBa.ho hg7 (by decide)).far_ (blk_ne (blk_grown XYa HBa.ho hg7 (by decide)) XB7 (by decide)) 0 (.slice V7 (0 + 1) e7); have m0 := XY7.cell 0; have m1 := XY7.cell 1; have HB7 := HBa.app ⟨false, y⟩ (v' := .slice V7 (0 + 1) e7) hg7 (by rw [cgcs_append]; exact hown7); have n0 := HB7.X8.cell 0; have n1 := HB7.X8.cell 1; have nf0 := HB7.X8.frozen 0; have nf1 := HB7.X8.frozen 1)
                have ov7 := own_set (i := 0) (u := .slice V7 (0 + 1) e7) (own_same ov5 fun q hq => hg7.block q (ownBlock_some ov5 hq).2 fun hh => own_ne ov5 HBa.ho (by decide) q hq hh.symm) XB7 (by decide)
                have oe7 := own_set (i := 0) (u := .slice V7 (0 + 1) e7) (own_same oe5 fun q hq => hg7.block q (ownBlock_some oe5 hq).2 fun hh => own_ne oe5 HBa.ho (by decide) q hq hh.symm) XB7 (by decide)
                have HB9 := HB7.lay hn4 hm4 ov7 oe7
                go_roundw
                case rel => exact ⟨r, _, 0 + 1, _, A4, n4, c4, B4, m4, d4, gy, by go_num, by omega, HB9⟩
                case measure => simp [intOf] <;> omega
            · have hkz : (0 : Int) < (k : Int) := by omega
              go_wp2_with fail
              refine (l1Once_any _ HB.CR 4 (by omega) (by omega)).mono ?_
              rintro e w8 ⟨q, rfl, C8, t8⟩
              replace HB := HB.tch t8 C8
              replace XD := XD.tch t8 (by omega)
              clear t8 C8 x1 y0
              cases q
              · have x0_ := HB.X8.cell 0
                have x1_ := HB.X8.cell 1
                have z0_ := XD.cell 0
                have z1_ := XD.cell 1
                have z2_ := XD.cell 2
                have z3_ := XD.cell 3
                have z4_ := XD.cell 4
                have bA : Below (World.heap w8).size w8 (w8.alloc (.cells #[.bool false, .int .i64 y.id, .int .i64 y.fr, .int .i64 y.to, .int .i64 y.lb] 92)) := (Below.refl _ _).alloc (Nat.le_refl _) _
                have HBa := HB.below bA
                have XDa := XD.below bA XD.lt
                have hcr := crd_lit w8 ⟨false, y⟩
                have hlz : gx.vs.length = n := by simpa using HB.ov.1
                have hr1 := rG_one (g := gx) (c := ⟨false, y⟩) (by have := HB.oe.1; rw [ecs_len] at this; omega)
                obtain ⟨is, his⟩ : ∃ is, (rG gx [⟨false, y⟩]).2 = is := ⟨_, rfl⟩
                obtain ⟨gy, hgy⟩ : ∃ gy, (rG gx [⟨false, y⟩]).1 = gy := ⟨_, rfl⟩
                have hap := fun mm BB (h : GRd (w8.alloc (.cells #[.bool false, .int .i64 y.id, .int .i64 y.fr, .int .i64 y.to, .int .i64 y.lb] 92)) A3 n BB mm gx) => l6Apply_run (w8.alloc (.cells #[.bool false, .int .i64 y.id, .int .i64 y.fr, .int .i64 y.to, .int .i64 y.lb] 92)) (c := c3) (d := d3) (cc := 1) h hcr (by omega)
                simp only [his, hgy] at hap
                rw [hgy] at hr1
                have HAP := Lib.hid hap
                have HLZ := Lib.hid hlz
                have HR1 := Lib.hid hr1
                clear hap his hgy hcr hlz hr1
                go_wp2_with fail
                skip
                with_reducible refine (HAP.out _ _ HBa.grd).mono ?_
                rintro e w9 ⟨A4, n4, c4, B4, m4, d4, rfl, J, hb⟩
                replace HB := HBa.below hb
                have hyz : cb < w9.heap.size := HB.CR.lt
                replace XD := XDa.below hb XDa.lt
                have hn4 : n4 ≤ 5 := by have h1 := J.ou.len; rw [List.length_map, HR1.out.1, HLZ.out] at h1; have := HB.n5; omega
                have hm4 : m4 ≤ 12 := by have h1 := J.ov.len; rw [ecs_len] at h1; have := HR1.out.2; omega
                have hle4 : w.heap.size ≤ (World.heap (w8.alloc (.cells #[.bool false, .int .i64 y.id, .int .i64 y.fr, .int .i64 y.to, .int .i64 y.lb] 92))).size := HBa.T.size
                have ov4 := own_rebase J.ou.own.row hle4
                have oe4 := own_rebase J.ov.own.row hle4
                clear HBa XDa bA hb J HAP x0_ x1_ z0_ z1_ z2_ z3_ z4_
                have bY : Below w9.heap.size w9 (w9.alloc (.cells #[.slice A4 n4 c4, .slice B4 m4 d4] 27)) := (Below.refl _ _).alloc (Nat.le_refl _) _
                have XY := Blk.new w9 27 #[.slice A4 n4 c4, .slice B4 m4 d4]
                replace HB := HB.below bY
                replace XD := XD.below bY XD.lt
                replace ov4 := own_below ov4 bY (Nat.le_refl _)
                replace oe4 := own_below oe4 bY (Nat.le_refl _)
                clear bY
                cases is
                · go_wp2_with fail
                  refine (l1Once_any _ HB.CR 12 (by omega) (by omega)).mono ?_
                  rintro e w10 ⟨q, rfl, C10, t10⟩
                  replace HB := HB.tch t10 C10
                  replace XD := XD.tch t10 (by omega)
                  replace XY := XY.tch t10 (by omega)
                  replace ov4 := own_tch ov4 t10 HB.hcb
                  replace oe4 := own_tch oe4 t10 HB.hcb
                  clear t10 C10
                  cases q
                  · clear XD XY ov4 oe4
                    go_wp2
                    go_roundw
                    case rel => exact ⟨r, _, _, L, A3, n, c3, _, _, d3, gx, by go_num, by omega, HB⟩
                    case measure => simp [intOf] <;> omega
                  · have bA : Below (World.heap w10).size w10 (w10.alloc (.cells #[.bool false, .int .i64 y.id, .int .i64 y.fr, .int .i64 y.to, .int .i64 y.lb] 92)) := (Below.refl _ _).alloc (Nat.le_refl _) _
                    have y0 := HB.XB.cell 0
                    have z0_ := XD.cell 0
                    have z1_ := XD.cell 1
                    have z2_ := XD.cell 2
                    have z3_ := XD.cell 3
                    have z4_ := XD.cell 4
                    have HBa := HB.below bA
                    have XYa := XY.below bA XY.lt
                    have ov5 := own_below ov4 bA (Nat.le_refl _)
                    have oe5 := own_below oe4 bA (Nat.le_refl _)
                    have rdn := (crd_lit w10 ⟨false, y⟩).rd
                    skip
                    have q3 : Small (k + 1) := small_of (by omega)
                    have hle : w.heap.size ≤ (World.heap (w10.alloc (.cells #[.bool false, .int .i64 y.id, .int .i64 y.fr, .int .i64 y.to, .int .i64 y.lb] 92))).size := HBa.T.size
                    clear bA HB XD XY ov4 oe4
                    go_wp2_with (at_builtin; refine ap_plain _ app_change (by decide) w.heap.size (.tmp 83) (.tmp 85) rfl rfl _ _ _ rfl HBa.ho _ _ 1 1 _ rfl rdn (cgcs_one _) q3 hle ?_; intro v7 w7 hown7 hg7 hat7; clear hat7; obtain ⟨V7, e7, rfl, _⟩ := own_form hown7; have XB7 := blk_grown HBa.XB HBa.ho hg7 (by decide); have b7 := XB7.cell 0; have bf7 := XB7.frozen 0; have XY7 := (blk_grown XYa HBa.ho hg7 (by decide)).far_ (blk_ne (blk_grown XYa HBa.ho hg7 (by decide)) XB7 (by decide)) 0 (.slice V7 (k + 1) e7); have m0 := XY7.cell 0; have m1 := XY7.cell 1; have HB7 := HBa.app ⟨false, y⟩ (v' := .slice V7 (k + 1) e7) hg7 (by rw [cgcs_append]; exact hown7); have n0 := HB7.X8.cell 0; have n1 := HB7.X8.cell 1; have nf0 := HB7.X8.frozen 0; have nf1 := HB7.X8.frozen 1)
                    have ov7 := own_set (i := 0) (u := .slice V7 (k + 1) e7) (own_same ov5 fun q hq => hg7.block q (ownBlock_some ov5 hq).2 fun hh => own_ne ov5 HBa.ho (by decide) q hq hh.symm) XB7 (by decide)
                    have oe7 := own_set (i := 0) (u := .slice V7 (k + 1) e7) (own_same oe5 fun q hq => hg7.block q (ownBlock_some oe5 hq).2 fun hh => own_ne oe5 HBa.ho (by decide) q hq hh.symm) XB7 (by decide)
                    have HB9 := HB7.lay hn4 hm4 ov7 oe7
                    go_roundw
                    case rel => exact ⟨r, _, k + 1, _, A4, n4, c4, B4, m4, d4, gy, by go_num, by omega, HB9⟩
                    case measure => simp [intOf] <;> omega
                · have bA : Below (World.heap (w9.alloc (.cells #[.slice A4 n4 c4, .slice B4 m4 d4] 27))).size (w9.alloc (.cells #[.slice A4 n4 c4, .slice B4 m4 d4] 27)) ((w9.alloc (.cells #[.slice A4 n4 c4, .slice B4 m4 d4] 27)).alloc (.cells #[.bool false, .int .i64 y.id, .int .i64 y.fr, .int .i64 y.to, .int .i64 y.lb] 92)) := (Below.refl _ _).alloc (Nat.le_refl _) _
                  have y0 := HB.XB.cell 0
                  have z0_ := XD.cell 0
                  have z1_ := XD.cell 1
                  have z2_ := XD.cell 2
                  have z3_ := XD.cell 3
                  have z4_ := XD.cell 4
                  have HBa := HB.below bA
                  have XYa := XY.below bA XY.lt
                  have ov5 := own_below ov4 bA (Nat.le_refl _)
                  have oe5 := own_below oe4 bA (Nat.le_refl _)
                  have rdn := (crd_lit (w9.alloc (.cells #[.slice A4 n4 c4, .slice B4 m4 d4] 27)) ⟨false, y⟩).rd
                  rw [show (World.heap (w9.alloc (.cells #[.slice A4 n4 c4, .slice B4 m4 d4] 27))).size = w9.heap.size + 1 from by simp] at rdn
                  have q3 : Small (k + 1) := small_of (by omega)
                  have hle : w.heap.size ≤ (World.heap ((w9.alloc (.cells #[.slice A4 n4 c4, .slice B4 m4 d4] 27)).alloc (.cells #[.bool false, .int .i64 y.id, .int .i64 y.fr, .int .i64 y.to, .int .i64 y.lb] 92))).size := HBa.T.size
                  clear bA HB XD XY ov4 oe4
                  go_wp2_with (at_builtin; refine ap_plain _ app_change (by decide) w.heap.size (.tmp 83) (.tmp 85) rfl rfl _ _ _ rfl HBa.ho _ _ 1 1 _ rfl rdn (cgcs_one _) q3 hle ?_; intro v7 w7 hown7 hg7 hat7; clear hat7; obtain ⟨V7, e7, rfl, _⟩ := own_form hown7; have XB7 := blk_grown HBa.XB HBa.ho hg7 (by decide); have b7 := XB7.cell 0; have bf7 := XB7.frozen 0; have XY7 := (blk_grown XYa HBa.ho hg7 (by decide)).far_ (blk_ne (blk_grown XYa HBa.ho hg7 (by decide)) XB7 (by decide)) 0 (.slice V7 (k + 1) e7); have m0 := XY7.cell 0; have m1 := XY7.cell 1; have HB7 := HBa.app ⟨false, y⟩ (v' := .slice V7 (k + 1) e7) hg7 (by rw [cgcs_append]; exact hown7); have n0 := HB7.X8.cell 0; have n1 := HB7.X8.cell 1; have nf0 := HB7.X8.frozen 0; have nf1 := HB7.X8.frozen 1)
                  have ov7 := own_set (i := 0) (u := .slice V7 (k + 1) e7) (own_same ov5 fun q hq => hg7.block q (ownBlock_some ov5 hq).2 fun hh => own_ne ov5 HBa.ho (by decide) q hq hh.symm) XB7 (by decide)
                  have oe7 := own_set (i := 0) (u := .slice V7 (k + 1) e7) (own_same oe5 fun q hq => hg7.block q (ownBlock_some oe5 hq).2 fun hh => own_ne oe5 HBa.ho (by decide) q hq hh.symm) XB7 (by decide)
                  have HB9 := HB7.lay hn4 hm4 ov7 oe7
                  go_roundw
                  case rel => exact ⟨r, _, k + 1, _, A4, n4, c4, B4, m4, d4, gy, by go_num, by omega, HB9⟩
                  case measure => simp [intOf] <;> omega
              · obtain ⟨k', rfl⟩ : ∃ k', k = k' + 1 := ⟨k - 1, by omega⟩
                have hwk : IntKind.i64.wrap (((k' + 1 : Nat) : Int) - 1) = (k' : Int) := by rw [IntKind.wrap_i64]; have := HB.lL; omega
                obtain ⟨rb, ro, rfl, _, y, hy, p0, p1, p2, p3, p4⟩ := change_at (k := k') (Reads.of_own HB.ho) HB.lL (by omega)
                have y0 := HB.XB.cell 0
                have hka : (k' : Int) < ((k' + 1 : Nat) : Int) := by omega
                have hkb : (0 : Int) ≤ (k' : Int) := by omega
                have bZ : Below (World.heap w8).size w8 (w8.alloc (.cells #[.bool y.ins, .int .i64 y.e.id, .int .i64 y.e.fr, .int .i64 y.e.to, .int .i64 y.e.lb] 92)) := (Below.refl _ _).alloc (Nat.le_refl _) _
                have HBy := HB.below bZ
                have XDy := XD.below bZ XD.lt
                have k0 := XDy.cell 0
                have k1 := XDy.cell 1
                have k2 := XDy.cell 2
                have k3 := XDy.cell 3
                have k4 := XDy.cell 4
                have f0 := XDy.frozen 0
                have f1 := XDy.frozen 1
                have f2 := XDy.frozen 2
                have f3 := XDy.frozen 3
                have f4 := XDy.frozen 4
                have H0 := HBy.chg XDy hz hne 0 (.bool (!y.ins))
                have Z0 := XDy.set_ 0 (.bool (!y.ins))
                have H1 := H0.chg Z0 hz hne 1 (.int .i64 y.e.id)
                have Z1 := Z0.set_ 1 (.int .i64 y.e.id)
                have H2 := H1.chg Z1 hz hne 2 (.int .i64 y.e.fr)
                have Z2 := Z1.set_ 2 (.int .i64 y.e.fr)
                have H3 := H2.chg Z2 hz hne 3 (.int .i64 y.e.to)
                have Z3 := Z2.set_ 3 (.int .i64 y.e.to)
                have H4 := H3.chg Z3 hz hne 4 (.int .i64 y.e.lb)
                have Z4 := Z3.set_ 4 (.int .i64 y.e.lb)
                clear hy
                replace HB := H4
                replace XD := Z4
                clear H0 H1 H2 H3 Z0 Z1 Z2 Z3 H4 Z4 HBy XDy bZ
                have x0_ := HB.X8.cell 0
                have x1_ := HB.X8.cell 1
                have z0_ := XD.cell 0
                have z1_ := XD.cell 1
                have z2_ := XD.cell 2
                have z3_ := XD.cell 3
                have z4_ := XD.cell 4
                have bA : Below (World.heap ((((((w8.alloc (.cells #[.bool y.ins, .int .i64 y.e.id, .int .i64 y.e.fr, .int .i64 y.e.to, .int .i64 y.e.lb] 92)).setCell ⟨w5.heap.size, 0, none⟩ (.bool (!y.ins))).setCell ⟨w5.heap.size, 1, none⟩ (.int .i64 y.e.id)).setCell ⟨w5.heap.size, 2, none⟩ (.int .i64 y.e.fr)).setCell ⟨w5.heap.size, 3, none⟩ (.int .i64 y.e.to)).setCell ⟨w5.heap.size, 4, none⟩ (.int .i64 y.e.lb))).size ((((((w8.alloc (.cells #[.bool y.ins, .int .i64 y.e.id, .int .i64 y.e.fr, .int .i64 y.e.to, .int .i64 y.e.lb] 92)).setCell ⟨w5.heap.size, 0, none⟩ (.bool (!y.ins))).setCell ⟨w5.heap.size, 1, none⟩ (.int .i64 y.e.id)).setCell ⟨w5.heap.size, 2, none⟩ (.int .i64 y.e.fr)).setCell ⟨w5.heap.size, 3, none⟩ (.int .i64 y.e.to)).setCell ⟨w5.heap.size, 4, none⟩ (.int .i64 y.e.lb)) (((((((w8.alloc (.cells #[.bool y.ins, .int .i64 y.e.id, .int .i64 y.e.fr, .int .i64 y.e.to, .int .i64 y.e.lb] 92)).setCell ⟨w5.heap.size, 0, none⟩ (.bool (!y.ins))).setCell ⟨w5.heap.size, 1, none⟩ (.int .i64 y.e.id)).setCell ⟨w5.heap.size, 2, none⟩ (.int .i64 y.e.fr)).setCell ⟨w5.heap.size, 3, none⟩ (.int .i64 y.e.to)).setCell ⟨w5.heap.size, 4, none⟩ (.int .i64 y.e.lb)).alloc (.cells #[.bool (!y.ins), .int .i64 y.e.id, .int .i64 y.e.fr, .int .i64 y.e.to, .int .i64 y.e.lb] 92)) := (Below.refl _ _).alloc (Nat.le_refl _) _
                have HBa := HB.below bA
                have XDa := XD.below bA XD.lt
                have hcr := crd_lit ((((((w8.alloc (.cells #[.bool y.ins, .int .i64 y.e.id, .int .i64 y.e.fr, .int .i64 y.e.to, .int .i64 y.e.lb] 92)).setCell ⟨w5.heap.size, 0, none⟩ (.bool (!y.ins))).setCell ⟨w5.heap.size, 1, none⟩ (.int .i64 y.e.id)).setCell ⟨w5.heap.size, 2, none⟩ (.int .i64 y.e.fr)).setCell ⟨w5.heap.size, 3, none⟩ (.int .i64 y.e.to)).setCell ⟨w5.heap.size, 4, none⟩ (.int .i64 y.e.lb)) ⟨(!y.ins), y.e⟩
                have hlz : gx.vs.length = n := by simpa using HB.ov.1
                have hr1 := rG_one (g := gx) (c := ⟨(!y.ins), y.e⟩) (by have := HB.oe.1; rw [ecs_len] at this; omega)
                obtain ⟨is, his⟩ : ∃ is, (rG gx [⟨(!y.ins), y.e⟩]).2 = is := ⟨_, rfl⟩
                obtain ⟨gy, hgy⟩ : ∃ gy, (rG gx [⟨(!y.ins), y.e⟩]).1 = gy := ⟨_, rfl⟩
                have hap := fun mm BB (h : GRd (((((((w8.alloc (.cells #[.bool y.ins, .int .i64 y.e.id, .int .i64 y.e.fr, .int .i64 y.e.to, .int .i64 y.e.lb] 92)).setCell ⟨w5.heap.size, 0, none⟩ (.bool (!y.ins))).setCell ⟨w5.heap.size, 1, none⟩ (.int .i64 y.e.id)).setCell ⟨w5.heap.size, 2, none⟩ (.int .i64 y.e.fr)).setCell ⟨w5.heap.size, 3, none⟩ (.int .i64 y.e.to)).setCell ⟨w5.heap.size, 4, none⟩ (.int .i64 y.e.lb)).alloc (.cells #[.bool (!y.ins), .int .i64 y.e.id, .int .i64 y.e.fr, .int .i64 y.e.to, .int .i64 y.e.lb] 92)) A3 n BB mm gx) => l6Apply_run (((((((w8.alloc (.cells #[.bool y.ins, .int .i64 y.e.id, .int .i64 y.e.fr, .int .i64 y.e.to, .int .i64 y.e.lb] 92)).setCell ⟨w5.heap.size, 0, none⟩ (.bool (!y.ins))).setCell ⟨w5.heap.size, 1, none⟩ (.int .i64 y.e.id)).setCell ⟨w5.heap.size, 2, none⟩ (.int .i64 y.e.fr)).setCell ⟨w5.heap.size, 3, none⟩ (.int .i64 y.e.to)).setCell ⟨w5.heap.size, 4, none⟩ (.int .i64 y.e.lb)).alloc (.cells #[.bool (!y.ins), .int .i64 y.e.id, .int .i64 y.e.fr, .int .i64 y.e.to, .int .i64 y.e.lb] 92)) (c := c3) (d := d3) (cc := 1) h hcr (by omega)
                simp only [his, hgy] at hap
                rw [hgy] at hr1
                have HAP := Lib.hid hap
                have HLZ := Lib.hid hlz
                have HR1 := Lib.hid hr1
                clear hap his hgy hcr hlz hr1
                go_wp2_with fail
                rw [show w8.heap.size + 1 = (World.heap ((((((w8.alloc (.cells #[.bool y.ins, .int .i64 y.e.id, .int .i64 y.e.fr, .int .i64 y.e.to, .int .i64 y.e.lb] 92)).setCell ⟨w5.heap.size, 0, none⟩ (.bool (!y.ins))).setCell ⟨w5.heap.size, 1, none⟩ (.int .i64 y.e.id)).setCell ⟨w5.heap.size, 2, none⟩ (.int .i64 y.e.fr)).setCell ⟨w5.heap.size, 3, none⟩ (.int .i64 y.e.to)).setCell ⟨w5.heap.size, 4, none⟩ (.int .i64 y.e.lb))).size from by simp]
                with_reducible refine (HAP.out _ _ HBa.grd).mono ?_
                rintro e w9 ⟨A4, n4, c4, B4, m4, d4, rfl, J, hb⟩
                replace HB := HBa.below hb
                have hyz : cb < w9.heap.size := HB.CR.lt
                replace XD := XDa.below hb XDa.lt
                have hn4 : n4 ≤ 5 := by have h1 := J.ou.len; rw [List.length_map, HR1.out.1, HLZ.out] at h1; have := HB.n5; omega
                have hm4 : m4 ≤ 12 := by have h1 := J.ov.len; rw [ecs_len] at h1; have := HR1.out.2; omega
                have hle4 : w.heap.size ≤ (World.heap (((((((w8.alloc (.cells #[.bool y.ins, .int .i64 y.e.id, .int .i64 y.e.fr, .int .i64 y.e.to, .int .i64 y.e.lb] 92)).setCell ⟨w5.heap.size, 0, none⟩ (.bool (!y.ins))).setCell ⟨w5.heap.size, 1, none⟩ (.int .i64 y.e.id)).setCell ⟨w5.heap.size, 2, none⟩ (.int .i64 y.e.fr)).setCell ⟨w5.heap.size, 3, none⟩ (.int .i64 y.e.to)).setCell ⟨w5.heap.size, 4, none⟩ (.int .i64 y.e.lb)).alloc (.cells #[.bool (!y.ins), .int .i64 y.e.id, .int .i64 y.e.fr, .int .i64 y.e.to, .int .i64 y.e.lb] 92))).size := HBa.T.size
                have ov4 := own_rebase J.ou.own.row hle4
                have oe4 := own_rebase J.ov.own.row hle4
                clear HBa XDa bA hb J HAP x0_ x1_ z0_ z1_ z2_ z3_ z4_
                have bY : Below w9.heap.size w9 (w9.alloc (.cells #[.slice A4 n4 c4, .slice B4 m4 d4] 27)) := (Below.refl _ _).alloc (Nat.le_refl _) _
                have XY := Blk.new w9 27 #[.slice A4 n4 c4, .slice B4 m4 d4]
                replace HB := HB.below bY
                replace XD := XD.below bY XD.lt
                replace ov4 := own_below ov4 bY (Nat.le_refl _)
                replace oe4 := own_below oe4 bY (Nat.le_refl _)
                clear bY
                cases is
                · go_wp2_with fail
                  refine (l1Once_any _ HB.CR 12 (by omega) (by omega)).mono ?_
                  rintro e w10 ⟨q, rfl, C10, t10⟩
                  replace HB := HB.tch t10 C10
                  replace XD := XD.tch t10 (by omega)
                  replace XY := XY.tch t10 (by omega)
                  replace ov4 := own_tch ov4 t10 HB.hcb
                  replace oe4 := own_tch oe4 t10 HB.hcb
                  clear t10 C10
                  cases q
                  · clear XD XY ov4 oe4
                    go_wp2
                    go_roundw
                    case rel => exact ⟨r, _, _, L, A3, n, c3, _, _, d3, gx, by go_num, by omega, HB⟩
                    case measure => simp [intOf] <;> omega
                  · have bA : Below (World.heap w10).size w10 (w10.alloc (.cells #[.bool (!y.ins), .int .i64 y.e.id, .int .i64 y.e.fr, .int .i64 y.e.to, .int .i64 y.e.lb] 92)) := (Below.refl _ _).alloc (Nat.le_refl _) _
                    have y0 := HB.XB.cell 0
                    have z0_ := XD.cell 0
                    have z1_ := XD.cell 1
                    have z2_ := XD.cell 2
                    have z3_ := XD.cell 3
                    have z4_ := XD.cell 4
                    have HBa := HB.below bA
                    have XYa := XY.below bA XY.lt
                    have ov5 := own_below ov4 bA (Nat.le_refl _)
                    have oe5 := own_below oe4 bA (Nat.le_refl _)
                    have rdn := (crd_lit w10 ⟨(!y.ins), y.e⟩).rd
                    skip
                    have q3 : Small ((k' + 1) + 1) := small_of (by omega)
                    have hle : w.heap.size ≤ (World.heap (w10.alloc (.cells #[.bool (!y.ins), .int .i64 y.e.id, .int .i64 y.e.fr, .int .i64 y.e.to, .int .i64 y.e.lb] 92))).size := HBa.T.size
                    clear bA HB XD XY ov4 oe4
                    go_wp2_with (at_builtin; refine ap_plain _ app_change (by decide) w.heap.size (.tmp 83) (.tmp 85) rfl rfl _ _ _ rfl HBa.ho _ _ 1 1 _ rfl rdn (cgcs_one _) q3 hle ?_; intro v7 w7 hown7 hg7 hat7; clear hat7; obtain ⟨V7, e7, rfl, _⟩ := own_form hown7; have XB7 := blk_grown HBa.XB HBa.ho hg7 (by decide); have b7 := XB7.cell 0; have bf7 := XB7.frozen 0; have XY7 := (blk_grown XYa HBa.ho hg7 (by decide)).far_ (blk_ne (blk_grown XYa HBa.ho hg7 (by decide)) XB7 (by decide)) 0 (.slice V7 ((k' + 1) + 1) e7); have m0 := XY7.cell 0; have m1 := XY7.cell 1; have HB7 := HBa.app ⟨(!y.ins), y.e⟩ (v' := .slice V7 ((k' + 1) + 1) e7) hg7 (by rw [cgcs_append]; exact hown7); have n0 := HB7.X8.cell 0; have n1 := HB7.X8.cell 1; have nf0 := HB7.X8.frozen 0; have nf1 := HB7.X8.frozen 1)
                    have ov7 := own_set (i := 0) (u := .slice V7 ((k' + 1) + 1) e7) (own_same ov5 fun q hq => hg7.block q (ownBlock_some ov5 hq).2 fun hh => own_ne ov5 HBa.ho (by decide) q hq hh.symm) XB7 (by decide)
                    have oe7 := own_set (i := 0) (u := .slice V7 ((k' + 1) + 1) e7) (own_same oe5 fun q hq => hg7.block q (ownBlock_some oe5 hq).2 fun hh => own_ne oe5 HBa.ho (by decide) q hq hh.symm) XB7 (by decide)
                    have HB9 := HB7.lay hn4 hm4 ov7 oe7
                    go_roundw
                    case rel => exact ⟨r, _, (k' + 1) + 1, _, A4, n4, c4, B4, m4, d4, gy, by go_num, by omega, HB9⟩
                    case measure => simp [intOf] <;> omega
                · have bA : Below (World.heap (w9.alloc (.cells #[.slice A4 n4 c4, .slice B4 m4 d4] 27))).size (w9.alloc (.cells #[.slice A4 n4 c4, .slice B4 m4 d4] 27)) ((w9.alloc (.cells #[.slice A4 n4 c4, .slice B4 m4 d4] 27)).alloc (.cells #[.bool (!y.ins), .int .i64 y.e.id, .int .i64 y.e.fr, .int .i64 y.e.to, .int .i64 y.e.lb] 92)) := (Below.refl _ _).alloc (Nat.le_refl _) _
                  have y0 := HB.XB.cell 0
                  have z0_ := XD.cell 0
                  have z1_ := XD.cell 1
                  have z2_ := XD.cell 2
                  have z3_ := XD.cell 3
                  have z4_ := XD.cell 4
                  have HBa := HB.below bA
                  have XYa := XY.below bA XY.lt
                  have ov5 := own_below ov4 bA (Nat.le_refl _)
                  have oe5 := own_below oe4 bA (Nat.le_refl _)
                  have rdn := (crd_lit (w9.alloc (.cells #[.slice A4 n4 c4, .slice B4 m4 d4] 27)) ⟨(!y.ins), y.e⟩).rd
                  rw [show (World.heap (w9.alloc (.cells #[.slice A4 n4 c4, .slice B4 m4 d4] 27))).size = w9.heap.size + 1 from by simp] at rdn
                  have q3 : Small ((k' + 1) + 1) := small_of (by omega)
                  have hle : w.heap.size ≤ (World.heap ((w9.alloc (.cells #[.slice A4 n4 c4, .slice B4 m4 d4] 27)).alloc (.cells #[.bool (!y.ins), .int .i64 y.e.id, .int .i64 y.e.fr, .int .i64 y.e.to, .int .i64 y.e.lb] 92))).size := HBa.T.size
                  clear bA HB XD XY ov4 oe4
                  go_wp2_with (at_builtin; refine ap_plain _ app_change (by decide) w.heap.size (.tmp 83) (.tmp 85) rfl rfl _ _ _ rfl HBa.ho _ _ 1 1 _ rfl rdn (cgcs_one _) q3 hle ?_; intro v7 w7 hown7 hg7 hat7; clear hat7; obtain ⟨V7, e7, rfl, _⟩ := own_form hown7; have XB7 := blk_grown HBa.XB HBa.ho hg7 (by decide); have b7 := XB7.cell 0; have bf7 := XB7.frozen 0; have XY7 := (blk_grown XYa HBa.ho hg7 (by decide)).far_ (blk_ne (blk_grown XYa HBa.ho hg7 (by decide)) XB7 (by decide)) 0 (.slice V7 ((k' + 1) + 1) e7); have m0 := XY7.cell 0; have m1 := XY7.cell 1; have HB7 := HBa.app ⟨(!y.ins), y.e⟩ (v' := .slice V7 ((k' + 1) + 1) e7) hg7 (by rw [cgcs_append]; exact hown7); have n0 := HB7.X8.cell 0; have n1 := HB7.X8.cell 1; have nf0 := HB7.X8.frozen 0; have nf1 := HB7.X8.frozen 1)
                  have ov7 := own_set (i := 0) (u := .slice V7 ((k' + 1) + 1) e7) (own_same ov5 fun q hq => hg7.block q (ownBlock_some ov5 hq).2 fun hh => own_ne ov5 HBa.ho (by decide) q hq hh.symm) XB7 (by decide)
                  have oe7 := own_set (i := 0) (u := .slice V7 ((k' + 1) + 1) e7) (own_same oe5 fun q hq => hg7.block q (ownBlock_some oe5 hq).2 fun hh => own_ne oe5 HBa.ho (by decide) q hq hh.symm) XB7 (by decide)
                  have HB9 := HB7.lay hn4 hm4 ov7 oe7
                  go_roundw
                  case rel => exact ⟨r, _, (k' + 1) + 1, _, A4, n4, c4, B4, m4, d4, gy, by go_num, by omega, HB9⟩
                  case measure => simp [intOf] <;> omega
end Go.Proofs.YtomkgnamjfiocaaGreatDoor
