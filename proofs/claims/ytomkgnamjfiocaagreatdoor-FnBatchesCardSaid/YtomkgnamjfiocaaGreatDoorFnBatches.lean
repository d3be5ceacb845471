/-
  FnBatchesCardSaid: for every input the law FnBatches returns true, and its arguments read afterwards as before. Condition: the package variables that the row lists hold what their initialisers lay; the card ties that to the text.
-/
import Derived.Test.YtomkgnamjfiocaaGreatDoorArgB
import Derived.Test.YtomkgnamjfiocaaGreatDoorDrwQ
import Derived.Test.YtomkgnamjfiocaaGreatDoorBtN
import Derived.Test.YtomkgnamjfiocaaGreatDoorAp
import Derived.Test.YtomkgnamjfiocaaGreatDoorAp3
import Derived.Test.YtomkgnamjfiocaaGreatDoorEqG3
import Derived.Test.YtomkgnamjfiocaaGreatDoorEqB
import Derived.Test.YtomkgnamjfiocaaGreatDoorInvB
import Derived.Test.YtomkgnamjfiocaaGreatDoorNetI
import Derived.Test.YtomkgnamjfiocaaGreatDoorBtw
import Derived.Test.YtomkgnamjfiocaaGreatDoorBtw2
import Derived.Test.YtomkgnamjfiocaaGreatDoorFmtB
import Derived.Test.YtomkgnamjfiocaaGreatDoorPrsB
import Derived.Test.YtomkgnamjfiocaaGreatDoorFr
import Derived.Test.YtomkgnamjfiocaaGreatDoorCards
import Derived.Test.YtomkgnamjfiocaaGreatDoorTie
import Derived.Deep.DeepHandedRow
import Derived.Lay
import Derived.SevenTiedAt
import Derived.LaidMore
import Derived.Stop.Joined
namespace Go.Proofs.YtomkgnamjfiocaaGreatDoor.fnBatches
open Go.ChangeShapes Go.WideShapes Go.ChangeAt Go.RowKit Go.Deep
open Go.ChangeMaps (open_string shut_string)
set_option linter.unusedVariables false

theorem gis_any {w : World} {lo hi : Nat} {A : Option Addr} {n c : Nat} {B : Option Addr} {m d : Nat} {g : G} (J : GIs w lo hi A n c B m d (g.vs.map iv) (ecs g.es)) : GRd w A n B m g := ⟨J.greads, J.ou.bd, J.ov.bd⟩
theorem eqG_rd (w : World) {A B A2 B2 : Option Addr} {n c m d n2 c2 m2 d2 : Nat} {g h : G} (hg : GRd w A n B m g) (hh : GRd w A2 n2 B2 m2 h) : Calls Tryz.prog 27 #[.agg #[.slice A n c, .slice B m d], .agg #[.slice A2 n2 c2, .slice B2 m2 d2]] w fun e w' => e = .returned (.bool (decide (g = h))) ∧ Below w.heap.size w w' :=
  implEqG_any A B A2 B2 n c m d n2 c2 m2 d2 g h w hg.gr hh.gr hg.bn hg.bm hh.bn hh.bm
theorem bt {w w' : World} (h : Tch 0 0 w w') : Below w.heap.size w w' := ⟨h.os, h.tape, h.output, h.size, fun k hk => h.block k hk (by omega)⟩
theorem fmtBt_len (l : List Cg) : (fmtBt l).length ≤ 1000 := by
  by_cases h : (decide (l.length ≤ 6) && l.all (fun c => okE 5 c.e)) = true
  · have h1 := fmtCs_len l
    have h2 : l.length ≤ 6 := by
      have := (Bool.and_eq_true_iff.1 h).1
      simpa using this
    unfold fmtBt
    rw [if_pos h]
    omega
  · unfold fmtBt
    rw [if_neg h]
    simp

theorem own : ownKnob Tryz.prog.godebug = none := by kernel_rfl
theorem laidOut : laidOutB Tryz.prog = true := by kernel_rfl

set_option maxRecDepth 4000 in
set_option maxHeartbeats 64000000 in
theorem walk (W : World) (hS : W.ShapedOpen Tryz.prog) (hL : laidMet Tryz.prog Rows.fnBatchesRow.laid W) (v0 : Value) (g0 : ArgBytes W v0) :
    Calls Tryz.prog 4 #[v0] W fun e w' => e = .returned (.bool true) ∧ Below W.heap.size W w' := by
  have TP : TabP W := tabP_of hL.tail.tail
  have TE : TabE W := tabE_of hL.tail.tail.tail.tail.tail
  have TM : TabM W := tabM_of hS
  clear hL hS
  obtain ⟨A0, n0, cp0, bs, rfl, hl, hnc, hcm, hr⟩ := g0
  by_cases hbig : (1048576 : Int) < n0
  · have hd : decide ((1048576 : Int) < n0) = true := by simpa using hbig
    go_enter Tryz.func4, Tryz.ntmps4
    go_wp2_with fail
    refine (big_is _ _ _ _).mono ?_
    rintro e w1 ⟨rfl, rfl⟩
    go_wp2
    go_ret
    exact ⟨rfl, Below.refl _ _⟩
  · have hd : decide ((1048576 : Int) < n0) = false := by simpa using hbig
    have R0 : CRaw W A0 n0 := ⟨⟨bs, hl, hr⟩, by omega⟩
    clear hl hnc hcm hr
    go_enter Tryz.func4, Tryz.ntmps4
    go_wp2_with fail
    refine (big_is _ _ _ _).mono ?_
    rintro e w0 ⟨rfl, rfl⟩
    go_wp2_with fail
    refine (drawApply_any w0 R0).mono ?_
    rintro e w1 ⟨A, n, c, B, m, d, C, k, cf, rfl, hmd, ⟨vs, es, G3⟩, ⟨bl, C4⟩, hk8, hn5, hm12, hb⟩
    obtain ⟨g, hg⟩ : ∃ g : G, (⟨vs, es⟩ : G) = g := ⟨_, rfl⟩
    rw [hg] at G3
    clear hg
    have Bw1 := hb
    clear hb
    have bA : Below w1.heap.size w1 (w1.alloc (.cells #[.slice A n c, .slice B m d] 27)) := (Below.refl _ _).alloc (Nat.le_refl _) _
    have Xg3 := Blk.new w1 27 #[.slice A n c, .slice B m d]
    have BN := below_then Bw1 bA
    replace G3 := G3.up bA
    replace C4 := C4.up bA
    clear bA Bw1
    generalize hwg3 : w1.alloc (.cells #[.slice A n c, .slice B m d] 27) = w2 at *
    generalize hhg3 : w1.heap.size = bg3 at *
    have HWg3 := Lib.hid hwg3
    have HHg3 := Lib.hid hhg3
    clear hwg3 hhg3
    have Bw2 := BN
    clear BN
    have bA : Below w2.heap.size w2 (w2.alloc (.cells #[.slice C k cf] 47)) := (Below.refl _ _).alloc (Nat.le_refl _) _
    have Xb4 := Blk.new w2 47 #[.slice C k cf]
    have BN := below_then Bw2 bA
    replace Xg3 := Xg3.below bA Xg3.lt
    replace G3 := G3.up bA
    replace C4 := C4.up bA
    clear bA Bw2
    generalize hwb4 : w2.alloc (.cells #[.slice C k cf] 47) = w3 at *
    have hsz : w2.heap.size = bg3 + 1 := by rw [← HWg3.out, World.size_alloc, HHg3.out]
    rw [hsz] at Xb4
    clear hsz
    generalize hhb4 : bg3 + 1 = bb4 at *
    have HWb4 := Lib.hid hwb4
    have HHb4 := Lib.hid hhb4
    clear hwb4 hhb4
    have Bw3 := BN
    clear BN
    obtain ⟨is, his⟩ : ∃ is, (apG g bl).2 = is := ⟨_, rfl⟩
    obtain ⟨gx, hgx⟩ : ∃ gx, (apG g bl).1 = gx := ⟨_, rfl⟩
    have hlaw : is = true → apG gx (invertL bl) = (g, true) ∧ apG g (netB bl) = (gx, true) ∧ (netB bl).length ≤ bl.length := by
      intro h
      have h1 : apG g bl = (gx, true) := by
        rw [← hgx, ← h, ← his]
      exact ⟨inv_law h1, (net_law h1).1, (net_law h1).2⟩
    have HLAW := Lib.hid hlaw
    clear hlaw
    have i1 := fun w (h : GRd w A n B m g) (hc : CRd w C k bl) => implApplyBatch_is w (c := c) (d := d) (cc := cf) h hc
    have i2 := fun w (h : GRd w A n B m g) (hc : CRd w C k bl) => specApplyBatch_is w (c := c) (d := d) (cc := cf) h hc
    have i3 := fun w (h : GRd w A n B m g) (hc : CRd w C k bl) => implIsApplicable_is w (c := c) (d := d) (cc := cf) h hc
    simp only [his, hgx] at i1 i2 i3
    have I1 := Lib.hid i1
    have I2 := Lib.hid i2
    have I3 := Lib.hid i3
    clear i1 i2 i3 his hgx
    have lg30 := Xg3.cell 0
    have lg31 := Xg3.cell 1
    have lb40 := Xb4.cell 0
    go_wp2_with fail
    rw [HWg3.out, HHg3.out, HWb4.out, HHb4.out]
    refine (I1.out _ G3 C4).mono ?_
    rintro e w4 ⟨A5, n5, c5, B5, m5, d5, rfl, J5, hb⟩
    clear lg30 lg31 lb40
    have Bw4 := below_then Bw3 hb
    replace Xg3 := Xg3.below hb Xg3.lt
    replace Xb4 := Xb4.below hb Xb4.lt
    replace G3 := G3.up hb
    replace C4 := C4.up hb
    clear hb
    clear Bw3
    have G5 := gis_any J5
    clear J5
    have bA : Below w4.heap.size w4 (w4.alloc (.cells #[.slice A5 n5 c5, .slice B5 m5 d5] 27)) := (Below.refl _ _).alloc (Nat.le_refl _) _
    have Xg5 := Blk.new w4 27 #[.slice A5 n5 c5, .slice B5 m5 d5]
    have BN := below_then Bw4 bA
    replace Xg3 := Xg3.below bA Xg3.lt
    replace Xb4 := Xb4.below bA Xb4.lt
    replace G3 := G3.up bA
    replace C4 := C4.up bA
    replace G5 := G5.up bA
    clear bA Bw4
    generalize hwg5 : w4.alloc (.cells #[.slice A5 n5 c5, .slice B5 m5 d5] 27) = w5 at *
    generalize hhg5 : w4.heap.size = bg5 at *
    have HWg5 := Lib.hid hwg5
    have HHg5 := Lib.hid hhg5
    clear hwg5 hhg5
    have Bw5 := BN
    clear BN
    have lg30 := Xg3.cell 0
    rw [← HWg5.out] at lg30
    have lg31 := Xg3.cell 1
    rw [← HWg5.out] at lg31
    have lb40 := Xb4.cell 0
    rw [← HWg5.out] at lb40
    go_wp2_with fail
    rw [HWg5.out, HHg5.out]
    refine (I2.out _ G3 C4).mono ?_
    rintro e w6 ⟨A7, n7, c7, B7, m7, d7, rfl, J7, hb⟩
    clear lg30 lg31 lb40
    have Bw6 := below_then Bw5 hb
    replace Xg3 := Xg3.below hb Xg3.lt
    replace Xb4 := Xb4.below hb Xb4.lt
    replace Xg5 := Xg5.below hb Xg5.lt
    replace G3 := G3.up hb
    replace C4 := C4.up hb
    replace G5 := G5.up hb
    clear hb
    clear Bw5
    have G7 := gis_any J7
    clear J7
    have bA : Below w6.heap.size w6 (w6.alloc (.cells #[.slice A7 n7 c7, .slice B7 m7 d7] 27)) := (Below.refl _ _).alloc (Nat.le_refl _) _
    have Xg7 := Blk.new w6 27 #[.slice A7 n7 c7, .slice B7 m7 d7]
    have BN := below_then Bw6 bA
    replace Xg3 := Xg3.below bA Xg3.lt
    replace Xb4 := Xb4.below bA Xb4.lt
    replace Xg5 := Xg5.below bA Xg5.lt
    replace G3 := G3.up bA
    replace C4 := C4.up bA
    replace G5 := G5.up bA
    replace G7 := G7.up bA
    clear bA Bw6
    generalize hwg7 : w6.alloc (.cells #[.slice A7 n7 c7, .slice B7 m7 d7] 27) = w7 at *
    generalize hhg7 : w6.heap.size = bg7 at *
    have HWg7 := Lib.hid hwg7
    have HHg7 := Lib.hid hhg7
    clear hwg7 hhg7
    have Bw7 := BN
    clear BN
    have lg50 := Xg5.cell 0
    rw [← HWg7.out] at lg50
    have lg51 := Xg5.cell 1
    rw [← HWg7.out] at lg51
    have lg70 := Xg7.cell 0
    have lg71 := Xg7.cell 1
    go_wp2_with fail
    rw [HWg7.out, HHg7.out]
    refine (eqG_rd _ (c := c5) (d := d5) (c2 := c7) (d2 := d7) G5 G7).mono ?_
    rintro e w8 ⟨rfl, hb⟩
    clear lg50 lg51 lg70 lg71
    rw [decide_eq_true rfl]
    have Bw8 := below_then Bw7 hb
    replace Xg3 := Xg3.below hb Xg3.lt
    replace Xb4 := Xb4.below hb Xb4.lt
    replace Xg5 := Xg5.below hb Xg5.lt
    replace Xg7 := Xg7.below hb Xg7.lt
    replace G3 := G3.up hb
    replace C4 := C4.up hb
    replace G5 := G5.up hb
    replace G7 := G7.up hb
    clear hb
    clear Bw7
    clear Xg7
    clear G7
    have lg30 := Xg3.cell 0
    have lg31 := Xg3.cell 1
    have lb40 := Xb4.cell 0
    go_wp2_with fail
    refine (I3.out _ G3 C4).mono ?_
    rintro e w9 ⟨rfl, hb⟩
    clear lg30 lg31 lb40
    have Bw9 := below_then Bw8 hb
    replace Xg3 := Xg3.below hb Xg3.lt
    replace Xb4 := Xb4.below hb Xb4.lt
    replace Xg5 := Xg5.below hb Xg5.lt
    replace G3 := G3.up hb
    replace C4 := C4.up hb
    replace G5 := G5.up hb
    clear hb
    clear Bw8
    clear I1 I2 I3
    cases is
    · clear HLAW
      clear Xg3
      clear Xg5
      clear G3
      clear G5
      go_wp2_with fail
      refine (drawBetween_any w9 (R0.up Bw9)).mono ?_
      rintro e w10 ⟨A13, n13, c13, B13, m13, d13, A14, n14, c14, B14, m14, d14, rfl, ⟨g13, G13⟩, ⟨g14, G14⟩, hb⟩
      have Bw10 := below_then Bw9 hb
      replace Xb4 := Xb4.below hb Xb4.lt
      replace C4 := C4.up hb
      clear hb
      clear Bw9
      have bA : Below w10.heap.size w10 (w10.alloc (.cells #[.slice A13 n13 c13, .slice B13 m13 d13] 27)) := (Below.refl _ _).alloc (Nat.le_refl _) _
      have Xg13 := Blk.new w10 27 #[.slice A13 n13 c13, .slice B13 m13 d13]
      have BN := below_then Bw10 bA
      replace Xb4 := Xb4.below bA Xb4.lt
      replace C4 := C4.up bA
      replace G13 := G13.up bA
      replace G14 := G14.up bA
      clear bA Bw10
      generalize hwg13 : w10.alloc (.cells #[.slice A13 n13 c13, .slice B13 m13 d13] 27) = w11 at *
      generalize hhg13 : w10.heap.size = bg13 at *
      have HWg13 := Lib.hid hwg13
      have HHg13 := Lib.hid hhg13
      clear hwg13 hhg13
      have Bw11 := BN
      clear BN
      have bA : Below w11.heap.size w11 (w11.alloc (.cells #[.slice A14 n14 c14, .slice B14 m14 d14] 27)) := (Below.refl _ _).alloc (Nat.le_refl _) _
      have Xg14 := Blk.new w11 27 #[.slice A14 n14 c14, .slice B14 m14 d14]
      have BN := below_then Bw11 bA
      replace Xb4 := Xb4.below bA Xb4.lt
      replace Xg13 := Xg13.below bA Xg13.lt
      replace C4 := C4.up bA
      replace G13 := G13.up bA
      replace G14 := G14.up bA
      clear bA Bw11
      generalize hwg14 : w11.alloc (.cells #[.slice A14 n14 c14, .slice B14 m14 d14] 27) = w12 at *
      have hsz : w11.heap.size = bg13 + 1 := by rw [← HWg13.out, World.size_alloc, HHg13.out]
      rw [hsz] at Xg14
      clear hsz
      generalize hhg14 : bg13 + 1 = bg14 at *
      have HWg14 := Lib.hid hwg14
      have HHg14 := Lib.hid hhg14
      clear hwg14 hhg14
      have Bw12 := BN
      clear BN
      obtain ⟨made, hmade⟩ : ∃ made, btwOk g13 g14 = made := ⟨_, rfl⟩
      obtain ⟨z, hz⟩ : ∃ z, btwZ g13 g14 = z := ⟨_, rfl⟩
      have hlaw : made = true → apG g13 z = (g14, true) := by
        intro h
        rw [← hz]
        exact btw_law (hmade.trans h)
      have HLW := Lib.hid hlaw
      clear hlaw
      have i1 := fun w (h : GRd w A13 n13 B13 m13 g13) (h2 : GRd w A14 n14 B14 m14 g14) => implBatchBetween_is w (c := c13) (d := d13) (c2 := c14) (d2 := d14) h h2
      have i2 := fun w (h : GRd w A13 n13 B13 m13 g13) (h2 : GRd w A14 n14 B14 m14 g14) => specBatchBetween_is w (c := c13) (d := d13) (c2 := c14) (d2 := d14) h h2
      simp only [hmade, hz] at i1 i2
      have I1 := Lib.hid i1
      have I2 := Lib.hid i2
      clear i1 i2 hmade hz
      have lg130 := Xg13.cell 0
      have lg131 := Xg13.cell 1
      have lg140 := Xg14.cell 0
      have lg141 := Xg14.cell 1
      go_wp2_with fail
      rw [HWg13.out, HHg13.out, HWg14.out, HHg14.out]
      refine (I1.out _ G13 G14).mono ?_
      rintro e w13 ⟨A15, n15, c15, rfl, J15, hb⟩
      clear lg130 lg131 lg140 lg141
      have Bw13 := below_then Bw12 hb
      replace Xb4 := Xb4.below hb Xb4.lt
      replace Xg13 := Xg13.below hb Xg13.lt
      replace Xg14 := Xg14.below hb Xg14.lt
      replace C4 := C4.up hb
      replace G13 := G13.up hb
      replace G14 := G14.up hb
      clear hb
      clear Bw12
      have C15 := RIs.crd J15
      clear J15
      have bA : Below w13.heap.size w13 (w13.alloc (.cells #[.slice A15 n15 c15] 47)) := (Below.refl _ _).alloc (Nat.le_refl _) _
      have Xb15 := Blk.new w13 47 #[.slice A15 n15 c15]
      have BN := below_then Bw13 bA
      replace Xb4 := Xb4.below bA Xb4.lt
      replace Xg13 := Xg13.below bA Xg13.lt
      replace Xg14 := Xg14.below bA Xg14.lt
      replace C4 := C4.up bA
      replace G13 := G13.up bA
      replace G14 := G14.up bA
      replace C15 := C15.up bA
      clear bA Bw13
      generalize hwb15 : w13.alloc (.cells #[.slice A15 n15 c15] 47) = w14 at *
      generalize hhb15 : w13.heap.size = bb15 at *
      have HWb15 := Lib.hid hwb15
      have HHb15 := Lib.hid hhb15
      clear hwb15 hhb15
      have Bw14 := BN
      clear BN
      have lg130 := Xg13.cell 0
      rw [← HWb15.out] at lg130
      have lg131 := Xg13.cell 1
      rw [← HWb15.out] at lg131
      have lg140 := Xg14.cell 0
      rw [← HWb15.out] at lg140
      have lg141 := Xg14.cell 1
      rw [← HWb15.out] at lg141
      go_wp2_with fail
      rw [HWb15.out, HHb15.out]
      refine (I2.out _ G13 G14).mono ?_
      rintro e w15 ⟨A17, n17, c17, rfl, J17, hb⟩
      clear lg130 lg131 lg140 lg141
      have Bw15 := below_then Bw14 hb
      replace Xb4 := Xb4.below hb Xb4.lt
      replace Xg13 := Xg13.below hb Xg13.lt
      replace Xg14 := Xg14.below hb Xg14.lt
      replace Xb15 := Xb15.below hb Xb15.lt
      replace C4 := C4.up hb
      replace G13 := G13.up hb
      replace G14 := G14.up hb
      replace C15 := C15.up hb
      clear hb
      clear Bw14
      have C17 := RIs.crd J17
      clear J17 I1 I2
      have bA : Below w15.heap.size w15 (w15.alloc (.cells #[.slice A17 n17 c17] 47)) := (Below.refl _ _).alloc (Nat.le_refl _) _
      have Xb17 := Blk.new w15 47 #[.slice A17 n17 c17]
      have BN := below_then Bw15 bA
      replace Xb4 := Xb4.below bA Xb4.lt
      replace Xg13 := Xg13.below bA Xg13.lt
      replace Xg14 := Xg14.below bA Xg14.lt
      replace Xb15 := Xb15.below bA Xb15.lt
      replace C4 := C4.up bA
      replace G13 := G13.up bA
      replace G14 := G14.up bA
      replace C15 := C15.up bA
      replace C17 := C17.up bA
      clear bA Bw15
      generalize hwb17 : w15.alloc (.cells #[.slice A17 n17 c17] 47) = w16 at *
      generalize hhb17 : w15.heap.size = bb17 at *
      have HWb17 := Lib.hid hwb17
      have HHb17 := Lib.hid hhb17
      clear hwb17 hhb17
      have Bw16 := BN
      clear BN
      have lb150 := Xb15.cell 0
      rw [← HWb17.out] at lb150
      have lb170 := Xb17.cell 0
      go_wp2_with fail
      rw [HWb17.out, HHb17.out]
      refine (implEqualBatches_is _ (c := c15) (d := c17) C15 C17).mono ?_
      rintro e w17 ⟨rfl, hb⟩
      clear lb150 lb170
      rw [decide_eq_true rfl]
      have Bw17 := below_then Bw16 hb
      replace Xb4 := Xb4.below hb Xb4.lt
      replace Xg13 := Xg13.below hb Xg13.lt
      replace Xg14 := Xg14.below hb Xg14.lt
      replace Xb15 := Xb15.below hb Xb15.lt
      replace Xb17 := Xb17.below hb Xb17.lt
      replace C4 := C4.up hb
      replace G13 := G13.up hb
      replace G14 := G14.up hb
      replace C15 := C15.up hb
      replace C17 := C17.up hb
      clear hb
      clear Bw16
      clear Xb17
      clear C17
      cases made
      · clear HLW
        clear Xg13
        clear Xg14
        clear Xb15
        clear G13
        clear G14
        clear C15
        obtain ⟨F, hF⟩ : ∃ F, fmtBt bl = F := ⟨_, rfl⟩
        obtain ⟨Z, hZ⟩ : ∃ Z : ByteArray, (⟨F.toArray⟩ : ByteArray) = Z := ⟨_, rfl⟩
        have hZe : Z.data.toList = F := by subst hZ; rfl
        have hZs : Z.size ≤ 1048576 := by
          rw [Lib.size_eq, hZe, ← hF]
          have := fmtBt_len bl
          omega
        have hbb : F ≠ [] → prsBaB F = true ∧ prsBa F = bl := by
          intro h
          have h1 := batch_back (l := bl) (by rw [hF]; exact h)
          rw [hF] at h1
          unfold prsBaB prsBa
          rw [h1]
          exact ⟨rfl, rfl⟩
        have f1 := fun w (h : CRd w C k bl) TP => implFormatBatch_is w (c := cf) h TP
        have f2 := fun w (h : CRd w C k bl) => specFormatBatch_is w (c := cf) h
        simp only [hF, hZ] at f1 f2
        have F1 := Lib.hid f1
        have F2 := Lib.hid f2
        have p1 := fun w TP TE TM => implParseBatch_is w Z TP TE TM hZs
        simp only [hZe] at p1
        have HBB := Lib.hid hbb
        have HZ := Lib.hid hZ
        clear f1 f2 hF hZe hZs hbb hZ
        have lb40 := Xb4.cell 0
        go_wp2_with fail
        refine (F1.out _ C4 (TP.up Bw17)).mono ?_
        rintro e w18 ⟨rfl, hb⟩
        clear lb40
        have Bw18 := below_then Bw17 hb
        replace Xb4 := Xb4.below hb Xb4.lt
        replace C4 := C4.up hb
        clear hb
        clear Bw17
        clear F1
        by_cases hF0 : F = []
        · obtain ⟨rd, hrd⟩ : ∃ rd, prsBaB F = rd := ⟨_, rfl⟩
          obtain ⟨v, hv⟩ : ∃ v, prsBa F = v := ⟨_, rfl⟩
          simp only [hrd, hv] at p1
          have P1 := Lib.hid p1
          clear p1 hrd hv
          obtain rfl : Z = ⟨#[]⟩ := by
            rw [← HZ.out, hF0]
          clear HZ hF0 HBB
          go_wp2_with fail
          refine (P1.out _ (TP.up Bw18) (TE.up Bw18) (TM.up Bw18)).mono ?_
          rintro e w19 ⟨A22, n22, c22, rfl, J22, hb⟩
          have Bw19 := below_then Bw18 hb
          replace Xb4 := Xb4.below hb Xb4.lt
          replace C4 := C4.up hb
          clear hb
          clear Bw18
          have C22 := RIs.crd J22
          clear J22 P1
          have bA : Below w19.heap.size w19 (w19.alloc (.cells #[.slice A22 n22 c22] 47)) := (Below.refl _ _).alloc (Nat.le_refl _) _
          have Xb22 := Blk.new w19 47 #[.slice A22 n22 c22]
          have BN := below_then Bw19 bA
          replace Xb4 := Xb4.below bA Xb4.lt
          replace C4 := C4.up bA
          replace C22 := C22.up bA
          clear bA Bw19
          generalize hwb22 : w19.alloc (.cells #[.slice A22 n22 c22] 47) = w20 at *
          generalize hhb22 : w19.heap.size = bb22 at *
          have HWb22 := Lib.hid hwb22
          have HHb22 := Lib.hid hhb22
          clear hwb22 hhb22
          have Bw20 := BN
          clear BN
          have lb40 := Xb4.cell 0
          rw [← HWb22.out] at lb40
          go_wp2_with fail
          rw [HWb22.out, HHb22.out]
          refine (F2.out _ C4).mono ?_
          rintro e w21 ⟨rfl, hb⟩
          clear lb40
          have Bw21 := below_then Bw20 hb
          replace Xb4 := Xb4.below hb Xb4.lt
          replace Xb22 := Xb22.below hb Xb22.lt
          replace C4 := C4.up hb
          replace C22 := C22.up hb
          clear hb
          clear Bw20
          clear F2
          go_wp2
          go_ret
          exact ⟨by simp, Bw21⟩
        · simp only [(HBB.out hF0).1, (HBB.out hF0).2] at p1
          have P1 := Lib.hid p1
          clear p1
          have hZ0 : ¬ Z.toList = [] := by
            rw [ByteArray.toList_eq, ← HZ.out]
            exact hF0
          clear HZ hF0 HBB
          go_wp2_with fail
          refine (P1.out _ (TP.up Bw18) (TE.up Bw18) (TM.up Bw18)).mono ?_
          rintro e w19 ⟨A22, n22, c22, rfl, J22, hb⟩
          have Bw19 := below_then Bw18 hb
          replace Xb4 := Xb4.below hb Xb4.lt
          replace C4 := C4.up hb
          clear hb
          clear Bw18
          have C22 := RIs.crd J22
          clear J22 P1
          have bA : Below w19.heap.size w19 (w19.alloc (.cells #[.slice A22 n22 c22] 47)) := (Below.refl _ _).alloc (Nat.le_refl _) _
          have Xb22 := Blk.new w19 47 #[.slice A22 n22 c22]
          have BN := below_then Bw19 bA
          replace Xb4 := Xb4.below bA Xb4.lt
          replace C4 := C4.up bA
          replace C22 := C22.up bA
          clear bA Bw19
          generalize hwb22 : w19.alloc (.cells #[.slice A22 n22 c22] 47) = w20 at *
          generalize hhb22 : w19.heap.size = bb22 at *
          have HWb22 := Lib.hid hwb22
          have HHb22 := Lib.hid hhb22
          clear hwb22 hhb22
          have Bw20 := BN
          clear BN
          have lb40 := Xb4.cell 0
          rw [← HWb22.out] at lb40
          go_wp2_with fail
          rw [HWb22.out, HHb22.out]
          refine (F2.out _ C4).mono ?_
          rintro e w21 ⟨rfl, hb⟩
          clear lb40
          have Bw21 := below_then Bw20 hb
          replace Xb4 := Xb4.below hb Xb4.lt
          replace Xb22 := Xb22.below hb Xb22.lt
          replace C4 := C4.up hb
          replace C22 := C22.up hb
          clear hb
          clear Bw20
          clear F2
          have lb220 := Xb22.cell 0
          have lb40 := Xb4.cell 0
          go_wp2_with fail
          refine (implEqualBatches_is _ (c := c22) (d := cf) C22 C4).mono ?_
          rintro e w22 ⟨rfl, hb⟩
          clear lb220 lb40
          rw [decide_eq_true rfl]
          have Bw22 := below_then Bw21 hb
          replace Xb4 := Xb4.below hb Xb4.lt
          replace Xb22 := Xb22.below hb Xb22.lt
          replace C4 := C4.up hb
          replace C22 := C22.up hb
          clear hb
          clear Bw21
          go_wp2
          go_ret
          exact ⟨by simp, Bw22⟩
      · have i1 := fun w (h : GRd w A13 n13 B13 m13 g13) (hc : CRd w A15 n15 z) => implApplyBatch_is w (c := c13) (d := d13) (cc := c15) h hc
        simp only [HLW.out rfl] at i1
        have I1 := Lib.hid i1
        clear i1
        have lg130 := Xg13.cell 0
        have lg131 := Xg13.cell 1
        have lb150 := Xb15.cell 0
        go_wp2_with fail
        refine (I1.out _ G13 C15).mono ?_
        rintro e w18 ⟨A19, n19, c19, B19, m19, d19, rfl, J19, hb⟩
        clear lg130 lg131 lb150
        have Bw18 := below_then Bw17 hb
        replace Xb4 := Xb4.below hb Xb4.lt
        replace Xg13 := Xg13.below hb Xg13.lt
        replace Xg14 := Xg14.below hb Xg14.lt
        replace Xb15 := Xb15.below hb Xb15.lt
        replace C4 := C4.up hb
        replace G13 := G13.up hb
        replace G14 := G14.up hb
        replace C15 := C15.up hb
        clear hb
        clear Bw17
        have G19 := gis_any (g := g14) J19
        clear J19 I1
        have bA : Below w18.heap.size w18 (w18.alloc (.cells #[.slice A19 n19 c19, .slice B19 m19 d19] 27)) := (Below.refl _ _).alloc (Nat.le_refl _) _
        have Xg19 := Blk.new w18 27 #[.slice A19 n19 c19, .slice B19 m19 d19]
        have BN := below_then Bw18 bA
        replace Xb4 := Xb4.below bA Xb4.lt
        replace Xg13 := Xg13.below bA Xg13.lt
        replace Xg14 := Xg14.below bA Xg14.lt
        replace Xb15 := Xb15.below bA Xb15.lt
        replace C4 := C4.up bA
        replace G13 := G13.up bA
        replace G14 := G14.up bA
        replace C15 := C15.up bA
        replace G19 := G19.up bA
        clear bA Bw18
        generalize hwg19 : w18.alloc (.cells #[.slice A19 n19 c19, .slice B19 m19 d19] 27) = w19 at *
        generalize hhg19 : w18.heap.size = bg19 at *
        have HWg19 := Lib.hid hwg19
        have HHg19 := Lib.hid hhg19
        clear hwg19 hhg19
        have Bw19 := BN
        clear BN
        have lg190 := Xg19.cell 0
        have lg191 := Xg19.cell 1
        have lg140 := Xg14.cell 0
        rw [← HWg19.out] at lg140
        have lg141 := Xg14.cell 1
        rw [← HWg19.out] at lg141
        go_wp2_with fail
        rw [HWg19.out, HHg19.out]
        refine (eqG_rd _ (c := c19) (d := d19) (c2 := c14) (d2 := d14) G19 G14).mono ?_
        rintro e w20 ⟨rfl, hb⟩
        clear lg190 lg191 lg140 lg141
        rw [decide_eq_true rfl]
        have Bw20 := below_then Bw19 hb
        replace Xb4 := Xb4.below hb Xb4.lt
        replace Xg13 := Xg13.below hb Xg13.lt
        replace Xg14 := Xg14.below hb Xg14.lt
        replace Xb15 := Xb15.below hb Xb15.lt
        replace Xg19 := Xg19.below hb Xg19.lt
        replace C4 := C4.up hb
        replace G13 := G13.up hb
        replace G14 := G14.up hb
        replace C15 := C15.up hb
        replace G19 := G19.up hb
        clear hb
        clear Bw19
        clear Xg19
        clear G19
        clear HLW
        clear Xg13
        clear Xg14
        clear Xb15
        clear G13
        clear G14
        clear C15
        obtain ⟨F, hF⟩ : ∃ F, fmtBt bl = F := ⟨_, rfl⟩
        obtain ⟨Z, hZ⟩ : ∃ Z : ByteArray, (⟨F.toArray⟩ : ByteArray) = Z := ⟨_, rfl⟩
        have hZe : Z.data.toList = F := by subst hZ; rfl
        have hZs : Z.size ≤ 1048576 := by
          rw [Lib.size_eq, hZe, ← hF]
          have := fmtBt_len bl
          omega
        have hbb : F ≠ [] → prsBaB F = true ∧ prsBa F = bl := by
          intro h
          have h1 := batch_back (l := bl) (by rw [hF]; exact h)
          rw [hF] at h1
          unfold prsBaB prsBa
          rw [h1]
          exact ⟨rfl, rfl⟩
        have f1 := fun w (h : CRd w C k bl) TP => implFormatBatch_is w (c := cf) h TP
        have f2 := fun w (h : CRd w C k bl) => specFormatBatch_is w (c := cf) h
        simp only [hF, hZ] at f1 f2
        have F1 := Lib.hid f1
        have F2 := Lib.hid f2
        have p1 := fun w TP TE TM => implParseBatch_is w Z TP TE TM hZs
        simp only [hZe] at p1
        have HBB := Lib.hid hbb
        have HZ := Lib.hid hZ
        clear f1 f2 hF hZe hZs hbb hZ
        have lb40 := Xb4.cell 0
        go_wp2_with fail
        refine (F1.out _ C4 (TP.up Bw20)).mono ?_
        rintro e w21 ⟨rfl, hb⟩
        clear lb40
        have Bw21 := below_then Bw20 hb
        replace Xb4 := Xb4.below hb Xb4.lt
        replace C4 := C4.up hb
        clear hb
        clear Bw20
        clear F1
        by_cases hF0 : F = []
        · obtain ⟨rd, hrd⟩ : ∃ rd, prsBaB F = rd := ⟨_, rfl⟩
          obtain ⟨v, hv⟩ : ∃ v, prsBa F = v := ⟨_, rfl⟩
          simp only [hrd, hv] at p1
          have P1 := Lib.hid p1
          clear p1 hrd hv
          obtain rfl : Z = ⟨#[]⟩ := by
            rw [← HZ.out, hF0]
          clear HZ hF0 HBB
          go_wp2_with fail
          refine (P1.out _ (TP.up Bw21) (TE.up Bw21) (TM.up Bw21)).mono ?_
          rintro e w22 ⟨A22, n22, c22, rfl, J22, hb⟩
          have Bw22 := below_then Bw21 hb
          replace Xb4 := Xb4.below hb Xb4.lt
          replace C4 := C4.up hb
          clear hb
          clear Bw21
          have C22 := RIs.crd J22
          clear J22 P1
          have bA : Below w22.heap.size w22 (w22.alloc (.cells #[.slice A22 n22 c22] 47)) := (Below.refl _ _).alloc (Nat.le_refl _) _
          have Xb22 := Blk.new w22 47 #[.slice A22 n22 c22]
          have BN := below_then Bw22 bA
          replace Xb4 := Xb4.below bA Xb4.lt
          replace C4 := C4.up bA
          replace C22 := C22.up bA
          clear bA Bw22
          generalize hwb22 : w22.alloc (.cells #[.slice A22 n22 c22] 47) = w23 at *
          generalize hhb22 : w22.heap.size = bb22 at *
          have HWb22 := Lib.hid hwb22
          have HHb22 := Lib.hid hhb22
          clear hwb22 hhb22
          have Bw23 := BN
          clear BN
          have lb40 := Xb4.cell 0
          rw [← HWb22.out] at lb40
          go_wp2_with fail
          rw [HWb22.out, HHb22.out]
          refine (F2.out _ C4).mono ?_
          rintro e w24 ⟨rfl, hb⟩
          clear lb40
          have Bw24 := below_then Bw23 hb
          replace Xb4 := Xb4.below hb Xb4.lt
          replace Xb22 := Xb22.below hb Xb22.lt
          replace C4 := C4.up hb
          replace C22 := C22.up hb
          clear hb
          clear Bw23
          clear F2
          go_wp2
          go_ret
          exact ⟨by simp, Bw24⟩
        · simp only [(HBB.out hF0).1, (HBB.out hF0).2] at p1
          have P1 := Lib.hid p1
          clear p1
          have hZ0 : ¬ Z.toList = [] := by
            rw [ByteArray.toList_eq, ← HZ.out]
            exact hF0
          clear HZ hF0 HBB
          go_wp2_with fail
          refine (P1.out _ (TP.up Bw21) (TE.up Bw21) (TM.up Bw21)).mono ?_
          rintro e w22 ⟨A22, n22, c22, rfl, J22, hb⟩
          have Bw22 := below_then Bw21 hb
          replace Xb4 := Xb4.below hb Xb4.lt
          replace C4 := C4.up hb
          clear hb
          clear Bw21
          have C22 := RIs.crd J22
          clear J22 P1
          have bA : Below w22.heap.size w22 (w22.alloc (.cells #[.slice A22 n22 c22] 47)) := (Below.refl _ _).alloc (Nat.le_refl _) _
          have Xb22 := Blk.new w22 47 #[.slice A22 n22 c22]
          have BN := below_then Bw22 bA
          replace Xb4 := Xb4.below bA Xb4.lt
          replace C4 := C4.up bA
          replace C22 := C22.up bA
          clear bA Bw22
          generalize hwb22 : w22.alloc (.cells #[.slice A22 n22 c22] 47) = w23 at *
          generalize hhb22 : w22.heap.size = bb22 at *
          have HWb22 := Lib.hid hwb22
          have HHb22 := Lib.hid hhb22
          clear hwb22 hhb22
          have Bw23 := BN
          clear BN
          have lb40 := Xb4.cell 0
          rw [← HWb22.out] at lb40
          go_wp2_with fail
          rw [HWb22.out, HHb22.out]
          refine (F2.out _ C4).mono ?_
          rintro e w24 ⟨rfl, hb⟩
          clear lb40
          have Bw24 := below_then Bw23 hb
          replace Xb4 := Xb4.below hb Xb4.lt
          replace Xb22 := Xb22.below hb Xb22.lt
          replace C4 := C4.up hb
          replace C22 := C22.up hb
          clear hb
          clear Bw23
          clear F2
          have lb220 := Xb22.cell 0
          have lb40 := Xb4.cell 0
          go_wp2_with fail
          refine (implEqualBatches_is _ (c := c22) (d := cf) C22 C4).mono ?_
          rintro e w25 ⟨rfl, hb⟩
          clear lb220 lb40
          rw [decide_eq_true rfl]
          have Bw25 := below_then Bw24 hb
          replace Xb4 := Xb4.below hb Xb4.lt
          replace Xb22 := Xb22.below hb Xb22.lt
          replace C4 := C4.up hb
          replace C22 := C22.up hb
          clear hb
          clear Bw24
          go_wp2
          go_ret
          exact ⟨by simp, Bw25⟩
    · obtain ⟨hinv, hnet, hnl⟩ := HLAW.out rfl
      clear HLAW
      have y1 := fun w C2 k2 f2 (h : GRd w A5 n5 B5 m5 gx) (hc : CRd w C2 k2 (invertL bl)) => implApplyBatch_is w (c := c5) (d := d5) (cc := f2) h hc
      simp only [hinv] at y1
      have y2 := fun w C2 k2 f2 (h : GRd w A n B m g) (hc : CRd w C2 k2 (netB bl)) => implApplyBatch_is w (c := c) (d := d) (cc := f2) h hc
      simp only [hnet] at y2
      have Y1 := Lib.hid y1
      have Y2 := Lib.hid y2
      have HNL := Lib.hid hnl
      clear y1 y2 hinv hnet hnl
      go_wp2_with fail
      have bD : Below w9.heap.size w9 w9.drew := (Below.refl _ _).drew
      obtain ⟨wd, hwd⟩ : ∃ wd, wd = w9.drew := ⟨_, rfl⟩
      rw [← hwd] at bD
      have Bwd := below_then Bw9 bD
      replace Xg3 := Xg3.below bD Xg3.lt
      replace Xb4 := Xb4.below bD Xb4.lt
      replace Xg5 := Xg5.below bD Xg5.lt
      replace G3 := G3.up bD
      replace C4 := C4.up bD
      replace G5 := G5.up bD
      clear bD
      clear Bw9
      refine wp_region_sl [61, 62, 63, 64, 60, 65, 66, 9, 10] (JB w9.drew 0 0 (fun _ => True) 8 [(.val (.agg #[.slice A5 n5 c5, .slice B5 m5 d5])), (.val (.agg #[.slice C k cf])), (.ba (fun l => l = invertL bl)), (.tup (fun y b => y = g ∧ b = true)), (.tup (fun y b => y = g ∧ b = true)), (.gr (fun y => y = g)), (.val (.bool true)), (.box (fun y => y = g)), (.free), (.val (.bool true))] [61, 62, 63, 64, 60, 65, 66, 9, 1008, 10]) (by kernel_rfl) (by kernel_rfl) (by decide) (by intro d hd; simp at hd; simp; omega) (by kernel_rfl) ?h0 ?hstep ?hend
      case h0 => exact ⟨Tch.refl _ _ _, trivial, (fun k _ _ hk => absurd hk Bool.false_ne_true)⟩
      case hstep =>
        rw [← hwd]
        intro i L f w' o b K ho hLi hwt hcl hJ hS HK HN
        have hin : RowKit.Hid (Inj [61, 62, 63, 64, 60, 65, 66, 9, 1008, 10]) := Lib.hid (by decide)
        have hi : i < 10 := by simpa using (Array.getElem?_eq_some_iff.1 ho).1
        rcases (show i = 0 ∨ i = 1 ∨ i = 2 ∨ i = 3 ∨ i = 4 ∨ i = 5 ∨ i = 6 ∨ i = 7 ∨ i = 8 ∨ i = 9 by omega) with rfl | rfl | rfl | rfl | rfl | rfl | rfl | rfl | rfl | rfl
        all_goals
          simp only [List.getElem?_toArray, List.getElem?_cons_zero, List.getElem?_cons_succ, Option.some.injEq] at ho
          subst ho
          clear hi
        · clear hcl
          have s5 : b.tmps.getD 5 undef = .pointer (some ⟨bg5, 0, none⟩) := hS.o 5 (by decide)
          have u0 := (Xg5.below (bt hJ.t) Xg5.lt).cell 0
          have u1 := (Xg5.below (bt hJ.t) Xg5.lt).cell 1
          go_simp
          exact HK.out 61 _ _ rfl (hJ.same (Nat.zero_le _) (by decide) hin.out rfl (by decide) rfl rfl)
        · clear hcl
          have s4 : b.tmps.getD 4 undef = .pointer (some ⟨bb4, 0, none⟩) := hS.o 4 (by decide)
          have u0 := (Xb4.below (bt hJ.t) Xb4.lt).cell 0
          go_simp
          exact HK.out 62 _ _ rfl (hJ.same (Nat.zero_le _) (by decide) hin.out rfl (by decide) rfl rfl)
        · clear hcl
          have s62 : b.tmps.getD 62 undef = (.agg #[.slice C k cf]) := (hS.i 62 (by decide)).trans (hJ.v 1 _ rfl (hwt ⟨1, .data⟩ (by simp) rfl))
          go_simp
          refine (implInvertBatch_is _ (C4.up (bt hJ.t))).mono ?_
          rintro e w6 ⟨C6, k6, f6, rfl, J6, hb⟩
          have hzz := hJ.t.size
          go_simp
          exact HK.out 63 _ _ rfl (hJ.put (Nat.zero_le _) (by decide) hin.out rfl (by decide) rfl (Tch.of_below hb) trivial ⟨C6, k6, f6, _, rfl, rfl, J6.bd, own_rebase J6.own.row hzz⟩)
        · clear hcl
          have s61 : b.tmps.getD 61 undef = (.agg #[.slice A5 n5 c5, .slice B5 m5 d5]) := (hS.i 61 (by decide)).trans (hJ.v 0 _ rfl (hwt ⟨0, .data⟩ (by simp) rfl))
          obtain ⟨C2, k2, f2, l2, hs2, hp2, hk2, o2⟩ := hJ.v 2 _ rfl (hwt ⟨2, .data⟩ (by simp) rfl)
          have s63 : b.tmps.getD 63 undef = .agg #[.slice C2 k2 f2] := (hS.i 63 (by decide)).trans hs2
          have hp2 : l2 = invertL bl := hp2
          subst hp2
          go_simp
          refine (Y1.out _ _ _ _ (G5.up (bt hJ.t)) (crd_of o2 hk2)).mono ?_
          rintro e w6 ⟨A2, n2, c2, B2, m2, d2, rfl, J2, hb⟩
          have hzz := hJ.t.size
          go_simp
          exact HK.out 64 _ _ rfl (hJ.put (Nat.zero_le _) (by decide) hin.out rfl (by decide) rfl (Tch.of_below hb) trivial ⟨_, _, _, _, _, _, _, _, rfl, ⟨rfl, rfl⟩, OwG.of J2 hzz⟩)
        · clear hcl
          obtain ⟨A3, n3, c3, B3, m3, d3, g3, b3, hs3, hp3, o3⟩ := hJ.v 3 _ rfl (hwt ⟨3, .data⟩ (by simp) rfl)
          have s64 : b.tmps.getD 64 undef = .tuple #[.agg #[.slice A3 n3 c3, .slice B3 m3 d3], .bool b3] := (hS.i 64 (by decide)).trans hs3
          have hp3 : g3 = g ∧ b3 = true := hp3
          obtain ⟨hg_, hb_⟩ := hp3
          subst hb_
          have HG_ := Lib.hid hg_
          clear hg_
          go_simp
          exact HK.out 60 _ _ rfl (hJ.same (Nat.zero_le _) (by decide) hin.out rfl (by decide) rfl ⟨_, _, _, _, _, _, _, _, rfl, ⟨HG_.out, rfl⟩, o3⟩)
        · clear hcl
          obtain ⟨A4, n4, c4, B4, m4, d4, g4, b4, hs4, hp4, o4⟩ := hJ.v 4 _ rfl (hwt ⟨4, .data⟩ (by simp) rfl)
          have s60 : b.tmps.getD 60 undef = .tuple #[.agg #[.slice A4 n4 c4, .slice B4 m4 d4], .bool b4] := (hS.i 60 (by decide)).trans hs4
          have hp4 : g4 = g ∧ b4 = true := hp4
          obtain ⟨hg_, hb_⟩ := hp4
          subst hb_
          have HG_ := Lib.hid hg_
          clear hg_
          go_simp
          exact HK.out 65 _ _ rfl (hJ.same (Nat.zero_le _) (by decide) hin.out rfl (by decide) rfl ⟨_, _, _, _, _, _, _, rfl, HG_.out, o4⟩)
        · clear hcl
          obtain ⟨A4, n4, c4, B4, m4, d4, g4, b4, hs4, hp4, o4⟩ := hJ.v 4 _ rfl (hwt ⟨4, .data⟩ (by simp) rfl)
          have s60 : b.tmps.getD 60 undef = .tuple #[.agg #[.slice A4 n4 c4, .slice B4 m4 d4], .bool b4] := (hS.i 60 (by decide)).trans hs4
          have hp4 : g4 = g ∧ b4 = true := hp4
          obtain ⟨hg_, hb_⟩ := hp4
          subst hb_
          have HG_ := Lib.hid hg_
          clear hg_
          go_simp
          exact HK.out 66 _ _ rfl (hJ.same (Nat.zero_le _) (by decide) hin.out rfl (by decide) rfl rfl)
        · go_simp
          have hN8 : L 8 = false := by
            cases h9 : L 8 with
            | false => rfl
            | true =>
              have := hcl 8 _ rfl h9 ⟨7, .data⟩ (by simp) rfl
              rw [hLi] at this
              cases this
          exact HK.out 9 _ _ rfl (hJ.put (Nat.zero_le _) (by decide) hin.out rfl (by decide) rfl (Tch.of_below ((Below.refl _ _).alloc (Nat.le_refl _) _)) trivial ⟨_, rfl, hJ.t.size, (fun _ => Blk.new _ _ _), (fun hl => by simp [set1] at hl; rw [hN8] at hl; cases hl)⟩)
        · clear hcl
          obtain ⟨A5, n5, c5, B5, m5, d5, g5, hs5, hp5, o5⟩ := hJ.v 5 _ rfl (hwt ⟨5, .data⟩ (by simp) rfl)
          have s65 : b.tmps.getD 65 undef = .agg #[.slice A5 n5 c5, .slice B5 m5 d5] := (hS.i 65 (by decide)).trans hs5
          obtain ⟨x7, hs7, hb7, hz7, hy7⟩ := hJ.v 7 _ rfl (hwt ⟨7, .data⟩ (by simp) rfl)
          have s9 : b.tmps.getD 9 undef = .pointer (some ⟨x7, 0, none⟩) := (hS.i 9 (by decide)).trans hs7
          go_simp
          have X := hz7 hLi
          have y0 := X.cell 0
          have y1 := X.cell 1
          have v0 := X.frozen 0
          have v1 := X.frozen 1
          go_simp
          refine HN.out _ rfl (hJ.sto (P := (fun y => y = g)) hLi rfl ?_ hs7 hb7 X hp5 o5 (fun i u w2 t => Tch.of_below ((bt t).setCell (p := ⟨x7, i, none⟩) hb7 u)) trivial)
          intro j P2 hj
          match j, hj with
          | 7, hj => exact ⟨(by simpa using hj.symm), rfl⟩
          | 8, hj => cases hj
          | 9, hj => cases hj
          | j + 10, hj => simp at hj
        · clear hcl
          have s66 : b.tmps.getD 66 undef = (.bool true) := (hS.i 66 (by decide)).trans (hJ.v 6 _ rfl (hwt ⟨6, .data⟩ (by simp) rfl))
          go_simp
          exact HK.out 10 _ _ rfl (hJ.same (Nat.zero_le _) (by decide) hin.out rfl (by decide) rfl rfl)
      case hend =>
        rw [← hwd]
        intro L f w' hall hJ
        clear hwd
        obtain ⟨bg9, h_, hbx, _, hy⟩ := hJ.v 7 _ rfl (hall 7 (by decide))
        have hB_ : f 10 = .bool true := hJ.v 9 _ rfl (hall 9 (by decide))
        change f 9 = _ at h_
        obtain ⟨A9, n9, c9, B9, m9, d9, g_, Xg9, hg_, O_⟩ := hy (hall 8 (by decide))
        have hg_ : g_ = g := hg_
        subst hg_
        have G9 := O_.grd
        have hb := bt hJ.t
        clear hall hJ hy O_
        obtain ⟨w11, rfl⟩ : ∃ z, z = w' := ⟨_, rfl⟩
        have Bw11 := below_then Bwd hb
        replace Xg3 := Xg3.below hb Xg3.lt
        replace Xb4 := Xb4.below hb Xb4.lt
        replace Xg5 := Xg5.below hb Xg5.lt
        replace G3 := G3.up hb
        replace C4 := C4.up hb
        replace G5 := G5.up hb
        clear hb
        clear Bwd
        simp only [chs, Act.put, List.setIfInBounds_toArray, List.set_cons_zero, List.set_cons_succ, h_, hB_]
        clear h_ hB_ hbx
        go_wp2_with fail
        have bD : Below w11.heap.size w11 w11.drew := (Below.refl _ _).drew
        obtain ⟨wd, hwd⟩ : ∃ wd, wd = w11.drew := ⟨_, rfl⟩
        rw [← hwd] at bD
        have Bwd := below_then Bw11 bD
        replace Xg3 := Xg3.below bD Xg3.lt
        replace Xb4 := Xb4.below bD Xb4.lt
        replace Xg5 := Xg5.below bD Xg5.lt
        replace Xg9 := Xg9.below bD Xg9.lt
        replace G3 := G3.up bD
        replace C4 := C4.up bD
        replace G5 := G5.up bD
        replace G9 := G9.up bD
        clear bD
        clear Bw11
        refine wp_region_sl [68, 69, 70, 71, 67, 72, 73, 11, 12] (JB w11.drew 0 0 (fun _ => True) 8 [(.val (.agg #[.slice A n c, .slice B m d])), (.val (.agg #[.slice C k cf])), (.ba (fun l => l = netB bl)), (.tup (fun y b => y = gx ∧ b = true)), (.tup (fun y b => y = gx ∧ b = true)), (.gr (fun y => y = gx)), (.val (.bool true)), (.box (fun y => y = gx)), (.free), (.val (.bool true))] [68, 69, 70, 71, 67, 72, 73, 11, 1008, 12]) (by kernel_rfl) (by kernel_rfl) (by decide) (by intro d hd; simp at hd; simp; omega) (by kernel_rfl) ?h0 ?hstep ?hend
        case h0 => exact ⟨Tch.refl _ _ _, trivial, (fun k _ _ hk => absurd hk Bool.false_ne_true)⟩
        case hstep =>
          rw [← hwd]
          intro i L f w' o b K ho hLi hwt hcl hJ hS HK HN
          have hin : RowKit.Hid (Inj [68, 69, 70, 71, 67, 72, 73, 11, 1008, 12]) := Lib.hid (by decide)
          have hi : i < 10 := by simpa using (Array.getElem?_eq_some_iff.1 ho).1
          rcases (show i = 0 ∨ i = 1 ∨ i = 2 ∨ i = 3 ∨ i = 4 ∨ i = 5 ∨ i = 6 ∨ i = 7 ∨ i = 8 ∨ i = 9 by omega) with rfl | rfl | rfl | rfl | rfl | rfl | rfl | rfl | rfl | rfl
          all_goals
            simp only [List.getElem?_toArray, List.getElem?_cons_zero, List.getElem?_cons_succ, Option.some.injEq] at ho
            subst ho
            clear hi
          · clear hcl
            have s3 : b.tmps.getD 3 undef = .pointer (some ⟨bg3, 0, none⟩) := hS.o 3 (by decide)
            have u0 := (Xg3.below (bt hJ.t) Xg3.lt).cell 0
            have u1 := (Xg3.below (bt hJ.t) Xg3.lt).cell 1
            go_simp
            exact HK.out 68 _ _ rfl (hJ.same (Nat.zero_le _) (by decide) hin.out rfl (by decide) rfl rfl)
          · clear hcl
            have s4 : b.tmps.getD 4 undef = .pointer (some ⟨bb4, 0, none⟩) := hS.o 4 (by decide)
            have u0 := (Xb4.below (bt hJ.t) Xb4.lt).cell 0
            go_simp
            exact HK.out 69 _ _ rfl (hJ.same (Nat.zero_le _) (by decide) hin.out rfl (by decide) rfl rfl)
          · clear hcl
            have s69 : b.tmps.getD 69 undef = (.agg #[.slice C k cf]) := (hS.i 69 (by decide)).trans (hJ.v 1 _ rfl (hwt ⟨1, .data⟩ (by simp) rfl))
            go_simp
            refine (implNetBatch_is _ (C4.up (bt hJ.t))).mono ?_
            rintro e w6 ⟨C6, k6, f6, rfl, J6, hb⟩
            have hzz := hJ.t.size
            go_simp
            exact HK.out 70 _ _ rfl (hJ.put (Nat.zero_le _) (by decide) hin.out rfl (by decide) rfl (Tch.of_below hb) trivial ⟨C6, k6, f6, _, rfl, rfl, J6.bd, own_rebase J6.own.row hzz⟩)
          · clear hcl
            have s68 : b.tmps.getD 68 undef = (.agg #[.slice A n c, .slice B m d]) := (hS.i 68 (by decide)).trans (hJ.v 0 _ rfl (hwt ⟨0, .data⟩ (by simp) rfl))
            obtain ⟨C2, k2, f2, l2, hs2, hp2, hk2, o2⟩ := hJ.v 2 _ rfl (hwt ⟨2, .data⟩ (by simp) rfl)
            have s70 : b.tmps.getD 70 undef = .agg #[.slice C2 k2 f2] := (hS.i 70 (by decide)).trans hs2
            have hp2 : l2 = netB bl := hp2
            subst hp2
            go_simp
            refine (Y2.out _ _ _ _ (G3.up (bt hJ.t)) (crd_of o2 hk2)).mono ?_
            rintro e w6 ⟨A2, n2, c2, B2, m2, d2, rfl, J2, hb⟩
            have hzz := hJ.t.size
            go_simp
            exact HK.out 71 _ _ rfl (hJ.put (Nat.zero_le _) (by decide) hin.out rfl (by decide) rfl (Tch.of_below hb) trivial ⟨_, _, _, _, _, _, _, _, rfl, ⟨rfl, rfl⟩, OwG.of J2 hzz⟩)
          · clear hcl
            obtain ⟨A3, n3, c3, B3, m3, d3, g3, b3, hs3, hp3, o3⟩ := hJ.v 3 _ rfl (hwt ⟨3, .data⟩ (by simp) rfl)
            have s71 : b.tmps.getD 71 undef = .tuple #[.agg #[.slice A3 n3 c3, .slice B3 m3 d3], .bool b3] := (hS.i 71 (by decide)).trans hs3
            have hp3 : g3 = gx ∧ b3 = true := hp3
            obtain ⟨hg_, hb_⟩ := hp3
            subst hb_
            have HG_ := Lib.hid hg_
            clear hg_
            go_simp
            exact HK.out 67 _ _ rfl (hJ.same (Nat.zero_le _) (by decide) hin.out rfl (by decide) rfl ⟨_, _, _, _, _, _, _, _, rfl, ⟨HG_.out, rfl⟩, o3⟩)
          · clear hcl
            obtain ⟨A4, n4, c4, B4, m4, d4, g4, b4, hs4, hp4, o4⟩ := hJ.v 4 _ rfl (hwt ⟨4, .data⟩ (by simp) rfl)
            have s67 : b.tmps.getD 67 undef = .tuple #[.agg #[.slice A4 n4 c4, .slice B4 m4 d4], .bool b4] := (hS.i 67 (by decide)).trans hs4
            have hp4 : g4 = gx ∧ b4 = true := hp4
            obtain ⟨hg_, hb_⟩ := hp4
            subst hb_
            have HG_ := Lib.hid hg_
            clear hg_
            go_simp
            exact HK.out 72 _ _ rfl (hJ.same (Nat.zero_le _) (by decide) hin.out rfl (by decide) rfl ⟨_, _, _, _, _, _, _, rfl, HG_.out, o4⟩)
          · clear hcl
            obtain ⟨A4, n4, c4, B4, m4, d4, g4, b4, hs4, hp4, o4⟩ := hJ.v 4 _ rfl (hwt ⟨4, .data⟩ (by simp) rfl)
            have s67 : b.tmps.getD 67 undef = .tuple #[.agg #[.slice A4 n4 c4, .slice B4 m4 d4], .bool b4] := (hS.i 67 (by decide)).trans hs4
            have hp4 : g4 = gx ∧ b4 = true := hp4
            obtain ⟨hg_, hb_⟩ := hp4
            subst hb_
            have HG_ := Lib.hid hg_
            clear hg_
            go_simp
            exact HK.out 73 _ _ rfl (hJ.same (Nat.zero_le _) (by decide) hin.out rfl (by decide) rfl rfl)
          · go_simp
            have hN8 : L 8 = false := by
              cases h9 : L 8 with
              | false => rfl
              | true =>
                have := hcl 8 _ rfl h9 ⟨7, .data⟩ (by simp) rfl
                rw [hLi] at this
                cases this
            exact HK.out 11 _ _ rfl (hJ.put (Nat.zero_le _) (by decide) hin.out rfl (by decide) rfl (Tch.of_below ((Below.refl _ _).alloc (Nat.le_refl _) _)) trivial ⟨_, rfl, hJ.t.size, (fun _ => Blk.new _ _ _), (fun hl => by simp [set1] at hl; rw [hN8] at hl; cases hl)⟩)
          · clear hcl
            obtain ⟨A5, n5, c5, B5, m5, d5, g5, hs5, hp5, o5⟩ := hJ.v 5 _ rfl (hwt ⟨5, .data⟩ (by simp) rfl)
            have s72 : b.tmps.getD 72 undef = .agg #[.slice A5 n5 c5, .slice B5 m5 d5] := (hS.i 72 (by decide)).trans hs5
            obtain ⟨x7, hs7, hb7, hz7, hy7⟩ := hJ.v 7 _ rfl (hwt ⟨7, .data⟩ (by simp) rfl)
            have s11 : b.tmps.getD 11 undef = .pointer (some ⟨x7, 0, none⟩) := (hS.i 11 (by decide)).trans hs7
            go_simp
            have X := hz7 hLi
            have y0 := X.cell 0
            have y1 := X.cell 1
            have v0 := X.frozen 0
            have v1 := X.frozen 1
            go_simp
            refine HN.out _ rfl (hJ.sto (P := (fun y => y = gx)) hLi rfl ?_ hs7 hb7 X hp5 o5 (fun i u w2 t => Tch.of_below ((bt t).setCell (p := ⟨x7, i, none⟩) hb7 u)) trivial)
            intro j P2 hj
            match j, hj with
            | 7, hj => exact ⟨(by simpa using hj.symm), rfl⟩
            | 8, hj => cases hj
            | 9, hj => cases hj
            | j + 10, hj => simp at hj
          · clear hcl
            have s73 : b.tmps.getD 73 undef = (.bool true) := (hS.i 73 (by decide)).trans (hJ.v 6 _ rfl (hwt ⟨6, .data⟩ (by simp) rfl))
            go_simp
            exact HK.out 12 _ _ rfl (hJ.same (Nat.zero_le _) (by decide) hin.out rfl (by decide) rfl rfl)
        case hend =>
          rw [← hwd]
          intro L f w' hall hJ
          clear hwd
          obtain ⟨bg11, h_, hbx, _, hy⟩ := hJ.v 7 _ rfl (hall 7 (by decide))
          have hB_ : f 12 = .bool true := hJ.v 9 _ rfl (hall 9 (by decide))
          change f 11 = _ at h_
          obtain ⟨A11, n11, c11, B11, m11, d11, g_, Xg11, hg_, O_⟩ := hy (hall 8 (by decide))
          have hg_ : g_ = gx := hg_
          subst hg_
          have G11 := O_.grd
          have hb := bt hJ.t
          clear hall hJ hy O_
          obtain ⟨w13, rfl⟩ : ∃ z, z = w' := ⟨_, rfl⟩
          have Bw13 := below_then Bwd hb
          replace Xg3 := Xg3.below hb Xg3.lt
          replace Xb4 := Xb4.below hb Xb4.lt
          replace Xg5 := Xg5.below hb Xg5.lt
          replace Xg9 := Xg9.below hb Xg9.lt
          replace G3 := G3.up hb
          replace C4 := C4.up hb
          replace G5 := G5.up hb
          replace G9 := G9.up hb
          clear hb
          clear Bwd
          simp only [chs, Act.put, List.setIfInBounds_toArray, List.set_cons_zero, List.set_cons_succ, h_, hB_]
          clear h_ hB_ hbx
          clear Y1 Y2
          obtain ⟨NL, hNN⟩ : ∃ NL : Nat, (netB bl).length = NL := ⟨_, rfl⟩
          have hle : ¬ (k : Int) < (NL : Int) := by
            have h1 := HNL.out
            have h2 := C4.ln
            omega
          have HNN := Lib.hid hNN
          have HLE := Lib.hid hle
          clear hNN hle HNL
          go_wp2_with fail
          have bD : Below w13.heap.size w13 w13.drew := (Below.refl _ _).drew
          obtain ⟨wd, hwd⟩ : ∃ wd, wd = w13.drew := ⟨_, rfl⟩
          rw [← hwd] at bD
          have Bwd := below_then Bw13 bD
          replace Xg3 := Xg3.below bD Xg3.lt
          replace Xb4 := Xb4.below bD Xb4.lt
          replace Xg5 := Xg5.below bD Xg5.lt
          replace Xg9 := Xg9.below bD Xg9.lt
          replace Xg11 := Xg11.below bD Xg11.lt
          replace G3 := G3.up bD
          replace C4 := C4.up bD
          replace G5 := G5.up bD
          replace G9 := G9.up bD
          replace G11 := G11.up bD
          clear bD
          clear Bw13
          refine wp_region_sl [74, 75, 76, 77, 78, 79, 80, 81, 82, 83, 84, 85, 86, 87, 88, 89, 90, 91, 92, 93, 94, 95, 96, 97, 98, 99, 100, 101] (JB w13.drew 0 0 (fun _ => True) 99 [(.val (.bool true)), (.val (.bool false)), (.val (.bool false)), (.val (.bool true)), (.val (.bool false)), (.val (.bool false)), (.val (.bool false)), (.val (.agg #[.slice A9 n9 c9, .slice B9 m9 d9])), (.val (.agg #[.slice A n c, .slice B m d])), (.val (.bool true)), (.val (.bool false)), (.val (.bool false)), (.val (.bool false)), (.val (.agg #[.slice A11 n11 c11, .slice B11 m11 d11])), (.val (.agg #[.slice A5 n5 c5, .slice B5 m5 d5])), (.val (.bool true)), (.val (.bool false)), (.val (.bool false)), (.val (.bool false)), (.val (.agg #[.slice C k cf])), (.ba (fun l => l = netB bl)), (.sl (fun l => l = netB bl)), (.val (.int .i64 NL)), (.val (.pointer (some ⟨bb4, 0, none⟩))), (.val (.slice C k cf)), (.val (.int .i64 k)), (.val (.bool false)), (.val (.bool false))] [74, 75, 76, 77, 78, 79, 80, 81, 82, 83, 84, 85, 86, 87, 88, 89, 90, 91, 92, 93, 94, 95, 96, 97, 98, 99, 100, 101]) (by kernel_rfl) (by kernel_rfl) (by decide) (by intro d hd; simp at hd; simp; omega) (by kernel_rfl) ?h0 ?hstep ?hend
          case h0 => exact ⟨Tch.refl _ _ _, trivial, (fun k _ _ hk => absurd hk Bool.false_ne_true)⟩
          case hstep =>
            rw [← hwd]
            intro i L f w' o b K ho hLi hwt hcl hJ hS HK HN
            have hin : RowKit.Hid (Inj [74, 75, 76, 77, 78, 79, 80, 81, 82, 83, 84, 85, 86, 87, 88, 89, 90, 91, 92, 93, 94, 95, 96, 97, 98, 99, 100, 101]) := Lib.hid (by decide)
            have hi : i < 28 := by simpa using (Array.getElem?_eq_some_iff.1 ho).1
            rcases (show i = 0 ∨ i = 1 ∨ i = 2 ∨ i = 3 ∨ i = 4 ∨ i = 5 ∨ i = 6 ∨ i = 7 ∨ i = 8 ∨ i = 9 ∨ i = 10 ∨ i = 11 ∨ i = 12 ∨ i = 13 ∨ i = 14 ∨ i = 15 ∨ i = 16 ∨ i = 17 ∨ i = 18 ∨ i = 19 ∨ i = 20 ∨ i = 21 ∨ i = 22 ∨ i = 23 ∨ i = 24 ∨ i = 25 ∨ i = 26 ∨ i = 27 by omega) with rfl | rfl | rfl | rfl | rfl | rfl | rfl | rfl | rfl | rfl | rfl | rfl | rfl | rfl | rfl | rfl | rfl | rfl | rfl | rfl | rfl | rfl | rfl | rfl | rfl | rfl | rfl | rfl
            all_goals
              simp only [List.getElem?_toArray, List.getElem?_cons_zero, List.getElem?_cons_succ, Option.some.injEq] at ho
              subst ho
              clear hi
            · clear hcl
              have s10 : b.tmps.getD 10 undef = .bool true := hS.o 10 (by decide)
              go_simp
              exact HK.out 74 _ _ rfl (hJ.same (Nat.zero_le _) (by decide) hin.out rfl (by decide) rfl rfl)
            · clear hcl
              have s74 : b.tmps.getD 74 undef = (.bool true) := (hS.i 74 (by decide)).trans (hJ.v 0 _ rfl (hwt ⟨0, .data⟩ (by simp) rfl))
              go_simp
              exact HK.out 75 _ _ rfl (hJ.same (Nat.zero_le _) (by decide) hin.out rfl (by decide) rfl rfl)
            · clear hcl
              have s75 : b.tmps.getD 75 undef = (.bool false) := (hS.i 75 (by decide)).trans (hJ.v 1 _ rfl (hwt ⟨1, .data⟩ (by simp) rfl))
              go_simp
              exact HK.out 76 _ _ rfl (hJ.same (Nat.zero_le _) (by decide) hin.out rfl (by decide) rfl rfl)
            · clear hcl
              have s76 : b.tmps.getD 76 undef = .bool false := (hS.i 76 (by decide)).trans (hJ.v 2 _ rfl (hwt ⟨2, .guard⟩ (by simp) rfl))
              have s12 : b.tmps.getD 12 undef = .bool true := hS.o 12 (by decide)
              rw [if_pos (wanted_on rfl rfl s76)]
              go_simp
              exact HK.out 77 _ _ rfl (hJ.same (Nat.zero_le _) (by decide) hin.out rfl (by decide) rfl rfl)
            · clear hcl
              have s76 : b.tmps.getD 76 undef = .bool false := (hS.i 76 (by decide)).trans (hJ.v 2 _ rfl (hwt ⟨2, .guard⟩ (by simp) rfl))
              have s77 : b.tmps.getD 77 undef = (.bool true) := (hS.i 77 (by decide)).trans (hJ.v 3 _ rfl (hwt ⟨3, .data⟩ (by simp) rfl))
              rw [if_pos (wanted_on rfl rfl s76)]
              go_simp
              exact HK.out 78 _ _ rfl (hJ.same (Nat.zero_le _) (by decide) hin.out rfl (by decide) rfl rfl)
            · clear hcl
              have s76 : b.tmps.getD 76 undef = (.bool false) := (hS.i 76 (by decide)).trans (hJ.v 2 _ rfl (hwt ⟨2, .data⟩ (by simp) rfl))
              have s78 : b.tmps.getD 78 undef = (.bool false) := (hS.i 78 (by decide)).trans (hJ.v 4 _ rfl (hwt ⟨4, .data⟩ (by simp) rfl))
              go_simp
              exact HK.out 79 _ _ rfl (hJ.same (Nat.zero_le _) (by decide) hin.out rfl (by decide) rfl rfl)
            · clear hcl
              have s79 : b.tmps.getD 79 undef = (.bool false) := (hS.i 79 (by decide)).trans (hJ.v 5 _ rfl (hwt ⟨5, .data⟩ (by simp) rfl))
              go_simp
              exact HK.out 80 _ _ rfl (hJ.same (Nat.zero_le _) (by decide) hin.out rfl (by decide) rfl rfl)
            · clear hcl
              have s80 : b.tmps.getD 80 undef = .bool false := (hS.i 80 (by decide)).trans (hJ.v 6 _ rfl (hwt ⟨6, .guard⟩ (by simp) rfl))
              have s9 : b.tmps.getD 9 undef = .pointer (some ⟨bg9, 0, none⟩) := hS.o 9 (by decide)
              have u0 := (Xg9.below (bt hJ.t) Xg9.lt).cell 0
              have u1 := (Xg9.below (bt hJ.t) Xg9.lt).cell 1
              rw [if_pos (wanted_on rfl rfl s80)]
              go_simp
              exact HK.out 81 _ _ rfl (hJ.same (Nat.zero_le _) (by decide) hin.out rfl (by decide) rfl rfl)
            · clear hcl
              have s80 : b.tmps.getD 80 undef = .bool false := (hS.i 80 (by decide)).trans (hJ.v 6 _ rfl (hwt ⟨6, .guard⟩ (by simp) rfl))
              have s3 : b.tmps.getD 3 undef = .pointer (some ⟨bg3, 0, none⟩) := hS.o 3 (by decide)
              have u0 := (Xg3.below (bt hJ.t) Xg3.lt).cell 0
              have u1 := (Xg3.below (bt hJ.t) Xg3.lt).cell 1
              rw [if_pos (wanted_on rfl rfl s80)]
              go_simp
              exact HK.out 82 _ _ rfl (hJ.same (Nat.zero_le _) (by decide) hin.out rfl (by decide) rfl rfl)
            · clear hcl
              have s80 : b.tmps.getD 80 undef = .bool false := (hS.i 80 (by decide)).trans (hJ.v 6 _ rfl (hwt ⟨6, .guard⟩ (by simp) rfl))
              have s81 : b.tmps.getD 81 undef = (.agg #[.slice A9 n9 c9, .slice B9 m9 d9]) := (hS.i 81 (by decide)).trans (hJ.v 7 _ rfl (hwt ⟨7, .data⟩ (by simp) rfl))
              have s82 : b.tmps.getD 82 undef = (.agg #[.slice A n c, .slice B m d]) := (hS.i 82 (by decide)).trans (hJ.v 8 _ rfl (hwt ⟨8, .data⟩ (by simp) rfl))
              rw [if_pos (wanted_on rfl rfl s80)]
              go_simp
              refine (eqG_rd _ (c := c9) (d := d9) (c2 := c) (d2 := d) (G9.up (bt hJ.t)) (G3.up (bt hJ.t))).mono ?_
              rintro e w6 ⟨rfl, hb⟩
              rw [decide_eq_true rfl]
              go_simp
              exact HK.out 83 _ _ rfl (hJ.put (Nat.zero_le _) (by decide) hin.out rfl (by decide) rfl (Tch.of_below hb) trivial rfl)
            · clear hcl
              have s80 : b.tmps.getD 80 undef = .bool false := (hS.i 80 (by decide)).trans (hJ.v 6 _ rfl (hwt ⟨6, .guard⟩ (by simp) rfl))
              have s83 : b.tmps.getD 83 undef = (.bool true) := (hS.i 83 (by decide)).trans (hJ.v 9 _ rfl (hwt ⟨9, .data⟩ (by simp) rfl))
              rw [if_pos (wanted_on rfl rfl s80)]
              go_simp
              exact HK.out 84 _ _ rfl (hJ.same (Nat.zero_le _) (by decide) hin.out rfl (by decide) rfl rfl)
            · clear hcl
              have s80 : b.tmps.getD 80 undef = (.bool false) := (hS.i 80 (by decide)).trans (hJ.v 6 _ rfl (hwt ⟨6, .data⟩ (by simp) rfl))
              have s84 : b.tmps.getD 84 undef = (.bool false) := (hS.i 84 (by decide)).trans (hJ.v 10 _ rfl (hwt ⟨10, .data⟩ (by simp) rfl))
              go_simp
              exact HK.out 85 _ _ rfl (hJ.same (Nat.zero_le _) (by decide) hin.out rfl (by decide) rfl rfl)
            · clear hcl
              have s85 : b.tmps.getD 85 undef = (.bool false) := (hS.i 85 (by decide)).trans (hJ.v 11 _ rfl (hwt ⟨11, .data⟩ (by simp) rfl))
              go_simp
              exact HK.out 86 _ _ rfl (hJ.same (Nat.zero_le _) (by decide) hin.out rfl (by decide) rfl rfl)
            · clear hcl
              have s86 : b.tmps.getD 86 undef = .bool false := (hS.i 86 (by decide)).trans (hJ.v 12 _ rfl (hwt ⟨12, .guard⟩ (by simp) rfl))
              have s11 : b.tmps.getD 11 undef = .pointer (some ⟨bg11, 0, none⟩) := hS.o 11 (by decide)
              have u0 := (Xg11.below (bt hJ.t) Xg11.lt).cell 0
              have u1 := (Xg11.below (bt hJ.t) Xg11.lt).cell 1
              rw [if_pos (wanted_on rfl rfl s86)]
              go_simp
              exact HK.out 87 _ _ rfl (hJ.same (Nat.zero_le _) (by decide) hin.out rfl (by decide) rfl rfl)
            · clear hcl
              have s86 : b.tmps.getD 86 undef = .bool false := (hS.i 86 (by decide)).trans (hJ.v 12 _ rfl (hwt ⟨12, .guard⟩ (by simp) rfl))
              have s5 : b.tmps.getD 5 undef = .pointer (some ⟨bg5, 0, none⟩) := hS.o 5 (by decide)
              have u0 := (Xg5.below (bt hJ.t) Xg5.lt).cell 0
              have u1 := (Xg5.below (bt hJ.t) Xg5.lt).cell 1
              rw [if_pos (wanted_on rfl rfl s86)]
              go_simp
              exact HK.out 88 _ _ rfl (hJ.same (Nat.zero_le _) (by decide) hin.out rfl (by decide) rfl rfl)
            · clear hcl
              have s86 : b.tmps.getD 86 undef = .bool false := (hS.i 86 (by decide)).trans (hJ.v 12 _ rfl (hwt ⟨12, .guard⟩ (by simp) rfl))
              have s87 : b.tmps.getD 87 undef = (.agg #[.slice A11 n11 c11, .slice B11 m11 d11]) := (hS.i 87 (by decide)).trans (hJ.v 13 _ rfl (hwt ⟨13, .data⟩ (by simp) rfl))
              have s88 : b.tmps.getD 88 undef = (.agg #[.slice A5 n5 c5, .slice B5 m5 d5]) := (hS.i 88 (by decide)).trans (hJ.v 14 _ rfl (hwt ⟨14, .data⟩ (by simp) rfl))
              rw [if_pos (wanted_on rfl rfl s86)]
              go_simp
              refine (eqG_rd _ (c := c11) (d := d11) (c2 := c5) (d2 := d5) (G11.up (bt hJ.t)) (G5.up (bt hJ.t))).mono ?_
              rintro e w6 ⟨rfl, hb⟩
              rw [decide_eq_true rfl]
              go_simp
              exact HK.out 89 _ _ rfl (hJ.put (Nat.zero_le _) (by decide) hin.out rfl (by decide) rfl (Tch.of_below hb) trivial rfl)
            · clear hcl
              have s86 : b.tmps.getD 86 undef = .bool false := (hS.i 86 (by decide)).trans (hJ.v 12 _ rfl (hwt ⟨12, .guard⟩ (by simp) rfl))
              have s89 : b.tmps.getD 89 undef = (.bool true) := (hS.i 89 (by decide)).trans (hJ.v 15 _ rfl (hwt ⟨15, .data⟩ (by simp) rfl))
              rw [if_pos (wanted_on rfl rfl s86)]
              go_simp
              exact HK.out 90 _ _ rfl (hJ.same (Nat.zero_le _) (by decide) hin.out rfl (by decide) rfl rfl)
            · clear hcl
              have s86 : b.tmps.getD 86 undef = (.bool false) := (hS.i 86 (by decide)).trans (hJ.v 12 _ rfl (hwt ⟨12, .data⟩ (by simp) rfl))
              have s90 : b.tmps.getD 90 undef = (.bool false) := (hS.i 90 (by decide)).trans (hJ.v 16 _ rfl (hwt ⟨16, .data⟩ (by simp) rfl))
              go_simp
              exact HK.out 91 _ _ rfl (hJ.same (Nat.zero_le _) (by decide) hin.out rfl (by decide) rfl rfl)
            · clear hcl
              have s91 : b.tmps.getD 91 undef = (.bool false) := (hS.i 91 (by decide)).trans (hJ.v 17 _ rfl (hwt ⟨17, .data⟩ (by simp) rfl))
              go_simp
              exact HK.out 92 _ _ rfl (hJ.same (Nat.zero_le _) (by decide) hin.out rfl (by decide) rfl rfl)
            · clear hcl
              have s92 : b.tmps.getD 92 undef = .bool false := (hS.i 92 (by decide)).trans (hJ.v 18 _ rfl (hwt ⟨18, .guard⟩ (by simp) rfl))
              have s4 : b.tmps.getD 4 undef = .pointer (some ⟨bb4, 0, none⟩) := hS.o 4 (by decide)
              have u0 := (Xb4.below (bt hJ.t) Xb4.lt).cell 0
              rw [if_pos (wanted_on rfl rfl s92)]
              go_simp
              exact HK.out 93 _ _ rfl (hJ.same (Nat.zero_le _) (by decide) hin.out rfl (by decide) rfl rfl)
            · clear hcl
              have s92 : b.tmps.getD 92 undef = .bool false := (hS.i 92 (by decide)).trans (hJ.v 18 _ rfl (hwt ⟨18, .guard⟩ (by simp) rfl))
              have s93 : b.tmps.getD 93 undef = (.agg #[.slice C k cf]) := (hS.i 93 (by decide)).trans (hJ.v 19 _ rfl (hwt ⟨19, .data⟩ (by simp) rfl))
              rw [if_pos (wanted_on rfl rfl s92)]
              go_simp
              refine (implNetBatch_is _ (C4.up (bt hJ.t))).mono ?_
              rintro e w6 ⟨C6, k6, f6, rfl, J6, hb⟩
              have hzz := hJ.t.size
              go_simp
              exact HK.out 94 _ _ rfl (hJ.put (Nat.zero_le _) (by decide) hin.out rfl (by decide) rfl (Tch.of_below hb) trivial ⟨C6, k6, f6, _, rfl, rfl, J6.bd, own_rebase J6.own.row hzz⟩)
            · clear hcl
              have s92 : b.tmps.getD 92 undef = .bool false := (hS.i 92 (by decide)).trans (hJ.v 18 _ rfl (hwt ⟨18, .guard⟩ (by simp) rfl))
              obtain ⟨C20, k20, f20, l20, hs20, hp20, hk20, o20⟩ := hJ.v 20 _ rfl (hwt ⟨20, .data⟩ (by simp) rfl)
              have s94 : b.tmps.getD 94 undef = .agg #[.slice C20 k20 f20] := (hS.i 94 (by decide)).trans hs20
              rw [if_pos (wanted_on rfl rfl s92)]
              go_simp
              exact HK.out 95 _ _ rfl (hJ.same (Nat.zero_le _) (by decide) hin.out rfl (by decide) rfl ⟨_, _, _, _, rfl, hp20, hk20, o20⟩)
            · clear hcl
              have s92 : b.tmps.getD 92 undef = .bool false := (hS.i 92 (by decide)).trans (hJ.v 18 _ rfl (hwt ⟨18, .guard⟩ (by simp) rfl))
              obtain ⟨C21, k21, f21, l21, hs21, hp21, hk21, o21⟩ := hJ.v 21 _ rfl (hwt ⟨21, .data⟩ (by simp) rfl)
              have s95 : b.tmps.getD 95 undef = .slice C21 k21 f21 := (hS.i 95 (by decide)).trans hs21
              have hk21 : k21 = NL := by
                have h1 := o21.1
                rw [cgcs_len] at h1
                have h2 : l21 = netB bl := hp21
                have h3 := HNN.out
                rw [← h2] at h3
                omega
              subst hk21
              rw [if_pos (wanted_on rfl rfl s92)]
              go_simp
              exact HK.out 96 _ _ rfl (hJ.same (Nat.zero_le _) (by decide) hin.out rfl (by decide) rfl rfl)
            · clear hcl
              have s92 : b.tmps.getD 92 undef = .bool false := (hS.i 92 (by decide)).trans (hJ.v 18 _ rfl (hwt ⟨18, .guard⟩ (by simp) rfl))
              have s4 : b.tmps.getD 4 undef = .pointer (some ⟨bb4, 0, none⟩) := hS.o 4 (by decide)
              rw [if_pos (wanted_on rfl rfl s92)]
              go_simp
              exact HK.out 97 _ _ rfl (hJ.same (Nat.zero_le _) (by decide) hin.out rfl (by decide) rfl rfl)
            · clear hcl
              have s92 : b.tmps.getD 92 undef = .bool false := (hS.i 92 (by decide)).trans (hJ.v 18 _ rfl (hwt ⟨18, .guard⟩ (by simp) rfl))
              have s97 : b.tmps.getD 97 undef = (.pointer (some ⟨bb4, 0, none⟩)) := (hS.i 97 (by decide)).trans (hJ.v 23 _ rfl (hwt ⟨23, .data⟩ (by simp) rfl))
              have u0 := (Xb4.below (bt hJ.t) Xb4.lt).cell 0
              rw [if_pos (wanted_on rfl rfl s92)]
              go_simp
              exact HK.out 98 _ _ rfl (hJ.same (Nat.zero_le _) (by decide) hin.out rfl (by decide) rfl rfl)
            · clear hcl
              have s92 : b.tmps.getD 92 undef = .bool false := (hS.i 92 (by decide)).trans (hJ.v 18 _ rfl (hwt ⟨18, .guard⟩ (by simp) rfl))
              have s98 : b.tmps.getD 98 undef = (.slice C k cf) := (hS.i 98 (by decide)).trans (hJ.v 24 _ rfl (hwt ⟨24, .data⟩ (by simp) rfl))
              rw [if_pos (wanted_on rfl rfl s92)]
              go_simp
              exact HK.out 99 _ _ rfl (hJ.same (Nat.zero_le _) (by decide) hin.out rfl (by decide) rfl rfl)
            · clear hcl
              have s92 : b.tmps.getD 92 undef = .bool false := (hS.i 92 (by decide)).trans (hJ.v 18 _ rfl (hwt ⟨18, .guard⟩ (by simp) rfl))
              have s96 : b.tmps.getD 96 undef = (.int .i64 NL) := (hS.i 96 (by decide)).trans (hJ.v 22 _ rfl (hwt ⟨22, .data⟩ (by simp) rfl))
              have s99 : b.tmps.getD 99 undef = (.int .i64 k) := (hS.i 99 (by decide)).trans (hJ.v 25 _ rfl (hwt ⟨25, .data⟩ (by simp) rfl))
              have hle_ : ¬ k < NL := by have := HLE.out; omega
              rw [if_pos (wanted_on rfl rfl s92)]
              go_simp
              exact HK.out 100 _ _ rfl (hJ.same (Nat.zero_le _) (by decide) hin.out rfl (by decide) rfl rfl)
            · clear hcl
              have s92 : b.tmps.getD 92 undef = (.bool false) := (hS.i 92 (by decide)).trans (hJ.v 18 _ rfl (hwt ⟨18, .data⟩ (by simp) rfl))
              have s100 : b.tmps.getD 100 undef = (.bool false) := (hS.i 100 (by decide)).trans (hJ.v 26 _ rfl (hwt ⟨26, .data⟩ (by simp) rfl))
              go_simp
              exact HK.out 101 _ _ rfl (hJ.same (Nat.zero_le _) (by decide) hin.out rfl (by decide) rfl rfl)
          case hend =>
            rw [← hwd]
            intro L f w' hall hJ
            clear hwd
            have h_ : f 101 = .bool false := hJ.v 27 _ rfl (hall 27 (by decide))
            have hb := bt hJ.t
            clear hall hJ HNN HLE
            obtain ⟨w15, rfl⟩ : ∃ z, z = w' := ⟨_, rfl⟩
            have Bw15 := below_then Bwd hb
            replace Xg3 := Xg3.below hb Xg3.lt
            replace Xb4 := Xb4.below hb Xb4.lt
            replace Xg5 := Xg5.below hb Xg5.lt
            replace Xg9 := Xg9.below hb Xg9.lt
            replace Xg11 := Xg11.below hb Xg11.lt
            replace G3 := G3.up hb
            replace C4 := C4.up hb
            replace G5 := G5.up hb
            replace G9 := G9.up hb
            replace G11 := G11.up hb
            clear hb
            clear Bwd
            clear Xg3
            clear Xg5
            clear Xg9
            clear Xg11
            clear G3
            clear G5
            clear G9
            clear G11
            simp only [chs, Act.put, List.setIfInBounds_toArray, List.set_cons_zero, List.set_cons_succ, h_]
            clear h_
            go_wp2_with fail
            refine (drawBetween_any w15 (R0.up Bw15)).mono ?_
            rintro e w16 ⟨A13, n13, c13, B13, m13, d13, A14, n14, c14, B14, m14, d14, rfl, ⟨g13, G13⟩, ⟨g14, G14⟩, hb⟩
            have Bw16 := below_then Bw15 hb
            replace Xb4 := Xb4.below hb Xb4.lt
            replace C4 := C4.up hb
            clear hb
            clear Bw15
            have bA : Below w16.heap.size w16 (w16.alloc (.cells #[.slice A13 n13 c13, .slice B13 m13 d13] 27)) := (Below.refl _ _).alloc (Nat.le_refl _) _
            have Xg13 := Blk.new w16 27 #[.slice A13 n13 c13, .slice B13 m13 d13]
            have BN := below_then Bw16 bA
            replace Xb4 := Xb4.below bA Xb4.lt
            replace C4 := C4.up bA
            replace G13 := G13.up bA
            replace G14 := G14.up bA
            clear bA Bw16
            generalize hwg13 : w16.alloc (.cells #[.slice A13 n13 c13, .slice B13 m13 d13] 27) = w17 at *
            generalize hhg13 : w16.heap.size = bg13 at *
            have HWg13 := Lib.hid hwg13
            have HHg13 := Lib.hid hhg13
            clear hwg13 hhg13
            have Bw17 := BN
            clear BN
            have bA : Below w17.heap.size w17 (w17.alloc (.cells #[.slice A14 n14 c14, .slice B14 m14 d14] 27)) := (Below.refl _ _).alloc (Nat.le_refl _) _
            have Xg14 := Blk.new w17 27 #[.slice A14 n14 c14, .slice B14 m14 d14]
            have BN := below_then Bw17 bA
            replace Xb4 := Xb4.below bA Xb4.lt
            replace Xg13 := Xg13.below bA Xg13.lt
            replace C4 := C4.up bA
            replace G13 := G13.up bA
            replace G14 := G14.up bA
            clear bA Bw17
            generalize hwg14 : w17.alloc (.cells #[.slice A14 n14 c14, .slice B14 m14 d14] 27) = w18 at *
            have hsz : w17.heap.size = bg13 + 1 := by rw [← HWg13.out, World.size_alloc, HHg13.out]
            rw [hsz] at Xg14
            clear hsz
            generalize hhg14 : bg13 + 1 = bg14 at *
            have HWg14 := Lib.hid hwg14
            have HHg14 := Lib.hid hhg14
            clear hwg14 hhg14
            have Bw18 := BN
            clear BN
            obtain ⟨made, hmade⟩ : ∃ made, btwOk g13 g14 = made := ⟨_, rfl⟩
            obtain ⟨z, hz⟩ : ∃ z, btwZ g13 g14 = z := ⟨_, rfl⟩
            have hlaw : made = true → apG g13 z = (g14, true) := by
              intro h
              rw [← hz]
              exact btw_law (hmade.trans h)
            have HLW := Lib.hid hlaw
            clear hlaw
            have i1 := fun w (h : GRd w A13 n13 B13 m13 g13) (h2 : GRd w A14 n14 B14 m14 g14) => implBatchBetween_is w (c := c13) (d := d13) (c2 := c14) (d2 := d14) h h2
            have i2 := fun w (h : GRd w A13 n13 B13 m13 g13) (h2 : GRd w A14 n14 B14 m14 g14) => specBatchBetween_is w (c := c13) (d := d13) (c2 := c14) (d2 := d14) h h2
            simp only [hmade, hz] at i1 i2
            have I1 := Lib.hid i1
            have I2 := Lib.hid i2
            clear i1 i2 hmade hz
            have lg130 := Xg13.cell 0
            have lg131 := Xg13.cell 1
            have lg140 := Xg14.cell 0
            have lg141 := Xg14.cell 1
            go_wp2_with fail
            rw [HWg13.out, HHg13.out, HWg14.out, HHg14.out]
            refine (I1.out _ G13 G14).mono ?_
            rintro e w19 ⟨A15, n15, c15, rfl, J15, hb⟩
            clear lg130 lg131 lg140 lg141
            have Bw19 := below_then Bw18 hb
            replace Xb4 := Xb4.below hb Xb4.lt
            replace Xg13 := Xg13.below hb Xg13.lt
            replace Xg14 := Xg14.below hb Xg14.lt
            replace C4 := C4.up hb
            replace G13 := G13.up hb
            replace G14 := G14.up hb
            clear hb
            clear Bw18
            have C15 := RIs.crd J15
            clear J15
            have bA : Below w19.heap.size w19 (w19.alloc (.cells #[.slice A15 n15 c15] 47)) := (Below.refl _ _).alloc (Nat.le_refl _) _
            have Xb15 := Blk.new w19 47 #[.slice A15 n15 c15]
            have BN := below_then Bw19 bA
            replace Xb4 := Xb4.below bA Xb4.lt
            replace Xg13 := Xg13.below bA Xg13.lt
            replace Xg14 := Xg14.below bA Xg14.lt
            replace C4 := C4.up bA
            replace G13 := G13.up bA
            replace G14 := G14.up bA
            replace C15 := C15.up bA
            clear bA Bw19
            generalize hwb15 : w19.alloc (.cells #[.slice A15 n15 c15] 47) = w20 at *
            generalize hhb15 : w19.heap.size = bb15 at *
            have HWb15 := Lib.hid hwb15
            have HHb15 := Lib.hid hhb15
            clear hwb15 hhb15
            have Bw20 := BN
            clear BN
            have lg130 := Xg13.cell 0
            rw [← HWb15.out] at lg130
            have lg131 := Xg13.cell 1
            rw [← HWb15.out] at lg131
            have lg140 := Xg14.cell 0
            rw [← HWb15.out] at lg140
            have lg141 := Xg14.cell 1
            rw [← HWb15.out] at lg141
            go_wp2_with fail
            rw [HWb15.out, HHb15.out]
            refine (I2.out _ G13 G14).mono ?_
            rintro e w21 ⟨A17, n17, c17, rfl, J17, hb⟩
            clear lg130 lg131 lg140 lg141
            have Bw21 := below_then Bw20 hb
            replace Xb4 := Xb4.below hb Xb4.lt
            replace Xg13 := Xg13.below hb Xg13.lt
            replace Xg14 := Xg14.below hb Xg14.lt
            replace Xb15 := Xb15.below hb Xb15.lt
            replace C4 := C4.up hb
            replace G13 := G13.up hb
            replace G14 := G14.up hb
            replace C15 := C15.up hb
            clear hb
            clear Bw20
            have C17 := RIs.crd J17
            clear J17 I1 I2
            have bA : Below w21.heap.size w21 (w21.alloc (.cells #[.slice A17 n17 c17] 47)) := (Below.refl _ _).alloc (Nat.le_refl _) _
            have Xb17 := Blk.new w21 47 #[.slice A17 n17 c17]
            have BN := below_then Bw21 bA
            replace Xb4 := Xb4.below bA Xb4.lt
            replace Xg13 := Xg13.below bA Xg13.lt
            replace Xg14 := Xg14.below bA Xg14.lt
            replace Xb15 := Xb15.below bA Xb15.lt
            replace C4 := C4.up bA
            replace G13 := G13.up bA
            replace G14 := G14.up bA
            replace C15 := C15.up bA
            replace C17 := C17.up bA
            clear bA Bw21
            generalize hwb17 : w21.alloc (.cells #[.slice A17 n17 c17] 47) = w22 at *
            generalize hhb17 : w21.heap.size = bb17 at *
            have HWb17 := Lib.hid hwb17
            have HHb17 := Lib.hid hhb17
            clear hwb17 hhb17
            have Bw22 := BN
            clear BN
            have lb150 := Xb15.cell 0
            rw [← HWb17.out] at lb150
            have lb170 := Xb17.cell 0
            go_wp2_with fail
            rw [HWb17.out, HHb17.out]
            refine (implEqualBatches_is _ (c := c15) (d := c17) C15 C17).mono ?_
            rintro e w23 ⟨rfl, hb⟩
            clear lb150 lb170
            rw [decide_eq_true rfl]
            have Bw23 := below_then Bw22 hb
            replace Xb4 := Xb4.below hb Xb4.lt
            replace Xg13 := Xg13.below hb Xg13.lt
            replace Xg14 := Xg14.below hb Xg14.lt
            replace Xb15 := Xb15.below hb Xb15.lt
            replace Xb17 := Xb17.below hb Xb17.lt
            replace C4 := C4.up hb
            replace G13 := G13.up hb
            replace G14 := G14.up hb
            replace C15 := C15.up hb
            replace C17 := C17.up hb
            clear hb
            clear Bw22
            clear Xb17
            clear C17
            cases made
            · clear HLW
              clear Xg13
              clear Xg14
              clear Xb15
              clear G13
              clear G14
              clear C15
              obtain ⟨F, hF⟩ : ∃ F, fmtBt bl = F := ⟨_, rfl⟩
              obtain ⟨Z, hZ⟩ : ∃ Z : ByteArray, (⟨F.toArray⟩ : ByteArray) = Z := ⟨_, rfl⟩
              have hZe : Z.data.toList = F := by subst hZ; rfl
              have hZs : Z.size ≤ 1048576 := by
                rw [Lib.size_eq, hZe, ← hF]
                have := fmtBt_len bl
                omega
              have hbb : F ≠ [] → prsBaB F = true ∧ prsBa F = bl := by
                intro h
                have h1 := batch_back (l := bl) (by rw [hF]; exact h)
                rw [hF] at h1
                unfold prsBaB prsBa
                rw [h1]
                exact ⟨rfl, rfl⟩
              have f1 := fun w (h : CRd w C k bl) TP => implFormatBatch_is w (c := cf) h TP
              have f2 := fun w (h : CRd w C k bl) => specFormatBatch_is w (c := cf) h
              simp only [hF, hZ] at f1 f2
              have F1 := Lib.hid f1
              have F2 := Lib.hid f2
              have p1 := fun w TP TE TM => implParseBatch_is w Z TP TE TM hZs
              simp only [hZe] at p1
              have HBB := Lib.hid hbb
              have HZ := Lib.hid hZ
              clear f1 f2 hF hZe hZs hbb hZ
              have lb40 := Xb4.cell 0
              go_wp2_with fail
              refine (F1.out _ C4 (TP.up Bw23)).mono ?_
              rintro e w24 ⟨rfl, hb⟩
              clear lb40
              have Bw24 := below_then Bw23 hb
              replace Xb4 := Xb4.below hb Xb4.lt
              replace C4 := C4.up hb
              clear hb
              clear Bw23
              clear F1
              by_cases hF0 : F = []
              · obtain ⟨rd, hrd⟩ : ∃ rd, prsBaB F = rd := ⟨_, rfl⟩
                obtain ⟨v, hv⟩ : ∃ v, prsBa F = v := ⟨_, rfl⟩
                simp only [hrd, hv] at p1
                have P1 := Lib.hid p1
                clear p1 hrd hv
                obtain rfl : Z = ⟨#[]⟩ := by
                  rw [← HZ.out, hF0]
                clear HZ hF0 HBB
                go_wp2_with fail
                refine (P1.out _ (TP.up Bw24) (TE.up Bw24) (TM.up Bw24)).mono ?_
                rintro e w25 ⟨A22, n22, c22, rfl, J22, hb⟩
                have Bw25 := below_then Bw24 hb
                replace Xb4 := Xb4.below hb Xb4.lt
                replace C4 := C4.up hb
                clear hb
                clear Bw24
                have C22 := RIs.crd J22
                clear J22 P1
                have bA : Below w25.heap.size w25 (w25.alloc (.cells #[.slice A22 n22 c22] 47)) := (Below.refl _ _).alloc (Nat.le_refl _) _
                have Xb22 := Blk.new w25 47 #[.slice A22 n22 c22]
                have BN := below_then Bw25 bA
                replace Xb4 := Xb4.below bA Xb4.lt
                replace C4 := C4.up bA
                replace C22 := C22.up bA
                clear bA Bw25
                generalize hwb22 : w25.alloc (.cells #[.slice A22 n22 c22] 47) = w26 at *
                generalize hhb22 : w25.heap.size = bb22 at *
                have HWb22 := Lib.hid hwb22
                have HHb22 := Lib.hid hhb22
                clear hwb22 hhb22
                have Bw26 := BN
                clear BN
                have lb40 := Xb4.cell 0
                rw [← HWb22.out] at lb40
                go_wp2_with fail
                rw [HWb22.out, HHb22.out]
                refine (F2.out _ C4).mono ?_
                rintro e w27 ⟨rfl, hb⟩
                clear lb40
                have Bw27 := below_then Bw26 hb
                replace Xb4 := Xb4.below hb Xb4.lt
                replace Xb22 := Xb22.below hb Xb22.lt
                replace C4 := C4.up hb
                replace C22 := C22.up hb
                clear hb
                clear Bw26
                clear F2
                go_wp2
                go_ret
                exact ⟨by simp, Bw27⟩
              · simp only [(HBB.out hF0).1, (HBB.out hF0).2] at p1
                have P1 := Lib.hid p1
                clear p1
                have hZ0 : ¬ Z.toList = [] := by
                  rw [ByteArray.toList_eq, ← HZ.out]
                  exact hF0
                clear HZ hF0 HBB
                go_wp2_with fail
                refine (P1.out _ (TP.up Bw24) (TE.up Bw24) (TM.up Bw24)).mono ?_
                rintro e w25 ⟨A22, n22, c22, rfl, J22, hb⟩
                have Bw25 := below_then Bw24 hb
                replace Xb4 := Xb4.below hb Xb4.lt
                replace C4 := C4.up hb
                clear hb
                clear Bw24
                have C22 := RIs.crd J22
                clear J22 P1
                have bA : Below w25.heap.size w25 (w25.alloc (.cells #[.slice A22 n22 c22] 47)) := (Below.refl _ _).alloc (Nat.le_refl _) _
                have Xb22 := Blk.new w25 47 #[.slice A22 n22 c22]
                have BN := below_then Bw25 bA
                replace Xb4 := Xb4.below bA Xb4.lt
                replace C4 := C4.up bA
                replace C22 := C22.up bA
                clear bA Bw25
                generalize hwb22 : w25.alloc (.cells #[.slice A22 n22 c22] 47) = w26 at *
                generalize hhb22 : w25.heap.size = bb22 at *
                have HWb22 := Lib.hid hwb22
                have HHb22 := Lib.hid hhb22
                clear hwb22 hhb22
                have Bw26 := BN
                clear BN
                have lb40 := Xb4.cell 0
                rw [← HWb22.out] at lb40
                go_wp2_with fail
                rw [HWb22.out, HHb22.out]
                refine (F2.out _ C4).mono ?_
                rintro e w27 ⟨rfl, hb⟩
                clear lb40
                have Bw27 := below_then Bw26 hb
                replace Xb4 := Xb4.below hb Xb4.lt
                replace Xb22 := Xb22.below hb Xb22.lt
                replace C4 := C4.up hb
                replace C22 := C22.up hb
                clear hb
                clear Bw26
                clear F2
                have lb220 := Xb22.cell 0
                have lb40 := Xb4.cell 0
                go_wp2_with fail
                refine (implEqualBatches_is _ (c := c22) (d := cf) C22 C4).mono ?_
                rintro e w28 ⟨rfl, hb⟩
                clear lb220 lb40
                rw [decide_eq_true rfl]
                have Bw28 := below_then Bw27 hb
                replace Xb4 := Xb4.below hb Xb4.lt
                replace Xb22 := Xb22.below hb Xb22.lt
                replace C4 := C4.up hb
                replace C22 := C22.up hb
                clear hb
                clear Bw27
                go_wp2
                go_ret
                exact ⟨by simp, Bw28⟩
            · have i1 := fun w (h : GRd w A13 n13 B13 m13 g13) (hc : CRd w A15 n15 z) => implApplyBatch_is w (c := c13) (d := d13) (cc := c15) h hc
              simp only [HLW.out rfl] at i1
              have I1 := Lib.hid i1
              clear i1
              have lg130 := Xg13.cell 0
              have lg131 := Xg13.cell 1
              have lb150 := Xb15.cell 0
              go_wp2_with fail
              refine (I1.out _ G13 C15).mono ?_
              rintro e w24 ⟨A19, n19, c19, B19, m19, d19, rfl, J19, hb⟩
              clear lg130 lg131 lb150
              have Bw24 := below_then Bw23 hb
              replace Xb4 := Xb4.below hb Xb4.lt
              replace Xg13 := Xg13.below hb Xg13.lt
              replace Xg14 := Xg14.below hb Xg14.lt
              replace Xb15 := Xb15.below hb Xb15.lt
              replace C4 := C4.up hb
              replace G13 := G13.up hb
              replace G14 := G14.up hb
              replace C15 := C15.up hb
              clear hb
              clear Bw23
              have G19 := gis_any (g := g14) J19
              clear J19 I1
              have bA : Below w24.heap.size w24 (w24.alloc (.cells #[.slice A19 n19 c19, .slice B19 m19 d19] 27)) := (Below.refl _ _).alloc (Nat.le_refl _) _
              have Xg19 := Blk.new w24 27 #[.slice A19 n19 c19, .slice B19 m19 d19]
              have BN := below_then Bw24 bA
              replace Xb4 := Xb4.below bA Xb4.lt
              replace Xg13 := Xg13.below bA Xg13.lt
              replace Xg14 := Xg14.below bA Xg14.lt
              replace Xb15 := Xb15.below bA Xb15.lt
              replace C4 := C4.up bA
              replace G13 := G13.up bA
              replace G14 := G14.up bA
              replace C15 := C15.up bA
              replace G19 := G19.up bA
              clear bA Bw24
              generalize hwg19 : w24.alloc (.cells #[.slice A19 n19 c19, .slice B19 m19 d19] 27) = w25 at *
              generalize hhg19 : w24.heap.size = bg19 at *
              have HWg19 := Lib.hid hwg19
              have HHg19 := Lib.hid hhg19
              clear hwg19 hhg19
              have Bw25 := BN
              clear BN
              have lg190 := Xg19.cell 0
              have lg191 := Xg19.cell 1
              have lg140 := Xg14.cell 0
              rw [← HWg19.out] at lg140
              have lg141 := Xg14.cell 1
              rw [← HWg19.out] at lg141
              go_wp2_with fail
              rw [HWg19.out, HHg19.out]
              refine (eqG_rd _ (c := c19) (d := d19) (c2 := c14) (d2 := d14) G19 G14).mono ?_
              rintro e w26 ⟨rfl, hb⟩
              clear lg190 lg191 lg140 lg141
              rw [decide_eq_true rfl]
              have Bw26 := below_then Bw25 hb
              replace Xb4 := Xb4.below hb Xb4.lt
              replace Xg13 := Xg13.below hb Xg13.lt
              replace Xg14 := Xg14.below hb Xg14.lt
              replace Xb15 := Xb15.below hb Xb15.lt
              replace Xg19 := Xg19.below hb Xg19.lt
              replace C4 := C4.up hb
              replace G13 := G13.up hb
              replace G14 := G14.up hb
              replace C15 := C15.up hb
              replace G19 := G19.up hb
              clear hb
              clear Bw25
              clear Xg19
              clear G19
              clear HLW
              clear Xg13
              clear Xg14
              clear Xb15
              clear G13
              clear G14
              clear C15
              obtain ⟨F, hF⟩ : ∃ F, fmtBt bl = F := ⟨_, rfl⟩
              obtain ⟨Z, hZ⟩ : ∃ Z : ByteArray, (⟨F.toArray⟩ : ByteArray) = Z := ⟨_, rfl⟩
              have hZe : Z.data.toList = F := by subst hZ; rfl
              have hZs : Z.size ≤ 1048576 := by
                rw [Lib.size_eq, hZe, ← hF]
                have := fmtBt_len bl
                omega
              have hbb : F ≠ [] → prsBaB F = true ∧ prsBa F = bl := by
                intro h
                have h1 := batch_back (l := bl) (by rw [hF]; exact h)
                rw [hF] at h1
                unfold prsBaB prsBa
                rw [h1]
                exact ⟨rfl, rfl⟩
              have f1 := fun w (h : CRd w C k bl) TP => implFormatBatch_is w (c := cf) h TP
              have f2 := fun w (h : CRd w C k bl) => specFormatBatch_is w (c := cf) h
              simp only [hF, hZ] at f1 f2
              have F1 := Lib.hid f1
              have F2 := Lib.hid f2
              have p1 := fun w TP TE TM => implParseBatch_is w Z TP TE TM hZs
              simp only [hZe] at p1
              have HBB := Lib.hid hbb
              have HZ := Lib.hid hZ
              clear f1 f2 hF hZe hZs hbb hZ
              have lb40 := Xb4.cell 0
              go_wp2_with fail
              refine (F1.out _ C4 (TP.up Bw26)).mono ?_
              rintro e w27 ⟨rfl, hb⟩
              clear lb40
              have Bw27 := below_then Bw26 hb
              replace Xb4 := Xb4.below hb Xb4.lt
              replace C4 := C4.up hb
              clear hb
              clear Bw26
              clear F1
              by_cases hF0 : F = []
              · obtain ⟨rd, hrd⟩ : ∃ rd, prsBaB F = rd := ⟨_, rfl⟩
                obtain ⟨v, hv⟩ : ∃ v, prsBa F = v := ⟨_, rfl⟩
                simp only [hrd, hv] at p1
                have P1 := Lib.hid p1
                clear p1 hrd hv
                obtain rfl : Z = ⟨#[]⟩ := by
                  rw [← HZ.out, hF0]
                clear HZ hF0 HBB
                go_wp2_with fail
                refine (P1.out _ (TP.up Bw27) (TE.up Bw27) (TM.up Bw27)).mono ?_
                rintro e w28 ⟨A22, n22, c22, rfl, J22, hb⟩
                have Bw28 := below_then Bw27 hb
                replace Xb4 := Xb4.below hb Xb4.lt
                replace C4 := C4.up hb
                clear hb
                clear Bw27
                have C22 := RIs.crd J22
                clear J22 P1
                have bA : Below w28.heap.size w28 (w28.alloc (.cells #[.slice A22 n22 c22] 47)) := (Below.refl _ _).alloc (Nat.le_refl _) _
                have Xb22 := Blk.new w28 47 #[.slice A22 n22 c22]
                have BN := below_then Bw28 bA
                replace Xb4 := Xb4.below bA Xb4.lt
                replace C4 := C4.up bA
                replace C22 := C22.up bA
                clear bA Bw28
                generalize hwb22 : w28.alloc (.cells #[.slice A22 n22 c22] 47) = w29 at *
                generalize hhb22 : w28.heap.size = bb22 at *
                have HWb22 := Lib.hid hwb22
                have HHb22 := Lib.hid hhb22
                clear hwb22 hhb22
                have Bw29 := BN
                clear BN
                have lb40 := Xb4.cell 0
                rw [← HWb22.out] at lb40
                go_wp2_with fail
                rw [HWb22.out, HHb22.out]
                refine (F2.out _ C4).mono ?_
                rintro e w30 ⟨rfl, hb⟩
                clear lb40
                have Bw30 := below_then Bw29 hb
                replace Xb4 := Xb4.below hb Xb4.lt
                replace Xb22 := Xb22.below hb Xb22.lt
                replace C4 := C4.up hb
                replace C22 := C22.up hb
                clear hb
                clear Bw29
                clear F2
                go_wp2
                go_ret
                exact ⟨by simp, Bw30⟩
              · simp only [(HBB.out hF0).1, (HBB.out hF0).2] at p1
                have P1 := Lib.hid p1
                clear p1
                have hZ0 : ¬ Z.toList = [] := by
                  rw [ByteArray.toList_eq, ← HZ.out]
                  exact hF0
                clear HZ hF0 HBB
                go_wp2_with fail
                refine (P1.out _ (TP.up Bw27) (TE.up Bw27) (TM.up Bw27)).mono ?_
                rintro e w28 ⟨A22, n22, c22, rfl, J22, hb⟩
                have Bw28 := below_then Bw27 hb
                replace Xb4 := Xb4.below hb Xb4.lt
                replace C4 := C4.up hb
                clear hb
                clear Bw27
                have C22 := RIs.crd J22
                clear J22 P1
                have bA : Below w28.heap.size w28 (w28.alloc (.cells #[.slice A22 n22 c22] 47)) := (Below.refl _ _).alloc (Nat.le_refl _) _
                have Xb22 := Blk.new w28 47 #[.slice A22 n22 c22]
                have BN := below_then Bw28 bA
                replace Xb4 := Xb4.below bA Xb4.lt
                replace C4 := C4.up bA
                replace C22 := C22.up bA
                clear bA Bw28
                generalize hwb22 : w28.alloc (.cells #[.slice A22 n22 c22] 47) = w29 at *
                generalize hhb22 : w28.heap.size = bb22 at *
                have HWb22 := Lib.hid hwb22
                have HHb22 := Lib.hid hhb22
                clear hwb22 hhb22
                have Bw29 := BN
                clear BN
                have lb40 := Xb4.cell 0
                rw [← HWb22.out] at lb40
                go_wp2_with fail
                rw [HWb22.out, HHb22.out]
                refine (F2.out _ C4).mono ?_
                rintro e w30 ⟨rfl, hb⟩
                clear lb40
                have Bw30 := below_then Bw29 hb
                replace Xb4 := Xb4.below hb Xb4.lt
                replace Xb22 := Xb22.below hb Xb22.lt
                replace C4 := C4.up hb
                replace C22 := C22.up hb
                clear hb
                clear Bw29
                clear F2
                have lb220 := Xb22.cell 0
                have lb40 := Xb4.cell 0
                go_wp2_with fail
                refine (implEqualBatches_is _ (c := c22) (d := cf) C22 C4).mono ?_
                rintro e w31 ⟨rfl, hb⟩
                clear lb220 lb40
                rw [decide_eq_true rfl]
                have Bw31 := below_then Bw30 hb
                replace Xb4 := Xb4.below hb Xb4.lt
                replace Xb22 := Xb22.below hb Xb22.lt
                replace C4 := C4.up hb
                replace C22 := C22.up hb
                clear hb
                clear Bw30
                go_wp2
                go_ret
                exact ⟨by simp, Bw31⟩

theorem met (os : Os) (args : Array Value) : laidMet Tryz.prog Rows.fnBatchesRow.laid ((World.laidAll Tryz.prog os Rows.fnBatchesRow.laid).forCall (fun _ _ => 0) ⟨#[], args, []⟩).memory :=
  laidMet_laidAll _ (by as_aux_lemma => kernel_rfl) (by as_aux_lemma => kernel_rfl)
theorem plainly (w : World) : laidMetH Tryz.prog Rows.fnBatchesRow.laid w = laidMet Tryz.prog Rows.fnBatchesRow.laid w := MakeChecks.laidMetH_plain _ _ _ (by as_aux_lemma => kernel_rfl)
set_option maxRecDepth 100000 in
theorem lifted (os : Os) (started : os.Started) (H : Type) (enc : TypeId × Value → H) (F : Stop.Interp) :
    ReturnsInHanded {} Tryz.checked os 4 .any ((OpenSpec.ofChange Rows.fnBatchesSpec).preRow enc Tryz.prog Tryz.f4 Rows.fnBatchesRow.domain false Rows.fnBatchesRow.laid) (((OpenSpec.ofChange Rows.fnBatchesSpec).at F).post enc Tryz.prog Tryz.f4 false true false false) := by
  refine returnsInHanded_of_row (C := Tryz.checked) (s := OpenSpec.ofChange Rows.fnBatchesSpec) own started (by as_aux_lemma => kernel_rfl) Tryz.func4
    (ChangeSpec.witness_shaped (enc := enc) (C := Tryz.checked) (os := os) (X := fun w _ => laidMetH Tryz.prog Rows.fnBatchesRow.laid w) false (World.laidAll Tryz.prog os Rows.fnBatchesRow.laid) #[.slice none 0 0] 8 (World.laidAll_os _ _ _) (World.shaped_of_ZipB (by as_aux_lemma => kernel_rfl) (by as_aux_lemma => kernel_rfl)) (by as_aux_lemma => kernel_rfl) (by as_aux_lemma => kernel_rfl) (by as_aux_lemma => kernel_rfl) (by rw [plainly]; exact met os _)) ?_
  intro W base args ds gs before hval0 hW _ _ _ hL0 hS _
  have hL : laidMetH Tryz.prog Rows.fnBatchesRow.laid W := hL0
  rw [plainly] at hL
  have hval : ∀ (j : Nat) t v, Tryz.f4.params[j]? = some t → args[j]? = some v → Value.okWide Tryz.prog W .any base t v := hval0
  have hW' := hW
  obtain ⟨p, q, hA0, hV, rfl, hfz, hnd⟩ := hW
  have hA : DataW.TrodAll enc Tryz.prog W 0 (fun _ => true) true Tryz.f4.params.toList args.toList ds p := hA0
  rw [Tryz.params4] at hA hval
  obtain ⟨v0, vs0, d0, ds0, p0, q0, hargs, rfl, rfl, h0, r0⟩ := trodAll_cons hA
  obtain ⟨rfl, rfl, rfl⟩ := trodAll_nil r0
  obtain rfl : args = #[v0] := by cases args; simp_all
  obtain ⟨rfl, rfl⟩ := trodVars_none hV
  have k0 := h0
  have lt0 : ∀ x ∈ p0, x.block < W.heap.size := by obtain ⟨m, hm⟩ := k0; exact DataW.trod_lt m _ _ _ hm
  have g0 := argBytes (hval 0 22 v0 rfl rfl) h0
  clear hA0 hval0
  refine (walk W hS hL v0 g0).mono fun e W' ⟨he, bel⟩ => ?_
  subst he
  exact ⟨_, rfl, _, _, _, [], _, [], hW', trodAll_mk1 (shut_bool Tryz.underlying4 _), (trodAll_cons_mk (Below.trod laidOut (by as_aux_lemma => kernel_rfl) (of_decide_eq_true (by as_aux_lemma => kernel_rfl)) k0 bel lt0) trodAll_mk0), rfl, bel.frame _, fun h => by cases h⟩

set_option maxHeartbeats 8000000 in
theorem closed : joinedFacts Tryz.prog 4 Tryz.f4 Rows.fnBatchesSpec Rows.fnBatchesRow = true := by
  unfold joinedFacts
  simp only [Bool.and_eq_true]
  repeat' apply And.intro
  all_goals first | with_reducible exact frMay | with_reducible exact frLifts _ rfl | with_reducible exact frMake _ rfl | (as_aux_lemma => kernel_rfl)
set_option maxRecDepth 100000 in
set_option maxHeartbeats 1000000 in
theorem over : Rows.fnBatchesRow.holds Tryz.pinned (OpenSpec.ofChange Rows.fnBatchesSpec) :=
  OpenClaim.holds_of_cond 4 Tryz.f4 rfl rfl rfl rfl rfl rfl rfl ⟨rfl, rfl, rfl, rfl, rfl⟩ rfl rfl rfl rfl rfl (by as_aux_lemma => kernel_rfl) Tryz.func4 closed
    (of_decide_eq_true (by as_aux_lemma => kernel_rfl)) (by unfold Func.isWrapper; first | (rw [if_pos (by decide +kernel)]; kernel_rfl) | (rw [if_neg (by decide +kernel)]; exact ⟨rfl, rfl⟩))
    (fun os started H enc _ F => by rw [OpenClaim.pre_eq_preRow]; exact lifted os started H enc F)

theorem plain (f : FuncId) (fn : Func) (hf : Tryz.pinned.checked.prog.funcNamed "loop.example/g01922/laws.FnBatches" = some f) (hfn : Tryz.pinned.checked.prog.funcs[f]? = some fn) :
    true = Tryz.pinned.checked.prog.looks [] ∧ ∀ (j : Nat) t, fn.params[j]? = some t → Tryz.pinned.checked.prog.wantsStandIn t = false := by
  obtain rfl : f = 4 := Option.some.inj ((show Tryz.prog.funcNamed "loop.example/g01922/laws.FnBatches" = some 4 by kernel_rfl).symm.trans hf) |>.symm
  obtain rfl : fn = Tryz.f4 := (Option.some.inj (Tryz.func4.symm.trans hfn)).symm
  refine ⟨by kernel_rfl, fun j t ht => ?_⟩
  rw [Tryz.params4] at ht
  have hm : t ∈ [22] := by simpa using Array.mem_of_getElem? ht
  have hall : ([22].all fun u => !Tryz.prog.wantsStandIn u) = true := by kernel_rfl
  exact (show Tryz.prog.wantsStandIn t = false by simpa using List.all_eq_true.1 hall t hm)

theorem proved : Rows.FnBatchesCardSaid :=
  Claim7.holds_tied_plain_at .later [] _ _ _ _ over (fun _ h => by cases h) (by as_aux_lemma => kernel_rfl) (fun _ h => by cases h) fnBatches_row_tie rfl ⟨rfl, rfl⟩ (by as_aux_lemma => kernel_rfl) rfl plain (by as_aux_lemma => kernel_rfl)
end Go.Proofs.YtomkgnamjfiocaaGreatDoor.fnBatches
